import Derived.Test.YtoihjjgkpialoaaGreatDoorCards
import Derived.Test.YtoihjjgkpialoaaGreatDoorTie
import Derived.ProofKit
import Derived.Deep.DeepHandedRow
import Derived.LaidLaws
import Derived.Test.YtoihjjgkpialoaaGreatDoorAsZF2
set_option linter.unusedSectionVars false
set_option linter.unusedVariables false
set_option linter.unusedSimpArgs false
section
namespace Go.As.Try
open Go Go.As Go.Proofs Go.RowKit
set_option maxRecDepth 100000
def maxLen:Nat:=Tryz.laysM144_ren.g 1
def base:PN where
 ok ro h:=ro maxLen/\∃m,mz h maxLen 0=some (.int .i64 m)
 dv:=by intro ro oX h h' hk U Z;obtain⟨a,m,hm⟩:=hk;refine⟨U _ a,m,?_⟩;unfold mz at *;rw [Z _ a];exact hm
noncomputable def tt0:TT:=JP 281 tab
noncomputable def ft:Nat->Option Func:=JP 251 LY
def am7:List (Nat×Nat):=[(22,3),(23,4),(26,0),(27,7),(28,8),(36,9),(45,2),(46,5),(51,6),(58,0),(190,14),(240,14),(133,1),(195,0),(231,1)]
noncomputable def ttE:TT:=N3 am7 tt0
noncomputable def hints:Nat->Nat->Option B1:=hAt anL
theorem FD:fj Tryz.prog tt0:=ade ZB
theorem ZC:fj Tryz.prog ttE:=adS FD
theorem VF:Yy Tryz.prog (MS tt0 hints) ft:=aem OP aai
theorem akE:Yy Tryz.prog (MS ttE hints) ft:=by unfold ttE; rw [acB]; exact VF
def b (n:Nat):AV:=.int .u8 (.lit (.ofNat n))
def HQ:AV:=.agg [b 0,b 0,b 0,b 0,b 0,b 0,b 0,b 0,b 0,b 1,b 1,b 0,b 0,b 1,b 0,b 0,b 0,b 0,b 0,b 0,b 0,b 0,b 0,b 0,b 0,b 0,b 0,b 0,b 0,b 0,b 0,b 0,b 1,b 0,b 0,b 2,b 0,b 0,b 0,b 0,b 5,b 5,b 5,b 5,b 0,b 5,b 0,b 0,b 3,b 3,b 3,b 3,b 3,b 3,b 3,b 3,b 3,b 3,b 0,b 5,b 5,b 5,b 0,b 0,b 0,b 4,b 4,b 4,b 4,b 4,b 4,b 4,b 4,b 4,b 4,b 4,b 4,b 4,b 4,b 4,b 4,b 4,b 4,b 4,b 4,b 4,b 4,b 4,b 4,b 4,b 4,b 0,b 0,b 0,b 0,b 4,b 0,b 4,b 4,b 4,b 4,b 4,b 4,b 4,b 4,b 4,b 4,b 4,b 4,b 4,b 4,b 4,b 4,b 4,b 4,b 4,b 4,b 4,b 4,b 4,b 4,b 4,b 4,b 5,b 0,b 5,b 0,b 0,b 0,b 0,b 0,b 0,b 0,b 0,b 0,b 0,b 0,b 0,b 0,b 0,b 0,b 0,b 0,b 0,b 0,b 0,b 0,b 0,b 0,b 0,b 0,b 0,b 0,b 0,b 0,b 0,b 0,b 0,b 0,b 0,b 0,b 0,b 0,b 0,b 0,b 0,b 0,b 0,b 0,b 0,b 0,b 0,b 0,b 0,b 0,b 0,b 0,b 0,b 0,b 0,b 0,b 0,b 0,b 0,b 0,b 0,b 0,b 0,b 0,b 0,b 0,b 0,b 0,b 0,b 0,b 0,b 0,b 0,b 0,b 0,b 0,b 0,b 0,b 0,b 0,b 0,b 0,b 0,b 0,b 0,b 0,b 0,b 0,b 0,b 0,b 0,b 0,b 0,b 0,b 0,b 0,b 0,b 0,b 0,b 0,b 0,b 0,b 0,b 0,b 0,b 0,b 0,b 0,b 0,b 0,b 0,b 0,b 0,b 0,b 0,b 0,b 0,b 0,b 0,b 0,b 0,b 0,b 0,b 0,b 0,b 0,b 0,b 0,b 0,b 0,b 0]
theorem ze {g:Nat} {f:Func} (h:LY.get g=some f) (hg:g<251):Tryz.prog.funcs[g]?=some f:=by have:=congrArg (fun l=>l[g]?) OP;simp only [bk,asx hg,arB,ah] at this;rw [<- this];exact h
theorem ajC {g:Nat} {f:Func} (hf:Tryz.prog.funcs[g]?=some f) (hn:(f.name == "runtime.NumGoroutine")=false) (hb:f.body.isNone=false): ∀(args:Array Value) (w:World),(callFunc g args).run Tryz.prog w= .ok (.enter g args) w:=by intro args w;unfold callFunc;simp only [Sem.run_bind,run_program,Result.andThen_ok,hf];rw [hn,hb];simp
def Vw (g:Nat):Option (List AV->St->T (AV×St)):=
 match Nat.beq g 191 with
 |true=>some uN
 |false=>match Nat.beq g 217 with
  |true=>some uM
  |false=>match Nat.beq g 134 with
   |true=>some pf
   |false=>none
theorem ajF:Tryz.laysM144_ren.f 144=134:=aa
section
variable (I:bS) (hI: ∀ρ ro h,I.ok ρ ro h->base.ok ro h)
theorem f191:@lr I Tryz.prog 191 uN:=@X8 _ I 191 Tryz.f191 (ze aa ae) aa aa aa aa
theorem f217:@lr I Tryz.prog 217 uM:=@XC _ I 217 Tryz.f217 (ze aa ae) aa aa aa aa
include hI in
theorem f134:@lr I Tryz.prog 134 pf:=by letI:=I;refine MO ?_ (ajC (f:=Tryz.f134) (ze aa ae) aa aa);intro ρ ro w hw s sub hs;obtain⟨_,m,hm⟩:=hI _ _ _ hw;have:=Any.strings_Contains { Tryz.laysM144 with } s sub m w hs (by rw [pZ]; exact hm);rw [ajF] at this;exact this
include hI in
theorem OF: ∀(g:Nat) (h:List AV->St->T (AV×St)),Vw g=some h->@lr I Tryz.prog g h:=by
 intro g h hh;unfold Vw at hh;split at hh
 ·rename_i hg;have:=az hg;subst this;simp at hh;subst hh;exact f191 I
 ·split at hh
  ·rename_i hg;have:=az hg;subst this;simp at hh;subst hh;exact f217 I
  ·split at hh
   ·rename_i hg;have:=az hg;subst this;simp at hh;subst hh;exact f134 I hI
   ·simp at hh
end
noncomputable def amV (g:Nat):List AV->St->T (AV×St):=Me tt0 ft Vw (Kp tt0 hints) 100000 60 g
theorem adH (I:bS) (hI: ∀ρ ro h,I.ok ρ ro h->base.ok ro h) (g:Nat):@lr I Tryz.prog g (amV g):=@BB _ I _ FD _ _ VF _ (OF I hI) _ (fun _ hc=>@BH _ I _ FD mixed _ _ hc) 100000 60 g
theorem Pw:JZ [] HQ (amV 129)=true:=aa
theorem vo {f:Func} (h:f.body.isSome=true): ∃c,f.body=some c:=ar0.1 h
theorem TJ (I:bS) (hI: ∀ρ ro h,I.ok ρ ro h->base.ok ro h):@lr I Tryz.prog 129 (Iv [] HQ):=by letI:=I;obtain⟨c,hb⟩:=vo (f:=Tryz.f129) aa;exact Fc (adH I hI 129) (fn:=Tryz.f129) (ze aa ae) aa hb Pw
def OE (g:Nat):Option (List AV->St->T (AV×St)):=
 match Nat.beq g 129 with
 |true=>some (Iv [] HQ)
 |false=>Vw g
theorem GU (I:bS) (hI: ∀ρ ro h,I.ok ρ ro h->base.ok ro h): ∀(g:Nat) (h:List AV->St->T (AV×St)),OE g=some h->@lr I Tryz.prog g h:=by
 intro g h hh;unfold OE at hh;split at hh
 ·rename_i hg;have:=az hg;subst this;simp at hh;subst hh;exact TJ I hI
 ·exact OF I hI g h hh
noncomputable def F0 (g:Nat):List AV->St->T (AV×St):=Me tt0 ft OE (Kp tt0 hints) 100000 60 g
theorem ss (I:bS) (hI: ∀ρ ro h,I.ok ρ ro h->base.ok ro h) (g:Nat):@lr I Tryz.prog g (F0 g):=@BB _ I _ FD _ _ VF _ (GU I hI) _ (fun _ hc=>@BH _ I _ FD mixed _ _ hc) 100000 60 g
def EW:List Nat:=[109,117,116,101,120,32,109,59,32,116,104,114,101,97,100,32,97,32,123,32,108,111,99,107,32,109,59,32,117,110,108,111,99,107,32,109,59,32,125,32,116,104,114,101,97,100,32,98,32,123,32,108,111,99,107,32,109,59,32,117,110,108,111,99,107,32,109,59,32,125]
def Cg:List Nat:=[109,117,116,101,120,32,109,59,32,109,117,116,101,120,32,110,59,32,116,104,114,101,97,100,32,97,32,123,32,108,111,99,107,32,109,59,32,108,111,99,107,32,110,59,32,125,32,116,104,114,101,97,100,32,98,32,123,32,108,111,99,107,32,110,59,32,108,111,99,107,32,109,59,32,125]
abbrev wN (t:List Nat) (n:Int):List AV:=[.str t,.int .i64 (.lit n)]
abbrev wV (k:Int) (s:List Nat) (a b c d:Int):AV:=.tuple [.agg [.int .u8 (.lit k),.str s,.int .i64 (.lit a),.int .i64 (.lit b),.int .i64 (.lit c),.int .i64 (.lit d)],.agg [.int .i64 (.lit 0),.int .i64 (.lit 0)]]
theorem ajT:JZ [.str [97]] (.bool (.lit true)) (F0 100)=true:=aa
theorem ajS:JZ [.str [98]] (.bool (.lit true)) (F0 100)=true:=aa
def U7:List (List AV×AV):=[(wN EW 0,wV 3 [109,117,116,101,120] 0 1 0 5),(wN EW 5,wV 2 [109] 0 1 6 7),(wN EW 7,wV 4 [59] 0 1 7 8),(wN EW 8,wV 3 [116,104,114,101,97,100] 0 1 9 15),(wN EW 15,wV 2 [97] 0 1 16 17),(wN EW 17,wV 4 [123] 0 1 18 19),(wN EW 19,wV 3 [108,111,99,107] 0 1 20 24),(wN EW 24,wV 2 [109] 0 1 25 26),(wN EW 26,wV 4 [59] 0 1 26 27),(wN EW 27,wV 3 [117,110,108,111,99,107] 0 1 28 34),(wN EW 34,wV 2 [109] 0 1 35 36),(wN EW 36,wV 4 [59] 0 1 36 37),(wN EW 37,wV 4 [125] 0 1 38 39),(wN EW 39,wV 3 [116,104,114,101,97,100] 0 1 40 46),(wN EW 46,wV 2 [98] 0 1 47 48),(wN EW 48,wV 4 [123] 0 1 49 50),(wN EW 50,wV 3 [108,111,99,107] 0 1 51 55),(wN EW 55,wV 2 [109] 0 1 56 57),(wN EW 57,wV 4 [59] 0 1 57 58),(wN EW 58,wV 3 [117,110,108,111,99,107] 0 1 59 65),(wN EW 65,wV 2 [109] 0 1 66 67),(wN EW 67,wV 4 [59] 0 1 67 68),(wN EW 68,wV 4 [125] 0 1 69 70),(wN EW 70,wV 5 [] 0 1 70 70),(wN Cg 0,wV 3 [109,117,116,101,120] 0 1 0 5),(wN Cg 5,wV 2 [109] 0 1 6 7),(wN Cg 7,wV 4 [59] 0 1 7 8),(wN Cg 8,wV 3 [109,117,116,101,120] 0 1 9 14),(wN Cg 14,wV 2 [110] 0 1 15 16),(wN Cg 16,wV 4 [59] 0 1 16 17),(wN Cg 17,wV 3 [116,104,114,101,97,100] 0 1 18 24),(wN Cg 24,wV 2 [97] 0 1 25 26),(wN Cg 26,wV 4 [123] 0 1 27 28),(wN Cg 28,wV 3 [108,111,99,107] 0 1 29 33),(wN Cg 33,wV 2 [109] 0 1 34 35),(wN Cg 35,wV 4 [59] 0 1 35 36),(wN Cg 36,wV 3 [108,111,99,107] 0 1 37 41),(wN Cg 41,wV 2 [110] 0 1 42 43),(wN Cg 43,wV 4 [59] 0 1 43 44),(wN Cg 44,wV 4 [125] 0 1 45 46),(wN Cg 46,wV 3 [116,104,114,101,97,100] 0 1 47 53),(wN Cg 53,wV 2 [98] 0 1 54 55),(wN Cg 55,wV 4 [123] 0 1 56 57),(wN Cg 57,wV 3 [108,111,99,107] 0 1 58 62),(wN Cg 62,wV 2 [110] 0 1 63 64),(wN Cg 64,wV 4 [59] 0 1 64 65),(wN Cg 65,wV 3 [108,111,99,107] 0 1 66 70),(wN Cg 70,wV 2 [109] 0 1 71 72),(wN Cg 72,wV 4 [59] 0 1 72 73),(wN Cg 73,wV 4 [125] 0 1 74 75),(wN Cg 75,wV 5 [] 0 1 75 75)]
theorem apV:U7.all (fun p=>zZ p.1 p.2 (F0 91))=true:=aa
def Vd:List AV:=[.agg [.ro [.int .u8 (.lit 1),.str [109],.int .i64 (.lit 0),.str [],.int .i64 (.lit 1)] 1 false,.ro [.str [97],.ro [.int .u8 (.lit 1),.int .u8 (.lit 1),.str [109],.str [],.int .i64 (.lit 0),.fA,.fA,.fA,.int .i64 (.lit 1),.int .u8 (.lit 1),.int .u8 (.lit 2),.str [109],.str [],.int .i64 (.lit 0),.fA,.fA,.fA,.int .i64 (.lit 1)] 2 false,.int .i64 (.lit 1),.str [98],.ro [.int .u8 (.lit 1),.int .u8 (.lit 1),.str [109],.str [],.int .i64 (.lit 0),.fA,.fA,.fA,.int .i64 (.lit 1),.int .u8 (.lit 1),.int .u8 (.lit 2),.str [109],.str [],.int .i64 (.lit 0),.fA,.fA,.fA,.int .i64 (.lit 1)] 2 false,.int .i64 (.lit 1)] 2 false]]
theorem anw:zZ Vd (.agg [.int .i64 (.lit 0),.int .i64 (.lit 0)]) (F0 63)=true:=aa
def Vb:List AV:=[.agg [.ro [.int .u8 (.lit 1),.str [109],.int .i64 (.lit 0),.str [],.int .i64 (.lit 1),.int .u8 (.lit 1),.str [110],.int .i64 (.lit 0),.str [],.int .i64 (.lit 1)] 2 false,.ro [.str [97],.ro [.int .u8 (.lit 1),.int .u8 (.lit 1),.str [109],.str [],.int .i64 (.lit 0),.fA,.fA,.fA,.int .i64 (.lit 1),.int .u8 (.lit 1),.int .u8 (.lit 1),.str [110],.str [],.int .i64 (.lit 0),.fA,.fA,.fA,.int .i64 (.lit 1)] 2 false,.int .i64 (.lit 1),.str [98],.ro [.int .u8 (.lit 1),.int .u8 (.lit 1),.str [110],.str [],.int .i64 (.lit 0),.fA,.fA,.fA,.int .i64 (.lit 1),.int .u8 (.lit 1),.int .u8 (.lit 1),.str [109],.str [],.int .i64 (.lit 0),.fA,.fA,.fA,.int .i64 (.lit 1)] 2 false,.int .i64 (.lit 1)] 2 false]]
theorem anv:zZ Vb (.agg [.int .i64 (.lit 0),.int .i64 (.lit 0)]) (F0 63)=true:=aa
def U8:List (List AV×AV):=[(Vd,.agg [.int .i64 (.lit 0),.int .i64 (.lit 0)]),(Vb,.agg [.int .i64 (.lit 0),.int .i64 (.lit 0)])]
def Vf:List AV:=[.agg [.ro [.int .u8 (.lit 1),.str [109],.int .i64 (.lit 0),.str [],.int .i64 (.lit 1)] 1 false,.ro [.str [97],.fA,.ro [.int .u8 (.lit 1),.int .u8 (.lit 1),.int .i64 (.lit 0),.int .i64 (.lit (-1)),.int .i64 (.lit 0),.int .i64 (.lit 0),.fA,.int .u8 (.lit 1),.int .u8 (.lit 2),.int .i64 (.lit 0),.int .i64 (.lit (-1)),.int .i64 (.lit 0),.int .i64 (.lit 0),.fA] 2 false,.str [98],.fA,.ro [.int .u8 (.lit 1),.int .u8 (.lit 1),.int .i64 (.lit 0),.int .i64 (.lit (-1)),.int .i64 (.lit 0),.int .i64 (.lit 0),.fA,.int .u8 (.lit 1),.int .u8 (.lit 2),.int .i64 (.lit 0),.int .i64 (.lit (-1)),.int .i64 (.lit 0),.int .i64 (.lit 0),.fA] 2 false] 2 false]]
theorem anz:zZ Vf (.int .i64 (.lit 0)) (F0 37)=true:=aa
def Ve:List AV:=[.agg [.ro [.int .u8 (.lit 1),.str [109],.int .i64 (.lit 0),.str [],.int .i64 (.lit 1),.int .u8 (.lit 1),.str [110],.int .i64 (.lit 0),.str [],.int .i64 (.lit 1)] 2 false,.ro [.str [97],.fA,.ro [.int .u8 (.lit 1),.int .u8 (.lit 1),.int .i64 (.lit 0),.int .i64 (.lit (-1)),.int .i64 (.lit 0),.int .i64 (.lit 0),.fA,.int .u8 (.lit 1),.int .u8 (.lit 1),.int .i64 (.lit 1),.int .i64 (.lit (-1)),.int .i64 (.lit 0),.int .i64 (.lit 0),.fA] 2 false,.str [98],.fA,.ro [.int .u8 (.lit 1),.int .u8 (.lit 1),.int .i64 (.lit 1),.int .i64 (.lit (-1)),.int .i64 (.lit 0),.int .i64 (.lit 0),.fA,.int .u8 (.lit 1),.int .u8 (.lit 1),.int .i64 (.lit 0),.int .i64 (.lit (-1)),.int .i64 (.lit 0),.int .i64 (.lit 0),.fA] 2 false] 2 false]]
theorem anx:zZ Ve (.int .i64 (.lit 0)) (F0 37)=true:=aa
def U9:List (List AV×AV):=[(Vf,.int .i64 (.lit 0)),(Ve,.int .i64 (.lit 0))]
noncomputable def V_ (g:Nat):Option (List AV->St->T (AV×St)):=
 match Nat.beq g 91 with
 |true=>some (orElse (Oh U7) (F0 91))
 |false=>match Nat.beq g 63 with
 |true=>some (orElse (Oh U8) (F0 63))
 |false=>match Nat.beq g 37 with
 |true=>some (orElse (Oh U9) (F0 37))
 |false=>OE g
theorem U? (I:bS) (hI: ∀ρ ro h,I.ok ρ ro h->base.ok ro h): ∀(g:Nat) (h:List AV->St->T (AV×St)),V_ g=some h->@lr I Tryz.prog g h:=by
 intro g h hh;letI:=I;unfold V_ at hh;split at hh
 ·rename_i hg;have:=az hg;subst this;simp only [ah] at hh;subst hh;obtain⟨c,hb⟩:=vo (f:=Tryz.f91) aa;refine tG (Gz (ss I hI 91) (fn:=Tryz.f91) (ze aa ae) aa hb fun p hp=>?_) (ss I hI 91);exact aP.1 apV p hp
 ·skip;split at hh
  ·rename_i hg;have:=az hg;subst this;simp only [ah] at hh;subst hh;obtain⟨c,hb⟩:=vo (f:=Tryz.f63) aa;refine tG (Gz (ss I hI 63) (fn:=Tryz.f63) (ze aa ae) aa hb fun p hp=>?_) (ss I hI 63);simp only [U8,aH,arN,or_false] at hp;rcases hp with rfl|rfl
   ·exact anw
   ·exact anv
  ·skip;split at hh
   ·rename_i hg;have:=az hg;subst this;simp only [ah] at hh;subst hh;obtain⟨c,hb⟩:=vo (f:=Tryz.f37) aa;refine tG (Gz (ss I hI 37) (fn:=Tryz.f37) (ze aa ae) aa hb fun p hp=>?_) (ss I hI 37);simp only [U9,aH,arN,or_false] at hp;rcases hp with rfl|rfl
    ·exact anz
    ·exact anx
   ·skip;exact GU I hI g h hh
noncomputable def amU (g:Nat):List AV->St->T (AV×St):=Me tt0 ft V_ (Kp tt0 hints) 100000 60 g
theorem adG (I:bS) (hI: ∀ρ ro h,I.ok ρ ro h->base.ok ro h) (g:Nat):@lr I Tryz.prog g (amU g):=@BB _ I _ FD _ _ VF _ (U? I hI) _ (fun _ hc=>@BH _ I _ FD mixed _ _ hc) 100000 60 g
theorem TQ:JZ [] (.bool (.lit true)) (amU 6)=true:=aa
section
variable (I:bS) (hI: ∀ρ ro h,I.ok ρ ro h->base.ok ro h)
include hI
theorem Xr:@lr I Tryz.prog 100 (Iv [.str [97]] (.bool (.lit true))):=by letI:=I;obtain⟨c,hb⟩:=vo (f:=Tryz.f100) aa;exact Fc (ss I hI 100) (fn:=Tryz.f100) (ze aa ae) aa hb ajT
theorem Xq:@lr I Tryz.prog 100 (Iv [.str [98]] (.bool (.lit true))):=by letI:=I;obtain⟨c,hb⟩:=vo (f:=Tryz.f100) aa;exact Fc (ss I hI 100) (fn:=Tryz.f100) (ze aa ae) aa hb ajS
theorem Yd:@lr I Tryz.prog 6 (Iv [] (.bool (.lit true))):=by letI:=I;obtain⟨c,hb⟩:=vo (f:=Tryz.f6) aa;exact Fc (adG I hI 6) (fn:=Tryz.f6) (ze aa ae) aa hb TQ
end
def Sp (g:Nat):Option (List AV->St->T (AV×St)):=
 match Nat.beq g 6 with
  |true=>some (Iv [] (.bool (.lit true)))
  |false=>match Nat.beq g 100 with
  |true=>some (orElse (Iv [.str [97]] (.bool (.lit true))) (Iv [.str [98]] (.bool (.lit true))))
  |false=>OE g
theorem XF (I:bS) (hI: ∀ρ ro h,I.ok ρ ro h->base.ok ro h): ∀(g:Nat) (h:List AV->St->T (AV×St)),Sp g=some h->@lr I Tryz.prog g h:=by
 intro g h hh;unfold Sp at hh;split at hh
 ·rename_i hg;have:=az hg;subst this;simp at hh;subst hh;exact Yd I hI
 ·skip;split at hh
  ·rename_i hg;have:=az hg;subst this;simp at hh;subst hh;letI:=I;exact tG (Xr I hI) (Xq I hI)
  ·exact GU I hI g h hh
end Go.As.Try
end
section
namespace Go.As.Try
open Go hiding Stat Spec shape
open Go.As Go.Proofs
set_option maxRecDepth 100000
def amg:List fR:=gr _ (ik "5v_YXKoJghftW2lcM0BKhVfaGgannEudiLTcCRf5sGwDke_XbwyRSBWkLp1Wt7pFzO_EqC346WeVzkb4G9r0OYyYbqCuMo7U3OawwTjWBoaNSzv049yjvqoJ0yo8NNK0L9msjdU2KkEyrt8huZn8ADEb49mVXyd81pBjBSxqLwTp53hqZAEXD_EtBeK8C5matclnKaiaZqpyPP30eygSufit5x3u6P5ELr0m7ZkftpWnCoRS0z0neFq_EtuJjDrObJi" 74 7)
def amf:List fR:=gr _ (ik "65eFQoyc0OZGi4ah8kvCvgmYbpLYDnA8qAbclpRHnhm5Zj_crdeoubQtx2Qv2YXdP_voEtjcVmYsshsAr6fipCaCxgw6WeHzFNWrCbAYZXB7J7P_dziWPzQ825KofGcwQFExSrwN63qcoQr6Vzu2NSPsl8SWTanU1JTYJzEge4GviklftTlXuGsPPwNVUYx2chEUSNTCOjjzOV1ztigv_3UKoAtO7jOc5kbJyueag4xTnNoXuWL4fwXEYsjTxfAPLYf3wsTlPSegj7GaUZTW00YVLCQ_s74Bk9btOEYvzvMJ48evJr" 74 10)
def ame:List fR:=gr _ (ik "_tOlE9H_ofGujVX2BQ0Y5bMauKQAjTH9MujbL9BYt5qLmtFbQE5wnnZAw37Bzmh9W9y26QrVjO5ONonW3HV8cxZXGjj6O3MA7yip1ZxoKDAWtqdJgX3XtFba45uA4sDbumuLky_vLpcSrC6MwqoAlpRTl7WmJq2S4Yn9okBUon3wmQOAMuR5J5zfc_pbtCZZ0eMzEty4S8oTXgmNSCciDJj60Vnc0XM74MiJf2pSa8LWmSOf1nlxxJrb6_GSfqE__3hVWXY9dBxpCcGjjBZfW6yoSxKEQ3WTvlbwYNwEdEwOjTMJdgFky6GjzG4rgVKcHFa5laZJnbc6odC" 74 13)
def amd:List fR:=gr _ (ik "BOuSQbSA4cx2W1LnZPMkwegpkyByG99erOuuALAtjFhCHDFcf3xqCDn2ETaB9t2Yl8PJRrkmN59cq_OQx8CEz0lbyje3BakN9SvvRfBhFGPstPqOjyyxfiW3buDEHku2PQFDiXXqfQz6U996QfvjmxsFLMRO0YjXniaZPmqV_BgoDLTh29jTCZv_QS9pT5RKxABhTKRAcGuyARVXcFBYcdRHRJkn0d0NQauMkVfE9EH0jfnp3TdaYA9AsmG6jLxo97n41AlXwHC2_deriUezV4DmyVNwzTSe3vmnrEXlyBy4eoK5nl3ZElvslplrndwGZ8S" 74 11)
def amc:List fR:=gr _ (ik "8BQOvn8sSBif8ZZKVR26UfrLfO39lJDcrHlgRDiAR9lGb_QpUTJBxubhoD23HtuMBNYGLmaacdyQ8SykFdH4cMaBxgul9pbLnUEMeqynvOGWGjZxbiflTTjx7XMbghj9ebfe8wGxAEb56fCzpE8xrnREcpLV_ZMjzdlpnHF1hcDoJvdRj1nc6xKosEfgtQ_zLghxCbXiHPzVoMLHwl35OViAbpxS7lG5zttsWfH2OarwKPOVwQb2Ybdl2UggT_iF6aEuFJvkZYy995CXmJd33aDx1C2mvauiu2ai7mXKs1Y3Z2rmc1sDQYjuaiSfRLx63eHqfztYbv_JjknEW" 74 1)
def amb:List fR:=gr _ (ik "WqtKu32OOeDyv8XWUfcG5rE13ZmVjheWnm00MrCXh9vBdEA3woJiZrJGyHqlHBP6EG1Zeb0pZVZYFeOJma3bSlvT9VQ1htZUzcUlPKbcnWJ2EMOFRNPGyYU3urUJ7PHMcK2OWhDMXCszibjUkdwoae3AN4z5DNfiAYU8lB8Zl7XD4yFqDK2bYVFDT1JknKDY8rniykOwyXThbiqdurMJfOi8BfTHglsqhOPUKS0wYQTKcovbETTWH59cbX" 74 6)
def ama:List fR:=gr _ (ik "5OtRNcW8Ct7URLYrHxnemgDQWfuiyPgd1q5ajMgMDcDkUuBTZ0zjQFEfJnSsnHw4EcixdJxSPYSikDDbnL4PmN5sQTm801qmnj3DMonWvakUrr5O2JRq3KaMzb6VHw8aZawwDq_1AorlJeLmBeCMM9sjqc8V5sp1OA3su3Q6PbvuDPUFgOiUw591gubfvoq4fzaAEMOLVXEeQFNeWKf5kqgZPdFjOS0lVL5evNoldPFAtnWzxH5ZlPkYZU8oOjDu3XShTQ4_0" 74 13)
def al9:List fR:=gr _ (ik "1fzAye3nWstdkO56oWl_YN00SOakFrauPgfNdA0UtJ4qwA6pbCjAXbGopwJQtbNCRUUCMgJGWGR76ydyttqxgFWhAlioAHhU2HrS7bc" 74 2)
def al8:List fR:=gr _ (ik "Ogx88Lo_v5XY5RLac__cCLADJ4H3ZcUJtouVGvrtSJixXnuxhVhJghkjpGSWNKtjb_3AA50l4d7yXyNACOE3QcxFdZQvqOM_qYpW77Se1O1AbWZj3WXo8HPU7O69S0Tv5O8a_cTqu7t4BLvJCumCryfg2_ybZ1mV3Ekx0ymaMdQO16mAZiH9X5RGxaL9bX0KAujoBJOJtAY0S4GiPOuxoc0VXED6W671G8rPcsUOi2iSVLE7RR4U9MtGZV2vpoANnYVqcfFFnFJLqrl1NF8SuVB5tzCoz2GoLRB8HZWHkB0TcYdBLKaUtqxPhBMEmEZOnArcYXA9Me0Lh5AWUPwRntheUySs" 74 4)
def al7:List fR:=gr _ (ik "On8C7dbJmJ7R4oLuXmMwVwveUbMnoxc7Y6WUKqfJeTWyveKDGEy1LgldkuGeJkDU75xfG8B4wV5f024TXAOxfk_hNk4mlAbp0Dx5mCxpTN5YuSngjN0KYS9KETsasnDPaG3ke6ov_1F1srrAJZiNzLlwoCbiU1olB956VDTGbA7KrnpOxwtM0G8BThEKqL7ddBFucLOHqNQZkp_dwFjufVTyZCzUeEdsgyT61Une1ce5VnDr8pTHCLVzbNBaHDCGxz7Bnj4Xt7K3LrV6zAqlZuK2XOcm_lR9cWasMYgxib7Tdi60CwpwH0oWln" 74 7)
def aiG:List fR:=gr _ (ik "15srGEOavdk5XRRRPKngGkUqH8Na0n2Pp2ZUhLraVJvffzf_bFyaYc6WMiaVP_qE4dxMFfokYN1sewf5Eu_Akr125M_1gH6TRiVMgr2kTemWkfE4mYuMYZtOM9MF1Oxst892dOkdjlvcVEnynP04gM0urA6TY4tS4dpfjnZrrrDsah0oDTEsL1Oarumowk1tixwWmn2fCOGv6KJeWPj7Cg13N7QbEi6Zva8N83XP4Wqava0ODy0O82B844TborcdkrpBpQYVnmRcHTLM8oyrD" 74 6)
def aiF:List fR:=gr _ (ik "1Cp4CgmqYBVoP6z7lMuhnpRoi6UtHoJW3ylPEAK8TDPvKT_BAyEs1VO9XEqyuShMMVRAi2VXRT8UBq7pNzuNFVYlFbLtmSm2XMLS3H34wTRn6iRVhCd93vbYVB970X6ZO0Mbk_EYbiVsOUTkJQ8tRprvXLRfNyphOBEWB9u32On6pDwBr1pJwXzH4W3Essg4aV779Fppaozt9xzx5S9GF6" 74 1)
def aiE:List fR:=gr _ (ik "pP_lgJHDXSMZs7QhmJDXcifFXq1wbxu57R8eQrXina5JNhknXallhz82a0QykiwFP3r26cC0nhfe_dXvC5fFH9i4R60KKAlJ2VC2BQMeLWJuMgVCD7PjbRkXVX_MczuOFz_HLY2HP5HgguZgH5mD5vTNtk_mtScGBZnhjPqOGeBQOGM6wQtbcEn5dBEwJBPRrK0hopTjnXNPt6MQME65xOC_ojQyY1GKpgVsojTbjoBa3Af6C8Fh4JnDdwun4Ls6kctPqphnZQPM_LTdX2eWiCrNBoLwMG8qi6MYW_r6sJdHkcc5egWRpg9PidUgD8fyfA8mj9aXE1lT01kryWw8Fh8NQ4ptqRAcgjTMa_1tKYJQRzFld73MwnO8aoVJ6yWSwGwN2SjXXRNj0VTmWf0Aw7orvhw4fyhVC2U5V_ZmDATG5pSuBFWb_qudD3E5GanLhk_WppLsxBNtLv9l2ewjrqMWsVDiSHquS3TK6XmKzm5RJnbpPZL8lodl5rJTJ_gOWx2QeORdTEWM1lKEgrWBGJktbdLTz6k0CZuaXe" 74 1)
def aiD:List fR:=gr _ (ik "Pnc6FDoyOqOF5uKLDWy4M57xc7u1qgNxdk1wHAYwc1rQs0zeYpMJ43jEsG1U5C2fZuO8QqlQr6eL1NraaMt7d5YeybnzY77Ll_Q6JBtegXiekALEAFq1LP97jeJ3pVgWxxij7y97N7LWnOr3Tuo2dYQ1Y9ptLfkdplWycYesaZxzGf5U7yJwo0i8sppa9oFTzvhazGkdi3H5Ohkdax1j4_z" 74 1)
def aiC:List fR:=gr _ (ik "weCt6kTSFfMNbe5qooYkq2a885UYii8dFfaQGS7LQq7QBwjuiQjl98wFE_D12zoimHOsKWVsv_iEuXpAlzbyPLSDUNZoafvZ7AdP54DvbjvKLJj9fZZsmmZ4N_ixonCeyo_Cm3nFuP8BqErNsOMDy2_OEAKHEJkltoDdL2XcYMnzL" 74 1)
def aiB:List fR:=gr _ (ik "7HLChobM6c0vBlkKZDHX90YxRniKoZBlMWoBcvZ5l59A2Pkv6cjHAy6Ht3cEtOkdEx6lB4Wy85jiuSs9TuYafrcw5AmyOZOi72ymu1QZOzHLpwwH833dHE0CUcFWDkB2Kl3bLA41KGF9ojumOEunTnkfOPJP_Rdv_wjAWro48eYjbGyjFR8_bKzMHKqjFT2jnMzyy_QhMBSZBXcd21mgBy4aqWaJLNiu4qn5yS5CC8vt_Ham5d2mnNXNtkllixqNt6B3hijg30lVS3UGnj_3g6blKqKW7V0ezOY5b2DniiopaCeCBlDtKTMREhPJClaLzCHGfqRwg" 74 2)
def aiA:List fR:=gr _ (ik "kvnMEChj_Hc3ldXW3HH1NsYeRQzjWg_ZQEk2kRk0DMFcMQTmuBcDEoHlGVrJx4GBkpeljXpbbs1hHchtql3YbDWtQh4mk8ZfrYrllMZL88Bp4JGjtMXzuUeeLYS3Y_teDJr9s29awBmV0Xp6oDzBq5Gj8G5Qo87s7xpT54ZOQgAfhNh_yZRmZdJzW4mgmGE495JzSYGAY3y0mcfKVQle8OOr43Emcr7ux74ic8AQ9gl7kP4cV4wwH0y8izt_r79mXMcaqpLuzHd15R930yMZCP3nPhBFQgsTnuFFOFOGxZa" 74 2)
def aiz:List fR:=gr _ (ik "13TcfOfeAiesgPhmXbclNhdlXaX6hECVv6iqO3OmqQBhEeeMKN5xBNEsGBk6DkxeHTJ8LRrk9l52lg0RFs20xC1WtZoiYjybHZwqXtMndtv4GVcEqS9MVmKgyEZuBW9Blmi_gzy8DefkfbT9oHQDtyM88ZXB43707obwT30clCU19WAmKmCsRwa6H93gJYwwcPOi7ES8RFnXJoDlqUgZFiKGPgMZyW7YdEw2kHKsqGz6SnmdS4ikHHPQw90hU3azsEVkPDdj01qFj91VwfVVrVlWUeDDez5K8v36xz4M4dgsx5iSYkOuwwXo" 74 3)
def aiy:List fR:=gr _ (ik "370jky3csa0rhy793gbKvxZrwJojWgLLgct503M9Cc1NPrBbD9dT7MOfPB112RmEmOn_SvKx3sSroEH9xVyS624NL8UMiyvjG1h3sGA9S0reMLxgx6GuJ7QT11Kicror_4xvGboLXr69vptsbUzKZtDPG2jBn9T8qLE7_QjfMbxyjysWEP2lY7XtL5l5S47w51ETgvsXGA_qkgO5uG6dFWr8UoNplUBXolGx" 74 2)
def aix:List fR:=gr _ (ik "HB20VR727FEiYKYmd0XglmjxoNWcxBe8M0SOogpGCZYSB7mK4n7YrjS_p7QKlHbph4WgGSfGNoMbt3amKZlCFOtxaDFeYAAbYyGlYKtvkpGzG61xrL6nR_aLXYNlkdC5e6GQPeNK05PEfe4EcldtyTOaGu1LjZtOTxsSgSW_TMRNj0OJuagM9Cr_WaLfDNV2ew2xEdLutB3QfLcmw125mGQK8iX2qpeGSlbnLGq2VuTpbuE_4rc" 74 2)
def aiw:List fR:=gr _ (ik "2PADuo0n8W3Olhs1OVEkRgCNEbYD7LT8Nuzgk5XSO9vnKsPcWBtwiKQDvm4g643FmBjXP8NwEgJOKGHG6mYSFl97ywK_uVC4W6ZheDYRJZvOrdGQm_51CQrjrtFgK8Y9QuoPM5rhRsV2FBKpc5NoTzfPig3gw3bh632ujhQQ4cEdJ_kWodKUM6ORbNRRmyZxoFbhvqdWOdzBLNk6o9Q2fXHfZGg6nDRegTrb1l6s2ofGr596czFSxVmR2jjhuyUz9tUPPxh" 74 2)
def aiv:List fR:=gr _ (ik "PPR5oCazyRP41JF9WmyNO40HaK3ua1NVXSzU8UGgCfy62yd2GVdKim9tBfQsdJAn0TF_qqYfOM_E9AqnCTeGmtTPaair6ANOhogOrp90jXeHQaH2DgE0EadKxavyNGABrmf1R57GMTdvTTuVOS9u5UWRWJZEiq19DaXM1ehGZnVwWfpxOa6xWVhygHzjhJH2QuTJA0x8oZPnCPxXv6whH8egLZ1VqFT0W6_Wx6_fVGYh3hUlFWWVno6Twhv7MJYeLy3VzKJJ2H1iYKdbcs3CDCq3rR" 74 2)
def aiu:List fR:=gr _ (ik "2vEDbyCO7mY1vG37xUUtdTGkNbCqpeEo1Xus8N_996n2ycXGaaAoJpjXNEYEq1BeF_1cKL9yXczTLipwnvPiq7cbCE4r3Ur_UrtqmAGkiH2h9CbzVVUa9USbLK3fGnG1txYbU5MWRgQsjRzAE8d4VJ5RU2ZQ5L3gFLfMfOMZwW8Kf2gJ1AQJMyYn_pUMg1F___iHc4xlgKVRgoD_dGdtiCXvxke47oTebPJ9jRDTBvHaNpmB5lpVc8xlVmartRHHO8FvmnXA4maFskQmw_QTEaXAnKdTKVt0qYMbNCP2UR7QYC6BKaOo9E8C69Tmx6Sr" 74 5)
def ait:List fR:=gr _ (ik "16jqKhaNwuFJ6WzRkFX_XUCVhVBFfmCoUvfWXw3h1sUYbHV47DdwnM0UODUim6kEtem4JfFEAvX6EjWH4SmKGNP87eyDupgTbNeaS9FW5KzMcysxWMMpAlXM6bsKqUUbNVVdS94P3TVo4FDrBTa7iAAbzak7Yz_iLpR7SmL5DbNOYaEC2ttmPlNjodhJoiUDW6xk9pif1AC9_2LsLNNvHTr4s16AVeQnSHJk8psshUTH0w3OrhC5zhFZAvNO1D1hqKyOQHFi2zZENSBhh6m_nnSHYqVLBzQkkBUfuOZ7_HasJrjOJlLD_BzWEaQem5cXbFcA26KOMmSi4JtnOG71St1ZKfhhjBco4OEvKy" 74 6)
def ais:List fR:=gr _ (ik "Fkb2CvgB8AwRAn16Z6FGvz2sV9kYz__rJi1TiWfP0VEYqcCVdSNe1OQ4MVuR6ywct1TDZLoEnok4ovxYPWE4UaM0nk7YBzU78eHpCqv_U9BMdC6CNDmULOT_eGfRZVEewlCDQ5PhUKOQzkgzPb6iW5d4BeHOJUXKrvA3tCkfsZqniSkliRxkaq3bvnlWYSvmJa62hXkrD5yEZekHXF09milUGt2ohsNRgn_WRlSMa4kPkVG6Ab6UUhG7fMzspsDCWZ2nz44rl_3YKBub7aLUN4CLrgSqaaniJaNmTAql" 74 10)
def air:List fR:=gr _ (ik "2Q16RzlDpPYMijrsHvv_scVzU_avOOQNi0qi_7keqAH8voSanER6iX6b81EfTRhogAejnwOb59ZiF7BLqUsDu22aABQyNqcGiBh_rQEVr79F7BupK_ozbijioofpZKz3YptwPDB9vdcyi253AixET_oCtzMa4wwD3x3xH4WEfzyBy06_xkSYYkTN7wFKknhZopKQtlpYpixKRC11Oj6b8BUUoQbOvGMufvzsKHLVRzy8_tZJC1tmYLnLTmSvFD2HvuXWz1YWPhHgWyt9fLy3ozMO0uD6quBJxsWSLnA9AUxn2UAO" 74 3)
def aiq:List fR:=gr _ (ik "1pFCcn0JqmaP2PxRo6b3ko6DAifGMZKO0oekYAL0vvdhBsYUz1ehAs5W83TSNPvz8B6SenFQi9vKOP9WdFiulRUlr4y3" 74 1)
def alP:List Nat:=gr _ (Nt "200000000000000000000000000000000000116011J3000000000000000000000000000000000000z6000u000000000000000000M080zl0c100000010000Q0")
def afc:List fR:=amg++amf++ame++amd++amc++amb++ama++al9++al8++al7++aiG++aiF++aiE++aiD++aiC++aiB++aiA++aiz++aiy++aix++aiw++aiv++aiu++ait++ais++air++aiq
def feT:Tr FE:=Nv 12 (ac8 (alP) (afc.map fR.F))
def alM:List Nat:=gr _ (Nt "00017H102178010m17J10n10f10p17L10r17K10311E010Z10U0017917E10410V10b10a17A17D11A022x7B0010W10Y10910611K11F17C27k7l17G10510710X12v10_24X4Y24g4h11G11M22w1H00000000000010E10F11c010G11N11O11P11Q11J10A0000010d0000010811L11S10M0010S000010T10L0940414243444546474A0000000010K11k11d11T11U11V11W00010D022u0B10C00011R0148014910N00000000031e1h1l000011X26T6U0000000000000010H0000000000000043s3u3w3y000010J0000000010Q10R00010O10P71f1g1i1j1m1n1o011_11Y17643t3v3x3z0000000011b11a11Z")
def ajQ:Tr (List Nat):=Nv 12 (aib 999 (alM))
noncomputable def St:Yg:=⟨Tryz.prog,base,ttE,ft,MS ttE hints,Kp ttE hints,Sp,JP 482 feT,fun g=>(JP 217 ajQ g).getD []⟩
noncomputable def S:Sys:=St.sys
theorem aow:(List.range 482).all (fun k=>match feT.get k with |some f=>aam ft k f|none=>true)=true:=aa
theorem ajP:(List.range 217).all (fun g=>Ob ft (JP 482 feT) g ((ajQ.get g).getD []))=true:=aa
theorem ajA:H7 S:=by
 refine adu ZC akE (fun I call hc=>@BH _ I _ ZC mixed _ _ hc) XF (fun k f hf=>?_) fun g=>?_
 ·have Nf:JP 482 feT k=some f:=hf;unfold JP at Nf;split at Nf
  ·simp at Nf
  ·rename_i hle
   have gy:k<482:=by
    rcases aZ k 482 with h|h
    ·exact h
    ·rw [asw h] at hle; simp at hle
   have:=aP.1 aow k (arE.2 gy);rw [Nf] at this;exact this
 ·show Ob ft (JP 482 feT) g ((JP 217 ajQ g).getD [])=true;unfold JP;split
  ·rfl
  ·rename_i hle
   have gy:g<217:=by
    rcases aZ g 217 with h|h
    ·exact h
    ·rw [asw h] at hle; simp at hle
   exact aP.1 ajP g (arE.2 gy)
end Go.As.Try
end
section
namespace Go.As.Try
open Go hiding Stat Spec shape
open Go.As Go.Proofs
set_option maxRecDepth 100000
noncomputable section
abbrev jF (c:SB) (a:T Lf):=sp c a fl
abbrev xU (c:SB) (a:T Lf):=sp c fl a
abbrev jB:=SB.eq
abbrev gH:=SB.lt
abbrev stx:=W.op .set
abbrev nrx:=W.op .norm
abbrev Cu:=W.op .snoc
abbrev rpx:=W.op .rep
abbrev qpx (n:Int):=D.p (.i n)
abbrev DY (n:Nat) (x:W):=nm (ce n x)
abbrev vy (j:Nat) (l:List W):=SB.eq (a0 j l) (.lit 1)
abbrev kz (j:Nat) (l:List W) (a:T Lf):=sp (.eq (a0 j l) (.lit 1)) a fl
abbrev pV (a:W):=SB.eq a (.lit 0)
abbrev oZ (a:W):=SB.lt a (.lit 0)
def bsx:List Nat->D
 |[]=> .i 0
 |n::l=> .p (.i n) (bsx l)
theorem cQ {n:Nat} {t:T Lf} (h:S.tree n=t:=by kernel_rfl):S.tree n=t:=h
def b0:D:=bsx [0,0,0,0,0,0,0,0,0,1,1,0,0,1,0,0,0,0,0,0,0,0,0,0,0,0,0,0,0,0,0,0,1,0,0,2,0,0,0,0,5,5,5,5,0,5,0,0,3,3,3,3,3,3,3,3,3,3,0,5,5,5,0,0,0,4,4,4,4,4,4,4,4,4,4,4,4,4,4,4,4,4,4,4,4,4,4,4,4,4,4,0,0,0,0,4,0,4,4,4,4,4,4,4,4,4,4,4,4,4,4,4,4,4,4,4,4,4,4,4,4,4,4,5,0,5,0,0,0,0,0,0,0,0,0,0,0,0,0,0,0,0,0,0,0,0,0,0,0,0,0,0,0,0,0,0,0,0,0,0,0,0,0,0,0,0,0,0,0,0,0,0,0,0,0,0,0,0,0,0,0,0,0,0,0,0,0,0,0,0,0,0,0,0,0,0,0,0,0,0,0,0,0,0,0,0,0,0,0,0,0,0,0,0,0,0,0,0,0,0,0,0,0,0,0,0,0,0,0,0,0,0,0,0,0,0,0,0,0,0,0,0,0,0,0,0,0,0,0,0,0,0,0,0,0,0]
def b1:D:=bsx [32,97,99,113,117,105,114,101,32,97,100,100,32,97,114,114,105,118,101,32,98,97,114,114,105,101,114,32,98,114,111,97,100,99,97,115,116,32,99,111,110,100,32,100,111,32,100,111,110,101,32,101,108,115,101,32,105,102,32,108,111,99,107,32,108,111,99,107,102,111,114,32,108,111,111,112,32,109,117,116,101,120,32,111,110,99,101,32,112,117,116,32,113,117,101,117,101,32,114,101,97,100,32,114,101,108,101,97,115,101,32,114,108,111,99,107,32,114,117,110,108,111,99,107,32,114,119,108,111,99,107,32,115,101,109,32,115,101,116,32,115,105,103,110,97,108,32,116,97,107,101,32,116,104,114,101,97,100,32,116,114,121,97,99,113,117,105,114,101,32,116,114,121,108,111,99,107,32,117,110,108,111,99,107,32,118,97,114,32,119,97,105,116,32,119,97,105,116,102,111,114,32,119,97,105,116,111,110,32,119,108,111,99,107,32,119,114,105,116,101,32,119,117,110,108,111,99,107,32]
def b2:D:=bsx [97,98,99,100,101,102,103,104,105,106,107,108,109,110,111,112,113,114,115,116,117,118,119,120,121,122,65,66,67,68,69,70,71,72,73,74,75,76,77,78,79,80,81,82,83,84,85,86,87,88,89,90,95]
def b3:D:=bsx [97,98,99,100,101,102,103,104,105,106,107,108,109,110,111,112,113,114,115,116,117,118,119,120,121,122,65,66,67,68,69,70,71,72,73,74,75,76,77,78,79,80,81,82,83,84,85,86,87,88,89,90,95,48,49,50,51,52,53,54,55,56,57]
def b4:D:=bsx [57,50,50,51,51,55,50,48,51,54,56,53,52,55,55,53,56,48,55]
abbrev Qa:W:=.lit 0
abbrev Qb:W:=.dP 1
abbrev Qc:=ln Qb
abbrev qn a0:=gH Qa a0
abbrev Qd:=qn Qc
abbrev Qe:=gH Qc (.lit 1759218604441)
abbrev Qf:W:=.dP 0
abbrev sZ a0:=nrx a0 Qa
abbrev Qg:=sZ Qb
abbrev Qh:W:=.fk (.i 1)
abbrev Qj:=[Qf]
abbrev Qk:W:=.fk (.i 2)
abbrev eX a0 a1 a2:=jF a0 (ju a1 a2)
abbrev cf a0 a1 a2 a3 a4:=sp a0 a1 (sp a2 a3 a4)
abbrev jL a0 a1 a2 a3 a4 a5:=cf a0 a1 (jB a2 a3) a4 a5
abbrev qD a0:=jB a0 Qk
def NC:=jL Qd (eX Qe 9001 [Qf,Qb,Qc,Qa]) Qg Qh (ju 9002 Qj) (eX (qD Qg) 9003 Qj)
abbrev Qm:W:=.dP 3
abbrev Qn:=jB Qm Qf
abbrev Qo:W:=.dP 2
abbrev Qp:=gH Qm Qo
abbrev Qq:=oZ Qm
abbrev Qr:=gH Qm Qc
abbrev pO a0:=el a0 Qm
abbrev Qs:=pO Qb
abbrev Qt:=ce 4 Qs
abbrev gf a0 a1:=gH a0 (ln a1)
abbrev pN a0:=gf Qa a0
abbrev Qu:=pN Qt
abbrev Qv:W:=.lit 17592186044416
abbrev nr a0 a1:=gH (ln a0) a1
abbrev pM a0:=nr a0 Qv
abbrev Qw:=pM Qt
abbrev Qx:=ce 5 Qs
abbrev Qy:=pN Qx
abbrev Qz:=pM Qx
abbrev Q0:W:=.lit 1
abbrev l7 a0 a1:=wr (.add a0 a1)
abbrev jv a0:=l7 a0 Q0
abbrev Q1:=jv Qm
abbrev Q2:=el Qb Qf
abbrev fK a0:=DY 0 a0
abbrev Q3:=fK Q2
abbrev Q4:=DY 1 Q2
abbrev iq a0:=DY 2 a0
abbrev Q5:=iq Q2
abbrev gR a0:=DY 3 a0
abbrev Q6:=gR Q2
abbrev Q7:=jB Qx Qh
abbrev Q8:=qD Qx
abbrev Q9:=jB Qt Qh
abbrev Qba:=qD Qt
abbrev Gi (l:List W):=Qa::Qf::Qb::l
abbrev xc a0:=ou (Gi a0)
abbrev Qbb:=xc []
abbrev T8:=mk Qm
abbrev Qbd:W:=.fk (.i 4)
abbrev sU a0 a1 a2:=stx a0 (cn a1 a2)
abbrev qg a0 a1:=sU a0 T8 a1
abbrev Qbe:=qg Qb (sU Qs Qbd Qt)
abbrev Qbf:W:=.fk (.i 5)
abbrev Qbg:=qg Qbe (sU (pO Qbe) Qbf Qx)
abbrev Qbh:=cn Qbf Qh
abbrev Qbi:=qg Qbe (stx (pO Qbe) Qbh)
abbrev Qbj:=cn Qbf Qk
abbrev Qbk:=qg Qbe (stx (pO Qbe) Qbj)
abbrev Qbl:=cn Qbd Qh
abbrev Qbm:=qg Qb (stx Qs Qbl)
abbrev Qbn:=qg Qbm (sU (pO Qbm) Qbf Qx)
abbrev Qbo:=qg Qbm (stx (pO Qbm) Qbh)
abbrev Qbp:=qg Qbm (stx (pO Qbm) Qbj)
abbrev Qbq:=cn Qbd Qk
abbrev Qbr:=qg Qb (stx Qs Qbq)
abbrev Qbs:=qg Qbr (sU (pO Qbr) Qbf Qx)
abbrev Qbt:=qg Qbr (stx (pO Qbr) Qbh)
abbrev Qbu:=qg Qbr (stx (pO Qbr) Qbj)
abbrev nU a0 a1 a2:=xU a0 (jF a1 a2)
abbrev Bl a0 a1:=nU Qq a0 a1
abbrev qk a0:=Bl Qr a0
abbrev ed a0 a1 a2 a3 a4 a5 a6:=cf a0 (sp a1 a2 a3) a4 a5 a6
abbrev CE (l:List W):=Qf::Qb::Qo::l
abbrev am5 (l:List W):=Q1::Q3::Q4::Q5::Q6::l
abbrev uV a0:=CE (am5 a0)
abbrev k8 a0 a1 a2 a3 a4 a5:=cf a0 a1 a2 (ju a3 a4) a5
abbrev nh a0 a1 a2 a3 a4 a5 a6:=jF a0 (k8 a1 a2 a3 a4 a5 a6)
abbrev ox a0 a1:=eX Qz a0 a1
abbrev ow a0 a1:=eX Q8 a0 a1
def tq:=ed Qn Qp (qk (cf Qu (nh Qw Qy (ox 9004 (uV [Qt,Qx])) Q7 9005 (uV [Qt,Qh]) (ow 9005 (uV [Qt,Qk]))) Q9 (k8 Qy (ox 9006 (uV [Qh,Qx])) Q7 9007 (uV [Qh,Qh]) (ow 9007 (uV [Qh,Qk]))) (nh Qba Qy (ox 9006 (uV [Qk,Qx])) Q7 9007 (uV [Qk,Qh]) (ow 9007 (uV [Qk,Qk]))))) Qbb Qp (qk (cf Qu (nh Qw Qy (ox 9001 [Qf,Qbg,Qo,Q1]) Q7 9001 [Qf,Qbi,Qo,Q1] (ow 9001 [Qf,Qbk,Qo,Q1])) Q9 (k8 Qy (ox 9001 [Qf,Qbn,Qo,Q1]) Q7 9001 [Qf,Qbo,Qo,Q1] (ow 9001 [Qf,Qbp,Qo,Q1])) (nh Qba Qy (ox 9001 [Qf,Qbs,Qo,Q1]) Q7 9001 [Qf,Qbt,Qo,Q1] (ow 9001 [Qf,Qbu,Qo,Q1])))) Qbb
abbrev Qbv:=jB Qa Qf
abbrev gM a0 a1 a2:=sp a0 a1 (ou a2)
abbrev rA a0 a1 a2:=gM a0 (ou a1) a2
def afn:=rA Qbv [Q0,Qf] [Q0,Qf]
abbrev fc:W:=.lit 2
def afm:=rA Qbv [fc,Qf] [fc,Qf]
abbrev Qbx:=qk fl
abbrev kX:W:=.lit 3
abbrev bW:W:=.dP 4
abbrev cM:W:=.dP 5
abbrev eJ:W:=.dP 6
abbrev hZ:W:=.dP 7
abbrev iT:W:=.dP 8
abbrev jI:W:=.dP 9
abbrev Qb5:=ou [kX,Qf,Qb,bW,cM,eJ,hZ,iT,jI]
abbrev Qb6:=[Qf,Qbg,Qo,Q1,bW,cM,eJ,hZ,iT,jI]
abbrev Qb7:=[Qf,Qbi,Qo,Q1,bW,cM,eJ,hZ,iT,jI]
abbrev Qb8:=[Qf,Qbk,Qo,Q1,bW,cM,eJ,hZ,iT,jI]
abbrev Qb9:=[Qf,Qbn,Qo,Q1,bW,cM,eJ,hZ,iT,jI]
abbrev Qca:=[Qf,Qbo,Qo,Q1,bW,cM,eJ,hZ,iT,jI]
abbrev Qcb:=[Qf,Qbp,Qo,Q1,bW,cM,eJ,hZ,iT,jI]
abbrev Qcc:=[Qf,Qbs,Qo,Q1,bW,cM,eJ,hZ,iT,jI]
abbrev Qcd:=[Qf,Qbt,Qo,Q1,bW,cM,eJ,hZ,iT,jI]
abbrev Qce:=[Qf,Qbu,Qo,Q1,bW,cM,eJ,hZ,iT,jI]
def Z2:=ed Qn Qp Qbx Qb5 Qp (qk (cf Qu (nh Qw Qy (ox 9004 Qb6) Q7 9004 Qb7 (ow 9004 Qb8)) Q9 (k8 Qy (ox 9004 Qb9) Q7 9004 Qca (ow 9004 Qcb)) (nh Qba Qy (ox 9004 Qcc) Q7 9004 Qcd (ow 9004 Qce)))) Qb5
abbrev qI:W:=.lit 4
abbrev Qcg:=ou [qI,Qf,Qb,bW,cM,eJ,hZ,iT,jI]
def Z1:=ed Qn Qp Qbx Qcg Qp (qk (cf Qu (nh Qw Qy (ox 9005 Qb6) Q7 9005 Qb7 (ow 9005 Qb8)) Q9 (k8 Qy (ox 9005 Qb9) Q7 9005 Qca (ow 9005 Qcb)) (nh Qba Qy (ox 9005 Qcc) Q7 9005 Qcd (ow 9005 Qce)))) Qcg
abbrev Ca:W:=.lit 5
abbrev Qci:=ou [Ca,Qf,Qb,bW,cM,eJ,hZ,iT,jI]
def Z0:=ed Qn Qp Qbx Qci Qp (qk (cf Qu (nh Qw Qy (ox 9006 Qb6) Q7 9006 Qb7 (ow 9006 Qb8)) Q9 (k8 Qy (ox 9006 Qb9) Q7 9006 Qca (ow 9006 Qcb)) (nh Qba Qy (ox 9006 Qcc) Q7 9006 Qcd (ow 9006 Qce)))) Qci
abbrev PL:W:=.lit 6
abbrev Qck:=ou [PL,Qf,Qb,bW,cM,eJ,hZ,iT,jI]
def ZZ:=ed Qn Qp Qbx Qck Qp (qk (cf Qu (nh Qw Qy (ox 9007 Qb6) Q7 9007 Qb7 (ow 9007 Qb8)) Q9 (k8 Qy (ox 9007 Qb9) Q7 9007 Qca (ow 9007 Qcb)) (nh Qba Qy (ox 9007 Qcc) Q7 9007 Qcd (ow 9007 Qce)))) Qck
abbrev T7:=ln Qo
abbrev Qcm:=qn T7
abbrev Qcn:=gH T7 (.lit 2199023255552)
abbrev Qco:=jB (sZ Qo) Qh
abbrev Qcp:=[Qf,Qc,Qa,Qb]
abbrev Qcq:=qD (sZ Qo)
def tp:=jL Qd (nh Qe Qcm (eX Qcn 9051 [Qf,Qc,Qa,Qb,Qo]) Qco 9052 Qcp (eX Qcq 9053 Qcp)) Qg Qh (k8 Qcm (eX Qcn 9054 [Qf,Qo]) Qco 9055 Qj (eX Qcq 9056 Qj)) (nh (qD Qg) Qcm (eX Qcn 9057 [Qf,Qo]) Qco 9058 Qj (eX Qcq 9059 Qj))
abbrev ry a0:=gH a0 Qb
abbrev sN:=ry Qo
abbrev QJ:=oZ Qo
abbrev zp:=ln Qm
abbrev Qcu:=gH Qo zp
abbrev rp a0:=el a0 Qo
abbrev Y0:=rp Qm
abbrev Qcw:=ce 4 Y0
abbrev Qcx:=pN Qcw
abbrev Qcy:=pM Qcw
abbrev Qcz:=ce 5 Y0
abbrev Qc0:=pN Qcz
abbrev Qc1:=pM Qcz
abbrev Du:=jv Qo
abbrev Qc3:=mk Qo
abbrev agz a0 a1:=sU a0 Qc3 a1
abbrev nY a0 a1 a2 a3:=agz a0 (sU a1 a2 a3)
abbrev Qc4:=nY Qm Y0 Qbd Qcw
abbrev Qc5:=nY Qc4 (rp Qc4) Qbf Qcz
abbrev Qc6:=jB Qcz Qh
abbrev ON a0 a1 a2:=agz a0 (stx a1 a2)
abbrev qp a0 a1 a2:=ON a0 (rp a1) a2
abbrev Qc7:=qp Qc4 Qc4 Qbh
abbrev Qc8:=qD Qcz
abbrev Qc9:=qp Qc4 Qc4 Qbj
abbrev Qda:=ON Qm Y0 Qbl
abbrev Qdb:=nY Qda (rp Qda) Qbf Qcz
abbrev Qdc:=qp Qda Qda Qbh
abbrev Qdd:=qp Qda Qda Qbj
abbrev Qde:=ON Qm Y0 Qbq
abbrev Qdf:=nY Qde (rp Qde) Qbf Qcz
abbrev Qdg:=qp Qde Qde Qbh
abbrev Qdh:=qp Qde Qde Qbj
abbrev QI:=ln bW
abbrev nN a0 a1:=nU QJ a0 a1
abbrev qj a0:=nN Qcu a0
abbrev og (l:List W):=Qf::Qb::Du::l
abbrev gU a0 a1 a2:=eX a0 a1 (og a2)
abbrev qE a0 a1 a2 a3:=sp a0 a1 (ju a2 a3)
def ZY:=qE sN (qj (jL Qcx (nh Qcy Qc0 (gU Qc1 9051 [Qc5,bW]) Qc6 9051 (og [Qc7,bW]) (gU Qc8 9051 [Qc9,bW])) Qcw Qh (k8 Qc0 (gU Qc1 9051 [Qdb,bW]) Qc6 9051 (og [Qdc,bW]) (gU Qc8 9051 [Qdd,bW])) (nh (qD Qcw) Qc0 (gU Qc1 9051 [Qdf,bW]) Qc6 9051 (og [Qdg,bW]) (gU Qc8 9051 [Qdh,bW])))) 9060 [Qf,QI,Qa,Qm,bW]
def ZX:=qE sN (qj (jL Qcx (nh Qcy Qc0 (gU Qc1 9052 [Qc5]) Qc6 9052 (og [Qc7]) (gU Qc8 9052 [Qc9])) Qcw Qh (k8 Qc0 (gU Qc1 9052 [Qdb]) Qc6 9052 (og [Qdc]) (gU Qc8 9052 [Qdd])) (nh (qD Qcw) Qc0 (gU Qc1 9052 [Qdf]) Qc6 9052 (og [Qdg]) (gU Qc8 9052 [Qdh])))) 9061 [Qf,Qm]
def ZW:=qE sN (qj (jL Qcx (nh Qcy Qc0 (gU Qc1 9053 [Qc5]) Qc6 9053 (og [Qc7]) (gU Qc8 9053 [Qc9])) Qcw Qh (k8 Qc0 (gU Qc1 9053 [Qdb]) Qc6 9053 (og [Qdc]) (gU Qc8 9053 [Qdd])) (nh (qD Qcw) Qc0 (gU Qc1 9053 [Qdf]) Qc6 9053 (og [Qdg]) (gU Qc8 9053 [Qdh])))) 9062 [Qf,Qm]
def afl:=ju 9063 Qcp
def amu:=ju 9064 Qj
def amt:=ju 9065 Qj
def afk:=ju 9066 Qcp
def ams:=ju 9067 Qj
def amr:=ju 9068 Qj
abbrev Qdj:=jB Qo Qf
abbrev WE:=gH Qo QI
abbrev Qdl:=rp bW
abbrev ic a0:=ce 1 a0
abbrev Qdm:=ic Qdl
abbrev Qdn:=pN Qdm
abbrev Qdo:=pM Qdm
abbrev Qdp:=el bW Qf
abbrev Qdq:=fK Qdp
abbrev Qdr:=iq Qdp
abbrev Qds:=gR Qdp
abbrev kS a0:=DY 4 a0
abbrev Qdt:=kS Qdp
abbrev jg a0:=DY 5 a0
abbrev Qdu:=jg Qdp
abbrev Qdv:=jB Qdm Qh
abbrev Qdw:=qD Qdm
abbrev Qdx:=nY bW Qdl Qh Qdm
abbrev Qdz:=nY bW Qdl Qh Qh
abbrev Qd1:=nY bW Qdl Qh Qk
def DC:=ed Qdj sN (nN WE (k8 Qdn (gU Qdo 9069 [Qm,bW,Qdq,Qdm,Qdr,Qds,Qdt,Qdu]) Qdv 9070 (og [Qm,bW,Qdq,Qh,Qdr,Qds,Qdt,Qdu]) (gU Qdw 9070 [Qm,bW,Qdq,Qk,Qdr,Qds,Qdt,Qdu]))) (ou [Qa,Qf,Qm,bW]) sN (nN WE (k8 Qdn (gU Qdo 9060 [Qm,Qdx]) Qdv 9060 (og [Qm,Qdz]) (gU Qdw 9060 [Qm,Qd1]))) (ou [Qa,Qf,Qm,bW])
abbrev Qd2:=ou [Q0,Qf,Qb]
def afj:=sp Qbv Qd2 Qd2
def afi:=rA Qbv [fc,Qf,Qb] [fc,Qf,Qb]
abbrev Qd3:=ic Y0
abbrev Qd4:=pN Qd3
abbrev Qd5:=pM Qd3
abbrev T6:=el Qm Qf
abbrev Qec:List W:=og [Qm,fK T6,Qd3,iq T6,gR T6,kS T6,jg T6]
abbrev Qed:=jB Qd3 Qh
abbrev Qee:List W:=og [Qm,fK T6,Qh,iq T6,gR T6,kS T6,jg T6]
abbrev Qef:=qD Qd3
abbrev Qeg:List W:=og [Qm,fK T6,Qk,iq T6,gR T6,kS T6,jg T6]
abbrev Qeh:=nY Qm Y0 Qh Qd3
abbrev Qei:=nY Qm Y0 Qh Qh
abbrev Qej:=nY Qm Y0 Qh Qk
def DB:=ed Qdj sN (qj (k8 Qd4 (eX Qd5 9071 Qec) Qed 9072 Qee (eX Qef 9072 Qeg))) (ou [Qa,Qf,Qh,Qm]) sN (qj (k8 Qd4 (gU Qd5 9063 [Qeh]) Qed 9063 (og [Qei]) (gU Qef 9063 [Qej]))) (ou [Qa,Qf,Qh,Qm])
def afh:=rA Qbv [Q0,Qf,Qh] [Q0,Qf,Qh]
def afg:=rA Qbv [fc,Qf,Qh] [fc,Qf,Qh]
def DA:=ed Qdj sN (qj (k8 Qd4 (eX Qd5 9073 Qec) Qed 9074 Qee (eX Qef 9074 Qeg))) (ou [Qa,Qf,Qk,Qm]) sN (qj (k8 Qd4 (gU Qd5 9066 [Qeh]) Qed 9066 (og [Qei]) (gU Qef 9066 [Qej]))) (ou [Qa,Qf,Qk,Qm])
def aff:=rA Qbv [Q0,Qf,Qk] [Q0,Qf,Qk]
def afe:=rA Qbv [fc,Qf,Qk] [fc,Qf,Qk]
abbrev Qek:=nN WE fl
abbrev mh:W:=.dP 10
abbrev Qem:=ou [kX,Qf,Qm,bW,cM,eJ,hZ,iT,jI,mh]
abbrev Qen:List W:=og [Qm,Qdx,cM,eJ,hZ,iT,jI,mh]
abbrev Qeo:List W:=og [Qm,Qdz,cM,eJ,hZ,iT,jI,mh]
abbrev Qep:List W:=og [Qm,Qd1,cM,eJ,hZ,iT,jI,mh]
def ZV:=ed Qdj sN Qek Qem sN (nN WE (k8 Qdn (eX Qdo 9069 Qen) Qdv 9069 Qeo (eX Qdw 9069 Qep))) Qem
abbrev Qeq:=ou [qI,Qf,Qm,bW,cM,eJ,hZ,iT,jI,mh]
def ZU:=ed Qdj sN Qek Qeq sN (nN WE (k8 Qdn (eX Qdo 9070 Qen) Qdv 9070 Qeo (eX Qdw 9070 Qep))) Qeq
abbrev Qer:=qj fl
abbrev Qes:=ou [kX,Qf,Qh,Qm,bW,cM,eJ,hZ,iT,jI]
abbrev Qet:List W:=og [Qeh,bW,cM,eJ,hZ,iT,jI]
abbrev Qeu:List W:=og [Qei,bW,cM,eJ,hZ,iT,jI]
abbrev Qev:List W:=og [Qej,bW,cM,eJ,hZ,iT,jI]
def ZT:=ed Qdj sN Qer Qes sN (qj (k8 Qd4 (eX Qd5 9071 Qet) Qed 9071 Qeu (eX Qef 9071 Qev))) Qes
abbrev Qew:=ou [qI,Qf,Qh,Qm,bW,cM,eJ,hZ,iT,jI]
def ZS:=ed Qdj sN Qer Qew sN (qj (k8 Qd4 (eX Qd5 9072 Qet) Qed 9072 Qeu (eX Qef 9072 Qev))) Qew
abbrev Qex:=ou [kX,Qf,Qk,Qm,bW,cM,eJ,hZ,iT,jI]
def ZR:=ed Qdj sN Qer Qex sN (qj (k8 Qd4 (eX Qd5 9073 Qet) Qed 9073 Qeu (eX Qef 9073 Qev))) Qex
abbrev Qey:=ou [qI,Qf,Qk,Qm,bW,cM,eJ,hZ,iT,jI]
def ZQ:=ed Qdj sN Qer Qey sN (qj (k8 Qd4 (eX Qd5 9074 Qet) Qed 9074 Qeu (eX Qef 9074 Qev))) Qey
abbrev yM:=[Qf,Qb]
def ZP:=ju 9101 yM
abbrev Qe0:=el Qb Qa
abbrev Qe1:=ce 4 Qe0
abbrev Qe2:=ce 5 Qe0
abbrev s7 a0:=pV (ln a0)
abbrev Qe3:=s7 Qe2
abbrev nR:=D.i 0
abbrev iX:W:=.fk nR
abbrev rq a0 a1 a2:=cn a0 (cn a1 a2)
abbrev uS a0 a1 a2 a3 a4:=rq a0 a1 (rq a2 a3 a4)
abbrev fX a0 a1 a2 a3:=uS a0 a1 a2 a3 iX
abbrev Qe5:=fX iX iX Qh Qh
abbrev nQ a0 a1 a2 a3:=Cu a0 (rq a1 a2 a3)
abbrev lI a0 a1 a2:=nQ iX a0 a1 a2
abbrev Qe6:=lI iX iX Qe5
abbrev Qe7:=fK Qe0
abbrev Qe8:=DY 1 Qe0
abbrev Qe9:=iq Qe0
abbrev Qfa:=gR Qe0
abbrev Qfb:=pM Qe2
abbrev Qfc:=mk Qe7
abbrev Qfd:W:=.op .bit (mk Qe9) Qa
abbrev WD:=cn Qk iX
abbrev Qff:=cn Qk WD
abbrev oQ a0 a1 a2:=Cu a0 (cn a1 a2)
abbrev dJ a0 a1 a2 a3:=jF a0 (sp a1 a2 a3)
abbrev nW a0 a1 a2 a3 a4:=dJ a0 a1 (ju a2 a3) a4
abbrev k7 a0 a1 a2:=sp (pV a0) a1 a2
abbrev UN (l:List W):=Qf::Qb::Qe6::Q0::Qe7::Qe8::Qe9::Qfa::l
def NB:=ed Qbv Qd (k7 (ln Qe1) (sp Qe3 (ju 9102 (UN [])) (eX Qfb 9103 (UN [Qe2]))) (nW (pM Qe1) Qe3 9104 (UN [Qe1]) (eX Qfb 9105 (UN [Qe1,Qe2])))) (ou [Qa,Qf]) Qd (k7 (ln Qe1) (sp Qe3 (ju 9106 [Qf,Qb,Cu iX (uS Qfc (mk Qe8) Qfd (mk Qfa) Qff),Q0]) (eX Qfb 9106 [Qf,Qb,lI Qfc (mk Qe8) (fX Qfd (mk Qfa) Qk Qe2),Q0])) (nW (pM Qe1) Qe3 9106 [Qf,Qb,oQ iX Qfc (uS (mk Qe8) Qfd (mk Qfa) Qe1 WD),Q0] (eX Qfb 9106 [Qf,Qb,lI Qfc (mk Qe8) (fX Qfd (mk Qfa) Qe1 Qe2),Q0]))) (ou [Qa,Qf])
abbrev Qfg:=s7 Qt
abbrev YZ:=s7 Qx
abbrev Qfi:W:=.lit 1759218604440
abbrev Fz:=gH T7 Qfi
abbrev Qfk:=gH Qf T7
abbrev Qfl:=fK Qs
abbrev Qfm:=DY 1 Qs
abbrev Qfn:=iq Qs
abbrev Qfo:W:=.op .bit (mk Qfn) Qa
abbrev Qfp:=gR Qs
abbrev Qfq:=Cu Qo (uS (mk Qfl) (mk Qfm) Qfo (mk Qfp) Qff)
abbrev Qfr:=nQ Qo (mk Qfl) (mk Qfm) (fX Qfo (mk Qfp) Qk Qx)
abbrev Qfs:=oQ Qo (mk Qfl) (uS (mk Qfm) Qfo (mk Qfp) Qt WD)
abbrev Qft:=nQ Qo (mk Qfl) (mk Qfm) (fX Qfo (mk Qfp) Qt Qx)
abbrev mf a0 a1:=eX Qfk a0 a1
abbrev sY a0:=xU Qq a0
abbrev jw a0 a1 a2:=jF a0 (jF a1 a2)
abbrev nL a0 a1 a2 a3 a4:=sp a0 (sp a1 a2 a3) a4
abbrev D_ (l:List W):=Qf::Qb::Qfq::Q1::bW::cM::eJ::hZ::l
abbrev C? (l:List W):=Qf::Qb::Qfr::Q1::bW::cM::eJ::hZ::l
abbrev C! (l:List W):=Qf::Qb::Qfs::Q1::bW::cM::eJ::hZ::l
abbrev C_ (l:List W):=Qf::Qb::Qft::Q1::bW::cM::eJ::hZ::l
abbrev Qfu:=gM Qr (sY (nL Qfg YZ (jF Fz (mf 9102 (D_ []))) (jw Qz Fz (mf 9102 (C? []))) (dJ Qw YZ (jF Fz (mf 9102 (C! []))) (jw Qz Fz (mf 9102 (C_ [])))))) [Q0,Qf,Qo,bW,cM,eJ,hZ]
def ZO:=sp Qn Qfu Qfu
abbrev Qfv:List W:=D_ [iT]
abbrev Qfw:List W:=C? [iT]
abbrev Qfx:List W:=C! [iT]
abbrev Qfy:List W:=C_ [iT]
abbrev Qfz:=gM Qr (sY (nL Qfg YZ (jF Fz (mf 9103 Qfv)) (jw Qz Fz (mf 9103 Qfw)) (dJ Qw YZ (jF Fz (mf 9103 Qfx)) (jw Qz Fz (mf 9103 Qfy))))) [fc,Qf,Qo,bW,cM,eJ,hZ,iT]
def ZN:=sp Qn Qfz Qfz
abbrev Qf0:=gM Qr (sY (nL Qfg YZ (jF Fz (mf 9104 Qfv)) (jw Qz Fz (mf 9104 Qfw)) (dJ Qw YZ (jF Fz (mf 9104 Qfx)) (jw Qz Fz (mf 9104 Qfy))))) [kX,Qf,Qo,bW,cM,eJ,hZ,iT]
def ZM:=sp Qn Qf0 Qf0
abbrev Qf1:=gM Qr (sY (nL Qfg YZ (jF Fz (mf 9105 (D_ [iT,jI]))) (jw Qz Fz (mf 9105 (C? [iT,jI]))) (dJ Qw YZ (jF Fz (mf 9105 (C! [iT,jI]))) (jw Qz Fz (mf 9105 (C_ [iT,jI])))))) [qI,Qf,Qo,bW,cM,eJ,hZ,iT,jI]
def ZL:=sp Qn Qf1 Qf1
abbrev Qf2:=jB T7 Qf
abbrev Qf3:=nQ Qo iX iX Qe5
abbrev Qf4:=eX Fz 9106 [Qf,Qb,Qfq,Q1]
abbrev Qf5:=eX Fz 9106 [Qf,Qb,Qfr,Q1]
abbrev Qf6:=eX Fz 9106 [Qf,Qb,Qfs,Q1]
abbrev Qf7:=eX Fz 9106 [Qf,Qb,Qft,Q1]
abbrev UM (l:List W):=Qf::Qb::Qf3::Q1::Qfl::Qfm::Qfn::Qfp::l
def NA:=ed Qn Qr (sY (sp Qfg (nL YZ Qf2 (eX Fz 9102 (UM [])) Qf4 (dJ Qz Qf2 (eX Fz 9103 (UM [Qx])) Qf5)) (dJ Qw YZ (sp Qf2 (eX Fz 9104 (UM [Qt])) Qf6) (dJ Qz Qf2 (eX Fz 9105 (UM [Qt,Qx])) Qf7)))) (ou [Ca,Qf,Qo]) Qr (sY (nL Qfg YZ Qf4 (jF Qz Qf5) (dJ Qw YZ Qf6 (jF Qz Qf7)))) (ou [Ca,Qf,Qo])
abbrev cZ a0 a1:=rr a0 a1 0
abbrev rm a0 a1:=ju a0 (CE a1)
def Um:=kz 3950 [Qb] (rm 9151 [cZ 3950 [Qb]])
abbrev PK:=el Qo Qa
abbrev Qf9:=s7 (ic PK)
abbrev Qga:=fX iX iX iX iX
abbrev Qgb:=lI iX Qh Qga
abbrev Qgc:=fK PK
abbrev Qgh:=pM (ic PK)
abbrev np a0 a1:=mk (DY a0 a1)
abbrev Qgi:=fX (np 2 PK) (np 3 PK) (np 4 PK) (np 5 PK)
def Dz:=ed Qbv Qcm (sp Qf9 (ju 9152 [Qf,Q0,Qb,Qo,Qm,Qgb,Qgc,iq PK,gR PK,kS PK,jg PK]) (eX Qgh 9153 [Qf,Q0,Qb,Qo,Qm,Qgb,Qgc,ic PK,iq PK,gR PK,kS PK,jg PK])) (ou [Qa,Qf,Qm]) Qcm (sp Qf9 (ju 9154 [Qf,Q0,Qb,Qo,Qm,lI (mk Qgc) Qk Qgi]) (eX Qgh 9154 [Qf,Q0,Qb,Qo,Qm,lI (mk Qgc) (ic PK) Qgi])) (ou [Qa,Qf,Qm])
abbrev Qgj:=gH Qb zp
abbrev T5:=oZ Qb
abbrev Qgl:=el Qm Qb
abbrev Qgm:=ic Qgl
abbrev Qgn:=s7 Qgm
abbrev QH:=ln cM
abbrev Qgp:W:=.lit 2199023255551
abbrev Qgq:=gH QH Qgp
abbrev Qgr:=gH Qf QH
abbrev IH:=jv Qb
abbrev Qgt:=fK Qgl
abbrev Qgu:=iq Qgl
abbrev Qgv:=gR Qgl
abbrev Qgw:=kS Qgl
abbrev Qgx:=jg Qgl
abbrev Qgy:=fX (mk Qgu) (mk Qgv) (mk Qgw) (mk Qgx)
abbrev Qgz:=nQ cM (mk Qgt) Qk Qgy
abbrev Qg0:=pM Qgm
abbrev Qg1:=nQ cM (mk Qgt) Qgm Qgy
abbrev qi a0:=xU T5 a0
abbrev Iu (l:List W):=Qf::IH::Qo::Qm::bW::l
abbrev Qg2:=gM Qgj (qi (sp Qgn (jF Qgq (eX Qgr 9152 (Iu [Qgz,eJ,hZ,iT,jI,mh]))) (jw Qg0 Qgq (eX Qgr 9152 (Iu [Qg1,eJ,hZ,iT,jI,mh]))))) [Q0,Qf,bW,cM,eJ,hZ,iT,jI,mh]
abbrev gI a0 a1 a2 a3:=sp (jB a0 a1) a2 a3
def Ul:=gI Qb Qf Qg2 Qg2
abbrev qx:W:=.dP 11
abbrev Qg4:=gM Qgj (qi (sp Qgn (jF Qgq (eX Qgr 9153 (Iu [Qgz,eJ,hZ,iT,jI,mh,qx]))) (jw Qg0 Qgq (eX Qgr 9153 (Iu [Qg1,eJ,hZ,iT,jI,mh,qx]))))) [fc,Qf,bW,cM,eJ,hZ,iT,jI,mh,qx]
def Uk:=gI Qb Qf Qg4 Qg4
abbrev Qg5:=nQ cM iX Qh Qga
abbrev Qg6:=eX Qgq 9154 (Iu [Qgz])
abbrev Qg7:=eX Qgq 9154 (Iu [Qg1])
def Dy:=ed (jB Qb Qf) Qgj (qi (sp Qgn (gI QH Qf (eX Qgq 9152 (Iu [Qg5,Qgt,Qgu,Qgv,Qgw,Qgx])) Qg6) (dJ Qg0 (jB QH Qf) (eX Qgq 9153 (Iu [Qg5,Qgt,Qgm,Qgu,Qgv,Qgw,Qgx])) Qg7))) (ou [kX,Qf,bW,cM]) Qgj (qi (sp Qgn Qg6 (jF Qg0 Qg7))) (ou [kX,Qf,bW,cM])
abbrev qa:=ln Qf
def t100:=ju 101 [l7 qa Qc,Qc,Qa,Qf,Qb]
abbrev iW:=ou [Q0]
abbrev fF:=ou [Qa]
abbrev oO a0:=gH a0 Qf
abbrev oJ a0 a1 a2 a3:=cf a0 a1 a2 iW a3
abbrev oy a0:=xU QJ a0
def t101:=oJ sN (oy (eX WE 102 [l7 Qf (l7 (ln Qdm) (ln (ce 2 Qdl))),Qo,Qa,Qb,Qm,bW])) (oO (.lit 6000)) fF
abbrev IG:=el cM Qb
abbrev Qhc:=ju 101 [Qf,Qm,IH,bW,cM]
abbrev Qhd:=ce 6 (rp (ce 2 IG))
abbrev eY a0 a1 a2 a3:=sp (gH a0 a1) a2 a3
abbrev gY a0 a1 a2 a3 a4:=xU a0 (dJ a1 a2 a3 a4)
def t102:=gY T5 (gH Qb QH) (gf Qo (ce 2 IG)) (eY (.lit 6000) Qf Qhc (oy (rm 103 [Qm,Qhd,ln Qhd,Qa,bW,cM]))) Qhc
abbrev Qhe:=el bW eJ
abbrev Qhf:=[fK Qhe,ic Qhe,iq Qhe,ce 3 Qhe,.lit 60]
abbrev qo a0 a1 a2:=nU (oZ a0) a1 a2
abbrev pP a0 a1:=ju a0 (og a1)
def t103:=eY eJ cM (qo eJ (gH eJ QI) (kz 150 Qhf (ju 103 [l7 Qf (cZ 150 Qhf),Qb,Qo,Qm,bW,cM,jv eJ,hZ,iT]))) (pP 102 [Qm,hZ,iT])
abbrev Qhg:=gH bW Q0
abbrev l3 a0 a1 a2:=sp a0 (ou a1) a2
def t150:=l3 Qhg [.lit 10000] (ju 151 [bW,l7 Q0 (wr (.quo Qc (.lit 100))),Qa,Qf,Qb,Qo,Qm])
abbrev QG:=ln eJ
abbrev Qhi:=ou [Qb]
abbrev Qhj:=rp eJ
abbrev pR a0 a1:=wr (.sub a0 a1)
abbrev Qhk:=[fK Qhj,ic Qhj,iq Qhj,ce 3 Qhj,pR Qf Q0]
def t151:=eY Qo QG (eY (.lit 10000) Qb Qhi (oy (kz 150 Qhk (ju 151 [Qf,l7 Qb (cZ 150 Qhk),Du,Qm,bW,cM,eJ])))) Qhi
abbrev Qhl:=[Qf,Qb,qa,Qa]
abbrev kI a0 a1 a2:=gI a0 a1 a2 fF
def t200:=kI qa Qc (ju 201 Qhl)
abbrev pL a0:=gH a0 qa
abbrev Qhm:=pL Qm
abbrev WC:=pO Qf
abbrev Qhq:=iq WC
abbrev Qhs:=ce 4 WC
abbrev Qht:=ln (ce 5 WC)
abbrev oL a0 a1:=sp a0 a1 iW
abbrev sV a0 a1 a2:=pV (rr a0 a1 a2)
abbrev ff a0 a1:=sV a0 a1 0
abbrev aol a0 a1:=SB.and (.not a0) a1
abbrev vD a0 a1:=aol a0 (.not a1)
def t201:=oL Qp (Bl Qhm (dJ Qr (jB (fK WC) Qfl) (kI (DY 1 WC) Qfm (jL (vD (vD (pV Qhq) (pV Qfn)) (vD (.not (pV Qhq)) (.not (pV Qfn)))) fF (gR WC) Qfp (kz 250 [Qhs,Qt] (jL (ff 250 [Qhs,Qt]) fF Qht (ln Qx) (rm 202 [Qm,Qht,Qa,fK WC,DY 1 WC,Qhq,gR WC,Qhs,ce 5 WC,Qfl,Qfm,Qfn,Qfp,Qt,Qx]) fF)) fF)) fF))
abbrev Il:=oZ cM
abbrev Qhv:=jv cM
abbrev zo:W:=.dP 12
abbrev qv:W:=.dP 13
abbrev zn:W:=.dP 14
abbrev YY:W:=.dP 15
abbrev Qh0:List W:=CE [Q1]
abbrev l4 a0 a1:=nm (el a0 a1)
def t202:=eY cM bW (nU Il (gf cM qx) (dJ (gf cM (.dP 17)) (jB (l4 qx cM) (l4 (.dP 17) cM)) (rm 202 [Qm,bW,Qhv,eJ,hZ,iT,jI,mh,qx,zo,qv,zn,YY,.dP 16,.dP 17]) fF)) (ju 201 Qh0)
abbrev Qh1:=[Qf,Qb,Qa]
def t250:=kI qa Qc (ju 251 Qh1)
abbrev Ev:=pL Qo
abbrev Qh3:=gH Qo Qc
abbrev Yq:=rp Qf
abbrev Yp:=nm Yq
abbrev Qh6:List W:=og []
def t251:=oL Ev (gY QJ Qh3 (jB Yp (l4 Qb Qo)) (ju 251 Qh6) fF)
abbrev Qh7:=vy 450 yM
abbrev Qh8:=ff 450 yM
abbrev Qh9:=ou [Qh]
def adt:=nW Qh7 Qh8 301 [Qf,qa] Qh9
abbrev Qia:=qn Qb
abbrev Qib:=pL Qa
abbrev QF:=el Qf Qa
abbrev Qid:=fK QF
abbrev Eu:W:=.fk (.i (-1))
abbrev Qif:=np 2 QF
abbrev Qig:=lI Eu Qif Qe5
abbrev Qih:=ju 302 [Qig,Qf,Qb,Q0]
abbrev Yn:W:=.lit 9
abbrev Qij:=lI Eu iX Qe5
abbrev eC a0 a1 a2 a3 a4 a5 a6:=jL (jB a0 a1) a2 a3 a4 a5 a6
abbrev kT a0 a1 a2 a3 a4 a5:=eC a0 kX a1 a2 a3 a4 a5
def WT:=sp Qia (jF Qib (kT Qid Qih Qid Yn Qih (ju 302 [Qij,Qf,Qb,Q0]))) Qh9
abbrev Qik:=gH qa Qfi
abbrev Qil:=eX Qik 302 [nQ Qf Eu (mk Qfn) Qe5,Qb,Qo,Q1]
abbrev Qim:=nQ Qf Eu iX Qe5
def ajz:=gM Qp (qk (kT Qfl Qil Qfl Yn Qil (eX Qik 302 [Qim,Qb,Qo,Q1]))) Qj
def ads:=dJ Qh7 Qh8 (kI T7 qa (ju 351 [Qo,T7,Qa,Qf,Qb])) fF
abbrev Qin:=iq Yq
abbrev Qio:=fK Yq
abbrev M7:=ic Yq
abbrev Qiq:=ce 3 Yq
abbrev WB:=ce 4 Yq
abbrev Nj:=ce 5 Yq
abbrev agd (l:List W):=(DY 0 Y0)::Qd3::(DY 2 Y0)::(ce 3 Y0)::(nm Qcw)::Qio::(nm M7)::l
abbrev Qit:List W:=agd [Qa,nm Qiq,WB,Nj,QI]
abbrev Qiu:=pP 351 [Qm,bW]
abbrev Qiv:List W:=agd [Q0,nm Qiq,WB,Nj,QI]
abbrev nK a0 a1 a2 a3 a4:=kz a0 a1 (sp a2 a3 a4)
abbrev gm a0 a1 a2 a3 a4 a5 a6:=nK a0 a1 (sV a2 a3 a4) a5 a6
abbrev agA a0 a1 a2 a3 a4 a5:=gm a0 a1 a2 a3 a4 fF a5
abbrev fD a0 a1 a2 a3 a4:=agA a0 a1 a2 a3 0 a4
def WS:=oL sN (nN Ev (dJ Qcu (pV Qin) (fD 500 Qit 500 Qit Qiu) (fD 500 Qiv 500 Qiv Qiu)))
abbrev Qiw:=[cM,Qo]
abbrev Qix:=cZ 9000 Qiw
abbrev Qiy:List W:=CE []
abbrev Qiz:=vy 350 Qiy
abbrev Qi0:=ff 350 Qiy
abbrev iD a0 a1:=rr a0 a1 2
abbrev Ak:=iD 9000 Qiw
abbrev Qi2:=ou [Ak,Qa,Qa,Qa,Qa,Qa,Qa]
abbrev aku a0 a1 a2 a3:=cf Qq a0 a1 a2 a3
abbrev SD a0 a1 a2:=aku a0 Qr a1 a2
abbrev qe a0 a1 a2 a3 a4 a5:=dJ a0 a1 a2 (SD a3 a4 a5)
abbrev Qi3:=qe Qiz Qi0 Qi2 Qi2 Qi2 Qi2
abbrev Qi4:=gf cM Ak
abbrev Qi5:=ou [Qh,Qa,Qa,Qa,Qa,Qa,Qa]
abbrev Qi6:=ou [Qk,Qa,Qa,Qa,Qa,Qa,Qa]
abbrev Qi7:=mk cM
abbrev rv a0 a1:=rr a0 Qiw a1
abbrev Qi8:=rv 9000 3
abbrev Nk:=mk Qi8
abbrev PJ:=rv 9000 4
abbrev QD:=mk PJ
abbrev Qjc:=rv 9000 5
abbrev WA:W:=.op .bit (mk Qjc) Qa
abbrev Qje:=rv 9000 6
abbrev Wz:=mk Qje
abbrev KF:=rv 9000 7
abbrev YX:=rv 9000 8
abbrev YW:=cn YX iX
abbrev Qjj:=cn WA (rq Wz KF YW)
abbrev Qjk:=cn Qi7 (rq Nk QD Qjj)
abbrev Qjl:=stx Ak Qjk
abbrev Fy:=ou [Qjl,Qa,Qa,Qa,Qa,Qa,Qa]
abbrev Qjn:=vy 600 [bW]
abbrev Qjo:=pL cM
abbrev qq a0 a1:=fK (el a0 a1)
abbrev Qjp:=jB (cZ 600 [bW]) (qq Qf cM)
abbrev tU a0:=jB a0 Q0
abbrev Qjq:=tU bW
abbrev Qjr:=jB Qi8 Qm
abbrev Qjs:W:=.lit 27
abbrev Et:=kz 550 [Qo] (ou [cZ 550 [Qo],Qm,Qjs,cM,wr bW,Qa,fc])
abbrev Qju:=vy 900 [KF,Qm]
abbrev Qjv:=ff 900 [KF,Qm]
abbrev Qjw:=oZ Qi8
abbrev agB a0 a1 a2 a3 a4:=sU a0 a1 (rq a2 a3 a4)
abbrev Bo a0 a1 a2 a3:=agB a0 Qi7 a1 a2 a3
abbrev Qjx:=Bo Ak T8 QD Qjj
abbrev QC:=kz 550 [Qo] (ou [cZ 550 [Qo],Qa,Qa,Qa,Qa,Qa,Qa])
abbrev Qjz:=l3 Qjw [Qjx,Qm,bW,cM,Qa,Qa,fc] QC
abbrev Qj0:=sp Qjr Et (dJ Qju Qjv Qjz Et)
abbrev pQ a0:=jB bW a0
abbrev Qj1:=pQ fc
abbrev Qj2:=l3 Qjr [Bo Ak Eu QD Qjj,Qm,bW,cM,Qa,Qa,fc] Et
abbrev Qj3:W:=.lit 8
abbrev Qj4:=pQ Qj3
abbrev Qj5:=pQ kX
abbrev Qj6:=ou [Qjx,Qm,bW,cM,Q0,Qa,fc]
abbrev Qj7:=ou [Qjl,Qm,bW,cM,Qa,Qa,fc]
abbrev Qj8:=sp Qjw Qj6 Qj7
abbrev Qj9:=pQ qI
abbrev Qka:=gH hZ eJ
abbrev Qkb:=cf Qjw Qj6 Qka QC Qj7
abbrev Qkc:=pQ Ca
abbrev IF:=ln KF
abbrev Qke:W:=.lit 17592186044415
abbrev Qkf:=uS QD WA Wz (Cu KF T8) YW
abbrev VD a0 a1 a2 a3:=stx a0 (rq a1 a2 a3)
abbrev nP a0 a1 a2:=VD a0 Qi7 a1 a2
abbrev oB a0 a1:=jF a0 (ou a1)
abbrev Qkg:=sp Qjr Et (dJ Qju Qjv (sp Qjw (oB (gH IF Qke) [nP Ak Nk Qkf,Qm,bW,cM,Qa,Qa,fc]) QC) Et)
abbrev Qkh:=pQ PL
abbrev Qkj:=cZ 850 [KF,Qm]
abbrev Qkk:=jv Qkj
abbrev Qkl:W:=.sub IF Qkk
abbrev Qkm:W:=.add Qkj Qkl
abbrev oR a0 a1:=W.op .cat a0 a1
abbrev s9 a0 a1:=W.op .drop a0 a1
abbrev nM a0 a1:=W.op .take a0 a1
abbrev Qkn:=oR (oR (nM KF Qkj) (s9 (nM KF (.add Qkk Qkl)) Qkk)) (s9 KF Qkm)
abbrev Qko:W:=.op .fill Qkn (cn (mk Qkm) iX)
abbrev xe a0 a1 a2:=W.add a0 (.sub a1 a2)
abbrev kZ a0 a1 a2 a3 a4 a5 a6:=nP a0 a1 (uS a2 a3 a4 a5 a6)
abbrev Qkp:=qo (.sub IF Qkm) (jB (xe Qkm IF Qkm) (ln Qkn)) (xU (nr Qko Qkm) (ou [kZ Ak Nk QD WA Wz (nM Qko Qkm) YW,Qm,bW,cM,Qa,Qa,fc]))
abbrev vE a0 a1 a2:=xU a0 (xU a1 a2)
abbrev oP a0 a1 a2:=vE (oZ a0) a1 a2
abbrev Qkq:=dJ (vy 850 [KF,Qm]) (oZ Qkj) Et (xU (gH Qkk Qkj) (vE (gH IF Qkk) (gH IF IF) (gI Qkj Qkk Qj7 (vE (gH IF Qkj) (oZ Qkk) (oP Qkl (gH IF (.add Qkk Qkl)) (vE (gH IF Qkm) (oZ Qkm) (eY Qkm IF (xU (nr Qkn IF) Qkp) Qkp)))))))
abbrev QB:W:=.lit 7
abbrev Qks:=pQ QB
abbrev Qkt:=sp Qjr Et (dJ Qju Qjv (k7 IF Qjz QC) Et)
abbrev Qku:=pQ Yn
abbrev Qkv:=Bo Ak Nk (mk (pR PJ Q0)) Qjj
abbrev Qkw:=eY Qa PJ (ou [Qkv,Qm,bW,cM,Qa,Qa,fc]) QC
abbrev uX a0:=pQ (.lit a0)
abbrev Qkx:=uX 11
abbrev Qky:=eY Qa PJ (ou [Qkv,Qm,bW,cM,Q0,Qa,fc]) Qj7
abbrev YV:W:=.lit 10
abbrev Qk0:=pQ YV
abbrev B9:=iq (el Qf cM)
abbrev Qk2:=Bo Ak Nk (mk (jv PJ)) Qjj
abbrev Qk3:=eY PJ B9 (ou [Qk2,Qm,bW,cM,Qa,Qa,fc]) Et
abbrev Qk4:=uX 17
abbrev Qk5:W:=.lit 1099511627776
abbrev Qk6:=cf (gH eJ (pR Qa PJ)) Et (gH (pR Qk5 PJ) eJ) Et (ou [Bo Ak Nk (mk (l7 PJ eJ)) Qjj,Qm,bW,cM,l7 PJ eJ,Qa,fc])
abbrev Qk7:=uX 18
abbrev Qk8:=eY Qa PJ (ou [Qkv,Qm,bW,cM,pR PJ Q0,Qa,fc]) Et
abbrev Qk9:W:=.lit 19
abbrev Qla:=pQ Qk9
abbrev Qlb:=k7 PJ Qj7 QC
abbrev Qlc:=uX 22
abbrev Qld:=ou [Qjl,Qm,bW,cM,PJ,Qa,fc]
abbrev Qle:W:=.lit 23
abbrev Qlf:=pQ Qle
abbrev Qlg:=mk eJ
abbrev Qlh:=ou [Bo Ak Nk Qlg Qjj,Qm,bW,cM,eJ,Qa,fc]
abbrev Qli:W:=.lit 20
abbrev Qlj:=pQ Qli
abbrev Qlk:=eY (ln YX) B9 (oB (nr YX Qke) [Bo Ak Nk QD (fX WA Wz KF (Cu YX Qlg)),Qm,bW,cM,eJ,Qa,fc]) QC
abbrev Qll:=uX 21
abbrev Qlm:=xe Q0 (ln YX) Q0
abbrev Qln:=k7 (ln YX) QC (oP (.sub (ln YX) Q0) (nr YX Qlm) (ou [Bo Ak Nk QD (fX WA Wz KF (s9 (nM YX Qlm) Q0)),Qm,bW,cM,l4 YX Qa,Qa,fc]))
abbrev Qlo:=uX 12
abbrev Qlp:=oZ B9
abbrev Qlq:=gf B9 Ak
abbrev Ym:=jB B9 cM
abbrev T4:W:=.lit (-1)
abbrev Wx:=[KF,Qm,cM,B9,Ak,bW,eJ,hZ,T4,PJ,Qjc,Qje,YX]
abbrev Qlu:=oB (gH IF Qke) [nP Ak Eu Qkf,Qm,bW,cM,Qa,Qa,kX]
abbrev Qlv:=rr 12000 Wx 14
abbrev Qlw:=rr 12000 Wx 15
abbrev Qlx:W:=.add Qlv Q0
abbrev Qly:=Cu iX T8
abbrev Qlz:=oR (oR (nM Qlw Qlv) Qly) (s9 Qlw Qlx)
abbrev Ql1:=jB (qq Ak B9) Qm
abbrev rz a0 a1 a2:=sU a0 (mk a1) a2
abbrev Ql2:=rz Ak B9 (sU (el Ak B9) iX Eu)
abbrev Wy:=[KF,Qm,cM,B9,Ql2,bW,eJ,hZ,Qi8,PJ,Qjc,Qje,YX]
abbrev Ql4:=oB (gH IF Qke) [nP Ql2 Nk Qkf,Qm,bW,cM,Qa,Qa,kX]
abbrev Ql5:=rr 12000 Wy 14
abbrev Ql6:=rr 12000 Wy 15
abbrev Ql7:W:=.add Ql5 Q0
abbrev Ql8:=oR (oR (nM Ql6 Ql5) Qly) (s9 Ql6 Ql7)
abbrev Ql9:=uX 13
abbrev Qma:=uX 14
abbrev Qmb:=kZ Ak Nk QD WA Wz Qh YW
abbrev Ni:W:=.lit 24
abbrev Qmd:=pQ Ni
abbrev Qme:W:=.lit 15
abbrev Qmf:=pQ Qme
abbrev Yl:W:=.lit 4611686018427387904
abbrev Nh:W:=.lit 25
abbrev Qmi:=pQ Nh
abbrev Ik:W:=.lit 16
abbrev Qmk:=pQ Ik
abbrev Qml:=uX 26
abbrev oK a0 a1:=nU Qlp a0 a1
abbrev mB a0 a1 a2 a3 a4 a5 a6:=ed a0 a1 (ou a2) a3 a4 a5 a6
abbrev Qmm:=cf Qmd (oK Qlq (dJ Qju Qjv (cf Ym Qjz (oZ (qq Ak B9)) (ou [stx (rz Ak B9 (sU (el Ak B9) iX T8)) Qjk,Qm,bW,cM,Qa,Qa,fc]) QC) QC)) Qmf (eY Qje Yl (gI (jv PJ) B9 (ou [kZ Ak Nk iX WA (mk (jv Qje)) KF YW,Qm,bW,cM,Qje,Qa,kX]) (ou [Qk2,Qm,bW,cM,Qje,Qa,kX])) Et) (mB Qmi (gH eJ Qje) [Qjl,Qm,bW,cM,eJ,Qa,fc] QC Qmk (k7 Qjc (cf Qjr Et Qjw Qj6 QC) Qj7) (dJ Qml Qjr (ou [kZ Ak Eu QD Qh Wz KF YW,Qm,bW,cM,Qa,Qa,fc]) Et))
abbrev Qmn:=ed Ql9 (pV IF) Qj7 (oP (.sub IF Q0) (gH IF (xe Q0 IF Q0)) (ou [kZ Ak Nk QD WA Wz (s9 (nM KF (xe Q0 IF Q0)) Q0) YW,Qm,bW,cM,jv (l4 KF Qa),Qa,fc])) Qma (ou [Qmb,Qm,bW,cM,IF,Qa,fc]) Qmm
abbrev Qmo:=cn (Cu iX Qlg) iX
abbrev Qmp:=eY Qa B9 (ou [kZ Ak Nk QD WA Wz KF Qmo,Qm,bW,cM,eJ,Qa,fc]) QC
abbrev Qmq:=rr 12100 Wx 14
abbrev Qmr:=rr 12100 Wx 15
abbrev Qms:W:=.add Qmq Q0
abbrev Qmt:=oR (oR (nM Qmr Qmq) Qly) (s9 Qmr Qms)
abbrev Qmu:=rr 12100 Wy 14
abbrev Qmv:=rr 12100 Wy 15
abbrev Qmw:W:=.add Qmu Q0
abbrev Qmx:=oR (oR (nM Qmv Qmu) Qly) (s9 Qmv Qmw)
abbrev Qmy:=uS QD WA Wz Qly YW
abbrev Qmz:=sp Qjr Et (dJ Qju Qjv (l3 Qjw [nP Ak Nk Qmy,Qm,bW,cM,Qa,Qa,fc] QC) Et)
abbrev Qm0:=jw (vy 850 [KF,Qm]) (oZ Qkj) Et
abbrev Qm1:=ou [nP Ak Eu Qmy,Qm,bW,cM,Qa,Qa,kX]
abbrev Qm2:=ou [nP Ql2 Nk Qmy,Qm,bW,cM,Qa,Qa,kX]
abbrev Qm3:=cf Ql9 Qj7 Qma (ou [Qmb,Qm,bW,cM,Qa,Qa,fc]) Qmm
abbrev oN a0 a1 a2 a3:=kz a0 a1 (jF a2 a3)
abbrev mD a0 a1 a2 a3 a4:=jF a0 (dJ a1 a2 a3 a4)
abbrev oA a0 a1:=tU (cZ a0 a1)
def jJ:=kz 9000 Qiw (jL (pV Qix) (sp Il Qi3 (xU Qi4 Qi3)) Qix Q0 (qe Qiz Qi0 Qi5 Qi5 (sp Il Qi5 Qi5) Qi5) (eC Qix fc (qe Qiz Qi0 Qi6 Qi6 (sp Il Qi6 Qi6) Qi6) Qix kX (qe Qiz Qi0 Fy Fy (cf Il Fy Qi4 (mD Qjn Qjo Qjp (sp Qjq Qj0 (cf Qj1 Qj2 Qj4 Qj2 (cf Qj5 Qj8 Qj9 Qkb (cf Qkc Qkg Qkh Qkq (cf Qks Qkt Qku Qkw (cf Qkx Qky Qk0 Qk3 (cf Qk4 Qk6 Qk7 Qk8 (cf Qla Qlb Qlc Qld (cf Qlf Qlh Qlj Qlk (cf Qll Qln Qlo (oK Qlq (ed Ym Qjr (gm 12000 Wx 12000 Wx 0 Qlu (jF (oA 12000 Wx) (oP Qlv (nr Qlw Qlx) (oP Qlx (nr Qlz Qlx) (ou [kZ Ak Eu QD WA Wz (nM Qlz Qlx) YW,Qm,bW,cM,Qa,Qa,kX]))))) Et Ql1 (gm 12000 Wy 12000 Wy 0 Ql4 (jF (oA 12000 Wy) (oP Ql5 (nr Ql6 Ql7) (oP Ql7 (nr Ql8 Ql7) (ou [kZ Ql2 Nk QD WA Wz (nM Ql8 Ql7) YW,Qm,bW,cM,Qa,Qa,kX]))))) Et)) Qmn)))))))))) Fy) Fy) Fy) (eC Qix qI (qe Qiz Qi0 Fy Fy (cf Il Fy Qi4 (mD Qjn Qjo Qjp (sp Qjq Qj0 (cf Qj1 Qj2 Qj4 Qj2 (cf Qj5 Qj8 Qj9 Qkb (cf Qkc Qkg Qkh Qkq (cf Qks Qkt Qku Qkw (cf Qkx Qky Qk0 Qk3 (cf Qk4 Qk6 Qk7 Qk8 (cf Qla Qlb Qlc Qld (cf Qlf Qlh Qlj Qmp (cf Qll QC Qlo (oK Qlq (ed Ym Qjr (gm 12100 Wx 12100 Wx 0 Qlu (jF (oA 12100 Wx) (oP Qmq (nr Qmr Qms) (oP Qms (nr Qmt Qms) (ou [kZ Ak Eu QD WA Wz (nM Qmt Qms) YW,Qm,bW,cM,Qa,Qa,kX]))))) Et Ql1 (gm 12100 Wy 12100 Wy 0 Ql4 (jF (oA 12100 Wy) (oP Qmu (nr Qmv Qmw) (oP Qmw (nr Qmx Qmw) (ou [kZ Ql2 Nk QD WA Wz (nM Qmx Qmw) YW,Qm,bW,cM,Qa,Qa,kX]))))) Et)) Qmn)))))))))) Fy) Fy) Fy) Qix Ca (qe Qiz Qi0 Fy Fy (cf Il Fy Qi4 (mD Qjn Qjo Qjp (sp Qjq Qj0 (cf Qj1 Qj2 Qj4 Qj2 (cf Qj5 Qj8 Qj9 Qkb (cf Qkc Qmz Qkh Qm0 (cf Qks Qj0 Qku Qkw (cf Qkx Qky Qk0 Qk3 (cf Qk4 Qk6 Qk7 Qk8 (cf Qla Qlb Qlc Qld (cf Qlf Qlh Qlj Qlk (cf Qll Qln Qlo (oK Qlq (ed Ym Qjr (oN 12200 Wx (ff 12200 Wx) Qm1) Et Ql1 (oN 12200 Wy (ff 12200 Wy) Qm2) Et)) Qm3)))))))))) Fy) Fy) Fy) (mD (jB Qix PL) Qiz Qi0 Fy (SD Fy (cf Il Fy Qi4 (mD Qjn Qjo Qjp (sp Qjq Qj0 (cf Qj1 Qj2 Qj4 Qj2 (cf Qj5 Qj8 Qj9 Qkb (cf Qkc Qmz Qkh Qm0 (cf Qks Qj0 Qku Qkw (cf Qkx Qky Qk0 Qk3 (cf Qk4 Qk6 Qk7 Qk8 (cf Qla Qlb Qlc Qld (cf Qlf Qlh Qlj Qmp (cf Qll QC Qlo (oK Qlq (ed Ym Qjr (oN 12300 Wx (ff 12300 Wx) Qm1) Et Ql1 (oN 12300 Wy (ff 12300 Wy) Qm2) Et)) Qm3)))))))))) Fy) Fy) Fy)))))
abbrev Qm4:=ju 451 [Qf,qa,Qa,Qb]
def amF:=cf (pL (.lit 64)) Qm4 (gH Ik Qc) Qm4 (ju 452 [Qf,qa,Qa,Qb])
abbrev Qm5:=pP 451 [Qm]
def ajy:=qE sN (nN Ev Qm5) 453 [Qm,zp,Qa,Qf]
abbrev Qm6:=[Qf,Qm,Qio,M7,Qin,Qiq,nm WB]
def ajx:=qE sN (nN Ev (gm 700 Qm6 700 Qm6 0 Qm5 (pP 452 [Qm]))) 454 [Qm,zp,Qa,Qf]
abbrev Qm7:List W:=Gi [Qo,Qm,ce 0 Yq,M7,ce 2 Yq]
abbrev Qm8:W:=.lit 120
abbrev Qm9:=ou [Qm8]
def ajw:=sp sN (oy (eX Ev 455 Qm7)) Qm9
abbrev qf a0 a1:=sp a0 a1 fF
def ajv:=qf sN (nN Ev (k8 (gf Qm8 M7) (ju 455 Qm7) (gf (.lit 4000) (ce 2 Yq)) 455 Qm7 (ju 456 Qm7)))
abbrev Qna:=ju 453 [Qb,Qo,Q1,bW]
def aju:=sp (gf Qf hZ) Qna Qna
abbrev Qnb:=oZ Qf
abbrev Qnc:=el hZ Qf
abbrev Qnd:=[bW,Qb,cM,eJ,hZ,fK Qnc,DY 1 Qnc,iq Qnc,gR Qnc,kS Qnc,jg Qnc,ce 6 Qnc]
abbrev Qne:=jv Qf
abbrev Qnf:=[ce 6 Qnc,cM,eJ,hZ]
abbrev gk a0 a1:=rr a0 a1 1
abbrev DR (l:List W):=Qne::Qb::Qo::Qm::l
abbrev Qng:List W:=DR [bW,cZ 5000 Qnf,gk 5000 Qnf,iD 5000 Qnf]
abbrev Gh (l:List W):=bW::cM::eJ::hZ::l
def ajt:=qE (gf Qf hZ) (xU Qnb (gm 750 Qnd 750 Qnd 0 (ju 455 (DR (Gh []))) (gm 5000 Qnf 5000 Qnf 3 (ju 456 Qng) (ju 455 Qng)))) 454 [Qb,Qo,Q1,bW]
abbrev QA:List W:=CE [Qm,bW]
abbrev Qni:=gH cM T4
abbrev Qnj:=gH cM qx
abbrev Qnk:=oZ iT
abbrev Qnl:=pN jI
abbrev mC a0:=jB Qf a0
abbrev T3:=mC qI
abbrev Qnn:=pN mh
abbrev Yk:=pV hZ
abbrev Qnp:=qn iT
abbrev Qnq:=ju 501 [qx,jI,ln jI,Qa,Qf,Qb,Qo,Qm,bW,cM,eJ,hZ,iT,mh,iX]
abbrev pK a0 a1:=sp a0 fF a1
abbrev Qnr:=pK Qnp Qnq
abbrev zc a0 a1 a2 a3:=cf a0 fF a1 a2 a3
abbrev mA a0 a1 a2:=zc a0 a1 a2 fF
abbrev Qns:=mA Qnn Yk Qnr
abbrev Qnt:=mC fc
abbrev Qnu:=mC Qj3
abbrev YU:=mC Ca
abbrev Qnw:=mC PL
abbrev Qnx:=tU Qf
abbrev iN a0 a1 a2:=zc a0 a1 fF a2
abbrev Qny:=mA Qni Qnj (iN Qnk (gH Yl iT) (cf Il (cf Qnl (cf T3 Qns Qnt Qns fF) Qnn (nL Qnu Yk Qnr fF fF) (ed Yk Qnp (qf YU Qnq) Qnq Qnw Qnr fF)) Qnx (pK Qnl Qns) (ed Qnt Qnl Qns Qns Qnw (pK Qnl (zc Qnn Yk Qnr Qnr)) fF)))
def adr:=gm 650 QA 650 QA 1 Qny (iN (oZ eJ) (gH (cZ 650 QA) eJ) Qny)
abbrev xb a0:=mk (nm a0)
abbrev Qnz:=sZ (xb Qs)
abbrev uW a0 a1:=W.op .Of a0 a1
abbrev AN (l:List W):=Q1::bW::cM::l
abbrev Qn0:=rm 501 (AN [eJ,hZ,iT,jI,mh,qx,zo,qv,uW zn (cn Qnz Qh)])
abbrev Qn1:=ln qv
abbrev Qn2:=oZ jI
abbrev ru a0 a1:=k7 a0 a1 fF
abbrev Qn4:=cf Qn2 iW (pV Qc) (ru qx iW) fF
def WR:=sp Qp (qk (mA (oZ (nm Qs)) (oO (nm Qs)) (jL (pV (.op .EB zn Qnz)) Qn0 (nm (.op .EC zn Qnz)) Q0 fF Qn0))) (ed (oZ eJ) (qn Qn1) fF Qn4 (gH eJ Qn1) fF Qn4)
abbrev Qn6:=sZ Qf
abbrev oM a0 a1 a2 a3:=eX (gH a0 a1) a2 a3
def adq:=jL Qib (oM qa (.lit 1759218604441) 551 [Qf,qa,Qa]) Qn6 Qh (ju 552 []) (eX (qD Qn6) 553 [])
abbrev Qn7:=pM WB
abbrev Qn8:=pN Nj
abbrev Qn9:=pM Nj
abbrev Qoa:=nY Qf Yq Qbd WB
abbrev Qob:=ON Qf Yq Qbl
abbrev Qoc:=ON Qf Yq Qbq
def ajs:=gM sN (nN Ev (jL (pN WB) (jF Qn7 (jL Qn8 (eX Qn9 551 [nY Qoa (rp Qoa) Qbf Nj,Qb,Du]) Nj Qh (ju 551 [qp Qoa Qoa Qbh,Qb,Du]) (eX (qD Nj) 551 [qp Qoa Qoa Qbj,Qb,Du]))) WB Qh (jL Qn8 (eX Qn9 551 [nY Qob (rp Qob) Qbf Nj,Qb,Du]) Nj Qh (ju 551 [qp Qob Qob Qbh,Qb,Du]) (eX (qD Nj) 551 [qp Qob Qob Qbj,Qb,Du])) (jF (qD WB) (jL Qn8 (eX Qn9 551 [nY Qoc (rp Qoc) Qbf Nj,Qb,Du]) Nj Qh (ju 551 [qp Qoc Qoc Qbh,Qb,Du]) (eX (qD Nj) 551 [qp Qoc Qoc Qbj,Qb,Du]))))) Qj
def api:=ou [Qh]
def aph:=ou [Qk]
abbrev T2:=mC kX
abbrev Qoe:=ou [fc]
abbrev Qof:=mC Yn
abbrev Qog:=ou [kX]
abbrev Qoh:=mC (.lit 11)
abbrev YT:=ou [qI]
abbrev Qoj:=ou [Ca]
abbrev Qok:=ou [PL]
abbrev Qol:=mC (.lit 17)
abbrev Qom:=ou [QB]
abbrev Qon:=ou [Qj3]
abbrev Qoo:=mC (.lit 21)
abbrev Qop:=mC (.lit 22)
abbrev Qoq:=ou [Yn]
abbrev sE a0 a1 a2 a3 a4 a5 a6:=eC a0 (.lit a1) a2 a3 a4 a5 a6
def amz:=eY (wr Qf) Qjs (nU Qnb (gH Qf Qjs) (zc (pV Qf) Qnx iW (oJ Qnt iW T2 (cf T3 iW YU Qoe (jL Qnw Qoe Qf QB Qoe (cf Qnu Qoe Qof Qog (cf (mC YV) Qog Qoh Qog (sE Qf 12 YT Qf (.lit 13) YT (sE Qf 14 YT Qf Qme Qoj (cf (mC Ik) Qok Qol Qom (sE Qf 18 Qom Qf Qk9 Qom (cf (mC Qli) Qon Qoo Qon (jL Qop Qoq Qf Qle Qoq (eC Qf Ni YT Qf Nh Qoj Qok)))))))))))))) fF
abbrev Qor:=ou [Qa,Qa]
def ajr:=cf T2 (ou [Qo,Q0]) YU (ou [pR Qo Q0,Q0]) (cf (mC QB) (ou [Qk5,Q0]) Qof Qor (ou [Qa,Q0]))
abbrev Qos:=ru bW iW
abbrev Qot:=iN Qhg (gH (.lit 1048576) bW) iW
abbrev Qou:=iN Qhg (gH Ik bW) iW
abbrev xI:=oZ bW
abbrev Qow:=mA xI (pL bW) (kI (qq Qf bW) Q0 iW)
def amy:=gI Qo Q0 Qos (eC Qo fc Qos Qo PL Qos (eC Qo QB Qos Qo kX Qot (eC Qo Qj3 Qot Qo Ca Qou (eC Qo qI Qow Qo Yn iW fF))))
abbrev Qox:=oZ hZ
abbrev Qoy:=tU cM
abbrev mS a0:=jB a0 fc
abbrev Qoz:=mS cM
abbrev Qo0:=jB cM kX
abbrev Qo1:=jB cM qI
abbrev Qo2:=jB cM Ca
abbrev Qo3:=jB cM PL
abbrev Qo4:=jB cM QB
abbrev Qo5:=iN Qo3 Qo4 fF
abbrev Qo6:=pK Qo0 (iN Qo1 Qo2 Qo5)
abbrev Qo7:=pL hZ
abbrev Qo8:=qq Qf hZ
abbrev Qo9:=[Qo8,cM,eJ,hZ,iT,jI,mh,qx,Qa]
abbrev Qpa:=gI eJ Ik fF iW
abbrev Qpb:=fD 950 Qo9 950 Qo9 Qpa
abbrev Qpc:=kI Qo8 PL iW
abbrev Qpd:=qf Qo7 Qpc
abbrev Qpe:=kI (ln qx) Q0 iW
abbrev Qpf:=eY QI jI fF Qpe
abbrev Qpg:=eY QI jI fF iW
abbrev Qph:=pK Qo0 (cf Qo1 Qpf Qo2 Qpg Qo5)
abbrev Qpi:=gI eJ Ik Qpg iW
abbrev Qpj:=fD 950 Qo9 950 Qo9 Qpi
abbrev Qpk:=gH iT zp
abbrev Qpl:=nL Qo0 Qpk Qpe fF (iN Qo1 Qo2 (ed Qo3 Qpk iW fF Qo4 (pK Qpk fF) fF))
abbrev Qpm:=[Qo8,cM,eJ,hZ,iT,jI,mh,qx,Q0]
abbrev Qpn:=nL Qo0 Qpk Qpe fF (cf Qo1 Qpf Qo2 Qpg (ed Qo3 Qpk iW fF Qo4 (qf Qpk Qpg) fF))
def Iq:=sp Qnk (ed Qn2 Qox (iN Qoy Qoz Qo6) (ed Qoy Qo7 Qpb fF Qoz Qpd Qo6) Qox (iN Qoy Qoz Qph) (ed Qoy Qo7 Qpj fF Qoz Qpd Qph)) (ed Qn2 Qox (iN Qoy Qoz Qpl) (ed Qoy Qo7 (sp Qpk (fD 950 Qpm 950 Qpm Qpa) Qpb) fF Qoz Qpd Qpl) Qox (iN Qoy Qoz Qpn) (ed Qoy Qo7 (sp Qpk (fD 950 Qpm 950 Qpm Qpi) Qpj) fF Qoz Qpd Qpn))
abbrev Qpo:W:=.lit 1000
abbrev Qpp:List W:=CE [Qm,Q0,Qpo,bW]
def amx:=agA 5050 Qpp 5050 Qpp 2 iW
def amw:=ju 851 Qhl
abbrev Qpq:=nm WC
def adp:=gM Qp (gY Qq Qhm (jB Qb Qpq) (ou [Qm]) (ju 851 Qh0)) [T4]
abbrev oC a0 a1 a2 a3:=nK a0 a1 a2 fF a3
def amv:=oC 850 yM (oZ (cZ 850 yM)) iW
abbrev Qpr:=pV iT
abbrev Qps:=[Qf,ln hZ,Qb,Qo,Qm,bW,cM,eJ,hZ]
def amq:=qE Qpr (ju 951 Qps) 952 Qps
abbrev Qpt:=fX Qh iX iX Qh
abbrev AO (l:List W):=Qf::Qb::Q0::Qo::l
abbrev Qpu:List W:=AO [Qm,bW,cM,eJ,hZ,iT,Cu iX Qpt]
abbrev Qpv:=[Qf,Q0,Qa,Qa,Qm,Qa,Qa]
abbrev Qpw:=vy 1200 [Qm]
abbrev Qpx:=mC (cZ 1200 [Qm])
abbrev Qpy:=[Qf,iX]
abbrev Qpz:=vy 5150 Qpy
abbrev Qp0:=sV 5150 Qpy 2
abbrev Qp1:=gI Qm Ik iW iW
abbrev sX a0:=gf Qli a0
abbrev Qp2:=dJ Qpw Qpx (jF Qpz (iN Qp0 (sX (gk 5150 Qpy)) Qp1)) fF
abbrev Qp3:=fD 12400 Qpv 12400 Qpv (jF (oA 12400 Qpv) Qp2)
abbrev Qp4:=[Qa,Qa,Qf,Qa,Qa,Qa,Qm,Qa,Qa]
abbrev Qp5:=vy 5200 Qpy
abbrev Qp6:=sV 5200 Qpy 3
abbrev Qp7:=[Qf,Qa,Qa,Qa,Qm,Qa,Qa]
abbrev Qp8:=cf T2 Qp3 Qnu Qp3 (cf YU Qp3 T3 (fD 12450 Qp4 12450 Qp4 (mD (oA 12450 Qp4) Qpw Qpx (jF Qp5 (iN Qp6 (sX (iD 5200 Qpy)) Qp1)) fF)) (fD 12400 Qp7 12400 Qp7 (jF (oA 12400 Qp7) Qp2)))
abbrev Qp9:=ff 12500 Qpv
abbrev Qqa:=oA 12500 Qpv
abbrev s5 a0 a1:=W.fk (qpx a0 a1)
abbrev Qqb:=s5 97 nR
abbrev Qqc:=cn Qqb Qh
abbrev Qqd:=sX (uW (gk 5150 Qpy) Qqc)
abbrev Qqe:=dJ Qpw Qpx (dJ Qpz Qp0 fF (jL Qqd fF Qm Ik fF fF)) fF
abbrev Qqf:=oC 12500 Qpv Qp9 (jF Qqa Qqe)
abbrev Qqg:=ff 12550 Qp4
abbrev Qqh:=oA 12550 Qp4
abbrev Qqi:=sX (uW (iD 5200 Qpy) Qqc)
abbrev Qqj:=ff 12500 Qp7
abbrev Qqk:=oA 12500 Qp7
def Ez:=jL Qia (ju 953 Qpu) cM T4 Qp8 (cf T2 Qqf Qnu Qqf (cf YU Qqf T3 (oC 12550 Qp4 Qqg (mD Qqh Qpw Qpx (dJ Qp5 Qp6 fF (jL Qqi fF Qm Ik fF fF)) fF)) (oC 12500 Qp7 Qqj (jF Qqk Qqe))))
abbrev Qql:=dJ Qpw Qpx (jF Qpz (iN Qp0 Qqd Qp1)) fF
abbrev Qqm:=oC 12500 Qpv Qp9 (jF Qqa Qql)
def Ey:=jL Qia (ju 954 Qpu) cM T4 Qp8 (cf T2 Qqm Qnu Qqm (cf YU Qqm T3 (oC 12550 Qp4 Qqg (mD Qqh Qpw Qpx (jF Qp5 (iN Qp6 Qqi Qp1)) fF)) (oC 12500 Qp7 Qqj (jF Qqk Qql))))
abbrev Qqn:=nr mh (.lit 2513169434915)
abbrev ri (l:List W):=Qm::bW::cM::l
abbrev Qqo:List W:=og (ri [eJ,hZ,iT,jI,Cu mh Qpt])
abbrev Qqp:=[Qf,Q0,Qa,Qa,bW,Qa,mh,Qa]
abbrev Qqq:=vy 1200 [bW]
abbrev Qqr:=mC (cZ 1200 [bW])
abbrev Qqs:=[rr 12600 Qqp 9,rr 12600 Qqp 10,Qf,iX]
abbrev Qqt:=oL Qmk iW
abbrev Qqu:=fD 12600 Qqp 12600 Qqp (mD (oA 12600 Qqp) Qqq Qqr (kz 5300 Qqs (iN (sV 5300 Qqs 3) (sX (iD 5300 Qqs)) Qqt)) fF)
abbrev Qqv:=[Qa,Qa,Qf,Qa,Qa,Qa,bW,Qa,mh,Qa]
abbrev Qqw:=[rr 12650 Qqv 11,rr 12650 Qqv 12,Qf,iX]
abbrev Qqx:=[Qf,Qa,Qa,Qa,bW,Qa,mh,Qa]
abbrev Qqy:=[rr 12600 Qqx 9,rr 12600 Qqx 10,Qf,iX]
abbrev Qqz:=cf T2 Qqu Qnu Qqu (cf YU Qqu T3 (fD 12650 Qqv 12650 Qqv (mD (oA 12650 Qqv) Qqq Qqr (kz 5350 Qqw (iN (sV 5350 Qqw 4) (sX (rr 5350 Qqw 3)) Qqt)) fF)) (fD 12600 Qqx 12600 Qqx (mD (oA 12600 Qqx) Qqq Qqr (kz 5300 Qqy (iN (sV 5300 Qqy 3) (sX (iD 5300 Qqy)) Qqt)) fF)))
abbrev Qq0:=ff 12700 Qqp
abbrev Qq1:=oA 12700 Qqp
abbrev Qq2:=[rr 12700 Qqp 9,rr 12700 Qqp 10,Qf,iX]
abbrev Qq3:=sV 5300 Qq2 3
abbrev Qq4:=sX (uW (iD 5300 Qq2) Qqc)
abbrev Qq5:=pK Qmk fF
abbrev Qq6:=oC 12700 Qqp Qq0 (mD Qq1 Qqq Qqr (kz 5300 Qq2 (iN Qq3 Qq4 Qq5)) fF)
abbrev Qq7:=ff 12750 Qqv
abbrev Qq8:=oA 12750 Qqv
abbrev Qq9:=[rr 12750 Qqv 11,rr 12750 Qqv 12,Qf,iX]
abbrev Qra:=sV 5350 Qq9 4
abbrev Qrb:=sX (uW (rr 5350 Qq9 3) Qqc)
abbrev Qrc:=ff 12700 Qqx
abbrev Qrd:=oA 12700 Qqx
abbrev Qre:=[rr 12700 Qqx 9,rr 12700 Qqx 10,Qf,iX]
abbrev Qrf:=sV 5300 Qre 3
abbrev Qrg:=sX (uW (iD 5300 Qre) Qqc)
def rX:=jL sN (eX Qqn 953 Qqo) eJ T4 Qqz (cf T2 Qq6 Qnu Qq6 (cf YU Qq6 T3 (oC 12750 Qqv Qq7 (mD Qq8 Qqq Qqr (kz 5350 Qq9 (iN Qra Qrb Qq5)) fF)) (oC 12700 Qqx Qrc (mD Qrd Qqq Qqr (kz 5300 Qre (iN Qrf Qrg Qq5)) fF))))
abbrev Qrh:=oC 12700 Qqp Qq0 (mD Qq1 Qqq Qqr (kz 5300 Qq2 (iN Qq3 Qq4 Qqt)) fF)
def rW:=jL sN (eX Qqn 954 Qqo) eJ T4 Qqz (cf T2 Qrh Qnu Qrh (cf YU Qrh T3 (oC 12750 Qqv Qq7 (mD Qq8 Qqq Qqr (kz 5350 Qq9 (iN Qra Qrb Qqt)) fF)) (oC 12700 Qqx Qrc (mD Qrd Qqq Qqr (kz 5300 Qre (iN Qrf Qrg Qqt)) fF))))
abbrev YS:=[Qf,Qa]
def af8:=gm 1050 YS 1050 YS 6 (kI (cZ 1050 YS) fc (kI (pR (rr 1050 YS 5) (rr 1050 YS 4)) qa iW)) fF
abbrev UL (l:List W):=Qa::iX::Qa::Qa::Qa::Qa::l
abbrev Qrj:=ou (UL [kX,Qa])
abbrev Qrk:=ou (UL [fc,Qa])
abbrev T1:=rr 12800 yM 3
abbrev uT a0 a1:=W.op .sub a0 a1
abbrev Qrm:=jv (.op .cnt (uT Qf (rq iX (mk T1) iX)) YV)
abbrev Qrn:=rr 12850 [Qf,T1] 3
abbrev YR:=uT Qf (rq (mk T1) (mk Qrn) iX)
abbrev Qrp:=l4 YR Qa
abbrev Qrq:W:=.lit 256
abbrev zX a0 a1:=l4 (.fk a0) a1
abbrev Qrr:=zX b0 Qrp
abbrev Qrs:=ou (UL [.lit 100,Qrm])
abbrev Qrt:=s5 32 nR
abbrev Qru:=jB (sZ YR) (s5 61 nR)
def UA:=eY (.lit 16384) qa Qrj (cf T5 Qrk (ry qa) Qrk (oN 12800 yM (ff 12800 yM) (oP T1 (gH qa T1) (gI T1 qa (ou [Ca,iX,Qa,Qrm,T1,T1,Qa,Qa]) (oN 12850 [Qf,T1] (ff 12850 [Qf,T1]) (xU (gH Qrn T1) (nU (gH qa Qrn) (pN YR) (gY (oZ Qrp) (gH Qrp Qrq) (jB Qrr kX) (gm 1100 [YR] 1100 [YR] 1 Qrs (ou [Q0,iX,cZ 1100 [YR],Qrm,T1,Qrn,Qa,Qa])) (eC Qrr qI (jw (nr YR (.lit 1000000000)) (nr (oR Qrt YR) (.lit 1000000000)) (ed (pV (.op .con (.fk b1) (oR (oR Qrt YR) Qrt))) Qru Qrs (ou [fc,YR,Qa,Qrm,T1,Qrn,Qa,Qa]) Qru Qrs (ou [kX,YR,Qa,Qrm,T1,Qrn,Qa,Qa]))) Qrr Ca (gM Qru Qrs [qI,YR,Qa,Qrm,T1,Qrn,Qa,Qa]) Qrs)))))))))
def af7:=k7 qa (ju 1101 []) (ju 1102 [Qa,Qf,qa,Qa])
def amG:=ou [Qa,Q0]
abbrev Qrv:=wr (.wrap .u8 (.sub (nm Qs) (.lit 48)))
def t!:=gM Qp (gY Qq Qr (oO (wr (.quo (pR (.lit 9223372036854775807) Qrv) YV))) Qor (ju 1102 [l7 (wr (.mul Qf YV)) Qrv,Qb,Qo,Q1])) [Qf,Q0]
abbrev Qrw:=ff 1000 [Qb]
abbrev Qrx:=pR zp Q0
abbrev Qry:=s5 45 nR
abbrev Qrz:=jB Qg Qry
abbrev Qr0:=s5 43 nR
abbrev Qr1:=s5 42 nR
abbrev Bn a0 a1 a2:=qpx a0 (qpx a1 a2)
abbrev Qr2:W:=.fk (Bn 61 61 nR)
abbrev Qr3:=s5 60 nR
def af6:=sp Qnx (jL QJ fF Qg iX (ru zp iW) fF) (ed Qnt (pV Qo) (ru zp (oC 1000 [Qb] Qrw iW)) fF T2 (ru Qo (iN (gH zp Q0) (gH fc zp) (qo Qrx (gH Qrx fc) (jL (pV Qrx) (qf Qrz iW) Qg Qr0 iW (jL Qrz iW Qg Qr1 iW (eC Qg Qr2 iW Qg Qr3 iW fF)))))) fF)
def af5:=eY qI Qf (eY Qj3 Qf (eY (.lit 11) Qf (eY (.lit 14) Qf (gI Qf Qme Qoj (cf (mC Ik) Qok (oO Qk9) (eY (.lit 21) Qf Qoq Qon) Qom)) YT) Qog) Qoe) iW
def af4:=oJ T3 iW Qol (eC Qf Qli iW Qf Qle iW fF)
def af3:=sp T2 iW (oJ T3 iW Qoh (oJ Qoo iW Qop fF))
def af2:=oJ T2 iW YU (oJ Qnu iW Qof fF)
abbrev Qr4:=sZ Qm
abbrev Qr5:=jL T3 (fD 1000 [Qm] 1000 [Qm] iW) Qr4 iX iW fF
def Uz:=iN (gH Qf Q0) (oO Yn) (oC 1000 [Qb] Qrw (zc QJ (qn Qo) (fD 1350 Qj 1350 Qj Qr5) Qr5))
def o!:=dJ Qh7 Qh8 (kz 300 yM (ju 1451 [Qb,Qc,cZ 300 yM])) (ou [Qh,Qh,cZ 450 yM])
abbrev Qr6:=ln (ic QF)
abbrev Qr7:=lI iX Qk Qga
def Uy:=gM Qia (nW Qib (pV Qr6) 1452 (AO [Qr7]) (oM Qr6 Qv 1452 (AO [lI iX (rpx Qr6 iX) Qga]))) [Qo,Qh,Qa]
abbrev Qr8:=s7 M7
abbrev Qr9:=gH QI Qgp
abbrev Qsa:=nQ bW iX Qk Qga
abbrev Qsb:=pM M7
abbrev Qsc:=ou [Qm,bW,Qa]
def Ux:=sp sN (gY QJ Ev Qr8 (gU Qr9 1452 [Qm,Qsa]) (jF Qsb (gU Qr9 1452 [Qm,nQ bW iX (rpx (ln M7) iX) Qga]))) Qsc
def af1:=jF Qiz (jL Qi0 fF zp Qc (ju 1501 [Qm,zp,Qa,Qf,Qb]) fF)
abbrev Qsd:=[Qm,bW,ce 0 Qdl,Qdm,ce 2 Qdl,Qio,M7,Qin,nm Qiq,nm WB,nm Nj]
def o_:=oL sN (nN Ev (jF WE (fD 1600 Qsd 1600 Qsd (pP 1501 [Qm,bW]))))
abbrev B0:=gH bW Qc
abbrev YQ:List W:=CE [Qm]
abbrev Qsg:=vy 1500 YQ
abbrev Qsh:=ff 1500 YQ
def af0:=mA xI B0 (dJ Qsg Qsh fF iW)
def afZ:=pK Il (jL (gH QI cM) fF QG zp (pK (oZ mh) (zc (gH Yl mh) Yk (qf Qpr (ru jI iW)) (eC hZ Ni (mA Qnk (pL iT) (kI (qq Qf iT) qI iW)) hZ Nh (mA Qnk (pL iT) (kI (qq Qf iT) Ca iW)) fF))) fF)
abbrev Qsi:=gH bW zp
abbrev Yj:=el Qm bW
abbrev Qsl:=pV (iq Yj)
abbrev Qsm:=fK Yj
abbrev H9:=ce 2 (el Qb bW)
abbrev Qso:=kI Qsm (ln H9) iW
def afY:=gY xI Qsi Qsl (jF B0 Qso) fF
abbrev Qsp:=vy 1550 QA
abbrev Qsq:=ff 1550 QA
abbrev Qsr:=ff 1650 QA
def Uw:=dJ Qsp Qsq fF (oC 1650 QA Qsr iW)
abbrev Qss:=el H9 Qsm
abbrev Qsw:=iq Qss
abbrev Qsx:=ou [Qa,Qa,Qa,Qa,Qa]
abbrev Qsy:=gI (fK Qss) fc (ou [.lit 26,Qsw,Qa,Qa,Q0]) Qsx
abbrev Qsz:=ou [iq Yj,gR Yj,kS Yj,Qa,Q0]
def IZ:=gY xI Qsi Qsl (nK 1650 QA Qsr (jF B0 (gY (oZ Qsm) (gf Qsm H9) (tU (fK Qss)) (ju 1751 [ce 6 Qss,ln (ce 6 Qss),Qa,Qsm,ic Yj,iq Yj,gR Yj,kS Yj,jg Yj,DY 1 Qss,Qsw,Qa]) Qsy)) Qsx) Qsz
def n?:=gM sN (nN Ev (kz 1950 [Qio,M7,Qin,Qiq,bW] (pP 1751 (ri [eJ,hZ,iT,jI,mh,cZ 1950 [Qio,M7,Qin,Qiq,bW]])))) [jI,mh,qx,iT,Q0]
abbrev agf (l:List W):=(rr 1750 QA 0)::(rr 1750 QA 1)::(rr 1750 QA 2)::(rr 1750 QA 3)::l
def n!:=dJ Qsp Qsq Qsx (gm 1750 QA 1750 QA 4 (ou (agf [Qa])) (ou (agf [Q0])))
abbrev zm:=[bW,Qo,Qm]
abbrev Qs1:=cZ 9050 zm
abbrev Ql:=iD 9050 zm
abbrev nV a0 a1:=rr a0 zm a1
abbrev Qs3:=nV 9050 3
abbrev Qs4:=[Qf,Qb,Ql,Qs3,bW]
abbrev Qs5:=[Qf,Qb,Ql,Qh,bW]
abbrev Qs6:=[Qf,Qb,Ql,Qk,bW]
abbrev M6:=mk bW
abbrev Qs8:=nV 9050 4
abbrev Qs9:=nV 9050 5
abbrev Qta:=nV 9050 6
abbrev Qtb:=nV 9050 7
abbrev Qtc:=nV 9050 8
abbrev Qtd:=nV 9050 9
abbrev Qte:=fX (mk Qta) (mk Qtb) (mk Qtc) (mk Qtd)
abbrev oI a0 a1 a2 a3:=agB a0 M6 a1 a2 a3
abbrev Qtf:=oI Qs3 (mk Qs8) Qs9 Qte
abbrev Qtg:=ou [Ql,Qtf,Qa,Qa,Qa,Qa,Qa,Qa]
abbrev Qth:=[Qf,Qb,Ql,Qtf,bW]
abbrev Qti:=ff 1650 Qth
abbrev Qtj:=sV 1750 Qth 4
abbrev Qtk:=[Qf,Qb,bW,Ql,Qs3,Qs8,Qs9,Qta,Qtb,Qtc,Qtd]
abbrev TZ:=[Qf,Qb,bW,cZ 1750 Qth,gk 1750 Qth,iD 1750 Qth,rr 1750 Qth 3,Ql,Qs3,Qs8,Qs9,Qta,Qtb,Qtc,Qtd]
abbrev Qtm:=ou [Ql,Qtf,Qa,Qa,Qa,Qa,Qa,qI]
abbrev aab a0 a1:=rr a0 TZ a1
abbrev xh a0:=aab 14500 a0
abbrev zV a0:=aab 14550 a0
abbrev kJ a0 a1 a2:=mk (rr a0 a1 a2)
def nC:=kz 9050 zm (jL (pV Qs1) (dJ Qsp Qsq (ou [Ql,Qs3,Qa,Qa,Qa,Qa,Qa,Qa]) (gm 1650 Qs4 1650 Qs4 0 (oN 1750 Qs4 (sV 1750 Qs4 4) fl) (ou [Ql,Qs3,Qa,Qa,Qa,Qa,Qa,qI]))) Qs1 Q0 (dJ Qsp Qsq (ou [Ql,Qh,Qa,Qa,Qa,Qa,Qa,Qa]) (gm 1650 Qs5 1650 Qs5 0 (oN 1750 Qs5 (sV 1750 Qs5 4) fl) (ou [Ql,Qh,Qa,Qa,Qa,Qa,Qa,qI]))) (eC Qs1 fc (dJ Qsp Qsq (ou [Ql,Qk,Qa,Qa,Qa,Qa,Qa,Qa]) (gm 1650 Qs6 1650 Qs6 0 (oN 1750 Qs6 (sV 1750 Qs6 4) fl) (ou [Ql,Qk,Qa,Qa,Qa,Qa,Qa,qI]))) Qs1 kX (dJ Qsp Qsq Qtg (nK 1650 Qth Qti (nK 1750 Qth Qtj (kz 14000 Qtk (oB (ff 14000 Qtk) [Ql,oI Qs3 (kJ 14000 Qtk 12) (rr 14000 Qtk 13) Qte,Qa,Qa,Qa,Qa,Qa,Q0])) (kz 14500 TZ (oB (ff 14500 TZ) [xh 22,oI Qs3 (kJ 14500 TZ 23) (xh 24) (fX (kJ 14500 TZ 25) (kJ 14500 TZ 26) (kJ 14500 TZ 27) (kJ 14500 TZ 28)),xh 16,xh 17,xh 18,xh 19,xh 20,xh 21]))) Qtm)) (mD (jB Qs1 qI) Qsp Qsq Qtg (nK 1650 Qth Qti (nK 1750 Qth Qtj (kz 14050 Qtk (oB (ff 14050 Qtk) [Ql,oI Qs3 (kJ 14050 Qtk 12) Qs9 Qte,Qa,Qa,Qa,Qa,Qa,Q0])) (kz 14550 TZ (oB (ff 14550 TZ) [zV 22,oI Qs3 (kJ 14550 TZ 23) Qs9 (fX (kJ 14550 TZ 24) (kJ 14550 TZ 25) (kJ 14550 TZ 26) (kJ 14550 TZ 27)),zV 16,zV 17,zV 18,zV 19,zV 20,zV 21]))) Qtm))))
abbrev Qtp:=oO Qb
abbrev Qtq:=gH Qb T7
abbrev Qtr:=el Qo Qb
abbrev Qty:=mk Qb
abbrev Qud:=[Qo,Qm]
abbrev Que:=ic Qtr
abbrev Qui:=mA QJ WE (ou [nm Qdl])
abbrev Quj:=el Qm Qa
abbrev Quk:=[fK Quj,ic Quj,iq Quj,ce 3 Quj,bW]
abbrev Qul:=cZ 1950 Quk
abbrev Qum:=el Qm Q0
abbrev Qun:=[fK Qum,ic Qum,iq Qum,ce 3 Qum,bW]
abbrev Quo:=cZ 1950 Qun
abbrev Qup:=uW (uW (uW iX (cn Qr0 (mk (l7 Qul Quo)))) (cn Qry (mk (pR Qul Quo)))) (cn Qr1 (mk (wr (.mul Qul Quo))))
abbrev Quq:=gM (pV (.op .EB Qup Qg)) fF [nm (.op .EC Qup Qg)]
def yQ:=l3 Qnx [Qo] (cf Qnt Qui T2 (eC zp Q0 (qf Qrz (kz 1950 Quk (ou [pR Qa Qul]))) zp fc (kz 1950 Quk (kz 1950 Qun (eC Qg Qr2 (gI Qul Quo iW Quq) Qg Qr3 (eY Qul Quo iW Quq) Quq))) fF) fF)
def afX:=kz 200 [Qf,Qo] (jL (ff 200 [Qf,Qo]) fF Qc zp (ju 2051 [Qc,Qa,Qf,Qb,Qo,Qm]) fF)
def l?:=oL Qtp (nU T5 Qgj (dJ (gH Qb QH) (jB Qgt (fK IG)) (kI Qgu (iq IG) (kI Qgv (gR IG) (kI Qgw (kS IG) (kI Qgx (jg IG) (kI (ln Qgm) (ln (ic IG)) (ju 2052 [Qf,Qb,ln Qgm,Qa,Qo,Qm,bW,cM,Qgt,Qgm,Qgu,Qgv,Qgw,Qgx,fK IG,ic IG,iq IG,gR IG,kS IG,jg IG])))))) fF))
abbrev Qut:=[Qf,IH,bW,cM,eJ,hZ]
abbrev sW a0:=gf Qm a0
def l!:=qE Qp (Bl (sW jI) (dJ (sW YY) (jB (l4 jI Qm) (l4 YY Qm)) (rm 2052 (AN [eJ,hZ,iT,jI,mh,qx,zo,qv,zn,YY,.dP 16,.dP 17,.dP 18,.dP 19])) fF)) 2051 Qut
def Uv:=gm 1450 yM 1450 yM 2 (ju 2401 [Qo,Qc,Qa,Qf,Qb,cZ 1450 yM,gk 1450 yM]) (ou [Qh,Qh,Qh])
abbrev Quu:=l7 (.rem Yp Qb) Qb
abbrev Quv:W:=.rem Quu Qb
abbrev Quw:List W:=ri [eJ,Quv]
abbrev Qux:=rr 1850 Quw 7
abbrev Quy:=gk 1850 Quw
abbrev w9 a0:=cZ 1850 a0
abbrev nj a0 a1:=kJ 1850 a0 a1
abbrev Quz:=pP 2402 [oQ iX (nj Quw 2) (fX (nj Quw 3) (nj Quw 4) (nj Quw 5) (nj Quw 6)),Qm,bW,w9 Quw,Quy]
abbrev Qu0:=pP 2401 [Qm,bW,w9 Quw,Quy]
abbrev Qu1:=ou [Qh,cM,eJ]
def DD:=nL Ev Qia (oy (qo Quv (gH Quv QG) (nK 1850 Quw (mS Qux) Quz (kT Qux Quz Qux Q0 Qu0 (jF (gf Quv Quy) Qu0))))) Qu1 Qu1
abbrev Qu2:List W:=Gh [Quv]
abbrev Qu3:=rr 1850 Qu2 7
abbrev Qu4:W:=.lit 3518437208882
abbrev Qu5:=gk 1850 Qu2
abbrev Qu6:=gU (gH zp Qu4) 2402 [oQ Qm (nj Qu2 2) (fX (nj Qu2 3) (nj Qu2 4) (nj Qu2 5) (nj Qu2 6)),bW,cM,w9 Qu2,Qu5]
abbrev Qu7:=pP 2402 (ri [w9 Qu2,Qu5])
def IY:=gM Ev (gM Qia (oy (qo Quv (gf Quv hZ) (nK 1850 Qu2 (mS Qu3) Qu6 (kT Qu3 Qu6 Qu3 Q0 Qu7 (jF (gf Quv Qu5) Qu7))))) [Qm,eJ,hZ]) [Qm,eJ,hZ]
def afW:=kI qa Qc (ju 2451 Qhl)
def j!:=oL Qp (Bl Qhm (nW Qr (.and (jB (fK WC) Qfl) (.and (jB (DY 1 WC) Qfm) (.and (jB Qhq Qfn) (.and (jB (gR WC) Qfp) (jB (nm Qhs) (nm Qt)))))) 2451 Qh0 fF))
def j_:=dJ Qsg Qsh fF (ju 2551 [Qc,Qa,Qf,Qb,Qo,Qm])
abbrev Jp (l:List W):=Qo::Qm::bW::cM::l
abbrev Qu8:List W:=Jp [Qb]
abbrev Qu9:=ju 2551 (Iu [cM])
abbrev Qva:=gI (cZ 1800 Qu8) qI (eY (rr 1800 Qu8 3) (iD 1800 Qu8) fF Qu9) Qu9
def IX:=oL Qtp (kz 1850 Qu8 (kz 1800 Qu8 (jL (sV 1850 Qu8 7) Qva (rr 1850 Qu8 7) qI Qva fF)))
def i?:=kz 3600 Qud (dJ Qsg Qsh (ou [Qh,cZ 3600 Qud,gk 3600 Qud]) (ju 2651 [bW,Qa,Qf,Qb,cZ 3600 Qud,gk 3600 Qud]))
abbrev Qvb:=gH Qb (.lit 100000)
abbrev Qvc:=ju 2652 [Qf,Qb,zp,Qa,Qo,Qm,bW,cM]
abbrev Qvd:=ou [Qh,bW,cM]
def i!:=ed (oO (.lit 100000)) Qvb Qvc Qvd Qtp Qvc Qvd
abbrev Qve:=sW hZ
abbrev Ij:List W:=Gh [Qm]
abbrev Qvg:=rr 1850 Ij 7
abbrev Qvh:=gk 1850 Ij
abbrev Qvi:=rm 2653 (AN [oQ iX (nj Ij 2) (fX (nj Ij 3) (nj Ij 4) (nj Ij 5) (nj Ij 6)),w9 Ij,Qvh])
abbrev Qvj:List W:=CE (AN [w9 Ij,Qvh])
abbrev Qvk:=ju 2654 Qvj
abbrev Qvl:=jB (jg (pO Qvh)) (jg (pO hZ))
def IW:=qE Qp (Bl Qve (nK 1850 Ij (mS Qvg) Qvi (kT Qvg Qvi Qvg Q0 Qvk (nW (sW Qvh) Qvl 2652 Qvj Qvk)))) 2655 Qut
abbrev Qvm:=[bW,cM,hZ,iT,Qm]
abbrev Qvn:=rr 1850 Qvm 7
abbrev Qvo:=gk 1850 Qvm
abbrev Qvp:=oM QG Qu4 2653 (CE (AN [oQ eJ (nj Qvm 2) (fX (nj Qvm 3) (nj Qvm 4) (nj Qvm 5) (nj Qvm 6)),w9 Qvm,Qvo]))
abbrev Qvq:List W:=CE (AN [eJ,w9 Qvm,Qvo])
abbrev Qvr:=ju 2653 Qvq
abbrev Qvs:=jB (jg (pO Qvo)) (jg (pO iT))
abbrev Qvt:=[Qf,IH,bW,cM,eJ,hZ,iT]
def IV:=qE Qp (Bl (sW iT) (nK 1850 Qvm (mS Qvn) Qvp (kT Qvn Qvp Qvn Q0 Qvr (dJ (sW Qvo) Qvs Qvr Qvr)))) 2656 Qvt
def IU:=qE Qp (Bl Qve (nK 1850 Ij (mS Qvg) Qvi (kT Qvg Qvi Qvg Q0 Qvk (dJ (sW Qvh) Qvl Qvk Qvk)))) 2651 Qut
def afV:=ou [Qh,bW,cM]
abbrev Qvu:=ju 2657 [Qf,Qb,zp,Qa,Qo,Qm,bW,cM,eJ]
def i_:=ed (oO (.lit 100000)) Qvb Qvu (ou [bW,cM,eJ]) Qtp Qvu (ou [bW,cM,eJ])
def IT:=qE Qp (Bl (sW iT) (nK 1850 Qvm (mS Qvn) Qvp (kT Qvn Qvp Qvn Q0 Qvr (nW (sW Qvo) Qvs 2657 Qvq Qvr)))) 2658 Qvt
def afU:=ou [bW,cM,eJ]
def afT:=ju 3601 [Qf,qa,Qb]
abbrev Qvw:=ce 4 QF
abbrev Qvx:=s7 (ce 5 QF)
abbrev Qvy:=mk Qid
abbrev Qvz:=np 1 QF
abbrev Qv0:W:=.op .bit Qif Qa
abbrev Qv1:=np 3 QF
abbrev Qv2:=Cu iX (uS Qvy Qvz Qv0 Qv1 Qff)
abbrev Qv3:=pM (ce 5 QF)
abbrev Qv4:=lI Qvy Qvz (fX Qv0 Qv1 Qk (ce 5 QF))
abbrev Qv5:=oQ iX Qvy (uS Qvz Qv0 Qv1 Qvw WD)
abbrev Qv6:=lI Qvy Qvz (fX Qv0 Qv1 Qvw (ce 5 QF))
def IS:=qE Qia (dJ Qib (s7 Qvw) (sp Qvx (ju 3602 (AO [Qv2])) (eX Qv3 3602 (AO [Qv4]))) (nW (pM Qvw) Qvx 3602 (AO [Qv5]) (eX Qv3 3602 (AO [Qv6])))) 3603 [Qo,T7]
abbrev Qv7:=s7 Nj
abbrev Qv8:=gH QI Qfi
abbrev Qv9:=mk Qio
abbrev Qwa:=xb M7
abbrev Qwb:W:=.op .bit (mk Qin) Qa
abbrev Qwc:=xb Qiq
abbrev Qwd:=uS Qv9 Qwa Qwb Qwc Qff
abbrev Qwe:=rq Qv9 Qwa (fX Qwb Qwc Qk Nj)
abbrev Qwf:=cn Qv9 (uS Qwa Qwb Qwc WB WD)
abbrev Qwg:=rq Qv9 Qwa (fX Qwb Qwc WB Nj)
def IQ:=qE sN (gY QJ Ev (s7 WB) (sp Qv7 (gU Qv8 3602 [Qm,Cu bW Qwd]) (jF Qn9 (gU Qv8 3602 [Qm,Cu bW Qwe]))) (dJ Qn7 Qv7 (gU Qv8 3602 [Qm,Cu bW Qwf]) (jF Qn9 (gU Qv8 3602 [Qm,Cu bW Qwg])))) 3604 [Qm,zp,bW]
abbrev Qwh:=fX Qif Qv1 (xb Qvw) (np 5 QF)
abbrev Qwi:=lI Qvy Qk Qwh
abbrev Qwj:=lI Qvy (ic QF) Qwh
def Uu:=gM Qia (nW Qib (pV Qr6) 3605 [Qf,Qb,Q0,Qwi] (oM Qr6 Qv 3605 [Qf,Qb,Q0,Qwj])) [Qh,Qh]
def Ut:=gM Qia (nW Qib (pV Qr6) 3606 (AO [Qwi]) (oM Qr6 Qv 3606 (AO [Qwj]))) [Qo,Qh]
abbrev Qwk:=fX (mk Qin) Qwc (xb WB) (xb Nj)
def Us:=gM sN (gY QJ Ev Qr8 (gU (gH zp Qgp) 3605 [nQ Qm Qv9 Qk Qwk]) (jF Qsb (gU (gH zp Qgp) 3605 [nQ Qm Qv9 M7 Qwk]))) [Qh,Qm]
def Ur:=gM sN (gY QJ Ev Qr8 (gU Qr9 3606 [Qm,nQ bW Qv9 Qk Qwk]) (jF Qsb (gU Qr9 3606 [Qm,nQ bW Qv9 M7 Qwk]))) [Qm,bW]
def afS:=ju 3801 [Qf,qa,qa,Qa]
def h!:=oJ Qp (sY (eX Qhm 3801 [Qf,l7 Qb (l7 (ln Qhs) Qht),Qo,Q1])) (ry (.lit 3000)) fF
abbrev Qwl:=vy 4050 yM
abbrev Qwm:=ff 4050 yM
def Uq:=nW Qwl Qwm 3851 yM Qh9
abbrev Qwn:=ju 3852 [Qig,Q0,Qf,Qb]
def h_:=sp Qib (kT Qid Qwn Qid Yn Qwn (ju 3852 [Qij,Q0,Qf,Qb])) Qh9
abbrev Qwo:=fK Qtr
abbrev Qwq:=eX Qik 3852 [nQ Qf Eu (np 2 Qtr) Qe5,IH,Qo,Qm]
def g!:=gM Qtq (qi (kT Qwo Qwq Qwo Yn Qwq (eX Qik 3852 [Qim,IH,Qo,Qm]))) Qj
def afR:=dJ Qwl Qwm (kI T7 qa (ju 3901 [Qo,Qa,Qf,Qb])) fF
abbrev Qwr:=pL Qb
abbrev Qws:=el Qf Qb
abbrev Qwt:=ce 3 Qtr
abbrev age (l:List W):=Qwo::Que::(DY 2 Qtr)::Qwt::(nm (ce 4 Qtr))::(DY 0 Qws)::(DY 1 Qws)::l
abbrev Qwu:List W:=age [Qa,gR Qws,ce 4 Qws,ce 5 Qws,zp]
abbrev Qwv:=ju 3901 [Qf,IH,Qo,Qm]
abbrev Qww:List W:=age [Q0,gR Qws,ce 4 Qws,ce 5 Qws,zp]
def Up:=oL Qwr (gY T5 Qtq (pV (iq Qws)) (fD 4100 Qwu 4100 Qwu Qwv) (fD 4100 Qww 4100 Qww Qwv))
def afQ:=ju 3951 Qj
def g_:=sp Qib (k7 (ln Qvw) (sp Qvx (ju 3952 [Qf,Qv2,Q0]) (eX Qv3 3952 [Qf,Qv4,Q0])) (nW (pM Qvw) Qvx 3952 [Qf,Qv5,Q0] (eX Qv3 3952 [Qf,Qv6,Q0]))) Qh9
abbrev Qwx:=gH Qc Qfi
def f?:=sp Ev (oy (k7 (ln WB) (sp Qv7 (eX Qwx 3952 [Qf,Cu Qb Qwd,Du]) (jF Qn9 (eX Qwx 3952 [Qf,Cu Qb Qwe,Du]))) (dJ Qn7 Qv7 (eX Qwx 3952 [Qf,Cu Qb Qwf,Du]) (jF Qn9 (eX Qwx 3952 [Qf,Cu Qb Qwg,Du]))))) Qhi
abbrev Qwy:=cZ 9100 Qiw
abbrev Qwz:=vy 3900 Qiy
abbrev Qw0:=ff 3900 Qiy
abbrev Qw1:=vy 4150 [bW]
abbrev Qw2:=jB (cZ 4150 [bW]) (qq Qf cM)
abbrev vH:=iD 9100 Qiw
abbrev Qw4:=rv 9100 3
abbrev ER:=mk Qw4
abbrev TY:=rv 9100 4
abbrev vW:=mk TY
abbrev B8:W:=.op .bit (kJ 9100 Qiw 5) Qa
abbrev YP:=rv 9100 6
abbrev Dt:=mk YP
abbrev Qxb:=rq B8 Dt Qff
abbrev Qxc:=cn Qi7 (rq ER vW Qxb)
abbrev Qxd:=stx vH Qxc
abbrev Qxe:=ou [Qxd,Qa,Qa,Qa,Qa,Qa,Qa]
abbrev Qxf:=gf cM vH
abbrev TX:=jB Qw4 Qm
abbrev qu:=kz 3950 [Qo] (ou [cZ 3950 [Qo],Qm,Qjs,cM,wr bW,Qa,fc])
abbrev Fx:=jB Qw4 T4
abbrev Bm a0 a1 a2:=Bo vH a0 a1 a2
abbrev Qxk:=Bm T8 vW Qxb
abbrev pw:=kz 3950 [Qo] (ou [cZ 3950 [Qo],Qa,Qa,Qa,Qa,Qa,Qa])
abbrev Qxm:=l3 Fx [Qxk,Qm,bW,cM,Qa,Qa,fc] pw
abbrev Qxn:=l3 TX [Bm Eu vW Qxb,Qm,bW,cM,Qa,Qa,fc] qu
abbrev Qxo:=ou [Qxk,Qm,bW,cM,Q0,Qa,fc]
abbrev Qxp:=ou [Qxd,Qm,bW,cM,Qa,Qa,fc]
abbrev Qxq:=oZ (cZ 4400 [Qm,Qk])
abbrev Qxr:=uS vW B8 Dt Qly WD
abbrev Qxs:=vy 20000 [Qm]
abbrev Qxt:=ff 20000 [Qm]
abbrev Qxu:=kZ vH ER vW B8 Dt Qh WD
abbrev Qxv:=ou [Qxu,Qm,bW,cM,Qa,Qa,fc]
abbrev YO:=qn TY
abbrev Qxx:=pR TY Q0
abbrev lZ a0 a1:=Bm ER a0 a1
abbrev Qxy:=lZ (mk Qxx) Qxb
abbrev Qxz:=gH TY B9
abbrev Qx0:=mk (jv TY)
abbrev Qx1:=lZ Qx0 Qxb
abbrev Qx2:=gf B9 vH
abbrev Qx3:=ou [nP vH Eu Qxr,Qm,bW,cM,Qa,Qa,kX]
abbrev Qx5:=jB (qq vH B9) Qm
abbrev Qx6:=rz vH B9 (sU (el vH B9) iX Eu)
abbrev Qx7:=ou [nP Qx6 ER Qxr,Qm,bW,cM,Qa,Qa,kX]
abbrev Qx8:=jB (qq vH B9) T4
abbrev Qx9:=rz vH B9 (sU (el vH B9) iX T8)
abbrev Qya:=gH YP Yl
abbrev Qyb:=jB (jv TY) B9
abbrev Qyc:=mk (jv YP)
abbrev Qyd:=gH eJ YP
abbrev Qye:=sV 9100 Qiw 5
abbrev Qyf:=gH eJ (.lit (-1099511627776))
abbrev Qyg:=gH Qk5 eJ
abbrev Yi:=l7 TY eJ
abbrev Qyj:=gH Qk5 Yi
abbrev Ds:=rv 9100 7
abbrev Qym:=cn Dt (rq Qk Ds iX)
abbrev Qyn:=cn B8 Qym
abbrev Qyo:=cn Qi7 (rq ER vW Qyn)
abbrev Qyp:=stx vH Qyo
abbrev Qyq:=ou [Qyp,Qa,Qa,Qa,Qa,Qa,Qa]
abbrev Qyr:=Bm T8 vW Qyn
abbrev Qys:=l3 Fx [Qyr,Qm,bW,cM,Qa,Qa,fc] pw
abbrev Qyt:=l3 TX [Bm Eu vW Qyn,Qm,bW,cM,Qa,Qa,fc] qu
abbrev Qyu:=ou [Qyr,Qm,bW,cM,Q0,Qa,fc]
abbrev Qyv:=ou [Qyp,Qm,bW,cM,Qa,Qa,fc]
abbrev Qyw:=cn vW (fX B8 Dt Qly Ds)
abbrev Qyx:=ou [lZ vW (fX B8 Dt Qh Ds),Qm,bW,cM,Qa,Qa,fc]
abbrev Qyy:=lZ (mk Qxx) Qyn
abbrev Qyz:=lZ Qx0 Qyn
abbrev TW:=ln Ds
abbrev Qy1:=oZ (.sub TW Q0)
abbrev Qy2:=gH TW (xe Q0 TW Q0)
abbrev Qy3:=s9 (nM Ds (xe Q0 TW Q0)) Q0
abbrev Qy4:=cn B8 (rq Dt Ds WD)
abbrev Qy5:=cn Qi7 (rq ER vW Qy4)
abbrev Qy6:=stx vH Qy5
abbrev Qy7:=ou [Qy6,Qa,Qa,Qa,Qa,Qa,Qa]
abbrev Qy9:=Bm T8 vW Qy4
abbrev Qza:=ou [Qy9,Qm,bW,cM,Qa,Qa,fc]
abbrev Qzb:=l3 TX [Bm Eu vW Qy4,Qm,bW,cM,Qa,Qa,fc] qu
abbrev Qzc:=ou [Qy9,Qm,bW,cM,Q0,Qa,fc]
abbrev Qzd:=ou [Qy6,Qm,bW,cM,Qa,Qa,fc]
abbrev Qze:=oZ (cZ 4400 [Qm,Ds])
abbrev Qzf:=vy 20050 [Ds,Qm]
abbrev Qzg:=ff 20050 [Ds,Qm]
abbrev Qzh:=oA 20050 [Ds,Qm]
abbrev Qzi:=rr 20050 [Ds,Qm] 3
abbrev Qzk:=lZ (mk Qxx) Qy4
abbrev Qzl:=lZ Qx0 Qy4
abbrev Qzm:=nr Qzi Qke
abbrev Qzn:=uS vW B8 Dt (Cu Qzi T8) WD
abbrev Qzo:=jv (l4 Ds Qa)
abbrev Qzp:=rv 9100 8
abbrev Qzq:=cn Qzp iX
abbrev Qzr:=cn B8 (rq Dt Ds Qzq)
abbrev Qzs:=cn Qi7 (rq ER vW Qzr)
abbrev Qzt:=stx vH Qzs
abbrev Qzu:=ou [Qzt,Qa,Qa,Qa,Qa,Qa,Qa]
abbrev Qzv:=Bm T8 vW Qzr
abbrev Qzw:=ou [Qzv,Qm,bW,cM,Qa,Qa,fc]
abbrev Qzx:=l3 TX [Bm Eu vW Qzr,Qm,bW,cM,Qa,Qa,fc] qu
abbrev Qzy:=ou [Qzv,Qm,bW,cM,Q0,Qa,fc]
abbrev Qzz:=ou [Qzt,Qm,bW,cM,Qa,Qa,fc]
abbrev Qz0:=kZ vH ER vW B8 Dt Qh Qzq
abbrev Qz1:=lZ (mk Qxx) Qzr
abbrev Qz2:=lZ Qx0 Qzr
abbrev Qz3:=xe Q0 (ln Qzp) Q0
abbrev Qz4:=uS vW B8 Dt Qly Qzq
abbrev Qz5:=uS vW B8 Dt (Cu Qzi T8) Qzq
abbrev Qz6:=ou [vH,Qa,Qa,Qa,Qa,Qa,Qa]
abbrev Bk a0 a1 a2 a3:=cf a0 qu a1 a2 a3
abbrev nS a0 a1 a2:=Bk TX a0 a1 a2
def lV:=nK 9100 Qiw (pV Qwy) (qe Qwz Qw0 Qi5 Qi5 (cf Il Qi5 Qjo (jF Qw1 (xU Qw2 Qi5)) Qi5) Qi5) (eC Qwy Q0 (qe Qwz Qw0 Qxe Qxe (cf Il Qxe Qjo (dJ Qw1 Qw2 (jw Qxf (vy 4400 [Qm,Qk]) (ed Qjq TX qu Qxm Qj1 Qxn (cf Qj4 Qxn Qj5 (sp Fx Qxo Qxp) (cf Qj9 (cf Fx Qxo Qka pw Qxp) Qkc (nS Qxq (l3 Fx [nP vH ER Qxr,Qm,bW,cM,Qa,Qa,fc] pw) qu) (ed Qkh Qxq qu (jw Qxs Qxt Qxv) Qks (nS Qxq Qxm qu) (mB Qku YO [Qxy,Qm,bW,cM,Qa,Qa,fc] pw Qkx (l3 YO [Qxy,Qm,bW,cM,Q0,Qa,fc] Qxp) (mB Qk0 Qxz [Qx1,Qm,bW,cM,Qa,Qa,fc] qu Qlj (eY Qa B9 (ou [kZ vH ER vW B8 Dt Qk Qmo,Qm,bW,cM,eJ,Qa,fc]) pw) (cf Qll pw Qlc (ou [Qxd,Qm,bW,cM,TY,Qa,fc]) (cf Qlf (ou [lZ Qlg Qxb,Qm,bW,cM,eJ,Qa,fc]) Qlo (oK Qx2 (ed Ym TX (jw Qxs Qxt Qx3) qu Qx5 (jw Qxs Qxt Qx7) qu)) (cf Ql9 Qxp Qma Qxv (ed Qmd Qxq (oK Qx2 (cf Ym Qxm Qx8 (ou [stx Qx9 Qxc,Qm,bW,cM,Qa,Qa,fc]) pw)) pw Qmf (sp Qya (rA Qyb [sU vH Qi7 (uS ER iX B8 Qyc Qff),Qm,bW,cM,YP,Qa,kX] [Qx1,Qm,bW,cM,YP,Qa,kX]) qu) (mB Qmi Qyd [Qxd,Qm,bW,cM,eJ,Qa,fc] pw Qmk (sp Qye (nS Fx Qxo pw) Qxp) (mB Qml TX [sU vH Qi7 (uS Eu vW Qh Dt Qff),Qm,bW,cM,Qa,Qa,fc] qu Qk4 (Bk Qyf Qyg qu (Bk (oZ Yi) Qyj qu (ou [lZ (mk Yi) Qxb,Qm,bW,cM,Yi,Qa,fc]))) (mB Qk7 YO [Qxy,Qm,bW,cM,Qxx,Qa,fc] qu Qla (k7 TY Qxp pw) pw)))))))))))))) Qxe) Qxe) Qxe) Qwy fc (qe Qwz Qw0 Qyq Qyq (cf Il Qyq Qjo (dJ Qw1 Qw2 (jw Qxf (vy 4400 [Qm,Qk]) (ed Qjq TX qu Qys Qj1 Qyt (cf Qj4 Qyt Qj5 (sp Fx Qyu Qyv) (cf Qj9 (cf Fx Qyu Qka pw Qyv) Qkc (nS Qxq (l3 Fx [nP vH ER Qyw,Qm,bW,cM,Qa,Qa,fc] pw) qu) (ed Qkh Qxq qu (jw Qxs Qxt Qyx) Qks (nS Qxq Qys qu) (mB Qku YO [Qyy,Qm,bW,cM,Qa,Qa,fc] pw Qkx (l3 YO [Qyy,Qm,bW,cM,Q0,Qa,fc] Qyv) (mB Qk0 Qxz [Qyz,Qm,bW,cM,Qa,Qa,fc] qu Qlj (eY TW B9 (oB (gH TW Qke) [lZ vW (fX B8 Dt Qk (Cu Ds Qlg)),Qm,bW,cM,eJ,Qa,fc]) pw) (ed Qll (qn TW) (vE Qy1 Qy2 (ou [lZ vW (fX B8 Dt Qk Qy3),Qm,bW,cM,l4 Ds Qa,Qa,fc])) pw Qlc (ou [Qyp,Qm,bW,cM,TY,Qa,fc]) (cf Qlf (ou [lZ Qlg Qyn,Qm,bW,cM,eJ,Qa,fc]) Qlo (oK Qx2 (ed Ym TX (jw Qxs Qxt (ou [nP vH Eu Qyw,Qm,bW,cM,Qa,Qa,kX])) qu Qx5 (jw Qxs Qxt (ou [nP Qx6 ER Qyw,Qm,bW,cM,Qa,Qa,kX])) qu)) (cf Ql9 Qyv Qma Qyx (ed Qmd Qxq (oK Qx2 (cf Ym Qys Qx8 (ou [stx Qx9 Qyo,Qm,bW,cM,Qa,Qa,fc]) pw)) pw Qmf (sp Qya (rA Qyb [lZ iX (fX B8 Qyc Qk Ds),Qm,bW,cM,YP,Qa,kX] [Qyz,Qm,bW,cM,YP,Qa,kX]) qu) (mB Qmi Qyd [Qyp,Qm,bW,cM,eJ,Qa,fc] pw Qmk (sp Qye (nS Fx Qyu pw) Qyv) (mB Qml TX [stx vH (uS Qi7 Eu vW Qh Qym),Qm,bW,cM,Qa,Qa,fc] qu Qk4 (Bk Qyf Qyg qu (Bk (oZ Yi) Qyj qu (ou [lZ (mk Yi) Qyn,Qm,bW,cM,Yi,Qa,fc]))) (mB Qk7 YO [Qyy,Qm,bW,cM,Qxx,Qa,fc] qu Qla (k7 TY Qyv pw) pw)))))))))))))) Qyq) Qyq) Qyq) (kT Qwy (qe Qwz Qw0 Qy7 Qy7 (cf Il Qy7 Qjo (dJ Qw1 Qw2 (jw Qxf (vy 4400 [Qm,Ds]) (cf Qjq (nS Fx Qza pw) Qj1 Qzb (cf Qj4 Qzb Qj5 (sp Fx Qzc Qzd) (cf Qj9 (cf Fx Qzc Qka pw Qzd) Qkc (nS Qze (sp Fx (oB (gH TW Qke) [kZ vH ER vW B8 Dt (Cu Ds T8) WD,Qm,bW,cM,Qa,Qa,fc]) pw) qu) (ed Qkh Qze qu (dJ Qzf Qzg Qxv (oB Qzh [kZ vH ER vW B8 Dt Qzi WD,Qm,bW,cM,Qa,Qa,fc])) Qks (nS Qze (sp Fx (k7 TW Qza pw) pw) qu) (mB Qku YO [Qzk,Qm,bW,cM,Qa,Qa,fc] pw Qkx (l3 YO [Qzk,Qm,bW,cM,Q0,Qa,fc] Qzd) (mB Qk0 Qxz [Qzl,Qm,bW,cM,Qa,Qa,fc] qu Qlj (eY Qa B9 (ou [kZ vH ER vW B8 Dt Ds Qmo,Qm,bW,cM,eJ,Qa,fc]) pw) (cf Qll pw Qlc (ou [Qy6,Qm,bW,cM,TY,Qa,fc]) (cf Qlf (ou [lZ Qlg Qy4,Qm,bW,cM,eJ,Qa,fc]) Qlo (oK Qx2 (ed Ym TX (dJ Qzf Qzg Qx3 (jw Qzh Qzm (ou [nP vH Eu Qzn,Qm,bW,cM,Qa,Qa,kX]))) qu Qx5 (dJ Qzf Qzg Qx7 (jw Qzh Qzm (ou [nP Qx6 ER Qzn,Qm,bW,cM,Qa,Qa,kX]))) qu)) (ed Ql9 (pV TW) Qzd (vE Qy1 Qy2 (ou [kZ vH ER vW B8 Dt Qy3 WD,Qm,bW,cM,Qzo,Qa,fc])) Qma (ou [Qxu,Qm,bW,cM,TW,Qa,fc]) (ed Qmd Qze (oK Qx2 (ed Ym Fx Qza pw Qx8 (ou [stx Qx9 Qy5,Qm,bW,cM,Qa,Qa,fc]) pw)) pw Qmf (sp Qya (rA Qyb [kZ vH ER iX B8 Qyc Ds WD,Qm,bW,cM,YP,Qa,kX] [Qzl,Qm,bW,cM,YP,Qa,kX]) qu) (mB Qmi Qyd [Qy6,Qm,bW,cM,eJ,Qa,fc] pw Qmk (sp Qye (nS Fx Qzc pw) Qzd) (mB Qml TX [kZ vH Eu vW Qh Dt Ds WD,Qm,bW,cM,Qa,Qa,fc] qu Qk4 (Bk Qyf Qyg qu (Bk (oZ Yi) Qyj qu (ou [lZ (mk Yi) Qy4,Qm,bW,cM,Yi,Qa,fc]))) (mB Qk7 YO [Qzk,Qm,bW,cM,Qxx,Qa,fc] qu Qla (k7 TY Qzd pw) pw)))))))))))))) Qy7) Qy7) Qy7) Qwy qI (qe Qwz Qw0 Qzu Qzu (cf Il Qzu Qjo (dJ Qw1 Qw2 (jw Qxf (vy 4400 [Qm,Ds]) (cf Qjq (nS Fx Qzw pw) Qj1 Qzx (cf Qj4 Qzx Qj5 (sp Fx Qzy Qzz) (cf Qj9 (cf Fx Qzy Qka pw Qzz) Qkc (nS Qze (sp Fx (oB (gH TW Qke) [kZ vH ER vW B8 Dt (Cu Ds T8) Qzq,Qm,bW,cM,Qa,Qa,fc]) pw) qu) (ed Qkh Qze qu (dJ Qzf Qzg (ou [Qz0,Qm,bW,cM,Qa,Qa,fc]) (oB Qzh [kZ vH ER vW B8 Dt Qzi Qzq,Qm,bW,cM,Qa,Qa,fc])) Qks (nS Qze (sp Fx (k7 TW Qzw pw) pw) qu) (mB Qku YO [Qz1,Qm,bW,cM,Qa,Qa,fc] pw Qkx (l3 YO [Qz1,Qm,bW,cM,Q0,Qa,fc] Qzz) (mB Qk0 Qxz [Qz2,Qm,bW,cM,Qa,Qa,fc] qu Qlj (eY (ln Qzp) B9 (oB (nr Qzp Qke) [lZ vW (fX B8 Dt Ds (Cu Qzp Qlg)),Qm,bW,cM,eJ,Qa,fc]) pw) (ed Qll (pN Qzp) (oP (.sub (ln Qzp) Q0) (nr Qzp Qz3) (ou [lZ vW (fX B8 Dt Ds (s9 (nM Qzp Qz3) Q0)),Qm,bW,cM,l4 Qzp Qa,Qa,fc])) pw Qlc (ou [Qzt,Qm,bW,cM,TY,Qa,fc]) (cf Qlf (ou [lZ Qlg Qzr,Qm,bW,cM,eJ,Qa,fc]) Qlo (oK Qx2 (ed Ym TX (dJ Qzf Qzg (ou [nP vH Eu Qz4,Qm,bW,cM,Qa,Qa,kX]) (jw Qzh Qzm (ou [nP vH Eu Qz5,Qm,bW,cM,Qa,Qa,kX]))) qu Qx5 (dJ Qzf Qzg (ou [nP Qx6 ER Qz4,Qm,bW,cM,Qa,Qa,kX]) (jw Qzh Qzm (ou [nP Qx6 ER Qz5,Qm,bW,cM,Qa,Qa,kX]))) qu)) (ed Ql9 (pV TW) Qzz (vE Qy1 Qy2 (ou [kZ vH ER vW B8 Dt Qy3 Qzq,Qm,bW,cM,Qzo,Qa,fc])) Qma (ou [Qz0,Qm,bW,cM,TW,Qa,fc]) (ed Qmd Qze (oK Qx2 (ed Ym Fx Qzw pw Qx8 (ou [stx Qx9 Qzs,Qm,bW,cM,Qa,Qa,fc]) pw)) pw Qmf (sp Qya (rA Qyb [kZ vH ER iX B8 Qyc Ds Qzq,Qm,bW,cM,YP,Qa,kX] [Qz2,Qm,bW,cM,YP,Qa,kX]) qu) (mB Qmi Qyd [Qzt,Qm,bW,cM,eJ,Qa,fc] pw Qmk (sp Qye (nS Fx Qzy pw) Qzz) (mB Qml TX [kZ vH Eu vW Qh Dt Ds Qzq,Qm,bW,cM,Qa,Qa,fc] qu Qk4 (Bk Qyf Qyg qu (Bk (oZ Yi) Qyj qu (ou [lZ (mk Yi) Qzr,Qm,bW,cM,Yi,Qa,fc]))) (mB Qk7 YO [Qz1,Qm,bW,cM,Qxx,Qa,fc] qu Qla (k7 TY Qzz pw) pw)))))))))))))) Qzu) Qzu) Qzu) (dJ (jB Qwy Ca) Il (qe Qwz Qw0 Qz6 Qz6 Qz6 Qz6) (gY Qxf Qwz Qw0 Qz6 (SD Qz6 (sp Qjo (jF Qw1 (xU Qw2 Qz6)) Qz6) Qz6)))))
def afP:=cf (pL (.lit 64)) Qm9 (gH Ik Qc) Qm9 (ju 4051 (Gi []))
abbrev Qz7:=[Qb,Qo,Q3,ic Q2,Q5,ce 3 Q2,kS Q2]
def f_:=eY Qf Qc (xU Qnb (gm 4200 Qz7 4200 Qz7 0 Qm9 (ju 4051 [Qne,Qb,Qo]))) (ju 4052 [Qa,Qb,Qo])
abbrev Yh:=el Qo Qf
abbrev Qz9:=ln (ic Yh)
def e?:=qf Qfk (xU Qnb (cf (gH Qm8 Qz9) Qm9 (gf (.lit 4000) (ce 2 Yh)) Qm9 (ju 4053 [Qf,Qa,Qb,Qo,ce 0 Yh,ic Yh,ce 2 Yh])))
abbrev Q0a:=el eJ Qb
abbrev Q0b:List W:=Jp [eJ,fK Q0a,DY 1 Q0a,iq Q0a,gR Q0a,kS Q0a,jg Q0a,ce 6 Q0a]
def e!:=eY Qb QG (qi (gm 4250 Q0b 4250 Q0b 0 Qm9 (ju 4054 [Qf,Qb,Qa,Qo,Qm,bW,cM,eJ]))) (ju 4052 [Qne,Qo,Qm])
abbrev Q0c:=rp (ce 6 (el hZ Qb))
abbrev Q0d:=[fK Q0c,ic Q0c,iq Q0c,ce 3 Q0c,Qli]
abbrev Q0e:=[fK Q0c,ic Q0c,iq Q0c,ce 3 Q0c,QG]
def NH:=gY T5 (gf Qb hZ) (gf Qo (ce 6 (el hZ Qb))) (oy (nK 4300 Q0d (gH Qpo (cZ 4300 Q0d)) Qm9 (gm 4350 Q0e 4350 Q0e 0 Qm9 (pP 4054 (ri [eJ,hZ]))))) (ju 4053 [Qf,IH,Qm,bW,cM,eJ,hZ])
abbrev Q0f:=ju 4101 [qx,Qf,Qa,Qb,Qo,Qm,bW,cM,eJ,hZ,iT,jI,mh]
abbrev Q0g:=pK Qnk (iN (gH Yl iT) Qnp Q0f)
abbrev Q0h:=mA Qnn Yk Q0g
abbrev Q0i:=sp Qnl Q0h Q0h
def NF:=sp T3 (mA Qni Qnj (qf Il Q0i)) (cf Qnx (mA Qni Qnj (ed Il Qnl fF Q0h Qnl fF Q0h)) Qnt (mA Qni Qnj (sp Il Q0i Q0i)) (mA Qni Qnj (cf Il (zc Qnl Qnn (nL Qnu Yk Q0g fF fF) (ed Yk Qnk fF (zc (gH Yl iT) Qnp (qf YU Q0f) Q0f) Qnw Q0g fF)) Qnw (pK Qnl (zc Qnn Yk Q0g Q0g)) fF)))
abbrev Q0j:=l4 qx Qo
abbrev Q0k:=kT Qb (iN Qnk (gH bW iT) iW) Qb Ca (mA Qnk (gH iT bW) iW) (eC Qb QB (iN Qnk (gH Qk5 iT) iW) Qb Yn iW (ed (jB Qb Qj3) Qpr (pK (gf bW zo) iW) fF Qpr iW fF))
def e_:=cf (gf Qo qx) (oy (mA (oZ Q0j) (oO Q0j) (nK 4400 [Q0j,nM qx Qo] (oZ (cZ 4400 [Q0j,nM qx Qo])) (pP 4101 (ri [eJ,hZ,iT,jI,mh,qx,zo])) fF))) Qox Q0k (mA (pN qx) (pV jI) Q0k)
def afO:=gI Qf Ni YT (eC Qf Nh Qoj Qf (.lit 26) Qok (kz 4450 Qj (ou [cZ 4450 Qj])))
def afN:=gI Qo kX Qot (eC Qo Qj3 Qot Qo Ca Qou (eC Qo qI Qow Qo Yn iW (mA (gH Qo Q0) (gH Qo Yn) Qos)))
abbrev Q0l:=gH eJ Q0
abbrev Q0m:=gH Qle eJ
abbrev Q0o:=ff 4500 [hZ,qa]
abbrev Q0p:=ff 4500 [jI,jv QI]
abbrev Q0q:=ff 4500 [iT,zp]
abbrev Q0r:=kz 4600 [eJ] (cf (ff 4600 [eJ]) (kI iT T4 iW) Q0q fF iW)
def yO:=kz 4500 [iT,zp] (nK 4500 [jI,jv QI] Qoy (iN Q0l Q0m (dJ (vy 4500 [hZ,qa]) Q0o fF (nU Qox Qo7 (nK 4450 [eJ] (jB Qo8 (cZ 4450 [eJ])) (nK 4550 [eJ] (jB (ln qx) (cZ 4550 [eJ])) (gI eJ Ik (pK Q0p Q0r) Q0r) fF) fF)))) (cf Qoz (dJ (vy 4500 [hZ,qa]) Q0o fF (nU Qox Qo7 Qpc)) Qo0 (pK Q0q Qpe) (ed Qo1 Q0p fF Qpe Qo2 (pK Q0p iW) (ed Qo3 Q0q fF iW Qo4 (iN Q0q Q0p iW) fF))))
def d?:=l3 Qhg [.lit 10000] (ju 4301 [bW,Q0,Qa,Qf,Qb,Qo,Qm])
def d!:=eY Qo QG (eY Qpo Qb Qhi (oy (kz 4300 Qhk (ju 4301 [Qf,l7 Qb (cZ 4300 Qhk),Du,Qm,bW,cM,eJ])))) Qhi
def afM:=ju 4351 [bW,Qa,Qf,Qb,Qo,Qm]
abbrev Q0s:=[fK IG,ic IG,iq IG,ce 3 IG,Qf]
def d_:=jL (gH Qb QH) (qi (fD 4350 Q0s 4350 Q0s (ju 4351 (Iu [cM])))) Qo Q0 (ru QH (kI Qr4 iX (pK xI iW))) (eC Qo fc (ru QH (mA xI (oO bW) (fD 4650 [Qm] 4650 [Qm] iW))) Qo kX (ru bW (eC QH Q0 (kI Qr4 Qry iW) QH fc (gI Qr4 Qr0 iW (eC Qr4 Qry iW Qr4 Qr1 iW (eC Qr4 Qr2 iW Qr4 Qr3 iW fF))) fF)) fF)
def afL:=ju 4401 Qh1
abbrev Q0t:=jB (l4 Qb Qo) Qf
def c!:=gM Qh3 (oy (l3 Q0t [Qo] (ju 4401 Qh6))) [T4]
def afK:=sp Qnx iW (oJ Qnt iW T2 (cf T3 iW YU Qoe (jL Qnw Qoe Qf QB Qoe (cf Qnu Qoe Qof Qog (cf (mC YV) Qog Qoh Qog (sE Qf 12 YT Qf (.lit 13) YT (sE Qf 14 YT Qf Qme Qoj (cf (mC Ik) Qok Qol Qom (sE Qf 18 Qom Qf Qk9 Qom (cf (mC Qli) Qon Qoo Qon (jL Qop Qoq Qf Qle Qoq fF)))))))))))
def afJ:=mA Qnb (ry Qf) iW
def afI:=oJ T3 iW Qol (eC Qf Qli iW Qf Qle iW fF)
def afH:=sp T2 iW (oJ T3 iW Qoh (oJ Qoo iW Qop fF))
def afG:=gm 4700 YS 4700 YS 6 (kI (cZ 4700 YS) fc (qf (sV 4700 YS 4) (kI (rr 4700 YS 5) qa iW))) fF
def c_:=eY (.lit 16384) qa Qrj (cf T5 Qrk (ry qa) Qrk (ju 4701 [Qf,Qb,Qb]))
abbrev Q0u:=[uT Qf (rq Qty (mk Du) iX)]
abbrev Q0v:=ju 4702 [Qf,Qo,Q0,Qa]
def Uo:=sp Ev (qi (vE (ry Du) (gH qa Du) (gm 4850 Q0u 4850 Q0u 0 Q0v (ju 4701 Qh6)))) Q0v
def b?:=jL (ry Qm) (gY Qq Qhm (jB Qpq YV) (pP 4702 [Q1]) (ju 4702 Qh0)) Qb qa (ou [Ca,iX,Qa,Qo,Qb,Qb,Qa,Qa]) (rm 4703 [Qb,IH])
abbrev Q0w:=uT Qf (rq Qty T8 iX)
abbrev Q0x:=cZ 4750 [Q0w]
abbrev Q0y:=ou (UL [.lit 100,Qo])
abbrev Q0z:=vE (ry Qm) (gH qa Qm) (kz 4750 [Q0w] (jL (pV Q0x) Q0y Q0x Q0 (gm 22000 [Q0w] 22000 [Q0w] 1 Q0y (ou [Q0x,iX,cZ 22000 [Q0w],Qo,Qb,Qm,Qa,Qa])) (ou [Q0x,Q0w,Qa,Qo,Qb,Qm,Qa,Qa])))
abbrev Q00:=l7 Qb fc
abbrev Q01:=[uT Qf (rq Qty M6 iX)]
abbrev Q02:=qn (cZ 4750 Q01)
abbrev Q03:=jv bW
abbrev Q04:=rm 4703 [bW,Q03]
def ND:=cf (gH qa bW) (qi Q0z) (gH Q00 bW) (vE T5 (ry bW) (nK 4750 Q01 Q02 Q04 Q0z)) (vE T5 (ry bW) (nK 4750 Q01 Q02 Q04 (rm 4703 [Qm,Q03])))
abbrev OO a0 a1 a2 a3 a4:=Bn a0 a1 (Bn a2 a3 a4)
abbrev ni a0 a1 a2 a3:=OO a0 a1 a2 a3 nR
abbrev Q05:=[Qf,.fk (Bn 48 49 (OO 50 51 52 53 (ni 54 55 56 57)))]
abbrev Q06:W:=.fk (Bn 45 62 nR)
abbrev Q07:=[nm QF,s5 60 (OO 43 45 42 40 (ni 41 123 125 59))]
abbrev Q08:=gI Qn6 Q06 YT (eC Qn6 Qr2 YT qa Q0 (fD 4950 Q07 4950 Q07 YT) fF)
def b!:=gI Qn6 iX fF (gm 4900 Q05 4900 Q05 0 (jF Qib (gm 4950 [nm QF,.fk b2] 4950 [nm QF,.fk b2] 0 Q08 (gm 4900 [Qf,.fk b3] 4900 [Qf,.fk b3] 0 Q08 (gm 4800 Qj 4800 Qj 0 Qoe Qog)))) iW)
def afF:=ju 4801 YS
abbrev Q09:=ju 4801 [Qf,IH]
abbrev nT a0 a1 a2 a3 a4 a5:=Bn a0 a1 (ni a2 a3 a4 a5)
abbrev aoo a0 a1 a2 a3:=gI a0 (.fk a1) a2 a3
abbrev aon a0 a1 a2:=aoo Qn6 a0 a1 a2
abbrev aom a0 a1:=aon a0 iW a1
abbrev nO a0:=aom a0 Q09
abbrev oz a0 a1:=nO (qpx a0 a1)
def b_:=eY Qb (.lit 37) (qi (k7 Qb (oz 97 (nT 99 113 117 105 114 101)) (eC Qb Q0 (oz 97 (Bn 100 100 nR)) Qb fc (nO (nT 97 114 114 105 118 101)) (kT Qb (oz 98 (nT 97 114 114 105 101 114)) Qb qI (oz 98 (OO 114 111 97 100 (ni 99 97 115 116))) (eC Qb Ca (nO (ni 99 111 110 100)) Qb PL (nO (Bn 100 111 nR)) (eC Qb QB (nO (ni 100 111 110 101)) Qb Qj3 (nO (ni 101 108 115 101)) (eC Qb Yn (nO (Bn 105 102 nR)) Qb YV (nO (ni 108 111 99 107)) (sE Qb 11 (oz 108 (nT 111 99 107 102 111 114)) Qb (.lit 12) (nO (ni 108 111 111 112)) (sE Qb 13 (oz 109 (ni 117 116 101 120)) Qb (.lit 14) (nO (ni 111 110 99 101)) (eC Qb Qme (oz 112 (Bn 117 116 nR)) Qb Ik (oz 113 (ni 117 101 117 101)) (sE Qb 17 (nO (ni 114 101 97 100)) Qb (.lit 18) (oz 114 (nT 101 108 101 97 115 101)) (eC Qb Qk9 (oz 114 (ni 108 111 99 107)) Qb Qli (oz 114 (nT 117 110 108 111 99 107)) (sE Qb 21 (nO (nT 114 119 108 111 99 107)) Qb (.lit 22) (oz 115 (Bn 101 109 nR)) (eC Qb Qle (oz 115 (Bn 101 116 nR)) Qb Ni (nO (nT 115 105 103 110 97 108)) (eC Qb Nh (nO (ni 116 97 107 101)) Qb (.lit 26) (nO (nT 116 104 114 101 97 100)) (eC Qb Qjs (nO (Bn 116 114 (OO 121 97 99 113 (ni 117 105 114 101)))) Qb (.lit 28) (oz 116 (nT 114 121 108 111 99 107)) (sE Qb 29 (nO (nT 117 110 108 111 99 107)) Qb (.lit 30) (oz 118 (Bn 97 114 nR)) (sE Qb 31 (nO (ni 119 97 105 116)) Qb (.lit 32) (oz 119 (nT 97 105 116 102 111 114)) (sE Qb 33 (nO (nT 119 97 105 116 111 110)) Qb (.lit 34) (oz 119 (ni 108 111 99 107)) (sE Qb 35 (oz 119 (ni 114 105 116 101)) Qn6 (s5 119 (nT 117 110 108 111 99 107)) iW Q09)))))))))))))))))))) fF
def a!:=ju 4851 YS
abbrev Q1a:=nm Qws
abbrev Q1b:=ju 4851 [Qf,IH]
abbrev Q1c:=ju 4852 [Qf,IH]
abbrev Q1d:=[Q1a,.fk (ni 9 10 13 32)]
def Un:=oL Qwr (qi (eC Q1a YV Q1b Q1a (.lit 35) Q1c (fD 4950 Q1d 4950 Q1d Q1b)))
def a_:=oL Qwr (qi (eC Q1a YV Q1b Q1a (.lit 35) Q1c Q1c))
def afE:=ju 4901 Qh1
def Z9:=oL Ev (oy (fD 4950 [Yp,Qb] 4950 [Yp,Qb] (ju 4901 Qh6)))
def afD:=ju 4951 Qh1
def Z8:=qf Qh3 (oy (qE Q0t iW 4951 Qh6))
def l_:=ju 22001 Qj
abbrev Q1e:=cn (mk qa) iX
abbrev Q1f:=ju 22002 [Qf,Qa,Qa]
def k?:=eY Q0 qa (gI (nm QF) (.lit 48) (xU (pL qa) (ju 22001 [uT Qf (cn Qh Q1e)])) (jL (pL Qk9) Qor qa Qk9 (k7 (.op .slt (.fk b4) Qf) Q1f Qor) Q1f)) Q1f
def Ra:=gM Ev (oy (ju 22002 [Qf,l7 (wr (.mul YV Qb)) (wr (.wrap .u8 (.sub Yp (.lit 48)))),Du])) [Qb,Q0]
def k!:=ju 22101 [Qc,Qc,Qa,Qf,Qb]
def KX:=oJ sN (oy (eX WE 22101 [l7 Qf (ln Qdm),Qb,Du,Qm,bW])) (oO (.lit 3000)) (fD 3800 [Qm] 3800 [Qm] iW)
def QZ:=dJ Qwl Qwm (kz 3850 yM (ju 22151 [Qf,Qb,cZ 3850 yM])) (ou [Qh,Qh,cZ 4050 yM])
abbrev Q1g:=ln (ic Qe0)
def KW:=gM Qd (k7 Q1g (ju 22152 [Q0,Qf,Qb,Qo,Qr7]) (oM Q1g Qv 22152 [Q0,Qf,Qb,Qo,lI iX (rpx Q1g iX) Qga])) [Qo,Qh,Qa]
def KV:=sp Qfk (xU Qnb (k7 Qz9 (eX Qr9 22152 (DR [Qsa])) (jF (gH Qz9 Qv) (eX Qr9 22152 (DR [nQ bW iX (rpx Qz9 iX) Qga]))))) Qsc
def k_:=jF Qwz (jL Qw0 fF zp Qc (ju 22201 (Gi [Qo,Qm])) fF)
abbrev Q1h:=ju 22201 (DR [bW])
abbrev Q1i:=mA (oZ Qds) (gH Qds Qc) (nK 4150 [Qdr] (jB (qq Qb Qds) (cZ 4150 [Qdr])) Q1h fF)
def FP:=eY Qf QI (gY Qnb Qfk (oZ Qdq) fF (jL (nr (ce 2 Yh) Qdq) fF (ln (ic Qdp)) Qz9 (pK (oZ Qdu) (zc (gH Yl Qdu) (pV Qdr) (ru Qds (ru Qdt Q1h)) (eC Qdr Ni Q1i Qdr Nh Q1i fF))) fF)) iW
def j?:=kz 3950 Qj (ju 22251 [Qf,Qb,cZ 3950 Qj])
abbrev Q1j:=fX (mk Qe9) (mk Qfa) (xb Qe1) (xb Qe2)
def KU:=gM Qd (k7 Q1g (ju 22252 [Q0,Qf,Qb,Qo,lI Qfc Qk Q1j]) (oM Q1g Qv 22252 [Q0,Qf,Qb,Qo,lI Qfc (ic Qe0) Q1j])) [Qo,Qh]
abbrev Q1k:=fX (np 2 Yh) (np 3 Yh) (np 4 Yh) (np 5 Yh)
def KS:=gM Qfk (xU Qnb (k7 Qz9 (eX Qr9 22252 (DR [nQ bW (mk (fK Yh)) Qk Q1k])) (jF (gH Qz9 Qv) (eX Qr9 22252 (DR [nQ bW (mk (fK Yh)) (ic Yh) Q1k]))))) [Qm,bW]
abbrev zr:=vy 22200 YQ
abbrev zq:=ff 22200 YQ
def QY:=dJ zr zq fF (mA xI B0 (dJ Qsi Qsl Qso fF))
abbrev Q1n:=el (ce 6 Qss) Qa
abbrev Q1o:=[fK Q1n,ic Q1n,iq Q1n,ce 3 Q1n,ic Yj]
def wg:=dJ zr zq Qsx (cf xI Qsx B0 (dJ Qsi Qsl (gI Qsm (ln H9) Qsx (gY (oZ Qsm) (gf Qsm H9) (tU (fK Qss)) (gM (pN (ce 6 Qss)) (kz 22500 Q1o (ou [DY 1 Qss,Qsw,cZ 22500 Q1o,jg Yj,Q0])) [DY 1 Qss,Qsw,Qa,jg Yj,Q0]) Qsy)) Qsz) Qsx)
abbrev mn:=cZ 9150 zm
abbrev rU:=iD 9150 zm
abbrev Q1r:=ou [rU,Qh,Qa,Qa,Qa,Qa,Qa,Qa]
abbrev Np:=vy 22300 QA
abbrev Nn:=ff 22300 QA
abbrev vX:=nV 9150 3
abbrev Av:=nV 9150 4
abbrev Ia:=nV 9150 5
abbrev Q1x:=nV 9150 6
abbrev Q1y:=nV 9150 7
abbrev Q1z:=nV 9150 8
abbrev Q10:=cn Qk (fX (mk Ia) (mk Q1x) (mk Q1y) (mk Q1z))
abbrev Q11:=VD vX M6 (mk Av) Q10
abbrev Q12:=ou [rU,Q11,Qa,Qa,Qa,Qa,Qa,Qa]
abbrev WJ:=[Qf,Qb,rU,Q11,bW]
abbrev Yv:=gf bW vX
abbrev Yu:=el H9 Av
abbrev vq:=fK Yu
abbrev Q17:=pN (ce 6 Yu)
abbrev Q18:=el (ce 6 Yu) Qa
abbrev Q19:=[fK Q18,ic Q18,iq Q18,ce 3 Q18,Qk]
abbrev Yt:=gR Yu
abbrev Q2b:=oZ Yt
abbrev Q2c:=ou [rU,VD vX M6 (np 4 Yu) Q10,Qa,Qa,Qa,Qa,Qa,Q0]
abbrev Q2d:=mk (jv Av)
abbrev Q2e:=ou [rU,VD vX M6 Q2d Q10,Qa,Qa,Qa,Qa,Qa,Q0]
abbrev Cb:=[Qf,Qb,rU,vX,bW,cZ 22350 WJ,gk 22350 WJ,iD 22350 WJ,rr 22350 WJ 3,Av,Ia,Q1x,Q1y,Q1z]
abbrev Ys:=fX (mk Q1x) (mk Q1y) (mk Q1z) (kJ 9150 zm 9)
abbrev Q2h:=oI vX (mk Av) Ia Ys
abbrev Q2i:=ou [rU,Q2h,Qa,Qa,Qa,Qa,Qa,Qa]
abbrev Im:=[Qf,Qb,rU,Q2h,bW]
abbrev Q2k:=[fK Q18,ic Q18,iq Q18,ce 3 Q18,Ia]
abbrev Q2l:=gf Yt Ia
abbrev Q2m:=ou [rU,oI vX (np 4 Yu) Ia Ys,Qa,Qa,Qa,Qa,Qa,Q0]
abbrev Q2n:=ou [rU,oI vX Q2d Ia Ys,Qa,Qa,Qa,Qa,Qa,Q0]
abbrev Au:=[Qf,Qb,rU,vX,bW,cZ 22350 Im,gk 22350 Im,iD 22350 Im,rr 22350 Im 3,Av,Ia,Q1x,Q1y,Q1z,nV 9150 9]
abbrev Q2p:=ou [rU,vX,Qa,Qa,Qa,Qa,Qa,Qa]
abbrev Q2q:=qq vX bW
abbrev Q2r:=el H9 Q2q
abbrev Q2s:=fK Q2r
abbrev Q2t:=pN (ce 6 Q2r)
abbrev Q2u:=el (ce 6 Q2r) Qa
abbrev Q2v:=sU vX M6 (sU (el vX bW) iX (mk (jv Q2q)))
abbrev Q2w:=ic (el Q2v bW)
abbrev Q2x:=[fK Q2u,ic Q2u,iq Q2u,ce 3 Q2u,Q2w]
abbrev Q2y:=gR Q2r
abbrev Q2z:=qo Q2y (gf Q2y Q2w) fl
abbrev Q20:=ou [rU,sU Q2v M6 (sU (el Q2v bW) iX (np 4 Q2r)),Qa,Qa,Qa,Qa,Qa,Q0]
abbrev Q21:=ou [rU,Q2v,Qa,Qa,Qa,Qa,Qa,Q0]
abbrev xd a0 a1:=rr 24050 a0 a1
def j9:=nK 9150 zm (pV mn) (dJ zr zq Q1r (cf xI Q1r B0 (dJ Np Nn (oN 22350 [Qf,Qb,rU,Qh,bW] (sV 22350 [Qf,Qb,rU,Qh,bW] 4) fl) (ou [rU,Qh,Qa,Qa,Qa,Qa,Qa,qI])) Q1r)) (eC mn Q0 (dJ zr zq Q12 (cf xI Q12 B0 (dJ Np Nn (gm 22350 WJ 22350 WJ 4 (jF Yv (gY (oZ Av) (gf Av H9) (jB vq kX) (jF Q17 (oN 22500 Q19 Q2b fl)) (eC vq qI (jF Q17 (gm 22500 Q19 22500 Q19 0 Q2c Q2e)) vq Ca Q2c (eC vq PL (jF Q2b fl) vq QB (jF Q2b fl) Q2e)))) (kz 24000 Cb (oB (ff 24000 Cb) [rr 24000 Cb 15,oI vX (kJ 24000 Cb 22) Qk (fX (kJ 24000 Cb 23) (kJ 24000 Cb 24) (kJ 24000 Cb 25) (kJ 24000 Cb 26)),rr 24000 Cb 16,rr 24000 Cb 17,rr 24000 Cb 18,rr 24000 Cb 19,rr 24000 Cb 20,rr 24000 Cb 21]))) (ou [rU,Q11,Qa,Qa,Qa,Qa,Qa,qI])) Q12)) mn fc (dJ zr zq Q2i (cf xI Q2i B0 (dJ Np Nn (gm 22350 Im 22350 Im 4 (jF Yv (gY (oZ Av) (gf Av H9) (jB vq kX) (jF Q17 (kz 22500 Q2k (nU Q2b Q2l (ou [rU,oI vX Q2d (rz Ia Yt (mk (cZ 22500 Q2k))) Ys,Qa,Qa,Qa,Qa,Qa,Q0])))) (eC vq qI (jF Q17 (gm 22500 Q2k 22500 Q2k 0 Q2m Q2n)) vq Ca Q2m (eC vq PL (nU Q2b Q2l (ou [rU,oI vX Q2d (rz Ia Yt (np 5 Yu)) Ys,Qa,Qa,Qa,Qa,Qa,Q0])) vq QB (gY Q2b Q2l (qn (l4 Ia Yt)) (ou [rU,oI vX Q2d (rz Ia Yt (mk (pR (l4 Ia Yt) Q0))) Ys,Qa,Qa,Qa,Qa,Qa,Q0]) Q2m) Q2n)))) (kz 24050 Au (oB (ff 24050 Au) [xd Au 16,oI vX (kJ 24050 Au 23) (xd Au 24) (fX (kJ 24050 Au 25) (kJ 24050 Au 26) (kJ 24050 Au 27) (kJ 24050 Au 28)),xd Au 17,xd Au 18,xd Au 19,xd Au 20,xd Au 21,xd Au 22]))) (ou [rU,Q2h,Qa,Qa,Qa,Qa,Qa,qI])) Q2i)) (mD (jB mn kX) zr zq Q2p (cf xI Q2p B0 (dJ Np Nn (kz 22350 [Qf,Qb,rU,vX,bW] (jw (sV 22350 [Qf,Qb,rU,vX,bW] 4) Yv (gY (oZ Q2q) (gf Q2q H9) (jB Q2s kX) (jF Q2t (kz 22500 Q2x Q2z)) (eC Q2s qI (jF Q2t (gm 22500 Q2x 22500 Q2x 0 Q20 Q21)) Q2s Ca Q20 (eC Q2s PL Q2z Q2s QB (qo Q2y (gf Q2y Q2w) (xU (qn (l4 Q2w Q2y)) Q20)) Q21))))) (ou [rU,vX,Qa,Qa,Qa,Qa,Qa,qI])) Q2p)))
abbrev Q22:=cZ 22500 Quk
abbrev Q23:=cZ 22500 Qun
abbrev Q24:=kI Qg Qr3 (eY Q22 Q23 iW fF)
def KR:=l3 Qnx [Qo] (cf Qnt Qui T2 (iN (gH zp Q0) (gH fc zp) (nK 22500 Quk (tU zp) (l3 Qrz [pR Qa Q22] fF) (kz 22500 Qun (cf (jB Qg Qr0) (ou [l7 Q22 Q23]) Qrz (ou [pR Q22 Q23]) (eC Qg Qr1 (ou [wr (.mul Q22 Q23)]) Qg Qr2 (gI Q22 Q23 iW Q24) Q24))))) fF)
abbrev Q25:=[Qf,Qb,nM Qo Qm8]
abbrev Q26:=[cZ 2400 Q25,cZ 22600 Q25]
abbrev Q27:=gk 2400 Q25
abbrev Q28:=iD 2400 Q25
abbrev Q29:=[Q27,Q28,gk 22600 Q25,iD 22600 Q25]
abbrev Q3a:=[Qf,Qb,Q27,Q28]
abbrev agy a0 a1:=SB.not (ff a0 a1)
abbrev w8 a0:=agy 2550 a0
abbrev Q3b:=w8 Q3a
abbrev xg a0:=agy 22700 a0
abbrev Q3c:=xg Q3a
abbrev Q3d:=[Qf,Qb,nM Qo T7]
abbrev Q3e:=[cZ 2400 Q3d,cZ 22600 Q3d]
abbrev Q3f:=gk 2400 Q3d
abbrev Q3g:=iD 2400 Q3d
abbrev Q3h:=[Q3f,Q3g,gk 22600 Q3d,iD 22600 Q3d]
abbrev Q3i:=[Qf,Qb,Q3f,Q3g]
abbrev Q3j:=w8 Q3i
abbrev Q3k:=xg Q3i
abbrev s8 a0 a1 a2:=oC 22700 a0 a1 a2
abbrev s6 a0 a1:=kz 2550 a0 a1
abbrev xf a0 a1 a2:=vD (.and a0 a1) a2
def FO:=gm 100 yM 100 yM 0 (gm 22100 [Qm,bW] 22100 [Qm,bW] 0 (eY Qm8 T7 (kz 2400 Q25 (kz 22600 Q25 (fD 2450 Q26 2450 Q26 (fD 2050 Q29 2050 Q29 (s6 Q3a (s8 Q3a (xf Q3b Q3c (vD Q3b Q3c)) (ju 22551 [Qm,bW,Q27,Q28,Qa,Qf,Qb,cM]))))))) (xU (gH T7 T7) (kz 2400 Q3d (kz 22600 Q3d (fD 2450 Q3e 2450 Q3e (fD 2050 Q3h 2050 Q3h (s6 Q3i (s8 Q3i (xf Q3j Q3k (vD Q3j Q3k)) (ju 22551 [Qm,bW,Q3f,Q3g,Qa,Qf,Qb,cM]))))))))) iW) iW
abbrev Q3l:=[cM,eJ,Qf,Qb,.lit 60]
abbrev Q3m:=[cZ 2650 Q3l,cZ 22650 Q3l]
abbrev w7 a0:=gk 2650 a0
abbrev w6 a0:=iD 2650 a0
abbrev Q3n:=[w7 Q3l,w6 Q3l,gk 22650 Q3l,iD 22650 Q3l]
abbrev Q3o:=[cM,eJ,Qf,Qb]
abbrev Q3p:=w8 Q3o
abbrev Q3q:=xg Q3o
abbrev Q3r:=xf Q3p Q3q (vD Q3p Q3q)
abbrev Q3s:=[cM,eJ,w7 Q3l,w6 Q3l]
abbrev Q3t:=w8 Q3s
abbrev Q3u:=xg Q3s
abbrev Q3v:=rm 22551 [Qm,Q03,cM,eJ,hZ]
abbrev Q3w:=[cM,eJ,Qf,Qb,hZ]
abbrev Q3x:=[cZ 2650 Q3w,cZ 22650 Q3w]
abbrev Q3y:=[w7 Q3w,w6 Q3w,gk 22650 Q3w,iD 22650 Q3w]
abbrev Q3z:=[cM,eJ,w7 Q3w,w6 Q3w]
abbrev Q30:=w8 Q3z
abbrev Q31:=xg Q3z
abbrev Q32:=[cM,eJ,Qo,Qm,.lit 60]
abbrev Q33:=[cZ 2650 Q32,cZ 22650 Q32]
abbrev Q34:=[w7 Q32,w6 Q32,gk 22650 Q32,iD 22650 Q32]
abbrev Q35:=[cM,eJ,Qo,Qm]
abbrev Q36:=w8 Q35
abbrev Q37:=xg Q35
abbrev Q38:=xf Q36 Q37 (vD Q36 Q37)
abbrev Q39:=[cM,eJ,w7 Q32,w6 Q32]
abbrev Q4a:=w8 Q39
abbrev Q4b:=xg Q39
abbrev Q4c:=[cM,eJ,Qo,Qm,hZ]
abbrev Q4d:=[cZ 2650 Q4c,cZ 22650 Q4c]
abbrev Q4e:=[w7 Q4c,w6 Q4c,gk 22650 Q4c,iD 22650 Q4c]
abbrev Q4f:=[cM,eJ,w7 Q4c,w6 Q4c]
abbrev Q4g:=w8 Q4f
abbrev Q4h:=xg Q4f
def Cq:=eY bW fc (xU xI (ed (pV bW) (gH (.lit 60) hZ) (kz 2650 Q3l (kz 22650 Q3l (fD 2450 Q3m 2450 Q3m (fD 2050 Q3n 2050 Q3n (s6 Q3o (s8 Q3o Q3r (s6 Q3s (s8 Q3s (xf Q3t Q3u (vD Q3t Q3u)) Q3v)))))))) (kz 2650 Q3w (kz 22650 Q3w (fD 2450 Q3x 2450 Q3x (fD 2050 Q3y 2050 Q3y (s6 Q3o (s8 Q3o Q3r (s6 Q3z (s8 Q3z (xf Q30 Q31 (vD Q30 Q31)) Q3v)))))))) (gH (.lit 60) hZ) (kz 2650 Q32 (kz 22650 Q32 (fD 2450 Q33 2450 Q33 (fD 2050 Q34 2050 Q34 (s6 Q35 (s8 Q35 Q38 (s6 Q39 (s8 Q39 (xf Q4a Q4b (vD Q4a Q4b)) Q3v)))))))) (kz 2650 Q4c (kz 22650 Q4c (fD 2450 Q4d 2450 Q4d (fD 2050 Q4e 2050 Q4e (s6 Q35 (s8 Q35 Q38 (s6 Q4f (s8 Q4f (xf Q4g Q4h (vD Q4g Q4h)) Q3v)))))))))) iW
def KQ:=gm 22150 yM 22150 yM 2 (ju 22601 [Qo,Qc,Qa,Qf,Qb,cZ 22150 yM,gk 22150 yM]) (ou [Qh,Qh,Qh])
abbrev Y9:List W:=ri [eJ,Quu]
abbrev iu a0 a1:=rr 22400 a0 a1
abbrev ja a0 a1:=mk (iu a0 a1)
abbrev Q4j:=ju 22602 [Qf,oQ iX (ja Y9 2) (fX (ja Y9 3) (ja Y9 4) (ja Y9 5) (ja Y9 6)),Qb,Du,Qm,bW,iu Y9 0,iu Y9 1]
abbrev Y8:List W:=ri [eJ,.rem Yp Qb]
abbrev Q4l:=ju 22602 [Qf,oQ iX (ja Y8 2) (fX (ja Y8 3) (ja Y8 4) (ja Y8 5) (ja Y8 6)),Qb,Du,Qm,bW,iu Y8 0,iu Y8 1]
def we:=nL Ev Qia (oy (sp (oZ (.rem Yp Qb)) (kz 22400 Y9 (eC (iu Y9 7) fc Q4j (iu Y9 7) kX Q4j (pP 22601 [Qm,bW,iu Y9 0,iu Y9 1]))) (kz 22400 Y8 (eC (iu Y8 7) fc Q4l (iu Y8 7) kX Q4l (pP 22601 [Qm,bW,iu Y8 0,iu Y8 1]))))) Qu1 Qu1
abbrev Y7:List W:=Gh [l7 (.rem Qpq Qo) Qo]
abbrev Q4n:=oM Qc Qu4 22602 [Qf,oQ Qb (ja Y7 2) (fX (ja Y7 3) (ja Y7 4) (ja Y7 5) (ja Y7 6)),Qo,Q1,bW,cM,iu Y7 0,iu Y7 1]
abbrev Y6:List W:=Gh [.rem Qpq Qo]
abbrev Q4p:=oM Qc Qu4 22602 [Qf,oQ Qb (ja Y6 2) (fX (ja Y6 3) (ja Y6 4) (ja Y6 5) (ja Y6 6)),Qo,Q1,bW,cM,iu Y6 0,iu Y6 1]
abbrev Q4q:=ou [Qb,eJ,hZ]
def Cp:=sp Qhm (eY Qa Qo (sY (sp (oZ (.rem Qpq Qo)) (kz 22400 Y7 (eC (iu Y7 7) fc Q4n (iu Y7 7) kX Q4n (rm 22602 (AN [iu Y7 0,iu Y7 1])))) (kz 22400 Y6 (eC (iu Y6 7) fc Q4p (iu Y6 7) kX Q4p (rm 22602 (AN [iu Y6 0,iu Y6 1])))))) Q4q) Q4q
def QW:=kz 22250 Qud (dJ zr zq (ou [Qh,cZ 22250 Qud,gk 22250 Qud]) (ju 22651 [bW,Qa,Qf,Qb,cZ 22250 Qud,gk 22250 Qud]))
def QV:=nL Qtp Qvb (ju 22652 [Qf,Qb,Qa,Qo,Qm,bW,cM]) Qvd Qvd
abbrev Q4r:List W:=ri [eJ,Qo]
abbrev Q4s:=iu Q4r 7
abbrev Q4t:=iu Q4r 1
abbrev Q4u:=ju 22653 [Qf,oQ iX (ja Q4r 2) (fX (ja Q4r 3) (ja Q4r 4) (ja Q4r 5) (ja Q4r 6)),Qb,Du,Qm,bW,iu Q4r 0,Q4t]
abbrev Q4v:List W:=og [Qm,bW,iu Q4r 0,Q4t]
def Co:=sp WE (nK 22400 Q4r (mS Q4s) Q4u (kT Q4s Q4u Q4s Q0 (ju 22654 Q4v) (nN (gf Qo Q4t) (nW (gH Qo QG) (jB (jg (rp Q4t)) (jg Qhj)) 22652 Q4v (ju 22654 Q4v))))) Qu1
abbrev Q4w:=iu Ij 7
abbrev Q4x:=iu Ij 1
abbrev Q4y:=oM Qc Qu4 22653 [Qf,oQ Qb (ja Ij 2) (fX (ja Ij 3) (ja Ij 4) (ja Ij 5) (ja Ij 6)),Qo,Q1,bW,cM,iu Ij 0,Q4x]
abbrev Q4z:List W:=CE (AN [iu Ij 0,Q4x])
def Cn:=eY Qm QH (kz 22400 Ij (eC Q4w fc Q4y Q4w kX Q4y (ju 22653 Q4z))) (pP 22655 (Gh []))
def Cm:=qE WE (kz 22400 Q4r (eC Q4s fc Q4u Q4s kX Q4u (ju 22654 Q4v))) 22651 [Qf,IH,Qm,bW,cM,eJ]
def QU:=eY Qo Qf (eY Qo (.lit 100000) (rm 22656 [Qa,Qm,bW,cM,eJ]) (ou [Qb,cM,eJ])) (ou [Qb,cM,eJ])
def Cl:=eY Qm QH (nK 22400 Ij (mS Q4w) Q4y (kT Q4w Q4y Q4w Q0 (ju 22653 Q4z) (Bl (sW Q4x) (nW Qve (jB (jg (pO Q4x)) (jg (pO hZ))) 22656 Q4z (ju 22653 Q4z))))) Q4q
def QT:=dJ zr zq fF (ju 22701 (Gi [Qo,Qm]))
abbrev Q40:=[Qb,Qo,Qm,bW,Qf]
abbrev Q41:=iu Q40 7
abbrev Q42:=ju 22701 (DR [bW])
def uq:=oL Qfk (kz 22400 Q40 (oC 22350 Q40 (mS Q41) (kT Q41 fF Q41 Q0 fF (jL (sV 22350 Q40 4) Q42 (cZ 22350 Q40) qI (eY (rr 22350 Q40 3) (iD 22350 Q40) fF Q42) Q42))))
def afC:=nK 5400 YQ (oZ (rr 5400 YQ 3)) (ou [cZ 5400 YQ,gk 5400 YQ,iD 5400 YQ,Qa]) (ou [cZ 5400 YQ,gk 5400 YQ,iD 5400 YQ,Q0])
abbrev Q43:=pR cM Q0
def afB:=cf (oZ Q43) (ou [Q43,eJ,Qa]) (gH Qli bW) (ou [Q43,eJ,Qa]) (ju 5051 [bW,Qm,zp,Qa,Q43,eJ,Qf,Qb,Qo])
abbrev B? (l:List W):=Qfl::(ce 1 Qs)::Qfn::(ce 3 Qs)::l
abbrev Q44:List W:=B? [Qne,bW,cM]
abbrev Q45:=sZ hZ
abbrev Za:=ou [bW,cM,Qa]
abbrev Q47:=ou [bW,cM,Q0]
def Z7:=jL Qp (qk (gm 5050 Q44 5050 Q44 2 (ou [cZ 5050 Q44,gk 5050 Q44,Qa]) (rm 5051 [Q1,cZ 5050 Q44,gk 5050 Q44,eJ,hZ,iT]))) eJ Q0 (k7 Qc (gI Q45 iX (sp Qnk Za Q47) Za) Za) (eC eJ fc (k7 Qc (cf Qnk Za (gH iT cM) (gm 12900 [hZ,Qa] 12900 [hZ,Qa] 0 Za (jF (oA 12900 [hZ,Qa]) Q47)) Za) Za) eJ kX (sp Qpr (eC Qc Q0 (gI Q45 Qry Q47 Za) Qc fc (gI Q45 Qr0 Q47 (eC Q45 Qry Q47 Q45 Qr1 Q47 (eC Q45 Qr2 Q47 Q45 Qr3 Q47 Za))) Za) Za) Za)
def afA:=ju 5101 yM
def amE:=ou [Qb]
def afz:=ju 5151 yM
def amD:=ou [Qf,Qb,Q0]
def afy:=ju 5201 yM
def amC:=ou [Q0,Qf,Qb,Q0]
def afx:=ju 5251 [Qb,Qf,qa,Qa,Qo]
abbrev Q48:=vy 1150 (B? [])
abbrev Q49:=ff 1150 (B? [])
abbrev Q5a:=vy 5450 [ce 3 Qs,Qne,Q03]
abbrev Q5b:List W:=CE [Q1,cZ 5450 [ce 3 Qs,Qne,Q03]]
def Z6:=gM Qp (qk (xU (gH Qpo Q03) (nU (oO Qli) Q48 (xU Q49 (eX Q5a 5251 Q5b))))) [bW,Qb]
def afw:=ju 5301 [Qf,Qa,Qb,Qo,Qm]
abbrev Q5c:=[Qwt,Qm,bW]
abbrev Q5d:=gm 5500 Q5c 5500 Q5c 2 (ou [Qo,cZ 5500 Q5c,gk 5500 Q5c,Qa]) (ju 5301 [Qf,IH,Qo,cZ 5500 Q5c,gk 5500 Q5c])
def Z5:=gM Qtp (gY T5 Qtq (mS Qwo) (cf (pV (.op .EB bW Que)) (ou [Qo,Qm,bW,Qa]) (pV (nm (.op .EC bW Que))) (ou [Qo,Qm,bW,Qa]) Q5d) Q5d) [Qo,Qm,bW,Q0]
def afv:=ju 5351 [Qf,Qa,Qb,Q0,Qo,Qm]
abbrev Q5e:=ou (Jp [Qa])
abbrev Q5f:=[Qwt,Qm,bW,cM]
abbrev Q5g:=gm 5600 Q5f 5600 Q5f 3 (ou [Qo,cZ 5600 Q5f,gk 5600 Q5f,iD 5600 Q5f,Qa]) (ju 5351 [Qf,IH,Qo,cZ 5600 Q5f,gk 5600 Q5f,iD 5600 Q5f])
def Z4:=gM Qtp (gY T5 Qtq (mS Qwo) (cf (pV (.op .EB cM Que)) Q5e (pV (nm (.op .EC cM Que))) Q5e Q5g) Q5g) (Jp [Q0])
def afu:=ju 5401 [Qf,qa,Qa,Qb,Qo,Qm]
def Z3:=gM sN (nN Ev (gm 800 [Qio,M7,Qin,Qiq,QI] 800 [Qio,M7,Qin,Qiq,QI] 0 (ou (ri [Qo])) (pP 5401 (ri [])))) (ri [T4])
def aft:=ju 5451 [Qb,Qf,qa,Qa,Qo]
def afs:=gM Qp (qk (xU (gH Qpo Q03) (nU (oO Qli) Q48 (xU Q49 (eX Q5a 5451 Q5b))))) [bW]
def afr:=ju 5501 [Qf,qa,Qa,Qb,Qo]
abbrev Q5h:=[Qiq,Qm,bW]
abbrev Q5i:=gm 5500 Q5h 5500 Q5h 2 (ou [cZ 5500 Q5h,gk 5500 Q5h,Qa]) (pP 5501 [cZ 5500 Q5h,gk 5500 Q5h])
def afq:=gM sN (gY QJ Ev (mS Qio) (cf (pV (.op .EB bW M7)) Qsc (pV (nm (.op .EC bW M7))) Qsc Q5i) Q5i) [Qm,bW,Q0]
def amB:=ju 5551 [Qf,qa,Qa,Q0,Qb,Qo]
abbrev Q5j:=pV (.op .EB cM M7)
abbrev Q5k:=ou (ri [Qa])
abbrev Q5l:=pV (nm (.op .EC cM M7))
abbrev Q5m:=[Qiq,Qm,bW,cM]
abbrev Q5n:=sV 5600 Q5m 3
abbrev Q5o:=ou [cZ 5600 Q5m,gk 5600 Q5m,iD 5600 Q5m,Qa]
abbrev Q5p:List W:=og [cZ 5600 Q5m,gk 5600 Q5m,iD 5600 Q5m]
abbrev Q5q:=nK 5600 Q5m Q5n Q5o (ju 5551 Q5p)
def amA:=gM sN (gY QJ Ev (mS Qio) (cf Q5j Q5k Q5l Q5k Q5q) Q5q) (ri [Q0])
def afp:=ju 5601 [Qf,qa,Qa,Qb,Qo,Qm]
abbrev Q5r:=nK 5600 Q5m Q5n Q5o (ju 5601 Q5p)
def afo:=gM sN (gY QJ Ev (mS Qio) (cf Q5j Q5k Q5l Q5k Q5r) Q5r) (ri [Q0])
abbrev RG (l:List W):=Qf::Qb::Qo::Qm::bW::cM::eJ::hZ::iT::jI::mh::qx::zo::l
abbrev Y4:List W:=RG []
abbrev Q5t:=rr 12050 Y4 14
abbrev apG (l:List W):=Qa::Qf::Qb::Qo::Qm::bW::cM::eJ::hZ::iT::jI::mh::qx::zo::l
abbrev ld a0:=ou (apG a0)
abbrev Q5u:=ld []
def Rk:=kz 12050 Y4 (dJ (ff 12050 Y4) (jB Q5t T4) Q5u (ju 12001 (RG [Qf,Q5t,jv Q5t])))
abbrev Q5v:=jB (l4 qv YY) Qb
abbrev Q5w:List W:=RG [qv,zn,jv YY]
abbrev Q5x:=oZ zn
abbrev Q5y:=jv zn
abbrev Q5z:List W:=RG [rz qv zn (mk (l4 qv YY)),Q5y,jv YY]
abbrev NZ (l:List W):=Q0::Qf::Qb::Qo::Qm::bW::cM::eJ::l
abbrev Q50:=vE Q5x (gH Qn1 zn) (qo (.sub Qn1 zn) (jB (xe zn Qn1 zn) Qn1) (ou (NZ [hZ,iT,jI,mh,qx,zo,zn,.op .fill qv (cn (mk zn) iX),Qn1])))
def K4:=eY YY Qn1 (xU (oZ YY) (sp Q5v (ju 12001 Q5w) (xU Q5x (oM zn Qn1 12001 Q5z)))) Q50
abbrev Q51:List W:=RG [qa,Qa]
def t_:=ju 12051 Q51
abbrev Q52:=jB (l4 Qf zn) Qb
abbrev Q53:=ld [zn]
abbrev Q54:List W:=RG [qv,Q5y]
abbrev Q55:=ld [T4]
def K3:=eY zn qv (gY Q5x (pL zn) Q52 Q53 (ju 12051 Q54)) Q55
abbrev Q56:=rr 12150 Y4 14
def Rj:=kz 12150 Y4 (dJ (ff 12150 Y4) (jB Q56 T4) Q5u (ju 12101 (RG [Qf,Q56,jv Q56])))
def K2:=eY YY Qn1 (xU (oZ YY) (sp Q5v (ju 12101 Q5w) (xU Q5x (oM zn Qn1 12101 Q5z)))) Q50
def s?:=ju 12151 Q51
def K1:=eY zn qv (gY Q5x (pL zn) Q52 Q53 (ju 12151 Q54)) Q55
def s_:=oN 12250 Y4 (ff 12250 Y4) Q5u
def r?:=ju 12251 Y4
def r!:=ld []
def r_:=oN 12350 Y4 (ff 12350 Y4) Q5u
def q?:=ju 12351 Y4
def q!:=ld []
abbrev Q57:=vy 1400 [Qf,Qqb,Qb,iX,Qo]
abbrev Q58:=ff 1400 [Qf,Qqb,Qb,iX,Qo]
abbrev Y5:=xc (Jp [eJ])
abbrev Q6a:=gH Qle bW
abbrev Q6c:=vy 1250 [bW]
abbrev Q6d:=ff 1250 [bW]
abbrev Q6e:=vy 1300 [bW]
abbrev Q6f:=ff 1300 [bW]
abbrev Q6h:=oB (vy 5100 [fc,Q0]) (NZ [])
abbrev Q6i:=vy 1000 [iX]
abbrev Q6j:=ff 1000 [iX]
def q_:=jF Q57 (cf Q58 Y5 Qhg Y5 (cf Q6a Y5 (pV cM) (dJ Q6c Q6d (dJ Q6e Q6f Q6h (dJ Q6i Q6j Y5 Q6h)) Y5) Y5))
abbrev Q6k:=s5 98 nR
abbrev Q6l:=vy 1400 [Q0,Q6k,Qf,iX,Qb]
abbrev Q6m:=ff 1400 [Q0,Q6k,Qf,iX,Qb]
abbrev apD (l:List W):=Qa::Qf::Qb::Qo::Qm::bW::cM::eJ::hZ::iT::l
abbrev uU a0:=ou (apD a0)
abbrev WI:=uU []
abbrev Q6o:=vy 1400 [Qo,Qqb,Qm,Q6k,bW]
abbrev Q6p:=ff 1400 [Qo,Qqb,Qm,Q6k,bW]
abbrev Q6q:=vy 1250 [eJ]
abbrev Q6r:=ff 1250 [eJ]
abbrev Q6s:=vy 1300 [eJ]
abbrev Q6t:=ff 1300 [eJ]
abbrev Q6u:=oB (vy 5100 [fc,Q0]) (NZ [hZ,iT])
def p?:=dJ Q6l Q6m WI (jF Q6o (cf Q6p WI Q0l WI (cf Q0m WI Yk (dJ Q6q Q6r (dJ Q6s Q6t Q6u (dJ Q6i Q6j WI Q6u)) WI) WI)))
def p!:=jF Q57 (cf Q58 Y5 Qhg Y5 (cf Q6a Y5 (pV cM) (dJ Q6c Q6d (dJ Q6e Q6f Y5 Q6h) Y5) Y5))
def p_:=dJ Q6l Q6m WI (jF Q6o (cf Q6p WI Q0l WI (cf Q0m WI Yk (dJ Q6q Q6r (dJ Q6s Q6t WI Q6u) WI) WI)))
abbrev Y3:=xc (Jp [eJ,hZ])
abbrev Q6w:=jB QG (cZ 1250 [bW])
abbrev Q6x:=kz 5250 [eJ,fc,Q0] (ou (NZ [hZ,QG,gk 5250 [eJ,fc,Q0]]))
def Ri:=jF Q57 (cf Q58 Y3 Qhg Y3 (cf Q6a Y3 (pV cM) (dJ Q6c Q6w (dJ Q6e Q6f Q6x (dJ Q6i Q6j Y3 Q6x)) Y3) Y3))
abbrev WH:=uU [jI]
abbrev Q6z:=jB (ln iT) (cZ 1250 [eJ])
abbrev Q60:=kz 5250 [iT,fc,Q0] (ou (NZ [hZ,iT,jI,ln iT,gk 5250 [iT,fc,Q0]]))
def Rh:=dJ Q6l Q6m WH (jF Q6o (cf Q6p WH Q0l WH (cf Q0m WH Yk (dJ Q6q Q6z (dJ Q6s Q6t Q60 (dJ Q6i Q6j WH Q60)) WH) WH)))
def Rg:=jF Q57 (cf Q58 Y3 Qhg Y3 (cf Q6a Y3 (pV cM) (dJ Q6c Q6w (dJ Q6e Q6f Y3 Q6x) Y3) Y3))
def Rf:=dJ Q6l Q6m WH (jF Q6o (cf Q6p WH Q0l WH (cf Q0m WH Yk (dJ Q6q Q6z (dJ Q6s Q6t WH Q60) WH) WH)))
def Re:=ju 12801 [Qf,Qb,Qb]
abbrev Q61:W:=.op .idx (uT Qf (cn Qc3 Q1e)) YV
def K0:=gM Ev (oy (qo Yp (gH Yp Qrq) (eC (zX b0 Yp) Q0 (ju 12801 Qh6) (zX b0 Yp) fc (xU (pL qa) (l3 (oZ Q61) (Gi [qa]) (ju 12801 [Qf,Qb,l7 Qo Q61]))) (xc [Qo])))) (Gi [Qo])
abbrev Q62:=sZ (uT Qf (cn Qty Q1e))
abbrev Q63:=xc [jv IH]
abbrev Q64:=sZ (uT Qf (rq Qty (mk Q00) iX))
def KZ:=nU T5 Qwr (gY (oZ Q1a) (gH Q1a Qrq) (jB (zX b0 Q1a) Ca) (eY qa Q00 (xU (pL qa) (eC Q62 Q06 Q63 Q62 Qr2 Q63 (xc [IH]))) (xU (ry Q00) (eC Q64 Q06 Q63 Q64 Qr2 Q63 (xc [IH])))) (ju 12851 [Qf,Qb,zX b0 Q1a,IH]))
abbrev Q65:=xc [Qm]
def FQ:=sp Qhm (sY (qo Qpq (gH Qpq Qrq) (kT (zX b0 Qpq) (ju 12851 Qh0) (zX b0 Qpq) qI (gI Qo qI (ju 12851 Qh0) Q65) Q65))) Q65
abbrev Q66:=ce 2 (rp Qb)
abbrev Q67:=el Q66 cM
abbrev Q68:=fK Q67
abbrev Q69:=pN (ce 6 Q67)
abbrev Q7a:=el (ce 6 Q67) Qa
abbrev Q7b:=[fK Q7a,ic Q7a,iq Q7a,ce 3 Q7a,eJ]
abbrev Q7c:=vy 1950 Q7b
abbrev Q7d:=gR Q67
abbrev Q7e:=ff 1950 Q7b
abbrev Q7f:=uU [jI,mh,kS Q67,eJ]
def wi:=nN WE (jF Qh3 (nU Il (gf cM Q66) (kT Q68 (jw Q69 Q7c (qo Q7d (gH Q7d QG) (uU [jI,mh,Qhv,rz eJ Q7d (mk (cZ 1950 Q7b))]))) Q68 qI (mD Q69 Q7c Q7e Q7f (uU [jI,mh,Qhv,eJ])) (eC Q68 Ca Q7f Q68 PL (qo Q7d (gH Q7d QG) (uU [jI,mh,Qhv,rz eJ Q7d (np 5 Q67)])) (jF (jB Q68 QB) (gY (oZ Q7d) (gH Q7d QG) (qn (l4 eJ Q7d)) (uU [jI,mh,Qhv,rz eJ Q7d (mk (pR (l4 eJ Q7d) Q0))]) Q7f))))))
abbrev Q7g:=[Qf,Qb,hZ,Qo,Qm,bW,cM,eJ]
abbrev Q7h:=rr 400 Q7g 6
abbrev Q7i:=el Q66 jI
abbrev Q7l:=iD 400 Q7g
abbrev Q7m:=rr 400 Q7g 4
abbrev Q7o:=oZ (gR Q7i)
abbrev Y2:=jB Q7h kX
abbrev Q7q:=gk 400 Q7g
abbrev Yr:=rr 400 Q7g 3
abbrev Q7s:=rr 400 Q7g 5
abbrev Q7t:=cZ 400 Q7g
abbrev Nl:=jv jI
abbrev apF (l:List W):=qv::zn::Q7q::Q7l::Yr::Q7m::Q7s::Q7h::Q7t::l
abbrev nq a0:=ld (apF a0)
abbrev Q7v:=nq [Nl,mh,Ni,Yr,qv,Qa]
abbrev Q7w:=nq [Nl,mh,qx,zo,qv,Qa]
abbrev Q7x:=gf (gR Q7i) mh
abbrev Q7y:=sU mh (np 3 Q7i) (mk Q7m)
abbrev Q7z:=nq [Nl,Q7y,Ni,Yr,qv,Qa]
abbrev Q70:=nq [Nl,Q7y,qx,zo,qv,Qa]
abbrev Q71:=kS Q7i
abbrev Q72:=nq [Q71,mh,Ni,Yr,qv,Qa]
abbrev Q73:=nq [Q71,mh,qx,zo,qv,Qa]
abbrev Q74:=nq [Q71,Q7y,Ni,Yr,qv,Qa]
abbrev Q75:=nq [Q71,Q7y,qx,zo,qv,Qa]
abbrev Q76:=jB Q7l Qme
abbrev Q77:=nL Y2 Q76 (nq [Nl,mh,Nh,Yr,Q7m,Qa]) Q7v Q7w
abbrev Xh (l:List W):=qv::zn::Qa::Qa::Qa::Qa::Qa::Q7h::hZ::jI::l
def fQ:=kz 400 Q7g (nN (gf Qo iT) (cf (pV Q7h) (gI Qm qI (eY Yl Q5y (ld (Xh [mh,qx,zo,qv,Yl])) (ld (Xh [mh,qx,zo,qv,Q5y]))) (ld (Xh [mh,qx,zo,qv,zn]))) (pV qx) (jF Qh3 (gY Qn2 (gf jI Q66) (tU (fK Q7i)) (cf (jB (DY 1 Q7i) Ik) (cf (jB Q7l Ik) (ed (tU Q7m) Q7o (sp Y2 Q7v Q7w) (dJ Q7x Y2 Q7z Q70) Q7o (sp Y2 Q72 Q73) (dJ Q7x Y2 Q74 Q75)) Q7o (nL Y2 Q76 (nq [Q71,mh,Nh,Yr,Q7m,Qa]) Q72 Q73) (dJ Q7x Y2 (sp Q76 (nq [Q71,Q7y,Nh,Yr,Q7m,Qa]) Q74) Q75)) Q7o Q77 (dJ Q7x Y2 (sp Q76 (nq [Nl,Q7y,Nh,Yr,Q7m,Qa]) Q7z) Q70)) Q77)) (nq [jI,mh,Qa,Qa,Qa,Qa])))
abbrev Q78:=uU [jI,mh,kS Q67]
def KY:=nN WE (jF Qh3 (gY Il (gf cM Q66) (jB Q68 kX) (jw Q69 Q7c fl) (eC Q68 qI (mD Q69 Q7c Q7e Q78 (uU [jI,mh,Qhv])) Q68 Ca Q78 (nU (jB Q68 PL) (jB Q68 QB) fl))))
abbrev Q79:=nq [Nl,Ni,Yr,qv,Qa]
abbrev Q8a:=nq [Nl,qx,zo,qv,Qa]
abbrev Q8b:=nq [Q71,Ni,Yr,qv,Qa]
abbrev Q8c:=nq [Q71,qx,zo,qv,Qa]
abbrev Q8d:=nL Y2 Q76 (nq [Nl,Nh,Yr,Q7m,Qa]) Q79 Q8a
def jC:=kz 400 Q7g (nN (gf Qo iT) (cf (pV Q7h) (gI Qm qI (eY Yl Q5y (ld (Xh [qx,zo,qv,Yl])) (ld (Xh [qx,zo,qv,Q5y]))) (ld (Xh [qx,zo,qv,zn]))) (pV qx) (jF Qh3 (gY Qn2 (gf jI Q66) (tU (fK Q7i)) (gI (DY 1 Q7i) Ik (gI Q7l Ik (gI Q7m Q0 (dJ Q7o Y2 Q79 Q8a) (dJ Q7o Y2 Q8b Q8c)) (dJ Q7o Y2 (sp Q76 (nq [Q71,Nh,Yr,Q7m,Qa]) Q8b) Q8c)) (jF Q7o Q8d)) Q8d)) (nq [jI,Qa,Qa,Qa,Qa])))
def n_:=ju 20001 Qj
def m?:=ou [Qa,Qf]
def m_:=ju 20051 Qh1
def Rc:=sp Ev (oy (gI Yp Qb (ju 20051 Qh6) (ju 20052 [Qf,Qb,Cu iX (mk Yp),Du]))) Qbb
def Rb:=gM Qhm (sY (gI Qpq Qb (ju 20052 Qh0) (oM T7 Qke 20052 [Qf,Qb,Cu Qo (mk Qpq),Q1]))) [Q0,Qf,Qb,Qo]
abbrev Q8e:List W:=CE (Gh [iT])
abbrev Q8f:=rr 4000 Q8e 6
abbrev Q8g:=ld [qv,Qo,Qa,Qa,Qa,Qa,Qa,Qa,jI,mh,qx,zo,qv]
abbrev Q8h:=el H9 jI
abbrev Q8k:=iD 4000 Q8e
abbrev Q8l:=rr 4000 Q8e 4
abbrev Q8n:=oZ (gR Q8h)
abbrev Y1:=jB Q8f kX
abbrev Q8p:=cZ 4000 Q8e
abbrev Q8q:=gk 4000 Q8e
abbrev WG:=rr 4000 Q8e 3
abbrev Q8s:=rr 4000 Q8e 5
abbrev RF (l:List W):=qv::Q8p::Q8q::Q8k::WG::Q8l::Q8s::Q8f::l
abbrev Q8t:=ld (RF [Nl,Ni,WG,zo,Qa])
abbrev Q8u:=ld (RF [Nl,mh,qx,zo,Qa])
abbrev Q8v:=kS Q8h
abbrev Q8w:=ld (RF [Q8v,Ni,WG,zo,Qa])
abbrev Q8x:=ld (RF [Q8v,mh,qx,zo,Qa])
abbrev Q8y:=jB Q8k Qme
abbrev Q8z:=nL Y1 Q8y (ld (RF [Nl,Nh,WG,Q8l,Qa])) Q8t Q8u
def Ck:=kz 4000 Q8e (nU xI Qsi (ed (pV Q8f) Qo1 (eY qv Yl (ld [qv,Qo,Qa,Qa,Qa,Qa,Qa,Qa,jI,mh,qx,zo,jv qv]) Q8g) Q8g (pV mh) (jF B0 (gY Qn2 (gf jI H9) (tU (fK Q8h)) (gI (DY 1 Q8h) Ik (gI Q8k Ik (gI Q8l Q0 (dJ Q8n Y1 Q8t Q8u) (dJ Q8n Y1 Q8w Q8x)) (dJ Q8n Y1 (sp Q8y (ld (RF [Q8v,Nh,WG,Q8l,Qa])) Q8w) Q8x)) (jF Q8n Q8z)) Q8z)) (ld (RF [jI,Qa,Qa,Qa,Qa]))))
abbrev Q80:=ld [qv,zn,Qo,Qa,Qa,Qa,Qa,Qa,Qa,jI,mh,qx,zo,qv,zn]
abbrev apE (l:List W):=qv::zn::Q8p::Q8q::Q8k::WG::Q8l::Q8s::Q8f::l
abbrev tT a0:=ld (apE a0)
abbrev Q81:=tT [Nl,mh,Ni,WG,qv,Qa]
abbrev Q82:=tT [Nl,mh,qx,zo,qv,Qa]
abbrev Q83:=gf (gR Q8h) mh
abbrev Q84:=sU mh (np 3 Q8h) (mk Q8l)
abbrev Q85:=tT [Nl,Q84,Ni,WG,qv,Qa]
abbrev Q86:=tT [Nl,Q84,qx,zo,qv,Qa]
abbrev Q87:=tT [Q8v,mh,Ni,WG,qv,Qa]
abbrev Q88:=tT [Q8v,mh,qx,zo,qv,Qa]
abbrev Q89:=tT [Q8v,Q84,Ni,WG,qv,Qa]
abbrev Q9a:=tT [Q8v,Q84,qx,zo,qv,Qa]
abbrev Q9b:=nL Y1 Q8y (tT [Nl,mh,Nh,WG,Q8l,Qa]) Q81 Q82
def Cj:=kz 4000 Q8e (nU xI Qsi (ed (pV Q8f) Qo1 (eY zn Yl (ld [qv,zn,Qo,Qa,Qa,Qa,Qa,Qa,Qa,jI,mh,qx,zo,qv,Q5y]) Q80) Q80 (pV qx) (jF B0 (gY Qn2 (gf jI H9) (tU (fK Q8h)) (cf (jB (DY 1 Q8h) Ik) (cf (jB Q8k Ik) (ed (tU Q8l) Q8n (sp Y1 Q81 Q82) (dJ Q83 Y1 Q85 Q86) Q8n (sp Y1 Q87 Q88) (dJ Q83 Y1 Q89 Q9a)) Q8n (nL Y1 Q8y (tT [Q8v,mh,Nh,WG,Q8l,Qa]) Q87 Q88) (dJ Q83 Y1 (sp Q8y (tT [Q8v,Q84,Nh,WG,Q8l,Qa]) Q89) Q9a)) Q8n Q9b (dJ Q83 Y1 (sp Q8y (tT [Nl,Q84,Nh,WG,Q8l,Qa]) Q85) Q86)) Q9b)) (tT [jI,mh,Qa,Qa,Qa,Qa])))
def o?:=gm 1000 Qj 1000 Qj 0 Qbb Qd2
end
theorem aaU:S.tree 9000=NC:=cQ
theorem Pm:S.tree 9001=tq:=cQ
theorem agP:S.tree 9002=afn:=cQ
theorem agO:S.tree 9003=afm:=cQ
theorem aaT:S.tree 9004=Z2:=cQ
theorem aaS:S.tree 9005=Z1:=cQ
theorem aaR:S.tree 9006=Z0:=cQ
theorem aaQ:S.tree 9007=ZZ:=cQ
theorem aaP:S.tree 9050=tp:=cQ
theorem aaO:S.tree 9051=ZY:=cQ
theorem aaN:S.tree 9052=ZX:=cQ
theorem aaM:S.tree 9053=ZW:=cQ
theorem agN:S.tree 9054=afl:=cQ
theorem agM:S.tree 9055=amu:=cQ
theorem agL:S.tree 9056=amt:=cQ
theorem agK:S.tree 9057=afk:=cQ
theorem agJ:S.tree 9058=ams:=cQ
theorem agI:S.tree 9059=amr:=cQ
theorem Pl:S.tree 9060=DC:=cQ
theorem agH:S.tree 9061=afj:=cQ
theorem agG:S.tree 9062=afi:=cQ
theorem Pk:S.tree 9063=DB:=cQ
theorem agF:S.tree 9064=afh:=cQ
theorem agE:S.tree 9065=afg:=cQ
theorem Pj:S.tree 9066=DA:=cQ
theorem agD:S.tree 9067=aff:=cQ
theorem agC:S.tree 9068=afe:=cQ
theorem aaL:S.tree 9069=ZV:=cQ
theorem aaK:S.tree 9070=ZU:=cQ
theorem aaJ:S.tree 9071=ZT:=cQ
theorem aaI:S.tree 9072=ZS:=cQ
theorem aaH:S.tree 9073=ZR:=cQ
theorem aaG:S.tree 9074=ZQ:=cQ
theorem aaF:S.tree 9100=ZP:=cQ
theorem aaE:S.tree 9101=NB:=cQ
theorem aaD:S.tree 9102=ZO:=cQ
theorem aaC:S.tree 9103=ZN:=cQ
theorem aaB:S.tree 9104=ZM:=cQ
theorem aaA:S.tree 9105=ZL:=cQ
theorem Ph:S.tree 9106=NA:=cQ
theorem VQ:S.tree 9150=Um:=cQ
theorem VP:S.tree 9151=Dz:=cQ
theorem aaz:S.tree 9152=Ul:=cQ
theorem aay:S.tree 9153=Uk:=cQ
theorem Pg:S.tree 9154=Dy:=cQ
theorem aoN:S.tree 100=t100:=cQ
theorem aeF:S.tree 101=t101:=cQ
theorem aeE:S.tree 102=t102:=cQ
theorem ak3:S.tree 103=t103:=cQ
theorem ak2:S.tree 150=t150:=cQ
theorem aeD:S.tree 151=t151:=cQ
theorem ak1:S.tree 200=t200:=cQ
theorem MA:S.tree 201=t201:=cQ
theorem aeC:S.tree 202=t202:=cQ
theorem ak0:S.tree 250=t250:=cQ
theorem aeB:S.tree 251=t251:=cQ
theorem aeA:S.tree 300=adt:=cQ
theorem akZ:S.tree 301=WT:=cQ
theorem akY:S.tree 302=ajz:=cQ
theorem aez:S.tree 350=ads:=cQ
theorem aey:S.tree 351=WS:=cQ
theorem akX:S.tree 400=jJ:=cQ
theorem aoM:S.tree 450=amF:=cQ
theorem akW:S.tree 451=ajy:=cQ
theorem akV:S.tree 452=ajx:=cQ
theorem akU:S.tree 453=ajw:=cQ
theorem akT:S.tree 454=ajv:=cQ
theorem akS:S.tree 455=aju:=cQ
theorem akR:S.tree 456=ajt:=cQ
theorem akQ:S.tree 500=adr:=cQ
theorem aa0:S.tree 501=WR:=cQ
theorem aoL:S.tree 550=adq:=cQ
theorem akP:S.tree 551=ajs:=cQ
theorem aoK:S.tree 552=api:=cQ
theorem aoJ:S.tree 553=aph:=cQ
theorem aoG:S.tree 600=amz:=cQ
theorem akO:S.tree 650=ajr:=cQ
theorem aoF:S.tree 700=amy:=cQ
theorem IB:S.tree 750=Iq:=cQ
theorem aoE:S.tree 800=amx:=cQ
theorem aoD:S.tree 850=amw:=cQ
theorem akN:S.tree 851=adp:=cQ
theorem aoC:S.tree 900=amv:=cQ
theorem aoB:S.tree 950=amq:=cQ
theorem EK:S.tree 951=Ez:=cQ
theorem EJ:S.tree 952=Ey:=cQ
theorem EI:S.tree 953=rX:=cQ
theorem EH:S.tree 954=rW:=cQ
theorem ahL:S.tree 1000=af8:=cQ
theorem VZ:S.tree 1050=UA:=cQ
theorem ahK:S.tree 1100=af7:=cQ
theorem ahJ:S.tree 1101=amG:=cQ
theorem aca:S.tree 1102=t!:=cQ
theorem ahI:S.tree 1150=af6:=cQ
theorem ahH:S.tree 1200=af5:=cQ
theorem ahG:S.tree 1250=af4:=cQ
theorem ahF:S.tree 1300=af3:=cQ
theorem ahE:S.tree 1350=af2:=cQ
theorem VY:S.tree 1400=Uz:=cQ
theorem abQ:S.tree 1450=o!:=cQ
theorem abO:S.tree 1451=Uy:=cQ
theorem abN:S.tree 1452=Ux:=cQ
theorem ahD:S.tree 1500=af1:=cQ
theorem abL:S.tree 1501=o_:=cQ
theorem ahC:S.tree 1550=af0:=cQ
theorem ahB:S.tree 1600=afZ:=cQ
theorem ahA:S.tree 1650=afY:=cQ
theorem VX:S.tree 1700=Uw:=cQ
theorem ahz:S.tree 1750=IZ:=cQ
theorem abK:S.tree 1751=n?:=cQ
theorem abJ:S.tree 1800=n!:=cQ
theorem Ei:S.tree 1850=nC:=cQ
theorem Eh:S.tree 1950=yQ:=cQ
theorem ahy:S.tree 2050=afX:=cQ
theorem abF:S.tree 2051=l?:=cQ
theorem abE:S.tree 2052=l!:=cQ
theorem VW:S.tree 2400=Uv:=cQ
theorem VV:S.tree 2401=DD:=cQ
theorem abv:S.tree 2402=IY:=cQ
theorem ahx:S.tree 2450=afW:=cQ
theorem abu:S.tree 2451=j!:=cQ
theorem abt:S.tree 2550=j_:=cQ
theorem Po:S.tree 2551=IX:=cQ
theorem abr:S.tree 2650=i?:=cQ
theorem abq:S.tree 2651=i!:=cQ
theorem Kl:S.tree 2652=IW:=cQ
theorem Kk:S.tree 2653=IV:=cQ
theorem Kj:S.tree 2654=IU:=cQ
theorem ahw:S.tree 2655=afV:=cQ
theorem abp:S.tree 2656=i_:=cQ
theorem Ki:S.tree 2657=IT:=cQ
theorem ahv:S.tree 2658=afU:=cQ
theorem ahu:S.tree 3600=afT:=cQ
theorem aht:S.tree 3601=IS:=cQ
theorem abo:S.tree 3602=IQ:=cQ
theorem ahs:S.tree 3603=Uu:=cQ
theorem ahr:S.tree 3604=Ut:=cQ
theorem abn:S.tree 3605=Us:=cQ
theorem abm:S.tree 3606=Ur:=cQ
theorem ahq:S.tree 3800=afS:=cQ
theorem abl:S.tree 3801=h!:=cQ
theorem VU:S.tree 3850=Uq:=cQ
theorem abk:S.tree 3851=h_:=cQ
theorem abj:S.tree 3852=g!:=cQ
theorem ahp:S.tree 3900=afR:=cQ
theorem abi:S.tree 3901=Up:=cQ
theorem aho:S.tree 3950=afQ:=cQ
theorem ahn:S.tree 3951=g_:=cQ
theorem abh:S.tree 3952=f?:=cQ
theorem l8:S.tree 4000=lV:=cQ
theorem ahm:S.tree 4050=afP:=cQ
theorem abg:S.tree 4051=f_:=cQ
theorem abf:S.tree 4052=e?:=cQ
theorem abe:S.tree 4053=e!:=cQ
theorem abd:S.tree 4054=NH:=cQ
theorem ahl:S.tree 4100=NF:=cQ
theorem abc:S.tree 4101=e_:=cQ
theorem ahk:S.tree 4150=afO:=cQ
theorem ahj:S.tree 4200=afN:=cQ
theorem zh:S.tree 4250=yO:=cQ
theorem abb:S.tree 4300=d?:=cQ
theorem aba:S.tree 4301=d!:=cQ
theorem ahi:S.tree 4350=afM:=cQ
theorem aa9:S.tree 4351=d_:=cQ
theorem ahh:S.tree 4400=afL:=cQ
theorem aa8:S.tree 4401=c!:=cQ
theorem ahg:S.tree 4450=afK:=cQ
theorem ahf:S.tree 4500=afJ:=cQ
theorem ahe:S.tree 4550=afI:=cQ
theorem ahd:S.tree 4600=afH:=cQ
theorem ahc:S.tree 4650=afG:=cQ
theorem aa7:S.tree 4700=c_:=cQ
theorem VT:S.tree 4701=Uo:=cQ
theorem aa6:S.tree 4702=b?:=cQ
theorem Pn:S.tree 4703=ND:=cQ
theorem ahb:S.tree 4750=b!:=cQ
theorem aha:S.tree 4800=afF:=cQ
theorem aa5:S.tree 4801=b_:=cQ
theorem aa4:S.tree 4850=a!:=cQ
theorem VS:S.tree 4851=Un:=cQ
theorem aa3:S.tree 4852=a_:=cQ
theorem ag9:S.tree 4900=afE:=cQ
theorem aa2:S.tree 4901=Z9:=cQ
theorem ag8:S.tree 4950=afD:=cQ
theorem aa1:S.tree 4951=Z8:=cQ
theorem abD:S.tree 22000=l_:=cQ
theorem abC:S.tree 22001=k?:=cQ
theorem Ts:S.tree 22002=Ra:=cQ
theorem abB:S.tree 22100=k!:=cQ
theorem Tq:S.tree 22101=KX:=cQ
theorem Tp:S.tree 22150=QZ:=cQ
theorem abA:S.tree 22151=KW:=cQ
theorem To:S.tree 22152=KV:=cQ
theorem abz:S.tree 22200=k_:=cQ
theorem Tn:S.tree 22201=FP:=cQ
theorem aby:S.tree 22250=j?:=cQ
theorem abx:S.tree 22251=KU:=cQ
theorem Tm:S.tree 22252=KS:=cQ
theorem Tl:S.tree 22300=QY:=cQ
theorem Tj:S.tree 22350=wg:=cQ
theorem Dj:S.tree 22400=j9:=cQ
theorem Mz:S.tree 22500=KR:=cQ
theorem abw:S.tree 22550=FO:=cQ
theorem My:S.tree 22551=Cq:=cQ
theorem Mw:S.tree 22600=KQ:=cQ
theorem Mv:S.tree 22601=we:=cQ
theorem Ti:S.tree 22602=Cp:=cQ
theorem Tf:S.tree 22650=QW:=cQ
theorem Te:S.tree 22651=QV:=cQ
theorem Di:S.tree 22652=Co:=cQ
theorem Dh:S.tree 22653=Cn:=cQ
theorem Dg:S.tree 22654=Cm:=cQ
theorem Td:S.tree 22655=QU:=cQ
theorem Df:S.tree 22656=Cl:=cQ
theorem Tc:S.tree 22700=QT:=cQ
theorem Hy:S.tree 22701=uq:=cQ
theorem ag7:S.tree 5000=afC:=cQ
theorem ag6:S.tree 5050=afB:=cQ
theorem aaZ:S.tree 5051=Z7:=cQ
theorem ag5:S.tree 5100=afA:=cQ
theorem ag4:S.tree 5101=amE:=cQ
theorem ag3:S.tree 5150=afz:=cQ
theorem ag2:S.tree 5151=amD:=cQ
theorem ag1:S.tree 5200=afy:=cQ
theorem ag0:S.tree 5201=amC:=cQ
theorem agZ:S.tree 5250=afx:=cQ
theorem aaY:S.tree 5251=Z6:=cQ
theorem agY:S.tree 5300=afw:=cQ
theorem aaX:S.tree 5301=Z5:=cQ
theorem agX:S.tree 5350=afv:=cQ
theorem aaW:S.tree 5351=Z4:=cQ
theorem agW:S.tree 5400=afu:=cQ
theorem aaV:S.tree 5401=Z3:=cQ
theorem agV:S.tree 5450=aft:=cQ
theorem agU:S.tree 5451=afs:=cQ
theorem agT:S.tree 5500=afr:=cQ
theorem agS:S.tree 5501=afq:=cQ
theorem aoI:S.tree 5550=amB:=cQ
theorem aoH:S.tree 5551=amA:=cQ
theorem agR:S.tree 5600=afp:=cQ
theorem agQ:S.tree 5601=afo:=cQ
theorem TA:S.tree 12000=Rk:=cQ
theorem ME:S.tree 12001=K4:=cQ
theorem ab9:S.tree 12050=t_:=cQ
theorem Tz:S.tree 12051=K3:=cQ
theorem Ty:S.tree 12100=Rj:=cQ
theorem MD:S.tree 12101=K2:=cQ
theorem ab8:S.tree 12150=s?:=cQ
theorem Tx:S.tree 12151=K1:=cQ
theorem ab7:S.tree 12200=s_:=cQ
theorem ab6:S.tree 12250=r?:=cQ
theorem ab5:S.tree 12251=r!:=cQ
theorem ab4:S.tree 12300=r_:=cQ
theorem ab3:S.tree 12350=q?:=cQ
theorem ab2:S.tree 12351=q!:=cQ
theorem ab1:S.tree 12400=q_:=cQ
theorem ab0:S.tree 12450=p?:=cQ
theorem abZ:S.tree 12500=p!:=cQ
theorem abY:S.tree 12550=p_:=cQ
theorem abX:S.tree 12600=Ri:=cQ
theorem abW:S.tree 12650=Rh:=cQ
theorem abV:S.tree 12700=Rg:=cQ
theorem abU:S.tree 12750=Rf:=cQ
theorem Tw:S.tree 12800=Re:=cQ
theorem Tv:S.tree 12801=K0:=cQ
theorem MC:S.tree 12850=KZ:=cQ
theorem MB:S.tree 12851=FQ:=cQ
theorem abS:S.tree 14000=wi:=cQ
theorem abP:S.tree 14500=fQ:=cQ
theorem abR:S.tree 14050=KY:=cQ
theorem abM:S.tree 14550=jC:=cQ
theorem abI:S.tree 20000=n_:=cQ
theorem abH:S.tree 20001=m?:=cQ
theorem abG:S.tree 20050=m_:=cQ
theorem Tu:S.tree 20051=Rc:=cQ
theorem Tt:S.tree 20052=Rb:=cQ
theorem Mu:S.tree 24000=Ck:=cQ
theorem Mt:S.tree 24050=Cj:=cQ
theorem abT:S.tree 12900=o?:=cQ
end Go.As.Try
end
section
namespace Go.As.Try
open Go hiding Stat Spec shape
open Go.As Go.Proofs
set_option maxRecDepth 100000
structure PT where
 j:Nat
 t:T Lf
 e:S.tree j=t
def pT {j:Nat} {t:T Lf} (e:S.tree j=t):PT:=⟨j,t,e⟩
noncomputable def trees:List PT:=[pT aaU,pT Pm,pT agP,pT agO,pT aaT,pT aaS,pT aaR,pT aaQ,pT aaP,pT aaO,pT aaN,pT aaM,pT agN,pT agM,pT agL,pT agK,pT agJ,pT agI,pT Pl,pT agH,pT agG,pT Pk,pT agF,pT agE,pT Pj,pT agD,pT agC,pT aaL,pT aaK,pT aaJ,pT aaI,pT aaH,pT aaG,pT aaF,pT aaE,pT aaD,pT aaC,pT aaB,pT aaA,pT Ph,pT VQ,pT VP,pT aaz,pT aay,pT Pg,pT aoN,pT aeF,pT aeE,pT ak3,pT ak2,pT aeD,pT ak1,pT MA,pT aeC,pT ak0,pT aeB,pT aeA,pT akZ,pT akY,pT aez,pT aey,pT akX,pT aoM,pT akW,pT akV,pT akU,pT akT,pT akS,pT akR,pT akQ,pT aa0,pT aoL,pT akP,pT aoK,pT aoJ,pT aoG,pT akO,pT aoF,pT IB,pT aoE,pT aoD,pT akN,pT aoC,pT aoB,pT EK,pT EJ,pT EI,pT EH,pT ahL,pT VZ,pT ahK,pT ahJ,pT aca,pT ahI,pT ahH,pT ahG,pT ahF,pT ahE,pT VY,pT abQ,pT abO,pT abN,pT ahD,pT abL,pT ahC,pT ahB,pT ahA,pT VX,pT ahz,pT abK,pT abJ,pT Ei,pT Eh,pT ahy,pT abF,pT abE,pT VW,pT VV,pT abv,pT ahx,pT abu,pT abt,pT Po,pT abr,pT abq,pT Kl,pT Kk,pT Kj,pT ahw,pT abp,pT Ki,pT ahv,pT ahu,pT aht,pT abo,pT ahs,pT ahr,pT abn,pT abm,pT ahq,pT abl,pT VU,pT abk,pT abj,pT ahp,pT abi,pT aho,pT ahn,pT abh,pT l8,pT ahm,pT abg,pT abf,pT abe,pT abd,pT ahl,pT abc,pT ahk,pT ahj,pT zh,pT abb,pT aba,pT ahi,pT aa9,pT ahh,pT aa8,pT ahg,pT ahf,pT ahe,pT ahd,pT ahc,pT aa7,pT VT,pT aa6,pT Pn,pT ahb,pT aha,pT aa5,pT aa4,pT VS,pT aa3,pT ag9,pT aa2,pT ag8,pT aa1,pT abD,pT abC,pT Ts,pT abB,pT Tq,pT Tp,pT abA,pT To,pT abz,pT Tn,pT aby,pT abx,pT Tm,pT Tl,pT Tj,pT Dj,pT Mz,pT abw,pT My,pT Mw,pT Mv,pT Ti,pT Tf,pT Te,pT Di,pT Dh,pT Dg,pT Td,pT Df,pT Tc,pT Hy,pT ag7,pT ag6,pT aaZ,pT ag5,pT ag4,pT ag3,pT ag2,pT ag1,pT ag0,pT agZ,pT aaY,pT agY,pT aaX,pT agX,pT aaW,pT agW,pT aaV,pT agV,pT agU,pT agT,pT agS,pT aoI,pT aoH,pT agR,pT agQ,pT TA,pT ME,pT ab9,pT Tz,pT Ty,pT MD,pT ab8,pT Tx,pT ab7,pT ab6,pT ab5,pT ab4,pT ab3,pT ab2,pT ab1,pT ab0,pT abZ,pT abY,pT abX,pT abW,pT abV,pT abU,pT Tw,pT Tv,pT MC,pT MB,pT abS,pT abP,pT abR,pT abM,pT abI,pT abH,pT abG,pT Tu,pT Tt,pT Mu,pT Mt,pT abT]
theorem ZF:trees.all (fun p=>PZ [] p.t)=true:=aa
theorem alb:ahN (JP 482 feT) 482 (trees.map PT.j)=true:=aa
theorem adg (j:Nat):PZ [] (S.tree j)=true:=by
 cases h:vG St.t j with
 |none=>exact WN (S:=St) h
 |some e=> obtain⟨p,hp,rfl⟩:=aR.1 (cov alb (fun k hk=>L? hk) h);rw [p.e];exact aP.1 ZF p hp
noncomputable def L:p9:=qL S.tree
theorem bI (j:Nat) (xs:List Int):L j xs=fin L (eI (dq L (low xs)) (S.tree j)):=ajZ adg j xs
end Go.As.Try
end
section
namespace Go.As.Try
open Go hiding Stat
open Go.As Go.Proofs Go.RowKit Go.ChangeShapes Go.WideShapes Go.ChangeAt
open Go.Proofs.YtoihjjgkpialoaaGreatDoor
set_option maxRecDepth 100000
theorem own:ownKnob Tryz.prog.godebug=none:=aa
theorem laidOut:laidOutB Tryz.prog=true:=aa
def D':TypeId->Option Nat:=Eb (am7.take 12)
def ownB (P:Program) (own:TypeId->Option Nat) (l:List (Nat×Nat)):Bool:=l.all fun p=>match P.underlying p.1 with
 |some (.slice e)=>decide (tV P own 8 e=some (lX p.2))&&Nat.beq (P.cellsOf e) (lX p.2).length&&Nat.ble (mU p.2) (P.bytesOf e)&&Nat.ble 1 (lX p.2).length
 |_=>false
theorem J9 {t i:Nat}: ∀{l:List (Nat×Nat)},Eb l t=some i->(t,i)∈l
 |[],h=>by simp [Eb] at h
 |(a,k)::l,h=>by
  unfold Eb at h;split at h
  ·rename_i hb;have:=az hb;simp only [ah] at h;subst this h;simp
  ·exact arS _ (J9 h)
theorem adV {P:Program} {l:List (Nat×Nat)} (h:ownB P (Eb l) l=true):ac2 P (Eb l):=by
 intro t i iI;have:=aP.1 h _ (J9 iI);simp only at this;split at this
 ·rename_i e he;simp only [an,decide_eq_true_eq] at this;exact⟨e,8,he,this.1.1.1,az this.1.1.2,arw this.1.2,arw this.2⟩
 ·simp at this
theorem adT:ac2 Tryz.prog D':=adV aa
theorem ael {Z!:World} (h:Z!.ShapedOpen Tryz.prog):base.ok (PY Z!) Z!.heap:=by obtain⟨m,hm⟩:=LaysM.n144.s1_3 Tryz.laysM144 Z! h;exact⟨Wn hm,m,by rw [<- pZ]; exact hm⟩
def U1:DataW Unit->Value
 | .lit (.int k n)=> .int k n
 |_=>undef
def alc:DataW Unit->Array Value
 | .agg l=>(l.map U1).toArray
 |d=> #[U1 d]
def anp (d:DataW Unit):Obj->Obj
 | .cells _ t f=> .cells (alc d) t f
 |o=>o
noncomputable def aj0 (h:Array Obj) (x:String×DataW Unit):Array Obj:=match Tryz.prog.globalNamed x.1 with
 |some g=>h.modify g (anp x.2)
 |none=>h
noncomputable def CY (os:Os):World:=
 { World.holding Tryz.prog os ⟨#[],#[],[]⟩ with heap:=Rows.freeTellsRow.laid.foldl aj0 (World.holding Tryz.prog os ⟨#[],#[],[]⟩).heap }
theorem xx {ro:Nat->Prop} {h:Array Obj} {i:Nat} {d:D} {v:Value} (r:Rd ro h (.sl i) d v):vI ro h (.sl i) (enc d) v:=by show Rd ro h (.sl i) (dec (enc d)) v;rw [bA];exact r
theorem acU {ro:Nat->Prop} {h:Array Obj} {u:Value} (a:ae4 [.one .bool] [1] ro h u):u= .bool true:=by
 obtain⟨us,fl,hs,hc,hu⟩:=a
 cases hs with
 |one c v hs=> cases hs;simp only [qF,RK.flat,bh,aM,au] at hc;obtain⟨n,ns',u',iA,U,Z,h3,h4⟩:=hc;simp only [List.cons.injEq] at U Z;obtain⟨rfl,_⟩:=U;obtain⟨rfl,_⟩:=Z;rw [hu];exact h3
theorem acE {g j:Nat} {e:Cc} (hn:j∈S.EA g) (he:S.cO j=some e) (hp:e.pat=none) (hr:e.ml= [.one .bool]) {xs:List Int} (hL:L j xs=some [1]) {Z!:World} (Ao:Z!.ShapedOpen Tryz.prog) {vals fl:List Value} (U:Shape e.H5 vals fl) (Z:iL (PY Z!) Z!.heap (qF e.H5) xs fl) :
 Calls Tryz.prog g vals.toArray Z! fun en W'=>en= .returned (.bool true)/\Below Z!.heap.size Z! W':=by
 obtain⟨n,mR⟩:=LD hL;refine (t? ajA hn he hp n xs [1] mR (PY Z!) Z! vals fl (fun _ h=>h) (ael Ao) U Z).mono fun en W' ⟨u,hu,hb,oX,_,_,_,ha⟩=>?_;rw [hr] at ha;rw [acU ha] at hu;exact⟨hu,hb⟩
end Go.As.Try
end
section
namespace Go.As
def prune (Z' N:List SB):T Lf->T Lf
 | .fail=> .fail
 | .ret l=> .ret l
 | .split c x y=>match Z'.contains c with
   |true=>prune Z' N x
   |false=>match N.contains c with
    |true=>prune Z' N y
    |false=> .split c (prune Z' N x) (prune Z' N y)
def zY (ρ:Nat->Int):List SB->Prop
 |[]=>True
 |c::l=>c.den ρ=true/\zY ρ l
def zW (ρ:Nat->Int):List SB->Prop
 |[]=>True
 |c::l=> ¬c.den ρ=true/\zW ρ l
theorem Zh {ρ:Nat->Int}: ∀{l:List SB},zY ρ l->∀c∈l,c.den ρ=true
 |[],_,c,h=>by simp at h
 |a::l,hz,c,h=>by
  rcases aH.1 h with rfl|h
  ·exact hz.1
  ·exact Zh hz.2 c h
theorem Zk {ρ:Nat->Int}: ∀{l:List SB},zW ρ l->∀c∈l,c.den ρ=false
 |[],_,c,h=>by simp at h
 |a::l,hz,c,h=>by
  rcases aH.1 h with rfl|h
  ·simpa using hz.1
  ·exact Zk hz.2 c h
theorem Zi {ρ:Nat->Int}: ∀{a b:List SB},zY ρ a->zY ρ b->zY ρ (a++b)
 |[],_,_,h=>h
 |_::_,_,h,h'=> ⟨h.1,Zi h.2 h'⟩
theorem Zl {ρ:Nat->Int}: ∀{a b:List SB},zW ρ a->zW ρ b->zW ρ (a++b)
 |[],_,_,h=>h
 |_::_,_,h,h'=> ⟨h.1,Zl h.2 h'⟩
theorem dW {ρ:Nat->Int} {Z' N:List SB} (h:zY ρ Z'/\zW ρ N): ∀t,eI ρ (prune Z' N t)=eI ρ t
 | .fail=>rfl
 | .ret l=>rfl
 | .split c x y=>by
   simp only [prune,eI];split
   ·rename_i h';rw [Zh h.1 c (atr.1 h'),ag rfl];exact dW h x
   ·split
    ·rename_i h';rw [Zk h.2 c (atr.1 h'),af ad];exact dW h y
    ·simp only [eI,dW h x,dW h y]
theorem cm {ρ:Nat->Int} (Z' N:List SB) {t:T Lf} {R:RS} (u:T Lf) (h:zY ρ Z'/\zW ρ N) (k:prune Z' N t=u) (h':eI ρ u=R):eI ρ t=R:=by rw [<- dW h t,k,h']
theorem zz :
 (∀{ρ:Nat->Int} (c:SB) (a b:T Lf),eI ρ (sp c a b)=if c.den ρ=true then eI ρ a else eI ρ b)/\
 (∀{ρ:Nat->Int} (l:List W),eI ρ (ou l)= .out (l.map (W.den ρ)))/\
 (∀{ρ:Nat->Int} (j:Nat) (l:List W),eI ρ (ju j l)= .jump j (l.map (W.den ρ)))/\
 (∀{ρ:Nat->Int},eI ρ fl= .no)/\
 (∀{ρ:Nat->Int} (a b:W),((SB.lt a b).den ρ=true)=(a.den ρ<b.den ρ))/\
 (∀{ρ:Nat->Int} (a b:W),((SB.eq a b).den ρ=true)=(a.den ρ=b.den ρ))/\
 (∀(F:p9) (lo:Nat->Int),(W.dP 0).den (dq F lo)=lo 0)/\
 (∀(F:p9) (lo:Nat->Int),(W.dP 1).den (dq F lo)=lo 1)/\
 (∀(F:p9) (lo:Nat->Int),(W.dP 2).den (dq F lo)=lo 2)/\
 (∀(F:p9) (lo:Nat->Int),(W.dP 3).den (dq F lo)=lo 3)/\
 (∀(F:p9) (lo:Nat->Int),(W.dP 4).den (dq F lo)=lo 4)/\
 (∀(F:p9) (lo:Nat->Int),(W.dP 5).den (dq F lo)=lo 5)/\
 (∀(F:p9) (lo:Nat->Int),(W.dP 6).den (dq F lo)=lo 6)/\
 (∀(F:p9) (lo:Nat->Int),(W.dP 7).den (dq F lo)=lo 7)/\
 (∀(F:p9) (lo:Nat->Int),(W.dP 8).den (dq F lo)=lo 8)/\
 (∀(F:p9) (lo:Nat->Int),(W.dP 9).den (dq F lo)=lo 9)/\
 (∀(F:p9) (lo:Nat->Int),(W.dP 10).den (dq F lo)=lo 10)/\
 (∀(F:p9) (lo:Nat->Int),(W.dP 11).den (dq F lo)=lo 11)/\
 (∀(F:p9) (lo:Nat->Int),(W.dP 12).den (dq F lo)=lo 12)/\
 (∀(F:p9) (lo:Nat->Int),(W.dP 13).den (dq F lo)=lo 13)/\
 (∀(F:p9) (lo:Nat->Int),(W.dP 14).den (dq F lo)=lo 14)/\
 (∀(F:p9) (lo:Nat->Int),(W.dP 15).den (dq F lo)=lo 15)/\
 (∀(F:p9) (lo:Nat->Int),(W.dP 16).den (dq F lo)=lo 16)/\
 (∀(F:p9) (lo:Nat->Int),(W.dP 17).den (dq F lo)=lo 17)/\
 (∀(F:p9) (lo:Nat->Int),(W.dP 18).den (dq F lo)=lo 18)/\
 (∀(F:p9) (lo:Nat->Int),(W.dP 19).den (dq F lo)=lo 19)/\
 (∀(F:p9) (lo:Nat->Int),(W.dP 20).den (dq F lo)=lo 20)/\
 (∀(F:p9) (lo:Nat->Int),(W.dP 21).den (dq F lo)=lo 21)/\
 (∀(F:p9) (lo:Nat->Int),(W.dP 22).den (dq F lo)=lo 22)/\
 (∀(F:p9) (lo:Nat->Int),(W.dP 23).den (dq F lo)=lo 23)/\
 (∀(F:p9) (lo:Nat->Int),(W.dP 24).den (dq F lo)=lo 24)/\
 (∀(F:p9) (lo:Nat->Int),(W.dP 25).den (dq F lo)=lo 25)/\
 (∀{ρ:Nat->Int} (n:Int),(W.lit n).den ρ=n)/\
 (∀{ρ:Nat->Int} (d:D),(W.fk d).den ρ=enc d)/\
 (∀{ρ:Nat->Int} (a:W),(ln a).den ρ=((dec (a.den ρ)).l.length:Int))/\
 (∀{ρ:Nat->Int} (a:W),(nm a).den ρ=(dec (a.den ρ)).n)/\
 (∀{ρ:Nat->Int} (j:Nat) (a:W),(ce j a).den ρ=enc ((dec (a.den ρ)).V j))/\
 (∀{ρ:Nat->Int} (a b:W),(el a b).den ρ=enc ((dec (a.den ρ)).at (b.den ρ)))/\
 (∀{ρ:Nat->Int} (a b:W),(cn a b).den ρ=enc (.p (dec (a.den ρ)) (dec (b.den ρ))))/\
 (∀{ρ:Nat->Int} (a:W),(mk a).den ρ=enc (.i (a.den ρ)))/\
 (∀{ρ:Nat->Int} (a:W),(wr a).den ρ=IntKind.i64.wrap (a.den ρ))/\
 (∀{ρ:Nat->Int} (a b:W),(W.add a b).den ρ=a.den ρ+b.den ρ)/\
 (∀{ρ:Nat->Int} (a b:W),(W.sub a b).den ρ=a.den ρ-b.den ρ)/\
 (∀{ρ:Nat->Int} (o:gT) (a b:W),(W.op o a b).den ρ=o.den (a.den ρ) (b.den ρ))/\
 (∀{F:p9} {lo:Nat->Int} (j:Nat) (l:List W),(a0 j l).den (dq F lo)=if (F j (l.map (W.den (dq F lo)))).isSome=true then 1 else 0)/\
 (∀{F:p9} {lo:Nat->Int} (j:Nat) (l:List W) (i:Nat),(rr j l i).den (dq F lo)=low ((F j (l.map (W.den (dq F lo)))).getD []) i)/\
 (∀{x:Int} {xs:List Int},low (x::xs) 0=x)/\
 (∀{x:Int} {xs:List Int} {i:Nat},low (x::xs) (i+1)=low xs i)/\
 (∀{f:W->Int},List.map f []= [])/\
 (∀{f:W->Int} {a:W} {l:List W},List.map f (a::l)=f a::List.map f l)/\
 (∀d:D,dec (enc d)=d)/\
 (∀n:Int,(D.i n).n=n)/\
 (∀{α:Type} (a:α),(some a).isSome=true)/\
 (∀{α:Type} (a b:α),(some a).getD b=a)/\
 (∀{α:Type} {_:Decidable True} (a b:α),ite True a b=a)/\
 (∀{α:Type} {_:Decidable False} (a b:α),ite False a b=b)/\
 (∀{ρ:Nat->Int},zY ρ []=True)/\
 (∀{ρ:Nat->Int} (c:SB) (l:List SB),zY ρ (c::l)=(c.den ρ=true/\zY ρ l))/\
 (∀{ρ:Nat->Int},zW ρ []=True)/\
 (∀{ρ:Nat->Int} (c:SB) (l:List SB),zW ρ (c::l)=(¬c.den ρ=true/\zW ρ l))/\
 (∀x y:Int,gT.den .len x y=((dec x).l.length:Int))/\
 (∀x y:Int,gT.den .at x y=enc ((dec x).at y))/\
 (∀(x y:Int) (j:Nat),gT.den (.cell j) x y=enc ((dec x).V j))/\
 (∀x y:Int,gT.den .num x y=(dec x).n)/\
 (∀x y:Int,gT.den .mk x y=enc (.i x))/\
 (∀x y:Int,gT.den .cons x y=enc (.p (dec x) (dec y)))/\
 (∀x y:Int,gT.den .snoc x y=enc (dL ((dec x).l++ [dec y])))/\
 (∀x y:Int,gT.den .cat x y=enc (dL ((dec x).l++(dec y).l)))/\
 (∀x y:Int,gT.den .take x y=enc (fZ (dec x) ((dec x).l.take y.toNat)))/\
 (∀x y:Int,gT.den .drop x y=enc (fZ (dec x) ((dec x).l.drop y.toNat)))/\
 (∀(x:Int) (q v:D),gT.den .set x (enc (.p q v))=enc (dL (dE (dec x).l q.n v)))/\
 (∀x y:Int,gT.den .bit x y=enc (.i (if (dec x).n=0 then 0 else 1)))/\
 (∀x y:Int,gT.den .norm x y=enc (dec x))/\
 (∀x y:Int,gT.den .EB x y=if (lE (dec x).l (dec y)).isSome then 1 else 0)/\
 (∀x y:Int,gT.den .EC x y=enc ((lE (dec x).l (dec y)).getD (.i 0)))/\
 (∀(x:Int) (k v:D),gT.den .Of x (enc (.p k v))=enc (dL (vM (dec x).l k v)))/\
 (∀x y:Int,gT.den .rep x y=enc (dL (List.replicate x.toNat (dec y))))/\
 (∀(x:Int) (q v:D),gT.den .fill x (enc (.p q v))=enc (dL ((dec x).l.take q.n.toNat++List.replicate ((dec x).l.length-q.n.toNat) v)))/\
 (∀x y:Int,gT.den .sub x y=enc (dL (((dec x).l.take ((dec y).V 1).n.toNat).drop ((dec y).V 0).n.toNat)))/\
 (∀x y:Int,gT.den .idx x y=HL (dec x).l y)/\
 (∀x y:Int,gT.den .cnt x y=acp (dec x).l y)/\
 (∀x y:Int,gT.den .con x y=if BK (dec x).l (dec y).l then 1 else 0)/\
 (∀x y:Int,gT.den .slt x y=if Pp (dec x).l (dec y).l then 1 else 0)/\
 (∀x y:Int,gT.den .RT x y=enc (dL (Ly (dec x).l (dec y))))/\
 (∀p:Prop,(p/\True)=p)/\(∀p:Prop,(True/\p)=p)/\(¬False)=True:=
 ⟨fh,kP,mc,Cr,ot,im,fun _ _=>bT ae,fun _ _=>bT ae,fun _ _=>bT ae,fun _ _=>bT ae,fun _ _=>bT ae,fun _ _=>bT ae,fun _ _=>bT ae,fun _ _=>bT ae,fun _ _=>bT ae,fun _ _=>bT ae,fun _ _=>bT ae,fun _ _=>bT ae,fun _ _=>bT ae,fun _ _=>bT ae,fun _ _=>bT ae,fun _ _=>bT ae,fun _ _=>bT ae,fun _ _=>bT ae,fun _ _=>bT ae,fun _ _=>bT ae,fun _ _=>bT ae,fun _ _=>bT ae,fun _ _=>bT ae,fun _ _=>bT ae,fun _ _=>bT ae,fun _ _=>bT ae,dz,iw,ig,HD,acf,HF,MJ,MI,xt,den_add,aeM,MH,iy,gX,bP _,bQ _ _,rfl,rfl,bA,zM,fun _=>rfl,fun _ _=>rfl,fun _ _=>ag trivial,fun _ _=>af id,rfl,fun _ _=>rfl,rfl,fun _ _=>rfl,fun _ _=>rfl,fun _ _=>rfl,fun _ _ _=>rfl,fun _ _=>rfl,fun _ _=>rfl,fun _ _=>rfl,fun _ _=>rfl,fun _ _=>rfl,fun _ _=>rfl,fun _ _=>rfl,fun _ _ _=>by show (match dec (enc _) with | .p q v=>_|_=>_)=_; rw [bA],fun _ _=>rfl,fun _ _=>rfl,fun _ _=>rfl,fun _ _=>rfl,fun _ _ _=>by show (match dec (enc _) with | .p q v=>_|_=>_)=_; rw [bA],fun _ _=>rfl,fun _ _ _=>by show (match dec (enc _) with | .p q v=>_|_=>_)=_; rw [bA],fun _ _=>rfl,fun _ _=>rfl,fun _ _=>rfl,fun _ _=>rfl,fun _ _=>rfl,fun _ _=>rfl,and_true,true_and,not_false_eq_true⟩
theorem zg:(∀(l:List D) (j:Nat),(dL l).V j=(l[j]?).getD (.i 0))/\(∀(a:D) (l:List D),(a::l)[0]?=some a)/\(∀(a:D) (l:List D) (i:Nat),(a::l)[i+1]?=l[i]?):=⟨ep,fun _ _=>rfl,fun _ _ _=>rfl⟩
end Go.As
end
section
namespace Go.As.Try
open Go hiding Stat Spec shape
open Go.As
set_option maxRecDepth 100000
def Ends (p:List Int->Prop) (R:RS):Prop:= ∃ys,fin L R=some ys/\p ys
def bL (j:Nat) (xs:List Int) (p:List Int->Prop):Prop:= ∃ys,L j xs=some ys/\p ys
theorem bL.of {j:Nat} {xs:List Int} {p:List Int->Prop} (h:Ends p (eI (dq L (low xs)) (S.tree j))):bL j xs p:=by obtain⟨ys,U,Z⟩:=h;exact⟨ys,by rw [bI]; exact U,Z⟩
theorem Ends.ite {p:List Int->Prop} {c:Prop} [Decidable c] {a b:RS} (U:c->Ends p a) (Z: ¬c->Ends p b):Ends p (if c then a else b):=by
 grind
theorem Ends.out {p:List Int->Prop} {ys:List Int} (h:p ys):Ends p (.out ys):=⟨ys,rfl,h⟩
theorem Ends.jump {p:List Int->Prop} {j:Nat} {xs:List Int} (h:bL j xs p):Ends p (.jump j xs):=h
def vN (ys:List Int):Prop:= ∃c:Int,ys= [c]/\(c=0\/c=1)
theorem wR:vN [0]:=⟨0,rfl,.inl rfl⟩
theorem sR:vN [1]:=⟨1,rfl,.inr rfl⟩
def fC (x:D):D:=dL [.i (-1),.i (if (x.V 0).n=3\/(x.V 0).n=9 then (x.V 2).n else 0),.i 0,.i 0,.i 1,.i 1]
theorem HY (d0:D) (hlen:d0.l.length<=64): ∀(k i:Nat) (acc:List D),i+k=d0.l.length->acc.length=i->
 L 302 [enc (dL acc),enc d0,(d0.l.length:Int),(i:Int)]=some [enc (dL (acc++(d0.l.drop i).map fC))]
 |0,i,acc,U,Z=>by
  rw [bI,akY];simp only [ajz,fh,kP,ot,bT,bP,bQ,Nat.reduceLT,fin,List.map]
  grind
 |k+1,i,acc,U,Z=>by
  have hi:i<d0.l.length:=J
  have V:d0.l.drop i=d0.l[i]::d0.l.drop (i+1):=aC hi;have ih:=fun x=>HY d0 hlen k (i+1) (acc++ [x]) J (by simp [Z]);rw [bI,akY,V];simp only [ajz,fh,kP,mc,Cr,ot,im,bT,ig,dz,HD,acf,HF,MH,MJ,MI,iw,xt,den_add,bP,bQ,Nat.reduceLT,List.map,bA,bz,bG hi];have w:=bF (n:=i) J;have c1:(i:Int)<(d0.l.length:Int):=J
  have c2: ¬((i:Int)<0):=J
  have c3:(acc.length:Int)<1759218604440:=J
  simp only [c1,c2,c3,w,if_true,if_false,fin,gT.den,bA,bz];by_cases h3:(d0.l[i].V 0).n=3
  ·simp only [h3,if_true,fin];have:=ih (fC d0.l[i]);simp only [fC,h3,true_or,if_true,dL] at this ⊢
   grind
  ·by_cases h9:(d0.l[i].V 0).n=9
   ·simp only [af h3,ag h9,fin];have:=ih (fC d0.l[i]);simp only [fC,ag (Or.inr h9:(d0.l[i].V 0).n=3\/(d0.l[i].V 0).n=9),dL] at this ⊢
    grind
   ·simp only [af h3,af h9,fin];have:=ih (fC d0.l[i]);simp only [fC,h3,h9,or_self,if_false,dL] at this ⊢
    grind
def Bs (d:D):Prop:=d=dL d.l/\∀(i:Nat) (h:i<d.l.length),0<=(d.l[i]).n/\(d.l[i]).n<256
theorem DW (d:D) (hb:Bs d) (hlen:d.l.length<=1000000): ∀(k i:Nat) (n:Int),i+k=d.l.length->∃a b,L 1102 [n,enc d,(d.l.length:Int),(i:Int)]=some [a,b]
 |0,i,n,U=>by rw [bI,aca];simp only [t!,fh,kP,ot,bT,bP,bQ,Nat.reduceLT,List.map,dz];rw [af J];exact⟨_,_,rfl⟩
 |k+1,i,n,U=>by
  have hi:i<d.l.length:=J
  have ih:=fun x=>DW d hb hlen k (i+1) x J;rw [bI,aca];have w:=bF (n:=i) J;have c1:(i:Int)<(d.l.length:Int):=J
  have c2: ¬((i:Int)<0):=J
  simp only [t!,fh,kP,mc,Cr,ot,bT,bP,bQ,Nat.reduceLT,List.map,dz,ig,bA,c1,c2,if_true,if_false,xt,den_add,w];split
  ·exact⟨_,_,rfl⟩
  ·exact ih _
theorem RO (d:D) (hb:Bs d) (hlen:d.l.length<=1000000): ∃a b,L 1100 [enc d]=some [a,b]:=by
 rw [bI,ahK];simp only [af7,fh,mc,im,bT,bP,bQ,Nat.reduceLT,List.map,dz,ig,bA];split
 ·show ∃a b,L 1101 []=some [a,b];rw [bI,ahJ];exact⟨_,_,rfl⟩
 ·exact DW d hb hlen d.l.length 0 _ J
theorem Kq (z:Int): ∀(l:List D) (i:Nat),sH z l (i:Int)= -1\/((i:Int)<=sH z l i/\sH z l i<(i:Int)+l.length)
 |[],i=> .inl rfl
 |d::l,i=>by
  have ih:=Kq z l (i+1);have hc:((i+1:Nat):Int)=(i:Int)+1:=J
  rw [hc] at ih;have hl:((d::l).length:Int)=(l.length:Int)+1:=ad
  cases d with
  |i n=>
   simp only [sH]
   grind
  |p a b=>
   simp only [sH]
   grind
theorem aco {z:Int} {d:D} {l:List D} (h:d≠.i z) (h0: ¬HL (d::l) z<0):1<=HL (d::l) z/\HL (d::l) z<(l.length:Int)+1:=by
 have U:=Kq z l 1
 have key:HL (d::l) z=sH z l ((1:Nat):Int):=by
  unfold HL
  cases d with
  |i n=>
   simp only [sH]
   grind
  |p a b=>rfl
 grind
theorem aoQ:(b0.at 10).n=1:=by show (b0.at ((10:Nat):Int)).n=1;kernel_rfl
theorem xA (d:D) (hb:Bs d) (hlen:d.l.length<=1000000) (x1:Int): ∀(k i:Nat),d.l.length-i<=k->i<=d.l.length->∃p:Nat,p<=d.l.length/\L 12801 [enc d,x1,(i:Int)]=some [0,enc d,x1,(p:Int)]
 |k,i,U,Z=>by
  rw [bI,Tv];have c2: ¬((i:Int)<0):=J
  by_cases hi:i<d.l.length
  ·have c1:(i:Int)<(d.l.length:Int):=J
   have w:=bF (n:=i) J;obtain⟨b1,b2⟩:=hb.2 i hi;have b1: ¬(d.l[i]).n<0:=J
   obtain⟨k,rfl⟩ : ∃k',k=k'+1:=⟨k-1,J⟩;have C4:(d.l.take d.l.length).drop i=d.l[i]::d.l.drop (i+1):=by rw [ast,aC hi]
   simp only [K0,fh,kP,mc,Cr,ot,im,bT,bP,bQ,Nat.reduceLT,List.map,dz,iw,ig,bA,c1,c2,if_true,if_false,xt,den_add,w,HD,HF,bG hi,b1,b2];by_cases q1:(b0.at (d.l[i]).n).n=1
   ·simp only [q1,if_true];exact xA d hb hlen x1 k (i+1) J J
   ·by_cases q2:(b0.at (d.l[i]).n).n=2
    ·simp only [af q1,ag q2]
     have jK:d.l[i]≠.i 10:=by intro h;rw [h] at q1;exact q1 aoQ
     simp only [aw,if_false,MH,gT.den,MJ,MI,iw,ig,bT,dz,bP,bQ,Nat.reduceLT,bA,D.V,YH,lG,zM,aF,aG,ay,aW,bz,C4];split
     ·exact⟨d.l.length,ax _,by simp [fin]⟩
     ·rename_i h0;obtain⟨g1,g2⟩:=aco jK h0;rw [bo] at g2;obtain⟨m,hm⟩ : ∃m:Nat,HL (d.l[i]::d.l.drop (i+1)) 10=(m:Int):=⟨(HL (d.l[i]::d.l.drop (i+1)) 10).toNat,J⟩;have w2:IntKind.i64.wrap ((i:Int)+(m:Int))=((i+m:Nat):Int):=by rw [fW J J]; omega
      simp only [hm,w2,fin];exact xA d hb hlen x1 k (i+m) J J
    ·simp only [af q1,af q2];exact⟨i,J,rfl⟩
  ·have c1: ¬(i:Int)<(d.l.length:Int):=J
   simp only [K0,fh,kP,ot,bT,bP,bQ,Nat.reduceLT,List.map,dz,ig,bA,c1,if_false];exact⟨i,J,rfl⟩
theorem TO (d:D) (hb:Bs d) (hlen:d.l.length<=1000000) (i:Nat) (hi:i<=d.l.length): ∃p:Nat,p<=d.l.length/\L 12800 [enc d,(i:Int)]=some [0,enc d,(i:Int),(p:Int)]:=by rw [bI,Tw];simp only [Re,mc,bT,bP,bQ,Nat.reduceLT,List.map];exact xA d hb hlen _ _ i (ax _) hi
theorem Kg (d:D) (hb:Bs d) (hlen:d.l.length<=1000000) (x1 x2:Int): ∀(k i:Nat),d.l.length-i<=k->i<=d.l.length->∃p:Nat,i<=p/\p<=d.l.length/\L 12851 [enc d,x1,x2,(i:Int)]=some [0,enc d,x1,(p:Int)]
 |k,i,U,Z=>by
  rw [bI,MB];have c2: ¬((i:Int)<0):=J
  by_cases hi:i<d.l.length
  ·have c1:(i:Int)<(d.l.length:Int):=J
   have w:=bF (n:=i) J;obtain⟨b1,b2⟩:=hb.2 i hi;have b1: ¬(d.l[i]).n<0:=J
   obtain⟨k,rfl⟩ : ∃k',k=k'+1:=⟨k-1,J⟩
   have ih: ∃p:Nat,i<=p/\p<=d.l.length/\L 12851 [enc d,x1,x2,((i+1:Nat):Int)]=some [0,enc d,x1,(p:Int)]:=by
    obtain⟨p,q1,q2,q3⟩:=Kg d hb hlen x1 x2 k (i+1) J J
    grind
   simp only [FQ,fh,kP,mc,Cr,ot,im,bT,bP,bQ,Nat.reduceLT,List.map,dz,iw,ig,bA,c1,c2,if_true,if_false,xt,den_add,w,HD,HF,bG hi,b1,b2];split
   ·exact ih
   ·split
    ·split
     ·exact ih
     ·exact⟨i,J,J,rfl⟩
    ·exact⟨i,J,J,rfl⟩
  ·have c1: ¬(i:Int)<(d.l.length:Int):=J
   simp only [FQ,fh,kP,ot,bT,bP,bQ,Nat.reduceLT,List.map,dz,ig,bA,c1,if_false];exact⟨i,J,J,rfl⟩
theorem U3 {l:List D} {a b:D} (h:enc (dL l)=enc (.p a (.p b (.i 0)))):l.length=2:=by have:=congrArg (fun d=>d.l.length) (eQ h);simpa [D.l] using this
theorem aat (d:D) (hb:Bs d) (hlen:d.l.length<=1000000) (i:Nat) (hi:i<d.l.length): ∃p:Nat,i<p/\p<=d.l.length/\L 12850 [enc d,(i:Int)]=some [0,enc d,(i:Int),(p:Int)]:=by
 have c2: ¬((i:Int)<0):=J
 have c1:(i:Int)<(d.l.length:Int):=J
 have w:=bF (n:=i) J;have w1:=bF (n:=i+1) J;have w2:IntKind.i64.wrap ((i:Int)+2)=((i+2:Nat):Int):=by rw [fW J J]; omega
 obtain⟨b1,b2⟩:=hb.2 i hi;have b1: ¬(d.l[i]).n<0:=J
 have c3: ¬(((i+2:Nat):Int)<(i:Int)):=J
 rw [bI,MC];simp only [KZ,fh,kP,mc,Cr,ot,im,bT,bP,bQ,Nat.reduceLT,List.map,dz,ig,bA,c1,c2,c3,if_true,if_false,xt,den_add,w,w1,w2,HD,HF,bG hi,b1,b2,aw,MH,gT.den,MJ,MI,iw,D.V,YH,lG,zM,aF,aG,ay,aW];split
 ·split
  ·rename_i h5;split
   ·rename_i h6;have:=U3 h6;simp only [bo,a8] at this;omega
   ·split
    ·rename_i h6;have:=U3 h6;simp only [bo,a8] at this;omega
    ·exact⟨i+1,J,J,rfl⟩
  ·rename_i h5;split
   ·exact⟨i+1+1,J,J,rfl⟩
   ·split
    ·exact⟨i+1+1,J,J,rfl⟩
    ·exact⟨i+1,J,J,rfl⟩
 ·obtain⟨p,q1,q2,q3⟩:=Kg d hb hlen (i:Int) ((b0.at (d.l[i]).n).n) _ (i+1) (ax _) J;exact⟨p,J,q2,q3⟩
theorem qM {kids:D} (h:Wd (.sl 6) kids) {i:Nat} (hi:i<kids.l.length): ∃k s n ks,kids.l[i]=dL [.i k,s,.i n,ks]/\gx .u8 k/\Wd .str s/\gx .i64 n/\Wd (.sl 6) ks:=by
 obtain⟨r,U,hl,hc⟩:=h.elN (cs:=[.int .u8,.str,.int .i64,.sl 6]) rfl _ (aq hi)
 match r,hl with
 |[a,b,c,d],_=> obtain⟨k,rfl,hk⟩:=(hc 0 _ _ rfl rfl).i;obtain⟨n,rfl,hn⟩:=(hc 2 _ _ rfl rfl).i;exact⟨k,b,n,d,U,hk,hc 1 _ _ rfl rfl,hn,hc 3 _ _ rfl rfl⟩
def E1:D:=.p (.i 1) (.p (.i 0) (.p (.i 0) (.p (.i 1) (.i 0))))
theorem aeZ:L 1150 [1,enc (.i 0),0,enc (.i 1)]=some [1]:=by rw [bI,ahI];simp only [af6,zz,lG,bj,Int.reduceLT,Int.reduceEq];rfl
theorem XT (a b:Int):L 5450 [enc (.i 1),a,b]=some [b]:=by rw [bI,agV];simp only [aft,zz,lG,bj,fin];rw [bI,agU];simp only [afs,zz];rfl
theorem yo:L 5250 [enc (dL [E1]),2,1]=some [2,enc (dL [E1])]:=by have U:=aeZ;have Z:=XT 3 2;have w1:IntKind.i64.wrap (1+1)=2:=fW J J;have w2:IntKind.i64.wrap (2+1)=3:=fW J J;have w3:IntKind.i64.wrap (0+1)=1:=fW J J;have ha:(dL [E1]).at 0=E1:=rfl;have g0:E1.V 0= .i 1:=rfl;have g1:E1.V 1= .i 0:=rfl;have g2:E1.V 2= .i 0:=rfl;have g3:E1.V 3= .i 1:=rfl;rw [bI,agZ];simp only [afx,zz,bz,aT,bj,aK,fin];rw [bI,aaY];simp only [Z6,zz,bz,aT,bj,aK,ha,g0,g1,g2,g3,w1,w2,w3,U,Z,Int.reduceLT,Int.reduceEq,fin,aL,aw];rw [bI,aaY];simp only [Z6,zz,aw];rfl
theorem WQ (k m:Int):L 5500 [enc (.i 1),k,m]=some [k,m,1]:=by rw [bI,agT];simp only [afr,zz,lG,bj,fin];rw [bI,agS];simp only [afq,zz];rfl
theorem WO (a k m:Int):L 5600 [enc (.i 1),a,k,m]=some [a,k,m,1]:=by rw [bI,agR];simp only [afp,zz,lG,bj,fin];rw [bI,agQ];simp only [afo,zz];rfl
theorem jP (k m:Int):L 5150 [k,m]=some [k,m,1]:=by rw [bI,ag3];simp only [afz,zz,fin];rw [bI,ag2];rfl
theorem jO (k m:Int):L 5200 [k,m]=some [1,k,m,1]:=by rw [bI,ag1];simp only [afy,zz,fin];rw [bI,ag0];rfl
theorem Fl (k m:Int):L 5100 [k,m]=some [m]:=by rw [bI,ag5];simp only [afA,zz,fin];rw [bI,ag4];rfl
theorem e8 (k m:Int):L 5300 [1,enc (dL [E1]),k,m]=some [enc (dL [E1]),k,m,1]:=by have Z:=WQ k m;have w3:IntKind.i64.wrap (0+1)=1:=fW J J;have ha:(dL [E1]).at 0=E1:=rfl;have g0:E1.V 0= .i 1:=rfl;have g1:E1.V 1= .i 0:=rfl;have g3:E1.V 3= .i 1:=rfl;rw [bI,agY];simp only [afw,zz,fin];rw [bI,aaX];simp only [Z5,zz,bz,aT,bj,aK,ha,g0,g1,g3,w3,Z,Int.reduceLT,Int.reduceEq,fin,aL,aw];rw [bI,aaX];simp only [Z5,zz,aw];rfl
theorem eZ (k m:Int):L 5350 [1,enc (dL [E1]),k,m]=some [enc (dL [E1]),1,k,m,1]:=by have Z:=WO 1 k m;have w3:IntKind.i64.wrap (0+1)=1:=fW J J;have ha:(dL [E1]).at 0=E1:=rfl;have g0:E1.V 0= .i 1:=rfl;have g1:E1.V 1= .i 0:=rfl;have g3:E1.V 3= .i 1:=rfl;rw [bI,agX];simp only [afv,zz,fin];rw [bI,aaW];simp only [Z4,zz,bz,aT,bj,aK,ha,g0,g1,g3,w3,Z,Int.reduceLT,Int.reduceEq,fin,aL,aw];rw [bI,aaW];simp only [Z4,zz,aw];rfl
def isR (ys:List Int):Prop:= ∃b l,ys=b::l/\(b=0\/b=1)
def jS (m:Nat):D:=dL (List.replicate m E1)
theorem tF (m:Nat):(jS m).l.length=m:=by unfold jS; rw [bz,asa]
def OkI (d0:D) (nl nc:Nat) (dx op ob je to:Int) (na:Nat):Prop:=
 (dx=1/\0<=ob/\ob<(d0.l.length:Int)/\(je= -1\/0<=je/\je<(nl:Int))/\(op=16->0<=to/\to<=(nc:Int)))\/
 (dx=2/\0<=ob/\ob<(d0.l.length:Int))\/(dx=3/\0<=je/\je<(nl:Int)/\(na:Int)=1)\/(dx=4/\0<=to/\to<=(nc:Int)/\(na:Int)=1)\/
 (dx=5/\0<=to/\to<=(nc:Int))\/(dx=6/\0<=je/\je<(nl:Int))\/(dx=7/\0<=je/\je<(nl:Int)/\0<=to/\to<=(nc:Int))
def OkO (d0:D) (k n:Int):Prop:=1<=k/\k<=9/\(k=1\/k=2\/k=6\/k=7->n=0)/\(k=3\/k=8->1<=n/\n<=1048576)/\(k=5->1<=n/\n<=16)/\(k=4->0<=n/\n<(d0.l.length:Int)/\((d0.at n).V 0).n=1)
def wJ (d0:D) (x:D):Prop:=OkO d0 (x.V 0).n (x.V 2).n
def zJ (d0 d1:D):Prop:=d0.l.length<=64/\d1.l.length<=16/\∀x∈d0.l,wJ d0 x
def agn (d0 x:D):Prop:= ∀y∈(x.V 2).l,OkI d0 (x.V 1).l.length (x.V 2).l.length (y.V 0).n (y.V 1).n (y.V 2).n (y.V 3).n (y.V 4).n (y.V 6).l.length
def anD (d0 d1:D) (ys:List Int):Prop:= ∃b:Int,ys= [b]/\(b=0\/b=120)/\(b=0->zJ d0 d1/\∀x∈d1.l,agn d0 x)
theorem qJ {d:D} (h:Wd (.sl 4) d) {i:Nat} (hi:i<d.l.length): ∃sa lc cd,d.l[i]=dL [sa,lc,cd]/\Wd .str sa/\Wd (.sl 2) lc/\Wd (.sl 5) cd:=by
 obtain⟨r,U,hl,hc⟩:=h.elN (cs:=[.str,.sl 2,.sl 5]) rfl _ (aq hi)
 match r,hl with
 |[a,b,c],_=>exact⟨a,b,c,U,hc 0 _ _ rfl rfl,hc 1 _ _ rfl rfl,hc 2 _ _ rfl rfl⟩
theorem Sc {d:D} (h:Wd (.sl 5) d) {i:Nat} (hi:i<d.l.length): ∃a b c e f g qH,d.l[i]=dL [.i a,.i b,.i c,.i e,.i f,.i g,qH]/\gx .u8 a/\gx .u8 b/\gx .i64 c/\gx .i64 e/\gx .i64 f/\gx .i64 g/\Wd (.sl 6) qH:=by
 obtain⟨r,U,hl,hc⟩:=h.elN (cs:=[.int .u8,.int .u8,.int .i64,.int .i64,.int .i64,.int .i64,.sl 6]) rfl _ (aq hi)
 match r,hl with
 |[a,b,c,e,f,g,qH],_=> obtain⟨a,rfl,ha⟩:=(hc 0 _ _ rfl rfl).i;obtain⟨b,rfl,hb⟩:=(hc 1 _ _ rfl rfl).i;obtain⟨c,rfl,hc'⟩:=(hc 2 _ _ rfl rfl).i;obtain⟨e,rfl,he⟩:=(hc 3 _ _ rfl rfl).i;obtain⟨f,rfl,hf⟩:=(hc 4 _ _ rfl rfl).i;obtain⟨g,rfl,hg⟩:=(hc 5 _ _ rfl rfl).i;exact⟨a,b,c,e,f,g,qH,U,ha,hb,hc',he,hf,hg,hc 6 _ _ rfl rfl⟩
def cA (p:Prop) (ys:List Int):Prop:= ∃c:Int,ys= [c]/\(c=0\/c=1)/\(c=1↔p)
theorem bE {p:Prop} (h: ¬p):cA p [0]:=⟨0,rfl,.inl rfl,fun h'=>absurd h' J,fun h'=>absurd h' h⟩
theorem bN {p:Prop} (h:p):cA p [1]:=⟨1,rfl,.inr rfl,fun _=>h,fun _=>rfl⟩
theorem cA.eq {p:Prop} {a b:List Int} (h:cA p a) (h':cA p b):a=b:=by
 obtain⟨c,rfl,c1,c2⟩:=h;obtain⟨e,rfl,e1,e2⟩:=h'
 grind
theorem cA.of {p q:Prop} {a:List Int} (h:cA p a) (hpq:p↔q):cA q a:=by
 grind
theorem bL.iff {j:Nat} {xs:List Int} {p q:Prop} (h:bL j xs (cA p)) (hpq:p↔q):bL j xs (cA q):=by
 grind
theorem nZ (a b:D):(enc a=enc b)=(a=b):=propext ⟨fun h=>eQ h,fun h=>by rw [h]⟩
def bD (l:List Int):D:=dL (l.map .i)
def M8 (l:List Int):Prop:= ∀b∈l,0<=b/\b<256
theorem acR {d:D} (h:Wd .str d): ∃l,d=bD l/\M8 l:=by
 obtain⟨s,rfl⟩:=h.s;refine⟨s.data.toList.map fun b=>(b.toNat:Int),?_,fun b hb=>?_⟩
 ·unfold vS rH bD;rw [arT];rfl
 ·obtain⟨c,_,rfl⟩:=aR.1 hb;have:=c.toNat_lt;omega
theorem PC (l:List Int):(bD l).l=l.map .i:=by unfold bD; rw [bz]
theorem eN (l:List Int):(bD l).l.length=l.length:=by rw [PC,aY]
theorem xB {l:List Int} {i:Nat} (h:i<l.length):((bD l).at (i:Int)).n=l[i]:=by rw [bG (by rw [eN]; exact h)];simp only [PC,asy,D.n]
theorem ahR {l:List Int} (h:M8 l):Bs (bD l):=⟨by rw [PC]; rfl,fun i hi=>by
 simp only [PC,aY,asy,D.n] at hi ⊢
 exact h _ (aq hi)⟩
theorem sL (l:List Int) (a b:Nat):dL (((bD l).l.take b).drop a)=bD ((l.take b).drop a):=by rw [PC,bD,asE,asr]
theorem M8.part {l:List Int} (h:M8 l) (a b:Nat):M8 ((l.take b).drop a):=fun x Y=>h x (arx (arv Y))
def isLt (b:Int):Bool:=decide (97<=b/\b<=122\/65<=b/\b<=90\/b=95)
def Iw (b:Int):Bool:=decide (48<=b/\b<=57)
def yE (b:Int):Bool:=isLt b||Iw b
theorem M1 {p:Int->Bool} (h:(List.range 256).all (fun k=>p (k:Int))=true) {b:Int} (h0:0<=b) (U:b<256):p b=true:=by
 have:=aP.1 h b.toNat (arE.2 J)
 grind
def apU:List D:=[.p (.i 97) (.p (.i 99) (.p (.i 113) (.p (.i 117) (.p (.i 105) (.p (.i 114) (.p (.i 101) (.i 0))))))),.p (.i 97) (.p (.i 100) (.p (.i 100) (.i 0))),.p (.i 97) (.p (.i 114) (.p (.i 114) (.p (.i 105) (.p (.i 118) (.p (.i 101) (.i 0)))))),.p (.i 98) (.p (.i 97) (.p (.i 114) (.p (.i 114) (.p (.i 105) (.p (.i 101) (.p (.i 114) (.i 0))))))),.p (.i 98) (.p (.i 114) (.p (.i 111) (.p (.i 97) (.p (.i 100) (.p (.i 99) (.p (.i 97) (.p (.i 115) (.p (.i 116) (.i 0))))))))),.p (.i 99) (.p (.i 111) (.p (.i 110) (.p (.i 100) (.i 0)))),.p (.i 100) (.p (.i 111) (.i 0)),.p (.i 100) (.p (.i 111) (.p (.i 110) (.p (.i 101) (.i 0)))),.p (.i 101) (.p (.i 108) (.p (.i 115) (.p (.i 101) (.i 0)))),.p (.i 105) (.p (.i 102) (.i 0)),.p (.i 108) (.p (.i 111) (.p (.i 99) (.p (.i 107) (.i 0)))),.p (.i 108) (.p (.i 111) (.p (.i 99) (.p (.i 107) (.p (.i 102) (.p (.i 111) (.p (.i 114) (.i 0))))))),.p (.i 108) (.p (.i 111) (.p (.i 111) (.p (.i 112) (.i 0)))),.p (.i 109) (.p (.i 117) (.p (.i 116) (.p (.i 101) (.p (.i 120) (.i 0))))),.p (.i 111) (.p (.i 110) (.p (.i 99) (.p (.i 101) (.i 0)))),.p (.i 112) (.p (.i 117) (.p (.i 116) (.i 0))),.p (.i 113) (.p (.i 117) (.p (.i 101) (.p (.i 117) (.p (.i 101) (.i 0))))),.p (.i 114) (.p (.i 101) (.p (.i 97) (.p (.i 100) (.i 0)))),.p (.i 114) (.p (.i 101) (.p (.i 108) (.p (.i 101) (.p (.i 97) (.p (.i 115) (.p (.i 101) (.i 0))))))),.p (.i 114) (.p (.i 108) (.p (.i 111) (.p (.i 99) (.p (.i 107) (.i 0))))),.p (.i 114) (.p (.i 117) (.p (.i 110) (.p (.i 108) (.p (.i 111) (.p (.i 99) (.p (.i 107) (.i 0))))))),.p (.i 114) (.p (.i 119) (.p (.i 108) (.p (.i 111) (.p (.i 99) (.p (.i 107) (.i 0)))))),.p (.i 115) (.p (.i 101) (.p (.i 109) (.i 0))),.p (.i 115) (.p (.i 101) (.p (.i 116) (.i 0))),.p (.i 115) (.p (.i 105) (.p (.i 103) (.p (.i 110) (.p (.i 97) (.p (.i 108) (.i 0)))))),.p (.i 116) (.p (.i 97) (.p (.i 107) (.p (.i 101) (.i 0)))),.p (.i 116) (.p (.i 104) (.p (.i 114) (.p (.i 101) (.p (.i 97) (.p (.i 100) (.i 0)))))),.p (.i 116) (.p (.i 114) (.p (.i 121) (.p (.i 97) (.p (.i 99) (.p (.i 113) (.p (.i 117) (.p (.i 105) (.p (.i 114) (.p (.i 101) (.i 0)))))))))),.p (.i 116) (.p (.i 114) (.p (.i 121) (.p (.i 108) (.p (.i 111) (.p (.i 99) (.p (.i 107) (.i 0))))))),.p (.i 117) (.p (.i 110) (.p (.i 108) (.p (.i 111) (.p (.i 99) (.p (.i 107) (.i 0)))))),.p (.i 118) (.p (.i 97) (.p (.i 114) (.i 0))),.p (.i 119) (.p (.i 97) (.p (.i 105) (.p (.i 116) (.i 0)))),.p (.i 119) (.p (.i 97) (.p (.i 105) (.p (.i 116) (.p (.i 102) (.p (.i 111) (.p (.i 114) (.i 0))))))),.p (.i 119) (.p (.i 97) (.p (.i 105) (.p (.i 116) (.p (.i 111) (.p (.i 110) (.i 0)))))),.p (.i 119) (.p (.i 108) (.p (.i 111) (.p (.i 99) (.p (.i 107) (.i 0))))),.p (.i 119) (.p (.i 114) (.p (.i 105) (.p (.i 116) (.p (.i 101) (.i 0))))),.p (.i 119) (.p (.i 117) (.p (.i 110) (.p (.i 108) (.p (.i 111) (.p (.i 99) (.p (.i 107) (.i 0)))))))]
def Oq (z:Int):D:=(apU[z.toNat]?).getD (.i 0)
def isKey (d:D):Prop:= ∃k:Nat,k<37/\d=Oq (k:Int)
theorem N_ (d:D) (z:Int) (h0:0<=z) (U:z<37):(d=Oq z->L 4801 [enc d,z]=some [1])/\(d≠Oq z->L 4801 [enc d,z]=L 4801 [enc d,z+1]):=by
 have w:IntKind.i64.wrap (z+1)=z+1:=fW J J;rw [bI,aa5];have:z=0\/z=1\/z=2\/z=3\/z=4\/z=5\/z=6\/z=7\/z=8\/z=9\/z=10\/z=11\/z=12\/z=13\/z=14\/z=15\/z=16\/z=17\/z=18\/z=19\/z=20\/z=21\/z=22\/z=23\/z=24\/z=25\/z=26\/z=27\/z=28\/z=29\/z=30\/z=31\/z=32\/z=33\/z=34\/z=35\/z=36:=J
 rcases this with rfl|rfl|rfl|rfl|rfl|rfl|rfl|rfl|rfl|rfl|rfl|rfl|rfl|rfl|rfl|rfl|rfl|rfl|rfl|rfl|rfl|rfl|rfl|rfl|rfl|rfl|rfl|rfl|rfl|rfl|rfl|rfl|rfl|rfl|rfl|rfl|rfl<;>
 ·simp only [b_,zz,nZ,Int.reduceLT,Int.reduceEq,w];split
  ·rename_i h;exact⟨fun _=>rfl,fun h'=>absurd h h'⟩
  ·rename_i h;exact⟨fun h'=>absurd h' h,fun _=>rfl⟩
theorem Oo (d:D): ∀(m n:Nat),n+m=37->bL 4801 [enc d,(n:Int)] (cA (∃k:Nat,n<=k/\k<37/\d=Oq (k:Int)))
 |0,n,h=>by
  refine bL.of ?_;rw [aa5];have c1: ¬(n:Int)<37:=J
  simp only [b_,zz,c1];exact .out (bE fun⟨k,a,b,_⟩=>by omega)
 |m+1,n,h=>by
  obtain⟨s1,s2⟩:=N_ d (n:Int) J J;by_cases V:d=Oq (n:Int)
  ·exact⟨_,s1 V,bN ⟨n,ax _,J,V⟩⟩
  ·obtain⟨ys,U,Z⟩:=Oo d m (n+1) J;refine⟨ys,(s2 V).trans U,Z.of ⟨fun⟨k,a,b,c⟩=> ⟨k,J,b,c⟩,fun⟨k,a,b,c⟩=>?_⟩⟩
   grind
theorem aj2 (d:D):bL 4800 [enc d] (cA (isKey d)):=by refine bL.of ?_;rw [aha];simp only [afF,zz];exact .jump ((Oo d 37 0 J).iff ⟨fun⟨k,_,b,c⟩=> ⟨k,b,c⟩,fun⟨k,b,c⟩=> ⟨k,J,b,c⟩⟩)
theorem H3 (x:Int) (k:D) (hk:k.l.length<=1000): ∀(j i:Nat),i+j=k.l.length->bL 4951 [x,enc k,(i:Int)] (cA (x∈(k.l.drop i).map D.n))
 |0,i,h=>by
  have c1: ¬(i:Int)<(k.l.length:Int):=J
  refine bL.of ?_;rw [aa1];simp only [Z8,zz,c1];refine .out (bE ?_)
  grind
 |j+1,i,h=>by
  have hi:i<k.l.length:=J
  have c1:(i:Int)<(k.l.length:Int):=J
  have c2: ¬((i:Int)<0):=J
  have w:=bF (n:=i) J;have ih:=H3 x k hk j (i+1) J;refine bL.of ?_;rw [aa1,aC hi];simp only [Z8,zz,c1,c2,bG hi,w];refine .ite (fun h=> .out (bN ?_)) fun h=> .jump (ih.iff ?_)
  all_goals grind
theorem xF (x:Int) (k:D) (hk:k.l.length<=1000):bL 4950 [x,enc k] (cA (x∈k.l.map D.n)):=by refine bL.of ?_;rw [ag8];simp only [afD,zz];exact .jump (H3 x k hk k.l.length 0 J)
def GQ (k:D) (p:Int->Bool):Bool:=(List.range 256).all fun z=>(k.l.map D.n).contains (z:Int) == p (z:Int)
theorem M0 {k:D} {p:Int->Bool} (h:GQ k p=true) {x:Int} (h0:0<=x) (U:x<256):x∈k.l.map D.n↔p x=true:=by
 have:=M1 (p:=fun z=>(k.l.map D.n).contains z == p z) h h0 U
 grind
theorem Jy (l:List Int) (hb:M8 l) (k:D) (hk:k.l.length<=1000) (hl:l.length<=100000) (p:Int->Bool) (hp:GQ k p=true): ∀(j i:Nat),i+j=l.length->bL 4901 [enc (bD l),enc k,(i:Int)] (cA (∀b∈l.drop i,p b=true))
 |0,i,h=>by
  have c1: ¬(i:Int)<(l.length:Int):=J
  refine bL.of ?_;rw [aa2];simp only [Z9,zz,eN,c1];refine .out (bN ?_)
  grind
 |j+1,i,h=>by
  have hi:i<l.length:=J
  have c1:(i:Int)<(l.length:Int):=J
  have c2: ¬((i:Int)<0):=J
  have w:=bF (n:=i) J;have ih:=Jy l hb k hk hl p hp j (i+1) J;obtain⟨b1,b2⟩:=hb _ (aq hi);obtain⟨ys,hA,c,rfl,hc,Y⟩:=xF l[i] k hk;rw [M0 hp b1 b2] at Y;refine bL.of ?_;rw [aa2,aC hi];simp only [Z9,zz,eN,c1,c2,xB hi,w,hA];refine .ite (fun h=> .out (bE ?_)) fun h=> .jump (ih.iff ?_)
  all_goals grind
theorem UQ (l:List Int) (hb:M8 l) (k:D) (hk:k.l.length<=1000) (hl:l.length<=100000) (p:Int->Bool) (hp:GQ k p=true):bL 4900 [enc (bD l),enc k] (cA (∀b∈l,p b=true)):=by refine bL.of ?_;rw [ag9];simp only [afE,zz];exact .jump (Jy l hb k hk hl p hp l.length 0 J)
theorem anH:GQ b2 isLt=true:=aa
theorem anG:GQ b3 yE=true:=aa
def JI (l:List Int):Prop:=l.length<=16384/\(∃h:0<l.length,isLt l[0]=true)/\(∀b∈l,yE b=true)/\¬isKey (bD l)
def dgD:D:=.p (.i 48) (.p (.i 49) (.p (.i 50) (.p (.i 51) (.p (.i 52) (.p (.i 53) (.p (.i 54) (.p (.i 55) (.p (.i 56) (.p (.i 57) (.i 0))))))))))
def sgD:D:=.p (.i 60) (.p (.i 43) (.p (.i 45) (.p (.i 42) (.p (.i 40) (.p (.i 41) (.p (.i 123) (.p (.i 125) (.p (.i 59) (.i 0)))))))))
theorem anF:GQ dgD Iw=true:=aa
def aj6 (b:Int):Bool:=(sgD.l.map D.n).contains b
theorem anE:GQ sgD aj6=true:=aa
theorem agk {b:Int} (h:isLt b=true) (h0:0<=b) (U:b<256):Iw b=false/\aj6 b=false/\b≠61/\b≠45/\b≠35/\b≠10:=by have:=M1 (p:=fun k=>!(isLt k)||!(Iw k)&&!(aj6 k)) aa h0 U;rw [h] at this;simp only [asv,asf,an,arR] at this;refine⟨this.1,this.2,?_⟩;simp only [isLt,decide_eq_true_eq] at h;omega
theorem A4 (l:List Int) (hb:M8 l) (hl:l.length<=100000): ∃k:Int,L 4750 [enc (bD l)]=some [k]/\0<=k/\(k=2->∃h:0<l.length,isLt l[0]=true)/\
 (∀h:0<l.length,isLt l[0]=true->(k=0↔¬∀b∈l,yE b=true)/\(k=2↔(∀b∈l,yE b=true)/\¬isKey (bD l))/\k≠1):=by
 rw [bI,ahb];by_cases h0:l.length=0
 ·obtain rfl:l= []:=arI.1 h0;have:bD []= .i 0:=rfl;simp only [b!,zz,nZ,this];exact⟨0,rfl,J,fun h=>absurd h J,fun h=>absurd h ad⟩
 ·have P6:0<l.length:=J
  have jK: ¬bD l= .i 0:=fun h=>by have:=congrArg (fun d=>d.l.length) h;simp only [eN,D.l,bj] at this;omega
  obtain⟨b1,b2⟩:=hb _ (aq P6);obtain⟨ys,hD,c,rfl,hc,Y⟩:=UQ l hb dgD (arw aa) hl Iw anF;obtain⟨ys,hL,e,rfl,he,hy⟩:=xF l[0] As.Try.b2 (arw aa);rw [M0 anH b1 b2] at hy;obtain⟨ys,hO,f,rfl,hf,hz⟩:=UQ l hb b3 (arw aa) hl yE anG;obtain⟨ys,hK,g,rfl,hg,hk⟩:=aj2 (bD l);obtain⟨ys,hS,u,rfl,hu,hs⟩:=xF l[0] sgD (arw aa);rw [M0 anE b1 b2] at hs;have gz:((bD l).at 0).n=l[0]:=xB P6;have cl:(0:Int)<(l.length:Int):=J
  unfold dgD at hD;unfold sgD at hS;simp only [b!,zz,nZ,jK,hD,gz,hL,hO,hK,hS,eN,cl]
  have aou:isLt l[0]=true->(¬bD l= .p (.i 45) (.p (.i 62) (.i 0)))/\(¬bD l= .p (.i 61) (.p (.i 61) (.i 0)))/\c=0/\u=0:=fun q=>by
   obtain⟨q1,q2,q3,q4,_⟩:=agk q b1 b2;refine⟨fun h=>?_,fun h=>?_,?_,?_⟩
   ·rw [h] at gz; exact q4 gz.symm
   ·rw [h] at gz; exact q3 gz.symm
   all_goals grind
  split
  ·rename_i LS;split
   ·rename_i X!;have nl: ¬isLt l[0]=true:=fun h=>by have:=hy.2 h; omega
    repeat' first
     |exact⟨_,rfl,J,fun h=>absurd h J,fun _ h=>absurd h nl⟩
     |split
   ·rename_i Ss;have yl:isLt l[0]=true:=hy.1 J;obtain⟨n1,n2,_,n4⟩:=aou yl;split
    ·rename_i hf0;have nw: ¬∀b∈l,yE b=true:=fun h=>by have:=hz.2 h; omega
     repeat' first
      |exact⟨0,rfl,J,fun h=>absurd h J,fun _ _=> ⟨⟨fun _=>nw,fun _=>rfl⟩,⟨fun h=>absurd h J,fun h=>absurd h.1 nw⟩,J⟩⟩
      |split
    ·rename_i hf1;have yw:=hz.1 J;split
     ·rename_i hg0;have nk: ¬isKey (bD l):=fun h=>by have:=hk.2 h; omega
      exact⟨2,rfl,J,fun _=> ⟨P6,yl⟩,fun _ _=> ⟨⟨fun h=>absurd h J,fun h=>absurd yw h⟩,⟨fun _=> ⟨yw,nk⟩,fun _=>rfl⟩,J⟩⟩
     ·rename_i hg1;have yk:=hk.1 J;exact⟨3,rfl,J,fun h=>absurd h J,fun _ _=> ⟨⟨fun h=>absurd h J,fun h=>absurd yw h⟩,⟨fun h=>absurd h J,fun h=>absurd yk h.2⟩,J⟩⟩
  ·rename_i LS;exact⟨1,rfl,J,fun h=>absurd h J,fun _ h=>absurd (aou h).2.2.1 LS⟩
theorem Gn (l:List Int) (hb:M8 l) (hl:l.length<=100000): ∀(j i:Nat),i+j=l.length->bL 4851 [enc (bD l),(i:Int)] vN/\bL 4852 [enc (bD l),(i:Int)] vN
 |0,i,h=>by
  have c1: ¬(i:Int)<(l.length:Int):=J
  constructor
  ·refine bL.of ?_;rw [VS];simp only [Un,zz,eN,c1];exact .out sR
  ·refine bL.of ?_;rw [aa3];simp only [a_,zz,eN,c1];exact .out sR
 |j+1,i,h=>by
  have hi:i<l.length:=J
  have c1:(i:Int)<(l.length:Int):=J
  have c2: ¬((i:Int)<0):=J
  have w:=bF (n:=i) J;obtain⟨i1,i2⟩:=Gn l hb hl j (i+1) J;obtain⟨ys,hA,c,rfl,hc,Y⟩:=xF l[i] (.p (.i 9) (.p (.i 10) (.p (.i 13) (.p (.i 32) (.i 0))))) (arw aa);constructor
  ·refine bL.of ?_;rw [VS];simp only [Un,zz,eN,c1,c2,xB hi,w,hA]
   repeat' first |exact .jump i1|exact .jump i2|exact .out wR|refine .ite (fun _=>?_) (fun _=>?_)
  ·refine bL.of ?_;rw [aa3];simp only [a_,zz,eN,c1,c2,xB hi,w,hA]
   repeat' first |exact .jump i1|exact .jump i2|exact .out wR|refine .ite (fun _=>?_) (fun _=>?_)
theorem D! (l:List Int) (hb:M8 l) (hl:l.length<=100000):bL 4850 [enc (bD l)] vN:=by refine bL.of ?_;rw [aa4];simp only [a!,zz];exact .jump (Gn l hb hl l.length 0 J).1
theorem aoX:(List.range 256).all (fun k=>!(isLt (k:Int))||!(((.p (.i 9) (.p (.i 10) (.p (.i 13) (.p (.i 32) (.i 0)))):D).l.map D.n).contains (k:Int)))=true:=aa
theorem D? (b:Int) (h:isLt b=true) (h0:0<=b) (U:b<256):L 4850 [enc (bD [b])]=some [0]:=by
 obtain⟨_,_,_,_,n5,n6⟩:=agk h h0 U;obtain⟨ys,hA,c,rfl,hc,Y⟩:=xF b (.p (.i 9) (.p (.i 10) (.p (.i 13) (.p (.i 32) (.i 0))))) (arw aa)
 have LS:c=0:=by
  have:=M1 (p:=fun k=>!(isLt k)||!(((.p (.i 9) (.p (.i 10) (.p (.i 13) (.p (.i 32) (.i 0)))):D).l.map D.n).contains k)) aoX h0 U
  grind
 subst LS;have gz:((bD [b]).at 0).n=b:=xB (l:=[b]) (i:=0) ad;rw [bI,aa4];simp only [a!,zz,fin];rw [bI,VS];simp only [Un,zz,eN,gz,n5,n6,hA,aT,bj,aw,aK,aL,Int.reduceLT,fin]
def is2 (ys:List Int):Prop:= ∃a b:Int,ys= [a,b]
theorem Oa (l:List Int) (hl:l.length<=100000): ∀(j i:Nat) (n:Int),i+j=l.length->bL 22002 [enc (bD l),n,(i:Int)] is2
 |0,i,n,h=>by
  have c1: ¬(i:Int)<(l.length:Int):=J
  refine bL.of ?_;rw [Ts];simp only [Ra,zz,eN,c1];exact .out ⟨_,_,rfl⟩
 |j+1,i,n,h=>by
  have c1:(i:Int)<(l.length:Int):=J
  have c2: ¬((i:Int)<0):=J
  have w:=bF (n:=i) J;refine bL.of ?_;rw [Ts];simp only [Ra,zz,eN,c1,c2,w];exact .jump (Oa l hl j (i+1) _ J)
theorem US: ∀(m:Nat) (l:List Int),l.length<=m->l.length<=100000->bL 22001 [enc (bD l)] is2
 |m,l,hm,hl=>by
  have e:=Oa l hl l.length 0 0 J;have e':bL 22002 [enc (bD l),0,0] is2:=e;refine bL.of ?_;rw [abC];simp only [k?,zz,eN,aw,zg,D.V,YH,lG,ay,zM,aW,sL];refine .ite (fun U=> .ite (fun _=>?_) fun _=>?_) fun _=> .jump e'
  ·obtain⟨m,rfl⟩ : ∃k,m=k+1:=⟨m-1,J⟩;exact .jump (US m _ (by simp only [bo,a8,Int.toNat]; omega) (by simp only [bo,a8]; omega))
  ·repeat' first |exact .jump e'|exact .out ⟨_,_,rfl⟩|refine .ite (fun _=>?_) (fun _=>?_)
theorem N9 (l:List Int) (hl:l.length<=100000):bL 22000 [enc (bD l)] is2:=by refine bL.of ?_;rw [abD];simp only [l_,zz];exact .jump (US l.length l (ax _) hl)
theorem OT (l:List Int) (hb:M8 l) (hl:l.length<=16384): ∀(j i:Nat),i+j=l.length->∃p:Nat,i<=p/\p<=l.length/\L 4701 [enc (bD l),0,(i:Int)]=L 4702 [enc (bD l),(p:Int),1,0]
 |0,i,h=>by
  have c1: ¬(i:Int)<(l.length:Int):=J
  refine⟨i,ax _,J,?_⟩;rw [bI,VT];simp only [Uo,zz,eN,c1,fin]
 |j+1,i,h=>by
  have c1:(i:Int)<(l.length:Int):=J
  have c2: ¬(((i+1:Nat):Int)<0):=J
  have c3: ¬(l.length:Int)<((i+1:Nat):Int):=J
  have w:=bF (n:=i) J;obtain⟨p,p1,p2,p3⟩:=OT l hb hl j (i+1) J;obtain⟨ys,hO,c,rfl,hc⟩:=D! ((l.take (i+1)).drop 0) (hb.part _ _) (by simp only [bo,a8]; omega);rw [bI,VT];simp only [Uo,zz,eN,c1,c2,c3,w,aw,D.V,YH,lG,aF,aG,ay,zM,aW,sL,asz,hO];rcases hc with rfl|rfl
  ·exact⟨i,ax _,J,rfl⟩
  ·exact⟨p,J,p2,p3⟩
theorem aen (l:List Int) (hb:M8 l) (h0:0<l.length) (hl:isLt l[0]=true):L 4701 [enc (bD l),0,0]=L 4702 [enc (bD l),0,1,0]:=by
 obtain⟨b1,b2⟩:=hb _ (aq h0);have hO:=D? _ hl b1 b2;have c1:(0:Int)<(l.length:Int):=J
 have c3: ¬(l.length:Int)<1:=J
 have w:IntKind.i64.wrap (0+1)=1:=fW J J
 have hp:(l.take 1).drop 0= [l[0]]:=by
  cases l with
  |nil=>simp at h0
  |cons a t=>simp
 rw [bI,VT];simp only [Uo,zz,eN,c1,c3,w,aw,Int.reduceLT,D.V,YH,lG,aF,aG,ay,zM,sL,asz,Int.toNat_one,hp,hO,fin]
theorem A0 (l:List Int) (hb:M8 l) (hl:l.length<=16384) (p:Nat) (hp:p<=l.length): ∀(j i:Nat) (n:Int),i+j=p->∃n':Int,L 4702 [enc (bD l),(p:Int),n,(i:Int)]=if p=l.length then some [5,enc (.i 0),0,n',(p:Int),(p:Int),0,0] else L 4703 [enc (bD l),(p:Int),n',(p:Int),((p+1:Nat):Int)]
 |0,i,n,h=>by
  have c1: ¬(i:Int)<(p:Int):=J
  have w:=bF (n:=p) J;have c2:((p:Int)=(l.length:Int))=(p=l.length):=by rw [asj]
  refine⟨n,?_⟩;rw [bI,aa6];simp only [b?,zz,eN,c1,w,c2];split<;>rfl
 |j+1,i,n,h=>by
  have hi:i<l.length:=J
  have c1:(i:Int)<(p:Int):=J
  have c2: ¬((i:Int)<0):=J
  have c3:(i:Int)<(l.length:Int):=J
  have w:=bF (n:=i) J;rw [bI,aa6];simp only [b?,zz,eN,c1,c2,c3,w,xB hi];split
  ·exact A0 l hb hl p hp j (i+1) _ J
  ·exact A0 l hb hl p hp j (i+1) _ J
def anB (l:List Int) (p:Nat) (ys:List Int):Prop:= ∃k s n LA a e er YN:Int,ys= [k,s,n,LA,a,e,er,YN]/\(er=0->a=p/\∃E:Nat,E<=l.length/\e=E/\L 4750 [enc (bD ((l.take E).drop p))]=some [k])
theorem KO (l:List Int) (hb:M8 l) (hl:l.length<=16384) (p:Nat) (LA:Int): ∀(j e to:Nat),to+j=l.length+1->p<=e->e<to->p<to->bL 4703 [enc (bD l),(p:Int),LA,(e:Int),(to:Int)] (anB l p)
 |j,e,to,h,U,Z,h3=>by
  have hE:e<=l.length:=J
  obtain⟨k,hK,k0,_⟩:=A4 ((l.take e).drop p) (hb.part _ _) (by simp only [bo,a8]; omega);obtain⟨ys,hN,n1,n2,rfl⟩:=N9 ((l.take e).drop p) (by simp only [bo,a8]; omega);have c1: ¬(p:Int)<0:=J
  have c2: ¬(e:Int)<(p:Int):=J
  have c3: ¬(l.length:Int)<(e:Int):=J
  have c5: ¬(to:Int)<(p:Int):=J
  by_cases hj:j=0
  ·have c4:(l.length:Int)<(to:Int):=J
   refine bL.of ?_;rw [Pn];simp only [ND,zz,eN,c1,c2,c3,c4,D.V,YH,lG,aF,aG,ay,zM,aW,sL,hK,hN]
   repeat' first
    |exact .out ⟨_,_,_,_,_,_,_,_,rfl,fun h=>absurd h J⟩
    |exact .out ⟨_,_,_,_,_,_,_,_,rfl,fun _=> ⟨rfl,e,hE,rfl,hK⟩⟩
    |refine .ite (fun _=>?_) (fun _=>?_)
  ·obtain⟨j,rfl⟩ : ∃i,j=i+1:=⟨j-1,J⟩;have c4: ¬(l.length:Int)<(to:Int):=J
   have w:=bF (n:=to) J;obtain⟨k',hK',_⟩:=A4 ((l.take to).drop p) (hb.part _ _) (by simp only [bo,a8]; omega);have i1:=KO l hb hl p LA j to (to+1) J J J J;have i2:=KO l hb hl p LA j e (to+1) J J J J;refine bL.of ?_;rw [Pn];simp only [ND,zz,eN,c1,c2,c3,c4,c5,D.V,YH,lG,aF,aG,ay,zM,aW,sL,hK,hN,hK',w]
   repeat' first
    |exact .jump i1
    |exact .jump i2
    |exact .out ⟨_,_,_,_,_,_,_,_,rfl,fun h=>absurd h J⟩
    |exact .out ⟨_,_,_,_,_,_,_,_,rfl,fun _=> ⟨rfl,e,hE,rfl,hK⟩⟩
    |refine .ite (fun _=>?_) (fun _=>?_)
theorem Nz (l:List Int) (hb:M8 l) (hn:JI l) (LA:Int): ∀(j e:Nat),e+j=l.length->L 4703 [enc (bD l),0,LA,(e:Int),((e+1:Nat):Int)]=some [2,enc (bD l),0,LA,0,(l.length:Int),0,0]
 |0,e,h=>by
  obtain⟨hl,⟨h0,U⟩,Z,h3⟩:=hn;obtain⟨k,hK,k0,_,kk⟩:=A4 l hb J;obtain⟨_,k2,_⟩:=kk h0 U;obtain rfl:=k2.2 ⟨Z,h3⟩;obtain rfl:e=l.length:=J
  have c2: ¬(l.length:Int)<0:=J
  have c4:(l.length:Int)<((l.length+1:Nat):Int):=J
  have hp:(l.take l.length).drop 0=l:=ad
  rw [bI,Pn];simp only [ND,zz,eN,c2,c4,aw,D.V,YH,lG,aF,aG,ay,zM,aW,sL,asz,hp,hK,Int.reduceEq,fin]
 |j+1,e,h=>by
  have ih:=Nz l hb hn LA j (e+1) J;obtain⟨hl,⟨h0,U⟩,Z,h3⟩:=hn;have hlen:((l.take (e+1)).drop 0).length=e+1:=by simp only [bo,a8]; omega
  obtain⟨k,hK,k0,_,kk⟩:=A4 ((l.take (e+1)).drop 0) (hb.part _ _) J;obtain⟨k1,_,_⟩:=kk J (by simpa using U)
  have kp:0<k:=by
   grind
  have c2: ¬((e+1:Nat):Int)<0:=J
  have c4: ¬(l.length:Int)<((e+1:Nat):Int):=J
  have w:=bF (n:=e+1) J;rw [bI,Pn];simp only [ND,zz,eN,c2,c4,aw,D.V,YH,lG,aF,aG,ay,zM,aW,sL,asz,hK,kp,w];split<;>exact ih
theorem I! (l:List Int) (hb:M8 l):bL 4650 [enc (bD l)] (cA (JI l)):=by
 have vR: ∀{k s n LA a e er YN:Int},L 4700 [enc (bD l),0]=some [k,s,n,LA,a,e,er,YN]->bL 4650 [enc (bD l)] (cA (er=0/\k=2/\a=0/\e=(l.length:Int))):=fun h=>by
  refine bL.of ?_;rw [ahc];simp only [afG,zz,eN,h]
  repeat' first
   |exact .out (bN ⟨by assumption,by assumption,by assumption,by assumption⟩)
   |exact .out (bE fun h=>absurd h.1 (by assumption))
   |exact .out (bE fun h=>absurd h.2.1 (by assumption))
   |exact .out (bE fun h=>absurd h.2.2.1 (by assumption))
   |exact .out (bE fun h=>absurd h.2.2.2 (by assumption))
   |refine .ite (fun _=>?_) (fun _=>?_)
 by_cases hl:l.length<=16384
 ·have c1: ¬(16384:Int)<(l.length:Int):=J
  have c2: ¬(l.length:Int)<0:=J
  have h47:L 4700 [enc (bD l),0]=L 4701 [enc (bD l),0,0]:=by rw [bI,aa7];simp only [c_,zz,eN,c1,c2,aw,fin]
  by_cases hn:JI l
  ·obtain⟨h0,U⟩:=hn.2.1;have hf:=aen l hb h0 U;obtain⟨n',Iy⟩:=A0 l hb hl 0 J 0 0 1 rfl;rw [af J] at Iy;have ht:=Nz l hb hn n' l.length 0 J
   grind
  ·obtain⟨p,_,p2,p3⟩:=OT l hb hl l.length 0 J;obtain⟨n',Iy⟩:=A0 l hb hl p p2 p 0 1 J;by_cases hp:p=l.length
   ·grind
   ·rw [af hp] at Iy;obtain⟨ys,hT,k,s,n,LA,a,e,er,YN,rfl,hk⟩:=KO l hb hl p n' (l.length-p) p (p+1) J J J J;refine (vR (((h47.trans p3).trans Iy).trans hT)).iff ⟨fun⟨q1,q2,q3,q4⟩=>?_,fun h=>absurd h hn⟩;obtain⟨r1,E,r2,r3,r4⟩:=hk q1;obtain rfl:p=0:=J
    obtain rfl:E=l.length:=J
    rw [ast,arC,q2] at r4;obtain⟨k',hK,_,kl,kk⟩:=A4 l hb J;rw [r4] at hK;simp only [ah,List.cons.injEq,and_true] at hK;obtain⟨h0,U⟩:=kl hK.symm;obtain⟨_,k2,_⟩:=kk h0 U;obtain⟨w1,w2⟩:=k2.1 hK.symm;exact⟨hl,⟨h0,U⟩,w1,w2⟩
 ·have c1:(16384:Int)<(l.length:Int):=J
  refine (vR (k:=0) (s:=enc (.i 0)) (n:=0) (LA:=0) (a:=0) (e:=0) (er:=3) (YN:=0) ?_).iff ⟨fun h=>absurd h.1 J,fun h=>absurd h.1 hl⟩;rw [bI,aa7];simp only [c_,zz,eN,c1,fin]
theorem aeQ:(List.range 256).all (fun k=>((b0.at (k:Int)).n == 4) == isLt (k:Int)&&((b0.at (k:Int)).n == 3) == Iw (k:Int))=true:=aa
theorem cls {b:Int} (h0:0<=b) (U:b<256):((b0.at b).n=4↔isLt b=true)/\((b0.at b).n=3↔Iw b=true):=by
 have:=M1 (p:=fun k=>((b0.at k).n == 4) == isLt k&&((b0.at k).n == 3) == Iw k) aeQ h0 U
 grind
theorem NV: ∀(x r:List D),(∀a∈x,a≠.i 32)->Dl (x++ [.i 32]) r=true->x=r.takeWhile fun a=>a≠.i 32
 |[],r,_,h=>by
  cases r with
  |nil=>rfl
  |cons a r=> simp_all [Dl]
 |a::x,[],_,h=>by simp [Dl] at h
 |a::x,b::r,Y,h=>by
  simp only [aM,Dl,an] at h;have ha:a=b:=by simpa using h.1
  subst ha;have jK:=Y a (arF ..);rw [List.takeWhile_cons,ag (by simpa using jK),<- NV x r (fun c hc=>Y c (arS _ hc)) h.2]
def xL:List D->List (List D)
 |[]=>[]
 |a::r=>if a= .i 32 then (r.takeWhile fun a=>a≠.i 32)::xL r else xL r
theorem Pu (x:List D) (Y: ∀a∈x,a≠.i 32): ∀r:List D,BK r (.i 32::(x++ [.i 32]))=true->x∈xL r
 |[],h=>by simp [BK,Dl] at h
 |a::r,h=>by
  simp only [BK,Dl,arQ,an] at h;rcases h with ⟨U,Z⟩|h
  ·grind [xL,NV]
  ·have:=Pu x Y r h
   grind [xL]
theorem QN:(xL b1.l).all (fun x=>x.isEmpty||(List.range 37).any fun k=>decide (dL x=Oq (k:Int)))=true:=aa
theorem M?:(List.range 37).all (fun k=>BK b1.l ((.i 32::(Oq (k:Int)).l)++ [.i 32]))=true:=aa
theorem Wl (l:List Int) (h0:0<l.length) (hw: ∀b∈l,yE b=true):BK b1.l ((.i 32::(bD l).l)++ [.i 32])=true↔isKey (bD l):=by
 constructor
 ·intro h
  have Y: ∀a∈(bD l).l,a≠D.i 32:=by intro a ha;rw [PC] at ha;obtain⟨b,hb,rfl⟩:=aR.1 ha;intro q;injection q with q;have:=hw b hb;rw [q] at this;revert this;decide
  have:=Pu _ Y _ h;have:=aP.1 QN _ this;rw [arQ] at this;rcases this with h|h
  ·grind [eN]
  ·obtain⟨k,hk,h⟩:=asO.1 h;exact⟨k,arE.1 hk,by have:=of_decide_eq_true h; rw [PC] at this; exact this⟩
 ·rintro⟨k,hk,h⟩
  grind [M?]
theorem Yb (l:List Int) (hb:M8 l) (hl:l.length<=16384) (h0:0<l.length) (U:isLt l[0]=true) (x:Int):L 12800 [enc (bD l),0]=some [0,enc (bD l),0,0]:=by
 obtain⟨b1,b2⟩:=hb _ (aq h0);have c1:(0:Int)<(l.length:Int):=J
 have hc:=(cls b1 b2).1.2 U;have b1: ¬l[0]<0:=J
 have gz:((bD l).at 0).n=l[0]:=xB h0;rw [bI,Tw];simp only [Re,zz,fin];rw [bI,Tv];simp only [K0,zz,eN,c1,gz,b1,b2,hc,aw,Int.reduceEq,fin]
theorem Ac (l:List Int) (hb:M8 l) (hl:l.length<=16384) (x1:Int): ∀(j i:Nat),i+j=l.length->∃p:Nat,i<=p/\p<=l.length/\(p=l.length↔∀b∈l.drop i,yE b=true)/\L 12851 [enc (bD l),x1,4,(i:Int)]=some [0,enc (bD l),x1,(p:Int)]
 |0,i,h=>by
  have c1: ¬(i:Int)<(l.length:Int):=J
  refine⟨i,ax _,J,⟨fun _=>?_,fun _=>by omega⟩,?_⟩
  ·grind
  simp_all [bI,MB,FQ,zz,eN,fin]
 |j+1,i,h=>by
  have hi:i<l.length:=J
  have c1:(i:Int)<(l.length:Int):=J
  have c2: ¬((i:Int)<0):=J
  have w:=bF (n:=i) J;obtain⟨b1,b2⟩:=hb _ (aq hi);obtain⟨q1,q2⟩:=cls b1 b2;have b1: ¬l[i]<0:=J
  obtain⟨p,p1,p2,p3,p4⟩:=Ac l hb hl x1 j (i+1) J;have V:l.drop i=l[i]::l.drop (i+1):=aC hi;rw [bI,MB,V];simp only [FQ,zz,eN,c1,c2,w,xB hi,b1,b2]
  have aop:yE l[i]=true->(p=l.length↔∀b∈l[i]::l.drop (i+1),yE b=true):=fun g=>
   p3.trans ⟨fun q b hb=>(aH.1 hb).elim (fun e=>e▸g) (q b),fun q b hb=>q b (arS _ hb)⟩
  split
  ·rename_i h3;exact⟨p,J,p2,aop (by simp only [yE,q2.1 h3,Bool.or_true]),p4⟩
  ·rename_i h3;split
   ·rename_i h4;exact⟨p,J,p2,aop (by simp only [yE,q1.1 h4,atf]),p4⟩
   ·rename_i h4;refine⟨i,ax _,J,⟨fun q=>by omega,fun q=>?_⟩,rfl⟩;have:=q _ (arF ..);simp only [yE,arQ] at this
    grind
theorem CP (l:List Int) (hb:M8 l):bL 1000 [enc (bD l)] (cA (JI l)):=by
 have vR: ∀{k s n LA a e er YN:Int},L 1050 [enc (bD l),0]=some [k,s,n,LA,a,e,er,YN]->bL 1000 [enc (bD l)] (cA (er=0/\k=2/\IntKind.i64.wrap (e-a)=(l.length:Int))):=fun h=>by
  refine bL.of ?_;rw [ahL];simp only [af8,zz,eN,h]
  repeat' first
   |exact .out (bN ⟨by assumption,by assumption,by assumption⟩)
   |exact .out (bE fun h=>absurd h.1 (by assumption))
   |exact .out (bE fun h=>absurd h.2.1 (by assumption))
   |exact .out (bE fun h=>absurd h.2.2 (by assumption))
   |refine .ite (fun _=>?_) (fun _=>?_)
 have bs:=ahR hb;by_cases hg:(16384:Int)<(l.length:Int)
 ·refine (vR (k:=0) (s:=enc (.i 0)) (n:=0) (LA:=0) (a:=0) (e:=0) (er:=3) (YN:=0) ?_).iff ⟨fun h=>absurd h.1 J,fun h=>absurd h.1 J⟩;rw [bI,VZ];simp only [UA,zz,eN,hg,fin]
 ·have hl:l.length<=16384:=J
  obtain⟨p,hp,hB⟩:=TO (bD l) bs (by rw [eN]; omega) 0 J;rw [eN] at hp;have hB':L 12800 [enc (bD l),0]=some [0,enc (bD l),0,(p:Int)]:=hB
  have hp0: ∀h0:0<l.length,isLt l[0]=true->p=0:=fun h0 U=>by
   have:=Yb l hb hl h0 U 0
   grind
  have c0: ¬((0:Int)<0):=J
  have c1: ¬((l.length:Int)<0):=J
  have c2: ¬((p:Int)<0):=J
  have c3: ¬((l.length:Int)<(p:Int)):=J
  by_cases he:(p:Int)=(l.length:Int)
  ·have c9: ¬((l.length:Int)<(l.length:Int)):=J
   refine (vR (k:=5) (s:=enc (.i 0)) (n:=0) (er:=0) (YN:=0) (by
    rw [bI,VZ];simp only [UA,zz,eN,hg,c0,c1,hB',c2,c3,he,c9,fin]
    rfl)).iff ⟨fun h=>absurd h.2.1 J,fun h=>?_⟩
   obtain⟨h0,U⟩:=h.2.1
   grind
  ·obtain⟨e,U,Z,hE⟩:=aat (bD l) bs (by rw [eN]; omega) p (by rw [eN]; omega);rw [eN] at Z;have c4: ¬((e:Int)<(p:Int)):=J
   have c5: ¬((l.length:Int)<(e:Int)):=J
   have hq:=hb.part p e;have hql:((l.take e).drop p).length=e-p:=by simp only [bo,a8]; omega
   have hq0:0<((l.take e).drop p).length:=J
   obtain⟨b1',b2'⟩:=hq _ (aq hq0);obtain⟨na,nb,hN⟩:=RO _ (ahR hq) (by rw [eN]; omega);obtain⟨q1,q2⟩:=cls b1' b2';have b1': ¬((l.take e).drop p)[0]<0:=J
   have gz:((bD ((l.take e).drop p)).at 0).n=((l.take e).drop p)[0]:=xB hq0;have c6:(0:Int)<(((l.take e).drop p).length:Int):=J
   have c7:(((l.take e).drop p).length:Int)<1000000000:=J
   have c8:((([D.i 32]++(bD ((l.take e).drop p)).l:List D).length:Nat):Int)<1000000000:=by simp only [bc,aT,bj,eN]; omega
   have l32:(D.p (.i 32) (.i 0)).l= [.i 32]:=rfl
   have P6:p=0->∃h0:0<l.length,((l.take e).drop p)[0]=l[0]:=fun hp=>by
    grind
   have key: ∀{k s n LA a e' er YN:Int},L 1050 [enc (bD l),0]=some [k,s,n,LA,a,e',er,YN]->(er=0/\k=2->isLt ((l.take e).drop p)[0]=true/\¬BK As.Try.b1.l ((.i 32::(bD ((l.take e).drop p)).l)++ [.i 32])=true/\a=(p:Int)/\e'=(e:Int))->
    (p=0->e=l.length->isLt ((l.take e).drop p)[0]=true->¬BK As.Try.b1.l ((.i 32::(bD ((l.take e).drop p)).l)++ [.i 32])=true->er=0/\k=2/\a=(p:Int)/\e'=(e:Int))->bL 1000 [enc (bD l)] (cA (JI l)):=fun {k s n LA a e' er YN} hL k1 k2=>by
    refine (vR hL).iff ⟨fun⟨g1,g2,g3⟩=>?_,fun hn=>?_⟩
    ·obtain⟨f1,f2,rfl,rfl⟩:=k1 ⟨g1,g2⟩;rw [fW J J] at g3;obtain rfl:p=0:=J
     obtain rfl:e=l.length:=J
     obtain⟨h0,hh⟩:=P6 rfl;rw [hh] at f1;obtain⟨p',p1,p2,p3,p4⟩:=Ac l hb hl 0 (l.length-1) 1 J
     have hE0:L 12850 [enc (bD l),0]=some [0,enc (bD l),0,(p':Int)]:=by
      obtain⟨d1,d2⟩:=hb _ (aq h0);have hc:=(cls d1 d2).1.2 f1;have d1: ¬l[0]<0:=J
      have Y':((bD l).at 0).n=l[0]:=xB h0;have e1:(0:Int)<(l.length:Int):=J
      have w:IntKind.i64.wrap (0+1)=1:=fW J J;rw [bI,MC];simp only [KZ,zz,eN,e1,Y',d1,d2,hc,w,aw,Int.reduceEq,fin];exact p4
     have hE1:L 12850 [enc (bD l),0]=some [0,enc (bD l),0,(l.length:Int)]:=hE;rw [hE0] at hE1;simp only [ah,List.cons.injEq,and_true,true_and] at hE1;have hw1:=p3.1 J
     have hw: ∀b∈l,yE b=true:=fun b hb=>by
      have:l=l[0]::l.drop 1:=by
       have:=aC h0
       grind
      rw [this] at hb;rcases aH.1 hb with rfl|hb
      ·simp only [yE,f1,atf]
      grind
     have hll:(l.take l.length).drop 0=l:=ad
     rw [hll] at f2;exact⟨hl,⟨h0,f1⟩,hw,fun q=>f2 ((Wl l h0 hw).2 q)⟩
    ·obtain⟨_,⟨h0,f1⟩,hw,f2⟩:=hn;obtain rfl:p=0:=hp0 h0 f1;obtain⟨p',p1,p2,p3,p4⟩:=Ac l hb hl 0 (l.length-1) 1 J
     have hE0:L 12850 [enc (bD l),0]=some [0,enc (bD l),0,(p':Int)]:=by
      obtain⟨d1,d2⟩:=hb _ (aq h0);have hc:=(cls d1 d2).1.2 f1;have d1: ¬l[0]<0:=J
      have Y':((bD l).at 0).n=l[0]:=xB h0;have e1:(0:Int)<(l.length:Int):=J
      have w:IntKind.i64.wrap (0+1)=1:=fW J J;rw [bI,MC];simp only [KZ,zz,eN,e1,Y',d1,d2,hc,w,aw,Int.reduceEq,fin];exact p4
     have hE1:L 12850 [enc (bD l),0]=some [0,enc (bD l),0,(e:Int)]:=hE;rw [hE0] at hE1;simp only [ah,List.cons.injEq,and_true,true_and] at hE1;have:p'=l.length:=p3.2 fun b hb=>hw b (arv hb);obtain rfl:e=l.length:=J
     obtain⟨_,hh⟩:=P6 rfl;have hll:(l.take l.length).drop 0=l:=ad
     obtain⟨g1,g2,rfl,rfl⟩:=k2 rfl rfl (by rw [hh]; exact f1) (by rw [hll]; exact fun q=>f2 ((Wl l h0 hw).1 q));exact⟨g1,g2,fW J J⟩
   have n61:isLt ((l.take e).drop p)[0]=true->¬bD ((l.take e).drop p)= .p (.i 61) (.i 0):=fun g h=>by
    rw [h] at gz
    have:(61:Int)=((l.take e).drop p)[0]:=gz
    rw [<- this] at g;revert g;decide
   have JY:L 1050 [enc (bD l),0]=L 1050 [enc (bD l),0]:=rfl
   conv at JY=>rhs; rw [bI,VZ]
   simp only [UA,zz,eN,hg,c0,c1,hB',hE,c2,c3,c4,c5,he,D.V,YH,lG,zM,aF,aG,ay,aW,asz,sL,gz,b1',b2',c6,c7,c8,hN,q1,q2,nZ,bz] at JY
   have ldg:isLt ((l.take e).drop p)[0]=true->¬Iw ((l.take e).drop p)[0]=true:=fun g h=>by
    grind
   by_cases gd:Iw ((l.take e).drop p)[0]=true
   ·rw [ag gd] at JY;split at JY
    ·exact key JY (fun h=>absurd h.1 J) (fun _ _ h=>absurd gd (ldg h))
    ·exact key JY (fun h=>absurd h.2 J) (fun _ _ h=>absurd gd (ldg h))
   ·rw [af gd] at JY;by_cases gl:isLt ((l.take e).drop p)[0]=true
    ·have g61:=n61 gl;rw [ag gl] at JY;by_cases gc:BK As.Try.b1.l ([D.i 32]++(bD ((l.take e).drop p)).l++ [.i 32])=true
     ·rw [af (by rw [ag gc]; omega)] at JY;rw [af g61] at JY;exact key JY (fun h=>absurd h.2 J) (fun _ _ _ h=>absurd gc h)
     ·rw [ag (by rw [af gc])] at JY;rw [af g61] at JY;exact key JY (fun _=> ⟨gl,gc,rfl,rfl⟩) (fun _ _ _ _=> ⟨rfl,rfl,rfl,rfl⟩)
    ·rw [af gl] at JY;split at JY
     ·split at JY
      ·exact key JY (fun h=>absurd h.1 J) (fun _ _ h=>absurd h gl)
      ·exact key JY (fun h=>absurd h.2 J) (fun _ _ h=>absurd h gl)
     ·exact key JY (fun h=>absurd h.1 J) (fun _ _ h=>absurd h gl)
def JH (s:D):Prop:=JI (s.l.map D.n)
theorem aoZ (l:List Int):(bD l).l.map D.n=l:=by rw [PC,arT];exact asB _
theorem RQ {s:D} (h:Wd .str s):bL 1000 [enc s] (cA (JH s)):=by
 grind [acR,JH,aoZ,CP]
theorem Xs {s:D} (h:Wd .str s):bL 4650 [enc s] (cA (JH s)):=by
 grind [acR,JH,aoZ,I!]
theorem ZG {s:D} (h:Wd .str s): ∃b,(b=0\/b=1)/\(b=1↔JH s)/\L 12900 [enc s,0]=some [b,enc s,0]:=by
 obtain⟨ys,h,b,rfl,G5,EF⟩:=RQ h;rw [bI,abT];simp only [o?,zz,h];rcases G5 with rfl|rfl
 ·exact⟨0,.inl rfl,EF,rfl⟩
 ·exact⟨1,.inr rfl,EF,rfl⟩
def Gx (loc k:Int) (s:D) (n:Int) (ks:D):Prop:=
 (k=1/\(ks.l.length:Int)=0/\s= .i 0/\0<=n)\/(k=2/\(ks.l.length:Int)=0/\0<=n/\n<loc/\JH s)\/
 (k=3/\n=0/\(((ks.l.length:Int)=1/\s= .p (.i 45) (.i 0))\/((ks.l.length:Int)=2/\(s= .p (.i 43) (.i 0)\/s= .p (.i 45) (.i 0)\/s= .p (.i 42) (.i 0)\/s= .p (.i 61) (.p (.i 61) (.i 0))\/s= .p (.i 60) (.i 0)))))
def Hg:Nat->Int->D->Prop
 |0,_,_=>False
 |v+1,loc,e=>(∀k∈(e.V 3).l,Hg v loc k)/\Gx loc (e.V 0).n (e.V 1) (e.V 2).n (e.V 3)
def He:Nat->D->Prop
 |0,_=>False
 |v+1,e=> ∀k∈(e.V 3).l,He v k
def parts:Nat->D->Nat
 |0,_=>0
 |v+1,e=>1+((e.V 3).l.map (parts v)).sum
theorem VK: ∀(v:Nat) (loc:Int) (e:D),Hg v loc e->He v e
 |0,_,_,h=>h
 |v+1,loc,e,h=>fun k hk=>VK v loc k (h.1 k hk)
theorem Bv {kids:D} (h:Wd (.sl 6) kids) {i:Nat} (hi:i<kids.l.length): ∃k s n ks,kids.l[i]=dL [.i k,s,.i n,ks]/\gx .u8 k/\Wd .str s/\gx .i64 n/\Wd (.sl 6) ks/\(kids.l[i].V 0).n=k/\kids.l[i].V 1=s/\(kids.l[i].V 2).n=n/\kids.l[i].V 3=ks:=by obtain⟨k,s,n,ks,he,U,Z,h3,h4⟩:=qM h hi;exact⟨k,s,n,ks,he,U,Z,h3,h4,by rw [he,ep]; rfl,by rw [he,ep]; rfl,by rw [he,ep]; rfl,by rw [he,ep]; rfl⟩
def isW (v:Nat) (loc left:Int) (e:D) (ys:List Int):Prop:= ∃lf c:Int,ys= [lf,loc,c]/\(c=0\/c=1)/\(c=1↔Hg v loc e/\(parts v e:Int)<=left)/\(c=1->lf=left-parts v e)
def aj5 (v:Nat) (loc left:Int) (l:List D) (p:Prop) (ys:List Int):Prop:= ∃lf c:Int,ys= [lf,loc,c]/\(c=0\/c=1)/\(c=1↔(∀k∈l,Hg v loc k)/\((l.map (parts v)).sum:Int)<=left/\p)/\(c=1->lf=left-(l.map (parts v)).sum)
theorem aea {v:Nat} {loc left:Int} {p:Prop} (h0:0<=left) (h: ¬p):aj5 v loc left [] p [left,loc,0]:=⟨_,_,rfl,.inl rfl,⟨fun h=>absurd h J,fun h'=>absurd h'.2.2 h⟩,fun h=>absurd h J⟩
theorem O! {v:Nat} {loc left:Int} {p:Prop} (h0:0<=left) (h:p):aj5 v loc left [] p [left,loc,1]:=⟨_,_,rfl,.inr rfl,⟨fun _=> ⟨ad,by simpa using h0,h⟩,fun _=>rfl⟩,fun _=>by simp⟩
theorem DK: ∀(v deep:Nat),deep+v=21->∀(k n left loc:Int) (s kids e:D),Wd .str s->Wd (.sl 6) kids->0<=left->left<=1000->(e.V 0).n=k->e.V 1=s->(e.V 2).n=n->e.V 3=kids->
 bL 5050 [k,enc s,n,enc kids,(deep:Int),left,loc] (isW v loc left e)
 |v,deep,hm,k,n,left,loc,s,kids,e,hs,hk,P6,C2,g0,g1,g2,g3=>by
  have wl:IntKind.i64.wrap (left-1)=left-1:=fW J J;refine bL.of ?_;rw [ag6];simp only [afB,zz,wl]
  have p1:0<v->1<=parts v e:=fun h=>by
   obtain⟨v,rfl⟩ : ∃v',v=v'+1:=⟨v-1,J⟩
   grind [parts]
  have no0: ¬Hg 0 loc e:=id;refine .ite (fun hh=> .out ⟨_,0,rfl,.inl rfl,⟨fun h=>absurd h J,fun h=>?_⟩,fun h=>absurd h J⟩) fun hh=> .ite (fun V=> .out ⟨_,0,rfl,.inl rfl,⟨fun h=>absurd h J,fun h=>?_⟩,fun h=>absurd h J⟩) fun V=> .jump ?_
  ·grind
  ·grind
  obtain⟨v,rfl⟩ : ∃v',v=v'+1:=⟨v-1,J⟩;have ih:=DK v (deep+1) J;have hlen:=hk.len;have w0:=bF (n:=deep) J
  have loop: ∀(j i:Nat) (l':Int),i+j=kids.l.length->0<=l'->l'<=1000->bL 5051 [(deep:Int),enc kids,(kids.l.length:Int),(i:Int),l',loc,k,enc s,n] (aj5 v loc l' (kids.l.drop i) (Gx loc k s n kids)):=by
   intro j
   induction j with
   |zero=>
    intro i l' hi q0 q1;have c1: ¬(i:Int)<(kids.l.length:Int):=J
    obtain⟨b,hb,EF,hR⟩:=ZG hs;refine bL.of ?_;rw [aaZ,aX J];simp only [Z7,zz,c1,hR,nZ]
    repeat' first
     |(refine .out (aea q0 ?_); unfold Gx; grind)
     |(refine .out (O! q0 ?_); unfold Gx; grind)
     |refine .ite (fun _=>?_) (fun _=>?_)
    grind
   |succ j vO=>
    intro i l' hi q0 q1;have di:i<kids.l.length:=J
    have c1:(i:Int)<(kids.l.length:Int):=J
    have c2: ¬((i:Int)<0):=J
    have w:=bF (n:=i) J;obtain⟨k',s',n',A3,he,_,U,_,Z,f0,f1,f2,f3⟩:=Bv hk di;obtain⟨ys,hR,lf,c,rfl,hc,OK,hc2⟩:=ih k' n' l' loc s' A3 kids.l[i] U Z q0 q1 f0 f1 f2 f3;have V:kids.l.drop i=kids.l[i]::kids.l.drop (i+1):=aC di;refine bL.of ?_;rw [aaZ,V];simp only [Z7,zz,c1,c2,bG di,he,zg,w0,w,hR];rw [<- he];refine .ite (fun LS=> .out ⟨_,0,rfl,.inl rfl,⟨fun h=>absurd h J,fun h=>?_⟩,fun h=>absurd h J⟩) fun LS=> .jump ?_
    ·have e1:=h.1 _ (arF ..);have e2:=h.2.1;simp only [aA,atg] at e2;have:=OK.2 ⟨e1,J⟩;omega
    ·have Su:c=1:=J
     obtain⟨e1,e2⟩:=OK.1 Su;have e3:=hc2 Su;obtain⟨ys,hQ,lf',c',rfl,d0,d1,d2⟩:=vO (i+1) lf J J J;refine⟨_,hQ,lf',c',rfl,d0,?_,fun h=>?_⟩
     ·simp only [aA,atg];refine d1.trans ⟨fun⟨a,b,c⟩=> ⟨fun k hk=>(aH.1 hk).elim (fun e=>e▸e1) (a k),J,c⟩,fun⟨a,b,c⟩=> ⟨fun k hk=>a k (arS _ hk),J,c⟩⟩
     ·simp only [aA,atg];have:=d2 h;omega
  obtain⟨ys,hQ,lf,c,rfl,d0,d1,d2⟩:=loop kids.l.length 0 (left-1) J J J;refine⟨_,hQ,lf,c,rfl,d0,?_,fun h=>?_⟩
  ·simp only [Hg,parts,g0,g1,g2,g3];refine d1.trans ?_;rw [arC];exact⟨fun⟨a,b,c⟩=> ⟨⟨a,c⟩,J⟩,fun⟨⟨a,c⟩,b⟩=> ⟨a,J,c⟩⟩
  ·have:=d2 h;simp only [parts,g3];rw [arC] at this;omega
theorem SH (loc:Int) {kids:D} (hw:Wd (.sl 6) kids) {i:Nat} (hi:i<kids.l.length): ∃k s n ks,kids.l[i]=dL [.i k,s,.i n,ks]/\bL 800 [k,enc s,n,enc ks,loc] (cA (Hg 20 loc kids.l[i]/\parts 20 kids.l[i]<=1000)):=by
 obtain⟨k,s,n,ks,he,_,U,_,Z,f0,f1,f2,f3⟩:=Bv hw hi;obtain⟨ys,hR,lf,c,rfl,hc,OK,hc2⟩:=DK 20 1 J k n 1000 loc s ks _ U Z J J f0 f1 f2 f3;have hR':L 5050 [k,enc s,n,enc ks,1,1000,loc]=some [lf,loc,c]:=hR;refine⟨k,s,n,ks,he,bL.of ?_⟩;rw [aoE];simp only [amx,zz,hR'];refine .ite (fun h=> .out (bE fun h'=>?_)) fun h=> .out (bN ?_)
 all_goals grind
def anC (v:Nat) (e:D) (ys:List Int):Prop:= ∃c:Int,ys= [c]/\0<=c/\c<=10000+1000*v/\(c<=1000↔He v e/\parts v e<=1000)/\(c<=1000->c=parts v e)
def aj8 (v:Nat) (m:Int) (l:List D) (ys:List Int):Prop:= ∃c:Int,ys= [c]/\0<=c/\c<=11000+1000*v/\(c<=1000↔(∀k∈l,He v k)/\m+(l.map (parts v)).sum<=1000)/\(c<=1000->c=m+(l.map (parts v)).sum)
theorem Pr: ∀(v:Nat),v<=20->∀(k n:Int) (s kids e:D),Wd (.sl 6) kids->e.V 3=kids->bL 4300 [k,enc s,n,enc kids,(v:Int)] (anC v e)
 |0,_,k,n,s,kids,e,hk,g3=>by refine bL.of ?_;rw [abb];simp only [d?,zz];refine .ite (fun _=> .out ⟨10000,rfl,J,J,⟨fun h=>absurd h J,fun h=>absurd h.1 id⟩,fun h=>absurd h J⟩) fun h=>absurd h J
 |v+1,hv,k,n,s,kids,e,hk,g3=>by
  have ih:=Pr v J;have hlen:=hk.len;have wv:IntKind.i64.wrap (((v+1:Nat):Int)-1)=(v:Int):=by rw [fW J J]; omega
  have loop: ∀(j i:Nat) (m:Int),i+j=kids.l.length->0<=m->m<=11000+1000*v->bL 4301 [((v+1:Nat):Int),m,(i:Int),k,enc s,n,enc kids] (aj8 v m (kids.l.drop i)):=by
   intro j
   induction j with
   |zero=>
    intro i m hi m0 m1;have c1: ¬(i:Int)<(kids.l.length:Int):=J
    refine bL.of ?_;rw [aba,aX J];simp only [d!,zz,c1];exact .out ⟨m,rfl,m0,m1,⟨fun h=> ⟨ad,by simpa using h⟩,fun h=>by simpa using h.2⟩,fun _=>by simp⟩
   |succ j vO=>
    intro i m hi m0 m1;have di:i<kids.l.length:=J
    have c1:(i:Int)<(kids.l.length:Int):=J
    have c2: ¬((i:Int)<0):=J
    have w:=bF (n:=i) J;obtain⟨k',s',n',A3,he,_,U,_,Z,f0,f1,f2,f3⟩:=Bv hk di;obtain⟨ys,hR,c,rfl,LS,OK,hc2,hc3⟩:=ih k' n' s' A3 kids.l[i] Z f3;have V:kids.l.drop i=kids.l[i]::kids.l.drop (i+1):=aC di;refine bL.of ?_;rw [aba,V];simp only [d!,zz,c1,c2,bG di,he,zg,wv,w,hR];rw [<- he];refine .ite (fun hm=> .out ⟨m,rfl,m0,m1,⟨fun h=>absurd h J,fun h=>?_⟩,fun h=>absurd h J⟩) fun hm=> .jump ?_
    ·grind
    ·have wm:IntKind.i64.wrap (m+c)=m+c:=fW J J;rw [wm];obtain⟨ys,hQ,c',rfl,d0,d1,d2,d3⟩:=vO (i+1) (m+c) J J J;refine⟨_,hQ,c',rfl,d0,d1,?_,fun h=>?_⟩
     all_goals grind
  refine bL.of ?_;rw [abb];have c1: ¬((v+1:Nat):Int)<1:=J
  simp only [d?,zz,c1];refine .jump ?_;obtain⟨ys,hQ,c',rfl,d0,d1,d2,d3⟩:=loop kids.l.length 0 1 J J J;rw [arC] at d2 d3;refine⟨_,hQ,c',rfl,d0,J,?_,fun h=>?_⟩
  ·simp only [He,parts,g3]
   grind
  ·have:=d3 h;simp only [parts,g3];omega
theorem VJ: ∀(v:Nat),∀(k n loc:Int) (s kids e:D),Wd .str s->Wd (.sl 6) kids->He v e->(e.V 0).n=k->e.V 1=s->(e.V 2).n=n->e.V 3=kids->bL 4350 [k,enc s,n,enc kids,loc] (cA (Hg v loc e))
 |0,k,n,loc,s,kids,e,hs,hk,hf,g0,g1,g2,g3=>absurd hf id
 |v+1,k,n,loc,s,kids,e,hs,hk,hf,g0,g1,g2,g3=>by
  have ih:=VJ v;have hlen:=hk.len;simp only [He,g3] at hf
  have loop: ∀(j i:Nat),i+j=kids.l.length->bL 4351 [loc,(i:Int),k,enc s,n,enc kids] (cA ((∀x∈kids.l.drop i,Hg v loc x)/\Gx loc k s n kids)):=by
   intro j
   induction j with
   |zero=>
    intro i hi;have c1: ¬(i:Int)<(kids.l.length:Int):=J
    obtain⟨ys,hR,b,rfl,hb,EF⟩:=Xs hs;refine bL.of ?_;rw [aa9,aX J];simp only [d_,zz,c1,hR,nZ]
    repeat' first
     |(refine .out (bE fun h=>absurd h.2 ?_); unfold Gx; grind)
     |(refine .out (bN ⟨ad,?_⟩); unfold Gx; grind)
     |refine .ite (fun _=>?_) (fun _=>?_)
   |succ j vO=>
    intro i hi;have di:i<kids.l.length:=J
    have c1:(i:Int)<(kids.l.length:Int):=J
    have c2: ¬((i:Int)<0):=J
    have w:=bF (n:=i) J;obtain⟨k',s',n',A3,he,_,U,_,Z,f0,f1,f2,f3⟩:=Bv hk di;obtain⟨ys,hR,c,rfl,hc,OK⟩:=ih k' n' loc s' A3 kids.l[i] U Z (hf _ (aq di)) f0 f1 f2 f3;have V:kids.l.drop i=kids.l[i]::kids.l.drop (i+1):=aC di;refine bL.of ?_;rw [aa9,V];simp only [d_,zz,c1,c2,bG di,he,zg,w,hR];rw [<- he];refine .ite (fun h0=> .out (bE fun h=>?_)) fun h0=> .jump ((vO (i+1) J).iff ?_)
    all_goals grind
  refine bL.of ?_;rw [ahi];simp only [afM,zz];refine .jump ((loop kids.l.length 0 J).iff ?_)
  grind [Hg]
def YI (o:Int):Int:=if o<=4 then 1 else if o<=8 then 2 else if o<=11 then 3 else if o<=14 then 4 else if o=15 then 5 else if o=16 then 6 else if o<=19 then 7 else if o<=21 then 8 else 9
def Fw (o:Int):Int:=if o=4\/o=17\/o=20\/o=23 then 1 else 0
def yW (o:Int):Int:=if o=3\/o=4\/o=11\/o=21\/o=22 then 1 else 0
theorem ei (o:Int):1<=YI o/\YI o<=9:=by unfold YI; grind
theorem ew (o:Int):Fw o=0\/Fw o=1:=by unfold Fw; grind
theorem eu (o:Int):yW o=0\/yW o=1:=by unfold yW; grind
theorem gv (o:Int):L 1200 [o]=some [YI o]:=by
 have:bL 1200 [o] (fun ys=>ys= [YI o]):=by
  refine bL.of ?_;rw [ahH];simp only [af5,zz]
  repeat' first |(refine .out (congrArg (fun x=>[x]) ?_); unfold YI; grind)|refine .ite (fun _=>?_) (fun _=>?_)
 obtain⟨ys,h,rfl⟩:=this;exact h
theorem sM (o:Int):L 1250 [o]=some [Fw o]:=by
 have:bL 1250 [o] (fun ys=>ys= [Fw o]):=by
  refine bL.of ?_;rw [ahG];simp only [af4,zz]
  repeat' first |(refine .out (congrArg (fun x=>[x]) ?_); unfold Fw; grind)|refine .ite (fun _=>?_) (fun _=>?_)
 obtain⟨ys,h,rfl⟩:=this;exact h
theorem sD (o:Int):L 1300 [o]=some [yW o]:=by
 have:bL 1300 [o] (fun ys=>ys= [yW o]):=by
  refine bL.of ?_;rw [ahF];simp only [af3,zz]
  repeat' first |(refine .out (congrArg (fun x=>[x]) ?_); unfold yW; grind)|refine .ite (fun _=>?_) (fun _=>?_)
 obtain⟨ys,h,rfl⟩:=this;exact h
theorem NS (o:Int):L 4450 [o]=some [if 1<=o/\o<=23 then YI o else 0]:=by
 have:bL 4450 [o] (fun ys=>ys= [if 1<=o/\o<=23 then YI o else 0]):=by
  refine bL.of ?_;rw [ahg];simp only [afK,zz]
  repeat' first |(refine .out (congrArg (fun x=>[x]) ?_); unfold YI; grind)|refine .ite (fun _=>?_) (fun _=>?_)
 obtain⟨ys,h,rfl⟩:=this;exact h
theorem RD (o:Int):L 4550 [o]=some [Fw o]:=by
 have:bL 4550 [o] (fun ys=>ys= [Fw o]):=by
  refine bL.of ?_;rw [ahe];simp only [afI,zz]
  repeat' first |(refine .out (congrArg (fun x=>[x]) ?_); unfold Fw; grind)|refine .ite (fun _=>?_) (fun _=>?_)
 obtain⟨ys,h,rfl⟩:=this;exact h
theorem RC (o:Int):L 4600 [o]=some [yW o]:=by
 have:bL 4600 [o] (fun ys=>ys= [yW o]):=by
  refine bL.of ?_;rw [ahd];simp only [afH,zz]
  repeat' first |(refine .out (congrArg (fun x=>[x]) ?_); unfold yW; grind)|refine .ite (fun _=>?_) (fun _=>?_)
 obtain⟨ys,h,rfl⟩:=this;exact h
theorem gF (n b:Int):bL 4500 [n,b] (cA (0<=n/\n<b)):=by refine bL.of ?_;rw [ahf];simp only [afJ,zz];exact .ite (fun _=> .out (bE J)) fun _=> .ite (fun _=> .out (bN J)) fun _=> .out (bE J)
theorem HN (k:Int):bL 1350 [k] (cA (k=3\/k=5\/k=8\/k=9)):=by
 refine bL.of ?_;rw [ahE];simp only [af2,zz]
 repeat' first |exact .out (bN J)|exact .out (bE J)|refine .ite (fun _=>?_) (fun _=>?_)
theorem Xz:(List.range 37).all (fun k=>Nat.ble 2 (Oq (k:Int)).l.length)=true:=aa
theorem H? (b:Int) (h0:0<=b) (U:b<256) (h:isLt b=true):L 1000 [enc (.p (.i b) (.i 0))]=some [1]:=by
 obtain⟨ys,hL,c,rfl,hc,Y⟩:=CP [b] (fun x Y=>by obtain rfl:=as5.1 Y; exact⟨h0,U⟩)
 have:c=1:=Y.2 ⟨ad,⟨ad,h⟩,fun x Y=>by obtain rfl:=as5.1 Y; simp only [yE,h,atf],fun⟨k,hk,q⟩=>by
  have:=aP.1 Xz _ (arE.2 hk);have:=arw this;rw [<- q,eN] at this
  simp at this⟩
 rw [this] at hL;exact hL
theorem anl:L 1000 [enc (.p (.i 97) (.i 0))]=some [1]:=H? 97 J J ae
theorem ank:L 1000 [enc (.p (.i 98) (.i 0))]=some [1]:=H? 98 J J ae
theorem CN:L 1000 [enc (.i 0)]=some [0]:=by
 obtain⟨ys,hL,c,rfl,hc,Y⟩:=CP [] (fun x Y=>by simp at Y)
 have: ¬c=1:=fun h=>by
  obtain⟨h0,_⟩:=(Y.1 h).2.1
  grind
 rw [show c=0 by omega] at hL;exact hL
theorem apJ: ¬(D.p (.i 98) (.i 0)= .i 0):=by intro h; cases h
theorem UR (k n z:Int):bL 1400 [k,enc (.p (.i 97) (.i 0)),n,enc (.i 0),z] (cA (1<=k/\k<=9/\k≠4/\0<=n/\(0<n->k=3\/k=5\/k=8\/k=9))):=by
 obtain⟨ys,hC,c,rfl,hc,Y⟩:=HN k;refine bL.of ?_;rw [VY];simp only [Uz,zz,anl,CN,hC]
 repeat' first |exact .out (bN J)|exact .out (bE J)|refine .ite (fun _=>?_) (fun _=>?_)
theorem Lr (k n z:Int):bL 1400 [k,enc (.p (.i 97) (.i 0)),n,enc (.p (.i 98) (.i 0)),z] (cA (k=4/\n=0)):=by
 obtain⟨ys,hC,c,rfl,hc,Y⟩:=HN k;refine bL.of ?_;rw [VY];simp only [Uz,zz,anl,ank,hC,nZ,apJ]
 repeat' first |exact .out (bN J)|exact .out (bE J)|refine .ite (fun _=>?_) (fun _=>?_)
theorem JA:L 1400 [1,enc (.p (.i 98) (.i 0)),0,enc (.i 0),0]=some [1]:=by
 have:bL 1400 [1,enc (.p (.i 98) (.i 0)),0,enc (.i 0),0] (fun ys=>ys= [1]):=by
  refine bL.of ?_;rw [VY];simp only [Uz,zz,ank]
  repeat' first |exact .out rfl|refine .ite (fun _=>?_) (fun _=>?_)|(exfalso; omega)|(exfalso; rename_i h; exact h rfl)
 obtain⟨ys,h,rfl⟩:=this;exact h
theorem LF:((dL [E1]).l.length:Int)=1:=rfl
def XA (P:Prop) (ys:List Int):Prop:= ∃b l,ys=b::l/\(b=0\/b=1)/\(b=1↔P)
theorem LK {P:Prop} {l:List Int} (h: ¬P):XA P (0::l):=⟨0,l,rfl,.inl rfl,fun h'=>absurd h' J,fun h'=>absurd h' h⟩
theorem LJ {P:Prop} {l:List Int} (h:P):XA P (1::l):=⟨1,l,rfl,.inr rfl,fun _=>h,fun _=>rfl⟩
def YE (k n:Int):Prop:=1<=k/\k<=9/\k≠4/\0<=n/\(0<n->k=3\/k=5\/k=8\/k=9)
theorem wa (k n op:Int):bL 12400 [k,n,0,0,op,0,0] (XA (YE k n/\1<=op/\op<=23/\Fw op=0/\yW op=0)):=by
 obtain⟨ys,U,o,rfl,ho,Y⟩:=UR k n 0;have Z:=sM op;have h3:=sD op;have qR:=eu op;have rR:=ew op;refine bL.of ?_;rw [ab1];simp only [q_,zz,U,Z,h3,CN,Fl];unfold YE
 repeat' first |exact .out (LK J)|exact .out (LJ J)|refine .ite (fun _=>?_) (fun _=>?_)
theorem v8 (k n op:Int):bL 12500 [k,n,0,0,op,0,0] (XA (YE k n/\1<=op/\op<=23/\Fw op=0/\yW op=1)):=by
 obtain⟨ys,U,o,rfl,ho,Y⟩:=UR k n 0;have Z:=sM op;have h3:=sD op;have qR:=eu op;have rR:=ew op;refine bL.of ?_;rw [abZ];simp only [p!,zz,U,Z,h3,CN,Fl];unfold YE
 repeat' first |exact .out (LK J)|exact .out (LJ J)|refine .ite (fun _=>?_) (fun _=>?_)
theorem Zs (k op:Int):bL 12450 [0,0,k,0,0,0,op,0,0] (XA (k=4/\1<=op/\op<=23/\Fw op=0/\yW op=0)):=by
 obtain⟨ys,U,o,rfl,ho,Y⟩:=Lr k 0 0;have Z:=sM op;have h3:=sD op;have qR:=eu op;have rR:=ew op;refine bL.of ?_;rw [ab0];simp only [p?,zz,U,Z,h3,CN,Fl,JA]
 repeat' first |exact .out (LK J)|exact .out (LJ J)|refine .ite (fun _=>?_) (fun _=>?_)
theorem Zr (k op:Int):bL 12550 [0,0,k,0,0,0,op,0,0] (XA (k=4/\1<=op/\op<=23/\Fw op=0/\yW op=1)):=by
 obtain⟨ys,U,o,rfl,ho,Y⟩:=Lr k 0 0;have Z:=sM op;have h3:=sD op;have qR:=eu op;have rR:=ew op;refine bL.of ?_;rw [abY];simp only [p_,zz,U,Z,h3,CN,Fl,JA]
 repeat' first |exact .out (LK J)|exact .out (LJ J)|refine .ite (fun _=>?_) (fun _=>?_)
def oh (P:Prop) (m k:Nat) (ys:List Int):Prop:=(¬(P/\m=1)/\∃l,ys=0::l)\/(P/\m=1/\low ys 0=1/\low ys k=1/\low ys (k+1)=enc (dL [E1]))
theorem v7 (m:Nat) (hm:1<=m) (k n op:Int):bL 12600 [k,n,0,0,op,0,enc (jS m),0] (oh (YE k n/\1<=op/\op<=23/\Fw op=1/\yW op=0) m 9):=by
 obtain⟨ys,U,o,rfl,ho,Y⟩:=UR k n 0;have Z:=sM op;have h3:=sD op;have qR:=eu op;have rR:=ew op;refine bL.of ?_;rw [abX];unfold oh YE;by_cases h:m=1
 ·subst h;have h5:=yo;simp only [Ri,zz,U,Z,h3,CN,jS,List.replicate,h5,LF]
  repeat' first |exact .out (.inl ⟨J,_,rfl⟩)|exact .out (.inr ⟨J,rfl,rfl,rfl⟩)|refine .ite (fun _=>?_) (fun _=>?_)
 ·have c1: ¬((m:Int)=Fw op):=J
  simp only [Ri,zz,U,Z,h3,CN,tF,c1]
  repeat' first |exact .out (.inl ⟨J,_,rfl⟩)|refine .ite (fun _=>?_) (fun _=>?_)
theorem vZ (m:Nat) (hm:1<=m) (k n op:Int):bL 12700 [k,n,0,0,op,0,enc (jS m),0] (oh (YE k n/\1<=op/\op<=23/\Fw op=1/\yW op=1) m 9):=by
 obtain⟨ys,U,o,rfl,ho,Y⟩:=UR k n 0;have Z:=sM op;have h3:=sD op;have qR:=eu op;have rR:=ew op;refine bL.of ?_;rw [abV];unfold oh YE;by_cases h:m=1
 ·subst h;have h5:=yo;simp only [Rg,zz,U,Z,h3,CN,jS,List.replicate,h5,LF]
  repeat' first |exact .out (.inl ⟨J,_,rfl⟩)|exact .out (.inr ⟨J,rfl,rfl,rfl⟩)|refine .ite (fun _=>?_) (fun _=>?_)
 ·have c1: ¬((m:Int)=Fw op):=J
  simp only [Rg,zz,U,Z,h3,CN,tF,c1]
  repeat' first |exact .out (.inl ⟨J,_,rfl⟩)|refine .ite (fun _=>?_) (fun _=>?_)
theorem Zq (m:Nat) (hm:1<=m) (k op:Int):bL 12650 [0,0,k,0,0,0,op,0,enc (jS m),0] (oh (k=4/\1<=op/\op<=23/\Fw op=1/\yW op=0) m 11):=by
 obtain⟨ys,U,o,rfl,ho,Y⟩:=Lr k 0 0;have Z:=sM op;have h3:=sD op;have qR:=eu op;have rR:=ew op;refine bL.of ?_;rw [abW];unfold oh;by_cases h:m=1
 ·subst h;have h5:=yo;simp only [Rh,zz,U,Z,h3,CN,JA,jS,List.replicate,h5,LF]
  repeat' first |exact .out (.inl ⟨J,_,rfl⟩)|exact .out (.inr ⟨J,rfl,rfl,rfl⟩)|refine .ite (fun _=>?_) (fun _=>?_)
 ·have c1: ¬((m:Int)=Fw op):=J
  simp only [Rh,zz,U,Z,h3,CN,JA,tF,c1]
  repeat' first |exact .out (.inl ⟨J,_,rfl⟩)|refine .ite (fun _=>?_) (fun _=>?_)
theorem Zp (m:Nat) (hm:1<=m) (k op:Int):bL 12750 [0,0,k,0,0,0,op,0,enc (jS m),0] (oh (k=4/\1<=op/\op<=23/\Fw op=1/\yW op=1) m 11):=by
 obtain⟨ys,U,o,rfl,ho,Y⟩:=Lr k 0 0;have Z:=sM op;have h3:=sD op;have qR:=eu op;have rR:=ew op;refine bL.of ?_;rw [abU];unfold oh;by_cases h:m=1
 ·subst h;have h5:=yo;simp only [Rf,zz,U,Z,h3,CN,JA,jS,List.replicate,h5,LF]
  repeat' first |exact .out (.inl ⟨J,_,rfl⟩)|exact .out (.inr ⟨J,rfl,rfl,rfl⟩)|refine .ite (fun _=>?_) (fun _=>?_)
 ·have c1: ¬((m:Int)=Fw op):=J
  simp only [Rf,zz,U,Z,h3,CN,JA,tF,c1]
  repeat' first |exact .out (.inl ⟨J,_,rfl⟩)|refine .ite (fun _=>?_) (fun _=>?_)
def bM (k op je:Int) (m:Nat) (loc:Int):Prop:=1<=op/\op<=23/\k=YI op/\(m:Int)=Fw op/\((je= -1/\yW op=0)\/(je≠-1/\yW op=1/\loc≠0))
theorem dB:((D.i 0).l.length:Int)=0:=rfl
theorem cE (k:D):((vM (D.i 0).l k (.i 1)).length:Int)=1:=rfl
theorem kY {k:Int}:YE k 1↔k=3\/k=5\/k=8\/k=9:=by unfold YE; omega
theorem DV {k:Int}:YE k 0↔1<=k/\k<=9/\k≠4:=by unfold YE; omega
theorem ajl (x0 x2 x3 x4 x5 x6 x7 x8:Int) (hn:x5= -1) (hk:x0=3):bL 951 [x0,0,x2,x3,x4,x5,x6,x7,x8] (cA (bM x0 x3 x5 0 0)):=by
 subst hk;obtain⟨ys,a1,b1,l1,rfl,f1,g1⟩:=wa 3 1 x3;rw [kY] at g1;have a7:=gv x3;have k9:=ei x3;have rR:=ew x3;have qR:=eu x3;refine bL.of ?_;rw [EK];simp only [Ez,zz,aw,hn,a1,a7,jP,jO,dB,cE,bz,Int.reduceLT,Int.reduceEq]
 repeat' first |exact .out (bE (by unfold bM; omega))|exact .out (bN (by unfold bM; omega))|refine .ite (fun _=>?_) (fun _=>?_)|(exfalso; omega)
theorem aji (x0 x2 x3 x4 x5 x6 x7 x8:Int) (hn:x5= -1) (hk:x0=8):bL 951 [x0,0,x2,x3,x4,x5,x6,x7,x8] (cA (bM x0 x3 x5 0 0)):=by
 subst hk;obtain⟨ys,a1,b1,l1,rfl,f1,g1⟩:=wa 8 1 x3;rw [kY] at g1;have a7:=gv x3;have k9:=ei x3;have rR:=ew x3;have qR:=eu x3;refine bL.of ?_;rw [EK];simp only [Ez,zz,aw,hn,a1,a7,jP,jO,dB,cE,bz,Int.reduceLT,Int.reduceEq]
 repeat' first |exact .out (bE (by unfold bM; omega))|exact .out (bN (by unfold bM; omega))|refine .ite (fun _=>?_) (fun _=>?_)|(exfalso; omega)
theorem ajj (x0 x2 x3 x4 x5 x6 x7 x8:Int) (hn:x5= -1) (hk:x0=5):bL 951 [x0,0,x2,x3,x4,x5,x6,x7,x8] (cA (bM x0 x3 x5 0 0)):=by
 subst hk;obtain⟨ys,a1,b1,l1,rfl,f1,g1⟩:=wa 5 1 x3;rw [kY] at g1;have a7:=gv x3;have k9:=ei x3;have rR:=ew x3;have qR:=eu x3;refine bL.of ?_;rw [EK];simp only [Ez,zz,aw,hn,a1,a7,jP,jO,dB,cE,bz,Int.reduceLT,Int.reduceEq]
 repeat' first |exact .out (bE (by unfold bM; omega))|exact .out (bN (by unfold bM; omega))|refine .ite (fun _=>?_) (fun _=>?_)|(exfalso; omega)
theorem ajk (x0 x2 x3 x4 x5 x6 x7 x8:Int) (hn:x5= -1) (hk:x0=4):bL 951 [x0,0,x2,x3,x4,x5,x6,x7,x8] (cA (bM x0 x3 x5 0 0)):=by
 subst hk;obtain⟨ys,a1,b1,l1,rfl,f1,g1⟩:=Zs 4 x3;have a7:=gv x3;have k9:=ei x3;have rR:=ew x3;have qR:=eu x3;refine bL.of ?_;rw [EK];simp only [Ez,zz,aw,hn,a1,a7,jP,jO,dB,cE,bz,Int.reduceLT,Int.reduceEq]
 repeat' first |exact .out (bE (by unfold bM; omega))|exact .out (bN (by unfold bM; omega))|refine .ite (fun _=>?_) (fun _=>?_)|(exfalso; omega)
theorem ajm (x0 x2 x3 x4 x5 x6 x7 x8:Int) (hn:x5= -1) (h3:x0≠3) (h8:x0≠8) (h5:x0≠5) (h4:x0≠4):bL 951 [x0,0,x2,x3,x4,x5,x6,x7,x8] (cA (bM x0 x3 x5 0 0)):=by
 obtain⟨ys,a1,b1,l1,rfl,f1,g1⟩:=wa x0 0 x3;rw [DV] at g1;have a7:=gv x3;have k9:=ei x3;have rR:=ew x3;have qR:=eu x3;refine bL.of ?_;rw [EK];simp only [Ez,zz,aw,hn,h3,h8,h5,h4,a1,a7,jP,jO,dB,cE,bz,Int.reduceLT,Int.reduceEq]
 repeat' first |exact .out (bE (by unfold bM; omega))|exact .out (bN (by unfold bM; omega))|refine .ite (fun _=>?_) (fun _=>?_)|(exfalso; omega)
theorem ajg (x0 x2 x3 x4 x5 x6 x7 x8:Int) (hn:x5≠-1) (hk:x0=3):bL 951 [x0,0,x2,x3,x4,x5,x6,x7,x8] (cA (bM x0 x3 x5 0 0)):=by
 subst hk;obtain⟨ys,a1,b1,l1,rfl,f1,g1⟩:=v8 3 1 x3;rw [kY] at g1;have a7:=gv x3;have k9:=ei x3;have rR:=ew x3;have qR:=eu x3;refine bL.of ?_;rw [EK];simp only [Ez,zz,aw,hn,a1,a7,jP,jO,dB,cE,bz,Int.reduceLT,Int.reduceEq]
 repeat' first |exact .out (bE (by unfold bM; omega))|exact .out (bN (by unfold bM; omega))|refine .ite (fun _=>?_) (fun _=>?_)|(exfalso; omega)
theorem ajd (x0 x2 x3 x4 x5 x6 x7 x8:Int) (hn:x5≠-1) (hk:x0=8):bL 951 [x0,0,x2,x3,x4,x5,x6,x7,x8] (cA (bM x0 x3 x5 0 0)):=by
 subst hk;obtain⟨ys,a1,b1,l1,rfl,f1,g1⟩:=v8 8 1 x3;rw [kY] at g1;have a7:=gv x3;have k9:=ei x3;have rR:=ew x3;have qR:=eu x3;refine bL.of ?_;rw [EK];simp only [Ez,zz,aw,hn,a1,a7,jP,jO,dB,cE,bz,Int.reduceLT,Int.reduceEq]
 repeat' first |exact .out (bE (by unfold bM; omega))|exact .out (bN (by unfold bM; omega))|refine .ite (fun _=>?_) (fun _=>?_)|(exfalso; omega)
theorem aje (x0 x2 x3 x4 x5 x6 x7 x8:Int) (hn:x5≠-1) (hk:x0=5):bL 951 [x0,0,x2,x3,x4,x5,x6,x7,x8] (cA (bM x0 x3 x5 0 0)):=by
 subst hk;obtain⟨ys,a1,b1,l1,rfl,f1,g1⟩:=v8 5 1 x3;rw [kY] at g1;have a7:=gv x3;have k9:=ei x3;have rR:=ew x3;have qR:=eu x3;refine bL.of ?_;rw [EK];simp only [Ez,zz,aw,hn,a1,a7,jP,jO,dB,cE,bz,Int.reduceLT,Int.reduceEq]
 repeat' first |exact .out (bE (by unfold bM; omega))|exact .out (bN (by unfold bM; omega))|refine .ite (fun _=>?_) (fun _=>?_)|(exfalso; omega)
theorem ajf (x0 x2 x3 x4 x5 x6 x7 x8:Int) (hn:x5≠-1) (hk:x0=4):bL 951 [x0,0,x2,x3,x4,x5,x6,x7,x8] (cA (bM x0 x3 x5 0 0)):=by
 subst hk;obtain⟨ys,a1,b1,l1,rfl,f1,g1⟩:=Zr 4 x3;have a7:=gv x3;have k9:=ei x3;have rR:=ew x3;have qR:=eu x3;refine bL.of ?_;rw [EK];simp only [Ez,zz,aw,hn,a1,a7,jP,jO,dB,cE,bz,Int.reduceLT,Int.reduceEq]
 repeat' first |exact .out (bE (by unfold bM; omega))|exact .out (bN (by unfold bM; omega))|refine .ite (fun _=>?_) (fun _=>?_)|(exfalso; omega)
theorem ajh (x0 x2 x3 x4 x5 x6 x7 x8:Int) (hn:x5≠-1) (h3:x0≠3) (h8:x0≠8) (h5:x0≠5) (h4:x0≠4):bL 951 [x0,0,x2,x3,x4,x5,x6,x7,x8] (cA (bM x0 x3 x5 0 0)):=by
 obtain⟨ys,a1,b1,l1,rfl,f1,g1⟩:=v8 x0 0 x3;rw [DV] at g1;have a7:=gv x3;have k9:=ei x3;have rR:=ew x3;have qR:=eu x3;refine bL.of ?_;rw [EK];simp only [Ez,zz,aw,hn,h3,h8,h5,h4,a1,a7,jP,jO,dB,cE,bz,Int.reduceLT,Int.reduceEq]
 repeat' first |exact .out (bE (by unfold bM; omega))|exact .out (bN (by unfold bM; omega))|refine .ite (fun _=>?_) (fun _=>?_)|(exfalso; omega)
theorem apf (x0 x2 x3 x4 x5 x6 x7 x8:Int):bL 951 [x0,0,x2,x3,x4,x5,x6,x7,x8] (cA (bM x0 x3 x5 0 0)):=by
 by_cases hn:x5= -1
 ·
  by_cases h3:x0=3
  ·exact ajl x0 x2 x3 x4 x5 x6 x7 x8 hn h3
  by_cases h8:x0=8
  ·exact aji x0 x2 x3 x4 x5 x6 x7 x8 hn h8
  by_cases h5:x0=5
  ·exact ajj x0 x2 x3 x4 x5 x6 x7 x8 hn h5
  by_cases h4:x0=4
  ·exact ajk x0 x2 x3 x4 x5 x6 x7 x8 hn h4
  exact ajm x0 x2 x3 x4 x5 x6 x7 x8 hn h3 h8 h5 h4
 grind [ajg,ajd,aje,ajf,ajh]
theorem ajb (x0 x2 x3 x4 x5 x6 x7 x8:Int) (hn:x5= -1) (hk:x0=3):bL 952 [x0,0,x2,x3,x4,x5,x6,x7,x8] (cA (bM x0 x3 x5 0 1)):=by
 subst hk;obtain⟨ys,a1,b1,l1,rfl,f1,g1⟩:=wa 3 1 x3;rw [kY] at g1;have a7:=gv x3;have k9:=ei x3;have rR:=ew x3;have qR:=eu x3;refine bL.of ?_;rw [EJ];simp only [Ey,zz,aw,hn,a1,a7,jP,jO,dB,cE,bz,Int.reduceLT,Int.reduceEq]
 repeat' first |exact .out (bE (by unfold bM; omega))|exact .out (bN (by unfold bM; omega))|refine .ite (fun _=>?_) (fun _=>?_)|(exfalso; omega)
theorem ai8 (x0 x2 x3 x4 x5 x6 x7 x8:Int) (hn:x5= -1) (hk:x0=8):bL 952 [x0,0,x2,x3,x4,x5,x6,x7,x8] (cA (bM x0 x3 x5 0 1)):=by
 subst hk;obtain⟨ys,a1,b1,l1,rfl,f1,g1⟩:=wa 8 1 x3;rw [kY] at g1;have a7:=gv x3;have k9:=ei x3;have rR:=ew x3;have qR:=eu x3;refine bL.of ?_;rw [EJ];simp only [Ey,zz,aw,hn,a1,a7,jP,jO,dB,cE,bz,Int.reduceLT,Int.reduceEq]
 repeat' first |exact .out (bE (by unfold bM; omega))|exact .out (bN (by unfold bM; omega))|refine .ite (fun _=>?_) (fun _=>?_)|(exfalso; omega)
theorem ai9 (x0 x2 x3 x4 x5 x6 x7 x8:Int) (hn:x5= -1) (hk:x0=5):bL 952 [x0,0,x2,x3,x4,x5,x6,x7,x8] (cA (bM x0 x3 x5 0 1)):=by
 subst hk;obtain⟨ys,a1,b1,l1,rfl,f1,g1⟩:=wa 5 1 x3;rw [kY] at g1;have a7:=gv x3;have k9:=ei x3;have rR:=ew x3;have qR:=eu x3;refine bL.of ?_;rw [EJ];simp only [Ey,zz,aw,hn,a1,a7,jP,jO,dB,cE,bz,Int.reduceLT,Int.reduceEq]
 repeat' first |exact .out (bE (by unfold bM; omega))|exact .out (bN (by unfold bM; omega))|refine .ite (fun _=>?_) (fun _=>?_)|(exfalso; omega)
theorem aja (x0 x2 x3 x4 x5 x6 x7 x8:Int) (hn:x5= -1) (hk:x0=4):bL 952 [x0,0,x2,x3,x4,x5,x6,x7,x8] (cA (bM x0 x3 x5 0 1)):=by
 subst hk;obtain⟨ys,a1,b1,l1,rfl,f1,g1⟩:=Zs 4 x3;have a7:=gv x3;have k9:=ei x3;have rR:=ew x3;have qR:=eu x3;refine bL.of ?_;rw [EJ];simp only [Ey,zz,aw,hn,a1,a7,jP,jO,dB,cE,bz,Int.reduceLT,Int.reduceEq]
 repeat' first |exact .out (bE (by unfold bM; omega))|exact .out (bN (by unfold bM; omega))|refine .ite (fun _=>?_) (fun _=>?_)|(exfalso; omega)
theorem ajc (x0 x2 x3 x4 x5 x6 x7 x8:Int) (hn:x5= -1) (h3:x0≠3) (h8:x0≠8) (h5:x0≠5) (h4:x0≠4):bL 952 [x0,0,x2,x3,x4,x5,x6,x7,x8] (cA (bM x0 x3 x5 0 1)):=by
 obtain⟨ys,a1,b1,l1,rfl,f1,g1⟩:=wa x0 0 x3;rw [DV] at g1;have a7:=gv x3;have k9:=ei x3;have rR:=ew x3;have qR:=eu x3;refine bL.of ?_;rw [EJ];simp only [Ey,zz,aw,hn,h3,h8,h5,h4,a1,a7,jP,jO,dB,cE,bz,Int.reduceLT,Int.reduceEq]
 repeat' first |exact .out (bE (by unfold bM; omega))|exact .out (bN (by unfold bM; omega))|refine .ite (fun _=>?_) (fun _=>?_)|(exfalso; omega)
theorem ai6 (x0 x2 x3 x4 x5 x6 x7 x8:Int) (hn:x5≠-1) (hk:x0=3):bL 952 [x0,0,x2,x3,x4,x5,x6,x7,x8] (cA (bM x0 x3 x5 0 1)):=by
 subst hk;obtain⟨ys,a1,b1,l1,rfl,f1,g1⟩:=v8 3 1 x3;rw [kY] at g1;have a7:=gv x3;have k9:=ei x3;have rR:=ew x3;have qR:=eu x3;refine bL.of ?_;rw [EJ];simp only [Ey,zz,aw,hn,a1,a7,jP,jO,dB,cE,bz,Int.reduceLT,Int.reduceEq]
 repeat' first |exact .out (bE (by unfold bM; omega))|exact .out (bN (by unfold bM; omega))|refine .ite (fun _=>?_) (fun _=>?_)|(exfalso; omega)
theorem ai3 (x0 x2 x3 x4 x5 x6 x7 x8:Int) (hn:x5≠-1) (hk:x0=8):bL 952 [x0,0,x2,x3,x4,x5,x6,x7,x8] (cA (bM x0 x3 x5 0 1)):=by
 subst hk;obtain⟨ys,a1,b1,l1,rfl,f1,g1⟩:=v8 8 1 x3;rw [kY] at g1;have a7:=gv x3;have k9:=ei x3;have rR:=ew x3;have qR:=eu x3;refine bL.of ?_;rw [EJ];simp only [Ey,zz,aw,hn,a1,a7,jP,jO,dB,cE,bz,Int.reduceLT,Int.reduceEq]
 repeat' first |exact .out (bE (by unfold bM; omega))|exact .out (bN (by unfold bM; omega))|refine .ite (fun _=>?_) (fun _=>?_)|(exfalso; omega)
theorem ai4 (x0 x2 x3 x4 x5 x6 x7 x8:Int) (hn:x5≠-1) (hk:x0=5):bL 952 [x0,0,x2,x3,x4,x5,x6,x7,x8] (cA (bM x0 x3 x5 0 1)):=by
 subst hk;obtain⟨ys,a1,b1,l1,rfl,f1,g1⟩:=v8 5 1 x3;rw [kY] at g1;have a7:=gv x3;have k9:=ei x3;have rR:=ew x3;have qR:=eu x3;refine bL.of ?_;rw [EJ];simp only [Ey,zz,aw,hn,a1,a7,jP,jO,dB,cE,bz,Int.reduceLT,Int.reduceEq]
 repeat' first |exact .out (bE (by unfold bM; omega))|exact .out (bN (by unfold bM; omega))|refine .ite (fun _=>?_) (fun _=>?_)|(exfalso; omega)
theorem ai5 (x0 x2 x3 x4 x5 x6 x7 x8:Int) (hn:x5≠-1) (hk:x0=4):bL 952 [x0,0,x2,x3,x4,x5,x6,x7,x8] (cA (bM x0 x3 x5 0 1)):=by
 subst hk;obtain⟨ys,a1,b1,l1,rfl,f1,g1⟩:=Zr 4 x3;have a7:=gv x3;have k9:=ei x3;have rR:=ew x3;have qR:=eu x3;refine bL.of ?_;rw [EJ];simp only [Ey,zz,aw,hn,a1,a7,jP,jO,dB,cE,bz,Int.reduceLT,Int.reduceEq]
 repeat' first |exact .out (bE (by unfold bM; omega))|exact .out (bN (by unfold bM; omega))|refine .ite (fun _=>?_) (fun _=>?_)|(exfalso; omega)
theorem ai7 (x0 x2 x3 x4 x5 x6 x7 x8:Int) (hn:x5≠-1) (h3:x0≠3) (h8:x0≠8) (h5:x0≠5) (h4:x0≠4):bL 952 [x0,0,x2,x3,x4,x5,x6,x7,x8] (cA (bM x0 x3 x5 0 1)):=by
 obtain⟨ys,a1,b1,l1,rfl,f1,g1⟩:=v8 x0 0 x3;rw [DV] at g1;have a7:=gv x3;have k9:=ei x3;have rR:=ew x3;have qR:=eu x3;refine bL.of ?_;rw [EJ];simp only [Ey,zz,aw,hn,h3,h8,h5,h4,a1,a7,jP,jO,dB,cE,bz,Int.reduceLT,Int.reduceEq]
 repeat' first |exact .out (bE (by unfold bM; omega))|exact .out (bN (by unfold bM; omega))|refine .ite (fun _=>?_) (fun _=>?_)|(exfalso; omega)
theorem ape (x0 x2 x3 x4 x5 x6 x7 x8:Int):bL 952 [x0,0,x2,x3,x4,x5,x6,x7,x8] (cA (bM x0 x3 x5 0 1)):=by
 by_cases hn:x5= -1
 ·
  by_cases h3:x0=3
  ·exact ajb x0 x2 x3 x4 x5 x6 x7 x8 hn h3
  by_cases h8:x0=8
  ·exact ai8 x0 x2 x3 x4 x5 x6 x7 x8 hn h8
  by_cases h5:x0=5
  ·exact ai9 x0 x2 x3 x4 x5 x6 x7 x8 hn h5
  by_cases h4:x0=4
  ·exact aja x0 x2 x3 x4 x5 x6 x7 x8 hn h4
  exact ajc x0 x2 x3 x4 x5 x6 x7 x8 hn h3 h8 h5 h4
 grind [ai6,ai3,ai4,ai5,ai7]
theorem ai1 (m:Nat) (hm:1<=m) (x0 x3 x4 x5 x6 x7 x8 x9:Int) (hn:x6= -1) (hk:x0=3):bL 953 [x0,(m:Int),(m:Int),x3,x4,x5,x6,x7,x8,x9,enc (jS m)] (cA (bM x0 x4 x6 m 0)):=by
 subst hk;obtain⟨ys,a1,g1⟩:=v7 m hm 3 1 x4;unfold oh at g1;rw [kY] at g1;have a7:=gv x4;have k9:=ei x4;have rR:=ew x4;have qR:=eu x4;refine bL.of ?_;rw [EI];rcases g1 with ⟨p1,l1,rfl⟩|⟨p1,m1,q1,r1,s1⟩
 ·simp only [rX,zz,aw,hn,a1,a7,e8,eZ,dB,cE,bz,Int.reduceLT,Int.reduceEq,aL]
  repeat' first |exact .out (bE (by unfold bM; omega))|exact .out (bN (by unfold bM; omega))|refine .ite (fun _=>?_) (fun _=>?_)|(exfalso; omega)
 ·subst m1;simp only [rX,zz,aw,hn,a1,a7,q1,r1,s1,e8,eZ,dB,cE,bz,Int.reduceLT,Int.reduceEq,aL]
  repeat' first |exact .out (bE (by unfold bM; omega))|exact .out (bN (by unfold bM; omega))|refine .ite (fun _=>?_) (fun _=>?_)|(exfalso; omega)
theorem aiY (m:Nat) (hm:1<=m) (x0 x3 x4 x5 x6 x7 x8 x9:Int) (hn:x6= -1) (hk:x0=8):bL 953 [x0,(m:Int),(m:Int),x3,x4,x5,x6,x7,x8,x9,enc (jS m)] (cA (bM x0 x4 x6 m 0)):=by
 subst hk;obtain⟨ys,a1,g1⟩:=v7 m hm 8 1 x4;unfold oh at g1;rw [kY] at g1;have a7:=gv x4;have k9:=ei x4;have rR:=ew x4;have qR:=eu x4;refine bL.of ?_;rw [EI];rcases g1 with ⟨p1,l1,rfl⟩|⟨p1,m1,q1,r1,s1⟩
 ·simp only [rX,zz,aw,hn,a1,a7,e8,eZ,dB,cE,bz,Int.reduceLT,Int.reduceEq,aL]
  repeat' first |exact .out (bE (by unfold bM; omega))|exact .out (bN (by unfold bM; omega))|refine .ite (fun _=>?_) (fun _=>?_)|(exfalso; omega)
 ·subst m1;simp only [rX,zz,aw,hn,a1,a7,q1,r1,s1,e8,eZ,dB,cE,bz,Int.reduceLT,Int.reduceEq,aL]
  repeat' first |exact .out (bE (by unfold bM; omega))|exact .out (bN (by unfold bM; omega))|refine .ite (fun _=>?_) (fun _=>?_)|(exfalso; omega)
theorem aiZ (m:Nat) (hm:1<=m) (x0 x3 x4 x5 x6 x7 x8 x9:Int) (hn:x6= -1) (hk:x0=5):bL 953 [x0,(m:Int),(m:Int),x3,x4,x5,x6,x7,x8,x9,enc (jS m)] (cA (bM x0 x4 x6 m 0)):=by
 subst hk;obtain⟨ys,a1,g1⟩:=v7 m hm 5 1 x4;unfold oh at g1;rw [kY] at g1;have a7:=gv x4;have k9:=ei x4;have rR:=ew x4;have qR:=eu x4;refine bL.of ?_;rw [EI];rcases g1 with ⟨p1,l1,rfl⟩|⟨p1,m1,q1,r1,s1⟩
 ·simp only [rX,zz,aw,hn,a1,a7,e8,eZ,dB,cE,bz,Int.reduceLT,Int.reduceEq,aL]
  repeat' first |exact .out (bE (by unfold bM; omega))|exact .out (bN (by unfold bM; omega))|refine .ite (fun _=>?_) (fun _=>?_)|(exfalso; omega)
 ·subst m1;simp only [rX,zz,aw,hn,a1,a7,q1,r1,s1,e8,eZ,dB,cE,bz,Int.reduceLT,Int.reduceEq,aL]
  repeat' first |exact .out (bE (by unfold bM; omega))|exact .out (bN (by unfold bM; omega))|refine .ite (fun _=>?_) (fun _=>?_)|(exfalso; omega)
theorem ai0 (m:Nat) (hm:1<=m) (x0 x3 x4 x5 x6 x7 x8 x9:Int) (hn:x6= -1) (hk:x0=4):bL 953 [x0,(m:Int),(m:Int),x3,x4,x5,x6,x7,x8,x9,enc (jS m)] (cA (bM x0 x4 x6 m 0)):=by
 subst hk;obtain⟨ys,a1,g1⟩:=Zq m hm 4 x4;unfold oh at g1;have a7:=gv x4;have k9:=ei x4;have rR:=ew x4;have qR:=eu x4;refine bL.of ?_;rw [EI];rcases g1 with ⟨p1,l1,rfl⟩|⟨p1,m1,q1,r1,s1⟩
 ·simp only [rX,zz,aw,hn,a1,a7,e8,eZ,dB,cE,bz,Int.reduceLT,Int.reduceEq,aL]
  repeat' first |exact .out (bE (by unfold bM; omega))|exact .out (bN (by unfold bM; omega))|refine .ite (fun _=>?_) (fun _=>?_)|(exfalso; omega)
 ·subst m1;simp only [rX,zz,aw,hn,a1,a7,q1,r1,s1,e8,eZ,dB,cE,bz,Int.reduceLT,Int.reduceEq,aL]
  repeat' first |exact .out (bE (by unfold bM; omega))|exact .out (bN (by unfold bM; omega))|refine .ite (fun _=>?_) (fun _=>?_)|(exfalso; omega)
theorem ai2 (m:Nat) (hm:1<=m) (x0 x3 x4 x5 x6 x7 x8 x9:Int) (hn:x6= -1) (h3:x0≠3) (h8:x0≠8) (h5:x0≠5) (h4:x0≠4):bL 953 [x0,(m:Int),(m:Int),x3,x4,x5,x6,x7,x8,x9,enc (jS m)] (cA (bM x0 x4 x6 m 0)):=by
 obtain⟨ys,a1,g1⟩:=v7 m hm x0 0 x4;unfold oh at g1;rw [DV] at g1;have a7:=gv x4;have k9:=ei x4;have rR:=ew x4;have qR:=eu x4;refine bL.of ?_;rw [EI];rcases g1 with ⟨p1,l1,rfl⟩|⟨p1,m1,q1,r1,s1⟩
 ·simp only [rX,zz,aw,hn,h3,h8,h5,h4,a1,a7,e8,eZ,dB,cE,bz,Int.reduceLT,Int.reduceEq,aL]
  repeat' first |exact .out (bE (by unfold bM; omega))|exact .out (bN (by unfold bM; omega))|refine .ite (fun _=>?_) (fun _=>?_)|(exfalso; omega)
 ·subst m1;simp only [rX,zz,aw,hn,h3,h8,h5,h4,a1,a7,q1,r1,s1,e8,eZ,dB,cE,bz,Int.reduceLT,Int.reduceEq,aL]
  repeat' first |exact .out (bE (by unfold bM; omega))|exact .out (bN (by unfold bM; omega))|refine .ite (fun _=>?_) (fun _=>?_)|(exfalso; omega)
theorem aiW (m:Nat) (hm:1<=m) (x0 x3 x4 x5 x6 x7 x8 x9:Int) (hn:x6≠-1) (hk:x0=3):bL 953 [x0,(m:Int),(m:Int),x3,x4,x5,x6,x7,x8,x9,enc (jS m)] (cA (bM x0 x4 x6 m 0)):=by
 subst hk;obtain⟨ys,a1,g1⟩:=vZ m hm 3 1 x4;unfold oh at g1;rw [kY] at g1;have a7:=gv x4;have k9:=ei x4;have rR:=ew x4;have qR:=eu x4;refine bL.of ?_;rw [EI];rcases g1 with ⟨p1,l1,rfl⟩|⟨p1,m1,q1,r1,s1⟩
 ·simp only [rX,zz,aw,hn,a1,a7,e8,eZ,dB,cE,bz,Int.reduceLT,Int.reduceEq,aL]
  repeat' first |exact .out (bE (by unfold bM; omega))|exact .out (bN (by unfold bM; omega))|refine .ite (fun _=>?_) (fun _=>?_)|(exfalso; omega)
 ·subst m1;simp only [rX,zz,aw,hn,a1,a7,q1,r1,s1,e8,eZ,dB,cE,bz,Int.reduceLT,Int.reduceEq,aL]
  repeat' first |exact .out (bE (by unfold bM; omega))|exact .out (bN (by unfold bM; omega))|refine .ite (fun _=>?_) (fun _=>?_)|(exfalso; omega)
theorem aiT (m:Nat) (hm:1<=m) (x0 x3 x4 x5 x6 x7 x8 x9:Int) (hn:x6≠-1) (hk:x0=8):bL 953 [x0,(m:Int),(m:Int),x3,x4,x5,x6,x7,x8,x9,enc (jS m)] (cA (bM x0 x4 x6 m 0)):=by
 subst hk;obtain⟨ys,a1,g1⟩:=vZ m hm 8 1 x4;unfold oh at g1;rw [kY] at g1;have a7:=gv x4;have k9:=ei x4;have rR:=ew x4;have qR:=eu x4;refine bL.of ?_;rw [EI];rcases g1 with ⟨p1,l1,rfl⟩|⟨p1,m1,q1,r1,s1⟩
 ·simp only [rX,zz,aw,hn,a1,a7,e8,eZ,dB,cE,bz,Int.reduceLT,Int.reduceEq,aL]
  repeat' first |exact .out (bE (by unfold bM; omega))|exact .out (bN (by unfold bM; omega))|refine .ite (fun _=>?_) (fun _=>?_)|(exfalso; omega)
 ·subst m1;simp only [rX,zz,aw,hn,a1,a7,q1,r1,s1,e8,eZ,dB,cE,bz,Int.reduceLT,Int.reduceEq,aL]
  repeat' first |exact .out (bE (by unfold bM; omega))|exact .out (bN (by unfold bM; omega))|refine .ite (fun _=>?_) (fun _=>?_)|(exfalso; omega)
theorem aiU (m:Nat) (hm:1<=m) (x0 x3 x4 x5 x6 x7 x8 x9:Int) (hn:x6≠-1) (hk:x0=5):bL 953 [x0,(m:Int),(m:Int),x3,x4,x5,x6,x7,x8,x9,enc (jS m)] (cA (bM x0 x4 x6 m 0)):=by
 subst hk;obtain⟨ys,a1,g1⟩:=vZ m hm 5 1 x4;unfold oh at g1;rw [kY] at g1;have a7:=gv x4;have k9:=ei x4;have rR:=ew x4;have qR:=eu x4;refine bL.of ?_;rw [EI];rcases g1 with ⟨p1,l1,rfl⟩|⟨p1,m1,q1,r1,s1⟩
 ·simp only [rX,zz,aw,hn,a1,a7,e8,eZ,dB,cE,bz,Int.reduceLT,Int.reduceEq,aL]
  repeat' first |exact .out (bE (by unfold bM; omega))|exact .out (bN (by unfold bM; omega))|refine .ite (fun _=>?_) (fun _=>?_)|(exfalso; omega)
 ·subst m1;simp only [rX,zz,aw,hn,a1,a7,q1,r1,s1,e8,eZ,dB,cE,bz,Int.reduceLT,Int.reduceEq,aL]
  repeat' first |exact .out (bE (by unfold bM; omega))|exact .out (bN (by unfold bM; omega))|refine .ite (fun _=>?_) (fun _=>?_)|(exfalso; omega)
theorem aiV (m:Nat) (hm:1<=m) (x0 x3 x4 x5 x6 x7 x8 x9:Int) (hn:x6≠-1) (hk:x0=4):bL 953 [x0,(m:Int),(m:Int),x3,x4,x5,x6,x7,x8,x9,enc (jS m)] (cA (bM x0 x4 x6 m 0)):=by
 subst hk;obtain⟨ys,a1,g1⟩:=Zp m hm 4 x4;unfold oh at g1;have a7:=gv x4;have k9:=ei x4;have rR:=ew x4;have qR:=eu x4;refine bL.of ?_;rw [EI];rcases g1 with ⟨p1,l1,rfl⟩|⟨p1,m1,q1,r1,s1⟩
 ·simp only [rX,zz,aw,hn,a1,a7,e8,eZ,dB,cE,bz,Int.reduceLT,Int.reduceEq,aL]
  repeat' first |exact .out (bE (by unfold bM; omega))|exact .out (bN (by unfold bM; omega))|refine .ite (fun _=>?_) (fun _=>?_)|(exfalso; omega)
 ·subst m1;simp only [rX,zz,aw,hn,a1,a7,q1,r1,s1,e8,eZ,dB,cE,bz,Int.reduceLT,Int.reduceEq,aL]
  repeat' first |exact .out (bE (by unfold bM; omega))|exact .out (bN (by unfold bM; omega))|refine .ite (fun _=>?_) (fun _=>?_)|(exfalso; omega)
theorem aiX (m:Nat) (hm:1<=m) (x0 x3 x4 x5 x6 x7 x8 x9:Int) (hn:x6≠-1) (h3:x0≠3) (h8:x0≠8) (h5:x0≠5) (h4:x0≠4):bL 953 [x0,(m:Int),(m:Int),x3,x4,x5,x6,x7,x8,x9,enc (jS m)] (cA (bM x0 x4 x6 m 0)):=by
 obtain⟨ys,a1,g1⟩:=vZ m hm x0 0 x4;unfold oh at g1;rw [DV] at g1;have a7:=gv x4;have k9:=ei x4;have rR:=ew x4;have qR:=eu x4;refine bL.of ?_;rw [EI];rcases g1 with ⟨p1,l1,rfl⟩|⟨p1,m1,q1,r1,s1⟩
 ·simp only [rX,zz,aw,hn,h3,h8,h5,h4,a1,a7,e8,eZ,dB,cE,bz,Int.reduceLT,Int.reduceEq,aL]
  repeat' first |exact .out (bE (by unfold bM; omega))|exact .out (bN (by unfold bM; omega))|refine .ite (fun _=>?_) (fun _=>?_)|(exfalso; omega)
 ·subst m1;simp only [rX,zz,aw,hn,h3,h8,h5,h4,a1,a7,q1,r1,s1,e8,eZ,dB,cE,bz,Int.reduceLT,Int.reduceEq,aL]
  repeat' first |exact .out (bE (by unfold bM; omega))|exact .out (bN (by unfold bM; omega))|refine .ite (fun _=>?_) (fun _=>?_)|(exfalso; omega)
theorem amj (m:Nat) (hm:1<=m) (x0 x3 x4 x5 x6 x7 x8 x9:Int):bL 953 [x0,(m:Int),(m:Int),x3,x4,x5,x6,x7,x8,x9,enc (jS m)] (cA (bM x0 x4 x6 m 0)):=by
 by_cases hn:x6= -1
 ·
  by_cases h3:x0=3
  ·exact ai1 m hm x0 x3 x4 x5 x6 x7 x8 x9 hn h3
  by_cases h8:x0=8
  ·exact aiY m hm x0 x3 x4 x5 x6 x7 x8 x9 hn h8
  by_cases h5:x0=5
  ·exact aiZ m hm x0 x3 x4 x5 x6 x7 x8 x9 hn h5
  by_cases h4:x0=4
  ·exact ai0 m hm x0 x3 x4 x5 x6 x7 x8 x9 hn h4
  exact ai2 m hm x0 x3 x4 x5 x6 x7 x8 x9 hn h3 h8 h5 h4
 grind [aiW,aiT,aiU,aiV,aiX]
theorem amk (M:Nat) (hM:M<=2513169434915) (x0 x3 x4 x5 x6 x7 x8 x9:Int): ∀(j m:Nat),m+j=M->1<=m->bL 953 [x0,(M:Int),(m:Int),x3,x4,x5,x6,x7,x8,x9,enc (jS m)] (cA (bM x0 x4 x6 M 0))
 |0,m,U,Z=>by
  grind [amj]
 |j+1,m,U,Z=>by
  have ih:=amk M hM x0 x3 x4 x5 x6 x7 x8 x9 j (m+1) J J;have c1:(m:Int)<(M:Int):=J
  have c2:((m:Nat):Int)<2513169434915:=J
  have w:=bF (n:=m) J
  have hr:jS (m+1)=dL ((jS m).l++ [E1]):=by unfold jS;rw [bz,List.replicate_succ']
  rw [hr] at ih;refine bL.of ?_;rw [EI];simp only [rX,zz,c1,c2,tF,w];exact .jump ih
theorem aiR (m:Nat) (hm:1<=m) (x0 x3 x4 x5 x6 x7 x8 x9:Int) (hn:x6= -1) (hk:x0=3):bL 954 [x0,(m:Int),(m:Int),x3,x4,x5,x6,x7,x8,x9,enc (jS m)] (cA (bM x0 x4 x6 m 1)):=by
 subst hk;obtain⟨ys,a1,g1⟩:=v7 m hm 3 1 x4;unfold oh at g1;rw [kY] at g1;have a7:=gv x4;have k9:=ei x4;have rR:=ew x4;have qR:=eu x4;refine bL.of ?_;rw [EH];rcases g1 with ⟨p1,l1,rfl⟩|⟨p1,m1,q1,r1,s1⟩
 ·simp only [rW,zz,aw,hn,a1,a7,e8,eZ,dB,cE,bz,Int.reduceLT,Int.reduceEq,aL]
  repeat' first |exact .out (bE (by unfold bM; omega))|exact .out (bN (by unfold bM; omega))|refine .ite (fun _=>?_) (fun _=>?_)|(exfalso; omega)
 ·subst m1;simp only [rW,zz,aw,hn,a1,a7,q1,r1,s1,e8,eZ,dB,cE,bz,Int.reduceLT,Int.reduceEq,aL]
  repeat' first |exact .out (bE (by unfold bM; omega))|exact .out (bN (by unfold bM; omega))|refine .ite (fun _=>?_) (fun _=>?_)|(exfalso; omega)
theorem aiO (m:Nat) (hm:1<=m) (x0 x3 x4 x5 x6 x7 x8 x9:Int) (hn:x6= -1) (hk:x0=8):bL 954 [x0,(m:Int),(m:Int),x3,x4,x5,x6,x7,x8,x9,enc (jS m)] (cA (bM x0 x4 x6 m 1)):=by
 subst hk;obtain⟨ys,a1,g1⟩:=v7 m hm 8 1 x4;unfold oh at g1;rw [kY] at g1;have a7:=gv x4;have k9:=ei x4;have rR:=ew x4;have qR:=eu x4;refine bL.of ?_;rw [EH];rcases g1 with ⟨p1,l1,rfl⟩|⟨p1,m1,q1,r1,s1⟩
 ·simp only [rW,zz,aw,hn,a1,a7,e8,eZ,dB,cE,bz,Int.reduceLT,Int.reduceEq,aL]
  repeat' first |exact .out (bE (by unfold bM; omega))|exact .out (bN (by unfold bM; omega))|refine .ite (fun _=>?_) (fun _=>?_)|(exfalso; omega)
 ·subst m1;simp only [rW,zz,aw,hn,a1,a7,q1,r1,s1,e8,eZ,dB,cE,bz,Int.reduceLT,Int.reduceEq,aL]
  repeat' first |exact .out (bE (by unfold bM; omega))|exact .out (bN (by unfold bM; omega))|refine .ite (fun _=>?_) (fun _=>?_)|(exfalso; omega)
theorem aiP (m:Nat) (hm:1<=m) (x0 x3 x4 x5 x6 x7 x8 x9:Int) (hn:x6= -1) (hk:x0=5):bL 954 [x0,(m:Int),(m:Int),x3,x4,x5,x6,x7,x8,x9,enc (jS m)] (cA (bM x0 x4 x6 m 1)):=by
 subst hk;obtain⟨ys,a1,g1⟩:=v7 m hm 5 1 x4;unfold oh at g1;rw [kY] at g1;have a7:=gv x4;have k9:=ei x4;have rR:=ew x4;have qR:=eu x4;refine bL.of ?_;rw [EH];rcases g1 with ⟨p1,l1,rfl⟩|⟨p1,m1,q1,r1,s1⟩
 ·simp only [rW,zz,aw,hn,a1,a7,e8,eZ,dB,cE,bz,Int.reduceLT,Int.reduceEq,aL]
  repeat' first |exact .out (bE (by unfold bM; omega))|exact .out (bN (by unfold bM; omega))|refine .ite (fun _=>?_) (fun _=>?_)|(exfalso; omega)
 ·subst m1;simp only [rW,zz,aw,hn,a1,a7,q1,r1,s1,e8,eZ,dB,cE,bz,Int.reduceLT,Int.reduceEq,aL]
  repeat' first |exact .out (bE (by unfold bM; omega))|exact .out (bN (by unfold bM; omega))|refine .ite (fun _=>?_) (fun _=>?_)|(exfalso; omega)
theorem aiQ (m:Nat) (hm:1<=m) (x0 x3 x4 x5 x6 x7 x8 x9:Int) (hn:x6= -1) (hk:x0=4):bL 954 [x0,(m:Int),(m:Int),x3,x4,x5,x6,x7,x8,x9,enc (jS m)] (cA (bM x0 x4 x6 m 1)):=by
 subst hk;obtain⟨ys,a1,g1⟩:=Zq m hm 4 x4;unfold oh at g1;have a7:=gv x4;have k9:=ei x4;have rR:=ew x4;have qR:=eu x4;refine bL.of ?_;rw [EH];rcases g1 with ⟨p1,l1,rfl⟩|⟨p1,m1,q1,r1,s1⟩
 ·simp only [rW,zz,aw,hn,a1,a7,e8,eZ,dB,cE,bz,Int.reduceLT,Int.reduceEq,aL]
  repeat' first |exact .out (bE (by unfold bM; omega))|exact .out (bN (by unfold bM; omega))|refine .ite (fun _=>?_) (fun _=>?_)|(exfalso; omega)
 ·subst m1;simp only [rW,zz,aw,hn,a1,a7,q1,r1,s1,e8,eZ,dB,cE,bz,Int.reduceLT,Int.reduceEq,aL]
  repeat' first |exact .out (bE (by unfold bM; omega))|exact .out (bN (by unfold bM; omega))|refine .ite (fun _=>?_) (fun _=>?_)|(exfalso; omega)
theorem aiS (m:Nat) (hm:1<=m) (x0 x3 x4 x5 x6 x7 x8 x9:Int) (hn:x6= -1) (h3:x0≠3) (h8:x0≠8) (h5:x0≠5) (h4:x0≠4):bL 954 [x0,(m:Int),(m:Int),x3,x4,x5,x6,x7,x8,x9,enc (jS m)] (cA (bM x0 x4 x6 m 1)):=by
 obtain⟨ys,a1,g1⟩:=v7 m hm x0 0 x4;unfold oh at g1;rw [DV] at g1;have a7:=gv x4;have k9:=ei x4;have rR:=ew x4;have qR:=eu x4;refine bL.of ?_;rw [EH];rcases g1 with ⟨p1,l1,rfl⟩|⟨p1,m1,q1,r1,s1⟩
 ·simp only [rW,zz,aw,hn,h3,h8,h5,h4,a1,a7,e8,eZ,dB,cE,bz,Int.reduceLT,Int.reduceEq,aL]
  repeat' first |exact .out (bE (by unfold bM; omega))|exact .out (bN (by unfold bM; omega))|refine .ite (fun _=>?_) (fun _=>?_)|(exfalso; omega)
 ·subst m1;simp only [rW,zz,aw,hn,h3,h8,h5,h4,a1,a7,q1,r1,s1,e8,eZ,dB,cE,bz,Int.reduceLT,Int.reduceEq,aL]
  repeat' first |exact .out (bE (by unfold bM; omega))|exact .out (bN (by unfold bM; omega))|refine .ite (fun _=>?_) (fun _=>?_)|(exfalso; omega)
theorem aiM (m:Nat) (hm:1<=m) (x0 x3 x4 x5 x6 x7 x8 x9:Int) (hn:x6≠-1) (hk:x0=3):bL 954 [x0,(m:Int),(m:Int),x3,x4,x5,x6,x7,x8,x9,enc (jS m)] (cA (bM x0 x4 x6 m 1)):=by
 subst hk;obtain⟨ys,a1,g1⟩:=vZ m hm 3 1 x4;unfold oh at g1;rw [kY] at g1;have a7:=gv x4;have k9:=ei x4;have rR:=ew x4;have qR:=eu x4;refine bL.of ?_;rw [EH];rcases g1 with ⟨p1,l1,rfl⟩|⟨p1,m1,q1,r1,s1⟩
 ·simp only [rW,zz,aw,hn,a1,a7,e8,eZ,dB,cE,bz,Int.reduceLT,Int.reduceEq,aL]
  repeat' first |exact .out (bE (by unfold bM; omega))|exact .out (bN (by unfold bM; omega))|refine .ite (fun _=>?_) (fun _=>?_)|(exfalso; omega)
 ·subst m1;simp only [rW,zz,aw,hn,a1,a7,q1,r1,s1,e8,eZ,dB,cE,bz,Int.reduceLT,Int.reduceEq,aL]
  repeat' first |exact .out (bE (by unfold bM; omega))|exact .out (bN (by unfold bM; omega))|refine .ite (fun _=>?_) (fun _=>?_)|(exfalso; omega)
theorem aiJ (m:Nat) (hm:1<=m) (x0 x3 x4 x5 x6 x7 x8 x9:Int) (hn:x6≠-1) (hk:x0=8):bL 954 [x0,(m:Int),(m:Int),x3,x4,x5,x6,x7,x8,x9,enc (jS m)] (cA (bM x0 x4 x6 m 1)):=by
 subst hk;obtain⟨ys,a1,g1⟩:=vZ m hm 8 1 x4;unfold oh at g1;rw [kY] at g1;have a7:=gv x4;have k9:=ei x4;have rR:=ew x4;have qR:=eu x4;refine bL.of ?_;rw [EH];rcases g1 with ⟨p1,l1,rfl⟩|⟨p1,m1,q1,r1,s1⟩
 ·simp only [rW,zz,aw,hn,a1,a7,e8,eZ,dB,cE,bz,Int.reduceLT,Int.reduceEq,aL]
  repeat' first |exact .out (bE (by unfold bM; omega))|exact .out (bN (by unfold bM; omega))|refine .ite (fun _=>?_) (fun _=>?_)|(exfalso; omega)
 ·subst m1;simp only [rW,zz,aw,hn,a1,a7,q1,r1,s1,e8,eZ,dB,cE,bz,Int.reduceLT,Int.reduceEq,aL]
  repeat' first |exact .out (bE (by unfold bM; omega))|exact .out (bN (by unfold bM; omega))|refine .ite (fun _=>?_) (fun _=>?_)|(exfalso; omega)
theorem aiK (m:Nat) (hm:1<=m) (x0 x3 x4 x5 x6 x7 x8 x9:Int) (hn:x6≠-1) (hk:x0=5):bL 954 [x0,(m:Int),(m:Int),x3,x4,x5,x6,x7,x8,x9,enc (jS m)] (cA (bM x0 x4 x6 m 1)):=by
 subst hk;obtain⟨ys,a1,g1⟩:=vZ m hm 5 1 x4;unfold oh at g1;rw [kY] at g1;have a7:=gv x4;have k9:=ei x4;have rR:=ew x4;have qR:=eu x4;refine bL.of ?_;rw [EH];rcases g1 with ⟨p1,l1,rfl⟩|⟨p1,m1,q1,r1,s1⟩
 ·simp only [rW,zz,aw,hn,a1,a7,e8,eZ,dB,cE,bz,Int.reduceLT,Int.reduceEq,aL]
  repeat' first |exact .out (bE (by unfold bM; omega))|exact .out (bN (by unfold bM; omega))|refine .ite (fun _=>?_) (fun _=>?_)|(exfalso; omega)
 ·subst m1;simp only [rW,zz,aw,hn,a1,a7,q1,r1,s1,e8,eZ,dB,cE,bz,Int.reduceLT,Int.reduceEq,aL]
  repeat' first |exact .out (bE (by unfold bM; omega))|exact .out (bN (by unfold bM; omega))|refine .ite (fun _=>?_) (fun _=>?_)|(exfalso; omega)
theorem aiL (m:Nat) (hm:1<=m) (x0 x3 x4 x5 x6 x7 x8 x9:Int) (hn:x6≠-1) (hk:x0=4):bL 954 [x0,(m:Int),(m:Int),x3,x4,x5,x6,x7,x8,x9,enc (jS m)] (cA (bM x0 x4 x6 m 1)):=by
 subst hk;obtain⟨ys,a1,g1⟩:=Zp m hm 4 x4;unfold oh at g1;have a7:=gv x4;have k9:=ei x4;have rR:=ew x4;have qR:=eu x4;refine bL.of ?_;rw [EH];rcases g1 with ⟨p1,l1,rfl⟩|⟨p1,m1,q1,r1,s1⟩
 ·simp only [rW,zz,aw,hn,a1,a7,e8,eZ,dB,cE,bz,Int.reduceLT,Int.reduceEq,aL]
  repeat' first |exact .out (bE (by unfold bM; omega))|exact .out (bN (by unfold bM; omega))|refine .ite (fun _=>?_) (fun _=>?_)|(exfalso; omega)
 ·subst m1;simp only [rW,zz,aw,hn,a1,a7,q1,r1,s1,e8,eZ,dB,cE,bz,Int.reduceLT,Int.reduceEq,aL]
  repeat' first |exact .out (bE (by unfold bM; omega))|exact .out (bN (by unfold bM; omega))|refine .ite (fun _=>?_) (fun _=>?_)|(exfalso; omega)
theorem aiN (m:Nat) (hm:1<=m) (x0 x3 x4 x5 x6 x7 x8 x9:Int) (hn:x6≠-1) (h3:x0≠3) (h8:x0≠8) (h5:x0≠5) (h4:x0≠4):bL 954 [x0,(m:Int),(m:Int),x3,x4,x5,x6,x7,x8,x9,enc (jS m)] (cA (bM x0 x4 x6 m 1)):=by
 obtain⟨ys,a1,g1⟩:=vZ m hm x0 0 x4;unfold oh at g1;rw [DV] at g1;have a7:=gv x4;have k9:=ei x4;have rR:=ew x4;have qR:=eu x4;refine bL.of ?_;rw [EH];rcases g1 with ⟨p1,l1,rfl⟩|⟨p1,m1,q1,r1,s1⟩
 ·simp only [rW,zz,aw,hn,h3,h8,h5,h4,a1,a7,e8,eZ,dB,cE,bz,Int.reduceLT,Int.reduceEq,aL]
  repeat' first |exact .out (bE (by unfold bM; omega))|exact .out (bN (by unfold bM; omega))|refine .ite (fun _=>?_) (fun _=>?_)|(exfalso; omega)
 ·subst m1;simp only [rW,zz,aw,hn,h3,h8,h5,h4,a1,a7,q1,r1,s1,e8,eZ,dB,cE,bz,Int.reduceLT,Int.reduceEq,aL]
  repeat' first |exact .out (bE (by unfold bM; omega))|exact .out (bN (by unfold bM; omega))|refine .ite (fun _=>?_) (fun _=>?_)|(exfalso; omega)
theorem amh (m:Nat) (hm:1<=m) (x0 x3 x4 x5 x6 x7 x8 x9:Int):bL 954 [x0,(m:Int),(m:Int),x3,x4,x5,x6,x7,x8,x9,enc (jS m)] (cA (bM x0 x4 x6 m 1)):=by
 by_cases hn:x6= -1
 ·
  by_cases h3:x0=3
  ·exact aiR m hm x0 x3 x4 x5 x6 x7 x8 x9 hn h3
  by_cases h8:x0=8
  ·exact aiO m hm x0 x3 x4 x5 x6 x7 x8 x9 hn h8
  by_cases h5:x0=5
  ·exact aiP m hm x0 x3 x4 x5 x6 x7 x8 x9 hn h5
  by_cases h4:x0=4
  ·exact aiQ m hm x0 x3 x4 x5 x6 x7 x8 x9 hn h4
  exact aiS m hm x0 x3 x4 x5 x6 x7 x8 x9 hn h3 h8 h5 h4
 grind [aiM,aiJ,aiK,aiL,aiN]
theorem ami (M:Nat) (hM:M<=2513169434915) (x0 x3 x4 x5 x6 x7 x8 x9:Int): ∀(j m:Nat),m+j=M->1<=m->bL 954 [x0,(M:Int),(m:Int),x3,x4,x5,x6,x7,x8,x9,enc (jS m)] (cA (bM x0 x4 x6 M 1))
 |0,m,U,Z=>by
  grind [amh]
 |j+1,m,U,Z=>by
  have ih:=ami M hM x0 x3 x4 x5 x6 x7 x8 x9 j (m+1) J J;have c1:(m:Int)<(M:Int):=J
  have c2:((m:Nat):Int)<2513169434915:=J
  have w:=bF (n:=m) J
  have hr:jS (m+1)=dL ((jS m).l++ [E1]):=by unfold jS;rw [bz,List.replicate_succ']
  rw [hr] at ih;refine bL.of ?_;rw [EH];simp only [rW,zz,c1,c2,tF,w];exact .jump ih
theorem V0 (x0 x1 x2 x3 x4 x5 x6 x8:Int) (d:D) (V:d.l.length<=2513169434915):bL 950 [x0,x1,x2,x3,x4,x5,x6,enc d,x8] (cA (bM x0 x2 x4 d.l.length x8)):=by
 have hr:enc (jS 1)=enc (dL ([]++ [E1])):=rfl
 have key: ∀(t t2:Nat) (b:Int),(t=951/\t2=953/\b=0)\/(t=952/\t2=954/\b=1)->bL t [x0,(d.l.length:Int),x1,x2,x3,x4,x5,x6,enc d] (cA (bM x0 x2 x4 d.l.length b)):=by
  intro t t2 b ht;by_cases h0:d.l.length=0
  ·grind [apf,enc,ape]
  ·have c1:(0:Int)<(d.l.length:Int):=J
   rcases ht with ⟨rfl,rfl,rfl⟩|⟨rfl,rfl,rfl⟩
   ·have:=amk d.l.length V x0 x1 x2 x3 x4 x5 x6 (enc d) (d.l.length-1) 1 J J;rw [hr] at this;refine bL.of ?_;rw [EK];simp only [Ez,zz,c1,lG];exact .jump this
   ·have:=ami d.l.length V x0 x1 x2 x3 x4 x5 x6 (enc d) (d.l.length-1) 1 J J;rw [hr] at this;refine bL.of ?_;rw [EJ];simp only [Ey,zz,c1,lG];exact .jump this
 refine bL.of ?_;rw [aoB];simp only [amq,zz];refine .ite (fun h=> .jump (by subst h; exact key 951 953 0 (.inl ⟨rfl,rfl,rfl⟩))) fun h=> .jump ((key 952 954 1 (.inr ⟨rfl,rfl,rfl⟩)).iff ?_)
 grind [bM]
def L1 (nl:Nat) (e:D):Prop:=Hg 20 (nl:Int) e/\parts 20 e<=1000
theorem OX (kids loc:D) (sa code:Int) (hk:Wd (.sl 6) kids): ∀(j i:Nat),i+j=kids.l.length->bL 5401 [enc kids,(kids.l.length:Int),(i:Int),sa,enc loc,code] (fun ys=> ∃c:Int,ys= [sa,enc loc,code,c]/\(c<0↔∀e∈kids.l.drop i,L1 loc.l.length e))
 |0,i,hi=>by
  have c1: ¬(i:Int)<(kids.l.length:Int):=J
  refine bL.of ?_;rw [aaV,aX J];simp only [Z3,zz,c1];exact .out ⟨_,rfl,⟨fun _=>by simp,fun _=>by omega⟩⟩
 |j+1,i,hi=>by
  have hlen:=hk.len;have di:i<kids.l.length:=J
  have c1:(i:Int)<(kids.l.length:Int):=J
  have c2: ¬((i:Int)<0):=J
  have w:=bF (n:=i) J;have V:kids.l.drop i=kids.l[i]::kids.l.drop (i+1):=aC di;obtain⟨k',s',n',A3,he,ys,hR,b,rfl,hb,EF⟩:=SH (loc.l.length:Int) hk di;refine bL.of ?_;rw [aaV,V];simp only [Z3,zz,c1,c2,bG di,he,zg,w,hR];rw [<- he];refine .ite (fun h0=> .out ⟨_,rfl,⟨fun h=>by omega,fun h=>?_⟩⟩) fun h0=> .jump ?_
  ·have:=EF.2 (h _ (arF ..));omega
  ·obtain⟨ys,hQ,c,rfl,hc⟩:=OX kids loc sa code hk j (i+1) J;have U:=EF.1 J;exact⟨_,hQ,c,rfl,hc.trans ⟨fun q b hb=>(aH.1 hb).elim (fun e=>e▸U) (q b),fun q b hb=>q b (arS _ hb)⟩⟩
theorem akH (kids loc:D) (sa code:Int) (hk:Wd (.sl 6) kids):bL 5000 [enc kids,sa,enc loc,code] (fun ys=> ∃c:Int,ys= [sa,enc loc,code,c]/\(c=0↔∀e∈kids.l,L1 loc.l.length e)):=by
 have h0:bL 5400 [enc kids,sa,enc loc,code] (fun ys=> ∃c:Int,ys= [sa,enc loc,code,c]/\(c<0↔∀e∈kids.l,L1 loc.l.length e)):=by refine bL.of ?_;rw [agW];simp only [afu,zz];exact .jump (OX kids loc sa code hk kids.l.length 0 J)
 obtain⟨ys,hR,i,rfl,hi⟩:=h0;refine bL.of ?_;rw [ag7];simp only [afC,zz,hR];exact .ite (fun h=> .out ⟨_,rfl,⟨fun _=>hi.1 h,fun _=>rfl⟩⟩) fun h=> .out ⟨_,rfl,⟨fun h'=>by omega,fun h'=>absurd (hi.2 h') h⟩⟩
def sg (d0:D) (nl nc:Nat) (dx op ob je to:Int) (na:Nat):Prop:=
 (dx=1/\0<=ob/\ob<(d0.l.length:Int)/\1<=op/\op<=23/\((d0.at ob).V 0).n=YI op/\(na:Int)=Fw op/\((je= -1/\yW op=0)\/(yW op=1/\0<=je/\je<(nl:Int)))/\(op=16->0<=to/\to<=(nc:Int)))\/
 (dx=2/\0<=ob/\ob<(d0.l.length:Int)/\((d0.at ob).V 0).n=6)\/(dx=3/\0<=je/\je<(nl:Int)/\(na:Int)=1)\/(dx=4/\0<=to/\to<=(nc:Int)/\(na:Int)=1)\/
 (dx=5/\0<=to/\to<=(nc:Int))\/(dx=6/\0<=je/\je<(nl:Int))\/(dx=7/\0<=je/\je<(nl:Int)/\0<=to/\to<=(nc:Int))
def opP (d0:D) (op ob:Int) (na:Nat):Prop:=1<=op/\op<=23/\((d0.at ob).V 0).n=YI op/\(na:Int)=Fw op
theorem Vp (d0:D) (nl nc:Nat) (op ob je to:Int) (na:Nat):(0<=ob/\ob<(d0.l.length:Int)/\opP d0 op ob na/\((je= -1/\yW op=0)\/(yW op=1/\0<=je/\je<(nl:Int)))/\(op=16->0<=to/\to<=(nc:Int)))↔sg d0 nl nc 1 op ob je to na:=by
 grind [sg,opP]
theorem Vo (d0:D) (nl nc:Nat) (op ob je to:Int) (na:Nat):(0<=ob/\ob<(d0.l.length:Int)/\((d0.at ob).V 0).n=6)↔sg d0 nl nc 2 op ob je to na:=by
 grind [sg]
theorem Vn (d0:D) (nl nc:Nat) (op ob je to:Int) (na:Nat):(0<=je/\je<(nl:Int)/\(na:Int)=1)↔sg d0 nl nc 3 op ob je to na:=by
 grind [sg]
theorem Vm (d0:D) (nl nc:Nat) (op ob je to:Int) (na:Nat):(0<=to/\to<=(nc:Int)/\(na:Int)=1)↔sg d0 nl nc 4 op ob je to na:=by
 grind [sg]
theorem Vl (d0:D) (nl nc:Nat) (op ob je to:Int) (na:Nat):(0<=to/\to<=(nc:Int))↔sg d0 nl nc 5 op ob je to na:=by
 grind [sg]
theorem Vk (d0:D) (nl nc:Nat) (op ob je to:Int) (na:Nat):(0<=je/\je<(nl:Int))↔sg d0 nl nc 6 op ob je to na:=by
 grind [sg]
theorem Vj (d0:D) (nl nc:Nat) (op ob je to:Int) (na:Nat):(0<=je/\je<(nl:Int)/\0<=to/\to<=(nc:Int))↔sg d0 nl nc 7 op ob je to na:=by
 grind [sg]
set_option maxHeartbeats 1000000 in
theorem apR (d0 d1 d3 d4 d:D) (x2 x6 x7 x8 x9 qy:Int) (V:d.l.length<=2513169434915):bL 750 [enc d0,enc d1,x2,enc d3,enc d4,1,x6,x7,x8,x9,qy,enc d] (cA (0<=x7/\x7<(d0.l.length:Int)/\opP d0 x6 x7 d.l.length/\((x8= -1/\yW x6=0)\/(yW x6=1/\0<=x8/\x8<(d3.l.length:Int)))/\(x6=16->0<=x9/\x9<=(d4.l.length:Int)))):=by
 obtain⟨ys,h0,b0,rfl,p0,f0⟩:=V0 ((d0.at x7).V 0).n 1 x6 x7 x8 x9 qy 0 d V;obtain⟨ys,U,b1,rfl,p1,f1⟩:=V0 ((d0.at x7).V 0).n 1 x6 x7 x8 x9 qy 1 d V;by_cases hQ:opP d0 x6 x7 d.l.length
 ·have f0:b0=1↔(x8= -1/\yW x6=0):=f0.trans ⟨fun h=>h.2.2.2.2.elim id fun h=>absurd rfl h.2.2,fun h=> ⟨hQ.1,hQ.2.1,hQ.2.2.1,hQ.2.2.2,.inl h⟩⟩;have f1:b1=1↔(x8= -1/\yW x6=0)\/(x8≠-1/\yW x6=1):=f1.trans ⟨fun h=>h.2.2.2.2.imp id fun h=> ⟨h.1,h.2.1⟩,fun h=> ⟨hQ.1,hQ.2.1,hQ.2.2.1,hQ.2.2.2,h.imp id fun h=> ⟨h.1,h.2,J⟩⟩⟩;refine bL.iff (p:=0<=x7/\x7<(d0.l.length:Int)/\((x8= -1/\yW x6=0)\/(yW x6=1/\0<=x8/\x8<(d3.l.length:Int)))/\(x6=16->0<=x9/\x9<=(d4.l.length:Int))) ?_ ⟨fun⟨a,b,c⟩=> ⟨a,b,hQ,c⟩,fun⟨a,b,_,c⟩=> ⟨a,b,c⟩⟩;refine bL.of ?_;rw [IB];simp only [Iq,zz,Int.reduceEq,h0,U]
  repeat' first |exact .out (bE id)|exact .out (bE J)|exact .out (bN J)|refine .ite (fun _=>?_) (fun _=>?_)|(exfalso; omega)
 ·have f0:b0=0:=by
   have: ¬b0=1:=fun h=>hQ ⟨(f0.1 h).1,(f0.1 h).2.1,(f0.1 h).2.2.1,(f0.1 h).2.2.2.1⟩;omega
  have f1:b1=0:=by have: ¬b1=1:=fun h=>hQ ⟨(f1.1 h).1,(f1.1 h).2.1,(f1.1 h).2.2.1,(f1.1 h).2.2.2.1⟩;omega
  refine bL.iff (p:=False) ?_ ⟨fun h=>h.elim,fun h=>hQ h.2.2.1⟩;refine bL.of ?_;rw [IB];simp only [Iq,zz,Int.reduceEq,h0,U,f0,f1]
  repeat' first |exact .out (bE id)|exact .out (bE J)|exact .out (bN J)|refine .ite (fun _=>?_) (fun _=>?_)|(exfalso; omega)
set_option maxHeartbeats 1000000 in
theorem apQ (d0 d1 d3 d4 d:D) (x2 x6 x7 x8 x9 qy:Int):bL 750 [enc d0,enc d1,x2,enc d3,enc d4,2,x6,x7,x8,x9,qy,enc d] (cA (0<=x7/\x7<(d0.l.length:Int)/\((d0.at x7).V 0).n=6)):=by
 refine bL.of ?_;rw [IB];simp only [Iq,zz,Int.reduceEq]
 repeat' first |exact .out (bE id)|exact .out (bE J)|exact .out (bN J)|refine .ite (fun _=>?_) (fun _=>?_)|(exfalso; omega)
set_option maxHeartbeats 1000000 in
theorem apP (d0 d1 d3 d4 d:D) (x2 x6 x7 x8 x9 qy:Int):bL 750 [enc d0,enc d1,x2,enc d3,enc d4,3,x6,x7,x8,x9,qy,enc d] (cA (0<=x8/\x8<(d3.l.length:Int)/\(d.l.length:Int)=1)):=by
 refine bL.of ?_;rw [IB];simp only [Iq,zz,Int.reduceEq]
 repeat' first |exact .out (bE id)|exact .out (bE J)|exact .out (bN J)|refine .ite (fun _=>?_) (fun _=>?_)|(exfalso; omega)
set_option maxHeartbeats 1000000 in
theorem apO (d0 d1 d3 d4 d:D) (x2 x6 x7 x8 x9 qy:Int):bL 750 [enc d0,enc d1,x2,enc d3,enc d4,4,x6,x7,x8,x9,qy,enc d] (cA (0<=x9/\x9<=(d4.l.length:Int)/\(d.l.length:Int)=1)):=by
 refine bL.of ?_;rw [IB];simp only [Iq,zz,Int.reduceEq]
 repeat' first |exact .out (bE id)|exact .out (bE J)|exact .out (bN J)|refine .ite (fun _=>?_) (fun _=>?_)|(exfalso; omega)
set_option maxHeartbeats 1000000 in
theorem apN (d0 d1 d3 d4 d:D) (x2 x6 x7 x8 x9 qy:Int):bL 750 [enc d0,enc d1,x2,enc d3,enc d4,5,x6,x7,x8,x9,qy,enc d] (cA (0<=x9/\x9<=(d4.l.length:Int))):=by
 refine bL.of ?_;rw [IB];simp only [Iq,zz,Int.reduceEq]
 repeat' first |exact .out (bE id)|exact .out (bE J)|exact .out (bN J)|refine .ite (fun _=>?_) (fun _=>?_)|(exfalso; omega)
set_option maxHeartbeats 1000000 in
theorem apM (d0 d1 d3 d4 d:D) (x2 x6 x7 x8 x9 qy:Int):bL 750 [enc d0,enc d1,x2,enc d3,enc d4,6,x6,x7,x8,x9,qy,enc d] (cA (0<=x8/\x8<(d3.l.length:Int))):=by
 refine bL.of ?_;rw [IB];simp only [Iq,zz,Int.reduceEq]
 repeat' first |exact .out (bE id)|exact .out (bE J)|exact .out (bN J)|refine .ite (fun _=>?_) (fun _=>?_)|(exfalso; omega)
set_option maxHeartbeats 1000000 in
theorem apL (d0 d1 d3 d4 d:D) (x2 x6 x7 x8 x9 qy:Int):bL 750 [enc d0,enc d1,x2,enc d3,enc d4,7,x6,x7,x8,x9,qy,enc d] (cA (0<=x8/\x8<(d3.l.length:Int)/\0<=x9/\x9<=(d4.l.length:Int))):=by
 refine bL.of ?_;rw [IB];simp only [Iq,zz,Int.reduceEq]
 repeat' first |exact .out (bE id)|exact .out (bE J)|exact .out (bN J)|refine .ite (fun _=>?_) (fun _=>?_)|(exfalso; omega)
set_option maxHeartbeats 1000000 in
theorem apS (d0 d1 d3 d4 d:D) (x2 x6 x7 x8 x9 qy:Int) (x5:Int) (U:x5≠1) (Z:x5≠2) (h3:x5≠3) (h4:x5≠4) (h5:x5≠5) (h6:x5≠6) (h7:x5≠7):bL 750 [enc d0,enc d1,x2,enc d3,enc d4,x5,x6,x7,x8,x9,qy,enc d] (cA (False)):=by
 refine bL.of ?_;rw [IB];simp only [Iq,zz,Int.reduceEq,U,Z,h3,h4,h5,h6,h7]
 repeat' first |exact .out (bE id)|exact .out (bE J)|exact .out (bN J)|refine .ite (fun _=>?_) (fun _=>?_)|(exfalso; omega)
set_option maxHeartbeats 1000000 in
theorem ap2 (d0 d1 d3 d4 d:D) (x2 x6 x7 x8 x9 qy:Int) (hl:d4.l.length<=140737488351232):bL 4250 [enc d0,enc d1,x2,enc d3,enc d4,1,x6,x7,x8,x9,qy,enc d] (cA (0<=x7/\x7<(d0.l.length:Int)/\opP d0 x6 x7 d.l.length/\((x8= -1/\yW x6=0)\/(yW x6=1/\0<=x8/\x8<(d3.l.length:Int)))/\(x6=16->0<=x9/\x9<=(d4.l.length:Int)))):=by
 have w:=bF (n:=d4.l.length) J;obtain⟨ys,g0,b0,rfl,c0,f0⟩:=gF x8 (d3.l.length:Int);obtain⟨ys,g1,b1,rfl,c1,f1⟩:=gF x9 ((d4.l.length+1:Nat):Int);obtain⟨ys,g2,b2,rfl,c2,f2⟩:=gF x7 (d0.l.length:Int);have g3:=NS x6;have g4:=RD x6;have g5:=RC x6;have qR:=eu x6;by_cases pe:1<=x6/\x6<=23
 ·rw [ag pe] at g3;refine bL.of ?_;rw [zh];simp only [yO,zz,Int.reduceEq,w,g0,g1,g2,g3,g4,g5];unfold opP
  repeat' first |exact .out (bE id)|exact .out (bE J)|exact .out (bN J)|refine .ite (fun _=>?_) (fun _=>?_)|(exfalso; omega)
 ·rw [af pe] at g3;refine bL.iff (p:=False) ?_ ⟨fun h=>h.elim,fun h=>pe ⟨h.2.2.1.1,h.2.2.1.2.1⟩⟩;refine bL.of ?_;rw [zh];simp only [yO,zz,Int.reduceEq,w,g0,g1,g2,g3,g4,g5]
  repeat' first |exact .out (bE id)|exact .out (bE J)|exact .out (bN J)|refine .ite (fun _=>?_) (fun _=>?_)|(exfalso; omega)
set_option maxHeartbeats 1000000 in
theorem ap1 (d0 d1 d3 d4 d:D) (x2 x6 x7 x8 x9 qy:Int) (hl:d4.l.length<=140737488351232):bL 4250 [enc d0,enc d1,x2,enc d3,enc d4,2,x6,x7,x8,x9,qy,enc d] (cA (0<=x7/\x7<(d0.l.length:Int)/\((d0.at x7).V 0).n=6)):=by
 have w:=bF (n:=d4.l.length) J;obtain⟨ys,g0,b0,rfl,c0,f0⟩:=gF x8 (d3.l.length:Int);obtain⟨ys,g1,b1,rfl,c1,f1⟩:=gF x9 ((d4.l.length+1:Nat):Int);obtain⟨ys,g2,b2,rfl,c2,f2⟩:=gF x7 (d0.l.length:Int);refine bL.of ?_;rw [zh];simp only [yO,zz,Int.reduceEq,w,g0,g1,g2]
 repeat' first |exact .out (bE id)|exact .out (bE J)|exact .out (bN J)|refine .ite (fun _=>?_) (fun _=>?_)|(exfalso; omega)
set_option maxHeartbeats 1000000 in
theorem ap0 (d0 d1 d3 d4 d:D) (x2 x6 x7 x8 x9 qy:Int) (hl:d4.l.length<=140737488351232):bL 4250 [enc d0,enc d1,x2,enc d3,enc d4,3,x6,x7,x8,x9,qy,enc d] (cA (0<=x8/\x8<(d3.l.length:Int)/\(d.l.length:Int)=1)):=by
 have w:=bF (n:=d4.l.length) J;obtain⟨ys,g0,b0,rfl,c0,f0⟩:=gF x8 (d3.l.length:Int);obtain⟨ys,g1,b1,rfl,c1,f1⟩:=gF x9 ((d4.l.length+1:Nat):Int);refine bL.of ?_;rw [zh];simp only [yO,zz,Int.reduceEq,w,g0,g1]
 repeat' first |exact .out (bE id)|exact .out (bE J)|exact .out (bN J)|refine .ite (fun _=>?_) (fun _=>?_)|(exfalso; omega)
set_option maxHeartbeats 1000000 in
theorem apZ (d0 d1 d3 d4 d:D) (x2 x6 x7 x8 x9 qy:Int) (hl:d4.l.length<=140737488351232):bL 4250 [enc d0,enc d1,x2,enc d3,enc d4,4,x6,x7,x8,x9,qy,enc d] (cA (0<=x9/\x9<=(d4.l.length:Int)/\(d.l.length:Int)=1)):=by
 have w:=bF (n:=d4.l.length) J;obtain⟨ys,g0,b0,rfl,c0,f0⟩:=gF x8 (d3.l.length:Int);obtain⟨ys,g1,b1,rfl,c1,f1⟩:=gF x9 ((d4.l.length+1:Nat):Int);refine bL.of ?_;rw [zh];simp only [yO,zz,Int.reduceEq,w,g0,g1]
 repeat' first |exact .out (bE id)|exact .out (bE J)|exact .out (bN J)|refine .ite (fun _=>?_) (fun _=>?_)|(exfalso; omega)
set_option maxHeartbeats 1000000 in
theorem apY (d0 d1 d3 d4 d:D) (x2 x6 x7 x8 x9 qy:Int) (hl:d4.l.length<=140737488351232):bL 4250 [enc d0,enc d1,x2,enc d3,enc d4,5,x6,x7,x8,x9,qy,enc d] (cA (0<=x9/\x9<=(d4.l.length:Int))):=by
 have w:=bF (n:=d4.l.length) J;obtain⟨ys,g0,b0,rfl,c0,f0⟩:=gF x8 (d3.l.length:Int);obtain⟨ys,g1,b1,rfl,c1,f1⟩:=gF x9 ((d4.l.length+1:Nat):Int);refine bL.of ?_;rw [zh];simp only [yO,zz,Int.reduceEq,w,g0,g1]
 repeat' first |exact .out (bE id)|exact .out (bE J)|exact .out (bN J)|refine .ite (fun _=>?_) (fun _=>?_)|(exfalso; omega)
set_option maxHeartbeats 1000000 in
theorem apX (d0 d1 d3 d4 d:D) (x2 x6 x7 x8 x9 qy:Int) (hl:d4.l.length<=140737488351232):bL 4250 [enc d0,enc d1,x2,enc d3,enc d4,6,x6,x7,x8,x9,qy,enc d] (cA (0<=x8/\x8<(d3.l.length:Int))):=by
 have w:=bF (n:=d4.l.length) J;obtain⟨ys,g0,b0,rfl,c0,f0⟩:=gF x8 (d3.l.length:Int);obtain⟨ys,g1,b1,rfl,c1,f1⟩:=gF x9 ((d4.l.length+1:Nat):Int);refine bL.of ?_;rw [zh];simp only [yO,zz,Int.reduceEq,w,g0,g1]
 repeat' first |exact .out (bE id)|exact .out (bE J)|exact .out (bN J)|refine .ite (fun _=>?_) (fun _=>?_)|(exfalso; omega)
set_option maxHeartbeats 1000000 in
theorem apW (d0 d1 d3 d4 d:D) (x2 x6 x7 x8 x9 qy:Int) (hl:d4.l.length<=140737488351232):bL 4250 [enc d0,enc d1,x2,enc d3,enc d4,7,x6,x7,x8,x9,qy,enc d] (cA (0<=x8/\x8<(d3.l.length:Int)/\0<=x9/\x9<=(d4.l.length:Int))):=by
 have w:=bF (n:=d4.l.length) J;obtain⟨ys,g0,b0,rfl,c0,f0⟩:=gF x8 (d3.l.length:Int);obtain⟨ys,g1,b1,rfl,c1,f1⟩:=gF x9 ((d4.l.length+1:Nat):Int);refine bL.of ?_;rw [zh];simp only [yO,zz,Int.reduceEq,w,g0,g1]
 repeat' first |exact .out (bE id)|exact .out (bE J)|exact .out (bN J)|refine .ite (fun _=>?_) (fun _=>?_)|(exfalso; omega)
set_option maxHeartbeats 1000000 in
theorem ap3 (d0 d1 d3 d4 d:D) (x2 x6 x7 x8 x9 qy:Int) (hl:d4.l.length<=140737488351232) (x5:Int) (U:x5≠1) (Z:x5≠2) (h3:x5≠3) (h4:x5≠4) (h5:x5≠5) (h6:x5≠6) (h7:x5≠7):bL 4250 [enc d0,enc d1,x2,enc d3,enc d4,x5,x6,x7,x8,x9,qy,enc d] (cA (False)):=by
 have w:=bF (n:=d4.l.length) J;obtain⟨ys,g0,b0,rfl,c0,f0⟩:=gF x8 (d3.l.length:Int);obtain⟨ys,g1,b1,rfl,c1,f1⟩:=gF x9 ((d4.l.length+1:Nat):Int);obtain⟨ys,g2,b2,rfl,c2,f2⟩:=gF x7 (d0.l.length:Int);refine bL.of ?_;rw [zh];simp only [yO,zz,Int.reduceEq,w,g0,g1,g2,U,Z,h3,h4,h5,h6,h7]
 repeat' first |exact .out (bE id)|exact .out (bE J)|exact .out (bN J)|refine .ite (fun _=>?_) (fun _=>?_)|(exfalso; omega)
theorem ajW (d0 d1 d3 d4 d:D) (x2 x5 x6 x7 x8 x9 qy:Int) (V:d.l.length<=2513169434915):bL 750 [enc d0,enc d1,x2,enc d3,enc d4,x5,x6,x7,x8,x9,qy,enc d] (cA (sg d0 d3.l.length d4.l.length x5 x6 x7 x8 x9 d.l.length)):=by
 by_cases U:x5=1
 ·grind [apR,Vp]
 by_cases Z:x5=2
 ·grind [apQ,Vo]
 by_cases h3:x5=3
 ·grind [apP,Vn]
 by_cases h4:x5=4
 ·grind [apO,Vm]
 by_cases h5:x5=5
 ·grind [apN,Vl]
 grind [apM,Vk,apL,Vj,apS,sg]
theorem aka (d0 d1 d3 d4 d:D) (x2 x5 x6 x7 x8 x9 qy:Int) (hl:d4.l.length<=140737488351232):bL 4250 [enc d0,enc d1,x2,enc d3,enc d4,x5,x6,x7,x8,x9,qy,enc d] (cA (sg d0 d3.l.length d4.l.length x5 x6 x7 x8 x9 d.l.length)):=by
 by_cases U:x5=1
 ·grind [ap2,Vp]
 by_cases Z:x5=2
 ·grind [ap1,Vo]
 by_cases h3:x5=3
 ·grind [ap0,Vn]
 by_cases h4:x5=4
 ·grind [apZ,Vm]
 by_cases h5:x5=5
 ·grind [apY,Vl]
 grind [apX,Vk,apW,Vj,ap3,sg]
theorem ajO (d0:D) (x1 x2 x3 x4 x5 x6:Int):bL 700 [enc d0,x1,x2,x3,x4,x5,x6] (cA (OkO d0 x2 x4)):=by
 refine bL.of ?_;rw [aoF];simp only [amy,zz];unfold OkO
 repeat' first |exact .out (bE J)|exact .out (bN J)|refine .ite (fun _=>?_) (fun _=>?_)
theorem adZ (d0:D) (x1 x2 x3 x4 x5 x6:Int):bL 4200 [enc d0,x1,x2,x3,x4,x5,x6] (cA (OkO d0 x2 x4)):=by
 refine bL.of ?_;rw [ahj];simp only [afN,zz];unfold OkO
 repeat' first |exact .out (bE J)|exact .out (bN J)|refine .ite (fun _=>?_) (fun _=>?_)
def yP (d0:D) (nl nc:Nat) (y:D):Prop:=sg d0 nl nc (y.V 0).n (y.V 1).n (y.V 2).n (y.V 3).n (y.V 4).n (y.V 6).l.length/\∀e∈(y.V 6).l,L1 nl e
def zw (d0 t:D):Prop:=(t.V 1).l.length<=120/\(t.V 2).l.length<=4000/\∀y∈(t.V 2).l,yP d0 (t.V 1).l.length (t.V 2).l.length y
def ID (d0 d1:D):Prop:=d0.l.length<=64/\d1.l.length<=16/\(∀x∈d0.l,wJ d0 x)/\∀t∈d1.l,zw d0 t
def P0 (P:Prop) (ys:List Int):Prop:= ∃b:Int,ys= [b]/\(b=0\/b=120)/\(b=0↔P)
theorem wQ {P:Prop} (h: ¬P):P0 P [120]:=⟨120,rfl,.inr rfl,fun h'=>absurd h' J,fun h'=>absurd h' h⟩
theorem Vh {P:Prop} (h:P):P0 P [0]:=⟨0,rfl,.inl rfl,fun _=>h,fun _=>rfl⟩
theorem P0.of {P Q:Prop} {ys:List Int} (h:P0 P ys) (e:P↔Q):P0 Q ys:=by
 grind
theorem bL.c {j:Nat} {xs:List Int} {P Q:Prop} (h:bL j xs (P0 P)) (e:P↔Q):bL j xs (P0 Q):=by
 grind
theorem bL.no {j:Nat} {xs:List Int} {P:Prop} (h:bL j xs (·= [120])) (e: ¬P):bL j xs (P0 P):=by obtain⟨ys,a,rfl⟩:=h;exact⟨_,a,wQ e⟩
theorem all_cons {a:D} {l:List D} {p:D->Prop} (h:p a):(∀b∈l,p b)↔∀b∈a::l,p b:=
 ⟨fun q b hb=>(aH.1 hb).elim (fun e=>e▸h) (q b),fun q b hb=>q b (arS _ hb)⟩
theorem Q? {cd:D} (h:Wd (.sl 5) cd) {i:Nat} (hi:i<cd.l.length): ∃a b c e f g qH,cd.l[i]=dL [.i a,.i b,.i c,.i e,.i f,.i g,qH]/\Wd (.sl 6) qH/\(∀d0 nl nc,yP d0 nl nc cd.l[i]↔sg d0 nl nc a b c e f qH.l.length/\∀x∈qH.l,L1 nl x):=by obtain⟨a,b,c,e,f,g,qH,uc,_,_,_,_,_,_,has⟩:=Sc h hi;refine⟨a,b,c,e,f,g,qH,uc,has,fun d0 nl nc=>?_⟩;unfold yP;rw [uc];simp only [ep];rfl
section
variable {d0 d1:D} (h0:Wd (.sl 3) d0) (U:Wd (.sl 4) d1)
include U
theorem acH: ∀(j i:Nat),i+j=d1.l.length->bL 453 [enc d1,(d1.l.length:Int),(i:Int),enc d0] (·= [120])
 |0,i,hi=>by
  have c1: ¬(i:Int)<(d1.l.length:Int):=J
  refine bL.of ?_;rw [akU];simp only [ajw,zz,c1];exact .out rfl
 |j+1,i,hi=>by
  have hl:=U.len;have c1:(i:Int)<(d1.l.length:Int):=J
  have c2: ¬((i:Int)<0):=J
  have w:=bF (n:=i) J;refine bL.of ?_;rw [akU];simp only [ajw,zz,c1,c2];refine .jump (bL.of ?_);rw [akS];simp only [aju,zz,w];exact .ite (fun _=> .jump (acH j (i+1) J)) fun _=> .jump (acH j (i+1) J)
theorem aeU (i:Nat) (hi:i<d1.l.length) (j:Nat) (hj:i+1+j=d1.l.length) (x0 x5 x6 x7:Int):bL 455 [x0,enc d1,(d1.l.length:Int),(i:Int),enc d0,x5,x6,x7] (·= [120]):=by have hl:=U.len;have w:=bF (n:=i) J;refine bL.of ?_;rw [akS];simp only [aju,zz,w];exact .ite (fun _=> .jump (acH U j (i+1) J)) fun _=> .jump (acH U j (i+1) J)
theorem aoV: ∀(j i:Nat),i+j=d1.l.length->bL 454 [enc d1,(d1.l.length:Int),(i:Int),enc d0] (P0 (∀t∈d1.l.drop i,zw d0 t))
 |0,i,hi=>by
  have c1: ¬(i:Int)<(d1.l.length:Int):=J
  refine bL.of ?_;rw [akT,aX J];simp only [ajv,zz,c1];exact .out (Vh ad)
 |j+1,i,hi=>by
  have hl:=U.len;have di:i<d1.l.length:=J
  have c1:(i:Int)<(d1.l.length:Int):=J
  have c2: ¬((i:Int)<0):=J
  have w:=bF (n:=i) J;obtain⟨sa,lc,cd,he,hn,Vz,P8⟩:=qJ U di;have B5:=P8.len;have e1:(d1.l[i]).V 1=lc:=by rw [he,ep]; rfl
  have e2:(d1.l[i]).V 2=cd:=by rw [he,ep]; rfl
  have C4:d1.l.drop i=d1.l[i]::d1.l.drop (i+1):=aC di;have ih:=aoV j (i+1) J;have vR: ¬zw d0 d1.l[i]->¬∀t∈d1.l.drop i,zw d0 t:=fun h q=>h (q _ (by rw [C4]; exact arF ..))
  have loop: ∀(m k:Nat),k+m=cd.l.length->bL 456 [(k:Int),enc d1,(d1.l.length:Int),(i:Int),enc d0,enc sa,enc lc,enc cd] (P0 ((∀y∈cd.l.drop k,yP d0 lc.l.length cd.l.length y)/\∀t∈d1.l.drop (i+1),zw d0 t)):=by
   intro m
   induction m with
   |zero=>
    intro k hk;have c3: ¬(k:Int)<(cd.l.length:Int):=J
    refine bL.of ?_;rw [akR,aX J];simp only [ajt,zz,c3,w];exact .jump (ih.c ⟨fun h=> ⟨ad,h⟩,fun h=>h.2⟩)
   |succ m ihm=>
    intro k hk;have yG:k<cd.l.length:=J
    have c3:(k:Int)<(cd.l.length:Int):=J
    have c4: ¬((k:Int)<0):=J
    have w2:=bF (n:=k) J;have hdk:cd.l.drop k=cd.l[k]::cd.l.drop (k+1):=aC yG;obtain⟨a,b,c,e,f,g,qH,uc,has,hy⟩:=Q? P8 yG;have jG:=has.room
    have hal:qH.l.length<=2513169434915:=by
     grind [mU]
    obtain⟨ys,hM,q,rfl,aqa,hqI⟩:=ajW d0 d1 lc cd qH (enc sa) a b c e f g hal;obtain⟨ys,hX,r,rfl,hr⟩:=akH qH lc (enc sa) (enc cd) has;have W!: ¬yP d0 lc.l.length cd.l.length cd.l[k]->¬((∀y∈cd.l.drop k,yP d0 lc.l.length cd.l.length y)/\∀t∈d1.l.drop (i+1),zw d0 t):=fun h q=>h (q.1 _ (by rw [hdk]; exact arF ..));refine bL.of ?_;rw [akR];simp only [ajt,zz,c3,c4,bG yG,uc,zg,hM,hX,w2];refine .ite (fun hq=> .jump ((aeU U i di j J _ _ _ _).no (W! fun h=>?_))) fun hq0=> .ite (fun eS=> .jump ((ihm (k+1) J).c ?_)) fun eS=> .jump ((aeU U i di j J _ _ _ _).no (W! fun h=>?_))
    all_goals grind
  refine bL.of ?_;rw [akT];simp only [ajv,zz,c1,c2,bG di,he,zg];refine .ite (fun q=> .jump ((aeU U i di j J _ _ _ _).no (vR fun h=>?_))) fun q1=> .ite (fun q=> .jump ((aeU U i di j J _ _ _ _).no (vR fun h=>?_))) fun q2=> .jump ((loop cd.l.length 0 J).c ?_)
  ·have:=h.1
   grind
  ·have:=h.2.1
   grind
  ·rw [C4];refine⟨fun⟨x,y⟩=>(all_cons ?_).1 y,fun x=> ⟨?_,fun b hb=>x b (arS _ hb)⟩⟩
   all_goals grind [zw]
theorem aga (i k:Nat) (lc cd:D) (sa:Int) (hi:i<16) (yG:k<cd.l.length) (B5:cd.l.length<=4000) (qH:D) (has:Wd (.sl 6) qH) (he6:(cd.l[k]).V 6=qH): ∀(j n:Nat),n+j=qH.l.length->∃b:Int,(b=1↔∀e∈qH.l.drop n,L1 lc.l.length e)/\L 4054 [(i:Int),(k:Int),(n:Int),enc d0,enc d1,sa,enc lc,enc cd]=if b=1 then L 4053 [(i:Int),((k+1:Nat):Int),enc d0,enc d1,sa,enc lc,enc cd] else some [120]
 |0,n,hn=>by
  have c1: ¬(k:Int)<0:=J
  have c2:(k:Int)<(cd.l.length:Int):=J
  have c3: ¬(n:Int)<(qH.l.length:Int):=J
  have w:=bF (n:=k) J;refine⟨1,⟨fun _=>by rw [aX J]; simp,fun _=>rfl⟩,?_⟩;rw [bI,abd];simp only [NH,zz,c1,c2,bG yG,he6,c3,w,fin]
 |j+1,n,hn=>by
  have hlen:=has.len;have di:n<qH.l.length:=J
  have c1: ¬(k:Int)<0:=J
  have c2:(k:Int)<(cd.l.length:Int):=J
  have c3:(n:Int)<(qH.l.length:Int):=J
  have c4: ¬(n:Int)<0:=J
  have w:=bF (n:=n) J;have V:qH.l.drop n=qH.l[n]::qH.l.drop (n+1):=aC di;obtain⟨b,hb,ih⟩:=aga i k lc cd sa hi yG B5 qH has he6 j (n+1) J;obtain⟨k',s',n',A3,he,_,g1,_,g2,f0,f1,f2,f3⟩:=Bv has di;obtain⟨ys,hR,c,rfl,LS,OK,hc2,hc3⟩:=Pr 20 J k' n' s' A3 qH.l[n] g2 f3;have hR':L 4300 [k',enc s',n',enc A3,20]=some [c]:=hR;have vR: ¬L1 lc.l.length qH.l[n]->((0:Int)=1↔∀e∈qH.l.drop n,L1 lc.l.length e):=fun h=> ⟨fun h=>absurd h J,fun q=>absurd (q _ (by rw [V]; exact arF ..)) h⟩;rw [bI,abd];by_cases akr:1000<c
  ·refine⟨0,vR fun h=>?_,?_⟩
   ·have:=hc2.2 ⟨VK _ _ _ h.1,h.2⟩;omega
   ·simp only [NH,zz,c1,c2,bG yG,he6,c3,c4,bG di,he,zg,hR',akr,fin];rfl
  ·obtain⟨x1,x2⟩:=hc2.1 J;obtain⟨ys,hE,e,rfl,X!,Ss⟩:=VJ 20 k' n' (lc.l.length:Int) s' A3 qH.l[n] g1 g2 x1 f0 f1 f2 f3;by_cases hz:e=0
   ·refine⟨0,vR fun h=>?_,?_⟩
    ·have:=Ss.2 h.1;omega
    ·subst hz;simp only [NH,zz,c1,c2,bG yG,he6,c3,c4,bG di,he,zg,hR',akr,hE,fin];rfl
   ·refine⟨b,?_,?_⟩
    ·simp_all [all_cons,L1]
    ·simp only [NH,zz,c1,c2,bG yG,he6,c3,c4,bG di,he,zg,hR',akr,hE,hz,w,fin];exact ih
theorem agb (T!:d1.l.length<=16): ∀(j i:Nat),i+j=d1.l.length->bL 4052 [(i:Int),enc d0,enc d1] (P0 (∀t∈d1.l.drop i,zw d0 t))
 |0,i,hi=>by
  have c1: ¬(i:Int)<(d1.l.length:Int):=J
  refine bL.of ?_;rw [abf,aX J];simp only [e?,zz,c1];exact .out (Vh ad)
 |j+1,i,hi=>by
  have di:i<d1.l.length:=J
  have c1:(i:Int)<(d1.l.length:Int):=J
  have c2: ¬((i:Int)<0):=J
  have w:=bF (n:=i) J;obtain⟨sa,lc,cd,he,hn,Vz,P8⟩:=qJ U di;have e1:(d1.l[i]).V 1=lc:=by rw [he,ep]; rfl
  have e2:(d1.l[i]).V 2=cd:=by rw [he,ep]; rfl
  have C4:d1.l.drop i=d1.l[i]::d1.l.drop (i+1):=aC di;have ih:=agb T! j (i+1) J;have vR: ¬zw d0 d1.l[i]->¬∀t∈d1.l.drop i,zw d0 t:=fun h q=>h (q _ (by rw [C4]; exact arF ..));refine bL.of ?_;rw [abf];simp only [e?,zz,c1,c2,bG di,he,zg];refine .ite (fun q=> .out (wQ (vR fun h=>?_))) fun q1=> .ite (fun q=> .out (wQ (vR fun h=>?_))) fun q2=> .jump ?_
  ·have:=h.1
   grind
  ·have:=h.2.1
   grind
  have B5:cd.l.length<=4000:=J
  have loop: ∀(m k:Nat),k+m=cd.l.length->bL 4053 [(i:Int),(k:Int),enc d0,enc d1,enc sa,enc lc,enc cd] (P0 ((∀y∈cd.l.drop k,yP d0 lc.l.length cd.l.length y)/\∀t∈d1.l.drop (i+1),zw d0 t)):=by
   intro m
   induction m with
   |zero=>
    intro k hk;have c3: ¬(k:Int)<(cd.l.length:Int):=J
    refine bL.of ?_;rw [abe,aX J];simp only [e!,zz,c3,w];exact .jump (ih.c ⟨fun h=> ⟨ad,h⟩,fun h=>h.2⟩)
   |succ m ihm=>
    intro k hk;have yG:k<cd.l.length:=J
    have c3:(k:Int)<(cd.l.length:Int):=J
    have c4: ¬((k:Int)<0):=J
    have hdk:cd.l.drop k=cd.l[k]::cd.l.drop (k+1):=aC yG;obtain⟨a,b,c,e,f,g,qH,uc,has,hy⟩:=Q? P8 yG;obtain⟨ys,hM,q,rfl,aqa,hqI⟩:=aka d0 d1 lc cd qH (enc sa) a b c e f g J;have he6:(cd.l[k]).V 6=qH:=by rw [uc,ep]; rfl
    obtain⟨r,hr,hX⟩:=aga (d0:=d0) U i k lc cd (enc sa) J yG B5 qH has he6 qH.l.length 0 J;rw [arC] at hr;have W!: ¬yP d0 lc.l.length cd.l.length cd.l[k]->¬((∀y∈cd.l.drop k,yP d0 lc.l.length cd.l.length y)/\∀t∈d1.l.drop (i+1),zw d0 t):=fun h q=>h (q.1 _ (by rw [hdk]; exact arF ..));refine bL.of ?_;rw [abe];simp only [e!,zz,c3,c4,bG yG,uc,zg,hM];refine .ite (fun hq=> .out (wQ (W! fun h=>?_))) fun hq0=> .jump ?_
    ·grind
    ·by_cases hr1:r=1
     ·rw [ag hr1] at hX;obtain⟨ys,hL,hP⟩:=ihm (k+1) J;refine⟨ys,hX.trans hL,hP.of ?_⟩
      grind
     ·rw [af hr1] at hX;exact⟨_,hX,wQ (W! fun h=>hr1 (hr.2 ((hy d0 _ _).1 h).2))⟩
  refine (loop cd.l.length 0 J).c ?_;rw [C4];refine⟨fun⟨x,y⟩=>(all_cons ?_).1 y,fun x=> ⟨?_,fun b hb=>x b (arS _ hb)⟩⟩
  ·unfold zw
   grind
  ·have:=(x _ (arF ..)).2.2
   grind
include h0
theorem aeV: ∀(j i:Nat),i+j=d0.l.length->bL 451 [enc d0,(d0.l.length:Int),(i:Int),enc d1] (·= [120])
 |0,i,hi=>by
  have c1: ¬(i:Int)<(d0.l.length:Int):=J
  refine bL.of ?_;rw [akW];simp only [ajy,zz,c1];exact .jump (acH U d1.l.length 0 J)
 |j+1,i,hi=>by
  have hl:=h0.len;have c1:(i:Int)<(d0.l.length:Int):=J
  have c2: ¬((i:Int)<0):=J
  have w:=bF (n:=i) J;refine bL.of ?_;rw [akW];simp only [ajy,zz,c1,c2,w];exact .jump (aeV j (i+1) J)
theorem aoW (hs:d0.l.length<=64): ∀(j i:Nat),i+j=d0.l.length->bL 452 [enc d0,(d0.l.length:Int),(i:Int),enc d1] (P0 ((∀x∈d0.l.drop i,wJ d0 x)/\∀t∈d1.l,zw d0 t))
 |0,i,hi=>by
  have c1: ¬(i:Int)<(d0.l.length:Int):=J
  refine bL.of ?_;rw [akV,aX J];simp only [ajx,zz,c1];exact .jump ((aoV U d1.l.length 0 J).c ad)
 |j+1,i,hi=>by
  have di:i<d0.l.length:=J
  have c1:(i:Int)<(d0.l.length:Int):=J
  have c2: ¬((i:Int)<0):=J
  have w:=bF (n:=i) J;have C4:d0.l.drop i=d0.l[i]::d0.l.drop (i+1):=aC di;obtain⟨ys,hO,b,rfl,pj,uP⟩:=ajO d0 (enc d1) ((d0.l[i]).V 0).n (enc ((d0.l[i]).V 1)) ((d0.l[i]).V 2).n (enc ((d0.l[i]).V 3)) ((d0.l[i]).V 4).n;refine bL.of ?_;rw [akV,C4];simp only [ajx,zz,c1,c2,w,bG di,hO];refine .ite (fun hb=> .jump ((aeV h0 U j (i+1) J).no fun h=>?_)) fun hb=> .jump ((aoW hs j (i+1) J).c ?_)
  ·have:=uP.2 (h.1 _ (arF ..));omega
  ·rw [<- all_cons (p:=wJ d0) (uP.1 J:wJ d0 d0.l[i])]
theorem Px:bL 450 [enc d0,enc d1] (P0 (ID d0 d1)):=by
 refine bL.of ?_;rw [aoM];simp only [amF,zz];refine .ite (fun _=> .jump ((aeV h0 U d0.l.length 0 J).no fun h=>?_)) fun ha=> .ite (fun _=> .jump ((aeV h0 U d0.l.length 0 J).no fun h=>?_)) fun hb=> .jump ((aoW h0 U J d0.l.length 0 J).c ?_)
 ·have:=h.1;omega
 ·have:=h.2.1;omega
 ·rw [arC];exact⟨fun⟨a,b⟩=> ⟨J,J,a,b⟩,fun h=>h.2.2⟩
theorem agc (hs:d0.l.length<=64) (T!:d1.l.length<=16): ∀(j i:Nat),i+j=d0.l.length->bL 4051 [(i:Int),enc d0,enc d1] (P0 ((∀x∈d0.l.drop i,wJ d0 x)/\∀t∈d1.l,zw d0 t))
 |0,i,hi=>by
  have c1: ¬(i:Int)<(d0.l.length:Int):=J
  refine bL.of ?_;rw [abg,aX J];simp only [f_,zz,c1];exact .jump ((agb U T! d1.l.length 0 J).c ad)
 |j+1,i,hi=>by
  have di:i<d0.l.length:=J
  have c1:(i:Int)<(d0.l.length:Int):=J
  have c2: ¬((i:Int)<0):=J
  have w:=bF (n:=i) J;have C4:d0.l.drop i=d0.l[i]::d0.l.drop (i+1):=aC di;obtain⟨ys,hO,b,rfl,pj,uP⟩:=adZ d0 (enc d1) ((d0.l[i]).V 0).n (enc ((d0.l[i]).V 1)) ((d0.l[i]).V 2).n (enc ((d0.l[i]).V 3)) ((d0.l[i]).V 4).n;refine bL.of ?_;rw [abg,C4];simp only [f_,zz,c1,c2,w,bG di,hO];refine .ite (fun hb=> .out (wQ fun h=>?_)) fun hb=> .jump ((agc hs T! j (i+1) J).c ?_)
  ·have:=uP.2 (h.1 _ (arF ..));omega
  ·rw [<- all_cons (p:=wJ d0) (uP.1 J:wJ d0 d0.l[i])]
theorem W8:bL 4050 [enc d0,enc d1] (P0 (ID d0 d1)):=by
 refine bL.of ?_;rw [ahm];simp only [afP,zz];refine .ite (fun _=> .out (wQ fun h=>?_)) fun ha=> .ite (fun _=> .out (wQ fun h=>?_)) fun hb=> .jump ((agc h0 U J J d0.l.length 0 J).c ?_)
 ·have:=h.1;omega
 ·have:=h.2.1;omega
 ·rw [arC];exact⟨fun⟨a,b⟩=> ⟨J,J,a,b⟩,fun h=>h.2.2⟩
theorem Ag: ∃b:Int,(b=0\/b=120)/\(b=0↔ID d0 d1)/\L 450 [enc d0,enc d1]=some [b]/\L 4050 [enc d0,enc d1]=some [b]:=by
 obtain⟨ys,hA,b,rfl,hb,G5⟩:=Px h0 U;obtain⟨ys,hB,c,rfl,hc,OK⟩:=W8 h0 U
 grind
end
theorem Dm {d0 d1:D} (h0:Wd (.sl 3) d0) (U:Wd (.sl 4) d1):bL 450 [enc d0,enc d1] (anD d0 d1):=by
 obtain⟨ys,h,b,rfl,hb,G5⟩:=Px h0 U;refine⟨_,h,b,rfl,hb,fun hz=>?_⟩;obtain⟨q1,q2,q3,q4⟩:=G5.1 hz;refine⟨⟨q1,q2,q3⟩,fun x Y y hy=>?_⟩;have:=((q4 x Y).2.2 y hy).1;unfold sg at this;unfold OkI;rcases this with ⟨h,a,b,_,_,_,_,e,f⟩|⟨h,a,b,_⟩|h|h|h|h|h
 all_goals grind
def one (ys:List Int):Prop:= ∃k:Int,ys= [k]
theorem amm {o:Int} (h:gx .u8 o):IntKind.i64.wrap o=o:=fW (by have:=h.1; omega) (by have:=h.2; omega)
theorem I? (a b c d e:Int):bL 650 [a,b,c,d,e] (fun ys=> ∃k l:Int,ys= [k,l]/\(l=0\/l=1)):=by
 refine bL.of ?_;rw [akO];simp only [ajr,zz]
 repeat' first |exact .out ⟨_,_,rfl,.inl rfl⟩|exact .out ⟨_,_,rfl,.inr rfl⟩|refine .ite (fun _=>?_) (fun _=>?_)
theorem I6 (r:D) (hl:r.l.length<=140737488351232) (x0 x4 x5 x6 x7 x8 x9 qy x11 x12:Int) (v:D): ∀(j i:Nat) (x14:Int),i+j=r.l.length->
 bL 501 [x0,enc r,(r.l.length:Int),(i:Int),x4,x5,x6,x7,x8,x9,qy,x11,x12,enc v,x14] vN
 |0,i,x14,hi=>by
  have c1: ¬(i:Int)<(r.l.length:Int):=J
  refine bL.of ?_;rw [aa0];simp only [WR,zz,c1]
  repeat' first |exact .out wR|exact .out sR|refine .ite (fun _=>?_) (fun _=>?_)
 |j+1,i,x14,hi=>by
  have c1:(i:Int)<(r.l.length:Int):=J
  have c2: ¬((i:Int)<0):=J
  have w:=bF (n:=i) J;have ih:=fun x=>I6 r hl x0 x4 x5 x6 x7 x8 x9 qy x11 x12 v j (i+1) x J;refine bL.of ?_;rw [aa0];simp only [WR,zz,c1,c2,w]
  repeat' first |exact .out wR|exact .out sR|exact .jump (ih _)|refine .ite (fun _=>?_) (fun _=>?_)
theorem Ro (x0 x1 x2 x3 x4 x5 x6 x7 x8 x11:Int) (r v:D) (hl:r.l.length<=140737488351232):bL 500 [x0,x1,x2,x3,x4,x5,x6,x7,x8,enc r,enc v,x11] vN:=by
 obtain⟨ys,hM,a,b,rfl,hb⟩:=I? x0 x1 x2 x3 x4;have ih:=I6 r hl x11 x0 x1 x2 x3 x4 x5 x6 x7 x8 v r.l.length 0 (enc (.i 0)) J;refine bL.of ?_;rw [akQ];simp only [adr,zz,hM]
 repeat' first |exact .out wR|exact .out sR|exact .jump ih|refine .ite (fun _=>?_) (fun _=>?_)
theorem fv {d:D} (V:d=dL d.l) {i:Nat} (hi:i<d.l.length):dL (dE d.l (i:Int) d.l[i])=d:=by rw [pA,att,<- V]
theorem It (a b c d e f x:D):dE [a,b,c,d,e,f] 4 x= [a,b,c,d,x,f]:=rfl
theorem Is (a b c d e f x:D):dE [a,b,c,d,e,f] 5 x= [a,b,c,d,e,x]:=rfl
theorem kG: ¬(enc (.i 2)=enc (.i 1)):=fun h=>by have:=eQ h; simp at this
theorem jE:(((D.i 1).l.length:Nat):Int)=0:=rfl
theorem kH:(((D.i 2).l.length:Nat):Int)=0:=rfl
theorem sc: ¬((0:Int)<0):=J
theorem cR {r:D} (h:Wd (.sl 0) r):r= .i 1\/r= .i 2\/((0:Int)<(r.l.length:Int)/\(r.l.length:Int)<17592186044416):=by
 rcases h.sh with U|U|⟨U,Z⟩
 ·grind
 ·grind
 ·have hr:=h.room;have h3:mU 0=8:=rfl;rw [h3] at hr;have:=arY.2 Z
  grind
structure Th (d:D):Prop where
 wd:Wd (.sl 7) d
 sh:d=dL d.l
 nt:d.l.length<=1759218604390
theorem Az {d:D} (h:Wd (.sl 7) d) (hn:0<d.l.length):Th d:=by
 refine⟨h,?_,?_⟩
 ·rcases h.sh with rfl|rfl|⟨U,_⟩
  all_goals grind [D.l]
 ·have hr:=h.room
  grind [mU]
theorem Ks (d:D) (h:Th d): ∀(j i:Nat),i+j=d.l.length->L 551 [enc d,(d.l.length:Int),(i:Int)]=some [enc d]
 |0,i,hi=>by simp_all [bI,akP,ajs,zz,fin]
 |j+1,i,hi=>by
  have hl:=h.nt;have di:i<d.l.length:=J
  have c1:(i:Int)<(d.l.length:Int):=J
  have c2: ¬((i:Int)<0):=J
  have w:=bF (n:=i) J;have ih:=Ks d h j (i+1) J;obtain⟨o,c,dn,g,r,v,he,_,_,_,_,hr,hv⟩:=h.wd.lx _ (aq di);have hs:=fv h.sh di;rw [he] at hs;rw [bI,akP];rcases cR hr with rfl|rfl|⟨r1,r2⟩ <;>rcases cR hv with rfl|rfl|⟨v1,v2⟩
  all_goals
   simp only [ajs,zz,c1,c2,w,bG di,he,ep,bz,aF,aG,It,Is,hs,jE,kH,sc,kG]
   try simp only [r1,r2,zz]
   try simp only [v1,v2,zz]
   try simp only [fin]
   exact ih
theorem acy (d:D) (h:Wd (.sl 7) d):L 550 [enc d]=some [enc d]:=by
 rw [bI,aoL];rcases h.sh with rfl|rfl|⟨U,Z⟩
 ·simp only [adq,zz,jE,sc,fin];rw [bI,aoK];rfl
 ·simp only [adq,zz,kH,sc,kG,fin];rw [bI,aoJ];rfl
 ·have hp:=arY.2 Z;have ht:=Az h hp;have hl:=ht.nt;have c1:(0:Int)<(d.l.length:Int):=J
  have c2:(d.l.length:Int)<1759218604441:=J
  simp only [adq,zz,c1,c2,fin];exact Ks d ht d.l.length 0 J
theorem Kx (d:D) (h:Th d) (gi:Nat) (x4 x5 x6 x7 x8 x9:Int): ∀(j i:Nat),gi<i->i+j=d.l.length->L 9004 [(gi:Int),enc d,(d.l.length:Int),(i:Int),x4,x5,x6,x7,x8,x9]=some [3,(gi:Int),enc d,x4,x5,x6,x7,x8,x9]
 |0,i,hg,hi=>by simp_all [bI,aaT,Z2,zz,fin]
 |j+1,i,hg,hi=>by
  have hl:=h.nt;have di:i<d.l.length:=J
  have c1:(i:Int)<(d.l.length:Int):=J
  have c2: ¬((i:Int)<0):=J
  have c0: ¬((i:Int)=(gi:Int)):=J
  have w:=bF (n:=i) J;have ih:=Kx d h gi x4 x5 x6 x7 x8 x9 j (i+1) J J;obtain⟨o,c,dn,g,r,v,he,_,_,_,_,hr,hv⟩:=h.wd.lx _ (aq di);have hs:=fv h.sh di;rw [he] at hs;rw [bI,aaT];rcases cR hr with rfl|rfl|⟨r1,r2⟩ <;>rcases cR hv with rfl|rfl|⟨v1,v2⟩
  all_goals
   simp only [Z2,zz,c0,c1,c2,w,bG di,he,ep,bz,aF,aG,It,Is,hs,jE,kH,sc,kG]
   try simp only [r1,r2,zz]
   try simp only [v1,v2,zz]
   try simp only [fin]
   exact ih
theorem Kw (d:D) (h:Th d) (gi:Nat) (x4 x5 x6 x7 x8 x9:Int): ∀(j i:Nat),gi<i->i+j=d.l.length->L 9005 [(gi:Int),enc d,(d.l.length:Int),(i:Int),x4,x5,x6,x7,x8,x9]=some [4,(gi:Int),enc d,x4,x5,x6,x7,x8,x9]
 |0,i,hg,hi=>by simp_all [bI,aaS,Z1,zz,fin]
 |j+1,i,hg,hi=>by
  have hl:=h.nt;have di:i<d.l.length:=J
  have c1:(i:Int)<(d.l.length:Int):=J
  have c2: ¬((i:Int)<0):=J
  have c0: ¬((i:Int)=(gi:Int)):=J
  have w:=bF (n:=i) J;have ih:=Kw d h gi x4 x5 x6 x7 x8 x9 j (i+1) J J;obtain⟨o,c,dn,g,r,v,he,_,_,_,_,hr,hv⟩:=h.wd.lx _ (aq di);have hs:=fv h.sh di;rw [he] at hs;rw [bI,aaS];rcases cR hr with rfl|rfl|⟨r1,r2⟩ <;>rcases cR hv with rfl|rfl|⟨v1,v2⟩
  all_goals
   simp only [Z1,zz,c0,c1,c2,w,bG di,he,ep,bz,aF,aG,It,Is,hs,jE,kH,sc,kG]
   try simp only [r1,r2,zz]
   try simp only [v1,v2,zz]
   try simp only [fin]
   exact ih
theorem Kv (d:D) (h:Th d) (gi:Nat) (x4 x5 x6 x7 x8 x9:Int): ∀(j i:Nat),gi<i->i+j=d.l.length->L 9006 [(gi:Int),enc d,(d.l.length:Int),(i:Int),x4,x5,x6,x7,x8,x9]=some [5,(gi:Int),enc d,x4,x5,x6,x7,x8,x9]
 |0,i,hg,hi=>by simp_all [bI,aaR,Z0,zz,fin]
 |j+1,i,hg,hi=>by
  have hl:=h.nt;have di:i<d.l.length:=J
  have c1:(i:Int)<(d.l.length:Int):=J
  have c2: ¬((i:Int)<0):=J
  have c0: ¬((i:Int)=(gi:Int)):=J
  have w:=bF (n:=i) J;have ih:=Kv d h gi x4 x5 x6 x7 x8 x9 j (i+1) J J;obtain⟨o,c,dn,g,r,v,he,_,_,_,_,hr,hv⟩:=h.wd.lx _ (aq di);have hs:=fv h.sh di;rw [he] at hs;rw [bI,aaR];rcases cR hr with rfl|rfl|⟨r1,r2⟩ <;>rcases cR hv with rfl|rfl|⟨v1,v2⟩
  all_goals
   simp only [Z0,zz,c0,c1,c2,w,bG di,he,ep,bz,aF,aG,It,Is,hs,jE,kH,sc,kG]
   try simp only [r1,r2,zz]
   try simp only [v1,v2,zz]
   try simp only [fin]
   exact ih
theorem Ku (d:D) (h:Th d) (gi:Nat) (x4 x5 x6 x7 x8 x9:Int): ∀(j i:Nat),gi<i->i+j=d.l.length->L 9007 [(gi:Int),enc d,(d.l.length:Int),(i:Int),x4,x5,x6,x7,x8,x9]=some [6,(gi:Int),enc d,x4,x5,x6,x7,x8,x9]
 |0,i,hg,hi=>by simp_all [bI,aaQ,ZZ,zz,fin]
 |j+1,i,hg,hi=>by
  have hl:=h.nt;have di:i<d.l.length:=J
  have c1:(i:Int)<(d.l.length:Int):=J
  have c2: ¬((i:Int)<0):=J
  have c0: ¬((i:Int)=(gi:Int)):=J
  have w:=bF (n:=i) J;have ih:=Ku d h gi x4 x5 x6 x7 x8 x9 j (i+1) J J;obtain⟨o,c,dn,g,r,v,he,_,_,_,_,hr,hv⟩:=h.wd.lx _ (aq di);have hs:=fv h.sh di;rw [he] at hs;rw [bI,aaQ];rcases cR hr with rfl|rfl|⟨r1,r2⟩ <;>rcases cR hv with rfl|rfl|⟨v1,v2⟩
  all_goals
   simp only [ZZ,zz,c0,c1,c2,w,bG di,he,ep,bz,aF,aG,It,Is,hs,jE,kH,sc,kG]
   try simp only [r1,r2,zz]
   try simp only [v1,v2,zz]
   try simp only [fin]
   exact ih
def mI (r v:D):Int:=if 0<r.l.length then (if 0<v.l.length then 3 else 4) else (if 0<v.l.length then 5 else 6)
theorem ahP (d:D) (h:Th d) (gi:Nat) (yZ:gi<d.l.length) (o c dn g:Int) (r v:D) (Ar:d.l[gi]=dL [.i o,.i c,.i dn,.i g,r,v]): ∀(j i:Nat),i<=gi->i+j=gi->
 L 9001 [(gi:Int),enc d,(d.l.length:Int),(i:Int)]=some [mI r v,(gi:Int),enc d,o,c,dn,g,enc r,enc v]
 |0,i,hg,hi=>by
  obtain rfl:i=gi:=J
  have hl:=h.nt;have c1:(i:Int)<(d.l.length:Int):=J
  have c2: ¬((i:Int)<0):=J
  have w:=bF (n:=i) J;obtain⟨o',c',EL,g',r',v',he,_,_,_,_,hr,hv⟩:=h.wd.lx _ (aq yZ);rw [Ar] at he;have he:=HK he;simp only [List.cons.injEq,D.i.injEq,and_true] at he;obtain⟨rfl,rfl,rfl,rfl,rfl,rfl⟩:=he;have b4:=fun a b=>Kx d h i o c dn g a b (d.l.length-(i+1)) (i+1) J J;have b5:=fun a b=>Kw d h i o c dn g a b (d.l.length-(i+1)) (i+1) J J;have b6:=fun a b=>Kv d h i o c dn g a b (d.l.length-(i+1)) (i+1) J J;have b7:=fun a b=>Ku d h i o c dn g a b (d.l.length-(i+1)) (i+1) J J;rw [bI,Pm];rcases cR hr with rfl|rfl|⟨r1,r2⟩
  ·rcases cR hv with rfl|rfl|⟨v1,v2⟩
   ·simp only [tq,zz,c1,c2,w,bG yZ,Ar,ep,bz,aF,aG,jE,sc,fin,b7]
    grind [mI,D.l]
   ·simp only [tq,zz,c1,c2,w,bG yZ,Ar,ep,bz,aF,aG,jE,sc,kH,kG,fin,b7]
    grind [mI,D.l]
   ·simp only [tq,zz,c1,c2,w,bG yZ,Ar,ep,bz,aF,aG,jE,sc,v1,v2,fin,b6]
    grind [mI,D.l]
  ·rcases cR hv with rfl|rfl|⟨v1,v2⟩
   ·simp only [tq,zz,c1,c2,w,bG yZ,Ar,ep,bz,aF,aG,kH,sc,kG,jE,fin,b7]
    grind [mI,D.l]
   ·simp only [tq,zz,c1,c2,w,bG yZ,Ar,ep,bz,aF,aG,kH,sc,kG,fin,b7]
    grind [mI,D.l]
   ·simp only [tq,zz,c1,c2,w,bG yZ,Ar,ep,bz,aF,aG,kH,sc,kG,v1,v2,fin,b6]
    grind [mI,D.l]
  ·rcases cR hv with rfl|rfl|⟨v1,v2⟩
   ·simp only [tq,zz,c1,c2,w,bG yZ,Ar,ep,bz,aF,aG,r1,r2,jE,sc,fin,b5]
    grind [mI,D.l]
   ·simp only [tq,zz,c1,c2,w,bG yZ,Ar,ep,bz,aF,aG,r1,r2,kH,sc,kG,fin,b5]
    grind [mI,D.l]
   ·simp only [tq,zz,c1,c2,w,bG yZ,Ar,ep,bz,aF,aG,r1,r2,v1,v2,fin,b4]
    grind [mI]
 |j+1,i,hg,hi=>by
  have hl:=h.nt;have di:i<d.l.length:=J
  have c1:(i:Int)<(d.l.length:Int):=J
  have c2: ¬((i:Int)<0):=J
  have c0: ¬((i:Int)=(gi:Int)):=J
  have w:=bF (n:=i) J;have ih:=ahP d h gi yZ o c dn g r v Ar j (i+1) J J;clear Ar;obtain⟨o2,c2',dn2,g2,r2',v2',he,_,_,_,_,hr,hv⟩:=h.wd.lx _ (aq di);have hs:=fv h.sh di;rw [he] at hs;rw [bI,Pm];rcases cR hr with rfl|rfl|⟨r1,r2⟩ <;>rcases cR hv with rfl|rfl|⟨v1,v2⟩
  all_goals
   simp only [tq,zz,c0,c1,c2,w,bG di,he,ep,bz,aF,aG,It,Is,hs,jE,kH,sc,kG]
   try simp only [r1,r2,zz]
   try simp only [v1,v2,zz]
   try simp only [fin]
   exact ih
theorem ahO (d:D) (h:Th d) (gi:Nat) (yZ:gi<d.l.length) (o c dn g:Int) (r v:D) (Ar:d.l[gi]=dL [.i o,.i c,.i dn,.i g,r,v]) :
 L 9000 [(gi:Int),enc d]=some [mI r v,(gi:Int),enc d,o,c,dn,g,enc r,enc v]:=by
 have hl:=h.nt;have c1:(0:Int)<(d.l.length:Int):=J
 have c2:(d.l.length:Int)<1759218604441:=J
 rw [bI,aaU];simp only [NC,zz,c1,c2,fin];exact ahP d h gi yZ o c dn g r v Ar gi 0 J J
theorem HP (d:D) (h:Th d) (x:Int) (Y:x<0\/(d.l.length:Int)<=x): ∀(j i:Nat),i+j=d.l.length->L 9001 [x,enc d,(d.l.length:Int),(i:Int)]=some [0,x,enc d]
 |0,i,hi=>by simp_all [bI,Pm,tq,zz,fin]
 |j+1,i,hi=>by
  have hl:=h.nt;have di:i<d.l.length:=J
  have c1:(i:Int)<(d.l.length:Int):=J
  have c2: ¬((i:Int)<0):=J
  have c0: ¬((i:Int)=x):=J
  have w:=bF (n:=i) J;have ih:=HP d h x Y j (i+1) J;obtain⟨o,c,dn,g,r,v,he,_,_,_,_,hr,hv⟩:=h.wd.lx _ (aq di);have hs:=fv h.sh di;rw [he] at hs;rw [bI,Pm];rcases cR hr with rfl|rfl|⟨r1,r2⟩ <;>rcases cR hv with rfl|rfl|⟨v1,v2⟩
  all_goals
   simp only [tq,zz,c0,c1,c2,w,bG di,he,ep,bz,aF,aG,It,Is,hs,jE,kH,sc,kG]
   try simp only [r1,r2,zz]
   try simp only [v1,v2,zz]
   try simp only [fin]
   exact ih
theorem aoP (d:D) (h:Wd (.sl 7) d) (x:Int) (Y:x<0\/(d.l.length:Int)<=x):bL 9000 [x,enc d] (fun ys=>ys= [0,x,enc d]\/(ys= [1,x]/\d= .i 1)\/(ys= [2,x]/\d= .i 2)):=by
 refine bL.of ?_;rw [aaU];rcases h.sh with rfl|rfl|⟨U,Z⟩
 ·simp only [NC,zz,jE,sc];refine .jump (bL.of ?_);rw [agP];simp only [afn,zz];exact .ite (fun _=> .out (.inr (.inl rfl))) fun _=> .out (.inr (.inl rfl))
 ·simp only [NC,zz,kH,sc,kG];refine .jump (bL.of ?_);rw [agO];simp only [afm,zz];exact .ite (fun _=> .out (.inr (.inr rfl))) fun _=> .out (.inr (.inr rfl))
 ·have hp:=arY.2 Z;have ht:=Az h hp;have hl:=ht.nt;have c1:(0:Int)<(d.l.length:Int):=J
  have c2:(d.l.length:Int)<1759218604441:=J
  simp only [NC,zz,c1,c2];exact .jump ⟨_,HP d ht x Y d.l.length 0 J,.inl rfl⟩
def ady (d x:D) (m:Nat):List Int:=[(d.V 0).n,enc (d.V 1),(d.V 2).n,enc (d.V 3),(d.V 4).n,(x.V 0).n,(x.V 1).n,(if (x.V 2).n=0 then 0 else 1),(x.V 3).n,enc (x.V 4),enc (x.V 5),(m:Int)]
def Snd (d x:D) (m:Nat):Prop:=L 500 (ady d x m)=some [1]
theorem adx (d x:D) (m:Nat) (h:(x.V 4).l.length<=140737488351232): ∃c,L 500 (ady d x m)=some [c]/\(c=0\/c=1):=by obtain⟨ys,U,c,rfl,hc⟩:=Ro (d.V 0).n (enc (d.V 1)) (d.V 2).n (enc (d.V 3)) (d.V 4).n (x.V 0).n (x.V 1).n (if (x.V 2).n=0 then 0 else 1) (x.V 3).n (m:Int) (x.V 4) (x.V 5) h;exact⟨c,U,hc⟩
theorem bR:((1:Int)=0)=False:=ad
def CC (s:D):Prop:= ∀x∈s.l,(x.V 4).l.length<=140737488351232
section
variable {d0 d1 s:D} (hr:CC s) (hle:s.l.length=d0.l.length) (hlen:d0.l.length<=140737488351232)
include hr hle hlen
theorem F6: ∀(j i:Nat),i+j=s.l.length->∃b:Int,L 351 [enc s,(s.l.length:Int),(i:Int),enc d0,enc d1]=some [b]/\(b=0\/b=1)/\
 (b=1↔∀(k:Nat) (hk:k<s.l.length),i<=k->Snd (d0.l[k]'(hle▸hk)) s.l[k] d1.l.length)
 |0,i,hi=>by
  have c1: ¬(i:Int)<(s.l.length:Int):=J
  refine⟨1,?_,.inr rfl,fun _ k hk h=>absurd hk J,fun _=>rfl⟩;rw [bI,aey];simp only [WS,zz,c1,fin]
 |j+1,i,hi=>by
  have di:i<s.l.length:=J
  have hid:i<d0.l.length:=J
  have c1:(i:Int)<(s.l.length:Int):=J
  have c2: ¬((i:Int)<0):=J
  have c3:(i:Int)<(d0.l.length:Int):=J
  have w:=bF (n:=i) J;obtain⟨c,hS,hc⟩:=adx d0.l[i] s.l[i] d1.l.length (hr _ (aq di));obtain⟨b,G5,EF,ih⟩:=F6 j (i+1) J;have hS':=hS;unfold ady at hS;by_cases LS:c=0
  ·subst LS;refine⟨0,?_,.inl rfl,fun h=>absurd h J,fun h=>?_⟩
   ·rw [bI,aey];by_cases hn:((s.l[i]).V 2).n=0
    ·rw [ag hn] at hS;simp only [WS,zz,c1,c2,c3,w,bG di,bG hid,hn,hS,fin]
    ·rw [af hn] at hS;simp only [WS,zz,c1,c2,c3,w,bG di,bG hid,hn,hS,fin]
   ·have:=h i di (ax i);unfold Snd at this
    grind
  ·have OK:c=1:=J
   subst OK;refine⟨b,?_,EF,fun h k hk hik=>?_,fun h=>ih.2 fun k hk hik=>h k hk J⟩
   ·rw [bI,aey];by_cases hn:((s.l[i]).V 2).n=0
    ·rw [ag hn] at hS;simp only [WS,zz,c1,c2,c3,w,bG di,bG hid,hn,hS,fin,bR,G5]
    ·rw [af hn] at hS;simp only [WS,zz,c1,c2,c3,w,bG di,bG hid,hn,hS,fin,bR,G5]
   ·by_cases hke:k=i
    ·subst hke;exact hS'
    grind
end
theorem lz {d0 d1 s:D} (h0:Wd (.sl 3) d0) (U:Wd (.sl 4) d1) (hr:CC s): ∃b:Int,L 350 [enc d0,enc d1,enc s]=some [b]/\(b=0\/b=1)/\
 (b=1↔L 450 [enc d0,enc d1]=some [0]/\∃hle:s.l.length=d0.l.length,∀(k:Nat) (hk:k<s.l.length),Snd (d0.l[k]'(hle▸hk)) s.l[k] d1.l.length):=by
 obtain⟨ys,hC,c,rfl,hc,si⟩:=Dm h0 U;by_cases LS:c=0
 ·subst LS;by_cases hl:s.l.length=d0.l.length
  ·have hlen:=h0.len;obtain⟨b,G5,EF,hb3⟩:=F6 (d1:=d1) hr hl hlen s.l.length 0 J;refine⟨b,?_,EF,fun h=> ⟨hC,hl,fun k hk=>hb3.1 h k hk J⟩,fun⟨_,_,h⟩=>hb3.2 fun k hk _=>h k hk⟩;have Nd:(s.l.length:Int)=(d0.l.length:Int):=J
   rw [bI,aez,ads,fh,ag,fh,ag,fh,ag,mc]
   ·simp only [List.map,dz,ig,iw,bT,Nat.reduceLT,bP,bQ,bA,fin]
    grind
   ·simp only [im,ot,dz,gX,iy,ig,List.map,iw,bT,Nat.reduceLT,bP,bQ,bA]
    grind
   ·simp only [im,ot,dz,gX,iy,ig,List.map,iw,bT,Nat.reduceLT,bP,bQ,bA];rw [hC];simp only [bP,bQ,arJ,ay,if_true]
   ·simp only [im,ot,dz,gX,iy,ig,List.map,iw,bT,Nat.reduceLT,bP,bQ,bA]
    grind
  ·refine⟨0,?_,.inl rfl,fun h=>absurd h J,fun⟨_,h,_⟩=>absurd h hl⟩;have Nd: ¬(s.l.length:Int)=(d0.l.length:Int):=J
   rw [bI,aez,ads,fh,ag,fh,ag,fh,af]
   ·simp only [kP,List.map,dz,fin]
   ·simp only [im,ot,dz,gX,iy,ig,List.map,iw,bT,Nat.reduceLT,bP,bQ,bA]
    grind
   ·simp only [im,ot,dz,gX,iy,ig,List.map,iw,bT,Nat.reduceLT,bP,bQ,bA];rw [hC];simp only [bP,bQ,arJ,ay,if_true]
   ·simp only [im,ot,dz,gX,iy,ig,List.map,iw,bT,Nat.reduceLT,bP,bQ,bA]
    grind
 ·refine⟨0,?_,.inl rfl,fun h=>absurd h J,fun⟨h,_⟩=>?_⟩
  ·rw [bI,aez,ads,fh,ag,fh,af]
   ·simp only [kP,List.map,dz,fin]
   ·simp only [im,ot,dz,gX,iy,ig,List.map,iw,bT,Nat.reduceLT,bP,bQ,bA];rw [hC];simp only [bP,bQ,arJ,ay,if_true]
    grind
   ·simp only [im,ot,dz,gX,iy,ig,List.map,iw,bT,Nat.reduceLT,bP,bQ,bA]
    grind
  grind
def OkT (d0:D) (nl nc:Nat) (a:Int) (ll:Nat) (w o g t:Int):Prop:=
 0<=a/\a<=(nc:Int)/\(ll:Int)=(nl:Int)/\0<=t/\t<=4611686018427387904/\
  (w=0/\o=0/\g=0\/w=24/\0<=o/\o<(d0.l.length:Int)/\((d0.at o).V 0).n=4\/w=25/\0<=o/\o<(d0.l.length:Int)/\((d0.at o).V 0).n=5)
def Oy (p:Prop) (ys:List Int):Prop:= ∃b:Int,ys= [b]/\(b=0/\¬p\/b=1/\p)
theorem sC {p:Prop} (h: ¬p):Oy p [0]:=⟨0,rfl,.inl ⟨rfl,h⟩⟩
theorem Ox {p:Prop} (h:p):Oy p [1]:=⟨1,rfl,.inr ⟨rfl,h⟩⟩
theorem adl (d0 d3 d4 d6:D) (x1 x2 x5 x7 x8 x9 qy:Int):bL 1600 [enc d0,x1,x2,enc d3,enc d4,x5,enc d6,x7,x8,x9,qy] (Oy (OkT d0 d3.l.length d4.l.length x5 d6.l.length x7 x8 x9 qy)):=by
 unfold OkT;refine bL.of ?_;rw [ahB];simp only [afZ,zz]
 repeat' first
  |exact .out (sC J)
  |exact .out (Ox J)
  |refine .ite (fun _=>?_) (fun _=>?_)
def Zb (d0 x k:D):Prop:=OkT d0 (x.V 1).l.length (x.V 2).l.length (k.V 0).n (k.V 1).l.length (k.V 2).n (k.V 3).n (k.V 4).n (k.V 5).n
section
variable {d0 d1 k:D} (hle:k.l.length=d1.l.length) (hlen:d1.l.length<=140737488351232)
include hle hlen
theorem DZ: ∀(j i:Nat),i+j=k.l.length->bL 1501 [enc k,(k.l.length:Int),(i:Int),enc d0,enc d1] (Oy (∀(n:Nat) (hn:n<k.l.length),i<=n->Zb d0 (d1.l[n]'(hle▸hn)) k.l[n]))
 |0,i,hi=>by
  have c1: ¬(i:Int)<(k.l.length:Int):=J
  refine bL.of ?_;rw [abL];simp only [o_,zz,c1];exact .out (Ox fun n hn h=>by omega)
 |j+1,i,hi=>by
  have di:i<k.l.length:=J
  have hid:i<d1.l.length:=J
  have c1:(i:Int)<(k.l.length:Int):=J
  have c2: ¬((i:Int)<0):=J
  have c3:(i:Int)<(d1.l.length:Int):=J
  have w:=bF (n:=i) J;obtain⟨ys,hT,b,rfl,hb⟩:=adl d0 ((d1.l[i]).V 1) ((d1.l[i]).V 2) ((k.l[i]).V 1) (enc d1) (enc ((d1.l[i]).V 0)) ((k.l[i]).V 0).n ((k.l[i]).V 2).n ((k.l[i]).V 3).n ((k.l[i]).V 4).n ((k.l[i]).V 5).n;obtain⟨ys,ih,b',rfl,Bi⟩:=DZ j (i+1) J;refine bL.of ?_;rw [abL];simp only [o_,zz,c1,c2,c3,bG di,bG hid,w,hT];refine .ite (fun h0=> .out (sC fun h=>?_)) (fun h0=> .jump ⟨_,ih,b',rfl,?_⟩)
  ·rcases hb with ⟨_,hb⟩|⟨hb,_⟩
   ·exact hb (h i di (ax _))
   ·omega
  ·rcases hb with ⟨hb,_⟩|⟨_,hb⟩
   ·grind
   ·rcases Bi with ⟨q,Bi⟩|⟨q,Bi⟩
    ·grind
    ·refine .inr ⟨q,fun n hn hni=>?_⟩;by_cases he:n=i
     ·subst he; exact hb
     grind
end
def MR (d0 d1 s k:D):Prop:=L 350 [enc d0,enc d1,enc s]=some [1]/\∃hle:k.l.length=d1.l.length,∀(n:Nat) (hn:n<k.l.length),Zb d0 (d1.l[n]'(hle▸hn)) k.l[n]
theorem CQ {d0 d1 s k:D} (h0:Wd (.sl 3) d0) (U:Wd (.sl 4) d1) (hr:CC s) (hlen:d1.l.length<=140737488351232):bL 1500 [enc d0,enc d1,enc s,enc k] (Oy (MR d0 d1 s k)):=by
 obtain⟨b,hb,G5,_⟩:=lz h0 U hr;refine bL.of ?_;rw [ahD];simp only [af1,zz,hb];refine .ite (fun h=> .out (sC fun q=>?_)) (fun h=> .ite (fun hl=>?_) (fun hl=> .out (sC fun q=>?_)))
 ·have:=q.1
  grind
 ·have hle:k.l.length=d1.l.length:=J
  obtain⟨ys,hL,b',rfl,Bi⟩:=DZ (d0:=d0) hle hlen k.l.length 0 J;refine .jump ⟨_,hL,b',rfl,?_⟩;have vQ:b=1:=J
  subst vQ;rcases Bi with ⟨q,Bi⟩|⟨q,Bi⟩
  ·exact .inl ⟨q,fun h=>Bi fun n hn _=>h.2.2 n hn⟩
  ·exact .inr ⟨q,hb,hle,fun n hn=>Bi n hn (arZ _)⟩
 ·have:=q.2.1;omega
theorem F7 {d0 d1 s k:D} (h0:Wd (.sl 3) d0) (U:Wd (.sl 4) d1) (hr:CC s) (hlen:d1.l.length<=140737488351232) (t:Int):bL 1550 [enc d0,enc d1,enc s,enc k,t] (Oy (0<=t/\t<(d1.l.length:Int)/\MR d0 d1 s k)):=by
 obtain⟨ys,hM,b,rfl,hb⟩:=CQ h0 U hr hlen (k:=k);refine bL.of ?_;rw [ahC];simp only [af0,zz,hM];refine .ite (fun h=> .out (sC fun q=>by omega)) (fun h=> .ite (fun Z=> .ite (fun h3=> .out (sC fun q=>?_)) (fun h3=> .out (Ox ?_))) (fun Z=> .out (sC fun q=>by omega)))
 all_goals grind
end Go.As.Try
end

import Derived.Test.YtopneoeampkonacGreatDoorCards
import Derived.Test.YtopneoeampkonacGreatDoorTie
import Derived.ProofKit
import Derived.Deep.DeepHandedRow
import Derived.LaidLaws
import Derived.Test.YtopneoeampkonacGreatDoorAsZW3
set_option linter.unusedSectionVars false
set_option linter.unusedVariables false
set_option linter.unusedSimpArgs false
section
namespace Go.As.Try
open Go Go.As Go.Proofs Go.RowKit
set_option maxRecDepth 100000
def maxLen:Nat:=Tryz.laysM144_ren.g 1
def base:NW where
 ok ro h:=ro maxLen/\∃m,kH h maxLen 0=some (.int .i64 m)
 cx:=by intro ro oh h h' hk U Z;obtain⟨a,m,hm⟩:=hk;refine⟨U _ a,m,?_⟩;unfold kH at *;rw [Z _ a];exact hm
noncomputable def T!:TT:=HV 283 tab
noncomputable def ft:Nat->Option Func:=HV 239 J0
def aiI:List (Nat×Nat):=[(22,3),(23,4),(26,0),(29,9),(37,7),(38,8),(46,2),(47,5),(51,6),(71,0),(238,14),(244,14),(116,0),(142,1),(228,1),(76,101)]
noncomputable def ttE:TT:=LY aiI T!
noncomputable def hints:Nat->Nat->Option Bb:=hAt ai1
theorem D5:eJ Tryz.prog T!:=T_ WI
theorem WK:eJ Tryz.prog ttE:=aaA D5
theorem SH:VI Tryz.prog (KR T! hints) ft:=aa1 MG Zq
theorem agb:VI Tryz.prog (KR ttE hints) ft:=by unfold ttE; rw [u?]; exact SH
def b (n:Nat):AV:=.int .u8 (.lit (.ofNat n))
def F9:AV:=.agg [b 0,b 0,b 0,b 0,b 0,b 0,b 0,b 0,b 0,b 1,b 1,b 0,b 0,b 1,b 0,b 0,b 0,b 0,b 0,b 0,b 0,b 0,b 0,b 0,b 0,b 0,b 0,b 0,b 0,b 0,b 0,b 0,b 1,b 0,b 0,b 2,b 0,b 0,b 0,b 0,b 5,b 5,b 5,b 5,b 0,b 5,b 0,b 0,b 3,b 3,b 3,b 3,b 3,b 3,b 3,b 3,b 3,b 3,b 0,b 5,b 5,b 5,b 0,b 0,b 0,b 4,b 4,b 4,b 4,b 4,b 4,b 4,b 4,b 4,b 4,b 4,b 4,b 4,b 4,b 4,b 4,b 4,b 4,b 4,b 4,b 4,b 4,b 4,b 4,b 4,b 4,b 0,b 0,b 0,b 0,b 4,b 0,b 4,b 4,b 4,b 4,b 4,b 4,b 4,b 4,b 4,b 4,b 4,b 4,b 4,b 4,b 4,b 4,b 4,b 4,b 4,b 4,b 4,b 4,b 4,b 4,b 4,b 4,b 5,b 0,b 5,b 0,b 0,b 0,b 0,b 0,b 0,b 0,b 0,b 0,b 0,b 0,b 0,b 0,b 0,b 0,b 0,b 0,b 0,b 0,b 0,b 0,b 0,b 0,b 0,b 0,b 0,b 0,b 0,b 0,b 0,b 0,b 0,b 0,b 0,b 0,b 0,b 0,b 0,b 0,b 0,b 0,b 0,b 0,b 0,b 0,b 0,b 0,b 0,b 0,b 0,b 0,b 0,b 0,b 0,b 0,b 0,b 0,b 0,b 0,b 0,b 0,b 0,b 0,b 0,b 0,b 0,b 0,b 0,b 0,b 0,b 0,b 0,b 0,b 0,b 0,b 0,b 0,b 0,b 0,b 0,b 0,b 0,b 0,b 0,b 0,b 0,b 0,b 0,b 0,b 0,b 0,b 0,b 0,b 0,b 0,b 0,b 0,b 0,b 0,b 0,b 0,b 0,b 0,b 0,b 0,b 0,b 0,b 0,b 0,b 0,b 0,b 0,b 0,b 0,b 0,b 0,b 0,b 0,b 0,b 0,b 0,b 0,b 0,b 0,b 0,b 0,b 0,b 0,b 0,b 0]
theorem Aw {g:Nat} {f:Func} (h:J0.get g=some f) (hg:g<239):Tryz.prog.funcs[g]?=some f:=by have:=congrArg (fun l=>l[g]?) MG;simp only [bp,an1 hg,am4,aq] at this;rw [<- this];exact h
theorem ae4 {g:Nat} {f:Func} (hf:Tryz.prog.funcs[g]?=some f) (hn:(f.name == "runtime.NumGoroutine")=false) (hb:f.body.isNone=false): ∀(args:Array Value) (w:World),(callFunc g args).run Tryz.prog w= .ok (.enter g args) w:=by intro args w;unfold callFunc;simp only [Sem.run_bind,run_program,Result.andThen_ok,hf];rw [hn,hb];simp
def So (g:Nat):Option (List AV->St->T (AV×St)):=
 match Nat.beq g 181 with
 |true=>some ua
 |false=>match Nat.beq g 205 with
  |true=>some tZ
  |false=>match Nat.beq g 126 with
   |true=>some ox
   |false=>none
theorem ae8:Tryz.laysM144_ren.f 144=126:=ad
section
variable (I:bK) (hI: ∀ρ ro h,I.ok ρ ro h->base.ok ro h)
theorem f181:@kQ I Tryz.prog 181 ua:=@Vu _ I 181 Tryz.f181 (Aw ad ah) ad ad ad ad
theorem f205:@kQ I Tryz.prog 205 tZ:=@UT _ I 205 Tryz.f205 (Aw ad ah) ad ad ad ad
include hI in
theorem f126:@kQ I Tryz.prog 126 ox:=by letI:=I;refine KO ?_ (ae4 (f:=Tryz.f126) (Aw ad ah) ad ad);intro ρ ro w hw s sub hs;obtain⟨_,m,hm⟩:=hI _ _ _ hw;have:=Any.strings_Contains { Tryz.laysM144 with } s sub m w hs (by rw [oU]; exact hm);rw [ae8] at this;exact this
include hI in
theorem Mv: ∀(g:Nat) (h:List AV->St->T (AV×St)),So g=some h->@kQ I Tryz.prog g h:=by
 intro g h hh;unfold So at hh;split at hh
 ·rename_i hg;have:=aA hg;subst this;simp at hh;subst hh;exact f181 I
 ·split at hh
  ·rename_i hg;have:=aA hg;subst this;simp at hh;subst hh;exact f205 I
  ·split at hh
   ·rename_i hg;have:=aA hg;subst this;simp at hh;subst hh;exact f126 I hI
   ·simp at hh
end
noncomputable def aiw (g:Nat):List AV->St->T (AV×St):=Ko T! ft So (IB T! hints) 100000 60 g
theorem aan (I:bK) (hI: ∀ρ ro h,I.ok ρ ro h->base.ok ro h) (g:Nat):@kQ I Tryz.prog g (aiw g):=@AN _ I _ D5 _ _ SH _ (Mv I hI) _ (fun _ hc=>@AU _ I _ D5 mixed _ _ hc) 100000 60 g
theorem Nu:Ic [] F9 (aiw 121)=true:=ad
theorem xD {f:Func} (h:f.body.isSome=true): ∃c,f.body=some c:=ant.1 h
theorem P8 (I:bK) (hI: ∀ρ ro h,I.ok ρ ro h->base.ok ro h):@kQ I Tryz.prog 121 (GN [] F9):=by letI:=I;obtain⟨c,hb⟩:=xD (f:=Tryz.f121) ad;exact DE (aan I hI 121) (fn:=Tryz.f121) (Aw ad ah) ad hb Nu
def Mu (g:Nat):Option (List AV->St->T (AV×St)):=
 match Nat.beq g 121 with
 |true=>some (GN [] F9)
 |false=>So g
theorem Fa (I:bK) (hI: ∀ρ ro h,I.ok ρ ro h->base.ok ro h): ∀(g:Nat) (h:List AV->St->T (AV×St)),Mu g=some h->@kQ I Tryz.prog g h:=by
 intro g h hh;unfold Mu at hh;split at hh
 ·rename_i hg;have:=aA hg;subst this;simp at hh;subst hh;exact P8 I hI
 ·exact Mv I hI g h hh
noncomputable def OL (g:Nat):List AV->St->T (AV×St):=Ko T! ft Mu (IB T! hints) 100000 60 g
theorem wZ (I:bK) (hI: ∀ρ ro h,I.ok ρ ro h->base.ok ro h) (g:Nat):@kQ I Tryz.prog g (OL g):=@AN _ I _ D5 _ _ SH _ (Fa I hI) _ (fun _ hc=>@AU _ I _ D5 mixed _ _ hc) 100000 60 g
theorem afl:Ic [.str [97]] (.bool (.lit true)) (OL 102)=true:=ad
theorem afk:Ic [.str [98]] (.bool (.lit true)) (OL 102)=true:=ad
def R8:List AV:=[.agg [.ro [.int .u8 (.lit 1),.str [109],.int .i64 (.lit 0),.str [],.int .i64 (.lit 1)] 1 false,.ro [.str [97],.ro [.int .u8 (.lit 1),.int .u8 (.lit 1),.str [109],.str [],.int .i64 (.lit 0),.gN,.gN,.gN,.int .i64 (.lit 1),.int .u8 (.lit 1),.int .u8 (.lit 2),.str [109],.str [],.int .i64 (.lit 0),.gN,.gN,.gN,.int .i64 (.lit 1)] 2 false,.int .i64 (.lit 1),.str [98],.ro [.int .u8 (.lit 1),.int .u8 (.lit 1),.str [109],.str [],.int .i64 (.lit 0),.gN,.gN,.gN,.int .i64 (.lit 1)] 1 false,.int .i64 (.lit 1)] 2 false]]
theorem aiS:JX R8 (.agg [.int .i64 (.lit 0),.int .i64 (.lit 0)]) (OL 75)=true:=ad
def R5:List (List AV×AV):=[(R8,.agg [.int .i64 (.lit 0),.int .i64 (.lit 0)])]
def R9:List AV:=[.agg [.ro [.int .u8 (.lit 1),.str [109],.int .i64 (.lit 0),.str [],.int .i64 (.lit 1)] 1 false,.ro [.str [97],.gN,.ro [.int .u8 (.lit 1),.int .u8 (.lit 1),.int .i64 (.lit 0),.int .i64 (.lit (-1)),.int .i64 (.lit 0),.int .i64 (.lit 0),.gN,.int .u8 (.lit 1),.int .u8 (.lit 2),.int .i64 (.lit 0),.int .i64 (.lit (-1)),.int .i64 (.lit 0),.int .i64 (.lit 0),.gN] 2 false,.str [98],.gN,.ro [.int .u8 (.lit 1),.int .u8 (.lit 1),.int .i64 (.lit 0),.int .i64 (.lit (-1)),.int .i64 (.lit 0),.int .i64 (.lit 0),.gN] 1 false] 2 false]]
theorem aiT:JX R9 (.int .i64 (.lit 0)) (OL 18)=true:=ad
def R6:List (List AV×AV):=[(R9,.int .i64 (.lit 0))]
noncomputable def Y4 (g:Nat):Option (List AV->St->T (AV×St)):=
 match Nat.beq g 75 with
 |true=>some (orElse (RQ R5) (OL 75))
 |false=>match Nat.beq g 18 with
 |true=>some (orElse (RQ R6) (OL 18))
 |false=>Mu g
theorem Y3 (I:bK) (hI: ∀ρ ro h,I.ok ρ ro h->base.ok ro h): ∀(g:Nat) (h:List AV->St->T (AV×St)),Y4 g=some h->@kQ I Tryz.prog g h:=by
 intro g h hh;letI:=I;unfold Y4 at hh;split at hh
 ·rename_i hg;have:=aA hg;subst this;simp only [aq] at hh;subst hh;obtain⟨c,hb⟩:=xD (f:=Tryz.f75) ad;refine w7 (L6 (wZ I hI 75) (fn:=Tryz.f75) (Aw ad ah) ad hb fun p hp=>?_) (wZ I hI 75);simp only [R5,aH,am6,or_false] at hp;rcases hp with rfl
  ·exact aiS
 ·skip;split at hh
  ·rename_i hg;have:=aA hg;subst this;simp only [aq] at hh;subst hh;obtain⟨c,hb⟩:=xD (f:=Tryz.f18) ad;refine w7 (L6 (wZ I hI 18) (fn:=Tryz.f18) (Aw ad ah) ad hb fun p hp=>?_) (wZ I hI 18);simp only [R6,aH,am6,or_false] at hp;rcases hp with rfl
   ·exact aiT
  ·skip;exact Fa I hI g h hh
noncomputable def aiv (g:Nat):List AV->St->T (AV×St):=Ko T! ft Y4 (IB T! hints) 100000 60 g
theorem aam (I:bK) (hI: ∀ρ ro h,I.ok ρ ro h->base.ok ro h) (g:Nat):@kQ I Tryz.prog g (aiv g):=@AN _ I _ D5 _ _ SH _ (Y3 I hI) _ (fun _ hc=>@AU _ I _ D5 mixed _ _ hc) 100000 60 g
theorem QB:Ic [] (.bool (.lit true)) (aiv 5)=true:=ad
section
variable (I:bK) (hI: ∀ρ ro h,I.ok ρ ro h->base.ok ro h)
include hI
theorem UK:@kQ I Tryz.prog 102 (GN [.str [97]] (.bool (.lit true))):=by letI:=I;obtain⟨c,hb⟩:=xD (f:=Tryz.f102) ad;exact DE (wZ I hI 102) (fn:=Tryz.f102) (Aw ad ah) ad hb afl
theorem UJ:@kQ I Tryz.prog 102 (GN [.str [98]] (.bool (.lit true))):=by letI:=I;obtain⟨c,hb⟩:=xD (f:=Tryz.f102) ad;exact DE (wZ I hI 102) (fn:=Tryz.f102) (Aw ad ah) ad hb afk
theorem Vw:@kQ I Tryz.prog 5 (GN [] (.bool (.lit true))):=by letI:=I;obtain⟨c,hb⟩:=xD (f:=Tryz.f5) ad;exact DE (aam I hI 5) (fn:=Tryz.f5) (Aw ad ah) ad hb QB
end
def Pj (g:Nat):Option (List AV->St->T (AV×St)):=
 match Nat.beq g 5 with
  |true=>some (GN [] (.bool (.lit true)))
  |false=>match Nat.beq g 102 with
  |true=>some (orElse (GN [.str [97]] (.bool (.lit true))) (GN [.str [98]] (.bool (.lit true))))
  |false=>Mu g
theorem UY (I:bK) (hI: ∀ρ ro h,I.ok ρ ro h->base.ok ro h): ∀(g:Nat) (h:List AV->St->T (AV×St)),Pj g=some h->@kQ I Tryz.prog g h:=by
 intro g h hh;unfold Pj at hh;split at hh
 ·rename_i hg;have:=aA hg;subst this;simp at hh;subst hh;exact Vw I hI
 ·skip;split at hh
  ·rename_i hg;have:=aA hg;subst this;simp at hh;subst hh;letI:=I;exact w7 (UK I hI) (UJ I hI)
  ·exact Fa I hI g h hh
end Go.As.Try
end
section
namespace Go.As.Try
open Go hiding Stat Spec shape
open Go.As Go.Proofs
set_option maxRecDepth 100000
def ahH:List fZ:=iz _ (jY "GY3E328asoY_51DCXfmc1YR2On0thxUd5WjHKCpyohUPPyiDgfF61mOv2aEZ3VSOCA_sHqNm__YCz4kEf3fyuKc1Qn5jxo0y_V6nCzETAHJ38DGWLTvFy6H6MzUR02ebvp_2hMDlRbUW8VSzb3Kcr9MuZFc9RHBOCnPVLtvcT5Eil5vGVxbCW3eoTvh9FE1F0SBGUgoLaGrveMnKN4Mu3GruwTiyWC7TOPUcl8oCn8wMYNh87RDpt5Ru7_8aRS07JuHQhMh4C" 75 7)
def ahG:List fZ:=iz _ (jY "15Bi5xEdRcuaePYz6SN2qlwpgUrfH1UBgbW3XrKw6Td6yHgKlObeuiumen15sMhy2J3gF32pY4QY9nQEoBqe63JU_ZS7sn6mmPdeSn17FNuwMnnoRp1JPvMDm_gJ1N_5zfCUt4F2R6o3xy6cuzY6SxQiGfDriyqnhzs2xTWvsxO0tbOBtdurSjbZk5WlGyADHxDyjyp_52fq6m5PYvr7HFc6VPCn5gW8mt3Trz5Fyy7q0x5TlF6H_9op7SRZBrebX4QTJJZGMblVLVfaGFGuVPUVxN59rsajDfvVzid6J1AjS29t_onCc2Jb" 75 10)
def ahF:List fZ:=iz _ (jY "1ULw0NQmlot3i4p2muYUBR88748lee2nMzhGkf0spHTsGSBnUlhCVrS7e_xgjobbsVmSFBg2osFQCJWMqTw9ujJcV2i9XBnTpyEbhysVcSl_RHDxUvKDubaQ2kcJY0Y6RwGn98N8J98CAi_sP6PMrofBbneo8Be3UpR3ufJuHb45zmCWsRvbvzsnxRx7X1WuYhcG3Vvsqe6BggujLBcB_6mv9MV9GoLW6K9QsbxyQ2P4OZ4O_EhU7hjcolkmmKZXW9e1HVKELOrP_TWYGyuc2WfN8ikTnz7UybKAcxpsdUxlpTVAxG778jqJuPORw1FzDCtQ7lJTsyQ6V7NGP2j" 75 13)
def ahE:List fZ:=iz _ (jY "9kRk9o1CSsklPUTB8KavHBlOn90ewun7GTYqmOdnzAhsG8sLdCXnGrXJZTkbX79ErPDYZLp0FxkWBNaLFFzuUnA9_afum" 75 4)
def ahD:List fZ:=iz _ (jY "4P0gOL6X9OzyA79PZeq68Zvyg8FTyUCnyXDn6l2y6Q2esNyqjDSwhs3YHDOzFO2X_n2qkzBFteZK2avMJkWm8hZj8vjkpwY6j6E3VnKbZDgMR_xKSfS0ljKEPSWpttcq7TylzgkhA7Xy9Q5texYZjltqJ6472Y5XS0dxUkllpgGH033miW1SP9Hf1JBjPhwKl8yY77NDuzHqhfPt6aZ9VWYjvAzdZLETmZExATvnJ2b5EdC7w3q_5CG5AadiZZ_50RAHCBK5QFmJSr1zwJNUy92Hg9JgJsUhw6htCLFiz0Dv5" 75 1)
def ahC:List fZ:=iz _ (jY "3RGGOSPNj06PO1tAeXWHg8daiMVT1dHzWN6WZZckL9_MDDKoQvwEBfcV0Qc8adUNOQ95j09WQHXDXqJgPcTGjtcNbdiS5xezrsc60REvJjA4GeeTkGXbxJRvCtv7F_4ynmKYpJpiJUbdyFBwbL1jgg_K9ch2SjH2ybXRRhlSSRjSmcAi3ydsMmOTSMfT1Hlnvv_1vHMBXs7NyUTMqLoBarOwxDRntvSgwdXaQHAwxQgQ342Ujd40zNS6w5g1j5rG0HhSezdQ9z_vF6UQTDfB5GbiB0bwHlx35LhePD1sMDErmlaGUNWH0tsv0JxtdAE_hiybWwgywwlNlLQDck86lDR15X" 75 4)
def ahB:List fZ:=iz _ (jY "2V5Y_TbTP7GWL0bEd4quRu_4Om1vP8_oTJJ9k_QfvHkTFpiUur74eMZTgbSG_zost6YwaPWlXUkOh0cnMoUOZ0kszdhmb_eCkVDQESA0N2rbaNwXtp35KtcE4PkwAsLGZq6CSDRlBtUUQGfqM6Qdm1Eg9Gynzhh5CVsTQVq7rstfjSLLXjwHDm6FG8RvHTHUWevhHodRWVW74X_OV8hPzldpaxpX3vzVpM8z8mqLoF5FR4Zo7Rd5uzrV67iph_j1DV7ahtXdqjdySBFmfDuYDZFPwcMk090EofacPyuEiioe2Km3FRc615NC0N2z0nKol8uvAOEHyRdCMjYgKfWK6gvoQub7" 75 8)
def ahA:List fZ:=iz _ (jY "8wuV84EVmx4sLacpe2SZTpvqYSCAbaPf9uTkgZDUdrpO_U0LnCwGJaYKjCzJUiM_F2cZGBXmJRsvmsYl0y5siC3FHNUpW1nsLt4aFenOqNlw44CJVgPjCxO0cicdzpTF5dFKfqf5v4BFq4dVrewlt8CMpuDAg80vt5UMeR29KDjK8jvpArssh_joHJKxqPR9o6S9r8W_TkvJmPHZT6xqm7QC6FKmG3EfeZHy0syzK6S7gmc0YT2774riY3BKuGNLHip9_xR30FOTR" 75 6)
def ahz:List fZ:=iz _ (jY "BtDfHAZy_wtkl1gWLhapU3KiBLeCbvVi4Ar36fK92ZSzzetz8v9caNPwLhxvePfh30xp3pmAPANrTPj0HZ_nfZqtJrYW5kW0kTSzOeUOUpk8n8Y_v0xTMukPcRaS6druhKrngfw8jK43VccCq4eMCcL1llTlnlFn9PgE4EXuBXPEUm2Y9QDZ1Als_PZ44HcKO7VhOTC9cw5VUDybCXcutWWVHN" 75 1)
def ahy:List fZ:=iz _ (jY "ZGPSndpnEG0eFsuCzp01W1aWHn1DnbF2ymiKwbf767Kahz37zlsCpROFd5kql7lztK8YTrXsL8V_UsOuVM5Z3W6Pveg6ShEPuA_PD7Yh7Gh_CmmZSn4aF9QL9eG1Gtj0QgypssMHrLRiJtBNm4fuM___3HGEQFsZxwaGGP4NB6BryGLJwSXaLlmpurD5Os7yGxFx3cFnTaifiFmxiudLHgpjLJf1GzMFTTUbepNSCxVOMlTYuyYG_BUYBhwVeiSQzy_OTcRnueojm0CVFCSW_nR6vWvM7N75gijbhEoTgoZYOMiUBaHJR8TZqCd9SMFJjlDOrfs8pW2PoW_yDkzpzUEynXscSrYE_54s9clanepu4FtUhGGzZvFJtgnVdjZZMWhBQyYEszrydYqQb7gv9K6BGjNpLhCSEUDlQDhxdRgeavorovkusLQakenYTTyKzbtbKv6PpAuedfVfPAP5E4BfosEMi4Lwfzn5km9woPovZBCyLwxv96EBLvprnvPhNSLKXrquxwrUpKyF" 75 1)
def aeL:List fZ:=iz _ (jY "93kzKDp4Quek5ojxPatR0CKP64pA4f3c7dMcjatD3iqa1NhXW0eqOJdqZvX8MKxZuSXk3nxTOV9OhldE6RhzRc8mRfMFYlGLZ1_CJuF6Tbo2rmqxtximPJEqVpnJZMb6Cf0wwuYAA1DtYu1sDNBKl_pdeGylNdmn4rc47pFXSTwoWVeLkxsriFMStbtv_7x4ZVOXg692Mt5EAu_BKSlJ_GtBETBAmOHZaJvuNSpj4C72AJmT8UkncnTFLqhHUZdBEkFikZthf9wpZKcEFsyr2C7RMeisDG65zs0tVJ2tjDv3FVQObumO3Nn8nSUccAJD3" 75 2)
def aeK:List fZ:=iz _ (jY "3mHjaGReQq7md1zQeyTN9dR3FByyJyMWhqPFhv4ryt7rwcw6XDKPK5KxDBZzthbEuhGM4_0u8J9Mt5WvwubTx5meH_WB64XGwRP4UVVul7BB49RoYCOgJFNML48FNTbpfK3blJ6ROpmezjdg_HjAAGbKQj5VTSZ03P_W223VsHs34_gi7k0_YmTGbiG7XUoQ8JcvyRXznzLr5WwseOwb64ipCjOtCXwlpbt2Qubuzs3AkqbV_MiCTmztewWhqNYBS6sDLi8BvKJevsnVFYD8k8v0nmcj6Ho1w_yU" 75 2)
def aeJ:List fZ:=iz _ (jY "3t_9gs_9JDstVdWu0RPrnJ2mcf9CQCEw4nUbeOeOMxZS6Rq0rYZ__yTlOGixvuxuZY2KH8znDxBv0qkgdBQ6ZD0sVQjM0PPbf2cYgTKJX45196HzehNjOTNOvmbL7Y3Drowqnx4rgEHegZeBUo0iK3xcGmJ8LQ37MpWi2vy3C3EDylFM51d_YTM0d4EO2aam_SXHTQoz0h9r58kvtFeENs49vergkUcsFxg6rDNPAfhkgLZMoNO3GU9OiwOWDwnfJyzfWOaDx7NNgt219reeb0aFOslzijsFb8KPC1wTUB" 75 3)
def aeI:List fZ:=iz _ (jY "2FdEZZBgFsuo4HzKoUT279YXXTd4mgxYjEwl8FjO9OrUZiFsTQmSFNxkg37fqVMbGKXD8Phgjpp1qMYVqWNbswxS5NpHcDTmCgOFFz8MA77EMUroSW5XUuqAGRhoRUFF9y2LxsE5svt_wSXGkSilDV0bsf7VfVc0339pZnmLUOWrwEkipao0UPgqzVX8q3His5TNmHVY3qOjszWQ5ZRjyMPF4co" 75 2)
def aeH:List fZ:=iz _ (jY "pt38urOxTJeqGzbGLfUajsGHKchkvk3a3SG16O6DsHwT1n2HSysA9SGYVOAE4oAc0xBTzrP8AnxQ9KpD33cuxCuJO0omHr3PQo1D5pYxHJ702vBZWc_8kclzAPqLRWsqEqHjUO9e6vYJfOPVeRhhe9EmL9J8WE3kRjnE3qht5lsi7H6zR70bptg_wrzLt5taN9Feho27_KrrRoVasYo1sVpY1bfpgOb7fw1qvamkhz" 75 2)
def aeG:List fZ:=iz _ (jY "12RHzbzwVF67G2hm54VfbvlYgVGWeEdoqzbkJj5TdBwMzWBjhO5W6_Ng8AVRanYj_rytPYOp34owm5kOkAPhjD8gnqxTpz7BaLzH0CREJYVQy7f6lNKCek38oXqx8gx3FZvJZUS_G2q9tNDmol05yoEbD8qseqJUmvo5ACLGrjl6LrJ7d2kZaypoBJBSABaSsYkbz3dibZSpaugZv5cmJCUyah2YqEj4mzaxvGTlO2P_EHkhne9d3iOw0RtGbn" 75 2)
def aeF:List fZ:=iz _ (jY "6Bh9nwlmf1gnOqUpogF6hTDxzY9B6J3dkaqa5KnmoajZbvdBsv36fq3yajjfgwRvQOb9izsidDnZ_fLNNoQNU3OzxSUVLFV9gCcJKTDpMDbg3crxrg2VrErQJ2R4nal5nNKQzmBDNzenzY8tGv90VzuMfHotdzvpydHagpqbFCRHr9Pd0uWnkrEmpsttu6qSOHlF8jTLYy0DPVSbmxqQyvMMWlBOHZWKFbyX4RL6mSAkhBreXshaYxn5bd6kwVxNNPq1df0g6hGk0Cg0" 75 2)
def aeE:List fZ:=iz _ (jY "1q0TDekPsUoPFLUrQ8izN_Q8S4bnSsxwR5oSxiLAxUA_0ThBO1aLO8FLO39Qk_jowKH4jlr91nNal0YzrUxh7l1EeXHgDqQdBDbEJSVfggBRAolomBh28eNCT6GKEUzoZJzZFKvO5VAJoeDlEEDOQRE0slemBbYmseaYWzo0qEZ_pNGvgxL3gHXjrwqKGAOHkYqAoGk__6u0EYtvHk63CB0YzhWb8zVFpBcwgSZDRH0LFA6M5BdtTmeS6JY4eeRR_WipYhlH5pJhJLNlyr_DZijHwgHkbKGwTbQDTKC6eklmAYy5UObfUWfZ8xN" 75 5)
def aeD:List fZ:=iz _ (jY "P4fNBhrU8yfB7Ku1Ftj1o6UVTS5iou1Jv_iRLpEb1Zi1_XWKBwTuJ2hwf13adh1DeyQRRJZfuY2zZBDi1KG20fFH7C8fgCFFYfQHHMz5ZN3x16XjbxtX2f4nWZYph1d4Yo0aXrs3vrKKTwL5CeLrBP9tyWfm5jxiCRWpPuOHgH08rJ0jwt22qZ0y2yQnhELaY59oy97hpdTQWkq5ZJ9ref4F0SYPHSDQ3njl0m8Yp3gn1aKmLoxsvq__0rmFfYohH4B4RLXnUzAtvvUguFzmBJBxKr_03OdvKWsusJ28bGWU8_L7OrA9QzJ6GX324KXkeLBCkiaAARQSz4vd5AVq665wO2oiE6xOAEfhrDm" 75 6)
def ahi:List Nat:=iz _ (Oh "2000000000000000000000000000000011000000u000000000000z60w000000000000000000M080zzn20")
def abU:List fZ:=ahH++ahG++ahF++ahE++ahD++ahC++ahB++ahA++ahz++ahy++aeL++aeK++aeJ++aeI++aeH++aeG++aeF++aeE++aeD
def feT:Tr FE:=Ln 12 (R? (ahi) (abU.map fZ.F))
def ahf:List Nat:=iz _ (Oh "00017Y102017X10g010h10f17U103010U10b10e10410900000010622v0c10W10Y10_24X4Y24g4h10510E10F11c010G0000000000000000000000000000000000000000000010V10d0000010810K11k11d10M0010S000010T10L0940414243444546474A0000000010710X022u0B10C0000148014910N00000000031e1h1l000010A000000000000010H0000000000000043s3u3w3y000010J0000000010Q10R00010O10P71f1g1i1j1m1n1o00010D43t3v3x3z")
def afi:Tr (List Nat):=Ln 12 (aeu 999 (ahf))
noncomputable def St:Vy:=⟨Tryz.prog,base,ttE,ft,KR ttE hints,IB ttE hints,Pj,HV 468 feT,fun g=>(HV 196 afi g).getD []⟩
noncomputable def S:Sys:=St.sys
theorem ajK:(List.range 468).all (fun k=>match feT.get k with |some f=>Zy ft k f|none=>true)=true:=ad
theorem afh:(List.range 196).all (fun g=>L3 ft (HV 468 feT) g ((afi.get g).getD []))=true:=ad
theorem ae2:Gp S:=by
 refine Y? WK agb (fun I call hc=>@AU _ I _ WK mixed _ _ hc) UY (fun k f hf=>?_) fun g=>?_
 ·have Pn:HV 468 feT k=some f:=hf;unfold HV at Pn;split at Pn
  ·simp at Pn
  ·rename_i hle
   have gv:k<468:=by
    rcases bg k 468 with h|h
    ·exact h
    ·rw [an0 h] at hle; simp at hle
   have:=bh.1 ajK k (anc.2 gv);rw [Pn] at this;exact this
 ·show L3 ft (HV 468 feT) g ((HV 196 afi g).getD [])=true;unfold HV;split
  ·rfl
  ·rename_i hle
   have gv:g<196:=by
    rcases bg g 196 with h|h
    ·exact h
    ·rw [an0 h] at hle; simp at hle
   exact bh.1 afh g (anc.2 gv)
end Go.As.Try
end
section
namespace Go.As.Try
open Go hiding Stat Spec shape
open Go.As Go.Proofs
set_option maxRecDepth 100000
noncomputable section
abbrev mh (c:SB) (a:T Lf):=sp c a fl
abbrev uX (c:SB) (a:T Lf):=sp c fl a
abbrev jx:=SB.eq
abbrev gZ:=SB.lt
abbrev stx:=V.op .set
abbrev nrx:=V.op .norm
abbrev Je:=V.op .snoc
abbrev rpx:=V.op .rep
abbrev qpx (n:Int):=D.p (.i n)
abbrev Be (n:Nat) (x:V):=nm (ce n x)
abbrev DA (j:Nat) (l:List V):=SB.eq (a0 j l) (.lit 1)
abbrev pF (j:Nat) (l:List V) (a:T Lf):=sp (.eq (a0 j l) (.lit 1)) a fl
abbrev zn (a:V):=SB.eq a (.lit 0)
abbrev rk (a:V):=SB.lt a (.lit 0)
def bsx:List Nat->D
 |[]=> .i 0
 |n::l=> .p (.i n) (bsx l)
theorem dU {n:Nat} {t:T Lf} (h:S.tree n=t:=by kernel_rfl):S.tree n=t:=h
def b0:D:=bsx [0,0,0,0,0,0,0,0,0,1,1,0,0,1,0,0,0,0,0,0,0,0,0,0,0,0,0,0,0,0,0,0,1,0,0,2,0,0,0,0,5,5,5,5,0,5,0,0,3,3,3,3,3,3,3,3,3,3,0,5,5,5,0,0,0,4,4,4,4,4,4,4,4,4,4,4,4,4,4,4,4,4,4,4,4,4,4,4,4,4,4,0,0,0,0,4,0,4,4,4,4,4,4,4,4,4,4,4,4,4,4,4,4,4,4,4,4,4,4,4,4,4,4,5,0,5,0,0,0,0,0,0,0,0,0,0,0,0,0,0,0,0,0,0,0,0,0,0,0,0,0,0,0,0,0,0,0,0,0,0,0,0,0,0,0,0,0,0,0,0,0,0,0,0,0,0,0,0,0,0,0,0,0,0,0,0,0,0,0,0,0,0,0,0,0,0,0,0,0,0,0,0,0,0,0,0,0,0,0,0,0,0,0,0,0,0,0,0,0,0,0,0,0,0,0,0,0,0,0,0,0,0,0,0,0,0,0,0,0,0,0,0,0,0,0,0,0,0,0,0,0,0,0,0,0,0]
def b1:D:=bsx [32,97,99,113,117,105,114,101,32,97,100,100,32,97,114,114,105,118,101,32,98,97,114,114,105,101,114,32,98,114,111,97,100,99,97,115,116,32,99,111,110,100,32,100,111,32,100,111,110,101,32,101,108,115,101,32,105,102,32,108,111,99,107,32,108,111,99,107,102,111,114,32,108,111,111,112,32,109,117,116,101,120,32,111,110,99,101,32,112,117,116,32,113,117,101,117,101,32,114,101,97,100,32,114,101,108,101,97,115,101,32,114,108,111,99,107,32,114,117,110,108,111,99,107,32,114,119,108,111,99,107,32,115,101,109,32,115,101,116,32,115,105,103,110,97,108,32,116,97,107,101,32,116,104,114,101,97,100,32,116,114,121,97,99,113,117,105,114,101,32,116,114,121,108,111,99,107,32,117,110,108,111,99,107,32,118,97,114,32,119,97,105,116,32,119,97,105,116,102,111,114,32,119,97,105,116,111,110,32,119,108,111,99,107,32,119,114,105,116,101,32,119,117,110,108,111,99,107,32]
abbrev Qa:V:=.lit 0
abbrev Qb:V:=.dD 1
abbrev Qc:=ln Qb
abbrev Qd:=gZ Qa Qc
abbrev wi a0 a1:=gZ a0 (.lit a1)
abbrev Qe:=wi Qc 1759218604441
abbrev Qf:V:=.dD 0
abbrev vb a0:=nrx a0 Qa
abbrev Qg:=vb Qb
abbrev Qh:V:=.eD (.i 1)
abbrev Qi:=jx Qg Qh
abbrev Qj:=[Qf]
abbrev Qk:V:=.eD (.i 2)
abbrev lS a0:=jx a0 Qk
abbrev Ql:=lS Qg
abbrev cJ a0 a1 a2 a3 a4:=sp a0 a1 (sp a2 a3 a4)
abbrev iJ a0 a1 a2 a3 a4 a5:=cJ a0 a1 a2 (ju a3 a4) a5
abbrev eM a0 a1 a2:=mh a0 (ju a1 a2)
def Lx:=iJ Qd (eM Qe 9001 [Qf,Qb,Qc,Qa]) Qi 9002 Qj (eM Ql 9003 Qj)
abbrev Qm:V:=.dD 3
abbrev Qn:=jx Qm Qf
abbrev Qo:V:=.dD 2
abbrev Qp:=gZ Qm Qo
abbrev Qq:=rk Qm
abbrev Qr:=gZ Qm Qc
abbrev Qs:=el Qb Qm
abbrev Qt:=ce 4 Qs
abbrev jV a0 a1:=gZ a0 (ln a1)
abbrev nR a0:=jV Qa a0
abbrev Qu:=nR Qt
abbrev Qv:V:=.lit 17592186044416
abbrev nS a0 a1:=gZ (ln a0) a1
abbrev rz a0:=nS a0 Qv
abbrev Qw:=rz Qt
abbrev Qx:=ce 5 Qs
abbrev Qy:=nR Qx
abbrev Qz:=rz Qx
abbrev Q0:V:=.lit 1
abbrev rE a0 a1:=wr (.add a0 a1)
abbrev jg a0:=rE a0 Q0
abbrev Q1:=jg Qm
abbrev Q2:=el Qb Qf
abbrev fR a0:=Be 0 a0
abbrev Q3:=fR Q2
abbrev Q4:=Be 1 Q2
abbrev gn a0:=Be 2 a0
abbrev Q5:=gn Q2
abbrev jH a0:=Be 3 a0
abbrev Q6:=jH Q2
abbrev Q7:=jx Qx Qh
abbrev Q8:=lS Qx
abbrev Q9:=jx Qt Qh
abbrev Qba:=lS Qt
abbrev zO (l:List V):=Qa::Qf::Qb::l
abbrev Qbb:=ou (zO [])
abbrev Of:=mk Qm
abbrev Qbd:V:=.eD (.i 4)
abbrev rV a0 a1 a2:=stx a0 (cn a1 a2)
abbrev wj a0 a1 a2 a3 a4:=rV a0 a1 (rV a2 a3 a4)
abbrev Qbe:=wj Qb Of Qs Qbd Qt
abbrev TV:V:=.eD (.i 5)
abbrev ry a0 a1 a2 a3 a4 a5:=wj a0 a1 (el a2 a3) a4 a5
abbrev Qbg:=ry Qbe Of Qbe Qm TV Qx
abbrev Wn:=cn TV Qh
abbrev oP a0 a1 a2 a3:=rV a0 a1 (stx a2 a3)
abbrev kI a0 a1 a2 a3 a4:=oP a0 a1 (el a2 a3) a4
abbrev Qbi:=kI Qbe Of Qbe Qm Wn
abbrev Wm:=cn TV Qk
abbrev Qbk:=kI Qbe Of Qbe Qm Wm
abbrev Qbl:=cn Qbd Qh
abbrev Qbm:=oP Qb Of Qs Qbl
abbrev Qbn:=ry Qbm Of Qbm Qm TV Qx
abbrev Qbo:=kI Qbm Of Qbm Qm Wn
abbrev Qbp:=kI Qbm Of Qbm Qm Wm
abbrev Qbq:=cn Qbd Qk
abbrev Qbr:=oP Qb Of Qs Qbq
abbrev Qbs:=ry Qbr Of Qbr Qm TV Qx
abbrev Qbt:=kI Qbr Of Qbr Qm Wn
abbrev Qbu:=kI Qbr Of Qbr Qm Wm
abbrev jh a0 a1 a2 a3 a4 a5 a6:=cJ a0 (sp a1 a2 a3) a4 a5 a6
abbrev jw a0 a1 a2 a3 a4 a5 a6:=mh a0 (iJ a1 a2 a3 a4 a5 a6)
abbrev nP a0 a1:=eM Qz a0 a1
abbrev nO a0 a1:=eM Q8 a0 a1
abbrev qp a0 a1 a2:=uX a0 (mh a1 a2)
abbrev Zj a0 a1:=qp Qq a0 a1
abbrev va a0:=Zj Qr a0
abbrev Jq (l:List V):=Qf::Qb::Qo::Q1::Q3::Q4::Q5::Q6::l
def sG:=jh Qn Qp (va (cJ Qu (jw Qw Qy (nP 9004 (Jq [Qt,Qx])) Q7 9005 (Jq [Qt,Qh]) (nO 9005 (Jq [Qt,Qk]))) Q9 (iJ Qy (nP 9006 (Jq [Qh,Qx])) Q7 9007 (Jq [Qh,Qh]) (nO 9007 (Jq [Qh,Qk]))) (jw Qba Qy (nP 9006 (Jq [Qk,Qx])) Q7 9007 (Jq [Qk,Qh]) (nO 9007 (Jq [Qk,Qk]))))) Qbb Qp (va (cJ Qu (jw Qw Qy (nP 9001 [Qf,Qbg,Qo,Q1]) Q7 9001 [Qf,Qbi,Qo,Q1] (nO 9001 [Qf,Qbk,Qo,Q1])) Q9 (iJ Qy (nP 9001 [Qf,Qbn,Qo,Q1]) Q7 9001 [Qf,Qbo,Qo,Q1] (nO 9001 [Qf,Qbp,Qo,Q1])) (jw Qba Qy (nP 9001 [Qf,Qbs,Qo,Q1]) Q7 9001 [Qf,Qbt,Qo,Q1] (nO 9001 [Qf,Qbu,Qo,Q1])))) Qbb
abbrev Qbv:=jx Qa Qf
abbrev iB a0 a1 a2:=sp a0 a1 (ou a2)
def ab4:=iB Qbv (ou [Q0,Qf]) [Q0,Qf]
abbrev kA:V:=.lit 2
def ab3:=iB Qbv (ou [kA,Qf]) [kA,Qf]
abbrev Qbx:=va fl
abbrev p8:V:=.lit 3
abbrev cO:V:=.dD 4
abbrev dj:V:=.dD 5
abbrev eQ:V:=.dD 6
abbrev ia:V:=.dD 7
abbrev jm:V:=.dD 8
abbrev j8:V:=.dD 9
abbrev Qb5:=ou [p8,Qf,Qb,cO,dj,eQ,ia,jm,j8]
abbrev Qb6:=[Qf,Qbg,Qo,Q1,cO,dj,eQ,ia,jm,j8]
abbrev Qb7:=[Qf,Qbi,Qo,Q1,cO,dj,eQ,ia,jm,j8]
abbrev Qb8:=[Qf,Qbk,Qo,Q1,cO,dj,eQ,ia,jm,j8]
abbrev Qb9:=[Qf,Qbn,Qo,Q1,cO,dj,eQ,ia,jm,j8]
abbrev Qca:=[Qf,Qbo,Qo,Q1,cO,dj,eQ,ia,jm,j8]
abbrev Qcb:=[Qf,Qbp,Qo,Q1,cO,dj,eQ,ia,jm,j8]
abbrev Qcc:=[Qf,Qbs,Qo,Q1,cO,dj,eQ,ia,jm,j8]
abbrev Qcd:=[Qf,Qbt,Qo,Q1,cO,dj,eQ,ia,jm,j8]
abbrev Qce:=[Qf,Qbu,Qo,Q1,cO,dj,eQ,ia,jm,j8]
def W6:=jh Qn Qp Qbx Qb5 Qp (va (cJ Qu (jw Qw Qy (nP 9004 Qb6) Q7 9004 Qb7 (nO 9004 Qb8)) Q9 (iJ Qy (nP 9004 Qb9) Q7 9004 Qca (nO 9004 Qcb)) (jw Qba Qy (nP 9004 Qcc) Q7 9004 Qcd (nO 9004 Qce)))) Qb5
abbrev nL:V:=.lit 4
abbrev Qcg:=ou [nL,Qf,Qb,cO,dj,eQ,ia,jm,j8]
def W5:=jh Qn Qp Qbx Qcg Qp (va (cJ Qu (jw Qw Qy (nP 9005 Qb6) Q7 9005 Qb7 (nO 9005 Qb8)) Q9 (iJ Qy (nP 9005 Qb9) Q7 9005 Qca (nO 9005 Qcb)) (jw Qba Qy (nP 9005 Qcc) Q7 9005 Qcd (nO 9005 Qce)))) Qcg
abbrev IW:V:=.lit 5
abbrev Qci:=ou [IW,Qf,Qb,cO,dj,eQ,ia,jm,j8]
def W4:=jh Qn Qp Qbx Qci Qp (va (cJ Qu (jw Qw Qy (nP 9006 Qb6) Q7 9006 Qb7 (nO 9006 Qb8)) Q9 (iJ Qy (nP 9006 Qb9) Q7 9006 Qca (nO 9006 Qcb)) (jw Qba Qy (nP 9006 Qcc) Q7 9006 Qcd (nO 9006 Qce)))) Qci
abbrev GX:V:=.lit 6
abbrev Qck:=ou [GX,Qf,Qb,cO,dj,eQ,ia,jm,j8]
def W3:=jh Qn Qp Qbx Qck Qp (va (cJ Qu (jw Qw Qy (nP 9007 Qb6) Q7 9007 Qb7 (nO 9007 Qb8)) Q9 (iJ Qy (nP 9007 Qb9) Q7 9007 Qca (nO 9007 Qcb)) (jw Qba Qy (nP 9007 Qcc) Q7 9007 Qcd (nO 9007 Qce)))) Qck
abbrev Qcl:=ln Qo
abbrev Qcm:=wi Qcl 2199023255552
abbrev Qcn:=jx (vb Qo) Qh
abbrev Qco:=[Qf,Qc,Qa,Qb]
abbrev Qcp:=lS (vb Qo)
def sF:=cJ Qd (jw Qe (gZ Qa Qcl) (eM Qcm 9051 [Qf,Qc,Qa,Qb,Qo]) Qcn 9052 Qco (eM Qcp 9053 Qco)) Qi (iJ (gZ Qa Qcl) (eM Qcm 9054 [Qf,Qo]) Qcn 9055 Qj (eM Qcp 9056 Qj)) (jw Ql (gZ Qa Qcl) (eM Qcm 9057 [Qf,Qo]) Qcn 9058 Qj (eM Qcp 9059 Qj))
abbrev xG:=gZ Qo Qb
abbrev K6:=rk Qo
abbrev D2:=ln Qm
abbrev Qct:=gZ Qo D2
abbrev qB a0:=el Qm a0
abbrev QT:=qB Qo
abbrev F_:=ce 4 QT
abbrev Qcw:=nR F_
abbrev Qcx:=rz F_
abbrev Qcy:=ce 5 QT
abbrev Qcz:=nR Qcy
abbrev Qc0:=rz Qcy
abbrev QU:=jg Qo
abbrev zf:=mk Qo
abbrev Qc3:=wj Qm zf QT Qbd F_
abbrev Qc4:=ry Qc3 zf Qc3 Qo TV Qcy
abbrev Qc5:=jx Qcy Qh
abbrev Qc6:=kI Qc3 zf Qc3 Qo Wn
abbrev Qc7:=lS Qcy
abbrev Qc8:=kI Qc3 zf Qc3 Qo Wm
abbrev Qc9:=oP Qm zf QT Qbl
abbrev Qda:=ry Qc9 zf Qc9 Qo TV Qcy
abbrev Qdb:=kI Qc9 zf Qc9 Qo Wn
abbrev Qdc:=kI Qc9 zf Qc9 Qo Wm
abbrev Qdd:=oP Qm zf QT Qbq
abbrev Qde:=ry Qdd zf Qdd Qo TV Qcy
abbrev Qdf:=kI Qdd zf Qdd Qo Wn
abbrev Qdg:=kI Qdd zf Qdd Qo Wm
abbrev VG:=ln cO
abbrev ny (l:List V):=Qf::Qb::QU::l
abbrev jU a0 a1 a2:=eM a0 a1 (ny a2)
abbrev mJ a0 a1 a2 a3 a4 a5:=cJ a0 a1 (jx a2 a3) a4 a5
abbrev rA a0 a1 a2 a3:=sp a0 a1 (ju a2 a3)
abbrev wq a0 a1:=qp K6 a0 a1
abbrev u9 a0:=wq Qct a0
def W2:=rA xG (u9 (mJ Qcw (jw Qcx Qcz (jU Qc0 9051 [Qc4,cO]) Qc5 9051 (ny [Qc6,cO]) (jU Qc7 9051 [Qc8,cO])) F_ Qh (iJ Qcz (jU Qc0 9051 [Qda,cO]) Qc5 9051 (ny [Qdb,cO]) (jU Qc7 9051 [Qdc,cO])) (jw (lS F_) Qcz (jU Qc0 9051 [Qde,cO]) Qc5 9051 (ny [Qdf,cO]) (jU Qc7 9051 [Qdg,cO])))) 9060 [Qf,VG,Qa,Qm,cO]
def W1:=rA xG (u9 (mJ Qcw (jw Qcx Qcz (jU Qc0 9052 [Qc4]) Qc5 9052 (ny [Qc6]) (jU Qc7 9052 [Qc8])) F_ Qh (iJ Qcz (jU Qc0 9052 [Qda]) Qc5 9052 (ny [Qdb]) (jU Qc7 9052 [Qdc])) (jw (lS F_) Qcz (jU Qc0 9052 [Qde]) Qc5 9052 (ny [Qdf]) (jU Qc7 9052 [Qdg])))) 9061 [Qf,Qm]
def W0:=rA xG (u9 (mJ Qcw (jw Qcx Qcz (jU Qc0 9053 [Qc4]) Qc5 9053 (ny [Qc6]) (jU Qc7 9053 [Qc8])) F_ Qh (iJ Qcz (jU Qc0 9053 [Qda]) Qc5 9053 (ny [Qdb]) (jU Qc7 9053 [Qdc])) (jw (lS F_) Qcz (jU Qc0 9053 [Qde]) Qc5 9053 (ny [Qdf]) (jU Qc7 9053 [Qdg])))) 9062 [Qf,Qm]
def ab2:=ju 9063 Qco
def ahU:=ju 9064 Qj
def ahT:=ju 9065 Qj
def ab1:=ju 9066 Qco
def ahS:=ju 9067 Qj
def ahR:=ju 9068 Qj
abbrev Qdi:=jx Qo Qf
abbrev E?:=gZ Qo VG
abbrev Qdk:=el cO Qo
abbrev Qdl:=ce 1 Qdk
abbrev Qdm:=nR Qdl
abbrev Qdn:=rz Qdl
abbrev QQ:=el cO Qf
abbrev Qdu:=jx Qdl Qh
abbrev Qdv:=lS Qdl
abbrev Qdw:=wj cO zf Qdk Qh Qdl
abbrev Qdx:=cn Qh Qh
abbrev Qdy:=oP cO zf Qdk Qdx
abbrev Qdz:=cn Qh Qk
abbrev Qd0:=oP cO zf Qdk Qdz
abbrev jv a0:=Be 4 a0
abbrev qz a0 a1:=iB xG a0 a1
abbrev GL (l:List V):=Qf::Qb::QU::Qm::cO::l
def Cs:=cJ Qdi (qz (wq E? (iJ Qdm (eM Qdn 9069 (GL [fR QQ,Qdl,gn QQ,jH QQ,jv QQ,Be 5 QQ])) Qdu 9070 (GL [fR QQ,Qh,gn QQ,jH QQ,jv QQ,Be 5 QQ]) (eM Qdv 9070 (GL [fR QQ,Qk,gn QQ,jH QQ,jv QQ,Be 5 QQ])))) [Qa,Qf,Qm,cO]) xG (wq E? (iJ Qdm (jU Qdn 9060 [Qm,Qdw]) Qdu 9060 (ny [Qm,Qdy]) (jU Qdv 9060 [Qm,Qd0]))) (ou [Qa,Qf,Qm,cO])
abbrev Qd1:=ou [Q0,Qf,Qb]
def ab0:=sp Qbv Qd1 Qd1
def abZ:=iB Qbv (ou [kA,Qf,Qb]) [kA,Qf,Qb]
abbrev Qd2:=ce 1 QT
abbrev Qd3:=nR Qd2
abbrev Qd4:=rz Qd2
abbrev QS:=qB Qf
abbrev Qeb:List V:=ny [Qm,fR QS,Qd2,gn QS,jH QS,jv QS,Be 5 QS]
abbrev Qec:=jx Qd2 Qh
abbrev Qed:List V:=ny [Qm,fR QS,Qh,gn QS,jH QS,jv QS,Be 5 QS]
abbrev Qee:=lS Qd2
abbrev Qef:List V:=ny [Qm,fR QS,Qk,gn QS,jH QS,jv QS,Be 5 QS]
abbrev Qeg:=wj Qm zf QT Qh Qd2
abbrev Qeh:=oP Qm zf QT Qdx
abbrev Qei:=oP Qm zf QT Qdz
def Cr:=cJ Qdi (qz (u9 (iJ Qd3 (eM Qd4 9071 Qeb) Qec 9072 Qed (eM Qee 9072 Qef))) [Qa,Qf,Qh,Qm]) xG (u9 (iJ Qd3 (jU Qd4 9063 [Qeg]) Qec 9063 (ny [Qeh]) (jU Qee 9063 [Qei]))) (ou [Qa,Qf,Qh,Qm])
def abY:=iB Qbv (ou [Q0,Qf,Qh]) [Q0,Qf,Qh]
def abX:=iB Qbv (ou [kA,Qf,Qh]) [kA,Qf,Qh]
def Cq:=cJ Qdi (qz (u9 (iJ Qd3 (eM Qd4 9073 Qeb) Qec 9074 Qed (eM Qee 9074 Qef))) [Qa,Qf,Qk,Qm]) xG (u9 (iJ Qd3 (jU Qd4 9066 [Qeg]) Qec 9066 (ny [Qeh]) (jU Qee 9066 [Qei]))) (ou [Qa,Qf,Qk,Qm])
def abW:=iB Qbv (ou [Q0,Qf,Qk]) [Q0,Qf,Qk]
def abV:=iB Qbv (ou [kA,Qf,Qk]) [kA,Qf,Qk]
abbrev Qej:=wq E? fl
abbrev qV:V:=.dD 10
abbrev Qel:=ou [p8,Qf,Qm,cO,dj,eQ,ia,jm,j8,qV]
abbrev Qem:List V:=ny [Qm,Qdw,dj,eQ,ia,jm,j8,qV]
abbrev Qen:List V:=ny [Qm,Qdy,dj,eQ,ia,jm,j8,qV]
abbrev Qeo:List V:=ny [Qm,Qd0,dj,eQ,ia,jm,j8,qV]
def WZ:=jh Qdi xG Qej Qel xG (wq E? (iJ Qdm (eM Qdn 9069 Qem) Qdu 9069 Qen (eM Qdv 9069 Qeo))) Qel
abbrev Qep:=ou [nL,Qf,Qm,cO,dj,eQ,ia,jm,j8,qV]
def WY:=jh Qdi xG Qej Qep xG (wq E? (iJ Qdm (eM Qdn 9070 Qem) Qdu 9070 Qen (eM Qdv 9070 Qeo))) Qep
abbrev Qeq:=u9 fl
abbrev Qer:=ou [p8,Qf,Qh,Qm,cO,dj,eQ,ia,jm,j8]
abbrev Qes:List V:=ny [Qeg,cO,dj,eQ,ia,jm,j8]
abbrev Qet:List V:=ny [Qeh,cO,dj,eQ,ia,jm,j8]
abbrev Qeu:List V:=ny [Qei,cO,dj,eQ,ia,jm,j8]
def WX:=jh Qdi xG Qeq Qer xG (u9 (iJ Qd3 (eM Qd4 9071 Qes) Qec 9071 Qet (eM Qee 9071 Qeu))) Qer
abbrev Qev:=ou [nL,Qf,Qh,Qm,cO,dj,eQ,ia,jm,j8]
def WW:=jh Qdi xG Qeq Qev xG (u9 (iJ Qd3 (eM Qd4 9072 Qes) Qec 9072 Qet (eM Qee 9072 Qeu))) Qev
abbrev Qew:=ou [p8,Qf,Qk,Qm,cO,dj,eQ,ia,jm,j8]
def WV:=jh Qdi xG Qeq Qew xG (u9 (iJ Qd3 (eM Qd4 9073 Qes) Qec 9073 Qet (eM Qee 9073 Qeu))) Qew
abbrev Qex:=ou [nL,Qf,Qk,Qm,cO,dj,eQ,ia,jm,j8]
def WU:=jh Qdi xG Qeq Qex xG (u9 (iJ Qd3 (eM Qd4 9074 Qes) Qec 9074 Qet (eM Qee 9074 Qeu))) Qex
abbrev uS:=ln Qf
def t100:=ju 101 [rE uS Qc,Qc,Qa,Qf,Qb]
abbrev j7:=ou [Q0]
abbrev iy:=ou [Qa]
abbrev At a0 a1:=gZ (.lit a0) a1
def t101:=cJ xG (uX K6 (eM E? 102 [rE Qf (rE (ln Qdl) (ln (ce 2 Qdk))),Qo,Qa,Qb,Qm,cO])) (At 6000 Qf) j7 iy
abbrev QP:=rk Qb
abbrev NU:=el dj Qb
abbrev qS:=jg Qb
abbrev Qe4:=ju 101 [Qf,Qm,qS,cO,dj]
abbrev Qe5:=ce 6 (el (ce 2 NU) Qo)
abbrev EF (l:List V):=Qf::Qb::Qo::l
abbrev uh a0 a1:=ju a0 (EF a1)
abbrev gJ a0 a1 a2 a3:=sp (gZ a0 a1) a2 a3
abbrev ff a0 a1 a2 a3:=mh a0 (sp a1 a2 a3)
abbrev lT a0 a1 a2 a3 a4:=uX a0 (ff a1 a2 a3 a4)
def t102:=lT QP (jV Qb dj) (jV Qo (ce 2 NU)) (gJ (.lit 6000) Qf Qe4 (uX K6 (uh 103 [Qm,Qe5,ln Qe5,Qa,cO,dj]))) Qe4
abbrev Qe6:=el cO eQ
abbrev Qe7:=[fR Qe6,ce 1 Qe6,gn Qe6,ce 3 Qe6,.lit 60]
abbrev eK a0 a1:=rr a0 a1 0
abbrev oM a0 a1 a2:=qp (rk a0) a1 a2
def t103:=gJ eQ dj (oM eQ (gZ eQ VG) (pF 150 Qe7 (ju 103 [rE Qf (eK 150 Qe7),Qb,Qo,Qm,cO,dj,jg eQ,ia,jm]))) (ju 102 (ny [Qm,ia,jm]))
abbrev Qe8:=gZ cO Q0
def t150:=rA Qe8 (ou [.lit 10000]) 151 [cO,rE Q0 (wr (.quo Qc (.lit 100))),Qa,Qf,Qb,Qo,Qm]
abbrev VF:=ln eQ
abbrev Qfa:=el eQ Qo
abbrev Fl a0 a1:=wr (.sub a0 a1)
abbrev u7 a0:=Fl a0 Q0
abbrev Qfb:=[fR Qfa,ce 1 Qfa,gn Qfa,ce 3 Qfa,u7 Qf]
def t151:=iB (gZ Qo VF) (gJ (.lit 10000) Qb (ou [Qb]) (uX K6 (pF 150 Qfb (ju 151 [Qf,rE Qb (eK 150 Qfb),QU,Qm,cO,dj,eQ])))) [Qb]
abbrev iC a0 a1:=sp a0 a1 iy
abbrev gT a0 a1 a2:=iC (jx a0 a1) a2
def t200:=gT uS Qc (ju 201 [Qf,Qb,uS,Qa])
abbrev oK a0:=gZ a0 uS
abbrev Qfc:=oK Qm
abbrev nQ a0:=el Qf a0
abbrev QN:=nQ Qm
abbrev Qfe:=fR Qs
abbrev Qff:SB:=.not (zn (gn QN))
abbrev Qfg:=gn Qs
abbrev yh a0 a1 a2 a3 a4:=mJ a0 a1 a2 a3 a4 iy
abbrev n5 a0 a1 a2 a3:=yh a0 iy a1 a2 a3
abbrev pK a0 a1 a2:=zn (rr a0 a1 a2)
abbrev iI a0 a1:=pK a0 a1 0
abbrev ve a0 a1:=jx (fR a0) a1
def t201:=sp Qp (Zj Qfc (ff Qr (ve QN Qfe) (gT (Be 1 QN) (Be 1 Qs) (n5 (.and (.not (.and Qff (.not (zn Qfg)))) (.not (.and (.not Qff) (.not (.not (zn Qfg)))))) (jH QN) (jH Qs) (pF 250 [ce 4 QN,Qt] (n5 (iI 250 [ce 4 QN,Qt]) (ln (ce 5 QN)) (ln Qx) (uh 202 [Qm,ln (ce 5 QN),Qa,fR QN,Be 1 QN,gn QN,jH QN,ce 4 QN,ce 5 QN,Qfe,Be 1 Qs,Qfg,jH Qs,Qt,Qx]))))) iy)) j7
abbrev Wl:=rk dj
abbrev oX:V:=.dD 11
abbrev Wk:V:=.dD 17
abbrev Qfk:=jg dj
abbrev Bj:V:=.dD 12
abbrev ss:V:=.dD 13
abbrev wO:V:=.dD 14
abbrev IV:V:=.dD 15
abbrev Q!:V:=.dD 16
abbrev Qfq:List V:=EF [Q1]
abbrev lU a0 a1:=nm (el a0 a1)
def t202:=gJ dj cO (qp Wl (jV dj oX) (ff (jV dj Wk) (jx (lU oX dj) (lU Wk dj)) (uh 202 [Qm,cO,Qfk,eQ,ia,jm,j8,qV,oX,Bj,ss,wO,IV,Q!,Wk]) iy)) (ju 201 Qfq)
def t250:=gT uS Qc (ju 251 [Qf,Qb,Qa])
abbrev Q':=oK Qo
abbrev Qfs:=gZ Qo Qc
abbrev Od:=nQ Qo
def t251:=sp Q' (lT K6 Qfs (jx (nm Od) (lU Qb Qo)) (ju 251 (ny [])) iy) j7
abbrev Db:=[Qf,Qb]
abbrev Qfv:=DA 450 Db
abbrev Qfw:=iI 450 Db
abbrev Qfx:=ou [Qh]
def Y!:=ff Qfv Qfw (ju 301 [Qf,uS]) Qfx
abbrev Qfy:=gZ Qa Qb
abbrev Qfz:=oK Qa
abbrev we:=D.i 0
abbrev gR:V:=.eD we
abbrev Bk:V:=.eD (.i (-1))
abbrev kg a0 a1 a2:=cn a0 (cn a1 a2)
abbrev qy a0 a1 a2 a3 a4:=kg a0 a1 (kg a2 a3 a4)
abbrev Qf2:=qy gR gR Qh Qh gR
abbrev td a0 a1 a2:=kg a0 (mk a1) a2
abbrev Qf3:=ju 302 [Je gR (td Bk (gn (nQ Qa)) Qf2),Qf,Qb,Q0]
abbrev NT:V:=.lit 9
abbrev fg a0 a1 a2 a3 a4 a5 a6:=mJ (jx a0 a1) a2 a3 a4 a5 a6
def Uc:=sp Qfy (mh Qfz (fg (fR (nQ Qa)) p8 Qf3 (fR (nQ Qa)) NT Qf3 (ju 302 [Je gR (kg Bk gR Qf2),Qf,Qb,Q0]))) Qfx
abbrev Qf5:=wi uS 1759218604440
abbrev Qf6:=eM Qf5 302 [Je Qf (td Bk Qfg Qf2),Qb,Qo,Q1]
def ae1:=iB Qp (va (fg Qfe p8 Qf6 Qfe NT Qf6 (eM Qf5 302 [Je Qf (kg Bk gR Qf2),Qb,Qo,Q1]))) Qj
def Y':=ff Qfv Qfw (gT Qcl uS (ju 351 [Qo,Qcl,Qa,Qf,Qb])) iy
abbrev QO:=gn Od
abbrev NS:=fR Od
abbrev Oe:=ce 1 Od
abbrev pZ:=nm Oe
abbrev Qgb:=ce 3 Od
abbrev IT:=nm Qgb
abbrev Q_:=ce 4 Od
abbrev TS:=ce 5 Od
abbrev Qgf:=[fR QT,Qd2,gn QT,ce 3 QT,nm F_,NS,pZ,Qa,IT,Q_,TS,VG]
abbrev Qgg:=ju 351 (GL [])
abbrev Qgh:=[fR QT,Qd2,gn QT,ce 3 QT,nm F_,NS,pZ,Q0,IT,Q_,TS,VG]
abbrev rX a0:=wq Q' a0
abbrev vg a0 a1 a2 a3 a4:=pF a0 a1 (sp a2 a3 a4)
abbrev jI a0 a1 a2 a3 a4 a5 a6:=vg a0 a1 (pK a2 a3 a4) a5 a6
abbrev nB a0 a1 a2 a3 a4 a5:=jI a0 a1 a2 a3 a4 iy a5
def Ub:=sp xG (rX (ff Qct (zn QO) (nB 500 Qgf 500 Qgf 0 Qgg) (nB 500 Qgh 500 Qgh 0 Qgg))) j7
abbrev Qgi:=[dj,Qo]
abbrev Qgj:=eK 9000 Qgi
abbrev Qgk:=DA 350 (EF [])
abbrev Qgl:=iI 350 (EF [])
abbrev jJ a0 a1:=rr a0 a1 2
abbrev IS:=jJ 9000 Qgi
abbrev Qgn:=ou [IS,Qa,Qa,Qa,Qa,Qa,Qa]
abbrev Qgo:=ff Qgk Qgl Qgn (cJ Qq Qgn Qr Qgn Qgn)
abbrev Qgp:=jV dj IS
abbrev Qgq:=ou [Qh,Qa,Qa,Qa,Qa,Qa,Qa]
abbrev Qgr:=ou [Qk,Qa,Qa,Qa,Qa,Qa,Qa]
abbrev Dn:=mk dj
abbrev Qgt:=rr 9000 Qgi 3
abbrev Lh:=mk Qgt
abbrev NR:=rr 9000 Qgi 4
abbrev Oc:=mk NR
abbrev Qgx:=rr 9000 Qgi 5
abbrev TR:V:=.op .bit (mk Qgx) Qa
abbrev Qgz:=rr 9000 Qgi 6
abbrev TU:=mk Qgz
abbrev IU:=rr 9000 Qgi 7
abbrev Wj:=rr 9000 Qgi 8
abbrev Wi:=cn Wj gR
abbrev Qg4:=cn TR (kg TU IU Wi)
abbrev Qg5:=cn Dn (kg Lh Oc Qg4)
abbrev u6 a0:=stx IS a0
abbrev Qg6:=u6 Qg5
abbrev D1:=ou [Qg6,Qa,Qa,Qa,Qa,Qa,Qa]
abbrev Qg8:=DA 600 [cO]
abbrev Qg9:=oK dj
abbrev Qha:=jx (eK 600 [cO]) (fR (nQ dj))
abbrev rC a0:=jx a0 Q0
abbrev Qhb:=rC cO
abbrev E!:=jx Qgt Qm
abbrev Da:=pF 550 [Qo] (ou [eK 550 [Qo],Qm,.lit 27,dj,wr cO,Qa,kA])
abbrev Qhe:=DA 900 [IU,Qm]
abbrev Qhf:=iI 900 [IU,Qm]
abbrev Qhg:=rk Qgt
abbrev Qhh:=rV IS Dn (kg Of Oc Qg4)
abbrev Ob:=pF 550 [Qo] (ou [eK 550 [Qo],Qa,Qa,Qa,Qa,Qa,Qa])
abbrev Qhj:=sp Qhg (ou [Qhh,Qm,cO,dj,Qa,Qa,kA]) Ob
abbrev Qhk:=sp E! Da (ff Qhe Qhf Qhj Da)
abbrev qA a0:=jx cO a0
abbrev Qhl:=qA kA
abbrev Qhm:=sp E! (ou [rV IS Dn (kg Bk Oc Qg4),Qm,cO,dj,Qa,Qa,kA]) Da
abbrev P!:V:=.lit 8
abbrev Qho:=qA P!
abbrev Qhp:=qA p8
abbrev Qhq:=ou [Qhh,Qm,cO,dj,Q0,Qa,kA]
abbrev Qhr:=ou [Qg6,Qm,cO,dj,Qa,Qa,kA]
abbrev Qhs:=sp Qhg Qhq Qhr
abbrev Qht:=qA nL
abbrev Qhu:=cJ Qhg Qhq (gZ ia eQ) Ob Qhr
abbrev Qhv:=qA IW
abbrev GW:=ln IU
abbrev Qhx:V:=.lit 17592186044415
abbrev Qhy:=qy Oc TR TU (Je IU Of) Wi
abbrev Qhz:=sp E! Da (ff Qhe Qhf (sp Qhg (mh (gZ GW Qhx) (ou [u6 (kg Dn Lh Qhy),Qm,cO,dj,Qa,Qa,kA])) Ob) Da)
abbrev Qh0:=qA GX
abbrev Qh2:=eK 850 [IU,Qm]
abbrev Qh3:=jg Qh2
abbrev Qh4:V:=.sub GW Qh3
abbrev P?:V:=.add Qh2 Qh4
abbrev SC a0 a1 a2 a3 a4:=V.op a0 (.op a1 a2 a3) a4
abbrev ug a0 a1 a2 a3:=SC a0 .take a1 a2 a3
abbrev Qh6:V:=.op .cat (ug .cat IU Qh2 (ug .drop IU (.add Qh3 Qh4) Qh3)) (.op .drop IU P?)
abbrev Qh7:V:=.op .fill Qh6 (cn (mk P?) gR)
abbrev yi a0 a1 a2 a3 a4 a5 a6:=kg a0 a1 (qy a2 a3 a4 a5 a6)
abbrev Qh8:=oM (.sub GW P?) (jx (.add P? (.sub GW P?)) (ln Qh6)) (uX (nS Qh7 P?) (ou [u6 (yi Dn Lh Oc TR TU (.op .take Qh7 P?) Wi),Qm,cO,dj,Qa,Qa,kA]))
abbrev ME a0 a1 a2:=uX a0 (uX a1 a2)
abbrev oL a0 a1 a2 a3:=sp (jx a0 a1) a2 a3
abbrev tc a0 a1 a2:=ME (rk a0) a1 a2
abbrev Qh9:=ff (DA 850 [IU,Qm]) (rk Qh2) Da (uX (gZ Qh3 Qh2) (ME (gZ GW Qh3) (gZ GW GW) (oL Qh2 Qh3 Qhr (ME (gZ GW Qh2) (rk Qh3) (tc Qh4 (gZ GW (.add Qh3 Qh4)) (ME (gZ GW P?) (rk P?) (gJ P? GW (uX (nS Qh6 GW) Qh8) Qh8)))))))
abbrev NQ:V:=.lit 7
abbrev Qib:=qA NQ
abbrev r4 a0 a1 a2:=sp (zn a0) a1 a2
abbrev Qic:=sp E! Da (ff Qhe Qhf (r4 GW Qhj Ob) Da)
abbrev Qid:=qA NT
abbrev Qie:=rV IS Dn (td Lh (u7 NR) Qg4)
abbrev Qif:=gJ Qa NR (ou [Qie,Qm,cO,dj,Qa,Qa,kA]) Ob
abbrev pD a0 a1:=jx a0 (.lit a1)
abbrev Qig:=pD cO 11
abbrev Qih:=gJ Qa NR (ou [Qie,Qm,cO,dj,Q0,Qa,kA]) Qhr
abbrev Qii:V:=.lit 10
abbrev Qij:=qA Qii
abbrev QM:=gn (nQ dj)
abbrev Qil:=rV IS Dn (td Lh (jg NR) Qg4)
abbrev Qim:=gJ NR QM (ou [Qil,Qm,cO,dj,Qa,Qa,kA]) Da
abbrev Qin:=pD cO 17
abbrev Qio:V:=.lit 1099511627776
abbrev Qip:=cJ (gZ eQ (Fl Qa NR)) Da (gZ (Fl Qio NR) eQ) Da (ou [rV IS Dn (td Lh (rE NR eQ) Qg4),Qm,cO,dj,rE NR eQ,Qa,kA])
abbrev Qiq:=pD cO 18
abbrev Qir:=gJ Qa NR (ou [Qie,Qm,cO,dj,u7 NR,Qa,kA]) Da
abbrev Qis:=pD cO 19
abbrev Qit:=r4 NR Qhr Ob
abbrev Qiu:=pD cO 22
abbrev Qiv:=ou [Qg6,Qm,cO,dj,NR,Qa,kA]
abbrev Qiw:V:=.lit 23
abbrev Qix:=qA Qiw
abbrev Qiy:=ou [rV IS Dn (td Lh eQ Qg4),Qm,cO,dj,eQ,Qa,kA]
abbrev Qiz:V:=.lit 20
abbrev Qi0:=qA Qiz
abbrev mb a0 a1 a2 a3 a4 a5:=yi a0 a1 a2 a3 a4 a5 gR
abbrev Qi1:=gJ (ln Wj) QM (mh (nS Wj Qhx) (ou [rV IS Dn (mb Lh Oc TR TU IU (Je Wj (mk eQ))),Qm,cO,dj,eQ,Qa,kA])) Ob
abbrev Qi2:=pD cO 21
abbrev Qi3:V:=.add Q0 (.sub (ln Wj) Q0)
abbrev Qi4:=r4 (ln Wj) Ob (tc (.sub (ln Wj) Q0) (nS Wj Qi3) (ou [rV IS Dn (mb Lh Oc TR TU IU (ug .drop Wj Qi3 Q0)),Qm,cO,dj,lU Wj Qa,Qa,kA]))
abbrev Qi5:=pD cO 12
abbrev Qi6:=rk QM
abbrev Qi7:=jV QM IS
abbrev Qi8:=jx QM dj
abbrev VE:V:=.lit (-1)
abbrev TQ:=[IU,Qm,dj,QM,IS,cO,eQ,ia,VE,NR,Qgx,Qgz,Wj]
abbrev Qjb:=mh (gZ GW Qhx) (ou [u6 (kg Dn Bk Qhy),Qm,cO,dj,Qa,Qa,p8])
abbrev Qjc:=rr 12000 TQ 14
abbrev Qjd:=rr 12000 TQ 15
abbrev Qje:V:=.add Qjc Q0
abbrev Qjf:=Je gR Of
abbrev Qjg:V:=.op .cat (ug .cat Qjd Qjc Qjf) (.op .drop Qjd Qje)
abbrev Qji:=ve (el IS QM) Qm
abbrev Qjj:=ry IS (mk QM) IS QM gR Bk
abbrev TP:=[IU,Qm,dj,QM,Qjj,cO,eQ,ia,Qgt,NR,Qgx,Qgz,Wj]
abbrev Qjl:=mh (gZ GW Qhx) (ou [stx Qjj (kg Dn Lh Qhy),Qm,cO,dj,Qa,Qa,p8])
abbrev Qjm:=rr 12000 TP 14
abbrev Qjn:=rr 12000 TP 15
abbrev Qjo:V:=.add Qjm Q0
abbrev Qjp:V:=.op .cat (ug .cat Qjn Qjm Qjf) (.op .drop Qjn Qjo)
abbrev Qjq:=u6 (yi Dn Lh Oc TR TU Qh Wi)
abbrev P':V:=.lit 24
abbrev Qjs:V:=.lit 4611686018427387904
abbrev P_:V:=.lit 25
abbrev NP:V:=.lit 16
abbrev vf a0 a1 a2 a3 a4 a5 a6:=fg a0 a1 a2 a3 (.lit a4) a5 a6
abbrev Qjv:=vf cO P' (qp Qi6 Qi7 (ff Qhe Qhf (cJ Qi8 Qhj (rk (fR (el IS QM))) (ou [stx (ry IS (mk QM) IS QM gR Of) Qg5,Qm,cO,dj,Qa,Qa,kA]) Ob) Ob)) cO 15 (gJ Qgz Qjs (iB (jx (jg NR) QM) (ou [u6 (yi Dn Lh gR TR (mk (jg Qgz)) IU Wi),Qm,cO,dj,Qgz,Qa,p8]) [Qil,Qm,cO,dj,Qgz,Qa,p8]) Da) (fg cO P_ (gJ eQ Qgz (ou [Qg6,Qm,cO,dj,eQ,Qa,kA]) Ob) cO NP (r4 Qgx (cJ E! Da Qhg Qhq Ob) Qhr) (ff (pD cO 26) E! (ou [u6 (yi Dn Bk Oc Qh TU IU Wi),Qm,cO,dj,Qa,Qa,kA]) Da))
abbrev Qjw:=vf cO (.lit 13) (r4 GW Qhr (tc (.sub GW Q0) (gZ GW (.add Q0 (.sub GW Q0))) (ou [u6 (yi Dn Lh Oc TR TU (ug .drop IU (.add Q0 (.sub GW Q0)) Q0) Wi),Qm,cO,dj,jg (lU IU Qa),Qa,kA]))) cO 14 (ou [Qjq,Qm,cO,dj,GW,Qa,kA]) Qjv
abbrev Qjx:=gJ Qa QM (ou [rV IS Dn (mb Lh Oc TR TU IU (Je gR (mk eQ))),Qm,cO,dj,eQ,Qa,kA]) Ob
abbrev Qjy:=rr 12100 TQ 14
abbrev Qjz:=rr 12100 TQ 15
abbrev Qj0:V:=.add Qjy Q0
abbrev Qj1:V:=.op .cat (ug .cat Qjz Qjy Qjf) (.op .drop Qjz Qj0)
abbrev Qj2:=rr 12100 TP 14
abbrev Qj3:=rr 12100 TP 15
abbrev Qj4:V:=.add Qj2 Q0
abbrev Qj5:V:=.op .cat (ug .cat Qj3 Qj2 Qjf) (.op .drop Qj3 Qj4)
abbrev Qj6:=qy Oc TR TU Qjf Wi
abbrev Qj7:=sp E! Da (ff Qhe Qhf (sp Qhg (ou [u6 (kg Dn Lh Qj6),Qm,cO,dj,Qa,Qa,kA]) Ob) Da)
abbrev Qj8:=mh (DA 850 [IU,Qm]) (mh (rk Qh2) Da)
abbrev Qj9:=ou [u6 (kg Dn Bk Qj6),Qm,cO,dj,Qa,Qa,p8]
abbrev Qka:=ou [stx Qjj (kg Dn Lh Qj6),Qm,cO,dj,Qa,Qa,p8]
abbrev Qkb:=vf cO (.lit 13) Qhr cO 14 (ou [Qjq,Qm,cO,dj,Qa,Qa,kA]) Qjv
abbrev mq a0 a1 a2 a3 a4:=mh a0 (ff a1 a2 a3 a4)
abbrev oN a0 a1:=rC (eK a0 a1)
abbrev nN a0 a1 a2 a3 a4 a5 a6:=sp a0 a1 (cJ a2 a3 a4 a5 a6)
abbrev SA a0 a1 a2 a3:=pF a0 a1 (mh a2 a3)
abbrev pC a0 a1 a2 a3 a4:=SA a0 a1 (iI a2 a3) a4
def jz:=pF 9000 Qgi (mJ (zn Qgj) (sp Wl Qgo (uX Qgp Qgo)) Qgj Q0 (ff Qgk Qgl Qgq (cJ Qq Qgq Qr (sp Wl Qgq Qgq) Qgq)) (fg Qgj kA (ff Qgk Qgl Qgr (cJ Qq Qgr Qr (sp Wl Qgr Qgr) Qgr)) Qgj p8 (ff Qgk Qgl D1 (cJ Qq D1 Qr (cJ Wl D1 Qgp (mq Qg8 Qg9 Qha (nN Qhb Qhk Qhl Qhm Qho Qhm (cJ Qhp Qhs Qht Qhu (cJ Qhv Qhz Qh0 Qh9 (cJ Qib Qic Qid Qif (cJ Qig Qih Qij Qim (cJ Qin Qip Qiq Qir (cJ Qis Qit Qiu Qiv (cJ Qix Qiy Qi0 Qi1 (cJ Qi2 Qi4 Qi5 (qp Qi6 Qi7 (jh Qi8 E! (jI 12000 TQ 12000 TQ 0 Qjb (mh (oN 12000 TQ) (tc Qjc (nS Qjd Qje) (tc Qje (nS Qjg Qje) (ou [u6 (yi Dn Bk Oc TR TU (.op .take Qjg Qje) Wi),Qm,cO,dj,Qa,Qa,p8]))))) Da Qji (jI 12000 TP 12000 TP 0 Qjl (mh (oN 12000 TP) (tc Qjm (nS Qjn Qjo) (tc Qjo (nS Qjp Qjo) (ou [stx Qjj (yi Dn Lh Oc TR TU (.op .take Qjp Qjo) Wi),Qm,cO,dj,Qa,Qa,p8]))))) Da)) Qjw))))))))) D1) D1) D1)) (fg Qgj nL (ff Qgk Qgl D1 (cJ Qq D1 Qr (cJ Wl D1 Qgp (mq Qg8 Qg9 Qha (nN Qhb Qhk Qhl Qhm Qho Qhm (cJ Qhp Qhs Qht Qhu (cJ Qhv Qhz Qh0 Qh9 (cJ Qib Qic Qid Qif (cJ Qig Qih Qij Qim (cJ Qin Qip Qiq Qir (cJ Qis Qit Qiu Qiv (cJ Qix Qiy Qi0 Qjx (cJ Qi2 Ob Qi5 (qp Qi6 Qi7 (jh Qi8 E! (jI 12100 TQ 12100 TQ 0 Qjb (mh (oN 12100 TQ) (tc Qjy (nS Qjz Qj0) (tc Qj0 (nS Qj1 Qj0) (ou [u6 (yi Dn Bk Oc TR TU (.op .take Qj1 Qj0) Wi),Qm,cO,dj,Qa,Qa,p8]))))) Da Qji (jI 12100 TP 12100 TP 0 Qjl (mh (oN 12100 TP) (tc Qj2 (nS Qj3 Qj4) (tc Qj4 (nS Qj5 Qj4) (ou [stx Qjj (yi Dn Lh Oc TR TU (.op .take Qj5 Qj4) Wi),Qm,cO,dj,Qa,Qa,p8]))))) Da)) Qjw))))))))) D1) D1) D1)) Qgj IW (ff Qgk Qgl D1 (cJ Qq D1 Qr (cJ Wl D1 Qgp (mq Qg8 Qg9 Qha (nN Qhb Qhk Qhl Qhm Qho Qhm (cJ Qhp Qhs Qht Qhu (cJ Qhv Qj7 Qh0 Qj8 (cJ Qib Qhk Qid Qif (cJ Qig Qih Qij Qim (cJ Qin Qip Qiq Qir (cJ Qis Qit Qiu Qiv (cJ Qix Qiy Qi0 Qi1 (cJ Qi2 Qi4 Qi5 (qp Qi6 Qi7 (jh Qi8 E! (pC 12200 TQ 12200 TQ Qj9) Da Qji (pC 12200 TP 12200 TP Qka) Da)) Qkb))))))))) D1) D1) D1)) (mq (jx Qgj GX) Qgk Qgl D1 (cJ Qq D1 Qr (cJ Wl D1 Qgp (mq Qg8 Qg9 Qha (nN Qhb Qhk Qhl Qhm Qho Qhm (cJ Qhp Qhs Qht Qhu (cJ Qhv Qj7 Qh0 Qj8 (cJ Qib Qhk Qid Qif (cJ Qig Qih Qij Qim (cJ Qin Qip Qiq Qir (cJ Qis Qit Qiu Qiv (cJ Qix Qiy Qi0 Qjx (cJ Qi2 Ob Qi5 (qp Qi6 Qi7 (jh Qi8 E! (pC 12300 TQ 12300 TQ Qj9) Da Qji (pC 12300 TP 12300 TP Qka) Da)) Qkb))))))))) D1) D1) D1)))))
abbrev Qkc:=ju 451 [Qf,uS,Qa,Qb]
def ah6:=cJ (oK (.lit 64)) Qkc (gZ NP Qc) Qkc (ju 452 [Qf,uS,Qa,Qb])
abbrev Qkd:=ju 451 (ny [Qm])
def ae0:=rA xG (rX Qkd) 453 [Qm,D2,Qa,Qf]
abbrev Qke:=[Qf,Qm,NS,Oe,QO,Qgb,nm Q_]
def aeZ:=rA xG (rX (jI 700 Qke 700 Qke 0 Qkd (ju 452 (ny [Qm])))) 454 [Qm,D2,Qa,Qf]
abbrev Qkf:List V:=zO [Qo,Qm,ce 0 Od,Oe,ce 2 Od]
def aeY:=qz (uX K6 (eM Q' 455 Qkf)) [.lit 120]
def aeX:=iC xG (rX (iJ (jV (.lit 120) Oe) (ju 455 Qkf) (jV (.lit 4000) (ce 2 Od)) 455 Qkf (ju 456 Qkf)))
abbrev Qkg:=ju 453 [Qb,Qo,Q1,cO]
def aeW:=sp (jV Qf ia) Qkg Qkg
abbrev Qkh:=el ia Qf
abbrev Qki:=[cO,Qb,dj,eQ,ia,fR Qkh,Be 1 Qkh,gn Qkh,jH Qkh,jv Qkh,Be 5 Qkh,ce 6 Qkh]
abbrev Qkj:=jg Qf
abbrev Qkk:=[ce 6 Qkh,dj,eQ,ia]
abbrev jT a0 a1:=rr a0 a1 1
abbrev Qkl:=[Qkj,Qb,Qo,Qm,cO,eK 5000 Qkk,jT 5000 Qkk,jJ 5000 Qkk]
def aeV:=rA (jV Qf ia) (uX (rk Qf) (jI 750 Qki 750 Qki 0 (ju 455 [Qkj,Qb,Qo,Qm,cO,dj,eQ,ia]) (jI 5000 Qkk 5000 Qkk 3 (ju 456 Qkl) (ju 455 Qkl)))) 454 [Qb,Qo,Q1,cO]
abbrev Qkm:List V:=EF [Qm,cO]
abbrev Qkn:=rk jm
abbrev Qko:=nR j8
abbrev D?:=jx Qf nL
abbrev Qkq:=nR qV
abbrev O?:=zn ia
abbrev Qks:=ju 501 [oX,j8,ln j8,Qa,Qf,Qb,Qo,Qm,cO,dj,eQ,ia,jm,qV,gR]
abbrev Qkt:=gJ Qa jm iy Qks
abbrev oO a0 a1 a2 a3:=cJ a0 iy a1 a2 a3
abbrev Qku:=oO Qkq O? Qkt iy
abbrev Qkv:=jx Qf kA
abbrev Qkw:=jx Qf P!
abbrev O!:=jx Qf IW
abbrev Qky:=rC Qf
abbrev jf a0 a1 a2:=oO a0 a1 iy a2
abbrev s9 a0 a1:=sp a0 iy a1
abbrev Qkz:=oO (gZ dj VE) (gZ dj oX) (jf Qkn (gZ Qjs jm) (cJ Wl (cJ Qko (cJ D? Qku Qkv Qku iy) Qkq (iC Qkw (iC O? Qkt)) (yh O? (gJ Qa jm (iC O! Qks) Qks) Qf GX Qkt)) Qky (s9 Qko Qku) (yh Qkv (sp Qko Qku Qku) Qf GX (s9 Qko (oO Qkq O? Qkt Qkt))))) iy
def Xc:=jI 650 Qkm 650 Qkm 1 Qkz (jf (rk eQ) (gZ (eK 650 Qkm) eQ) Qkz)
abbrev Qk0:=vb (mk (nm Qs))
abbrev jB a0 a1:=V.op .zX a0 a1
abbrev Qk1:=uh 501 [Q1,cO,dj,eQ,ia,jm,j8,qV,oX,Bj,ss,jB wO (cn Qk0 Qh)]
abbrev E_:=ln ss
abbrev Qk3:=rk j8
abbrev s8 a0 a1 a2 a3 a4:=cJ a0 a1 (zn a2) a3 a4
abbrev yf a0 a1:=iC (zn a0) a1
abbrev Qk4:=s8 Qk3 j7 Qc (yf oX j7) iy
abbrev ac3 a0 a1 a2:=zn (.op a0 a1 a2)
abbrev wg a0 a1:=ac3 .O1 a0 a1
abbrev yg a0 a1:=V.op .GM a0 a1
def Oq:=nN Qp (va (oO (rk (nm Qs)) (gZ (nm Qs) Qf) (mJ (wg wO Qk0) Qk1 (nm (yg wO Qk0)) Q0 iy Qk1) iy)) (rk eQ) (gJ Qa E_ iy Qk4) (gZ eQ E_) iy Qk4
abbrev Qk5:=wi uS 1759218604441
abbrev Qk6:=jx (vb Qf) Qh
abbrev Qk7:=lS (vb Qf)
def Y_:=iJ Qfz (eM Qk5 551 [Qf,uS,Qa]) Qk6 552 [] (eM Qk7 553 [])
abbrev Qk8:=nR TS
abbrev Qk9:=rz TS
abbrev Qla:=wj Qf zf Od Qbd Q_
abbrev Qlb:=oP Qf zf Od Qbl
abbrev Qlc:=oP Qf zf Od Qbq
def aeU:=qz (rX (mJ (nR Q_) (mh (rz Q_) (mJ Qk8 (eM Qk9 551 [ry Qla zf Qla Qo TV TS,Qb,QU]) TS Qh (ju 551 [kI Qla zf Qla Qo Wn,Qb,QU]) (eM (lS TS) 551 [kI Qla zf Qla Qo Wm,Qb,QU]))) Q_ Qh (mJ Qk8 (eM Qk9 551 [ry Qlb zf Qlb Qo TV TS,Qb,QU]) TS Qh (ju 551 [kI Qlb zf Qlb Qo Wn,Qb,QU]) (eM (lS TS) 551 [kI Qlb zf Qlb Qo Wm,Qb,QU])) (mh (lS Q_) (mJ Qk8 (eM Qk9 551 [ry Qlc zf Qlc Qo TV TS,Qb,QU]) TS Qh (ju 551 [kI Qlc zf Qlc Qo Wn,Qb,QU]) (eM (lS TS) 551 [kI Qlc zf Qlc Qo Wm,Qb,QU]))))) Qj
def akr:=ou [Qh]
def akq:=ou [Qk]
abbrev Wh:=jx Qf p8
abbrev Qle:=ou [kA]
abbrev Qlf:=ou [nL]
def ah0:=iC (wi (wr Qf) 27) (oM Qf (wi Qf 27) (oO (zn Qf) Qky j7 (cJ Qkv j7 Wh j7 (cJ D? j7 O! Qle (fg Qf GX Qle Qf NQ Qle (mJ Qkw Qle Qf NT (ou [p8]) (vf Qf Qii (ou [p8]) Qf 11 (ou [p8]) (vf Qf (.lit 12) Qlf Qf 13 Qlf (vf Qf (.lit 14) Qlf Qf 15 (ou [IW]) (vf Qf NP (ou [GX]) Qf 17 (ou [NQ]) (vf Qf (.lit 18) (ou [NQ]) Qf 19 (ou [NQ]) (vf Qf Qiz (ou [P!]) Qf 21 (ou [P!]) (fg Qf (.lit 22) (ou [NT]) Qf Qiw (ou [NT]) (fg Qf P' Qlf Qf P_ (ou [IW]) (ou [GX])))))))))))))))
def X?:=cJ Wh (ou [Qo,Q0]) O! (ou [u7 Qo,Q0]) (fg Qf NQ (ou [Qio,Q0]) Qf NT (ou [Qa,Qa]) (ou [Qa,Q0]))
abbrev Qlg:=yf cO j7
abbrev Qlh:=jf Qe8 (At 1048576 cO) j7
abbrev Qli:=rk cO
def ahZ:=sp (rC Qo) Qlg (fg Qo kA Qlg Qo GX Qlg (fg Qo NQ Qlg Qo p8 Qlh (fg Qo P! Qlh Qo IW (jf Qe8 (gZ NP cO) j7) (fg Qo nL (oO Qli (oK cO) (gT (fR (nQ cO)) Q0 j7) iy) Qo NT j7 iy))))
abbrev Qlk:=rC dj
abbrev Qll:=jx dj kA
abbrev Qlm:=jx dj p8
abbrev Qln:=jx dj nL
abbrev Qlo:=jx dj IW
abbrev Qlp:=fg dj GX iy dj NQ iy iy
abbrev Qlq:=s9 Qlm (jf Qln Qlo Qlp)
abbrev Qlr:=oK ia
abbrev Qls:=fR (nQ ia)
abbrev Qlt:=[Qls,dj,eQ,ia,jm,j8,qV,oX,Qa]
abbrev Qlu:=oL eQ NP iy j7
abbrev Qlv:=nB 950 Qlt 950 Qlt 0 Qlu
abbrev Qlw:=iC Qlr (gT Qls GX j7)
abbrev Qlx:=gT (ln oX) Q0 j7
abbrev Qly:=gJ VG j8 iy Qlx
abbrev Qlz:=gJ VG j8 iy j7
abbrev Ql0:=nN Qlm iy Qln Qly Qlo Qlz Qlp
abbrev Ql1:=oL eQ NP Qlz j7
abbrev Ql2:=nB 950 Qlt 950 Qlt 0 Ql1
abbrev Ql3:=gZ jm D2
abbrev Ql4:=sp Qlm (iC Ql3 Qlx) (jf Qln Qlo (fg dj GX (iC Ql3 j7) dj NQ (iC Ql3 iy) iy))
abbrev Ql5:=[Qls,dj,eQ,ia,jm,j8,qV,oX,Q0]
abbrev Ql6:=nN Qlm (iC Ql3 Qlx) Qln Qly Qlo Qlz (fg dj GX (iC Ql3 j7) dj NQ (iC Ql3 Qlz) iy)
def ahY:=sp Qkn (jh Qk3 (rk ia) (jf Qlk Qll Qlq) (cJ Qlk (iC Qlr Qlv) Qll Qlw Qlq) (rk ia) (jf Qlk Qll Ql0) (cJ Qlk (iC Qlr Ql2) Qll Qlw Ql0)) (jh Qk3 (rk ia) (jf Qlk Qll Ql4) (cJ Qlk (iC Qlr (sp Ql3 (nB 950 Ql5 950 Ql5 0 Qlu) Qlv)) Qll Qlw Ql4) (rk ia) (jf Qlk Qll Ql6) (cJ Qlk (iC Qlr (sp Ql3 (nB 950 Ql5 950 Ql5 0 Ql1) Ql2)) Qll Qlw Ql6))
abbrev Ql7:List V:=EF [Qm,Q0,.lit 1000,cO]
def ahX:=nB 5050 Ql7 5050 Ql7 2 j7
def ahW:=ju 851 [Qf,Qb,uS,Qa]
abbrev Ql8:=ou [Qm]
abbrev B3:=nm QN
def X!:=iB Qp (lT Qq Qfc (jx Qb B3) Ql8 (ju 851 Qfq)) [VE]
abbrev qt a0 a1 a2 a3:=vg a0 a1 a2 iy a3
def ahV:=qt 850 Db (rk (eK 850 Db)) j7
abbrev NO:=zn jm
abbrev Qma:=[Qf,ln ia,Qb,Qo,Qm,cO,dj,eQ,ia]
def ahQ:=rA NO (ju 951 Qma) 952 Qma
abbrev D':=cn gR (kg gR Qh gR)
abbrev Qmc:=[Qf,Qb,Q0,Qo,Qm,cO,dj,eQ,ia,jm,Je gR (cn Qh D')]
abbrev Qmd:=[Qf,Q0,Qa,Qa,Qm,Qa,Qa]
abbrev Qme:=DA 1200 [Qm]
abbrev Qmf:=jx Qf (eK 1200 [Qm])
abbrev Qmg:=[Qf,gR]
abbrev Qmh:=DA 5150 Qmg
abbrev Qmi:=pK 5150 Qmg 2
abbrev Qmj:=oL Qm NP j7 j7
abbrev rW a0:=jV Qiz a0
abbrev Qmk:=ff Qme Qmf (mh Qmh (jf Qmi (rW (jT 5150 Qmg)) Qmj)) iy
abbrev Qml:=nB 12400 Qmd 12400 Qmd 0 (mh (oN 12400 Qmd) Qmk)
abbrev Qmm:=[Qa,Qa,Qf,Qa,Qa,Qa,Qm,Qa,Qa]
abbrev Qmn:=DA 5200 Qmg
abbrev Qmo:=pK 5200 Qmg 3
abbrev Qmp:=[Qf,Qa,Qa,Qa,Qm,Qa,Qa]
abbrev Qmq:=cJ Wh Qml Qkw Qml (cJ O! Qml D? (nB 12450 Qmm 12450 Qmm 0 (mq (oN 12450 Qmm) Qme Qmf (mh Qmn (jf Qmo (rW (jJ 5200 Qmg)) Qmj)) iy)) (nB 12400 Qmp 12400 Qmp 0 (mh (oN 12400 Qmp) Qmk)))
abbrev Qmr:=iI 12500 Qmd
abbrev Qms:=oN 12500 Qmd
abbrev r7 a0 a1:=V.eD (qpx a0 a1)
abbrev Qmt:=r7 97 we
abbrev Qmu:=cn Qmt Qh
abbrev Qmv:=rW (jB (jT 5150 Qmg) Qmu)
abbrev Qmw:=ff Qme Qmf (ff Qmh Qmi iy (n5 Qmv Qm NP iy)) iy
abbrev Qmx:=qt 12500 Qmd Qmr (mh Qms Qmw)
abbrev Qmy:=iI 12550 Qmm
abbrev Qmz:=oN 12550 Qmm
abbrev Qm0:=rW (jB (jJ 5200 Qmg) Qmu)
abbrev Qm1:=iI 12500 Qmp
abbrev Qm2:=oN 12500 Qmp
def aeT:=mJ Qfy (ju 953 Qmc) dj VE Qmq (cJ Wh Qmx Qkw Qmx (cJ O! Qmx D? (qt 12550 Qmm Qmy (mq Qmz Qme Qmf (ff Qmn Qmo iy (n5 Qm0 Qm NP iy)) iy)) (qt 12500 Qmp Qm1 (mh Qm2 Qmw))))
abbrev Qm3:=ff Qme Qmf (mh Qmh (jf Qmi Qmv Qmj)) iy
abbrev Qm4:=qt 12500 Qmd Qmr (mh Qms Qm3)
def aeS:=mJ Qfy (ju 954 Qmc) dj VE Qmq (cJ Wh Qm4 Qkw Qm4 (cJ O! Qm4 D? (qt 12550 Qmm Qmy (mq Qmz Qme Qmf (mh Qmn (jf Qmo Qm0 Qmj)) iy)) (qt 12500 Qmp Qm1 (mh Qm2 Qm3))))
abbrev Qm5:=nS qV (.lit 2513169434915)
abbrev Qm6:List V:=GL [dj,eQ,ia,jm,j8,Je qV (cn Qh D')]
abbrev D!:List V:=[Qf,Q0,Qa,Qa,cO,Qa,qV,Qa]
abbrev Qm8:=DA 1200 [cO]
abbrev Qm9:=jx Qf (eK 1200 [cO])
abbrev Qna:=[rr 12600 D! 9,rr 12600 D! 10,Qf,gR]
abbrev Qnb:=oL cO NP j7 j7
abbrev Qnc:=nB 12600 D! 12600 D! 0 (mq (oN 12600 D!) Qm8 Qm9 (pF 5300 Qna (jf (pK 5300 Qna 3) (rW (jJ 5300 Qna)) Qnb)) iy)
abbrev D_:=[Qa,Qa,Qf,Qa,Qa,Qa,cO,Qa,qV,Qa]
abbrev Qne:=[rr 12650 D_ 11,rr 12650 D_ 12,Qf,gR]
abbrev TO:=[Qf,Qa,Qa,Qa,cO,Qa,qV,Qa]
abbrev Qng:=[rr 12600 TO 9,rr 12600 TO 10,Qf,gR]
abbrev Qnh:=cJ Wh Qnc Qkw Qnc (cJ O! Qnc D? (nB 12650 D_ 12650 D_ 0 (mq (oN 12650 D_) Qm8 Qm9 (pF 5350 Qne (jf (pK 5350 Qne 4) (rW (rr 5350 Qne 3)) Qnb)) iy)) (nB 12600 TO 12600 TO 0 (mq (oN 12600 TO) Qm8 Qm9 (pF 5300 Qng (jf (pK 5300 Qng 3) (rW (jJ 5300 Qng)) Qnb)) iy)))
abbrev Qni:=iI 12700 D!
abbrev Qnj:=oN 12700 D!
abbrev Qnk:=[rr 12700 D! 9,rr 12700 D! 10,Qf,gR]
abbrev Qnl:=pK 5300 Qnk 3
abbrev Qnm:=rW (jB (jJ 5300 Qnk) Qmu)
abbrev Qnn:=gT cO NP iy
abbrev Qno:=qt 12700 D! Qni (mq Qnj Qm8 Qm9 (pF 5300 Qnk (jf Qnl Qnm Qnn)) iy)
abbrev Qnp:=iI 12750 D_
abbrev Qnq:=oN 12750 D_
abbrev Qnr:=[rr 12750 D_ 11,rr 12750 D_ 12,Qf,gR]
abbrev Qns:=pK 5350 Qnr 4
abbrev Qnt:=rW (jB (rr 5350 Qnr 3) Qmu)
abbrev Qnu:=iI 12700 TO
abbrev Qnv:=oN 12700 TO
abbrev Qnw:=[rr 12700 TO 9,rr 12700 TO 10,Qf,gR]
abbrev Qnx:=pK 5300 Qnw 3
abbrev Qny:=rW (jB (jJ 5300 Qnw) Qmu)
def qX:=mJ xG (eM Qm5 953 Qm6) eQ VE Qnh (cJ Wh Qno Qkw Qno (cJ O! Qno D? (qt 12750 D_ Qnp (mq Qnq Qm8 Qm9 (pF 5350 Qnr (jf Qns Qnt Qnn)) iy)) (qt 12700 TO Qnu (mq Qnv Qm8 Qm9 (pF 5300 Qnw (jf Qnx Qny Qnn)) iy))))
abbrev Qnz:=qt 12700 D! Qni (mq Qnj Qm8 Qm9 (pF 5300 Qnk (jf Qnl Qnm Qnb)) iy)
def qW:=mJ xG (eM Qm5 954 Qm6) eQ VE Qnh (cJ Wh Qnz Qkw Qnz (cJ O! Qnz D? (qt 12750 D_ Qnp (mq Qnq Qm8 Qm9 (pF 5350 Qnr (jf Qns Qnt Qnb)) iy)) (qt 12700 TO Qnu (mq Qnv Qm8 Qm9 (pF 5300 Qnw (jf Qnx Qny Qnb)) iy))))
def acG:=pF 1050 [Qf,Qa] (iC (pK 1050 [Qf,Qa] 6) (gT (eK 1050 [Qf,Qa]) kA (gT (Fl (rr 1050 [Qf,Qa] 5) (rr 1050 [Qf,Qa] 4)) uS j7)))
abbrev Qn0:=ou [Qa,gR,Qa,Qa,Qa,Qa,kA,Qa]
abbrev QL:=rr 12800 Db 3
abbrev Qn2:=jg (SC .cnt .sub Qf (td gR QL gR) Qii)
abbrev Qn3:=rr 12850 [Qf,QL] 3
abbrev Wg:V:=.op .sub Qf (td (mk QL) Qn3 gR)
abbrev Qn5:=lU Wg Qa
abbrev Qn6:V:=.lit 256
abbrev Qn7:=lU (.eD b0) Qn5
abbrev Qn8:=ou [Qa,gR,Qa,Qa,Qa,Qa,.lit 100,Qn2]
abbrev Qn9:=r7 32 we
abbrev Qoa:=jx (vb Wg) (r7 61 we)
def Rr:=gJ (.lit 16384) uS (ou [Qa,gR,Qa,Qa,Qa,Qa,p8,Qa]) (cJ QP Qn0 (gZ uS Qb) Qn0 (pC 12800 Db 12800 Db (tc QL (gZ uS QL) (oL QL uS (ou [IW,gR,Qa,Qn2,QL,QL,Qa,Qa]) (pC 12850 [Qf,QL] 12850 [Qf,QL] (uX (gZ Qn3 QL) (qp (gZ uS Qn3) (nR Wg) (lT (rk Qn5) (gZ Qn5 Qn6) (jx Qn7 p8) (jI 1100 [Wg] 1100 [Wg] 1 Qn8 (ou [Q0,gR,eK 1100 [Wg],Qn2,QL,Qn3,Qa,Qa])) (fg Qn7 nL (mh (nS Wg (.lit 1000000000)) (mh (nS (.op .cat Qn9 Wg) (.lit 1000000000)) (cJ (ac3 .con (.eD b1) (SC .cat .cat Qn9 Wg Qn9)) (iB Qoa Qn8 [kA,Wg,Qa,Qn2,QL,Qn3,Qa,Qa]) Qoa Qn8 (ou [p8,Wg,Qa,Qn2,QL,Qn3,Qa,Qa])))) Qn7 IW (iB Qoa Qn8 [nL,Wg,Qa,Qn2,QL,Qn3,Qa,Qa]) Qn8)))))))))
def acF:=rA (zn uS) (ju 1101 []) 1102 [Qa,Qf,uS,Qa]
def aih:=ou [Qa,Q0]
abbrev Qob:=wr (.wrap .u8 (.sub (nm Qs) (.lit 48)))
def XF:=iB Qp (lT Qq Qr (gZ (wr (.quo (Fl (.lit 9223372036854775807) Qob) Qii)) Qf) (ou [Qa,Qa]) (ju 1102 [rE (wr (.mul Qf Qii)) Qob,Qb,Qo,Q1])) [Qf,Q0]
abbrev Qod:=iI 1000 [Qb]
abbrev Qoe:=u7 D2
abbrev Qof:=r7 45 we
abbrev Qog:=r7 43 we
abbrev Qoh:=r7 42 we
abbrev Qoi:=r7 61 (qpx 61 we)
abbrev Qoj:=r7 60 we
def acE:=nN Qky (n5 K6 Qg gR (yf D2 j7)) Qkv (yf Qo (yf D2 (qt 1000 [Qb] Qod j7))) Wh (yf Qo (jf (gZ D2 Q0) (gZ kA D2) (oM Qoe (gZ Qoe kA) (mJ (zn Qoe) (gT Qg Qof j7) Qg Qog j7 (fg Qg Qof j7 Qg Qoh j7 (fg Qg Qoi j7 Qg Qoj j7 iy)))))) iy
def acD:=gJ nL Qf (gJ P! Qf (iB (At 11 Qf) (gJ (.lit 14) Qf (nN (pD Qf 15) (ou [IW]) (jx Qf NP) (ou [GX]) (At 19 Qf) (iB (At 21 Qf) (ou [NT]) [P!]) (ou [NQ])) Qlf) [p8]) Qle) j7
def acC:=mJ D? j7 Qf (.lit 17) j7 (fg Qf Qiz j7 Qf Qiw j7 iy)
def acB:=sp Wh j7 (mJ D? j7 Qf (.lit 11) j7 (vf Qf (.lit 21) j7 Qf 22 j7 iy))
def acA:=cJ Wh j7 O! j7 (yh Qkw j7 Qf NT j7)
abbrev Qok:=yh D? (nB 1000 [Qm] 1000 [Qm] 0 j7) (vb Qm) gR j7
def acz:=jf (gZ Qf Q0) (gZ NT Qf) (qt 1000 [Qb] Qod (oO K6 (gZ Qa Qo) (nB 1350 Qj 1350 Qj 0 Qok) Qok))
def Xp:=ff Qfv Qfw (pF 300 Db (ju 1451 [Qb,Qc,eK 300 Db])) (ou [Qh,Qh,eK 450 Db])
abbrev Qol:=ln (ce 1 (nQ Qa))
abbrev Qom:=qy gR gR gR gR gR
def Rq:=iB Qfy (ff Qfz (zn Qol) (ju 1452 [Qf,Qb,Q0,Qo,Je gR (kg gR Qk Qom)]) (eM (gZ Qol Qv) 1452 [Qf,Qb,Q0,Qo,Je gR (kg gR (rpx Qol gR) Qom)])) [Qo,Qh,Qa]
abbrev Qon:=wi VG 2199023255551
abbrev Qoo:=ou [Qm,cO,Qa]
def Rp:=sp xG (lT K6 Q' (zn (ln Oe)) (jU Qon 1452 [Qm,Je cO (kg gR Qk Qom)]) (mh (rz Oe) (jU Qon 1452 [Qm,Je cO (kg gR (rpx (ln Oe) gR) Qom)]))) Qoo
def acy:=mh Qgk (n5 Qgl D2 Qc (ju 1501 [Qm,D2,Qa,Qf,Qb]))
abbrev Qop:=[Qm,cO,ce 0 Qdk,Qdl,ce 2 Qdk,NS,Oe,QO,IT,nm Q_,nm TS]
def Xo:=sp xG (rX (mh E? (nB 1600 Qop 1600 Qop 0 (ju 1501 (GL []))))) j7
abbrev O':List V:=EF [Qm]
def acx:=oO Qli (gZ cO Qc) (nB 1500 O' 1500 O' 0 j7) iy
def acw:=s9 Wl (n5 (gZ VG dj) VF D2 (s9 (rk qV) (oO (gZ Qjs qV) O? (iC NO (yf j8 j7)) (fg ia P' (oO Qkn (oK jm) (gT (fR (nQ jm)) nL j7) iy) ia P_ (oO Qkn (oK jm) (gT (fR (nQ jm)) IW j7) iy) iy))))
abbrev Qor:=qB cO
abbrev Qos:=gn Qor
abbrev Qot:=fR Qor
def acv:=lT Qli (gZ cO D2) (zn Qos) (ff (gZ cO Qc) (jx Qot (ln (ce 2 (el Qb cO)))) j7 iy) iy
abbrev Qou:=el (ce 2 (el Qb cO)) Qot
def G6:=lT Qli (gZ cO D2) (zn Qos) (jI 1650 Qkm 1650 Qkm 0 (mh (gZ cO Qc) (oM Qot (jV Qot (ce 2 (el Qb cO))) (fg (fR Qou) Q0 (ju 1751 [ce 6 Qou,ln (ce 6 Qou),Qa,Qot,ce 1 Qor,Qos,jH Qor,jv Qor,Be 5 Qor,Be 1 Qou,gn Qou,Qa]) (fR Qou) kA (ou [.lit 26,gn Qou,Qa,Qa,Q0]) (ou [Qa,Qa,Qa,Qa,Qa])))) (ou [Qa,Qa,Qa,Qa,Qa])) (ou [Qos,jH Qor,jv Qor,Qa,Q0])
def Xn:=qz (rX (pF 1950 [NS,Oe,QO,Qgb,cO] (ju 1751 (GL [dj,eQ,ia,jm,j8,qV,eK 1950 [NS,Oe,QO,Qgb,cO]])))) [j8,qV,oX,jm,Q0]
abbrev IQ:=[cO,Qo,Qm]
abbrev sq:=eK 9050 IQ
abbrev K5:=DA 1550 Qkm
abbrev K4:=iI 1550 Qkm
abbrev Ba:=jJ 9050 IQ
abbrev TN:=rr 9050 IQ 3
abbrev Qo1:=[Qf,Qb,Ba,TN,cO]
abbrev Qo2:=[Qf,Qb,Ba,Qh,cO]
abbrev Qo3:=[Qf,Qb,Ba,Qk,cO]
abbrev Qo4:=rr 9050 IQ 4
abbrev Qo5:=rr 9050 IQ 5
abbrev Qo6:=rr 9050 IQ 6
abbrev Qo7:=rr 9050 IQ 7
abbrev Qo8:=rr 9050 IQ 8
abbrev Qo9:=rr 9050 IQ 9
abbrev Qpa:=qy (mk Qo6) (mk Qo7) (mk Qo8) (mk Qo9) gR
abbrev qu a0 a1 a2:=rV a0 (mk a1) a2
abbrev Qpb:=qu TN cO (kg (mk Qo4) Qo5 Qpa)
abbrev Qpc:=ou [Ba,Qpb,Qa,Qa,Qa,Qa,Qa,Qa]
abbrev O_:=[Qf,Qb,Ba,Qpb,cO]
abbrev Qpe:=iI 1650 O_
abbrev Qpf:=pK 1750 O_ 4
abbrev Qpg:=[Qf,Qb,cO,Ba,TN,Qo4,Qo5,Qo6,Qo7,Qo8,Qo9]
abbrev A9:=[Qf,Qb,cO,eK 1750 O_,jT 1750 O_,jJ 1750 O_,rr 1750 O_ 3,Ba,TN,Qo4,Qo5,Qo6,Qo7,Qo8,Qo9]
abbrev Qpi:=ou [Ba,Qpb,Qa,Qa,Qa,Qa,Qa,nL]
abbrev rD a0 a1:=rr 14500 a0 a1
abbrev wu a0 a1:=rr 14550 a0 a1
abbrev qx a0 a1:=mk (rD a0 a1)
abbrev qv a0 a1:=mk (wu a0 a1)
def nq:=pF 9050 IQ (mJ (zn sq) (ff K5 K4 (ou [Ba,TN,Qa,Qa,Qa,Qa,Qa,Qa]) (jI 1650 Qo1 1650 Qo1 0 (SA 1750 Qo1 (pK 1750 Qo1 4) fl) (ou [Ba,TN,Qa,Qa,Qa,Qa,Qa,nL]))) sq Q0 (ff K5 K4 (ou [Ba,Qh,Qa,Qa,Qa,Qa,Qa,Qa]) (jI 1650 Qo2 1650 Qo2 0 (SA 1750 Qo2 (pK 1750 Qo2 4) fl) (ou [Ba,Qh,Qa,Qa,Qa,Qa,Qa,nL]))) (fg sq kA (ff K5 K4 (ou [Ba,Qk,Qa,Qa,Qa,Qa,Qa,Qa]) (jI 1650 Qo3 1650 Qo3 0 (SA 1750 Qo3 (pK 1750 Qo3 4) fl) (ou [Ba,Qk,Qa,Qa,Qa,Qa,Qa,nL]))) sq p8 (ff K5 K4 Qpc (vg 1650 O_ Qpe (vg 1750 O_ Qpf (pC 14000 Qpg 14000 Qpg (ou [Ba,qu TN cO (kg (mk (rr 14000 Qpg 12)) (rr 14000 Qpg 13) Qpa),Qa,Qa,Qa,Qa,Qa,Q0])) (pC 14500 A9 14500 A9 (ou [rD A9 22,qu TN cO (mb (qx A9 23) (rD A9 24) (qx A9 25) (qx A9 26) (qx A9 27) (qx A9 28)),rD A9 16,rD A9 17,rD A9 18,rD A9 19,rD A9 20,rD A9 21]))) Qpi)) (mq (jx sq nL) K5 K4 Qpc (vg 1650 O_ Qpe (vg 1750 O_ Qpf (pC 14050 Qpg 14050 Qpg (ou [Ba,qu TN cO (kg (mk (rr 14050 Qpg 12)) Qo5 Qpa),Qa,Qa,Qa,Qa,Qa,Q0])) (pC 14550 A9 14550 A9 (ou [wu A9 22,qu TN cO (mb (qv A9 23) Qo5 (qv A9 24) (qv A9 25) (qv A9 26) (qv A9 27)),wu A9 16,wu A9 17,wu A9 18,wu A9 19,wu A9 20,wu A9 21]))) Qpi))))
abbrev Qpj:=wi Qc 2199023255552
abbrev Qpk:=[uS,Qa,Qf]
def xU:=cJ Qfz (jw Qk5 Qd (eM Qpj 1901 [uS,Qa,Qf,Qb]) Qi 1902 Qpk (eM Ql 1903 Qpk)) Qk6 (iJ Qd (eM Qpj 1904 [Qb]) Qi 1905 [] (eM Ql 1906 [])) (jw Qk7 Qd (eM Qpj 1907 [Qb]) Qi 1908 [] (eM Ql 1909 []))
abbrev Qpl:=gZ Qb Qf
abbrev Qpm:=gZ Qb Qcl
abbrev VD:=el Qo Qb
abbrev Qpo:=ce 4 VD
abbrev Qpp:=nR Qpo
abbrev Qpq:=rz Qpo
abbrev Qpr:=ce 5 VD
abbrev Qps:=nR Qpr
abbrev Qpt:=rz Qpr
abbrev IP:=mk Qb
abbrev Qpv:=wj Qo IP VD Qbd Qpo
abbrev Qpw:=ry Qpv IP Qpv Qb TV Qpr
abbrev Qpx:=jx Qpr Qh
abbrev Qpy:=kI Qpv IP Qpv Qb Wn
abbrev Qpz:=lS Qpr
abbrev Qp0:=kI Qpv IP Qpv Qb Wm
abbrev Qp1:=oP Qo IP VD Qbl
abbrev Qp2:=ry Qp1 IP Qp1 Qb TV Qpr
abbrev Qp3:=kI Qp1 IP Qp1 Qb Wn
abbrev Qp4:=kI Qp1 IP Qp1 Qb Wm
abbrev Qp5:=oP Qo IP VD Qbq
abbrev Qp6:=ry Qp5 IP Qp5 Qb TV Qpr
abbrev Qp7:=kI Qp5 IP Qp5 Qb Wn
abbrev Qp8:=kI Qp5 IP Qp5 Qb Wm
def Xm:=rA Qpl (qp QP Qpm (mJ Qpp (jw Qpq Qps (eM Qpt 1901 [Qf,qS,Qpw,Qm]) Qpx 1901 [Qf,qS,Qpy,Qm] (eM Qpz 1901 [Qf,qS,Qp0,Qm])) Qpo Qh (iJ Qps (eM Qpt 1901 [Qf,qS,Qp2,Qm]) Qpx 1901 [Qf,qS,Qp3,Qm] (eM Qpz 1901 [Qf,qS,Qp4,Qm])) (jw (lS Qpo) Qps (eM Qpt 1901 [Qf,qS,Qp6,Qm]) Qpx 1901 [Qf,qS,Qp7,Qm] (eM Qpz 1901 [Qf,qS,Qp8,Qm])))) 1910 [D2,Qa,Qo,Qm]
def Xl:=rA Qpl (qp QP Qpm (mJ Qpp (jw Qpq Qps (eM Qpt 1902 [Qf,qS,Qpw]) Qpx 1902 [Qf,qS,Qpy] (eM Qpz 1902 [Qf,qS,Qp0])) Qpo Qh (iJ Qps (eM Qpt 1902 [Qf,qS,Qp2]) Qpx 1902 [Qf,qS,Qp3] (eM Qpz 1902 [Qf,qS,Qp4])) (jw (lS Qpo) Qps (eM Qpt 1902 [Qf,qS,Qp6]) Qpx 1902 [Qf,qS,Qp7] (eM Qpz 1902 [Qf,qS,Qp8])))) 1911 [Qo]
def Xk:=rA Qpl (qp QP Qpm (mJ Qpp (jw Qpq Qps (eM Qpt 1903 [Qf,qS,Qpw]) Qpx 1903 [Qf,qS,Qpy] (eM Qpz 1903 [Qf,qS,Qp0])) Qpo Qh (iJ Qps (eM Qpt 1903 [Qf,qS,Qp2]) Qpx 1903 [Qf,qS,Qp3] (eM Qpz 1903 [Qf,qS,Qp4])) (jw (lS Qpo) Qps (eM Qpt 1903 [Qf,qS,Qp6]) Qpx 1903 [Qf,qS,Qp7] (eM Qpz 1903 [Qf,qS,Qp8])))) 1912 [Qo]
def acu:=ju 1913 Qpk
def aif:=ju 1914 []
def aie:=ju 1915 []
def acs:=ju 1916 Qpk
def aid:=ju 1917 []
def aic:=ju 1918 []
abbrev TM:=qB Qb
abbrev Qqa:=ce 1 TM
def Xj:=iB Qpl (qp QP (gZ Qb D2) (mJ (nR Qqa) (eM (rz Qqa) 1910 [Qf,qS,Qo,wj Qm IP TM Qh Qqa]) Qqa Qh (ju 1910 [Qf,qS,Qo,oP Qm IP TM Qdx]) (eM (lS Qqa) 1910 [Qf,qS,Qo,oP Qm IP TM Qdz]))) [Qo,Qm]
def aib:=ou [Qf,Qh]
def aia:=ou [Qf,Qk]
abbrev VC:=ce 1 VD
abbrev Qqc:=[Qf,qS,wj Qo IP VD Qh VC]
abbrev Qqd:=[Qf,qS,oP Qo IP VD Qdx]
abbrev Qqe:=[Qf,qS,oP Qo IP VD Qdz]
def Xi:=iB Qpl (qp QP Qpm (mJ (nR VC) (eM (rz VC) 1913 Qqc) VC Qh (ju 1913 Qqd) (eM (lS VC) 1913 Qqe))) [Qh,Qo]
def acr:=ou [Qh,Qh]
def acq:=ou [Qh,Qk]
def Xh:=iB Qpl (qp QP Qpm (mJ (nR VC) (eM (rz VC) 1916 Qqc) VC Qh (ju 1916 Qqd) (eM (lS VC) 1916 Qqe))) [Qk,Qo]
def acp:=ou [Qk,Qh]
def aco:=ou [Qk,Qk]
abbrev Qqf:=qB Qa
abbrev Qqg:=[fR Qqf,ce 1 Qqf,gn Qqf,ce 3 Qqf,cO]
abbrev Qqh:=eK 1950 Qqg
abbrev Qqi:=qB Q0
abbrev Qqj:=[fR Qqi,ce 1 Qqi,gn Qqi,ce 3 Qqi,cO]
abbrev Qqk:=eK 1950 Qqj
abbrev Qql:=jB (jB (jB gR (cn Qog (mk (rE Qqh Qqk)))) (cn Qof (mk (Fl Qqh Qqk)))) (cn Qoh (mk (wr (.mul Qqh Qqk))))
abbrev Qqm:=iB (wg Qql Qg) iy [nm (yg Qql Qg)]
def Ro:=nN Qky (ou [Qo]) Qkv (oO K6 E? (ou [nm Qdk]) iy) Wh (fg D2 Q0 (gT Qg Qof (pF 1950 Qqg (ou [Fl Qa Qqh]))) D2 kA (pF 1950 Qqg (pF 1950 Qqj (fg Qg Qoi (oL Qqh Qqk j7 Qqm) Qg Qoj (gJ Qqh Qqk j7 Qqm) Qqm))) iy) iy
abbrev Qqn:=[cO,Qf,Qb,Qo,Qm,dj,eQ,ia,jm,Ba]
abbrev Qqo:=[cO,Qa,Qf,Qb,Qo,Qm,dj,eQ,ia,jm,Ba,TN,Qo4,Qo5,Qo6,Qo7,Qo8,Qo9]
def zr:=pF 9050 IQ (mJ (zn sq) (ff K5 K4 (ou [Ba,TN,Qa]) (ju 2001 [cO,Qf,Qb,Qo,Qm,dj,eQ,ia,jm,Ba,TN])) sq Q0 (ff K5 K4 (ou [Ba,Qh,Qa]) (ju 2002 Qqn)) (fg sq kA (ff K5 K4 (ou [Ba,Qk,Qa]) (ju 2003 Qqn)) sq p8 (ff K5 K4 (ou [Ba,Qpb,Qa]) (ju 2004 Qqo)) (mq (jx sq nL) K5 K4 (ou [Ba,Qpb,Qa]) (ju 2005 Qqo))))
abbrev Qqp:=[Qb,Qo,j8,qV,Qf]
abbrev Qqq:=mh Qln (mh O? fl)
abbrev Qqr:=pF 1900 [Qm,cO] (ou [eK 1900 [Qm,cO],jT 1900 [Qm,cO],Qa])
def ah9:=jI 1650 Qqp 1650 Qqp 0 (pF 1750 Qqp (uX (pK 1750 Qqp 4) Qqq)) Qqr
abbrev Qqs:=[Qb,Qo,j8,Qh,Qf]
def ah8:=jI 1650 Qqs 1650 Qqs 0 (pF 1750 Qqs (uX (pK 1750 Qqs 4) Qqq)) Qqr
abbrev Qqt:=[Qb,Qo,j8,Qk,Qf]
def ah7:=jI 1650 Qqt 1650 Qqt 0 (pF 1750 Qqt (uX (pK 1750 Qqt 4) Qqq)) Qqr
abbrev Wf:=pF 1900 [cO,dj] (ou [eK 1900 [cO,dj],jT 1900 [cO,dj],Qa])
abbrev pz:=[Qo,Qm,qV,qu oX Qf (mb (mk Bj) ss (mk wO) (mk IV) (mk Q!) (mk Wk)),Qf]
abbrev D0:=iI 1650 pz
abbrev GI:=pK 1750 pz 4
abbrev TL:=[Qo,Qm,Qf,qV,oX,Bj,ss,wO,IV,Q!,Wk]
abbrev acH (l:List V):=Qo::Qm::Qf::(rr 1750 pz 0)::(rr 1750 pz 1)::(rr 1750 pz 2)::l
abbrev jX:List V:=acH [Qjs,qV,oX,Bj,ss,wO,IV,Q!,Wk]
abbrev fP:List V:=acH [Qa,qV,oX,Bj,ss,wO,IV,Q!,Wk]
abbrev rZ a0 a1 a2:=jx (rD a0 a1) a2
abbrev CQ a0 a1 a2:=SB.and a0 (.and a1 a2)
abbrev Qq1:=pC 14500 fP 14500 fP (cJ (pK 14500 fP 21) Wf (CQ (rZ fP 16 Qf) (rZ fP 17 eQ) (CQ (rZ fP 18 ia) (rZ fP 19 jm) (rZ fP 20 j8))) (ou [rD fP 22,qu oX Qf (mb (qx fP 23) (rD fP 24) (qx fP 25) (qx fP 26) (qx fP 27) (qx fP 28)),Q0]) Wf)
def Lz:=gJ (.lit 20000) Qb Wf (vg 1650 pz D0 (pF 1750 pz (mJ GI (pF 14000 TL (eM (iI 14000 TL) 2004 [Qf,qS,Qo,Qm,cO,dj,eQ,ia,jm,j8,qV,oX,rr 14000 TL 12,rr 14000 TL 13,wO,IV,Q!,Wk])) eQ nL (sp NO (pC 14500 jX 14500 jX (cJ (pK 14500 jX 21) Wf (CQ (rZ jX 16 Qf) (rZ jX 17 eQ) (CQ (rZ jX 18 ia) (rZ jX 19 jm) (rZ jX 20 j8))) (ou [rD jX 22,qu oX Qf (mb (qx jX 23) (rD jX 24) (qx jX 25) (qx jX 26) (qx jX 27) (qx jX 28)),Q0]) Wf)) Qq1) Qq1)) Wf)
abbrev rY a0 a1 a2:=jx (wu a0 a1) a2
abbrev Qq2:=pC 14550 fP 14550 fP (cJ (pK 14550 fP 21) Wf (CQ (rY fP 16 Qf) (rY fP 17 eQ) (CQ (rY fP 18 ia) (rY fP 19 jm) (rY fP 20 j8))) (ou [wu fP 22,qu oX Qf (mb (qv fP 23) ss (qv fP 24) (qv fP 25) (qv fP 26) (qv fP 27)),Q0]) Wf)
def Ly:=gJ (.lit 20000) Qb Wf (vg 1650 pz D0 (pF 1750 pz (mJ GI (pF 14050 TL (eM (iI 14050 TL) 2005 [Qf,qS,Qo,Qm,cO,dj,eQ,ia,jm,j8,qV,oX,rr 14050 TL 12,ss,wO,IV,Q!,Wk])) eQ nL (sp NO (pC 14550 jX 14550 jX (cJ (pK 14550 jX 21) Wf (CQ (rY jX 16 Qf) (rY jX 17 eQ) (CQ (rY jX 18 ia) (rY jX 19 jm) (rY jX 20 j8))) (ou [wu jX 22,qu oX Qf (mb (qv jX 23) ss (qv jX 24) (qv jX 25) (qv jX 26) (qv jX 27)),Q0]) Wf)) Qq2) Qq2)) Wf)
def acn:=pF 200 [Qf,Qo] (n5 (iI 200 [Qf,Qo]) Qc D2 (ju 2051 [Qc,Qa,Qf,Qb,Qo,Qm]))
def Xg:=sp Qpl (qp QP (gZ Qb D2) (ff (jV Qb dj) (ve TM (fR NU)) (gT (gn TM) (gn NU) (gT (jH TM) (jH NU) (gT (jv TM) (jv NU) (gT (Be 5 TM) (Be 5 NU) (gT (ln Qqa) (ln (ce 1 NU)) (ju 2052 [Qf,Qb,ln Qqa,Qa,Qo,Qm,cO,dj,fR TM,Qqa,gn TM,jH TM,jv TM,Be 5 TM,fR NU,ce 1 NU,gn NU,jH NU,jv NU,Be 5 NU])))))) iy)) j7
def Xf:=rA Qp (Zj (jV Qm j8) (ff (jV Qm IV) (jx (lU j8 Qm) (lU IV Qm)) (uh 2052 [Q1,cO,dj,eQ,ia,jm,j8,qV,oX,Bj,ss,wO,IV,Q!,Wk,.dD 18,.dD 19]) iy)) 2051 [Qf,qS,cO,dj,eQ,ia]
def Xe:=oO (gZ Qb Q0) (rk (.rem Qf Qb)) (ou [rE (.rem Qf Qb) Qb]) (ou [.rem Qf Qb])
def acm:=jI 1450 Db 1450 Db 2 (ju 2151 [Qo,Qcl,Qa,Qf,Qb,eK 1450 Db,jT 1450 Db]) (ou [Qh,Qh,Qa])
abbrev N?:List V:=[Qm,cO,dj,eQ,NS,pZ,QO,IT,nm Q_]
def Rn:=qz (rX (jI 2000 N? 2000 N? 2 (ou [dj,eQ,Qo]) (ju 2151 (GL [eK 2000 N?,jT 2000 N?])))) [dj,eQ,uS]
abbrev ajz a0:=ju 23151 a0
def Xd:=ff Qfv Qfw (ajz [Qo,Qcl,Qa,Qf,Qb,gR]) iy
abbrev QK:=fR (qB QO)
abbrev Gr:=mk QO
abbrev QJ:=wg dj Gr
abbrev Cn:=gn (qB QO)
abbrev K3:=mk Cn
abbrev Qq9:=wg dj K3
abbrev Qra:=jx Cn QO
abbrev lV a0:=jB dj a0
abbrev Qrb:=lV (cn Gr gR)
abbrev Wc:=mk NS
abbrev Qrd:=cn Wc (kg gR gR D')
abbrev fC a0:=ajz (GL a0)
abbrev u5 a0:=jB Qrb a0
abbrev Qre:=fC [u5 (cn Gr Qrd)]
abbrev Qrf:=wg Qrb K3
abbrev Qrh:=gZ Cn D2
abbrev Qri:=ve (qB Cn) p8
abbrev Qrj:=u5 (cn K3 gR)
abbrev Qrk:=qy K3 Wc gR (mk (gn (qB Cn))) D'
abbrev oJ a0 a1 a2 a3:=qy Gr a0 a1 a2 a3
abbrev Qrl:=oJ Bk gR gR D'
abbrev Qrm:=fC [jB (jB Qrj Qrk) Qrl]
abbrev Qrn:=ve (qB Cn) NT
abbrev C?:=yg dj K3
abbrev Qrp:=zn (ln (ce 5 C?))
abbrev Qrq:V:=.eD (.i 3)
abbrev Qrr:=jx (ce 5 C?) Qrq
abbrev Qrs:=jx QO Cn
abbrev Qrt:=fR C?
abbrev Qru:=jx Qrt VE
abbrev Qrv:V:=.op .bit (mk (jv C?)) Qa
abbrev Qrw:=cn (ce 1 C?) (qy (mk (gn C?)) (mk (jH C?)) Qrv Qrq gR)
abbrev vc a0 a1 a2:=lV (kg a0 a1 a2)
abbrev Qrx:=vc K3 Wc Qrw
abbrev Qry:=u5 Qrl
abbrev Qrz:=cn (ce 1 C?) (qy (mk (gn C?)) (mk (jH C?)) Qrv (ce 5 C?) gR)
abbrev Qr0:=vc K3 Wc Qrz
abbrev ld a0 a1:=iC a0 (fC a1)
abbrev Qr1:=cJ Qrs (ld Qru [Qr0]) Qru (fC [jB Qry (kg K3 Wc Qrz)]) iy
abbrev Qr2:=yg dj Gr
abbrev We:=ce 5 Qr2
abbrev QI:=zn (ln We)
abbrev Qr5:=jx We Qrq
abbrev Qr7:=ve Qr2 VE
abbrev GH:=ce 1 Qr2
abbrev Qr9:=gn Qr2
abbrev VB:=mk Qr9
abbrev Qsb:=jH Qr2
abbrev Qsc:=mk Qsb
abbrev Qsd:V:=.op .bit (mk (jv Qr2)) Qa
abbrev Qse:=cn Qsc (kg Qsd Qrq gR)
abbrev Qsf:=kg GH VB Qse
abbrev Qsg:=ld Qr7 [vc Gr Wc Qsf]
abbrev Qsh:=lV (cn K3 gR)
abbrev NN:=mk (fR Qr2)
abbrev Qsj:=kg Gr NN Qsf
abbrev Qsk:=fC [jB (jB Qsh Qrk) Qsj]
abbrev Qsl:=jB Qsh (cn K3 Qrd)
abbrev Qsm:=ld Qru [jB Qr0 Qsj]
abbrev Qsn:=cn Qsc (kg Qsd We gR)
abbrev Qso:=kg GH VB Qsn
abbrev Qsp:=ld Qr7 [vc Gr Wc Qso]
abbrev Qsq:=kg Gr NN Qso
abbrev Qsr:=fC [jB (jB Qsh Qrk) Qsq]
abbrev Qss:=ld Qru [jB Qr0 Qsq]
abbrev Qst:=nN Qra Qsp Qq9 (oM Cn Qrh (cJ Qri Qsr Qrn Qsr (fC [jB Qsl Qsq]))) Qrp (sp Qrr (ld Qru [jB Qrx Qsq]) Qss) Qss
abbrev Qsu:=yf QK (qp QJ QI (mh Qr5 fl))
abbrev Qsv:=s9 (rk (u7 Cn)) (fC [u5 (oJ Bk gR (mk (u7 Cn)) D')])
abbrev Qsw:=pD pZ 11
abbrev Wa:=rC IT
abbrev Qsy:=fC [u5 (oJ Bk gR K3 D')]
abbrev Qsz:=u7 Qr9
abbrev Qs0:=rk Qsz
abbrev Qs1:=fC [lV (oJ NN GH (mk Qsz) Qse)]
abbrev Wb:=fC [lV Qsj]
abbrev Qs3:=gZ Cn (jg Qr9)
abbrev Qs4:=fC [lV (oJ NN GH (mk Qsz) Qsn)]
abbrev C!:=fC [lV Qsq]
abbrev Qs6:=oL pZ NT (s9 Qs0 Qs4) (jh Qsw Wa (s9 Qs0 Qs4) C! Qs3 iy (fC [lV (oJ NN GH (mk (jg Qr9)) Qsn)]))
abbrev Qs7:=vb Wc
abbrev Qs8:=wg gR Qs7
abbrev Qs9:=fC [u5 (oJ Bk (jB gR (cn Qs7 Qh)) gR D')]
abbrev Qta:=nm (yg gR Qs7)
abbrev Qtb:=wg GH Qs7
abbrev Qtc:=jB GH (cn Qs7 Qh)
abbrev Qtd:=fC [lV (oJ NN Qtc VB Qse)]
abbrev Qte:=nm (yg GH Qs7)
abbrev Qtf:=ve Qr2 NS
abbrev Qtg:=ld Qtf [vc Gr Bk Qsf]
abbrev Qth:=fC [lV (oJ NN Qtc VB Qsn)]
abbrev Qti:=ld Qtf [vc Gr Bk Qso]
abbrev Qtj:=oL pZ IW (iC Qr7 (s8 Qtb Qth Qte Qth iy)) (fg pZ GX (n5 Qtb Qte Q0 (fC [lV (oJ NN (.op .GO GH Qs7) VB Qsn)])) pZ NQ (yf (ln GH) Qsp) Qti)
abbrev Qtk:=fC [Qry]
abbrev Qtl:=sp (rC pZ) Qsp (fg pZ p8 (sp Wa Qsp C!) pZ nL (sp Wa Qsp C!) (mh (jx pZ kA) Qti))
abbrev Qtm:=rk IT
abbrev Qtn:=zn Cn
abbrev Qto:=gZ IT (wr (.quo Qsb Cn))
abbrev Qtp:=s9 Qtm (uX Qtn (iC Qto C!))
abbrev Qtq:=cn gR (qy gR Qh gR Qh gR)
abbrev Qtr:=jx IT (wr (.quo Qsb Cn))
abbrev Qts:=cn GH (qy VB (mk (jg Qsb)) Qsd Qrq gR)
abbrev Qtt:=cn GH (qy VB (mk (jg Qsb)) Qsd We gR)
abbrev Qtu:=uX Qtn (ld Qtr [vc Gr NN Qtt])
abbrev Qtv:=zn (jv Qr2)
abbrev Qtw:=iC Qtv (ld Qtf [lV (cn Gr (mb Bk GH VB Qsc Qh We))])
abbrev Qtx:=rC (jg Qsb)
abbrev Qty:=cJ Wa (iC Qtx (ld Qr7 [vc Gr Wc Qtt])) Qtv iy C!
abbrev BZ:=mk IT
abbrev Qtz:=Je gR BZ
abbrev Qt0:=fC [lV (cn Gr (mb NN GH VB Qsc Qsd Qtz))]
abbrev Qt2:V:=.sub (ln We) Q0
abbrev Qt3:=gT Qr9 IT C!
abbrev Qt4:=fC [u5 (oJ Bk gR BZ D')]
abbrev Qt5:=fC [lV (oJ NN GH BZ Qse)]
abbrev Qt6:=fC [lV (oJ NN GH BZ Qsn)]
abbrev Qt7:=pD pZ 17
abbrev Qt8:=pD pZ 18
abbrev Qt9:=nN Qt7 (jf Qtm (gZ Qio IT) Qt6) Qt8 (n5 Qs0 Qsz IT Qs4) (zn Qr9) C! iy
abbrev C':=pD pZ 12
abbrev Qub:=oM Cn Qrh (jf Qri Qrn iy)
abbrev C_:=pD pZ 13
abbrev Qud:=jx Qrt NS
abbrev Que:=vc K3 Bk Qrw
abbrev Quf:=td K3 Qrt Qrw
abbrev Qug:=lV Quf
abbrev Quh:=sp Qrs (fC [Qug]) (fC [jB Qry Quf])
abbrev Qui:=vc K3 Bk Qrz
abbrev Quj:=td K3 Qrt Qrz
abbrev Quk:=lV Quj
abbrev Qul:=sp Qrs (fC [Quk]) (fC [jB Qry Quj])
abbrev Qum:=cJ C' (cJ Qrs (ld Qud [Qui]) Qud (fC [jB Qry (kg K3 Bk Qrz)]) iy) C_ Qul Qul
abbrev Qun:=fC [jB Qug Qsj]
abbrev Quo:=fC [jB Quk Qsj]
abbrev Qup:=cJ C' (ld Qud [jB Qui Qsj]) C_ Quo Quo
abbrev Quq:=fC [jB Qug Qsq]
abbrev Qur:=fC [jB Quk Qsq]
abbrev Qus:=cJ C' (ld Qud [jB Qui Qsq]) C_ Qur Qur
abbrev Qut:=nN Qra (cJ C' Qti C_ C! C!) Qq9 (cJ C' Qub C_ C! C!) Qrp (sp Qrr (cJ C' (ld Qud [jB Que Qsq]) C_ Quq Quq) Qus) Qus
abbrev px a0 a1:=sp Qr5 a0 a1
def eN:=sp xG (rX (oO (rk NS) (gZ NS VG) (oO (rk QO) (gZ QO D2) (nN (pD pZ 27) (fC [dj]) (jx pZ P') (gT QK nL (cJ QJ (jh Qq9 Qra Qre (mh Qrf (oM Cn Qrh (cJ Qri Qrm Qrn Qrm (fC [jB (jB Qrj (cn K3 Qrd)) Qrl])))) Qrp (sp Qrr (cJ Qrs (ld Qru [Qrx]) Qru (fC [jB Qry (kg K3 Wc Qrw)]) iy) Qr1) Qr1) QI (px (nN Qra Qsg Qq9 (oM Cn Qrh (cJ Qri Qsk Qrn Qsk (fC [jB Qsl Qsj]))) Qrp (sp Qrr (ld Qru [jB Qrx Qsj]) Qsm) Qsm) Qst) Qst)) (wi pZ 12) (gJ pZ Q0 Qsu (yh (gZ nL pZ) (yh (gZ P! pZ) (gT QK p8 (jh QJ (jx pZ NT) Qsv (jh Qsw Wa Qsv Qsy (gZ Cn (jg Cn)) iy (fC [u5 (oJ Bk gR (mk (jg Cn)) D')])) QI (px (oL pZ NT (s9 Qs0 Qs1) (jh Qsw Wa (s9 Qs0 Qs1) Wb Qs3 iy (fC [lV (oJ NN GH (mk (jg Qr9)) Qse)]))) Qs6) Qs6)) QK kA (jh QJ (jx pZ IW) (s8 Qs8 Qs9 Qta Qs9 iy) (fg pZ GX (n5 Qs8 Qta Q0 (fC [u5 (oJ Bk (.op .GO gR Qs7) gR D')])) pZ NQ Qre iy) QI (px (oL pZ IW (iC Qr7 (s8 Qtb Qtd Qte Qtd iy)) (fg pZ GX (n5 Qtb Qte Q0 (fC [lV (oJ NN (.op .GO GH Qs7) VB Qse)])) pZ NQ (yf (ln GH) Qsg) Qtg)) Qtj) Qtj)) QK Q0 (jh QJ (rC pZ) Qre (fg pZ p8 (sp Wa Qre Qtk) pZ nL (sp Wa Qre Qtk) (mh (jx pZ kA) iy)) QI (px (sp (rC pZ) Qsg (fg pZ p8 (sp Wa Qsg Wb) pZ nL (sp Wa Qsg Wb) (mh (jx pZ kA) Qtg))) Qtl) Qtl))) (yh (At 14 pZ) (vf pZ P_ (gT QK IW (jh QJ Qtm iy (uX Qtn (iC (gZ IT (wr (.quo Qa Cn))) Qtk)) QI (px (s9 Qtm (uX Qtn (iC Qto Wb))) Qtp) Qtp)) pZ 15 (gT QK IW (cJ QJ (uX Qtn (gT IT (wr (.quo Qa Cn)) (fC [u5 (kg Gr Bk Qtq)]))) QI (px (uX Qtn (ld Qtr [vc Gr NN Qts])) Qtu) Qtu)) (fg pZ (.lit 26) (gT QK GX (oO QJ QI (px (iC Qtv (ld Qtf [lV (cn Gr (mb Bk GH VB Qsc Qh Qrq))])) Qtw) Qtw)) pZ NP (gT QK GX (cJ QJ (ld Wa [u5 (kg Gr Wc Qtq)]) QI (px (cJ Wa (iC Qtx (ld Qr7 [vc Gr Wc Qts])) Qtv iy Wb) Qty) Qty)) (yh (At 19 pZ) (vf pZ Qiz (gT QK P! (jh QJ (jV Cn Qtz) iy (fC [u5 (cn Gr (mb Bk gR gR gR gR Qtz))]) QI (cJ Qr5 (gJ Cn Q0 iy Qt0) (jV Cn Qtz) iy Qt0) (ff (nS We Qhx) (jV Cn (Je We BZ)) iy (fC [lV (cn Gr (mb NN GH VB Qsc Qsd (Je We BZ)))])))) pZ 21 (gT QK P! (s9 QJ (yh QI (iC Qr5 iy) (lU We Qa) IT (tc Qt2 (nS We (.add Q0 Qt2)) (r4 Qt2 Wb (fC [lV (cn Gr (mb NN GH VB Qsc Qsd (ug .drop We (.add Q0 Qt2) Q0)))])))))) (fg pZ (.lit 22) (gT QK NT (cJ QJ (gT Cn IT Qsy) QI (px (gT Qr9 IT Wb) Qt3) Qt3)) pZ Qiw (gT QK NT (cJ QJ Qt4 QI (px Qt5 Qt6) Qt6)) Qsu)) QK NQ (cJ QJ (cJ Qt7 (jf Qtm (gZ Qio IT) Qt4) Qt8 iy Qtk) QI (px (nN Qt7 (jf Qtm (gZ Qio IT) Qt5) Qt8 (n5 Qs0 Qsz IT Qs1) (zn Qr9) Wb iy) Qt9) Qt9)))) QK nL (cJ QJ (cJ Qq9 (jh C' Qra iy (mh Qrf Qub) C_ Qtk Qtk) Qrp (sp Qrr (cJ C' (cJ Qrs (ld Qud [Que]) Qud (fC [jB Qry (kg K3 Bk Qrw)]) iy) C_ Quh Quh) Qum) Qum) QI (px (nN Qra (cJ C' Qtg C_ Wb Wb) Qq9 (cJ C' Qub C_ Wb Wb) Qrp (sp Qrr (cJ C' (ld Qud [jB Que Qsj]) C_ Qun Qun) Qup) Qup) Qut) Qut))) iy) iy)) j7
def Ot:=pF 1450 Db (ju 23301 [Qo,Qm,jJ 1450 Db,Qa,Qf,Qb,eK 1450 Db,jT 1450 Db])
abbrev V9:=[cO,dj,eQ,ia,eK 2100 [B3,ln dj]]
abbrev Au a0 a1:=rr 1850 a0 a1
abbrev ye a0 a1:=mk (Au a0 a1)
abbrev Quv:=uh 23302 [Je gR (cn (ye V9 2) (qy (ye V9 3) (ye V9 4) (ye V9 5) (ye V9 6) gR)),Q1,cO,dj,eK 1850 V9,Au V9 1]
def vF:=sp Qfc (gJ Qm Qb (r4 Qo (sp (nR dj) (uX Qq (pF 2100 [B3,ln dj] (pF 1850 V9 (fg (Au V9 7) kA Quv (Au V9 7) p8 Quv (uh 23301 [Q1,cO,dj,eK 1850 V9,Au V9 1]))))) Qfx) Qfx) Qfx) Qfx
abbrev V8:=[dj,eQ,ia,jm,eK 2100 [lU Qf cO,VF]]
abbrev Qux:=jg cO
abbrev Quy:=eM (wi D2 3518437208882) 23302 (EF [Je Qm (cn (ye V8 2) (qy (ye V8 3) (ye V8 4) (ye V8 5) (ye V8 6) gR)),Qux,dj,eQ,eK 1850 V8,Au V8 1])
def Br:=gJ cO uS (gJ cO Qb (r4 Qo (gJ Qa VF (uX Qli (pF 2100 [lU Qf cO,VF] (pF 1850 V8 (fg (Au V8 7) kA Quy (Au V8 7) p8 Quy (uh 23302 [Qm,Qux,dj,eQ,eK 1850 V8,Au V8 1]))))) Ql8) Ql8) Ql8) Ql8
abbrev Quz:=eK 23300 (EF [.lit 80])
abbrev Qu0:=ln Quz
abbrev Qu1:=eK 2100 [Qm,u7 Qu0]
abbrev Qu2:=jg Qu1
abbrev Qu3:=el Quz Qu1
abbrev Qu4:=gn Qu3
abbrev Qu5:=el Quz Qu2
abbrev N!:=gn Qu5
abbrev Qu7:=ve (nQ N!) nL
abbrev Qu8:=ve Qu3 (fR Qu5)
abbrev Qu9:=jx Qu4 N!
abbrev Qva:=jx Qu4 (gn (nQ N!))
abbrev Qvb:=jx (gn (nQ Qu4)) N!
abbrev Qvc:=[Qf,Qb,Quz]
abbrev Qvd:=wj Quz (mk Qu1) (rV (rV (rV (rV Qu3 gR (mk (fR Qu5))) Qh (mk (Be 1 Qu5))) Qk (mk N!)) Qrq (mk (jH Qu5))) Qbd (mk (jv Qu5))
abbrev Qve:=[Qf,Qb,wj Qvd (mk Qu2) (rV (rV (rV (rV (el Qvd Qu2) gR (mk (fR Qu3))) Qh (mk (Be 1 Qu3))) Qk (mk Qu4)) Qrq (mk (jH Qu3))) Qbd (mk (jv Qu3))]
abbrev Qvf:=[eK 2150 Qvc,jT 2150 Qvc,eK 2150 Qve,jT 2150 Qve]
abbrev Qvg:=mh (wi Qu0 3518437208883) (pF 2150 Qvc (pF 2150 Qve (gT (jJ 2150 Qvc) Qu0 (gT (jJ 2150 Qve) Qu0 (nB 2050 Qvf 2050 Qvf 0 (nB 23150 Qve 23150 Qve 0 j7))))))
def vE:=jI 100 Db 100 Db 0 (vg 23300 (EF [.lit 80]) (gZ Qu0 kA) j7 (pF 2100 [Qm,u7 Qu0] (oM Qu1 (gZ Qu1 Qu0) (oM Qu2 (gZ Qu2 Qu0) (lT (rk Qu4) (oK Qu4) (ve (nQ Qu4) nL) (oM N! (oK N!) (jh Qu7 Qu8 j7 (cJ Qu9 j7 Qva j7 (mJ Qvb j7 (gn (nQ Qu4)) (gn (nQ N!)) j7 Qvg)) Qu8 j7 (cJ Qu9 j7 Qvb j7 Qvg))) (lT (rk N!) (oK N!) Qu7 (nN Qu8 j7 Qu9 j7 Qva j7 Qvg) (cJ Qu8 j7 Qu9 j7 Qvg))))))) j7
def ack:=vg 5400 O' (rk (rr 5400 O' 3)) (ou [eK 5400 O',jT 5400 O',jJ 5400 O',Qa]) (ou [eK 5400 O',jT 5400 O',jJ 5400 O',Q0])
abbrev Qvh:=u7 dj
def acj:=cJ (rk Qvh) (ou [Qvh,eQ,Qa]) (gZ Qiz cO) (ou [Qvh,eQ,Qa]) (ju 5051 [cO,Qm,D2,Qa,Qvh,eQ,Qf,Qb,Qo])
abbrev Yh (l:List V):=Qfe::(ce 1 Qs)::Qfg::(ce 3 Qs)::l
abbrev Qvi:List V:=Yh [Qkj,cO,dj]
abbrev Qvj:=vb ia
abbrev V6:=ou [cO,dj,Qa]
abbrev Qvl:=ou [cO,dj,Q0]
def Xb:=mJ Qp (va (jI 5050 Qvi 5050 Qvi 2 (ou [eK 5050 Qvi,jT 5050 Qvi,Qa]) (uh 5051 [Q1,eK 5050 Qvi,jT 5050 Qvi,eQ,ia,jm]))) eQ Q0 (r4 Qc (oL Qvj gR (sp Qkn V6 Qvl) V6) V6) (fg eQ kA (r4 Qc (cJ Qkn V6 (gZ jm dj) (jI 12900 [ia,Qa] 12900 [ia,Qa] 0 V6 (mh (oN 12900 [ia,Qa]) Qvl)) V6) V6) eQ p8 (sp NO (fg Qc Q0 (oL Qvj Qof Qvl V6) Qc kA (oL Qvj Qog Qvl (fg Qvj Qof Qvl Qvj Qoh Qvl (fg Qvj Qoi Qvl Qvj Qoj Qvl V6))) V6) V6) V6)
def aci:=ju 5101 Db
def ah5:=ou [Qb]
def ach:=ju 5151 Db
def ah4:=ou [Qf,Qb,Q0]
def acg:=ju 5201 Db
def ah3:=ou [Q0,Qf,Qb,Q0]
def acf:=ju 5251 [Qb,Qf,uS,Qa,Qo]
abbrev Qvm:=DA 1150 (Yh [])
abbrev Qvn:=iI 1150 (Yh [])
abbrev Qvo:=DA 5450 [ce 3 Qs,Qkj,Qux]
abbrev Qvp:List V:=EF [Q1,eK 5450 [ce 3 Qs,Qkj,Qux]]
def Xa:=iB Qp (va (uX (At 1000 Qux) (qp (gZ Qiz Qf) Qvm (uX Qvn (eM Qvo 5251 Qvp))))) [cO,Qb]
def ace:=ju 5301 [Qf,Qa,Qb,Qo,Qm]
abbrev Qvr:=[ce 3 VD,Qm,cO]
abbrev Qvs:=jI 5500 Qvr 5500 Qvr 2 (ou [Qo,eK 5500 Qvr,jT 5500 Qvr,Qa]) (ju 5301 [Qf,qS,Qo,eK 5500 Qvr,jT 5500 Qvr])
def W9:=iB Qpl (lT QP Qpm (ve VD kA) (s8 (wg cO VC) (ou [Qo,Qm,cO,Qa]) (nm (yg cO VC)) (ou [Qo,Qm,cO,Qa]) Qvs) Qvs) [Qo,Qm,cO,Q0]
def acd:=ju 5351 [Qf,Qa,Qb,Q0,Qo,Qm]
abbrev Qvt:=ou [Qo,Qm,cO,dj,Qa]
abbrev Qvu:=[ce 3 VD,Qm,cO,dj]
abbrev Qvv:=jI 5600 Qvu 5600 Qvu 3 (ou [Qo,eK 5600 Qvu,jT 5600 Qvu,jJ 5600 Qvu,Qa]) (ju 5351 [Qf,qS,Qo,eK 5600 Qvu,jT 5600 Qvu,jJ 5600 Qvu])
def W8:=iB Qpl (lT QP Qpm (ve VD kA) (s8 (wg dj VC) Qvt (nm (yg dj VC)) Qvt Qvv) Qvv) [Qo,Qm,cO,dj,Q0]
def acb:=ju 5401 [Qf,uS,Qa,Qb,Qo,Qm]
def W7:=qz (rX (jI 800 [NS,Oe,QO,Qgb,VG] 800 [NS,Oe,QO,Qgb,VG] 0 (ou [Qm,cO,dj,Qo]) (ju 5401 (GL [dj])))) [Qm,cO,dj,VE]
def aca:=ju 5451 [Qb,Qf,uS,Qa,Qo]
def ab9:=iB Qp (va (uX (At 1000 Qux) (qp (gZ Qiz Qf) Qvm (uX Qvn (eM Qvo 5451 Qvp))))) [cO]
def ab8:=ju 5501 [Qf,uS,Qa,Qb,Qo]
abbrev Qvw:=[Qgb,Qm,cO]
abbrev Qvx:=jI 5500 Qvw 5500 Qvw 2 (ou [eK 5500 Qvw,jT 5500 Qvw,Qa]) (ju 5501 (ny [eK 5500 Qvw,jT 5500 Qvw]))
def ab7:=qz (lT K6 Q' (jx NS kA) (s8 (wg cO Oe) Qoo (nm (yg cO Oe)) Qoo Qvx) Qvx) [Qm,cO,Q0]
def ah2:=ju 5551 [Qf,uS,Qa,Q0,Qb,Qo]
abbrev Qvy:=wg dj Oe
abbrev Qvz:=ou [Qm,cO,dj,Qa]
abbrev Qv0:=zn (nm (yg dj Oe))
abbrev Qv1:=[Qgb,Qm,cO,dj]
abbrev Qv2:=pK 5600 Qv1 3
abbrev Qv3:=ou [eK 5600 Qv1,jT 5600 Qv1,jJ 5600 Qv1,Qa]
abbrev Qv4:List V:=ny [eK 5600 Qv1,jT 5600 Qv1,jJ 5600 Qv1]
abbrev Qv5:=vg 5600 Qv1 Qv2 Qv3 (ju 5551 Qv4)
def ah1:=qz (lT K6 Q' (jx NS kA) (cJ Qvy Qvz Qv0 Qvz Qv5) Qv5) [Qm,cO,dj,Q0]
def ab6:=ju 5601 [Qf,uS,Qa,Qb,Qo,Qm]
abbrev Qv6:=vg 5600 Qv1 Qv2 Qv3 (ju 5601 Qv4)
def ab5:=qz (lT K6 Q' (jx NS kA) (cJ Qvy Qvz Qv0 Qvz Qv6) Qv6) [Qm,cO,dj,Q0]
abbrev OT (l:List V):=Qf::Qb::Qo::Qm::cO::dj::eQ::ia::jm::j8::qV::oX::Bj::l
abbrev V7:List V:=OT []
abbrev Qv8:=rr 12050 V7 14
abbrev Yg (l:List V):=Qa::Qf::Qb::Qo::Qm::cO::dj::eQ::ia::jm::j8::qV::l
abbrev rB a0:=ou (Yg a0)
abbrev Qv9:=rB [oX,Bj]
def OB:=pF 12050 V7 (ff (iI 12050 V7) (jx Qv8 VE) Qv9 (ju 12001 (OT [Qf,Qv8,jg Qv8])))
abbrev Qwa:=jx (lU ss IV) Qb
abbrev Qwb:List V:=OT [ss,wO,jg IV]
abbrev Qwc:=rk wO
abbrev Qwd:=jg wO
abbrev Qwe:List V:=OT [qu ss wO (mk (lU ss IV)),Qwd,jg IV]
abbrev Yf (l:List V):=Q0::Qf::Qb::Qo::Qm::cO::dj::eQ::l
abbrev Qwf:=ME Qwc (gZ E_ wO) (oM (.sub E_ wO) (jx (.add wO (.sub E_ wO)) E_) (ou (Yf [ia,jm,j8,qV,oX,Bj,wO,.op .fill ss (cn (mk wO) gR),E_])))
def Ja:=gJ IV E_ (uX (rk IV) (sp Qwa (ju 12001 Qwb) (uX Qwc (eM (gZ wO E_) 12001 Qwe)))) Qwf
abbrev Qwg:List V:=OT [uS,Qa]
def XE:=ju 12051 Qwg
abbrev Qwh:=jx (lU Qf wO) Qb
abbrev Qwi:=rB [oX,Bj,wO]
abbrev Qwj:List V:=OT [ss,Qwd]
abbrev Qwk:=rB [oX,Bj,VE]
def I9:=gJ wO ss (lT Qwc (oK wO) Qwh Qwi (ju 12051 Qwj)) Qwk
abbrev Qwl:=rr 12150 V7 14
def OA:=pF 12150 V7 (ff (iI 12150 V7) (jx Qwl VE) Qv9 (ju 12101 (OT [Qf,Qwl,jg Qwl])))
def I8:=gJ IV E_ (uX (rk IV) (sp Qwa (ju 12101 Qwb) (uX Qwc (eM (gZ wO E_) 12101 Qwe)))) Qwf
def XD:=ju 12151 Qwg
def I7:=gJ wO ss (lT Qwc (oK wO) Qwh Qwi (ju 12151 Qwj)) Qwk
def XC:=pC 12250 V7 12250 V7 Qv9
def XB:=ju 12251 V7
def XA:=rB [oX,Bj]
def Xz:=pC 12350 V7 12350 V7 Qv9
def Xy:=ju 12351 V7
def Xx:=rB [oX,Bj]
abbrev Qwm:=DA 1400 [Qf,Qmt,Qb,gR,Qo]
abbrev Qwn:=iI 1400 [Qf,Qmt,Qb,gR,Qo]
abbrev aav (l:List V):=Qa::Qf::Qb::Qo::Qm::cO::dj::eQ::l
abbrev V5:=ou (aav [])
abbrev Qwp:=gZ Qiw cO
abbrev Qwr:=DA 1250 [cO]
abbrev Qws:=iI 1250 [cO]
abbrev Qwt:=DA 1300 [cO]
abbrev Qwu:=iI 1300 [cO]
abbrev Qww:=mh (DA 5100 [kA,Q0]) (ou (Yf []))
abbrev Qwx:=DA 1000 [gR]
abbrev Qwy:=iI 1000 [gR]
def Xw:=mh Qwm (cJ Qwn V5 Qe8 V5 (s8 Qwp V5 dj (ff Qwr Qws (ff Qwt Qwu Qww (ff Qwx Qwy V5 Qww)) V5) V5))
abbrev Qwz:=r7 98 we
abbrev Qw0:=DA 1400 [Q0,Qwz,Qf,gR,Qb]
abbrev Qw1:=iI 1400 [Q0,Qwz,Qf,gR,Qb]
abbrev TJ:=ou (aav [ia,jm])
abbrev Qw3:=DA 1400 [Qo,Qmt,Qm,Qwz,cO]
abbrev Qw4:=iI 1400 [Qo,Qmt,Qm,Qwz,cO]
abbrev Qw5:=gZ eQ Q0
abbrev Qw6:=gZ Qiw eQ
abbrev Qw7:=DA 1250 [eQ]
abbrev Qw8:=iI 1250 [eQ]
abbrev Qw9:=DA 1300 [eQ]
abbrev Qxa:=iI 1300 [eQ]
abbrev Qxb:=mh (DA 5100 [kA,Q0]) (ou (Yf [ia,jm]))
def Xv:=ff Qw0 Qw1 TJ (mh Qw3 (cJ Qw4 TJ Qw5 TJ (cJ Qw6 TJ O? (ff Qw7 Qw8 (ff Qw9 Qxa Qxb (ff Qwx Qwy TJ Qxb)) TJ) TJ)))
def Xu:=mh Qwm (cJ Qwn V5 Qe8 V5 (s8 Qwp V5 dj (ff Qwr Qws (ff Qwt Qwu V5 Qww) V5) V5))
def Xt:=ff Qw0 Qw1 TJ (mh Qw3 (cJ Qw4 TJ Qw5 TJ (cJ Qw6 TJ O? (ff Qw7 Qw8 (ff Qw9 Qxa TJ Qxb) TJ) TJ)))
abbrev V4:=ou (aav [ia])
abbrev Qxd:=jx VF (eK 1250 [cO])
abbrev Qxe:=pF 5250 [eQ,kA,Q0] (ou (Yf [ia,VF,jT 5250 [eQ,kA,Q0]]))
def Oz:=mh Qwm (cJ Qwn V4 Qe8 V4 (s8 Qwp V4 dj (ff Qwr Qxd (ff Qwt Qwu Qxe (ff Qwx Qwy V4 Qxe)) V4) V4))
abbrev TG:=ou (aav [ia,jm,j8])
abbrev Qxg:=jx (ln jm) (eK 1250 [eQ])
abbrev Qxh:=pF 5250 [jm,kA,Q0] (ou (Yf [ia,jm,j8,ln jm,jT 5250 [jm,kA,Q0]]))
def Oy:=ff Qw0 Qw1 TG (mh Qw3 (cJ Qw4 TG Qw5 TG (cJ Qw6 TG O? (ff Qw7 Qxg (ff Qw9 Qxa Qxh (ff Qwx Qwy TG Qxh)) TG) TG)))
def Ox:=mh Qwm (cJ Qwn V4 Qe8 V4 (s8 Qwp V4 dj (ff Qwr Qxd (ff Qwt Qwu V4 Qxe) V4) V4))
def Ow:=ff Qw0 Qw1 TG (mh Qw3 (cJ Qw4 TG Qw5 TG (cJ Qw6 TG O? (ff Qw7 Qxg (ff Qw9 Qxa TG Qxh) TG) TG)))
def Xs:=ju 12801 [Qf,Qb,Qb]
abbrev Qxi:=lU (.eD b0) (nm Od)
abbrev Qxj:=SC .idx .sub Qf (td zf uS gR) Qii
def Ov:=iB Q' (uX K6 (oM (nm Od) (gZ (nm Od) Qn6) (fg Qxi Q0 (ju 12801 (ny [])) Qxi kA (uX (oK uS) (rA (rk Qxj) (ou (zO [uS])) 12801 [Qf,Qb,rE Qo Qxj])) (ou (zO [Qo]))))) (zO [Qo])
abbrev Qxk:=lU Qf Qb
abbrev Qxl:=rE Qb kA
abbrev Qxm:=vb (.op .sub Qf (td IP uS gR))
abbrev Qxn:=r7 45 (qpx 62 we)
abbrev Qxo:=ou (zO [jg qS])
abbrev Qxp:=vb (.op .sub Qf (td IP Qxl gR))
def Xr:=qp QP (oK Qb) (lT (rk Qxk) (gZ Qxk Qn6) (jx (lU (.eD b0) Qxk) IW) (gJ uS Qxl (uX (oK uS) (fg Qxm Qxn Qxo Qxm Qoi Qxo (ou (zO [qS])))) (uX (gZ Qxl Qb) (fg Qxp Qxn Qxo Qxp Qoi Qxo (ou (zO [qS]))))) (ju 12851 [Qf,Qb,lU (.eD b0) Qxk,qS]))
abbrev Qxq:=lU (.eD b0) B3
abbrev Qxr:=ou (zO [Qm])
def Ou:=sp Qfc (uX Qq (oM B3 (gZ B3 Qn6) (fg Qxq p8 (ju 12851 Qfq) Qxq nL (oL Qo nL (ju 12851 Qfq) Qxr) Qxr))) Qxr
abbrev Qxs:=ce 2 (el Qb Qo)
abbrev Qxt:=el Qxs dj
abbrev N_:=fR Qxt
abbrev Qxv:=nR (ce 6 Qxt)
abbrev Qxw:=el (ce 6 Qxt) Qa
abbrev Qxx:=[fR Qxw,ce 1 Qxw,gn Qxw,ce 3 Qxw,eQ]
abbrev Qxy:=DA 1950 Qxx
abbrev B?:=jH Qxt
abbrev Qx0:=iI 1950 Qxx
abbrev Qx1:=rB [jv Qxt,eQ]
def vG:=wq E? (mh Qfs (qp Wl (jV dj Qxs) (fg N_ p8 (mh Qxv (mh Qxy (oM B? (gZ B? VF) (rB [Qfk,qu eQ B? (mk (eK 1950 Qxx))])))) N_ nL (mq Qxv Qxy Qx0 Qx1 (rB [Qfk,eQ])) (fg N_ IW Qx1 N_ GX (oM B? (gZ B? VF) (rB [Qfk,qu eQ B? (mk (Be 5 Qxt))])) (mh (jx N_ NQ) (lT (rk B?) (gZ B? VF) (gZ Qa (lU eQ B?)) (rB [Qfk,qu eQ B? (mk (u7 (lU eQ B?)))]) Qx1))))))
abbrev Qx2:=[Qf,Qb,ia,Qo,Qm,cO,dj,eQ]
abbrev Qx3:=rr 400 Qx2 6
abbrev Qx4:=el Qxs j8
abbrev Qx7:=jJ 400 Qx2
abbrev N':=rr 400 Qx2 4
abbrev Qya:=rk (jH Qx4)
abbrev V3:=jx Qx3 p8
abbrev Qyc:=jT 400 Qx2
abbrev VA:=rr 400 Qx2 3
abbrev Qye:=rr 400 Qx2 5
abbrev Qyf:=eK 400 Qx2
abbrev Qyg:=jg j8
abbrev akN (l:List V):=Qa::Qf::Qb::Qo::Qm::cO::dj::eQ::ia::jm::j8::qV::oX::Bj::ss::wO::Qyc::Qx7::VA::N'::Qye::Qx3::Qyf::l
abbrev mV a0:=ou (akN a0)
abbrev Qyh:=mV [Qyg,qV,P',VA,ss,Qa]
abbrev Qyi:=mV [Qyg,qV,oX,Bj,ss,Qa]
abbrev Qyj:=jV (jH Qx4) qV
abbrev Qyk:=qu qV (jH Qx4) (mk N')
abbrev Qyl:=mV [Qyg,Qyk,P',VA,ss,Qa]
abbrev Qym:=mV [Qyg,Qyk,oX,Bj,ss,Qa]
abbrev Qyn:=jv Qx4
abbrev Qyo:=mV [Qyn,qV,P',VA,ss,Qa]
abbrev Qyp:=mV [Qyn,qV,oX,Bj,ss,Qa]
abbrev Qyq:=mV [Qyn,Qyk,P',VA,ss,Qa]
abbrev Qyr:=mV [Qyn,Qyk,oX,Bj,ss,Qa]
abbrev Qys:=pD Qx7 15
abbrev Qyt:=sp V3 (sp Qys (mV [Qyg,qV,P_,VA,N',Qa]) Qyh) Qyi
abbrev UA (l:List V):=oX::Bj::ss::wO::Qa::Qa::Qa::Qa::Qa::Qx3::ia::j8::l
def fE:=pF 400 Qx2 (wq (jV Qo jm) (s8 (zn Qx3) (iB (jx Qm nL) (iB (gZ Qjs Qwd) (rB (UA [qV,oX,Bj,ss,Qjs])) (Yg (UA [qV,oX,Bj,ss,Qwd]))) (Yg (UA [qV,oX,Bj,ss,wO]))) oX (mh Qfs (lT Qk3 (jV j8 Qxs) (rC (fR Qx4)) (cJ (jx (Be 1 Qx4) NP) (cJ (jx Qx7 NP) (jh (rC N') Qya (sp V3 Qyh Qyi) (ff Qyj V3 Qyl Qym) Qya (sp V3 Qyo Qyp) (ff Qyj V3 Qyq Qyr)) Qya (sp V3 (sp Qys (mV [Qyn,qV,P_,VA,N',Qa]) Qyo) Qyp) (ff Qyj V3 (sp Qys (mV [Qyn,Qyk,P_,VA,N',Qa]) Qyq) Qyr)) Qya Qyt (ff Qyj V3 (sp Qys (mV [Qyg,Qyk,P_,VA,N',Qa]) Qyl) Qym)) Qyt)) (mV [j8,qV,Qa,Qa,Qa,Qa])))
abbrev Qyu:=rB [jv Qxt]
def I6:=wq E? (mh Qfs (lT Wl (jV dj Qxs) (jx N_ p8) (mh Qxv (mh Qxy fl)) (fg N_ nL (mq Qxv Qxy Qx0 Qyu (rB [Qfk])) N_ IW Qyu (qp (jx N_ GX) (jx N_ NQ) fl))))
abbrev Qyv:=mV [Qyg,P',VA,ss,Qa]
abbrev Qyw:=mV [Qyg,oX,Bj,ss,Qa]
abbrev Qyx:=mV [Qyn,P',VA,ss,Qa]
abbrev Qyy:=mV [Qyn,oX,Bj,ss,Qa]
abbrev Qyz:=sp V3 (sp Qys (mV [Qyg,P_,VA,N',Qa]) Qyv) Qyw
def jo:=pF 400 Qx2 (wq (jV Qo jm) (s8 (zn Qx3) (iB (jx Qm nL) (iB (gZ Qjs Qwd) (rB (UA [oX,Bj,ss,Qjs])) (Yg (UA [oX,Bj,ss,Qwd]))) (Yg (UA [oX,Bj,ss,wO]))) oX (mh Qfs (lT Qk3 (jV j8 Qxs) (rC (fR Qx4)) (oL (Be 1 Qx4) NP (oL Qx7 NP (sp (rC N') (ff Qya V3 Qyv Qyw) (ff Qya V3 Qyx Qyy)) (ff Qya V3 (sp Qys (mV [Qyn,P_,VA,N',Qa]) Qyx) Qyy)) (mh Qya Qyz)) Qyz)) (mV [j8,Qa,Qa,Qa,Qa])))
def Xq:=jI 1000 Qj 1000 Qj 0 Qbb Qd1
end
theorem Z1:S.tree 9000=Lx:=dU
theorem Nf:S.tree 9001=sG:=dU
theorem adj:S.tree 9002=ab4:=dU
theorem adi:S.tree 9003=ab3:=dU
theorem Z0:S.tree 9004=W6:=dU
theorem ZZ:S.tree 9005=W5:=dU
theorem ZY:S.tree 9006=W4:=dU
theorem ZX:S.tree 9007=W3:=dU
theorem ZW:S.tree 9050=sF:=dU
theorem ZV:S.tree 9051=W2:=dU
theorem ZU:S.tree 9052=W1:=dU
theorem ZT:S.tree 9053=W0:=dU
theorem adh:S.tree 9054=ab2:=dU
theorem adg:S.tree 9055=ahU:=dU
theorem adf:S.tree 9056=ahT:=dU
theorem ade:S.tree 9057=ab1:=dU
theorem adb:S.tree 9058=ahS:=dU
theorem ada:S.tree 9059=ahR:=dU
theorem Nb:S.tree 9060=Cs:=dU
theorem ac9:S.tree 9061=ab0:=dU
theorem ac8:S.tree 9062=abZ:=dU
theorem M9:S.tree 9063=Cr:=dU
theorem ac7:S.tree 9064=abY:=dU
theorem ac6:S.tree 9065=abX:=dU
theorem M8:S.tree 9066=Cq:=dU
theorem ac5:S.tree 9067=abW:=dU
theorem ac4:S.tree 9068=abV:=dU
theorem ZS:S.tree 9069=WZ:=dU
theorem ZR:S.tree 9070=WY:=dU
theorem ZQ:S.tree 9071=WX:=dU
theorem ZP:S.tree 9072=WW:=dU
theorem ZO:S.tree 9073=WV:=dU
theorem ZN:S.tree 9074=WU:=dU
theorem aj5:S.tree 100=t100:=dU
theorem abo:S.tree 101=t101:=dU
theorem abn:S.tree 102=t102:=dU
theorem agF:S.tree 103=t103:=dU
theorem agE:S.tree 150=t150:=dU
theorem abm:S.tree 151=t151:=dU
theorem agD:S.tree 200=t200:=dU
theorem KF:S.tree 201=t201:=dU
theorem abl:S.tree 202=t202:=dU
theorem agC:S.tree 250=t250:=dU
theorem abk:S.tree 251=t251:=dU
theorem abj:S.tree 300=Y!:=dU
theorem agB:S.tree 301=Uc:=dU
theorem agA:S.tree 302=ae1:=dU
theorem abi:S.tree 350=Y':=dU
theorem abh:S.tree 351=Ub:=dU
theorem agz:S.tree 400=jz:=dU
theorem aj1:S.tree 450=ah6:=dU
theorem agy:S.tree 451=ae0:=dU
theorem agx:S.tree 452=aeZ:=dU
theorem agw:S.tree 453=aeY:=dU
theorem agv:S.tree 454=aeX:=dU
theorem agu:S.tree 455=aeW:=dU
theorem agt:S.tree 456=aeV:=dU
theorem abg:S.tree 500=Xc:=dU
theorem Vo:S.tree 501=Oq:=dU
theorem aj0:S.tree 550=Y_:=dU
theorem agr:S.tree 551=aeU:=dU
theorem ajZ:S.tree 552=akr:=dU
theorem ajY:S.tree 553=akq:=dU
theorem ajV:S.tree 600=ah0:=dU
theorem abf:S.tree 650=X?:=dU
theorem ajU:S.tree 700=ahZ:=dU
theorem ajT:S.tree 750=ahY:=dU
theorem ajS:S.tree 800=ahX:=dU
theorem ajR:S.tree 850=ahW:=dU
theorem agq:S.tree 851=X!:=dU
theorem ajQ:S.tree 900=ahV:=dU
theorem ajP:S.tree 950=ahQ:=dU
theorem agp:S.tree 951=aeT:=dU
theorem ago:S.tree 952=aeS:=dU
theorem Di:S.tree 953=qX:=dU
theorem Dh:S.tree 954=qW:=dU
theorem ad7:S.tree 1000=acG:=dU
theorem ad6:S.tree 1050=Rr:=dU
theorem ad5:S.tree 1100=acF:=dU
theorem ad4:S.tree 1101=aih:=dU
theorem o?:S.tree 1102=XF:=dU
theorem ad3:S.tree 1150=acE:=dU
theorem ad2:S.tree 1200=acD:=dU
theorem ad0:S.tree 1250=acC:=dU
theorem adZ:S.tree 1300=acB:=dU
theorem adY:S.tree 1350=acA:=dU
theorem adX:S.tree 1400=acz:=dU
theorem f?:S.tree 1450=Xp:=dU
theorem e?:S.tree 1451=Rq:=dU
theorem e!:S.tree 1452=Rp:=dU
theorem adW:S.tree 1500=acy:=dU
theorem d?:S.tree 1501=Xo:=dU
theorem adV:S.tree 1550=acx:=dU
theorem adU:S.tree 1600=acw:=dU
theorem adT:S.tree 1650=acv:=dU
theorem adS:S.tree 1750=G6:=dU
theorem d!:S.tree 1751=Xn:=dU
theorem C2:S.tree 1850=nq:=dU
theorem adR:S.tree 1900=xU:=dU
theorem d_:S.tree 1901=Xm:=dU
theorem c!:S.tree 1902=Xl:=dU
theorem c_:S.tree 1903=Xk:=dU
theorem adQ:S.tree 1904=acu:=dU
theorem adP:S.tree 1905=aif:=dU
theorem adO:S.tree 1906=aie:=dU
theorem adN:S.tree 1907=acs:=dU
theorem adM:S.tree 1908=aid:=dU
theorem adL:S.tree 1909=aic:=dU
theorem b?:S.tree 1910=Xj:=dU
theorem adK:S.tree 1911=aib:=dU
theorem adJ:S.tree 1912=aia:=dU
theorem b!:S.tree 1913=Xi:=dU
theorem adI:S.tree 1914=acr:=dU
theorem adH:S.tree 1915=acq:=dU
theorem b_:S.tree 1916=Xh:=dU
theorem adG:S.tree 1917=acp:=dU
theorem adF:S.tree 1918=aco:=dU
theorem SX:S.tree 1950=Ro:=dU
theorem AS:S.tree 2000=zr:=dU
theorem aj4:S.tree 2001=ah9:=dU
theorem aj3:S.tree 2002=ah8:=dU
theorem aj2:S.tree 2003=ah7:=dU
theorem Nh:S.tree 2004=Lz:=dU
theorem Ng:S.tree 2005=Ly:=dU
theorem adE:S.tree 2050=acn:=dU
theorem a!:S.tree 2051=Xg:=dU
theorem a_:S.tree 2052=Xf:=dU
theorem adD:S.tree 2100=Xe:=dU
theorem adC:S.tree 2150=acm:=dU
theorem SW:S.tree 2151=Rn:=dU
theorem Z9:S.tree 23150=Xd:=dU
theorem Ce:S.tree 23151=eN:=dU
theorem Z8:S.tree 23300=Ot:=dU
theorem Cc:S.tree 23301=vF:=dU
theorem KD:S.tree 23302=Br:=dU
theorem Z7:S.tree 23350=vE:=dU
theorem adB:S.tree 5000=ack:=dU
theorem adA:S.tree 5050=acj:=dU
theorem Z6:S.tree 5051=Xb:=dU
theorem adz:S.tree 5100=aci:=dU
theorem ady:S.tree 5101=ah5:=dU
theorem adx:S.tree 5150=ach:=dU
theorem adw:S.tree 5151=ah4:=dU
theorem adv:S.tree 5200=acg:=dU
theorem adu:S.tree 5201=ah3:=dU
theorem adt:S.tree 5250=acf:=dU
theorem Z5:S.tree 5251=Xa:=dU
theorem ads:S.tree 5300=ace:=dU
theorem Z4:S.tree 5301=W9:=dU
theorem adr:S.tree 5350=acd:=dU
theorem Z3:S.tree 5351=W8:=dU
theorem adq:S.tree 5400=acb:=dU
theorem Z2:S.tree 5401=W7:=dU
theorem adp:S.tree 5450=aca:=dU
theorem ado:S.tree 5451=ab9:=dU
theorem adn:S.tree 5500=ab8:=dU
theorem adm:S.tree 5501=ab7:=dU
theorem ajX:S.tree 5550=ah2:=dU
theorem ajW:S.tree 5551=ah1:=dU
theorem adl:S.tree 5600=ab6:=dU
theorem adk:S.tree 5601=ab5:=dU
theorem P3:S.tree 12000=OB:=dU
theorem KH:S.tree 12001=Ja:=dU
theorem o!:S.tree 12050=XE:=dU
theorem P1:S.tree 12051=I9:=dU
theorem P0:S.tree 12100=OA:=dU
theorem KG:S.tree 12101=I8:=dU
theorem o_:S.tree 12150=XD:=dU
theorem PZ:S.tree 12151=I7:=dU
theorem n?:S.tree 12200=XC:=dU
theorem n!:S.tree 12250=XB:=dU
theorem n_:S.tree 12251=XA:=dU
theorem m?:S.tree 12300=Xz:=dU
theorem m_:S.tree 12350=Xy:=dU
theorem l?:S.tree 12351=Xx:=dU
theorem l!:S.tree 12400=Xw:=dU
theorem l_:S.tree 12450=Xv:=dU
theorem k?:S.tree 12500=Xu:=dU
theorem k!:S.tree 12550=Xt:=dU
theorem k_:S.tree 12600=Oz:=dU
theorem j?:S.tree 12650=Oy:=dU
theorem j!:S.tree 12700=Ox:=dU
theorem j_:S.tree 12750=Ow:=dU
theorem i?:S.tree 12800=Xs:=dU
theorem i!:S.tree 12801=Ov:=dU
theorem i_:S.tree 12850=Xr:=dU
theorem h!:S.tree 12851=Ou:=dU
theorem g!:S.tree 14000=vG:=dU
theorem f_:S.tree 14500=fE:=dU
theorem g_:S.tree 14050=I6:=dU
theorem e_:S.tree 14550=jo:=dU
theorem h_:S.tree 12900=Xq:=dU
end Go.As.Try
end
section
namespace Go.As.Try
open Go hiding Stat Spec shape
open Go.As Go.Proofs
set_option maxRecDepth 100000
structure PT where
 j:Nat
 t:T Lf
 e:S.tree j=t
def pT {j:Nat} {t:T Lf} (e:S.tree j=t):PT:=⟨j,t,e⟩
noncomputable def trees:List PT:=[pT Z1,pT Nf,pT adj,pT adi,pT Z0,pT ZZ,pT ZY,pT ZX,pT ZW,pT ZV,pT ZU,pT ZT,pT adh,pT adg,pT adf,pT ade,pT adb,pT ada,pT Nb,pT ac9,pT ac8,pT M9,pT ac7,pT ac6,pT M8,pT ac5,pT ac4,pT ZS,pT ZR,pT ZQ,pT ZP,pT ZO,pT ZN,pT aj5,pT abo,pT abn,pT agF,pT agE,pT abm,pT agD,pT KF,pT abl,pT agC,pT abk,pT abj,pT agB,pT agA,pT abi,pT abh,pT agz,pT aj1,pT agy,pT agx,pT agw,pT agv,pT agu,pT agt,pT abg,pT Vo,pT aj0,pT agr,pT ajZ,pT ajY,pT ajV,pT abf,pT ajU,pT ajT,pT ajS,pT ajR,pT agq,pT ajQ,pT ajP,pT agp,pT ago,pT Di,pT Dh,pT ad7,pT ad6,pT ad5,pT ad4,pT o?,pT ad3,pT ad2,pT ad0,pT adZ,pT adY,pT adX,pT f?,pT e?,pT e!,pT adW,pT d?,pT adV,pT adU,pT adT,pT adS,pT d!,pT C2,pT adR,pT d_,pT c!,pT c_,pT adQ,pT adP,pT adO,pT adN,pT adM,pT adL,pT b?,pT adK,pT adJ,pT b!,pT adI,pT adH,pT b_,pT adG,pT adF,pT SX,pT AS,pT aj4,pT aj3,pT aj2,pT Nh,pT Ng,pT adE,pT a!,pT a_,pT adD,pT adC,pT SW,pT Z9,pT Ce,pT Z8,pT Cc,pT KD,pT Z7,pT adB,pT adA,pT Z6,pT adz,pT ady,pT adx,pT adw,pT adv,pT adu,pT adt,pT Z5,pT ads,pT Z4,pT adr,pT Z3,pT adq,pT Z2,pT adp,pT ado,pT adn,pT adm,pT ajX,pT ajW,pT adl,pT adk,pT P3,pT KH,pT o!,pT P1,pT P0,pT KG,pT o_,pT PZ,pT n?,pT n!,pT n_,pT m?,pT m_,pT l?,pT l!,pT l_,pT k?,pT k!,pT k_,pT j?,pT j!,pT j_,pT i?,pT i!,pT i_,pT h!,pT g!,pT f_,pT g_,pT e_,pT h_]
theorem WL:trees.all (fun p=>N5 [] p.t)=true:=ad
theorem agI:ad8 (HV 468 feT) 468 (trees.map PT.j)=true:=ad
theorem U' (j:Nat):N5 [] (S.tree j)=true:=by
 cases h:vi St.t j with
 |none=>exact T4 (S:=St) h
 |some e=> obtain⟨p,hp,rfl⟩:=bd.1 (cov agI (fun k hk=>YH hk) h);rw [p.e];exact bh.1 WL p hp
noncomputable def L:oZ:=pJ S.tree
theorem bP (j:Nat) (xs:List Int):L j xs=fin L (dY (cY L (low xs)) (S.tree j)):=afr U' j xs
end Go.As.Try
end
section
namespace Go.As.Try
open Go hiding Stat
open Go.As Go.Proofs Go.RowKit Go.ChangeShapes Go.WideShapes Go.ChangeAt
open Go.Proofs.YtopneoeampkonacGreatDoor
set_option maxRecDepth 100000
theorem own:ownKnob Tryz.prog.godebug=none:=ad
theorem laidOut:laidOutB Tryz.prog=true:=ad
def Yi:TypeId->Option Nat:=CV (aiI.take 12)
def akO (P:Program) (own:TypeId->Option Nat) (l:List (Nat×Nat)):Bool:=l.all fun p=>match P.underlying p.1 with
 |some (.slice e)=>decide (te P own 8 e=some (lP p.2))&&Nat.beq (P.cellsOf e) (lP p.2).length&&Nat.ble (tu p.2) (P.bytesOf e)&&Nat.ble 1 (lP p.2).length
 |_=>false
theorem Io {t i:Nat}: ∀{l:List (Nat×Nat)},CV l t=some i->(t,i)∈l
 |[],h=>by simp [CV] at h
 |(a,k)::l,h=>by
  unfold CV at h;split at h
  ·rename_i hb;have:=aA hb;simp only [aq] at h;subst this h;simp
  ·exact an2 _ (Io h)
theorem aaD {P:Program} {l:List (Nat×Nat)} (h:akO P (CV l) l=true):G! P (CV l):=by
 intro t i fB;have:=bh.1 h _ (Io fB);simp only at this;split at this
 ·rename_i e he;simp only [aw,decide_eq_true_eq] at this;exact⟨e,8,he,this.1.1.1,aA this.1.1.2,ane this.1.2,ane this.2⟩
 ·simp at this
theorem aaB:G! Tryz.prog Yi:=aaD ad
theorem aa0 {Z':World} (h:Z'.ShapedOpen Tryz.prog):base.ok (N4 Z') Z'.heap:=by obtain⟨m,hm⟩:=LaysM.n144.s1_3 Tryz.laysM144 Z' h;exact⟨Tu hm,m,by rw [<- oU]; exact hm⟩
def RW:DataW Unit->Value
 | .lit (.int k n)=> .int k n
 |_=>undef
def agK:DataW Unit->Array Value
 | .agg l=>(l.map RW).toArray
 |d=> #[RW d]
def aiO (d:DataW Unit):Obj->Obj
 | .cells _ t f=> .cells (agK d) t f
 |o=>o
noncomputable def afs (h:Array Obj) (x:String×DataW Unit):Array Obj:=match Tryz.prog.globalNamed x.1 with
 |some g=>h.modify g (aiO x.2)
 |none=>h
noncomputable def BQ (os:Os):World:=
 { World.holding Tryz.prog os ⟨#[],#[],[]⟩ with heap:=Rows.systemSwapsRow.laid.foldl afs (World.holding Tryz.prog os ⟨#[],#[],[]⟩).heap }
theorem Gd {ro:Nat->Prop} {h:Array Obj} {i:Nat} {d:D} {v:Value} (r:Rd ro h (.sl i) d v):vk ro h (.sl i) (enc d) v:=by show Rd ro h (.sl i) (dec (enc d)) v;rw [bD];exact r
theorem z! {ro:Nat->Prop} {h:Array Obj} {u:Value} (a:abP [.one .bool] [1] ro h u):u= .bool true:=by
 obtain⟨us,fl,hs,hc,hu⟩:=a
 cases hs with
 |one c v hs=> cases hs;simp only [pE,RK.flat,am8,aX,ax] at hc;obtain⟨n,J_,u',hD,U,Z,h3,h4⟩:=hc;simp only [List.cons.injEq] at U Z;obtain⟨rfl,_⟩:=U;obtain⟨rfl,_⟩:=Z;rw [hu];exact h3
theorem v? {g j:Nat} {e:Bl} (hn:j∈S.Dd g) (he:S.bS j=some e) (hp:e.pat=none) (hr:e.lZ= [.one .bool]) {xs:List Int} (hL:L j xs=some [1]) {Z':World} (zk:Z'.ShapedOpen Tryz.prog) {vals fl:List Value} (U:Shape e.Gm vals fl) (Z:iu (N4 Z') Z'.heap (pE e.Gm) xs fl) :
 Calls Tryz.prog g vals.toArray Z' fun en W'=>en= .returned (.bool true)/\Below Z'.heap.size Z' W':=by
 obtain⟨n,kP⟩:=JG hL;refine (XG ae2 hn he hp n xs [1] kP (N4 Z') Z' vals fl (fun _ h=>h) (aa0 zk) U Z).mono fun en W' ⟨u,hu,hb,oh,_,_,_,ha⟩=>?_;rw [hr] at ha;rw [z! ha] at hu;exact⟨hu,hb⟩
end Go.As.Try
end
section
namespace Go.As
def prune (Z_ N:List SB):T Lf->T Lf
 | .fail=> .fail
 | .ret l=> .ret l
 | .split c x y=>match Z_.contains c with
   |true=>prune Z_ N x
   |false=>match N.contains c with
    |true=>prune Z_ N y
    |false=> .split c (prune Z_ N x) (prune Z_ N y)
def zY (ρ:Nat->Int):List SB->Prop
 |[]=>True
 |c::l=>c.den ρ=true/\zY ρ l
def zW (ρ:Nat->Int):List SB->Prop
 |[]=>True
 |c::l=> ¬c.den ρ=true/\zW ρ l
theorem Wt {ρ:Nat->Int}: ∀{l:List SB},zY ρ l->∀c∈l,c.den ρ=true
 |[],_,c,h=>by simp at h
 |a::l,hz,c,h=>by
  rcases aH.1 h with rfl|h
  ·exact hz.1
  ·exact Wt hz.2 c h
theorem Ww {ρ:Nat->Int}: ∀{l:List SB},zW ρ l->∀c∈l,c.den ρ=false
 |[],_,c,h=>by simp at h
 |a::l,hz,c,h=>by
  rcases aH.1 h with rfl|h
  ·simpa using hz.1
  ·exact Ww hz.2 c h
theorem Wu {ρ:Nat->Int}: ∀{a b:List SB},zY ρ a->zY ρ b->zY ρ (a++b)
 |[],_,_,h=>h
 |_::_,_,h,h'=> ⟨h.1,Wu h.2 h'⟩
theorem Wx {ρ:Nat->Int}: ∀{a b:List SB},zW ρ a->zW ρ b->zW ρ (a++b)
 |[],_,_,h=>h
 |_::_,_,h,h'=> ⟨h.1,Wx h.2 h'⟩
theorem dE {ρ:Nat->Int} {Z_ N:List SB} (h:zY ρ Z_/\zW ρ N): ∀t,dY ρ (prune Z_ N t)=dY ρ t
 | .fail=>rfl
 | .ret l=>rfl
 | .split c x y=>by
   simp only [prune,dY];split
   ·rename_i h';rw [Wt h.1 c (aoY.1 h'),an rfl];exact dE h x
   ·split
    ·rename_i h';rw [Ww h.2 c (aoY.1 h'),ak ae];exact dE h y
    ·simp only [dY,dE h x,dE h y]
theorem bV {ρ:Nat->Int} (Z_ N:List SB) {t:T Lf} {R:RS} (u:T Lf) (h:zY ρ Z_/\zW ρ N) (k:prune Z_ N t=u) (h':dY ρ u=R):dY ρ t=R:=by rw [<- dE h t,k,h']
theorem zz :
 (∀{ρ:Nat->Int} (c:SB) (a b:T Lf),dY ρ (sp c a b)=if c.den ρ=true then dY ρ a else dY ρ b)/\
 (∀{ρ:Nat->Int} (l:List V),dY ρ (ou l)= .out (l.map (V.den ρ)))/\
 (∀{ρ:Nat->Int} (j:Nat) (l:List V),dY ρ (ju j l)= .jump j (l.map (V.den ρ)))/\
 (∀{ρ:Nat->Int},dY ρ fl= .no)/\
 (∀{ρ:Nat->Int} (a b:V),((SB.lt a b).den ρ=true)=(a.den ρ<b.den ρ))/\
 (∀{ρ:Nat->Int} (a b:V),((SB.eq a b).den ρ=true)=(a.den ρ=b.den ρ))/\
 (∀(F:oZ) (lo:Nat->Int),(V.dD 0).den (cY F lo)=lo 0)/\
 (∀(F:oZ) (lo:Nat->Int),(V.dD 1).den (cY F lo)=lo 1)/\
 (∀(F:oZ) (lo:Nat->Int),(V.dD 2).den (cY F lo)=lo 2)/\
 (∀(F:oZ) (lo:Nat->Int),(V.dD 3).den (cY F lo)=lo 3)/\
 (∀(F:oZ) (lo:Nat->Int),(V.dD 4).den (cY F lo)=lo 4)/\
 (∀(F:oZ) (lo:Nat->Int),(V.dD 5).den (cY F lo)=lo 5)/\
 (∀(F:oZ) (lo:Nat->Int),(V.dD 6).den (cY F lo)=lo 6)/\
 (∀(F:oZ) (lo:Nat->Int),(V.dD 7).den (cY F lo)=lo 7)/\
 (∀(F:oZ) (lo:Nat->Int),(V.dD 8).den (cY F lo)=lo 8)/\
 (∀(F:oZ) (lo:Nat->Int),(V.dD 9).den (cY F lo)=lo 9)/\
 (∀(F:oZ) (lo:Nat->Int),(V.dD 10).den (cY F lo)=lo 10)/\
 (∀(F:oZ) (lo:Nat->Int),(V.dD 11).den (cY F lo)=lo 11)/\
 (∀(F:oZ) (lo:Nat->Int),(V.dD 12).den (cY F lo)=lo 12)/\
 (∀(F:oZ) (lo:Nat->Int),(V.dD 13).den (cY F lo)=lo 13)/\
 (∀(F:oZ) (lo:Nat->Int),(V.dD 14).den (cY F lo)=lo 14)/\
 (∀(F:oZ) (lo:Nat->Int),(V.dD 15).den (cY F lo)=lo 15)/\
 (∀(F:oZ) (lo:Nat->Int),(V.dD 16).den (cY F lo)=lo 16)/\
 (∀(F:oZ) (lo:Nat->Int),(V.dD 17).den (cY F lo)=lo 17)/\
 (∀(F:oZ) (lo:Nat->Int),(V.dD 18).den (cY F lo)=lo 18)/\
 (∀(F:oZ) (lo:Nat->Int),(V.dD 19).den (cY F lo)=lo 19)/\
 (∀(F:oZ) (lo:Nat->Int),(V.dD 20).den (cY F lo)=lo 20)/\
 (∀(F:oZ) (lo:Nat->Int),(V.dD 21).den (cY F lo)=lo 21)/\
 (∀(F:oZ) (lo:Nat->Int),(V.dD 22).den (cY F lo)=lo 22)/\
 (∀(F:oZ) (lo:Nat->Int),(V.dD 23).den (cY F lo)=lo 23)/\
 (∀(F:oZ) (lo:Nat->Int),(V.dD 24).den (cY F lo)=lo 24)/\
 (∀(F:oZ) (lo:Nat->Int),(V.dD 25).den (cY F lo)=lo 25)/\
 (∀{ρ:Nat->Int} (n:Int),(V.lit n).den ρ=n)/\
 (∀{ρ:Nat->Int} (d:D),(V.eD d).den ρ=enc d)/\
 (∀{ρ:Nat->Int} (a:V),(ln a).den ρ=((dec (a.den ρ)).l.length:Int))/\
 (∀{ρ:Nat->Int} (a:V),(nm a).den ρ=(dec (a.den ρ)).n)/\
 (∀{ρ:Nat->Int} (j:Nat) (a:V),(ce j a).den ρ=enc ((dec (a.den ρ)).W j))/\
 (∀{ρ:Nat->Int} (a b:V),(el a b).den ρ=enc ((dec (a.den ρ)).at (b.den ρ)))/\
 (∀{ρ:Nat->Int} (a b:V),(cn a b).den ρ=enc (.p (dec (a.den ρ)) (dec (b.den ρ))))/\
 (∀{ρ:Nat->Int} (a:V),(mk a).den ρ=enc (.i (a.den ρ)))/\
 (∀{ρ:Nat->Int} (a:V),(wr a).den ρ=IntKind.i64.wrap (a.den ρ))/\
 (∀{ρ:Nat->Int} (a b:V),(V.add a b).den ρ=a.den ρ+b.den ρ)/\
 (∀{ρ:Nat->Int} (a b:V),(V.sub a b).den ρ=a.den ρ-b.den ρ)/\
 (∀{ρ:Nat->Int} (o:fX) (a b:V),(V.op o a b).den ρ=o.den (a.den ρ) (b.den ρ))/\
 (∀{F:oZ} {lo:Nat->Int} (j:Nat) (l:List V),(a0 j l).den (cY F lo)=if (F j (l.map (V.den (cY F lo)))).isSome=true then 1 else 0)/\
 (∀{F:oZ} {lo:Nat->Int} (j:Nat) (l:List V) (i:Nat),(rr j l i).den (cY F lo)=low ((F j (l.map (V.den (cY F lo)))).getD []) i)/\
 (∀{x:Int} {xs:List Int},low (x::xs) 0=x)/\
 (∀{x:Int} {xs:List Int} {i:Nat},low (x::xs) (i+1)=low xs i)/\
 (∀{f:V->Int},List.map f []= [])/\
 (∀{f:V->Int} {a:V} {l:List V},List.map f (a::l)=f a::List.map f l)/\
 (∀d:D,dec (enc d)=d)/\
 (∀n:Int,(D.i n).n=n)/\
 (∀{α:Type} (a:α),(some a).isSome=true)/\
 (∀{α:Type} (a b:α),(some a).getD b=a)/\
 (∀{α:Type} {_:Decidable True} (a b:α),ite True a b=a)/\
 (∀{α:Type} {_:Decidable False} (a b:α),ite False a b=b)/\
 (∀{ρ:Nat->Int},zY ρ []=True)/\
 (∀{ρ:Nat->Int} (c:SB) (l:List SB),zY ρ (c::l)=(c.den ρ=true/\zY ρ l))/\
 (∀{ρ:Nat->Int},zW ρ []=True)/\
 (∀{ρ:Nat->Int} (c:SB) (l:List SB),zW ρ (c::l)=(¬c.den ρ=true/\zW ρ l))/\
 (∀x y:Int,fX.den .len x y=((dec x).l.length:Int))/\
 (∀x y:Int,fX.den .at x y=enc ((dec x).at y))/\
 (∀(x y:Int) (j:Nat),fX.den (.cell j) x y=enc ((dec x).W j))/\
 (∀x y:Int,fX.den .num x y=(dec x).n)/\
 (∀x y:Int,fX.den .mk x y=enc (.i x))/\
 (∀x y:Int,fX.den .cons x y=enc (.p (dec x) (dec y)))/\
 (∀x y:Int,fX.den .snoc x y=enc (dL ((dec x).l++ [dec y])))/\
 (∀x y:Int,fX.den .cat x y=enc (dL ((dec x).l++(dec y).l)))/\
 (∀x y:Int,fX.den .take x y=enc (fk (dec x) ((dec x).l.take y.toNat)))/\
 (∀x y:Int,fX.den .drop x y=enc (fk (dec x) ((dec x).l.drop y.toNat)))/\
 (∀(x:Int) (q v:D),fX.den .set x (enc (.p q v))=enc (dL (eV (dec x).l q.n v)))/\
 (∀x y:Int,fX.den .bit x y=enc (.i (if (dec x).n=0 then 0 else 1)))/\
 (∀x y:Int,fX.den .norm x y=enc (dec x))/\
 (∀x y:Int,fX.den .O1 x y=if (df (dec x).l (dec y)).isSome then 1 else 0)/\
 (∀x y:Int,fX.den .GM x y=enc ((df (dec x).l (dec y)).getD (.i 0)))/\
 (∀(x:Int) (k v:D),fX.den .zX x (enc (.p k v))=enc (dL (jP (dec x).l k v)))/\
 (∀x y:Int,fX.den .rep x y=enc (dL (List.replicate x.toNat (dec y))))/\
 (∀(x:Int) (q v:D),fX.den .fill x (enc (.p q v))=enc (dL ((dec x).l.take q.n.toNat++List.replicate ((dec x).l.length-q.n.toNat) v)))/\
 (∀x y:Int,fX.den .sub x y=enc (dL (((dec x).l.take ((dec y).W 1).n.toNat).drop ((dec y).W 0).n.toNat)))/\
 (∀x y:Int,fX.den .idx x y=F6 (dec x).l y)/\
 (∀x y:Int,fX.den .cnt x y=t_ (dec x).l y)/\
 (∀x y:Int,fX.den .con x y=if Vt (dec x).l (dec y).l then 1 else 0)/\
 (∀x y:Int,fX.den .slt x y=if Nn (dec x).l (dec y).l then 1 else 0)/\
 (∀x y:Int,fX.den .GO x y=enc (dL (z7 (dec x).l (dec y))))/\
 (∀p:Prop,(p/\True)=p)/\(∀p:Prop,(True/\p)=p)/\(¬False)=True:=
 ⟨eh,iO,lY,tI,lO,gE,fun _ _=>bQ ah,fun _ _=>bQ ah,fun _ _=>bQ ah,fun _ _=>bQ ah,fun _ _=>bQ ah,fun _ _=>bQ ah,fun _ _=>bQ ah,fun _ _=>bQ ah,fun _ _=>bQ ah,fun _ _=>bQ ah,fun _ _=>bQ ah,fun _ _=>bQ ah,fun _ _=>bQ ah,fun _ _=>bQ ah,fun _ _=>bQ ah,fun _ _=>bQ ah,fun _ _=>bQ ah,fun _ _=>bQ ah,fun _ _=>bQ ah,fun _ _=>bQ ah,fun _ _=>bQ ah,fun _ _=>bQ ah,fun _ _=>bQ ah,fun _ _=>bQ ah,fun _ _=>bQ ah,fun _ _=>bQ ah,cU,gO,gp,Cg,q_,Ch,F1,F0,wF,den_add,aby,FZ,gA,fW,bM _,bN _ _,rfl,rfl,bD,nI,fun _=>rfl,fun _ _=>rfl,fun _ _=>an trivial,fun _ _=>ak id,rfl,fun _ _=>rfl,rfl,fun _ _=>rfl,fun _ _=>rfl,fun _ _=>rfl,fun _ _ _=>rfl,fun _ _=>rfl,fun _ _=>rfl,fun _ _=>rfl,fun _ _=>rfl,fun _ _=>rfl,fun _ _=>rfl,fun _ _=>rfl,fun _ _ _=>by show (match dec (enc _) with | .p q v=>_|_=>_)=_; rw [bD],fun _ _=>rfl,fun _ _=>rfl,fun _ _=>rfl,fun _ _=>rfl,fun _ _ _=>by show (match dec (enc _) with | .p q v=>_|_=>_)=_; rw [bD],fun _ _=>rfl,fun _ _ _=>by show (match dec (enc _) with | .p q v=>_|_=>_)=_; rw [bD],fun _ _=>rfl,fun _ _=>rfl,fun _ _=>rfl,fun _ _=>rfl,fun _ _=>rfl,fun _ _=>rfl,and_true,true_and,not_false_eq_true⟩
theorem zg:(∀(l:List D) (j:Nat),(dL l).W j=(l[j]?).getD (.i 0))/\(∀(a:D) (l:List D),(a::l)[0]?=some a)/\(∀(a:D) (l:List D) (i:Nat),(a::l)[i+1]?=l[i]?):=⟨eT,fun _ _=>rfl,fun _ _ _=>rfl⟩
end Go.As
end
section
namespace Go.As.Try
open Go hiding Stat Spec shape
open Go.As
set_option maxRecDepth 100000
def Ends (p:List Int->Prop) (R:RS):Prop:= ∃ys,fin L R=some ys/\p ys
def dw (j:Nat) (xs:List Int) (p:List Int->Prop):Prop:= ∃ys,L j xs=some ys/\p ys
theorem dw.of {j:Nat} {xs:List Int} {p:List Int->Prop} (h:Ends p (dY (cY L (low xs)) (S.tree j))):dw j xs p:=by obtain⟨ys,U,Z⟩:=h;exact⟨ys,by rw [bP]; exact U,Z⟩
theorem Ends.ite {p:List Int->Prop} {c:Prop} [Decidable c] {a b:RS} (U:c->Ends p a) (Z: ¬c->Ends p b):Ends p (if c then a else b):=by
 grind
theorem Ends.out {p:List Int->Prop} {ys:List Int} (h:p ys):Ends p (.out ys):=⟨ys,rfl,h⟩
theorem Ends.jump {p:List Int->Prop} {j:Nat} {xs:List Int} (h:dw j xs p):Ends p (.jump j xs):=h
def yP (ys:List Int):Prop:= ∃c:Int,ys= [c]/\(c=0\/c=1)
def is3 (ys:List Int):Prop:= ∃a b c:Int,ys= [a,b,c]/\(c=0\/c=1)
theorem tW:yP [0]:=⟨0,rfl,.inl rfl⟩
theorem tV:yP [1]:=⟨1,rfl,.inr rfl⟩
theorem Ml {a b:Int}:is3 [a,b,0]:=⟨a,b,0,rfl,.inl rfl⟩
theorem acP {a b:Int}:is3 [a,b,1]:=⟨a,b,1,rfl,.inr rfl⟩
def iN (x:D):D:=dL [.i (-1),.i (if (x.W 0).n=3\/(x.W 0).n=9 then (x.W 2).n else 0),.i 0,.i 0,.i 1,.i 1]
theorem Gh (d0:D) (hlen:d0.l.length<=64): ∀(k i:Nat) (acc:List D),i+k=d0.l.length->acc.length=i->
 L 302 [enc (dL acc),enc d0,(d0.l.length:Int),(i:Int)]=some [enc (dL (acc++(d0.l.drop i).map iN))]
 |0,i,acc,U,Z=>by
  rw [bP,agA];simp only [ae1,eh,iO,lO,bQ,bM,bN,Nat.reduceLT,fin,List.map]
  grind
 |k+1,i,acc,U,Z=>by
  have hi:i<d0.l.length:=J
  have W:d0.l.drop i=d0.l[i]::d0.l.drop (i+1):=amX hi;have ih:=fun x=>Gh d0 hlen k (i+1) (acc++ [x]) J (by simp [Z]);rw [bP,agA,W];simp only [ae1,eh,iO,lY,tI,lO,gE,bQ,gp,cU,Cg,q_,Ch,FZ,F1,F0,gO,wF,den_add,bM,bN,Nat.reduceLT,List.map,bD,bE,bT hi];have w:=bO (n:=i) J;have c1:(i:Int)<(d0.l.length:Int):=J
  have c2: ¬((i:Int)<0):=J
  have c3:(acc.length:Int)<1759218604440:=J
  simp only [c1,c2,c3,w,if_true,if_false,fin,fX.den,bD,bE];by_cases h3:(d0.l[i].W 0).n=3
  ·simp only [h3,if_true,fin];have:=ih (iN d0.l[i]);simp only [iN,h3,true_or,if_true,dL] at this ⊢
   grind
  ·by_cases h9:(d0.l[i].W 0).n=9
   ·simp only [ak h3,an h9,fin];have:=ih (iN d0.l[i]);simp only [iN,an (Or.inr h9:(d0.l[i].W 0).n=3\/(d0.l[i].W 0).n=9),dL] at this ⊢
    grind
   ·simp only [ak h3,ak h9,fin];have:=ih (iN d0.l[i]);simp only [iN,h3,h9,or_self,if_false,dL] at this ⊢
    grind
def Bs (d:D):Prop:=d=dL d.l/\∀(i:Nat) (h:i<d.l.length),0<=(d.l[i]).n/\(d.l[i]).n<256
theorem agM (s:ByteArray):Bs (uN s):=by unfold uN qH;refine⟨by rw [bE],fun i h=>?_⟩;simp only [bE,bw,List.getElem_map,D.n] at h ⊢;have:=(s.data.toList[i]).toNat_lt;omega
theorem CG (d:D) (hb:Bs d) (hlen:d.l.length<=1000000): ∀(k i:Nat) (n:Int),i+k=d.l.length->∃a b,L 1102 [n,enc d,(d.l.length:Int),(i:Int)]=some [a,b]
 |0,i,n,U=>by rw [bP,o?];simp only [XF,eh,iO,lO,bQ,bM,bN,Nat.reduceLT,List.map,cU];rw [ak J];exact⟨_,_,rfl⟩
 |k+1,i,n,U=>by
  have hi:i<d.l.length:=J
  have ih:=fun x=>CG d hb hlen k (i+1) x J;rw [bP,o?];have w:=bO (n:=i) J;have c1:(i:Int)<(d.l.length:Int):=J
  have c2: ¬((i:Int)<0):=J
  simp only [XF,eh,iO,lY,tI,lO,bQ,bM,bN,Nat.reduceLT,List.map,cU,gp,bD,c1,c2,if_true,if_false,wF,den_add,w];split
  ·exact⟨_,_,rfl⟩
  ·exact ih _
theorem OY (d:D) (hb:Bs d) (hlen:d.l.length<=1000000): ∃a b,L 1100 [enc d]=some [a,b]:=by
 rw [bP,ad5];simp only [acF,eh,lY,gE,bQ,bM,bN,Nat.reduceLT,List.map,cU,gp,bD];split
 ·show ∃a b,L 1101 []=some [a,b];rw [bP,ad4];exact⟨_,_,rfl⟩
 ·exact CG d hb hlen d.l.length 0 _ J
theorem IC (z:Int): ∀(l:List D) (i:Nat),rI z l (i:Int)= -1\/((i:Int)<=rI z l i/\rI z l i<(i:Int)+l.length)
 |[],i=> .inl rfl
 |d::l,i=>by
  have ih:=IC z l (i+1);have hc:((i+1:Nat):Int)=(i:Int)+1:=J
  rw [hc] at ih;have Y:((d::l).length:Int)=(l.length:Int)+1:=ae
  cases d with
  |i n=>
   simp only [rI]
   grind
  |p a b=>
   simp only [rI]
   grind
theorem s? {z:Int} {d:D} {l:List D} (h:d≠.i z) (h0: ¬F6 (d::l) z<0):1<=F6 (d::l) z/\F6 (d::l) z<(l.length:Int)+1:=by
 have U:=IC z l 1
 have key:F6 (d::l) z=rI z l ((1:Nat):Int):=by
  unfold F6
  cases d with
  |i n=>
   simp only [rI]
   grind
  |p a b=>rfl
 grind
theorem aj7:(b0.at 10).n=1:=by show (b0.at ((10:Nat):Int)).n=1;kernel_rfl
theorem wK (d:D) (hb:Bs d) (hlen:d.l.length<=1000000) (x1:Int): ∀(k i:Nat),d.l.length-i<=k->i<=d.l.length->∃p:Nat,p<=d.l.length/\L 12801 [enc d,x1,(i:Int)]=some [0,enc d,x1,(p:Int)]
 |k,i,U,Z=>by
  rw [bP,i!];have c2: ¬((i:Int)<0):=J
  by_cases hi:i<d.l.length
  ·have c1:(i:Int)<(d.l.length:Int):=J
   have w:=bO (n:=i) J;obtain⟨b1,b2⟩:=hb.2 i hi;have b1: ¬(d.l[i]).n<0:=J
   obtain⟨k,rfl⟩ : ∃k',k=k'+1:=⟨k-1,J⟩;have Ff:(d.l.take d.l.length).drop i=d.l[i]::d.l.drop (i+1):=by rw [anI,amX hi]
   simp only [Ov,eh,iO,lY,tI,lO,gE,bQ,bM,bN,Nat.reduceLT,List.map,cU,gO,gp,bD,c1,c2,if_true,if_false,wF,den_add,w,Cg,Ch,bT hi,b1,b2];by_cases q1:(b0.at (d.l[i]).n).n=1
   ·simp only [q1,if_true];exact wK d hb hlen x1 k (i+1) J J
   ·by_cases q2:(b0.at (d.l[i]).n).n=2
    ·simp only [ak q1,an q2]
     have gb:d.l[i]≠.i 10:=by intro h;rw [h] at q1;exact q1 aj7
     simp only [aP,if_false,FZ,fX.den,F1,F0,gO,gp,bQ,cU,bM,bN,Nat.reduceLT,bD,D.W,l_p,jn,nI,aM,aN,ay,br,bE,Ff];split
     ·exact⟨d.l.length,az _,by simp [fin]⟩
     ·rename_i h0;obtain⟨g1,g2⟩:=s? gb h0;rw [bu] at g2;obtain⟨m,hm⟩ : ∃m:Nat,F6 (d.l[i]::d.l.drop (i+1)) 10=(m:Int):=⟨(F6 (d.l[i]::d.l.drop (i+1)) 10).toNat,J⟩;have w2:IntKind.i64.wrap ((i:Int)+(m:Int))=((i+m:Nat):Int):=by rw [me J J]; omega
      simp only [hm,w2,fin];exact wK d hb hlen x1 k (i+m) J J
    ·simp only [ak q1,ak q2];exact⟨i,J,rfl⟩
  ·have c1: ¬(i:Int)<(d.l.length:Int):=J
   simp only [Ov,eh,iO,lO,bQ,bM,bN,Nat.reduceLT,List.map,cU,gp,bD,c1,if_false];exact⟨i,J,rfl⟩
theorem QA (d:D) (hb:Bs d) (hlen:d.l.length<=1000000) (i:Nat) (hi:i<=d.l.length): ∃p:Nat,p<=d.l.length/\L 12800 [enc d,(i:Int)]=some [0,enc d,(i:Int),(p:Int)]:=by rw [bP,i?];simp only [Xs,lY,bQ,bM,bN,Nat.reduceLT,List.map];exact wK d hb hlen _ _ i (az _) hi
theorem Iy (d:D) (hb:Bs d) (hlen:d.l.length<=1000000) (x1 x2:Int): ∀(k i:Nat),d.l.length-i<=k->i<=d.l.length->∃p:Nat,i<=p/\p<=d.l.length/\L 12851 [enc d,x1,x2,(i:Int)]=some [0,enc d,x1,(p:Int)]
 |k,i,U,Z=>by
  rw [bP,h!];have c2: ¬((i:Int)<0):=J
  by_cases hi:i<d.l.length
  ·have c1:(i:Int)<(d.l.length:Int):=J
   have w:=bO (n:=i) J;obtain⟨b1,b2⟩:=hb.2 i hi;have b1: ¬(d.l[i]).n<0:=J
   obtain⟨k,rfl⟩ : ∃k',k=k'+1:=⟨k-1,J⟩
   have ih: ∃p:Nat,i<=p/\p<=d.l.length/\L 12851 [enc d,x1,x2,((i+1:Nat):Int)]=some [0,enc d,x1,(p:Int)]:=by
    obtain⟨p,q1,q2,q3⟩:=Iy d hb hlen x1 x2 k (i+1) J J
    grind
   simp only [Ou,eh,iO,lY,tI,lO,gE,bQ,bM,bN,Nat.reduceLT,List.map,cU,gO,gp,bD,c1,c2,if_true,if_false,wF,den_add,w,Cg,Ch,bT hi,b1,b2];split
   ·exact ih
   ·split
    ·split
     ·exact ih
     ·exact⟨i,J,J,rfl⟩
    ·exact⟨i,J,J,rfl⟩
  ·have c1: ¬(i:Int)<(d.l.length:Int):=J
   simp only [Ou,eh,iO,lO,bQ,bM,bN,Nat.reduceLT,List.map,cU,gp,bD,c1,if_false];exact⟨i,J,J,rfl⟩
theorem RY {l:List D} {a b:D} (h:enc (dL l)=enc (.p a (.p b (.i 0)))):l.length=2:=by have:=congrArg (fun d=>d.l.length) (ew h);simpa [D.l] using this
theorem ZH (d:D) (hb:Bs d) (hlen:d.l.length<=1000000) (i:Nat) (hi:i<d.l.length): ∃p:Nat,i<p/\p<=d.l.length/\L 12850 [enc d,(i:Int)]=some [0,enc d,(i:Int),(p:Int)]:=by
 have c2: ¬((i:Int)<0):=J
 have c1:(i:Int)<(d.l.length:Int):=J
 have w:=bO (n:=i) J;have w1:=bO (n:=i+1) J;have w2:IntKind.i64.wrap ((i:Int)+2)=((i+2:Nat):Int):=by rw [me J J]; omega
 obtain⟨b1,b2⟩:=hb.2 i hi;have b1: ¬(d.l[i]).n<0:=J
 have c3: ¬(((i+2:Nat):Int)<(i:Int)):=J
 rw [bP,i_];simp only [Xr,eh,iO,lY,tI,lO,gE,bQ,bM,bN,Nat.reduceLT,List.map,cU,gp,bD,c1,c2,c3,if_true,if_false,wF,den_add,w,w1,w2,Cg,Ch,bT hi,b1,b2,aP,FZ,fX.den,F1,F0,gO,D.W,l_p,jn,nI,aM,aN,ay,br];split
 ·split
  ·rename_i h5;split
   ·rename_i h6;have:=RY h6;simp only [bu,bk] at this;omega
   ·split
    ·rename_i h6;have:=RY h6;simp only [bu,bk] at this;omega
    ·exact⟨i+1,J,J,rfl⟩
  ·rename_i h5;split
   ·exact⟨i+1+1,J,J,rfl⟩
   ·split
    ·exact⟨i+1+1,J,J,rfl⟩
    ·exact⟨i+1,J,J,rfl⟩
 ·obtain⟨p,q1,q2,q3⟩:=Iy d hb hlen (i:Int) ((b0.at (d.l[i]).n).n) _ (i+1) (az _) J;exact⟨p,J,q2,q3⟩
theorem abD {d:D} (hb:Bs d) (a b:Nat):Bs (dL ((d.l.take b).drop a)):=by
 refine⟨by rw [bE],fun i h=>?_⟩;simp only [bE] at h ⊢
 have Y:i<d.l.length-a:=by
  grind
 have:((d.l.take b).drop a)[i]=d.l[a+i]:=ae
 rw [this];exact hb.2 _ _
theorem Yx (d:D) (hb:Bs d): ∃k s n ln a e er el',L 1050 [enc d,0]=some [k,s,n,ln,a,e,er,el']:=by
 rw [bP,ad6];by_cases hg:(16384:Int)<(d.l.length:Int)
 ·simp only [Rr,eh,iO,lO,bQ,bM,bN,Nat.reduceLT,List.map,cU,gp,bD,hg,if_true];exact⟨_,_,_,_,_,_,_,_,rfl⟩
 ·obtain⟨p,hp,hB⟩:=QA d hb J 0 J;have hB':L 12800 [enc d,0]=some [0,enc d,0,(p:Int)]:=hB;have c0: ¬((0:Int)<0):=J
  have c1: ¬((d.l.length:Int)<0):=J
  have c2: ¬((p:Int)<0):=J
  have c3: ¬((d.l.length:Int)<(p:Int)):=J
  by_cases he:(p:Int)=(d.l.length:Int)
  ·simp only [Rr,eh,iO,tI,lO,gE,bQ,bM,bN,Nat.reduceLT,List.map,cU,gp,bD,hg,if_false,c0,c1,gA,fW,hB',aO,if_true,ay,c2,c3,he,aP,fin]
   grind
  ·obtain⟨e,U,Z,hE⟩:=ZH d hb J p J;have c4: ¬((e:Int)<(p:Int)):=J
   have c5: ¬((d.l.length:Int)<(e:Int)):=J
   have acS:=abD hb p e;have hpl:((d.l.take e).drop p).length=e-p:=by simp only [bu,bk]; omega
   have YY:0<((d.l.take e).drop p).length:=J
   obtain⟨na,nb,hN⟩:=OY _ acS (by rw [bE]; omega);obtain⟨b1,b2⟩:=acS.2 0 (by rw [bE]; exact YY);generalize hq:(d.l.take e).drop p=q at *;simp only [bE] at b1 b2;have b1: ¬(q[0]).n<0:=J
   have hY:(dL q).at 0=q[0]:=by have:=bT (d:=dL q) (i:=0) (by rw [bE]; exact YY);simpa using this
   have c6:(0:Int)<(q.length:Int):=J
   have c7:(q.length:Int)<1000000000:=J
   have c8:((([D.i 32]++q:List D).length:Nat):Int)<1000000000:=by simp only [a8,aR,aC]; omega
   simp only [Rr,eh,iO,tI,lO,gE,bQ,bM,bN,Nat.reduceLT,List.map,cU,gp,bD,hg,if_false,c0,c1,gA,fW,hB',hE,aO,if_true,ay,c2,c3,c4,c5,ak he,FZ,fX.den,F1,F0,gO,D.W,l_p,jn,nI,aM,aN,br,hq,bE,c6,c7,c8,Cg,Ch,hY,b1,b2,hN]
   repeat' first |exact⟨_,_,_,_,_,_,_,_,rfl⟩|split
theorem kY (d:D) (hb:Bs d): ∃b,(b=0\/b=1)/\L 1000 [enc d]=some [b]:=by
 obtain⟨k,s,n,ln',a,e,er,el',h⟩:=Yx d hb;rw [bP,ad7];simp only [acG,eh,iO,tI,gE,bQ,bM,bN,Nat.reduceLT,List.map,cU,gA,fW,h,aO,if_true,ay];split
 ·split
  ·split
   ·exact⟨1,.inr rfl,rfl⟩
   ·exact⟨0,.inl rfl,rfl⟩
  ·exact⟨0,.inl rfl,rfl⟩
 ·exact⟨0,.inl rfl,rfl⟩
theorem ahI {d:D} (h:Wd .str d):Bs d:=by obtain⟨s,rfl⟩:=h.s;exact agM s
theorem xt {kids:D} (h:Wd (.sl 6) kids) {i:Nat} (hi:i<kids.l.length): ∃k s n ks,kids.l[i]=dL [.i k,s,.i n,ks]/\dV .u8 k/\Wd .str s/\dV .i64 n/\Wd (.sl 6) ks:=by
 obtain⟨r,U,Y,hc⟩:=h.elN (cs:=[.int .u8,.str,.int .i64,.sl 6]) rfl _ (aF hi)
 match r,Y with
 |[a,b,c,d],_=> obtain⟨k,rfl,hk⟩:=(hc 0 _ _ rfl rfl).i;obtain⟨n,rfl,hn⟩:=(hc 2 _ _ rfl rfl).i;exact⟨k,b,n,d,U,hk,hc 1 _ _ rfl rfl,hn,hc 3 _ _ rfl rfl⟩
theorem T5 (d:D) (hb:Bs d): ∃b,(b=0\/b=1)/\L 12900 [enc d,0]=some [b,enc d,0]:=by
 obtain⟨b,Sv,h⟩:=kY d hb;rw [bP,h_];simp only [Xq,zz,h];rcases Sv with rfl|rfl
 ·exact⟨_,.inl rfl,rfl⟩
 ·exact⟨_,.inr rfl,rfl⟩
theorem Ho: ∀(m deep:Nat),21-deep<=m->∀(k n left loc:Int) (s kids:D),Wd .str s->Wd (.sl 6) kids->
 dw 5050 [k,enc s,n,enc kids,(deep:Int),left,loc] is3
 |m,deep,hm,k,n,left,loc,s,kids,hs,hk=>by
  refine dw.of ?_;rw [adA];simp only [acj,zz];refine .ite (fun _=> .out Ml) fun _=> .ite (fun _=> .out Ml) fun W=> .jump ?_;obtain⟨m,rfl⟩ : ∃m',m=m'+1:=⟨m-1,J⟩;have ih:=Ho m (deep+1) J;have hlen:=hk.len;have w0:=bO (n:=deep) J
  have loop: ∀(j i:Nat) (l' c':Int),i+j=kids.l.length->dw 5051 [(deep:Int),enc kids,(kids.l.length:Int),(i:Int),l',c',k,enc s,n] is3:=by
   intro j
   induction j with
   |zero=>
    intro i l' c' hi;have c1: ¬(i:Int)<(kids.l.length:Int):=J
    obtain⟨b,hb,hR⟩:=T5 s (ahI hs);refine dw.of ?_;rw [Z6];simp only [Xb,zz,c1,hR];rcases hb with rfl|rfl
    ·simp only [Int.reduceEq,if_true,if_false]
     repeat' first |exact .out Ml|exact .out acP|refine .ite (fun _=>?_) (fun _=>?_)
    ·simp only [Int.reduceEq,if_true,if_false]
     repeat' first |exact .out Ml|exact .out acP|refine .ite (fun _=>?_) (fun _=>?_)
   |succ j Gy=>
    intro i l' c' hi;have dK:i<kids.l.length:=J
    have c1:(i:Int)<(kids.l.length:Int):=J
    have c2: ¬((i:Int)<0):=J
    have w:=bO (n:=i) J;obtain⟨k',s',n',ks',he,_,U,_,Z⟩:=xt hk dK;obtain⟨ys,hR,a,b,c,rfl,hc⟩:=ih k' n' l' c' s' ks' U Z;refine dw.of ?_;rw [Z6];simp only [Xb,zz,c1,c2,bT dK,he,zg,w0,w,hR];exact .ite (fun _=> .out Ml) fun _=> .jump (Gy (i+1) _ _ J)
  exact loop kids.l.length 0 _ _ J
theorem Uf (k n loc:Int) (s kids:D) (hs:Wd .str s) (hk:Wd (.sl 6) kids):dw 800 [k,enc s,n,enc kids,loc] yP:=by obtain⟨ys,hR,a,b,c,rfl,hc⟩:=Ho 20 1 J k n 1000 loc s kids hs hk;have hR':L 5050 [k,enc s,n,enc kids,1,1000,loc]=some [a,b,c]:=hR;refine dw.of ?_;rw [ajS];simp only [ahX,zz,hR'];exact .ite (fun _=> .out tW) fun _=> .out tV
def acN (a b c:Int) (ys:List Int):Prop:= ∃i:Int,ys= [a,b,c,i]
def afx (a b c:Int) (ys:List Int):Prop:= ∃i:Int,ys= [a,b,c,i]/\(i=0\/i=1)
theorem AE (kids loc:D) (xY code:Int) (hk:Wd (.sl 6) kids): ∀(j i:Nat),i+j=kids.l.length->dw 5401 [enc kids,(kids.l.length:Int),(i:Int),xY,enc loc,code] (acN xY (enc loc) code)
 |0,i,hi=>by
  have c1: ¬(i:Int)<(kids.l.length:Int):=J
  refine dw.of ?_;rw [Z2];simp only [W7,zz,c1];exact .out ⟨_,rfl⟩
 |j+1,i,hi=>by
  have hlen:=hk.len;have dK:i<kids.l.length:=J
  have c1:(i:Int)<(kids.l.length:Int):=J
  have c2: ¬((i:Int)<0):=J
  have w:=bO (n:=i) J;obtain⟨k',s',n',ks',he,_,U,_,Z⟩:=xt hk dK;obtain⟨ys,hR,b,rfl,hb⟩:=Uf k' n' (loc.l.length:Int) s' ks' U Z;refine dw.of ?_;rw [Z2];simp only [W7,zz,c1,c2,bT dK,he,zg,w,hR];exact .ite (fun _=> .out ⟨_,rfl⟩) fun _=> .jump (AE kids loc xY code hk j (i+1) J)
theorem Vc (kids loc:D) (xY code:Int) (hk:Wd (.sl 6) kids):dw 5000 [enc kids,xY,enc loc,code] (afx xY (enc loc) code):=by
 have h0:dw 5400 [enc kids,xY,enc loc,code] (acN xY (enc loc) code):=by refine dw.of ?_;rw [adq];simp only [acb,zz];exact .jump (AE kids loc xY code hk kids.l.length 0 J)
 obtain⟨ys,hR,i,rfl⟩:=h0;refine dw.of ?_;rw [adB];simp only [ack,zz,hR];exact .ite (fun _=> .out ⟨_,rfl,.inl rfl⟩) fun _=> .out ⟨_,rfl,.inr rfl⟩
theorem Jw (o:Int):dw 1200 [o] (fun ys=> ∃k,ys= [k]):=by
 refine dw.of ?_;rw [ad2];simp only [acD,zz]
 repeat' first |exact .out ⟨_,rfl⟩|refine .ite (fun _=>?_) (fun _=>?_)
theorem oV (o:Int):dw 1250 [o] yP:=by
 refine dw.of ?_;rw [ad0];simp only [acC,zz]
 repeat' first |exact .out tW|exact .out tV|refine .ite (fun _=>?_) (fun _=>?_)
theorem oH (o:Int):dw 1300 [o] yP:=by
 refine dw.of ?_;rw [adZ];simp only [acB,zz]
 repeat' first |exact .out tW|exact .out tV|refine .ite (fun _=>?_) (fun _=>?_)
theorem Nr (o:Int):dw 1350 [o] yP:=by
 refine dw.of ?_;rw [adY];simp only [acA,zz]
 repeat' first |exact .out tW|exact .out tV|refine .ite (fun _=>?_) (fun _=>?_)
def E1:D:=.p (.i 1) (.p (.i 0) (.p (.i 0) (.p (.i 1) (.i 0))))
theorem xR:Bs (.i 0):=⟨rfl,fun i h=>by simp [D.l] at h⟩
theorem xQ {b:Int} (U:0<=b) (Z:b<256):Bs (.p (.i b) (.i 0)):=⟨rfl,fun i h=>by
 simp only [D.l,aR,aC] at h;obtain rfl:i=0:=J
 exact⟨U,Z⟩⟩
theorem gx (k n x5:Int) (s s':D) (hs:Bs s) (K_:Bs s'):dw 1400 [k,enc s,n,enc s',x5] yP:=by
 obtain⟨b,hb,hR⟩:=kY s hs;obtain⟨b',JV,hR'⟩:=kY s' K_;obtain⟨ys,hC,c,rfl,hc⟩:=Nr k;refine dw.of ?_;rw [adX];simp only [acz,zz,hR,hR',hC]
 repeat' first |exact .out tW|exact .out tV|refine .ite (fun _=>?_) (fun _=>?_)
theorem abH:L 1150 [1,enc (.i 0),0,enc (.i 1)]=some [1]:=by rw [bP,ad3];simp only [acE,zz,jn,aC,Int.reduceLT,Int.reduceEq];rfl
theorem Vd (a b:Int):L 5450 [enc (.i 1),a,b]=some [b]:=by rw [bP,adp];simp only [aca,zz,jn,aC,fin];rw [bP,ado];simp only [ab9,zz];rfl
theorem xr:L 5250 [enc (dL [E1]),2,1]=some [2,enc (dL [E1])]:=by have U:=abH;have Z:=Vd 3 2;have w1:IntKind.i64.wrap (1+1)=2:=me J J;have w2:IntKind.i64.wrap (2+1)=3:=me J J;have w3:IntKind.i64.wrap (0+1)=1:=me J J;have ha:(dL [E1]).at 0=E1:=rfl;have g0:E1.W 0= .i 1:=rfl;have g1:E1.W 1= .i 0:=rfl;have g2:E1.W 2= .i 0:=rfl;have g3:E1.W 3= .i 1:=rfl;rw [bP,adt];simp only [acf,zz,bE,aR,aC,aL,fin];rw [bP,Z5];simp only [Xa,zz,bE,aR,aC,aL,ha,g0,g1,g2,g3,w1,w2,w3,U,Z,Int.reduceLT,Int.reduceEq,fin,bn,aP];rw [bP,Z5];simp only [Xa,zz,aP];rfl
theorem T7 (k m:Int):L 5500 [enc (.i 1),k,m]=some [k,m,1]:=by rw [bP,adn];simp only [ab8,zz,jn,aC,fin];rw [bP,adm];simp only [ab7,zz];rfl
theorem T6 (a k m:Int):L 5600 [enc (.i 1),a,k,m]=some [a,k,m,1]:=by rw [bP,adl];simp only [ab6,zz,jn,aC,fin];rw [bP,adk];simp only [ab5,zz];rfl
theorem WO (k m:Int):L 5150 [k,m]=some [k,m,1]:=by rw [bP,adx];simp only [ach,zz,fin];rw [bP,adw];rfl
theorem WN (k m:Int):L 5200 [k,m]=some [1,k,m,1]:=by rw [bP,adv];simp only [acg,zz,fin];rw [bP,adu];rfl
theorem DP (k m:Int):L 5100 [k,m]=some [m]:=by rw [bP,adz];simp only [aci,zz,fin];rw [bP,ady];rfl
theorem lX (k m:Int):L 5300 [1,enc (dL [E1]),k,m]=some [enc (dL [E1]),k,m,1]:=by have Z:=T7 k m;have w3:IntKind.i64.wrap (0+1)=1:=me J J;have ha:(dL [E1]).at 0=E1:=rfl;have g0:E1.W 0= .i 1:=rfl;have g1:E1.W 1= .i 0:=rfl;have g3:E1.W 3= .i 1:=rfl;rw [bP,ads];simp only [ace,zz,fin];rw [bP,Z4];simp only [W9,zz,bE,aR,aC,aL,ha,g0,g1,g3,w3,Z,Int.reduceLT,Int.reduceEq,fin,bn,aP];rw [bP,Z4];simp only [W9,zz,aP];rfl
theorem I3 (k m:Int):L 5350 [1,enc (dL [E1]),k,m]=some [enc (dL [E1]),1,k,m,1]:=by have Z:=T6 1 k m;have w3:IntKind.i64.wrap (0+1)=1:=me J J;have ha:(dL [E1]).at 0=E1:=rfl;have g0:E1.W 0= .i 1:=rfl;have g1:E1.W 1= .i 0:=rfl;have g3:E1.W 3= .i 1:=rfl;rw [bP,adr];simp only [acd,zz,fin];rw [bP,Z3];simp only [W8,zz,bE,aR,aC,aL,ha,g0,g1,g3,w3,Z,Int.reduceLT,Int.reduceEq,fin,bn,aP];rw [bP,Z3];simp only [W8,zz,aP];rfl
def isR (ys:List Int):Prop:= ∃b l,ys=b::l/\(b=0\/b=1)
def UQ (e:Int) (ys:List Int):Prop:= ∃b l,ys=b::l/\(b=0\/b=1/\e<=23)
theorem JL {e:Int} {l:List Int}:UQ e (0::l):=⟨0,l,rfl,.inl rfl⟩
theorem JK {e:Int} {l:List Int} (h:e<=23):UQ e (1::l):=⟨1,l,rfl,.inr ⟨rfl,h⟩⟩
theorem Jn (a b c d e f g:Int):dw 12400 [a,b,c,d,e,f,g] (UQ e):=by
 obtain⟨ys,U,o,rfl,_⟩:=gx a b c _ _ (xQ (b:=97) J J) xR;obtain⟨ys,Z,q,rfl,_⟩:=oV e;obtain⟨ys,h3,r,rfl,_⟩:=oH e;obtain⟨n,_,h4⟩:=kY _ xR;refine dw.of ?_;rw [l!];simp only [Xw,zz,U,Z,h3,h4,DP]
 repeat' first |exact .out JL|exact .out (JK J)|refine .ite (fun _=>?_) (fun _=>?_)
theorem Jm (a b c d e f g:Int):dw 12500 [a,b,c,d,e,f,g] (UQ e):=by
 obtain⟨ys,U,o,rfl,_⟩:=gx a b c _ _ (xQ (b:=97) J J) xR;obtain⟨ys,Z,q,rfl,_⟩:=oV e;obtain⟨ys,h3,r,rfl,_⟩:=oH e;obtain⟨n,_,h4⟩:=kY _ xR;refine dw.of ?_;rw [k?];simp only [Xu,zz,U,Z,h3,h4,DP]
 repeat' first |exact .out JL|exact .out (JK J)|refine .ite (fun _=>?_) (fun _=>?_)
theorem Yc (a b c d e f g h i:Int):dw 12450 [a,b,c,d,e,f,g,h,i] (UQ g):=by
 obtain⟨ys,h0,o,rfl,_⟩:=gx 1 a b _ _ (xQ (b:=98) J J) xR;obtain⟨ys,U,o',rfl,_⟩:=gx c d e _ _ (xQ (b:=97) J J) (xQ (b:=98) J J);obtain⟨ys,Z,q,rfl,_⟩:=oV g;obtain⟨ys,h3,r,rfl,_⟩:=oH g;obtain⟨n,_,h4⟩:=kY _ xR;refine dw.of ?_;rw [l_];simp only [Xv,zz,h0,U,Z,h3,h4,DP]
 repeat' first |exact .out JL|exact .out (JK J)|refine .ite (fun _=>?_) (fun _=>?_)
theorem Yb (a b c d e f g h i:Int):dw 12550 [a,b,c,d,e,f,g,h,i] (UQ g):=by
 obtain⟨ys,h0,o,rfl,_⟩:=gx 1 a b _ _ (xQ (b:=98) J J) xR;obtain⟨ys,U,o',rfl,_⟩:=gx c d e _ _ (xQ (b:=97) J J) (xQ (b:=98) J J);obtain⟨ys,Z,q,rfl,_⟩:=oV g;obtain⟨ys,h3,r,rfl,_⟩:=oH g;obtain⟨n,_,h4⟩:=kY _ xR;refine dw.of ?_;rw [k!];simp only [Xt,zz,h0,U,Z,h3,h4,DP]
 repeat' first |exact .out JL|exact .out (JK J)|refine .ite (fun _=>?_) (fun _=>?_)
def YN (e:Int) (m k:Nat) (ys:List Int):Prop:=(∃l,ys=0::l)\/(m=1/\low ys 0=1/\low ys k=1/\low ys (k+1)=enc (dL [E1])/\e<=23)
theorem vU {e:Int} {m k:Nat} {l:List Int}:YN e m k (0::l):=.inl ⟨l,rfl⟩
def rQ (m:Nat):D:=dL (List.replicate m E1)
theorem sS (m:Nat):(rQ m).l.length=m:=by unfold rQ; rw [bE,anu]
theorem vO (m:Nat) (hm:1<=m) (a b c d e f g:Int):dw 12600 [a,b,c,d,e,f,enc (rQ m),g] (YN e m 9):=by
 obtain⟨ys,U,o,rfl,_⟩:=gx a b c _ _ (xQ (b:=97) J J) xR;obtain⟨ys,Z,q,rfl,hq⟩:=oV e;obtain⟨ys,h3,r,rfl,_⟩:=oH e;obtain⟨n,_,h4⟩:=kY _ xR;refine dw.of ?_;rw [k_];by_cases h:m=1
 ·subst h;have h5:=xr;simp only [Oz,zz,U,Z,h3,h4,rQ,List.replicate,h5]
  repeat' first |exact .out vU|exact .out (.inr ⟨rfl,rfl,rfl,rfl,J⟩)|refine .ite (fun _=>?_) (fun _=>?_)
 ·have c1: ¬((m:Int)=q):=by rcases hq with rfl|rfl<;>omega
  simp only [Oz,zz,U,Z,h3,h4,sS,c1]
  repeat' first |exact .out vU|refine .ite (fun _=>?_) (fun _=>?_)
theorem vN (m:Nat) (hm:1<=m) (a b c d e f g:Int):dw 12700 [a,b,c,d,e,f,enc (rQ m),g] (YN e m 9):=by
 obtain⟨ys,U,o,rfl,_⟩:=gx a b c _ _ (xQ (b:=97) J J) xR;obtain⟨ys,Z,q,rfl,hq⟩:=oV e;obtain⟨ys,h3,r,rfl,_⟩:=oH e;obtain⟨n,_,h4⟩:=kY _ xR;refine dw.of ?_;rw [j!];by_cases h:m=1
 ·subst h;have h5:=xr;simp only [Ox,zz,U,Z,h3,h4,rQ,List.replicate,h5]
  repeat' first |exact .out vU|exact .out (.inr ⟨rfl,rfl,rfl,rfl,J⟩)|refine .ite (fun _=>?_) (fun _=>?_)
 ·have c1: ¬((m:Int)=q):=by rcases hq with rfl|rfl<;>omega
  simp only [Ox,zz,U,Z,h3,h4,sS,c1]
  repeat' first |exact .out vU|refine .ite (fun _=>?_) (fun _=>?_)
theorem X9 (m:Nat) (hm:1<=m) (a b c d e f g h' i:Int):dw 12650 [a,b,c,d,e,f,g,h',enc (rQ m),i] (YN g m 11):=by
 obtain⟨ys,h0,o,rfl,_⟩:=gx 1 a b _ _ (xQ (b:=98) J J) xR;obtain⟨ys,U,o',rfl,_⟩:=gx c d e _ _ (xQ (b:=97) J J) (xQ (b:=98) J J);obtain⟨ys,Z,q,rfl,hq⟩:=oV g;obtain⟨ys,h3,r,rfl,_⟩:=oH g;obtain⟨n,_,h4⟩:=kY _ xR;refine dw.of ?_;rw [j?];by_cases h:m=1
 ·subst h;have h5:=xr;simp only [Oy,zz,h0,U,Z,h3,h4,rQ,List.replicate,h5]
  repeat' first |exact .out vU|exact .out (.inr ⟨rfl,rfl,rfl,rfl,J⟩)|refine .ite (fun _=>?_) (fun _=>?_)
 ·have c1: ¬((m:Int)=q):=by rcases hq with rfl|rfl<;>omega
  simp only [Oy,zz,h0,U,Z,h3,h4,sS,c1]
  repeat' first |exact .out vU|refine .ite (fun _=>?_) (fun _=>?_)
theorem X8 (m:Nat) (hm:1<=m) (a b c d e f g h' i:Int):dw 12750 [a,b,c,d,e,f,g,h',enc (rQ m),i] (YN g m 11):=by
 obtain⟨ys,h0,o,rfl,_⟩:=gx 1 a b _ _ (xQ (b:=98) J J) xR;obtain⟨ys,U,o',rfl,_⟩:=gx c d e _ _ (xQ (b:=97) J J) (xQ (b:=98) J J);obtain⟨ys,Z,q,rfl,hq⟩:=oV g;obtain⟨ys,h3,r,rfl,_⟩:=oH g;obtain⟨n,_,h4⟩:=kY _ xR;refine dw.of ?_;rw [j_];by_cases h:m=1
 ·subst h;have h5:=xr;simp only [Ow,zz,h0,U,Z,h3,h4,rQ,List.replicate,h5]
  repeat' first |exact .out vU|exact .out (.inr ⟨rfl,rfl,rfl,rfl,J⟩)|refine .ite (fun _=>?_) (fun _=>?_)
 ·have c1: ¬((m:Int)=q):=by rcases hq with rfl|rfl<;>omega
  simp only [Ow,zz,h0,U,Z,h3,h4,sS,c1]
  repeat' first |exact .out vU|refine .ite (fun _=>?_) (fun _=>?_)
def J! (e a b:Int) (ys:List Int):Prop:= ∃c:Int,ys= [c]/\(c=0\/c=1)/\(c=1->(a= -1\/b≠0)/\e<=23)
theorem fQ {e a b:Int}:J! e a b [0]:=⟨0,rfl,.inl rfl,fun h=>absurd h J⟩
theorem lQ {e a b:Int} (h:(a= -1\/b≠0)/\e<=23):J! e a b [1]:=⟨1,rfl,.inr rfl,fun _=>h⟩
theorem dw.mono {j:Nat} {xs:List Int} {p q:List Int->Prop} (h:dw j xs p) (f: ∀ys,p ys->q ys):dw j xs q:=by obtain⟨ys,a,b⟩:=h;exact⟨ys,a,f ys b⟩
theorem abt (x0 x2 x3 x4 x5 x6 x7 x8:Int):dw 951 [x0,0,x2,x3,x4,x5,x6,x7,x8] (J! x3 x5 0):=by
 obtain⟨ys,a1,b1,l1,rfl,g1⟩:=Jn x0 1 0 0 x3 0 0;obtain⟨ys,a2,b2,l2,rfl,g2⟩:=Jn x0 0 0 0 x3 0 0;obtain⟨ys,a3,b3,l3,rfl,g3⟩:=Yc 0 0 x0 0 0 0 x3 0 0;obtain⟨ys,a4,b4,l4,rfl,g4⟩:=Jm x0 1 0 0 x3 0 0;obtain⟨ys,a5,b5,l5,rfl,g5⟩:=Jm x0 0 0 0 x3 0 0;obtain⟨ys,a6,b6,l6,rfl,g6⟩:=Yb 0 0 x0 0 0 0 x3 0 0;obtain⟨ys,a7,k,rfl⟩:=Jw x3;refine dw.of ?_;rw [agp];simp only [aeT,zz,aP,a1,a2,a3,a4,a5,a6,a7,WO,WN]
 repeat' first |exact .out fQ|exact .out (lQ J)|refine .ite (fun _=>?_) (fun _=>?_)|(exfalso; omega)
theorem abr (x0 x2 x3 x4 x5 x6 x7 x8:Int):dw 952 [x0,0,x2,x3,x4,x5,x6,x7,x8] (J! x3 x5 1):=by
 obtain⟨ys,a1,b1,l1,rfl,g1⟩:=Jn x0 1 0 0 x3 0 0;obtain⟨ys,a2,b2,l2,rfl,g2⟩:=Jn x0 0 0 0 x3 0 0;obtain⟨ys,a3,b3,l3,rfl,g3⟩:=Yc 0 0 x0 0 0 0 x3 0 0;obtain⟨ys,a4,b4,l4,rfl,g4⟩:=Jm x0 1 0 0 x3 0 0;obtain⟨ys,a5,b5,l5,rfl,g5⟩:=Jm x0 0 0 0 x3 0 0;obtain⟨ys,a6,b6,l6,rfl,g6⟩:=Yb 0 0 x0 0 0 0 x3 0 0;obtain⟨ys,a7,k,rfl⟩:=Jw x3;refine dw.of ?_;rw [ago];simp only [aeS,zz,aP,a1,a2,a3,a4,a5,a6,a7,WO,WN]
 repeat' first |exact .out fQ|exact .out (lQ J)|refine .ite (fun _=>?_) (fun _=>?_)|(exfalso; omega)
theorem Nk (m:Nat) (hm:1<=m) (x0 x3 x4 x5 x6 x7 x8 x9:Int):dw 953 [x0,(m:Int),(m:Int),x3,x4,x5,x6,x7,x8,x9,enc (rQ m)] (J! x4 x6 0):=by
 obtain⟨ys,a7,k,rfl⟩:=Jw x4;by_cases hn:x6= -1
 ·by_cases h3:x0=3
  ·subst h3;obtain⟨ys,hR,hC⟩:=vO m hm 3 1 0 0 x4 0 0;refine dw.of ?_;rw [Di];rcases hC with ⟨l,rfl⟩|⟨rfl,q1,q2,q3,q4⟩
   ·simp only [qX,zz,aP,hn,hR,Int.reduceEq];exact .out fQ
   ·simp only [qX,zz,aP,hn,hR,q1,q2,q3,a7,lX,Int.reduceEq,bn]
    repeat' first |exact .out fQ|exact .out (lQ J)|refine .ite (fun _=>?_) (fun _=>?_)|(exfalso; omega)
  by_cases h8:x0=8
  ·subst h8;obtain⟨ys,hR,hC⟩:=vO m hm 8 1 0 0 x4 0 0;refine dw.of ?_;rw [Di];rcases hC with ⟨l,rfl⟩|⟨rfl,q1,q2,q3,q4⟩
   ·simp only [qX,zz,aP,hn,hR,Int.reduceEq];exact .out fQ
   ·simp only [qX,zz,aP,hn,hR,q1,q2,q3,a7,lX,Int.reduceEq,bn]
    repeat' first |exact .out fQ|exact .out (lQ J)|refine .ite (fun _=>?_) (fun _=>?_)|(exfalso; omega)
  by_cases h5:x0=5
  ·subst h5;obtain⟨ys,hR,hC⟩:=vO m hm 5 1 0 0 x4 0 0;refine dw.of ?_;rw [Di];rcases hC with ⟨l,rfl⟩|⟨rfl,q1,q2,q3,q4⟩
   ·simp only [qX,zz,aP,hn,hR,Int.reduceEq];exact .out fQ
   ·simp only [qX,zz,aP,hn,hR,q1,q2,q3,a7,lX,Int.reduceEq,bn]
    repeat' first |exact .out fQ|exact .out (lQ J)|refine .ite (fun _=>?_) (fun _=>?_)|(exfalso; omega)
  by_cases h4:x0=4
  ·subst h4;obtain⟨ys,hR,hC⟩:=X9 m hm 0 0 4 0 0 0 x4 0 0;refine dw.of ?_;rw [Di];rcases hC with ⟨l,rfl⟩|⟨rfl,q1,q2,q3,q4⟩
   ·simp only [qX,zz,aP,hn,hR,Int.reduceEq];exact .out fQ
   ·simp only [qX,zz,aP,hn,hR,q1,q2,q3,a7,I3,Int.reduceEq,bn]
    repeat' first |exact .out fQ|exact .out (lQ J)|refine .ite (fun _=>?_) (fun _=>?_)|(exfalso; omega)
  obtain⟨ys,hR,hC⟩:=vO m hm x0 0 0 0 x4 0 0;refine dw.of ?_;rw [Di];rcases hC with ⟨l,rfl⟩|⟨rfl,q1,q2,q3,q4⟩
  ·simp only [qX,zz,aP,hn,h3,h8,h5,h4,hR,Int.reduceEq];exact .out fQ
  ·simp only [qX,zz,aP,hn,h3,h8,h5,h4,hR,q1,q2,q3,a7,lX,Int.reduceEq,bn]
   repeat' first |exact .out fQ|exact .out (lQ J)|refine .ite (fun _=>?_) (fun _=>?_)|(exfalso; omega)
 ·by_cases h3:x0=3
  ·subst h3;obtain⟨ys,hR,hC⟩:=vN m hm 3 1 0 0 x4 0 0;refine dw.of ?_;rw [Di];rcases hC with ⟨l,rfl⟩|⟨rfl,q1,q2,q3,q4⟩
   ·simp only [qX,zz,aP,hn,hR,Int.reduceEq];exact .out fQ
   ·simp only [qX,zz,aP,hn,hR,q1,q2,q3,a7,lX,Int.reduceEq,bn]
    repeat' first |exact .out fQ|exact .out (lQ J)|refine .ite (fun _=>?_) (fun _=>?_)|(exfalso; omega)
  by_cases h8:x0=8
  ·subst h8;obtain⟨ys,hR,hC⟩:=vN m hm 8 1 0 0 x4 0 0;refine dw.of ?_;rw [Di];rcases hC with ⟨l,rfl⟩|⟨rfl,q1,q2,q3,q4⟩
   ·simp only [qX,zz,aP,hn,hR,Int.reduceEq];exact .out fQ
   ·simp only [qX,zz,aP,hn,hR,q1,q2,q3,a7,lX,Int.reduceEq,bn]
    repeat' first |exact .out fQ|exact .out (lQ J)|refine .ite (fun _=>?_) (fun _=>?_)|(exfalso; omega)
  by_cases h5:x0=5
  ·subst h5;obtain⟨ys,hR,hC⟩:=vN m hm 5 1 0 0 x4 0 0;refine dw.of ?_;rw [Di];rcases hC with ⟨l,rfl⟩|⟨rfl,q1,q2,q3,q4⟩
   ·simp only [qX,zz,aP,hn,hR,Int.reduceEq];exact .out fQ
   ·simp only [qX,zz,aP,hn,hR,q1,q2,q3,a7,lX,Int.reduceEq,bn]
    repeat' first |exact .out fQ|exact .out (lQ J)|refine .ite (fun _=>?_) (fun _=>?_)|(exfalso; omega)
  by_cases h4:x0=4
  ·subst h4;obtain⟨ys,hR,hC⟩:=X8 m hm 0 0 4 0 0 0 x4 0 0;refine dw.of ?_;rw [Di];rcases hC with ⟨l,rfl⟩|⟨rfl,q1,q2,q3,q4⟩
   ·simp only [qX,zz,aP,hn,hR,Int.reduceEq];exact .out fQ
   ·simp only [qX,zz,aP,hn,hR,q1,q2,q3,a7,I3,Int.reduceEq,bn]
    repeat' first |exact .out fQ|exact .out (lQ J)|refine .ite (fun _=>?_) (fun _=>?_)|(exfalso; omega)
  obtain⟨ys,hR,hC⟩:=vN m hm x0 0 0 0 x4 0 0;refine dw.of ?_;rw [Di];rcases hC with ⟨l,rfl⟩|⟨rfl,q1,q2,q3,q4⟩
  ·simp only [qX,zz,aP,hn,h3,h8,h5,h4,hR,Int.reduceEq];exact .out fQ
  ·simp only [qX,zz,aP,hn,h3,h8,h5,h4,hR,q1,q2,q3,a7,lX,Int.reduceEq,bn]
   repeat' first |exact .out fQ|exact .out (lQ J)|refine .ite (fun _=>?_) (fun _=>?_)|(exfalso; omega)
theorem SZ (M:Nat) (hM:M<=2513169434915) (x0 x3 x4 x5 x6 x7 x8 x9:Int): ∀(j m:Nat),m+j=M->1<=m->dw 953 [x0,(M:Int),(m:Int),x3,x4,x5,x6,x7,x8,x9,enc (rQ m)] (J! x4 x6 0)
 |0,m,U,Z=>by
  obtain rfl:M=m:=J
  exact Nk M Z x0 x3 x4 x5 x6 x7 x8 x9
 |j+1,m,U,Z=>by
  have ih:=SZ M hM x0 x3 x4 x5 x6 x7 x8 x9 j (m+1) J J;have c1:(m:Int)<(M:Int):=J
  have c2:((m:Nat):Int)<2513169434915:=J
  have w:=bO (n:=m) J
  have hr:rQ (m+1)=dL ((rQ m).l++ [E1]):=by unfold rQ;rw [bE,List.replicate_succ']
  rw [hr] at ih;refine dw.of ?_;rw [Di];simp only [qX,zz,c1,c2,sS,w];exact .jump ih
theorem Nj (m:Nat) (hm:1<=m) (x0 x3 x4 x5 x6 x7 x8 x9:Int):dw 954 [x0,(m:Int),(m:Int),x3,x4,x5,x6,x7,x8,x9,enc (rQ m)] (J! x4 x6 1):=by
 obtain⟨ys,a7,k,rfl⟩:=Jw x4;by_cases hn:x6= -1
 ·by_cases h3:x0=3
  ·subst h3;obtain⟨ys,hR,hC⟩:=vO m hm 3 1 0 0 x4 0 0;refine dw.of ?_;rw [Dh];rcases hC with ⟨l,rfl⟩|⟨rfl,q1,q2,q3,q4⟩
   ·simp only [qW,zz,aP,hn,hR,Int.reduceEq];exact .out fQ
   ·simp only [qW,zz,aP,hn,hR,q1,q2,q3,a7,lX,Int.reduceEq,bn]
    repeat' first |exact .out fQ|exact .out (lQ J)|refine .ite (fun _=>?_) (fun _=>?_)|(exfalso; omega)
  by_cases h8:x0=8
  ·subst h8;obtain⟨ys,hR,hC⟩:=vO m hm 8 1 0 0 x4 0 0;refine dw.of ?_;rw [Dh];rcases hC with ⟨l,rfl⟩|⟨rfl,q1,q2,q3,q4⟩
   ·simp only [qW,zz,aP,hn,hR,Int.reduceEq];exact .out fQ
   ·simp only [qW,zz,aP,hn,hR,q1,q2,q3,a7,lX,Int.reduceEq,bn]
    repeat' first |exact .out fQ|exact .out (lQ J)|refine .ite (fun _=>?_) (fun _=>?_)|(exfalso; omega)
  by_cases h5:x0=5
  ·subst h5;obtain⟨ys,hR,hC⟩:=vO m hm 5 1 0 0 x4 0 0;refine dw.of ?_;rw [Dh];rcases hC with ⟨l,rfl⟩|⟨rfl,q1,q2,q3,q4⟩
   ·simp only [qW,zz,aP,hn,hR,Int.reduceEq];exact .out fQ
   ·simp only [qW,zz,aP,hn,hR,q1,q2,q3,a7,lX,Int.reduceEq,bn]
    repeat' first |exact .out fQ|exact .out (lQ J)|refine .ite (fun _=>?_) (fun _=>?_)|(exfalso; omega)
  by_cases h4:x0=4
  ·subst h4;obtain⟨ys,hR,hC⟩:=X9 m hm 0 0 4 0 0 0 x4 0 0;refine dw.of ?_;rw [Dh];rcases hC with ⟨l,rfl⟩|⟨rfl,q1,q2,q3,q4⟩
   ·simp only [qW,zz,aP,hn,hR,Int.reduceEq];exact .out fQ
   ·simp only [qW,zz,aP,hn,hR,q1,q2,q3,a7,I3,Int.reduceEq,bn]
    repeat' first |exact .out fQ|exact .out (lQ J)|refine .ite (fun _=>?_) (fun _=>?_)|(exfalso; omega)
  obtain⟨ys,hR,hC⟩:=vO m hm x0 0 0 0 x4 0 0;refine dw.of ?_;rw [Dh];rcases hC with ⟨l,rfl⟩|⟨rfl,q1,q2,q3,q4⟩
  ·simp only [qW,zz,aP,hn,h3,h8,h5,h4,hR,Int.reduceEq];exact .out fQ
  ·simp only [qW,zz,aP,hn,h3,h8,h5,h4,hR,q1,q2,q3,a7,lX,Int.reduceEq,bn]
   repeat' first |exact .out fQ|exact .out (lQ J)|refine .ite (fun _=>?_) (fun _=>?_)|(exfalso; omega)
 ·by_cases h3:x0=3
  ·subst h3;obtain⟨ys,hR,hC⟩:=vN m hm 3 1 0 0 x4 0 0;refine dw.of ?_;rw [Dh];rcases hC with ⟨l,rfl⟩|⟨rfl,q1,q2,q3,q4⟩
   ·simp only [qW,zz,aP,hn,hR,Int.reduceEq];exact .out fQ
   ·simp only [qW,zz,aP,hn,hR,q1,q2,q3,a7,lX,Int.reduceEq,bn]
    repeat' first |exact .out fQ|exact .out (lQ J)|refine .ite (fun _=>?_) (fun _=>?_)|(exfalso; omega)
  by_cases h8:x0=8
  ·subst h8;obtain⟨ys,hR,hC⟩:=vN m hm 8 1 0 0 x4 0 0;refine dw.of ?_;rw [Dh];rcases hC with ⟨l,rfl⟩|⟨rfl,q1,q2,q3,q4⟩
   ·simp only [qW,zz,aP,hn,hR,Int.reduceEq];exact .out fQ
   ·simp only [qW,zz,aP,hn,hR,q1,q2,q3,a7,lX,Int.reduceEq,bn]
    repeat' first |exact .out fQ|exact .out (lQ J)|refine .ite (fun _=>?_) (fun _=>?_)|(exfalso; omega)
  by_cases h5:x0=5
  ·subst h5;obtain⟨ys,hR,hC⟩:=vN m hm 5 1 0 0 x4 0 0;refine dw.of ?_;rw [Dh];rcases hC with ⟨l,rfl⟩|⟨rfl,q1,q2,q3,q4⟩
   ·simp only [qW,zz,aP,hn,hR,Int.reduceEq];exact .out fQ
   ·simp only [qW,zz,aP,hn,hR,q1,q2,q3,a7,lX,Int.reduceEq,bn]
    repeat' first |exact .out fQ|exact .out (lQ J)|refine .ite (fun _=>?_) (fun _=>?_)|(exfalso; omega)
  by_cases h4:x0=4
  ·subst h4;obtain⟨ys,hR,hC⟩:=X8 m hm 0 0 4 0 0 0 x4 0 0;refine dw.of ?_;rw [Dh];rcases hC with ⟨l,rfl⟩|⟨rfl,q1,q2,q3,q4⟩
   ·simp only [qW,zz,aP,hn,hR,Int.reduceEq];exact .out fQ
   ·simp only [qW,zz,aP,hn,hR,q1,q2,q3,a7,I3,Int.reduceEq,bn]
    repeat' first |exact .out fQ|exact .out (lQ J)|refine .ite (fun _=>?_) (fun _=>?_)|(exfalso; omega)
  obtain⟨ys,hR,hC⟩:=vN m hm x0 0 0 0 x4 0 0;refine dw.of ?_;rw [Dh];rcases hC with ⟨l,rfl⟩|⟨rfl,q1,q2,q3,q4⟩
  ·simp only [qW,zz,aP,hn,h3,h8,h5,h4,hR,Int.reduceEq];exact .out fQ
  ·simp only [qW,zz,aP,hn,h3,h8,h5,h4,hR,q1,q2,q3,a7,lX,Int.reduceEq,bn]
   repeat' first |exact .out fQ|exact .out (lQ J)|refine .ite (fun _=>?_) (fun _=>?_)|(exfalso; omega)
theorem SY (M:Nat) (hM:M<=2513169434915) (x0 x3 x4 x5 x6 x7 x8 x9:Int): ∀(j m:Nat),m+j=M->1<=m->dw 954 [x0,(M:Int),(m:Int),x3,x4,x5,x6,x7,x8,x9,enc (rQ m)] (J! x4 x6 1)
 |0,m,U,Z=>by
  obtain rfl:M=m:=J
  exact Nj M Z x0 x3 x4 x5 x6 x7 x8 x9
 |j+1,m,U,Z=>by
  have ih:=SY M hM x0 x3 x4 x5 x6 x7 x8 x9 j (m+1) J J;have c1:(m:Int)<(M:Int):=J
  have c2:((m:Nat):Int)<2513169434915:=J
  have w:=bO (n:=m) J
  have hr:rQ (m+1)=dL ((rQ m).l++ [E1]):=by unfold rQ;rw [bE,List.replicate_succ']
  rw [hr] at ih;refine dw.of ?_;rw [Dh];simp only [qW,zz,c1,c2,sS,w];exact .jump ih
theorem Ni (x0 x1 x2 x3 x4 x5 x6 x8:Int) (d:D) (W:d.l.length<=2513169434915):dw 950 [x0,x1,x2,x3,x4,x5,x6,enc d,x8] (J! x2 x4 x8):=by
 have key: ∀(t t2:Nat) (b:Int),(t=951/\t2=953/\b=0)\/(t=952/\t2=954/\b=1)->dw t [x0,(d.l.length:Int),x1,x2,x3,x4,x5,x6,enc d] (J! x2 x4 b):=by
  intro t t2 b ht;by_cases h0:d.l.length=0
  ·rw [h0];rcases ht with ⟨rfl,rfl,rfl⟩|⟨rfl,rfl,rfl⟩
   ·exact abt x0 x1 x2 x3 x4 x5 x6 (enc d)
   ·exact abr x0 x1 x2 x3 x4 x5 x6 (enc d)
  ·have c1:(0:Int)<(d.l.length:Int):=J
   have hr:enc (rQ 1)=enc (dL ([]++ [E1])):=rfl;rcases ht with ⟨rfl,rfl,rfl⟩|⟨rfl,rfl,rfl⟩
   ·have:=SZ d.l.length W x0 x1 x2 x3 x4 x5 x6 (enc d) (d.l.length-1) 1 J J;rw [hr] at this;refine dw.of ?_;rw [agp];simp only [aeT,zz,c1,jn];exact .jump this
   ·have:=SY d.l.length W x0 x1 x2 x3 x4 x5 x6 (enc d) (d.l.length-1) 1 J J;rw [hr] at this;refine dw.of ?_;rw [ago];simp only [aeS,zz,c1,jn];exact .jump this
 refine dw.of ?_;rw [ajP];simp only [ahQ,zz];exact .ite (fun h=> .jump ((key 951 953 0 (.inl ⟨rfl,rfl,rfl⟩)).mono fun ys ⟨c,a,b,e⟩=> ⟨c,a,b,fun q=>by have:=e q; omega⟩)) fun h=> .jump ((key 952 954 1 (.inr ⟨rfl,rfl,rfl⟩)).mono fun ys ⟨c,a,b,e⟩=> ⟨c,a,b,fun q=> ⟨.inr h,(e q).2⟩⟩)
def OkI (d0:D) (nl nc:Nat) (dx op ob EZ to:Int) (na:Nat):Prop:=
 (dx=1/\0<=ob/\ob<(d0.l.length:Int)/\(EZ= -1\/0<=EZ/\EZ<(nl:Int))/\(op=16->0<=to/\to<=(nc:Int)))\/
 (dx=2/\0<=ob/\ob<(d0.l.length:Int))\/(dx=3/\0<=EZ/\EZ<(nl:Int)/\(na:Int)=1)\/(dx=4/\0<=to/\to<=(nc:Int)/\(na:Int)=1)\/
 (dx=5/\0<=to/\to<=(nc:Int))\/(dx=6/\0<=EZ/\EZ<(nl:Int))\/(dx=7/\0<=EZ/\EZ<(nl:Int)/\0<=to/\to<=(nc:Int))
def isI (p:Prop) (ys:List Int):Prop:= ∃c:Int,ys= [c]/\(c=0\/c=1)/\(c=1->p)
theorem aiW {p:Prop}:isI p [0]:=⟨0,rfl,.inl rfl,fun h=>absurd h J⟩
theorem aiV {p:Prop} (h:p):isI p [1]:=⟨1,rfl,.inr rfl,fun _=>h⟩
def qb (d0:D) (k n:Int):Prop:=1<=k/\k<=9/\(k=1\/k=2\/k=6\/k=7->n=0)/\(k=3\/k=8->1<=n/\n<=1048576)/\(k=5->1<=n/\n<=16)/\(k=4->0<=n/\n<(d0.l.length:Int)/\((d0.at n).W 0).n=1)
def RM (d0:D) (x:D):Prop:=qb d0 (x.W 0).n (x.W 2).n
def afu (d0:D) (k n:Int) (ys:List Int):Prop:= ∃b:Int,ys= [b]/\(b=0\/b=1)/\(b≠0->qb d0 k n)
def mF (d0 d1:D):Prop:=d0.l.length<=64/\d1.l.length<=16/\∀x∈d0.l,RM d0 x
def acQ (d0 x:D):Prop:= ∀y∈(x.W 2).l,OkI d0 (x.W 1).l.length (x.W 2).l.length (y.W 0).n (y.W 1).n (y.W 2).n (y.W 3).n (y.W 4).n (y.W 6).l.length
def aiX (d0 d1:D) (ys:List Int):Prop:= ∃b:Int,ys= [b]/\(b=0\/b=120)/\(b=0->mF d0 d1/\∀x∈d1.l,acQ d0 x)
def OkJ (d0:D) (nl nc:Nat) (dx op ob EZ to:Int) (na:Nat):Prop:=OkI d0 nl nc dx op ob EZ to na/\(dx=1->op<=23)
def JN (d0 x:D):Prop:= ∀y∈(x.W 2).l,OkJ d0 (x.W 1).l.length (x.W 2).l.length (y.W 0).n (y.W 1).n (y.W 2).n (y.W 3).n (y.W 4).n (y.W 6).l.length
def yO (d0 d1:D) (ys:List Int):Prop:= ∃b:Int,ys= [b]/\(b=0\/b=120)/\(b=0->mF d0 d1/\∀x∈d1.l,JN d0 x)
theorem zq {d:D} (h:Wd (.sl 4) d) {i:Nat} (hi:i<d.l.length): ∃xY lc cd,d.l[i]=dL [xY,lc,cd]/\Wd .str xY/\Wd (.sl 2) lc/\Wd (.sl 5) cd:=by
 obtain⟨r,U,Y,hc⟩:=h.elN (cs:=[.str,.sl 2,.sl 5]) rfl _ (aF hi)
 match r,Y with
 |[a,b,c],_=>exact⟨a,b,c,U,hc 0 _ _ rfl rfl,hc 1 _ _ rfl rfl,hc 2 _ _ rfl rfl⟩
theorem Pa {d:D} (h:Wd (.sl 5) d) {i:Nat} (hi:i<d.l.length): ∃a b c e f g GF,d.l[i]=dL [.i a,.i b,.i c,.i e,.i f,.i g,GF]/\dV .u8 a/\dV .u8 b/\dV .i64 c/\dV .i64 e/\dV .i64 f/\dV .i64 g/\Wd (.sl 6) GF:=by
 obtain⟨r,U,Y,hc⟩:=h.elN (cs:=[.int .u8,.int .u8,.int .i64,.int .i64,.int .i64,.int .i64,.sl 6]) rfl _ (aF hi)
 match r,Y with
 |[a,b,c,e,f,g,GF],_=> obtain⟨a,rfl,ha⟩:=(hc 0 _ _ rfl rfl).i;obtain⟨b,rfl,hb⟩:=(hc 1 _ _ rfl rfl).i;obtain⟨c,rfl,hc'⟩:=(hc 2 _ _ rfl rfl).i;obtain⟨e,rfl,he⟩:=(hc 3 _ _ rfl rfl).i;obtain⟨f,rfl,hf⟩:=(hc 4 _ _ rfl rfl).i;obtain⟨g,rfl,hg⟩:=(hc 5 _ _ rfl rfl).i;exact⟨a,b,c,e,f,g,GF,U,ha,hb,hc',he,hf,hg,hc 6 _ _ rfl rfl⟩
set_option maxHeartbeats 2000000 in
theorem aaN (d0 d1 d3 d4 d:D) (x2 x5 x6 x7 x8 x9 K8:Int) (W:d.l.length<=2513169434915):dw 750 [enc d0,enc d1,x2,enc d3,enc d4,x5,x6,x7,x8,x9,K8,enc d] (isI (OkJ d0 d3.l.length d4.l.length x5 x6 x7 x8 x9 d.l.length)):=by
 unfold OkJ OkI;obtain⟨ys,h0,b0,rfl,_,f0⟩:=Ni ((d0.at x7).W 0).n x5 x6 x7 x8 x9 K8 0 d W;obtain⟨ys,U,b1,rfl,_,f1⟩:=Ni ((d0.at x7).W 0).n x5 x6 x7 x8 x9 K8 1 d W;refine dw.of ?_;rw [ajT];simp only [ahY,zz,h0,U]
 repeat' first |exact .out aiW|exact .out (aiV J)|refine .ite (fun _=>?_) (fun _=>?_)
theorem UI (d0:D) (x1 x2 x3 x4 x5 x6:Int):dw 700 [enc d0,x1,x2,x3,x4,x5,x6] (afu d0 x2 x4):=by
 refine dw.of ?_;rw [ajU];simp only [ahZ,zz]
 repeat' first
  |exact .out ⟨0,rfl,.inl rfl,fun h=>absurd rfl h⟩
  |exact .out ⟨1,rfl,.inr rfl,fun _=> ⟨J,J,J,J,J,fun h4=>by first |omega|exact⟨J,J,by assumption⟩⟩⟩
  |refine .ite (fun _=>?_) (fun _=>?_)
section
variable {d0 d1:D} (h0:Wd (.sl 3) d0) (U:Wd (.sl 4) d1)
include U
theorem zp (hx: ∀x y:Int,x=y->True): ∀(j i:Nat),i+j=d1.l.length->dw 453 [enc d1,(d1.l.length:Int),(i:Int),enc d0] (yO d0 d1)
 |0,i,hi=>by
  have c1: ¬(i:Int)<(d1.l.length:Int):=J
  refine dw.of ?_;rw [agw];simp only [aeY,zz,c1];exact .out ⟨120,rfl,.inr rfl,fun h=>by omega⟩
 |j+1,i,hi=>by
  have Y:=U.len;have c1:(i:Int)<(d1.l.length:Int):=J
  have c2: ¬((i:Int)<0):=J
  have w:=bO (n:=i) J;refine dw.of ?_;rw [agw];simp only [aeY,zz,c1,c2];refine .jump (dw.of ?_);rw [agu];simp only [aeW,zz,w];exact .ite (fun _=> .jump (zp hx j (i+1) J)) fun _=> .jump (zp hx j (i+1) J)
theorem I5 (i:Nat) (hi:i<d1.l.length) (j:Nat) (hj:i+1+j=d1.l.length) (x0 x5 x6 x7:Int):dw 455 [x0,enc d1,(d1.l.length:Int),(i:Int),enc d0,x5,x6,x7] (yO d0 d1):=by have Y:=U.len;have w:=bO (n:=i) J;refine dw.of ?_;rw [agu];simp only [aeW,zz,w];exact .ite (fun _=> .jump (zp U (fun _ _ _=>trivial) j (i+1) J)) fun _=> .jump (zp U (fun _ _ _=>trivial) j (i+1) J)
theorem Lw (hg:mF d0 d1): ∀(j i:Nat),i+j=d1.l.length->(∀(n:Nat) (h:n<d1.l.length),n<i->JN d0 d1.l[n])->dw 454 [enc d1,(d1.l.length:Int),(i:Int),enc d0] (yO d0 d1)
 |0,i,hi,hp=>by
  have c1: ¬(i:Int)<(d1.l.length:Int):=J
  refine dw.of ?_;rw [agv];simp only [aeX,zz,c1];refine .out ⟨0,rfl,.inl rfl,fun _=> ⟨hg,fun x hx=>?_⟩⟩;obtain⟨n,hn,rfl⟩:=anL hx;exact hp n hn J
 |j+1,i,hi,hp=>by
  have Y:=U.len;have dK:i<d1.l.length:=J
  have c1:(i:Int)<(d1.l.length:Int):=J
  have c2: ¬((i:Int)<0):=J
  have w:=bO (n:=i) J;obtain⟨xY,lc,cd,he,hn,hlc,Su⟩:=zq U dK;have DK:=Su.len;have e1:(d1.l[i]).W 1=lc:=by rw [he,eT]; rfl
  have e2:(d1.l[i]).W 2=cd:=by rw [he,eT]; rfl
  have loop: ∀(m k:Nat),k+m=cd.l.length->(∀(n:Nat) (h:n<cd.l.length),n<k->OkJ d0 lc.l.length cd.l.length ((cd.l[n]).W 0).n ((cd.l[n]).W 1).n ((cd.l[n]).W 2).n ((cd.l[n]).W 3).n ((cd.l[n]).W 4).n ((cd.l[n]).W 6).l.length)->dw 456 [(k:Int),enc d1,(d1.l.length:Int),(i:Int),enc d0,enc xY,enc lc,enc cd] (yO d0 d1):=by
   intro m
   induction m with
   |zero=>
    intro k hk hq;have c3: ¬(k:Int)<(cd.l.length:Int):=J
    have ih:=Lw hg j (i+1) J fun n hn hni=>by
     by_cases gb:n=i
     ·subst gb;unfold JN;rw [e1,e2];intro y hy;obtain⟨z,hz,rfl⟩:=anL hy;exact hq z hz J
     ·exact hp n hn J
    refine dw.of ?_;rw [agt];simp only [aeV,zz,c3,w];exact .jump ih
   |succ m ihm=>
    intro k hk hq;have Pl:k<cd.l.length:=J
    have c3:(k:Int)<(cd.l.length:Int):=J
    have c4: ¬((k:Int)<0):=J
    have w2:=bO (n:=k) J;obtain⟨a,b,c,e,f,g,GF,Ao,_,_,_,_,_,_,has⟩:=Pa Su Pl;have k7:=has.room
    have V1:GF.l.length<=2513169434915:=by have:tu 6=56:=rfl;rw [this] at k7;omega
    obtain⟨ys,hM,q,rfl,amK,hqI⟩:=aaN d0 d1 lc cd GF (enc xY) a b c e f g V1;obtain⟨ys,hX,r,rfl,_⟩:=Vc GF lc (enc xY) (enc cd) has;refine dw.of ?_;rw [agt];simp only [aeV,zz,c3,c4,bT Pl,Ao,zg,hM,hX,w2];refine .ite (fun _=> .jump (I5 U i dK j J _ _ _ _)) fun hq0=> .ite (fun _=> .jump (ihm (k+1) J fun n hn hnk=>?_)) fun _=> .jump (I5 U i dK j J _ _ _ _);by_cases gb:n=k
    ·subst gb;simp only [Ao,zg];exact hqI J
    ·exact hq n hn J
  refine dw.of ?_;rw [agv];simp only [aeX,zz,c1,c2,bT dK,he,zg];exact .ite (fun _=> .jump (I5 U i dK j J _ _ _ _)) fun _=> .ite (fun _=> .jump (I5 U i dK j J _ _ _ _)) fun _=> .jump (loop cd.l.length 0 J fun n hn h=>absurd h J)
include h0
theorem DC: ∀(j i:Nat),i+j=d0.l.length->dw 451 [enc d0,(d0.l.length:Int),(i:Int),enc d1] (yO d0 d1)
 |0,i,hi=>by
  have c1: ¬(i:Int)<(d0.l.length:Int):=J
  refine dw.of ?_;rw [agy];simp only [ae0,zz,c1];exact .jump (zp U (fun _ _ _=>trivial) d1.l.length 0 J)
 |j+1,i,hi=>by
  have Y:=h0.len;have c1:(i:Int)<(d0.l.length:Int):=J
  have c2: ¬((i:Int)<0):=J
  have w:=bO (n:=i) J;refine dw.of ?_;rw [agy];simp only [ae0,zz,c1,c2,w];exact .jump (DC j (i+1) J)
theorem L1 (hs:d0.l.length<=64) (ht:d1.l.length<=16): ∀(j i:Nat),i+j=d0.l.length->(∀(k:Nat) (h:k<d0.l.length),k<i->RM d0 d0.l[k])->dw 452 [enc d0,(d0.l.length:Int),(i:Int),enc d1] (yO d0 d1)
 |0,i,hi,hp=>by
  have c1: ¬(i:Int)<(d0.l.length:Int):=J
  refine dw.of ?_;rw [agx];simp only [aeZ,zz,c1];refine .jump (Lw U ⟨hs,ht,fun x hx=>?_⟩ d1.l.length 0 J fun n hn h=>absurd h J);obtain⟨k,hk,rfl⟩:=anL hx;exact hp k hk J
 |j+1,i,hi,hp=>by
  have dK:i<d0.l.length:=J
  have c1:(i:Int)<(d0.l.length:Int):=J
  have c2: ¬((i:Int)<0):=J
  have w:=bO (n:=i) J;obtain⟨ys,hO,b,rfl,_,GA⟩:=UI d0 (enc d1) ((d0.l[i]).W 0).n (enc ((d0.l[i]).W 1)) ((d0.l[i]).W 2).n (enc ((d0.l[i]).W 3)) ((d0.l[i]).W 4).n;refine dw.of ?_;rw [agx];simp only [aeZ,zz,c1,c2,w,bT dK,hO];refine .ite (fun _=> .jump (DC h0 U j (i+1) J)) fun hb=> .jump (L1 hs ht j (i+1) J fun k hk L!=>?_);by_cases hke:k=i
  ·subst hke;exact GA hb
  ·exact hp k hk J
theorem za:dw 450 [enc d0,enc d1] (yO d0 d1):=by
 refine dw.of ?_;rw [aj1];simp only [ah6,zz]
 exact .ite (fun _=> .jump (DC h0 U d0.l.length 0 J)) fun ha=> .ite (fun _=> .jump (DC h0 U d0.l.length 0 J)) fun hb=>
  .jump (L1 h0 U J J d0.l.length 0 J fun k hk L!=>by omega)
theorem tp:dw 450 [enc d0,enc d1] (aiX d0 d1):=(za h0 U).mono fun ys ⟨b,e,q,h⟩=> ⟨b,e,q,fun hb=> ⟨(h hb).1,fun x hx y hy=>((h hb).2 x hx y hy).1⟩⟩
end
def one (ys:List Int):Prop:= ∃k:Int,ys= [k]
theorem ahK {o:Int} (h:dV .u8 o):IntKind.i64.wrap o=o:=me (by have:=h.1; omega) (by have:=h.2; omega)
theorem Yy (a b c d e:Int):dw 650 [a,b,c,d,e] (fun ys=> ∃k l:Int,ys= [k,l]/\(l=0\/l=1)):=by
 refine dw.of ?_;rw [abf];simp only [X?,zz]
 repeat' first |exact .out ⟨_,_,rfl,.inl rfl⟩|exact .out ⟨_,_,rfl,.inr rfl⟩|refine .ite (fun _=>?_) (fun _=>?_)
theorem He (r:D) (Y:r.l.length<=140737488351232) (x0 x4 x5 x6 x7 x8 x9 K8 x11 x12:Int) (v:D): ∀(j i:Nat) (x14:Int),i+j=r.l.length->
 dw 501 [x0,enc r,(r.l.length:Int),(i:Int),x4,x5,x6,x7,x8,x9,K8,x11,x12,enc v,x14] yP
 |0,i,x14,hi=>by
  have c1: ¬(i:Int)<(r.l.length:Int):=J
  refine dw.of ?_;rw [Vo];simp only [Oq,zz,c1]
  repeat' first |exact .out tW|exact .out tV|refine .ite (fun _=>?_) (fun _=>?_)
 |j+1,i,x14,hi=>by
  have c1:(i:Int)<(r.l.length:Int):=J
  have c2: ¬((i:Int)<0):=J
  have w:=bO (n:=i) J;have ih:=fun x=>He r Y x0 x4 x5 x6 x7 x8 x9 K8 x11 x12 v j (i+1) x J;refine dw.of ?_;rw [Vo];simp only [Oq,zz,c1,c2,w]
  repeat' first |exact .out tW|exact .out tV|exact .jump (ih _)|refine .ite (fun _=>?_) (fun _=>?_)
theorem OI (x0 x1 x2 x3 x4 x5 x6 x7 x8 x11:Int) (r v:D) (Y:r.l.length<=140737488351232):dw 500 [x0,x1,x2,x3,x4,x5,x6,x7,x8,enc r,enc v,x11] yP:=by
 obtain⟨ys,hM,a,b,rfl,hb⟩:=Yy x0 x1 x2 x3 x4;have ih:=He r Y x11 x0 x1 x2 x3 x4 x5 x6 x7 x8 v r.l.length 0 (enc (.i 0)) J;refine dw.of ?_;rw [abg];simp only [Xc,zz,hM]
 repeat' first |exact .out tW|exact .out tV|exact .jump ih|refine .ite (fun _=>?_) (fun _=>?_)
theorem ec {d:D} (W:d=dL d.l) {i:Nat} (hi:i<d.l.length):dL (eV d.l (i:Int) d.l[i])=d:=by rw [oD,List.set_getElem_self,<- W]
theorem Bw (a b c d e f x:D):eV [a,b,c,d,e,f] 4 x= [a,b,c,d,x,f]:=rfl
theorem Bv (a b c d e f x:D):eV [a,b,c,d,e,f] 5 x= [a,b,c,d,e,x]:=rfl
theorem ja: ¬(enc (.i 2)=enc (.i 1)):=fun h=>by have:=ew h; simp at this
theorem ik:(((D.i 1).l.length:Nat):Int)=0:=rfl
theorem jc:(((D.i 2).l.length:Nat):Int)=0:=rfl
theorem pe: ¬((0:Int)<0):=J
theorem cf {r:D} (h:Wd (.sl 0) r):r= .i 1\/r= .i 2\/((0:Int)<(r.l.length:Int)/\(r.l.length:Int)<17592186044416):=by
 rcases h.sh with U|U|⟨U,Z⟩
 ·grind
 ·grind
 ·have hr:=h.room;have h3:tu 0=8:=rfl;rw [h3] at hr;have:=ani.2 Z
  grind
structure Th (d:D):Prop where
 wd:Wd (.sl 7) d
 sh:d=dL d.l
 kr:d.l.length<=1759218604390
theorem uV {d:D} (h:Wd (.sl 7) d) (hn:0<d.l.length):Th d:=by
 refine⟨h,?_,?_⟩
 ·rcases h.sh with rfl|rfl|⟨U,_⟩
  all_goals grind [D.l]
 ·have hr:=h.room
  grind [tu]
theorem IE (d:D) (h:Th d): ∀(j i:Nat),i+j=d.l.length->L 551 [enc d,(d.l.length:Int),(i:Int)]=some [enc d]
 |0,i,hi=>by simp_all [bP,agr,aeU,zz,fin]
 |j+1,i,hi=>by
  have Y:=h.kr;have dK:i<d.l.length:=J
  have c1:(i:Int)<(d.l.length:Int):=J
  have c2: ¬((i:Int)<0):=J
  have w:=bO (n:=i) J;have ih:=IE d h j (i+1) J;obtain⟨o,c,dn,g,r,v,he,_,_,_,_,hr,hv⟩:=h.wd.mO _ (aF dK);have hs:=ec h.sh dK;rw [he] at hs;rw [bP,agr];rcases cf hr with rfl|rfl|⟨r1,r2⟩ <;>rcases cf hv with rfl|rfl|⟨v1,v2⟩
  all_goals
   simp only [aeU,zz,c1,c2,w,bT dK,he,eT,bE,aM,aN,Bw,Bv,hs,ik,jc,pe,ja]
   try simp only [r1,r2,zz]
   try simp only [v1,v2,zz]
   try simp only [fin]
   exact ih
theorem t? (d:D) (h:Wd (.sl 7) d):L 550 [enc d]=some [enc d]:=by
 rw [bP,aj0];rcases h.sh with rfl|rfl|⟨U,Z⟩
 ·simp only [Y_,zz,ik,pe,fin];rw [bP,ajZ];rfl
 ·simp only [Y_,zz,jc,pe,ja,fin];rw [bP,ajY];rfl
 ·have hp:=ani.2 Z;have ht:=uV h hp;have Y:=ht.kr;have c1:(0:Int)<(d.l.length:Int):=J
  have c2:(d.l.length:Int)<1759218604441:=J
  simp only [Y_,zz,c1,c2,fin];exact IE d ht d.l.length 0 J
theorem II (d:D) (h:Th d) (gi:Nat) (x4 x5 x6 x7 x8 x9:Int): ∀(j i:Nat),gi<i->i+j=d.l.length->L 9004 [(gi:Int),enc d,(d.l.length:Int),(i:Int),x4,x5,x6,x7,x8,x9]=some [3,(gi:Int),enc d,x4,x5,x6,x7,x8,x9]
 |0,i,hg,hi=>by simp_all [bP,Z0,W6,zz,fin]
 |j+1,i,hg,hi=>by
  have Y:=h.kr;have dK:i<d.l.length:=J
  have c1:(i:Int)<(d.l.length:Int):=J
  have c2: ¬((i:Int)<0):=J
  have c0: ¬((i:Int)=(gi:Int)):=J
  have w:=bO (n:=i) J;have ih:=II d h gi x4 x5 x6 x7 x8 x9 j (i+1) J J;obtain⟨o,c,dn,g,r,v,he,_,_,_,_,hr,hv⟩:=h.wd.mO _ (aF dK);have hs:=ec h.sh dK;rw [he] at hs;rw [bP,Z0];rcases cf hr with rfl|rfl|⟨r1,r2⟩ <;>rcases cf hv with rfl|rfl|⟨v1,v2⟩
  all_goals
   simp only [W6,zz,c0,c1,c2,w,bT dK,he,eT,bE,aM,aN,Bw,Bv,hs,ik,jc,pe,ja]
   try simp only [r1,r2,zz]
   try simp only [v1,v2,zz]
   try simp only [fin]
   exact ih
theorem IH (d:D) (h:Th d) (gi:Nat) (x4 x5 x6 x7 x8 x9:Int): ∀(j i:Nat),gi<i->i+j=d.l.length->L 9005 [(gi:Int),enc d,(d.l.length:Int),(i:Int),x4,x5,x6,x7,x8,x9]=some [4,(gi:Int),enc d,x4,x5,x6,x7,x8,x9]
 |0,i,hg,hi=>by simp_all [bP,ZZ,W5,zz,fin]
 |j+1,i,hg,hi=>by
  have Y:=h.kr;have dK:i<d.l.length:=J
  have c1:(i:Int)<(d.l.length:Int):=J
  have c2: ¬((i:Int)<0):=J
  have c0: ¬((i:Int)=(gi:Int)):=J
  have w:=bO (n:=i) J;have ih:=IH d h gi x4 x5 x6 x7 x8 x9 j (i+1) J J;obtain⟨o,c,dn,g,r,v,he,_,_,_,_,hr,hv⟩:=h.wd.mO _ (aF dK);have hs:=ec h.sh dK;rw [he] at hs;rw [bP,ZZ];rcases cf hr with rfl|rfl|⟨r1,r2⟩ <;>rcases cf hv with rfl|rfl|⟨v1,v2⟩
  all_goals
   simp only [W5,zz,c0,c1,c2,w,bT dK,he,eT,bE,aM,aN,Bw,Bv,hs,ik,jc,pe,ja]
   try simp only [r1,r2,zz]
   try simp only [v1,v2,zz]
   try simp only [fin]
   exact ih
theorem IG (d:D) (h:Th d) (gi:Nat) (x4 x5 x6 x7 x8 x9:Int): ∀(j i:Nat),gi<i->i+j=d.l.length->L 9006 [(gi:Int),enc d,(d.l.length:Int),(i:Int),x4,x5,x6,x7,x8,x9]=some [5,(gi:Int),enc d,x4,x5,x6,x7,x8,x9]
 |0,i,hg,hi=>by simp_all [bP,ZY,W4,zz,fin]
 |j+1,i,hg,hi=>by
  have Y:=h.kr;have dK:i<d.l.length:=J
  have c1:(i:Int)<(d.l.length:Int):=J
  have c2: ¬((i:Int)<0):=J
  have c0: ¬((i:Int)=(gi:Int)):=J
  have w:=bO (n:=i) J;have ih:=IG d h gi x4 x5 x6 x7 x8 x9 j (i+1) J J;obtain⟨o,c,dn,g,r,v,he,_,_,_,_,hr,hv⟩:=h.wd.mO _ (aF dK);have hs:=ec h.sh dK;rw [he] at hs;rw [bP,ZY];rcases cf hr with rfl|rfl|⟨r1,r2⟩ <;>rcases cf hv with rfl|rfl|⟨v1,v2⟩
  all_goals
   simp only [W4,zz,c0,c1,c2,w,bT dK,he,eT,bE,aM,aN,Bw,Bv,hs,ik,jc,pe,ja]
   try simp only [r1,r2,zz]
   try simp only [v1,v2,zz]
   try simp only [fin]
   exact ih
theorem IF (d:D) (h:Th d) (gi:Nat) (x4 x5 x6 x7 x8 x9:Int): ∀(j i:Nat),gi<i->i+j=d.l.length->L 9007 [(gi:Int),enc d,(d.l.length:Int),(i:Int),x4,x5,x6,x7,x8,x9]=some [6,(gi:Int),enc d,x4,x5,x6,x7,x8,x9]
 |0,i,hg,hi=>by simp_all [bP,ZX,W3,zz,fin]
 |j+1,i,hg,hi=>by
  have Y:=h.kr;have dK:i<d.l.length:=J
  have c1:(i:Int)<(d.l.length:Int):=J
  have c2: ¬((i:Int)<0):=J
  have c0: ¬((i:Int)=(gi:Int)):=J
  have w:=bO (n:=i) J;have ih:=IF d h gi x4 x5 x6 x7 x8 x9 j (i+1) J J;obtain⟨o,c,dn,g,r,v,he,_,_,_,_,hr,hv⟩:=h.wd.mO _ (aF dK);have hs:=ec h.sh dK;rw [he] at hs;rw [bP,ZX];rcases cf hr with rfl|rfl|⟨r1,r2⟩ <;>rcases cf hv with rfl|rfl|⟨v1,v2⟩
  all_goals
   simp only [W3,zz,c0,c1,c2,w,bT dK,he,eT,bE,aM,aN,Bw,Bv,hs,ik,jc,pe,ja]
   try simp only [r1,r2,zz]
   try simp only [v1,v2,zz]
   try simp only [fin]
   exact ih
def mw (r v:D):Int:=if 0<r.l.length then (if 0<v.l.length then 3 else 4) else (if 0<v.l.length then 5 else 6)
theorem aea (d:D) (h:Th d) (gi:Nat) (yc:gi<d.l.length) (o c dn g:Int) (r v:D) (xm:d.l[gi]=dL [.i o,.i c,.i dn,.i g,r,v]): ∀(j i:Nat),i<=gi->i+j=gi->
 L 9001 [(gi:Int),enc d,(d.l.length:Int),(i:Int)]=some [mw r v,(gi:Int),enc d,o,c,dn,g,enc r,enc v]
 |0,i,hg,hi=>by
  obtain rfl:i=gi:=J
  have Y:=h.kr;have c1:(i:Int)<(d.l.length:Int):=J
  have c2: ¬((i:Int)<0):=J
  have w:=bO (n:=i) J;obtain⟨o',c',gK,g',r',v',he,_,_,_,_,hr,hv⟩:=h.wd.mO _ (aF yc);rw [xm] at he;have he:=yZ he;simp only [List.cons.injEq,D.i.injEq,and_true] at he;obtain⟨rfl,rfl,rfl,rfl,rfl,rfl⟩:=he;have b4:=fun a b=>II d h i o c dn g a b (d.l.length-(i+1)) (i+1) J J;have b5:=fun a b=>IH d h i o c dn g a b (d.l.length-(i+1)) (i+1) J J;have b6:=fun a b=>IG d h i o c dn g a b (d.l.length-(i+1)) (i+1) J J;have b7:=fun a b=>IF d h i o c dn g a b (d.l.length-(i+1)) (i+1) J J;rw [bP,Nf];rcases cf hr with rfl|rfl|⟨r1,r2⟩
  ·rcases cf hv with rfl|rfl|⟨v1,v2⟩
   ·simp only [sG,zz,c1,c2,w,bT yc,xm,eT,bE,aM,aN,ik,pe,fin,b7]
    grind [mw,D.l]
   ·simp only [sG,zz,c1,c2,w,bT yc,xm,eT,bE,aM,aN,ik,pe,jc,ja,fin,b7]
    grind [mw,D.l]
   ·simp only [sG,zz,c1,c2,w,bT yc,xm,eT,bE,aM,aN,ik,pe,v1,v2,fin,b6]
    grind [mw,D.l]
  ·rcases cf hv with rfl|rfl|⟨v1,v2⟩
   ·simp only [sG,zz,c1,c2,w,bT yc,xm,eT,bE,aM,aN,jc,pe,ja,ik,fin,b7]
    grind [mw,D.l]
   ·simp only [sG,zz,c1,c2,w,bT yc,xm,eT,bE,aM,aN,jc,pe,ja,fin,b7]
    grind [mw,D.l]
   ·simp only [sG,zz,c1,c2,w,bT yc,xm,eT,bE,aM,aN,jc,pe,ja,v1,v2,fin,b6]
    grind [mw,D.l]
  ·rcases cf hv with rfl|rfl|⟨v1,v2⟩
   ·simp only [sG,zz,c1,c2,w,bT yc,xm,eT,bE,aM,aN,r1,r2,ik,pe,fin,b5]
    grind [mw,D.l]
   ·simp only [sG,zz,c1,c2,w,bT yc,xm,eT,bE,aM,aN,r1,r2,jc,pe,ja,fin,b5]
    grind [mw,D.l]
   ·simp only [sG,zz,c1,c2,w,bT yc,xm,eT,bE,aM,aN,r1,r2,v1,v2,fin,b4]
    grind [mw]
 |j+1,i,hg,hi=>by
  have Y:=h.kr;have dK:i<d.l.length:=J
  have c1:(i:Int)<(d.l.length:Int):=J
  have c2: ¬((i:Int)<0):=J
  have c0: ¬((i:Int)=(gi:Int)):=J
  have w:=bO (n:=i) J;have ih:=aea d h gi yc o c dn g r v xm j (i+1) J J;clear xm;obtain⟨o2,N9,Lg,g2,r2',v2',he,_,_,_,_,hr,hv⟩:=h.wd.mO _ (aF dK);have hs:=ec h.sh dK;rw [he] at hs;rw [bP,Nf];rcases cf hr with rfl|rfl|⟨r1,r2⟩ <;>rcases cf hv with rfl|rfl|⟨v1,v2⟩
  all_goals
   simp only [sG,zz,c0,c1,c2,w,bT dK,he,eT,bE,aM,aN,Bw,Bv,hs,ik,jc,pe,ja]
   try simp only [r1,r2,zz]
   try simp only [v1,v2,zz]
   try simp only [fin]
   exact ih
theorem ad9 (d:D) (h:Th d) (gi:Nat) (yc:gi<d.l.length) (o c dn g:Int) (r v:D) (xm:d.l[gi]=dL [.i o,.i c,.i dn,.i g,r,v]) :
 L 9000 [(gi:Int),enc d]=some [mw r v,(gi:Int),enc d,o,c,dn,g,enc r,enc v]:=by
 have Y:=h.kr;have c1:(0:Int)<(d.l.length:Int):=J
 have c2:(d.l.length:Int)<1759218604441:=J
 rw [bP,Z1];simp only [Lx,zz,c1,c2,fin];exact aea d h gi yc o c dn g r v xm gi 0 J J
theorem F8 (d:D) (h:Th d) (x:Int) (hx:x<0\/(d.l.length:Int)<=x): ∀(j i:Nat),i+j=d.l.length->L 9001 [x,enc d,(d.l.length:Int),(i:Int)]=some [0,x,enc d]
 |0,i,hi=>by simp_all [bP,Nf,sG,zz,fin]
 |j+1,i,hi=>by
  have Y:=h.kr;have dK:i<d.l.length:=J
  have c1:(i:Int)<(d.l.length:Int):=J
  have c2: ¬((i:Int)<0):=J
  have c0: ¬((i:Int)=x):=J
  have w:=bO (n:=i) J;have ih:=F8 d h x hx j (i+1) J;obtain⟨o,c,dn,g,r,v,he,_,_,_,_,hr,hv⟩:=h.wd.mO _ (aF dK);have hs:=ec h.sh dK;rw [he] at hs;rw [bP,Nf];rcases cf hr with rfl|rfl|⟨r1,r2⟩ <;>rcases cf hv with rfl|rfl|⟨v1,v2⟩
  all_goals
   simp only [sG,zz,c0,c1,c2,w,bT dK,he,eT,bE,aM,aN,Bw,Bv,hs,ik,jc,pe,ja]
   try simp only [r1,r2,zz]
   try simp only [v1,v2,zz]
   try simp only [fin]
   exact ih
theorem aj6 (d:D) (h:Wd (.sl 7) d) (x:Int) (hx:x<0\/(d.l.length:Int)<=x):dw 9000 [x,enc d] (fun ys=>ys= [0,x,enc d]\/(ys= [1,x]/\d= .i 1)\/(ys= [2,x]/\d= .i 2)):=by
 refine dw.of ?_;rw [Z1];rcases h.sh with rfl|rfl|⟨U,Z⟩
 ·simp only [Lx,zz,ik,pe];refine .jump (dw.of ?_);rw [adj];simp only [ab4,zz];exact .ite (fun _=> .out (.inr (.inl rfl))) fun _=> .out (.inr (.inl rfl))
 ·simp only [Lx,zz,jc,pe,ja];refine .jump (dw.of ?_);rw [adi];simp only [ab3,zz];exact .ite (fun _=> .out (.inr (.inr rfl))) fun _=> .out (.inr (.inr rfl))
 ·have hp:=ani.2 Z;have ht:=uV h hp;have Y:=ht.kr;have c1:(0:Int)<(d.l.length:Int):=J
  have c2:(d.l.length:Int)<1759218604441:=J
  simp only [Lx,zz,c1,c2];exact .jump ⟨_,F8 d ht x hx d.l.length 0 J,.inl rfl⟩
def aae (d x:D) (m:Nat):List Int:=[(d.W 0).n,enc (d.W 1),(d.W 2).n,enc (d.W 3),(d.W 4).n,(x.W 0).n,(x.W 1).n,(if (x.W 2).n=0 then 0 else 1),(x.W 3).n,enc (x.W 4),enc (x.W 5),(m:Int)]
def Snd (d x:D) (m:Nat):Prop:=L 500 (aae d x m)=some [1]
theorem aad (d x:D) (m:Nat) (h:(x.W 4).l.length<=140737488351232): ∃c,L 500 (aae d x m)=some [c]/\(c=0\/c=1):=by obtain⟨ys,U,c,rfl,hc⟩:=OI (d.W 0).n (enc (d.W 1)) (d.W 2).n (enc (d.W 3)) (d.W 4).n (x.W 0).n (x.W 1).n (if (x.W 2).n=0 then 0 else 1) (x.W 3).n (m:Int) (x.W 4) (x.W 5) h;exact⟨c,U,hc⟩
theorem bI:((1:Int)=0)=False:=ae
def BD (s:D):Prop:= ∀x∈s.l,(x.W 4).l.length<=140737488351232
section
variable {d0 d1 s:D} (hr:BD s) (hle:s.l.length=d0.l.length) (hlen:d0.l.length<=140737488351232)
include hr hle hlen
theorem Eu: ∀(j i:Nat),i+j=s.l.length->∃b:Int,L 351 [enc s,(s.l.length:Int),(i:Int),enc d0,enc d1]=some [b]/\(b=0\/b=1)/\
 (b=1↔∀(k:Nat) (hk:k<s.l.length),i<=k->Snd (d0.l[k]'(hle▸hk)) s.l[k] d1.l.length)
 |0,i,hi=>by
  have c1: ¬(i:Int)<(s.l.length:Int):=J
  refine⟨1,?_,.inr rfl,fun _ k hk h=>absurd hk J,fun _=>rfl⟩;rw [bP,abh];simp only [Ub,zz,c1,fin]
 |j+1,i,hi=>by
  have dK:i<s.l.length:=J
  have hid:i<d0.l.length:=J
  have c1:(i:Int)<(s.l.length:Int):=J
  have c2: ¬((i:Int)<0):=J
  have c3:(i:Int)<(d0.l.length:Int):=J
  have w:=bO (n:=i) J;obtain⟨c,hS,hc⟩:=aad d0.l[i] s.l[i] d1.l.length (hr _ (aF dK));obtain⟨b,Sv,rU,ih⟩:=Eu j (i+1) J;have hS':=hS;unfold aae at hS;by_cases hc0:c=0
  ·subst hc0;refine⟨0,?_,.inl rfl,fun h=>absurd h J,fun h=>?_⟩
   ·rw [bP,abh];by_cases hn:((s.l[i]).W 2).n=0
    ·rw [an hn] at hS;simp only [Ub,zz,c1,c2,c3,w,bT dK,bT hid,hn,hS,fin]
    ·rw [ak hn] at hS;simp only [Ub,zz,c1,c2,c3,w,bT dK,bT hid,hn,hS,fin]
   ·have:=h i dK (az i);unfold Snd at this
    grind
  ·have Ia:c=1:=J
   subst Ia;refine⟨b,?_,rU,fun h k hk hik=>?_,fun h=>ih.2 fun k hk hik=>h k hk J⟩
   ·rw [bP,abh];by_cases hn:((s.l[i]).W 2).n=0
    ·rw [an hn] at hS;simp only [Ub,zz,c1,c2,c3,w,bT dK,bT hid,hn,hS,fin,bI,Sv]
    ·rw [ak hn] at hS;simp only [Ub,zz,c1,c2,c3,w,bT dK,bT hid,hn,hS,fin,bI,Sv]
   ·by_cases hke:k=i
    ·subst hke;exact hS'
    grind
end
theorem kT {d0 d1 s:D} (h0:Wd (.sl 3) d0) (U:Wd (.sl 4) d1) (hr:BD s): ∃b:Int,L 350 [enc d0,enc d1,enc s]=some [b]/\(b=0\/b=1)/\
 (b=1↔L 450 [enc d0,enc d1]=some [0]/\∃hle:s.l.length=d0.l.length,∀(k:Nat) (hk:k<s.l.length),Snd (d0.l[k]'(hle▸hk)) s.l[k] d1.l.length):=by
 obtain⟨ys,hC,c,rfl,hc,pf⟩:=tp h0 U;by_cases hc0:c=0
 ·subst hc0;by_cases Y:s.l.length=d0.l.length
  ·have hlen:=h0.len;obtain⟨b,Sv,rU,hb3⟩:=Eu (d1:=d1) hr Y hlen s.l.length 0 J;refine⟨b,?_,rU,fun h=> ⟨hC,Y,fun k hk=>hb3.1 h k hk J⟩,fun⟨_,_,h⟩=>hb3.2 fun k hk _=>h k hk⟩;have vy:(s.l.length:Int)=(d0.l.length:Int):=J
   rw [bP,abi,Y',eh,an,eh,an,eh,an,lY]
   ·simp only [List.map,cU,gp,gO,bQ,Nat.reduceLT,bM,bN,bD,fin]
    grind
   ·simp only [gE,lO,cU,fW,gA,gp,List.map,gO,bQ,Nat.reduceLT,bM,bN,bD]
    grind
   ·simp only [gE,lO,cU,fW,gA,gp,List.map,gO,bQ,Nat.reduceLT,bM,bN,bD];rw [hC];simp only [bM,bN,aO,ay,if_true]
   ·simp only [gE,lO,cU,fW,gA,gp,List.map,gO,bQ,Nat.reduceLT,bM,bN,bD]
    grind
  ·refine⟨0,?_,.inl rfl,fun h=>absurd h J,fun⟨_,h,_⟩=>absurd h Y⟩;have vy: ¬(s.l.length:Int)=(d0.l.length:Int):=J
   rw [bP,abi,Y',eh,an,eh,an,eh,ak]
   ·simp only [iO,List.map,cU,fin]
   ·simp only [gE,lO,cU,fW,gA,gp,List.map,gO,bQ,Nat.reduceLT,bM,bN,bD]
    grind
   ·simp only [gE,lO,cU,fW,gA,gp,List.map,gO,bQ,Nat.reduceLT,bM,bN,bD];rw [hC];simp only [bM,bN,aO,ay,if_true]
   ·simp only [gE,lO,cU,fW,gA,gp,List.map,gO,bQ,Nat.reduceLT,bM,bN,bD]
    grind
 ·refine⟨0,?_,.inl rfl,fun h=>absurd h J,fun⟨h,_⟩=>?_⟩
  ·rw [bP,abi,Y',eh,an,eh,ak]
   ·simp only [iO,List.map,cU,fin]
   ·simp only [gE,lO,cU,fW,gA,gp,List.map,gO,bQ,Nat.reduceLT,bM,bN,bD];rw [hC];simp only [bM,bN,aO,ay,if_true]
    grind
   ·simp only [gE,lO,cU,fW,gA,gp,List.map,gO,bQ,Nat.reduceLT,bM,bN,bD]
    grind
  grind
def OkT (d0:D) (nl nc:Nat) (a:Int) (ll:Nat) (w o g t:Int):Prop:=
 0<=a/\a<=(nc:Int)/\(ll:Int)=(nl:Int)/\0<=t/\t<=4611686018427387904/\
  (w=0/\o=0/\g=0\/w=24/\0<=o/\o<(d0.l.length:Int)/\((d0.at o).W 0).n=4\/w=25/\0<=o/\o<(d0.l.length:Int)/\((d0.at o).W 0).n=5)
def UR (p:Prop) (ys:List Int):Prop:= ∃b:Int,ys= [b]/\(b=0/\¬p\/b=1/\p)
theorem Ac {p:Prop} (h: ¬p):UR p [0]:=⟨0,rfl,.inl ⟨rfl,h⟩⟩
theorem Sc {p:Prop} (h:p):UR p [1]:=⟨1,rfl,.inr ⟨rfl,h⟩⟩
theorem W! (d0 d3 d4 d6:D) (x1 x2 x5 x7 x8 x9 K8:Int):dw 1600 [enc d0,x1,x2,enc d3,enc d4,x5,enc d6,x7,x8,x9,K8] (UR (OkT d0 d3.l.length d4.l.length x5 d6.l.length x7 x8 x9 K8)):=by
 unfold OkT;refine dw.of ?_;rw [adU];simp only [acw,zz]
 repeat' first
  |exact .out (Ac J)
  |exact .out (Sc J)
  |refine .ite (fun _=>?_) (fun _=>?_)
def OkK (d0 x k:D):Prop:=OkT d0 (x.W 1).l.length (x.W 2).l.length (k.W 0).n (k.W 1).l.length (k.W 2).n (k.W 3).n (k.W 4).n (k.W 5).n
section
variable {d0 d1 k:D} (hle:k.l.length=d1.l.length) (hlen:d1.l.length<=140737488351232)
include hle hlen
theorem CI: ∀(j i:Nat),i+j=k.l.length->dw 1501 [enc k,(k.l.length:Int),(i:Int),enc d0,enc d1] (UR (∀(n:Nat) (hn:n<k.l.length),i<=n->OkK d0 (d1.l[n]'(hle▸hn)) k.l[n]))
 |0,i,hi=>by
  have c1: ¬(i:Int)<(k.l.length:Int):=J
  refine dw.of ?_;rw [d?];simp only [Xo,zz,c1];exact .out (Sc fun n hn h=>by omega)
 |j+1,i,hi=>by
  have dK:i<k.l.length:=J
  have hid:i<d1.l.length:=J
  have c1:(i:Int)<(k.l.length:Int):=J
  have c2: ¬((i:Int)<0):=J
  have c3:(i:Int)<(d1.l.length:Int):=J
  have w:=bO (n:=i) J;obtain⟨ys,hT,b,rfl,hb⟩:=W! d0 ((d1.l[i]).W 1) ((d1.l[i]).W 2) ((k.l[i]).W 1) (enc d1) (enc ((d1.l[i]).W 0)) ((k.l[i]).W 0).n ((k.l[i]).W 2).n ((k.l[i]).W 3).n ((k.l[i]).W 4).n ((k.l[i]).W 5).n;obtain⟨ys,ih,b',rfl,JV⟩:=CI j (i+1) J;refine dw.of ?_;rw [d?];simp only [Xo,zz,c1,c2,c3,bT dK,bT hid,w,hT];refine .ite (fun h0=> .out (Ac fun h=>?_)) (fun h0=> .jump ⟨_,ih,b',rfl,?_⟩)
  ·rcases hb with ⟨_,hb⟩|⟨hb,_⟩
   ·exact hb (h i dK (az _))
   ·omega
  ·rcases hb with ⟨hb,_⟩|⟨_,hb⟩
   ·grind
   ·rcases JV with ⟨q,JV⟩|⟨q,JV⟩
    ·grind
    ·refine .inr ⟨q,fun n hn hni=>?_⟩;by_cases he:n=i
     ·subst he; exact hb
     grind
end
def MR (d0 d1 s k:D):Prop:=L 350 [enc d0,enc d1,enc s]=some [1]/\∃hle:k.l.length=d1.l.length,∀(n:Nat) (hn:n<k.l.length),OkK d0 (d1.l[n]'(hle▸hn)) k.l[n]
theorem HM {d0 d1 s k:D} (h0:Wd (.sl 3) d0) (U:Wd (.sl 4) d1) (hr:BD s) (hlen:d1.l.length<=140737488351232):dw 1500 [enc d0,enc d1,enc s,enc k] (UR (MR d0 d1 s k)):=by
 obtain⟨b,hb,Sv,_⟩:=kT h0 U hr;refine dw.of ?_;rw [adW];simp only [acy,zz,hb];refine .ite (fun h=> .out (Ac fun q=>?_)) (fun h=> .ite (fun Y=>?_) (fun Y=> .out (Ac fun q=>?_)))
 ·have:=q.1
  grind
 ·have hle:k.l.length=d1.l.length:=J
  obtain⟨ys,hL,b',rfl,JV⟩:=CI (d0:=d0) hle hlen k.l.length 0 J;refine .jump ⟨_,hL,b',rfl,?_⟩;have xM:b=1:=J
  subst xM;rcases JV with ⟨q,JV⟩|⟨q,JV⟩
  ·exact .inl ⟨q,fun h=>JV fun n hn _=>h.2.2 n hn⟩
  ·exact .inr ⟨q,hb,hle,fun n hn=>JV n hn (ans _)⟩
 ·have:=q.2.1;omega
theorem LM {d0 d1 s k:D} (h0:Wd (.sl 3) d0) (U:Wd (.sl 4) d1) (hr:BD s) (hlen:d1.l.length<=140737488351232) (t:Int):dw 1550 [enc d0,enc d1,enc s,enc k,t] (UR (0<=t/\t<(d1.l.length:Int)/\MR d0 d1 s k)):=by
 obtain⟨ys,hM,b,rfl,hb⟩:=HM h0 U hr hlen (k:=k);refine dw.of ?_;rw [adV];simp only [acx,zz,hM];refine .ite (fun h=> .out (Ac fun q=>by omega)) (fun h=> .ite (fun Z=> .ite (fun h3=> .out (Ac fun q=>?_)) (fun h3=> .out (Sc ?_))) (fun Z=> .out (Ac fun q=>by omega)))
 all_goals grind
def lH (t:Int):List D->Nat->Int
 |[],_=> -1
 |x::l,i=>if x.n=t then (i:Int) else lH t l (i+1)
def place (r:D) (t:Int):Int:=lH t r.l 0
def wo (t:Int) (l:List D):List D:=l.filter fun x=>decide (x.n≠t)
theorem yk (t:Int): ∀(l:List D) (i:Nat),(lH t l i= -1/\∀x∈l,x.n≠t)\/∃(k:Nat) (h:k<l.length),lH t l i=((i+k:Nat):Int)/\(l[k]).n=t/\∀x∈l.take k,x.n≠t
 |[],_=> .inl ⟨rfl,fun x h=>absurd h ae⟩
 |x::l,i=>by
  unfold lH;by_cases hx:x.n=t
  ·grind
  ·rw [ak hx];rcases yk t l (i+1) with ⟨U,Z⟩|⟨k,hk,U,Z,h3⟩
   ·grind
   ·refine .inr ⟨k+1,by simp; omega,by rw [U]; congr 1; omega,by simpa using Z,fun y hy=>?_⟩
    grind
theorem kV (r:D) (t:Int):(place r t= -1/\∀x∈r.l,x.n≠t)\/∃(k:Nat) (h:k<r.l.length),place r t=(k:Int)/\(r.l[k]).n=t/\∀x∈r.l.take k,x.n≠t:=by have:=yk t r.l 0;simp only [aL] at this;exact this
theorem gH (r:D) (t:Int): -1<=place r t/\place r t<(r.l.length:Int):=by
 grind [kV]
theorem Ds {t:Int} {l:List D} (h: ∀x∈l,x.n≠t):wo t l=l:=List.filter_eq_self.2 fun x hx=>by simpa using h x hx
theorem uz {r:D} {t:Int} {i:Nat} (h:i<r.l.length):lH t (r.l.drop i) i=if (r.at (i:Int)).n=t then (i:Int) else lH t (r.l.drop (i+1)) (i+1):=by rw [amX h,bT h];rfl
theorem YW (r:D) (t:Int) (Y:r.l.length<=140737488351232): ∀(j i:Nat),i+j=r.l.length->L 851 [enc r,t,(r.l.length:Int),(i:Int)]=some [lH t (r.l.drop i) i]
 |0,i,hi=>by simp_all [bP,agq,X!,zz,fin,lH]
 |j+1,i,hi=>by
  have c1:(i:Int)<(r.l.length:Int):=J
  have c2: ¬((i:Int)<0):=J
  have w:=bO (n:=i) J;have ih:=YW r t Y j (i+1) J;rw [uz J,bP,agq];by_cases he:(r.at (i:Int)).n=t
  ·simp only [X!,zz,c1,c2,he,fin]
  ·have xm: ¬t=(r.at (i:Int)).n:=fun h=>he h.symm;simp only [X!,zz,c1,c2,ak he,ak xm,w,fin,ih]
theorem dM (r:D) (t:Int) (Y:r.l.length<=140737488351232):L 850 [enc r,t]=some [place r t]:=by have h:=YW r t Y r.l.length 0 J;rw [bP,ajR];simp only [ahW,zz,fin];exact h
theorem dR (r:D) (t:Int) (Y:r.l.length<=140737488351232):L 900 [enc r,t]=some [if place r t<0 then 0 else 1]:=by rw [bP,ajQ];simp only [ahV,zz,dM r t Y];split<;>rfl
theorem Ab (r:D) (t:Int) (Y:r.l.length<=140737488351232) (y2 y3 y4 y5 y6 y7 y8 y9 np nk nj:Int): ∀(j i:Nat),i+j=r.l.length->
 L 12051 [enc r,t,y2,y3,y4,y5,y6,y7,y8,y9,np,nk,nj,(r.l.length:Int),(i:Int)]=some [0,enc r,t,y2,y3,y4,y5,y6,y7,y8,y9,np,nk,nj,lH t (r.l.drop i) i]
 |0,i,hi=>by simp_all [bP,P1,I9,zz,fin,lH]
 |j+1,i,hi=>by
  have c1:(i:Int)<(r.l.length:Int):=J
  have c2: ¬((i:Int)<0):=J
  have w:=bO (n:=i) J;have ih:=Ab r t Y y2 y3 y4 y5 y6 y7 y8 y9 np nk nj j (i+1) J;rw [uz J,bP,P1];by_cases he:(r.at (i:Int)).n=t
  ·simp only [I9,zz,c1,c2,he,fin]
  ·simp only [I9,zz,c1,c2,ak he,w,fin,ih]
theorem aaQ (r:D) (t:Int) (Y:r.l.length<=140737488351232) (y2 y3 y4 y5 y6 y7 y8 y9 np nk nj:Int):L 12050 [enc r,t,y2,y3,y4,y5,y6,y7,y8,y9,np,nk,nj]=some [0,enc r,t,y2,y3,y4,y5,y6,y7,y8,y9,np,nk,nj,place r t]:=by have h:=Ab r t Y y2 y3 y4 y5 y6 y7 y8 y9 np nk nj r.l.length 0 J;rw [bP,o!];simp only [XE,zz,fin];exact h
theorem Aa (r:D) (t:Int) (Y:r.l.length<=140737488351232) (y2 y3 y4 y5 y6 y7 y8 y9 np nk nj:Int): ∀(j i:Nat),i+j=r.l.length->
 L 12151 [enc r,t,y2,y3,y4,y5,y6,y7,y8,y9,np,nk,nj,(r.l.length:Int),(i:Int)]=some [0,enc r,t,y2,y3,y4,y5,y6,y7,y8,y9,np,nk,nj,lH t (r.l.drop i) i]
 |0,i,hi=>by simp_all [bP,PZ,I7,zz,fin,lH]
 |j+1,i,hi=>by
  have c1:(i:Int)<(r.l.length:Int):=J
  have c2: ¬((i:Int)<0):=J
  have w:=bO (n:=i) J;have ih:=Aa r t Y y2 y3 y4 y5 y6 y7 y8 y9 np nk nj j (i+1) J;rw [uz J,bP,PZ];by_cases he:(r.at (i:Int)).n=t
  ·simp only [I7,zz,c1,c2,he,fin]
  ·simp only [I7,zz,c1,c2,ak he,w,fin,ih]
theorem aaP (r:D) (t:Int) (Y:r.l.length<=140737488351232) (y2 y3 y4 y5 y6 y7 y8 y9 np nk nj:Int):L 12150 [enc r,t,y2,y3,y4,y5,y6,y7,y8,y9,np,nk,nj]=some [0,enc r,t,y2,y3,y4,y5,y6,y7,y8,y9,np,nk,nj,place r t]:=by have h:=Aa r t Y y2 y3 y4 y5 y6 y7 y8 y9 np nk nj r.l.length 0 J;rw [bP,o_];simp only [XD,zz,fin];exact h
theorem wR {t:Int} {l:List D} {j:Nat} (h:j<l.length):wo t (l.take (j+1))=if (l[j]).n=t then wo t (l.take j) else wo t (l.take j)++ [l[j]]:=by
 unfold wo;rw [aoN h,List.filter_append]
 grind
theorem WB (t:Int) (l:List D):(wo t l).length<=l.length:=List.length_filter_le _ _
theorem uK (r0:D) (t:Int) (l0:List D) (Y:l0.length<=140737488351232) (hn: ∀x∈l0,x= .i x.n) (y2 y3 y4 y5 y6 y7 y8 y9 np nk nj:Int): ∀(m i j:Nat) (r:D),r.l.length=l0.length->i<j->j+m=l0.length->r.l.drop j=l0.drop j->r.l.take i=wo t (l0.take j)->
 ∃(n:Nat) (r':D),n<l0.length/\r'.l.length=l0.length/\r'.l.take n=wo t l0/\L 12001 [enc r0,t,y2,y3,y4,y5,y6,y7,y8,y9,np,nk,nj,enc r,(i:Int),(j:Int)]=some [1,enc r0,t,y2,y3,y4,y5,y6,y7,y8,y9,np,nk,nj,(n:Int),enc r',(l0.length:Int)]
 |0,i,j,r,hr,U,Z,h3,h4=>by
  have c1: ¬(j:Int)<(l0.length:Int):=J
  have c2: ¬((i:Int)<0):=J
  have c3: ¬((l0.length:Int)<(i:Int)):=J
  have c4: ¬((l0.length:Int)-(i:Int)<0):=J
  have c5:(i:Int)+((l0.length:Int)-(i:Int))=(l0.length:Int):=J
  refine⟨i,dL (r.l.take i++List.replicate (r.l.length-i) (.i 0)),J,by rw [bE]; simp only [a8,bk,anu]; omega,?_,?_⟩
  ·grind [bE]
  ·rw [bP,KH];simp only [Ja,zz,c1,c2,c3,c4,c5,br,fin,hr]
 |m+1,i,j,r,hr,U,Z,h3,h4=>by
  have c1:(j:Int)<(l0.length:Int):=J
  have c2: ¬((j:Int)<0):=J
  have w:=bO (n:=j) J;have hj:j<r.l.length:=J
  have Za:j<l0.length:=J
  have hx:r.at (j:Int)=l0[j]:=by
   rw [bT hj];rw [amX hj,amX Za] at h3
   grind
  have h3':r.l.drop (j+1)=l0.drop (j+1):=by
   rw [amX hj,amX Za] at h3
   grind
  by_cases he:(r.at (j:Int)).n=t
  ·obtain⟨n,r',q1,q2,q3,ih⟩:=uK r0 t l0 Y hn y2 y3 y4 y5 y6 y7 y8 y9 np nk nj m i (j+1) r hr J J h3' (by rw [wR Za,<- hx,an he,h4]);refine⟨n,r',q1,q2,q3,?_⟩;rw [bP,KH];simp only [Ja,zz,c1,c2,he,w,hr,fin,ih]
  ·have c3: ¬((i:Int)<0):=J
   have c4:(i:Int)<(l0.length:Int):=J
   have w2:=bO (n:=i) J;have hs:eV r.l (i:Int) (.i (r.at (j:Int)).n)=r.l.set i l0[j]:=by rw [oD,hx,<- hn _ (aF Za)]
   obtain⟨n,r',q1,q2,q3,ih⟩:=uK r0 t l0 Y hn y2 y3 y4 y5 y6 y7 y8 y9 np nk nj m (i+1) (j+1) (dL (eV r.l (i:Int) (.i (r.at (j:Int)).n))) (by rw [bE,fh,hr]) J J
    (by rw [bE,hs,aox J,h3'])
    (by rw [bE,hs,aoN (by rw [anW]; omega),aow (az _),aoZ,h4,wR Za,<- hx,ak he])
   refine⟨n,r',q1,q2,q3,?_⟩;rw [bP,KH];simp only [Ja,zz,c1,c2,c3,c4,ak he,w,w2,hr,fin,ih]
theorem abx (r:D) (t:Int) (Y:r.l.length<=140737488351232) (hn: ∀x∈r.l,x= .i x.n):(wo t r.l=r.l/\∀y2 y3 y4 y5 y6 y7 y8 y9 np nk nj:Int,L 12000 [enc r,t,y2,y3,y4,y5,y6,y7,y8,y9,np,nk,nj]=some [0,enc r,t,y2,y3,y4,y5,y6,y7,y8,y9,np,nk,nj])\/
 ∀y2 y3 y4 y5 y6 y7 y8 y9 np nk nj:Int,∃(n:Nat) (r':D),n<r.l.length/\r'.l.length=r.l.length/\r'.l.take n=wo t r.l/\L 12000 [enc r,t,y2,y3,y4,y5,y6,y7,y8,y9,np,nk,nj]=some [1,enc r,t,y2,y3,y4,y5,y6,y7,y8,y9,np,nk,nj,(n:Int),enc r',(r.l.length:Int)]:=by
 have h:=aaQ r t Y;rcases kV r t with ⟨hp,uc⟩|⟨i,hi,hp,hY,uc⟩
 ·refine .inl ⟨Ds uc,fun y2 y3 y4 y5 y6 y7 y8 y9 np nk nj=>?_⟩;have h':=h y2 y3 y4 y5 y6 y7 y8 y9 np nk nj;clear h;rw [hp] at h';rw [bP,P3,OB,eh,an,eh,an,eh,an]
  ·simp only [iO,List.map,cU,bQ,bM,bN,Nat.reduceLT,fin]
  ·simp only [Qm3,gE,cU,fW,gA,List.map,bQ,Nat.reduceLT,bM,bN];rw [h'];simp only [bM,bN,aO,ay,if_true]
  ·simp only [gE,cU,fW,gA,List.map,bQ,Nat.reduceLT,bM,bN];rw [h'];simp only [bM,bN,aO,ay,if_true]
  ·simp only [gE,cU,fW,gA,List.map,bQ,Nat.reduceLT,bM,bN]
   grind
 ·refine .inr fun y2 y3 y4 y5 y6 y7 y8 y9 np nk nj=>?_;have h':=h y2 y3 y4 y5 y6 y7 y8 y9 np nk nj;clear h;rw [hp] at h';have w:=bO (n:=i) J;have h0:r.l.take i=wo t (r.l.take (i+1)):=by rw [wR hi,an hY,Ds uc]
  obtain⟨n,r',q1,q2,q3,ih⟩:=uK r t r.l Y hn y2 y3 y4 y5 y6 y7 y8 y9 np nk nj (r.l.length-(i+1)) i (i+1) r rfl J J rfl h0;refine⟨n,r',q1,q2,q3,?_⟩;rw [bP,P3,OB,eh,an,eh,an,eh,ak]
  ·simp only [lY,List.map,Qm3,cU,fW,wF,den_add,bQ,bM,bN,Nat.reduceLT];rw [h'];simp only [bM,bN,ay,w,fin];rw [ih]
  ·simp only [Qm3,gE,cU,fW,gA,List.map,bQ,Nat.reduceLT,bM,bN];rw [h'];simp only [bM,bN,aO,ay,if_true];omega
  ·simp only [gE,cU,fW,gA,List.map,bQ,Nat.reduceLT,bM,bN];rw [h'];simp only [bM,bN,aO,ay,if_true]
  ·simp only [gE,cU,fW,gA,List.map,bQ,Nat.reduceLT,bM,bN];rw [h'];simp only [bM,bN,aO,ay,if_true]
theorem uJ (r0:D) (t:Int) (l0:List D) (Y:l0.length<=140737488351232) (hn: ∀x∈l0,x= .i x.n) (y2 y3 y4 y5 y6 y7 y8 y9 np nk nj:Int): ∀(m i j:Nat) (r:D),r.l.length=l0.length->i<j->j+m=l0.length->r.l.drop j=l0.drop j->r.l.take i=wo t (l0.take j)->
 ∃(n:Nat) (r':D),n<l0.length/\r'.l.length=l0.length/\r'.l.take n=wo t l0/\L 12101 [enc r0,t,y2,y3,y4,y5,y6,y7,y8,y9,np,nk,nj,enc r,(i:Int),(j:Int)]=some [1,enc r0,t,y2,y3,y4,y5,y6,y7,y8,y9,np,nk,nj,(n:Int),enc r',(l0.length:Int)]
 |0,i,j,r,hr,U,Z,h3,h4=>by
  have c1: ¬(j:Int)<(l0.length:Int):=J
  have c2: ¬((i:Int)<0):=J
  have c3: ¬((l0.length:Int)<(i:Int)):=J
  have c4: ¬((l0.length:Int)-(i:Int)<0):=J
  have c5:(i:Int)+((l0.length:Int)-(i:Int))=(l0.length:Int):=J
  refine⟨i,dL (r.l.take i++List.replicate (r.l.length-i) (.i 0)),J,by rw [bE]; simp only [a8,bk,anu]; omega,?_,?_⟩
  ·grind [bE]
  ·rw [bP,KG];simp only [I8,zz,c1,c2,c3,c4,c5,br,fin,hr]
 |m+1,i,j,r,hr,U,Z,h3,h4=>by
  have c1:(j:Int)<(l0.length:Int):=J
  have c2: ¬((j:Int)<0):=J
  have w:=bO (n:=j) J;have hj:j<r.l.length:=J
  have Za:j<l0.length:=J
  have hx:r.at (j:Int)=l0[j]:=by
   rw [bT hj];rw [amX hj,amX Za] at h3
   grind
  have h3':r.l.drop (j+1)=l0.drop (j+1):=by
   rw [amX hj,amX Za] at h3
   grind
  by_cases he:(r.at (j:Int)).n=t
  ·obtain⟨n,r',q1,q2,q3,ih⟩:=uJ r0 t l0 Y hn y2 y3 y4 y5 y6 y7 y8 y9 np nk nj m i (j+1) r hr J J h3' (by rw [wR Za,<- hx,an he,h4]);refine⟨n,r',q1,q2,q3,?_⟩;rw [bP,KG];simp only [I8,zz,c1,c2,he,w,hr,fin,ih]
  ·have c3: ¬((i:Int)<0):=J
   have c4:(i:Int)<(l0.length:Int):=J
   have w2:=bO (n:=i) J;have hs:eV r.l (i:Int) (.i (r.at (j:Int)).n)=r.l.set i l0[j]:=by rw [oD,hx,<- hn _ (aF Za)]
   obtain⟨n,r',q1,q2,q3,ih⟩:=uJ r0 t l0 Y hn y2 y3 y4 y5 y6 y7 y8 y9 np nk nj m (i+1) (j+1) (dL (eV r.l (i:Int) (.i (r.at (j:Int)).n))) (by rw [bE,fh,hr]) J J
    (by rw [bE,hs,aox J,h3'])
    (by rw [bE,hs,aoN (by rw [anW]; omega),aow (az _),aoZ,h4,wR Za,<- hx,ak he])
   refine⟨n,r',q1,q2,q3,?_⟩;rw [bP,KG];simp only [I8,zz,c1,c2,c3,c4,ak he,w,w2,hr,fin,ih]
theorem abw (r:D) (t:Int) (Y:r.l.length<=140737488351232) (hn: ∀x∈r.l,x= .i x.n):(wo t r.l=r.l/\∀y2 y3 y4 y5 y6 y7 y8 y9 np nk nj:Int,L 12100 [enc r,t,y2,y3,y4,y5,y6,y7,y8,y9,np,nk,nj]=some [0,enc r,t,y2,y3,y4,y5,y6,y7,y8,y9,np,nk,nj])\/
 ∀y2 y3 y4 y5 y6 y7 y8 y9 np nk nj:Int,∃(n:Nat) (r':D),n<r.l.length/\r'.l.length=r.l.length/\r'.l.take n=wo t r.l/\L 12100 [enc r,t,y2,y3,y4,y5,y6,y7,y8,y9,np,nk,nj]=some [1,enc r,t,y2,y3,y4,y5,y6,y7,y8,y9,np,nk,nj,(n:Int),enc r',(r.l.length:Int)]:=by
 have h:=aaP r t Y;rcases kV r t with ⟨hp,uc⟩|⟨i,hi,hp,hY,uc⟩
 ·refine .inl ⟨Ds uc,fun y2 y3 y4 y5 y6 y7 y8 y9 np nk nj=>?_⟩;have h':=h y2 y3 y4 y5 y6 y7 y8 y9 np nk nj;clear h;rw [hp] at h';rw [bP,P0,OA,eh,an,eh,an,eh,an]
  ·simp only [iO,List.map,cU,bQ,bM,bN,Nat.reduceLT,fin]
  ·simp only [TO,gE,cU,fW,gA,List.map,bQ,Nat.reduceLT,bM,bN];rw [h'];simp only [bM,bN,aO,ay,if_true]
  ·simp only [gE,cU,fW,gA,List.map,bQ,Nat.reduceLT,bM,bN];rw [h'];simp only [bM,bN,aO,ay,if_true]
  ·simp only [gE,cU,fW,gA,List.map,bQ,Nat.reduceLT,bM,bN]
   grind
 ·refine .inr fun y2 y3 y4 y5 y6 y7 y8 y9 np nk nj=>?_;have h':=h y2 y3 y4 y5 y6 y7 y8 y9 np nk nj;clear h;rw [hp] at h';have w:=bO (n:=i) J;have h0:r.l.take i=wo t (r.l.take (i+1)):=by rw [wR hi,an hY,Ds uc]
  obtain⟨n,r',q1,q2,q3,ih⟩:=uJ r t r.l Y hn y2 y3 y4 y5 y6 y7 y8 y9 np nk nj (r.l.length-(i+1)) i (i+1) r rfl J J rfl h0;refine⟨n,r',q1,q2,q3,?_⟩;rw [bP,P0,OA,eh,an,eh,an,eh,ak]
  ·simp only [lY,List.map,TO,cU,fW,wF,den_add,bQ,bM,bN,Nat.reduceLT];rw [h'];simp only [bM,bN,ay,w,fin];rw [ih]
  ·simp only [TO,gE,cU,fW,gA,List.map,bQ,Nat.reduceLT,bM,bN];rw [h'];simp only [bM,bN,aO,ay,if_true];omega
  ·simp only [gE,cU,fW,gA,List.map,bQ,Nat.reduceLT,bM,bN];rw [h'];simp only [bM,bN,aO,ay,if_true]
  ·simp only [gE,cU,fW,gA,List.map,bQ,Nat.reduceLT,bM,bN];rw [h'];simp only [bM,bN,aO,ay,if_true]
theorem abv (r:D) (t:Int): ∀y2 y3 y4 y5 y6 y7 y8 y9 np nk nj:Int,L 12200 [enc r,t,y2,y3,y4,y5,y6,y7,y8,y9,np,nk,nj]=some [0,enc r,t,y2,y3,y4,y5,y6,y7,y8,y9,np,nk,nj]:=by
 intro y2 y3 y4 y5 y6 y7 y8 y9 np nk nj
 have h:L 12250 [enc r,t,y2,y3,y4,y5,y6,y7,y8,y9,np,nk,nj]=some [0,enc r,t,y2,y3,y4,y5,y6,y7,y8,y9,np,nk,nj]:=by rw [bP,n!];simp_all [XB,zz,fin,bP,n_,XA]
 have h':=h;clear h;rw [bP,n?,XC,eh,an,eh,an]
 ·simp_all [iO,cU,bQ,bM,bN,fin]
 ·simp only [gE,cU,fW,gA,List.map,bQ,Nat.reduceLT,bM,bN]
  grind [bM,bN]
 ·simp only [gE,cU,fW,gA,List.map,bQ,Nat.reduceLT,bM,bN]
  grind
theorem abu (r:D) (t:Int): ∀y2 y3 y4 y5 y6 y7 y8 y9 np nk nj:Int,L 12300 [enc r,t,y2,y3,y4,y5,y6,y7,y8,y9,np,nk,nj]=some [0,enc r,t,y2,y3,y4,y5,y6,y7,y8,y9,np,nk,nj]:=by
 intro y2 y3 y4 y5 y6 y7 y8 y9 np nk nj
 have h:L 12350 [enc r,t,y2,y3,y4,y5,y6,y7,y8,y9,np,nk,nj]=some [0,enc r,t,y2,y3,y4,y5,y6,y7,y8,y9,np,nk,nj]:=by rw [bP,m_];simp_all [Xy,zz,fin,bP,l?,Xx]
 have h':=h;clear h;rw [bP,m?,Xz,eh,an,eh,an]
 ·simp_all [iO,cU,bQ,bM,bN,fin]
 ·simp only [gE,cU,fW,gA,List.map,bQ,Nat.reduceLT,bM,bN]
  grind [bM,bN]
 ·simp only [gE,cU,fW,gA,List.map,bQ,Nat.reduceLT,bM,bN]
  grind
abbrev Mx (d0:D) (obj:Int):Int:=((d0.at obj).W 2).n
abbrev Mo (d0 s:D) (obj:Int):Int:=((s.at ((d0.at obj).W 2).n).W 0).n
inductive Act where
 |nH
 |vu
 |res (o c dn g:Int) (r v:D) (m:Option Int) (a oc:Int)
def act (M mo th op arg tries o c dn g:Int) (r v:D):Act:=
 if op=1 then (if o=th then .vu else if place r th<0 then (if o<0 then .res th c dn g r v none 0 2 else .nH) else .vu)
 else if op=2 then (if o=th then .res (-1) c dn g r v none 0 2 else .vu)
 else if op=8 then (if o=th then .res (-1) c dn g r v none 0 2 else .vu)
 else if op=3 then (if o<0 then .res th c dn g r v none 1 2 else .res o c dn g r v none 0 2)
 else if op=4 then (if o<0 then .res th c dn g r v none 1 2 else if tries<arg then .nH else .res o c dn g r v none 0 2)
 else if op=5 then (if o=th then .vu else if place r th<0 then (if o<0 then .res o c dn g (dL (r.l++ [.i th])) v none 0 2 else .nH) else .vu)
 else if op=6 then (if place r th<0 then .vu else .res o c dn g (fk (.i 2) (r.l.take (place r th).toNat++r.l.drop ((place r th).toNat+1))) v none 0 2)
 else if op=7 then (if o=th then .vu else if place r th<0 then (if (r.l.length:Int)=0 then (if o<0 then .res th c dn g r v none 0 2 else .nH) else .nH) else .vu)
 else if op=9 then (if 0<c then .res o (IntKind.i64.wrap (c-1)) dn g r v none 0 2 else .nH)
 else if op=11 then (if 0<c then .res o (IntKind.i64.wrap (c-1)) dn g r v none 1 2 else .res o c dn g r v none 0 2)
 else if op=10 then (if c<M then .res o (IntKind.i64.wrap (c+1)) dn g r v none 0 2 else .vu)
 else if op=17 then (if arg<IntKind.i64.wrap (0-c) then .vu else if IntKind.i64.wrap (1099511627776-c)<arg then .vu else .res o (IntKind.i64.wrap (c+arg)) dn g r v none (IntKind.i64.wrap (c+arg)) 2)
 else if op=18 then (if 0<c then .res o (IntKind.i64.wrap (c-1)) dn g r v none (IntKind.i64.wrap (c-1)) 2 else .vu)
 else if op=19 then (if c=0 then .res o c dn g r v none 0 2 else .nH)
 else if op=22 then .res o c dn g r v none c 2
 else if op=23 then .res o arg dn g r v none arg 2
 else if op=20 then (if (v.l.length:Int)<M then .res o c dn g r (dL (v.l++ [.i arg])) none arg 2 else .nH)
 else if op=21 then (if (v.l.length:Int)=0 then .nH else .res o c dn g r (fk v (v.l.drop 1)) none (v.at 0).n 2)
 else if op=12 then (if mo=th then .res o c dn g (dL (wo th r.l++ [.i th])) v (some (-1)) 0 3 else .vu)
 else if op=13 then (if (r.l.length:Int)=0 then .res o c dn g r v none 0 2 else .res o c dn g (fk r (r.l.drop 1)) v none (IntKind.i64.wrap ((r.at 0).n+1)) 2)
 else if op=14 then .res o c dn g (.i 1) v none (r.l.length:Int) 2
 else if op=24 then (if place r th<0 then (if mo<0 then .res o c dn g r v (some th) 0 2 else .nH) else .nH)
 else if op=15 then (if g<4611686018427387904 then (if IntKind.i64.wrap (c+1)=M then .res o 0 dn (IntKind.i64.wrap (g+1)) r v none g 3 else .res o (IntKind.i64.wrap (c+1)) dn g r v none g 3) else .vu)
 else if op=25 then (if arg<g then .res o c dn g r v none arg 2 else .nH)
 else if op=16 then (if dn=0 then (if o=th then .vu else if o<0 then .res th c dn g r v none 1 2 else .nH) else .res o c dn g r v none 0 2)
 else (if o=th then .res (-1) c 1 g r v none 0 2 else .vu)
def gk (s:D) (obj M:Int):Act->D
 | .res o c dn g r v m _ _=>dL (eV (match m with |none=>s.l|some q=>eV s.l M (dL (eV (s.at M).l 0 (.i q)))) obj (dL [.i o,.i c,.i (if dn=0 then 0 else 1),.i g,r,v]))
 |_=>s
def EK (s:D) (th op obj M:Int):Act->List Int
 | .nH=>[enc s,0,0,0,0,0,0]
 | .vu=>[enc s,th,27,obj,IntKind.i64.wrap op,0,2]
 | .res o c dn g r v m a oc=>[enc (gk s obj M (.res o c dn g r v m a oc)),th,op,obj,a,0,oc]
structure TH (d0 d1 s:D) (th op obj arg tries o c dn g:Int) (r v:D):Prop where
 eP:L 9000 [obj,enc s]=some [mw r v,obj,enc s,o,c,dn,g,enc r,enc v]
 hZ:L 550 [enc s]=some [enc s]
 hR:L 350 [enc d0,enc d1,enc s]=some [1]
 Ah:0<=th
 Ag:th<(d1.l.length:Int)
 v8:0<=obj
 v7:obj<(s.l.length:Int)
 hlen:s.l.length=d0.l.length
 hk:L 600 [op]=some [((d0.at obj).W 0).n]
 hr:(r.l.length:Int)<17592186044415
 hv:(v.l.length:Int)<17592186044415
 hn: ∀x∈r.l,x= .i x.n
 hM:op=12\/op=24->0<=((d0.at obj).W 2).n/\((d0.at obj).W 2).n<(s.l.length:Int)/\((d0.at obj).W 2).n≠obj
theorem TH.hb {d0 d1 s:D} {th op obj arg tries o c dn g:Int} {r v:D} (H:TH d0 d1 s th op obj arg tries o c dn g r v):r.l.length<=140737488351232:=by have:=H.hr; omega
noncomputable abbrev dC (d0 d1 s:D) (th op obj arg tries:Int):Nat->Int:=cY L (low [enc d0,enc d1,enc s,th,op,obj,arg,tries])
abbrev cj (k:Nat):V:=rr 9000 [.dD 5,.dD 2] k
abbrev O0:V:=nm (ce 2 (el (.dD 0) (.dD 5)))
abbrev kK:V:=rr 850 [cj 7,.dD 3] 0
abbrev Uk (q:V):V:=.op .set (cj 2) (cn (mk O0) (.op .set (el (cj 2) O0) (cn (.eD (.i 0)) q)))
abbrev sA:List V:=[cj 7,.dD 3,.dD 5,O0,Uk (.eD (.i (-1))),.dD 4,.dD 6,.dD 7,cj 3,cj 4,cj 5,cj 6,cj 8]
abbrev thg (o c d g r v:V):V:=cn (mk (.dD 5)) (cn o (cn c (cn d (cn g (cn r (cn v (.eD (.i 0))))))))
abbrev rR:T Lf:=ou [rr 550 [.dD 2] 0,.dD 3,.lit 27,.dD 5,wr (.dD 4),.lit 0,.lit 2]
abbrev xJ:T Lf:=ou [rr 550 [.dD 2] 0,.lit 0,.lit 0,.lit 0,.lit 0,.lit 0,.lit 0]
abbrev kc (z o c d g r v a:V) (oc:Int):T Lf:=ou [.op .set z (thg o c d g r v),.dD 3,.dD 4,.dD 5,a,.lit 0,.lit oc]
theorem w6 {r:D} (h:r.l= []) (t:Int):place r t= -1:=by unfold place; rw [h]; rfl
theorem aeO {r:D} (h:r.l= []) (t:Int):wo t r.l= []:=by rw [h]; rfl
theorem amm {r v:D} (h:0<r.l.length) (h':0<v.l.length):mw r v=3:=by simp [mw,h,h']
theorem aml {r v:D} (h:0<r.l.length) (h':v.l= []):mw r v=4:=by simp [mw,h,h']
theorem amk {r v:D} (h:r.l= []) (h':0<v.l.length):mw r v=5:=by simp [mw,h,h']
theorem amj {r v:D} (h:r.l= []) (h':v.l= []):mw r v=6:=by simp [mw,h,h']
abbrev Gl (d0 s:D) (th op obj arg tries o c dn g:Int) (r v:D):RS:=.out (EK s th op obj (Mx d0 obj) (act (Mx d0 obj) (Mo d0 s obj) th op arg tries o c dn g r v))
theorem dz (s:D) (th op obj M:Int):EK s th op obj M .nH= [enc s,0,0,0,0,0,0]:=rfl
theorem dy (s:D) (th op obj M:Int):EK s th op obj M .vu= [enc s,th,27,obj,IntKind.i64.wrap op,0,2]:=rfl
theorem cX (s:D) (th op obj M o c dn g:Int) (r v:D) (a oc:Int):EK s th op obj M (.res o c dn g r v none a oc)= [enc (dL (eV s.l obj (dL [.i o,.i c,.i (if dn=0 then 0 else 1),.i g,r,v]))),th,op,obj,a,0,oc]:=rfl
theorem cW (s:D) (th op obj M o c dn g:Int) (r v:D) (q a oc:Int):EK s th op obj M (.res o c dn g r v (some q) a oc)= [enc (dL (eV (eV s.l M (dL (eV (s.at M).l 0 (.i q)))) obj (dL [.i o,.i c,.i (if dn=0 then 0 else 1),.i g,r,v]))),th,op,obj,a,0,oc]:=rfl
section
variable {s:D} {th op obj M:Int}
theorem fe {c:Prop} [Decidable c] {a b:Act}:RS.out (EK s th op obj M (if c then a else b))=if c then RS.out (EK s th op obj M a) else RS.out (EK s th op obj M b):=by split<;>rfl
end
theorem vw {p:Prop} [Decidable p]:((if p then (0:Int) else 1)=0)=p:=by by_cases h:p<;>simp [h]
theorem jE (l:List D):l= []\/0<l.length:=by cases l<;>simp
theorem z2 {ρ:Nat->Int} {a b c d:List SB} (h:zY ρ a/\zW ρ b) (h':zY ρ c/\zW ρ d):zY ρ (a++c)/\zW ρ (b++d):=⟨Wu h.1 h'.1,Wx h.2 h'.2⟩
abbrev bt:V:=.op .bit (mk (cj 5)) (.lit 0)
abbrev kW:V:=wr (.add kK (.lit 1))
abbrev kL:V:=.sub (ln (cj 7)) kW
abbrev kD:V:=.add kK kL
abbrev kC:V:=.op .cat (.op .cat (.op .take (cj 7) kK) (.op .drop (.op .take (cj 7) (.add kW kL)) kW)) (.op .drop (cj 7) kD)
abbrev kF:V:=.op .fill kC (cn (mk kD) (.eD (.i 0)))
section
variable {d0 d1 s r v:D} {th op obj arg tries o c dn g:Int}
abbrev YG:List SB:=[.eq (a0 9000 [.dD 5,.dD 2]) (.lit 1),.eq (a0 350 [.dD 0,.dD 1,.dD 2]) (.lit 1),.eq (a0 600 [.dD 4]) (.lit 1),.eq (a0 550 [.dD 2]) (.lit 1),.eq (a0 900 [cj 7,.dD 3]) (.lit 1),.eq (a0 850 [cj 7,.dD 3]) (.lit 1),.lt (.dD 3) (ln (.dD 1)),.lt (.dD 5) (ln (.dD 0)),.lt (.dD 5) (ln (cj 2)),.eq (rr 600 [.dD 4] 0) (nm (ce 0 (el (.dD 0) (.dD 5)))),.lt (ln (cj 7)) (.lit 17592186044415),.lt (ln (cj 8)) (.lit 17592186044415)]
abbrev NG:List SB:=[.lt (.dD 5) (.lit 0),.eq (rr 350 [.dD 0,.dD 1,.dD 2] 0) (.lit 0),.lt (.dD 3) (.lit 0),.lt (ln (cj 7)) (ln (cj 7)),.lt (ln (cj 8)) (.add (.lit 1) (.sub (ln (cj 8)) (.lit 1))),.lt (ln (cj 7)) (.add (.lit 1) (.sub (ln (cj 7)) (.lit 1)))]
theorem fG (H:TH d0 d1 s th op obj arg tries o c dn g r v):zY (dC d0 d1 s th op obj arg tries) YG/\zW (dC d0 d1 s th op obj arg tries) NG:=by have hb:=H.hb;have U:=H.Ah; have Z:=H.Ag; have h3:=H.v8; have h4:=H.v7; have h5:=H.hlen; have h6:=H.hr; have h7:=H.hv; have hp:=gH r th;simp only [zz,H.eP,H.hZ,H.hR,H.hk,dR r th hb,dM r th hb]<;>omega
abbrev YA3:List SB:=[.eq (cj 0) (.lit 3)]
abbrev NA3:List SB:=[.eq (cj 0) (.lit 0),.eq (cj 0) (.lit 1),.eq (cj 0) (.lit 2),.eq (cj 0) (.lit 4),.eq (cj 0) (.lit 5),.eq (cj 0) (.lit 6),.lt (.sub (ln (cj 7)) (.lit 1)) (.lit 0),.lt (.sub (ln (cj 8)) (.lit 1)) (.lit 0)]
theorem fA3 (H:TH d0 d1 s th op obj arg tries o c dn g r v) (hr:0<r.l.length) (hv:0<v.l.length):zY (dC d0 d1 s th op obj arg tries) YA3/\zW (dC d0 d1 s th op obj arg tries) NA3:=by have hb:=H.hb;have U:=H.Ah; have Z:=H.Ag; have h3:=H.v8; have h4:=H.v7; have h5:=H.hlen; have h6:=H.hr; have h7:=H.hv; have hp:=gH r th;simp only [zz,H.eP,H.hZ,H.hR,H.hk,dR r th hb,dM r th hb,amm hr hv]<;>omega
abbrev YA4:List SB:=[.eq (cj 0) (.lit 4)]
abbrev NA4:List SB:=[.eq (cj 0) (.lit 0),.eq (cj 0) (.lit 1),.eq (cj 0) (.lit 2),.eq (cj 0) (.lit 3),.eq (cj 0) (.lit 5),.eq (cj 0) (.lit 6),.lt (.sub (ln (cj 7)) (.lit 1)) (.lit 0)]
theorem fA4 (H:TH d0 d1 s th op obj arg tries o c dn g r v) (hr:0<r.l.length) (hv:v.l= []):zY (dC d0 d1 s th op obj arg tries) YA4/\zW (dC d0 d1 s th op obj arg tries) NA4:=by have hb:=H.hb;have U:=H.Ah; have Z:=H.Ag; have h3:=H.v8; have h4:=H.v7; have h5:=H.hlen; have h6:=H.hr; have h7:=H.hv; have hp:=gH r th;simp only [zz,H.eP,H.hZ,H.hR,H.hk,dR r th hb,dM r th hb,aml hr hv]<;>omega
abbrev YA5:List SB:=[.eq (cj 0) (.lit 5),.lt kK (.lit 0)]
abbrev NA5:List SB:=[.eq (cj 0) (.lit 0),.eq (cj 0) (.lit 1),.eq (cj 0) (.lit 2),.eq (cj 0) (.lit 3),.eq (cj 0) (.lit 4),.eq (cj 0) (.lit 6),.lt (.sub (ln (cj 8)) (.lit 1)) (.lit 0)]
theorem fA5 (H:TH d0 d1 s th op obj arg tries o c dn g r v) (hr:r.l= []) (hv:0<v.l.length):zY (dC d0 d1 s th op obj arg tries) YA5/\zW (dC d0 d1 s th op obj arg tries) NA5:=by have hb:=H.hb;have U:=H.Ah; have Z:=H.Ag; have h3:=H.v8; have h4:=H.v7; have h5:=H.hlen; have h6:=H.hr; have h7:=H.hv; have hp:=gH r th;simp only [zz,H.eP,H.hZ,H.hR,H.hk,dR r th hb,dM r th hb,amk hr hv,w6 hr]<;>omega
abbrev YA6:List SB:=[.eq (cj 0) (.lit 6),.lt kK (.lit 0)]
abbrev NA6:List SB:=[.eq (cj 0) (.lit 0),.eq (cj 0) (.lit 1),.eq (cj 0) (.lit 2),.eq (cj 0) (.lit 3),.eq (cj 0) (.lit 4),.eq (cj 0) (.lit 5)]
theorem fA6 (H:TH d0 d1 s th op obj arg tries o c dn g r v) (hr:r.l= []) (hv:v.l= []):zY (dC d0 d1 s th op obj arg tries) YA6/\zW (dC d0 d1 s th op obj arg tries) NA6:=by have hb:=H.hb;have U:=H.Ah; have Z:=H.Ag; have h3:=H.v8; have h4:=H.v7; have h5:=H.hlen; have h6:=H.hr; have h7:=H.hv; have hp:=gH r th;simp only [zz,H.eP,H.hZ,H.hR,H.hk,dR r th hb,dM r th hb,amj hr hv,w6 hr]<;>omega
abbrev YM:List SB:=[.lt O0 (ln (cj 2))]
abbrev NM:List SB:=[.lt O0 (.lit 0),.eq O0 (.dD 5)]
theorem fM (H:TH d0 d1 s th op obj arg tries o c dn g r v) (ho:op=12\/op=24):zY (dC d0 d1 s th op obj arg tries) YM/\zW (dC d0 d1 s th op obj arg tries) NM:=by have hb:=H.hb;have U:=H.Ah; have Z:=H.Ag; have h3:=H.v8; have h4:=H.v7; have h5:=H.hlen; have h6:=H.hr; have h7:=H.hv; have hp:=gH r th; have hm:=H.hM ho;simp only [zz,H.eP,H.hZ,H.hR,H.hk,dR r th hb,dM r th hb]<;>omega
abbrev YK0:List SB:=[.lt kK (.lit 0)]
abbrev NK0:List SB:=[]
theorem fK0 (H:TH d0 d1 s th op obj arg tries o c dn g r v) (hk:place r th<0):zY (dC d0 d1 s th op obj arg tries) YK0/\zW (dC d0 d1 s th op obj arg tries) NK0:=by have hb:=H.hb;have U:=H.Ah; have Z:=H.Ag; have h3:=H.v8; have h4:=H.v7; have h5:=H.hlen; have h6:=H.hr; have h7:=H.hv; have hp:=gH r th;simp only [zz,H.eP,H.hZ,H.hR,H.hk,dR r th hb,dM r th hb]<;>omega
abbrev YK1:List SB:=[.lt kD (ln (cj 7)),.eq (.add kD (.sub (ln (cj 7)) kD)) (ln kC)]
abbrev NK1:List SB:=[.lt kK (.lit 0),.lt kW kK,.lt (ln (cj 7)) kW,.eq kK kW,.lt (ln (cj 7)) kK,.lt kW (.lit 0),.lt kL (.lit 0),.lt (ln (cj 7)) (.add kW kL),.lt (ln (cj 7)) kD,.lt kD (.lit 0),.lt (ln kC) (ln (cj 7)),.lt (.sub (ln (cj 7)) kD) (.lit 0),.lt (ln kF) kD]
theorem fK1 (H:TH d0 d1 s th op obj arg tries o c dn g r v) (hk: ¬place r th<0):zY (dC d0 d1 s th op obj arg tries) YK1/\zW (dC d0 d1 s th op obj arg tries) NK1:=by have hb:=H.hb;have U:=H.Ah; have Z:=H.Ag; have h3:=H.v8; have h4:=H.v7; have h5:=H.hlen; have h6:=H.hr; have h7:=H.hv; have hp:=gH r th; have hw:IntKind.i64.wrap (place r th+1)=place r th+1:=me J J;simp only [zz,H.eP,H.hZ,H.hR,H.hk,dR r th hb,dM r th hb,gP,bE,a8,bk,bu,anu,hw]<;>omega
abbrev dA (d0 s r v:D) (th op obj arg tries o c dn g:Int):List Int:=[enc r,th,obj,Mx d0 obj,enc (dL (eV s.l (Mx d0 obj) (dL (eV (s.at (Mx d0 obj)).l 0 (.i (-1)))))),op,arg,tries,o,c,dn,g,enc v]
abbrev amr:List SB:=[.eq (a0 12000 sA) (.lit 1),.eq (rr 12000 sA 0) (.lit 0)]
abbrev amy:List SB:=[]
theorem alU (H:TH d0 d1 s th op obj arg tries o c dn g r v) (W:L 12000 (dA d0 s r v th op obj arg tries o c dn g)=some (0::(dA d0 s r v th op obj arg tries o c dn g))):zY (dC d0 d1 s th op obj arg tries) amr/\zW (dC d0 d1 s th op obj arg tries) amy:=by have hb:=H.hb;have U:=H.Ah; have Z:=H.Ag; have h3:=H.v8; have h4:=H.v7; have h5:=H.hlen; have h6:=H.hr; have h7:=H.hv; have hp:=gH r th;simp only [zz,H.eP,H.hZ,H.hR,H.hk,dR r th hb,dM r th hb,W]<;>omega
abbrev ams:List SB:=[.eq (a0 12000 sA) (.lit 1),.eq (rr 12000 sA 0) (.lit 1)]
abbrev amz:List SB:=[.eq (rr 12000 sA 0) (.lit 0),.lt (rr 12000 sA 14) (.lit 0),.lt (ln (rr 12000 sA 15)) (.add (rr 12000 sA 14) (.lit 1)),.lt (.add (rr 12000 sA 14) (.lit 1)) (.lit 0),.lt (ln (.op .cat (.op .cat (.op .take (rr 12000 sA 15) (rr 12000 sA 14)) (.op .snoc (.eD (.i 0)) (mk (.dD 3)))) (.op .drop (rr 12000 sA 15) (.add (rr 12000 sA 14) (.lit 1))))) (.add (rr 12000 sA 14) (.lit 1))]
theorem alV (H:TH d0 d1 s th op obj arg tries o c dn g r v) {n:Nat} {r1:D} (hn:n<r.l.length) (Y:r1.l.length=r.l.length) (W:L 12000 (dA d0 s r v th op obj arg tries o c dn g)=some (1::((dA d0 s r v th op obj arg tries o c dn g)++ [(n:Int),enc r1,(r.l.length:Int)]))):zY (dC d0 d1 s th op obj arg tries) ams/\zW (dC d0 d1 s th op obj arg tries) amz:=by have hb:=H.hb;have U:=H.Ah; have Z:=H.Ag; have h3:=H.v8; have h4:=H.v7; have h5:=H.hlen; have h6:=H.hr; have h7:=H.hv; have hp:=gH r th;simp only [zz,H.eP,H.hZ,H.hR,H.hk,dR r th hb,dM r th hb,W,gP,bE,jn,aX,ax,a8,bk,bu,aR,aC]<;>omega
abbrev amp:List SB:=[.eq (a0 12100 sA) (.lit 1),.eq (rr 12100 sA 0) (.lit 0)]
abbrev amw:List SB:=[]
theorem alS (H:TH d0 d1 s th op obj arg tries o c dn g r v) (W:L 12100 (dA d0 s r v th op obj arg tries o c dn g)=some (0::(dA d0 s r v th op obj arg tries o c dn g))):zY (dC d0 d1 s th op obj arg tries) amp/\zW (dC d0 d1 s th op obj arg tries) amw:=by have hb:=H.hb;have U:=H.Ah; have Z:=H.Ag; have h3:=H.v8; have h4:=H.v7; have h5:=H.hlen; have h6:=H.hr; have h7:=H.hv; have hp:=gH r th;simp only [zz,H.eP,H.hZ,H.hR,H.hk,dR r th hb,dM r th hb,W]<;>omega
abbrev amq:List SB:=[.eq (a0 12100 sA) (.lit 1),.eq (rr 12100 sA 0) (.lit 1)]
abbrev amx:List SB:=[.eq (rr 12100 sA 0) (.lit 0),.lt (rr 12100 sA 14) (.lit 0),.lt (ln (rr 12100 sA 15)) (.add (rr 12100 sA 14) (.lit 1)),.lt (.add (rr 12100 sA 14) (.lit 1)) (.lit 0),.lt (ln (.op .cat (.op .cat (.op .take (rr 12100 sA 15) (rr 12100 sA 14)) (.op .snoc (.eD (.i 0)) (mk (.dD 3)))) (.op .drop (rr 12100 sA 15) (.add (rr 12100 sA 14) (.lit 1))))) (.add (rr 12100 sA 14) (.lit 1))]
theorem alT (H:TH d0 d1 s th op obj arg tries o c dn g r v) {n:Nat} {r1:D} (hn:n<r.l.length) (Y:r1.l.length=r.l.length) (W:L 12100 (dA d0 s r v th op obj arg tries o c dn g)=some (1::((dA d0 s r v th op obj arg tries o c dn g)++ [(n:Int),enc r1,(r.l.length:Int)]))):zY (dC d0 d1 s th op obj arg tries) amq/\zW (dC d0 d1 s th op obj arg tries) amx:=by have hb:=H.hb;have U:=H.Ah; have Z:=H.Ag; have h3:=H.v8; have h4:=H.v7; have h5:=H.hlen; have h6:=H.hr; have h7:=H.hv; have hp:=gH r th;simp only [zz,H.eP,H.hZ,H.hR,H.hk,dR r th hb,dM r th hb,W,gP,bE,jn,aX,ax,a8,bk,bu,aR,aC]<;>omega
abbrev amo:List SB:=[.eq (a0 12200 sA) (.lit 1),.eq (rr 12200 sA 0) (.lit 0)]
abbrev amv:List SB:=[]
theorem alR (H:TH d0 d1 s th op obj arg tries o c dn g r v) (W:L 12200 (dA d0 s r v th op obj arg tries o c dn g)=some (0::(dA d0 s r v th op obj arg tries o c dn g))):zY (dC d0 d1 s th op obj arg tries) amo/\zW (dC d0 d1 s th op obj arg tries) amv:=by have hb:=H.hb;have U:=H.Ah; have Z:=H.Ag; have h3:=H.v8; have h4:=H.v7; have h5:=H.hlen; have h6:=H.hr; have h7:=H.hv; have hp:=gH r th;simp only [zz,H.eP,H.hZ,H.hR,H.hk,dR r th hb,dM r th hb,W]<;>omega
abbrev amn:List SB:=[.eq (a0 12300 sA) (.lit 1),.eq (rr 12300 sA 0) (.lit 0)]
abbrev amu:List SB:=[]
theorem alQ (H:TH d0 d1 s th op obj arg tries o c dn g r v) (W:L 12300 (dA d0 s r v th op obj arg tries o c dn g)=some (0::(dA d0 s r v th op obj arg tries o c dn g))):zY (dC d0 d1 s th op obj arg tries) amn/\zW (dC d0 d1 s th op obj arg tries) amu:=by have hb:=H.hb;have U:=H.Ah; have Z:=H.Ag; have h3:=H.v8; have h4:=H.v7; have h5:=H.hlen; have h6:=H.hr; have h7:=H.hv; have hp:=gH r th;simp only [zz,H.eP,H.hZ,H.hR,H.hk,dR r th hb,dM r th hb,W]<;>omega
end
theorem F4 (l m:List D):fk (dL l) m=fk (.i 2) m:=by
 cases m with
 |cons a m=>rfl
 |nil=>cases l<;>rfl
theorem Rl (d:D) (h:0<d.l.length):fk (fk d (d.l.take (1+((d.l.length:Int)-1)).toNat)) ((fk d (d.l.take (1+((d.l.length:Int)-1)).toNat)).l.drop (1:Int).toNat)=fk d (d.l.drop 1):=by rw [yY (fun e=>by rw [e]; rfl),gP,anK J];rfl
theorem agH (l:List D) (k:Nat) (hk:k<l.length) (R B:List D):((l.take k++(l.take l.length).drop (k+1)++B).take (l.length-1)++R).take (l.length-1)=l.take k++l.drop (k+1)\/B.length=0:=by
 grind
section
variable {d0 d1 s r v:D} {th op obj arg tries o c dn g:Int}
abbrev zt0:T Lf:=(sp (.eq (cj 3) (.dD 3)) rR (sp (.eq (rr 900 [cj 7,.dD 3] 0) (.lit 0)) (sp (.lt (cj 3) (.lit 0)) (kc (cj 2) (mk (.dD 3)) (mk (cj 4)) bt (mk (cj 6)) (cj 7) (cj 8) (.lit 0) 2) xJ) rR))
theorem sm0 (H:TH d0 d1 s th 1 obj arg tries o c dn g r v):dY (dC d0 d1 s th 1 obj arg tries) zt0=Gl d0 s th 1 obj arg tries o c dn g r v:=by
 have hb:=H.hb;simp only [zz,H.eP,H.hZ,H.hR,H.hk,dR r th hb,dM r th hb,bI,vw,fe,dz,dy,cX,cW,dL,act,Int.reduceEq,Gl]<;>(repeat' split)<;>first |rfl|(exfalso; omega)
abbrev zt1:T Lf:=(sp (.eq (cj 3) (.dD 3)) (kc (cj 2) (.eD (.i (-1))) (mk (cj 4)) bt (mk (cj 6)) (cj 7) (cj 8) (.lit 0) 2) rR)
theorem sm1 (H:TH d0 d1 s th 2 obj arg tries o c dn g r v):dY (dC d0 d1 s th 2 obj arg tries) zt1=Gl d0 s th 2 obj arg tries o c dn g r v:=by
 have hb:=H.hb;simp only [zz,H.eP,H.hZ,H.hR,H.hk,dR r th hb,dM r th hb,bI,vw,fe,dz,dy,cX,cW,dL,act,Int.reduceEq,Gl]<;>(repeat' split)<;>first |rfl|(exfalso; omega)
theorem sm2 (H:TH d0 d1 s th 8 obj arg tries o c dn g r v):dY (dC d0 d1 s th 8 obj arg tries) zt1=Gl d0 s th 8 obj arg tries o c dn g r v:=by
 have hb:=H.hb;simp only [zz,H.eP,H.hZ,H.hR,H.hk,dR r th hb,dM r th hb,bI,vw,fe,dz,dy,cX,cW,dL,act,Int.reduceEq,Gl]<;>(repeat' split)<;>first |rfl|(exfalso; omega)
abbrev zt2:T Lf:=(sp (.lt (cj 3) (.lit 0)) (kc (cj 2) (mk (.dD 3)) (mk (cj 4)) bt (mk (cj 6)) (cj 7) (cj 8) (.lit 1) 2) (kc (cj 2) (mk (cj 3)) (mk (cj 4)) bt (mk (cj 6)) (cj 7) (cj 8) (.lit 0) 2))
theorem sm3 (H:TH d0 d1 s th 3 obj arg tries o c dn g r v):dY (dC d0 d1 s th 3 obj arg tries) zt2=Gl d0 s th 3 obj arg tries o c dn g r v:=by
 have hb:=H.hb;simp only [zz,H.eP,H.hZ,H.hR,H.hk,dR r th hb,dM r th hb,bI,vw,fe,dz,dy,cX,cW,dL,act,Int.reduceEq,Gl]<;>(repeat' split)<;>first |rfl|(exfalso; omega)
abbrev zt3:T Lf:=(sp (.lt (cj 3) (.lit 0)) (kc (cj 2) (mk (.dD 3)) (mk (cj 4)) bt (mk (cj 6)) (cj 7) (cj 8) (.lit 1) 2) (sp (.lt (.dD 7) (.dD 6)) xJ (kc (cj 2) (mk (cj 3)) (mk (cj 4)) bt (mk (cj 6)) (cj 7) (cj 8) (.lit 0) 2)))
theorem sm4 (H:TH d0 d1 s th 4 obj arg tries o c dn g r v):dY (dC d0 d1 s th 4 obj arg tries) zt3=Gl d0 s th 4 obj arg tries o c dn g r v:=by
 have hb:=H.hb;simp only [zz,H.eP,H.hZ,H.hR,H.hk,dR r th hb,dM r th hb,bI,vw,fe,dz,dy,cX,cW,dL,act,Int.reduceEq,Gl]<;>(repeat' split)<;>first |rfl|(exfalso; omega)
abbrev zt4:T Lf:=(sp (.eq (cj 3) (.dD 3)) rR (sp (.eq (rr 900 [cj 7,.dD 3] 0) (.lit 0)) (sp (.lt (cj 3) (.lit 0)) (kc (cj 2) (mk (cj 3)) (mk (cj 4)) bt (mk (cj 6)) (.op .snoc (cj 7) (mk (.dD 3))) (cj 8) (.lit 0) 2) xJ) rR))
theorem sm5 (H:TH d0 d1 s th 5 obj arg tries o c dn g r v) (hr:0<r.l.length):dY (dC d0 d1 s th 5 obj arg tries) zt4=Gl d0 s th 5 obj arg tries o c dn g r v:=by
 have hb:=H.hb;simp only [zz,H.eP,H.hZ,H.hR,H.hk,dR r th hb,dM r th hb,jn,ax,bI,vw,fe,dz,dy,cX,cW,dL,act,Int.reduceEq,Gl]<;>(repeat' split)<;>first |rfl|(exfalso; omega)
abbrev zt5:T Lf:=rR
theorem sm6 (H:TH d0 d1 s th 6 obj arg tries o c dn g r v) (hk:place r th<0):dY (dC d0 d1 s th 6 obj arg tries) zt5=Gl d0 s th 6 obj arg tries o c dn g r v:=by
 have hb:=H.hb;simp only [zz,H.eP,H.hZ,H.hR,H.hk,dR r th hb,dM r th hb,hk,bI,vw,fe,dz,dy,cX,cW,dL,act,Int.reduceEq,Gl]<;>(repeat' split)<;>first |rfl|(exfalso; omega)
abbrev zt6:T Lf:=(kc (cj 2) (mk (cj 3)) (mk (cj 4)) bt (mk (cj 6)) (.op .take kF kD) (cj 8) (.lit 0) 2)
theorem sm7 (H:TH d0 d1 s th 6 obj arg tries o c dn g r v) (hr:0<r.l.length) (hk: ¬place r th<0):dY (dC d0 d1 s th 6 obj arg tries) zt6=Gl d0 s th 6 obj arg tries o c dn g r v:=by
 have hb:=H.hb;rcases kV r th with ⟨hp,_⟩|⟨k,Pl,hp,_⟩
 ·grind
 have hw:IntKind.i64.wrap ((k:Int)+1)=(k:Int)+1:=me J J;have e1:((k:Int)+1+((r.l.length:Int)-((k:Int)+1))).toNat=r.l.length:=J
 have e2:((k:Int)+((r.l.length:Int)-((k:Int)+1))).toNat=r.l.length-1:=J
 have e3:((k:Int)+1).toNat=k+1:=J
 have h0: ¬((k:Int)<0):=J
 have W:=fun R=>(agH r.l k Pl R (r.l.drop (r.l.length-1))).resolve_right (by rw [bu]; omega);simp only [zz,H.eP,H.hZ,H.hR,H.hk,dR r th hb,dM r th hb,hp,hw,e1,e2,e3,h0,gP,bE,br,W,F4,bI,vw,fe,dz,dy,cX,cW,dL,act,Int.reduceEq,Gl]<;>(repeat' split)<;>first |rfl|(exfalso; omega)
abbrev zt7:T Lf:=(sp (.eq (cj 3) (.dD 3)) rR (sp (.eq (rr 900 [cj 7,.dD 3] 0) (.lit 0)) (sp (.eq (ln (cj 7)) (.lit 0)) (sp (.lt (cj 3) (.lit 0)) (kc (cj 2) (mk (.dD 3)) (mk (cj 4)) bt (mk (cj 6)) (cj 7) (cj 8) (.lit 0) 2) xJ) xJ) rR))
theorem sm8 (H:TH d0 d1 s th 7 obj arg tries o c dn g r v) (hr:0<r.l.length):dY (dC d0 d1 s th 7 obj arg tries) zt7=Gl d0 s th 7 obj arg tries o c dn g r v:=by
 have hb:=H.hb;simp only [zz,H.eP,H.hZ,H.hR,H.hk,dR r th hb,dM r th hb,bI,vw,fe,dz,dy,cX,cW,dL,act,Int.reduceEq,Gl]<;>(repeat' split)<;>first |rfl|(exfalso; omega)
abbrev zt8:T Lf:=(sp (.lt (.lit 0) (cj 4)) (kc (cj 2) (mk (cj 3)) (mk (wr (.sub (cj 4) (.lit 1)))) bt (mk (cj 6)) (cj 7) (cj 8) (.lit 0) 2) xJ)
theorem sm9 (H:TH d0 d1 s th 9 obj arg tries o c dn g r v):dY (dC d0 d1 s th 9 obj arg tries) zt8=Gl d0 s th 9 obj arg tries o c dn g r v:=by
 have hb:=H.hb;simp only [zz,H.eP,H.hZ,H.hR,H.hk,dR r th hb,dM r th hb,bI,vw,fe,dz,dy,cX,cW,dL,act,Int.reduceEq,Gl]<;>(repeat' split)<;>first |rfl|(exfalso; omega)
abbrev zt9:T Lf:=(sp (.lt (.lit 0) (cj 4)) (kc (cj 2) (mk (cj 3)) (mk (wr (.sub (cj 4) (.lit 1)))) bt (mk (cj 6)) (cj 7) (cj 8) (.lit 1) 2) (kc (cj 2) (mk (cj 3)) (mk (cj 4)) bt (mk (cj 6)) (cj 7) (cj 8) (.lit 0) 2))
theorem akG (H:TH d0 d1 s th 11 obj arg tries o c dn g r v):dY (dC d0 d1 s th 11 obj arg tries) zt9=Gl d0 s th 11 obj arg tries o c dn g r v:=by
 have hb:=H.hb;simp only [zz,H.eP,H.hZ,H.hR,H.hk,dR r th hb,dM r th hb,bI,vw,fe,dz,dy,cX,cW,dL,act,Int.reduceEq,Gl]<;>(repeat' split)<;>first |rfl|(exfalso; omega)
abbrev ag4:T Lf:=(sp (.lt (cj 4) O0) (kc (cj 2) (mk (cj 3)) (mk (wr (.add (cj 4) (.lit 1)))) bt (mk (cj 6)) (cj 7) (cj 8) (.lit 0) 2) rR)
theorem akF (H:TH d0 d1 s th 10 obj arg tries o c dn g r v):dY (dC d0 d1 s th 10 obj arg tries) ag4=Gl d0 s th 10 obj arg tries o c dn g r v:=by
 have hb:=H.hb;simp only [zz,H.eP,H.hZ,H.hR,H.hk,dR r th hb,dM r th hb,bI,vw,fe,dz,dy,cX,cW,dL,act,Int.reduceEq,Gl]<;>(repeat' split)<;>first |rfl|(exfalso; omega)
abbrev ag3:T Lf:=(sp (.lt (.dD 6) (wr (.sub (.lit 0) (cj 4)))) rR (sp (.lt (wr (.sub (.lit 1099511627776) (cj 4))) (.dD 6)) rR (kc (cj 2) (mk (cj 3)) (mk (wr (.add (cj 4) (.dD 6)))) bt (mk (cj 6)) (cj 7) (cj 8) (wr (.add (cj 4) (.dD 6))) 2)))
theorem akE (H:TH d0 d1 s th 17 obj arg tries o c dn g r v):dY (dC d0 d1 s th 17 obj arg tries) ag3=Gl d0 s th 17 obj arg tries o c dn g r v:=by
 have hb:=H.hb;simp only [zz,H.eP,H.hZ,H.hR,H.hk,dR r th hb,dM r th hb,bI,vw,fe,dz,dy,cX,cW,dL,act,Int.reduceEq,Gl]<;>(repeat' split)<;>first |rfl|(exfalso; omega)
abbrev ag2:T Lf:=(sp (.lt (.lit 0) (cj 4)) (kc (cj 2) (mk (cj 3)) (mk (wr (.sub (cj 4) (.lit 1)))) bt (mk (cj 6)) (cj 7) (cj 8) (wr (.sub (cj 4) (.lit 1))) 2) rR)
theorem akD (H:TH d0 d1 s th 18 obj arg tries o c dn g r v):dY (dC d0 d1 s th 18 obj arg tries) ag2=Gl d0 s th 18 obj arg tries o c dn g r v:=by
 have hb:=H.hb;simp only [zz,H.eP,H.hZ,H.hR,H.hk,dR r th hb,dM r th hb,bI,vw,fe,dz,dy,cX,cW,dL,act,Int.reduceEq,Gl]<;>(repeat' split)<;>first |rfl|(exfalso; omega)
abbrev ag1:T Lf:=(sp (.eq (cj 4) (.lit 0)) (kc (cj 2) (mk (cj 3)) (mk (cj 4)) bt (mk (cj 6)) (cj 7) (cj 8) (.lit 0) 2) xJ)
theorem akC (H:TH d0 d1 s th 19 obj arg tries o c dn g r v):dY (dC d0 d1 s th 19 obj arg tries) ag1=Gl d0 s th 19 obj arg tries o c dn g r v:=by
 have hb:=H.hb;simp only [zz,H.eP,H.hZ,H.hR,H.hk,dR r th hb,dM r th hb,bI,vw,fe,dz,dy,cX,cW,dL,act,Int.reduceEq,Gl]<;>(repeat' split)<;>first |rfl|(exfalso; omega)
abbrev ag0:T Lf:=(kc (cj 2) (mk (cj 3)) (mk (cj 4)) bt (mk (cj 6)) (cj 7) (cj 8) (cj 4) 2)
theorem akB (H:TH d0 d1 s th 22 obj arg tries o c dn g r v):dY (dC d0 d1 s th 22 obj arg tries) ag0=Gl d0 s th 22 obj arg tries o c dn g r v:=by
 have hb:=H.hb;simp only [zz,H.eP,H.hZ,H.hR,H.hk,dR r th hb,dM r th hb,bI,vw,fe,dz,dy,cX,cW,dL,act,Int.reduceEq,Gl]<;>(repeat' split)<;>first |rfl|(exfalso; omega)
abbrev agZ:T Lf:=(kc (cj 2) (mk (cj 3)) (mk (.dD 6)) bt (mk (cj 6)) (cj 7) (cj 8) (.dD 6) 2)
theorem akA (H:TH d0 d1 s th 23 obj arg tries o c dn g r v):dY (dC d0 d1 s th 23 obj arg tries) agZ=Gl d0 s th 23 obj arg tries o c dn g r v:=by
 have hb:=H.hb;simp only [zz,H.eP,H.hZ,H.hR,H.hk,dR r th hb,dM r th hb,bI,vw,fe,dz,dy,cX,cW,dL,act,Int.reduceEq,Gl]<;>(repeat' split)<;>first |rfl|(exfalso; omega)
abbrev aet:T Lf:=(sp (.lt (ln (cj 8)) O0) (kc (cj 2) (mk (cj 3)) (mk (cj 4)) bt (mk (cj 6)) (cj 7) (.op .snoc (cj 8) (mk (.dD 6))) (.dD 6) 2) xJ)
theorem aiu (H:TH d0 d1 s th 20 obj arg tries o c dn g r v) (hv:0<v.l.length):dY (dC d0 d1 s th 20 obj arg tries) aet=Gl d0 s th 20 obj arg tries o c dn g r v:=by
 have hb:=H.hb;simp only [zz,H.eP,H.hZ,H.hR,H.hk,dR r th hb,dM r th hb,jn,ax,bI,vw,fe,dz,dy,cX,cW,dL,act,Int.reduceEq,Gl]<;>(repeat' split)<;>first |rfl|(exfalso; omega)
abbrev aes:T Lf:=(sp (.eq (ln (cj 8)) (.lit 0)) xJ (kc (cj 2) (mk (cj 3)) (mk (cj 4)) bt (mk (cj 6)) (cj 7) (.op .drop (.op .take (cj 8) (.add (.lit 1) (.sub (ln (cj 8)) (.lit 1)))) (.lit 1)) (nm (el (cj 8) (.lit 0))) 2))
theorem ait (H:TH d0 d1 s th 21 obj arg tries o c dn g r v) (hv:0<v.l.length):dY (dC d0 d1 s th 21 obj arg tries) aes=Gl d0 s th 21 obj arg tries o c dn g r v:=by
 have hb:=H.hb;simp only [zz,H.eP,H.hZ,H.hR,H.hk,dR r th hb,dM r th hb,Rl v hv,bI,vw,fe,dz,dy,cX,cW,dL,act,Int.reduceEq,Gl]<;>(repeat' split)<;>first |rfl|(exfalso; omega)
abbrev aer:T Lf:=(sp (.eq (nm (ce 0 (el (cj 2) O0))) (.dD 3)) (kc (Uk (.eD (.i (-1)))) (mk (cj 3)) (mk (cj 4)) bt (mk (cj 6)) (.op .snoc (cj 7) (mk (.dD 3))) (cj 8) (.lit 0) 3) rR)
theorem ais (H:TH d0 d1 s th 12 obj arg tries o c dn g r v) (hr:0<r.l.length) (hw:wo th r.l=r.l):dY (dC d0 d1 s th 12 obj arg tries) aer=Gl d0 s th 12 obj arg tries o c dn g r v:=by
 have hb:=H.hb;simp only [zz,H.eP,H.hZ,H.hR,H.hk,dR r th hb,dM r th hb,hw,bE,jn,ax,bI,vw,fe,dz,dy,cX,cW,dL,act,Int.reduceEq,Gl]<;>(repeat' split)<;>first |rfl|(exfalso; omega)
abbrev agY:T Lf:=(sp (.eq (nm (ce 0 (el (cj 2) O0))) (.dD 3)) (kc (Uk (.eD (.i (-1)))) (mk (cj 3)) (mk (cj 4)) bt (mk (cj 6)) (.op .take (.op .cat (.op .cat (.op .take (rr 12000 sA 15) (rr 12000 sA 14)) (.op .snoc (.eD (.i 0)) (mk (.dD 3)))) (.op .drop (rr 12000 sA 15) (.add (rr 12000 sA 14) (.lit 1)))) (.add (rr 12000 sA 14) (.lit 1))) (cj 8) (.lit 0) 3) rR)
theorem akz (H:TH d0 d1 s th 12 obj arg tries o c dn g r v) (hr:0<r.l.length) (hv:0<v.l.length) {n:Nat} {r1:D} (hn:n<r.l.length) (Y:r1.l.length=r.l.length) (hw:r1.l.take n=wo th r.l) (W:L 12000 (dA d0 s r v th 12 obj arg tries o c dn g)=some (1::((dA d0 s r v th 12 obj arg tries o c dn g)++ [(n:Int),enc r1,(r.l.length:Int)]))):dY (dC d0 d1 s th 12 obj arg tries) agY=Gl d0 s th 12 obj arg tries o c dn g r v:=by
 have hb:=H.hb;have e3:((n:Int)+1).toNat=n+1:=J
 have hA: ∀B,(wo th r.l++ [D.i th]++B).take (n+1)=wo th r.l++ [.i th]:=fun B=>by
  grind
 have hB:wo th r.l++ [D.i th]≠[]:=ae
 simp only [zz,H.eP,H.hZ,H.hR,H.hk,dR r th hb,dM r th hb,W,aX,e3,l_p,gP,bE,jn,ax,br,hw,hA,F4,wG hB,bI,vw,fe,dz,dy,cX,cW,dL,act,Int.reduceEq,Gl]<;>(repeat' split)<;>first |rfl|(exfalso; omega)
abbrev aeq:T Lf:=(sp (.eq (ln (cj 7)) (.lit 0)) (kc (cj 2) (mk (cj 3)) (mk (cj 4)) bt (mk (cj 6)) (cj 7) (cj 8) (.lit 0) 2) (kc (cj 2) (mk (cj 3)) (mk (cj 4)) bt (mk (cj 6)) (.op .drop (.op .take (cj 7) (.add (.lit 1) (.sub (ln (cj 7)) (.lit 1)))) (.lit 1)) (cj 8) (wr (.add (nm (el (cj 7) (.lit 0))) (.lit 1))) 2))
theorem air (H:TH d0 d1 s th 13 obj arg tries o c dn g r v) (hr:0<r.l.length):dY (dC d0 d1 s th 13 obj arg tries) aeq=Gl d0 s th 13 obj arg tries o c dn g r v:=by
 have hb:=H.hb;simp only [zz,H.eP,H.hZ,H.hR,H.hk,dR r th hb,dM r th hb,Rl r hr,jn,ax,bI,vw,fe,dz,dy,cX,cW,dL,act,Int.reduceEq,Gl]<;>(repeat' split)<;>first |rfl|(exfalso; omega)
abbrev aep:T Lf:=(kc (cj 2) (mk (cj 3)) (mk (cj 4)) bt (mk (cj 6)) (.eD (.i 1)) (cj 8) (ln (cj 7)) 2)
theorem aiq (H:TH d0 d1 s th 14 obj arg tries o c dn g r v) (hr:0<r.l.length):dY (dC d0 d1 s th 14 obj arg tries) aep=Gl d0 s th 14 obj arg tries o c dn g r v:=by
 have hb:=H.hb;simp only [zz,H.eP,H.hZ,H.hR,H.hk,dR r th hb,dM r th hb,jn,ax,bI,vw,fe,dz,dy,cX,cW,dL,act,Int.reduceEq,Gl]<;>(repeat' split)<;>first |rfl|(exfalso; omega)
abbrev Wo:T Lf:=(sp (.eq (rr 900 [cj 7,.dD 3] 0) (.lit 0)) (sp (.lt (nm (ce 0 (el (cj 2) O0))) (.lit 0)) (kc (Uk (mk (.dD 3))) (mk (cj 3)) (mk (cj 4)) bt (mk (cj 6)) (cj 7) (cj 8) (.lit 0) 2) xJ) xJ)
theorem aaf (H:TH d0 d1 s th 24 obj arg tries o c dn g r v):dY (dC d0 d1 s th 24 obj arg tries) Wo=Gl d0 s th 24 obj arg tries o c dn g r v:=by
 have hb:=H.hb;simp only [zz,H.eP,H.hZ,H.hR,H.hk,dR r th hb,dM r th hb,bE,jn,ax,bI,vw,fe,dz,dy,cX,cW,dL,act,Int.reduceEq,Gl]<;>(repeat' split)<;>first |rfl|(exfalso; omega)
abbrev agX:T Lf:=(sp (.lt (cj 6) (.lit 4611686018427387904)) (sp (.eq (wr (.add (cj 4) (.lit 1))) O0) (kc (cj 2) (mk (cj 3)) (.eD (.i 0)) bt (mk (wr (.add (cj 6) (.lit 1)))) (cj 7) (cj 8) (cj 6) 3) (kc (cj 2) (mk (cj 3)) (mk (wr (.add (cj 4) (.lit 1)))) bt (mk (cj 6)) (cj 7) (cj 8) (cj 6) 3)) rR)
theorem aky (H:TH d0 d1 s th 15 obj arg tries o c dn g r v):dY (dC d0 d1 s th 15 obj arg tries) agX=Gl d0 s th 15 obj arg tries o c dn g r v:=by
 have hb:=H.hb;simp only [zz,H.eP,H.hZ,H.hR,H.hk,dR r th hb,dM r th hb,bI,vw,fe,dz,dy,cX,cW,dL,act,Int.reduceEq,Gl]<;>(repeat' split)<;>first |rfl|(exfalso; omega)
abbrev agW:T Lf:=(sp (.lt (.dD 6) (cj 6)) (kc (cj 2) (mk (cj 3)) (mk (cj 4)) bt (mk (cj 6)) (cj 7) (cj 8) (.dD 6) 2) xJ)
theorem akx (H:TH d0 d1 s th 25 obj arg tries o c dn g r v):dY (dC d0 d1 s th 25 obj arg tries) agW=Gl d0 s th 25 obj arg tries o c dn g r v:=by
 have hb:=H.hb;simp only [zz,H.eP,H.hZ,H.hR,H.hk,dR r th hb,dM r th hb,bI,vw,fe,dz,dy,cX,cW,dL,act,Int.reduceEq,Gl]<;>(repeat' split)<;>first |rfl|(exfalso; omega)
abbrev agV:T Lf:=(sp (.eq (cj 5) (.lit 0)) (sp (.eq (cj 3) (.dD 3)) rR (sp (.lt (cj 3) (.lit 0)) (kc (cj 2) (mk (.dD 3)) (mk (cj 4)) bt (mk (cj 6)) (cj 7) (cj 8) (.lit 1) 2) xJ)) (kc (cj 2) (mk (cj 3)) (mk (cj 4)) bt (mk (cj 6)) (cj 7) (cj 8) (.lit 0) 2))
theorem akw (H:TH d0 d1 s th 16 obj arg tries o c dn g r v):dY (dC d0 d1 s th 16 obj arg tries) agV=Gl d0 s th 16 obj arg tries o c dn g r v:=by
 have hb:=H.hb;simp only [zz,H.eP,H.hZ,H.hR,H.hk,dR r th hb,dM r th hb,bI,vw,fe,dz,dy,cX,cW,dL,act,Int.reduceEq,Gl]<;>(repeat' split)<;>first |rfl|(exfalso; omega)
abbrev agU:T Lf:=(sp (.eq (cj 3) (.dD 3)) (kc (cj 2) (.eD (.i (-1))) (mk (cj 4)) (.eD (.i 1)) (mk (cj 6)) (cj 7) (cj 8) (.lit 0) 2) rR)
theorem akv (H:TH d0 d1 s th 26 obj arg tries o c dn g r v):dY (dC d0 d1 s th 26 obj arg tries) agU=Gl d0 s th 26 obj arg tries o c dn g r v:=by
 have hb:=H.hb;simp only [zz,H.eP,H.hZ,H.hR,H.hk,dR r th hb,dM r th hb,bI,vw,fe,dz,dy,cX,cW,dL,act,Int.reduceEq,Gl]<;>(repeat' split)<;>first |rfl|(exfalso; omega)
abbrev aeo:T Lf:=(sp (.lt (.lit 0) O0) (kc (cj 2) (mk (cj 3)) (mk (cj 4)) bt (mk (cj 6)) (cj 7) (.op .snoc (.eD (.i 0)) (mk (.dD 6))) (.dD 6) 2) xJ)
theorem aip (H:TH d0 d1 s th 20 obj arg tries o c dn g r v) (hv:v.l= []):dY (dC d0 d1 s th 20 obj arg tries) aeo=Gl d0 s th 20 obj arg tries o c dn g r v:=by
 have hb:=H.hb;have hz2:((0:Nat):Int)=0:=rfl;simp only [zz,H.eP,H.hZ,H.hR,H.hk,dR r th hb,dM r th hb,hv,aC,ax,hz2,jn,bI,vw,fe,dz,dy,cX,cW,dL,act,Int.reduceEq,Gl]<;>(repeat' split)<;>first |rfl|(exfalso; omega)
abbrev aen:T Lf:=xJ
theorem aio (H:TH d0 d1 s th 21 obj arg tries o c dn g r v) (hv:v.l= []):dY (dC d0 d1 s th 21 obj arg tries) aen=Gl d0 s th 21 obj arg tries o c dn g r v:=by
 have hb:=H.hb;have hz2:((0:Nat):Int)=0:=rfl;simp only [zz,H.eP,H.hZ,H.hR,H.hk,dR r th hb,dM r th hb,hv,aC,ax,hz2,bI,vw,fe,dz,dy,cX,cW,dL,act,Int.reduceEq,Gl]<;>(repeat' split)<;>first |rfl|(exfalso; omega)
abbrev agT:T Lf:=(sp (.eq (nm (ce 0 (el (cj 2) O0))) (.dD 3)) (kc (Uk (.eD (.i (-1)))) (mk (cj 3)) (mk (cj 4)) bt (mk (cj 6)) (.op .take (.op .cat (.op .cat (.op .take (rr 12100 sA 15) (rr 12100 sA 14)) (.op .snoc (.eD (.i 0)) (mk (.dD 3)))) (.op .drop (rr 12100 sA 15) (.add (rr 12100 sA 14) (.lit 1)))) (.add (rr 12100 sA 14) (.lit 1))) (cj 8) (.lit 0) 3) rR)
theorem aku (H:TH d0 d1 s th 12 obj arg tries o c dn g r v) (hr:0<r.l.length) (hv:v.l= []) {n:Nat} {r1:D} (hn:n<r.l.length) (Y:r1.l.length=r.l.length) (hw:r1.l.take n=wo th r.l) (W:L 12100 (dA d0 s r v th 12 obj arg tries o c dn g)=some (1::((dA d0 s r v th 12 obj arg tries o c dn g)++ [(n:Int),enc r1,(r.l.length:Int)]))):dY (dC d0 d1 s th 12 obj arg tries) agT=Gl d0 s th 12 obj arg tries o c dn g r v:=by
 have hb:=H.hb;have hz2:((0:Nat):Int)=0:=rfl;have e3:((n:Int)+1).toNat=n+1:=J
 have hA: ∀B,(wo th r.l++ [D.i th]++B).take (n+1)=wo th r.l++ [.i th]:=fun B=>by
  grind
 have hB:wo th r.l++ [D.i th]≠[]:=ae
 simp only [zz,H.eP,H.hZ,H.hR,H.hk,dR r th hb,dM r th hb,hv,aC,ax,hz2,W,aX,e3,l_p,gP,bE,jn,br,hw,hA,F4,wG hB,bI,vw,fe,dz,dy,cX,cW,dL,act,Int.reduceEq,Gl]<;>(repeat' split)<;>first |rfl|(exfalso; omega)
abbrev aem:T Lf:=(sp (.eq (cj 3) (.dD 3)) rR (sp (.eq (rr 900 [cj 7,.dD 3] 0) (.lit 0)) (sp (.lt (cj 3) (.lit 0)) (kc (cj 2) (mk (cj 3)) (mk (cj 4)) bt (mk (cj 6)) (.op .snoc (.eD (.i 0)) (mk (.dD 3))) (cj 8) (.lit 0) 2) xJ) rR))
theorem ain (H:TH d0 d1 s th 5 obj arg tries o c dn g r v) (hr:r.l= []):dY (dC d0 d1 s th 5 obj arg tries) aem=Gl d0 s th 5 obj arg tries o c dn g r v:=by
 have hb:=H.hb;have hz:((0:Nat):Int)=0:=rfl;simp only [zz,H.eP,H.hZ,H.hR,H.hk,dR r th hb,dM r th hb,hr,aC,ax,hz,jn,bI,vw,fe,dz,dy,cX,cW,dL,act,Int.reduceEq,Gl]<;>(repeat' split)<;>first |rfl|(exfalso; omega)
theorem aim (H:TH d0 d1 s th 7 obj arg tries o c dn g r v) (hr:r.l= []):dY (dC d0 d1 s th 7 obj arg tries) zt0=Gl d0 s th 7 obj arg tries o c dn g r v:=by
 have hb:=H.hb;have hz:((0:Nat):Int)=0:=rfl;simp only [zz,H.eP,H.hZ,H.hR,H.hk,dR r th hb,dM r th hb,hr,aC,ax,hz,bI,vw,fe,dz,dy,cX,cW,dL,act,Int.reduceEq,Gl]<;>(repeat' split)<;>first |rfl|(exfalso; omega)
abbrev ael:T Lf:=(sp (.eq (nm (ce 0 (el (cj 2) O0))) (.dD 3)) (kc (Uk (.eD (.i (-1)))) (mk (cj 3)) (mk (cj 4)) bt (mk (cj 6)) (.op .snoc (.eD (.i 0)) (mk (.dD 3))) (cj 8) (.lit 0) 3) rR)
theorem ail (H:TH d0 d1 s th 12 obj arg tries o c dn g r v) (hr:r.l= []):dY (dC d0 d1 s th 12 obj arg tries) ael=Gl d0 s th 12 obj arg tries o c dn g r v:=by
 have hb:=H.hb;have hz:((0:Nat):Int)=0:=rfl;simp only [zz,H.eP,H.hZ,H.hR,H.hk,dR r th hb,dM r th hb,hr,aC,ax,hz,aeO hr,bE,jn,bI,vw,fe,dz,dy,cX,cW,dL,act,Int.reduceEq,Gl]<;>(repeat' split)<;>first |rfl|(exfalso; omega)
abbrev aek:T Lf:=(kc (cj 2) (mk (cj 3)) (mk (cj 4)) bt (mk (cj 6)) (cj 7) (cj 8) (.lit 0) 2)
theorem aik (H:TH d0 d1 s th 13 obj arg tries o c dn g r v) (hr:r.l= []):dY (dC d0 d1 s th 13 obj arg tries) aek=Gl d0 s th 13 obj arg tries o c dn g r v:=by
 have hb:=H.hb;have hz:((0:Nat):Int)=0:=rfl;simp only [zz,H.eP,H.hZ,H.hR,H.hk,dR r th hb,dM r th hb,hr,aC,ax,hz,jn,bI,vw,fe,dz,dy,cX,cW,dL,act,Int.reduceEq,Gl]<;>(repeat' split)<;>first |rfl|(exfalso; omega)
abbrev aej:T Lf:=(kc (cj 2) (mk (cj 3)) (mk (cj 4)) bt (mk (cj 6)) (.eD (.i 1)) (cj 8) (.lit 0) 2)
theorem aij (H:TH d0 d1 s th 14 obj arg tries o c dn g r v) (hr:r.l= []):dY (dC d0 d1 s th 14 obj arg tries) aej=Gl d0 s th 14 obj arg tries o c dn g r v:=by
 have hb:=H.hb;have hz:((0:Nat):Int)=0:=rfl;simp only [zz,H.eP,H.hZ,H.hR,H.hk,dR r th hb,dM r th hb,hr,aC,ax,hz,jn,bI,vw,fe,dz,dy,cX,cW,dL,act,Int.reduceEq,Gl]<;>(repeat' split)<;>first |rfl|(exfalso; omega)
end
def ops:List Int:=[1,2,8,3,4,5,6,7,9,11,10,17,18,19,22,23,20,21,12,13,14,24,15,25,16,26]
abbrev Yo (k:Int):List SB:=[.eq (.dD 4) (.lit k)]
abbrev No (k:Int):List SB:=(ops.filter fun j=>!(j == k)).map fun j=> .eq (.dD 4) (.lit j)
abbrev p3:T Lf:=prune (YG++YA3) (NG++NA3) jz
abbrev p4:T Lf:=prune (YG++YA4) (NG++NA4) jz
abbrev p5:T Lf:=prune (YG++YA5) (NG++NA5) jz
abbrev p6:T Lf:=prune (YG++YA6) (NG++NA6) jz
section
variable {d0 d1 s r v:D} {th op obj arg tries o c dn g:Int}
theorem Wv {ρ:Nat->Int}: ∀{l:List SB},(∀c∈l,¬c.den ρ=true)->zW ρ l
 |[],_=>trivial
 |c::l,h=> ⟨h c ae,Wv fun x hx=>h x (an2 _ hx)⟩
theorem fO (k:Int):zY (dC d0 d1 s th k obj arg tries) (Yo k)/\zW (dC d0 d1 s th k obj arg tries) (No k):=by
 refine⟨by simp only [zz],Wv fun c hc=>?_⟩;obtain⟨j,hj,rfl⟩:=bd.1 hc;have:=(anm.1 hj).2;simp only [zz];intro h
 grind
theorem VS (H:TH d0 d1 s th op obj arg tries o c dn g r v) (hr:0<r.l.length) (hv:0<v.l.length):dY (dC d0 d1 s th op obj arg tries) p3=dY (dC d0 d1 s th op obj arg tries) jz:=dE (z2 (fG H) (fA3 H hr hv)) jz
theorem VQ (H:TH d0 d1 s th op obj arg tries o c dn g r v) (hr:0<r.l.length) (hv:v.l= []):dY (dC d0 d1 s th op obj arg tries) p4=dY (dC d0 d1 s th op obj arg tries) jz:=dE (z2 (fG H) (fA4 H hr hv)) jz
theorem I' (H:TH d0 d1 s th op obj arg tries o c dn g r v) (hr:r.l= []) (hv:0<v.l.length):dY (dC d0 d1 s th op obj arg tries) p5=dY (dC d0 d1 s th op obj arg tries) jz:=dE (z2 (fG H) (fA5 H hr hv)) jz
theorem I_ (H:TH d0 d1 s th op obj arg tries o c dn g r v) (hr:r.l= []) (hv:v.l= []):dY (dC d0 d1 s th op obj arg tries) p6=dY (dC d0 d1 s th op obj arg tries) jz:=dE (z2 (fG H) (fA6 H hr hv)) jz
theorem jk {k:Int} {t u:T Lf} {Q:RS} (e:prune (Yo k) (No k) t=u) (h:dY (dC d0 d1 s th k obj arg tries) u=Q):dY (dC d0 d1 s th k obj arg tries) t=Q:=by rw [<- dE (fO k) t,e,h]
theorem jl (H:TH d0 d1 s th op obj arg tries o c dn g r v) {u:T Lf} {Q:RS} (e3:prune (Yo op) (No op) p3=u) (e4:prune (Yo op) (No op) p4=u) (e5:prune (Yo op) (No op) p5=u) (e6:prune (Yo op) (No op) p6=u) (h:dY (dC d0 d1 s th op obj arg tries) u=Q):dY (dC d0 d1 s th op obj arg tries) jz=Q:=by
 rcases jE r.l with hr|hr<;>rcases jE v.l with hv|hv
 ·exact (I_ H hr hv).symm.trans (jk e6 h)
 ·exact (I' H hr hv).symm.trans (jk e5 h)
 ·exact (VQ H hr hv).symm.trans (jk e4 h)
 ·exact (VS H hr hv).symm.trans (jk e3 h)
theorem o1 (H:TH d0 d1 s th 1 obj arg tries o c dn g r v):dY (dC d0 d1 s th 1 obj arg tries) jz=Gl d0 s th 1 obj arg tries o c dn g r v:=jl H (u:=zt0) ad ad ad ad (sm0 H)
theorem o2 (H:TH d0 d1 s th 2 obj arg tries o c dn g r v):dY (dC d0 d1 s th 2 obj arg tries) jz=Gl d0 s th 2 obj arg tries o c dn g r v:=jl H (u:=zt1) ad ad ad ad (sm1 H)
theorem o8 (H:TH d0 d1 s th 8 obj arg tries o c dn g r v):dY (dC d0 d1 s th 8 obj arg tries) jz=Gl d0 s th 8 obj arg tries o c dn g r v:=jl H (u:=zt1) ad ad ad ad (sm2 H)
theorem o3 (H:TH d0 d1 s th 3 obj arg tries o c dn g r v):dY (dC d0 d1 s th 3 obj arg tries) jz=Gl d0 s th 3 obj arg tries o c dn g r v:=jl H (u:=zt2) ad ad ad ad (sm3 H)
theorem o4 (H:TH d0 d1 s th 4 obj arg tries o c dn g r v):dY (dC d0 d1 s th 4 obj arg tries) jz=Gl d0 s th 4 obj arg tries o c dn g r v:=jl H (u:=zt3) ad ad ad ad (sm4 H)
theorem o5 (H:TH d0 d1 s th 5 obj arg tries o c dn g r v):dY (dC d0 d1 s th 5 obj arg tries) jz=Gl d0 s th 5 obj arg tries o c dn g r v:=by
 rcases jE r.l with hr|hr<;>rcases jE v.l with hv|hv
 ·exact (I_ H hr hv).symm.trans (jk (u:=aem) ad (ain H hr))
 ·exact (I' H hr hv).symm.trans (jk (u:=aem) ad (ain H hr))
 ·exact (VQ H hr hv).symm.trans (jk (u:=zt4) ad (sm5 H hr))
 ·exact (VS H hr hv).symm.trans (jk (u:=zt4) ad (sm5 H hr))
theorem o6 (H:TH d0 d1 s th 6 obj arg tries o c dn g r v):dY (dC d0 d1 s th 6 obj arg tries) jz=Gl d0 s th 6 obj arg tries o c dn g r v:=by
 rcases jE r.l with hr|hr<;>rcases jE v.l with hv|hv
 ·exact (I_ H hr hv).symm.trans (jk (u:=zt5) ad (sm6 H (by rw [w6 hr]; omega)))
 ·exact (I' H hr hv).symm.trans (jk (u:=zt5) ad (sm6 H (by rw [w6 hr]; omega)))
 ·by_cases hk:place r th<0
  ·exact (VQ H hr hv).symm.trans ((dE (fK0 H hk) _).symm.trans (jk (u:=zt5) ad (sm6 H hk)))
  ·exact (VQ H hr hv).symm.trans ((dE (fK1 H hk) _).symm.trans (jk (u:=zt6) ad (sm7 H hr hk)))
 ·by_cases hk:place r th<0
  ·exact (VS H hr hv).symm.trans ((dE (fK0 H hk) _).symm.trans (jk (u:=zt5) ad (sm6 H hk)))
  ·exact (VS H hr hv).symm.trans ((dE (fK1 H hk) _).symm.trans (jk (u:=zt6) ad (sm7 H hr hk)))
theorem o7 (H:TH d0 d1 s th 7 obj arg tries o c dn g r v):dY (dC d0 d1 s th 7 obj arg tries) jz=Gl d0 s th 7 obj arg tries o c dn g r v:=by
 rcases jE r.l with hr|hr<;>rcases jE v.l with hv|hv
 ·exact (I_ H hr hv).symm.trans (jk (u:=zt0) ad (aim H hr))
 ·exact (I' H hr hv).symm.trans (jk (u:=zt0) ad (aim H hr))
 ·exact (VQ H hr hv).symm.trans (jk (u:=zt7) ad (sm8 H hr))
 ·exact (VS H hr hv).symm.trans (jk (u:=zt7) ad (sm8 H hr))
theorem o9 (H:TH d0 d1 s th 9 obj arg tries o c dn g r v):dY (dC d0 d1 s th 9 obj arg tries) jz=Gl d0 s th 9 obj arg tries o c dn g r v:=jl H (u:=zt8) ad ad ad ad (sm9 H)
theorem o11 (H:TH d0 d1 s th 11 obj arg tries o c dn g r v):dY (dC d0 d1 s th 11 obj arg tries) jz=Gl d0 s th 11 obj arg tries o c dn g r v:=jl H (u:=zt9) ad ad ad ad (akG H)
theorem o10 (H:TH d0 d1 s th 10 obj arg tries o c dn g r v):dY (dC d0 d1 s th 10 obj arg tries) jz=Gl d0 s th 10 obj arg tries o c dn g r v:=jl H (u:=ag4) ad ad ad ad (akF H)
theorem o17 (H:TH d0 d1 s th 17 obj arg tries o c dn g r v):dY (dC d0 d1 s th 17 obj arg tries) jz=Gl d0 s th 17 obj arg tries o c dn g r v:=jl H (u:=ag3) ad ad ad ad (akE H)
theorem o18 (H:TH d0 d1 s th 18 obj arg tries o c dn g r v):dY (dC d0 d1 s th 18 obj arg tries) jz=Gl d0 s th 18 obj arg tries o c dn g r v:=jl H (u:=ag2) ad ad ad ad (akD H)
theorem o19 (H:TH d0 d1 s th 19 obj arg tries o c dn g r v):dY (dC d0 d1 s th 19 obj arg tries) jz=Gl d0 s th 19 obj arg tries o c dn g r v:=jl H (u:=ag1) ad ad ad ad (akC H)
theorem o22 (H:TH d0 d1 s th 22 obj arg tries o c dn g r v):dY (dC d0 d1 s th 22 obj arg tries) jz=Gl d0 s th 22 obj arg tries o c dn g r v:=jl H (u:=ag0) ad ad ad ad (akB H)
theorem o23 (H:TH d0 d1 s th 23 obj arg tries o c dn g r v):dY (dC d0 d1 s th 23 obj arg tries) jz=Gl d0 s th 23 obj arg tries o c dn g r v:=jl H (u:=agZ) ad ad ad ad (akA H)
theorem o20 (H:TH d0 d1 s th 20 obj arg tries o c dn g r v):dY (dC d0 d1 s th 20 obj arg tries) jz=Gl d0 s th 20 obj arg tries o c dn g r v:=by
 rcases jE r.l with hr|hr<;>rcases jE v.l with hv|hv
 ·exact (I_ H hr hv).symm.trans (jk (u:=aeo) ad (aip H hv))
 ·exact (I' H hr hv).symm.trans (jk (u:=aet) ad (aiu H hv))
 ·exact (VQ H hr hv).symm.trans (jk (u:=aeo) ad (aip H hv))
 ·exact (VS H hr hv).symm.trans (jk (u:=aet) ad (aiu H hv))
theorem o21 (H:TH d0 d1 s th 21 obj arg tries o c dn g r v):dY (dC d0 d1 s th 21 obj arg tries) jz=Gl d0 s th 21 obj arg tries o c dn g r v:=by
 rcases jE r.l with hr|hr<;>rcases jE v.l with hv|hv
 ·exact (I_ H hr hv).symm.trans (jk (u:=aen) ad (aio H hv))
 ·exact (I' H hr hv).symm.trans (jk (u:=aes) ad (ait H hv))
 ·exact (VQ H hr hv).symm.trans (jk (u:=aen) ad (aio H hv))
 ·exact (VS H hr hv).symm.trans (jk (u:=aes) ad (ait H hv))
theorem o12 (H:TH d0 d1 s th 12 obj arg tries o c dn g r v):dY (dC d0 d1 s th 12 obj arg tries) jz=Gl d0 s th 12 obj arg tries o c dn g r v:=by
 rcases jE r.l with hr|hr<;>rcases jE v.l with hv|hv
 ·have W:=abu r th obj (Mx d0 obj) (enc (dL (eV s.l (Mx d0 obj) (dL (eV (s.at (Mx d0 obj)).l 0 (.i (-1))))))) 12 arg tries o c dn g (enc v);exact (I_ H hr hv).symm.trans ((dE (fM H J) _).symm.trans ((dE (alQ H W) _).symm.trans (jk (u:=ael) ad (ail H hr))))
 ·have W:=abv r th obj (Mx d0 obj) (enc (dL (eV s.l (Mx d0 obj) (dL (eV (s.at (Mx d0 obj)).l 0 (.i (-1))))))) 12 arg tries o c dn g (enc v);exact (I' H hr hv).symm.trans ((dE (fM H J) _).symm.trans ((dE (alR H W) _).symm.trans (jk (u:=ael) ad (ail H hr))))
 ·rcases abw r th (by have:=H.hr; omega) H.hn with ⟨hw,W⟩|W
  ·have W:=W obj (Mx d0 obj) (enc (dL (eV s.l (Mx d0 obj) (dL (eV (s.at (Mx d0 obj)).l 0 (.i (-1))))))) 12 arg tries o c dn g (enc v);exact (VQ H hr hv).symm.trans ((dE (fM H J) _).symm.trans ((dE (alS H W) _).symm.trans (jk (u:=aer) ad (ais H hr hw))))
  ·obtain⟨n,r1,hn,Y,hw,W⟩:=W obj (Mx d0 obj) (enc (dL (eV s.l (Mx d0 obj) (dL (eV (s.at (Mx d0 obj)).l 0 (.i (-1))))))) 12 arg tries o c dn g (enc v);exact (VQ H hr hv).symm.trans ((dE (fM H J) _).symm.trans ((dE (alT H hn Y W) _).symm.trans (jk (u:=agT) ad (aku H hr hv hn Y hw W))))
 ·rcases abx r th (by have:=H.hr; omega) H.hn with ⟨hw,W⟩|W
  ·have W:=W obj (Mx d0 obj) (enc (dL (eV s.l (Mx d0 obj) (dL (eV (s.at (Mx d0 obj)).l 0 (.i (-1))))))) 12 arg tries o c dn g (enc v);exact (VS H hr hv).symm.trans ((dE (fM H J) _).symm.trans ((dE (alU H W) _).symm.trans (jk (u:=aer) ad (ais H hr hw))))
  ·obtain⟨n,r1,hn,Y,hw,W⟩:=W obj (Mx d0 obj) (enc (dL (eV s.l (Mx d0 obj) (dL (eV (s.at (Mx d0 obj)).l 0 (.i (-1))))))) 12 arg tries o c dn g (enc v);exact (VS H hr hv).symm.trans ((dE (fM H J) _).symm.trans ((dE (alV H hn Y W) _).symm.trans (jk (u:=agY) ad (akz H hr hv hn Y hw W))))
theorem o13 (H:TH d0 d1 s th 13 obj arg tries o c dn g r v):dY (dC d0 d1 s th 13 obj arg tries) jz=Gl d0 s th 13 obj arg tries o c dn g r v:=by
 rcases jE r.l with hr|hr<;>rcases jE v.l with hv|hv
 ·exact (I_ H hr hv).symm.trans (jk (u:=aek) ad (aik H hr))
 ·exact (I' H hr hv).symm.trans (jk (u:=aek) ad (aik H hr))
 ·exact (VQ H hr hv).symm.trans (jk (u:=aeq) ad (air H hr))
 ·exact (VS H hr hv).symm.trans (jk (u:=aeq) ad (air H hr))
theorem o14 (H:TH d0 d1 s th 14 obj arg tries o c dn g r v):dY (dC d0 d1 s th 14 obj arg tries) jz=Gl d0 s th 14 obj arg tries o c dn g r v:=by
 rcases jE r.l with hr|hr<;>rcases jE v.l with hv|hv
 ·exact (I_ H hr hv).symm.trans (jk (u:=aej) ad (aij H hr))
 ·exact (I' H hr hv).symm.trans (jk (u:=aej) ad (aij H hr))
 ·exact (VQ H hr hv).symm.trans (jk (u:=aep) ad (aiq H hr))
 ·exact (VS H hr hv).symm.trans (jk (u:=aep) ad (aiq H hr))
theorem o24 (H:TH d0 d1 s th 24 obj arg tries o c dn g r v):dY (dC d0 d1 s th 24 obj arg tries) jz=Gl d0 s th 24 obj arg tries o c dn g r v:=by
 rcases jE r.l with hr|hr<;>rcases jE v.l with hv|hv
 ·exact (I_ H hr hv).symm.trans ((dE (fM H J) _).symm.trans (jk (u:=Wo) ad (aaf H)))
 ·exact (I' H hr hv).symm.trans ((dE (fM H J) _).symm.trans (jk (u:=Wo) ad (aaf H)))
 ·exact (VQ H hr hv).symm.trans ((dE (fM H J) _).symm.trans (jk (u:=Wo) ad (aaf H)))
 ·exact (VS H hr hv).symm.trans ((dE (fM H J) _).symm.trans (jk (u:=Wo) ad (aaf H)))
theorem o15 (H:TH d0 d1 s th 15 obj arg tries o c dn g r v):dY (dC d0 d1 s th 15 obj arg tries) jz=Gl d0 s th 15 obj arg tries o c dn g r v:=jl H (u:=agX) ad ad ad ad (aky H)
theorem o25 (H:TH d0 d1 s th 25 obj arg tries o c dn g r v):dY (dC d0 d1 s th 25 obj arg tries) jz=Gl d0 s th 25 obj arg tries o c dn g r v:=jl H (u:=agW) ad ad ad ad (akx H)
theorem o16 (H:TH d0 d1 s th 16 obj arg tries o c dn g r v):dY (dC d0 d1 s th 16 obj arg tries) jz=Gl d0 s th 16 obj arg tries o c dn g r v:=jl H (u:=agV) ad ad ad ad (akw H)
theorem o26 (H:TH d0 d1 s th 26 obj arg tries o c dn g r v):dY (dC d0 d1 s th 26 obj arg tries) jz=Gl d0 s th 26 obj arg tries o c dn g r v:=jl H (u:=agU) ad ad ad ad (akv H)
theorem U_ (H:TH d0 d1 s th op obj arg tries o c dn g r v) (mI:op∈ops):L 400 [enc d0,enc d1,enc s,th,op,obj,arg,tries]=some (EK s th op obj (Mx d0 obj) (act (Mx d0 obj) (Mo d0 s obj) th op arg tries o c dn g r v)):=by
 rw [bP,agz]
 suffices h:dY (dC d0 d1 s th op obj arg tries) jz=Gl d0 s th op obj arg tries o c dn g r v by rw [h]; rfl
 unfold ops at mI;simp only [aH,am6,or_false] at mI;rcases mI with rfl|rfl|rfl|rfl|rfl|rfl|rfl|rfl|rfl|rfl|rfl|rfl|rfl|rfl|rfl|rfl|rfl|rfl|rfl|rfl|rfl|rfl|rfl|rfl|rfl|rfl
 ·exact o1 H
 ·exact o2 H
 ·exact o8 H
 ·exact o3 H
 ·exact o4 H
 ·exact o5 H
 ·exact o6 H
 ·exact o7 H
 ·exact o9 H
 ·exact o11 H
 ·exact o10 H
 ·exact o17 H
 ·exact o18 H
 ·exact o19 H
 ·exact o22 H
 ·exact o23 H
 ·exact o20 H
 ·exact o21 H
 ·exact o12 H
 all_goals grind [o13,o14,o24,o15,o25,o16,o26]
end
abbrev Yq:T Lf:=ou [.op .set (cj 2) (thg (mk (cj 3)) (mk (cj 4)) bt (mk (cj 6)) (cj 7) (cj 8)),.lit 0,.lit 0,.lit 0,.lit 0,.lit 0,.lit 0]
abbrev Ya (a:Int):List SB:=[.eq (a0 9000 [.dD 5,.dD 2]) (.lit 1),.eq (cj 0) (.lit a),.eq (a0 350 [.dD 0,.dD 1,.dD 2]) (.lit 1)]
abbrev Na (a:Int):List SB:=([0,1,2,3,4,5].filter fun j=>!(j == a)).map fun j=> .eq (cj 0) (.lit j)
abbrev r3:SB:=.eq (rr 350 [.dD 0,.dD 1,.dD 2] 0) (.lit 0)
abbrev t3:SB:=.lt (.dD 3) (.lit 0)
abbrev u3:SB:=.lt (.dD 3) (ln (.dD 1))
section
variable {d0 d1 s r v:D} {th op obj arg tries o c dn g b kop a:Int} (hR:L 350 [enc d0,enc d1,enc s]=some [b])
include hR
theorem fa {l:List Int} (hc:L 9000 [obj,enc s]=some (a::l)):zY (dC d0 d1 s th op obj arg tries) (Ya a)/\zW (dC d0 d1 s th op obj arg tries) (Na a):=by
 refine⟨by simp only [zz,hc,hR],Wv fun c hc'=>?_⟩;obtain⟨j,hj,rfl⟩:=bd.1 hc';have:=(anm.1 hj).2;simp only [zz,hc];intro h
 grind
theorem r9 (k:dY (dC d0 d1 s th op obj arg tries) jz= .out [enc s,0,0,0,0,0,0]):L 400 [enc d0,enc d1,enc s,th,op,obj,arg,tries]=some [enc s,0,0,0,0,0,0]:=by rw [bP,agz];exact congrArg (fin L) k
section
variable (ha:a=3\/a=4\/a=5\/a=6) (eP:L 9000 [obj,enc s]=some [a,obj,enc s,o,c,dn,g,enc r,enc v]) (v8:0<=obj) (v7:obj<(s.l.length:Int)) (W:dn=0\/dn=1) (hs:s=dL (eV s.l obj (dL [.i o,.i c,.i dn,.i g,r,v])))
include ha eP v8 v7 W hs
omit ha hR v8 v7 in
theorem Dy:dY (dC d0 d1 s th op obj arg tries) Yq= .out [enc s,0,0,0,0,0,0]:=by
 have e:(if dn=0 then (0:Int) else 1)=dn:=by rcases W with rfl|rfl<;>rfl
 simp only [dL] at hs;simp only [zz,eP,e,<- hs]
theorem akL (h:b=0):L 400 [enc d0,enc d1,enc s,th,op,obj,arg,tries]=some [enc s,0,0,0,0,0,0]:=
 r9 hR (bV (Ya a++ [r3]) (Na a++ []) Yq (z2 (fa hR eP) (by simp only [zz,eP,hR]<;>omega)) (by rcases ha with rfl|rfl|rfl|rfl<;>kernel_rfl) (Dy eP W hs))
theorem akK (hb:b≠0) (h:th<0):L 400 [enc d0,enc d1,enc s,th,op,obj,arg,tries]=some [enc s,0,0,0,0,0,0]:=
 r9 hR (bV (Ya a++ [t3]) (Na a++ [r3]) Yq (z2 (fa hR eP) (by simp only [zz,eP,hR]<;>omega)) (by rcases ha with rfl|rfl|rfl|rfl<;>kernel_rfl) (Dy eP W hs))
theorem akJ (hb:b≠0) (h0:0<=th) (h: ¬th<(d1.l.length:Int)):L 400 [enc d0,enc d1,enc s,th,op,obj,arg,tries]=some [enc s,0,0,0,0,0,0]:=
 r9 hR (bV (Ya a++ []) (Na a++ [r3,t3,u3]) Yq (z2 (fa hR eP) (by simp only [zz,eP,hR]<;>omega)) (by rcases ha with rfl|rfl|rfl|rfl<;>kernel_rfl) (Dy eP W hs))
theorem akM (hb:b≠0) (h0:0<=th) (h:th<(d1.l.length:Int)) (hk:L 600 [op]=some [kop]) (hlen:s.l.length=d0.l.length) (gb: ¬kop=((d0.at obj).W 0).n):L 400 [enc d0,enc d1,enc s,th,op,obj,arg,tries]=some [enc s,0,0,0,0,0,0]:=
 r9 hR (bV (Ya a++ [u3,.lt (.dD 5) (ln (cj 2)),.eq (a0 600 [.dD 4]) (.lit 1),.lt (.dD 5) (ln (.dD 0))]) (Na a++ [r3,t3,.lt (.dD 5) (.lit 0),.eq (rr 600 [.dD 4] 0) (nm (ce 0 (el (.dD 0) (.dD 5))))]) Yq (z2 (fa hR eP) (by simp only [zz,eP,hR,hk]<;>omega)) (by rcases ha with rfl|rfl|rfl|rfl<;>kernel_rfl) (Dy eP W hs))
end
theorem aiG (eP:L 9000 [obj,enc s]=some [0,obj,enc s]) (h:obj<0):L 400 [enc d0,enc d1,enc s,th,op,obj,arg,tries]=some [enc s,0,0,0,0,0,0]:=
 r9 hR (bV (Ya 0++ [.lt (.dD 5) (.lit 0)]) (Na 0++ []) (sp r3 (ou [cj 2,.lit 0,.lit 0,.lit 0,.lit 0,.lit 0,.lit 0]) (sp t3 (ou [cj 2,.lit 0,.lit 0,.lit 0,.lit 0,.lit 0,.lit 0]) (sp u3 (ou [cj 2,.lit 0,.lit 0,.lit 0,.lit 0,.lit 0,.lit 0]) (ou [cj 2,.lit 0,.lit 0,.lit 0,.lit 0,.lit 0,.lit 0])))) (z2 (fa hR eP) (by simp only [zz,eP]<;>omega)) ad (by simp only [zz,eP,hR,ite_self]))
theorem aiF (eP:L 9000 [obj,enc s]=some [0,obj,enc s]) (h0:0<=obj) (h: ¬obj<(s.l.length:Int)):L 400 [enc d0,enc d1,enc s,th,op,obj,arg,tries]=some [enc s,0,0,0,0,0,0]:=
 r9 hR (bV (Ya 0++ []) (Na 0++ [.lt (.dD 5) (.lit 0),.lt (.dD 5) (ln (cj 2))]) (sp r3 (ou [cj 2,.lit 0,.lit 0,.lit 0,.lit 0,.lit 0,.lit 0]) (sp t3 (ou [cj 2,.lit 0,.lit 0,.lit 0,.lit 0,.lit 0,.lit 0]) (sp u3 (ou [cj 2,.lit 0,.lit 0,.lit 0,.lit 0,.lit 0,.lit 0]) (ou [cj 2,.lit 0,.lit 0,.lit 0,.lit 0,.lit 0,.lit 0])))) (z2 (fa hR eP) (by simp only [zz,eP]<;>omega)) ad (by simp only [zz,eP,hR,ite_self]))
theorem aiE (eP:L 9000 [obj,enc s]=some [1,obj]) (h:obj<0) (hs:s= .i 1):L 400 [enc d0,enc d1,enc s,th,op,obj,arg,tries]=some [enc s,0,0,0,0,0,0]:=
 r9 hR (bV (Ya 1++ [.lt (.dD 5) (.lit 0)]) (Na 1++ []) (sp r3 (ou [.eD (.i 1),.lit 0,.lit 0,.lit 0,.lit 0,.lit 0,.lit 0]) (sp t3 (ou [.eD (.i 1),.lit 0,.lit 0,.lit 0,.lit 0,.lit 0,.lit 0]) (sp u3 (ou [.eD (.i 1),.lit 0,.lit 0,.lit 0,.lit 0,.lit 0,.lit 0]) (ou [.eD (.i 1),.lit 0,.lit 0,.lit 0,.lit 0,.lit 0,.lit 0])))) (z2 (fa hR eP) (by simp only [zz,eP]<;>omega)) ad (by simp only [zz,eP,hR,hs,ite_self]))
theorem aiD (eP:L 9000 [obj,enc s]=some [1,obj]) (h0:0<=obj) (h: ¬obj<(s.l.length:Int)) (hs:s= .i 1):L 400 [enc d0,enc d1,enc s,th,op,obj,arg,tries]=some [enc s,0,0,0,0,0,0]:=
 r9 hR (bV (Ya 1++ []) (Na 1++ [.lt (.dD 5) (.lit 0)]) (sp r3 (ou [.eD (.i 1),.lit 0,.lit 0,.lit 0,.lit 0,.lit 0,.lit 0]) (sp t3 (ou [.eD (.i 1),.lit 0,.lit 0,.lit 0,.lit 0,.lit 0,.lit 0]) (sp u3 (ou [.eD (.i 1),.lit 0,.lit 0,.lit 0,.lit 0,.lit 0,.lit 0]) (ou [.eD (.i 1),.lit 0,.lit 0,.lit 0,.lit 0,.lit 0,.lit 0])))) (z2 (fa hR eP) (by simp only [zz,eP]<;>omega)) ad (by simp only [zz,eP,hR,hs,ite_self]))
theorem aiC (eP:L 9000 [obj,enc s]=some [2,obj]) (h:obj<0) (hs:s= .i 2):L 400 [enc d0,enc d1,enc s,th,op,obj,arg,tries]=some [enc s,0,0,0,0,0,0]:=
 r9 hR (bV (Ya 2++ [.lt (.dD 5) (.lit 0)]) (Na 2++ []) (sp r3 (ou [.eD (.i 2),.lit 0,.lit 0,.lit 0,.lit 0,.lit 0,.lit 0]) (sp t3 (ou [.eD (.i 2),.lit 0,.lit 0,.lit 0,.lit 0,.lit 0,.lit 0]) (sp u3 (ou [.eD (.i 2),.lit 0,.lit 0,.lit 0,.lit 0,.lit 0,.lit 0]) (ou [.eD (.i 2),.lit 0,.lit 0,.lit 0,.lit 0,.lit 0,.lit 0])))) (z2 (fa hR eP) (by simp only [zz,eP]<;>omega)) ad (by simp only [zz,eP,hR,hs,ite_self]))
theorem aiB (eP:L 9000 [obj,enc s]=some [2,obj]) (h0:0<=obj) (h: ¬obj<(s.l.length:Int)) (hs:s= .i 2):L 400 [enc d0,enc d1,enc s,th,op,obj,arg,tries]=some [enc s,0,0,0,0,0,0]:=
 r9 hR (bV (Ya 2++ []) (Na 2++ [.lt (.dD 5) (.lit 0)]) (sp r3 (ou [.eD (.i 2),.lit 0,.lit 0,.lit 0,.lit 0,.lit 0,.lit 0]) (sp t3 (ou [.eD (.i 2),.lit 0,.lit 0,.lit 0,.lit 0,.lit 0,.lit 0]) (sp u3 (ou [.eD (.i 2),.lit 0,.lit 0,.lit 0,.lit 0,.lit 0,.lit 0]) (ou [.eD (.i 2),.lit 0,.lit 0,.lit 0,.lit 0,.lit 0,.lit 0])))) (z2 (fa hR eP) (by simp only [zz,eP]<;>omega)) ad (by simp only [zz,eP,hR,hs,ite_self]))
end
def kindOf (o:Int):Int:=if o<27 then (if o=0 then 0 else if o=1 then 1 else if o=2 then 1 else if o=3 then 1 else if o=4 then 1 else if o=5 then 2 else if o=6 then 2 else if o=7 then 2 else if o=8 then 2 else if o=9 then 3 else if o=10 then 3 else if o=11 then 3 else if o=12 then 4 else if o=13 then 4 else if o=14 then 4 else if o=15 then 5 else if o=16 then 6 else if o=17 then 7 else if o=18 then 7 else if o=19 then 7 else if o=20 then 8 else if o=21 then 8 else if o=22 then 9 else if o=23 then 9 else if o=24 then 4 else if o=25 then 5 else 6) else 0
theorem Mh (o:Int) (h:dV .u8 o):L 600 [o]=some [kindOf o]:=by
 have U:=h.1;have w:=ahK h;have c1: ¬(o<0):=J
 rw [bP,ajV];simp only [ah0,zz,w,c1];by_cases h27:o<27
 ·simp only [an h27];have:o=0\/o=1\/o=2\/o=3\/o=4\/o=5\/o=6\/o=7\/o=8\/o=9\/o=10\/o=11\/o=12\/o=13\/o=14\/o=15\/o=16\/o=17\/o=18\/o=19\/o=20\/o=21\/o=22\/o=23\/o=24\/o=25\/o=26:=J
  rcases this with rfl|rfl|rfl|rfl|rfl|rfl|rfl|rfl|rfl|rfl|rfl|rfl|rfl|rfl|rfl|rfl|rfl|rfl|rfl|rfl|rfl|rfl|rfl|rfl|rfl|rfl|rfl
  all_goals rfl
 ·simp only [ak h27];unfold kindOf;rw [ak h27];rfl
theorem YJ {o:Int} (h0:0<=o) (h:kindOf o≠0):o∈ops:=by
 have h27:o<27:=by
  refine Decidable.byContradiction fun hn=>h ?_;unfold kindOf
  grind
 have:o=0\/o=1\/o=2\/o=3\/o=4\/o=5\/o=6\/o=7\/o=8\/o=9\/o=10\/o=11\/o=12\/o=13\/o=14\/o=15\/o=16\/o=17\/o=18\/o=19\/o=20\/o=21\/o=22\/o=23\/o=24\/o=25\/o=26:=J
 rcases this with rfl|rfl|rfl|rfl|rfl|rfl|rfl|rfl|rfl|rfl|rfl|rfl|rfl|rfl|rfl|rfl|rfl|rfl|rfl|rfl|rfl|rfl|rfl|rfl|rfl|rfl|rfl
 all_goals first |exact absurd rfl h|decide
structure Acc (d0 d1 s:D) (th op obj:Int):Prop where
 r:L 350 [enc d0,enc d1,enc s]=some [1]
 t0:0<=th
 t1:th<(d1.l.length:Int)
 o0:0<=obj
 o1:obj<(s.l.length:Int)
 k:kindOf op=((d0.at obj).W 0).n
structure Tg (x:D) (o c dn g:Int) (r v:D):Prop where
 is:x=dL [.i o,.i c,.i dn,.i g,r,v]
 ho:dV .i64 o
 hc:dV .i64 c
 W:dn=0\/dn=1
 hg:dV .i64 g
 hr:Wd (.sl 0) r
 hv:Wd (.sl 0) v
theorem D8 {x:D} (h:xi x): ∃o c dn g r v,Tg x o c dn g r v:=by obtain⟨o,c,d,g,r,v,U,Z,h3,h4,h5,h6,h7⟩:=h;exact⟨o,c,d,g,r,v,U,Z,h3,h4,h5,h6,h7⟩
theorem S! {r:D} (h:Wd (.sl 0) r): ∀x∈r.l,x= .i x.n:=by intro x hx;obtain⟨n,rfl,_⟩:=(h.el1 rfl x hx).i;rfl
def kr (s:D):Prop:= ∀x∈s.l,(x.W 4).l.length<17592186044415/\(x.W 5).l.length<17592186044415
theorem kr.rows {s:D} (h:kr s):BD s:=fun x hx=>by have:=(h x hx).1; omega
section
variable {d0 d1 s:D} {th op obj arg tries:Int} (h0:Wd (.sl 3) d0) (U:Wd (.sl 4) d1) (hs:Wd (.sl 7) s) (hf:kr s) (mI:dV .u8 op)
include h0 U hf in
theorem Et (h:L 350 [enc d0,enc d1,enc s]=some [1]):mF d0 d1/\s.l.length=d0.l.length:=by
 obtain⟨b,hb,_,hi⟩:=kT h0 U hf.rows;rw [h] at hb;simp only [aq,List.cons.injEq,and_true] at hb;obtain⟨hC,hle,_⟩:=hi.1 hb.symm;obtain⟨ys,L?,c,rfl,_,pf⟩:=tp h0 U
 grind
include h0 U hf in
theorem TD (A:Acc d0 d1 s th op obj):RM d0 (d0.at obj)/\s.l.length=d0.l.length:=by
 obtain⟨pf,hle⟩:=Et h0 U hf A.r;refine⟨?_,hle⟩;have a1:=A.o0; have a2:=A.o1;obtain⟨i,rfl⟩ : ∃i:Nat,obj=(i:Int):=⟨obj.toNat,J⟩;have hi:i<d0.l.length:=J
 rw [bT hi];exact pf.2.2 _ (aF hi)
include h0 U hs hf mI
theorem Gn (A:Acc d0 d1 s th op obj) (h:op=12\/op=24):0<=Mx d0 obj/\Mx d0 obj<(s.l.length:Int)/\Mx d0 obj≠obj:=by
 obtain⟨ho,hle⟩:=TD h0 U hf A
 have h4:((d0.at obj).W 0).n=4:=by rw [<- A.k];rcases h with rfl|rfl<;>rfl
 obtain⟨m1,m2,m3⟩:=ho.2.2.2.2.2 h4
 grind
theorem re (A:Acc d0 d1 s th op obj):op∈ops/\∃o c dn g r v,Tg (s.at obj) o c dn g r v/\
 L 400 [enc d0,enc d1,enc s,th,op,obj,arg,tries]=some (EK s th op obj (Mx d0 obj) (act (Mx d0 obj) (Mo d0 s obj) th op arg tries o c dn g r v)):=by
 obtain⟨ho,hle⟩:=TD h0 U hf A;have Ao:op∈ops:=YJ mI.1 (by rw [A.k]; have:=ho.1; omega);have a1:=A.o0; have a2:=A.o1;obtain⟨i,rfl⟩ : ∃i:Nat,obj=(i:Int):=⟨obj.toNat,J⟩;have hi:i<s.l.length:=J
 have ht:=uV hs J;obtain⟨o,c,dn,g,r,v,T⟩:=D8 (hs.mO _ (aF hi));have hfx:=hf _ (aF hi);rw [T.is] at hfx;have xN:L 600 [op]=some [((d0.at (i:Int)).W 0).n]:=by rw [Mh op mI,A.k]
 refine⟨Ao,o,c,dn,g,r,v,by rw [bT hi]; exact T,?_⟩;refine U_ ⟨ad9 s ht i hi o c dn g r v T.is,t? s hs,A.r,A.t0,A.t1,A.o0,A.o1,hle,xN,?_,?_,(S! T.hr),fun h=>Gn h0 U hs hf mI A h⟩ Ao
 ·have:(r.l.length:Int)<17592186044415:=aod.2 hfx.1
  grind
 ·have:(v.l.length:Int)<17592186044415:=aod.2 hfx.2
  grind
theorem Bq (A: ¬Acc d0 d1 s th op obj):L 400 [enc d0,enc d1,enc s,th,op,obj,arg,tries]=some [enc s,0,0,0,0,0,0]:=by
 obtain⟨b,hb,rU,_⟩:=kT h0 U hf.rows;by_cases ho:0<=obj/\obj<(s.l.length:Int)
 ·obtain⟨i,rfl⟩ : ∃i:Nat,obj=(i:Int):=⟨obj.toNat,J⟩;have hi:i<s.l.length:=J
  have ht:=uV hs J;obtain⟨o,c,dn,g,r,v,T⟩:=D8 (hs.mO _ (aF hi));have eP:=ad9 s ht i hi o c dn g r v T.is
  have hss:s=dL (eV s.l (i:Int) (dL [.i o,.i c,.i dn,.i g,r,v])):=by
   have:=ec ht.sh hi;rw [T.is] at this
   grind
  have xN:=Mh op mI
  have key: ∀alt:Int,(alt=3\/alt=4\/alt=5\/alt=6)->L 9000 [(i:Int),enc s]=some [alt,(i:Int),enc s,o,c,dn,g,enc r,enc v]->L 400 [enc d0,enc d1,enc s,th,op,(i:Int),arg,tries]=some [enc s,0,0,0,0,0,0]:=by
   intro alt ha eP;by_cases sv:b=0
   ·exact akL hb ha eP ho.1 ho.2 T.W hss sv
   ·have Sv:b=1:=J
    by_cases t0:th<0
    ·exact akK hb ha eP ho.1 ho.2 T.W hss sv t0
    ·by_cases t1:th<(d1.l.length:Int)
     ·have gb: ¬kindOf op=((d0.at (i:Int)).W 0).n:=fun hk=>A ⟨by rw [hb,Sv],J,t1,ho.1,ho.2,hk⟩;obtain⟨_,hle⟩:=Et h0 U hf (by rw [hb,Sv]);exact akM hb ha eP ho.1 ho.2 T.W hss sv J t1 xN hle gb
     ·exact akJ hb ha eP ho.1 ho.2 T.W hss sv J t1
  refine key _ ?_ eP;unfold mw
  grind
 ·obtain⟨ys,hc,H4⟩:=aj6 s hs obj J;by_cases hn:obj<0
  ·rcases H4 with rfl|⟨rfl,he⟩|⟨rfl,he⟩
   ·exact aiG hb hc hn
   ·exact aiE hb hc hn he
   ·exact aiC hb hc hn he
  ·rcases H4 with rfl|⟨rfl,he⟩|⟨rfl,he⟩
   ·exact aiF hb hc J J
   ·exact aiD hb hc J J he
   ·exact aiB hb hc J J he
end
theorem Dt {d:D} {l:List D} (h: ∀x∈l,∃n,x= .i n/\dV .i64 n) (Y:l.length<=17592186043904):Wd (.sl 0) (fk d l):=by
 cases l with
 |nil=>
  show Wd (.sl 0) (if d= .i 1 then .i 1 else .i 2);split
  ·exact .nil 0
  ·exact .xc 0
 |cons a l=> refine .one 0 (.int .i64) (a::l) rfl ae (by have:tu 0=8:=rfl; rw [this]; omega) fun x hx=>?_;obtain⟨n,rfl,hn⟩:=h x hx;exact .int _ _ hn
theorem wT {l:List D} (h: ∀x∈l,∃n,x= .i n/\dV .i64 n) (hn:l≠[]) (Y:l.length<=17592186043904):Wd (.sl 0) (dL l):=by rw [<- wG (d:=.i 2) hn];exact Dt h Y
theorem tE {r:D} (h:Wd (.sl 0) r): ∀x∈r.l,∃n,x= .i n/\dV .i64 n:=fun x hx=>(h.el1 rfl x hx).i
theorem ra (z:Int):dV .i64 (IntKind.i64.wrap z):=by constructor<;>(rw [IntKind.wrap_i64]; omega)
def Gw (n:Nat):Act->Prop
 | .res o c dn g r v m _ oc=>dV .i64 o/\dV .i64 c/\(dn=0\/dn=1)/\dV .i64 g/\Wd (.sl 0) r/\r.l.length<=n/\Wd (.sl 0) v/\v.l.length<=n/\(∀q,m=some q->dV .i64 q)/\(oc=2\/oc=3)
 |_=>True
theorem Gw.ite {n:Nat} {p:Prop} [Decidable p] {a b:Act} (ha:Gw n a) (hb:Gw n b):Gw n (if p then a else b):=by
 grind
def Dp:Act->Prop
 | .res _ _ _ _ _ _ m _ _=>m=none
 |_=>True
theorem Dp.ite {p:Prop} [Decidable p] {a b:Act} (ha:Dp a) (hb:Dp b):Dp (if p then a else b):=by
 grind
section
variable {x:D} {M mo th op arg tries o c dn g:Int} {r v:D}
theorem QF (T:Tg x o c dn g r v) {n:Nat} (hr:r.l.length<=n) (hv:v.l.length<=n) (hn:n<17592186043904) (ht:dV .i64 th) (ha:dV .i64 arg):Gw (n+1) (act M mo th op arg tries o c dn g r v):=by
 have hm:dV .i64 (-1):=⟨J,J⟩;have hz:dV .i64 0:=⟨J,J⟩;have e1: ∀q:Int,(none:Option Int)=some q->dV .i64 q:=fun q h=>by simp at h
 have e2: ∀{p:Int},dV .i64 p->∀q:Int,some p=some q->dV .i64 q:=fun hp q h=>by simp only [aq] at h; exact h▸hp
 have hr1:r.l.length<=n+1:=J
 have hv1:v.l.length<=n+1:=J
 have w:=@ra
 have sn: ∀{l:List D} {t:Int},(∀x∈l,∃n,x= .i n/\dV .i64 n)->dV .i64 t->∀x∈l++ [.i t],∃n,x= .i n/\dV .i64 n:=fun h ht x hx=>by
  grind
 have r5:Wd (.sl 0) (dL (r.l++ [.i th])):=wT (sn (tE T.hr) ht) ae (by simp; omega);have l5:(dL (r.l++ [.i th])).l.length<=n+1:=by rw [bE]; simp; omega
 have r20:Wd (.sl 0) (dL (v.l++ [.i arg])):=wT (sn (tE T.hv) ha) ae (by simp; omega);have l20:(dL (v.l++ [.i arg])).l.length<=n+1:=by rw [bE]; simp; omega
 have r12:Wd (.sl 0) (dL (wo th r.l++ [.i th])):=wT (sn (fun x hx=>(tE T.hr) x (anm.1 hx).1) ht) ae (by have:=WB th r.l; simp; omega);have l12:(dL (wo th r.l++ [.i th])).l.length<=n+1:=by have:=WB th r.l; rw [bE]; simp; omega
 have r6: ∀k,Wd (.sl 0) (fk (.i 2) (r.l.take k++r.l.drop (k+1))):=fun k=>Dt (fun x hx=>by
  rcases am2.1 hx with hx|hx
  ·exact (tE T.hr) x (am1 hx)
  ·exact (tE T.hr) x (amY hx)) (by simp only [a8,bk,bu]; omega)
 have l6: ∀k,(fk (.i 2) (r.l.take k++r.l.drop (k+1))).l.length<=n+1:=fun k=>by rw [gP]; simp only [a8,bk,bu]; omega
 have r21:Wd (.sl 0) (fk v (v.l.drop 1)):=Dt (fun x hx=>(tE T.hv) x (amY hx)) (by simp; omega);have l21:(fk v (v.l.drop 1)).l.length<=n+1:=by rw [gP]; simp; omega
 have r13:Wd (.sl 0) (fk r (r.l.drop 1)):=Dt (fun x hx=>(tE T.hr) x (amY hx)) (by simp; omega);have l13:(fk r (r.l.drop 1)).l.length<=n+1:=by rw [gP]; simp; omega
 have r14:Wd (.sl 0) (.i 1):=.nil 0;have l14:(D.i 1).l.length<=n+1:=by simp [D.l]
 unfold act
 repeat' refine Gw.ite ?_ ?_
 all_goals first
  |trivial
  |exact⟨by first |exact T.ho|exact ht|exact hm,by first |exact T.hc|exact w _|exact ha|exact hz,by first |exact T.W|exact .inr rfl,by first |exact T.hg|exact w _,by first |exact T.hr|exact r5|exact r6 _|exact r12|exact r13|exact r14,by first |exact hr1|exact l5|exact l6 _|exact l12|exact l13|exact l14,by first |exact T.hv|exact r20|exact r21,by first |exact hv1|exact l20|exact l21,by first |exact e1|exact e2 hm|exact e2 ht,by first |exact .inl rfl|exact .inr rfl⟩
theorem xF (h12:op≠12) (h24:op≠24):Dp (act M mo th op arg tries o c dn g r v):=by
 unfold act;rw [ak h12,ak h24]
 repeat' refine Dp.ite ?_ ?_
 all_goals first
  |exact rfl
  |trivial
end
def isN (ys:List Int):Prop:= ∃v:Int,ys= [v]/\dV .i64 v
theorem YQ:isN [0]:=⟨0,rfl,by constructor<;>omega⟩
theorem YP:isN [1]:=⟨1,rfl,by constructor<;>omega⟩
theorem acM (z:Int):isN [IntKind.i64.wrap z]:=⟨_,rfl,ra z⟩
theorem Em: ∀{d x:D},x∈d.l->SizeOf.sizeOf x<SizeOf.sizeOf d
 | .i _,x,h=>by simp [D.l] at h
 | .p a b,x,h=>by
   simp only [D.l,aH] at h;rcases h with rfl|h
   ·grind
   ·have:=Em (d:=b) h
    grind
def G? (l:List D):Prop:= ∀y∈l,dV .i64 (GS y).n
theorem Yr:G? []:=fun y h=>by simp at h
theorem zV: ∀{l:List D} {k v:D},G? l->dV .i64 v.n->G? (jP l k v)
 |[],k,v,_,hv=>by intro y hy;simp only [jP,aH,am6,or_false] at hy;subst hy;exact hv
 |d::l,k,v,Y,hv=>by
  intro y hy;simp only [jP] at hy;split at hy
  ·simp only [aH] at hy;rcases hy with rfl|hy
   ·exact hv
   ·exact Y y (by simp [hy])
  ·simp only [aH] at hy;rcases hy with rfl|hy
   ·exact Y _ ae
   ·exact zV (fun z hz=>Y z (by simp [hz])) hv y hy
theorem L2: ∀{l:List D} {k:D},G? l->dV .i64 ((df l k).getD (.i 0)).n
 |[],k,_=>by constructor<;>simp [df,D.n]
 |d::l,k,Y=>by
  simp only [df];split
  ·exact Y d ae
  ·exact L2 fun y hy=>Y y (by simp [hy])
theorem aaR {l:List D} {k:D} (h:G? l):isN [((df l k).getD (.i 0)).n]:=⟨_,rfl,L2 h⟩
def VH (d:D):Prop:= ∀x∈d.l,dV .i64 x.n
theorem ints_at {d:D} (h:VH d) {i:Int} (h0: ¬i<0) (U:i<(d.l.length:Int)):dV .i64 (d.at i).n:=by obtain⟨k,rfl⟩ : ∃k:Nat,i=(k:Int):=⟨i.toNat,J⟩;rw [bT (by omega:k<d.l.length)];exact h _ (aF _)
set_option maxHeartbeats 4000000 in
theorem MO: ∀(N:Nat) (kids:D),SizeOf.sizeOf kids<=N->Wd (.sl 6) kids->∀(k n:Int) (s loc:D),dV .i64 n->VH loc->dw 1950 [k,enc s,n,enc kids,enc loc] isN
 |0,kids,hN,_,_,_,_,_,_,_=>by exfalso;cases kids<;>simp at hN
 |N+1,kids,hN,hk,k,n,s,loc,hn,hi=>by
  have sub: ∀i:Nat,∃v:Int,dV .i64 v/\(i<kids.l.length->L 1950 [((kids.at (i:Int)).W 0).n,enc ((kids.at (i:Int)).W 1),((kids.at (i:Int)).W 2).n,enc ((kids.at (i:Int)).W 3),enc loc]=some [v]):=by
   intro i;by_cases dK:i<kids.l.length
   ·obtain⟨k',s',n',ks',he,_,_,hn',Z⟩:=xt hk dK
    have iR:SizeOf.sizeOf ks'<SizeOf.sizeOf kids.l[i]:=by rw [he];exact Em (by rw [bE]; simp)
    have amH:=Em (aF dK);obtain⟨ys,hL,v,rfl,hv⟩:=MO N ks' J Z k' n' s' loc hn' hi;refine⟨v,hv,fun _=>?_⟩;rw [bT dK,he];simp only [zg,ay];exact hL
   grind
  obtain⟨v0,hv0,h0⟩:=sub 0;obtain⟨v1,hv1,U⟩:=sub 1;by_cases l1:(kids.l.length:Int)=1
  ·have h0:=h0 J;simp only [aQ] at h0;refine dw.of ?_;rw [SX];simp only [Ro,zz,l1,h0]
   repeat' first |exact .out ⟨_,rfl,hn⟩|exact .out YQ|exact .out YP|exact .out (acM _)|exact .out ⟨_,rfl,ints_at hi ‹_› ‹_›⟩|refine .ite (fun _=>?_) (fun _=>?_)
  ·by_cases l2:(kids.l.length:Int)=2
   ·have h0:=h0 J;have U:=U J;simp only [aQ,bn] at h0 U;refine dw.of ?_;rw [SX];simp only [Ro,zz,l1,l2,h0,U]
    repeat' first |exact .out ⟨_,rfl,hn⟩|exact .out YQ|exact .out YP|exact .out (acM _)|exact .out ⟨_,rfl,ints_at hi ‹_› ‹_›⟩|(simp only [bE]; exact .out (aaR (zV (zV (zV Yr (ra _)) (ra _)) (ra _))))|refine .ite (fun _=>?_) (fun _=>?_)
   ·refine dw.of ?_;rw [SX];simp only [Ro,zz,l1,l2]
    repeat' first |exact .out ⟨_,rfl,hn⟩|exact .out YQ|exact .out YP|exact .out ⟨_,rfl,ints_at hi ‹_› ‹_›⟩|refine .ite (fun _=>?_) (fun _=>?_)
structure Kt (x:D) (a:Int) (lc:D) (w o g tr:Int):Prop where
 is:x=dL [.i a,lc,.i w,.i o,.i g,.i tr]
 ha:dV .i64 a
 Y:Wd (.sl 0) lc
 hw:dV .u8 w
 ho:dV .i64 o
 hg:dV .i64 g
 ht:dV .i64 tr
theorem gM {d:D} (h:Wd (.sl 8) d): ∀x∈d.l,∃a lc w o g tr,Kt x a lc w o g tr:=by intro x hx;obtain⟨r,rfl,Y,hc⟩:=h.elN (cs:=[.int .i64,.sl 0,.int .u8,.int .i64,.int .i64,.int .i64]) rfl x hx;obtain⟨a,b,c,d,e,f,rfl⟩:=six Y;obtain⟨a,rfl,ha⟩:=(hc 0 _ _ rfl rfl).i;obtain⟨w,rfl,hw⟩:=(hc 2 _ _ rfl rfl).i;obtain⟨o,rfl,ho⟩:=(hc 3 _ _ rfl rfl).i;obtain⟨g,rfl,hg⟩:=(hc 4 _ _ rfl rfl).i;obtain⟨t,rfl,ht⟩:=(hc 5 _ _ rfl rfl).i;exact⟨a,b,w,o,g,t,rfl,ha,hc 1 _ _ rfl rfl,hw,ho,hg,ht⟩
structure Tk (d:D):Prop where
 wd:Wd (.sl 8) d
 sh:d=dL d.l
 kr:d.l.length<=2199023255500
theorem xT {d:D} (h:Wd (.sl 8) d) (hn:0<d.l.length):Tk d:=by
 refine⟨h,?_,?_⟩
 ·rcases h.sh with rfl|rfl|⟨U,_⟩
  ·simp [D.l] at hn
  ·simp [D.l] at hn
  grind
 ·have hr:=h.room;have h3:tu 8=64:=rfl
  grind
theorem qf (a b c d e f x:D):eV [a,b,c,d,e,f] 1 x= [a,x,c,d,e,f]:=rfl
theorem bL (j:Nat) (xs:List Int):fin L (.jump j xs)=L j xs:=rfl
theorem cN (ys:List Int):fin L (.out ys)=some ys:=rfl
def qP (lc:D):Int:=if 0<lc.l.length then 3 else 4
theorem Gj {lc:D} (h:(0:Int)<(lc.l.length:Int)):qP lc=3:=an J
theorem Tc (d:D) (h:Th d) (k:D): ∀(j i:Nat),i+j=d.l.length->L 1901 [(d.l.length:Int),(i:Int),enc d,enc k]=L 1910 [(k.l.length:Int),0,enc d,enc k]
 |0,i,hi=>by
  have c1: ¬(i:Int)<(d.l.length:Int):=J
  rw [bP,d_];simp only [Xm,zz,c1,bL,aQ]
 |j+1,i,hi=>by
  have Y:=h.kr;have dK:i<d.l.length:=J
  have c1:(i:Int)<(d.l.length:Int):=J
  have c2: ¬((i:Int)<0):=J
  have w:=bO (n:=i) J;have ih:=Tc d h k j (i+1) J;obtain⟨o,c,dn,g,r,v,he,_,_,_,_,hr,hv⟩:=h.wd.mO _ (aF dK);have hs:=ec h.sh dK;rw [he] at hs;rw [bP,d_];rcases cf hr with rfl|rfl|⟨r1,r2⟩ <;>rcases cf hv with rfl|rfl|⟨v1,v2⟩
  all_goals
   simp only [Xm,zz,c1,c2,w,bT dK,he,eT,bE,aM,aN,Bw,Bv,hs,ik,jc,pe,ja]
   try simp only [r1,r2,zz]
   try simp only [v1,v2,zz]
   try simp only [bL]
   exact ih
theorem Tb (d:D) (h:Th d): ∀(j i:Nat),i+j=d.l.length->L 1902 [(d.l.length:Int),(i:Int),enc d]=L 1911 [enc d]
 |0,i,hi=>by
  have c1: ¬(i:Int)<(d.l.length:Int):=J
  rw [bP,c!];simp only [Xl,zz,c1,bL,aQ]
 |j+1,i,hi=>by
  have Y:=h.kr;have dK:i<d.l.length:=J
  have c1:(i:Int)<(d.l.length:Int):=J
  have c2: ¬((i:Int)<0):=J
  have w:=bO (n:=i) J;have ih:=Tb d h j (i+1) J;obtain⟨o,c,dn,g,r,v,he,_,_,_,_,hr,hv⟩:=h.wd.mO _ (aF dK);have hs:=ec h.sh dK;rw [he] at hs;rw [bP,c!];rcases cf hr with rfl|rfl|⟨r1,r2⟩ <;>rcases cf hv with rfl|rfl|⟨v1,v2⟩
  all_goals
   simp only [Xl,zz,c1,c2,w,bT dK,he,eT,bE,aM,aN,Bw,Bv,hs,ik,jc,pe,ja]
   try simp only [r1,r2,zz]
   try simp only [v1,v2,zz]
   try simp only [bL]
   exact ih
theorem KK (d:D) (h:Th d) (x0:Int) (k:D): ∀(j i:Nat),i+j=d.l.length->L 9051 [x0,(d.l.length:Int),(i:Int),enc d,enc k]=L 9060 [x0,(k.l.length:Int),0,enc d,enc k]
 |0,i,hi=>by
  have c1: ¬(i:Int)<(d.l.length:Int):=J
  rw [bP,ZV];simp only [W2,zz,c1,bL,aQ]
 |j+1,i,hi=>by
  have Y:=h.kr;have dK:i<d.l.length:=J
  have c1:(i:Int)<(d.l.length:Int):=J
  have c2: ¬((i:Int)<0):=J
  have w:=bO (n:=i) J;have ih:=KK d h x0 k j (i+1) J;obtain⟨o,c,dn,g,r,v,he,_,_,_,_,hr,hv⟩:=h.wd.mO _ (aF dK);have hs:=ec h.sh dK;rw [he] at hs;rw [bP,ZV];rcases cf hr with rfl|rfl|⟨r1,r2⟩ <;>rcases cf hv with rfl|rfl|⟨v1,v2⟩
  all_goals
   simp only [W2,zz,c1,c2,w,bT dK,he,eT,bE,aM,aN,Bw,Bv,hs,ik,jc,pe,ja]
   try simp only [r1,r2,zz]
   try simp only [v1,v2,zz]
   try simp only [bL]
   exact ih
theorem S9 (d:D) (h:Th d) (x0:Int): ∀(j i:Nat),i+j=d.l.length->L 9052 [x0,(d.l.length:Int),(i:Int),enc d]=L 9061 [x0,enc d]
 |0,i,hi=>by
  have c1: ¬(i:Int)<(d.l.length:Int):=J
  rw [bP,ZU];simp only [W1,zz,c1,bL,aQ]
 |j+1,i,hi=>by
  have Y:=h.kr;have dK:i<d.l.length:=J
  have c1:(i:Int)<(d.l.length:Int):=J
  have c2: ¬((i:Int)<0):=J
  have w:=bO (n:=i) J;have ih:=S9 d h x0 j (i+1) J;obtain⟨o,c,dn,g,r,v,he,_,_,_,_,hr,hv⟩:=h.wd.mO _ (aF dK);have hs:=ec h.sh dK;rw [he] at hs;rw [bP,ZU];rcases cf hr with rfl|rfl|⟨r1,r2⟩ <;>rcases cf hv with rfl|rfl|⟨v1,v2⟩
  all_goals
   simp only [W1,zz,c1,c2,w,bT dK,he,eT,bE,aM,aN,Bw,Bv,hs,ik,jc,pe,ja]
   try simp only [r1,r2,zz]
   try simp only [v1,v2,zz]
   try simp only [bL]
   exact ih
theorem Ta (d:D) (h:Th d): ∀(j i:Nat),i+j=d.l.length->L 1903 [(d.l.length:Int),(i:Int),enc d]=L 1912 [enc d]
 |0,i,hi=>by
  have c1: ¬(i:Int)<(d.l.length:Int):=J
  rw [bP,c_];simp only [Xk,zz,c1,bL,aQ]
 |j+1,i,hi=>by
  have Y:=h.kr;have dK:i<d.l.length:=J
  have c1:(i:Int)<(d.l.length:Int):=J
  have c2: ¬((i:Int)<0):=J
  have w:=bO (n:=i) J;have ih:=Ta d h j (i+1) J;obtain⟨o,c,dn,g,r,v,he,_,_,_,_,hr,hv⟩:=h.wd.mO _ (aF dK);have hs:=ec h.sh dK;rw [he] at hs;rw [bP,c_];rcases cf hr with rfl|rfl|⟨r1,r2⟩ <;>rcases cf hv with rfl|rfl|⟨v1,v2⟩
  all_goals
   simp only [Xk,zz,c1,c2,w,bT dK,he,eT,bE,aM,aN,Bw,Bv,hs,ik,jc,pe,ja]
   try simp only [r1,r2,zz]
   try simp only [v1,v2,zz]
   try simp only [bL]
   exact ih
theorem S8 (d:D) (h:Th d) (x0:Int): ∀(j i:Nat),i+j=d.l.length->L 9053 [x0,(d.l.length:Int),(i:Int),enc d]=L 9062 [x0,enc d]
 |0,i,hi=>by
  have c1: ¬(i:Int)<(d.l.length:Int):=J
  rw [bP,ZT];simp only [W0,zz,c1,bL,aQ]
 |j+1,i,hi=>by
  have Y:=h.kr;have dK:i<d.l.length:=J
  have c1:(i:Int)<(d.l.length:Int):=J
  have c2: ¬((i:Int)<0):=J
  have w:=bO (n:=i) J;have ih:=S8 d h x0 j (i+1) J;obtain⟨o,c,dn,g,r,v,he,_,_,_,_,hr,hv⟩:=h.wd.mO _ (aF dK);have hs:=ec h.sh dK;rw [he] at hs;rw [bP,ZT];rcases cf hr with rfl|rfl|⟨r1,r2⟩ <;>rcases cf hv with rfl|rfl|⟨v1,v2⟩
  all_goals
   simp only [W0,zz,c1,c2,w,bT dK,he,eT,bE,aM,aN,Bw,Bv,hs,ik,jc,pe,ja]
   try simp only [r1,r2,zz]
   try simp only [v1,v2,zz]
   try simp only [bL]
   exact ih
theorem Tp (k:D) (h:Tk k): ∀(j i:Nat),i+j=k.l.length->L 1916 [(k.l.length:Int),(i:Int),enc k]=some [enc (.i 2),enc k]
 |0,i,hi=>by
  have c1: ¬(i:Int)<(k.l.length:Int):=J
  rw [bP,b_];simp only [Xh,zz,c1,cN]
 |j+1,i,hi=>by
  have Y:=h.kr;have dK:i<k.l.length:=J
  have c1:(i:Int)<(k.l.length:Int):=J
  have c2: ¬((i:Int)<0):=J
  have w:=bO (n:=i) J;have ih:=Tp k h j (i+1) J;obtain⟨a,lc,w',o,g,tr,T⟩:=gM h.wd _ (aF dK);have hs:=ec h.sh dK;rw [T.is] at hs;rw [bP,b_];rcases cf T.Y with rfl|rfl|⟨r1,r2⟩
  all_goals
   simp only [Xh,zz,c1,c2,w,bT dK,T.is,eT,bE,aM,aN,qf,hs,ik,jc,pe,ja]
   try simp only [r1,r2,zz]
   try simp only [bL]
   exact ih
theorem Tm (k:D) (h:Tk k) (x0:Int): ∀(j i:Nat),(hx:x0<0\/(k.l.length:Int)<=x0)->i+j=k.l.length->L 9066 [x0,(k.l.length:Int),(i:Int),enc k]=some [0,x0,enc (.i 2),enc k]
 |0,i,hx,hi=>by
  have c1: ¬(i:Int)<(k.l.length:Int):=J
  rw [bP,M8];by_cases c0:(i:Int)=x0
  ·subst c0;simp only [Cq,zz,c1,cN]
  ·simp only [Cq,zz,c0,c1,cN]
 |j+1,i,hx,hi=>by
  have Y:=h.kr;have dK:i<k.l.length:=J
  have c1:(i:Int)<(k.l.length:Int):=J
  have c2: ¬((i:Int)<0):=J
  have c0: ¬((i:Int)=x0):=J
  have w:=bO (n:=i) J;have ih:=Tm k h x0 j (i+1) hx J;obtain⟨a,lc,w',o,g,tr,T⟩:=gM h.wd _ (aF dK);have hs:=ec h.sh dK;rw [T.is] at hs;rw [bP,M8];rcases cf T.Y with rfl|rfl|⟨r1,r2⟩
  all_goals
   simp only [Cq,zz,c0,c1,c2,w,bT dK,T.is,eT,bE,aM,aN,qf,hs,ik,jc,pe,ja]
   try simp only [r1,r2,zz]
   try simp only [bL]
   exact ih
theorem Tt (k:D) (h:Tk k) (s:D): ∀(j i:Nat),i+j=k.l.length->L 1910 [(k.l.length:Int),(i:Int),enc s,enc k]=some [enc s,enc k]
 |0,i,hi=>by
  have c1: ¬(i:Int)<(k.l.length:Int):=J
  rw [bP,b?];simp only [Xj,zz,c1,cN]
 |j+1,i,hi=>by
  have Y:=h.kr;have dK:i<k.l.length:=J
  have c1:(i:Int)<(k.l.length:Int):=J
  have c2: ¬((i:Int)<0):=J
  have w:=bO (n:=i) J;have ih:=Tt k h s j (i+1) J;obtain⟨a,lc,w',o,g,tr,T⟩:=gM h.wd _ (aF dK);have hs:=ec h.sh dK;rw [T.is] at hs;rw [bP,b?];rcases cf T.Y with rfl|rfl|⟨r1,r2⟩
  all_goals
   simp only [Xj,zz,c1,c2,w,bT dK,T.is,eT,bE,aM,aN,qf,hs,ik,jc,pe,ja]
   try simp only [r1,r2,zz]
   try simp only [bL]
   exact ih
theorem Ts (k:D) (h:Tk k): ∀(j i:Nat),i+j=k.l.length->L 1913 [(k.l.length:Int),(i:Int),enc k]=some [enc (.i 1),enc k]
 |0,i,hi=>by
  have c1: ¬(i:Int)<(k.l.length:Int):=J
  rw [bP,b!];simp only [Xi,zz,c1,cN]
 |j+1,i,hi=>by
  have Y:=h.kr;have dK:i<k.l.length:=J
  have c1:(i:Int)<(k.l.length:Int):=J
  have c2: ¬((i:Int)<0):=J
  have w:=bO (n:=i) J;have ih:=Ts k h j (i+1) J;obtain⟨a,lc,w',o,g,tr,T⟩:=gM h.wd _ (aF dK);have hs:=ec h.sh dK;rw [T.is] at hs;rw [bP,b!];rcases cf T.Y with rfl|rfl|⟨r1,r2⟩
  all_goals
   simp only [Xi,zz,c1,c2,w,bT dK,T.is,eT,bE,aM,aN,qf,hs,ik,jc,pe,ja]
   try simp only [r1,r2,zz]
   try simp only [bL]
   exact ih
theorem To (k:D) (h:Tk k) (x0:Int) (s:D): ∀(j i:Nat),(hx:x0<0\/(k.l.length:Int)<=x0)->i+j=k.l.length->L 9060 [x0,(k.l.length:Int),(i:Int),enc s,enc k]=some [0,x0,enc s,enc k]
 |0,i,hx,hi=>by
  have c1: ¬(i:Int)<(k.l.length:Int):=J
  rw [bP,Nb];by_cases c0:(i:Int)=x0
  ·subst c0;simp only [Cs,zz,c1,cN]
  ·simp only [Cs,zz,c0,c1,cN]
 |j+1,i,hx,hi=>by
  have Y:=h.kr;have dK:i<k.l.length:=J
  have c1:(i:Int)<(k.l.length:Int):=J
  have c2: ¬((i:Int)<0):=J
  have c0: ¬((i:Int)=x0):=J
  have w:=bO (n:=i) J;have ih:=To k h x0 s j (i+1) hx J;obtain⟨a,lc,w',o,g,tr,T⟩:=gM h.wd _ (aF dK);have hs:=ec h.sh dK;rw [T.is] at hs;rw [bP,Nb];rcases cf T.Y with rfl|rfl|⟨r1,r2⟩
  all_goals
   simp only [Cs,zz,c0,c1,c2,w,bT dK,T.is,eT,bE,aM,aN,qf,hs,ik,jc,pe,ja]
   try simp only [r1,r2,zz]
   try simp only [bL]
   exact ih
theorem Tn (k:D) (h:Tk k) (x0:Int): ∀(j i:Nat),(hx:x0<0\/(k.l.length:Int)<=x0)->i+j=k.l.length->L 9063 [x0,(k.l.length:Int),(i:Int),enc k]=some [0,x0,enc (.i 1),enc k]
 |0,i,hx,hi=>by
  have c1: ¬(i:Int)<(k.l.length:Int):=J
  rw [bP,M9];by_cases c0:(i:Int)=x0
  ·subst c0;simp only [Cr,zz,c1,cN]
  ·simp only [Cr,zz,c0,c1,cN]
 |j+1,i,hx,hi=>by
  have Y:=h.kr;have dK:i<k.l.length:=J
  have c1:(i:Int)<(k.l.length:Int):=J
  have c2: ¬((i:Int)<0):=J
  have c0: ¬((i:Int)=x0):=J
  have w:=bO (n:=i) J;have ih:=Tn k h x0 j (i+1) hx J;obtain⟨a,lc,w',o,g,tr,T⟩:=gM h.wd _ (aF dK);have hs:=ec h.sh dK;rw [T.is] at hs;rw [bP,M9];rcases cf T.Y with rfl|rfl|⟨r1,r2⟩
  all_goals
   simp only [Cr,zz,c0,c1,c2,w,bT dK,T.is,eT,bE,aM,aN,qf,hs,ik,jc,pe,ja]
   try simp only [r1,r2,zz]
   try simp only [bL]
   exact ih
theorem Tl (k:D) (h:Tk k) (gi:Nat) (x4 x5 x6 x7 x8 x9:Int) (s:D): ∀(j i:Nat),gi<i->i+j=k.l.length->L 9069 [(gi:Int),(k.l.length:Int),(i:Int),enc s,enc k,x4,x5,x6,x7,x8,x9]=some [3,(gi:Int),enc s,enc k,x4,x5,x6,x7,x8,x9]
 |0,i,hg,hi=>by
  have c1: ¬(i:Int)<(k.l.length:Int):=J
  have c0: ¬((i:Int)=(gi:Int)):=J
  rw [bP,ZS];simp only [WZ,zz,c0,c1,cN]
 |j+1,i,hg,hi=>by
  have Y:=h.kr;have dK:i<k.l.length:=J
  have c1:(i:Int)<(k.l.length:Int):=J
  have c2: ¬((i:Int)<0):=J
  have c0: ¬((i:Int)=(gi:Int)):=J
  have w:=bO (n:=i) J;have ih:=Tl k h gi x4 x5 x6 x7 x8 x9 s j (i+1) J J;obtain⟨a,lc,w',o,g,tr,T⟩:=gM h.wd _ (aF dK);have hs:=ec h.sh dK;rw [T.is] at hs;rw [bP,ZS];rcases cf T.Y with rfl|rfl|⟨r1,r2⟩
  all_goals
   simp only [WZ,zz,c0,c1,c2,w,bT dK,T.is,eT,bE,aM,aN,qf,hs,ik,jc,pe,ja]
   try simp only [r1,r2,zz]
   try simp only [bL]
   exact ih
theorem KN (k:D) (h:Tk k) (gi:Nat) (x4 x5 x6 x7 x8 x9:Int) (s:D): ∀(j i:Nat),gi<i->i+j=k.l.length->L 9070 [(gi:Int),(k.l.length:Int),(i:Int),enc s,enc k,x4,x5,x6,x7,x8,x9]=some [4,(gi:Int),enc s,enc k,x4,x5,x6,x7,x8,x9]
 |0,i,hg,hi=>by
  have c1: ¬(i:Int)<(k.l.length:Int):=J
  have c0: ¬((i:Int)=(gi:Int)):=J
  rw [bP,ZR];simp only [WY,zz,c0,c1,cN]
 |j+1,i,hg,hi=>by
  have Y:=h.kr;have dK:i<k.l.length:=J
  have c1:(i:Int)<(k.l.length:Int):=J
  have c2: ¬((i:Int)<0):=J
  have c0: ¬((i:Int)=(gi:Int)):=J
  have w:=bO (n:=i) J;have ih:=KN k h gi x4 x5 x6 x7 x8 x9 s j (i+1) J J;obtain⟨a,lc,w',o,g,tr,T⟩:=gM h.wd _ (aF dK);have hs:=ec h.sh dK;rw [T.is] at hs;rw [bP,ZR];rcases cf T.Y with rfl|rfl|⟨r1,r2⟩
  all_goals
   simp only [WY,zz,c0,c1,c2,w,bT dK,T.is,eT,bE,aM,aN,qf,hs,ik,jc,pe,ja]
   try simp only [r1,r2,zz]
   try simp only [bL]
   exact ih
theorem Tj (k:D) (h:Tk k) (gi:Nat) (x4 x5 x6 x7 x8 x9:Int): ∀(j i:Nat),gi<i->i+j=k.l.length->L 9071 [(gi:Int),(k.l.length:Int),(i:Int),enc k,x4,x5,x6,x7,x8,x9]=some [3,(gi:Int),enc (.i 1),enc k,x4,x5,x6,x7,x8,x9]
 |0,i,hg,hi=>by
  have c1: ¬(i:Int)<(k.l.length:Int):=J
  have c0: ¬((i:Int)=(gi:Int)):=J
  rw [bP,ZQ];simp only [WX,zz,c0,c1,cN]
 |j+1,i,hg,hi=>by
  have Y:=h.kr;have dK:i<k.l.length:=J
  have c1:(i:Int)<(k.l.length:Int):=J
  have c2: ¬((i:Int)<0):=J
  have c0: ¬((i:Int)=(gi:Int)):=J
  have w:=bO (n:=i) J;have ih:=Tj k h gi x4 x5 x6 x7 x8 x9 j (i+1) J J;obtain⟨a,lc,w',o,g,tr,T⟩:=gM h.wd _ (aF dK);have hs:=ec h.sh dK;rw [T.is] at hs;rw [bP,ZQ];rcases cf T.Y with rfl|rfl|⟨r1,r2⟩
  all_goals
   simp only [WX,zz,c0,c1,c2,w,bT dK,T.is,eT,bE,aM,aN,qf,hs,ik,jc,pe,ja]
   try simp only [r1,r2,zz]
   try simp only [bL]
   exact ih
theorem KM (k:D) (h:Tk k) (gi:Nat) (x4 x5 x6 x7 x8 x9:Int): ∀(j i:Nat),gi<i->i+j=k.l.length->L 9072 [(gi:Int),(k.l.length:Int),(i:Int),enc k,x4,x5,x6,x7,x8,x9]=some [4,(gi:Int),enc (.i 1),enc k,x4,x5,x6,x7,x8,x9]
 |0,i,hg,hi=>by
  have c1: ¬(i:Int)<(k.l.length:Int):=J
  have c0: ¬((i:Int)=(gi:Int)):=J
  rw [bP,ZP];simp only [WW,zz,c0,c1,cN]
 |j+1,i,hg,hi=>by
  have Y:=h.kr;have dK:i<k.l.length:=J
  have c1:(i:Int)<(k.l.length:Int):=J
  have c2: ¬((i:Int)<0):=J
  have c0: ¬((i:Int)=(gi:Int)):=J
  have w:=bO (n:=i) J;have ih:=KM k h gi x4 x5 x6 x7 x8 x9 j (i+1) J J;obtain⟨a,lc,w',o,g,tr,T⟩:=gM h.wd _ (aF dK);have hs:=ec h.sh dK;rw [T.is] at hs;rw [bP,ZP];rcases cf T.Y with rfl|rfl|⟨r1,r2⟩
  all_goals
   simp only [WW,zz,c0,c1,c2,w,bT dK,T.is,eT,bE,aM,aN,qf,hs,ik,jc,pe,ja]
   try simp only [r1,r2,zz]
   try simp only [bL]
   exact ih
theorem Ti (k:D) (h:Tk k) (gi:Nat) (x4 x5 x6 x7 x8 x9:Int): ∀(j i:Nat),gi<i->i+j=k.l.length->L 9073 [(gi:Int),(k.l.length:Int),(i:Int),enc k,x4,x5,x6,x7,x8,x9]=some [3,(gi:Int),enc (.i 2),enc k,x4,x5,x6,x7,x8,x9]
 |0,i,hg,hi=>by
  have c1: ¬(i:Int)<(k.l.length:Int):=J
  have c0: ¬((i:Int)=(gi:Int)):=J
  rw [bP,ZO];simp only [WV,zz,c0,c1,cN]
 |j+1,i,hg,hi=>by
  have Y:=h.kr;have dK:i<k.l.length:=J
  have c1:(i:Int)<(k.l.length:Int):=J
  have c2: ¬((i:Int)<0):=J
  have c0: ¬((i:Int)=(gi:Int)):=J
  have w:=bO (n:=i) J;have ih:=Ti k h gi x4 x5 x6 x7 x8 x9 j (i+1) J J;obtain⟨a,lc,w',o,g,tr,T⟩:=gM h.wd _ (aF dK);have hs:=ec h.sh dK;rw [T.is] at hs;rw [bP,ZO];rcases cf T.Y with rfl|rfl|⟨r1,r2⟩
  all_goals
   simp only [WV,zz,c0,c1,c2,w,bT dK,T.is,eT,bE,aM,aN,qf,hs,ik,jc,pe,ja]
   try simp only [r1,r2,zz]
   try simp only [bL]
   exact ih
theorem KL (k:D) (h:Tk k) (gi:Nat) (x4 x5 x6 x7 x8 x9:Int): ∀(j i:Nat),gi<i->i+j=k.l.length->L 9074 [(gi:Int),(k.l.length:Int),(i:Int),enc k,x4,x5,x6,x7,x8,x9]=some [4,(gi:Int),enc (.i 2),enc k,x4,x5,x6,x7,x8,x9]
 |0,i,hg,hi=>by
  have c1: ¬(i:Int)<(k.l.length:Int):=J
  have c0: ¬((i:Int)=(gi:Int)):=J
  rw [bP,ZN];simp only [WU,zz,c0,c1,cN]
 |j+1,i,hg,hi=>by
  have Y:=h.kr;have dK:i<k.l.length:=J
  have c1:(i:Int)<(k.l.length:Int):=J
  have c2: ¬((i:Int)<0):=J
  have c0: ¬((i:Int)=(gi:Int)):=J
  have w:=bO (n:=i) J;have ih:=KL k h gi x4 x5 x6 x7 x8 x9 j (i+1) J J;obtain⟨a,lc,w',o,g,tr,T⟩:=gM h.wd _ (aF dK);have hs:=ec h.sh dK;rw [T.is] at hs;rw [bP,ZN];rcases cf T.Y with rfl|rfl|⟨r1,r2⟩
  all_goals
   simp only [WU,zz,c0,c1,c2,w,bT dK,T.is,eT,bE,aM,aN,qf,hs,ik,jc,pe,ja]
   try simp only [r1,r2,zz]
   try simp only [bL]
   exact ih
theorem Tf (k:D) (h:Tk k) (s:D) (gi:Nat) (yc:gi<k.l.length) (a:Int) (lc:D) (w o g tr:Int) (T:Kt k.l[gi] a lc w o g tr): ∀(j i:Nat),i+j=gi->L 9060 [(gi:Int),(k.l.length:Int),(i:Int),enc s,enc k]=some [qP lc,(gi:Int),enc s,enc k,a,enc lc,w,o,g,tr]
 |0,i,hi=>by
  have Y:=h.kr;have he:i=gi:=J
  subst he;have c1:(i:Int)<(k.l.length:Int):=J
  have c2: ¬((i:Int)<0):=J
  have w':=bO (n:=i) J;rw [bP,Nb];rcases cf T.Y with rfl|rfl|⟨r1,r2⟩
  ·have ih:=KN k h i a (enc (.i 1)) w o g tr s (k.l.length-(i+1)) (i+1) J J;simp only [Cs,zz,c1,c2,w',bT yc,T.is,eT,bE,aM,aN,anO,aT,ik,jc,pe,ja,bL];exact ih
  ·have ih:=KN k h i a (enc (.i 2)) w o g tr s (k.l.length-(i+1)) (i+1) J J;simp only [Cs,zz,c1,c2,w',bT yc,T.is,eT,bE,aM,aN,anO,aT,ik,jc,pe,ja,bL];exact ih
  ·have ih:=Tl k h i a (enc lc) w o g tr s (k.l.length-(i+1)) (i+1) J J;simp only [Cs,zz,c1,c2,w',bT yc,T.is,eT,bE,aM,aN,ik,jc,pe,ja];simp only [r1,r2,zz,bL];rw [Gj r1];exact ih
 |j+1,i,hi=>by
  have Y:=h.kr;have dK:i<k.l.length:=J
  have c1:(i:Int)<(k.l.length:Int):=J
  have c2: ¬((i:Int)<0):=J
  have c0: ¬((i:Int)=(gi:Int)):=J
  have w1:=bO (n:=i) J;have ih:=Tf k h s gi yc a lc w o g tr T j (i+1) J;obtain⟨a',lc',w',o',g',tr',T'⟩:=gM h.wd _ (aF dK);have hs:=ec h.sh dK;rw [T'.is] at hs;rw [bP,Nb];rcases cf T'.Y with rfl|rfl|⟨r1,r2⟩
  all_goals
   simp only [Cs,zz,c0,c1,c2,w1,bT dK,T'.is,eT,bE,aM,aN,qf,hs,ik,jc,pe,ja]
   try simp only [r1,r2,zz]
   try simp only [bL]
   exact ih
theorem Te (k:D) (h:Tk k) (gi:Nat) (yc:gi<k.l.length) (a:Int) (lc:D) (w o g tr:Int) (T:Kt k.l[gi] a lc w o g tr): ∀(j i:Nat),i+j=gi->L 9063 [(gi:Int),(k.l.length:Int),(i:Int),enc k]=some [qP lc,(gi:Int),enc (.i 1),enc k,a,enc lc,w,o,g,tr]
 |0,i,hi=>by
  have Y:=h.kr;have he:i=gi:=J
  subst he;have c1:(i:Int)<(k.l.length:Int):=J
  have c2: ¬((i:Int)<0):=J
  have w':=bO (n:=i) J;rw [bP,M9];rcases cf T.Y with rfl|rfl|⟨r1,r2⟩
  ·have ih:=KM k h i a (enc (.i 1)) w o g tr (k.l.length-(i+1)) (i+1) J J;simp only [Cr,zz,c1,c2,w',bT yc,T.is,eT,bE,aM,aN,anO,aT,ik,jc,pe,ja,bL];exact ih
  ·have ih:=KM k h i a (enc (.i 2)) w o g tr (k.l.length-(i+1)) (i+1) J J;simp only [Cr,zz,c1,c2,w',bT yc,T.is,eT,bE,aM,aN,anO,aT,ik,jc,pe,ja,bL];exact ih
  ·have ih:=Tj k h i a (enc lc) w o g tr (k.l.length-(i+1)) (i+1) J J;simp only [Cr,zz,c1,c2,w',bT yc,T.is,eT,bE,aM,aN,ik,jc,pe,ja];simp only [r1,r2,zz,bL];rw [Gj r1];exact ih
 |j+1,i,hi=>by
  have Y:=h.kr;have dK:i<k.l.length:=J
  have c1:(i:Int)<(k.l.length:Int):=J
  have c2: ¬((i:Int)<0):=J
  have c0: ¬((i:Int)=(gi:Int)):=J
  have w1:=bO (n:=i) J;have ih:=Te k h gi yc a lc w o g tr T j (i+1) J;obtain⟨a',lc',w',o',g',tr',T'⟩:=gM h.wd _ (aF dK);have hs:=ec h.sh dK;rw [T'.is] at hs;rw [bP,M9];rcases cf T'.Y with rfl|rfl|⟨r1,r2⟩
  all_goals
   simp only [Cr,zz,c0,c1,c2,w1,bT dK,T'.is,eT,bE,aM,aN,qf,hs,ik,jc,pe,ja]
   try simp only [r1,r2,zz]
   try simp only [bL]
   exact ih
theorem Td (k:D) (h:Tk k) (gi:Nat) (yc:gi<k.l.length) (a:Int) (lc:D) (w o g tr:Int) (T:Kt k.l[gi] a lc w o g tr): ∀(j i:Nat),i+j=gi->L 9066 [(gi:Int),(k.l.length:Int),(i:Int),enc k]=some [qP lc,(gi:Int),enc (.i 2),enc k,a,enc lc,w,o,g,tr]
 |0,i,hi=>by
  have Y:=h.kr;have he:i=gi:=J
  subst he;have c1:(i:Int)<(k.l.length:Int):=J
  have c2: ¬((i:Int)<0):=J
  have w':=bO (n:=i) J;rw [bP,M8];rcases cf T.Y with rfl|rfl|⟨r1,r2⟩
  ·have ih:=KL k h i a (enc (.i 1)) w o g tr (k.l.length-(i+1)) (i+1) J J;simp only [Cq,zz,c1,c2,w',bT yc,T.is,eT,bE,aM,aN,anO,aT,ik,jc,pe,ja,bL];exact ih
  ·have ih:=KL k h i a (enc (.i 2)) w o g tr (k.l.length-(i+1)) (i+1) J J;simp only [Cq,zz,c1,c2,w',bT yc,T.is,eT,bE,aM,aN,anO,aT,ik,jc,pe,ja,bL];exact ih
  ·have ih:=Ti k h i a (enc lc) w o g tr (k.l.length-(i+1)) (i+1) J J;simp only [Cq,zz,c1,c2,w',bT yc,T.is,eT,bE,aM,aN,ik,jc,pe,ja];simp only [r1,r2,zz,bL];rw [Gj r1];exact ih
 |j+1,i,hi=>by
  have Y:=h.kr;have dK:i<k.l.length:=J
  have c1:(i:Int)<(k.l.length:Int):=J
  have c2: ¬((i:Int)<0):=J
  have c0: ¬((i:Int)=(gi:Int)):=J
  have w1:=bO (n:=i) J;have ih:=Td k h gi yc a lc w o g tr T j (i+1) J;obtain⟨a',lc',w',o',g',tr',T'⟩:=gM h.wd _ (aF dK);have hs:=ec h.sh dK;rw [T'.is] at hs;rw [bP,M8];rcases cf T'.Y with rfl|rfl|⟨r1,r2⟩
  all_goals
   simp only [Cq,zz,c0,c1,c2,w1,bT dK,T'.is,eT,bE,aM,aN,qf,hs,ik,jc,pe,ja]
   try simp only [r1,r2,zz]
   try simp only [bL]
   exact ih
structure Sk (s k:D):Prop where
 ws:Wd (.sl 7) s
 wk:Wd (.sl 8) k
theorem EM {t:Nat} {d:D} (h:Wd (.sl t) d):d= .i 1\/d= .i 2\/0<d.l.length:=by
 rcases h.sh with U|U|⟨_,U⟩
 all_goals grind
theorem aaF (x0:Int) (s:D):L 9061 [x0,enc s]=some [1,x0,enc s]:=by rw [bP,ac9];simp only [ab0,zz];split<;>rfl
theorem aaE (x0:Int) (s:D):L 9062 [x0,enc s]=some [2,x0,enc s]:=by rw [bP,ac8];simp only [abZ,zz];split<;>rfl
theorem aaH (s:D):L 1911 [enc s]=some [enc s,enc (.i 1)]:=by rw [bP,adK];rfl
theorem aaG (s:D):L 1912 [enc s]=some [enc s,enc (.i 2)]:=by rw [bP,adJ];rfl
theorem La:((0:Int)<((D.i 2).l.length:Int))=False/\((0:Int)<((D.i 1).l.length:Int))=False/\(enc (.i 2)=enc (.i 1))=False:=by
 refine⟨by simp [D.l],by simp [D.l],?_⟩;simp only [eq_iff_iff,iff_false];intro h;have:=ew h
 grind
theorem af8 (k:D):L 1904 [enc k]=L 1913 [(k.l.length:Int),0,enc k]:=by rw [bP,adQ];simp only [acu,zz,bL,cN]
theorem af5 (k:D):L 1907 [enc k]=L 1916 [(k.l.length:Int),0,enc k]:=by rw [bP,adN];simp only [acs,zz,bL,cN]
theorem Zl (x0:Int) (k:D):L 9054 [x0,enc k]=L 9063 [x0,(k.l.length:Int),0,enc k]:=by rw [bP,adh];simp only [ab2,zz,bL,cN]
theorem Zk (x0:Int) (k:D):L 9057 [x0,enc k]=L 9066 [x0,(k.l.length:Int),0,enc k]:=by rw [bP,ade];simp only [ab1,zz,bL,cN]
theorem af2:L 1914 []=some [enc (.i 1),enc (.i 1)]:=by rw [bP,adI];simp only [acr,zz,bL,cN]
theorem af7:L 1905 []=some [enc (.i 1),enc (.i 1)]:=by rw [bP,adP];exact af2
theorem af1:L 1915 []=some [enc (.i 1),enc (.i 2)]:=by rw [bP,adH];simp only [acq,zz,bL,cN]
theorem af6:L 1906 []=some [enc (.i 1),enc (.i 2)]:=by rw [bP,adO];exact af1
theorem af0:L 1917 []=some [enc (.i 2),enc (.i 1)]:=by rw [bP,adG];simp only [acp,zz,bL,cN]
theorem af4:L 1908 []=some [enc (.i 2),enc (.i 1)]:=by rw [bP,adM];exact af0
theorem afZ:L 1918 []=some [enc (.i 2),enc (.i 2)]:=by rw [bP,adF];simp only [aco,zz,bL,cN]
theorem af3:L 1909 []=some [enc (.i 2),enc (.i 2)]:=by rw [bP,adL];exact afZ
theorem afU (x0:Int):L 9064 [x0]=some [1,x0,enc (.i 1)]:=by rw [bP,ac7];simp only [abY,zz,bL,cN];split<;>rfl
theorem afY (x0:Int):L 9055 [x0]=some [1,x0,enc (.i 1)]:=by rw [bP,adg];exact afU x0
theorem afT (x0:Int):L 9065 [x0]=some [2,x0,enc (.i 1)]:=by rw [bP,ac6];simp only [abX,zz,bL,cN];split<;>rfl
theorem afX (x0:Int):L 9056 [x0]=some [2,x0,enc (.i 1)]:=by rw [bP,adf];exact afT x0
theorem afS (x0:Int):L 9067 [x0]=some [1,x0,enc (.i 2)]:=by rw [bP,ac5];simp only [abW,zz,bL,cN];split<;>rfl
theorem afW (x0:Int):L 9058 [x0]=some [1,x0,enc (.i 2)]:=by rw [bP,adb];exact afS x0
theorem afR (x0:Int):L 9068 [x0]=some [2,x0,enc (.i 2)]:=by rw [bP,ac4];simp only [abV,zz,bL,cN];split<;>rfl
theorem afV (x0:Int):L 9059 [x0]=some [2,x0,enc (.i 2)]:=by rw [bP,ada];exact afR x0
section
variable {s k:D} (h:Sk s k)
include h
theorem pX:L 1900 [enc s,enc k]=some [enc s,enc k]:=by
 rw [bP,adR];rcases EM h.ws with rfl|rfl|hs<;>rcases EM h.wk with rfl|rfl|hk
 ·simp only [xU,zz,La,bL];exact af7
 ·simp only [xU,zz,La,bL];exact af6
 ·have hK:=xT h.wk hk;have vy:=hK.kr;have P9:(0:Int)<(k.l.length:Int):=J
  have N9:(k.l.length:Int)<2199023255552:=J
  simp only [xU,zz,La,P9,N9,bL];exact (af8 k).trans (Ts k hK k.l.length 0 J)
 ·simp only [xU,zz,La,bL];exact af4
 ·simp only [xU,zz,La,bL];exact af3
 ·have hK:=xT h.wk hk;have vy:=hK.kr;have P9:(0:Int)<(k.l.length:Int):=J
  have N9:(k.l.length:Int)<2199023255552:=J
  simp only [xU,zz,La,P9,N9,bL];exact (af5 k).trans (Tp k hK k.l.length 0 J)
 ·have hT:=uV h.ws hs;have Y:=hT.kr;have c1:(0:Int)<(s.l.length:Int):=J
  have c2:(s.l.length:Int)<1759218604441:=J
  simp only [xU,zz,La,c1,c2,bL];exact (Tb s hT s.l.length 0 J).trans (aaH s)
 ·have hT:=uV h.ws hs;have Y:=hT.kr;have c1:(0:Int)<(s.l.length:Int):=J
  have c2:(s.l.length:Int)<1759218604441:=J
  simp only [xU,zz,La,c1,c2,bL];exact (Ta s hT s.l.length 0 J).trans (aaG s)
 ·have hT:=uV h.ws hs;have Y:=hT.kr;have c1:(0:Int)<(s.l.length:Int):=J
  have c2:(s.l.length:Int)<1759218604441:=J
  have hK:=xT h.wk hk;have vy:=hK.kr;have P9:(0:Int)<(k.l.length:Int):=J
  have N9:(k.l.length:Int)<2199023255552:=J
  simp only [xU,zz,pe,c1,c2,P9,N9,bL];exact (Tc s hT k s.l.length 0 J).trans (Tt k hK s k.l.length 0 J)
theorem Ci {gi:Nat} (yc:gi<k.l.length) {a:Int} {lc:D} {w o g tr:Int} (T:Kt k.l[gi] a lc w o g tr):L 9050 [(gi:Int),enc s,enc k]=some [qP lc,(gi:Int),enc s,enc k,a,enc lc,w,o,g,tr]:=by
 have hk:0<k.l.length:=J
 have hK:=xT h.wk hk;have vy:=hK.kr;have P9:(0:Int)<(k.l.length:Int):=J
 have N9:(k.l.length:Int)<2199023255552:=J
 rw [bP,ZW];rcases EM h.ws with rfl|rfl|hs
 ·simp only [sF,zz,La,P9,N9,bL];exact (Zl _ k).trans (Te k hK gi yc a lc w o g tr T gi 0 J)
 ·simp only [sF,zz,La,P9,N9,bL];exact (Zk _ k).trans (Td k hK gi yc a lc w o g tr T gi 0 J)
 ·have hT:=uV h.ws hs;have Y:=hT.kr;have c1:(0:Int)<(s.l.length:Int):=J
  have c2:(s.l.length:Int)<1759218604441:=J
  simp only [sF,zz,pe,c1,c2,P9,N9,bL];exact (KK s hT _ k s.l.length 0 J).trans (Tf k hK s gi yc a lc w o g tr T gi 0 J)
theorem IJ {x:Int} (hx:x<0\/(k.l.length:Int)<=x):L 9050 [x,enc s,enc k]=some [0,x,enc s,enc k]\/L 9050 [x,enc s,enc k]=some [1,x,enc s]/\k= .i 1\/L 9050 [x,enc s,enc k]=some [2,x,enc s]/\k= .i 2:=by
 rw [bP,ZW];rcases EM h.ws with rfl|rfl|hs<;>rcases EM h.wk with rfl|rfl|hk
 ·refine .inr (.inl ⟨?_,rfl⟩);simp only [sF,zz,La,bL];exact afY _
 ·refine .inr (.inr ⟨?_,rfl⟩);simp only [sF,zz,La,bL];exact afX _
 ·have hK:=xT h.wk hk;have vy:=hK.kr;have P9:(0:Int)<(k.l.length:Int):=J
  have N9:(k.l.length:Int)<2199023255552:=J
  refine .inl ?_;simp only [sF,zz,La,P9,N9,bL];exact (Zl _ k).trans (Tn k hK _ k.l.length 0 hx J)
 ·refine .inr (.inl ⟨?_,rfl⟩);simp only [sF,zz,La,bL];exact afW _
 ·refine .inr (.inr ⟨?_,rfl⟩);simp only [sF,zz,La,bL];exact afV _
 ·have hK:=xT h.wk hk;have vy:=hK.kr;have P9:(0:Int)<(k.l.length:Int):=J
  have N9:(k.l.length:Int)<2199023255552:=J
  refine .inl ?_;simp only [sF,zz,La,P9,N9,bL];exact (Zk _ k).trans (Tm k hK _ k.l.length 0 hx J)
 ·have hT:=uV h.ws hs;have Y:=hT.kr;have c1:(0:Int)<(s.l.length:Int):=J
  have c2:(s.l.length:Int)<1759218604441:=J
  refine .inr (.inl ⟨?_,rfl⟩);simp only [sF,zz,La,c1,c2,bL];exact (S9 s hT _ s.l.length 0 J).trans (aaF _ s)
 ·have hT:=uV h.ws hs;have Y:=hT.kr;have c1:(0:Int)<(s.l.length:Int):=J
  have c2:(s.l.length:Int)<1759218604441:=J
  refine .inr (.inr ⟨?_,rfl⟩);simp only [sF,zz,La,c1,c2,bL];exact (S8 s hT _ s.l.length 0 J).trans (aaE _ s)
 ·have hT:=uV h.ws hs;have Y:=hT.kr;have c1:(0:Int)<(s.l.length:Int):=J
  have c2:(s.l.length:Int)<1759218604441:=J
  have hK:=xT h.wk hk;have vy:=hK.kr;have P9:(0:Int)<(k.l.length:Int):=J
  have N9:(k.l.length:Int)<2199023255552:=J
  refine .inl ?_;simp only [sF,zz,pe,c1,c2,P9,N9,bL];exact (KK s hT _ k s.l.length 0 J).trans (To k hK _ s k.l.length 0 hx J)
end
def VJ (a b:D) (i:Nat):Prop:= ∀(k:Nat) (U:k<a.l.length) (Z:k<b.l.length),i<=k->(a.l[k]).n=(b.l[k]).n
theorem VJ.step {a b:D} {i:Nat} (U:i<a.l.length) (Z:i<b.l.length) (h:(a.l[i]).n=(b.l[i]).n):VJ a b i↔VJ a b (i+1):=by
 constructor
 ·intro q k x y z;exact q k x y J
 ·intro q k x y z;by_cases hk:k=i
  ·grind
  ·exact q k x y J
theorem VJ.ajO {a b:D} {i:Nat} (h:a.l.length<=i):VJ a b i:=fun k U _ h3=>absurd U J
section
variable {a b:D} (hle:a.l.length=b.l.length) (hlen:a.l.length<=140737488351232)
include hle hlen
theorem HZ: ∀(j i:Nat),i+j=a.l.length->∃c:Int,L 251 [enc a,enc b,(i:Int)]=some [c]/\(c=0\/c=1)/\(c=1↔VJ a b i)
 |0,i,hi=>by
  have c1: ¬(i:Int)<(a.l.length:Int):=J
  refine⟨1,?_,.inr rfl,fun _=>VJ.ajO J,fun _=>rfl⟩;rw [bP,abk];simp only [t251,zz,c1,fin]
 |j+1,i,hi=>by
  have dK:i<a.l.length:=J
  have De:i<b.l.length:=J
  have c1:(i:Int)<(a.l.length:Int):=J
  have c2: ¬((i:Int)<0):=J
  have c3:(i:Int)<(b.l.length:Int):=J
  have w:=bO (n:=i) J;obtain⟨c,U,Z,h3⟩:=HZ j (i+1) J;by_cases he:(a.l[i]).n=(b.l[i]).n
  ·refine⟨c,?_,Z,h3.trans (VJ.step dK De he).symm⟩;rw [bP,abk];simp only [t251,zz,c1,c2,c3,w,bT dK,bT De,he,fin,U]
  ·refine⟨0,?_,.inl rfl,fun h=>absurd h J,fun h=>absurd (h i dK De (az i)) he⟩;rw [bP,abk];simp only [t251,zz,c1,c2,c3,w,bT dK,bT De,he,fin]
end
def B! (a b:D):Prop:=a.l.length=b.l.length/\VJ a b 0
theorem US (a b:D) (hlen:a.l.length<=140737488351232): ∃c:Int,L 250 [enc a,enc b]=some [c]/\(c=0\/c=1)/\(c=1↔B! a b):=by
 by_cases Y:a.l.length=b.l.length
 ·obtain⟨c,U,Z,h3⟩:=HZ Y hlen a.l.length 0 J;refine⟨c,?_,Z,h3.trans ⟨fun h=> ⟨Y,h⟩,fun h=>h.2⟩⟩;have vy:(a.l.length:Int)=(b.l.length:Int):=J
  rw [bP,agC,t250,eh,an,lY]
  ·simp only [List.map,cU,bQ,Nat.reduceLT,bM,bN,fin];exact U
  ·simp only [gE,gp,bQ,Nat.reduceLT,bM,bN,bD,gO]
   grind
 ·refine⟨0,?_,.inl rfl,fun h=>absurd h J,fun h=>absurd h.1 Y⟩;have vy: ¬(a.l.length:Int)=(b.l.length:Int):=J
  rw [bP,agC,t250,eh,ak]
  ·simp only [iO,List.map,cU,fin]
  ·simp only [gE,gp,bQ,Nat.reduceLT,bM,bN,bD,gO]
   grind
theorem G4 (x y:D) (hle:x.l.length=y.l.length) (hlen:x.l.length<=140737488351232) (x0 x1 x2:Int) (i:Nat) (hi:i<9223372036854775807) (c:Int) (hc:c=0\/c=1) (h:L 201 [x0,x1,x2,((i+1:Nat):Int)]=some [c]) (x6 x7 x8 x9 K8 x12 x13 x14 x15 x16:Int) :
 ∀(j k:Nat),k+j=x.l.length->∃e:Int,L 202 [x0,x1,x2,(i:Int),(x.l.length:Int),(k:Int),x6,x7,x8,x9,K8,enc x,x12,x13,x14,x15,x16,enc y]=some [e]/\(e=0\/e=1)/\(e=1↔VJ x y k/\c=1)
 |0,k,hk=>by
  have c1: ¬(k:Int)<(x.l.length:Int):=J
  have w:=bO (n:=i) J;refine⟨c,?_,hc,fun h=> ⟨VJ.ajO J,h⟩,fun h=>h.2⟩;rw [bP,abl];simp only [t202,zz,c1,w,fin,h]
 |j+1,k,hk=>by
  have dK:k<x.l.length:=J
  have De:k<y.l.length:=J
  have c1:(k:Int)<(x.l.length:Int):=J
  have c2: ¬((k:Int)<0):=J
  have c3:(k:Int)<(y.l.length:Int):=J
  have w:=bO (n:=k) J;obtain⟨e,U,Z,h3⟩:=G4 x y hle hlen x0 x1 x2 i hi c hc h x6 x7 x8 x9 K8 x12 x13 x14 x15 x16 j (k+1) J;by_cases he:(x.l[k]).n=(y.l[k]).n
  ·refine⟨e,?_,Z,h3.trans ⟨fun q=> ⟨(VJ.step dK De he).2 q.1,q.2⟩,fun q=> ⟨(VJ.step dK De he).1 q.1,q.2⟩⟩⟩;rw [bP,abl];simp only [t202,zz,c1,c2,c3,w,bT dK,bT De,he,fin,U]
  ·refine⟨0,?_,.inl rfl,fun h=>absurd h J,fun h=>absurd (h.1 k dK De (az k)) he⟩;rw [bP,abl];simp only [t202,zz,c1,c2,c3,w,bT dK,bT De,he,fin]
theorem dF (ρ) (a b:SB):((SB.and a b).den ρ=true)=(a.den ρ=true/\b.den ρ=true):=by simp [SB.den]
structure akf (x y:D):Prop where
 o:(x.W 0).n=(y.W 0).n
 c:(x.W 1).n=(y.W 1).n
 d:(x.W 2).n=0↔(y.W 2).n=0
 g:(x.W 3).n=(y.W 3).n
 r:B! (x.W 4) (y.W 4)
 v:B! (x.W 5) (y.W 5)
def NL (a b:D) (i:Nat):Prop:= ∀(k:Nat) (U:k<a.l.length) (Z:k<b.l.length),i<=k->akf a.l[k] b.l[k]
theorem bits {p q:Int}:((¬(¬p=0/\¬q=0))/\¬(¬¬p=0/\¬¬q=0))↔¬(p=0↔q=0):=J
def Ji (s:D):Prop:= ∀x∈s.l,(x.W 4).l.length<=140737488351232/\(x.W 5).l.length<=140737488351232
section
variable {a b:D} (hle:a.l.length=b.l.length) (hlen:a.l.length<=140737488351232) (hr:Ji a)
include hle hlen hr
theorem Hh: ∀(j i:Nat),i+j=a.l.length->∃c:Int,L 201 [enc a,enc b,(a.l.length:Int),(i:Int)]=some [c]/\(c=0\/c=1)/\(c=1↔NL a b i)
 |0,i,hi=>by
  have c1: ¬(i:Int)<(a.l.length:Int):=J
  refine⟨1,?_,.inr rfl,fun _ k U _ h3=>absurd U J,fun _=>rfl⟩;rw [bP,KF];simp only [t201,zz,c1,fin]
 |j+1,i,hi=>by
  have dK:i<a.l.length:=J
  have De:i<b.l.length:=J
  have c1:(i:Int)<(a.l.length:Int):=J
  have c2: ¬((i:Int)<0):=J
  have c3:(i:Int)<(b.l.length:Int):=J
  obtain⟨c,U,Z,h3⟩:=Hh j (i+1) J;have hb:=hr _ (aF dK);by_cases b0:((a.l[i]).W 0).n=((b.l[i]).W 0).n
  case neg=>
   refine⟨0,?_,.inl rfl,fun h=>absurd h J,fun h=>absurd (h i dK De (az i)).o b0⟩;rw [bP,KF];simp only [t201,zz,c1,c2,c3,bT dK,bT De,b0,fin]
  by_cases b1:((a.l[i]).W 1).n=((b.l[i]).W 1).n
  case neg=>
   refine⟨0,?_,.inl rfl,fun h=>absurd h J,fun h=>absurd (h i dK De (az i)).c b1⟩;rw [bP,KF];simp only [t201,zz,c1,c2,c3,bT dK,bT De,b0,b1,fin]
  by_cases b2:(((a.l[i]).W 2).n=0↔((b.l[i]).W 2).n=0)
  case neg=>
   refine⟨0,?_,.inl rfl,fun h=>absurd h J,fun h=>absurd (h i dK De (az i)).d b2⟩;rw [bP,KF];have b2':=bits.2 b2;simp only [t201,zz,dF,eF,c1,c2,c3,bT dK,bT De,b0,b1,an b2',fin]
  have b2': ¬_:=fun h=>bits.1 h b2;by_cases b3:((a.l[i]).W 3).n=((b.l[i]).W 3).n
  case neg=>
   refine⟨0,?_,.inl rfl,fun h=>absurd h J,fun h=>absurd (h i dK De (az i)).g b3⟩;rw [bP,KF];simp only [t201,zz,dF,eF,c1,c2,c3,bT dK,bT De,b0,b1,ak b2',b3,fin]
  obtain⟨e,g1,g2,g3⟩:=US ((a.l[i]).W 4) ((b.l[i]).W 4) hb.1;by_cases b4:e=0
  ·subst b4;refine⟨0,?_,.inl rfl,fun h=>absurd h J,fun h=>absurd (g3.2 (h i dK De (az i)).r) J⟩;rw [bP,KF];simp only [t201,zz,dF,eF,c1,c2,c3,bT dK,bT De,b0,b1,ak b2',b3,g1,fin]
  have he:e=1:=J
  subst he;by_cases b5:((a.l[i]).W 5).l.length=((b.l[i]).W 5).l.length
  case neg=>
   have b5': ¬(((a.l[i]).W 5).l.length:Int)=(((b.l[i]).W 5).l.length:Int):=J
   refine⟨0,?_,.inl rfl,fun h=>absurd h J,fun h=>absurd (h i dK De (az i)).v.1 b5⟩;rw [bP,KF];simp only [t201,zz,dF,eF,c1,c2,c3,bT dK,bT De,b0,b1,ak b2',b3,g1,bI,b5',fin]
  have b5':(((a.l[i]).W 5).l.length:Int)=(((b.l[i]).W 5).l.length:Int):=J
  obtain⟨f,f1,f2,f3⟩:=G4 ((a.l[i]).W 5) ((b.l[i]).W 5) b5 hb.2 (enc a) (enc b) (a.l.length:Int) i J c Z U ((b.l[i]).W 0).n ((b.l[i]).W 1).n ((a.l[i]).W 2).n ((b.l[i]).W 3).n (enc ((a.l[i]).W 4)) ((b.l[i]).W 0).n ((b.l[i]).W 1).n ((b.l[i]).W 2).n ((b.l[i]).W 3).n (enc ((b.l[i]).W 4)) ((a.l[i]).W 5).l.length 0 J;refine⟨f,?_,f2,fun h k k1 k2 k3=>?_,fun h=>f3.2 ⟨(h i dK De (az i)).v.2,h3.2 fun k k1 k2 k3=>h k k1 k2 J⟩⟩
  ·rw [bP,KF];rw [b5'] at f1;simp only [t201,zz,dF,eF,c1,c2,c3,bT dK,bT De,b0,b1,ak b2',b3,g1,bI,b5',fin];exact f1
  ·by_cases hk:k=i
   ·subst hk;exact⟨b0,b1,b2,b3,g3.1 rfl,b5,(f3.1 h).1⟩
   ·exact h3.1 (f3.1 h).2 k k1 k2 J
end
theorem Uo (a b:D) (hlen:a.l.length<=140737488351232) (hr:Ji a): ∃c:Int,L 200 [enc a,enc b]=some [c]/\(c=0\/c=1)/\(c=1↔a.l.length=b.l.length/\NL a b 0):=by
 by_cases Y:a.l.length=b.l.length
 ·obtain⟨c,U,Z,h3⟩:=Hh Y hlen hr a.l.length 0 J;refine⟨c,?_,Z,h3.trans ⟨fun h=> ⟨Y,h⟩,fun h=>h.2⟩⟩;have vy:(a.l.length:Int)=(b.l.length:Int):=J
  rw [bP,agD,t200,eh,an,lY]
  ·simp only [List.map,cU,gp,gO,bQ,Nat.reduceLT,bM,bN,bD,fin];exact U
  ·simp only [gE,gp,bQ,Nat.reduceLT,bM,bN,bD,gO]
   grind
 ·refine⟨0,?_,.inl rfl,fun h=>absurd h J,fun h=>absurd h.1 Y⟩;have vy: ¬(a.l.length:Int)=(b.l.length:Int):=J
  rw [bP,agD,t200,eh,ak]
  ·simp only [iO,List.map,cU,fin]
  ·simp only [gE,gp,bQ,Nat.reduceLT,bM,bN,bD,gO]
   grind
theorem ZM (x0 x4 x5 x6 x7 x8 K8 x11 x12 x14:Int):dw 501 [x0,enc (.i 1),0,0,x4,x5,x6,x7,x8,-1,K8,x11,x12,enc (.i 1),x14] (fun ys=>ys= [1]):=by
 refine dw.of ?_;rw [Vo,Oq,eh,ak]
 ·simp only [zz,jn,aC]
  repeat' first
   |exact .out rfl
   |(exfalso; omega)
   |refine .ite (fun _=>?_) (fun _=>?_)
 ·simp only [lO,bQ,Nat.reduceLT,bM,bN];omega
theorem Ug (k n x1 x3 x4:Int) (m:Nat) (h3:k=3->1<=n) (h5:k=5->1<=n/\n<=16) :
 dw 500 [k,x1,n,x3,x4,-1,(if k=3\/k=9 then n else 0),0,0,enc (.i 1),enc (.i 1),(m:Int)] (fun ys=>ys= [1]):=by
 have w:k=5->IntKind.i64.wrap (n-1)=n-1:=fun h=>me (by have:=h5 h; omega) (by have:=h5 h; omega)
 have alK: ∃a b:Int,L 650 [k,x1,n,x3,x4]=some [a,b]/\(b=0\/b=1)/\(b≠0->k≠9/\0<=(if k=3\/k=9 then n else 0)/\(if k=3\/k=9 then n else 0)<=a):=by
  have:dw 650 [k,x1,n,x3,x4] (fun ys=> ∃a b:Int,ys= [a,b]/\(b=0\/b=1)/\(b≠0->k≠9/\0<=(if k=3\/k=9 then n else 0)/\(if k=3\/k=9 then n else 0)<=a)):=by
   refine dw.of ?_;rw [abf];simp only [X?,zz]
   repeat' first
    |exact .out ⟨_,_,rfl,J,fun h=> ⟨J,by split<;>omega,by split<;>omega⟩⟩
    |refine .ite (fun _=>?_) (fun _=>?_)
   all_goals exact .out ⟨_,_,rfl,J,fun h=> ⟨J,by split<;>omega,by rw [w (by assumption)]; have:=h5 (by assumption); split<;>omega⟩⟩
  obtain⟨ys,h,a,b,rfl,Z⟩:=this;exact⟨a,b,h,Z⟩
 obtain⟨a,b,hm,hb,hr⟩:=alK;refine dw.of ?_;rw [abg];simp only [Xc,zz,hm,jn,aC]
 repeat' first
  |exact .out rfl
  |exact .jump (ZM _ _ _ _ _ _ _ _ _ _)
  |(exfalso; omega)
  |refine .ite (fun _=>?_) (fun _=>?_)
theorem Vv {d0:D} (Y:d0.l.length<=64) (hn:0<d0.l.length):L 301 [enc d0,(d0.l.length:Int)]=some [enc (dL (d0.l.map iN))]:=by
 have e0:=Gh d0 Y (d0.l.length-1) 1 [iN (d0.l[0]'hn)] J rfl
 have e1:[iN (d0.l[0]'hn)]++(d0.l.drop 1).map iN=d0.l.map iN:=by
  conv=>rhs; rw [<- anq (l:=d0.l),amX hn]
  rfl
 rw [e1] at e0;have a0:d0.at 0=d0.l[0]'hn:=bT (i:=0) hn;have c1:(0:Int)<(d0.l.length:Int):=J
 have key: ∀q:Int,q=(if (((d0.l[0]'hn)).W 0).n=3\/((d0.l[0]'hn).W 0).n=9 then ((d0.l[0]'hn).W 2).n else 0)->enc (dL [iN (d0.l[0]'hn)])=enc (.p (.p (.i (-1)) (.p (.i q) (.p (.i 0) (.p (.i 0) (.p (.i 1) (.p (.i 1) (.i 0))))))) (.i 0)):=fun q hq=>by rw [hq]; rfl
 have k:dY (cY L (low [enc d0,(d0.l.length:Int)])) Uc= .jump 302 [enc (dL [iN (d0.l[0]'hn)]),enc d0,(d0.l.length:Int),1]:=by
  by_cases h3:((d0.l[0]'hn).W 0).n=3
  ·rw [key _ (by rw [an (.inl h3)])];simp only [Uc,zz,c1,a0,jn,ax,h3,dL]
  ·by_cases h9:((d0.l[0]'hn).W 0).n=9
   ·rw [key _ (by rw [an (.inr h9)])];simp only [Uc,zz,c1,a0,jn,ax,ak h3,an h9,dL]
   ·rw [key 0 (by rw [ak J])];simp only [Uc,zz,c1,a0,jn,ax,ak h3,ak h9,dL]
 rw [bP,agB];exact (congrArg (fin L) k).trans e0
theorem y! {d0 d1:D} (hc:L 450 [enc d0,enc d1]=some [0]) (Y:d0.l.length<=64) (hn:0<d0.l.length):L 300 [enc d0,enc d1]=some [enc (dL (d0.l.map iN))]:=by
 have k:dY (cY L (low [enc d0,enc d1])) Y!= .jump 301 [enc d0,(d0.l.length:Int)]:=by refine bV [.eq (a0 450 [.dD 0,.dD 1]) (.lit 1),.eq (rr 450 [.dD 0,.dD 1] 0) (.lit 0)] [] (ju 301 [.dD 0,ln (.dD 0)]) (by simp only [zz,hc]) ad ?_;simp only [lY,List.map,bQ,gp,Nat.reduceLT,bM,bN,bD]
 rw [bP,abj];exact (congrArg (fin L) k).trans (Vv Y hn)
theorem y_ {d0 d1:D} {c:Int} (hc:L 450 [enc d0,enc d1]=some [c]) (h:c≠0\/d0.l.length=0):L 300 [enc d0,enc d1]=some [enc (.i 1)]:=by
 by_cases h0:c=0
 ·subst h0;have hz:d0.l.length=0:=h.resolve_left (fun h=>h rfl)
  have k:dY (cY L (low [enc d0,enc d1])) Y!= .jump 301 [enc d0,0]:=by refine bV [.eq (a0 450 [.dD 0,.dD 1]) (.lit 1),.eq (rr 450 [.dD 0,.dD 1] 0) (.lit 0)] [] (ju 301 [.dD 0,ln (.dD 0)]) (by simp only [zz,hc]) ad ?_;simp only [lY,List.map,bQ,gp,Nat.reduceLT,bM,bN,bD,hz];rfl
  have k1:dY (cY L (low [enc d0,0])) Uc= .out [enc (.i 1)]:=by refine bV [] [.lt (.lit 0) (.dD 1)] (ou [.eD (.i 1)]) (by simp only [zz]<;>omega) ad rfl
  rw [bP,abj];refine (congrArg (fin L) k).trans ?_;show L 301 [enc d0,0]=_;rw [bP,agB];exact congrArg (fin L) k1
 ·have k:dY (cY L (low [enc d0,enc d1])) Y!= .out [enc (.i 1)]:=by
   refine bV [.eq (a0 450 [.dD 0,.dD 1]) (.lit 1)] [.eq (rr 450 [.dD 0,.dD 1] 0) (.lit 0)] (ou [.eD (.i 1)]) (by simp only [zz,hc]<;>omega) ad rfl
  rw [bP,abj];exact congrArg (fin L) k
structure Gs (s:D) (n:Nat):Prop where
 wd:Wd (.sl 7) s
 rows: ∀x∈s.l,(x.W 4).l.length<=n/\(x.W 5).l.length<=n
theorem Gs.kr {s:D} {n:Nat} (h:Gs s n) (hn:n<17592186044415):kr s:=fun x hx=>by have:=h.rows x hx; omega
theorem Gs.mono {s:D} {n m:Nat} (h:Gs s n) (hm:n<=m):Gs s m:=⟨h.wd,fun x hx=>by have:=h.rows x hx; omega⟩
theorem G3 {l:List D} (h: ∀x∈l,xi x) (hn:l≠[]) (Y:l.length<=1759218604390):Wd (.sl 7) (dL l):=by
 have e:(l.map fun x=>x.l).map dL=l:=by
  rw [anv]
  conv=>rhs; rw [<- List.map_id l]
  apply anP;intro x hx;obtain⟨o,c,d,g,r,v,rfl,_⟩:=h x hx;rfl
 rw [<- e];refine .many 7 [.int .i64,.int .i64,.bool,.int .i64,.sl 0,.sl 0] _ rfl (by simpa using hn) (by have:tu 7=80:=rfl; rw [this,bw]; omega) (fun r hr=>?_) fun r hr j d c U Z=>?_
 ·obtain⟨x,hx,rfl⟩:=bd.1 hr;obtain⟨o,c,d,g,r,v,rfl,_⟩:=h x hx;rfl
 ·obtain⟨x,hx,rfl⟩:=bd.1 hr;obtain⟨o,c',d',g,r,v,rfl,ho,hc,W,hg,hr,hv⟩:=h x hx;rw [bE] at U
  match j with
  |0=>simp at U Z; subst U Z; exact .int _ _ ho
  |1=>simp at U Z; subst U Z; exact .int _ _ hc
  |2=>
   simp at U Z; subst U Z;rcases W with rfl|rfl
   ·exact .bool false
   ·exact .bool true
  |3=>simp at U Z; subst U Z; exact .int _ _ hg
  |4=>simp at U Z; subst U Z; exact hr
  |5=>simp at U Z; subst U Z; exact hv
  |j+6=>simp at U
theorem Tg.mO {x:D} {o c dn g:Int} {r v:D} (T:Tg x o c dn g r v):xi x:=⟨o,c,dn,g,r,v,T.is,T.ho,T.hc,T.W,T.hg,T.hr,T.hv⟩
theorem vT {l:List D} {z:Int} {y x:D} (h:x∈eV l z y):x∈l\/x=y:=by
 unfold eV at h
 grind
theorem lg {l:List D} {z:Int} {y:D} {k:Nat} (h:(k:Int)≠z):(eV l z y)[k]?=l[k]?:=by
 unfold eV
 grind
theorem wv {l:List D} {k:Nat} {y:D} (h:k<l.length):(eV l (k:Int) y)[k]?=some y:=by rw [oD,aoO,an rfl,an h]
theorem Pu {s:D} {n:Nat} (G:Gs s n) {z:Int} {y:D} (hy:xi y) (h4:(y.W 4).l.length<=n) (h5:(y.W 5).l.length<=n) (hn:0<s.l.length):Gs (dL (eV s.l z y)) n:=by
 have ht:=uV G.wd hn;refine⟨G3 (fun x hx=>?_) (fun he=>?_) (by rw [fh]; exact ht.kr),fun x hx=>?_⟩
 ·rcases vT hx with h|rfl
  ·exact G.wd.mO x h
  grind
 ·have:=fh s.l z y
  grind
 ·rw [bE] at hx;rcases vT hx with h|rfl
  ·exact G.rows x h
  grind
theorem ED (s:D) (obj M:Int) (A:Act):(gk s obj M A).l.length=s.l.length:=by
 cases A with
 |nH=>rfl
 |vu=>rfl
 |res o c dn g r v m a oc=>
  unfold gk;rw [bE,fh]
  cases m with
  |none=>rfl
  |some q=>exact fh _ _ _
theorem Rz {s:D} {n:Nat} (G:Gs s n) {obj M:Int} {A:Act} (hA:Gw (n+1) A) (ho0:0<=obj) (ho1:obj<(s.l.length:Int)) (hM:Dp A\/0<=M/\M<(s.l.length:Int)):Gs (gk s obj M A) (n+1):=by
 have G1:=G.mono (am9 n)
 cases A with
 |nH=>exact G1
 |vu=>exact G1
 |res o c dn g r v m a oc=>
  obtain⟨U,Z,h3,h4,h5,h6,h7,h8,h9,_⟩:=hA
  have W:(if dn=0 then (0:Int) else 1)=dn:=by rcases h3 with rfl|rfl<;>rfl
  have hy:xi (dL [.i o,.i c,.i (if dn=0 then 0 else 1),.i g,r,v]):=⟨o,c,_,g,r,v,rfl,U,Z,by rw [W]; exact h3,h4,h5,h7⟩
  cases m with
  |none=>exact Pu G1 hy h6 h8 J
  |some q=>
   have hM:0<=M/\M<(s.l.length:Int):=hM.resolve_left (fun h=>by simp [Dp] at h);obtain⟨k,rfl⟩ : ∃k:Nat,M=(k:Int):=⟨M.toNat,J⟩;have hk:k<s.l.length:=J
   obtain⟨o',c',d',g',r',v',he,q1,q2,q3,q4,q5,q6⟩:=G.wd.mO _ (aF hk);have hrw:=G1.rows _ (aF hk);rw [he] at hrw;have hz:dL (eV (s.at (k:Int)).l 0 (.i q))=dL [.i q,.i c',.i d',.i g',r',v']:=by rw [bT hk,he]; rfl
   have G2:Gs (dL (eV s.l (k:Int) (dL (eV (s.at (k:Int)).l 0 (.i q))))) (n+1):=by rw [hz];exact Pu G1 ⟨q,c',d',g',r',v',rfl,h9 q rfl,q2,q3,q4,q5,q6⟩ hrw.1 hrw.2 J
   have:=Pu (z:=obj) G2 hy h6 h8 (by rw [bE,fh]; omega);rw [bE] at this;exact this
theorem zK {s:D} {obj M:Int} {A:Act} {k:Nat} (h:(k:Int)≠obj) (hM:Dp A\/(k:Int)≠M):(gk s obj M A).l[k]?=s.l[k]?:=by
 cases A with
 |nH=>rfl
 |vu=>rfl
 |res o c dn g r v m a oc=>
  unfold gk;rw [bE,lg h]
  cases m with
  |none=>rfl
  |some q=> have hM:(k:Int)≠M:=hM.resolve_left (fun h=>by simp [Dp] at h);exact lg hM
def Vm (th op obj:Int):Act->List Int
 | .nH=>[0,0,0,0,0,0]
 | .vu=>[th,27,obj,IntKind.i64.wrap op,0,2]
 | .res _ _ _ _ _ _ _ a oc=>[th,op,obj,a,0,oc]
theorem zQ (s:D) (th op obj M:Int) (A:Act):EK s th op obj M A=enc (gk s obj M A)::Vm th op obj A:=by cases A<;>rfl
end Go.As.Try
end

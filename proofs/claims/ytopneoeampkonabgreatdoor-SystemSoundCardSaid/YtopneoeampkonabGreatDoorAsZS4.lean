import Derived.Test.YtopneoeampkonabGreatDoorCards
import Derived.Test.YtopneoeampkonabGreatDoorTie
import Derived.ProofKit
import Derived.Deep.DeepHandedRow
import Derived.LaidLaws
import Derived.Test.YtopneoeampkonabGreatDoorAsZS3
set_option linter.unusedSectionVars false
set_option linter.unusedVariables false
set_option linter.unusedSimpArgs false
section
namespace Go.As.Try
open Go Go.As Go.Proofs Go.RowKit
set_option maxRecDepth 100000
def maxLen:Nat:=Tryz.laysM144_ren.g 1
def base:Ny where
 ok ro h:=ro maxLen/\∃m,kJ h maxLen 0=some (.int .i64 m)
 cD:=by intro ro n6 h h' hk U Z;obtain⟨a,m,hm⟩:=hk;refine⟨U _ a,m,?_⟩;unfold kJ at *;rw [Z _ a];exact hm
noncomputable def K_:TT:=HE 282 tab
noncomputable def ft:Nat->Option Func:=HE 237 JO
def ah8:List (Nat×Nat):=[(22,3),(23,4),(26,0),(27,9),(30,7),(31,8),(54,2),(55,5),(58,0),(62,6),(177,14),(243,14),(127,0),(161,1),(211,1),(83,101)]
noncomputable def ttE:TT:=LG ah8 K_
noncomputable def hints:Nat->Nat->Option AQ:=hAt ais
theorem DK:eJ Tryz.prog K_:=J? Wf
theorem Wh:eJ Tryz.prog ttE:=W? DK
theorem R7:Ve Tryz.prog (KA K_ hints) ft:=aas Mj YW
theorem afC:Ve Tryz.prog (KA ttE hints) ft:=by unfold ttE; rw [k_]; exact R7
def b (n:Nat):Y:=.int .u8 (.lit (.ofNat n))
def FQ:Y:=.agg [b 0,b 0,b 0,b 0,b 0,b 0,b 0,b 0,b 0,b 1,b 1,b 0,b 0,b 1,b 0,b 0,b 0,b 0,b 0,b 0,b 0,b 0,b 0,b 0,b 0,b 0,b 0,b 0,b 0,b 0,b 0,b 0,b 1,b 0,b 0,b 2,b 0,b 0,b 0,b 0,b 5,b 5,b 5,b 5,b 0,b 5,b 0,b 0,b 3,b 3,b 3,b 3,b 3,b 3,b 3,b 3,b 3,b 3,b 0,b 5,b 5,b 5,b 0,b 0,b 0,b 4,b 4,b 4,b 4,b 4,b 4,b 4,b 4,b 4,b 4,b 4,b 4,b 4,b 4,b 4,b 4,b 4,b 4,b 4,b 4,b 4,b 4,b 4,b 4,b 4,b 4,b 0,b 0,b 0,b 0,b 4,b 0,b 4,b 4,b 4,b 4,b 4,b 4,b 4,b 4,b 4,b 4,b 4,b 4,b 4,b 4,b 4,b 4,b 4,b 4,b 4,b 4,b 4,b 4,b 4,b 4,b 4,b 4,b 5,b 0,b 5,b 0,b 0,b 0,b 0,b 0,b 0,b 0,b 0,b 0,b 0,b 0,b 0,b 0,b 0,b 0,b 0,b 0,b 0,b 0,b 0,b 0,b 0,b 0,b 0,b 0,b 0,b 0,b 0,b 0,b 0,b 0,b 0,b 0,b 0,b 0,b 0,b 0,b 0,b 0,b 0,b 0,b 0,b 0,b 0,b 0,b 0,b 0,b 0,b 0,b 0,b 0,b 0,b 0,b 0,b 0,b 0,b 0,b 0,b 0,b 0,b 0,b 0,b 0,b 0,b 0,b 0,b 0,b 0,b 0,b 0,b 0,b 0,b 0,b 0,b 0,b 0,b 0,b 0,b 0,b 0,b 0,b 0,b 0,b 0,b 0,b 0,b 0,b 0,b 0,b 0,b 0,b 0,b 0,b 0,b 0,b 0,b 0,b 0,b 0,b 0,b 0,b 0,b 0,b 0,b 0,b 0,b 0,b 0,b 0,b 0,b 0,b 0,b 0,b 0,b 0,b 0,b 0,b 0,b 0,b 0,b 0,b 0,b 0,b 0,b 0,b 0,b 0,b 0,b 0,b 0]
theorem Ad {g:Nat} {f:Func} (h:JO.get g=some f) (hg:g<237):Tryz.prog.funcs[g]?=some f:=by have:=congrArg (fun l=>l[g]?) Mj;simp only [bp,anp hg,amu,an] at this;rw [<- this];exact h
theorem aeu {g:Nat} {f:Func} (hf:Tryz.prog.funcs[g]?=some f) (hn:(f.name == "runtime.NumGoroutine")=false) (hb:f.body.isNone=false): ∀(args:Array Value) (w:World),(callFunc g args).run Tryz.prog w= .ok (.enter g args) w:=by intro args w;unfold callFunc;simp only [Sem.run_bind,run_program,Result.andThen_ok,hf];rw [hn,hb];simp
def RO (g:Nat):Option (List Y->St->T (Y×St)):=
 match Nat.beq g 184 with
 |true=>some tU
 |false=>match Nat.beq g 203 with
  |true=>some tT
  |false=>match Nat.beq g 167 with
   |true=>some od
   |false=>none
theorem aey:Tryz.laysM144_ren.f 144=167:=aa
section
variable (I:bJ) (hI: ∀ρ ro h,I.ok ρ ro h->base.ok ro h)
theorem f184:@kR I Tryz.prog 184 tU:=@U0 _ I 184 Tryz.f184 (Ad aa ae) aa aa aa aa
theorem f203:@kR I Tryz.prog 203 tT:=@Us _ I 203 Tryz.f203 (Ad aa ae) aa aa aa aa
include hI in
theorem f167:@kR I Tryz.prog 167 od:=by letI:=I;refine Kx ?_ (aeu (f:=Tryz.f167) (Ad aa ae) aa aa);intro ρ ro w hw s sub hs;obtain⟨_,m,hm⟩:=hI _ _ _ hw;have:=Any.strings_Contains { Tryz.laysM144 with } s sub m w hs (by rw [oM]; exact hm);rw [aey] at this;exact this
include hI in
theorem Ma: ∀(g:Nat) (h:List Y->St->T (Y×St)),RO g=some h->@kR I Tryz.prog g h:=by
 intro g h hh;unfold RO at hh;split at hh
 ·rename_i hg;have:=az hg;subst this;simp at hh;subst hh;exact f184 I
 ·split at hh
  ·rename_i hg;have:=az hg;subst this;simp at hh;subst hh;exact f203 I
  ·split at hh
   ·rename_i hg;have:=az hg;subst this;simp at hh;subst hh;exact f167 I hI
   ·simp at hh
end
noncomputable def ahV (g:Nat):List Y->St->T (Y×St):=J8 K_ ft RO (Im K_ hints) 100000 60 g
theorem T_ (I:bJ) (hI: ∀ρ ro h,I.ok ρ ro h->base.ok ro h) (g:Nat):@kR I Tryz.prog g (ahV g):=@At _ I _ DK _ _ R7 _ (Ma I hI) _ (fun _ hc=>@AA _ I _ DK mixed _ _ hc) 100000 60 g
theorem MZ:HS [] FQ (ahV 162)=true:=aa
theorem xi {f:Func} (h:f.body.isSome=true): ∃c,f.body=some c:=amS.1 h
theorem PH (I:bJ) (hI: ∀ρ ro h,I.ok ρ ro h->base.ok ro h):@kR I Tryz.prog 162 (Gr [] FQ):=by letI:=I;obtain⟨c,hb⟩:=xi (f:=Tryz.f162) aa;exact Dk (T_ I hI 162) (fn:=Tryz.f162) (Ad aa ae) aa hb MZ
def L9 (g:Nat):Option (List Y->St->T (Y×St)):=
 match Nat.beq g 162 with
 |true=>some (Gr [] FQ)
 |false=>RO g
theorem EN (I:bJ) (hI: ∀ρ ro h,I.ok ρ ro h->base.ok ro h): ∀(g:Nat) (h:List Y->St->T (Y×St)),L9 g=some h->@kR I Tryz.prog g h:=by
 intro g h hh;unfold L9 at hh;split at hh
 ·rename_i hg;have:=az hg;subst this;simp at hh;subst hh;exact PH I hI
 ·exact Ma I hI g h hh
noncomputable def Om (g:Nat):List Y->St->T (Y×St):=J8 K_ ft L9 (Im K_ hints) 100000 60 g
theorem wG (I:bJ) (hI: ∀ρ ro h,I.ok ρ ro h->base.ok ro h) (g:Nat):@kR I Tryz.prog g (Om g):=@At _ I _ DK _ _ R7 _ (EN I hI) _ (fun _ hc=>@AA _ I _ DK mixed _ _ hc) 100000 60 g
theorem aeM:HS [.str [97]] (.bool (.lit true)) (Om 114)=true:=aa
theorem aeL:HS [.str [98]] (.bool (.lit true)) (Om 114)=true:=aa
def RB:List Y:=[.agg [.ro [.int .u8 (.lit 1),.str [109],.int .i64 (.lit 0),.str [],.int .i64 (.lit 1)] 1 false,.ro [.str [97],.ro [.int .u8 (.lit 1),.int .u8 (.lit 1),.str [109],.str [],.int .i64 (.lit 0),.gL,.gL,.gL,.int .i64 (.lit 1),.int .u8 (.lit 1),.int .u8 (.lit 2),.str [109],.str [],.int .i64 (.lit 0),.gL,.gL,.gL,.int .i64 (.lit 1)] 2 false,.int .i64 (.lit 1),.str [98],.ro [.int .u8 (.lit 1),.int .u8 (.lit 1),.str [109],.str [],.int .i64 (.lit 0),.gL,.gL,.gL,.int .i64 (.lit 1)] 1 false,.int .i64 (.lit 1)] 2 false]]
theorem aij:JL RB (.agg [.int .i64 (.lit 0),.int .i64 (.lit 0)]) (Om 92)=true:=aa
def Ry:List (List Y×Y):=[(RB,.agg [.int .i64 (.lit 0),.int .i64 (.lit 0)])]
def RC:List Y:=[.agg [.ro [.int .u8 (.lit 1),.str [109],.int .i64 (.lit 0),.str [],.int .i64 (.lit 1)] 1 false,.ro [.str [97],.gL,.ro [.int .u8 (.lit 1),.int .u8 (.lit 1),.int .i64 (.lit 0),.int .i64 (.lit (-1)),.int .i64 (.lit 0),.int .i64 (.lit 0),.gL,.int .u8 (.lit 1),.int .u8 (.lit 2),.int .i64 (.lit 0),.int .i64 (.lit (-1)),.int .i64 (.lit 0),.int .i64 (.lit 0),.gL] 2 false,.str [98],.gL,.ro [.int .u8 (.lit 1),.int .u8 (.lit 1),.int .i64 (.lit 0),.int .i64 (.lit (-1)),.int .i64 (.lit 0),.int .i64 (.lit 0),.gL] 1 false] 2 false]]
theorem aik:JL RC (.int .i64 (.lit 0)) (Om 13)=true:=aa
def Rz:List (List Y×Y):=[(RC,.int .i64 (.lit 0))]
noncomputable def Yw (g:Nat):Option (List Y->St->T (Y×St)):=
 match Nat.beq g 92 with
 |true=>some (orElse (Rn Ry) (Om 92))
 |false=>match Nat.beq g 13 with
 |true=>some (orElse (Rn Rz) (Om 13))
 |false=>L9 g
theorem Yv (I:bJ) (hI: ∀ρ ro h,I.ok ρ ro h->base.ok ro h): ∀(g:Nat) (h:List Y->St->T (Y×St)),Yw g=some h->@kR I Tryz.prog g h:=by
 intro g h hh;letI:=I;unfold Yw at hh;split at hh
 ·rename_i hg;have:=az hg;subst this;simp only [an] at hh;subst hh;obtain⟨c,hb⟩:=xi (f:=Tryz.f92) aa;refine wL (LP (wG I hI 92) (fn:=Tryz.f92) (Ad aa ae) aa hb fun p hp=>?_) (wG I hI 92);simp only [Ry,aF,amw,or_false] at hp;rcases hp with rfl
  ·exact aij
 ·skip;split at hh
  ·rename_i hg;have:=az hg;subst this;simp only [an] at hh;subst hh;obtain⟨c,hb⟩:=xi (f:=Tryz.f13) aa;refine wL (LP (wG I hI 13) (fn:=Tryz.f13) (Ad aa ae) aa hb fun p hp=>?_) (wG I hI 13);simp only [Rz,aF,amw,or_false] at hp;rcases hp with rfl
   ·exact aik
  ·skip;exact EN I hI g h hh
noncomputable def ahU (g:Nat):List Y->St->T (Y×St):=J8 K_ ft Yw (Im K_ hints) 100000 60 g
theorem S? (I:bJ) (hI: ∀ρ ro h,I.ok ρ ro h->base.ok ro h) (g:Nat):@kR I Tryz.prog g (ahU g):=@At _ I _ DK _ _ R7 _ (Yv I hI) _ (fun _ hc=>@AA _ I _ DK mixed _ _ hc) 100000 60 g
theorem PL:HS [] (.bool (.lit true)) (ahU 6)=true:=aa
section
variable (I:bJ) (hI: ∀ρ ro h,I.ok ρ ro h->base.ok ro h)
include hI
theorem Uk:@kR I Tryz.prog 114 (Gr [.str [97]] (.bool (.lit true))):=by letI:=I;obtain⟨c,hb⟩:=xi (f:=Tryz.f114) aa;exact Dk (wG I hI 114) (fn:=Tryz.f114) (Ad aa ae) aa hb aeM
theorem Uj:@kR I Tryz.prog 114 (Gr [.str [98]] (.bool (.lit true))):=by letI:=I;obtain⟨c,hb⟩:=xi (f:=Tryz.f114) aa;exact Dk (wG I hI 114) (fn:=Tryz.f114) (Ad aa ae) aa hb aeL
theorem U2:@kR I Tryz.prog 6 (Gr [] (.bool (.lit true))):=by letI:=I;obtain⟨c,hb⟩:=xi (f:=Tryz.f6) aa;exact Dk (S? I hI 6) (fn:=Tryz.f6) (Ad aa ae) aa hb PL
end
def OW (g:Nat):Option (List Y->St->T (Y×St)):=
 match Nat.beq g 6 with
  |true=>some (Gr [] (.bool (.lit true)))
  |false=>match Nat.beq g 114 with
  |true=>some (orElse (Gr [.str [97]] (.bool (.lit true))) (Gr [.str [98]] (.bool (.lit true))))
  |false=>L9 g
theorem Uw (I:bJ) (hI: ∀ρ ro h,I.ok ρ ro h->base.ok ro h): ∀(g:Nat) (h:List Y->St->T (Y×St)),OW g=some h->@kR I Tryz.prog g h:=by
 intro g h hh;unfold OW at hh;split at hh
 ·rename_i hg;have:=az hg;subst this;simp at hh;subst hh;exact U2 I hI
 ·skip;split at hh
  ·rename_i hg;have:=az hg;subst this;simp at hh;subst hh;letI:=I;exact wL (Uk I hI) (Uj I hI)
  ·exact EN I hI g h hh
end Go.As.Try
end
section
namespace Go.As.Try
open Go hiding Stat Spec shape
open Go.As Go.Proofs
set_option maxRecDepth 100000
def ag8:List fV:=iE _ (j3 "1TjrxH7pgfBSqWyOr5VOdWzaORrhN_V5OA9nMvg4viKEbxJMFxZuxiOVnv68uap8xzOMYW2GjFq6a2nBG5eK0BVVpduDzZOS357OY52nHkrJekADlqv_8H7tThafc1e1RtGXBWMluAuSNkkNOzUKM55aZvAUXpjPA0MEGV_gXRjgeDfWpHdRxbSaat2fNQhhgfb7Cla5_7xEJLFtv9iW0DVyQyzPxpxAbPQ78D1w8RgWl3TC3plU668O6pV1K8FpPUDTxiqk" 74 7)
def ag7:List fV:=iE _ (j3 "9FzHDNO_Nb6bLFerhX2E60AWcoQySbUGP8wF9Dr0QWJOv4uwngCNc95OqSVoVqzoqHMqKkeSKDwEMDNGN4i8AbxEe8nucmuL4xuLmvynrSrBPXHC6JY5kmd1vQYRSHXETTGmdHri0MmMhne3ebxFMzmg_4sHZ7A6e_7ZPxT7qqq4LqHDYeE3p_3Lm8X4Gi8eA9Ax1q2wvKObsE6PLzh2ZushVihc4QtVQTruDsDaUTEVyzTF7p5RmCJ_h_OUbHlLzTD73DvcP5w202JQfS8l2WiJOFCkcps7AyztPfL029nNHsLB6NmyMGn" 74 10)
def ag6:List fV:=iE _ (j3 "87njlQwGjB7TZxM5JSRMWE8OQfRKWDh11C6nCz864yxKg1Foro36khDZ5N0vpYFQEsJawJ8QPpx850KEVaFt6P6_4fU0wA9pkehJP64JPDyy9YO8ae5rMVwwZ1103ZxvayYhuvVidpdFZi4YsM1WhShq856KUsqhEEYiWEuEk4x_Cy8osvdOOJMaUK1t5_jbB7Pdiezzdye6ZS27W_UBsj3XW13iSUi5ejpN4wh6xC6Gk7Nj4HZaE7CHlGe5RDawSFoiWnlVZgwGaQWitRLCiJYERwBTea9xmoq5dcLbpPfDl7EQau_UaMe0pq2zgH8bJuOlqoBb8ijs3KZW" 74 13)
def ag5:List fV:=iE _ (j3 "BojtF5DrxguRavMKqKVejl2L_Y07NFridRxdSVmXrAzlbVMUs53VWyXRJeBY4DUCnJg96H6prpWlPXQFRV9NhCnx1sK8" 74 4)
def ag4:List fV:=iE _ (j3 "Gf5PkGW9oBjKkSlYV3kEyyW5ZAOcuepwANjCrJ20npmcwN4re9XuddyVlYmYjQEUpAr5zeznlONbLNYyKK2X8AoqNqfeuUpHUCzvGk9W08qH6vsE7mGLHfPMfXrxpDFArsrJVXvrHiaQ_G4XhB3v77n3of87mYRo3StVdJJ72GXcaDWMR0zE1MT0J_Q0lv3mxEzFzgkkYai8Ws5l6pod6r9fR6VQ6dCHnDHRezKDY8hgoza7W4ZygacLpxKUdOMBcukJRV1tgP236meTmM1_xtVTPl9dUbYHoW9wfmmmQkkMi" 74 1)
def ag3:List fV:=iE _ (j3 "9WVRxsaw5a3hCJsvN1G959viR07iXVDhSQOT3m2H8Q0MHgt6u7BgKgqbyMnDLswJ1ytJW5PcDNfaF5y_drVHUPUyRqfF9n5ZBitCooYPET26TV1gUL_1bedRUzc7SiFFVVbGDM4MG3jW_x_xcTda5yyF_bL8PvvqfG00v4pRBb2JSs4BrqUZ3tRrlHnUo0UwOZKiKW_Y0YwkTKvQ8mHFzmpc2LgyKZXjVwyOBmXSKxTzzE0KTR1xBEdsoeUHg2DJ20P6TZtEXdmvdUr93OavLlN72MUD_0aWZ2RTP2lhDEuhmG6iN_e1P8lYrXYOrtHthkJDXKpcZ1p2STGEqrEjABVDht" 74 4)
def ag2:List fV:=iE _ (j3 "_S4jAPb1VKFD1Ga4wZRZ4_KBiyqWKBplwQyAgRNvOJBYosZ3WgFgpDnHoFtL0YSHQ6BvmOecFrOcX5KySMXww3u7AKEeVCsF_TytoDNsfOyPJSZACxdrRLHxUxBqviGoKwKPC2_RhBrPhu7pa8oVZ5TcY2aBGDdmWK5nV54gCJxYCq_u8HntjgcjwH82x63kE7BNEa36vo0PNA8WpSLE_gGTsnjHVa51HYaMqt8yUkykgjchsucNltBCjCVMbQ85r37hFBFmsFvu_6Rq0sogh4EHe_m1VPUVYcHFriv7mZDzJ_rLKCTCaEAPy7u9j98gDM6JVq6AFSVnSpNELC4TDw8lU" 74 8)
def ag1:List fV:=iE _ (j3 "aPVGLfanu7b2wXLmDEGr5VtizQ0hHLZQ23WizR0EEJES3MjOUO6Ll0oEVWS6pzhlnxx_D1W8W8b7ZDRObhpcSl4gN1q0rBeMmB0HW6PSRg1RYFNsefizrqmMb4fbyrwTCjS_vpKGXuODFNBMLlOSnDBM6586pTSw2rDi7yvVcL1TxXtfpSuDnBXOEkaxlFVlAW2lltCJP4RcrrMiMFCfv16D8GsNa28MjVqflonwoUCLl9RVa_dktPVF_DWh4RlBt6aRm1eWSWZv" 74 6)
def ag0:List fV:=iE _ (j3 "2WzGlmGt5DLnAqfVn6GJWq0zUS3SWjTzm3MKWXBKn3Xbq7hTJWhgLKoi0XGlskxx_j7Y4CJElgolXwCLlgtrz4zb0hb_LzC_hPNOHcjiqZke20o6NLcQusc8gkOwnQbQ6J22aTprtagcBBJbd6jsZdgQYzGP7Ge3Sz4CvbUEouy_hEkuOuqotCZyyL6FeMWlEvWoGMywiSV2dB59NBlufvGMpi" 74 1)
def agZ:List fV:=iE _ (j3 "Epek9AN1ZBQeLCcbGlELJRzkEbRiSjwde9bah1yaGiibCNauXLA_lNwdULZL9DgBf6MvrbXjp8O9XURrxTmsG5hm20aLuwG314eGUVhXBdrpzpG0hcxwxT9VU4LxLklGWRm4QSao0NAhQoumthEv8ErTMmKtSOnehvJ9tOyXNZV8aasfdTtwACu7kuVsnlvvLrcDDdtwyxMBbE88OSQjwkeDZw2gAuwp58GA1pcJqEqrFKBgvpA07zrWDDPv73yQhK3cozhAtNkBHHL5sFRj9bp7Ctot0kaj5raQCAtFVWnKGQnEUsG4He7kxc_PdaQ609Oo6aGwU2Q3o1XQJCDFU21QQx5UWgD5uiTuJgQxWuZR1JHYRDuLPClyg7ldC4D7oBLOVUXqTyEOGisJFKCbLkSneY4D_5kSRsNAWkvyKn_tX385fnzK2iP8Q5rqJ48ZORJ1CPOWmPHLUbGcZ8U_5OnhhcbThMrAgKwLQTZ5WXFLUHJEeYHLmtsKanHwsi5XivNv_RkH6Ph3jLtk" 74 1)
def aeb:List fV:=iE _ (j3 "BZRvEBkobhhop1A9NEVxkPfq3bLbuy8vZTmcaONR0jS7Nvb7UudXSjtm9UxiYpGeK0hBvvhvDnV7Tag0eBHMp8nbb7tZTHDfC6kng7O5VywR9t7UP0osWNgd_gx6bPlNlima45fQv45PEFWMHUATw9J00hMFUHWVh9F0818iktsEhxNg6wXurbrZ_Q5q2P6heaWba96JPuTiNtr2E6lzF2W0HC4J6tlnlLsMXVyLpBh_DUx8gSJ_aMVY05nu2mTMBlfDErbl_aYd7h5gOmxbYSqslN5UO4oTFiVSqeGyJBZ8jPFWSD4gcWihLHOH" 74 2)
def aea:List fV:=iE _ (j3 "FL1HujGxO469H8xxpwpxrmLslCHPzupknUNNOP5tdXtuQaWgTXt_gXnoR1zt0M_T7ULOyM50jy78kUxO0xAqz_i0hKLkh9X5K_X0JhCvbli5VS61lYPj2vbGLuAyD0UcYy2HZPibcMVHhBaYmJiYdbEPV__cQkFHQKpaOAKld5LYxjKNbGAK1whLZgPNqeZjzmSmlKZlVQvJb93md_5eCodFdci6CQZcJYzkJ1JBfdvAHJvfmvDFNUxut02Jq6qYE16QDFHv0V6zzTakVglCmp1apvN9i" 74 2)
def ad9:List fV:=iE _ (j3 "9vwZYcxf2tYPljovtpLGb2x615wkUrXufJ7_QNwG9n9MT9h69XJAa8kcelAd3ziJWbglF1boO7fxzdadNqQrYKDby3XeH_4is0TyWqQsVX3_68dDJFTVFpy9j0Fhz_JOh5Xxd8ZvEhekXbC8ESo2wmY6hgmkCc9rpaQv9fyBKRlkxWbAdtFfp5L8X7iJ6_vGA1qw8uTW_K8RZq9oQ6Eql6buq4Fep9Xch5AZonXoj8n6Rz4RfbyHUWdTk5Hy3urUhvaP3FWUhenljZvDnWgReELvMsYZKk12sj8" 74 3)
def ad8:List fV:=iE _ (j3 "cxao5w8zwA_WbzByxnJYiE7_GMc8gH2GyDTn1JCOjX7V22foh8zvtjcOF5sT28EWhLUUp_wsDOVKDqwCUJrUvCo_OmhSYvWyASHVjcpmN8orz05Y03R3KqS3ellnfUJOxWPMFFfSaTKfQx2L8SeFlaluRZ3zEGoFNwFJ0Eeez96_ce_epqAYynVCxAf8DKHguu3HefAAVyHhKjZJqTj5yUa" 74 2)
def ad7:List fV:=iE _ (j3 "1W2TvUFZChzNUYWAc8g1aa9LAgnfFk7JxE1iT38nVsNhbRtoujwcMWU7RE1v8pS24zPMYGhi6fNVYRgysaPpc9MtZH4GX2a8EfJTG6KTFZ1rjOEv39dq9qBhvMvK5lR8A_kZUFsnAgoXXuTZFC4R7ooHkN_ZufA77VaQYh_p7R1QEuwl9Bgcomsc9DiwNpbVrKg9tBVzJvoQwWAfSvvZxyyRoQsjAbOaRx1E3lpsdpj" 74 2)
def ad6:List fV:=iE _ (j3 "1AGKZFGaFgLkCB3wkQpoHOmZoqgVEKofWK1si6p8NEVZ82CVG3qQqiCkRLLVGL9lLL6_NbyGPttdk5XBmt24a7OmxdS_MEJ_aC67BPa8oWWdVTzP6LlQfH6cGFgpYT1Q7XVjlRfPWDUU66zlZLGwq8rAPYcWujhU2RXofKX0hvfrYW478f00CratLxybZAmNRoB1uli_ZhlhL1AxU3uVkYa6lRqrgOnYLb72xXkTZWirxZmOcMjZVllzPhUJ_l" 74 2)
def ad5:List fV:=iE _ (j3 "reFwTwlRwhguc8zm4HRd0Jk04ggBYkkArVwxpuRzPqmSTzZipLl3QOtFGCkRGo5i3R1aUqbtetz7kkbE5AGJ6azwR4iTuLO1kyC4GfoGpejOoo_tZd14kJQlpduUhi0wsoAj_zFvM0bnO2AGEGjLGLDKaVg4WehwohNsnbwpJ0uK62HYTabUg1Oe5SM7odZQxrqg4YusoKotKfp5W7yOuQjLae8VEDZk1JLU_twkcO1A85QnixMc_LWL6YJq8Z6cXYyJFPC0CgKTu4ZP" 74 2)
def ad4:List fV:=iE _ (j3 "33YaRiVcmLFwO8VtcNaqajCndgmFhXVfvxMQcCeqzsrbdHwRDWl2ELk3qNU2yyJA4pEhzhJ0zRQORaBnjqDToTxG7nd97sDHy5XSJTZWztv7k_XUlDjNW3FqmEmCAzghMbAcFdQplWBE_fl59ShDXHQ8R_QbX7r3WGtdXtXhvUWXhWgPggz4zp4JqYJBwroyJXWmu2FuAGOj4sR5otGx3jtmaQcxFupg0lN6yuzVgAmtALf7T1dvbPbZnKlFeyx5StOzOVxnLJmFX8pl2QkhRrc9SuViNHJRxKsNeO5nOYCusNPd_T3YQBmfP5K75" 74 5)
def ad3:List fV:=iE _ (j3 "b6cWleYZLMwYs3UwkRd8Oaug_AMkrCpYO6FbxG9HNZZcCvyomyjebYJPZMgB1P_VCtY49TvXYDg0GR4c1vqUxB49Gwko7rUuRg46qy3njpVR5YqUqwX1Cy07UGZUM2yY9564f6UMdJV_q7riXWTwqHXCgrYUNMv7tsGNqb5wARnnCTf_Q6VmDR84j7OQlyCMmiHoNABneHu8zjXyc2b86bgNcu_2h65tKpCDdlmTh1kESNY7NKXRLlgvJ5b3HARjLFzY18_d20iwDNBbAZ_XAvuBthf7SXLHxRu39S52Xn8xb6vCp40GbewESTz29QJ2JVg85c6rQPmQKZfW4APzO5RAPeyZQqesx7D" 74 5)
def agJ:List Nat:=iE _ (NV "2000000000000000000000000000000011000000u000000000000z60w000000000000000000M080zzn1")
def abj:List fV:=ag8++ag7++ag6++ag5++ag4++ag3++ag2++ag1++ag0++agZ++aeb++aea++ad9++ad8++ad7++ad6++ad5++ad4++ad3
def feT:Tr FE:=K6 12 (I? (agJ) (abj.map fV.F))
def agG:List Nat:=iE _ (NV "00017W10U102010b10g10h17U10f10V109106103022v0c10W10Y10_24X4Y24g4h10e000010410710X10E10F11c010G00000010d00000108000000000000000000000000000010510A010K11k11d000000000000022u0B10C0000010D940414243444546474A010M010S000010T10L00000000000000000000010H0000000000000043s3u3w3y000010J000000148014910N00000000031e1h1l000043t3v3x3z000010Q10R00010O10P71f1g1i1j1m1n1o")
def aeI:Tr (List Nat):=K6 12 (adT 999 (agG))
noncomputable def St:U4:=⟨Tryz.prog,base,ttE,ft,KA ttE hints,Im ttE hints,OW,HE 466 feT,fun g=>(HE 194 aeI g).getD []⟩
noncomputable def S:Sys:=St.sys
theorem aja:(List.range 466).all (fun k=>match feT.get k with |some f=>Y5 ft k f|none=>true)=true:=aa
theorem aeH:(List.range 194).all (fun g=>LL ft (HE 466 feT) g ((aeI.get g).getD []))=true:=aa
theorem aes:F6 S:=by
 refine P! Wh afC (fun I call hc=>@AA _ I _ Wh mixed _ _ hc) Uw (fun k f hf=>?_) fun g=>?_
 ·have O0:HE 466 feT k=some f:=hf;unfold HE at O0;split at O0
  ·simp at O0
  ·rename_i hle
   have gu:k<466:=by
    rcases bg k 466 with h|h
    ·exact h
    ·rw [ano h] at hle; simp at hle
   have:=bj.1 aja k (amB.2 gu);rw [O0] at this;exact this
 ·show LL ft (HE 466 feT) g ((HE 194 aeI g).getD [])=true;unfold HE;split
  ·rfl
  ·rename_i hle
   have gu:g<194:=by
    rcases bg g 194 with h|h
    ·exact h
    ·rw [ano h] at hle; simp at hle
   exact bj.1 aeH g (amB.2 gu)
end Go.As.Try
end
section
namespace Go.As.Try
open Go hiding Stat Spec shape
open Go.As Go.Proofs
set_option maxRecDepth 100000
noncomputable section
abbrev jR (c:SB) (a:T Lf):=sp c a fl
abbrev rJ (c:SB) (a:T Lf):=sp c fl a
abbrev hZ:=SB.eq
abbrev gQ:=SB.lt
abbrev stx:=V.op .set
abbrev nrx:=V.op .norm
abbrev I1:=V.op .snoc
abbrev rpx:=V.op .rep
abbrev qpx (n:Int):=D.p (.i n)
abbrev Cm (n:Nat) (x:V):=nm (ce n x)
abbrev Ew (j:Nat) (l:List V):=SB.eq (a0 j l) (.lit 1)
abbrev oV (j:Nat) (l:List V) (a:T Lf):=sp (.eq (a0 j l) (.lit 1)) a fl
abbrev s9 (a:V):=SB.eq a (.lit 0)
abbrev qX (a:V):=SB.lt a (.lit 0)
def bsx:List Nat->D
 |[]=> .i 0
 |n::l=> .p (.i n) (bsx l)
theorem ee {n:Nat} {t:T Lf} (h:S.tree n=t:=by kernel_rfl):S.tree n=t:=h
def b0:D:=bsx [0,0,0,0,0,0,0,0,0,1,1,0,0,1,0,0,0,0,0,0,0,0,0,0,0,0,0,0,0,0,0,0,1,0,0,2,0,0,0,0,5,5,5,5,0,5,0,0,3,3,3,3,3,3,3,3,3,3,0,5,5,5,0,0,0,4,4,4,4,4,4,4,4,4,4,4,4,4,4,4,4,4,4,4,4,4,4,4,4,4,4,0,0,0,0,4,0,4,4,4,4,4,4,4,4,4,4,4,4,4,4,4,4,4,4,4,4,4,4,4,4,4,4,5,0,5,0,0,0,0,0,0,0,0,0,0,0,0,0,0,0,0,0,0,0,0,0,0,0,0,0,0,0,0,0,0,0,0,0,0,0,0,0,0,0,0,0,0,0,0,0,0,0,0,0,0,0,0,0,0,0,0,0,0,0,0,0,0,0,0,0,0,0,0,0,0,0,0,0,0,0,0,0,0,0,0,0,0,0,0,0,0,0,0,0,0,0,0,0,0,0,0,0,0,0,0,0,0,0,0,0,0,0,0,0,0,0,0,0,0,0,0,0,0,0,0,0,0,0,0,0,0,0,0,0,0]
def b1:D:=bsx [32,97,99,113,117,105,114,101,32,97,100,100,32,97,114,114,105,118,101,32,98,97,114,114,105,101,114,32,98,114,111,97,100,99,97,115,116,32,99,111,110,100,32,100,111,32,100,111,110,101,32,101,108,115,101,32,105,102,32,108,111,99,107,32,108,111,99,107,102,111,114,32,108,111,111,112,32,109,117,116,101,120,32,111,110,99,101,32,112,117,116,32,113,117,101,117,101,32,114,101,97,100,32,114,101,108,101,97,115,101,32,114,108,111,99,107,32,114,117,110,108,111,99,107,32,114,119,108,111,99,107,32,115,101,109,32,115,101,116,32,115,105,103,110,97,108,32,116,97,107,101,32,116,104,114,101,97,100,32,116,114,121,97,99,113,117,105,114,101,32,116,114,121,108,111,99,107,32,117,110,108,111,99,107,32,118,97,114,32,119,97,105,116,32,119,97,105,116,102,111,114,32,119,97,105,116,111,110,32,119,108,111,99,107,32,119,114,105,116,101,32,119,117,110,108,111,99,107,32]
abbrev Qa:V:=.lit 0
abbrev Qb:V:=.dK 1
abbrev Qc:=ln Qb
abbrev Qd:=gQ Qa Qc
abbrev xQ a0 a1:=gQ a0 (.lit a1)
abbrev Qe:=xQ Qc 1759218604441
abbrev Qf:V:=.dK 0
abbrev uT a0:=nrx a0 Qa
abbrev Qg:=uT Qb
abbrev Qh:V:=.eD (.i 1)
abbrev Qi:=hZ Qg Qh
abbrev Qj:=[Qf]
abbrev Qk:V:=.eD (.i 2)
abbrev lS a0:=hZ a0 Qk
abbrev Ql:=lS Qg
abbrev cE a0 a1 a2 a3 a4:=sp a0 a1 (sp a2 a3 a4)
abbrev iP a0 a1 a2 a3 a4 a5:=cE a0 a1 a2 (ju a3 a4) a5
abbrev eO a0 a1 a2:=jR a0 (ju a1 a2)
def Li:=iP Qd (eO Qe 9001 [Qf,Qb,Qc,Qa]) Qi 9002 Qj (eO Ql 9003 Qj)
abbrev Qm:V:=.dK 3
abbrev Qn:=hZ Qm Qf
abbrev Qo:V:=.dK 2
abbrev Qp:=gQ Qm Qo
abbrev Qq:=qX Qm
abbrev Qr:=gQ Qm Qc
abbrev Qs:=el Qb Qm
abbrev Qt:=ce 4 Qs
abbrev iC a0 a1:=gQ a0 (ln a1)
abbrev oE a0:=iC Qa a0
abbrev Qu:=oE Qt
abbrev Qv:V:=.lit 17592186044416
abbrev gR a0 a1:=gQ (ln a0) a1
abbrev rh a0:=gR a0 Qv
abbrev Qw:=rh Qt
abbrev Qx:=ce 5 Qs
abbrev Qy:=oE Qx
abbrev Qz:=rh Qx
abbrev Q0:V:=.lit 1
abbrev ry a0 a1:=wr (.add a0 a1)
abbrev iH a0:=ry a0 Q0
abbrev Q1:=iH Qm
abbrev Q2:=el Qb Qf
abbrev gH a0:=Cm 0 a0
abbrev Q3:=gH Q2
abbrev Q4:=Cm 1 Q2
abbrev hU a0:=Cm 2 a0
abbrev Q5:=hU Q2
abbrev kj a0:=Cm 3 a0
abbrev Q6:=kj Q2
abbrev Q7:=hZ Qx Qh
abbrev Q8:=lS Qx
abbrev Q9:=hZ Qt Qh
abbrev Qba:=lS Qt
abbrev zt (l:List V):=Qa::Qf::Qb::l
abbrev Qbb:=ou (zt [])
abbrev NT:=mk Qm
abbrev Qbd:V:=.eD (.i 4)
abbrev BC a0 a1 a2:=stx a0 (cn a1 a2)
abbrev Ab a0 a1 a2 a3 a4:=BC a0 a1 (BC a2 a3 a4)
abbrev Qbe:=Ab Qb NT Qs Qbd Qt
abbrev Tp:V:=.eD (.i 5)
abbrev re a0 a1 a2 a3 a4 a5:=Ab a0 a1 (el a2 a3) a4 a5
abbrev Qbg:=re Qbe NT Qbe Qm Tp Qx
abbrev VT:=cn Tp Qh
abbrev oH a0 a1 a2 a3:=BC a0 a1 (stx a2 a3)
abbrev kM a0 a1 a2 a3 a4:=oH a0 a1 (el a2 a3) a4
abbrev Qbi:=kM Qbe NT Qbe Qm VT
abbrev VS:=cn Tp Qk
abbrev Qbk:=kM Qbe NT Qbe Qm VS
abbrev Qbl:=cn Qbd Qh
abbrev Qbm:=oH Qb NT Qs Qbl
abbrev Qbn:=re Qbm NT Qbm Qm Tp Qx
abbrev Qbo:=kM Qbm NT Qbm Qm VT
abbrev Qbp:=kM Qbm NT Qbm Qm VS
abbrev Qbq:=cn Qbd Qk
abbrev Qbr:=oH Qb NT Qs Qbq
abbrev Qbs:=re Qbr NT Qbr Qm Tp Qx
abbrev Qbt:=kM Qbr NT Qbr Qm VT
abbrev Qbu:=kM Qbr NT Qbr Qm VS
abbrev jA a0 a1 a2 a3 a4 a5 a6:=cE a0 (sp a1 a2 a3) a4 a5 a6
abbrev jz a0 a1 a2 a3 a4 a5 a6:=jR a0 (iP a1 a2 a3 a4 a5 a6)
abbrev nK a0 a1:=eO Qz a0 a1
abbrev nJ a0 a1:=eO Q8 a0 a1
abbrev lj a0 a1 a2:=rJ a0 (jR a1 a2)
abbrev YO a0 a1:=lj Qq a0 a1
abbrev uS a0:=YO Qr a0
abbrev Jc (l:List V):=Qf::Qb::Qo::Q1::Q3::Q4::Q5::Q6::l
def sD:=jA Qn Qp (uS (cE Qu (jz Qw Qy (nK 9004 (Jc [Qt,Qx])) Q7 9005 (Jc [Qt,Qh]) (nJ 9005 (Jc [Qt,Qk]))) Q9 (iP Qy (nK 9006 (Jc [Qh,Qx])) Q7 9007 (Jc [Qh,Qh]) (nJ 9007 (Jc [Qh,Qk]))) (jz Qba Qy (nK 9006 (Jc [Qk,Qx])) Q7 9007 (Jc [Qk,Qh]) (nJ 9007 (Jc [Qk,Qk]))))) Qbb Qp (uS (cE Qu (jz Qw Qy (nK 9001 [Qf,Qbg,Qo,Q1]) Q7 9001 [Qf,Qbi,Qo,Q1] (nJ 9001 [Qf,Qbk,Qo,Q1])) Q9 (iP Qy (nK 9001 [Qf,Qbn,Qo,Q1]) Q7 9001 [Qf,Qbo,Qo,Q1] (nJ 9001 [Qf,Qbp,Qo,Q1])) (jz Qba Qy (nK 9001 [Qf,Qbs,Qo,Q1]) Q7 9001 [Qf,Qbt,Qo,Q1] (nJ 9001 [Qf,Qbu,Qo,Q1])))) Qbb
abbrev Qbv:=hZ Qa Qf
abbrev iB a0 a1 a2:=sp a0 a1 (ou a2)
def abu:=iB Qbv (ou [Q0,Qf]) [Q0,Qf]
abbrev mb:V:=.lit 2
def abt:=iB Qbv (ou [mb,Qf]) [mb,Qf]
abbrev Qbx:=uS fl
abbrev pR:V:=.lit 3
abbrev cK:V:=.dK 4
abbrev dv:V:=.dK 5
abbrev eK:V:=.dK 6
abbrev ib:V:=.dK 7
abbrev jo:V:=.dK 8
abbrev kb:V:=.dK 9
abbrev Qb5:=ou [pR,Qf,Qb,cK,dv,eK,ib,jo,kb]
abbrev Qb6:=[Qf,Qbg,Qo,Q1,cK,dv,eK,ib,jo,kb]
abbrev Qb7:=[Qf,Qbi,Qo,Q1,cK,dv,eK,ib,jo,kb]
abbrev Qb8:=[Qf,Qbk,Qo,Q1,cK,dv,eK,ib,jo,kb]
abbrev Qb9:=[Qf,Qbn,Qo,Q1,cK,dv,eK,ib,jo,kb]
abbrev Qca:=[Qf,Qbo,Qo,Q1,cK,dv,eK,ib,jo,kb]
abbrev Qcb:=[Qf,Qbp,Qo,Q1,cK,dv,eK,ib,jo,kb]
abbrev Qcc:=[Qf,Qbs,Qo,Q1,cK,dv,eK,ib,jo,kb]
abbrev Qcd:=[Qf,Qbt,Qo,Q1,cK,dv,eK,ib,jo,kb]
abbrev Qce:=[Qf,Qbu,Qo,Q1,cK,dv,eK,ib,jo,kb]
def WC:=jA Qn Qp Qbx Qb5 Qp (uS (cE Qu (jz Qw Qy (nK 9004 Qb6) Q7 9004 Qb7 (nJ 9004 Qb8)) Q9 (iP Qy (nK 9004 Qb9) Q7 9004 Qca (nJ 9004 Qcb)) (jz Qba Qy (nK 9004 Qcc) Q7 9004 Qcd (nJ 9004 Qce)))) Qb5
abbrev nZ:V:=.lit 4
abbrev Qcg:=ou [nZ,Qf,Qb,cK,dv,eK,ib,jo,kb]
def WB:=jA Qn Qp Qbx Qcg Qp (uS (cE Qu (jz Qw Qy (nK 9005 Qb6) Q7 9005 Qb7 (nJ 9005 Qb8)) Q9 (iP Qy (nK 9005 Qb9) Q7 9005 Qca (nJ 9005 Qcb)) (jz Qba Qy (nK 9005 Qcc) Q7 9005 Qcd (nJ 9005 Qce)))) Qcg
abbrev IH:V:=.lit 5
abbrev Qci:=ou [IH,Qf,Qb,cK,dv,eK,ib,jo,kb]
def WA:=jA Qn Qp Qbx Qci Qp (uS (cE Qu (jz Qw Qy (nK 9006 Qb6) Q7 9006 Qb7 (nJ 9006 Qb8)) Q9 (iP Qy (nK 9006 Qb9) Q7 9006 Qca (nJ 9006 Qcb)) (jz Qba Qy (nK 9006 Qcc) Q7 9006 Qcd (nJ 9006 Qce)))) Qci
abbrev GD:V:=.lit 6
abbrev Qck:=ou [GD,Qf,Qb,cK,dv,eK,ib,jo,kb]
def Wz:=jA Qn Qp Qbx Qck Qp (uS (cE Qu (jz Qw Qy (nK 9007 Qb6) Q7 9007 Qb7 (nJ 9007 Qb8)) Q9 (iP Qy (nK 9007 Qb9) Q7 9007 Qca (nJ 9007 Qcb)) (jz Qba Qy (nK 9007 Qcc) Q7 9007 Qcd (nJ 9007 Qce)))) Qck
abbrev Qcl:=ln Qo
abbrev Qcm:=xQ Qcl 2199023255552
abbrev Qcn:=hZ (uT Qo) Qh
abbrev Qco:=[Qf,Qc,Qa,Qb]
abbrev Qcp:=lS (uT Qo)
def sC:=cE Qd (jz Qe (gQ Qa Qcl) (eO Qcm 9051 [Qf,Qc,Qa,Qb,Qo]) Qcn 9052 Qco (eO Qcp 9053 Qco)) Qi (iP (gQ Qa Qcl) (eO Qcm 9054 [Qf,Qo]) Qcn 9055 Qj (eO Qcp 9056 Qj)) (jz Ql (gQ Qa Qcl) (eO Qcm 9057 [Qf,Qo]) Qcn 9058 Qj (eO Qcp 9059 Qj))
abbrev xl:=gQ Qo Qb
abbrev IG:=qX Qo
abbrev C5:=ln Qm
abbrev Qct:=gQ Qo C5
abbrev P3:=el Qm Qo
abbrev w!:=ce 4 P3
abbrev Qcw:=oE w!
abbrev Qcx:=rh w!
abbrev Qcy:=ce 5 P3
abbrev Qcz:=oE Qcy
abbrev Qc0:=rh Qcy
abbrev NS:=iH Qo
abbrev yN:=mk Qo
abbrev Qc3:=Ab Qm yN P3 Qbd w!
abbrev Qc4:=re Qc3 yN Qc3 Qo Tp Qcy
abbrev Qc5:=hZ Qcy Qh
abbrev Qc6:=kM Qc3 yN Qc3 Qo VT
abbrev Qc7:=lS Qcy
abbrev Qc8:=kM Qc3 yN Qc3 Qo VS
abbrev Qc9:=oH Qm yN P3 Qbl
abbrev Qda:=re Qc9 yN Qc9 Qo Tp Qcy
abbrev Qdb:=kM Qc9 yN Qc9 Qo VT
abbrev Qdc:=kM Qc9 yN Qc9 Qo VS
abbrev Qdd:=oH Qm yN P3 Qbq
abbrev Qde:=re Qdd yN Qdd Qo Tp Qcy
abbrev Qdf:=kM Qdd yN Qdd Qo VT
abbrev Qdg:=kM Qdd yN Qdd Qo VS
abbrev KO:=ln cK
abbrev nv (l:List V):=Qf::Qb::NS::l
abbrev jW a0 a1 a2:=eO a0 a1 (nv a2)
abbrev mW a0 a1 a2 a3 a4 a5:=cE a0 a1 (hZ a2 a3) a4 a5
abbrev ri a0 a1 a2 a3:=sp a0 a1 (ju a2 a3)
abbrev vP a0 a1:=lj IG a0 a1
abbrev uR a0:=vP Qct a0
def Wy:=ri xl (uR (mW Qcw (jz Qcx Qcz (jW Qc0 9051 [Qc4,cK]) Qc5 9051 (nv [Qc6,cK]) (jW Qc7 9051 [Qc8,cK])) w! Qh (iP Qcz (jW Qc0 9051 [Qda,cK]) Qc5 9051 (nv [Qdb,cK]) (jW Qc7 9051 [Qdc,cK])) (jz (lS w!) Qcz (jW Qc0 9051 [Qde,cK]) Qc5 9051 (nv [Qdf,cK]) (jW Qc7 9051 [Qdg,cK])))) 9060 [Qf,KO,Qa,Qm,cK]
def Wx:=ri xl (uR (mW Qcw (jz Qcx Qcz (jW Qc0 9052 [Qc4]) Qc5 9052 (nv [Qc6]) (jW Qc7 9052 [Qc8])) w! Qh (iP Qcz (jW Qc0 9052 [Qda]) Qc5 9052 (nv [Qdb]) (jW Qc7 9052 [Qdc])) (jz (lS w!) Qcz (jW Qc0 9052 [Qde]) Qc5 9052 (nv [Qdf]) (jW Qc7 9052 [Qdg])))) 9061 [Qf,Qm]
def Ww:=ri xl (uR (mW Qcw (jz Qcx Qcz (jW Qc0 9053 [Qc4]) Qc5 9053 (nv [Qc6]) (jW Qc7 9053 [Qc8])) w! Qh (iP Qcz (jW Qc0 9053 [Qda]) Qc5 9053 (nv [Qdb]) (jW Qc7 9053 [Qdc])) (jz (lS w!) Qcz (jW Qc0 9053 [Qde]) Qc5 9053 (nv [Qdf]) (jW Qc7 9053 [Qdg])))) 9062 [Qf,Qm]
def abr:=ju 9063 Qco
def ahk:=ju 9064 Qj
def ahj:=ju 9065 Qj
def abq:=ju 9066 Qco
def ahi:=ju 9067 Qj
def ahh:=ju 9068 Qj
abbrev Qdi:=hZ Qo Qf
abbrev w_:=gQ Qo KO
abbrev Qdk:=el cK Qo
abbrev Qdl:=ce 1 Qdk
abbrev Qdm:=oE Qdl
abbrev Qdn:=rh Qdl
abbrev P0:=el cK Qf
abbrev Qdu:=hZ Qdl Qh
abbrev Qdv:=lS Qdl
abbrev Qdw:=Ab cK yN Qdk Qh Qdl
abbrev Qdx:=cn Qh Qh
abbrev Qdy:=oH cK yN Qdk Qdx
abbrev Qdz:=cn Qh Qk
abbrev Qd0:=oH cK yN Qdk Qdz
abbrev qt a0 a1:=iB xl a0 a1
abbrev j7 a0:=Cm 4 a0
abbrev Ej (l:List V):=Qf::Qb::NS::Qm::cK::l
def B5:=cE Qdi (qt (vP w_ (iP Qdm (eO Qdn 9069 (Ej [gH P0,Qdl,hU P0,kj P0,j7 P0,Cm 5 P0])) Qdu 9070 (Ej [gH P0,Qh,hU P0,kj P0,j7 P0,Cm 5 P0]) (eO Qdv 9070 (Ej [gH P0,Qk,hU P0,kj P0,j7 P0,Cm 5 P0])))) [Qa,Qf,Qm,cK]) xl (vP w_ (iP Qdm (jW Qdn 9060 [Qm,Qdw]) Qdu 9060 (nv [Qm,Qdy]) (jW Qdv 9060 [Qm,Qd0]))) (ou [Qa,Qf,Qm,cK])
abbrev Qd1:=ou [Q0,Qf,Qb]
def abp:=sp Qbv Qd1 Qd1
def abo:=iB Qbv (ou [mb,Qf,Qb]) [mb,Qf,Qb]
abbrev Qd2:=ce 1 P3
abbrev Qd3:=oE Qd2
abbrev Qd4:=rh Qd2
abbrev P1:=el Qm Qf
abbrev Qeb:List V:=nv [Qm,gH P1,Qd2,hU P1,kj P1,j7 P1,Cm 5 P1]
abbrev Qec:=hZ Qd2 Qh
abbrev Qed:List V:=nv [Qm,gH P1,Qh,hU P1,kj P1,j7 P1,Cm 5 P1]
abbrev Qee:=lS Qd2
abbrev Qef:List V:=nv [Qm,gH P1,Qk,hU P1,kj P1,j7 P1,Cm 5 P1]
abbrev Qeg:=Ab Qm yN P3 Qh Qd2
abbrev Qeh:=oH Qm yN P3 Qdx
abbrev Qei:=oH Qm yN P3 Qdz
def B4:=cE Qdi (qt (uR (iP Qd3 (eO Qd4 9071 Qeb) Qec 9072 Qed (eO Qee 9072 Qef))) [Qa,Qf,Qh,Qm]) xl (uR (iP Qd3 (jW Qd4 9063 [Qeg]) Qec 9063 (nv [Qeh]) (jW Qee 9063 [Qei]))) (ou [Qa,Qf,Qh,Qm])
def abn:=iB Qbv (ou [Q0,Qf,Qh]) [Q0,Qf,Qh]
def abm:=iB Qbv (ou [mb,Qf,Qh]) [mb,Qf,Qh]
def B3:=cE Qdi (qt (uR (iP Qd3 (eO Qd4 9073 Qeb) Qec 9074 Qed (eO Qee 9074 Qef))) [Qa,Qf,Qk,Qm]) xl (uR (iP Qd3 (jW Qd4 9066 [Qeg]) Qec 9066 (nv [Qeh]) (jW Qee 9066 [Qei]))) (ou [Qa,Qf,Qk,Qm])
def abl:=iB Qbv (ou [Q0,Qf,Qk]) [Q0,Qf,Qk]
def abk:=iB Qbv (ou [mb,Qf,Qk]) [mb,Qf,Qk]
abbrev Qej:=vP w_ fl
abbrev qN:V:=.dK 10
abbrev Qel:=ou [pR,Qf,Qm,cK,dv,eK,ib,jo,kb,qN]
abbrev Qem:List V:=nv [Qm,Qdw,dv,eK,ib,jo,kb,qN]
abbrev Qen:List V:=nv [Qm,Qdy,dv,eK,ib,jo,kb,qN]
abbrev Qeo:List V:=nv [Qm,Qd0,dv,eK,ib,jo,kb,qN]
def Wv:=jA Qdi xl Qej Qel xl (vP w_ (iP Qdm (eO Qdn 9069 Qem) Qdu 9069 Qen (eO Qdv 9069 Qeo))) Qel
abbrev Qep:=ou [nZ,Qf,Qm,cK,dv,eK,ib,jo,kb,qN]
def Wu:=jA Qdi xl Qej Qep xl (vP w_ (iP Qdm (eO Qdn 9070 Qem) Qdu 9070 Qen (eO Qdv 9070 Qeo))) Qep
abbrev Qeq:=uR fl
abbrev Qer:=ou [pR,Qf,Qh,Qm,cK,dv,eK,ib,jo,kb]
abbrev Qes:List V:=nv [Qeg,cK,dv,eK,ib,jo,kb]
abbrev Qet:List V:=nv [Qeh,cK,dv,eK,ib,jo,kb]
abbrev Qeu:List V:=nv [Qei,cK,dv,eK,ib,jo,kb]
def Wt:=jA Qdi xl Qeq Qer xl (uR (iP Qd3 (eO Qd4 9071 Qes) Qec 9071 Qet (eO Qee 9071 Qeu))) Qer
abbrev Qev:=ou [nZ,Qf,Qh,Qm,cK,dv,eK,ib,jo,kb]
def Ws:=jA Qdi xl Qeq Qev xl (uR (iP Qd3 (eO Qd4 9072 Qes) Qec 9072 Qet (eO Qee 9072 Qeu))) Qev
abbrev Qew:=ou [pR,Qf,Qk,Qm,cK,dv,eK,ib,jo,kb]
def Wr:=jA Qdi xl Qeq Qew xl (uR (iP Qd3 (eO Qd4 9073 Qes) Qec 9073 Qet (eO Qee 9073 Qeu))) Qew
abbrev Qex:=ou [nZ,Qf,Qk,Qm,cK,dv,eK,ib,jo,kb]
def Wq:=jA Qdi xl Qeq Qex xl (uR (iP Qd3 (eO Qd4 9074 Qes) Qec 9074 Qet (eO Qee 9074 Qeu))) Qex
abbrev tu:=ln Qf
def t100:=ju 101 [ry tu Qc,Qc,Qa,Qf,Qb]
abbrev kI:=ou [Q0]
abbrev jP:=ou [Qa]
abbrev Cv a0 a1:=gQ (.lit a0) a1
def t101:=cE xl (rJ IG (eO w_ 102 [ry Qf (ry (ln Qdl) (ln (ce 2 Qdk))),Qo,Qa,Qb,Qm,cK])) (Cv 6000 Qf) kI jP
abbrev NR:=qX Qb
abbrev Nw:=el dv Qb
abbrev pE:=iH Qb
abbrev Qe4:=ju 101 [Qf,Qm,pE,cK,dv]
abbrev Qe5:=ce 6 (el (ce 2 Nw) Qo)
abbrev gI a0 a1 a2 a3:=sp (gQ a0 a1) a2 a3
abbrev eX a0 a1 a2 a3:=jR a0 (sp a1 a2 a3)
abbrev nL a0 a1 a2 a3 a4:=rJ a0 (eX a1 a2 a3 a4)
abbrev Bg (l:List V):=Qf::Qb::Qo::l
def t102:=nL NR (iC Qb dv) (iC Qo (ce 2 Nw)) (gI (.lit 6000) Qf Qe4 (rJ IG (ju 103 (Bg [Qm,Qe5,ln Qe5,Qa,cK,dv])))) Qe4
abbrev Qe6:=el cK eK
abbrev Qe7:V:=.lit 60
abbrev Qe8:=[gH Qe6,ce 1 Qe6,hU Qe6,ce 3 Qe6,Qe7]
abbrev eQ a0 a1:=rr a0 a1 0
abbrev rj a0 a1 a2:=lj (qX a0) a1 a2
def t103:=gI eK dv (rj eK (gQ eK KO) (oV 150 Qe8 (ju 103 [ry Qf (eQ 150 Qe8),Qb,Qo,Qm,cK,dv,iH eK,ib,jo]))) (ju 102 (nv [Qm,ib,jo]))
abbrev Qe9:=gQ cK Q0
def t150:=ri Qe9 (ou [.lit 10000]) 151 [cK,ry Q0 (wr (.quo Qc (.lit 100))),Qa,Qf,Qb,Qo,Qm]
abbrev Qfa:=el eK Qo
abbrev EY a0 a1:=wr (.sub a0 a1)
abbrev rU a0:=EY a0 Q0
abbrev Qfb:=[gH Qfa,ce 1 Qfa,hU Qfa,ce 3 Qfa,rU Qf]
def t151:=iB (iC Qo eK) (gI (.lit 10000) Qb (ou [Qb]) (rJ IG (oV 150 Qfb (ju 151 [Qf,ry Qb (eQ 150 Qfb),NS,Qm,cK,dv,eK])))) [Qb]
abbrev gg a0 a1:=sp a0 a1 jP
abbrev hY a0 a1 a2:=gg (hZ a0 a1) a2
def t200:=hY tu Qc (ju 201 [Qf,Qb,tu,Qa])
abbrev K0:=el Qf Qm
abbrev Qfd:=gH Qs
abbrev Qfe:SB:=.not (s9 (hU K0))
abbrev Qff:=hU Qs
abbrev rp a0 a1 a2:=eX a0 a1 a2 jP
abbrev oG a0 a1 a2:=s9 (rr a0 a1 a2)
abbrev iG a0 a1:=oG a0 a1 0
abbrev xR a0 a1 a2 a3 a4:=mW a0 a1 a2 a3 a4 jP
abbrev nz a0 a1 a2 a3:=xR a0 jP a1 a2 a3
abbrev qg a0:=gQ a0 tu
def t201:=sp Qp (YO (qg Qm) (rp Qr (hZ (gH K0) Qfd) (hY (Cm 1 K0) (Cm 1 Qs) (nz (.and (.not (.and Qfe (.not (s9 Qff)))) (.not (.and (.not Qfe) (.not (.not (s9 Qff)))))) (kj K0) (kj Qs) (oV 250 [ce 4 K0,Qt] (nz (iG 250 [ce 4 K0,Qt]) (ln (ce 5 K0)) (ln Qx) (ju 202 (Bg [Qm,ln (ce 5 K0),Qa,gH K0,Cm 1 K0,hU K0,kj K0,ce 4 K0,ce 5 K0,Qfd,Cm 1 Qs,Qff,kj Qs,Qt,Qx])))))))) kI
abbrev VQ:=qX dv
abbrev oP:V:=.dK 11
abbrev VP:V:=.dK 17
abbrev Qfj:=iH dv
abbrev AY:V:=.dK 12
abbrev sk:V:=.dK 13
abbrev wu:V:=.dK 14
abbrev IF:V:=.dK 15
abbrev I':V:=.dK 16
abbrev Qfp:List V:=Bg [Q1]
abbrev mR a0 a1:=nm (el a0 a1)
def t202:=gI dv cK (lj VQ (iC dv oP) (rp (iC dv VP) (hZ (mR oP dv) (mR VP dv)) (ju 202 (Bg [Qm,cK,Qfj,eK,ib,jo,kb,qN,oP,AY,sk,wu,IF,I',VP])))) (ju 201 Qfp)
def t250:=hY tu Qc (ju 251 [Qf,Qb,Qa])
abbrev v?:=qg Qo
abbrev Qfr:=gQ Qo Qc
abbrev Vb:=el Qf Qo
abbrev BE:=nm Vb
def t251:=sp v? (rJ IG (rp Qfr (hZ BE (mR Qb Qo)) (ju 251 (nv [])))) kI
abbrev C4:=[Qf,Qb]
abbrev Qfu:=Ew 450 C4
abbrev Qfv:=iG 450 C4
def P':=eX Qfu Qfv (ju 301 [Qf,tu]) (ou [Qh])
abbrev Qfw:=gQ Qa Qb
abbrev Qfx:=qg Qa
abbrev vL:=D.i 0
abbrev gS:V:=.eD vL
abbrev AX:V:=.eD (.i (-1))
abbrev kr a0 a1 a2:=cn a0 (cn a1 a2)
abbrev qp a0 a1 a2 a3 a4:=kr a0 a1 (kr a2 a3 a4)
abbrev Qf0:=qp gS gS Qh Qh gS
abbrev s6 a0 a1 a2:=kr a0 (mk a1) a2
abbrev Qf1:=ju 302 [I1 gS (s6 AX (hU (el Qf Qa)) Qf0),Qf,Qb,Q0]
abbrev Nv:V:=.lit 9
abbrev ff a0 a1 a2 a3 a4 a5 a6:=mW (hZ a0 a1) a2 a3 a4 a5 a6
abbrev uV a0 a1:=gH (el a0 a1)
def TJ:=iB Qfw (jR Qfx (ff (uV Qf Qa) pR Qf1 (uV Qf Qa) Nv Qf1 (ju 302 [I1 gS (kr AX gS Qf0),Qf,Qb,Q0]))) [Qh]
abbrev Qf3:=xQ tu 1759218604440
abbrev Qf4:=eO Qf3 302 [I1 Qf (s6 AX Qff Qf0),Qb,Qo,Q1]
def aer:=iB Qp (uS (ff Qfd pR Qf4 Qfd Nv Qf4 (eO Qf3 302 [I1 Qf (kr AX gS Qf0),Qb,Qo,Q1]))) Qj
def P_:=rp Qfu Qfv (hY Qcl tu (ju 351 [Qo,Qcl,Qa,Qf,Qb]))
abbrev PZ:=hU Vb
abbrev Nu:=gH Vb
abbrev NQ:=ce 1 Vb
abbrev pQ:=nm NQ
abbrev Qf9:=ce 3 Vb
abbrev IE:=nm Qf9
abbrev I_:=ce 4 Vb
abbrev To:=ce 5 Vb
abbrev Qgd:=[gH P3,Qd2,hU P3,ce 3 P3,nm w!,Nu,pQ,Qa,IE,I_,To,KO]
abbrev Qge:=ju 351 (Ej [])
abbrev Qgf:=[gH P3,Qd2,hU P3,ce 3 P3,nm w!,Nu,pQ,Q0,IE,I_,To,KO]
abbrev rT a0:=vP v? a0
abbrev yC a0 a1 a2 a3 a4:=oV a0 a1 (sp a2 a3 a4)
abbrev jB a0 a1 a2 a3 a4 a5 a6:=yC a0 a1 (oG a2 a3 a4) a5 a6
abbrev acs a0 a1 a2 a3 a4 a5:=jB a0 a1 a2 a3 a4 jP a5
abbrev gO a0 a1 a2 a3 a4:=acs a0 a1 a2 a3 0 a4
def TG:=sp xl (rT (eX Qct (s9 PZ) (gO 500 Qgd 500 Qgd Qge) (gO 500 Qgf 500 Qgf Qge))) kI
abbrev Qgg:=[dv,Qo]
abbrev Qgh:=eQ 9000 Qgg
abbrev Qgi:=Ew 350 (Bg [])
abbrev Qgj:=iG 350 (Bg [])
abbrev ID:=rr 9000 Qgg 2
abbrev Qgl:=ou [ID,Qa,Qa,Qa,Qa,Qa,Qa]
abbrev Qgm:=eX Qgi Qgj Qgl (cE Qq Qgl Qr Qgl Qgl)
abbrev Qgn:=iC dv ID
abbrev Qgo:=ou [Qh,Qa,Qa,Qa,Qa,Qa,Qa]
abbrev Qgp:=ou [Qk,Qa,Qa,Qa,Qa,Qa,Qa]
abbrev C3:=mk dv
abbrev Qgr:=rr 9000 Qgg 3
abbrev KZ:=mk Qgr
abbrev Nt:=rr 9000 Qgg 4
abbrev NP:=mk Nt
abbrev Qgv:=rr 9000 Qgg 5
abbrev Tn:V:=.op .bit (mk Qgv) Qa
abbrev Qgx:=rr 9000 Qgg 6
abbrev Tm:=mk Qgx
abbrev IC:=rr 9000 Qgg 7
abbrev VO:=rr 9000 Qgg 8
abbrev VN:=cn VO gS
abbrev Qg2:=cn Tn (kr Tm IC VN)
abbrev Qg3:=cn C3 (kr KZ NP Qg2)
abbrev uQ a0:=stx ID a0
abbrev Qg4:=uQ Qg3
abbrev DH:=ou [Qg4,Qa,Qa,Qa,Qa,Qa,Qa]
abbrev Qg6:=Ew 600 [cK]
abbrev Qg7:=qg dv
abbrev Qg8:=hZ (eQ 600 [cK]) (uV Qf dv)
abbrev ru a0:=hZ a0 Q0
abbrev Qg9:=ru cK
abbrev v!:=hZ Qgr Qm
abbrev CQ:=oV 550 [Qo] (ou [eQ 550 [Qo],Qm,.lit 27,dv,wr cK,Qa,mb])
abbrev Qhc:=Ew 900 [IC,Qm]
abbrev Qhd:=iG 900 [IC,Qm]
abbrev Qhe:=qX Qgr
abbrev Qhf:=BC ID C3 (kr NT NP Qg2)
abbrev NO:=oV 550 [Qo] (ou [eQ 550 [Qo],Qa,Qa,Qa,Qa,Qa,Qa])
abbrev Qhh:=sp Qhe (ou [Qhf,Qm,cK,dv,Qa,Qa,mb]) NO
abbrev Qhi:=sp v! CQ (eX Qhc Qhd Qhh CQ)
abbrev uP a0:=hZ cK a0
abbrev Qhj:=uP mb
abbrev Qhk:=sp v! (ou [BC ID C3 (kr AX NP Qg2),Qm,cK,dv,Qa,Qa,mb]) CQ
abbrev H!:V:=.lit 8
abbrev Qhm:=uP H!
abbrev Qhn:=uP pR
abbrev Qho:=ou [Qhf,Qm,cK,dv,Q0,Qa,mb]
abbrev Qhp:=ou [Qg4,Qm,cK,dv,Qa,Qa,mb]
abbrev Qhq:=sp Qhe Qho Qhp
abbrev Qhr:=uP nZ
abbrev Qhs:=cE Qhe Qho (gQ ib eK) NO Qhp
abbrev Qht:=uP IH
abbrev GC:=ln IC
abbrev Qhv:V:=.lit 17592186044415
abbrev Qhw:=qp NP Tn Tm (I1 IC NT) VN
abbrev Qhx:=sp v! CQ (eX Qhc Qhd (sp Qhe (jR (gQ GC Qhv) (ou [uQ (kr C3 KZ Qhw),Qm,cK,dv,Qa,Qa,mb])) NO) CQ)
abbrev Qhy:=uP GD
abbrev Qh0:=eQ 850 [IC,Qm]
abbrev Qh1:=iH Qh0
abbrev Qh2:V:=.sub GC Qh1
abbrev H?:V:=.add Qh0 Qh2
abbrev ua a0 a1:=V.op .drop a0 a1
abbrev jX a0 a1:=V.op .take a0 a1
abbrev qj a0 a1:=V.op .cat a0 a1
abbrev Qh4:=qj (qj (jX IC Qh0) (ua (jX IC (.add Qh1 Qh2)) Qh1)) (ua IC H?)
abbrev Qh5:V:=.op .fill Qh4 (cn (mk H?) gS)
abbrev vO a0 a1 a2 a3 a4 a5 a6:=kr a0 a1 (qp a2 a3 a4 a5 a6)
abbrev Qh6:=rj (.sub GC H?) (hZ (.add H? (.sub GC H?)) (ln Qh4)) (rJ (gR Qh5 H?) (ou [uQ (vO C3 KZ NP Tn Tm (jX Qh5 H?) VN),Qm,cK,dv,Qa,Qa,mb]))
abbrev R4 a0 a1 a2:=rJ a0 (rJ a1 a2)
abbrev rX a0 a1 a2:=R4 a0 (qX a1) a2
abbrev s5 a0 a1 a2:=R4 (qX a0) a1 a2
abbrev Qh7:=eX (Ew 850 [IC,Qm]) (qX Qh0) CQ (rJ (gQ Qh1 Qh0) (R4 (gQ GC Qh1) (gQ GC GC) (sp (hZ Qh0 Qh1) Qhp (rX (gQ GC Qh0) Qh1 (s5 Qh2 (gQ GC (.add Qh1 Qh2)) (rX (gQ GC H?) H? (gI H? GC (rJ (gR Qh4 GC) Qh6) Qh6)))))))
abbrev Ns:V:=.lit 7
abbrev Qh9:=uP Ns
abbrev Qia:=sp v! CQ (eX Qhc Qhd (sp (s9 GC) Qhh NO) CQ)
abbrev Qib:=uP Nv
abbrev Qic:=BC ID C3 (s6 KZ (rU Nt) Qg2)
abbrev Qid:=gI Qa Nt (ou [Qic,Qm,cK,dv,Qa,Qa,mb]) NO
abbrev pw a0 a1:=hZ a0 (.lit a1)
abbrev Qie:=pw cK 11
abbrev Qif:=gI Qa Nt (ou [Qic,Qm,cK,dv,Q0,Qa,mb]) Qhp
abbrev Qig:V:=.lit 10
abbrev Qih:=uP Qig
abbrev PY:=hU (el Qf dv)
abbrev Qij:=BC ID C3 (s6 KZ (iH Nt) Qg2)
abbrev Qik:=gI Nt PY (ou [Qij,Qm,cK,dv,Qa,Qa,mb]) CQ
abbrev Qil:=pw cK 17
abbrev Qim:V:=.lit 1099511627776
abbrev Qin:=cE (gQ eK (EY Qa Nt)) CQ (gQ (EY Qim Nt) eK) CQ (ou [BC ID C3 (s6 KZ (ry Nt eK) Qg2),Qm,cK,dv,ry Nt eK,Qa,mb])
abbrev Qio:=pw cK 18
abbrev Qip:=gI Qa Nt (ou [Qic,Qm,cK,dv,rU Nt,Qa,mb]) CQ
abbrev Qiq:=pw cK 19
abbrev Qir:=sp (s9 Nt) Qhp NO
abbrev Qis:=pw cK 22
abbrev Qit:=ou [Qg4,Qm,cK,dv,Nt,Qa,mb]
abbrev Qiu:V:=.lit 23
abbrev Qiv:=uP Qiu
abbrev Qiw:=ou [BC ID C3 (s6 KZ eK Qg2),Qm,cK,dv,eK,Qa,mb]
abbrev Qix:V:=.lit 20
abbrev Qiy:=uP Qix
abbrev mE a0 a1 a2 a3 a4 a5:=vO a0 a1 a2 a3 a4 a5 gS
abbrev Qiz:=sp (gR VO PY) (jR (gR VO Qhv) (ou [BC ID C3 (mE KZ NP Tn Tm IC (I1 VO (mk eK))),Qm,cK,dv,eK,Qa,mb])) NO
abbrev Qi0:=pw cK 21
abbrev Qi1:V:=.add Q0 (.sub (ln VO) Q0)
abbrev s7 a0:=s9 (ln a0)
abbrev Qi2:=sp (s7 VO) NO (s5 (.sub (ln VO) Q0) (gR VO Qi1) (ou [BC ID C3 (mE KZ NP Tn Tm IC (ua (jX VO Qi1) Q0)),Qm,cK,dv,mR VO Qa,Qa,mb]))
abbrev Qi3:=pw cK 12
abbrev Qi4:=qX PY
abbrev Qi5:=iC PY ID
abbrev Qi6:=hZ PY dv
abbrev Va:V:=.lit (-1)
abbrev Tl:=[IC,Qm,dv,PY,ID,cK,eK,ib,Va,Nt,Qgv,Qgx,VO]
abbrev Qi9:=jR (gQ GC Qhv) (ou [uQ (kr C3 AX Qhw),Qm,cK,dv,Qa,Qa,pR])
abbrev Qja:=rr 12000 Tl 14
abbrev Qjb:=rr 12000 Tl 15
abbrev Qjc:V:=.add Qja Q0
abbrev Qjd:=I1 gS NT
abbrev Qje:=qj (qj (jX Qjb Qja) Qjd) (ua Qjb Qjc)
abbrev Qjg:=hZ (uV ID PY) Qm
abbrev Qjh:=re ID (mk PY) ID PY gS AX
abbrev Tj:=[IC,Qm,dv,PY,Qjh,cK,eK,ib,Qgr,Nt,Qgv,Qgx,VO]
abbrev Qjj:=jR (gQ GC Qhv) (ou [stx Qjh (kr C3 KZ Qhw),Qm,cK,dv,Qa,Qa,pR])
abbrev Qjk:=rr 12000 Tj 14
abbrev Qjl:=rr 12000 Tj 15
abbrev Qjm:V:=.add Qjk Q0
abbrev Qjn:=qj (qj (jX Qjl Qjk) Qjd) (ua Qjl Qjm)
abbrev Qjo:=uQ (vO C3 KZ NP Tn Tm Qh VN)
abbrev H_:V:=.lit 24
abbrev Qjq:V:=.lit 4611686018427387904
abbrev G?:V:=.lit 25
abbrev Nr:V:=.lit 16
abbrev uW a0 a1 a2 a3 a4 a5 a6:=ff a0 a1 a2 a3 (.lit a4) a5 a6
abbrev Qjt:=uW cK H_ (lj Qi4 Qi5 (eX Qhc Qhd (cE Qi6 Qhh (qX (uV ID PY)) (ou [stx (re ID (mk PY) ID PY gS NT) Qg3,Qm,cK,dv,Qa,Qa,mb]) NO) NO)) cK 15 (gI Qgx Qjq (iB (hZ (iH Nt) PY) (ou [uQ (vO C3 KZ gS Tn (mk (iH Qgx)) IC VN),Qm,cK,dv,Qgx,Qa,pR]) [Qij,Qm,cK,dv,Qgx,Qa,pR]) CQ) (ff cK G? (gI eK Qgx (ou [Qg4,Qm,cK,dv,eK,Qa,mb]) NO) cK Nr (sp (s9 Qgv) (cE v! CQ Qhe Qho NO) Qhp) (eX (pw cK 26) v! (ou [uQ (vO C3 AX NP Qh Tm IC VN),Qm,cK,dv,Qa,Qa,mb]) CQ))
abbrev Qju:=uW cK (.lit 13) (sp (s9 GC) Qhp (s5 (.sub GC Q0) (gQ GC (.add Q0 (.sub GC Q0))) (ou [uQ (vO C3 KZ NP Tn Tm (ua (jX IC (.add Q0 (.sub GC Q0))) Q0) VN),Qm,cK,dv,iH (mR IC Qa),Qa,mb]))) cK 14 (ou [Qjo,Qm,cK,dv,GC,Qa,mb]) Qjt
abbrev Qjv:=gI Qa PY (ou [BC ID C3 (mE KZ NP Tn Tm IC (I1 gS (mk eK))),Qm,cK,dv,eK,Qa,mb]) NO
abbrev Qjw:=rr 12100 Tl 14
abbrev Qjx:=rr 12100 Tl 15
abbrev Qjy:V:=.add Qjw Q0
abbrev Qjz:=qj (qj (jX Qjx Qjw) Qjd) (ua Qjx Qjy)
abbrev Qj0:=rr 12100 Tj 14
abbrev Qj1:=rr 12100 Tj 15
abbrev Qj2:V:=.add Qj0 Q0
abbrev Qj3:=qj (qj (jX Qj1 Qj0) Qjd) (ua Qj1 Qj2)
abbrev Qj4:=qp NP Tn Tm Qjd VN
abbrev Qj5:=sp v! CQ (eX Qhc Qhd (sp Qhe (ou [uQ (kr C3 KZ Qj4),Qm,cK,dv,Qa,Qa,mb]) NO) CQ)
abbrev Qj6:=jR (Ew 850 [IC,Qm]) (jR (qX Qh0) CQ)
abbrev Qj7:=ou [uQ (kr C3 AX Qj4),Qm,cK,dv,Qa,Qa,pR]
abbrev Qj8:=ou [stx Qjh (kr C3 KZ Qj4),Qm,cK,dv,Qa,Qa,pR]
abbrev Qj9:=uW cK (.lit 13) Qhp cK 14 (ou [Qjo,Qm,cK,dv,Qa,Qa,mb]) Qjt
abbrev oF a0 a1:=ru (eQ a0 a1)
abbrev R3 a0 a1 a2 a3:=oV a0 a1 (jR a2 a3)
abbrev pq a0 a1 a2 a3 a4:=R3 a0 a1 (iG a2 a3) a4
def jD:=oV 9000 Qgg (mW (s9 Qgh) (sp VQ Qgm (rJ Qgn Qgm)) Qgh Q0 (eX Qgi Qgj Qgo (cE Qq Qgo Qr (sp VQ Qgo Qgo) Qgo)) (ff Qgh mb (eX Qgi Qgj Qgp (cE Qq Qgp Qr (sp VQ Qgp Qgp) Qgp)) Qgh pR (eX Qgi Qgj DH (cE Qq DH Qr (cE VQ DH Qgn (jR Qg6 (eX Qg7 Qg8 (sp Qg9 Qhi (cE Qhj Qhk Qhm Qhk (cE Qhn Qhq Qhr Qhs (cE Qht Qhx Qhy Qh7 (cE Qh9 Qia Qib Qid (cE Qie Qif Qih Qik (cE Qil Qin Qio Qip (cE Qiq Qir Qis Qit (cE Qiv Qiw Qiy Qiz (cE Qi0 Qi2 Qi3 (lj Qi4 Qi5 (jA Qi6 v! (jB 12000 Tl 12000 Tl 0 Qi9 (jR (oF 12000 Tl) (s5 Qja (gR Qjb Qjc) (s5 Qjc (gR Qje Qjc) (ou [uQ (vO C3 AX NP Tn Tm (jX Qje Qjc) VN),Qm,cK,dv,Qa,Qa,pR]))))) CQ Qjg (jB 12000 Tj 12000 Tj 0 Qjj (jR (oF 12000 Tj) (s5 Qjk (gR Qjl Qjm) (s5 Qjm (gR Qjn Qjm) (ou [stx Qjh (vO C3 KZ NP Tn Tm (jX Qjn Qjm) VN),Qm,cK,dv,Qa,Qa,pR]))))) CQ)) Qju)))))))))) DH)) DH) DH)) (ff Qgh nZ (eX Qgi Qgj DH (cE Qq DH Qr (cE VQ DH Qgn (jR Qg6 (eX Qg7 Qg8 (sp Qg9 Qhi (cE Qhj Qhk Qhm Qhk (cE Qhn Qhq Qhr Qhs (cE Qht Qhx Qhy Qh7 (cE Qh9 Qia Qib Qid (cE Qie Qif Qih Qik (cE Qil Qin Qio Qip (cE Qiq Qir Qis Qit (cE Qiv Qiw Qiy Qjv (cE Qi0 NO Qi3 (lj Qi4 Qi5 (jA Qi6 v! (jB 12100 Tl 12100 Tl 0 Qi9 (jR (oF 12100 Tl) (s5 Qjw (gR Qjx Qjy) (s5 Qjy (gR Qjz Qjy) (ou [uQ (vO C3 AX NP Tn Tm (jX Qjz Qjy) VN),Qm,cK,dv,Qa,Qa,pR]))))) CQ Qjg (jB 12100 Tj 12100 Tj 0 Qjj (jR (oF 12100 Tj) (s5 Qj0 (gR Qj1 Qj2) (s5 Qj2 (gR Qj3 Qj2) (ou [stx Qjh (vO C3 KZ NP Tn Tm (jX Qj3 Qj2) VN),Qm,cK,dv,Qa,Qa,pR]))))) CQ)) Qju)))))))))) DH)) DH) DH)) Qgh IH (eX Qgi Qgj DH (cE Qq DH Qr (cE VQ DH Qgn (jR Qg6 (eX Qg7 Qg8 (sp Qg9 Qhi (cE Qhj Qhk Qhm Qhk (cE Qhn Qhq Qhr Qhs (cE Qht Qj5 Qhy Qj6 (cE Qh9 Qhi Qib Qid (cE Qie Qif Qih Qik (cE Qil Qin Qio Qip (cE Qiq Qir Qis Qit (cE Qiv Qiw Qiy Qiz (cE Qi0 Qi2 Qi3 (lj Qi4 Qi5 (jA Qi6 v! (pq 12200 Tl 12200 Tl Qj7) CQ Qjg (pq 12200 Tj 12200 Tj Qj8) CQ)) Qj9)))))))))) DH)) DH) DH)) (jR (hZ Qgh GD) (eX Qgi Qgj DH (cE Qq DH Qr (cE VQ DH Qgn (jR Qg6 (eX Qg7 Qg8 (sp Qg9 Qhi (cE Qhj Qhk Qhm Qhk (cE Qhn Qhq Qhr Qhs (cE Qht Qj5 Qhy Qj6 (cE Qh9 Qhi Qib Qid (cE Qie Qif Qih Qik (cE Qil Qin Qio Qip (cE Qiq Qir Qis Qit (cE Qiv Qiw Qiy Qjv (cE Qi0 NO Qi3 (lj Qi4 Qi5 (jA Qi6 v! (pq 12300 Tl 12300 Tl Qj7) CQ Qjg (pq 12300 Tj 12300 Tj Qj8) CQ)) Qj9)))))))))) DH)) DH) DH))))))
abbrev Qka:=ju 451 [Qf,tu,Qa,Qb]
def ahw:=cE (qg (.lit 64)) Qka (gQ Nr Qc) Qka (ju 452 [Qf,tu,Qa,Qb])
abbrev Qkb:=ju 451 (nv [Qm])
def aeq:=ri xl (rT Qkb) 453 [Qm,C5,Qa,Qf]
abbrev Qkc:=[Qf,Qm,Nu,NQ,PZ,Qf9,nm I_]
def aep:=ri xl (rT (jB 700 Qkc 700 Qkc 0 Qkb (ju 452 (nv [Qm])))) 454 [Qm,C5,Qa,Qf]
abbrev Qkd:List V:=zt [Qo,Qm,ce 0 Vb,NQ,ce 2 Vb]
def aeo:=qt (rJ IG (eO v? 455 Qkd)) [.lit 120]
def aen:=gg xl (rT (iP (iC (.lit 120) NQ) (ju 455 Qkd) (iC (.lit 4000) (ce 2 Vb)) 455 Qkd (ju 456 Qkd)))
abbrev Qke:=ju 453 [Qb,Qo,Q1,cK]
def aem:=sp (iC Qf ib) Qke Qke
abbrev Qkf:=el ib Qf
abbrev Qkg:=[cK,Qb,dv,eK,ib,gH Qkf,Cm 1 Qkf,hU Qkf,kj Qkf,j7 Qkf,Cm 5 Qkf,ce 6 Qkf]
abbrev Qkh:=iH Qf
abbrev Qki:=[ce 6 Qkf,dv,eK,ib]
abbrev iq a0 a1:=rr a0 a1 1
abbrev Qkj:=[Qkh,Qb,Qo,Qm,cK,eQ 5000 Qki,iq 5000 Qki,rr 5000 Qki 2]
def ael:=ri (iC Qf ib) (rJ (qX Qf) (jB 750 Qkg 750 Qkg 0 (ju 455 [Qkh,Qb,Qo,Qm,cK,dv,eK,ib]) (jB 5000 Qki 5000 Qki 3 (ju 456 Qkj) (ju 455 Qkj)))) 454 [Qb,Qo,Q1,cK]
abbrev Qkk:List V:=Bg [Qm,cK]
abbrev Qkl:=qX jo
abbrev Qkm:=oE kb
abbrev u?:=hZ Qf nZ
abbrev Qko:=oE qN
abbrev G!:=s9 ib
abbrev Qkq:=ju 501 [oP,kb,ln kb,Qa,Qf,Qb,Qo,Qm,cK,dv,eK,ib,jo,qN,gS]
abbrev Qkr:=gI Qa jo jP Qkq
abbrev nM a0 a1 a2 a3:=cE a0 jP a1 a2 a3
abbrev Qks:=nM Qko G! Qkr jP
abbrev rS a0:=hZ a0 mb
abbrev Qkt:=rS Qf
abbrev Qku:=hZ Qf H!
abbrev G_:=hZ Qf IH
abbrev Qkw:=ru Qf
abbrev pb a0 a1:=sp a0 jP a1
abbrev jk a0 a1 a2:=nM a0 a1 jP a2
abbrev Qkx:=nM (gQ dv Va) (gQ dv oP) (jk Qkl (gQ Qjq jo) (cE VQ (cE Qkm (cE u? Qks Qkt Qks jP) Qko (gg Qku (gg G! Qkr)) (xR G! (gI Qa jo (gg G_ Qkq) Qkq) Qf GD Qkr)) Qkw (pb Qkm Qks) (xR Qkt (sp Qkm Qks Qks) Qf GD (pb Qkm (nM Qko G! Qkr Qkr))))) jP
def WJ:=jB 650 Qkk 650 Qkk 1 Qkx (jk (qX eK) (gQ (eQ 650 Qkk) eK) Qkx)
abbrev Qky:=uT (mk (nm Qs))
abbrev jF a0 a1:=V.op .zD a0 a1
abbrev Qkz:=ju 501 (Bg [Q1,cK,dv,eK,ib,jo,kb,qN,oP,AY,sk,jF wu (cn Qky Qh)])
abbrev v_:=ln sk
abbrev Qk1:=qX kb
abbrev qf a0 a1 a2 a3 a4:=cE a0 a1 (s9 a2) a3 a4
abbrev Qk3:=qf Qk1 kI Qc (gg (s9 oP) kI) jP
abbrev acr a0 a1 a2:=s9 (.op a0 a1 a2)
abbrev vN a0 a1:=acr .OE a0 a1
abbrev xP a0 a1:=V.op .Gq a0 a1
def N5:=sp Qp (uS (nM (qX (nm Qs)) (gQ (nm Qs) Qf) (mW (vN wu Qky) Qkz (nm (xP wu Qky)) Q0 jP Qkz) jP)) (cE (qX eK) (gI Qa v_ jP Qk3) (gQ eK v_) jP Qk3)
abbrev Qk4:=xQ tu 1759218604441
abbrev Qk5:=hZ (uT Qf) Qh
abbrev Qk6:=lS (uT Qf)
def O?:=iP Qfx (eO Qk4 551 [Qf,tu,Qa]) Qk5 552 [] (eO Qk6 553 [])
abbrev Qk7:=oE To
abbrev Qk8:=rh To
abbrev Qk9:=Ab Qf yN Vb Qbd I_
abbrev Qla:=oH Qf yN Vb Qbl
abbrev Qlb:=oH Qf yN Vb Qbq
def aek:=qt (rT (mW (oE I_) (jR (rh I_) (mW Qk7 (eO Qk8 551 [re Qk9 yN Qk9 Qo Tp To,Qb,NS]) To Qh (ju 551 [kM Qk9 yN Qk9 Qo VT,Qb,NS]) (eO (lS To) 551 [kM Qk9 yN Qk9 Qo VS,Qb,NS]))) I_ Qh (mW Qk7 (eO Qk8 551 [re Qla yN Qla Qo Tp To,Qb,NS]) To Qh (ju 551 [kM Qla yN Qla Qo VT,Qb,NS]) (eO (lS To) 551 [kM Qla yN Qla Qo VS,Qb,NS])) (jR (lS I_) (mW Qk7 (eO Qk8 551 [re Qlb yN Qlb Qo Tp To,Qb,NS]) To Qh (ju 551 [kM Qlb yN Qlb Qo VT,Qb,NS]) (eO (lS To) 551 [kM Qlb yN Qlb Qo VS,Qb,NS]))))) Qj
def ajR:=ou [Qh]
def ajQ:=ou [Qk]
abbrev VM:=hZ Qf pR
abbrev Qld:=ou [mb]
abbrev Qle:=ou [nZ]
def ahq:=gg (xQ (wr Qf) 27) (rj Qf (xQ Qf 27) (nM (s9 Qf) Qkw kI (cE Qkt kI VM kI (cE u? kI G_ Qld (ff Qf GD Qld Qf Ns Qld (mW Qku Qld Qf Nv (ou [pR]) (uW Qf Qig (ou [pR]) Qf 11 (ou [pR]) (uW Qf (.lit 12) Qle Qf 13 Qle (uW Qf (.lit 14) Qle Qf 15 (ou [IH]) (uW Qf Nr (ou [GD]) Qf 17 (ou [Ns]) (uW Qf (.lit 18) (ou [Ns]) Qf 19 (ou [Ns]) (uW Qf Qix (ou [H!]) Qf 21 (ou [H!]) (ff Qf (.lit 22) (ou [Nv]) Qf Qiu (ou [Nv]) (ff Qf H_ Qle Qf G? (ou [IH]) (ou [GD])))))))))))))))
def O!:=cE VM (ou [Qo,Q0]) G_ (ou [rU Qo,Q0]) (ff Qf Ns (ou [Qim,Q0]) Qf Nv (ou [Qa,Qa]) (ou [Qa,Q0]))
abbrev Qlf:=gg (s9 cK) kI
abbrev Qlg:=jk Qe9 (Cv 1048576 cK) kI
def ahp:=sp (ru Qo) Qlf (ff Qo mb Qlf Qo GD Qlf (ff Qo Ns Qlf Qo pR Qlg (ff Qo H! Qlg Qo IH (jk Qe9 (gQ Nr cK) kI) (ff Qo nZ (nM (qX cK) (qg cK) (hY (uV Qf cK) Q0 kI) jP) Qo Nv kI jP))))
abbrev Qlj:=ru dv
abbrev Qlk:=rS dv
abbrev Qll:=hZ dv pR
abbrev Qlm:=hZ dv nZ
abbrev Qln:=hZ dv IH
abbrev Qlo:=ff dv GD jP dv Ns jP jP
abbrev Qlp:=pb Qll (jk Qlm Qln Qlo)
abbrev Qlq:=qg ib
abbrev Qlr:=uV Qf ib
abbrev Qls:=[Qlr,dv,eK,ib,jo,kb,qN,oP,Qa]
abbrev Qlt:=pb (hZ eK Nr) kI
abbrev Qlu:=gO 950 Qls 950 Qls Qlt
abbrev Qlv:=gg Qlq (hY Qlr GD kI)
abbrev Qlw:=hY (ln oP) Q0 kI
abbrev Qlx:=gI KO kb jP Qlw
abbrev Qly:=gI KO kb jP kI
abbrev Qlz:=pb Qll (cE Qlm Qlx Qln Qly Qlo)
abbrev Ql0:=sp (hZ eK Nr) Qly kI
abbrev Ql1:=gO 950 Qls 950 Qls Ql0
abbrev Ql2:=gQ jo C5
abbrev Ql3:=sp Qll (gg Ql2 Qlw) (jk Qlm Qln (ff dv GD (gg Ql2 kI) dv Ns (gg Ql2 jP) jP))
abbrev Ql4:=[Qlr,dv,eK,ib,jo,kb,qN,oP,Q0]
abbrev Ql5:=sp Qll (gg Ql2 Qlw) (cE Qlm Qlx Qln Qly (ff dv GD (gg Ql2 kI) dv Ns (gg Ql2 Qly) jP))
def aho:=sp Qkl (jA Qk1 (qX ib) (jk Qlj Qlk Qlp) (cE Qlj (gg Qlq Qlu) Qlk Qlv Qlp) (qX ib) (jk Qlj Qlk Qlz) (cE Qlj (gg Qlq Ql1) Qlk Qlv Qlz)) (jA Qk1 (qX ib) (jk Qlj Qlk Ql3) (cE Qlj (gg Qlq (sp Ql2 (gO 950 Ql4 950 Ql4 Qlt) Qlu)) Qlk Qlv Ql3) (qX ib) (jk Qlj Qlk Ql5) (cE Qlj (gg Qlq (sp Ql2 (gO 950 Ql4 950 Ql4 Ql0) Ql1)) Qlk Qlv Ql5))
abbrev Ql6:List V:=Bg [Qm,Q0,.lit 1000,cK]
def ahn:=acs 5050 Ql6 5050 Ql6 2 kI
def ahm:=ju 851 [Qf,Qb,tu,Qa]
def O':=iB Qp (nL Qq (qg Qm) (hZ Qb (nm K0)) (ou [Qm]) (ju 851 Qfp)) [Va]
abbrev mF a0 a1 a2 a3:=yC a0 a1 a2 jP a3
def ahl:=mF 850 C4 (qX (eQ 850 C4)) kI
abbrev Nq:=s9 jo
abbrev Ql8:=[Qf,ln ib,Qb,Qo,Qm,cK,dv,eK,ib]
def ahg:=ri Nq (ju 951 Ql8) 952 Ql8
abbrev u!:=cn gS (kr gS Qh gS)
abbrev Qma:=[Qf,Qb,Q0,Qo,Qm,cK,dv,eK,ib,jo,I1 gS (cn Qh u!)]
abbrev Qmb:=[Qf,Q0,Qa,Qa,Qm,Qa,Qa]
abbrev Qmc:=Ew 1200 [Qm]
abbrev Qmd:=hZ Qf (eQ 1200 [Qm])
abbrev Qme:=[Qf,gS]
abbrev Qmf:=Ew 5150 Qme
abbrev Qmg:=oG 5150 Qme 2
abbrev Qmh:=sp (hZ Qm Nr) kI kI
abbrev rR a0:=iC Qix a0
abbrev Qmi:=rp Qmc Qmd (jR Qmf (jk Qmg (rR (iq 5150 Qme)) Qmh))
abbrev Qmj:=gO 12400 Qmb 12400 Qmb (jR (oF 12400 Qmb) Qmi)
abbrev Qmk:=[Qa,Qa,Qf,Qa,Qa,Qa,Qm,Qa,Qa]
abbrev Qml:=Ew 5200 Qme
abbrev Qmm:=oG 5200 Qme 3
abbrev Qmn:=[Qf,Qa,Qa,Qa,Qm,Qa,Qa]
abbrev pd a0 a1 a2 a3:=jR a0 (rp a1 a2 a3)
abbrev Qmo:=cE VM Qmj Qku Qmj (cE G_ Qmj u? (gO 12450 Qmk 12450 Qmk (pd (oF 12450 Qmk) Qmc Qmd (jR Qml (jk Qmm (rR (rr 5200 Qme 2)) Qmh)))) (gO 12400 Qmn 12400 Qmn (jR (oF 12400 Qmn) Qmi)))
abbrev Qmp:=iG 12500 Qmb
abbrev Qmq:=oF 12500 Qmb
abbrev rY a0 a1:=V.eD (qpx a0 a1)
abbrev Qmr:=rY 97 vL
abbrev Qms:=cn Qmr Qh
abbrev Qmt:=rR (jF (iq 5150 Qme) Qms)
abbrev Qmu:=rp Qmc Qmd (eX Qmf Qmg jP (nz Qmt Qm Nr jP))
abbrev Qmv:=mF 12500 Qmb Qmp (jR Qmq Qmu)
abbrev Qmw:=iG 12550 Qmk
abbrev Qmx:=oF 12550 Qmk
abbrev Qmy:=rR (jF (rr 5200 Qme 2) Qms)
abbrev Qmz:=iG 12500 Qmn
abbrev Qm0:=oF 12500 Qmn
def aej:=mW Qfw (ju 953 Qma) dv Va Qmo (cE VM Qmv Qku Qmv (cE G_ Qmv u? (mF 12550 Qmk Qmw (pd Qmx Qmc Qmd (eX Qml Qmm jP (nz Qmy Qm Nr jP)))) (mF 12500 Qmn Qmz (jR Qm0 Qmu))))
abbrev Qm1:=rp Qmc Qmd (jR Qmf (jk Qmg Qmt Qmh))
abbrev Qm2:=mF 12500 Qmb Qmp (jR Qmq Qm1)
def aei:=mW Qfw (ju 954 Qma) dv Va Qmo (cE VM Qm2 Qku Qm2 (cE G_ Qm2 u? (mF 12550 Qmk Qmw (pd Qmx Qmc Qmd (jR Qml (jk Qmm Qmy Qmh)))) (mF 12500 Qmn Qmz (jR Qm0 Qm1))))
abbrev Qm3:=gR qN (.lit 2513169434915)
abbrev Qm4:List V:=Ej [dv,eK,ib,jo,kb,I1 qN (cn Qh u!)]
abbrev u_:=[Qf,Q0,Qa,Qa,cK,Qa,qN,Qa]
abbrev Qm6:=Ew 1200 [cK]
abbrev Qm7:=hZ Qf (eQ 1200 [cK])
abbrev Qm8:=[rr 12600 u_ 9,rr 12600 u_ 10,Qf,gS]
abbrev Qm9:=sp (uP Nr) kI kI
abbrev Qna:=gO 12600 u_ 12600 u_ (pd (oF 12600 u_) Qm6 Qm7 (oV 5300 Qm8 (jk (oG 5300 Qm8 3) (rR (rr 5300 Qm8 2)) Qm9)))
abbrev t?:List V:=[Qa,Qa,Qf,Qa,Qa,Qa,cK,Qa,qN,Qa]
abbrev Qnc:=[rr 12650 t? 11,rr 12650 t? 12,Qf,gS]
abbrev t!:List V:=[Qf,Qa,Qa,Qa,cK,Qa,qN,Qa]
abbrev Qne:=[rr 12600 t! 9,rr 12600 t! 10,Qf,gS]
abbrev Qnf:=cE VM Qna Qku Qna (cE G_ Qna u? (gO 12650 t? 12650 t? (pd (oF 12650 t?) Qm6 Qm7 (oV 5350 Qnc (jk (oG 5350 Qnc 4) (rR (rr 5350 Qnc 3)) Qm9)))) (gO 12600 t! 12600 t! (pd (oF 12600 t!) Qm6 Qm7 (oV 5300 Qne (jk (oG 5300 Qne 3) (rR (rr 5300 Qne 2)) Qm9)))))
abbrev Qng:=iG 12700 u_
abbrev Qnh:=oF 12700 u_
abbrev Qni:=[rr 12700 u_ 9,rr 12700 u_ 10,Qf,gS]
abbrev Qnj:=oG 5300 Qni 3
abbrev Qnk:=rR (jF (rr 5300 Qni 2) Qms)
abbrev Qnl:=hY cK Nr jP
abbrev Qnm:=mF 12700 u_ Qng (pd Qnh Qm6 Qm7 (oV 5300 Qni (jk Qnj Qnk Qnl)))
abbrev Qnn:=iG 12750 t?
abbrev Qno:=oF 12750 t?
abbrev Qnp:=[rr 12750 t? 11,rr 12750 t? 12,Qf,gS]
abbrev Qnq:=oG 5350 Qnp 4
abbrev Qnr:=rR (jF (rr 5350 Qnp 3) Qms)
abbrev Qns:=iG 12700 t!
abbrev Qnt:=oF 12700 t!
abbrev Qnu:=[rr 12700 t! 9,rr 12700 t! 10,Qf,gS]
abbrev Qnv:=oG 5300 Qnu 3
abbrev Qnw:=rR (jF (rr 5300 Qnu 2) Qms)
def qP:=mW xl (eO Qm3 953 Qm4) eK Va Qnf (cE VM Qnm Qku Qnm (cE G_ Qnm u? (mF 12750 t? Qnn (pd Qno Qm6 Qm7 (oV 5350 Qnp (jk Qnq Qnr Qnl)))) (mF 12700 t! Qns (pd Qnt Qm6 Qm7 (oV 5300 Qnu (jk Qnv Qnw Qnl))))))
abbrev Qnx:=mF 12700 u_ Qng (pd Qnh Qm6 Qm7 (oV 5300 Qni (jk Qnj Qnk Qm9)))
def qO:=mW xl (eO Qm3 954 Qm4) eK Va Qnf (cE VM Qnx Qku Qnx (cE G_ Qnx u? (mF 12750 t? Qnn (pd Qno Qm6 Qm7 (oV 5350 Qnp (jk Qnq Qnr Qm9)))) (mF 12700 t! Qns (pd Qnt Qm6 Qm7 (oV 5300 Qnu (jk Qnv Qnw Qm9))))))
def ab3:=jB 1050 [Qf,Qa] 1050 [Qf,Qa] 6 (hY (eQ 1050 [Qf,Qa]) mb (hY (EY (rr 1050 [Qf,Qa] 5) (rr 1050 [Qf,Qa] 4)) tu kI)) jP
abbrev Qny:=ou [Qa,gS,Qa,Qa,Qa,Qa,mb,Qa]
abbrev PX:=rr 12800 C4 3
abbrev Qn0:=iH (.op .cnt (.op .sub Qf (s6 gS PX gS)) Qig)
abbrev Qn1:=rr 12850 [Qf,PX] 3
abbrev VL:V:=.op .sub Qf (s6 (mk PX) Qn1 gS)
abbrev Qn3:=mR VL Qa
abbrev Qn4:V:=.lit 256
abbrev Qn5:=mR (.eD b0) Qn3
abbrev Qn6:=ou [Qa,gS,Qa,Qa,Qa,Qa,.lit 100,Qn0]
abbrev Qn7:=rY 32 vL
abbrev Qn8:=hZ (uT VL) (rY 61 vL)
def QM:=gI (.lit 16384) tu (ou [Qa,gS,Qa,Qa,Qa,Qa,pR,Qa]) (cE NR Qny (gQ tu Qb) Qny (pq 12800 C4 12800 C4 (s5 PX (gQ tu PX) (sp (hZ PX tu) (ou [IH,gS,Qa,Qn0,PX,PX,Qa,Qa]) (pq 12850 [Qf,PX] 12850 [Qf,PX] (rJ (gQ Qn1 PX) (lj (gQ tu Qn1) (oE VL) (nL (qX Qn3) (gQ Qn3 Qn4) (hZ Qn5 pR) (jB 1100 [VL] 1100 [VL] 1 Qn6 (ou [Q0,gS,eQ 1100 [VL],Qn0,PX,Qn1,Qa,Qa])) (ff Qn5 nZ (jR (gR VL (.lit 1000000000)) (jR (gR (qj Qn7 VL) (.lit 1000000000)) (cE (acr .con (.eD b1) (qj (qj Qn7 VL) Qn7)) (iB Qn8 Qn6 [mb,VL,Qa,Qn0,PX,Qn1,Qa,Qa]) Qn8 Qn6 (ou [pR,VL,Qa,Qn0,PX,Qn1,Qa,Qa])))) Qn5 IH (iB Qn8 Qn6 [nZ,VL,Qa,Qn0,PX,Qn1,Qa,Qa]) Qn6)))))))))
def ab2:=ri (s9 tu) (ju 1101 []) 1102 [Qa,Qf,tu,Qa]
def ahG:=ou [Qa,Q0]
abbrev Qn9:=wr (.wrap .u8 (.sub (nm Qs) (.lit 48)))
def Xd:=iB Qp (nL Qq Qr (gQ (wr (.quo (EY (.lit 9223372036854775807) Qn9) Qig)) Qf) (ou [Qa,Qa]) (ju 1102 [ry (wr (.mul Qf Qig)) Qn9,Qb,Qo,Q1])) [Qf,Q0]
abbrev Qoa:=iG 1000 [Qb]
abbrev Qob:=rU C5
abbrev Qoc:=rY 45 vL
abbrev Qod:=rY 43 vL
abbrev Qoe:=rY 42 vL
abbrev Qof:=rY 61 (qpx 61 vL)
abbrev Qog:=rY 60 vL
def ab1:=sp Qkw (nz IG Qg gS (gg (s9 C5) kI)) (cE Qkt (gg (s9 Qo) (gg (s9 C5) (mF 1000 [Qb] Qoa kI))) VM (gg (s9 Qo) (jk (gQ C5 Q0) (gQ mb C5) (rj Qob (gQ Qob mb) (mW (s9 Qob) (hY Qg Qoc kI) Qg Qod kI (ff Qg Qoc kI Qg Qoe kI (ff Qg Qof kI Qg Qog kI jP)))))) jP)
def ab0:=gI nZ Qf (gI H! Qf (iB (Cv 11 Qf) (gI (.lit 14) Qf (sp (pw Qf 15) (ou [IH]) (cE (hZ Qf Nr) (ou [GD]) (Cv 19 Qf) (iB (Cv 21 Qf) (ou [Nv]) [H!]) (ou [Ns]))) Qle) [pR]) Qld) kI
def abZ:=mW u? kI Qf (.lit 17) kI (ff Qf Qix kI Qf Qiu kI jP)
def abY:=sp VM kI (mW u? kI Qf (.lit 11) kI (uW Qf (.lit 21) kI Qf 22 kI jP))
def abX:=cE VM kI G_ kI (xR Qku kI Qf Nv kI)
abbrev Qoh:=xR u? (gO 1000 [Qm] 1000 [Qm] kI) (uT Qm) gS kI
def abW:=jk (gQ Qf Q0) (gQ Nv Qf) (mF 1000 [Qb] Qoa (nM IG (gQ Qa Qo) (gO 1350 Qj 1350 Qj Qoh) Qoh))
def WX:=eX Qfu Qfv (oV 300 C4 (ju 1451 [Qb,Qc,eQ 300 C4])) (ou [Qh,Qh,eQ 450 C4])
abbrev Qoi:=ln (ce 1 (el Qf Qa))
abbrev Qoj:=qp gS gS gS gS gS
def QL:=iB Qfw (eX Qfx (s9 Qoi) (ju 1452 [Qf,Qb,Q0,Qo,I1 gS (kr gS Qk Qoj)]) (eO (gQ Qoi Qv) 1452 [Qf,Qb,Q0,Qo,I1 gS (kr gS (rpx Qoi gS) Qoj)])) [Qo,Qh,Qa]
abbrev Qok:=xQ KO 2199023255551
abbrev Qol:=ou [Qm,cK,Qa]
def QK:=sp xl (nL IG v? (s7 NQ) (jW Qok 1452 [Qm,I1 cK (kr gS Qk Qoj)]) (jR (rh NQ) (jW Qok 1452 [Qm,I1 cK (kr gS (rpx (ln NQ) gS) Qoj)]))) Qol
def abV:=jR Qgi (nz Qgj C5 Qc (ju 1501 [Qm,C5,Qa,Qf,Qb]))
abbrev Qom:=[Qm,cK,ce 0 Qdk,Qdl,ce 2 Qdk,Nu,NQ,PZ,IE,nm I_,nm To]
def WW:=sp xl (rT (jR w_ (gO 1600 Qom 1600 Qom (ju 1501 (Ej []))))) kI
abbrev F?:List V:=Bg [Qm]
def abU:=nM (qX cK) (gQ cK Qc) (gO 1500 F? 1500 F? kI) jP
def abT:=pb VQ (nz (gQ KO dv) (ln eK) C5 (pb (qX qN) (nM (gQ Qjq qN) G! (gg Nq (gg (s9 kb) kI)) (ff ib H_ (nM Qkl (qg jo) (hY (uV Qf jo) nZ kI) jP) ib G? (nM Qkl (qg jo) (hY (uV Qf jo) IH kI) jP) jP))))
abbrev Qoo:=el Qm cK
abbrev Qop:=hU Qoo
abbrev Qoq:=gH Qoo
def abS:=rJ (qX cK) (rp (gQ cK C5) (s9 Qop) (rp (gQ cK Qc) (hZ Qoq (ln (ce 2 (el Qb cK)))) kI))
abbrev Qor:=el (ce 2 (el Qb cK)) Qoq
def GN:=nL (qX cK) (gQ cK C5) (s9 Qop) (jB 1650 Qkk 1650 Qkk 0 (jR (gQ cK Qc) (rj Qoq (iC Qoq (ce 2 (el Qb cK))) (ff (gH Qor) Q0 (ju 1751 [ce 6 Qor,ln (ce 6 Qor),Qa,Qoq,ce 1 Qoo,Qop,kj Qoo,j7 Qoo,Cm 5 Qoo,Cm 1 Qor,hU Qor,Qa]) (gH Qor) mb (ou [.lit 26,hU Qor,Qa,Qa,Q0]) (ou [Qa,Qa,Qa,Qa,Qa])))) (ou [Qa,Qa,Qa,Qa,Qa])) (ou [Qop,kj Qoo,j7 Qoo,Qa,Q0])
def WV:=qt (rT (oV 1950 [Nu,NQ,PZ,Qf9,cK] (ju 1751 (Ej [dv,eK,ib,jo,kb,qN,eQ 1950 [Nu,NQ,PZ,Qf9,cK]])))) [kb,qN,oP,jo,Q0]
abbrev IB:=[cK,Qo,Qm]
abbrev sj:=eQ 9050 IB
abbrev KN:=Ew 1550 Qkk
abbrev KM:=iG 1550 Qkk
abbrev AP:=rr 9050 IB 2
abbrev Ti:=rr 9050 IB 3
abbrev Qoy:=[Qf,Qb,AP,Ti,cK]
abbrev Qoz:=[Qf,Qb,AP,Qh,cK]
abbrev Qo0:=[Qf,Qb,AP,Qk,cK]
abbrev Qo1:=rr 9050 IB 4
abbrev Qo2:=rr 9050 IB 5
abbrev Qo3:=rr 9050 IB 6
abbrev Qo4:=rr 9050 IB 7
abbrev Qo5:=rr 9050 IB 8
abbrev Qo6:=rr 9050 IB 9
abbrev Qo7:=qp (mk Qo3) (mk Qo4) (mk Qo5) (mk Qo6) gS
abbrev qi a0 a1 a2:=BC a0 (mk a1) a2
abbrev Qo8:=qi Ti cK (kr (mk Qo1) Qo2 Qo7)
abbrev Qo9:=ou [AP,Qo8,Qa,Qa,Qa,Qa,Qa,Qa]
abbrev F!:List V:=[Qf,Qb,AP,Qo8,cK]
abbrev Qpb:=iG 1650 F!
abbrev Qpc:=oG 1750 F! 4
abbrev Qpd:=[Qf,Qb,cK,AP,Ti,Qo1,Qo2,Qo3,Qo4,Qo5,Qo6]
abbrev AO:=[Qf,Qb,cK,eQ 1750 F!,iq 1750 F!,rr 1750 F! 2,rr 1750 F! 3,AP,Ti,Qo1,Qo2,Qo3,Qo4,Qo5,Qo6]
abbrev Qpf:=ou [AP,Qo8,Qa,Qa,Qa,Qa,Qa,nZ]
abbrev rv a0 a1:=rr 14500 a0 a1
abbrev vQ a0 a1:=rr 14550 a0 a1
abbrev qn a0 a1:=mk (rv a0 a1)
abbrev qk a0 a1:=mk (vQ a0 a1)
def nj:=oV 9050 IB (mW (s9 sj) (eX KN KM (ou [AP,Ti,Qa,Qa,Qa,Qa,Qa,Qa]) (jB 1650 Qoy 1650 Qoy 0 (R3 1750 Qoy (oG 1750 Qoy 4) fl) (ou [AP,Ti,Qa,Qa,Qa,Qa,Qa,nZ]))) sj Q0 (eX KN KM (ou [AP,Qh,Qa,Qa,Qa,Qa,Qa,Qa]) (jB 1650 Qoz 1650 Qoz 0 (R3 1750 Qoz (oG 1750 Qoz 4) fl) (ou [AP,Qh,Qa,Qa,Qa,Qa,Qa,nZ]))) (ff sj mb (eX KN KM (ou [AP,Qk,Qa,Qa,Qa,Qa,Qa,Qa]) (jB 1650 Qo0 1650 Qo0 0 (R3 1750 Qo0 (oG 1750 Qo0 4) fl) (ou [AP,Qk,Qa,Qa,Qa,Qa,Qa,nZ]))) sj pR (eX KN KM Qo9 (yC 1650 F! Qpb (yC 1750 F! Qpc (pq 14000 Qpd 14000 Qpd (ou [AP,qi Ti cK (kr (mk (rr 14000 Qpd 12)) (rr 14000 Qpd 13) Qo7),Qa,Qa,Qa,Qa,Qa,Q0])) (pq 14500 AO 14500 AO (ou [rv AO 22,qi Ti cK (mE (qn AO 23) (rv AO 24) (qn AO 25) (qn AO 26) (qn AO 27) (qn AO 28)),rv AO 16,rv AO 17,rv AO 18,rv AO 19,rv AO 20,rv AO 21]))) Qpf)) (jR (hZ sj nZ) (eX KN KM Qo9 (yC 1650 F! Qpb (yC 1750 F! Qpc (pq 14050 Qpd 14050 Qpd (ou [AP,qi Ti cK (kr (mk (rr 14050 Qpd 12)) Qo2 Qo7),Qa,Qa,Qa,Qa,Qa,Q0])) (pq 14550 AO 14550 AO (ou [vQ AO 22,qi Ti cK (mE (qk AO 23) Qo2 (qk AO 24) (qk AO 25) (qk AO 26) (qk AO 27)),vQ AO 16,vQ AO 17,vQ AO 18,vQ AO 19,vQ AO 20,vQ AO 21]))) Qpf)))))
abbrev Qpg:=xQ Qc 2199023255552
abbrev Qph:=[tu,Qa,Qf]
def xD:=cE Qfx (jz Qk4 Qd (eO Qpg 1901 [tu,Qa,Qf,Qb]) Qi 1902 Qph (eO Ql 1903 Qph)) Qk5 (iP Qd (eO Qpg 1904 [Qb]) Qi 1905 [] (eO Ql 1906 [])) (jz Qk6 Qd (eO Qpg 1907 [Qb]) Qi 1908 [] (eO Ql 1909 []))
abbrev Qpi:=gQ Qb Qf
abbrev Qpj:=gQ Qb Qcl
abbrev U8:=el Qo Qb
abbrev Qpl:=ce 4 U8
abbrev Qpm:=oE Qpl
abbrev Qpn:=rh Qpl
abbrev Qpo:=ce 5 U8
abbrev Qpp:=oE Qpo
abbrev Qpq:=rh Qpo
abbrev IA:=mk Qb
abbrev Qps:=Ab Qo IA U8 Qbd Qpl
abbrev Qpt:=re Qps IA Qps Qb Tp Qpo
abbrev Qpu:=hZ Qpo Qh
abbrev Qpv:=kM Qps IA Qps Qb VT
abbrev Qpw:=lS Qpo
abbrev Qpx:=kM Qps IA Qps Qb VS
abbrev Qpy:=oH Qo IA U8 Qbl
abbrev Qpz:=re Qpy IA Qpy Qb Tp Qpo
abbrev Qp0:=kM Qpy IA Qpy Qb VT
abbrev Qp1:=kM Qpy IA Qpy Qb VS
abbrev Qp2:=oH Qo IA U8 Qbq
abbrev Qp3:=re Qp2 IA Qp2 Qb Tp Qpo
abbrev Qp4:=kM Qp2 IA Qp2 Qb VT
abbrev Qp5:=kM Qp2 IA Qp2 Qb VS
def WU:=ri Qpi (lj NR Qpj (mW Qpm (jz Qpn Qpp (eO Qpq 1901 [Qf,pE,Qpt,Qm]) Qpu 1901 [Qf,pE,Qpv,Qm] (eO Qpw 1901 [Qf,pE,Qpx,Qm])) Qpl Qh (iP Qpp (eO Qpq 1901 [Qf,pE,Qpz,Qm]) Qpu 1901 [Qf,pE,Qp0,Qm] (eO Qpw 1901 [Qf,pE,Qp1,Qm])) (jz (lS Qpl) Qpp (eO Qpq 1901 [Qf,pE,Qp3,Qm]) Qpu 1901 [Qf,pE,Qp4,Qm] (eO Qpw 1901 [Qf,pE,Qp5,Qm])))) 1910 [C5,Qa,Qo,Qm]
def WT:=ri Qpi (lj NR Qpj (mW Qpm (jz Qpn Qpp (eO Qpq 1902 [Qf,pE,Qpt]) Qpu 1902 [Qf,pE,Qpv] (eO Qpw 1902 [Qf,pE,Qpx])) Qpl Qh (iP Qpp (eO Qpq 1902 [Qf,pE,Qpz]) Qpu 1902 [Qf,pE,Qp0] (eO Qpw 1902 [Qf,pE,Qp1])) (jz (lS Qpl) Qpp (eO Qpq 1902 [Qf,pE,Qp3]) Qpu 1902 [Qf,pE,Qp4] (eO Qpw 1902 [Qf,pE,Qp5])))) 1911 [Qo]
def WS:=ri Qpi (lj NR Qpj (mW Qpm (jz Qpn Qpp (eO Qpq 1903 [Qf,pE,Qpt]) Qpu 1903 [Qf,pE,Qpv] (eO Qpw 1903 [Qf,pE,Qpx])) Qpl Qh (iP Qpp (eO Qpq 1903 [Qf,pE,Qpz]) Qpu 1903 [Qf,pE,Qp0] (eO Qpw 1903 [Qf,pE,Qp1])) (jz (lS Qpl) Qpp (eO Qpq 1903 [Qf,pE,Qp3]) Qpu 1903 [Qf,pE,Qp4] (eO Qpw 1903 [Qf,pE,Qp5])))) 1912 [Qo]
def abR:=ju 1913 Qph
def ahF:=ju 1914 []
def ahE:=ju 1915 []
def abQ:=ju 1916 Qph
def ahD:=ju 1917 []
def ahC:=ju 1918 []
abbrev Tf:=el Qm Qb
abbrev Qp7:=ce 1 Tf
def WR:=iB Qpi (lj NR (gQ Qb C5) (mW (oE Qp7) (eO (rh Qp7) 1910 [Qf,pE,Qo,Ab Qm IA Tf Qh Qp7]) Qp7 Qh (ju 1910 [Qf,pE,Qo,oH Qm IA Tf Qdx]) (eO (lS Qp7) 1910 [Qf,pE,Qo,oH Qm IA Tf Qdz]))) [Qo,Qm]
def ahB:=ou [Qf,Qh]
def ahA:=ou [Qf,Qk]
abbrev U9:=ce 1 U8
abbrev Qp9:=[Qf,pE,Ab Qo IA U8 Qh U9]
abbrev Qqa:=[Qf,pE,oH Qo IA U8 Qdx]
abbrev Qqb:=[Qf,pE,oH Qo IA U8 Qdz]
def WQ:=iB Qpi (lj NR Qpj (mW (oE U9) (eO (rh U9) 1913 Qp9) U9 Qh (ju 1913 Qqa) (eO (lS U9) 1913 Qqb))) [Qh,Qo]
def abP:=ou [Qh,Qh]
def abO:=ou [Qh,Qk]
def WO:=iB Qpi (lj NR Qpj (mW (oE U9) (eO (rh U9) 1916 Qp9) U9 Qh (ju 1916 Qqa) (eO (lS U9) 1916 Qqb))) [Qk,Qo]
def abN:=ou [Qk,Qh]
def abM:=ou [Qk,Qk]
abbrev Qqc:=el Qm Qa
abbrev Qqd:=[gH Qqc,ce 1 Qqc,hU Qqc,ce 3 Qqc,cK]
abbrev Qqe:=eQ 1950 Qqd
abbrev Qqf:=el Qm Q0
abbrev Qqg:=[gH Qqf,ce 1 Qqf,hU Qqf,ce 3 Qqf,cK]
abbrev Qqh:=eQ 1950 Qqg
abbrev Qqi:=jF (jF (jF gS (cn Qod (mk (ry Qqe Qqh)))) (cn Qoc (mk (EY Qqe Qqh)))) (cn Qoe (mk (wr (.mul Qqe Qqh))))
abbrev Qqj:=iB (vN Qqi Qg) jP [nm (xP Qqi Qg)]
def QJ:=sp Qkw (ou [Qo]) (cE Qkt (nM IG w_ (ou [nm Qdk]) jP) VM (ff C5 Q0 (hY Qg Qoc (oV 1950 Qqd (ou [EY Qa Qqe]))) C5 mb (oV 1950 Qqd (oV 1950 Qqg (ff Qg Qof (sp (hZ Qqe Qqh) kI Qqj) Qg Qog (gI Qqe Qqh kI Qqj) Qqj))) jP) jP)
abbrev Qqk:=[cK,Qf,Qb,Qo,Qm,dv,eK,ib,jo,AP]
abbrev Qql:=[cK,Qa,Qf,Qb,Qo,Qm,dv,eK,ib,jo,AP,Ti,Qo1,Qo2,Qo3,Qo4,Qo5,Qo6]
def za:=oV 9050 IB (mW (s9 sj) (eX KN KM (ou [AP,Ti,Qa]) (ju 2001 [cK,Qf,Qb,Qo,Qm,dv,eK,ib,jo,AP,Ti])) sj Q0 (eX KN KM (ou [AP,Qh,Qa]) (ju 2002 Qqk)) (ff sj mb (eX KN KM (ou [AP,Qk,Qa]) (ju 2003 Qqk)) sj pR (eX KN KM (ou [AP,Qo8,Qa]) (ju 2004 Qql)) (jR (hZ sj nZ) (eX KN KM (ou [AP,Qo8,Qa]) (ju 2005 Qql)))))
abbrev Qqm:=[Qb,Qo,kb,qN,Qf]
abbrev Qqn:=jR Qlm (jR G! fl)
abbrev Qqo:=oV 1900 [Qm,cK] (ou [eQ 1900 [Qm,cK],iq 1900 [Qm,cK],Qa])
def ahz:=jB 1650 Qqm 1650 Qqm 0 (oV 1750 Qqm (rJ (oG 1750 Qqm 4) Qqn)) Qqo
abbrev Qqp:=[Qb,Qo,kb,Qh,Qf]
def ahy:=jB 1650 Qqp 1650 Qqp 0 (oV 1750 Qqp (rJ (oG 1750 Qqp 4) Qqn)) Qqo
abbrev Qqq:=[Qb,Qo,kb,Qk,Qf]
def ahx:=jB 1650 Qqq 1650 Qqq 0 (oV 1750 Qqq (rJ (oG 1750 Qqq 4) Qqn)) Qqo
abbrev VK:=oV 1900 [cK,dv] (ou [eQ 1900 [cK,dv],iq 1900 [cK,dv],Qa])
abbrev pg:=[Qo,Qm,qN,qi oP Qf (mE (mk AY) sk (mk wu) (mk IF) (mk I') (mk VP)),Qf]
abbrev DG:=iG 1650 pg
abbrev Gm:=oG 1750 pg 4
abbrev Te:=[Qo,Qm,Qf,qN,oP,AY,sk,wu,IF,I',VP]
abbrev ab4 (l:List V):=Qo::Qm::Qf::(rr 1750 pg 0)::(rr 1750 pg 1)::(rr 1750 pg 2)::l
abbrev jZ:List V:=ab4 [Qjq,qN,oP,AY,sk,wu,IF,I',VP]
abbrev fH:List V:=ab4 [Qa,qN,oP,AY,sk,wu,IF,I',VP]
abbrev rW a0 a1 a2:=hZ (rv a0 a1) a2
abbrev Cw a0 a1 a2:=SB.and a0 (.and a1 a2)
abbrev Qqy:=pq 14500 fH 14500 fH (cE (oG 14500 fH 21) VK (Cw (rW fH 16 Qf) (rW fH 17 eK) (Cw (rW fH 18 ib) (rW fH 19 jo) (rW fH 20 kb))) (ou [rv fH 22,qi oP Qf (mE (qn fH 23) (rv fH 24) (qn fH 25) (qn fH 26) (qn fH 27) (qn fH 28)),Q0]) VK)
def Lk:=gI (.lit 20000) Qb VK (yC 1650 pg DG (oV 1750 pg (mW Gm (oV 14000 Te (eO (iG 14000 Te) 2004 [Qf,pE,Qo,Qm,cK,dv,eK,ib,jo,kb,qN,oP,rr 14000 Te 12,rr 14000 Te 13,wu,IF,I',VP])) eK nZ (sp Nq (pq 14500 jZ 14500 jZ (cE (oG 14500 jZ 21) VK (Cw (rW jZ 16 Qf) (rW jZ 17 eK) (Cw (rW jZ 18 ib) (rW jZ 19 jo) (rW jZ 20 kb))) (ou [rv jZ 22,qi oP Qf (mE (qn jZ 23) (rv jZ 24) (qn jZ 25) (qn jZ 26) (qn jZ 27) (qn jZ 28)),Q0]) VK)) Qqy) Qqy)) VK)
abbrev rV a0 a1 a2:=hZ (vQ a0 a1) a2
abbrev Qqz:=pq 14550 fH 14550 fH (cE (oG 14550 fH 21) VK (Cw (rV fH 16 Qf) (rV fH 17 eK) (Cw (rV fH 18 ib) (rV fH 19 jo) (rV fH 20 kb))) (ou [vQ fH 22,qi oP Qf (mE (qk fH 23) sk (qk fH 24) (qk fH 25) (qk fH 26) (qk fH 27)),Q0]) VK)
def Lj:=gI (.lit 20000) Qb VK (yC 1650 pg DG (oV 1750 pg (mW Gm (oV 14050 Te (eO (iG 14050 Te) 2005 [Qf,pE,Qo,Qm,cK,dv,eK,ib,jo,kb,qN,oP,rr 14050 Te 12,sk,wu,IF,I',VP])) eK nZ (sp Nq (pq 14550 jZ 14550 jZ (cE (oG 14550 jZ 21) VK (Cw (rV jZ 16 Qf) (rV jZ 17 eK) (Cw (rV jZ 18 ib) (rV jZ 19 jo) (rV jZ 20 kb))) (ou [vQ jZ 22,qi oP Qf (mE (qk jZ 23) sk (qk jZ 24) (qk jZ 25) (qk jZ 26) (qk jZ 27)),Q0]) VK)) Qqz) Qqz)) VK)
def abL:=oV 200 [Qf,Qo] (nz (iG 200 [Qf,Qo]) Qc C5 (ju 2051 [Qc,Qa,Qf,Qb,Qo,Qm]))
def WN:=sp Qpi (lj NR (gQ Qb C5) (rp (iC Qb dv) (hZ (gH Tf) (gH Nw)) (hY (hU Tf) (hU Nw) (hY (kj Tf) (kj Nw) (hY (j7 Tf) (j7 Nw) (hY (Cm 5 Tf) (Cm 5 Nw) (hY (ln Qp7) (ln (ce 1 Nw)) (ju 2052 [Qf,Qb,ln Qp7,Qa,Qo,Qm,cK,dv,gH Tf,Qp7,hU Tf,kj Tf,j7 Tf,Cm 5 Tf,gH Nw,ce 1 Nw,hU Nw,kj Nw,j7 Nw,Cm 5 Nw])))))))) kI
def WM:=ri Qp (YO (iC Qm kb) (rp (iC Qm IF) (hZ (mR kb Qm) (mR IF Qm)) (ju 2052 (Bg [Q1,cK,dv,eK,ib,jo,kb,qN,oP,AY,sk,wu,IF,I',VP,.dK 18,.dK 19])))) 2051 [Qf,pE,cK,dv,eK,ib]
def WL:=nM (gQ Qb Q0) (qX (.rem Qf Qb)) (ou [ry (.rem Qf Qb) Qb]) (ou [.rem Qf Qb])
abbrev Qq0:=oG 1450 C4 2
def abK:=yC 1450 C4 Qq0 (ju 2151 [Qo,Qcl,Qa,Qf,Qb,eQ 1450 C4,iq 1450 C4]) (ou [Qh,Qh,Qa])
abbrev F_:=[Qm,cK,dv,eK,Nu,pQ,PZ,IE,nm I_]
def QI:=qt (rT (jB 2000 F_ 2000 F_ 2 (ou [dv,eK,Qo]) (ju 2151 (Ej [eQ 2000 F_,iq 2000 F_])))) [dv,eK,tu]
abbrev aiZ a0:=ju 23151 a0
def WK:=rp Qfu Qfv (aiZ [Qo,Qcl,Qa,Qf,Qb,gS])
abbrev PW:=uV Qm PZ
abbrev F8:=mk PZ
abbrev PV:=vN dv F8
abbrev B0:=hU (el Qm PZ)
abbrev KL:=mk B0
abbrev Qq7:=vN dv KL
abbrev Qq8:=hZ B0 PZ
abbrev lT a0:=jF dv a0
abbrev Qq9:=lT (cn F8 gS)
abbrev VI:=mk Nu
abbrev Qrb:=cn VI (kr gS gS u!)
abbrev pe a0:=jF Qq9 a0
abbrev fv a0:=aiZ (Ej a0)
abbrev Qrc:=fv [pe (cn F8 Qrb)]
abbrev Qrd:=vN Qq9 KL
abbrev Qrf:=gQ B0 C5
abbrev Qrg:=hZ (uV Qm B0) pR
abbrev Qrh:=pe (cn KL gS)
abbrev Qri:=qp KL VI gS (mk (hU (el Qm B0))) u!
abbrev oD a0 a1 a2 a3:=qp F8 a0 a1 a2 a3
abbrev Qrj:=oD AX gS gS u!
abbrev Qrk:=fv [jF (jF Qrh Qri) Qrj]
abbrev Qrl:=hZ (uV Qm B0) Nv
abbrev t_:=xP dv KL
abbrev Qrn:=s7 (ce 5 t_)
abbrev Qro:=hZ (ce 5 t_) (.eD (.i 3))
abbrev Qrp:=hZ PZ B0
abbrev Qrq:=gH t_
abbrev Qrr:=hZ Qrq Va
abbrev Qrs:V:=.op .bit (mk (j7 t_)) Qa
abbrev Qrt:=cn (.eD (.i 3)) gS
abbrev Qru:=qp (ce 1 t_) (mk (hU t_)) (mk (kj t_)) Qrs Qrt
abbrev uU a0 a1 a2:=lT (kr a0 a1 a2)
abbrev Qrv:=uU KL VI Qru
abbrev Qrw:=pe Qrj
abbrev Qrx:=cn (ce 1 t_) (qp (mk (hU t_)) (mk (kj t_)) Qrs (ce 5 t_) gS)
abbrev Qry:=uU KL VI Qrx
abbrev lh a0 a1:=gg a0 (fv a1)
abbrev Qrz:=cE Qrp (lh Qrr [Qry]) Qrr (fv [jF Qrw (kr KL VI Qrx)]) jP
abbrev Qr0:=xP dv F8
abbrev VJ:=ce 5 Qr0
abbrev PU:=s7 VJ
abbrev PS:=hZ VJ (.eD (.i 3))
abbrev Qr5:=hZ (gH Qr0) Va
abbrev Gj:=ce 1 Qr0
abbrev Qr7:=hU Qr0
abbrev U7:=mk Qr7
abbrev Qr9:=kj Qr0
abbrev Qsa:=mk Qr9
abbrev Qsb:V:=.op .bit (mk (j7 Qr0)) Qa
abbrev Qsc:=kr Qsa Qsb Qrt
abbrev Qsd:=kr Gj U7 Qsc
abbrev Qse:=lh Qr5 [uU F8 VI Qsd]
abbrev Qsf:=lT (cn KL gS)
abbrev Nn:=mk (gH Qr0)
abbrev Qsh:=kr F8 Nn Qsd
abbrev Qsi:=fv [jF (jF Qsf Qri) Qsh]
abbrev Qsj:=jF Qsf (cn KL Qrb)
abbrev Qsk:=lh Qrr [jF Qry Qsh]
abbrev Qsl:=cn Qsa (kr Qsb VJ gS)
abbrev Qsm:=kr Gj U7 Qsl
abbrev Qsn:=lh Qr5 [uU F8 VI Qsm]
abbrev Qso:=kr F8 Nn Qsm
abbrev Qsp:=fv [jF (jF Qsf Qri) Qso]
abbrev Qsq:=lh Qrr [jF Qry Qso]
abbrev Qsr:=sp Qq8 Qsn (cE Qq7 (rj B0 Qrf (cE Qrg Qsp Qrl Qsp (fv [jF Qsj Qso]))) Qrn (sp Qro (lh Qrr [jF Qrv Qso]) Qsq) Qsq)
abbrev Qss:=gg (s9 PW) (lj PV PU (jR PS fl))
abbrev Qst:=pb (qX (rU B0)) (fv [pe (oD AX gS (mk (rU B0)) u!)])
abbrev Qsu:=pw pQ 11
abbrev VG:=ru IE
abbrev Qsw:=fv [pe (oD AX gS KL u!)]
abbrev Qsx:=rU Qr7
abbrev Qsy:=qX Qsx
abbrev Qsz:=fv [lT (oD Nn Gj (mk Qsx) Qsc)]
abbrev VH:=fv [lT Qsh]
abbrev Qs1:=gQ B0 (iH Qr7)
abbrev Qs2:=fv [lT (oD Nn Gj (mk Qsx) Qsl)]
abbrev s?:=fv [lT Qso]
abbrev qo a0 a1 a2 a3 a4:=sp a0 (sp a1 a2 a3) a4
abbrev Qs4:=qo (hZ pQ Nv) Qsy jP Qs2 (jA Qsu VG (pb Qsy Qs2) s? Qs1 jP (fv [lT (oD Nn Gj (mk (iH Qr7)) Qsl)]))
abbrev Qs5:=uT VI
abbrev Qs6:=vN gS Qs5
abbrev Qs7:=fv [pe (oD AX (jF gS (cn Qs5 Qh)) gS u!)]
abbrev Qs8:=nm (xP gS Qs5)
abbrev Qs9:=vN Gj Qs5
abbrev Qta:=jF Gj (cn Qs5 Qh)
abbrev Qtb:=fv [lT (oD Nn Qta U7 Qsc)]
abbrev Qtc:=nm (xP Gj Qs5)
abbrev Qtd:=hZ (gH Qr0) Nu
abbrev Qte:=lh Qtd [uU F8 AX Qsd]
abbrev Qtf:=fv [lT (oD Nn Qta U7 Qsl)]
abbrev Qtg:=lh Qtd [uU F8 AX Qsm]
abbrev Qth:=sp (hZ pQ IH) (gg Qr5 (qf Qs9 Qtf Qtc Qtf jP)) (ff pQ GD (nz Qs9 Qtc Q0 (fv [lT (oD Nn (.op .Gt Gj Qs5) U7 Qsl)])) pQ Ns (gg (s7 Gj) Qsn) Qtg)
abbrev Qti:=fv [Qrw]
abbrev Qtj:=sp (ru pQ) Qsn (ff pQ pR (sp VG Qsn s?) pQ nZ (sp VG Qsn s?) (jR (rS pQ) Qtg))
abbrev Qtk:=qX IE
abbrev Qtl:=s9 B0
abbrev Qtm:=gQ IE (wr (.quo Qr9 B0))
abbrev Qtn:=pb Qtk (rJ Qtl (gg Qtm s?))
abbrev Qto:=cn gS (qp gS Qh gS Qh gS)
abbrev Qtp:=hZ IE (wr (.quo Qr9 B0))
abbrev Qtq:=qp Gj U7 (mk (iH Qr9)) Qsb Qrt
abbrev Qtr:=cn Gj (qp U7 (mk (iH Qr9)) Qsb VJ gS)
abbrev Qts:=rJ Qtl (lh Qtp [uU F8 Nn Qtr])
abbrev Qtt:=s9 (j7 Qr0)
abbrev Qtu:=gg Qtt (lh Qtd [lT (cn F8 (mE AX Gj U7 Qsa Qh VJ))])
abbrev Qtv:=ru (iH Qr9)
abbrev Qtw:=cE VG (gg Qtv (lh Qr5 [uU F8 VI Qtr])) Qtt jP s?
abbrev BD:=mk IE
abbrev Qtx:=I1 gS BD
abbrev Qty:=fv [lT (cn F8 (mE Nn Gj U7 Qsa Qsb Qtx))]
abbrev Qt0:V:=.sub (ln VJ) Q0
abbrev Qt1:=hY Qr7 IE s?
abbrev Qt2:=fv [pe (oD AX gS BD u!)]
abbrev Qt3:=fv [lT (oD Nn Gj BD Qsc)]
abbrev Qt4:=fv [lT (oD Nn Gj BD Qsl)]
abbrev Qt5:=pw pQ 17
abbrev Qt6:=pw pQ 18
abbrev Qt7:=sp Qt5 (jk Qtk (gQ Qim IE) Qt4) (qf Qt6 (nz Qsy Qsx IE Qs2) Qr7 s? jP)
abbrev s_:=pw pQ 12
abbrev Qt9:=rj B0 Qrf (jk Qrg Qrl jP)
abbrev r?:=pw pQ 13
abbrev Qub:=hZ Qrq Nu
abbrev Quc:=uU KL AX Qru
abbrev Qud:=s6 KL Qrq Qru
abbrev Que:=lT Qud
abbrev Quf:=sp Qrp (fv [Que]) (fv [jF Qrw Qud])
abbrev Qug:=uU KL AX Qrx
abbrev Quh:=s6 KL Qrq Qrx
abbrev Qui:=lT Quh
abbrev Quj:=sp Qrp (fv [Qui]) (fv [jF Qrw Quh])
abbrev Quk:=cE s_ (cE Qrp (lh Qub [Qug]) Qub (fv [jF Qrw (kr KL AX Qrx)]) jP) r? Quj Quj
abbrev Qul:=fv [jF Que Qsh]
abbrev Qum:=fv [jF Qui Qsh]
abbrev Qun:=cE s_ (lh Qub [jF Qug Qsh]) r? Qum Qum
abbrev Quo:=fv [jF Que Qso]
abbrev Qup:=fv [jF Qui Qso]
abbrev Quq:=cE s_ (lh Qub [jF Qug Qso]) r? Qup Qup
abbrev Qur:=sp Qq8 (cE s_ Qtg r? s? s?) (cE Qq7 (cE s_ Qt9 r? s? s?) Qrn (sp Qro (cE s_ (lh Qub [jF Quc Qso]) r? Quo Quo) Quq) Quq)
def eM:=sp xl (rT (nM (qX Nu) (gQ Nu KO) (nM (qX PZ) (gQ PZ C5) (sp (pw pQ 27) (fv [dv]) (cE (hZ pQ H_) (hY PW nZ (cE PV (jA Qq7 Qq8 Qrc (jR Qrd (rj B0 Qrf (cE Qrg Qrk Qrl Qrk (fv [jF (jF Qrh (cn KL Qrb)) Qrj])))) Qrn (sp Qro (cE Qrp (lh Qrr [Qrv]) Qrr (fv [jF Qrw (kr KL VI Qru)]) jP) Qrz) Qrz) PU (qo PS Qq8 Qse (cE Qq7 (rj B0 Qrf (cE Qrg Qsi Qrl Qsi (fv [jF Qsj Qsh]))) Qrn (sp Qro (lh Qrr [jF Qrv Qsh]) Qsk) Qsk) Qsr) Qsr)) (xQ pQ 12) (gI pQ Q0 Qss (xR (gQ nZ pQ) (xR (gQ H! pQ) (hY PW pR (jA PV (hZ pQ Nv) Qst (jA Qsu VG Qst Qsw (gQ B0 (iH B0)) jP (fv [pe (oD AX gS (mk (iH B0)) u!)])) PU (sp PS (qo (hZ pQ Nv) Qsy jP Qsz (jA Qsu VG (pb Qsy Qsz) VH Qs1 jP (fv [lT (oD Nn Gj (mk (iH Qr7)) Qsc)]))) Qs4) Qs4)) PW mb (jA PV (hZ pQ IH) (qf Qs6 Qs7 Qs8 Qs7 jP) (ff pQ GD (nz Qs6 Qs8 Q0 (fv [pe (oD AX (.op .Gt gS Qs5) gS u!)])) pQ Ns Qrc jP) PU (qo PS (hZ pQ IH) (gg Qr5 (qf Qs9 Qtb Qtc Qtb jP)) (ff pQ GD (nz Qs9 Qtc Q0 (fv [lT (oD Nn (.op .Gt Gj Qs5) U7 Qsc)])) pQ Ns (gg (s7 Gj) Qse) Qte) Qth) Qth)) PW Q0 (jA PV (ru pQ) Qrc (ff pQ pR (sp VG Qrc Qti) pQ nZ (sp VG Qrc Qti) (jR (rS pQ) jP)) PU (qo PS (ru pQ) Qse (ff pQ pR (sp VG Qse VH) pQ nZ (sp VG Qse VH) (jR (rS pQ) Qte)) Qtj) Qtj))) (xR (Cv 14 pQ) (uW pQ G? (hY PW IH (jA PV Qtk jP (rJ Qtl (gg (gQ IE (wr (.quo Qa B0))) Qti)) PU (qo PS Qtk jP (rJ Qtl (gg Qtm VH)) Qtn) Qtn)) pQ 15 (hY PW IH (cE PV (rJ Qtl (hY IE (wr (.quo Qa B0)) (fv [pe (kr F8 AX Qto)]))) PU (sp PS (rJ Qtl (lh Qtp [uU F8 Nn Qtq])) Qts) Qts)) (ff pQ (.lit 26) (hY PW GD (nM PV PU (sp PS (gg Qtt (lh Qtd [lT (vO F8 AX Gj U7 Qsa Qh Qrt)])) Qtu) Qtu)) pQ Nr (hY PW GD (cE PV (lh VG [pe (kr F8 VI Qto)]) PU (sp PS (cE VG (gg Qtv (lh Qr5 [uU F8 VI Qtq])) Qtt jP VH) Qtw) Qtw)) (xR (Cv 19 pQ) (uW pQ Qix (hY PW H! (jA PV (iC B0 Qtx) jP (fv [pe (cn F8 (mE AX gS gS gS gS Qtx))]) PU (cE PS (gI B0 Q0 jP Qty) (iC B0 Qtx) jP Qty) (eX (gR VJ Qhv) (iC B0 (I1 VJ BD)) jP (fv [lT (cn F8 (mE Nn Gj U7 Qsa Qsb (I1 VJ BD)))])))) pQ 21 (hY PW H! (pb PV (xR PU (gg PS jP) (mR VJ Qa) IE (s5 Qt0 (gR VJ (.add Q0 Qt0)) (sp (s9 Qt0) VH (fv [lT (cn F8 (mE Nn Gj U7 Qsa Qsb (ua (jX VJ (.add Q0 Qt0)) Q0)))])))))) (ff pQ (.lit 22) (hY PW Nv (cE PV (hY B0 IE Qsw) PU (sp PS (hY Qr7 IE VH) Qt1) Qt1)) pQ Qiu (hY PW Nv (cE PV Qt2 PU (sp PS Qt3 Qt4) Qt4)) Qss)) PW Ns (cE PV (cE Qt5 (jk Qtk (gQ Qim IE) Qt2) Qt6 jP Qti) PU (qo PS Qt5 (jk Qtk (gQ Qim IE) Qt3) (qf Qt6 (nz Qsy Qsx IE Qsz) Qr7 VH jP) Qt7) Qt7)))) PW nZ (cE PV (cE Qq7 (jA s_ Qq8 jP (jR Qrd Qt9) r? Qti Qti) Qrn (sp Qro (cE s_ (cE Qrp (lh Qub [Quc]) Qub (fv [jF Qrw (kr KL AX Qru)]) jP) r? Quf Quf) Quk) Quk) PU (qo PS Qq8 (cE s_ Qte r? VH VH) (cE Qq7 (cE s_ Qt9 r? VH VH) Qrn (sp Qro (cE s_ (lh Qub [jF Quc Qsh]) r? Qul Qul) Qun) Qun) Qur) Qur)))) jP) jP)) kI
def DU:=oV 1450 C4 (jB 100 C4 100 C4 0 (qo Qq0 (s9 Qc) kI (ju 23251 [Qo,Qa,Qf,Qb,Qm,cK,eQ 1450 C4,iq 1450 C4]) kI) kI)
abbrev Qus:=mR Qf Qb
abbrev VF:=[Qo,Qm,eK,ib,eQ 2100 [Qus,C5]]
abbrev Aa a0 a1:=rr 1850 a0 a1
abbrev rZ a0 a1:=mk (Aa a0 a1)
abbrev Quu:=ju 23252 [Qf,I1 gS (cn (rZ VF 2) (qp (rZ VF 3) (rZ VF 4) (rZ VF 5) (rZ VF 6) gS)),pE,Qo,Qm,cK,dv,eQ 1850 VF,Aa VF 1]
abbrev Quv:=[Qo,Qm,Qh]
abbrev Quw:=eQ 2100 [dv,Q0]
abbrev Qux:=jX cK Qe7
abbrev Quy:=[Qo,Qm,Qk]
abbrev YP a0 a1:=rr 2150 a0 a1
abbrev iJ a0:=YP a0 0
abbrev Quz:=iJ Quy
abbrev iI a0:=YP a0 1
abbrev Qu0:=iI Quy
abbrev kE a0:=YP a0 2
abbrev rk a0 a1:=oV 2150 a0 a1
abbrev ai0 a0 a1 a2 a3:=gO 23150 a0 a1 a2 a3
abbrev vM a0 a1 a2:=ai0 a0 23150 a1 a2
abbrev Qu1:=rk Quy (eX (oG 2150 Quy 2) (gQ (kE Quy) Quw) jP (gO 2050 [Quz,Qu0,Quz,Qu0] 2050 [Quz,Qu0,Quz,Qu0] (gO 1500 [Qo,Qm,Quz,Qu0] 1500 [Qo,Qm,Quz,Qu0] (vM Quy Quy kI))))
abbrev Qu2:V:=.lit 3518437208883
abbrev Qu3:=[Qo,Qm,Qux]
abbrev Qu4:=kE Qu3
abbrev Qu5:=[Qo,Qm,jX Qux Qu4]
abbrev Qu6:=[iJ Qu3,iI Qu3,iJ Qu5,iI Qu5]
abbrev Qu7:=[Qo,Qm,iJ Qu3,iI Qu3]
abbrev Qu8:=jX cK KO
abbrev Qu9:=[Qo,Qm,Qu8]
abbrev Qva:=kE Qu9
abbrev Qvb:=[Qo,Qm,jX Qu8 Qva]
abbrev Qvc:=[iJ Qu9,iI Qu9,iJ Qvb,iI Qvb]
abbrev Qvd:=[Qo,Qm,iJ Qu9,iI Qu9]
abbrev Qve:=jB 2150 Quv 2150 Quv 2 (vM Quv Quv (oV 2100 [dv,Q0] (rp (s9 Quw) (hZ (kE Quv) Quw) (gI Qe7 KO (sp (s7 Qux) Qu1 (jR (gR Qux Qu2) (rk Qu3 (rX (gR Qux Qu4) Qu4 (rk Qu5 (nz (gQ Qu4 Quw) (kE Qu5) Qu4 (gO 2050 Qu6 2050 Qu6 (gO 1500 Qu7 1500 Qu7 (vM Qu5 Qu5 kI))))))))) (rJ (gQ KO KO) (sp (s7 Qu8) Qu1 (jR (gR Qu8 Qu2) (rk Qu9 (rX (gR Qu8 Qva) Qva (rk Qvb (nz (gQ Qva Quw) (kE Qvb) Qva (gO 2050 Qvc 2050 Qvc (gO 1500 Qvd 1500 Qvd (vM Qvb Qvb kI)))))))))))))) jP
def rI:=gI Qb tu (gI Qb (.lit 150) (rJ NR (oV 2100 [Qus,C5] (oV 1850 VF (ff (Aa VF 7) mb Quu (Aa VF 7) pR Quu (ju 23251 [Qf,pE,Qo,Qm,cK,dv,eQ 1850 VF,Aa VF 1]))))) Qve) Qve
abbrev VE:=[Qm,cK,ib,jo,eQ 2100 [BE,KO]]
abbrev Qvg:=eO (xQ Qc 3518437208882) 23252 [Qf,I1 Qb (cn (rZ VE 2) (qp (rZ VE 3) (rZ VE 4) (rZ VE 5) (rZ VE 6) gS)),NS,Qm,cK,dv,eK,eQ 1850 VE,Aa VE 1]
abbrev Qvh:=[Qm,cK,Qb]
abbrev Qvi:=eQ 2100 [eK,iH Qc]
abbrev Qvj:=jX Qb Qvi
abbrev Qvk:=[Qm,cK,Qvj]
abbrev Qvl:=kE Qvk
abbrev Qvm:=jX dv Qe7
abbrev Qvn:=[Qm,cK,Qk]
abbrev Qvo:=iJ Qvn
abbrev Qvp:=iI Qvn
abbrev Qvq:=rk Qvn (eX (oG 2150 Qvn 2) (gQ (kE Qvn) Qvi) jP (gO 2050 [Qvo,Qvp,Qvo,Qvp] 2050 [Qvo,Qvp,Qvo,Qvp] (gO 1500 [Qm,cK,Qvo,Qvp] 1500 [Qm,cK,Qvo,Qvp] (vM Qvn Qvn kI))))
abbrev Qvr:=[Qm,cK,Qvm]
abbrev Qvs:=kE Qvr
abbrev Qvt:=[Qm,cK,jX Qvm Qvs]
abbrev Qvu:=[iJ Qvr,iI Qvr,iJ Qvt,iI Qvt]
abbrev Qvv:=[Qm,cK,iJ Qvr,iI Qvr]
abbrev Qvw:=jX dv (ln dv)
abbrev Qvx:=[Qm,cK,Qvw]
abbrev Qvy:=kE Qvx
abbrev Qvz:=[Qm,cK,jX Qvw Qvy]
abbrev Qv0:=[iJ Qvx,iI Qvx,iJ Qvz,iI Qvz]
abbrev Qv1:=[Qm,cK,iJ Qvx,iI Qvx]
abbrev Qv2:=[Qm,cK,jX Qvj Qvl]
abbrev Qv3:=[iJ Qvk,iI Qvk,iJ Qv2,iI Qv2]
abbrev Qv4:=[Qm,cK,iJ Qvk,iI Qvk]
abbrev Qv5:=rX (gR Qvj Qvl) Qvl (yC 2150 Qv2 (hZ (kE Qv2) Qvl) (gO 2050 Qv3 2050 Qv3 (gO 1500 Qv4 1500 Qv4 (vM Qv2 Qv2 kI))) jP)
abbrev Qv6:=gR Qvj (.lit 1000000)
abbrev Qv7:=qj Qvj Qvm
abbrev Qv8:=[Qm,cK,Qv7]
abbrev Qv9:=kE Qv8
abbrev Qwa:=[Qm,cK,jX Qv7 Qv9]
abbrev Qwb:=[iJ Qv8,iI Qv8,iJ Qwa,iI Qwa]
abbrev Qwc:=[Qm,cK,iJ Qv8,iI Qv8]
abbrev Qwd:=qj Qvj Qvw
abbrev Qwe:=[Qm,cK,Qwd]
abbrev Qwf:=kE Qwe
abbrev Qwg:=[Qm,cK,jX Qwd Qwf]
abbrev Qwh:=[iJ Qwe,iI Qwe,iJ Qwg,iI Qwg]
abbrev Qwi:=[Qm,cK,iJ Qwe,iI Qwe]
abbrev Qwj:=yC 2150 Qvh (hZ (kE Qvh) Qc) (vM Qvh Qvh (oV 2100 [eK,iH Qc] (rX (gQ Qc Qvi) Qvi (yC 2150 Qvk (hZ Qvl Qvi) (oV 23150 Qvk (nM (iG 23150 Qvk) (s7 Qvj) (qo (iC Qe7 dv) (s7 Qvm) Qvq (jR (gR Qvm Qu2) (rk Qvr (rX (gR Qvm Qvs) Qvs (rk Qvt (nz (gQ Qvs Qvi) (kE Qvt) Qvs (gO 2050 Qvu 2050 Qvu (gO 1500 Qvv 1500 Qvv (vM Qvt Qvt kI)))))))) (rJ (iC (ln dv) dv) (sp (s7 Qvw) Qvq (jR (gR Qvw Qu2) (rk Qvx (rX (gR Qvw Qvy) Qvy (rk Qvz (nz (gQ Qvy Qvi) (kE Qvz) Qvy (gO 2050 Qv0 2050 Qv0 (gO 1500 Qv1 1500 Qv1 (vM Qvz Qvz kI))))))))))) (eX (gR Qvj Qu2) (iC Qe7 dv) (sp (s7 Qvm) Qv5 (jR (gR Qvm (.lit 3518436208883)) (jR Qv6 (rk Qv8 (rX (gR Qv7 Qv9) Qv9 (rk Qwa (nz (gQ Qv9 Qvi) (kE Qwa) Qv9 (gO 2050 Qwb 2050 Qwb (gO 1500 Qwc 1500 Qwc (vM Qwa Qwa kI)))))))))) (rJ (iC (ln dv) dv) (sp (s7 Qvw) Qv5 (jR (gR Qvw (.lit 3518436208883)) (jR Qv6 (rk Qwe (rX (gR Qwd Qwf) Qwf (rk Qwg (nz (gQ Qwf Qvi) (kE Qwg) Qwf (gO 2050 Qwh 2050 Qwh (gO 1500 Qwi 1500 Qwi (vM Qwg Qwg kI)))))))))))))) jP)))) jP
def lW:=sp v? (gI Qo (.lit 150) (rJ IG (oV 2100 [BE,KO] (oV 1850 VE (ff (Aa VE 7) mb Qvg (Aa VE 7) pR Qvg (ju 23252 (Ej [dv,eK,eQ 1850 VE,Aa VE 1])))))) Qwj) Qwj
def abJ:=yC 5400 F? (qX (rr 5400 F? 3)) (ou [eQ 5400 F?,iq 5400 F?,rr 5400 F? 2,Qa]) (ou [eQ 5400 F?,iq 5400 F?,rr 5400 F? 2,Q0])
abbrev Qwk:=rU dv
def abI:=cE (qX Qwk) (ou [Qwk,eK,Qa]) (gQ Qix cK) (ou [Qwk,eK,Qa]) (ju 5051 [cK,Qm,C5,Qa,Qwk,eK,Qf,Qb,Qo])
abbrev XL (l:List V):=Qfd::(ce 1 Qs)::Qff::(ce 3 Qs)::l
abbrev Qwl:List V:=XL [Qkh,cK,dv]
abbrev Qwm:=uT ib
abbrev VD:=ou [cK,dv,Qa]
abbrev Qwo:=ou [cK,dv,Q0]
def WI:=mW Qp (uS (jB 5050 Qwl 5050 Qwl 2 (ou [eQ 5050 Qwl,iq 5050 Qwl,Qa]) (ju 5051 (Bg [Q1,eQ 5050 Qwl,iq 5050 Qwl,eK,ib,jo])))) eK Q0 (sp (s9 Qc) (qo (hZ Qwm gS) Qkl VD Qwo VD) VD) (ff eK mb (sp (s9 Qc) (cE Qkl VD (gQ jo dv) (jB 12900 [ib,Qa] 12900 [ib,Qa] 0 VD (jR (oF 12900 [ib,Qa]) Qwo)) VD) VD) eK pR (sp Nq (ff Qc Q0 (sp (hZ Qwm Qoc) Qwo VD) Qc mb (sp (hZ Qwm Qod) Qwo (ff Qwm Qoc Qwo Qwm Qoe Qwo (ff Qwm Qof Qwo Qwm Qog Qwo VD))) VD) VD) VD)
def abH:=ju 5101 C4
def ahv:=ou [Qb]
def abG:=ju 5151 C4
def ahu:=ou [Qf,Qb,Q0]
def abF:=ju 5201 C4
def aht:=ou [Q0,Qf,Qb,Q0]
def abE:=ju 5251 [Qb,Qf,tu,Qa,Qo]
abbrev Qwp:=Cv 1000 (iH cK)
abbrev Qwq:=Ew 1150 (XL [])
abbrev Qwr:=iG 1150 (XL [])
abbrev Qws:=[ce 3 Qs,Qkh,iH cK]
abbrev Qwt:List V:=Bg [Q1,eQ 5450 Qws]
def WH:=iB Qp (uS (rJ Qwp (lj (gQ Qix Qf) Qwq (rJ Qwr (oV 5450 Qws (ju 5251 Qwt)))))) [cK,Qb]
def abD:=ju 5301 [Qf,Qa,Qb,Qo,Qm]
abbrev Qwv:=[ce 3 U8,Qm,cK]
abbrev Qww:=jB 5500 Qwv 5500 Qwv 2 (ou [Qo,eQ 5500 Qwv,iq 5500 Qwv,Qa]) (ju 5301 [Qf,pE,Qo,eQ 5500 Qwv,iq 5500 Qwv])
def WG:=iB Qpi (nL NR Qpj (rS (gH U8)) (qf (vN cK U9) (ou [Qo,Qm,cK,Qa]) (nm (xP cK U9)) (ou [Qo,Qm,cK,Qa]) Qww) Qww) [Qo,Qm,cK,Q0]
def abC:=ju 5351 [Qf,Qa,Qb,Q0,Qo,Qm]
abbrev Qwx:=ou [Qo,Qm,cK,dv,Qa]
abbrev Qwy:=[ce 3 U8,Qm,cK,dv]
abbrev Qwz:=jB 5600 Qwy 5600 Qwy 3 (ou [Qo,eQ 5600 Qwy,iq 5600 Qwy,rr 5600 Qwy 2,Qa]) (ju 5351 [Qf,pE,Qo,eQ 5600 Qwy,iq 5600 Qwy,rr 5600 Qwy 2])
def WE:=iB Qpi (nL NR Qpj (rS (gH U8)) (qf (vN dv U9) Qwx (nm (xP dv U9)) Qwx Qwz) Qwz) [Qo,Qm,cK,dv,Q0]
def abB:=ju 5401 [Qf,tu,Qa,Qb,Qo,Qm]
def WD:=qt (rT (jB 800 [Nu,NQ,PZ,Qf9,KO] 800 [Nu,NQ,PZ,Qf9,KO] 0 (ou [Qm,cK,dv,Qo]) (ju 5401 (Ej [dv])))) [Qm,cK,dv,Va]
def abA:=ju 5451 [Qb,Qf,tu,Qa,Qo]
def abz:=iB Qp (uS (rJ Qwp (lj (gQ Qix Qf) Qwq (rJ Qwr (oV 5450 Qws (ju 5451 Qwt)))))) [cK]
def aby:=ju 5501 [Qf,tu,Qa,Qb,Qo]
abbrev Qw0:=[Qf9,Qm,cK]
abbrev Qw1:=jB 5500 Qw0 5500 Qw0 2 (ou [eQ 5500 Qw0,iq 5500 Qw0,Qa]) (ju 5501 (nv [eQ 5500 Qw0,iq 5500 Qw0]))
def abx:=qt (nL IG v? (rS Nu) (qf (vN cK NQ) Qol (nm (xP cK NQ)) Qol Qw1) Qw1) [Qm,cK,Q0]
def ahs:=ju 5551 [Qf,tu,Qa,Q0,Qb,Qo]
abbrev Qw2:=vN dv NQ
abbrev Qw3:=ou [Qm,cK,dv,Qa]
abbrev Qw4:=s9 (nm (xP dv NQ))
abbrev Qw5:=[Qf9,Qm,cK,dv]
abbrev Qw6:=oG 5600 Qw5 3
abbrev Qw7:=ou [eQ 5600 Qw5,iq 5600 Qw5,rr 5600 Qw5 2,Qa]
abbrev Qw8:List V:=nv [eQ 5600 Qw5,iq 5600 Qw5,rr 5600 Qw5 2]
abbrev Qw9:=yC 5600 Qw5 Qw6 Qw7 (ju 5551 Qw8)
def ahr:=qt (nL IG v? (rS Nu) (cE Qw2 Qw3 Qw4 Qw3 Qw9) Qw9) [Qm,cK,dv,Q0]
def abw:=ju 5601 [Qf,tu,Qa,Qb,Qo,Qm]
abbrev Qxa:=yC 5600 Qw5 Qw6 Qw7 (ju 5601 Qw8)
def abv:=qt (nL IG v? (rS Nu) (cE Qw2 Qw3 Qw4 Qw3 Qxa) Qxa) [Qm,cK,dv,Q0]
abbrev Ow (l:List V):=Qf::Qb::Qo::Qm::cK::dv::eK::ib::jo::kb::qN::oP::AY::l
abbrev VC:List V:=Ow []
abbrev Qxc:=rr 12050 VC 14
abbrev XK (l:List V):=Qa::Qf::Qb::Qo::Qm::cK::dv::eK::ib::jo::kb::qN::l
abbrev rm a0:=ou (XK a0)
abbrev Qxd:=rm [oP,AY]
def Od:=oV 12050 VC (eX (iG 12050 VC) (hZ Qxc Va) Qxd (ju 12001 (Ow [Qf,Qxc,iH Qxc])))
abbrev Qxe:=hZ (mR sk IF) Qb
abbrev Qxf:List V:=Ow [sk,wu,iH IF]
abbrev Qxg:=qX wu
abbrev Qxh:=iH wu
abbrev Qxi:List V:=Ow [qi sk wu (mk (mR sk IF)),Qxh,iH IF]
abbrev XJ (l:List V):=Q0::Qf::Qb::Qo::Qm::cK::dv::eK::l
abbrev Qxj:=R4 Qxg (gQ v_ wu) (rj (.sub v_ wu) (hZ (.add wu (.sub v_ wu)) v_) (ou (XJ [ib,jo,kb,qN,oP,AY,wu,.op .fill sk (cn (mk wu) gS),v_])))
def IX:=gI IF v_ (rJ (qX IF) (sp Qxe (ju 12001 Qxf) (rJ Qxg (eO (gQ wu v_) 12001 Qxi)))) Qxj
abbrev Qxk:List V:=Ow [tu,Qa]
def Xc:=ju 12051 Qxk
abbrev Qxl:=hZ (mR Qf wu) Qb
abbrev Qxm:=rm [oP,AY,wu]
abbrev Qxn:List V:=Ow [sk,Qxh]
abbrev Qxo:=rm [oP,AY,Va]
def IW:=gI wu sk (nL Qxg (qg wu) Qxl Qxm (ju 12051 Qxn)) Qxo
abbrev Qxp:=rr 12150 VC 14
def Oc:=oV 12150 VC (eX (iG 12150 VC) (hZ Qxp Va) Qxd (ju 12101 (Ow [Qf,Qxp,iH Qxp])))
def IV:=gI IF v_ (rJ (qX IF) (sp Qxe (ju 12101 Qxf) (rJ Qxg (eO (gQ wu v_) 12101 Qxi)))) Qxj
def Xb:=ju 12151 Qxk
def IU:=gI wu sk (nL Qxg (qg wu) Qxl Qxm (ju 12151 Qxn)) Qxo
def Xa:=pq 12250 VC 12250 VC Qxd
def W9:=ju 12251 VC
def W8:=rm [oP,AY]
def W7:=pq 12350 VC 12350 VC Qxd
def W6:=ju 12351 VC
def W5:=rm [oP,AY]
abbrev Qxq:=Ew 1400 [Qf,Qmr,Qb,gS,Qo]
abbrev Qxr:=iG 1400 [Qf,Qmr,Qb,gS,Qo]
abbrev V' (l:List V):=Qa::Qf::Qb::Qo::Qm::cK::dv::eK::l
abbrev VB:=ou (V' [])
abbrev Qxt:=gQ Qiu cK
abbrev Qxv:=Ew 1250 [cK]
abbrev Qxw:=iG 1250 [cK]
abbrev Qxx:=Ew 1300 [cK]
abbrev Qxy:=iG 1300 [cK]
abbrev Qx0:=jR (Ew 5100 [mb,Q0]) (ou (XJ []))
abbrev Qx1:=Ew 1000 [gS]
abbrev Qx2:=iG 1000 [gS]
def W4:=jR Qxq (cE Qxr VB Qe9 VB (qf Qxt VB dv (eX Qxv Qxw (eX Qxx Qxy Qx0 (eX Qx1 Qx2 VB Qx0)) VB) VB))
abbrev Qx3:=rY 98 vL
abbrev Qx4:=Ew 1400 [Q0,Qx3,Qf,gS,Qb]
abbrev Qx5:=iG 1400 [Q0,Qx3,Qf,gS,Qb]
abbrev Td:=ou (V' [ib,jo])
abbrev Qx7:=Ew 1400 [Qo,Qmr,Qm,Qx3,cK]
abbrev Qx8:=iG 1400 [Qo,Qmr,Qm,Qx3,cK]
abbrev Qx9:=gQ eK Q0
abbrev Qya:=gQ Qiu eK
abbrev Qyb:=Ew 1250 [eK]
abbrev Qyc:=iG 1250 [eK]
abbrev Qyd:=Ew 1300 [eK]
abbrev Qye:=iG 1300 [eK]
abbrev Qyf:=jR (Ew 5100 [mb,Q0]) (ou (XJ [ib,jo]))
def W3:=eX Qx4 Qx5 Td (jR Qx7 (cE Qx8 Td Qx9 Td (cE Qya Td G! (eX Qyb Qyc (eX Qyd Qye Qyf (eX Qx1 Qx2 Td Qyf)) Td) Td)))
def W2:=jR Qxq (cE Qxr VB Qe9 VB (qf Qxt VB dv (eX Qxv Qxw (eX Qxx Qxy VB Qx0) VB) VB))
def W1:=eX Qx4 Qx5 Td (jR Qx7 (cE Qx8 Td Qx9 Td (cE Qya Td G! (eX Qyb Qyc (eX Qyd Qye Td Qyf) Td) Td)))
abbrev VA:=ou (V' [ib])
abbrev Qyh:=hZ (ln eK) (eQ 1250 [cK])
abbrev Qyi:=oV 5250 [eK,mb,Q0] (ou (XJ [ib,ln eK,iq 5250 [eK,mb,Q0]]))
def Ob:=jR Qxq (cE Qxr VA Qe9 VA (qf Qxt VA dv (eX Qxv Qyh (eX Qxx Qxy Qyi (eX Qx1 Qx2 VA Qyi)) VA) VA))
abbrev Tc:=ou (V' [ib,jo,kb])
abbrev Qyk:=hZ (ln jo) (eQ 1250 [eK])
abbrev Qyl:=oV 5250 [jo,mb,Q0] (ou (XJ [ib,jo,kb,ln jo,iq 5250 [jo,mb,Q0]]))
def Oa:=eX Qx4 Qx5 Tc (jR Qx7 (cE Qx8 Tc Qx9 Tc (cE Qya Tc G! (eX Qyb Qyk (eX Qyd Qye Qyl (eX Qx1 Qx2 Tc Qyl)) Tc) Tc)))
def N9:=jR Qxq (cE Qxr VA Qe9 VA (qf Qxt VA dv (eX Qxv Qyh (eX Qxx Qxy VA Qyi) VA) VA))
def N8:=eX Qx4 Qx5 Tc (jR Qx7 (cE Qx8 Tc Qx9 Tc (cE Qya Tc G! (eX Qyb Qyk (eX Qyd Qye Tc Qyl) Tc) Tc)))
def W0:=ju 12801 [Qf,Qb,Qb]
abbrev Qym:=mR (.eD b0) BE
abbrev Qyn:V:=.op .idx (.op .sub Qf (s6 yN tu gS)) Qig
def N7:=iB v? (rJ IG (rj BE (gQ BE Qn4) (ff Qym Q0 (ju 12801 (nv [])) Qym mb (rJ (qg tu) (ri (qX Qyn) (ou (zt [tu])) 12801 [Qf,Qb,ry Qo Qyn])) (ou (zt [Qo]))))) (zt [Qo])
abbrev Qyo:=ry Qb mb
abbrev Qyp:=uT (.op .sub Qf (s6 IA tu gS))
abbrev Qyq:=rY 45 (qpx 62 vL)
abbrev Qyr:=ou (zt [iH pE])
abbrev Qys:=uT (.op .sub Qf (s6 IA Qyo gS))
def WZ:=lj NR (qg Qb) (nL (qX Qus) (gQ Qus Qn4) (hZ (mR (.eD b0) Qus) IH) (gI tu Qyo (rJ (qg tu) (ff Qyp Qyq Qyr Qyp Qof Qyr (ou (zt [pE])))) (rJ (gQ Qyo Qb) (ff Qys Qyq Qyr Qys Qof Qyr (ou (zt [pE]))))) (ju 12851 [Qf,Qb,mR (.eD b0) Qus,pE]))
abbrev Qyt:=mR (.eD b0) (nm K0)
abbrev Qyu:=ou (zt [Qm])
def N6:=gI Qm tu (rJ Qq (rj (nm K0) (gQ (nm K0) Qn4) (ff Qyt pR (ju 12851 Qfp) Qyt nZ (sp (hZ Qo nZ) (ju 12851 Qfp) Qyu) Qyu))) Qyu
abbrev Qyv:=ce 2 (el Qb Qo)
abbrev Qyw:=el Qyv dv
abbrev E?:=gH Qyw
abbrev Qyy:=oE (ce 6 Qyw)
abbrev Qyz:=el (ce 6 Qyw) Qa
abbrev Qy0:=[gH Qyz,ce 1 Qyz,hU Qyz,ce 3 Qyz,eK]
abbrev Qy1:=Ew 1950 Qy0
abbrev Qy2:=kj Qyw
abbrev Qy3:=iC Qy2 eK
abbrev Qy4:=iG 1950 Qy0
abbrev Qy5:=rm [j7 Qyw,eK]
def vh:=vP w_ (jR Qfr (lj VQ (iC dv Qyv) (ff E? pR (jR Qyy (jR Qy1 (rj Qy2 Qy3 (rm [Qfj,qi eK Qy2 (mk (eQ 1950 Qy0))])))) E? nZ (jR Qyy (eX Qy1 Qy4 Qy5 (rm [Qfj,eK]))) (ff E? IH Qy5 E? GD (rj Qy2 Qy3 (rm [Qfj,qi eK Qy2 (mk (Cm 5 Qyw))])) (jR (hZ E? Ns) (nL (qX Qy2) Qy3 (gQ Qa (mR eK Qy2)) (rm [Qfj,qi eK Qy2 (mk (rU (mR eK Qy2)))]) Qy5))))))
abbrev Qy6:=[Qf,Qb,ib,Qo,Qm,cK,dv,eK]
abbrev Qy7:=rr 400 Qy6 6
abbrev Qy8:=el Qyv kb
abbrev Qzb:=rr 400 Qy6 2
abbrev E!:=rr 400 Qy6 4
abbrev Qze:=qX (kj Qy8)
abbrev Vz:=hZ Qy7 pR
abbrev Qzg:=iq 400 Qy6
abbrev U6:=rr 400 Qy6 3
abbrev Qzi:=rr 400 Qy6 5
abbrev Qzj:=eQ 400 Qy6
abbrev Qzk:=iH kb
abbrev akc (l:List V):=Qa::Qf::Qb::Qo::Qm::cK::dv::eK::ib::jo::kb::qN::oP::AY::sk::wu::Qzg::Qzb::U6::E!::Qzi::Qy7::Qzj::l
abbrev mS a0:=ou (akc a0)
abbrev Qzl:=mS [Qzk,qN,H_,U6,sk,Qa]
abbrev Qzm:=mS [Qzk,qN,oP,AY,sk,Qa]
abbrev Qzn:=iC (kj Qy8) qN
abbrev Qzo:=qi qN (kj Qy8) (mk E!)
abbrev Qzp:=mS [Qzk,Qzo,H_,U6,sk,Qa]
abbrev Qzq:=mS [Qzk,Qzo,oP,AY,sk,Qa]
abbrev Qzr:=j7 Qy8
abbrev Qzs:=mS [Qzr,qN,H_,U6,sk,Qa]
abbrev Qzt:=mS [Qzr,qN,oP,AY,sk,Qa]
abbrev Qzu:=mS [Qzr,Qzo,H_,U6,sk,Qa]
abbrev Qzv:=mS [Qzr,Qzo,oP,AY,sk,Qa]
abbrev Qzw:=pw Qzb 15
abbrev Qzx:=qo Vz Qzw (mS [Qzk,qN,G?,U6,E!,Qa]) Qzl Qzm
abbrev Ua (l:List V):=oP::AY::sk::wu::Qa::Qa::Qa::Qa::Qa::Qy7::ib::kb::l
def fy:=oV 400 Qy6 (vP (iC Qo jo) (qf (s9 Qy7) (iB (hZ Qm nZ) (iB (gQ Qjq Qxh) (rm (Ua [qN,oP,AY,sk,Qjq])) (XK (Ua [qN,oP,AY,sk,Qxh]))) (XK (Ua [qN,oP,AY,sk,wu]))) oP (jR Qfr (nL Qk1 (iC kb Qyv) (ru (gH Qy8)) (cE (hZ (Cm 1 Qy8) Nr) (cE (hZ Qzb Nr) (jA (ru E!) Qze (sp Vz Qzl Qzm) (eX Qzn Vz Qzp Qzq) Qze (sp Vz Qzs Qzt) (eX Qzn Vz Qzu Qzv)) Qze (qo Vz Qzw (mS [Qzr,qN,G?,U6,E!,Qa]) Qzs Qzt) (eX Qzn Vz (sp Qzw (mS [Qzr,Qzo,G?,U6,E!,Qa]) Qzu) Qzv)) Qze Qzx (eX Qzn Vz (sp Qzw (mS [Qzk,Qzo,G?,U6,E!,Qa]) Qzp) Qzq)) Qzx)) (mS [kb,qN,Qa,Qa,Qa,Qa])))
abbrev Qzy:=rm [j7 Qyw]
def IT:=vP w_ (jR Qfr (nL VQ (iC dv Qyv) (hZ E? pR) (jR Qyy (jR Qy1 fl)) (ff E? nZ (jR Qyy (eX Qy1 Qy4 Qzy (rm [Qfj]))) E? IH Qzy (lj (hZ E? GD) (hZ E? Ns) fl))))
abbrev Qzz:=mS [Qzk,H_,U6,sk,Qa]
abbrev Qz0:=mS [Qzk,oP,AY,sk,Qa]
abbrev Qz1:=mS [Qzr,H_,U6,sk,Qa]
abbrev Qz2:=mS [Qzr,oP,AY,sk,Qa]
abbrev Qz3:=qo Vz Qzw (mS [Qzk,G?,U6,E!,Qa]) Qzz Qz0
def jv:=oV 400 Qy6 (vP (iC Qo jo) (qf (s9 Qy7) (iB (hZ Qm nZ) (iB (gQ Qjq Qxh) (rm (Ua [oP,AY,sk,Qjq])) (XK (Ua [oP,AY,sk,Qxh]))) (XK (Ua [oP,AY,sk,wu]))) oP (jR Qfr (nL Qk1 (iC kb Qyv) (ru (gH Qy8)) (sp (hZ (Cm 1 Qy8) Nr) (qo (hZ Qzb Nr) (ru E!) (eX Qze Vz Qzz Qz0) (eX Qze Vz Qz1 Qz2) (eX Qze Vz (sp Qzw (mS [Qzr,G?,U6,E!,Qa]) Qz1) Qz2)) (jR Qze Qz3)) Qz3)) (mS [kb,Qa,Qa,Qa,Qa])))
def WY:=jB 1000 Qj 1000 Qj 0 Qbb Qd1
end
theorem Zy:S.tree 9000=Li:=ee
theorem MN:S.tree 9001=sD:=ee
theorem acH:S.tree 9002=abu:=ee
theorem acG:S.tree 9003=abt:=ee
theorem Zx:S.tree 9004=WC:=ee
theorem Zw:S.tree 9005=WB:=ee
theorem Zv:S.tree 9006=WA:=ee
theorem Zu:S.tree 9007=Wz:=ee
theorem Zt:S.tree 9050=sC:=ee
theorem Zs:S.tree 9051=Wy:=ee
theorem Zr:S.tree 9052=Wx:=ee
theorem Zq:S.tree 9053=Ww:=ee
theorem acF:S.tree 9054=abr:=ee
theorem acE:S.tree 9055=ahk:=ee
theorem acD:S.tree 9056=ahj:=ee
theorem acC:S.tree 9057=abq:=ee
theorem acB:S.tree 9058=ahi:=ee
theorem acA:S.tree 9059=ahh:=ee
theorem MM:S.tree 9060=B5:=ee
theorem acz:S.tree 9061=abp:=ee
theorem acy:S.tree 9062=abo:=ee
theorem ML:S.tree 9063=B4:=ee
theorem acx:S.tree 9064=abn:=ee
theorem acw:S.tree 9065=abm:=ee
theorem MK:S.tree 9066=B3:=ee
theorem acv:S.tree 9067=abl:=ee
theorem acu:S.tree 9068=abk:=ee
theorem Zp:S.tree 9069=Wv:=ee
theorem Zo:S.tree 9070=Wu:=ee
theorem Zn:S.tree 9071=Wt:=ee
theorem Zm:S.tree 9072=Ws:=ee
theorem Zl:S.tree 9073=Wr:=ee
theorem Zk:S.tree 9074=Wq:=ee
theorem ajv:S.tree 100=t100:=ee
theorem aaP:S.tree 101=t101:=ee
theorem aaO:S.tree 102=t102:=ee
theorem af4:S.tree 103=t103:=ee
theorem af3:S.tree 150=t150:=ee
theorem aaN:S.tree 151=t151:=ee
theorem af2:S.tree 200=t200:=ee
theorem Km:S.tree 201=t201:=ee
theorem aaM:S.tree 202=t202:=ee
theorem af1:S.tree 250=t250:=ee
theorem aaL:S.tree 251=t251:=ee
theorem aaK:S.tree 300=P':=ee
theorem af0:S.tree 301=TJ:=ee
theorem afZ:S.tree 302=aer:=ee
theorem aaJ:S.tree 350=P_:=ee
theorem aaI:S.tree 351=TG:=ee
theorem afY:S.tree 400=jD:=ee
theorem ajr:S.tree 450=ahw:=ee
theorem afX:S.tree 451=aeq:=ee
theorem afW:S.tree 452=aep:=ee
theorem afV:S.tree 453=aeo:=ee
theorem afU:S.tree 454=aen:=ee
theorem afT:S.tree 455=aem:=ee
theorem afS:S.tree 456=ael:=ee
theorem aaH:S.tree 500=WJ:=ee
theorem UT:S.tree 501=N5:=ee
theorem ajq:S.tree 550=O?:=ee
theorem afR:S.tree 551=aek:=ee
theorem ajp:S.tree 552=ajR:=ee
theorem ajo:S.tree 553=ajQ:=ee
theorem ajl:S.tree 600=ahq:=ee
theorem aaG:S.tree 650=O!:=ee
theorem ajk:S.tree 700=ahp:=ee
theorem ajj:S.tree 750=aho:=ee
theorem aji:S.tree 800=ahn:=ee
theorem ajh:S.tree 850=ahm:=ee
theorem afQ:S.tree 851=O':=ee
theorem ajg:S.tree 900=ahl:=ee
theorem ajf:S.tree 950=ahg:=ee
theorem afP:S.tree 951=aej:=ee
theorem afO:S.tree 952=aei:=ee
theorem CY:S.tree 953=qP:=ee
theorem CX:S.tree 954=qO:=ee
theorem adw:S.tree 1000=ab3:=ee
theorem adv:S.tree 1050=QM:=ee
theorem adu:S.tree 1100=ab2:=ee
theorem adt:S.tree 1101=ahG:=ee
theorem d!:S.tree 1102=Xd:=ee
theorem ads:S.tree 1150=ab1:=ee
theorem adr:S.tree 1200=ab0:=ee
theorem adq:S.tree 1250=abZ:=ee
theorem adp:S.tree 1300=abY:=ee
theorem ado:S.tree 1350=abX:=ee
theorem adn:S.tree 1400=abW:=ee
theorem ZU:S.tree 1450=WX:=ee
theorem ZS:S.tree 1451=QL:=ee
theorem ZR:S.tree 1452=QK:=ee
theorem adm:S.tree 1500=abV:=ee
theorem ZP:S.tree 1501=WW:=ee
theorem adl:S.tree 1550=abU:=ee
theorem adk:S.tree 1600=abT:=ee
theorem adj:S.tree 1650=abS:=ee
theorem adi:S.tree 1750=GN:=ee
theorem ZO:S.tree 1751=WV:=ee
theorem CH:S.tree 1850=nj:=ee
theorem adh:S.tree 1900=xD:=ee
theorem ZN:S.tree 1901=WU:=ee
theorem ZM:S.tree 1902=WT:=ee
theorem ZL:S.tree 1903=WS:=ee
theorem adg:S.tree 1904=abR:=ee
theorem adf:S.tree 1905=ahF:=ee
theorem ade:S.tree 1906=ahE:=ee
theorem adb:S.tree 1907=abQ:=ee
theorem ada:S.tree 1908=ahD:=ee
theorem ac9:S.tree 1909=ahC:=ee
theorem ZK:S.tree 1910=WR:=ee
theorem ac8:S.tree 1911=ahB:=ee
theorem ac7:S.tree 1912=ahA:=ee
theorem ZJ:S.tree 1913=WQ:=ee
theorem ac6:S.tree 1914=abP:=ee
theorem ac5:S.tree 1915=abO:=ee
theorem ZI:S.tree 1916=WO:=ee
theorem ac4:S.tree 1917=abN:=ee
theorem ac3:S.tree 1918=abM:=ee
theorem Ss:S.tree 1950=QJ:=ee
theorem Ay:S.tree 2000=za:=ee
theorem aju:S.tree 2001=ahz:=ee
theorem ajt:S.tree 2002=ahy:=ee
theorem ajs:S.tree 2003=ahx:=ee
theorem MP:S.tree 2004=Lk:=ee
theorem MO:S.tree 2005=Lj:=ee
theorem ac2:S.tree 2050=abL:=ee
theorem ZH:S.tree 2051=WN:=ee
theorem ZG:S.tree 2052=WM:=ee
theorem ac1:S.tree 2100=WL:=ee
theorem ac0:S.tree 2150=abK:=ee
theorem Sr:S.tree 2151=QI:=ee
theorem ZF:S.tree 23150=WK:=ee
theorem BP:S.tree 23151=eM:=ee
theorem ZE:S.tree 23250=DU:=ee
theorem Fx:S.tree 23251=rI:=ee
theorem v7:S.tree 23252=lW:=ee
theorem acZ:S.tree 5000=abJ:=ee
theorem acY:S.tree 5050=abI:=ee
theorem ZD:S.tree 5051=WI:=ee
theorem acX:S.tree 5100=abH:=ee
theorem acW:S.tree 5101=ahv:=ee
theorem acV:S.tree 5150=abG:=ee
theorem acU:S.tree 5151=ahu:=ee
theorem acT:S.tree 5200=abF:=ee
theorem acS:S.tree 5201=aht:=ee
theorem acR:S.tree 5250=abE:=ee
theorem ZC:S.tree 5251=WH:=ee
theorem acQ:S.tree 5300=abD:=ee
theorem ZB:S.tree 5301=WG:=ee
theorem acP:S.tree 5350=abC:=ee
theorem ZA:S.tree 5351=WE:=ee
theorem acO:S.tree 5400=abB:=ee
theorem Zz:S.tree 5401=WD:=ee
theorem acN:S.tree 5450=abA:=ee
theorem acM:S.tree 5451=abz:=ee
theorem acL:S.tree 5500=aby:=ee
theorem acK:S.tree 5501=abx:=ee
theorem ajn:S.tree 5550=ahs:=ee
theorem ajm:S.tree 5551=ahr:=ee
theorem acJ:S.tree 5600=abw:=ee
theorem acI:S.tree 5601=abv:=ee
theorem PC:S.tree 12000=Od:=ee
theorem Kp:S.tree 12001=IX:=ee
theorem d_:S.tree 12050=Xc:=ee
theorem PB:S.tree 12051=IW:=ee
theorem PA:S.tree 12100=Oc:=ee
theorem Ko:S.tree 12101=IV:=ee
theorem c!:S.tree 12150=Xb:=ee
theorem Pz:S.tree 12151=IU:=ee
theorem c_:S.tree 12200=Xa:=ee
theorem b?:S.tree 12250=W9:=ee
theorem b!:S.tree 12251=W8:=ee
theorem b_:S.tree 12300=W7:=ee
theorem a!:S.tree 12350=W6:=ee
theorem a_:S.tree 12351=W5:=ee
theorem Z9:S.tree 12400=W4:=ee
theorem Z8:S.tree 12450=W3:=ee
theorem Z7:S.tree 12500=W2:=ee
theorem Z6:S.tree 12550=W1:=ee
theorem Z5:S.tree 12600=Ob:=ee
theorem Z4:S.tree 12650=Oa:=ee
theorem Z3:S.tree 12700=N9:=ee
theorem Z2:S.tree 12750=N8:=ee
theorem Z1:S.tree 12800=W0:=ee
theorem Z0:S.tree 12801=N7:=ee
theorem ZZ:S.tree 12850=WZ:=ee
theorem ZY:S.tree 12851=N6:=ee
theorem ZW:S.tree 14000=vh:=ee
theorem ZT:S.tree 14500=fy:=ee
theorem ZV:S.tree 14050=IT:=ee
theorem ZQ:S.tree 14550=jv:=ee
theorem ZX:S.tree 12900=WY:=ee
end Go.As.Try
end
section
namespace Go.As.Try
open Go hiding Stat Spec shape
open Go.As Go.Proofs
set_option maxRecDepth 100000
structure PT where
 j:Nat
 t:T Lf
 e:S.tree j=t
def pT {j:Nat} {t:T Lf} (e:S.tree j=t):PT:=⟨j,t,e⟩
noncomputable def trees:List PT:=[pT Zy,pT MN,pT acH,pT acG,pT Zx,pT Zw,pT Zv,pT Zu,pT Zt,pT Zs,pT Zr,pT Zq,pT acF,pT acE,pT acD,pT acC,pT acB,pT acA,pT MM,pT acz,pT acy,pT ML,pT acx,pT acw,pT MK,pT acv,pT acu,pT Zp,pT Zo,pT Zn,pT Zm,pT Zl,pT Zk,pT ajv,pT aaP,pT aaO,pT af4,pT af3,pT aaN,pT af2,pT Km,pT aaM,pT af1,pT aaL,pT aaK,pT af0,pT afZ,pT aaJ,pT aaI,pT afY,pT ajr,pT afX,pT afW,pT afV,pT afU,pT afT,pT afS,pT aaH,pT UT,pT ajq,pT afR,pT ajp,pT ajo,pT ajl,pT aaG,pT ajk,pT ajj,pT aji,pT ajh,pT afQ,pT ajg,pT ajf,pT afP,pT afO,pT CY,pT CX,pT adw,pT adv,pT adu,pT adt,pT d!,pT ads,pT adr,pT adq,pT adp,pT ado,pT adn,pT ZU,pT ZS,pT ZR,pT adm,pT ZP,pT adl,pT adk,pT adj,pT adi,pT ZO,pT CH,pT adh,pT ZN,pT ZM,pT ZL,pT adg,pT adf,pT ade,pT adb,pT ada,pT ac9,pT ZK,pT ac8,pT ac7,pT ZJ,pT ac6,pT ac5,pT ZI,pT ac4,pT ac3,pT Ss,pT Ay,pT aju,pT ajt,pT ajs,pT MP,pT MO,pT ac2,pT ZH,pT ZG,pT ac1,pT ac0,pT Sr,pT ZF,pT BP,pT ZE,pT Fx,pT v7,pT acZ,pT acY,pT ZD,pT acX,pT acW,pT acV,pT acU,pT acT,pT acS,pT acR,pT ZC,pT acQ,pT ZB,pT acP,pT ZA,pT acO,pT Zz,pT acN,pT acM,pT acL,pT acK,pT ajn,pT ajm,pT acJ,pT acI,pT PC,pT Kp,pT d_,pT PB,pT PA,pT Ko,pT c!,pT Pz,pT c_,pT b?,pT b!,pT b_,pT a!,pT a_,pT Z9,pT Z8,pT Z7,pT Z6,pT Z5,pT Z4,pT Z3,pT Z2,pT Z1,pT Z0,pT ZZ,pT ZY,pT ZW,pT ZT,pT ZV,pT ZQ,pT ZX]
theorem Wi:trees.all (fun p=>NH [] p.t)=true:=aa
theorem af7:adx (HE 466 feT) 466 (trees.map PT.j)=true:=aa
theorem K? (j:Nat):NH [] (S.tree j)=true:=by
 cases h:uY St.t j with
 |none=>exact Tx (S:=St) h
 |some e=> obtain⟨p,hp,rfl⟩:=bd.1 (cov af7 (fun k hk=>X8 hk) h);rw [p.e];exact bj.1 Wi p hp
noncomputable def L:oR:=pA S.tree
theorem bM (j:Nat) (xs:List Int):L j xs=fin L (ei (df L (low xs)) (S.tree j)):=aeS K? j xs
end Go.As.Try
end
section
namespace Go.As.Try
open Go hiding Stat
open Go.As Go.Proofs Go.RowKit Go.ChangeShapes Go.WideShapes Go.ChangeAt
open Go.Proofs.YtopneoeampkonabGreatDoor
set_option maxRecDepth 100000
theorem own:ownKnob Tryz.prog.godebug=none:=aa
theorem laidOut:laidOutB Tryz.prog=true:=aa
def XM:TypeId->Option Nat:=CA (ah8.take 12)
def akd (P:Program) (own:TypeId->Option Nat) (l:List (Nat×Nat)):Bool:=l.all fun p=>match P.underlying p.1 with
 |some (.slice e)=>decide (s8 P own 8 e=some (lP p.2))&&Nat.beq (P.cellsOf e) (lP p.2).length&&Nat.ble (te p.2) (P.bytesOf e)&&Nat.ble 1 (lP p.2).length
 |_=>false
theorem H4 {t i:Nat}: ∀{l:List (Nat×Nat)},CA l t=some i->(t,i)∈l
 |[],h=>by simp [CA] at h
 |(a,k)::l,h=>by
  unfold CA at h;split at h
  ·rename_i hb;have:=az hb;simp only [an] at h;subst this h;simp
  ·exact anq _ (H4 h)
theorem X! {P:Program} {l:List (Nat×Nat)} (h:akd P (CA l) l=true):x? P (CA l):=by
 intro t i gp;have:=bj.1 h _ (H4 gp);simp only at this;split at this
 ·rename_i e he;simp only [au,decide_eq_true_eq] at this;exact⟨e,8,he,this.1.1.1,az this.1.1.2,amC this.1.2,amC this.2⟩
 ·simp at this
theorem X_:x? Tryz.prog XM:=X! aa
theorem aar {Z':World} (h:Z'.ShapedOpen Tryz.prog):base.ok (NF Z') Z'.heap:=by obtain⟨m,hm⟩:=LaysM.n144.s1_3 Tryz.laysM144 Z' h;exact⟨S3 hm,m,by rw [<- oM]; exact hm⟩
def Rr:DataW Unit->Value
 | .lit (.int k n)=> .int k n
 |_=>undef
def af9:DataW Unit->Array Value
 | .agg l=>(l.map Rr).toArray
 |d=> #[Rr d]
def aie (d:DataW Unit):Obj->Obj
 | .cells _ t f=> .cells (af9 d) t f
 |o=>o
noncomputable def aeT (h:Array Obj) (x:String×DataW Unit):Array Obj:=match Tryz.prog.globalNamed x.1 with
 |some g=>h.modify g (aie x.2)
 |none=>h
noncomputable def Br (os:Os):World:=
 { World.holding Tryz.prog os ⟨#[],#[],[]⟩ with heap:=Rows.systemSoundRow.laid.foldl aeT (World.holding Tryz.prog os ⟨#[],#[],[]⟩).heap }
theorem AG {ro:Nat->Prop} {h:Array Obj} {i:Nat} {d:D} {v:Value} (r:Rd ro h (.sl i) d v):uZ ro h (.sl i) (enc d) v:=by show Rd ro h (.sl i) (dec (enc d)) v;rw [bC];exact r
theorem p_ {ro:Nat->Prop} {h:Array Obj} {u:Value} (a:abe [.one .bool] [1] ro h u):u= .bool true:=by
 obtain⟨us,fl,hs,hc,hu⟩:=a
 cases hs with
 |one c v hs=> cases hs;simp only [px,RK.flat,amy,aW,aw] at hc;obtain⟨n,A?,u',gX,U,Z,h3,h4⟩:=hc;simp only [List.cons.injEq] at U Z;obtain⟨rfl,_⟩:=U;obtain⟨rfl,_⟩:=Z;rw [hu];exact h3
theorem l_ {g j:Nat} {e:AZ} (hn:j∈S.CT g) (he:S.bT j=some e) (hp:e.pat=none) (hr:e.lY= [.one .bool]) {xs:List Int} (hL:L j xs=some [1]) {Z':World} (yR:Z'.ShapedOpen Tryz.prog) {vals fl:List Value} (U:Shape e.F4 vals fl) (Z:iz (NF Z') Z'.heap (px e.F4) xs fl) :
 Calls Tryz.prog g vals.toArray Z' fun en W'=>en= .returned (.bool true)/\Below Z'.heap.size Z' W':=by
 obtain⟨n,mD⟩:=Js hL;refine (Xe aes hn he hp n xs [1] mD (NF Z') Z' vals fl (fun _ h=>h) (aar yR) U Z).mono fun en W' ⟨u,hu,hb,n6,_,_,_,ha⟩=>?_;rw [hr] at ha;rw [p_ ha] at hu;exact⟨hu,hb⟩
end Go.As.Try
end
section
namespace Go.As
def prune (Z_ N:List SB):T Lf->T Lf
 | .fail=> .fail
 | .ret l=> .ret l
 | .split c x y=>match Z_.contains c with
   |true=>prune Z_ N x
   |false=>match N.contains c with
    |true=>prune Z_ N y
    |false=> .split c (prune Z_ N x) (prune Z_ N y)
def zY (ρ:Nat->Int):List SB->Prop
 |[]=>True
 |c::l=>c.den ρ=true/\zY ρ l
def zW (ρ:Nat->Int):List SB->Prop
 |[]=>True
 |c::l=> ¬c.den ρ=true/\zW ρ l
theorem V0 {ρ:Nat->Int}: ∀{l:List SB},zY ρ l->∀c∈l,c.den ρ=true
 |[],_,c,h=>by simp at h
 |a::l,hz,c,h=>by
  rcases aF.1 h with rfl|h
  ·exact hz.1
  ·exact V0 hz.2 c h
theorem V3 {ρ:Nat->Int}: ∀{l:List SB},zW ρ l->∀c∈l,c.den ρ=false
 |[],_,c,h=>by simp at h
 |a::l,hz,c,h=>by
  rcases aF.1 h with rfl|h
  ·simpa using hz.1
  ·exact V3 hz.2 c h
theorem V1 {ρ:Nat->Int}: ∀{a b:List SB},zY ρ a->zY ρ b->zY ρ (a++b)
 |[],_,_,h=>h
 |_::_,_,h,h'=> ⟨h.1,V1 h.2 h'⟩
theorem V4 {ρ:Nat->Int}: ∀{a b:List SB},zW ρ a->zW ρ b->zW ρ (a++b)
 |[],_,_,h=>h
 |_::_,_,h,h'=> ⟨h.1,V4 h.2 h'⟩
theorem dN {ρ:Nat->Int} {Z_ N:List SB} (h:zY ρ Z_/\zW ρ N): ∀t,ei ρ (prune Z_ N t)=ei ρ t
 | .fail=>rfl
 | .ret l=>rfl
 | .split c x y=>by
   simp only [prune,ei];split
   ·rename_i h';rw [V0 h.1 c (aoo.1 h'),ak rfl];exact dN h x
   ·split
    ·rename_i h';rw [V3 h.2 c (aoo.1 h'),ah ad];exact dN h y
    ·simp only [ei,dN h x,dN h y]
theorem bW {ρ:Nat->Int} (Z_ N:List SB) {t:T Lf} {R:RS} (u:T Lf) (h:zY ρ Z_/\zW ρ N) (k:prune Z_ N t=u) (h':ei ρ u=R):ei ρ t=R:=by rw [<- dN h t,k,h']
theorem zz :
 (∀{ρ:Nat->Int} (c:SB) (a b:T Lf),ei ρ (sp c a b)=if c.den ρ=true then ei ρ a else ei ρ b)/\
 (∀{ρ:Nat->Int} (l:List V),ei ρ (ou l)= .out (l.map (V.den ρ)))/\
 (∀{ρ:Nat->Int} (j:Nat) (l:List V),ei ρ (ju j l)= .jump j (l.map (V.den ρ)))/\
 (∀{ρ:Nat->Int},ei ρ fl= .no)/\
 (∀{ρ:Nat->Int} (a b:V),((SB.lt a b).den ρ=true)=(a.den ρ<b.den ρ))/\
 (∀{ρ:Nat->Int} (a b:V),((SB.eq a b).den ρ=true)=(a.den ρ=b.den ρ))/\
 (∀(F:oR) (lo:Nat->Int),(V.dK 0).den (df F lo)=lo 0)/\
 (∀(F:oR) (lo:Nat->Int),(V.dK 1).den (df F lo)=lo 1)/\
 (∀(F:oR) (lo:Nat->Int),(V.dK 2).den (df F lo)=lo 2)/\
 (∀(F:oR) (lo:Nat->Int),(V.dK 3).den (df F lo)=lo 3)/\
 (∀(F:oR) (lo:Nat->Int),(V.dK 4).den (df F lo)=lo 4)/\
 (∀(F:oR) (lo:Nat->Int),(V.dK 5).den (df F lo)=lo 5)/\
 (∀(F:oR) (lo:Nat->Int),(V.dK 6).den (df F lo)=lo 6)/\
 (∀(F:oR) (lo:Nat->Int),(V.dK 7).den (df F lo)=lo 7)/\
 (∀(F:oR) (lo:Nat->Int),(V.dK 8).den (df F lo)=lo 8)/\
 (∀(F:oR) (lo:Nat->Int),(V.dK 9).den (df F lo)=lo 9)/\
 (∀(F:oR) (lo:Nat->Int),(V.dK 10).den (df F lo)=lo 10)/\
 (∀(F:oR) (lo:Nat->Int),(V.dK 11).den (df F lo)=lo 11)/\
 (∀(F:oR) (lo:Nat->Int),(V.dK 12).den (df F lo)=lo 12)/\
 (∀(F:oR) (lo:Nat->Int),(V.dK 13).den (df F lo)=lo 13)/\
 (∀(F:oR) (lo:Nat->Int),(V.dK 14).den (df F lo)=lo 14)/\
 (∀(F:oR) (lo:Nat->Int),(V.dK 15).den (df F lo)=lo 15)/\
 (∀(F:oR) (lo:Nat->Int),(V.dK 16).den (df F lo)=lo 16)/\
 (∀(F:oR) (lo:Nat->Int),(V.dK 17).den (df F lo)=lo 17)/\
 (∀(F:oR) (lo:Nat->Int),(V.dK 18).den (df F lo)=lo 18)/\
 (∀(F:oR) (lo:Nat->Int),(V.dK 19).den (df F lo)=lo 19)/\
 (∀(F:oR) (lo:Nat->Int),(V.dK 20).den (df F lo)=lo 20)/\
 (∀(F:oR) (lo:Nat->Int),(V.dK 21).den (df F lo)=lo 21)/\
 (∀(F:oR) (lo:Nat->Int),(V.dK 22).den (df F lo)=lo 22)/\
 (∀(F:oR) (lo:Nat->Int),(V.dK 23).den (df F lo)=lo 23)/\
 (∀(F:oR) (lo:Nat->Int),(V.dK 24).den (df F lo)=lo 24)/\
 (∀(F:oR) (lo:Nat->Int),(V.dK 25).den (df F lo)=lo 25)/\
 (∀{ρ:Nat->Int} (n:Int),(V.lit n).den ρ=n)/\
 (∀{ρ:Nat->Int} (d:D),(V.eD d).den ρ=enc d)/\
 (∀{ρ:Nat->Int} (a:V),(ln a).den ρ=((dec (a.den ρ)).l.length:Int))/\
 (∀{ρ:Nat->Int} (a:V),(nm a).den ρ=(dec (a.den ρ)).n)/\
 (∀{ρ:Nat->Int} (j:Nat) (a:V),(ce j a).den ρ=enc ((dec (a.den ρ)).hd j))/\
 (∀{ρ:Nat->Int} (a b:V),(el a b).den ρ=enc ((dec (a.den ρ)).at (b.den ρ)))/\
 (∀{ρ:Nat->Int} (a b:V),(cn a b).den ρ=enc (.p (dec (a.den ρ)) (dec (b.den ρ))))/\
 (∀{ρ:Nat->Int} (a:V),(mk a).den ρ=enc (.i (a.den ρ)))/\
 (∀{ρ:Nat->Int} (a:V),(wr a).den ρ=IntKind.i64.wrap (a.den ρ))/\
 (∀{ρ:Nat->Int} (a b:V),(V.add a b).den ρ=a.den ρ+b.den ρ)/\
 (∀{ρ:Nat->Int} (a b:V),(V.sub a b).den ρ=a.den ρ-b.den ρ)/\
 (∀{ρ:Nat->Int} (o:fT) (a b:V),(V.op o a b).den ρ=o.den (a.den ρ) (b.den ρ))/\
 (∀{F:oR} {lo:Nat->Int} (j:Nat) (l:List V),(a0 j l).den (df F lo)=if (F j (l.map (V.den (df F lo)))).isSome=true then 1 else 0)/\
 (∀{F:oR} {lo:Nat->Int} (j:Nat) (l:List V) (i:Nat),(rr j l i).den (df F lo)=low ((F j (l.map (V.den (df F lo)))).getD []) i)/\
 (∀{x:Int} {xs:List Int},low (x::xs) 0=x)/\
 (∀{x:Int} {xs:List Int} {i:Nat},low (x::xs) (i+1)=low xs i)/\
 (∀{f:V->Int},List.map f []= [])/\
 (∀{f:V->Int} {a:V} {l:List V},List.map f (a::l)=f a::List.map f l)/\
 (∀d:D,dec (enc d)=d)/\
 (∀n:Int,(D.i n).n=n)/\
 (∀{α:Type} (a:α),(some a).isSome=true)/\
 (∀{α:Type} (a b:α),(some a).getD b=a)/\
 (∀{α:Type} {_:Decidable True} (a b:α),ite True a b=a)/\
 (∀{α:Type} {_:Decidable False} (a b:α),ite False a b=b)/\
 (∀{ρ:Nat->Int},zY ρ []=True)/\
 (∀{ρ:Nat->Int} (c:SB) (l:List SB),zY ρ (c::l)=(c.den ρ=true/\zY ρ l))/\
 (∀{ρ:Nat->Int},zW ρ []=True)/\
 (∀{ρ:Nat->Int} (c:SB) (l:List SB),zW ρ (c::l)=(¬c.den ρ=true/\zW ρ l))/\
 (∀x y:Int,fT.den .len x y=((dec x).l.length:Int))/\
 (∀x y:Int,fT.den .at x y=enc ((dec x).at y))/\
 (∀(x y:Int) (j:Nat),fT.den (.cell j) x y=enc ((dec x).hd j))/\
 (∀x y:Int,fT.den .num x y=(dec x).n)/\
 (∀x y:Int,fT.den .mk x y=enc (.i x))/\
 (∀x y:Int,fT.den .cons x y=enc (.p (dec x) (dec y)))/\
 (∀x y:Int,fT.den .snoc x y=enc (dL ((dec x).l++ [dec y])))/\
 (∀x y:Int,fT.den .cat x y=enc (dL ((dec x).l++(dec y).l)))/\
 (∀x y:Int,fT.den .take x y=enc (bR (dec x) ((dec x).l.take y.toNat)))/\
 (∀x y:Int,fT.den .drop x y=enc (bR (dec x) ((dec x).l.drop y.toNat)))/\
 (∀(x:Int) (q v:D),fT.den .set x (enc (.p q v))=enc (dL (fI (dec x).l q.n v)))/\
 (∀x y:Int,fT.den .bit x y=enc (.i (if (dec x).n=0 then 0 else 1)))/\
 (∀x y:Int,fT.den .norm x y=enc (dec x))/\
 (∀x y:Int,fT.den .OE x y=if (dj (dec x).l (dec y)).isSome then 1 else 0)/\
 (∀x y:Int,fT.den .Gq x y=enc ((dj (dec x).l (dec y)).getD (.i 0)))/\
 (∀(x:Int) (k v:D),fT.den .zD x (enc (.p k v))=enc (dL (jS (dec x).l k v)))/\
 (∀x y:Int,fT.den .rep x y=enc (dL (List.replicate x.toNat (dec y))))/\
 (∀(x:Int) (q v:D),fT.den .fill x (enc (.p q v))=enc (dL ((dec x).l.take q.n.toNat++List.replicate ((dec x).l.length-q.n.toNat) v)))/\
 (∀x y:Int,fT.den .sub x y=enc (dL (((dec x).l.take ((dec y).hd 1).n.toNat).drop ((dec y).hd 0).n.toNat)))/\
 (∀x y:Int,fT.den .idx x y=FN (dec x).l y)/\
 (∀x y:Int,fT.den .cnt x y=i! (dec x).l y)/\
 (∀x y:Int,fT.den .con x y=if UZ (dec x).l (dec y).l then 1 else 0)/\
 (∀x y:Int,fT.den .slt x y=if MU (dec x).l (dec y).l then 1 else 0)/\
 (∀x y:Int,fT.den .Gt x y=enc (dL (zF (dec x).l (dec y))))/\
 (∀p:Prop,(p/\True)=p)/\(∀p:Prop,(True/\p)=p)/\(¬False)=True:=
 ⟨ey,iT,lX,tA,lO,gz,fun _ _=>bQ ae,fun _ _=>bQ ae,fun _ _=>bQ ae,fun _ _=>bQ ae,fun _ _=>bQ ae,fun _ _=>bQ ae,fun _ _=>bQ ae,fun _ _=>bQ ae,fun _ _=>bQ ae,fun _ _=>bQ ae,fun _ _=>bQ ae,fun _ _=>bQ ae,fun _ _=>bQ ae,fun _ _=>bQ ae,fun _ _=>bQ ae,fun _ _=>bQ ae,fun _ _=>bQ ae,fun _ _=>bQ ae,fun _ _=>bQ ae,fun _ _=>bQ ae,fun _ _=>bQ ae,fun _ _=>bQ ae,fun _ _=>bQ ae,fun _ _=>bQ ae,fun _ _=>bQ ae,fun _ _=>bQ ae,da,gM,gj,BR,e?,BS,FG,FF,v8,den_add,aaY,FD,gv,fS,bL _,bO _ _,rfl,rfl,bC,nD,fun _=>rfl,fun _ _=>rfl,fun _ _=>ak trivial,fun _ _=>ah id,rfl,fun _ _=>rfl,rfl,fun _ _=>rfl,fun _ _=>rfl,fun _ _=>rfl,fun _ _ _=>rfl,fun _ _=>rfl,fun _ _=>rfl,fun _ _=>rfl,fun _ _=>rfl,fun _ _=>rfl,fun _ _=>rfl,fun _ _=>rfl,fun _ _ _=>by show (match dec (enc _) with | .p q v=>_|_=>_)=_; rw [bC],fun _ _=>rfl,fun _ _=>rfl,fun _ _=>rfl,fun _ _=>rfl,fun _ _ _=>by show (match dec (enc _) with | .p q v=>_|_=>_)=_; rw [bC],fun _ _=>rfl,fun _ _ _=>by show (match dec (enc _) with | .p q v=>_|_=>_)=_; rw [bC],fun _ _=>rfl,fun _ _=>rfl,fun _ _=>rfl,fun _ _=>rfl,fun _ _=>rfl,fun _ _=>rfl,and_true,true_and,not_false_eq_true⟩
theorem zg:(∀(l:List D) (j:Nat),(dL l).hd j=(l[j]?).getD (.i 0))/\(∀(a:D) (l:List D),(a::l)[0]?=some a)/\(∀(a:D) (l:List D) (i:Nat),(a::l)[i+1]?=l[i]?):=⟨eT,fun _ _=>rfl,fun _ _ _=>rfl⟩
end Go.As
end
section
namespace Go.As.Try
open Go hiding Stat Spec shape
open Go.As
set_option maxRecDepth 100000
def Ends (p:List Int->Prop) (R:RS):Prop:= ∃ys,fin L R=some ys/\p ys
def dS (j:Nat) (xs:List Int) (p:List Int->Prop):Prop:= ∃ys,L j xs=some ys/\p ys
theorem dS.of {j:Nat} {xs:List Int} {p:List Int->Prop} (h:Ends p (ei (df L (low xs)) (S.tree j))):dS j xs p:=by obtain⟨ys,U,Z⟩:=h;exact⟨ys,by rw [bM]; exact U,Z⟩
theorem Ends.ite {p:List Int->Prop} {c:Prop} [Decidable c] {a b:RS} (U:c->Ends p a) (Z: ¬c->Ends p b):Ends p (if c then a else b):=by
 grind
theorem Ends.out {p:List Int->Prop} {ys:List Int} (h:p ys):Ends p (.out ys):=⟨ys,rfl,h⟩
theorem Ends.jump {p:List Int->Prop} {j:Nat} {xs:List Int} (h:dS j xs p):Ends p (.jump j xs):=h
def yy (ys:List Int):Prop:= ∃c:Int,ys= [c]/\(c=0\/c=1)
def is3 (ys:List Int):Prop:= ∃a b c:Int,ys= [a,b,c]/\(c=0\/c=1)
theorem tP:yy [0]:=⟨0,rfl,.inl rfl⟩
theorem tO:yy [1]:=⟨1,rfl,.inr rfl⟩
theorem L3 {a b:Int}:is3 [a,b,0]:=⟨a,b,0,rfl,.inl rfl⟩
theorem acb {a b:Int}:is3 [a,b,1]:=⟨a,b,1,rfl,.inr rfl⟩
def iS (x:D):D:=dL [.i (-1),.i (if (x.hd 0).n=3\/(x.hd 0).n=9 then (x.hd 2).n else 0),.i 0,.i 0,.i 1,.i 1]
theorem F1 (d0:D) (hlen:d0.l.length<=64): ∀(k i:Nat) (acc:List D),i+k=d0.l.length->acc.length=i->
 L 302 [enc (dL acc),enc d0,(d0.l.length:Int),(i:Int)]=some [enc (dL (acc++(d0.l.drop i).map iS))]
 |0,i,acc,U,Z=>by
  rw [bM,afZ];simp only [aer,ey,iT,lO,bQ,bL,bO,Nat.reduceLT,fin,List.map]
  grind
 |k+1,i,acc,U,Z=>by
  have hi:i<d0.l.length:=J
  have hd:d0.l.drop i=d0.l[i]::d0.l.drop (i+1):=amr hi;have ih:=fun x=>F1 d0 hlen k (i+1) (acc++ [x]) J (by simp [Z]);rw [bM,afZ,hd];simp only [aer,ey,iT,lX,tA,lO,gz,bQ,gj,da,BR,e?,BS,FD,FG,FF,gM,v8,den_add,bL,bO,Nat.reduceLT,List.map,bC,bD,bV hi];have w:=bP (n:=i) J;have c1:(i:Int)<(d0.l.length:Int):=J
  have c2: ¬((i:Int)<0):=J
  have c3:(acc.length:Int)<1759218604440:=J
  simp only [c1,c2,c3,w,if_true,if_false,fin,fT.den,bC,bD];by_cases h3:(d0.l[i].hd 0).n=3
  ·simp only [h3,if_true,fin];have:=ih (iS d0.l[i]);simp only [iS,h3,true_or,if_true,dL] at this ⊢
   grind
  ·by_cases h9:(d0.l[i].hd 0).n=9
   ·simp only [ah h3,ak h9,fin];have:=ih (iS d0.l[i]);simp only [iS,ak (Or.inr h9:(d0.l[i].hd 0).n=3\/(d0.l[i].hd 0).n=9),dL] at this ⊢
    grind
   ·simp only [ah h3,ah h9,fin];have:=ih (iS d0.l[i]);simp only [iS,h3,h9,or_self,if_false,dL] at this ⊢
    grind
def Bs (d:D):Prop:=d=dL d.l/\∀(i:Nat) (h:i<d.l.length),0<=(d.l[i]).n/\(d.l[i]).n<256
theorem agb (s:ByteArray):Bs (uD s):=by unfold uD qA;refine⟨by rw [bD],fun i h=>?_⟩;simp only [bD,bu,List.getElem_map,D.n] at h ⊢;have:=(s.data.toList[i]).toNat_lt;omega
theorem Ck (d:D) (hb:Bs d) (hlen:d.l.length<=1000000): ∀(k i:Nat) (n:Int),i+k=d.l.length->∃a b,L 1102 [n,enc d,(d.l.length:Int),(i:Int)]=some [a,b]
 |0,i,n,U=>by rw [bM,d!];simp only [Xd,ey,iT,lO,bQ,bL,bO,Nat.reduceLT,List.map,da];rw [ah J];exact⟨_,_,rfl⟩
 |k+1,i,n,U=>by
  have hi:i<d.l.length:=J
  have ih:=fun x=>Ck d hb hlen k (i+1) x J;rw [bM,d!];have w:=bP (n:=i) J;have c1:(i:Int)<(d.l.length:Int):=J
  have c2: ¬((i:Int)<0):=J
  simp only [Xd,ey,iT,lX,tA,lO,bQ,bL,bO,Nat.reduceLT,List.map,da,gj,bC,c1,c2,if_true,if_false,v8,den_add,w];split
  ·exact⟨_,_,rfl⟩
  ·exact ih _
theorem OB (d:D) (hb:Bs d) (hlen:d.l.length<=1000000): ∃a b,L 1100 [enc d]=some [a,b]:=by
 rw [bM,adu];simp only [ab2,ey,lX,gz,bQ,bL,bO,Nat.reduceLT,List.map,da,gj,bC];split
 ·show ∃a b,L 1101 []=some [a,b];rw [bM,adt];exact⟨_,_,rfl⟩
 ·exact Ck d hb hlen d.l.length 0 _ J
theorem Io (z:Int): ∀(l:List D) (i:Nat),rC z l (i:Int)= -1\/((i:Int)<=rC z l i/\rC z l i<(i:Int)+l.length)
 |[],i=> .inl rfl
 |d::l,i=>by
  have ih:=Io z l (i+1);have hc:((i+1:Nat):Int)=(i:Int)+1:=J
  rw [hc] at ih;have W:((d::l).length:Int)=(l.length:Int)+1:=ad
  cases d with
  |i n=>
   simp only [rC]
   grind
  |p a b=>
   simp only [rC]
   grind
theorem i_ {z:Int} {d:D} {l:List D} (h:d≠.i z) (h0: ¬FN (d::l) z<0):1<=FN (d::l) z/\FN (d::l) z<(l.length:Int)+1:=by
 have U:=Io z l 1
 have key:FN (d::l) z=rC z l ((1:Nat):Int):=by
  unfold FN
  cases d with
  |i n=>
   simp only [rC]
   grind
  |p a b=>rfl
 grind
theorem ajx:(b0.at 10).n=1:=by show (b0.at ((10:Nat):Int)).n=1;kernel_rfl
theorem wg (d:D) (hb:Bs d) (hlen:d.l.length<=1000000) (x1:Int): ∀(k i:Nat),d.l.length-i<=k->i<=d.l.length->∃p:Nat,p<=d.l.length/\L 12801 [enc d,x1,(i:Int)]=some [0,enc d,x1,(p:Int)]
 |k,i,U,Z=>by
  rw [bM,Z0];have c2: ¬((i:Int)<0):=J
  by_cases hi:i<d.l.length
  ·have c1:(i:Int)<(d.l.length:Int):=J
   have w:=bP (n:=i) J;obtain⟨b1,b2⟩:=hb.2 i hi;have b1: ¬(d.l[i]).n<0:=J
   obtain⟨k,rfl⟩ : ∃k',k=k'+1:=⟨k-1,J⟩;have ES:(d.l.take d.l.length).drop i=d.l[i]::d.l.drop (i+1):=by rw [amF,amr hi]
   simp only [N7,ey,iT,lX,tA,lO,gz,bQ,bL,bO,Nat.reduceLT,List.map,da,gM,gj,bC,c1,c2,if_true,if_false,v8,den_add,w,BR,BS,bV hi,b1,b2];by_cases q1:(b0.at (d.l[i]).n).n=1
   ·simp only [q1,if_true];exact wg d hb hlen x1 k (i+1) J J
   ·by_cases q2:(b0.at (d.l[i]).n).n=2
    ·simp only [ah q1,ak q2]
     have gB:d.l[i]≠.i 10:=by intro h;rw [h] at q1;exact q1 ajx
     simp only [aO,if_false,FD,fT.den,FG,FF,gM,gj,bQ,da,bL,bO,Nat.reduceLT,bC,D.hd,l_p,jr,nD,aL,aM,ax,aX,bD,ES];split
     ·exact⟨d.l.length,ay _,by simp [fin]⟩
     ·rename_i h0;obtain⟨g1,g2⟩:=i_ gB h0;rw [br] at g2;obtain⟨m,hm⟩ : ∃m:Nat,FN (d.l[i]::d.l.drop (i+1)) 10=(m:Int):=⟨(FN (d.l[i]::d.l.drop (i+1)) 10).toNat,J⟩;have w2:IntKind.i64.wrap ((i:Int)+(m:Int))=((i+m:Nat):Int):=by rw [mK J J]; omega
      simp only [hm,w2,fin];exact wg d hb hlen x1 k (i+m) J J
    ·simp only [ah q1,ah q2];exact⟨i,J,rfl⟩
  ·have c1: ¬(i:Int)<(d.l.length:Int):=J
   simp only [N7,ey,iT,lO,bQ,bL,bO,Nat.reduceLT,List.map,da,gj,bC,c1,if_false];exact⟨i,J,rfl⟩
theorem PK (d:D) (hb:Bs d) (hlen:d.l.length<=1000000) (i:Nat) (hi:i<=d.l.length): ∃p:Nat,p<=d.l.length/\L 12800 [enc d,(i:Int)]=some [0,enc d,(i:Int),(p:Int)]:=by rw [bM,Z1];simp only [W0,lX,bQ,bL,bO,Nat.reduceLT,List.map];exact wg d hb hlen _ _ i (ay _) hi
theorem Ij (d:D) (hb:Bs d) (hlen:d.l.length<=1000000) (x1 x2:Int): ∀(k i:Nat),d.l.length-i<=k->i<=d.l.length->∃p:Nat,i<=p/\p<=d.l.length/\L 12851 [enc d,x1,x2,(i:Int)]=some [0,enc d,x1,(p:Int)]
 |k,i,U,Z=>by
  rw [bM,ZY];have c2: ¬((i:Int)<0):=J
  by_cases hi:i<d.l.length
  ·have c1:(i:Int)<(d.l.length:Int):=J
   have w:=bP (n:=i) J;obtain⟨b1,b2⟩:=hb.2 i hi;have b1: ¬(d.l[i]).n<0:=J
   obtain⟨k,rfl⟩ : ∃k',k=k'+1:=⟨k-1,J⟩
   have ih: ∃p:Nat,i<=p/\p<=d.l.length/\L 12851 [enc d,x1,x2,((i+1:Nat):Int)]=some [0,enc d,x1,(p:Int)]:=by
    obtain⟨p,q1,q2,q3⟩:=Ij d hb hlen x1 x2 k (i+1) J J
    grind
   simp only [N6,ey,iT,lX,tA,lO,gz,bQ,bL,bO,Nat.reduceLT,List.map,da,gM,gj,bC,c1,c2,if_true,if_false,v8,den_add,w,BR,BS,bV hi,b1,b2];split
   ·exact ih
   ·split
    ·split
     ·exact ih
     ·exact⟨i,J,J,rfl⟩
    ·exact⟨i,J,J,rfl⟩
  ·have c1: ¬(i:Int)<(d.l.length:Int):=J
   simp only [N6,ey,iT,lO,bQ,bL,bO,Nat.reduceLT,List.map,da,gj,bC,c1,if_false];exact⟨i,J,J,rfl⟩
theorem Rv {l:List D} {a b:D} (h:enc (dL l)=enc (.p a (.p b (.i 0)))):l.length=2:=by have:=congrArg (fun d=>d.l.length) (fg h);simpa [D.l] using this
theorem Ze (d:D) (hb:Bs d) (hlen:d.l.length<=1000000) (i:Nat) (hi:i<d.l.length): ∃p:Nat,i<p/\p<=d.l.length/\L 12850 [enc d,(i:Int)]=some [0,enc d,(i:Int),(p:Int)]:=by
 have c2: ¬((i:Int)<0):=J
 have c1:(i:Int)<(d.l.length:Int):=J
 have w:=bP (n:=i) J;have w1:=bP (n:=i+1) J;have w2:IntKind.i64.wrap ((i:Int)+2)=((i+2:Nat):Int):=by rw [mK J J]; omega
 obtain⟨b1,b2⟩:=hb.2 i hi;have b1: ¬(d.l[i]).n<0:=J
 have c3: ¬(((i+2:Nat):Int)<(i:Int)):=J
 rw [bM,ZZ];simp only [WZ,ey,iT,lX,tA,lO,gz,bQ,bL,bO,Nat.reduceLT,List.map,da,gj,bC,c1,c2,c3,if_true,if_false,v8,den_add,w,w1,w2,BR,BS,bV hi,b1,b2,aO,FD,fT.den,FG,FF,gM,D.hd,l_p,jr,nD,aL,aM,ax,aX];split
 ·split
  ·rename_i h5;split
   ·rename_i h6;have:=Rv h6;simp only [br,bh] at this;omega
   ·split
    ·rename_i h6;have:=Rv h6;simp only [br,bh] at this;omega
    ·exact⟨i+1,J,J,rfl⟩
  ·rename_i h5;split
   ·exact⟨i+1+1,J,J,rfl⟩
   ·split
    ·exact⟨i+1+1,J,J,rfl⟩
    ·exact⟨i+1,J,J,rfl⟩
 ·obtain⟨p,q1,q2,q3⟩:=Ij d hb hlen (i:Int) ((b0.at (d.l[i]).n).n) _ (i+1) (ay _) J;exact⟨p,J,q2,q3⟩
theorem aa3 {d:D} (hb:Bs d) (a b:Nat):Bs (dL ((d.l.take b).drop a)):=by
 refine⟨by rw [bD],fun i h=>?_⟩;simp only [bD] at h ⊢
 have W:i<d.l.length-a:=by
  grind
 have:((d.l.take b).drop a)[i]=d.l[a+i]:=ad
 rw [this];exact hb.2 _ _
theorem XZ (d:D) (hb:Bs d): ∃k s n ln a e er el',L 1050 [enc d,0]=some [k,s,n,ln,a,e,er,el']:=by
 rw [bM,adv];by_cases hg:(16384:Int)<(d.l.length:Int)
 ·simp only [QM,ey,iT,lO,bQ,bL,bO,Nat.reduceLT,List.map,da,gj,bC,hg,if_true];exact⟨_,_,_,_,_,_,_,_,rfl⟩
 ·obtain⟨p,hp,hB⟩:=PK d hb J 0 J;have hB':L 12800 [enc d,0]=some [0,enc d,0,(p:Int)]:=hB;have c0: ¬((0:Int)<0):=J
  have c1: ¬((d.l.length:Int)<0):=J
  have c2: ¬((p:Int)<0):=J
  have c3: ¬((d.l.length:Int)<(p:Int)):=J
  by_cases he:(p:Int)=(d.l.length:Int)
  ·simp only [QM,ey,iT,tA,lO,gz,bQ,bL,bO,Nat.reduceLT,List.map,da,gj,bC,hg,if_false,c0,c1,gv,fS,hB',aN,if_true,ax,c2,c3,he,aO,fin]
   grind
  ·obtain⟨e,U,Z,hE⟩:=Ze d hb J p J;have c4: ¬((e:Int)<(p:Int)):=J
   have c5: ¬((d.l.length:Int)<(e:Int)):=J
   have acg:=aa3 hb p e;have hpl:((d.l.take e).drop p).length=e-p:=by simp only [br,bh]; omega
   have Uv:0<((d.l.take e).drop p).length:=J
   obtain⟨na,nb,hN⟩:=OB _ acg (by rw [bD]; omega);obtain⟨b1,b2⟩:=acg.2 0 (by rw [bD]; exact Uv);generalize hq:(d.l.take e).drop p=q at *;simp only [bD] at b1 b2;have b1: ¬(q[0]).n<0:=J
   have hD:(dL q).at 0=q[0]:=by have:=bV (d:=dL q) (i:=0) (by rw [bD]; exact Uv);simpa using this
   have c6:(0:Int)<(q.length:Int):=J
   have c7:(q.length:Int)<1000000000:=J
   have c8:((([D.i 32]++q:List D).length:Nat):Int)<1000000000:=by simp only [a8,aQ,aA]; omega
   simp only [QM,ey,iT,tA,lO,gz,bQ,bL,bO,Nat.reduceLT,List.map,da,gj,bC,hg,if_false,c0,c1,gv,fS,hB',hE,aN,if_true,ax,c2,c3,c4,c5,ah he,FD,fT.den,FG,FF,gM,D.hd,l_p,jr,nD,aL,aM,aX,hq,bD,c6,c7,c8,BR,BS,hD,b1,b2,hN]
   repeat' first |exact⟨_,_,_,_,_,_,_,_,rfl⟩|split
theorem k7 (d:D) (hb:Bs d): ∃b,(b=0\/b=1)/\L 1000 [enc d]=some [b]:=by
 obtain⟨k,s,n,ln',a,e,er,el',h⟩:=XZ d hb;rw [bM,adw];simp only [ab3,ey,iT,tA,gz,bQ,bL,bO,Nat.reduceLT,List.map,da,gv,fS,h,aN,if_true,ax];split
 ·split
  ·split
   ·exact⟨1,.inr rfl,rfl⟩
   ·exact⟨0,.inl rfl,rfl⟩
  ·exact⟨0,.inl rfl,rfl⟩
 ·exact⟨0,.inl rfl,rfl⟩
theorem ag9 {d:D} (h:Wd .str d):Bs d:=by obtain⟨s,rfl⟩:=h.s;exact agb s
theorem w7 {kids:D} (h:Wd (.sl 6) kids) {i:Nat} (hi:i<kids.l.length): ∃k s n ks,kids.l[i]=dL [.i k,s,.i n,ks]/\eE .u8 k/\Wd .str s/\eE .i64 n/\Wd (.sl 6) ks:=by
 obtain⟨r,U,W,hc⟩:=h.elN (cs:=[.int .u8,.str,.int .i64,.sl 6]) rfl _ (aG hi)
 match r,W with
 |[a,b,c,d],_=> obtain⟨k,rfl,hk⟩:=(hc 0 _ _ rfl rfl).i;obtain⟨n,rfl,hn⟩:=(hc 2 _ _ rfl rfl).i;exact⟨k,b,n,d,U,hk,hc 1 _ _ rfl rfl,hn,hc 3 _ _ rfl rfl⟩
theorem Ty (d:D) (hb:Bs d): ∃b,(b=0\/b=1)/\L 12900 [enc d,0]=some [b,enc d,0]:=by
 obtain⟨b,RX,h⟩:=k7 d hb;rw [bM,ZX];simp only [WY,zz,h];rcases RX with rfl|rfl
 ·exact⟨_,.inl rfl,rfl⟩
 ·exact⟨_,.inr rfl,rfl⟩
theorem G6: ∀(m deep:Nat),21-deep<=m->∀(k n left loc:Int) (s kids:D),Wd .str s->Wd (.sl 6) kids->
 dS 5050 [k,enc s,n,enc kids,(deep:Int),left,loc] is3
 |m,deep,hm,k,n,left,loc,s,kids,hs,hk=>by
  refine dS.of ?_;rw [acY];simp only [abI,zz];refine .ite (fun _=> .out L3) fun _=> .ite (fun _=> .out L3) fun hd=> .jump ?_;obtain⟨m,rfl⟩ : ∃m',m=m'+1:=⟨m-1,J⟩;have ih:=G6 m (deep+1) J;have hlen:=hk.len;have w0:=bP (n:=deep) J
  have loop: ∀(j i:Nat) (l' c':Int),i+j=kids.l.length->dS 5051 [(deep:Int),enc kids,(kids.l.length:Int),(i:Int),l',c',k,enc s,n] is3:=by
   intro j
   induction j with
   |zero=>
    intro i l' c' hi;have c1: ¬(i:Int)<(kids.l.length:Int):=J
    obtain⟨b,hb,hR⟩:=Ty s (ag9 hs);refine dS.of ?_;rw [ZD];simp only [WI,zz,c1,hR];rcases hb with rfl|rfl
    ·simp only [Int.reduceEq,if_true,if_false]
     repeat' first |exact .out L3|exact .out acb|refine .ite (fun _=>?_) (fun _=>?_)
    ·simp only [Int.reduceEq,if_true,if_false]
     repeat' first |exact .out L3|exact .out acb|refine .ite (fun _=>?_) (fun _=>?_)
   |succ j Ge=>
    intro i l' c' hi;have dU:i<kids.l.length:=J
    have c1:(i:Int)<(kids.l.length:Int):=J
    have c2: ¬((i:Int)<0):=J
    have w:=bP (n:=i) J;obtain⟨k',s',n',ks',he,_,U,_,Z⟩:=w7 hk dU;obtain⟨ys,hR,a,b,c,rfl,hc⟩:=ih k' n' l' c' s' ks' U Z;refine dS.of ?_;rw [ZD];simp only [WI,zz,c1,c2,bV dU,he,zg,w0,w,hR];exact .ite (fun _=> .out L3) fun _=> .jump (Ge (i+1) _ _ J)
  exact loop kids.l.length 0 _ _ J
theorem TN (k n loc:Int) (s kids:D) (hs:Wd .str s) (hk:Wd (.sl 6) kids):dS 800 [k,enc s,n,enc kids,loc] yy:=by obtain⟨ys,hR,a,b,c,rfl,hc⟩:=G6 20 1 J k n 1000 loc s kids hs hk;have hR':L 5050 [k,enc s,n,enc kids,1,1000,loc]=some [a,b,c]:=hR;refine dS.of ?_;rw [aji];simp only [ahn,zz,hR'];exact .ite (fun _=> .out tP) fun _=> .out tO
def ab9 (a b c:Int) (ys:List Int):Prop:= ∃i:Int,ys= [a,b,c,i]
def aeY (a b c:Int) (ys:List Int):Prop:= ∃i:Int,ys= [a,b,c,i]/\(i=0\/i=1)
theorem Ak (kids loc:D) (xI code:Int) (hk:Wd (.sl 6) kids): ∀(j i:Nat),i+j=kids.l.length->dS 5401 [enc kids,(kids.l.length:Int),(i:Int),xI,enc loc,code] (ab9 xI (enc loc) code)
 |0,i,hi=>by
  have c1: ¬(i:Int)<(kids.l.length:Int):=J
  refine dS.of ?_;rw [Zz];simp only [WD,zz,c1];exact .out ⟨_,rfl⟩
 |j+1,i,hi=>by
  have hlen:=hk.len;have dU:i<kids.l.length:=J
  have c1:(i:Int)<(kids.l.length:Int):=J
  have c2: ¬((i:Int)<0):=J
  have w:=bP (n:=i) J;obtain⟨k',s',n',ks',he,_,U,_,Z⟩:=w7 hk dU;obtain⟨ys,hR,b,rfl,hb⟩:=TN k' n' (loc.l.length:Int) s' ks' U Z;refine dS.of ?_;rw [Zz];simp only [WD,zz,c1,c2,bV dU,he,zg,w,hR];exact .ite (fun _=> .out ⟨_,rfl⟩) fun _=> .jump (Ak kids loc xI code hk j (i+1) J)
theorem UI (kids loc:D) (xI code:Int) (hk:Wd (.sl 6) kids):dS 5000 [enc kids,xI,enc loc,code] (aeY xI (enc loc) code):=by
 have h0:dS 5400 [enc kids,xI,enc loc,code] (ab9 xI (enc loc) code):=by refine dS.of ?_;rw [acO];simp only [abB,zz];exact .jump (Ak kids loc xI code hk kids.l.length 0 J)
 obtain⟨ys,hR,i,rfl⟩:=h0;refine dS.of ?_;rw [acZ];simp only [abJ,zz,hR];exact .ite (fun _=> .out ⟨_,rfl,.inl rfl⟩) fun _=> .out ⟨_,rfl,.inr rfl⟩
theorem Ji (o:Int):dS 1200 [o] (fun ys=> ∃k,ys= [k]):=by
 refine dS.of ?_;rw [adr];simp only [ab0,zz]
 repeat' first |exact .out ⟨_,rfl⟩|refine .ite (fun _=>?_) (fun _=>?_)
theorem oN (o:Int):dS 1250 [o] yy:=by
 refine dS.of ?_;rw [adq];simp only [abZ,zz]
 repeat' first |exact .out tP|exact .out tO|refine .ite (fun _=>?_) (fun _=>?_)
theorem oB (o:Int):dS 1300 [o] yy:=by
 refine dS.of ?_;rw [adp];simp only [abY,zz]
 repeat' first |exact .out tP|exact .out tO|refine .ite (fun _=>?_) (fun _=>?_)
theorem MW (o:Int):dS 1350 [o] yy:=by
 refine dS.of ?_;rw [ado];simp only [abX,zz]
 repeat' first |exact .out tP|exact .out tO|refine .ite (fun _=>?_) (fun _=>?_)
def E1:D:=.p (.i 1) (.p (.i 0) (.p (.i 0) (.p (.i 1) (.i 0))))
theorem xz:Bs (.i 0):=⟨rfl,fun i h=>by simp [D.l] at h⟩
theorem xy {b:Int} (U:0<=b) (Z:b<256):Bs (.p (.i b) (.i 0)):=⟨rfl,fun i h=>by
 simp only [D.l,aQ,aA] at h;obtain rfl:i=0:=J
 exact⟨U,Z⟩⟩
theorem gn (k n x5:Int) (s s':D) (hs:Bs s) (B?:Bs s'):dS 1400 [k,enc s,n,enc s',x5] yy:=by
 obtain⟨b,hb,hR⟩:=k7 s hs;obtain⟨b',JI,hR'⟩:=k7 s' B?;obtain⟨ys,hC,c,rfl,hc⟩:=MW k;refine dS.of ?_;rw [adn];simp only [abW,zz,hR,hR',hC]
 repeat' first |exact .out tP|exact .out tO|refine .ite (fun _=>?_) (fun _=>?_)
theorem aa7:L 1150 [1,enc (.i 0),0,enc (.i 1)]=some [1]:=by rw [bM,ads];simp only [ab1,zz,jr,aA,Int.reduceLT,Int.reduceEq];rfl
theorem UJ (a b:Int):L 5450 [enc (.i 1),a,b]=some [b]:=by rw [bM,acN];simp only [abA,zz,jr,aA,fin];rw [bM,acM];simp only [abz,zz];rfl
theorem w6:L 5250 [enc (dL [E1]),2,1]=some [2,enc (dL [E1])]:=by have U:=aa7;have Z:=UJ 3 2;have w1:IntKind.i64.wrap (1+1)=2:=mK J J;have w2:IntKind.i64.wrap (2+1)=3:=mK J J;have w3:IntKind.i64.wrap (0+1)=1:=mK J J;have ha:(dL [E1]).at 0=E1:=rfl;have g0:E1.hd 0= .i 1:=rfl;have g1:E1.hd 1= .i 0:=rfl;have g2:E1.hd 2= .i 0:=rfl;have g3:E1.hd 3= .i 1:=rfl;rw [bM,acR];simp only [abE,zz,bD,aQ,aA,aK,fin];rw [bM,ZC];simp only [WH,zz,bD,aQ,aA,aK,ha,g0,g1,g2,g3,w1,w2,w3,U,Z,Int.reduceLT,Int.reduceEq,fin,bn,aO];rw [bM,ZC];simp only [WH,zz,aO];rfl
theorem TB (k m:Int):L 5500 [enc (.i 1),k,m]=some [k,m,1]:=by rw [bM,acL];simp only [aby,zz,jr,aA,fin];rw [bM,acK];simp only [abx,zz];rfl
theorem TA (a k m:Int):L 5600 [enc (.i 1),a,k,m]=some [a,k,m,1]:=by rw [bM,acJ];simp only [abw,zz,jr,aA,fin];rw [bM,acI];simp only [abv,zz];rfl
theorem Wl (k m:Int):L 5150 [k,m]=some [k,m,1]:=by rw [bM,acV];simp only [abG,zz,fin];rw [bM,acU];rfl
theorem Wk (k m:Int):L 5200 [k,m]=some [1,k,m,1]:=by rw [bM,acT];simp only [abF,zz,fin];rw [bM,acS];rfl
theorem Dv (k m:Int):L 5100 [k,m]=some [m]:=by rw [bM,acX];simp only [abH,zz,fin];rw [bM,acW];rfl
theorem lV (k m:Int):L 5300 [1,enc (dL [E1]),k,m]=some [enc (dL [E1]),k,m,1]:=by have Z:=TB k m;have w3:IntKind.i64.wrap (0+1)=1:=mK J J;have ha:(dL [E1]).at 0=E1:=rfl;have g0:E1.hd 0= .i 1:=rfl;have g1:E1.hd 1= .i 0:=rfl;have g3:E1.hd 3= .i 1:=rfl;rw [bM,acQ];simp only [abD,zz,fin];rw [bM,ZB];simp only [WG,zz,bD,aQ,aA,aK,ha,g0,g1,g3,w3,Z,Int.reduceLT,Int.reduceEq,fin,bn,aO];rw [bM,ZB];simp only [WG,zz,aO];rfl
theorem IP (k m:Int):L 5350 [1,enc (dL [E1]),k,m]=some [enc (dL [E1]),1,k,m,1]:=by have Z:=TA 1 k m;have w3:IntKind.i64.wrap (0+1)=1:=mK J J;have ha:(dL [E1]).at 0=E1:=rfl;have g0:E1.hd 0= .i 1:=rfl;have g1:E1.hd 1= .i 0:=rfl;have g3:E1.hd 3= .i 1:=rfl;rw [bM,acP];simp only [abC,zz,fin];rw [bM,ZA];simp only [WE,zz,bD,aQ,aA,aK,ha,g0,g1,g3,w3,Z,Int.reduceLT,Int.reduceEq,fin,bn,aO];rw [bM,ZA];simp only [WE,zz,aO];rfl
def isR (ys:List Int):Prop:= ∃b l,ys=b::l/\(b=0\/b=1)
def Up (e:Int) (ys:List Int):Prop:= ∃b l,ys=b::l/\(b=0\/b=1/\e<=23)
theorem Jx {e:Int} {l:List Int}:Up e (0::l):=⟨0,l,rfl,.inl rfl⟩
theorem Jw {e:Int} {l:List Int} (h:e<=23):Up e (1::l):=⟨1,l,rfl,.inr ⟨rfl,h⟩⟩
theorem Ja (a b c d e f g:Int):dS 12400 [a,b,c,d,e,f,g] (Up e):=by
 obtain⟨ys,U,o,rfl,_⟩:=gn a b c _ _ (xy (b:=97) J J) xz;obtain⟨ys,Z,q,rfl,_⟩:=oN e;obtain⟨ys,h3,r,rfl,_⟩:=oB e;obtain⟨n,_,h4⟩:=k7 _ xz;refine dS.of ?_;rw [Z9];simp only [W4,zz,U,Z,h3,h4,Dv]
 repeat' first |exact .out Jx|exact .out (Jw J)|refine .ite (fun _=>?_) (fun _=>?_)
theorem I9 (a b c d e f g:Int):dS 12500 [a,b,c,d,e,f,g] (Up e):=by
 obtain⟨ys,U,o,rfl,_⟩:=gn a b c _ _ (xy (b:=97) J J) xz;obtain⟨ys,Z,q,rfl,_⟩:=oN e;obtain⟨ys,h3,r,rfl,_⟩:=oB e;obtain⟨n,_,h4⟩:=k7 _ xz;refine dS.of ?_;rw [Z7];simp only [W2,zz,U,Z,h3,h4,Dv]
 repeat' first |exact .out Jx|exact .out (Jw J)|refine .ite (fun _=>?_) (fun _=>?_)
theorem XG (a b c d e f g h i:Int):dS 12450 [a,b,c,d,e,f,g,h,i] (Up g):=by
 obtain⟨ys,h0,o,rfl,_⟩:=gn 1 a b _ _ (xy (b:=98) J J) xz;obtain⟨ys,U,o',rfl,_⟩:=gn c d e _ _ (xy (b:=97) J J) (xy (b:=98) J J);obtain⟨ys,Z,q,rfl,_⟩:=oN g;obtain⟨ys,h3,r,rfl,_⟩:=oB g;obtain⟨n,_,h4⟩:=k7 _ xz;refine dS.of ?_;rw [Z8];simp only [W3,zz,h0,U,Z,h3,h4,Dv]
 repeat' first |exact .out Jx|exact .out (Jw J)|refine .ite (fun _=>?_) (fun _=>?_)
theorem XF (a b c d e f g h i:Int):dS 12550 [a,b,c,d,e,f,g,h,i] (Up g):=by
 obtain⟨ys,h0,o,rfl,_⟩:=gn 1 a b _ _ (xy (b:=98) J J) xz;obtain⟨ys,U,o',rfl,_⟩:=gn c d e _ _ (xy (b:=97) J J) (xy (b:=98) J J);obtain⟨ys,Z,q,rfl,_⟩:=oN g;obtain⟨ys,h3,r,rfl,_⟩:=oB g;obtain⟨n,_,h4⟩:=k7 _ xz;refine dS.of ?_;rw [Z6];simp only [W1,zz,h0,U,Z,h3,h4,Dv]
 repeat' first |exact .out Jx|exact .out (Jw J)|refine .ite (fun _=>?_) (fun _=>?_)
def Ye (e:Int) (m k:Nat) (ys:List Int):Prop:=(∃l,ys=0::l)\/(m=1/\low ys 0=1/\low ys k=1/\low ys (k+1)=enc (dL [E1])/\e<=23)
theorem vB {e:Int} {m k:Nat} {l:List Int}:Ye e m k (0::l):=.inl ⟨l,rfl⟩
def rM (m:Nat):D:=dL (List.replicate m E1)
theorem sP (m:Nat):(rM m).l.length=m:=by unfold rM; rw [bD,amT]
theorem vv (m:Nat) (hm:1<=m) (a b c d e f g:Int):dS 12600 [a,b,c,d,e,f,enc (rM m),g] (Ye e m 9):=by
 obtain⟨ys,U,o,rfl,_⟩:=gn a b c _ _ (xy (b:=97) J J) xz;obtain⟨ys,Z,q,rfl,hq⟩:=oN e;obtain⟨ys,h3,r,rfl,_⟩:=oB e;obtain⟨n,_,h4⟩:=k7 _ xz;refine dS.of ?_;rw [Z5];by_cases h:m=1
 ·subst h;have h5:=w6;simp only [Ob,zz,U,Z,h3,h4,rM,List.replicate,h5]
  repeat' first |exact .out vB|exact .out (.inr ⟨rfl,rfl,rfl,rfl,J⟩)|refine .ite (fun _=>?_) (fun _=>?_)
 ·have c1: ¬((m:Int)=q):=by rcases hq with rfl|rfl<;>omega
  simp only [Ob,zz,U,Z,h3,h4,sP,c1]
  repeat' first |exact .out vB|refine .ite (fun _=>?_) (fun _=>?_)
theorem vu (m:Nat) (hm:1<=m) (a b c d e f g:Int):dS 12700 [a,b,c,d,e,f,enc (rM m),g] (Ye e m 9):=by
 obtain⟨ys,U,o,rfl,_⟩:=gn a b c _ _ (xy (b:=97) J J) xz;obtain⟨ys,Z,q,rfl,hq⟩:=oN e;obtain⟨ys,h3,r,rfl,_⟩:=oB e;obtain⟨n,_,h4⟩:=k7 _ xz;refine dS.of ?_;rw [Z3];by_cases h:m=1
 ·subst h;have h5:=w6;simp only [N9,zz,U,Z,h3,h4,rM,List.replicate,h5]
  repeat' first |exact .out vB|exact .out (.inr ⟨rfl,rfl,rfl,rfl,J⟩)|refine .ite (fun _=>?_) (fun _=>?_)
 ·have c1: ¬((m:Int)=q):=by rcases hq with rfl|rfl<;>omega
  simp only [N9,zz,U,Z,h3,h4,sP,c1]
  repeat' first |exact .out vB|refine .ite (fun _=>?_) (fun _=>?_)
theorem XE (m:Nat) (hm:1<=m) (a b c d e f g h' i:Int):dS 12650 [a,b,c,d,e,f,g,h',enc (rM m),i] (Ye g m 11):=by
 obtain⟨ys,h0,o,rfl,_⟩:=gn 1 a b _ _ (xy (b:=98) J J) xz;obtain⟨ys,U,o',rfl,_⟩:=gn c d e _ _ (xy (b:=97) J J) (xy (b:=98) J J);obtain⟨ys,Z,q,rfl,hq⟩:=oN g;obtain⟨ys,h3,r,rfl,_⟩:=oB g;obtain⟨n,_,h4⟩:=k7 _ xz;refine dS.of ?_;rw [Z4];by_cases h:m=1
 ·subst h;have h5:=w6;simp only [Oa,zz,h0,U,Z,h3,h4,rM,List.replicate,h5]
  repeat' first |exact .out vB|exact .out (.inr ⟨rfl,rfl,rfl,rfl,J⟩)|refine .ite (fun _=>?_) (fun _=>?_)
 ·have c1: ¬((m:Int)=q):=by rcases hq with rfl|rfl<;>omega
  simp only [Oa,zz,h0,U,Z,h3,h4,sP,c1]
  repeat' first |exact .out vB|refine .ite (fun _=>?_) (fun _=>?_)
theorem XD (m:Nat) (hm:1<=m) (a b c d e f g h' i:Int):dS 12750 [a,b,c,d,e,f,g,h',enc (rM m),i] (Ye g m 11):=by
 obtain⟨ys,h0,o,rfl,_⟩:=gn 1 a b _ _ (xy (b:=98) J J) xz;obtain⟨ys,U,o',rfl,_⟩:=gn c d e _ _ (xy (b:=97) J J) (xy (b:=98) J J);obtain⟨ys,Z,q,rfl,hq⟩:=oN g;obtain⟨ys,h3,r,rfl,_⟩:=oB g;obtain⟨n,_,h4⟩:=k7 _ xz;refine dS.of ?_;rw [Z2];by_cases h:m=1
 ·subst h;have h5:=w6;simp only [N8,zz,h0,U,Z,h3,h4,rM,List.replicate,h5]
  repeat' first |exact .out vB|exact .out (.inr ⟨rfl,rfl,rfl,rfl,J⟩)|refine .ite (fun _=>?_) (fun _=>?_)
 ·have c1: ¬((m:Int)=q):=by rcases hq with rfl|rfl<;>omega
  simp only [N8,zz,h0,U,Z,h3,h4,sP,c1]
  repeat' first |exact .out vB|refine .ite (fun _=>?_) (fun _=>?_)
def B' (e a b:Int) (ys:List Int):Prop:= ∃c:Int,ys= [c]/\(c=0\/c=1)/\(c=1->(a= -1\/b≠0)/\e<=23)
theorem fJ {e a b:Int}:B' e a b [0]:=⟨0,rfl,.inl rfl,fun h=>absurd h J⟩
theorem lQ {e a b:Int} (h:(a= -1\/b≠0)/\e<=23):B' e a b [1]:=⟨1,rfl,.inr rfl,fun _=>h⟩
theorem dS.mono {j:Nat} {xs:List Int} {p q:List Int->Prop} (h:dS j xs p) (f: ∀ys,p ys->q ys):dS j xs q:=by obtain⟨ys,a,b⟩:=h;exact⟨ys,a,f ys b⟩
theorem aaT (x0 x2 x3 x4 x5 x6 x7 x8:Int):dS 951 [x0,0,x2,x3,x4,x5,x6,x7,x8] (B' x3 x5 0):=by
 obtain⟨ys,a1,b1,l1,rfl,g1⟩:=Ja x0 1 0 0 x3 0 0;obtain⟨ys,a2,b2,l2,rfl,g2⟩:=Ja x0 0 0 0 x3 0 0;obtain⟨ys,a3,b3,l3,rfl,g3⟩:=XG 0 0 x0 0 0 0 x3 0 0;obtain⟨ys,a4,b4,l4,rfl,g4⟩:=I9 x0 1 0 0 x3 0 0;obtain⟨ys,a5,b5,l5,rfl,g5⟩:=I9 x0 0 0 0 x3 0 0;obtain⟨ys,a6,b6,l6,rfl,g6⟩:=XF 0 0 x0 0 0 0 x3 0 0;obtain⟨ys,a7,k,rfl⟩:=Ji x3;refine dS.of ?_;rw [afP];simp only [aej,zz,aO,a1,a2,a3,a4,a5,a6,a7,Wl,Wk]
 repeat' first |exact .out fJ|exact .out (lQ J)|refine .ite (fun _=>?_) (fun _=>?_)|(exfalso; omega)
theorem aaS (x0 x2 x3 x4 x5 x6 x7 x8:Int):dS 952 [x0,0,x2,x3,x4,x5,x6,x7,x8] (B' x3 x5 1):=by
 obtain⟨ys,a1,b1,l1,rfl,g1⟩:=Ja x0 1 0 0 x3 0 0;obtain⟨ys,a2,b2,l2,rfl,g2⟩:=Ja x0 0 0 0 x3 0 0;obtain⟨ys,a3,b3,l3,rfl,g3⟩:=XG 0 0 x0 0 0 0 x3 0 0;obtain⟨ys,a4,b4,l4,rfl,g4⟩:=I9 x0 1 0 0 x3 0 0;obtain⟨ys,a5,b5,l5,rfl,g5⟩:=I9 x0 0 0 0 x3 0 0;obtain⟨ys,a6,b6,l6,rfl,g6⟩:=XF 0 0 x0 0 0 0 x3 0 0;obtain⟨ys,a7,k,rfl⟩:=Ji x3;refine dS.of ?_;rw [afO];simp only [aei,zz,aO,a1,a2,a3,a4,a5,a6,a7,Wl,Wk]
 repeat' first |exact .out fJ|exact .out (lQ J)|refine .ite (fun _=>?_) (fun _=>?_)|(exfalso; omega)
theorem MT (m:Nat) (hm:1<=m) (x0 x3 x4 x5 x6 x7 x8 x9:Int):dS 953 [x0,(m:Int),(m:Int),x3,x4,x5,x6,x7,x8,x9,enc (rM m)] (B' x4 x6 0):=by
 obtain⟨ys,a7,k,rfl⟩:=Ji x4;by_cases hn:x6= -1
 ·by_cases h3:x0=3
  ·subst h3;obtain⟨ys,hR,hC⟩:=vv m hm 3 1 0 0 x4 0 0;refine dS.of ?_;rw [CY];rcases hC with ⟨l,rfl⟩|⟨rfl,q1,q2,q3,q4⟩
   ·simp only [qP,zz,aO,hn,hR,Int.reduceEq];exact .out fJ
   ·simp only [qP,zz,aO,hn,hR,q1,q2,q3,a7,lV,Int.reduceEq,bn]
    repeat' first |exact .out fJ|exact .out (lQ J)|refine .ite (fun _=>?_) (fun _=>?_)|(exfalso; omega)
  by_cases h8:x0=8
  ·subst h8;obtain⟨ys,hR,hC⟩:=vv m hm 8 1 0 0 x4 0 0;refine dS.of ?_;rw [CY];rcases hC with ⟨l,rfl⟩|⟨rfl,q1,q2,q3,q4⟩
   ·simp only [qP,zz,aO,hn,hR,Int.reduceEq];exact .out fJ
   ·simp only [qP,zz,aO,hn,hR,q1,q2,q3,a7,lV,Int.reduceEq,bn]
    repeat' first |exact .out fJ|exact .out (lQ J)|refine .ite (fun _=>?_) (fun _=>?_)|(exfalso; omega)
  by_cases h5:x0=5
  ·subst h5;obtain⟨ys,hR,hC⟩:=vv m hm 5 1 0 0 x4 0 0;refine dS.of ?_;rw [CY];rcases hC with ⟨l,rfl⟩|⟨rfl,q1,q2,q3,q4⟩
   ·simp only [qP,zz,aO,hn,hR,Int.reduceEq];exact .out fJ
   ·simp only [qP,zz,aO,hn,hR,q1,q2,q3,a7,lV,Int.reduceEq,bn]
    repeat' first |exact .out fJ|exact .out (lQ J)|refine .ite (fun _=>?_) (fun _=>?_)|(exfalso; omega)
  by_cases h4:x0=4
  ·subst h4;obtain⟨ys,hR,hC⟩:=XE m hm 0 0 4 0 0 0 x4 0 0;refine dS.of ?_;rw [CY];rcases hC with ⟨l,rfl⟩|⟨rfl,q1,q2,q3,q4⟩
   ·simp only [qP,zz,aO,hn,hR,Int.reduceEq];exact .out fJ
   ·simp only [qP,zz,aO,hn,hR,q1,q2,q3,a7,IP,Int.reduceEq,bn]
    repeat' first |exact .out fJ|exact .out (lQ J)|refine .ite (fun _=>?_) (fun _=>?_)|(exfalso; omega)
  obtain⟨ys,hR,hC⟩:=vv m hm x0 0 0 0 x4 0 0;refine dS.of ?_;rw [CY];rcases hC with ⟨l,rfl⟩|⟨rfl,q1,q2,q3,q4⟩
  ·simp only [qP,zz,aO,hn,h3,h8,h5,h4,hR,Int.reduceEq];exact .out fJ
  ·simp only [qP,zz,aO,hn,h3,h8,h5,h4,hR,q1,q2,q3,a7,lV,Int.reduceEq,bn]
   repeat' first |exact .out fJ|exact .out (lQ J)|refine .ite (fun _=>?_) (fun _=>?_)|(exfalso; omega)
 ·by_cases h3:x0=3
  ·subst h3;obtain⟨ys,hR,hC⟩:=vu m hm 3 1 0 0 x4 0 0;refine dS.of ?_;rw [CY];rcases hC with ⟨l,rfl⟩|⟨rfl,q1,q2,q3,q4⟩
   ·simp only [qP,zz,aO,hn,hR,Int.reduceEq];exact .out fJ
   ·simp only [qP,zz,aO,hn,hR,q1,q2,q3,a7,lV,Int.reduceEq,bn]
    repeat' first |exact .out fJ|exact .out (lQ J)|refine .ite (fun _=>?_) (fun _=>?_)|(exfalso; omega)
  by_cases h8:x0=8
  ·subst h8;obtain⟨ys,hR,hC⟩:=vu m hm 8 1 0 0 x4 0 0;refine dS.of ?_;rw [CY];rcases hC with ⟨l,rfl⟩|⟨rfl,q1,q2,q3,q4⟩
   ·simp only [qP,zz,aO,hn,hR,Int.reduceEq];exact .out fJ
   ·simp only [qP,zz,aO,hn,hR,q1,q2,q3,a7,lV,Int.reduceEq,bn]
    repeat' first |exact .out fJ|exact .out (lQ J)|refine .ite (fun _=>?_) (fun _=>?_)|(exfalso; omega)
  by_cases h5:x0=5
  ·subst h5;obtain⟨ys,hR,hC⟩:=vu m hm 5 1 0 0 x4 0 0;refine dS.of ?_;rw [CY];rcases hC with ⟨l,rfl⟩|⟨rfl,q1,q2,q3,q4⟩
   ·simp only [qP,zz,aO,hn,hR,Int.reduceEq];exact .out fJ
   ·simp only [qP,zz,aO,hn,hR,q1,q2,q3,a7,lV,Int.reduceEq,bn]
    repeat' first |exact .out fJ|exact .out (lQ J)|refine .ite (fun _=>?_) (fun _=>?_)|(exfalso; omega)
  by_cases h4:x0=4
  ·subst h4;obtain⟨ys,hR,hC⟩:=XD m hm 0 0 4 0 0 0 x4 0 0;refine dS.of ?_;rw [CY];rcases hC with ⟨l,rfl⟩|⟨rfl,q1,q2,q3,q4⟩
   ·simp only [qP,zz,aO,hn,hR,Int.reduceEq];exact .out fJ
   ·simp only [qP,zz,aO,hn,hR,q1,q2,q3,a7,IP,Int.reduceEq,bn]
    repeat' first |exact .out fJ|exact .out (lQ J)|refine .ite (fun _=>?_) (fun _=>?_)|(exfalso; omega)
  obtain⟨ys,hR,hC⟩:=vu m hm x0 0 0 0 x4 0 0;refine dS.of ?_;rw [CY];rcases hC with ⟨l,rfl⟩|⟨rfl,q1,q2,q3,q4⟩
  ·simp only [qP,zz,aO,hn,h3,h8,h5,h4,hR,Int.reduceEq];exact .out fJ
  ·simp only [qP,zz,aO,hn,h3,h8,h5,h4,hR,q1,q2,q3,a7,lV,Int.reduceEq,bn]
   repeat' first |exact .out fJ|exact .out (lQ J)|refine .ite (fun _=>?_) (fun _=>?_)|(exfalso; omega)
theorem Sv (M:Nat) (hM:M<=2513169434915) (x0 x3 x4 x5 x6 x7 x8 x9:Int): ∀(j m:Nat),m+j=M->1<=m->dS 953 [x0,(M:Int),(m:Int),x3,x4,x5,x6,x7,x8,x9,enc (rM m)] (B' x4 x6 0)
 |0,m,U,Z=>by
  obtain rfl:M=m:=J
  exact MT M Z x0 x3 x4 x5 x6 x7 x8 x9
 |j+1,m,U,Z=>by
  have ih:=Sv M hM x0 x3 x4 x5 x6 x7 x8 x9 j (m+1) J J;have c1:(m:Int)<(M:Int):=J
  have c2:((m:Nat):Int)<2513169434915:=J
  have w:=bP (n:=m) J
  have hr:rM (m+1)=dL ((rM m).l++ [E1]):=by unfold rM;rw [bD,List.replicate_succ']
  rw [hr] at ih;refine dS.of ?_;rw [CY];simp only [qP,zz,c1,c2,sP,w];exact .jump ih
theorem MS (m:Nat) (hm:1<=m) (x0 x3 x4 x5 x6 x7 x8 x9:Int):dS 954 [x0,(m:Int),(m:Int),x3,x4,x5,x6,x7,x8,x9,enc (rM m)] (B' x4 x6 1):=by
 obtain⟨ys,a7,k,rfl⟩:=Ji x4;by_cases hn:x6= -1
 ·by_cases h3:x0=3
  ·subst h3;obtain⟨ys,hR,hC⟩:=vv m hm 3 1 0 0 x4 0 0;refine dS.of ?_;rw [CX];rcases hC with ⟨l,rfl⟩|⟨rfl,q1,q2,q3,q4⟩
   ·simp only [qO,zz,aO,hn,hR,Int.reduceEq];exact .out fJ
   ·simp only [qO,zz,aO,hn,hR,q1,q2,q3,a7,lV,Int.reduceEq,bn]
    repeat' first |exact .out fJ|exact .out (lQ J)|refine .ite (fun _=>?_) (fun _=>?_)|(exfalso; omega)
  by_cases h8:x0=8
  ·subst h8;obtain⟨ys,hR,hC⟩:=vv m hm 8 1 0 0 x4 0 0;refine dS.of ?_;rw [CX];rcases hC with ⟨l,rfl⟩|⟨rfl,q1,q2,q3,q4⟩
   ·simp only [qO,zz,aO,hn,hR,Int.reduceEq];exact .out fJ
   ·simp only [qO,zz,aO,hn,hR,q1,q2,q3,a7,lV,Int.reduceEq,bn]
    repeat' first |exact .out fJ|exact .out (lQ J)|refine .ite (fun _=>?_) (fun _=>?_)|(exfalso; omega)
  by_cases h5:x0=5
  ·subst h5;obtain⟨ys,hR,hC⟩:=vv m hm 5 1 0 0 x4 0 0;refine dS.of ?_;rw [CX];rcases hC with ⟨l,rfl⟩|⟨rfl,q1,q2,q3,q4⟩
   ·simp only [qO,zz,aO,hn,hR,Int.reduceEq];exact .out fJ
   ·simp only [qO,zz,aO,hn,hR,q1,q2,q3,a7,lV,Int.reduceEq,bn]
    repeat' first |exact .out fJ|exact .out (lQ J)|refine .ite (fun _=>?_) (fun _=>?_)|(exfalso; omega)
  by_cases h4:x0=4
  ·subst h4;obtain⟨ys,hR,hC⟩:=XE m hm 0 0 4 0 0 0 x4 0 0;refine dS.of ?_;rw [CX];rcases hC with ⟨l,rfl⟩|⟨rfl,q1,q2,q3,q4⟩
   ·simp only [qO,zz,aO,hn,hR,Int.reduceEq];exact .out fJ
   ·simp only [qO,zz,aO,hn,hR,q1,q2,q3,a7,IP,Int.reduceEq,bn]
    repeat' first |exact .out fJ|exact .out (lQ J)|refine .ite (fun _=>?_) (fun _=>?_)|(exfalso; omega)
  obtain⟨ys,hR,hC⟩:=vv m hm x0 0 0 0 x4 0 0;refine dS.of ?_;rw [CX];rcases hC with ⟨l,rfl⟩|⟨rfl,q1,q2,q3,q4⟩
  ·simp only [qO,zz,aO,hn,h3,h8,h5,h4,hR,Int.reduceEq];exact .out fJ
  ·simp only [qO,zz,aO,hn,h3,h8,h5,h4,hR,q1,q2,q3,a7,lV,Int.reduceEq,bn]
   repeat' first |exact .out fJ|exact .out (lQ J)|refine .ite (fun _=>?_) (fun _=>?_)|(exfalso; omega)
 ·by_cases h3:x0=3
  ·subst h3;obtain⟨ys,hR,hC⟩:=vu m hm 3 1 0 0 x4 0 0;refine dS.of ?_;rw [CX];rcases hC with ⟨l,rfl⟩|⟨rfl,q1,q2,q3,q4⟩
   ·simp only [qO,zz,aO,hn,hR,Int.reduceEq];exact .out fJ
   ·simp only [qO,zz,aO,hn,hR,q1,q2,q3,a7,lV,Int.reduceEq,bn]
    repeat' first |exact .out fJ|exact .out (lQ J)|refine .ite (fun _=>?_) (fun _=>?_)|(exfalso; omega)
  by_cases h8:x0=8
  ·subst h8;obtain⟨ys,hR,hC⟩:=vu m hm 8 1 0 0 x4 0 0;refine dS.of ?_;rw [CX];rcases hC with ⟨l,rfl⟩|⟨rfl,q1,q2,q3,q4⟩
   ·simp only [qO,zz,aO,hn,hR,Int.reduceEq];exact .out fJ
   ·simp only [qO,zz,aO,hn,hR,q1,q2,q3,a7,lV,Int.reduceEq,bn]
    repeat' first |exact .out fJ|exact .out (lQ J)|refine .ite (fun _=>?_) (fun _=>?_)|(exfalso; omega)
  by_cases h5:x0=5
  ·subst h5;obtain⟨ys,hR,hC⟩:=vu m hm 5 1 0 0 x4 0 0;refine dS.of ?_;rw [CX];rcases hC with ⟨l,rfl⟩|⟨rfl,q1,q2,q3,q4⟩
   ·simp only [qO,zz,aO,hn,hR,Int.reduceEq];exact .out fJ
   ·simp only [qO,zz,aO,hn,hR,q1,q2,q3,a7,lV,Int.reduceEq,bn]
    repeat' first |exact .out fJ|exact .out (lQ J)|refine .ite (fun _=>?_) (fun _=>?_)|(exfalso; omega)
  by_cases h4:x0=4
  ·subst h4;obtain⟨ys,hR,hC⟩:=XD m hm 0 0 4 0 0 0 x4 0 0;refine dS.of ?_;rw [CX];rcases hC with ⟨l,rfl⟩|⟨rfl,q1,q2,q3,q4⟩
   ·simp only [qO,zz,aO,hn,hR,Int.reduceEq];exact .out fJ
   ·simp only [qO,zz,aO,hn,hR,q1,q2,q3,a7,IP,Int.reduceEq,bn]
    repeat' first |exact .out fJ|exact .out (lQ J)|refine .ite (fun _=>?_) (fun _=>?_)|(exfalso; omega)
  obtain⟨ys,hR,hC⟩:=vu m hm x0 0 0 0 x4 0 0;refine dS.of ?_;rw [CX];rcases hC with ⟨l,rfl⟩|⟨rfl,q1,q2,q3,q4⟩
  ·simp only [qO,zz,aO,hn,h3,h8,h5,h4,hR,Int.reduceEq];exact .out fJ
  ·simp only [qO,zz,aO,hn,h3,h8,h5,h4,hR,q1,q2,q3,a7,lV,Int.reduceEq,bn]
   repeat' first |exact .out fJ|exact .out (lQ J)|refine .ite (fun _=>?_) (fun _=>?_)|(exfalso; omega)
theorem Su (M:Nat) (hM:M<=2513169434915) (x0 x3 x4 x5 x6 x7 x8 x9:Int): ∀(j m:Nat),m+j=M->1<=m->dS 954 [x0,(M:Int),(m:Int),x3,x4,x5,x6,x7,x8,x9,enc (rM m)] (B' x4 x6 1)
 |0,m,U,Z=>by
  obtain rfl:M=m:=J
  exact MS M Z x0 x3 x4 x5 x6 x7 x8 x9
 |j+1,m,U,Z=>by
  have ih:=Su M hM x0 x3 x4 x5 x6 x7 x8 x9 j (m+1) J J;have c1:(m:Int)<(M:Int):=J
  have c2:((m:Nat):Int)<2513169434915:=J
  have w:=bP (n:=m) J
  have hr:rM (m+1)=dL ((rM m).l++ [E1]):=by unfold rM;rw [bD,List.replicate_succ']
  rw [hr] at ih;refine dS.of ?_;rw [CX];simp only [qO,zz,c1,c2,sP,w];exact .jump ih
theorem MQ (x0 x1 x2 x3 x4 x5 x6 x8:Int) (d:D) (hd:d.l.length<=2513169434915):dS 950 [x0,x1,x2,x3,x4,x5,x6,enc d,x8] (B' x2 x4 x8):=by
 have key: ∀(t t2:Nat) (b:Int),(t=951/\t2=953/\b=0)\/(t=952/\t2=954/\b=1)->dS t [x0,(d.l.length:Int),x1,x2,x3,x4,x5,x6,enc d] (B' x2 x4 b):=by
  intro t t2 b ht;by_cases h0:d.l.length=0
  ·rw [h0];rcases ht with ⟨rfl,rfl,rfl⟩|⟨rfl,rfl,rfl⟩
   ·exact aaT x0 x1 x2 x3 x4 x5 x6 (enc d)
   ·exact aaS x0 x1 x2 x3 x4 x5 x6 (enc d)
  ·have c1:(0:Int)<(d.l.length:Int):=J
   have hr:enc (rM 1)=enc (dL ([]++ [E1])):=rfl;rcases ht with ⟨rfl,rfl,rfl⟩|⟨rfl,rfl,rfl⟩
   ·have:=Sv d.l.length hd x0 x1 x2 x3 x4 x5 x6 (enc d) (d.l.length-1) 1 J J;rw [hr] at this;refine dS.of ?_;rw [afP];simp only [aej,zz,c1,jr];exact .jump this
   ·have:=Su d.l.length hd x0 x1 x2 x3 x4 x5 x6 (enc d) (d.l.length-1) 1 J J;rw [hr] at this;refine dS.of ?_;rw [afO];simp only [aei,zz,c1,jr];exact .jump this
 refine dS.of ?_;rw [ajf];simp only [ahg,zz];exact .ite (fun h=> .jump ((key 951 953 0 (.inl ⟨rfl,rfl,rfl⟩)).mono fun ys ⟨c,a,b,e⟩=> ⟨c,a,b,fun q=>by have:=e q; omega⟩)) fun h=> .jump ((key 952 954 1 (.inr ⟨rfl,rfl,rfl⟩)).mono fun ys ⟨c,a,b,e⟩=> ⟨c,a,b,fun q=> ⟨.inr h,(e q).2⟩⟩)
def OkI (d0:D) (nl nc:Nat) (dx op ob EG to:Int) (na:Nat):Prop:=
 (dx=1/\0<=ob/\ob<(d0.l.length:Int)/\(EG= -1\/0<=EG/\EG<(nl:Int))/\(op=16->0<=to/\to<=(nc:Int)))\/
 (dx=2/\0<=ob/\ob<(d0.l.length:Int))\/(dx=3/\0<=EG/\EG<(nl:Int)/\(na:Int)=1)\/(dx=4/\0<=to/\to<=(nc:Int)/\(na:Int)=1)\/
 (dx=5/\0<=to/\to<=(nc:Int))\/(dx=6/\0<=EG/\EG<(nl:Int))\/(dx=7/\0<=EG/\EG<(nl:Int)/\0<=to/\to<=(nc:Int))
def isI (p:Prop) (ys:List Int):Prop:= ∃c:Int,ys= [c]/\(c=0\/c=1)/\(c=1->p)
theorem ain {p:Prop}:isI p [0]:=⟨0,rfl,.inl rfl,fun h=>absurd h J⟩
theorem aim {p:Prop} (h:p):isI p [1]:=⟨1,rfl,.inr rfl,fun _=>h⟩
def pU (d0:D) (k n:Int):Prop:=1<=k/\k<=9/\(k=1\/k=2\/k=6\/k=7->n=0)/\(k=3\/k=8->1<=n/\n<=1048576)/\(k=5->1<=n/\n<=16)/\(k=4->0<=n/\n<(d0.l.length:Int)/\((d0.at n).hd 0).n=1)
def Ri (d0:D) (x:D):Prop:=pU d0 (x.hd 0).n (x.hd 2).n
def aeV (d0:D) (k n:Int) (ys:List Int):Prop:= ∃b:Int,ys= [b]/\(b=0\/b=1)/\(b≠0->pU d0 k n)
def mB (d0 d1:D):Prop:=d0.l.length<=64/\d1.l.length<=16/\∀x∈d0.l,Ri d0 x
def acd (d0 x:D):Prop:= ∀y∈(x.hd 2).l,OkI d0 (x.hd 1).l.length (x.hd 2).l.length (y.hd 0).n (y.hd 1).n (y.hd 2).n (y.hd 3).n (y.hd 4).n (y.hd 6).l.length
def aio (d0 d1:D) (ys:List Int):Prop:= ∃b:Int,ys= [b]/\(b=0\/b=120)/\(b=0->mB d0 d1/\∀x∈d1.l,acd d0 x)
def OkJ (d0:D) (nl nc:Nat) (dx op ob EG to:Int) (na:Nat):Prop:=OkI d0 nl nc dx op ob EG to na/\(dx=1->op<=23)
def Jz (d0 x:D):Prop:= ∀y∈(x.hd 2).l,OkJ d0 (x.hd 1).l.length (x.hd 2).l.length (y.hd 0).n (y.hd 1).n (y.hd 2).n (y.hd 3).n (y.hd 4).n (y.hd 6).l.length
def yx (d0 d1:D) (ys:List Int):Prop:= ∃b:Int,ys= [b]/\(b=0\/b=120)/\(b=0->mB d0 d1/\∀x∈d1.l,Jz d0 x)
theorem yZ {d:D} (h:Wd (.sl 4) d) {i:Nat} (hi:i<d.l.length): ∃xI lc cd,d.l[i]=dL [xI,lc,cd]/\Wd .str xI/\Wd (.sl 2) lc/\Wd (.sl 5) cd:=by
 obtain⟨r,U,W,hc⟩:=h.elN (cs:=[.str,.sl 2,.sl 5]) rfl _ (aG hi)
 match r,W with
 |[a,b,c],_=>exact⟨a,b,c,U,hc 0 _ _ rfl rfl,hc 1 _ _ rfl rfl,hc 2 _ _ rfl rfl⟩
theorem ON {d:D} (h:Wd (.sl 5) d) {i:Nat} (hi:i<d.l.length): ∃a b c e f g Gi,d.l[i]=dL [.i a,.i b,.i c,.i e,.i f,.i g,Gi]/\eE .u8 a/\eE .u8 b/\eE .i64 c/\eE .i64 e/\eE .i64 f/\eE .i64 g/\Wd (.sl 6) Gi:=by
 obtain⟨r,U,W,hc⟩:=h.elN (cs:=[.int .u8,.int .u8,.int .i64,.int .i64,.int .i64,.int .i64,.sl 6]) rfl _ (aG hi)
 match r,W with
 |[a,b,c,e,f,g,Gi],_=> obtain⟨a,rfl,ha⟩:=(hc 0 _ _ rfl rfl).i;obtain⟨b,rfl,hb⟩:=(hc 1 _ _ rfl rfl).i;obtain⟨c,rfl,hc'⟩:=(hc 2 _ _ rfl rfl).i;obtain⟨e,rfl,he⟩:=(hc 3 _ _ rfl rfl).i;obtain⟨f,rfl,hf⟩:=(hc 4 _ _ rfl rfl).i;obtain⟨g,rfl,hg⟩:=(hc 5 _ _ rfl rfl).i;exact⟨a,b,c,e,f,g,Gi,U,ha,hb,hc',he,hf,hg,hc 6 _ _ rfl rfl⟩
set_option maxHeartbeats 2000000 in
theorem aaf (d0 d1 d3 d4 d:D) (x2 x5 x6 x7 x8 x9 KQ:Int) (hd:d.l.length<=2513169434915):dS 750 [enc d0,enc d1,x2,enc d3,enc d4,x5,x6,x7,x8,x9,KQ,enc d] (isI (OkJ d0 d3.l.length d4.l.length x5 x6 x7 x8 x9 d.l.length)):=by
 unfold OkJ OkI;obtain⟨ys,h0,b0,rfl,_,f0⟩:=MQ ((d0.at x7).hd 0).n x5 x6 x7 x8 x9 KQ 0 d hd;obtain⟨ys,U,b1,rfl,_,f1⟩:=MQ ((d0.at x7).hd 0).n x5 x6 x7 x8 x9 KQ 1 d hd;refine dS.of ?_;rw [ajj];simp only [aho,zz,h0,U]
 repeat' first |exact .out ain|exact .out (aim J)|refine .ite (fun _=>?_) (fun _=>?_)
theorem Ui (d0:D) (x1 x2 x3 x4 x5 x6:Int):dS 700 [enc d0,x1,x2,x3,x4,x5,x6] (aeV d0 x2 x4):=by
 refine dS.of ?_;rw [ajk];simp only [ahp,zz]
 repeat' first
  |exact .out ⟨0,rfl,.inl rfl,fun h=>absurd rfl h⟩
  |exact .out ⟨1,rfl,.inr rfl,fun _=> ⟨J,J,J,J,J,fun h4=>by first |omega|exact⟨J,J,by assumption⟩⟩⟩
  |refine .ite (fun _=>?_) (fun _=>?_)
section
variable {d0 d1:D} (h0:Wd (.sl 3) d0) (U:Wd (.sl 4) d1)
include U
theorem yY (hx: ∀x y:Int,x=y->True): ∀(j i:Nat),i+j=d1.l.length->dS 453 [enc d1,(d1.l.length:Int),(i:Int),enc d0] (yx d0 d1)
 |0,i,hi=>by
  have c1: ¬(i:Int)<(d1.l.length:Int):=J
  refine dS.of ?_;rw [afV];simp only [aeo,zz,c1];exact .out ⟨120,rfl,.inr rfl,fun h=>by omega⟩
 |j+1,i,hi=>by
  have W:=U.len;have c1:(i:Int)<(d1.l.length:Int):=J
  have c2: ¬((i:Int)<0):=J
  have w:=bP (n:=i) J;refine dS.of ?_;rw [afV];simp only [aeo,zz,c1,c2];refine .jump (dS.of ?_);rw [afT];simp only [aem,zz,w];exact .ite (fun _=> .jump (yY hx j (i+1) J)) fun _=> .jump (yY hx j (i+1) J)
theorem IS (i:Nat) (hi:i<d1.l.length) (j:Nat) (hj:i+1+j=d1.l.length) (x0 x5 x6 x7:Int):dS 455 [x0,enc d1,(d1.l.length:Int),(i:Int),enc d0,x5,x6,x7] (yx d0 d1):=by have W:=U.len;have w:=bP (n:=i) J;refine dS.of ?_;rw [afT];simp only [aem,zz,w];exact .ite (fun _=> .jump (yY U (fun _ _ _=>trivial) j (i+1) J)) fun _=> .jump (yY U (fun _ _ _=>trivial) j (i+1) J)
theorem Lh (hg:mB d0 d1): ∀(j i:Nat),i+j=d1.l.length->(∀(n:Nat) (h:n<d1.l.length),n<i->Jz d0 d1.l[n])->dS 454 [enc d1,(d1.l.length:Int),(i:Int),enc d0] (yx d0 d1)
 |0,i,hi,hp=>by
  have c1: ¬(i:Int)<(d1.l.length:Int):=J
  refine dS.of ?_;rw [afU];simp only [aen,zz,c1];refine .out ⟨0,rfl,.inl rfl,fun _=> ⟨hg,fun x hx=>?_⟩⟩;obtain⟨n,hn,rfl⟩:=am7 hx;exact hp n hn J
 |j+1,i,hi,hp=>by
  have W:=U.len;have dU:i<d1.l.length:=J
  have c1:(i:Int)<(d1.l.length:Int):=J
  have c2: ¬((i:Int)<0):=J
  have w:=bP (n:=i) J;obtain⟨xI,lc,cd,he,hn,hlc,RW⟩:=yZ U dU;have Dr:=RW.len;have e1:(d1.l[i]).hd 1=lc:=by rw [he,eT]; rfl
  have e2:(d1.l[i]).hd 2=cd:=by rw [he,eT]; rfl
  have loop: ∀(m k:Nat),k+m=cd.l.length->(∀(n:Nat) (h:n<cd.l.length),n<k->OkJ d0 lc.l.length cd.l.length ((cd.l[n]).hd 0).n ((cd.l[n]).hd 1).n ((cd.l[n]).hd 2).n ((cd.l[n]).hd 3).n ((cd.l[n]).hd 4).n ((cd.l[n]).hd 6).l.length)->dS 456 [(k:Int),enc d1,(d1.l.length:Int),(i:Int),enc d0,enc xI,enc lc,enc cd] (yx d0 d1):=by
   intro m
   induction m with
   |zero=>
    intro k hk hq;have c3: ¬(k:Int)<(cd.l.length:Int):=J
    have ih:=Lh hg j (i+1) J fun n hn hni=>by
     by_cases gB:n=i
     ·subst gB;unfold Jz;rw [e1,e2];intro y hy;obtain⟨z,hz,rfl⟩:=am7 hy;exact hq z hz J
     ·exact hp n hn J
    refine dS.of ?_;rw [afS];simp only [ael,zz,c3,w];exact .jump ih
   |succ m ihm=>
    intro k hk hq;have OY:k<cd.l.length:=J
    have c3:(k:Int)<(cd.l.length:Int):=J
    have c4: ¬((k:Int)<0):=J
    have w2:=bP (n:=k) J;obtain⟨a,b,c,e,f,g,Gi,AU,_,_,_,_,_,_,has⟩:=ON RW OY;have ld:=has.room
    have Vv:Gi.l.length<=2513169434915:=by have:te 6=56:=rfl;rw [this] at ld;omega
    obtain⟨ys,hM,q,rfl,ama,hqI⟩:=aaf d0 d1 lc cd Gi (enc xI) a b c e f g Vv;obtain⟨ys,hX,r,rfl,_⟩:=UI Gi lc (enc xI) (enc cd) has;refine dS.of ?_;rw [afS];simp only [ael,zz,c3,c4,bV OY,AU,zg,hM,hX,w2];refine .ite (fun _=> .jump (IS U i dU j J _ _ _ _)) fun hq0=> .ite (fun _=> .jump (ihm (k+1) J fun n hn hnk=>?_)) fun _=> .jump (IS U i dU j J _ _ _ _);by_cases gB:n=k
    ·subst gB;simp only [AU,zg];exact hqI J
    ·exact hq n hn J
  refine dS.of ?_;rw [afU];simp only [aen,zz,c1,c2,bV dU,he,zg];exact .ite (fun _=> .jump (IS U i dU j J _ _ _ _)) fun _=> .ite (fun _=> .jump (IS U i dU j J _ _ _ _)) fun _=> .jump (loop cd.l.length 0 J fun n hn h=>absurd h J)
include h0
theorem Di: ∀(j i:Nat),i+j=d0.l.length->dS 451 [enc d0,(d0.l.length:Int),(i:Int),enc d1] (yx d0 d1)
 |0,i,hi=>by
  have c1: ¬(i:Int)<(d0.l.length:Int):=J
  refine dS.of ?_;rw [afX];simp only [aeq,zz,c1];exact .jump (yY U (fun _ _ _=>trivial) d1.l.length 0 J)
 |j+1,i,hi=>by
  have W:=h0.len;have c1:(i:Int)<(d0.l.length:Int):=J
  have c2: ¬((i:Int)<0):=J
  have w:=bP (n:=i) J;refine dS.of ?_;rw [afX];simp only [aeq,zz,c1,c2,w];exact .jump (Di j (i+1) J)
theorem LJ (hs:d0.l.length<=64) (ht:d1.l.length<=16): ∀(j i:Nat),i+j=d0.l.length->(∀(k:Nat) (h:k<d0.l.length),k<i->Ri d0 d0.l[k])->dS 452 [enc d0,(d0.l.length:Int),(i:Int),enc d1] (yx d0 d1)
 |0,i,hi,hp=>by
  have c1: ¬(i:Int)<(d0.l.length:Int):=J
  refine dS.of ?_;rw [afW];simp only [aep,zz,c1];refine .jump (Lh U ⟨hs,ht,fun x hx=>?_⟩ d1.l.length 0 J fun n hn h=>absurd h J);obtain⟨k,hk,rfl⟩:=am7 hx;exact hp k hk J
 |j+1,i,hi,hp=>by
  have dU:i<d0.l.length:=J
  have c1:(i:Int)<(d0.l.length:Int):=J
  have c2: ¬((i:Int)<0):=J
  have w:=bP (n:=i) J;obtain⟨ys,hO,b,rfl,_,Gf⟩:=Ui d0 (enc d1) ((d0.l[i]).hd 0).n (enc ((d0.l[i]).hd 1)) ((d0.l[i]).hd 2).n (enc ((d0.l[i]).hd 3)) ((d0.l[i]).hd 4).n;refine dS.of ?_;rw [afW];simp only [aep,zz,c1,c2,w,bV dU,hO];refine .ite (fun _=> .jump (Di h0 U j (i+1) J)) fun hb=> .jump (LJ hs ht j (i+1) J fun k hk C?=>?_);by_cases hke:k=i
  ·subst hke;exact Gf hb
  ·exact hp k hk J
theorem FR:dS 450 [enc d0,enc d1] (yx d0 d1):=by
 refine dS.of ?_;rw [ajr];simp only [ahw,zz]
 exact .ite (fun _=> .jump (Di h0 U d0.l.length 0 J)) fun ha=> .ite (fun _=> .jump (Di h0 U d0.l.length 0 J)) fun hb=>
  .jump (LJ h0 U J J d0.l.length 0 J fun k hk C?=>by omega)
theorem xg:dS 450 [enc d0,enc d1] (aio d0 d1):=(FR h0 U).mono fun ys ⟨b,e,q,h⟩=> ⟨b,e,q,fun hb=> ⟨(h hb).1,fun x hx y hy=>((h hb).2 x hx y hy).1⟩⟩
end
def one (ys:List Int):Prop:= ∃k:Int,ys= [k]
theorem ahb {o:Int} (h:eE .u8 o):IntKind.i64.wrap o=o:=mK (by have:=h.1; omega) (by have:=h.2; omega)
theorem X0 (a b c d e:Int):dS 650 [a,b,c,d,e] (fun ys=> ∃k l:Int,ys= [k,l]/\(l=0\/l=1)):=by
 refine dS.of ?_;rw [aaG];simp only [O!,zz]
 repeat' first |exact .out ⟨_,_,rfl,.inl rfl⟩|exact .out ⟨_,_,rfl,.inr rfl⟩|refine .ite (fun _=>?_) (fun _=>?_)
theorem GU (r:D) (W:r.l.length<=140737488351232) (x0 x4 x5 x6 x7 x8 x9 KQ x11 x12:Int) (v:D): ∀(j i:Nat) (x14:Int),i+j=r.l.length->
 dS 501 [x0,enc r,(r.l.length:Int),(i:Int),x4,x5,x6,x7,x8,x9,KQ,x11,x12,enc v,x14] yy
 |0,i,x14,hi=>by
  have c1: ¬(i:Int)<(r.l.length:Int):=J
  refine dS.of ?_;rw [UT];simp only [N5,zz,c1]
  repeat' first |exact .out tP|exact .out tO|refine .ite (fun _=>?_) (fun _=>?_)
 |j+1,i,x14,hi=>by
  have c1:(i:Int)<(r.l.length:Int):=J
  have c2: ¬((i:Int)<0):=J
  have w:=bP (n:=i) J;have ih:=fun x=>GU r W x0 x4 x5 x6 x7 x8 x9 KQ x11 x12 v j (i+1) x J;refine dS.of ?_;rw [UT];simp only [N5,zz,c1,c2,w]
  repeat' first |exact .out tP|exact .out tO|exact .jump (ih _)|refine .ite (fun _=>?_) (fun _=>?_)
theorem Oj (x0 x1 x2 x3 x4 x5 x6 x7 x8 x11:Int) (r v:D) (W:r.l.length<=140737488351232):dS 500 [x0,x1,x2,x3,x4,x5,x6,x7,x8,enc r,enc v,x11] yy:=by
 obtain⟨ys,hM,a,b,rfl,hb⟩:=X0 x0 x1 x2 x3 x4;have ih:=GU r W x11 x0 x1 x2 x3 x4 x5 x6 x7 x8 v r.l.length 0 (enc (.i 0)) J;refine dS.of ?_;rw [aaH];simp only [WJ,zz,hM]
 repeat' first |exact .out tP|exact .out tO|exact .jump ih|refine .ite (fun _=>?_) (fun _=>?_)
theorem ek {d:D} (hd:d=dL d.l) {i:Nat} (hi:i<d.l.length):dL (fI d.l (i:Int) d.l[i])=d:=by rw [sH,List.set_getElem_self,<- hd]
theorem A7 (a b c d e f x:D):fI [a,b,c,d,e,f] 4 x= [a,b,c,d,x,f]:=rfl
theorem A6 (a b c d e f x:D):fI [a,b,c,d,e,f] 5 x= [a,b,c,d,e,x]:=rfl
theorem jf: ¬(enc (.i 2)=enc (.i 1)):=fun h=>by have:=fg h; simp at this
theorem im:(((D.i 1).l.length:Nat):Int)=0:=rfl
theorem jh:(((D.i 2).l.length:Nat):Int)=0:=rfl
theorem oT: ¬((0:Int)<0):=J
theorem cj {r:D} (h:Wd (.sl 0) r):r= .i 1\/r= .i 2\/((0:Int)<(r.l.length:Int)/\(r.l.length:Int)<17592186044416):=by
 rcases h.sh with U|U|⟨U,Z⟩
 ·grind
 ·grind
 ·have hr:=h.room;have h3:te 0=8:=rfl;rw [h3] at hr;have:=amI.2 Z
  grind
structure Th (d:D):Prop where
 wd:Wd (.sl 7) d
 sh:d=dL d.l
 kS:d.l.length<=1759218604390
theorem uK {d:D} (h:Wd (.sl 7) d) (hn:0<d.l.length):Th d:=by
 refine⟨h,?_,?_⟩
 ·rcases h.sh with rfl|rfl|⟨U,_⟩
  all_goals grind [D.l]
 ·have hr:=h.room
  grind [te]
theorem Iq (d:D) (h:Th d): ∀(j i:Nat),i+j=d.l.length->L 551 [enc d,(d.l.length:Int),(i:Int)]=some [enc d]
 |0,i,hi=>by simp_all [bM,afR,aek,zz,fin]
 |j+1,i,hi=>by
  have W:=h.kS;have dU:i<d.l.length:=J
  have c1:(i:Int)<(d.l.length:Int):=J
  have c2: ¬((i:Int)<0):=J
  have w:=bP (n:=i) J;have ih:=Iq d h j (i+1) J;obtain⟨o,c,dn,g,r,v,he,_,_,_,_,hr,hv⟩:=h.wd.mM _ (aG dU);have hs:=ek h.sh dU;rw [he] at hs;rw [bM,afR];rcases cj hr with rfl|rfl|⟨r1,r2⟩ <;>rcases cj hv with rfl|rfl|⟨v1,v2⟩
  all_goals
   simp only [aek,zz,c1,c2,w,bV dU,he,eT,bD,aL,aM,A7,A6,hs,im,jh,oT,jf]
   try simp only [r1,r2,zz]
   try simp only [v1,v2,zz]
   try simp only [fin]
   exact ih
theorem j_ (d:D) (h:Wd (.sl 7) d):L 550 [enc d]=some [enc d]:=by
 rw [bM,ajq];rcases h.sh with rfl|rfl|⟨U,Z⟩
 ·simp only [O?,zz,im,oT,fin];rw [bM,ajp];rfl
 ·simp only [O?,zz,jh,oT,jf,fin];rw [bM,ajo];rfl
 ·have hp:=amI.2 Z;have ht:=uK h hp;have W:=ht.kS;have c1:(0:Int)<(d.l.length:Int):=J
  have c2:(d.l.length:Int)<1759218604441:=J
  simp only [O?,zz,c1,c2,fin];exact Iq d ht d.l.length 0 J
theorem Iu (d:D) (h:Th d) (gi:Nat) (x4 x5 x6 x7 x8 x9:Int): ∀(j i:Nat),gi<i->i+j=d.l.length->L 9004 [(gi:Int),enc d,(d.l.length:Int),(i:Int),x4,x5,x6,x7,x8,x9]=some [3,(gi:Int),enc d,x4,x5,x6,x7,x8,x9]
 |0,i,hg,hi=>by simp_all [bM,Zx,WC,zz,fin]
 |j+1,i,hg,hi=>by
  have W:=h.kS;have dU:i<d.l.length:=J
  have c1:(i:Int)<(d.l.length:Int):=J
  have c2: ¬((i:Int)<0):=J
  have c0: ¬((i:Int)=(gi:Int)):=J
  have w:=bP (n:=i) J;have ih:=Iu d h gi x4 x5 x6 x7 x8 x9 j (i+1) J J;obtain⟨o,c,dn,g,r,v,he,_,_,_,_,hr,hv⟩:=h.wd.mM _ (aG dU);have hs:=ek h.sh dU;rw [he] at hs;rw [bM,Zx];rcases cj hr with rfl|rfl|⟨r1,r2⟩ <;>rcases cj hv with rfl|rfl|⟨v1,v2⟩
  all_goals
   simp only [WC,zz,c0,c1,c2,w,bV dU,he,eT,bD,aL,aM,A7,A6,hs,im,jh,oT,jf]
   try simp only [r1,r2,zz]
   try simp only [v1,v2,zz]
   try simp only [fin]
   exact ih
theorem It (d:D) (h:Th d) (gi:Nat) (x4 x5 x6 x7 x8 x9:Int): ∀(j i:Nat),gi<i->i+j=d.l.length->L 9005 [(gi:Int),enc d,(d.l.length:Int),(i:Int),x4,x5,x6,x7,x8,x9]=some [4,(gi:Int),enc d,x4,x5,x6,x7,x8,x9]
 |0,i,hg,hi=>by simp_all [bM,Zw,WB,zz,fin]
 |j+1,i,hg,hi=>by
  have W:=h.kS;have dU:i<d.l.length:=J
  have c1:(i:Int)<(d.l.length:Int):=J
  have c2: ¬((i:Int)<0):=J
  have c0: ¬((i:Int)=(gi:Int)):=J
  have w:=bP (n:=i) J;have ih:=It d h gi x4 x5 x6 x7 x8 x9 j (i+1) J J;obtain⟨o,c,dn,g,r,v,he,_,_,_,_,hr,hv⟩:=h.wd.mM _ (aG dU);have hs:=ek h.sh dU;rw [he] at hs;rw [bM,Zw];rcases cj hr with rfl|rfl|⟨r1,r2⟩ <;>rcases cj hv with rfl|rfl|⟨v1,v2⟩
  all_goals
   simp only [WB,zz,c0,c1,c2,w,bV dU,he,eT,bD,aL,aM,A7,A6,hs,im,jh,oT,jf]
   try simp only [r1,r2,zz]
   try simp only [v1,v2,zz]
   try simp only [fin]
   exact ih
theorem Is (d:D) (h:Th d) (gi:Nat) (x4 x5 x6 x7 x8 x9:Int): ∀(j i:Nat),gi<i->i+j=d.l.length->L 9006 [(gi:Int),enc d,(d.l.length:Int),(i:Int),x4,x5,x6,x7,x8,x9]=some [5,(gi:Int),enc d,x4,x5,x6,x7,x8,x9]
 |0,i,hg,hi=>by simp_all [bM,Zv,WA,zz,fin]
 |j+1,i,hg,hi=>by
  have W:=h.kS;have dU:i<d.l.length:=J
  have c1:(i:Int)<(d.l.length:Int):=J
  have c2: ¬((i:Int)<0):=J
  have c0: ¬((i:Int)=(gi:Int)):=J
  have w:=bP (n:=i) J;have ih:=Is d h gi x4 x5 x6 x7 x8 x9 j (i+1) J J;obtain⟨o,c,dn,g,r,v,he,_,_,_,_,hr,hv⟩:=h.wd.mM _ (aG dU);have hs:=ek h.sh dU;rw [he] at hs;rw [bM,Zv];rcases cj hr with rfl|rfl|⟨r1,r2⟩ <;>rcases cj hv with rfl|rfl|⟨v1,v2⟩
  all_goals
   simp only [WA,zz,c0,c1,c2,w,bV dU,he,eT,bD,aL,aM,A7,A6,hs,im,jh,oT,jf]
   try simp only [r1,r2,zz]
   try simp only [v1,v2,zz]
   try simp only [fin]
   exact ih
theorem Ir (d:D) (h:Th d) (gi:Nat) (x4 x5 x6 x7 x8 x9:Int): ∀(j i:Nat),gi<i->i+j=d.l.length->L 9007 [(gi:Int),enc d,(d.l.length:Int),(i:Int),x4,x5,x6,x7,x8,x9]=some [6,(gi:Int),enc d,x4,x5,x6,x7,x8,x9]
 |0,i,hg,hi=>by simp_all [bM,Zu,Wz,zz,fin]
 |j+1,i,hg,hi=>by
  have W:=h.kS;have dU:i<d.l.length:=J
  have c1:(i:Int)<(d.l.length:Int):=J
  have c2: ¬((i:Int)<0):=J
  have c0: ¬((i:Int)=(gi:Int)):=J
  have w:=bP (n:=i) J;have ih:=Ir d h gi x4 x5 x6 x7 x8 x9 j (i+1) J J;obtain⟨o,c,dn,g,r,v,he,_,_,_,_,hr,hv⟩:=h.wd.mM _ (aG dU);have hs:=ek h.sh dU;rw [he] at hs;rw [bM,Zu];rcases cj hr with rfl|rfl|⟨r1,r2⟩ <;>rcases cj hv with rfl|rfl|⟨v1,v2⟩
  all_goals
   simp only [Wz,zz,c0,c1,c2,w,bV dU,he,eT,bD,aL,aM,A7,A6,hs,im,jh,oT,jf]
   try simp only [r1,r2,zz]
   try simp only [v1,v2,zz]
   try simp only [fin]
   exact ih
def mn (r v:D):Int:=if 0<r.l.length then (if 0<v.l.length then 3 else 4) else (if 0<v.l.length then 5 else 6)
theorem adz (d:D) (h:Th d) (gi:Nat) (xN:gi<d.l.length) (o c dn g:Int) (r v:D) (yV:d.l[gi]=dL [.i o,.i c,.i dn,.i g,r,v]): ∀(j i:Nat),i<=gi->i+j=gi->
 L 9001 [(gi:Int),enc d,(d.l.length:Int),(i:Int)]=some [mn r v,(gi:Int),enc d,o,c,dn,g,enc r,enc v]
 |0,i,hg,hi=>by
  obtain rfl:i=gi:=J
  have W:=h.kS;have c1:(i:Int)<(d.l.length:Int):=J
  have c2: ¬((i:Int)<0):=J
  have w:=bP (n:=i) J;obtain⟨o',c',ia,g',r',v',he,_,_,_,_,hr,hv⟩:=h.wd.mM _ (aG xN);rw [yV] at he;have he:=BT he;simp only [List.cons.injEq,D.i.injEq,and_true] at he;obtain⟨rfl,rfl,rfl,rfl,rfl,rfl⟩:=he;have b4:=fun a b=>Iu d h i o c dn g a b (d.l.length-(i+1)) (i+1) J J;have b5:=fun a b=>It d h i o c dn g a b (d.l.length-(i+1)) (i+1) J J;have b6:=fun a b=>Is d h i o c dn g a b (d.l.length-(i+1)) (i+1) J J;have b7:=fun a b=>Ir d h i o c dn g a b (d.l.length-(i+1)) (i+1) J J;rw [bM,MN];rcases cj hr with rfl|rfl|⟨r1,r2⟩
  ·rcases cj hv with rfl|rfl|⟨v1,v2⟩
   ·simp only [sD,zz,c1,c2,w,bV xN,yV,eT,bD,aL,aM,im,oT,fin,b7]
    grind [mn,D.l]
   ·simp only [sD,zz,c1,c2,w,bV xN,yV,eT,bD,aL,aM,im,oT,jh,jf,fin,b7]
    grind [mn,D.l]
   ·simp only [sD,zz,c1,c2,w,bV xN,yV,eT,bD,aL,aM,im,oT,v1,v2,fin,b6]
    grind [mn,D.l]
  ·rcases cj hv with rfl|rfl|⟨v1,v2⟩
   ·simp only [sD,zz,c1,c2,w,bV xN,yV,eT,bD,aL,aM,jh,oT,jf,im,fin,b7]
    grind [mn,D.l]
   ·simp only [sD,zz,c1,c2,w,bV xN,yV,eT,bD,aL,aM,jh,oT,jf,fin,b7]
    grind [mn,D.l]
   ·simp only [sD,zz,c1,c2,w,bV xN,yV,eT,bD,aL,aM,jh,oT,jf,v1,v2,fin,b6]
    grind [mn,D.l]
  ·rcases cj hv with rfl|rfl|⟨v1,v2⟩
   ·simp only [sD,zz,c1,c2,w,bV xN,yV,eT,bD,aL,aM,r1,r2,im,oT,fin,b5]
    grind [mn,D.l]
   ·simp only [sD,zz,c1,c2,w,bV xN,yV,eT,bD,aL,aM,r1,r2,jh,oT,jf,fin,b5]
    grind [mn,D.l]
   ·simp only [sD,zz,c1,c2,w,bV xN,yV,eT,bD,aL,aM,r1,r2,v1,v2,fin,b4]
    grind [mn]
 |j+1,i,hg,hi=>by
  have W:=h.kS;have dU:i<d.l.length:=J
  have c1:(i:Int)<(d.l.length:Int):=J
  have c2: ¬((i:Int)<0):=J
  have c0: ¬((i:Int)=(gi:Int)):=J
  have w:=bP (n:=i) J;have ih:=adz d h gi xN o c dn g r v yV j (i+1) J J;clear yV;obtain⟨o2,NL,KY,g2,r2',v2',he,_,_,_,_,hr,hv⟩:=h.wd.mM _ (aG dU);have hs:=ek h.sh dU;rw [he] at hs;rw [bM,MN];rcases cj hr with rfl|rfl|⟨r1,r2⟩ <;>rcases cj hv with rfl|rfl|⟨v1,v2⟩
  all_goals
   simp only [sD,zz,c0,c1,c2,w,bV dU,he,eT,bD,aL,aM,A7,A6,hs,im,jh,oT,jf]
   try simp only [r1,r2,zz]
   try simp only [v1,v2,zz]
   try simp only [fin]
   exact ih
theorem ady (d:D) (h:Th d) (gi:Nat) (xN:gi<d.l.length) (o c dn g:Int) (r v:D) (yV:d.l[gi]=dL [.i o,.i c,.i dn,.i g,r,v]) :
 L 9000 [(gi:Int),enc d]=some [mn r v,(gi:Int),enc d,o,c,dn,g,enc r,enc v]:=by
 have W:=h.kS;have c1:(0:Int)<(d.l.length:Int):=J
 have c2:(d.l.length:Int)<1759218604441:=J
 rw [bM,Zy];simp only [Li,zz,c1,c2,fin];exact adz d h gi xN o c dn g r v yV gi 0 J J
theorem FP (d:D) (h:Th d) (x:Int) (hx:x<0\/(d.l.length:Int)<=x): ∀(j i:Nat),i+j=d.l.length->L 9001 [x,enc d,(d.l.length:Int),(i:Int)]=some [0,x,enc d]
 |0,i,hi=>by simp_all [bM,MN,sD,zz,fin]
 |j+1,i,hi=>by
  have W:=h.kS;have dU:i<d.l.length:=J
  have c1:(i:Int)<(d.l.length:Int):=J
  have c2: ¬((i:Int)<0):=J
  have c0: ¬((i:Int)=x):=J
  have w:=bP (n:=i) J;have ih:=FP d h x hx j (i+1) J;obtain⟨o,c,dn,g,r,v,he,_,_,_,_,hr,hv⟩:=h.wd.mM _ (aG dU);have hs:=ek h.sh dU;rw [he] at hs;rw [bM,MN];rcases cj hr with rfl|rfl|⟨r1,r2⟩ <;>rcases cj hv with rfl|rfl|⟨v1,v2⟩
  all_goals
   simp only [sD,zz,c0,c1,c2,w,bV dU,he,eT,bD,aL,aM,A7,A6,hs,im,jh,oT,jf]
   try simp only [r1,r2,zz]
   try simp only [v1,v2,zz]
   try simp only [fin]
   exact ih
theorem ajw (d:D) (h:Wd (.sl 7) d) (x:Int) (hx:x<0\/(d.l.length:Int)<=x):dS 9000 [x,enc d] (fun ys=>ys= [0,x,enc d]\/(ys= [1,x]/\d= .i 1)\/(ys= [2,x]/\d= .i 2)):=by
 refine dS.of ?_;rw [Zy];rcases h.sh with rfl|rfl|⟨U,Z⟩
 ·simp only [Li,zz,im,oT];refine .jump (dS.of ?_);rw [acH];simp only [abu,zz];exact .ite (fun _=> .out (.inr (.inl rfl))) fun _=> .out (.inr (.inl rfl))
 ·simp only [Li,zz,jh,oT,jf];refine .jump (dS.of ?_);rw [acG];simp only [abt,zz];exact .ite (fun _=> .out (.inr (.inr rfl))) fun _=> .out (.inr (.inr rfl))
 ·have hp:=amI.2 Z;have ht:=uK h hp;have W:=ht.kS;have c1:(0:Int)<(d.l.length:Int):=J
  have c2:(d.l.length:Int)<1759218604441:=J
  simp only [Li,zz,c1,c2];exact .jump ⟨_,FP d ht x hx d.l.length 0 J,.inl rfl⟩
def Q! (d x:D) (m:Nat):List Int:=[(d.hd 0).n,enc (d.hd 1),(d.hd 2).n,enc (d.hd 3),(d.hd 4).n,(x.hd 0).n,(x.hd 1).n,(if (x.hd 2).n=0 then 0 else 1),(x.hd 3).n,enc (x.hd 4),enc (x.hd 5),(m:Int)]
def Snd (d x:D) (m:Nat):Prop:=L 500 (Q! d x m)=some [1]
theorem Q' (d x:D) (m:Nat) (h:(x.hd 4).l.length<=140737488351232): ∃c,L 500 (Q! d x m)=some [c]/\(c=0\/c=1):=by obtain⟨ys,U,c,rfl,hc⟩:=Oj (d.hd 0).n (enc (d.hd 1)) (d.hd 2).n (enc (d.hd 3)) (d.hd 4).n (x.hd 0).n (x.hd 1).n (if (x.hd 2).n=0 then 0 else 1) (x.hd 3).n (m:Int) (x.hd 4) (x.hd 5) h;exact⟨c,U,hc⟩
theorem bF:((1:Int)=0)=False:=ad
def Be (s:D):Prop:= ∀x∈s.l,(x.hd 4).l.length<=140737488351232
section
variable {d0 d1 s:D} (hr:Be s) (hle:s.l.length=d0.l.length) (hlen:d0.l.length<=140737488351232)
include hr hle hlen
theorem D8: ∀(j i:Nat),i+j=s.l.length->∃b:Int,L 351 [enc s,(s.l.length:Int),(i:Int),enc d0,enc d1]=some [b]/\(b=0\/b=1)/\
 (b=1↔∀(k:Nat) (hk:k<s.l.length),i<=k->Snd (d0.l[k]'(hle▸hk)) s.l[k] d1.l.length)
 |0,i,hi=>by
  have c1: ¬(i:Int)<(s.l.length:Int):=J
  refine⟨1,?_,.inr rfl,fun _ k hk h=>absurd hk J,fun _=>rfl⟩;rw [bM,aaI];simp only [TG,zz,c1,fin]
 |j+1,i,hi=>by
  have dU:i<s.l.length:=J
  have hid:i<d0.l.length:=J
  have c1:(i:Int)<(s.l.length:Int):=J
  have c2: ¬((i:Int)<0):=J
  have c3:(i:Int)<(d0.l.length:Int):=J
  have w:=bP (n:=i) J;obtain⟨c,hS,hc⟩:=Q' d0.l[i] s.l[i] d1.l.length (hr _ (aG dU));obtain⟨b,RX,rQ,ih⟩:=D8 j (i+1) J;have hS':=hS;unfold Q! at hS;by_cases D_:c=0
  ·subst D_;refine⟨0,?_,.inl rfl,fun h=>absurd h J,fun h=>?_⟩
   ·rw [bM,aaI];by_cases hn:((s.l[i]).hd 2).n=0
    ·rw [ak hn] at hS;simp only [TG,zz,c1,c2,c3,w,bV dU,bV hid,hn,hS,fin]
    ·rw [ah hn] at hS;simp only [TG,zz,c1,c2,c3,w,bV dU,bV hid,hn,hS,fin]
   ·have:=h i dU (ay i);unfold Snd at this
    grind
  ·have HQ:c=1:=J
   subst HQ;refine⟨b,?_,rQ,fun h k hk hik=>?_,fun h=>ih.2 fun k hk hik=>h k hk J⟩
   ·rw [bM,aaI];by_cases hn:((s.l[i]).hd 2).n=0
    ·rw [ak hn] at hS;simp only [TG,zz,c1,c2,c3,w,bV dU,bV hid,hn,hS,fin,bF,RX]
    ·rw [ah hn] at hS;simp only [TG,zz,c1,c2,c3,w,bV dU,bV hid,hn,hS,fin,bF,RX]
   ·by_cases hke:k=i
    ·subst hke;exact hS'
    grind
end
theorem kV {d0 d1 s:D} (h0:Wd (.sl 3) d0) (U:Wd (.sl 4) d1) (hr:Be s): ∃b:Int,L 350 [enc d0,enc d1,enc s]=some [b]/\(b=0\/b=1)/\
 (b=1↔L 450 [enc d0,enc d1]=some [0]/\∃hle:s.l.length=d0.l.length,∀(k:Nat) (hk:k<s.l.length),Snd (d0.l[k]'(hle▸hk)) s.l[k] d1.l.length):=by
 obtain⟨ys,hC,c,rfl,hc,pI⟩:=xg h0 U;by_cases D_:c=0
 ·subst D_;by_cases W:s.l.length=d0.l.length
  ·have hlen:=h0.len;obtain⟨b,RX,rQ,hb3⟩:=D8 (d1:=d1) hr W hlen s.l.length 0 J;refine⟨b,?_,rQ,fun h=> ⟨hC,W,fun k hk=>hb3.1 h k hk J⟩,fun⟨_,_,h⟩=>hb3.2 fun k hk _=>h k hk⟩;have yS:(s.l.length:Int)=(d0.l.length:Int):=J
   rw [bM,aaJ,P_,ey,ak,ey,ak,ey,ak,lX]
   ·simp only [List.map,da,gj,gM,bQ,Nat.reduceLT,bL,bO,bC,fin]
    grind
   ·simp only [gz,lO,da,fS,gv,gj,List.map,gM,bQ,Nat.reduceLT,bL,bO,bC]
    grind
   ·simp only [gz,lO,da,fS,gv,gj,List.map,gM,bQ,Nat.reduceLT,bL,bO,bC];rw [hC];simp only [bL,bO,aN,ax,if_true]
   ·simp only [gz,lO,da,fS,gv,gj,List.map,gM,bQ,Nat.reduceLT,bL,bO,bC]
    grind
  ·refine⟨0,?_,.inl rfl,fun h=>absurd h J,fun⟨_,h,_⟩=>absurd h W⟩;have yS: ¬(s.l.length:Int)=(d0.l.length:Int):=J
   rw [bM,aaJ,P_,ey,ak,ey,ak,ey,ah]
   ·simp only [iT,List.map,da,fin]
   ·simp only [gz,lO,da,fS,gv,gj,List.map,gM,bQ,Nat.reduceLT,bL,bO,bC]
    grind
   ·simp only [gz,lO,da,fS,gv,gj,List.map,gM,bQ,Nat.reduceLT,bL,bO,bC];rw [hC];simp only [bL,bO,aN,ax,if_true]
   ·simp only [gz,lO,da,fS,gv,gj,List.map,gM,bQ,Nat.reduceLT,bL,bO,bC]
    grind
 ·refine⟨0,?_,.inl rfl,fun h=>absurd h J,fun⟨h,_⟩=>?_⟩
  ·rw [bM,aaJ,P_,ey,ak,ey,ah]
   ·simp only [iT,List.map,da,fin]
   ·simp only [gz,lO,da,fS,gv,gj,List.map,gM,bQ,Nat.reduceLT,bL,bO,bC];rw [hC];simp only [bL,bO,aN,ax,if_true]
    grind
   ·simp only [gz,lO,da,fS,gv,gj,List.map,gM,bQ,Nat.reduceLT,bL,bO,bC]
    grind
  grind
def OkT (d0:D) (nl nc:Nat) (a:Int) (ll:Nat) (w o g t:Int):Prop:=
 0<=a/\a<=(nc:Int)/\(ll:Int)=(nl:Int)/\0<=t/\t<=4611686018427387904/\
  (w=0/\o=0/\g=0\/w=24/\0<=o/\o<(d0.l.length:Int)/\((d0.at o).hd 0).n=4\/w=25/\0<=o/\o<(d0.l.length:Int)/\((d0.at o).hd 0).n=5)
def Uq (p:Prop) (ys:List Int):Prop:= ∃b:Int,ys= [b]/\(b=0/\¬p\/b=1/\p)
theorem zJ {p:Prop} (h: ¬p):Uq p [0]:=⟨0,rfl,.inl ⟨rfl,h⟩⟩
theorem RE {p:Prop} (h:p):Uq p [1]:=⟨1,rfl,.inr ⟨rfl,h⟩⟩
theorem N' (d0 d3 d4 d6:D) (x1 x2 x5 x7 x8 x9 KQ:Int):dS 1600 [enc d0,x1,x2,enc d3,enc d4,x5,enc d6,x7,x8,x9,KQ] (Uq (OkT d0 d3.l.length d4.l.length x5 d6.l.length x7 x8 x9 KQ)):=by
 unfold OkT;refine dS.of ?_;rw [adk];simp only [abT,zz]
 repeat' first
  |exact .out (zJ J)
  |exact .out (RE J)
  |refine .ite (fun _=>?_) (fun _=>?_)
def OkK (d0 x k:D):Prop:=OkT d0 (x.hd 1).l.length (x.hd 2).l.length (k.hd 0).n (k.hd 1).l.length (k.hd 2).n (k.hd 3).n (k.hd 4).n (k.hd 5).n
section
variable {d0 d1 k:D} (hle:k.l.length=d1.l.length) (hlen:d1.l.length<=140737488351232)
include hle hlen
theorem Cn: ∀(j i:Nat),i+j=k.l.length->dS 1501 [enc k,(k.l.length:Int),(i:Int),enc d0,enc d1] (Uq (∀(n:Nat) (hn:n<k.l.length),i<=n->OkK d0 (d1.l[n]'(hle▸hn)) k.l[n]))
 |0,i,hi=>by
  have c1: ¬(i:Int)<(k.l.length:Int):=J
  refine dS.of ?_;rw [ZP];simp only [WW,zz,c1];exact .out (RE fun n hn h=>by omega)
 |j+1,i,hi=>by
  have dU:i<k.l.length:=J
  have hid:i<d1.l.length:=J
  have c1:(i:Int)<(k.l.length:Int):=J
  have c2: ¬((i:Int)<0):=J
  have c3:(i:Int)<(d1.l.length:Int):=J
  have w:=bP (n:=i) J;obtain⟨ys,hT,b,rfl,hb⟩:=N' d0 ((d1.l[i]).hd 1) ((d1.l[i]).hd 2) ((k.l[i]).hd 1) (enc d1) (enc ((d1.l[i]).hd 0)) ((k.l[i]).hd 0).n ((k.l[i]).hd 2).n ((k.l[i]).hd 3).n ((k.l[i]).hd 4).n ((k.l[i]).hd 5).n;obtain⟨ys,ih,b',rfl,JI⟩:=Cn j (i+1) J;refine dS.of ?_;rw [ZP];simp only [WW,zz,c1,c2,c3,bV dU,bV hid,w,hT];refine .ite (fun h0=> .out (zJ fun h=>?_)) (fun h0=> .jump ⟨_,ih,b',rfl,?_⟩)
  ·rcases hb with ⟨_,hb⟩|⟨hb,_⟩
   ·exact hb (h i dU (ay _))
   ·omega
  ·rcases hb with ⟨hb,_⟩|⟨_,hb⟩
   ·grind
   ·rcases JI with ⟨q,JI⟩|⟨q,JI⟩
    ·grind
    ·refine .inr ⟨q,fun n hn hni=>?_⟩;by_cases he:n=i
     ·subst he; exact hb
     grind
end
def MR (d0 d1 s k:D):Prop:=L 350 [enc d0,enc d1,enc s]=some [1]/\∃hle:k.l.length=d1.l.length,∀(n:Nat) (hn:n<k.l.length),OkK d0 (d1.l[n]'(hle▸hn)) k.l[n]
theorem Hu {d0 d1 s k:D} (h0:Wd (.sl 3) d0) (U:Wd (.sl 4) d1) (hr:Be s) (hlen:d1.l.length<=140737488351232):dS 1500 [enc d0,enc d1,enc s,enc k] (Uq (MR d0 d1 s k)):=by
 obtain⟨b,hb,RX,_⟩:=kV h0 U hr;refine dS.of ?_;rw [adm];simp only [abV,zz,hb];refine .ite (fun h=> .out (zJ fun q=>?_)) (fun h=> .ite (fun W=>?_) (fun W=> .out (zJ fun q=>?_)))
 ·have:=q.1
  grind
 ·have hle:k.l.length=d1.l.length:=J
  obtain⟨ys,hL,b',rfl,JI⟩:=Cn (d0:=d0) hle hlen k.l.length 0 J;refine .jump ⟨_,hL,b',rfl,?_⟩;have xt:b=1:=J
  subst xt;rcases JI with ⟨q,JI⟩|⟨q,JI⟩
  ·exact .inl ⟨q,fun h=>JI fun n hn _=>h.2.2 n hn⟩
  ·exact .inr ⟨q,hb,hle,fun n hn=>JI n hn (amR _)⟩
 ·have:=q.2.1;omega
theorem Lu {d0 d1 s k:D} (h0:Wd (.sl 3) d0) (U:Wd (.sl 4) d1) (hr:Be s) (hlen:d1.l.length<=140737488351232) (t:Int):dS 1550 [enc d0,enc d1,enc s,enc k,t] (Uq (0<=t/\t<(d1.l.length:Int)/\MR d0 d1 s k)):=by
 obtain⟨ys,hM,b,rfl,hb⟩:=Hu h0 U hr hlen (k:=k);refine dS.of ?_;rw [adl];simp only [abU,zz,hM];refine .ite (fun h=> .out (zJ fun q=>by omega)) (fun h=> .ite (fun Z=> .ite (fun h3=> .out (zJ fun q=>?_)) (fun h3=> .out (RE ?_))) (fun Z=> .out (zJ fun q=>by omega)))
 all_goals grind
def lH (t:Int):List D->Nat->Int
 |[],_=> -1
 |x::l,i=>if x.n=t then (i:Int) else lH t l (i+1)
def place (r:D) (t:Int):Int:=lH t r.l 0
def wo (t:Int) (l:List D):List D:=l.filter fun x=>decide (x.n≠t)
theorem xT (t:Int): ∀(l:List D) (i:Nat),(lH t l i= -1/\∀x∈l,x.n≠t)\/∃(k:Nat) (h:k<l.length),lH t l i=((i+k:Nat):Int)/\(l[k]).n=t/\∀x∈l.take k,x.n≠t
 |[],_=> .inl ⟨rfl,fun x h=>absurd h ad⟩
 |x::l,i=>by
  unfold lH;by_cases hx:x.n=t
  ·grind
  ·rw [ah hx];rcases xT t l (i+1) with ⟨U,Z⟩|⟨k,hk,U,Z,h3⟩
   ·grind
   ·refine .inr ⟨k+1,by simp; omega,by rw [U]; congr 1; omega,by simpa using Z,fun y hy=>?_⟩
    grind
theorem kY (r:D) (t:Int):(place r t= -1/\∀x∈r.l,x.n≠t)\/∃(k:Nat) (h:k<r.l.length),place r t=(k:Int)/\(r.l[k]).n=t/\∀x∈r.l.take k,x.n≠t:=by have:=xT t r.l 0;simp only [aK] at this;exact this
theorem gE (r:D) (t:Int): -1<=place r t/\place r t<(r.l.length:Int):=by
 grind [kY]
theorem C7 {t:Int} {l:List D} (h: ∀x∈l,x.n≠t):wo t l=l:=List.filter_eq_self.2 fun x hx=>by simpa using h x hx
theorem uf {r:D} {t:Int} {i:Nat} (h:i<r.l.length):lH t (r.l.drop i) i=if (r.at (i:Int)).n=t then (i:Int) else lH t (r.l.drop (i+1)) (i+1):=by rw [amr h,bV h];rfl
theorem Yn (r:D) (t:Int) (W:r.l.length<=140737488351232): ∀(j i:Nat),i+j=r.l.length->L 851 [enc r,t,(r.l.length:Int),(i:Int)]=some [lH t (r.l.drop i) i]
 |0,i,hi=>by simp_all [bM,afQ,O',zz,fin,lH]
 |j+1,i,hi=>by
  have c1:(i:Int)<(r.l.length:Int):=J
  have c2: ¬((i:Int)<0):=J
  have w:=bP (n:=i) J;have ih:=Yn r t W j (i+1) J;rw [uf J,bM,afQ];by_cases he:(r.at (i:Int)).n=t
  ·simp only [O',zz,c1,c2,he,fin]
  ·have yV: ¬t=(r.at (i:Int)).n:=fun h=>he h.symm;simp only [O',zz,c1,c2,ah he,ah yV,w,fin,ih]
theorem dW (r:D) (t:Int) (W:r.l.length<=140737488351232):L 850 [enc r,t]=some [place r t]:=by have h:=Yn r t W r.l.length 0 J;rw [bM,ajh];simp only [ahm,zz,fin];exact h
theorem ec (r:D) (t:Int) (W:r.l.length<=140737488351232):L 900 [enc r,t]=some [if place r t<0 then 0 else 1]:=by rw [bM,ajg];simp only [ahl,zz,dW r t W];split<;>rfl
theorem zH (r:D) (t:Int) (W:r.l.length<=140737488351232) (y2 y3 y4 y5 y6 y7 y8 y9 ni nh ng:Int): ∀(j i:Nat),i+j=r.l.length->
 L 12051 [enc r,t,y2,y3,y4,y5,y6,y7,y8,y9,ni,nh,ng,(r.l.length:Int),(i:Int)]=some [0,enc r,t,y2,y3,y4,y5,y6,y7,y8,y9,ni,nh,ng,lH t (r.l.drop i) i]
 |0,i,hi=>by simp_all [bM,PB,IW,zz,fin,lH]
 |j+1,i,hi=>by
  have c1:(i:Int)<(r.l.length:Int):=J
  have c2: ¬((i:Int)<0):=J
  have w:=bP (n:=i) J;have ih:=zH r t W y2 y3 y4 y5 y6 y7 y8 y9 ni nh ng j (i+1) J;rw [uf J,bM,PB];by_cases he:(r.at (i:Int)).n=t
  ·simp only [IW,zz,c1,c2,he,fin]
  ·simp only [IW,zz,c1,c2,ah he,w,fin,ih]
theorem aai (r:D) (t:Int) (W:r.l.length<=140737488351232) (y2 y3 y4 y5 y6 y7 y8 y9 ni nh ng:Int):L 12050 [enc r,t,y2,y3,y4,y5,y6,y7,y8,y9,ni,nh,ng]=some [0,enc r,t,y2,y3,y4,y5,y6,y7,y8,y9,ni,nh,ng,place r t]:=by have h:=zH r t W y2 y3 y4 y5 y6 y7 y8 y9 ni nh ng r.l.length 0 J;rw [bM,d_];simp only [Xc,zz,fin];exact h
theorem zG (r:D) (t:Int) (W:r.l.length<=140737488351232) (y2 y3 y4 y5 y6 y7 y8 y9 ni nh ng:Int): ∀(j i:Nat),i+j=r.l.length->
 L 12151 [enc r,t,y2,y3,y4,y5,y6,y7,y8,y9,ni,nh,ng,(r.l.length:Int),(i:Int)]=some [0,enc r,t,y2,y3,y4,y5,y6,y7,y8,y9,ni,nh,ng,lH t (r.l.drop i) i]
 |0,i,hi=>by simp_all [bM,Pz,IU,zz,fin,lH]
 |j+1,i,hi=>by
  have c1:(i:Int)<(r.l.length:Int):=J
  have c2: ¬((i:Int)<0):=J
  have w:=bP (n:=i) J;have ih:=zG r t W y2 y3 y4 y5 y6 y7 y8 y9 ni nh ng j (i+1) J;rw [uf J,bM,Pz];by_cases he:(r.at (i:Int)).n=t
  ·simp only [IU,zz,c1,c2,he,fin]
  ·simp only [IU,zz,c1,c2,ah he,w,fin,ih]
theorem aah (r:D) (t:Int) (W:r.l.length<=140737488351232) (y2 y3 y4 y5 y6 y7 y8 y9 ni nh ng:Int):L 12150 [enc r,t,y2,y3,y4,y5,y6,y7,y8,y9,ni,nh,ng]=some [0,enc r,t,y2,y3,y4,y5,y6,y7,y8,y9,ni,nh,ng,place r t]:=by have h:=zG r t W y2 y3 y4 y5 y6 y7 y8 y9 ni nh ng r.l.length 0 J;rw [bM,c!];simp only [Xb,zz,fin];exact h
theorem wy {t:Int} {l:List D} {j:Nat} (h:j<l.length):wo t (l.take (j+1))=if (l[j]).n=t then wo t (l.take j) else wo t (l.take j)++ [l[j]]:=by
 unfold wo;rw [aod h,List.filter_append]
 grind
theorem V8 (t:Int) (l:List D):(wo t l).length<=l.length:=List.length_filter_le _ _
theorem uA (r0:D) (t:Int) (l0:List D) (W:l0.length<=140737488351232) (hn: ∀x∈l0,x= .i x.n) (y2 y3 y4 y5 y6 y7 y8 y9 ni nh ng:Int): ∀(m i j:Nat) (r:D),r.l.length=l0.length->i<j->j+m=l0.length->r.l.drop j=l0.drop j->r.l.take i=wo t (l0.take j)->
 ∃(n:Nat) (r':D),n<l0.length/\r'.l.length=l0.length/\r'.l.take n=wo t l0/\L 12001 [enc r0,t,y2,y3,y4,y5,y6,y7,y8,y9,ni,nh,ng,enc r,(i:Int),(j:Int)]=some [1,enc r0,t,y2,y3,y4,y5,y6,y7,y8,y9,ni,nh,ng,(n:Int),enc r',(l0.length:Int)]
 |0,i,j,r,hr,U,Z,h3,h4=>by
  have c1: ¬(j:Int)<(l0.length:Int):=J
  have c2: ¬((i:Int)<0):=J
  have c3: ¬((l0.length:Int)<(i:Int)):=J
  have c4: ¬((l0.length:Int)-(i:Int)<0):=J
  have c5:(i:Int)+((l0.length:Int)-(i:Int))=(l0.length:Int):=J
  refine⟨i,dL (r.l.take i++List.replicate (r.l.length-i) (.i 0)),J,by rw [bD]; simp only [a8,bh,amT]; omega,?_,?_⟩
  ·grind [bD]
  ·rw [bM,Kp];simp only [IX,zz,c1,c2,c3,c4,c5,aX,fin,hr]
 |m+1,i,j,r,hr,U,Z,h3,h4=>by
  have c1:(j:Int)<(l0.length:Int):=J
  have c2: ¬((j:Int)<0):=J
  have w:=bP (n:=j) J;have hj:j<r.l.length:=J
  have YC:j<l0.length:=J
  have hx:r.at (j:Int)=l0[j]:=by
   rw [bV hj];rw [amr hj,amr YC] at h3
   grind
  have h3':r.l.drop (j+1)=l0.drop (j+1):=by
   rw [amr hj,amr YC] at h3
   grind
  by_cases he:(r.at (j:Int)).n=t
  ·obtain⟨n,r',q1,q2,q3,ih⟩:=uA r0 t l0 W hn y2 y3 y4 y5 y6 y7 y8 y9 ni nh ng m i (j+1) r hr J J h3' (by rw [wy YC,<- hx,ak he,h4]);refine⟨n,r',q1,q2,q3,?_⟩;rw [bM,Kp];simp only [IX,zz,c1,c2,he,w,hr,fin,ih]
  ·have c3: ¬((i:Int)<0):=J
   have c4:(i:Int)<(l0.length:Int):=J
   have w2:=bP (n:=i) J;have hs:fI r.l (i:Int) (.i (r.at (j:Int)).n)=r.l.set i l0[j]:=by rw [sH,hx,<- hn _ (aG YC)]
   obtain⟨n,r',q1,q2,q3,ih⟩:=uA r0 t l0 W hn y2 y3 y4 y5 y6 y7 y8 y9 ni nh ng m (i+1) (j+1) (dL (fI r.l (i:Int) (.i (r.at (j:Int)).n))) (by rw [bD,fY,hr]) J J
    (by rw [bD,hs,anX J,h3'])
    (by rw [bD,hs,aod (by rw [anC]; omega),anW (ay _),aop,h4,wy YC,<- hx,ah he])
   refine⟨n,r',q1,q2,q3,?_⟩;rw [bM,Kp];simp only [IX,zz,c1,c2,c3,c4,ah he,w,w2,hr,fin,ih]
theorem aaX (r:D) (t:Int) (W:r.l.length<=140737488351232) (hn: ∀x∈r.l,x= .i x.n):(wo t r.l=r.l/\∀y2 y3 y4 y5 y6 y7 y8 y9 ni nh ng:Int,L 12000 [enc r,t,y2,y3,y4,y5,y6,y7,y8,y9,ni,nh,ng]=some [0,enc r,t,y2,y3,y4,y5,y6,y7,y8,y9,ni,nh,ng])\/
 ∀y2 y3 y4 y5 y6 y7 y8 y9 ni nh ng:Int,∃(n:Nat) (r':D),n<r.l.length/\r'.l.length=r.l.length/\r'.l.take n=wo t r.l/\L 12000 [enc r,t,y2,y3,y4,y5,y6,y7,y8,y9,ni,nh,ng]=some [1,enc r,t,y2,y3,y4,y5,y6,y7,y8,y9,ni,nh,ng,(n:Int),enc r',(r.l.length:Int)]:=by
 have h:=aai r t W;rcases kY r t with ⟨hp,tW⟩|⟨i,hi,hp,hD,tW⟩
 ·refine .inl ⟨C7 tW,fun y2 y3 y4 y5 y6 y7 y8 y9 ni nh ng=>?_⟩;have h':=h y2 y3 y4 y5 y6 y7 y8 y9 ni nh ng;clear h;rw [hp] at h';rw [bM,PC,Od,ey,ak,ey,ak,ey,ak]
  ·simp only [iT,List.map,da,bQ,bL,bO,Nat.reduceLT,fin]
  ·simp only [Qm3,gz,da,fS,gv,List.map,bQ,Nat.reduceLT,bL,bO];rw [h'];simp only [bL,bO,aN,ax,if_true]
  ·simp only [gz,da,fS,gv,List.map,bQ,Nat.reduceLT,bL,bO];rw [h'];simp only [bL,bO,aN,ax,if_true]
  ·simp only [gz,da,fS,gv,List.map,bQ,Nat.reduceLT,bL,bO]
   grind
 ·refine .inr fun y2 y3 y4 y5 y6 y7 y8 y9 ni nh ng=>?_;have h':=h y2 y3 y4 y5 y6 y7 y8 y9 ni nh ng;clear h;rw [hp] at h';have w:=bP (n:=i) J;have h0:r.l.take i=wo t (r.l.take (i+1)):=by rw [wy hi,ak hD,C7 tW]
  obtain⟨n,r',q1,q2,q3,ih⟩:=uA r t r.l W hn y2 y3 y4 y5 y6 y7 y8 y9 ni nh ng (r.l.length-(i+1)) i (i+1) r rfl J J rfl h0;refine⟨n,r',q1,q2,q3,?_⟩;rw [bM,PC,Od,ey,ak,ey,ak,ey,ah]
  ·simp only [lX,List.map,Qm3,da,fS,v8,den_add,bQ,bL,bO,Nat.reduceLT];rw [h'];simp only [bL,bO,ax,w,fin];rw [ih]
  ·simp only [Qm3,gz,da,fS,gv,List.map,bQ,Nat.reduceLT,bL,bO];rw [h'];simp only [bL,bO,aN,ax,if_true];omega
  ·simp only [gz,da,fS,gv,List.map,bQ,Nat.reduceLT,bL,bO];rw [h'];simp only [bL,bO,aN,ax,if_true]
  ·simp only [gz,da,fS,gv,List.map,bQ,Nat.reduceLT,bL,bO];rw [h'];simp only [bL,bO,aN,ax,if_true]
theorem uz (r0:D) (t:Int) (l0:List D) (W:l0.length<=140737488351232) (hn: ∀x∈l0,x= .i x.n) (y2 y3 y4 y5 y6 y7 y8 y9 ni nh ng:Int): ∀(m i j:Nat) (r:D),r.l.length=l0.length->i<j->j+m=l0.length->r.l.drop j=l0.drop j->r.l.take i=wo t (l0.take j)->
 ∃(n:Nat) (r':D),n<l0.length/\r'.l.length=l0.length/\r'.l.take n=wo t l0/\L 12101 [enc r0,t,y2,y3,y4,y5,y6,y7,y8,y9,ni,nh,ng,enc r,(i:Int),(j:Int)]=some [1,enc r0,t,y2,y3,y4,y5,y6,y7,y8,y9,ni,nh,ng,(n:Int),enc r',(l0.length:Int)]
 |0,i,j,r,hr,U,Z,h3,h4=>by
  have c1: ¬(j:Int)<(l0.length:Int):=J
  have c2: ¬((i:Int)<0):=J
  have c3: ¬((l0.length:Int)<(i:Int)):=J
  have c4: ¬((l0.length:Int)-(i:Int)<0):=J
  have c5:(i:Int)+((l0.length:Int)-(i:Int))=(l0.length:Int):=J
  refine⟨i,dL (r.l.take i++List.replicate (r.l.length-i) (.i 0)),J,by rw [bD]; simp only [a8,bh,amT]; omega,?_,?_⟩
  ·grind [bD]
  ·rw [bM,Ko];simp only [IV,zz,c1,c2,c3,c4,c5,aX,fin,hr]
 |m+1,i,j,r,hr,U,Z,h3,h4=>by
  have c1:(j:Int)<(l0.length:Int):=J
  have c2: ¬((j:Int)<0):=J
  have w:=bP (n:=j) J;have hj:j<r.l.length:=J
  have YC:j<l0.length:=J
  have hx:r.at (j:Int)=l0[j]:=by
   rw [bV hj];rw [amr hj,amr YC] at h3
   grind
  have h3':r.l.drop (j+1)=l0.drop (j+1):=by
   rw [amr hj,amr YC] at h3
   grind
  by_cases he:(r.at (j:Int)).n=t
  ·obtain⟨n,r',q1,q2,q3,ih⟩:=uz r0 t l0 W hn y2 y3 y4 y5 y6 y7 y8 y9 ni nh ng m i (j+1) r hr J J h3' (by rw [wy YC,<- hx,ak he,h4]);refine⟨n,r',q1,q2,q3,?_⟩;rw [bM,Ko];simp only [IV,zz,c1,c2,he,w,hr,fin,ih]
  ·have c3: ¬((i:Int)<0):=J
   have c4:(i:Int)<(l0.length:Int):=J
   have w2:=bP (n:=i) J;have hs:fI r.l (i:Int) (.i (r.at (j:Int)).n)=r.l.set i l0[j]:=by rw [sH,hx,<- hn _ (aG YC)]
   obtain⟨n,r',q1,q2,q3,ih⟩:=uz r0 t l0 W hn y2 y3 y4 y5 y6 y7 y8 y9 ni nh ng m (i+1) (j+1) (dL (fI r.l (i:Int) (.i (r.at (j:Int)).n))) (by rw [bD,fY,hr]) J J
    (by rw [bD,hs,anX J,h3'])
    (by rw [bD,hs,aod (by rw [anC]; omega),anW (ay _),aop,h4,wy YC,<- hx,ah he])
   refine⟨n,r',q1,q2,q3,?_⟩;rw [bM,Ko];simp only [IV,zz,c1,c2,c3,c4,ah he,w,w2,hr,fin,ih]
theorem aaW (r:D) (t:Int) (W:r.l.length<=140737488351232) (hn: ∀x∈r.l,x= .i x.n):(wo t r.l=r.l/\∀y2 y3 y4 y5 y6 y7 y8 y9 ni nh ng:Int,L 12100 [enc r,t,y2,y3,y4,y5,y6,y7,y8,y9,ni,nh,ng]=some [0,enc r,t,y2,y3,y4,y5,y6,y7,y8,y9,ni,nh,ng])\/
 ∀y2 y3 y4 y5 y6 y7 y8 y9 ni nh ng:Int,∃(n:Nat) (r':D),n<r.l.length/\r'.l.length=r.l.length/\r'.l.take n=wo t r.l/\L 12100 [enc r,t,y2,y3,y4,y5,y6,y7,y8,y9,ni,nh,ng]=some [1,enc r,t,y2,y3,y4,y5,y6,y7,y8,y9,ni,nh,ng,(n:Int),enc r',(r.l.length:Int)]:=by
 have h:=aah r t W;rcases kY r t with ⟨hp,tW⟩|⟨i,hi,hp,hD,tW⟩
 ·refine .inl ⟨C7 tW,fun y2 y3 y4 y5 y6 y7 y8 y9 ni nh ng=>?_⟩;have h':=h y2 y3 y4 y5 y6 y7 y8 y9 ni nh ng;clear h;rw [hp] at h';rw [bM,PA,Oc,ey,ak,ey,ak,ey,ak]
  ·simp only [iT,List.map,da,bQ,bL,bO,Nat.reduceLT,fin]
  ·simp only [Qnf,gz,da,fS,gv,List.map,bQ,Nat.reduceLT,bL,bO];rw [h'];simp only [bL,bO,aN,ax,if_true]
  ·simp only [gz,da,fS,gv,List.map,bQ,Nat.reduceLT,bL,bO];rw [h'];simp only [bL,bO,aN,ax,if_true]
  ·simp only [gz,da,fS,gv,List.map,bQ,Nat.reduceLT,bL,bO]
   grind
 ·refine .inr fun y2 y3 y4 y5 y6 y7 y8 y9 ni nh ng=>?_;have h':=h y2 y3 y4 y5 y6 y7 y8 y9 ni nh ng;clear h;rw [hp] at h';have w:=bP (n:=i) J;have h0:r.l.take i=wo t (r.l.take (i+1)):=by rw [wy hi,ak hD,C7 tW]
  obtain⟨n,r',q1,q2,q3,ih⟩:=uz r t r.l W hn y2 y3 y4 y5 y6 y7 y8 y9 ni nh ng (r.l.length-(i+1)) i (i+1) r rfl J J rfl h0;refine⟨n,r',q1,q2,q3,?_⟩;rw [bM,PA,Oc,ey,ak,ey,ak,ey,ah]
  ·simp only [lX,List.map,Qnf,da,fS,v8,den_add,bQ,bL,bO,Nat.reduceLT];rw [h'];simp only [bL,bO,ax,w,fin];rw [ih]
  ·simp only [Qnf,gz,da,fS,gv,List.map,bQ,Nat.reduceLT,bL,bO];rw [h'];simp only [bL,bO,aN,ax,if_true];omega
  ·simp only [gz,da,fS,gv,List.map,bQ,Nat.reduceLT,bL,bO];rw [h'];simp only [bL,bO,aN,ax,if_true]
  ·simp only [gz,da,fS,gv,List.map,bQ,Nat.reduceLT,bL,bO];rw [h'];simp only [bL,bO,aN,ax,if_true]
theorem aaV (r:D) (t:Int): ∀y2 y3 y4 y5 y6 y7 y8 y9 ni nh ng:Int,L 12200 [enc r,t,y2,y3,y4,y5,y6,y7,y8,y9,ni,nh,ng]=some [0,enc r,t,y2,y3,y4,y5,y6,y7,y8,y9,ni,nh,ng]:=by
 intro y2 y3 y4 y5 y6 y7 y8 y9 ni nh ng
 have h:L 12250 [enc r,t,y2,y3,y4,y5,y6,y7,y8,y9,ni,nh,ng]=some [0,enc r,t,y2,y3,y4,y5,y6,y7,y8,y9,ni,nh,ng]:=by rw [bM,b?];simp_all [W9,zz,fin,bM,b!,W8]
 have h':=h;clear h;rw [bM,c_,Xa,ey,ak,ey,ak]
 ·simp_all [iT,da,bQ,bL,bO,fin]
 ·simp only [gz,da,fS,gv,List.map,bQ,Nat.reduceLT,bL,bO]
  grind [bL,bO]
 ·simp only [gz,da,fS,gv,List.map,bQ,Nat.reduceLT,bL,bO]
  grind
theorem aaU (r:D) (t:Int): ∀y2 y3 y4 y5 y6 y7 y8 y9 ni nh ng:Int,L 12300 [enc r,t,y2,y3,y4,y5,y6,y7,y8,y9,ni,nh,ng]=some [0,enc r,t,y2,y3,y4,y5,y6,y7,y8,y9,ni,nh,ng]:=by
 intro y2 y3 y4 y5 y6 y7 y8 y9 ni nh ng
 have h:L 12350 [enc r,t,y2,y3,y4,y5,y6,y7,y8,y9,ni,nh,ng]=some [0,enc r,t,y2,y3,y4,y5,y6,y7,y8,y9,ni,nh,ng]:=by rw [bM,a!];simp_all [W6,zz,fin,bM,a_,W5]
 have h':=h;clear h;rw [bM,b_,W7,ey,ak,ey,ak]
 ·simp_all [iT,da,bQ,bL,bO,fin]
 ·simp only [gz,da,fS,gv,List.map,bQ,Nat.reduceLT,bL,bO]
  grind [bL,bO]
 ·simp only [gz,da,fS,gv,List.map,bQ,Nat.reduceLT,bL,bO]
  grind
abbrev Mx (d0:D) (obj:Int):Int:=((d0.at obj).hd 2).n
abbrev Mo (d0 s:D) (obj:Int):Int:=((s.at ((d0.at obj).hd 2).n).hd 0).n
inductive Act where
 |om
 |xq
 |res (o c dn g:Int) (r v:D) (m:Option Int) (a oc:Int)
def act (M mo th op arg tries o c dn g:Int) (r v:D):Act:=
 if op=1 then (if o=th then .xq else if place r th<0 then (if o<0 then .res th c dn g r v none 0 2 else .om) else .xq)
 else if op=2 then (if o=th then .res (-1) c dn g r v none 0 2 else .xq)
 else if op=8 then (if o=th then .res (-1) c dn g r v none 0 2 else .xq)
 else if op=3 then (if o<0 then .res th c dn g r v none 1 2 else .res o c dn g r v none 0 2)
 else if op=4 then (if o<0 then .res th c dn g r v none 1 2 else if tries<arg then .om else .res o c dn g r v none 0 2)
 else if op=5 then (if o=th then .xq else if place r th<0 then (if o<0 then .res o c dn g (dL (r.l++ [.i th])) v none 0 2 else .om) else .xq)
 else if op=6 then (if place r th<0 then .xq else .res o c dn g (bR (.i 2) (r.l.take (place r th).toNat++r.l.drop ((place r th).toNat+1))) v none 0 2)
 else if op=7 then (if o=th then .xq else if place r th<0 then (if (r.l.length:Int)=0 then (if o<0 then .res th c dn g r v none 0 2 else .om) else .om) else .xq)
 else if op=9 then (if 0<c then .res o (IntKind.i64.wrap (c-1)) dn g r v none 0 2 else .om)
 else if op=11 then (if 0<c then .res o (IntKind.i64.wrap (c-1)) dn g r v none 1 2 else .res o c dn g r v none 0 2)
 else if op=10 then (if c<M then .res o (IntKind.i64.wrap (c+1)) dn g r v none 0 2 else .xq)
 else if op=17 then (if arg<IntKind.i64.wrap (0-c) then .xq else if IntKind.i64.wrap (1099511627776-c)<arg then .xq else .res o (IntKind.i64.wrap (c+arg)) dn g r v none (IntKind.i64.wrap (c+arg)) 2)
 else if op=18 then (if 0<c then .res o (IntKind.i64.wrap (c-1)) dn g r v none (IntKind.i64.wrap (c-1)) 2 else .xq)
 else if op=19 then (if c=0 then .res o c dn g r v none 0 2 else .om)
 else if op=22 then .res o c dn g r v none c 2
 else if op=23 then .res o arg dn g r v none arg 2
 else if op=20 then (if (v.l.length:Int)<M then .res o c dn g r (dL (v.l++ [.i arg])) none arg 2 else .om)
 else if op=21 then (if (v.l.length:Int)=0 then .om else .res o c dn g r (bR v (v.l.drop 1)) none (v.at 0).n 2)
 else if op=12 then (if mo=th then .res o c dn g (dL (wo th r.l++ [.i th])) v (some (-1)) 0 3 else .xq)
 else if op=13 then (if (r.l.length:Int)=0 then .res o c dn g r v none 0 2 else .res o c dn g (bR r (r.l.drop 1)) v none (IntKind.i64.wrap ((r.at 0).n+1)) 2)
 else if op=14 then .res o c dn g (.i 1) v none (r.l.length:Int) 2
 else if op=24 then (if place r th<0 then (if mo<0 then .res o c dn g r v (some th) 0 2 else .om) else .om)
 else if op=15 then (if g<4611686018427387904 then (if IntKind.i64.wrap (c+1)=M then .res o 0 dn (IntKind.i64.wrap (g+1)) r v none g 3 else .res o (IntKind.i64.wrap (c+1)) dn g r v none g 3) else .xq)
 else if op=25 then (if arg<g then .res o c dn g r v none arg 2 else .om)
 else if op=16 then (if dn=0 then (if o=th then .xq else if o<0 then .res th c dn g r v none 1 2 else .om) else .res o c dn g r v none 0 2)
 else (if o=th then .res (-1) c 1 g r v none 0 2 else .xq)
def py (s:D) (obj M:Int):Act->D
 | .res o c dn g r v m _ _=>dL (fI (match m with |none=>s.l|some q=>fI s.l M (dL (fI (s.at M).l 0 (.i q)))) obj (dL [.i o,.i c,.i (if dn=0 then 0 else 1),.i g,r,v]))
 |_=>s
def Er (s:D) (th op obj M:Int):Act->List Int
 | .om=>[enc s,0,0,0,0,0,0]
 | .xq=>[enc s,th,27,obj,IntKind.i64.wrap op,0,2]
 | .res o c dn g r v m a oc=>[enc (py s obj M (.res o c dn g r v m a oc)),th,op,obj,a,0,oc]
structure TH (d0 d1 s:D) (th op obj arg tries o c dn g:Int) (r v:D):Prop where
 eP:L 9000 [obj,enc s]=some [mn r v,obj,enc s,o,c,dn,g,enc r,enc v]
 hJ:L 550 [enc s]=some [enc s]
 hR:L 350 [enc d0,enc d1,enc s]=some [1]
 zP:0<=th
 zO:th<(d1.l.length:Int)
 vH:0<=obj
 vG:obj<(s.l.length:Int)
 hlen:s.l.length=d0.l.length
 hk:L 600 [op]=some [((d0.at obj).hd 0).n]
 hr:(r.l.length:Int)<17592186044415
 hv:(v.l.length:Int)<17592186044415
 hn: ∀x∈r.l,x= .i x.n
 hM:op=12\/op=24->0<=((d0.at obj).hd 2).n/\((d0.at obj).hd 2).n<(s.l.length:Int)/\((d0.at obj).hd 2).n≠obj
theorem TH.hb {d0 d1 s:D} {th op obj arg tries o c dn g:Int} {r v:D} (H:TH d0 d1 s th op obj arg tries o c dn g r v):r.l.length<=140737488351232:=by have:=H.hr; omega
noncomputable abbrev dJ (d0 d1 s:D) (th op obj arg tries:Int):Nat->Int:=df L (low [enc d0,enc d1,enc s,th,op,obj,arg,tries])
abbrev cA (k:Nat):V:=rr 9000 [.dK 5,.dK 2] k
abbrev OD:V:=nm (ce 2 (el (.dK 0) (.dK 5)))
abbrev kK:V:=rr 850 [cA 7,.dK 3] 0
abbrev TS (q:V):V:=.op .set (cA 2) (cn (mk OD) (.op .set (el (cA 2) OD) (cn (.eD (.i 0)) q)))
abbrev su:List V:=[cA 7,.dK 3,.dK 5,OD,TS (.eD (.i (-1))),.dK 4,.dK 6,.dK 7,cA 3,cA 4,cA 5,cA 6,cA 8]
abbrev thg (o c d g r v:V):V:=cn (mk (.dK 5)) (cn o (cn c (cn d (cn g (cn r (cn v (.eD (.i 0))))))))
abbrev rN:T Lf:=ou [rr 550 [.dK 2] 0,.dK 3,.lit 27,.dK 5,wr (.dK 4),.lit 0,.lit 2]
abbrev xo:T Lf:=ou [rr 550 [.dK 2] 0,.lit 0,.lit 0,.lit 0,.lit 0,.lit 0,.lit 0]
abbrev kf (z o c d g r v a:V) (oc:Int):T Lf:=ou [.op .set z (thg o c d g r v),.dK 3,.dK 4,.dK 5,a,.lit 0,.lit oc]
theorem wJ {r:D} (h:r.l= []) (t:Int):place r t= -1:=by unfold place; rw [h]; rfl
theorem aee {r:D} (h:r.l= []) (t:Int):wo t r.l= []:=by rw [h]; rfl
theorem alK {r v:D} (h:0<r.l.length) (h':0<v.l.length):mn r v=3:=by simp [mn,h,h']
theorem alJ {r v:D} (h:0<r.l.length) (h':v.l= []):mn r v=4:=by simp [mn,h,h']
theorem alI {r v:D} (h:r.l= []) (h':0<v.l.length):mn r v=5:=by simp [mn,h,h']
theorem alH {r v:D} (h:r.l= []) (h':v.l= []):mn r v=6:=by simp [mn,h,h']
abbrev Gl (d0 s:D) (th op obj arg tries o c dn g:Int) (r v:D):RS:=.out (Er s th op obj (Mx d0 obj) (act (Mx d0 obj) (Mo d0 s obj) th op arg tries o c dn g r v))
theorem dH (s:D) (th op obj M:Int):Er s th op obj M .om= [enc s,0,0,0,0,0,0]:=rfl
theorem dG (s:D) (th op obj M:Int):Er s th op obj M .xq= [enc s,th,27,obj,IntKind.i64.wrap op,0,2]:=rfl
theorem de (s:D) (th op obj M o c dn g:Int) (r v:D) (a oc:Int):Er s th op obj M (.res o c dn g r v none a oc)= [enc (dL (fI s.l obj (dL [.i o,.i c,.i (if dn=0 then 0 else 1),.i g,r,v]))),th,op,obj,a,0,oc]:=rfl
theorem dc (s:D) (th op obj M o c dn g:Int) (r v:D) (q a oc:Int):Er s th op obj M (.res o c dn g r v (some q) a oc)= [enc (dL (fI (fI s.l M (dL (fI (s.at M).l 0 (.i q)))) obj (dL [.i o,.i c,.i (if dn=0 then 0 else 1),.i g,r,v]))),th,op,obj,a,0,oc]:=rfl
section
variable {s:D} {th op obj M:Int}
theorem fe {c:Prop} [Decidable c] {a b:Act}:RS.out (Er s th op obj M (if c then a else b))=if c then RS.out (Er s th op obj M a) else RS.out (Er s th op obj M b):=by split<;>rfl
end
theorem vb {p:Prop} [Decidable p]:((if p then (0:Int) else 1)=0)=p:=by by_cases h:p<;>simp [h]
theorem jI (l:List D):l= []\/0<l.length:=by cases l<;>simp
theorem z2 {ρ:Nat->Int} {a b c d:List SB} (h:zY ρ a/\zW ρ b) (h':zY ρ c/\zW ρ d):zY ρ (a++c)/\zW ρ (b++d):=⟨V1 h.1 h'.1,V4 h.2 h'.2⟩
abbrev bt:V:=.op .bit (mk (cA 5)) (.lit 0)
abbrev kW:V:=wr (.add kK (.lit 1))
abbrev kL:V:=.sub (ln (cA 7)) kW
abbrev kD:V:=.add kK kL
abbrev kC:V:=.op .cat (.op .cat (.op .take (cA 7) kK) (.op .drop (.op .take (cA 7) (.add kW kL)) kW)) (.op .drop (cA 7) kD)
abbrev kF:V:=.op .fill kC (cn (mk kD) (.eD (.i 0)))
section
variable {d0 d1 s r v:D} {th op obj arg tries o c dn g:Int}
abbrev YG:List SB:=[.eq (a0 9000 [.dK 5,.dK 2]) (.lit 1),.eq (a0 350 [.dK 0,.dK 1,.dK 2]) (.lit 1),.eq (a0 600 [.dK 4]) (.lit 1),.eq (a0 550 [.dK 2]) (.lit 1),.eq (a0 900 [cA 7,.dK 3]) (.lit 1),.eq (a0 850 [cA 7,.dK 3]) (.lit 1),.lt (.dK 3) (ln (.dK 1)),.lt (.dK 5) (ln (.dK 0)),.lt (.dK 5) (ln (cA 2)),.eq (rr 600 [.dK 4] 0) (nm (ce 0 (el (.dK 0) (.dK 5)))),.lt (ln (cA 7)) (.lit 17592186044415),.lt (ln (cA 8)) (.lit 17592186044415)]
abbrev NG:List SB:=[.lt (.dK 5) (.lit 0),.eq (rr 350 [.dK 0,.dK 1,.dK 2] 0) (.lit 0),.lt (.dK 3) (.lit 0),.lt (ln (cA 7)) (ln (cA 7)),.lt (ln (cA 8)) (.add (.lit 1) (.sub (ln (cA 8)) (.lit 1))),.lt (ln (cA 7)) (.add (.lit 1) (.sub (ln (cA 7)) (.lit 1)))]
theorem fG (H:TH d0 d1 s th op obj arg tries o c dn g r v):zY (dJ d0 d1 s th op obj arg tries) YG/\zW (dJ d0 d1 s th op obj arg tries) NG:=by have hb:=H.hb;have U:=H.zP; have Z:=H.zO; have h3:=H.vH; have h4:=H.vG; have h5:=H.hlen; have h6:=H.hr; have h7:=H.hv; have hp:=gE r th;simp only [zz,H.eP,H.hJ,H.hR,H.hk,ec r th hb,dW r th hb]<;>omega
abbrev YA3:List SB:=[.eq (cA 0) (.lit 3)]
abbrev NA3:List SB:=[.eq (cA 0) (.lit 0),.eq (cA 0) (.lit 1),.eq (cA 0) (.lit 2),.eq (cA 0) (.lit 4),.eq (cA 0) (.lit 5),.eq (cA 0) (.lit 6),.lt (.sub (ln (cA 7)) (.lit 1)) (.lit 0),.lt (.sub (ln (cA 8)) (.lit 1)) (.lit 0)]
theorem fA3 (H:TH d0 d1 s th op obj arg tries o c dn g r v) (hr:0<r.l.length) (hv:0<v.l.length):zY (dJ d0 d1 s th op obj arg tries) YA3/\zW (dJ d0 d1 s th op obj arg tries) NA3:=by have hb:=H.hb;have U:=H.zP; have Z:=H.zO; have h3:=H.vH; have h4:=H.vG; have h5:=H.hlen; have h6:=H.hr; have h7:=H.hv; have hp:=gE r th;simp only [zz,H.eP,H.hJ,H.hR,H.hk,ec r th hb,dW r th hb,alK hr hv]<;>omega
abbrev YA4:List SB:=[.eq (cA 0) (.lit 4)]
abbrev NA4:List SB:=[.eq (cA 0) (.lit 0),.eq (cA 0) (.lit 1),.eq (cA 0) (.lit 2),.eq (cA 0) (.lit 3),.eq (cA 0) (.lit 5),.eq (cA 0) (.lit 6),.lt (.sub (ln (cA 7)) (.lit 1)) (.lit 0)]
theorem fA4 (H:TH d0 d1 s th op obj arg tries o c dn g r v) (hr:0<r.l.length) (hv:v.l= []):zY (dJ d0 d1 s th op obj arg tries) YA4/\zW (dJ d0 d1 s th op obj arg tries) NA4:=by have hb:=H.hb;have U:=H.zP; have Z:=H.zO; have h3:=H.vH; have h4:=H.vG; have h5:=H.hlen; have h6:=H.hr; have h7:=H.hv; have hp:=gE r th;simp only [zz,H.eP,H.hJ,H.hR,H.hk,ec r th hb,dW r th hb,alJ hr hv]<;>omega
abbrev YA5:List SB:=[.eq (cA 0) (.lit 5),.lt kK (.lit 0)]
abbrev NA5:List SB:=[.eq (cA 0) (.lit 0),.eq (cA 0) (.lit 1),.eq (cA 0) (.lit 2),.eq (cA 0) (.lit 3),.eq (cA 0) (.lit 4),.eq (cA 0) (.lit 6),.lt (.sub (ln (cA 8)) (.lit 1)) (.lit 0)]
theorem fA5 (H:TH d0 d1 s th op obj arg tries o c dn g r v) (hr:r.l= []) (hv:0<v.l.length):zY (dJ d0 d1 s th op obj arg tries) YA5/\zW (dJ d0 d1 s th op obj arg tries) NA5:=by have hb:=H.hb;have U:=H.zP; have Z:=H.zO; have h3:=H.vH; have h4:=H.vG; have h5:=H.hlen; have h6:=H.hr; have h7:=H.hv; have hp:=gE r th;simp only [zz,H.eP,H.hJ,H.hR,H.hk,ec r th hb,dW r th hb,alI hr hv,wJ hr]<;>omega
abbrev YA6:List SB:=[.eq (cA 0) (.lit 6),.lt kK (.lit 0)]
abbrev NA6:List SB:=[.eq (cA 0) (.lit 0),.eq (cA 0) (.lit 1),.eq (cA 0) (.lit 2),.eq (cA 0) (.lit 3),.eq (cA 0) (.lit 4),.eq (cA 0) (.lit 5)]
theorem fA6 (H:TH d0 d1 s th op obj arg tries o c dn g r v) (hr:r.l= []) (hv:v.l= []):zY (dJ d0 d1 s th op obj arg tries) YA6/\zW (dJ d0 d1 s th op obj arg tries) NA6:=by have hb:=H.hb;have U:=H.zP; have Z:=H.zO; have h3:=H.vH; have h4:=H.vG; have h5:=H.hlen; have h6:=H.hr; have h7:=H.hv; have hp:=gE r th;simp only [zz,H.eP,H.hJ,H.hR,H.hk,ec r th hb,dW r th hb,alH hr hv,wJ hr]<;>omega
abbrev YM:List SB:=[.lt OD (ln (cA 2))]
abbrev NM:List SB:=[.lt OD (.lit 0),.eq OD (.dK 5)]
theorem fM (H:TH d0 d1 s th op obj arg tries o c dn g r v) (ho:op=12\/op=24):zY (dJ d0 d1 s th op obj arg tries) YM/\zW (dJ d0 d1 s th op obj arg tries) NM:=by have hb:=H.hb;have U:=H.zP; have Z:=H.zO; have h3:=H.vH; have h4:=H.vG; have h5:=H.hlen; have h6:=H.hr; have h7:=H.hv; have hp:=gE r th; have hm:=H.hM ho;simp only [zz,H.eP,H.hJ,H.hR,H.hk,ec r th hb,dW r th hb]<;>omega
abbrev YK0:List SB:=[.lt kK (.lit 0)]
abbrev NK0:List SB:=[]
theorem fK0 (H:TH d0 d1 s th op obj arg tries o c dn g r v) (hk:place r th<0):zY (dJ d0 d1 s th op obj arg tries) YK0/\zW (dJ d0 d1 s th op obj arg tries) NK0:=by have hb:=H.hb;have U:=H.zP; have Z:=H.zO; have h3:=H.vH; have h4:=H.vG; have h5:=H.hlen; have h6:=H.hr; have h7:=H.hv; have hp:=gE r th;simp only [zz,H.eP,H.hJ,H.hR,H.hk,ec r th hb,dW r th hb]<;>omega
abbrev YK1:List SB:=[.lt kD (ln (cA 7)),.eq (.add kD (.sub (ln (cA 7)) kD)) (ln kC)]
abbrev NK1:List SB:=[.lt kK (.lit 0),.lt kW kK,.lt (ln (cA 7)) kW,.eq kK kW,.lt (ln (cA 7)) kK,.lt kW (.lit 0),.lt kL (.lit 0),.lt (ln (cA 7)) (.add kW kL),.lt (ln (cA 7)) kD,.lt kD (.lit 0),.lt (ln kC) (ln (cA 7)),.lt (.sub (ln (cA 7)) kD) (.lit 0),.lt (ln kF) kD]
theorem fK1 (H:TH d0 d1 s th op obj arg tries o c dn g r v) (hk: ¬place r th<0):zY (dJ d0 d1 s th op obj arg tries) YK1/\zW (dJ d0 d1 s th op obj arg tries) NK1:=by have hb:=H.hb;have U:=H.zP; have Z:=H.zO; have h3:=H.vH; have h4:=H.vG; have h5:=H.hlen; have h6:=H.hr; have h7:=H.hv; have hp:=gE r th; have hw:IntKind.i64.wrap (place r th+1)=place r th+1:=mK J J;simp only [zz,H.eP,H.hJ,H.hR,H.hk,ec r th hb,dW r th hb,bN,bD,a8,bh,br,amT,hw]<;>omega
abbrev dA (d0 s r v:D) (th op obj arg tries o c dn g:Int):List Int:=[enc r,th,obj,Mx d0 obj,enc (dL (fI s.l (Mx d0 obj) (dL (fI (s.at (Mx d0 obj)).l 0 (.i (-1)))))),op,arg,tries,o,c,dn,g,enc v]
abbrev alP:List SB:=[.eq (a0 12000 su) (.lit 1),.eq (rr 12000 su 0) (.lit 0)]
abbrev alW:List SB:=[]
theorem ali (H:TH d0 d1 s th op obj arg tries o c dn g r v) (hd:L 12000 (dA d0 s r v th op obj arg tries o c dn g)=some (0::(dA d0 s r v th op obj arg tries o c dn g))):zY (dJ d0 d1 s th op obj arg tries) alP/\zW (dJ d0 d1 s th op obj arg tries) alW:=by have hb:=H.hb;have U:=H.zP; have Z:=H.zO; have h3:=H.vH; have h4:=H.vG; have h5:=H.hlen; have h6:=H.hr; have h7:=H.hv; have hp:=gE r th;simp only [zz,H.eP,H.hJ,H.hR,H.hk,ec r th hb,dW r th hb,hd]<;>omega
abbrev alQ:List SB:=[.eq (a0 12000 su) (.lit 1),.eq (rr 12000 su 0) (.lit 1)]
abbrev alX:List SB:=[.eq (rr 12000 su 0) (.lit 0),.lt (rr 12000 su 14) (.lit 0),.lt (ln (rr 12000 su 15)) (.add (rr 12000 su 14) (.lit 1)),.lt (.add (rr 12000 su 14) (.lit 1)) (.lit 0),.lt (ln (.op .cat (.op .cat (.op .take (rr 12000 su 15) (rr 12000 su 14)) (.op .snoc (.eD (.i 0)) (mk (.dK 3)))) (.op .drop (rr 12000 su 15) (.add (rr 12000 su 14) (.lit 1))))) (.add (rr 12000 su 14) (.lit 1))]
theorem alj (H:TH d0 d1 s th op obj arg tries o c dn g r v) {n:Nat} {r1:D} (hn:n<r.l.length) (W:r1.l.length=r.l.length) (hd:L 12000 (dA d0 s r v th op obj arg tries o c dn g)=some (1::((dA d0 s r v th op obj arg tries o c dn g)++ [(n:Int),enc r1,(r.l.length:Int)]))):zY (dJ d0 d1 s th op obj arg tries) alQ/\zW (dJ d0 d1 s th op obj arg tries) alX:=by have hb:=H.hb;have U:=H.zP; have Z:=H.zO; have h3:=H.vH; have h4:=H.vG; have h5:=H.hlen; have h6:=H.hr; have h7:=H.hv; have hp:=gE r th;simp only [zz,H.eP,H.hJ,H.hR,H.hk,ec r th hb,dW r th hb,hd,bN,bD,jr,aW,aw,a8,bh,br,aQ,aA]<;>omega
abbrev alN:List SB:=[.eq (a0 12100 su) (.lit 1),.eq (rr 12100 su 0) (.lit 0)]
abbrev alU:List SB:=[]
theorem alg (H:TH d0 d1 s th op obj arg tries o c dn g r v) (hd:L 12100 (dA d0 s r v th op obj arg tries o c dn g)=some (0::(dA d0 s r v th op obj arg tries o c dn g))):zY (dJ d0 d1 s th op obj arg tries) alN/\zW (dJ d0 d1 s th op obj arg tries) alU:=by have hb:=H.hb;have U:=H.zP; have Z:=H.zO; have h3:=H.vH; have h4:=H.vG; have h5:=H.hlen; have h6:=H.hr; have h7:=H.hv; have hp:=gE r th;simp only [zz,H.eP,H.hJ,H.hR,H.hk,ec r th hb,dW r th hb,hd]<;>omega
abbrev alO:List SB:=[.eq (a0 12100 su) (.lit 1),.eq (rr 12100 su 0) (.lit 1)]
abbrev alV:List SB:=[.eq (rr 12100 su 0) (.lit 0),.lt (rr 12100 su 14) (.lit 0),.lt (ln (rr 12100 su 15)) (.add (rr 12100 su 14) (.lit 1)),.lt (.add (rr 12100 su 14) (.lit 1)) (.lit 0),.lt (ln (.op .cat (.op .cat (.op .take (rr 12100 su 15) (rr 12100 su 14)) (.op .snoc (.eD (.i 0)) (mk (.dK 3)))) (.op .drop (rr 12100 su 15) (.add (rr 12100 su 14) (.lit 1))))) (.add (rr 12100 su 14) (.lit 1))]
theorem alh (H:TH d0 d1 s th op obj arg tries o c dn g r v) {n:Nat} {r1:D} (hn:n<r.l.length) (W:r1.l.length=r.l.length) (hd:L 12100 (dA d0 s r v th op obj arg tries o c dn g)=some (1::((dA d0 s r v th op obj arg tries o c dn g)++ [(n:Int),enc r1,(r.l.length:Int)]))):zY (dJ d0 d1 s th op obj arg tries) alO/\zW (dJ d0 d1 s th op obj arg tries) alV:=by have hb:=H.hb;have U:=H.zP; have Z:=H.zO; have h3:=H.vH; have h4:=H.vG; have h5:=H.hlen; have h6:=H.hr; have h7:=H.hv; have hp:=gE r th;simp only [zz,H.eP,H.hJ,H.hR,H.hk,ec r th hb,dW r th hb,hd,bN,bD,jr,aW,aw,a8,bh,br,aQ,aA]<;>omega
abbrev alM:List SB:=[.eq (a0 12200 su) (.lit 1),.eq (rr 12200 su 0) (.lit 0)]
abbrev alT:List SB:=[]
theorem alf (H:TH d0 d1 s th op obj arg tries o c dn g r v) (hd:L 12200 (dA d0 s r v th op obj arg tries o c dn g)=some (0::(dA d0 s r v th op obj arg tries o c dn g))):zY (dJ d0 d1 s th op obj arg tries) alM/\zW (dJ d0 d1 s th op obj arg tries) alT:=by have hb:=H.hb;have U:=H.zP; have Z:=H.zO; have h3:=H.vH; have h4:=H.vG; have h5:=H.hlen; have h6:=H.hr; have h7:=H.hv; have hp:=gE r th;simp only [zz,H.eP,H.hJ,H.hR,H.hk,ec r th hb,dW r th hb,hd]<;>omega
abbrev alL:List SB:=[.eq (a0 12300 su) (.lit 1),.eq (rr 12300 su 0) (.lit 0)]
abbrev alS:List SB:=[]
theorem ale (H:TH d0 d1 s th op obj arg tries o c dn g r v) (hd:L 12300 (dA d0 s r v th op obj arg tries o c dn g)=some (0::(dA d0 s r v th op obj arg tries o c dn g))):zY (dJ d0 d1 s th op obj arg tries) alL/\zW (dJ d0 d1 s th op obj arg tries) alS:=by have hb:=H.hb;have U:=H.zP; have Z:=H.zO; have h3:=H.vH; have h4:=H.vG; have h5:=H.hlen; have h6:=H.hr; have h7:=H.hv; have hp:=gE r th;simp only [zz,H.eP,H.hJ,H.hR,H.hk,ec r th hb,dW r th hb,hd]<;>omega
end
theorem FL (l m:List D):bR (dL l) m=bR (.i 2) m:=by
 cases m with
 |cons a m=>rfl
 |nil=>cases l<;>rfl
theorem QH (d:D) (h:0<d.l.length):bR (bR d (d.l.take (1+((d.l.length:Int)-1)).toNat)) ((bR d (d.l.take (1+((d.l.length:Int)-1)).toNat)).l.drop (1:Int).toNat)=bR d (d.l.drop 1):=by rw [yJ (fun e=>by rw [e]; rfl),bN,am6 J];rfl
theorem af6 (l:List D) (k:Nat) (hk:k<l.length) (R B:List D):((l.take k++(l.take l.length).drop (k+1)++B).take (l.length-1)++R).take (l.length-1)=l.take k++l.drop (k+1)\/B.length=0:=by
 grind
section
variable {d0 d1 s r v:D} {th op obj arg tries o c dn g:Int}
abbrev zt0:T Lf:=(sp (.eq (cA 3) (.dK 3)) rN (sp (.eq (rr 900 [cA 7,.dK 3] 0) (.lit 0)) (sp (.lt (cA 3) (.lit 0)) (kf (cA 2) (mk (.dK 3)) (mk (cA 4)) bt (mk (cA 6)) (cA 7) (cA 8) (.lit 0) 2) xo) rN))
theorem sm0 (H:TH d0 d1 s th 1 obj arg tries o c dn g r v):ei (dJ d0 d1 s th 1 obj arg tries) zt0=Gl d0 s th 1 obj arg tries o c dn g r v:=by
 have hb:=H.hb;simp only [zz,H.eP,H.hJ,H.hR,H.hk,ec r th hb,dW r th hb,bF,vb,fe,dH,dG,de,dc,dL,act,Int.reduceEq,Gl]<;>(repeat' split)<;>first |rfl|(exfalso; omega)
abbrev zt1:T Lf:=(sp (.eq (cA 3) (.dK 3)) (kf (cA 2) (.eD (.i (-1))) (mk (cA 4)) bt (mk (cA 6)) (cA 7) (cA 8) (.lit 0) 2) rN)
theorem sm1 (H:TH d0 d1 s th 2 obj arg tries o c dn g r v):ei (dJ d0 d1 s th 2 obj arg tries) zt1=Gl d0 s th 2 obj arg tries o c dn g r v:=by
 have hb:=H.hb;simp only [zz,H.eP,H.hJ,H.hR,H.hk,ec r th hb,dW r th hb,bF,vb,fe,dH,dG,de,dc,dL,act,Int.reduceEq,Gl]<;>(repeat' split)<;>first |rfl|(exfalso; omega)
theorem sm2 (H:TH d0 d1 s th 8 obj arg tries o c dn g r v):ei (dJ d0 d1 s th 8 obj arg tries) zt1=Gl d0 s th 8 obj arg tries o c dn g r v:=by
 have hb:=H.hb;simp only [zz,H.eP,H.hJ,H.hR,H.hk,ec r th hb,dW r th hb,bF,vb,fe,dH,dG,de,dc,dL,act,Int.reduceEq,Gl]<;>(repeat' split)<;>first |rfl|(exfalso; omega)
abbrev zt2:T Lf:=(sp (.lt (cA 3) (.lit 0)) (kf (cA 2) (mk (.dK 3)) (mk (cA 4)) bt (mk (cA 6)) (cA 7) (cA 8) (.lit 1) 2) (kf (cA 2) (mk (cA 3)) (mk (cA 4)) bt (mk (cA 6)) (cA 7) (cA 8) (.lit 0) 2))
theorem sm3 (H:TH d0 d1 s th 3 obj arg tries o c dn g r v):ei (dJ d0 d1 s th 3 obj arg tries) zt2=Gl d0 s th 3 obj arg tries o c dn g r v:=by
 have hb:=H.hb;simp only [zz,H.eP,H.hJ,H.hR,H.hk,ec r th hb,dW r th hb,bF,vb,fe,dH,dG,de,dc,dL,act,Int.reduceEq,Gl]<;>(repeat' split)<;>first |rfl|(exfalso; omega)
abbrev zt3:T Lf:=(sp (.lt (cA 3) (.lit 0)) (kf (cA 2) (mk (.dK 3)) (mk (cA 4)) bt (mk (cA 6)) (cA 7) (cA 8) (.lit 1) 2) (sp (.lt (.dK 7) (.dK 6)) xo (kf (cA 2) (mk (cA 3)) (mk (cA 4)) bt (mk (cA 6)) (cA 7) (cA 8) (.lit 0) 2)))
theorem sm4 (H:TH d0 d1 s th 4 obj arg tries o c dn g r v):ei (dJ d0 d1 s th 4 obj arg tries) zt3=Gl d0 s th 4 obj arg tries o c dn g r v:=by
 have hb:=H.hb;simp only [zz,H.eP,H.hJ,H.hR,H.hk,ec r th hb,dW r th hb,bF,vb,fe,dH,dG,de,dc,dL,act,Int.reduceEq,Gl]<;>(repeat' split)<;>first |rfl|(exfalso; omega)
abbrev zt4:T Lf:=(sp (.eq (cA 3) (.dK 3)) rN (sp (.eq (rr 900 [cA 7,.dK 3] 0) (.lit 0)) (sp (.lt (cA 3) (.lit 0)) (kf (cA 2) (mk (cA 3)) (mk (cA 4)) bt (mk (cA 6)) (.op .snoc (cA 7) (mk (.dK 3))) (cA 8) (.lit 0) 2) xo) rN))
theorem sm5 (H:TH d0 d1 s th 5 obj arg tries o c dn g r v) (hr:0<r.l.length):ei (dJ d0 d1 s th 5 obj arg tries) zt4=Gl d0 s th 5 obj arg tries o c dn g r v:=by
 have hb:=H.hb;simp only [zz,H.eP,H.hJ,H.hR,H.hk,ec r th hb,dW r th hb,jr,aw,bF,vb,fe,dH,dG,de,dc,dL,act,Int.reduceEq,Gl]<;>(repeat' split)<;>first |rfl|(exfalso; omega)
abbrev zt5:T Lf:=rN
theorem sm6 (H:TH d0 d1 s th 6 obj arg tries o c dn g r v) (hk:place r th<0):ei (dJ d0 d1 s th 6 obj arg tries) zt5=Gl d0 s th 6 obj arg tries o c dn g r v:=by
 have hb:=H.hb;simp only [zz,H.eP,H.hJ,H.hR,H.hk,ec r th hb,dW r th hb,hk,bF,vb,fe,dH,dG,de,dc,dL,act,Int.reduceEq,Gl]<;>(repeat' split)<;>first |rfl|(exfalso; omega)
abbrev zt6:T Lf:=(kf (cA 2) (mk (cA 3)) (mk (cA 4)) bt (mk (cA 6)) (.op .take kF kD) (cA 8) (.lit 0) 2)
theorem sm7 (H:TH d0 d1 s th 6 obj arg tries o c dn g r v) (hr:0<r.l.length) (hk: ¬place r th<0):ei (dJ d0 d1 s th 6 obj arg tries) zt6=Gl d0 s th 6 obj arg tries o c dn g r v:=by
 have hb:=H.hb;rcases kY r th with ⟨hp,_⟩|⟨k,OY,hp,_⟩
 ·grind
 have hw:IntKind.i64.wrap ((k:Int)+1)=(k:Int)+1:=mK J J;have e1:((k:Int)+1+((r.l.length:Int)-((k:Int)+1))).toNat=r.l.length:=J
 have e2:((k:Int)+((r.l.length:Int)-((k:Int)+1))).toNat=r.l.length-1:=J
 have e3:((k:Int)+1).toNat=k+1:=J
 have h0: ¬((k:Int)<0):=J
 have hd:=fun R=>(af6 r.l k OY R (r.l.drop (r.l.length-1))).resolve_right (by rw [br]; omega);simp only [zz,H.eP,H.hJ,H.hR,H.hk,ec r th hb,dW r th hb,hp,hw,e1,e2,e3,h0,bN,bD,aX,hd,FL,bF,vb,fe,dH,dG,de,dc,dL,act,Int.reduceEq,Gl]<;>(repeat' split)<;>first |rfl|(exfalso; omega)
abbrev zt7:T Lf:=(sp (.eq (cA 3) (.dK 3)) rN (sp (.eq (rr 900 [cA 7,.dK 3] 0) (.lit 0)) (sp (.eq (ln (cA 7)) (.lit 0)) (sp (.lt (cA 3) (.lit 0)) (kf (cA 2) (mk (.dK 3)) (mk (cA 4)) bt (mk (cA 6)) (cA 7) (cA 8) (.lit 0) 2) xo) xo) rN))
theorem sm8 (H:TH d0 d1 s th 7 obj arg tries o c dn g r v) (hr:0<r.l.length):ei (dJ d0 d1 s th 7 obj arg tries) zt7=Gl d0 s th 7 obj arg tries o c dn g r v:=by
 have hb:=H.hb;simp only [zz,H.eP,H.hJ,H.hR,H.hk,ec r th hb,dW r th hb,bF,vb,fe,dH,dG,de,dc,dL,act,Int.reduceEq,Gl]<;>(repeat' split)<;>first |rfl|(exfalso; omega)
abbrev zt8:T Lf:=(sp (.lt (.lit 0) (cA 4)) (kf (cA 2) (mk (cA 3)) (mk (wr (.sub (cA 4) (.lit 1)))) bt (mk (cA 6)) (cA 7) (cA 8) (.lit 0) 2) xo)
theorem sm9 (H:TH d0 d1 s th 9 obj arg tries o c dn g r v):ei (dJ d0 d1 s th 9 obj arg tries) zt8=Gl d0 s th 9 obj arg tries o c dn g r v:=by
 have hb:=H.hb;simp only [zz,H.eP,H.hJ,H.hR,H.hk,ec r th hb,dW r th hb,bF,vb,fe,dH,dG,de,dc,dL,act,Int.reduceEq,Gl]<;>(repeat' split)<;>first |rfl|(exfalso; omega)
abbrev zt9:T Lf:=(sp (.lt (.lit 0) (cA 4)) (kf (cA 2) (mk (cA 3)) (mk (wr (.sub (cA 4) (.lit 1)))) bt (mk (cA 6)) (cA 7) (cA 8) (.lit 1) 2) (kf (cA 2) (mk (cA 3)) (mk (cA 4)) bt (mk (cA 6)) (cA 7) (cA 8) (.lit 0) 2))
theorem aj5 (H:TH d0 d1 s th 11 obj arg tries o c dn g r v):ei (dJ d0 d1 s th 11 obj arg tries) zt9=Gl d0 s th 11 obj arg tries o c dn g r v:=by
 have hb:=H.hb;simp only [zz,H.eP,H.hJ,H.hR,H.hk,ec r th hb,dW r th hb,bF,vb,fe,dH,dG,de,dc,dL,act,Int.reduceEq,Gl]<;>(repeat' split)<;>first |rfl|(exfalso; omega)
abbrev agv:T Lf:=(sp (.lt (cA 4) OD) (kf (cA 2) (mk (cA 3)) (mk (wr (.add (cA 4) (.lit 1)))) bt (mk (cA 6)) (cA 7) (cA 8) (.lit 0) 2) rN)
theorem aj4 (H:TH d0 d1 s th 10 obj arg tries o c dn g r v):ei (dJ d0 d1 s th 10 obj arg tries) agv=Gl d0 s th 10 obj arg tries o c dn g r v:=by
 have hb:=H.hb;simp only [zz,H.eP,H.hJ,H.hR,H.hk,ec r th hb,dW r th hb,bF,vb,fe,dH,dG,de,dc,dL,act,Int.reduceEq,Gl]<;>(repeat' split)<;>first |rfl|(exfalso; omega)
abbrev agu:T Lf:=(sp (.lt (.dK 6) (wr (.sub (.lit 0) (cA 4)))) rN (sp (.lt (wr (.sub (.lit 1099511627776) (cA 4))) (.dK 6)) rN (kf (cA 2) (mk (cA 3)) (mk (wr (.add (cA 4) (.dK 6)))) bt (mk (cA 6)) (cA 7) (cA 8) (wr (.add (cA 4) (.dK 6))) 2)))
theorem aj3 (H:TH d0 d1 s th 17 obj arg tries o c dn g r v):ei (dJ d0 d1 s th 17 obj arg tries) agu=Gl d0 s th 17 obj arg tries o c dn g r v:=by
 have hb:=H.hb;simp only [zz,H.eP,H.hJ,H.hR,H.hk,ec r th hb,dW r th hb,bF,vb,fe,dH,dG,de,dc,dL,act,Int.reduceEq,Gl]<;>(repeat' split)<;>first |rfl|(exfalso; omega)
abbrev agt:T Lf:=(sp (.lt (.lit 0) (cA 4)) (kf (cA 2) (mk (cA 3)) (mk (wr (.sub (cA 4) (.lit 1)))) bt (mk (cA 6)) (cA 7) (cA 8) (wr (.sub (cA 4) (.lit 1))) 2) rN)
theorem aj2 (H:TH d0 d1 s th 18 obj arg tries o c dn g r v):ei (dJ d0 d1 s th 18 obj arg tries) agt=Gl d0 s th 18 obj arg tries o c dn g r v:=by
 have hb:=H.hb;simp only [zz,H.eP,H.hJ,H.hR,H.hk,ec r th hb,dW r th hb,bF,vb,fe,dH,dG,de,dc,dL,act,Int.reduceEq,Gl]<;>(repeat' split)<;>first |rfl|(exfalso; omega)
abbrev agr:T Lf:=(sp (.eq (cA 4) (.lit 0)) (kf (cA 2) (mk (cA 3)) (mk (cA 4)) bt (mk (cA 6)) (cA 7) (cA 8) (.lit 0) 2) xo)
theorem aj1 (H:TH d0 d1 s th 19 obj arg tries o c dn g r v):ei (dJ d0 d1 s th 19 obj arg tries) agr=Gl d0 s th 19 obj arg tries o c dn g r v:=by
 have hb:=H.hb;simp only [zz,H.eP,H.hJ,H.hR,H.hk,ec r th hb,dW r th hb,bF,vb,fe,dH,dG,de,dc,dL,act,Int.reduceEq,Gl]<;>(repeat' split)<;>first |rfl|(exfalso; omega)
abbrev agq:T Lf:=(kf (cA 2) (mk (cA 3)) (mk (cA 4)) bt (mk (cA 6)) (cA 7) (cA 8) (cA 4) 2)
theorem aj0 (H:TH d0 d1 s th 22 obj arg tries o c dn g r v):ei (dJ d0 d1 s th 22 obj arg tries) agq=Gl d0 s th 22 obj arg tries o c dn g r v:=by
 have hb:=H.hb;simp only [zz,H.eP,H.hJ,H.hR,H.hk,ec r th hb,dW r th hb,bF,vb,fe,dH,dG,de,dc,dL,act,Int.reduceEq,Gl]<;>(repeat' split)<;>first |rfl|(exfalso; omega)
abbrev agp:T Lf:=(kf (cA 2) (mk (cA 3)) (mk (.dK 6)) bt (mk (cA 6)) (cA 7) (cA 8) (.dK 6) 2)
theorem ajZ (H:TH d0 d1 s th 23 obj arg tries o c dn g r v):ei (dJ d0 d1 s th 23 obj arg tries) agp=Gl d0 s th 23 obj arg tries o c dn g r v:=by
 have hb:=H.hb;simp only [zz,H.eP,H.hJ,H.hR,H.hk,ec r th hb,dW r th hb,bF,vb,fe,dH,dG,de,dc,dL,act,Int.reduceEq,Gl]<;>(repeat' split)<;>first |rfl|(exfalso; omega)
abbrev adS:T Lf:=(sp (.lt (ln (cA 8)) OD) (kf (cA 2) (mk (cA 3)) (mk (cA 4)) bt (mk (cA 6)) (cA 7) (.op .snoc (cA 8) (mk (.dK 6))) (.dK 6) 2) xo)
theorem ahT (H:TH d0 d1 s th 20 obj arg tries o c dn g r v) (hv:0<v.l.length):ei (dJ d0 d1 s th 20 obj arg tries) adS=Gl d0 s th 20 obj arg tries o c dn g r v:=by
 have hb:=H.hb;simp only [zz,H.eP,H.hJ,H.hR,H.hk,ec r th hb,dW r th hb,jr,aw,bF,vb,fe,dH,dG,de,dc,dL,act,Int.reduceEq,Gl]<;>(repeat' split)<;>first |rfl|(exfalso; omega)
abbrev adR:T Lf:=(sp (.eq (ln (cA 8)) (.lit 0)) xo (kf (cA 2) (mk (cA 3)) (mk (cA 4)) bt (mk (cA 6)) (cA 7) (.op .drop (.op .take (cA 8) (.add (.lit 1) (.sub (ln (cA 8)) (.lit 1)))) (.lit 1)) (nm (el (cA 8) (.lit 0))) 2))
theorem ahS (H:TH d0 d1 s th 21 obj arg tries o c dn g r v) (hv:0<v.l.length):ei (dJ d0 d1 s th 21 obj arg tries) adR=Gl d0 s th 21 obj arg tries o c dn g r v:=by
 have hb:=H.hb;simp only [zz,H.eP,H.hJ,H.hR,H.hk,ec r th hb,dW r th hb,QH v hv,bF,vb,fe,dH,dG,de,dc,dL,act,Int.reduceEq,Gl]<;>(repeat' split)<;>first |rfl|(exfalso; omega)
abbrev adQ:T Lf:=(sp (.eq (nm (ce 0 (el (cA 2) OD))) (.dK 3)) (kf (TS (.eD (.i (-1)))) (mk (cA 3)) (mk (cA 4)) bt (mk (cA 6)) (.op .snoc (cA 7) (mk (.dK 3))) (cA 8) (.lit 0) 3) rN)
theorem ahR (H:TH d0 d1 s th 12 obj arg tries o c dn g r v) (hr:0<r.l.length) (hw:wo th r.l=r.l):ei (dJ d0 d1 s th 12 obj arg tries) adQ=Gl d0 s th 12 obj arg tries o c dn g r v:=by
 have hb:=H.hb;simp only [zz,H.eP,H.hJ,H.hR,H.hk,ec r th hb,dW r th hb,hw,bD,jr,aw,bF,vb,fe,dH,dG,de,dc,dL,act,Int.reduceEq,Gl]<;>(repeat' split)<;>first |rfl|(exfalso; omega)
abbrev ago:T Lf:=(sp (.eq (nm (ce 0 (el (cA 2) OD))) (.dK 3)) (kf (TS (.eD (.i (-1)))) (mk (cA 3)) (mk (cA 4)) bt (mk (cA 6)) (.op .take (.op .cat (.op .cat (.op .take (rr 12000 su 15) (rr 12000 su 14)) (.op .snoc (.eD (.i 0)) (mk (.dK 3)))) (.op .drop (rr 12000 su 15) (.add (rr 12000 su 14) (.lit 1)))) (.add (rr 12000 su 14) (.lit 1))) (cA 8) (.lit 0) 3) rN)
theorem ajY (H:TH d0 d1 s th 12 obj arg tries o c dn g r v) (hr:0<r.l.length) (hv:0<v.l.length) {n:Nat} {r1:D} (hn:n<r.l.length) (W:r1.l.length=r.l.length) (hw:r1.l.take n=wo th r.l) (hd:L 12000 (dA d0 s r v th 12 obj arg tries o c dn g)=some (1::((dA d0 s r v th 12 obj arg tries o c dn g)++ [(n:Int),enc r1,(r.l.length:Int)]))):ei (dJ d0 d1 s th 12 obj arg tries) ago=Gl d0 s th 12 obj arg tries o c dn g r v:=by
 have hb:=H.hb;have e3:((n:Int)+1).toNat=n+1:=J
 have hA: ∀B,(wo th r.l++ [D.i th]++B).take (n+1)=wo th r.l++ [.i th]:=fun B=>by
  grind
 have hB:wo th r.l++ [D.i th]≠[]:=ad
 simp only [zz,H.eP,H.hJ,H.hR,H.hk,ec r th hb,dW r th hb,hd,aW,e3,l_p,bN,bD,jr,aw,aX,hw,hA,FL,wa hB,bF,vb,fe,dH,dG,de,dc,dL,act,Int.reduceEq,Gl]<;>(repeat' split)<;>first |rfl|(exfalso; omega)
abbrev adP:T Lf:=(sp (.eq (ln (cA 7)) (.lit 0)) (kf (cA 2) (mk (cA 3)) (mk (cA 4)) bt (mk (cA 6)) (cA 7) (cA 8) (.lit 0) 2) (kf (cA 2) (mk (cA 3)) (mk (cA 4)) bt (mk (cA 6)) (.op .drop (.op .take (cA 7) (.add (.lit 1) (.sub (ln (cA 7)) (.lit 1)))) (.lit 1)) (cA 8) (wr (.add (nm (el (cA 7) (.lit 0))) (.lit 1))) 2))
theorem ahQ (H:TH d0 d1 s th 13 obj arg tries o c dn g r v) (hr:0<r.l.length):ei (dJ d0 d1 s th 13 obj arg tries) adP=Gl d0 s th 13 obj arg tries o c dn g r v:=by
 have hb:=H.hb;simp only [zz,H.eP,H.hJ,H.hR,H.hk,ec r th hb,dW r th hb,QH r hr,jr,aw,bF,vb,fe,dH,dG,de,dc,dL,act,Int.reduceEq,Gl]<;>(repeat' split)<;>first |rfl|(exfalso; omega)
abbrev adO:T Lf:=(kf (cA 2) (mk (cA 3)) (mk (cA 4)) bt (mk (cA 6)) (.eD (.i 1)) (cA 8) (ln (cA 7)) 2)
theorem ahP (H:TH d0 d1 s th 14 obj arg tries o c dn g r v) (hr:0<r.l.length):ei (dJ d0 d1 s th 14 obj arg tries) adO=Gl d0 s th 14 obj arg tries o c dn g r v:=by
 have hb:=H.hb;simp only [zz,H.eP,H.hJ,H.hR,H.hk,ec r th hb,dW r th hb,jr,aw,bF,vb,fe,dH,dG,de,dc,dL,act,Int.reduceEq,Gl]<;>(repeat' split)<;>first |rfl|(exfalso; omega)
abbrev VV:T Lf:=(sp (.eq (rr 900 [cA 7,.dK 3] 0) (.lit 0)) (sp (.lt (nm (ce 0 (el (cA 2) OD))) (.lit 0)) (kf (TS (mk (.dK 3))) (mk (cA 3)) (mk (cA 4)) bt (mk (cA 6)) (cA 7) (cA 8) (.lit 0) 2) xo) xo)
theorem Q? (H:TH d0 d1 s th 24 obj arg tries o c dn g r v):ei (dJ d0 d1 s th 24 obj arg tries) VV=Gl d0 s th 24 obj arg tries o c dn g r v:=by
 have hb:=H.hb;simp only [zz,H.eP,H.hJ,H.hR,H.hk,ec r th hb,dW r th hb,bD,jr,aw,bF,vb,fe,dH,dG,de,dc,dL,act,Int.reduceEq,Gl]<;>(repeat' split)<;>first |rfl|(exfalso; omega)
abbrev agn:T Lf:=(sp (.lt (cA 6) (.lit 4611686018427387904)) (sp (.eq (wr (.add (cA 4) (.lit 1))) OD) (kf (cA 2) (mk (cA 3)) (.eD (.i 0)) bt (mk (wr (.add (cA 6) (.lit 1)))) (cA 7) (cA 8) (cA 6) 3) (kf (cA 2) (mk (cA 3)) (mk (wr (.add (cA 4) (.lit 1)))) bt (mk (cA 6)) (cA 7) (cA 8) (cA 6) 3)) rN)
theorem ajX (H:TH d0 d1 s th 15 obj arg tries o c dn g r v):ei (dJ d0 d1 s th 15 obj arg tries) agn=Gl d0 s th 15 obj arg tries o c dn g r v:=by
 have hb:=H.hb;simp only [zz,H.eP,H.hJ,H.hR,H.hk,ec r th hb,dW r th hb,bF,vb,fe,dH,dG,de,dc,dL,act,Int.reduceEq,Gl]<;>(repeat' split)<;>first |rfl|(exfalso; omega)
abbrev agm:T Lf:=(sp (.lt (.dK 6) (cA 6)) (kf (cA 2) (mk (cA 3)) (mk (cA 4)) bt (mk (cA 6)) (cA 7) (cA 8) (.dK 6) 2) xo)
theorem ajW (H:TH d0 d1 s th 25 obj arg tries o c dn g r v):ei (dJ d0 d1 s th 25 obj arg tries) agm=Gl d0 s th 25 obj arg tries o c dn g r v:=by
 have hb:=H.hb;simp only [zz,H.eP,H.hJ,H.hR,H.hk,ec r th hb,dW r th hb,bF,vb,fe,dH,dG,de,dc,dL,act,Int.reduceEq,Gl]<;>(repeat' split)<;>first |rfl|(exfalso; omega)
abbrev agl:T Lf:=(sp (.eq (cA 5) (.lit 0)) (sp (.eq (cA 3) (.dK 3)) rN (sp (.lt (cA 3) (.lit 0)) (kf (cA 2) (mk (.dK 3)) (mk (cA 4)) bt (mk (cA 6)) (cA 7) (cA 8) (.lit 1) 2) xo)) (kf (cA 2) (mk (cA 3)) (mk (cA 4)) bt (mk (cA 6)) (cA 7) (cA 8) (.lit 0) 2))
theorem ajV (H:TH d0 d1 s th 16 obj arg tries o c dn g r v):ei (dJ d0 d1 s th 16 obj arg tries) agl=Gl d0 s th 16 obj arg tries o c dn g r v:=by
 have hb:=H.hb;simp only [zz,H.eP,H.hJ,H.hR,H.hk,ec r th hb,dW r th hb,bF,vb,fe,dH,dG,de,dc,dL,act,Int.reduceEq,Gl]<;>(repeat' split)<;>first |rfl|(exfalso; omega)
abbrev agk:T Lf:=(sp (.eq (cA 3) (.dK 3)) (kf (cA 2) (.eD (.i (-1))) (mk (cA 4)) (.eD (.i 1)) (mk (cA 6)) (cA 7) (cA 8) (.lit 0) 2) rN)
theorem ajU (H:TH d0 d1 s th 26 obj arg tries o c dn g r v):ei (dJ d0 d1 s th 26 obj arg tries) agk=Gl d0 s th 26 obj arg tries o c dn g r v:=by
 have hb:=H.hb;simp only [zz,H.eP,H.hJ,H.hR,H.hk,ec r th hb,dW r th hb,bF,vb,fe,dH,dG,de,dc,dL,act,Int.reduceEq,Gl]<;>(repeat' split)<;>first |rfl|(exfalso; omega)
abbrev adN:T Lf:=(sp (.lt (.lit 0) OD) (kf (cA 2) (mk (cA 3)) (mk (cA 4)) bt (mk (cA 6)) (cA 7) (.op .snoc (.eD (.i 0)) (mk (.dK 6))) (.dK 6) 2) xo)
theorem ahO (H:TH d0 d1 s th 20 obj arg tries o c dn g r v) (hv:v.l= []):ei (dJ d0 d1 s th 20 obj arg tries) adN=Gl d0 s th 20 obj arg tries o c dn g r v:=by
 have hb:=H.hb;have hz2:((0:Nat):Int)=0:=rfl;simp only [zz,H.eP,H.hJ,H.hR,H.hk,ec r th hb,dW r th hb,hv,aA,aw,hz2,jr,bF,vb,fe,dH,dG,de,dc,dL,act,Int.reduceEq,Gl]<;>(repeat' split)<;>first |rfl|(exfalso; omega)
abbrev adM:T Lf:=xo
theorem ahN (H:TH d0 d1 s th 21 obj arg tries o c dn g r v) (hv:v.l= []):ei (dJ d0 d1 s th 21 obj arg tries) adM=Gl d0 s th 21 obj arg tries o c dn g r v:=by
 have hb:=H.hb;have hz2:((0:Nat):Int)=0:=rfl;simp only [zz,H.eP,H.hJ,H.hR,H.hk,ec r th hb,dW r th hb,hv,aA,aw,hz2,bF,vb,fe,dH,dG,de,dc,dL,act,Int.reduceEq,Gl]<;>(repeat' split)<;>first |rfl|(exfalso; omega)
abbrev agj:T Lf:=(sp (.eq (nm (ce 0 (el (cA 2) OD))) (.dK 3)) (kf (TS (.eD (.i (-1)))) (mk (cA 3)) (mk (cA 4)) bt (mk (cA 6)) (.op .take (.op .cat (.op .cat (.op .take (rr 12100 su 15) (rr 12100 su 14)) (.op .snoc (.eD (.i 0)) (mk (.dK 3)))) (.op .drop (rr 12100 su 15) (.add (rr 12100 su 14) (.lit 1)))) (.add (rr 12100 su 14) (.lit 1))) (cA 8) (.lit 0) 3) rN)
theorem ajT (H:TH d0 d1 s th 12 obj arg tries o c dn g r v) (hr:0<r.l.length) (hv:v.l= []) {n:Nat} {r1:D} (hn:n<r.l.length) (W:r1.l.length=r.l.length) (hw:r1.l.take n=wo th r.l) (hd:L 12100 (dA d0 s r v th 12 obj arg tries o c dn g)=some (1::((dA d0 s r v th 12 obj arg tries o c dn g)++ [(n:Int),enc r1,(r.l.length:Int)]))):ei (dJ d0 d1 s th 12 obj arg tries) agj=Gl d0 s th 12 obj arg tries o c dn g r v:=by
 have hb:=H.hb;have hz2:((0:Nat):Int)=0:=rfl;have e3:((n:Int)+1).toNat=n+1:=J
 have hA: ∀B,(wo th r.l++ [D.i th]++B).take (n+1)=wo th r.l++ [.i th]:=fun B=>by
  grind
 have hB:wo th r.l++ [D.i th]≠[]:=ad
 simp only [zz,H.eP,H.hJ,H.hR,H.hk,ec r th hb,dW r th hb,hv,aA,aw,hz2,hd,aW,e3,l_p,bN,bD,jr,aX,hw,hA,FL,wa hB,bF,vb,fe,dH,dG,de,dc,dL,act,Int.reduceEq,Gl]<;>(repeat' split)<;>first |rfl|(exfalso; omega)
abbrev adL:T Lf:=(sp (.eq (cA 3) (.dK 3)) rN (sp (.eq (rr 900 [cA 7,.dK 3] 0) (.lit 0)) (sp (.lt (cA 3) (.lit 0)) (kf (cA 2) (mk (cA 3)) (mk (cA 4)) bt (mk (cA 6)) (.op .snoc (.eD (.i 0)) (mk (.dK 3))) (cA 8) (.lit 0) 2) xo) rN))
theorem ahM (H:TH d0 d1 s th 5 obj arg tries o c dn g r v) (hr:r.l= []):ei (dJ d0 d1 s th 5 obj arg tries) adL=Gl d0 s th 5 obj arg tries o c dn g r v:=by
 have hb:=H.hb;have hz:((0:Nat):Int)=0:=rfl;simp only [zz,H.eP,H.hJ,H.hR,H.hk,ec r th hb,dW r th hb,hr,aA,aw,hz,jr,bF,vb,fe,dH,dG,de,dc,dL,act,Int.reduceEq,Gl]<;>(repeat' split)<;>first |rfl|(exfalso; omega)
theorem ahL (H:TH d0 d1 s th 7 obj arg tries o c dn g r v) (hr:r.l= []):ei (dJ d0 d1 s th 7 obj arg tries) zt0=Gl d0 s th 7 obj arg tries o c dn g r v:=by
 have hb:=H.hb;have hz:((0:Nat):Int)=0:=rfl;simp only [zz,H.eP,H.hJ,H.hR,H.hk,ec r th hb,dW r th hb,hr,aA,aw,hz,bF,vb,fe,dH,dG,de,dc,dL,act,Int.reduceEq,Gl]<;>(repeat' split)<;>first |rfl|(exfalso; omega)
abbrev adK:T Lf:=(sp (.eq (nm (ce 0 (el (cA 2) OD))) (.dK 3)) (kf (TS (.eD (.i (-1)))) (mk (cA 3)) (mk (cA 4)) bt (mk (cA 6)) (.op .snoc (.eD (.i 0)) (mk (.dK 3))) (cA 8) (.lit 0) 3) rN)
theorem ahK (H:TH d0 d1 s th 12 obj arg tries o c dn g r v) (hr:r.l= []):ei (dJ d0 d1 s th 12 obj arg tries) adK=Gl d0 s th 12 obj arg tries o c dn g r v:=by
 have hb:=H.hb;have hz:((0:Nat):Int)=0:=rfl;simp only [zz,H.eP,H.hJ,H.hR,H.hk,ec r th hb,dW r th hb,hr,aA,aw,hz,aee hr,bD,jr,bF,vb,fe,dH,dG,de,dc,dL,act,Int.reduceEq,Gl]<;>(repeat' split)<;>first |rfl|(exfalso; omega)
abbrev adJ:T Lf:=(kf (cA 2) (mk (cA 3)) (mk (cA 4)) bt (mk (cA 6)) (cA 7) (cA 8) (.lit 0) 2)
theorem ahJ (H:TH d0 d1 s th 13 obj arg tries o c dn g r v) (hr:r.l= []):ei (dJ d0 d1 s th 13 obj arg tries) adJ=Gl d0 s th 13 obj arg tries o c dn g r v:=by
 have hb:=H.hb;have hz:((0:Nat):Int)=0:=rfl;simp only [zz,H.eP,H.hJ,H.hR,H.hk,ec r th hb,dW r th hb,hr,aA,aw,hz,jr,bF,vb,fe,dH,dG,de,dc,dL,act,Int.reduceEq,Gl]<;>(repeat' split)<;>first |rfl|(exfalso; omega)
abbrev adI:T Lf:=(kf (cA 2) (mk (cA 3)) (mk (cA 4)) bt (mk (cA 6)) (.eD (.i 1)) (cA 8) (.lit 0) 2)
theorem ahI (H:TH d0 d1 s th 14 obj arg tries o c dn g r v) (hr:r.l= []):ei (dJ d0 d1 s th 14 obj arg tries) adI=Gl d0 s th 14 obj arg tries o c dn g r v:=by
 have hb:=H.hb;have hz:((0:Nat):Int)=0:=rfl;simp only [zz,H.eP,H.hJ,H.hR,H.hk,ec r th hb,dW r th hb,hr,aA,aw,hz,jr,bF,vb,fe,dH,dG,de,dc,dL,act,Int.reduceEq,Gl]<;>(repeat' split)<;>first |rfl|(exfalso; omega)
end
def ops:List Int:=[1,2,8,3,4,5,6,7,9,11,10,17,18,19,22,23,20,21,12,13,14,24,15,25,16,26]
abbrev Yo (k:Int):List SB:=[.eq (.dK 4) (.lit k)]
abbrev No (k:Int):List SB:=(ops.filter fun j=>!(j == k)).map fun j=> .eq (.dK 4) (.lit j)
abbrev p3:T Lf:=prune (YG++YA3) (NG++NA3) jD
abbrev p4:T Lf:=prune (YG++YA4) (NG++NA4) jD
abbrev p5:T Lf:=prune (YG++YA5) (NG++NA5) jD
abbrev p6:T Lf:=prune (YG++YA6) (NG++NA6) jD
section
variable {d0 d1 s r v:D} {th op obj arg tries o c dn g:Int}
theorem V2 {ρ:Nat->Int}: ∀{l:List SB},(∀c∈l,¬c.den ρ=true)->zW ρ l
 |[],_=>trivial
 |c::l,h=> ⟨h c ad,V2 fun x hx=>h x (anq _ hx)⟩
theorem fO (k:Int):zY (dJ d0 d1 s th k obj arg tries) (Yo k)/\zW (dJ d0 d1 s th k obj arg tries) (No k):=by
 refine⟨by simp only [zz],V2 fun c hc=>?_⟩;obtain⟨j,hj,rfl⟩:=bd.1 hc;have:=(amM.1 hj).2;simp only [zz];intro h
 grind
theorem Vm (H:TH d0 d1 s th op obj arg tries o c dn g r v) (hr:0<r.l.length) (hv:0<v.l.length):ei (dJ d0 d1 s th op obj arg tries) p3=ei (dJ d0 d1 s th op obj arg tries) jD:=dN (z2 (fG H) (fA3 H hr hv)) jD
theorem Vl (H:TH d0 d1 s th op obj arg tries o c dn g r v) (hr:0<r.l.length) (hv:v.l= []):ei (dJ d0 d1 s th op obj arg tries) p4=ei (dJ d0 d1 s th op obj arg tries) jD:=dN (z2 (fG H) (fA4 H hr hv)) jD
theorem z? (H:TH d0 d1 s th op obj arg tries o c dn g r v) (hr:r.l= []) (hv:0<v.l.length):ei (dJ d0 d1 s th op obj arg tries) p5=ei (dJ d0 d1 s th op obj arg tries) jD:=dN (z2 (fG H) (fA5 H hr hv)) jD
theorem z! (H:TH d0 d1 s th op obj arg tries o c dn g r v) (hr:r.l= []) (hv:v.l= []):ei (dJ d0 d1 s th op obj arg tries) p6=ei (dJ d0 d1 s th op obj arg tries) jD:=dN (z2 (fG H) (fA6 H hr hv)) jD
theorem jm {k:Int} {t u:T Lf} {Q:RS} (e:prune (Yo k) (No k) t=u) (h:ei (dJ d0 d1 s th k obj arg tries) u=Q):ei (dJ d0 d1 s th k obj arg tries) t=Q:=by rw [<- dN (fO k) t,e,h]
theorem jn (H:TH d0 d1 s th op obj arg tries o c dn g r v) {u:T Lf} {Q:RS} (e3:prune (Yo op) (No op) p3=u) (e4:prune (Yo op) (No op) p4=u) (e5:prune (Yo op) (No op) p5=u) (e6:prune (Yo op) (No op) p6=u) (h:ei (dJ d0 d1 s th op obj arg tries) u=Q):ei (dJ d0 d1 s th op obj arg tries) jD=Q:=by
 rcases jI r.l with hr|hr<;>rcases jI v.l with hv|hv
 ·exact (z! H hr hv).symm.trans (jm e6 h)
 ·exact (z? H hr hv).symm.trans (jm e5 h)
 ·exact (Vl H hr hv).symm.trans (jm e4 h)
 ·exact (Vm H hr hv).symm.trans (jm e3 h)
theorem o1 (H:TH d0 d1 s th 1 obj arg tries o c dn g r v):ei (dJ d0 d1 s th 1 obj arg tries) jD=Gl d0 s th 1 obj arg tries o c dn g r v:=jn H (u:=zt0) aa aa aa aa (sm0 H)
theorem o2 (H:TH d0 d1 s th 2 obj arg tries o c dn g r v):ei (dJ d0 d1 s th 2 obj arg tries) jD=Gl d0 s th 2 obj arg tries o c dn g r v:=jn H (u:=zt1) aa aa aa aa (sm1 H)
theorem o8 (H:TH d0 d1 s th 8 obj arg tries o c dn g r v):ei (dJ d0 d1 s th 8 obj arg tries) jD=Gl d0 s th 8 obj arg tries o c dn g r v:=jn H (u:=zt1) aa aa aa aa (sm2 H)
theorem o3 (H:TH d0 d1 s th 3 obj arg tries o c dn g r v):ei (dJ d0 d1 s th 3 obj arg tries) jD=Gl d0 s th 3 obj arg tries o c dn g r v:=jn H (u:=zt2) aa aa aa aa (sm3 H)
theorem o4 (H:TH d0 d1 s th 4 obj arg tries o c dn g r v):ei (dJ d0 d1 s th 4 obj arg tries) jD=Gl d0 s th 4 obj arg tries o c dn g r v:=jn H (u:=zt3) aa aa aa aa (sm4 H)
theorem o5 (H:TH d0 d1 s th 5 obj arg tries o c dn g r v):ei (dJ d0 d1 s th 5 obj arg tries) jD=Gl d0 s th 5 obj arg tries o c dn g r v:=by
 rcases jI r.l with hr|hr<;>rcases jI v.l with hv|hv
 ·exact (z! H hr hv).symm.trans (jm (u:=adL) aa (ahM H hr))
 ·exact (z? H hr hv).symm.trans (jm (u:=adL) aa (ahM H hr))
 ·exact (Vl H hr hv).symm.trans (jm (u:=zt4) aa (sm5 H hr))
 ·exact (Vm H hr hv).symm.trans (jm (u:=zt4) aa (sm5 H hr))
theorem o6 (H:TH d0 d1 s th 6 obj arg tries o c dn g r v):ei (dJ d0 d1 s th 6 obj arg tries) jD=Gl d0 s th 6 obj arg tries o c dn g r v:=by
 rcases jI r.l with hr|hr<;>rcases jI v.l with hv|hv
 ·exact (z! H hr hv).symm.trans (jm (u:=zt5) aa (sm6 H (by rw [wJ hr]; omega)))
 ·exact (z? H hr hv).symm.trans (jm (u:=zt5) aa (sm6 H (by rw [wJ hr]; omega)))
 ·by_cases hk:place r th<0
  ·exact (Vl H hr hv).symm.trans ((dN (fK0 H hk) _).symm.trans (jm (u:=zt5) aa (sm6 H hk)))
  ·exact (Vl H hr hv).symm.trans ((dN (fK1 H hk) _).symm.trans (jm (u:=zt6) aa (sm7 H hr hk)))
 ·by_cases hk:place r th<0
  ·exact (Vm H hr hv).symm.trans ((dN (fK0 H hk) _).symm.trans (jm (u:=zt5) aa (sm6 H hk)))
  ·exact (Vm H hr hv).symm.trans ((dN (fK1 H hk) _).symm.trans (jm (u:=zt6) aa (sm7 H hr hk)))
theorem o7 (H:TH d0 d1 s th 7 obj arg tries o c dn g r v):ei (dJ d0 d1 s th 7 obj arg tries) jD=Gl d0 s th 7 obj arg tries o c dn g r v:=by
 rcases jI r.l with hr|hr<;>rcases jI v.l with hv|hv
 ·exact (z! H hr hv).symm.trans (jm (u:=zt0) aa (ahL H hr))
 ·exact (z? H hr hv).symm.trans (jm (u:=zt0) aa (ahL H hr))
 ·exact (Vl H hr hv).symm.trans (jm (u:=zt7) aa (sm8 H hr))
 ·exact (Vm H hr hv).symm.trans (jm (u:=zt7) aa (sm8 H hr))
theorem o9 (H:TH d0 d1 s th 9 obj arg tries o c dn g r v):ei (dJ d0 d1 s th 9 obj arg tries) jD=Gl d0 s th 9 obj arg tries o c dn g r v:=jn H (u:=zt8) aa aa aa aa (sm9 H)
theorem o11 (H:TH d0 d1 s th 11 obj arg tries o c dn g r v):ei (dJ d0 d1 s th 11 obj arg tries) jD=Gl d0 s th 11 obj arg tries o c dn g r v:=jn H (u:=zt9) aa aa aa aa (aj5 H)
theorem o10 (H:TH d0 d1 s th 10 obj arg tries o c dn g r v):ei (dJ d0 d1 s th 10 obj arg tries) jD=Gl d0 s th 10 obj arg tries o c dn g r v:=jn H (u:=agv) aa aa aa aa (aj4 H)
theorem o17 (H:TH d0 d1 s th 17 obj arg tries o c dn g r v):ei (dJ d0 d1 s th 17 obj arg tries) jD=Gl d0 s th 17 obj arg tries o c dn g r v:=jn H (u:=agu) aa aa aa aa (aj3 H)
theorem o18 (H:TH d0 d1 s th 18 obj arg tries o c dn g r v):ei (dJ d0 d1 s th 18 obj arg tries) jD=Gl d0 s th 18 obj arg tries o c dn g r v:=jn H (u:=agt) aa aa aa aa (aj2 H)
theorem o19 (H:TH d0 d1 s th 19 obj arg tries o c dn g r v):ei (dJ d0 d1 s th 19 obj arg tries) jD=Gl d0 s th 19 obj arg tries o c dn g r v:=jn H (u:=agr) aa aa aa aa (aj1 H)
theorem o22 (H:TH d0 d1 s th 22 obj arg tries o c dn g r v):ei (dJ d0 d1 s th 22 obj arg tries) jD=Gl d0 s th 22 obj arg tries o c dn g r v:=jn H (u:=agq) aa aa aa aa (aj0 H)
theorem o23 (H:TH d0 d1 s th 23 obj arg tries o c dn g r v):ei (dJ d0 d1 s th 23 obj arg tries) jD=Gl d0 s th 23 obj arg tries o c dn g r v:=jn H (u:=agp) aa aa aa aa (ajZ H)
theorem o20 (H:TH d0 d1 s th 20 obj arg tries o c dn g r v):ei (dJ d0 d1 s th 20 obj arg tries) jD=Gl d0 s th 20 obj arg tries o c dn g r v:=by
 rcases jI r.l with hr|hr<;>rcases jI v.l with hv|hv
 ·exact (z! H hr hv).symm.trans (jm (u:=adN) aa (ahO H hv))
 ·exact (z? H hr hv).symm.trans (jm (u:=adS) aa (ahT H hv))
 ·exact (Vl H hr hv).symm.trans (jm (u:=adN) aa (ahO H hv))
 ·exact (Vm H hr hv).symm.trans (jm (u:=adS) aa (ahT H hv))
theorem o21 (H:TH d0 d1 s th 21 obj arg tries o c dn g r v):ei (dJ d0 d1 s th 21 obj arg tries) jD=Gl d0 s th 21 obj arg tries o c dn g r v:=by
 rcases jI r.l with hr|hr<;>rcases jI v.l with hv|hv
 ·exact (z! H hr hv).symm.trans (jm (u:=adM) aa (ahN H hv))
 ·exact (z? H hr hv).symm.trans (jm (u:=adR) aa (ahS H hv))
 ·exact (Vl H hr hv).symm.trans (jm (u:=adM) aa (ahN H hv))
 ·exact (Vm H hr hv).symm.trans (jm (u:=adR) aa (ahS H hv))
theorem o12 (H:TH d0 d1 s th 12 obj arg tries o c dn g r v):ei (dJ d0 d1 s th 12 obj arg tries) jD=Gl d0 s th 12 obj arg tries o c dn g r v:=by
 rcases jI r.l with hr|hr<;>rcases jI v.l with hv|hv
 ·have hd:=aaU r th obj (Mx d0 obj) (enc (dL (fI s.l (Mx d0 obj) (dL (fI (s.at (Mx d0 obj)).l 0 (.i (-1))))))) 12 arg tries o c dn g (enc v);exact (z! H hr hv).symm.trans ((dN (fM H J) _).symm.trans ((dN (ale H hd) _).symm.trans (jm (u:=adK) aa (ahK H hr))))
 ·have hd:=aaV r th obj (Mx d0 obj) (enc (dL (fI s.l (Mx d0 obj) (dL (fI (s.at (Mx d0 obj)).l 0 (.i (-1))))))) 12 arg tries o c dn g (enc v);exact (z? H hr hv).symm.trans ((dN (fM H J) _).symm.trans ((dN (alf H hd) _).symm.trans (jm (u:=adK) aa (ahK H hr))))
 ·rcases aaW r th (by have:=H.hr; omega) H.hn with ⟨hw,hd⟩|hd
  ·have hd:=hd obj (Mx d0 obj) (enc (dL (fI s.l (Mx d0 obj) (dL (fI (s.at (Mx d0 obj)).l 0 (.i (-1))))))) 12 arg tries o c dn g (enc v);exact (Vl H hr hv).symm.trans ((dN (fM H J) _).symm.trans ((dN (alg H hd) _).symm.trans (jm (u:=adQ) aa (ahR H hr hw))))
  ·obtain⟨n,r1,hn,W,hw,hd⟩:=hd obj (Mx d0 obj) (enc (dL (fI s.l (Mx d0 obj) (dL (fI (s.at (Mx d0 obj)).l 0 (.i (-1))))))) 12 arg tries o c dn g (enc v);exact (Vl H hr hv).symm.trans ((dN (fM H J) _).symm.trans ((dN (alh H hn W hd) _).symm.trans (jm (u:=agj) aa (ajT H hr hv hn W hw hd))))
 ·rcases aaX r th (by have:=H.hr; omega) H.hn with ⟨hw,hd⟩|hd
  ·have hd:=hd obj (Mx d0 obj) (enc (dL (fI s.l (Mx d0 obj) (dL (fI (s.at (Mx d0 obj)).l 0 (.i (-1))))))) 12 arg tries o c dn g (enc v);exact (Vm H hr hv).symm.trans ((dN (fM H J) _).symm.trans ((dN (ali H hd) _).symm.trans (jm (u:=adQ) aa (ahR H hr hw))))
  ·obtain⟨n,r1,hn,W,hw,hd⟩:=hd obj (Mx d0 obj) (enc (dL (fI s.l (Mx d0 obj) (dL (fI (s.at (Mx d0 obj)).l 0 (.i (-1))))))) 12 arg tries o c dn g (enc v);exact (Vm H hr hv).symm.trans ((dN (fM H J) _).symm.trans ((dN (alj H hn W hd) _).symm.trans (jm (u:=ago) aa (ajY H hr hv hn W hw hd))))
theorem o13 (H:TH d0 d1 s th 13 obj arg tries o c dn g r v):ei (dJ d0 d1 s th 13 obj arg tries) jD=Gl d0 s th 13 obj arg tries o c dn g r v:=by
 rcases jI r.l with hr|hr<;>rcases jI v.l with hv|hv
 ·exact (z! H hr hv).symm.trans (jm (u:=adJ) aa (ahJ H hr))
 ·exact (z? H hr hv).symm.trans (jm (u:=adJ) aa (ahJ H hr))
 ·exact (Vl H hr hv).symm.trans (jm (u:=adP) aa (ahQ H hr))
 ·exact (Vm H hr hv).symm.trans (jm (u:=adP) aa (ahQ H hr))
theorem o14 (H:TH d0 d1 s th 14 obj arg tries o c dn g r v):ei (dJ d0 d1 s th 14 obj arg tries) jD=Gl d0 s th 14 obj arg tries o c dn g r v:=by
 rcases jI r.l with hr|hr<;>rcases jI v.l with hv|hv
 ·exact (z! H hr hv).symm.trans (jm (u:=adI) aa (ahI H hr))
 ·exact (z? H hr hv).symm.trans (jm (u:=adI) aa (ahI H hr))
 ·exact (Vl H hr hv).symm.trans (jm (u:=adO) aa (ahP H hr))
 ·exact (Vm H hr hv).symm.trans (jm (u:=adO) aa (ahP H hr))
theorem o24 (H:TH d0 d1 s th 24 obj arg tries o c dn g r v):ei (dJ d0 d1 s th 24 obj arg tries) jD=Gl d0 s th 24 obj arg tries o c dn g r v:=by
 rcases jI r.l with hr|hr<;>rcases jI v.l with hv|hv
 ·exact (z! H hr hv).symm.trans ((dN (fM H J) _).symm.trans (jm (u:=VV) aa (Q? H)))
 ·exact (z? H hr hv).symm.trans ((dN (fM H J) _).symm.trans (jm (u:=VV) aa (Q? H)))
 ·exact (Vl H hr hv).symm.trans ((dN (fM H J) _).symm.trans (jm (u:=VV) aa (Q? H)))
 ·exact (Vm H hr hv).symm.trans ((dN (fM H J) _).symm.trans (jm (u:=VV) aa (Q? H)))
theorem o15 (H:TH d0 d1 s th 15 obj arg tries o c dn g r v):ei (dJ d0 d1 s th 15 obj arg tries) jD=Gl d0 s th 15 obj arg tries o c dn g r v:=jn H (u:=agn) aa aa aa aa (ajX H)
theorem o25 (H:TH d0 d1 s th 25 obj arg tries o c dn g r v):ei (dJ d0 d1 s th 25 obj arg tries) jD=Gl d0 s th 25 obj arg tries o c dn g r v:=jn H (u:=agm) aa aa aa aa (ajW H)
theorem o16 (H:TH d0 d1 s th 16 obj arg tries o c dn g r v):ei (dJ d0 d1 s th 16 obj arg tries) jD=Gl d0 s th 16 obj arg tries o c dn g r v:=jn H (u:=agl) aa aa aa aa (ajV H)
theorem o26 (H:TH d0 d1 s th 26 obj arg tries o c dn g r v):ei (dJ d0 d1 s th 26 obj arg tries) jD=Gl d0 s th 26 obj arg tries o c dn g r v:=jn H (u:=agk) aa aa aa aa (ajU H)
theorem K! (H:TH d0 d1 s th op obj arg tries o c dn g r v) (oa:op∈ops):L 400 [enc d0,enc d1,enc s,th,op,obj,arg,tries]=some (Er s th op obj (Mx d0 obj) (act (Mx d0 obj) (Mo d0 s obj) th op arg tries o c dn g r v)):=by
 rw [bM,afY]
 suffices h:ei (dJ d0 d1 s th op obj arg tries) jD=Gl d0 s th op obj arg tries o c dn g r v by rw [h]; rfl
 unfold ops at oa;simp only [aF,amw,or_false] at oa;rcases oa with rfl|rfl|rfl|rfl|rfl|rfl|rfl|rfl|rfl|rfl|rfl|rfl|rfl|rfl|rfl|rfl|rfl|rfl|rfl|rfl|rfl|rfl|rfl|rfl|rfl|rfl
 ·exact o1 H
 ·exact o2 H
 ·exact o8 H
 ·exact o3 H
 ·exact o4 H
 ·exact o5 H
 ·exact o6 H
 ·exact o7 H
 ·exact o9 H
 ·exact o11 H
 ·exact o10 H
 ·exact o17 H
 ·exact o18 H
 ·exact o19 H
 ·exact o22 H
 ·exact o23 H
 ·exact o20 H
 ·exact o21 H
 ·exact o12 H
 all_goals grind [o13,o14,o24,o15,o25,o16,o26]
end
abbrev XT:T Lf:=ou [.op .set (cA 2) (thg (mk (cA 3)) (mk (cA 4)) bt (mk (cA 6)) (cA 7) (cA 8)),.lit 0,.lit 0,.lit 0,.lit 0,.lit 0,.lit 0]
abbrev Ya (a:Int):List SB:=[.eq (a0 9000 [.dK 5,.dK 2]) (.lit 1),.eq (cA 0) (.lit a),.eq (a0 350 [.dK 0,.dK 1,.dK 2]) (.lit 1)]
abbrev Na (a:Int):List SB:=([0,1,2,3,4,5].filter fun j=>!(j == a)).map fun j=> .eq (cA 0) (.lit j)
abbrev r3:SB:=.eq (rr 350 [.dK 0,.dK 1,.dK 2] 0) (.lit 0)
abbrev t3:SB:=.lt (.dK 3) (.lit 0)
abbrev u3:SB:=.lt (.dK 3) (ln (.dK 1))
section
variable {d0 d1 s r v:D} {th op obj arg tries o c dn g b kop a:Int} (hR:L 350 [enc d0,enc d1,enc s]=some [b])
include hR
theorem fa {l:List Int} (hc:L 9000 [obj,enc s]=some (a::l)):zY (dJ d0 d1 s th op obj arg tries) (Ya a)/\zW (dJ d0 d1 s th op obj arg tries) (Na a):=by
 refine⟨by simp only [zz,hc,hR],V2 fun c hc'=>?_⟩;obtain⟨j,hj,rfl⟩:=bd.1 hc';have:=(amM.1 hj).2;simp only [zz,hc];intro h
 grind
theorem r7 (k:ei (dJ d0 d1 s th op obj arg tries) jD= .out [enc s,0,0,0,0,0,0]):L 400 [enc d0,enc d1,enc s,th,op,obj,arg,tries]=some [enc s,0,0,0,0,0,0]:=by rw [bM,afY];exact congrArg (fin L) k
section
variable (ha:a=3\/a=4\/a=5\/a=6) (eP:L 9000 [obj,enc s]=some [a,obj,enc s,o,c,dn,g,enc r,enc v]) (vH:0<=obj) (vG:obj<(s.l.length:Int)) (hd:dn=0\/dn=1) (hs:s=dL (fI s.l obj (dL [.i o,.i c,.i dn,.i g,r,v])))
include ha eP vH vG hd hs
omit ha hR vH vG in
theorem Dd:ei (dJ d0 d1 s th op obj arg tries) XT= .out [enc s,0,0,0,0,0,0]:=by
 have e:(if dn=0 then (0:Int) else 1)=dn:=by rcases hd with rfl|rfl<;>rfl
 simp only [dL] at hs;simp only [zz,eP,e,<- hs]
theorem aka (h:b=0):L 400 [enc d0,enc d1,enc s,th,op,obj,arg,tries]=some [enc s,0,0,0,0,0,0]:=
 r7 hR (bW (Ya a++ [r3]) (Na a++ []) XT (z2 (fa hR eP) (by simp only [zz,eP,hR]<;>omega)) (by rcases ha with rfl|rfl|rfl|rfl<;>kernel_rfl) (Dd eP hd hs))
theorem aj9 (hb:b≠0) (h:th<0):L 400 [enc d0,enc d1,enc s,th,op,obj,arg,tries]=some [enc s,0,0,0,0,0,0]:=
 r7 hR (bW (Ya a++ [t3]) (Na a++ [r3]) XT (z2 (fa hR eP) (by simp only [zz,eP,hR]<;>omega)) (by rcases ha with rfl|rfl|rfl|rfl<;>kernel_rfl) (Dd eP hd hs))
theorem aj8 (hb:b≠0) (h0:0<=th) (h: ¬th<(d1.l.length:Int)):L 400 [enc d0,enc d1,enc s,th,op,obj,arg,tries]=some [enc s,0,0,0,0,0,0]:=
 r7 hR (bW (Ya a++ []) (Na a++ [r3,t3,u3]) XT (z2 (fa hR eP) (by simp only [zz,eP,hR]<;>omega)) (by rcases ha with rfl|rfl|rfl|rfl<;>kernel_rfl) (Dd eP hd hs))
theorem akb (hb:b≠0) (h0:0<=th) (h:th<(d1.l.length:Int)) (hk:L 600 [op]=some [kop]) (hlen:s.l.length=d0.l.length) (gB: ¬kop=((d0.at obj).hd 0).n):L 400 [enc d0,enc d1,enc s,th,op,obj,arg,tries]=some [enc s,0,0,0,0,0,0]:=
 r7 hR (bW (Ya a++ [u3,.lt (.dK 5) (ln (cA 2)),.eq (a0 600 [.dK 4]) (.lit 1),.lt (.dK 5) (ln (.dK 0))]) (Na a++ [r3,t3,.lt (.dK 5) (.lit 0),.eq (rr 600 [.dK 4] 0) (nm (ce 0 (el (.dK 0) (.dK 5))))]) XT (z2 (fa hR eP) (by simp only [zz,eP,hR,hk]<;>omega)) (by rcases ha with rfl|rfl|rfl|rfl<;>kernel_rfl) (Dd eP hd hs))
end
theorem ah6 (eP:L 9000 [obj,enc s]=some [0,obj,enc s]) (h:obj<0):L 400 [enc d0,enc d1,enc s,th,op,obj,arg,tries]=some [enc s,0,0,0,0,0,0]:=
 r7 hR (bW (Ya 0++ [.lt (.dK 5) (.lit 0)]) (Na 0++ []) (sp r3 (ou [cA 2,.lit 0,.lit 0,.lit 0,.lit 0,.lit 0,.lit 0]) (sp t3 (ou [cA 2,.lit 0,.lit 0,.lit 0,.lit 0,.lit 0,.lit 0]) (sp u3 (ou [cA 2,.lit 0,.lit 0,.lit 0,.lit 0,.lit 0,.lit 0]) (ou [cA 2,.lit 0,.lit 0,.lit 0,.lit 0,.lit 0,.lit 0])))) (z2 (fa hR eP) (by simp only [zz,eP]<;>omega)) aa (by simp only [zz,eP,hR,ite_self]))
theorem ah5 (eP:L 9000 [obj,enc s]=some [0,obj,enc s]) (h0:0<=obj) (h: ¬obj<(s.l.length:Int)):L 400 [enc d0,enc d1,enc s,th,op,obj,arg,tries]=some [enc s,0,0,0,0,0,0]:=
 r7 hR (bW (Ya 0++ []) (Na 0++ [.lt (.dK 5) (.lit 0),.lt (.dK 5) (ln (cA 2))]) (sp r3 (ou [cA 2,.lit 0,.lit 0,.lit 0,.lit 0,.lit 0,.lit 0]) (sp t3 (ou [cA 2,.lit 0,.lit 0,.lit 0,.lit 0,.lit 0,.lit 0]) (sp u3 (ou [cA 2,.lit 0,.lit 0,.lit 0,.lit 0,.lit 0,.lit 0]) (ou [cA 2,.lit 0,.lit 0,.lit 0,.lit 0,.lit 0,.lit 0])))) (z2 (fa hR eP) (by simp only [zz,eP]<;>omega)) aa (by simp only [zz,eP,hR,ite_self]))
theorem ah4 (eP:L 9000 [obj,enc s]=some [1,obj]) (h:obj<0) (hs:s= .i 1):L 400 [enc d0,enc d1,enc s,th,op,obj,arg,tries]=some [enc s,0,0,0,0,0,0]:=
 r7 hR (bW (Ya 1++ [.lt (.dK 5) (.lit 0)]) (Na 1++ []) (sp r3 (ou [.eD (.i 1),.lit 0,.lit 0,.lit 0,.lit 0,.lit 0,.lit 0]) (sp t3 (ou [.eD (.i 1),.lit 0,.lit 0,.lit 0,.lit 0,.lit 0,.lit 0]) (sp u3 (ou [.eD (.i 1),.lit 0,.lit 0,.lit 0,.lit 0,.lit 0,.lit 0]) (ou [.eD (.i 1),.lit 0,.lit 0,.lit 0,.lit 0,.lit 0,.lit 0])))) (z2 (fa hR eP) (by simp only [zz,eP]<;>omega)) aa (by simp only [zz,eP,hR,hs,ite_self]))
theorem ah3 (eP:L 9000 [obj,enc s]=some [1,obj]) (h0:0<=obj) (h: ¬obj<(s.l.length:Int)) (hs:s= .i 1):L 400 [enc d0,enc d1,enc s,th,op,obj,arg,tries]=some [enc s,0,0,0,0,0,0]:=
 r7 hR (bW (Ya 1++ []) (Na 1++ [.lt (.dK 5) (.lit 0)]) (sp r3 (ou [.eD (.i 1),.lit 0,.lit 0,.lit 0,.lit 0,.lit 0,.lit 0]) (sp t3 (ou [.eD (.i 1),.lit 0,.lit 0,.lit 0,.lit 0,.lit 0,.lit 0]) (sp u3 (ou [.eD (.i 1),.lit 0,.lit 0,.lit 0,.lit 0,.lit 0,.lit 0]) (ou [.eD (.i 1),.lit 0,.lit 0,.lit 0,.lit 0,.lit 0,.lit 0])))) (z2 (fa hR eP) (by simp only [zz,eP]<;>omega)) aa (by simp only [zz,eP,hR,hs,ite_self]))
theorem ah2 (eP:L 9000 [obj,enc s]=some [2,obj]) (h:obj<0) (hs:s= .i 2):L 400 [enc d0,enc d1,enc s,th,op,obj,arg,tries]=some [enc s,0,0,0,0,0,0]:=
 r7 hR (bW (Ya 2++ [.lt (.dK 5) (.lit 0)]) (Na 2++ []) (sp r3 (ou [.eD (.i 2),.lit 0,.lit 0,.lit 0,.lit 0,.lit 0,.lit 0]) (sp t3 (ou [.eD (.i 2),.lit 0,.lit 0,.lit 0,.lit 0,.lit 0,.lit 0]) (sp u3 (ou [.eD (.i 2),.lit 0,.lit 0,.lit 0,.lit 0,.lit 0,.lit 0]) (ou [.eD (.i 2),.lit 0,.lit 0,.lit 0,.lit 0,.lit 0,.lit 0])))) (z2 (fa hR eP) (by simp only [zz,eP]<;>omega)) aa (by simp only [zz,eP,hR,hs,ite_self]))
theorem ah1 (eP:L 9000 [obj,enc s]=some [2,obj]) (h0:0<=obj) (h: ¬obj<(s.l.length:Int)) (hs:s= .i 2):L 400 [enc d0,enc d1,enc s,th,op,obj,arg,tries]=some [enc s,0,0,0,0,0,0]:=
 r7 hR (bW (Ya 2++ []) (Na 2++ [.lt (.dK 5) (.lit 0)]) (sp r3 (ou [.eD (.i 2),.lit 0,.lit 0,.lit 0,.lit 0,.lit 0,.lit 0]) (sp t3 (ou [.eD (.i 2),.lit 0,.lit 0,.lit 0,.lit 0,.lit 0,.lit 0]) (sp u3 (ou [.eD (.i 2),.lit 0,.lit 0,.lit 0,.lit 0,.lit 0,.lit 0]) (ou [.eD (.i 2),.lit 0,.lit 0,.lit 0,.lit 0,.lit 0,.lit 0])))) (z2 (fa hR eP) (by simp only [zz,eP]<;>omega)) aa (by simp only [zz,eP,hR,hs,ite_self]))
end
def kindOf (o:Int):Int:=if o<27 then (if o=0 then 0 else if o=1 then 1 else if o=2 then 1 else if o=3 then 1 else if o=4 then 1 else if o=5 then 2 else if o=6 then 2 else if o=7 then 2 else if o=8 then 2 else if o=9 then 3 else if o=10 then 3 else if o=11 then 3 else if o=12 then 4 else if o=13 then 4 else if o=14 then 4 else if o=15 then 5 else if o=16 then 6 else if o=17 then 7 else if o=18 then 7 else if o=19 then 7 else if o=20 then 8 else if o=21 then 8 else if o=22 then 9 else if o=23 then 9 else if o=24 then 4 else if o=25 then 5 else 6) else 0
theorem LZ (o:Int) (h:eE .u8 o):L 600 [o]=some [kindOf o]:=by
 have U:=h.1;have w:=ahb h;have c1: ¬(o<0):=J
 rw [bM,ajl];simp only [ahq,zz,w,c1];by_cases h27:o<27
 ·simp only [ak h27];have:o=0\/o=1\/o=2\/o=3\/o=4\/o=5\/o=6\/o=7\/o=8\/o=9\/o=10\/o=11\/o=12\/o=13\/o=14\/o=15\/o=16\/o=17\/o=18\/o=19\/o=20\/o=21\/o=22\/o=23\/o=24\/o=25\/o=26:=J
  rcases this with rfl|rfl|rfl|rfl|rfl|rfl|rfl|rfl|rfl|rfl|rfl|rfl|rfl|rfl|rfl|rfl|rfl|rfl|rfl|rfl|rfl|rfl|rfl|rfl|rfl|rfl|rfl
  all_goals rfl
 ·simp only [ah h27];unfold kindOf;rw [ah h27];rfl
theorem Yb {o:Int} (h0:0<=o) (h:kindOf o≠0):o∈ops:=by
 have h27:o<27:=by
  refine Decidable.byContradiction fun hn=>h ?_;unfold kindOf
  grind
 have:o=0\/o=1\/o=2\/o=3\/o=4\/o=5\/o=6\/o=7\/o=8\/o=9\/o=10\/o=11\/o=12\/o=13\/o=14\/o=15\/o=16\/o=17\/o=18\/o=19\/o=20\/o=21\/o=22\/o=23\/o=24\/o=25\/o=26:=J
 rcases this with rfl|rfl|rfl|rfl|rfl|rfl|rfl|rfl|rfl|rfl|rfl|rfl|rfl|rfl|rfl|rfl|rfl|rfl|rfl|rfl|rfl|rfl|rfl|rfl|rfl|rfl|rfl
 all_goals first |exact absurd rfl h|decide
structure Acc (d0 d1 s:D) (th op obj:Int):Prop where
 r:L 350 [enc d0,enc d1,enc s]=some [1]
 t0:0<=th
 t1:th<(d1.l.length:Int)
 o0:0<=obj
 o1:obj<(s.l.length:Int)
 k:kindOf op=((d0.at obj).hd 0).n
structure Tg (x:D) (o c dn g:Int) (r v:D):Prop where
 is:x=dL [.i o,.i c,.i dn,.i g,r,v]
 ho:eE .i64 o
 hc:eE .i64 c
 hd:dn=0\/dn=1
 hg:eE .i64 g
 hr:Wd (.sl 0) r
 hv:Wd (.sl 0) v
theorem DO {x:D} (h:wU x): ∃o c dn g r v,Tg x o c dn g r v:=by obtain⟨o,c,d,g,r,v,U,Z,h3,h4,h5,h6,h7⟩:=h;exact⟨o,c,d,g,r,v,U,Z,h3,h4,h5,h6,h7⟩
theorem J' {r:D} (h:Wd (.sl 0) r): ∀x∈r.l,x= .i x.n:=by intro x hx;obtain⟨n,rfl,_⟩:=(h.el1 rfl x hx).i;rfl
def kS (s:D):Prop:= ∀x∈s.l,(x.hd 4).l.length<17592186044415/\(x.hd 5).l.length<17592186044415
theorem kS.rows {s:D} (h:kS s):Be s:=fun x hx=>by have:=(h x hx).1; omega
section
variable {d0 d1 s:D} {th op obj arg tries:Int} (h0:Wd (.sl 3) d0) (U:Wd (.sl 4) d1) (hs:Wd (.sl 7) s) (hf:kS s) (oa:eE .u8 op)
include h0 U hf in
theorem D7 (h:L 350 [enc d0,enc d1,enc s]=some [1]):mB d0 d1/\s.l.length=d0.l.length:=by
 obtain⟨b,hb,_,hi⟩:=kV h0 U hf.rows;rw [h] at hb;simp only [an,List.cons.injEq,and_true] at hb;obtain⟨hC,hle,_⟩:=hi.1 hb.symm;obtain⟨ys,hC',c,rfl,_,pI⟩:=xg h0 U
 grind
include h0 U hf in
theorem Ta (A:Acc d0 d1 s th op obj):Ri d0 (d0.at obj)/\s.l.length=d0.l.length:=by
 obtain⟨pI,hle⟩:=D7 h0 U hf A.r;refine⟨?_,hle⟩;have a1:=A.o0; have a2:=A.o1;obtain⟨i,rfl⟩ : ∃i:Nat,obj=(i:Int):=⟨obj.toNat,J⟩;have hi:i<d0.l.length:=J
 rw [bV hi];exact pI.2.2 _ (aG hi)
include h0 U hs hf oa
theorem F5 (A:Acc d0 d1 s th op obj) (h:op=12\/op=24):0<=Mx d0 obj/\Mx d0 obj<(s.l.length:Int)/\Mx d0 obj≠obj:=by
 obtain⟨ho,hle⟩:=Ta h0 U hf A
 have h4:((d0.at obj).hd 0).n=4:=by rw [<- A.k];rcases h with rfl|rfl<;>rfl
 obtain⟨m1,m2,m3⟩:=ho.2.2.2.2.2 h4
 grind
theorem wC (A:Acc d0 d1 s th op obj):op∈ops/\∃o c dn g r v,Tg (s.at obj) o c dn g r v/\
 L 400 [enc d0,enc d1,enc s,th,op,obj,arg,tries]=some (Er s th op obj (Mx d0 obj) (act (Mx d0 obj) (Mo d0 s obj) th op arg tries o c dn g r v)):=by
 obtain⟨ho,hle⟩:=Ta h0 U hf A;have AU:op∈ops:=Yb oa.1 (by rw [A.k]; have:=ho.1; omega);have a1:=A.o0; have a2:=A.o1;obtain⟨i,rfl⟩ : ∃i:Nat,obj=(i:Int):=⟨obj.toNat,J⟩;have hi:i<s.l.length:=J
 have ht:=uK hs J;obtain⟨o,c,dn,g,r,v,T⟩:=DO (hs.mM _ (aG hi));have hfx:=hf _ (aG hi);rw [T.is] at hfx;have xu:L 600 [op]=some [((d0.at (i:Int)).hd 0).n]:=by rw [LZ op oa,A.k]
 refine⟨AU,o,c,dn,g,r,v,by rw [bV hi]; exact T,?_⟩;refine K! ⟨ady s ht i hi o c dn g r v T.is,j_ s hs,A.r,A.t0,A.t1,A.o0,A.o1,hle,xu,?_,?_,(J' T.hr),fun h=>F5 h0 U hs hf oa A h⟩ AU
 ·have:(r.l.length:Int)<17592186044415:=anD.2 hfx.1
  grind
 ·have:(v.l.length:Int)<17592186044415:=anD.2 hfx.2
  grind
theorem DL (A: ¬Acc d0 d1 s th op obj):L 400 [enc d0,enc d1,enc s,th,op,obj,arg,tries]=some [enc s,0,0,0,0,0,0]:=by
 obtain⟨b,hb,rQ,_⟩:=kV h0 U hf.rows;by_cases ho:0<=obj/\obj<(s.l.length:Int)
 ·obtain⟨i,rfl⟩ : ∃i:Nat,obj=(i:Int):=⟨obj.toNat,J⟩;have hi:i<s.l.length:=J
  have ht:=uK hs J;obtain⟨o,c,dn,g,r,v,T⟩:=DO (hs.mM _ (aG hi));have eP:=ady s ht i hi o c dn g r v T.is
  have hss:s=dL (fI s.l (i:Int) (dL [.i o,.i c,.i dn,.i g,r,v])):=by
   have:=ek ht.sh hi;rw [T.is] at this
   grind
  have xu:=LZ op oa
  have key: ∀alt:Int,(alt=3\/alt=4\/alt=5\/alt=6)->L 9000 [(i:Int),enc s]=some [alt,(i:Int),enc s,o,c,dn,g,enc r,enc v]->L 400 [enc d0,enc d1,enc s,th,op,(i:Int),arg,tries]=some [enc s,0,0,0,0,0,0]:=by
   intro alt ha eP;by_cases ss:b=0
   ·exact aka hb ha eP ho.1 ho.2 T.hd hss ss
   ·have RX:b=1:=J
    by_cases t0:th<0
    ·exact aj9 hb ha eP ho.1 ho.2 T.hd hss ss t0
    ·by_cases t1:th<(d1.l.length:Int)
     ·have gB: ¬kindOf op=((d0.at (i:Int)).hd 0).n:=fun hk=>A ⟨by rw [hb,RX],J,t1,ho.1,ho.2,hk⟩;obtain⟨_,hle⟩:=D7 h0 U hf (by rw [hb,RX]);exact akb hb ha eP ho.1 ho.2 T.hd hss ss J t1 xu hle gB
     ·exact aj8 hb ha eP ho.1 ho.2 T.hd hss ss J t1
  refine key _ ?_ eP;unfold mn
  grind
 ·obtain⟨ys,hc,HK⟩:=ajw s hs obj J;by_cases hn:obj<0
  ·rcases HK with rfl|⟨rfl,he⟩|⟨rfl,he⟩
   ·exact ah6 hb hc hn
   ·exact ah4 hb hc hn he
   ·exact ah2 hb hc hn he
  ·rcases HK with rfl|⟨rfl,he⟩|⟨rfl,he⟩
   ·exact ah5 hb hc J J
   ·exact ah3 hb hc J J he
   ·exact ah1 hb hc J J he
end
theorem C8 {d:D} {l:List D} (h: ∀x∈l,∃n,x= .i n/\eE .i64 n) (W:l.length<=17592186043904):Wd (.sl 0) (bR d l):=by
 cases l with
 |nil=>
  show Wd (.sl 0) (if d= .i 1 then .i 1 else .i 2);split
  ·exact .nil 0
  ·exact .wO 0
 |cons a l=> refine .one 0 (.int .i64) (a::l) rfl ad (by have:te 0=8:=rfl; rw [this]; omega) fun x hx=>?_;obtain⟨n,rfl,hn⟩:=h x hx;exact .int _ _ hn
theorem wA {l:List D} (h: ∀x∈l,∃n,x= .i n/\eE .i64 n) (hn:l≠[]) (W:l.length<=17592186043904):Wd (.sl 0) (dL l):=by rw [<- wa (d:=.i 2) hn];exact C8 h W
theorem tw {r:D} (h:Wd (.sl 0) r): ∀x∈r.l,∃n,x= .i n/\eE .i64 n:=fun x hx=>(h.el1 rfl x hx).i
theorem qS (z:Int):eE .i64 (IntKind.i64.wrap z):=by constructor<;>(rw [IntKind.wrap_i64]; omega)
def Gc (n:Nat):Act->Prop
 | .res o c dn g r v m _ oc=>eE .i64 o/\eE .i64 c/\(dn=0\/dn=1)/\eE .i64 g/\Wd (.sl 0) r/\r.l.length<=n/\Wd (.sl 0) v/\v.l.length<=n/\(∀q,m=some q->eE .i64 q)/\(oc=2\/oc=3)
 |_=>True
theorem Gc.ite {n:Nat} {p:Prop} [Decidable p] {a b:Act} (ha:Gc n a) (hb:Gc n b):Gc n (if p then a else b):=by
 grind
def Vc:Act->Prop
 | .res _ _ _ _ _ _ m _ _=>m=none
 |_=>True
theorem Vc.ite {p:Prop} [Decidable p] {a b:Act} (ha:Vc a) (hb:Vc b):Vc (if p then a else b):=by
 grind
section
variable {x:D} {M mo th op arg tries o c dn g:Int} {r v:D}
theorem PO (T:Tg x o c dn g r v) {n:Nat} (hr:r.l.length<=n) (hv:v.l.length<=n) (hn:n<17592186043904) (ht:eE .i64 th) (ha:eE .i64 arg):Gc (n+1) (act M mo th op arg tries o c dn g r v):=by
 have hm:eE .i64 (-1):=⟨J,J⟩;have hz:eE .i64 0:=⟨J,J⟩;have e1: ∀q:Int,(none:Option Int)=some q->eE .i64 q:=fun q h=>by simp at h
 have e2: ∀{p:Int},eE .i64 p->∀q:Int,some p=some q->eE .i64 q:=fun hp q h=>by simp only [an] at h; exact h▸hp
 have hr1:r.l.length<=n+1:=J
 have hv1:v.l.length<=n+1:=J
 have w:=@qS
 have sn: ∀{l:List D} {t:Int},(∀x∈l,∃n,x= .i n/\eE .i64 n)->eE .i64 t->∀x∈l++ [.i t],∃n,x= .i n/\eE .i64 n:=fun h ht x hx=>by
  grind
 have r5:Wd (.sl 0) (dL (r.l++ [.i th])):=wA (sn (tw T.hr) ht) ad (by simp; omega);have l5:(dL (r.l++ [.i th])).l.length<=n+1:=by rw [bD]; simp; omega
 have r20:Wd (.sl 0) (dL (v.l++ [.i arg])):=wA (sn (tw T.hv) ha) ad (by simp; omega);have l20:(dL (v.l++ [.i arg])).l.length<=n+1:=by rw [bD]; simp; omega
 have r12:Wd (.sl 0) (dL (wo th r.l++ [.i th])):=wA (sn (fun x hx=>(tw T.hr) x (amM.1 hx).1) ht) ad (by have:=V8 th r.l; simp; omega);have l12:(dL (wo th r.l++ [.i th])).l.length<=n+1:=by have:=V8 th r.l; rw [bD]; simp; omega
 have r6: ∀k,Wd (.sl 0) (bR (.i 2) (r.l.take k++r.l.drop (k+1))):=fun k=>C8 (fun x hx=>by
  rcases amt.1 hx with hx|hx
  ·exact (tw T.hr) x (amo hx)
  ·exact (tw T.hr) x (amn hx)) (by simp only [a8,bh,br]; omega)
 have l6: ∀k,(bR (.i 2) (r.l.take k++r.l.drop (k+1))).l.length<=n+1:=fun k=>by rw [bN]; simp only [a8,bh,br]; omega
 have r21:Wd (.sl 0) (bR v (v.l.drop 1)):=C8 (fun x hx=>(tw T.hv) x (amn hx)) (by simp; omega);have l21:(bR v (v.l.drop 1)).l.length<=n+1:=by rw [bN]; simp; omega
 have r13:Wd (.sl 0) (bR r (r.l.drop 1)):=C8 (fun x hx=>(tw T.hr) x (amn hx)) (by simp; omega);have l13:(bR r (r.l.drop 1)).l.length<=n+1:=by rw [bN]; simp; omega
 have r14:Wd (.sl 0) (.i 1):=.nil 0;have l14:(D.i 1).l.length<=n+1:=by simp [D.l]
 unfold act
 repeat' refine Gc.ite ?_ ?_
 all_goals first
  |trivial
  |exact⟨by first |exact T.ho|exact ht|exact hm,by first |exact T.hc|exact w _|exact ha|exact hz,by first |exact T.hd|exact .inr rfl,by first |exact T.hg|exact w _,by first |exact T.hr|exact r5|exact r6 _|exact r12|exact r13|exact r14,by first |exact hr1|exact l5|exact l6 _|exact l12|exact l13|exact l14,by first |exact T.hv|exact r20|exact r21,by first |exact hv1|exact l20|exact l21,by first |exact e1|exact e2 hm|exact e2 ht,by first |exact .inl rfl|exact .inr rfl⟩
theorem BZ (h12:op≠12) (h24:op≠24):Vc (act M mo th op arg tries o c dn g r v):=by
 unfold act;rw [ah h12,ah h24]
 repeat' refine Vc.ite ?_ ?_
 all_goals first
  |exact rfl
  |trivial
end
def isN (ys:List Int):Prop:= ∃v:Int,ys= [v]/\eE .i64 v
theorem Yh:isN [0]:=⟨0,rfl,by constructor<;>omega⟩
theorem Yg:isN [1]:=⟨1,rfl,by constructor<;>omega⟩
theorem ab8 (z:Int):isN [IntKind.i64.wrap z]:=⟨_,rfl,qS z⟩
theorem D3: ∀{d x:D},x∈d.l->SizeOf.sizeOf x<SizeOf.sizeOf d
 | .i _,x,h=>by simp [D.l] at h
 | .p a b,x,h=>by
   simp only [D.l,aF] at h;rcases h with rfl|h
   ·grind
   ·have:=D3 (d:=b) h
    grind
def y_ (l:List D):Prop:= ∀y∈l,eE .i64 (Gx y).n
theorem XU:y_ []:=fun y h=>by simp at h
theorem zB: ∀{l:List D} {k v:D},y_ l->eE .i64 v.n->y_ (jS l k v)
 |[],k,v,_,hv=>by intro y hy;simp only [jS,aF,amw,or_false] at hy;subst hy;exact hv
 |d::l,k,v,W,hv=>by
  intro y hy;simp only [jS] at hy;split at hy
  ·simp only [aF] at hy;rcases hy with rfl|hy
   ·exact hv
   ·exact W y (by simp [hy])
  ·simp only [aF] at hy;rcases hy with rfl|hy
   ·exact W _ ad
   ·exact zB (fun z hz=>W z (by simp [hz])) hv y hy
theorem LK: ∀{l:List D} {k:D},y_ l->eE .i64 ((dj l k).getD (.i 0)).n
 |[],k,_=>by constructor<;>simp [dj,D.n]
 |d::l,k,W=>by
  simp only [dj];split
  ·exact W d ad
  ·exact LK fun y hy=>W y (by simp [hy])
theorem aaj {l:List D} {k:D} (h:y_ l):isN [((dj l k).getD (.i 0)).n]:=⟨_,rfl,LK h⟩
def Vd (d:D):Prop:= ∀x∈d.l,eE .i64 x.n
theorem ints_at {d:D} (h:Vd d) {i:Int} (h0: ¬i<0) (U:i<(d.l.length:Int)):eE .i64 (d.at i).n:=by obtain⟨k,rfl⟩ : ∃k:Nat,i=(k:Int):=⟨i.toNat,J⟩;rw [bV (by omega:k<d.l.length)];exact h _ (aG _)
set_option maxHeartbeats 4000000 in
theorem Ms: ∀(N:Nat) (kids:D),SizeOf.sizeOf kids<=N->Wd (.sl 6) kids->∀(k n:Int) (s loc:D),eE .i64 n->Vd loc->dS 1950 [k,enc s,n,enc kids,enc loc] isN
 |0,kids,hN,_,_,_,_,_,_,_=>by exfalso;cases kids<;>simp at hN
 |N+1,kids,hN,hk,k,n,s,loc,hn,hi=>by
  have sub: ∀i:Nat,∃v:Int,eE .i64 v/\(i<kids.l.length->L 1950 [((kids.at (i:Int)).hd 0).n,enc ((kids.at (i:Int)).hd 1),((kids.at (i:Int)).hd 2).n,enc ((kids.at (i:Int)).hd 3),enc loc]=some [v]):=by
   intro i;by_cases dU:i<kids.l.length
   ·obtain⟨k',s',n',ks',he,_,_,hn',Z⟩:=w7 hk dU
    have iW:SizeOf.sizeOf ks'<SizeOf.sizeOf kids.l[i]:=by rw [he];exact D3 (by rw [bD]; simp)
    have al7:=D3 (aG dU);obtain⟨ys,hL,v,rfl,hv⟩:=Ms N ks' J Z k' n' s' loc hn' hi;refine⟨v,hv,fun _=>?_⟩;rw [bV dU,he];simp only [zg,ax];exact hL
   grind
  obtain⟨v0,hv0,h0⟩:=sub 0;obtain⟨v1,hv1,U⟩:=sub 1;by_cases l1:(kids.l.length:Int)=1
  ·have h0:=h0 J;simp only [aP] at h0;refine dS.of ?_;rw [Ss];simp only [QJ,zz,l1,h0]
   repeat' first |exact .out ⟨_,rfl,hn⟩|exact .out Yh|exact .out Yg|exact .out (ab8 _)|exact .out ⟨_,rfl,ints_at hi ‹_› ‹_›⟩|refine .ite (fun _=>?_) (fun _=>?_)
  ·by_cases l2:(kids.l.length:Int)=2
   ·have h0:=h0 J;have U:=U J;simp only [aP,bn] at h0 U;refine dS.of ?_;rw [Ss];simp only [QJ,zz,l1,l2,h0,U]
    repeat' first |exact .out ⟨_,rfl,hn⟩|exact .out Yh|exact .out Yg|exact .out (ab8 _)|exact .out ⟨_,rfl,ints_at hi ‹_› ‹_›⟩|(simp only [bD]; exact .out (aaj (zB (zB (zB XU (qS _)) (qS _)) (qS _))))|refine .ite (fun _=>?_) (fun _=>?_)
   ·refine dS.of ?_;rw [Ss];simp only [QJ,zz,l1,l2]
    repeat' first |exact .out ⟨_,rfl,hn⟩|exact .out Yh|exact .out Yg|exact .out ⟨_,rfl,ints_at hi ‹_› ‹_›⟩|refine .ite (fun _=>?_) (fun _=>?_)
structure Kt (x:D) (a:Int) (lc:D) (w o g tr:Int):Prop where
 is:x=dL [.i a,lc,.i w,.i o,.i g,.i tr]
 ha:eE .i64 a
 W:Wd (.sl 0) lc
 hw:eE .u8 w
 ho:eE .i64 o
 hg:eE .i64 g
 ht:eE .i64 tr
theorem gK {d:D} (h:Wd (.sl 8) d): ∀x∈d.l,∃a lc w o g tr,Kt x a lc w o g tr:=by intro x hx;obtain⟨r,rfl,W,hc⟩:=h.elN (cs:=[.int .i64,.sl 0,.int .u8,.int .i64,.int .i64,.int .i64]) rfl x hx;obtain⟨a,b,c,d,e,f,rfl⟩:=six W;obtain⟨a,rfl,ha⟩:=(hc 0 _ _ rfl rfl).i;obtain⟨w,rfl,hw⟩:=(hc 2 _ _ rfl rfl).i;obtain⟨o,rfl,ho⟩:=(hc 3 _ _ rfl rfl).i;obtain⟨g,rfl,hg⟩:=(hc 4 _ _ rfl rfl).i;obtain⟨t,rfl,ht⟩:=(hc 5 _ _ rfl rfl).i;exact⟨a,b,w,o,g,t,rfl,ha,hc 1 _ _ rfl rfl,hw,ho,hg,ht⟩
structure Tk (d:D):Prop where
 wd:Wd (.sl 8) d
 sh:d=dL d.l
 kS:d.l.length<=2199023255500
theorem xB {d:D} (h:Wd (.sl 8) d) (hn:0<d.l.length):Tk d:=by
 refine⟨h,?_,?_⟩
 ·rcases h.sh with rfl|rfl|⟨U,_⟩
  ·simp [D.l] at hn
  ·simp [D.l] at hn
  grind
 ·have hr:=h.room;have h3:te 8=64:=rfl
  grind
theorem pX (a b c d e f x:D):fI [a,b,c,d,e,f] 1 x= [a,x,c,d,e,f]:=rfl
theorem bK (j:Nat) (xs:List Int):fin L (.jump j xs)=L j xs:=rfl
theorem bY (ys:List Int):fin L (.out ys)=some ys:=rfl
def qI (lc:D):Int:=if 0<lc.l.length then 3 else 4
theorem F3 {lc:D} (h:(0:Int)<(lc.l.length:Int)):qI lc=3:=ak J
theorem SL (d:D) (h:Th d) (k:D): ∀(j i:Nat),i+j=d.l.length->L 1901 [(d.l.length:Int),(i:Int),enc d,enc k]=L 1910 [(k.l.length:Int),0,enc d,enc k]
 |0,i,hi=>by
  have c1: ¬(i:Int)<(d.l.length:Int):=J
  rw [bM,ZN];simp only [WU,zz,c1,bK,aP]
 |j+1,i,hi=>by
  have W:=h.kS;have dU:i<d.l.length:=J
  have c1:(i:Int)<(d.l.length:Int):=J
  have c2: ¬((i:Int)<0):=J
  have w:=bP (n:=i) J;have ih:=SL d h k j (i+1) J;obtain⟨o,c,dn,g,r,v,he,_,_,_,_,hr,hv⟩:=h.wd.mM _ (aG dU);have hs:=ek h.sh dU;rw [he] at hs;rw [bM,ZN];rcases cj hr with rfl|rfl|⟨r1,r2⟩ <;>rcases cj hv with rfl|rfl|⟨v1,v2⟩
  all_goals
   simp only [WU,zz,c1,c2,w,bV dU,he,eT,bD,aL,aM,A7,A6,hs,im,jh,oT,jf]
   try simp only [r1,r2,zz]
   try simp only [v1,v2,zz]
   try simp only [bK]
   exact ih
theorem SK (d:D) (h:Th d): ∀(j i:Nat),i+j=d.l.length->L 1902 [(d.l.length:Int),(i:Int),enc d]=L 1911 [enc d]
 |0,i,hi=>by
  have c1: ¬(i:Int)<(d.l.length:Int):=J
  rw [bM,ZM];simp only [WT,zz,c1,bK,aP]
 |j+1,i,hi=>by
  have W:=h.kS;have dU:i<d.l.length:=J
  have c1:(i:Int)<(d.l.length:Int):=J
  have c2: ¬((i:Int)<0):=J
  have w:=bP (n:=i) J;have ih:=SK d h j (i+1) J;obtain⟨o,c,dn,g,r,v,he,_,_,_,_,hr,hv⟩:=h.wd.mM _ (aG dU);have hs:=ek h.sh dU;rw [he] at hs;rw [bM,ZM];rcases cj hr with rfl|rfl|⟨r1,r2⟩ <;>rcases cj hv with rfl|rfl|⟨v1,v2⟩
  all_goals
   simp only [WT,zz,c1,c2,w,bV dU,he,eT,bD,aL,aM,A7,A6,hs,im,jh,oT,jf]
   try simp only [r1,r2,zz]
   try simp only [v1,v2,zz]
   try simp only [bK]
   exact ih
theorem Ks (d:D) (h:Th d) (x0:Int) (k:D): ∀(j i:Nat),i+j=d.l.length->L 9051 [x0,(d.l.length:Int),(i:Int),enc d,enc k]=L 9060 [x0,(k.l.length:Int),0,enc d,enc k]
 |0,i,hi=>by
  have c1: ¬(i:Int)<(d.l.length:Int):=J
  rw [bM,Zs];simp only [Wy,zz,c1,bK,aP]
 |j+1,i,hi=>by
  have W:=h.kS;have dU:i<d.l.length:=J
  have c1:(i:Int)<(d.l.length:Int):=J
  have c2: ¬((i:Int)<0):=J
  have w:=bP (n:=i) J;have ih:=Ks d h x0 k j (i+1) J;obtain⟨o,c,dn,g,r,v,he,_,_,_,_,hr,hv⟩:=h.wd.mM _ (aG dU);have hs:=ek h.sh dU;rw [he] at hs;rw [bM,Zs];rcases cj hr with rfl|rfl|⟨r1,r2⟩ <;>rcases cj hv with rfl|rfl|⟨v1,v2⟩
  all_goals
   simp only [Wy,zz,c1,c2,w,bV dU,he,eT,bD,aL,aM,A7,A6,hs,im,jh,oT,jf]
   try simp only [r1,r2,zz]
   try simp only [v1,v2,zz]
   try simp only [bK]
   exact ih
theorem SI (d:D) (h:Th d) (x0:Int): ∀(j i:Nat),i+j=d.l.length->L 9052 [x0,(d.l.length:Int),(i:Int),enc d]=L 9061 [x0,enc d]
 |0,i,hi=>by
  have c1: ¬(i:Int)<(d.l.length:Int):=J
  rw [bM,Zr];simp only [Wx,zz,c1,bK,aP]
 |j+1,i,hi=>by
  have W:=h.kS;have dU:i<d.l.length:=J
  have c1:(i:Int)<(d.l.length:Int):=J
  have c2: ¬((i:Int)<0):=J
  have w:=bP (n:=i) J;have ih:=SI d h x0 j (i+1) J;obtain⟨o,c,dn,g,r,v,he,_,_,_,_,hr,hv⟩:=h.wd.mM _ (aG dU);have hs:=ek h.sh dU;rw [he] at hs;rw [bM,Zr];rcases cj hr with rfl|rfl|⟨r1,r2⟩ <;>rcases cj hv with rfl|rfl|⟨v1,v2⟩
  all_goals
   simp only [Wx,zz,c1,c2,w,bV dU,he,eT,bD,aL,aM,A7,A6,hs,im,jh,oT,jf]
   try simp only [r1,r2,zz]
   try simp only [v1,v2,zz]
   try simp only [bK]
   exact ih
theorem SJ (d:D) (h:Th d): ∀(j i:Nat),i+j=d.l.length->L 1903 [(d.l.length:Int),(i:Int),enc d]=L 1912 [enc d]
 |0,i,hi=>by
  have c1: ¬(i:Int)<(d.l.length:Int):=J
  rw [bM,ZL];simp only [WS,zz,c1,bK,aP]
 |j+1,i,hi=>by
  have W:=h.kS;have dU:i<d.l.length:=J
  have c1:(i:Int)<(d.l.length:Int):=J
  have c2: ¬((i:Int)<0):=J
  have w:=bP (n:=i) J;have ih:=SJ d h j (i+1) J;obtain⟨o,c,dn,g,r,v,he,_,_,_,_,hr,hv⟩:=h.wd.mM _ (aG dU);have hs:=ek h.sh dU;rw [he] at hs;rw [bM,ZL];rcases cj hr with rfl|rfl|⟨r1,r2⟩ <;>rcases cj hv with rfl|rfl|⟨v1,v2⟩
  all_goals
   simp only [WS,zz,c1,c2,w,bV dU,he,eT,bD,aL,aM,A7,A6,hs,im,jh,oT,jf]
   try simp only [r1,r2,zz]
   try simp only [v1,v2,zz]
   try simp only [bK]
   exact ih
theorem SH (d:D) (h:Th d) (x0:Int): ∀(j i:Nat),i+j=d.l.length->L 9053 [x0,(d.l.length:Int),(i:Int),enc d]=L 9062 [x0,enc d]
 |0,i,hi=>by
  have c1: ¬(i:Int)<(d.l.length:Int):=J
  rw [bM,Zq];simp only [Ww,zz,c1,bK,aP]
 |j+1,i,hi=>by
  have W:=h.kS;have dU:i<d.l.length:=J
  have c1:(i:Int)<(d.l.length:Int):=J
  have c2: ¬((i:Int)<0):=J
  have w:=bP (n:=i) J;have ih:=SH d h x0 j (i+1) J;obtain⟨o,c,dn,g,r,v,he,_,_,_,_,hr,hv⟩:=h.wd.mM _ (aG dU);have hs:=ek h.sh dU;rw [he] at hs;rw [bM,Zq];rcases cj hr with rfl|rfl|⟨r1,r2⟩ <;>rcases cj hv with rfl|rfl|⟨v1,v2⟩
  all_goals
   simp only [Ww,zz,c1,c2,w,bV dU,he,eT,bD,aL,aM,A7,A6,hs,im,jh,oT,jf]
   try simp only [r1,r2,zz]
   try simp only [v1,v2,zz]
   try simp only [bK]
   exact ih
theorem SX (k:D) (h:Tk k): ∀(j i:Nat),i+j=k.l.length->L 1916 [(k.l.length:Int),(i:Int),enc k]=some [enc (.i 2),enc k]
 |0,i,hi=>by
  have c1: ¬(i:Int)<(k.l.length:Int):=J
  rw [bM,ZI];simp only [WO,zz,c1,bY]
 |j+1,i,hi=>by
  have W:=h.kS;have dU:i<k.l.length:=J
  have c1:(i:Int)<(k.l.length:Int):=J
  have c2: ¬((i:Int)<0):=J
  have w:=bP (n:=i) J;have ih:=SX k h j (i+1) J;obtain⟨a,lc,w',o,g,tr,T⟩:=gK h.wd _ (aG dU);have hs:=ek h.sh dU;rw [T.is] at hs;rw [bM,ZI];rcases cj T.W with rfl|rfl|⟨r1,r2⟩
  all_goals
   simp only [WO,zz,c1,c2,w,bV dU,T.is,eT,bD,aL,aM,pX,hs,im,jh,oT,jf]
   try simp only [r1,r2,zz]
   try simp only [bK]
   exact ih
theorem SU (k:D) (h:Tk k) (x0:Int): ∀(j i:Nat),(hx:x0<0\/(k.l.length:Int)<=x0)->i+j=k.l.length->L 9066 [x0,(k.l.length:Int),(i:Int),enc k]=some [0,x0,enc (.i 2),enc k]
 |0,i,hx,hi=>by
  have c1: ¬(i:Int)<(k.l.length:Int):=J
  rw [bM,MK];by_cases c0:(i:Int)=x0
  ·subst c0;simp only [B3,zz,c1,bY]
  ·simp only [B3,zz,c0,c1,bY]
 |j+1,i,hx,hi=>by
  have W:=h.kS;have dU:i<k.l.length:=J
  have c1:(i:Int)<(k.l.length:Int):=J
  have c2: ¬((i:Int)<0):=J
  have c0: ¬((i:Int)=x0):=J
  have w:=bP (n:=i) J;have ih:=SU k h x0 j (i+1) hx J;obtain⟨a,lc,w',o,g,tr,T⟩:=gK h.wd _ (aG dU);have hs:=ek h.sh dU;rw [T.is] at hs;rw [bM,MK];rcases cj T.W with rfl|rfl|⟨r1,r2⟩
  all_goals
   simp only [B3,zz,c0,c1,c2,w,bV dU,T.is,eT,bD,aL,aM,pX,hs,im,jh,oT,jf]
   try simp only [r1,r2,zz]
   try simp only [bK]
   exact ih
theorem SZ (k:D) (h:Tk k) (s:D): ∀(j i:Nat),i+j=k.l.length->L 1910 [(k.l.length:Int),(i:Int),enc s,enc k]=some [enc s,enc k]
 |0,i,hi=>by
  have c1: ¬(i:Int)<(k.l.length:Int):=J
  rw [bM,ZK];simp only [WR,zz,c1,bY]
 |j+1,i,hi=>by
  have W:=h.kS;have dU:i<k.l.length:=J
  have c1:(i:Int)<(k.l.length:Int):=J
  have c2: ¬((i:Int)<0):=J
  have w:=bP (n:=i) J;have ih:=SZ k h s j (i+1) J;obtain⟨a,lc,w',o,g,tr,T⟩:=gK h.wd _ (aG dU);have hs:=ek h.sh dU;rw [T.is] at hs;rw [bM,ZK];rcases cj T.W with rfl|rfl|⟨r1,r2⟩
  all_goals
   simp only [WR,zz,c1,c2,w,bV dU,T.is,eT,bD,aL,aM,pX,hs,im,jh,oT,jf]
   try simp only [r1,r2,zz]
   try simp only [bK]
   exact ih
theorem SY (k:D) (h:Tk k): ∀(j i:Nat),i+j=k.l.length->L 1913 [(k.l.length:Int),(i:Int),enc k]=some [enc (.i 1),enc k]
 |0,i,hi=>by
  have c1: ¬(i:Int)<(k.l.length:Int):=J
  rw [bM,ZJ];simp only [WQ,zz,c1,bY]
 |j+1,i,hi=>by
  have W:=h.kS;have dU:i<k.l.length:=J
  have c1:(i:Int)<(k.l.length:Int):=J
  have c2: ¬((i:Int)<0):=J
  have w:=bP (n:=i) J;have ih:=SY k h j (i+1) J;obtain⟨a,lc,w',o,g,tr,T⟩:=gK h.wd _ (aG dU);have hs:=ek h.sh dU;rw [T.is] at hs;rw [bM,ZJ];rcases cj T.W with rfl|rfl|⟨r1,r2⟩
  all_goals
   simp only [WQ,zz,c1,c2,w,bV dU,T.is,eT,bD,aL,aM,pX,hs,im,jh,oT,jf]
   try simp only [r1,r2,zz]
   try simp only [bK]
   exact ih
theorem SW (k:D) (h:Tk k) (x0:Int) (s:D): ∀(j i:Nat),(hx:x0<0\/(k.l.length:Int)<=x0)->i+j=k.l.length->L 9060 [x0,(k.l.length:Int),(i:Int),enc s,enc k]=some [0,x0,enc s,enc k]
 |0,i,hx,hi=>by
  have c1: ¬(i:Int)<(k.l.length:Int):=J
  rw [bM,MM];by_cases c0:(i:Int)=x0
  ·subst c0;simp only [B5,zz,c1,bY]
  ·simp only [B5,zz,c0,c1,bY]
 |j+1,i,hx,hi=>by
  have W:=h.kS;have dU:i<k.l.length:=J
  have c1:(i:Int)<(k.l.length:Int):=J
  have c2: ¬((i:Int)<0):=J
  have c0: ¬((i:Int)=x0):=J
  have w:=bP (n:=i) J;have ih:=SW k h x0 s j (i+1) hx J;obtain⟨a,lc,w',o,g,tr,T⟩:=gK h.wd _ (aG dU);have hs:=ek h.sh dU;rw [T.is] at hs;rw [bM,MM];rcases cj T.W with rfl|rfl|⟨r1,r2⟩
  all_goals
   simp only [B5,zz,c0,c1,c2,w,bV dU,T.is,eT,bD,aL,aM,pX,hs,im,jh,oT,jf]
   try simp only [r1,r2,zz]
   try simp only [bK]
   exact ih
theorem SV (k:D) (h:Tk k) (x0:Int): ∀(j i:Nat),(hx:x0<0\/(k.l.length:Int)<=x0)->i+j=k.l.length->L 9063 [x0,(k.l.length:Int),(i:Int),enc k]=some [0,x0,enc (.i 1),enc k]
 |0,i,hx,hi=>by
  have c1: ¬(i:Int)<(k.l.length:Int):=J
  rw [bM,ML];by_cases c0:(i:Int)=x0
  ·subst c0;simp only [B4,zz,c1,bY]
  ·simp only [B4,zz,c0,c1,bY]
 |j+1,i,hx,hi=>by
  have W:=h.kS;have dU:i<k.l.length:=J
  have c1:(i:Int)<(k.l.length:Int):=J
  have c2: ¬((i:Int)<0):=J
  have c0: ¬((i:Int)=x0):=J
  have w:=bP (n:=i) J;have ih:=SV k h x0 j (i+1) hx J;obtain⟨a,lc,w',o,g,tr,T⟩:=gK h.wd _ (aG dU);have hs:=ek h.sh dU;rw [T.is] at hs;rw [bM,ML];rcases cj T.W with rfl|rfl|⟨r1,r2⟩
  all_goals
   simp only [B4,zz,c0,c1,c2,w,bV dU,T.is,eT,bD,aL,aM,pX,hs,im,jh,oT,jf]
   try simp only [r1,r2,zz]
   try simp only [bK]
   exact ih
theorem SS (k:D) (h:Tk k) (gi:Nat) (x4 x5 x6 x7 x8 x9:Int) (s:D): ∀(j i:Nat),gi<i->i+j=k.l.length->L 9069 [(gi:Int),(k.l.length:Int),(i:Int),enc s,enc k,x4,x5,x6,x7,x8,x9]=some [3,(gi:Int),enc s,enc k,x4,x5,x6,x7,x8,x9]
 |0,i,hg,hi=>by
  have c1: ¬(i:Int)<(k.l.length:Int):=J
  have c0: ¬((i:Int)=(gi:Int)):=J
  rw [bM,Zp];simp only [Wv,zz,c0,c1,bY]
 |j+1,i,hg,hi=>by
  have W:=h.kS;have dU:i<k.l.length:=J
  have c1:(i:Int)<(k.l.length:Int):=J
  have c2: ¬((i:Int)<0):=J
  have c0: ¬((i:Int)=(gi:Int)):=J
  have w:=bP (n:=i) J;have ih:=SS k h gi x4 x5 x6 x7 x8 x9 s j (i+1) J J;obtain⟨a,lc,w',o,g,tr,T⟩:=gK h.wd _ (aG dU);have hs:=ek h.sh dU;rw [T.is] at hs;rw [bM,Zp];rcases cj T.W with rfl|rfl|⟨r1,r2⟩
  all_goals
   simp only [Wv,zz,c0,c1,c2,w,bV dU,T.is,eT,bD,aL,aM,pX,hs,im,jh,oT,jf]
   try simp only [r1,r2,zz]
   try simp only [bK]
   exact ih
theorem Kw (k:D) (h:Tk k) (gi:Nat) (x4 x5 x6 x7 x8 x9:Int) (s:D): ∀(j i:Nat),gi<i->i+j=k.l.length->L 9070 [(gi:Int),(k.l.length:Int),(i:Int),enc s,enc k,x4,x5,x6,x7,x8,x9]=some [4,(gi:Int),enc s,enc k,x4,x5,x6,x7,x8,x9]
 |0,i,hg,hi=>by
  have c1: ¬(i:Int)<(k.l.length:Int):=J
  have c0: ¬((i:Int)=(gi:Int)):=J
  rw [bM,Zo];simp only [Wu,zz,c0,c1,bY]
 |j+1,i,hg,hi=>by
  have W:=h.kS;have dU:i<k.l.length:=J
  have c1:(i:Int)<(k.l.length:Int):=J
  have c2: ¬((i:Int)<0):=J
  have c0: ¬((i:Int)=(gi:Int)):=J
  have w:=bP (n:=i) J;have ih:=Kw k h gi x4 x5 x6 x7 x8 x9 s j (i+1) J J;obtain⟨a,lc,w',o,g,tr,T⟩:=gK h.wd _ (aG dU);have hs:=ek h.sh dU;rw [T.is] at hs;rw [bM,Zo];rcases cj T.W with rfl|rfl|⟨r1,r2⟩
  all_goals
   simp only [Wu,zz,c0,c1,c2,w,bV dU,T.is,eT,bD,aL,aM,pX,hs,im,jh,oT,jf]
   try simp only [r1,r2,zz]
   try simp only [bK]
   exact ih
theorem SQ (k:D) (h:Tk k) (gi:Nat) (x4 x5 x6 x7 x8 x9:Int): ∀(j i:Nat),gi<i->i+j=k.l.length->L 9071 [(gi:Int),(k.l.length:Int),(i:Int),enc k,x4,x5,x6,x7,x8,x9]=some [3,(gi:Int),enc (.i 1),enc k,x4,x5,x6,x7,x8,x9]
 |0,i,hg,hi=>by
  have c1: ¬(i:Int)<(k.l.length:Int):=J
  have c0: ¬((i:Int)=(gi:Int)):=J
  rw [bM,Zn];simp only [Wt,zz,c0,c1,bY]
 |j+1,i,hg,hi=>by
  have W:=h.kS;have dU:i<k.l.length:=J
  have c1:(i:Int)<(k.l.length:Int):=J
  have c2: ¬((i:Int)<0):=J
  have c0: ¬((i:Int)=(gi:Int)):=J
  have w:=bP (n:=i) J;have ih:=SQ k h gi x4 x5 x6 x7 x8 x9 j (i+1) J J;obtain⟨a,lc,w',o,g,tr,T⟩:=gK h.wd _ (aG dU);have hs:=ek h.sh dU;rw [T.is] at hs;rw [bM,Zn];rcases cj T.W with rfl|rfl|⟨r1,r2⟩
  all_goals
   simp only [Wt,zz,c0,c1,c2,w,bV dU,T.is,eT,bD,aL,aM,pX,hs,im,jh,oT,jf]
   try simp only [r1,r2,zz]
   try simp only [bK]
   exact ih
theorem Kv (k:D) (h:Tk k) (gi:Nat) (x4 x5 x6 x7 x8 x9:Int): ∀(j i:Nat),gi<i->i+j=k.l.length->L 9072 [(gi:Int),(k.l.length:Int),(i:Int),enc k,x4,x5,x6,x7,x8,x9]=some [4,(gi:Int),enc (.i 1),enc k,x4,x5,x6,x7,x8,x9]
 |0,i,hg,hi=>by
  have c1: ¬(i:Int)<(k.l.length:Int):=J
  have c0: ¬((i:Int)=(gi:Int)):=J
  rw [bM,Zm];simp only [Ws,zz,c0,c1,bY]
 |j+1,i,hg,hi=>by
  have W:=h.kS;have dU:i<k.l.length:=J
  have c1:(i:Int)<(k.l.length:Int):=J
  have c2: ¬((i:Int)<0):=J
  have c0: ¬((i:Int)=(gi:Int)):=J
  have w:=bP (n:=i) J;have ih:=Kv k h gi x4 x5 x6 x7 x8 x9 j (i+1) J J;obtain⟨a,lc,w',o,g,tr,T⟩:=gK h.wd _ (aG dU);have hs:=ek h.sh dU;rw [T.is] at hs;rw [bM,Zm];rcases cj T.W with rfl|rfl|⟨r1,r2⟩
  all_goals
   simp only [Ws,zz,c0,c1,c2,w,bV dU,T.is,eT,bD,aL,aM,pX,hs,im,jh,oT,jf]
   try simp only [r1,r2,zz]
   try simp only [bK]
   exact ih
theorem SP (k:D) (h:Tk k) (gi:Nat) (x4 x5 x6 x7 x8 x9:Int): ∀(j i:Nat),gi<i->i+j=k.l.length->L 9073 [(gi:Int),(k.l.length:Int),(i:Int),enc k,x4,x5,x6,x7,x8,x9]=some [3,(gi:Int),enc (.i 2),enc k,x4,x5,x6,x7,x8,x9]
 |0,i,hg,hi=>by
  have c1: ¬(i:Int)<(k.l.length:Int):=J
  have c0: ¬((i:Int)=(gi:Int)):=J
  rw [bM,Zl];simp only [Wr,zz,c0,c1,bY]
 |j+1,i,hg,hi=>by
  have W:=h.kS;have dU:i<k.l.length:=J
  have c1:(i:Int)<(k.l.length:Int):=J
  have c2: ¬((i:Int)<0):=J
  have c0: ¬((i:Int)=(gi:Int)):=J
  have w:=bP (n:=i) J;have ih:=SP k h gi x4 x5 x6 x7 x8 x9 j (i+1) J J;obtain⟨a,lc,w',o,g,tr,T⟩:=gK h.wd _ (aG dU);have hs:=ek h.sh dU;rw [T.is] at hs;rw [bM,Zl];rcases cj T.W with rfl|rfl|⟨r1,r2⟩
  all_goals
   simp only [Wr,zz,c0,c1,c2,w,bV dU,T.is,eT,bD,aL,aM,pX,hs,im,jh,oT,jf]
   try simp only [r1,r2,zz]
   try simp only [bK]
   exact ih
theorem Ku (k:D) (h:Tk k) (gi:Nat) (x4 x5 x6 x7 x8 x9:Int): ∀(j i:Nat),gi<i->i+j=k.l.length->L 9074 [(gi:Int),(k.l.length:Int),(i:Int),enc k,x4,x5,x6,x7,x8,x9]=some [4,(gi:Int),enc (.i 2),enc k,x4,x5,x6,x7,x8,x9]
 |0,i,hg,hi=>by
  have c1: ¬(i:Int)<(k.l.length:Int):=J
  have c0: ¬((i:Int)=(gi:Int)):=J
  rw [bM,Zk];simp only [Wq,zz,c0,c1,bY]
 |j+1,i,hg,hi=>by
  have W:=h.kS;have dU:i<k.l.length:=J
  have c1:(i:Int)<(k.l.length:Int):=J
  have c2: ¬((i:Int)<0):=J
  have c0: ¬((i:Int)=(gi:Int)):=J
  have w:=bP (n:=i) J;have ih:=Ku k h gi x4 x5 x6 x7 x8 x9 j (i+1) J J;obtain⟨a,lc,w',o,g,tr,T⟩:=gK h.wd _ (aG dU);have hs:=ek h.sh dU;rw [T.is] at hs;rw [bM,Zk];rcases cj T.W with rfl|rfl|⟨r1,r2⟩
  all_goals
   simp only [Wq,zz,c0,c1,c2,w,bV dU,T.is,eT,bD,aL,aM,pX,hs,im,jh,oT,jf]
   try simp only [r1,r2,zz]
   try simp only [bK]
   exact ih
theorem SO (k:D) (h:Tk k) (s:D) (gi:Nat) (xN:gi<k.l.length) (a:Int) (lc:D) (w o g tr:Int) (T:Kt k.l[gi] a lc w o g tr): ∀(j i:Nat),i+j=gi->L 9060 [(gi:Int),(k.l.length:Int),(i:Int),enc s,enc k]=some [qI lc,(gi:Int),enc s,enc k,a,enc lc,w,o,g,tr]
 |0,i,hi=>by
  have W:=h.kS;have he:i=gi:=J
  subst he;have c1:(i:Int)<(k.l.length:Int):=J
  have c2: ¬((i:Int)<0):=J
  have w':=bP (n:=i) J;rw [bM,MM];rcases cj T.W with rfl|rfl|⟨r1,r2⟩
  ·have ih:=Kw k h i a (enc (.i 1)) w o g tr s (k.l.length-(i+1)) (i+1) J J;simp only [B5,zz,c1,c2,w',bV xN,T.is,eT,bD,aL,aM,anb,aR,im,jh,oT,jf,bK];exact ih
  ·have ih:=Kw k h i a (enc (.i 2)) w o g tr s (k.l.length-(i+1)) (i+1) J J;simp only [B5,zz,c1,c2,w',bV xN,T.is,eT,bD,aL,aM,anb,aR,im,jh,oT,jf,bK];exact ih
  ·have ih:=SS k h i a (enc lc) w o g tr s (k.l.length-(i+1)) (i+1) J J;simp only [B5,zz,c1,c2,w',bV xN,T.is,eT,bD,aL,aM,im,jh,oT,jf];simp only [r1,r2,zz,bK];rw [F3 r1];exact ih
 |j+1,i,hi=>by
  have W:=h.kS;have dU:i<k.l.length:=J
  have c1:(i:Int)<(k.l.length:Int):=J
  have c2: ¬((i:Int)<0):=J
  have c0: ¬((i:Int)=(gi:Int)):=J
  have w1:=bP (n:=i) J;have ih:=SO k h s gi xN a lc w o g tr T j (i+1) J;obtain⟨a',lc',w',o',g',tr',T'⟩:=gK h.wd _ (aG dU);have hs:=ek h.sh dU;rw [T'.is] at hs;rw [bM,MM];rcases cj T'.W with rfl|rfl|⟨r1,r2⟩
  all_goals
   simp only [B5,zz,c0,c1,c2,w1,bV dU,T'.is,eT,bD,aL,aM,pX,hs,im,jh,oT,jf]
   try simp only [r1,r2,zz]
   try simp only [bK]
   exact ih
theorem SN (k:D) (h:Tk k) (gi:Nat) (xN:gi<k.l.length) (a:Int) (lc:D) (w o g tr:Int) (T:Kt k.l[gi] a lc w o g tr): ∀(j i:Nat),i+j=gi->L 9063 [(gi:Int),(k.l.length:Int),(i:Int),enc k]=some [qI lc,(gi:Int),enc (.i 1),enc k,a,enc lc,w,o,g,tr]
 |0,i,hi=>by
  have W:=h.kS;have he:i=gi:=J
  subst he;have c1:(i:Int)<(k.l.length:Int):=J
  have c2: ¬((i:Int)<0):=J
  have w':=bP (n:=i) J;rw [bM,ML];rcases cj T.W with rfl|rfl|⟨r1,r2⟩
  ·have ih:=Kv k h i a (enc (.i 1)) w o g tr (k.l.length-(i+1)) (i+1) J J;simp only [B4,zz,c1,c2,w',bV xN,T.is,eT,bD,aL,aM,anb,aR,im,jh,oT,jf,bK];exact ih
  ·have ih:=Kv k h i a (enc (.i 2)) w o g tr (k.l.length-(i+1)) (i+1) J J;simp only [B4,zz,c1,c2,w',bV xN,T.is,eT,bD,aL,aM,anb,aR,im,jh,oT,jf,bK];exact ih
  ·have ih:=SQ k h i a (enc lc) w o g tr (k.l.length-(i+1)) (i+1) J J;simp only [B4,zz,c1,c2,w',bV xN,T.is,eT,bD,aL,aM,im,jh,oT,jf];simp only [r1,r2,zz,bK];rw [F3 r1];exact ih
 |j+1,i,hi=>by
  have W:=h.kS;have dU:i<k.l.length:=J
  have c1:(i:Int)<(k.l.length:Int):=J
  have c2: ¬((i:Int)<0):=J
  have c0: ¬((i:Int)=(gi:Int)):=J
  have w1:=bP (n:=i) J;have ih:=SN k h gi xN a lc w o g tr T j (i+1) J;obtain⟨a',lc',w',o',g',tr',T'⟩:=gK h.wd _ (aG dU);have hs:=ek h.sh dU;rw [T'.is] at hs;rw [bM,ML];rcases cj T'.W with rfl|rfl|⟨r1,r2⟩
  all_goals
   simp only [B4,zz,c0,c1,c2,w1,bV dU,T'.is,eT,bD,aL,aM,pX,hs,im,jh,oT,jf]
   try simp only [r1,r2,zz]
   try simp only [bK]
   exact ih
theorem SM (k:D) (h:Tk k) (gi:Nat) (xN:gi<k.l.length) (a:Int) (lc:D) (w o g tr:Int) (T:Kt k.l[gi] a lc w o g tr): ∀(j i:Nat),i+j=gi->L 9066 [(gi:Int),(k.l.length:Int),(i:Int),enc k]=some [qI lc,(gi:Int),enc (.i 2),enc k,a,enc lc,w,o,g,tr]
 |0,i,hi=>by
  have W:=h.kS;have he:i=gi:=J
  subst he;have c1:(i:Int)<(k.l.length:Int):=J
  have c2: ¬((i:Int)<0):=J
  have w':=bP (n:=i) J;rw [bM,MK];rcases cj T.W with rfl|rfl|⟨r1,r2⟩
  ·have ih:=Ku k h i a (enc (.i 1)) w o g tr (k.l.length-(i+1)) (i+1) J J;simp only [B3,zz,c1,c2,w',bV xN,T.is,eT,bD,aL,aM,anb,aR,im,jh,oT,jf,bK];exact ih
  ·have ih:=Ku k h i a (enc (.i 2)) w o g tr (k.l.length-(i+1)) (i+1) J J;simp only [B3,zz,c1,c2,w',bV xN,T.is,eT,bD,aL,aM,anb,aR,im,jh,oT,jf,bK];exact ih
  ·have ih:=SP k h i a (enc lc) w o g tr (k.l.length-(i+1)) (i+1) J J;simp only [B3,zz,c1,c2,w',bV xN,T.is,eT,bD,aL,aM,im,jh,oT,jf];simp only [r1,r2,zz,bK];rw [F3 r1];exact ih
 |j+1,i,hi=>by
  have W:=h.kS;have dU:i<k.l.length:=J
  have c1:(i:Int)<(k.l.length:Int):=J
  have c2: ¬((i:Int)<0):=J
  have c0: ¬((i:Int)=(gi:Int)):=J
  have w1:=bP (n:=i) J;have ih:=SM k h gi xN a lc w o g tr T j (i+1) J;obtain⟨a',lc',w',o',g',tr',T'⟩:=gK h.wd _ (aG dU);have hs:=ek h.sh dU;rw [T'.is] at hs;rw [bM,MK];rcases cj T'.W with rfl|rfl|⟨r1,r2⟩
  all_goals
   simp only [B3,zz,c0,c1,c2,w1,bV dU,T'.is,eT,bD,aL,aM,pX,hs,im,jh,oT,jf]
   try simp only [r1,r2,zz]
   try simp only [bK]
   exact ih
structure Sk (s k:D):Prop where
 ws:Wd (.sl 7) s
 wk:Wd (.sl 8) k
theorem Et {t:Nat} {d:D} (h:Wd (.sl t) d):d= .i 1\/d= .i 2\/0<d.l.length:=by
 rcases h.sh with U|U|⟨_,U⟩
 all_goals grind
theorem Y' (x0:Int) (s:D):L 9061 [x0,enc s]=some [1,x0,enc s]:=by rw [bM,acz];simp only [abp,zz];split<;>rfl
theorem Y_ (x0:Int) (s:D):L 9062 [x0,enc s]=some [2,x0,enc s]:=by rw [bM,acy];simp only [abo,zz];split<;>rfl
theorem Y? (s:D):L 1911 [enc s]=some [enc s,enc (.i 1)]:=by rw [bM,ac8];rfl
theorem Y! (s:D):L 1912 [enc s]=some [enc s,enc (.i 2)]:=by rw [bM,ac7];rfl
theorem KS:((0:Int)<((D.i 2).l.length:Int))=False/\((0:Int)<((D.i 1).l.length:Int))=False/\(enc (.i 2)=enc (.i 1))=False:=by
 refine⟨by simp [D.l],by simp [D.l],?_⟩;simp only [eq_iff_iff,iff_false];intro h;have:=fg h
 grind
theorem afz (k:D):L 1904 [enc k]=L 1913 [(k.l.length:Int),0,enc k]:=by rw [bM,adg];simp only [abR,zz,bK,bY]
theorem afw (k:D):L 1907 [enc k]=L 1916 [(k.l.length:Int),0,enc k]:=by rw [bM,adb];simp only [abQ,zz,bK,bY]
theorem YR (x0:Int) (k:D):L 9054 [x0,enc k]=L 9063 [x0,(k.l.length:Int),0,enc k]:=by rw [bM,acF];simp only [abr,zz,bK,bY]
theorem YQ (x0:Int) (k:D):L 9057 [x0,enc k]=L 9066 [x0,(k.l.length:Int),0,enc k]:=by rw [bM,acC];simp only [abq,zz,bK,bY]
theorem aft:L 1914 []=some [enc (.i 1),enc (.i 1)]:=by rw [bM,ac6];simp only [abP,zz,bK,bY]
theorem afy:L 1905 []=some [enc (.i 1),enc (.i 1)]:=by rw [bM,adf];exact aft
theorem afs:L 1915 []=some [enc (.i 1),enc (.i 2)]:=by rw [bM,ac5];simp only [abO,zz,bK,bY]
theorem afx:L 1906 []=some [enc (.i 1),enc (.i 2)]:=by rw [bM,ade];exact afs
theorem afr:L 1917 []=some [enc (.i 2),enc (.i 1)]:=by rw [bM,ac4];simp only [abN,zz,bK,bY]
theorem afv:L 1908 []=some [enc (.i 2),enc (.i 1)]:=by rw [bM,ada];exact afr
theorem afq:L 1918 []=some [enc (.i 2),enc (.i 2)]:=by rw [bM,ac3];simp only [abM,zz,bK,bY]
theorem afu:L 1909 []=some [enc (.i 2),enc (.i 2)]:=by rw [bM,ac9];exact afq
theorem afl (x0:Int):L 9064 [x0]=some [1,x0,enc (.i 1)]:=by rw [bM,acx];simp only [abn,zz,bK,bY];split<;>rfl
theorem afp (x0:Int):L 9055 [x0]=some [1,x0,enc (.i 1)]:=by rw [bM,acE];exact afl x0
theorem afk (x0:Int):L 9065 [x0]=some [2,x0,enc (.i 1)]:=by rw [bM,acw];simp only [abm,zz,bK,bY];split<;>rfl
theorem afo (x0:Int):L 9056 [x0]=some [2,x0,enc (.i 1)]:=by rw [bM,acD];exact afk x0
theorem afj (x0:Int):L 9067 [x0]=some [1,x0,enc (.i 2)]:=by rw [bM,acv];simp only [abl,zz,bK,bY];split<;>rfl
theorem afn (x0:Int):L 9058 [x0]=some [1,x0,enc (.i 2)]:=by rw [bM,acB];exact afj x0
theorem afi (x0:Int):L 9068 [x0]=some [2,x0,enc (.i 2)]:=by rw [bM,acu];simp only [abk,zz,bK,bY];split<;>rfl
theorem afm (x0:Int):L 9059 [x0]=some [2,x0,enc (.i 2)]:=by rw [bM,acA];exact afi x0
section
variable {s k:D} (h:Sk s k)
include h
theorem pO:L 1900 [enc s,enc k]=some [enc s,enc k]:=by
 rw [bM,adh];rcases Et h.ws with rfl|rfl|hs<;>rcases Et h.wk with rfl|rfl|hk
 ·simp only [xD,zz,KS,bK];exact afy
 ·simp only [xD,zz,KS,bK];exact afx
 ·have hK:=xB h.wk hk;have yS:=hK.kS;have PJ:(0:Int)<(k.l.length:Int):=J
  have NL:(k.l.length:Int)<2199023255552:=J
  simp only [xD,zz,KS,PJ,NL,bK];exact (afz k).trans (SY k hK k.l.length 0 J)
 ·simp only [xD,zz,KS,bK];exact afv
 ·simp only [xD,zz,KS,bK];exact afu
 ·have hK:=xB h.wk hk;have yS:=hK.kS;have PJ:(0:Int)<(k.l.length:Int):=J
  have NL:(k.l.length:Int)<2199023255552:=J
  simp only [xD,zz,KS,PJ,NL,bK];exact (afw k).trans (SX k hK k.l.length 0 J)
 ·have hT:=uK h.ws hs;have W:=hT.kS;have c1:(0:Int)<(s.l.length:Int):=J
  have c2:(s.l.length:Int)<1759218604441:=J
  simp only [xD,zz,KS,c1,c2,bK];exact (SK s hT s.l.length 0 J).trans (Y? s)
 ·have hT:=uK h.ws hs;have W:=hT.kS;have c1:(0:Int)<(s.l.length:Int):=J
  have c2:(s.l.length:Int)<1759218604441:=J
  simp only [xD,zz,KS,c1,c2,bK];exact (SJ s hT s.l.length 0 J).trans (Y! s)
 ·have hT:=uK h.ws hs;have W:=hT.kS;have c1:(0:Int)<(s.l.length:Int):=J
  have c2:(s.l.length:Int)<1759218604441:=J
  have hK:=xB h.wk hk;have yS:=hK.kS;have PJ:(0:Int)<(k.l.length:Int):=J
  have NL:(k.l.length:Int)<2199023255552:=J
  simp only [xD,zz,oT,c1,c2,PJ,NL,bK];exact (SL s hT k s.l.length 0 J).trans (SZ k hK s k.l.length 0 J)
theorem BU {gi:Nat} (xN:gi<k.l.length) {a:Int} {lc:D} {w o g tr:Int} (T:Kt k.l[gi] a lc w o g tr):L 9050 [(gi:Int),enc s,enc k]=some [qI lc,(gi:Int),enc s,enc k,a,enc lc,w,o,g,tr]:=by
 have hk:0<k.l.length:=J
 have hK:=xB h.wk hk;have yS:=hK.kS;have PJ:(0:Int)<(k.l.length:Int):=J
 have NL:(k.l.length:Int)<2199023255552:=J
 rw [bM,Zt];rcases Et h.ws with rfl|rfl|hs
 ·simp only [sC,zz,KS,PJ,NL,bK];exact (YR _ k).trans (SN k hK gi xN a lc w o g tr T gi 0 J)
 ·simp only [sC,zz,KS,PJ,NL,bK];exact (YQ _ k).trans (SM k hK gi xN a lc w o g tr T gi 0 J)
 ·have hT:=uK h.ws hs;have W:=hT.kS;have c1:(0:Int)<(s.l.length:Int):=J
  have c2:(s.l.length:Int)<1759218604441:=J
  simp only [sC,zz,oT,c1,c2,PJ,NL,bK];exact (Ks s hT _ k s.l.length 0 J).trans (SO k hK s gi xN a lc w o g tr T gi 0 J)
theorem Iv {x:Int} (hx:x<0\/(k.l.length:Int)<=x):L 9050 [x,enc s,enc k]=some [0,x,enc s,enc k]\/L 9050 [x,enc s,enc k]=some [1,x,enc s]/\k= .i 1\/L 9050 [x,enc s,enc k]=some [2,x,enc s]/\k= .i 2:=by
 rw [bM,Zt];rcases Et h.ws with rfl|rfl|hs<;>rcases Et h.wk with rfl|rfl|hk
 ·refine .inr (.inl ⟨?_,rfl⟩);simp only [sC,zz,KS,bK];exact afp _
 ·refine .inr (.inr ⟨?_,rfl⟩);simp only [sC,zz,KS,bK];exact afo _
 ·have hK:=xB h.wk hk;have yS:=hK.kS;have PJ:(0:Int)<(k.l.length:Int):=J
  have NL:(k.l.length:Int)<2199023255552:=J
  refine .inl ?_;simp only [sC,zz,KS,PJ,NL,bK];exact (YR _ k).trans (SV k hK _ k.l.length 0 hx J)
 ·refine .inr (.inl ⟨?_,rfl⟩);simp only [sC,zz,KS,bK];exact afn _
 ·refine .inr (.inr ⟨?_,rfl⟩);simp only [sC,zz,KS,bK];exact afm _
 ·have hK:=xB h.wk hk;have yS:=hK.kS;have PJ:(0:Int)<(k.l.length:Int):=J
  have NL:(k.l.length:Int)<2199023255552:=J
  refine .inl ?_;simp only [sC,zz,KS,PJ,NL,bK];exact (YQ _ k).trans (SU k hK _ k.l.length 0 hx J)
 ·have hT:=uK h.ws hs;have W:=hT.kS;have c1:(0:Int)<(s.l.length:Int):=J
  have c2:(s.l.length:Int)<1759218604441:=J
  refine .inr (.inl ⟨?_,rfl⟩);simp only [sC,zz,KS,c1,c2,bK];exact (SI s hT _ s.l.length 0 J).trans (Y' _ s)
 ·have hT:=uK h.ws hs;have W:=hT.kS;have c1:(0:Int)<(s.l.length:Int):=J
  have c2:(s.l.length:Int)<1759218604441:=J
  refine .inr (.inr ⟨?_,rfl⟩);simp only [sC,zz,KS,c1,c2,bK];exact (SH s hT _ s.l.length 0 J).trans (Y_ _ s)
 ·have hT:=uK h.ws hs;have W:=hT.kS;have c1:(0:Int)<(s.l.length:Int):=J
  have c2:(s.l.length:Int)<1759218604441:=J
  have hK:=xB h.wk hk;have yS:=hK.kS;have PJ:(0:Int)<(k.l.length:Int):=J
  have NL:(k.l.length:Int)<2199023255552:=J
  refine .inl ?_;simp only [sC,zz,oT,c1,c2,PJ,NL,bK];exact (Ks s hT _ k s.l.length 0 J).trans (SW k hK _ s k.l.length 0 hx J)
end
def Vf (a b:D) (i:Nat):Prop:= ∀(k:Nat) (U:k<a.l.length) (Z:k<b.l.length),i<=k->(a.l[k]).n=(b.l[k]).n
theorem Vf.step {a b:D} {i:Nat} (U:i<a.l.length) (Z:i<b.l.length) (h:(a.l[i]).n=(b.l[i]).n):Vf a b i↔Vf a b (i+1):=by
 constructor
 ·intro q k x y z;exact q k x y J
 ·intro q k x y z;by_cases hk:k=i
  ·grind
  ·exact q k x y J
theorem Vf.aje {a b:D} {i:Nat} (h:a.l.length<=i):Vf a b i:=fun k U _ h3=>absurd U J
section
variable {a b:D} (hle:a.l.length=b.l.length) (hlen:a.l.length<=140737488351232)
include hle hlen
theorem HI: ∀(j i:Nat),i+j=a.l.length->∃c:Int,L 251 [enc a,enc b,(i:Int)]=some [c]/\(c=0\/c=1)/\(c=1↔Vf a b i)
 |0,i,hi=>by
  have c1: ¬(i:Int)<(a.l.length:Int):=J
  refine⟨1,?_,.inr rfl,fun _=>Vf.aje J,fun _=>rfl⟩;rw [bM,aaL];simp only [t251,zz,c1,fin]
 |j+1,i,hi=>by
  have dU:i<a.l.length:=J
  have CU:i<b.l.length:=J
  have c1:(i:Int)<(a.l.length:Int):=J
  have c2: ¬((i:Int)<0):=J
  have c3:(i:Int)<(b.l.length:Int):=J
  have w:=bP (n:=i) J;obtain⟨c,U,Z,h3⟩:=HI j (i+1) J;by_cases he:(a.l[i]).n=(b.l[i]).n
  ·refine⟨c,?_,Z,h3.trans (Vf.step dU CU he).symm⟩;rw [bM,aaL];simp only [t251,zz,c1,c2,c3,w,bV dU,bV CU,he,fin,U]
  ·refine⟨0,?_,.inl rfl,fun h=>absurd h J,fun h=>absurd (h i dU CU (ay i)) he⟩;rw [bM,aaL];simp only [t251,zz,c1,c2,c3,w,bV dU,bV CU,he,fin]
end
def r! (a b:D):Prop:=a.l.length=b.l.length/\Vf a b 0
theorem Ur (a b:D) (hlen:a.l.length<=140737488351232): ∃c:Int,L 250 [enc a,enc b]=some [c]/\(c=0\/c=1)/\(c=1↔r! a b):=by
 by_cases W:a.l.length=b.l.length
 ·obtain⟨c,U,Z,h3⟩:=HI W hlen a.l.length 0 J;refine⟨c,?_,Z,h3.trans ⟨fun h=> ⟨W,h⟩,fun h=>h.2⟩⟩;have yS:(a.l.length:Int)=(b.l.length:Int):=J
  rw [bM,af1,t250,ey,ak,lX]
  ·simp only [List.map,da,bQ,Nat.reduceLT,bL,bO,fin];exact U
  ·simp only [gz,gj,bQ,Nat.reduceLT,bL,bO,bC,gM]
   grind
 ·refine⟨0,?_,.inl rfl,fun h=>absurd h J,fun h=>absurd h.1 W⟩;have yS: ¬(a.l.length:Int)=(b.l.length:Int):=J
  rw [bM,af1,t250,ey,ah]
  ·simp only [iT,List.map,da,fin]
  ·simp only [gz,gj,bQ,Nat.reduceLT,bL,bO,bC,gM]
   grind
theorem GL (x y:D) (hle:x.l.length=y.l.length) (hlen:x.l.length<=140737488351232) (x0 x1 x2:Int) (i:Nat) (hi:i<9223372036854775807) (c:Int) (hc:c=0\/c=1) (h:L 201 [x0,x1,x2,((i+1:Nat):Int)]=some [c]) (x6 x7 x8 x9 KQ x12 x13 x14 x15 x16:Int) :
 ∀(j k:Nat),k+j=x.l.length->∃e:Int,L 202 [x0,x1,x2,(i:Int),(x.l.length:Int),(k:Int),x6,x7,x8,x9,KQ,enc x,x12,x13,x14,x15,x16,enc y]=some [e]/\(e=0\/e=1)/\(e=1↔Vf x y k/\c=1)
 |0,k,hk=>by
  have c1: ¬(k:Int)<(x.l.length:Int):=J
  have w:=bP (n:=i) J;refine⟨c,?_,hc,fun h=> ⟨Vf.aje J,h⟩,fun h=>h.2⟩;rw [bM,aaM];simp only [t202,zz,c1,w,fin,h]
 |j+1,k,hk=>by
  have dU:k<x.l.length:=J
  have CU:k<y.l.length:=J
  have c1:(k:Int)<(x.l.length:Int):=J
  have c2: ¬((k:Int)<0):=J
  have c3:(k:Int)<(y.l.length:Int):=J
  have w:=bP (n:=k) J;obtain⟨e,U,Z,h3⟩:=GL x y hle hlen x0 x1 x2 i hi c hc h x6 x7 x8 x9 KQ x12 x13 x14 x15 x16 j (k+1) J;by_cases he:(x.l[k]).n=(y.l[k]).n
  ·refine⟨e,?_,Z,h3.trans ⟨fun q=> ⟨(Vf.step dU CU he).2 q.1,q.2⟩,fun q=> ⟨(Vf.step dU CU he).1 q.1,q.2⟩⟩⟩;rw [bM,aaM];simp only [t202,zz,c1,c2,c3,w,bV dU,bV CU,he,fin,U]
  ·refine⟨0,?_,.inl rfl,fun h=>absurd h J,fun h=>absurd (h.1 k dU CU (ay k)) he⟩;rw [bM,aaM];simp only [t202,zz,c1,c2,c3,w,bV dU,bV CU,he,fin]
theorem dO (ρ) (a b:SB):((SB.and a b).den ρ=true)=(a.den ρ=true/\b.den ρ=true):=by simp [SB.den]
structure ajF (x y:D):Prop where
 o:(x.hd 0).n=(y.hd 0).n
 c:(x.hd 1).n=(y.hd 1).n
 d:(x.hd 2).n=0↔(y.hd 2).n=0
 g:(x.hd 3).n=(y.hd 3).n
 r:r! (x.hd 4) (y.hd 4)
 v:r! (x.hd 5) (y.hd 5)
def Nl (a b:D) (i:Nat):Prop:= ∀(k:Nat) (U:k<a.l.length) (Z:k<b.l.length),i<=k->ajF a.l[k] b.l[k]
theorem bits {p q:Int}:((¬(¬p=0/\¬q=0))/\¬(¬¬p=0/\¬¬q=0))↔¬(p=0↔q=0):=J
def I5 (s:D):Prop:= ∀x∈s.l,(x.hd 4).l.length<=140737488351232/\(x.hd 5).l.length<=140737488351232
section
variable {a b:D} (hle:a.l.length=b.l.length) (hlen:a.l.length<=140737488351232) (hr:I5 a)
include hle hlen hr
theorem GX: ∀(j i:Nat),i+j=a.l.length->∃c:Int,L 201 [enc a,enc b,(a.l.length:Int),(i:Int)]=some [c]/\(c=0\/c=1)/\(c=1↔Nl a b i)
 |0,i,hi=>by
  have c1: ¬(i:Int)<(a.l.length:Int):=J
  refine⟨1,?_,.inr rfl,fun _ k U _ h3=>absurd U J,fun _=>rfl⟩;rw [bM,Km];simp only [t201,zz,c1,fin]
 |j+1,i,hi=>by
  have dU:i<a.l.length:=J
  have CU:i<b.l.length:=J
  have c1:(i:Int)<(a.l.length:Int):=J
  have c2: ¬((i:Int)<0):=J
  have c3:(i:Int)<(b.l.length:Int):=J
  obtain⟨c,U,Z,h3⟩:=GX j (i+1) J;have hb:=hr _ (aG dU);by_cases b0:((a.l[i]).hd 0).n=((b.l[i]).hd 0).n
  case neg=>
   refine⟨0,?_,.inl rfl,fun h=>absurd h J,fun h=>absurd (h i dU CU (ay i)).o b0⟩;rw [bM,Km];simp only [t201,zz,c1,c2,c3,bV dU,bV CU,b0,fin]
  by_cases b1:((a.l[i]).hd 1).n=((b.l[i]).hd 1).n
  case neg=>
   refine⟨0,?_,.inl rfl,fun h=>absurd h J,fun h=>absurd (h i dU CU (ay i)).c b1⟩;rw [bM,Km];simp only [t201,zz,c1,c2,c3,bV dU,bV CU,b0,b1,fin]
  by_cases b2:(((a.l[i]).hd 2).n=0↔((b.l[i]).hd 2).n=0)
  case neg=>
   refine⟨0,?_,.inl rfl,fun h=>absurd h J,fun h=>absurd (h i dU CU (ay i)).d b2⟩;rw [bM,Km];have b2':=bits.2 b2;simp only [t201,zz,dO,eG,c1,c2,c3,bV dU,bV CU,b0,b1,ak b2',fin]
  have b2': ¬_:=fun h=>bits.1 h b2;by_cases b3:((a.l[i]).hd 3).n=((b.l[i]).hd 3).n
  case neg=>
   refine⟨0,?_,.inl rfl,fun h=>absurd h J,fun h=>absurd (h i dU CU (ay i)).g b3⟩;rw [bM,Km];simp only [t201,zz,dO,eG,c1,c2,c3,bV dU,bV CU,b0,b1,ah b2',b3,fin]
  obtain⟨e,g1,g2,g3⟩:=Ur ((a.l[i]).hd 4) ((b.l[i]).hd 4) hb.1;by_cases b4:e=0
  ·subst b4;refine⟨0,?_,.inl rfl,fun h=>absurd h J,fun h=>absurd (g3.2 (h i dU CU (ay i)).r) J⟩;rw [bM,Km];simp only [t201,zz,dO,eG,c1,c2,c3,bV dU,bV CU,b0,b1,ah b2',b3,g1,fin]
  have he:e=1:=J
  subst he;by_cases b5:((a.l[i]).hd 5).l.length=((b.l[i]).hd 5).l.length
  case neg=>
   have b5': ¬(((a.l[i]).hd 5).l.length:Int)=(((b.l[i]).hd 5).l.length:Int):=J
   refine⟨0,?_,.inl rfl,fun h=>absurd h J,fun h=>absurd (h i dU CU (ay i)).v.1 b5⟩;rw [bM,Km];simp only [t201,zz,dO,eG,c1,c2,c3,bV dU,bV CU,b0,b1,ah b2',b3,g1,bF,b5',fin]
  have b5':(((a.l[i]).hd 5).l.length:Int)=(((b.l[i]).hd 5).l.length:Int):=J
  obtain⟨f,f1,f2,f3⟩:=GL ((a.l[i]).hd 5) ((b.l[i]).hd 5) b5 hb.2 (enc a) (enc b) (a.l.length:Int) i J c Z U ((b.l[i]).hd 0).n ((b.l[i]).hd 1).n ((a.l[i]).hd 2).n ((b.l[i]).hd 3).n (enc ((a.l[i]).hd 4)) ((b.l[i]).hd 0).n ((b.l[i]).hd 1).n ((b.l[i]).hd 2).n ((b.l[i]).hd 3).n (enc ((b.l[i]).hd 4)) ((a.l[i]).hd 5).l.length 0 J;refine⟨f,?_,f2,fun h k k1 k2 k3=>?_,fun h=>f3.2 ⟨(h i dU CU (ay i)).v.2,h3.2 fun k k1 k2 k3=>h k k1 k2 J⟩⟩
  ·rw [bM,Km];rw [b5'] at f1;simp only [t201,zz,dO,eG,c1,c2,c3,bV dU,bV CU,b0,b1,ah b2',b3,g1,bF,b5',fin];exact f1
  ·by_cases hk:k=i
   ·subst hk;exact⟨b0,b1,b2,b3,g3.1 rfl,b5,(f3.1 h).1⟩
   ·exact h3.1 (f3.1 h).2 k k1 k2 J
end
theorem TX (a b:D) (hlen:a.l.length<=140737488351232) (hr:I5 a): ∃c:Int,L 200 [enc a,enc b]=some [c]/\(c=0\/c=1)/\(c=1↔a.l.length=b.l.length/\Nl a b 0):=by
 by_cases W:a.l.length=b.l.length
 ·obtain⟨c,U,Z,h3⟩:=GX W hlen hr a.l.length 0 J;refine⟨c,?_,Z,h3.trans ⟨fun h=> ⟨W,h⟩,fun h=>h.2⟩⟩;have yS:(a.l.length:Int)=(b.l.length:Int):=J
  rw [bM,af2,t200,ey,ak,lX]
  ·simp only [List.map,da,gj,gM,bQ,Nat.reduceLT,bL,bO,bC,fin];exact U
  ·simp only [gz,gj,bQ,Nat.reduceLT,bL,bO,bC,gM]
   grind
 ·refine⟨0,?_,.inl rfl,fun h=>absurd h J,fun h=>absurd h.1 W⟩;have yS: ¬(a.l.length:Int)=(b.l.length:Int):=J
  rw [bM,af2,t200,ey,ah]
  ·simp only [iT,List.map,da,fin]
  ·simp only [gz,gj,bQ,Nat.reduceLT,bL,bO,bC,gM]
   grind
theorem Zj (x0 x4 x5 x6 x7 x8 KQ x11 x12 x14:Int):dS 501 [x0,enc (.i 1),0,0,x4,x5,x6,x7,x8,-1,KQ,x11,x12,enc (.i 1),x14] (fun ys=>ys= [1]):=by
 refine dS.of ?_;rw [UT,N5,ey,ah]
 ·simp only [zz,jr,aA]
  repeat' first
   |exact .out rfl
   |(exfalso; omega)
   |refine .ite (fun _=>?_) (fun _=>?_)
 ·simp only [lO,bQ,Nat.reduceLT,bL,bO];omega
theorem TP (k n x1 x3 x4:Int) (m:Nat) (h3:k=3->1<=n) (h5:k=5->1<=n/\n<=16) :
 dS 500 [k,x1,n,x3,x4,-1,(if k=3\/k=9 then n else 0),0,0,enc (.i 1),enc (.i 1),(m:Int)] (fun ys=>ys= [1]):=by
 have w:k=5->IntKind.i64.wrap (n-1)=n-1:=fun h=>mK (by have:=h5 h; omega) (by have:=h5 h; omega)
 have ak9: ∃a b:Int,L 650 [k,x1,n,x3,x4]=some [a,b]/\(b=0\/b=1)/\(b≠0->k≠9/\0<=(if k=3\/k=9 then n else 0)/\(if k=3\/k=9 then n else 0)<=a):=by
  have:dS 650 [k,x1,n,x3,x4] (fun ys=> ∃a b:Int,ys= [a,b]/\(b=0\/b=1)/\(b≠0->k≠9/\0<=(if k=3\/k=9 then n else 0)/\(if k=3\/k=9 then n else 0)<=a)):=by
   refine dS.of ?_;rw [aaG];simp only [O!,zz]
   repeat' first
    |exact .out ⟨_,_,rfl,J,fun h=> ⟨J,by split<;>omega,by split<;>omega⟩⟩
    |refine .ite (fun _=>?_) (fun _=>?_)
   all_goals exact .out ⟨_,_,rfl,J,fun h=> ⟨J,by split<;>omega,by rw [w (by assumption)]; have:=h5 (by assumption); split<;>omega⟩⟩
  obtain⟨ys,h,a,b,rfl,Z⟩:=this;exact⟨a,b,h,Z⟩
 obtain⟨a,b,hm,hb,hr⟩:=ak9;refine dS.of ?_;rw [aaH];simp only [WJ,zz,hm,jr,aA]
 repeat' first
  |exact .out rfl
  |exact .jump (Zj _ _ _ _ _ _ _ _ _ _)
  |(exfalso; omega)
  |refine .ite (fun _=>?_) (fun _=>?_)
end Go.As.Try
end

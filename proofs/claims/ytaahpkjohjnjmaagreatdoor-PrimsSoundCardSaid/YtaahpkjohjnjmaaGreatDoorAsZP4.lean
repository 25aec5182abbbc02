import Derived.Test.YtaahpkjohjnjmaaGreatDoorCards
import Derived.Test.YtaahpkjohjnjmaaGreatDoorTie
import Derived.ProofKit
import Derived.Deep.DeepHandedRow
import Derived.LaidLaws
import Derived.Test.YtaahpkjohjnjmaaGreatDoorAsZP3
set_option linter.unusedSectionVars false
set_option linter.unusedVariables false
set_option linter.unusedSimpArgs false
section
namespace Go.As.Try
open Go Go.As Go.Proofs Go.RowKit
set_option maxRecDepth 100000
def maxLen:Nat:=Tryz.laysM144_ren.g 1
def base:WU where
 ok ro h:=ro maxLen/\∃m,hcell h maxLen 0=some (.int .i64 m)
 keep:=by intro ro ro' h h' hk h1 h2;obtain⟨a,m,hm⟩:=hk;refine⟨h1 _ a,m,?_⟩;unfold hcell at *;rw [h2 _ a];exact hm
noncomputable def tt0:TT:=lim 235 tab
noncomputable def ft:Nat->Option Func:=lim 182 Tz
def owns:List (Nat×Nat):=[(22,3),(23,4),(26,9),(29,7),(44,0),(45,0),(49,2),(50,5),(54,6),(106,14),(196,14),(111,0),(134,1),(31,100)]
noncomputable def ttE:TT:=Vq owns tt0
noncomputable def hints:Nat->Nat->Option Ru:=hAt htab
theorem KN:dU Tryz.prog tt0:=alM aeD
theorem aeE:dU Tryz.prog ttE:=anA KN
theorem ZV:adL Tryz.prog (UC tt0 hints) ft:=anQ VN aiD
theorem avG:adL Tryz.prog (UC ttE hints) ft:=by unfold ttE; rw [akN]; exact ZV
def b (n:Nat):AV:=.int .u8 (.lit (.ofNat n))
def NY:AV:=.agg [b 0,b 0,b 0,b 0,b 0,b 0,b 0,b 0,b 0,b 1,b 1,b 0,b 0,b 1,b 0,b 0,b 0,b 0,b 0,b 0,b 0,b 0,b 0,b 0,b 0,b 0,b 0,b 0,b 0,b 0,b 0,b 0,b 1,b 0,b 0,b 2,b 0,b 0,b 0,b 0,b 5,b 5,b 5,b 5,b 0,b 5,b 0,b 0,b 3,b 3,b 3,b 3,b 3,b 3,b 3,b 3,b 3,b 3,b 0,b 5,b 5,b 5,b 0,b 0,b 0,b 4,b 4,b 4,b 4,b 4,b 4,b 4,b 4,b 4,b 4,b 4,b 4,b 4,b 4,b 4,b 4,b 4,b 4,b 4,b 4,b 4,b 4,b 4,b 4,b 4,b 4,b 0,b 0,b 0,b 0,b 4,b 0,b 4,b 4,b 4,b 4,b 4,b 4,b 4,b 4,b 4,b 4,b 4,b 4,b 4,b 4,b 4,b 4,b 4,b 4,b 4,b 4,b 4,b 4,b 4,b 4,b 4,b 4,b 5,b 0,b 5,b 0,b 0,b 0,b 0,b 0,b 0,b 0,b 0,b 0,b 0,b 0,b 0,b 0,b 0,b 0,b 0,b 0,b 0,b 0,b 0,b 0,b 0,b 0,b 0,b 0,b 0,b 0,b 0,b 0,b 0,b 0,b 0,b 0,b 0,b 0,b 0,b 0,b 0,b 0,b 0,b 0,b 0,b 0,b 0,b 0,b 0,b 0,b 0,b 0,b 0,b 0,b 0,b 0,b 0,b 0,b 0,b 0,b 0,b 0,b 0,b 0,b 0,b 0,b 0,b 0,b 0,b 0,b 0,b 0,b 0,b 0,b 0,b 0,b 0,b 0,b 0,b 0,b 0,b 0,b 0,b 0,b 0,b 0,b 0,b 0,b 0,b 0,b 0,b 0,b 0,b 0,b 0,b 0,b 0,b 0,b 0,b 0,b 0,b 0,b 0,b 0,b 0,b 0,b 0,b 0,b 0,b 0,b 0,b 0,b 0,b 0,b 0,b 0,b 0,b 0,b 0,b 0,b 0,b 0,b 0,b 0,b 0,b 0,b 0,b 0,b 0,b 0,b 0,b 0,b 0]
theorem Gi {g:Nat} {f:Func} (h:Tz.get g=some f) (hg:g<182):Tryz.prog.funcs[g]?=some f:=by have:=congrArg (fun l=>l[g]?) VN;simp only [aDd,aEg hg,aDo,aCJ] at this;rw [<- this];exact h
theorem atX {g:Nat} {f:Func} (hf:Tryz.prog.funcs[g]?=some f) (hn:(f.name == "runtime.NumGoroutine")=false) (hb:f.body.isNone=false): ∀(args:Array Value) (w:World),(callFunc g args).run Tryz.prog w= .ok (.enter g args) w:=by intro args w;unfold callFunc;simp only [Sem.run_bind,run_program,Result.andThen_ok,hf];rw [hn,hb];simp
def ZQ (g:Nat):Option (List AV->St->T (AV×St)):=
 match Nat.beq g 129 with
 |true=>some zL
 |false=>match Nat.beq g 148 with
  |true=>some zK
  |false=>match Nat.beq g 113 with
   |true=>some rP
   |false=>none
theorem atZ:Tryz.laysM144_ren.f 144=113:=by kernel_rfl
section
variable (I:Glob) (hI: ∀ρ ro h,I.ok ρ ro h->base.ok ro h)
theorem f129:@lX I Tryz.prog 129 zL:=@adH _ I 129 Tryz.f129 (Gi (by kernel_rfl) (by decide)) (by kernel_rfl) (by kernel_rfl) (by kernel_rfl) (by kernel_rfl)
theorem f148:@lX I Tryz.prog 148 zK:=@acH _ I 148 Tryz.f148 (Gi (by kernel_rfl) (by decide)) (by kernel_rfl) (by kernel_rfl) (by kernel_rfl) (by kernel_rfl)
include hI in
theorem f113:@lX I Tryz.prog 113 rP:=by letI:=I;refine Uy ?_ (atX (f:=Tryz.f113) (Gi (by kernel_rfl) (by decide)) (by kernel_rfl) (by kernel_rfl));intro ρ ro w hw s sub hs;obtain⟨_,m,hm⟩:=hI _ _ _ hw;have:=Any.strings_Contains { Tryz.laysM144 with } s sub m w hs (by rw [sO]; exact hm);rw [atZ] at this;exact this
include hI in
theorem VL: ∀(g:Nat) (h:List AV->St->T (AV×St)),ZQ g=some h->@lX I Tryz.prog g h:=by
 intro g h hh;unfold ZQ at hh;split at hh
 ·rename_i hg;have:=aCO hg;subst this;simp at hh;subst hh;exact f129 I
 ·split at hh
  ·rename_i hg;have:=aCO hg;subst this;simp at hh;subst hh;exact f148 I
  ·split at hh
   ·rename_i hg;have:=aCO hg;subst this;simp at hh;subst hh;exact f113 I hI
   ·simp at hh
end
noncomputable def azC (g:Nat):List AV->St->T (AV×St):=Ub tt0 ft ZQ (QU tt0 hints) 100000 60 g
theorem amO (I:Glob) (hI: ∀ρ ro h,I.ok ρ ro h->base.ok ro h) (g:Nat):@lX I Tryz.prog g (azC g):=@GI _ I _ KN _ _ ZV _ (VL I hI) _ (fun _ hc=>@GU _ I _ KN mixed _ _ hc) 100000 60 g
theorem WC:gives [] NY (azC 108)=true:=by kernel_rfl
theorem DL {f:Func} (h:f.body.isSome=true): ∃c,f.body=some c:=aDI.1 h
theorem YO (I:Glob) (hI: ∀ρ ro h,I.ok ρ ro h->base.ok ro h):@lX I Tryz.prog 108 (memo [] NY):=by letI:=I;obtain⟨c,hb⟩:=DL (f:=Tryz.f108) (by kernel_rfl);exact J7 (amO I hI 108) (fn:=Tryz.f108) (Gi (by kernel_rfl) (by decide)) (by kernel_rfl) hb WC
def VK (g:Nat):Option (List AV->St->T (AV×St)):=
 match Nat.beq g 108 with
 |true=>some (memo [] NY)
 |false=>ZQ g
theorem MG (I:Glob) (hI: ∀ρ ro h,I.ok ρ ro h->base.ok ro h): ∀(g:Nat) (h:List AV->St->T (AV×St)),VK g=some h->@lX I Tryz.prog g h:=by
 intro g h hh;unfold VK at hh;split at hh
 ·rename_i hg;have:=aCO hg;subst this;simp at hh;subst hh;exact YO I hI
 ·exact VL I hI g h hh
noncomputable def Xw (g:Nat):List AV->St->T (AV×St):=Ub tt0 ft VK (QU tt0 hints) 100000 60 g
theorem CZ (I:Glob) (hI: ∀ρ ro h,I.ok ρ ro h->base.ok ro h) (g:Nat):@lX I Tryz.prog g (Xw g):=@GI _ I _ KN _ _ ZV _ (MG I hI) _ (fun _ hc=>@GU _ I _ KN mixed _ _ hc) 100000 60 g
theorem auM:gives [.str [97]] (.bool (.lit true)) (Xw 97)=true:=by kernel_rfl
theorem auL:gives [.str [98]] (.bool (.lit true)) (Xw 97)=true:=by kernel_rfl
def ZH:List AV:=[.agg [.ro [.int .u8 (.lit 1),.str [109],.int .i64 (.lit 0),.str [],.int .i64 (.lit 1),.int .u8 (.lit 5),.str [98],.int .i64 (.lit 2),.str [],.int .i64 (.lit 1)] 2 false,.ro [.str [97],.aQ,.int .i64 (.lit 1),.str [100],.aQ,.int .i64 (.lit 1)] 2 false]]
theorem azW:Tq ZH (.agg [.int .i64 (.lit 0),.int .i64 (.lit 0)]) (Xw 80)=true:=by kernel_rfl
def ZE:List (List AV×AV):=[(ZH,.agg [.int .i64 (.lit 0),.int .i64 (.lit 0)])]
def ZI:List AV:=[.agg [.ro [.int .u8 (.lit 1),.str [109],.int .i64 (.lit 0),.str [],.int .i64 (.lit 1),.int .u8 (.lit 5),.str [98],.int .i64 (.lit 2),.str [],.int .i64 (.lit 1)] 2 false,.ro [.str [97],.aQ,.aQ,.str [100],.aQ,.aQ] 2 false]]
theorem azX:Tq ZI (.int .i64 (.lit 0)) (Xw 13)=true:=by kernel_rfl
def ZF:List (List AV×AV):=[(ZI,.int .i64 (.lit 0))]
noncomputable def ahT (g:Nat):Option (List AV->St->T (AV×St)):=
 match Nat.beq g 80 with
 |true=>some (orElse (Zw ZE) (Xw 80))
 |false=>match Nat.beq g 13 with
 |true=>some (orElse (Zw ZF) (Xw 13))
 |false=>VK g
theorem ahS (I:Glob) (hI: ∀ρ ro h,I.ok ρ ro h->base.ok ro h): ∀(g:Nat) (h:List AV->St->T (AV×St)),ahT g=some h->@lX I Tryz.prog g h:=by
 intro g h hh;letI:=I;unfold ahT at hh;split at hh
 ·rename_i hg;have:=aCO hg;subst this;simp only [aCJ] at hh;subst hh;obtain⟨c,hb⟩:=DL (f:=Tryz.f80) (by kernel_rfl);refine Dh (Vx (CZ I hI 80) (fn:=Tryz.f80) (Gi (by kernel_rfl) (by decide)) (by kernel_rfl) hb fun p hp=>?_) (CZ I hI 80);simp only [ZE,aCP,aDt,or_false] at hp;rcases hp with rfl
  ·exact azW
 ·skip;split at hh
  ·rename_i hg;have:=aCO hg;subst this;simp only [aCJ] at hh;subst hh;obtain⟨c,hb⟩:=DL (f:=Tryz.f13) (by kernel_rfl);refine Dh (Vx (CZ I hI 13) (fn:=Tryz.f13) (Gi (by kernel_rfl) (by decide)) (by kernel_rfl) hb fun p hp=>?_) (CZ I hI 13);simp only [ZF,aCP,aDt,or_false] at hp;rcases hp with rfl
   ·exact azX
  ·skip;exact MG I hI g h hh
noncomputable def azB (g:Nat):List AV->St->T (AV×St):=Ub tt0 ft ahT (QU tt0 hints) 100000 60 g
theorem amN (I:Glob) (hI: ∀ρ ro h,I.ok ρ ro h->base.ok ro h) (g:Nat):@lX I Tryz.prog g (azB g):=@GI _ I _ KN _ _ ZV _ (ahS I hI) _ (fun _ hc=>@GU _ I _ KN mixed _ _ hc) 100000 60 g
theorem YQ:gives [] (.bool (.lit true)) (azB 5)=true:=by kernel_rfl
section
variable (I:Glob) (hI: ∀ρ ro h,I.ok ρ ro h->base.ok ro h)
include hI
theorem acC:@lX I Tryz.prog 97 (memo [.str [97]] (.bool (.lit true))):=by letI:=I;obtain⟨c,hb⟩:=DL (f:=Tryz.f97) (by kernel_rfl);exact J7 (CZ I hI 97) (fn:=Tryz.f97) (Gi (by kernel_rfl) (by decide)) (by kernel_rfl) hb auM
theorem acB:@lX I Tryz.prog 97 (memo [.str [98]] (.bool (.lit true))):=by letI:=I;obtain⟨c,hb⟩:=DL (f:=Tryz.f97) (by kernel_rfl);exact J7 (CZ I hI 97) (fn:=Tryz.f97) (Gi (by kernel_rfl) (by decide)) (by kernel_rfl) hb auL
theorem adJ:@lX I Tryz.prog 5 (memo [] (.bool (.lit true))):=by letI:=I;obtain⟨c,hb⟩:=DL (f:=Tryz.f5) (by kernel_rfl);exact J7 (amN I hI 5) (fn:=Tryz.f5) (Gi (by kernel_rfl) (by decide)) (by kernel_rfl) hb YQ
end
def X6 (g:Nat):Option (List AV->St->T (AV×St)):=
 match Nat.beq g 5 with
  |true=>some (memo [] (.bool (.lit true)))
  |false=>match Nat.beq g 97 with
  |true=>some (orElse (memo [.str [97]] (.bool (.lit true))) (memo [.str [98]] (.bool (.lit true))))
  |false=>VK g
theorem acJ (I:Glob) (hI: ∀ρ ro h,I.ok ρ ro h->base.ok ro h): ∀(g:Nat) (h:List AV->St->T (AV×St)),X6 g=some h->@lX I Tryz.prog g h:=by
 intro g h hh;unfold X6 at hh;split at hh
 ·rename_i hg;have:=aCO hg;subst this;simp at hh;subst hh;exact adJ I hI
 ·skip;split at hh
  ·rename_i hg;have:=aCO hg;subst this;simp at hh;subst hh;letI:=I;exact Dh (acC I hI) (acB I hI)
  ·exact MG I hI g h hh
end Go.As.Try
end
section
namespace Go.As.Try
open Go hiding Stat Spec shape
open Go.As Go.Proofs
set_option maxRecDepth 100000
abbrev aI (n:Nat):AV:=.int .i64 (.aK n)
abbrev aJ (n:Int):AV:=.int .i64 (.lit n)
abbrev aU (n:Nat):AV:=.int .u8 (.aK n)
abbrev aD (n t:Nat):AV:=.dat (.aK n) t
abbrev aS (n:Nat):AV:=.lQ (.aK n)
abbrev aB (n:Nat):AV:=.bool (.not (.eq (.aK n) (.lit 0)))
abbrev aV (b n t:Nat):AV:=.qO b (.op .len (.aK n) (.lit 0)) t
abbrev aE (n t:Nat):AV:=.Ec (.aK n) t
def cT0:List Int:=[0,0,0,0,0,0,0,0,0,1,1,0,0,1,0,0,0,0,0,0,0,0,0,0,0,0,0,0,0,0,0,0,1,0,0,2,0,0,0,0,5,5,5,5,0,5,0,0,3,3,3,3,3,3,3,3,3,3,0,5,5,5,0,0,0,4,4,4,4,4,4,4,4,4,4,4,4,4,4,4,4,4,4,4,4,4,4,4,4,4,4,0,0,0,0,4,0,4,4,4,4,4,4,4,4,4,4,4,4,4,4,4,4,4,4,4,4,4,4,4,4,4,4,5,0,5,0,0,0,0,0,0,0,0,0,0,0,0,0,0,0,0,0,0,0,0,0,0,0,0,0,0,0,0,0,0,0,0,0,0,0,0,0,0,0,0,0,0,0,0,0,0,0,0,0,0,0,0,0,0,0,0,0,0,0,0,0,0,0,0,0,0,0,0,0,0,0,0,0,0,0,0,0,0,0,0,0,0,0,0,0,0,0,0,0,0,0,0,0,0,0,0,0,0,0,0,0,0,0,0,0,0,0,0,0,0,0,0,0,0,0,0,0,0,0,0,0,0,0,0,0,0,0,0,0,0]
def avJ:FE:=⟨9000,14,[],[],some (⟨2,[(0,aD 1 7) ],[],[],.lit 0⟩,[],0),[⟨2,[(0,aV 0 1 7)],[.vec (.aK 1) 7 47 []],[],.lit 0⟩,⟨1,[(0,.aQ) ],[],[],.lit 0⟩,⟨1,[(0,.slice 0 0 0 (.exact 0))],[.cells [] 47 ],[],.lit 0⟩,⟨8,[(0,aV 0 1 7)],[.vec (.aK 1) 7 47 [(.aK 0,[aI 2,aI 3,aB 4,aI 5,aV 1 6 0,aV 2 7 0])],
 .vec (.aK 6) 0 3 [],
 .vec (.aK 7) 0 2 []],[],.aK 0⟩,⟨8,[(0,aV 0 1 7)],[.vec (.aK 1) 7 47 [(.aK 0,[aI 2,aI 3,aB 4,aI 5,aV 1 6 0,aE 7 0])],
 .vec (.aK 6) 0 3 []],[],.aK 0⟩,⟨8,[(0,aV 0 1 7)],[.vec (.aK 1) 7 47 [(.aK 0,[aI 2,aI 3,aB 4,aI 5,aE 6 0,aV 1 7 0])],
 .vec (.aK 7) 0 2 []],[],.aK 0⟩,⟨8,[(0,aV 0 1 7)],[.vec (.aK 1) 7 47 [(.aK 0,[aI 2,aI 3,aB 4,aI 5,aE 6 0,aE 7 0])]],[],.aK 0⟩],[(3,1)],[11],1,[(8,0)],[],[],
 [([0,1,0,1,1],⟨4,[(0,aV 0 1 7),(7,aI 2),(8,aI 3)],[.vec (.aK 1) 7 47 []],[],.lit 0⟩),([0,1,0,1,1],⟨1,[(0,.aQ),(7,aJ 0),(8,aJ 0) ],[],[],.lit 0⟩),([0,1,0,1,1],⟨1,[(0,.slice 0 0 0 (.exact 0)),(7,aJ 0),(8,aJ 0)],[.cells [] 47 ],[],.lit 0⟩),([0,1,0,1,1],⟨10,[(0,aV 0 1 7),(7,aI 2),(8,aI 3)],[.vec (.aK 1) 7 47 [(.aK 0,[aI 4,aI 5,aB 6,aI 7,aV 1 8 0,aV 2 9 0])],
  .vec (.aK 8) 0 3 [],
  .vec (.aK 9) 0 2 []],[],.lit 0⟩),([0,1,0,1,1],⟨10,[(0,aV 0 1 7),(7,aI 2),(8,aI 3)],[.vec (.aK 1) 7 47 [(.aK 0,[aI 4,aI 5,aB 6,aI 7,aV 1 8 0,aE 9 0])],
  .vec (.aK 8) 0 3 []],[],.lit 0⟩),([0,1,0,1,1],⟨10,[(0,aV 0 1 7),(7,aI 2),(8,aI 3)],[.vec (.aK 1) 7 47 [(.aK 0,[aI 4,aI 5,aB 6,aI 7,aE 8 0,aV 1 9 0])],
  .vec (.aK 9) 0 2 []],[],.lit 0⟩),([0,1,0,1,1],⟨10,[(0,aV 0 1 7),(7,aI 2),(8,aI 3)],[.vec (.aK 1) 7 47 [(.aK 0,[aI 4,aI 5,aB 6,aI 7,aE 8 0,aE 9 0])]],[],.lit 0⟩)]⟩
def aAM:FE:=⟨50,3,[.agg [(.sl 3),(.sl 4)],.one (.sl 9)],[.one .bool],none,[],[],[],0,[],[],[⟨14,none,.cell 9 2⟩,⟨16,none,.cell 9 2⟩],
 [([0,1,0,1,1,1,1],⟨6,[(1,aD 0 9),(2,.ptr 0 0),(5,aD 1 7),(6,.map 1),(7,aI 2)],[.cells [aD 3 3,aD 4 4] 25,
  .fam (.aK 5) 0 [0,2] []],[],.lit 0⟩)]⟩
def aAU:FE:=⟨100,4,[.agg [(.sl 3),(.sl 4)]],[.one .bool],none,[],[],[],0,[],[],[],
 [([0,1,0,1,1],⟨5,[(1,.ptr 0 0),(3,aI 0),(17,aI 1),(18,aI 2)],[.cells [aD 3 3,aD 4 4] 25 ],[],.lit 0⟩),([0,1,1,1,0,0,1,1,0,0,1,0,1,1],⟨6,[(1,.ptr 0 0),(3,aI 0),(4,aI 1),(5,aI 2),(17,aI 3),(18,aI 1)],[.cells [aD 4 3,aD 5 4] 25 ],[],.lit 0⟩),([0,1,0,0,1,0,0,1,1,1,0,0,1,1,0,0,1,0,1,1],⟨9,[(1,.ptr 0 0),(3,aI 0),(4,aI 1),(5,aI 2),(17,aI 3),(18,aI 1),(62,aD 4 6),(63,aI 5),(64,aI 6)],[.cells [aD 7 3,aD 8 4] 25 ],[],.lit 0⟩)]⟩
def aAT:FE:=⟨150,10,[.agg [(.int .u8),.str,(.int .i64),(.sl 6)],.one (.int .i64)],[.one (.int .i64)],none,[],[],[],0,[],[],[],
 [([0,1,0,1,1,1],⟨7,[(1,aI 0),(2,.ptr 0 0),(5,aI 1),(6,aI 2)],[.cells [aU 3,aS 4,aI 5,aD 6 6] 59 ],[],.lit 0⟩)]⟩
def aAS:FE:=⟨200,9,[.one (.sl 7),.one (.sl 7)],[.one .bool],none,[],[],[],0,[],[],[],
 [([0,1,0,1,1],⟨4,[(0,aD 0 7),(1,aD 1 7),(15,aI 2),(16,aI 3) ],[],[],.lit 0⟩),([0,1,1,1,1,0,0,1,1,0,0,1,0,1,1],⟨18,[(0,aD 0 7),(1,aD 1 7),(6,.ptr 0 0),(7,.ptr 1 0),(15,aI 2),(16,aI 3),(72,aI 4),(73,aI 5)],[.cells [aI 6,aI 7,aB 8,aI 9,aD 10 0,aD 11 0] 47,
  .cells [aI 12,aI 13,aB 14,aI 15,aD 16 0,aD 17 0] 47 ],[],.lit 0⟩)]⟩
def aAR:FE:=⟨250,20,[.one (.sl 0),.one (.sl 0)],[.one .bool],none,[],[],[],0,[],[],[],
 [([0,1,0,1,1],⟨3,[(0,aD 0 0),(1,aD 1 0),(5,aI 2) ],[],[],.lit 0⟩)]⟩
def aAQ:FE:=⟨300,6,[.agg [(.sl 3),(.sl 4)]],[.one (.sl 7)],none,[],[],[],0,[],[],[],
 [([0,1,0,1,0,1,1],⟨2,[(3,.aQ),(11,aD 0 3),(12,aI 1),(13,aJ 0) ],[],[],.lit 0⟩),([0,1,0,1,0,1,1],⟨4,[(3,aV 0 0 7),(11,aD 1 3),(12,aI 2),(13,aI 3)],[.vec (.aK 0) 7 47 []],[],.lit 0⟩)]⟩
def aAP:FE:=⟨350,8,[.agg [(.sl 3),(.sl 4)],.one (.sl 7)],[.one .bool],none,[],[],[],0,[],[],[],
 [([0,1,0,1,1],⟨5,[(2,.ptr 0 0),(18,aD 0 7),(19,aI 1),(20,aI 2)],[.cells [aD 3 3,aD 4 4] 25 ],[],.lit 0⟩)]⟩
def aAO:FE:=⟨400,7,[.agg [(.sl 3),(.sl 4)],.one (.sl 7),.one (.int .i64),.agg [(.int .u8),(.int .i64),(.int .i64),(.int .i64)]],[.one (.sl 7),.agg [(.int .i64),(.int .u8),(.int .i64),(.int .i64),(.int .i64)],.one (.int .u8)],none,[],[],[],0,[],[],[],
 []⟩
def aAN:FE:=⟨450,13,[.agg [(.sl 3),(.sl 4)]],[.one (.int .i64)],none,[],[],[],0,[],[],[],
 [([0,1,0,1,1],⟨4,[(1,.ptr 0 0),(3,.bool (.lit true)),(20,aD 0 3),(21,aI 1),(22,aI 2)],[.cells [aD 0 3,aD 3 4] 25 ],[],.lit 0⟩),([0,1,0,1,1],⟨4,[(1,.ptr 0 0),(3,.bool (.lit false)),(20,aD 0 3),(21,aI 1),(22,aI 2)],[.cells [aD 0 3,aD 3 4] 25 ],[],.lit 0⟩),([0,1,0,1,1,1],⟨4,[(1,.ptr 0 0),(3,.bool (.lit true)),(35,aD 0 4),(36,aI 1),(37,aI 2)],[.cells [aD 3 3,aD 0 4] 25 ],[],.lit 0⟩),([0,1,0,1,1,1],⟨4,[(1,.ptr 0 0),(3,.bool (.lit false)),(35,aD 0 4),(36,aI 1),(37,aI 2)],[.cells [aD 3 3,aD 0 4] 25 ],[],.lit 0⟩),([0,1,1,1,0,0,1,1,0,0,1,0,1,1,1],⟨8,[(1,.ptr 0 0),(3,.bool (.lit true)),(7,.ptr 1 0),(8,aI 0),(35,aD 1 4),(36,aI 2),(37,aI 3)],[.cells [aD 4 3,aD 1 4] 25,
  .cells [aS 5,aD 6 2,aD 7 5] 52 ],[],.lit 0⟩),([0,1,1,1,0,0,1,1,0,0,1,0,1,1,1],⟨8,[(1,.ptr 0 0),(3,.bool (.lit false)),(7,.ptr 1 0),(8,aI 0),(35,aD 1 4),(36,aI 2),(37,aI 3)],[.cells [aD 4 3,aD 1 4] 25,
  .cells [aS 5,aD 6 2,aD 7 5] 52 ],[],.lit 0⟩)]⟩
def aAL:FE:=⟨500,19,[.agg [(.int .u8),.str,(.int .i64),.str,(.int .i64)],.agg [(.int .i64),(.int .i64),.bool,(.int .i64),(.sl 0),(.sl 0)],.one (.int .i64)],[.one .bool],none,[],[],[],0,[],[],[],
 [([0,1,0,1,1,1,1,1,1],⟨15,[(2,aI 0),(3,.ptr 0 0),(4,.ptr 1 0),(10,.map 2),(98,aD 1 0),(99,aI 2),(100,aI 3)],[.cells [aU 4,aS 5,aI 6,aS 7,aI 8] 67,
  .cells [aI 9,aI 10,aB 11,aI 12,aD 1 0,aD 13 0] 47,
  .gY (.aK 14) 0 ],[],.lit 0⟩)]⟩
def aAK:FE:=⟨550,14,[.one (.sl 7)],[.one (.sl 7)],none,[],[],[],0,[],[],[],
 [([0,1,0,1,1],⟨3,[(0,aV 0 0 7),(7,aI 1),(8,aI 2)],[.vec (.aK 0) 7 47 []],[],.lit 0⟩),([0,1,0,1,1],⟨0,[(0,.aQ),(7,aJ 0),(8,aJ 0) ],[],[],.lit 0⟩),([0,1,0,1,1],⟨0,[(0,.slice 0 0 0 (.exact 0)),(7,aJ 0),(8,aJ 0)],[.cells [] 47 ],[],.lit 0⟩)]⟩
def aAJ:FE:=⟨600,15,[.one (.int .u8)],[.one (.int .u8)],none,[],[],[],0,[],[],[],
 []⟩
def aAI:FE:=⟨650,70,[.agg [(.int .u8),.str,(.int .i64),.str,(.int .i64)]],[.one (.int .i64),.one .bool],none,[],[],[],0,[],[],[],
 []⟩
def aAH:FE:=⟨700,23,[.agg [(.sl 3),(.sl 4)],.agg [(.int .u8),.str,(.int .i64),.str,(.int .i64)]],[.one .bool],none,[],[],[],0,[],[],[],
 []⟩
def aAG:FE:=⟨750,24,[.agg [(.sl 3),(.sl 4)],.agg [.str,(.sl 2),(.sl 5)],.agg [(.int .u8),(.int .u8),(.int .i64),(.int .i64),(.int .i64),(.int .i64),(.sl 6)]],[.one .bool],none,[],[],[],0,[],[],[],
 []⟩
def aAF:FE:=⟨800,27,[.agg [(.int .u8),.str,(.int .i64),(.sl 6)],.one (.int .i64)],[.one .bool],none,[],[],[],0,[],[],[],
 []⟩
def aAE:FE:=⟨850,43,[.one (.sl 0),.one (.int .i64)],[.one (.int .i64)],none,[],[],[],0,[],[],[],
 [([0,1,0,1],⟨4,[(0,aD 0 0),(1,aI 1),(7,aI 2),(8,aI 3) ],[],[],.lit 0⟩)]⟩
def aAD:FE:=⟨900,63,[.one (.sl 0),.one (.int .i64)],[.one .bool],none,[],[],[],0,[],[],[],
 []⟩
def aAC:FE:=⟨950,83,[.one (.int .u8),.agg [(.int .u8),(.int .u8),(.int .i64),(.int .i64),(.int .i64),(.int .i64),(.sl 6)],.one .bool],[.one .bool],none,[],[],[],0,[],[],[],
 [([0,1,0,1,1],⟨9,[(0,aU 0),(2,.bool (.lit false)),(4,.ptr 0 0),(7,.ptr 1 0),(16,aI 1),(17,aJ 0)],[.cells [aU 2,aU 3,aI 4,aI 5,aI 6,aI 7,aD 8 6] 56,
  .cells [.int .u8 (.lit 1),aU 3,.str [97],.str [],aJ 0,.aQ,.aQ,.aQ,aJ 0] 158 ],[],.lit 0⟩),([0,1,0,1,1],⟨9,[(0,aU 0),(2,.bool (.lit true)),(4,.ptr 0 0),(7,.ptr 1 0),(16,aI 1),(17,aJ 0)],[.cells [aU 2,aU 3,aI 4,aI 5,aI 6,aI 7,aD 8 6] 56,
  .cells [.int .u8 (.lit 1),aU 3,.str [97],.str [],aJ 0,.aQ,.aQ,.aQ,aJ 0] 158 ],[],.lit 0⟩),([0,1,0,1,1],⟨11,[(0,aU 0),(2,.bool (.lit false)),(4,.ptr 0 0),(7,.ptr 1 0),(16,aI 1),(17,aI 2)],[.cells [aU 3,aU 4,aI 5,aI 6,aI 7,aI 8,aD 9 6] 56,
  .cells [.int .u8 (.lit 1),aU 4,.str [97],.str [],aJ 0,aV 2 10 6,.aQ,.aQ,aJ 0] 158,
  .vec (.aK 10) 6 59 []],[],.lit 0⟩),([0,1,0,1,1],⟨11,[(0,aU 0),(2,.bool (.lit true)),(4,.ptr 0 0),(7,.ptr 1 0),(16,aI 1),(17,aI 2)],[.cells [aU 3,aU 4,aI 5,aI 6,aI 7,aI 8,aD 9 6] 56,
  .cells [.int .u8 (.lit 1),aU 4,.str [97],.str [],aJ 0,aV 2 10 6,.aQ,.aQ,aJ 0] 158,
  .vec (.aK 10) 6 59 []],[],.lit 0⟩)]⟩
def awH:FE:=⟨1000,97,[.one .str],[.one .bool],none,[],[],[],0,[],[],[],
 []⟩
def awG:FE:=⟨1050,88,[.one .str,.one (.int .i64)],[.agg [(.int .u8),.str,(.int .i64),(.int .i64),(.int .i64),(.int .i64)],.agg [(.int .i64),(.int .i64)]],none,[],[],[],0,[],[],[],
 []⟩
def awF:FE:=⟨1100,112,[.one .str],[.one (.int .i64),.one .bool],none,[],[],[],0,[],[],[],
 [([0,1,0,1,1],⟨0,[(4,aJ 0),(9,.slice 0 0 0 (.rest 1)),(10,aJ 0),(11,aJ 0)],[.cells [] 5 ],[],.lit 0⟩),([0,1,0,1,1],⟨4,[(4,aI 0),(9,aV 0 1 14),(10,aI 2),(11,aI 3)],[.vec (.aK 1) 14 5 []],[],.lit 0⟩)]⟩
def awE:FE:=⟨1150,136,[.agg [(.int .u8),.str,(.int .i64),(.sl 6)]],[.one .bool],none,[],[],[],0,[],[],[],
 []⟩
def awD:FE:=⟨1200,137,[.one (.int .u8)],[.one (.int .u8)],none,[],[],[],0,[],[],[],
 []⟩
def awC:FE:=⟨1250,131,[.one (.int .u8)],[.one (.int .i64)],none,[],[],[],0,[],[],[],
 []⟩
def avZ:FE:=⟨1300,132,[.one (.int .u8)],[.one .bool],none,[],[],[],0,[],[],[],
 []⟩
def avY:FE:=⟨1350,91,[.one (.int .u8)],[.one .bool],none,[],[],[],0,[],[],[],
 []⟩
def avX:FE:=⟨1400,96,[.agg [(.int .u8),.str,(.int .i64),.str,(.int .i64)]],[.one .bool],none,[],[],[],0,[],[],[],
 []⟩
def avW:FE:=⟨5000,25,[],[.one .bool],some (⟨4,[(0,aD 0 6),(1,.func (.func 26) [] [.ptr 0 0])],[.cells [aS 1,aD 2 2,aD 3 5] 52 ],[],.lit 0⟩,[.cells [aS 0,aD 1 2,aD 2 5] 52],3),[],[],[],0,[],[],[],
 []⟩
def avV:FE:=⟨5050,85,[],[.one .bool],some (⟨7,[(0,.ptr 0 0),(1,.agg [aU 0,aS 1,aI 2,aD 3 6]),(2,aI 4)],[.cells [aI 5,aI 6] 144 ],[],.lit 0⟩,[.cells [aI 0,aI 1] 144],2),[],[],[],0,[],[],[],
 [([0,1,0,1,1,1],⟨9,[(0,.ptr 0 0),(2,aI 0),(4,.ptr 1 0),(27,aD 1 6),(28,aI 2),(29,aI 3)],[.cells [aI 4,aI 5] 144,
  .cells [aU 6,aS 7,aI 8,aD 1 6] 59 ],[],.lit 0⟩)]⟩
def avU:FE:=⟨5100,122,[],[],some (⟨2,[(0,.ptr 0 0),(1,.aQ),(2,aI 0)],[.cells [aI 1,.bool (.lit true),.bool (.lit false)] 131 ],[],.lit 0⟩,[.cells [aI 0,.bool (.lit true),.bool (.lit false)] 131],1),[],[],[],0,[],[],[],
 [([0,1],⟨2,[(0,.ptr 0 0),(2,aI 0),(8,.aQ),(9,aJ 0),(10,aJ 0)],[.cells [aI 1,.bool (.lit true),.bool (.lit false)] 131 ],[],.lit 0⟩)]⟩
def avT:FE:=⟨5150,138,[],[.one .bool],some (⟨2,[(0,.ptr 0 0),(1,.aQ)],[.cells [.map 1,.map 2] 166,
 .map [(.str [97],aU 0,0)] 0,
 .gY (.aK 1) 1 ],[],.lit 0⟩,[.cells [.map 1,.map 2] 166,.map [(.str [97],aU 0,0)] 0,.gY (.aK 1) 1],2),[],[],[],0,[],[],[],
 [([0,1,0,1],⟨2,[(0,.ptr 0 0),(7,.aQ),(8,aJ 0),(9,aJ 0)],[.cells [.map 1,.map 2] 166,
  .map [(.str [97],aU 0,0)] 0,
  .gY (.aK 1) 1 ],[],.lit 0⟩)]⟩
def avS:FE:=⟨5200,138,[],[.one .bool],some (⟨2,[(0,.ptr 0 0),(1,.aQ)],[.cells [.map 1,.map 2] 166,
 .map [(.str [98],.int .u8 (.lit 1),0),(.str [97],aU 0,0)] 0,
 .gY (.aK 1) 1 ],[],.lit 0⟩,[.cells [.map 1,.map 2] 166,.map [(.str [98],aU 0,0),(.str [97],aU 1,0)] 0,.gY (.aK 2) 1],3),[],[],[],0,[],[],[],
 [([0,1,0,1],⟨2,[(0,.ptr 0 0),(7,.aQ),(8,aJ 0),(9,aJ 0)],[.cells [.map 1,.map 2] 166,
  .map [(.str [98],.int .u8 (.lit 1),0),(.str [97],aU 0,0)] 0,
  .gY (.aK 1) 1 ],[],.lit 0⟩)]⟩
def avR:FE:=⟨5250,122,[],[],some (⟨3,[(0,.ptr 0 0),(1,aV 1 0 6),(2,aI 1)],[.cells [aI 2,.bool (.lit true),.bool (.lit false)] 131,
 .vec (.aK 0) 6 59 []],[],.lit 0⟩,[.cells [aI 0,.bool (.lit true),.bool (.lit false)] 131,.vec (.aK 1) 6 59 []],2),[],[],[],0,[],[],[],
 [([0,1],⟨5,[(0,.ptr 0 0),(2,aI 0),(8,aV 1 1 6),(9,aI 2),(10,aI 3)],[.cells [aI 4,.bool (.lit true),.bool (.lit false)] 131,
  .vec (.aK 1) 6 59 []],[],.lit 0⟩)]⟩
def avQ:FE:=⟨5300,138,[],[.one .bool],some (⟨4,[(0,.ptr 0 0),(1,.qO 1 (.aK 0) 6)],[.cells [.map 2,.map 3] 166,
 .vec (.aK 1) 6 59 [],
 .map [(.str [97],aU 2,0)] 0,
 .gY (.aK 3) 1 ],[],.lit 0⟩,[.cells [.map 2,.map 3] 166,.vec (.aK 0) 6 59 [],.map [(.str [97],aU 1,0)] 0,.gY (.aK 2) 1],3),[],[],[],0,[],[],[],
 [([0,1,0,1],⟨5,[(0,.ptr 0 0),(7,.qO 1 (.aK 0) 6),(8,aI 0),(9,aI 1)],[.cells [.map 2,.map 3] 166,
  .vec (.aK 2) 6 59 [],
  .map [(.str [97],aU 3,0)] 0,
  .gY (.aK 4) 1 ],[],.lit 0⟩)]⟩
def avP:FE:=⟨5350,138,[],[.one .bool],some (⟨4,[(0,.ptr 0 0),(1,.qO 1 (.aK 0) 6)],[.cells [.map 2,.map 3] 166,
 .vec (.aK 1) 6 59 [],
 .map [(.str [98],.int .u8 (.lit 1),0),(.str [97],aU 2,0)] 0,
 .gY (.aK 3) 1 ],[],.lit 0⟩,[.cells [.map 2,.map 3] 166,.vec (.aK 0) 6 59 [],.map [(.str [98],aU 1,0),(.str [97],aU 2,0)] 0,.gY (.aK 3) 1],4),[],[],[],0,[],[],[],
 [([0,1,0,1],⟨6,[(0,.ptr 0 0),(7,.qO 1 (.aK 0) 6),(8,aI 0),(9,aI 1)],[.cells [.map 2,.map 3] 166,
  .vec (.aK 2) 6 59 [],
  .map [(.str [98],aU 3,0),(.str [97],aU 4,0)] 0,
  .gY (.aK 5) 1 ],[],.lit 0⟩)]⟩
def avO:FE:=⟨5400,84,[],[.one (.int .i64)],some (⟨4,[(0,aD 0 6),(1,.func (.func 26) [] [.ptr 0 0])],[.cells [aS 1,aD 2 2,aD 3 5] 52 ],[],.lit 0⟩,[.cells [aS 0,aD 1 2,aD 2 5] 52],3),[],[],[],0,[],[],[],
 [([0,1,0,1],⟨6,[(0,aD 0 6),(1,.func (.func 26) [] [.ptr 0 0]),(7,aI 1),(8,aI 2)],[.cells [aS 3,aD 4 2,aD 5 5] 52 ],[],.lit 0⟩)]⟩
def avN:FE:=⟨5450,122,[],[],some (⟨3,[(0,.ptr 0 0),(1,aD 0 6),(2,aI 1)],[.cells [aI 2,.bool (.lit true),.bool (.lit false)] 131 ],[],.lit 0⟩,[.cells [aI 0,.bool (.lit true),.bool (.lit false)] 131],1),[],[],[],0,[],[],[],
 [([0,1],⟨5,[(0,.ptr 0 0),(2,aI 0),(8,aD 1 6),(9,aI 2),(10,aI 3)],[.cells [aI 4,.bool (.lit true),.bool (.lit false)] 131 ],[],.lit 0⟩)]⟩
def avM:FE:=⟨5500,138,[],[.one .bool],some (⟨3,[(0,.ptr 0 0),(1,aD 0 6)],[.cells [.map 1,.map 2] 166,
 .map [(.str [97],aU 1,0)] 0,
 .gY (.aK 2) 1 ],[],.lit 0⟩,[.cells [.map 1,.map 2] 166,.map [(.str [97],aU 0,0)] 0,.gY (.aK 1) 1],2),[],[],[],0,[],[],[],
 [([0,1,0,1],⟨5,[(0,.ptr 0 0),(7,aD 0 6),(8,aI 1),(9,aI 2)],[.cells [.map 1,.map 2] 166,
  .map [(.str [97],aU 3,0)] 0,
  .gY (.aK 4) 1 ],[],.lit 0⟩)]⟩
def avL:FE:=⟨5550,138,[],[.one .bool],some (⟨3,[(0,.ptr 0 0),(1,aD 0 6)],[.cells [.map 1,.map 2] 166,
 .map [(.str [98],.int .u8 (.lit 1),0),(.str [97],aU 1,0)] 0,
 .gY (.aK 2) 1 ],[],.lit 0⟩,[.cells [.map 1,.map 2] 166,.map [(.str [98],aU 0,0),(.str [97],aU 1,0)] 0,.gY (.aK 2) 1],3),[],[],[],0,[],[],[],
 [([0,1,0,1],⟨6,[(0,.ptr 0 0),(7,aD 0 6),(8,aI 1),(9,aI 2)],[.cells [.map 1,.map 2] 166,
  .map [(.str [98],aU 3,0),(.str [97],aU 4,0)] 0,
  .gY (.aK 5) 1 ],[],.lit 0⟩)]⟩
def avK:FE:=⟨5600,138,[],[.one .bool],some (⟨4,[(0,.ptr 0 0),(1,aD 0 6)],[.cells [.map 1,.map 2] 166,
 .map [(.str [98],aU 1,0),(.str [97],aU 2,0)] 0,
 .gY (.aK 3) 1 ],[],.lit 0⟩,[.cells [.map 1,.map 2] 166,.map [(.str [98],aU 0,0),(.str [97],aU 1,0)] 0,.gY (.aK 2) 1],3),[],[],[],0,[],[],[],
 [([0,1,0,1],⟨6,[(0,.ptr 0 0),(7,aD 0 6),(8,aI 1),(9,aI 2)],[.cells [.map 1,.map 2] 166,
  .map [(.str [98],aU 3,0),(.str [97],aU 4,0)] 0,
  .gY (.aK 5) 1 ],[],.lit 0⟩)]⟩
def aoQ:FE:=⟨12000,58,[],[],some (⟨13,[(0,aV 0 0 0),(1,.func (.func 59) [] [.ptr 1 0])],[.vec (.aK 0) 0 3 [],
 .cells [.ptr 2 0] 70,
 .cells [aI 1,.pX 3 6 (.aK 2) 0,aI 3,aV 3 4 7,aU 5,aI 2,aI 6,aI 7] 73,
 .vec (.aK 4) 7 47 [(.aK 2,[aI 8,aI 9,aB 10,aI 11,aV 0 0 0,aV 4 12 0])],
 .vec (.aK 12) 0 2 []],[],.lit 0⟩,[.vec (.aK 0) 0 3 [],.cells [.ptr 2 0] 70,.cells [aI 1,.pX 3 6 (.aK 2) 0,aI 3,aV 3 4 7,aU 5,aI 2,aI 6,aI 7] 73,.vec (.aK 4) 7 47 [(.aK 2,[aI 8,aI 9,aB 10,aI 11,aV 0 0 0,aV 4 12 0])],.vec (.aK 12) 0 2 []],13),[⟨13,[(0,aV 0 0 0)],[.vec (.aK 0) 0 3 [],
 .cells [.ptr 2 0] 70,
 .cells [aI 1,.pX 3 6 (.aK 2) 0,aI 3,aV 3 4 7,aU 5,aI 2,aI 6,aI 7] 73,
 .vec (.aK 4) 7 47 [(.aK 2,[aI 8,aI 9,aB 10,aI 11,aV 0 0 0,aV 4 12 0])],
 .vec (.aK 12) 0 2 []],[],.lit 0⟩,⟨16,[(0,.AL 0 (.lit 0) (.aK 13) 0)],[.vec (.aK 14) 0 3 [],
 .cells [.ptr 2 0] 70,
 .cells [aI 1,.pX 3 6 (.aK 2) 0,aI 3,aV 3 4 7,aU 5,aI 2,aI 6,aI 7] 73,
 .vec (.aK 4) 7 47 [(.aK 2,[aI 8,aI 9,aB 10,aI 11,.qO 0 (.aK 15) 0,aV 4 12 0])],
 .vec (.aK 12) 0 2 []],[],.lit 0⟩],[],[],13,[],[],[],
 [([0,1,0,1,1,1],⟨16,[(0,aV 0 13 0),(1,.func (.func 59) [] [.ptr 1 0]),(5,aI 14),(6,aI 15)],[.vec (.aK 13) 0 3 [],
  .cells [.ptr 2 0] 70,
  .cells [aI 1,.pX 3 6 (.aK 2) 0,aI 3,aV 3 4 7,aU 5,aI 2,aI 6,aI 7] 73,
  .vec (.aK 4) 7 47 [(.aK 2,[aI 8,aI 9,aB 10,aI 11,aV 0 13 0,aV 4 12 0])],
  .vec (.aK 12) 0 2 []],[],.lit 0⟩)]⟩
def aoP:FE:=⟨12050,86,[],[],some (⟨13,[(0,aV 0 0 0),(1,.func (.func 59) [] [.ptr 1 0])],[.vec (.aK 0) 0 3 [],
 .cells [.ptr 2 0] 70,
 .cells [aI 1,.pX 3 6 (.aK 2) 0,aI 3,aV 3 4 7,aU 5,aI 2,aI 6,aI 7] 73,
 .vec (.aK 4) 7 47 [(.aK 2,[aI 8,aI 9,aB 10,aI 11,aV 0 0 0,aV 4 12 0])],
 .vec (.aK 12) 0 2 []],[],.lit 0⟩,[.vec (.aK 0) 0 3 [],.cells [.ptr 2 0] 70,.cells [aI 1,.pX 3 6 (.aK 2) 0,aI 3,aV 3 4 7,aU 5,aI 2,aI 6,aI 7] 73,.vec (.aK 4) 7 47 [(.aK 2,[aI 8,aI 9,aB 10,aI 11,aV 0 0 0,aV 4 12 0])],.vec (.aK 12) 0 2 []],13),[⟨14,[(0,aI 13)],[.vec (.aK 0) 0 3 [],
 .cells [.ptr 2 0] 70,
 .cells [aI 1,.pX 3 6 (.aK 2) 0,aI 3,aV 3 4 7,aU 5,aI 2,aI 6,aI 7] 73,
 .vec (.aK 4) 7 47 [(.aK 2,[aI 8,aI 9,aB 10,aI 11,aV 0 0 0,aV 4 12 0])],
 .vec (.aK 12) 0 2 []],[],.lit 0⟩],[],[],13,[],[],[],
 [([0,1,0,1],⟨15,[(0,aV 0 0 0),(1,.func (.func 59) [] [.ptr 1 0]),(7,aI 13),(8,aI 14)],[.vec (.aK 0) 0 3 [],
  .cells [.ptr 2 0] 70,
  .cells [aI 1,.pX 3 6 (.aK 2) 0,aI 3,aV 3 4 7,aU 5,aI 2,aI 6,aI 7] 73,
  .vec (.aK 4) 7 47 [(.aK 2,[aI 8,aI 9,aB 10,aI 11,aV 0 0 0,aV 4 12 0])],
  .vec (.aK 12) 0 2 []],[],.lit 0⟩)]⟩
def aoO:FE:=⟨12100,58,[],[],some (⟨13,[(0,aV 0 0 0),(1,.func (.func 59) [] [.ptr 1 0])],[.vec (.aK 0) 0 3 [],
 .cells [.ptr 2 0] 70,
 .cells [aI 1,.pX 3 6 (.aK 2) 0,aI 3,aV 3 4 7,aU 5,aI 2,aI 6,aI 7] 73,
 .vec (.aK 4) 7 47 [(.aK 2,[aI 8,aI 9,aB 10,aI 11,aV 0 0 0,aE 12 0])]],[],.lit 0⟩,[.vec (.aK 0) 0 3 [],.cells [.ptr 2 0] 70,.cells [aI 1,.pX 3 6 (.aK 2) 0,aI 3,aV 3 4 7,aU 5,aI 2,aI 6,aI 7] 73,.vec (.aK 4) 7 47 [(.aK 2,[aI 8,aI 9,aB 10,aI 11,aV 0 0 0,aE 12 0])]],13),[⟨13,[(0,aV 0 0 0)],[.vec (.aK 0) 0 3 [],
 .cells [.ptr 2 0] 70,
 .cells [aI 1,.pX 3 6 (.aK 2) 0,aI 3,aV 3 4 7,aU 5,aI 2,aI 6,aI 7] 73,
 .vec (.aK 4) 7 47 [(.aK 2,[aI 8,aI 9,aB 10,aI 11,aV 0 0 0,aE 12 0])]],[],.lit 0⟩,⟨16,[(0,.AL 0 (.lit 0) (.aK 13) 0)],[.vec (.aK 14) 0 3 [],
 .cells [.ptr 2 0] 70,
 .cells [aI 1,.pX 3 6 (.aK 2) 0,aI 3,aV 3 4 7,aU 5,aI 2,aI 6,aI 7] 73,
 .vec (.aK 4) 7 47 [(.aK 2,[aI 8,aI 9,aB 10,aI 11,.qO 0 (.aK 15) 0,aE 12 0])]],[],.lit 0⟩],[],[],13,[],[],[],
 [([0,1,0,1,1,1],⟨16,[(0,aV 0 13 0),(1,.func (.func 59) [] [.ptr 1 0]),(5,aI 14),(6,aI 15)],[.vec (.aK 13) 0 3 [],
  .cells [.ptr 2 0] 70,
  .cells [aI 1,.pX 3 6 (.aK 2) 0,aI 3,aV 3 4 7,aU 5,aI 2,aI 6,aI 7] 73,
  .vec (.aK 4) 7 47 [(.aK 2,[aI 8,aI 9,aB 10,aI 11,aV 0 13 0,aE 12 0])]],[],.lit 0⟩)]⟩
def aoN:FE:=⟨12150,86,[],[],some (⟨13,[(0,aV 0 0 0),(1,.func (.func 59) [] [.ptr 1 0])],[.vec (.aK 0) 0 3 [],
 .cells [.ptr 2 0] 70,
 .cells [aI 1,.pX 3 6 (.aK 2) 0,aI 3,aV 3 4 7,aU 5,aI 2,aI 6,aI 7] 73,
 .vec (.aK 4) 7 47 [(.aK 2,[aI 8,aI 9,aB 10,aI 11,aV 0 0 0,aE 12 0])]],[],.lit 0⟩,[.vec (.aK 0) 0 3 [],.cells [.ptr 2 0] 70,.cells [aI 1,.pX 3 6 (.aK 2) 0,aI 3,aV 3 4 7,aU 5,aI 2,aI 6,aI 7] 73,.vec (.aK 4) 7 47 [(.aK 2,[aI 8,aI 9,aB 10,aI 11,aV 0 0 0,aE 12 0])]],13),[⟨14,[(0,aI 13)],[.vec (.aK 0) 0 3 [],
 .cells [.ptr 2 0] 70,
 .cells [aI 1,.pX 3 6 (.aK 2) 0,aI 3,aV 3 4 7,aU 5,aI 2,aI 6,aI 7] 73,
 .vec (.aK 4) 7 47 [(.aK 2,[aI 8,aI 9,aB 10,aI 11,aV 0 0 0,aE 12 0])]],[],.lit 0⟩],[],[],13,[],[],[],
 [([0,1,0,1],⟨15,[(0,aV 0 0 0),(1,.func (.func 59) [] [.ptr 1 0]),(7,aI 13),(8,aI 14)],[.vec (.aK 0) 0 3 [],
  .cells [.ptr 2 0] 70,
  .cells [aI 1,.pX 3 6 (.aK 2) 0,aI 3,aV 3 4 7,aU 5,aI 2,aI 6,aI 7] 73,
  .vec (.aK 4) 7 47 [(.aK 2,[aI 8,aI 9,aB 10,aI 11,aV 0 0 0,aE 12 0])]],[],.lit 0⟩)]⟩
def aoM:FE:=⟨12200,58,[],[],some (⟨13,[(0,aE 0 0),(1,.func (.func 59) [] [.ptr 0 0])],[.cells [.ptr 1 0] 70,
 .cells [aI 1,.pX 2 6 (.aK 2) 0,aI 3,aV 2 4 7,aU 5,aI 2,aI 6,aI 7] 73,
 .vec (.aK 4) 7 47 [(.aK 2,[aI 8,aI 9,aB 10,aI 11,aE 0 0,aV 3 12 0])],
 .vec (.aK 12) 0 2 []],[],.lit 0⟩,[.cells [.ptr 1 0] 70,.cells [aI 1,.pX 2 6 (.aK 2) 0,aI 3,aV 2 4 7,aU 5,aI 2,aI 6,aI 7] 73,.vec (.aK 4) 7 47 [(.aK 2,[aI 8,aI 9,aB 10,aI 11,aE 0 0,aV 3 12 0])],.vec (.aK 12) 0 2 []],13),[⟨13,[(0,aE 0 0)],[.cells [.ptr 1 0] 70,
 .cells [aI 1,.pX 2 6 (.aK 2) 0,aI 3,aV 2 4 7,aU 5,aI 2,aI 6,aI 7] 73,
 .vec (.aK 4) 7 47 [(.aK 2,[aI 8,aI 9,aB 10,aI 11,aE 0 0,aV 3 12 0])],
 .vec (.aK 12) 0 2 []],[],.lit 0⟩],[],[],13,[],[],[],
 []⟩
def aoL:FE:=⟨12250,86,[],[],some (⟨13,[(0,aE 0 0),(1,.func (.func 59) [] [.ptr 0 0])],[.cells [.ptr 1 0] 70,
 .cells [aI 1,.pX 2 6 (.aK 2) 0,aI 3,aV 2 4 7,aU 5,aI 2,aI 6,aI 7] 73,
 .vec (.aK 4) 7 47 [(.aK 2,[aI 8,aI 9,aB 10,aI 11,aE 0 0,aV 3 12 0])],
 .vec (.aK 12) 0 2 []],[],.lit 0⟩,[.cells [.ptr 1 0] 70,.cells [aI 1,.pX 2 6 (.aK 2) 0,aI 3,aV 2 4 7,aU 5,aI 2,aI 6,aI 7] 73,.vec (.aK 4) 7 47 [(.aK 2,[aI 8,aI 9,aB 10,aI 11,aE 0 0,aV 3 12 0])],.vec (.aK 12) 0 2 []],13),[⟨13,[(0,aJ (-1))],[.cells [.ptr 1 0] 70,
 .cells [aI 1,.pX 2 6 (.aK 2) 0,aI 3,aV 2 4 7,aU 5,aI 2,aI 6,aI 7] 73,
 .vec (.aK 4) 7 47 [(.aK 2,[aI 8,aI 9,aB 10,aI 11,aE 0 0,aV 3 12 0])],
 .vec (.aK 12) 0 2 []],[],.lit 0⟩],[],[],13,[],[],[],
 [([0,1,0,1],⟨13,[(0,aE 0 0),(1,.func (.func 59) [] [.ptr 0 0]),(7,aJ 0),(8,aJ 0)],[.cells [.ptr 1 0] 70,
  .cells [aI 1,.pX 2 6 (.aK 2) 0,aI 3,aV 2 4 7,aU 5,aI 2,aI 6,aI 7] 73,
  .vec (.aK 4) 7 47 [(.aK 2,[aI 8,aI 9,aB 10,aI 11,aE 0 0,aV 3 12 0])],
  .vec (.aK 12) 0 2 []],[],.lit 0⟩)]⟩
def aoK:FE:=⟨12300,58,[],[],some (⟨13,[(0,aE 0 0),(1,.func (.func 59) [] [.ptr 0 0])],[.cells [.ptr 1 0] 70,
 .cells [aI 1,.pX 2 6 (.aK 2) 0,aI 3,aV 2 4 7,aU 5,aI 2,aI 6,aI 7] 73,
 .vec (.aK 4) 7 47 [(.aK 2,[aI 8,aI 9,aB 10,aI 11,aE 0 0,aE 12 0])]],[],.lit 0⟩,[.cells [.ptr 1 0] 70,.cells [aI 1,.pX 2 6 (.aK 2) 0,aI 3,aV 2 4 7,aU 5,aI 2,aI 6,aI 7] 73,.vec (.aK 4) 7 47 [(.aK 2,[aI 8,aI 9,aB 10,aI 11,aE 0 0,aE 12 0])]],13),[⟨13,[(0,aE 0 0)],[.cells [.ptr 1 0] 70,
 .cells [aI 1,.pX 2 6 (.aK 2) 0,aI 3,aV 2 4 7,aU 5,aI 2,aI 6,aI 7] 73,
 .vec (.aK 4) 7 47 [(.aK 2,[aI 8,aI 9,aB 10,aI 11,aE 0 0,aE 12 0])]],[],.lit 0⟩],[],[],13,[],[],[],
 []⟩
def aoJ:FE:=⟨12350,86,[],[],some (⟨13,[(0,aE 0 0),(1,.func (.func 59) [] [.ptr 0 0])],[.cells [.ptr 1 0] 70,
 .cells [aI 1,.pX 2 6 (.aK 2) 0,aI 3,aV 2 4 7,aU 5,aI 2,aI 6,aI 7] 73,
 .vec (.aK 4) 7 47 [(.aK 2,[aI 8,aI 9,aB 10,aI 11,aE 0 0,aE 12 0])]],[],.lit 0⟩,[.cells [.ptr 1 0] 70,.cells [aI 1,.pX 2 6 (.aK 2) 0,aI 3,aV 2 4 7,aU 5,aI 2,aI 6,aI 7] 73,.vec (.aK 4) 7 47 [(.aK 2,[aI 8,aI 9,aB 10,aI 11,aE 0 0,aE 12 0])]],13),[⟨13,[(0,aJ (-1))],[.cells [.ptr 1 0] 70,
 .cells [aI 1,.pX 2 6 (.aK 2) 0,aI 3,aV 2 4 7,aU 5,aI 2,aI 6,aI 7] 73,
 .vec (.aK 4) 7 47 [(.aK 2,[aI 8,aI 9,aB 10,aI 11,aE 0 0,aE 12 0])]],[],.lit 0⟩],[],[],13,[],[],[],
 [([0,1,0,1],⟨13,[(0,aE 0 0),(1,.func (.func 59) [] [.ptr 0 0]),(7,aJ 0),(8,aJ 0)],[.cells [.ptr 1 0] 70,
  .cells [aI 1,.pX 2 6 (.aK 2) 0,aI 3,aV 2 4 7,aU 5,aI 2,aI 6,aI 7] 73,
  .vec (.aK 4) 7 47 [(.aK 2,[aI 8,aI 9,aB 10,aI 11,aE 0 0,aE 12 0])]],[],.lit 0⟩)]⟩
def aoI:FE:=⟨12400,99,[],[],some (⟨7,[(0,.agg [.slice 0 0 1 (.exact 1),.slice 1 0 1 (.exact 1)])],[.cells [aU 0,.str [97],aI 1,.str [],aI 2] 67,
 .cells [.str [97],.slice 2 0 1 (.exact 1),aI 3] 125,
 .cells [.int .u8 (.lit 1),aU 4,.str [97],.str [],aI 5,.aQ,.aQ,.aQ,aI 6] 158 ],[],.lit 0⟩,[.cells [aU 0,.str [97],aI 1,.str [],aI 2] 67,.cells [.str [97],.slice 2 0 1 (.exact 1),aI 3] 125,.cells [.int .u8 (.lit 1),aU 4,.str [97],.str [],aI 5,.aQ,.aQ,.aQ,aI 6] 158],7),[⟨7,[(0,.bool (.lit false))],[.cells [aU 0,.str [97],aI 1,.str [],aI 2] 67,
 .cells [.str [97],.slice 2 0 1 (.exact 1),aI 3] 125,
 .cells [.int .u8 (.lit 1),aU 4,.str [97],.str [],aI 5,.aQ,.aQ,.aQ,aI 6] 158 ],[],.lit 0⟩,⟨7,[(0,.bool (.lit true))],[.cells [aU 0,.str [97],aI 1,.str [],aI 2] 67,
 .cells [.str [97],.slice 2 0 1 (.exact 1),aI 3] 125,
 .cells [.int .u8 (.lit 1),aU 4,.str [97],.str [],aI 5,.aQ,.aQ,.aQ,aI 6] 158 ],[],.lit 0⟩],[],[],7,[],[],[],
 []⟩
def aoH:FE:=⟨12450,99,[],[],some (⟨9,[(0,.agg [.slice 0 0 2 (.exact 2),.slice 1 0 1 (.exact 1)])],[.cells [.int .u8 (.lit 1),.str [98],aI 0,.str [],aI 1,aU 2,.str [97],aI 3,.str [98],aI 4] 67,
 .cells [.str [97],.slice 2 0 1 (.exact 1),aI 5] 125,
 .cells [.int .u8 (.lit 1),aU 6,.str [97],.str [],aI 7,.aQ,.aQ,.aQ,aI 8] 158 ],[],.lit 0⟩,[.cells [.int .u8 (.lit 1),.str [98],aI 0,.str [],aI 1,aU 2,.str [97],aI 3,.str [98],aI 4] 67,.cells [.str [97],.slice 2 0 1 (.exact 1),aI 5] 125,.cells [.int .u8 (.lit 1),aU 6,.str [97],.str [],aI 7,.aQ,.aQ,.aQ,aI 8] 158],9),[⟨9,[(0,.bool (.lit false))],[.cells [.int .u8 (.lit 1),.str [98],aI 0,.str [],aI 1,aU 2,.str [97],aI 3,.str [98],aI 4] 67,
 .cells [.str [97],.slice 2 0 1 (.exact 1),aI 5] 125,
 .cells [.int .u8 (.lit 1),aU 6,.str [97],.str [],aI 7,.aQ,.aQ,.aQ,aI 8] 158 ],[],.lit 0⟩,⟨9,[(0,.bool (.lit true))],[.cells [.int .u8 (.lit 1),.str [98],aI 0,.str [],aI 1,aU 2,.str [97],aI 3,.str [98],aI 4] 67,
 .cells [.str [97],.slice 2 0 1 (.exact 1),aI 5] 125,
 .cells [.int .u8 (.lit 1),aU 6,.str [97],.str [],aI 7,.aQ,.aQ,.aQ,aI 8] 158 ],[],.lit 0⟩],[],[],9,[],[],[],
 []⟩
def aoG:FE:=⟨12500,99,[],[],some (⟨7,[(0,.agg [.slice 0 0 1 (.exact 1),.slice 1 0 1 (.exact 1)])],[.cells [aU 0,.str [97],aI 1,.str [],aI 2] 67,
 .cells [.str [97],.slice 2 0 1 (.exact 1),aI 3] 125,
 .cells [.int .u8 (.lit 1),aU 4,.str [97],.str [97],aI 5,.aQ,.aQ,.aQ,aI 6] 158 ],[],.lit 0⟩,[.cells [aU 0,.str [97],aI 1,.str [],aI 2] 67,.cells [.str [97],.slice 2 0 1 (.exact 1),aI 3] 125,.cells [.int .u8 (.lit 1),aU 4,.str [97],.str [97],aI 5,.aQ,.aQ,.aQ,aI 6] 158],7),[⟨7,[(0,.bool (.lit false))],[.cells [aU 0,.str [97],aI 1,.str [],aI 2] 67,
 .cells [.str [97],.slice 2 0 1 (.exact 1),aI 3] 125,
 .cells [.int .u8 (.lit 1),aU 4,.str [97],.str [97],aI 5,.aQ,.aQ,.aQ,aI 6] 158 ],[],.lit 0⟩,⟨7,[(0,.bool (.lit true))],[.cells [aU 0,.str [97],aI 1,.str [],aI 2] 67,
 .cells [.str [97],.slice 2 0 1 (.exact 1),aI 3] 125,
 .cells [.int .u8 (.lit 1),aU 4,.str [97],.str [97],aI 5,.aQ,.aQ,.aQ,aI 6] 158 ],[],.lit 0⟩],[],[],7,[],[],[],
 []⟩
def aoF:FE:=⟨12550,99,[],[],some (⟨9,[(0,.agg [.slice 0 0 2 (.exact 2),.slice 1 0 1 (.exact 1)])],[.cells [.int .u8 (.lit 1),.str [98],aI 0,.str [],aI 1,aU 2,.str [97],aI 3,.str [98],aI 4] 67,
 .cells [.str [97],.slice 2 0 1 (.exact 1),aI 5] 125,
 .cells [.int .u8 (.lit 1),aU 6,.str [97],.str [97],aI 7,.aQ,.aQ,.aQ,aI 8] 158 ],[],.lit 0⟩,[.cells [.int .u8 (.lit 1),.str [98],aI 0,.str [],aI 1,aU 2,.str [97],aI 3,.str [98],aI 4] 67,.cells [.str [97],.slice 2 0 1 (.exact 1),aI 5] 125,.cells [.int .u8 (.lit 1),aU 6,.str [97],.str [97],aI 7,.aQ,.aQ,.aQ,aI 8] 158],9),[⟨9,[(0,.bool (.lit false))],[.cells [.int .u8 (.lit 1),.str [98],aI 0,.str [],aI 1,aU 2,.str [97],aI 3,.str [98],aI 4] 67,
 .cells [.str [97],.slice 2 0 1 (.exact 1),aI 5] 125,
 .cells [.int .u8 (.lit 1),aU 6,.str [97],.str [97],aI 7,.aQ,.aQ,.aQ,aI 8] 158 ],[],.lit 0⟩,⟨9,[(0,.bool (.lit true))],[.cells [.int .u8 (.lit 1),.str [98],aI 0,.str [],aI 1,aU 2,.str [97],aI 3,.str [98],aI 4] 67,
 .cells [.str [97],.slice 2 0 1 (.exact 1),aI 5] 125,
 .cells [.int .u8 (.lit 1),aU 6,.str [97],.str [97],aI 7,.aQ,.aQ,.aQ,aI 8] 158 ],[],.lit 0⟩],[],[],9,[],[],[],
 []⟩
def aoE:FE:=⟨12600,99,[],[],some (⟨8,[(0,.agg [.slice 0 0 1 (.exact 1),.slice 1 0 1 (.exact 1)])],[.cells [aU 0,.str [97],aI 1,.str [],aI 2] 67,
 .cells [.str [97],.slice 2 0 1 (.exact 1),aI 3] 125,
 .cells [.int .u8 (.lit 1),aU 4,.str [97],.str [],aI 5,aV 3 6 6,.aQ,.aQ,aI 7] 158,
 .vec (.aK 6) 6 59 []],[],.lit 0⟩,[.cells [aU 0,.str [97],aI 1,.str [],aI 2] 67,.cells [.str [97],.slice 2 0 1 (.exact 1),aI 3] 125,.cells [.int .u8 (.lit 1),aU 4,.str [97],.str [],aI 5,aV 3 6 6,.aQ,.aQ,aI 7] 158,.vec (.aK 6) 6 59 []],8),[⟨8,[(0,.bool (.lit false))],[.cells [aU 0,.str [97],aI 1,.str [],aI 2] 67,
 .cells [.str [97],.slice 2 0 1 (.exact 1),aI 3] 125,
 .cells [.int .u8 (.lit 1),aU 4,.str [97],.str [],aI 5,aV 3 6 6,.aQ,.aQ,aI 7] 158,
 .vec (.aK 6) 6 59 []],[],.lit 0⟩,⟨10,[(0,.bool (.lit true))],[.cells [aU 0,.str [97],aI 1,.str [],aI 2] 67,
 .cells [.str [97],.slice 2 0 1 (.exact 1),aI 3] 125,
 .cells [.int .u8 (.lit 1),aU 4,.str [97],.str [],aI 5,.qO 3 (.aK 8) 6,.aQ,.aQ,aI 7] 158,
 .vec (.aK 9) 6 59 []],[],.lit 0⟩],[],[],8,[],[],[],
 []⟩
def aoD:FE:=⟨12650,99,[],[],some (⟨10,[(0,.agg [.slice 0 0 2 (.exact 2),.slice 1 0 1 (.exact 1)])],[.cells [.int .u8 (.lit 1),.str [98],aI 0,.str [],aI 1,aU 2,.str [97],aI 3,.str [98],aI 4] 67,
 .cells [.str [97],.slice 2 0 1 (.exact 1),aI 5] 125,
 .cells [.int .u8 (.lit 1),aU 6,.str [97],.str [],aI 7,aV 3 8 6,.aQ,.aQ,aI 9] 158,
 .vec (.aK 8) 6 59 []],[],.lit 0⟩,[.cells [.int .u8 (.lit 1),.str [98],aI 0,.str [],aI 1,aU 2,.str [97],aI 3,.str [98],aI 4] 67,.cells [.str [97],.slice 2 0 1 (.exact 1),aI 5] 125,.cells [.int .u8 (.lit 1),aU 6,.str [97],.str [],aI 7,aV 3 8 6,.aQ,.aQ,aI 9] 158,.vec (.aK 8) 6 59 []],10),[⟨10,[(0,.bool (.lit false))],[.cells [.int .u8 (.lit 1),.str [98],aI 0,.str [],aI 1,aU 2,.str [97],aI 3,.str [98],aI 4] 67,
 .cells [.str [97],.slice 2 0 1 (.exact 1),aI 5] 125,
 .cells [.int .u8 (.lit 1),aU 6,.str [97],.str [],aI 7,aV 3 8 6,.aQ,.aQ,aI 9] 158,
 .vec (.aK 8) 6 59 []],[],.lit 0⟩,⟨12,[(0,.bool (.lit true))],[.cells [.int .u8 (.lit 1),.str [98],aI 0,.str [],aI 1,aU 2,.str [97],aI 3,.str [98],aI 4] 67,
 .cells [.str [97],.slice 2 0 1 (.exact 1),aI 5] 125,
 .cells [.int .u8 (.lit 1),aU 6,.str [97],.str [],aI 7,.qO 3 (.aK 10) 6,.aQ,.aQ,aI 9] 158,
 .vec (.aK 11) 6 59 []],[],.lit 0⟩],[],[],10,[],[],[],
 []⟩
def aoC:FE:=⟨12700,99,[],[],some (⟨8,[(0,.agg [.slice 0 0 1 (.exact 1),.slice 1 0 1 (.exact 1)])],[.cells [aU 0,.str [97],aI 1,.str [],aI 2] 67,
 .cells [.str [97],.slice 2 0 1 (.exact 1),aI 3] 125,
 .cells [.int .u8 (.lit 1),aU 4,.str [97],.str [97],aI 5,aV 3 6 6,.aQ,.aQ,aI 7] 158,
 .vec (.aK 6) 6 59 []],[],.lit 0⟩,[.cells [aU 0,.str [97],aI 1,.str [],aI 2] 67,.cells [.str [97],.slice 2 0 1 (.exact 1),aI 3] 125,.cells [.int .u8 (.lit 1),aU 4,.str [97],.str [97],aI 5,aV 3 6 6,.aQ,.aQ,aI 7] 158,.vec (.aK 6) 6 59 []],8),[⟨8,[(0,.bool (.lit false))],[.cells [aU 0,.str [97],aI 1,.str [],aI 2] 67,
 .cells [.str [97],.slice 2 0 1 (.exact 1),aI 3] 125,
 .cells [.int .u8 (.lit 1),aU 4,.str [97],.str [97],aI 5,aV 3 6 6,.aQ,.aQ,aI 7] 158,
 .vec (.aK 6) 6 59 []],[],.lit 0⟩,⟨10,[(0,.bool (.lit true))],[.cells [aU 0,.str [97],aI 1,.str [],aI 2] 67,
 .cells [.str [97],.slice 2 0 1 (.exact 1),aI 3] 125,
 .cells [.int .u8 (.lit 1),aU 4,.str [97],.str [97],aI 5,.qO 3 (.aK 8) 6,.aQ,.aQ,aI 7] 158,
 .vec (.aK 9) 6 59 []],[],.lit 0⟩],[],[],8,[],[],[],
 []⟩
def aoB:FE:=⟨12750,99,[],[],some (⟨10,[(0,.agg [.slice 0 0 2 (.exact 2),.slice 1 0 1 (.exact 1)])],[.cells [.int .u8 (.lit 1),.str [98],aI 0,.str [],aI 1,aU 2,.str [97],aI 3,.str [98],aI 4] 67,
 .cells [.str [97],.slice 2 0 1 (.exact 1),aI 5] 125,
 .cells [.int .u8 (.lit 1),aU 6,.str [97],.str [97],aI 7,aV 3 8 6,.aQ,.aQ,aI 9] 158,
 .vec (.aK 8) 6 59 []],[],.lit 0⟩,[.cells [.int .u8 (.lit 1),.str [98],aI 0,.str [],aI 1,aU 2,.str [97],aI 3,.str [98],aI 4] 67,.cells [.str [97],.slice 2 0 1 (.exact 1),aI 5] 125,.cells [.int .u8 (.lit 1),aU 6,.str [97],.str [97],aI 7,aV 3 8 6,.aQ,.aQ,aI 9] 158,.vec (.aK 8) 6 59 []],10),[⟨10,[(0,.bool (.lit false))],[.cells [.int .u8 (.lit 1),.str [98],aI 0,.str [],aI 1,aU 2,.str [97],aI 3,.str [98],aI 4] 67,
 .cells [.str [97],.slice 2 0 1 (.exact 1),aI 5] 125,
 .cells [.int .u8 (.lit 1),aU 6,.str [97],.str [97],aI 7,aV 3 8 6,.aQ,.aQ,aI 9] 158,
 .vec (.aK 8) 6 59 []],[],.lit 0⟩,⟨12,[(0,.bool (.lit true))],[.cells [.int .u8 (.lit 1),.str [98],aI 0,.str [],aI 1,aU 2,.str [97],aI 3,.str [98],aI 4] 67,
 .cells [.str [97],.slice 2 0 1 (.exact 1),aI 5] 125,
 .cells [.int .u8 (.lit 1),aU 6,.str [97],.str [97],aI 7,.qO 3 (.aK 10) 6,.aQ,.aQ,aI 9] 158,
 .vec (.aK 11) 6 59 []],[],.lit 0⟩],[],[],10,[],[],[],
 []⟩
def aoA:FE:=⟨12800,109,[],[],some (⟨2,[(0,.ptr 0 0),(1,aS 0),(2,aI 1)],[.cells (u8L cT0) 175 ],[],.lit 0⟩,[.cells (u8L cT0) 175],2),[⟨3,[(0,aI 2)],[.cells (u8L cT0) 175 ],[],.lit 0⟩],[],[],2,[],[],[],
 [([0,0,1,0,1],⟨3,[(0,.ptr 0 0),(1,aS 0),(2,aI 2)],[.cells (u8L cT0) 175 ],[],.lit 0⟩)]⟩
def anZ:FE:=⟨12850,111,[],[],some (⟨2,[(0,.ptr 0 0),(1,aS 0),(2,aI 1)],[.cells (u8L cT0) 175 ],[],.lit 0⟩,[.cells (u8L cT0) 175],2),[⟨3,[(0,aI 2)],[.cells (u8L cT0) 175 ],[],.lit 0⟩],[],[],2,[],[],[],
 [([0,0,1,1,1,1],⟨4,[(0,.ptr 0 0),(1,aS 0),(7,aU 2),(8,aI 3)],[.cells (u8L cT0) 175 ],[],.lit 0⟩)]⟩
def anY:FE:=⟨12900,99,[],[],some (⟨2,[(0,.agg [.aQ,.slice 0 0 1 (.exact 1)])],[.cells [aS 0,.aQ,aI 1] 125 ],[],.lit 0⟩,[.cells [aS 0,.aQ,aI 1] 125],2),[⟨2,[(0,.bool (.lit false))],[.cells [aS 0,.aQ,aI 1] 125 ],[],.lit 0⟩,⟨2,[(0,.bool (.lit true))],[.cells [aS 0,.aQ,aI 1] 125 ],[],.lit 0⟩],[],[],2,[],[],[],
 []⟩
def feT:Tr FE:=(nO (nS aAM (nS aAT (nS aAP (nS aAG (nO (nO (nO (nL aoB) .nil) .nil) .nil) (nO .nil (nL avL))) (nS awE (nO .nil (nL avT)) (nO .nil (nO .nil (nL aoJ))))) (nS aAK (nS aAC .nil (nO .nil (nO .nil (nL aoN)))) (nS avY (nO .nil (nL avP)) (nO .nil (nO .nil (nL aoF)))))) (nS aAR (nS aAN (nS aAE (nO (nO (nO (nL anZ) .nil) .nil) .nil) (nO .nil (nO .nil (nL aoP)))) (nS awC (nO .nil (nL avR)) (nO .nil (nO .nil (nL aoH))))) (nS aAI (nS awG (nO .nil (nL avV)) (nO .nil (nO .nil (nL aoL)))) (nO (nO .nil (nL avN)) (nO .nil (nO .nil (nL aoD))))))) (nS aAU (nS aAS (nS aAO (nS aAF (nO (nO (nO (nL aoA) .nil) .nil) .nil) (nO .nil (nS avK .nil (nL aoQ)))) (nS awD (nO .nil (nL avS)) (nO .nil (nO .nil (nL aoI))))) (nS aAJ (nS awH (nO .nil (nL avW)) (nO .nil (nO (nL avJ) (nL aoM)))) (nS avX (nO .nil (nL avO)) (nO .nil (nO .nil (nL aoE)))))) (nS aAQ (nS aAL (nS aAD (nO (nO (nO (nL anY) .nil) .nil) .nil) (nO .nil (nO .nil (nL aoO)))) (nS avZ (nO .nil (nL avQ)) (nO .nil (nO .nil (nL aoG))))) (nS aAH (nS awF (nO .nil (nL avU)) (nO .nil (nO .nil (nL aoK)))) (nO (nO .nil (nL avM)) (nO .nil (nO .nil (nL aoC))))))))
def auJ:Tr (List Nat):=(nO (nO (nS [50] (nS [400] (nS [600] (nO (nL [900]) .nil) (nO .nil (nL [12850]))) (nL [700])) (nO (nS [500] (nO (nO (nL [1250]) .nil) (nL [12400,12450,12500,12550,12600,12650,12700,12750,12900])) (nO (nL [950]) .nil)) (nS [800] (nL [850]) (nO (nL [1350]) .nil)))) (nO (nS [200] (nO (nO .nil (nL [1000])) .nil) (nS [5000] (nO (nO (nL [1200]) .nil) .nil) .nil)) (nS [450] (nO .nil (nO (nL [5050]) .nil)) (nO (nO .nil (nL [12800])) .nil)))) (nO (nS [100] (nS [350] (nO (nO .nil (nL [1400])) (nO .nil (nL [1100]))) (nS [750] (nO (nO (nL [1150]) .nil) .nil) (nO (nL [1050]) .nil))) (nO (nS [250] (nO (nO (nL [1300]) .nil) .nil) (nO (nL [5400]) .nil)) .nil)) (nS [300] (nS [150] .nil (nO (nO (nO (nL [5150,5200,5300,5350,5500,5550,5600]) .nil) .nil) (nS [12000,12100,12200,12300] .nil (nL [5100,5250,5450])))) (nS [9000,550] (nO (nO (nL [650]) .nil) (nO (nL [12050,12150,12250,12350]) .nil)) .nil))))
noncomputable def St:adK:=⟨Tryz.prog,base,ttE,ft,UC ttE hints,QU ttE hints,X6,lim 259 feT,fun g=>(lim 139 auJ g).getD []⟩
noncomputable def S:Sys:=St.sys
theorem aAB:(List.range 259).all (fun k=>match feT.get k with |some f=>aiF ft k f|none=>true)=true:=by kernel_rfl
theorem auI:(List.range 139).all (fun g=>Vt ft (lim 259 feT) g ((auJ.get g).getD []))=true:=by kernel_rfl
theorem atV:Oh S:=by
 refine amD aeE avG (fun I call hc=>@GU _ I _ aeE mixed _ _ hc) acJ (fun k f hf=>?_) fun g=>?_
 ·have hf':lim 259 feT k=some f:=hf;unfold lim at hf';split at hf'
  ·simp at hf'
  ·rename_i hle
   have hlt:k<259:=by
    rcases aCZ k 259 with h|h
    ·exact h
    ·rw [aEf h] at hle; simp at hle
   have:=aC0.1 aAB k (aDv.2 hlt);rw [hf'] at this;exact this
 ·show Vt ft (lim 259 feT) g ((lim 139 auJ g).getD [])=true;unfold lim;split
  ·rfl
  ·rename_i hle
   have hlt:g<139:=by
    rcases aCZ g 139 with h|h
    ·exact h
    ·rw [aEf h] at hle; simp at hle
   exact aC0.1 auI g (aDv.2 hlt)
end Go.As.Try
end
section
namespace Go.As.Try
open Go hiding Stat Spec shape
open Go.As Go.Proofs
set_option maxRecDepth 100000
noncomputable section
def b0:D:=.p (.i 0) (.p (.i 0) (.p (.i 0) (.p (.i 0) (.p (.i 0) (.p (.i 0) (.p (.i 0) (.p (.i 0) (.p (.i 0) (.p (.i 1) (.p (.i 1) (.p (.i 0) (.p (.i 0) (.p (.i 1) (.p (.i 0) (.p (.i 0) (.p (.i 0) (.p (.i 0) (.p (.i 0) (.p (.i 0) (.p (.i 0) (.p (.i 0) (.p (.i 0) (.p (.i 0) (.p (.i 0) (.p (.i 0) (.p (.i 0) (.p (.i 0) (.p (.i 0) (.p (.i 0) (.p (.i 0) (.p (.i 0) (.p (.i 1) (.p (.i 0) (.p (.i 0) (.p (.i 2) (.p (.i 0) (.p (.i 0) (.p (.i 0) (.p (.i 0) (.p (.i 5) (.p (.i 5) (.p (.i 5) (.p (.i 5) (.p (.i 0) (.p (.i 5) (.p (.i 0) (.p (.i 0) (.p (.i 3) (.p (.i 3) (.p (.i 3) (.p (.i 3) (.p (.i 3) (.p (.i 3) (.p (.i 3) (.p (.i 3) (.p (.i 3) (.p (.i 3) (.p (.i 0) (.p (.i 5) (.p (.i 5) (.p (.i 5) (.p (.i 0) (.p (.i 0) (.p (.i 0) (.p (.i 4) (.p (.i 4) (.p (.i 4) (.p (.i 4) (.p (.i 4) (.p (.i 4) (.p (.i 4) (.p (.i 4) (.p (.i 4) (.p (.i 4) (.p (.i 4) (.p (.i 4) (.p (.i 4) (.p (.i 4) (.p (.i 4) (.p (.i 4) (.p (.i 4) (.p (.i 4) (.p (.i 4) (.p (.i 4) (.p (.i 4) (.p (.i 4) (.p (.i 4) (.p (.i 4) (.p (.i 4) (.p (.i 4) (.p (.i 0) (.p (.i 0) (.p (.i 0) (.p (.i 0) (.p (.i 4) (.p (.i 0) (.p (.i 4) (.p (.i 4) (.p (.i 4) (.p (.i 4) (.p (.i 4) (.p (.i 4) (.p (.i 4) (.p (.i 4) (.p (.i 4) (.p (.i 4) (.p (.i 4) (.p (.i 4) (.p (.i 4) (.p (.i 4) (.p (.i 4) (.p (.i 4) (.p (.i 4) (.p (.i 4) (.p (.i 4) (.p (.i 4) (.p (.i 4) (.p (.i 4) (.p (.i 4) (.p (.i 4) (.p (.i 4) (.p (.i 4) (.p (.i 5) (.p (.i 0) (.p (.i 5) (.p (.i 0) (.p (.i 0) (.p (.i 0) (.p (.i 0) (.p (.i 0) (.p (.i 0) (.p (.i 0) (.p (.i 0) (.p (.i 0) (.p (.i 0) (.p (.i 0) (.p (.i 0) (.p (.i 0) (.p (.i 0) (.p (.i 0) (.p (.i 0) (.p (.i 0) (.p (.i 0) (.p (.i 0) (.p (.i 0) (.p (.i 0) (.p (.i 0) (.p (.i 0) (.p (.i 0) (.p (.i 0) (.p (.i 0) (.p (.i 0) (.p (.i 0) (.p (.i 0) (.p (.i 0) (.p (.i 0) (.p (.i 0) (.p (.i 0) (.p (.i 0) (.p (.i 0) (.p (.i 0) (.p (.i 0) (.p (.i 0) (.p (.i 0) (.p (.i 0) (.p (.i 0) (.p (.i 0) (.p (.i 0) (.p (.i 0) (.p (.i 0) (.p (.i 0) (.p (.i 0) (.p (.i 0) (.p (.i 0) (.p (.i 0) (.p (.i 0) (.p (.i 0) (.p (.i 0) (.p (.i 0) (.p (.i 0) (.p (.i 0) (.p (.i 0) (.p (.i 0) (.p (.i 0) (.p (.i 0) (.p (.i 0) (.p (.i 0) (.p (.i 0) (.p (.i 0) (.p (.i 0) (.p (.i 0) (.p (.i 0) (.p (.i 0) (.p (.i 0) (.p (.i 0) (.p (.i 0) (.p (.i 0) (.p (.i 0) (.p (.i 0) (.p (.i 0) (.p (.i 0) (.p (.i 0) (.p (.i 0) (.p (.i 0) (.p (.i 0) (.p (.i 0) (.p (.i 0) (.p (.i 0) (.p (.i 0) (.p (.i 0) (.p (.i 0) (.p (.i 0) (.p (.i 0) (.p (.i 0) (.p (.i 0) (.p (.i 0) (.p (.i 0) (.p (.i 0) (.p (.i 0) (.p (.i 0) (.p (.i 0) (.p (.i 0) (.p (.i 0) (.p (.i 0) (.p (.i 0) (.p (.i 0) (.p (.i 0) (.p (.i 0) (.p (.i 0) (.p (.i 0) (.p (.i 0) (.p (.i 0) (.p (.i 0) (.p (.i 0) (.p (.i 0) (.p (.i 0) (.p (.i 0) (.p (.i 0) (.p (.i 0) (.p (.i 0) (.p (.i 0) (.p (.i 0) (.p (.i 0) (.p (.i 0) (.p (.i 0) (.p (.i 0) (.p (.i 0) (.p (.i 0) (.p (.i 0) (.p (.i 0) (.p (.i 0) (.p (.i 0) (.p (.i 0) (.p (.i 0) (.p (.i 0) (.i 0))))))))))))))))))))))))))))))))))))))))))))))))))))))))))))))))))))))))))))))))))))))))))))))))))))))))))))))))))))))))))))))))))))))))))))))))))))))))))))))))))))))))))))))))))))))))))))))))))))))))))))))))))))))))))))))))))))))))))))))))))))))))))))))))
def b1:D:=.p (.i 32) (.p (.i 97) (.p (.i 99) (.p (.i 113) (.p (.i 117) (.p (.i 105) (.p (.i 114) (.p (.i 101) (.p (.i 32) (.p (.i 97) (.p (.i 100) (.p (.i 100) (.p (.i 32) (.p (.i 97) (.p (.i 114) (.p (.i 114) (.p (.i 105) (.p (.i 118) (.p (.i 101) (.p (.i 32) (.p (.i 98) (.p (.i 97) (.p (.i 114) (.p (.i 114) (.p (.i 105) (.p (.i 101) (.p (.i 114) (.p (.i 32) (.p (.i 98) (.p (.i 114) (.p (.i 111) (.p (.i 97) (.p (.i 100) (.p (.i 99) (.p (.i 97) (.p (.i 115) (.p (.i 116) (.p (.i 32) (.p (.i 99) (.p (.i 111) (.p (.i 110) (.p (.i 100) (.p (.i 32) (.p (.i 100) (.p (.i 111) (.p (.i 32) (.p (.i 100) (.p (.i 111) (.p (.i 110) (.p (.i 101) (.p (.i 32) (.p (.i 101) (.p (.i 108) (.p (.i 115) (.p (.i 101) (.p (.i 32) (.p (.i 105) (.p (.i 102) (.p (.i 32) (.p (.i 108) (.p (.i 111) (.p (.i 99) (.p (.i 107) (.p (.i 32) (.p (.i 108) (.p (.i 111) (.p (.i 99) (.p (.i 107) (.p (.i 102) (.p (.i 111) (.p (.i 114) (.p (.i 32) (.p (.i 108) (.p (.i 111) (.p (.i 111) (.p (.i 112) (.p (.i 32) (.p (.i 109) (.p (.i 117) (.p (.i 116) (.p (.i 101) (.p (.i 120) (.p (.i 32) (.p (.i 111) (.p (.i 110) (.p (.i 99) (.p (.i 101) (.p (.i 32) (.p (.i 112) (.p (.i 117) (.p (.i 116) (.p (.i 32) (.p (.i 113) (.p (.i 117) (.p (.i 101) (.p (.i 117) (.p (.i 101) (.p (.i 32) (.p (.i 114) (.p (.i 101) (.p (.i 97) (.p (.i 100) (.p (.i 32) (.p (.i 114) (.p (.i 101) (.p (.i 108) (.p (.i 101) (.p (.i 97) (.p (.i 115) (.p (.i 101) (.p (.i 32) (.p (.i 114) (.p (.i 108) (.p (.i 111) (.p (.i 99) (.p (.i 107) (.p (.i 32) (.p (.i 114) (.p (.i 117) (.p (.i 110) (.p (.i 108) (.p (.i 111) (.p (.i 99) (.p (.i 107) (.p (.i 32) (.p (.i 114) (.p (.i 119) (.p (.i 108) (.p (.i 111) (.p (.i 99) (.p (.i 107) (.p (.i 32) (.p (.i 115) (.p (.i 101) (.p (.i 109) (.p (.i 32) (.p (.i 115) (.p (.i 101) (.p (.i 116) (.p (.i 32) (.p (.i 115) (.p (.i 105) (.p (.i 103) (.p (.i 110) (.p (.i 97) (.p (.i 108) (.p (.i 32) (.p (.i 116) (.p (.i 97) (.p (.i 107) (.p (.i 101) (.p (.i 32) (.p (.i 116) (.p (.i 104) (.p (.i 114) (.p (.i 101) (.p (.i 97) (.p (.i 100) (.p (.i 32) (.p (.i 116) (.p (.i 114) (.p (.i 121) (.p (.i 97) (.p (.i 99) (.p (.i 113) (.p (.i 117) (.p (.i 105) (.p (.i 114) (.p (.i 101) (.p (.i 32) (.p (.i 116) (.p (.i 114) (.p (.i 121) (.p (.i 108) (.p (.i 111) (.p (.i 99) (.p (.i 107) (.p (.i 32) (.p (.i 117) (.p (.i 110) (.p (.i 108) (.p (.i 111) (.p (.i 99) (.p (.i 107) (.p (.i 32) (.p (.i 118) (.p (.i 97) (.p (.i 114) (.p (.i 32) (.p (.i 119) (.p (.i 97) (.p (.i 105) (.p (.i 116) (.p (.i 32) (.p (.i 119) (.p (.i 97) (.p (.i 105) (.p (.i 116) (.p (.i 102) (.p (.i 111) (.p (.i 114) (.p (.i 32) (.p (.i 119) (.p (.i 97) (.p (.i 105) (.p (.i 116) (.p (.i 111) (.p (.i 110) (.p (.i 32) (.p (.i 119) (.p (.i 108) (.p (.i 111) (.p (.i 99) (.p (.i 107) (.p (.i 32) (.p (.i 119) (.p (.i 114) (.p (.i 105) (.p (.i 116) (.p (.i 101) (.p (.i 32) (.p (.i 119) (.p (.i 117) (.p (.i 110) (.p (.i 108) (.p (.i 111) (.p (.i 99) (.p (.i 107) (.p (.i 32) (.i 0)))))))))))))))))))))))))))))))))))))))))))))))))))))))))))))))))))))))))))))))))))))))))))))))))))))))))))))))))))))))))))))))))))))))))))))))))))))))))))))))))))))))))))))))))))))))))))))))))))))))))))))))))))))))))))))))))))))
abbrev Qa:SE:=.lit 0
abbrev Qb:SE:=.aK 1
abbrev Qc:SE:=ln Qb
abbrev Qd:SE:=.aK 0
abbrev Qe:SE:=.op .norm Qb Qa
abbrev Qf:SE:=.dat (.i 1)
abbrev Qg:SE:=.dat (.i 2)
def U2:T Lf:=sp (.lt Qa Qc) (sp (.lt Qc (.lit 1759218604441)) (ju 9001 [Qd,Qb,Qc,Qa]) fl) (sp (.eq Qe Qf) (ju 9002 [Qd]) (sp (.eq Qe Qg) (ju 9003 [Qd]) fl))
abbrev Qh:SE:=.aK 3
abbrev Qi:SB:=.eq Qh Qd
abbrev Qj:SE:=.aK 2
abbrev Qk:SB:=.lt Qh Qj
abbrev Ql:SB:=.lt Qh Qa
abbrev Qm:SB:=.lt Qh Qc
abbrev Qn:SE:=el Qb Qh
abbrev Qo:SE:=ce 4 Qn
abbrev Qp:SB:=.lt Qa (ln Qo)
abbrev Qq:SE:=.lit 17592186044416
abbrev Qr:SB:=.lt (ln Qo) Qq
abbrev Qs:SE:=ce 5 Qn
abbrev Qt:SB:=.lt Qa (ln Qs)
abbrev Qu:SB:=.lt (ln Qs) Qq
abbrev Qv:SE:=.lit 1
abbrev Qw:SE:=wr (.add Qh Qv)
abbrev Qx:SE:=el Qb Qd
abbrev Qy:SE:=nm (ce 0 Qx)
abbrev Qz:SE:=nm (ce 1 Qx)
abbrev Q0:SE:=nm (ce 2 Qx)
abbrev Q1:SE:=nm (ce 3 Qx)
abbrev Q2:SB:=.eq Qs Qf
abbrev Q3:SB:=.eq Qs Qg
abbrev Q4:SB:=.eq Qo Qf
abbrev Q5:SB:=.eq Qo Qg
abbrev Q6:T Lf:=ou [Qa,Qd,Qb]
abbrev Q7:SE:=mk Qh
abbrev Q8:SE:=.dat (.i 4)
abbrev Q9:SE:=.op .set Qb (cn Q7 (.op .set Qn (cn Q8 Qo)))
abbrev Qba:SE:=.dat (.i 5)
abbrev Qbb:SE:=.op .set Q9 (cn Q7 (.op .set (el Q9 Qh) (cn Qba Qs)))
abbrev Qbc:SE:=cn Qba Qf
abbrev Qbd:SE:=.op .set Q9 (cn Q7 (.op .set (el Q9 Qh) Qbc))
abbrev Qbe:SE:=cn Qba Qg
abbrev Qbf:SE:=.op .set Q9 (cn Q7 (.op .set (el Q9 Qh) Qbe))
abbrev Qbg:SE:=.op .set Qb (cn Q7 (.op .set Qn (cn Q8 Qf)))
abbrev Qbh:SE:=.op .set Qbg (cn Q7 (.op .set (el Qbg Qh) (cn Qba Qs)))
abbrev Qbi:SE:=.op .set Qbg (cn Q7 (.op .set (el Qbg Qh) Qbc))
abbrev Qbj:SE:=.op .set Qbg (cn Q7 (.op .set (el Qbg Qh) Qbe))
abbrev Qbk:SE:=.op .set Qb (cn Q7 (.op .set Qn (cn Q8 Qg)))
abbrev Qbl:SE:=.op .set Qbk (cn Q7 (.op .set (el Qbk Qh) (cn Qba Qs)))
abbrev Qbm:SE:=.op .set Qbk (cn Q7 (.op .set (el Qbk Qh) Qbc))
abbrev Qbn:SE:=.op .set Qbk (cn Q7 (.op .set (el Qbk Qh) Qbe))
def xJ:T Lf:=sp Qi (sp Qk (sp Ql fl (sp Qm (sp Qp (sp Qr (sp Qt (sp Qu (ju 9004 [Qd,Qb,Qj,Qw,Qy,Qz,Q0,Q1,Qo,Qs]) fl) (sp Q2 (ju 9005 [Qd,Qb,Qj,Qw,Qy,Qz,Q0,Q1,Qo,Qf]) (sp Q3 (ju 9005 [Qd,Qb,Qj,Qw,Qy,Qz,Q0,Q1,Qo,Qg]) fl))) fl) (sp Q4 (sp Qt (sp Qu (ju 9006 [Qd,Qb,Qj,Qw,Qy,Qz,Q0,Q1,Qf,Qs]) fl) (sp Q2 (ju 9007 [Qd,Qb,Qj,Qw,Qy,Qz,Q0,Q1,Qf,Qf]) (sp Q3 (ju 9007 [Qd,Qb,Qj,Qw,Qy,Qz,Q0,Q1,Qf,Qg]) fl))) (sp Q5 (sp Qt (sp Qu (ju 9006 [Qd,Qb,Qj,Qw,Qy,Qz,Q0,Q1,Qg,Qs]) fl) (sp Q2 (ju 9007 [Qd,Qb,Qj,Qw,Qy,Qz,Q0,Q1,Qg,Qf]) (sp Q3 (ju 9007 [Qd,Qb,Qj,Qw,Qy,Qz,Q0,Q1,Qg,Qg]) fl))) fl))) fl)) Q6) (sp Qk (sp Ql fl (sp Qm (sp Qp (sp Qr (sp Qt (sp Qu (ju 9001 [Qd,Qbb,Qj,Qw]) fl) (sp Q2 (ju 9001 [Qd,Qbd,Qj,Qw]) (sp Q3 (ju 9001 [Qd,Qbf,Qj,Qw]) fl))) fl) (sp Q4 (sp Qt (sp Qu (ju 9001 [Qd,Qbh,Qj,Qw]) fl) (sp Q2 (ju 9001 [Qd,Qbi,Qj,Qw]) (sp Q3 (ju 9001 [Qd,Qbj,Qj,Qw]) fl))) (sp Q5 (sp Qt (sp Qu (ju 9001 [Qd,Qbl,Qj,Qw]) fl) (sp Q2 (ju 9001 [Qd,Qbm,Qj,Qw]) (sp Q3 (ju 9001 [Qd,Qbn,Qj,Qw]) fl))) fl))) fl)) Q6)
def aqA:T Lf:=sp (.eq Qa Qd) (ou [Qv,Qd]) (ou [Qv,Qd])
abbrev uF:SE:=.lit 2
def apZ:T Lf:=sp (.eq Qa Qd) (ou [uF,Qd]) (ou [uF,Qd])
abbrev Qbp:T Lf:=sp Ql fl (sp Qm fl fl)
abbrev I4:SE:=.lit 3
abbrev dI:SE:=.aK 4
abbrev dY:SE:=.aK 5
abbrev iR:SE:=.aK 6
abbrev oW:SE:=.aK 7
abbrev rV:SE:=.aK 8
abbrev yP:SE:=.aK 9
abbrev Qbx:T Lf:=ou [I4,Qd,Qb,dI,dY,iR,oW,rV,yP]
abbrev Qby:List SE:=[Qd,Qbb,Qj,Qw,dI,dY,iR,oW,rV,yP]
abbrev Qbz:List SE:=[Qd,Qbd,Qj,Qw,dI,dY,iR,oW,rV,yP]
abbrev Qb0:List SE:=[Qd,Qbf,Qj,Qw,dI,dY,iR,oW,rV,yP]
abbrev Qb1:List SE:=[Qd,Qbh,Qj,Qw,dI,dY,iR,oW,rV,yP]
abbrev Qb2:List SE:=[Qd,Qbi,Qj,Qw,dI,dY,iR,oW,rV,yP]
abbrev Qb3:List SE:=[Qd,Qbj,Qj,Qw,dI,dY,iR,oW,rV,yP]
abbrev Qb4:List SE:=[Qd,Qbl,Qj,Qw,dI,dY,iR,oW,rV,yP]
abbrev Qb5:List SE:=[Qd,Qbm,Qj,Qw,dI,dY,iR,oW,rV,yP]
abbrev Qb6:List SE:=[Qd,Qbn,Qj,Qw,dI,dY,iR,oW,rV,yP]
def aeN:T Lf:=sp Qi (sp Qk Qbp Qbx) (sp Qk (sp Ql fl (sp Qm (sp Qp (sp Qr (sp Qt (sp Qu (ju 9004 Qby) fl) (sp Q2 (ju 9004 Qbz) (sp Q3 (ju 9004 Qb0) fl))) fl) (sp Q4 (sp Qt (sp Qu (ju 9004 Qb1) fl) (sp Q2 (ju 9004 Qb2) (sp Q3 (ju 9004 Qb3) fl))) (sp Q5 (sp Qt (sp Qu (ju 9004 Qb4) fl) (sp Q2 (ju 9004 Qb5) (sp Q3 (ju 9004 Qb6) fl))) fl))) fl)) Qbx)
abbrev Qb7:SE:=.lit 4
abbrev Qb8:T Lf:=ou [Qb7,Qd,Qb,dI,dY,iR,oW,rV,yP]
def aeM:T Lf:=sp Qi (sp Qk Qbp Qb8) (sp Qk (sp Ql fl (sp Qm (sp Qp (sp Qr (sp Qt (sp Qu (ju 9005 Qby) fl) (sp Q2 (ju 9005 Qbz) (sp Q3 (ju 9005 Qb0) fl))) fl) (sp Q4 (sp Qt (sp Qu (ju 9005 Qb1) fl) (sp Q2 (ju 9005 Qb2) (sp Q3 (ju 9005 Qb3) fl))) (sp Q5 (sp Qt (sp Qu (ju 9005 Qb4) fl) (sp Q2 (ju 9005 Qb5) (sp Q3 (ju 9005 Qb6) fl))) fl))) fl)) Qb8)
abbrev Qb9:SE:=.lit 5
abbrev Qca:T Lf:=ou [Qb9,Qd,Qb,dI,dY,iR,oW,rV,yP]
def aeL:T Lf:=sp Qi (sp Qk Qbp Qca) (sp Qk (sp Ql fl (sp Qm (sp Qp (sp Qr (sp Qt (sp Qu (ju 9006 Qby) fl) (sp Q2 (ju 9006 Qbz) (sp Q3 (ju 9006 Qb0) fl))) fl) (sp Q4 (sp Qt (sp Qu (ju 9006 Qb1) fl) (sp Q2 (ju 9006 Qb2) (sp Q3 (ju 9006 Qb3) fl))) (sp Q5 (sp Qt (sp Qu (ju 9006 Qb4) fl) (sp Q2 (ju 9006 Qb5) (sp Q3 (ju 9006 Qb6) fl))) fl))) fl)) Qca)
abbrev Qcb:SE:=.lit 6
abbrev Qcc:T Lf:=ou [Qcb,Qd,Qb,dI,dY,iR,oW,rV,yP]
def aeK:T Lf:=sp Qi (sp Qk Qbp Qcc) (sp Qk (sp Ql fl (sp Qm (sp Qp (sp Qr (sp Qt (sp Qu (ju 9007 Qby) fl) (sp Q2 (ju 9007 Qbz) (sp Q3 (ju 9007 Qb0) fl))) fl) (sp Q4 (sp Qt (sp Qu (ju 9007 Qb1) fl) (sp Q2 (ju 9007 Qb2) (sp Q3 (ju 9007 Qb3) fl))) (sp Q5 (sp Qt (sp Qu (ju 9007 Qb4) fl) (sp Q2 (ju 9007 Qb5) (sp Q3 (ju 9007 Qb6) fl))) fl))) fl)) Qcc)
abbrev Xb:List SE:=[Qd,Qb]
abbrev sU:SE:=.dat (.i 0)
abbrev qP:T Lf:=ou [Qv]
def t50:T Lf:=sp (.eq (a0 100 Xb) Qv) (sp (.eq (rr 100 Xb 0) Qa) (sp (.eq (a0 300 Xb) Qv) (ju 51 [Qj,rr 300 Xb 0,Qa,Qd,Qb,sU]) fl) qP) fl
abbrev uK:SE:=ln Qd
abbrev Qch:SB:=.lt Qj uK
abbrev OB:SB:=.lt Qj Qa
abbrev Xa:SE:=el Qd Qj
abbrev Qck:SE:=nm (ce 0 Xa)
abbrev YX:SE:=ce 1 Xa
abbrev Qcm:SE:=nm (ce 2 Xa)
abbrev Qcn:SE:=ce 3 Xa
abbrev Qco:SE:=ce 4 Xa
abbrev Qcp:List SE:=[Qh,dI,Qb,Qck,nm YX,Qcm,nm Qcn,nm Qco]
abbrev Qcq:SE:=rr 400 Qcp 0
abbrev dF:T Lf:=ou [Qa]
abbrev Qcs:SB:=.eq (a0 200 [Qb,Qcq]) Qv
abbrev Qct:SB:=.eq (rr 200 [Qb,Qcq] 0) Qa
abbrev Qcu:SE:=rr 400 Qcp 1
abbrev Qcv:SE:=rr 400 Qcp 2
abbrev Qcw:SE:=rr 400 Qcp 3
abbrev Qcx:SE:=rr 400 Qcp 4
abbrev Qcy:SB:=.eq (rr 400 Qcp 5) Qa
abbrev WS:SE:=.lit 20
abbrev Qc0:SE:=mk Qcw
abbrev Qc1:SB:=.eq (.op .JG dY Qc0) Qa
abbrev Hu:SE:=wr (.add Qj Qv)
abbrev Qc3:SE:=cn Qc0 (.op .snoc sU (mk Qcx))
abbrev Qc4:SE:=.op .EI dY Qc0
abbrev Qc5:SB:=.eq (.op .norm Qc4 Qa) (.dat (.i 3))
abbrev Qc6:T Lf:=ju 51 [Qd,Qcq,Hu,Qh,dI,.op .tK dY Qc3]
abbrev Qc7:SE:=.lit 17592186044415
abbrev Qc8:SE:=.sub (ln Qc4) Qv
abbrev Qc9:SE:=.lit 7
abbrev Qda:T Lf:=ju 51 [Qd,Qcq,Hu,Qh,dI,dY]
abbrev Qdb:T Lf:=sp (.eq Qcv WS) (sp Qc1 (ju 51 [Qd,Qcq,Hu,Qh,dI,.op .tK (.op .tK dY (cn Qc0 sU)) Qc3]) (sp (.eq (ln Qc4) Qa) (sp Qc5 Qc6 Qc6) (sp (.lt (ln Qc4) Qc7) (ju 51 [Qd,Qcq,Hu,Qh,dI,.op .tK dY (cn Qc0 (.op .snoc Qc4 (mk Qcx)))]) fl))) (sp (.eq Qcv (.lit 21)) (sp Qc1 dF (sp (.eq (ln Qc4) Qa) (sp Qc5 dF dF) (sp (.eq (nm (el Qc4 Qa)) Qcx) (sp (.lt Qc8 Qa) fl (sp (.lt (ln Qc4) (.add Qv Qc8)) fl (sp (.eq Qc8 Qa) (ju 51 [Qd,Qcq,Hu,Qh,dI,.op .tK dY (cn Qc0 (.dat (.i 3)))]) (ju 51 [Qd,Qcq,Hu,Qh,dI,.op .tK dY (cn Qc0 (.op .drop (.op .take Qc4 (.add Qv Qc8)) Qv))])))) dF))) (sp (.eq Qcv Qc9) (sp (.lt Qcw Qa) fl (sp (.lt Qcw (ln Qcq)) (sp (.eq (nm (ce 0 (el Qcq Qcw))) Qcu) (sp (.lt Qa (ln (ce 4 (el Qcq Qcw)))) dF Qda) dF) fl)) Qda))
abbrev Qdc:T Lf:=sp (.eq (rr 400 Qcp 6) Qa) (sp Qcs (sp Qct dF (sp (.and (.eq Qcu Qa) (.and (.eq Qcv Qa) (.and (.eq Qcw Qa) (.and (.eq Qcx Qa) Qcy)))) Qdb dF)) fl) (sp (.eq Qcv (.lit 27)) (sp Qcs (sp Qct dF (sp (.eq Qcu Qck) (sp (.eq Qcw Qcm) (sp Qcy (sp (.eq Qcv (nm YX)) Qda (sp (.eq Qcx (wr (nm YX))) Qda dF)) dF) dF) dF)) fl) (sp (.eq Qcu Qck) (sp (.eq Qcw Qcm) (sp Qcy (sp (.eq Qcv (nm YX)) Qdb dF) dF) dF) dF))
def t51:T Lf:=sp Qch (sp (.lt Qj (.lit 80)) (sp OB fl (sp (.eq (a0 400 Qcp) Qv) (sp (.lt Qa Qc) (sp (.eq (a0 350 [Qh,dI,Qcq]) Qv) (sp (.eq (rr 350 [Qh,dI,Qcq] 0) Qa) dF Qdc) fl) Qdc) fl)) qP) qP
def aBq:T Lf:=ju 101 [wr (.add uK Qc),Qc,Qa,Qd,Qb]
abbrev W9:SB:=.lt Qj Qb
abbrev Qde:SE:=ln dI
def aBp:T Lf:=sp W9 (sp OB fl (sp (.lt Qj Qde) (ju 102 [wr (.add Qd (wr (.add (ln (ce 1 (el dI Qj))) (ln (ce 2 (el dI Qj)))))),Qj,Qa,Qb,Qh,dI]) fl)) (sp (.lt (.lit 6000) Qd) qP dF)
abbrev Qdf:SB:=.lt Qb Qa
abbrev Qdg:SE:=wr (.add Qb Qv)
abbrev Qdh:T Lf:=ju 101 [Qd,Qh,Qdg,dI,dY]
abbrev Qdi:SE:=ce 6 (el (ce 2 (el dY Qb)) Qj)
def aBo:T Lf:=sp Qdf fl (sp (.lt Qb (ln dY)) (sp (.lt Qj (ln (ce 2 (el dY Qb)))) (sp (.lt (.lit 6000) Qd) Qdh (sp OB fl (ju 103 [Qd,Qb,Qj,Qh,Qdi,ln Qdi,Qa,dI,dY]))) Qdh) fl)
abbrev Qdj:SE:=el dI iR
abbrev Qdk:List SE:=[nm (ce 0 Qdj),ce 1 Qdj,nm (ce 2 Qdj),ce 3 Qdj,.lit 60]
def aBn:T Lf:=sp (.lt iR dY) (sp (.lt iR Qa) fl (sp (.lt iR Qde) (sp (.eq (a0 150 Qdk) Qv) (ju 103 [wr (.add Qd (rr 150 Qdk 0)),Qb,Qj,Qh,dI,dY,wr (.add iR Qv),oW,rV]) fl) fl)) (ju 102 [Qd,Qb,Hu,Qh,oW,rV])
abbrev Qdl:SB:=.lt dI Qv
def aBm:T Lf:=sp Qdl (ou [.lit 10000]) (ju 151 [dI,wr (.add Qv (wr (.quo Qc (.lit 100)))),Qa,Qd,Qb,Qj,Qh])
abbrev Qdm:SE:=el iR Qj
abbrev Qdn:List SE:=[nm (ce 0 Qdm),ce 1 Qdm,nm (ce 2 Qdm),ce 3 Qdm,wr (.sub Qd Qv)]
def aBl:T Lf:=sp (.lt Qj (ln iR)) (sp (.lt (.lit 10000) Qb) (ou [Qb]) (sp OB fl (sp (.eq (a0 150 Qdn) Qv) (ju 151 [Qd,wr (.add Qb (rr 150 Qdn 0)),Hu,Qh,dI,dY,iR]) fl))) (ou [Qb])
def atU:T Lf:=sp (.eq uK Qc) (ju 201 [Qd,Qb,uK,Qa]) dF
abbrev UN:SE:=el Qd Qh
abbrev Qdp:SE:=nm (ce 0 Qn)
abbrev Qdq:SB:=.not (.eq (nm (ce 2 UN)) Qa)
abbrev Qdr:SE:=nm (ce 2 Qn)
def t201:T Lf:=sp Qk (sp Ql fl (sp (.lt Qh uK) (sp Qm (sp (.eq (nm (ce 0 UN)) Qdp) (sp (.eq (nm (ce 1 UN)) (nm (ce 1 Qn))) (sp (.and (.not (.and Qdq (.not (.eq Qdr Qa)))) (.not (.and (.not Qdq) (.not (.not (.eq Qdr Qa)))))) dF (sp (.eq (nm (ce 3 UN)) (nm (ce 3 Qn))) (sp (.eq (a0 250 [ce 4 UN,Qo]) Qv) (sp (.eq (rr 250 [ce 4 UN,Qo] 0) Qa) dF (sp (.eq (ln (ce 5 UN)) (ln Qs)) (ju 202 [Qd,Qb,Qj,Qh,ln (ce 5 UN),Qa,nm (ce 0 UN),nm (ce 1 UN),nm (ce 2 UN),nm (ce 3 UN),ce 4 UN,ce 5 UN,Qdp,nm (ce 1 Qn),Qdr,nm (ce 3 Qn),Qo,Qs]) dF)) fl) dF)) dF) dF) fl) fl)) qP
abbrev Qds:SB:=.lt dY Qa
abbrev Ol:SE:=.aK 11
abbrev KI:SE:=.aK 10
abbrev YW:SE:=.aK 12
abbrev Qdw:SE:=.aK 13
abbrev Oj:SE:=.aK 14
abbrev Qdy:SE:=.aK 15
abbrev Qdz:List SE:=[Qd,Qb,Qj,Qw]
def amC:T Lf:=sp (.lt dY dI) (sp Qds fl (sp (.lt dY (ln Ol)) (sp (.lt dY (ln (.aK 17))) (sp (.eq (nm (el Ol dY)) (nm (el (.aK 17) dY))) (ju 202 [Qd,Qb,Qj,Qh,dI,wr (.add dY Qv),iR,oW,rV,yP,KI,Ol,YW,Qdw,Oj,Qdy,.aK 16,.aK 17]) dF) fl) fl)) (ju 201 Qdz)
def atT:T Lf:=sp (.eq uK Qc) (ju 251 [Qd,Qb,Qa]) dF
def amB:T Lf:=sp Qch (sp OB fl (sp (.lt Qj Qc) (sp (.eq (nm Xa) (nm (el Qb Qj))) (ju 251 [Qd,Qb,Hu]) dF) fl)) qP
def amA:T Lf:=sp (.eq (a0 450 Xb) Qv) (sp (.eq (rr 450 Xb 0) Qa) (ju 301 [Qd,uK]) (ou [Qf])) fl
abbrev Qd0:SE:=.dat (.i (-1))
abbrev Qd1:SE:=cn sU (cn sU (cn Qf (cn Qf sU)))
abbrev Qd2:T Lf:=ju 302 [.op .snoc sU (cn Qd0 (cn (mk (nm (ce 2 (el Qd Qa)))) Qd1)),Qd,Qb,Qv]
abbrev Qd3:SE:=.lit 9
def aaZ:T Lf:=sp (.lt Qa Qb) (sp (.lt Qa uK) (sp (.eq (nm (ce 0 (el Qd Qa))) I4) Qd2 (sp (.eq (nm (ce 0 (el Qd Qa))) Qd3) Qd2 (ju 302 [.op .snoc sU (cn Qd0 (cn sU Qd1)),Qd,Qb,Qv]))) fl) (ou [Qf])
abbrev Qd4:SB:=.lt uK (.lit 1759218604440)
abbrev Qd5:T Lf:=sp Qd4 (ju 302 [.op .snoc Qd (cn Qd0 (cn (mk Qdr) Qd1)),Qb,Qj,Qw]) fl
def atS:T Lf:=sp Qk (sp Ql fl (sp Qm (sp (.eq Qdp I4) Qd5 (sp (.eq Qdp Qd3) Qd5 (sp Qd4 (ju 302 [.op .snoc Qd (cn Qd0 (cn sU Qd1)),Qb,Qj,Qw]) fl))) fl)) (ou [Qd])
def alZ:T Lf:=sp (.eq (a0 450 Xb) Qv) (sp (.eq (rr 450 Xb 0) Qa) (sp (.eq (ln Qj) uK) (ju 351 [Qj,ln Qj,Qa,Qd,Qb]) dF) dF) fl
abbrev Qd6:SE:=ln Qh
abbrev Qd7:SE:=el Qh Qj
abbrev Qd8:SE:=ce 5 Xa
abbrev Qd9:List SE:=[nm (ce 0 Qd7),ce 1 Qd7,nm (ce 2 Qd7),ce 3 Qd7,nm (ce 4 Qd7),Qck,nm YX,Qa,nm Qcn,Qco,Qd8,Qde]
abbrev Qea:T Lf:=ju 351 [Qd,Qb,Hu,Qh,dI]
abbrev Qeb:List SE:=[nm (ce 0 Qd7),ce 1 Qd7,nm (ce 2 Qd7),ce 3 Qd7,nm (ce 4 Qd7),Qck,nm YX,Qv,nm Qcn,Qco,Qd8,Qde]
def aaY:T Lf:=sp W9 (sp OB fl (sp Qch (sp (.lt Qj Qd6) (sp (.eq Qcm Qa) (sp (.eq (a0 500 Qd9) Qv) (sp (.eq (rr 500 Qd9 0) Qa) dF Qea) fl) (sp (.eq (a0 500 Qeb) Qv) (sp (.eq (rr 500 Qeb 0) Qa) dF Qea) fl)) fl) fl)) qP
abbrev Qec:List SE:=[dY,Qj]
abbrev Qed:SE:=rr 9000 Qec 0
abbrev Qee:SB:=.eq (a0 350 [Qd,Qb,Qj]) Qv
abbrev Qef:SB:=.eq (rr 350 [Qd,Qb,Qj] 0) Qa
abbrev E8:SE:=rr 9000 Qec 2
abbrev Qeh:T Lf:=ou [E8,Qa,Qa,Qa,Qa,Qa,Qa]
abbrev Qei:T Lf:=sp Qee (sp Qef Qeh (sp Ql Qeh (sp Qm Qeh Qeh))) fl
abbrev Qej:SB:=.lt dY (ln E8)
abbrev Qek:T Lf:=ou [Qf,Qa,Qa,Qa,Qa,Qa,Qa]
abbrev Qel:T Lf:=ou [Qg,Qa,Qa,Qa,Qa,Qa,Qa]
abbrev JO:SE:=mk dY
abbrev Qen:SE:=rr 9000 Qec 3
abbrev UM:SE:=mk Qen
abbrev WR:SE:=rr 9000 Qec 4
abbrev WZ:SE:=mk WR
abbrev Qer:SE:=rr 9000 Qec 5
abbrev Qes:SE:=.op .bit (mk Qer) Qa
abbrev Qet:SE:=rr 9000 Qec 6
abbrev Qeu:SE:=mk Qet
abbrev UL:SE:=rr 9000 Qec 7
abbrev Qew:SE:=rr 9000 Qec 8
abbrev Qex:SE:=cn Qew sU
abbrev Qey:SE:=cn Qes (cn Qeu (cn UL Qex))
abbrev Qez:SE:=cn JO (cn UM (cn WZ Qey))
abbrev Qe0:SE:=.op .set E8 Qez
abbrev KH:T Lf:=ou [Qe0,Qa,Qa,Qa,Qa,Qa,Qa]
abbrev Qe2:SB:=.eq (a0 600 [dI]) Qv
abbrev Qe3:SB:=.lt dY uK
abbrev Qe4:SB:=.eq (rr 600 [dI] 0) (nm (ce 0 (el Qd dY)))
abbrev Qe5:SB:=.eq dI Qv
abbrev Qe6:SB:=.eq Qen Qh
abbrev JE:T Lf:=sp (.eq (a0 550 [Qj]) Qv) (ou [rr 550 [Qj] 0,Qh,.lit 27,dY,wr dI,Qa,uF]) fl
abbrev Qe8:SB:=.eq (a0 900 [UL,Qh]) Qv
abbrev Qe9:SB:=.eq (rr 900 [UL,Qh] 0) Qa
abbrev Qfa:SB:=.lt Qen Qa
abbrev Qfb:SE:=.op .set E8 (cn JO (cn Q7 (cn WZ Qey)))
abbrev WY:T Lf:=sp (.eq (a0 550 [Qj]) Qv) (ou [rr 550 [Qj] 0,Qa,Qa,Qa,Qa,Qa,Qa]) fl
abbrev Qfd:T Lf:=sp Qfa (ou [Qfb,Qh,dI,dY,Qa,Qa,uF]) WY
abbrev Qfe:T Lf:=sp Qe6 JE (sp Qe8 (sp Qe9 Qfd JE) fl)
abbrev Qff:SB:=.eq dI uF
abbrev Qfg:T Lf:=sp Qe6 (ou [.op .set E8 (cn JO (cn Qd0 (cn WZ Qey))),Qh,dI,dY,Qa,Qa,uF]) JE
abbrev Qfh:SB:=.eq dI (.lit 8)
abbrev Qfi:SB:=.eq dI I4
abbrev Qfj:T Lf:=ou [Qfb,Qh,dI,dY,Qv,Qa,uF]
abbrev Qfk:T Lf:=ou [Qe0,Qh,dI,dY,Qa,Qa,uF]
abbrev Qfl:T Lf:=sp Qfa Qfj Qfk
abbrev Qfm:SB:=.eq dI Qb7
abbrev Qfn:T Lf:=sp Qfa Qfj (sp (.lt oW iR) WY Qfk)
abbrev Qfo:SB:=.eq dI Qb9
abbrev OA:SE:=ln UL
abbrev Qfq:SE:=cn WZ (cn Qes (cn Qeu (cn (.op .snoc UL Q7) Qex)))
abbrev Qfr:T Lf:=sp Qe6 JE (sp Qe8 (sp Qe9 (sp Qfa (sp (.lt OA Qc7) (ou [.op .set E8 (cn JO (cn UM Qfq)),Qh,dI,dY,Qa,Qa,uF]) fl) WY) JE) fl)
abbrev Qfs:SB:=.eq dI Qcb
abbrev Qft:SB:=.eq (a0 850 [UL,Qh]) Qv
abbrev Qfu:SE:=rr 850 [UL,Qh] 0
abbrev Qfv:SE:=wr (.add Qfu Qv)
abbrev Qfw:SE:=.sub OA Qfv
abbrev Qfx:SE:=.add Qfu Qfw
abbrev Qfy:SE:=.op .cat (.op .cat (.op .take UL Qfu) (.op .drop (.op .take UL (.add Qfv Qfw)) Qfv)) (.op .drop UL Qfx)
abbrev Qfz:SE:=.op .fill Qfy (cn (mk Qfx) sU)
abbrev Qf0:T Lf:=sp (.lt (.sub OA Qfx) Qa) fl (sp (.eq (.add Qfx (.sub OA Qfx)) (ln Qfy)) (sp (.lt (ln Qfz) Qfx) fl (ou [.op .set E8 (cn JO (cn UM (cn WZ (cn Qes (cn Qeu (cn (.op .take Qfz Qfx) Qex)))))),Qh,dI,dY,Qa,Qa,uF])) fl)
abbrev Qf1:T Lf:=sp Qft (sp (.lt Qfu Qa) JE (sp (.lt Qfv Qfu) fl (sp (.lt OA Qfv) fl (sp (.lt OA OA) fl (sp (.eq Qfu Qfv) Qfk (sp (.lt OA Qfu) fl (sp (.lt Qfv Qa) fl (sp (.lt Qfw Qa) fl (sp (.lt OA (.add Qfv Qfw)) fl (sp (.lt OA Qfx) fl (sp (.lt Qfx Qa) fl (sp (.lt Qfx OA) (sp (.lt (ln Qfy) OA) fl Qf0) Qf0)))))))))))) fl
abbrev Qf2:SB:=.eq dI Qc9
abbrev Qf3:T Lf:=sp Qe6 JE (sp Qe8 (sp Qe9 (sp (.eq OA Qa) Qfd WY) JE) fl)
abbrev Qf4:SB:=.eq dI Qd3
abbrev Qf5:SE:=.op .set E8 (cn JO (cn UM (cn (mk (wr (.sub WR Qv))) Qey)))
abbrev Qf6:T Lf:=sp (.lt Qa WR) (ou [Qf5,Qh,dI,dY,Qa,Qa,uF]) WY
abbrev Qf7:SB:=.eq dI (.lit 11)
abbrev Qf8:T Lf:=sp (.lt Qa WR) (ou [Qf5,Qh,dI,dY,Qv,Qa,uF]) Qfk
abbrev Qf9:SE:=.lit 10
abbrev Qga:SB:=.eq dI Qf9
abbrev Qgb:SE:=nm (ce 2 (el Qd dY))
abbrev Qgc:SE:=.op .set E8 (cn JO (cn UM (cn (mk (wr (.add WR Qv))) Qey)))
abbrev Qgd:T Lf:=sp (.lt WR Qgb) (ou [Qgc,Qh,dI,dY,Qa,Qa,uF]) JE
abbrev Qge:SB:=.eq dI (.lit 17)
abbrev Qgf:T Lf:=sp (.lt iR (wr (.sub Qa WR))) JE (sp (.lt (wr (.sub (.lit 1099511627776) WR)) iR) JE (ou [.op .set E8 (cn JO (cn UM (cn (mk (wr (.add WR iR))) Qey))),Qh,dI,dY,wr (.add WR iR),Qa,uF]))
abbrev Qgg:SB:=.eq dI (.lit 18)
abbrev Qgh:T Lf:=sp (.lt Qa WR) (ou [Qf5,Qh,dI,dY,wr (.sub WR Qv),Qa,uF]) JE
abbrev Qgi:SB:=.eq dI (.lit 19)
abbrev Qgj:T Lf:=sp (.eq WR Qa) Qfk WY
abbrev Qgk:SB:=.eq dI (.lit 22)
abbrev Qgl:T Lf:=ou [Qe0,Qh,dI,dY,WR,Qa,uF]
abbrev Qgm:SB:=.eq dI (.lit 23)
abbrev Qgn:T Lf:=ou [.op .set E8 (cn JO (cn UM (cn (mk iR) Qey))),Qh,dI,dY,iR,Qa,uF]
abbrev Qgo:SB:=.eq dI WS
abbrev Qgp:T Lf:=sp (.lt (ln Qew) Qgb) (sp (.lt (ln Qew) Qc7) (ou [.op .set E8 (cn JO (cn UM (cn WZ (cn Qes (cn Qeu (cn UL (cn (.op .snoc Qew (mk iR)) sU))))))),Qh,dI,dY,iR,Qa,uF]) fl) WY
abbrev Qgq:SB:=.eq dI (.lit 21)
abbrev Qgr:SE:=.add Qv (.sub (ln Qew) Qv)
abbrev Qgs:T Lf:=sp (.eq (ln Qew) Qa) WY (sp (.lt (.sub (ln Qew) Qv) Qa) fl (sp (.lt (ln Qew) Qgr) fl (ou [.op .set E8 (cn JO (cn UM (cn WZ (cn Qes (cn Qeu (cn UL (cn (.op .drop (.op .take Qew Qgr) Qv) sU))))))),Qh,dI,dY,nm (el Qew Qa),Qa,uF])))
abbrev Qgt:SB:=.eq dI (.lit 12)
abbrev Qgu:SB:=.lt Qgb Qa
abbrev Qgv:SB:=.lt Qgb (ln E8)
abbrev Qgw:SB:=.eq Qgb dY
abbrev Qgx:SE:=.lit (-1)
abbrev Qgy:List SE:=[UL,Qh,dY,Qgb,E8,dI,iR,oW,Qgx,WR,Qer,Qet,Qew]
abbrev Qgz:T Lf:=sp (.lt OA Qc7) (ou [.op .set E8 (cn JO (cn Qd0 Qfq)),Qh,dI,dY,Qa,Qa,I4]) fl
abbrev Qg0:SE:=rr 12000 Qgy 14
abbrev Qg1:SE:=rr 12000 Qgy 15
abbrev Qg2:SE:=.add Qg0 Qv
abbrev Qg3:SE:=.op .snoc sU Q7
abbrev Qg4:SE:=.op .cat (.op .cat (.op .take Qg1 Qg0) Qg3) (.op .drop Qg1 Qg2)
abbrev Qg5:SE:=nm (ce 0 (el E8 Qgb))
abbrev Qg6:SB:=.eq Qg5 Qh
abbrev Qg7:SE:=.op .set E8 (cn (mk Qgb) (.op .set (el E8 Qgb) (cn sU Qd0)))
abbrev Qg8:List SE:=[UL,Qh,dY,Qgb,Qg7,dI,iR,oW,Qen,WR,Qer,Qet,Qew]
abbrev Qg9:T Lf:=sp (.lt OA Qc7) (ou [.op .set Qg7 (cn JO (cn UM Qfq)),Qh,dI,dY,Qa,Qa,I4]) fl
abbrev Qha:SE:=rr 12000 Qg8 14
abbrev Qhb:SE:=rr 12000 Qg8 15
abbrev Qhc:SE:=.add Qha Qv
abbrev Qhd:SE:=.op .cat (.op .cat (.op .take Qhb Qha) Qg3) (.op .drop Qhb Qhc)
abbrev Qhe:SE:=.op .set E8 (cn JO (cn UM (cn WZ (cn Qes (cn Qeu (cn Qf Qex))))))
abbrev Qhf:SE:=.lit 4611686018427387904
abbrev Qhg:SE:=.lit 16
abbrev Qhh:T Lf:=sp (.eq dI (.lit 24)) (sp Qgu fl (sp Qgv (sp Qe8 (sp Qe9 (sp Qgw Qfd (sp (.lt Qg5 Qa) (ou [.op .set (.op .set E8 (cn (mk Qgb) (.op .set (el E8 Qgb) (cn sU Q7)))) Qez,Qh,dI,dY,Qa,Qa,uF]) WY)) WY) fl) fl)) (sp (.eq dI (.lit 15)) (sp (.lt Qet Qhf) (sp (.eq (wr (.add WR Qv)) Qgb) (ou [.op .set E8 (cn JO (cn UM (cn sU (cn Qes (cn (mk (wr (.add Qet Qv))) (cn UL Qex)))))),Qh,dI,dY,Qet,Qa,I4]) (ou [Qgc,Qh,dI,dY,Qet,Qa,I4])) JE) (sp (.eq dI (.lit 25)) (sp (.lt iR Qet) (ou [Qe0,Qh,dI,dY,iR,Qa,uF]) WY) (sp (.eq dI Qhg) (sp (.eq Qer Qa) (sp Qe6 JE (sp Qfa Qfj WY)) Qfk) (sp (.eq dI (.lit 26)) (sp Qe6 (ou [.op .set E8 (cn JO (cn Qd0 (cn WZ (cn Qf (cn Qeu (cn UL Qex)))))),Qh,dI,dY,Qa,Qa,uF]) JE) fl))))
abbrev Qhi:T Lf:=sp (.eq dI (.lit 13)) (sp (.eq OA Qa) Qfk (sp (.lt (.sub OA Qv) Qa) fl (sp (.lt OA (.add Qv (.sub OA Qv))) fl (ou [.op .set E8 (cn JO (cn UM (cn WZ (cn Qes (cn Qeu (cn (.op .drop (.op .take UL (.add Qv (.sub OA Qv))) Qv) Qex)))))),Qh,dI,dY,wr (.add (nm (el UL Qa)) Qv),Qa,uF])))) (sp (.eq dI (.lit 14)) (ou [Qhe,Qh,dI,dY,OA,Qa,uF]) Qhh)
abbrev Qhj:T Lf:=sp (.lt Qa Qgb) (ou [.op .set E8 (cn JO (cn UM (cn WZ (cn Qes (cn Qeu (cn UL (cn (.op .snoc sU (mk iR)) sU))))))),Qh,dI,dY,iR,Qa,uF]) WY
abbrev Qhk:SE:=rr 12100 Qgy 14
abbrev Qhl:SE:=rr 12100 Qgy 15
abbrev Qhm:SE:=.add Qhk Qv
abbrev Qhn:SE:=.op .cat (.op .cat (.op .take Qhl Qhk) Qg3) (.op .drop Qhl Qhm)
abbrev Qho:SE:=rr 12100 Qg8 14
abbrev Qhp:SE:=rr 12100 Qg8 15
abbrev Qhq:SE:=.add Qho Qv
abbrev Qhr:SE:=.op .cat (.op .cat (.op .take Qhp Qho) Qg3) (.op .drop Qhp Qhq)
abbrev Qhs:SE:=cn WZ (cn Qes (cn Qeu (cn Qg3 Qex)))
abbrev Qht:T Lf:=sp Qe6 JE (sp Qe8 (sp Qe9 (sp Qfa (ou [.op .set E8 (cn JO (cn UM Qhs)),Qh,dI,dY,Qa,Qa,uF]) WY) JE) fl)
abbrev Qhu:T Lf:=sp Qft (sp (.lt Qfu Qa) JE fl) fl
abbrev Qhv:T Lf:=ou [.op .set E8 (cn JO (cn Qd0 Qhs)),Qh,dI,dY,Qa,Qa,I4]
abbrev Qhw:T Lf:=ou [.op .set Qg7 (cn JO (cn UM Qhs)),Qh,dI,dY,Qa,Qa,I4]
abbrev Qhx:T Lf:=sp (.eq dI (.lit 13)) Qfk (sp (.eq dI (.lit 14)) (ou [Qhe,Qh,dI,dY,Qa,Qa,uF]) Qhh)
def kH:T Lf:=sp (.eq (a0 9000 Qec) Qv) (sp (.eq Qed Qa) (sp Qds Qei (sp Qej fl Qei)) (sp (.eq Qed Qv) (sp Qee (sp Qef Qek (sp Ql Qek (sp Qm (sp Qds Qek Qek) Qek))) fl) (sp (.eq Qed uF) (sp Qee (sp Qef Qel (sp Ql Qel (sp Qm (sp Qds Qel Qel) Qel))) fl) (sp (.eq Qed I4) (sp Qee (sp Qef KH (sp Ql KH (sp Qm (sp Qds KH (sp Qej (sp Qe2 (sp Qe3 (sp Qe4 (sp Qe5 Qfe (sp Qff Qfg (sp Qfh Qfg (sp Qfi Qfl (sp Qfm Qfn (sp Qfo Qfr (sp Qfs Qf1 (sp Qf2 Qf3 (sp Qf4 Qf6 (sp Qf7 Qf8 (sp Qga Qgd (sp Qge Qgf (sp Qgg Qgh (sp Qgi Qgj (sp Qgk Qgl (sp Qgm Qgn (sp Qgo Qgp (sp Qgq Qgs (sp Qgt (sp Qgu fl (sp Qgv (sp Qgw (sp Qe6 (sp (.eq (a0 12000 Qgy) Qv) (sp (.eq (rr 12000 Qgy 0) Qa) Qgz (sp (.eq (rr 12000 Qgy 0) Qv) (sp (.lt Qg0 Qa) fl (sp (.lt (ln Qg1) Qg2) fl (sp (.lt Qg2 Qa) fl (sp (.lt (ln Qg4) Qg2) fl (ou [.op .set E8 (cn JO (cn Qd0 (cn WZ (cn Qes (cn Qeu (cn (.op .take Qg4 Qg2) Qex)))))),Qh,dI,dY,Qa,Qa,I4]))))) fl)) fl) JE) (sp Qg6 (sp (.eq (a0 12000 Qg8) Qv) (sp (.eq (rr 12000 Qg8 0) Qa) Qg9 (sp (.eq (rr 12000 Qg8 0) Qv) (sp (.lt Qha Qa) fl (sp (.lt (ln Qhb) Qhc) fl (sp (.lt Qhc Qa) fl (sp (.lt (ln Qhd) Qhc) fl (ou [.op .set Qg7 (cn JO (cn UM (cn WZ (cn Qes (cn Qeu (cn (.op .take Qhd Qhc) Qex)))))),Qh,dI,dY,Qa,Qa,I4]))))) fl)) fl) JE)) fl)) Qhi))))))))))))))))))) KH) fl) fl) KH)) KH))) fl) (sp (.eq Qed Qb7) (sp Qee (sp Qef KH (sp Ql KH (sp Qm (sp Qds KH (sp Qej (sp Qe2 (sp Qe3 (sp Qe4 (sp Qe5 Qfe (sp Qff Qfg (sp Qfh Qfg (sp Qfi Qfl (sp Qfm Qfn (sp Qfo Qfr (sp Qfs Qf1 (sp Qf2 Qf3 (sp Qf4 Qf6 (sp Qf7 Qf8 (sp Qga Qgd (sp Qge Qgf (sp Qgg Qgh (sp Qgi Qgj (sp Qgk Qgl (sp Qgm Qgn (sp Qgo Qhj (sp Qgq WY (sp Qgt (sp Qgu fl (sp Qgv (sp Qgw (sp Qe6 (sp (.eq (a0 12100 Qgy) Qv) (sp (.eq (rr 12100 Qgy 0) Qa) Qgz (sp (.eq (rr 12100 Qgy 0) Qv) (sp (.lt Qhk Qa) fl (sp (.lt (ln Qhl) Qhm) fl (sp (.lt Qhm Qa) fl (sp (.lt (ln Qhn) Qhm) fl (ou [.op .set E8 (cn JO (cn Qd0 (cn WZ (cn Qes (cn Qeu (cn (.op .take Qhn Qhm) Qex)))))),Qh,dI,dY,Qa,Qa,I4]))))) fl)) fl) JE) (sp Qg6 (sp (.eq (a0 12100 Qg8) Qv) (sp (.eq (rr 12100 Qg8 0) Qa) Qg9 (sp (.eq (rr 12100 Qg8 0) Qv) (sp (.lt Qho Qa) fl (sp (.lt (ln Qhp) Qhq) fl (sp (.lt Qhq Qa) fl (sp (.lt (ln Qhr) Qhq) fl (ou [.op .set Qg7 (cn JO (cn UM (cn WZ (cn Qes (cn Qeu (cn (.op .take Qhr Qhq) Qex)))))),Qh,dI,dY,Qa,Qa,I4]))))) fl)) fl) JE)) fl)) Qhi))))))))))))))))))) KH) fl) fl) KH)) KH))) fl) (sp (.eq Qed Qb9) (sp Qee (sp Qef KH (sp Ql KH (sp Qm (sp Qds KH (sp Qej (sp Qe2 (sp Qe3 (sp Qe4 (sp Qe5 Qfe (sp Qff Qfg (sp Qfh Qfg (sp Qfi Qfl (sp Qfm Qfn (sp Qfo Qht (sp Qfs Qhu (sp Qf2 Qfe (sp Qf4 Qf6 (sp Qf7 Qf8 (sp Qga Qgd (sp Qge Qgf (sp Qgg Qgh (sp Qgi Qgj (sp Qgk Qgl (sp Qgm Qgn (sp Qgo Qgp (sp Qgq Qgs (sp Qgt (sp Qgu fl (sp Qgv (sp Qgw (sp Qe6 (sp (.eq (a0 12200 Qgy) Qv) (sp (.eq (rr 12200 Qgy 0) Qa) Qhv fl) fl) JE) (sp Qg6 (sp (.eq (a0 12200 Qg8) Qv) (sp (.eq (rr 12200 Qg8 0) Qa) Qhw fl) fl) JE)) fl)) Qhx))))))))))))))))))) KH) fl) fl) KH)) KH))) fl) (sp (.eq Qed Qcb) (sp Qee (sp Qef KH (sp Ql KH (sp Qm (sp Qds KH (sp Qej (sp Qe2 (sp Qe3 (sp Qe4 (sp Qe5 Qfe (sp Qff Qfg (sp Qfh Qfg (sp Qfi Qfl (sp Qfm Qfn (sp Qfo Qht (sp Qfs Qhu (sp Qf2 Qfe (sp Qf4 Qf6 (sp Qf7 Qf8 (sp Qga Qgd (sp Qge Qgf (sp Qgg Qgh (sp Qgi Qgj (sp Qgk Qgl (sp Qgm Qgn (sp Qgo Qhj (sp Qgq WY (sp Qgt (sp Qgu fl (sp Qgv (sp Qgw (sp Qe6 (sp (.eq (a0 12300 Qgy) Qv) (sp (.eq (rr 12300 Qgy 0) Qa) Qhv fl) fl) JE) (sp Qg6 (sp (.eq (a0 12300 Qg8) Qv) (sp (.eq (rr 12300 Qg8 0) Qa) Qhw fl) fl) JE)) fl)) Qhx))))))))))))))))))) KH) fl) fl) KH)) KH))) fl) fl))))))) fl
abbrev Qhy:T Lf:=ju 451 [Qd,uK,Qa,Qb]
def ayM:T Lf:=sp (.lt (.lit 64) uK) Qhy (sp (.lt Qhg Qc) Qhy (ju 452 [Qd,uK,Qa,Qb]))
abbrev Qhz:T Lf:=ju 451 [Qd,Qb,Hu,Qh]
def atQ:T Lf:=sp W9 (sp OB fl (sp Qch Qhz fl)) (ju 453 [Qh,Qd6,Qa,Qd])
abbrev Qh0:List SE:=[Qd,Qh,Qck,YX,Qcm,Qcn,nm Qco]
def atP:T Lf:=sp W9 (sp OB fl (sp Qch (sp (.eq (a0 700 Qh0) Qv) (sp (.eq (rr 700 Qh0 0) Qa) Qhz (ju 452 [Qd,Qb,Hu,Qh])) fl) fl)) (ju 454 [Qh,Qd6,Qa,Qd])
abbrev Qh1:List SE:=[Qa,Qd,Qb,Qj,Qh,ce 0 Xa,YX,ce 2 Xa]
def atO:T Lf:=sp W9 (sp OB fl (sp Qch (ju 455 Qh1) fl)) (ou [.lit 120])
def atN:T Lf:=sp W9 (sp OB fl (sp Qch (sp (.lt (.lit 120) (ln YX)) (ju 455 Qh1) (sp (.lt (.lit 4000) (ln (ce 2 Xa))) (ju 455 Qh1) (ju 456 Qh1))) fl)) dF
abbrev Qh2:T Lf:=ju 453 [Qb,Qj,Qw,dI]
def atM:T Lf:=sp (.lt Qd (ln oW)) Qh2 Qh2
abbrev Qh3:SE:=el oW Qd
abbrev Qh4:List SE:=[dI,Qb,dY,iR,oW,nm (ce 0 Qh3),nm (ce 1 Qh3),nm (ce 2 Qh3),nm (ce 3 Qh3),nm (ce 4 Qh3),nm (ce 5 Qh3),ce 6 Qh3]
abbrev Qh5:SE:=wr (.add Qd Qv)
abbrev Qh6:List SE:=[ce 6 Qh3,dY,iR,oW]
abbrev Qh7:List SE:=[Qh5,Qb,Qj,Qh,dI,rr 5000 Qh6 0,rr 5000 Qh6 1,rr 5000 Qh6 2]
def atL:T Lf:=sp (.lt Qd (ln oW)) (sp (.lt Qd Qa) fl (sp (.eq (a0 750 Qh4) Qv) (sp (.eq (rr 750 Qh4 0) Qa) (ju 455 [Qh5,Qb,Qj,Qh,dI,dY,iR,oW]) (sp (.eq (a0 5000 Qh6) Qv) (sp (.eq (rr 5000 Qh6 3) Qa) (ju 456 Qh7) (ju 455 Qh7)) fl)) fl)) (ju 454 [Qb,Qj,Qw,dI])
abbrev Qh8:List SE:=[Qd,Qb,Qj,Qh,dI]
abbrev Qh9:SB:=.lt rV Qa
abbrev Qia:SB:=.lt Qa (ln yP)
abbrev Qib:SB:=.eq Qd Qb7
abbrev Qic:SB:=.lt Qa (ln KI)
abbrev Qid:SB:=.eq oW Qa
abbrev Qie:T Lf:=ju 501 [Ol,yP,ln yP,Qa,Qd,Qb,Qj,Qh,dI,dY,iR,oW,rV,KI,sU]
abbrev Qif:T Lf:=sp (.lt Qa rV) dF Qie
abbrev Qig:T Lf:=sp Qic dF (sp Qid Qif dF)
abbrev Qih:SB:=.eq Qd uF
abbrev Qii:SB:=.eq Qd (.lit 8)
abbrev Qij:SB:=.eq Qd Qb9
abbrev Qik:T Lf:=sp (.lt dY Qgx) dF (sp (.lt dY Ol) (sp Qh9 dF (sp (.lt Qhf rV) dF (sp Qds (sp Qia (sp Qib Qig (sp Qih Qig dF)) (sp Qic (sp Qii (sp Qid Qif dF) dF) (sp Qid (sp (.lt Qa rV) (sp Qij Qie dF) Qie) (sp (.eq Qd Qcb) Qif dF)))) (sp (.eq Qd Qv) (sp Qia dF Qig) (sp Qih (sp Qia Qig Qig) (sp (.eq Qd Qcb) (sp Qia dF (sp Qic dF (sp Qid Qif Qif))) dF)))))) dF)
def alY:T Lf:=sp (.eq (a0 650 Qh8) Qv) (sp (.eq (rr 650 Qh8 1) Qa) Qik (sp (.lt iR Qa) dF (sp (.lt (rr 650 Qh8 0) iR) dF Qik))) fl
abbrev Qil:SE:=.op .norm (mk (nm Qn)) Qa
abbrev Qim:T Lf:=ju 501 [Qd,Qb,Qj,Qw,dI,dY,iR,oW,rV,yP,KI,Ol,YW,Qdw,.op .tK Oj (cn Qil Qf)]
abbrev Qin:SE:=ln Qdw
abbrev Qio:T Lf:=sp (.lt yP Qa) qP (sp (.eq Qc Qa) (sp (.eq Ol Qa) qP dF) dF)
def aaX:T Lf:=sp Qk (sp Ql fl (sp Qm (sp (.lt (nm Qn) Qa) dF (sp (.lt (nm Qn) Qd) (sp (.eq (.op .JG Oj Qil) Qa) Qim (sp (.eq (nm (.op .EI Oj Qil)) Qv) dF Qim)) dF)) fl)) (sp (.lt iR Qa) (sp (.lt Qa Qin) dF Qio) (sp (.lt iR Qin) dF Qio))
def alX:T Lf:=sp (.lt Qa uK) (sp (.lt uK (.lit 1759218604441)) (ju 551 [Qd,uK,Qa]) fl) (sp (.eq (.op .norm Qd Qa) Qf) (ju 552 []) (sp (.eq (.op .norm Qd Qa) Qg) (ju 553 []) fl))
abbrev Qip:SB:=.lt Qa (ln Qd8)
abbrev Qiq:SB:=.lt (ln Qd8) Qq
abbrev Qir:SE:=mk Qj
abbrev Qis:SE:=.op .set Qd (cn Qir (.op .set Xa (cn Q8 Qco)))
abbrev Qit:SE:=.op .set Qd (cn Qir (.op .set Xa (cn Q8 Qf)))
abbrev Qiu:SE:=.op .set Qd (cn Qir (.op .set Xa (cn Q8 Qg)))
def atK:T Lf:=sp W9 (sp OB fl (sp Qch (sp (.lt Qa (ln Qco)) (sp (.lt (ln Qco) Qq) (sp Qip (sp Qiq (ju 551 [.op .set Qis (cn Qir (.op .set (el Qis Qj) (cn Qba Qd8))),Qb,Hu]) fl) (sp (.eq Qd8 Qf) (ju 551 [.op .set Qis (cn Qir (.op .set (el Qis Qj) Qbc)),Qb,Hu]) (sp (.eq Qd8 Qg) (ju 551 [.op .set Qis (cn Qir (.op .set (el Qis Qj) Qbe)),Qb,Hu]) fl))) fl) (sp (.eq Qco Qf) (sp Qip (sp Qiq (ju 551 [.op .set Qit (cn Qir (.op .set (el Qit Qj) (cn Qba Qd8))),Qb,Hu]) fl) (sp (.eq Qd8 Qf) (ju 551 [.op .set Qit (cn Qir (.op .set (el Qit Qj) Qbc)),Qb,Hu]) (sp (.eq Qd8 Qg) (ju 551 [.op .set Qit (cn Qir (.op .set (el Qit Qj) Qbe)),Qb,Hu]) fl))) (sp (.eq Qco Qg) (sp Qip (sp Qiq (ju 551 [.op .set Qiu (cn Qir (.op .set (el Qiu Qj) (cn Qba Qd8))),Qb,Hu]) fl) (sp (.eq Qd8 Qf) (ju 551 [.op .set Qiu (cn Qir (.op .set (el Qiu Qj) Qbc)),Qb,Hu]) (sp (.eq Qd8 Qg) (ju 551 [.op .set Qiu (cn Qir (.op .set (el Qiu Qj) Qbe)),Qb,Hu]) fl))) fl))) fl)) (ou [Qd])
def aBk:T Lf:=ou [Qf]
def aBj:T Lf:=ou [Qg]
abbrev Qiv:SB:=.eq Qd I4
abbrev Qiw:T Lf:=ou [uF]
abbrev Qix:T Lf:=ou [Qb7]
def ayG:T Lf:=sp (.lt (wr Qd) (.lit 27)) (sp (.lt Qd Qa) fl (sp (.lt Qd (.lit 27)) (sp (.eq Qd Qa) dF (sp (.eq Qd Qv) qP (sp Qih qP (sp Qiv qP (sp Qib qP (sp Qij Qiw (sp (.eq Qd Qcb) Qiw (sp (.eq Qd Qc9) Qiw (sp Qii Qiw (sp (.eq Qd Qd3) (ou [I4]) (sp (.eq Qd Qf9) (ou [I4]) (sp (.eq Qd (.lit 11)) (ou [I4]) (sp (.eq Qd (.lit 12)) Qix (sp (.eq Qd (.lit 13)) Qix (sp (.eq Qd (.lit 14)) Qix (sp (.eq Qd (.lit 15)) (ou [Qb9]) (sp (.eq Qd Qhg) (ou [Qcb]) (sp (.eq Qd (.lit 17)) (ou [Qc9]) (sp (.eq Qd (.lit 18)) (ou [Qc9]) (sp (.eq Qd (.lit 19)) (ou [Qc9]) (sp (.eq Qd WS) (ou [.lit 8]) (sp (.eq Qd (.lit 21)) (ou [.lit 8]) (sp (.eq Qd (.lit 22)) (ou [Qd3]) (sp (.eq Qd (.lit 23)) (ou [Qd3]) (sp (.eq Qd (.lit 24)) Qix (sp (.eq Qd (.lit 25)) (ou [Qb9]) (ou [Qcb]))))))))))))))))))))))))))) fl)) dF
def atJ:T Lf:=sp Qiv (ou [Qj,Qv]) (sp Qij (ou [wr (.sub Qj Qv),Qv]) (sp (.eq Qd Qc9) (ou [.lit 1099511627776,Qv]) (sp (.eq Qd Qd3) (ou [Qa,Qa]) (ou [Qa,Qv]))))
abbrev Qiy:T Lf:=sp (.eq dI Qa) qP dF
abbrev Qiz:T Lf:=sp Qdl dF (sp (.lt (.lit 1048576) dI) dF qP)
def ayF:T Lf:=sp (.eq Qj Qv) Qiy (sp (.eq Qj uF) Qiy (sp (.eq Qj Qcb) Qiy (sp (.eq Qj Qc9) Qiy (sp (.eq Qj I4) Qiz (sp (.eq Qj (.lit 8)) Qiz (sp (.eq Qj Qb9) (sp Qdl dF (sp (.lt Qhg dI) dF qP)) (sp (.eq Qj Qb7) (sp (.lt dI Qa) dF (sp (.lt dI uK) (sp (.eq (nm (ce 0 (el Qd dI))) Qv) qP dF) dF)) (sp (.eq Qj Qd3) qP dF))))))))
abbrev Qi0:SB:=.lt oW Qa
abbrev Qi1:SB:=.eq dY Qv
abbrev Qi2:SB:=.eq dY uF
abbrev Qi3:SB:=.eq dY I4
abbrev Qi4:SB:=.eq dY Qb7
abbrev Qi5:SB:=.eq dY Qb9
abbrev Qi6:T Lf:=sp (.eq dY Qcb) dF (sp (.eq dY Qc9) dF dF)
abbrev Qi7:T Lf:=sp Qi3 dF (sp Qi4 dF (sp Qi5 dF Qi6))
abbrev Qi8:SB:=.lt oW uK
abbrev Qi9:SE:=nm (ce 0 (el Qd oW))
abbrev Qja:List SE:=[Qi9,dY,iR,oW,rV,yP,KI,Ol,Qa]
abbrev Qjb:T Lf:=sp (.eq iR Qhg) dF qP
abbrev Qjc:T Lf:=sp (.eq (a0 950 Qja) Qv) (sp (.eq (rr 950 Qja 0) Qa) dF Qjb) fl
abbrev Qjd:T Lf:=sp Qi8 (sp (.eq Qi9 Qcb) qP dF) dF
abbrev Qje:T Lf:=sp (.eq (ln Ol) Qv) qP dF
abbrev Qjf:T Lf:=sp (.lt Qde yP) dF Qje
abbrev Qjg:T Lf:=sp (.lt Qde yP) dF qP
abbrev Qjh:T Lf:=sp Qi3 dF (sp Qi4 Qjf (sp Qi5 Qjg Qi6))
abbrev Qji:T Lf:=sp (.eq iR Qhg) Qjg qP
abbrev Qjj:T Lf:=sp (.eq (a0 950 Qja) Qv) (sp (.eq (rr 950 Qja 0) Qa) dF Qji) fl
abbrev Qjk:SB:=.lt rV Qd6
abbrev Qjl:T Lf:=sp Qi3 (sp Qjk Qje dF) (sp Qi4 dF (sp Qi5 dF (sp (.eq dY Qcb) (sp Qjk qP dF) (sp (.eq dY Qc9) (sp Qjk dF dF) dF))))
abbrev Qjm:List SE:=[Qi9,dY,iR,oW,rV,yP,KI,Ol,Qv]
abbrev Qjn:T Lf:=sp Qi3 (sp Qjk Qje dF) (sp Qi4 Qjf (sp Qi5 Qjg (sp (.eq dY Qcb) (sp Qjk qP dF) (sp (.eq dY Qc9) (sp Qjk Qjg dF) dF))))
def ayE:T Lf:=sp Qh9 (sp (.lt yP Qa) (sp Qi0 (sp Qi1 dF (sp Qi2 dF Qi7)) (sp Qi1 (sp Qi8 Qjc dF) (sp Qi2 Qjd Qi7))) (sp Qi0 (sp Qi1 dF (sp Qi2 dF Qjh)) (sp Qi1 (sp Qi8 Qjj dF) (sp Qi2 Qjd Qjh)))) (sp (.lt yP Qa) (sp Qi0 (sp Qi1 dF (sp Qi2 dF Qjl)) (sp Qi1 (sp Qi8 (sp Qjk (sp (.eq (a0 950 Qjm) Qv) (sp (.eq (rr 950 Qjm 0) Qa) dF Qjb) fl) Qjc) dF) (sp Qi2 Qjd Qjl))) (sp Qi0 (sp Qi1 dF (sp Qi2 dF Qjn)) (sp Qi1 (sp Qi8 (sp Qjk (sp (.eq (a0 950 Qjm) Qv) (sp (.eq (rr 950 Qjm 0) Qa) dF Qji) fl) Qjj) dF) (sp Qi2 Qjd Qjn))))
abbrev Qjo:List SE:=[Qd,Qb,Qj,Qh,Qv,.lit 1000,dI]
def ayD:T Lf:=sp (.eq (a0 5050 Qjo) Qv) (sp (.eq (rr 5050 Qjo 2) Qa) dF qP) fl
def ayC:T Lf:=ju 851 [Qd,Qb,uK,Qa]
def alW:T Lf:=sp Qk (sp Ql fl (sp (.lt Qh uK) (sp (.eq Qb (nm UN)) (ou [Qh]) (ju 851 Qdz)) fl)) (ou [Qgx])
def ayB:T Lf:=sp (.eq (a0 850 Xb) Qv) (sp (.lt (rr 850 Xb 0) Qa) dF qP) fl
abbrev Qjp:List SE:=[Qd,ln oW,Qb,Qj,Qh,dI,dY,iR,oW]
def ayA:T Lf:=sp (.eq rV Qa) (ju 951 Qjp) (ju 952 Qjp)
abbrev Qjq:SE:=cn Qf (cn sU (cn sU (cn Qf sU)))
abbrev Qjr:List SE:=[Qd,Qb,Qv,Qj,Qh,dI,dY,iR,oW,rV,.op .snoc sU Qjq]
abbrev Qjs:List SE:=[Qd,Qv,Qa,Qa,Qh,Qa,Qa]
abbrev Qjt:SB:=.eq (a0 1200 [Qh]) Qv
abbrev Qju:SB:=.eq Qd (rr 1200 [Qh] 0)
abbrev Qjv:List SE:=[Qd,sU]
abbrev Qjw:SB:=.eq (a0 5150 Qjv) Qv
abbrev Qjx:SB:=.eq (rr 5150 Qjv 2) Qa
abbrev Qjy:T Lf:=sp (.eq Qh Qhg) qP qP
abbrev Qjz:T Lf:=sp Qjt (sp Qju (sp Qjw (sp Qjx dF (sp (.lt WS (ln (rr 5150 Qjv 1))) dF Qjy)) fl) dF) fl
abbrev Qj0:T Lf:=sp (.eq (a0 12400 Qjs) Qv) (sp (.eq (rr 12400 Qjs 0) Qa) dF (sp (.eq (rr 12400 Qjs 0) Qv) Qjz fl)) fl
abbrev Qj1:List SE:=[Qa,Qa,Qd,Qa,Qa,Qa,Qh,Qa,Qa]
abbrev Qj2:SB:=.eq (a0 5200 Qjv) Qv
abbrev Qj3:SB:=.eq (rr 5200 Qjv 3) Qa
abbrev Qj4:List SE:=[Qd,Qa,Qa,Qa,Qh,Qa,Qa]
abbrev Qj5:T Lf:=sp Qiv Qj0 (sp Qii Qj0 (sp Qij Qj0 (sp Qib (sp (.eq (a0 12450 Qj1) Qv) (sp (.eq (rr 12450 Qj1 0) Qa) dF (sp (.eq (rr 12450 Qj1 0) Qv) (sp Qjt (sp Qju (sp Qj2 (sp Qj3 dF (sp (.lt WS (ln (rr 5200 Qjv 2))) dF Qjy)) fl) dF) fl) fl)) fl) (sp (.eq (a0 12400 Qj4) Qv) (sp (.eq (rr 12400 Qj4 0) Qa) dF (sp (.eq (rr 12400 Qj4 0) Qv) Qjz fl)) fl))))
abbrev Qj6:SB:=.eq (rr 12500 Qjs 0) Qa
abbrev Qj7:SB:=.eq (rr 12500 Qjs 0) Qv
abbrev Qj8:SE:=.dat (.p (.i 97) (.i 0))
abbrev Qj9:SE:=cn Qj8 Qf
abbrev Qka:SB:=.lt WS (ln (.op .tK (rr 5150 Qjv 1) Qj9))
abbrev Qkb:T Lf:=sp Qjt (sp Qju (sp Qjw (sp Qjx dF (sp Qka dF (sp (.eq Qh Qhg) dF dF))) fl) dF) fl
abbrev Qkc:T Lf:=sp (.eq (a0 12500 Qjs) Qv) (sp Qj6 dF (sp Qj7 Qkb fl)) fl
abbrev Qkd:SB:=.eq (rr 12550 Qj1 0) Qa
abbrev Qke:SB:=.eq (rr 12550 Qj1 0) Qv
abbrev Qkf:SB:=.lt WS (ln (.op .tK (rr 5200 Qjv 2) Qj9))
abbrev Qkg:SB:=.eq (rr 12500 Qj4 0) Qa
abbrev Qkh:SB:=.eq (rr 12500 Qj4 0) Qv
def atI:T Lf:=sp (.lt Qa Qb) (ju 953 Qjr) (sp (.eq dY Qgx) Qj5 (sp Qiv Qkc (sp Qii Qkc (sp Qij Qkc (sp Qib (sp (.eq (a0 12550 Qj1) Qv) (sp Qkd dF (sp Qke (sp Qjt (sp Qju (sp Qj2 (sp Qj3 dF (sp Qkf dF (sp (.eq Qh Qhg) dF dF))) fl) dF) fl) fl)) fl) (sp (.eq (a0 12500 Qj4) Qv) (sp Qkg dF (sp Qkh Qkb fl)) fl))))))
abbrev Qki:T Lf:=sp Qjt (sp Qju (sp Qjw (sp Qjx dF (sp Qka dF Qjy)) fl) dF) fl
abbrev Qkj:T Lf:=sp (.eq (a0 12500 Qjs) Qv) (sp Qj6 dF (sp Qj7 Qki fl)) fl
def atH:T Lf:=sp (.lt Qa Qb) (ju 954 Qjr) (sp (.eq dY Qgx) Qj5 (sp Qiv Qkj (sp Qii Qkj (sp Qij Qkj (sp Qib (sp (.eq (a0 12550 Qj1) Qv) (sp Qkd dF (sp Qke (sp Qjt (sp Qju (sp Qj2 (sp Qj3 dF (sp Qkf dF Qjy)) fl) dF) fl) fl)) fl) (sp (.eq (a0 12500 Qj4) Qv) (sp Qkg dF (sp Qkh Qki fl)) fl))))))
abbrev Qkk:SB:=.lt (ln KI) (.lit 2513169434915)
abbrev Qkl:List SE:=[Qd,Qb,Hu,Qh,dI,dY,iR,oW,rV,yP,.op .snoc KI Qjq]
abbrev Qkm:List SE:=[Qd,Qv,Qa,Qa,dI,Qa,KI,Qa]
abbrev Qkn:SB:=.eq (a0 1200 [dI]) Qv
abbrev Qko:SB:=.eq Qd (rr 1200 [dI] 0)
abbrev Qkp:List SE:=[rr 12600 Qkm 9,rr 12600 Qkm 10,Qd,sU]
abbrev Qkq:T Lf:=sp (.eq dI Qhg) qP qP
abbrev Qkr:T Lf:=sp (.eq (a0 12600 Qkm) Qv) (sp (.eq (rr 12600 Qkm 0) Qa) dF (sp (.eq (rr 12600 Qkm 0) Qv) (sp Qkn (sp Qko (sp (.eq (a0 5300 Qkp) Qv) (sp (.eq (rr 5300 Qkp 3) Qa) dF (sp (.lt WS (ln (rr 5300 Qkp 2))) dF Qkq)) fl) dF) fl) fl)) fl
abbrev Qks:List SE:=[Qa,Qa,Qd,Qa,Qa,Qa,dI,Qa,KI,Qa]
abbrev Qkt:List SE:=[rr 12650 Qks 11,rr 12650 Qks 12,Qd,sU]
abbrev Qku:List SE:=[Qd,Qa,Qa,Qa,dI,Qa,KI,Qa]
abbrev Qkv:List SE:=[rr 12600 Qku 9,rr 12600 Qku 10,Qd,sU]
abbrev Qkw:T Lf:=sp Qiv Qkr (sp Qii Qkr (sp Qij Qkr (sp Qib (sp (.eq (a0 12650 Qks) Qv) (sp (.eq (rr 12650 Qks 0) Qa) dF (sp (.eq (rr 12650 Qks 0) Qv) (sp Qkn (sp Qko (sp (.eq (a0 5350 Qkt) Qv) (sp (.eq (rr 5350 Qkt 4) Qa) dF (sp (.lt WS (ln (rr 5350 Qkt 3))) dF Qkq)) fl) dF) fl) fl)) fl) (sp (.eq (a0 12600 Qku) Qv) (sp (.eq (rr 12600 Qku 0) Qa) dF (sp (.eq (rr 12600 Qku 0) Qv) (sp Qkn (sp Qko (sp (.eq (a0 5300 Qkv) Qv) (sp (.eq (rr 5300 Qkv 3) Qa) dF (sp (.lt WS (ln (rr 5300 Qkv 2))) dF Qkq)) fl) dF) fl) fl)) fl))))
abbrev Qkx:SB:=.eq (rr 12700 Qkm 0) Qa
abbrev Qky:SB:=.eq (rr 12700 Qkm 0) Qv
abbrev Qkz:List SE:=[rr 12700 Qkm 9,rr 12700 Qkm 10,Qd,sU]
abbrev Qk0:SB:=.eq (rr 5300 Qkz 3) Qa
abbrev Qk1:SB:=.lt WS (ln (.op .tK (rr 5300 Qkz 2) Qj9))
abbrev Qk2:T Lf:=sp (.eq dI Qhg) dF dF
abbrev Qk3:T Lf:=sp (.eq (a0 12700 Qkm) Qv) (sp Qkx dF (sp Qky (sp Qkn (sp Qko (sp (.eq (a0 5300 Qkz) Qv) (sp Qk0 dF (sp Qk1 dF Qk2)) fl) dF) fl) fl)) fl
abbrev Qk4:SB:=.eq (rr 12750 Qks 0) Qa
abbrev Qk5:SB:=.eq (rr 12750 Qks 0) Qv
abbrev Qk6:List SE:=[rr 12750 Qks 11,rr 12750 Qks 12,Qd,sU]
abbrev Qk7:SB:=.eq (rr 5350 Qk6 4) Qa
abbrev Qk8:SB:=.lt WS (ln (.op .tK (rr 5350 Qk6 3) Qj9))
abbrev Qk9:SB:=.eq (rr 12700 Qku 0) Qa
abbrev Qla:SB:=.eq (rr 12700 Qku 0) Qv
abbrev Qlb:List SE:=[rr 12700 Qku 9,rr 12700 Qku 10,Qd,sU]
abbrev Qlc:SB:=.eq (rr 5300 Qlb 3) Qa
abbrev Qld:SB:=.lt WS (ln (.op .tK (rr 5300 Qlb 2) Qj9))
def vY:T Lf:=sp W9 (sp Qkk (ju 953 Qkl) fl) (sp (.eq iR Qgx) Qkw (sp Qiv Qk3 (sp Qii Qk3 (sp Qij Qk3 (sp Qib (sp (.eq (a0 12750 Qks) Qv) (sp Qk4 dF (sp Qk5 (sp Qkn (sp Qko (sp (.eq (a0 5350 Qk6) Qv) (sp Qk7 dF (sp Qk8 dF Qk2)) fl) dF) fl) fl)) fl) (sp (.eq (a0 12700 Qku) Qv) (sp Qk9 dF (sp Qla (sp Qkn (sp Qko (sp (.eq (a0 5300 Qlb) Qv) (sp Qlc dF (sp Qld dF Qk2)) fl) dF) fl) fl)) fl))))))
abbrev Qle:T Lf:=sp (.eq (a0 12700 Qkm) Qv) (sp Qkx dF (sp Qky (sp Qkn (sp Qko (sp (.eq (a0 5300 Qkz) Qv) (sp Qk0 dF (sp Qk1 dF Qkq)) fl) dF) fl) fl)) fl
def vX:T Lf:=sp W9 (sp Qkk (ju 954 Qkl) fl) (sp (.eq iR Qgx) Qkw (sp Qiv Qle (sp Qii Qle (sp Qij Qle (sp Qib (sp (.eq (a0 12750 Qks) Qv) (sp Qk4 dF (sp Qk5 (sp Qkn (sp Qko (sp (.eq (a0 5350 Qk6) Qv) (sp Qk7 dF (sp Qk8 dF Qkq)) fl) dF) fl) fl)) fl) (sp (.eq (a0 12700 Qku) Qv) (sp Qk9 dF (sp Qla (sp Qkn (sp Qko (sp (.eq (a0 5300 Qlb) Qv) (sp Qlc dF (sp Qld dF Qkq)) fl) dF) fl) fl)) fl))))))
def aqX:T Lf:=sp (.eq (a0 1050 [Qd,Qa]) Qv) (sp (.eq (rr 1050 [Qd,Qa] 6) Qa) (sp (.eq (rr 1050 [Qd,Qa] 0) uF) (sp (.eq (wr (.sub (rr 1050 [Qd,Qa] 5) (rr 1050 [Qd,Qa] 4))) uK) qP dF) dF) dF) fl
abbrev Qlf:T Lf:=ou [Qa,sU,Qa,Qa,Qa,Qa,uF,Qa]
abbrev YV:SE:=rr 12800 Xb 3
abbrev Qlh:SE:=wr (.add (.op .cnt (.op .sub Qd (cn sU (cn (mk YV) sU))) Qf9) Qv)
abbrev Qli:SE:=rr 12850 [Qd,YV] 3
abbrev Qlj:SE:=.op .sub Qd (cn (mk YV) (cn (mk Qli) sU))
abbrev Qlk:SE:=nm (el Qlj Qa)
abbrev Qll:SE:=.lit 256
abbrev Qlm:SE:=nm (el (.dat b0) Qlk)
abbrev Qln:T Lf:=ou [Qa,sU,Qa,Qa,Qa,Qa,.lit 100,Qlh]
abbrev Qlo:SE:=.dat (.p (.i 32) (.i 0))
abbrev Qlp:SB:=.eq (.op .norm Qlj Qa) (.dat (.p (.i 61) (.i 0)))
def Zb:T Lf:=sp (.lt (.lit 16384) uK) (ou [Qa,sU,Qa,Qa,Qa,Qa,I4,Qa]) (sp Qdf Qlf (sp (.lt uK Qb) Qlf (sp (.eq (a0 12800 Xb) Qv) (sp (.eq (rr 12800 Xb 0) Qa) (sp (.lt YV Qa) fl (sp (.lt uK YV) fl (sp (.eq YV uK) (ou [Qb9,sU,Qa,Qlh,YV,YV,Qa,Qa]) (sp (.eq (a0 12850 [Qd,YV]) Qv) (sp (.eq (rr 12850 [Qd,YV] 0) Qa) (sp (.lt Qli YV) fl (sp (.lt uK Qli) fl (sp (.lt Qa (ln Qlj)) (sp (.lt Qlk Qa) fl (sp (.lt Qlk Qll) (sp (.eq Qlm I4) (sp (.eq (a0 1100 [Qlj]) Qv) (sp (.eq (rr 1100 [Qlj] 1) Qa) Qln (ou [Qv,sU,rr 1100 [Qlj] 0,Qlh,YV,Qli,Qa,Qa])) fl) (sp (.eq Qlm Qb7) (sp (.lt (ln Qlj) (.lit 1000000000)) (sp (.lt (ln (.op .cat Qlo Qlj)) (.lit 1000000000)) (sp (.eq (.op .con (.dat b1) (.op .cat (.op .cat Qlo Qlj) Qlo)) Qa) (sp Qlp Qln (ou [uF,Qlj,Qa,Qlh,YV,Qli,Qa,Qa])) (sp Qlp Qln (ou [I4,Qlj,Qa,Qlh,YV,Qli,Qa,Qa]))) fl) fl) (sp (.eq Qlm Qb9) (sp Qlp Qln (ou [Qb7,Qlj,Qa,Qlh,YV,Qli,Qa,Qa])) Qln))) fl)) fl))) fl) fl)))) fl) fl)))
def aqW:T Lf:=sp (.eq uK Qa) (ju 1101 []) (ju 1102 [Qa,Qd,uK,Qa])
def ayN:T Lf:=ou [Qa,Qv]
abbrev Qlq:SE:=wr (.wrap .u8 (.sub (nm Qn) (.lit 48)))
def afI:T Lf:=sp Qk (sp Ql fl (sp Qm (sp (.lt (wr (.quo (wr (.sub (.lit 9223372036854775807) Qlq)) Qf9)) Qd) (ou [Qa,Qa]) (ju 1102 [wr (.add (wr (.mul Qd Qf9)) Qlq),Qb,Qj,Qw])) fl)) (ou [Qd,Qv])
abbrev Qlr:SB:=.eq (rr 1000 [Qb] 0) Qa
abbrev Qls:SE:=wr (.sub Qd6 Qv)
abbrev Qlt:SE:=.dat (.p (.i 45) (.i 0))
abbrev Qlu:SE:=.dat (.p (.i 43) (.i 0))
abbrev Qlv:SE:=.dat (.p (.i 42) (.i 0))
abbrev Qlw:SE:=.dat (.p (.i 61) (.p (.i 61) (.i 0)))
abbrev Qlx:SE:=.dat (.p (.i 60) (.i 0))
def aqV:T Lf:=sp (.eq Qd Qv) (sp OB dF (sp (.eq Qe sU) (sp (.eq Qd6 Qa) qP dF) dF)) (sp Qih (sp (.eq Qj Qa) (sp (.eq Qd6 Qa) (sp (.eq (a0 1000 [Qb]) Qv) (sp Qlr dF qP) fl) dF) dF) (sp Qiv (sp (.eq Qj Qa) (sp (.lt Qd6 Qv) dF (sp (.lt uF Qd6) dF (sp (.lt Qls Qa) fl (sp (.lt Qls uF) (sp (.eq Qls Qa) (sp (.eq Qe Qlt) qP dF) (sp (.eq Qe Qlu) qP (sp (.eq Qe Qlt) qP (sp (.eq Qe Qlv) qP (sp (.eq Qe Qlw) qP (sp (.eq Qe Qlx) qP dF)))))) fl)))) dF) dF))
def aqU:T Lf:=sp (.lt Qb7 Qd) (sp (.lt (.lit 8) Qd) (sp (.lt (.lit 11) Qd) (sp (.lt (.lit 14) Qd) (sp (.eq Qd (.lit 15)) (ou [Qb9]) (sp (.eq Qd Qhg) (ou [Qcb]) (sp (.lt (.lit 19) Qd) (sp (.lt (.lit 21) Qd) (ou [Qd3]) (ou [.lit 8])) (ou [Qc9])))) Qix) (ou [I4])) Qiw) qP
def aqT:T Lf:=sp Qib qP (sp (.eq Qd (.lit 17)) qP (sp (.eq Qd WS) qP (sp (.eq Qd (.lit 23)) qP dF)))
def aqS:T Lf:=sp Qiv qP (sp Qib qP (sp (.eq Qd (.lit 11)) qP (sp (.eq Qd (.lit 21)) qP (sp (.eq Qd (.lit 22)) qP dF))))
def aqR:T Lf:=sp Qiv qP (sp Qij qP (sp Qii qP (sp (.eq Qd Qd3) qP dF)))
abbrev Qly:T Lf:=sp Qib (sp (.eq (a0 1000 [Qh]) Qv) (sp (.eq (rr 1000 [Qh] 0) Qa) dF qP) fl) (sp (.eq (.op .norm Qh Qa) sU) qP dF)
def aqQ:T Lf:=sp (.lt Qd Qv) dF (sp (.lt Qd3 Qd) dF (sp (.eq (a0 1000 [Qb]) Qv) (sp Qlr dF (sp OB dF (sp (.lt Qa Qj) (sp (.eq (a0 1350 [Qd]) Qv) (sp (.eq (rr 1350 [Qd] 0) Qa) dF Qly) fl) Qly))) fl))
abbrev Qlz:List SE:=[Qd,Qb,Qj,Qh]
def aqP:T Lf:=sp (.eq (a0 5400 Qlz) Qv) (sp (.lt (rr 5400 Qlz 3) Qa) (ou [rr 5400 Qlz 0,rr 5400 Qlz 1,rr 5400 Qlz 2,Qa]) (ou [rr 5400 Qlz 0,rr 5400 Qlz 1,rr 5400 Qlz 2,Qv])) fl
abbrev Ql0:SE:=wr (.sub dY Qv)
def aqO:T Lf:=sp (.lt Ql0 Qa) (ou [Ql0,iR,Qa]) (sp (.lt WS dI) (ou [Ql0,iR,Qa]) (ju 5051 [dI,Qh,Qd6,Qa,Ql0,iR,Qd,Qb,Qj]))
abbrev Ql1:List SE:=[Qdp,ce 1 Qn,Qdr,ce 3 Qn,Qh5,dI,dY]
abbrev Ql2:SE:=.op .norm oW Qa
abbrev Ql3:T Lf:=ou [dI,dY,Qa]
abbrev Ql4:T Lf:=ou [dI,dY,Qv]
def aeS:T Lf:=sp Qk (sp Ql fl (sp Qm (sp (.eq (a0 5050 Ql1) Qv) (sp (.eq (rr 5050 Ql1 2) Qa) (ou [rr 5050 Ql1 0,rr 5050 Ql1 1,Qa]) (ju 5051 [Qd,Qb,Qj,Qw,rr 5050 Ql1 0,rr 5050 Ql1 1,iR,oW,rV])) fl) fl)) (sp (.eq iR Qv) (sp (.eq Qc Qa) (sp (.eq Ql2 sU) (sp Qh9 Ql3 Ql4) Ql3) Ql3) (sp (.eq iR uF) (sp (.eq Qc Qa) (sp Qh9 Ql3 (sp (.lt rV dY) (sp (.eq (a0 12900 [oW,Qa]) Qv) (sp (.eq (rr 12900 [oW,Qa] 0) Qa) Ql3 (sp (.eq (rr 12900 [oW,Qa] 0) Qv) Ql4 fl)) fl) Ql3)) Ql3) (sp (.eq iR I4) (sp (.eq rV Qa) (sp (.eq Qc Qv) (sp (.eq Ql2 Qlt) Ql4 Ql3) (sp (.eq Qc uF) (sp (.eq Ql2 Qlu) Ql4 (sp (.eq Ql2 Qlt) Ql4 (sp (.eq Ql2 Qlv) Ql4 (sp (.eq Ql2 Qlw) Ql4 (sp (.eq Ql2 Qlx) Ql4 Ql3))))) Ql3)) Ql3) Ql3)))
def aqN:T Lf:=ju 5101 Xb
def ayL:T Lf:=ou [Qb]
def aqM:T Lf:=ju 5151 Xb
def ayK:T Lf:=ou [Qd,Qb,Qv]
def aqL:T Lf:=ju 5201 Xb
def ayJ:T Lf:=ou [Qv,Qd,Qb,Qv]
def aqK:T Lf:=ju 5251 [Qb,Qd,uK,Qa,Qj]
abbrev Ql5:SB:=.lt (.lit 1000) (wr (.add dI Qv))
abbrev Ql6:SB:=.eq (a0 1150 [Qdp,ce 1 Qn,Qdr,ce 3 Qn]) Qv
abbrev Ql7:SB:=.eq (rr 1150 [Qdp,ce 1 Qn,Qdr,ce 3 Qn] 0) Qa
abbrev Ql8:List SE:=[ce 3 Qn,Qh5,wr (.add dI Qv)]
abbrev Ql9:List SE:=[Qd,Qb,Qj,Qw,rr 5450 Ql8 0]
def aeR:T Lf:=sp Qk (sp Ql fl (sp Qm (sp Ql5 fl (sp (.lt WS Qd) fl (sp Ql6 (sp Ql7 fl (sp (.eq (a0 5450 Ql8) Qv) (ju 5251 Ql9) fl)) fl))) fl)) (ou [dI,Qb])
def aqJ:T Lf:=ju 5301 [Qd,Qa,Qb,Qj,Qh]
abbrev Qma:SB:=.eq (nm (ce 0 (el Qj Qb))) uF
abbrev Qmb:SE:=ce 1 (el Qj Qb)
abbrev Qmc:List SE:=[ce 3 (el Qj Qb),Qh,dI]
abbrev Qmd:T Lf:=sp (.eq (a0 5500 Qmc) Qv) (sp (.eq (rr 5500 Qmc 2) Qa) (ou [Qj,rr 5500 Qmc 0,rr 5500 Qmc 1,Qa]) (ju 5301 [Qd,Qdg,Qj,rr 5500 Qmc 0,rr 5500 Qmc 1])) fl
def aeQ:T Lf:=sp (.lt Qb Qd) (sp Qdf fl (sp (.lt Qb (ln Qj)) (sp Qma (sp (.eq (.op .JG dI Qmb) Qa) (ou [Qj,Qh,dI,Qa]) (sp (.eq (nm (.op .EI dI Qmb)) Qa) (ou [Qj,Qh,dI,Qa]) Qmd)) Qmd) fl)) (ou [Qj,Qh,dI,Qv])
def aqI:T Lf:=ju 5351 [Qd,Qa,Qb,Qv,Qj,Qh]
abbrev Qme:T Lf:=ou [Qj,Qh,dI,dY,Qa]
abbrev Qmf:List SE:=[ce 3 (el Qj Qb),Qh,dI,dY]
abbrev Qmg:T Lf:=sp (.eq (a0 5600 Qmf) Qv) (sp (.eq (rr 5600 Qmf 3) Qa) (ou [Qj,rr 5600 Qmf 0,rr 5600 Qmf 1,rr 5600 Qmf 2,Qa]) (ju 5351 [Qd,Qdg,Qj,rr 5600 Qmf 0,rr 5600 Qmf 1,rr 5600 Qmf 2])) fl
def aeP:T Lf:=sp (.lt Qb Qd) (sp Qdf fl (sp (.lt Qb (ln Qj)) (sp Qma (sp (.eq (.op .JG dY Qmb) Qa) Qme (sp (.eq (nm (.op .EI dY Qmb)) Qa) Qme Qmg)) Qmg) fl)) (ou [Qj,Qh,dI,dY,Qv])
def aqH:T Lf:=ju 5401 [Qd,uK,Qa,Qb,Qj,Qh]
def aeO:T Lf:=sp W9 (sp OB fl (sp Qch (sp (.eq (a0 800 [Qck,YX,Qcm,Qcn,Qde]) Qv) (sp (.eq (rr 800 [Qck,YX,Qcm,Qcn,Qde] 0) Qa) (ou [Qh,dI,dY,Qj]) (ju 5401 [Qd,Qb,Hu,Qh,dI,dY])) fl) fl)) (ou [Qh,dI,dY,Qgx])
def aqG:T Lf:=ju 5451 [Qb,Qd,uK,Qa,Qj]
def aqF:T Lf:=sp Qk (sp Ql fl (sp Qm (sp Ql5 fl (sp (.lt WS Qd) fl (sp Ql6 (sp Ql7 fl (sp (.eq (a0 5450 Ql8) Qv) (ju 5451 Ql9) fl)) fl))) fl)) (ou [dI])
def aqE:T Lf:=ju 5501 [Qd,uK,Qa,Qb,Qj]
abbrev Qmh:List SE:=[Qcn,Qh,dI]
abbrev Qmi:T Lf:=sp (.eq (a0 5500 Qmh) Qv) (sp (.eq (rr 5500 Qmh 2) Qa) (ou [rr 5500 Qmh 0,rr 5500 Qmh 1,Qa]) (ju 5501 [Qd,Qb,Hu,rr 5500 Qmh 0,rr 5500 Qmh 1])) fl
def aqD:T Lf:=sp W9 (sp OB fl (sp Qch (sp (.eq Qck uF) (sp (.eq (.op .JG dI YX) Qa) (ou [Qh,dI,Qa]) (sp (.eq (nm (.op .EI dI YX)) Qa) (ou [Qh,dI,Qa]) Qmi)) Qmi) fl)) (ou [Qh,dI,Qv])
def ayI:T Lf:=ju 5551 [Qd,uK,Qa,Qv,Qb,Qj]
abbrev Qmj:SB:=.eq (.op .JG dY YX) Qa
abbrev Qmk:T Lf:=ou [Qh,dI,dY,Qa]
abbrev Qml:SB:=.eq (nm (.op .EI dY YX)) Qa
abbrev Qmm:List SE:=[Qcn,Qh,dI,dY]
abbrev Qmn:SB:=.eq (rr 5600 Qmm 3) Qa
abbrev Qmo:T Lf:=ou [rr 5600 Qmm 0,rr 5600 Qmm 1,rr 5600 Qmm 2,Qa]
abbrev Qmp:List SE:=[Qd,Qb,Hu,rr 5600 Qmm 0,rr 5600 Qmm 1,rr 5600 Qmm 2]
abbrev Qmq:T Lf:=sp (.eq (a0 5600 Qmm) Qv) (sp Qmn Qmo (ju 5551 Qmp)) fl
def ayH:T Lf:=sp W9 (sp OB fl (sp Qch (sp (.eq Qck uF) (sp Qmj Qmk (sp Qml Qmk Qmq)) Qmq) fl)) (ou [Qh,dI,dY,Qv])
def aqC:T Lf:=ju 5601 [Qd,uK,Qa,Qb,Qj,Qh]
abbrev Qmr:T Lf:=sp (.eq (a0 5600 Qmm) Qv) (sp Qmn Qmo (ju 5601 Qmp)) fl
def aqB:T Lf:=sp W9 (sp OB fl (sp Qch (sp (.eq Qck uF) (sp Qmj Qmk (sp Qml Qmk Qmr)) Qmr) fl)) (ou [Qh,dI,dY,Qv])
abbrev Qms:List SE:=[Qd,Qb,Qj,Qh,dI,dY,iR,oW,rV,yP,KI,Ol,YW]
abbrev Qmt:SE:=rr 12050 Qms 14
abbrev Qmu:T Lf:=ou [Qa,Qd,Qb,Qj,Qh,dI,dY,iR,oW,rV,yP,KI,Ol,YW]
def Xo:T Lf:=sp (.eq (a0 12050 Qms) Qv) (sp (.eq (rr 12050 Qms 0) Qa) (sp (.eq Qmt Qgx) Qmu (ju 12001 [Qd,Qb,Qj,Qh,dI,dY,iR,oW,rV,yP,KI,Ol,YW,Qd,Qmt,wr (.add Qmt Qv)])) fl) fl
abbrev Qmv:SB:=.eq (nm (el Qdw Qdy)) Qb
abbrev Qmw:List SE:=[Qd,Qb,Qj,Qh,dI,dY,iR,oW,rV,yP,KI,Ol,YW,Qdw,Oj,wr (.add Qdy Qv)]
abbrev Qmx:SB:=.lt Oj Qa
abbrev Qmy:List SE:=[Qd,Qb,Qj,Qh,dI,dY,iR,oW,rV,yP,KI,Ol,YW,.op .set Qdw (cn (mk Oj) (mk (nm (el Qdw Qdy)))),wr (.add Oj Qv),wr (.add Qdy Qv)]
abbrev Qmz:T Lf:=sp Qmx fl (sp (.lt Qin Oj) fl (sp (.lt (.sub Qin Oj) Qa) fl (sp (.eq (.add Oj (.sub Qin Oj)) Qin) (ou [Qv,Qd,Qb,Qj,Qh,dI,dY,iR,oW,rV,yP,KI,Ol,YW,Oj,.op .fill Qdw (cn (mk Oj) sU),Qin]) fl)))
def RQ:T Lf:=sp (.lt Qdy Qin) (sp (.lt Qdy Qa) fl (sp Qmv (ju 12001 Qmw) (sp Qmx fl (sp (.lt Oj Qin) (ju 12001 Qmy) fl)))) Qmz
abbrev Qm0:List SE:=[Qd,Qb,Qj,Qh,dI,dY,iR,oW,rV,yP,KI,Ol,YW,uK,Qa]
def afH:T Lf:=ju 12051 Qm0
abbrev Qm1:SB:=.eq (nm (el Qd Oj)) Qb
abbrev Qm2:T Lf:=ou [Qa,Qd,Qb,Qj,Qh,dI,dY,iR,oW,rV,yP,KI,Ol,YW,Oj]
abbrev Qm3:List SE:=[Qd,Qb,Qj,Qh,dI,dY,iR,oW,rV,yP,KI,Ol,YW,Qdw,wr (.add Oj Qv)]
abbrev Qm4:T Lf:=ou [Qa,Qd,Qb,Qj,Qh,dI,dY,iR,oW,rV,yP,KI,Ol,YW,Qgx]
def RP:T Lf:=sp (.lt Oj Qdw) (sp Qmx fl (sp (.lt Oj uK) (sp Qm1 Qm2 (ju 12051 Qm3)) fl)) Qm4
abbrev Qm5:SE:=rr 12150 Qms 14
def Xn:T Lf:=sp (.eq (a0 12150 Qms) Qv) (sp (.eq (rr 12150 Qms 0) Qa) (sp (.eq Qm5 Qgx) Qmu (ju 12101 [Qd,Qb,Qj,Qh,dI,dY,iR,oW,rV,yP,KI,Ol,YW,Qd,Qm5,wr (.add Qm5 Qv)])) fl) fl
def RN:T Lf:=sp (.lt Qdy Qin) (sp (.lt Qdy Qa) fl (sp Qmv (ju 12101 Qmw) (sp Qmx fl (sp (.lt Oj Qin) (ju 12101 Qmy) fl)))) Qmz
def afG:T Lf:=ju 12151 Qm0
def RJ:T Lf:=sp (.lt Oj Qdw) (sp Qmx fl (sp (.lt Oj uK) (sp Qm1 Qm2 (ju 12151 Qm3)) fl)) Qm4
def afF:T Lf:=sp (.eq (a0 12250 Qms) Qv) (sp (.eq (rr 12250 Qms 0) Qa) Qmu fl) fl
def afE:T Lf:=ju 12251 Qms
def afD:T Lf:=ou [Qa,Qd,Qb,Qj,Qh,dI,dY,iR,oW,rV,yP,KI,Ol,YW]
def afC:T Lf:=sp (.eq (a0 12350 Qms) Qv) (sp (.eq (rr 12350 Qms 0) Qa) Qmu fl) fl
def afB:T Lf:=ju 12351 Qms
def afA:T Lf:=ou [Qa,Qd,Qb,Qj,Qh,dI,dY,iR,oW,rV,yP,KI,Ol,YW]
abbrev Qm6:SB:=.eq (a0 1400 [Qd,Qj8,Qb,sU,Qj]) Qv
abbrev Qm7:SB:=.eq (rr 1400 [Qd,Qj8,Qb,sU,Qj] 0) Qa
abbrev Qm8:T Lf:=ou [Qa,Qd,Qb,Qj,Qh,dI,dY,iR]
abbrev Qm9:SB:=.lt (.lit 23) dI
abbrev Qna:SB:=.eq dY Qa
abbrev Qnb:SB:=.eq (a0 1250 [dI]) Qv
abbrev Qnc:SB:=.eq (rr 1250 [dI] 0) Qa
abbrev Qnd:SB:=.eq (a0 1300 [dI]) Qv
abbrev Qne:SB:=.eq (rr 1300 [dI] 0) Qa
abbrev Qnf:SB:=.eq (a0 5100 [uF,Qv]) Qv
abbrev Qng:T Lf:=sp Qnf (ou [Qv,Qd,Qb,Qj,Qh,dI,dY,iR]) fl
abbrev Qnh:SB:=.eq (a0 1000 [sU]) Qv
abbrev Qni:SB:=.eq (rr 1000 [sU] 0) Qa
def aeZ:T Lf:=sp Qm6 (sp Qm7 Qm8 (sp Qdl Qm8 (sp Qm9 Qm8 (sp Qna (sp Qnb (sp Qnc (sp Qnd (sp Qne Qng (sp Qnh (sp Qni Qm8 Qng) fl)) fl) Qm8) fl) Qm8)))) fl
abbrev Qnj:SE:=.dat (.p (.i 98) (.i 0))
abbrev Qnk:SB:=.eq (a0 1400 [Qv,Qnj,Qd,sU,Qb]) Qv
abbrev Qnl:SB:=.eq (rr 1400 [Qv,Qnj,Qd,sU,Qb] 0) Qa
abbrev Qnm:T Lf:=ou [Qa,Qd,Qb,Qj,Qh,dI,dY,iR,oW,rV]
abbrev Qnn:SB:=.eq (a0 1400 [Qj,Qj8,Qh,Qnj,dI]) Qv
abbrev Qno:SB:=.eq (rr 1400 [Qj,Qj8,Qh,Qnj,dI] 0) Qa
abbrev Qnp:SB:=.lt iR Qv
abbrev Qnq:SB:=.lt (.lit 23) iR
abbrev Qnr:SB:=.eq (a0 1250 [iR]) Qv
abbrev Qns:SB:=.eq (rr 1250 [iR] 0) Qa
abbrev Qnt:SB:=.eq (a0 1300 [iR]) Qv
abbrev Qnu:SB:=.eq (rr 1300 [iR] 0) Qa
abbrev Qnv:T Lf:=sp Qnf (ou [Qv,Qd,Qb,Qj,Qh,dI,dY,iR,oW,rV]) fl
def aeY:T Lf:=sp Qnk (sp Qnl Qnm (sp Qnn (sp Qno Qnm (sp Qnp Qnm (sp Qnq Qnm (sp Qid (sp Qnr (sp Qns (sp Qnt (sp Qnu Qnv (sp Qnh (sp Qni Qnm Qnv) fl)) fl) Qnm) fl) Qnm)))) fl)) fl
def aeX:T Lf:=sp Qm6 (sp Qm7 Qm8 (sp Qdl Qm8 (sp Qm9 Qm8 (sp Qna (sp Qnb (sp Qnc (sp Qnd (sp Qne Qm8 Qng) fl) Qm8) fl) Qm8)))) fl
def aeW:T Lf:=sp Qnk (sp Qnl Qnm (sp Qnn (sp Qno Qnm (sp Qnp Qnm (sp Qnq Qnm (sp Qid (sp Qnr (sp Qns (sp Qnt (sp Qnu Qnm Qnv) fl) Qnm) fl) Qnm)))) fl)) fl
abbrev Qnw:T Lf:=ou [Qa,Qd,Qb,Qj,Qh,dI,dY,iR,oW]
abbrev Qnx:SB:=.eq (ln iR) (rr 1250 [dI] 0)
abbrev Qny:T Lf:=sp (.eq (a0 5250 [iR,uF,Qv]) Qv) (ou [Qv,Qd,Qb,Qj,Qh,dI,dY,iR,oW,ln iR,rr 5250 [iR,uF,Qv] 1]) fl
def Xm:T Lf:=sp Qm6 (sp Qm7 Qnw (sp Qdl Qnw (sp Qm9 Qnw (sp Qna (sp Qnb (sp Qnx (sp Qnd (sp Qne Qny (sp Qnh (sp Qni Qnw Qny) fl)) fl) Qnw) fl) Qnw)))) fl
abbrev Qnz:T Lf:=ou [Qa,Qd,Qb,Qj,Qh,dI,dY,iR,oW,rV,yP]
abbrev Qn0:SB:=.eq (ln rV) (rr 1250 [iR] 0)
abbrev Qn1:T Lf:=sp (.eq (a0 5250 [rV,uF,Qv]) Qv) (ou [Qv,Qd,Qb,Qj,Qh,dI,dY,iR,oW,rV,yP,ln rV,rr 5250 [rV,uF,Qv] 1]) fl
def Xl:T Lf:=sp Qnk (sp Qnl Qnz (sp Qnn (sp Qno Qnz (sp Qnp Qnz (sp Qnq Qnz (sp Qid (sp Qnr (sp Qn0 (sp Qnt (sp Qnu Qn1 (sp Qnh (sp Qni Qnz Qn1) fl)) fl) Qnz) fl) Qnz)))) fl)) fl
def Xk:T Lf:=sp Qm6 (sp Qm7 Qnw (sp Qdl Qnw (sp Qm9 Qnw (sp Qna (sp Qnb (sp Qnx (sp Qnd (sp Qne Qnw Qny) fl) Qnw) fl) Qnw)))) fl
def Xj:T Lf:=sp Qnk (sp Qnl Qnz (sp Qnn (sp Qno Qnz (sp Qnp Qnz (sp Qnq Qnz (sp Qid (sp Qnr (sp Qn0 (sp Qnt (sp Qnu Qnz Qn1) fl) Qnz) fl) Qnz)))) fl)) fl
def aeV:T Lf:=ju 12801 [Qd,Qb,Qb]
abbrev Qn2:SE:=nm (el (.dat b0) (nm Xa))
abbrev Qn3:SE:=.op .idx (.op .sub Qd (cn Qir (cn (mk uK) sU))) Qf9
def Xi:T Lf:=sp Qch (sp OB fl (sp (.lt (nm Xa) Qa) fl (sp (.lt (nm Xa) Qll) (sp (.eq Qn2 Qv) (ju 12801 [Qd,Qb,Hu]) (sp (.eq Qn2 uF) (sp (.lt uK uK) fl (sp (.lt Qn3 Qa) (ou [Qa,Qd,Qb,uK]) (ju 12801 [Qd,Qb,wr (.add Qj Qn3)]))) (ou [Qa,Qd,Qb,Qj]))) fl))) (ou [Qa,Qd,Qb,Qj])
abbrev Qn4:SE:=nm (el Qd Qb)
abbrev Qn5:SE:=wr (.add Qb uF)
abbrev Qn6:SE:=.op .norm (.op .sub Qd (cn (mk Qb) (cn (mk uK) sU))) Qa
abbrev Qn7:SE:=.dat (.p (.i 45) (.p (.i 62) (.i 0)))
abbrev Qn8:T Lf:=ou [Qa,Qd,Qb,wr (.add Qdg Qv)]
abbrev Qn9:SE:=.op .norm (.op .sub Qd (cn (mk Qb) (cn (mk Qn5) sU))) Qa
def aeU:T Lf:=sp Qdf fl (sp (.lt Qb uK) (sp (.lt Qn4 Qa) fl (sp (.lt Qn4 Qll) (sp (.eq (nm (el (.dat b0) Qn4)) Qb9) (sp (.lt uK Qn5) (sp (.lt uK uK) fl (sp (.eq Qn6 Qn7) Qn8 (sp (.eq Qn6 Qlw) Qn8 (ou [Qa,Qd,Qb,Qdg])))) (sp (.lt Qn5 Qb) fl (sp (.eq Qn9 Qn7) Qn8 (sp (.eq Qn9 Qlw) Qn8 (ou [Qa,Qd,Qb,Qdg]))))) (ju 12851 [Qd,Qb,nm (el (.dat b0) Qn4),Qdg])) fl)) fl)
abbrev Qoa:SE:=nm (el (.dat b0) (nm UN))
abbrev Qob:T Lf:=ou [Qa,Qd,Qb,Qh]
def Xh:T Lf:=sp (.lt Qh uK) (sp Ql fl (sp (.lt (nm UN) Qa) fl (sp (.lt (nm UN) Qll) (sp (.eq Qoa I4) (ju 12851 Qdz) (sp (.eq Qoa Qb7) (sp (.eq Qj Qb7) (ju 12851 Qdz) Qob) Qob)) fl))) Qob
def aeT:T Lf:=sp (.eq (a0 1000 [Qd]) Qv) (sp (.eq (rr 1000 [Qd] 0) Qa) Q6 (ou [Qv,Qd,Qb])) fl
end
theorem aiW:S.tree 9000=U2:=by kernel_rfl
theorem Wp:S.tree 9001=xJ:=by kernel_rfl
theorem arJ:S.tree 9002=aqA:=by kernel_rfl
theorem arI:S.tree 9003=apZ:=by kernel_rfl
theorem aiV:S.tree 9004=aeN:=by kernel_rfl
theorem aiU:S.tree 9005=aeM:=by kernel_rfl
theorem aiT:S.tree 9006=aeL:=by kernel_rfl
theorem aiS:S.tree 9007=aeK:=by kernel_rfl
theorem e50:S.tree 50=t50:=by kernel_rfl
theorem e51:S.tree 51=t51:=by kernel_rfl
theorem e100:S.tree 100=aBq:=by kernel_rfl
theorem apB:S.tree 101=aBp:=by kernel_rfl
theorem apA:S.tree 102=aBo:=by kernel_rfl
theorem axA:S.tree 103=aBn:=by kernel_rfl
theorem awZ:S.tree 150=aBm:=by kernel_rfl
theorem aoZ:S.tree 151=aBl:=by kernel_rfl
theorem awY:S.tree 200=atU:=by kernel_rfl
theorem Ur:S.tree 201=t201:=by kernel_rfl
theorem aoY:S.tree 202=amC:=by kernel_rfl
theorem e250:S.tree 250=atT:=by kernel_rfl
theorem e251:S.tree 251=amB:=by kernel_rfl
theorem e300:S.tree 300=amA:=by kernel_rfl
theorem e301:S.tree 301=aaZ:=by kernel_rfl
theorem e302:S.tree 302=atS:=by kernel_rfl
theorem aoX:S.tree 350=alZ:=by kernel_rfl
theorem aoW:S.tree 351=aaY:=by kernel_rfl
theorem awX:S.tree 400=kH:=by kernel_rfl
theorem aA8:S.tree 450=ayM:=by kernel_rfl
theorem awW:S.tree 451=atQ:=by kernel_rfl
theorem awV:S.tree 452=atP:=by kernel_rfl
theorem awU:S.tree 453=atO:=by kernel_rfl
theorem awT:S.tree 454=atN:=by kernel_rfl
theorem awS:S.tree 455=atM:=by kernel_rfl
theorem awR:S.tree 456=atL:=by kernel_rfl
theorem awQ:S.tree 500=alY:=by kernel_rfl
theorem ajC:S.tree 501=aaX:=by kernel_rfl
theorem aA7:S.tree 550=alX:=by kernel_rfl
theorem awP:S.tree 551=atK:=by kernel_rfl
theorem aA6:S.tree 552=aBk:=by kernel_rfl
theorem aA5:S.tree 553=aBj:=by kernel_rfl
theorem aA2:S.tree 600=ayG:=by kernel_rfl
theorem awO:S.tree 650=atJ:=by kernel_rfl
theorem aA1:S.tree 700=ayF:=by kernel_rfl
theorem aA0:S.tree 750=ayE:=by kernel_rfl
theorem aAZ:S.tree 800=ayD:=by kernel_rfl
theorem aAY:S.tree 850=ayC:=by kernel_rfl
theorem awN:S.tree 851=alW:=by kernel_rfl
theorem aAX:S.tree 900=ayB:=by kernel_rfl
theorem aAW:S.tree 950=ayA:=by kernel_rfl
theorem awM:S.tree 951=atI:=by kernel_rfl
theorem awL:S.tree 952=atH:=by kernel_rfl
theorem JJ:S.tree 953=vY:=by kernel_rfl
theorem JI:S.tree 954=vX:=by kernel_rfl
theorem asL:S.tree 1000=aqX:=by kernel_rfl
theorem asK:S.tree 1050=Zb:=by kernel_rfl
theorem asJ:S.tree 1100=aqW:=by kernel_rfl
theorem asI:S.tree 1101=ayN:=by kernel_rfl
theorem ajY:S.tree 1102=afI:=by kernel_rfl
theorem asH:S.tree 1150=aqV:=by kernel_rfl
theorem asG:S.tree 1200=aqU:=by kernel_rfl
theorem asF:S.tree 1250=aqT:=by kernel_rfl
theorem asE:S.tree 1300=aqS:=by kernel_rfl
theorem asD:S.tree 1350=aqR:=by kernel_rfl
theorem asC:S.tree 1400=aqQ:=by kernel_rfl
theorem asB:S.tree 5000=aqP:=by kernel_rfl
theorem asA:S.tree 5050=aqO:=by kernel_rfl
theorem ajB:S.tree 5051=aeS:=by kernel_rfl
theorem arZ:S.tree 5100=aqN:=by kernel_rfl
theorem arY:S.tree 5101=ayL:=by kernel_rfl
theorem arX:S.tree 5150=aqM:=by kernel_rfl
theorem arW:S.tree 5151=ayK:=by kernel_rfl
theorem arV:S.tree 5200=aqL:=by kernel_rfl
theorem arU:S.tree 5201=ayJ:=by kernel_rfl
theorem arT:S.tree 5250=aqK:=by kernel_rfl
theorem ajA:S.tree 5251=aeR:=by kernel_rfl
theorem arS:S.tree 5300=aqJ:=by kernel_rfl
theorem aiZ:S.tree 5301=aeQ:=by kernel_rfl
theorem arR:S.tree 5350=aqI:=by kernel_rfl
theorem aiY:S.tree 5351=aeP:=by kernel_rfl
theorem arQ:S.tree 5400=aqH:=by kernel_rfl
theorem aiX:S.tree 5401=aeO:=by kernel_rfl
theorem arP:S.tree 5450=aqG:=by kernel_rfl
theorem arO:S.tree 5451=aqF:=by kernel_rfl
theorem arN:S.tree 5500=aqE:=by kernel_rfl
theorem arM:S.tree 5501=aqD:=by kernel_rfl
theorem aA4:S.tree 5550=ayI:=by kernel_rfl
theorem aA3:S.tree 5551=ayH:=by kernel_rfl
theorem arL:S.tree 5600=aqC:=by kernel_rfl
theorem arK:S.tree 5601=aqB:=by kernel_rfl
theorem YI:S.tree 12000=Xo:=by kernel_rfl
theorem Ut:S.tree 12001=RQ:=by kernel_rfl
theorem ajX:S.tree 12050=afH:=by kernel_rfl
theorem YH:S.tree 12051=RP:=by kernel_rfl
theorem YF:S.tree 12100=Xn:=by kernel_rfl
theorem Us:S.tree 12101=RN:=by kernel_rfl
theorem ajW:S.tree 12150=afG:=by kernel_rfl
theorem YE:S.tree 12151=RJ:=by kernel_rfl
theorem ajV:S.tree 12200=afF:=by kernel_rfl
theorem ajU:S.tree 12250=afE:=by kernel_rfl
theorem ajT:S.tree 12251=afD:=by kernel_rfl
theorem ajS:S.tree 12300=afC:=by kernel_rfl
theorem ajR:S.tree 12350=afB:=by kernel_rfl
theorem ajQ:S.tree 12351=afA:=by kernel_rfl
theorem ajP:S.tree 12400=aeZ:=by kernel_rfl
theorem ajO:S.tree 12450=aeY:=by kernel_rfl
theorem ajN:S.tree 12500=aeX:=by kernel_rfl
theorem ajM:S.tree 12550=aeW:=by kernel_rfl
theorem ajL:S.tree 12600=Xm:=by kernel_rfl
theorem ajK:S.tree 12650=Xl:=by kernel_rfl
theorem ajJ:S.tree 12700=Xk:=by kernel_rfl
theorem ajI:S.tree 12750=Xj:=by kernel_rfl
theorem ajH:S.tree 12800=aeV:=by kernel_rfl
theorem ajG:S.tree 12801=Xi:=by kernel_rfl
theorem ajF:S.tree 12850=aeU:=by kernel_rfl
theorem ajE:S.tree 12851=Xh:=by kernel_rfl
theorem ajD:S.tree 12900=aeT:=by kernel_rfl
end Go.As.Try
end
section
namespace Go.As.Try
open Go hiding Stat Spec shape
open Go.As Go.Proofs
set_option maxRecDepth 100000
structure PT where
 j:Nat
 t:T Lf
 e:S.tree j=t
def pT {j:Nat} {t:T Lf} (e:S.tree j=t):PT:=⟨j,t,e⟩
noncomputable def trees:List PT:=[pT aiW,pT Wp,pT arJ,pT arI,pT aiV,pT aiU,pT aiT,pT aiS,pT e50,pT e51,pT e100,pT apB,pT apA,pT axA,pT awZ,pT aoZ,pT awY,pT Ur,pT aoY,pT e250,pT e251,pT e300,pT e301,pT e302,pT aoX,pT aoW,pT awX,pT aA8,pT awW,pT awV,pT awU,pT awT,pT awS,pT awR,pT awQ,pT ajC,pT aA7,pT awP,pT aA6,pT aA5,pT aA2,pT awO,pT aA1,pT aA0,pT aAZ,pT aAY,pT awN,pT aAX,pT aAW,pT awM,pT awL,pT JJ,pT JI,pT asL,pT asK,pT asJ,pT asI,pT ajY,pT asH,pT asG,pT asF,pT asE,pT asD,pT asC,pT asB,pT asA,pT ajB,pT arZ,pT arY,pT arX,pT arW,pT arV,pT arU,pT arT,pT ajA,pT arS,pT aiZ,pT arR,pT aiY,pT arQ,pT aiX,pT arP,pT arO,pT arN,pT arM,pT aA4,pT aA3,pT arL,pT arK,pT YI,pT Ut,pT ajX,pT YH,pT YF,pT Us,pT ajW,pT YE,pT ajV,pT ajU,pT ajT,pT ajS,pT ajR,pT ajQ,pT ajP,pT ajO,pT ajN,pT ajM,pT ajL,pT ajK,pT ajJ,pT ajI,pT ajH,pT ajG,pT ajF,pT ajE,pT ajD]
theorem aeG:trees.all (fun p=>WX [] p.t)=true:=by kernel_rfl
theorem axD:asM (lim 259 feT) 259 (trees.map PT.j)=true:=by kernel_rfl
theorem alO (j:Nat):WX [] (S.tree j)=true:=by
 cases h:AU St.t j with
 |none=>exact aaR (S:=St) h
 |some e=> obtain⟨p,hp,rfl⟩:=aC4.1 (cov axD (fun k hk=>ahA hk) h);rw [p.e];exact aC0.1 aeG p hp
noncomputable def L:sW:=lim' S.tree
theorem bY (j:Nat) (xs:List Int):L j xs=fin L (dX (bQ L (low xs)) (S.tree j)):=auP alO j xs
end Go.As.Try
end
section
namespace Go.As.Try
open Go hiding Stat
open Go.As Go.Proofs Go.RowKit Go.ChangeShapes Go.WideShapes Go.ChangeAt
open Go.Proofs.YtaahpkjohjnjmaaGreatDoor
set_option maxRecDepth 100000
theorem own:ownKnob Tryz.prog.godebug=none:=by kernel_rfl
theorem laidOut:laidOutB Tryz.prog=true:=by kernel_rfl
def anC:TypeId->Option Nat:=Jq (owns.take 11)
def ownB (P:Program) (own:TypeId->Option Nat) (l:List (Nat×Nat)):Bool:=l.all fun p=>match P.underlying p.1 with
 |some (.slice e)=>decide (AQ P own 8 e=some (nM p.2))&&Nat.beq (P.cellsOf e) (nM p.2).length&&Nat.ble (G7 p.2) (P.bytesOf e)&&Nat.ble 1 (nM p.2).length
 |_=>false
theorem QD {t i:Nat}: ∀{l:List (Nat×Nat)},Jq l t=some i->(t,i)∈l
 |[],h=>by simp [Jq] at h
 |(a,k)::l,h=>by
  unfold Jq at h;split at h
  ·rename_i hb;have:=aCO hb;simp only [aCJ] at h;subst this h;simp
  ·exact aEZ _ (QD h)
theorem anE {P:Program} {l:List (Nat×Nat)} (h:ownB P (Jq l) l=true):alH P (Jq l):=by
 intro t i hti;have:=aC0.1 h _ (QD hti);simp only at this;split at this
 ·rename_i e he;simp only [aCM,decide_eq_true_eq] at this;exact⟨e,8,he,this.1.1.1,aCO this.1.1.2,aDw this.1.2,aDw this.2⟩
 ·simp at this
theorem anB:alH Tryz.prog anC:=anE (by kernel_rfl)
theorem anP {W:World} (h:W.ShapedOpen Tryz.prog):base.ok (XA W) W.heap:=by obtain⟨m,hm⟩:=LaysM.n144.s1_3 Tryz.laysM144 W h;exact⟨aaI hm,m,by rw [<- sO]; exact hm⟩
def Zz:DataW Unit->Value
 | .lit (.int k n)=> .int k n
 |_=>undef
def cellsD:DataW Unit->Array Value
 | .agg l=>(l.map Zz).toArray
 |d=> #[Zz d]
def azT (d:DataW Unit):Obj->Obj
 | .cells _ t f=> .cells (cellsD d) t f
 |o=>o
noncomputable def auQ (h:Array Obj) (x:String×DataW Unit):Array Obj:=match Tryz.prog.globalNamed x.1 with
 |some g=>h.modify g (azT x.2)
 |none=>h
noncomputable def laidWorld (os:Os):World:=
 { World.holding Tryz.prog os ⟨#[],#[],[]⟩ with heap:=Rows.primsSoundRow.laid.foldl auQ (World.holding Tryz.prog os ⟨#[],#[],[]⟩).heap }
theorem N8 {ro:Nat->Prop} {h:Array Obj} {i:Nat} {d:D} {v:Value} (r:Rd ro h (.sl i) d v):CP ro h (.sl i) (enc d) v:=by show Rd ro h (.sl i) (dec (enc d)) v;rw [aA];exact r
theorem akZ {ro:Nat->Prop} {h:Array Obj} {u:Value} (a:apY [.one .bool] [1] ro h u):u= .bool true:=by
 obtain⟨us,fl,hs,hc,hu⟩:=a
 cases hs with
 |one c v hs=> cases hs;simp only [uD,RK.flat,aDX,aC8,aC2] at hc;obtain⟨n,ns',u',us',h1,h2,h3,h4⟩:=hc;simp only [List.cons.injEq] at h1 h2;obtain⟨rfl,_⟩:=h1;obtain⟨rfl,_⟩:=h2;rw [hu];exact h3
theorem akQ {g j:Nat} {e:Hw} (hn:j∈S.nums g) (he:S.ents j=some e) (hp:e.pat=none) (hr:e.nU= [.one .bool]) {xs:List Int} (hL:L j xs=some [1]) {W:World} (hsh:W.ShapedOpen Tryz.prog) {vals fl:List Value} (h1:Shape e.Oe vals fl) (h2:jB (XA W) W.heap (uD e.Oe) xs fl) :
 Calls Tryz.prog g vals.toArray W fun en W'=>en= .returned (.bool true)/\Below W.heap.size W W':=by
 obtain⟨n,hrun⟩:=Td hL;refine (afJ atV hn he hp n xs [1] hrun (XA W) W vals fl (fun _ h=>h) (anP hsh) h1 h2).mono fun en W' ⟨u,hu,hb,ro',_,_,_,ha⟩=>?_;rw [hr] at ha;rw [akZ ha] at hu;exact⟨hu,hb⟩
end Go.As.Try
end
section
namespace Go.As
def prune (Y N:List SB):T Lf->T Lf
 | .fail=> .fail
 | .ret l=> .ret l
 | .split c x y=>match Y.contains c with
   |true=>prune Y N x
   |false=>match N.contains c with
    |true=>prune Y N y
    |false=> .split c (prune Y N x) (prune Y N y)
def zY (ρ:Nat->Int):List SB->Prop
 |[]=>True
 |c::l=>c.den ρ=true/\zY ρ l
def zW (ρ:Nat->Int):List SB->Prop
 |[]=>True
 |c::l=> ¬c.den ρ=true/\zW ρ l
theorem adS {ρ:Nat->Int}: ∀{l:List SB},zY ρ l->∀c∈l,c.den ρ=true
 |[],_,c,h=>by simp at h
 |a::l,hz,c,h=>by
  rcases aCP.1 h with rfl|h
  ·exact hz.1
  ·exact adS hz.2 c h
theorem adV {ρ:Nat->Int}: ∀{l:List SB},zW ρ l->∀c∈l,c.den ρ=false
 |[],_,c,h=>by simp at h
 |a::l,hz,c,h=>by
  rcases aCP.1 h with rfl|h
  ·simpa using hz.1
  ·exact adV hz.2 c h
theorem adT {ρ:Nat->Int}: ∀{a b:List SB},zY ρ a->zY ρ b->zY ρ (a++b)
 |[],_,_,h=>h
 |_::_,_,h,h'=> ⟨h.1,adT h.2 h'⟩
theorem adW {ρ:Nat->Int}: ∀{a b:List SB},zW ρ a->zW ρ b->zW ρ (a++b)
 |[],_,_,h=>h
 |_::_,_,h,h'=> ⟨h.1,adW h.2 h'⟩
theorem dB {ρ:Nat->Int} {Y N:List SB} (h:zY ρ Y/\zW ρ N): ∀t,dX ρ (prune Y N t)=dX ρ t
 | .fail=>rfl
 | .ret l=>rfl
 | .split c x y=>by
   simp only [prune,dX];split
   ·rename_i h';rw [adS h.1 c (aFa.1 h'),aCL rfl];exact dB h x
   ·split
    ·rename_i h';rw [adV h.2 c (aFa.1 h'),aCI (by simp)];exact dB h y
    ·simp only [dX,dB h x,dB h y]
theorem dR {ρ:Nat->Int} (Y N:List SB) {t:T Lf} {R:RS} (u:T Lf) (h:zY ρ Y/\zW ρ N) (k:prune Y N t=u) (h':dX ρ u=R):dX ρ t=R:=by rw [<- dB h t,k,h']
theorem zz :
 (∀{ρ:Nat->Int} (c:SB) (a b:T Lf),dX ρ (sp c a b)=if c.den ρ=true then dX ρ a else dX ρ b)/\
 (∀{ρ:Nat->Int} (l:List SE),dX ρ (ou l)= .out (l.map (SE.den ρ)))/\
 (∀{ρ:Nat->Int} (j:Nat) (l:List SE),dX ρ (ju j l)= .jump j (l.map (SE.den ρ)))/\
 (∀{ρ:Nat->Int},dX ρ fl= .no)/\
 (∀{ρ:Nat->Int} (a b:SE),((SB.lt a b).den ρ=true)=(a.den ρ<b.den ρ))/\
 (∀{ρ:Nat->Int} (a b:SE),((SB.eq a b).den ρ=true)=(a.den ρ=b.den ρ))/\
 (∀(F:sW) (lo:Nat->Int),(SE.aK 0).den (bQ F lo)=lo 0)/\
 (∀(F:sW) (lo:Nat->Int),(SE.aK 1).den (bQ F lo)=lo 1)/\
 (∀(F:sW) (lo:Nat->Int),(SE.aK 2).den (bQ F lo)=lo 2)/\
 (∀(F:sW) (lo:Nat->Int),(SE.aK 3).den (bQ F lo)=lo 3)/\
 (∀(F:sW) (lo:Nat->Int),(SE.aK 4).den (bQ F lo)=lo 4)/\
 (∀(F:sW) (lo:Nat->Int),(SE.aK 5).den (bQ F lo)=lo 5)/\
 (∀(F:sW) (lo:Nat->Int),(SE.aK 6).den (bQ F lo)=lo 6)/\
 (∀(F:sW) (lo:Nat->Int),(SE.aK 7).den (bQ F lo)=lo 7)/\
 (∀(F:sW) (lo:Nat->Int),(SE.aK 8).den (bQ F lo)=lo 8)/\
 (∀(F:sW) (lo:Nat->Int),(SE.aK 9).den (bQ F lo)=lo 9)/\
 (∀(F:sW) (lo:Nat->Int),(SE.aK 10).den (bQ F lo)=lo 10)/\
 (∀(F:sW) (lo:Nat->Int),(SE.aK 11).den (bQ F lo)=lo 11)/\
 (∀(F:sW) (lo:Nat->Int),(SE.aK 12).den (bQ F lo)=lo 12)/\
 (∀(F:sW) (lo:Nat->Int),(SE.aK 13).den (bQ F lo)=lo 13)/\
 (∀(F:sW) (lo:Nat->Int),(SE.aK 14).den (bQ F lo)=lo 14)/\
 (∀(F:sW) (lo:Nat->Int),(SE.aK 15).den (bQ F lo)=lo 15)/\
 (∀(F:sW) (lo:Nat->Int),(SE.aK 16).den (bQ F lo)=lo 16)/\
 (∀(F:sW) (lo:Nat->Int),(SE.aK 17).den (bQ F lo)=lo 17)/\
 (∀(F:sW) (lo:Nat->Int),(SE.aK 18).den (bQ F lo)=lo 18)/\
 (∀(F:sW) (lo:Nat->Int),(SE.aK 19).den (bQ F lo)=lo 19)/\
 (∀(F:sW) (lo:Nat->Int),(SE.aK 20).den (bQ F lo)=lo 20)/\
 (∀(F:sW) (lo:Nat->Int),(SE.aK 21).den (bQ F lo)=lo 21)/\
 (∀(F:sW) (lo:Nat->Int),(SE.aK 22).den (bQ F lo)=lo 22)/\
 (∀(F:sW) (lo:Nat->Int),(SE.aK 23).den (bQ F lo)=lo 23)/\
 (∀(F:sW) (lo:Nat->Int),(SE.aK 24).den (bQ F lo)=lo 24)/\
 (∀(F:sW) (lo:Nat->Int),(SE.aK 25).den (bQ F lo)=lo 25)/\
 (∀{ρ:Nat->Int} (n:Int),(SE.lit n).den ρ=n)/\
 (∀{ρ:Nat->Int} (d:D),(SE.dat d).den ρ=enc d)/\
 (∀{ρ:Nat->Int} (a:SE),(ln a).den ρ=((dec (a.den ρ)).l.length:Int))/\
 (∀{ρ:Nat->Int} (a:SE),(nm a).den ρ=(dec (a.den ρ)).n)/\
 (∀{ρ:Nat->Int} (j:Nat) (a:SE),(ce j a).den ρ=enc ((dec (a.den ρ)).hd j))/\
 (∀{ρ:Nat->Int} (a b:SE),(el a b).den ρ=enc ((dec (a.den ρ)).at (b.den ρ)))/\
 (∀{ρ:Nat->Int} (a b:SE),(cn a b).den ρ=enc (.p (dec (a.den ρ)) (dec (b.den ρ))))/\
 (∀{ρ:Nat->Int} (a:SE),(mk a).den ρ=enc (.i (a.den ρ)))/\
 (∀{ρ:Nat->Int} (a:SE),(wr a).den ρ=IntKind.i64.wrap (a.den ρ))/\
 (∀{ρ:Nat->Int} (a b:SE),(SE.add a b).den ρ=a.den ρ+b.den ρ)/\
 (∀{ρ:Nat->Int} (a b:SE),(SE.sub a b).den ρ=a.den ρ-b.den ρ)/\
 (∀{ρ:Nat->Int} (o:gB) (a b:SE),(SE.op o a b).den ρ=o.den (a.den ρ) (b.den ρ))/\
 (∀{F:sW} {lo:Nat->Int} (j:Nat) (l:List SE),(a0 j l).den (bQ F lo)=if (F j (l.map (SE.den (bQ F lo)))).isSome=true then 1 else 0)/\
 (∀{F:sW} {lo:Nat->Int} (j:Nat) (l:List SE) (i:Nat),(rr j l i).den (bQ F lo)=low ((F j (l.map (SE.den (bQ F lo)))).getD []) i)/\
 (∀{x:Int} {xs:List Int},low (x::xs) 0=x)/\
 (∀{x:Int} {xs:List Int} {i:Nat},low (x::xs) (i+1)=low xs i)/\
 (∀{f:SE->Int},List.map f []= [])/\
 (∀{f:SE->Int} {a:SE} {l:List SE},List.map f (a::l)=f a::List.map f l)/\
 (∀d:D,dec (enc d)=d)/\
 (∀n:Int,(D.i n).n=n)/\
 (∀{α:Type} (a:α),(some a).isSome=true)/\
 (∀{α:Type} (a b:α),(some a).getD b=a)/\
 (∀{α:Type} {_:Decidable True} (a b:α),ite True a b=a)/\
 (∀{α:Type} {_:Decidable False} (a b:α),ite False a b=b)/\
 (∀{ρ:Nat->Int},zY ρ []=True)/\
 (∀{ρ:Nat->Int} (c:SB) (l:List SB),zY ρ (c::l)=(c.den ρ=true/\zY ρ l))/\
 (∀{ρ:Nat->Int},zW ρ []=True)/\
 (∀{ρ:Nat->Int} (c:SB) (l:List SB),zW ρ (c::l)=(¬c.den ρ=true/\zW ρ l))/\
 (∀x y:Int,gB.den .len x y=((dec x).l.length:Int))/\
 (∀x y:Int,gB.den .at x y=enc ((dec x).at y))/\
 (∀(x y:Int) (j:Nat),gB.den (.cell j) x y=enc ((dec x).hd j))/\
 (∀x y:Int,gB.den .num x y=(dec x).n)/\
 (∀x y:Int,gB.den .mk x y=enc (.i x))/\
 (∀x y:Int,gB.den .cons x y=enc (.p (dec x) (dec y)))/\
 (∀x y:Int,gB.den .snoc x y=enc (dL ((dec x).l++ [dec y])))/\
 (∀x y:Int,gB.den .cat x y=enc (dL ((dec x).l++(dec y).l)))/\
 (∀x y:Int,gB.den .take x y=enc (gW (dec x) ((dec x).l.take y.toNat)))/\
 (∀x y:Int,gB.den .drop x y=enc (gW (dec x) ((dec x).l.drop y.toNat)))/\
 (∀(x:Int) (q v:D),gB.den .set x (enc (.p q v))=enc (dL (iM (dec x).l q.n v)))/\
 (∀x y:Int,gB.den .bit x y=enc (.i (if (dec x).n=0 then 0 else 1)))/\
 (∀x y:Int,gB.den .norm x y=enc (dec x))/\
 (∀x y:Int,gB.den .JG x y=if (jF (dec x).l (dec y)).isSome then 1 else 0)/\
 (∀x y:Int,gB.den .EI x y=enc ((jF (dec x).l (dec y)).getD (.i 0)))/\
 (∀(x:Int) (k v:D),gB.den .tK x (enc (.p k v))=enc (dL (oP (dec x).l k v)))/\
 (∀x y:Int,gB.den .rep x y=enc (dL (List.replicate x.toNat (dec y))))/\
 (∀(x:Int) (q v:D),gB.den .fill x (enc (.p q v))=enc (dL ((dec x).l.take q.n.toNat++List.replicate ((dec x).l.length-q.n.toNat) v)))/\
 (∀x y:Int,gB.den .sub x y=enc (dL (((dec x).l.take ((dec y).hd 1).n.toNat).drop ((dec y).hd 0).n.toNat)))/\
 (∀x y:Int,gB.den .idx x y=NU (dec x).l y)/\
 (∀x y:Int,gB.den .cnt x y=akJ (dec x).l y)/\
 (∀x y:Int,gB.den .con x y=if adG (dec x).l (dec y).l then 1 else 0)/\
 (∀x y:Int,gB.den .slt x y=if Wv (dec x).l (dec y).l then 1 else 0)/\
 (∀x y:Int,gB.den .XR x y=enc (dL (SX (dec x).l (dec y))))/\
 (∀p:Prop,(p/\True)=p)/\(∀p:Prop,(True/\p)=p)/\(¬False)=True:=
 ⟨dO,jK,nT,yU,oC,iF,fun _ _=>aP (by decide),fun _ _=>aP (by decide),fun _ _=>aP (by decide),fun _ _=>aP (by decide),fun _ _=>aP (by decide),fun _ _=>aP (by decide),fun _ _=>aP (by decide),fun _ _=>aP (by decide),fun _ _=>aP (by decide),fun _ _=>aP (by decide),fun _ _=>aP (by decide),fun _ _=>aP (by decide),fun _ _=>aP (by decide),fun _ _=>aP (by decide),fun _ _=>aP (by decide),fun _ _=>aP (by decide),fun _ _=>aP (by decide),fun _ _=>aP (by decide),fun _ _=>aP (by decide),fun _ _=>aP (by decide),fun _ _=>aP (by decide),fun _ _=>aP (by decide),fun _ _=>aP (by decide),fun _ _=>aP (by decide),fun _ _=>aP (by decide),fun _ _=>aP (by decide),bJ,iJ,gK,IQ,akB,IU,NP,NK,BZ,den_add,apK,NJ,gZ,fZ,aG _,aH _ _,rfl,rfl,aA,XP,fun _=>rfl,fun _ _=>rfl,fun _ _=>aCL trivial,fun _ _=>aCI id,rfl,fun _ _=>rfl,rfl,fun _ _=>rfl,fun _ _=>rfl,fun _ _=>rfl,fun _ _ _=>rfl,fun _ _=>rfl,fun _ _=>rfl,fun _ _=>rfl,fun _ _=>rfl,fun _ _=>rfl,fun _ _=>rfl,fun _ _=>rfl,fun _ _ _=>by show (match dec (enc _) with | .p q v=>_|_=>_)=_; rw [aA],fun _ _=>rfl,fun _ _=>rfl,fun _ _=>rfl,fun _ _=>rfl,fun _ _ _=>by show (match dec (enc _) with | .p q v=>_|_=>_)=_; rw [aA],fun _ _=>rfl,fun _ _ _=>by show (match dec (enc _) with | .p q v=>_|_=>_)=_; rw [aA],fun _ _=>rfl,fun _ _=>rfl,fun _ _=>rfl,fun _ _=>rfl,fun _ _=>rfl,fun _ _=>rfl,and_true,true_and,not_false_eq_true⟩
theorem zg:(∀(l:List D) (j:Nat),(dL l).hd j=(l[j]?).getD (.i 0))/\(∀(a:D) (l:List D),(a::l)[0]?=some a)/\(∀(a:D) (l:List D) (i:Nat),(a::l)[i+1]?=l[i]?):=⟨pK,fun _ _=>rfl,fun _ _ _=>rfl⟩
end Go.As
end
section
namespace Go.As.Try
open Go hiding Stat Spec shape
open Go.As
set_option maxRecDepth 100000
def Ends (p:List Int->Prop) (R:RS):Prop:= ∃ys,fin L R=some ys/\p ys
def Tot (j:Nat) (xs:List Int) (p:List Int->Prop):Prop:= ∃ys,L j xs=some ys/\p ys
theorem Tot.of {j:Nat} {xs:List Int} {p:List Int->Prop} (h:Ends p (dX (bQ L (low xs)) (S.tree j))):Tot j xs p:=by obtain⟨ys,h1,h2⟩:=h;exact⟨ys,by rw [bY]; exact h1,h2⟩
theorem Ends.ite {p:List Int->Prop} {c:Prop} [Decidable c] {a b:RS} (h1:c->Ends p a) (h2: ¬c->Ends p b):Ends p (if c then a else b):=by
 grind
theorem Ends.out {p:List Int->Prop} {ys:List Int} (h:p ys):Ends p (.out ys):=⟨ys,rfl,h⟩
theorem Ends.jump {p:List Int->Prop} {j:Nat} {xs:List Int} (h:Tot j xs p):Ends p (.jump j xs):=h
def EN (ys:List Int):Prop:= ∃c:Int,ys= [c]/\(c=0\/c=1)
def is3 (ys:List Int):Prop:= ∃a b c:Int,ys= [a,b,c]/\(c=0\/c=1)
theorem zH:EN [0]:=⟨0,rfl,.inl rfl⟩
theorem zG:EN [1]:=⟨1,rfl,.inr rfl⟩
theorem VG {a b:Int}:is3 [a,b,0]:=⟨a,b,0,rfl,.inl rfl⟩
theorem arE {a b:Int}:is3 [a,b,1]:=⟨a,b,1,rfl,.inr rfl⟩
def jZ (x:D):D:=dL [.i (-1),.i (if (x.hd 0).n=3\/(x.hd 0).n=9 then (x.hd 2).n else 0),.i 0,.i 0,.i 1,.i 1]
theorem Oc (d0:D) (hlen:d0.l.length<=64): ∀(k i:Nat) (acc:List D),i+k=d0.l.length->acc.length=i->
 L 302 [enc (dL acc),enc d0,(d0.l.length:Int),(i:Int)]=some [enc (dL (acc++(d0.l.drop i).map jZ))]
 |0,i,acc,h1,h2=>by
  rw [bY,e302];simp only [atS,dO,jK,oC,aP,aG,aH,Nat.reduceLT,fin,List.map]
  grind
 |k+1,i,acc,h1,h2=>by
  have hi:i<d0.l.length:=by omega
  have hd:d0.l.drop i=d0.l[i]::d0.l.drop (i+1):=aDr hi;have ih:=fun x=>Oc d0 hlen k (i+1) (acc++ [x]) (by omega) (by simp [h2]);rw [bY,e302,hd];simp only [atS,dO,jK,nT,yU,oC,iF,aP,gK,bJ,IQ,akB,IU,NJ,NP,NK,iJ,BZ,den_add,aG,aH,Nat.reduceLT,List.map,aA,aY,bP hi];have w:=bV (n:=i) (by omega);have c1:(i:Int)<(d0.l.length:Int):=by omega
  have c2: ¬((i:Int)<0):=by omega
  have c3:(acc.length:Int)<1759218604440:=by omega
  simp only [c1,c2,c3,w,if_true,if_false,fin,gB.den,aA,aY];by_cases h3:(d0.l[i].hd 0).n=3
  ·simp only [h3,if_true,fin];have:=ih (jZ d0.l[i]);simp only [jZ,h3,true_or,if_true,dL] at this ⊢
   grind
  ·by_cases h9:(d0.l[i].hd 0).n=9
   ·simp only [aCI h3,aCL h9,fin];have:=ih (jZ d0.l[i]);simp only [jZ,aCL (Or.inr h9:(d0.l[i].hd 0).n=3\/(d0.l[i].hd 0).n=9),dL] at this ⊢
    grind
   ·simp only [aCI h3,aCI h9,fin];have:=ih (jZ d0.l[i]);simp only [jZ,h3,h9,or_self,if_false,dL] at this ⊢
    grind
def Bs (d:D):Prop:=d=dL d.l/\∀(i:Nat) (h:i<d.l.length),0<=(d.l[i]).n/\(d.l[i]).n<256
theorem axF (s:ByteArray):Bs (Am s):=by unfold Am vJ;refine⟨by rw [aY],fun i h=>?_⟩;simp only [aY,aDz,List.getElem_map,D.n] at h ⊢;have:=(s.data.toList[i]).toNat_lt;omega
theorem Jj (d:D) (hb:Bs d) (hlen:d.l.length<=1000000): ∀(k i:Nat) (n:Int),i+k=d.l.length->∃a b,L 1102 [n,enc d,(d.l.length:Int),(i:Int)]=some [a,b]
 |0,i,n,h1=>by rw [bY,ajY];simp only [afI,dO,jK,oC,aP,aG,aH,Nat.reduceLT,List.map,bJ];rw [aCI (by omega)];exact⟨_,_,rfl⟩
 |k+1,i,n,h1=>by
  have hi:i<d.l.length:=by omega
  have ih:=fun x=>Jj d hb hlen k (i+1) x (by omega);rw [bY,ajY];have w:=bV (n:=i) (by omega);have c1:(i:Int)<(d.l.length:Int):=by omega
  have c2: ¬((i:Int)<0):=by omega
  simp only [afI,dO,jK,nT,yU,oC,aP,aG,aH,Nat.reduceLT,List.map,bJ,gK,aA,c1,c2,if_true,if_false,BZ,den_add,w];split
  ·exact⟨_,_,rfl⟩
  ·exact ih _
theorem XM (d:D) (hb:Bs d) (hlen:d.l.length<=1000000): ∃a b,L 1100 [enc d]=some [a,b]:=by
 rw [bY,asJ];simp only [aqW,dO,nT,iF,aP,aG,aH,Nat.reduceLT,List.map,bJ,gK,aA];split
 ·show ∃a b,L 1101 []=some [a,b];rw [bY,asI];exact⟨_,_,rfl⟩
 ·exact Jj d hb hlen d.l.length 0 _ (by omega)
theorem QW (z:Int): ∀(l:List D) (i:Nat),wO z l (i:Int)= -1\/((i:Int)<=wO z l i/\wO z l i<(i:Int)+l.length)
 |[],i=> .inl rfl
 |d::l,i=>by
  have ih:=QW z l (i+1);have hc:((i+1:Nat):Int)=(i:Int)+1:=by omega
  rw [hc] at ih;have hl:((d::l).length:Int)=(l.length:Int)+1:=by simp
  cases d with
  |i n=>
   simp only [wO]
   grind
  |p a b=>
   simp only [wO]
   grind
theorem akI {z:Int} {d:D} {l:List D} (h:d≠.i z) (h0: ¬NU (d::l) z<0):1<=NU (d::l) z/\NU (d::l) z<(l.length:Int)+1:=by
 have h1:=QW z l 1
 have key:NU (d::l) z=wO z l ((1:Nat):Int):=by
  unfold NU
  cases d with
  |i n=>
   simp only [wO]
   grind
  |p a b=>rfl
 grind
theorem aA9:(b0.at 10).n=1:=by show (b0.at ((10:Nat):Int)).n=1;kernel_rfl
theorem Cj (d:D) (hb:Bs d) (hlen:d.l.length<=1000000) (x1:Int): ∀(k i:Nat),d.l.length-i<=k->i<=d.l.length->∃p:Nat,p<=d.l.length/\L 12801 [enc d,x1,(i:Int)]=some [0,enc d,x1,(p:Int)]
 |k,i,h1,h2=>by
  rw [bY,ajG];have c2: ¬((i:Int)<0):=by omega
  by_cases hi:i<d.l.length
  ·have c1:(i:Int)<(d.l.length:Int):=by omega
   have w:=bV (n:=i) (by omega);obtain⟨b1,b2⟩:=hb.2 i hi;have b1: ¬(d.l[i]).n<0:=by omega
   obtain⟨k,rfl⟩ : ∃k',k=k'+1:=⟨k-1,by omega⟩;have hdr:(d.l.take d.l.length).drop i=d.l[i]::d.l.drop (i+1):=by rw [aEa,aDr hi]
   simp only [Xi,dO,jK,nT,yU,oC,iF,aP,aG,aH,Nat.reduceLT,List.map,bJ,iJ,gK,aA,c1,c2,if_true,if_false,BZ,den_add,w,IQ,IU,bP hi,b1,b2];by_cases q1:(b0.at (d.l[i]).n).n=1
   ·simp only [q1,if_true];exact Cj d hb hlen x1 k (i+1) (by omega) (by omega)
   ·by_cases q2:(b0.at (d.l[i]).n).n=2
    ·simp only [aCI q1,aCL q2]
     have hne:d.l[i]≠.i 10:=by intro h;rw [h] at q1;exact q1 aA9
     simp only [aCS,if_false,NJ,gB.den,NP,NK,iJ,gK,aP,bJ,aG,aH,Nat.reduceLT,aA,D.hd,l_p,E5,XP,aC6,aC7,aCT,aDj,aY,hdr];split
     ·exact⟨d.l.length,aCN _,by simp [fin]⟩
     ·rename_i h0;obtain⟨g1,g2⟩:=akI hne h0;rw [aDg] at g2;obtain⟨m,hm⟩ : ∃m:Nat,NU (d.l[i]::d.l.drop (i+1)) 10=(m:Int):=⟨(NU (d.l[i]::d.l.drop (i+1)) 10).toNat,by omega⟩;have w2:IntKind.i64.wrap ((i:Int)+(m:Int))=((i+m:Nat):Int):=by rw [AB (by omega) (by omega)]; omega
      simp only [hm,w2,fin];exact Cj d hb hlen x1 k (i+m) (by omega) (by omega)
    ·simp only [aCI q1,aCI q2];exact⟨i,by omega,rfl⟩
  ·have c1: ¬(i:Int)<(d.l.length:Int):=by omega
   simp only [Xi,dO,jK,oC,aP,aG,aH,Nat.reduceLT,List.map,bJ,gK,aA,c1,if_false];exact⟨i,by omega,rfl⟩
theorem YP (d:D) (hb:Bs d) (hlen:d.l.length<=1000000) (i:Nat) (hi:i<=d.l.length): ∃p:Nat,p<=d.l.length/\L 12800 [enc d,(i:Int)]=some [0,enc d,(i:Int),(p:Int)]:=by rw [bY,ajH];simp only [aeV,nT,aP,aG,aH,Nat.reduceLT,List.map];exact Cj d hb hlen _ _ i (aCN _) hi
theorem QO (d:D) (hb:Bs d) (hlen:d.l.length<=1000000) (x1 x2:Int): ∀(k i:Nat),d.l.length-i<=k->i<=d.l.length->∃p:Nat,i<=p/\p<=d.l.length/\L 12851 [enc d,x1,x2,(i:Int)]=some [0,enc d,x1,(p:Int)]
 |k,i,h1,h2=>by
  rw [bY,ajE];have c2: ¬((i:Int)<0):=by omega
  by_cases hi:i<d.l.length
  ·have c1:(i:Int)<(d.l.length:Int):=by omega
   have w:=bV (n:=i) (by omega);obtain⟨b1,b2⟩:=hb.2 i hi;have b1: ¬(d.l[i]).n<0:=by omega
   obtain⟨k,rfl⟩ : ∃k',k=k'+1:=⟨k-1,by omega⟩
   have ih: ∃p:Nat,i<=p/\p<=d.l.length/\L 12851 [enc d,x1,x2,((i+1:Nat):Int)]=some [0,enc d,x1,(p:Int)]:=by
    obtain⟨p,q1,q2,q3⟩:=QO d hb hlen x1 x2 k (i+1) (by omega) (by omega)
    grind
   simp only [Xh,dO,jK,nT,yU,oC,iF,aP,aG,aH,Nat.reduceLT,List.map,bJ,iJ,gK,aA,c1,c2,if_true,if_false,BZ,den_add,w,IQ,IU,bP hi,b1,b2];split
   ·exact ih
   ·split
    ·split
     ·exact ih
     ·exact⟨i,by omega,by omega,rfl⟩
    ·exact⟨i,by omega,by omega,rfl⟩
  ·have c1: ¬(i:Int)<(d.l.length:Int):=by omega
   simp only [Xh,dO,jK,oC,aP,aG,aH,Nat.reduceLT,List.map,bJ,gK,aA,c1,if_false];exact⟨i,by omega,by omega,rfl⟩
theorem ZB {l:List D} {a b:D} (h:enc (dL l)=enc (.p a (.p b (.i 0)))):l.length=2:=by have:=congrArg (fun d=>d.l.length) (kP h);simpa [D.l] using this
theorem aiN (d:D) (hb:Bs d) (hlen:d.l.length<=1000000) (i:Nat) (hi:i<d.l.length): ∃p:Nat,i<p/\p<=d.l.length/\L 12850 [enc d,(i:Int)]=some [0,enc d,(i:Int),(p:Int)]:=by
 have c2: ¬((i:Int)<0):=by omega
 have c1:(i:Int)<(d.l.length:Int):=by omega
 have w:=bV (n:=i) (by omega);have w1:=bV (n:=i+1) (by omega);have w2:IntKind.i64.wrap ((i:Int)+2)=((i+2:Nat):Int):=by rw [AB (by omega) (by omega)]; omega
 obtain⟨b1,b2⟩:=hb.2 i hi;have b1: ¬(d.l[i]).n<0:=by omega
 have c3: ¬(((i+2:Nat):Int)<(i:Int)):=by omega
 rw [bY,ajF];simp only [aeU,dO,jK,nT,yU,oC,iF,aP,aG,aH,Nat.reduceLT,List.map,bJ,gK,aA,c1,c2,c3,if_true,if_false,BZ,den_add,w,w1,w2,IQ,IU,bP hi,b1,b2,aCS,NJ,gB.den,NP,NK,iJ,D.hd,l_p,E5,XP,aC6,aC7,aCT,aDj];split
 ·split
  ·rename_i h5;split
   ·rename_i h6;have:=ZB h6;simp only [aDg,aDa] at this;omega
   ·split
    ·rename_i h6;have:=ZB h6;simp only [aDg,aDa] at this;omega
    ·exact⟨i+1,by omega,by omega,rfl⟩
  ·rename_i h5;split
   ·exact⟨i+1+1,by omega,by omega,rfl⟩
   ·split
    ·exact⟨i+1+1,by omega,by omega,rfl⟩
    ·exact⟨i+1,by omega,by omega,rfl⟩
 ·obtain⟨p,q1,q2,q3⟩:=QO d hb hlen (i:Int) ((b0.at (d.l[i]).n).n) _ (i+1) (aCN _) (by omega);exact⟨p,by omega,q2,q3⟩
theorem apO {d:D} (hb:Bs d) (a b:Nat):Bs (dL ((d.l.take b).drop a)):=by
 refine⟨by rw [aY],fun i h=>?_⟩;simp only [aY] at h ⊢
 have hl:i<d.l.length-a:=by
  grind
 have:((d.l.take b).drop a)[i]=d.l[a+i]:=by simp
 rw [this];exact hb.2 _ _
theorem agS (d:D) (hb:Bs d): ∃k s n ln a e er el',L 1050 [enc d,0]=some [k,s,n,ln,a,e,er,el']:=by
 rw [bY,asK];by_cases hg:(16384:Int)<(d.l.length:Int)
 ·simp only [Zb,dO,jK,oC,aP,aG,aH,Nat.reduceLT,List.map,bJ,gK,aA,hg,if_true];exact⟨_,_,_,_,_,_,_,_,rfl⟩
 ·obtain⟨p,hp,hB⟩:=YP d hb (by omega) 0 (by omega);have hB':L 12800 [enc d,0]=some [0,enc d,0,(p:Int)]:=hB;have c0: ¬((0:Int)<0):=by omega
  have c1: ¬((d.l.length:Int)<0):=by omega
  have c2: ¬((p:Int)<0):=by omega
  have c3: ¬((d.l.length:Int)<(p:Int)):=by omega
  by_cases he:(p:Int)=(d.l.length:Int)
  ·simp only [Zb,dO,jK,yU,oC,iF,aP,aG,aH,Nat.reduceLT,List.map,bJ,gK,aA,hg,if_false,c0,c1,gZ,fZ,hB',aDe,if_true,aCT,c2,c3,he,aCS,fin]
   grind
  ·obtain⟨e,h1,h2,hE⟩:=aiN d hb (by omega) p (by omega);have c4: ¬((e:Int)<(p:Int)):=by omega
   have c5: ¬((d.l.length:Int)<(e:Int)):=by omega
   have hpart:=apO hb p e;have hpl:((d.l.take e).drop p).length=e-p:=by simp only [aDg,aDa]; omega
   have hp0:0<((d.l.take e).drop p).length:=by omega
   obtain⟨na,nb,hN⟩:=XM _ hpart (by rw [aY]; omega);obtain⟨b1,b2⟩:=hpart.2 0 (by rw [aY]; exact hp0);generalize hq:(d.l.take e).drop p=q at *;simp only [aY] at b1 b2;have b1: ¬(q[0]).n<0:=by omega
   have hat:(dL q).at 0=q[0]:=by have:=bP (d:=dL q) (i:=0) (by rw [aY]; exact hp0);simpa using this
   have c6:(0:Int)<(q.length:Int):=by omega
   have c7:(q.length:Int)<1000000000:=by omega
   have c8:((([D.i 32]++q:List D).length:Nat):Int)<1000000000:=by simp only [aC5,aCW,aC3]; omega
   simp only [Zb,dO,jK,yU,oC,iF,aP,aG,aH,Nat.reduceLT,List.map,bJ,gK,aA,hg,if_false,c0,c1,gZ,fZ,hB',hE,aDe,if_true,aCT,c2,c3,c4,c5,aCI he,NJ,gB.den,NP,NK,iJ,D.hd,l_p,E5,XP,aC6,aC7,aDj,hq,aY,c6,c7,c8,IQ,IU,hat,b1,b2,hN]
   repeat' first |exact⟨_,_,_,_,_,_,_,_,rfl⟩|split
theorem mG (d:D) (hb:Bs d): ∃b,(b=0\/b=1)/\L 1000 [enc d]=some [b]:=by
 obtain⟨k,s,n,ln',a,e,er,el',h⟩:=agS d hb;rw [bY,asL];simp only [aqX,dO,jK,yU,iF,aP,aG,aH,Nat.reduceLT,List.map,bJ,gZ,fZ,h,aDe,if_true,aCT];split
 ·split
  ·split
   ·exact⟨1,.inr rfl,rfl⟩
   ·exact⟨0,.inl rfl,rfl⟩
  ·exact⟨0,.inl rfl,rfl⟩
 ·exact⟨0,.inl rfl,rfl⟩
theorem axT {d:D} (h:Wd .str d):Bs d:=by obtain⟨s,rfl⟩:=h.s;exact axF s
theorem Kv {kids:D} (h:Wd (.sl 6) kids) {i:Nat} (hi:i<kids.l.length): ∃k s n ks,kids.l[i]=dL [.i k,s,.i n,ks]/\pV .u8 k/\Wd .str s/\pV .i64 n/\Wd (.sl 6) ks:=by
 obtain⟨r,h1,hl,hc⟩:=h.elN (cs:=[.int .u8,.str,.int .i64,.sl 6]) rfl _ (aCY hi)
 match r,hl with
 |[a,b,c,d],_=> obtain⟨k,rfl,hk⟩:=(hc 0 _ _ rfl rfl).i;obtain⟨n,rfl,hn⟩:=(hc 2 _ _ rfl rfl).i;exact⟨k,b,n,d,h1,hk,hc 1 _ _ rfl rfl,hn,hc 3 _ _ rfl rfl⟩
theorem aaS (d:D) (hb:Bs d): ∃b,(b=0\/b=1)/\L 12900 [enc d,0]=some [b,enc d,0]:=by
 obtain⟨b,hb1,h⟩:=mG d hb;rw [bY,ajD];simp only [aeT,zz,h];rcases hb1 with rfl|rfl
 ·exact⟨_,.inl rfl,rfl⟩
 ·exact⟨_,.inr rfl,rfl⟩
theorem O1: ∀(m deep:Nat),21-deep<=m->∀(k n left loc:Int) (s kids:D),Wd .str s->Wd (.sl 6) kids->
 Tot 5050 [k,enc s,n,enc kids,(deep:Int),left,loc] is3
 |m,deep,hm,k,n,left,loc,s,kids,hs,hk=>by
  refine Tot.of ?_;rw [asA];simp only [aqO,zz];refine .ite (fun _=> .out VG) fun _=> .ite (fun _=> .out VG) fun hd=> .jump ?_;obtain⟨m,rfl⟩ : ∃m',m=m'+1:=⟨m-1,by omega⟩;have ih:=O1 m (deep+1) (by omega);have hlen:=hk.len;have w0:=bV (n:=deep) (by omega)
  have loop: ∀(j i:Nat) (l' c':Int),i+j=kids.l.length->Tot 5051 [(deep:Int),enc kids,(kids.l.length:Int),(i:Int),l',c',k,enc s,n] is3:=by
   intro j
   induction j with
   |zero=>
    intro i l' c' hi;have c1: ¬(i:Int)<(kids.l.length:Int):=by omega
    obtain⟨b,hb,hR⟩:=aaS s (axT hs);refine Tot.of ?_;rw [ajB];simp only [aeS,zz,c1,hR];rcases hb with rfl|rfl
    ·simp only [Int.reduceEq,if_true,if_false]
     repeat' first |exact .out VG|exact .out arE|refine .ite (fun _=>?_) (fun _=>?_)
    ·simp only [Int.reduceEq,if_true,if_false]
     repeat' first |exact .out VG|exact .out arE|refine .ite (fun _=>?_) (fun _=>?_)
   |succ j ih2=>
    intro i l' c' hi;have hil:i<kids.l.length:=by omega
    have c1:(i:Int)<(kids.l.length:Int):=by omega
    have c2: ¬((i:Int)<0):=by omega
    have w:=bV (n:=i) (by omega);obtain⟨k',s',n',ks',he,_,h1,_,h2⟩:=Kv hk hil;obtain⟨ys,hR,a,b,c,rfl,hc⟩:=ih k' n' l' c' s' ks' h1 h2;refine Tot.of ?_;rw [ajB];simp only [aeS,zz,c1,c2,bP hil,he,zg,w0,w,hR];exact .ite (fun _=> .out VG) fun _=> .jump (ih2 (i+1) _ _ (by omega))
  exact loop kids.l.length 0 _ _ (by omega)
theorem abB (k n loc:Int) (s kids:D) (hs:Wd .str s) (hk:Wd (.sl 6) kids):Tot 800 [k,enc s,n,enc kids,loc] EN:=by obtain⟨ys,hR,a,b,c,rfl,hc⟩:=O1 20 1 (by omega) k n 1000 loc s kids hs hk;have hR':L 5050 [k,enc s,n,enc kids,1,1000,loc]=some [a,b,c]:=hR;refine Tot.of ?_;rw [aAZ];simp only [ayD,zz,hR'];exact .ite (fun _=> .out zH) fun _=> .out zG
def arB (a b c:Int) (ys:List Int):Prop:= ∃i:Int,ys= [a,b,c,i]
def auU (a b c:Int) (ys:List Int):Prop:= ∃i:Int,ys= [a,b,c,i]/\(i=0\/i=1)
theorem Gu (kids loc:D) (nm' code:Int) (hk:Wd (.sl 6) kids): ∀(j i:Nat),i+j=kids.l.length->Tot 5401 [enc kids,(kids.l.length:Int),(i:Int),nm',enc loc,code] (arB nm' (enc loc) code)
 |0,i,hi=>by
  have c1: ¬(i:Int)<(kids.l.length:Int):=by omega
  refine Tot.of ?_;rw [aiX];simp only [aeO,zz,c1];exact .out ⟨_,rfl⟩
 |j+1,i,hi=>by
  have hlen:=hk.len;have hil:i<kids.l.length:=by omega
  have c1:(i:Int)<(kids.l.length:Int):=by omega
  have c2: ¬((i:Int)<0):=by omega
  have w:=bV (n:=i) (by omega);obtain⟨k',s',n',ks',he,_,h1,_,h2⟩:=Kv hk hil;obtain⟨ys,hR,b,rfl,hb⟩:=abB k' n' (loc.l.length:Int) s' ks' h1 h2;refine Tot.of ?_;rw [aiX];simp only [aeO,zz,c1,c2,bP hil,he,zg,w,hR];exact .ite (fun _=> .out ⟨_,rfl⟩) fun _=> .jump (Gu kids loc nm' code hk j (i+1) (by omega))
theorem acS (kids loc:D) (nm' code:Int) (hk:Wd (.sl 6) kids):Tot 5000 [enc kids,nm',enc loc,code] (auU nm' (enc loc) code):=by
 have h0:Tot 5400 [enc kids,nm',enc loc,code] (arB nm' (enc loc) code):=by refine Tot.of ?_;rw [arQ];simp only [aqH,zz];exact .jump (Gu kids loc nm' code hk kids.l.length 0 (by omega))
 obtain⟨ys,hR,i,rfl⟩:=h0;refine Tot.of ?_;rw [asB];simp only [aqP,zz,hR];exact .ite (fun _=> .out ⟨_,rfl,.inl rfl⟩) fun _=> .out ⟨_,rfl,.inr rfl⟩
theorem SI (o:Int):Tot 1200 [o] (fun ys=> ∃k,ys= [k]):=by
 refine Tot.of ?_;rw [asG];simp only [aqU,zz]
 repeat' first |exact .out ⟨_,rfl⟩|refine .ite (fun _=>?_) (fun _=>?_)
theorem sQ (o:Int):Tot 1250 [o] EN:=by
 refine Tot.of ?_;rw [asF];simp only [aqT,zz]
 repeat' first |exact .out zH|exact .out zG|refine .ite (fun _=>?_) (fun _=>?_)
theorem sG (o:Int):Tot 1300 [o] EN:=by
 refine Tot.of ?_;rw [asE];simp only [aqS,zz]
 repeat' first |exact .out zH|exact .out zG|refine .ite (fun _=>?_) (fun _=>?_)
theorem Wy (o:Int):Tot 1350 [o] EN:=by
 refine Tot.of ?_;rw [asD];simp only [aqR,zz]
 repeat' first |exact .out zH|exact .out zG|refine .ite (fun _=>?_) (fun _=>?_)
def E1:D:=.p (.i 1) (.p (.i 0) (.p (.i 0) (.p (.i 1) (.i 0))))
theorem DX:Bs (.i 0):=⟨rfl,fun i h=>by simp [D.l] at h⟩
theorem DW {b:Int} (h1:0<=b) (h2:b<256):Bs (.p (.i b) (.i 0)):=⟨rfl,fun i h=>by
 simp only [D.l,aCW,aC3] at h;obtain rfl:i=0:=by omega
 exact⟨h1,h2⟩⟩
theorem gV (k n x5:Int) (s s':D) (hs:Bs s) (hs':Bs s'):Tot 1400 [k,enc s,n,enc s',x5] EN:=by
 obtain⟨b,hb,hR⟩:=mG s hs;obtain⟨b',hb',hR'⟩:=mG s' hs';obtain⟨ys,hC,c,rfl,hc⟩:=Wy k;refine Tot.of ?_;rw [asC];simp only [aqQ,zz,hR,hR',hC]
 repeat' first |exact .out zH|exact .out zG|refine .ite (fun _=>?_) (fun _=>?_)
theorem apR:L 1150 [1,enc (.i 0),0,enc (.i 1)]=some [1]:=by rw [bY,asH];simp only [aqV,zz,E5,aC3,Int.reduceLT,Int.reduceEq];rfl
theorem acT (a b:Int):L 5450 [enc (.i 1),a,b]=some [b]:=by rw [bY,arP];simp only [aqG,zz,E5,aC3,fin];rw [bY,arO];simp only [aqF,zz];rfl
theorem Dx:L 5250 [enc (dL [E1]),2,1]=some [2,enc (dL [E1])]:=by have h1:=apR;have h2:=acT 3 2;have w1:IntKind.i64.wrap (1+1)=2:=AB (by omega) (by omega);have w2:IntKind.i64.wrap (2+1)=3:=AB (by omega) (by omega);have w3:IntKind.i64.wrap (0+1)=1:=AB (by omega) (by omega);have ha:(dL [E1]).at 0=E1:=rfl;have g0:E1.hd 0= .i 1:=rfl;have g1:E1.hd 1= .i 0:=rfl;have g2:E1.hd 2= .i 0:=rfl;have g3:E1.hd 3= .i 1:=rfl;rw [bY,arT];simp only [aqK,zz,aY,aCW,aC3,aCR,fin];rw [bY,ajA];simp only [aeR,zz,aY,aCW,aC3,aCR,ha,g0,g1,g2,g3,w1,w2,w3,h1,h2,Int.reduceLT,Int.reduceEq,fin,aDc,aCS];rw [bY,ajA];simp only [aeR,zz,aCS];rfl
theorem aaU (k m:Int):L 5500 [enc (.i 1),k,m]=some [k,m,1]:=by rw [bY,arN];simp only [aqE,zz,E5,aC3,fin];rw [bY,arM];simp only [aqD,zz];rfl
theorem aaT (a k m:Int):L 5600 [enc (.i 1),a,k,m]=some [a,k,m,1]:=by rw [bY,arL];simp only [aqC,zz,E5,aC3,fin];rw [bY,arK];simp only [aqB,zz];rfl
theorem aeI (k m:Int):L 5150 [k,m]=some [k,m,1]:=by rw [bY,arX];simp only [aqM,zz,fin];rw [bY,arW];rfl
theorem aeH (k m:Int):L 5200 [k,m]=some [1,k,m,1]:=by rw [bY,arV];simp only [aqL,zz,fin];rw [bY,arU];rfl
theorem Ku (k m:Int):L 5100 [k,m]=some [m]:=by rw [bY,arZ];simp only [aqN,zz,fin];rw [bY,arY];rfl
theorem nR (k m:Int):L 5300 [1,enc (dL [E1]),k,m]=some [enc (dL [E1]),k,m,1]:=by have h2:=aaU k m;have w3:IntKind.i64.wrap (0+1)=1:=AB (by omega) (by omega);have ha:(dL [E1]).at 0=E1:=rfl;have g0:E1.hd 0= .i 1:=rfl;have g1:E1.hd 1= .i 0:=rfl;have g3:E1.hd 3= .i 1:=rfl;rw [bY,arS];simp only [aqJ,zz,fin];rw [bY,aiZ];simp only [aeQ,zz,aY,aCW,aC3,aCR,ha,g0,g1,g3,w3,h2,Int.reduceLT,Int.reduceEq,fin,aDc,aCS];rw [bY,aiZ];simp only [aeQ,zz,aCS];rfl
theorem RF (k m:Int):L 5350 [1,enc (dL [E1]),k,m]=some [enc (dL [E1]),1,k,m,1]:=by have h2:=aaT 1 k m;have w3:IntKind.i64.wrap (0+1)=1:=AB (by omega) (by omega);have ha:(dL [E1]).at 0=E1:=rfl;have g0:E1.hd 0= .i 1:=rfl;have g1:E1.hd 1= .i 0:=rfl;have g3:E1.hd 3= .i 1:=rfl;rw [bY,arR];simp only [aqI,zz,fin];rw [bY,aiY];simp only [aeP,zz,aY,aCW,aC3,aCR,ha,g0,g1,g3,w3,h2,Int.reduceLT,Int.reduceEq,fin,aDc,aCS];rw [bY,aiY];simp only [aeP,zz,aCS];rfl
def X0 (ys:List Int):Prop:= ∃b l,ys=b::l/\(b=0\/b=1)
theorem ZK {l:List Int}:X0 (0::l):=⟨0,l,rfl,.inl rfl⟩
theorem ZJ {l:List Int}:X0 (1::l):=⟨1,l,rfl,.inr rfl⟩
theorem Sr (a b c d e f g:Int):Tot 12400 [a,b,c,d,e,f,g] X0:=by
 obtain⟨ys,h1,o,rfl,_⟩:=gV a b c _ _ (DW (b:=97) (by omega) (by omega)) DX;obtain⟨ys,h2,q,rfl,_⟩:=sQ e;obtain⟨ys,h3,r,rfl,_⟩:=sG e;obtain⟨n,_,h4⟩:=mG _ DX;refine Tot.of ?_;rw [ajP];simp only [aeZ,zz,h1,h2,h3,h4,Ku]
 repeat' first |exact .out ZK|exact .out ZJ|refine .ite (fun _=>?_) (fun _=>?_)
theorem Sm (a b c d e f g:Int):Tot 12500 [a,b,c,d,e,f,g] X0:=by
 obtain⟨ys,h1,o,rfl,_⟩:=gV a b c _ _ (DW (b:=97) (by omega) (by omega)) DX;obtain⟨ys,h2,q,rfl,_⟩:=sQ e;obtain⟨ys,h3,r,rfl,_⟩:=sG e;obtain⟨n,_,h4⟩:=mG _ DX;refine Tot.of ?_;rw [ajN];simp only [aeX,zz,h1,h2,h3,h4,Ku]
 repeat' first |exact .out ZK|exact .out ZJ|refine .ite (fun _=>?_) (fun _=>?_)
theorem agF (a b c d e f g h i:Int):Tot 12450 [a,b,c,d,e,f,g,h,i] X0:=by
 obtain⟨ys,h0,o,rfl,_⟩:=gV 1 a b _ _ (DW (b:=98) (by omega) (by omega)) DX;obtain⟨ys,h1,o',rfl,_⟩:=gV c d e _ _ (DW (b:=97) (by omega) (by omega)) (DW (b:=98) (by omega) (by omega));obtain⟨ys,h2,q,rfl,_⟩:=sQ g;obtain⟨ys,h3,r,rfl,_⟩:=sG g;obtain⟨n,_,h4⟩:=mG _ DX;refine Tot.of ?_;rw [ajO];simp only [aeY,zz,h0,h1,h2,h3,h4,Ku]
 repeat' first |exact .out ZK|exact .out ZJ|refine .ite (fun _=>?_) (fun _=>?_)
theorem agE (a b c d e f g h i:Int):Tot 12550 [a,b,c,d,e,f,g,h,i] X0:=by
 obtain⟨ys,h0,o,rfl,_⟩:=gV 1 a b _ _ (DW (b:=98) (by omega) (by omega)) DX;obtain⟨ys,h1,o',rfl,_⟩:=gV c d e _ _ (DW (b:=97) (by omega) (by omega)) (DW (b:=98) (by omega) (by omega));obtain⟨ys,h2,q,rfl,_⟩:=sQ g;obtain⟨ys,h3,r,rfl,_⟩:=sG g;obtain⟨n,_,h4⟩:=mG _ DX;refine Tot.of ?_;rw [ajM];simp only [aeW,zz,h0,h1,h2,h3,h4,Ku]
 repeat' first |exact .out ZK|exact .out ZJ|refine .ite (fun _=>?_) (fun _=>?_)
def ahD (m k:Nat) (ys:List Int):Prop:=(∃l,ys=0::l)\/(m=1/\low ys 0=1/\low ys k=1/\low ys (k+1)=enc (dL [E1]))
theorem BF {m k:Nat} {l:List Int}:ahD m k (0::l):=.inl ⟨l,rfl⟩
def wS (m:Nat):D:=dL (List.replicate m E1)
theorem yC (m:Nat):(wS m).l.length=m:=by unfold wS; rw [aY,aDY]
theorem Bo (m:Nat) (hm:1<=m) (a b c d e f g:Int):Tot 12600 [a,b,c,d,e,f,enc (wS m),g] (ahD m 9):=by
 obtain⟨ys,h1,o,rfl,_⟩:=gV a b c _ _ (DW (b:=97) (by omega) (by omega)) DX;obtain⟨ys,h2,q,rfl,hq⟩:=sQ e;obtain⟨ys,h3,r,rfl,_⟩:=sG e;obtain⟨n,_,h4⟩:=mG _ DX;refine Tot.of ?_;rw [ajL];by_cases h:m=1
 ·subst h;have h5:=Dx;simp only [Xm,zz,h1,h2,h3,h4,wS,List.replicate,h5]
  repeat' first |exact .out BF|exact .out (.inr ⟨rfl,rfl,rfl,rfl⟩)|refine .ite (fun _=>?_) (fun _=>?_)
 ·have c1: ¬((m:Int)=q):=by rcases hq with rfl|rfl<;>omega
  simp only [Xm,zz,h1,h2,h3,h4,yC,c1]
  repeat' first |exact .out BF|refine .ite (fun _=>?_) (fun _=>?_)
theorem Bl (m:Nat) (hm:1<=m) (a b c d e f g:Int):Tot 12700 [a,b,c,d,e,f,enc (wS m),g] (ahD m 9):=by
 obtain⟨ys,h1,o,rfl,_⟩:=gV a b c _ _ (DW (b:=97) (by omega) (by omega)) DX;obtain⟨ys,h2,q,rfl,hq⟩:=sQ e;obtain⟨ys,h3,r,rfl,_⟩:=sG e;obtain⟨n,_,h4⟩:=mG _ DX;refine Tot.of ?_;rw [ajJ];by_cases h:m=1
 ·subst h;have h5:=Dx;simp only [Xk,zz,h1,h2,h3,h4,wS,List.replicate,h5]
  repeat' first |exact .out BF|exact .out (.inr ⟨rfl,rfl,rfl,rfl⟩)|refine .ite (fun _=>?_) (fun _=>?_)
 ·have c1: ¬((m:Int)=q):=by rcases hq with rfl|rfl<;>omega
  simp only [Xk,zz,h1,h2,h3,h4,yC,c1]
  repeat' first |exact .out BF|refine .ite (fun _=>?_) (fun _=>?_)
theorem agD (m:Nat) (hm:1<=m) (a b c d e f g h' i:Int):Tot 12650 [a,b,c,d,e,f,g,h',enc (wS m),i] (ahD m 11):=by
 obtain⟨ys,h0,o,rfl,_⟩:=gV 1 a b _ _ (DW (b:=98) (by omega) (by omega)) DX;obtain⟨ys,h1,o',rfl,_⟩:=gV c d e _ _ (DW (b:=97) (by omega) (by omega)) (DW (b:=98) (by omega) (by omega));obtain⟨ys,h2,q,rfl,hq⟩:=sQ g;obtain⟨ys,h3,r,rfl,_⟩:=sG g;obtain⟨n,_,h4⟩:=mG _ DX;refine Tot.of ?_;rw [ajK];by_cases h:m=1
 ·subst h;have h5:=Dx;simp only [Xl,zz,h0,h1,h2,h3,h4,wS,List.replicate,h5]
  repeat' first |exact .out BF|exact .out (.inr ⟨rfl,rfl,rfl,rfl⟩)|refine .ite (fun _=>?_) (fun _=>?_)
 ·have c1: ¬((m:Int)=q):=by rcases hq with rfl|rfl<;>omega
  simp only [Xl,zz,h0,h1,h2,h3,h4,yC,c1]
  repeat' first |exact .out BF|refine .ite (fun _=>?_) (fun _=>?_)
theorem agC (m:Nat) (hm:1<=m) (a b c d e f g h' i:Int):Tot 12750 [a,b,c,d,e,f,g,h',enc (wS m),i] (ahD m 11):=by
 obtain⟨ys,h0,o,rfl,_⟩:=gV 1 a b _ _ (DW (b:=98) (by omega) (by omega)) DX;obtain⟨ys,h1,o',rfl,_⟩:=gV c d e _ _ (DW (b:=97) (by omega) (by omega)) (DW (b:=98) (by omega) (by omega));obtain⟨ys,h2,q,rfl,hq⟩:=sQ g;obtain⟨ys,h3,r,rfl,_⟩:=sG g;obtain⟨n,_,h4⟩:=mG _ DX;refine Tot.of ?_;rw [ajI];by_cases h:m=1
 ·subst h;have h5:=Dx;simp only [Xj,zz,h0,h1,h2,h3,h4,wS,List.replicate,h5]
  repeat' first |exact .out BF|exact .out (.inr ⟨rfl,rfl,rfl,rfl⟩)|refine .ite (fun _=>?_) (fun _=>?_)
 ·have c1: ¬((m:Int)=q):=by rcases hq with rfl|rfl<;>omega
  simp only [Xj,zz,h0,h1,h2,h3,h4,yC,c1]
  repeat' first |exact .out BF|refine .ite (fun _=>?_) (fun _=>?_)
def isD (a b:Int) (ys:List Int):Prop:= ∃c:Int,ys= [c]/\(c=0\/c=1)/\(c=1->a= -1\/b≠0)
theorem fU {a b:Int}:isD a b [0]:=⟨0,rfl,.inl rfl,fun h=>absurd h (by omega)⟩
theorem nN {a b:Int} (h:a= -1\/b≠0):isD a b [1]:=⟨1,rfl,.inr rfl,fun _=>h⟩
theorem Tot.mono {j:Nat} {xs:List Int} {p q:List Int->Prop} (h:Tot j xs p) (f: ∀ys,p ys->q ys):Tot j xs q:=by obtain⟨ys,a,b⟩:=h;exact⟨ys,a,f ys b⟩
theorem apF (x0 x2 x3 x4 x5 x6 x7 x8:Int):Tot 951 [x0,0,x2,x3,x4,x5,x6,x7,x8] (isD x5 0):=by
 obtain⟨ys,a1,b1,l1,rfl,g1⟩:=Sr x0 1 0 0 x3 0 0;obtain⟨ys,a2,b2,l2,rfl,g2⟩:=Sr x0 0 0 0 x3 0 0;obtain⟨ys,a3,b3,l3,rfl,g3⟩:=agF 0 0 x0 0 0 0 x3 0 0;obtain⟨ys,a4,b4,l4,rfl,g4⟩:=Sm x0 1 0 0 x3 0 0;obtain⟨ys,a5,b5,l5,rfl,g5⟩:=Sm x0 0 0 0 x3 0 0;obtain⟨ys,a6,b6,l6,rfl,g6⟩:=agE 0 0 x0 0 0 0 x3 0 0;obtain⟨ys,a7,k,rfl⟩:=SI x3;refine Tot.of ?_;rw [awM];simp only [atI,zz,aCS,a1,a2,a3,a4,a5,a6,a7,aeI,aeH]
 repeat' first |exact .out fU|exact .out (nN (by omega))|refine .ite (fun _=>?_) (fun _=>?_)|(exfalso; omega)
theorem apE (x0 x2 x3 x4 x5 x6 x7 x8:Int):Tot 952 [x0,0,x2,x3,x4,x5,x6,x7,x8] (isD x5 1):=by
 obtain⟨ys,a1,b1,l1,rfl,g1⟩:=Sr x0 1 0 0 x3 0 0;obtain⟨ys,a2,b2,l2,rfl,g2⟩:=Sr x0 0 0 0 x3 0 0;obtain⟨ys,a3,b3,l3,rfl,g3⟩:=agF 0 0 x0 0 0 0 x3 0 0;obtain⟨ys,a4,b4,l4,rfl,g4⟩:=Sm x0 1 0 0 x3 0 0;obtain⟨ys,a5,b5,l5,rfl,g5⟩:=Sm x0 0 0 0 x3 0 0;obtain⟨ys,a6,b6,l6,rfl,g6⟩:=agE 0 0 x0 0 0 0 x3 0 0;obtain⟨ys,a7,k,rfl⟩:=SI x3;refine Tot.of ?_;rw [awL];simp only [atH,zz,aCS,a1,a2,a3,a4,a5,a6,a7,aeI,aeH]
 repeat' first |exact .out fU|exact .out (nN (by omega))|refine .ite (fun _=>?_) (fun _=>?_)|(exfalso; omega)
theorem Wu (m:Nat) (hm:1<=m) (x0 x3 x4 x5 x6 x7 x8 x9:Int):Tot 953 [x0,(m:Int),(m:Int),x3,x4,x5,x6,x7,x8,x9,enc (wS m)] (isD x6 0):=by
 obtain⟨ys,a7,k,rfl⟩:=SI x4;by_cases hn:x6= -1
 ·by_cases h3:x0=3
  ·subst h3;obtain⟨ys,hR,hC⟩:=Bo m hm 3 1 0 0 x4 0 0;refine Tot.of ?_;rw [JJ];rcases hC with ⟨l,rfl⟩|⟨rfl,q1,q2,q3⟩
   ·simp only [vY,zz,aCS,hn,hR,Int.reduceEq];exact .out fU
   ·simp only [vY,zz,aCS,hn,hR,q1,q2,q3,a7,nR,Int.reduceEq,aDc]
    repeat' first |exact .out fU|exact .out (nN (by omega))|refine .ite (fun _=>?_) (fun _=>?_)|(exfalso; omega)
  by_cases h8:x0=8
  ·subst h8;obtain⟨ys,hR,hC⟩:=Bo m hm 8 1 0 0 x4 0 0;refine Tot.of ?_;rw [JJ];rcases hC with ⟨l,rfl⟩|⟨rfl,q1,q2,q3⟩
   ·simp only [vY,zz,aCS,hn,hR,Int.reduceEq];exact .out fU
   ·simp only [vY,zz,aCS,hn,hR,q1,q2,q3,a7,nR,Int.reduceEq,aDc]
    repeat' first |exact .out fU|exact .out (nN (by omega))|refine .ite (fun _=>?_) (fun _=>?_)|(exfalso; omega)
  by_cases h5:x0=5
  ·subst h5;obtain⟨ys,hR,hC⟩:=Bo m hm 5 1 0 0 x4 0 0;refine Tot.of ?_;rw [JJ];rcases hC with ⟨l,rfl⟩|⟨rfl,q1,q2,q3⟩
   ·simp only [vY,zz,aCS,hn,hR,Int.reduceEq];exact .out fU
   ·simp only [vY,zz,aCS,hn,hR,q1,q2,q3,a7,nR,Int.reduceEq,aDc]
    repeat' first |exact .out fU|exact .out (nN (by omega))|refine .ite (fun _=>?_) (fun _=>?_)|(exfalso; omega)
  by_cases h4:x0=4
  ·subst h4;obtain⟨ys,hR,hC⟩:=agD m hm 0 0 4 0 0 0 x4 0 0;refine Tot.of ?_;rw [JJ];rcases hC with ⟨l,rfl⟩|⟨rfl,q1,q2,q3⟩
   ·simp only [vY,zz,aCS,hn,hR,Int.reduceEq];exact .out fU
   ·simp only [vY,zz,aCS,hn,hR,q1,q2,q3,a7,RF,Int.reduceEq,aDc]
    repeat' first |exact .out fU|exact .out (nN (by omega))|refine .ite (fun _=>?_) (fun _=>?_)|(exfalso; omega)
  obtain⟨ys,hR,hC⟩:=Bo m hm x0 0 0 0 x4 0 0;refine Tot.of ?_;rw [JJ];rcases hC with ⟨l,rfl⟩|⟨rfl,q1,q2,q3⟩
  ·simp only [vY,zz,aCS,hn,h3,h8,h5,h4,hR,Int.reduceEq];exact .out fU
  ·simp only [vY,zz,aCS,hn,h3,h8,h5,h4,hR,q1,q2,q3,a7,nR,Int.reduceEq,aDc]
   repeat' first |exact .out fU|exact .out (nN (by omega))|refine .ite (fun _=>?_) (fun _=>?_)|(exfalso; omega)
 ·by_cases h3:x0=3
  ·subst h3;obtain⟨ys,hR,hC⟩:=Bl m hm 3 1 0 0 x4 0 0;refine Tot.of ?_;rw [JJ];rcases hC with ⟨l,rfl⟩|⟨rfl,q1,q2,q3⟩
   ·simp only [vY,zz,aCS,hn,hR,Int.reduceEq];exact .out fU
   ·simp only [vY,zz,aCS,hn,hR,q1,q2,q3,a7,nR,Int.reduceEq,aDc]
    repeat' first |exact .out fU|exact .out (nN (by omega))|refine .ite (fun _=>?_) (fun _=>?_)|(exfalso; omega)
  by_cases h8:x0=8
  ·subst h8;obtain⟨ys,hR,hC⟩:=Bl m hm 8 1 0 0 x4 0 0;refine Tot.of ?_;rw [JJ];rcases hC with ⟨l,rfl⟩|⟨rfl,q1,q2,q3⟩
   ·simp only [vY,zz,aCS,hn,hR,Int.reduceEq];exact .out fU
   ·simp only [vY,zz,aCS,hn,hR,q1,q2,q3,a7,nR,Int.reduceEq,aDc]
    repeat' first |exact .out fU|exact .out (nN (by omega))|refine .ite (fun _=>?_) (fun _=>?_)|(exfalso; omega)
  by_cases h5:x0=5
  ·subst h5;obtain⟨ys,hR,hC⟩:=Bl m hm 5 1 0 0 x4 0 0;refine Tot.of ?_;rw [JJ];rcases hC with ⟨l,rfl⟩|⟨rfl,q1,q2,q3⟩
   ·simp only [vY,zz,aCS,hn,hR,Int.reduceEq];exact .out fU
   ·simp only [vY,zz,aCS,hn,hR,q1,q2,q3,a7,nR,Int.reduceEq,aDc]
    repeat' first |exact .out fU|exact .out (nN (by omega))|refine .ite (fun _=>?_) (fun _=>?_)|(exfalso; omega)
  by_cases h4:x0=4
  ·subst h4;obtain⟨ys,hR,hC⟩:=agC m hm 0 0 4 0 0 0 x4 0 0;refine Tot.of ?_;rw [JJ];rcases hC with ⟨l,rfl⟩|⟨rfl,q1,q2,q3⟩
   ·simp only [vY,zz,aCS,hn,hR,Int.reduceEq];exact .out fU
   ·simp only [vY,zz,aCS,hn,hR,q1,q2,q3,a7,RF,Int.reduceEq,aDc]
    repeat' first |exact .out fU|exact .out (nN (by omega))|refine .ite (fun _=>?_) (fun _=>?_)|(exfalso; omega)
  obtain⟨ys,hR,hC⟩:=Bl m hm x0 0 0 0 x4 0 0;refine Tot.of ?_;rw [JJ];rcases hC with ⟨l,rfl⟩|⟨rfl,q1,q2,q3⟩
  ·simp only [vY,zz,aCS,hn,h3,h8,h5,h4,hR,Int.reduceEq];exact .out fU
  ·simp only [vY,zz,aCS,hn,h3,h8,h5,h4,hR,q1,q2,q3,a7,nR,Int.reduceEq,aDc]
   repeat' first |exact .out fU|exact .out (nN (by omega))|refine .ite (fun _=>?_) (fun _=>?_)|(exfalso; omega)
theorem aaB (M:Nat) (hM:M<=2513169434915) (x0 x3 x4 x5 x6 x7 x8 x9:Int): ∀(j m:Nat),m+j=M->1<=m->Tot 953 [x0,(M:Int),(m:Int),x3,x4,x5,x6,x7,x8,x9,enc (wS m)] (isD x6 0)
 |0,m,h1,h2=>by
  obtain rfl:M=m:=by omega
  exact Wu M h2 x0 x3 x4 x5 x6 x7 x8 x9
 |j+1,m,h1,h2=>by
  have ih:=aaB M hM x0 x3 x4 x5 x6 x7 x8 x9 j (m+1) (by omega) (by omega);have c1:(m:Int)<(M:Int):=by omega
  have c2:((m:Nat):Int)<2513169434915:=by omega
  have w:=bV (n:=m) (by omega)
  have hr:wS (m+1)=dL ((wS m).l++ [E1]):=by unfold wS;rw [aY,List.replicate_succ']
  rw [hr] at ih;refine Tot.of ?_;rw [JJ];simp only [vY,zz,c1,c2,yC,w];exact .jump ih
theorem Ws (m:Nat) (hm:1<=m) (x0 x3 x4 x5 x6 x7 x8 x9:Int):Tot 954 [x0,(m:Int),(m:Int),x3,x4,x5,x6,x7,x8,x9,enc (wS m)] (isD x6 1):=by
 obtain⟨ys,a7,k,rfl⟩:=SI x4;by_cases hn:x6= -1
 ·by_cases h3:x0=3
  ·subst h3;obtain⟨ys,hR,hC⟩:=Bo m hm 3 1 0 0 x4 0 0;refine Tot.of ?_;rw [JI];rcases hC with ⟨l,rfl⟩|⟨rfl,q1,q2,q3⟩
   ·simp only [vX,zz,aCS,hn,hR,Int.reduceEq];exact .out fU
   ·simp only [vX,zz,aCS,hn,hR,q1,q2,q3,a7,nR,Int.reduceEq,aDc]
    repeat' first |exact .out fU|exact .out (nN (by omega))|refine .ite (fun _=>?_) (fun _=>?_)|(exfalso; omega)
  by_cases h8:x0=8
  ·subst h8;obtain⟨ys,hR,hC⟩:=Bo m hm 8 1 0 0 x4 0 0;refine Tot.of ?_;rw [JI];rcases hC with ⟨l,rfl⟩|⟨rfl,q1,q2,q3⟩
   ·simp only [vX,zz,aCS,hn,hR,Int.reduceEq];exact .out fU
   ·simp only [vX,zz,aCS,hn,hR,q1,q2,q3,a7,nR,Int.reduceEq,aDc]
    repeat' first |exact .out fU|exact .out (nN (by omega))|refine .ite (fun _=>?_) (fun _=>?_)|(exfalso; omega)
  by_cases h5:x0=5
  ·subst h5;obtain⟨ys,hR,hC⟩:=Bo m hm 5 1 0 0 x4 0 0;refine Tot.of ?_;rw [JI];rcases hC with ⟨l,rfl⟩|⟨rfl,q1,q2,q3⟩
   ·simp only [vX,zz,aCS,hn,hR,Int.reduceEq];exact .out fU
   ·simp only [vX,zz,aCS,hn,hR,q1,q2,q3,a7,nR,Int.reduceEq,aDc]
    repeat' first |exact .out fU|exact .out (nN (by omega))|refine .ite (fun _=>?_) (fun _=>?_)|(exfalso; omega)
  by_cases h4:x0=4
  ·subst h4;obtain⟨ys,hR,hC⟩:=agD m hm 0 0 4 0 0 0 x4 0 0;refine Tot.of ?_;rw [JI];rcases hC with ⟨l,rfl⟩|⟨rfl,q1,q2,q3⟩
   ·simp only [vX,zz,aCS,hn,hR,Int.reduceEq];exact .out fU
   ·simp only [vX,zz,aCS,hn,hR,q1,q2,q3,a7,RF,Int.reduceEq,aDc]
    repeat' first |exact .out fU|exact .out (nN (by omega))|refine .ite (fun _=>?_) (fun _=>?_)|(exfalso; omega)
  obtain⟨ys,hR,hC⟩:=Bo m hm x0 0 0 0 x4 0 0;refine Tot.of ?_;rw [JI];rcases hC with ⟨l,rfl⟩|⟨rfl,q1,q2,q3⟩
  ·simp only [vX,zz,aCS,hn,h3,h8,h5,h4,hR,Int.reduceEq];exact .out fU
  ·simp only [vX,zz,aCS,hn,h3,h8,h5,h4,hR,q1,q2,q3,a7,nR,Int.reduceEq,aDc]
   repeat' first |exact .out fU|exact .out (nN (by omega))|refine .ite (fun _=>?_) (fun _=>?_)|(exfalso; omega)
 ·by_cases h3:x0=3
  ·subst h3;obtain⟨ys,hR,hC⟩:=Bl m hm 3 1 0 0 x4 0 0;refine Tot.of ?_;rw [JI];rcases hC with ⟨l,rfl⟩|⟨rfl,q1,q2,q3⟩
   ·simp only [vX,zz,aCS,hn,hR,Int.reduceEq];exact .out fU
   ·simp only [vX,zz,aCS,hn,hR,q1,q2,q3,a7,nR,Int.reduceEq,aDc]
    repeat' first |exact .out fU|exact .out (nN (by omega))|refine .ite (fun _=>?_) (fun _=>?_)|(exfalso; omega)
  by_cases h8:x0=8
  ·subst h8;obtain⟨ys,hR,hC⟩:=Bl m hm 8 1 0 0 x4 0 0;refine Tot.of ?_;rw [JI];rcases hC with ⟨l,rfl⟩|⟨rfl,q1,q2,q3⟩
   ·simp only [vX,zz,aCS,hn,hR,Int.reduceEq];exact .out fU
   ·simp only [vX,zz,aCS,hn,hR,q1,q2,q3,a7,nR,Int.reduceEq,aDc]
    repeat' first |exact .out fU|exact .out (nN (by omega))|refine .ite (fun _=>?_) (fun _=>?_)|(exfalso; omega)
  by_cases h5:x0=5
  ·subst h5;obtain⟨ys,hR,hC⟩:=Bl m hm 5 1 0 0 x4 0 0;refine Tot.of ?_;rw [JI];rcases hC with ⟨l,rfl⟩|⟨rfl,q1,q2,q3⟩
   ·simp only [vX,zz,aCS,hn,hR,Int.reduceEq];exact .out fU
   ·simp only [vX,zz,aCS,hn,hR,q1,q2,q3,a7,nR,Int.reduceEq,aDc]
    repeat' first |exact .out fU|exact .out (nN (by omega))|refine .ite (fun _=>?_) (fun _=>?_)|(exfalso; omega)
  by_cases h4:x0=4
  ·subst h4;obtain⟨ys,hR,hC⟩:=agC m hm 0 0 4 0 0 0 x4 0 0;refine Tot.of ?_;rw [JI];rcases hC with ⟨l,rfl⟩|⟨rfl,q1,q2,q3⟩
   ·simp only [vX,zz,aCS,hn,hR,Int.reduceEq];exact .out fU
   ·simp only [vX,zz,aCS,hn,hR,q1,q2,q3,a7,RF,Int.reduceEq,aDc]
    repeat' first |exact .out fU|exact .out (nN (by omega))|refine .ite (fun _=>?_) (fun _=>?_)|(exfalso; omega)
  obtain⟨ys,hR,hC⟩:=Bl m hm x0 0 0 0 x4 0 0;refine Tot.of ?_;rw [JI];rcases hC with ⟨l,rfl⟩|⟨rfl,q1,q2,q3⟩
  ·simp only [vX,zz,aCS,hn,h3,h8,h5,h4,hR,Int.reduceEq];exact .out fU
  ·simp only [vX,zz,aCS,hn,h3,h8,h5,h4,hR,q1,q2,q3,a7,nR,Int.reduceEq,aDc]
   repeat' first |exact .out fU|exact .out (nN (by omega))|refine .ite (fun _=>?_) (fun _=>?_)|(exfalso; omega)
theorem aaA (M:Nat) (hM:M<=2513169434915) (x0 x3 x4 x5 x6 x7 x8 x9:Int): ∀(j m:Nat),m+j=M->1<=m->Tot 954 [x0,(M:Int),(m:Int),x3,x4,x5,x6,x7,x8,x9,enc (wS m)] (isD x6 1)
 |0,m,h1,h2=>by
  obtain rfl:M=m:=by omega
  exact Ws M h2 x0 x3 x4 x5 x6 x7 x8 x9
 |j+1,m,h1,h2=>by
  have ih:=aaA M hM x0 x3 x4 x5 x6 x7 x8 x9 j (m+1) (by omega) (by omega);have c1:(m:Int)<(M:Int):=by omega
  have c2:((m:Nat):Int)<2513169434915:=by omega
  have w:=bV (n:=m) (by omega)
  have hr:wS (m+1)=dL ((wS m).l++ [E1]):=by unfold wS;rw [aY,List.replicate_succ']
  rw [hr] at ih;refine Tot.of ?_;rw [JI];simp only [vX,zz,c1,c2,yC,w];exact .jump ih
theorem Wq (x0 x1 x2 x3 x4 x5 x6 x8:Int) (d:D) (hd:d.l.length<=2513169434915):Tot 950 [x0,x1,x2,x3,x4,x5,x6,enc d,x8] (isD x4 x8):=by
 have key: ∀(t t2:Nat) (b:Int),(t=951/\t2=953/\b=0)\/(t=952/\t2=954/\b=1)->Tot t [x0,(d.l.length:Int),x1,x2,x3,x4,x5,x6,enc d] (isD x4 b):=by
  intro t t2 b ht;by_cases h0:d.l.length=0
  ·rw [h0];rcases ht with ⟨rfl,rfl,rfl⟩|⟨rfl,rfl,rfl⟩
   ·exact apF x0 x1 x2 x3 x4 x5 x6 (enc d)
   ·exact apE x0 x1 x2 x3 x4 x5 x6 (enc d)
  ·have c1:(0:Int)<(d.l.length:Int):=by omega
   have hr:enc (wS 1)=enc (dL ([]++ [E1])):=rfl;rcases ht with ⟨rfl,rfl,rfl⟩|⟨rfl,rfl,rfl⟩
   ·have:=aaB d.l.length hd x0 x1 x2 x3 x4 x5 x6 (enc d) (d.l.length-1) 1 (by omega) (by omega);rw [hr] at this;refine Tot.of ?_;rw [awM];simp only [atI,zz,c1,E5];exact .jump this
   ·have:=aaA d.l.length hd x0 x1 x2 x3 x4 x5 x6 (enc d) (d.l.length-1) 1 (by omega) (by omega);rw [hr] at this;refine Tot.of ?_;rw [awL];simp only [atH,zz,c1,E5];exact .jump this
 refine Tot.of ?_;rw [aAW];simp only [ayA,zz];exact .ite (fun h=> .jump ((key 951 953 0 (.inl ⟨rfl,rfl,rfl⟩)).mono fun ys ⟨c,a,b,e⟩=> ⟨c,a,b,fun q=>by have:=e q; omega⟩)) fun h=> .jump ((key 952 954 1 (.inr ⟨rfl,rfl,rfl⟩)).mono fun ys ⟨c,a,b,e⟩=> ⟨c,a,b,fun _=> .inr h⟩)
def OkI (d0:D) (nl nc:Nat) (dx op ob into to:Int) (na:Nat):Prop:=
 (dx=1/\0<=ob/\ob<(d0.l.length:Int)/\(into= -1\/0<=into/\into<(nl:Int))/\(op=16->0<=to/\to<=(nc:Int)))\/
 (dx=2/\0<=ob/\ob<(d0.l.length:Int))\/(dx=3/\0<=into/\into<(nl:Int)/\(na:Int)=1)\/(dx=4/\0<=to/\to<=(nc:Int)/\(na:Int)=1)\/
 (dx=5/\0<=to/\to<=(nc:Int))\/(dx=6/\0<=into/\into<(nl:Int))\/(dx=7/\0<=into/\into<(nl:Int)/\0<=to/\to<=(nc:Int))
def isI (p:Prop) (ys:List Int):Prop:= ∃c:Int,ys= [c]/\(c=0\/c=1)/\(c=1->p)
theorem aAa {p:Prop}:isI p [0]:=⟨0,rfl,.inl rfl,fun h=>absurd h (by omega)⟩
theorem azZ {p:Prop} (h:p):isI p [1]:=⟨1,rfl,.inr rfl,fun _=>h⟩
def OkO (d0:D) (k n:Int):Prop:=1<=k/\k<=9/\(k=1\/k=2\/k=6\/k=7->n=0)/\(k=3\/k=8->1<=n/\n<=1048576)/\(k=5->1<=n/\n<=16)/\(k=4->0<=n/\n<(d0.l.length:Int)/\((d0.at n).hd 0).n=1)
def agH (d0:D) (x:D):Prop:=OkO d0 (x.hd 0).n (x.hd 2).n
def auS (d0:D) (k n:Int) (ys:List Int):Prop:= ∃b:Int,ys= [b]/\(b=0\/b=1)/\(b≠0->OkO d0 k n)
def Ih (d0 d1:D):Prop:=d0.l.length<=64/\d1.l.length<=16/\∀x∈d0.l,agH d0 x
def ahJ (d0 x:D):Prop:= ∀y∈(x.hd 2).l,OkI d0 (x.hd 1).l.length (x.hd 2).l.length (y.hd 0).n (y.hd 1).n (y.hd 2).n (y.hd 3).n (y.hd 4).n (y.hd 6).l.length
def Md (d0 d1:D) (ys:List Int):Prop:= ∃b:Int,ys= [b]/\(b=0\/b=120)/\(b=0->Ih d0 d1/\∀x∈d1.l,ahJ d0 x)
theorem RI {d:D} (h:Wd (.sl 4) d) {i:Nat} (hi:i<d.l.length): ∃nm' lc cd,d.l[i]=dL [nm',lc,cd]/\Wd .str nm'/\Wd (.sl 2) lc/\Wd (.sl 5) cd:=by
 obtain⟨r,h1,hl,hc⟩:=h.elN (cs:=[.str,.sl 2,.sl 5]) rfl _ (aCY hi)
 match r,hl with
 |[a,b,c],_=>exact⟨a,b,c,h1,hc 0 _ _ rfl rfl,hc 1 _ _ rfl rfl,hc 2 _ _ rfl rfl⟩
theorem ahI {d:D} (h:Wd (.sl 5) d) {i:Nat} (hi:i<d.l.length): ∃a b c e f g Ro,d.l[i]=dL [.i a,.i b,.i c,.i e,.i f,.i g,Ro]/\pV .u8 a/\pV .u8 b/\pV .i64 c/\pV .i64 e/\pV .i64 f/\pV .i64 g/\Wd (.sl 6) Ro:=by
 obtain⟨r,h1,hl,hc⟩:=h.elN (cs:=[.int .u8,.int .u8,.int .i64,.int .i64,.int .i64,.int .i64,.sl 6]) rfl _ (aCY hi)
 match r,hl with
 |[a,b,c,e,f,g,Ro],_=> obtain⟨a,rfl,ha⟩:=(hc 0 _ _ rfl rfl).i;obtain⟨b,rfl,hb⟩:=(hc 1 _ _ rfl rfl).i;obtain⟨c,rfl,hc'⟩:=(hc 2 _ _ rfl rfl).i;obtain⟨e,rfl,he⟩:=(hc 3 _ _ rfl rfl).i;obtain⟨f,rfl,hf⟩:=(hc 4 _ _ rfl rfl).i;obtain⟨g,rfl,hg⟩:=(hc 5 _ _ rfl rfl).i;exact⟨a,b,c,e,f,g,Ro,h1,ha,hb,hc',he,hf,hg,hc 6 _ _ rfl rfl⟩
set_option maxHeartbeats 2000000 in
theorem anI (d0 d1 d3 d4 d:D) (x2 x5 x6 x7 x8 x9 x10:Int) (hd:d.l.length<=2513169434915):Tot 750 [enc d0,enc d1,x2,enc d3,enc d4,x5,x6,x7,x8,x9,x10,enc d] (isI (OkI d0 d3.l.length d4.l.length x5 x6 x7 x8 x9 d.l.length)):=by
 unfold OkI;obtain⟨ys,h0,b0,rfl,_,f0⟩:=Wq ((d0.at x7).hd 0).n x5 x6 x7 x8 x9 x10 0 d hd;obtain⟨ys,h1,b1,rfl,_,f1⟩:=Wq ((d0.at x7).hd 0).n x5 x6 x7 x8 x9 x10 1 d hd;refine Tot.of ?_;rw [aA0];simp only [ayE,zz,h0,h1]
 repeat' first |exact .out aAa|exact .out (azZ (by omega))|refine .ite (fun _=>?_) (fun _=>?_)
theorem acA (d0:D) (x1 x2 x3 x4 x5 x6:Int):Tot 700 [enc d0,x1,x2,x3,x4,x5,x6] (auS d0 x2 x4):=by
 refine Tot.of ?_;rw [aA1];simp only [ayF,zz]
 repeat' first
  |exact .out ⟨0,rfl,.inl rfl,fun h=>absurd rfl h⟩
  |exact .out ⟨1,rfl,.inr rfl,fun _=> ⟨by omega,by omega,by omega,by omega,by omega,fun h4=>by first |omega|exact⟨by omega,by omega,by assumption⟩⟩⟩
  |refine .ite (fun _=>?_) (fun _=>?_)
section
variable {d0 d1:D} (h0:Wd (.sl 3) d0) (h1:Wd (.sl 4) d1)
include h1
theorem Fb (hx: ∀x y:Int,x=y->True): ∀(j i:Nat),i+j=d1.l.length->Tot 453 [enc d1,(d1.l.length:Int),(i:Int),enc d0] (Md d0 d1)
 |0,i,hi=>by
  have c1: ¬(i:Int)<(d1.l.length:Int):=by omega
  refine Tot.of ?_;rw [awU];simp only [atO,zz,c1];exact .out ⟨120,rfl,.inr rfl,fun h=>by omega⟩
 |j+1,i,hi=>by
  have hl:=h1.len;have c1:(i:Int)<(d1.l.length:Int):=by omega
  have c2: ¬((i:Int)<0):=by omega
  have w:=bV (n:=i) (by omega);refine Tot.of ?_;rw [awU];simp only [atO,zz,c1,c2];refine .jump (Tot.of ?_);rw [awS];simp only [atM,zz,w];exact .ite (fun _=> .jump (Fb hx j (i+1) (by omega))) fun _=> .jump (Fb hx j (i+1) (by omega))
theorem RH (i:Nat) (hi:i<d1.l.length) (j:Nat) (hj:i+1+j=d1.l.length) (x0 x5 x6 x7:Int):Tot 455 [x0,enc d1,(d1.l.length:Int),(i:Int),enc d0,x5,x6,x7] (Md d0 d1):=by have hl:=h1.len;have w:=bV (n:=i) (by omega);refine Tot.of ?_;rw [awS];simp only [atM,zz,w];exact .ite (fun _=> .jump (Fb h1 (fun _ _ _=>trivial) j (i+1) (by omega))) fun _=> .jump (Fb h1 (fun _ _ _=>trivial) j (i+1) (by omega))
theorem U0 (hg:Ih d0 d1): ∀(j i:Nat),i+j=d1.l.length->(∀(n:Nat) (h:n<d1.l.length),n<i->ahJ d0 d1.l[n])->Tot 454 [enc d1,(d1.l.length:Int),(i:Int),enc d0] (Md d0 d1)
 |0,i,hi,hp=>by
  have c1: ¬(i:Int)<(d1.l.length:Int):=by omega
  refine Tot.of ?_;rw [awT];simp only [atN,zz,c1];refine .out ⟨0,rfl,.inl rfl,fun _=> ⟨hg,fun x hx=>?_⟩⟩;obtain⟨n,hn,rfl⟩:=aEd hx;exact hp n hn (by omega)
 |j+1,i,hi,hp=>by
  have hl:=h1.len;have hil:i<d1.l.length:=by omega
  have c1:(i:Int)<(d1.l.length:Int):=by omega
  have c2: ¬((i:Int)<0):=by omega
  have w:=bV (n:=i) (by omega);obtain⟨nm',lc,cd,he,hn,hlc,hcd⟩:=RI h1 hil;have hcl:=hcd.len;have e1:(d1.l[i]).hd 1=lc:=by rw [he,pK]; rfl
  have e2:(d1.l[i]).hd 2=cd:=by rw [he,pK]; rfl
  have loop: ∀(m k:Nat),k+m=cd.l.length->(∀(n:Nat) (h:n<cd.l.length),n<k->OkI d0 lc.l.length cd.l.length ((cd.l[n]).hd 0).n ((cd.l[n]).hd 1).n ((cd.l[n]).hd 2).n ((cd.l[n]).hd 3).n ((cd.l[n]).hd 4).n ((cd.l[n]).hd 6).l.length)->Tot 456 [(k:Int),enc d1,(d1.l.length:Int),(i:Int),enc d0,enc nm',enc lc,enc cd] (Md d0 d1):=by
   intro m
   induction m with
   |zero=>
    intro k hk hq;have c3: ¬(k:Int)<(cd.l.length:Int):=by omega
    have ih:=U0 hg j (i+1) (by omega) fun n hn hni=>by
     by_cases hne:n=i
     ·subst hne;unfold ahJ;rw [e1,e2];intro y hy;obtain⟨z,hz,rfl⟩:=aEd hy;exact hq z hz (by omega)
     ·exact hp n hn (by omega)
    refine Tot.of ?_;rw [awR];simp only [atL,zz,c3,w];exact .jump ih
   |succ m ihm=>
    intro k hk hq;have hkl:k<cd.l.length:=by omega
    have c3:(k:Int)<(cd.l.length:Int):=by omega
    have c4: ¬((k:Int)<0):=by omega
    have w2:=bV (n:=k) (by omega);obtain⟨a,b,c,e,f,g,Ro,hin,_,_,_,_,_,_,has⟩:=ahI hcd hkl;have hroom:=has.room
    have hal:Ro.l.length<=2513169434915:=by have:G7 6=56:=rfl;rw [this] at hroom;omega
    obtain⟨ys,hM,q,rfl,aCA,hqI⟩:=anI d0 d1 lc cd Ro (enc nm') a b c e f g hal;obtain⟨ys,hX,r,rfl,_⟩:=acS Ro lc (enc nm') (enc cd) has;refine Tot.of ?_;rw [awR];simp only [atL,zz,c3,c4,bP hkl,hin,zg,hM,hX,w2];refine .ite (fun _=> .jump (RH h1 i hil j (by omega) _ _ _ _)) fun hq0=> .ite (fun _=> .jump (ihm (k+1) (by omega) fun n hn hnk=>?_)) fun _=> .jump (RH h1 i hil j (by omega) _ _ _ _);by_cases hne:n=k
    ·subst hne;simp only [hin,zg];exact hqI (by omega)
    ·exact hq n hn (by omega)
  refine Tot.of ?_;rw [awT];simp only [atN,zz,c1,c2,bP hil,he,zg];exact .ite (fun _=> .jump (RH h1 i hil j (by omega) _ _ _ _)) fun _=> .ite (fun _=> .jump (RH h1 i hil j (by omega) _ _ _ _)) fun _=> .jump (loop cd.l.length 0 (by omega) fun n hn h=>absurd h (by omega))
include h0
theorem J5: ∀(j i:Nat),i+j=d0.l.length->Tot 451 [enc d0,(d0.l.length:Int),(i:Int),enc d1] (Md d0 d1)
 |0,i,hi=>by
  have c1: ¬(i:Int)<(d0.l.length:Int):=by omega
  refine Tot.of ?_;rw [awW];simp only [atQ,zz,c1];exact .jump (Fb h1 (fun _ _ _=>trivial) d1.l.length 0 (by omega))
 |j+1,i,hi=>by
  have hl:=h0.len;have c1:(i:Int)<(d0.l.length:Int):=by omega
  have c2: ¬((i:Int)<0):=by omega
  have w:=bV (n:=i) (by omega);refine Tot.of ?_;rw [awW];simp only [atQ,zz,c1,c2,w];exact .jump (J5 j (i+1) (by omega))
theorem Vs (hs:d0.l.length<=64) (ht:d1.l.length<=16): ∀(j i:Nat),i+j=d0.l.length->(∀(k:Nat) (h:k<d0.l.length),k<i->agH d0 d0.l[k])->Tot 452 [enc d0,(d0.l.length:Int),(i:Int),enc d1] (Md d0 d1)
 |0,i,hi,hp=>by
  have c1: ¬(i:Int)<(d0.l.length:Int):=by omega
  refine Tot.of ?_;rw [awV];simp only [atP,zz,c1];refine .jump (U0 h1 ⟨hs,ht,fun x hx=>?_⟩ d1.l.length 0 (by omega) fun n hn h=>absurd h (by omega));obtain⟨k,hk,rfl⟩:=aEd hx;exact hp k hk (by omega)
 |j+1,i,hi,hp=>by
  have hil:i<d0.l.length:=by omega
  have c1:(i:Int)<(d0.l.length:Int):=by omega
  have c2: ¬((i:Int)<0):=by omega
  have w:=bV (n:=i) (by omega);obtain⟨ys,hO,b,rfl,_,hob⟩:=acA d0 (enc d1) ((d0.l[i]).hd 0).n (enc ((d0.l[i]).hd 1)) ((d0.l[i]).hd 2).n (enc ((d0.l[i]).hd 3)) ((d0.l[i]).hd 4).n;refine Tot.of ?_;rw [awV];simp only [atP,zz,c1,c2,w,bP hil,hO];refine .ite (fun _=> .jump (J5 h0 h1 j (i+1) (by omega))) fun hb=> .jump (Vs hs ht j (i+1) (by omega) fun k hk hki=>?_);by_cases hke:k=i
  ·subst hke;exact hob hb
  ·exact hp k hk (by omega)
theorem IW:Tot 450 [enc d0,enc d1] (Md d0 d1):=by
 refine Tot.of ?_;rw [aA8];simp only [ayM,zz]
 exact .ite (fun _=> .jump (J5 h0 h1 d0.l.length 0 (by omega))) fun ha=> .ite (fun _=> .jump (J5 h0 h1 d0.l.length 0 (by omega))) fun hb=>
  .jump (Vs h0 h1 (by omega) (by omega) d0.l.length 0 (by omega) fun k hk hki=>by omega)
end
def one (ys:List Int):Prop:= ∃k:Int,ys= [k]
theorem axV {o:Int} (h:pV .u8 o):IntKind.i64.wrap o=o:=AB (by have:=h.1; omega) (by have:=h.2; omega)
theorem agT (a b c d e:Int):Tot 650 [a,b,c,d,e] (fun ys=> ∃k l:Int,ys= [k,l]/\(l=0\/l=1)):=by
 refine Tot.of ?_;rw [awO];simp only [atJ,zz]
 repeat' first |exact .out ⟨_,_,rfl,.inl rfl⟩|exact .out ⟨_,_,rfl,.inr rfl⟩|refine .ite (fun _=>?_) (fun _=>?_)
theorem OO (r:D) (hl:r.l.length<=140737488351232) (x0 x4 x5 x6 x7 x8 x9 x10 x11 x12:Int) (v:D): ∀(j i:Nat) (x14:Int),i+j=r.l.length->
 Tot 501 [x0,enc r,(r.l.length:Int),(i:Int),x4,x5,x6,x7,x8,x9,x10,x11,x12,enc v,x14] EN
 |0,i,x14,hi=>by
  have c1: ¬(i:Int)<(r.l.length:Int):=by omega
  refine Tot.of ?_;rw [ajC];simp only [aaX,zz,c1]
  repeat' first |exact .out zH|exact .out zG|refine .ite (fun _=>?_) (fun _=>?_)
 |j+1,i,x14,hi=>by
  have c1:(i:Int)<(r.l.length:Int):=by omega
  have c2: ¬((i:Int)<0):=by omega
  have w:=bV (n:=i) (by omega);have ih:=fun x=>OO r hl x0 x4 x5 x6 x7 x8 x9 x10 x11 x12 v j (i+1) x (by omega);refine Tot.of ?_;rw [ajC];simp only [aaX,zz,c1,c2,w]
  repeat' first |exact .out zH|exact .out zG|exact .jump (ih _)|refine .ite (fun _=>?_) (fun _=>?_)
theorem Xr (x0 x1 x2 x3 x4 x5 x6 x7 x8 x11:Int) (r v:D) (hl:r.l.length<=140737488351232):Tot 500 [x0,x1,x2,x3,x4,x5,x6,x7,x8,enc r,enc v,x11] EN:=by
 obtain⟨ys,hM,a,b,rfl,hb⟩:=agT x0 x1 x2 x3 x4;have ih:=OO r hl x11 x0 x1 x2 x3 x4 x5 x6 x7 x8 v r.l.length 0 (enc (.i 0)) (by omega);refine Tot.of ?_;rw [awQ];simp only [alY,zz,hM]
 repeat' first |exact .out zH|exact .out zG|exact .jump ih|refine .ite (fun _=>?_) (fun _=>?_)
theorem set_self {d:D} (hd:d=dL d.l) {i:Nat} (hi:i<d.l.length):dL (iM d.l (i:Int) d.l[i])=d:=by rw [xP,List.set_getElem_self,<- hd]
theorem Xu (a b c d e f x:D):iM [a,b,c,d,e,f] 4 x= [a,b,c,d,x,f]:=rfl
theorem Xt (a b c d e f x:D):iM [a,b,c,d,e,f] 5 x= [a,b,c,d,e,x]:=rfl
theorem FV: ¬(enc (.i 2)=enc (.i 1)):=fun h=>by have:=kP h; simp at this
theorem len1:(((D.i 1).l.length:Nat):Int)=0:=rfl
theorem len2:(((D.i 2).l.length:Nat):Int)=0:=rfl
theorem SN: ¬((0:Int)<0):=by omega
theorem fJ {r:D} (h:Wd (.sl 0) r):r= .i 1\/r= .i 2\/((0:Int)<(r.l.length:Int)/\(r.l.length:Int)<17592186044416):=by
 rcases h.sh with h1|h1|⟨h1,h2⟩
 ·grind
 ·grind
 ·have hr:=h.room;have h3:G7 0=8:=rfl;rw [h3] at hr;have:=aDB.2 h2
  grind
structure Th (d:D):Prop where
 wd:Wd (.sl 7) d
 sh:d=dL d.l
 few:d.l.length<=1759218604390
theorem U1 {d:D} (h:Wd (.sl 7) d) (hn:0<d.l.length):Th d:=by
 refine⟨h,?_,?_⟩
 ·rcases h.sh with rfl|rfl|⟨h1,_⟩
  all_goals grind [D.l]
 ·have hr:=h.room
  grind [G7]
theorem QZ (d:D) (h:Th d): ∀(j i:Nat),i+j=d.l.length->L 551 [enc d,(d.l.length:Int),(i:Int)]=some [enc d]
 |0,i,hi=>by simp_all [bY,awP,atK,zz,fin]
 |j+1,i,hi=>by
  have hl:=h.few;have hil:i<d.l.length:=by omega
  have c1:(i:Int)<(d.l.length:Int):=by omega
  have c2: ¬((i:Int)<0):=by omega
  have w:=bV (n:=i) (by omega);have ih:=QZ d h j (i+1) (by omega);obtain⟨o,c,dn,g,r,v,he,_,_,_,_,hr,hv⟩:=h.wd.thing _ (aCY hil);have hs:=set_self h.sh hil;rw [he] at hs;rw [bY,awP];rcases fJ hr with rfl|rfl|⟨r1,r2⟩ <;>rcases fJ hv with rfl|rfl|⟨v1,v2⟩
  all_goals
   simp only [atK,zz,c1,c2,w,bP hil,he,pK,aY,aC6,aC7,Xu,Xt,hs,len1,len2,SN,FV]
   try simp only [r1,r2,zz]
   try simp only [v1,v2,zz]
   try simp only [fin]
   exact ih
theorem akL (d:D) (h:Wd (.sl 7) d):L 550 [enc d]=some [enc d]:=by
 rw [bY,aA7];rcases h.sh with rfl|rfl|⟨h1,h2⟩
 ·simp only [alX,zz,len1,SN,fin];rw [bY,aA6];rfl
 ·simp only [alX,zz,len2,SN,FV,fin];rw [bY,aA5];rfl
 ·have hp:=aDB.2 h2;have ht:=U1 h hp;have hl:=ht.few;have c1:(0:Int)<(d.l.length:Int):=by omega
  have c2:(d.l.length:Int)<1759218604441:=by omega
  simp only [alX,zz,c1,c2,fin];exact QZ d ht d.l.length 0 (by omega)
theorem Rj (d:D) (h:Th d) (gi:Nat) (x4 x5 x6 x7 x8 x9:Int): ∀(j i:Nat),gi<i->i+j=d.l.length->L 9004 [(gi:Int),enc d,(d.l.length:Int),(i:Int),x4,x5,x6,x7,x8,x9]=some [3,(gi:Int),enc d,x4,x5,x6,x7,x8,x9]
 |0,i,hg,hi=>by simp_all [bY,aiV,aeN,zz,fin]
 |j+1,i,hg,hi=>by
  have hl:=h.few;have hil:i<d.l.length:=by omega
  have c1:(i:Int)<(d.l.length:Int):=by omega
  have c2: ¬((i:Int)<0):=by omega
  have c0: ¬((i:Int)=(gi:Int)):=by omega
  have w:=bV (n:=i) (by omega);have ih:=Rj d h gi x4 x5 x6 x7 x8 x9 j (i+1) (by omega) (by omega);obtain⟨o,c,dn,g,r,v,he,_,_,_,_,hr,hv⟩:=h.wd.thing _ (aCY hil);have hs:=set_self h.sh hil;rw [he] at hs;rw [bY,aiV];rcases fJ hr with rfl|rfl|⟨r1,r2⟩ <;>rcases fJ hv with rfl|rfl|⟨v1,v2⟩
  all_goals
   simp only [aeN,zz,c0,c1,c2,w,bP hil,he,pK,aY,aC6,aC7,Xu,Xt,hs,len1,len2,SN,FV]
   try simp only [r1,r2,zz]
   try simp only [v1,v2,zz]
   try simp only [fin]
   exact ih
theorem Ri (d:D) (h:Th d) (gi:Nat) (x4 x5 x6 x7 x8 x9:Int): ∀(j i:Nat),gi<i->i+j=d.l.length->L 9005 [(gi:Int),enc d,(d.l.length:Int),(i:Int),x4,x5,x6,x7,x8,x9]=some [4,(gi:Int),enc d,x4,x5,x6,x7,x8,x9]
 |0,i,hg,hi=>by simp_all [bY,aiU,aeM,zz,fin]
 |j+1,i,hg,hi=>by
  have hl:=h.few;have hil:i<d.l.length:=by omega
  have c1:(i:Int)<(d.l.length:Int):=by omega
  have c2: ¬((i:Int)<0):=by omega
  have c0: ¬((i:Int)=(gi:Int)):=by omega
  have w:=bV (n:=i) (by omega);have ih:=Ri d h gi x4 x5 x6 x7 x8 x9 j (i+1) (by omega) (by omega);obtain⟨o,c,dn,g,r,v,he,_,_,_,_,hr,hv⟩:=h.wd.thing _ (aCY hil);have hs:=set_self h.sh hil;rw [he] at hs;rw [bY,aiU];rcases fJ hr with rfl|rfl|⟨r1,r2⟩ <;>rcases fJ hv with rfl|rfl|⟨v1,v2⟩
  all_goals
   simp only [aeM,zz,c0,c1,c2,w,bP hil,he,pK,aY,aC6,aC7,Xu,Xt,hs,len1,len2,SN,FV]
   try simp only [r1,r2,zz]
   try simp only [v1,v2,zz]
   try simp only [fin]
   exact ih
theorem Rh (d:D) (h:Th d) (gi:Nat) (x4 x5 x6 x7 x8 x9:Int): ∀(j i:Nat),gi<i->i+j=d.l.length->L 9006 [(gi:Int),enc d,(d.l.length:Int),(i:Int),x4,x5,x6,x7,x8,x9]=some [5,(gi:Int),enc d,x4,x5,x6,x7,x8,x9]
 |0,i,hg,hi=>by simp_all [bY,aiT,aeL,zz,fin]
 |j+1,i,hg,hi=>by
  have hl:=h.few;have hil:i<d.l.length:=by omega
  have c1:(i:Int)<(d.l.length:Int):=by omega
  have c2: ¬((i:Int)<0):=by omega
  have c0: ¬((i:Int)=(gi:Int)):=by omega
  have w:=bV (n:=i) (by omega);have ih:=Rh d h gi x4 x5 x6 x7 x8 x9 j (i+1) (by omega) (by omega);obtain⟨o,c,dn,g,r,v,he,_,_,_,_,hr,hv⟩:=h.wd.thing _ (aCY hil);have hs:=set_self h.sh hil;rw [he] at hs;rw [bY,aiT];rcases fJ hr with rfl|rfl|⟨r1,r2⟩ <;>rcases fJ hv with rfl|rfl|⟨v1,v2⟩
  all_goals
   simp only [aeL,zz,c0,c1,c2,w,bP hil,he,pK,aY,aC6,aC7,Xu,Xt,hs,len1,len2,SN,FV]
   try simp only [r1,r2,zz]
   try simp only [v1,v2,zz]
   try simp only [fin]
   exact ih
theorem Rf (d:D) (h:Th d) (gi:Nat) (x4 x5 x6 x7 x8 x9:Int): ∀(j i:Nat),gi<i->i+j=d.l.length->L 9007 [(gi:Int),enc d,(d.l.length:Int),(i:Int),x4,x5,x6,x7,x8,x9]=some [6,(gi:Int),enc d,x4,x5,x6,x7,x8,x9]
 |0,i,hg,hi=>by simp_all [bY,aiS,aeK,zz,fin]
 |j+1,i,hg,hi=>by
  have hl:=h.few;have hil:i<d.l.length:=by omega
  have c1:(i:Int)<(d.l.length:Int):=by omega
  have c2: ¬((i:Int)<0):=by omega
  have c0: ¬((i:Int)=(gi:Int)):=by omega
  have w:=bV (n:=i) (by omega);have ih:=Rf d h gi x4 x5 x6 x7 x8 x9 j (i+1) (by omega) (by omega);obtain⟨o,c,dn,g,r,v,he,_,_,_,_,hr,hv⟩:=h.wd.thing _ (aCY hil);have hs:=set_self h.sh hil;rw [he] at hs;rw [bY,aiS];rcases fJ hr with rfl|rfl|⟨r1,r2⟩ <;>rcases fJ hv with rfl|rfl|⟨v1,v2⟩
  all_goals
   simp only [aeK,zz,c0,c1,c2,w,bP hil,he,pK,aY,aC6,aC7,Xu,Xt,hs,len1,len2,SN,FV]
   try simp only [r1,r2,zz]
   try simp only [v1,v2,zz]
   try simp only [fin]
   exact ih
def oI (r v:D):Int:=if 0<r.l.length then (if 0<v.l.length then 3 else 4) else (if 0<v.l.length then 5 else 6)
theorem asO (d:D) (h:Th d) (gi:Nat) (hgi:gi<d.l.length) (o c dn g:Int) (r v:D) (he':d.l[gi]=dL [.i o,.i c,.i dn,.i g,r,v]): ∀(j i:Nat),i<=gi->i+j=gi->
 L 9001 [(gi:Int),enc d,(d.l.length:Int),(i:Int)]=some [oI r v,(gi:Int),enc d,o,c,dn,g,enc r,enc v]
 |0,i,hg,hi=>by
  obtain rfl:i=gi:=by omega
  have hl:=h.few;have c1:(i:Int)<(d.l.length:Int):=by omega
  have c2: ¬((i:Int)<0):=by omega
  have w:=bV (n:=i) (by omega);obtain⟨o',c',NI,g',r',v',he,_,_,_,_,hr,hv⟩:=h.wd.thing _ (aCY hgi);rw [he'] at he;have he:=IV he;simp only [List.cons.injEq,D.i.injEq,and_true] at he;obtain⟨rfl,rfl,rfl,rfl,rfl,rfl⟩:=he;have b4:=fun a b=>Rj d h i o c dn g a b (d.l.length-(i+1)) (i+1) (by omega) (by omega);have b5:=fun a b=>Ri d h i o c dn g a b (d.l.length-(i+1)) (i+1) (by omega) (by omega);have b6:=fun a b=>Rh d h i o c dn g a b (d.l.length-(i+1)) (i+1) (by omega) (by omega);have b7:=fun a b=>Rf d h i o c dn g a b (d.l.length-(i+1)) (i+1) (by omega) (by omega);rw [bY,Wp];rcases fJ hr with rfl|rfl|⟨r1,r2⟩
  ·rcases fJ hv with rfl|rfl|⟨v1,v2⟩
   ·simp only [xJ,zz,c1,c2,w,bP hgi,he',pK,aY,aC6,aC7,len1,SN,fin,b7]
    grind [oI,D.l]
   ·simp only [xJ,zz,c1,c2,w,bP hgi,he',pK,aY,aC6,aC7,len1,SN,len2,FV,fin,b7]
    grind [oI,D.l]
   ·simp only [xJ,zz,c1,c2,w,bP hgi,he',pK,aY,aC6,aC7,len1,SN,v1,v2,fin,b6]
    grind [oI,D.l]
  ·rcases fJ hv with rfl|rfl|⟨v1,v2⟩
   ·simp only [xJ,zz,c1,c2,w,bP hgi,he',pK,aY,aC6,aC7,len2,SN,FV,len1,fin,b7]
    grind [oI,D.l]
   ·simp only [xJ,zz,c1,c2,w,bP hgi,he',pK,aY,aC6,aC7,len2,SN,FV,fin,b7]
    grind [oI,D.l]
   ·simp only [xJ,zz,c1,c2,w,bP hgi,he',pK,aY,aC6,aC7,len2,SN,FV,v1,v2,fin,b6]
    grind [oI,D.l]
  ·rcases fJ hv with rfl|rfl|⟨v1,v2⟩
   ·simp only [xJ,zz,c1,c2,w,bP hgi,he',pK,aY,aC6,aC7,r1,r2,len1,SN,fin,b5]
    grind [oI,D.l]
   ·simp only [xJ,zz,c1,c2,w,bP hgi,he',pK,aY,aC6,aC7,r1,r2,len2,SN,FV,fin,b5]
    grind [oI,D.l]
   ·simp only [xJ,zz,c1,c2,w,bP hgi,he',pK,aY,aC6,aC7,r1,r2,v1,v2,fin,b4]
    grind [oI]
 |j+1,i,hg,hi=>by
  have hl:=h.few;have hil:i<d.l.length:=by omega
  have c1:(i:Int)<(d.l.length:Int):=by omega
  have c2: ¬((i:Int)<0):=by omega
  have c0: ¬((i:Int)=(gi:Int)):=by omega
  have w:=bV (n:=i) (by omega);have ih:=asO d h gi hgi o c dn g r v he' j (i+1) (by omega) (by omega);clear he';obtain⟨o2,c2',dn2,g2,r2',v2',he,_,_,_,_,hr,hv⟩:=h.wd.thing _ (aCY hil);have hs:=set_self h.sh hil;rw [he] at hs;rw [bY,Wp];rcases fJ hr with rfl|rfl|⟨r1,r2⟩ <;>rcases fJ hv with rfl|rfl|⟨v1,v2⟩
  all_goals
   simp only [xJ,zz,c0,c1,c2,w,bP hil,he,pK,aY,aC6,aC7,Xu,Xt,hs,len1,len2,SN,FV]
   try simp only [r1,r2,zz]
   try simp only [v1,v2,zz]
   try simp only [fin]
   exact ih
theorem asN (d:D) (h:Th d) (gi:Nat) (hgi:gi<d.l.length) (o c dn g:Int) (r v:D) (he':d.l[gi]=dL [.i o,.i c,.i dn,.i g,r,v]) :
 L 9000 [(gi:Int),enc d]=some [oI r v,(gi:Int),enc d,o,c,dn,g,enc r,enc v]:=by
 have hl:=h.few;have c1:(0:Int)<(d.l.length:Int):=by omega
 have c2:(d.l.length:Int)<1759218604441:=by omega
 rw [bY,aiW];simp only [U2,zz,c1,c2,fin];exact asO d h gi hgi o c dn g r v he' gi 0 (by omega) (by omega)
theorem NW (d:D) (h:Th d) (x:Int) (hx:x<0\/(d.l.length:Int)<=x): ∀(j i:Nat),i+j=d.l.length->L 9001 [x,enc d,(d.l.length:Int),(i:Int)]=some [0,x,enc d]
 |0,i,hi=>by simp_all [bY,Wp,xJ,zz,fin]
 |j+1,i,hi=>by
  have hl:=h.few;have hil:i<d.l.length:=by omega
  have c1:(i:Int)<(d.l.length:Int):=by omega
  have c2: ¬((i:Int)<0):=by omega
  have c0: ¬((i:Int)=x):=by omega
  have w:=bV (n:=i) (by omega);have ih:=NW d h x hx j (i+1) (by omega);obtain⟨o,c,dn,g,r,v,he,_,_,_,_,hr,hv⟩:=h.wd.thing _ (aCY hil);have hs:=set_self h.sh hil;rw [he] at hs;rw [bY,Wp];rcases fJ hr with rfl|rfl|⟨r1,r2⟩ <;>rcases fJ hv with rfl|rfl|⟨v1,v2⟩
  all_goals
   simp only [xJ,zz,c0,c1,c2,w,bP hil,he,pK,aY,aC6,aC7,Xu,Xt,hs,len1,len2,SN,FV]
   try simp only [r1,r2,zz]
   try simp only [v1,v2,zz]
   try simp only [fin]
   exact ih
theorem copyN (d:D) (h:Wd (.sl 7) d) (x:Int) (hx:x<0\/(d.l.length:Int)<=x):Tot 9000 [x,enc d] (fun ys=>ys= [0,x,enc d]\/(ys= [1,x]/\d= .i 1)\/(ys= [2,x]/\d= .i 2)):=by
 refine Tot.of ?_;rw [aiW];rcases h.sh with rfl|rfl|⟨h1,h2⟩
 ·simp only [U2,zz,len1,SN];refine .jump (Tot.of ?_);rw [arJ];simp only [aqA,zz];exact .ite (fun _=> .out (.inr (.inl rfl))) fun _=> .out (.inr (.inl rfl))
 ·simp only [U2,zz,len2,SN,FV];refine .jump (Tot.of ?_);rw [arI];simp only [apZ,zz];exact .ite (fun _=> .out (.inr (.inr rfl))) fun _=> .out (.inr (.inr rfl))
 ·have hp:=aDB.2 h2;have ht:=U1 h hp;have hl:=ht.few;have c1:(0:Int)<(d.l.length:Int):=by omega
  have c2:(d.l.length:Int)<1759218604441:=by omega
  simp only [U2,zz,c1,c2];exact .jump ⟨_,NW d ht x hx d.l.length 0 (by omega),.inl rfl⟩
def firstAt (t:Int):List D->Nat->Int
 |[],_=> -1
 |x::l,i=>if x.n=t then (i:Int) else firstAt t l (i+1)
def place (r:D) (t:Int):Int:=firstAt t r.l 0
def wo (t:Int) (l:List D):List D:=l.filter fun x=>decide (x.n≠t)
theorem Eb (t:Int): ∀(l:List D) (i:Nat),(firstAt t l i= -1/\∀x∈l,x.n≠t)\/∃(k:Nat) (h:k<l.length),firstAt t l i=((i+k:Nat):Int)/\(l[k]).n=t/\∀x∈l.take k,x.n≠t
 |[],_=> .inl ⟨rfl,fun x h=>absurd h (by simp)⟩
 |x::l,i=>by
  unfold firstAt;by_cases hx:x.n=t
  ·grind
  ·rw [aCI hx];rcases Eb t l (i+1) with ⟨h1,h2⟩|⟨k,hk,h1,h2,h3⟩
   ·grind
   ·refine .inr ⟨k+1,by simp; omega,by rw [h1]; congr 1; omega,by simpa using h2,fun y hy=>?_⟩
    grind
theorem sD (r:D) (t:Int):(place r t= -1/\∀x∈r.l,x.n≠t)\/∃(k:Nat) (h:k<r.l.length),place r t=(k:Int)/\(r.l[k]).n=t/\∀x∈r.l.take k,x.n≠t:=by have:=Eb t r.l 0;simp only [aCR] at this;exact this
theorem iI (r:D) (t:Int): -1<=place r t/\place r t<(r.l.length:Int):=by
 grind [sD]
theorem JR {t:Int} {l:List D} (h: ∀x∈l,x.n≠t):wo t l=l:=List.filter_eq_self.2 fun x hx=>by simpa using h x hx
theorem zZ {r:D} {t:Int} {i:Nat} (h:i<r.l.length):firstAt t (r.l.drop i) i=if (r.at (i:Int)).n=t then (i:Int) else firstAt t (r.l.drop (i+1)) (i+1):=by rw [aDr h,bP h];rfl
theorem ahM (r:D) (t:Int) (hl:r.l.length<=140737488351232): ∀(j i:Nat),i+j=r.l.length->L 851 [enc r,t,(r.l.length:Int),(i:Int)]=some [firstAt t (r.l.drop i) i]
 |0,i,hi=>by simp_all [bY,awN,alW,zz,fin,firstAt]
 |j+1,i,hi=>by
  have c1:(i:Int)<(r.l.length:Int):=by omega
  have c2: ¬((i:Int)<0):=by omega
  have w:=bV (n:=i) (by omega);have ih:=ahM r t hl j (i+1) (by omega);rw [zZ (by omega),bY,awN];by_cases he:(r.at (i:Int)).n=t
  ·simp only [alW,zz,c1,c2,he,fin]
  ·have he': ¬t=(r.at (i:Int)).n:=fun h=>he h.symm;simp only [alW,zz,c1,c2,aCI he,aCI he',w,fin,ih]
theorem dD (r:D) (t:Int) (hl:r.l.length<=140737488351232):L 850 [enc r,t]=some [place r t]:=by have h:=ahM r t hl r.l.length 0 (by omega);rw [bY,aAY];simp only [ayC,zz,fin];exact h
theorem has_is (r:D) (t:Int) (hl:r.l.length<=140737488351232):L 900 [enc r,t]=some [if place r t<0 then 0 else 1]:=by rw [bY,aAX];simp only [ayB,zz,dD r t hl];split<;>rfl
theorem FY (r:D) (t:Int) (hl:r.l.length<=140737488351232) (y2 y3 y4 y5 y6 y7 y8 y9 qB qA pY:Int): ∀(j i:Nat),i+j=r.l.length->
 L 12051 [enc r,t,y2,y3,y4,y5,y6,y7,y8,y9,qB,qA,pY,(r.l.length:Int),(i:Int)]=some [0,enc r,t,y2,y3,y4,y5,y6,y7,y8,y9,qB,qA,pY,firstAt t (r.l.drop i) i]
 |0,i,hi=>by simp_all [bY,YH,RP,zz,fin,firstAt]
 |j+1,i,hi=>by
  have c1:(i:Int)<(r.l.length:Int):=by omega
  have c2: ¬((i:Int)<0):=by omega
  have w:=bV (n:=i) (by omega);have ih:=FY r t hl y2 y3 y4 y5 y6 y7 y8 y9 qB qA pY j (i+1) (by omega);rw [zZ (by omega),bY,YH];by_cases he:(r.at (i:Int)).n=t
  ·simp only [RP,zz,c1,c2,he,fin]
  ·simp only [RP,zz,c1,c2,aCI he,w,fin,ih]
theorem anK (r:D) (t:Int) (hl:r.l.length<=140737488351232) (y2 y3 y4 y5 y6 y7 y8 y9 qB qA pY:Int):L 12050 [enc r,t,y2,y3,y4,y5,y6,y7,y8,y9,qB,qA,pY]=some [0,enc r,t,y2,y3,y4,y5,y6,y7,y8,y9,qB,qA,pY,place r t]:=by have h:=FY r t hl y2 y3 y4 y5 y6 y7 y8 y9 qB qA pY r.l.length 0 (by omega);rw [bY,ajX];simp only [afH,zz,fin];exact h
theorem FX (r:D) (t:Int) (hl:r.l.length<=140737488351232) (y2 y3 y4 y5 y6 y7 y8 y9 qB qA pY:Int): ∀(j i:Nat),i+j=r.l.length->
 L 12151 [enc r,t,y2,y3,y4,y5,y6,y7,y8,y9,qB,qA,pY,(r.l.length:Int),(i:Int)]=some [0,enc r,t,y2,y3,y4,y5,y6,y7,y8,y9,qB,qA,pY,firstAt t (r.l.drop i) i]
 |0,i,hi=>by simp_all [bY,YE,RJ,zz,fin,firstAt]
 |j+1,i,hi=>by
  have c1:(i:Int)<(r.l.length:Int):=by omega
  have c2: ¬((i:Int)<0):=by omega
  have w:=bV (n:=i) (by omega);have ih:=FX r t hl y2 y3 y4 y5 y6 y7 y8 y9 qB qA pY j (i+1) (by omega);rw [zZ (by omega),bY,YE];by_cases he:(r.at (i:Int)).n=t
  ·simp only [RJ,zz,c1,c2,he,fin]
  ·simp only [RJ,zz,c1,c2,aCI he,w,fin,ih]
theorem anJ (r:D) (t:Int) (hl:r.l.length<=140737488351232) (y2 y3 y4 y5 y6 y7 y8 y9 qB qA pY:Int):L 12150 [enc r,t,y2,y3,y4,y5,y6,y7,y8,y9,qB,qA,pY]=some [0,enc r,t,y2,y3,y4,y5,y6,y7,y8,y9,qB,qA,pY,place r t]:=by have h:=FX r t hl y2 y3 y4 y5 y6 y7 y8 y9 qB qA pY r.l.length 0 (by omega);rw [bY,ajW];simp only [afG,zz,fin];exact h
theorem CQ {t:Int} {l:List D} {j:Nat} (h:j<l.length):wo t (l.take (j+1))=if (l[j]).n=t then wo t (l.take j) else wo t (l.take j)++ [l[j]]:=by
 unfold wo;rw [aE0 h,List.filter_append]
 grind
theorem adY (t:Int) (l:List D):(wo t l).length<=l.length:=List.length_filter_le _ _
theorem Ai (r0:D) (t:Int) (l0:List D) (hl:l0.length<=140737488351232) (hn: ∀x∈l0,x= .i x.n) (y2 y3 y4 y5 y6 y7 y8 y9 qB qA pY:Int): ∀(m i j:Nat) (r:D),r.l.length=l0.length->i<j->j+m=l0.length->r.l.drop j=l0.drop j->r.l.take i=wo t (l0.take j)->
 ∃(n:Nat) (r':D),n<l0.length/\r'.l.length=l0.length/\r'.l.take n=wo t l0/\L 12001 [enc r0,t,y2,y3,y4,y5,y6,y7,y8,y9,qB,qA,pY,enc r,(i:Int),(j:Int)]=some [1,enc r0,t,y2,y3,y4,y5,y6,y7,y8,y9,qB,qA,pY,(n:Int),enc r',(l0.length:Int)]
 |0,i,j,r,hr,h1,h2,h3,h4=>by
  have c1: ¬(j:Int)<(l0.length:Int):=by omega
  have c2: ¬((i:Int)<0):=by omega
  have c3: ¬((l0.length:Int)<(i:Int)):=by omega
  have c4: ¬((l0.length:Int)-(i:Int)<0):=by omega
  have c5:(i:Int)+((l0.length:Int)-(i:Int))=(l0.length:Int):=by omega
  refine⟨i,dL (r.l.take i++List.replicate (r.l.length-i) (.i 0)),by omega,by rw [aY]; simp only [aC5,aDa,aDY]; omega,?_,?_⟩
  ·grind [aY]
  ·rw [bY,Ut];simp only [RQ,zz,c1,c2,c3,c4,c5,aDj,fin,hr]
 |m+1,i,j,r,hr,h1,h2,h3,h4=>by
  have c1:(j:Int)<(l0.length:Int):=by omega
  have c2: ¬((j:Int)<0):=by omega
  have w:=bV (n:=j) (by omega);have hj:j<r.l.length:=by omega
  have hj0:j<l0.length:=by omega
  have hx:r.at (j:Int)=l0[j]:=by
   rw [bP hj];rw [aDr hj,aDr hj0] at h3
   grind
  have h3':r.l.drop (j+1)=l0.drop (j+1):=by
   rw [aDr hj,aDr hj0] at h3
   grind
  by_cases he:(r.at (j:Int)).n=t
  ·obtain⟨n,r',q1,q2,q3,ih⟩:=Ai r0 t l0 hl hn y2 y3 y4 y5 y6 y7 y8 y9 qB qA pY m i (j+1) r hr (by omega) (by omega) h3' (by rw [CQ hj0,<- hx,aCL he,h4]);refine⟨n,r',q1,q2,q3,?_⟩;rw [bY,Ut];simp only [RQ,zz,c1,c2,he,w,hr,fin,ih]
  ·have c3: ¬((i:Int)<0):=by omega
   have c4:(i:Int)<(l0.length:Int):=by omega
   have w2:=bV (n:=i) (by omega);have hs:iM r.l (i:Int) (.i (r.at (j:Int)).n)=r.l.set i l0[j]:=by rw [xP,hx,<- hn _ (aCY hj0)]
   obtain⟨n,r',q1,q2,q3,ih⟩:=Ai r0 t l0 hl hn y2 y3 y4 y5 y6 y7 y8 y9 qB qA pY m (i+1) (j+1) (dL (iM r.l (i:Int) (.i (r.at (j:Int)).n))) (by rw [aY,kQ,hr]) (by omega) (by omega)
    (by rw [aY,hs,aEL (by omega),h3'])
    (by rw [aY,hs,aE0 (by rw [aEp]; omega),aEK (aCN _),aFb,h4,CQ hj0,<- hx,aCI he])
   refine⟨n,r',q1,q2,q3,?_⟩;rw [bY,Ut];simp only [RQ,zz,c1,c2,c3,c4,aCI he,w,w2,hr,fin,ih]
theorem apJ (r:D) (t:Int) (hl:r.l.length<=140737488351232) (hn: ∀x∈r.l,x= .i x.n):(wo t r.l=r.l/\∀y2 y3 y4 y5 y6 y7 y8 y9 qB qA pY:Int,L 12000 [enc r,t,y2,y3,y4,y5,y6,y7,y8,y9,qB,qA,pY]=some [0,enc r,t,y2,y3,y4,y5,y6,y7,y8,y9,qB,qA,pY])\/
 ∀y2 y3 y4 y5 y6 y7 y8 y9 qB qA pY:Int,∃(n:Nat) (r':D),n<r.l.length/\r'.l.length=r.l.length/\r'.l.take n=wo t r.l/\L 12000 [enc r,t,y2,y3,y4,y5,y6,y7,y8,y9,qB,qA,pY]=some [1,enc r,t,y2,y3,y4,y5,y6,y7,y8,y9,qB,qA,pY,(n:Int),enc r',(r.l.length:Int)]:=by
 have h:=anK r t hl;rcases sD r t with ⟨hp,hno⟩|⟨i,hi,hp,hat,hno⟩
 ·refine .inl ⟨JR hno,fun y2 y3 y4 y5 y6 y7 y8 y9 qB qA pY=>?_⟩;have h':=h y2 y3 y4 y5 y6 y7 y8 y9 qB qA pY;clear h;rw [hp] at h';rw [bY,YI,Xo,dO,aCL,dO,aCL,dO,aCL]
  ·simp only [jK,List.map,bJ,aP,aG,aH,Nat.reduceLT,fin]
  ·simp only [Qm3,iF,bJ,fZ,gZ,List.map,aP,Nat.reduceLT,aG,aH];rw [h'];simp only [aG,aH,aDe,aCT,if_true]
  ·simp only [iF,bJ,fZ,gZ,List.map,aP,Nat.reduceLT,aG,aH];rw [h'];simp only [aG,aH,aDe,aCT,if_true]
  ·simp only [iF,bJ,fZ,gZ,List.map,aP,Nat.reduceLT,aG,aH]
   grind
 ·refine .inr fun y2 y3 y4 y5 y6 y7 y8 y9 qB qA pY=>?_;have h':=h y2 y3 y4 y5 y6 y7 y8 y9 qB qA pY;clear h;rw [hp] at h';have w:=bV (n:=i) (by omega);have h0:r.l.take i=wo t (r.l.take (i+1)):=by rw [CQ hi,aCL hat,JR hno]
  obtain⟨n,r',q1,q2,q3,ih⟩:=Ai r t r.l hl hn y2 y3 y4 y5 y6 y7 y8 y9 qB qA pY (r.l.length-(i+1)) i (i+1) r rfl (by omega) (by omega) rfl h0;refine⟨n,r',q1,q2,q3,?_⟩;rw [bY,YI,Xo,dO,aCL,dO,aCL,dO,aCI]
  ·simp only [nT,List.map,Qm3,bJ,fZ,BZ,den_add,aP,aG,aH,Nat.reduceLT];rw [h'];simp only [aG,aH,aCT,w,fin];rw [ih]
  ·simp only [Qm3,iF,bJ,fZ,gZ,List.map,aP,Nat.reduceLT,aG,aH];rw [h'];simp only [aG,aH,aDe,aCT,if_true];omega
  ·simp only [iF,bJ,fZ,gZ,List.map,aP,Nat.reduceLT,aG,aH];rw [h'];simp only [aG,aH,aDe,aCT,if_true]
  ·simp only [iF,bJ,fZ,gZ,List.map,aP,Nat.reduceLT,aG,aH];rw [h'];simp only [aG,aH,aDe,aCT,if_true]
theorem Ah (r0:D) (t:Int) (l0:List D) (hl:l0.length<=140737488351232) (hn: ∀x∈l0,x= .i x.n) (y2 y3 y4 y5 y6 y7 y8 y9 qB qA pY:Int): ∀(m i j:Nat) (r:D),r.l.length=l0.length->i<j->j+m=l0.length->r.l.drop j=l0.drop j->r.l.take i=wo t (l0.take j)->
 ∃(n:Nat) (r':D),n<l0.length/\r'.l.length=l0.length/\r'.l.take n=wo t l0/\L 12101 [enc r0,t,y2,y3,y4,y5,y6,y7,y8,y9,qB,qA,pY,enc r,(i:Int),(j:Int)]=some [1,enc r0,t,y2,y3,y4,y5,y6,y7,y8,y9,qB,qA,pY,(n:Int),enc r',(l0.length:Int)]
 |0,i,j,r,hr,h1,h2,h3,h4=>by
  have c1: ¬(j:Int)<(l0.length:Int):=by omega
  have c2: ¬((i:Int)<0):=by omega
  have c3: ¬((l0.length:Int)<(i:Int)):=by omega
  have c4: ¬((l0.length:Int)-(i:Int)<0):=by omega
  have c5:(i:Int)+((l0.length:Int)-(i:Int))=(l0.length:Int):=by omega
  refine⟨i,dL (r.l.take i++List.replicate (r.l.length-i) (.i 0)),by omega,by rw [aY]; simp only [aC5,aDa,aDY]; omega,?_,?_⟩
  ·grind [aY]
  ·rw [bY,Us];simp only [RN,zz,c1,c2,c3,c4,c5,aDj,fin,hr]
 |m+1,i,j,r,hr,h1,h2,h3,h4=>by
  have c1:(j:Int)<(l0.length:Int):=by omega
  have c2: ¬((j:Int)<0):=by omega
  have w:=bV (n:=j) (by omega);have hj:j<r.l.length:=by omega
  have hj0:j<l0.length:=by omega
  have hx:r.at (j:Int)=l0[j]:=by
   rw [bP hj];rw [aDr hj,aDr hj0] at h3
   grind
  have h3':r.l.drop (j+1)=l0.drop (j+1):=by
   rw [aDr hj,aDr hj0] at h3
   grind
  by_cases he:(r.at (j:Int)).n=t
  ·obtain⟨n,r',q1,q2,q3,ih⟩:=Ah r0 t l0 hl hn y2 y3 y4 y5 y6 y7 y8 y9 qB qA pY m i (j+1) r hr (by omega) (by omega) h3' (by rw [CQ hj0,<- hx,aCL he,h4]);refine⟨n,r',q1,q2,q3,?_⟩;rw [bY,Us];simp only [RN,zz,c1,c2,he,w,hr,fin,ih]
  ·have c3: ¬((i:Int)<0):=by omega
   have c4:(i:Int)<(l0.length:Int):=by omega
   have w2:=bV (n:=i) (by omega);have hs:iM r.l (i:Int) (.i (r.at (j:Int)).n)=r.l.set i l0[j]:=by rw [xP,hx,<- hn _ (aCY hj0)]
   obtain⟨n,r',q1,q2,q3,ih⟩:=Ah r0 t l0 hl hn y2 y3 y4 y5 y6 y7 y8 y9 qB qA pY m (i+1) (j+1) (dL (iM r.l (i:Int) (.i (r.at (j:Int)).n))) (by rw [aY,kQ,hr]) (by omega) (by omega)
    (by rw [aY,hs,aEL (by omega),h3'])
    (by rw [aY,hs,aE0 (by rw [aEp]; omega),aEK (aCN _),aFb,h4,CQ hj0,<- hx,aCI he])
   refine⟨n,r',q1,q2,q3,?_⟩;rw [bY,Us];simp only [RN,zz,c1,c2,c3,c4,aCI he,w,w2,hr,fin,ih]
theorem apI (r:D) (t:Int) (hl:r.l.length<=140737488351232) (hn: ∀x∈r.l,x= .i x.n):(wo t r.l=r.l/\∀y2 y3 y4 y5 y6 y7 y8 y9 qB qA pY:Int,L 12100 [enc r,t,y2,y3,y4,y5,y6,y7,y8,y9,qB,qA,pY]=some [0,enc r,t,y2,y3,y4,y5,y6,y7,y8,y9,qB,qA,pY])\/
 ∀y2 y3 y4 y5 y6 y7 y8 y9 qB qA pY:Int,∃(n:Nat) (r':D),n<r.l.length/\r'.l.length=r.l.length/\r'.l.take n=wo t r.l/\L 12100 [enc r,t,y2,y3,y4,y5,y6,y7,y8,y9,qB,qA,pY]=some [1,enc r,t,y2,y3,y4,y5,y6,y7,y8,y9,qB,qA,pY,(n:Int),enc r',(r.l.length:Int)]:=by
 have h:=anJ r t hl;rcases sD r t with ⟨hp,hno⟩|⟨i,hi,hp,hat,hno⟩
 ·refine .inl ⟨JR hno,fun y2 y3 y4 y5 y6 y7 y8 y9 qB qA pY=>?_⟩;have h':=h y2 y3 y4 y5 y6 y7 y8 y9 qB qA pY;clear h;rw [hp] at h';rw [bY,YF,Xn,dO,aCL,dO,aCL,dO,aCL]
  ·simp only [jK,List.map,bJ,aP,aG,aH,Nat.reduceLT,fin]
  ·simp only [Qnf,iF,bJ,fZ,gZ,List.map,aP,Nat.reduceLT,aG,aH];rw [h'];simp only [aG,aH,aDe,aCT,if_true]
  ·simp only [iF,bJ,fZ,gZ,List.map,aP,Nat.reduceLT,aG,aH];rw [h'];simp only [aG,aH,aDe,aCT,if_true]
  ·simp only [iF,bJ,fZ,gZ,List.map,aP,Nat.reduceLT,aG,aH]
   grind
 ·refine .inr fun y2 y3 y4 y5 y6 y7 y8 y9 qB qA pY=>?_;have h':=h y2 y3 y4 y5 y6 y7 y8 y9 qB qA pY;clear h;rw [hp] at h';have w:=bV (n:=i) (by omega);have h0:r.l.take i=wo t (r.l.take (i+1)):=by rw [CQ hi,aCL hat,JR hno]
  obtain⟨n,r',q1,q2,q3,ih⟩:=Ah r t r.l hl hn y2 y3 y4 y5 y6 y7 y8 y9 qB qA pY (r.l.length-(i+1)) i (i+1) r rfl (by omega) (by omega) rfl h0;refine⟨n,r',q1,q2,q3,?_⟩;rw [bY,YF,Xn,dO,aCL,dO,aCL,dO,aCI]
  ·simp only [nT,List.map,Qnf,bJ,fZ,BZ,den_add,aP,aG,aH,Nat.reduceLT];rw [h'];simp only [aG,aH,aCT,w,fin];rw [ih]
  ·simp only [Qnf,iF,bJ,fZ,gZ,List.map,aP,Nat.reduceLT,aG,aH];rw [h'];simp only [aG,aH,aDe,aCT,if_true];omega
  ·simp only [iF,bJ,fZ,gZ,List.map,aP,Nat.reduceLT,aG,aH];rw [h'];simp only [aG,aH,aDe,aCT,if_true]
  ·simp only [iF,bJ,fZ,gZ,List.map,aP,Nat.reduceLT,aG,aH];rw [h'];simp only [aG,aH,aDe,aCT,if_true]
theorem apH (r:D) (t:Int): ∀y2 y3 y4 y5 y6 y7 y8 y9 qB qA pY:Int,L 12200 [enc r,t,y2,y3,y4,y5,y6,y7,y8,y9,qB,qA,pY]=some [0,enc r,t,y2,y3,y4,y5,y6,y7,y8,y9,qB,qA,pY]:=by
 intro y2 y3 y4 y5 y6 y7 y8 y9 qB qA pY
 have h:L 12250 [enc r,t,y2,y3,y4,y5,y6,y7,y8,y9,qB,qA,pY]=some [0,enc r,t,y2,y3,y4,y5,y6,y7,y8,y9,qB,qA,pY]:=by rw [bY,ajU];simp_all [afE,zz,fin,bY,ajT,afD]
 have h':=h;clear h;rw [bY,ajV,afF,dO,aCL,dO,aCL]
 ·simp_all [jK,bJ,aP,aG,aH,fin]
 ·simp only [iF,bJ,fZ,gZ,List.map,aP,Nat.reduceLT,aG,aH]
  grind [aG,aH]
 ·simp only [iF,bJ,fZ,gZ,List.map,aP,Nat.reduceLT,aG,aH]
  grind
theorem apG (r:D) (t:Int): ∀y2 y3 y4 y5 y6 y7 y8 y9 qB qA pY:Int,L 12300 [enc r,t,y2,y3,y4,y5,y6,y7,y8,y9,qB,qA,pY]=some [0,enc r,t,y2,y3,y4,y5,y6,y7,y8,y9,qB,qA,pY]:=by
 intro y2 y3 y4 y5 y6 y7 y8 y9 qB qA pY
 have h:L 12350 [enc r,t,y2,y3,y4,y5,y6,y7,y8,y9,qB,qA,pY]=some [0,enc r,t,y2,y3,y4,y5,y6,y7,y8,y9,qB,qA,pY]:=by rw [bY,ajR];simp_all [afB,zz,fin,bY,ajQ,afA]
 have h':=h;clear h;rw [bY,ajS,afC,dO,aCL,dO,aCL]
 ·simp_all [jK,bJ,aP,aG,aH,fin]
 ·simp only [iF,bJ,fZ,gZ,List.map,aP,Nat.reduceLT,aG,aH]
  grind [aG,aH]
 ·simp only [iF,bJ,fZ,gZ,List.map,aP,Nat.reduceLT,aG,aH]
  grind
def amG (d x:D) (m:Nat):List Int:=[(d.hd 0).n,enc (d.hd 1),(d.hd 2).n,enc (d.hd 3),(d.hd 4).n,(x.hd 0).n,(x.hd 1).n,(if (x.hd 2).n=0 then 0 else 1),(x.hd 3).n,enc (x.hd 4),enc (x.hd 5),(m:Int)]
def Snd (d x:D) (m:Nat):Prop:=L 500 (amG d x m)=some [1]
theorem amF (d x:D) (m:Nat) (h:(x.hd 4).l.length<=140737488351232): ∃c,L 500 (amG d x m)=some [c]/\(c=0\/c=1):=by obtain⟨ys,h1,c,rfl,hc⟩:=Xr (d.hd 0).n (enc (d.hd 1)) (d.hd 2).n (enc (d.hd 3)) (d.hd 4).n (x.hd 0).n (x.hd 1).n (if (x.hd 2).n=0 then 0 else 1) (x.hd 3).n (m:Int) (x.hd 4) (x.hd 5) h;exact⟨c,h1,hc⟩
theorem aN:((1:Int)=0)=False:=by simp
def Xy (s:D):Prop:= ∀x∈s.l,(x.hd 4).l.length<=140737488351232
section
variable {d0 d1 s:D} (hr:Xy s) (hle:s.l.length=d0.l.length) (hlen:d0.l.length<=140737488351232)
include hr hle hlen
theorem Lj: ∀(j i:Nat),i+j=s.l.length->∃b:Int,L 351 [enc s,(s.l.length:Int),(i:Int),enc d0,enc d1]=some [b]/\(b=0\/b=1)/\
 (b=1↔∀(k:Nat) (hk:k<s.l.length),i<=k->Snd (d0.l[k]'(hle▸hk)) s.l[k] d1.l.length)
 |0,i,hi=>by
  have c1: ¬(i:Int)<(s.l.length:Int):=by omega
  refine⟨1,?_,.inr rfl,fun _ k hk h=>absurd hk (by omega),fun _=>rfl⟩;rw [bY,aoW];simp only [aaY,zz,c1,fin]
 |j+1,i,hi=>by
  have hil:i<s.l.length:=by omega
  have hid:i<d0.l.length:=by omega
  have c1:(i:Int)<(s.l.length:Int):=by omega
  have c2: ¬((i:Int)<0):=by omega
  have c3:(i:Int)<(d0.l.length:Int):=by omega
  have w:=bV (n:=i) (by omega);obtain⟨c,hS,hc⟩:=amF d0.l[i] s.l[i] d1.l.length (hr _ (aCY hil));obtain⟨b,hb1,hb2,ih⟩:=Lj j (i+1) (by omega);have hS':=hS;unfold amG at hS;by_cases hc0:c=0
  ·subst hc0;refine⟨0,?_,.inl rfl,fun h=>absurd h (by omega),fun h=>?_⟩
   ·rw [bY,aoW];by_cases hn:((s.l[i]).hd 2).n=0
    ·rw [aCL hn] at hS;simp only [aaY,zz,c1,c2,c3,w,bP hil,bP hid,hn,hS,fin]
    ·rw [aCI hn] at hS;simp only [aaY,zz,c1,c2,c3,w,bP hil,bP hid,hn,hS,fin]
   ·have:=h i hil (aCN i);unfold Snd at this
    grind
  ·have hc1:c=1:=by omega
   subst hc1;refine⟨b,?_,hb2,fun h k hk hik=>?_,fun h=>ih.2 fun k hk hik=>h k hk (by omega)⟩
   ·rw [bY,aoW];by_cases hn:((s.l[i]).hd 2).n=0
    ·rw [aCL hn] at hS;simp only [aaY,zz,c1,c2,c3,w,bP hil,bP hid,hn,hS,fin,aN,hb1]
    ·rw [aCI hn] at hS;simp only [aaY,zz,c1,c2,c3,w,bP hil,bP hid,hn,hS,fin,aN,hb1]
   ·by_cases hke:k=i
    ·subst hke;exact hS'
    grind
end
theorem uX {d0 d1 s:D} (h0:Wd (.sl 3) d0) (h1:Wd (.sl 4) d1) (hr:Xy s): ∃b:Int,L 350 [enc d0,enc d1,enc s]=some [b]/\(b=0\/b=1)/\
 (b=1↔L 450 [enc d0,enc d1]=some [0]/\∃hle:s.l.length=d0.l.length,∀(k:Nat) (hk:k<s.l.length),Snd (d0.l[k]'(hle▸hk)) s.l[k] d1.l.length):=by
 obtain⟨ys,hC,c,rfl,hc,hok⟩:=IW h0 h1;by_cases hc0:c=0
 ·subst hc0;by_cases hl:s.l.length=d0.l.length
  ·have hlen:=h0.len;obtain⟨b,hb1,hb2,hb3⟩:=Lj (d1:=d1) hr hl hlen s.l.length 0 (by omega);refine⟨b,?_,hb2,fun h=> ⟨hC,hl,fun k hk=>hb3.1 h k hk (by omega)⟩,fun⟨_,_,h⟩=>hb3.2 fun k hk _=>h k hk⟩;have hl':(s.l.length:Int)=(d0.l.length:Int):=by omega
   rw [bY,aoX,alZ,dO,aCL,dO,aCL,dO,aCL,nT]
   ·simp only [List.map,bJ,gK,iJ,aP,Nat.reduceLT,aG,aH,aA,fin]
    grind
   ·simp only [iF,oC,bJ,fZ,gZ,gK,List.map,iJ,aP,Nat.reduceLT,aG,aH,aA]
    grind
   ·simp only [iF,oC,bJ,fZ,gZ,gK,List.map,iJ,aP,Nat.reduceLT,aG,aH,aA];rw [hC];simp only [aG,aH,aDe,aCT,if_true]
   ·simp only [iF,oC,bJ,fZ,gZ,gK,List.map,iJ,aP,Nat.reduceLT,aG,aH,aA]
    grind
  ·refine⟨0,?_,.inl rfl,fun h=>absurd h (by omega),fun⟨_,h,_⟩=>absurd h hl⟩;have hl': ¬(s.l.length:Int)=(d0.l.length:Int):=by omega
   rw [bY,aoX,alZ,dO,aCL,dO,aCL,dO,aCI]
   ·simp only [jK,List.map,bJ,fin]
   ·simp only [iF,oC,bJ,fZ,gZ,gK,List.map,iJ,aP,Nat.reduceLT,aG,aH,aA]
    grind
   ·simp only [iF,oC,bJ,fZ,gZ,gK,List.map,iJ,aP,Nat.reduceLT,aG,aH,aA];rw [hC];simp only [aG,aH,aDe,aCT,if_true]
   ·simp only [iF,oC,bJ,fZ,gZ,gK,List.map,iJ,aP,Nat.reduceLT,aG,aH,aA]
    grind
 ·refine⟨0,?_,.inl rfl,fun h=>absurd h (by omega),fun⟨h,_⟩=>?_⟩
  ·rw [bY,aoX,alZ,dO,aCL,dO,aCI]
   ·simp only [jK,List.map,bJ,fin]
   ·simp only [iF,oC,bJ,fZ,gZ,gK,List.map,iJ,aP,Nat.reduceLT,aG,aH,aA];rw [hC];simp only [aG,aH,aDe,aCT,if_true]
    grind
   ·simp only [iF,oC,bJ,fZ,gZ,gK,List.map,iJ,aP,Nat.reduceLT,aG,aH,aA]
    grind
  grind
abbrev Mx (d0:D) (obj:Int):Int:=((d0.at obj).hd 2).n
abbrev Mo (d0 s:D) (obj:Int):Int:=((s.at ((d0.at obj).hd 2).n).hd 0).n
inductive Act where
 |blk
 |mis
 |res (o c dn g:Int) (r v:D) (m:Option Int) (a oc:Int)
def act (M mo th op arg tries o c dn g:Int) (r v:D):Act:=
 if op=1 then (if o=th then .mis else if place r th<0 then (if o<0 then .res th c dn g r v none 0 2 else .blk) else .mis)
 else if op=2 then (if o=th then .res (-1) c dn g r v none 0 2 else .mis)
 else if op=8 then (if o=th then .res (-1) c dn g r v none 0 2 else .mis)
 else if op=3 then (if o<0 then .res th c dn g r v none 1 2 else .res o c dn g r v none 0 2)
 else if op=4 then (if o<0 then .res th c dn g r v none 1 2 else if tries<arg then .blk else .res o c dn g r v none 0 2)
 else if op=5 then (if o=th then .mis else if place r th<0 then (if o<0 then .res o c dn g (dL (r.l++ [.i th])) v none 0 2 else .blk) else .mis)
 else if op=6 then (if place r th<0 then .mis else .res o c dn g (gW (.i 2) (r.l.take (place r th).toNat++r.l.drop ((place r th).toNat+1))) v none 0 2)
 else if op=7 then (if o=th then .mis else if place r th<0 then (if (r.l.length:Int)=0 then (if o<0 then .res th c dn g r v none 0 2 else .blk) else .blk) else .mis)
 else if op=9 then (if 0<c then .res o (IntKind.i64.wrap (c-1)) dn g r v none 0 2 else .blk)
 else if op=11 then (if 0<c then .res o (IntKind.i64.wrap (c-1)) dn g r v none 1 2 else .res o c dn g r v none 0 2)
 else if op=10 then (if c<M then .res o (IntKind.i64.wrap (c+1)) dn g r v none 0 2 else .mis)
 else if op=17 then (if arg<IntKind.i64.wrap (0-c) then .mis else if IntKind.i64.wrap (1099511627776-c)<arg then .mis else .res o (IntKind.i64.wrap (c+arg)) dn g r v none (IntKind.i64.wrap (c+arg)) 2)
 else if op=18 then (if 0<c then .res o (IntKind.i64.wrap (c-1)) dn g r v none (IntKind.i64.wrap (c-1)) 2 else .mis)
 else if op=19 then (if c=0 then .res o c dn g r v none 0 2 else .blk)
 else if op=22 then .res o c dn g r v none c 2
 else if op=23 then .res o arg dn g r v none arg 2
 else if op=20 then (if (v.l.length:Int)<M then .res o c dn g r (dL (v.l++ [.i arg])) none arg 2 else .blk)
 else if op=21 then (if (v.l.length:Int)=0 then .blk else .res o c dn g r (gW v (v.l.drop 1)) none (v.at 0).n 2)
 else if op=12 then (if mo=th then .res o c dn g (dL (wo th r.l++ [.i th])) v (some (-1)) 0 3 else .mis)
 else if op=13 then (if (r.l.length:Int)=0 then .res o c dn g r v none 0 2 else .res o c dn g (gW r (r.l.drop 1)) v none (IntKind.i64.wrap ((r.at 0).n+1)) 2)
 else if op=14 then .res o c dn g (.i 1) v none (r.l.length:Int) 2
 else if op=24 then (if place r th<0 then (if mo<0 then .res o c dn g r v (some th) 0 2 else .blk) else .blk)
 else if op=15 then (if g<4611686018427387904 then (if IntKind.i64.wrap (c+1)=M then .res o 0 dn (IntKind.i64.wrap (g+1)) r v none g 3 else .res o (IntKind.i64.wrap (c+1)) dn g r v none g 3) else .mis)
 else if op=25 then (if arg<g then .res o c dn g r v none arg 2 else .blk)
 else if op=16 then (if dn=0 then (if o=th then .mis else if o<0 then .res th c dn g r v none 1 2 else .blk) else .res o c dn g r v none 0 2)
 else (if o=th then .res (-1) c 1 g r v none 0 2 else .mis)
def vZ (s:D) (obj M:Int):Act->D
 | .res o c dn g r v m _ _=>dL (iM (match m with |none=>s.l|some q=>iM s.l M (dL (iM (s.at M).l 0 (.i q)))) obj (dL [.i o,.i c,.i (if dn=0 then 0 else 1),.i g,r,v]))
 |_=>s
def outA (s:D) (th op obj M:Int):Act->List Int
 | .blk=>[enc s,0,0,0,0,0,0]
 | .mis=>[enc s,th,27,obj,IntKind.i64.wrap op,0,2]
 | .res o c dn g r v m a oc=>[enc (vZ s obj M (.res o c dn g r v m a oc)),th,op,obj,a,0,oc]
structure TH (d0 d1 s:D) (th op obj arg tries o c dn g:Int) (r v:D):Prop where
 hcp:L 9000 [obj,enc s]=some [oI r v,obj,enc s,o,c,dn,g,enc r,enc v]
 iU:L 550 [enc s]=some [enc s]
 hR:L 350 [enc d0,enc d1,enc s]=some [1]
 F8:0<=th
 F7:th<(d1.l.length:Int)
 BJ:0<=obj
 BI:obj<(s.l.length:Int)
 hlen:s.l.length=d0.l.length
 hk:L 600 [op]=some [((d0.at obj).hd 0).n]
 hr:(r.l.length:Int)<17592186044415
 hv:(v.l.length:Int)<17592186044415
 hn: ∀x∈r.l,x= .i x.n
 hM:op=12\/op=24->0<=((d0.at obj).hd 2).n/\((d0.at obj).hd 2).n<(s.l.length:Int)/\((d0.at obj).hd 2).n≠obj
theorem TH.hb {d0 d1 s:D} {th op obj arg tries o c dn g:Int} {r v:D} (H:TH d0 d1 s th op obj arg tries o c dn g r v):r.l.length<=140737488351232:=by have:=H.hr; omega
noncomputable abbrev cZ (d0 d1 s:D) (th op obj arg tries:Int):Nat->Int:=bQ L (low [enc d0,enc d1,enc s,th,op,obj,arg,tries])
abbrev aX (k:Nat):SE:=rr 9000 [.aK 5,.aK 2] k
abbrev XQ:SE:=nm (ce 2 (el (.aK 0) (.aK 5)))
abbrev kK:SE:=rr 850 [aX 7,.aK 3] 0
abbrev abE (q:SE):SE:=.op .set (aX 2) (cn (mk XQ) (.op .set (el (aX 2) XQ) (cn (.dat (.i 0)) q)))
abbrev xE:List SE:=[aX 7,.aK 3,.aK 5,XQ,abE (.dat (.i (-1))),.aK 4,.aK 6,.aK 7,aX 3,aX 4,aX 5,aX 6,aX 8]
abbrev thg (o c d g r v:SE):SE:=cn (mk (.aK 5)) (cn o (cn c (cn d (cn g (cn r (cn v (.dat (.i 0))))))))
abbrev wU:T Lf:=ou [rr 550 [.aK 2] 0,.aK 3,.lit 27,.aK 5,wr (.aK 4),.lit 0,.lit 2]
abbrev DT:T Lf:=ou [rr 550 [.aK 2] 0,.lit 0,.lit 0,.lit 0,.lit 0,.lit 0,.lit 0]
abbrev lJ (z o c d g r v a:SE) (oc:Int):T Lf:=ou [.op .set z (thg o c d g r v),.aK 3,.aK 4,.aK 5,a,.lit 0,.lit oc]
theorem Df {r:D} (h:r.l= []) (t:Int):place r t= -1:=by unfold place; rw [h]; rfl
theorem atG {r:D} (h:r.l= []) (t:Int):wo t r.l= []:=by rw [h]; rfl
theorem alt3 {r v:D} (h:0<r.l.length) (h':0<v.l.length):oI r v=3:=by simp [oI,h,h']
theorem aCh {r v:D} (h:0<r.l.length) (h':v.l= []):oI r v=4:=by simp [oI,h,h']
theorem aCg {r v:D} (h:r.l= []) (h':0<v.l.length):oI r v=5:=by simp [oI,h,h']
theorem aCf {r v:D} (h:r.l= []) (h':v.l= []):oI r v=6:=by simp [oI,h,h']
abbrev Gl (d0 s:D) (th op obj arg tries o c dn g:Int) (r v:D):RS:=.out (outA s th op obj (Mx d0 obj) (act (Mx d0 obj) (Mo d0 s obj) th op arg tries o c dn g r v))
theorem cO (s:D) (th op obj M:Int):outA s th op obj M .blk= [enc s,0,0,0,0,0,0]:=rfl
theorem bZ (s:D) (th op obj M:Int):outA s th op obj M .mis= [enc s,th,27,obj,IntKind.i64.wrap op,0,2]:=rfl
theorem bM (s:D) (th op obj M o c dn g:Int) (r v:D) (a oc:Int):outA s th op obj M (.res o c dn g r v none a oc)= [enc (dL (iM s.l obj (dL [.i o,.i c,.i (if dn=0 then 0 else 1),.i g,r,v]))),th,op,obj,a,0,oc]:=rfl
theorem bK (s:D) (th op obj M o c dn g:Int) (r v:D) (q a oc:Int):outA s th op obj M (.res o c dn g r v (some q) a oc)= [enc (dL (iM (iM s.l M (dL (iM (s.at M).l 0 (.i q)))) obj (dL [.i o,.i c,.i (if dn=0 then 0 else 1),.i g,r,v]))),th,op,obj,a,0,oc]:=rfl
section
variable {s:D} {th op obj M:Int}
theorem fB {c:Prop} [Decidable c] {a b:Act}:RS.out (outA s th op obj M (if c then a else b))=if c then RS.out (outA s th op obj M a) else RS.out (outA s th op obj M b):=by split<;>rfl
end
theorem AZ {p:Prop} [Decidable p]:((if p then (0:Int) else 1)=0)=p:=by by_cases h:p<;>simp [h]
theorem kS (l:List D):l= []\/0<l.length:=by cases l<;>simp
theorem z2 {ρ:Nat->Int} {a b c d:List SB} (h:zY ρ a/\zW ρ b) (h':zY ρ c/\zW ρ d):zY ρ (a++c)/\zW ρ (b++d):=⟨adT h.1 h'.1,adW h.2 h'.2⟩
abbrev bt:SE:=.op .bit (mk (aX 5)) (.lit 0)
abbrev kW:SE:=wr (.add kK (.lit 1))
abbrev kL:SE:=.sub (ln (aX 7)) kW
abbrev kD:SE:=.add kK kL
abbrev kC:SE:=.op .cat (.op .cat (.op .take (aX 7) kK) (.op .drop (.op .take (aX 7) (.add kW kL)) kW)) (.op .drop (aX 7) kD)
abbrev kF:SE:=.op .fill kC (cn (mk kD) (.dat (.i 0)))
section
variable {d0 d1 s r v:D} {th op obj arg tries o c dn g:Int}
abbrev YG:List SB:=[.eq (a0 9000 [.aK 5,.aK 2]) (.lit 1),.eq (a0 350 [.aK 0,.aK 1,.aK 2]) (.lit 1),.eq (a0 600 [.aK 4]) (.lit 1),.eq (a0 550 [.aK 2]) (.lit 1),.eq (a0 900 [aX 7,.aK 3]) (.lit 1),.eq (a0 850 [aX 7,.aK 3]) (.lit 1),.lt (.aK 3) (ln (.aK 1)),.lt (.aK 5) (ln (.aK 0)),.lt (.aK 5) (ln (aX 2)),.eq (rr 600 [.aK 4] 0) (nm (ce 0 (el (.aK 0) (.aK 5)))),.lt (ln (aX 7)) (.lit 17592186044415),.lt (ln (aX 8)) (.lit 17592186044415)]
abbrev NG:List SB:=[.lt (.aK 5) (.lit 0),.eq (rr 350 [.aK 0,.aK 1,.aK 2] 0) (.lit 0),.lt (.aK 3) (.lit 0),.lt (ln (aX 7)) (ln (aX 7)),.lt (ln (aX 8)) (.add (.lit 1) (.sub (ln (aX 8)) (.lit 1))),.lt (ln (aX 7)) (.add (.lit 1) (.sub (ln (aX 7)) (.lit 1)))]
theorem fG (H:TH d0 d1 s th op obj arg tries o c dn g r v):zY (cZ d0 d1 s th op obj arg tries) YG/\zW (cZ d0 d1 s th op obj arg tries) NG:=by have hb:=H.hb;have h1:=H.F8; have h2:=H.F7; have h3:=H.BJ; have h4:=H.BI; have h5:=H.hlen; have h6:=H.hr; have h7:=H.hv; have hp:=iI r th;simp only [zz,H.hcp,H.iU,H.hR,H.hk,has_is r th hb,dD r th hb]<;>omega
abbrev YA3:List SB:=[.eq (aX 0) (.lit 3)]
abbrev NA3:List SB:=[.eq (aX 0) (.lit 0),.eq (aX 0) (.lit 1),.eq (aX 0) (.lit 2),.eq (aX 0) (.lit 4),.eq (aX 0) (.lit 5),.eq (aX 0) (.lit 6),.lt (.sub (ln (aX 7)) (.lit 1)) (.lit 0),.lt (.sub (ln (aX 8)) (.lit 1)) (.lit 0)]
theorem fA3 (H:TH d0 d1 s th op obj arg tries o c dn g r v) (hr:0<r.l.length) (hv:0<v.l.length):zY (cZ d0 d1 s th op obj arg tries) YA3/\zW (cZ d0 d1 s th op obj arg tries) NA3:=by have hb:=H.hb;have h1:=H.F8; have h2:=H.F7; have h3:=H.BJ; have h4:=H.BI; have h5:=H.hlen; have h6:=H.hr; have h7:=H.hv; have hp:=iI r th;simp only [zz,H.hcp,H.iU,H.hR,H.hk,has_is r th hb,dD r th hb,alt3 hr hv]<;>omega
abbrev YA4:List SB:=[.eq (aX 0) (.lit 4)]
abbrev NA4:List SB:=[.eq (aX 0) (.lit 0),.eq (aX 0) (.lit 1),.eq (aX 0) (.lit 2),.eq (aX 0) (.lit 3),.eq (aX 0) (.lit 5),.eq (aX 0) (.lit 6),.lt (.sub (ln (aX 7)) (.lit 1)) (.lit 0)]
theorem fA4 (H:TH d0 d1 s th op obj arg tries o c dn g r v) (hr:0<r.l.length) (hv:v.l= []):zY (cZ d0 d1 s th op obj arg tries) YA4/\zW (cZ d0 d1 s th op obj arg tries) NA4:=by have hb:=H.hb;have h1:=H.F8; have h2:=H.F7; have h3:=H.BJ; have h4:=H.BI; have h5:=H.hlen; have h6:=H.hr; have h7:=H.hv; have hp:=iI r th;simp only [zz,H.hcp,H.iU,H.hR,H.hk,has_is r th hb,dD r th hb,aCh hr hv]<;>omega
abbrev YA5:List SB:=[.eq (aX 0) (.lit 5),.lt kK (.lit 0)]
abbrev NA5:List SB:=[.eq (aX 0) (.lit 0),.eq (aX 0) (.lit 1),.eq (aX 0) (.lit 2),.eq (aX 0) (.lit 3),.eq (aX 0) (.lit 4),.eq (aX 0) (.lit 6),.lt (.sub (ln (aX 8)) (.lit 1)) (.lit 0)]
theorem fA5 (H:TH d0 d1 s th op obj arg tries o c dn g r v) (hr:r.l= []) (hv:0<v.l.length):zY (cZ d0 d1 s th op obj arg tries) YA5/\zW (cZ d0 d1 s th op obj arg tries) NA5:=by have hb:=H.hb;have h1:=H.F8; have h2:=H.F7; have h3:=H.BJ; have h4:=H.BI; have h5:=H.hlen; have h6:=H.hr; have h7:=H.hv; have hp:=iI r th;simp only [zz,H.hcp,H.iU,H.hR,H.hk,has_is r th hb,dD r th hb,aCg hr hv,Df hr]<;>omega
abbrev YA6:List SB:=[.eq (aX 0) (.lit 6),.lt kK (.lit 0)]
abbrev NA6:List SB:=[.eq (aX 0) (.lit 0),.eq (aX 0) (.lit 1),.eq (aX 0) (.lit 2),.eq (aX 0) (.lit 3),.eq (aX 0) (.lit 4),.eq (aX 0) (.lit 5)]
theorem fA6 (H:TH d0 d1 s th op obj arg tries o c dn g r v) (hr:r.l= []) (hv:v.l= []):zY (cZ d0 d1 s th op obj arg tries) YA6/\zW (cZ d0 d1 s th op obj arg tries) NA6:=by have hb:=H.hb;have h1:=H.F8; have h2:=H.F7; have h3:=H.BJ; have h4:=H.BI; have h5:=H.hlen; have h6:=H.hr; have h7:=H.hv; have hp:=iI r th;simp only [zz,H.hcp,H.iU,H.hR,H.hk,has_is r th hb,dD r th hb,aCf hr hv,Df hr]<;>omega
abbrev YM:List SB:=[.lt XQ (ln (aX 2))]
abbrev NM:List SB:=[.lt XQ (.lit 0),.eq XQ (.aK 5)]
theorem fM (H:TH d0 d1 s th op obj arg tries o c dn g r v) (ho:op=12\/op=24):zY (cZ d0 d1 s th op obj arg tries) YM/\zW (cZ d0 d1 s th op obj arg tries) NM:=by have hb:=H.hb;have h1:=H.F8; have h2:=H.F7; have h3:=H.BJ; have h4:=H.BI; have h5:=H.hlen; have h6:=H.hr; have h7:=H.hv; have hp:=iI r th; have hm:=H.hM ho;simp only [zz,H.hcp,H.iU,H.hR,H.hk,has_is r th hb,dD r th hb]<;>omega
abbrev YK0:List SB:=[.lt kK (.lit 0)]
abbrev NK0:List SB:=[]
theorem fK0 (H:TH d0 d1 s th op obj arg tries o c dn g r v) (hk:place r th<0):zY (cZ d0 d1 s th op obj arg tries) YK0/\zW (cZ d0 d1 s th op obj arg tries) NK0:=by have hb:=H.hb;have h1:=H.F8; have h2:=H.F7; have h3:=H.BJ; have h4:=H.BI; have h5:=H.hlen; have h6:=H.hr; have h7:=H.hv; have hp:=iI r th;simp only [zz,H.hcp,H.iU,H.hR,H.hk,has_is r th hb,dD r th hb]<;>omega
abbrev YK1:List SB:=[.lt kD (ln (aX 7)),.eq (.add kD (.sub (ln (aX 7)) kD)) (ln kC)]
abbrev NK1:List SB:=[.lt kK (.lit 0),.lt kW kK,.lt (ln (aX 7)) kW,.eq kK kW,.lt (ln (aX 7)) kK,.lt kW (.lit 0),.lt kL (.lit 0),.lt (ln (aX 7)) (.add kW kL),.lt (ln (aX 7)) kD,.lt kD (.lit 0),.lt (ln kC) (ln (aX 7)),.lt (.sub (ln (aX 7)) kD) (.lit 0),.lt (ln kF) kD]
theorem fK1 (H:TH d0 d1 s th op obj arg tries o c dn g r v) (hk: ¬place r th<0):zY (cZ d0 d1 s th op obj arg tries) YK1/\zW (cZ d0 d1 s th op obj arg tries) NK1:=by have hb:=H.hb;have h1:=H.F8; have h2:=H.F7; have h3:=H.BJ; have h4:=H.BI; have h5:=H.hlen; have h6:=H.hr; have h7:=H.hv; have hp:=iI r th; have hw:IntKind.i64.wrap (place r th+1)=place r th+1:=AB (by omega) (by omega);simp only [zz,H.hcp,H.iU,H.hR,H.hk,has_is r th hb,dD r th hb,iL,aY,aC5,aDa,aDg,aDY,hw]<;>omega
abbrev dA (d0 s r v:D) (th op obj arg tries o c dn g:Int):List Int:=[enc r,th,obj,Mx d0 obj,enc (dL (iM s.l (Mx d0 obj) (dL (iM (s.at (Mx d0 obj)).l 0 (.i (-1)))))),op,arg,tries,o,c,dn,g,enc v]
abbrev aCm:List SB:=[.eq (a0 12000 xE) (.lit 1),.eq (rr 12000 xE 0) (.lit 0)]
abbrev aCt:List SB:=[]
theorem aCb (H:TH d0 d1 s th op obj arg tries o c dn g r v) (hd:L 12000 (dA d0 s r v th op obj arg tries o c dn g)=some (0::(dA d0 s r v th op obj arg tries o c dn g))):zY (cZ d0 d1 s th op obj arg tries) aCm/\zW (cZ d0 d1 s th op obj arg tries) aCt:=by have hb:=H.hb;have h1:=H.F8; have h2:=H.F7; have h3:=H.BJ; have h4:=H.BI; have h5:=H.hlen; have h6:=H.hr; have h7:=H.hv; have hp:=iI r th;simp only [zz,H.hcp,H.iU,H.hR,H.hk,has_is r th hb,dD r th hb,hd]<;>omega
abbrev aCn:List SB:=[.eq (a0 12000 xE) (.lit 1),.eq (rr 12000 xE 0) (.lit 1)]
abbrev aCu:List SB:=[.eq (rr 12000 xE 0) (.lit 0),.lt (rr 12000 xE 14) (.lit 0),.lt (ln (rr 12000 xE 15)) (.add (rr 12000 xE 14) (.lit 1)),.lt (.add (rr 12000 xE 14) (.lit 1)) (.lit 0),.lt (ln (.op .cat (.op .cat (.op .take (rr 12000 xE 15) (rr 12000 xE 14)) (.op .snoc (.dat (.i 0)) (mk (.aK 3)))) (.op .drop (rr 12000 xE 15) (.add (rr 12000 xE 14) (.lit 1))))) (.add (rr 12000 xE 14) (.lit 1))]
theorem aCc (H:TH d0 d1 s th op obj arg tries o c dn g r v) {n:Nat} {r1:D} (hn:n<r.l.length) (hl:r1.l.length=r.l.length) (hd:L 12000 (dA d0 s r v th op obj arg tries o c dn g)=some (1::((dA d0 s r v th op obj arg tries o c dn g)++ [(n:Int),enc r1,(r.l.length:Int)]))):zY (cZ d0 d1 s th op obj arg tries) aCn/\zW (cZ d0 d1 s th op obj arg tries) aCu:=by have hb:=H.hb;have h1:=H.F8; have h2:=H.F7; have h3:=H.BJ; have h4:=H.BI; have h5:=H.hlen; have h6:=H.hr; have h7:=H.hv; have hp:=iI r th;simp only [zz,H.hcp,H.iU,H.hR,H.hk,has_is r th hb,dD r th hb,hd,iL,aY,E5,aC8,aC2,aC5,aDa,aDg,aCW,aC3]<;>omega
abbrev aCk:List SB:=[.eq (a0 12100 xE) (.lit 1),.eq (rr 12100 xE 0) (.lit 0)]
abbrev aCr:List SB:=[]
theorem aB9 (H:TH d0 d1 s th op obj arg tries o c dn g r v) (hd:L 12100 (dA d0 s r v th op obj arg tries o c dn g)=some (0::(dA d0 s r v th op obj arg tries o c dn g))):zY (cZ d0 d1 s th op obj arg tries) aCk/\zW (cZ d0 d1 s th op obj arg tries) aCr:=by have hb:=H.hb;have h1:=H.F8; have h2:=H.F7; have h3:=H.BJ; have h4:=H.BI; have h5:=H.hlen; have h6:=H.hr; have h7:=H.hv; have hp:=iI r th;simp only [zz,H.hcp,H.iU,H.hR,H.hk,has_is r th hb,dD r th hb,hd]<;>omega
abbrev aCl:List SB:=[.eq (a0 12100 xE) (.lit 1),.eq (rr 12100 xE 0) (.lit 1)]
abbrev aCs:List SB:=[.eq (rr 12100 xE 0) (.lit 0),.lt (rr 12100 xE 14) (.lit 0),.lt (ln (rr 12100 xE 15)) (.add (rr 12100 xE 14) (.lit 1)),.lt (.add (rr 12100 xE 14) (.lit 1)) (.lit 0),.lt (ln (.op .cat (.op .cat (.op .take (rr 12100 xE 15) (rr 12100 xE 14)) (.op .snoc (.dat (.i 0)) (mk (.aK 3)))) (.op .drop (rr 12100 xE 15) (.add (rr 12100 xE 14) (.lit 1))))) (.add (rr 12100 xE 14) (.lit 1))]
theorem aCa (H:TH d0 d1 s th op obj arg tries o c dn g r v) {n:Nat} {r1:D} (hn:n<r.l.length) (hl:r1.l.length=r.l.length) (hd:L 12100 (dA d0 s r v th op obj arg tries o c dn g)=some (1::((dA d0 s r v th op obj arg tries o c dn g)++ [(n:Int),enc r1,(r.l.length:Int)]))):zY (cZ d0 d1 s th op obj arg tries) aCl/\zW (cZ d0 d1 s th op obj arg tries) aCs:=by have hb:=H.hb;have h1:=H.F8; have h2:=H.F7; have h3:=H.BJ; have h4:=H.BI; have h5:=H.hlen; have h6:=H.hr; have h7:=H.hv; have hp:=iI r th;simp only [zz,H.hcp,H.iU,H.hR,H.hk,has_is r th hb,dD r th hb,hd,iL,aY,E5,aC8,aC2,aC5,aDa,aDg,aCW,aC3]<;>omega
abbrev aCj:List SB:=[.eq (a0 12200 xE) (.lit 1),.eq (rr 12200 xE 0) (.lit 0)]
abbrev aCq:List SB:=[]
theorem aB8 (H:TH d0 d1 s th op obj arg tries o c dn g r v) (hd:L 12200 (dA d0 s r v th op obj arg tries o c dn g)=some (0::(dA d0 s r v th op obj arg tries o c dn g))):zY (cZ d0 d1 s th op obj arg tries) aCj/\zW (cZ d0 d1 s th op obj arg tries) aCq:=by have hb:=H.hb;have h1:=H.F8; have h2:=H.F7; have h3:=H.BJ; have h4:=H.BI; have h5:=H.hlen; have h6:=H.hr; have h7:=H.hv; have hp:=iI r th;simp only [zz,H.hcp,H.iU,H.hR,H.hk,has_is r th hb,dD r th hb,hd]<;>omega
abbrev aCi:List SB:=[.eq (a0 12300 xE) (.lit 1),.eq (rr 12300 xE 0) (.lit 0)]
abbrev aCp:List SB:=[]
theorem aB7 (H:TH d0 d1 s th op obj arg tries o c dn g r v) (hd:L 12300 (dA d0 s r v th op obj arg tries o c dn g)=some (0::(dA d0 s r v th op obj arg tries o c dn g))):zY (cZ d0 d1 s th op obj arg tries) aCi/\zW (cZ d0 d1 s th op obj arg tries) aCp:=by have hb:=H.hb;have h1:=H.F8; have h2:=H.F7; have h3:=H.BJ; have h4:=H.BI; have h5:=H.hlen; have h6:=H.hr; have h7:=H.hv; have hp:=iI r th;simp only [zz,H.hcp,H.iU,H.hR,H.hk,has_is r th hb,dD r th hb,hd]<;>omega
end
theorem NS (l m:List D):gW (dL l) m=gW (.i 2) m:=by
 cases m with
 |cons a m=>rfl
 |nil=>cases l<;>rfl
theorem Za (d:D) (h:0<d.l.length):gW (gW d (d.l.take (1+((d.l.length:Int)-1)).toNat)) ((gW d (d.l.take (1+((d.l.length:Int)-1)).toNat)).l.drop (1:Int).toNat)=gW d (d.l.drop 1):=by rw [EU (fun e=>by rw [e]; rfl),iL,aD0 (by omega)];rfl
theorem axC (l:List D) (k:Nat) (hk:k<l.length) (R B:List D):((l.take k++(l.take l.length).drop (k+1)++B).take (l.length-1)++R).take (l.length-1)=l.take k++l.drop (k+1)\/B.length=0:=by
 grind
section
variable {d0 d1 s r v:D} {th op obj arg tries o c dn g:Int}
abbrev zt0:T Lf:=(sp (.eq (aX 3) (.aK 3)) wU (sp (.eq (rr 900 [aX 7,.aK 3] 0) (.lit 0)) (sp (.lt (aX 3) (.lit 0)) (lJ (aX 2) (mk (.aK 3)) (mk (aX 4)) bt (mk (aX 6)) (aX 7) (aX 8) (.lit 0) 2) DT) wU))
theorem sm0 (H:TH d0 d1 s th 1 obj arg tries o c dn g r v):dX (cZ d0 d1 s th 1 obj arg tries) zt0=Gl d0 s th 1 obj arg tries o c dn g r v:=by
 have hb:=H.hb;simp only [zz,H.hcp,H.iU,H.hR,H.hk,has_is r th hb,dD r th hb,aN,AZ,fB,cO,bZ,bM,bK,dL,act,Int.reduceEq,Gl]<;>(repeat' split)<;>first |rfl|(exfalso; omega)
abbrev zt1:T Lf:=(sp (.eq (aX 3) (.aK 3)) (lJ (aX 2) (.dat (.i (-1))) (mk (aX 4)) bt (mk (aX 6)) (aX 7) (aX 8) (.lit 0) 2) wU)
theorem sm1 (H:TH d0 d1 s th 2 obj arg tries o c dn g r v):dX (cZ d0 d1 s th 2 obj arg tries) zt1=Gl d0 s th 2 obj arg tries o c dn g r v:=by
 have hb:=H.hb;simp only [zz,H.hcp,H.iU,H.hR,H.hk,has_is r th hb,dD r th hb,aN,AZ,fB,cO,bZ,bM,bK,dL,act,Int.reduceEq,Gl]<;>(repeat' split)<;>first |rfl|(exfalso; omega)
theorem sm2 (H:TH d0 d1 s th 8 obj arg tries o c dn g r v):dX (cZ d0 d1 s th 8 obj arg tries) zt1=Gl d0 s th 8 obj arg tries o c dn g r v:=by
 have hb:=H.hb;simp only [zz,H.hcp,H.iU,H.hR,H.hk,has_is r th hb,dD r th hb,aN,AZ,fB,cO,bZ,bM,bK,dL,act,Int.reduceEq,Gl]<;>(repeat' split)<;>first |rfl|(exfalso; omega)
abbrev zt2:T Lf:=(sp (.lt (aX 3) (.lit 0)) (lJ (aX 2) (mk (.aK 3)) (mk (aX 4)) bt (mk (aX 6)) (aX 7) (aX 8) (.lit 1) 2) (lJ (aX 2) (mk (aX 3)) (mk (aX 4)) bt (mk (aX 6)) (aX 7) (aX 8) (.lit 0) 2))
theorem sm3 (H:TH d0 d1 s th 3 obj arg tries o c dn g r v):dX (cZ d0 d1 s th 3 obj arg tries) zt2=Gl d0 s th 3 obj arg tries o c dn g r v:=by
 have hb:=H.hb;simp only [zz,H.hcp,H.iU,H.hR,H.hk,has_is r th hb,dD r th hb,aN,AZ,fB,cO,bZ,bM,bK,dL,act,Int.reduceEq,Gl]<;>(repeat' split)<;>first |rfl|(exfalso; omega)
abbrev zt3:T Lf:=(sp (.lt (aX 3) (.lit 0)) (lJ (aX 2) (mk (.aK 3)) (mk (aX 4)) bt (mk (aX 6)) (aX 7) (aX 8) (.lit 1) 2) (sp (.lt (.aK 7) (.aK 6)) DT (lJ (aX 2) (mk (aX 3)) (mk (aX 4)) bt (mk (aX 6)) (aX 7) (aX 8) (.lit 0) 2)))
theorem sm4 (H:TH d0 d1 s th 4 obj arg tries o c dn g r v):dX (cZ d0 d1 s th 4 obj arg tries) zt3=Gl d0 s th 4 obj arg tries o c dn g r v:=by
 have hb:=H.hb;simp only [zz,H.hcp,H.iU,H.hR,H.hk,has_is r th hb,dD r th hb,aN,AZ,fB,cO,bZ,bM,bK,dL,act,Int.reduceEq,Gl]<;>(repeat' split)<;>first |rfl|(exfalso; omega)
abbrev zt4:T Lf:=(sp (.eq (aX 3) (.aK 3)) wU (sp (.eq (rr 900 [aX 7,.aK 3] 0) (.lit 0)) (sp (.lt (aX 3) (.lit 0)) (lJ (aX 2) (mk (aX 3)) (mk (aX 4)) bt (mk (aX 6)) (.op .snoc (aX 7) (mk (.aK 3))) (aX 8) (.lit 0) 2) DT) wU))
theorem sm5 (H:TH d0 d1 s th 5 obj arg tries o c dn g r v) (hr:0<r.l.length):dX (cZ d0 d1 s th 5 obj arg tries) zt4=Gl d0 s th 5 obj arg tries o c dn g r v:=by
 have hb:=H.hb;simp only [zz,H.hcp,H.iU,H.hR,H.hk,has_is r th hb,dD r th hb,E5,aC2,aN,AZ,fB,cO,bZ,bM,bK,dL,act,Int.reduceEq,Gl]<;>(repeat' split)<;>first |rfl|(exfalso; omega)
abbrev zt5:T Lf:=wU
theorem sm6 (H:TH d0 d1 s th 6 obj arg tries o c dn g r v) (hk:place r th<0):dX (cZ d0 d1 s th 6 obj arg tries) zt5=Gl d0 s th 6 obj arg tries o c dn g r v:=by
 have hb:=H.hb;simp only [zz,H.hcp,H.iU,H.hR,H.hk,has_is r th hb,dD r th hb,hk,aN,AZ,fB,cO,bZ,bM,bK,dL,act,Int.reduceEq,Gl]<;>(repeat' split)<;>first |rfl|(exfalso; omega)
abbrev zt6:T Lf:=(lJ (aX 2) (mk (aX 3)) (mk (aX 4)) bt (mk (aX 6)) (.op .take kF kD) (aX 8) (.lit 0) 2)
theorem sm7 (H:TH d0 d1 s th 6 obj arg tries o c dn g r v) (hr:0<r.l.length) (hk: ¬place r th<0):dX (cZ d0 d1 s th 6 obj arg tries) zt6=Gl d0 s th 6 obj arg tries o c dn g r v:=by
 have hb:=H.hb;rcases sD r th with ⟨hp,_⟩|⟨k,hkl,hp,_⟩
 ·grind
 have hw:IntKind.i64.wrap ((k:Int)+1)=(k:Int)+1:=AB (by omega) (by omega);have e1:((k:Int)+1+((r.l.length:Int)-((k:Int)+1))).toNat=r.l.length:=by omega
 have e2:((k:Int)+((r.l.length:Int)-((k:Int)+1))).toNat=r.l.length-1:=by omega
 have e3:((k:Int)+1).toNat=k+1:=by omega
 have h0: ¬((k:Int)<0):=by omega
 have hd:=fun R=>(axC r.l k hkl R (r.l.drop (r.l.length-1))).resolve_right (by rw [aDg]; omega);simp only [zz,H.hcp,H.iU,H.hR,H.hk,has_is r th hb,dD r th hb,hp,hw,e1,e2,e3,h0,iL,aY,aDj,hd,NS,aN,AZ,fB,cO,bZ,bM,bK,dL,act,Int.reduceEq,Gl]<;>(repeat' split)<;>first |rfl|(exfalso; omega)
abbrev zt7:T Lf:=(sp (.eq (aX 3) (.aK 3)) wU (sp (.eq (rr 900 [aX 7,.aK 3] 0) (.lit 0)) (sp (.eq (ln (aX 7)) (.lit 0)) (sp (.lt (aX 3) (.lit 0)) (lJ (aX 2) (mk (.aK 3)) (mk (aX 4)) bt (mk (aX 6)) (aX 7) (aX 8) (.lit 0) 2) DT) DT) wU))
theorem sm8 (H:TH d0 d1 s th 7 obj arg tries o c dn g r v) (hr:0<r.l.length):dX (cZ d0 d1 s th 7 obj arg tries) zt7=Gl d0 s th 7 obj arg tries o c dn g r v:=by
 have hb:=H.hb;simp only [zz,H.hcp,H.iU,H.hR,H.hk,has_is r th hb,dD r th hb,aN,AZ,fB,cO,bZ,bM,bK,dL,act,Int.reduceEq,Gl]<;>(repeat' split)<;>first |rfl|(exfalso; omega)
abbrev zt8:T Lf:=(sp (.lt (.lit 0) (aX 4)) (lJ (aX 2) (mk (aX 3)) (mk (wr (.sub (aX 4) (.lit 1)))) bt (mk (aX 6)) (aX 7) (aX 8) (.lit 0) 2) DT)
theorem sm9 (H:TH d0 d1 s th 9 obj arg tries o c dn g r v):dX (cZ d0 d1 s th 9 obj arg tries) zt8=Gl d0 s th 9 obj arg tries o c dn g r v:=by
 have hb:=H.hb;simp only [zz,H.hcp,H.iU,H.hR,H.hk,has_is r th hb,dD r th hb,aN,AZ,fB,cO,bZ,bM,bK,dL,act,Int.reduceEq,Gl]<;>(repeat' split)<;>first |rfl|(exfalso; omega)
abbrev zt9:T Lf:=(sp (.lt (.lit 0) (aX 4)) (lJ (aX 2) (mk (aX 3)) (mk (wr (.sub (aX 4) (.lit 1)))) bt (mk (aX 6)) (aX 7) (aX 8) (.lit 1) 2) (lJ (aX 2) (mk (aX 3)) (mk (aX 4)) bt (mk (aX 6)) (aX 7) (aX 8) (.lit 0) 2))
theorem aBD (H:TH d0 d1 s th 11 obj arg tries o c dn g r v):dX (cZ d0 d1 s th 11 obj arg tries) zt9=Gl d0 s th 11 obj arg tries o c dn g r v:=by
 have hb:=H.hb;simp only [zz,H.hcp,H.iU,H.hR,H.hk,has_is r th hb,dD r th hb,aN,AZ,fB,cO,bZ,bM,bK,dL,act,Int.reduceEq,Gl]<;>(repeat' split)<;>first |rfl|(exfalso; omega)
abbrev axS:T Lf:=(sp (.lt (aX 4) XQ) (lJ (aX 2) (mk (aX 3)) (mk (wr (.add (aX 4) (.lit 1)))) bt (mk (aX 6)) (aX 7) (aX 8) (.lit 0) 2) wU)
theorem aBC (H:TH d0 d1 s th 10 obj arg tries o c dn g r v):dX (cZ d0 d1 s th 10 obj arg tries) axS=Gl d0 s th 10 obj arg tries o c dn g r v:=by
 have hb:=H.hb;simp only [zz,H.hcp,H.iU,H.hR,H.hk,has_is r th hb,dD r th hb,aN,AZ,fB,cO,bZ,bM,bK,dL,act,Int.reduceEq,Gl]<;>(repeat' split)<;>first |rfl|(exfalso; omega)
abbrev axR:T Lf:=(sp (.lt (.aK 6) (wr (.sub (.lit 0) (aX 4)))) wU (sp (.lt (wr (.sub (.lit 1099511627776) (aX 4))) (.aK 6)) wU (lJ (aX 2) (mk (aX 3)) (mk (wr (.add (aX 4) (.aK 6)))) bt (mk (aX 6)) (aX 7) (aX 8) (wr (.add (aX 4) (.aK 6))) 2)))
theorem aBB (H:TH d0 d1 s th 17 obj arg tries o c dn g r v):dX (cZ d0 d1 s th 17 obj arg tries) axR=Gl d0 s th 17 obj arg tries o c dn g r v:=by
 have hb:=H.hb;simp only [zz,H.hcp,H.iU,H.hR,H.hk,has_is r th hb,dD r th hb,aN,AZ,fB,cO,bZ,bM,bK,dL,act,Int.reduceEq,Gl]<;>(repeat' split)<;>first |rfl|(exfalso; omega)
abbrev axQ:T Lf:=(sp (.lt (.lit 0) (aX 4)) (lJ (aX 2) (mk (aX 3)) (mk (wr (.sub (aX 4) (.lit 1)))) bt (mk (aX 6)) (aX 7) (aX 8) (wr (.sub (aX 4) (.lit 1))) 2) wU)
theorem aBA (H:TH d0 d1 s th 18 obj arg tries o c dn g r v):dX (cZ d0 d1 s th 18 obj arg tries) axQ=Gl d0 s th 18 obj arg tries o c dn g r v:=by
 have hb:=H.hb;simp only [zz,H.hcp,H.iU,H.hR,H.hk,has_is r th hb,dD r th hb,aN,AZ,fB,cO,bZ,bM,bK,dL,act,Int.reduceEq,Gl]<;>(repeat' split)<;>first |rfl|(exfalso; omega)
abbrev axP:T Lf:=(sp (.eq (aX 4) (.lit 0)) (lJ (aX 2) (mk (aX 3)) (mk (aX 4)) bt (mk (aX 6)) (aX 7) (aX 8) (.lit 0) 2) DT)
theorem aBz (H:TH d0 d1 s th 19 obj arg tries o c dn g r v):dX (cZ d0 d1 s th 19 obj arg tries) axP=Gl d0 s th 19 obj arg tries o c dn g r v:=by
 have hb:=H.hb;simp only [zz,H.hcp,H.iU,H.hR,H.hk,has_is r th hb,dD r th hb,aN,AZ,fB,cO,bZ,bM,bK,dL,act,Int.reduceEq,Gl]<;>(repeat' split)<;>first |rfl|(exfalso; omega)
abbrev axO:T Lf:=(lJ (aX 2) (mk (aX 3)) (mk (aX 4)) bt (mk (aX 6)) (aX 7) (aX 8) (aX 4) 2)
theorem aBy (H:TH d0 d1 s th 22 obj arg tries o c dn g r v):dX (cZ d0 d1 s th 22 obj arg tries) axO=Gl d0 s th 22 obj arg tries o c dn g r v:=by
 have hb:=H.hb;simp only [zz,H.hcp,H.iU,H.hR,H.hk,has_is r th hb,dD r th hb,aN,AZ,fB,cO,bZ,bM,bK,dL,act,Int.reduceEq,Gl]<;>(repeat' split)<;>first |rfl|(exfalso; omega)
abbrev axN:T Lf:=(lJ (aX 2) (mk (aX 3)) (mk (.aK 6)) bt (mk (aX 6)) (aX 7) (aX 8) (.aK 6) 2)
theorem aBx (H:TH d0 d1 s th 23 obj arg tries o c dn g r v):dX (cZ d0 d1 s th 23 obj arg tries) axN=Gl d0 s th 23 obj arg tries o c dn g r v:=by
 have hb:=H.hb;simp only [zz,H.hcp,H.iU,H.hR,H.hk,has_is r th hb,dD r th hb,aN,AZ,fB,cO,bZ,bM,bK,dL,act,Int.reduceEq,Gl]<;>(repeat' split)<;>first |rfl|(exfalso; omega)
abbrev atF:T Lf:=(sp (.lt (ln (aX 8)) XQ) (lJ (aX 2) (mk (aX 3)) (mk (aX 4)) bt (mk (aX 6)) (aX 7) (.op .snoc (aX 8) (mk (.aK 6))) (.aK 6) 2) DT)
theorem azA (H:TH d0 d1 s th 20 obj arg tries o c dn g r v) (hv:0<v.l.length):dX (cZ d0 d1 s th 20 obj arg tries) atF=Gl d0 s th 20 obj arg tries o c dn g r v:=by
 have hb:=H.hb;simp only [zz,H.hcp,H.iU,H.hR,H.hk,has_is r th hb,dD r th hb,E5,aC2,aN,AZ,fB,cO,bZ,bM,bK,dL,act,Int.reduceEq,Gl]<;>(repeat' split)<;>first |rfl|(exfalso; omega)
abbrev atE:T Lf:=(sp (.eq (ln (aX 8)) (.lit 0)) DT (lJ (aX 2) (mk (aX 3)) (mk (aX 4)) bt (mk (aX 6)) (aX 7) (.op .drop (.op .take (aX 8) (.add (.lit 1) (.sub (ln (aX 8)) (.lit 1)))) (.lit 1)) (nm (el (aX 8) (.lit 0))) 2))
theorem ayZ (H:TH d0 d1 s th 21 obj arg tries o c dn g r v) (hv:0<v.l.length):dX (cZ d0 d1 s th 21 obj arg tries) atE=Gl d0 s th 21 obj arg tries o c dn g r v:=by
 have hb:=H.hb;simp only [zz,H.hcp,H.iU,H.hR,H.hk,has_is r th hb,dD r th hb,Za v hv,aN,AZ,fB,cO,bZ,bM,bK,dL,act,Int.reduceEq,Gl]<;>(repeat' split)<;>first |rfl|(exfalso; omega)
abbrev atD:T Lf:=(sp (.eq (nm (ce 0 (el (aX 2) XQ))) (.aK 3)) (lJ (abE (.dat (.i (-1)))) (mk (aX 3)) (mk (aX 4)) bt (mk (aX 6)) (.op .snoc (aX 7) (mk (.aK 3))) (aX 8) (.lit 0) 3) wU)
theorem ayY (H:TH d0 d1 s th 12 obj arg tries o c dn g r v) (hr:0<r.l.length) (hw:wo th r.l=r.l):dX (cZ d0 d1 s th 12 obj arg tries) atD=Gl d0 s th 12 obj arg tries o c dn g r v:=by
 have hb:=H.hb;simp only [zz,H.hcp,H.iU,H.hR,H.hk,has_is r th hb,dD r th hb,hw,aY,E5,aC2,aN,AZ,fB,cO,bZ,bM,bK,dL,act,Int.reduceEq,Gl]<;>(repeat' split)<;>first |rfl|(exfalso; omega)
abbrev axM:T Lf:=(sp (.eq (nm (ce 0 (el (aX 2) XQ))) (.aK 3)) (lJ (abE (.dat (.i (-1)))) (mk (aX 3)) (mk (aX 4)) bt (mk (aX 6)) (.op .take (.op .cat (.op .cat (.op .take (rr 12000 xE 15) (rr 12000 xE 14)) (.op .snoc (.dat (.i 0)) (mk (.aK 3)))) (.op .drop (rr 12000 xE 15) (.add (rr 12000 xE 14) (.lit 1)))) (.add (rr 12000 xE 14) (.lit 1))) (aX 8) (.lit 0) 3) wU)
theorem aBw (H:TH d0 d1 s th 12 obj arg tries o c dn g r v) (hr:0<r.l.length) (hv:0<v.l.length) {n:Nat} {r1:D} (hn:n<r.l.length) (hl:r1.l.length=r.l.length) (hw:r1.l.take n=wo th r.l) (hd:L 12000 (dA d0 s r v th 12 obj arg tries o c dn g)=some (1::((dA d0 s r v th 12 obj arg tries o c dn g)++ [(n:Int),enc r1,(r.l.length:Int)]))):dX (cZ d0 d1 s th 12 obj arg tries) axM=Gl d0 s th 12 obj arg tries o c dn g r v:=by
 have hb:=H.hb;have e3:((n:Int)+1).toNat=n+1:=by omega
 have hA: ∀B,(wo th r.l++ [D.i th]++B).take (n+1)=wo th r.l++ [.i th]:=fun B=>by
  grind
 have hB:wo th r.l++ [D.i th]≠[]:=by simp
 simp only [zz,H.hcp,H.iU,H.hR,H.hk,has_is r th hb,dD r th hb,hd,aC8,e3,l_p,iL,aY,E5,aC2,aDj,hw,hA,NS,Cb hB,aN,AZ,fB,cO,bZ,bM,bK,dL,act,Int.reduceEq,Gl]<;>(repeat' split)<;>first |rfl|(exfalso; omega)
abbrev atC:T Lf:=(sp (.eq (ln (aX 7)) (.lit 0)) (lJ (aX 2) (mk (aX 3)) (mk (aX 4)) bt (mk (aX 6)) (aX 7) (aX 8) (.lit 0) 2) (lJ (aX 2) (mk (aX 3)) (mk (aX 4)) bt (mk (aX 6)) (.op .drop (.op .take (aX 7) (.add (.lit 1) (.sub (ln (aX 7)) (.lit 1)))) (.lit 1)) (aX 8) (wr (.add (nm (el (aX 7) (.lit 0))) (.lit 1))) 2))
theorem ayX (H:TH d0 d1 s th 13 obj arg tries o c dn g r v) (hr:0<r.l.length):dX (cZ d0 d1 s th 13 obj arg tries) atC=Gl d0 s th 13 obj arg tries o c dn g r v:=by
 have hb:=H.hb;simp only [zz,H.hcp,H.iU,H.hR,H.hk,has_is r th hb,dD r th hb,Za r hr,E5,aC2,aN,AZ,fB,cO,bZ,bM,bK,dL,act,Int.reduceEq,Gl]<;>(repeat' split)<;>first |rfl|(exfalso; omega)
abbrev atB:T Lf:=(lJ (aX 2) (mk (aX 3)) (mk (aX 4)) bt (mk (aX 6)) (.dat (.i 1)) (aX 8) (ln (aX 7)) 2)
theorem ayW (H:TH d0 d1 s th 14 obj arg tries o c dn g r v) (hr:0<r.l.length):dX (cZ d0 d1 s th 14 obj arg tries) atB=Gl d0 s th 14 obj arg tries o c dn g r v:=by
 have hb:=H.hb;simp only [zz,H.hcp,H.iU,H.hR,H.hk,has_is r th hb,dD r th hb,E5,aC2,aN,AZ,fB,cO,bZ,bM,bK,dL,act,Int.reduceEq,Gl]<;>(repeat' split)<;>first |rfl|(exfalso; omega)
abbrev adR:T Lf:=(sp (.eq (rr 900 [aX 7,.aK 3] 0) (.lit 0)) (sp (.lt (nm (ce 0 (el (aX 2) XQ))) (.lit 0)) (lJ (abE (mk (.aK 3))) (mk (aX 3)) (mk (aX 4)) bt (mk (aX 6)) (aX 7) (aX 8) (.lit 0) 2) DT) DT)
theorem amH (H:TH d0 d1 s th 24 obj arg tries o c dn g r v):dX (cZ d0 d1 s th 24 obj arg tries) adR=Gl d0 s th 24 obj arg tries o c dn g r v:=by
 have hb:=H.hb;simp only [zz,H.hcp,H.iU,H.hR,H.hk,has_is r th hb,dD r th hb,aY,E5,aC2,aN,AZ,fB,cO,bZ,bM,bK,dL,act,Int.reduceEq,Gl]<;>(repeat' split)<;>first |rfl|(exfalso; omega)
abbrev axL:T Lf:=(sp (.lt (aX 6) (.lit 4611686018427387904)) (sp (.eq (wr (.add (aX 4) (.lit 1))) XQ) (lJ (aX 2) (mk (aX 3)) (.dat (.i 0)) bt (mk (wr (.add (aX 6) (.lit 1)))) (aX 7) (aX 8) (aX 6) 3) (lJ (aX 2) (mk (aX 3)) (mk (wr (.add (aX 4) (.lit 1)))) bt (mk (aX 6)) (aX 7) (aX 8) (aX 6) 3)) wU)
theorem aBv (H:TH d0 d1 s th 15 obj arg tries o c dn g r v):dX (cZ d0 d1 s th 15 obj arg tries) axL=Gl d0 s th 15 obj arg tries o c dn g r v:=by
 have hb:=H.hb;simp only [zz,H.hcp,H.iU,H.hR,H.hk,has_is r th hb,dD r th hb,aN,AZ,fB,cO,bZ,bM,bK,dL,act,Int.reduceEq,Gl]<;>(repeat' split)<;>first |rfl|(exfalso; omega)
abbrev axK:T Lf:=(sp (.lt (.aK 6) (aX 6)) (lJ (aX 2) (mk (aX 3)) (mk (aX 4)) bt (mk (aX 6)) (aX 7) (aX 8) (.aK 6) 2) DT)
theorem aBu (H:TH d0 d1 s th 25 obj arg tries o c dn g r v):dX (cZ d0 d1 s th 25 obj arg tries) axK=Gl d0 s th 25 obj arg tries o c dn g r v:=by
 have hb:=H.hb;simp only [zz,H.hcp,H.iU,H.hR,H.hk,has_is r th hb,dD r th hb,aN,AZ,fB,cO,bZ,bM,bK,dL,act,Int.reduceEq,Gl]<;>(repeat' split)<;>first |rfl|(exfalso; omega)
abbrev axJ:T Lf:=(sp (.eq (aX 5) (.lit 0)) (sp (.eq (aX 3) (.aK 3)) wU (sp (.lt (aX 3) (.lit 0)) (lJ (aX 2) (mk (.aK 3)) (mk (aX 4)) bt (mk (aX 6)) (aX 7) (aX 8) (.lit 1) 2) DT)) (lJ (aX 2) (mk (aX 3)) (mk (aX 4)) bt (mk (aX 6)) (aX 7) (aX 8) (.lit 0) 2))
theorem aBt (H:TH d0 d1 s th 16 obj arg tries o c dn g r v):dX (cZ d0 d1 s th 16 obj arg tries) axJ=Gl d0 s th 16 obj arg tries o c dn g r v:=by
 have hb:=H.hb;simp only [zz,H.hcp,H.iU,H.hR,H.hk,has_is r th hb,dD r th hb,aN,AZ,fB,cO,bZ,bM,bK,dL,act,Int.reduceEq,Gl]<;>(repeat' split)<;>first |rfl|(exfalso; omega)
abbrev axI:T Lf:=(sp (.eq (aX 3) (.aK 3)) (lJ (aX 2) (.dat (.i (-1))) (mk (aX 4)) (.dat (.i 1)) (mk (aX 6)) (aX 7) (aX 8) (.lit 0) 2) wU)
theorem aBs (H:TH d0 d1 s th 26 obj arg tries o c dn g r v):dX (cZ d0 d1 s th 26 obj arg tries) axI=Gl d0 s th 26 obj arg tries o c dn g r v:=by
 have hb:=H.hb;simp only [zz,H.hcp,H.iU,H.hR,H.hk,has_is r th hb,dD r th hb,aN,AZ,fB,cO,bZ,bM,bK,dL,act,Int.reduceEq,Gl]<;>(repeat' split)<;>first |rfl|(exfalso; omega)
abbrev atA:T Lf:=(sp (.lt (.lit 0) XQ) (lJ (aX 2) (mk (aX 3)) (mk (aX 4)) bt (mk (aX 6)) (aX 7) (.op .snoc (.dat (.i 0)) (mk (.aK 6))) (.aK 6) 2) DT)
theorem ayV (H:TH d0 d1 s th 20 obj arg tries o c dn g r v) (hv:v.l= []):dX (cZ d0 d1 s th 20 obj arg tries) atA=Gl d0 s th 20 obj arg tries o c dn g r v:=by
 have hb:=H.hb;have hz2:((0:Nat):Int)=0:=rfl;simp only [zz,H.hcp,H.iU,H.hR,H.hk,has_is r th hb,dD r th hb,hv,aC3,aC2,hz2,E5,aN,AZ,fB,cO,bZ,bM,bK,dL,act,Int.reduceEq,Gl]<;>(repeat' split)<;>first |rfl|(exfalso; omega)
abbrev asZ:T Lf:=DT
theorem ayU (H:TH d0 d1 s th 21 obj arg tries o c dn g r v) (hv:v.l= []):dX (cZ d0 d1 s th 21 obj arg tries) asZ=Gl d0 s th 21 obj arg tries o c dn g r v:=by
 have hb:=H.hb;have hz2:((0:Nat):Int)=0:=rfl;simp only [zz,H.hcp,H.iU,H.hR,H.hk,has_is r th hb,dD r th hb,hv,aC3,aC2,hz2,aN,AZ,fB,cO,bZ,bM,bK,dL,act,Int.reduceEq,Gl]<;>(repeat' split)<;>first |rfl|(exfalso; omega)
abbrev axH:T Lf:=(sp (.eq (nm (ce 0 (el (aX 2) XQ))) (.aK 3)) (lJ (abE (.dat (.i (-1)))) (mk (aX 3)) (mk (aX 4)) bt (mk (aX 6)) (.op .take (.op .cat (.op .cat (.op .take (rr 12100 xE 15) (rr 12100 xE 14)) (.op .snoc (.dat (.i 0)) (mk (.aK 3)))) (.op .drop (rr 12100 xE 15) (.add (rr 12100 xE 14) (.lit 1)))) (.add (rr 12100 xE 14) (.lit 1))) (aX 8) (.lit 0) 3) wU)
theorem aBr (H:TH d0 d1 s th 12 obj arg tries o c dn g r v) (hr:0<r.l.length) (hv:v.l= []) {n:Nat} {r1:D} (hn:n<r.l.length) (hl:r1.l.length=r.l.length) (hw:r1.l.take n=wo th r.l) (hd:L 12100 (dA d0 s r v th 12 obj arg tries o c dn g)=some (1::((dA d0 s r v th 12 obj arg tries o c dn g)++ [(n:Int),enc r1,(r.l.length:Int)]))):dX (cZ d0 d1 s th 12 obj arg tries) axH=Gl d0 s th 12 obj arg tries o c dn g r v:=by
 have hb:=H.hb;have hz2:((0:Nat):Int)=0:=rfl;have e3:((n:Int)+1).toNat=n+1:=by omega
 have hA: ∀B,(wo th r.l++ [D.i th]++B).take (n+1)=wo th r.l++ [.i th]:=fun B=>by
  grind
 have hB:wo th r.l++ [D.i th]≠[]:=by simp
 simp only [zz,H.hcp,H.iU,H.hR,H.hk,has_is r th hb,dD r th hb,hv,aC3,aC2,hz2,hd,aC8,e3,l_p,iL,aY,E5,aDj,hw,hA,NS,Cb hB,aN,AZ,fB,cO,bZ,bM,bK,dL,act,Int.reduceEq,Gl]<;>(repeat' split)<;>first |rfl|(exfalso; omega)
abbrev asY:T Lf:=(sp (.eq (aX 3) (.aK 3)) wU (sp (.eq (rr 900 [aX 7,.aK 3] 0) (.lit 0)) (sp (.lt (aX 3) (.lit 0)) (lJ (aX 2) (mk (aX 3)) (mk (aX 4)) bt (mk (aX 6)) (.op .snoc (.dat (.i 0)) (mk (.aK 3))) (aX 8) (.lit 0) 2) DT) wU))
theorem ayT (H:TH d0 d1 s th 5 obj arg tries o c dn g r v) (hr:r.l= []):dX (cZ d0 d1 s th 5 obj arg tries) asY=Gl d0 s th 5 obj arg tries o c dn g r v:=by
 have hb:=H.hb;have hz:((0:Nat):Int)=0:=rfl;simp only [zz,H.hcp,H.iU,H.hR,H.hk,has_is r th hb,dD r th hb,hr,aC3,aC2,hz,E5,aN,AZ,fB,cO,bZ,bM,bK,dL,act,Int.reduceEq,Gl]<;>(repeat' split)<;>first |rfl|(exfalso; omega)
theorem ayS (H:TH d0 d1 s th 7 obj arg tries o c dn g r v) (hr:r.l= []):dX (cZ d0 d1 s th 7 obj arg tries) zt0=Gl d0 s th 7 obj arg tries o c dn g r v:=by
 have hb:=H.hb;have hz:((0:Nat):Int)=0:=rfl;simp only [zz,H.hcp,H.iU,H.hR,H.hk,has_is r th hb,dD r th hb,hr,aC3,aC2,hz,aN,AZ,fB,cO,bZ,bM,bK,dL,act,Int.reduceEq,Gl]<;>(repeat' split)<;>first |rfl|(exfalso; omega)
abbrev asX:T Lf:=(sp (.eq (nm (ce 0 (el (aX 2) XQ))) (.aK 3)) (lJ (abE (.dat (.i (-1)))) (mk (aX 3)) (mk (aX 4)) bt (mk (aX 6)) (.op .snoc (.dat (.i 0)) (mk (.aK 3))) (aX 8) (.lit 0) 3) wU)
theorem ayR (H:TH d0 d1 s th 12 obj arg tries o c dn g r v) (hr:r.l= []):dX (cZ d0 d1 s th 12 obj arg tries) asX=Gl d0 s th 12 obj arg tries o c dn g r v:=by
 have hb:=H.hb;have hz:((0:Nat):Int)=0:=rfl;simp only [zz,H.hcp,H.iU,H.hR,H.hk,has_is r th hb,dD r th hb,hr,aC3,aC2,hz,atG hr,aY,E5,aN,AZ,fB,cO,bZ,bM,bK,dL,act,Int.reduceEq,Gl]<;>(repeat' split)<;>first |rfl|(exfalso; omega)
abbrev asW:T Lf:=(lJ (aX 2) (mk (aX 3)) (mk (aX 4)) bt (mk (aX 6)) (aX 7) (aX 8) (.lit 0) 2)
theorem ayQ (H:TH d0 d1 s th 13 obj arg tries o c dn g r v) (hr:r.l= []):dX (cZ d0 d1 s th 13 obj arg tries) asW=Gl d0 s th 13 obj arg tries o c dn g r v:=by
 have hb:=H.hb;have hz:((0:Nat):Int)=0:=rfl;simp only [zz,H.hcp,H.iU,H.hR,H.hk,has_is r th hb,dD r th hb,hr,aC3,aC2,hz,E5,aN,AZ,fB,cO,bZ,bM,bK,dL,act,Int.reduceEq,Gl]<;>(repeat' split)<;>first |rfl|(exfalso; omega)
abbrev asV:T Lf:=(lJ (aX 2) (mk (aX 3)) (mk (aX 4)) bt (mk (aX 6)) (.dat (.i 1)) (aX 8) (.lit 0) 2)
theorem ayP (H:TH d0 d1 s th 14 obj arg tries o c dn g r v) (hr:r.l= []):dX (cZ d0 d1 s th 14 obj arg tries) asV=Gl d0 s th 14 obj arg tries o c dn g r v:=by
 have hb:=H.hb;have hz:((0:Nat):Int)=0:=rfl;simp only [zz,H.hcp,H.iU,H.hR,H.hk,has_is r th hb,dD r th hb,hr,aC3,aC2,hz,E5,aN,AZ,fB,cO,bZ,bM,bK,dL,act,Int.reduceEq,Gl]<;>(repeat' split)<;>first |rfl|(exfalso; omega)
end
def ops:List Int:=[1,2,8,3,4,5,6,7,9,11,10,17,18,19,22,23,20,21,12,13,14,24,15,25,16,26]
abbrev Yo (k:Int):List SB:=[.eq (.aK 4) (.lit k)]
abbrev No (k:Int):List SB:=(ops.filter fun j=>!(j == k)).map fun j=> .eq (.aK 4) (.lit j)
abbrev p3:T Lf:=prune (YG++YA3) (NG++NA3) kH
abbrev p4:T Lf:=prune (YG++YA4) (NG++NA4) kH
abbrev p5:T Lf:=prune (YG++YA5) (NG++NA5) kH
abbrev p6:T Lf:=prune (YG++YA6) (NG++NA6) kH
section
variable {d0 d1 s r v:D} {th op obj arg tries o c dn g:Int}
theorem adU {ρ:Nat->Int}: ∀{l:List SB},(∀c∈l,¬c.den ρ=true)->zW ρ l
 |[],_=>trivial
 |c::l,h=> ⟨h c (by simp),adU fun x hx=>h x (aEZ _ hx)⟩
theorem fO (k:Int):zY (cZ d0 d1 s th k obj arg tries) (Yo k)/\zW (cZ d0 d1 s th k obj arg tries) (No k):=by
 refine⟨by simp only [zz],adU fun c hc=>?_⟩;obtain⟨j,hj,rfl⟩:=aC4.1 hc;have:=(aDF.1 hj).2;simp only [zz];intro h
 grind
theorem sp3 (H:TH d0 d1 s th op obj arg tries o c dn g r v) (hr:0<r.l.length) (hv:0<v.l.length):dX (cZ d0 d1 s th op obj arg tries) p3=dX (cZ d0 d1 s th op obj arg tries) kH:=dB (z2 (fG H) (fA3 H hr hv)) kH
theorem sp4 (H:TH d0 d1 s th op obj arg tries o c dn g r v) (hr:0<r.l.length) (hv:v.l= []):dX (cZ d0 d1 s th op obj arg tries) p4=dX (cZ d0 d1 s th op obj arg tries) kH:=dB (z2 (fG H) (fA4 H hr hv)) kH
theorem sp5 (H:TH d0 d1 s th op obj arg tries o c dn g r v) (hr:r.l= []) (hv:0<v.l.length):dX (cZ d0 d1 s th op obj arg tries) p5=dX (cZ d0 d1 s th op obj arg tries) kH:=dB (z2 (fG H) (fA5 H hr hv)) kH
theorem sp6 (H:TH d0 d1 s th op obj arg tries o c dn g r v) (hr:r.l= []) (hv:v.l= []):dX (cZ d0 d1 s th op obj arg tries) p6=dX (cZ d0 d1 s th op obj arg tries) kH:=dB (z2 (fG H) (fA6 H hr hv)) kH
theorem jX {k:Int} {t u:T Lf} {Q:RS} (e:prune (Yo k) (No k) t=u) (h:dX (cZ d0 d1 s th k obj arg tries) u=Q):dX (cZ d0 d1 s th k obj arg tries) t=Q:=by rw [<- dB (fO k) t,e,h]
theorem jY (H:TH d0 d1 s th op obj arg tries o c dn g r v) {u:T Lf} {Q:RS} (e3:prune (Yo op) (No op) p3=u) (e4:prune (Yo op) (No op) p4=u) (e5:prune (Yo op) (No op) p5=u) (e6:prune (Yo op) (No op) p6=u) (h:dX (cZ d0 d1 s th op obj arg tries) u=Q):dX (cZ d0 d1 s th op obj arg tries) kH=Q:=by
 rcases kS r.l with hr|hr<;>rcases kS v.l with hv|hv
 ·exact (sp6 H hr hv).symm.trans (jX e6 h)
 ·exact (sp5 H hr hv).symm.trans (jX e5 h)
 ·exact (sp4 H hr hv).symm.trans (jX e4 h)
 ·exact (sp3 H hr hv).symm.trans (jX e3 h)
theorem o1 (H:TH d0 d1 s th 1 obj arg tries o c dn g r v):dX (cZ d0 d1 s th 1 obj arg tries) kH=Gl d0 s th 1 obj arg tries o c dn g r v:=jY H (u:=zt0) (by kernel_rfl) (by kernel_rfl) (by kernel_rfl) (by kernel_rfl) (sm0 H)
theorem o2 (H:TH d0 d1 s th 2 obj arg tries o c dn g r v):dX (cZ d0 d1 s th 2 obj arg tries) kH=Gl d0 s th 2 obj arg tries o c dn g r v:=jY H (u:=zt1) (by kernel_rfl) (by kernel_rfl) (by kernel_rfl) (by kernel_rfl) (sm1 H)
theorem o8 (H:TH d0 d1 s th 8 obj arg tries o c dn g r v):dX (cZ d0 d1 s th 8 obj arg tries) kH=Gl d0 s th 8 obj arg tries o c dn g r v:=jY H (u:=zt1) (by kernel_rfl) (by kernel_rfl) (by kernel_rfl) (by kernel_rfl) (sm2 H)
theorem o3 (H:TH d0 d1 s th 3 obj arg tries o c dn g r v):dX (cZ d0 d1 s th 3 obj arg tries) kH=Gl d0 s th 3 obj arg tries o c dn g r v:=jY H (u:=zt2) (by kernel_rfl) (by kernel_rfl) (by kernel_rfl) (by kernel_rfl) (sm3 H)
theorem o4 (H:TH d0 d1 s th 4 obj arg tries o c dn g r v):dX (cZ d0 d1 s th 4 obj arg tries) kH=Gl d0 s th 4 obj arg tries o c dn g r v:=jY H (u:=zt3) (by kernel_rfl) (by kernel_rfl) (by kernel_rfl) (by kernel_rfl) (sm4 H)
theorem o5 (H:TH d0 d1 s th 5 obj arg tries o c dn g r v):dX (cZ d0 d1 s th 5 obj arg tries) kH=Gl d0 s th 5 obj arg tries o c dn g r v:=by
 rcases kS r.l with hr|hr<;>rcases kS v.l with hv|hv
 ·exact (sp6 H hr hv).symm.trans (jX (u:=asY) (by kernel_rfl) (ayT H hr))
 ·exact (sp5 H hr hv).symm.trans (jX (u:=asY) (by kernel_rfl) (ayT H hr))
 ·exact (sp4 H hr hv).symm.trans (jX (u:=zt4) (by kernel_rfl) (sm5 H hr))
 ·exact (sp3 H hr hv).symm.trans (jX (u:=zt4) (by kernel_rfl) (sm5 H hr))
theorem o6 (H:TH d0 d1 s th 6 obj arg tries o c dn g r v):dX (cZ d0 d1 s th 6 obj arg tries) kH=Gl d0 s th 6 obj arg tries o c dn g r v:=by
 rcases kS r.l with hr|hr<;>rcases kS v.l with hv|hv
 ·exact (sp6 H hr hv).symm.trans (jX (u:=zt5) (by kernel_rfl) (sm6 H (by rw [Df hr]; omega)))
 ·exact (sp5 H hr hv).symm.trans (jX (u:=zt5) (by kernel_rfl) (sm6 H (by rw [Df hr]; omega)))
 ·by_cases hk:place r th<0
  ·exact (sp4 H hr hv).symm.trans ((dB (fK0 H hk) _).symm.trans (jX (u:=zt5) (by kernel_rfl) (sm6 H hk)))
  ·exact (sp4 H hr hv).symm.trans ((dB (fK1 H hk) _).symm.trans (jX (u:=zt6) (by kernel_rfl) (sm7 H hr hk)))
 ·by_cases hk:place r th<0
  ·exact (sp3 H hr hv).symm.trans ((dB (fK0 H hk) _).symm.trans (jX (u:=zt5) (by kernel_rfl) (sm6 H hk)))
  ·exact (sp3 H hr hv).symm.trans ((dB (fK1 H hk) _).symm.trans (jX (u:=zt6) (by kernel_rfl) (sm7 H hr hk)))
theorem o7 (H:TH d0 d1 s th 7 obj arg tries o c dn g r v):dX (cZ d0 d1 s th 7 obj arg tries) kH=Gl d0 s th 7 obj arg tries o c dn g r v:=by
 rcases kS r.l with hr|hr<;>rcases kS v.l with hv|hv
 ·exact (sp6 H hr hv).symm.trans (jX (u:=zt0) (by kernel_rfl) (ayS H hr))
 ·exact (sp5 H hr hv).symm.trans (jX (u:=zt0) (by kernel_rfl) (ayS H hr))
 ·exact (sp4 H hr hv).symm.trans (jX (u:=zt7) (by kernel_rfl) (sm8 H hr))
 ·exact (sp3 H hr hv).symm.trans (jX (u:=zt7) (by kernel_rfl) (sm8 H hr))
theorem o9 (H:TH d0 d1 s th 9 obj arg tries o c dn g r v):dX (cZ d0 d1 s th 9 obj arg tries) kH=Gl d0 s th 9 obj arg tries o c dn g r v:=jY H (u:=zt8) (by kernel_rfl) (by kernel_rfl) (by kernel_rfl) (by kernel_rfl) (sm9 H)
theorem o11 (H:TH d0 d1 s th 11 obj arg tries o c dn g r v):dX (cZ d0 d1 s th 11 obj arg tries) kH=Gl d0 s th 11 obj arg tries o c dn g r v:=jY H (u:=zt9) (by kernel_rfl) (by kernel_rfl) (by kernel_rfl) (by kernel_rfl) (aBD H)
theorem o10 (H:TH d0 d1 s th 10 obj arg tries o c dn g r v):dX (cZ d0 d1 s th 10 obj arg tries) kH=Gl d0 s th 10 obj arg tries o c dn g r v:=jY H (u:=axS) (by kernel_rfl) (by kernel_rfl) (by kernel_rfl) (by kernel_rfl) (aBC H)
theorem o17 (H:TH d0 d1 s th 17 obj arg tries o c dn g r v):dX (cZ d0 d1 s th 17 obj arg tries) kH=Gl d0 s th 17 obj arg tries o c dn g r v:=jY H (u:=axR) (by kernel_rfl) (by kernel_rfl) (by kernel_rfl) (by kernel_rfl) (aBB H)
theorem o18 (H:TH d0 d1 s th 18 obj arg tries o c dn g r v):dX (cZ d0 d1 s th 18 obj arg tries) kH=Gl d0 s th 18 obj arg tries o c dn g r v:=jY H (u:=axQ) (by kernel_rfl) (by kernel_rfl) (by kernel_rfl) (by kernel_rfl) (aBA H)
theorem o19 (H:TH d0 d1 s th 19 obj arg tries o c dn g r v):dX (cZ d0 d1 s th 19 obj arg tries) kH=Gl d0 s th 19 obj arg tries o c dn g r v:=jY H (u:=axP) (by kernel_rfl) (by kernel_rfl) (by kernel_rfl) (by kernel_rfl) (aBz H)
theorem o22 (H:TH d0 d1 s th 22 obj arg tries o c dn g r v):dX (cZ d0 d1 s th 22 obj arg tries) kH=Gl d0 s th 22 obj arg tries o c dn g r v:=jY H (u:=axO) (by kernel_rfl) (by kernel_rfl) (by kernel_rfl) (by kernel_rfl) (aBy H)
theorem o23 (H:TH d0 d1 s th 23 obj arg tries o c dn g r v):dX (cZ d0 d1 s th 23 obj arg tries) kH=Gl d0 s th 23 obj arg tries o c dn g r v:=jY H (u:=axN) (by kernel_rfl) (by kernel_rfl) (by kernel_rfl) (by kernel_rfl) (aBx H)
theorem o20 (H:TH d0 d1 s th 20 obj arg tries o c dn g r v):dX (cZ d0 d1 s th 20 obj arg tries) kH=Gl d0 s th 20 obj arg tries o c dn g r v:=by
 rcases kS r.l with hr|hr<;>rcases kS v.l with hv|hv
 ·exact (sp6 H hr hv).symm.trans (jX (u:=atA) (by kernel_rfl) (ayV H hv))
 ·exact (sp5 H hr hv).symm.trans (jX (u:=atF) (by kernel_rfl) (azA H hv))
 ·exact (sp4 H hr hv).symm.trans (jX (u:=atA) (by kernel_rfl) (ayV H hv))
 ·exact (sp3 H hr hv).symm.trans (jX (u:=atF) (by kernel_rfl) (azA H hv))
theorem o21 (H:TH d0 d1 s th 21 obj arg tries o c dn g r v):dX (cZ d0 d1 s th 21 obj arg tries) kH=Gl d0 s th 21 obj arg tries o c dn g r v:=by
 rcases kS r.l with hr|hr<;>rcases kS v.l with hv|hv
 ·exact (sp6 H hr hv).symm.trans (jX (u:=asZ) (by kernel_rfl) (ayU H hv))
 ·exact (sp5 H hr hv).symm.trans (jX (u:=atE) (by kernel_rfl) (ayZ H hv))
 ·exact (sp4 H hr hv).symm.trans (jX (u:=asZ) (by kernel_rfl) (ayU H hv))
 ·exact (sp3 H hr hv).symm.trans (jX (u:=atE) (by kernel_rfl) (ayZ H hv))
theorem o12 (H:TH d0 d1 s th 12 obj arg tries o c dn g r v):dX (cZ d0 d1 s th 12 obj arg tries) kH=Gl d0 s th 12 obj arg tries o c dn g r v:=by
 rcases kS r.l with hr|hr<;>rcases kS v.l with hv|hv
 ·have hd:=apG r th obj (Mx d0 obj) (enc (dL (iM s.l (Mx d0 obj) (dL (iM (s.at (Mx d0 obj)).l 0 (.i (-1))))))) 12 arg tries o c dn g (enc v);exact (sp6 H hr hv).symm.trans ((dB (fM H (by omega)) _).symm.trans ((dB (aB7 H hd) _).symm.trans (jX (u:=asX) (by kernel_rfl) (ayR H hr))))
 ·have hd:=apH r th obj (Mx d0 obj) (enc (dL (iM s.l (Mx d0 obj) (dL (iM (s.at (Mx d0 obj)).l 0 (.i (-1))))))) 12 arg tries o c dn g (enc v);exact (sp5 H hr hv).symm.trans ((dB (fM H (by omega)) _).symm.trans ((dB (aB8 H hd) _).symm.trans (jX (u:=asX) (by kernel_rfl) (ayR H hr))))
 ·rcases apI r th (by have:=H.hr; omega) H.hn with ⟨hw,hd⟩|hd
  ·have hd:=hd obj (Mx d0 obj) (enc (dL (iM s.l (Mx d0 obj) (dL (iM (s.at (Mx d0 obj)).l 0 (.i (-1))))))) 12 arg tries o c dn g (enc v);exact (sp4 H hr hv).symm.trans ((dB (fM H (by omega)) _).symm.trans ((dB (aB9 H hd) _).symm.trans (jX (u:=atD) (by kernel_rfl) (ayY H hr hw))))
  ·obtain⟨n,r1,hn,hl,hw,hd⟩:=hd obj (Mx d0 obj) (enc (dL (iM s.l (Mx d0 obj) (dL (iM (s.at (Mx d0 obj)).l 0 (.i (-1))))))) 12 arg tries o c dn g (enc v);exact (sp4 H hr hv).symm.trans ((dB (fM H (by omega)) _).symm.trans ((dB (aCa H hn hl hd) _).symm.trans (jX (u:=axH) (by kernel_rfl) (aBr H hr hv hn hl hw hd))))
 ·rcases apJ r th (by have:=H.hr; omega) H.hn with ⟨hw,hd⟩|hd
  ·have hd:=hd obj (Mx d0 obj) (enc (dL (iM s.l (Mx d0 obj) (dL (iM (s.at (Mx d0 obj)).l 0 (.i (-1))))))) 12 arg tries o c dn g (enc v);exact (sp3 H hr hv).symm.trans ((dB (fM H (by omega)) _).symm.trans ((dB (aCb H hd) _).symm.trans (jX (u:=atD) (by kernel_rfl) (ayY H hr hw))))
  ·obtain⟨n,r1,hn,hl,hw,hd⟩:=hd obj (Mx d0 obj) (enc (dL (iM s.l (Mx d0 obj) (dL (iM (s.at (Mx d0 obj)).l 0 (.i (-1))))))) 12 arg tries o c dn g (enc v);exact (sp3 H hr hv).symm.trans ((dB (fM H (by omega)) _).symm.trans ((dB (aCc H hn hl hd) _).symm.trans (jX (u:=axM) (by kernel_rfl) (aBw H hr hv hn hl hw hd))))
theorem o13 (H:TH d0 d1 s th 13 obj arg tries o c dn g r v):dX (cZ d0 d1 s th 13 obj arg tries) kH=Gl d0 s th 13 obj arg tries o c dn g r v:=by
 rcases kS r.l with hr|hr<;>rcases kS v.l with hv|hv
 ·exact (sp6 H hr hv).symm.trans (jX (u:=asW) (by kernel_rfl) (ayQ H hr))
 ·exact (sp5 H hr hv).symm.trans (jX (u:=asW) (by kernel_rfl) (ayQ H hr))
 ·exact (sp4 H hr hv).symm.trans (jX (u:=atC) (by kernel_rfl) (ayX H hr))
 ·exact (sp3 H hr hv).symm.trans (jX (u:=atC) (by kernel_rfl) (ayX H hr))
theorem o14 (H:TH d0 d1 s th 14 obj arg tries o c dn g r v):dX (cZ d0 d1 s th 14 obj arg tries) kH=Gl d0 s th 14 obj arg tries o c dn g r v:=by
 rcases kS r.l with hr|hr<;>rcases kS v.l with hv|hv
 ·exact (sp6 H hr hv).symm.trans (jX (u:=asV) (by kernel_rfl) (ayP H hr))
 ·exact (sp5 H hr hv).symm.trans (jX (u:=asV) (by kernel_rfl) (ayP H hr))
 ·exact (sp4 H hr hv).symm.trans (jX (u:=atB) (by kernel_rfl) (ayW H hr))
 ·exact (sp3 H hr hv).symm.trans (jX (u:=atB) (by kernel_rfl) (ayW H hr))
theorem o24 (H:TH d0 d1 s th 24 obj arg tries o c dn g r v):dX (cZ d0 d1 s th 24 obj arg tries) kH=Gl d0 s th 24 obj arg tries o c dn g r v:=by
 rcases kS r.l with hr|hr<;>rcases kS v.l with hv|hv
 ·exact (sp6 H hr hv).symm.trans ((dB (fM H (by omega)) _).symm.trans (jX (u:=adR) (by kernel_rfl) (amH H)))
 ·exact (sp5 H hr hv).symm.trans ((dB (fM H (by omega)) _).symm.trans (jX (u:=adR) (by kernel_rfl) (amH H)))
 ·exact (sp4 H hr hv).symm.trans ((dB (fM H (by omega)) _).symm.trans (jX (u:=adR) (by kernel_rfl) (amH H)))
 ·exact (sp3 H hr hv).symm.trans ((dB (fM H (by omega)) _).symm.trans (jX (u:=adR) (by kernel_rfl) (amH H)))
theorem o15 (H:TH d0 d1 s th 15 obj arg tries o c dn g r v):dX (cZ d0 d1 s th 15 obj arg tries) kH=Gl d0 s th 15 obj arg tries o c dn g r v:=jY H (u:=axL) (by kernel_rfl) (by kernel_rfl) (by kernel_rfl) (by kernel_rfl) (aBv H)
theorem o25 (H:TH d0 d1 s th 25 obj arg tries o c dn g r v):dX (cZ d0 d1 s th 25 obj arg tries) kH=Gl d0 s th 25 obj arg tries o c dn g r v:=jY H (u:=axK) (by kernel_rfl) (by kernel_rfl) (by kernel_rfl) (by kernel_rfl) (aBu H)
theorem o16 (H:TH d0 d1 s th 16 obj arg tries o c dn g r v):dX (cZ d0 d1 s th 16 obj arg tries) kH=Gl d0 s th 16 obj arg tries o c dn g r v:=jY H (u:=axJ) (by kernel_rfl) (by kernel_rfl) (by kernel_rfl) (by kernel_rfl) (aBt H)
theorem o26 (H:TH d0 d1 s th 26 obj arg tries o c dn g r v):dX (cZ d0 d1 s th 26 obj arg tries) kH=Gl d0 s th 26 obj arg tries o c dn g r v:=jY H (u:=axI) (by kernel_rfl) (by kernel_rfl) (by kernel_rfl) (by kernel_rfl) (aBs H)
theorem alN (H:TH d0 d1 s th op obj arg tries o c dn g r v) (hop:op∈ops):L 400 [enc d0,enc d1,enc s,th,op,obj,arg,tries]=some (outA s th op obj (Mx d0 obj) (act (Mx d0 obj) (Mo d0 s obj) th op arg tries o c dn g r v)):=by
 rw [bY,awX]
 suffices h:dX (cZ d0 d1 s th op obj arg tries) kH=Gl d0 s th op obj arg tries o c dn g r v by rw [h]; rfl
 unfold ops at hop;simp only [aCP,aDt,or_false] at hop;rcases hop with rfl|rfl|rfl|rfl|rfl|rfl|rfl|rfl|rfl|rfl|rfl|rfl|rfl|rfl|rfl|rfl|rfl|rfl|rfl|rfl|rfl|rfl|rfl|rfl|rfl|rfl
 ·exact o1 H
 ·exact o2 H
 ·exact o8 H
 ·exact o3 H
 ·exact o4 H
 ·exact o5 H
 ·exact o6 H
 ·exact o7 H
 ·exact o9 H
 ·exact o11 H
 ·exact o10 H
 ·exact o17 H
 ·exact o18 H
 ·exact o19 H
 ·exact o22 H
 ·exact o23 H
 ·exact o20 H
 ·exact o21 H
 ·exact o12 H
 all_goals grind [o13,o14,o24,o15,o25,o16,o26]
end
abbrev agO:T Lf:=ou [.op .set (aX 2) (thg (mk (aX 3)) (mk (aX 4)) bt (mk (aX 6)) (aX 7) (aX 8)),.lit 0,.lit 0,.lit 0,.lit 0,.lit 0,.lit 0]
abbrev Ya (a:Int):List SB:=[.eq (a0 9000 [.aK 5,.aK 2]) (.lit 1),.eq (aX 0) (.lit a),.eq (a0 350 [.aK 0,.aK 1,.aK 2]) (.lit 1)]
abbrev Na (a:Int):List SB:=([0,1,2,3,4,5].filter fun j=>!(j == a)).map fun j=> .eq (aX 0) (.lit j)
abbrev r3:SB:=.eq (rr 350 [.aK 0,.aK 1,.aK 2] 0) (.lit 0)
abbrev t3:SB:=.lt (.aK 3) (.lit 0)
abbrev u3:SB:=.lt (.aK 3) (ln (.aK 1))
section
variable {d0 d1 s r v:D} {th op obj arg tries o c dn g b kop a:Int} (hR:L 350 [enc d0,enc d1,enc s]=some [b])
include hR
theorem fa {l:List Int} (hc:L 9000 [obj,enc s]=some (a::l)):zY (cZ d0 d1 s th op obj arg tries) (Ya a)/\zW (cZ d0 d1 s th op obj arg tries) (Na a):=by
 refine⟨by simp only [zz,hc,hR],adU fun c hc'=>?_⟩;obtain⟨j,hj,rfl⟩:=aC4.1 hc';have:=(aDF.1 hj).2;simp only [zz,hc];intro h
 grind
theorem wX (k:dX (cZ d0 d1 s th op obj arg tries) kH= .out [enc s,0,0,0,0,0,0]):L 400 [enc d0,enc d1,enc s,th,op,obj,arg,tries]=some [enc s,0,0,0,0,0,0]:=by rw [bY,awX];exact congrArg (fin L) k
section
variable (ha:a=3\/a=4\/a=5\/a=6) (hcp:L 9000 [obj,enc s]=some [a,obj,enc s,o,c,dn,g,enc r,enc v]) (BJ:0<=obj) (BI:obj<(s.l.length:Int)) (hd:dn=0\/dn=1) (hs:s=dL (iM s.l obj (dL [.i o,.i c,.i dn,.i g,r,v])))
include ha hcp BJ BI hd hs
omit ha hR BJ BI in
theorem JZ:dX (cZ d0 d1 s th op obj arg tries) agO= .out [enc s,0,0,0,0,0,0]:=by
 have e:(if dn=0 then (0:Int) else 1)=dn:=by rcases hd with rfl|rfl<;>rfl
 simp only [dL] at hs;simp only [zz,hcp,e,<- hs]
theorem aBI (h:b=0):L 400 [enc d0,enc d1,enc s,th,op,obj,arg,tries]=some [enc s,0,0,0,0,0,0]:=
 wX hR (dR (Ya a++ [r3]) (Na a++ []) agO (z2 (fa hR hcp) (by simp only [zz,hcp,hR]<;>omega)) (by rcases ha with rfl|rfl|rfl|rfl<;>kernel_rfl) (JZ hcp hd hs))
theorem aBH (hb:b≠0) (h:th<0):L 400 [enc d0,enc d1,enc s,th,op,obj,arg,tries]=some [enc s,0,0,0,0,0,0]:=
 wX hR (dR (Ya a++ [t3]) (Na a++ [r3]) agO (z2 (fa hR hcp) (by simp only [zz,hcp,hR]<;>omega)) (by rcases ha with rfl|rfl|rfl|rfl<;>kernel_rfl) (JZ hcp hd hs))
theorem aBG (hb:b≠0) (h0:0<=th) (h: ¬th<(d1.l.length:Int)):L 400 [enc d0,enc d1,enc s,th,op,obj,arg,tries]=some [enc s,0,0,0,0,0,0]:=
 wX hR (dR (Ya a++ []) (Na a++ [r3,t3,u3]) agO (z2 (fa hR hcp) (by simp only [zz,hcp,hR]<;>omega)) (by rcases ha with rfl|rfl|rfl|rfl<;>kernel_rfl) (JZ hcp hd hs))
theorem aBJ (hb:b≠0) (h0:0<=th) (h:th<(d1.l.length:Int)) (hk:L 600 [op]=some [kop]) (hlen:s.l.length=d0.l.length) (hne: ¬kop=((d0.at obj).hd 0).n):L 400 [enc d0,enc d1,enc s,th,op,obj,arg,tries]=some [enc s,0,0,0,0,0,0]:=
 wX hR (dR (Ya a++ [u3,.lt (.aK 5) (ln (aX 2)),.eq (a0 600 [.aK 4]) (.lit 1),.lt (.aK 5) (ln (.aK 0))]) (Na a++ [r3,t3,.lt (.aK 5) (.lit 0),.eq (rr 600 [.aK 4] 0) (nm (ce 0 (el (.aK 0) (.aK 5))))]) agO (z2 (fa hR hcp) (by simp only [zz,hcp,hR,hk]<;>omega)) (by rcases ha with rfl|rfl|rfl|rfl<;>kernel_rfl) (JZ hcp hd hs))
end
theorem azL (hcp:L 9000 [obj,enc s]=some [0,obj,enc s]) (h:obj<0):L 400 [enc d0,enc d1,enc s,th,op,obj,arg,tries]=some [enc s,0,0,0,0,0,0]:=
 wX hR (dR (Ya 0++ [.lt (.aK 5) (.lit 0)]) (Na 0++ []) (sp r3 (ou [aX 2,.lit 0,.lit 0,.lit 0,.lit 0,.lit 0,.lit 0]) (sp t3 (ou [aX 2,.lit 0,.lit 0,.lit 0,.lit 0,.lit 0,.lit 0]) (sp u3 (ou [aX 2,.lit 0,.lit 0,.lit 0,.lit 0,.lit 0,.lit 0]) (ou [aX 2,.lit 0,.lit 0,.lit 0,.lit 0,.lit 0,.lit 0])))) (z2 (fa hR hcp) (by simp only [zz,hcp]<;>omega)) (by kernel_rfl) (by simp only [zz,hcp,hR,ite_self]))
theorem azK (hcp:L 9000 [obj,enc s]=some [0,obj,enc s]) (h0:0<=obj) (h: ¬obj<(s.l.length:Int)):L 400 [enc d0,enc d1,enc s,th,op,obj,arg,tries]=some [enc s,0,0,0,0,0,0]:=
 wX hR (dR (Ya 0++ []) (Na 0++ [.lt (.aK 5) (.lit 0),.lt (.aK 5) (ln (aX 2))]) (sp r3 (ou [aX 2,.lit 0,.lit 0,.lit 0,.lit 0,.lit 0,.lit 0]) (sp t3 (ou [aX 2,.lit 0,.lit 0,.lit 0,.lit 0,.lit 0,.lit 0]) (sp u3 (ou [aX 2,.lit 0,.lit 0,.lit 0,.lit 0,.lit 0,.lit 0]) (ou [aX 2,.lit 0,.lit 0,.lit 0,.lit 0,.lit 0,.lit 0])))) (z2 (fa hR hcp) (by simp only [zz,hcp]<;>omega)) (by kernel_rfl) (by simp only [zz,hcp,hR,ite_self]))
theorem azJ (hcp:L 9000 [obj,enc s]=some [1,obj]) (h:obj<0) (hs:s= .i 1):L 400 [enc d0,enc d1,enc s,th,op,obj,arg,tries]=some [enc s,0,0,0,0,0,0]:=
 wX hR (dR (Ya 1++ [.lt (.aK 5) (.lit 0)]) (Na 1++ []) (sp r3 (ou [.dat (.i 1),.lit 0,.lit 0,.lit 0,.lit 0,.lit 0,.lit 0]) (sp t3 (ou [.dat (.i 1),.lit 0,.lit 0,.lit 0,.lit 0,.lit 0,.lit 0]) (sp u3 (ou [.dat (.i 1),.lit 0,.lit 0,.lit 0,.lit 0,.lit 0,.lit 0]) (ou [.dat (.i 1),.lit 0,.lit 0,.lit 0,.lit 0,.lit 0,.lit 0])))) (z2 (fa hR hcp) (by simp only [zz,hcp]<;>omega)) (by kernel_rfl) (by simp only [zz,hcp,hR,hs,ite_self]))
theorem azI (hcp:L 9000 [obj,enc s]=some [1,obj]) (h0:0<=obj) (h: ¬obj<(s.l.length:Int)) (hs:s= .i 1):L 400 [enc d0,enc d1,enc s,th,op,obj,arg,tries]=some [enc s,0,0,0,0,0,0]:=
 wX hR (dR (Ya 1++ []) (Na 1++ [.lt (.aK 5) (.lit 0)]) (sp r3 (ou [.dat (.i 1),.lit 0,.lit 0,.lit 0,.lit 0,.lit 0,.lit 0]) (sp t3 (ou [.dat (.i 1),.lit 0,.lit 0,.lit 0,.lit 0,.lit 0,.lit 0]) (sp u3 (ou [.dat (.i 1),.lit 0,.lit 0,.lit 0,.lit 0,.lit 0,.lit 0]) (ou [.dat (.i 1),.lit 0,.lit 0,.lit 0,.lit 0,.lit 0,.lit 0])))) (z2 (fa hR hcp) (by simp only [zz,hcp]<;>omega)) (by kernel_rfl) (by simp only [zz,hcp,hR,hs,ite_self]))
theorem azH (hcp:L 9000 [obj,enc s]=some [2,obj]) (h:obj<0) (hs:s= .i 2):L 400 [enc d0,enc d1,enc s,th,op,obj,arg,tries]=some [enc s,0,0,0,0,0,0]:=
 wX hR (dR (Ya 2++ [.lt (.aK 5) (.lit 0)]) (Na 2++ []) (sp r3 (ou [.dat (.i 2),.lit 0,.lit 0,.lit 0,.lit 0,.lit 0,.lit 0]) (sp t3 (ou [.dat (.i 2),.lit 0,.lit 0,.lit 0,.lit 0,.lit 0,.lit 0]) (sp u3 (ou [.dat (.i 2),.lit 0,.lit 0,.lit 0,.lit 0,.lit 0,.lit 0]) (ou [.dat (.i 2),.lit 0,.lit 0,.lit 0,.lit 0,.lit 0,.lit 0])))) (z2 (fa hR hcp) (by simp only [zz,hcp]<;>omega)) (by kernel_rfl) (by simp only [zz,hcp,hR,hs,ite_self]))
theorem azG (hcp:L 9000 [obj,enc s]=some [2,obj]) (h0:0<=obj) (h: ¬obj<(s.l.length:Int)) (hs:s= .i 2):L 400 [enc d0,enc d1,enc s,th,op,obj,arg,tries]=some [enc s,0,0,0,0,0,0]:=
 wX hR (dR (Ya 2++ []) (Na 2++ [.lt (.aK 5) (.lit 0)]) (sp r3 (ou [.dat (.i 2),.lit 0,.lit 0,.lit 0,.lit 0,.lit 0,.lit 0]) (sp t3 (ou [.dat (.i 2),.lit 0,.lit 0,.lit 0,.lit 0,.lit 0,.lit 0]) (sp u3 (ou [.dat (.i 2),.lit 0,.lit 0,.lit 0,.lit 0,.lit 0,.lit 0]) (ou [.dat (.i 2),.lit 0,.lit 0,.lit 0,.lit 0,.lit 0,.lit 0])))) (z2 (fa hR hcp) (by simp only [zz,hcp]<;>omega)) (by kernel_rfl) (by simp only [zz,hcp,hR,hs,ite_self]))
end
def kindOf (o:Int):Int:=if o<27 then (if o=0 then 0 else if o=1 then 1 else if o=2 then 1 else if o=3 then 1 else if o=4 then 1 else if o=5 then 2 else if o=6 then 2 else if o=7 then 2 else if o=8 then 2 else if o=9 then 3 else if o=10 then 3 else if o=11 then 3 else if o=12 then 4 else if o=13 then 4 else if o=14 then 4 else if o=15 then 5 else if o=16 then 6 else if o=17 then 7 else if o=18 then 7 else if o=19 then 7 else if o=20 then 8 else if o=21 then 8 else if o=22 then 9 else if o=23 then 9 else if o=24 then 4 else if o=25 then 5 else 6) else 0
theorem VB (o:Int) (h:pV .u8 o):L 600 [o]=some [kindOf o]:=by
 have h1:=h.1;have w:=axV h;have c1: ¬(o<0):=by omega
 rw [bY,aA2];simp only [ayG,zz,w,c1];by_cases h27:o<27
 ·simp only [aCL h27];have:o=0\/o=1\/o=2\/o=3\/o=4\/o=5\/o=6\/o=7\/o=8\/o=9\/o=10\/o=11\/o=12\/o=13\/o=14\/o=15\/o=16\/o=17\/o=18\/o=19\/o=20\/o=21\/o=22\/o=23\/o=24\/o=25\/o=26:=by omega
  rcases this with rfl|rfl|rfl|rfl|rfl|rfl|rfl|rfl|rfl|rfl|rfl|rfl|rfl|rfl|rfl|rfl|rfl|rfl|rfl|rfl|rfl|rfl|rfl|rfl|rfl|rfl|rfl
  all_goals rfl
 ·simp only [aCI h27];unfold kindOf;rw [aCI h27];rfl
theorem ahB {o:Int} (h0:0<=o) (h:kindOf o≠0):o∈ops:=by
 have h27:o<27:=by
  refine Decidable.byContradiction fun hn=>h ?_;unfold kindOf
  grind
 have:o=0\/o=1\/o=2\/o=3\/o=4\/o=5\/o=6\/o=7\/o=8\/o=9\/o=10\/o=11\/o=12\/o=13\/o=14\/o=15\/o=16\/o=17\/o=18\/o=19\/o=20\/o=21\/o=22\/o=23\/o=24\/o=25\/o=26:=by omega
 rcases this with rfl|rfl|rfl|rfl|rfl|rfl|rfl|rfl|rfl|rfl|rfl|rfl|rfl|rfl|rfl|rfl|rfl|rfl|rfl|rfl|rfl|rfl|rfl|rfl|rfl|rfl|rfl
 all_goals first |exact absurd rfl h|decide
structure Acc (d0 d1 s:D) (th op obj:Int):Prop where
 r:L 350 [enc d0,enc d1,enc s]=some [1]
 t0:0<=th
 t1:th<(d1.l.length:Int)
 o0:0<=obj
 o1:obj<(s.l.length:Int)
 k:kindOf op=((d0.at obj).hd 0).n
structure Tg (x:D) (o c dn g:Int) (r v:D):Prop where
 is:x=dL [.i o,.i c,.i dn,.i g,r,v]
 ho:pV .i64 o
 hc:pV .i64 c
 hd:dn=0\/dn=1
 hg:pV .i64 g
 hr:Wd (.sl 0) r
 hv:Wd (.sl 0) v
theorem KO {x:D} (h:zD x): ∃o c dn g r v,Tg x o c dn g r v:=by obtain⟨o,c,d,g,r,v,h1,h2,h3,h4,h5,h6,h7⟩:=h;exact⟨o,c,d,g,r,v,h1,h2,h3,h4,h5,h6,h7⟩
theorem alK {r:D} (h:Wd (.sl 0) r): ∀x∈r.l,x= .i x.n:=by intro x hx;obtain⟨n,rfl,_⟩:=(h.el1 rfl x hx).i;rfl
def few (s:D):Prop:= ∀x∈s.l,(x.hd 4).l.length<17592186044415/\(x.hd 5).l.length<17592186044415
theorem few.rows {s:D} (h:few s):Xy s:=fun x hx=>by have:=(h x hx).1; omega
section
variable {d0 d1 s:D} {th op obj arg tries:Int} (h0:Wd (.sl 3) d0) (h1:Wd (.sl 4) d1) (hs:Wd (.sl 7) s) (hf:few s) (hop:pV .u8 op)
include h0 h1 hf in
theorem Lh (h:L 350 [enc d0,enc d1,enc s]=some [1]):Ih d0 d1/\s.l.length=d0.l.length:=by
 obtain⟨b,hb,_,hi⟩:=uX h0 h1 hf.rows;rw [h] at hb;simp only [aCJ,List.cons.injEq,and_true] at hb;obtain⟨hC,hle,_⟩:=hi.1 hb.symm;obtain⟨ys,hC',c,rfl,_,hok⟩:=IW h0 h1
 grind
include h0 h1 hf in
theorem aaP (A:Acc d0 d1 s th op obj):agH d0 (d0.at obj)/\s.l.length=d0.l.length:=by
 obtain⟨hok,hle⟩:=Lh h0 h1 hf A.r;refine⟨?_,hle⟩;have a1:=A.o0; have a2:=A.o1;obtain⟨i,rfl⟩ : ∃i:Nat,obj=(i:Int):=⟨obj.toNat,by omega⟩;have hi:i<d0.l.length:=by omega
 rw [bP hi];exact hok.2.2 _ (aCY hi)
include h0 h1 hs hf hop
theorem Og (A:Acc d0 d1 s th op obj) (h:op=12\/op=24):0<=Mx d0 obj/\Mx d0 obj<(s.l.length:Int)/\Mx d0 obj≠obj:=by
 obtain⟨ho,hle⟩:=aaP h0 h1 hf A
 have h4:((d0.at obj).hd 0).n=4:=by rw [<- A.k];rcases h with rfl|rfl<;>rfl
 obtain⟨m1,m2,m3⟩:=ho.2.2.2.2.2 h4
 grind
theorem Y9 (A:Acc d0 d1 s th op obj):op∈ops/\∃o c dn g r v,Tg (s.at obj) o c dn g r v/\
 L 400 [enc d0,enc d1,enc s,th,op,obj,arg,tries]=some (outA s th op obj (Mx d0 obj) (act (Mx d0 obj) (Mo d0 s obj) th op arg tries o c dn g r v)):=by
 obtain⟨ho,hle⟩:=aaP h0 h1 hf A;have hin:op∈ops:=ahB hop.1 (by rw [A.k]; have:=ho.1; omega);have a1:=A.o0; have a2:=A.o1;obtain⟨i,rfl⟩ : ∃i:Nat,obj=(i:Int):=⟨obj.toNat,by omega⟩;have hi:i<s.l.length:=by omega
 have ht:=U1 hs (by omega);obtain⟨o,c,dn,g,r,v,T⟩:=KO (hs.thing _ (aCY hi));have hfx:=hf _ (aCY hi);rw [T.is] at hfx;have hkk:L 600 [op]=some [((d0.at (i:Int)).hd 0).n]:=by rw [VB op hop,A.k]
 refine⟨hin,o,c,dn,g,r,v,by rw [bP hi]; exact T,?_⟩;refine alN ⟨asN s ht i hi o c dn g r v T.is,akL s hs,A.r,A.t0,A.t1,A.o0,A.o1,hle,hkk,?_,?_,(alK T.hr),fun h=>Og h0 h1 hs hf hop A h⟩ hin
 ·have:(r.l.length:Int)<17592186044415:=aEq.2 hfx.1
  grind
 ·have:(v.l.length:Int)<17592186044415:=aEq.2 hfx.2
  grind
theorem aeF (A: ¬Acc d0 d1 s th op obj):L 400 [enc d0,enc d1,enc s,th,op,obj,arg,tries]=some [enc s,0,0,0,0,0,0]:=by
 obtain⟨b,hb,hb2,_⟩:=uX h0 h1 hf.rows;by_cases ho:0<=obj/\obj<(s.l.length:Int)
 ·obtain⟨i,rfl⟩ : ∃i:Nat,obj=(i:Int):=⟨obj.toNat,by omega⟩;have hi:i<s.l.length:=by omega
  have ht:=U1 hs (by omega);obtain⟨o,c,dn,g,r,v,T⟩:=KO (hs.thing _ (aCY hi));have hcp:=asN s ht i hi o c dn g r v T.is
  have hss:s=dL (iM s.l (i:Int) (dL [.i o,.i c,.i dn,.i g,r,v])):=by
   have:=set_self ht.sh hi;rw [T.is] at this
   grind
  have hkk:=VB op hop
  have key: ∀alt:Int,(alt=3\/alt=4\/alt=5\/alt=6)->L 9000 [(i:Int),enc s]=some [alt,(i:Int),enc s,o,c,dn,g,enc r,enc v]->L 400 [enc d0,enc d1,enc s,th,op,(i:Int),arg,tries]=some [enc s,0,0,0,0,0,0]:=by
   intro alt ha hcp;by_cases hb0:b=0
   ·exact aBI hb ha hcp ho.1 ho.2 T.hd hss hb0
   ·have hb1:b=1:=by omega
    by_cases t0:th<0
    ·exact aBH hb ha hcp ho.1 ho.2 T.hd hss hb0 t0
    ·by_cases t1:th<(d1.l.length:Int)
     ·have hne: ¬kindOf op=((d0.at (i:Int)).hd 0).n:=fun hk=>A ⟨by rw [hb,hb1],by omega,t1,ho.1,ho.2,hk⟩;obtain⟨_,hle⟩:=Lh h0 h1 hf (by rw [hb,hb1]);exact aBJ hb ha hcp ho.1 ho.2 T.hd hss hb0 (by omega) t1 hkk hle hne
     ·exact aBG hb ha hcp ho.1 ho.2 T.hd hss hb0 (by omega) t1
  refine key _ ?_ hcp;unfold oI
  grind
 ·obtain⟨ys,hc,hys⟩:=copyN s hs obj (by omega);by_cases hn:obj<0
  ·rcases hys with rfl|⟨rfl,he⟩|⟨rfl,he⟩
   ·exact azL hb hc hn
   ·exact azJ hb hc hn he
   ·exact azH hb hc hn he
  ·rcases hys with rfl|⟨rfl,he⟩|⟨rfl,he⟩
   ·exact azK hb hc (by omega) (by omega)
   ·exact azI hb hc (by omega) (by omega) he
   ·exact azG hb hc (by omega) (by omega) he
end
theorem JU {d:D} {l:List D} (h: ∀x∈l,∃n,x= .i n/\pV .i64 n) (hl:l.length<=17592186043904):Wd (.sl 0) (gW d l):=by
 cases l with
 |nil=>
  show Wd (.sl 0) (if d= .i 1 then .i 1 else .i 2);split
  ·exact .nil 0
  ·exact .non 0
 |cons a l=> refine .one 0 (.int .i64) (a::l) rfl (by simp) (by have:G7 0=8:=rfl; rw [this]; omega) fun x hx=>?_;obtain⟨n,rfl,hn⟩:=h x hx;exact .int _ _ hn
theorem Ry {l:List D} (h: ∀x∈l,∃n,x= .i n/\pV .i64 n) (hn:l≠[]) (hl:l.length<=17592186043904):Wd (.sl 0) (dL l):=by rw [<- Cb (d:=.i 2) hn];exact JU h hl
theorem yR {r:D} (h:Wd (.sl 0) r): ∀x∈r.l,∃n,x= .i n/\pV .i64 n:=fun x hx=>(h.el1 rfl x hx).i
theorem wrap_in (z:Int):pV .i64 (IntKind.i64.wrap z):=by constructor<;>(rw [IntKind.wrap_i64]; omega)
def Ot (n:Nat):Act->Prop
 | .res o c dn g r v m _ oc=>pV .i64 o/\pV .i64 c/\(dn=0\/dn=1)/\pV .i64 g/\Wd (.sl 0) r/\r.l.length<=n/\Wd (.sl 0) v/\v.l.length<=n/\(∀q,m=some q->pV .i64 q)/\(oc=2\/oc=3)
 |_=>True
theorem Ot.ite {n:Nat} {p:Prop} [Decidable p] {a b:Act} (ha:Ot n a) (hb:Ot n b):Ot n (if p then a else b):=by
 grind
def NoM:Act->Prop
 | .res _ _ _ _ _ _ m _ _=>m=none
 |_=>True
theorem NoM.ite {p:Prop} [Decidable p] {a b:Act} (ha:NoM a) (hb:NoM b):NoM (if p then a else b):=by
 grind
section
variable {x:D} {M mo th op arg tries o c dn g:Int} {r v:D}
theorem alC (T:Tg x o c dn g r v) {n:Nat} (hr:r.l.length<=n) (hv:v.l.length<=n) (hn:n<17592186043904) (ht:pV .i64 th) (ha:pV .i64 arg):Ot (n+1) (act M mo th op arg tries o c dn g r v):=by
 have hm:pV .i64 (-1):=⟨by omega,by omega⟩;have hz:pV .i64 0:=⟨by omega,by omega⟩;have e1: ∀q:Int,(none:Option Int)=some q->pV .i64 q:=fun q h=>by simp at h
 have e2: ∀{p:Int},pV .i64 p->∀q:Int,some p=some q->pV .i64 q:=fun hp q h=>by simp only [aCJ] at h; exact h▸hp
 have hr1:r.l.length<=n+1:=by omega
 have hv1:v.l.length<=n+1:=by omega
 have w:=@wrap_in
 have sn: ∀{l:List D} {t:Int},(∀x∈l,∃n,x= .i n/\pV .i64 n)->pV .i64 t->∀x∈l++ [.i t],∃n,x= .i n/\pV .i64 n:=fun h ht x hx=>by
  grind
 have r5:Wd (.sl 0) (dL (r.l++ [.i th])):=Ry (sn (yR T.hr) ht) (by simp) (by simp; omega);have l5:(dL (r.l++ [.i th])).l.length<=n+1:=by rw [aY]; simp; omega
 have r20:Wd (.sl 0) (dL (v.l++ [.i arg])):=Ry (sn (yR T.hv) ha) (by simp) (by simp; omega);have l20:(dL (v.l++ [.i arg])).l.length<=n+1:=by rw [aY]; simp; omega
 have r12:Wd (.sl 0) (dL (wo th r.l++ [.i th])):=Ry (sn (fun x hx=>(yR T.hr) x (aDF.1 hx).1) ht) (by simp) (by have:=adY th r.l; simp; omega);have l12:(dL (wo th r.l++ [.i th])).l.length<=n+1:=by have:=adY th r.l; rw [aY]; simp; omega
 have r6: ∀k,Wd (.sl 0) (gW (.i 2) (r.l.take k++r.l.drop (k+1))):=fun k=>JU (fun x hx=>by
  rcases aDp.1 hx with hx|hx
  ·exact (yR T.hr) x (aDn hx)
  ·exact (yR T.hr) x (aDh hx)) (by simp only [aC5,aDa,aDg]; omega)
 have l6: ∀k,(gW (.i 2) (r.l.take k++r.l.drop (k+1))).l.length<=n+1:=fun k=>by rw [iL]; simp only [aC5,aDa,aDg]; omega
 have r21:Wd (.sl 0) (gW v (v.l.drop 1)):=JU (fun x hx=>(yR T.hv) x (aDh hx)) (by simp; omega);have l21:(gW v (v.l.drop 1)).l.length<=n+1:=by rw [iL]; simp; omega
 have r13:Wd (.sl 0) (gW r (r.l.drop 1)):=JU (fun x hx=>(yR T.hr) x (aDh hx)) (by simp; omega);have l13:(gW r (r.l.drop 1)).l.length<=n+1:=by rw [iL]; simp; omega
 have r14:Wd (.sl 0) (.i 1):=.nil 0;have l14:(D.i 1).l.length<=n+1:=by simp [D.l]
 unfold act
 repeat' refine Ot.ite ?_ ?_
 all_goals first
  |trivial
  |exact⟨by first |exact T.ho|exact ht|exact hm,by first |exact T.hc|exact w _|exact ha|exact hz,by first |exact T.hd|exact .inr rfl,by first |exact T.hg|exact w _,by first |exact T.hr|exact r5|exact r6 _|exact r12|exact r13|exact r14,by first |exact hr1|exact l5|exact l6 _|exact l12|exact l13|exact l14,by first |exact T.hv|exact r20|exact r21,by first |exact hv1|exact l20|exact l21,by first |exact e1|exact e2 hm|exact e2 ht,by first |exact .inl rfl|exact .inr rfl⟩
theorem Rq (h12:op≠12) (h24:op≠24):NoM (act M mo th op arg tries o c dn g r v):=by
 unfold act;rw [aCI h12,aCI h24]
 repeat' refine NoM.ite ?_ ?_
 all_goals first
  |exact rfl
  |trivial
end
def EqI (a b:D) (i:Nat):Prop:= ∀(k:Nat) (h1:k<a.l.length) (h2:k<b.l.length),i<=k->(a.l[k]).n=(b.l[k]).n
theorem EqI.step {a b:D} {i:Nat} (h1:i<a.l.length) (h2:i<b.l.length) (h:(a.l[i]).n=(b.l[i]).n):EqI a b i↔EqI a b (i+1):=by
 constructor
 ·intro q k x y z;exact q k x y (by omega)
 ·intro q k x y z;by_cases hk:k=i
  ·grind
  ·exact q k x y (by omega)
theorem EqI.end' {a b:D} {i:Nat} (h:a.l.length<=i):EqI a b i:=fun k h1 _ h3=>absurd h1 (by omega)
section
variable {a b:D} (hle:a.l.length=b.l.length) (hlen:a.l.length<=140737488351232)
include hle hlen
theorem PW: ∀(j i:Nat),i+j=a.l.length->∃c:Int,L 251 [enc a,enc b,(i:Int)]=some [c]/\(c=0\/c=1)/\(c=1↔EqI a b i)
 |0,i,hi=>by
  have c1: ¬(i:Int)<(a.l.length:Int):=by omega
  refine⟨1,?_,.inr rfl,fun _=>EqI.end' (by omega),fun _=>rfl⟩;rw [bY,e251];simp only [amB,zz,c1,fin]
 |j+1,i,hi=>by
  have hil:i<a.l.length:=by omega
  have hib:i<b.l.length:=by omega
  have c1:(i:Int)<(a.l.length:Int):=by omega
  have c2: ¬((i:Int)<0):=by omega
  have c3:(i:Int)<(b.l.length:Int):=by omega
  have w:=bV (n:=i) (by omega);obtain⟨c,h1,h2,h3⟩:=PW j (i+1) (by omega);by_cases he:(a.l[i]).n=(b.l[i]).n
  ·refine⟨c,?_,h2,h3.trans (EqI.step hil hib he).symm⟩;rw [bY,e251];simp only [amB,zz,c1,c2,c3,w,bP hil,bP hib,he,fin,h1]
  ·refine⟨0,?_,.inl rfl,fun h=>absurd h (by omega),fun h=>absurd (h i hil hib (aCN i)) he⟩;rw [bY,e251];simp only [amB,zz,c1,c2,c3,w,bP hil,bP hib,he,fin]
end
def aaQ (a b:D):Prop:=a.l.length=b.l.length/\EqI a b 0
theorem acG (a b:D) (hlen:a.l.length<=140737488351232): ∃c:Int,L 250 [enc a,enc b]=some [c]/\(c=0\/c=1)/\(c=1↔aaQ a b):=by
 by_cases hl:a.l.length=b.l.length
 ·obtain⟨c,h1,h2,h3⟩:=PW hl hlen a.l.length 0 (by omega);refine⟨c,?_,h2,h3.trans ⟨fun h=> ⟨hl,h⟩,fun h=>h.2⟩⟩;have hl':(a.l.length:Int)=(b.l.length:Int):=by omega
  rw [bY,e250,atT,dO,aCL,nT]
  ·simp only [List.map,bJ,aP,Nat.reduceLT,aG,aH,fin];exact h1
  ·simp only [iF,gK,aP,Nat.reduceLT,aG,aH,aA,iJ]
   grind
 ·refine⟨0,?_,.inl rfl,fun h=>absurd h (by omega),fun h=>absurd h.1 hl⟩;have hl': ¬(a.l.length:Int)=(b.l.length:Int):=by omega
  rw [bY,e250,atT,dO,aCI]
  ·simp only [jK,List.map,bJ,fin]
  ·simp only [iF,gK,aP,Nat.reduceLT,aG,aH,aA,iJ]
   grind
theorem OE (x y:D) (hle:x.l.length=y.l.length) (hlen:x.l.length<=140737488351232) (x0 x1 x2:Int) (i:Nat) (hi:i<9223372036854775807) (c:Int) (hc:c=0\/c=1) (h:L 201 [x0,x1,x2,((i+1:Nat):Int)]=some [c]) (x6 x7 x8 x9 x10 x12 x13 x14 x15 x16:Int) :
 ∀(j k:Nat),k+j=x.l.length->∃e:Int,L 202 [x0,x1,x2,(i:Int),(x.l.length:Int),(k:Int),x6,x7,x8,x9,x10,enc x,x12,x13,x14,x15,x16,enc y]=some [e]/\(e=0\/e=1)/\(e=1↔EqI x y k/\c=1)
 |0,k,hk=>by
  have c1: ¬(k:Int)<(x.l.length:Int):=by omega
  have w:=bV (n:=i) (by omega);refine⟨c,?_,hc,fun h=> ⟨EqI.end' (by omega),h⟩,fun h=>h.2⟩;rw [bY,aoY];simp only [amC,zz,c1,w,fin,h]
 |j+1,k,hk=>by
  have hil:k<x.l.length:=by omega
  have hib:k<y.l.length:=by omega
  have c1:(k:Int)<(x.l.length:Int):=by omega
  have c2: ¬((k:Int)<0):=by omega
  have c3:(k:Int)<(y.l.length:Int):=by omega
  have w:=bV (n:=k) (by omega);obtain⟨e,h1,h2,h3⟩:=OE x y hle hlen x0 x1 x2 i hi c hc h x6 x7 x8 x9 x10 x12 x13 x14 x15 x16 j (k+1) (by omega);by_cases he:(x.l[k]).n=(y.l[k]).n
  ·refine⟨e,?_,h2,h3.trans ⟨fun q=> ⟨(EqI.step hil hib he).2 q.1,q.2⟩,fun q=> ⟨(EqI.step hil hib he).1 q.1,q.2⟩⟩⟩;rw [bY,aoY];simp only [amC,zz,c1,c2,c3,w,bP hil,bP hib,he,fin,h1]
  ·refine⟨0,?_,.inl rfl,fun h=>absurd h (by omega),fun h=>absurd (h.1 k hil hib (aCN k)) he⟩;rw [bY,aoY];simp only [amC,zz,c1,c2,c3,w,bP hil,bP hib,he,fin]
theorem qV (ρ) (a b:SB):((SB.and a b).den ρ=true)=(a.den ρ=true/\b.den ρ=true):=by simp [SB.den]
structure aBh (x y:D):Prop where
 o:(x.hd 0).n=(y.hd 0).n
 c:(x.hd 1).n=(y.hd 1).n
 d:(x.hd 2).n=0↔(y.hd 2).n=0
 g:(x.hd 3).n=(y.hd 3).n
 r:aaQ (x.hd 4) (y.hd 4)
 v:aaQ (x.hd 5) (y.hd 5)
def WQ (a b:D) (i:Nat):Prop:= ∀(k:Nat) (h1:k<a.l.length) (h2:k<b.l.length),i<=k->aBh a.l[k] b.l[k]
theorem bits {p q:Int}:((¬(¬p=0/\¬q=0))/\¬(¬¬p=0/\¬¬q=0))↔¬(p=0↔q=0):=by omega
def Zh (s:D):Prop:= ∀x∈s.l,(x.hd 4).l.length<=140737488351232/\(x.hd 5).l.length<=140737488351232
section
variable {a b:D} (hle:a.l.length=b.l.length) (hlen:a.l.length<=140737488351232) (hr:Zh a)
include hle hlen hr
theorem OU: ∀(j i:Nat),i+j=a.l.length->∃c:Int,L 201 [enc a,enc b,(a.l.length:Int),(i:Int)]=some [c]/\(c=0\/c=1)/\(c=1↔WQ a b i)
 |0,i,hi=>by
  have c1: ¬(i:Int)<(a.l.length:Int):=by omega
  refine⟨1,?_,.inr rfl,fun _ k h1 _ h3=>absurd h1 (by omega),fun _=>rfl⟩;rw [bY,Ur];simp only [t201,zz,c1,fin]
 |j+1,i,hi=>by
  have hil:i<a.l.length:=by omega
  have hib:i<b.l.length:=by omega
  have c1:(i:Int)<(a.l.length:Int):=by omega
  have c2: ¬((i:Int)<0):=by omega
  have c3:(i:Int)<(b.l.length:Int):=by omega
  obtain⟨c,h1,h2,h3⟩:=OU j (i+1) (by omega);have hb:=hr _ (aCY hil);by_cases b0:((a.l[i]).hd 0).n=((b.l[i]).hd 0).n
  case neg=>
   refine⟨0,?_,.inl rfl,fun h=>absurd h (by omega),fun h=>absurd (h i hil hib (aCN i)).o b0⟩;rw [bY,Ur];simp only [t201,zz,c1,c2,c3,bP hil,bP hib,b0,fin]
  by_cases b1:((a.l[i]).hd 1).n=((b.l[i]).hd 1).n
  case neg=>
   refine⟨0,?_,.inl rfl,fun h=>absurd h (by omega),fun h=>absurd (h i hil hib (aCN i)).c b1⟩;rw [bY,Ur];simp only [t201,zz,c1,c2,c3,bP hil,bP hib,b0,b1,fin]
  by_cases b2:(((a.l[i]).hd 2).n=0↔((b.l[i]).hd 2).n=0)
  case neg=>
   refine⟨0,?_,.inl rfl,fun h=>absurd h (by omega),fun h=>absurd (h i hil hib (aCN i)).d b2⟩;rw [bY,Ur];have b2':=bits.2 b2;simp only [t201,zz,qV,qU,c1,c2,c3,bP hil,bP hib,b0,b1,aCL b2',fin]
  have b2': ¬_:=fun h=>bits.1 h b2;by_cases b3:((a.l[i]).hd 3).n=((b.l[i]).hd 3).n
  case neg=>
   refine⟨0,?_,.inl rfl,fun h=>absurd h (by omega),fun h=>absurd (h i hil hib (aCN i)).g b3⟩;rw [bY,Ur];simp only [t201,zz,qV,qU,c1,c2,c3,bP hil,bP hib,b0,b1,aCI b2',b3,fin]
  obtain⟨e,g1,g2,g3⟩:=acG ((a.l[i]).hd 4) ((b.l[i]).hd 4) hb.1;by_cases b4:e=0
  ·subst b4;refine⟨0,?_,.inl rfl,fun h=>absurd h (by omega),fun h=>absurd (g3.2 (h i hil hib (aCN i)).r) (by omega)⟩;rw [bY,Ur];simp only [t201,zz,qV,qU,c1,c2,c3,bP hil,bP hib,b0,b1,aCI b2',b3,g1,fin]
  have he:e=1:=by omega
  subst he;by_cases b5:((a.l[i]).hd 5).l.length=((b.l[i]).hd 5).l.length
  case neg=>
   have b5': ¬(((a.l[i]).hd 5).l.length:Int)=(((b.l[i]).hd 5).l.length:Int):=by omega
   refine⟨0,?_,.inl rfl,fun h=>absurd h (by omega),fun h=>absurd (h i hil hib (aCN i)).v.1 b5⟩;rw [bY,Ur];simp only [t201,zz,qV,qU,c1,c2,c3,bP hil,bP hib,b0,b1,aCI b2',b3,g1,aN,b5',fin]
  have b5':(((a.l[i]).hd 5).l.length:Int)=(((b.l[i]).hd 5).l.length:Int):=by omega
  obtain⟨f,f1,f2,f3⟩:=OE ((a.l[i]).hd 5) ((b.l[i]).hd 5) b5 hb.2 (enc a) (enc b) (a.l.length:Int) i (by omega) c h2 h1 ((b.l[i]).hd 0).n ((b.l[i]).hd 1).n ((a.l[i]).hd 2).n ((b.l[i]).hd 3).n (enc ((a.l[i]).hd 4)) ((b.l[i]).hd 0).n ((b.l[i]).hd 1).n ((b.l[i]).hd 2).n ((b.l[i]).hd 3).n (enc ((b.l[i]).hd 4)) ((a.l[i]).hd 5).l.length 0 (by omega);refine⟨f,?_,f2,fun h k k1 k2 k3=>?_,fun h=>f3.2 ⟨(h i hil hib (aCN i)).v.2,h3.2 fun k k1 k2 k3=>h k k1 k2 (by omega)⟩⟩
  ·rw [bY,Ur];rw [b5'] at f1;simp only [t201,zz,qV,qU,c1,c2,c3,bP hil,bP hib,b0,b1,aCI b2',b3,g1,aN,b5',fin];exact f1
  ·by_cases hk:k=i
   ·subst hk;exact⟨b0,b1,b2,b3,g3.1 rfl,b5,(f3.1 h).1⟩
   ·exact h3.1 (f3.1 h).2 k k1 k2 (by omega)
end
theorem abK (a b:D) (hlen:a.l.length<=140737488351232) (hr:Zh a): ∃c:Int,L 200 [enc a,enc b]=some [c]/\(c=0\/c=1)/\(c=1↔a.l.length=b.l.length/\WQ a b 0):=by
 by_cases hl:a.l.length=b.l.length
 ·obtain⟨c,h1,h2,h3⟩:=OU hl hlen hr a.l.length 0 (by omega);refine⟨c,?_,h2,h3.trans ⟨fun h=> ⟨hl,h⟩,fun h=>h.2⟩⟩;have hl':(a.l.length:Int)=(b.l.length:Int):=by omega
  rw [bY,awY,atU,dO,aCL,nT]
  ·simp only [List.map,bJ,gK,iJ,aP,Nat.reduceLT,aG,aH,aA,fin];exact h1
  ·simp only [iF,gK,aP,Nat.reduceLT,aG,aH,aA,iJ]
   grind
 ·refine⟨0,?_,.inl rfl,fun h=>absurd h (by omega),fun h=>absurd h.1 hl⟩;have hl': ¬(a.l.length:Int)=(b.l.length:Int):=by omega
  rw [bY,awY,atU,dO,aCI]
  ·simp only [jK,List.map,bJ,fin]
  ·simp only [iF,gK,aP,Nat.reduceLT,aG,aH,aA,iJ]
   grind
theorem adI {d0:D} (hl:d0.l.length<=64) (hn:0<d0.l.length):L 301 [enc d0,(d0.l.length:Int)]=some [enc (dL (d0.l.map jZ))]:=by
 have e0:=Oc d0 hl (d0.l.length-1) 1 [jZ (d0.l[0]'hn)] (by omega) rfl
 have e1:[jZ (d0.l[0]'hn)]++(d0.l.drop 1).map jZ=d0.l.map jZ:=by
  conv=>rhs; rw [<- aD9 (l:=d0.l),aDr hn]
  rfl
 rw [e1] at e0;have a0:d0.at 0=d0.l[0]'hn:=bP (i:=0) hn;have c1:(0:Int)<(d0.l.length:Int):=by omega
 have key: ∀q:Int,q=(if (((d0.l[0]'hn)).hd 0).n=3\/((d0.l[0]'hn).hd 0).n=9 then ((d0.l[0]'hn).hd 2).n else 0)->enc (dL [jZ (d0.l[0]'hn)])=enc (.p (.p (.i (-1)) (.p (.i q) (.p (.i 0) (.p (.i 0) (.p (.i 1) (.p (.i 1) (.i 0))))))) (.i 0)):=fun q hq=>by rw [hq]; rfl
 have k:dX (bQ L (low [enc d0,(d0.l.length:Int)])) aaZ= .jump 302 [enc (dL [jZ (d0.l[0]'hn)]),enc d0,(d0.l.length:Int),1]:=by
  by_cases h3:((d0.l[0]'hn).hd 0).n=3
  ·rw [key _ (by rw [aCL (.inl h3)])];simp only [aaZ,zz,c1,a0,E5,aC2,h3,dL]
  ·by_cases h9:((d0.l[0]'hn).hd 0).n=9
   ·rw [key _ (by rw [aCL (.inr h9)])];simp only [aaZ,zz,c1,a0,E5,aC2,aCI h3,aCL h9,dL]
   ·rw [key 0 (by rw [aCI (by omega)])];simp only [aaZ,zz,c1,a0,E5,aC2,aCI h3,aCI h9,dL]
 rw [bY,e301];exact (congrArg (fin L) k).trans e0
theorem akX {d0 d1:D} (hc:L 450 [enc d0,enc d1]=some [0]) (hl:d0.l.length<=64) (hn:0<d0.l.length):L 300 [enc d0,enc d1]=some [enc (dL (d0.l.map jZ))]:=by
 have k:dX (bQ L (low [enc d0,enc d1])) amA= .jump 301 [enc d0,(d0.l.length:Int)]:=by refine dR [.eq (a0 450 [.aK 0,.aK 1]) (.lit 1),.eq (rr 450 [.aK 0,.aK 1] 0) (.lit 0)] [] (ju 301 [.aK 0,ln (.aK 0)]) (by simp only [zz,hc]) (by kernel_rfl) ?_;simp only [nT,List.map,aP,gK,Nat.reduceLT,aG,aH,aA]
 rw [bY,e300];exact (congrArg (fin L) k).trans (adI hl hn)
theorem WI {d0 d1:D} {c:Int} (hc:L 450 [enc d0,enc d1]=some [c]) (h:c≠0\/d0.l.length=0):L 300 [enc d0,enc d1]=some [enc (.i 1)]:=by
 by_cases h0:c=0
 ·subst h0;have hz:d0.l.length=0:=h.resolve_left (fun h=>h rfl)
  have k:dX (bQ L (low [enc d0,enc d1])) amA= .jump 301 [enc d0,0]:=by refine dR [.eq (a0 450 [.aK 0,.aK 1]) (.lit 1),.eq (rr 450 [.aK 0,.aK 1] 0) (.lit 0)] [] (ju 301 [.aK 0,ln (.aK 0)]) (by simp only [zz,hc]) (by kernel_rfl) ?_;simp only [nT,List.map,aP,gK,Nat.reduceLT,aG,aH,aA,hz];rfl
  have k1:dX (bQ L (low [enc d0,0])) aaZ= .out [enc (.i 1)]:=by refine dR [] [.lt (.lit 0) (.aK 1)] (ou [.dat (.i 1)]) (by simp only [zz]<;>omega) (by kernel_rfl) rfl
  rw [bY,e300];refine (congrArg (fin L) k).trans ?_;show L 301 [enc d0,0]=_;rw [bY,e301];exact congrArg (fin L) k1
 ·have k:dX (bQ L (low [enc d0,enc d1])) amA= .out [enc (.i 1)]:=by
   refine dR [.eq (a0 450 [.aK 0,.aK 1]) (.lit 1)] [.eq (rr 450 [.aK 0,.aK 1] 0) (.lit 0)] (ou [.dat (.i 1)]) (by simp only [zz,hc]<;>omega) (by kernel_rfl) rfl
  rw [bY,e300];exact congrArg (fin L) k
structure Gs (s:D) (n:Nat):Prop where
 wd:Wd (.sl 7) s
 rows: ∀x∈s.l,(x.hd 4).l.length<=n/\(x.hd 5).l.length<=n
theorem Gs.few {s:D} {n:Nat} (h:Gs s n) (hn:n<17592186044415):few s:=fun x hx=>by have:=h.rows x hx; omega
theorem Gs.mono {s:D} {n m:Nat} (h:Gs s n) (hm:n<=m):Gs s m:=⟨h.wd,fun x hx=>by have:=h.rows x hx; omega⟩
theorem OD {l:List D} (h: ∀x∈l,zD x) (hn:l≠[]) (hl:l.length<=1759218604390):Wd (.sl 7) (dL l):=by
 have e:(l.map fun x=>x.l).map dL=l:=by
  rw [aDT]
  conv=>rhs; rw [<- List.map_id l]
  apply aEj;intro x hx;obtain⟨o,c,d,g,r,v,rfl,_⟩:=h x hx;rfl
 rw [<- e];refine .many 7 [.int .i64,.int .i64,.bool,.int .i64,.sl 0,.sl 0] _ rfl (by simpa using hn) (by have:G7 7=80:=rfl; rw [this,aDz]; omega) (fun r hr=>?_) fun r hr j d c h1 h2=>?_
 ·obtain⟨x,hx,rfl⟩:=aC4.1 hr;obtain⟨o,c,d,g,r,v,rfl,_⟩:=h x hx;rfl
 ·obtain⟨x,hx,rfl⟩:=aC4.1 hr;obtain⟨o,c',d',g,r,v,rfl,ho,hc,hd,hg,hr,hv⟩:=h x hx;rw [aY] at h1
  match j with
  |0=>simp at h1 h2; subst h1 h2; exact .int _ _ ho
  |1=>simp at h1 h2; subst h1 h2; exact .int _ _ hc
  |2=>
   simp at h1 h2; subst h1 h2;rcases hd with rfl|rfl
   ·exact .bool false
   ·exact .bool true
  |3=>simp at h1 h2; subst h1 h2; exact .int _ _ hg
  |4=>simp at h1 h2; subst h1 h2; exact hr
  |5=>simp at h1 h2; subst h1 h2; exact hv
  |j+6=>simp at h1
theorem Tg.thing {x:D} {o c dn g:Int} {r v:D} (T:Tg x o c dn g r v):zD x:=⟨o,c,dn,g,r,v,T.is,T.ho,T.hc,T.hd,T.hg,T.hr,T.hv⟩
theorem Vy {l:List D} {z:Int} {y x:D} (h:x∈iM l z y):x∈l\/x=y:=by
 unfold iM at h
 grind
theorem wJ {l:List D} {z:Int} {y:D} {k:Nat} (h:(k:Int)≠z):(iM l z y)[k]?=l[k]?:=by
 unfold iM
 grind
theorem BM {l:List D} {k:Nat} {y:D} (h:k<l.length):(iM l (k:Int) y)[k]?=some y:=by rw [xP,List.getElem?_set,aCL rfl,aCL h]
theorem X9 {s:D} {n:Nat} (G:Gs s n) {z:Int} {y:D} (hy:zD y) (h4:(y.hd 4).l.length<=n) (h5:(y.hd 5).l.length<=n) (hn:0<s.l.length):Gs (dL (iM s.l z y)) n:=by
 have ht:=U1 G.wd hn;refine⟨OD (fun x hx=>?_) (fun he=>?_) (by rw [kQ]; exact ht.few),fun x hx=>?_⟩
 ·rcases Vy hx with h|rfl
  ·exact G.wd.thing x h
  grind
 ·have:=kQ s.l z y
  grind
 ·rw [aY] at hx;rcases Vy hx with h|rfl
  ·exact G.rows x h
  grind
theorem Ve (s:D) (obj M:Int) (A:Act):(vZ s obj M A).l.length=s.l.length:=by
 cases A with
 |blk=>rfl
 |mis=>rfl
 |res o c dn g r v m a oc=>
  unfold vZ;rw [aY,kQ]
  cases m with
  |none=>rfl
  |some q=>exact kQ _ _ _
theorem Zj {s:D} {n:Nat} (G:Gs s n) {obj M:Int} {A:Act} (hA:Ot (n+1) A) (ho0:0<=obj) (ho1:obj<(s.l.length:Int)) (hM:NoM A\/0<=M/\M<(s.l.length:Int)):Gs (vZ s obj M A) (n+1):=by
 have G1:=G.mono (Nat.le_succ n)
 cases A with
 |blk=>exact G1
 |mis=>exact G1
 |res o c dn g r v m a oc=>
  obtain⟨h1,h2,h3,h4,h5,h6,h7,h8,h9,_⟩:=hA
  have hd:(if dn=0 then (0:Int) else 1)=dn:=by rcases h3 with rfl|rfl<;>rfl
  have hy:zD (dL [.i o,.i c,.i (if dn=0 then 0 else 1),.i g,r,v]):=⟨o,c,_,g,r,v,rfl,h1,h2,by rw [hd]; exact h3,h4,h5,h7⟩
  cases m with
  |none=>exact X9 G1 hy h6 h8 (by omega)
  |some q=>
   have hM:0<=M/\M<(s.l.length:Int):=hM.resolve_left (fun h=>by simp [NoM] at h);obtain⟨k,rfl⟩ : ∃k:Nat,M=(k:Int):=⟨M.toNat,by omega⟩;have hk:k<s.l.length:=by omega
   obtain⟨o',c',d',g',r',v',he,q1,q2,q3,q4,q5,q6⟩:=G.wd.thing _ (aCY hk);have hrw:=G1.rows _ (aCY hk);rw [he] at hrw;have hz:dL (iM (s.at (k:Int)).l 0 (.i q))=dL [.i q,.i c',.i d',.i g',r',v']:=by rw [bP hk,he]; rfl
   have G2:Gs (dL (iM s.l (k:Int) (dL (iM (s.at (k:Int)).l 0 (.i q))))) (n+1):=by rw [hz];exact X9 G1 ⟨q,c',d',g',r',v',rfl,h9 q rfl,q2,q3,q4,q5,q6⟩ hrw.1 hrw.2 (by omega)
   have:=X9 (z:=obj) G2 hy h6 h8 (by rw [aY,kQ]; omega);rw [aY] at this;exact this
theorem LG {s:D} {obj M:Int} {A:Act} {k:Nat} (h:(k:Int)≠obj) (hM:NoM A\/(k:Int)≠M):(vZ s obj M A).l[k]?=s.l[k]?:=by
 cases A with
 |blk=>rfl
 |mis=>rfl
 |res o c dn g r v m a oc=>
  unfold vZ;rw [aY,wJ h]
  cases m with
  |none=>rfl
  |some q=> have hM:(k:Int)≠M:=hM.resolve_left (fun h=>by simp [NoM] at h);exact wJ hM
def evA (th op obj:Int):Act->List Int
 | .blk=>[0,0,0,0,0,0]
 | .mis=>[th,27,obj,IntKind.i64.wrap op,0,2]
 | .res _ _ _ _ _ _ _ a oc=>[th,op,obj,a,0,oc]
theorem Zr (s:D) (th op obj M:Int) (A:Act):outA s th op obj M A=enc (vZ s obj M A)::evA th op obj A:=by cases A<;>rfl
def isB (p:Prop) (ys:List Int):Prop:= ∃b:Int,ys= [b]/\(b=0/\¬p\/b=1/\p)
theorem arD {p:Prop} (h: ¬p):isB p [0]:=⟨0,rfl,.inl ⟨rfl,h⟩⟩
theorem aAb {p:Prop} (h:p):isB p [1]:=⟨1,rfl,.inr ⟨rfl,h⟩⟩
def adQ:Act->Prop
 | .res _ _ _ _ _ _ _ a _=>pV .i64 a
 |_=>True
theorem adQ.ite {p:Prop} [Decidable p] {a b:Act} (ha:adQ a) (hb:adQ b):adQ (if p then a else b):=by
 grind
theorem axU {r:D} (h:Wd (.sl 0) r) (i:Nat):pV .i64 (r.at (i:Int)).n:=by
 by_cases hi:i<r.l.length
 ·rw [bP hi];obtain⟨n,hn,hk⟩:=(h.el1 rfl _ (aCY hi)).i;rw [hn];exact hk
 ·rw [Aw,aEe (by omega)];constructor<;>(simp only [aDR,XP]; omega)
theorem aBg {y:D} {M mo th op arg tries o c dn g:Int} {r v:D} (T:Tg y o c dn g r v) (hr:r.l.length<=140737488351232) (ha:pV .i64 arg):adQ (act M mo th op arg tries o c dn g r v):=by
 have hz:pV .i64 0:=⟨by omega,by omega⟩;have h1:pV .i64 1:=⟨by omega,by omega⟩;have w:=@wrap_in;have hv:=axU T.hv 0;have hl:pV .i64 (r.l.length:Int):=⟨by omega,by omega⟩;unfold act
 repeat' refine adQ.ite ?_ ?_
 all_goals first
  |trivial
  |exact hz
  |exact h1
  |exact w _
  |exact T.hc
  |exact ha
  |exact T.hg
  |exact hv
  |exact hl
theorem agV {d:D} {i:Int} (h0:0<=i) (h1:i<(d.l.length:Int)):d.at i∈d.l:=by
 obtain⟨k,rfl⟩ : ∃k:Nat,i=(k:Int):=⟨i.toNat,by omega⟩
 grind [bP]
structure Tried (d0 d1 s:D) (t op obj arg tries:Int) (n:Nat) (s':D) (e1 e2 e3 e4 e5 oc:Int):Prop where
 eq:L 400 [enc d0,enc d1,enc s,t,op,obj,arg,tries]=some [enc s',e1,e2,e3,e4,e5,oc]
 no:oc=0->s'=s/\e1=0/\e2=0/\e3=0/\e4=0/\e5=0
 oc3:oc=0\/oc=2\/oc=3
 gs:Gs s' (n+1)
 len:s'.l.length=s.l.length
 n2:s≠.i 2->s'≠.i 2
 e3:pV .i64 e3
 e4:pV .i64 e4
theorem try_any {d0 d1 s:D} {t op obj arg tries:Int} {n:Nat} (h0:Wd (.sl 3) d0) (h1:Wd (.sl 4) d1) (G:Gs s n) (hn:n<17592186043904) (ht:pV .i64 t) (hop:pV .u8 op) (hob:pV .i64 obj) (ha:pV .i64 arg) :
 ∃s' e1 e2 e3 e4 e5 oc,Tried d0 d1 s t op obj arg tries n s' e1 e2 e3 e4 e5 oc:=by
 have hf:=G.few (by omega:n<17592186044415);have z:pV .i64 0:=⟨by omega,by omega⟩;by_cases A:Acc d0 d1 s t op obj
 ·obtain⟨_,o,c,dn,g,r,v,T,hL⟩:=Y9 (arg:=arg) (tries:=tries) h0 h1 G.wd hf hop A;rw [Zr] at hL;have o0:=A.o0;have o1:=A.o1;obtain⟨i,rfl⟩ : ∃i:Nat,obj=(i:Int):=⟨obj.toNat,by omega⟩;have hi:i<s.l.length:=by omega
  have hrow:=G.rows _ (aCY hi);have e:s.l[i]=dL [.i o,.i c,.i dn,.i g,r,v]:=by rw [<- bP hi]; exact T.is
  rw [e] at hrow;have hA:=alC (M:=Mx d0 (i:Int)) (mo:=Mo d0 s (i:Int)) (op:=op) (tries:=tries) T (n:=n) hrow.1 hrow.2 (by omega) ht ha;have hE:=aBg (M:=Mx d0 (i:Int)) (mo:=Mo d0 s (i:Int)) (th:=t) (op:=op) (tries:=tries) T (by have:=hrow.1; have:r.l.length<=n:=this; omega) ha
  have hM:NoM (act (Mx d0 (i:Int)) (Mo d0 s (i:Int)) t op arg tries o c dn g r v)\/0<=Mx d0 (i:Int)/\Mx d0 (i:Int)<(s.l.length:Int):=by
   by_cases h:op=12\/op=24
   ·have:=Og h0 h1 G.wd hf hop A h;exact .inr ⟨this.1,this.2.1⟩
   ·exact .inl (Rq (by omega) (by omega))
  have hg:=Zj G hA o0 o1 hM;have hl:=Ve s (i:Int) (Mx d0 (i:Int)) (act (Mx d0 (i:Int)) (Mo d0 s (i:Int)) t op arg tries o c dn g r v);generalize act (Mx d0 (i:Int)) (Mo d0 s (i:Int)) t op arg tries o c dn g r v=B at *
  have hn2:s≠.i 2->vZ s (i:Int) (Mx d0 (i:Int)) B≠.i 2:=fun _ he=>by rw [he] at hl;have:(D.i 2).l.length=0:=rfl;omega
  cases B with
  |blk=>exact⟨s,0,0,0,0,0,0,hL,fun _=> ⟨rfl,rfl,rfl,rfl,rfl,rfl⟩,.inl rfl,hg,rfl,fun h=>h,z,z⟩
  |mis=>exact⟨s,t,27,_,_,0,2,hL,fun h=>absurd h (by omega),.inr (.inl rfl),hg,rfl,fun h=>h,hob,wrap_in _⟩
  |res o' c' NI g' r' v' m a oc=>exact⟨_,t,op,_,a,0,oc,hL,fun h=>by have:=hA.2.2.2.2.2.2.2.2.2; omega,.inr hA.2.2.2.2.2.2.2.2.2,hg,hl,hn2,hob,hE⟩
 ·exact⟨s,0,0,0,0,0,0,aeF h0 h1 G.wd hf hop A,fun _=> ⟨rfl,rfl,rfl,rfl,rfl,rfl⟩,.inl rfl,G.mono (Nat.le_succ n),rfl,fun h=>h,z,z⟩
def jQ (d0:D):D:=if d0.l.length=0 then .i 1 else dL (d0.l.map jZ)
theorem ahX {d0 d1:D} (h0:Wd (.sl 3) d0) (ok:Ih d0 d1):Gs (jQ d0) 0:=by
 unfold jQ;split
 ·exact⟨.nil 7,fun x hx=>by simp [D.l] at hx⟩
 ·refine⟨OD (fun x hx=>?_) (fun he=>?_) (by rw [aDz]; have:=ok.1; omega),fun x hx=>?_⟩
  ·obtain⟨y,hy,rfl⟩:=aC4.1 hx;obtain⟨kd,nm',ln,s1,s2,he,_,hnn,_⟩:=h0.decl y hy;rw [he];refine⟨-1,_,0,0,.i 1,.i 1,rfl,⟨by omega,by omega⟩,?_,.inl rfl,⟨by omega,by omega⟩,.nil 0,.nil 0⟩;split
   ·exact hnn
   ·exact⟨by omega,by omega⟩
  ·have:=congrArg List.length he;simp only [aDz,aC3] at this;omega
  ·rw [aY] at hx;obtain⟨y,hy,rfl⟩:=aC4.1 hx;exact⟨aCN 0,aCN 0⟩
end Go.As.Try
end

import Derived.Test.YtakeldbjhhiinaaGreatDoorCards
import Derived.Test.YtakeldbjhhiinaaGreatDoorTie
import Derived.ProofKit
import Derived.Deep.DeepHandedRow
import Derived.LaidLaws
import Derived.Test.YtakeldbjhhiinaaGreatDoorAsZS2
set_option linter.unusedSectionVars false
set_option linter.unusedVariables false
set_option linter.unusedSimpArgs false
section
namespace Go.As
noncomputable section
open Go.RowKit
mutual
def kN (h:Hp):AV->AV->Bool
 | .bool (.lit a),v=>match v with
   | .bool (.lit b)=>a == b
   |_=>false
 | .int k (.lit a),v=>match v with
   | .int k' (.lit b)=>decide (k=k')&&decide (a=b)
   |_=>false
 | .str s,v=>match v with
   | .str t=>jT s t
   |_=>false
 | .aA,v=>match v with
   | .aA=>true
   |_=>false
 | .agg ks,v=>match v with
   | .agg cs=>Nat.beq ks.length cs.length&&Af h ks cs
   |_=>false
 | .ro ks n false,v=>match v with
   | .slice id off len _=>match Nat.beq n len with
     |true=>match n with
      |0=>false
      |_=>match h.get id with
       |some (.cells cs _)=>match fQ off cs with
        |some l=>Af h ks l
        |none=>false
       |_=>false
     |false=>false
   | .ro cs m _=>Nat.beq n m&&Af h ks cs
   |_=>false
 |_,_=>false
def Af (h:Hp):List AV->List AV->Bool
 |[],_=>true
 |k::ks,l=>match l with
  |v::vs=>match kN h k v with
   |true=>Af h ks vs
   |false=>false
  |[]=>false
end
def Tn (h:Hp) (aIP:List AV):List (List AV×AV)->Option AV
 |[]=>none
 |(k,v)::l=>match Nat.beq k.length aIP.length with
  |true=>match Af h k aIP with
   |true=>some v
   |false=>Tn h aIP l
  |false=>Tn h aIP l
def afI (tbl:List (List AV×AV)):List AV->St->T (AV×St):=fun aIP s=>match Tn s.h aIP tbl with
 |some v=> .ret (v,s)
 |none=> .fail
def VJ (key:List AV) (v:AV) (f:List AV->St->T (AV×St)):Bool:=
 kG v&&(match f key ⟨.nil,Hp.zero,[]⟩ with | .ret (u,_)=>fD u v|_=>false)
section
variable {P:Program}
mutual
theorem ajM [Glob] {E:En} {H:Hp} {w:World} (r:bJ E H w) (ρ:Nat->Int): ∀(key v:AV) (u:Value),kN H key v=true->VR E w.heap v u->VR (En.zero ρ (fun b=>b<w.heap.size)) w.heap key u
 | .bool b,v,u,hm,hv=>by
   cases b<;>simp only [kN,aI9] at hm;split at hm
   ·simp only [beq_iff_eq] at hm;subst hm;simpa [VR,SB.den] using hv
   ·simp at hm
 | .int k e,v,u,hm,hv=>by
   cases e<;>simp only [kN,aI9] at hm;split at hm
   ·simp only [aIU,decide_eq_true_eq] at hm;obtain⟨rfl,rfl⟩:=hm;simpa [VR,SE.den] using hv
   ·simp at hm
 | .str s,v,u,hm,hv=>by
   simp only [kN] at hm;split at hm
   ·have:=(qL _ _).1 hm;subst this;simpa only [VR] using hv
   ·simp at hm
 | .aA,v,u,hm,hv=>by
   simp only [kN] at hm;split at hm
   ·simpa only [VR] using hv
   ·simp at hm
 | .agg ks,v,u,hm,hv=>by
   simp only [kN] at hm;split at hm
   ·rename_i cs;simp only [aIU] at hm;simp only [VR] at hv ⊢;obtain⟨us,rfl,h2⟩:=hv;obtain⟨h3,h4⟩:=yV r ρ ks cs us hm.2 h2;have e:=aIW hm.1;rw [e,<- h2.length,aKx] at h3;exact⟨us,rfl,h3⟩
   ·simp at hm
 | .ro ks n true,v,u,hm,hv=>by simp [kN] at hm
 | .ro ks n false,v,u,hm,hv=>by
   simp only [kN] at hm;split at hm
   ·rename_i id off len c;split at hm
    ·rename_i hn;have hn:=aIW hn;subst hn;split at hm
     ·simp at hm
     ·rename_i hn0;split at hm
      ·rename_i cs e hg;split at hm
       ·rename_i l hl;simp only [VR] at hv ⊢;obtain⟨hd,a,cap,rfl,hle,hcap⟩:=hv;obtain⟨_,ho,_⟩:=r.live id _ hg;simp only [OR] at ho;obtain⟨arr,lo,hi,us,hb,h2,h3,_,_,_,h7⟩:=ho;obtain⟨q1,q2,q3⟩:=h2.fQ hl;obtain⟨p1,p2⟩:=yV r ρ ks l _ hm q1
        have ha:a=⟨(E.θ id).1,(E.θ id).2+off,none⟩:=by
         cases c with
         |exact c=>
          simp only [gG] at hcap;rcases hcap.2 with h|h
          ·exact h
          ·exact absurd (by omega) hn0
         |rest es=>
          simp only [gG] at hcap;rcases hcap with h|h
          ·exact h.1
          ·exact absurd (by omega) hn0
        subst ha;have hlt:(E.θ id).1<w.heap.size:=(aJn.1 hb).1;refine⟨_,_,cap,_,rfl,hle,by simp,hlt,p1,?_,?_⟩
        ·intro i x hx
         have hx':us[off+i]?=some x:=by
          rw [aJX] at hx;split at hx
          ·rw [aJ7] at hx; exact hx
          ·simp at hx
         have:=h3 _ _ hx';unfold hcell;rw [hb];simp only;rw [<- this];congr 1;omega
        ·intro x hx;exact h7 x (aJv (aJA hx))
       ·simp at hm
      ·simp at hm
    ·simp at hm
   ·rename_i cs m f;simp only [aIU] at hm;have hn:=aIW hm.1;subst hn;simp only [VR] at hv ⊢;obtain⟨b,o,cap,us,rfl,h2,h3,h4,h5,h6,h7⟩:=hv;obtain⟨p1,p2⟩:=yV r ρ ks cs _ hm.2 h5;refine⟨b,o,cap,_,rfl,h2,by simp,r.Cc b h4,p1,?_,fun x hx=>h7 x (aJA hx)⟩;intro i x hx;rw [aJX] at hx;split at hx
    ·exact h6 i x hx
    ·simp at hx
   ·simp at hm
 | .ptr _ _,v,u,hm,_=>by simp [kN] at hm
 | .kX,v,u,hm,_=>by simp [kN] at hm
 | .sD _,v,u,hm,_=>by simp [kN] at hm
 | .slice _ _ _ _,v,u,hm,_=>by simp [kN] at hm
 | .map _,v,u,hm,_=>by simp [kN] at hm
 | .qH,v,u,hm,_=>by simp [kN] at hm
 | .func _ _ _,v,u,hm,_=>by simp [kN] at hm
 | .CJ,v,u,hm,_=>by simp [kN] at hm
 | .iface _ _,v,u,hm,_=>by simp [kN] at hm
 | .FD,v,u,hm,_=>by simp [kN] at hm
 | .tuple _,v,u,hm,_=>by simp [kN] at hm
 | .opq _,v,u,hm,_=>by simp [kN] at hm
 | .inp _ _,v,u,hm,_=>by simp [kN] at hm
theorem yV [Glob] {E:En} {H:Hp} {w:World} (r:bJ E H w) (ρ:Nat->Int): ∀(ks vs:List AV) (us:List Value),Af H ks vs=true->bQ E w.heap vs us->
 bQ (En.zero ρ (fun b=>b<w.heap.size)) w.heap ks (us.take ks.length)/\ks.length<=us.length
 |[],vs,us,_,_=>by simp [bQ]
 |k::ks,[],us,hm,_=>by simp [Af] at hm
 |k::ks,v::vs,us,hm,hv=>by
  simp only [Af] at hm;split at hm
  ·rename_i h1;rw [bG] at hv;obtain⟨u,us',rfl,hu,hus⟩:=hv;obtain⟨p1,p2⟩:=yV r ρ ks vs us' hm hus;rw [aI5,aJW,bG];exact⟨⟨u,_,rfl,ajM r ρ k v u h1 hu,p1⟩,by simp; exact p2⟩
  ·simp at hm
end
theorem Oj {h:Hp} {aIP:List AV} {v:AV}: ∀{tbl:List (List AV×AV)},Tn h aIP tbl=some v->∃k,(k,v)∈tbl/\k.length=aIP.length/\Af h k aIP=true
 |[],hl=>by simp [Tn] at hl
 |(k,x)::l,hl=>by
  simp only [Tn] at hl;split at hl
  ·rename_i h1;split at hl
   ·rename_i h2;simp only [aIS] at hl;subst hl;exact⟨k,by simp,aIW h1,h2⟩
   ·obtain⟨k',h1,h2⟩:=Oj hl;exact⟨k',by simp [h1],h2⟩
  ·obtain⟨k',h1,h2⟩:=Oj hl;exact⟨k',by simp [h1],h2⟩
theorem XW [Glob] {g:FuncId} {f:List AV->St->T (AV×St)} (hf:nT P g f) {fn:Func} (hfn:P.funcs[g]?=some fn) (hname:(fn.name == "runtime.NumGoroutine")=false) {c:Code} (hb:fn.body=some c)
 {tbl:List (List AV×AV)} (h: ∀p∈tbl,VJ p.1 p.2 f=true):nT P g (afI tbl):=by
 intro aIP s E w vals u s' r hv hp hl;unfold afI at hl;split at hl
 ·rename_i v hlook;have:=aG hl;simp only [aIT] at this;obtain⟨rfl,rfl⟩:=this;obtain⟨k,hmem,hlen,aH5⟩:=Oj hlook;have hk:=h _ hmem;unfold VJ at hk;simp only [aIU] at hk;obtain⟨h2,h3⟩:=hk;split at h3
  ·rename_i u' s1 hrun;have hu:=oM _ _ h3;subst hu;obtain⟨p1,_⟩:=yV r E.ρ k aIP vals aH5 hv;rw [hlen,<- hv.length,aKx] at p1;have hgl:Glob.ok E.ρ (fun b=>b<w.heap.size) w.heap:=Glob.keep r.glob r.Cc fun _ _=>rfl;have hc:=Ip hf hfn hname hb (ρ:=E.ρ) (ro:=fun b=>b<w.heap.size) (w:=w) (fun _ h=>h) hgl p1 (v:=u') (s':=s1) (by rw [hrun]; rfl);refine⟨rfl,hp,?_⟩
   have hrun:(callFunc g vals.toArray).run P w= .ok (.enter g vals.toArray) w:=by unfold callFunc;simp [hfn,hb,by simpa using hname]
   unfold vH vG;rw [hrun];exact Calls.mono hc fun e w' ⟨x,E',he,hx,_,hbl⟩=> ⟨x,he,E,(Et r hbl).1,(Et r hbl).2,Ej u' x h2 hx⟩
  ·simp at h3
 ·simp [T.leaf] at hl
end
end
end Go.As
end
section
namespace Go.As.Try
open Go Go.As Go.Proofs Go.RowKit
set_option maxRecDepth 100000
def maxLen:Nat:=Tryz.laysM144_ren.g 1
def base:Zh where
 ok ro h:=ro maxLen/\∃m,hcell h maxLen 0=some (.int .i64 m)
 keep:=by intro ro ro' h h' hk h1 h2;obtain⟨a,m,hm⟩:=hk;refine⟨h1 _ a,m,?_⟩;unfold hcell at *;rw [h2 _ a];exact hm
noncomputable def tt0:TT:=lim 283 tab
noncomputable def ft:Nat->Option Func:=lim 226 VL
def owns:List (Nat×Nat):=[(22,3),(23,4),(26,0),(27,0),(32,9),(33,7),(34,8),(49,2),(50,5),(55,6),(190,14),(243,14),(134,1),(195,0),(235,1)]
noncomputable def ttE:TT:=XO owns tt0
noncomputable def hints:Nat->Nat->Option UJ:=hAt htab
theorem MJ:eX Tryz.prog tt0:=awW alW
theorem alX:eX Tryz.prog ttE:=ayS MJ
theorem agI:alB Tryz.prog (WM tt0 hints) ft:=azT Yk arG
theorem aDZ:alB Tryz.prog (WM ttE hints) ft:=by unfold ttE; rw [avN]; exact agI
def b (n:Nat):AV:=.int .u8 (.lit (.ofNat n))
def PU:AV:=.agg [b 0,b 0,b 0,b 0,b 0,b 0,b 0,b 0,b 0,b 1,b 1,b 0,b 0,b 1,b 0,b 0,b 0,b 0,b 0,b 0,b 0,b 0,b 0,b 0,b 0,b 0,b 0,b 0,b 0,b 0,b 0,b 0,b 1,b 0,b 0,b 2,b 0,b 0,b 0,b 0,b 5,b 5,b 5,b 5,b 0,b 5,b 0,b 0,b 3,b 3,b 3,b 3,b 3,b 3,b 3,b 3,b 3,b 3,b 0,b 5,b 5,b 5,b 0,b 0,b 0,b 4,b 4,b 4,b 4,b 4,b 4,b 4,b 4,b 4,b 4,b 4,b 4,b 4,b 4,b 4,b 4,b 4,b 4,b 4,b 4,b 4,b 4,b 4,b 4,b 4,b 4,b 0,b 0,b 0,b 0,b 4,b 0,b 4,b 4,b 4,b 4,b 4,b 4,b 4,b 4,b 4,b 4,b 4,b 4,b 4,b 4,b 4,b 4,b 4,b 4,b 4,b 4,b 4,b 4,b 4,b 4,b 4,b 4,b 5,b 0,b 5,b 0,b 0,b 0,b 0,b 0,b 0,b 0,b 0,b 0,b 0,b 0,b 0,b 0,b 0,b 0,b 0,b 0,b 0,b 0,b 0,b 0,b 0,b 0,b 0,b 0,b 0,b 0,b 0,b 0,b 0,b 0,b 0,b 0,b 0,b 0,b 0,b 0,b 0,b 0,b 0,b 0,b 0,b 0,b 0,b 0,b 0,b 0,b 0,b 0,b 0,b 0,b 0,b 0,b 0,b 0,b 0,b 0,b 0,b 0,b 0,b 0,b 0,b 0,b 0,b 0,b 0,b 0,b 0,b 0,b 0,b 0,b 0,b 0,b 0,b 0,b 0,b 0,b 0,b 0,b 0,b 0,b 0,b 0,b 0,b 0,b 0,b 0,b 0,b 0,b 0,b 0,b 0,b 0,b 0,b 0,b 0,b 0,b 0,b 0,b 0,b 0,b 0,b 0,b 0,b 0,b 0,b 0,b 0,b 0,b 0,b 0,b 0,b 0,b 0,b 0,b 0,b 0,b 0,b 0,b 0,b 0,b 0,b 0,b 0,b 0,b 0,b 0,b 0,b 0,b 0]
theorem Hu {g:Nat} {f:Func} (h:VL.get g=some f) (hg:g<226):Tryz.prog.funcs[g]?=some f:=by have:=congrArg (fun l=>l[g]?) Yk;simp only [aJi,aKc hg,aJw,aIS] at this;rw [<- this];exact h
theorem aDj {g:Nat} {f:Func} (hf:Tryz.prog.funcs[g]?=some f) (hn:(f.name == "runtime.NumGoroutine")=false) (hb:f.body.isNone=false): ∀(args:Array Value) (w:World),(callFunc g args).run Tryz.prog w= .ok (.enter g args) w:=by intro args w;unfold callFunc;simp only [Sem.run_bind,run_program,Result.andThen_ok,hf];rw [hn,hb];simp
def agD (g:Nat):Option (List AV->St->T (AV×St)):=
 match Nat.beq g 172 with
 |true=>some Aq
 |false=>match Nat.beq g 192 with
  |true=>some Ap
  |false=>match Nat.beq g 120 with
   |true=>some sU
   |false=>none
theorem aDl:Tryz.laysM144_ren.f 144=120:=by kernel_rfl
section
variable (I:Glob) (hI: ∀ρ ro h,I.ok ρ ro h->base.ok ro h)
theorem f172:@nT I Tryz.prog 172 Aq:=@akU _ I 172 Tryz.f172 (Hu (by kernel_rfl) (by decide)) (by kernel_rfl) (by kernel_rfl) (by kernel_rfl) (by kernel_rfl)
theorem f192:@nT I Tryz.prog 192 Ap:=@ajT _ I 192 Tryz.f192 (Hu (by kernel_rfl) (by decide)) (by kernel_rfl) (by kernel_rfl) (by kernel_rfl) (by kernel_rfl)
include hI in
theorem f120:@nT I Tryz.prog 120 sU:=by letI:=I;refine WH ?_ (aDj (f:=Tryz.f120) (Hu (by kernel_rfl) (by decide)) (by kernel_rfl) (by kernel_rfl));intro ρ ro w hw s sub hs;obtain⟨_,m,hm⟩:=hI _ _ _ hw;have:=Any.strings_Contains { Tryz.laysM144 with } s sub m w hs (by rw [uN]; exact hm);rw [aDl] at this;exact this
include hI in
theorem Yh: ∀(g:Nat) (h:List AV->St->T (AV×St)),agD g=some h->@nT I Tryz.prog g h:=by
 intro g h hh;unfold agD at hh;split at hh
 ·rename_i hg;have:=aIW hg;subst this;simp at hh;subst hh;exact f172 I
 ·split at hh
  ·rename_i hg;have:=aIW hg;subst this;simp at hh;subst hh;exact f192 I
  ·split at hh
   ·rename_i hg;have:=aIW hg;subst this;simp at hh;subst hh;exact f120 I hI
   ·simp at hh
end
noncomputable def aFQ (g:Nat):List AV->St->T (AV×St):=V5 tt0 ft agD (Ug tt0 hints) 100000 60 g
theorem ayG (I:Glob) (hI: ∀ρ ro h,I.ok ρ ro h->base.ok ro h) (g:Nat):@nT I Tryz.prog g (aFQ g):=@Ia _ I _ MJ _ _ agI _ (Yh I hI) _ (fun _ hc=>@Ie _ I _ MJ mixed _ _ hc) 100000 60 g
theorem YZ:gives [] PU (aFQ 115)=true:=by kernel_rfl
theorem Es {f:Func} (h:f.body.isSome=true): ∃c,f.body=some c:=aJ3.1 h
theorem acP (I:Glob) (hI: ∀ρ ro h,I.ok ρ ro h->base.ok ro h):@nT I Tryz.prog 115 (memo [] PU):=by letI:=I;obtain⟨c,hb⟩:=Es (f:=Tryz.f115) (by kernel_rfl);exact LM (ayG I hI 115) (fn:=Tryz.f115) (Hu (by kernel_rfl) (by decide)) (by kernel_rfl) hb YZ
def Yg (g:Nat):Option (List AV->St->T (AV×St)):=
 match Nat.beq g 115 with
 |true=>some (memo [] PU)
 |false=>agD g
theorem OG (I:Glob) (hI: ∀ρ ro h,I.ok ρ ro h->base.ok ro h): ∀(g:Nat) (h:List AV->St->T (AV×St)),Yg g=some h->@nT I Tryz.prog g h:=by
 intro g h hh;unfold Yg at hh;split at hh
 ·rename_i hg;have:=aIW hg;subst this;simp at hh;subst hh;exact acP I hI
 ·exact Yh I hI g h hh
noncomputable def aaA (g:Nat):List AV->St->T (AV×St):=V5 tt0 ft Yg (Ug tt0 hints) 100000 60 g
theorem DL (I:Glob) (hI: ∀ρ ro h,I.ok ρ ro h->base.ok ro h) (g:Nat):@nT I Tryz.prog g (aaA g):=@Ia _ I _ MJ _ _ agI _ (OG I hI) _ (fun _ hc=>@Ie _ I _ MJ mixed _ _ hc) 100000 60 g
theorem aDw:gives [.str [97]] (.bool (.lit true)) (aaA 90)=true:=by kernel_rfl
theorem aDv:gives [.str [98]] (.bool (.lit true)) (aaA 90)=true:=by kernel_rfl
def afS:List AV:=[.agg [.ro [.int .u8 (.lit 1),.str [109],.int .i64 (.lit 0),.str [],.int .i64 (.lit 1)] 1 false,.ro [.str [97],.ro [.int .u8 (.lit 1),.int .u8 (.lit 1),.str [109],.str [],.int .i64 (.lit 0),.aA,.aA,.aA,.int .i64 (.lit 1)] 1 false,.int .i64 (.lit 1),.str [98],.ro [.int .u8 (.lit 1),.int .u8 (.lit 1),.str [109],.str [],.int .i64 (.lit 0),.aA,.aA,.aA,.int .i64 (.lit 1)] 1 false,.int .i64 (.lit 1)] 2 false]]
theorem aGa:VJ afS (.agg [.int .i64 (.lit 0),.int .i64 (.lit 0)]) (aaA 56)=true:=by kernel_rfl
def afP:List (List AV×AV):=[(afS,.agg [.int .i64 (.lit 0),.int .i64 (.lit 0)])]
def afT:List AV:=[.agg [.ro [.int .u8 (.lit 1),.str [109],.int .i64 (.lit 0),.str [],.int .i64 (.lit 1)] 1 false,.ro [.str [97],.aA,.ro [.int .u8 (.lit 1),.int .u8 (.lit 1),.int .i64 (.lit 0),.int .i64 (.lit (-1)),.int .i64 (.lit 0),.int .i64 (.lit 0),.aA] 1 false,.str [98],.aA,.ro [.int .u8 (.lit 1),.int .u8 (.lit 1),.int .i64 (.lit 0),.int .i64 (.lit (-1)),.int .i64 (.lit 0),.int .i64 (.lit 0),.aA] 1 false] 2 false]]
theorem aGb:VJ afT (.int .i64 (.lit 0)) (aaA 45)=true:=by kernel_rfl
def afQ:List (List AV×AV):=[(afT,.int .i64 (.lit 0))]
noncomputable def aqV (g:Nat):Option (List AV->St->T (AV×St)):=
 match Nat.beq g 56 with
 |true=>some (orElse (afI afP) (aaA 56))
 |false=>match Nat.beq g 45 with
 |true=>some (orElse (afI afQ) (aaA 45))
 |false=>Yg g
theorem aqU (I:Glob) (hI: ∀ρ ro h,I.ok ρ ro h->base.ok ro h): ∀(g:Nat) (h:List AV->St->T (AV×St)),aqV g=some h->@nT I Tryz.prog g h:=by
 intro g h hh;letI:=I;unfold aqV at hh;split at hh
 ·rename_i hg;have:=aIW hg;subst this;simp only [aIS] at hh;subst hh;obtain⟨c,hb⟩:=Es (f:=Tryz.f56) (by kernel_rfl);refine DV (XW (DL I hI 56) (fn:=Tryz.f56) (Hu (by kernel_rfl) (by decide)) (by kernel_rfl) hb fun p hp=>?_) (DL I hI 56);simp only [afP,aI3,aJG,or_false] at hp;rcases hp with rfl
  ·exact aGa
 ·skip;split at hh
  ·rename_i hg;have:=aIW hg;subst this;simp only [aIS] at hh;subst hh;obtain⟨c,hb⟩:=Es (f:=Tryz.f45) (by kernel_rfl);refine DV (XW (DL I hI 45) (fn:=Tryz.f45) (Hu (by kernel_rfl) (by decide)) (by kernel_rfl) hb fun p hp=>?_) (DL I hI 45);simp only [afQ,aI3,aJG,or_false] at hp;rcases hp with rfl
   ·exact aGb
  ·skip;exact OG I hI g h hh
noncomputable def aFP (g:Nat):List AV->St->T (AV×St):=V5 tt0 ft aqV (Ug tt0 hints) 100000 60 g
theorem ayF (I:Glob) (hI: ∀ρ ro h,I.ok ρ ro h->base.ok ro h) (g:Nat):@nT I Tryz.prog g (aFP g):=@Ia _ I _ MJ _ _ agI _ (aqU I hI) _ (fun _ hc=>@Ie _ I _ MJ mixed _ _ hc) 100000 60 g
theorem acR:gives [] (.bool (.lit true)) (aFP 6)=true:=by kernel_rfl
section
variable (I:Glob) (hI: ∀ρ ro h,I.ok ρ ro h->base.ok ro h)
include hI
theorem ajL:@nT I Tryz.prog 90 (memo [.str [97]] (.bool (.lit true))):=by letI:=I;obtain⟨c,hb⟩:=Es (f:=Tryz.f90) (by kernel_rfl);exact LM (DL I hI 90) (fn:=Tryz.f90) (Hu (by kernel_rfl) (by decide)) (by kernel_rfl) hb aDw
theorem ajK:@nT I Tryz.prog 90 (memo [.str [98]] (.bool (.lit true))):=by letI:=I;obtain⟨c,hb⟩:=Es (f:=Tryz.f90) (by kernel_rfl);exact LM (DL I hI 90) (fn:=Tryz.f90) (Hu (by kernel_rfl) (by decide)) (by kernel_rfl) hb aDv
theorem akY:@nT I Tryz.prog 6 (memo [] (.bool (.lit true))):=by letI:=I;obtain⟨c,hb⟩:=Es (f:=Tryz.f6) (by kernel_rfl);exact LM (ayF I hI 6) (fn:=Tryz.f6) (Hu (by kernel_rfl) (by decide)) (by kernel_rfl) hb acR
end
def abA (g:Nat):Option (List AV->St->T (AV×St)):=
 match Nat.beq g 6 with
  |true=>some (memo [] (.bool (.lit true)))
  |false=>match Nat.beq g 90 with
  |true=>some (orElse (memo [.str [97]] (.bool (.lit true))) (memo [.str [98]] (.bool (.lit true))))
  |false=>Yg g
theorem ajU (I:Glob) (hI: ∀ρ ro h,I.ok ρ ro h->base.ok ro h): ∀(g:Nat) (h:List AV->St->T (AV×St)),abA g=some h->@nT I Tryz.prog g h:=by
 intro g h hh;unfold abA at hh;split at hh
 ·rename_i hg;have:=aIW hg;subst this;simp at hh;subst hh;exact akY I hI
 ·skip;split at hh
  ·rename_i hg;have:=aIW hg;subst this;simp at hh;subst hh;letI:=I;exact DV (ajL I hI) (ajK I hI)
  ·exact OG I hI g h hh
end Go.As.Try
end
section
namespace Go.As.Try
open Go hiding Stat Spec shape
open Go.As Go.Proofs
set_option maxRecDepth 100000
abbrev aI (n:Nat):AV:=.int .i64 (.aO n)
abbrev aJ (n:Int):AV:=.int .i64 (.lit n)
abbrev aU (n:Nat):AV:=.int .u8 (.aO n)
abbrev aD (n t:Nat):AV:=.dat (.aO n) t
abbrev aS (n:Nat):AV:=.nI (.aO n)
abbrev aB (n:Nat):AV:=.bool (.not (.eq (.aO n) (.lit 0)))
abbrev aV (b n t:Nat):AV:=.vY b (.op .len (.aO n) (.lit 0)) t
abbrev aE (n t:Nat):AV:=.IQ (.aO n) t
def cT0:List Int:=[0,0,0,0,0,0,0,0,0,1,1,0,0,1,0,0,0,0,0,0,0,0,0,0,0,0,0,0,0,0,0,0,1,0,0,2,0,0,0,0,5,5,5,5,0,5,0,0,3,3,3,3,3,3,3,3,3,3,0,5,5,5,0,0,0,4,4,4,4,4,4,4,4,4,4,4,4,4,4,4,4,4,4,4,4,4,4,4,4,4,4,0,0,0,0,4,0,4,4,4,4,4,4,4,4,4,4,4,4,4,4,4,4,4,4,4,4,4,4,4,4,4,4,5,0,5,0,0,0,0,0,0,0,0,0,0,0,0,0,0,0,0,0,0,0,0,0,0,0,0,0,0,0,0,0,0,0,0,0,0,0,0,0,0,0,0,0,0,0,0,0,0,0,0,0,0,0,0,0,0,0,0,0,0,0,0,0,0,0,0,0,0,0,0,0,0,0,0,0,0,0,0,0,0,0,0,0,0,0,0,0,0,0,0,0,0,0,0,0,0,0,0,0,0,0,0,0,0,0,0,0,0,0,0,0,0,0,0,0,0,0,0,0,0,0,0,0,0,0,0,0,0,0,0,0,0]
def aD4:FE:=⟨9000,107,[],[],some (⟨2,[(0,aD 1 7) ],[],[],.lit 0⟩,[],0),[⟨2,[(0,aV 0 1 7)],[.vec (.aO 1) 7 143 []],[],.lit 0⟩,⟨1,[(0,.aA) ],[],[],.lit 0⟩,⟨1,[(0,.slice 0 0 0 (.exact 0))],[.cells [] 143 ],[],.lit 0⟩,⟨8,[(0,aV 0 1 7)],[.vec (.aO 1) 7 143 [(.aO 0,[aI 2,aI 3,aB 4,aI 5,aV 1 6 0,aV 2 7 0])],
 .vec (.aO 6) 0 3 [],
 .vec (.aO 7) 0 2 []],[],.aO 0⟩,⟨8,[(0,aV 0 1 7)],[.vec (.aO 1) 7 143 [(.aO 0,[aI 2,aI 3,aB 4,aI 5,aV 1 6 0,aE 7 0])],
 .vec (.aO 6) 0 3 []],[],.aO 0⟩,⟨8,[(0,aV 0 1 7)],[.vec (.aO 1) 7 143 [(.aO 0,[aI 2,aI 3,aB 4,aI 5,aE 6 0,aV 1 7 0])],
 .vec (.aO 7) 0 2 []],[],.aO 0⟩,⟨8,[(0,aV 0 1 7)],[.vec (.aO 1) 7 143 [(.aO 0,[aI 2,aI 3,aB 4,aI 5,aE 6 0,aE 7 0])]],[],.aO 0⟩],[(3,1)],[11],1,[(8,0)],[],
 [([0,1,0,1,1],⟨4,[(0,aV 0 1 7),(7,aI 2),(8,aI 3)],[.vec (.aO 1) 7 143 []],[],.lit 0⟩),([0,1,0,1,1],⟨1,[(0,.aA),(7,aJ 0),(8,aJ 0) ],[],[],.lit 0⟩),([0,1,0,1,1],⟨1,[(0,.slice 0 0 0 (.exact 0)),(7,aJ 0),(8,aJ 0)],[.cells [] 143 ],[],.lit 0⟩),([0,1,0,1,1],⟨10,[(0,aV 0 1 7),(7,aI 2),(8,aI 3)],[.vec (.aO 1) 7 143 [(.aO 0,[aI 4,aI 5,aB 6,aI 7,aV 1 8 0,aV 2 9 0])],
  .vec (.aO 8) 0 3 [],
  .vec (.aO 9) 0 2 []],[],.lit 0⟩),([0,1,0,1,1],⟨10,[(0,aV 0 1 7),(7,aI 2),(8,aI 3)],[.vec (.aO 1) 7 143 [(.aO 0,[aI 4,aI 5,aB 6,aI 7,aV 1 8 0,aE 9 0])],
  .vec (.aO 8) 0 3 []],[],.lit 0⟩),([0,1,0,1,1],⟨10,[(0,aV 0 1 7),(7,aI 2),(8,aI 3)],[.vec (.aO 1) 7 143 [(.aO 0,[aI 4,aI 5,aB 6,aI 7,aE 8 0,aV 1 9 0])],
  .vec (.aO 9) 0 2 []],[],.lit 0⟩),([0,1,0,1,1],⟨10,[(0,aV 0 1 7),(7,aI 2),(8,aI 3)],[.vec (.aO 1) 7 143 [(.aO 0,[aI 4,aI 5,aB 6,aI 7,aE 8 0,aE 9 0])]],[],.lit 0⟩)]⟩
def aD3:FE:=⟨9050,40,[],[],some (⟨3,[(0,.agg [aD 1 7,aD 2 8]) ],[],[],.lit 0⟩,[],0),[⟨3,[(0,.agg [aD 1 7,aV 0 2 8])],[.vec (.aO 2) 8 100 []],[],.lit 0⟩,⟨2,[(0,.agg [aD 1 7,.aA]) ],[],[],.lit 0⟩,⟨2,[(0,.agg [aD 1 7,.slice 0 0 0 (.exact 0)])],[.cells [] 100 ],[],.lit 0⟩,⟨9,[(0,.agg [aD 1 7,aV 0 2 8])],[.vec (.aO 2) 8 100 [(.aO 0,[aI 3,aV 1 4 0,aU 5,aI 6,aI 7,aI 8])],
 .vec (.aO 4) 0 2 []],[],.aO 0⟩,⟨9,[(0,.agg [aD 1 7,aV 0 2 8])],[.vec (.aO 2) 8 100 [(.aO 0,[aI 3,aE 4 0,aU 5,aI 6,aI 7,aI 8])]],[],.aO 0⟩],[(2,0)],[10],1,[(44,0)],[(0,0,7)],
 [([0,1,0,1,1],⟨5,[(1,.ptr 0 0),(2,.ptr 1 0),(16,aI 1),(17,aI 2)],[.cells [aV 2 3 7,aV 3 4 8] 36,
  .cells [.aA,.aA] 36,
  .vec (.aO 3) 7 143 [],
  .vec (.aO 4) 8 100 []],[],.lit 0⟩),([0,1,0,1,1],⟨4,[(1,.ptr 0 0),(2,.ptr 1 0),(16,aI 1),(17,aI 2)],[.cells [aV 2 3 7,.aA] 36,
  .cells [.aA,.aA] 36,
  .vec (.aO 3) 7 143 []],[],.lit 0⟩),([0,1,0,1,1],⟨4,[(1,.ptr 0 0),(2,.ptr 1 0),(16,aI 1),(17,aI 2)],[.cells [aV 2 3 7,.slice 3 0 0 (.exact 0)] 36,
  .cells [.aA,.aA] 36,
  .vec (.aO 3) 7 143 [],
  .cells [] 100 ],[],.lit 0⟩),([0,1,0,1,1],⟨2,[(1,.ptr 0 0),(2,.ptr 1 0),(16,aJ 0),(17,aJ 0)],[.cells [.aA,aV 2 1 8] 36,
  .cells [.aA,.aA] 36,
  .vec (.aO 1) 8 100 []],[],.lit 0⟩),([0,1,0,1,1],⟨1,[(1,.ptr 0 0),(2,.ptr 1 0),(16,aJ 0),(17,aJ 0)],[.cells [.aA,.aA] 36,
  .cells [.aA,.aA] 36 ],[],.lit 0⟩),([0,1,0,1,1],⟨1,[(1,.ptr 0 0),(2,.ptr 1 0),(16,aJ 0),(17,aJ 0)],[.cells [.aA,.slice 2 0 0 (.exact 0)] 36,
  .cells [.aA,.aA] 36,
  .cells [] 100 ],[],.lit 0⟩),([0,1,0,1,1],⟨2,[(1,.ptr 0 0),(2,.ptr 1 0),(16,aJ 0),(17,aJ 0)],[.cells [.slice 2 0 0 (.exact 0),aV 3 1 8] 36,
  .cells [.aA,.aA] 36,
  .cells [] 143,
  .vec (.aO 1) 8 100 []],[],.lit 0⟩),([0,1,0,1,1],⟨1,[(1,.ptr 0 0),(2,.ptr 1 0),(16,aJ 0),(17,aJ 0)],[.cells [.slice 2 0 0 (.exact 0),.aA] 36,
  .cells [.aA,.aA] 36,
  .cells [] 143 ],[],.lit 0⟩),([0,1,0,1,1],⟨1,[(1,.ptr 0 0),(2,.ptr 1 0),(16,aJ 0),(17,aJ 0)],[.cells [.slice 2 0 0 (.exact 0),.slice 3 0 0 (.exact 0)] 36,
  .cells [.aA,.aA] 36,
  .cells [] 143,
  .cells [] 100 ],[],.lit 0⟩),([0,1,0,1,1,1],⟨5,[(1,.ptr 0 0),(2,.ptr 1 0),(43,aI 1),(44,aI 2)],[.cells [aV 2 3 7,aV 3 4 8] 36,
  .cells [.aA,.aA] 36,
  .vec (.aO 3) 7 143 [],
  .vec (.aO 4) 8 100 []],[],.lit 0⟩),([0,1,0,1,1,1],⟨2,[(1,.ptr 0 0),(2,.ptr 1 0),(43,aJ 0),(44,aJ 0)],[.cells [aV 2 1 7,.aA] 36,
  .cells [.aA,.aA] 36,
  .vec (.aO 1) 7 143 []],[],.lit 0⟩),([0,1,0,1,1,1],⟨2,[(1,.ptr 0 0),(2,.ptr 1 0),(43,aJ 0),(44,aJ 0)],[.cells [aV 2 1 7,.slice 3 0 0 (.exact 0)] 36,
  .cells [.aA,.aA] 36,
  .vec (.aO 1) 7 143 [],
  .cells [] 100 ],[],.lit 0⟩),([0,1,0,1,1,1],⟨4,[(1,.ptr 0 0),(2,.ptr 1 0),(43,aI 1),(44,aI 2)],[.cells [.aA,aV 2 3 8] 36,
  .cells [.aA,.aA] 36,
  .vec (.aO 3) 8 100 []],[],.lit 0⟩),([0,1,0,1,1,1],⟨1,[(1,.ptr 0 0),(2,.ptr 1 0),(43,aJ 0),(44,aJ 0)],[.cells [.aA,.aA] 36,
  .cells [.aA,.aA] 36 ],[],.lit 0⟩),([0,1,0,1,1,1],⟨1,[(1,.ptr 0 0),(2,.ptr 1 0),(43,aJ 0),(44,aJ 0)],[.cells [.aA,.slice 2 0 0 (.exact 0)] 36,
  .cells [.aA,.aA] 36,
  .cells [] 100 ],[],.lit 0⟩),([0,1,0,1,1,1],⟨4,[(1,.ptr 0 0),(2,.ptr 1 0),(43,aI 1),(44,aI 2)],[.cells [.slice 2 0 0 (.exact 0),aV 3 3 8] 36,
  .cells [.aA,.aA] 36,
  .cells [] 143,
  .vec (.aO 3) 8 100 []],[],.lit 0⟩),([0,1,0,1,1,1],⟨1,[(1,.ptr 0 0),(2,.ptr 1 0),(43,aJ 0),(44,aJ 0)],[.cells [.slice 2 0 0 (.exact 0),.aA] 36,
  .cells [.aA,.aA] 36,
  .cells [] 143 ],[],.lit 0⟩),([0,1,0,1,1,1],⟨1,[(1,.ptr 0 0),(2,.ptr 1 0),(43,aJ 0),(44,aJ 0)],[.cells [.slice 2 0 0 (.exact 0),.slice 3 0 0 (.exact 0)] 36,
  .cells [.aA,.aA] 36,
  .cells [] 143,
  .cells [] 100 ],[],.lit 0⟩),([0,1,0,1,1,1],⟨11,[(1,.ptr 0 0),(2,.ptr 1 0),(43,aI 1),(44,aI 2)],[.cells [aV 2 3 7,aV 3 4 8] 36,
  .cells [.aA,.aA] 36,
  .vec (.aO 3) 7 143 [],
  .vec (.aO 4) 8 100 [(.aO 0,[aI 5,aV 4 6 0,aU 7,aI 8,aI 9,aI 10])],
  .vec (.aO 6) 0 2 []],[],.lit 0⟩),([0,1,0,1,1,1],⟨11,[(1,.ptr 0 0),(2,.ptr 1 0),(43,aI 1),(44,aI 2)],[.cells [aV 2 3 7,aV 3 4 8] 36,
  .cells [.aA,.aA] 36,
  .vec (.aO 3) 7 143 [],
  .vec (.aO 4) 8 100 [(.aO 0,[aI 5,aE 6 0,aU 7,aI 8,aI 9,aI 10])]],[],.lit 0⟩),([0,1,0,1,1,1],⟨10,[(1,.ptr 0 0),(2,.ptr 1 0),(43,aI 1),(44,aI 2)],[.cells [.aA,aV 2 3 8] 36,
  .cells [.aA,.aA] 36,
  .vec (.aO 3) 8 100 [(.aO 0,[aI 4,aV 3 5 0,aU 6,aI 7,aI 8,aI 9])],
  .vec (.aO 5) 0 2 []],[],.lit 0⟩),([0,1,0,1,1,1],⟨10,[(1,.ptr 0 0),(2,.ptr 1 0),(43,aI 1),(44,aI 2)],[.cells [.aA,aV 2 3 8] 36,
  .cells [.aA,.aA] 36,
  .vec (.aO 3) 8 100 [(.aO 0,[aI 4,aE 5 0,aU 6,aI 7,aI 8,aI 9])]],[],.lit 0⟩),([0,1,0,1,1,1],⟨10,[(1,.ptr 0 0),(2,.ptr 1 0),(43,aI 1),(44,aI 2)],[.cells [.slice 2 0 0 (.exact 0),aV 3 3 8] 36,
  .cells [.aA,.aA] 36,
  .cells [] 143,
  .vec (.aO 3) 8 100 [(.aO 0,[aI 4,aV 4 5 0,aU 6,aI 7,aI 8,aI 9])],
  .vec (.aO 5) 0 2 []],[],.lit 0⟩),([0,1,0,1,1,1],⟨10,[(1,.ptr 0 0),(2,.ptr 1 0),(43,aI 1),(44,aI 2)],[.cells [.slice 2 0 0 (.exact 0),aV 3 3 8] 36,
  .cells [.aA,.aA] 36,
  .cells [] 143,
  .vec (.aO 3) 8 100 [(.aO 0,[aI 4,aE 5 0,aU 6,aI 7,aI 8,aI 9])]],[],.lit 0⟩)]⟩
def aGT:FE:=⟨100,5,[.agg [(.sl 3),(.sl 4)]],[.one .bool],none,[],[],[],0,[],[],
 [([0,1,0,1,1],⟨5,[(1,.ptr 0 0),(3,aI 0),(17,aI 1),(18,aI 2)],[.cells [aD 3 3,aD 4 4] 25 ],[],.lit 0⟩),([0,1,1,1,0,0,1,1,0,0,1,0,1,1],⟨6,[(1,.ptr 0 0),(3,aI 0),(4,aI 1),(5,aI 2),(17,aI 3),(18,aI 1)],[.cells [aD 4 3,aD 5 4] 25 ],[],.lit 0⟩),([0,1,0,0,1,0,0,1,1,1,0,0,1,1,0,0,1,0,1,1],⟨9,[(1,.ptr 0 0),(3,aI 0),(4,aI 1),(5,aI 2),(17,aI 3),(18,aI 1),(62,aD 4 6),(63,aI 5),(64,aI 6)],[.cells [aD 7 3,aD 8 4] 25 ],[],.lit 0⟩)]⟩
def aGS:FE:=⟨150,15,[.agg [(.int .u8),.str,(.int .i64),(.sl 6)],.one (.int .i64)],[.one (.int .i64)],none,[],[],[],0,[],[],
 [([0,1,0,1,1,1],⟨7,[(1,aI 0),(2,.ptr 0 0),(5,aI 1),(6,aI 2)],[.cells [aU 3,aS 4,aI 5,aD 6 6] 60 ],[],.lit 0⟩)]⟩
def aGR:FE:=⟨200,44,[.one (.sl 7),.one (.sl 7)],[.one .bool],none,[],[],[],0,[],[],
 [([0,1,0,1,1],⟨4,[(0,aD 0 7),(1,aD 1 7),(15,aI 2),(16,aI 3) ],[],[],.lit 0⟩),([0,1,1,1,1,0,0,1,1,0,0,1,0,1,1],⟨18,[(0,aD 0 7),(1,aD 1 7),(6,.ptr 0 0),(7,.ptr 1 0),(15,aI 2),(16,aI 3),(72,aI 4),(73,aI 5)],[.cells [aI 6,aI 7,aB 8,aI 9,aD 10 0,aD 11 0] 143,
  .cells [aI 12,aI 13,aB 14,aI 15,aD 16 0,aD 17 0] 143 ],[],.lit 0⟩)]⟩
def aGQ:FE:=⟨250,75,[.one (.sl 0),.one (.sl 0)],[.one .bool],none,[],[],[],0,[],[],
 [([0,1,0,1,1],⟨3,[(0,aD 0 0),(1,aD 1 0),(5,aI 2) ],[],[],.lit 0⟩)]⟩
def aGP:FE:=⟨300,46,[.agg [(.sl 3),(.sl 4)]],[.one (.sl 7)],none,[],[],[],0,[],[],
 [([0,1,0,1,0,1,1],⟨2,[(3,.aA),(11,aD 0 3),(12,aI 1),(13,aJ 0) ],[],[],.lit 0⟩),([0,1,0,1,0,1,1],⟨4,[(3,aV 0 0 7),(11,aD 1 3),(12,aI 2),(13,aI 3)],[.vec (.aO 0) 7 143 []],[],.lit 0⟩)]⟩
def aGO:FE:=⟨350,38,[.agg [(.sl 3),(.sl 4)],.one (.sl 7)],[.one .bool],none,[],[],[],0,[],[],
 [([0,1,0,1,1],⟨5,[(2,.ptr 0 0),(18,aD 0 7),(19,aI 1),(20,aI 2)],[.cells [aD 3 3,aD 4 4] 25 ],[],.lit 0⟩)]⟩
def aGN:FE:=⟨400,74,[.agg [(.sl 3),(.sl 4)],.one (.sl 7),.one (.int .i64),.agg [(.int .u8),(.int .i64),(.int .i64),(.int .i64)]],[.one (.sl 7),.agg [(.int .i64),(.int .u8),(.int .i64),(.int .i64),(.int .i64)],.one (.int .u8)],none,[],[],[],0,[],[],
 []⟩
def aGM:FE:=⟨450,45,[.agg [(.sl 3),(.sl 4)]],[.one (.int .i64)],none,[],[],[],0,[],[],
 [([0,1,0,1,1],⟨4,[(1,.ptr 0 0),(3,.bool (.lit true)),(20,aD 0 3),(21,aI 1),(22,aI 2)],[.cells [aD 0 3,aD 3 4] 25 ],[],.lit 0⟩),([0,1,0,1,1],⟨4,[(1,.ptr 0 0),(3,.bool (.lit false)),(20,aD 0 3),(21,aI 1),(22,aI 2)],[.cells [aD 0 3,aD 3 4] 25 ],[],.lit 0⟩),([0,1,0,1,1,1],⟨4,[(1,.ptr 0 0),(3,.bool (.lit true)),(35,aD 0 4),(36,aI 1),(37,aI 2)],[.cells [aD 3 3,aD 0 4] 25 ],[],.lit 0⟩),([0,1,0,1,1,1],⟨4,[(1,.ptr 0 0),(3,.bool (.lit false)),(35,aD 0 4),(36,aI 1),(37,aI 2)],[.cells [aD 3 3,aD 0 4] 25 ],[],.lit 0⟩),([0,1,1,1,0,0,1,1,0,0,1,0,1,1,1],⟨8,[(1,.ptr 0 0),(3,.bool (.lit true)),(7,.ptr 1 0),(8,aI 0),(35,aD 1 4),(36,aI 2),(37,aI 3)],[.cells [aD 4 3,aD 1 4] 25,
  .cells [aS 5,aD 6 2,aD 7 5] 52 ],[],.lit 0⟩),([0,1,1,1,0,0,1,1,0,0,1,0,1,1,1],⟨8,[(1,.ptr 0 0),(3,.bool (.lit false)),(7,.ptr 1 0),(8,aI 0),(35,aD 1 4),(36,aI 2),(37,aI 3)],[.cells [aD 4 3,aD 1 4] 25,
  .cells [aS 5,aD 6 2,aD 7 5] 52 ],[],.lit 0⟩)]⟩
def aGL:FE:=⟨500,64,[.agg [(.int .u8),.str,(.int .i64),.str,(.int .i64)],.agg [(.int .i64),(.int .i64),.bool,(.int .i64),(.sl 0),(.sl 0)],.one (.int .i64)],[.one .bool],none,[],[],[],0,[],[],
 [([0,1,0,1,1,1,1,1,1],⟨15,[(2,aI 0),(3,.ptr 0 0),(4,.ptr 1 0),(10,.map 2),(98,aD 1 0),(99,aI 2),(100,aI 3)],[.cells [aU 4,aS 5,aI 6,aS 7,aI 8] 121,
  .cells [aI 9,aI 10,aB 11,aI 12,aD 1 0,aD 13 0] 143,
  .jF (.aO 14) 0 ],[],.lit 0⟩)]⟩
def aGK:FE:=⟨550,107,[.one (.sl 7)],[.one (.sl 7)],none,[],[],[],0,[],[],
 [([0,1,0,1,1],⟨3,[(0,aV 0 0 7),(7,aI 1),(8,aI 2)],[.vec (.aO 0) 7 143 []],[],.lit 0⟩),([0,1,0,1,1],⟨0,[(0,.aA),(7,aJ 0),(8,aJ 0) ],[],[],.lit 0⟩),([0,1,0,1,1],⟨0,[(0,.slice 0 0 0 (.exact 0)),(7,aJ 0),(8,aJ 0)],[.cells [] 143 ],[],.lit 0⟩)]⟩
def aGJ:FE:=⟨600,108,[.one (.int .u8)],[.one (.int .u8)],none,[],[],[],0,[],[],
 []⟩
def aGI:FE:=⟨650,105,[.agg [(.int .u8),.str,(.int .i64),.str,(.int .i64)]],[.one (.int .i64),.one .bool],none,[],[],[],0,[],[],
 []⟩
def aGH:FE:=⟨700,76,[.agg [(.sl 3),(.sl 4)],.agg [(.int .u8),.str,(.int .i64),.str,(.int .i64)]],[.one .bool],none,[],[],[],0,[],[],
 []⟩
def aGG:FE:=⟨750,77,[.agg [(.sl 3),(.sl 4)],.agg [.str,(.sl 2),(.sl 5)],.agg [(.int .u8),(.int .u8),(.int .i64),(.int .i64),(.int .i64),(.int .i64),(.sl 6)]],[.one .bool],none,[],[],[],0,[],[],
 []⟩
def aGF:FE:=⟨800,80,[.agg [(.int .u8),.str,(.int .i64),(.sl 6)],.one (.int .i64)],[.one .bool],none,[],[],[],0,[],[],
 []⟩
def aGE:FE:=⟨850,102,[.one (.sl 0),.one (.int .i64)],[.one (.int .i64)],none,[],[],[],0,[],[],
 [([0,1,0,1],⟨4,[(0,aD 0 0),(1,aI 1),(7,aI 2),(8,aI 3) ],[],[],.lit 0⟩)]⟩
def aGD:FE:=⟨900,62,[.one (.sl 0),.one (.int .i64)],[.one .bool],none,[],[],[],0,[],[],
 []⟩
def aGC:FE:=⟨950,112,[.one (.int .u8),.agg [(.int .u8),(.int .u8),(.int .i64),(.int .i64),(.int .i64),(.int .i64),(.sl 6)],.one .bool],[.one .bool],none,[],[],[],0,[],[],
 [([0,1,0,1,1],⟨9,[(0,aU 0),(2,.bool (.lit false)),(4,.ptr 0 0),(7,.ptr 1 0),(16,aI 1),(17,aJ 0)],[.cells [aU 2,aU 3,aI 4,aI 5,aI 6,aI 7,aD 8 6] 57,
  .cells [.int .u8 (.lit 1),aU 3,.str [97],.str [],aJ 0,.aA,.aA,.aA,aJ 0] 171 ],[],.lit 0⟩),([0,1,0,1,1],⟨9,[(0,aU 0),(2,.bool (.lit true)),(4,.ptr 0 0),(7,.ptr 1 0),(16,aI 1),(17,aJ 0)],[.cells [aU 2,aU 3,aI 4,aI 5,aI 6,aI 7,aD 8 6] 57,
  .cells [.int .u8 (.lit 1),aU 3,.str [97],.str [],aJ 0,.aA,.aA,.aA,aJ 0] 171 ],[],.lit 0⟩),([0,1,0,1,1],⟨11,[(0,aU 0),(2,.bool (.lit false)),(4,.ptr 0 0),(7,.ptr 1 0),(16,aI 1),(17,aI 2)],[.cells [aU 3,aU 4,aI 5,aI 6,aI 7,aI 8,aD 9 6] 57,
  .cells [.int .u8 (.lit 1),aU 4,.str [97],.str [],aJ 0,aV 2 10 6,.aA,.aA,aJ 0] 171,
  .vec (.aO 10) 6 60 []],[],.lit 0⟩),([0,1,0,1,1],⟨11,[(0,aU 0),(2,.bool (.lit true)),(4,.ptr 0 0),(7,.ptr 1 0),(16,aI 1),(17,aI 2)],[.cells [aU 3,aU 4,aI 5,aI 6,aI 7,aI 8,aD 9 6] 57,
  .cells [.int .u8 (.lit 1),aU 4,.str [97],.str [],aJ 0,aV 2 10 6,.aA,.aA,aJ 0] 171,
  .vec (.aO 10) 6 60 []],[],.lit 0⟩)]⟩
def aEP:FE:=⟨1000,90,[.one .str],[.one .bool],none,[],[],[],0,[],[],
 []⟩
def aEO:FE:=⟨1050,81,[.one .str,.one (.int .i64)],[.agg [(.int .u8),.str,(.int .i64),(.int .i64),(.int .i64),(.int .i64)],.agg [(.int .i64),(.int .i64)]],none,[],[],[],0,[],[],
 []⟩
def aEN:FE:=⟨1100,119,[.one .str],[.one (.int .i64),.one .bool],none,[],[],[],0,[],[],
 [([0,1,0,1,1],⟨0,[(4,aJ 0),(9,.slice 0 0 0 (.rest 1)),(10,aJ 0),(11,aJ 0)],[.cells [] 5 ],[],.lit 0⟩),([0,1,0,1,1],⟨4,[(4,aI 0),(9,aV 0 1 14),(10,aI 2),(11,aI 3)],[.vec (.aO 1) 14 5 []],[],.lit 0⟩)]⟩
def aEM:FE:=⟨1150,179,[.agg [(.int .u8),.str,(.int .i64),(.sl 6)]],[.one .bool],none,[],[],[],0,[],[],
 []⟩
def aEL:FE:=⟨1200,180,[.one (.int .u8)],[.one (.int .u8)],none,[],[],[],0,[],[],
 []⟩
def aEK:FE:=⟨1250,174,[.one (.int .u8)],[.one (.int .i64)],none,[],[],[],0,[],[],
 []⟩
def aEJ:FE:=⟨1300,175,[.one (.int .u8)],[.one .bool],none,[],[],[],0,[],[],
 []⟩
def aEI:FE:=⟨1350,84,[.one (.int .u8)],[.one .bool],none,[],[],[],0,[],[],
 []⟩
def aEH:FE:=⟨1400,89,[.agg [(.int .u8),.str,(.int .i64),.str,(.int .i64)]],[.one .bool],none,[],[],[],0,[],[],
 []⟩
def aEG:FE:=⟨1450,25,[.agg [(.sl 3),(.sl 4)]],[.agg [(.sl 7),(.sl 8)],.one (.int .i64)],none,[],[],[],0,[],[],
 [([0,1,0,1,1,1],⟨3,[(2,.ptr 0 0),(5,.ptr 1 0),(18,aD 0 4),(19,aI 1),(20,aJ 0)],[.cells [.aA,.aA] 36,
  .cells [aD 2 7,.aA] 36 ],[],.lit 0⟩),([0,1,0,1,1,1],⟨5,[(2,.ptr 0 0),(5,.ptr 1 0),(18,aD 0 4),(19,aI 1),(20,aI 2)],[.cells [.aA,.aA] 36,
  .cells [aD 3 7,aV 2 4 8] 36,
  .vec (.aO 4) 8 100 []],[],.lit 0⟩)]⟩
def aEF:FE:=⟨1500,21,[.agg [(.sl 3),(.sl 4)],.agg [(.sl 7),(.sl 8)]],[.one .bool],none,[],[],[],0,[],[],
 [([0,1,0,1,1],⟨5,[(2,.ptr 0 0),(22,aD 0 8),(23,aI 1),(24,aI 2)],[.cells [aD 3 3,aD 4 4] 25 ],[],.lit 0⟩)]⟩
def aEE:FE:=⟨1550,27,[.agg [(.sl 3),(.sl 4)],.agg [(.sl 7),(.sl 8)],.one (.int .i64)],[.one .bool],none,[],[],[],0,[],[],
 []⟩
def aED:FE:=⟨1600,39,[.agg [(.sl 3),(.sl 4)],.agg [.str,(.sl 2),(.sl 5)],.agg [(.int .i64),(.sl 0),(.int .u8),(.int .i64),(.int .i64),(.int .i64)]],[.one .bool],none,[],[],[],0,[],[],
 []⟩
def aEC:FE:=⟨1650,28,[.agg [(.sl 3),(.sl 4)],.agg [(.sl 7),(.sl 8)],.one (.int .i64)],[.one .bool],none,[],[],[],0,[],[],
 []⟩
def aEB:FE:=⟨1700,13,[.agg [(.sl 3),(.sl 4)],.agg [(.sl 7),(.sl 8)],.one (.int .i64)],[.one .bool],none,[],[],[],0,[],[],
 []⟩
def aEA:FE:=⟨1750,41,[.agg [(.sl 3),(.sl 4)],.agg [(.sl 7),(.sl 8)],.one (.int .i64)],[.agg [(.int .u8),(.int .i64),(.int .i64),(.int .i64)],.one .bool],none,[],[],[],0,[],[],
 [([0,1,0,1,0,1,0,1,1,0,1,1,1,1],⟨12,[(6,.ptr 0 0),(8,.ptr 1 0),(10,.ptr 2 0),(55,aD 0 6),(56,aI 1),(57,aI 2)],[.cells [.int .u8 (.lit 0),aJ 0,aJ 0,aJ 0] 75,
  .cells [aI 3,aD 4 0,aU 5,aI 6,aI 7,aI 8] 100,
  .cells [aU 9,aI 10,aI 11,aI 8] 75 ],[],.lit 0⟩)]⟩
def aEz:FE:=⟨1800,23,[.agg [(.sl 3),(.sl 4)],.agg [(.sl 7),(.sl 8)],.one (.int .i64)],[.agg [(.int .u8),(.int .i64),(.int .i64),(.int .i64)],.one .bool],none,[],[],[],0,[],[],
 []⟩
def aEy:FE:=⟨1850,22,[.agg [(.sl 3),(.sl 4)],.agg [(.sl 7),(.sl 8)],.one (.int .i64)],[.agg [(.sl 7),(.sl 8)],.agg [(.int .i64),(.int .u8),(.int .i64),(.int .i64),(.int .i64)],.one (.int .u8)],none,[],[],[],0,[],[],
 []⟩
def aEx:FE:=⟨1900,40,[.agg [(.sl 7),(.sl 8)]],[.agg [(.sl 7),(.sl 8)]],none,[],[],[],0,[],[],
 [([0,1,0,1,1],⟨4,[(1,.ptr 0 0),(2,.ptr 1 0),(16,aI 0),(17,aI 1)],[.cells [aV 2 2 7,aV 3 3 8] 36,
  .cells [.aA,.aA] 36,
  .vec (.aO 2) 7 143 [],
  .vec (.aO 3) 8 100 []],[],.lit 0⟩),([0,1,0,1,1],⟨3,[(1,.ptr 0 0),(2,.ptr 1 0),(16,aI 0),(17,aI 1)],[.cells [aV 2 2 7,.aA] 36,
  .cells [.aA,.aA] 36,
  .vec (.aO 2) 7 143 []],[],.lit 0⟩),([0,1,0,1,1],⟨3,[(1,.ptr 0 0),(2,.ptr 1 0),(16,aI 0),(17,aI 1)],[.cells [aV 2 2 7,.slice 3 0 0 (.exact 0)] 36,
  .cells [.aA,.aA] 36,
  .vec (.aO 2) 7 143 [],
  .cells [] 100 ],[],.lit 0⟩),([0,1,0,1,1],⟨1,[(1,.ptr 0 0),(2,.ptr 1 0),(16,aJ 0),(17,aJ 0)],[.cells [.aA,aV 2 0 8] 36,
  .cells [.aA,.aA] 36,
  .vec (.aO 0) 8 100 []],[],.lit 0⟩),([0,1,0,1,1],⟨0,[(1,.ptr 0 0),(2,.ptr 1 0),(16,aJ 0),(17,aJ 0)],[.cells [.aA,.aA] 36,
  .cells [.aA,.aA] 36 ],[],.lit 0⟩),([0,1,0,1,1],⟨0,[(1,.ptr 0 0),(2,.ptr 1 0),(16,aJ 0),(17,aJ 0)],[.cells [.aA,.slice 2 0 0 (.exact 0)] 36,
  .cells [.aA,.aA] 36,
  .cells [] 100 ],[],.lit 0⟩),([0,1,0,1,1],⟨1,[(1,.ptr 0 0),(2,.ptr 1 0),(16,aJ 0),(17,aJ 0)],[.cells [.slice 2 0 0 (.exact 0),aV 3 0 8] 36,
  .cells [.aA,.aA] 36,
  .cells [] 143,
  .vec (.aO 0) 8 100 []],[],.lit 0⟩),([0,1,0,1,1],⟨0,[(1,.ptr 0 0),(2,.ptr 1 0),(16,aJ 0),(17,aJ 0)],[.cells [.slice 2 0 0 (.exact 0),.aA] 36,
  .cells [.aA,.aA] 36,
  .cells [] 143 ],[],.lit 0⟩),([0,1,0,1,1],⟨0,[(1,.ptr 0 0),(2,.ptr 1 0),(16,aJ 0),(17,aJ 0)],[.cells [.slice 2 0 0 (.exact 0),.slice 3 0 0 (.exact 0)] 36,
  .cells [.aA,.aA] 36,
  .cells [] 143,
  .cells [] 100 ],[],.lit 0⟩),([0,1,0,1,1,1],⟨4,[(1,.ptr 0 0),(2,.ptr 1 0),(43,aI 0),(44,aI 1)],[.cells [aV 2 2 7,aV 3 3 8] 36,
  .cells [.aA,.aA] 36,
  .vec (.aO 2) 7 143 [],
  .vec (.aO 3) 8 100 []],[],.lit 0⟩),([0,1,0,1,1,1],⟨1,[(1,.ptr 0 0),(2,.ptr 1 0),(43,aJ 0),(44,aJ 0)],[.cells [aV 2 0 7,.aA] 36,
  .cells [.aA,.aA] 36,
  .vec (.aO 0) 7 143 []],[],.lit 0⟩),([0,1,0,1,1,1],⟨1,[(1,.ptr 0 0),(2,.ptr 1 0),(43,aJ 0),(44,aJ 0)],[.cells [aV 2 0 7,.slice 3 0 0 (.exact 0)] 36,
  .cells [.aA,.aA] 36,
  .vec (.aO 0) 7 143 [],
  .cells [] 100 ],[],.lit 0⟩),([0,1,0,1,1,1],⟨3,[(1,.ptr 0 0),(2,.ptr 1 0),(43,aI 0),(44,aI 1)],[.cells [.aA,aV 2 2 8] 36,
  .cells [.aA,.aA] 36,
  .vec (.aO 2) 8 100 []],[],.lit 0⟩),([0,1,0,1,1,1],⟨0,[(1,.ptr 0 0),(2,.ptr 1 0),(43,aJ 0),(44,aJ 0)],[.cells [.aA,.aA] 36,
  .cells [.aA,.aA] 36 ],[],.lit 0⟩),([0,1,0,1,1,1],⟨0,[(1,.ptr 0 0),(2,.ptr 1 0),(43,aJ 0),(44,aJ 0)],[.cells [.aA,.slice 2 0 0 (.exact 0)] 36,
  .cells [.aA,.aA] 36,
  .cells [] 100 ],[],.lit 0⟩),([0,1,0,1,1,1],⟨3,[(1,.ptr 0 0),(2,.ptr 1 0),(43,aI 0),(44,aI 1)],[.cells [.slice 2 0 0 (.exact 0),aV 3 2 8] 36,
  .cells [.aA,.aA] 36,
  .cells [] 143,
  .vec (.aO 2) 8 100 []],[],.lit 0⟩),([0,1,0,1,1,1],⟨0,[(1,.ptr 0 0),(2,.ptr 1 0),(43,aJ 0),(44,aJ 0)],[.cells [.slice 2 0 0 (.exact 0),.aA] 36,
  .cells [.aA,.aA] 36,
  .cells [] 143 ],[],.lit 0⟩),([0,1,0,1,1,1],⟨0,[(1,.ptr 0 0),(2,.ptr 1 0),(43,aJ 0),(44,aJ 0)],[.cells [.slice 2 0 0 (.exact 0),.slice 3 0 0 (.exact 0)] 36,
  .cells [.aA,.aA] 36,
  .cells [] 143,
  .cells [] 100 ],[],.lit 0⟩)]⟩
def aEw:FE:=⟨1950,68,[.agg [(.int .u8),.str,(.int .i64),(.sl 6)],.one (.sl 0)],[.one (.int .i64)],none,[],[],[],0,[],[],
 []⟩
def aEv:FE:=⟨2000,26,[.agg [(.sl 3),(.sl 4)],.agg [(.sl 7),(.sl 8)],.agg [(.int .i64),(.int .u8),(.int .i64),(.int .i64),(.int .i64)]],[.agg [(.sl 7),(.sl 8)],.one .bool],none,[],[],[],0,[],[],
 [([0,1,0,1,1,1,1],⟨11,[(3,.ptr 0 0),(4,.ptr 1 0),(5,.ptr 2 0),(6,.ptr 3 0),(8,.ptr 4 0),(9,aI 0),(10,aJ 0)],[.cells [aD 1 3,aD 2 4] 25,
  .cells [aD 3 7,aD 4 8] 36,
  .cells [aI 0,aU 5,aI 6,aI 7,aI 8] 66,
  .cells [.aA,.aA] 36,
  .cells [aD 9 7,aV 5 10 8] 36,
  .vec (.aO 10) 8 100 []],[],.lit 0⟩),([0,1,0,1,1,1,1],⟨10,[(3,.ptr 0 0),(4,.ptr 1 0),(5,.ptr 2 0),(6,.ptr 3 0),(8,.ptr 4 0),(9,aI 0),(10,aJ 0)],[.cells [aD 1 3,aD 2 4] 25,
  .cells [aD 3 7,aD 4 8] 36,
  .cells [aI 0,aU 5,aI 6,aI 7,aI 8] 66,
  .cells [.aA,.aA] 36,
  .cells [aD 9 7,.aA] 36 ],[],.lit 0⟩),([0,1,0,1,1,1,1],⟨10,[(3,.ptr 0 0),(4,.ptr 1 0),(5,.ptr 2 0),(6,.ptr 3 0),(8,.ptr 4 0),(9,aI 0),(10,aJ 0)],[.cells [aD 1 3,aD 2 4] 25,
  .cells [aD 3 7,aD 4 8] 36,
  .cells [aI 0,aU 5,aI 6,aI 7,aI 8] 66,
  .cells [.aA,.aA] 36,
  .cells [aD 9 7,.slice 5 0 0 (.exact 0)] 36,
  .cells [] 100 ],[],.lit 0⟩),([0,1,0,1,1,1,1],⟨18,[(3,.ptr 0 0),(4,.ptr 1 0),(5,.ptr 2 0),(6,.ptr 3 0),(8,.ptr 4 0),(9,aI 0),(10,aI 1)],[.cells [aD 2 3,aD 3 4] 25,
  .cells [aD 4 7,aD 5 8] 36,
  .cells [aI 0,aU 6,aI 7,aI 8,aI 9] 66,
  .cells [.aA,.aA] 36,
  .cells [aD 10 7,aV 5 11 8] 36,
  .vec (.aO 11) 8 100 [(.aO 0,[aI 12,aV 6 13 0,aU 14,aI 15,aI 16,aI 17])],
  .vec (.aO 13) 0 2 []],[],.lit 0⟩),([0,1,0,1,1,1,1],⟨18,[(3,.ptr 0 0),(4,.ptr 1 0),(5,.ptr 2 0),(6,.ptr 3 0),(8,.ptr 4 0),(9,aI 0),(10,aI 1)],[.cells [aD 2 3,aD 3 4] 25,
  .cells [aD 4 7,aD 5 8] 36,
  .cells [aI 0,aU 6,aI 7,aI 8,aI 9] 66,
  .cells [.aA,.aA] 36,
  .cells [aD 10 7,aV 5 11 8] 36,
  .vec (.aO 11) 8 100 [(.aO 0,[aI 12,aE 13 0,aU 14,aI 15,aI 16,aI 17])]],[],.lit 0⟩)]⟩
def aEu:FE:=⟨2050,24,[.agg [(.sl 7),(.sl 8)],.agg [(.sl 7),(.sl 8)]],[.one .bool],none,[],[],[],0,[],[],
 [([0,1,0,1,1],⟨6,[(2,.ptr 0 0),(3,.ptr 1 0),(26,aI 0),(27,aI 1)],[.cells [aD 2 7,aD 3 8] 36,
  .cells [aD 4 7,aD 5 8] 36 ],[],.lit 0⟩),([0,1,1,1,1,0,0,1,1,0,0,1,0,1,1],⟨20,[(2,.ptr 0 0),(3,.ptr 1 0),(6,.ptr 2 0),(7,.ptr 3 0),(26,aI 0),(27,aI 1),(84,aI 2),(85,aI 3)],[.cells [aD 4 7,aD 5 8] 36,
  .cells [aD 6 7,aD 7 8] 36,
  .cells [aI 8,aD 9 0,aU 10,aI 11,aI 12,aI 13] 100,
  .cells [aI 14,aD 15 0,aU 16,aI 17,aI 18,aI 19] 100 ],[],.lit 0⟩)]⟩
def aEt:FE:=⟨2150,12,[.agg [(.sl 3),(.sl 4)],.one (.sl 9)],[.agg [(.sl 7),(.sl 8)],.one (.int .i64)],none,[],[],[],0,[],[],
 [([0,1,0,1,1,1],⟨7,[(1,aD 0 9),(2,.ptr 0 0),(4,.ptr 1 0),(6,.ptr 2 0),(20,aD 0 9),(21,aI 1),(22,aI 2)],[.cells [aD 3 3,aD 4 4] 25,
  .cells [.aA,.aA] 36,
  .cells [aD 5 7,aD 6 8] 36 ],[],.lit 0⟩)]⟩
def aEs:FE:=⟨2450,9,[.one (.sl 9),.one (.sl 9)],[.one .bool],none,[],[],[],0,[],[],
 [([0,1,0,1,1],⟨4,[(0,aD 0 9),(1,aD 1 9),(12,aI 2),(13,aI 3) ],[],[],.lit 0⟩)]⟩
def aEr:FE:=⟨2750,32,[.agg [(.sl 3),(.sl 4)],.agg [(.sl 7),(.sl 8),(.sl 0)]],[.one .bool],none,[],[],[],0,[],[],
 []⟩
def aEq:FE:=⟨2800,17,[.agg [(.sl 3),(.sl 4)],.one (.sl 0)],[.agg [(.sl 7),(.sl 8),(.sl 0)],.one (.int .i64)],none,[],[],[],0,[],[],
 []⟩
def aEp:FE:=⟨2850,34,[.agg [(.sl 7),(.sl 8)],.one (.int .i64)],[.one .bool],none,[],[],[],0,[],[],
 []⟩
def aEo:FE:=⟨2900,63,[.agg [(.sl 3),(.sl 4)],.agg [(.sl 7),(.sl 8)],.one (.int .i64)],[.one .bool],none,[],[],[],0,[],[],
 []⟩
def aEn:FE:=⟨2950,35,[.agg [(.sl 3),(.sl 4)],.agg [(.sl 7),(.sl 8),(.sl 0)],.one (.int .i64)],[.one .bool],none,[],[],[],0,[],[],
 [([0,1,0,1,1],⟨8,[(2,aI 0),(3,.ptr 0 0),(4,.ptr 1 0),(17,aD 1 0),(18,aI 2),(19,aI 3)],[.cells [aD 4 3,aD 5 4] 25,
  .cells [aD 6 7,aD 7 8,aD 1 0] 38 ],[],.lit 0⟩)]⟩
def aEm:FE:=⟨3050,33,[.agg [(.sl 7),(.sl 8),(.sl 0)]],[.agg [(.sl 7),(.sl 8),(.sl 0)]],none,[],[],[],0,[],[],
 [([0,1,0,1,1],⟨4,[(1,.ptr 0 0),(2,.ptr 1 0),(3,.ptr 2 0),(10,aD 0 7),(11,aI 1),(12,aJ 0)],[.cells [aD 0 7,aD 2 8,aD 3 0] 38,
  .cells [.aA,.aA,.aA] 38,
  .cells [.aA,.aA] 36 ],[],.lit 0⟩),([0,1,0,1,1],⟨6,[(1,.ptr 0 0),(2,.ptr 1 0),(3,.ptr 2 0),(10,aD 0 7),(11,aI 1),(12,aI 2)],[.cells [aD 0 7,aD 3 8,aD 4 0] 38,
  .cells [.aA,.aA,.aA] 38,
  .cells [aV 3 5 7,.aA] 36,
  .vec (.aO 5) 7 143 []],[],.lit 0⟩),([0,1,0,1,1,1],⟨4,[(1,.ptr 0 0),(2,.ptr 1 0),(3,.ptr 2 0),(33,aD 0 8),(34,aI 1),(35,aJ 0)],[.cells [aD 2 7,aD 0 8,aD 3 0] 38,
  .cells [.aA,.aA,.aA] 38,
  .cells [.aA,.aA] 36 ],[],.lit 0⟩),([0,1,0,1,1,1],⟨5,[(1,.ptr 0 0),(2,.ptr 1 0),(3,.ptr 2 0),(33,aD 0 8),(34,aI 1),(35,aJ 0)],[.cells [aD 2 7,aD 0 8,aD 3 0] 38,
  .cells [.aA,.aA,.aA] 38,
  .cells [aV 3 4 7,.aA] 36,
  .vec (.aO 4) 7 143 []],[],.lit 0⟩),([0,1,0,1,1,1],⟨6,[(1,.ptr 0 0),(2,.ptr 1 0),(3,.ptr 2 0),(33,aD 0 8),(34,aI 1),(35,aI 2)],[.cells [aD 3 7,aD 0 8,aD 4 0] 38,
  .cells [.aA,.aA,.aA] 38,
  .cells [.aA,aV 3 5 8] 36,
  .vec (.aO 5) 8 100 []],[],.lit 0⟩),([0,1,0,1,1,1],⟨7,[(1,.ptr 0 0),(2,.ptr 1 0),(3,.ptr 2 0),(33,aD 0 8),(34,aI 1),(35,aI 2)],[.cells [aD 3 7,aD 0 8,aD 4 0] 38,
  .cells [.aA,.aA,.aA] 38,
  .cells [aV 3 5 7,aV 4 6 8] 36,
  .vec (.aO 5) 7 143 [],
  .vec (.aO 6) 8 100 []],[],.lit 0⟩)]⟩
def aEl:FE:=⟨3100,18,[.agg [(.sl 3),(.sl 4)],.agg [(.sl 7),(.sl 8),(.sl 0)],.one (.int .i64)],[.agg [(.sl 7),(.sl 8),(.sl 0)],.agg [(.int .i64),(.int .u8),(.int .i64),(.int .i64),(.int .i64)],.one (.int .u8),.one (.int .i64)],none,[],[],[],0,[],[],
 []⟩
def aEk:FE:=⟨3150,8,[.agg [(.sl 3),(.sl 4)],.one (.sl 0),.one (.sl 0)],[.one (.sl 9),.agg [(.sl 7),(.sl 8),(.sl 0)],.one (.int .i64)],none,[],[],[],0,[],[],
 [([0,1,0,1,1,1,1,1],⟨8,[(2,aD 0 0),(3,.ptr 0 0),(7,.ptr 1 0),(9,.ptr 2 0),(11,.aA),(12,aI 1),(13,aI 2)],[.cells [aD 3 3,aD 4 4] 25,
  .cells [.aA,.aA,.aA] 38,
  .cells [aD 5 7,aD 6 8,aD 7 0] 38 ],[],.lit 0⟩),([0,1,0,1,1,1,1,1],⟨9,[(2,aD 0 0),(3,.ptr 0 0),(7,.ptr 1 0),(9,.ptr 2 0),(11,aV 3 1 9),(12,aI 2),(13,aI 3)],[.cells [aD 4 3,aD 5 4] 25,
  .cells [.aA,.aA,.aA] 38,
  .cells [aD 6 7,aD 7 8,aD 8 0] 38,
  .vec (.aO 1) 9 66 []],[],.lit 0⟩)]⟩
def aEj:FE:=⟨3300,14,[.agg [(.sl 7),(.sl 8),(.sl 0)],.agg [(.sl 7),(.sl 8),(.sl 0)]],[.one .bool],none,[],[],[],0,[],[],
 []⟩
def arL:FE:=⟨3450,4,[.agg [(.sl 3),(.sl 4)],.one (.sl 0),.agg [(.sl 0),(.sl 0)]],[.one .bool],none,[],[],[],0,[],[],
 [([0,1,0,1,1,1,1,1,1,1,1,1,1],⟨10,[(3,.ptr 0 0),(8,.ptr 1 0),(11,.ptr 2 0),(16,.bool (.lit true)),(123,aI 0),(124,aI 1)],[.cells [aD 2 3,aD 3 4] 25,
  .cells [aD 4 7,aD 5 8,aD 6 0] 38,
  .cells [aD 7 7,aD 8 8,aD 9 0] 38 ],[],.lit 0⟩),([0,1,0,1,1,1,1,1,1,1,1,1,1],⟨10,[(3,.ptr 0 0),(8,.ptr 1 0),(11,.ptr 2 0),(16,.bool (.lit false)),(123,aI 0),(124,aI 1)],[.cells [aD 2 3,aD 3 4] 25,
  .cells [aD 4 7,aD 5 8,aD 6 0] 38,
  .cells [aD 7 7,aD 8 8,aD 9 0] 38 ],[],.lit 0⟩)]⟩
def aEi:FE:=⟨3550,19,[.one (.sl 0),.one (.sl 0)],[.one .bool],none,[],[],[],0,[],[],
 [([0,1,0,1,1],⟨4,[(0,aD 0 0),(1,aD 1 0),(12,aI 2),(13,aI 3) ],[],[],.lit 0⟩)]⟩
def aEh:FE:=⟨5000,78,[],[.one .bool],some (⟨4,[(0,aD 0 6),(1,.func (.func 79) [] [.ptr 0 0])],[.cells [aS 1,aD 2 2,aD 3 5] 52 ],[],.lit 0⟩,[.cells [aS 0,aD 1 2,aD 2 5] 52],3),[],[],[],0,[],[],
 []⟩
def aEg:FE:=⟨5050,114,[],[.one .bool],some (⟨7,[(0,.ptr 0 0),(1,.agg [aU 0,aS 1,aI 2,aD 3 6]),(2,aI 4)],[.cells [aI 5,aI 6] 211 ],[],.lit 0⟩,[.cells [aI 0,aI 1] 211],2),[],[],[],0,[],[],
 [([0,1,0,1,1,1],⟨9,[(0,.ptr 0 0),(2,aI 0),(4,.ptr 1 0),(27,aD 1 6),(28,aI 2),(29,aI 3)],[.cells [aI 4,aI 5] 211,
  .cells [aU 6,aS 7,aI 8,aD 1 6] 60 ],[],.lit 0⟩)]⟩
def aEf:FE:=⟨5100,129,[],[],some (⟨2,[(0,.ptr 0 0),(1,.aA),(2,aI 0)],[.cells [aI 1,.bool (.lit true),.bool (.lit false)] 131 ],[],.lit 0⟩,[.cells [aI 0,.bool (.lit true),.bool (.lit false)] 131],1),[],[],[],0,[],[],
 [([0,1],⟨2,[(0,.ptr 0 0),(2,aI 0),(8,.aA),(9,aJ 0),(10,aJ 0)],[.cells [aI 1,.bool (.lit true),.bool (.lit false)] 131 ],[],.lit 0⟩)]⟩
def aEe:FE:=⟨5150,181,[],[.one .bool],some (⟨2,[(0,.ptr 0 0),(1,.aA)],[.cells [.map 1,.map 2] 179,
 .map [(.str [97],aU 0,0)] 0,
 .jF (.aO 1) 1 ],[],.lit 0⟩,[.cells [.map 1,.map 2] 179,.map [(.str [97],aU 0,0)] 0,.jF (.aO 1) 1],2),[],[],[],0,[],[],
 [([0,1,0,1],⟨2,[(0,.ptr 0 0),(7,.aA),(8,aJ 0),(9,aJ 0)],[.cells [.map 1,.map 2] 179,
  .map [(.str [97],aU 0,0)] 0,
  .jF (.aO 1) 1 ],[],.lit 0⟩)]⟩
def aEd:FE:=⟨5200,181,[],[.one .bool],some (⟨2,[(0,.ptr 0 0),(1,.aA)],[.cells [.map 1,.map 2] 179,
 .map [(.str [98],.int .u8 (.lit 1),0),(.str [97],aU 0,0)] 0,
 .jF (.aO 1) 1 ],[],.lit 0⟩,[.cells [.map 1,.map 2] 179,.map [(.str [98],aU 0,0),(.str [97],aU 1,0)] 0,.jF (.aO 2) 1],3),[],[],[],0,[],[],
 [([0,1,0,1],⟨2,[(0,.ptr 0 0),(7,.aA),(8,aJ 0),(9,aJ 0)],[.cells [.map 1,.map 2] 179,
  .map [(.str [98],.int .u8 (.lit 1),0),(.str [97],aU 0,0)] 0,
  .jF (.aO 1) 1 ],[],.lit 0⟩)]⟩
def aEc:FE:=⟨5250,129,[],[],some (⟨3,[(0,.ptr 0 0),(1,aV 1 0 6),(2,aI 1)],[.cells [aI 2,.bool (.lit true),.bool (.lit false)] 131,
 .vec (.aO 0) 6 60 []],[],.lit 0⟩,[.cells [aI 0,.bool (.lit true),.bool (.lit false)] 131,.vec (.aO 1) 6 60 []],2),[],[],[],0,[],[],
 [([0,1],⟨5,[(0,.ptr 0 0),(2,aI 0),(8,aV 1 1 6),(9,aI 2),(10,aI 3)],[.cells [aI 4,.bool (.lit true),.bool (.lit false)] 131,
  .vec (.aO 1) 6 60 []],[],.lit 0⟩)]⟩
def aEb:FE:=⟨5300,181,[],[.one .bool],some (⟨4,[(0,.ptr 0 0),(1,.vY 1 (.aO 0) 6)],[.cells [.map 2,.map 3] 179,
 .vec (.aO 1) 6 60 [],
 .map [(.str [97],aU 2,0)] 0,
 .jF (.aO 3) 1 ],[],.lit 0⟩,[.cells [.map 2,.map 3] 179,.vec (.aO 0) 6 60 [],.map [(.str [97],aU 1,0)] 0,.jF (.aO 2) 1],3),[],[],[],0,[],[],
 [([0,1,0,1],⟨5,[(0,.ptr 0 0),(7,.vY 1 (.aO 0) 6),(8,aI 0),(9,aI 1)],[.cells [.map 2,.map 3] 179,
  .vec (.aO 2) 6 60 [],
  .map [(.str [97],aU 3,0)] 0,
  .jF (.aO 4) 1 ],[],.lit 0⟩)]⟩
def aEa:FE:=⟨5350,181,[],[.one .bool],some (⟨4,[(0,.ptr 0 0),(1,.vY 1 (.aO 0) 6)],[.cells [.map 2,.map 3] 179,
 .vec (.aO 1) 6 60 [],
 .map [(.str [98],.int .u8 (.lit 1),0),(.str [97],aU 2,0)] 0,
 .jF (.aO 3) 1 ],[],.lit 0⟩,[.cells [.map 2,.map 3] 179,.vec (.aO 0) 6 60 [],.map [(.str [98],aU 1,0),(.str [97],aU 2,0)] 0,.jF (.aO 3) 1],4),[],[],[],0,[],[],
 [([0,1,0,1],⟨6,[(0,.ptr 0 0),(7,.vY 1 (.aO 0) 6),(8,aI 0),(9,aI 1)],[.cells [.map 2,.map 3] 179,
  .vec (.aO 2) 6 60 [],
  .map [(.str [98],aU 3,0),(.str [97],aU 4,0)] 0,
  .jF (.aO 5) 1 ],[],.lit 0⟩)]⟩
def aAc:FE:=⟨16000,59,[],[.one .bool],some (⟨1,[(0,aD 0 0),(1,.func (.func 60) [] []) ],[],[],.lit 0⟩,[],0),[],[],[],0,[],[],
 []⟩
def aD9:FE:=⟨5400,113,[],[.one (.int .i64)],some (⟨4,[(0,aD 0 6),(1,.func (.func 79) [] [.ptr 0 0])],[.cells [aS 1,aD 2 2,aD 3 5] 52 ],[],.lit 0⟩,[.cells [aS 0,aD 1 2,aD 2 5] 52],3),[],[],[],0,[],[],
 [([0,1,0,1],⟨6,[(0,aD 0 6),(1,.func (.func 79) [] [.ptr 0 0]),(7,aI 1),(8,aI 2)],[.cells [aS 3,aD 4 2,aD 5 5] 52 ],[],.lit 0⟩)]⟩
def aD8:FE:=⟨5450,129,[],[],some (⟨3,[(0,.ptr 0 0),(1,aD 0 6),(2,aI 1)],[.cells [aI 2,.bool (.lit true),.bool (.lit false)] 131 ],[],.lit 0⟩,[.cells [aI 0,.bool (.lit true),.bool (.lit false)] 131],1),[],[],[],0,[],[],
 [([0,1],⟨5,[(0,.ptr 0 0),(2,aI 0),(8,aD 1 6),(9,aI 2),(10,aI 3)],[.cells [aI 4,.bool (.lit true),.bool (.lit false)] 131 ],[],.lit 0⟩)]⟩
def aD7:FE:=⟨5500,181,[],[.one .bool],some (⟨3,[(0,.ptr 0 0),(1,aD 0 6)],[.cells [.map 1,.map 2] 179,
 .map [(.str [97],aU 1,0)] 0,
 .jF (.aO 2) 1 ],[],.lit 0⟩,[.cells [.map 1,.map 2] 179,.map [(.str [97],aU 0,0)] 0,.jF (.aO 1) 1],2),[],[],[],0,[],[],
 [([0,1,0,1],⟨5,[(0,.ptr 0 0),(7,aD 0 6),(8,aI 1),(9,aI 2)],[.cells [.map 1,.map 2] 179,
  .map [(.str [97],aU 3,0)] 0,
  .jF (.aO 4) 1 ],[],.lit 0⟩)]⟩
def aD6:FE:=⟨5550,181,[],[.one .bool],some (⟨3,[(0,.ptr 0 0),(1,aD 0 6)],[.cells [.map 1,.map 2] 179,
 .map [(.str [98],.int .u8 (.lit 1),0),(.str [97],aU 1,0)] 0,
 .jF (.aO 2) 1 ],[],.lit 0⟩,[.cells [.map 1,.map 2] 179,.map [(.str [98],aU 0,0),(.str [97],aU 1,0)] 0,.jF (.aO 2) 1],3),[],[],[],0,[],[],
 [([0,1,0,1],⟨6,[(0,.ptr 0 0),(7,aD 0 6),(8,aI 1),(9,aI 2)],[.cells [.map 1,.map 2] 179,
  .map [(.str [98],aU 3,0),(.str [97],aU 4,0)] 0,
  .jF (.aO 5) 1 ],[],.lit 0⟩)]⟩
def aD5:FE:=⟨5600,181,[],[.one .bool],some (⟨4,[(0,.ptr 0 0),(1,aD 0 6)],[.cells [.map 1,.map 2] 179,
 .map [(.str [98],aU 1,0),(.str [97],aU 2,0)] 0,
 .jF (.aO 3) 1 ],[],.lit 0⟩,[.cells [.map 1,.map 2] 179,.map [(.str [98],aU 0,0),(.str [97],aU 1,0)] 0,.jF (.aO 2) 1],3),[],[],[],0,[],[],
 [([0,1,0,1],⟨6,[(0,.ptr 0 0),(7,aD 0 6),(8,aI 1),(9,aI 2)],[.cells [.map 1,.map 2] 179,
  .map [(.str [98],aU 3,0),(.str [97],aU 4,0)] 0,
  .jF (.aO 5) 1 ],[],.lit 0⟩)]⟩
def aAb:FE:=⟨16050,101,[],[.one (.int .i64)],some (⟨1,[(0,aD 0 0),(1,.func (.func 60) [] []) ],[],[],.lit 0⟩,[],0),[],[],[],0,[],[],
 [([0,1,0,1],⟨3,[(0,aD 0 0),(1,.func (.func 60) [] []),(7,aI 1),(8,aI 2) ],[],[],.lit 0⟩)]⟩
def aAA:FE:=⟨12000,161,[],[],some (⟨13,[(0,aV 0 0 0),(1,.func (.func 162) [] [.ptr 1 0])],[.vec (.aO 0) 0 3 [],
 .cells [.ptr 2 0] 198,
 .cells [aI 1,.qZ 3 6 (.aO 2) 0,aI 3,aV 3 4 7,aU 5,aI 2,aI 6,aI 7] 200,
 .vec (.aO 4) 7 143 [(.aO 2,[aI 8,aI 9,aB 10,aI 11,aV 0 0 0,aV 4 12 0])],
 .vec (.aO 12) 0 2 []],[],.lit 0⟩,[.vec (.aO 0) 0 3 [],.cells [.ptr 2 0] 198,.cells [aI 1,.qZ 3 6 (.aO 2) 0,aI 3,aV 3 4 7,aU 5,aI 2,aI 6,aI 7] 200,.vec (.aO 4) 7 143 [(.aO 2,[aI 8,aI 9,aB 10,aI 11,aV 0 0 0,aV 4 12 0])],.vec (.aO 12) 0 2 []],13),[⟨13,[(0,aV 0 0 0)],[.vec (.aO 0) 0 3 [],
 .cells [.ptr 2 0] 198,
 .cells [aI 1,.qZ 3 6 (.aO 2) 0,aI 3,aV 3 4 7,aU 5,aI 2,aI 6,aI 7] 200,
 .vec (.aO 4) 7 143 [(.aO 2,[aI 8,aI 9,aB 10,aI 11,aV 0 0 0,aV 4 12 0])],
 .vec (.aO 12) 0 2 []],[],.lit 0⟩,⟨16,[(0,.BD 0 (.lit 0) (.aO 13) 0)],[.vec (.aO 14) 0 3 [],
 .cells [.ptr 2 0] 198,
 .cells [aI 1,.qZ 3 6 (.aO 2) 0,aI 3,aV 3 4 7,aU 5,aI 2,aI 6,aI 7] 200,
 .vec (.aO 4) 7 143 [(.aO 2,[aI 8,aI 9,aB 10,aI 11,.vY 0 (.aO 15) 0,aV 4 12 0])],
 .vec (.aO 12) 0 2 []],[],.lit 0⟩],[],[],13,[],[],
 [([0,1,0,1,1,1],⟨16,[(0,aV 0 13 0),(1,.func (.func 162) [] [.ptr 1 0]),(5,aI 14),(6,aI 15)],[.vec (.aO 13) 0 3 [],
  .cells [.ptr 2 0] 198,
  .cells [aI 1,.qZ 3 6 (.aO 2) 0,aI 3,aV 3 4 7,aU 5,aI 2,aI 6,aI 7] 200,
  .vec (.aO 4) 7 143 [(.aO 2,[aI 8,aI 9,aB 10,aI 11,aV 0 13 0,aV 4 12 0])],
  .vec (.aO 12) 0 2 []],[],.lit 0⟩)]⟩
def aAz:FE:=⟨12050,183,[],[],some (⟨13,[(0,aV 0 0 0),(1,.func (.func 162) [] [.ptr 1 0])],[.vec (.aO 0) 0 3 [],
 .cells [.ptr 2 0] 198,
 .cells [aI 1,.qZ 3 6 (.aO 2) 0,aI 3,aV 3 4 7,aU 5,aI 2,aI 6,aI 7] 200,
 .vec (.aO 4) 7 143 [(.aO 2,[aI 8,aI 9,aB 10,aI 11,aV 0 0 0,aV 4 12 0])],
 .vec (.aO 12) 0 2 []],[],.lit 0⟩,[.vec (.aO 0) 0 3 [],.cells [.ptr 2 0] 198,.cells [aI 1,.qZ 3 6 (.aO 2) 0,aI 3,aV 3 4 7,aU 5,aI 2,aI 6,aI 7] 200,.vec (.aO 4) 7 143 [(.aO 2,[aI 8,aI 9,aB 10,aI 11,aV 0 0 0,aV 4 12 0])],.vec (.aO 12) 0 2 []],13),[⟨14,[(0,aI 13)],[.vec (.aO 0) 0 3 [],
 .cells [.ptr 2 0] 198,
 .cells [aI 1,.qZ 3 6 (.aO 2) 0,aI 3,aV 3 4 7,aU 5,aI 2,aI 6,aI 7] 200,
 .vec (.aO 4) 7 143 [(.aO 2,[aI 8,aI 9,aB 10,aI 11,aV 0 0 0,aV 4 12 0])],
 .vec (.aO 12) 0 2 []],[],.lit 0⟩],[],[],13,[],[],
 [([0,1,0,1],⟨15,[(0,aV 0 0 0),(1,.func (.func 162) [] [.ptr 1 0]),(7,aI 13),(8,aI 14)],[.vec (.aO 0) 0 3 [],
  .cells [.ptr 2 0] 198,
  .cells [aI 1,.qZ 3 6 (.aO 2) 0,aI 3,aV 3 4 7,aU 5,aI 2,aI 6,aI 7] 200,
  .vec (.aO 4) 7 143 [(.aO 2,[aI 8,aI 9,aB 10,aI 11,aV 0 0 0,aV 4 12 0])],
  .vec (.aO 12) 0 2 []],[],.lit 0⟩)]⟩
def aAy:FE:=⟨12100,161,[],[],some (⟨13,[(0,aV 0 0 0),(1,.func (.func 162) [] [.ptr 1 0])],[.vec (.aO 0) 0 3 [],
 .cells [.ptr 2 0] 198,
 .cells [aI 1,.qZ 3 6 (.aO 2) 0,aI 3,aV 3 4 7,aU 5,aI 2,aI 6,aI 7] 200,
 .vec (.aO 4) 7 143 [(.aO 2,[aI 8,aI 9,aB 10,aI 11,aV 0 0 0,aE 12 0])]],[],.lit 0⟩,[.vec (.aO 0) 0 3 [],.cells [.ptr 2 0] 198,.cells [aI 1,.qZ 3 6 (.aO 2) 0,aI 3,aV 3 4 7,aU 5,aI 2,aI 6,aI 7] 200,.vec (.aO 4) 7 143 [(.aO 2,[aI 8,aI 9,aB 10,aI 11,aV 0 0 0,aE 12 0])]],13),[⟨13,[(0,aV 0 0 0)],[.vec (.aO 0) 0 3 [],
 .cells [.ptr 2 0] 198,
 .cells [aI 1,.qZ 3 6 (.aO 2) 0,aI 3,aV 3 4 7,aU 5,aI 2,aI 6,aI 7] 200,
 .vec (.aO 4) 7 143 [(.aO 2,[aI 8,aI 9,aB 10,aI 11,aV 0 0 0,aE 12 0])]],[],.lit 0⟩,⟨16,[(0,.BD 0 (.lit 0) (.aO 13) 0)],[.vec (.aO 14) 0 3 [],
 .cells [.ptr 2 0] 198,
 .cells [aI 1,.qZ 3 6 (.aO 2) 0,aI 3,aV 3 4 7,aU 5,aI 2,aI 6,aI 7] 200,
 .vec (.aO 4) 7 143 [(.aO 2,[aI 8,aI 9,aB 10,aI 11,.vY 0 (.aO 15) 0,aE 12 0])]],[],.lit 0⟩],[],[],13,[],[],
 [([0,1,0,1,1,1],⟨16,[(0,aV 0 13 0),(1,.func (.func 162) [] [.ptr 1 0]),(5,aI 14),(6,aI 15)],[.vec (.aO 13) 0 3 [],
  .cells [.ptr 2 0] 198,
  .cells [aI 1,.qZ 3 6 (.aO 2) 0,aI 3,aV 3 4 7,aU 5,aI 2,aI 6,aI 7] 200,
  .vec (.aO 4) 7 143 [(.aO 2,[aI 8,aI 9,aB 10,aI 11,aV 0 13 0,aE 12 0])]],[],.lit 0⟩)]⟩
def aAx:FE:=⟨12150,183,[],[],some (⟨13,[(0,aV 0 0 0),(1,.func (.func 162) [] [.ptr 1 0])],[.vec (.aO 0) 0 3 [],
 .cells [.ptr 2 0] 198,
 .cells [aI 1,.qZ 3 6 (.aO 2) 0,aI 3,aV 3 4 7,aU 5,aI 2,aI 6,aI 7] 200,
 .vec (.aO 4) 7 143 [(.aO 2,[aI 8,aI 9,aB 10,aI 11,aV 0 0 0,aE 12 0])]],[],.lit 0⟩,[.vec (.aO 0) 0 3 [],.cells [.ptr 2 0] 198,.cells [aI 1,.qZ 3 6 (.aO 2) 0,aI 3,aV 3 4 7,aU 5,aI 2,aI 6,aI 7] 200,.vec (.aO 4) 7 143 [(.aO 2,[aI 8,aI 9,aB 10,aI 11,aV 0 0 0,aE 12 0])]],13),[⟨14,[(0,aI 13)],[.vec (.aO 0) 0 3 [],
 .cells [.ptr 2 0] 198,
 .cells [aI 1,.qZ 3 6 (.aO 2) 0,aI 3,aV 3 4 7,aU 5,aI 2,aI 6,aI 7] 200,
 .vec (.aO 4) 7 143 [(.aO 2,[aI 8,aI 9,aB 10,aI 11,aV 0 0 0,aE 12 0])]],[],.lit 0⟩],[],[],13,[],[],
 [([0,1,0,1],⟨15,[(0,aV 0 0 0),(1,.func (.func 162) [] [.ptr 1 0]),(7,aI 13),(8,aI 14)],[.vec (.aO 0) 0 3 [],
  .cells [.ptr 2 0] 198,
  .cells [aI 1,.qZ 3 6 (.aO 2) 0,aI 3,aV 3 4 7,aU 5,aI 2,aI 6,aI 7] 200,
  .vec (.aO 4) 7 143 [(.aO 2,[aI 8,aI 9,aB 10,aI 11,aV 0 0 0,aE 12 0])]],[],.lit 0⟩)]⟩
def aAw:FE:=⟨12200,161,[],[],some (⟨13,[(0,aE 0 0),(1,.func (.func 162) [] [.ptr 0 0])],[.cells [.ptr 1 0] 198,
 .cells [aI 1,.qZ 2 6 (.aO 2) 0,aI 3,aV 2 4 7,aU 5,aI 2,aI 6,aI 7] 200,
 .vec (.aO 4) 7 143 [(.aO 2,[aI 8,aI 9,aB 10,aI 11,aE 0 0,aV 3 12 0])],
 .vec (.aO 12) 0 2 []],[],.lit 0⟩,[.cells [.ptr 1 0] 198,.cells [aI 1,.qZ 2 6 (.aO 2) 0,aI 3,aV 2 4 7,aU 5,aI 2,aI 6,aI 7] 200,.vec (.aO 4) 7 143 [(.aO 2,[aI 8,aI 9,aB 10,aI 11,aE 0 0,aV 3 12 0])],.vec (.aO 12) 0 2 []],13),[⟨13,[(0,aE 0 0)],[.cells [.ptr 1 0] 198,
 .cells [aI 1,.qZ 2 6 (.aO 2) 0,aI 3,aV 2 4 7,aU 5,aI 2,aI 6,aI 7] 200,
 .vec (.aO 4) 7 143 [(.aO 2,[aI 8,aI 9,aB 10,aI 11,aE 0 0,aV 3 12 0])],
 .vec (.aO 12) 0 2 []],[],.lit 0⟩],[],[],13,[],[],
 []⟩
def aAv:FE:=⟨12250,183,[],[],some (⟨13,[(0,aE 0 0),(1,.func (.func 162) [] [.ptr 0 0])],[.cells [.ptr 1 0] 198,
 .cells [aI 1,.qZ 2 6 (.aO 2) 0,aI 3,aV 2 4 7,aU 5,aI 2,aI 6,aI 7] 200,
 .vec (.aO 4) 7 143 [(.aO 2,[aI 8,aI 9,aB 10,aI 11,aE 0 0,aV 3 12 0])],
 .vec (.aO 12) 0 2 []],[],.lit 0⟩,[.cells [.ptr 1 0] 198,.cells [aI 1,.qZ 2 6 (.aO 2) 0,aI 3,aV 2 4 7,aU 5,aI 2,aI 6,aI 7] 200,.vec (.aO 4) 7 143 [(.aO 2,[aI 8,aI 9,aB 10,aI 11,aE 0 0,aV 3 12 0])],.vec (.aO 12) 0 2 []],13),[⟨13,[(0,aJ (-1))],[.cells [.ptr 1 0] 198,
 .cells [aI 1,.qZ 2 6 (.aO 2) 0,aI 3,aV 2 4 7,aU 5,aI 2,aI 6,aI 7] 200,
 .vec (.aO 4) 7 143 [(.aO 2,[aI 8,aI 9,aB 10,aI 11,aE 0 0,aV 3 12 0])],
 .vec (.aO 12) 0 2 []],[],.lit 0⟩],[],[],13,[],[],
 [([0,1,0,1],⟨13,[(0,aE 0 0),(1,.func (.func 162) [] [.ptr 0 0]),(7,aJ 0),(8,aJ 0)],[.cells [.ptr 1 0] 198,
  .cells [aI 1,.qZ 2 6 (.aO 2) 0,aI 3,aV 2 4 7,aU 5,aI 2,aI 6,aI 7] 200,
  .vec (.aO 4) 7 143 [(.aO 2,[aI 8,aI 9,aB 10,aI 11,aE 0 0,aV 3 12 0])],
  .vec (.aO 12) 0 2 []],[],.lit 0⟩)]⟩
def aAu:FE:=⟨12300,161,[],[],some (⟨13,[(0,aE 0 0),(1,.func (.func 162) [] [.ptr 0 0])],[.cells [.ptr 1 0] 198,
 .cells [aI 1,.qZ 2 6 (.aO 2) 0,aI 3,aV 2 4 7,aU 5,aI 2,aI 6,aI 7] 200,
 .vec (.aO 4) 7 143 [(.aO 2,[aI 8,aI 9,aB 10,aI 11,aE 0 0,aE 12 0])]],[],.lit 0⟩,[.cells [.ptr 1 0] 198,.cells [aI 1,.qZ 2 6 (.aO 2) 0,aI 3,aV 2 4 7,aU 5,aI 2,aI 6,aI 7] 200,.vec (.aO 4) 7 143 [(.aO 2,[aI 8,aI 9,aB 10,aI 11,aE 0 0,aE 12 0])]],13),[⟨13,[(0,aE 0 0)],[.cells [.ptr 1 0] 198,
 .cells [aI 1,.qZ 2 6 (.aO 2) 0,aI 3,aV 2 4 7,aU 5,aI 2,aI 6,aI 7] 200,
 .vec (.aO 4) 7 143 [(.aO 2,[aI 8,aI 9,aB 10,aI 11,aE 0 0,aE 12 0])]],[],.lit 0⟩],[],[],13,[],[],
 []⟩
def aAt:FE:=⟨12350,183,[],[],some (⟨13,[(0,aE 0 0),(1,.func (.func 162) [] [.ptr 0 0])],[.cells [.ptr 1 0] 198,
 .cells [aI 1,.qZ 2 6 (.aO 2) 0,aI 3,aV 2 4 7,aU 5,aI 2,aI 6,aI 7] 200,
 .vec (.aO 4) 7 143 [(.aO 2,[aI 8,aI 9,aB 10,aI 11,aE 0 0,aE 12 0])]],[],.lit 0⟩,[.cells [.ptr 1 0] 198,.cells [aI 1,.qZ 2 6 (.aO 2) 0,aI 3,aV 2 4 7,aU 5,aI 2,aI 6,aI 7] 200,.vec (.aO 4) 7 143 [(.aO 2,[aI 8,aI 9,aB 10,aI 11,aE 0 0,aE 12 0])]],13),[⟨13,[(0,aJ (-1))],[.cells [.ptr 1 0] 198,
 .cells [aI 1,.qZ 2 6 (.aO 2) 0,aI 3,aV 2 4 7,aU 5,aI 2,aI 6,aI 7] 200,
 .vec (.aO 4) 7 143 [(.aO 2,[aI 8,aI 9,aB 10,aI 11,aE 0 0,aE 12 0])]],[],.lit 0⟩],[],[],13,[],[],
 [([0,1,0,1],⟨13,[(0,aE 0 0),(1,.func (.func 162) [] [.ptr 0 0]),(7,aJ 0),(8,aJ 0)],[.cells [.ptr 1 0] 198,
  .cells [aI 1,.qZ 2 6 (.aO 2) 0,aI 3,aV 2 4 7,aU 5,aI 2,aI 6,aI 7] 200,
  .vec (.aO 4) 7 143 [(.aO 2,[aI 8,aI 9,aB 10,aI 11,aE 0 0,aE 12 0])]],[],.lit 0⟩)]⟩
def aAs:FE:=⟨12400,92,[],[],some (⟨7,[(0,.agg [.slice 0 0 1 (.exact 1),.slice 1 0 1 (.exact 1)])],[.cells [aU 0,.str [97],aI 1,.str [],aI 2] 121,
 .cells [.str [97],.slice 2 0 1 (.exact 1),aI 3] 125,
 .cells [.int .u8 (.lit 1),aU 4,.str [97],.str [],aI 5,.aA,.aA,.aA,aI 6] 171 ],[],.lit 0⟩,[.cells [aU 0,.str [97],aI 1,.str [],aI 2] 121,.cells [.str [97],.slice 2 0 1 (.exact 1),aI 3] 125,.cells [.int .u8 (.lit 1),aU 4,.str [97],.str [],aI 5,.aA,.aA,.aA,aI 6] 171],7),[⟨7,[(0,.bool (.lit false))],[.cells [aU 0,.str [97],aI 1,.str [],aI 2] 121,
 .cells [.str [97],.slice 2 0 1 (.exact 1),aI 3] 125,
 .cells [.int .u8 (.lit 1),aU 4,.str [97],.str [],aI 5,.aA,.aA,.aA,aI 6] 171 ],[],.lit 0⟩,⟨7,[(0,.bool (.lit true))],[.cells [aU 0,.str [97],aI 1,.str [],aI 2] 121,
 .cells [.str [97],.slice 2 0 1 (.exact 1),aI 3] 125,
 .cells [.int .u8 (.lit 1),aU 4,.str [97],.str [],aI 5,.aA,.aA,.aA,aI 6] 171 ],[],.lit 0⟩],[],[],7,[],[],
 []⟩
def aAr:FE:=⟨12450,92,[],[],some (⟨9,[(0,.agg [.slice 0 0 2 (.exact 2),.slice 1 0 1 (.exact 1)])],[.cells [.int .u8 (.lit 1),.str [98],aI 0,.str [],aI 1,aU 2,.str [97],aI 3,.str [98],aI 4] 121,
 .cells [.str [97],.slice 2 0 1 (.exact 1),aI 5] 125,
 .cells [.int .u8 (.lit 1),aU 6,.str [97],.str [],aI 7,.aA,.aA,.aA,aI 8] 171 ],[],.lit 0⟩,[.cells [.int .u8 (.lit 1),.str [98],aI 0,.str [],aI 1,aU 2,.str [97],aI 3,.str [98],aI 4] 121,.cells [.str [97],.slice 2 0 1 (.exact 1),aI 5] 125,.cells [.int .u8 (.lit 1),aU 6,.str [97],.str [],aI 7,.aA,.aA,.aA,aI 8] 171],9),[⟨9,[(0,.bool (.lit false))],[.cells [.int .u8 (.lit 1),.str [98],aI 0,.str [],aI 1,aU 2,.str [97],aI 3,.str [98],aI 4] 121,
 .cells [.str [97],.slice 2 0 1 (.exact 1),aI 5] 125,
 .cells [.int .u8 (.lit 1),aU 6,.str [97],.str [],aI 7,.aA,.aA,.aA,aI 8] 171 ],[],.lit 0⟩,⟨9,[(0,.bool (.lit true))],[.cells [.int .u8 (.lit 1),.str [98],aI 0,.str [],aI 1,aU 2,.str [97],aI 3,.str [98],aI 4] 121,
 .cells [.str [97],.slice 2 0 1 (.exact 1),aI 5] 125,
 .cells [.int .u8 (.lit 1),aU 6,.str [97],.str [],aI 7,.aA,.aA,.aA,aI 8] 171 ],[],.lit 0⟩],[],[],9,[],[],
 []⟩
def aAq:FE:=⟨12500,92,[],[],some (⟨7,[(0,.agg [.slice 0 0 1 (.exact 1),.slice 1 0 1 (.exact 1)])],[.cells [aU 0,.str [97],aI 1,.str [],aI 2] 121,
 .cells [.str [97],.slice 2 0 1 (.exact 1),aI 3] 125,
 .cells [.int .u8 (.lit 1),aU 4,.str [97],.str [97],aI 5,.aA,.aA,.aA,aI 6] 171 ],[],.lit 0⟩,[.cells [aU 0,.str [97],aI 1,.str [],aI 2] 121,.cells [.str [97],.slice 2 0 1 (.exact 1),aI 3] 125,.cells [.int .u8 (.lit 1),aU 4,.str [97],.str [97],aI 5,.aA,.aA,.aA,aI 6] 171],7),[⟨7,[(0,.bool (.lit false))],[.cells [aU 0,.str [97],aI 1,.str [],aI 2] 121,
 .cells [.str [97],.slice 2 0 1 (.exact 1),aI 3] 125,
 .cells [.int .u8 (.lit 1),aU 4,.str [97],.str [97],aI 5,.aA,.aA,.aA,aI 6] 171 ],[],.lit 0⟩,⟨7,[(0,.bool (.lit true))],[.cells [aU 0,.str [97],aI 1,.str [],aI 2] 121,
 .cells [.str [97],.slice 2 0 1 (.exact 1),aI 3] 125,
 .cells [.int .u8 (.lit 1),aU 4,.str [97],.str [97],aI 5,.aA,.aA,.aA,aI 6] 171 ],[],.lit 0⟩],[],[],7,[],[],
 []⟩
def aAp:FE:=⟨12550,92,[],[],some (⟨9,[(0,.agg [.slice 0 0 2 (.exact 2),.slice 1 0 1 (.exact 1)])],[.cells [.int .u8 (.lit 1),.str [98],aI 0,.str [],aI 1,aU 2,.str [97],aI 3,.str [98],aI 4] 121,
 .cells [.str [97],.slice 2 0 1 (.exact 1),aI 5] 125,
 .cells [.int .u8 (.lit 1),aU 6,.str [97],.str [97],aI 7,.aA,.aA,.aA,aI 8] 171 ],[],.lit 0⟩,[.cells [.int .u8 (.lit 1),.str [98],aI 0,.str [],aI 1,aU 2,.str [97],aI 3,.str [98],aI 4] 121,.cells [.str [97],.slice 2 0 1 (.exact 1),aI 5] 125,.cells [.int .u8 (.lit 1),aU 6,.str [97],.str [97],aI 7,.aA,.aA,.aA,aI 8] 171],9),[⟨9,[(0,.bool (.lit false))],[.cells [.int .u8 (.lit 1),.str [98],aI 0,.str [],aI 1,aU 2,.str [97],aI 3,.str [98],aI 4] 121,
 .cells [.str [97],.slice 2 0 1 (.exact 1),aI 5] 125,
 .cells [.int .u8 (.lit 1),aU 6,.str [97],.str [97],aI 7,.aA,.aA,.aA,aI 8] 171 ],[],.lit 0⟩,⟨9,[(0,.bool (.lit true))],[.cells [.int .u8 (.lit 1),.str [98],aI 0,.str [],aI 1,aU 2,.str [97],aI 3,.str [98],aI 4] 121,
 .cells [.str [97],.slice 2 0 1 (.exact 1),aI 5] 125,
 .cells [.int .u8 (.lit 1),aU 6,.str [97],.str [97],aI 7,.aA,.aA,.aA,aI 8] 171 ],[],.lit 0⟩],[],[],9,[],[],
 []⟩
def aAo:FE:=⟨12600,92,[],[],some (⟨8,[(0,.agg [.slice 0 0 1 (.exact 1),.slice 1 0 1 (.exact 1)])],[.cells [aU 0,.str [97],aI 1,.str [],aI 2] 121,
 .cells [.str [97],.slice 2 0 1 (.exact 1),aI 3] 125,
 .cells [.int .u8 (.lit 1),aU 4,.str [97],.str [],aI 5,aV 3 6 6,.aA,.aA,aI 7] 171,
 .vec (.aO 6) 6 60 []],[],.lit 0⟩,[.cells [aU 0,.str [97],aI 1,.str [],aI 2] 121,.cells [.str [97],.slice 2 0 1 (.exact 1),aI 3] 125,.cells [.int .u8 (.lit 1),aU 4,.str [97],.str [],aI 5,aV 3 6 6,.aA,.aA,aI 7] 171,.vec (.aO 6) 6 60 []],8),[⟨8,[(0,.bool (.lit false))],[.cells [aU 0,.str [97],aI 1,.str [],aI 2] 121,
 .cells [.str [97],.slice 2 0 1 (.exact 1),aI 3] 125,
 .cells [.int .u8 (.lit 1),aU 4,.str [97],.str [],aI 5,aV 3 6 6,.aA,.aA,aI 7] 171,
 .vec (.aO 6) 6 60 []],[],.lit 0⟩,⟨10,[(0,.bool (.lit true))],[.cells [aU 0,.str [97],aI 1,.str [],aI 2] 121,
 .cells [.str [97],.slice 2 0 1 (.exact 1),aI 3] 125,
 .cells [.int .u8 (.lit 1),aU 4,.str [97],.str [],aI 5,.vY 3 (.aO 8) 6,.aA,.aA,aI 7] 171,
 .vec (.aO 9) 6 60 []],[],.lit 0⟩],[],[],8,[],[],
 []⟩
def aAn:FE:=⟨12650,92,[],[],some (⟨10,[(0,.agg [.slice 0 0 2 (.exact 2),.slice 1 0 1 (.exact 1)])],[.cells [.int .u8 (.lit 1),.str [98],aI 0,.str [],aI 1,aU 2,.str [97],aI 3,.str [98],aI 4] 121,
 .cells [.str [97],.slice 2 0 1 (.exact 1),aI 5] 125,
 .cells [.int .u8 (.lit 1),aU 6,.str [97],.str [],aI 7,aV 3 8 6,.aA,.aA,aI 9] 171,
 .vec (.aO 8) 6 60 []],[],.lit 0⟩,[.cells [.int .u8 (.lit 1),.str [98],aI 0,.str [],aI 1,aU 2,.str [97],aI 3,.str [98],aI 4] 121,.cells [.str [97],.slice 2 0 1 (.exact 1),aI 5] 125,.cells [.int .u8 (.lit 1),aU 6,.str [97],.str [],aI 7,aV 3 8 6,.aA,.aA,aI 9] 171,.vec (.aO 8) 6 60 []],10),[⟨10,[(0,.bool (.lit false))],[.cells [.int .u8 (.lit 1),.str [98],aI 0,.str [],aI 1,aU 2,.str [97],aI 3,.str [98],aI 4] 121,
 .cells [.str [97],.slice 2 0 1 (.exact 1),aI 5] 125,
 .cells [.int .u8 (.lit 1),aU 6,.str [97],.str [],aI 7,aV 3 8 6,.aA,.aA,aI 9] 171,
 .vec (.aO 8) 6 60 []],[],.lit 0⟩,⟨12,[(0,.bool (.lit true))],[.cells [.int .u8 (.lit 1),.str [98],aI 0,.str [],aI 1,aU 2,.str [97],aI 3,.str [98],aI 4] 121,
 .cells [.str [97],.slice 2 0 1 (.exact 1),aI 5] 125,
 .cells [.int .u8 (.lit 1),aU 6,.str [97],.str [],aI 7,.vY 3 (.aO 10) 6,.aA,.aA,aI 9] 171,
 .vec (.aO 11) 6 60 []],[],.lit 0⟩],[],[],10,[],[],
 []⟩
def aAm:FE:=⟨12700,92,[],[],some (⟨8,[(0,.agg [.slice 0 0 1 (.exact 1),.slice 1 0 1 (.exact 1)])],[.cells [aU 0,.str [97],aI 1,.str [],aI 2] 121,
 .cells [.str [97],.slice 2 0 1 (.exact 1),aI 3] 125,
 .cells [.int .u8 (.lit 1),aU 4,.str [97],.str [97],aI 5,aV 3 6 6,.aA,.aA,aI 7] 171,
 .vec (.aO 6) 6 60 []],[],.lit 0⟩,[.cells [aU 0,.str [97],aI 1,.str [],aI 2] 121,.cells [.str [97],.slice 2 0 1 (.exact 1),aI 3] 125,.cells [.int .u8 (.lit 1),aU 4,.str [97],.str [97],aI 5,aV 3 6 6,.aA,.aA,aI 7] 171,.vec (.aO 6) 6 60 []],8),[⟨8,[(0,.bool (.lit false))],[.cells [aU 0,.str [97],aI 1,.str [],aI 2] 121,
 .cells [.str [97],.slice 2 0 1 (.exact 1),aI 3] 125,
 .cells [.int .u8 (.lit 1),aU 4,.str [97],.str [97],aI 5,aV 3 6 6,.aA,.aA,aI 7] 171,
 .vec (.aO 6) 6 60 []],[],.lit 0⟩,⟨10,[(0,.bool (.lit true))],[.cells [aU 0,.str [97],aI 1,.str [],aI 2] 121,
 .cells [.str [97],.slice 2 0 1 (.exact 1),aI 3] 125,
 .cells [.int .u8 (.lit 1),aU 4,.str [97],.str [97],aI 5,.vY 3 (.aO 8) 6,.aA,.aA,aI 7] 171,
 .vec (.aO 9) 6 60 []],[],.lit 0⟩],[],[],8,[],[],
 []⟩
def aAl:FE:=⟨12750,92,[],[],some (⟨10,[(0,.agg [.slice 0 0 2 (.exact 2),.slice 1 0 1 (.exact 1)])],[.cells [.int .u8 (.lit 1),.str [98],aI 0,.str [],aI 1,aU 2,.str [97],aI 3,.str [98],aI 4] 121,
 .cells [.str [97],.slice 2 0 1 (.exact 1),aI 5] 125,
 .cells [.int .u8 (.lit 1),aU 6,.str [97],.str [97],aI 7,aV 3 8 6,.aA,.aA,aI 9] 171,
 .vec (.aO 8) 6 60 []],[],.lit 0⟩,[.cells [.int .u8 (.lit 1),.str [98],aI 0,.str [],aI 1,aU 2,.str [97],aI 3,.str [98],aI 4] 121,.cells [.str [97],.slice 2 0 1 (.exact 1),aI 5] 125,.cells [.int .u8 (.lit 1),aU 6,.str [97],.str [97],aI 7,aV 3 8 6,.aA,.aA,aI 9] 171,.vec (.aO 8) 6 60 []],10),[⟨10,[(0,.bool (.lit false))],[.cells [.int .u8 (.lit 1),.str [98],aI 0,.str [],aI 1,aU 2,.str [97],aI 3,.str [98],aI 4] 121,
 .cells [.str [97],.slice 2 0 1 (.exact 1),aI 5] 125,
 .cells [.int .u8 (.lit 1),aU 6,.str [97],.str [97],aI 7,aV 3 8 6,.aA,.aA,aI 9] 171,
 .vec (.aO 8) 6 60 []],[],.lit 0⟩,⟨12,[(0,.bool (.lit true))],[.cells [.int .u8 (.lit 1),.str [98],aI 0,.str [],aI 1,aU 2,.str [97],aI 3,.str [98],aI 4] 121,
 .cells [.str [97],.slice 2 0 1 (.exact 1),aI 5] 125,
 .cells [.int .u8 (.lit 1),aU 6,.str [97],.str [97],aI 7,.vY 3 (.aO 10) 6,.aA,.aA,aI 9] 171,
 .vec (.aO 11) 6 60 []],[],.lit 0⟩],[],[],10,[],[],
 []⟩
def aAk:FE:=⟨12800,116,[],[],some (⟨2,[(0,.ptr 0 0),(1,aS 0),(2,aI 1)],[.cells (u8L cT0) 212 ],[],.lit 0⟩,[.cells (u8L cT0) 212],2),[⟨3,[(0,aI 2)],[.cells (u8L cT0) 212 ],[],.lit 0⟩],[],[],2,[],[],
 [([0,0,1,0,1],⟨3,[(0,.ptr 0 0),(1,aS 0),(2,aI 2)],[.cells (u8L cT0) 212 ],[],.lit 0⟩)]⟩
def aAj:FE:=⟨12850,118,[],[],some (⟨2,[(0,.ptr 0 0),(1,aS 0),(2,aI 1)],[.cells (u8L cT0) 212 ],[],.lit 0⟩,[.cells (u8L cT0) 212],2),[⟨3,[(0,aI 2)],[.cells (u8L cT0) 212 ],[],.lit 0⟩],[],[],2,[],[],
 [([0,0,1,1,1,1],⟨4,[(0,.ptr 0 0),(1,aS 0),(7,aU 2),(8,aI 3)],[.cells (u8L cT0) 212 ],[],.lit 0⟩)]⟩
def aAh:FE:=⟨14000,42,[],[],some (⟨11,[(0,.agg [aD 0 3,aD 1 4]),(1,.ptr 0 0),(2,aI 2)],[.cells [aD 3 7,aV 1 4 8] 36,
 .vec (.aO 4) 8 100 [(.aO 2,[aI 5,aV 2 6 0,aU 7,aI 8,aI 9,aI 10])],
 .vec (.aO 6) 0 2 []],[],.lit 0⟩,[.cells [aD 3 7,aV 1 4 8] 36,.vec (.aO 4) 8 100 [(.aO 2,[aI 5,aV 2 6 0,aU 7,aI 8,aI 9,aI 10])],.vec (.aO 6) 0 2 []],11),[⟨13,[],[.cells [aD 3 7,aV 1 4 8] 36,
 .vec (.aO 4) 8 100 [(.aO 2,[aI 11,aV 2 12 0,aU 7,aI 8,aI 9,aI 10])],
 .vec (.aO 12) 0 2 []],[],.lit 0⟩],[],[],11,[],[],
 []⟩
def aAf:FE:=⟨14500,43,[],[],some (⟨15,[(0,.agg [aD 0 3,aD 1 4]),(1,.ptr 0 0),(2,aI 2),(3,.agg [aU 3,aI 4,aI 5,aI 6])],[.cells [aD 7 7,aV 1 8 8] 36,
 .vec (.aO 8) 8 100 [(.aO 2,[aI 9,aV 2 10 0,aU 11,aI 12,aI 13,aI 14])],
 .vec (.aO 10) 0 2 []],[],.lit 0⟩,[.cells [aD 7 7,aV 1 8 8] 36,.vec (.aO 8) 8 100 [(.aO 2,[aI 9,aV 2 10 0,aU 11,aI 12,aI 13,aI 14])],.vec (.aO 10) 0 2 []],15),[⟨28,[(0,.agg [aI 15,aU 16,aI 17,aI 18,aI 19]),(1,aU 20)],[.cells [aD 21 7,aV 1 8 8] 36,
 .vec (.aO 8) 8 100 [(.aO 2,[aI 22,aV 2 23 0,aU 24,aI 25,aI 26,aI 27])],
 .vec (.aO 23) 0 2 []],[],.lit 0⟩],[],[],15,[],[],
 []⟩
def aAg:FE:=⟨14050,42,[],[],some (⟨11,[(0,.agg [aD 0 3,aD 1 4]),(1,.ptr 0 0),(2,aI 2)],[.cells [aD 3 7,aV 1 4 8] 36,
 .vec (.aO 4) 8 100 [(.aO 2,[aI 5,aE 6 0,aU 7,aI 8,aI 9,aI 10])]],[],.lit 0⟩,[.cells [aD 3 7,aV 1 4 8] 36,.vec (.aO 4) 8 100 [(.aO 2,[aI 5,aE 6 0,aU 7,aI 8,aI 9,aI 10])]],11),[⟨12,[],[.cells [aD 3 7,aV 1 4 8] 36,
 .vec (.aO 4) 8 100 [(.aO 2,[aI 11,aE 6 0,aU 7,aI 8,aI 9,aI 10])]],[],.lit 0⟩],[],[],11,[],[],
 []⟩
def aAe:FE:=⟨14550,43,[],[],some (⟨15,[(0,.agg [aD 0 3,aD 1 4]),(1,.ptr 0 0),(2,aI 2),(3,.agg [aU 3,aI 4,aI 5,aI 6])],[.cells [aD 7 7,aV 1 8 8] 36,
 .vec (.aO 8) 8 100 [(.aO 2,[aI 9,aE 10 0,aU 11,aI 12,aI 13,aI 14])]],[],.lit 0⟩,[.cells [aD 7 7,aV 1 8 8] 36,.vec (.aO 8) 8 100 [(.aO 2,[aI 9,aE 10 0,aU 11,aI 12,aI 13,aI 14])]],15),[⟨27,[(0,.agg [aI 15,aU 16,aI 17,aI 18,aI 19]),(1,aU 20)],[.cells [aD 21 7,aV 1 8 8] 36,
 .vec (.aO 8) 8 100 [(.aO 2,[aI 22,aE 10 0,aU 23,aI 24,aI 25,aI 26])]],[],.lit 0⟩],[],[],15,[],[],
 []⟩
def aAd:FE:=⟨15000,36,[],[],some (⟨11,[(0,.agg [aD 0 7,aD 1 8]),(1,.agg [aD 2 7,aD 3 8]),(2,.agg [aI 4,aU 5,aI 6,aI 7,aI 8]),(3,.func (.func 37) [] [.ptr 0 0,.ptr 1 0])],[.cells [aD 2 7,aD 3 8,aV 2 9 0] 38,
 .cells [aI 10] 2,
 .vec (.aO 9) 0 2 []],[],.lit 0⟩,[.cells [aD 2 7,aD 3 8,aV 2 9 0] 38,.cells [aI 10] 2,.vec (.aO 9) 0 2 []],11),[⟨12,[],[.cells [aD 2 7,aD 3 8,aV 2 11 0] 38,
 .cells [aI 10] 2,
 .vec (.aO 11) 0 2 []],[],.lit 0⟩],[],[],11,[],[],
 [([0,1,0,1,1,1,0,1,1],⟨15,[(3,.func (.func 37) [] [.ptr 0 0,.ptr 1 0]),(32,aD 11 0),(33,aI 12),(34,aI 13)],[.cells [aD 2 7,aD 3 8,aV 2 14 0] 38,
  .cells [aI 10] 2,
  .vec (.aO 14) 0 2 []],[],.lit 0⟩),([0,1,1,0,1,1,1,1,1,0,1,1],⟨14,[(3,.func (.func 37) [] [.ptr 0 0,.ptr 1 0]),(6,.ptr 3 0),(55,aD 3 8),(56,aI 11),(57,aI 12)],[.cells [aD 2 7,aD 3 8,aV 2 13 0] 38,
  .cells [aI 10] 2,
  .vec (.aO 13) 0 2 [],
  .cells [aI 4,aU 5,aI 6,aI 7,aI 8] 66 ],[],.lit 0⟩)]⟩
def aAi:FE:=⟨12900,92,[],[],some (⟨2,[(0,.agg [.aA,.slice 0 0 1 (.exact 1)])],[.cells [aS 0,.aA,aI 1] 125 ],[],.lit 0⟩,[.cells [aS 0,.aA,aI 1] 125],2),[⟨2,[(0,.bool (.lit false))],[.cells [aS 0,.aA,aI 1] 125 ],[],.lit 0⟩,⟨2,[(0,.bool (.lit true))],[.cells [aS 0,.aA,aI 1] 125 ],[],.lit 0⟩],[],[],2,[],[],
 []⟩
def feT:Tr FE:=(nO (nO (nS aGS (nS aGO (nS aGG (nS aEE (nS aEk (nO (nL aAl) .nil) .nil) .nil) (nO .nil (nL aD6))) (nS aEM (nS aEw (nL aEi) (nL aEe)) (nS aEr .nil (nO .nil (nL aAt))))) (nS aGK (nS aGC (nS aEA .nil (nO (nO (nL aAe) .nil) .nil)) (nO .nil (nO .nil (nL aAx)))) (nS aEI (nS aEt .nil (nL aEa)) (nS aEn .nil (nO .nil (nL aAp)))))) (nS aGQ (nS aGM (nS aGE (nS aEC (nO (nO (nL aAj) .nil) (nO (nL aAb) .nil)) .nil) (nS aEs .nil (nO .nil (nL aAz)))) (nS aEK (nS aEu (nO .nil .nil) (nL aEc)) (nS aEp (nO (nO (nL aAg) .nil) .nil) (nO .nil (nL aAr))))) (nS aGI (nS aEO (nS aEy (nL arL) (nL aEg)) (nO .nil (nO (nL aD3) (nL aAv)))) (nS aEG (nO .nil (nL aD8)) (nS aEm .nil (nO .nil (nL aAn))))))) (nS aGT (nS aGR (nS aGN (nS aGF (nS aED (nO (nO (nL aAk) .nil) (nO (nL aAc) .nil)) .nil) (nO .nil (nS aD5 .nil (nL aAA)))) (nS aEL (nS aEv .nil (nL aEd)) (nS aEq (nO (nO (nL aAh) .nil) .nil) (nO .nil (nL aAs))))) (nS aGJ (nS aEP (nS aEz .nil (nL aEh)) (nO (nO .nil (nO (nO .nil .nil) .nil)) (nO (nL aD4) (nL aAw)))) (nS aEH (nO .nil (nS aD9 (nO (nL aAd) .nil) .nil)) (nO .nil (nO .nil (nL aAo)))))) (nS aGP (nS aGL (nS aGD (nS aEB (nS aEj (nO (nL aAi) .nil) .nil) (nO (nO (nL aAf) .nil) .nil)) (nO .nil (nO .nil (nL aAy)))) (nS aEJ (nO (nO .nil .nil) (nL aEb)) (nS aEo .nil (nO .nil (nL aAq))))) (nS aGH (nS aEN (nS aEx .nil (nL aEf)) (nO .nil (nO .nil (nL aAu)))) (nS aEF (nO .nil (nL aD7)) (nS aEl .nil (nO .nil (nL aAm))))))))
def aDt:Tr (List Nat):=(nO (nO (nO (nO (nS [150] (nO (nL [2900]) .nil) (nO .nil (nO (nL [1300]) .nil))) (nS [1800] (nL [1600]) (nO .nil (nS [1100] (nL [12050,12150,12250,12350]) .nil)))) (nO (nS [3550] (nL [2950]) (nO .nil (nO (nL [1150]) .nil))) (nS [1550] (nS [14500,14550] (nL [250]) (nL [9000,550])) (nL [16000])))) (nS [100] (nS [2450] (nS [2800] (nS [3050] (nO (nL [5100,5250,5450]) .nil) (nO (nL [12000,12100,12200,12300]) .nil)) (nO (nL [1050]) (nL [5400]))) (nS [1450] (nS [1750] .nil (nL [650])) (nO (nL [1400]) .nil))) (nS [1700] (nS [1500] (nO .nil (nL [16050])) (nO .nil (nO (nL [5150,5200,5300,5350,5500,5550,5600]) .nil))) (nO (nS [450] (nL [750]) .nil) .nil)))) (nO (nS [3450] (nS [3150] (nO (nS [2750] (nL [500]) .nil) (nO (nL [800]) (nL [950]))) (nS [2050] (nL [9050,1900]) .nil)) (nS [2150] (nO (nS [15000] (nL [1950]) .nil) (nO (nL [1350]) (nS [12800] (nL [1200]) .nil))) (nS [1650] (nS [200] (nL [700]) (nL [600])) (nO (nL [12400,12450,12500,12550,12600,12650,12700,12750,12900]) .nil)))) (nO (nO (nS [3100] (nL [2850]) (nO .nil (nL [5050]))) (nS [2000] (nS [14000,14050] (nL [400]) .nil) (nO (nL [1000]) .nil))) (nS [3300] (nS [1850] (nS [350] .nil (nL [850])) (nO .nil (nL [12850]))) (nO (nS [300] (nL [5000]) (nO (nL [1250]) .nil)) (nL [900]))))))
noncomputable def St:alA:=⟨Tryz.prog,base,ttE,ft,WM ttE hints,Ug ttE hints,abA,lim 341 feT,fun g=>(lim 184 aDt g).getD []⟩
noncomputable def S:Sys:=St.sys
theorem aGB:(List.range 341).all (fun k=>match feT.get k with |some f=>arK ft k f|none=>true)=true:=by kernel_rfl
theorem aDs:(List.range 184).all (fun g=>XT ft (lim 341 feT) g ((aDt.get g).getD []))=true:=by kernel_rfl
theorem aDf:QA S:=by
 refine axU alX aDZ (fun I call hc=>@Ie _ I _ alX mixed _ _ hc) ajU (fun k f hf=>?_) fun g=>?_
 ·have hf':lim 341 feT k=some f:=hf;unfold lim at hf';split at hf'
  ·simp at hf'
  ·rename_i hle
   have hlt:k<341:=by
    rcases aJb k 341 with h|h
    ·exact h
    ·rw [aKE h] at hle; simp at hle
   have:=aJg.1 aGB k (aJL.2 hlt);rw [hf'] at this;exact this
 ·show XT ft (lim 341 feT) g ((lim 184 aDt g).getD [])=true;unfold lim;split
  ·rfl
  ·rename_i hle
   have hlt:g<184:=by
    rcases aJb g 184 with h|h
    ·exact h
    ·rw [aKE h] at hle; simp at hle
   exact aJg.1 aDs g (aJL.2 hlt)
end Go.As.Try
end
section
namespace Go.As.Try
open Go hiding Stat Spec shape
open Go.As Go.Proofs
set_option maxRecDepth 100000
noncomputable section
def b0:D:=.p (.i 0) (.p (.i 0) (.p (.i 0) (.p (.i 0) (.p (.i 0) (.p (.i 0) (.p (.i 0) (.p (.i 0) (.p (.i 0) (.p (.i 1) (.p (.i 1) (.p (.i 0) (.p (.i 0) (.p (.i 1) (.p (.i 0) (.p (.i 0) (.p (.i 0) (.p (.i 0) (.p (.i 0) (.p (.i 0) (.p (.i 0) (.p (.i 0) (.p (.i 0) (.p (.i 0) (.p (.i 0) (.p (.i 0) (.p (.i 0) (.p (.i 0) (.p (.i 0) (.p (.i 0) (.p (.i 0) (.p (.i 0) (.p (.i 1) (.p (.i 0) (.p (.i 0) (.p (.i 2) (.p (.i 0) (.p (.i 0) (.p (.i 0) (.p (.i 0) (.p (.i 5) (.p (.i 5) (.p (.i 5) (.p (.i 5) (.p (.i 0) (.p (.i 5) (.p (.i 0) (.p (.i 0) (.p (.i 3) (.p (.i 3) (.p (.i 3) (.p (.i 3) (.p (.i 3) (.p (.i 3) (.p (.i 3) (.p (.i 3) (.p (.i 3) (.p (.i 3) (.p (.i 0) (.p (.i 5) (.p (.i 5) (.p (.i 5) (.p (.i 0) (.p (.i 0) (.p (.i 0) (.p (.i 4) (.p (.i 4) (.p (.i 4) (.p (.i 4) (.p (.i 4) (.p (.i 4) (.p (.i 4) (.p (.i 4) (.p (.i 4) (.p (.i 4) (.p (.i 4) (.p (.i 4) (.p (.i 4) (.p (.i 4) (.p (.i 4) (.p (.i 4) (.p (.i 4) (.p (.i 4) (.p (.i 4) (.p (.i 4) (.p (.i 4) (.p (.i 4) (.p (.i 4) (.p (.i 4) (.p (.i 4) (.p (.i 4) (.p (.i 0) (.p (.i 0) (.p (.i 0) (.p (.i 0) (.p (.i 4) (.p (.i 0) (.p (.i 4) (.p (.i 4) (.p (.i 4) (.p (.i 4) (.p (.i 4) (.p (.i 4) (.p (.i 4) (.p (.i 4) (.p (.i 4) (.p (.i 4) (.p (.i 4) (.p (.i 4) (.p (.i 4) (.p (.i 4) (.p (.i 4) (.p (.i 4) (.p (.i 4) (.p (.i 4) (.p (.i 4) (.p (.i 4) (.p (.i 4) (.p (.i 4) (.p (.i 4) (.p (.i 4) (.p (.i 4) (.p (.i 4) (.p (.i 5) (.p (.i 0) (.p (.i 5) (.p (.i 0) (.p (.i 0) (.p (.i 0) (.p (.i 0) (.p (.i 0) (.p (.i 0) (.p (.i 0) (.p (.i 0) (.p (.i 0) (.p (.i 0) (.p (.i 0) (.p (.i 0) (.p (.i 0) (.p (.i 0) (.p (.i 0) (.p (.i 0) (.p (.i 0) (.p (.i 0) (.p (.i 0) (.p (.i 0) (.p (.i 0) (.p (.i 0) (.p (.i 0) (.p (.i 0) (.p (.i 0) (.p (.i 0) (.p (.i 0) (.p (.i 0) (.p (.i 0) (.p (.i 0) (.p (.i 0) (.p (.i 0) (.p (.i 0) (.p (.i 0) (.p (.i 0) (.p (.i 0) (.p (.i 0) (.p (.i 0) (.p (.i 0) (.p (.i 0) (.p (.i 0) (.p (.i 0) (.p (.i 0) (.p (.i 0) (.p (.i 0) (.p (.i 0) (.p (.i 0) (.p (.i 0) (.p (.i 0) (.p (.i 0) (.p (.i 0) (.p (.i 0) (.p (.i 0) (.p (.i 0) (.p (.i 0) (.p (.i 0) (.p (.i 0) (.p (.i 0) (.p (.i 0) (.p (.i 0) (.p (.i 0) (.p (.i 0) (.p (.i 0) (.p (.i 0) (.p (.i 0) (.p (.i 0) (.p (.i 0) (.p (.i 0) (.p (.i 0) (.p (.i 0) (.p (.i 0) (.p (.i 0) (.p (.i 0) (.p (.i 0) (.p (.i 0) (.p (.i 0) (.p (.i 0) (.p (.i 0) (.p (.i 0) (.p (.i 0) (.p (.i 0) (.p (.i 0) (.p (.i 0) (.p (.i 0) (.p (.i 0) (.p (.i 0) (.p (.i 0) (.p (.i 0) (.p (.i 0) (.p (.i 0) (.p (.i 0) (.p (.i 0) (.p (.i 0) (.p (.i 0) (.p (.i 0) (.p (.i 0) (.p (.i 0) (.p (.i 0) (.p (.i 0) (.p (.i 0) (.p (.i 0) (.p (.i 0) (.p (.i 0) (.p (.i 0) (.p (.i 0) (.p (.i 0) (.p (.i 0) (.p (.i 0) (.p (.i 0) (.p (.i 0) (.p (.i 0) (.p (.i 0) (.p (.i 0) (.p (.i 0) (.p (.i 0) (.p (.i 0) (.p (.i 0) (.p (.i 0) (.p (.i 0) (.p (.i 0) (.p (.i 0) (.p (.i 0) (.p (.i 0) (.p (.i 0) (.p (.i 0) (.p (.i 0) (.p (.i 0) (.p (.i 0) (.p (.i 0) (.p (.i 0) (.i 0))))))))))))))))))))))))))))))))))))))))))))))))))))))))))))))))))))))))))))))))))))))))))))))))))))))))))))))))))))))))))))))))))))))))))))))))))))))))))))))))))))))))))))))))))))))))))))))))))))))))))))))))))))))))))))))))))))))))))))))))))))))))))))))))
def b1:D:=.p (.i 32) (.p (.i 97) (.p (.i 99) (.p (.i 113) (.p (.i 117) (.p (.i 105) (.p (.i 114) (.p (.i 101) (.p (.i 32) (.p (.i 97) (.p (.i 100) (.p (.i 100) (.p (.i 32) (.p (.i 97) (.p (.i 114) (.p (.i 114) (.p (.i 105) (.p (.i 118) (.p (.i 101) (.p (.i 32) (.p (.i 98) (.p (.i 97) (.p (.i 114) (.p (.i 114) (.p (.i 105) (.p (.i 101) (.p (.i 114) (.p (.i 32) (.p (.i 98) (.p (.i 114) (.p (.i 111) (.p (.i 97) (.p (.i 100) (.p (.i 99) (.p (.i 97) (.p (.i 115) (.p (.i 116) (.p (.i 32) (.p (.i 99) (.p (.i 111) (.p (.i 110) (.p (.i 100) (.p (.i 32) (.p (.i 100) (.p (.i 111) (.p (.i 32) (.p (.i 100) (.p (.i 111) (.p (.i 110) (.p (.i 101) (.p (.i 32) (.p (.i 101) (.p (.i 108) (.p (.i 115) (.p (.i 101) (.p (.i 32) (.p (.i 105) (.p (.i 102) (.p (.i 32) (.p (.i 108) (.p (.i 111) (.p (.i 99) (.p (.i 107) (.p (.i 32) (.p (.i 108) (.p (.i 111) (.p (.i 99) (.p (.i 107) (.p (.i 102) (.p (.i 111) (.p (.i 114) (.p (.i 32) (.p (.i 108) (.p (.i 111) (.p (.i 111) (.p (.i 112) (.p (.i 32) (.p (.i 109) (.p (.i 117) (.p (.i 116) (.p (.i 101) (.p (.i 120) (.p (.i 32) (.p (.i 111) (.p (.i 110) (.p (.i 99) (.p (.i 101) (.p (.i 32) (.p (.i 112) (.p (.i 117) (.p (.i 116) (.p (.i 32) (.p (.i 113) (.p (.i 117) (.p (.i 101) (.p (.i 117) (.p (.i 101) (.p (.i 32) (.p (.i 114) (.p (.i 101) (.p (.i 97) (.p (.i 100) (.p (.i 32) (.p (.i 114) (.p (.i 101) (.p (.i 108) (.p (.i 101) (.p (.i 97) (.p (.i 115) (.p (.i 101) (.p (.i 32) (.p (.i 114) (.p (.i 108) (.p (.i 111) (.p (.i 99) (.p (.i 107) (.p (.i 32) (.p (.i 114) (.p (.i 117) (.p (.i 110) (.p (.i 108) (.p (.i 111) (.p (.i 99) (.p (.i 107) (.p (.i 32) (.p (.i 114) (.p (.i 119) (.p (.i 108) (.p (.i 111) (.p (.i 99) (.p (.i 107) (.p (.i 32) (.p (.i 115) (.p (.i 101) (.p (.i 109) (.p (.i 32) (.p (.i 115) (.p (.i 101) (.p (.i 116) (.p (.i 32) (.p (.i 115) (.p (.i 105) (.p (.i 103) (.p (.i 110) (.p (.i 97) (.p (.i 108) (.p (.i 32) (.p (.i 116) (.p (.i 97) (.p (.i 107) (.p (.i 101) (.p (.i 32) (.p (.i 116) (.p (.i 104) (.p (.i 114) (.p (.i 101) (.p (.i 97) (.p (.i 100) (.p (.i 32) (.p (.i 116) (.p (.i 114) (.p (.i 121) (.p (.i 97) (.p (.i 99) (.p (.i 113) (.p (.i 117) (.p (.i 105) (.p (.i 114) (.p (.i 101) (.p (.i 32) (.p (.i 116) (.p (.i 114) (.p (.i 121) (.p (.i 108) (.p (.i 111) (.p (.i 99) (.p (.i 107) (.p (.i 32) (.p (.i 117) (.p (.i 110) (.p (.i 108) (.p (.i 111) (.p (.i 99) (.p (.i 107) (.p (.i 32) (.p (.i 118) (.p (.i 97) (.p (.i 114) (.p (.i 32) (.p (.i 119) (.p (.i 97) (.p (.i 105) (.p (.i 116) (.p (.i 32) (.p (.i 119) (.p (.i 97) (.p (.i 105) (.p (.i 116) (.p (.i 102) (.p (.i 111) (.p (.i 114) (.p (.i 32) (.p (.i 119) (.p (.i 97) (.p (.i 105) (.p (.i 116) (.p (.i 111) (.p (.i 110) (.p (.i 32) (.p (.i 119) (.p (.i 108) (.p (.i 111) (.p (.i 99) (.p (.i 107) (.p (.i 32) (.p (.i 119) (.p (.i 114) (.p (.i 105) (.p (.i 116) (.p (.i 101) (.p (.i 32) (.p (.i 119) (.p (.i 117) (.p (.i 110) (.p (.i 108) (.p (.i 111) (.p (.i 99) (.p (.i 107) (.p (.i 32) (.i 0)))))))))))))))))))))))))))))))))))))))))))))))))))))))))))))))))))))))))))))))))))))))))))))))))))))))))))))))))))))))))))))))))))))))))))))))))))))))))))))))))))))))))))))))))))))))))))))))))))))))))))))))))))))))))))))))))))))
abbrev Qa:SE:=.lit 0
abbrev Qb:SE:=.aO 1
abbrev Qc:SE:=ln Qb
abbrev Qd:SB:=.lt Qa Qc
abbrev Qe:SB:=.lt Qc (.lit 1759218604441)
abbrev Qf:SE:=.aO 0
abbrev Qg:SE:=.op .norm Qb Qa
abbrev Qh:SE:=.dat (.i 1)
abbrev Qi:SB:=.eq Qg Qh
abbrev Qj:List SE:=[Qf]
abbrev Qk:SE:=.dat (.i 2)
abbrev Ql:SB:=.eq Qg Qk
def Rn:T Lf:=sp Qd (sp Qe (ju 9001 [Qf,Qb,Qc,Qa]) fl) (sp Qi (ju 9002 Qj) (sp Ql (ju 9003 Qj) fl))
abbrev Qm:SE:=.aO 3
abbrev Qn:SB:=.eq Qm Qf
abbrev Qo:SE:=.aO 2
abbrev Qp:SB:=.lt Qm Qo
abbrev Qq:SB:=.lt Qm Qa
abbrev Qr:SB:=.lt Qm Qc
abbrev Qs:SE:=el Qb Qm
abbrev Qt:SE:=ce 4 Qs
abbrev Qu:SB:=.lt Qa (ln Qt)
abbrev Qv:SE:=.lit 17592186044416
abbrev Qw:SB:=.lt (ln Qt) Qv
abbrev Qx:SE:=ce 5 Qs
abbrev Qy:SB:=.lt Qa (ln Qx)
abbrev Qz:SB:=.lt (ln Qx) Qv
abbrev Q0:SE:=.lit 1
abbrev Q1:SE:=wr (.add Qm Q0)
abbrev Q2:SE:=el Qb Qf
abbrev Q3:SE:=nm (ce 0 Q2)
abbrev Q4:SE:=nm (ce 1 Q2)
abbrev Q5:SE:=nm (ce 2 Q2)
abbrev Q6:SE:=nm (ce 3 Q2)
abbrev Q7:SB:=.eq Qx Qh
abbrev Q8:SB:=.eq Qx Qk
abbrev Q9:SB:=.eq Qt Qh
abbrev Qba:SB:=.eq Qt Qk
abbrev Qbb:T Lf:=ou [Qa,Qf,Qb]
abbrev Zu:SE:=mk Qm
abbrev Qbd:SE:=.dat (.i 4)
abbrev Qbe:SE:=.op .set Qb (cn Zu (.op .set Qs (cn Qbd Qt)))
abbrev Qbf:SE:=.dat (.i 5)
abbrev Qbg:SE:=.op .set Qbe (cn Zu (.op .set (el Qbe Qm) (cn Qbf Qx)))
abbrev Qbh:SE:=cn Qbf Qh
abbrev Qbi:SE:=.op .set Qbe (cn Zu (.op .set (el Qbe Qm) Qbh))
abbrev Qbj:SE:=cn Qbf Qk
abbrev Qbk:SE:=.op .set Qbe (cn Zu (.op .set (el Qbe Qm) Qbj))
abbrev Qbl:SE:=cn Qbd Qh
abbrev Qbm:SE:=.op .set Qb (cn Zu (.op .set Qs Qbl))
abbrev Qbn:SE:=.op .set Qbm (cn Zu (.op .set (el Qbm Qm) (cn Qbf Qx)))
abbrev Qbo:SE:=.op .set Qbm (cn Zu (.op .set (el Qbm Qm) Qbh))
abbrev Qbp:SE:=.op .set Qbm (cn Zu (.op .set (el Qbm Qm) Qbj))
abbrev Qbq:SE:=cn Qbd Qk
abbrev Qbr:SE:=.op .set Qb (cn Zu (.op .set Qs Qbq))
abbrev Qbs:SE:=.op .set Qbr (cn Zu (.op .set (el Qbr Qm) (cn Qbf Qx)))
abbrev Qbt:SE:=.op .set Qbr (cn Zu (.op .set (el Qbr Qm) Qbh))
abbrev Qbu:SE:=.op .set Qbr (cn Zu (.op .set (el Qbr Qm) Qbj))
def wC:T Lf:=sp Qn (sp Qp (sp Qq fl (sp Qr (sp Qu (sp Qw (sp Qy (sp Qz (ju 9004 [Qf,Qb,Qo,Q1,Q3,Q4,Q5,Q6,Qt,Qx]) fl) (sp Q7 (ju 9005 [Qf,Qb,Qo,Q1,Q3,Q4,Q5,Q6,Qt,Qh]) (sp Q8 (ju 9005 [Qf,Qb,Qo,Q1,Q3,Q4,Q5,Q6,Qt,Qk]) fl))) fl) (sp Q9 (sp Qy (sp Qz (ju 9006 [Qf,Qb,Qo,Q1,Q3,Q4,Q5,Q6,Qh,Qx]) fl) (sp Q7 (ju 9007 [Qf,Qb,Qo,Q1,Q3,Q4,Q5,Q6,Qh,Qh]) (sp Q8 (ju 9007 [Qf,Qb,Qo,Q1,Q3,Q4,Q5,Q6,Qh,Qk]) fl))) (sp Qba (sp Qy (sp Qz (ju 9006 [Qf,Qb,Qo,Q1,Q3,Q4,Q5,Q6,Qk,Qx]) fl) (sp Q7 (ju 9007 [Qf,Qb,Qo,Q1,Q3,Q4,Q5,Q6,Qk,Qh]) (sp Q8 (ju 9007 [Qf,Qb,Qo,Q1,Q3,Q4,Q5,Q6,Qk,Qk]) fl))) fl))) fl)) Qbb) (sp Qp (sp Qq fl (sp Qr (sp Qu (sp Qw (sp Qy (sp Qz (ju 9001 [Qf,Qbg,Qo,Q1]) fl) (sp Q7 (ju 9001 [Qf,Qbi,Qo,Q1]) (sp Q8 (ju 9001 [Qf,Qbk,Qo,Q1]) fl))) fl) (sp Q9 (sp Qy (sp Qz (ju 9001 [Qf,Qbn,Qo,Q1]) fl) (sp Q7 (ju 9001 [Qf,Qbo,Qo,Q1]) (sp Q8 (ju 9001 [Qf,Qbp,Qo,Q1]) fl))) (sp Qba (sp Qy (sp Qz (ju 9001 [Qf,Qbs,Qo,Q1]) fl) (sp Q7 (ju 9001 [Qf,Qbt,Qo,Q1]) (sp Q8 (ju 9001 [Qf,Qbu,Qo,Q1]) fl))) fl))) fl)) Qbb)
abbrev Qbv:SB:=.eq Qa Qf
def amL:T Lf:=sp Qbv (ou [Q0,Qf]) (ou [Q0,Qf])
abbrev nK:SE:=.lit 2
def amK:T Lf:=sp Qbv (ou [nK,Qf]) (ou [nK,Qf])
abbrev Qbx:T Lf:=sp Qq fl (sp Qr fl fl)
abbrev wS:SE:=.lit 3
abbrev bD:SE:=.aO 4
abbrev bK:SE:=.aO 5
abbrev cZ:SE:=.aO 6
abbrev dX:SE:=.aO 7
abbrev fF:SE:=.aO 8
abbrev fK:SE:=.aO 9
abbrev Qb5:T Lf:=ou [wS,Qf,Qb,bD,bK,cZ,dX,fF,fK]
abbrev Qb6:List SE:=[Qf,Qbg,Qo,Q1,bD,bK,cZ,dX,fF,fK]
abbrev Qb7:List SE:=[Qf,Qbi,Qo,Q1,bD,bK,cZ,dX,fF,fK]
abbrev Qb8:List SE:=[Qf,Qbk,Qo,Q1,bD,bK,cZ,dX,fF,fK]
abbrev Qb9:List SE:=[Qf,Qbn,Qo,Q1,bD,bK,cZ,dX,fF,fK]
abbrev Qca:List SE:=[Qf,Qbo,Qo,Q1,bD,bK,cZ,dX,fF,fK]
abbrev Qcb:List SE:=[Qf,Qbp,Qo,Q1,bD,bK,cZ,dX,fF,fK]
abbrev Qcc:List SE:=[Qf,Qbs,Qo,Q1,bD,bK,cZ,dX,fF,fK]
abbrev Qcd:List SE:=[Qf,Qbt,Qo,Q1,bD,bK,cZ,dX,fF,fK]
abbrev Qce:List SE:=[Qf,Qbu,Qo,Q1,bD,bK,cZ,dX,fF,fK]
def adQ:T Lf:=sp Qn (sp Qp Qbx Qb5) (sp Qp (sp Qq fl (sp Qr (sp Qu (sp Qw (sp Qy (sp Qz (ju 9004 Qb6) fl) (sp Q7 (ju 9004 Qb7) (sp Q8 (ju 9004 Qb8) fl))) fl) (sp Q9 (sp Qy (sp Qz (ju 9004 Qb9) fl) (sp Q7 (ju 9004 Qca) (sp Q8 (ju 9004 Qcb) fl))) (sp Qba (sp Qy (sp Qz (ju 9004 Qcc) fl) (sp Q7 (ju 9004 Qcd) (sp Q8 (ju 9004 Qce) fl))) fl))) fl)) Qb5)
abbrev tC:SE:=.lit 4
abbrev Qcg:T Lf:=ou [tC,Qf,Qb,bD,bK,cZ,dX,fF,fK]
def adP:T Lf:=sp Qn (sp Qp Qbx Qcg) (sp Qp (sp Qq fl (sp Qr (sp Qu (sp Qw (sp Qy (sp Qz (ju 9005 Qb6) fl) (sp Q7 (ju 9005 Qb7) (sp Q8 (ju 9005 Qb8) fl))) fl) (sp Q9 (sp Qy (sp Qz (ju 9005 Qb9) fl) (sp Q7 (ju 9005 Qca) (sp Q8 (ju 9005 Qcb) fl))) (sp Qba (sp Qy (sp Qz (ju 9005 Qcc) fl) (sp Q7 (ju 9005 Qcd) (sp Q8 (ju 9005 Qce) fl))) fl))) fl)) Qcg)
abbrev Qch:SE:=.lit 5
abbrev Qci:T Lf:=ou [Qch,Qf,Qb,bD,bK,cZ,dX,fF,fK]
def adO:T Lf:=sp Qn (sp Qp Qbx Qci) (sp Qp (sp Qq fl (sp Qr (sp Qu (sp Qw (sp Qy (sp Qz (ju 9006 Qb6) fl) (sp Q7 (ju 9006 Qb7) (sp Q8 (ju 9006 Qb8) fl))) fl) (sp Q9 (sp Qy (sp Qz (ju 9006 Qb9) fl) (sp Q7 (ju 9006 Qca) (sp Q8 (ju 9006 Qcb) fl))) (sp Qba (sp Qy (sp Qz (ju 9006 Qcc) fl) (sp Q7 (ju 9006 Qcd) (sp Q8 (ju 9006 Qce) fl))) fl))) fl)) Qci)
abbrev Zt:SE:=.lit 6
abbrev Qck:T Lf:=ou [Zt,Qf,Qb,bD,bK,cZ,dX,fF,fK]
def adN:T Lf:=sp Qn (sp Qp Qbx Qck) (sp Qp (sp Qq fl (sp Qr (sp Qu (sp Qw (sp Qy (sp Qz (ju 9007 Qb6) fl) (sp Q7 (ju 9007 Qb7) (sp Q8 (ju 9007 Qb8) fl))) fl) (sp Q9 (sp Qy (sp Qz (ju 9007 Qb9) fl) (sp Q7 (ju 9007 Qca) (sp Q8 (ju 9007 Qcb) fl))) (sp Qba (sp Qy (sp Qz (ju 9007 Qcc) fl) (sp Q7 (ju 9007 Qcd) (sp Q8 (ju 9007 Qce) fl))) fl))) fl)) Qck)
abbrev Qcl:SE:=ln Qo
abbrev Qcm:SB:=.lt Qa Qcl
abbrev Qcn:SB:=.lt Qcl (.lit 2199023255552)
abbrev Qco:SB:=.eq (.op .norm Qo Qa) Qh
abbrev Qcp:List SE:=[Qf,Qc,Qa,Qb]
abbrev Qcq:SB:=.eq (.op .norm Qo Qa) Qk
def JH:T Lf:=sp Qd (sp Qe (sp Qcm (sp Qcn (ju 9051 [Qf,Qc,Qa,Qb,Qo]) fl) (sp Qco (ju 9052 Qcp) (sp Qcq (ju 9053 Qcp) fl))) fl) (sp Qi (sp Qcm (sp Qcn (ju 9054 [Qf,Qo]) fl) (sp Qco (ju 9055 Qj) (sp Qcq (ju 9056 Qj) fl))) (sp Ql (sp Qcm (sp Qcn (ju 9057 [Qf,Qo]) fl) (sp Qco (ju 9058 Qj) (sp Qcq (ju 9059 Qj) fl))) fl))
abbrev wV:SB:=.lt Qo Qb
abbrev uS:SB:=.lt Qo Qa
abbrev EL:SE:=ln Qm
abbrev Qcu:SB:=.lt Qo EL
abbrev Qcv:SE:=el Qm Qo
abbrev Qcw:SE:=ce 4 Qcv
abbrev Qcx:SB:=.lt Qa (ln Qcw)
abbrev Qcy:SB:=.lt (ln Qcw) Qv
abbrev Qcz:SE:=ce 5 Qcv
abbrev Qc0:SB:=.lt Qa (ln Qcz)
abbrev Qc1:SB:=.lt (ln Qcz) Qv
abbrev kH:SE:=wr (.add Qo Q0)
abbrev F6:SE:=mk Qo
abbrev Qc4:SE:=.op .set Qm (cn F6 (.op .set Qcv (cn Qbd Qcw)))
abbrev Qc5:SE:=.op .set Qc4 (cn F6 (.op .set (el Qc4 Qo) (cn Qbf Qcz)))
abbrev Qc6:SB:=.eq Qcz Qh
abbrev Qc7:SE:=.op .set Qc4 (cn F6 (.op .set (el Qc4 Qo) Qbh))
abbrev Qc8:SB:=.eq Qcz Qk
abbrev Qc9:SE:=.op .set Qc4 (cn F6 (.op .set (el Qc4 Qo) Qbj))
abbrev Qda:SE:=.op .set Qm (cn F6 (.op .set Qcv Qbl))
abbrev Qdb:SE:=.op .set Qda (cn F6 (.op .set (el Qda Qo) (cn Qbf Qcz)))
abbrev Qdc:SE:=.op .set Qda (cn F6 (.op .set (el Qda Qo) Qbh))
abbrev Qdd:SE:=.op .set Qda (cn F6 (.op .set (el Qda Qo) Qbj))
abbrev Qde:SE:=.op .set Qm (cn F6 (.op .set Qcv Qbq))
abbrev Qdf:SE:=.op .set Qde (cn F6 (.op .set (el Qde Qo) (cn Qbf Qcz)))
abbrev Qdg:SE:=.op .set Qde (cn F6 (.op .set (el Qde Qo) Qbh))
abbrev Qdh:SE:=.op .set Qde (cn F6 (.op .set (el Qde Qo) Qbj))
abbrev IG:SE:=ln bD
def adM:T Lf:=sp wV (sp uS fl (sp Qcu (sp Qcx (sp Qcy (sp Qc0 (sp Qc1 (ju 9051 [Qf,Qb,kH,Qc5,bD]) fl) (sp Qc6 (ju 9051 [Qf,Qb,kH,Qc7,bD]) (sp Qc8 (ju 9051 [Qf,Qb,kH,Qc9,bD]) fl))) fl) (sp (.eq Qcw Qh) (sp Qc0 (sp Qc1 (ju 9051 [Qf,Qb,kH,Qdb,bD]) fl) (sp Qc6 (ju 9051 [Qf,Qb,kH,Qdc,bD]) (sp Qc8 (ju 9051 [Qf,Qb,kH,Qdd,bD]) fl))) (sp (.eq Qcw Qk) (sp Qc0 (sp Qc1 (ju 9051 [Qf,Qb,kH,Qdf,bD]) fl) (sp Qc6 (ju 9051 [Qf,Qb,kH,Qdg,bD]) (sp Qc8 (ju 9051 [Qf,Qb,kH,Qdh,bD]) fl))) fl))) fl)) (ju 9060 [Qf,IG,Qa,Qm,bD])
def adL:T Lf:=sp wV (sp uS fl (sp Qcu (sp Qcx (sp Qcy (sp Qc0 (sp Qc1 (ju 9052 [Qf,Qb,kH,Qc5]) fl) (sp Qc6 (ju 9052 [Qf,Qb,kH,Qc7]) (sp Qc8 (ju 9052 [Qf,Qb,kH,Qc9]) fl))) fl) (sp (.eq Qcw Qh) (sp Qc0 (sp Qc1 (ju 9052 [Qf,Qb,kH,Qdb]) fl) (sp Qc6 (ju 9052 [Qf,Qb,kH,Qdc]) (sp Qc8 (ju 9052 [Qf,Qb,kH,Qdd]) fl))) (sp (.eq Qcw Qk) (sp Qc0 (sp Qc1 (ju 9052 [Qf,Qb,kH,Qdf]) fl) (sp Qc6 (ju 9052 [Qf,Qb,kH,Qdg]) (sp Qc8 (ju 9052 [Qf,Qb,kH,Qdh]) fl))) fl))) fl)) (ju 9061 [Qf,Qm])
def aBo:T Lf:=sp wV (sp uS fl (sp Qcu (sp Qcx (sp Qcy (sp Qc0 (sp Qc1 (ju 9053 [Qf,Qb,kH,Qc5]) fl) (sp Qc6 (ju 9053 [Qf,Qb,kH,Qc7]) (sp Qc8 (ju 9053 [Qf,Qb,kH,Qc9]) fl))) fl) (sp (.eq Qcw Qh) (sp Qc0 (sp Qc1 (ju 9053 [Qf,Qb,kH,Qdb]) fl) (sp Qc6 (ju 9053 [Qf,Qb,kH,Qdc]) (sp Qc8 (ju 9053 [Qf,Qb,kH,Qdd]) fl))) (sp (.eq Qcw Qk) (sp Qc0 (sp Qc1 (ju 9053 [Qf,Qb,kH,Qdf]) fl) (sp Qc6 (ju 9053 [Qf,Qb,kH,Qdg]) (sp Qc8 (ju 9053 [Qf,Qb,kH,Qdh]) fl))) fl))) fl)) (ju 9062 [Qf,Qm])
def amJ:T Lf:=ju 9063 Qcp
def aBn:T Lf:=ju 9064 Qj
def aBm:T Lf:=ju 9065 Qj
def aBl:T Lf:=ju 9066 Qcp
def aBk:T Lf:=ju 9067 Qj
def aBj:T Lf:=ju 9068 Qj
abbrev Qdj:SB:=.eq Qo Qf
abbrev Qdk:SB:=.lt Qo IG
abbrev Qdl:SE:=el bD Qo
abbrev Qdm:SE:=ce 1 Qdl
abbrev Qdn:SB:=.lt Qa (ln Qdm)
abbrev Qdo:SB:=.lt (ln Qdm) Qv
abbrev Qdp:SE:=el bD Qf
abbrev Qdq:SE:=nm (ce 0 Qdp)
abbrev Qdr:SE:=nm (ce 2 Qdp)
abbrev Qds:SE:=nm (ce 3 Qdp)
abbrev Qdt:SE:=nm (ce 4 Qdp)
abbrev Qdu:SE:=nm (ce 5 Qdp)
abbrev Qdv:SB:=.eq Qdm Qh
abbrev Qdw:SB:=.eq Qdm Qk
abbrev Qdx:SE:=.op .set bD (cn F6 (.op .set Qdl (cn Qh Qdm)))
abbrev Qdy:SE:=cn Qh Qh
abbrev Qdz:SE:=.op .set bD (cn F6 (.op .set Qdl Qdy))
abbrev Qd0:SE:=cn Qh Qk
abbrev Qd1:SE:=.op .set bD (cn F6 (.op .set Qdl Qd0))
def Gi:T Lf:=sp Qdj (sp wV (sp uS fl (sp Qdk (sp Qdn (sp Qdo (ju 9069 [Qf,Qb,kH,Qm,bD,Qdq,Qdm,Qdr,Qds,Qdt,Qdu]) fl) (sp Qdv (ju 9070 [Qf,Qb,kH,Qm,bD,Qdq,Qh,Qdr,Qds,Qdt,Qdu]) (sp Qdw (ju 9070 [Qf,Qb,kH,Qm,bD,Qdq,Qk,Qdr,Qds,Qdt,Qdu]) fl))) fl)) (ou [Qa,Qf,Qm,bD])) (sp wV (sp uS fl (sp Qdk (sp Qdn (sp Qdo (ju 9060 [Qf,Qb,kH,Qm,Qdx]) fl) (sp Qdv (ju 9060 [Qf,Qb,kH,Qm,Qdz]) (sp Qdw (ju 9060 [Qf,Qb,kH,Qm,Qd1]) fl))) fl)) (ou [Qa,Qf,Qm,bD]))
abbrev Qd2:T Lf:=ou [Q0,Qf,Qb]
def amI:T Lf:=sp Qbv Qd2 Qd2
def aBi:T Lf:=sp Qbv (ou [nK,Qf,Qb]) (ou [nK,Qf,Qb])
abbrev Qd3:SE:=ce 1 Qcv
abbrev Qd4:SB:=.lt Qa (ln Qd3)
abbrev Qd5:SB:=.lt (ln Qd3) Qv
abbrev Qd6:SE:=el Qm Qf
abbrev Qd7:SE:=nm (ce 0 Qd6)
abbrev Qd8:SE:=nm (ce 2 Qd6)
abbrev Qd9:SE:=nm (ce 3 Qd6)
abbrev Qea:SE:=nm (ce 4 Qd6)
abbrev Qeb:SE:=nm (ce 5 Qd6)
abbrev Qec:List SE:=[Qf,Qb,kH,Qm,Qd7,Qd3,Qd8,Qd9,Qea,Qeb]
abbrev Qed:SB:=.eq Qd3 Qh
abbrev Qee:List SE:=[Qf,Qb,kH,Qm,Qd7,Qh,Qd8,Qd9,Qea,Qeb]
abbrev Qef:SB:=.eq Qd3 Qk
abbrev Qeg:List SE:=[Qf,Qb,kH,Qm,Qd7,Qk,Qd8,Qd9,Qea,Qeb]
abbrev Qeh:SE:=.op .set Qm (cn F6 (.op .set Qcv (cn Qh Qd3)))
abbrev Qei:SE:=.op .set Qm (cn F6 (.op .set Qcv Qdy))
abbrev Qej:SE:=.op .set Qm (cn F6 (.op .set Qcv Qd0))
def Gh:T Lf:=sp Qdj (sp wV (sp uS fl (sp Qcu (sp Qd4 (sp Qd5 (ju 9071 Qec) fl) (sp Qed (ju 9072 Qee) (sp Qef (ju 9072 Qeg) fl))) fl)) (ou [Qa,Qf,Qh,Qm])) (sp wV (sp uS fl (sp Qcu (sp Qd4 (sp Qd5 (ju 9063 [Qf,Qb,kH,Qeh]) fl) (sp Qed (ju 9063 [Qf,Qb,kH,Qei]) (sp Qef (ju 9063 [Qf,Qb,kH,Qej]) fl))) fl)) (ou [Qa,Qf,Qh,Qm]))
def amH:T Lf:=sp Qbv (ou [Q0,Qf,Qh]) (ou [Q0,Qf,Qh])
def aBh:T Lf:=sp Qbv (ou [nK,Qf,Qh]) (ou [nK,Qf,Qh])
def aBg:T Lf:=sp Qdj (sp wV (sp uS fl (sp Qcu (sp Qd4 (sp Qd5 (ju 9073 Qec) fl) (sp Qed (ju 9074 Qee) (sp Qef (ju 9074 Qeg) fl))) fl)) (ou [Qa,Qf,Qk,Qm])) (sp wV (sp uS fl (sp Qcu (sp Qd4 (sp Qd5 (ju 9066 [Qf,Qb,kH,Qeh]) fl) (sp Qed (ju 9066 [Qf,Qb,kH,Qei]) (sp Qef (ju 9066 [Qf,Qb,kH,Qej]) fl))) fl)) (ou [Qa,Qf,Qk,Qm]))
def aBf:T Lf:=sp Qbv (ou [Q0,Qf,Qk]) (ou [Q0,Qf,Qk])
def aBe:T Lf:=sp Qbv (ou [nK,Qf,Qk]) (ou [nK,Qf,Qk])
abbrev Qek:T Lf:=sp uS fl (sp Qdk fl fl)
abbrev jH:SE:=.aO 10
abbrev Qem:T Lf:=ou [wS,Qf,Qm,bD,bK,cZ,dX,fF,fK,jH]
abbrev Qen:List SE:=[Qf,Qb,kH,Qm,Qdx,bK,cZ,dX,fF,fK,jH]
abbrev Qeo:List SE:=[Qf,Qb,kH,Qm,Qdz,bK,cZ,dX,fF,fK,jH]
abbrev Qep:List SE:=[Qf,Qb,kH,Qm,Qd1,bK,cZ,dX,fF,fK,jH]
def adK:T Lf:=sp Qdj (sp wV Qek Qem) (sp wV (sp uS fl (sp Qdk (sp Qdn (sp Qdo (ju 9069 Qen) fl) (sp Qdv (ju 9069 Qeo) (sp Qdw (ju 9069 Qep) fl))) fl)) Qem)
abbrev Qeq:T Lf:=ou [tC,Qf,Qm,bD,bK,cZ,dX,fF,fK,jH]
def adJ:T Lf:=sp Qdj (sp wV Qek Qeq) (sp wV (sp uS fl (sp Qdk (sp Qdn (sp Qdo (ju 9070 Qen) fl) (sp Qdv (ju 9070 Qeo) (sp Qdw (ju 9070 Qep) fl))) fl)) Qeq)
abbrev Qer:T Lf:=sp uS fl (sp Qcu fl fl)
abbrev Qes:T Lf:=ou [wS,Qf,Qh,Qm,bD,bK,cZ,dX,fF,fK]
abbrev Qet:List SE:=[Qf,Qb,kH,Qeh,bD,bK,cZ,dX,fF,fK]
abbrev Qeu:List SE:=[Qf,Qb,kH,Qei,bD,bK,cZ,dX,fF,fK]
abbrev Qev:List SE:=[Qf,Qb,kH,Qej,bD,bK,cZ,dX,fF,fK]
def adI:T Lf:=sp Qdj (sp wV Qer Qes) (sp wV (sp uS fl (sp Qcu (sp Qd4 (sp Qd5 (ju 9071 Qet) fl) (sp Qed (ju 9071 Qeu) (sp Qef (ju 9071 Qev) fl))) fl)) Qes)
abbrev Qew:T Lf:=ou [tC,Qf,Qh,Qm,bD,bK,cZ,dX,fF,fK]
def adH:T Lf:=sp Qdj (sp wV Qer Qew) (sp wV (sp uS fl (sp Qcu (sp Qd4 (sp Qd5 (ju 9072 Qet) fl) (sp Qed (ju 9072 Qeu) (sp Qef (ju 9072 Qev) fl))) fl)) Qew)
abbrev Qex:T Lf:=ou [wS,Qf,Qk,Qm,bD,bK,cZ,dX,fF,fK]
def aBd:T Lf:=sp Qdj (sp wV Qer Qex) (sp wV (sp uS fl (sp Qcu (sp Qd4 (sp Qd5 (ju 9073 Qet) fl) (sp Qed (ju 9073 Qeu) (sp Qef (ju 9073 Qev) fl))) fl)) Qex)
abbrev Qey:T Lf:=ou [tC,Qf,Qk,Qm,bD,bK,cZ,dX,fF,fK]
def aBb:T Lf:=sp Qdj (sp wV Qer Qey) (sp wV (sp uS fl (sp Qcu (sp Qd4 (sp Qd5 (ju 9074 Qet) fl) (sp Qed (ju 9074 Qeu) (sp Qef (ju 9074 Qev) fl))) fl)) Qey)
abbrev sZ:SE:=ln Qf
def aFB:T Lf:=ju 101 [wr (.add sZ Qc),Qc,Qa,Qf,Qb]
abbrev mW:T Lf:=ou [Q0]
abbrev bP:T Lf:=ou [Qa]
def aFA:T Lf:=sp wV (sp uS fl (sp Qdk (ju 102 [wr (.add Qf (wr (.add (ln Qdm) (ln (ce 2 Qdl))))),Qo,Qa,Qb,Qm,bD]) fl)) (sp (.lt (.lit 6000) Qf) mW bP)
abbrev Qe2:SB:=.lt Qb Qa
abbrev Zd:SE:=el bK Qb
abbrev vX:SE:=wr (.add Qb Q0)
abbrev Qe5:T Lf:=ju 101 [Qf,Qm,vX,bD,bK]
abbrev Qe6:SE:=ce 6 (el (ce 2 Zd) Qo)
def aFz:T Lf:=sp Qe2 fl (sp (.lt Qb (ln bK)) (sp (.lt Qo (ln (ce 2 Zd))) (sp (.lt (.lit 6000) Qf) Qe5 (sp uS fl (ju 103 [Qf,Qb,Qo,Qm,Qe6,ln Qe6,Qa,bD,bK]))) Qe5) fl)
abbrev Qe7:SB:=.lt cZ Qa
abbrev Qe8:SE:=el bD cZ
abbrev Qe9:List SE:=[nm (ce 0 Qe8),ce 1 Qe8,nm (ce 2 Qe8),ce 3 Qe8,.lit 60]
def aFy:T Lf:=sp (.lt cZ bK) (sp Qe7 fl (sp (.lt cZ IG) (sp (.eq (a0 150 Qe9) Q0) (ju 103 [wr (.add Qf (rr 150 Qe9 0)),Qb,Qo,Qm,bD,bK,wr (.add cZ Q0),dX,fF]) fl) fl)) (ju 102 [Qf,Qb,kH,Qm,dX,fF])
abbrev Qfa:SB:=.lt bD Q0
abbrev Qfb:SE:=.lit 100
def aFx:T Lf:=sp Qfa (ou [.lit 10000]) (ju 151 [bD,wr (.add Q0 (wr (.quo Qc Qfb))),Qa,Qf,Qb,Qo,Qm])
abbrev Qfc:SE:=ln cZ
abbrev Qfd:SE:=el cZ Qo
abbrev Qfe:List SE:=[nm (ce 0 Qfd),ce 1 Qfd,nm (ce 2 Qfd),ce 3 Qfd,wr (.sub Qf Q0)]
def aFw:T Lf:=sp (.lt Qo Qfc) (sp (.lt (.lit 10000) Qb) (ou [Qb]) (sp uS fl (sp (.eq (a0 150 Qfe) Q0) (ju 151 [Qf,wr (.add Qb (rr 150 Qfe 0)),kH,Qm,bD,bK,cZ]) fl))) (ou [Qb])
abbrev Qff:SB:=.eq sZ Qc
abbrev Qfg:List SE:=[Qf,Qb,sZ,Qa]
def axT:T Lf:=sp Qff (ju 201 Qfg) bP
abbrev Qfh:SB:=.lt Qm sZ
abbrev Qfi:SE:=el Qf Qm
abbrev Qfj:SE:=nm (ce 0 Qs)
abbrev Qfk:SB:=.eq (nm (ce 0 Qfi)) Qfj
abbrev Qfl:SB:=.eq (nm (ce 1 Qfi)) (nm (ce 1 Qs))
abbrev Qfm:SE:=nm (ce 2 Qfi)
abbrev Qfn:SE:=nm (ce 2 Qs)
abbrev Qfo:SB:=.eq (nm (ce 3 Qfi)) (nm (ce 3 Qs))
def t201:T Lf:=sp Qp (sp Qq fl (sp Qfh (sp Qr (sp Qfk (sp Qfl (sp (.and (.not (.and (.not (.eq Qfm Qa)) (.not (.eq Qfn Qa)))) (.not (.and (.not (.not (.eq Qfm Qa))) (.not (.not (.eq Qfn Qa)))))) bP (sp Qfo (sp (.eq (a0 250 [ce 4 Qfi,Qt]) Q0) (sp (.eq (rr 250 [ce 4 Qfi,Qt] 0) Qa) bP (sp (.eq (ln (ce 5 Qfi)) (ln Qx)) (ju 202 [Qf,Qb,Qo,Qm,ln (ce 5 Qfi),Qa,nm (ce 0 Qfi),nm (ce 1 Qfi),Qfm,nm (ce 3 Qfi),ce 4 Qfi,ce 5 Qfi,Qfj,nm (ce 1 Qs),Qfn,nm (ce 3 Qs),Qt,Qx]) bP)) fl) bP)) bP) bP) fl) fl)) mW
abbrev Qfp:SB:=.lt bK Qa
abbrev kP:SE:=.aO 11
abbrev Qfr:SE:=.aO 17
abbrev Qfs:SE:=wr (.add bK Q0)
abbrev nR:SE:=.aO 12
abbrev mV:SE:=.aO 13
abbrev qE:SE:=.aO 14
abbrev UH:SE:=.aO 15
abbrev Qfx:SE:=.aO 16
abbrev Qfy:List SE:=[Qf,Qb,Qo,Q1]
def anM:T Lf:=sp (.lt bK bD) (sp Qfp fl (sp (.lt bK (ln kP)) (sp (.lt bK (ln Qfr)) (sp (.eq (nm (el kP bK)) (nm (el Qfr bK))) (ju 202 [Qf,Qb,Qo,Qm,bD,Qfs,cZ,dX,fF,fK,jH,kP,nR,mV,qE,UH,Qfx,Qfr]) bP) fl) fl)) (ju 201 Qfy)
def axS:T Lf:=sp Qff (ju 251 [Qf,Qb,Qa]) bP
abbrev QO:SB:=.lt Qo sZ
abbrev Qf0:SB:=.lt Qo Qc
abbrev Xc:SE:=el Qf Qo
abbrev Qf2:SE:=el Qb Qo
def anJ:T Lf:=sp QO (sp uS fl (sp Qf0 (sp (.eq (nm Xc) (nm Qf2)) (ju 251 [Qf,Qb,kH]) bP) fl)) mW
abbrev KJ:List SE:=[Qf,Qb]
abbrev Qf4:SB:=.eq (a0 450 KJ) Q0
abbrev Qf5:SB:=.eq (rr 450 KJ 0) Qa
def anI:T Lf:=sp Qf4 (sp Qf5 (ju 301 [Qf,sZ]) (ou [Qh])) fl
abbrev Qf6:SB:=.lt Qa Qb
abbrev Qf7:SB:=.lt Qa sZ
abbrev Qf8:SE:=el Qf Qa
abbrev Qf9:SE:=nm (ce 0 Qf8)
abbrev jK:SE:=.dat (.i 0)
abbrev Qgb:SE:=.dat (.i (-1))
abbrev Qgc:SE:=mk (nm (ce 2 Qf8))
abbrev Qgd:SE:=cn Qh jK
abbrev Qge:SE:=cn jK (cn jK (cn Qh Qgd))
abbrev Qgf:T Lf:=ju 302 [.op .snoc jK (cn Qgb (cn Qgc Qge)),Qf,Qb,Q0]
abbrev Qgg:SE:=.lit 9
def ZE:T Lf:=sp Qf6 (sp Qf7 (sp (.eq Qf9 wS) Qgf (sp (.eq Qf9 Qgg) Qgf (ju 302 [.op .snoc jK (cn Qgb (cn jK Qge)),Qf,Qb,Q0]))) fl) (ou [Qh])
abbrev Qgh:SB:=.lt sZ (.lit 1759218604440)
abbrev Qgi:T Lf:=sp Qgh (ju 302 [.op .snoc Qf (cn Qgb (cn (mk Qfn) Qge)),Qb,Qo,Q1]) fl
def axR:T Lf:=sp Qp (sp Qq fl (sp Qr (sp (.eq Qfj wS) Qgi (sp (.eq Qfj Qgg) Qgi (sp Qgh (ju 302 [.op .snoc Qf (cn Qgb (cn jK Qge)),Qb,Qo,Q1]) fl))) fl)) (ou Qj)
def anF:T Lf:=sp Qf4 (sp Qf5 (sp (.eq Qcl sZ) (ju 351 [Qo,Qcl,Qa,Qf,Qb]) bP) bP) fl
abbrev Qgj:SE:=nm (ce 2 Xc)
abbrev Qgk:SE:=nm (ce 0 Xc)
abbrev JD:SE:=ce 1 Xc
abbrev Qgm:SE:=ce 3 Xc
abbrev Xa:SE:=ce 4 Xc
abbrev Qgo:SE:=ce 5 Xc
abbrev Qgp:List SE:=[nm (ce 0 Qcv),Qd3,nm (ce 2 Qcv),ce 3 Qcv,nm Qcw,Qgk,nm JD,Qa,nm Qgm,Xa,Qgo,IG]
abbrev Qgq:T Lf:=ju 351 [Qf,Qb,kH,Qm,bD]
abbrev Qgr:List SE:=[nm (ce 0 Qcv),Qd3,nm (ce 2 Qcv),ce 3 Qcv,nm Qcw,Qgk,nm JD,Q0,nm Qgm,Xa,Qgo,IG]
def ZC:T Lf:=sp wV (sp uS fl (sp QO (sp Qcu (sp (.eq Qgj Qa) (sp (.eq (a0 500 Qgp) Q0) (sp (.eq (rr 500 Qgp 0) Qa) bP Qgq) fl) (sp (.eq (a0 500 Qgr) Q0) (sp (.eq (rr 500 Qgr 0) Qa) bP Qgq) fl)) fl) fl)) mW
abbrev Qgs:List SE:=[bK,Qo]
abbrev Qgt:SE:=rr 9000 Qgs 0
abbrev Qgu:List SE:=[Qf,Qb,Qo]
abbrev Qgv:SB:=.eq (a0 350 Qgu) Q0
abbrev Qgw:SB:=.eq (rr 350 Qgu 0) Qa
abbrev F7:SE:=rr 9000 Qgs 2
abbrev Qgy:T Lf:=ou [F7,Qa,Qa,Qa,Qa,Qa,Qa]
abbrev Qgz:T Lf:=sp Qgv (sp Qgw Qgy (sp Qq Qgy (sp Qr Qgy Qgy))) fl
abbrev Qg0:SB:=.lt bK (ln F7)
abbrev Qg1:T Lf:=ou [Qh,Qa,Qa,Qa,Qa,Qa,Qa]
abbrev Qg2:T Lf:=ou [Qk,Qa,Qa,Qa,Qa,Qa,Qa]
abbrev KI:SE:=mk bK
abbrev Qg4:SE:=rr 9000 Qgs 3
abbrev Xb:SE:=mk Qg4
abbrev Zc:SE:=rr 9000 Qgs 4
abbrev Zr:SE:=mk Zc
abbrev Qg8:SE:=rr 9000 Qgs 5
abbrev Qg9:SE:=.op .bit (mk Qg8) Qa
abbrev Qha:SE:=rr 9000 Qgs 6
abbrev Qhb:SE:=mk Qha
abbrev WY:SE:=rr 9000 Qgs 7
abbrev Qhd:SE:=rr 9000 Qgs 8
abbrev Qhe:SE:=cn Qhd jK
abbrev Qhf:SE:=cn Qg9 (cn Qhb (cn WY Qhe))
abbrev Qhg:SE:=cn KI (cn Xb (cn Zr Qhf))
abbrev Qhh:SE:=.op .set F7 Qhg
abbrev MG:T Lf:=ou [Qhh,Qa,Qa,Qa,Qa,Qa,Qa]
abbrev Qhj:SB:=.eq (a0 600 [bD]) Q0
abbrev Qhk:SB:=.lt bK sZ
abbrev Qhl:SB:=.eq (rr 600 [bD] 0) (nm (ce 0 (el Qf bK)))
abbrev Qhm:SB:=.eq bD Q0
abbrev Qhn:SB:=.eq Qg4 Qm
abbrev KH:T Lf:=sp (.eq (a0 550 [Qo]) Q0) (ou [rr 550 [Qo] 0,Qm,.lit 27,bK,wr bD,Qa,nK]) fl
abbrev Qhp:SB:=.eq (a0 900 [WY,Qm]) Q0
abbrev Qhq:SB:=.eq (rr 900 [WY,Qm] 0) Qa
abbrev Qhr:SB:=.lt Qg4 Qa
abbrev Qhs:SE:=.op .set F7 (cn KI (cn Zu (cn Zr Qhf)))
abbrev Zq:T Lf:=sp (.eq (a0 550 [Qo]) Q0) (ou [rr 550 [Qo] 0,Qa,Qa,Qa,Qa,Qa,Qa]) fl
abbrev Qhu:T Lf:=sp Qhr (ou [Qhs,Qm,bD,bK,Qa,Qa,nK]) Zq
abbrev Qhv:T Lf:=sp Qhn KH (sp Qhp (sp Qhq Qhu KH) fl)
abbrev Qhw:SB:=.eq bD nK
abbrev Qhx:T Lf:=sp Qhn (ou [.op .set F7 (cn KI (cn Qgb (cn Zr Qhf))),Qm,bD,bK,Qa,Qa,nK]) KH
abbrev Qhy:SB:=.eq bD (.lit 8)
abbrev Qhz:SB:=.eq bD wS
abbrev Qh0:T Lf:=ou [Qhs,Qm,bD,bK,Q0,Qa,nK]
abbrev Qh1:T Lf:=ou [Qhh,Qm,bD,bK,Qa,Qa,nK]
abbrev Qh2:T Lf:=sp Qhr Qh0 Qh1
abbrev Qh3:SB:=.eq bD tC
abbrev Qh4:T Lf:=sp Qhr Qh0 (sp (.lt dX cZ) Zq Qh1)
abbrev Qh5:SB:=.eq bD Qch
abbrev QY:SE:=ln WY
abbrev Qh7:SE:=.lit 17592186044415
abbrev Qh8:SE:=cn Zr (cn Qg9 (cn Qhb (cn (.op .snoc WY Zu) Qhe)))
abbrev Qh9:T Lf:=sp Qhn KH (sp Qhp (sp Qhq (sp Qhr (sp (.lt QY Qh7) (ou [.op .set F7 (cn KI (cn Xb Qh8)),Qm,bD,bK,Qa,Qa,nK]) fl) Zq) KH) fl)
abbrev Qia:SB:=.eq bD Zt
abbrev Qib:SB:=.eq (a0 850 [WY,Qm]) Q0
abbrev Qic:SE:=rr 850 [WY,Qm] 0
abbrev Qid:SE:=wr (.add Qic Q0)
abbrev Qie:SE:=.sub QY Qid
abbrev Qif:SE:=.add Qic Qie
abbrev Qig:SE:=.op .cat (.op .cat (.op .take WY Qic) (.op .drop (.op .take WY (.add Qid Qie)) Qid)) (.op .drop WY Qif)
abbrev Qih:SE:=.op .fill Qig (cn (mk Qif) jK)
abbrev Qii:T Lf:=sp (.lt (.sub QY Qif) Qa) fl (sp (.eq (.add Qif (.sub QY Qif)) (ln Qig)) (sp (.lt (ln Qih) Qif) fl (ou [.op .set F7 (cn KI (cn Xb (cn Zr (cn Qg9 (cn Qhb (cn (.op .take Qih Qif) Qhe)))))),Qm,bD,bK,Qa,Qa,nK])) fl)
abbrev Qij:T Lf:=sp Qib (sp (.lt Qic Qa) KH (sp (.lt Qid Qic) fl (sp (.lt QY Qid) fl (sp (.lt QY QY) fl (sp (.eq Qic Qid) Qh1 (sp (.lt QY Qic) fl (sp (.lt Qid Qa) fl (sp (.lt Qie Qa) fl (sp (.lt QY (.add Qid Qie)) fl (sp (.lt QY Qif) fl (sp (.lt Qif Qa) fl (sp (.lt Qif QY) (sp (.lt (ln Qig) QY) fl Qii) Qii)))))))))))) fl
abbrev Qik:SE:=.lit 7
abbrev Qil:SB:=.eq bD Qik
abbrev Qim:T Lf:=sp Qhn KH (sp Qhp (sp Qhq (sp (.eq QY Qa) Qhu Zq) KH) fl)
abbrev Qin:SB:=.eq bD Qgg
abbrev Qio:SE:=.op .set F7 (cn KI (cn Xb (cn (mk (wr (.sub Zc Q0))) Qhf)))
abbrev Qip:T Lf:=sp (.lt Qa Zc) (ou [Qio,Qm,bD,bK,Qa,Qa,nK]) Zq
abbrev Qiq:SB:=.eq bD (.lit 11)
abbrev Qir:T Lf:=sp (.lt Qa Zc) (ou [Qio,Qm,bD,bK,Q0,Qa,nK]) Qh1
abbrev Qis:SE:=.lit 10
abbrev Qit:SB:=.eq bD Qis
abbrev Qiu:SE:=nm (ce 2 (el Qf bK))
abbrev Qiv:SE:=.op .set F7 (cn KI (cn Xb (cn (mk (wr (.add Zc Q0))) Qhf)))
abbrev Qiw:T Lf:=sp (.lt Zc Qiu) (ou [Qiv,Qm,bD,bK,Qa,Qa,nK]) KH
abbrev Qix:SB:=.eq bD (.lit 17)
abbrev Qiy:T Lf:=sp (.lt cZ (wr (.sub Qa Zc))) KH (sp (.lt (wr (.sub (.lit 1099511627776) Zc)) cZ) KH (ou [.op .set F7 (cn KI (cn Xb (cn (mk (wr (.add Zc cZ))) Qhf))),Qm,bD,bK,wr (.add Zc cZ),Qa,nK]))
abbrev Qiz:SB:=.eq bD (.lit 18)
abbrev Qi0:T Lf:=sp (.lt Qa Zc) (ou [Qio,Qm,bD,bK,wr (.sub Zc Q0),Qa,nK]) KH
abbrev Qi1:SB:=.eq bD (.lit 19)
abbrev Qi2:T Lf:=sp (.eq Zc Qa) Qh1 Zq
abbrev Qi3:SB:=.eq bD (.lit 22)
abbrev Qi4:T Lf:=ou [Qhh,Qm,bD,bK,Zc,Qa,nK]
abbrev Qi5:SB:=.eq bD (.lit 23)
abbrev Qi6:T Lf:=ou [.op .set F7 (cn KI (cn Xb (cn (mk cZ) Qhf))),Qm,bD,bK,cZ,Qa,nK]
abbrev Zp:SE:=.lit 20
abbrev Qi8:SB:=.eq bD Zp
abbrev Qi9:T Lf:=sp (.lt (ln Qhd) Qiu) (sp (.lt (ln Qhd) Qh7) (ou [.op .set F7 (cn KI (cn Xb (cn Zr (cn Qg9 (cn Qhb (cn WY (cn (.op .snoc Qhd (mk cZ)) jK))))))),Qm,bD,bK,cZ,Qa,nK]) fl) Zq
abbrev Qja:SB:=.eq bD (.lit 21)
abbrev Qjb:SE:=.add Q0 (.sub (ln Qhd) Q0)
abbrev Qjc:T Lf:=sp (.eq (ln Qhd) Qa) Zq (sp (.lt (.sub (ln Qhd) Q0) Qa) fl (sp (.lt (ln Qhd) Qjb) fl (ou [.op .set F7 (cn KI (cn Xb (cn Zr (cn Qg9 (cn Qhb (cn WY (cn (.op .drop (.op .take Qhd Qjb) Q0) jK))))))),Qm,bD,bK,nm (el Qhd Qa),Qa,nK])))
abbrev Qjd:SB:=.eq bD (.lit 12)
abbrev Qje:SB:=.lt Qiu Qa
abbrev Qjf:SB:=.lt Qiu (ln F7)
abbrev Qjg:SB:=.eq Qiu bK
abbrev Qjh:SE:=.lit (-1)
abbrev Qji:List SE:=[WY,Qm,bK,Qiu,F7,bD,cZ,dX,Qjh,Zc,Qg8,Qha,Qhd]
abbrev Qjj:T Lf:=sp (.lt QY Qh7) (ou [.op .set F7 (cn KI (cn Qgb Qh8)),Qm,bD,bK,Qa,Qa,wS]) fl
abbrev Qjk:SE:=rr 12000 Qji 14
abbrev Qjl:SE:=rr 12000 Qji 15
abbrev Qjm:SE:=.add Qjk Q0
abbrev Qjn:SE:=.op .snoc jK Zu
abbrev Qjo:SE:=.op .cat (.op .cat (.op .take Qjl Qjk) Qjn) (.op .drop Qjl Qjm)
abbrev Qjp:SE:=nm (ce 0 (el F7 Qiu))
abbrev Qjq:SB:=.eq Qjp Qm
abbrev Qjr:SE:=.op .set F7 (cn (mk Qiu) (.op .set (el F7 Qiu) (cn jK Qgb)))
abbrev Qjs:List SE:=[WY,Qm,bK,Qiu,Qjr,bD,cZ,dX,Qg4,Zc,Qg8,Qha,Qhd]
abbrev Qjt:T Lf:=sp (.lt QY Qh7) (ou [.op .set Qjr (cn KI (cn Xb Qh8)),Qm,bD,bK,Qa,Qa,wS]) fl
abbrev Qju:SE:=rr 12000 Qjs 14
abbrev Qjv:SE:=rr 12000 Qjs 15
abbrev Qjw:SE:=.add Qju Q0
abbrev Qjx:SE:=.op .cat (.op .cat (.op .take Qjv Qju) Qjn) (.op .drop Qjv Qjw)
abbrev Qjy:SE:=.op .set F7 (cn KI (cn Xb (cn Zr (cn Qg9 (cn Qhb (cn Qh Qhe))))))
abbrev Qjz:SE:=.lit 24
abbrev Qj0:SE:=.lit 4611686018427387904
abbrev Qj1:SE:=.lit 25
abbrev Qj2:SE:=.lit 16
abbrev Qj3:T Lf:=sp (.eq bD Qjz) (sp Qje fl (sp Qjf (sp Qhp (sp Qhq (sp Qjg Qhu (sp (.lt Qjp Qa) (ou [.op .set (.op .set F7 (cn (mk Qiu) (.op .set (el F7 Qiu) (cn jK Zu)))) Qhg,Qm,bD,bK,Qa,Qa,nK]) Zq)) Zq) fl) fl)) (sp (.eq bD (.lit 15)) (sp (.lt Qha Qj0) (sp (.eq (wr (.add Zc Q0)) Qiu) (ou [.op .set F7 (cn KI (cn Xb (cn jK (cn Qg9 (cn (mk (wr (.add Qha Q0))) (cn WY Qhe)))))),Qm,bD,bK,Qha,Qa,wS]) (ou [Qiv,Qm,bD,bK,Qha,Qa,wS])) KH) (sp (.eq bD Qj1) (sp (.lt cZ Qha) (ou [Qhh,Qm,bD,bK,cZ,Qa,nK]) Zq) (sp (.eq bD Qj2) (sp (.eq Qg8 Qa) (sp Qhn KH (sp Qhr Qh0 Zq)) Qh1) (sp (.eq bD (.lit 26)) (sp Qhn (ou [.op .set F7 (cn KI (cn Qgb (cn Zr (cn Qh (cn Qhb (cn WY Qhe)))))),Qm,bD,bK,Qa,Qa,nK]) KH) fl))))
abbrev Qj4:T Lf:=sp (.eq bD (.lit 13)) (sp (.eq QY Qa) Qh1 (sp (.lt (.sub QY Q0) Qa) fl (sp (.lt QY (.add Q0 (.sub QY Q0))) fl (ou [.op .set F7 (cn KI (cn Xb (cn Zr (cn Qg9 (cn Qhb (cn (.op .drop (.op .take WY (.add Q0 (.sub QY Q0))) Q0) Qhe)))))),Qm,bD,bK,wr (.add (nm (el WY Qa)) Q0),Qa,nK])))) (sp (.eq bD (.lit 14)) (ou [Qjy,Qm,bD,bK,QY,Qa,nK]) Qj3)
abbrev Qj5:T Lf:=sp (.lt Qa Qiu) (ou [.op .set F7 (cn KI (cn Xb (cn Zr (cn Qg9 (cn Qhb (cn WY (cn (.op .snoc jK (mk cZ)) jK))))))),Qm,bD,bK,cZ,Qa,nK]) Zq
abbrev Qj6:SE:=rr 12100 Qji 14
abbrev Qj7:SE:=rr 12100 Qji 15
abbrev Qj8:SE:=.add Qj6 Q0
abbrev Qj9:SE:=.op .cat (.op .cat (.op .take Qj7 Qj6) Qjn) (.op .drop Qj7 Qj8)
abbrev Qka:SE:=rr 12100 Qjs 14
abbrev Qkb:SE:=rr 12100 Qjs 15
abbrev Qkc:SE:=.add Qka Q0
abbrev Qkd:SE:=.op .cat (.op .cat (.op .take Qkb Qka) Qjn) (.op .drop Qkb Qkc)
abbrev Qke:SE:=cn Zr (cn Qg9 (cn Qhb (cn Qjn Qhe)))
abbrev Qkf:T Lf:=sp Qhn KH (sp Qhp (sp Qhq (sp Qhr (ou [.op .set F7 (cn KI (cn Xb Qke)),Qm,bD,bK,Qa,Qa,nK]) Zq) KH) fl)
abbrev Qkg:T Lf:=sp Qib (sp (.lt Qic Qa) KH fl) fl
abbrev Qkh:T Lf:=ou [.op .set F7 (cn KI (cn Qgb Qke)),Qm,bD,bK,Qa,Qa,wS]
abbrev Qki:T Lf:=ou [.op .set Qjr (cn KI (cn Xb Qke)),Qm,bD,bK,Qa,Qa,wS]
abbrev Qkj:T Lf:=sp (.eq bD (.lit 13)) Qh1 (sp (.eq bD (.lit 14)) (ou [Qjy,Qm,bD,bK,Qa,Qa,nK]) Qj3)
def lG:T Lf:=sp (.eq (a0 9000 Qgs) Q0) (sp (.eq Qgt Qa) (sp Qfp Qgz (sp Qg0 fl Qgz)) (sp (.eq Qgt Q0) (sp Qgv (sp Qgw Qg1 (sp Qq Qg1 (sp Qr (sp Qfp Qg1 Qg1) Qg1))) fl) (sp (.eq Qgt nK) (sp Qgv (sp Qgw Qg2 (sp Qq Qg2 (sp Qr (sp Qfp Qg2 Qg2) Qg2))) fl) (sp (.eq Qgt wS) (sp Qgv (sp Qgw MG (sp Qq MG (sp Qr (sp Qfp MG (sp Qg0 (sp Qhj (sp Qhk (sp Qhl (sp Qhm Qhv (sp Qhw Qhx (sp Qhy Qhx (sp Qhz Qh2 (sp Qh3 Qh4 (sp Qh5 Qh9 (sp Qia Qij (sp Qil Qim (sp Qin Qip (sp Qiq Qir (sp Qit Qiw (sp Qix Qiy (sp Qiz Qi0 (sp Qi1 Qi2 (sp Qi3 Qi4 (sp Qi5 Qi6 (sp Qi8 Qi9 (sp Qja Qjc (sp Qjd (sp Qje fl (sp Qjf (sp Qjg (sp Qhn (sp (.eq (a0 12000 Qji) Q0) (sp (.eq (rr 12000 Qji 0) Qa) Qjj (sp (.eq (rr 12000 Qji 0) Q0) (sp (.lt Qjk Qa) fl (sp (.lt (ln Qjl) Qjm) fl (sp (.lt Qjm Qa) fl (sp (.lt (ln Qjo) Qjm) fl (ou [.op .set F7 (cn KI (cn Qgb (cn Zr (cn Qg9 (cn Qhb (cn (.op .take Qjo Qjm) Qhe)))))),Qm,bD,bK,Qa,Qa,wS]))))) fl)) fl) KH) (sp Qjq (sp (.eq (a0 12000 Qjs) Q0) (sp (.eq (rr 12000 Qjs 0) Qa) Qjt (sp (.eq (rr 12000 Qjs 0) Q0) (sp (.lt Qju Qa) fl (sp (.lt (ln Qjv) Qjw) fl (sp (.lt Qjw Qa) fl (sp (.lt (ln Qjx) Qjw) fl (ou [.op .set Qjr (cn KI (cn Xb (cn Zr (cn Qg9 (cn Qhb (cn (.op .take Qjx Qjw) Qhe)))))),Qm,bD,bK,Qa,Qa,wS]))))) fl)) fl) KH)) fl)) Qj4))))))))))))))))))) MG) fl) fl) MG)) MG))) fl) (sp (.eq Qgt tC) (sp Qgv (sp Qgw MG (sp Qq MG (sp Qr (sp Qfp MG (sp Qg0 (sp Qhj (sp Qhk (sp Qhl (sp Qhm Qhv (sp Qhw Qhx (sp Qhy Qhx (sp Qhz Qh2 (sp Qh3 Qh4 (sp Qh5 Qh9 (sp Qia Qij (sp Qil Qim (sp Qin Qip (sp Qiq Qir (sp Qit Qiw (sp Qix Qiy (sp Qiz Qi0 (sp Qi1 Qi2 (sp Qi3 Qi4 (sp Qi5 Qi6 (sp Qi8 Qj5 (sp Qja Zq (sp Qjd (sp Qje fl (sp Qjf (sp Qjg (sp Qhn (sp (.eq (a0 12100 Qji) Q0) (sp (.eq (rr 12100 Qji 0) Qa) Qjj (sp (.eq (rr 12100 Qji 0) Q0) (sp (.lt Qj6 Qa) fl (sp (.lt (ln Qj7) Qj8) fl (sp (.lt Qj8 Qa) fl (sp (.lt (ln Qj9) Qj8) fl (ou [.op .set F7 (cn KI (cn Qgb (cn Zr (cn Qg9 (cn Qhb (cn (.op .take Qj9 Qj8) Qhe)))))),Qm,bD,bK,Qa,Qa,wS]))))) fl)) fl) KH) (sp Qjq (sp (.eq (a0 12100 Qjs) Q0) (sp (.eq (rr 12100 Qjs 0) Qa) Qjt (sp (.eq (rr 12100 Qjs 0) Q0) (sp (.lt Qka Qa) fl (sp (.lt (ln Qkb) Qkc) fl (sp (.lt Qkc Qa) fl (sp (.lt (ln Qkd) Qkc) fl (ou [.op .set Qjr (cn KI (cn Xb (cn Zr (cn Qg9 (cn Qhb (cn (.op .take Qkd Qkc) Qhe)))))),Qm,bD,bK,Qa,Qa,wS]))))) fl)) fl) KH)) fl)) Qj4))))))))))))))))))) MG) fl) fl) MG)) MG))) fl) (sp (.eq Qgt Qch) (sp Qgv (sp Qgw MG (sp Qq MG (sp Qr (sp Qfp MG (sp Qg0 (sp Qhj (sp Qhk (sp Qhl (sp Qhm Qhv (sp Qhw Qhx (sp Qhy Qhx (sp Qhz Qh2 (sp Qh3 Qh4 (sp Qh5 Qkf (sp Qia Qkg (sp Qil Qhv (sp Qin Qip (sp Qiq Qir (sp Qit Qiw (sp Qix Qiy (sp Qiz Qi0 (sp Qi1 Qi2 (sp Qi3 Qi4 (sp Qi5 Qi6 (sp Qi8 Qi9 (sp Qja Qjc (sp Qjd (sp Qje fl (sp Qjf (sp Qjg (sp Qhn (sp (.eq (a0 12200 Qji) Q0) (sp (.eq (rr 12200 Qji 0) Qa) Qkh fl) fl) KH) (sp Qjq (sp (.eq (a0 12200 Qjs) Q0) (sp (.eq (rr 12200 Qjs 0) Qa) Qki fl) fl) KH)) fl)) Qkj))))))))))))))))))) MG) fl) fl) MG)) MG))) fl) (sp (.eq Qgt Zt) (sp Qgv (sp Qgw MG (sp Qq MG (sp Qr (sp Qfp MG (sp Qg0 (sp Qhj (sp Qhk (sp Qhl (sp Qhm Qhv (sp Qhw Qhx (sp Qhy Qhx (sp Qhz Qh2 (sp Qh3 Qh4 (sp Qh5 Qkf (sp Qia Qkg (sp Qil Qhv (sp Qin Qip (sp Qiq Qir (sp Qit Qiw (sp Qix Qiy (sp Qiz Qi0 (sp Qi1 Qi2 (sp Qi3 Qi4 (sp Qi5 Qi6 (sp Qi8 Qj5 (sp Qja Zq (sp Qjd (sp Qje fl (sp Qjf (sp Qjg (sp Qhn (sp (.eq (a0 12300 Qji) Q0) (sp (.eq (rr 12300 Qji 0) Qa) Qkh fl) fl) KH) (sp Qjq (sp (.eq (a0 12300 Qjs) Q0) (sp (.eq (rr 12300 Qjs 0) Qa) Qki fl) fl) KH)) fl)) Qkj))))))))))))))))))) MG) fl) fl) MG)) MG))) fl) fl))))))) fl
abbrev Qkk:T Lf:=ju 451 [Qf,sZ,Qa,Qb]
def aDe:T Lf:=sp (.lt (.lit 64) sZ) Qkk (sp (.lt Qj2 Qc) Qkk (ju 452 [Qf,sZ,Qa,Qb]))
abbrev Qkl:T Lf:=ju 451 [Qf,Qb,kH,Qm]
def axQ:T Lf:=sp wV (sp uS fl (sp QO Qkl fl)) (ju 453 [Qm,EL,Qa,Qf])
abbrev Qkm:List SE:=[Qf,Qm,Qgk,JD,Qgj,Qgm,nm Xa]
def axP:T Lf:=sp wV (sp uS fl (sp QO (sp (.eq (a0 700 Qkm) Q0) (sp (.eq (rr 700 Qkm 0) Qa) Qkl (ju 452 [Qf,Qb,kH,Qm])) fl) fl)) (ju 454 [Qm,EL,Qa,Qf])
abbrev Qkn:List SE:=[Qa,Qf,Qb,Qo,Qm,ce 0 Xc,JD,ce 2 Xc]
abbrev Qko:SE:=.lit 120
def axO:T Lf:=sp wV (sp uS fl (sp QO (ju 455 Qkn) fl)) (ou [Qko])
def axN:T Lf:=sp wV (sp uS fl (sp QO (sp (.lt Qko (ln JD)) (ju 455 Qkn) (sp (.lt (.lit 4000) (ln (ce 2 Xc))) (ju 455 Qkn) (ju 456 Qkn))) fl)) bP
abbrev Qkp:T Lf:=ju 453 [Qb,Qo,Q1,bD]
def axM:T Lf:=sp (.lt Qf (ln dX)) Qkp Qkp
abbrev Qkq:SE:=el dX Qf
abbrev Qkr:List SE:=[bD,Qb,bK,cZ,dX,nm (ce 0 Qkq),nm (ce 1 Qkq),nm (ce 2 Qkq),nm (ce 3 Qkq),nm (ce 4 Qkq),nm (ce 5 Qkq),ce 6 Qkq]
abbrev Qks:SE:=wr (.add Qf Q0)
abbrev Qkt:List SE:=[ce 6 Qkq,bK,cZ,dX]
abbrev Qku:List SE:=[Qks,Qb,Qo,Qm,bD,rr 5000 Qkt 0,rr 5000 Qkt 1,rr 5000 Qkt 2]
def axL:T Lf:=sp (.lt Qf (ln dX)) (sp (.lt Qf Qa) fl (sp (.eq (a0 750 Qkr) Q0) (sp (.eq (rr 750 Qkr 0) Qa) (ju 455 [Qks,Qb,Qo,Qm,bD,bK,cZ,dX]) (sp (.eq (a0 5000 Qkt) Q0) (sp (.eq (rr 5000 Qkt 3) Qa) (ju 456 Qku) (ju 455 Qku)) fl)) fl)) (ju 454 [Qb,Qo,Q1,bD])
abbrev UG:List SE:=[Qf,Qb,Qo,Qm,bD]
abbrev Qkw:SB:=.lt fF Qa
abbrev Qkx:SB:=.lt Qa (ln fK)
abbrev Qky:SB:=.eq Qf tC
abbrev Qkz:SB:=.lt Qa (ln jH)
abbrev Qk0:SB:=.eq dX Qa
abbrev Qk1:T Lf:=ju 501 [kP,fK,ln fK,Qa,Qf,Qb,Qo,Qm,bD,bK,cZ,dX,fF,jH,jK]
abbrev Qk2:T Lf:=sp (.lt Qa fF) bP Qk1
abbrev Qk3:T Lf:=sp Qkz bP (sp Qk0 Qk2 bP)
abbrev Qk4:SB:=.eq Qf nK
abbrev Qk5:SB:=.eq Qf (.lit 8)
abbrev Qk6:SB:=.eq Qf Qch
abbrev Qk7:SB:=.eq Qf Q0
abbrev Qk8:T Lf:=sp (.lt bK Qjh) bP (sp (.lt bK kP) (sp Qkw bP (sp (.lt Qj0 fF) bP (sp Qfp (sp Qkx (sp Qky Qk3 (sp Qk4 Qk3 bP)) (sp Qkz (sp Qk5 (sp Qk0 Qk2 bP) bP) (sp Qk0 (sp (.lt Qa fF) (sp Qk6 Qk1 bP) Qk1) (sp (.eq Qf Zt) Qk2 bP)))) (sp Qk7 (sp Qkx bP Qk3) (sp Qk4 (sp Qkx Qk3 Qk3) (sp (.eq Qf Zt) (sp Qkx bP (sp Qkz bP (sp Qk0 Qk2 Qk2))) bP)))))) bP)
def aiE:T Lf:=sp (.eq (a0 650 UG) Q0) (sp (.eq (rr 650 UG 1) Qa) Qk8 (sp Qe7 bP (sp (.lt (rr 650 UG 0) cZ) bP Qk8))) fl
abbrev Qk9:SE:=nm Qs
abbrev Qla:SE:=.op .norm (mk Qk9) Qa
abbrev Qlb:T Lf:=ju 501 [Qf,Qb,Qo,Q1,bD,bK,cZ,dX,fF,fK,jH,kP,nR,mV,.op .ED qE (cn Qla Qh)]
abbrev Qlc:SE:=ln mV
abbrev Qld:SB:=.lt fK Qa
abbrev Qle:T Lf:=sp Qld mW (sp (.eq Qc Qa) (sp (.eq kP Qa) mW bP) bP)
def Xq:T Lf:=sp Qp (sp Qq fl (sp Qr (sp (.lt Qk9 Qa) bP (sp (.lt Qk9 Qf) (sp (.eq (.op .KP qE Qla) Qa) Qlb (sp (.eq (nm (.op .KQ qE Qla)) Q0) bP Qlb)) bP)) fl)) (sp Qe7 (sp (.lt Qa Qlc) bP Qle) (sp (.lt cZ Qlc) bP Qle))
abbrev Qlf:SB:=.lt sZ (.lit 1759218604441)
abbrev Qlg:SB:=.eq (.op .norm Qf Qa) Qh
abbrev Qlh:SB:=.eq (.op .norm Qf Qa) Qk
def amS:T Lf:=sp Qf7 (sp Qlf (ju 551 [Qf,sZ,Qa]) fl) (sp Qlg (ju 552 []) (sp Qlh (ju 553 []) fl))
abbrev Qli:SB:=.lt Qa (ln Qgo)
abbrev Qlj:SB:=.lt (ln Qgo) Qv
abbrev Qlk:SE:=.op .set Qf (cn F6 (.op .set Xc (cn Qbd Xa)))
abbrev Qll:SB:=.eq Qgo Qh
abbrev Qlm:SB:=.eq Qgo Qk
abbrev Qln:SE:=.op .set Qf (cn F6 (.op .set Xc Qbl))
abbrev Qlo:SE:=.op .set Qf (cn F6 (.op .set Xc Qbq))
def axK:T Lf:=sp wV (sp uS fl (sp QO (sp (.lt Qa (ln Xa)) (sp (.lt (ln Xa) Qv) (sp Qli (sp Qlj (ju 551 [.op .set Qlk (cn F6 (.op .set (el Qlk Qo) (cn Qbf Qgo))),Qb,kH]) fl) (sp Qll (ju 551 [.op .set Qlk (cn F6 (.op .set (el Qlk Qo) Qbh)),Qb,kH]) (sp Qlm (ju 551 [.op .set Qlk (cn F6 (.op .set (el Qlk Qo) Qbj)),Qb,kH]) fl))) fl) (sp (.eq Xa Qh) (sp Qli (sp Qlj (ju 551 [.op .set Qln (cn F6 (.op .set (el Qln Qo) (cn Qbf Qgo))),Qb,kH]) fl) (sp Qll (ju 551 [.op .set Qln (cn F6 (.op .set (el Qln Qo) Qbh)),Qb,kH]) (sp Qlm (ju 551 [.op .set Qln (cn F6 (.op .set (el Qln Qo) Qbj)),Qb,kH]) fl))) (sp (.eq Xa Qk) (sp Qli (sp Qlj (ju 551 [.op .set Qlo (cn F6 (.op .set (el Qlo Qo) (cn Qbf Qgo))),Qb,kH]) fl) (sp Qll (ju 551 [.op .set Qlo (cn F6 (.op .set (el Qlo Qo) Qbh)),Qb,kH]) (sp Qlm (ju 551 [.op .set Qlo (cn F6 (.op .set (el Qlo Qo) Qbj)),Qb,kH]) fl))) fl))) fl)) (ou Qj)
def aFv:T Lf:=ou [Qh]
def aFu:T Lf:=ou [Qk]
abbrev Qlp:SB:=.eq Qf wS
abbrev Qlq:T Lf:=ou [nK]
abbrev Qlr:T Lf:=ou [tC]
def aDd:T Lf:=sp (.lt (wr Qf) (.lit 27)) (sp (.lt Qf Qa) fl (sp (.lt Qf (.lit 27)) (sp (.eq Qf Qa) bP (sp Qk7 mW (sp Qk4 mW (sp Qlp mW (sp Qky mW (sp Qk6 Qlq (sp (.eq Qf Zt) Qlq (sp (.eq Qf Qik) Qlq (sp Qk5 Qlq (sp (.eq Qf Qgg) (ou [wS]) (sp (.eq Qf Qis) (ou [wS]) (sp (.eq Qf (.lit 11)) (ou [wS]) (sp (.eq Qf (.lit 12)) Qlr (sp (.eq Qf (.lit 13)) Qlr (sp (.eq Qf (.lit 14)) Qlr (sp (.eq Qf (.lit 15)) (ou [Qch]) (sp (.eq Qf Qj2) (ou [Zt]) (sp (.eq Qf (.lit 17)) (ou [Qik]) (sp (.eq Qf (.lit 18)) (ou [Qik]) (sp (.eq Qf (.lit 19)) (ou [Qik]) (sp (.eq Qf Zp) (ou [.lit 8]) (sp (.eq Qf (.lit 21)) (ou [.lit 8]) (sp (.eq Qf (.lit 22)) (ou [Qgg]) (sp (.eq Qf (.lit 23)) (ou [Qgg]) (sp (.eq Qf Qjz) Qlr (sp (.eq Qf Qj1) (ou [Qch]) (ou [Zt]))))))))))))))))))))))))))) fl)) bP
def amN:T Lf:=sp Qlp (ou [Qo,Q0]) (sp Qk6 (ou [wr (.sub Qo Q0),Q0]) (sp (.eq Qf Qik) (ou [.lit 1099511627776,Q0]) (sp (.eq Qf Qgg) (ou [Qa,Qa]) (ou [Qa,Q0]))))
abbrev Qls:T Lf:=sp (.eq bD Qa) mW bP
abbrev Qlt:T Lf:=sp Qfa bP (sp (.lt (.lit 1048576) bD) bP mW)
abbrev Qlu:SB:=.lt bD Qa
def aDc:T Lf:=sp (.eq Qo Q0) Qls (sp (.eq Qo nK) Qls (sp (.eq Qo Zt) Qls (sp (.eq Qo Qik) Qls (sp (.eq Qo wS) Qlt (sp (.eq Qo (.lit 8)) Qlt (sp (.eq Qo Qch) (sp Qfa bP (sp (.lt Qj2 bD) bP mW)) (sp (.eq Qo tC) (sp Qlu bP (sp (.lt bD sZ) (sp (.eq (nm (ce 0 (el Qf bD))) Q0) mW bP) bP)) (sp (.eq Qo Qgg) mW bP))))))))
abbrev Qlv:SB:=.lt dX Qa
abbrev Qlw:SB:=.eq bK Q0
abbrev Qlx:SB:=.eq bK nK
abbrev Qly:SB:=.eq bK wS
abbrev Qlz:SB:=.eq bK tC
abbrev Ql0:SB:=.eq bK Qch
abbrev Ql1:T Lf:=sp (.eq bK Zt) bP (sp (.eq bK Qik) bP bP)
abbrev Ql2:T Lf:=sp Qly bP (sp Qlz bP (sp Ql0 bP Ql1))
abbrev Ql3:SB:=.lt dX sZ
abbrev Ql4:SE:=nm (ce 0 (el Qf dX))
abbrev Ql5:List SE:=[Ql4,bK,cZ,dX,fF,fK,jH,kP,Qa]
abbrev Ql6:T Lf:=sp (.eq cZ Qj2) bP mW
abbrev Ql7:T Lf:=sp (.eq (a0 950 Ql5) Q0) (sp (.eq (rr 950 Ql5 0) Qa) bP Ql6) fl
abbrev Ql8:T Lf:=sp Ql3 (sp (.eq Ql4 Zt) mW bP) bP
abbrev Ql9:T Lf:=sp (.eq (ln kP) Q0) mW bP
abbrev Qma:T Lf:=sp (.lt IG fK) bP Ql9
abbrev Qmb:T Lf:=sp (.lt IG fK) bP mW
abbrev Qmc:T Lf:=sp Qly bP (sp Qlz Qma (sp Ql0 Qmb Ql1))
abbrev Qmd:T Lf:=sp (.eq cZ Qj2) Qmb mW
abbrev Qme:T Lf:=sp (.eq (a0 950 Ql5) Q0) (sp (.eq (rr 950 Ql5 0) Qa) bP Qmd) fl
abbrev Qmf:SB:=.lt fF EL
abbrev Qmg:T Lf:=sp Qly (sp Qmf Ql9 bP) (sp Qlz bP (sp Ql0 bP (sp (.eq bK Zt) (sp Qmf mW bP) (sp (.eq bK Qik) (sp Qmf bP bP) bP))))
abbrev Qmh:List SE:=[Ql4,bK,cZ,dX,fF,fK,jH,kP,Q0]
abbrev Qmi:T Lf:=sp Qly (sp Qmf Ql9 bP) (sp Qlz Qma (sp Ql0 Qmb (sp (.eq bK Zt) (sp Qmf mW bP) (sp (.eq bK Qik) (sp Qmf Qmb bP) bP))))
def aDb:T Lf:=sp Qkw (sp Qld (sp Qlv (sp Qlw bP (sp Qlx bP Ql2)) (sp Qlw (sp Ql3 Ql7 bP) (sp Qlx Ql8 Ql2))) (sp Qlv (sp Qlw bP (sp Qlx bP Qmc)) (sp Qlw (sp Ql3 Qme bP) (sp Qlx Ql8 Qmc)))) (sp Qld (sp Qlv (sp Qlw bP (sp Qlx bP Qmg)) (sp Qlw (sp Ql3 (sp Qmf (sp (.eq (a0 950 Qmh) Q0) (sp (.eq (rr 950 Qmh 0) Qa) bP Ql6) fl) Ql7) bP) (sp Qlx Ql8 Qmg))) (sp Qlv (sp Qlw bP (sp Qlx bP Qmi)) (sp Qlw (sp Ql3 (sp Qmf (sp (.eq (a0 950 Qmh) Q0) (sp (.eq (rr 950 Qmh 0) Qa) bP Qmd) fl) Qme) bP) (sp Qlx Ql8 Qmi))))
abbrev Qmj:List SE:=[Qf,Qb,Qo,Qm,Q0,.lit 1000,bD]
def aDa:T Lf:=sp (.eq (a0 5050 Qmj) Q0) (sp (.eq (rr 5050 Qmj 2) Qa) bP mW) fl
def aC9:T Lf:=ju 851 Qfg
abbrev Qmk:SE:=nm Qfi
def amM:T Lf:=sp Qp (sp Qq fl (sp Qfh (sp (.eq Qb Qmk) (ou [Qm]) (ju 851 Qfy)) fl)) (ou [Qjh])
def aC8:T Lf:=sp (.eq (a0 850 KJ) Q0) (sp (.lt (rr 850 KJ 0) Qa) bP mW) fl
abbrev Zb:SB:=.eq fF Qa
abbrev Qmm:List SE:=[Qf,ln dX,Qb,Qo,Qm,bD,bK,cZ,dX]
def aC7:T Lf:=sp Zb (ju 951 Qmm) (ju 952 Qmm)
abbrev Qmn:SE:=cn Qh (cn jK (cn jK Qgd))
abbrev Qmo:List SE:=[Qf,Qb,Q0,Qo,Qm,bD,bK,cZ,dX,fF,.op .snoc jK Qmn]
abbrev Qmp:List SE:=[Qf,Q0,Qa,Qa,Qm,Qa,Qa]
abbrev Qmq:SB:=.eq (a0 1200 [Qm]) Q0
abbrev Qmr:SB:=.eq Qf (rr 1200 [Qm] 0)
abbrev Qms:List SE:=[Qf,jK]
abbrev Qmt:SB:=.eq (a0 5150 Qms) Q0
abbrev Qmu:SB:=.eq (rr 5150 Qms 2) Qa
abbrev Qmv:T Lf:=sp (.eq Qm Qj2) mW mW
abbrev Qmw:T Lf:=sp Qmq (sp Qmr (sp Qmt (sp Qmu bP (sp (.lt Zp (ln (rr 5150 Qms 1))) bP Qmv)) fl) bP) fl
abbrev Qmx:T Lf:=sp (.eq (a0 12400 Qmp) Q0) (sp (.eq (rr 12400 Qmp 0) Qa) bP (sp (.eq (rr 12400 Qmp 0) Q0) Qmw fl)) fl
abbrev Qmy:List SE:=[Qa,Qa,Qf,Qa,Qa,Qa,Qm,Qa,Qa]
abbrev Qmz:SB:=.eq (a0 5200 Qms) Q0
abbrev Qm0:SB:=.eq (rr 5200 Qms 3) Qa
abbrev Qm1:List SE:=[Qf,Qa,Qa,Qa,Qm,Qa,Qa]
abbrev Qm2:T Lf:=sp Qlp Qmx (sp Qk5 Qmx (sp Qk6 Qmx (sp Qky (sp (.eq (a0 12450 Qmy) Q0) (sp (.eq (rr 12450 Qmy 0) Qa) bP (sp (.eq (rr 12450 Qmy 0) Q0) (sp Qmq (sp Qmr (sp Qmz (sp Qm0 bP (sp (.lt Zp (ln (rr 5200 Qms 2))) bP Qmv)) fl) bP) fl) fl)) fl) (sp (.eq (a0 12400 Qm1) Q0) (sp (.eq (rr 12400 Qm1 0) Qa) bP (sp (.eq (rr 12400 Qm1 0) Q0) Qmw fl)) fl))))
abbrev Qm3:SB:=.eq (rr 12500 Qmp 0) Qa
abbrev Qm4:SB:=.eq (rr 12500 Qmp 0) Q0
abbrev Qm5:SE:=.dat (.p (.i 97) (.i 0))
abbrev Qm6:SE:=cn Qm5 Qh
abbrev Qm7:SB:=.lt Zp (ln (.op .ED (rr 5150 Qms 1) Qm6))
abbrev Qm8:T Lf:=sp Qmq (sp Qmr (sp Qmt (sp Qmu bP (sp Qm7 bP (sp (.eq Qm Qj2) bP bP))) fl) bP) fl
abbrev Qm9:T Lf:=sp (.eq (a0 12500 Qmp) Q0) (sp Qm3 bP (sp Qm4 Qm8 fl)) fl
abbrev Qna:SB:=.eq (rr 12550 Qmy 0) Qa
abbrev Qnb:SB:=.eq (rr 12550 Qmy 0) Q0
abbrev Qnc:SB:=.lt Zp (ln (.op .ED (rr 5200 Qms 2) Qm6))
abbrev Qnd:SB:=.eq (rr 12500 Qm1 0) Qa
abbrev Qne:SB:=.eq (rr 12500 Qm1 0) Q0
def axJ:T Lf:=sp Qf6 (ju 953 Qmo) (sp (.eq bK Qjh) Qm2 (sp Qlp Qm9 (sp Qk5 Qm9 (sp Qk6 Qm9 (sp Qky (sp (.eq (a0 12550 Qmy) Q0) (sp Qna bP (sp Qnb (sp Qmq (sp Qmr (sp Qmz (sp Qm0 bP (sp Qnc bP (sp (.eq Qm Qj2) bP bP))) fl) bP) fl) fl)) fl) (sp (.eq (a0 12500 Qm1) Q0) (sp Qnd bP (sp Qne Qm8 fl)) fl))))))
abbrev Qnf:T Lf:=sp Qmq (sp Qmr (sp Qmt (sp Qmu bP (sp Qm7 bP Qmv)) fl) bP) fl
abbrev Qng:T Lf:=sp (.eq (a0 12500 Qmp) Q0) (sp Qm3 bP (sp Qm4 Qnf fl)) fl
def axI:T Lf:=sp Qf6 (ju 954 Qmo) (sp (.eq bK Qjh) Qm2 (sp Qlp Qng (sp Qk5 Qng (sp Qk6 Qng (sp Qky (sp (.eq (a0 12550 Qmy) Q0) (sp Qna bP (sp Qnb (sp Qmq (sp Qmr (sp Qmz (sp Qm0 bP (sp Qnc bP Qmv)) fl) bP) fl) fl)) fl) (sp (.eq (a0 12500 Qm1) Q0) (sp Qnd bP (sp Qne Qnf fl)) fl))))))
abbrev Qnh:SB:=.lt (ln jH) (.lit 2513169434915)
abbrev Qni:List SE:=[Qf,Qb,kH,Qm,bD,bK,cZ,dX,fF,fK,.op .snoc jH Qmn]
abbrev Qnj:List SE:=[Qf,Q0,Qa,Qa,bD,Qa,jH,Qa]
abbrev Qnk:SB:=.eq (a0 1200 [bD]) Q0
abbrev Qnl:SB:=.eq Qf (rr 1200 [bD] 0)
abbrev Qnm:List SE:=[rr 12600 Qnj 9,rr 12600 Qnj 10,Qf,jK]
abbrev Qnn:T Lf:=sp (.eq bD Qj2) mW mW
abbrev Qno:T Lf:=sp (.eq (a0 12600 Qnj) Q0) (sp (.eq (rr 12600 Qnj 0) Qa) bP (sp (.eq (rr 12600 Qnj 0) Q0) (sp Qnk (sp Qnl (sp (.eq (a0 5300 Qnm) Q0) (sp (.eq (rr 5300 Qnm 3) Qa) bP (sp (.lt Zp (ln (rr 5300 Qnm 2))) bP Qnn)) fl) bP) fl) fl)) fl
abbrev Qnp:List SE:=[Qa,Qa,Qf,Qa,Qa,Qa,bD,Qa,jH,Qa]
abbrev Qnq:List SE:=[rr 12650 Qnp 11,rr 12650 Qnp 12,Qf,jK]
abbrev Qnr:List SE:=[Qf,Qa,Qa,Qa,bD,Qa,jH,Qa]
abbrev Qns:List SE:=[rr 12600 Qnr 9,rr 12600 Qnr 10,Qf,jK]
abbrev Qnt:T Lf:=sp Qlp Qno (sp Qk5 Qno (sp Qk6 Qno (sp Qky (sp (.eq (a0 12650 Qnp) Q0) (sp (.eq (rr 12650 Qnp 0) Qa) bP (sp (.eq (rr 12650 Qnp 0) Q0) (sp Qnk (sp Qnl (sp (.eq (a0 5350 Qnq) Q0) (sp (.eq (rr 5350 Qnq 4) Qa) bP (sp (.lt Zp (ln (rr 5350 Qnq 3))) bP Qnn)) fl) bP) fl) fl)) fl) (sp (.eq (a0 12600 Qnr) Q0) (sp (.eq (rr 12600 Qnr 0) Qa) bP (sp (.eq (rr 12600 Qnr 0) Q0) (sp Qnk (sp Qnl (sp (.eq (a0 5300 Qns) Q0) (sp (.eq (rr 5300 Qns 3) Qa) bP (sp (.lt Zp (ln (rr 5300 Qns 2))) bP Qnn)) fl) bP) fl) fl)) fl))))
abbrev Qnu:SB:=.eq (rr 12700 Qnj 0) Qa
abbrev Qnv:SB:=.eq (rr 12700 Qnj 0) Q0
abbrev Qnw:List SE:=[rr 12700 Qnj 9,rr 12700 Qnj 10,Qf,jK]
abbrev Qnx:SB:=.eq (rr 5300 Qnw 3) Qa
abbrev Qny:SB:=.lt Zp (ln (.op .ED (rr 5300 Qnw 2) Qm6))
abbrev Qnz:T Lf:=sp (.eq bD Qj2) bP bP
abbrev Qn0:T Lf:=sp (.eq (a0 12700 Qnj) Q0) (sp Qnu bP (sp Qnv (sp Qnk (sp Qnl (sp (.eq (a0 5300 Qnw) Q0) (sp Qnx bP (sp Qny bP Qnz)) fl) bP) fl) fl)) fl
abbrev Qn1:SB:=.eq (rr 12750 Qnp 0) Qa
abbrev Qn2:SB:=.eq (rr 12750 Qnp 0) Q0
abbrev Qn3:List SE:=[rr 12750 Qnp 11,rr 12750 Qnp 12,Qf,jK]
abbrev Qn4:SB:=.eq (rr 5350 Qn3 4) Qa
abbrev Qn5:SB:=.lt Zp (ln (.op .ED (rr 5350 Qn3 3) Qm6))
abbrev Qn6:SB:=.eq (rr 12700 Qnr 0) Qa
abbrev Qn7:SB:=.eq (rr 12700 Qnr 0) Q0
abbrev Qn8:List SE:=[rr 12700 Qnr 9,rr 12700 Qnr 10,Qf,jK]
abbrev Qn9:SB:=.eq (rr 5300 Qn8 3) Qa
abbrev Qoa:SB:=.lt Zp (ln (.op .ED (rr 5300 Qn8 2) Qm6))
def wB:T Lf:=sp wV (sp Qnh (ju 953 Qni) fl) (sp (.eq cZ Qjh) Qnt (sp Qlp Qn0 (sp Qk5 Qn0 (sp Qk6 Qn0 (sp Qky (sp (.eq (a0 12750 Qnp) Q0) (sp Qn1 bP (sp Qn2 (sp Qnk (sp Qnl (sp (.eq (a0 5350 Qn3) Q0) (sp Qn4 bP (sp Qn5 bP Qnz)) fl) bP) fl) fl)) fl) (sp (.eq (a0 12700 Qnr) Q0) (sp Qn6 bP (sp Qn7 (sp Qnk (sp Qnl (sp (.eq (a0 5300 Qn8) Q0) (sp Qn9 bP (sp Qoa bP Qnz)) fl) bP) fl) fl)) fl))))))
abbrev Qob:T Lf:=sp (.eq (a0 12700 Qnj) Q0) (sp Qnu bP (sp Qnv (sp Qnk (sp Qnl (sp (.eq (a0 5300 Qnw) Q0) (sp Qnx bP (sp Qny bP Qnn)) fl) bP) fl) fl)) fl
def vZ:T Lf:=sp wV (sp Qnh (ju 954 Qni) fl) (sp (.eq cZ Qjh) Qnt (sp Qlp Qob (sp Qk5 Qob (sp Qk6 Qob (sp Qky (sp (.eq (a0 12750 Qnp) Q0) (sp Qn1 bP (sp Qn2 (sp Qnk (sp Qnl (sp (.eq (a0 5350 Qn3) Q0) (sp Qn4 bP (sp Qn5 bP Qnn)) fl) bP) fl) fl)) fl) (sp (.eq (a0 12700 Qnr) Q0) (sp Qn6 bP (sp Qn7 (sp Qnk (sp Qnl (sp (.eq (a0 5300 Qn8) Q0) (sp Qn9 bP (sp Qoa bP Qnn)) fl) bP) fl) fl)) fl))))))
def anZ:T Lf:=sp (.eq (a0 1050 [Qf,Qa]) Q0) (sp (.eq (rr 1050 [Qf,Qa] 6) Qa) (sp (.eq (rr 1050 [Qf,Qa] 0) nK) (sp (.eq (wr (.sub (rr 1050 [Qf,Qa] 5) (rr 1050 [Qf,Qa] 4))) sZ) mW bP) bP) bP) fl
abbrev Qoc:T Lf:=ou [Qa,jK,Qa,Qa,Qa,Qa,nK,Qa]
abbrev Qod:SE:=rr 12800 KJ 3
abbrev Qoe:SE:=wr (.add (.op .cnt (.op .sub Qf (cn jK (cn (mk Qod) jK))) Qis) Q0)
abbrev Qof:SE:=rr 12850 [Qf,Qod] 3
abbrev Qog:SE:=.op .sub Qf (cn (mk Qod) (cn (mk Qof) jK))
abbrev Qoh:SE:=nm (el Qog Qa)
abbrev Qoi:SE:=.lit 256
abbrev Qoj:SE:=nm (el (.dat b0) Qoh)
abbrev Qok:T Lf:=ou [Qa,jK,Qa,Qa,Qa,Qa,Qfb,Qoe]
abbrev Qol:SE:=.dat (.p (.i 32) (.i 0))
abbrev Qom:SB:=.eq (.op .norm Qog Qa) (.dat (.p (.i 61) (.i 0)))
def Xw:T Lf:=sp (.lt (.lit 16384) sZ) (ou [Qa,jK,Qa,Qa,Qa,Qa,wS,Qa]) (sp Qe2 Qoc (sp (.lt sZ Qb) Qoc (sp (.eq (a0 12800 KJ) Q0) (sp (.eq (rr 12800 KJ 0) Qa) (sp (.lt Qod Qa) fl (sp (.lt sZ Qod) fl (sp (.eq Qod sZ) (ou [Qch,jK,Qa,Qoe,Qod,Qod,Qa,Qa]) (sp (.eq (a0 12850 [Qf,Qod]) Q0) (sp (.eq (rr 12850 [Qf,Qod] 0) Qa) (sp (.lt Qof Qod) fl (sp (.lt sZ Qof) fl (sp (.lt Qa (ln Qog)) (sp (.lt Qoh Qa) fl (sp (.lt Qoh Qoi) (sp (.eq Qoj wS) (sp (.eq (a0 1100 [Qog]) Q0) (sp (.eq (rr 1100 [Qog] 1) Qa) Qok (ou [Q0,jK,rr 1100 [Qog] 0,Qoe,Qod,Qof,Qa,Qa])) fl) (sp (.eq Qoj tC) (sp (.lt (ln Qog) (.lit 1000000000)) (sp (.lt (ln (.op .cat Qol Qog)) (.lit 1000000000)) (sp (.eq (.op .con (.dat b1) (.op .cat (.op .cat Qol Qog) Qol)) Qa) (sp Qom Qok (ou [nK,Qog,Qa,Qoe,Qod,Qof,Qa,Qa])) (sp Qom Qok (ou [wS,Qog,Qa,Qoe,Qod,Qof,Qa,Qa]))) fl) fl) (sp (.eq Qoj Qch) (sp Qom Qok (ou [tC,Qog,Qa,Qoe,Qod,Qof,Qa,Qa])) Qok))) fl)) fl))) fl) fl)))) fl) fl)))
def anY:T Lf:=sp (.eq sZ Qa) (ju 1101 []) (ju 1102 [Qa,Qf,sZ,Qa])
def aBK:T Lf:=ou [Qa,Q0]
abbrev Qon:SE:=.lit 9223372036854775807
abbrev Qoo:SE:=wr (.wrap .u8 (.sub Qk9 (.lit 48)))
def aeR:T Lf:=sp Qp (sp Qq fl (sp Qr (sp (.lt (wr (.quo (wr (.sub Qon Qoo)) Qis)) Qf) (ou [Qa,Qa]) (ju 1102 [wr (.add (wr (.mul Qf Qis)) Qoo),Qb,Qo,Q1])) fl)) (ou [Qf,Q0])
abbrev Qop:SB:=.eq (rr 1000 [Qb] 0) Qa
abbrev Qoq:SE:=wr (.sub EL Q0)
abbrev Qor:SE:=.dat (.p (.i 45) (.i 0))
abbrev Qos:SE:=.dat (.p (.i 43) (.i 0))
abbrev Qot:SE:=.dat (.p (.i 42) (.i 0))
abbrev Qou:SE:=.dat (.p (.i 61) (.p (.i 61) (.i 0)))
abbrev Qov:SE:=.dat (.p (.i 60) (.i 0))
def anX:T Lf:=sp Qk7 (sp uS bP (sp (.eq Qg jK) (sp (.eq EL Qa) mW bP) bP)) (sp Qk4 (sp (.eq Qo Qa) (sp (.eq EL Qa) (sp (.eq (a0 1000 [Qb]) Q0) (sp Qop bP mW) fl) bP) bP) (sp Qlp (sp (.eq Qo Qa) (sp (.lt EL Q0) bP (sp (.lt nK EL) bP (sp (.lt Qoq Qa) fl (sp (.lt Qoq nK) (sp (.eq Qoq Qa) (sp (.eq Qg Qor) mW bP) (sp (.eq Qg Qos) mW (sp (.eq Qg Qor) mW (sp (.eq Qg Qot) mW (sp (.eq Qg Qou) mW (sp (.eq Qg Qov) mW bP)))))) fl)))) bP) bP))
def anW:T Lf:=sp (.lt tC Qf) (sp (.lt (.lit 8) Qf) (sp (.lt (.lit 11) Qf) (sp (.lt (.lit 14) Qf) (sp (.eq Qf (.lit 15)) (ou [Qch]) (sp (.eq Qf Qj2) (ou [Zt]) (sp (.lt (.lit 19) Qf) (sp (.lt (.lit 21) Qf) (ou [Qgg]) (ou [.lit 8])) (ou [Qik])))) Qlr) (ou [wS])) Qlq) mW
def anV:T Lf:=sp Qky mW (sp (.eq Qf (.lit 17)) mW (sp (.eq Qf Zp) mW (sp (.eq Qf (.lit 23)) mW bP)))
def anU:T Lf:=sp Qlp mW (sp Qky mW (sp (.eq Qf (.lit 11)) mW (sp (.eq Qf (.lit 21)) mW (sp (.eq Qf (.lit 22)) mW bP))))
def anT:T Lf:=sp Qlp mW (sp Qk6 mW (sp Qk5 mW (sp (.eq Qf Qgg) mW bP)))
abbrev Qow:SE:=.op .norm Qm Qa
abbrev Qox:T Lf:=sp Qky (sp (.eq (a0 1000 [Qm]) Q0) (sp (.eq (rr 1000 [Qm] 0) Qa) bP mW) fl) (sp (.eq Qow jK) mW bP)
def anS:T Lf:=sp (.lt Qf Q0) bP (sp (.lt Qgg Qf) bP (sp (.eq (a0 1000 [Qb]) Q0) (sp Qop bP (sp uS bP (sp (.lt Qa Qo) (sp (.eq (a0 1350 Qj) Q0) (sp (.eq (rr 1350 Qj 0) Qa) bP Qox) fl) Qox))) fl))
def aeQ:T Lf:=sp Qf4 (sp Qf5 (sp (.eq (a0 300 KJ) Q0) (ju 1451 [Qb,Qc,rr 300 KJ 0]) fl) (ou [Qh,Qh,rr 450 KJ 0])) fl
abbrev Qoy:SE:=ce 1 Qf8
abbrev Qoz:SE:=cn jK (cn jK (cn jK (cn jK jK)))
abbrev Qo0:SB:=.lt (ln Qoy) Qv
def Xv:T Lf:=sp Qf6 (sp Qf7 (sp (.eq (ln Qoy) Qa) (ju 1452 [Qf,Qb,Q0,Qo,.op .snoc jK (cn jK (cn Qk Qoz))]) (sp Qo0 (ju 1452 [Qf,Qb,Q0,Qo,.op .snoc jK (cn jK (cn (.op .rep (ln Qoy) jK) Qoz))]) fl)) fl) (ou [Qo,Qh,Qa])
abbrev Qo1:SE:=.lit 2199023255551
abbrev Qo2:SB:=.lt (ln JD) Qv
abbrev Qo3:T Lf:=ou [Qm,bD,Qa]
def Xu:T Lf:=sp wV (sp uS fl (sp QO (sp (.eq (ln JD) Qa) (sp (.lt IG Qo1) (ju 1452 [Qf,Qb,kH,Qm,.op .snoc bD (cn jK (cn Qk Qoz))]) fl) (sp Qo2 (sp (.lt IG Qo1) (ju 1452 [Qf,Qb,kH,Qm,.op .snoc bD (cn jK (cn (.op .rep (ln JD) jK) Qoz))]) fl) fl)) fl)) Qo3
def anR:T Lf:=sp Qgv (sp Qgw bP (sp (.eq EL Qc) (ju 1501 [Qm,EL,Qa,Qf,Qb]) bP)) fl
abbrev Qo4:List SE:=[Qm,bD,ce 0 Qdl,Qdm,ce 2 Qdl,Qgk,JD,Qgj,nm Qgm,nm Xa,nm Qgo]
def aeP:T Lf:=sp wV (sp uS fl (sp QO (sp Qdk (sp (.eq (a0 1600 Qo4) Q0) (sp (.eq (rr 1600 Qo4 0) Qa) bP (ju 1501 [Qf,Qb,kH,Qm,bD])) fl) fl) fl)) mW
abbrev Qo5:SB:=.lt bD Qc
abbrev Qo6:List SE:=[Qf,Qb,Qo,Qm]
abbrev Qo7:SB:=.eq (rr 1500 Qo6 0) Qa
abbrev Qo8:T Lf:=sp (.eq (a0 1500 Qo6) Q0) (sp Qo7 bP mW) fl
def anQ:T Lf:=sp Qlu bP (sp Qo5 Qo8 bP)
def anP:T Lf:=sp Qfp bP (sp (.lt IG bK) bP (sp (.eq Qfc EL) (sp (.lt jH Qa) bP (sp (.lt Qj0 jH) bP (sp Qk0 (sp Zb (sp (.eq fK Qa) mW bP) bP) (sp (.eq dX Qjz) (sp Qkw bP (sp (.lt fF sZ) (sp (.eq (nm (ce 0 (el Qf fF))) tC) mW bP) bP)) (sp (.eq dX Qj1) (sp Qkw bP (sp (.lt fF sZ) (sp (.eq (nm (ce 0 (el Qf fF))) Qch) mW bP) bP)) bP))))) bP))
abbrev Qo9:SE:=el Qm bD
abbrev Qpa:SE:=nm (ce 2 Qo9)
abbrev Qpb:SE:=nm (ce 0 Qo9)
abbrev Qpc:SB:=.eq Qpb (ln (ce 2 (el Qb bD)))
def anO:T Lf:=sp Qlu fl (sp (.lt bD EL) (sp (.eq Qpa Qa) (sp Qo5 (sp Qpc mW bP) fl) bP) fl)
abbrev MC:SB:=.eq (a0 1550 UG) Q0
abbrev MB:SB:=.eq (rr 1550 UG 0) Qa
abbrev Qpf:SB:=.eq (rr 1650 UG 0) Qa
def MW:T Lf:=sp MC (sp MB bP (sp (.eq (a0 1650 UG) Q0) (sp Qpf bP mW) fl)) fl
abbrev Qpg:SE:=el (ce 2 (el Qb bD)) Qpb
abbrev Qph:T Lf:=ou [Qa,Qa,Qa,Qa,Qa]
def MV:T Lf:=sp Qlu fl (sp (.lt bD EL) (sp (.eq Qpa Qa) (sp (.eq (a0 1650 UG) Q0) (sp Qpf (sp Qo5 (sp (.lt Qpb Qa) fl (sp (.lt Qpb (ln (ce 2 (el Qb bD)))) (sp (.eq (nm (ce 0 Qpg)) Q0) (ju 1751 [ce 6 Qpg,ln (ce 6 Qpg),Qa,Qpb,ce 1 Qo9,Qpa,nm (ce 3 Qo9),nm (ce 4 Qo9),nm (ce 5 Qo9),nm (ce 1 Qpg),nm (ce 2 Qpg),Qa]) (sp (.eq (nm (ce 0 Qpg)) nK) (ou [.lit 26,nm (ce 2 Qpg),Qa,Qa,Q0]) Qph)) fl)) fl) Qph) fl) (ou [Qpa,nm (ce 3 Qo9),nm (ce 4 Qo9),Qa,Q0])) fl)
def aeO:T Lf:=sp wV (sp uS fl (sp QO (sp (.eq (a0 1950 [Qgk,JD,Qgj,Qgm,bD]) Q0) (ju 1751 [Qf,Qb,kH,Qm,bD,bK,cZ,dX,fF,fK,jH,rr 1950 [Qgk,JD,Qgj,Qgm,bD] 0]) fl) fl)) (ou [fK,jH,kP,fF,Q0])
def aeN:T Lf:=sp MC (sp MB Qph (sp (.eq (a0 1750 UG) Q0) (sp (.eq (rr 1750 UG 4) Qa) (ou [rr 1750 UG 0,rr 1750 UG 1,rr 1750 UG 2,rr 1750 UG 3,Qa]) (ou [rr 1750 UG 0,rr 1750 UG 1,rr 1750 UG 2,rr 1750 UG 3,Q0])) fl)) fl
abbrev QD:List SE:=[bD,Qo,Qm]
abbrev rV:SE:=rr 9050 QD 0
abbrev E8:SE:=rr 9050 QD 2
abbrev W9:SE:=rr 9050 QD 3
abbrev Qpm:List SE:=[Qf,Qb,E8,W9,bD]
abbrev Qpn:List SE:=[Qf,Qb,E8,Qh,bD]
abbrev Qpo:List SE:=[Qf,Qb,E8,Qk,bD]
abbrev Qpp:SE:=rr 9050 QD 4
abbrev Qpq:SE:=rr 9050 QD 5
abbrev Qpr:SE:=rr 9050 QD 6
abbrev Qps:SE:=rr 9050 QD 7
abbrev Qpt:SE:=rr 9050 QD 8
abbrev Qpu:SE:=rr 9050 QD 9
abbrev Qpv:SE:=cn (mk Qpr) (cn (mk Qps) (cn (mk Qpt) (cn (mk Qpu) jK)))
abbrev Qpw:SE:=.op .set W9 (cn (mk bD) (cn (mk Qpp) (cn Qpq Qpv)))
abbrev Qpx:T Lf:=ou [E8,Qpw,Qa,Qa,Qa,Qa,Qa,Qa]
abbrev UF:List SE:=[Qf,Qb,E8,Qpw,bD]
abbrev Qpz:SB:=.eq (rr 1650 UF 0) Qa
abbrev Qp0:SB:=.eq (rr 1750 UF 4) Qa
abbrev Qp1:List SE:=[Qf,Qb,bD,E8,W9,Qpp,Qpq,Qpr,Qps,Qpt,Qpu]
abbrev rW:List SE:=[Qf,Qb,bD,rr 1750 UF 0,rr 1750 UF 1,rr 1750 UF 2,rr 1750 UF 3,E8,W9,Qpp,Qpq,Qpr,Qps,Qpt,Qpu]
abbrev Qp3:T Lf:=ou [E8,Qpw,Qa,Qa,Qa,Qa,Qa,tC]
def JM:T Lf:=sp (.eq (a0 9050 QD) Q0) (sp (.eq rV Qa) (sp MC (sp MB (ou [E8,W9,Qa,Qa,Qa,Qa,Qa,Qa]) (sp (.eq (a0 1650 Qpm) Q0) (sp (.eq (rr 1650 Qpm 0) Qa) (sp (.eq (a0 1750 Qpm) Q0) (sp (.eq (rr 1750 Qpm 4) Qa) fl fl) fl) (ou [E8,W9,Qa,Qa,Qa,Qa,Qa,tC])) fl)) fl) (sp (.eq rV Q0) (sp MC (sp MB (ou [E8,Qh,Qa,Qa,Qa,Qa,Qa,Qa]) (sp (.eq (a0 1650 Qpn) Q0) (sp (.eq (rr 1650 Qpn 0) Qa) (sp (.eq (a0 1750 Qpn) Q0) (sp (.eq (rr 1750 Qpn 4) Qa) fl fl) fl) (ou [E8,Qh,Qa,Qa,Qa,Qa,Qa,tC])) fl)) fl) (sp (.eq rV nK) (sp MC (sp MB (ou [E8,Qk,Qa,Qa,Qa,Qa,Qa,Qa]) (sp (.eq (a0 1650 Qpo) Q0) (sp (.eq (rr 1650 Qpo 0) Qa) (sp (.eq (a0 1750 Qpo) Q0) (sp (.eq (rr 1750 Qpo 4) Qa) fl fl) fl) (ou [E8,Qk,Qa,Qa,Qa,Qa,Qa,tC])) fl)) fl) (sp (.eq rV wS) (sp MC (sp MB Qpx (sp (.eq (a0 1650 UF) Q0) (sp Qpz (sp (.eq (a0 1750 UF) Q0) (sp Qp0 (sp (.eq (a0 14000 Qp1) Q0) (sp (.eq (rr 14000 Qp1 0) Qa) (ou [E8,.op .set W9 (cn (mk bD) (cn (mk (rr 14000 Qp1 12)) (cn (rr 14000 Qp1 13) Qpv))),Qa,Qa,Qa,Qa,Qa,Q0]) fl) fl) (sp (.eq (a0 14500 rW) Q0) (sp (.eq (rr 14500 rW 0) Qa) (ou [rr 14500 rW 22,.op .set W9 (cn (mk bD) (cn (mk (rr 14500 rW 23)) (cn (rr 14500 rW 24) (cn (mk (rr 14500 rW 25)) (cn (mk (rr 14500 rW 26)) (cn (mk (rr 14500 rW 27)) (cn (mk (rr 14500 rW 28)) jK))))))),rr 14500 rW 16,rr 14500 rW 17,rr 14500 rW 18,rr 14500 rW 19,rr 14500 rW 20,rr 14500 rW 21]) fl) fl)) fl) Qp3) fl)) fl) (sp (.eq rV tC) (sp MC (sp MB Qpx (sp (.eq (a0 1650 UF) Q0) (sp Qpz (sp (.eq (a0 1750 UF) Q0) (sp Qp0 (sp (.eq (a0 14050 Qp1) Q0) (sp (.eq (rr 14050 Qp1 0) Qa) (ou [E8,.op .set W9 (cn (mk bD) (cn (mk (rr 14050 Qp1 12)) (cn Qpq Qpv))),Qa,Qa,Qa,Qa,Qa,Q0]) fl) fl) (sp (.eq (a0 14550 rW) Q0) (sp (.eq (rr 14550 rW 0) Qa) (ou [rr 14550 rW 22,.op .set W9 (cn (mk bD) (cn (mk (rr 14550 rW 23)) (cn Qpq (cn (mk (rr 14550 rW 24)) (cn (mk (rr 14550 rW 25)) (cn (mk (rr 14550 rW 26)) (cn (mk (rr 14550 rW 27)) jK))))))),rr 14550 rW 16,rr 14550 rW 17,rr 14550 rW 18,rr 14550 rW 19,rr 14550 rW 20,rr 14550 rW 21]) fl) fl)) fl) Qp3) fl)) fl) fl))))) fl
abbrev Qp4:SB:=.lt Qc (.lit 2199023255552)
abbrev Qp5:List SE:=[sZ,Qa,Qf]
def Ru:T Lf:=sp Qf7 (sp Qlf (sp Qd (sp Qp4 (ju 1901 [sZ,Qa,Qf,Qb]) fl) (sp Qi (ju 1902 Qp5) (sp Ql (ju 1903 Qp5) fl))) fl) (sp Qlg (sp Qd (sp Qp4 (ju 1904 [Qb]) fl) (sp Qi (ju 1905 []) (sp Ql (ju 1906 []) fl))) (sp Qlh (sp Qd (sp Qp4 (ju 1907 [Qb]) fl) (sp Qi (ju 1908 []) (sp Ql (ju 1909 []) fl))) fl))
abbrev Qp6:SB:=.lt Qb Qf
abbrev Qp7:SB:=.lt Qb Qcl
abbrev Qp8:SE:=el Qo Qb
abbrev Qp9:SE:=ce 4 Qp8
abbrev Qqa:SB:=.lt Qa (ln Qp9)
abbrev Qqb:SB:=.lt (ln Qp9) Qv
abbrev Qqc:SE:=ce 5 Qp8
abbrev Qqd:SB:=.lt Qa (ln Qqc)
abbrev Qqe:SB:=.lt (ln Qqc) Qv
abbrev UE:SE:=mk Qb
abbrev Qqg:SE:=.op .set Qo (cn UE (.op .set Qp8 (cn Qbd Qp9)))
abbrev Qqh:SE:=.op .set Qqg (cn UE (.op .set (el Qqg Qb) (cn Qbf Qqc)))
abbrev Qqi:SB:=.eq Qqc Qh
abbrev Qqj:SE:=.op .set Qqg (cn UE (.op .set (el Qqg Qb) Qbh))
abbrev Qqk:SB:=.eq Qqc Qk
abbrev Qql:SE:=.op .set Qqg (cn UE (.op .set (el Qqg Qb) Qbj))
abbrev Qqm:SE:=.op .set Qo (cn UE (.op .set Qp8 Qbl))
abbrev Qqn:SE:=.op .set Qqm (cn UE (.op .set (el Qqm Qb) (cn Qbf Qqc)))
abbrev Qqo:SE:=.op .set Qqm (cn UE (.op .set (el Qqm Qb) Qbh))
abbrev Qqp:SE:=.op .set Qqm (cn UE (.op .set (el Qqm Qb) Qbj))
abbrev Qqq:SE:=.op .set Qo (cn UE (.op .set Qp8 Qbq))
abbrev Qqr:SE:=.op .set Qqq (cn UE (.op .set (el Qqq Qb) (cn Qbf Qqc)))
abbrev Qqs:SE:=.op .set Qqq (cn UE (.op .set (el Qqq Qb) Qbh))
abbrev Qqt:SE:=.op .set Qqq (cn UE (.op .set (el Qqq Qb) Qbj))
def aeM:T Lf:=sp Qp6 (sp Qe2 fl (sp Qp7 (sp Qqa (sp Qqb (sp Qqd (sp Qqe (ju 1901 [Qf,vX,Qqh,Qm]) fl) (sp Qqi (ju 1901 [Qf,vX,Qqj,Qm]) (sp Qqk (ju 1901 [Qf,vX,Qql,Qm]) fl))) fl) (sp (.eq Qp9 Qh) (sp Qqd (sp Qqe (ju 1901 [Qf,vX,Qqn,Qm]) fl) (sp Qqi (ju 1901 [Qf,vX,Qqo,Qm]) (sp Qqk (ju 1901 [Qf,vX,Qqp,Qm]) fl))) (sp (.eq Qp9 Qk) (sp Qqd (sp Qqe (ju 1901 [Qf,vX,Qqr,Qm]) fl) (sp Qqi (ju 1901 [Qf,vX,Qqs,Qm]) (sp Qqk (ju 1901 [Qf,vX,Qqt,Qm]) fl))) fl))) fl)) (ju 1910 [EL,Qa,Qo,Qm])
def aeL:T Lf:=sp Qp6 (sp Qe2 fl (sp Qp7 (sp Qqa (sp Qqb (sp Qqd (sp Qqe (ju 1902 [Qf,vX,Qqh]) fl) (sp Qqi (ju 1902 [Qf,vX,Qqj]) (sp Qqk (ju 1902 [Qf,vX,Qql]) fl))) fl) (sp (.eq Qp9 Qh) (sp Qqd (sp Qqe (ju 1902 [Qf,vX,Qqn]) fl) (sp Qqi (ju 1902 [Qf,vX,Qqo]) (sp Qqk (ju 1902 [Qf,vX,Qqp]) fl))) (sp (.eq Qp9 Qk) (sp Qqd (sp Qqe (ju 1902 [Qf,vX,Qqr]) fl) (sp Qqi (ju 1902 [Qf,vX,Qqs]) (sp Qqk (ju 1902 [Qf,vX,Qqt]) fl))) fl))) fl)) (ju 1911 [Qo])
def aBJ:T Lf:=sp Qp6 (sp Qe2 fl (sp Qp7 (sp Qqa (sp Qqb (sp Qqd (sp Qqe (ju 1903 [Qf,vX,Qqh]) fl) (sp Qqi (ju 1903 [Qf,vX,Qqj]) (sp Qqk (ju 1903 [Qf,vX,Qql]) fl))) fl) (sp (.eq Qp9 Qh) (sp Qqd (sp Qqe (ju 1903 [Qf,vX,Qqn]) fl) (sp Qqi (ju 1903 [Qf,vX,Qqo]) (sp Qqk (ju 1903 [Qf,vX,Qqp]) fl))) (sp (.eq Qp9 Qk) (sp Qqd (sp Qqe (ju 1903 [Qf,vX,Qqr]) fl) (sp Qqi (ju 1903 [Qf,vX,Qqs]) (sp Qqk (ju 1903 [Qf,vX,Qqt]) fl))) fl))) fl)) (ju 1912 [Qo])
def anN:T Lf:=ju 1913 Qp5
def aBI:T Lf:=ju 1914 []
def aBH:T Lf:=ju 1915 []
def aBG:T Lf:=ju 1916 Qp5
def aBF:T Lf:=ju 1917 []
def aBE:T Lf:=ju 1918 []
abbrev Qqu:SE:=el Qm Qb
abbrev Qqv:SE:=ce 1 Qqu
def aeK:T Lf:=sp Qp6 (sp Qe2 fl (sp (.lt Qb EL) (sp (.lt Qa (ln Qqv)) (sp (.lt (ln Qqv) Qv) (ju 1910 [Qf,vX,Qo,.op .set Qm (cn UE (.op .set Qqu (cn Qh Qqv)))]) fl) (sp (.eq Qqv Qh) (ju 1910 [Qf,vX,Qo,.op .set Qm (cn UE (.op .set Qqu Qdy))]) (sp (.eq Qqv Qk) (ju 1910 [Qf,vX,Qo,.op .set Qm (cn UE (.op .set Qqu Qd0))]) fl))) fl)) (ou [Qo,Qm])
def aBD:T Lf:=ou [Qf,Qh]
def aBC:T Lf:=ou [Qf,Qk]
abbrev Qqw:SE:=ce 1 Qp8
abbrev Qqx:List SE:=[Qf,vX,.op .set Qo (cn UE (.op .set Qp8 (cn Qh Qqw)))]
abbrev Qqy:List SE:=[Qf,vX,.op .set Qo (cn UE (.op .set Qp8 Qdy))]
abbrev Qqz:List SE:=[Qf,vX,.op .set Qo (cn UE (.op .set Qp8 Qd0))]
def aeJ:T Lf:=sp Qp6 (sp Qe2 fl (sp Qp7 (sp (.lt Qa (ln Qqw)) (sp (.lt (ln Qqw) Qv) (ju 1913 Qqx) fl) (sp (.eq Qqw Qh) (ju 1913 Qqy) (sp (.eq Qqw Qk) (ju 1913 Qqz) fl))) fl)) (ou [Qh,Qo])
def aBB:T Lf:=ou [Qh,Qh]
def aBA:T Lf:=ou [Qh,Qk]
def aBz:T Lf:=sp Qp6 (sp Qe2 fl (sp Qp7 (sp (.lt Qa (ln Qqw)) (sp (.lt (ln Qqw) Qv) (ju 1916 Qqx) fl) (sp (.eq Qqw Qh) (ju 1916 Qqy) (sp (.eq Qqw Qk) (ju 1916 Qqz) fl))) fl)) (ou [Qk,Qo])
def aBy:T Lf:=ou [Qk,Qh]
def aBx:T Lf:=ou [Qk,Qk]
abbrev Qq0:SE:=el Qm Qa
abbrev Qq1:List SE:=[nm (ce 0 Qq0),ce 1 Qq0,nm (ce 2 Qq0),ce 3 Qq0,bD]
abbrev Qq2:SE:=rr 1950 Qq1 0
abbrev Qq3:SE:=el Qm Q0
abbrev Qq4:List SE:=[nm (ce 0 Qq3),ce 1 Qq3,nm (ce 2 Qq3),ce 3 Qq3,bD]
abbrev Qq5:SE:=rr 1950 Qq4 0
abbrev Qq6:SE:=.op .ED (.op .ED (.op .ED jK (cn Qos (mk (wr (.add Qq2 Qq5))))) (cn Qor (mk (wr (.sub Qq2 Qq5))))) (cn Qot (mk (wr (.mul Qq2 Qq5))))
abbrev Qq7:T Lf:=sp (.eq (.op .KP Qq6 Qg) Qa) bP (ou [nm (.op .KQ Qq6 Qg)])
def Xt:T Lf:=sp Qk7 (ou [Qo]) (sp Qk4 (sp uS bP (sp Qdk (ou [nm Qdl]) bP)) (sp Qlp (sp (.eq EL Q0) (sp (.eq Qg Qor) (sp (.eq (a0 1950 Qq1) Q0) (ou [wr (.sub Qa Qq2)]) fl) bP) (sp (.eq EL nK) (sp (.eq (a0 1950 Qq1) Q0) (sp (.eq (a0 1950 Qq4) Q0) (sp (.eq Qg Qou) (sp (.eq Qq2 Qq5) mW Qq7) (sp (.eq Qg Qov) (sp (.lt Qq2 Qq5) mW Qq7) Qq7)) fl) fl) bP)) bP))
abbrev Qq8:List SE:=[bD,Qf,Qb,Qo,Qm,bK,cZ,dX,fF,E8]
abbrev Qq9:List SE:=[bD,Qa,Qf,Qb,Qo,Qm,bK,cZ,dX,fF,E8,W9,Qpp,Qpq,Qpr,Qps,Qpt,Qpu]
def aeI:T Lf:=sp (.eq (a0 9050 QD) Q0) (sp (.eq rV Qa) (sp MC (sp MB (ou [E8,W9,Qa]) (ju 2001 [bD,Qf,Qb,Qo,Qm,bK,cZ,dX,fF,E8,W9])) fl) (sp (.eq rV Q0) (sp MC (sp MB (ou [E8,Qh,Qa]) (ju 2002 Qq8)) fl) (sp (.eq rV nK) (sp MC (sp MB (ou [E8,Qk,Qa]) (ju 2003 Qq8)) fl) (sp (.eq rV wS) (sp MC (sp MB (ou [E8,Qpw,Qa]) (ju 2004 Qq9)) fl) (sp (.eq rV tC) (sp MC (sp MB (ou [E8,Qpw,Qa]) (ju 2005 Qq9)) fl) fl))))) fl
abbrev Qra:List SE:=[Qb,Qo,fK,jH,Qf]
abbrev Qrb:T Lf:=sp Qlz (sp Qk0 fl fl) fl
abbrev Qrc:T Lf:=sp (.eq (a0 1900 [Qm,bD]) Q0) (ou [rr 1900 [Qm,bD] 0,rr 1900 [Qm,bD] 1,Qa]) fl
def aBw:T Lf:=sp (.eq (a0 1650 Qra) Q0) (sp (.eq (rr 1650 Qra 0) Qa) (sp (.eq (a0 1750 Qra) Q0) (sp (.eq (rr 1750 Qra 4) Qa) fl Qrb) fl) Qrc) fl
abbrev Qrd:List SE:=[Qb,Qo,fK,Qh,Qf]
def aBv:T Lf:=sp (.eq (a0 1650 Qrd) Q0) (sp (.eq (rr 1650 Qrd 0) Qa) (sp (.eq (a0 1750 Qrd) Q0) (sp (.eq (rr 1750 Qrd 4) Qa) fl Qrb) fl) Qrc) fl
abbrev Qre:List SE:=[Qb,Qo,fK,Qk,Qf]
def aBu:T Lf:=sp (.eq (a0 1650 Qre) Q0) (sp (.eq (rr 1650 Qre 0) Qa) (sp (.eq (a0 1750 Qre) Q0) (sp (.eq (rr 1750 Qre 4) Qa) fl Qrb) fl) Qrc) fl
abbrev Qrf:T Lf:=sp (.eq (a0 1900 [bD,bK]) Q0) (ou [rr 1900 [bD,bK] 0,rr 1900 [bD,bK] 1,Qa]) fl
abbrev uV:List SE:=[Qo,Qm,jH,.op .set kP (cn (mk Qf) (cn (mk nR) (cn mV (cn (mk qE) (cn (mk UH) (cn (mk Qfx) (cn (mk Qfr) jK))))))),Qf]
abbrev QM:SB:=.eq (rr 1650 uV 0) Qa
abbrev QL:SB:=.eq (rr 1750 uV 4) Qa
abbrev Qrj:List SE:=[Qo,Qm,Qf,jH,kP,nR,mV,qE,UH,Qfx,Qfr]
abbrev mD:List SE:=[Qo,Qm,Qf,rr 1750 uV 0,rr 1750 uV 1,rr 1750 uV 2,Qj0,jH,kP,nR,mV,qE,UH,Qfx,Qfr]
abbrev gV:List SE:=[Qo,Qm,Qf,rr 1750 uV 0,rr 1750 uV 1,rr 1750 uV 2,Qa,jH,kP,nR,mV,qE,UH,Qfx,Qfr]
abbrev Qrm:T Lf:=sp (.eq (a0 14500 gV) Q0) (sp (.eq (rr 14500 gV 0) Qa) (sp (.eq (rr 14500 gV 21) Qa) Qrf (sp (.and (.eq (rr 14500 gV 16) Qf) (.and (.eq (rr 14500 gV 17) cZ) (.and (.eq (rr 14500 gV 18) dX) (.and (.eq (rr 14500 gV 19) fF) (.eq (rr 14500 gV 20) fK))))) (ou [rr 14500 gV 22,.op .set kP (cn (mk Qf) (cn (mk (rr 14500 gV 23)) (cn (rr 14500 gV 24) (cn (mk (rr 14500 gV 25)) (cn (mk (rr 14500 gV 26)) (cn (mk (rr 14500 gV 27)) (cn (mk (rr 14500 gV 28)) jK))))))),Q0]) Qrf)) fl) fl
def aeH:T Lf:=sp (.lt (.lit 20000) Qb) Qrf (sp (.eq (a0 1650 uV) Q0) (sp QM (sp (.eq (a0 1750 uV) Q0) (sp QL (sp (.eq (a0 14000 Qrj) Q0) (sp (.eq (rr 14000 Qrj 0) Qa) (ju 2004 [Qf,vX,Qo,Qm,bD,bK,cZ,dX,fF,fK,jH,kP,rr 14000 Qrj 12,rr 14000 Qrj 13,qE,UH,Qfx,Qfr]) fl) fl) (sp (.eq cZ tC) (sp Zb (sp (.eq (a0 14500 mD) Q0) (sp (.eq (rr 14500 mD 0) Qa) (sp (.eq (rr 14500 mD 21) Qa) Qrf (sp (.and (.eq (rr 14500 mD 16) Qf) (.and (.eq (rr 14500 mD 17) cZ) (.and (.eq (rr 14500 mD 18) dX) (.and (.eq (rr 14500 mD 19) fF) (.eq (rr 14500 mD 20) fK))))) (ou [rr 14500 mD 22,.op .set kP (cn (mk Qf) (cn (mk (rr 14500 mD 23)) (cn (rr 14500 mD 24) (cn (mk (rr 14500 mD 25)) (cn (mk (rr 14500 mD 26)) (cn (mk (rr 14500 mD 27)) (cn (mk (rr 14500 mD 28)) jK))))))),Q0]) Qrf)) fl) fl) Qrm) Qrm)) fl) Qrf) fl)
abbrev Qrn:T Lf:=sp (.eq (a0 14550 gV) Q0) (sp (.eq (rr 14550 gV 0) Qa) (sp (.eq (rr 14550 gV 21) Qa) Qrf (sp (.and (.eq (rr 14550 gV 16) Qf) (.and (.eq (rr 14550 gV 17) cZ) (.and (.eq (rr 14550 gV 18) dX) (.and (.eq (rr 14550 gV 19) fF) (.eq (rr 14550 gV 20) fK))))) (ou [rr 14550 gV 22,.op .set kP (cn (mk Qf) (cn (mk (rr 14550 gV 23)) (cn mV (cn (mk (rr 14550 gV 24)) (cn (mk (rr 14550 gV 25)) (cn (mk (rr 14550 gV 26)) (cn (mk (rr 14550 gV 27)) jK))))))),Q0]) Qrf)) fl) fl
def aeG:T Lf:=sp (.lt (.lit 20000) Qb) Qrf (sp (.eq (a0 1650 uV) Q0) (sp QM (sp (.eq (a0 1750 uV) Q0) (sp QL (sp (.eq (a0 14050 Qrj) Q0) (sp (.eq (rr 14050 Qrj 0) Qa) (ju 2005 [Qf,vX,Qo,Qm,bD,bK,cZ,dX,fF,fK,jH,kP,rr 14050 Qrj 12,mV,qE,UH,Qfx,Qfr]) fl) fl) (sp (.eq cZ tC) (sp Zb (sp (.eq (a0 14550 mD) Q0) (sp (.eq (rr 14550 mD 0) Qa) (sp (.eq (rr 14550 mD 21) Qa) Qrf (sp (.and (.eq (rr 14550 mD 16) Qf) (.and (.eq (rr 14550 mD 17) cZ) (.and (.eq (rr 14550 mD 18) dX) (.and (.eq (rr 14550 mD 19) fF) (.eq (rr 14550 mD 20) fK))))) (ou [rr 14550 mD 22,.op .set kP (cn (mk Qf) (cn (mk (rr 14550 mD 23)) (cn mV (cn (mk (rr 14550 mD 24)) (cn (mk (rr 14550 mD 25)) (cn (mk (rr 14550 mD 26)) (cn (mk (rr 14550 mD 27)) jK))))))),Q0]) Qrf)) fl) fl) Qrn) Qrn)) fl) Qrf) fl)
def anL:T Lf:=sp (.eq (a0 200 [Qf,Qo]) Q0) (sp (.eq (rr 200 [Qf,Qo] 0) Qa) bP (sp (.eq Qc EL) (ju 2051 [Qc,Qa,Qf,Qb,Qo,Qm]) bP)) fl
def aeF:T Lf:=sp Qp6 (sp Qe2 fl (sp (.lt Qb EL) (sp (.lt Qb (ln bK)) (sp (.eq (nm (ce 0 Qqu)) (nm (ce 0 Zd))) (sp (.eq (nm (ce 2 Qqu)) (nm (ce 2 Zd))) (sp (.eq (nm (ce 3 Qqu)) (nm (ce 3 Zd))) (sp (.eq (nm (ce 4 Qqu)) (nm (ce 4 Zd))) (sp (.eq (nm (ce 5 Qqu)) (nm (ce 5 Zd))) (sp (.eq (ln Qqv) (ln (ce 1 Zd))) (ju 2052 [Qf,Qb,ln Qqv,Qa,Qo,Qm,bD,bK,nm (ce 0 Qqu),Qqv,nm (ce 2 Qqu),nm (ce 3 Qqu),nm (ce 4 Qqu),nm (ce 5 Qqu),nm (ce 0 Zd),ce 1 Zd,nm (ce 2 Zd),nm (ce 3 Zd),nm (ce 4 Zd),nm (ce 5 Zd)]) bP) bP) bP) bP) bP) bP) fl) fl)) mW
def aeE:T Lf:=sp Qp (sp Qq fl (sp (.lt Qm (ln fK)) (sp (.lt Qm (ln UH)) (sp (.eq (nm (el fK Qm)) (nm (el UH Qm))) (ju 2052 [Qf,Qb,Qo,Q1,bD,bK,cZ,dX,fF,fK,jH,kP,nR,mV,qE,UH,Qfx,Qfr,.aO 18,.aO 19]) bP) fl) fl)) (ju 2051 [Qf,vX,bD,bK,cZ,dX])
abbrev Qro:SB:=.eq (rr 1450 KJ 2) Qa
abbrev Qrp:SE:=rr 1450 KJ 0
abbrev Qrq:SE:=rr 1450 KJ 1
def aeD:T Lf:=sp (.eq (a0 1450 KJ) Q0) (sp Qro (ju 2151 [Qo,Qcl,Qa,Qf,Qb,Qrp,Qrq]) (ou [Qh,Qh,Qa])) fl
abbrev Qrr:List SE:=[Qm,bD,bK,cZ,Qgk,nm JD,Qgj,nm Qgm,nm Xa]
def aeC:T Lf:=sp wV (sp uS fl (sp QO (sp (.eq (a0 2000 Qrr) Q0) (sp (.eq (rr 2000 Qrr 2) Qa) (ou [bK,cZ,Qo]) (ju 2151 [Qf,Qb,kH,Qm,bD,rr 2000 Qrr 0,rr 2000 Qrr 1])) fl) fl)) (ou [bK,cZ,sZ])
def anK:T Lf:=sp Qff (ju 2451 Qfg) bP
def aeB:T Lf:=sp Qp (sp Qq fl (sp Qfh (sp Qr (sp (.and Qfk (.and Qfl (.and (.eq Qfm Qfn) (.and Qfo (.eq (nm (ce 4 Qfi)) (nm Qt)))))) (ju 2451 Qfy) bP) fl) fl)) mW
abbrev Qrs:List SE:=[Qo,Qm,bD,bK,Qb]
def Xr:T Lf:=sp (.eq IG Qc) (sp (.eq (a0 16000 [bD]) Q0) (sp (.eq (rr 16000 [bD] 0) Qa) Qo8 bP) fl) bP
abbrev Qrv:T Lf:=ou [Qh,Qh,Qh,nK]
def Gn:T Lf:=sp (.eq (a0 1450 KJ) Q0) (sp Qro (sp Qcm (sp (.lt Qcl Qv) (sp (.eq (a0 2750 [Qf,Qb,Qrp,Qrq,Qo]) Q0) (sp (.eq (rr 2750 [Qf,Qb,Qrp,Qrq,Qo] 0) Qa) Qrv (ou [Qrp,Qrq,Qo,Qa])) fl) fl) (sp Qco (sp (.eq (a0 2750 [Qf,Qb,Qrp,Qrq,Qh]) Q0) (sp (.eq (rr 2750 [Qf,Qb,Qrp,Qrq,Qh] 0) Qa) Qrv (ou [Qrp,Qrq,Qh,Qa])) fl) (sp Qcq (sp (.eq (a0 2750 [Qf,Qb,Qrp,Qrq,Qk]) Q0) (sp (.eq (rr 2750 [Qf,Qb,Qrp,Qrq,Qk] 0) Qa) Qrv (ou [Qrp,Qrq,Qk,Qa])) fl) fl))) (ou [Qh,Qh,Qh,rr 1450 KJ 2])) fl
abbrev Qrw:SE:=ce 2 Qf2
abbrev Qrx:SE:=nm (ce 3 Qf2)
def MS:T Lf:=sp uS fl (sp Qf0 (sp (.eq (nm Qrw) Qjz) (sp (.lt Qrx Qa) fl (sp (.lt Qrx sZ) (sp (.eq (a0 900 [ce 4 (el Qf Qrx),Qo]) Q0) (sp (.eq (rr 900 [ce 4 (el Qf Qrx),Qo] 0) Qa) bP mW) fl) fl)) (sp (.eq (nm Qrw) Qj1) (sp (.lt Qrx Qa) fl (sp (.lt Qrx sZ) (sp (.lt (nm (ce 4 Qf2)) (nm (ce 3 (el Qf Qrx)))) bP mW) fl)) bP)) fl)
abbrev Qry:List SE:=[Qo,Qm,bD]
abbrev Qrz:T Lf:=sp (.eq (a0 2850 Qry) Q0) (sp (.eq (rr 2850 Qry 0) Qa) mW bP) fl
def MQ:T Lf:=sp Qlu fl (sp (.lt bD EL) (sp (.eq Qpa Qa) (sp Qo5 (sp Qpc bP Qrz) fl) Qrz) fl)
abbrev QN:List SE:=[Qf,Qb,Qo,Qm,bK]
def aeA:T Lf:=sp (.eq (a0 2900 QN) Q0) (sp (.eq (rr 2900 QN 0) Qa) bP (ju 2951 [bK,bD,IG,Qa,Qf,Qb,Qo,Qm])) fl
abbrev Qr1:T Lf:=ju 2951 [Qf,Qb,Qo,Q1,bD,bK,cZ,dX]
abbrev Qr2:T Lf:=sp (.eq (a0 2900 [bD,bK,cZ,dX,Qm]) Q0) (sp (.eq (rr 2900 [bD,bK,cZ,dX,Qm] 0) Qa) Qr1 bP) fl
def Gm:T Lf:=sp Qp (sp Qq fl (sp Qr (sp (.lt Qf Qa) fl (sp (.lt Qf Qc) (sp (.lt Qk9 (nm Q2)) Qr2 (sp (.eq Qk9 (nm Q2)) (sp (.lt Qm Qf) Qr2 Qr1) Qr1)) fl)) fl)) mW
abbrev Qr3:SB:=.eq (rr 2750 UG 0) Qa
abbrev Qr4:SB:=.eq (a0 2950 [Qf,Qb,Qo,Qm,bD,bK]) Q0
abbrev Qr5:SB:=.eq (rr 2950 [Qf,Qb,Qo,Qm,bD,bK] 0) Qa
def anH:T Lf:=ju 3051 [Qf,sZ,Qb,Qo]
abbrev Qr6:SE:=ce 4 Qf8
abbrev Qr7:SE:=ce 5 Qf8
abbrev Qr8:SB:=.lt Qa (ln Qr7)
abbrev Qr9:SB:=.lt (ln Qr7) Qv
abbrev Qsa:SE:=mk Qf9
abbrev Qsb:SE:=mk (nm Qoy)
abbrev Qsc:SE:=.op .bit Qgc Qa
abbrev Qsd:SE:=mk (nm (ce 3 Qf8))
abbrev Qse:SE:=cn Qk jK
def adZ:T Lf:=sp Qf6 (sp Qf7 (sp (.lt Qa (ln Qr6)) (sp (.lt (ln Qr6) Qv) (sp Qr8 (sp Qr9 (ju 3052 [Qf,Qb,Q0,Qo,Qm,.op .snoc jK (cn Qsa (cn Qsb (cn Qsc (cn Qsd (cn Qr6 (cn Qr7 jK))))))]) fl) (sp (.eq Qr7 Qh) (ju 3052 [Qf,Qb,Q0,Qo,Qm,.op .snoc jK (cn Qsa (cn Qsb (cn Qsc (cn Qsd (cn Qr6 Qgd)))))]) (sp (.eq Qr7 Qk) (ju 3052 [Qf,Qb,Q0,Qo,Qm,.op .snoc jK (cn Qsa (cn Qsb (cn Qsc (cn Qsd (cn Qr6 Qse)))))]) fl))) fl) (sp (.eq Qr6 Qh) (sp Qr8 (sp Qr9 (ju 3052 [Qf,Qb,Q0,Qo,Qm,.op .snoc jK (cn Qsa (cn Qsb (cn Qsc (cn Qsd (cn Qh (cn Qr7 jK))))))]) fl) (sp (.eq Qr7 Qh) (ju 3052 [Qf,Qb,Q0,Qo,Qm,.op .snoc jK (cn Qsa (cn Qsb (cn Qsc (cn Qsd (cn Qh Qgd)))))]) (sp (.eq Qr7 Qk) (ju 3052 [Qf,Qb,Q0,Qo,Qm,.op .snoc jK (cn Qsa (cn Qsb (cn Qsc (cn Qsd (cn Qh Qse)))))]) fl))) (sp (.eq Qr6 Qk) (sp Qr8 (sp Qr9 (ju 3052 [Qf,Qb,Q0,Qo,Qm,.op .snoc jK (cn Qsa (cn Qsb (cn Qsc (cn Qsd (cn Qk (cn Qr7 jK))))))]) fl) (sp (.eq Qr7 Qh) (ju 3052 [Qf,Qb,Q0,Qo,Qm,.op .snoc jK (cn Qsa (cn Qsb (cn Qsc (cn Qsd (cn Qk Qgd)))))]) (sp (.eq Qr7 Qk) (ju 3052 [Qf,Qb,Q0,Qo,Qm,.op .snoc jK (cn Qsa (cn Qsb (cn Qsc (cn Qsd (cn Qk Qse)))))]) fl))) fl))) fl) (ju 3053 [Qo,Qcl,Qf,Qm])
abbrev Qsf:SB:=.lt (ln bK) (.lit 1759218604440)
abbrev Qsg:SE:=mk Qgk
abbrev Qsh:SE:=mk (nm JD)
abbrev Qsi:SE:=.op .bit (mk Qgj) Qa
abbrev Qsj:SE:=mk (nm Qgm)
def adY:T Lf:=sp wV (sp uS fl (sp QO (sp (.lt Qa (ln Xa)) (sp (.lt (ln Xa) Qv) (sp Qli (sp Qlj (sp Qsf (ju 3052 [Qf,Qb,kH,Qm,bD,.op .snoc bK (cn Qsg (cn Qsh (cn Qsi (cn Qsj (cn Xa (cn Qgo jK))))))]) fl) fl) (sp Qll (sp Qsf (ju 3052 [Qf,Qb,kH,Qm,bD,.op .snoc bK (cn Qsg (cn Qsh (cn Qsi (cn Qsj (cn Xa Qgd)))))]) fl) (sp Qlm (sp Qsf (ju 3052 [Qf,Qb,kH,Qm,bD,.op .snoc bK (cn Qsg (cn Qsh (cn Qsi (cn Qsj (cn Xa Qse)))))]) fl) fl))) fl) (sp (.eq Xa Qh) (sp Qli (sp Qlj (sp Qsf (ju 3052 [Qf,Qb,kH,Qm,bD,.op .snoc bK (cn Qsg (cn Qsh (cn Qsi (cn Qsj (cn Qh (cn Qgo jK))))))]) fl) fl) (sp Qll (sp Qsf (ju 3052 [Qf,Qb,kH,Qm,bD,.op .snoc bK (cn Qsg (cn Qsh (cn Qsi (cn Qsj (cn Qh Qgd)))))]) fl) (sp Qlm (sp Qsf (ju 3052 [Qf,Qb,kH,Qm,bD,.op .snoc bK (cn Qsg (cn Qsh (cn Qsi (cn Qsj (cn Qh Qse)))))]) fl) fl))) (sp (.eq Xa Qk) (sp Qli (sp Qlj (sp Qsf (ju 3052 [Qf,Qb,kH,Qm,bD,.op .snoc bK (cn Qsg (cn Qsh (cn Qsi (cn Qsj (cn Qk (cn Qgo jK))))))]) fl) fl) (sp Qll (sp Qsf (ju 3052 [Qf,Qb,kH,Qm,bD,.op .snoc bK (cn Qsg (cn Qsh (cn Qsi (cn Qsj (cn Qk Qgd)))))]) fl) (sp Qlm (sp Qsf (ju 3052 [Qf,Qb,kH,Qm,bD,.op .snoc bK (cn Qsg (cn Qsh (cn Qsi (cn Qsj (cn Qk Qse)))))]) fl) fl))) fl))) fl)) (ju 3054 [Qm,EL,Qf,bD,bK])
abbrev Qsk:SE:=cn Qgc (cn Qsd (cn (mk (nm Qr6)) (cn (mk (nm Qr7)) jK)))
abbrev Qsl:SE:=.op .snoc jK (cn Qsa (cn Qoy Qsk))
abbrev Qsm:SE:=.op .snoc jK (cn Qsa (cn Qh Qsk))
abbrev Qsn:SE:=.op .snoc jK (cn Qsa (cn Qk Qsk))
def JL:T Lf:=sp Qf6 (sp Qf7 (sp (.lt Qa (ln Qoy)) (sp Qo0 (ju 3055 [Qf,Qb,Q0,Qo,Qm,Qsl]) fl) (sp (.eq Qoy Qh) (ju 3055 [Qf,Qb,Q0,Qo,Qm,Qsm]) (sp (.eq Qoy Qk) (ju 3055 [Qf,Qb,Q0,Qo,Qm,Qsn]) fl))) fl) (sp (.lt Qa EL) (sp (.lt EL Qv) (ou [Qh,Qh,Qm]) fl) (sp (.eq Qow Qh) (ou [Qh,Qh,Qh]) (sp (.eq Qow Qk) (ou [Qh,Qh,Qk]) fl)))
def JK:T Lf:=sp Qf6 (sp Qf7 (sp (.lt Qa (ln Qoy)) (sp Qo0 (ju 3056 [Qf,Qb,Q0,Qo,Qm,bD,Qsl]) fl) (sp (.eq Qoy Qh) (ju 3056 [Qf,Qb,Q0,Qo,Qm,bD,Qsm]) (sp (.eq Qoy Qk) (ju 3056 [Qf,Qb,Q0,Qo,Qm,bD,Qsn]) fl))) fl) (sp (.lt Qa EL) (sp (.lt EL Qv) (ou [bD,Qh,Qm]) fl) (sp (.eq Qow Qh) (ou [bD,Qh,Qh]) (sp (.eq Qow Qk) (ou [bD,Qh,Qk]) fl)))
abbrev Qso:SB:=.lt (ln bK) Qo1
abbrev Qsp:SE:=cn (mk Qgj) (cn Qsj (cn (mk (nm Xa)) (cn (mk (nm Qgo)) jK)))
abbrev Qsq:SB:=.eq (.op .norm bD Qa) Qh
abbrev Qsr:SB:=.eq (.op .norm bD Qa) Qk
def JJ:T Lf:=sp wV (sp uS fl (sp QO (sp (.lt Qa (ln JD)) (sp Qo2 (sp Qso (ju 3055 [Qf,Qb,kH,Qm,bD,.op .snoc bK (cn Qsg (cn JD Qsp))]) fl) fl) (sp (.eq JD Qh) (sp Qso (ju 3055 [Qf,Qb,kH,Qm,bD,.op .snoc bK (cn Qsg (cn Qh Qsp))]) fl) (sp (.eq JD Qk) (sp Qso (ju 3055 [Qf,Qb,kH,Qm,bD,.op .snoc bK (cn Qsg (cn Qk Qsp))]) fl) fl))) fl)) (sp (.lt Qa IG) (sp (.lt IG Qv) (ou [Qh,bK,bD]) fl) (sp Qsq (ou [Qh,bK,Qh]) (sp Qsr (ou [Qh,bK,Qk]) fl)))
def JI:T Lf:=sp wV (sp uS fl (sp QO (sp (.lt Qa (ln JD)) (sp Qo2 (sp (.lt Qfc Qo1) (ju 3056 [Qf,Qb,kH,Qm,bD,bK,.op .snoc cZ (cn Qsg (cn JD Qsp))]) fl) fl) (sp (.eq JD Qh) (sp (.lt Qfc Qo1) (ju 3056 [Qf,Qb,kH,Qm,bD,bK,.op .snoc cZ (cn Qsg (cn Qh Qsp))]) fl) (sp (.eq JD Qk) (sp (.lt Qfc Qo1) (ju 3056 [Qf,Qb,kH,Qm,bD,bK,.op .snoc cZ (cn Qsg (cn Qk Qsp))]) fl) fl))) fl)) (sp (.lt Qa IG) (sp (.lt IG Qv) (ou [bK,cZ,bD]) fl) (sp Qsq (ou [bK,cZ,Qh]) (sp Qsr (ou [bK,cZ,Qk]) fl)))
abbrev Qss:SB:=.eq (a0 3050 Qry) Q0
abbrev Qst:SE:=rr 3050 Qry 0
abbrev Qsu:SE:=rr 3050 Qry 1
abbrev Qsv:SE:=rr 3050 Qry 2
abbrev Qsw:T Lf:=sp Qss (ou [Qst,Qsu,Qsv,Qa,Qa,Qa,Qa,Qa,Qa,Qa]) fl
abbrev Qsx:SB:=.eq (nm (el bD bK)) Qon
abbrev Qsy:SE:=.lit 131
abbrev Qsz:T Lf:=sp Qss (ou [Qst,Qsu,Qsv,Qa,Qa,Qa,Qa,Qa,Qa,Qsy]) fl
abbrev Qs0:SE:=.op .set bD (cn KI (mk (wr (.add (nm (el bD bK)) Q0))))
abbrev Qs1:List SE:=[Qo,Qm,rr 1850 QN 0,rr 1850 QN 1,rr 1850 QN 2,rr 1850 QN 3,rr 1850 QN 4,rr 1850 QN 5,rr 1850 QN 6,Qs0,nm (el Qs0 bK)]
abbrev Qs2:T Lf:=sp (.eq (a0 1850 QN) Q0) (sp (.lt Qa IG) (sp (.lt IG Qv) (sp (.eq (a0 15000 Qs1) Q0) (sp (.eq (rr 15000 Qs1 0) Qa) (ou [rr 1850 QN 0,rr 1850 QN 1,rr 15000 Qs1 12,rr 1850 QN 2,rr 1850 QN 3,rr 1850 QN 4,rr 1850 QN 5,rr 1850 QN 6,rr 1850 QN 7,Qa]) fl) fl) fl) (sp Qsq fl (sp Qsr fl fl))) fl
def yG:T Lf:=sp Qfp Qsw (sp (.lt bK Qc) (sp (.eq (a0 2750 UG) Q0) (sp Qr3 Qsw (sp (.eq (a0 1700 QN) Q0) (sp (.eq (rr 1700 QN 0) Qa) (sp (.eq (a0 1800 QN) Q0) (sp (.lt bK IG) (sp (.eq (a0 2850 [Qo,Qm,bK]) Q0) (sp (.eq (rr 2850 [Qo,Qm,bK] 0) Qa) (sp (.eq (rr 1800 QN 4) Qa) (sp Qsx (sp Qr4 (sp Qr5 Qsw Qsz) fl) Qs2) (sp Qr4 (sp Qr5 Qsw (sp Qsx Qsz Qs2)) fl)) Qsw) fl) fl) fl) (sp Qss (ou [Qst,Qsu,Qsv,Qa,Qa,Qa,Qa,Qa,tC,Qa]) fl)) fl)) fl) Qsw)
def Rq:T Lf:=sp (.eq (a0 2800 Qgu) Q0) (sp (.eq (rr 2800 Qgu 3) Qa) (ju 3151 [Qm,Qc,Qa,Qf,Qb,rr 2800 Qgu 0,rr 2800 Qgu 1,rr 2800 Qgu 2]) (ou [Qh,Qh,Qh,Qh,rr 2800 Qgu 3])) fl
abbrev Zo:List SE:=[Qm,bD,bK,cZ,dX,.rem (wr (.add (.rem (nm Xc) Qb) Qb)) Qb]
abbrev Qs4:T Lf:=ju 3152 [Qf,.op .snoc jK (cn (mk (rr 3100 Zo 3)) (cn (mk (rr 3100 Zo 4)) (cn (mk (rr 3100 Zo 5)) (cn (mk (rr 3100 Zo 6)) (cn (mk (rr 3100 Zo 7)) jK))))),Qb,kH,Qm,bD,rr 3100 Zo 0,rr 3100 Zo 1,rr 3100 Zo 2]
abbrev Qs5:T Lf:=ou [Qh,bK,cZ,dX,Qa]
def Gj:T Lf:=sp QO (sp Qf6 (sp uS fl (sp (.eq (a0 3100 Zo) Q0) (sp (.eq (rr 3100 Zo 9) Qa) (sp (.eq (rr 3100 Zo 8) nK) Qs4 (sp (.eq (rr 3100 Zo 8) wS) Qs4 (ju 3151 [Qf,Qb,kH,Qm,bD,rr 3100 Zo 0,rr 3100 Zo 1,rr 3100 Zo 2]))) (ou [Qh,bK,cZ,dX,rr 3100 Zo 9])) fl)) Qs5) Qs5
abbrev Zn:List SE:=[bD,bK,cZ,dX,fF,.rem (wr (.add (.rem Qmk Qo) Qo)) Qo]
abbrev Qs7:T Lf:=sp (.lt Qc (.lit 3518437208882)) (ju 3152 [Qf,.op .snoc Qb (cn (mk (rr 3100 Zn 3)) (cn (mk (rr 3100 Zn 4)) (cn (mk (rr 3100 Zn 5)) (cn (mk (rr 3100 Zn 6)) (cn (mk (rr 3100 Zn 7)) jK))))),Qo,Q1,bD,bK,rr 3100 Zn 0,rr 3100 Zn 1,rr 3100 Zn 2]) fl
abbrev Qs8:T Lf:=ou [Qb,cZ,dX,fF,Qa]
def MP:T Lf:=sp Qfh (sp (.lt Qa Qo) (sp Qq fl (sp (.eq (a0 3100 Zn) Q0) (sp (.eq (rr 3100 Zn 9) Qa) (sp (.eq (rr 3100 Zn 8) nK) Qs7 (sp (.eq (rr 3100 Zn 8) wS) Qs7 (ju 3152 [Qf,Qb,Qo,Q1,bD,bK,rr 3100 Zn 0,rr 3100 Zn 1,rr 3100 Zn 2]))) (ou [Qb,cZ,dX,fF,rr 3100 Zn 9])) fl)) Qs8) Qs8
def anG:T Lf:=sp (.eq (a0 2050 [Qf,Qb,Qm,bD]) Q0) (sp (.eq (rr 2050 [Qf,Qb,Qm,bD] 0) Qa) bP (sp (.eq (a0 3550 [Qo,bK]) Q0) (sp (.eq (rr 3550 [Qo,bK] 0) Qa) bP mW) fl)) fl
abbrev Qs9:SE:=.lit 200
abbrev Qta:List SE:=[Qf,Qb,Qo,.op .take Qm Qs9]
abbrev Qtb:List SE:=[Qf,Qb,Qo,.op .take bD Qs9]
abbrev Qtc:SE:=rr 3150 Qtb 0
abbrev Qtd:SE:=ln Qtc
abbrev Qte:SE:=rr 3150 Qta 0
abbrev Qtf:SE:=ln Qte
abbrev Qtg:List SE:=[.op .take Qte Qtd,.op .take Qtc Qtd]
abbrev Qth:SE:=rr 3150 Qta 4
abbrev Qti:SB:=.eq Qth Qko
abbrev Qtj:SE:=rr 3150 Qtb 4
abbrev Qtk:T Lf:=sp (.eq Qtj Qth) (sp (.eq (wr (.add Qtf Qtd)) Qa) mW bP) bP
abbrev Qtl:SB:=.eq Qth nK
abbrev Qtm:SB:=.eq (a0 2150 [Qf,Qb,Qte]) Q0
abbrev Qtn:SB:=.eq (rr 2150 [Qf,Qb,Qte] 2) Qtf
abbrev Qto:SB:=.eq Qth Qsy
abbrev Qtp:SB:=.eq Qtj Qsy
abbrev Qtq:List SE:=[Qc,Qa,Qf,Qb,rr 3150 Qta 1,rr 3150 Qta 2,rr 3150 Qta 3,rr 3150 Qtb 1,rr 3150 Qtb 2,rr 3150 Qtb 3]
abbrev Qtr:T Lf:=sp Qd (ju 3451 Qtq) (ju 3452 Qtq)
abbrev Qts:List SE:=[.op .take Qte Qtf,.op .take Qtc Qtf]
abbrev Qtt:List SE:=[Qf,Qb,Qo,.op .take bD IG]
abbrev Qtu:SE:=rr 3150 Qtt 0
abbrev Qtv:SE:=ln Qtu
abbrev Qtw:List SE:=[.op .take Qte Qtv,.op .take Qtu Qtv]
abbrev Qtx:SE:=rr 3150 Qtt 4
abbrev Qty:T Lf:=sp (.eq Qtx Qth) (sp (.eq (wr (.add Qtf Qtv)) Qa) mW bP) bP
abbrev Qtz:SB:=.eq Qtx Qsy
abbrev Qt0:List SE:=[Qc,Qa,Qf,Qb,rr 3150 Qta 1,rr 3150 Qta 2,rr 3150 Qta 3,rr 3150 Qtt 1,rr 3150 Qtt 2,rr 3150 Qtt 3]
abbrev Qt1:T Lf:=sp Qd (ju 3451 Qt0) (ju 3452 Qt0)
abbrev Qt2:List SE:=[.op .take Qte Qtf,.op .take Qtu Qtf]
abbrev Qt3:List SE:=[Qf,Qb,Qo,.op .take Qm EL]
abbrev Qt4:SE:=rr 3150 Qt3 0
abbrev Qt5:SE:=ln Qt4
abbrev Qt6:List SE:=[.op .take Qt4 Qtd,.op .take Qtc Qtd]
abbrev Qt7:SE:=rr 3150 Qt3 4
abbrev Qt8:SB:=.eq Qt7 Qko
abbrev Qt9:T Lf:=sp (.eq Qtj Qt7) (sp (.eq (wr (.add Qt5 Qtd)) Qa) mW bP) bP
abbrev Qua:SB:=.eq Qt7 nK
abbrev Qub:SB:=.eq (a0 2150 [Qf,Qb,Qt4]) Q0
abbrev Quc:SB:=.eq (rr 2150 [Qf,Qb,Qt4] 2) Qt5
abbrev Qud:SB:=.eq Qt7 Qsy
abbrev Que:List SE:=[Qc,Qa,Qf,Qb,rr 3150 Qt3 1,rr 3150 Qt3 2,rr 3150 Qt3 3,rr 3150 Qtb 1,rr 3150 Qtb 2,rr 3150 Qtb 3]
abbrev Quf:T Lf:=sp Qd (ju 3451 Que) (ju 3452 Que)
abbrev Qug:List SE:=[.op .take Qt4 Qt5,.op .take Qtc Qt5]
abbrev Quh:List SE:=[.op .take Qt4 Qtv,.op .take Qtu Qtv]
abbrev Qui:T Lf:=sp (.eq Qtx Qt7) (sp (.eq (wr (.add Qt5 Qtv)) Qa) mW bP) bP
abbrev Quj:List SE:=[Qc,Qa,Qf,Qb,rr 3150 Qt3 1,rr 3150 Qt3 2,rr 3150 Qt3 3,rr 3150 Qtt 1,rr 3150 Qtt 2,rr 3150 Qtt 3]
abbrev Quk:T Lf:=sp Qd (ju 3451 Quj) (ju 3452 Quj)
abbrev Qul:List SE:=[.op .take Qt4 Qt5,.op .take Qtu Qt5]
def Ro:T Lf:=sp (.eq (a0 100 KJ) Q0) (sp (.eq (rr 100 KJ 0) Qa) (sp (.lt Qfb Qcl) mW (sp (.lt Qs9 EL) (sp (.eq (a0 3150 Qta) Q0) (sp (.lt Qs9 IG) (sp (.eq (a0 3150 Qtb) Q0) (sp (.lt Qtd Qtf) (sp (.lt Qtd Qtd) fl (sp (.eq (a0 2450 Qtg) Q0) (sp (.eq (rr 2450 Qtg 0) Qa) bP (sp Qti Qtk (sp Qtl Qtk (sp Qtm (sp Qtn (sp Qto (sp Qtp bP Qtr) (sp Qtp bP Qtr)) bP) fl)))) fl)) (sp (.lt Qtf Qtf) fl (sp (.eq (a0 2450 Qts) Q0) (sp (.eq (rr 2450 Qts 0) Qa) bP (sp Qti Qtk (sp Qtl Qtk (sp Qtm (sp Qtn (sp Qto (sp (.lt Qtf Qtd) bP (sp Qtp Qtr Qtr)) (sp Qtp Qtr Qtr)) bP) fl)))) fl))) fl) (sp (.lt IG IG) fl (sp (.eq (a0 3150 Qtt) Q0) (sp (.lt Qtv Qtf) (sp (.lt Qtv Qtv) fl (sp (.eq (a0 2450 Qtw) Q0) (sp (.eq (rr 2450 Qtw 0) Qa) bP (sp Qti Qty (sp Qtl Qty (sp Qtm (sp Qtn (sp Qto (sp Qtz bP Qt1) (sp Qtz bP Qt1)) bP) fl)))) fl)) (sp (.lt Qtf Qtf) fl (sp (.eq (a0 2450 Qt2) Q0) (sp (.eq (rr 2450 Qt2 0) Qa) bP (sp Qti Qty (sp Qtl Qty (sp Qtm (sp Qtn (sp Qto (sp (.lt Qtf Qtv) bP (sp Qtz Qt1 Qt1)) (sp Qtz Qt1 Qt1)) bP) fl)))) fl))) fl))) fl) (sp (.lt EL EL) fl (sp (.eq (a0 3150 Qt3) Q0) (sp (.lt Qs9 IG) (sp (.eq (a0 3150 Qtb) Q0) (sp (.lt Qtd Qt5) (sp (.lt Qtd Qtd) fl (sp (.eq (a0 2450 Qt6) Q0) (sp (.eq (rr 2450 Qt6 0) Qa) bP (sp Qt8 Qt9 (sp Qua Qt9 (sp Qub (sp Quc (sp Qud (sp Qtp bP Quf) (sp Qtp bP Quf)) bP) fl)))) fl)) (sp (.lt Qt5 Qt5) fl (sp (.eq (a0 2450 Qug) Q0) (sp (.eq (rr 2450 Qug 0) Qa) bP (sp Qt8 Qt9 (sp Qua Qt9 (sp Qub (sp Quc (sp Qud (sp (.lt Qt5 Qtd) bP (sp Qtp Quf Quf)) (sp Qtp Quf Quf)) bP) fl)))) fl))) fl) (sp (.lt IG IG) fl (sp (.eq (a0 3150 Qtt) Q0) (sp (.lt Qtv Qt5) (sp (.lt Qtv Qtv) fl (sp (.eq (a0 2450 Quh) Q0) (sp (.eq (rr 2450 Quh 0) Qa) bP (sp Qt8 Qui (sp Qua Qui (sp Qub (sp Quc (sp Qud (sp Qtz bP Quk) (sp Qtz bP Quk)) bP) fl)))) fl)) (sp (.lt Qt5 Qt5) fl (sp (.eq (a0 2450 Qul) Q0) (sp (.eq (rr 2450 Qul 0) Qa) bP (sp Qt8 Qui (sp Qua Qui (sp Qub (sp Quc (sp Qud (sp (.lt Qt5 Qtv) bP (sp Qtz Quk Quk)) (sp Qtz Quk Quk)) bP) fl)))) fl))) fl))) fl)))) mW) fl
abbrev Qum:List SE:=[Qf,vX,Qo,Qm,bD,bK,cZ,dX,fF,fK]
abbrev Qun:List SE:=[bD,bK,cZ,dX,fF,fK]
def MO:T Lf:=sp Qp6 (sp (.eq (a0 1700 Qrs) Q0) (sp (.eq (rr 1700 Qrs 0) Qa) (ju 3452 Qum) (sp (.eq (a0 1700 [Qo,Qm,dX,fF,Qb]) Q0) (sp (.eq (rr 1700 [Qo,Qm,dX,fF,Qb] 0) Qa) (ju 3452 Qum) (ju 3451 Qum)) fl)) fl) (sp (.eq (a0 3300 Qun) Q0) (sp (.eq (rr 3300 Qun 0) Qa) bP mW) fl)
def adX:T Lf:=sp Qp6 (ju 3452 Qum) mW
def anE:T Lf:=sp Qff (ju 3551 Qfg) bP
def adW:T Lf:=sp Qp (sp Qq fl (sp Qfh (sp Qr (sp (.eq Qmk Qk9) (ju 3551 Qfy) bP) fl) fl)) mW
def anD:T Lf:=sp (.eq (a0 5400 Qo6) Q0) (sp (.lt (rr 5400 Qo6 3) Qa) (ou [rr 5400 Qo6 0,rr 5400 Qo6 1,rr 5400 Qo6 2,Qa]) (ou [rr 5400 Qo6 0,rr 5400 Qo6 1,rr 5400 Qo6 2,Q0])) fl
abbrev Qvq:SE:=wr (.sub bK Q0)
def anC:T Lf:=sp (.lt Qvq Qa) (ou [Qvq,cZ,Qa]) (sp (.lt Zp bD) (ou [Qvq,cZ,Qa]) (ju 5051 [bD,Qm,EL,Qa,Qvq,cZ,Qf,Qb,Qo]))
abbrev Qvr:List SE:=[Qfj,ce 1 Qs,Qfn,ce 3 Qs,Qks,bD,bK]
abbrev Qvs:SE:=.op .norm dX Qa
abbrev Qvt:T Lf:=ou [bD,bK,Qa]
abbrev Qvu:T Lf:=ou [bD,bK,Q0]
def adV:T Lf:=sp Qp (sp Qq fl (sp Qr (sp (.eq (a0 5050 Qvr) Q0) (sp (.eq (rr 5050 Qvr 2) Qa) (ou [rr 5050 Qvr 0,rr 5050 Qvr 1,Qa]) (ju 5051 [Qf,Qb,Qo,Q1,rr 5050 Qvr 0,rr 5050 Qvr 1,cZ,dX,fF])) fl) fl)) (sp (.eq cZ Q0) (sp (.eq Qc Qa) (sp (.eq Qvs jK) (sp Qkw Qvt Qvu) Qvt) Qvt) (sp (.eq cZ nK) (sp (.eq Qc Qa) (sp Qkw Qvt (sp (.lt fF bK) (sp (.eq (a0 12900 [dX,Qa]) Q0) (sp (.eq (rr 12900 [dX,Qa] 0) Qa) Qvt (sp (.eq (rr 12900 [dX,Qa] 0) Q0) Qvu fl)) fl) Qvt)) Qvt) (sp (.eq cZ wS) (sp Zb (sp (.eq Qc Q0) (sp (.eq Qvs Qor) Qvu Qvt) (sp (.eq Qc nK) (sp (.eq Qvs Qos) Qvu (sp (.eq Qvs Qor) Qvu (sp (.eq Qvs Qot) Qvu (sp (.eq Qvs Qou) Qvu (sp (.eq Qvs Qov) Qvu Qvt))))) Qvt)) Qvt) Qvt)))
def anB:T Lf:=ju 5101 KJ
def aBt:T Lf:=ou [Qb]
def anA:T Lf:=ju 5151 KJ
def aBs:T Lf:=ou [Qf,Qb,Q0]
def amZ:T Lf:=ju 5201 KJ
def aBr:T Lf:=ou [Q0,Qf,Qb,Q0]
def amY:T Lf:=ju 5251 [Qb,Qf,sZ,Qa,Qo]
abbrev Qvv:SE:=wr (.add bD Q0)
abbrev Qvw:SB:=.eq (a0 1150 [Qfj,ce 1 Qs,Qfn,ce 3 Qs]) Q0
abbrev Qvx:SB:=.eq (rr 1150 [Qfj,ce 1 Qs,Qfn,ce 3 Qs] 0) Qa
abbrev Qvy:SB:=.eq (a0 5450 [ce 3 Qs,Qks,Qvv]) Q0
abbrev Qvz:List SE:=[Qf,Qb,Qo,Q1,rr 5450 [ce 3 Qs,Qks,Qvv] 0]
def adU:T Lf:=sp Qp (sp Qq fl (sp Qr (sp (.lt (.lit 1000) Qvv) fl (sp (.lt Zp Qf) fl (sp Qvw (sp Qvx fl (sp Qvy (ju 5251 Qvz) fl)) fl))) fl)) (ou [bD,Qb])
def amX:T Lf:=ju 5301 [Qf,Qa,Qb,Qo,Qm]
abbrev Qv0:SB:=.eq (nm (ce 0 Qp8)) nK
abbrev Qv1:List SE:=[ce 3 Qp8,Qm,bD]
abbrev Qv2:T Lf:=sp (.eq (a0 5500 Qv1) Q0) (sp (.eq (rr 5500 Qv1 2) Qa) (ou [Qo,rr 5500 Qv1 0,rr 5500 Qv1 1,Qa]) (ju 5301 [Qf,vX,Qo,rr 5500 Qv1 0,rr 5500 Qv1 1])) fl
def adT:T Lf:=sp Qp6 (sp Qe2 fl (sp Qp7 (sp Qv0 (sp (.eq (.op .KP bD Qqw) Qa) (ou [Qo,Qm,bD,Qa]) (sp (.eq (nm (.op .KQ bD Qqw)) Qa) (ou [Qo,Qm,bD,Qa]) Qv2)) Qv2) fl)) (ou [Qo,Qm,bD,Q0])
def amW:T Lf:=ju 5351 [Qf,Qa,Qb,Q0,Qo,Qm]
abbrev Qv3:T Lf:=ou [Qo,Qm,bD,bK,Qa]
abbrev Qv4:List SE:=[ce 3 Qp8,Qm,bD,bK]
abbrev Qv5:T Lf:=sp (.eq (a0 5600 Qv4) Q0) (sp (.eq (rr 5600 Qv4 3) Qa) (ou [Qo,rr 5600 Qv4 0,rr 5600 Qv4 1,rr 5600 Qv4 2,Qa]) (ju 5351 [Qf,vX,Qo,rr 5600 Qv4 0,rr 5600 Qv4 1,rr 5600 Qv4 2])) fl
def adS:T Lf:=sp Qp6 (sp Qe2 fl (sp Qp7 (sp Qv0 (sp (.eq (.op .KP bK Qqw) Qa) Qv3 (sp (.eq (nm (.op .KQ bK Qqw)) Qa) Qv3 Qv5)) Qv5) fl)) (ou [Qo,Qm,bD,bK,Q0])
def UW:T Lf:=sp (.eq (a0 16050 Qj) Q0) (sp (.lt (rr 16050 Qj 0) Qa) bP mW) fl
def amV:T Lf:=ju 5401 [Qf,sZ,Qa,Qb,Qo,Qm]
def adR:T Lf:=sp wV (sp uS fl (sp QO (sp (.eq (a0 800 [Qgk,JD,Qgj,Qgm,IG]) Q0) (sp (.eq (rr 800 [Qgk,JD,Qgj,Qgm,IG] 0) Qa) (ou [Qm,bD,bK,Qo]) (ju 5401 [Qf,Qb,kH,Qm,bD,bK])) fl) fl)) (ou [Qm,bD,bK,Qjh])
def amU:T Lf:=ju 5451 [Qb,Qf,sZ,Qa,Qo]
def amT:T Lf:=sp Qp (sp Qq fl (sp Qr (sp (.lt (.lit 1000) Qvv) fl (sp (.lt Zp Qf) fl (sp Qvw (sp Qvx fl (sp Qvy (ju 5451 Qvz) fl)) fl))) fl)) (ou [bD])
def amR:T Lf:=ju 5501 [Qf,sZ,Qa,Qb,Qo]
abbrev Qv6:List SE:=[Qgm,Qm,bD]
abbrev Qv7:T Lf:=sp (.eq (a0 5500 Qv6) Q0) (sp (.eq (rr 5500 Qv6 2) Qa) (ou [rr 5500 Qv6 0,rr 5500 Qv6 1,Qa]) (ju 5501 [Qf,Qb,kH,rr 5500 Qv6 0,rr 5500 Qv6 1])) fl
def amQ:T Lf:=sp wV (sp uS fl (sp QO (sp (.eq Qgk nK) (sp (.eq (.op .KP bD JD) Qa) Qo3 (sp (.eq (nm (.op .KQ bD JD)) Qa) Qo3 Qv7)) Qv7) fl)) (ou [Qm,bD,Q0])
def aBq:T Lf:=ju 5551 [Qf,sZ,Qa,Q0,Qb,Qo]
abbrev Qv8:SB:=.eq (.op .KP bK JD) Qa
abbrev Qv9:T Lf:=ou [Qm,bD,bK,Qa]
abbrev Qwa:SB:=.eq (nm (.op .KQ bK JD)) Qa
abbrev Qwb:List SE:=[Qgm,Qm,bD,bK]
abbrev Qwc:SB:=.eq (rr 5600 Qwb 3) Qa
abbrev Qwd:T Lf:=ou [rr 5600 Qwb 0,rr 5600 Qwb 1,rr 5600 Qwb 2,Qa]
abbrev Qwe:List SE:=[Qf,Qb,kH,rr 5600 Qwb 0,rr 5600 Qwb 1,rr 5600 Qwb 2]
abbrev Qwf:T Lf:=sp (.eq (a0 5600 Qwb) Q0) (sp Qwc Qwd (ju 5551 Qwe)) fl
def aBp:T Lf:=sp wV (sp uS fl (sp QO (sp (.eq Qgk nK) (sp Qv8 Qv9 (sp Qwa Qv9 Qwf)) Qwf) fl)) (ou [Qm,bD,bK,Q0])
def amP:T Lf:=ju 5601 [Qf,sZ,Qa,Qb,Qo,Qm]
abbrev Qwg:T Lf:=sp (.eq (a0 5600 Qwb) Q0) (sp Qwc Qwd (ju 5601 Qwe)) fl
def amO:T Lf:=sp wV (sp uS fl (sp QO (sp (.eq Qgk nK) (sp Qv8 Qv9 (sp Qwa Qv9 Qwg)) Qwg) fl)) (ou [Qm,bD,bK,Q0])
def ZF:T Lf:=ju 16051 [Qf,sZ,Qa]
def MX:T Lf:=sp wV (sp uS fl (sp QO (sp (.lt (nm Xc) Qa) (ou [Qo]) (ju 16051 [Qf,Qb,kH])) fl)) (ou [Qjh])
abbrev Qwh:List SE:=[Qf,Qb,Qo,Qm,bD,bK,cZ,dX,fF,fK,jH,kP,nR]
abbrev Qwi:SE:=rr 12050 Qwh 14
abbrev Qwj:T Lf:=ou [Qa,Qf,Qb,Qo,Qm,bD,bK,cZ,dX,fF,fK,jH,kP,nR]
def U5:T Lf:=sp (.eq (a0 12050 Qwh) Q0) (sp (.eq (rr 12050 Qwh 0) Qa) (sp (.eq Qwi Qjh) Qwj (ju 12001 [Qf,Qb,Qo,Qm,bD,bK,cZ,dX,fF,fK,jH,kP,nR,Qf,Qwi,wr (.add Qwi Q0)])) fl) fl
abbrev Qwk:SB:=.eq (nm (el mV UH)) Qb
abbrev Qwl:List SE:=[Qf,Qb,Qo,Qm,bD,bK,cZ,dX,fF,fK,jH,kP,nR,mV,qE,wr (.add UH Q0)]
abbrev Qwm:SB:=.lt qE Qa
abbrev Qwn:SE:=wr (.add qE Q0)
abbrev Qwo:List SE:=[Qf,Qb,Qo,Qm,bD,bK,cZ,dX,fF,fK,jH,kP,nR,.op .set mV (cn (mk qE) (mk (nm (el mV UH)))),Qwn,wr (.add UH Q0)]
abbrev Qwp:T Lf:=sp Qwm fl (sp (.lt Qlc qE) fl (sp (.lt (.sub Qlc qE) Qa) fl (sp (.eq (.add qE (.sub Qlc qE)) Qlc) (ou [Q0,Qf,Qb,Qo,Qm,bD,bK,cZ,dX,fF,fK,jH,kP,nR,qE,.op .fill mV (cn (mk qE) jK),Qlc]) fl)))
def Nl:T Lf:=sp (.lt UH Qlc) (sp (.lt UH Qa) fl (sp Qwk (ju 12001 Qwl) (sp Qwm fl (sp (.lt qE Qlc) (ju 12001 Qwo) fl)))) Qwp
abbrev Qwq:List SE:=[Qf,Qb,Qo,Qm,bD,bK,cZ,dX,fF,fK,jH,kP,nR,sZ,Qa]
def ZV:T Lf:=ju 12051 Qwq
abbrev Qwr:SB:=.eq (nm (el Qf qE)) Qb
abbrev Qws:T Lf:=ou [Qa,Qf,Qb,Qo,Qm,bD,bK,cZ,dX,fF,fK,jH,kP,nR,qE]
abbrev Qwt:List SE:=[Qf,Qb,Qo,Qm,bD,bK,cZ,dX,fF,fK,jH,kP,nR,mV,Qwn]
abbrev Qwu:T Lf:=ou [Qa,Qf,Qb,Qo,Qm,bD,bK,cZ,dX,fF,fK,jH,kP,nR,Qjh]
def Nk:T Lf:=sp (.lt qE mV) (sp Qwm fl (sp (.lt qE sZ) (sp Qwr Qws (ju 12051 Qwt)) fl)) Qwu
abbrev Qwv:SE:=rr 12150 Qwh 14
def U4:T Lf:=sp (.eq (a0 12150 Qwh) Q0) (sp (.eq (rr 12150 Qwh 0) Qa) (sp (.eq Qwv Qjh) Qwj (ju 12101 [Qf,Qb,Qo,Qm,bD,bK,cZ,dX,fF,fK,jH,kP,nR,Qf,Qwv,wr (.add Qwv Q0)])) fl) fl
def Nj:T Lf:=sp (.lt UH Qlc) (sp (.lt UH Qa) fl (sp Qwk (ju 12101 Qwl) (sp Qwm fl (sp (.lt qE Qlc) (ju 12101 Qwo) fl)))) Qwp
def ZU:T Lf:=ju 12151 Qwq
def Nh:T Lf:=sp (.lt qE mV) (sp Qwm fl (sp (.lt qE sZ) (sp Qwr Qws (ju 12151 Qwt)) fl)) Qwu
def ZT:T Lf:=sp (.eq (a0 12250 Qwh) Q0) (sp (.eq (rr 12250 Qwh 0) Qa) Qwj fl) fl
def ZR:T Lf:=ju 12251 Qwh
def ZQ:T Lf:=ou [Qa,Qf,Qb,Qo,Qm,bD,bK,cZ,dX,fF,fK,jH,kP,nR]
def ZP:T Lf:=sp (.eq (a0 12350 Qwh) Q0) (sp (.eq (rr 12350 Qwh 0) Qa) Qwj fl) fl
def ZO:T Lf:=ju 12351 Qwh
def ZN:T Lf:=ou [Qa,Qf,Qb,Qo,Qm,bD,bK,cZ,dX,fF,fK,jH,kP,nR]
abbrev Qww:SB:=.eq (a0 1400 [Qf,Qm5,Qb,jK,Qo]) Q0
abbrev Qwx:SB:=.eq (rr 1400 [Qf,Qm5,Qb,jK,Qo] 0) Qa
abbrev Qwy:T Lf:=ou [Qa,Qf,Qb,Qo,Qm,bD,bK,cZ]
abbrev Qwz:SB:=.lt (.lit 23) bD
abbrev Qw0:SB:=.eq bK Qa
abbrev Qw1:SB:=.eq (a0 1250 [bD]) Q0
abbrev Qw2:SB:=.eq (rr 1250 [bD] 0) Qa
abbrev Qw3:SB:=.eq (a0 1300 [bD]) Q0
abbrev Qw4:SB:=.eq (rr 1300 [bD] 0) Qa
abbrev Qw5:SB:=.eq (a0 5100 [nK,Q0]) Q0
abbrev Qw6:T Lf:=sp Qw5 (ou [Q0,Qf,Qb,Qo,Qm,bD,bK,cZ]) fl
abbrev Qw7:SB:=.eq (a0 1000 [jK]) Q0
abbrev Qw8:SB:=.eq (rr 1000 [jK] 0) Qa
def ZM:T Lf:=sp Qww (sp Qwx Qwy (sp Qfa Qwy (sp Qwz Qwy (sp Qw0 (sp Qw1 (sp Qw2 (sp Qw3 (sp Qw4 Qw6 (sp Qw7 (sp Qw8 Qwy Qw6) fl)) fl) Qwy) fl) Qwy)))) fl
abbrev Qw9:SE:=.dat (.p (.i 98) (.i 0))
abbrev Qxa:SB:=.eq (a0 1400 [Q0,Qw9,Qf,jK,Qb]) Q0
abbrev Qxb:SB:=.eq (rr 1400 [Q0,Qw9,Qf,jK,Qb] 0) Qa
abbrev Qxc:T Lf:=ou [Qa,Qf,Qb,Qo,Qm,bD,bK,cZ,dX,fF]
abbrev Qxd:SB:=.eq (a0 1400 [Qo,Qm5,Qm,Qw9,bD]) Q0
abbrev Qxe:SB:=.eq (rr 1400 [Qo,Qm5,Qm,Qw9,bD] 0) Qa
abbrev Qxf:SB:=.lt cZ Q0
abbrev Qxg:SB:=.lt (.lit 23) cZ
abbrev Qxh:SB:=.eq (a0 1250 [cZ]) Q0
abbrev Qxi:SB:=.eq (rr 1250 [cZ] 0) Qa
abbrev Qxj:SB:=.eq (a0 1300 [cZ]) Q0
abbrev Qxk:SB:=.eq (rr 1300 [cZ] 0) Qa
abbrev Qxl:T Lf:=sp Qw5 (ou [Q0,Qf,Qb,Qo,Qm,bD,bK,cZ,dX,fF]) fl
def ZL:T Lf:=sp Qxa (sp Qxb Qxc (sp Qxd (sp Qxe Qxc (sp Qxf Qxc (sp Qxg Qxc (sp Qk0 (sp Qxh (sp Qxi (sp Qxj (sp Qxk Qxl (sp Qw7 (sp Qw8 Qxc Qxl) fl)) fl) Qxc) fl) Qxc)))) fl)) fl
def ZK:T Lf:=sp Qww (sp Qwx Qwy (sp Qfa Qwy (sp Qwz Qwy (sp Qw0 (sp Qw1 (sp Qw2 (sp Qw3 (sp Qw4 Qwy Qw6) fl) Qwy) fl) Qwy)))) fl
def ZJ:T Lf:=sp Qxa (sp Qxb Qxc (sp Qxd (sp Qxe Qxc (sp Qxf Qxc (sp Qxg Qxc (sp Qk0 (sp Qxh (sp Qxi (sp Qxj (sp Qxk Qxc Qxl) fl) Qxc) fl) Qxc)))) fl)) fl
abbrev Qxm:T Lf:=ou [Qa,Qf,Qb,Qo,Qm,bD,bK,cZ,dX]
abbrev Qxn:SB:=.eq Qfc (rr 1250 [bD] 0)
abbrev Qxo:T Lf:=sp (.eq (a0 5250 [cZ,nK,Q0]) Q0) (ou [Q0,Qf,Qb,Qo,Qm,bD,bK,cZ,dX,Qfc,rr 5250 [cZ,nK,Q0] 1]) fl
def U3:T Lf:=sp Qww (sp Qwx Qxm (sp Qfa Qxm (sp Qwz Qxm (sp Qw0 (sp Qw1 (sp Qxn (sp Qw3 (sp Qw4 Qxo (sp Qw7 (sp Qw8 Qxm Qxo) fl)) fl) Qxm) fl) Qxm)))) fl
abbrev Qxp:T Lf:=ou [Qa,Qf,Qb,Qo,Qm,bD,bK,cZ,dX,fF,fK]
abbrev Qxq:SB:=.eq (ln fF) (rr 1250 [cZ] 0)
abbrev Qxr:T Lf:=sp (.eq (a0 5250 [fF,nK,Q0]) Q0) (ou [Q0,Qf,Qb,Qo,Qm,bD,bK,cZ,dX,fF,fK,ln fF,rr 5250 [fF,nK,Q0] 1]) fl
def U2:T Lf:=sp Qxa (sp Qxb Qxp (sp Qxd (sp Qxe Qxp (sp Qxf Qxp (sp Qxg Qxp (sp Qk0 (sp Qxh (sp Qxq (sp Qxj (sp Qxk Qxr (sp Qw7 (sp Qw8 Qxp Qxr) fl)) fl) Qxp) fl) Qxp)))) fl)) fl
def U1:T Lf:=sp Qww (sp Qwx Qxm (sp Qfa Qxm (sp Qwz Qxm (sp Qw0 (sp Qw1 (sp Qxn (sp Qw3 (sp Qw4 Qxm Qxo) fl) Qxm) fl) Qxm)))) fl
def U0:T Lf:=sp Qxa (sp Qxb Qxp (sp Qxd (sp Qxe Qxp (sp Qxf Qxp (sp Qxg Qxp (sp Qk0 (sp Qxh (sp Qxq (sp Qxj (sp Qxk Qxp Qxr) fl) Qxp) fl) Qxp)))) fl)) fl
def ZI:T Lf:=ju 12801 [Qf,Qb,Qb]
abbrev Qxs:SE:=nm (el (.dat b0) (nm Xc))
abbrev Qxt:SE:=.op .idx (.op .sub Qf (cn F6 (cn (mk sZ) jK))) Qis
abbrev Qxu:T Lf:=ou [Qa,Qf,Qb,Qo]
def UZ:T Lf:=sp QO (sp uS fl (sp (.lt (nm Xc) Qa) fl (sp (.lt (nm Xc) Qoi) (sp (.eq Qxs Q0) (ju 12801 [Qf,Qb,kH]) (sp (.eq Qxs nK) (sp (.lt sZ sZ) fl (sp (.lt Qxt Qa) (ou [Qa,Qf,Qb,sZ]) (ju 12801 [Qf,Qb,wr (.add Qo Qxt)]))) Qxu)) fl))) Qxu
abbrev Qxv:SE:=nm (el Qf Qb)
abbrev Qxw:SE:=wr (.add Qb nK)
abbrev Qxx:SE:=.op .norm (.op .sub Qf (cn UE (cn (mk sZ) jK))) Qa
abbrev Qxy:SE:=.dat (.p (.i 45) (.p (.i 62) (.i 0)))
abbrev Qxz:T Lf:=ou [Qa,Qf,Qb,wr (.add vX Q0)]
abbrev Qx0:SE:=.op .norm (.op .sub Qf (cn UE (cn (mk Qxw) jK))) Qa
def ZH:T Lf:=sp Qe2 fl (sp (.lt Qb sZ) (sp (.lt Qxv Qa) fl (sp (.lt Qxv Qoi) (sp (.eq (nm (el (.dat b0) Qxv)) Qch) (sp (.lt sZ Qxw) (sp (.lt sZ sZ) fl (sp (.eq Qxx Qxy) Qxz (sp (.eq Qxx Qou) Qxz (ou [Qa,Qf,Qb,vX])))) (sp (.lt Qxw Qb) fl (sp (.eq Qx0 Qxy) Qxz (sp (.eq Qx0 Qou) Qxz (ou [Qa,Qf,Qb,vX]))))) (ju 12851 [Qf,Qb,nm (el (.dat b0) Qxv),vX])) fl)) fl)
abbrev Qx1:T Lf:=ou [Qa,Qf,Qb,Qm]
def UY:T Lf:=sp Qfh (sp Qq fl (sp (.lt Qmk Qa) fl (sp (.lt Qmk Qoi) (sp (.eq (nm (el (.dat b0) Qmk)) wS) (ju 12851 Qfy) (sp (.eq (nm (el (.dat b0) Qmk)) tC) (sp (.eq Qo tC) (ju 12851 Qfy) Qx1) Qx1)) fl))) Qx1
abbrev Qx2:SE:=el Qrw bK
abbrev Qx3:SE:=nm (ce 0 Qx2)
abbrev Qx4:SB:=.lt Qa (ln (ce 6 Qx2))
abbrev Qx5:SE:=el (ce 6 Qx2) Qa
abbrev Qx6:List SE:=[nm (ce 0 Qx5),ce 1 Qx5,nm (ce 2 Qx5),ce 3 Qx5,cZ]
abbrev Qx7:SB:=.eq (a0 1950 Qx6) Q0
abbrev Qx8:SE:=nm (ce 3 Qx2)
abbrev Qx9:SB:=.eq (rr 1950 Qx6 0) Qa
abbrev Qya:T Lf:=ou [Qa,Qf,Qb,Qo,Qm,bD,bK,cZ,dX,fF,fK,jH,nm (ce 4 Qx2),cZ]
def zS:T Lf:=sp uS fl (sp Qdk (sp Qf0 (sp Qfp fl (sp (.lt bK (ln Qrw)) (sp (.eq Qx3 wS) (sp Qx4 (sp Qx7 (sp (.lt Qx8 Qa) fl (sp (.lt Qx8 Qfc) (ou [Qa,Qf,Qb,Qo,Qm,bD,bK,cZ,dX,fF,fK,jH,Qfs,.op .set cZ (cn (mk Qx8) (mk (rr 1950 Qx6 0)))]) fl)) fl) fl) (sp (.eq Qx3 tC) (sp Qx4 (sp Qx7 (sp Qx9 Qya (ou [Qa,Qf,Qb,Qo,Qm,bD,bK,cZ,dX,fF,fK,jH,Qfs,cZ])) fl) fl) (sp (.eq Qx3 Qch) Qya (sp (.eq Qx3 Zt) (sp (.lt Qx8 Qa) fl (sp (.lt Qx8 Qfc) (ou [Qa,Qf,Qb,Qo,Qm,bD,bK,cZ,dX,fF,fK,jH,Qfs,.op .set cZ (cn (mk Qx8) (mk (nm (ce 5 Qx2))))]) fl)) (sp (.eq Qx3 Qik) (sp (.lt Qx8 Qa) fl (sp (.lt Qx8 Qfc) (sp (.lt Qa (nm (el cZ Qx8))) (ou [Qa,Qf,Qb,Qo,Qm,bD,bK,cZ,dX,fF,fK,jH,Qfs,.op .set cZ (cn (mk Qx8) (mk (wr (.sub (nm (el cZ Qx8)) Q0))))]) Qya) fl)) fl))))) fl)) fl) fl)
abbrev Qyb:List SE:=[Qf,Qb,dX,Qo,Qm,bD,bK,cZ]
abbrev IE:SE:=rr 400 Qyb 6
abbrev Qyd:SE:=el Qrw fK
abbrev Qye:SB:=.eq (nm (ce 0 Qyd)) Q0
abbrev Qyf:SB:=.eq (nm (ce 1 Qyd)) Qj2
abbrev QC:SE:=rr 400 Qyb 2
abbrev IC:SE:=rr 400 Qyb 4
abbrev Qyi:SE:=nm (ce 3 Qyd)
abbrev Qyj:SB:=.lt Qyi Qa
abbrev Qyk:SB:=.eq IE wS
abbrev UD:SE:=rr 400 Qyb 1
abbrev E5:SE:=rr 400 Qyb 3
abbrev UC:SE:=rr 400 Qyb 5
abbrev UA:SE:=rr 400 Qyb 0
abbrev Qyp:SE:=wr (.add fK Q0)
abbrev Qyq:T Lf:=ou [Qa,Qf,Qb,Qo,Qm,bD,bK,cZ,dX,fF,fK,jH,kP,nR,mV,qE,UD,QC,E5,IC,UC,IE,UA,Qyp,jH,Qjz,E5,mV,Qa]
abbrev Qyr:T Lf:=ou [Qa,Qf,Qb,Qo,Qm,bD,bK,cZ,dX,fF,fK,jH,kP,nR,mV,qE,UD,QC,E5,IC,UC,IE,UA,Qyp,jH,kP,nR,mV,Qa]
abbrev Qys:SB:=.lt Qyi (ln jH)
abbrev Qyt:SE:=.op .set jH (cn (mk Qyi) (mk IC))
abbrev Qyu:T Lf:=ou [Qa,Qf,Qb,Qo,Qm,bD,bK,cZ,dX,fF,fK,jH,kP,nR,mV,qE,UD,QC,E5,IC,UC,IE,UA,Qyp,Qyt,Qjz,E5,mV,Qa]
abbrev Qyv:T Lf:=ou [Qa,Qf,Qb,Qo,Qm,bD,bK,cZ,dX,fF,fK,jH,kP,nR,mV,qE,UD,QC,E5,IC,UC,IE,UA,Qyp,Qyt,kP,nR,mV,Qa]
abbrev Qyw:SE:=nm (ce 4 Qyd)
abbrev Qyx:T Lf:=ou [Qa,Qf,Qb,Qo,Qm,bD,bK,cZ,dX,fF,fK,jH,kP,nR,mV,qE,UD,QC,E5,IC,UC,IE,UA,Qyw,jH,Qjz,E5,mV,Qa]
abbrev Qyy:T Lf:=ou [Qa,Qf,Qb,Qo,Qm,bD,bK,cZ,dX,fF,fK,jH,kP,nR,mV,qE,UD,QC,E5,IC,UC,IE,UA,Qyw,jH,kP,nR,mV,Qa]
abbrev Qyz:T Lf:=ou [Qa,Qf,Qb,Qo,Qm,bD,bK,cZ,dX,fF,fK,jH,kP,nR,mV,qE,UD,QC,E5,IC,UC,IE,UA,Qyw,Qyt,Qjz,E5,mV,Qa]
abbrev Qy0:T Lf:=ou [Qa,Qf,Qb,Qo,Qm,bD,bK,cZ,dX,fF,fK,jH,kP,nR,mV,qE,UD,QC,E5,IC,UC,IE,UA,Qyw,Qyt,kP,nR,mV,Qa]
abbrev Qy1:SB:=.eq QC (.lit 15)
abbrev Qy2:T Lf:=sp Qyk (sp Qy1 (ou [Qa,Qf,Qb,Qo,Qm,bD,bK,cZ,dX,fF,fK,jH,kP,nR,mV,qE,UD,QC,E5,IC,UC,IE,UA,Qyp,jH,Qj1,E5,IC,Qa]) Qyq) Qyr
def fU:T Lf:=sp (.eq (a0 400 Qyb) Q0) (sp uS fl (sp (.lt Qo (ln fF)) (sp (.eq IE Qa) (sp (.eq Qm tC) (sp (.lt Qj0 Qwn) (ou [Qa,Qf,Qb,Qo,Qm,bD,bK,cZ,dX,fF,fK,jH,kP,nR,mV,qE,Qa,Qa,Qa,Qa,Qa,IE,dX,fK,jH,kP,nR,mV,Qj0]) (ou [Qa,Qf,Qb,Qo,Qm,bD,bK,cZ,dX,fF,fK,jH,kP,nR,mV,qE,Qa,Qa,Qa,Qa,Qa,IE,dX,fK,jH,kP,nR,mV,Qwn])) (ou [Qa,Qf,Qb,Qo,Qm,bD,bK,cZ,dX,fF,fK,jH,kP,nR,mV,qE,Qa,Qa,Qa,Qa,Qa,IE,dX,fK,jH,kP,nR,mV,qE])) (sp (.eq kP Qa) (sp Qf0 (sp Qld fl (sp (.lt fK (ln Qrw)) (sp Qye (sp Qyf (sp (.eq QC Qj2) (sp (.eq IC Q0) (sp Qyj (sp Qyk Qyq Qyr) (sp Qys (sp Qyk Qyu Qyv) fl)) (sp Qyj (sp Qyk Qyx Qyy) (sp Qys (sp Qyk Qyz Qy0) fl))) (sp Qyj (sp Qyk (sp Qy1 (ou [Qa,Qf,Qb,Qo,Qm,bD,bK,cZ,dX,fF,fK,jH,kP,nR,mV,qE,UD,QC,E5,IC,UC,IE,UA,Qyw,jH,Qj1,E5,IC,Qa]) Qyx) Qyy) (sp Qys (sp Qyk (sp Qy1 (ou [Qa,Qf,Qb,Qo,Qm,bD,bK,cZ,dX,fF,fK,jH,kP,nR,mV,qE,UD,QC,E5,IC,UC,IE,UA,Qyw,Qyt,Qj1,E5,IC,Qa]) Qyz) Qy0) fl))) (sp Qyj Qy2 (sp Qys (sp Qyk (sp Qy1 (ou [Qa,Qf,Qb,Qo,Qm,bD,bK,cZ,dX,fF,fK,jH,kP,nR,mV,qE,UD,QC,E5,IC,UC,IE,UA,Qyp,Qyt,Qj1,E5,IC,Qa]) Qyu) Qyv) fl))) Qy2) fl)) fl) (ou [Qa,Qf,Qb,Qo,Qm,bD,bK,cZ,dX,fF,fK,jH,kP,nR,mV,qE,UD,QC,E5,IC,UC,IE,UA,fK,jH,Qa,Qa,Qa,Qa]))) fl)) fl
abbrev Qy3:T Lf:=ou [Qa,Qf,Qb,Qo,Qm,bD,bK,cZ,dX,fF,fK,jH,nm (ce 4 Qx2)]
def Nb:T Lf:=sp uS fl (sp Qdk (sp Qf0 (sp Qfp fl (sp (.lt bK (ln Qrw)) (sp (.eq Qx3 wS) (sp Qx4 (sp Qx7 fl fl) fl) (sp (.eq Qx3 tC) (sp Qx4 (sp Qx7 (sp Qx9 Qy3 (ou [Qa,Qf,Qb,Qo,Qm,bD,bK,cZ,dX,fF,fK,jH,Qfs])) fl) fl) (sp (.eq Qx3 Qch) Qy3 (sp (.eq Qx3 Zt) fl (sp (.eq Qx3 Qik) fl fl))))) fl)) fl) fl)
abbrev Qy4:T Lf:=ou [Qa,Qf,Qb,Qo,Qm,bD,bK,cZ,dX,fF,fK,jH,kP,nR,mV,qE,UD,QC,E5,IC,UC,IE,UA,Qyp,Qjz,E5,mV,Qa]
abbrev Qy5:T Lf:=ou [Qa,Qf,Qb,Qo,Qm,bD,bK,cZ,dX,fF,fK,jH,kP,nR,mV,qE,UD,QC,E5,IC,UC,IE,UA,Qyp,kP,nR,mV,Qa]
abbrev Qy6:T Lf:=ou [Qa,Qf,Qb,Qo,Qm,bD,bK,cZ,dX,fF,fK,jH,kP,nR,mV,qE,UD,QC,E5,IC,UC,IE,UA,Qyw,Qjz,E5,mV,Qa]
abbrev Qy7:T Lf:=ou [Qa,Qf,Qb,Qo,Qm,bD,bK,cZ,dX,fF,fK,jH,kP,nR,mV,qE,UD,QC,E5,IC,UC,IE,UA,Qyw,kP,nR,mV,Qa]
abbrev Qy8:T Lf:=sp Qyk (sp Qy1 (ou [Qa,Qf,Qb,Qo,Qm,bD,bK,cZ,dX,fF,fK,jH,kP,nR,mV,qE,UD,QC,E5,IC,UC,IE,UA,Qyp,Qj1,E5,IC,Qa]) Qy4) Qy5
def kJ:T Lf:=sp (.eq (a0 400 Qyb) Q0) (sp uS fl (sp (.lt Qo (ln fF)) (sp (.eq IE Qa) (sp (.eq Qm tC) (sp (.lt Qj0 Qwn) (ou [Qa,Qf,Qb,Qo,Qm,bD,bK,cZ,dX,fF,fK,jH,kP,nR,mV,qE,Qa,Qa,Qa,Qa,Qa,IE,dX,fK,kP,nR,mV,Qj0]) (ou [Qa,Qf,Qb,Qo,Qm,bD,bK,cZ,dX,fF,fK,jH,kP,nR,mV,qE,Qa,Qa,Qa,Qa,Qa,IE,dX,fK,kP,nR,mV,Qwn])) (ou [Qa,Qf,Qb,Qo,Qm,bD,bK,cZ,dX,fF,fK,jH,kP,nR,mV,qE,Qa,Qa,Qa,Qa,Qa,IE,dX,fK,kP,nR,mV,qE])) (sp (.eq kP Qa) (sp Qf0 (sp Qld fl (sp (.lt fK (ln Qrw)) (sp Qye (sp Qyf (sp (.eq QC Qj2) (sp (.eq IC Q0) (sp Qyj (sp Qyk Qy4 Qy5) fl) (sp Qyj (sp Qyk Qy6 Qy7) fl)) (sp Qyj (sp Qyk (sp Qy1 (ou [Qa,Qf,Qb,Qo,Qm,bD,bK,cZ,dX,fF,fK,jH,kP,nR,mV,qE,UD,QC,E5,IC,UC,IE,UA,Qyw,Qj1,E5,IC,Qa]) Qy6) Qy7) fl)) (sp Qyj Qy8 fl)) Qy8) fl)) fl) (ou [Qa,Qf,Qb,Qo,Qm,bD,bK,cZ,dX,fF,fK,jH,kP,nR,mV,qE,UD,QC,E5,IC,UC,IE,UA,fK,Qa,Qa,Qa,Qa]))) fl)) fl
abbrev Qy9:SE:=wr (.sub dX Q0)
abbrev Qza:T Lf:=ou [Qa,Qf,Qb,Qo,Qm,bD,bK,cZ,dX,fF,fK,jH,fK]
def zQ:T Lf:=sp (.eq bK (.lit 13)) (sp (.lt Qa dX) (sp (.lt Qy9 Qa) fl (sp (.lt Qy9 (ln fK)) (sp (.lt (nm (el fK Qy9)) jH) (ou [Qa,Qf,Qb,Qo,Qm,bD,bK,cZ,dX,fF,fK,jH,.op .set fK (cn (mk Qy9) (mk jH))]) (ou [Qa,Qf,Qb,Qo,Qm,bD,bK,cZ,dX,fF,fK,jH,.op .set fK (cn (mk Qy9) (mk (nm (el fK Qy9))))])) fl)) Qza) (sp (.eq bK (.lit 14)) (sp Qe7 fl (sp (.lt cZ sZ) (ju 15001 [Qf,Qb,Qo,Qm,bD,bK,cZ,dX,fF,fK,jH,ce 4 (el Qf cZ),ln (ce 4 (el Qf cZ)),Qa,fK]) fl)) (sp (.eq bK (.lit 15)) (sp Qe7 fl (sp (.lt cZ Qcl) (sp (.lt dX (nm (ce 3 (el Qo cZ)))) (ju 15002 [Qf,Qb,Qo,Qm,bD,bK,cZ,dX,fF,fK,jH,EL,Qa,fK]) Qza) fl)) Qza))
abbrev Qzb:SE:=nm (el kP mV)
def MZ:T Lf:=sp (.lt mV nR) (sp (.lt mV Qa) fl (sp (.lt mV (ln kP)) (sp (.lt Qzb Qa) fl (sp (.lt Qzb (ln qE)) (sp (.lt (nm (el qE Qzb)) jH) (ju 15001 [Qf,Qb,Qo,Qm,bD,bK,cZ,dX,fF,fK,jH,kP,nR,wr (.add mV Q0),.op .set qE (cn (mk Qzb) (mk jH))]) (ju 15001 [Qf,Qb,Qo,Qm,bD,bK,cZ,dX,fF,fK,jH,kP,nR,wr (.add mV Q0),.op .set qE (cn (mk Qzb) (mk (nm (el qE Qzb))))])) fl)) fl)) (ou [Qa,Qf,Qb,Qo,Qm,bD,bK,cZ,dX,fF,fK,jH,qE])
abbrev Qzc:SE:=wr (.add nR Q0)
abbrev Qzd:T Lf:=ju 15002 [Qf,Qb,Qo,Qm,bD,bK,cZ,dX,fF,fK,jH,kP,Qzc,mV]
def BP:T Lf:=sp (.lt nR kP) (sp (.lt nR Qa) fl (sp (.lt nR EL) (sp (.eq (nm (ce 2 (el Qm nR))) Qj1) (sp (.eq (nm (ce 3 (el Qm nR))) cZ) (sp (.eq (nm (ce 4 (el Qm nR))) dX) (sp (.lt nR Qlc) (sp (.lt (nm (el mV nR)) jH) (ju 15002 [Qf,Qb,Qo,Qm,bD,bK,cZ,dX,fF,fK,jH,kP,Qzc,.op .set mV (cn (mk nR) (mk jH))]) (ju 15002 [Qf,Qb,Qo,Qm,bD,bK,cZ,dX,fF,fK,jH,kP,Qzc,.op .set mV (cn (mk nR) (mk (nm (el mV nR))))])) fl) Qzd) Qzd) Qzd) fl)) (ou [Qa,Qf,Qb,Qo,Qm,bD,bK,cZ,dX,fF,fK,jH,mV])
def ZG:T Lf:=sp (.eq (a0 1000 Qj) Q0) (sp (.eq (rr 1000 Qj 0) Qa) Qbb Qd2) fl
end
theorem asK:S.tree 9000=Rn:=by kernel_rfl
theorem YJ:S.tree 9001=wC:=by kernel_rfl
theorem aBY:S.tree 9002=amL:=by kernel_rfl
theorem aBX:S.tree 9003=amK:=by kernel_rfl
theorem asJ:S.tree 9004=adQ:=by kernel_rfl
theorem asI:S.tree 9005=adP:=by kernel_rfl
theorem asH:S.tree 9006=adO:=by kernel_rfl
theorem asG:S.tree 9007=adN:=by kernel_rfl
theorem asF:S.tree 9050=JH:=by kernel_rfl
theorem asE:S.tree 9051=adM:=by kernel_rfl
theorem asD:S.tree 9052=adL:=by kernel_rfl
theorem aG7:S.tree 9053=aBo:=by kernel_rfl
theorem aBW:S.tree 9054=amJ:=by kernel_rfl
theorem aBV:S.tree 9055=aBn:=by kernel_rfl
theorem aG6:S.tree 9056=aBm:=by kernel_rfl
theorem aG5:S.tree 9057=aBl:=by kernel_rfl
theorem aG4:S.tree 9058=aBk:=by kernel_rfl
theorem aG3:S.tree 9059=aBj:=by kernel_rfl
theorem YI:S.tree 9060=Gi:=by kernel_rfl
theorem aBU:S.tree 9061=amI:=by kernel_rfl
theorem aG2:S.tree 9062=aBi:=by kernel_rfl
theorem YH:S.tree 9063=Gh:=by kernel_rfl
theorem aBT:S.tree 9064=amH:=by kernel_rfl
theorem aG1:S.tree 9065=aBh:=by kernel_rfl
theorem aG0:S.tree 9066=aBg:=by kernel_rfl
theorem aGZ:S.tree 9067=aBf:=by kernel_rfl
theorem aGY:S.tree 9068=aBe:=by kernel_rfl
theorem asC:S.tree 9069=adK:=by kernel_rfl
theorem asB:S.tree 9070=adJ:=by kernel_rfl
theorem asA:S.tree 9071=adI:=by kernel_rfl
theorem arZ:S.tree 9072=adH:=by kernel_rfl
theorem aGX:S.tree 9073=aBd:=by kernel_rfl
theorem aGW:S.tree 9074=aBb:=by kernel_rfl
theorem e100:S.tree 100=aFB:=by kernel_rfl
theorem aAL:S.tree 101=aFA:=by kernel_rfl
theorem aAK:S.tree 102=aFz:=by kernel_rfl
theorem aE6:S.tree 103=aFy:=by kernel_rfl
theorem aE5:S.tree 150=aFx:=by kernel_rfl
theorem aAJ:S.tree 151=aFw:=by kernel_rfl
theorem aE4:S.tree 200=axT:=by kernel_rfl
theorem Wu:S.tree 201=t201:=by kernel_rfl
theorem aAI:S.tree 202=anM:=by kernel_rfl
theorem e250:S.tree 250=axS:=by kernel_rfl
theorem e251:S.tree 251=anJ:=by kernel_rfl
theorem e300:S.tree 300=anI:=by kernel_rfl
theorem e301:S.tree 301=ZE:=by kernel_rfl
theorem e302:S.tree 302=axR:=by kernel_rfl
theorem aAH:S.tree 350=anF:=by kernel_rfl
theorem aAG:S.tree 351=ZC:=by kernel_rfl
theorem aE3:S.tree 400=lG:=by kernel_rfl
theorem aHj:S.tree 450=aDe:=by kernel_rfl
theorem aE2:S.tree 451=axQ:=by kernel_rfl
theorem aE1:S.tree 452=axP:=by kernel_rfl
theorem aE0:S.tree 453=axO:=by kernel_rfl
theorem aEZ:S.tree 454=axN:=by kernel_rfl
theorem aEY:S.tree 455=axM:=by kernel_rfl
theorem aEX:S.tree 456=axL:=by kernel_rfl
theorem aAF:S.tree 500=aiE:=by kernel_rfl
theorem akP:S.tree 501=Xq:=by kernel_rfl
theorem aHi:S.tree 550=amS:=by kernel_rfl
theorem aEW:S.tree 551=axK:=by kernel_rfl
theorem aHh:S.tree 552=aFv:=by kernel_rfl
theorem aHg:S.tree 553=aFu:=by kernel_rfl
theorem aHd:S.tree 600=aDd:=by kernel_rfl
theorem aAE:S.tree 650=amN:=by kernel_rfl
theorem aHc:S.tree 700=aDc:=by kernel_rfl
theorem aHb:S.tree 750=aDb:=by kernel_rfl
theorem aHa:S.tree 800=aDa:=by kernel_rfl
theorem aG9:S.tree 850=aC9:=by kernel_rfl
theorem aEV:S.tree 851=amM:=by kernel_rfl
theorem aG8:S.tree 900=aC8:=by kernel_rfl
theorem aGV:S.tree 950=aC7:=by kernel_rfl
theorem aEU:S.tree 951=axJ:=by kernel_rfl
theorem aET:S.tree 952=axI:=by kernel_rfl
theorem KZ:S.tree 953=wB:=by kernel_rfl
theorem KY:S.tree 954=vZ:=by kernel_rfl
theorem aCJ:S.tree 1000=anZ:=by kernel_rfl
theorem aCI:S.tree 1050=Xw:=by kernel_rfl
theorem aCH:S.tree 1100=anY:=by kernel_rfl
theorem aCG:S.tree 1101=aBK:=by kernel_rfl
theorem auU:S.tree 1102=aeR:=by kernel_rfl
theorem aCF:S.tree 1150=anX:=by kernel_rfl
theorem aCE:S.tree 1200=anW:=by kernel_rfl
theorem aCD:S.tree 1250=anV:=by kernel_rfl
theorem aCC:S.tree 1300=anU:=by kernel_rfl
theorem aCB:S.tree 1350=anT:=by kernel_rfl
theorem aCA:S.tree 1400=anS:=by kernel_rfl
theorem atW:S.tree 1450=aeQ:=by kernel_rfl
theorem atU:S.tree 1451=Xv:=by kernel_rfl
theorem atT:S.tree 1452=Xu:=by kernel_rfl
theorem aCz:S.tree 1500=anR:=by kernel_rfl
theorem atP:S.tree 1501=aeP:=by kernel_rfl
theorem aCy:S.tree 1550=anQ:=by kernel_rfl
theorem aCx:S.tree 1600=anP:=by kernel_rfl
theorem aCw:S.tree 1650=anO:=by kernel_rfl
theorem YO:S.tree 1700=MW:=by kernel_rfl
theorem aCv:S.tree 1750=MV:=by kernel_rfl
theorem atM:S.tree 1751=aeO:=by kernel_rfl
theorem aCu:S.tree 1800=aeN:=by kernel_rfl
theorem Pm:S.tree 1850=JM:=by kernel_rfl
theorem aCt:S.tree 1900=Ru:=by kernel_rfl
theorem atL:S.tree 1901=aeM:=by kernel_rfl
theorem atK:S.tree 1902=aeL:=by kernel_rfl
theorem aHw:S.tree 1903=aBJ:=by kernel_rfl
theorem aCs:S.tree 1904=anN:=by kernel_rfl
theorem aCr:S.tree 1905=aBI:=by kernel_rfl
theorem aHv:S.tree 1906=aBH:=by kernel_rfl
theorem aHu:S.tree 1907=aBG:=by kernel_rfl
theorem aHt:S.tree 1908=aBF:=by kernel_rfl
theorem aHs:S.tree 1909=aBE:=by kernel_rfl
theorem atJ:S.tree 1910=aeK:=by kernel_rfl
theorem aCq:S.tree 1911=aBD:=by kernel_rfl
theorem aHr:S.tree 1912=aBC:=by kernel_rfl
theorem atI:S.tree 1913=aeJ:=by kernel_rfl
theorem aCp:S.tree 1914=aBB:=by kernel_rfl
theorem aHq:S.tree 1915=aBA:=by kernel_rfl
theorem aHp:S.tree 1916=aBz:=by kernel_rfl
theorem aHo:S.tree 1917=aBy:=by kernel_rfl
theorem aHn:S.tree 1918=aBx:=by kernel_rfl
theorem agU:S.tree 1950=Xt:=by kernel_rfl
theorem atH:S.tree 2000=aeI:=by kernel_rfl
theorem aHm:S.tree 2001=aBw:=by kernel_rfl
theorem aHl:S.tree 2002=aBv:=by kernel_rfl
theorem aHk:S.tree 2003=aBu:=by kernel_rfl
theorem atG:S.tree 2004=aeH:=by kernel_rfl
theorem atF:S.tree 2005=aeG:=by kernel_rfl
theorem aCo:S.tree 2050=anL:=by kernel_rfl
theorem atE:S.tree 2051=aeF:=by kernel_rfl
theorem atD:S.tree 2052=aeE:=by kernel_rfl
theorem atC:S.tree 2150=aeD:=by kernel_rfl
theorem atB:S.tree 2151=aeC:=by kernel_rfl
theorem aCn:S.tree 2450=anK:=by kernel_rfl
theorem atA:S.tree 2451=aeB:=by kernel_rfl
theorem aCm:S.tree 2750=Xr:=by kernel_rfl
theorem agT:S.tree 2800=Gn:=by kernel_rfl
theorem aCl:S.tree 2850=MS:=by kernel_rfl
theorem aCk:S.tree 2900=MQ:=by kernel_rfl
theorem asZ:S.tree 2950=aeA:=by kernel_rfl
theorem Kw:S.tree 2951=Gm:=by kernel_rfl
theorem aCj:S.tree 3050=anH:=by kernel_rfl
theorem asY:S.tree 3051=adZ:=by kernel_rfl
theorem asX:S.tree 3052=adY:=by kernel_rfl
theorem asW:S.tree 3053=JL:=by kernel_rfl
theorem asV:S.tree 3054=JK:=by kernel_rfl
theorem asU:S.tree 3055=JJ:=by kernel_rfl
theorem asT:S.tree 3056=JI:=by kernel_rfl
theorem Bz:S.tree 3100=yG:=by kernel_rfl
theorem YN:S.tree 3150=Rq:=by kernel_rfl
theorem YL:S.tree 3151=Gj:=by kernel_rfl
theorem agS:S.tree 3152=MP:=by kernel_rfl
theorem aCi:S.tree 3300=anG:=by kernel_rfl
theorem YK:S.tree 3450=Ro:=by kernel_rfl
theorem agR:S.tree 3451=MO:=by kernel_rfl
theorem asR:S.tree 3452=adX:=by kernel_rfl
theorem aCh:S.tree 3550=anE:=by kernel_rfl
theorem asQ:S.tree 3551=adW:=by kernel_rfl
theorem aCg:S.tree 5000=anD:=by kernel_rfl
theorem aCf:S.tree 5050=anC:=by kernel_rfl
theorem asP:S.tree 5051=adV:=by kernel_rfl
theorem aCe:S.tree 5100=anB:=by kernel_rfl
theorem aCd:S.tree 5101=aBt:=by kernel_rfl
theorem aCc:S.tree 5150=anA:=by kernel_rfl
theorem aCb:S.tree 5151=aBs:=by kernel_rfl
theorem aCa:S.tree 5200=amZ:=by kernel_rfl
theorem aB9:S.tree 5201=aBr:=by kernel_rfl
theorem aB8:S.tree 5250=amY:=by kernel_rfl
theorem asO:S.tree 5251=adU:=by kernel_rfl
theorem aB7:S.tree 5300=amX:=by kernel_rfl
theorem asN:S.tree 5301=adT:=by kernel_rfl
theorem aB6:S.tree 5350=amW:=by kernel_rfl
theorem asM:S.tree 5351=adS:=by kernel_rfl
theorem atO:S.tree 16000=UW:=by kernel_rfl
theorem aB5:S.tree 5400=amV:=by kernel_rfl
theorem asL:S.tree 5401=adR:=by kernel_rfl
theorem aB4:S.tree 5450=amU:=by kernel_rfl
theorem aB3:S.tree 5451=amT:=by kernel_rfl
theorem aB2:S.tree 5500=amR:=by kernel_rfl
theorem aB1:S.tree 5501=amQ:=by kernel_rfl
theorem aHf:S.tree 5550=aBq:=by kernel_rfl
theorem aHe:S.tree 5551=aBp:=by kernel_rfl
theorem aB0:S.tree 5600=amP:=by kernel_rfl
theorem aBZ:S.tree 5601=amO:=by kernel_rfl
theorem atN:S.tree 16050=ZF:=by kernel_rfl
theorem Wv:S.tree 16051=MX:=by kernel_rfl
theorem acK:S.tree 12000=U5:=by kernel_rfl
theorem Wy:S.tree 12001=Nl:=by kernel_rfl
theorem auT:S.tree 12050=ZV:=by kernel_rfl
theorem acJ:S.tree 12051=Nk:=by kernel_rfl
theorem acI:S.tree 12100=U4:=by kernel_rfl
theorem Wx:S.tree 12101=Nj:=by kernel_rfl
theorem auS:S.tree 12150=ZU:=by kernel_rfl
theorem acH:S.tree 12151=Nh:=by kernel_rfl
theorem auR:S.tree 12200=ZT:=by kernel_rfl
theorem auQ:S.tree 12250=ZR:=by kernel_rfl
theorem auP:S.tree 12251=ZQ:=by kernel_rfl
theorem auO:S.tree 12300=ZP:=by kernel_rfl
theorem auN:S.tree 12350=ZO:=by kernel_rfl
theorem auM:S.tree 12351=ZN:=by kernel_rfl
theorem auL:S.tree 12400=ZM:=by kernel_rfl
theorem auK:S.tree 12450=ZL:=by kernel_rfl
theorem auJ:S.tree 12500=ZK:=by kernel_rfl
theorem auI:S.tree 12550=ZJ:=by kernel_rfl
theorem auH:S.tree 12600=U3:=by kernel_rfl
theorem auG:S.tree 12650=U2:=by kernel_rfl
theorem auF:S.tree 12700=U1:=by kernel_rfl
theorem auE:S.tree 12750=U0:=by kernel_rfl
theorem auD:S.tree 12800=ZI:=by kernel_rfl
theorem auC:S.tree 12801=UZ:=by kernel_rfl
theorem auB:S.tree 12850=ZH:=by kernel_rfl
theorem auA:S.tree 12851=UY:=by kernel_rfl
theorem atY:S.tree 14000=zS:=by kernel_rfl
theorem atV:S.tree 14500=fU:=by kernel_rfl
theorem atX:S.tree 14050=Nb:=by kernel_rfl
theorem atS:S.tree 14550=kJ:=by kernel_rfl
theorem atQ:S.tree 15000=zQ:=by kernel_rfl
theorem acG:S.tree 15001=MZ:=by kernel_rfl
theorem acF:S.tree 15002=BP:=by kernel_rfl
theorem atZ:S.tree 12900=ZG:=by kernel_rfl
end Go.As.Try
end
section
namespace Go.As.Try
open Go hiding Stat Spec shape
open Go.As Go.Proofs
set_option maxRecDepth 100000
def listed:List Nat:=[9000,9001,9002,9003,9004,9005,9006,9007,9050,9051,9052,9053,9054,9055,9056,9057,9058,9059,9060,9061,9062,9063,9064,9065,9066,9067,9068,9069,9070,9071,9072,9073,9074,100,101,102,103,150,151,200,201,202,250,251,300,301,302,350,351,400,450,451,452,453,454,455,456,500,501,550,551,552,553,600,650,700,750,800,850,851,900,950,951,952,953,954,1000,1050,1100,1101,1102,1150,1200,1250,1300,1350,1400,1450,1451,1452,1500,1501,1550,1600,1650,1700,1750,1751,1800,1850,1900,1901,1902,1903,1904,1905,1906,1907,1908,1909,1910,1911,1912,1913,1914,1915,1916,1917,1918,1950,2000,2001,2002,2003,2004,2005,2050,2051,2052,2150,2151,2450,2451,2750,2800,2850,2900,2950,2951,3050,3051,3052,3053,3054,3055,3056,3100,3150,3151,3152,3300,3450,3451,3452,3550,3551,5000,5050,5051,5100,5101,5150,5151,5200,5201,5250,5251,5300,5301,5350,5351,16000,5400,5401,5450,5451,5500,5501,5550,5551,5600,5601,16050,16051,12000,12001,12050,12051,12100,12101,12150,12151,12200,12250,12251,12300,12350,12351,12400,12450,12500,12550,12600,12650,12700,12750,12800,12801,12850,12851,14000,14500,14050,14550,15000,15001,15002,12900]
noncomputable def trees:List (T Lf):=[Rn,wC,amL,amK,adQ,adP,adO,adN,JH,adM,adL,aBo,amJ,aBn,aBm,aBl,aBk,aBj,Gi,amI,aBi,Gh,amH,aBh,aBg,aBf,aBe,adK,adJ,adI,adH,aBd,aBb,aFB,aFA,aFz,aFy,aFx,aFw,axT,t201,anM,axS,anJ,anI,ZE,axR,anF,ZC,lG,aDe,axQ,axP,axO,axN,axM,axL,aiE,Xq,amS,axK,aFv,aFu,aDd,amN,aDc,aDb,aDa,aC9,amM,aC8,aC7,axJ,axI,wB,vZ,anZ,Xw,anY,aBK,aeR,anX,anW,anV,anU,anT,anS,aeQ,Xv,Xu,anR,aeP,anQ,anP,anO,MW,MV,aeO,aeN,JM,Ru,aeM,aeL,aBJ,anN,aBI,aBH,aBG,aBF,aBE,aeK,aBD,aBC,aeJ,aBB,aBA,aBz,aBy,aBx,Xt,aeI,aBw,aBv,aBu,aeH,aeG,anL,aeF,aeE,aeD,aeC,anK,aeB,Xr,Gn,MS,MQ,aeA,Gm,anH,adZ,adY,JL,JK,JJ,JI,yG,Rq,Gj,MP,anG,Ro,MO,adX,anE,adW,anD,anC,adV,anB,aBt,anA,aBs,amZ,aBr,amY,adU,amX,adT,amW,adS,UW,amV,adR,amU,amT,amR,amQ,aBq,aBp,amP,amO,ZF,MX,U5,Nl,ZV,Nk,U4,Nj,ZU,Nh,ZT,ZR,ZQ,ZP,ZO,ZN,ZM,ZL,ZK,ZJ,U3,U2,U1,U0,ZI,UZ,ZH,UY,zS,fU,Nb,kJ,zQ,MZ,BP,ZG]
theorem ajN:listed.map S.tree=trees:=by simp only [listed,trees,List.map,asK,YJ,aBY,aBX,asJ,asI,asH,asG,asF,asE,asD,aG7,aBW,aBV,aG6,aG5,aG4,aG3,YI,aBU,aG2,YH,aBT,aG1,aG0,aGZ,aGY,asC,asB,asA,arZ,aGX,aGW,e100,aAL,aAK,aE6,aE5,aAJ,aE4,Wu,aAI,e250,e251,e300,e301,e302,aAH,aAG,aE3,aHj,aE2,aE1,aE0,aEZ,aEY,aEX,aAF,akP,aHi,aEW,aHh,aHg,aHd,aAE,aHc,aHb,aHa,aG9,aEV,aG8,aGV,aEU,aET,KZ,KY,aCJ,aCI,aCH,aCG,auU,aCF,aCE,aCD,aCC,aCB,aCA,atW,atU,atT,aCz,atP,aCy,aCx,aCw,YO,aCv,atM,aCu,Pm,aCt,atL,atK,aHw,aCs,aCr,aHv,aHu,aHt,aHs,atJ,aCq,aHr,atI,aCp,aHq,aHp,aHo,aHn,agU,atH,aHm,aHl,aHk,atG,atF,aCo,atE,atD,atC,atB,aCn,atA,aCm,agT,aCl,aCk,asZ,Kw,aCj,asY,asX,asW,asV,asU,asT,Bz,YN,YL,agS,aCi,YK,agR,asR,aCh,asQ,aCg,aCf,asP,aCe,aCd,aCc,aCb,aCa,aB9,aB8,asO,aB7,asN,aB6,asM,atO,aB5,asL,aB4,aB3,aB2,aB1,aHf,aHe,aB0,aBZ,atN,Wv,acK,Wy,auT,acJ,acI,Wx,auS,acH,auR,auQ,auP,auO,auN,auM,auL,auK,auJ,auI,auH,auG,auF,auE,auD,auC,auB,auA,atY,atV,atX,atS,atQ,acG,acF,atZ]
theorem alY:trees.all (Zm [])=true:=by kernel_rfl
theorem aE9:aCK (lim 341 feT) 341 listed=true:=by kernel_rfl
theorem awY (j:Nat):Zm [] (S.tree j)=true:=by
 cases h:Bv St.t j with
 |none=>exact aiA (S:=St) h
 |some e=>
  have hm:S.tree j∈trees:=by rw [<- ajN];exact List.mem_map_of_mem (cov aE9 (fun k hk=>aqA hk) h)
  exact aJg.1 alY _ hm
noncomputable def L:uU:=lim' S.tree
theorem aP (j:Nat) (xs:List Int):L j xs=fin L (dY (bT L (low xs)) (S.tree j)):=aDC awY j xs
end Go.As.Try
end
section
namespace Go.As.Try
open Go hiding Stat
open Go.As Go.Proofs Go.RowKit Go.ChangeShapes Go.WideShapes Go.ChangeAt
open Go.Proofs.YtakeldbjhhiinaaGreatDoor
set_option maxRecDepth 100000
theorem own:ownKnob Tryz.prog.godebug=none:=by kernel_rfl
theorem laidOut:laidOutB Tryz.prog=true:=by kernel_rfl
def apE:TypeId->Option Nat:=Ko (owns.take 10)
def ownB (P:Program) (own:TypeId->Option Nat) (l:List (Nat×Nat)):Bool:=l.all fun p=>match P.underlying p.1 with
 |some (.slice e)=>decide (zC P own 8 e=some (oZ p.2))&&Nat.beq (P.cellsOf e) (oZ p.2).length&&Nat.ble (wZ p.2) (P.bytesOf e)&&Nat.ble 1 (oZ p.2).length
 |_=>false
theorem TR {t i:Nat}: ∀{l:List (Nat×Nat)},Ko l t=some i->(t,i)∈l
 |[],h=>by simp [Ko] at h
 |(a,k)::l,h=>by
  unfold Ko at h;split at h
  ·rename_i hb;have:=aIW hb;simp only [aIS] at h;subst this h;simp
  ·exact aKA _ (TR h)
theorem ayU {P:Program} {l:List (Nat×Nat)} (h:ownB P (Ko l) l=true):awN P (Ko l):=by
 intro t i hti;have:=aJg.1 h _ (TR hti);simp only at this;split at this
 ·rename_i e he;simp only [aIU,decide_eq_true_eq] at this;exact⟨e,8,he,this.1.1.1,aIW this.1.1.2,aJM this.1.2,aJM this.2⟩
 ·simp at this
theorem ayT:awN Tryz.prog apE:=ayU (by kernel_rfl)
theorem azS {W:World} (h:W.ShapedOpen Tryz.prog):base.ok (roW W) W.heap:=by obtain⟨m,hm⟩:=LaysM.n144.s1_3 Tryz.laysM144 W h;exact⟨ahP hm,m,by rw [<- uN]; exact hm⟩
def afL:DataW Unit->Value
 | .lit (.int k n)=> .int k n
 |_=>undef
def cellsD:DataW Unit->Array Value
 | .agg l=>(l.map afL).toArray
 |d=> #[afL d]
def aF6 (d:DataW Unit):Obj->Obj
 | .cells _ t f=> .cells (cellsD d) t f
 |o=>o
noncomputable def aDD (h:Array Obj) (x:String×DataW Unit):Array Obj:=match Tryz.prog.globalNamed x.1 with
 |some g=>h.modify g (aF6 x.2)
 |none=>h
noncomputable def laidWorld (os:Os):World:=
 { World.holding Tryz.prog os ⟨#[],#[],[]⟩ with heap:=Rows.kendoStuckRow.laid.foldl aDD (World.holding Tryz.prog os ⟨#[],#[],[]⟩).heap }
theorem Dk {ro:Nat->Prop} {h:Array Obj} {i:Nat} {d:D} {v:Value} (r:Rd ro h (.sl i) d v):Dy ro h (.sl i) (enc d) v:=by show Rd ro h (.sl i) (dec (enc d)) v;rw [aF];exact r
theorem awC {ro:Nat->Prop} {h:Array Obj} {u:Value} (a:aBa [.one .bool] [1] ro h u):u= .bool true:=by
 obtain⟨us,fl,hs,hc,hu⟩:=a
 cases hs with
 |one c v hs=> cases hs;simp only [vF,RK.flat,aJC,aI8,aI1] at hc;obtain⟨n,ns',u',us',h1,h2,h3,h4⟩:=hc;simp only [List.cons.injEq] at h1 h2;obtain⟨rfl,_⟩:=h1;obtain⟨rfl,_⟩:=h2;rw [hu];exact h3
theorem avQ {g j:Nat} {e:IV} (hn:j∈S.nums g) (he:S.ents j=some e) (hp:e.pat=none) (hr:e.pW= [.one .bool]) {xs:List Int} (hL:L j xs=some [1]) {W:World} (hsh:W.ShapedOpen Tryz.prog) {vals fl:List Value} (h1:Shape e.P8 vals fl) (h2:jU (roW W) W.heap (vF e.P8) xs fl) :
 Calls Tryz.prog g vals.toArray W fun en W'=>en= .returned (.bool true)/\Below W.heap.size W W':=by
 obtain⟨n,hrun⟩:=VD hL;refine (aoA aDf hn he hp n xs [1] hrun (roW W) W vals fl (fun _ h=>h) (azS hsh) h1 h2).mono fun en W' ⟨u,hu,hb,ro',_,_,_,ha⟩=>?_;rw [hr] at ha;rw [awC ha] at hu;exact⟨hu,hb⟩
end Go.As.Try
end
section
namespace Go.As
def prune (Y N:List SB):T Lf->T Lf
 | .fail=> .fail
 | .ret l=> .ret l
 | .split c x y=>match Y.contains c with
   |true=>prune Y N x
   |false=>match N.contains c with
    |true=>prune Y N y
    |false=> .split c (prune Y N x) (prune Y N y)
def zY (ρ:Nat->Int):List SB->Prop
 |[]=>True
 |c::l=>c.den ρ=true/\zY ρ l
def zW (ρ:Nat->Int):List SB->Prop
 |[]=>True
 |c::l=> ¬c.den ρ=true/\zW ρ l
theorem alH {ρ:Nat->Int}: ∀{l:List SB},zY ρ l->∀c∈l,c.den ρ=true
 |[],_,c,h=>by simp at h
 |a::l,hz,c,h=>by
  rcases aI3.1 h with rfl|h
  ·exact hz.1
  ·exact alH hz.2 c h
theorem alK {ρ:Nat->Int}: ∀{l:List SB},zW ρ l->∀c∈l,c.den ρ=false
 |[],_,c,h=>by simp at h
 |a::l,hz,c,h=>by
  rcases aI3.1 h with rfl|h
  ·simpa using hz.1
  ·exact alK hz.2 c h
theorem alI {ρ:Nat->Int}: ∀{a b:List SB},zY ρ a->zY ρ b->zY ρ (a++b)
 |[],_,_,h=>h
 |_::_,_,h,h'=> ⟨h.1,alI h.2 h'⟩
theorem alL {ρ:Nat->Int}: ∀{a b:List SB},zW ρ a->zW ρ b->zW ρ (a++b)
 |[],_,_,h=>h
 |_::_,_,h,h'=> ⟨h.1,alL h.2 h'⟩
theorem dK {ρ:Nat->Int} {Y N:List SB} (h:zY ρ Y/\zW ρ N): ∀t,dY ρ (prune Y N t)=dY ρ t
 | .fail=>rfl
 | .ret l=>rfl
 | .split c x y=>by
   simp only [prune,dY];split
   ·rename_i h';rw [alH h.1 c (aLC.1 h'),aIR rfl];exact dK h x
   ·split
    ·rename_i h';rw [alK h.2 c (aLC.1 h'),aIQ (by simp)];exact dK h y
    ·simp only [dY,dK h x,dK h y]
theorem bC {ρ:Nat->Int} (Y N:List SB) {t:T Lf} {R:RS} (u:T Lf) (h:zY ρ Y/\zW ρ N) (k:prune Y N t=u) (h':dY ρ u=R):dY ρ t=R:=by rw [<- dK h t,k,h']
theorem zz :
 (∀{ρ:Nat->Int} (c:SB) (a b:T Lf),dY ρ (sp c a b)=if c.den ρ=true then dY ρ a else dY ρ b)/\
 (∀{ρ:Nat->Int} (l:List SE),dY ρ (ou l)= .out (l.map (SE.den ρ)))/\
 (∀{ρ:Nat->Int} (j:Nat) (l:List SE),dY ρ (ju j l)= .jump j (l.map (SE.den ρ)))/\
 (∀{ρ:Nat->Int},dY ρ fl= .no)/\
 (∀{ρ:Nat->Int} (a b:SE),((SB.lt a b).den ρ=true)=(a.den ρ<b.den ρ))/\
 (∀{ρ:Nat->Int} (a b:SE),((SB.eq a b).den ρ=true)=(a.den ρ=b.den ρ))/\
 (∀(F:uU) (lo:Nat->Int),(SE.aO 0).den (bT F lo)=lo 0)/\
 (∀(F:uU) (lo:Nat->Int),(SE.aO 1).den (bT F lo)=lo 1)/\
 (∀(F:uU) (lo:Nat->Int),(SE.aO 2).den (bT F lo)=lo 2)/\
 (∀(F:uU) (lo:Nat->Int),(SE.aO 3).den (bT F lo)=lo 3)/\
 (∀(F:uU) (lo:Nat->Int),(SE.aO 4).den (bT F lo)=lo 4)/\
 (∀(F:uU) (lo:Nat->Int),(SE.aO 5).den (bT F lo)=lo 5)/\
 (∀(F:uU) (lo:Nat->Int),(SE.aO 6).den (bT F lo)=lo 6)/\
 (∀(F:uU) (lo:Nat->Int),(SE.aO 7).den (bT F lo)=lo 7)/\
 (∀(F:uU) (lo:Nat->Int),(SE.aO 8).den (bT F lo)=lo 8)/\
 (∀(F:uU) (lo:Nat->Int),(SE.aO 9).den (bT F lo)=lo 9)/\
 (∀(F:uU) (lo:Nat->Int),(SE.aO 10).den (bT F lo)=lo 10)/\
 (∀(F:uU) (lo:Nat->Int),(SE.aO 11).den (bT F lo)=lo 11)/\
 (∀(F:uU) (lo:Nat->Int),(SE.aO 12).den (bT F lo)=lo 12)/\
 (∀(F:uU) (lo:Nat->Int),(SE.aO 13).den (bT F lo)=lo 13)/\
 (∀(F:uU) (lo:Nat->Int),(SE.aO 14).den (bT F lo)=lo 14)/\
 (∀(F:uU) (lo:Nat->Int),(SE.aO 15).den (bT F lo)=lo 15)/\
 (∀(F:uU) (lo:Nat->Int),(SE.aO 16).den (bT F lo)=lo 16)/\
 (∀(F:uU) (lo:Nat->Int),(SE.aO 17).den (bT F lo)=lo 17)/\
 (∀(F:uU) (lo:Nat->Int),(SE.aO 18).den (bT F lo)=lo 18)/\
 (∀(F:uU) (lo:Nat->Int),(SE.aO 19).den (bT F lo)=lo 19)/\
 (∀(F:uU) (lo:Nat->Int),(SE.aO 20).den (bT F lo)=lo 20)/\
 (∀(F:uU) (lo:Nat->Int),(SE.aO 21).den (bT F lo)=lo 21)/\
 (∀(F:uU) (lo:Nat->Int),(SE.aO 22).den (bT F lo)=lo 22)/\
 (∀(F:uU) (lo:Nat->Int),(SE.aO 23).den (bT F lo)=lo 23)/\
 (∀(F:uU) (lo:Nat->Int),(SE.aO 24).den (bT F lo)=lo 24)/\
 (∀(F:uU) (lo:Nat->Int),(SE.aO 25).den (bT F lo)=lo 25)/\
 (∀{ρ:Nat->Int} (n:Int),(SE.lit n).den ρ=n)/\
 (∀{ρ:Nat->Int} (d:D),(SE.dat d).den ρ=enc d)/\
 (∀{ρ:Nat->Int} (a:SE),(ln a).den ρ=((dec (a.den ρ)).l.length:Int))/\
 (∀{ρ:Nat->Int} (a:SE),(nm a).den ρ=(dec (a.den ρ)).n)/\
 (∀{ρ:Nat->Int} (j:Nat) (a:SE),(ce j a).den ρ=enc ((dec (a.den ρ)).hd j))/\
 (∀{ρ:Nat->Int} (a b:SE),(el a b).den ρ=enc ((dec (a.den ρ)).at (b.den ρ)))/\
 (∀{ρ:Nat->Int} (a b:SE),(cn a b).den ρ=enc (.p (dec (a.den ρ)) (dec (b.den ρ))))/\
 (∀{ρ:Nat->Int} (a:SE),(mk a).den ρ=enc (.i (a.den ρ)))/\
 (∀{ρ:Nat->Int} (a:SE),(wr a).den ρ=IntKind.i64.wrap (a.den ρ))/\
 (∀{ρ:Nat->Int} (a b:SE),(SE.add a b).den ρ=a.den ρ+b.den ρ)/\
 (∀{ρ:Nat->Int} (a b:SE),(SE.sub a b).den ρ=a.den ρ-b.den ρ)/\
 (∀{ρ:Nat->Int} (o:iZ) (a b:SE),(SE.op o a b).den ρ=o.den (a.den ρ) (b.den ρ))/\
 (∀{F:uU} {lo:Nat->Int} (j:Nat) (l:List SE),(a0 j l).den (bT F lo)=if (F j (l.map (SE.den (bT F lo)))).isSome=true then 1 else 0)/\
 (∀{F:uU} {lo:Nat->Int} (j:Nat) (l:List SE) (i:Nat),(rr j l i).den (bT F lo)=low ((F j (l.map (SE.den (bT F lo)))).getD []) i)/\
 (∀{x:Int} {xs:List Int},low (x::xs) 0=x)/\
 (∀{x:Int} {xs:List Int} {i:Nat},low (x::xs) (i+1)=low xs i)/\
 (∀{f:SE->Int},List.map f []= [])/\
 (∀{f:SE->Int} {a:SE} {l:List SE},List.map f (a::l)=f a::List.map f l)/\
 (∀d:D,dec (enc d)=d)/\
 (∀n:Int,(D.i n).n=n)/\
 (∀{α:Type} (a:α),(some a).isSome=true)/\
 (∀{α:Type} (a b:α),(some a).getD b=a)/\
 (∀{α:Type} {_:Decidable True} (a b:α),ite True a b=a)/\
 (∀{α:Type} {_:Decidable False} (a b:α),ite False a b=b)/\
 (∀{ρ:Nat->Int},zY ρ []=True)/\
 (∀{ρ:Nat->Int} (c:SB) (l:List SB),zY ρ (c::l)=(c.den ρ=true/\zY ρ l))/\
 (∀{ρ:Nat->Int},zW ρ []=True)/\
 (∀{ρ:Nat->Int} (c:SB) (l:List SB),zW ρ (c::l)=(¬c.den ρ=true/\zW ρ l))/\
 (∀x y:Int,iZ.den .len x y=((dec x).l.length:Int))/\
 (∀x y:Int,iZ.den .at x y=enc ((dec x).at y))/\
 (∀(x y:Int) (j:Nat),iZ.den (.cell j) x y=enc ((dec x).hd j))/\
 (∀x y:Int,iZ.den .num x y=(dec x).n)/\
 (∀x y:Int,iZ.den .mk x y=enc (.i x))/\
 (∀x y:Int,iZ.den .cons x y=enc (.p (dec x) (dec y)))/\
 (∀x y:Int,iZ.den .snoc x y=enc (dL ((dec x).l++ [dec y])))/\
 (∀x y:Int,iZ.den .cat x y=enc (dL ((dec x).l++(dec y).l)))/\
 (∀x y:Int,iZ.den .take x y=enc (fC (dec x) ((dec x).l.take y.toNat)))/\
 (∀x y:Int,iZ.den .drop x y=enc (fC (dec x) ((dec x).l.drop y.toNat)))/\
 (∀(x:Int) (q v:D),iZ.den .set x (enc (.p q v))=enc (dL (dZ (dec x).l q.n v)))/\
 (∀x y:Int,iZ.den .bit x y=enc (.i (if (dec x).n=0 then 0 else 1)))/\
 (∀x y:Int,iZ.den .norm x y=enc (dec x))/\
 (∀x y:Int,iZ.den .KP x y=if (pF (dec x).l (dec y)).isSome then 1 else 0)/\
 (∀x y:Int,iZ.den .KQ x y=enc ((pF (dec x).l (dec y)).getD (.i 0)))/\
 (∀(x:Int) (k v:D),iZ.den .ED x (enc (.p k v))=enc (dL (CO (dec x).l k v)))/\
 (∀x y:Int,iZ.den .rep x y=enc (dL (List.replicate x.toNat (dec y))))/\
 (∀(x:Int) (q v:D),iZ.den .fill x (enc (.p q v))=enc (dL ((dec x).l.take q.n.toNat++List.replicate ((dec x).l.length-q.n.toNat) v)))/\
 (∀x y:Int,iZ.den .sub x y=enc (dL (((dec x).l.take ((dec y).hd 1).n.toNat).drop ((dec y).hd 0).n.toNat)))/\
 (∀x y:Int,iZ.den .idx x y=PK (dec x).l y)/\
 (∀x y:Int,iZ.den .cnt x y=avI (dec x).l y)/\
 (∀x y:Int,iZ.den .con x y=if akT (dec x).l (dec y).l then 1 else 0)/\
 (∀x y:Int,iZ.den .slt x y=if YS (dec x).l (dec y).l then 1 else 0)/\
 (∀x y:Int,iZ.den .aaO x y=enc (dL (Vy (dec x).l (dec y))))/\
 (∀p:Prop,(p/\True)=p)/\(∀p:Prop,(True/\p)=p)/\(¬False)=True:=
 ⟨dP,kM,pO,zV,oW,jB,fun _ _=>aY (by decide),fun _ _=>aY (by decide),fun _ _=>aY (by decide),fun _ _=>aY (by decide),fun _ _=>aY (by decide),fun _ _=>aY (by decide),fun _ _=>aY (by decide),fun _ _=>aY (by decide),fun _ _=>aY (by decide),fun _ _=>aY (by decide),fun _ _=>aY (by decide),fun _ _=>aY (by decide),fun _ _=>aY (by decide),fun _ _=>aY (by decide),fun _ _=>aY (by decide),fun _ _=>aY (by decide),fun _ _=>aY (by decide),fun _ _=>aY (by decide),fun _ _=>aY (by decide),fun _ _=>aY (by decide),fun _ _=>aY (by decide),fun _ _=>aY (by decide),fun _ _=>aY (by decide),fun _ _=>aY (by decide),fun _ _=>aY (by decide),fun _ _=>aY (by decide),bU,jD,iL,Jy,auY,Jz,Py,Px,Dh,den_add,aAU,Pv,iY,iE,aQ _,aT _ _,rfl,rfl,aF,n_i,fun _=>rfl,fun _ _=>rfl,fun _ _=>aIR trivial,fun _ _=>aIQ id,rfl,fun _ _=>rfl,rfl,fun _ _=>rfl,fun _ _=>rfl,fun _ _=>rfl,fun _ _ _=>rfl,fun _ _=>rfl,fun _ _=>rfl,fun _ _=>rfl,fun _ _=>rfl,fun _ _=>rfl,fun _ _=>rfl,fun _ _=>rfl,fun _ _ _=>by show (match dec (enc _) with | .p q v=>_|_=>_)=_; rw [aF],fun _ _=>rfl,fun _ _=>rfl,fun _ _=>rfl,fun _ _=>rfl,fun _ _ _=>by show (match dec (enc _) with | .p q v=>_|_=>_)=_; rw [aF],fun _ _=>rfl,fun _ _ _=>by show (match dec (enc _) with | .p q v=>_|_=>_)=_; rw [aF],fun _ _=>rfl,fun _ _=>rfl,fun _ _=>rfl,fun _ _=>rfl,fun _ _=>rfl,fun _ _=>rfl,and_true,true_and,not_false_eq_true⟩
theorem zg:(∀(l:List D) (j:Nat),(dL l).hd j=(l[j]?).getD (.i 0))/\(∀(a:D) (l:List D),(a::l)[0]?=some a)/\(∀(a:D) (l:List D) (i:Nat),(a::l)[i+1]?=l[i]?):=⟨eP,fun _ _=>rfl,fun _ _ _=>rfl⟩
end Go.As
end
section
namespace Go.As.Try
open Go hiding Stat Spec shape
open Go.As
set_option maxRecDepth 100000
def Ends (p:List Int->Prop) (R:RS):Prop:= ∃ys,fin L R=some ys/\p ys
def Tot (j:Nat) (xs:List Int) (p:List Int->Prop):Prop:= ∃ys,L j xs=some ys/\p ys
theorem Tot.of {j:Nat} {xs:List Int} {p:List Int->Prop} (h:Ends p (dY (bT L (low xs)) (S.tree j))):Tot j xs p:=by obtain⟨ys,h1,h2⟩:=h;exact⟨ys,by rw [aP]; exact h1,h2⟩
theorem Ends.ite {p:List Int->Prop} {c:Prop} [Decidable c] {a b:RS} (h1:c->Ends p a) (h2: ¬c->Ends p b):Ends p (if c then a else b):=by
 by_cases h:c
 ·rw [aIR h]; exact h1 h
 ·rw [aIQ h]; exact h2 h
theorem Ends.out {p:List Int->Prop} {ys:List Int} (h:p ys):Ends p (.out ys):=⟨ys,rfl,h⟩
theorem Ends.jump {p:List Int->Prop} {j:Nat} {xs:List Int} (h:Tot j xs p):Ends p (.jump j xs):=h
def FQ (ys:List Int):Prop:= ∃c:Int,ys= [c]/\(c=0\/c=1)
def is3 (ys:List Int):Prop:= ∃a b c:Int,ys= [a,b,c]/\(c=0\/c=1)
theorem Ak:FQ [0]:=⟨0,rfl,.inl rfl⟩
theorem Aj:FQ [1]:=⟨1,rfl,.inr rfl⟩
theorem Yb {a b:Int}:is3 [a,b,0]:=⟨a,b,0,rfl,.inl rfl⟩
theorem aBQ {a b:Int}:is3 [a,b,1]:=⟨a,b,1,rfl,.inr rfl⟩
def jY (x:D):D:=dL [.i (-1),.i (if (x.hd 0).n=3\/(x.hd 0).n=9 then (x.hd 2).n else 0),.i 0,.i 0,.i 1,.i 1]
theorem P7 (d0:D) (hlen:d0.l.length<=64): ∀(k i:Nat) (acc:List D),i+k=d0.l.length->acc.length=i->
 L 302 [enc (dL acc),enc d0,(d0.l.length:Int),(i:Int)]=some [enc (dL (acc++(d0.l.drop i).map jY))]
 |0,i,acc,h1,h2=>by rw [aP,e302];simp only [axR,dP,kM,oW,aY,aQ,aT,Nat.reduceLT,fin,List.map];rw [aIQ (by omega)];simp only [fin,aY,aQ,Nat.reduceLT];rw [aJJ (by omega)];simp
 |k+1,i,acc,h1,h2=>by
  have hi:i<d0.l.length:=by omega
  have hd:d0.l.drop i=d0.l[i]::d0.l.drop (i+1):=aJq hi;have ih:=fun x=>P7 d0 hlen k (i+1) (acc++ [x]) (by omega) (by simp [h2]);rw [aP,e302,hd];simp only [axR,dP,kM,pO,zV,oW,jB,aY,iL,bU,Jy,auY,Jz,Pv,Py,Px,jD,Dh,den_add,aQ,aT,Nat.reduceLT,List.map,aF,aW,aX hi];have w:=aZ (n:=i) (by omega);have c1:(i:Int)<(d0.l.length:Int):=by omega
  have c2: ¬((i:Int)<0):=by omega
  have c3:(acc.length:Int)<1759218604440:=by omega
  simp only [c1,c2,c3,w,if_true,if_false,fin,iZ.den,aF,aW];by_cases h3:(d0.l[i].hd 0).n=3
  ·simp only [h3,if_true,fin];have:=ih (jY d0.l[i]);simp only [jY,h3,true_or,if_true,dL] at this ⊢;rw [this];simp
  ·by_cases h9:(d0.l[i].hd 0).n=9
   ·simp only [aIQ h3,aIR h9,fin];have:=ih (jY d0.l[i]);simp only [jY,aIR (Or.inr h9:(d0.l[i].hd 0).n=3\/(d0.l[i].hd 0).n=9),dL] at this ⊢;rw [this];simp
   ·simp only [aIQ h3,aIQ h9,fin];have:=ih (jY d0.l[i]);simp only [jY,h3,h9,or_self,if_false,dL] at this ⊢;rw [this];simp
def Bs (d:D):Prop:=d=dL d.l/\∀(i:Nat) (h:i<d.l.length),0<=(d.l[i]).n/\(d.l[i]).n<256
theorem aFb (s:ByteArray):Bs (Bc s):=by unfold Bc wO;refine⟨by rw [aW],fun i h=>?_⟩;simp only [aW,aJD,List.getElem_map,D.n] at h ⊢;have:=(s.data.toList[i]).toNat_lt;omega
theorem J4 (d:D) (hb:Bs d) (hlen:d.l.length<=1000000): ∀(k i:Nat) (n:Int),i+k=d.l.length->∃a b,L 1102 [n,enc d,(d.l.length:Int),(i:Int)]=some [a,b]
 |0,i,n,h1=>by rw [aP,auU];simp only [aeR,dP,kM,oW,aY,aQ,aT,Nat.reduceLT,List.map,bU];rw [aIQ (by omega)];exact⟨_,_,rfl⟩
 |k+1,i,n,h1=>by
  have hi:i<d.l.length:=by omega
  have ih:=fun x=>J4 d hb hlen k (i+1) x (by omega);rw [aP,auU];have w:=aZ (n:=i) (by omega);have c1:(i:Int)<(d.l.length:Int):=by omega
  have c2: ¬((i:Int)<0):=by omega
  simp only [aeR,dP,kM,pO,zV,oW,aY,aQ,aT,Nat.reduceLT,List.map,bU,iL,aF,c1,c2,if_true,if_false,Dh,den_add,w];split
  ·exact⟨_,_,rfl⟩
  ·exact ih _
theorem aaL (d:D) (hb:Bs d) (hlen:d.l.length<=1000000): ∃a b,L 1100 [enc d]=some [a,b]:=by
 rw [aP,aCH];simp only [anY,dP,pO,jB,aY,aQ,aT,Nat.reduceLT,List.map,bU,iL,aF];split
 ·show ∃a b,L 1101 []=some [a,b];rw [aP,aCG];exact⟨_,_,rfl⟩
 ·exact J4 d hb hlen d.l.length 0 _ (by omega)
theorem Ui (z:Int): ∀(l:List D) (i:Nat),xK z l (i:Int)= -1\/((i:Int)<=xK z l i/\xK z l i<(i:Int)+l.length)
 |[],i=> .inl rfl
 |d::l,i=>by
  have ih:=Ui z l (i+1);have hc:((i+1:Nat):Int)=(i:Int)+1:=by omega
  rw [hc] at ih;have hl:((d::l).length:Int)=(l.length:Int)+1:=by simp
  cases d with
  |i n=>
   simp only [xK];split
   ·right; omega
   ·rcases ih with h|⟨h1,h2⟩
    ·left; exact h
    ·right; omega
  |p a b=>
   simp only [xK];rcases ih with h|⟨h1,h2⟩
   ·left; exact h
   ·right; omega
theorem avH {z:Int} {d:D} {l:List D} (h:d≠.i z) (h0: ¬PK (d::l) z<0):1<=PK (d::l) z/\PK (d::l) z<(l.length:Int)+1:=by
 have h1:=Ui z l 1
 have key:PK (d::l) z=xK z l ((1:Nat):Int):=by
  unfold PK
  cases d with
  |i n=> simp only [xK];rw [aIQ (by intro q; exact h (by rw [q]))];rfl
  |p a b=>rfl
 rw [key] at h0 ⊢;omega
theorem aHx:(b0.at 10).n=1:=by show (b0.at ((10:Nat):Int)).n=1;kernel_rfl
theorem Dp (d:D) (hb:Bs d) (hlen:d.l.length<=1000000) (x1:Int): ∀(k i:Nat),d.l.length-i<=k->i<=d.l.length->∃p:Nat,p<=d.l.length/\L 12801 [enc d,x1,(i:Int)]=some [0,enc d,x1,(p:Int)]
 |k,i,h1,h2=>by
  rw [aP,auC];have c2: ¬((i:Int)<0):=by omega
  by_cases hi:i<d.l.length
  ·have c1:(i:Int)<(d.l.length:Int):=by omega
   have w:=aZ (n:=i) (by omega);obtain⟨b1,b2⟩:=hb.2 i hi;have b1: ¬(d.l[i]).n<0:=by omega
   obtain⟨k,rfl⟩ : ∃k',k=k'+1:=⟨k-1,by omega⟩;have hdr:(d.l.take d.l.length).drop i=d.l[i]::d.l.drop (i+1):=by rw [aKx,aJq hi]
   simp only [UZ,dP,kM,pO,zV,oW,jB,aY,aQ,aT,Nat.reduceLT,List.map,bU,jD,iL,aF,c1,c2,if_true,if_false,Dh,den_add,w,Jy,Jz,aX hi,b1,b2];by_cases q1:(b0.at (d.l[i]).n).n=1
   ·simp only [q1,if_true];exact Dp d hb hlen x1 k (i+1) (by omega) (by omega)
   ·by_cases q2:(b0.at (d.l[i]).n).n=2
    ·simp only [aIQ q1,aIR q2]
     have hne:d.l[i]≠.i 10:=by intro h;rw [h] at q1;exact q1 aHx
     simp only [aI4,if_false,Pv,iZ.den,Py,Px,jD,iL,aY,bU,aQ,aT,Nat.reduceLT,aF,D.hd,l_p,wY,n_i,aI0,aIX,aIY,aJm,aW,hdr];split
     ·exact⟨d.l.length,aIV _,by simp [fin]⟩
     ·rename_i h0;obtain⟨g1,g2⟩:=avH hne h0;rw [aJt] at g2;obtain⟨m,hm⟩ : ∃m:Nat,PK (d.l[i]::d.l.drop (i+1)) 10=(m:Int):=⟨(PK (d.l[i]::d.l.drop (i+1)) 10).toNat,by omega⟩;have w2:IntKind.i64.wrap ((i:Int)+(m:Int))=((i+m:Nat):Int):=by rw [lW (by omega) (by omega)]; omega
      simp only [hm,w2,fin];exact Dp d hb hlen x1 k (i+m) (by omega) (by omega)
    ·simp only [aIQ q1,aIQ q2];exact⟨i,by omega,rfl⟩
  ·have c1: ¬(i:Int)<(d.l.length:Int):=by omega
   simp only [UZ,dP,kM,oW,aY,aQ,aT,Nat.reduceLT,List.map,bU,iL,aF,c1,if_false];exact⟨i,by omega,rfl⟩
theorem acQ (d:D) (hb:Bs d) (hlen:d.l.length<=1000000) (i:Nat) (hi:i<=d.l.length): ∃p:Nat,p<=d.l.length/\L 12800 [enc d,(i:Int)]=some [0,enc d,(i:Int),(p:Int)]:=by rw [aP,auD];simp only [ZI,pO,aY,aQ,aT,Nat.reduceLT,List.map];exact Dp d hb hlen _ _ i (aIV _) hi
theorem Ud (d:D) (hb:Bs d) (hlen:d.l.length<=1000000) (x1 x2:Int): ∀(k i:Nat),d.l.length-i<=k->i<=d.l.length->∃p:Nat,i<=p/\p<=d.l.length/\L 12851 [enc d,x1,x2,(i:Int)]=some [0,enc d,x1,(p:Int)]
 |k,i,h1,h2=>by
  rw [aP,auA];have c2: ¬((i:Int)<0):=by omega
  by_cases hi:i<d.l.length
  ·have c1:(i:Int)<(d.l.length:Int):=by omega
   have w:=aZ (n:=i) (by omega);obtain⟨b1,b2⟩:=hb.2 i hi;have b1: ¬(d.l[i]).n<0:=by omega
   obtain⟨k,rfl⟩ : ∃k',k=k'+1:=⟨k-1,by omega⟩
   have ih: ∃p:Nat,i<=p/\p<=d.l.length/\L 12851 [enc d,x1,x2,((i+1:Nat):Int)]=some [0,enc d,x1,(p:Int)]:=by obtain⟨p,q1,q2,q3⟩:=Ud d hb hlen x1 x2 k (i+1) (by omega) (by omega);exact⟨p,by omega,q2,q3⟩
   simp only [UY,dP,kM,pO,zV,oW,jB,aY,aQ,aT,Nat.reduceLT,List.map,bU,jD,iL,aF,c1,c2,if_true,if_false,Dh,den_add,w,Jy,Jz,aX hi,b1,b2];split
   ·exact ih
   ·split
    ·split
     ·exact ih
     ·exact⟨i,by omega,by omega,rfl⟩
    ·exact⟨i,by omega,by omega,rfl⟩
  ·have c1: ¬(i:Int)<(d.l.length:Int):=by omega
   simp only [UY,dP,kM,oW,aY,aQ,aT,Nat.reduceLT,List.map,bU,iL,aF,c1,if_false];exact⟨i,by omega,by omega,rfl⟩
theorem afN {l:List D} {a b:D} (h:enc (dL l)=enc (.p a (.p b (.i 0)))):l.length=2:=by have:=congrArg (fun d=>d.l.length) (lN h);simpa [D.l] using this
theorem arT (d:D) (hb:Bs d) (hlen:d.l.length<=1000000) (i:Nat) (hi:i<d.l.length): ∃p:Nat,i<p/\p<=d.l.length/\L 12850 [enc d,(i:Int)]=some [0,enc d,(i:Int),(p:Int)]:=by
 have c2: ¬((i:Int)<0):=by omega
 have c1:(i:Int)<(d.l.length:Int):=by omega
 have w:=aZ (n:=i) (by omega);have w1:=aZ (n:=i+1) (by omega);have w2:IntKind.i64.wrap ((i:Int)+2)=((i+2:Nat):Int):=by rw [lW (by omega) (by omega)]; omega
 obtain⟨b1,b2⟩:=hb.2 i hi;have b1: ¬(d.l[i]).n<0:=by omega
 have c3: ¬(((i+2:Nat):Int)<(i:Int)):=by omega
 rw [aP,auB];simp only [ZH,dP,kM,pO,zV,oW,jB,aY,aQ,aT,Nat.reduceLT,List.map,bU,iL,aF,c1,c2,c3,if_true,if_false,Dh,den_add,w,w1,w2,Jy,Jz,aX hi,b1,b2,aI4,Pv,iZ.den,Py,Px,jD,D.hd,l_p,wY,n_i,aI0,aIX,aIY,aJm];split
 ·split
  ·rename_i h5;split
   ·rename_i h6;have:=afN h6;simp only [aJt,aJc] at this;omega
   ·split
    ·rename_i h6;have:=afN h6;simp only [aJt,aJc] at this;omega
    ·exact⟨i+1,by omega,by omega,rfl⟩
  ·rename_i h5;split
   ·exact⟨i+1+1,by omega,by omega,rfl⟩
   ·split
    ·exact⟨i+1+1,by omega,by omega,rfl⟩
    ·exact⟨i+1,by omega,by omega,rfl⟩
 ·obtain⟨p,q1,q2,q3⟩:=Ud d hb hlen (i:Int) ((b0.at (d.l[i]).n).n) _ (i+1) (aIV _) (by omega);exact⟨p,by omega,q2,q3⟩
theorem aAZ {d:D} (hb:Bs d) (a b:Nat):Bs (dL ((d.l.take b).drop a)):=by
 refine⟨by rw [aW],fun i h=>?_⟩;simp only [aW] at h ⊢
 have hl:i<d.l.length-a:=by simp only [aJt,aJc] at h;omega
 have:((d.l.take b).drop a)[i]=d.l[a+i]:=by simp
 rw [this];exact hb.2 _ _
theorem apR (d:D) (hb:Bs d): ∃k s n ln a e er el',L 1050 [enc d,0]=some [k,s,n,ln,a,e,er,el']:=by
 rw [aP,aCI];by_cases hg:(16384:Int)<(d.l.length:Int)
 ·simp only [Xw,dP,kM,oW,aY,aQ,aT,Nat.reduceLT,List.map,bU,iL,aF,hg,if_true];exact⟨_,_,_,_,_,_,_,_,rfl⟩
 ·obtain⟨p,hp,hB⟩:=acQ d hb (by omega) 0 (by omega);have hB':L 12800 [enc d,0]=some [0,enc d,0,(p:Int)]:=hB;have c0: ¬((0:Int)<0):=by omega
  have c1: ¬((d.l.length:Int)<0):=by omega
  have c2: ¬((p:Int)<0):=by omega
  have c3: ¬((d.l.length:Int)<(p:Int)):=by omega
  by_cases he:(p:Int)=(d.l.length:Int)
  ·simp only [Xw,dP,kM,zV,oW,jB,aY,aQ,aT,Nat.reduceLT,List.map,bU,iL,aF,hg,if_false,c0,c1,iY,iE,hB',aJl,if_true,aIY,c2,c3,he,aI4,fin];exact⟨_,_,_,_,_,_,_,_,rfl⟩
  ·obtain⟨e,h1,h2,hE⟩:=arT d hb (by omega) p (by omega);have c4: ¬((e:Int)<(p:Int)):=by omega
   have c5: ¬((d.l.length:Int)<(e:Int)):=by omega
   have hpart:=aAZ hb p e;have hpl:((d.l.take e).drop p).length=e-p:=by simp only [aJt,aJc]; omega
   have hp0:0<((d.l.take e).drop p).length:=by omega
   obtain⟨na,nb,hN⟩:=aaL _ hpart (by rw [aW]; omega);obtain⟨b1,b2⟩:=hpart.2 0 (by rw [aW]; exact hp0);generalize hq:(d.l.take e).drop p=q at *;simp only [aW] at b1 b2;have b1: ¬(q[0]).n<0:=by omega
   have hat:(dL q).at 0=q[0]:=by have:=aX (d:=dL q) (i:=0) (by rw [aW]; exact hp0);simpa using this
   have c6:(0:Int)<(q.length:Int):=by omega
   have c7:(q.length:Int)<1000000000:=by omega
   have c8:((([D.i 32]++q:List D).length:Nat):Int)<1000000000:=by simp only [aJa,aI5,aI7]; omega
   simp only [Xw,dP,kM,zV,oW,jB,aY,aQ,aT,Nat.reduceLT,List.map,bU,iL,aF,hg,if_false,c0,c1,iY,iE,hB',hE,aJl,if_true,aIY,c2,c3,c4,c5,aIQ he,Pv,iZ.den,Py,Px,jD,D.hd,l_p,wY,n_i,aI0,aIX,aJm,hq,aW,c6,c7,c8,Jy,Jz,hat,b1,b2,hN]
   repeat' first |exact⟨_,_,_,_,_,_,_,_,rfl⟩|split
theorem oD (d:D) (hb:Bs d): ∃b,(b=0\/b=1)/\L 1000 [enc d]=some [b]:=by
 obtain⟨k,s,n,ln',a,e,er,el',h⟩:=apR d hb;rw [aP,aCJ];simp only [anZ,dP,kM,zV,jB,aY,aQ,aT,Nat.reduceLT,List.map,bU,iY,iE,h,aJl,if_true,aIY];split
 ·split
  ·split
   ·exact⟨1,.inr rfl,rfl⟩
   ·exact⟨0,.inl rfl,rfl⟩
  ·exact⟨0,.inl rfl,rfl⟩
 ·exact⟨0,.inl rfl,rfl⟩
theorem aFq {d:D} (h:Wd .str d):Bs d:=by obtain⟨s,rfl⟩:=h.s;exact aFb s
theorem Ec {kids:D} (h:Wd (.sl 6) kids) {i:Nat} (hi:i<kids.l.length): ∃k s n ks,kids.l[i]=dL [.i k,s,.i n,ks]/\iW .u8 k/\Wd .str s/\iW .i64 n/\Wd (.sl 6) ks:=by
 obtain⟨r,h1,hl,hc⟩:=h.elN (cs:=[.int .u8,.str,.int .i64,.sl 6]) rfl _ (aIZ hi)
 match r,hl with
 |[a,b,c,d],_=> obtain⟨k,rfl,hk⟩:=(hc 0 _ _ rfl rfl).i;obtain⟨n,rfl,hn⟩:=(hc 2 _ _ rfl rfl).i;exact⟨k,b,n,d,h1,hk,hc 1 _ _ rfl rfl,hn,hc 3 _ _ rfl rfl⟩
theorem aiB (d:D) (hb:Bs d): ∃b,(b=0\/b=1)/\L 12900 [enc d,0]=some [b,enc d,0]:=by
 obtain⟨b,hb1,h⟩:=oD d hb;rw [aP,atZ];simp only [ZG,zz,h];rcases hb1 with rfl|rfl
 ·exact⟨_,.inl rfl,rfl⟩
 ·exact⟨_,.inr rfl,rfl⟩
theorem Si: ∀(m deep:Nat),21-deep<=m->∀(k n left loc:Int) (s kids:D),Wd .str s->Wd (.sl 6) kids->
 Tot 5050 [k,enc s,n,enc kids,(deep:Int),left,loc] is3
 |m,deep,hm,k,n,left,loc,s,kids,hs,hk=>by
  refine Tot.of ?_;rw [aCf];simp only [anC,zz];refine .ite (fun _=> .out Yb) fun _=> .ite (fun _=> .out Yb) fun hd=> .jump ?_;obtain⟨m,rfl⟩ : ∃m',m=m'+1:=⟨m-1,by omega⟩;have ih:=Si m (deep+1) (by omega);have hlen:=hk.len;have w0:=aZ (n:=deep) (by omega)
  have loop: ∀(j i:Nat) (l' c':Int),i+j=kids.l.length->Tot 5051 [(deep:Int),enc kids,(kids.l.length:Int),(i:Int),l',c',k,enc s,n] is3:=by
   intro j
   induction j with
   |zero=>
    intro i l' c' hi;have c1: ¬(i:Int)<(kids.l.length:Int):=by omega
    obtain⟨b,hb,hR⟩:=aiB s (aFq hs);refine Tot.of ?_;rw [asP];simp only [adV,zz,c1,hR];rcases hb with rfl|rfl
    ·simp only [Int.reduceEq,if_true,if_false]
     repeat' first |exact .out Yb|exact .out aBQ|refine .ite (fun _=>?_) (fun _=>?_)
    ·simp only [Int.reduceEq,if_true,if_false]
     repeat' first |exact .out Yb|exact .out aBQ|refine .ite (fun _=>?_) (fun _=>?_)
   |succ j ih2=>
    intro i l' c' hi;have hil:i<kids.l.length:=by omega
    have c1:(i:Int)<(kids.l.length:Int):=by omega
    have c2: ¬((i:Int)<0):=by omega
    have w:=aZ (n:=i) (by omega);obtain⟨k',s',n',ks',he,_,h1,_,h2⟩:=Ec hk hil;obtain⟨ys,hR,a,b,c,rfl,hc⟩:=ih k' n' l' c' s' ks' h1 h2;refine Tot.of ?_;rw [asP];simp only [adV,zz,c1,c2,aX hil,he,zg,w0,w,hR];exact .ite (fun _=> .out Yb) fun _=> .jump (ih2 (i+1) _ _ (by omega))
  exact loop kids.l.length 0 _ _ (by omega)
theorem aiH (k n loc:Int) (s kids:D) (hs:Wd .str s) (hk:Wd (.sl 6) kids):Tot 800 [k,enc s,n,enc kids,loc] FQ:=by obtain⟨ys,hR,a,b,c,rfl,hc⟩:=Si 20 1 (by omega) k n 1000 loc s kids hs hk;have hR':L 5050 [k,enc s,n,enc kids,1,1000,loc]=some [a,b,c]:=hR;refine Tot.of ?_;rw [aHa];simp only [aDa,zz,hR'];exact .ite (fun _=> .out Ak) fun _=> .out Aj
def aBO (a b c:Int) (ys:List Int):Prop:= ∃i:Int,ys= [a,b,c,i]
def aDK (a b c:Int) (ys:List Int):Prop:= ∃i:Int,ys= [a,b,c,i]/\(i=0\/i=1)
theorem HY (kids loc:D) (nm' code:Int) (hk:Wd (.sl 6) kids): ∀(j i:Nat),i+j=kids.l.length->Tot 5401 [enc kids,(kids.l.length:Int),(i:Int),nm',enc loc,code] (aBO nm' (enc loc) code)
 |0,i,hi=>by
  have c1: ¬(i:Int)<(kids.l.length:Int):=by omega
  refine Tot.of ?_;rw [asL];simp only [adR,zz,c1];exact .out ⟨_,rfl⟩
 |j+1,i,hi=>by
  have hlen:=hk.len;have hil:i<kids.l.length:=by omega
  have c1:(i:Int)<(kids.l.length:Int):=by omega
  have c2: ¬((i:Int)<0):=by omega
  have w:=aZ (n:=i) (by omega);obtain⟨k',s',n',ks',he,_,h1,_,h2⟩:=Ec hk hil;obtain⟨ys,hR,b,rfl,hb⟩:=aiH k' n' (loc.l.length:Int) s' ks' h1 h2;refine Tot.of ?_;rw [asL];simp only [adR,zz,c1,c2,aX hil,he,zg,w,hR];exact .ite (fun _=> .out ⟨_,rfl⟩) fun _=> .jump (HY kids loc nm' code hk j (i+1) (by omega))
theorem akF (kids loc:D) (nm' code:Int) (hk:Wd (.sl 6) kids):Tot 5000 [enc kids,nm',enc loc,code] (aDK nm' (enc loc) code):=by
 have h0:Tot 5400 [enc kids,nm',enc loc,code] (aBO nm' (enc loc) code):=by refine Tot.of ?_;rw [aB5];simp only [amV,zz];exact .jump (HY kids loc nm' code hk kids.l.length 0 (by omega))
 obtain⟨ys,hR,i,rfl⟩:=h0;refine Tot.of ?_;rw [aCg];simp only [anD,zz,hR];exact .ite (fun _=> .out ⟨_,rfl,.inl rfl⟩) fun _=> .out ⟨_,rfl,.inr rfl⟩
theorem Vr (o:Int):Tot 1200 [o] (fun ys=> ∃k,ys= [k]):=by
 refine Tot.of ?_;rw [aCE];simp only [anW,zz]
 repeat' first |exact .out ⟨_,rfl⟩|refine .ite (fun _=>?_) (fun _=>?_)
theorem uP (o:Int):Tot 1250 [o] FQ:=by
 refine Tot.of ?_;rw [aCD];simp only [anV,zz]
 repeat' first |exact .out Ak|exact .out Aj|refine .ite (fun _=>?_) (fun _=>?_)
theorem uG (o:Int):Tot 1300 [o] FQ:=by
 refine Tot.of ?_;rw [aCC];simp only [anU,zz]
 repeat' first |exact .out Ak|exact .out Aj|refine .ite (fun _=>?_) (fun _=>?_)
theorem YV (o:Int):Tot 1350 [o] FQ:=by
 refine Tot.of ?_;rw [aCB];simp only [anT,zz]
 repeat' first |exact .out Ak|exact .out Aj|refine .ite (fun _=>?_) (fun _=>?_)
def E1:D:=.p (.i 1) (.p (.i 0) (.p (.i 0) (.p (.i 1) (.i 0))))
theorem EI:Bs (.i 0):=⟨rfl,fun i h=>by simp [D.l] at h⟩
theorem EH {b:Int} (h1:0<=b) (h2:b<256):Bs (.p (.i b) (.i 0)):=⟨rfl,fun i h=>by
 simp only [D.l,aI5,aI7] at h;obtain rfl:i=0:=by omega
 exact⟨h1,h2⟩⟩
theorem iQ (k n x5:Int) (s s':D) (hs:Bs s) (hs':Bs s'):Tot 1400 [k,enc s,n,enc s',x5] FQ:=by
 obtain⟨b,hb,hR⟩:=oD s hs;obtain⟨b',hb',hR'⟩:=oD s' hs';obtain⟨ys,hC,c,rfl,hc⟩:=YV k;refine Tot.of ?_;rw [aCA];simp only [anS,zz,hR,hR',hC]
 repeat' first |exact .out Ak|exact .out Aj|refine .ite (fun _=>?_) (fun _=>?_)
theorem aA3:L 1150 [1,enc (.i 0),0,enc (.i 1)]=some [1]:=by rw [aP,aCF];simp only [anX,zz,wY,aI7,Int.reduceLT,Int.reduceEq];rfl
theorem akG (a b:Int):L 5450 [enc (.i 1),a,b]=some [b]:=by rw [aP,aB4];simp only [amU,zz,wY,aI7,fin];rw [aP,aB3];simp only [amT,zz];rfl
theorem Eb:L 5250 [enc (dL [E1]),2,1]=some [2,enc (dL [E1])]:=by have h1:=aA3;have h2:=akG 3 2;have w1:IntKind.i64.wrap (1+1)=2:=lW (by omega) (by omega);have w2:IntKind.i64.wrap (2+1)=3:=lW (by omega) (by omega);have w3:IntKind.i64.wrap (0+1)=1:=lW (by omega) (by omega);have ha:(dL [E1]).at 0=E1:=rfl;have g0:E1.hd 0= .i 1:=rfl;have g1:E1.hd 1= .i 0:=rfl;have g2:E1.hd 2= .i 0:=rfl;have g3:E1.hd 3= .i 1:=rfl;rw [aP,aB8];simp only [amY,zz,aW,aI5,aI7,aI2,fin];rw [aP,asO];simp only [adU,zz,aW,aI5,aI7,aI2,ha,g0,g1,g2,g3,w1,w2,w3,h1,h2,Int.reduceLT,Int.reduceEq,fin,aJk,aI4];rw [aP,asO];simp only [adU,zz,aI4];rfl
theorem aiD (k m:Int):L 5500 [enc (.i 1),k,m]=some [k,m,1]:=by rw [aP,aB2];simp only [amR,zz,wY,aI7,fin];rw [aP,aB1];simp only [amQ,zz];rfl
theorem aiC (a k m:Int):L 5600 [enc (.i 1),a,k,m]=some [a,k,m,1]:=by rw [aP,aB0];simp only [amP,zz,wY,aI7,fin];rw [aP,aBZ];simp only [amO,zz];rfl
theorem amD (k m:Int):L 5150 [k,m]=some [k,m,1]:=by rw [aP,aCc];simp only [anA,zz,fin];rw [aP,aCb];rfl
theorem amC (k m:Int):L 5200 [k,m]=some [1,k,m,1]:=by rw [aP,aCa];simp only [amZ,zz,fin];rw [aP,aB9];rfl
theorem LW (k m:Int):L 5100 [k,m]=some [m]:=by rw [aP,aCe];simp only [anB,zz,fin];rw [aP,aCd];rfl
theorem pK (k m:Int):L 5300 [1,enc (dL [E1]),k,m]=some [enc (dL [E1]),k,m,1]:=by have h2:=aiD k m;have w3:IntKind.i64.wrap (0+1)=1:=lW (by omega) (by omega);have ha:(dL [E1]).at 0=E1:=rfl;have g0:E1.hd 0= .i 1:=rfl;have g1:E1.hd 1= .i 0:=rfl;have g3:E1.hd 3= .i 1:=rfl;rw [aP,aB7];simp only [amX,zz,fin];rw [aP,asN];simp only [adT,zz,aW,aI5,aI7,aI2,ha,g0,g1,g3,w3,h2,Int.reduceLT,Int.reduceEq,fin,aJk,aI4];rw [aP,asN];simp only [adT,zz,aI4];rfl
theorem UQ (k m:Int):L 5350 [1,enc (dL [E1]),k,m]=some [enc (dL [E1]),1,k,m,1]:=by have h2:=aiC 1 k m;have w3:IntKind.i64.wrap (0+1)=1:=lW (by omega) (by omega);have ha:(dL [E1]).at 0=E1:=rfl;have g0:E1.hd 0= .i 1:=rfl;have g1:E1.hd 1= .i 0:=rfl;have g3:E1.hd 3= .i 1:=rfl;rw [aP,aB6];simp only [amW,zz,fin];rw [aP,asM];simp only [adS,zz,aW,aI5,aI7,aI2,ha,g0,g1,g3,w3,h2,Int.reduceLT,Int.reduceEq,fin,aJk,aI4];rw [aP,asM];simp only [adS,zz,aI4];rfl
def isR (ys:List Int):Prop:= ∃b l,ys=b::l/\(b=0\/b=1)
theorem afX {l:List Int}:isR (0::l):=⟨0,l,rfl,.inl rfl⟩
theorem afW {l:List Int}:isR (1::l):=⟨1,l,rfl,.inr rfl⟩
theorem Vj (a b c d e f g:Int):Tot 12400 [a,b,c,d,e,f,g] isR:=by
 obtain⟨ys,h1,o,rfl,_⟩:=iQ a b c _ _ (EH (b:=97) (by omega) (by omega)) EI;obtain⟨ys,h2,q,rfl,_⟩:=uP e;obtain⟨ys,h3,r,rfl,_⟩:=uG e;obtain⟨n,_,h4⟩:=oD _ EI;refine Tot.of ?_;rw [auL];simp only [ZM,zz,h1,h2,h3,h4,LW]
 repeat' first |exact .out afX|exact .out afW|refine .ite (fun _=>?_) (fun _=>?_)
theorem Vh (a b c d e f g:Int):Tot 12500 [a,b,c,d,e,f,g] isR:=by
 obtain⟨ys,h1,o,rfl,_⟩:=iQ a b c _ _ (EH (b:=97) (by omega) (by omega)) EI;obtain⟨ys,h2,q,rfl,_⟩:=uP e;obtain⟨ys,h3,r,rfl,_⟩:=uG e;obtain⟨n,_,h4⟩:=oD _ EI;refine Tot.of ?_;rw [auJ];simp only [ZK,zz,h1,h2,h3,h4,LW]
 repeat' first |exact .out afX|exact .out afW|refine .ite (fun _=>?_) (fun _=>?_)
theorem apA (a b c d e f g h i:Int):Tot 12450 [a,b,c,d,e,f,g,h,i] isR:=by
 obtain⟨ys,h0,o,rfl,_⟩:=iQ 1 a b _ _ (EH (b:=98) (by omega) (by omega)) EI;obtain⟨ys,h1,o',rfl,_⟩:=iQ c d e _ _ (EH (b:=97) (by omega) (by omega)) (EH (b:=98) (by omega) (by omega));obtain⟨ys,h2,q,rfl,_⟩:=uP g;obtain⟨ys,h3,r,rfl,_⟩:=uG g;obtain⟨n,_,h4⟩:=oD _ EI;refine Tot.of ?_;rw [auK];simp only [ZL,zz,h0,h1,h2,h3,h4,LW]
 repeat' first |exact .out afX|exact .out afW|refine .ite (fun _=>?_) (fun _=>?_)
theorem aoZ (a b c d e f g h i:Int):Tot 12550 [a,b,c,d,e,f,g,h,i] isR:=by
 obtain⟨ys,h0,o,rfl,_⟩:=iQ 1 a b _ _ (EH (b:=98) (by omega) (by omega)) EI;obtain⟨ys,h1,o',rfl,_⟩:=iQ c d e _ _ (EH (b:=97) (by omega) (by omega)) (EH (b:=98) (by omega) (by omega));obtain⟨ys,h2,q,rfl,_⟩:=uP g;obtain⟨ys,h3,r,rfl,_⟩:=uG g;obtain⟨n,_,h4⟩:=oD _ EI;refine Tot.of ?_;rw [auI];simp only [ZJ,zz,h0,h1,h2,h3,h4,LW]
 repeat' first |exact .out afX|exact .out afW|refine .ite (fun _=>?_) (fun _=>?_)
def aqE (m k:Nat) (ys:List Int):Prop:=(∃l,ys=0::l)\/(m=1/\low ys 0=1/\low ys k=1/\low ys (k+1)=enc (dL [E1]))
theorem CP {m k:Nat} {l:List Int}:aqE m k (0::l):=.inl ⟨l,rfl⟩
def xQ (m:Nat):D:=dL (List.replicate m E1)
theorem yR (m:Nat):(xQ m).l.length=m:=by unfold xQ; rw [aW,aJ4]
theorem Cj (m:Nat) (hm:1<=m) (a b c d e f g:Int):Tot 12600 [a,b,c,d,e,f,enc (xQ m),g] (aqE m 9):=by
 obtain⟨ys,h1,o,rfl,_⟩:=iQ a b c _ _ (EH (b:=97) (by omega) (by omega)) EI;obtain⟨ys,h2,q,rfl,hq⟩:=uP e;obtain⟨ys,h3,r,rfl,_⟩:=uG e;obtain⟨n,_,h4⟩:=oD _ EI;refine Tot.of ?_;rw [auH];by_cases h:m=1
 ·subst h;have h5:=Eb;simp only [U3,zz,h1,h2,h3,h4,xQ,List.replicate,h5]
  repeat' first |exact .out CP|exact .out (.inr ⟨rfl,rfl,rfl,rfl⟩)|refine .ite (fun _=>?_) (fun _=>?_)
 ·have c1: ¬((m:Int)=q):=by rcases hq with rfl|rfl<;>omega
  simp only [U3,zz,h1,h2,h3,h4,yR,c1]
  repeat' first |exact .out CP|refine .ite (fun _=>?_) (fun _=>?_)
theorem Ci (m:Nat) (hm:1<=m) (a b c d e f g:Int):Tot 12700 [a,b,c,d,e,f,enc (xQ m),g] (aqE m 9):=by
 obtain⟨ys,h1,o,rfl,_⟩:=iQ a b c _ _ (EH (b:=97) (by omega) (by omega)) EI;obtain⟨ys,h2,q,rfl,hq⟩:=uP e;obtain⟨ys,h3,r,rfl,_⟩:=uG e;obtain⟨n,_,h4⟩:=oD _ EI;refine Tot.of ?_;rw [auF];by_cases h:m=1
 ·subst h;have h5:=Eb;simp only [U1,zz,h1,h2,h3,h4,xQ,List.replicate,h5]
  repeat' first |exact .out CP|exact .out (.inr ⟨rfl,rfl,rfl,rfl⟩)|refine .ite (fun _=>?_) (fun _=>?_)
 ·have c1: ¬((m:Int)=q):=by rcases hq with rfl|rfl<;>omega
  simp only [U1,zz,h1,h2,h3,h4,yR,c1]
  repeat' first |exact .out CP|refine .ite (fun _=>?_) (fun _=>?_)
theorem aoY (m:Nat) (hm:1<=m) (a b c d e f g h' i:Int):Tot 12650 [a,b,c,d,e,f,g,h',enc (xQ m),i] (aqE m 11):=by
 obtain⟨ys,h0,o,rfl,_⟩:=iQ 1 a b _ _ (EH (b:=98) (by omega) (by omega)) EI;obtain⟨ys,h1,o',rfl,_⟩:=iQ c d e _ _ (EH (b:=97) (by omega) (by omega)) (EH (b:=98) (by omega) (by omega));obtain⟨ys,h2,q,rfl,hq⟩:=uP g;obtain⟨ys,h3,r,rfl,_⟩:=uG g;obtain⟨n,_,h4⟩:=oD _ EI;refine Tot.of ?_;rw [auG];by_cases h:m=1
 ·subst h;have h5:=Eb;simp only [U2,zz,h0,h1,h2,h3,h4,xQ,List.replicate,h5]
  repeat' first |exact .out CP|exact .out (.inr ⟨rfl,rfl,rfl,rfl⟩)|refine .ite (fun _=>?_) (fun _=>?_)
 ·have c1: ¬((m:Int)=q):=by rcases hq with rfl|rfl<;>omega
  simp only [U2,zz,h0,h1,h2,h3,h4,yR,c1]
  repeat' first |exact .out CP|refine .ite (fun _=>?_) (fun _=>?_)
theorem aoX (m:Nat) (hm:1<=m) (a b c d e f g h' i:Int):Tot 12750 [a,b,c,d,e,f,g,h',enc (xQ m),i] (aqE m 11):=by
 obtain⟨ys,h0,o,rfl,_⟩:=iQ 1 a b _ _ (EH (b:=98) (by omega) (by omega)) EI;obtain⟨ys,h1,o',rfl,_⟩:=iQ c d e _ _ (EH (b:=97) (by omega) (by omega)) (EH (b:=98) (by omega) (by omega));obtain⟨ys,h2,q,rfl,hq⟩:=uP g;obtain⟨ys,h3,r,rfl,_⟩:=uG g;obtain⟨n,_,h4⟩:=oD _ EI;refine Tot.of ?_;rw [auE];by_cases h:m=1
 ·subst h;have h5:=Eb;simp only [U0,zz,h0,h1,h2,h3,h4,xQ,List.replicate,h5]
  repeat' first |exact .out CP|exact .out (.inr ⟨rfl,rfl,rfl,rfl⟩)|refine .ite (fun _=>?_) (fun _=>?_)
 ·have c1: ¬((m:Int)=q):=by rcases hq with rfl|rfl<;>omega
  simp only [U0,zz,h0,h1,h2,h3,h4,yR,c1]
  repeat' first |exact .out CP|refine .ite (fun _=>?_) (fun _=>?_)
def isD (a b:Int) (ys:List Int):Prop:= ∃c:Int,ys= [c]/\(c=0\/c=1)/\(c=1->a= -1\/b≠0)
theorem gX {a b:Int}:isD a b [0]:=⟨0,rfl,.inl rfl,fun h=>absurd h (by omega)⟩
theorem pG {a b:Int} (h:a= -1\/b≠0):isD a b [1]:=⟨1,rfl,.inr rfl,fun _=>h⟩
theorem Tot.mono {j:Nat} {xs:List Int} {p q:List Int->Prop} (h:Tot j xs p) (f: ∀ys,p ys->q ys):Tot j xs q:=by obtain⟨ys,a,b⟩:=h;exact⟨ys,a,f ys b⟩
theorem aAP (x0 x2 x3 x4 x5 x6 x7 x8:Int):Tot 951 [x0,0,x2,x3,x4,x5,x6,x7,x8] (isD x5 0):=by
 obtain⟨ys,a1,b1,l1,rfl,g1⟩:=Vj x0 1 0 0 x3 0 0;obtain⟨ys,a2,b2,l2,rfl,g2⟩:=Vj x0 0 0 0 x3 0 0;obtain⟨ys,a3,b3,l3,rfl,g3⟩:=apA 0 0 x0 0 0 0 x3 0 0;obtain⟨ys,a4,b4,l4,rfl,g4⟩:=Vh x0 1 0 0 x3 0 0;obtain⟨ys,a5,b5,l5,rfl,g5⟩:=Vh x0 0 0 0 x3 0 0;obtain⟨ys,a6,b6,l6,rfl,g6⟩:=aoZ 0 0 x0 0 0 0 x3 0 0;obtain⟨ys,a7,k,rfl⟩:=Vr x3;refine Tot.of ?_;rw [aEU];simp only [axJ,zz,aI4,a1,a2,a3,a4,a5,a6,a7,amD,amC]
 repeat' first |exact .out gX|exact .out (pG (by omega))|refine .ite (fun _=>?_) (fun _=>?_)|(exfalso; omega)
theorem aAO (x0 x2 x3 x4 x5 x6 x7 x8:Int):Tot 952 [x0,0,x2,x3,x4,x5,x6,x7,x8] (isD x5 1):=by
 obtain⟨ys,a1,b1,l1,rfl,g1⟩:=Vj x0 1 0 0 x3 0 0;obtain⟨ys,a2,b2,l2,rfl,g2⟩:=Vj x0 0 0 0 x3 0 0;obtain⟨ys,a3,b3,l3,rfl,g3⟩:=apA 0 0 x0 0 0 0 x3 0 0;obtain⟨ys,a4,b4,l4,rfl,g4⟩:=Vh x0 1 0 0 x3 0 0;obtain⟨ys,a5,b5,l5,rfl,g5⟩:=Vh x0 0 0 0 x3 0 0;obtain⟨ys,a6,b6,l6,rfl,g6⟩:=aoZ 0 0 x0 0 0 0 x3 0 0;obtain⟨ys,a7,k,rfl⟩:=Vr x3;refine Tot.of ?_;rw [aET];simp only [axI,zz,aI4,a1,a2,a3,a4,a5,a6,a7,amD,amC]
 repeat' first |exact .out gX|exact .out (pG (by omega))|refine .ite (fun _=>?_) (fun _=>?_)|(exfalso; omega)
theorem YR (m:Nat) (hm:1<=m) (x0 x3 x4 x5 x6 x7 x8 x9:Int):Tot 953 [x0,(m:Int),(m:Int),x3,x4,x5,x6,x7,x8,x9,enc (xQ m)] (isD x6 0):=by
 obtain⟨ys,a7,k,rfl⟩:=Vr x4;by_cases hn:x6= -1
 ·by_cases h3:x0=3
  ·subst h3;obtain⟨ys,hR,hC⟩:=Cj m hm 3 1 0 0 x4 0 0;refine Tot.of ?_;rw [KZ];rcases hC with ⟨l,rfl⟩|⟨rfl,q1,q2,q3⟩
   ·simp only [wB,zz,aI4,hn,hR,Int.reduceEq];exact .out gX
   ·simp only [wB,zz,aI4,hn,hR,q1,q2,q3,a7,pK,Int.reduceEq,aJk]
    repeat' first |exact .out gX|exact .out (pG (by omega))|refine .ite (fun _=>?_) (fun _=>?_)|(exfalso; omega)
  by_cases h8:x0=8
  ·subst h8;obtain⟨ys,hR,hC⟩:=Cj m hm 8 1 0 0 x4 0 0;refine Tot.of ?_;rw [KZ];rcases hC with ⟨l,rfl⟩|⟨rfl,q1,q2,q3⟩
   ·simp only [wB,zz,aI4,hn,hR,Int.reduceEq];exact .out gX
   ·simp only [wB,zz,aI4,hn,hR,q1,q2,q3,a7,pK,Int.reduceEq,aJk]
    repeat' first |exact .out gX|exact .out (pG (by omega))|refine .ite (fun _=>?_) (fun _=>?_)|(exfalso; omega)
  by_cases h5:x0=5
  ·subst h5;obtain⟨ys,hR,hC⟩:=Cj m hm 5 1 0 0 x4 0 0;refine Tot.of ?_;rw [KZ];rcases hC with ⟨l,rfl⟩|⟨rfl,q1,q2,q3⟩
   ·simp only [wB,zz,aI4,hn,hR,Int.reduceEq];exact .out gX
   ·simp only [wB,zz,aI4,hn,hR,q1,q2,q3,a7,pK,Int.reduceEq,aJk]
    repeat' first |exact .out gX|exact .out (pG (by omega))|refine .ite (fun _=>?_) (fun _=>?_)|(exfalso; omega)
  by_cases h4:x0=4
  ·subst h4;obtain⟨ys,hR,hC⟩:=aoY m hm 0 0 4 0 0 0 x4 0 0;refine Tot.of ?_;rw [KZ];rcases hC with ⟨l,rfl⟩|⟨rfl,q1,q2,q3⟩
   ·simp only [wB,zz,aI4,hn,hR,Int.reduceEq];exact .out gX
   ·simp only [wB,zz,aI4,hn,hR,q1,q2,q3,a7,UQ,Int.reduceEq,aJk]
    repeat' first |exact .out gX|exact .out (pG (by omega))|refine .ite (fun _=>?_) (fun _=>?_)|(exfalso; omega)
  obtain⟨ys,hR,hC⟩:=Cj m hm x0 0 0 0 x4 0 0;refine Tot.of ?_;rw [KZ];rcases hC with ⟨l,rfl⟩|⟨rfl,q1,q2,q3⟩
  ·simp only [wB,zz,aI4,hn,h3,h8,h5,h4,hR,Int.reduceEq];exact .out gX
  ·simp only [wB,zz,aI4,hn,h3,h8,h5,h4,hR,q1,q2,q3,a7,pK,Int.reduceEq,aJk]
   repeat' first |exact .out gX|exact .out (pG (by omega))|refine .ite (fun _=>?_) (fun _=>?_)|(exfalso; omega)
 ·by_cases h3:x0=3
  ·subst h3;obtain⟨ys,hR,hC⟩:=Ci m hm 3 1 0 0 x4 0 0;refine Tot.of ?_;rw [KZ];rcases hC with ⟨l,rfl⟩|⟨rfl,q1,q2,q3⟩
   ·simp only [wB,zz,aI4,hn,hR,Int.reduceEq];exact .out gX
   ·simp only [wB,zz,aI4,hn,hR,q1,q2,q3,a7,pK,Int.reduceEq,aJk]
    repeat' first |exact .out gX|exact .out (pG (by omega))|refine .ite (fun _=>?_) (fun _=>?_)|(exfalso; omega)
  by_cases h8:x0=8
  ·subst h8;obtain⟨ys,hR,hC⟩:=Ci m hm 8 1 0 0 x4 0 0;refine Tot.of ?_;rw [KZ];rcases hC with ⟨l,rfl⟩|⟨rfl,q1,q2,q3⟩
   ·simp only [wB,zz,aI4,hn,hR,Int.reduceEq];exact .out gX
   ·simp only [wB,zz,aI4,hn,hR,q1,q2,q3,a7,pK,Int.reduceEq,aJk]
    repeat' first |exact .out gX|exact .out (pG (by omega))|refine .ite (fun _=>?_) (fun _=>?_)|(exfalso; omega)
  by_cases h5:x0=5
  ·subst h5;obtain⟨ys,hR,hC⟩:=Ci m hm 5 1 0 0 x4 0 0;refine Tot.of ?_;rw [KZ];rcases hC with ⟨l,rfl⟩|⟨rfl,q1,q2,q3⟩
   ·simp only [wB,zz,aI4,hn,hR,Int.reduceEq];exact .out gX
   ·simp only [wB,zz,aI4,hn,hR,q1,q2,q3,a7,pK,Int.reduceEq,aJk]
    repeat' first |exact .out gX|exact .out (pG (by omega))|refine .ite (fun _=>?_) (fun _=>?_)|(exfalso; omega)
  by_cases h4:x0=4
  ·subst h4;obtain⟨ys,hR,hC⟩:=aoX m hm 0 0 4 0 0 0 x4 0 0;refine Tot.of ?_;rw [KZ];rcases hC with ⟨l,rfl⟩|⟨rfl,q1,q2,q3⟩
   ·simp only [wB,zz,aI4,hn,hR,Int.reduceEq];exact .out gX
   ·simp only [wB,zz,aI4,hn,hR,q1,q2,q3,a7,UQ,Int.reduceEq,aJk]
    repeat' first |exact .out gX|exact .out (pG (by omega))|refine .ite (fun _=>?_) (fun _=>?_)|(exfalso; omega)
  obtain⟨ys,hR,hC⟩:=Ci m hm x0 0 0 0 x4 0 0;refine Tot.of ?_;rw [KZ];rcases hC with ⟨l,rfl⟩|⟨rfl,q1,q2,q3⟩
  ·simp only [wB,zz,aI4,hn,h3,h8,h5,h4,hR,Int.reduceEq];exact .out gX
  ·simp only [wB,zz,aI4,hn,h3,h8,h5,h4,hR,q1,q2,q3,a7,pK,Int.reduceEq,aJk]
   repeat' first |exact .out gX|exact .out (pG (by omega))|refine .ite (fun _=>?_) (fun _=>?_)|(exfalso; omega)
theorem agW (M:Nat) (hM:M<=2513169434915) (x0 x3 x4 x5 x6 x7 x8 x9:Int): ∀(j m:Nat),m+j=M->1<=m->Tot 953 [x0,(M:Int),(m:Int),x3,x4,x5,x6,x7,x8,x9,enc (xQ m)] (isD x6 0)
 |0,m,h1,h2=>by
  obtain rfl:M=m:=by omega
  exact YR M h2 x0 x3 x4 x5 x6 x7 x8 x9
 |j+1,m,h1,h2=>by
  have ih:=agW M hM x0 x3 x4 x5 x6 x7 x8 x9 j (m+1) (by omega) (by omega);have c1:(m:Int)<(M:Int):=by omega
  have c2:((m:Nat):Int)<2513169434915:=by omega
  have w:=aZ (n:=m) (by omega)
  have hr:xQ (m+1)=dL ((xQ m).l++ [E1]):=by unfold xQ;rw [aW,List.replicate_succ']
  rw [hr] at ih;refine Tot.of ?_;rw [KZ];simp only [wB,zz,c1,c2,yR,w];exact .jump ih
theorem YQ (m:Nat) (hm:1<=m) (x0 x3 x4 x5 x6 x7 x8 x9:Int):Tot 954 [x0,(m:Int),(m:Int),x3,x4,x5,x6,x7,x8,x9,enc (xQ m)] (isD x6 1):=by
 obtain⟨ys,a7,k,rfl⟩:=Vr x4;by_cases hn:x6= -1
 ·by_cases h3:x0=3
  ·subst h3;obtain⟨ys,hR,hC⟩:=Cj m hm 3 1 0 0 x4 0 0;refine Tot.of ?_;rw [KY];rcases hC with ⟨l,rfl⟩|⟨rfl,q1,q2,q3⟩
   ·simp only [vZ,zz,aI4,hn,hR,Int.reduceEq];exact .out gX
   ·simp only [vZ,zz,aI4,hn,hR,q1,q2,q3,a7,pK,Int.reduceEq,aJk]
    repeat' first |exact .out gX|exact .out (pG (by omega))|refine .ite (fun _=>?_) (fun _=>?_)|(exfalso; omega)
  by_cases h8:x0=8
  ·subst h8;obtain⟨ys,hR,hC⟩:=Cj m hm 8 1 0 0 x4 0 0;refine Tot.of ?_;rw [KY];rcases hC with ⟨l,rfl⟩|⟨rfl,q1,q2,q3⟩
   ·simp only [vZ,zz,aI4,hn,hR,Int.reduceEq];exact .out gX
   ·simp only [vZ,zz,aI4,hn,hR,q1,q2,q3,a7,pK,Int.reduceEq,aJk]
    repeat' first |exact .out gX|exact .out (pG (by omega))|refine .ite (fun _=>?_) (fun _=>?_)|(exfalso; omega)
  by_cases h5:x0=5
  ·subst h5;obtain⟨ys,hR,hC⟩:=Cj m hm 5 1 0 0 x4 0 0;refine Tot.of ?_;rw [KY];rcases hC with ⟨l,rfl⟩|⟨rfl,q1,q2,q3⟩
   ·simp only [vZ,zz,aI4,hn,hR,Int.reduceEq];exact .out gX
   ·simp only [vZ,zz,aI4,hn,hR,q1,q2,q3,a7,pK,Int.reduceEq,aJk]
    repeat' first |exact .out gX|exact .out (pG (by omega))|refine .ite (fun _=>?_) (fun _=>?_)|(exfalso; omega)
  by_cases h4:x0=4
  ·subst h4;obtain⟨ys,hR,hC⟩:=aoY m hm 0 0 4 0 0 0 x4 0 0;refine Tot.of ?_;rw [KY];rcases hC with ⟨l,rfl⟩|⟨rfl,q1,q2,q3⟩
   ·simp only [vZ,zz,aI4,hn,hR,Int.reduceEq];exact .out gX
   ·simp only [vZ,zz,aI4,hn,hR,q1,q2,q3,a7,UQ,Int.reduceEq,aJk]
    repeat' first |exact .out gX|exact .out (pG (by omega))|refine .ite (fun _=>?_) (fun _=>?_)|(exfalso; omega)
  obtain⟨ys,hR,hC⟩:=Cj m hm x0 0 0 0 x4 0 0;refine Tot.of ?_;rw [KY];rcases hC with ⟨l,rfl⟩|⟨rfl,q1,q2,q3⟩
  ·simp only [vZ,zz,aI4,hn,h3,h8,h5,h4,hR,Int.reduceEq];exact .out gX
  ·simp only [vZ,zz,aI4,hn,h3,h8,h5,h4,hR,q1,q2,q3,a7,pK,Int.reduceEq,aJk]
   repeat' first |exact .out gX|exact .out (pG (by omega))|refine .ite (fun _=>?_) (fun _=>?_)|(exfalso; omega)
 ·by_cases h3:x0=3
  ·subst h3;obtain⟨ys,hR,hC⟩:=Ci m hm 3 1 0 0 x4 0 0;refine Tot.of ?_;rw [KY];rcases hC with ⟨l,rfl⟩|⟨rfl,q1,q2,q3⟩
   ·simp only [vZ,zz,aI4,hn,hR,Int.reduceEq];exact .out gX
   ·simp only [vZ,zz,aI4,hn,hR,q1,q2,q3,a7,pK,Int.reduceEq,aJk]
    repeat' first |exact .out gX|exact .out (pG (by omega))|refine .ite (fun _=>?_) (fun _=>?_)|(exfalso; omega)
  by_cases h8:x0=8
  ·subst h8;obtain⟨ys,hR,hC⟩:=Ci m hm 8 1 0 0 x4 0 0;refine Tot.of ?_;rw [KY];rcases hC with ⟨l,rfl⟩|⟨rfl,q1,q2,q3⟩
   ·simp only [vZ,zz,aI4,hn,hR,Int.reduceEq];exact .out gX
   ·simp only [vZ,zz,aI4,hn,hR,q1,q2,q3,a7,pK,Int.reduceEq,aJk]
    repeat' first |exact .out gX|exact .out (pG (by omega))|refine .ite (fun _=>?_) (fun _=>?_)|(exfalso; omega)
  by_cases h5:x0=5
  ·subst h5;obtain⟨ys,hR,hC⟩:=Ci m hm 5 1 0 0 x4 0 0;refine Tot.of ?_;rw [KY];rcases hC with ⟨l,rfl⟩|⟨rfl,q1,q2,q3⟩
   ·simp only [vZ,zz,aI4,hn,hR,Int.reduceEq];exact .out gX
   ·simp only [vZ,zz,aI4,hn,hR,q1,q2,q3,a7,pK,Int.reduceEq,aJk]
    repeat' first |exact .out gX|exact .out (pG (by omega))|refine .ite (fun _=>?_) (fun _=>?_)|(exfalso; omega)
  by_cases h4:x0=4
  ·subst h4;obtain⟨ys,hR,hC⟩:=aoX m hm 0 0 4 0 0 0 x4 0 0;refine Tot.of ?_;rw [KY];rcases hC with ⟨l,rfl⟩|⟨rfl,q1,q2,q3⟩
   ·simp only [vZ,zz,aI4,hn,hR,Int.reduceEq];exact .out gX
   ·simp only [vZ,zz,aI4,hn,hR,q1,q2,q3,a7,UQ,Int.reduceEq,aJk]
    repeat' first |exact .out gX|exact .out (pG (by omega))|refine .ite (fun _=>?_) (fun _=>?_)|(exfalso; omega)
  obtain⟨ys,hR,hC⟩:=Ci m hm x0 0 0 0 x4 0 0;refine Tot.of ?_;rw [KY];rcases hC with ⟨l,rfl⟩|⟨rfl,q1,q2,q3⟩
  ·simp only [vZ,zz,aI4,hn,h3,h8,h5,h4,hR,Int.reduceEq];exact .out gX
  ·simp only [vZ,zz,aI4,hn,h3,h8,h5,h4,hR,q1,q2,q3,a7,pK,Int.reduceEq,aJk]
   repeat' first |exact .out gX|exact .out (pG (by omega))|refine .ite (fun _=>?_) (fun _=>?_)|(exfalso; omega)
theorem agV (M:Nat) (hM:M<=2513169434915) (x0 x3 x4 x5 x6 x7 x8 x9:Int): ∀(j m:Nat),m+j=M->1<=m->Tot 954 [x0,(M:Int),(m:Int),x3,x4,x5,x6,x7,x8,x9,enc (xQ m)] (isD x6 1)
 |0,m,h1,h2=>by
  obtain rfl:M=m:=by omega
  exact YQ M h2 x0 x3 x4 x5 x6 x7 x8 x9
 |j+1,m,h1,h2=>by
  have ih:=agV M hM x0 x3 x4 x5 x6 x7 x8 x9 j (m+1) (by omega) (by omega);have c1:(m:Int)<(M:Int):=by omega
  have c2:((m:Nat):Int)<2513169434915:=by omega
  have w:=aZ (n:=m) (by omega)
  have hr:xQ (m+1)=dL ((xQ m).l++ [E1]):=by unfold xQ;rw [aW,List.replicate_succ']
  rw [hr] at ih;refine Tot.of ?_;rw [KY];simp only [vZ,zz,c1,c2,yR,w];exact .jump ih
theorem YP (x0 x1 x2 x3 x4 x5 x6 x8:Int) (d:D) (hd:d.l.length<=2513169434915):Tot 950 [x0,x1,x2,x3,x4,x5,x6,enc d,x8] (isD x4 x8):=by
 have key: ∀(t t2:Nat) (b:Int),(t=951/\t2=953/\b=0)\/(t=952/\t2=954/\b=1)->Tot t [x0,(d.l.length:Int),x1,x2,x3,x4,x5,x6,enc d] (isD x4 b):=by
  intro t t2 b ht;by_cases h0:d.l.length=0
  ·rw [h0];rcases ht with ⟨rfl,rfl,rfl⟩|⟨rfl,rfl,rfl⟩
   ·exact aAP x0 x1 x2 x3 x4 x5 x6 (enc d)
   ·exact aAO x0 x1 x2 x3 x4 x5 x6 (enc d)
  ·have c1:(0:Int)<(d.l.length:Int):=by omega
   have hr:enc (xQ 1)=enc (dL ([]++ [E1])):=rfl;rcases ht with ⟨rfl,rfl,rfl⟩|⟨rfl,rfl,rfl⟩
   ·have:=agW d.l.length hd x0 x1 x2 x3 x4 x5 x6 (enc d) (d.l.length-1) 1 (by omega) (by omega);rw [hr] at this;refine Tot.of ?_;rw [aEU];simp only [axJ,zz,c1,wY];exact .jump this
   ·have:=agV d.l.length hd x0 x1 x2 x3 x4 x5 x6 (enc d) (d.l.length-1) 1 (by omega) (by omega);rw [hr] at this;refine Tot.of ?_;rw [aET];simp only [axI,zz,c1,wY];exact .jump this
 refine Tot.of ?_;rw [aGV];simp only [aC7,zz];exact .ite (fun h=> .jump ((key 951 953 0 (.inl ⟨rfl,rfl,rfl⟩)).mono fun ys ⟨c,a,b,e⟩=> ⟨c,a,b,fun q=>by have:=e q; omega⟩)) fun h=> .jump ((key 952 954 1 (.inr ⟨rfl,rfl,rfl⟩)).mono fun ys ⟨c,a,b,e⟩=> ⟨c,a,b,fun _=> .inr h⟩)
def OkI (d0:D) (nl nc:Nat) (dx op ob into to:Int) (na:Nat):Prop:=
 (dx=1/\0<=ob/\ob<(d0.l.length:Int)/\(into= -1\/0<=into/\into<(nl:Int))/\(op=16->0<=to/\to<=(nc:Int)))\/
 (dx=2/\0<=ob/\ob<(d0.l.length:Int))\/(dx=3/\0<=into/\into<(nl:Int)/\(na:Int)=1)\/(dx=4/\0<=to/\to<=(nc:Int)/\(na:Int)=1)\/
 (dx=5/\0<=to/\to<=(nc:Int))\/(dx=6/\0<=into/\into<(nl:Int))\/(dx=7/\0<=into/\into<(nl:Int)/\0<=to/\to<=(nc:Int))
def isI (p:Prop) (ys:List Int):Prop:= ∃c:Int,ys= [c]/\(c=0\/c=1)/\(c=1->p)
theorem aGe {p:Prop}:isI p [0]:=⟨0,rfl,.inl rfl,fun h=>absurd h (by omega)⟩
theorem aGd {p:Prop} (h:p):isI p [1]:=⟨1,rfl,.inr rfl,fun _=>h⟩
set_option maxHeartbeats 2000000 in
theorem azE (d0 d1 d3 d4 d:D) (x2 x5 x6 x7 x8 x9 x10:Int) (hd:d.l.length<=2513169434915):Tot 750 [enc d0,enc d1,x2,enc d3,enc d4,x5,x6,x7,x8,x9,x10,enc d] (isI (OkI d0 d3.l.length d4.l.length x5 x6 x7 x8 x9 d.l.length)):=by
 unfold OkI;obtain⟨ys,h0,b0,rfl,_,f0⟩:=YP ((d0.at x7).hd 0).n x5 x6 x7 x8 x9 x10 0 d hd;obtain⟨ys,h1,b1,rfl,_,f1⟩:=YP ((d0.at x7).hd 0).n x5 x6 x7 x8 x9 x10 1 d hd;refine Tot.of ?_;rw [aHb];simp only [aDb,zz,h0,h1]
 repeat' first |exact .out aGe|exact .out (aGd (by omega))|refine .ite (fun _=>?_) (fun _=>?_)
def OkO (d0:D) (k n:Int):Prop:=1<=k/\k<=9/\(k=1\/k=2\/k=6\/k=7->n=0)/\(k=3\/k=8->1<=n/\n<=1048576)/\(k=5->1<=n/\n<=16)/\(k=4->0<=n/\n<(d0.l.length:Int)/\((d0.at n).hd 0).n=1)
def afF (d0:D) (x:D):Prop:=OkO d0 (x.hd 0).n (x.hd 2).n
def aDI (d0:D) (k n:Int) (ys:List Int):Prop:= ∃b:Int,ys= [b]/\(b=0\/b=1)/\(b≠0->OkO d0 k n)
theorem ajG (d0:D) (x1 x2 x3 x4 x5 x6:Int):Tot 700 [enc d0,x1,x2,x3,x4,x5,x6] (aDI d0 x2 x4):=by
 refine Tot.of ?_;rw [aHc];simp only [aDc,zz]
 repeat' first
  |exact .out ⟨0,rfl,.inl rfl,fun h=>absurd rfl h⟩
  |exact .out ⟨1,rfl,.inr rfl,fun _=> ⟨by omega,by omega,by omega,by omega,by omega,fun h4=>by first |omega|exact⟨by omega,by omega,by assumption⟩⟩⟩
  |refine .ite (fun _=>?_) (fun _=>?_)
def xR (d0 d1:D):Prop:=d0.l.length<=64/\d1.l.length<=16/\∀x∈d0.l,afF d0 x
def agA (d0 x:D):Prop:= ∀y∈(x.hd 2).l,OkI d0 (x.hd 1).l.length (x.hd 2).l.length (y.hd 0).n (y.hd 1).n (y.hd 2).n (y.hd 3).n (y.hd 4).n (y.hd 6).l.length
def Oz (d0 d1:D) (ys:List Int):Prop:= ∃b:Int,ys= [b]/\(b=0\/b=120)/\(b=0->xR d0 d1/\∀x∈d1.l,agA d0 x)
theorem Gg {d:D} (h:Wd (.sl 4) d) {i:Nat} (hi:i<d.l.length): ∃nm' lc cd,d.l[i]=dL [nm',lc,cd]/\Wd .str nm'/\Wd (.sl 2) lc/\Wd (.sl 5) cd:=by
 obtain⟨r,h1,hl,hc⟩:=h.elN (cs:=[.str,.sl 2,.sl 5]) rfl _ (aIZ hi)
 match r,hl with
 |[a,b,c],_=>exact⟨a,b,c,h1,hc 0 _ _ rfl rfl,hc 1 _ _ rfl rfl,hc 2 _ _ rfl rfl⟩
theorem aaY {d:D} (h:Wd (.sl 5) d) {i:Nat} (hi:i<d.l.length): ∃a b c e f g QK,d.l[i]=dL [.i a,.i b,.i c,.i e,.i f,.i g,QK]/\iW .u8 a/\iW .u8 b/\iW .i64 c/\iW .i64 e/\iW .i64 f/\iW .i64 g/\Wd (.sl 6) QK:=by
 obtain⟨r,h1,hl,hc⟩:=h.elN (cs:=[.int .u8,.int .u8,.int .i64,.int .i64,.int .i64,.int .i64,.sl 6]) rfl _ (aIZ hi)
 match r,hl with
 |[a,b,c,e,f,g,QK],_=> obtain⟨a,rfl,ha⟩:=(hc 0 _ _ rfl rfl).i;obtain⟨b,rfl,hb⟩:=(hc 1 _ _ rfl rfl).i;obtain⟨c,rfl,hc'⟩:=(hc 2 _ _ rfl rfl).i;obtain⟨e,rfl,he⟩:=(hc 3 _ _ rfl rfl).i;obtain⟨f,rfl,hf⟩:=(hc 4 _ _ rfl rfl).i;obtain⟨g,rfl,hg⟩:=(hc 5 _ _ rfl rfl).i;exact⟨a,b,c,e,f,g,QK,h1,ha,hb,hc',he,hf,hg,hc 6 _ _ rfl rfl⟩
section
variable {d0 d1:D} (h0:Wd (.sl 3) d0) (h1:Wd (.sl 4) d1)
include h1
theorem Gf (hx: ∀x y:Int,x=y->True): ∀(j i:Nat),i+j=d1.l.length->Tot 453 [enc d1,(d1.l.length:Int),(i:Int),enc d0] (Oz d0 d1)
 |0,i,hi=>by
  have c1: ¬(i:Int)<(d1.l.length:Int):=by omega
  refine Tot.of ?_;rw [aE0];simp only [axO,zz,c1];exact .out ⟨120,rfl,.inr rfl,fun h=>by omega⟩
 |j+1,i,hi=>by
  have hl:=h1.len;have c1:(i:Int)<(d1.l.length:Int):=by omega
  have c2: ¬((i:Int)<0):=by omega
  have w:=aZ (n:=i) (by omega);refine Tot.of ?_;rw [aE0];simp only [axO,zz,c1,c2];refine .jump (Tot.of ?_);rw [aEY];simp only [axM,zz,w];exact .ite (fun _=> .jump (Gf hx j (i+1) (by omega))) fun _=> .jump (Gf hx j (i+1) (by omega))
theorem UU (i:Nat) (hi:i<d1.l.length) (j:Nat) (hj:i+1+j=d1.l.length) (x0 x5 x6 x7:Int):Tot 455 [x0,enc d1,(d1.l.length:Int),(i:Int),enc d0,x5,x6,x7] (Oz d0 d1):=by have hl:=h1.len;have w:=aZ (n:=i) (by omega);refine Tot.of ?_;rw [aEY];simp only [axM,zz,w];exact .ite (fun _=> .jump (Gf h1 (fun _ _ _=>trivial) j (i+1) (by omega))) fun _=> .jump (Gf h1 (fun _ _ _=>trivial) j (i+1) (by omega))
theorem Xp (hg:xR d0 d1): ∀(j i:Nat),i+j=d1.l.length->(∀(n:Nat) (h:n<d1.l.length),n<i->agA d0 d1.l[n])->Tot 454 [enc d1,(d1.l.length:Int),(i:Int),enc d0] (Oz d0 d1)
 |0,i,hi,hp=>by
  have c1: ¬(i:Int)<(d1.l.length:Int):=by omega
  refine Tot.of ?_;rw [aEZ];simp only [axN,zz,c1];refine .out ⟨0,rfl,.inl rfl,fun _=> ⟨hg,fun x hx=>?_⟩⟩;obtain⟨n,hn,rfl⟩:=aKi hx;exact hp n hn (by omega)
 |j+1,i,hi,hp=>by
  have hl:=h1.len;have hil:i<d1.l.length:=by omega
  have c1:(i:Int)<(d1.l.length:Int):=by omega
  have c2: ¬((i:Int)<0):=by omega
  have w:=aZ (n:=i) (by omega);obtain⟨nm',lc,cd,he,hn,hlc,hcd⟩:=Gg h1 hil;have hcl:=hcd.len;have e1:(d1.l[i]).hd 1=lc:=by rw [he,eP]; rfl
  have e2:(d1.l[i]).hd 2=cd:=by rw [he,eP]; rfl
  have loop: ∀(m k:Nat),k+m=cd.l.length->(∀(n:Nat) (h:n<cd.l.length),n<k->OkI d0 lc.l.length cd.l.length ((cd.l[n]).hd 0).n ((cd.l[n]).hd 1).n ((cd.l[n]).hd 2).n ((cd.l[n]).hd 3).n ((cd.l[n]).hd 4).n ((cd.l[n]).hd 6).l.length)->Tot 456 [(k:Int),enc d1,(d1.l.length:Int),(i:Int),enc d0,enc nm',enc lc,enc cd] (Oz d0 d1):=by
   intro m
   induction m with
   |zero=>
    intro k hk hq;have c3: ¬(k:Int)<(cd.l.length:Int):=by omega
    have ih:=Xp hg j (i+1) (by omega) fun n hn hni=>by
     by_cases hne:n=i
     ·subst hne;unfold agA;rw [e1,e2];intro y hy;obtain⟨z,hz,rfl⟩:=aKi hy;exact hq z hz (by omega)
     ·exact hp n hn (by omega)
    refine Tot.of ?_;rw [aEX];simp only [axL,zz,c3,w];exact .jump ih
   |succ m ihm=>
    intro k hk hq;have hkl:k<cd.l.length:=by omega
    have c3:(k:Int)<(cd.l.length:Int):=by omega
    have c4: ¬((k:Int)<0):=by omega
    have w2:=aZ (n:=k) (by omega);obtain⟨a,b,c,e,f,g,QK,hin,_,_,_,_,_,_,has⟩:=aaY hcd hkl;have hroom:=has.room
    have hal:QK.l.length<=2513169434915:=by have:wZ 6=56:=rfl;rw [this] at hroom;omega
    obtain⟨ys,hM,q,rfl,aIH,hqI⟩:=azE d0 d1 lc cd QK (enc nm') a b c e f g hal;obtain⟨ys,hX,r,rfl,_⟩:=akF QK lc (enc nm') (enc cd) has;refine Tot.of ?_;rw [aEX];simp only [axL,zz,c3,c4,aX hkl,hin,zg,hM,hX,w2];refine .ite (fun _=> .jump (UU h1 i hil j (by omega) _ _ _ _)) fun hq0=> .ite (fun _=> .jump (ihm (k+1) (by omega) fun n hn hnk=>?_)) fun _=> .jump (UU h1 i hil j (by omega) _ _ _ _);by_cases hne:n=k
    ·subst hne;simp only [hin,zg];exact hqI (by omega)
    ·exact hq n hn (by omega)
  refine Tot.of ?_;rw [aEZ];simp only [axN,zz,c1,c2,aX hil,he,zg];exact .ite (fun _=> .jump (UU h1 i hil j (by omega) _ _ _ _)) fun _=> .ite (fun _=> .jump (UU h1 i hil j (by omega) _ _ _ _)) fun _=> .jump (loop cd.l.length 0 (by omega) fun n hn h=>absurd h (by omega))
include h0
theorem LH: ∀(j i:Nat),i+j=d0.l.length->Tot 451 [enc d0,(d0.l.length:Int),(i:Int),enc d1] (Oz d0 d1)
 |0,i,hi=>by
  have c1: ¬(i:Int)<(d0.l.length:Int):=by omega
  refine Tot.of ?_;rw [aE2];simp only [axQ,zz,c1];exact .jump (Gf h1 (fun _ _ _=>trivial) d1.l.length 0 (by omega))
 |j+1,i,hi=>by
  have hl:=h0.len;have c1:(i:Int)<(d0.l.length:Int):=by omega
  have c2: ¬((i:Int)<0):=by omega
  have w:=aZ (n:=i) (by omega);refine Tot.of ?_;rw [aE2];simp only [axQ,zz,c1,c2,w];exact .jump (LH j (i+1) (by omega))
theorem XQ (hs:d0.l.length<=64) (ht:d1.l.length<=16): ∀(j i:Nat),i+j=d0.l.length->(∀(k:Nat) (h:k<d0.l.length),k<i->afF d0 d0.l[k])->Tot 452 [enc d0,(d0.l.length:Int),(i:Int),enc d1] (Oz d0 d1)
 |0,i,hi,hp=>by
  have c1: ¬(i:Int)<(d0.l.length:Int):=by omega
  refine Tot.of ?_;rw [aE1];simp only [axP,zz,c1];refine .jump (Xp h1 ⟨hs,ht,fun x hx=>?_⟩ d1.l.length 0 (by omega) fun n hn h=>absurd h (by omega));obtain⟨k,hk,rfl⟩:=aKi hx;exact hp k hk (by omega)
 |j+1,i,hi,hp=>by
  have hil:i<d0.l.length:=by omega
  have c1:(i:Int)<(d0.l.length:Int):=by omega
  have c2: ¬((i:Int)<0):=by omega
  have w:=aZ (n:=i) (by omega);obtain⟨ys,hO,b,rfl,_,hob⟩:=ajG d0 (enc d1) ((d0.l[i]).hd 0).n (enc ((d0.l[i]).hd 1)) ((d0.l[i]).hd 2).n (enc ((d0.l[i]).hd 3)) ((d0.l[i]).hd 4).n;refine Tot.of ?_;rw [aE1];simp only [axP,zz,c1,c2,w,aX hil,hO];refine .ite (fun _=> .jump (LH h0 h1 j (i+1) (by omega))) fun hb=> .jump (XQ hs ht j (i+1) (by omega) fun k hk hki=>?_);by_cases hke:k=i
  ·subst hke;exact hob hb
  ·exact hp k hk (by omega)
theorem Em:Tot 450 [enc d0,enc d1] (Oz d0 d1):=by
 refine Tot.of ?_;rw [aHj];simp only [aDe,zz]
 exact .ite (fun _=> .jump (LH h0 h1 d0.l.length 0 (by omega))) fun ha=> .ite (fun _=> .jump (LH h0 h1 d0.l.length 0 (by omega))) fun hb=>
  .jump (XQ h0 h1 (by omega) (by omega) d0.l.length 0 (by omega) fun k hk hki=>by omega)
end
def one (ys:List Int):Prop:= ∃k:Int,ys= [k]
theorem aFr {o:Int} (h:iW .u8 o):IntKind.i64.wrap o=o:=lW (by have:=h.1; omega) (by have:=h.2; omega)
theorem apT (a b c d e:Int):Tot 650 [a,b,c,d,e] (fun ys=> ∃k l:Int,ys= [k,l]/\(l=0\/l=1)):=by
 refine Tot.of ?_;rw [aAE];simp only [amN,zz]
 repeat' first |exact .out ⟨_,_,rfl,.inl rfl⟩|exact .out ⟨_,_,rfl,.inr rfl⟩|refine .ite (fun _=>?_) (fun _=>?_)
theorem RH (r:D) (hl:r.l.length<=140737488351232) (x0 x4 x5 x6 x7 x8 x9 x10 x11 x12:Int) (v:D): ∀(j i:Nat) (x14:Int),i+j=r.l.length->
 Tot 501 [x0,enc r,(r.l.length:Int),(i:Int),x4,x5,x6,x7,x8,x9,x10,x11,x12,enc v,x14] FQ
 |0,i,x14,hi=>by
  have c1: ¬(i:Int)<(r.l.length:Int):=by omega
  refine Tot.of ?_;rw [akP];simp only [Xq,zz,c1]
  repeat' first |exact .out Ak|exact .out Aj|refine .ite (fun _=>?_) (fun _=>?_)
 |j+1,i,x14,hi=>by
  have c1:(i:Int)<(r.l.length:Int):=by omega
  have c2: ¬((i:Int)<0):=by omega
  have w:=aZ (n:=i) (by omega);have ih:=fun x=>RH r hl x0 x4 x5 x6 x7 x8 x9 x10 x11 x12 v j (i+1) x (by omega);refine Tot.of ?_;rw [akP];simp only [Xq,zz,c1,c2,w]
  repeat' first |exact .out Ak|exact .out Aj|exact .jump (ih _)|refine .ite (fun _=>?_) (fun _=>?_)
theorem Z7 (x0 x1 x2 x3 x4 x5 x6 x7 x8 x11:Int) (r v:D) (hl:r.l.length<=140737488351232):Tot 500 [x0,x1,x2,x3,x4,x5,x6,x7,x8,enc r,enc v,x11] FQ:=by
 obtain⟨ys,hM,a,b,rfl,hb⟩:=apT x0 x1 x2 x3 x4;have ih:=RH r hl x11 x0 x1 x2 x3 x4 x5 x6 x7 x8 v r.l.length 0 (enc (.i 0)) (by omega);refine Tot.of ?_;rw [aAF];simp only [aiE,zz,hM]
 repeat' first |exact .out Ak|exact .out Aj|exact .jump ih|refine .ite (fun _=>?_) (fun _=>?_)
theorem set_self {d:D} (hd:d=dL d.l) {i:Nat} (hi:i<d.l.length):dL (dZ d.l (i:Int) d.l[i])=d:=by rw [yK,List.set_getElem_self,<- hd]
theorem Nz (a b c d e f x:D):dZ [a,b,c,d,e,f] 4 x= [a,b,c,d,x,f]:=rfl
theorem Ny (a b c d e f x:D):dZ [a,b,c,d,e,f] 5 x= [a,b,c,d,e,x]:=rfl
theorem iP: ¬(enc (.i 2)=enc (.i 1)):=fun h=>by have:=lN h; simp at this
theorem len1:(((D.i 1).l.length:Nat):Int)=0:=rfl
theorem len2:(((D.i 2).l.length:Nat):Int)=0:=rfl
theorem nH: ¬((0:Int)<0):=by omega
theorem bF {r:D} (h:Wd (.sl 0) r):r= .i 1\/r= .i 2\/((0:Int)<(r.l.length:Int)/\(r.l.length:Int)<17592186044416):=by
 rcases h.sh with h1|h1|⟨h1,h2⟩
 ·exact .inl h1
 ·exact .inr (.inl h1)
 ·have hr:=h.room;have h3:wZ 0=8:=rfl;rw [h3] at hr;have:=aJS.2 h2;exact .inr (.inr ⟨by omega,by omega⟩)
structure Th (d:D):Prop where
 wd:Wd (.sl 7) d
 sh:d=dL d.l
 few:d.l.length<=1759218604390
theorem BO {d:D} (h:Wd (.sl 7) d) (hn:0<d.l.length):Th d:=by
 refine⟨h,?_,?_⟩
 ·rcases h.sh with rfl|rfl|⟨h1,_⟩
  ·simp [D.l] at hn
  ·simp [D.l] at hn
  ·exact h1
 ·have hr:=h.room;have h3:wZ 7=80:=rfl;rw [h3] at hr;omega
theorem Ul (d:D) (h:Th d): ∀(j i:Nat),i+j=d.l.length->L 551 [enc d,(d.l.length:Int),(i:Int)]=some [enc d]
 |0,i,hi=>by
  have c1: ¬(i:Int)<(d.l.length:Int):=by omega
  rw [aP,aEW];simp only [axK,zz,c1,fin]
 |j+1,i,hi=>by
  have hl:=h.few;have hil:i<d.l.length:=by omega
  have c1:(i:Int)<(d.l.length:Int):=by omega
  have c2: ¬((i:Int)<0):=by omega
  have w:=aZ (n:=i) (by omega);have ih:=Ul d h j (i+1) (by omega);obtain⟨o,c,dn,g,r,v,he,_,_,_,_,hr,hv⟩:=h.wd.thing _ (aIZ hil);have hs:=set_self h.sh hil;rw [he] at hs;rw [aP,aEW];rcases bF hr with rfl|rfl|⟨r1,r2⟩ <;>rcases bF hv with rfl|rfl|⟨v1,v2⟩
  all_goals
   simp only [axK,zz,c1,c2,w,aX hil,he,eP,aW,aI0,aIX,Nz,Ny,hs,len1,len2,nH,iP]
   try simp only [r1,r2,zz]
   try simp only [v1,v2,zz]
   try simp only [fin]
   exact ih
theorem avK (d:D) (h:Wd (.sl 7) d):L 550 [enc d]=some [enc d]:=by
 rw [aP,aHi];rcases h.sh with rfl|rfl|⟨h1,h2⟩
 ·simp only [amS,zz,len1,nH,fin];rw [aP,aHh];rfl
 ·simp only [amS,zz,len2,nH,iP,fin];rw [aP,aHg];rfl
 ·have hp:=aJS.2 h2;have ht:=BO h hp;have hl:=ht.few;have c1:(0:Int)<(d.l.length:Int):=by omega
  have c2:(d.l.length:Int)<1759218604441:=by omega
  simp only [amS,zz,c1,c2,fin];exact Ul d ht d.l.length 0 (by omega)
theorem Ur (d:D) (h:Th d) (gi:Nat) (x4 x5 x6 x7 x8 x9:Int): ∀(j i:Nat),gi<i->i+j=d.l.length->L 9004 [(gi:Int),enc d,(d.l.length:Int),(i:Int),x4,x5,x6,x7,x8,x9]=some [3,(gi:Int),enc d,x4,x5,x6,x7,x8,x9]
 |0,i,hg,hi=>by
  have c1: ¬(i:Int)<(d.l.length:Int):=by omega
  have c0: ¬((i:Int)=(gi:Int)):=by omega
  rw [aP,asJ];simp only [adQ,zz,c0,c1,fin]
 |j+1,i,hg,hi=>by
  have hl:=h.few;have hil:i<d.l.length:=by omega
  have c1:(i:Int)<(d.l.length:Int):=by omega
  have c2: ¬((i:Int)<0):=by omega
  have c0: ¬((i:Int)=(gi:Int)):=by omega
  have w:=aZ (n:=i) (by omega);have ih:=Ur d h gi x4 x5 x6 x7 x8 x9 j (i+1) (by omega) (by omega);obtain⟨o,c,dn,g,r,v,he,_,_,_,_,hr,hv⟩:=h.wd.thing _ (aIZ hil);have hs:=set_self h.sh hil;rw [he] at hs;rw [aP,asJ];rcases bF hr with rfl|rfl|⟨r1,r2⟩ <;>rcases bF hv with rfl|rfl|⟨v1,v2⟩
  all_goals
   simp only [adQ,zz,c0,c1,c2,w,aX hil,he,eP,aW,aI0,aIX,Nz,Ny,hs,len1,len2,nH,iP]
   try simp only [r1,r2,zz]
   try simp only [v1,v2,zz]
   try simp only [fin]
   exact ih
theorem Uo (d:D) (h:Th d) (gi:Nat) (x4 x5 x6 x7 x8 x9:Int): ∀(j i:Nat),gi<i->i+j=d.l.length->L 9005 [(gi:Int),enc d,(d.l.length:Int),(i:Int),x4,x5,x6,x7,x8,x9]=some [4,(gi:Int),enc d,x4,x5,x6,x7,x8,x9]
 |0,i,hg,hi=>by
  have c1: ¬(i:Int)<(d.l.length:Int):=by omega
  have c0: ¬((i:Int)=(gi:Int)):=by omega
  rw [aP,asI];simp only [adP,zz,c0,c1,fin]
 |j+1,i,hg,hi=>by
  have hl:=h.few;have hil:i<d.l.length:=by omega
  have c1:(i:Int)<(d.l.length:Int):=by omega
  have c2: ¬((i:Int)<0):=by omega
  have c0: ¬((i:Int)=(gi:Int)):=by omega
  have w:=aZ (n:=i) (by omega);have ih:=Uo d h gi x4 x5 x6 x7 x8 x9 j (i+1) (by omega) (by omega);obtain⟨o,c,dn,g,r,v,he,_,_,_,_,hr,hv⟩:=h.wd.thing _ (aIZ hil);have hs:=set_self h.sh hil;rw [he] at hs;rw [aP,asI];rcases bF hr with rfl|rfl|⟨r1,r2⟩ <;>rcases bF hv with rfl|rfl|⟨v1,v2⟩
  all_goals
   simp only [adP,zz,c0,c1,c2,w,aX hil,he,eP,aW,aI0,aIX,Nz,Ny,hs,len1,len2,nH,iP]
   try simp only [r1,r2,zz]
   try simp only [v1,v2,zz]
   try simp only [fin]
   exact ih
theorem Un (d:D) (h:Th d) (gi:Nat) (x4 x5 x6 x7 x8 x9:Int): ∀(j i:Nat),gi<i->i+j=d.l.length->L 9006 [(gi:Int),enc d,(d.l.length:Int),(i:Int),x4,x5,x6,x7,x8,x9]=some [5,(gi:Int),enc d,x4,x5,x6,x7,x8,x9]
 |0,i,hg,hi=>by
  have c1: ¬(i:Int)<(d.l.length:Int):=by omega
  have c0: ¬((i:Int)=(gi:Int)):=by omega
  rw [aP,asH];simp only [adO,zz,c0,c1,fin]
 |j+1,i,hg,hi=>by
  have hl:=h.few;have hil:i<d.l.length:=by omega
  have c1:(i:Int)<(d.l.length:Int):=by omega
  have c2: ¬((i:Int)<0):=by omega
  have c0: ¬((i:Int)=(gi:Int)):=by omega
  have w:=aZ (n:=i) (by omega);have ih:=Un d h gi x4 x5 x6 x7 x8 x9 j (i+1) (by omega) (by omega);obtain⟨o,c,dn,g,r,v,he,_,_,_,_,hr,hv⟩:=h.wd.thing _ (aIZ hil);have hs:=set_self h.sh hil;rw [he] at hs;rw [aP,asH];rcases bF hr with rfl|rfl|⟨r1,r2⟩ <;>rcases bF hv with rfl|rfl|⟨v1,v2⟩
  all_goals
   simp only [adO,zz,c0,c1,c2,w,aX hil,he,eP,aW,aI0,aIX,Nz,Ny,hs,len1,len2,nH,iP]
   try simp only [r1,r2,zz]
   try simp only [v1,v2,zz]
   try simp only [fin]
   exact ih
theorem Um (d:D) (h:Th d) (gi:Nat) (x4 x5 x6 x7 x8 x9:Int): ∀(j i:Nat),gi<i->i+j=d.l.length->L 9007 [(gi:Int),enc d,(d.l.length:Int),(i:Int),x4,x5,x6,x7,x8,x9]=some [6,(gi:Int),enc d,x4,x5,x6,x7,x8,x9]
 |0,i,hg,hi=>by
  have c1: ¬(i:Int)<(d.l.length:Int):=by omega
  have c0: ¬((i:Int)=(gi:Int)):=by omega
  rw [aP,asG];simp only [adN,zz,c0,c1,fin]
 |j+1,i,hg,hi=>by
  have hl:=h.few;have hil:i<d.l.length:=by omega
  have c1:(i:Int)<(d.l.length:Int):=by omega
  have c2: ¬((i:Int)<0):=by omega
  have c0: ¬((i:Int)=(gi:Int)):=by omega
  have w:=aZ (n:=i) (by omega);have ih:=Um d h gi x4 x5 x6 x7 x8 x9 j (i+1) (by omega) (by omega);obtain⟨o,c,dn,g,r,v,he,_,_,_,_,hr,hv⟩:=h.wd.thing _ (aIZ hil);have hs:=set_self h.sh hil;rw [he] at hs;rw [aP,asG];rcases bF hr with rfl|rfl|⟨r1,r2⟩ <;>rcases bF hv with rfl|rfl|⟨v1,v2⟩
  all_goals
   simp only [adN,zz,c0,c1,c2,w,aX hil,he,eP,aW,aI0,aIX,Nz,Ny,hs,len1,len2,nH,iP]
   try simp only [r1,r2,zz]
   try simp only [v1,v2,zz]
   try simp only [fin]
   exact ih
def qC (r v:D):Int:=if 0<r.l.length then (if 0<v.l.length then 3 else 4) else (if 0<v.l.length then 5 else 6)
theorem aCM (d:D) (h:Th d) (gi:Nat) (hgi:gi<d.l.length) (o c dn g:Int) (r v:D) (he':d.l[gi]=dL [.i o,.i c,.i dn,.i g,r,v]): ∀(j i:Nat),i<=gi->i+j=gi->
 L 9001 [(gi:Int),enc d,(d.l.length:Int),(i:Int)]=some [qC r v,(gi:Int),enc d,o,c,dn,g,enc r,enc v]
 |0,i,hg,hi=>by
  obtain rfl:i=gi:=by omega
  have hl:=h.few;have c1:(i:Int)<(d.l.length:Int):=by omega
  have c2: ¬((i:Int)<0):=by omega
  have w:=aZ (n:=i) (by omega);obtain⟨o',c',IU,g',r',v',he,_,_,_,_,hr,hv⟩:=h.wd.thing _ (aIZ hgi);rw [he'] at he;have he:=PI he;simp only [List.cons.injEq,D.i.injEq,and_true] at he;obtain⟨rfl,rfl,rfl,rfl,rfl,rfl⟩:=he;have b4:=fun a b=>Ur d h i o c dn g a b (d.l.length-(i+1)) (i+1) (by omega) (by omega);have b5:=fun a b=>Uo d h i o c dn g a b (d.l.length-(i+1)) (i+1) (by omega) (by omega);have b6:=fun a b=>Un d h i o c dn g a b (d.l.length-(i+1)) (i+1) (by omega) (by omega);have b7:=fun a b=>Um d h i o c dn g a b (d.l.length-(i+1)) (i+1) (by omega) (by omega);rw [aP,YJ];rcases bF hr with rfl|rfl|⟨r1,r2⟩
  ·rcases bF hv with rfl|rfl|⟨v1,v2⟩
   ·simp only [wC,zz,c1,c2,w,aX hgi,he',eP,aW,aI0,aIX,len1,nH,fin,b7];rw [qC,aIQ (by simp [D.l]),aIQ (by simp [D.l])]
   ·simp only [wC,zz,c1,c2,w,aX hgi,he',eP,aW,aI0,aIX,len1,nH,len2,iP,fin,b7];rw [qC,aIQ (by simp [D.l]),aIQ (by simp [D.l])]
   ·simp only [wC,zz,c1,c2,w,aX hgi,he',eP,aW,aI0,aIX,len1,nH,v1,v2,fin,b6];rw [qC,aIQ (by simp [D.l]),aIR (by omega)]
  ·rcases bF hv with rfl|rfl|⟨v1,v2⟩
   ·simp only [wC,zz,c1,c2,w,aX hgi,he',eP,aW,aI0,aIX,len2,nH,iP,len1,fin,b7];rw [qC,aIQ (by simp [D.l]),aIQ (by simp [D.l])]
   ·simp only [wC,zz,c1,c2,w,aX hgi,he',eP,aW,aI0,aIX,len2,nH,iP,fin,b7];rw [qC,aIQ (by simp [D.l]),aIQ (by simp [D.l])]
   ·simp only [wC,zz,c1,c2,w,aX hgi,he',eP,aW,aI0,aIX,len2,nH,iP,v1,v2,fin,b6];rw [qC,aIQ (by simp [D.l]),aIR (by omega)]
  ·rcases bF hv with rfl|rfl|⟨v1,v2⟩
   ·simp only [wC,zz,c1,c2,w,aX hgi,he',eP,aW,aI0,aIX,r1,r2,len1,nH,fin,b5];rw [qC,aIR (by omega),aIQ (by simp [D.l])]
   ·simp only [wC,zz,c1,c2,w,aX hgi,he',eP,aW,aI0,aIX,r1,r2,len2,nH,iP,fin,b5];rw [qC,aIR (by omega),aIQ (by simp [D.l])]
   ·simp only [wC,zz,c1,c2,w,aX hgi,he',eP,aW,aI0,aIX,r1,r2,v1,v2,fin,b4];rw [qC,aIR (by omega),aIR (by omega)]
 |j+1,i,hg,hi=>by
  have hl:=h.few;have hil:i<d.l.length:=by omega
  have c1:(i:Int)<(d.l.length:Int):=by omega
  have c2: ¬((i:Int)<0):=by omega
  have c0: ¬((i:Int)=(gi:Int)):=by omega
  have w:=aZ (n:=i) (by omega);have ih:=aCM d h gi hgi o c dn g r v he' j (i+1) (by omega) (by omega);clear he';obtain⟨o2,c2',dn2,g2,r2',v2',he,_,_,_,_,hr,hv⟩:=h.wd.thing _ (aIZ hil);have hs:=set_self h.sh hil;rw [he] at hs;rw [aP,YJ];rcases bF hr with rfl|rfl|⟨r1,r2⟩ <;>rcases bF hv with rfl|rfl|⟨v1,v2⟩
  all_goals
   simp only [wC,zz,c0,c1,c2,w,aX hil,he,eP,aW,aI0,aIX,Nz,Ny,hs,len1,len2,nH,iP]
   try simp only [r1,r2,zz]
   try simp only [v1,v2,zz]
   try simp only [fin]
   exact ih
theorem aCL (d:D) (h:Th d) (gi:Nat) (hgi:gi<d.l.length) (o c dn g:Int) (r v:D) (he':d.l[gi]=dL [.i o,.i c,.i dn,.i g,r,v]) :
 L 9000 [(gi:Int),enc d]=some [qC r v,(gi:Int),enc d,o,c,dn,g,enc r,enc v]:=by
 have hl:=h.few;have c1:(0:Int)<(d.l.length:Int):=by omega
 have c2:(d.l.length:Int)<1759218604441:=by omega
 rw [aP,asK];simp only [Rn,zz,c1,c2,fin];exact aCM d h gi hgi o c dn g r v he' gi 0 (by omega) (by omega)
theorem PN (d:D) (h:Th d) (x:Int) (hx:x<0\/(d.l.length:Int)<=x): ∀(j i:Nat),i+j=d.l.length->L 9001 [x,enc d,(d.l.length:Int),(i:Int)]=some [0,x,enc d]
 |0,i,hi=>by
  have c1: ¬(i:Int)<(d.l.length:Int):=by omega
  rw [aP,YJ];by_cases c0:(i:Int)=x
  ·simp only [wC,zz,c0,fin];have c1: ¬x<(d.l.length:Int):=by omega
   simp only [aIQ c1]
  ·simp only [wC,zz,c0,c1,fin]
 |j+1,i,hi=>by
  have hl:=h.few;have hil:i<d.l.length:=by omega
  have c1:(i:Int)<(d.l.length:Int):=by omega
  have c2: ¬((i:Int)<0):=by omega
  have c0: ¬((i:Int)=x):=by omega
  have w:=aZ (n:=i) (by omega);have ih:=PN d h x hx j (i+1) (by omega);obtain⟨o,c,dn,g,r,v,he,_,_,_,_,hr,hv⟩:=h.wd.thing _ (aIZ hil);have hs:=set_self h.sh hil;rw [he] at hs;rw [aP,YJ];rcases bF hr with rfl|rfl|⟨r1,r2⟩ <;>rcases bF hv with rfl|rfl|⟨v1,v2⟩
  all_goals
   simp only [wC,zz,c0,c1,c2,w,aX hil,he,eP,aW,aI0,aIX,Nz,Ny,hs,len1,len2,nH,iP]
   try simp only [r1,r2,zz]
   try simp only [v1,v2,zz]
   try simp only [fin]
   exact ih
theorem copyN (d:D) (h:Wd (.sl 7) d) (x:Int) (hx:x<0\/(d.l.length:Int)<=x):Tot 9000 [x,enc d] (fun ys=>ys= [0,x,enc d]\/(ys= [1,x]/\d= .i 1)\/(ys= [2,x]/\d= .i 2)):=by
 refine Tot.of ?_;rw [asK];rcases h.sh with rfl|rfl|⟨h1,h2⟩
 ·simp only [Rn,zz,len1,nH];refine .jump (Tot.of ?_);rw [aBY];simp only [amL,zz];exact .ite (fun _=> .out (.inr (.inl rfl))) fun _=> .out (.inr (.inl rfl))
 ·simp only [Rn,zz,len2,nH,iP];refine .jump (Tot.of ?_);rw [aBX];simp only [amK,zz];exact .ite (fun _=> .out (.inr (.inr rfl))) fun _=> .out (.inr (.inr rfl))
 ·have hp:=aJS.2 h2;have ht:=BO h hp;have hl:=ht.few;have c1:(0:Int)<(d.l.length:Int):=by omega
  have c2:(d.l.length:Int)<1759218604441:=by omega
  simp only [Rn,zz,c1,c2];exact .jump ⟨_,PN d ht x hx d.l.length 0 (by omega),.inl rfl⟩
def axY (d x:D) (m:Nat):List Int:=[(d.hd 0).n,enc (d.hd 1),(d.hd 2).n,enc (d.hd 3),(d.hd 4).n,(x.hd 0).n,(x.hd 1).n,(if (x.hd 2).n=0 then 0 else 1),(x.hd 3).n,enc (x.hd 4),enc (x.hd 5),(m:Int)]
def Snd (d x:D) (m:Nat):Prop:=L 500 (axY d x m)=some [1]
theorem axX (d x:D) (m:Nat) (h:(x.hd 4).l.length<=140737488351232): ∃c,L 500 (axY d x m)=some [c]/\(c=0\/c=1):=by obtain⟨ys,h1,c,rfl,hc⟩:=Z7 (d.hd 0).n (enc (d.hd 1)) (d.hd 2).n (enc (d.hd 3)) (d.hd 4).n (x.hd 0).n (x.hd 1).n (if (x.hd 2).n=0 then 0 else 1) (x.hd 3).n (m:Int) (x.hd 4) (x.hd 5) h;exact⟨c,h1,hc⟩
theorem aC:((1:Int)=0)=False:=by simp
def Fp (s:D):Prop:= ∀x∈s.l,(x.hd 4).l.length<=140737488351232
section
variable {d0 d1 s:D} (hr:Fp s) (hle:s.l.length=d0.l.length) (hlen:d0.l.length<=140737488351232)
include hr hle hlen
theorem NK: ∀(j i:Nat),i+j=s.l.length->∃b:Int,L 351 [enc s,(s.l.length:Int),(i:Int),enc d0,enc d1]=some [b]/\(b=0\/b=1)/\
 (b=1↔∀(k:Nat) (hk:k<s.l.length),i<=k->Snd (d0.l[k]'(hle▸hk)) s.l[k] d1.l.length)
 |0,i,hi=>by
  have c1: ¬(i:Int)<(s.l.length:Int):=by omega
  refine⟨1,?_,.inr rfl,fun _ k hk h=>absurd hk (by omega),fun _=>rfl⟩;rw [aP,aAG];simp only [ZC,zz,c1,fin]
 |j+1,i,hi=>by
  have hil:i<s.l.length:=by omega
  have hid:i<d0.l.length:=by omega
  have c1:(i:Int)<(s.l.length:Int):=by omega
  have c2: ¬((i:Int)<0):=by omega
  have c3:(i:Int)<(d0.l.length:Int):=by omega
  have w:=aZ (n:=i) (by omega);obtain⟨c,hS,hc⟩:=axX d0.l[i] s.l[i] d1.l.length (hr _ (aIZ hil));obtain⟨b,hb1,hb2,ih⟩:=NK j (i+1) (by omega);have hS':=hS;unfold axY at hS;by_cases hc0:c=0
  ·subst hc0;refine⟨0,?_,.inl rfl,fun h=>absurd h (by omega),fun h=>?_⟩
   ·rw [aP,aAG];by_cases hn:((s.l[i]).hd 2).n=0
    ·rw [aIR hn] at hS;simp only [ZC,zz,c1,c2,c3,w,aX hil,aX hid,hn,hS,fin]
    ·rw [aIQ hn] at hS;simp only [ZC,zz,c1,c2,c3,w,aX hil,aX hid,hn,hS,fin]
   ·have:=h i hil (aIV i);unfold Snd at this;rw [hS'] at this;simp at this
  ·have hc1:c=1:=by omega
   subst hc1;refine⟨b,?_,hb2,fun h k hk hik=>?_,fun h=>ih.2 fun k hk hik=>h k hk (by omega)⟩
   ·rw [aP,aAG];by_cases hn:((s.l[i]).hd 2).n=0
    ·rw [aIR hn] at hS;simp only [ZC,zz,c1,c2,c3,w,aX hil,aX hid,hn,hS,fin,aC,hb1]
    ·rw [aIQ hn] at hS;simp only [ZC,zz,c1,c2,c3,w,aX hil,aX hid,hn,hS,fin,aC,hb1]
   ·by_cases hke:k=i
    ·subst hke;exact hS'
    ·exact ih.1 h k hk (by omega)
end
theorem nX {d0 d1 s:D} (h0:Wd (.sl 3) d0) (h1:Wd (.sl 4) d1) (hr:Fp s): ∃b:Int,L 350 [enc d0,enc d1,enc s]=some [b]/\(b=0\/b=1)/\
 (b=1↔L 450 [enc d0,enc d1]=some [0]/\∃hle:s.l.length=d0.l.length,∀(k:Nat) (hk:k<s.l.length),Snd (d0.l[k]'(hle▸hk)) s.l[k] d1.l.length):=by
 obtain⟨ys,hC,c,rfl,hc,hok⟩:=Em h0 h1;by_cases hc0:c=0
 ·subst hc0;by_cases hl:s.l.length=d0.l.length
  ·have hlen:=h0.len;obtain⟨b,hb1,hb2,hb3⟩:=NK (d1:=d1) hr hl hlen s.l.length 0 (by omega);refine⟨b,?_,hb2,fun h=> ⟨hC,hl,fun k hk=>hb3.1 h k hk (by omega)⟩,fun⟨_,_,h⟩=>hb3.2 fun k hk _=>h k hk⟩;have hl':(s.l.length:Int)=(d0.l.length:Int):=by omega
   rw [aP,aAH,anF,dP,aIR,dP,aIR,dP,aIR,pO]
   ·simp only [List.map,bU,iL,jD,aY,Nat.reduceLT,aQ,aT,aF,fin];exact hb1
   ·simp only [jB,oW,bU,iE,iY,iL,List.map,jD,aY,Nat.reduceLT,aQ,aT,aF];exact hl'
   ·simp only [jB,oW,bU,iE,iY,iL,List.map,jD,aY,Nat.reduceLT,aQ,aT,aF];rw [hC];simp only [aQ,aT,aJl,aIY,if_true]
   ·simp only [jB,oW,bU,iE,iY,iL,List.map,jD,aY,Nat.reduceLT,aQ,aT,aF];rw [hC];simp only [aQ,aT,aJl,aIY,if_true]
  ·refine⟨0,?_,.inl rfl,fun h=>absurd h (by omega),fun⟨_,h,_⟩=>absurd h hl⟩;have hl': ¬(s.l.length:Int)=(d0.l.length:Int):=by omega
   rw [aP,aAH,anF,dP,aIR,dP,aIR,dP,aIQ]
   ·simp only [kM,List.map,bU,fin]
   ·simp only [jB,oW,bU,iE,iY,iL,List.map,jD,aY,Nat.reduceLT,aQ,aT,aF];exact hl'
   ·simp only [jB,oW,bU,iE,iY,iL,List.map,jD,aY,Nat.reduceLT,aQ,aT,aF];rw [hC];simp only [aQ,aT,aJl,aIY,if_true]
   ·simp only [jB,oW,bU,iE,iY,iL,List.map,jD,aY,Nat.reduceLT,aQ,aT,aF];rw [hC];simp only [aQ,aT,aJl,aIY,if_true]
 ·refine⟨0,?_,.inl rfl,fun h=>absurd h (by omega),fun⟨h,_⟩=>?_⟩
  ·rw [aP,aAH,anF,dP,aIR,dP,aIQ]
   ·simp only [kM,List.map,bU,fin]
   ·simp only [jB,oW,bU,iE,iY,iL,List.map,jD,aY,Nat.reduceLT,aQ,aT,aF];rw [hC];simp only [aQ,aT,aJl,aIY,if_true];exact hc0
   ·simp only [jB,oW,bU,iE,iY,iL,List.map,jD,aY,Nat.reduceLT,aQ,aT,aF];rw [hC];simp only [aQ,aT,aJl,aIY,if_true]
  ·rw [hC] at h;simp at h;exact absurd h hc0
def OkT (d0:D) (nl nc:Nat) (a:Int) (ll:Nat) (w o g t:Int):Prop:=
 0<=a/\a<=(nc:Int)/\(ll:Int)=(nl:Int)/\0<=t/\t<=4611686018427387904/\
  (w=0/\o=0/\g=0\/w=24/\0<=o/\o<(d0.l.length:Int)/\((d0.at o).hd 0).n=4\/w=25/\0<=o/\o<(d0.l.length:Int)/\((d0.at o).hd 0).n=5)
def isB (p:Prop) (ys:List Int):Prop:= ∃b:Int,ys= [b]/\(b=0/\¬p\/b=1/\p)
theorem Bo {p:Prop} (h: ¬p):isB p [0]:=⟨0,rfl,.inl ⟨rfl,h⟩⟩
theorem X9 {p:Prop} (h:p):isB p [1]:=⟨1,rfl,.inr ⟨rfl,h⟩⟩
theorem axE (d0 d3 d4 d6:D) (x1 x2 x5 x7 x8 x9 x10:Int):Tot 1600 [enc d0,x1,x2,enc d3,enc d4,x5,enc d6,x7,x8,x9,x10] (isB (OkT d0 d3.l.length d4.l.length x5 d6.l.length x7 x8 x9 x10)):=by
 unfold OkT;refine Tot.of ?_;rw [aCx];simp only [anP,zz]
 repeat' first
  |exact .out (Bo (by omega))
  |exact .out (X9 (by omega))
  |refine .ite (fun _=>?_) (fun _=>?_)
def OkK (d0 x k:D):Prop:=OkT d0 (x.hd 1).l.length (x.hd 2).l.length (k.hd 0).n (k.hd 1).l.length (k.hd 2).n (k.hd 3).n (k.hd 4).n (k.hd 5).n
section
variable {d0 d1 k:D} (hle:k.l.length=d1.l.length) (hlen:d1.l.length<=140737488351232)
include hle hlen
theorem J5: ∀(j i:Nat),i+j=k.l.length->Tot 1501 [enc k,(k.l.length:Int),(i:Int),enc d0,enc d1] (isB (∀(n:Nat) (hn:n<k.l.length),i<=n->OkK d0 (d1.l[n]'(hle▸hn)) k.l[n]))
 |0,i,hi=>by
  have c1: ¬(i:Int)<(k.l.length:Int):=by omega
  refine Tot.of ?_;rw [atP];simp only [aeP,zz,c1];exact .out (X9 fun n hn h=>by omega)
 |j+1,i,hi=>by
  have hil:i<k.l.length:=by omega
  have hid:i<d1.l.length:=by omega
  have c1:(i:Int)<(k.l.length:Int):=by omega
  have c2: ¬((i:Int)<0):=by omega
  have c3:(i:Int)<(d1.l.length:Int):=by omega
  have w:=aZ (n:=i) (by omega);obtain⟨ys,hT,b,rfl,hb⟩:=axE d0 ((d1.l[i]).hd 1) ((d1.l[i]).hd 2) ((k.l[i]).hd 1) (enc d1) (enc ((d1.l[i]).hd 0)) ((k.l[i]).hd 0).n ((k.l[i]).hd 2).n ((k.l[i]).hd 3).n ((k.l[i]).hd 4).n ((k.l[i]).hd 5).n;obtain⟨ys,ih,b',rfl,hb'⟩:=J5 j (i+1) (by omega);refine Tot.of ?_;rw [atP];simp only [aeP,zz,c1,c2,c3,aX hil,aX hid,w,hT];refine .ite (fun h0=> .out (Bo fun h=>?_)) (fun h0=> .jump ⟨_,ih,b',rfl,?_⟩)
  ·rcases hb with ⟨_,hb⟩|⟨hb,_⟩
   ·exact hb (h i hil (aIV _))
   ·omega
  ·rcases hb with ⟨hb,_⟩|⟨_,hb⟩
   ·exact absurd hb h0
   ·rcases hb' with ⟨q,hb'⟩|⟨q,hb'⟩
    ·exact .inl ⟨q,fun h=>hb' fun n hn hni=>h n hn (by omega)⟩
    ·refine .inr ⟨q,fun n hn hni=>?_⟩;by_cases he:n=i
     ·subst he; exact hb
     ·exact hb' n hn (by omega)
end
def MR (d0 d1 s k:D):Prop:=L 350 [enc d0,enc d1,enc s]=some [1]/\∃hle:k.l.length=d1.l.length,∀(n:Nat) (hn:n<k.l.length),OkK d0 (d1.l[n]'(hle▸hn)) k.l[n]
theorem S9 {d0 d1 s k:D} (h0:Wd (.sl 3) d0) (h1:Wd (.sl 4) d1) (hr:Fp s) (hlen:d1.l.length<=140737488351232):Tot 1500 [enc d0,enc d1,enc s,enc k] (isB (MR d0 d1 s k)):=by
 obtain⟨b,hb,hb1,_⟩:=nX h0 h1 hr;refine Tot.of ?_;rw [aCz];simp only [anR,zz,hb];refine .ite (fun h=> .out (Bo fun q=>?_)) (fun h=> .ite (fun hl=>?_) (fun hl=> .out (Bo fun q=>?_)))
 ·have:=q.1;rw [hb] at this;simp at this;omega
 ·have hle:k.l.length=d1.l.length:=by omega
  obtain⟨ys,hL,b',rfl,hb'⟩:=J5 (d0:=d0) hle hlen k.l.length 0 (by omega);refine .jump ⟨_,hL,b',rfl,?_⟩;have hone:b=1:=by omega
  subst hone;rcases hb' with ⟨q,hb'⟩|⟨q,hb'⟩
  ·exact .inl ⟨q,fun h=>hb' fun n hn _=>h.2.2 n hn⟩
  ·exact .inr ⟨q,hb,hle,fun n hn=>hb' n hn (aJY _)⟩
 ·have:=q.2.1;omega
theorem NP {d0 d1 s k:D} (h0:Wd (.sl 3) d0) (h1:Wd (.sl 4) d1) (hr:Fp s) (hlen:d1.l.length<=140737488351232) (t:Int):Tot 1550 [enc d0,enc d1,enc s,enc k,t] (isB (0<=t/\t<(d1.l.length:Int)/\MR d0 d1 s k)):=by
 obtain⟨ys,hM,b,rfl,hb⟩:=S9 h0 h1 hr hlen (k:=k);refine Tot.of ?_;rw [aCy];simp only [anQ,zz,hM];refine .ite (fun h=> .out (Bo fun q=>by omega)) (fun h=> .ite (fun h2=> .ite (fun h3=> .out (Bo fun q=>?_)) (fun h3=> .out (X9 ?_))) (fun h2=> .out (Bo fun q=>by omega)))
 ·rcases hb with ⟨_,hb⟩|⟨hb,_⟩
  ·exact hb q.2.2
  ·omega
 ·rcases hb with ⟨hb,_⟩|⟨_,hb⟩
  ·exact absurd hb h3
  ·exact⟨by omega,h2,hb⟩
def firstAt (t:Int):List D->Nat->Int
 |[],_=> -1
 |x::l,i=>if x.n=t then (i:Int) else firstAt t l (i+1)
def place (r:D) (t:Int):Int:=firstAt t r.l 0
def wo (t:Int) (l:List D):List D:=l.filter fun x=>decide (x.n≠t)
theorem ET (t:Int): ∀(l:List D) (i:Nat),(firstAt t l i= -1/\∀x∈l,x.n≠t)\/∃(k:Nat) (h:k<l.length),firstAt t l i=((i+k:Nat):Int)/\(l[k]).n=t/\∀x∈l.take k,x.n≠t
 |[],_=> .inl ⟨rfl,fun x h=>absurd h (by simp)⟩
 |x::l,i=>by
  unfold firstAt;by_cases hx:x.n=t
  ·rw [aIR hx];exact .inr ⟨0,by simp,by simp,hx,by simp⟩
  ·rw [aIQ hx];rcases ET t l (i+1) with ⟨h1,h2⟩|⟨k,hk,h1,h2,h3⟩
   ·exact .inl ⟨h1,fun y hy=>by rcases aI3.1 hy with rfl|hy; exact hx; exact h2 y hy⟩
   ·refine .inr ⟨k+1,by simp; omega,by rw [h1]; congr 1; omega,by simpa using h2,fun y hy=>?_⟩;rw [aJW] at hy;rcases aI3.1 hy with rfl|hy
    ·exact hx
    ·exact h3 y hy
theorem tZ (r:D) (t:Int):(place r t= -1/\∀x∈r.l,x.n≠t)\/∃(k:Nat) (h:k<r.l.length),place r t=(k:Int)/\(r.l[k]).n=t/\∀x∈r.l.take k,x.n≠t:=by have:=ET t r.l 0;simp only [aI2] at this;exact this
theorem jC (r:D) (t:Int): -1<=place r t/\place r t<(r.l.length:Int):=by rcases tZ r t with ⟨h,_⟩|⟨k,hk,h,_⟩ <;>rw [h]<;>omega
theorem Lh {t:Int} {l:List D} (h: ∀x∈l,x.n≠t):wo t l=l:=List.filter_eq_self.2 fun x hx=>by simpa using h x hx
theorem AL {r:D} {t:Int} {i:Nat} (h:i<r.l.length):firstAt t (r.l.drop i) i=if (r.at (i:Int)).n=t then (i:Int) else firstAt t (r.l.drop (i+1)) (i+1):=by rw [aJq h,aX h];rfl
theorem aqM (r:D) (t:Int) (hl:r.l.length<=140737488351232): ∀(j i:Nat),i+j=r.l.length->L 851 [enc r,t,(r.l.length:Int),(i:Int)]=some [firstAt t (r.l.drop i) i]
 |0,i,hi=>by
  have c1: ¬(i:Int)<(r.l.length:Int):=by omega
  rw [aJJ (by omega),aP,aEV];simp only [amM,zz,c1,fin,firstAt]
 |j+1,i,hi=>by
  have c1:(i:Int)<(r.l.length:Int):=by omega
  have c2: ¬((i:Int)<0):=by omega
  have w:=aZ (n:=i) (by omega);have ih:=aqM r t hl j (i+1) (by omega);rw [AL (by omega),aP,aEV];by_cases he:(r.at (i:Int)).n=t
  ·simp only [amM,zz,c1,c2,he,fin]
  ·have he': ¬t=(r.at (i:Int)).n:=fun h=>he h.symm;simp only [amM,zz,c1,c2,aIQ he,aIQ he',w,fin,ih]
theorem dM (r:D) (t:Int) (hl:r.l.length<=140737488351232):L 850 [enc r,t]=some [place r t]:=by have h:=aqM r t hl r.l.length 0 (by omega);rw [aP,aG9];simp only [aC9,zz,fin];exact h
theorem has_is (r:D) (t:Int) (hl:r.l.length<=140737488351232):L 900 [enc r,t]=some [if place r t<0 then 0 else 1]:=by rw [aP,aG8];simp only [aC8,zz,dM r t hl];split<;>rfl
theorem G8 (r:D) (t:Int) (hl:r.l.length<=140737488351232) (y2 y3 y4 y5 y6 y7 y8 y9 rE rD rC:Int): ∀(j i:Nat),i+j=r.l.length->
 L 12051 [enc r,t,y2,y3,y4,y5,y6,y7,y8,y9,rE,rD,rC,(r.l.length:Int),(i:Int)]=some [0,enc r,t,y2,y3,y4,y5,y6,y7,y8,y9,rE,rD,rC,firstAt t (r.l.drop i) i]
 |0,i,hi=>by
  have c1: ¬(i:Int)<(r.l.length:Int):=by omega
  rw [aJJ (by omega),aP,acJ];simp only [Nk,zz,c1,fin,firstAt]
 |j+1,i,hi=>by
  have c1:(i:Int)<(r.l.length:Int):=by omega
  have c2: ¬((i:Int)<0):=by omega
  have w:=aZ (n:=i) (by omega);have ih:=G8 r t hl y2 y3 y4 y5 y6 y7 y8 y9 rE rD rC j (i+1) (by omega);rw [AL (by omega),aP,acJ];by_cases he:(r.at (i:Int)).n=t
  ·simp only [Nk,zz,c1,c2,he,fin]
  ·simp only [Nk,zz,c1,c2,aIQ he,w,fin,ih]
theorem azJ (r:D) (t:Int) (hl:r.l.length<=140737488351232) (y2 y3 y4 y5 y6 y7 y8 y9 rE rD rC:Int):L 12050 [enc r,t,y2,y3,y4,y5,y6,y7,y8,y9,rE,rD,rC]=some [0,enc r,t,y2,y3,y4,y5,y6,y7,y8,y9,rE,rD,rC,place r t]:=by have h:=G8 r t hl y2 y3 y4 y5 y6 y7 y8 y9 rE rD rC r.l.length 0 (by omega);rw [aP,auT];simp only [ZV,zz,fin];exact h
theorem G7 (r:D) (t:Int) (hl:r.l.length<=140737488351232) (y2 y3 y4 y5 y6 y7 y8 y9 rE rD rC:Int): ∀(j i:Nat),i+j=r.l.length->
 L 12151 [enc r,t,y2,y3,y4,y5,y6,y7,y8,y9,rE,rD,rC,(r.l.length:Int),(i:Int)]=some [0,enc r,t,y2,y3,y4,y5,y6,y7,y8,y9,rE,rD,rC,firstAt t (r.l.drop i) i]
 |0,i,hi=>by
  have c1: ¬(i:Int)<(r.l.length:Int):=by omega
  rw [aJJ (by omega),aP,acH];simp only [Nh,zz,c1,fin,firstAt]
 |j+1,i,hi=>by
  have c1:(i:Int)<(r.l.length:Int):=by omega
  have c2: ¬((i:Int)<0):=by omega
  have w:=aZ (n:=i) (by omega);have ih:=G7 r t hl y2 y3 y4 y5 y6 y7 y8 y9 rE rD rC j (i+1) (by omega);rw [AL (by omega),aP,acH];by_cases he:(r.at (i:Int)).n=t
  ·simp only [Nh,zz,c1,c2,he,fin]
  ·simp only [Nh,zz,c1,c2,aIQ he,w,fin,ih]
theorem azI (r:D) (t:Int) (hl:r.l.length<=140737488351232) (y2 y3 y4 y5 y6 y7 y8 y9 rE rD rC:Int):L 12150 [enc r,t,y2,y3,y4,y5,y6,y7,y8,y9,rE,rD,rC]=some [0,enc r,t,y2,y3,y4,y5,y6,y7,y8,y9,rE,rD,rC,place r t]:=by have h:=G7 r t hl y2 y3 y4 y5 y6 y7 y8 y9 rE rD rC r.l.length 0 (by omega);rw [aP,auS];simp only [ZU,zz,fin];exact h
theorem Dz {t:Int} {l:List D} {j:Nat} (h:j<l.length):wo t (l.take (j+1))=if (l[j]).n=t then wo t (l.take j) else wo t (l.take j)++ [l[j]]:=by
 unfold wo;rw [aLp h,List.filter_append];by_cases he:(l[j]).n=t
 ·simp [he]
 ·simp [he]
theorem alP (t:Int) (l:List D):(wo t l).length<=l.length:=List.length_filter_le _ _
theorem AZ (r0:D) (t:Int) (l0:List D) (hl:l0.length<=140737488351232) (hn: ∀x∈l0,x= .i x.n) (y2 y3 y4 y5 y6 y7 y8 y9 rE rD rC:Int): ∀(m i j:Nat) (r:D),r.l.length=l0.length->i<j->j+m=l0.length->r.l.drop j=l0.drop j->r.l.take i=wo t (l0.take j)->
 ∃(n:Nat) (r':D),n<l0.length/\r'.l.length=l0.length/\r'.l.take n=wo t l0/\L 12001 [enc r0,t,y2,y3,y4,y5,y6,y7,y8,y9,rE,rD,rC,enc r,(i:Int),(j:Int)]=some [1,enc r0,t,y2,y3,y4,y5,y6,y7,y8,y9,rE,rD,rC,(n:Int),enc r',(l0.length:Int)]
 |0,i,j,r,hr,h1,h2,h3,h4=>by
  have c1: ¬(j:Int)<(l0.length:Int):=by omega
  have c2: ¬((i:Int)<0):=by omega
  have c3: ¬((l0.length:Int)<(i:Int)):=by omega
  have c4: ¬((l0.length:Int)-(i:Int)<0):=by omega
  have c5:(i:Int)+((l0.length:Int)-(i:Int))=(l0.length:Int):=by omega
  refine⟨i,dL (r.l.take i++List.replicate (r.l.length-i) (.i 0)),by omega,by rw [aW]; simp only [aJa,aJc,aJ4]; omega,?_,?_⟩
  ·rw [aW,aKl (by rw [aJc]; omega),aKy,aLq,h4,aJI (by omega)]
  ·rw [aP,Wy];simp only [Nl,zz,c1,c2,c3,c4,c5,aJm,fin,hr]
 |m+1,i,j,r,hr,h1,h2,h3,h4=>by
  have c1:(j:Int)<(l0.length:Int):=by omega
  have c2: ¬((j:Int)<0):=by omega
  have w:=aZ (n:=j) (by omega);have hj:j<r.l.length:=by omega
  have hj0:j<l0.length:=by omega
  have hx:r.at (j:Int)=l0[j]:=by rw [aX hj];rw [aJq hj,aJq hj0] at h3;exact (List.cons.inj h3).1
  have h3':r.l.drop (j+1)=l0.drop (j+1):=by rw [aJq hj,aJq hj0] at h3;exact (List.cons.inj h3).2
  by_cases he:(r.at (j:Int)).n=t
  ·obtain⟨n,r',q1,q2,q3,ih⟩:=AZ r0 t l0 hl hn y2 y3 y4 y5 y6 y7 y8 y9 rE rD rC m i (j+1) r hr (by omega) (by omega) h3' (by rw [Dz hj0,<- hx,aIR he,h4]);refine⟨n,r',q1,q2,q3,?_⟩;rw [aP,Wy];simp only [Nl,zz,c1,c2,he,w,hr,fin,ih]
  ·have c3: ¬((i:Int)<0):=by omega
   have c4:(i:Int)<(l0.length:Int):=by omega
   have w2:=aZ (n:=i) (by omega);have hs:dZ r.l (i:Int) (.i (r.at (j:Int)).n)=r.l.set i l0[j]:=by rw [yK,hx,<- hn _ (aIZ hj0)]
   obtain⟨n,r',q1,q2,q3,ih⟩:=AZ r0 t l0 hl hn y2 y3 y4 y5 y6 y7 y8 y9 rE rD rC m (i+1) (j+1) (dL (dZ r.l (i:Int) (.i (r.at (j:Int)).n))) (by rw [aW,dQ,hr]) (by omega) (by omega)
    (by rw [aW,hs,aLg (by omega),h3'])
    (by rw [aW,hs,aLp (by rw [aKp]; omega),aLf (aIV _),aLD,h4,Dz hj0,<- hx,aIQ he])
   refine⟨n,r',q1,q2,q3,?_⟩;rw [aP,Wy];simp only [Nl,zz,c1,c2,c3,c4,aIQ he,w,w2,hr,fin,ih]
theorem aAT (r:D) (t:Int) (hl:r.l.length<=140737488351232) (hn: ∀x∈r.l,x= .i x.n):(wo t r.l=r.l/\∀y2 y3 y4 y5 y6 y7 y8 y9 rE rD rC:Int,L 12000 [enc r,t,y2,y3,y4,y5,y6,y7,y8,y9,rE,rD,rC]=some [0,enc r,t,y2,y3,y4,y5,y6,y7,y8,y9,rE,rD,rC])\/
 ∀y2 y3 y4 y5 y6 y7 y8 y9 rE rD rC:Int,∃(n:Nat) (r':D),n<r.l.length/\r'.l.length=r.l.length/\r'.l.take n=wo t r.l/\L 12000 [enc r,t,y2,y3,y4,y5,y6,y7,y8,y9,rE,rD,rC]=some [1,enc r,t,y2,y3,y4,y5,y6,y7,y8,y9,rE,rD,rC,(n:Int),enc r',(r.l.length:Int)]:=by
 have h:=azJ r t hl;rcases tZ r t with ⟨hp,hno⟩|⟨i,hi,hp,hat,hno⟩
 ·refine .inl ⟨Lh hno,fun y2 y3 y4 y5 y6 y7 y8 y9 rE rD rC=>?_⟩;have h':=h y2 y3 y4 y5 y6 y7 y8 y9 rE rD rC;clear h;rw [hp] at h';rw [aP,acK,U5,dP,aIR,dP,aIR,dP,aIR]
  ·simp only [kM,List.map,bU,aY,aQ,aT,Nat.reduceLT,fin]
  ·simp only [Qm3,jB,bU,iE,iY,List.map,aY,Nat.reduceLT,aQ,aT];rw [h'];simp only [aQ,aT,aJl,aIY,if_true]
  ·simp only [jB,bU,iE,iY,List.map,aY,Nat.reduceLT,aQ,aT];rw [h'];simp only [aQ,aT,aJl,aIY,if_true]
  ·simp only [jB,bU,iE,iY,List.map,aY,Nat.reduceLT,aQ,aT];rw [h'];simp only [aQ,aT,aJl,aIY,if_true]
 ·refine .inr fun y2 y3 y4 y5 y6 y7 y8 y9 rE rD rC=>?_;have h':=h y2 y3 y4 y5 y6 y7 y8 y9 rE rD rC;clear h;rw [hp] at h';have w:=aZ (n:=i) (by omega);have h0:r.l.take i=wo t (r.l.take (i+1)):=by rw [Dz hi,aIR hat,Lh hno]
  obtain⟨n,r',q1,q2,q3,ih⟩:=AZ r t r.l hl hn y2 y3 y4 y5 y6 y7 y8 y9 rE rD rC (r.l.length-(i+1)) i (i+1) r rfl (by omega) (by omega) rfl h0;refine⟨n,r',q1,q2,q3,?_⟩;rw [aP,acK,U5,dP,aIR,dP,aIR,dP,aIQ]
  ·simp only [pO,List.map,Qm3,bU,iE,Dh,den_add,aY,aQ,aT,Nat.reduceLT];rw [h'];simp only [aQ,aT,aIY,w,fin];rw [ih]
  ·simp only [Qm3,jB,bU,iE,iY,List.map,aY,Nat.reduceLT,aQ,aT];rw [h'];simp only [aQ,aT,aJl,aIY,if_true];omega
  ·simp only [jB,bU,iE,iY,List.map,aY,Nat.reduceLT,aQ,aT];rw [h'];simp only [aQ,aT,aJl,aIY,if_true]
  ·simp only [jB,bU,iE,iY,List.map,aY,Nat.reduceLT,aQ,aT];rw [h'];simp only [aQ,aT,aJl,aIY,if_true]
theorem AY (r0:D) (t:Int) (l0:List D) (hl:l0.length<=140737488351232) (hn: ∀x∈l0,x= .i x.n) (y2 y3 y4 y5 y6 y7 y8 y9 rE rD rC:Int): ∀(m i j:Nat) (r:D),r.l.length=l0.length->i<j->j+m=l0.length->r.l.drop j=l0.drop j->r.l.take i=wo t (l0.take j)->
 ∃(n:Nat) (r':D),n<l0.length/\r'.l.length=l0.length/\r'.l.take n=wo t l0/\L 12101 [enc r0,t,y2,y3,y4,y5,y6,y7,y8,y9,rE,rD,rC,enc r,(i:Int),(j:Int)]=some [1,enc r0,t,y2,y3,y4,y5,y6,y7,y8,y9,rE,rD,rC,(n:Int),enc r',(l0.length:Int)]
 |0,i,j,r,hr,h1,h2,h3,h4=>by
  have c1: ¬(j:Int)<(l0.length:Int):=by omega
  have c2: ¬((i:Int)<0):=by omega
  have c3: ¬((l0.length:Int)<(i:Int)):=by omega
  have c4: ¬((l0.length:Int)-(i:Int)<0):=by omega
  have c5:(i:Int)+((l0.length:Int)-(i:Int))=(l0.length:Int):=by omega
  refine⟨i,dL (r.l.take i++List.replicate (r.l.length-i) (.i 0)),by omega,by rw [aW]; simp only [aJa,aJc,aJ4]; omega,?_,?_⟩
  ·rw [aW,aKl (by rw [aJc]; omega),aKy,aLq,h4,aJI (by omega)]
  ·rw [aP,Wx];simp only [Nj,zz,c1,c2,c3,c4,c5,aJm,fin,hr]
 |m+1,i,j,r,hr,h1,h2,h3,h4=>by
  have c1:(j:Int)<(l0.length:Int):=by omega
  have c2: ¬((j:Int)<0):=by omega
  have w:=aZ (n:=j) (by omega);have hj:j<r.l.length:=by omega
  have hj0:j<l0.length:=by omega
  have hx:r.at (j:Int)=l0[j]:=by rw [aX hj];rw [aJq hj,aJq hj0] at h3;exact (List.cons.inj h3).1
  have h3':r.l.drop (j+1)=l0.drop (j+1):=by rw [aJq hj,aJq hj0] at h3;exact (List.cons.inj h3).2
  by_cases he:(r.at (j:Int)).n=t
  ·obtain⟨n,r',q1,q2,q3,ih⟩:=AY r0 t l0 hl hn y2 y3 y4 y5 y6 y7 y8 y9 rE rD rC m i (j+1) r hr (by omega) (by omega) h3' (by rw [Dz hj0,<- hx,aIR he,h4]);refine⟨n,r',q1,q2,q3,?_⟩;rw [aP,Wx];simp only [Nj,zz,c1,c2,he,w,hr,fin,ih]
  ·have c3: ¬((i:Int)<0):=by omega
   have c4:(i:Int)<(l0.length:Int):=by omega
   have w2:=aZ (n:=i) (by omega);have hs:dZ r.l (i:Int) (.i (r.at (j:Int)).n)=r.l.set i l0[j]:=by rw [yK,hx,<- hn _ (aIZ hj0)]
   obtain⟨n,r',q1,q2,q3,ih⟩:=AY r0 t l0 hl hn y2 y3 y4 y5 y6 y7 y8 y9 rE rD rC m (i+1) (j+1) (dL (dZ r.l (i:Int) (.i (r.at (j:Int)).n))) (by rw [aW,dQ,hr]) (by omega) (by omega)
    (by rw [aW,hs,aLg (by omega),h3'])
    (by rw [aW,hs,aLp (by rw [aKp]; omega),aLf (aIV _),aLD,h4,Dz hj0,<- hx,aIQ he])
   refine⟨n,r',q1,q2,q3,?_⟩;rw [aP,Wx];simp only [Nj,zz,c1,c2,c3,c4,aIQ he,w,w2,hr,fin,ih]
theorem aAS (r:D) (t:Int) (hl:r.l.length<=140737488351232) (hn: ∀x∈r.l,x= .i x.n):(wo t r.l=r.l/\∀y2 y3 y4 y5 y6 y7 y8 y9 rE rD rC:Int,L 12100 [enc r,t,y2,y3,y4,y5,y6,y7,y8,y9,rE,rD,rC]=some [0,enc r,t,y2,y3,y4,y5,y6,y7,y8,y9,rE,rD,rC])\/
 ∀y2 y3 y4 y5 y6 y7 y8 y9 rE rD rC:Int,∃(n:Nat) (r':D),n<r.l.length/\r'.l.length=r.l.length/\r'.l.take n=wo t r.l/\L 12100 [enc r,t,y2,y3,y4,y5,y6,y7,y8,y9,rE,rD,rC]=some [1,enc r,t,y2,y3,y4,y5,y6,y7,y8,y9,rE,rD,rC,(n:Int),enc r',(r.l.length:Int)]:=by
 have h:=azI r t hl;rcases tZ r t with ⟨hp,hno⟩|⟨i,hi,hp,hat,hno⟩
 ·refine .inl ⟨Lh hno,fun y2 y3 y4 y5 y6 y7 y8 y9 rE rD rC=>?_⟩;have h':=h y2 y3 y4 y5 y6 y7 y8 y9 rE rD rC;clear h;rw [hp] at h';rw [aP,acI,U4,dP,aIR,dP,aIR,dP,aIR]
  ·simp only [kM,List.map,bU,aY,aQ,aT,Nat.reduceLT,fin]
  ·simp only [Qnf,jB,bU,iE,iY,List.map,aY,Nat.reduceLT,aQ,aT];rw [h'];simp only [aQ,aT,aJl,aIY,if_true]
  ·simp only [jB,bU,iE,iY,List.map,aY,Nat.reduceLT,aQ,aT];rw [h'];simp only [aQ,aT,aJl,aIY,if_true]
  ·simp only [jB,bU,iE,iY,List.map,aY,Nat.reduceLT,aQ,aT];rw [h'];simp only [aQ,aT,aJl,aIY,if_true]
 ·refine .inr fun y2 y3 y4 y5 y6 y7 y8 y9 rE rD rC=>?_;have h':=h y2 y3 y4 y5 y6 y7 y8 y9 rE rD rC;clear h;rw [hp] at h';have w:=aZ (n:=i) (by omega);have h0:r.l.take i=wo t (r.l.take (i+1)):=by rw [Dz hi,aIR hat,Lh hno]
  obtain⟨n,r',q1,q2,q3,ih⟩:=AY r t r.l hl hn y2 y3 y4 y5 y6 y7 y8 y9 rE rD rC (r.l.length-(i+1)) i (i+1) r rfl (by omega) (by omega) rfl h0;refine⟨n,r',q1,q2,q3,?_⟩;rw [aP,acI,U4,dP,aIR,dP,aIR,dP,aIQ]
  ·simp only [pO,List.map,Qnf,bU,iE,Dh,den_add,aY,aQ,aT,Nat.reduceLT];rw [h'];simp only [aQ,aT,aIY,w,fin];rw [ih]
  ·simp only [Qnf,jB,bU,iE,iY,List.map,aY,Nat.reduceLT,aQ,aT];rw [h'];simp only [aQ,aT,aJl,aIY,if_true];omega
  ·simp only [jB,bU,iE,iY,List.map,aY,Nat.reduceLT,aQ,aT];rw [h'];simp only [aQ,aT,aJl,aIY,if_true]
  ·simp only [jB,bU,iE,iY,List.map,aY,Nat.reduceLT,aQ,aT];rw [h'];simp only [aQ,aT,aJl,aIY,if_true]
theorem aAR (r:D) (t:Int): ∀y2 y3 y4 y5 y6 y7 y8 y9 rE rD rC:Int,L 12200 [enc r,t,y2,y3,y4,y5,y6,y7,y8,y9,rE,rD,rC]=some [0,enc r,t,y2,y3,y4,y5,y6,y7,y8,y9,rE,rD,rC]:=by
 intro y2 y3 y4 y5 y6 y7 y8 y9 rE rD rC
 have h:L 12250 [enc r,t,y2,y3,y4,y5,y6,y7,y8,y9,rE,rD,rC]=some [0,enc r,t,y2,y3,y4,y5,y6,y7,y8,y9,rE,rD,rC]:=by rw [aP,auQ];simp only [ZR,zz,fin];rw [aP,auP];simp only [ZQ,zz,fin]
 have h':=h;clear h;rw [aP,auR,ZT,dP,aIR,dP,aIR]
 ·simp only [kM,List.map,bU,aY,aQ,aT,Nat.reduceLT,fin]
 ·simp only [jB,bU,iE,iY,List.map,aY,Nat.reduceLT,aQ,aT];rw [h'];simp only [aQ,aT,aJl,aIY,if_true]
 ·simp only [jB,bU,iE,iY,List.map,aY,Nat.reduceLT,aQ,aT];rw [h'];simp only [aQ,aT,aJl,aIY,if_true]
theorem aAQ (r:D) (t:Int): ∀y2 y3 y4 y5 y6 y7 y8 y9 rE rD rC:Int,L 12300 [enc r,t,y2,y3,y4,y5,y6,y7,y8,y9,rE,rD,rC]=some [0,enc r,t,y2,y3,y4,y5,y6,y7,y8,y9,rE,rD,rC]:=by
 intro y2 y3 y4 y5 y6 y7 y8 y9 rE rD rC
 have h:L 12350 [enc r,t,y2,y3,y4,y5,y6,y7,y8,y9,rE,rD,rC]=some [0,enc r,t,y2,y3,y4,y5,y6,y7,y8,y9,rE,rD,rC]:=by rw [aP,auN];simp only [ZO,zz,fin];rw [aP,auM];simp only [ZN,zz,fin]
 have h':=h;clear h;rw [aP,auO,ZP,dP,aIR,dP,aIR]
 ·simp only [kM,List.map,bU,aY,aQ,aT,Nat.reduceLT,fin]
 ·simp only [jB,bU,iE,iY,List.map,aY,Nat.reduceLT,aQ,aT];rw [h'];simp only [aQ,aT,aJl,aIY,if_true]
 ·simp only [jB,bU,iE,iY,List.map,aY,Nat.reduceLT,aQ,aT];rw [h'];simp only [aQ,aT,aJl,aIY,if_true]
abbrev Mx (d0:D) (obj:Int):Int:=((d0.at obj).hd 2).n
abbrev Mo (d0 s:D) (obj:Int):Int:=((s.at ((d0.at obj).hd 2).n).hd 0).n
inductive Act where
 |blk
 |mis
 |res (o c dn g:Int) (r v:D) (m:Option Int) (a oc:Int)
def act (M mo th op arg tries o c dn g:Int) (r v:D):Act:=
 if op=1 then (if o=th then .mis else if place r th<0 then (if o<0 then .res th c dn g r v none 0 2 else .blk) else .mis)
 else if op=2 then (if o=th then .res (-1) c dn g r v none 0 2 else .mis)
 else if op=8 then (if o=th then .res (-1) c dn g r v none 0 2 else .mis)
 else if op=3 then (if o<0 then .res th c dn g r v none 1 2 else .res o c dn g r v none 0 2)
 else if op=4 then (if o<0 then .res th c dn g r v none 1 2 else if tries<arg then .blk else .res o c dn g r v none 0 2)
 else if op=5 then (if o=th then .mis else if place r th<0 then (if o<0 then .res o c dn g (dL (r.l++ [.i th])) v none 0 2 else .blk) else .mis)
 else if op=6 then (if place r th<0 then .mis else .res o c dn g (fC (.i 2) (r.l.take (place r th).toNat++r.l.drop ((place r th).toNat+1))) v none 0 2)
 else if op=7 then (if o=th then .mis else if place r th<0 then (if (r.l.length:Int)=0 then (if o<0 then .res th c dn g r v none 0 2 else .blk) else .blk) else .mis)
 else if op=9 then (if 0<c then .res o (IntKind.i64.wrap (c-1)) dn g r v none 0 2 else .blk)
 else if op=11 then (if 0<c then .res o (IntKind.i64.wrap (c-1)) dn g r v none 1 2 else .res o c dn g r v none 0 2)
 else if op=10 then (if c<M then .res o (IntKind.i64.wrap (c+1)) dn g r v none 0 2 else .mis)
 else if op=17 then (if arg<IntKind.i64.wrap (0-c) then .mis else if IntKind.i64.wrap (1099511627776-c)<arg then .mis else .res o (IntKind.i64.wrap (c+arg)) dn g r v none (IntKind.i64.wrap (c+arg)) 2)
 else if op=18 then (if 0<c then .res o (IntKind.i64.wrap (c-1)) dn g r v none (IntKind.i64.wrap (c-1)) 2 else .mis)
 else if op=19 then (if c=0 then .res o c dn g r v none 0 2 else .blk)
 else if op=22 then .res o c dn g r v none c 2
 else if op=23 then .res o arg dn g r v none arg 2
 else if op=20 then (if (v.l.length:Int)<M then .res o c dn g r (dL (v.l++ [.i arg])) none arg 2 else .blk)
 else if op=21 then (if (v.l.length:Int)=0 then .blk else .res o c dn g r (fC v (v.l.drop 1)) none (v.at 0).n 2)
 else if op=12 then (if mo=th then .res o c dn g (dL (wo th r.l++ [.i th])) v (some (-1)) 0 3 else .mis)
 else if op=13 then (if (r.l.length:Int)=0 then .res o c dn g r v none 0 2 else .res o c dn g (fC r (r.l.drop 1)) v none (IntKind.i64.wrap ((r.at 0).n+1)) 2)
 else if op=14 then .res o c dn g (.i 1) v none (r.l.length:Int) 2
 else if op=24 then (if place r th<0 then (if mo<0 then .res o c dn g r v (some th) 0 2 else .blk) else .blk)
 else if op=15 then (if g<4611686018427387904 then (if IntKind.i64.wrap (c+1)=M then .res o 0 dn (IntKind.i64.wrap (g+1)) r v none g 3 else .res o (IntKind.i64.wrap (c+1)) dn g r v none g 3) else .mis)
 else if op=25 then (if arg<g then .res o c dn g r v none arg 2 else .blk)
 else if op=16 then (if dn=0 then (if o=th then .mis else if o<0 then .res th c dn g r v none 1 2 else .blk) else .res o c dn g r v none 0 2)
 else (if o=th then .res (-1) c 1 g r v none 0 2 else .mis)
def Cm (s:D) (obj M:Int):Act->D
 | .res o c dn g r v m _ _=>dL (dZ (match m with |none=>s.l|some q=>dZ s.l M (dL (dZ (s.at M).l 0 (.i q)))) obj (dL [.i o,.i c,.i (if dn=0 then 0 else 1),.i g,r,v]))
 |_=>s
def outA (s:D) (th op obj M:Int):Act->List Int
 | .blk=>[enc s,0,0,0,0,0,0]
 | .mis=>[enc s,th,27,obj,IntKind.i64.wrap op,0,2]
 | .res o c dn g r v m a oc=>[enc (Cm s obj M (.res o c dn g r v m a oc)),th,op,obj,a,0,oc]
structure TH (d0 d1 s:D) (th op obj arg tries o c dn g:Int) (r v:D):Prop where
 hcp:L 9000 [obj,enc s]=some [qC r v,obj,enc s,o,c,dn,g,enc r,enc v]
 jM:L 550 [enc s]=some [enc s]
 hR:L 350 [enc d0,enc d1,enc s]=some [1]
 Hl:0<=th
 Hg:th<(d1.l.length:Int)
 Aw:0<=obj
 Au:obj<(s.l.length:Int)
 hlen:s.l.length=d0.l.length
 hk:L 600 [op]=some [((d0.at obj).hd 0).n]
 hr:(r.l.length:Int)<17592186044415
 hv:(v.l.length:Int)<17592186044415
 hn: ∀x∈r.l,x= .i x.n
 hM:op=12\/op=24->0<=((d0.at obj).hd 2).n/\((d0.at obj).hd 2).n<(s.l.length:Int)/\((d0.at obj).hd 2).n≠obj
theorem TH.hb {d0 d1 s:D} {th op obj arg tries o c dn g:Int} {r v:D} (H:TH d0 d1 s th op obj arg tries o c dn g r v):r.l.length<=140737488351232:=by have:=H.hr; omega
noncomputable abbrev dI (d0 d1 s:D) (th op obj arg tries:Int):Nat->Int:=bT L (low [enc d0,enc d1,enc s,th,op,obj,arg,tries])
abbrev bH (k:Nat):SE:=rr 9000 [.aO 5,.aO 2] k
abbrev mtx:SE:=nm (ce 2 (el (.aO 0) (.aO 5)))
abbrev kK:SE:=rr 850 [bH 7,.aO 3] 0
abbrev aiK (q:SE):SE:=.op .set (bH 2) (cn (mk mtx) (.op .set (el (bH 2) mtx) (cn (.dat (.i 0)) q)))
abbrev yE:List SE:=[bH 7,.aO 3,.aO 5,mtx,aiK (.dat (.i (-1))),.aO 4,.aO 6,.aO 7,bH 3,bH 4,bH 5,bH 6,bH 8]
abbrev thg (o c d g r v:SE):SE:=cn (mk (.aO 5)) (cn o (cn c (cn d (cn g (cn r (cn v (.dat (.i 0))))))))
abbrev xU:T Lf:=ou [rr 550 [.aO 2] 0,.aO 3,.lit 27,.aO 5,wr (.aO 4),.lit 0,.lit 2]
abbrev EC:T Lf:=ou [rr 550 [.aO 2] 0,.lit 0,.lit 0,.lit 0,.lit 0,.lit 0,.lit 0]
abbrev mZ (z o c d g r v a:SE) (oc:Int):T Lf:=ou [.op .set z (thg o c d g r v),.aO 3,.aO 4,.aO 5,a,.lit 0,.lit oc]
theorem DU {r:D} (h:r.l= []) (t:Int):place r t= -1:=by unfold place; rw [h]; rfl
theorem aC3 {r:D} (h:r.l= []) (t:Int):wo t r.l= []:=by rw [h]; rfl
theorem alt3 {r v:D} (h:0<r.l.length) (h':0<v.l.length):qC r v=3:=by simp [qC,h,h']
theorem aIq {r v:D} (h:0<r.l.length) (h':v.l= []):qC r v=4:=by simp [qC,h,h']
theorem aIp {r v:D} (h:r.l= []) (h':0<v.l.length):qC r v=5:=by simp [qC,h,h']
theorem aIo {r v:D} (h:r.l= []) (h':v.l= []):qC r v=6:=by simp [qC,h,h']
abbrev Gl (d0 s:D) (th op obj arg tries o c dn g:Int) (r v:D):RS:=.out (outA s th op obj (Mx d0 obj) (act (Mx d0 obj) (Mo d0 s obj) th op arg tries o c dn g r v))
theorem dH (s:D) (th op obj M:Int):outA s th op obj M .blk= [enc s,0,0,0,0,0,0]:=rfl
theorem dG (s:D) (th op obj M:Int):outA s th op obj M .mis= [enc s,th,27,obj,IntKind.i64.wrap op,0,2]:=rfl
theorem bW (s:D) (th op obj M o c dn g:Int) (r v:D) (a oc:Int):outA s th op obj M (.res o c dn g r v none a oc)= [enc (dL (dZ s.l obj (dL [.i o,.i c,.i (if dn=0 then 0 else 1),.i g,r,v]))),th,op,obj,a,0,oc]:=rfl
theorem bV (s:D) (th op obj M o c dn g:Int) (r v:D) (q a oc:Int):outA s th op obj M (.res o c dn g r v (some q) a oc)= [enc (dL (dZ (dZ s.l M (dL (dZ (s.at M).l 0 (.i q)))) obj (dL [.i o,.i c,.i (if dn=0 then 0 else 1),.i g,r,v]))),th,op,obj,a,0,oc]:=rfl
section
variable {s:D} {th op obj M:Int}
theorem fJ {c:Prop} [Decidable c] {a b:Act}:RS.out (outA s th op obj M (if c then a else b))=if c then RS.out (outA s th op obj M a) else RS.out (outA s th op obj M b):=by split<;>rfl
end
theorem BI {p:Prop} [Decidable p]:((if p then (0:Int) else 1)=0)=p:=by by_cases h:p<;>simp [h]
theorem lQ (l:List D):l= []\/0<l.length:=by cases l<;>simp
theorem z2 {ρ:Nat->Int} {a b c d:List SB} (h:zY ρ a/\zW ρ b) (h':zY ρ c/\zW ρ d):zY ρ (a++c)/\zW ρ (b++d):=⟨alI h.1 h'.1,alL h.2 h'.2⟩
end Go.As.Try
end

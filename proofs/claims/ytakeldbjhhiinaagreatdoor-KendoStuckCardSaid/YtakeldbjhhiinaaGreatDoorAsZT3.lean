import Derived.Test.YtakeldbjhhiinaaGreatDoorCards
import Derived.Test.YtakeldbjhhiinaaGreatDoorTie
import Derived.ProofKit
import Derived.Deep.DeepHandedRow
import Derived.LaidLaws
import Derived.Test.YtakeldbjhhiinaaGreatDoorAsZT2
set_option linter.unusedSectionVars false
set_option linter.unusedVariables false
set_option linter.unusedSimpArgs false
section
namespace Go.As
noncomputable section
open Go.RowKit
mutual
def kS (h:Hp):AV->AV->Bool
 | .bool (.lit a),v=>match v with
   | .bool (.lit b)=>a == b
   |_=>false
 | .int k (.lit a),v=>match v with
   | .int k' (.lit b)=>decide (k=k')&&decide (a=b)
   |_=>false
 | .str s,v=>match v with
   | .str t=>jW s t
   |_=>false
 | .aA,v=>match v with
   | .aA=>true
   |_=>false
 | .agg ks,v=>match v with
   | .agg cs=>Nat.beq ks.length cs.length&&Ap h ks cs
   |_=>false
 | .ro ks n false,v=>match v with
   | .slice id off len _=>match Nat.beq n len with
     |true=>match n with
      |0=>false
      |_=>match h.get id with
       |some (.cells cs _)=>match fV off cs with
        |some l=>Ap h ks l
        |none=>false
       |_=>false
     |false=>false
   | .ro cs m _=>Nat.beq n m&&Ap h ks cs
   |_=>false
 |_,_=>false
def Ap (h:Hp):List AV->List AV->Bool
 |[],_=>true
 |k::ks,l=>match l with
  |v::vs=>match kS h k v with
   |true=>Ap h ks vs
   |false=>false
  |[]=>false
end
def TQ (h:Hp) (aJc:List AV):List (List AV×AV)->Option AV
 |[]=>none
 |(k,v)::l=>match Nat.beq k.length aJc.length with
  |true=>match Ap h k aJc with
   |true=>some v
   |false=>TQ h aJc l
  |false=>TQ h aJc l
def agJ (tbl:List (List AV×AV)):List AV->St->T (AV×St):=fun aJc s=>match TQ s.h aJc tbl with
 |some v=> .ret (v,s)
 |none=> .fail
def Wi (key:List AV) (v:AV) (f:List AV->St->T (AV×St)):Bool:=
 kN v&&(match f key ⟨.nil,Hp.zero,[]⟩ with | .ret (u,_)=>fC u v|_=>false)
section
variable {P:Program}
mutual
theorem akL [Glob] {E:En} {H:Hp} {w:World} (r:bJ E H w) (ρ:Nat->Int): ∀(key v:AV) (u:Value),kS H key v=true->VR E w.heap v u->VR (En.zero ρ (fun b=>b<w.heap.size)) w.heap key u
 | .bool b,v,u,hm,hv=>by
   cases b<;>simp only [kS,aJw] at hm;split at hm
   ·simp only [beq_iff_eq] at hm;subst hm;simpa [VR,SB.den] using hv
   ·simp at hm
 | .int k e,v,u,hm,hv=>by
   cases e<;>simp only [kS,aJw] at hm;split at hm
   ·simp only [aJh,decide_eq_true_eq] at hm;obtain⟨rfl,rfl⟩:=hm;simpa [VR,SE.den] using hv
   ·simp at hm
 | .str s,v,u,hm,hv=>by
   simp only [kS] at hm;split at hm
   ·have:=(qL _ _).1 hm;subst this;simpa only [VR] using hv
   ·simp at hm
 | .aA,v,u,hm,hv=>by
   simp only [kS] at hm;split at hm
   ·simpa only [VR] using hv
   ·simp at hm
 | .agg ks,v,u,hm,hv=>by
   simp only [kS] at hm;split at hm
   ·rename_i cs;simp only [aJh] at hm;simp only [VR] at hv ⊢;obtain⟨us,rfl,h2⟩:=hv;obtain⟨h3,h4⟩:=zC r ρ ks cs us hm.2 h2;have e:=aJj hm.1;rw [e,<- h2.length,aKV] at h3;exact⟨us,rfl,h3⟩
   ·simp at hm
 | .ro ks n true,v,u,hm,hv=>by simp [kS] at hm
 | .ro ks n false,v,u,hm,hv=>by
   simp only [kS] at hm;split at hm
   ·rename_i id off len c;split at hm
    ·rename_i hn;have hn:=aJj hn;subst hn;split at hm
     ·simp at hm
     ·rename_i hn0;split at hm
      ·rename_i cs e hg;split at hm
       ·rename_i l hl;simp only [VR] at hv ⊢;obtain⟨hd,a,cap,rfl,hle,hcap⟩:=hv;obtain⟨_,ho,_⟩:=r.live id _ hg;simp only [OR] at ho;obtain⟨arr,lo,hi,us,hb,h2,h3,_,_,_,h7⟩:=ho;obtain⟨q1,q2,q3⟩:=h2.fV hl;obtain⟨p1,p2⟩:=zC r ρ ks l _ hm q1
        have ha:a=⟨(E.θ id).1,(E.θ id).2+off,none⟩:=by
         cases c with
         |exact c=>
          simp only [gJ] at hcap;rcases hcap.2 with h|h
          ·exact h
          ·exact absurd (by omega) hn0
         |rest es=>
          simp only [gJ] at hcap;rcases hcap with h|h
          ·exact h.1
          ·exact absurd (by omega) hn0
        subst ha;have hlt:(E.θ id).1<w.heap.size:=(aJK.1 hb).1;refine⟨_,_,cap,_,rfl,hle,by simp,hlt,p1,?_,?_⟩
        ·intro i x hx
         have hx':us[off+i]?=some x:=by
          rw [aKk] at hx;split at hx
          ·rw [aKv] at hx; exact hx
          ·simp at hx
         have:=h3 _ _ hx';unfold hcell;rw [hb];simp only;rw [<- this];congr 1;omega
        ·intro x hx;exact h7 x (aJT (aJX hx))
       ·simp at hm
      ·simp at hm
    ·simp at hm
   ·rename_i cs m f;simp only [aJh] at hm;have hn:=aJj hm.1;subst hn;simp only [VR] at hv ⊢;obtain⟨b,o,cap,us,rfl,h2,h3,h4,h5,h6,h7⟩:=hv;obtain⟨p1,p2⟩:=zC r ρ ks cs _ hm.2 h5;refine⟨b,o,cap,_,rfl,h2,by simp,r.CG b h4,p1,?_,fun x hx=>h7 x (aJX hx)⟩;intro i x hx;rw [aKk] at hx;split at hx
    ·exact h6 i x hx
    ·simp at hx
   ·simp at hm
 | .ptr _ _,v,u,hm,_=>by simp [kS] at hm
 | .lD,v,u,hm,_=>by simp [kS] at hm
 | .sG _,v,u,hm,_=>by simp [kS] at hm
 | .slice _ _ _ _,v,u,hm,_=>by simp [kS] at hm
 | .map _,v,u,hm,_=>by simp [kS] at hm
 | .qI,v,u,hm,_=>by simp [kS] at hm
 | .func _ _ _,v,u,hm,_=>by simp [kS] at hm
 | .CW,v,u,hm,_=>by simp [kS] at hm
 | .iface _ _,v,u,hm,_=>by simp [kS] at hm
 | .FM,v,u,hm,_=>by simp [kS] at hm
 | .tuple _,v,u,hm,_=>by simp [kS] at hm
 | .opq _,v,u,hm,_=>by simp [kS] at hm
 | .inp _ _,v,u,hm,_=>by simp [kS] at hm
theorem zC [Glob] {E:En} {H:Hp} {w:World} (r:bJ E H w) (ρ:Nat->Int): ∀(ks vs:List AV) (us:List Value),Ap H ks vs=true->bP E w.heap vs us->
 bP (En.zero ρ (fun b=>b<w.heap.size)) w.heap ks (us.take ks.length)/\ks.length<=us.length
 |[],vs,us,_,_=>by simp [bP]
 |k::ks,[],us,hm,_=>by simp [Ap] at hm
 |k::ks,v::vs,us,hm,hv=>by
  simp only [Ap] at hm;split at hm
  ·rename_i h1;rw [bG] at hv;obtain⟨u,us',rfl,hu,hus⟩:=hv;obtain⟨p1,p2⟩:=zC r ρ ks vs us' hm hus;rw [aJr,aKj,bG];exact⟨⟨u,_,rfl,akL r ρ k v u h1 hu,p1⟩,by simp; exact p2⟩
  ·simp at hm
end
theorem OA {h:Hp} {aJc:List AV} {v:AV}: ∀{tbl:List (List AV×AV)},TQ h aJc tbl=some v->∃k,(k,v)∈tbl/\k.length=aJc.length/\Ap h k aJc=true
 |[],hl=>by simp [TQ] at hl
 |(k,x)::l,hl=>by
  simp only [TQ] at hl;split at hl
  ·rename_i h1;split at hl
   ·rename_i h2;simp only [aJf] at hl;subst hl;exact⟨k,by simp,aJj h1,h2⟩
   ·obtain⟨k',h1,h2⟩:=OA hl;exact⟨k',by simp [h1],h2⟩
  ·obtain⟨k',h1,h2⟩:=OA hl;exact⟨k',by simp [h1],h2⟩
theorem Yp [Glob] {g:FuncId} {f:List AV->St->T (AV×St)} (hf:nU P g f) {fn:Func} (hfn:P.funcs[g]?=some fn) (hname:(fn.name == "runtime.NumGoroutine")=false) {c:Code} (hb:fn.body=some c)
 {tbl:List (List AV×AV)} (h: ∀p∈tbl,Wi p.1 p.2 f=true):nU P g (agJ tbl):=by
 intro aJc s E w vals u s' r hv hp hl;unfold agJ at hl;split at hl
 ·rename_i v hlook;have:=aH hl;simp only [aJg] at this;obtain⟨rfl,rfl⟩:=this;obtain⟨k,hmem,hlen,aIr⟩:=OA hlook;have hk:=h _ hmem;unfold Wi at hk;simp only [aJh] at hk;obtain⟨h2,h3⟩:=hk;split at h3
  ·rename_i u' s1 hrun;have hu:=oN _ _ h3;subst hu;obtain⟨p1,_⟩:=zC r E.ρ k aJc vals aIr hv;rw [hlen,<- hv.length,aKV] at p1;have hgl:Glob.ok E.ρ (fun b=>b<w.heap.size) w.heap:=Glob.keep r.glob r.CG fun _ _=>rfl;have hc:=Iw hf hfn hname hb (ρ:=E.ρ) (ro:=fun b=>b<w.heap.size) (w:=w) (fun _ h=>h) hgl p1 (v:=u') (s':=s1) (by rw [hrun]; rfl);refine⟨rfl,hp,?_⟩
   have hrun:(callFunc g vals.toArray).run P w= .ok (.enter g vals.toArray) w:=by unfold callFunc;simp [hfn,hb,by simpa using hname]
   unfold vH vG;rw [hrun];exact Calls.mono hc fun e w' ⟨x,E',he,hx,_,hbl⟩=> ⟨x,he,E,(EC r hbl).1,(EC r hbl).2,Ew u' x h2 hx⟩
  ·simp at h3
 ·simp [T.leaf] at hl
end
end
end Go.As
end
section
namespace Go.As.Try
open Go Go.As Go.Proofs Go.RowKit
set_option maxRecDepth 100000
def maxLen:Nat:=Tryz.laysM144_ren.g 1
def base:ZH where
 ok ro h:=ro maxLen/\∃m,hcell h maxLen 0=some (.int .i64 m)
 keep:=by intro ro ro' h h' hk h1 h2;obtain⟨a,m,hm⟩:=hk;refine⟨h1 _ a,m,?_⟩;unfold hcell at *;rw [h2 _ a];exact hm
noncomputable def tt0:TT:=lim 283 tab
noncomputable def ft:Nat->Option Func:=lim 226 Wn
def owns:List (Nat×Nat):=[(22,3),(23,4),(26,0),(27,0),(32,9),(33,7),(34,8),(49,2),(50,5),(55,6),(190,14),(243,14),(134,1),(195,0),(235,1)]
noncomputable def ttE:TT:=Yh owns tt0
noncomputable def hints:Nat->Nat->Option U5:=hAt htab
theorem MZ:eY Tryz.prog tt0:=axT amV
theorem amW:eY Tryz.prog ttE:=azP MZ
theorem ahJ:amA Tryz.prog (Xj tt0 hints) ft:=aAr YK asG
theorem aEl:amA Tryz.prog (Xj ttE hints) ft:=by unfold ttE; rw [awO]; exact ahJ
def b (n:Nat):AV:=.int .u8 (.lit (.ofNat n))
def QB:AV:=.agg [b 0,b 0,b 0,b 0,b 0,b 0,b 0,b 0,b 0,b 1,b 1,b 0,b 0,b 1,b 0,b 0,b 0,b 0,b 0,b 0,b 0,b 0,b 0,b 0,b 0,b 0,b 0,b 0,b 0,b 0,b 0,b 0,b 1,b 0,b 0,b 2,b 0,b 0,b 0,b 0,b 5,b 5,b 5,b 5,b 0,b 5,b 0,b 0,b 3,b 3,b 3,b 3,b 3,b 3,b 3,b 3,b 3,b 3,b 0,b 5,b 5,b 5,b 0,b 0,b 0,b 4,b 4,b 4,b 4,b 4,b 4,b 4,b 4,b 4,b 4,b 4,b 4,b 4,b 4,b 4,b 4,b 4,b 4,b 4,b 4,b 4,b 4,b 4,b 4,b 4,b 4,b 0,b 0,b 0,b 0,b 4,b 0,b 4,b 4,b 4,b 4,b 4,b 4,b 4,b 4,b 4,b 4,b 4,b 4,b 4,b 4,b 4,b 4,b 4,b 4,b 4,b 4,b 4,b 4,b 4,b 4,b 4,b 4,b 5,b 0,b 5,b 0,b 0,b 0,b 0,b 0,b 0,b 0,b 0,b 0,b 0,b 0,b 0,b 0,b 0,b 0,b 0,b 0,b 0,b 0,b 0,b 0,b 0,b 0,b 0,b 0,b 0,b 0,b 0,b 0,b 0,b 0,b 0,b 0,b 0,b 0,b 0,b 0,b 0,b 0,b 0,b 0,b 0,b 0,b 0,b 0,b 0,b 0,b 0,b 0,b 0,b 0,b 0,b 0,b 0,b 0,b 0,b 0,b 0,b 0,b 0,b 0,b 0,b 0,b 0,b 0,b 0,b 0,b 0,b 0,b 0,b 0,b 0,b 0,b 0,b 0,b 0,b 0,b 0,b 0,b 0,b 0,b 0,b 0,b 0,b 0,b 0,b 0,b 0,b 0,b 0,b 0,b 0,b 0,b 0,b 0,b 0,b 0,b 0,b 0,b 0,b 0,b 0,b 0,b 0,b 0,b 0,b 0,b 0,b 0,b 0,b 0,b 0,b 0,b 0,b 0,b 0,b 0,b 0,b 0,b 0,b 0,b 0,b 0,b 0,b 0,b 0,b 0,b 0,b 0,b 0]
theorem H6 {g:Nat} {f:Func} (h:Wn.get g=some f) (hg:g<226):Tryz.prog.funcs[g]?=some f:=by have:=congrArg (fun l=>l[g]?) YK;simp only [aJF,aKA hg,aJU,aJf] at this;rw [<- this];exact h
theorem aDG {g:Nat} {f:Func} (hf:Tryz.prog.funcs[g]?=some f) (hn:(f.name == "runtime.NumGoroutine")=false) (hb:f.body.isNone=false): ∀(args:Array Value) (w:World),(callFunc g args).run Tryz.prog w= .ok (.enter g args) w:=by intro args w;unfold callFunc;simp only [Sem.run_bind,run_program,Result.andThen_ok,hf];rw [hn,hb];simp
def ahE (g:Nat):Option (List AV->St->T (AV×St)):=
 match Nat.beq g 172 with
 |true=>some AL
 |false=>match Nat.beq g 192 with
  |true=>some AB
  |false=>match Nat.beq g 120 with
   |true=>some sW
   |false=>none
theorem aDI:Tryz.laysM144_ren.f 144=120:=by kernel_rfl
section
variable (I:Glob) (hI: ∀ρ ro h,I.ok ρ ro h->base.ok ro h)
theorem f172:@nU I Tryz.prog 172 AL:=@alS _ I 172 Tryz.f172 (H6 (by kernel_rfl) (by decide)) (by kernel_rfl) (by kernel_rfl) (by kernel_rfl) (by kernel_rfl)
theorem f192:@nU I Tryz.prog 192 AB:=@akR _ I 192 Tryz.f192 (H6 (by kernel_rfl) (by decide)) (by kernel_rfl) (by kernel_rfl) (by kernel_rfl) (by kernel_rfl)
include hI in
theorem f120:@nU I Tryz.prog 120 sW:=by letI:=I;refine Xf ?_ (aDG (f:=Tryz.f120) (H6 (by kernel_rfl) (by decide)) (by kernel_rfl) (by kernel_rfl));intro ρ ro w hw s sub hs;obtain⟨_,m,hm⟩:=hI _ _ _ hw;have:=Any.strings_Contains { Tryz.laysM144 with } s sub m w hs (by rw [uN]; exact hm);rw [aDI] at this;exact this
include hI in
theorem YH: ∀(g:Nat) (h:List AV->St->T (AV×St)),ahE g=some h->@nU I Tryz.prog g h:=by
 intro g h hh;unfold ahE at hh;split at hh
 ·rename_i hg;have:=aJj hg;subst this;simp at hh;subst hh;exact f172 I
 ·split at hh
  ·rename_i hg;have:=aJj hg;subst this;simp at hh;subst hh;exact f192 I
  ·split at hh
   ·rename_i hg;have:=aJj hg;subst this;simp at hh;subst hh;exact f120 I hI
   ·simp at hh
end
noncomputable def aGc (g:Nat):List AV->St->T (AV×St):=WH tt0 ft ahE (UC tt0 hints) 100000 60 g
theorem azD (I:Glob) (hI: ∀ρ ro h,I.ok ρ ro h->base.ok ro h) (g:Nat):@nU I Tryz.prog g (aGc g):=@Ih _ I _ MZ _ _ ahJ _ (YH I hI) _ (fun _ hc=>@Ik _ I _ MZ mixed _ _ hc) 100000 60 g
theorem Zn:gives [] QB (aGc 115)=true:=by kernel_rfl
theorem Ez {f:Func} (h:f.body.isSome=true): ∃c,f.body=some c:=aKq.1 h
theorem adR (I:Glob) (hI: ∀ρ ro h,I.ok ρ ro h->base.ok ro h):@nU I Tryz.prog 115 (memo [] QB):=by letI:=I;obtain⟨c,hb⟩:=Ez (f:=Tryz.f115) (by kernel_rfl);exact L9 (azD I hI 115) (fn:=Tryz.f115) (H6 (by kernel_rfl) (by decide)) (by kernel_rfl) hb Zn
def YF (g:Nat):Option (List AV->St->T (AV×St)):=
 match Nat.beq g 115 with
 |true=>some (memo [] QB)
 |false=>ahE g
theorem OX (I:Glob) (hI: ∀ρ ro h,I.ok ρ ro h->base.ok ro h): ∀(g:Nat) (h:List AV->St->T (AV×St)),YF g=some h->@nU I Tryz.prog g h:=by
 intro g h hh;unfold YF at hh;split at hh
 ·rename_i hg;have:=aJj hg;subst this;simp at hh;subst hh;exact adR I hI
 ·exact YH I hI g h hh
noncomputable def aaX (g:Nat):List AV->St->T (AV×St):=WH tt0 ft YF (UC tt0 hints) 100000 60 g
theorem DW (I:Glob) (hI: ∀ρ ro h,I.ok ρ ro h->base.ok ro h) (g:Nat):@nU I Tryz.prog g (aaX g):=@Ih _ I _ MZ _ _ ahJ _ (OX I hI) _ (fun _ hc=>@Ik _ I _ MZ mixed _ _ hc) 100000 60 g
theorem aDT:gives [.str [97]] (.bool (.lit true)) (aaX 90)=true:=by kernel_rfl
theorem aDS:gives [.str [98]] (.bool (.lit true)) (aaX 90)=true:=by kernel_rfl
def agT:List AV:=[.agg [.ro [.int .u8 (.lit 1),.str [109],.int .i64 (.lit 0),.str [],.int .i64 (.lit 1)] 1 false,.ro [.str [97],.ro [.int .u8 (.lit 1),.int .u8 (.lit 1),.str [109],.str [],.int .i64 (.lit 0),.aA,.aA,.aA,.int .i64 (.lit 1)] 1 false,.int .i64 (.lit 1),.str [98],.ro [.int .u8 (.lit 1),.int .u8 (.lit 1),.str [109],.str [],.int .i64 (.lit 0),.aA,.aA,.aA,.int .i64 (.lit 1)] 1 false,.int .i64 (.lit 1)] 2 false]]
theorem aGv:Wi agT (.agg [.int .i64 (.lit 0),.int .i64 (.lit 0)]) (aaX 56)=true:=by kernel_rfl
def agQ:List (List AV×AV):=[(agT,.agg [.int .i64 (.lit 0),.int .i64 (.lit 0)])]
def agU:List AV:=[.agg [.ro [.int .u8 (.lit 1),.str [109],.int .i64 (.lit 0),.str [],.int .i64 (.lit 1)] 1 false,.ro [.str [97],.aA,.ro [.int .u8 (.lit 1),.int .u8 (.lit 1),.int .i64 (.lit 0),.int .i64 (.lit (-1)),.int .i64 (.lit 0),.int .i64 (.lit 0),.aA] 1 false,.str [98],.aA,.ro [.int .u8 (.lit 1),.int .u8 (.lit 1),.int .i64 (.lit 0),.int .i64 (.lit (-1)),.int .i64 (.lit 0),.int .i64 (.lit 0),.aA] 1 false] 2 false]]
theorem aGw:Wi agU (.int .i64 (.lit 0)) (aaX 45)=true:=by kernel_rfl
def agR:List (List AV×AV):=[(agU,.int .i64 (.lit 0))]
noncomputable def arV (g:Nat):Option (List AV->St->T (AV×St)):=
 match Nat.beq g 56 with
 |true=>some (orElse (agJ agQ) (aaX 56))
 |false=>match Nat.beq g 45 with
 |true=>some (orElse (agJ agR) (aaX 45))
 |false=>YF g
theorem arU (I:Glob) (hI: ∀ρ ro h,I.ok ρ ro h->base.ok ro h): ∀(g:Nat) (h:List AV->St->T (AV×St)),arV g=some h->@nU I Tryz.prog g h:=by
 intro g h hh;letI:=I;unfold arV at hh;split at hh
 ·rename_i hg;have:=aJj hg;subst this;simp only [aJf] at hh;subst hh;obtain⟨c,hb⟩:=Ez (f:=Tryz.f56) (by kernel_rfl);refine D7 (Yp (DW I hI 56) (fn:=Tryz.f56) (H6 (by kernel_rfl) (by decide)) (by kernel_rfl) hb fun p hp=>?_) (DW I hI 56);simp only [agQ,aJq,aJ4,or_false] at hp;rcases hp with rfl
  ·exact aGv
 ·skip;split at hh
  ·rename_i hg;have:=aJj hg;subst this;simp only [aJf] at hh;subst hh;obtain⟨c,hb⟩:=Ez (f:=Tryz.f45) (by kernel_rfl);refine D7 (Yp (DW I hI 45) (fn:=Tryz.f45) (H6 (by kernel_rfl) (by decide)) (by kernel_rfl) hb fun p hp=>?_) (DW I hI 45);simp only [agR,aJq,aJ4,or_false] at hp;rcases hp with rfl
   ·exact aGw
  ·skip;exact OX I hI g h hh
noncomputable def aGb (g:Nat):List AV->St->T (AV×St):=WH tt0 ft arV (UC tt0 hints) 100000 60 g
theorem azC (I:Glob) (hI: ∀ρ ro h,I.ok ρ ro h->base.ok ro h) (g:Nat):@nU I Tryz.prog g (aGb g):=@Ih _ I _ MZ _ _ ahJ _ (arU I hI) _ (fun _ hc=>@Ik _ I _ MZ mixed _ _ hc) 100000 60 g
theorem adT:gives [] (.bool (.lit true)) (aGb 6)=true:=by kernel_rfl
section
variable (I:Glob) (hI: ∀ρ ro h,I.ok ρ ro h->base.ok ro h)
include hI
theorem akK:@nU I Tryz.prog 90 (memo [.str [97]] (.bool (.lit true))):=by letI:=I;obtain⟨c,hb⟩:=Ez (f:=Tryz.f90) (by kernel_rfl);exact L9 (DW I hI 90) (fn:=Tryz.f90) (H6 (by kernel_rfl) (by decide)) (by kernel_rfl) hb aDT
theorem akJ:@nU I Tryz.prog 90 (memo [.str [98]] (.bool (.lit true))):=by letI:=I;obtain⟨c,hb⟩:=Ez (f:=Tryz.f90) (by kernel_rfl);exact L9 (DW I hI 90) (fn:=Tryz.f90) (H6 (by kernel_rfl) (by decide)) (by kernel_rfl) hb aDS
theorem alW:@nU I Tryz.prog 6 (memo [] (.bool (.lit true))):=by letI:=I;obtain⟨c,hb⟩:=Ez (f:=Tryz.f6) (by kernel_rfl);exact L9 (azC I hI 6) (fn:=Tryz.f6) (H6 (by kernel_rfl) (by decide)) (by kernel_rfl) hb adT
end
def acB (g:Nat):Option (List AV->St->T (AV×St)):=
 match Nat.beq g 6 with
  |true=>some (memo [] (.bool (.lit true)))
  |false=>match Nat.beq g 90 with
  |true=>some (orElse (memo [.str [97]] (.bool (.lit true))) (memo [.str [98]] (.bool (.lit true))))
  |false=>YF g
theorem akS (I:Glob) (hI: ∀ρ ro h,I.ok ρ ro h->base.ok ro h): ∀(g:Nat) (h:List AV->St->T (AV×St)),acB g=some h->@nU I Tryz.prog g h:=by
 intro g h hh;unfold acB at hh;split at hh
 ·rename_i hg;have:=aJj hg;subst this;simp at hh;subst hh;exact alW I hI
 ·skip;split at hh
  ·rename_i hg;have:=aJj hg;subst this;simp at hh;subst hh;letI:=I;exact D7 (akK I hI) (akJ I hI)
  ·exact OX I hI g h hh
end Go.As.Try
end
section
namespace Go.As.Try
open Go hiding Stat Spec shape
open Go.As Go.Proofs
set_option maxRecDepth 100000
abbrev aI (n:Nat):AV:=.int .i64 (.aP n)
abbrev aJ (n:Int):AV:=.int .i64 (.lit n)
abbrev aU (n:Nat):AV:=.int .u8 (.aP n)
abbrev aD (n t:Nat):AV:=.dat (.aP n) t
abbrev aS (n:Nat):AV:=.nJ (.aP n)
abbrev aB (n:Nat):AV:=.bool (.not (.eq (.aP n) (.lit 0)))
abbrev aV (b n t:Nat):AV:=.vZ b (.op .len (.aP n) (.lit 0)) t
abbrev aE (n t:Nat):AV:=.IW (.aP n) t
def cT0:List Int:=[0,0,0,0,0,0,0,0,0,1,1,0,0,1,0,0,0,0,0,0,0,0,0,0,0,0,0,0,0,0,0,0,1,0,0,2,0,0,0,0,5,5,5,5,0,5,0,0,3,3,3,3,3,3,3,3,3,3,0,5,5,5,0,0,0,4,4,4,4,4,4,4,4,4,4,4,4,4,4,4,4,4,4,4,4,4,4,4,4,4,4,0,0,0,0,4,0,4,4,4,4,4,4,4,4,4,4,4,4,4,4,4,4,4,4,4,4,4,4,4,4,4,4,5,0,5,0,0,0,0,0,0,0,0,0,0,0,0,0,0,0,0,0,0,0,0,0,0,0,0,0,0,0,0,0,0,0,0,0,0,0,0,0,0,0,0,0,0,0,0,0,0,0,0,0,0,0,0,0,0,0,0,0,0,0,0,0,0,0,0,0,0,0,0,0,0,0,0,0,0,0,0,0,0,0,0,0,0,0,0,0,0,0,0,0,0,0,0,0,0,0,0,0,0,0,0,0,0,0,0,0,0,0,0,0,0,0,0,0,0,0,0,0,0,0,0,0,0,0,0,0,0,0,0,0,0]
def aEp:FE:=⟨9000,107,[],[],some (⟨2,[(0,aD 1 7) ],[],[],.lit 0⟩,[],0),[⟨2,[(0,aV 0 1 7)],[.vec (.aP 1) 7 143 []],[],.lit 0⟩,⟨1,[(0,.aA) ],[],[],.lit 0⟩,⟨1,[(0,.slice 0 0 0 (.exact 0))],[.cells [] 143 ],[],.lit 0⟩,⟨8,[(0,aV 0 1 7)],[.vec (.aP 1) 7 143 [(.aP 0,[aI 2,aI 3,aB 4,aI 5,aV 1 6 0,aV 2 7 0])],
 .vec (.aP 6) 0 3 [],
 .vec (.aP 7) 0 2 []],[],.aP 0⟩,⟨8,[(0,aV 0 1 7)],[.vec (.aP 1) 7 143 [(.aP 0,[aI 2,aI 3,aB 4,aI 5,aV 1 6 0,aE 7 0])],
 .vec (.aP 6) 0 3 []],[],.aP 0⟩,⟨8,[(0,aV 0 1 7)],[.vec (.aP 1) 7 143 [(.aP 0,[aI 2,aI 3,aB 4,aI 5,aE 6 0,aV 1 7 0])],
 .vec (.aP 7) 0 2 []],[],.aP 0⟩,⟨8,[(0,aV 0 1 7)],[.vec (.aP 1) 7 143 [(.aP 0,[aI 2,aI 3,aB 4,aI 5,aE 6 0,aE 7 0])]],[],.aP 0⟩],[(3,1)],[11],1,[(8,0)],[],
 [([0,1,0,1,1],⟨4,[(0,aV 0 1 7),(7,aI 2),(8,aI 3)],[.vec (.aP 1) 7 143 []],[],.lit 0⟩),([0,1,0,1,1],⟨1,[(0,.aA),(7,aJ 0),(8,aJ 0) ],[],[],.lit 0⟩),([0,1,0,1,1],⟨1,[(0,.slice 0 0 0 (.exact 0)),(7,aJ 0),(8,aJ 0)],[.cells [] 143 ],[],.lit 0⟩),([0,1,0,1,1],⟨10,[(0,aV 0 1 7),(7,aI 2),(8,aI 3)],[.vec (.aP 1) 7 143 [(.aP 0,[aI 4,aI 5,aB 6,aI 7,aV 1 8 0,aV 2 9 0])],
  .vec (.aP 8) 0 3 [],
  .vec (.aP 9) 0 2 []],[],.lit 0⟩),([0,1,0,1,1],⟨10,[(0,aV 0 1 7),(7,aI 2),(8,aI 3)],[.vec (.aP 1) 7 143 [(.aP 0,[aI 4,aI 5,aB 6,aI 7,aV 1 8 0,aE 9 0])],
  .vec (.aP 8) 0 3 []],[],.lit 0⟩),([0,1,0,1,1],⟨10,[(0,aV 0 1 7),(7,aI 2),(8,aI 3)],[.vec (.aP 1) 7 143 [(.aP 0,[aI 4,aI 5,aB 6,aI 7,aE 8 0,aV 1 9 0])],
  .vec (.aP 9) 0 2 []],[],.lit 0⟩),([0,1,0,1,1],⟨10,[(0,aV 0 1 7),(7,aI 2),(8,aI 3)],[.vec (.aP 1) 7 143 [(.aP 0,[aI 4,aI 5,aB 6,aI 7,aE 8 0,aE 9 0])]],[],.lit 0⟩)]⟩
def aEo:FE:=⟨9050,40,[],[],some (⟨3,[(0,.agg [aD 1 7,aD 2 8]) ],[],[],.lit 0⟩,[],0),[⟨3,[(0,.agg [aD 1 7,aV 0 2 8])],[.vec (.aP 2) 8 100 []],[],.lit 0⟩,⟨2,[(0,.agg [aD 1 7,.aA]) ],[],[],.lit 0⟩,⟨2,[(0,.agg [aD 1 7,.slice 0 0 0 (.exact 0)])],[.cells [] 100 ],[],.lit 0⟩,⟨9,[(0,.agg [aD 1 7,aV 0 2 8])],[.vec (.aP 2) 8 100 [(.aP 0,[aI 3,aV 1 4 0,aU 5,aI 6,aI 7,aI 8])],
 .vec (.aP 4) 0 2 []],[],.aP 0⟩,⟨9,[(0,.agg [aD 1 7,aV 0 2 8])],[.vec (.aP 2) 8 100 [(.aP 0,[aI 3,aE 4 0,aU 5,aI 6,aI 7,aI 8])]],[],.aP 0⟩],[(2,0)],[10],1,[(44,0)],[(0,0,7)],
 [([0,1,0,1,1],⟨5,[(1,.ptr 0 0),(2,.ptr 1 0),(16,aI 1),(17,aI 2)],[.cells [aV 2 3 7,aV 3 4 8] 36,
  .cells [.aA,.aA] 36,
  .vec (.aP 3) 7 143 [],
  .vec (.aP 4) 8 100 []],[],.lit 0⟩),([0,1,0,1,1],⟨4,[(1,.ptr 0 0),(2,.ptr 1 0),(16,aI 1),(17,aI 2)],[.cells [aV 2 3 7,.aA] 36,
  .cells [.aA,.aA] 36,
  .vec (.aP 3) 7 143 []],[],.lit 0⟩),([0,1,0,1,1],⟨4,[(1,.ptr 0 0),(2,.ptr 1 0),(16,aI 1),(17,aI 2)],[.cells [aV 2 3 7,.slice 3 0 0 (.exact 0)] 36,
  .cells [.aA,.aA] 36,
  .vec (.aP 3) 7 143 [],
  .cells [] 100 ],[],.lit 0⟩),([0,1,0,1,1],⟨2,[(1,.ptr 0 0),(2,.ptr 1 0),(16,aJ 0),(17,aJ 0)],[.cells [.aA,aV 2 1 8] 36,
  .cells [.aA,.aA] 36,
  .vec (.aP 1) 8 100 []],[],.lit 0⟩),([0,1,0,1,1],⟨1,[(1,.ptr 0 0),(2,.ptr 1 0),(16,aJ 0),(17,aJ 0)],[.cells [.aA,.aA] 36,
  .cells [.aA,.aA] 36 ],[],.lit 0⟩),([0,1,0,1,1],⟨1,[(1,.ptr 0 0),(2,.ptr 1 0),(16,aJ 0),(17,aJ 0)],[.cells [.aA,.slice 2 0 0 (.exact 0)] 36,
  .cells [.aA,.aA] 36,
  .cells [] 100 ],[],.lit 0⟩),([0,1,0,1,1],⟨2,[(1,.ptr 0 0),(2,.ptr 1 0),(16,aJ 0),(17,aJ 0)],[.cells [.slice 2 0 0 (.exact 0),aV 3 1 8] 36,
  .cells [.aA,.aA] 36,
  .cells [] 143,
  .vec (.aP 1) 8 100 []],[],.lit 0⟩),([0,1,0,1,1],⟨1,[(1,.ptr 0 0),(2,.ptr 1 0),(16,aJ 0),(17,aJ 0)],[.cells [.slice 2 0 0 (.exact 0),.aA] 36,
  .cells [.aA,.aA] 36,
  .cells [] 143 ],[],.lit 0⟩),([0,1,0,1,1],⟨1,[(1,.ptr 0 0),(2,.ptr 1 0),(16,aJ 0),(17,aJ 0)],[.cells [.slice 2 0 0 (.exact 0),.slice 3 0 0 (.exact 0)] 36,
  .cells [.aA,.aA] 36,
  .cells [] 143,
  .cells [] 100 ],[],.lit 0⟩),([0,1,0,1,1,1],⟨5,[(1,.ptr 0 0),(2,.ptr 1 0),(43,aI 1),(44,aI 2)],[.cells [aV 2 3 7,aV 3 4 8] 36,
  .cells [.aA,.aA] 36,
  .vec (.aP 3) 7 143 [],
  .vec (.aP 4) 8 100 []],[],.lit 0⟩),([0,1,0,1,1,1],⟨2,[(1,.ptr 0 0),(2,.ptr 1 0),(43,aJ 0),(44,aJ 0)],[.cells [aV 2 1 7,.aA] 36,
  .cells [.aA,.aA] 36,
  .vec (.aP 1) 7 143 []],[],.lit 0⟩),([0,1,0,1,1,1],⟨2,[(1,.ptr 0 0),(2,.ptr 1 0),(43,aJ 0),(44,aJ 0)],[.cells [aV 2 1 7,.slice 3 0 0 (.exact 0)] 36,
  .cells [.aA,.aA] 36,
  .vec (.aP 1) 7 143 [],
  .cells [] 100 ],[],.lit 0⟩),([0,1,0,1,1,1],⟨4,[(1,.ptr 0 0),(2,.ptr 1 0),(43,aI 1),(44,aI 2)],[.cells [.aA,aV 2 3 8] 36,
  .cells [.aA,.aA] 36,
  .vec (.aP 3) 8 100 []],[],.lit 0⟩),([0,1,0,1,1,1],⟨1,[(1,.ptr 0 0),(2,.ptr 1 0),(43,aJ 0),(44,aJ 0)],[.cells [.aA,.aA] 36,
  .cells [.aA,.aA] 36 ],[],.lit 0⟩),([0,1,0,1,1,1],⟨1,[(1,.ptr 0 0),(2,.ptr 1 0),(43,aJ 0),(44,aJ 0)],[.cells [.aA,.slice 2 0 0 (.exact 0)] 36,
  .cells [.aA,.aA] 36,
  .cells [] 100 ],[],.lit 0⟩),([0,1,0,1,1,1],⟨4,[(1,.ptr 0 0),(2,.ptr 1 0),(43,aI 1),(44,aI 2)],[.cells [.slice 2 0 0 (.exact 0),aV 3 3 8] 36,
  .cells [.aA,.aA] 36,
  .cells [] 143,
  .vec (.aP 3) 8 100 []],[],.lit 0⟩),([0,1,0,1,1,1],⟨1,[(1,.ptr 0 0),(2,.ptr 1 0),(43,aJ 0),(44,aJ 0)],[.cells [.slice 2 0 0 (.exact 0),.aA] 36,
  .cells [.aA,.aA] 36,
  .cells [] 143 ],[],.lit 0⟩),([0,1,0,1,1,1],⟨1,[(1,.ptr 0 0),(2,.ptr 1 0),(43,aJ 0),(44,aJ 0)],[.cells [.slice 2 0 0 (.exact 0),.slice 3 0 0 (.exact 0)] 36,
  .cells [.aA,.aA] 36,
  .cells [] 143,
  .cells [] 100 ],[],.lit 0⟩),([0,1,0,1,1,1],⟨11,[(1,.ptr 0 0),(2,.ptr 1 0),(43,aI 1),(44,aI 2)],[.cells [aV 2 3 7,aV 3 4 8] 36,
  .cells [.aA,.aA] 36,
  .vec (.aP 3) 7 143 [],
  .vec (.aP 4) 8 100 [(.aP 0,[aI 5,aV 4 6 0,aU 7,aI 8,aI 9,aI 10])],
  .vec (.aP 6) 0 2 []],[],.lit 0⟩),([0,1,0,1,1,1],⟨11,[(1,.ptr 0 0),(2,.ptr 1 0),(43,aI 1),(44,aI 2)],[.cells [aV 2 3 7,aV 3 4 8] 36,
  .cells [.aA,.aA] 36,
  .vec (.aP 3) 7 143 [],
  .vec (.aP 4) 8 100 [(.aP 0,[aI 5,aE 6 0,aU 7,aI 8,aI 9,aI 10])]],[],.lit 0⟩),([0,1,0,1,1,1],⟨10,[(1,.ptr 0 0),(2,.ptr 1 0),(43,aI 1),(44,aI 2)],[.cells [.aA,aV 2 3 8] 36,
  .cells [.aA,.aA] 36,
  .vec (.aP 3) 8 100 [(.aP 0,[aI 4,aV 3 5 0,aU 6,aI 7,aI 8,aI 9])],
  .vec (.aP 5) 0 2 []],[],.lit 0⟩),([0,1,0,1,1,1],⟨10,[(1,.ptr 0 0),(2,.ptr 1 0),(43,aI 1),(44,aI 2)],[.cells [.aA,aV 2 3 8] 36,
  .cells [.aA,.aA] 36,
  .vec (.aP 3) 8 100 [(.aP 0,[aI 4,aE 5 0,aU 6,aI 7,aI 8,aI 9])]],[],.lit 0⟩),([0,1,0,1,1,1],⟨10,[(1,.ptr 0 0),(2,.ptr 1 0),(43,aI 1),(44,aI 2)],[.cells [.slice 2 0 0 (.exact 0),aV 3 3 8] 36,
  .cells [.aA,.aA] 36,
  .cells [] 143,
  .vec (.aP 3) 8 100 [(.aP 0,[aI 4,aV 4 5 0,aU 6,aI 7,aI 8,aI 9])],
  .vec (.aP 5) 0 2 []],[],.lit 0⟩),([0,1,0,1,1,1],⟨10,[(1,.ptr 0 0),(2,.ptr 1 0),(43,aI 1),(44,aI 2)],[.cells [.slice 2 0 0 (.exact 0),aV 3 3 8] 36,
  .cells [.aA,.aA] 36,
  .cells [] 143,
  .vec (.aP 3) 8 100 [(.aP 0,[aI 4,aE 5 0,aU 6,aI 7,aI 8,aI 9])]],[],.lit 0⟩)]⟩
def aHe:FE:=⟨100,5,[.agg [(.sl 3),(.sl 4)]],[.one .bool],none,[],[],[],0,[],[],
 [([0,1,0,1,1],⟨5,[(1,.ptr 0 0),(3,aI 0),(17,aI 1),(18,aI 2)],[.cells [aD 3 3,aD 4 4] 25 ],[],.lit 0⟩),([0,1,1,1,0,0,1,1,0,0,1,0,1,1],⟨6,[(1,.ptr 0 0),(3,aI 0),(4,aI 1),(5,aI 2),(17,aI 3),(18,aI 1)],[.cells [aD 4 3,aD 5 4] 25 ],[],.lit 0⟩),([0,1,0,0,1,0,0,1,1,1,0,0,1,1,0,0,1,0,1,1],⟨9,[(1,.ptr 0 0),(3,aI 0),(4,aI 1),(5,aI 2),(17,aI 3),(18,aI 1),(62,aD 4 6),(63,aI 5),(64,aI 6)],[.cells [aD 7 3,aD 8 4] 25 ],[],.lit 0⟩)]⟩
def aHd:FE:=⟨150,15,[.agg [(.int .u8),.str,(.int .i64),(.sl 6)],.one (.int .i64)],[.one (.int .i64)],none,[],[],[],0,[],[],
 [([0,1,0,1,1,1],⟨7,[(1,aI 0),(2,.ptr 0 0),(5,aI 1),(6,aI 2)],[.cells [aU 3,aS 4,aI 5,aD 6 6] 60 ],[],.lit 0⟩)]⟩
def aHc:FE:=⟨200,44,[.one (.sl 7),.one (.sl 7)],[.one .bool],none,[],[],[],0,[],[],
 [([0,1,0,1,1],⟨4,[(0,aD 0 7),(1,aD 1 7),(15,aI 2),(16,aI 3) ],[],[],.lit 0⟩),([0,1,1,1,1,0,0,1,1,0,0,1,0,1,1],⟨18,[(0,aD 0 7),(1,aD 1 7),(6,.ptr 0 0),(7,.ptr 1 0),(15,aI 2),(16,aI 3),(72,aI 4),(73,aI 5)],[.cells [aI 6,aI 7,aB 8,aI 9,aD 10 0,aD 11 0] 143,
  .cells [aI 12,aI 13,aB 14,aI 15,aD 16 0,aD 17 0] 143 ],[],.lit 0⟩)]⟩
def aHb:FE:=⟨250,75,[.one (.sl 0),.one (.sl 0)],[.one .bool],none,[],[],[],0,[],[],
 [([0,1,0,1,1],⟨3,[(0,aD 0 0),(1,aD 1 0),(5,aI 2) ],[],[],.lit 0⟩)]⟩
def aHa:FE:=⟨300,46,[.agg [(.sl 3),(.sl 4)]],[.one (.sl 7)],none,[],[],[],0,[],[],
 [([0,1,0,1,0,1,1],⟨2,[(3,.aA),(11,aD 0 3),(12,aI 1),(13,aJ 0) ],[],[],.lit 0⟩),([0,1,0,1,0,1,1],⟨4,[(3,aV 0 0 7),(11,aD 1 3),(12,aI 2),(13,aI 3)],[.vec (.aP 0) 7 143 []],[],.lit 0⟩)]⟩
def aG9:FE:=⟨350,38,[.agg [(.sl 3),(.sl 4)],.one (.sl 7)],[.one .bool],none,[],[],[],0,[],[],
 [([0,1,0,1,1],⟨5,[(2,.ptr 0 0),(18,aD 0 7),(19,aI 1),(20,aI 2)],[.cells [aD 3 3,aD 4 4] 25 ],[],.lit 0⟩)]⟩
def aG8:FE:=⟨400,74,[.agg [(.sl 3),(.sl 4)],.one (.sl 7),.one (.int .i64),.agg [(.int .u8),(.int .i64),(.int .i64),(.int .i64)]],[.one (.sl 7),.agg [(.int .i64),(.int .u8),(.int .i64),(.int .i64),(.int .i64)],.one (.int .u8)],none,[],[],[],0,[],[],
 []⟩
def aG7:FE:=⟨450,45,[.agg [(.sl 3),(.sl 4)]],[.one (.int .i64)],none,[],[],[],0,[],[],
 [([0,1,0,1,1],⟨4,[(1,.ptr 0 0),(3,.bool (.lit true)),(20,aD 0 3),(21,aI 1),(22,aI 2)],[.cells [aD 0 3,aD 3 4] 25 ],[],.lit 0⟩),([0,1,0,1,1],⟨4,[(1,.ptr 0 0),(3,.bool (.lit false)),(20,aD 0 3),(21,aI 1),(22,aI 2)],[.cells [aD 0 3,aD 3 4] 25 ],[],.lit 0⟩),([0,1,0,1,1,1],⟨4,[(1,.ptr 0 0),(3,.bool (.lit true)),(35,aD 0 4),(36,aI 1),(37,aI 2)],[.cells [aD 3 3,aD 0 4] 25 ],[],.lit 0⟩),([0,1,0,1,1,1],⟨4,[(1,.ptr 0 0),(3,.bool (.lit false)),(35,aD 0 4),(36,aI 1),(37,aI 2)],[.cells [aD 3 3,aD 0 4] 25 ],[],.lit 0⟩),([0,1,1,1,0,0,1,1,0,0,1,0,1,1,1],⟨8,[(1,.ptr 0 0),(3,.bool (.lit true)),(7,.ptr 1 0),(8,aI 0),(35,aD 1 4),(36,aI 2),(37,aI 3)],[.cells [aD 4 3,aD 1 4] 25,
  .cells [aS 5,aD 6 2,aD 7 5] 52 ],[],.lit 0⟩),([0,1,1,1,0,0,1,1,0,0,1,0,1,1,1],⟨8,[(1,.ptr 0 0),(3,.bool (.lit false)),(7,.ptr 1 0),(8,aI 0),(35,aD 1 4),(36,aI 2),(37,aI 3)],[.cells [aD 4 3,aD 1 4] 25,
  .cells [aS 5,aD 6 2,aD 7 5] 52 ],[],.lit 0⟩)]⟩
def aG6:FE:=⟨500,64,[.agg [(.int .u8),.str,(.int .i64),.str,(.int .i64)],.agg [(.int .i64),(.int .i64),.bool,(.int .i64),(.sl 0),(.sl 0)],.one (.int .i64)],[.one .bool],none,[],[],[],0,[],[],
 [([0,1,0,1,1,1,1,1,1],⟨15,[(2,aI 0),(3,.ptr 0 0),(4,.ptr 1 0),(10,.map 2),(98,aD 1 0),(99,aI 2),(100,aI 3)],[.cells [aU 4,aS 5,aI 6,aS 7,aI 8] 121,
  .cells [aI 9,aI 10,aB 11,aI 12,aD 1 0,aD 13 0] 143,
  .jJ (.aP 14) 0 ],[],.lit 0⟩)]⟩
def aG5:FE:=⟨550,107,[.one (.sl 7)],[.one (.sl 7)],none,[],[],[],0,[],[],
 [([0,1,0,1,1],⟨3,[(0,aV 0 0 7),(7,aI 1),(8,aI 2)],[.vec (.aP 0) 7 143 []],[],.lit 0⟩),([0,1,0,1,1],⟨0,[(0,.aA),(7,aJ 0),(8,aJ 0) ],[],[],.lit 0⟩),([0,1,0,1,1],⟨0,[(0,.slice 0 0 0 (.exact 0)),(7,aJ 0),(8,aJ 0)],[.cells [] 143 ],[],.lit 0⟩)]⟩
def aG4:FE:=⟨600,108,[.one (.int .u8)],[.one (.int .u8)],none,[],[],[],0,[],[],
 []⟩
def aG3:FE:=⟨650,105,[.agg [(.int .u8),.str,(.int .i64),.str,(.int .i64)]],[.one (.int .i64),.one .bool],none,[],[],[],0,[],[],
 []⟩
def aG2:FE:=⟨700,76,[.agg [(.sl 3),(.sl 4)],.agg [(.int .u8),.str,(.int .i64),.str,(.int .i64)]],[.one .bool],none,[],[],[],0,[],[],
 []⟩
def aG1:FE:=⟨750,77,[.agg [(.sl 3),(.sl 4)],.agg [.str,(.sl 2),(.sl 5)],.agg [(.int .u8),(.int .u8),(.int .i64),(.int .i64),(.int .i64),(.int .i64),(.sl 6)]],[.one .bool],none,[],[],[],0,[],[],
 []⟩
def aG0:FE:=⟨800,80,[.agg [(.int .u8),.str,(.int .i64),(.sl 6)],.one (.int .i64)],[.one .bool],none,[],[],[],0,[],[],
 []⟩
def aGZ:FE:=⟨850,102,[.one (.sl 0),.one (.int .i64)],[.one (.int .i64)],none,[],[],[],0,[],[],
 [([0,1,0,1],⟨4,[(0,aD 0 0),(1,aI 1),(7,aI 2),(8,aI 3) ],[],[],.lit 0⟩)]⟩
def aGY:FE:=⟨900,62,[.one (.sl 0),.one (.int .i64)],[.one .bool],none,[],[],[],0,[],[],
 []⟩
def aGX:FE:=⟨950,112,[.one (.int .u8),.agg [(.int .u8),(.int .u8),(.int .i64),(.int .i64),(.int .i64),(.int .i64),(.sl 6)],.one .bool],[.one .bool],none,[],[],[],0,[],[],
 [([0,1,0,1,1],⟨9,[(0,aU 0),(2,.bool (.lit false)),(4,.ptr 0 0),(7,.ptr 1 0),(16,aI 1),(17,aJ 0)],[.cells [aU 2,aU 3,aI 4,aI 5,aI 6,aI 7,aD 8 6] 57,
  .cells [.int .u8 (.lit 1),aU 3,.str [97],.str [],aJ 0,.aA,.aA,.aA,aJ 0] 171 ],[],.lit 0⟩),([0,1,0,1,1],⟨9,[(0,aU 0),(2,.bool (.lit true)),(4,.ptr 0 0),(7,.ptr 1 0),(16,aI 1),(17,aJ 0)],[.cells [aU 2,aU 3,aI 4,aI 5,aI 6,aI 7,aD 8 6] 57,
  .cells [.int .u8 (.lit 1),aU 3,.str [97],.str [],aJ 0,.aA,.aA,.aA,aJ 0] 171 ],[],.lit 0⟩),([0,1,0,1,1],⟨11,[(0,aU 0),(2,.bool (.lit false)),(4,.ptr 0 0),(7,.ptr 1 0),(16,aI 1),(17,aI 2)],[.cells [aU 3,aU 4,aI 5,aI 6,aI 7,aI 8,aD 9 6] 57,
  .cells [.int .u8 (.lit 1),aU 4,.str [97],.str [],aJ 0,aV 2 10 6,.aA,.aA,aJ 0] 171,
  .vec (.aP 10) 6 60 []],[],.lit 0⟩),([0,1,0,1,1],⟨11,[(0,aU 0),(2,.bool (.lit true)),(4,.ptr 0 0),(7,.ptr 1 0),(16,aI 1),(17,aI 2)],[.cells [aU 3,aU 4,aI 5,aI 6,aI 7,aI 8,aD 9 6] 57,
  .cells [.int .u8 (.lit 1),aU 4,.str [97],.str [],aJ 0,aV 2 10 6,.aA,.aA,aJ 0] 171,
  .vec (.aP 10) 6 60 []],[],.lit 0⟩)]⟩
def aFa:FE:=⟨1000,90,[.one .str],[.one .bool],none,[],[],[],0,[],[],
 []⟩
def aE9:FE:=⟨1050,81,[.one .str,.one (.int .i64)],[.agg [(.int .u8),.str,(.int .i64),(.int .i64),(.int .i64),(.int .i64)],.agg [(.int .i64),(.int .i64)]],none,[],[],[],0,[],[],
 []⟩
def aE8:FE:=⟨1100,119,[.one .str],[.one (.int .i64),.one .bool],none,[],[],[],0,[],[],
 [([0,1,0,1,1],⟨0,[(4,aJ 0),(9,.slice 0 0 0 (.rest 1)),(10,aJ 0),(11,aJ 0)],[.cells [] 5 ],[],.lit 0⟩),([0,1,0,1,1],⟨4,[(4,aI 0),(9,aV 0 1 14),(10,aI 2),(11,aI 3)],[.vec (.aP 1) 14 5 []],[],.lit 0⟩)]⟩
def aE7:FE:=⟨1150,179,[.agg [(.int .u8),.str,(.int .i64),(.sl 6)]],[.one .bool],none,[],[],[],0,[],[],
 []⟩
def aE6:FE:=⟨1200,180,[.one (.int .u8)],[.one (.int .u8)],none,[],[],[],0,[],[],
 []⟩
def aE5:FE:=⟨1250,174,[.one (.int .u8)],[.one (.int .i64)],none,[],[],[],0,[],[],
 []⟩
def aE4:FE:=⟨1300,175,[.one (.int .u8)],[.one .bool],none,[],[],[],0,[],[],
 []⟩
def aE3:FE:=⟨1350,84,[.one (.int .u8)],[.one .bool],none,[],[],[],0,[],[],
 []⟩
def aE2:FE:=⟨1400,89,[.agg [(.int .u8),.str,(.int .i64),.str,(.int .i64)]],[.one .bool],none,[],[],[],0,[],[],
 []⟩
def aE1:FE:=⟨1450,25,[.agg [(.sl 3),(.sl 4)]],[.agg [(.sl 7),(.sl 8)],.one (.int .i64)],none,[],[],[],0,[],[],
 [([0,1,0,1,1,1],⟨3,[(2,.ptr 0 0),(5,.ptr 1 0),(18,aD 0 4),(19,aI 1),(20,aJ 0)],[.cells [.aA,.aA] 36,
  .cells [aD 2 7,.aA] 36 ],[],.lit 0⟩),([0,1,0,1,1,1],⟨5,[(2,.ptr 0 0),(5,.ptr 1 0),(18,aD 0 4),(19,aI 1),(20,aI 2)],[.cells [.aA,.aA] 36,
  .cells [aD 3 7,aV 2 4 8] 36,
  .vec (.aP 4) 8 100 []],[],.lit 0⟩)]⟩
def aE0:FE:=⟨1500,21,[.agg [(.sl 3),(.sl 4)],.agg [(.sl 7),(.sl 8)]],[.one .bool],none,[],[],[],0,[],[],
 [([0,1,0,1,1],⟨5,[(2,.ptr 0 0),(22,aD 0 8),(23,aI 1),(24,aI 2)],[.cells [aD 3 3,aD 4 4] 25 ],[],.lit 0⟩)]⟩
def aEZ:FE:=⟨1550,27,[.agg [(.sl 3),(.sl 4)],.agg [(.sl 7),(.sl 8)],.one (.int .i64)],[.one .bool],none,[],[],[],0,[],[],
 []⟩
def aEY:FE:=⟨1600,39,[.agg [(.sl 3),(.sl 4)],.agg [.str,(.sl 2),(.sl 5)],.agg [(.int .i64),(.sl 0),(.int .u8),(.int .i64),(.int .i64),(.int .i64)]],[.one .bool],none,[],[],[],0,[],[],
 []⟩
def aEX:FE:=⟨1650,28,[.agg [(.sl 3),(.sl 4)],.agg [(.sl 7),(.sl 8)],.one (.int .i64)],[.one .bool],none,[],[],[],0,[],[],
 []⟩
def aEW:FE:=⟨1700,13,[.agg [(.sl 3),(.sl 4)],.agg [(.sl 7),(.sl 8)],.one (.int .i64)],[.one .bool],none,[],[],[],0,[],[],
 []⟩
def aEV:FE:=⟨1750,41,[.agg [(.sl 3),(.sl 4)],.agg [(.sl 7),(.sl 8)],.one (.int .i64)],[.agg [(.int .u8),(.int .i64),(.int .i64),(.int .i64)],.one .bool],none,[],[],[],0,[],[],
 [([0,1,0,1,0,1,0,1,1,0,1,1,1,1],⟨12,[(6,.ptr 0 0),(8,.ptr 1 0),(10,.ptr 2 0),(55,aD 0 6),(56,aI 1),(57,aI 2)],[.cells [.int .u8 (.lit 0),aJ 0,aJ 0,aJ 0] 75,
  .cells [aI 3,aD 4 0,aU 5,aI 6,aI 7,aI 8] 100,
  .cells [aU 9,aI 10,aI 11,aI 8] 75 ],[],.lit 0⟩)]⟩
def aEU:FE:=⟨1800,23,[.agg [(.sl 3),(.sl 4)],.agg [(.sl 7),(.sl 8)],.one (.int .i64)],[.agg [(.int .u8),(.int .i64),(.int .i64),(.int .i64)],.one .bool],none,[],[],[],0,[],[],
 []⟩
def aET:FE:=⟨1850,22,[.agg [(.sl 3),(.sl 4)],.agg [(.sl 7),(.sl 8)],.one (.int .i64)],[.agg [(.sl 7),(.sl 8)],.agg [(.int .i64),(.int .u8),(.int .i64),(.int .i64),(.int .i64)],.one (.int .u8)],none,[],[],[],0,[],[],
 []⟩
def aES:FE:=⟨1900,40,[.agg [(.sl 7),(.sl 8)]],[.agg [(.sl 7),(.sl 8)]],none,[],[],[],0,[],[],
 [([0,1,0,1,1],⟨4,[(1,.ptr 0 0),(2,.ptr 1 0),(16,aI 0),(17,aI 1)],[.cells [aV 2 2 7,aV 3 3 8] 36,
  .cells [.aA,.aA] 36,
  .vec (.aP 2) 7 143 [],
  .vec (.aP 3) 8 100 []],[],.lit 0⟩),([0,1,0,1,1],⟨3,[(1,.ptr 0 0),(2,.ptr 1 0),(16,aI 0),(17,aI 1)],[.cells [aV 2 2 7,.aA] 36,
  .cells [.aA,.aA] 36,
  .vec (.aP 2) 7 143 []],[],.lit 0⟩),([0,1,0,1,1],⟨3,[(1,.ptr 0 0),(2,.ptr 1 0),(16,aI 0),(17,aI 1)],[.cells [aV 2 2 7,.slice 3 0 0 (.exact 0)] 36,
  .cells [.aA,.aA] 36,
  .vec (.aP 2) 7 143 [],
  .cells [] 100 ],[],.lit 0⟩),([0,1,0,1,1],⟨1,[(1,.ptr 0 0),(2,.ptr 1 0),(16,aJ 0),(17,aJ 0)],[.cells [.aA,aV 2 0 8] 36,
  .cells [.aA,.aA] 36,
  .vec (.aP 0) 8 100 []],[],.lit 0⟩),([0,1,0,1,1],⟨0,[(1,.ptr 0 0),(2,.ptr 1 0),(16,aJ 0),(17,aJ 0)],[.cells [.aA,.aA] 36,
  .cells [.aA,.aA] 36 ],[],.lit 0⟩),([0,1,0,1,1],⟨0,[(1,.ptr 0 0),(2,.ptr 1 0),(16,aJ 0),(17,aJ 0)],[.cells [.aA,.slice 2 0 0 (.exact 0)] 36,
  .cells [.aA,.aA] 36,
  .cells [] 100 ],[],.lit 0⟩),([0,1,0,1,1],⟨1,[(1,.ptr 0 0),(2,.ptr 1 0),(16,aJ 0),(17,aJ 0)],[.cells [.slice 2 0 0 (.exact 0),aV 3 0 8] 36,
  .cells [.aA,.aA] 36,
  .cells [] 143,
  .vec (.aP 0) 8 100 []],[],.lit 0⟩),([0,1,0,1,1],⟨0,[(1,.ptr 0 0),(2,.ptr 1 0),(16,aJ 0),(17,aJ 0)],[.cells [.slice 2 0 0 (.exact 0),.aA] 36,
  .cells [.aA,.aA] 36,
  .cells [] 143 ],[],.lit 0⟩),([0,1,0,1,1],⟨0,[(1,.ptr 0 0),(2,.ptr 1 0),(16,aJ 0),(17,aJ 0)],[.cells [.slice 2 0 0 (.exact 0),.slice 3 0 0 (.exact 0)] 36,
  .cells [.aA,.aA] 36,
  .cells [] 143,
  .cells [] 100 ],[],.lit 0⟩),([0,1,0,1,1,1],⟨4,[(1,.ptr 0 0),(2,.ptr 1 0),(43,aI 0),(44,aI 1)],[.cells [aV 2 2 7,aV 3 3 8] 36,
  .cells [.aA,.aA] 36,
  .vec (.aP 2) 7 143 [],
  .vec (.aP 3) 8 100 []],[],.lit 0⟩),([0,1,0,1,1,1],⟨1,[(1,.ptr 0 0),(2,.ptr 1 0),(43,aJ 0),(44,aJ 0)],[.cells [aV 2 0 7,.aA] 36,
  .cells [.aA,.aA] 36,
  .vec (.aP 0) 7 143 []],[],.lit 0⟩),([0,1,0,1,1,1],⟨1,[(1,.ptr 0 0),(2,.ptr 1 0),(43,aJ 0),(44,aJ 0)],[.cells [aV 2 0 7,.slice 3 0 0 (.exact 0)] 36,
  .cells [.aA,.aA] 36,
  .vec (.aP 0) 7 143 [],
  .cells [] 100 ],[],.lit 0⟩),([0,1,0,1,1,1],⟨3,[(1,.ptr 0 0),(2,.ptr 1 0),(43,aI 0),(44,aI 1)],[.cells [.aA,aV 2 2 8] 36,
  .cells [.aA,.aA] 36,
  .vec (.aP 2) 8 100 []],[],.lit 0⟩),([0,1,0,1,1,1],⟨0,[(1,.ptr 0 0),(2,.ptr 1 0),(43,aJ 0),(44,aJ 0)],[.cells [.aA,.aA] 36,
  .cells [.aA,.aA] 36 ],[],.lit 0⟩),([0,1,0,1,1,1],⟨0,[(1,.ptr 0 0),(2,.ptr 1 0),(43,aJ 0),(44,aJ 0)],[.cells [.aA,.slice 2 0 0 (.exact 0)] 36,
  .cells [.aA,.aA] 36,
  .cells [] 100 ],[],.lit 0⟩),([0,1,0,1,1,1],⟨3,[(1,.ptr 0 0),(2,.ptr 1 0),(43,aI 0),(44,aI 1)],[.cells [.slice 2 0 0 (.exact 0),aV 3 2 8] 36,
  .cells [.aA,.aA] 36,
  .cells [] 143,
  .vec (.aP 2) 8 100 []],[],.lit 0⟩),([0,1,0,1,1,1],⟨0,[(1,.ptr 0 0),(2,.ptr 1 0),(43,aJ 0),(44,aJ 0)],[.cells [.slice 2 0 0 (.exact 0),.aA] 36,
  .cells [.aA,.aA] 36,
  .cells [] 143 ],[],.lit 0⟩),([0,1,0,1,1,1],⟨0,[(1,.ptr 0 0),(2,.ptr 1 0),(43,aJ 0),(44,aJ 0)],[.cells [.slice 2 0 0 (.exact 0),.slice 3 0 0 (.exact 0)] 36,
  .cells [.aA,.aA] 36,
  .cells [] 143,
  .cells [] 100 ],[],.lit 0⟩)]⟩
def aER:FE:=⟨1950,68,[.agg [(.int .u8),.str,(.int .i64),(.sl 6)],.one (.sl 0)],[.one (.int .i64)],none,[],[],[],0,[],[],
 []⟩
def aEQ:FE:=⟨2000,26,[.agg [(.sl 3),(.sl 4)],.agg [(.sl 7),(.sl 8)],.agg [(.int .i64),(.int .u8),(.int .i64),(.int .i64),(.int .i64)]],[.agg [(.sl 7),(.sl 8)],.one .bool],none,[],[],[],0,[],[],
 [([0,1,0,1,1,1,1],⟨11,[(3,.ptr 0 0),(4,.ptr 1 0),(5,.ptr 2 0),(6,.ptr 3 0),(8,.ptr 4 0),(9,aI 0),(10,aJ 0)],[.cells [aD 1 3,aD 2 4] 25,
  .cells [aD 3 7,aD 4 8] 36,
  .cells [aI 0,aU 5,aI 6,aI 7,aI 8] 66,
  .cells [.aA,.aA] 36,
  .cells [aD 9 7,aV 5 10 8] 36,
  .vec (.aP 10) 8 100 []],[],.lit 0⟩),([0,1,0,1,1,1,1],⟨10,[(3,.ptr 0 0),(4,.ptr 1 0),(5,.ptr 2 0),(6,.ptr 3 0),(8,.ptr 4 0),(9,aI 0),(10,aJ 0)],[.cells [aD 1 3,aD 2 4] 25,
  .cells [aD 3 7,aD 4 8] 36,
  .cells [aI 0,aU 5,aI 6,aI 7,aI 8] 66,
  .cells [.aA,.aA] 36,
  .cells [aD 9 7,.aA] 36 ],[],.lit 0⟩),([0,1,0,1,1,1,1],⟨10,[(3,.ptr 0 0),(4,.ptr 1 0),(5,.ptr 2 0),(6,.ptr 3 0),(8,.ptr 4 0),(9,aI 0),(10,aJ 0)],[.cells [aD 1 3,aD 2 4] 25,
  .cells [aD 3 7,aD 4 8] 36,
  .cells [aI 0,aU 5,aI 6,aI 7,aI 8] 66,
  .cells [.aA,.aA] 36,
  .cells [aD 9 7,.slice 5 0 0 (.exact 0)] 36,
  .cells [] 100 ],[],.lit 0⟩),([0,1,0,1,1,1,1],⟨18,[(3,.ptr 0 0),(4,.ptr 1 0),(5,.ptr 2 0),(6,.ptr 3 0),(8,.ptr 4 0),(9,aI 0),(10,aI 1)],[.cells [aD 2 3,aD 3 4] 25,
  .cells [aD 4 7,aD 5 8] 36,
  .cells [aI 0,aU 6,aI 7,aI 8,aI 9] 66,
  .cells [.aA,.aA] 36,
  .cells [aD 10 7,aV 5 11 8] 36,
  .vec (.aP 11) 8 100 [(.aP 0,[aI 12,aV 6 13 0,aU 14,aI 15,aI 16,aI 17])],
  .vec (.aP 13) 0 2 []],[],.lit 0⟩),([0,1,0,1,1,1,1],⟨18,[(3,.ptr 0 0),(4,.ptr 1 0),(5,.ptr 2 0),(6,.ptr 3 0),(8,.ptr 4 0),(9,aI 0),(10,aI 1)],[.cells [aD 2 3,aD 3 4] 25,
  .cells [aD 4 7,aD 5 8] 36,
  .cells [aI 0,aU 6,aI 7,aI 8,aI 9] 66,
  .cells [.aA,.aA] 36,
  .cells [aD 10 7,aV 5 11 8] 36,
  .vec (.aP 11) 8 100 [(.aP 0,[aI 12,aE 13 0,aU 14,aI 15,aI 16,aI 17])]],[],.lit 0⟩)]⟩
def aEP:FE:=⟨2050,24,[.agg [(.sl 7),(.sl 8)],.agg [(.sl 7),(.sl 8)]],[.one .bool],none,[],[],[],0,[],[],
 [([0,1,0,1,1],⟨6,[(2,.ptr 0 0),(3,.ptr 1 0),(26,aI 0),(27,aI 1)],[.cells [aD 2 7,aD 3 8] 36,
  .cells [aD 4 7,aD 5 8] 36 ],[],.lit 0⟩),([0,1,1,1,1,0,0,1,1,0,0,1,0,1,1],⟨20,[(2,.ptr 0 0),(3,.ptr 1 0),(6,.ptr 2 0),(7,.ptr 3 0),(26,aI 0),(27,aI 1),(84,aI 2),(85,aI 3)],[.cells [aD 4 7,aD 5 8] 36,
  .cells [aD 6 7,aD 7 8] 36,
  .cells [aI 8,aD 9 0,aU 10,aI 11,aI 12,aI 13] 100,
  .cells [aI 14,aD 15 0,aU 16,aI 17,aI 18,aI 19] 100 ],[],.lit 0⟩)]⟩
def aEO:FE:=⟨2150,12,[.agg [(.sl 3),(.sl 4)],.one (.sl 9)],[.agg [(.sl 7),(.sl 8)],.one (.int .i64)],none,[],[],[],0,[],[],
 [([0,1,0,1,1,1],⟨7,[(1,aD 0 9),(2,.ptr 0 0),(4,.ptr 1 0),(6,.ptr 2 0),(20,aD 0 9),(21,aI 1),(22,aI 2)],[.cells [aD 3 3,aD 4 4] 25,
  .cells [.aA,.aA] 36,
  .cells [aD 5 7,aD 6 8] 36 ],[],.lit 0⟩)]⟩
def aEN:FE:=⟨2450,9,[.one (.sl 9),.one (.sl 9)],[.one .bool],none,[],[],[],0,[],[],
 [([0,1,0,1,1],⟨4,[(0,aD 0 9),(1,aD 1 9),(12,aI 2),(13,aI 3) ],[],[],.lit 0⟩)]⟩
def aEM:FE:=⟨2550,10,[.agg [(.sl 3),(.sl 4)],.agg [(.sl 7),(.sl 8)]],[.one .bool],none,[],[],[],0,[],[],
 [([0,1,0,1,1],⟨6,[(2,.ptr 0 0),(3,.ptr 1 0),(17,aI 0),(18,aI 1)],[.cells [aD 2 3,aD 3 4] 25,
  .cells [aD 4 7,aD 5 8] 36 ],[],.lit 0⟩)]⟩
def aEL:FE:=⟨2750,32,[.agg [(.sl 3),(.sl 4)],.agg [(.sl 7),(.sl 8),(.sl 0)]],[.one .bool],none,[],[],[],0,[],[],
 []⟩
def aEK:FE:=⟨2800,17,[.agg [(.sl 3),(.sl 4)],.one (.sl 0)],[.agg [(.sl 7),(.sl 8),(.sl 0)],.one (.int .i64)],none,[],[],[],0,[],[],
 []⟩
def aEJ:FE:=⟨2850,34,[.agg [(.sl 7),(.sl 8)],.one (.int .i64)],[.one .bool],none,[],[],[],0,[],[],
 []⟩
def aEI:FE:=⟨2900,63,[.agg [(.sl 3),(.sl 4)],.agg [(.sl 7),(.sl 8)],.one (.int .i64)],[.one .bool],none,[],[],[],0,[],[],
 []⟩
def aEH:FE:=⟨2950,35,[.agg [(.sl 3),(.sl 4)],.agg [(.sl 7),(.sl 8),(.sl 0)],.one (.int .i64)],[.one .bool],none,[],[],[],0,[],[],
 [([0,1,0,1,1],⟨8,[(2,aI 0),(3,.ptr 0 0),(4,.ptr 1 0),(17,aD 1 0),(18,aI 2),(19,aI 3)],[.cells [aD 4 3,aD 5 4] 25,
  .cells [aD 6 7,aD 7 8,aD 1 0] 38 ],[],.lit 0⟩)]⟩
def aEG:FE:=⟨3050,33,[.agg [(.sl 7),(.sl 8),(.sl 0)]],[.agg [(.sl 7),(.sl 8),(.sl 0)]],none,[],[],[],0,[],[],
 [([0,1,0,1,1],⟨4,[(1,.ptr 0 0),(2,.ptr 1 0),(3,.ptr 2 0),(10,aD 0 7),(11,aI 1),(12,aJ 0)],[.cells [aD 0 7,aD 2 8,aD 3 0] 38,
  .cells [.aA,.aA,.aA] 38,
  .cells [.aA,.aA] 36 ],[],.lit 0⟩),([0,1,0,1,1],⟨6,[(1,.ptr 0 0),(2,.ptr 1 0),(3,.ptr 2 0),(10,aD 0 7),(11,aI 1),(12,aI 2)],[.cells [aD 0 7,aD 3 8,aD 4 0] 38,
  .cells [.aA,.aA,.aA] 38,
  .cells [aV 3 5 7,.aA] 36,
  .vec (.aP 5) 7 143 []],[],.lit 0⟩),([0,1,0,1,1,1],⟨4,[(1,.ptr 0 0),(2,.ptr 1 0),(3,.ptr 2 0),(33,aD 0 8),(34,aI 1),(35,aJ 0)],[.cells [aD 2 7,aD 0 8,aD 3 0] 38,
  .cells [.aA,.aA,.aA] 38,
  .cells [.aA,.aA] 36 ],[],.lit 0⟩),([0,1,0,1,1,1],⟨5,[(1,.ptr 0 0),(2,.ptr 1 0),(3,.ptr 2 0),(33,aD 0 8),(34,aI 1),(35,aJ 0)],[.cells [aD 2 7,aD 0 8,aD 3 0] 38,
  .cells [.aA,.aA,.aA] 38,
  .cells [aV 3 4 7,.aA] 36,
  .vec (.aP 4) 7 143 []],[],.lit 0⟩),([0,1,0,1,1,1],⟨6,[(1,.ptr 0 0),(2,.ptr 1 0),(3,.ptr 2 0),(33,aD 0 8),(34,aI 1),(35,aI 2)],[.cells [aD 3 7,aD 0 8,aD 4 0] 38,
  .cells [.aA,.aA,.aA] 38,
  .cells [.aA,aV 3 5 8] 36,
  .vec (.aP 5) 8 100 []],[],.lit 0⟩),([0,1,0,1,1,1],⟨7,[(1,.ptr 0 0),(2,.ptr 1 0),(3,.ptr 2 0),(33,aD 0 8),(34,aI 1),(35,aI 2)],[.cells [aD 3 7,aD 0 8,aD 4 0] 38,
  .cells [.aA,.aA,.aA] 38,
  .cells [aV 3 5 7,aV 4 6 8] 36,
  .vec (.aP 5) 7 143 [],
  .vec (.aP 6) 8 100 []],[],.lit 0⟩)]⟩
def aEF:FE:=⟨3100,18,[.agg [(.sl 3),(.sl 4)],.agg [(.sl 7),(.sl 8),(.sl 0)],.one (.int .i64)],[.agg [(.sl 7),(.sl 8),(.sl 0)],.agg [(.int .i64),(.int .u8),(.int .i64),(.int .i64),(.int .i64)],.one (.int .u8),.one (.int .i64)],none,[],[],[],0,[],[],
 []⟩
def aEE:FE:=⟨3150,8,[.agg [(.sl 3),(.sl 4)],.one (.sl 0),.one (.sl 0)],[.one (.sl 9),.agg [(.sl 7),(.sl 8),(.sl 0)],.one (.int .i64)],none,[],[],[],0,[],[],
 [([0,1,0,1,1,1,1,1],⟨8,[(2,aD 0 0),(3,.ptr 0 0),(7,.ptr 1 0),(9,.ptr 2 0),(11,.aA),(12,aI 1),(13,aI 2)],[.cells [aD 3 3,aD 4 4] 25,
  .cells [.aA,.aA,.aA] 38,
  .cells [aD 5 7,aD 6 8,aD 7 0] 38 ],[],.lit 0⟩),([0,1,0,1,1,1,1,1],⟨9,[(2,aD 0 0),(3,.ptr 0 0),(7,.ptr 1 0),(9,.ptr 2 0),(11,aV 3 1 9),(12,aI 2),(13,aI 3)],[.cells [aD 4 3,aD 5 4] 25,
  .cells [.aA,.aA,.aA] 38,
  .cells [aD 6 7,aD 7 8,aD 8 0] 38,
  .vec (.aP 1) 9 66 []],[],.lit 0⟩)]⟩
def aED:FE:=⟨3650,11,[.agg [(.sl 7),(.sl 8),(.sl 0)],.agg [(.sl 7),(.sl 8),(.sl 0)]],[.one .bool],none,[],[],[],0,[],[],
 []⟩
def asK:FE:=⟨3700,3,[.agg [(.sl 3),(.sl 4)],.one (.sl 0),.agg [(.sl 0),(.sl 0)]],[.one .bool],none,[],[],[],0,[],[],
 []⟩
def aEC:FE:=⟨5000,78,[],[.one .bool],some (⟨4,[(0,aD 0 6),(1,.func (.func 79) [] [.ptr 0 0])],[.cells [aS 1,aD 2 2,aD 3 5] 52 ],[],.lit 0⟩,[.cells [aS 0,aD 1 2,aD 2 5] 52],3),[],[],[],0,[],[],
 []⟩
def aEB:FE:=⟨5050,114,[],[.one .bool],some (⟨7,[(0,.ptr 0 0),(1,.agg [aU 0,aS 1,aI 2,aD 3 6]),(2,aI 4)],[.cells [aI 5,aI 6] 211 ],[],.lit 0⟩,[.cells [aI 0,aI 1] 211],2),[],[],[],0,[],[],
 [([0,1,0,1,1,1],⟨9,[(0,.ptr 0 0),(2,aI 0),(4,.ptr 1 0),(27,aD 1 6),(28,aI 2),(29,aI 3)],[.cells [aI 4,aI 5] 211,
  .cells [aU 6,aS 7,aI 8,aD 1 6] 60 ],[],.lit 0⟩)]⟩
def aEA:FE:=⟨5100,129,[],[],some (⟨2,[(0,.ptr 0 0),(1,.aA),(2,aI 0)],[.cells [aI 1,.bool (.lit true),.bool (.lit false)] 131 ],[],.lit 0⟩,[.cells [aI 0,.bool (.lit true),.bool (.lit false)] 131],1),[],[],[],0,[],[],
 [([0,1],⟨2,[(0,.ptr 0 0),(2,aI 0),(8,.aA),(9,aJ 0),(10,aJ 0)],[.cells [aI 1,.bool (.lit true),.bool (.lit false)] 131 ],[],.lit 0⟩)]⟩
def aEz:FE:=⟨5150,181,[],[.one .bool],some (⟨2,[(0,.ptr 0 0),(1,.aA)],[.cells [.map 1,.map 2] 179,
 .map [(.str [97],aU 0,0)] 0,
 .jJ (.aP 1) 1 ],[],.lit 0⟩,[.cells [.map 1,.map 2] 179,.map [(.str [97],aU 0,0)] 0,.jJ (.aP 1) 1],2),[],[],[],0,[],[],
 [([0,1,0,1],⟨2,[(0,.ptr 0 0),(7,.aA),(8,aJ 0),(9,aJ 0)],[.cells [.map 1,.map 2] 179,
  .map [(.str [97],aU 0,0)] 0,
  .jJ (.aP 1) 1 ],[],.lit 0⟩)]⟩
def aEy:FE:=⟨5200,181,[],[.one .bool],some (⟨2,[(0,.ptr 0 0),(1,.aA)],[.cells [.map 1,.map 2] 179,
 .map [(.str [98],.int .u8 (.lit 1),0),(.str [97],aU 0,0)] 0,
 .jJ (.aP 1) 1 ],[],.lit 0⟩,[.cells [.map 1,.map 2] 179,.map [(.str [98],aU 0,0),(.str [97],aU 1,0)] 0,.jJ (.aP 2) 1],3),[],[],[],0,[],[],
 [([0,1,0,1],⟨2,[(0,.ptr 0 0),(7,.aA),(8,aJ 0),(9,aJ 0)],[.cells [.map 1,.map 2] 179,
  .map [(.str [98],.int .u8 (.lit 1),0),(.str [97],aU 0,0)] 0,
  .jJ (.aP 1) 1 ],[],.lit 0⟩)]⟩
def aEx:FE:=⟨5250,129,[],[],some (⟨3,[(0,.ptr 0 0),(1,aV 1 0 6),(2,aI 1)],[.cells [aI 2,.bool (.lit true),.bool (.lit false)] 131,
 .vec (.aP 0) 6 60 []],[],.lit 0⟩,[.cells [aI 0,.bool (.lit true),.bool (.lit false)] 131,.vec (.aP 1) 6 60 []],2),[],[],[],0,[],[],
 [([0,1],⟨5,[(0,.ptr 0 0),(2,aI 0),(8,aV 1 1 6),(9,aI 2),(10,aI 3)],[.cells [aI 4,.bool (.lit true),.bool (.lit false)] 131,
  .vec (.aP 1) 6 60 []],[],.lit 0⟩)]⟩
def aEw:FE:=⟨5300,181,[],[.one .bool],some (⟨4,[(0,.ptr 0 0),(1,.vZ 1 (.aP 0) 6)],[.cells [.map 2,.map 3] 179,
 .vec (.aP 1) 6 60 [],
 .map [(.str [97],aU 2,0)] 0,
 .jJ (.aP 3) 1 ],[],.lit 0⟩,[.cells [.map 2,.map 3] 179,.vec (.aP 0) 6 60 [],.map [(.str [97],aU 1,0)] 0,.jJ (.aP 2) 1],3),[],[],[],0,[],[],
 [([0,1,0,1],⟨5,[(0,.ptr 0 0),(7,.vZ 1 (.aP 0) 6),(8,aI 0),(9,aI 1)],[.cells [.map 2,.map 3] 179,
  .vec (.aP 2) 6 60 [],
  .map [(.str [97],aU 3,0)] 0,
  .jJ (.aP 4) 1 ],[],.lit 0⟩)]⟩
def aEv:FE:=⟨5350,181,[],[.one .bool],some (⟨4,[(0,.ptr 0 0),(1,.vZ 1 (.aP 0) 6)],[.cells [.map 2,.map 3] 179,
 .vec (.aP 1) 6 60 [],
 .map [(.str [98],.int .u8 (.lit 1),0),(.str [97],aU 2,0)] 0,
 .jJ (.aP 3) 1 ],[],.lit 0⟩,[.cells [.map 2,.map 3] 179,.vec (.aP 0) 6 60 [],.map [(.str [98],aU 1,0),(.str [97],aU 2,0)] 0,.jJ (.aP 3) 1],4),[],[],[],0,[],[],
 [([0,1,0,1],⟨6,[(0,.ptr 0 0),(7,.vZ 1 (.aP 0) 6),(8,aI 0),(9,aI 1)],[.cells [.map 2,.map 3] 179,
  .vec (.aP 2) 6 60 [],
  .map [(.str [98],aU 3,0),(.str [97],aU 4,0)] 0,
  .jJ (.aP 5) 1 ],[],.lit 0⟩)]⟩
def aAB:FE:=⟨16000,59,[],[.one .bool],some (⟨1,[(0,aD 0 0),(1,.func (.func 60) [] []) ],[],[],.lit 0⟩,[],0),[],[],[],0,[],[],
 []⟩
def aEu:FE:=⟨5400,113,[],[.one (.int .i64)],some (⟨4,[(0,aD 0 6),(1,.func (.func 79) [] [.ptr 0 0])],[.cells [aS 1,aD 2 2,aD 3 5] 52 ],[],.lit 0⟩,[.cells [aS 0,aD 1 2,aD 2 5] 52],3),[],[],[],0,[],[],
 [([0,1,0,1],⟨6,[(0,aD 0 6),(1,.func (.func 79) [] [.ptr 0 0]),(7,aI 1),(8,aI 2)],[.cells [aS 3,aD 4 2,aD 5 5] 52 ],[],.lit 0⟩)]⟩
def aEt:FE:=⟨5450,129,[],[],some (⟨3,[(0,.ptr 0 0),(1,aD 0 6),(2,aI 1)],[.cells [aI 2,.bool (.lit true),.bool (.lit false)] 131 ],[],.lit 0⟩,[.cells [aI 0,.bool (.lit true),.bool (.lit false)] 131],1),[],[],[],0,[],[],
 [([0,1],⟨5,[(0,.ptr 0 0),(2,aI 0),(8,aD 1 6),(9,aI 2),(10,aI 3)],[.cells [aI 4,.bool (.lit true),.bool (.lit false)] 131 ],[],.lit 0⟩)]⟩
def aEs:FE:=⟨5500,181,[],[.one .bool],some (⟨3,[(0,.ptr 0 0),(1,aD 0 6)],[.cells [.map 1,.map 2] 179,
 .map [(.str [97],aU 1,0)] 0,
 .jJ (.aP 2) 1 ],[],.lit 0⟩,[.cells [.map 1,.map 2] 179,.map [(.str [97],aU 0,0)] 0,.jJ (.aP 1) 1],2),[],[],[],0,[],[],
 [([0,1,0,1],⟨5,[(0,.ptr 0 0),(7,aD 0 6),(8,aI 1),(9,aI 2)],[.cells [.map 1,.map 2] 179,
  .map [(.str [97],aU 3,0)] 0,
  .jJ (.aP 4) 1 ],[],.lit 0⟩)]⟩
def aEr:FE:=⟨5550,181,[],[.one .bool],some (⟨3,[(0,.ptr 0 0),(1,aD 0 6)],[.cells [.map 1,.map 2] 179,
 .map [(.str [98],.int .u8 (.lit 1),0),(.str [97],aU 1,0)] 0,
 .jJ (.aP 2) 1 ],[],.lit 0⟩,[.cells [.map 1,.map 2] 179,.map [(.str [98],aU 0,0),(.str [97],aU 1,0)] 0,.jJ (.aP 2) 1],3),[],[],[],0,[],[],
 [([0,1,0,1],⟨6,[(0,.ptr 0 0),(7,aD 0 6),(8,aI 1),(9,aI 2)],[.cells [.map 1,.map 2] 179,
  .map [(.str [98],aU 3,0),(.str [97],aU 4,0)] 0,
  .jJ (.aP 5) 1 ],[],.lit 0⟩)]⟩
def aEq:FE:=⟨5600,181,[],[.one .bool],some (⟨4,[(0,.ptr 0 0),(1,aD 0 6)],[.cells [.map 1,.map 2] 179,
 .map [(.str [98],aU 1,0),(.str [97],aU 2,0)] 0,
 .jJ (.aP 3) 1 ],[],.lit 0⟩,[.cells [.map 1,.map 2] 179,.map [(.str [98],aU 0,0),(.str [97],aU 1,0)] 0,.jJ (.aP 2) 1],3),[],[],[],0,[],[],
 [([0,1,0,1],⟨6,[(0,.ptr 0 0),(7,aD 0 6),(8,aI 1),(9,aI 2)],[.cells [.map 1,.map 2] 179,
  .map [(.str [98],aU 3,0),(.str [97],aU 4,0)] 0,
  .jJ (.aP 5) 1 ],[],.lit 0⟩)]⟩
def aAA:FE:=⟨16050,101,[],[.one (.int .i64)],some (⟨1,[(0,aD 0 0),(1,.func (.func 60) [] []) ],[],[],.lit 0⟩,[],0),[],[],[],0,[],[],
 [([0,1,0,1],⟨3,[(0,aD 0 0),(1,.func (.func 60) [] []),(7,aI 1),(8,aI 2) ],[],[],.lit 0⟩)]⟩
def aAZ:FE:=⟨12000,161,[],[],some (⟨13,[(0,aV 0 0 0),(1,.func (.func 162) [] [.ptr 1 0])],[.vec (.aP 0) 0 3 [],
 .cells [.ptr 2 0] 198,
 .cells [aI 1,.qZ 3 6 (.aP 2) 0,aI 3,aV 3 4 7,aU 5,aI 2,aI 6,aI 7] 200,
 .vec (.aP 4) 7 143 [(.aP 2,[aI 8,aI 9,aB 10,aI 11,aV 0 0 0,aV 4 12 0])],
 .vec (.aP 12) 0 2 []],[],.lit 0⟩,[.vec (.aP 0) 0 3 [],.cells [.ptr 2 0] 198,.cells [aI 1,.qZ 3 6 (.aP 2) 0,aI 3,aV 3 4 7,aU 5,aI 2,aI 6,aI 7] 200,.vec (.aP 4) 7 143 [(.aP 2,[aI 8,aI 9,aB 10,aI 11,aV 0 0 0,aV 4 12 0])],.vec (.aP 12) 0 2 []],13),[⟨13,[(0,aV 0 0 0)],[.vec (.aP 0) 0 3 [],
 .cells [.ptr 2 0] 198,
 .cells [aI 1,.qZ 3 6 (.aP 2) 0,aI 3,aV 3 4 7,aU 5,aI 2,aI 6,aI 7] 200,
 .vec (.aP 4) 7 143 [(.aP 2,[aI 8,aI 9,aB 10,aI 11,aV 0 0 0,aV 4 12 0])],
 .vec (.aP 12) 0 2 []],[],.lit 0⟩,⟨16,[(0,.BL 0 (.lit 0) (.aP 13) 0)],[.vec (.aP 14) 0 3 [],
 .cells [.ptr 2 0] 198,
 .cells [aI 1,.qZ 3 6 (.aP 2) 0,aI 3,aV 3 4 7,aU 5,aI 2,aI 6,aI 7] 200,
 .vec (.aP 4) 7 143 [(.aP 2,[aI 8,aI 9,aB 10,aI 11,.vZ 0 (.aP 15) 0,aV 4 12 0])],
 .vec (.aP 12) 0 2 []],[],.lit 0⟩],[],[],13,[],[],
 [([0,1,0,1,1,1],⟨16,[(0,aV 0 13 0),(1,.func (.func 162) [] [.ptr 1 0]),(5,aI 14),(6,aI 15)],[.vec (.aP 13) 0 3 [],
  .cells [.ptr 2 0] 198,
  .cells [aI 1,.qZ 3 6 (.aP 2) 0,aI 3,aV 3 4 7,aU 5,aI 2,aI 6,aI 7] 200,
  .vec (.aP 4) 7 143 [(.aP 2,[aI 8,aI 9,aB 10,aI 11,aV 0 13 0,aV 4 12 0])],
  .vec (.aP 12) 0 2 []],[],.lit 0⟩)]⟩
def aAY:FE:=⟨12050,183,[],[],some (⟨13,[(0,aV 0 0 0),(1,.func (.func 162) [] [.ptr 1 0])],[.vec (.aP 0) 0 3 [],
 .cells [.ptr 2 0] 198,
 .cells [aI 1,.qZ 3 6 (.aP 2) 0,aI 3,aV 3 4 7,aU 5,aI 2,aI 6,aI 7] 200,
 .vec (.aP 4) 7 143 [(.aP 2,[aI 8,aI 9,aB 10,aI 11,aV 0 0 0,aV 4 12 0])],
 .vec (.aP 12) 0 2 []],[],.lit 0⟩,[.vec (.aP 0) 0 3 [],.cells [.ptr 2 0] 198,.cells [aI 1,.qZ 3 6 (.aP 2) 0,aI 3,aV 3 4 7,aU 5,aI 2,aI 6,aI 7] 200,.vec (.aP 4) 7 143 [(.aP 2,[aI 8,aI 9,aB 10,aI 11,aV 0 0 0,aV 4 12 0])],.vec (.aP 12) 0 2 []],13),[⟨14,[(0,aI 13)],[.vec (.aP 0) 0 3 [],
 .cells [.ptr 2 0] 198,
 .cells [aI 1,.qZ 3 6 (.aP 2) 0,aI 3,aV 3 4 7,aU 5,aI 2,aI 6,aI 7] 200,
 .vec (.aP 4) 7 143 [(.aP 2,[aI 8,aI 9,aB 10,aI 11,aV 0 0 0,aV 4 12 0])],
 .vec (.aP 12) 0 2 []],[],.lit 0⟩],[],[],13,[],[],
 [([0,1,0,1],⟨15,[(0,aV 0 0 0),(1,.func (.func 162) [] [.ptr 1 0]),(7,aI 13),(8,aI 14)],[.vec (.aP 0) 0 3 [],
  .cells [.ptr 2 0] 198,
  .cells [aI 1,.qZ 3 6 (.aP 2) 0,aI 3,aV 3 4 7,aU 5,aI 2,aI 6,aI 7] 200,
  .vec (.aP 4) 7 143 [(.aP 2,[aI 8,aI 9,aB 10,aI 11,aV 0 0 0,aV 4 12 0])],
  .vec (.aP 12) 0 2 []],[],.lit 0⟩)]⟩
def aAX:FE:=⟨12100,161,[],[],some (⟨13,[(0,aV 0 0 0),(1,.func (.func 162) [] [.ptr 1 0])],[.vec (.aP 0) 0 3 [],
 .cells [.ptr 2 0] 198,
 .cells [aI 1,.qZ 3 6 (.aP 2) 0,aI 3,aV 3 4 7,aU 5,aI 2,aI 6,aI 7] 200,
 .vec (.aP 4) 7 143 [(.aP 2,[aI 8,aI 9,aB 10,aI 11,aV 0 0 0,aE 12 0])]],[],.lit 0⟩,[.vec (.aP 0) 0 3 [],.cells [.ptr 2 0] 198,.cells [aI 1,.qZ 3 6 (.aP 2) 0,aI 3,aV 3 4 7,aU 5,aI 2,aI 6,aI 7] 200,.vec (.aP 4) 7 143 [(.aP 2,[aI 8,aI 9,aB 10,aI 11,aV 0 0 0,aE 12 0])]],13),[⟨13,[(0,aV 0 0 0)],[.vec (.aP 0) 0 3 [],
 .cells [.ptr 2 0] 198,
 .cells [aI 1,.qZ 3 6 (.aP 2) 0,aI 3,aV 3 4 7,aU 5,aI 2,aI 6,aI 7] 200,
 .vec (.aP 4) 7 143 [(.aP 2,[aI 8,aI 9,aB 10,aI 11,aV 0 0 0,aE 12 0])]],[],.lit 0⟩,⟨16,[(0,.BL 0 (.lit 0) (.aP 13) 0)],[.vec (.aP 14) 0 3 [],
 .cells [.ptr 2 0] 198,
 .cells [aI 1,.qZ 3 6 (.aP 2) 0,aI 3,aV 3 4 7,aU 5,aI 2,aI 6,aI 7] 200,
 .vec (.aP 4) 7 143 [(.aP 2,[aI 8,aI 9,aB 10,aI 11,.vZ 0 (.aP 15) 0,aE 12 0])]],[],.lit 0⟩],[],[],13,[],[],
 [([0,1,0,1,1,1],⟨16,[(0,aV 0 13 0),(1,.func (.func 162) [] [.ptr 1 0]),(5,aI 14),(6,aI 15)],[.vec (.aP 13) 0 3 [],
  .cells [.ptr 2 0] 198,
  .cells [aI 1,.qZ 3 6 (.aP 2) 0,aI 3,aV 3 4 7,aU 5,aI 2,aI 6,aI 7] 200,
  .vec (.aP 4) 7 143 [(.aP 2,[aI 8,aI 9,aB 10,aI 11,aV 0 13 0,aE 12 0])]],[],.lit 0⟩)]⟩
def aAW:FE:=⟨12150,183,[],[],some (⟨13,[(0,aV 0 0 0),(1,.func (.func 162) [] [.ptr 1 0])],[.vec (.aP 0) 0 3 [],
 .cells [.ptr 2 0] 198,
 .cells [aI 1,.qZ 3 6 (.aP 2) 0,aI 3,aV 3 4 7,aU 5,aI 2,aI 6,aI 7] 200,
 .vec (.aP 4) 7 143 [(.aP 2,[aI 8,aI 9,aB 10,aI 11,aV 0 0 0,aE 12 0])]],[],.lit 0⟩,[.vec (.aP 0) 0 3 [],.cells [.ptr 2 0] 198,.cells [aI 1,.qZ 3 6 (.aP 2) 0,aI 3,aV 3 4 7,aU 5,aI 2,aI 6,aI 7] 200,.vec (.aP 4) 7 143 [(.aP 2,[aI 8,aI 9,aB 10,aI 11,aV 0 0 0,aE 12 0])]],13),[⟨14,[(0,aI 13)],[.vec (.aP 0) 0 3 [],
 .cells [.ptr 2 0] 198,
 .cells [aI 1,.qZ 3 6 (.aP 2) 0,aI 3,aV 3 4 7,aU 5,aI 2,aI 6,aI 7] 200,
 .vec (.aP 4) 7 143 [(.aP 2,[aI 8,aI 9,aB 10,aI 11,aV 0 0 0,aE 12 0])]],[],.lit 0⟩],[],[],13,[],[],
 [([0,1,0,1],⟨15,[(0,aV 0 0 0),(1,.func (.func 162) [] [.ptr 1 0]),(7,aI 13),(8,aI 14)],[.vec (.aP 0) 0 3 [],
  .cells [.ptr 2 0] 198,
  .cells [aI 1,.qZ 3 6 (.aP 2) 0,aI 3,aV 3 4 7,aU 5,aI 2,aI 6,aI 7] 200,
  .vec (.aP 4) 7 143 [(.aP 2,[aI 8,aI 9,aB 10,aI 11,aV 0 0 0,aE 12 0])]],[],.lit 0⟩)]⟩
def aAV:FE:=⟨12200,161,[],[],some (⟨13,[(0,aE 0 0),(1,.func (.func 162) [] [.ptr 0 0])],[.cells [.ptr 1 0] 198,
 .cells [aI 1,.qZ 2 6 (.aP 2) 0,aI 3,aV 2 4 7,aU 5,aI 2,aI 6,aI 7] 200,
 .vec (.aP 4) 7 143 [(.aP 2,[aI 8,aI 9,aB 10,aI 11,aE 0 0,aV 3 12 0])],
 .vec (.aP 12) 0 2 []],[],.lit 0⟩,[.cells [.ptr 1 0] 198,.cells [aI 1,.qZ 2 6 (.aP 2) 0,aI 3,aV 2 4 7,aU 5,aI 2,aI 6,aI 7] 200,.vec (.aP 4) 7 143 [(.aP 2,[aI 8,aI 9,aB 10,aI 11,aE 0 0,aV 3 12 0])],.vec (.aP 12) 0 2 []],13),[⟨13,[(0,aE 0 0)],[.cells [.ptr 1 0] 198,
 .cells [aI 1,.qZ 2 6 (.aP 2) 0,aI 3,aV 2 4 7,aU 5,aI 2,aI 6,aI 7] 200,
 .vec (.aP 4) 7 143 [(.aP 2,[aI 8,aI 9,aB 10,aI 11,aE 0 0,aV 3 12 0])],
 .vec (.aP 12) 0 2 []],[],.lit 0⟩],[],[],13,[],[],
 []⟩
def aAU:FE:=⟨12250,183,[],[],some (⟨13,[(0,aE 0 0),(1,.func (.func 162) [] [.ptr 0 0])],[.cells [.ptr 1 0] 198,
 .cells [aI 1,.qZ 2 6 (.aP 2) 0,aI 3,aV 2 4 7,aU 5,aI 2,aI 6,aI 7] 200,
 .vec (.aP 4) 7 143 [(.aP 2,[aI 8,aI 9,aB 10,aI 11,aE 0 0,aV 3 12 0])],
 .vec (.aP 12) 0 2 []],[],.lit 0⟩,[.cells [.ptr 1 0] 198,.cells [aI 1,.qZ 2 6 (.aP 2) 0,aI 3,aV 2 4 7,aU 5,aI 2,aI 6,aI 7] 200,.vec (.aP 4) 7 143 [(.aP 2,[aI 8,aI 9,aB 10,aI 11,aE 0 0,aV 3 12 0])],.vec (.aP 12) 0 2 []],13),[⟨13,[(0,aJ (-1))],[.cells [.ptr 1 0] 198,
 .cells [aI 1,.qZ 2 6 (.aP 2) 0,aI 3,aV 2 4 7,aU 5,aI 2,aI 6,aI 7] 200,
 .vec (.aP 4) 7 143 [(.aP 2,[aI 8,aI 9,aB 10,aI 11,aE 0 0,aV 3 12 0])],
 .vec (.aP 12) 0 2 []],[],.lit 0⟩],[],[],13,[],[],
 [([0,1,0,1],⟨13,[(0,aE 0 0),(1,.func (.func 162) [] [.ptr 0 0]),(7,aJ 0),(8,aJ 0)],[.cells [.ptr 1 0] 198,
  .cells [aI 1,.qZ 2 6 (.aP 2) 0,aI 3,aV 2 4 7,aU 5,aI 2,aI 6,aI 7] 200,
  .vec (.aP 4) 7 143 [(.aP 2,[aI 8,aI 9,aB 10,aI 11,aE 0 0,aV 3 12 0])],
  .vec (.aP 12) 0 2 []],[],.lit 0⟩)]⟩
def aAT:FE:=⟨12300,161,[],[],some (⟨13,[(0,aE 0 0),(1,.func (.func 162) [] [.ptr 0 0])],[.cells [.ptr 1 0] 198,
 .cells [aI 1,.qZ 2 6 (.aP 2) 0,aI 3,aV 2 4 7,aU 5,aI 2,aI 6,aI 7] 200,
 .vec (.aP 4) 7 143 [(.aP 2,[aI 8,aI 9,aB 10,aI 11,aE 0 0,aE 12 0])]],[],.lit 0⟩,[.cells [.ptr 1 0] 198,.cells [aI 1,.qZ 2 6 (.aP 2) 0,aI 3,aV 2 4 7,aU 5,aI 2,aI 6,aI 7] 200,.vec (.aP 4) 7 143 [(.aP 2,[aI 8,aI 9,aB 10,aI 11,aE 0 0,aE 12 0])]],13),[⟨13,[(0,aE 0 0)],[.cells [.ptr 1 0] 198,
 .cells [aI 1,.qZ 2 6 (.aP 2) 0,aI 3,aV 2 4 7,aU 5,aI 2,aI 6,aI 7] 200,
 .vec (.aP 4) 7 143 [(.aP 2,[aI 8,aI 9,aB 10,aI 11,aE 0 0,aE 12 0])]],[],.lit 0⟩],[],[],13,[],[],
 []⟩
def aAS:FE:=⟨12350,183,[],[],some (⟨13,[(0,aE 0 0),(1,.func (.func 162) [] [.ptr 0 0])],[.cells [.ptr 1 0] 198,
 .cells [aI 1,.qZ 2 6 (.aP 2) 0,aI 3,aV 2 4 7,aU 5,aI 2,aI 6,aI 7] 200,
 .vec (.aP 4) 7 143 [(.aP 2,[aI 8,aI 9,aB 10,aI 11,aE 0 0,aE 12 0])]],[],.lit 0⟩,[.cells [.ptr 1 0] 198,.cells [aI 1,.qZ 2 6 (.aP 2) 0,aI 3,aV 2 4 7,aU 5,aI 2,aI 6,aI 7] 200,.vec (.aP 4) 7 143 [(.aP 2,[aI 8,aI 9,aB 10,aI 11,aE 0 0,aE 12 0])]],13),[⟨13,[(0,aJ (-1))],[.cells [.ptr 1 0] 198,
 .cells [aI 1,.qZ 2 6 (.aP 2) 0,aI 3,aV 2 4 7,aU 5,aI 2,aI 6,aI 7] 200,
 .vec (.aP 4) 7 143 [(.aP 2,[aI 8,aI 9,aB 10,aI 11,aE 0 0,aE 12 0])]],[],.lit 0⟩],[],[],13,[],[],
 [([0,1,0,1],⟨13,[(0,aE 0 0),(1,.func (.func 162) [] [.ptr 0 0]),(7,aJ 0),(8,aJ 0)],[.cells [.ptr 1 0] 198,
  .cells [aI 1,.qZ 2 6 (.aP 2) 0,aI 3,aV 2 4 7,aU 5,aI 2,aI 6,aI 7] 200,
  .vec (.aP 4) 7 143 [(.aP 2,[aI 8,aI 9,aB 10,aI 11,aE 0 0,aE 12 0])]],[],.lit 0⟩)]⟩
def aAR:FE:=⟨12400,92,[],[],some (⟨7,[(0,.agg [.slice 0 0 1 (.exact 1),.slice 1 0 1 (.exact 1)])],[.cells [aU 0,.str [97],aI 1,.str [],aI 2] 121,
 .cells [.str [97],.slice 2 0 1 (.exact 1),aI 3] 125,
 .cells [.int .u8 (.lit 1),aU 4,.str [97],.str [],aI 5,.aA,.aA,.aA,aI 6] 171 ],[],.lit 0⟩,[.cells [aU 0,.str [97],aI 1,.str [],aI 2] 121,.cells [.str [97],.slice 2 0 1 (.exact 1),aI 3] 125,.cells [.int .u8 (.lit 1),aU 4,.str [97],.str [],aI 5,.aA,.aA,.aA,aI 6] 171],7),[⟨7,[(0,.bool (.lit false))],[.cells [aU 0,.str [97],aI 1,.str [],aI 2] 121,
 .cells [.str [97],.slice 2 0 1 (.exact 1),aI 3] 125,
 .cells [.int .u8 (.lit 1),aU 4,.str [97],.str [],aI 5,.aA,.aA,.aA,aI 6] 171 ],[],.lit 0⟩,⟨7,[(0,.bool (.lit true))],[.cells [aU 0,.str [97],aI 1,.str [],aI 2] 121,
 .cells [.str [97],.slice 2 0 1 (.exact 1),aI 3] 125,
 .cells [.int .u8 (.lit 1),aU 4,.str [97],.str [],aI 5,.aA,.aA,.aA,aI 6] 171 ],[],.lit 0⟩],[],[],7,[],[],
 []⟩
def aAQ:FE:=⟨12450,92,[],[],some (⟨9,[(0,.agg [.slice 0 0 2 (.exact 2),.slice 1 0 1 (.exact 1)])],[.cells [.int .u8 (.lit 1),.str [98],aI 0,.str [],aI 1,aU 2,.str [97],aI 3,.str [98],aI 4] 121,
 .cells [.str [97],.slice 2 0 1 (.exact 1),aI 5] 125,
 .cells [.int .u8 (.lit 1),aU 6,.str [97],.str [],aI 7,.aA,.aA,.aA,aI 8] 171 ],[],.lit 0⟩,[.cells [.int .u8 (.lit 1),.str [98],aI 0,.str [],aI 1,aU 2,.str [97],aI 3,.str [98],aI 4] 121,.cells [.str [97],.slice 2 0 1 (.exact 1),aI 5] 125,.cells [.int .u8 (.lit 1),aU 6,.str [97],.str [],aI 7,.aA,.aA,.aA,aI 8] 171],9),[⟨9,[(0,.bool (.lit false))],[.cells [.int .u8 (.lit 1),.str [98],aI 0,.str [],aI 1,aU 2,.str [97],aI 3,.str [98],aI 4] 121,
 .cells [.str [97],.slice 2 0 1 (.exact 1),aI 5] 125,
 .cells [.int .u8 (.lit 1),aU 6,.str [97],.str [],aI 7,.aA,.aA,.aA,aI 8] 171 ],[],.lit 0⟩,⟨9,[(0,.bool (.lit true))],[.cells [.int .u8 (.lit 1),.str [98],aI 0,.str [],aI 1,aU 2,.str [97],aI 3,.str [98],aI 4] 121,
 .cells [.str [97],.slice 2 0 1 (.exact 1),aI 5] 125,
 .cells [.int .u8 (.lit 1),aU 6,.str [97],.str [],aI 7,.aA,.aA,.aA,aI 8] 171 ],[],.lit 0⟩],[],[],9,[],[],
 []⟩
def aAP:FE:=⟨12500,92,[],[],some (⟨7,[(0,.agg [.slice 0 0 1 (.exact 1),.slice 1 0 1 (.exact 1)])],[.cells [aU 0,.str [97],aI 1,.str [],aI 2] 121,
 .cells [.str [97],.slice 2 0 1 (.exact 1),aI 3] 125,
 .cells [.int .u8 (.lit 1),aU 4,.str [97],.str [97],aI 5,.aA,.aA,.aA,aI 6] 171 ],[],.lit 0⟩,[.cells [aU 0,.str [97],aI 1,.str [],aI 2] 121,.cells [.str [97],.slice 2 0 1 (.exact 1),aI 3] 125,.cells [.int .u8 (.lit 1),aU 4,.str [97],.str [97],aI 5,.aA,.aA,.aA,aI 6] 171],7),[⟨7,[(0,.bool (.lit false))],[.cells [aU 0,.str [97],aI 1,.str [],aI 2] 121,
 .cells [.str [97],.slice 2 0 1 (.exact 1),aI 3] 125,
 .cells [.int .u8 (.lit 1),aU 4,.str [97],.str [97],aI 5,.aA,.aA,.aA,aI 6] 171 ],[],.lit 0⟩,⟨7,[(0,.bool (.lit true))],[.cells [aU 0,.str [97],aI 1,.str [],aI 2] 121,
 .cells [.str [97],.slice 2 0 1 (.exact 1),aI 3] 125,
 .cells [.int .u8 (.lit 1),aU 4,.str [97],.str [97],aI 5,.aA,.aA,.aA,aI 6] 171 ],[],.lit 0⟩],[],[],7,[],[],
 []⟩
def aAO:FE:=⟨12550,92,[],[],some (⟨9,[(0,.agg [.slice 0 0 2 (.exact 2),.slice 1 0 1 (.exact 1)])],[.cells [.int .u8 (.lit 1),.str [98],aI 0,.str [],aI 1,aU 2,.str [97],aI 3,.str [98],aI 4] 121,
 .cells [.str [97],.slice 2 0 1 (.exact 1),aI 5] 125,
 .cells [.int .u8 (.lit 1),aU 6,.str [97],.str [97],aI 7,.aA,.aA,.aA,aI 8] 171 ],[],.lit 0⟩,[.cells [.int .u8 (.lit 1),.str [98],aI 0,.str [],aI 1,aU 2,.str [97],aI 3,.str [98],aI 4] 121,.cells [.str [97],.slice 2 0 1 (.exact 1),aI 5] 125,.cells [.int .u8 (.lit 1),aU 6,.str [97],.str [97],aI 7,.aA,.aA,.aA,aI 8] 171],9),[⟨9,[(0,.bool (.lit false))],[.cells [.int .u8 (.lit 1),.str [98],aI 0,.str [],aI 1,aU 2,.str [97],aI 3,.str [98],aI 4] 121,
 .cells [.str [97],.slice 2 0 1 (.exact 1),aI 5] 125,
 .cells [.int .u8 (.lit 1),aU 6,.str [97],.str [97],aI 7,.aA,.aA,.aA,aI 8] 171 ],[],.lit 0⟩,⟨9,[(0,.bool (.lit true))],[.cells [.int .u8 (.lit 1),.str [98],aI 0,.str [],aI 1,aU 2,.str [97],aI 3,.str [98],aI 4] 121,
 .cells [.str [97],.slice 2 0 1 (.exact 1),aI 5] 125,
 .cells [.int .u8 (.lit 1),aU 6,.str [97],.str [97],aI 7,.aA,.aA,.aA,aI 8] 171 ],[],.lit 0⟩],[],[],9,[],[],
 []⟩
def aAN:FE:=⟨12600,92,[],[],some (⟨8,[(0,.agg [.slice 0 0 1 (.exact 1),.slice 1 0 1 (.exact 1)])],[.cells [aU 0,.str [97],aI 1,.str [],aI 2] 121,
 .cells [.str [97],.slice 2 0 1 (.exact 1),aI 3] 125,
 .cells [.int .u8 (.lit 1),aU 4,.str [97],.str [],aI 5,aV 3 6 6,.aA,.aA,aI 7] 171,
 .vec (.aP 6) 6 60 []],[],.lit 0⟩,[.cells [aU 0,.str [97],aI 1,.str [],aI 2] 121,.cells [.str [97],.slice 2 0 1 (.exact 1),aI 3] 125,.cells [.int .u8 (.lit 1),aU 4,.str [97],.str [],aI 5,aV 3 6 6,.aA,.aA,aI 7] 171,.vec (.aP 6) 6 60 []],8),[⟨8,[(0,.bool (.lit false))],[.cells [aU 0,.str [97],aI 1,.str [],aI 2] 121,
 .cells [.str [97],.slice 2 0 1 (.exact 1),aI 3] 125,
 .cells [.int .u8 (.lit 1),aU 4,.str [97],.str [],aI 5,aV 3 6 6,.aA,.aA,aI 7] 171,
 .vec (.aP 6) 6 60 []],[],.lit 0⟩,⟨10,[(0,.bool (.lit true))],[.cells [aU 0,.str [97],aI 1,.str [],aI 2] 121,
 .cells [.str [97],.slice 2 0 1 (.exact 1),aI 3] 125,
 .cells [.int .u8 (.lit 1),aU 4,.str [97],.str [],aI 5,.vZ 3 (.aP 8) 6,.aA,.aA,aI 7] 171,
 .vec (.aP 9) 6 60 []],[],.lit 0⟩],[],[],8,[],[],
 []⟩
def aAM:FE:=⟨12650,92,[],[],some (⟨10,[(0,.agg [.slice 0 0 2 (.exact 2),.slice 1 0 1 (.exact 1)])],[.cells [.int .u8 (.lit 1),.str [98],aI 0,.str [],aI 1,aU 2,.str [97],aI 3,.str [98],aI 4] 121,
 .cells [.str [97],.slice 2 0 1 (.exact 1),aI 5] 125,
 .cells [.int .u8 (.lit 1),aU 6,.str [97],.str [],aI 7,aV 3 8 6,.aA,.aA,aI 9] 171,
 .vec (.aP 8) 6 60 []],[],.lit 0⟩,[.cells [.int .u8 (.lit 1),.str [98],aI 0,.str [],aI 1,aU 2,.str [97],aI 3,.str [98],aI 4] 121,.cells [.str [97],.slice 2 0 1 (.exact 1),aI 5] 125,.cells [.int .u8 (.lit 1),aU 6,.str [97],.str [],aI 7,aV 3 8 6,.aA,.aA,aI 9] 171,.vec (.aP 8) 6 60 []],10),[⟨10,[(0,.bool (.lit false))],[.cells [.int .u8 (.lit 1),.str [98],aI 0,.str [],aI 1,aU 2,.str [97],aI 3,.str [98],aI 4] 121,
 .cells [.str [97],.slice 2 0 1 (.exact 1),aI 5] 125,
 .cells [.int .u8 (.lit 1),aU 6,.str [97],.str [],aI 7,aV 3 8 6,.aA,.aA,aI 9] 171,
 .vec (.aP 8) 6 60 []],[],.lit 0⟩,⟨12,[(0,.bool (.lit true))],[.cells [.int .u8 (.lit 1),.str [98],aI 0,.str [],aI 1,aU 2,.str [97],aI 3,.str [98],aI 4] 121,
 .cells [.str [97],.slice 2 0 1 (.exact 1),aI 5] 125,
 .cells [.int .u8 (.lit 1),aU 6,.str [97],.str [],aI 7,.vZ 3 (.aP 10) 6,.aA,.aA,aI 9] 171,
 .vec (.aP 11) 6 60 []],[],.lit 0⟩],[],[],10,[],[],
 []⟩
def aAL:FE:=⟨12700,92,[],[],some (⟨8,[(0,.agg [.slice 0 0 1 (.exact 1),.slice 1 0 1 (.exact 1)])],[.cells [aU 0,.str [97],aI 1,.str [],aI 2] 121,
 .cells [.str [97],.slice 2 0 1 (.exact 1),aI 3] 125,
 .cells [.int .u8 (.lit 1),aU 4,.str [97],.str [97],aI 5,aV 3 6 6,.aA,.aA,aI 7] 171,
 .vec (.aP 6) 6 60 []],[],.lit 0⟩,[.cells [aU 0,.str [97],aI 1,.str [],aI 2] 121,.cells [.str [97],.slice 2 0 1 (.exact 1),aI 3] 125,.cells [.int .u8 (.lit 1),aU 4,.str [97],.str [97],aI 5,aV 3 6 6,.aA,.aA,aI 7] 171,.vec (.aP 6) 6 60 []],8),[⟨8,[(0,.bool (.lit false))],[.cells [aU 0,.str [97],aI 1,.str [],aI 2] 121,
 .cells [.str [97],.slice 2 0 1 (.exact 1),aI 3] 125,
 .cells [.int .u8 (.lit 1),aU 4,.str [97],.str [97],aI 5,aV 3 6 6,.aA,.aA,aI 7] 171,
 .vec (.aP 6) 6 60 []],[],.lit 0⟩,⟨10,[(0,.bool (.lit true))],[.cells [aU 0,.str [97],aI 1,.str [],aI 2] 121,
 .cells [.str [97],.slice 2 0 1 (.exact 1),aI 3] 125,
 .cells [.int .u8 (.lit 1),aU 4,.str [97],.str [97],aI 5,.vZ 3 (.aP 8) 6,.aA,.aA,aI 7] 171,
 .vec (.aP 9) 6 60 []],[],.lit 0⟩],[],[],8,[],[],
 []⟩
def aAK:FE:=⟨12750,92,[],[],some (⟨10,[(0,.agg [.slice 0 0 2 (.exact 2),.slice 1 0 1 (.exact 1)])],[.cells [.int .u8 (.lit 1),.str [98],aI 0,.str [],aI 1,aU 2,.str [97],aI 3,.str [98],aI 4] 121,
 .cells [.str [97],.slice 2 0 1 (.exact 1),aI 5] 125,
 .cells [.int .u8 (.lit 1),aU 6,.str [97],.str [97],aI 7,aV 3 8 6,.aA,.aA,aI 9] 171,
 .vec (.aP 8) 6 60 []],[],.lit 0⟩,[.cells [.int .u8 (.lit 1),.str [98],aI 0,.str [],aI 1,aU 2,.str [97],aI 3,.str [98],aI 4] 121,.cells [.str [97],.slice 2 0 1 (.exact 1),aI 5] 125,.cells [.int .u8 (.lit 1),aU 6,.str [97],.str [97],aI 7,aV 3 8 6,.aA,.aA,aI 9] 171,.vec (.aP 8) 6 60 []],10),[⟨10,[(0,.bool (.lit false))],[.cells [.int .u8 (.lit 1),.str [98],aI 0,.str [],aI 1,aU 2,.str [97],aI 3,.str [98],aI 4] 121,
 .cells [.str [97],.slice 2 0 1 (.exact 1),aI 5] 125,
 .cells [.int .u8 (.lit 1),aU 6,.str [97],.str [97],aI 7,aV 3 8 6,.aA,.aA,aI 9] 171,
 .vec (.aP 8) 6 60 []],[],.lit 0⟩,⟨12,[(0,.bool (.lit true))],[.cells [.int .u8 (.lit 1),.str [98],aI 0,.str [],aI 1,aU 2,.str [97],aI 3,.str [98],aI 4] 121,
 .cells [.str [97],.slice 2 0 1 (.exact 1),aI 5] 125,
 .cells [.int .u8 (.lit 1),aU 6,.str [97],.str [97],aI 7,.vZ 3 (.aP 10) 6,.aA,.aA,aI 9] 171,
 .vec (.aP 11) 6 60 []],[],.lit 0⟩],[],[],10,[],[],
 []⟩
def aAJ:FE:=⟨12800,116,[],[],some (⟨2,[(0,.ptr 0 0),(1,aS 0),(2,aI 1)],[.cells (u8L cT0) 212 ],[],.lit 0⟩,[.cells (u8L cT0) 212],2),[⟨3,[(0,aI 2)],[.cells (u8L cT0) 212 ],[],.lit 0⟩],[],[],2,[],[],
 [([0,0,1,0,1],⟨3,[(0,.ptr 0 0),(1,aS 0),(2,aI 2)],[.cells (u8L cT0) 212 ],[],.lit 0⟩)]⟩
def aAI:FE:=⟨12850,118,[],[],some (⟨2,[(0,.ptr 0 0),(1,aS 0),(2,aI 1)],[.cells (u8L cT0) 212 ],[],.lit 0⟩,[.cells (u8L cT0) 212],2),[⟨3,[(0,aI 2)],[.cells (u8L cT0) 212 ],[],.lit 0⟩],[],[],2,[],[],
 [([0,0,1,1,1,1],⟨4,[(0,.ptr 0 0),(1,aS 0),(7,aU 2),(8,aI 3)],[.cells (u8L cT0) 212 ],[],.lit 0⟩)]⟩
def aAG:FE:=⟨14000,42,[],[],some (⟨11,[(0,.agg [aD 0 3,aD 1 4]),(1,.ptr 0 0),(2,aI 2)],[.cells [aD 3 7,aV 1 4 8] 36,
 .vec (.aP 4) 8 100 [(.aP 2,[aI 5,aV 2 6 0,aU 7,aI 8,aI 9,aI 10])],
 .vec (.aP 6) 0 2 []],[],.lit 0⟩,[.cells [aD 3 7,aV 1 4 8] 36,.vec (.aP 4) 8 100 [(.aP 2,[aI 5,aV 2 6 0,aU 7,aI 8,aI 9,aI 10])],.vec (.aP 6) 0 2 []],11),[⟨13,[],[.cells [aD 3 7,aV 1 4 8] 36,
 .vec (.aP 4) 8 100 [(.aP 2,[aI 11,aV 2 12 0,aU 7,aI 8,aI 9,aI 10])],
 .vec (.aP 12) 0 2 []],[],.lit 0⟩],[],[],11,[],[],
 []⟩
def aAE:FE:=⟨14500,43,[],[],some (⟨15,[(0,.agg [aD 0 3,aD 1 4]),(1,.ptr 0 0),(2,aI 2),(3,.agg [aU 3,aI 4,aI 5,aI 6])],[.cells [aD 7 7,aV 1 8 8] 36,
 .vec (.aP 8) 8 100 [(.aP 2,[aI 9,aV 2 10 0,aU 11,aI 12,aI 13,aI 14])],
 .vec (.aP 10) 0 2 []],[],.lit 0⟩,[.cells [aD 7 7,aV 1 8 8] 36,.vec (.aP 8) 8 100 [(.aP 2,[aI 9,aV 2 10 0,aU 11,aI 12,aI 13,aI 14])],.vec (.aP 10) 0 2 []],15),[⟨28,[(0,.agg [aI 15,aU 16,aI 17,aI 18,aI 19]),(1,aU 20)],[.cells [aD 21 7,aV 1 8 8] 36,
 .vec (.aP 8) 8 100 [(.aP 2,[aI 22,aV 2 23 0,aU 24,aI 25,aI 26,aI 27])],
 .vec (.aP 23) 0 2 []],[],.lit 0⟩],[],[],15,[],[],
 []⟩
def aAF:FE:=⟨14050,42,[],[],some (⟨11,[(0,.agg [aD 0 3,aD 1 4]),(1,.ptr 0 0),(2,aI 2)],[.cells [aD 3 7,aV 1 4 8] 36,
 .vec (.aP 4) 8 100 [(.aP 2,[aI 5,aE 6 0,aU 7,aI 8,aI 9,aI 10])]],[],.lit 0⟩,[.cells [aD 3 7,aV 1 4 8] 36,.vec (.aP 4) 8 100 [(.aP 2,[aI 5,aE 6 0,aU 7,aI 8,aI 9,aI 10])]],11),[⟨12,[],[.cells [aD 3 7,aV 1 4 8] 36,
 .vec (.aP 4) 8 100 [(.aP 2,[aI 11,aE 6 0,aU 7,aI 8,aI 9,aI 10])]],[],.lit 0⟩],[],[],11,[],[],
 []⟩
def aAD:FE:=⟨14550,43,[],[],some (⟨15,[(0,.agg [aD 0 3,aD 1 4]),(1,.ptr 0 0),(2,aI 2),(3,.agg [aU 3,aI 4,aI 5,aI 6])],[.cells [aD 7 7,aV 1 8 8] 36,
 .vec (.aP 8) 8 100 [(.aP 2,[aI 9,aE 10 0,aU 11,aI 12,aI 13,aI 14])]],[],.lit 0⟩,[.cells [aD 7 7,aV 1 8 8] 36,.vec (.aP 8) 8 100 [(.aP 2,[aI 9,aE 10 0,aU 11,aI 12,aI 13,aI 14])]],15),[⟨27,[(0,.agg [aI 15,aU 16,aI 17,aI 18,aI 19]),(1,aU 20)],[.cells [aD 21 7,aV 1 8 8] 36,
 .vec (.aP 8) 8 100 [(.aP 2,[aI 22,aE 10 0,aU 23,aI 24,aI 25,aI 26])]],[],.lit 0⟩],[],[],15,[],[],
 []⟩
def aAC:FE:=⟨15000,36,[],[],some (⟨11,[(0,.agg [aD 0 7,aD 1 8]),(1,.agg [aD 2 7,aD 3 8]),(2,.agg [aI 4,aU 5,aI 6,aI 7,aI 8]),(3,.func (.func 37) [] [.ptr 0 0,.ptr 1 0])],[.cells [aD 2 7,aD 3 8,aV 2 9 0] 38,
 .cells [aI 10] 2,
 .vec (.aP 9) 0 2 []],[],.lit 0⟩,[.cells [aD 2 7,aD 3 8,aV 2 9 0] 38,.cells [aI 10] 2,.vec (.aP 9) 0 2 []],11),[⟨12,[],[.cells [aD 2 7,aD 3 8,aV 2 11 0] 38,
 .cells [aI 10] 2,
 .vec (.aP 11) 0 2 []],[],.lit 0⟩],[],[],11,[],[],
 [([0,1,0,1,1,1,0,1,1],⟨15,[(3,.func (.func 37) [] [.ptr 0 0,.ptr 1 0]),(32,aD 11 0),(33,aI 12),(34,aI 13)],[.cells [aD 2 7,aD 3 8,aV 2 14 0] 38,
  .cells [aI 10] 2,
  .vec (.aP 14) 0 2 []],[],.lit 0⟩),([0,1,1,0,1,1,1,1,1,0,1,1],⟨14,[(3,.func (.func 37) [] [.ptr 0 0,.ptr 1 0]),(6,.ptr 3 0),(55,aD 3 8),(56,aI 11),(57,aI 12)],[.cells [aD 2 7,aD 3 8,aV 2 13 0] 38,
  .cells [aI 10] 2,
  .vec (.aP 13) 0 2 [],
  .cells [aI 4,aU 5,aI 6,aI 7,aI 8] 66 ],[],.lit 0⟩)]⟩
def aAz:FE:=⟨17000,7,[],[],some (⟨3,[(0,aD 0 0),(1,.ptr 0 0)],[.cells [aD 1 3,aD 2 4] 25 ],[],.lit 0⟩,[.cells [aD 1 3,aD 2 4] 25],3),[⟨3,[(0,.slice 1 0 0 (.exact 0))],[.cells [aD 1 3,aD 2 4] 25,
 .cells [] 3 ],[],.lit 0⟩,⟨4,[(0,aV 1 3 0)],[.cells [aD 1 3,aD 2 4] 25,
 .vec (.aP 3) 0 3 []],[],.lit 0⟩],[],[],3,[],[],
 [([0,1,0,1,1],⟨4,[(1,.ptr 0 0),(4,.slice 1 0 0 (.exact 0)),(13,aI 3)],[.cells [aD 1 3,aD 2 4] 25,
  .cells [] 3 ],[],.lit 0⟩),([0,1,0,1,1],⟨5,[(1,.ptr 0 0),(4,aV 1 3 0),(13,aI 4)],[.cells [aD 1 3,aD 2 4] 25,
  .vec (.aP 3) 0 3 []],[],.lit 0⟩),([0,1,0,0,1,1,0,0,1,0,1,1],⟨5,[(1,.ptr 0 0),(4,.slice 1 0 0 (.exact 0)),(13,aI 3),(17,aI 4),(18,aJ 0)],[.cells [aD 1 3,aD 2 4] 25,
  .cells [] 3 ],[],.lit 0⟩),([0,1,0,0,1,1,0,0,1,0,1,1],⟨7,[(1,.ptr 0 0),(4,aV 1 3 0),(13,aI 4),(17,aI 5),(18,aI 6)],[.cells [aD 1 3,aD 2 4] 25,
  .vec (.aP 3) 0 3 []],[],.lit 0⟩)]⟩
def aAH:FE:=⟨12900,92,[],[],some (⟨2,[(0,.agg [.aA,.slice 0 0 1 (.exact 1)])],[.cells [aS 0,.aA,aI 1] 125 ],[],.lit 0⟩,[.cells [aS 0,.aA,aI 1] 125],2),[⟨2,[(0,.bool (.lit false))],[.cells [aS 0,.aA,aI 1] 125 ],[],.lit 0⟩,⟨2,[(0,.bool (.lit true))],[.cells [aS 0,.aA,aI 1] 125 ],[],.lit 0⟩],[],[],2,[],[],
 []⟩
def feT:Tr FE:=(nO (nO (nS aHd (nS aG9 (nS aG1 (nS aEZ (nS aEE (nO (nL aAK) .nil) .nil) .nil) (nO .nil (nL aEr))) (nS aE7 (nS aER (nO .nil .nil) (nL aEz)) (nS aEL .nil (nO .nil (nL aAS))))) (nS aG5 (nS aGX (nS aEV .nil (nO (nO (nL aAD) .nil) .nil)) (nS aEM .nil (nO .nil (nL aAW)))) (nS aE3 (nS aEO .nil (nL aEv)) (nS aEH .nil (nO .nil (nL aAO)))))) (nS aHb (nS aG7 (nS aGZ (nS aEX (nO (nO (nL aAI) .nil) (nO (nL aAA) .nil)) .nil) (nS aEN .nil (nO .nil (nL aAY)))) (nS aE5 (nS aEP (nL aED) (nL aEx)) (nS aEJ (nO (nO (nL aAF) .nil) .nil) (nO .nil (nL aAQ))))) (nS aG3 (nS aE9 (nS aET (nO .nil .nil) (nL aEB)) (nO .nil (nO (nL aEo) (nL aAU)))) (nS aE1 (nO .nil (nL aEt)) (nS aEG .nil (nO .nil (nL aAM))))))) (nS aHe (nS aHc (nS aG8 (nS aG0 (nS aEY (nO (nO (nL aAJ) .nil) (nO (nL aAB) .nil)) .nil) (nO .nil (nS aEq .nil (nL aAZ)))) (nS aE6 (nS aEQ .nil (nL aEy)) (nS aEK (nO (nO (nL aAG) .nil) .nil) (nO .nil (nL aAR))))) (nS aG4 (nS aFa (nS aEU .nil (nL aEC)) (nO (nO .nil (nO (nL aAz) .nil)) (nO (nL aEp) (nL aAV)))) (nS aE2 (nO .nil (nS aEu (nO (nL aAC) .nil) .nil)) (nO .nil (nO .nil (nL aAN)))))) (nS aHa (nS aG6 (nS aGY (nS aEW (nO (nO (nL aAH) .nil) .nil) (nO (nO (nL aAE) .nil) .nil)) (nO .nil (nO .nil (nL aAX)))) (nS aE4 (nO (nL asK) (nL aEw)) (nS aEI .nil (nO .nil (nL aAP))))) (nS aG2 (nS aE8 (nS aES .nil (nL aEA)) (nO .nil (nO .nil (nL aAT)))) (nS aE0 (nO .nil (nL aEs)) (nS aEF .nil (nO .nil (nL aAL))))))))
def aDP:Tr (List Nat):=(nO (nO (nS [3700] (nS [17000] (nS [150] (nO (nL [2900]) .nil) (nO .nil (nO (nL [1300]) .nil))) (nS [1800] (nL [1600]) (nO .nil (nS [1100] (nL [12050,12150,12250,12350]) .nil)))) (nS [3650] (nO (nL [2950]) (nO .nil (nO (nL [1150]) .nil))) (nS [1550] (nS [14500,14550] (nL [250]) (nL [9000,550])) (nL [16000])))) (nS [100] (nS [2450] (nS [2800] (nS [3050] (nO (nL [5100,5250,5450]) .nil) (nO (nL [12000,12100,12200,12300]) .nil)) (nO (nL [1050]) (nL [5400]))) (nS [1450] (nS [1750] .nil (nL [650])) (nO (nL [1400]) .nil))) (nS [1700] (nS [1500] (nO .nil (nL [16050])) (nO .nil (nO (nL [5150,5200,5300,5350,5500,5550,5600]) .nil))) (nO (nS [450] (nL [750]) .nil) .nil)))) (nO (nO (nS [3150] (nO (nS [2750] (nL [500]) .nil) (nO (nL [800]) (nL [950]))) (nS [2050] (nL [9050,1900]) .nil)) (nS [2150] (nO (nS [15000] (nL [1950]) .nil) (nO (nL [1350]) (nS [12800] (nL [1200]) .nil))) (nS [1650] (nS [200] (nL [700]) (nL [600])) (nO (nL [12400,12450,12500,12550,12600,12650,12700,12750,12900]) .nil)))) (nO (nS [2550] (nS [3100] (nL [2850]) (nO .nil (nL [5050]))) (nS [2000] (nS [14000,14050] (nL [400]) .nil) (nO (nL [1000]) .nil))) (nO (nS [1850] (nS [350] .nil (nL [850])) (nO .nil (nL [12850]))) (nO (nS [300] (nL [5000]) (nO (nL [1250]) .nil)) (nL [900]))))))
noncomputable def St:alY:=⟨Tryz.prog,base,ttE,ft,Xj ttE hints,UC ttE hints,acB,lim 341 feT,fun g=>(lim 184 aDP g).getD []⟩
noncomputable def S:Sys:=St.sys
theorem aGW:(List.range 341).all (fun k=>match feT.get k with |some f=>asJ ft k f|none=>true)=true:=by kernel_rfl
theorem aDO:(List.range 184).all (fun g=>Yl ft (lim 341 feT) g ((aDP.get g).getD []))=true:=by kernel_rfl
theorem aDD:QO S:=by
 refine ayR amW aEl (fun I call hc=>@Ik _ I _ amW mixed _ _ hc) akS (fun k f hf=>?_) fun g=>?_
 ·have hf':lim 341 feT k=some f:=hf;unfold lim at hf';split at hf'
  ·simp at hf'
  ·rename_i hle
   have hlt:k<341:=by
    rcases aJx k 341 with h|h
    ·exact h
    ·rw [aK3 h] at hle; simp at hle
   have:=aJD.1 aGW k (aJ8.2 hlt);rw [hf'] at this;exact this
 ·show Yl ft (lim 341 feT) g ((lim 184 aDP g).getD [])=true;unfold lim;split
  ·rfl
  ·rename_i hle
   have hlt:g<184:=by
    rcases aJx g 184 with h|h
    ·exact h
    ·rw [aK3 h] at hle; simp at hle
   exact aJD.1 aDO g (aJ8.2 hlt)
end Go.As.Try
end
section
namespace Go.As.Try
open Go hiding Stat Spec shape
open Go.As Go.Proofs
set_option maxRecDepth 100000
noncomputable section
def b0:D:=.p (.i 0) (.p (.i 0) (.p (.i 0) (.p (.i 0) (.p (.i 0) (.p (.i 0) (.p (.i 0) (.p (.i 0) (.p (.i 0) (.p (.i 1) (.p (.i 1) (.p (.i 0) (.p (.i 0) (.p (.i 1) (.p (.i 0) (.p (.i 0) (.p (.i 0) (.p (.i 0) (.p (.i 0) (.p (.i 0) (.p (.i 0) (.p (.i 0) (.p (.i 0) (.p (.i 0) (.p (.i 0) (.p (.i 0) (.p (.i 0) (.p (.i 0) (.p (.i 0) (.p (.i 0) (.p (.i 0) (.p (.i 0) (.p (.i 1) (.p (.i 0) (.p (.i 0) (.p (.i 2) (.p (.i 0) (.p (.i 0) (.p (.i 0) (.p (.i 0) (.p (.i 5) (.p (.i 5) (.p (.i 5) (.p (.i 5) (.p (.i 0) (.p (.i 5) (.p (.i 0) (.p (.i 0) (.p (.i 3) (.p (.i 3) (.p (.i 3) (.p (.i 3) (.p (.i 3) (.p (.i 3) (.p (.i 3) (.p (.i 3) (.p (.i 3) (.p (.i 3) (.p (.i 0) (.p (.i 5) (.p (.i 5) (.p (.i 5) (.p (.i 0) (.p (.i 0) (.p (.i 0) (.p (.i 4) (.p (.i 4) (.p (.i 4) (.p (.i 4) (.p (.i 4) (.p (.i 4) (.p (.i 4) (.p (.i 4) (.p (.i 4) (.p (.i 4) (.p (.i 4) (.p (.i 4) (.p (.i 4) (.p (.i 4) (.p (.i 4) (.p (.i 4) (.p (.i 4) (.p (.i 4) (.p (.i 4) (.p (.i 4) (.p (.i 4) (.p (.i 4) (.p (.i 4) (.p (.i 4) (.p (.i 4) (.p (.i 4) (.p (.i 0) (.p (.i 0) (.p (.i 0) (.p (.i 0) (.p (.i 4) (.p (.i 0) (.p (.i 4) (.p (.i 4) (.p (.i 4) (.p (.i 4) (.p (.i 4) (.p (.i 4) (.p (.i 4) (.p (.i 4) (.p (.i 4) (.p (.i 4) (.p (.i 4) (.p (.i 4) (.p (.i 4) (.p (.i 4) (.p (.i 4) (.p (.i 4) (.p (.i 4) (.p (.i 4) (.p (.i 4) (.p (.i 4) (.p (.i 4) (.p (.i 4) (.p (.i 4) (.p (.i 4) (.p (.i 4) (.p (.i 4) (.p (.i 5) (.p (.i 0) (.p (.i 5) (.p (.i 0) (.p (.i 0) (.p (.i 0) (.p (.i 0) (.p (.i 0) (.p (.i 0) (.p (.i 0) (.p (.i 0) (.p (.i 0) (.p (.i 0) (.p (.i 0) (.p (.i 0) (.p (.i 0) (.p (.i 0) (.p (.i 0) (.p (.i 0) (.p (.i 0) (.p (.i 0) (.p (.i 0) (.p (.i 0) (.p (.i 0) (.p (.i 0) (.p (.i 0) (.p (.i 0) (.p (.i 0) (.p (.i 0) (.p (.i 0) (.p (.i 0) (.p (.i 0) (.p (.i 0) (.p (.i 0) (.p (.i 0) (.p (.i 0) (.p (.i 0) (.p (.i 0) (.p (.i 0) (.p (.i 0) (.p (.i 0) (.p (.i 0) (.p (.i 0) (.p (.i 0) (.p (.i 0) (.p (.i 0) (.p (.i 0) (.p (.i 0) (.p (.i 0) (.p (.i 0) (.p (.i 0) (.p (.i 0) (.p (.i 0) (.p (.i 0) (.p (.i 0) (.p (.i 0) (.p (.i 0) (.p (.i 0) (.p (.i 0) (.p (.i 0) (.p (.i 0) (.p (.i 0) (.p (.i 0) (.p (.i 0) (.p (.i 0) (.p (.i 0) (.p (.i 0) (.p (.i 0) (.p (.i 0) (.p (.i 0) (.p (.i 0) (.p (.i 0) (.p (.i 0) (.p (.i 0) (.p (.i 0) (.p (.i 0) (.p (.i 0) (.p (.i 0) (.p (.i 0) (.p (.i 0) (.p (.i 0) (.p (.i 0) (.p (.i 0) (.p (.i 0) (.p (.i 0) (.p (.i 0) (.p (.i 0) (.p (.i 0) (.p (.i 0) (.p (.i 0) (.p (.i 0) (.p (.i 0) (.p (.i 0) (.p (.i 0) (.p (.i 0) (.p (.i 0) (.p (.i 0) (.p (.i 0) (.p (.i 0) (.p (.i 0) (.p (.i 0) (.p (.i 0) (.p (.i 0) (.p (.i 0) (.p (.i 0) (.p (.i 0) (.p (.i 0) (.p (.i 0) (.p (.i 0) (.p (.i 0) (.p (.i 0) (.p (.i 0) (.p (.i 0) (.p (.i 0) (.p (.i 0) (.p (.i 0) (.p (.i 0) (.p (.i 0) (.p (.i 0) (.p (.i 0) (.p (.i 0) (.p (.i 0) (.p (.i 0) (.p (.i 0) (.p (.i 0) (.p (.i 0) (.p (.i 0) (.p (.i 0) (.p (.i 0) (.p (.i 0) (.p (.i 0) (.p (.i 0) (.p (.i 0) (.i 0))))))))))))))))))))))))))))))))))))))))))))))))))))))))))))))))))))))))))))))))))))))))))))))))))))))))))))))))))))))))))))))))))))))))))))))))))))))))))))))))))))))))))))))))))))))))))))))))))))))))))))))))))))))))))))))))))))))))))))))))))))))))))))))))
def b1:D:=.p (.i 32) (.p (.i 97) (.p (.i 99) (.p (.i 113) (.p (.i 117) (.p (.i 105) (.p (.i 114) (.p (.i 101) (.p (.i 32) (.p (.i 97) (.p (.i 100) (.p (.i 100) (.p (.i 32) (.p (.i 97) (.p (.i 114) (.p (.i 114) (.p (.i 105) (.p (.i 118) (.p (.i 101) (.p (.i 32) (.p (.i 98) (.p (.i 97) (.p (.i 114) (.p (.i 114) (.p (.i 105) (.p (.i 101) (.p (.i 114) (.p (.i 32) (.p (.i 98) (.p (.i 114) (.p (.i 111) (.p (.i 97) (.p (.i 100) (.p (.i 99) (.p (.i 97) (.p (.i 115) (.p (.i 116) (.p (.i 32) (.p (.i 99) (.p (.i 111) (.p (.i 110) (.p (.i 100) (.p (.i 32) (.p (.i 100) (.p (.i 111) (.p (.i 32) (.p (.i 100) (.p (.i 111) (.p (.i 110) (.p (.i 101) (.p (.i 32) (.p (.i 101) (.p (.i 108) (.p (.i 115) (.p (.i 101) (.p (.i 32) (.p (.i 105) (.p (.i 102) (.p (.i 32) (.p (.i 108) (.p (.i 111) (.p (.i 99) (.p (.i 107) (.p (.i 32) (.p (.i 108) (.p (.i 111) (.p (.i 99) (.p (.i 107) (.p (.i 102) (.p (.i 111) (.p (.i 114) (.p (.i 32) (.p (.i 108) (.p (.i 111) (.p (.i 111) (.p (.i 112) (.p (.i 32) (.p (.i 109) (.p (.i 117) (.p (.i 116) (.p (.i 101) (.p (.i 120) (.p (.i 32) (.p (.i 111) (.p (.i 110) (.p (.i 99) (.p (.i 101) (.p (.i 32) (.p (.i 112) (.p (.i 117) (.p (.i 116) (.p (.i 32) (.p (.i 113) (.p (.i 117) (.p (.i 101) (.p (.i 117) (.p (.i 101) (.p (.i 32) (.p (.i 114) (.p (.i 101) (.p (.i 97) (.p (.i 100) (.p (.i 32) (.p (.i 114) (.p (.i 101) (.p (.i 108) (.p (.i 101) (.p (.i 97) (.p (.i 115) (.p (.i 101) (.p (.i 32) (.p (.i 114) (.p (.i 108) (.p (.i 111) (.p (.i 99) (.p (.i 107) (.p (.i 32) (.p (.i 114) (.p (.i 117) (.p (.i 110) (.p (.i 108) (.p (.i 111) (.p (.i 99) (.p (.i 107) (.p (.i 32) (.p (.i 114) (.p (.i 119) (.p (.i 108) (.p (.i 111) (.p (.i 99) (.p (.i 107) (.p (.i 32) (.p (.i 115) (.p (.i 101) (.p (.i 109) (.p (.i 32) (.p (.i 115) (.p (.i 101) (.p (.i 116) (.p (.i 32) (.p (.i 115) (.p (.i 105) (.p (.i 103) (.p (.i 110) (.p (.i 97) (.p (.i 108) (.p (.i 32) (.p (.i 116) (.p (.i 97) (.p (.i 107) (.p (.i 101) (.p (.i 32) (.p (.i 116) (.p (.i 104) (.p (.i 114) (.p (.i 101) (.p (.i 97) (.p (.i 100) (.p (.i 32) (.p (.i 116) (.p (.i 114) (.p (.i 121) (.p (.i 97) (.p (.i 99) (.p (.i 113) (.p (.i 117) (.p (.i 105) (.p (.i 114) (.p (.i 101) (.p (.i 32) (.p (.i 116) (.p (.i 114) (.p (.i 121) (.p (.i 108) (.p (.i 111) (.p (.i 99) (.p (.i 107) (.p (.i 32) (.p (.i 117) (.p (.i 110) (.p (.i 108) (.p (.i 111) (.p (.i 99) (.p (.i 107) (.p (.i 32) (.p (.i 118) (.p (.i 97) (.p (.i 114) (.p (.i 32) (.p (.i 119) (.p (.i 97) (.p (.i 105) (.p (.i 116) (.p (.i 32) (.p (.i 119) (.p (.i 97) (.p (.i 105) (.p (.i 116) (.p (.i 102) (.p (.i 111) (.p (.i 114) (.p (.i 32) (.p (.i 119) (.p (.i 97) (.p (.i 105) (.p (.i 116) (.p (.i 111) (.p (.i 110) (.p (.i 32) (.p (.i 119) (.p (.i 108) (.p (.i 111) (.p (.i 99) (.p (.i 107) (.p (.i 32) (.p (.i 119) (.p (.i 114) (.p (.i 105) (.p (.i 116) (.p (.i 101) (.p (.i 32) (.p (.i 119) (.p (.i 117) (.p (.i 110) (.p (.i 108) (.p (.i 111) (.p (.i 99) (.p (.i 107) (.p (.i 32) (.i 0)))))))))))))))))))))))))))))))))))))))))))))))))))))))))))))))))))))))))))))))))))))))))))))))))))))))))))))))))))))))))))))))))))))))))))))))))))))))))))))))))))))))))))))))))))))))))))))))))))))))))))))))))))))))))))))))))))))
abbrev Qa:SE:=.lit 0
abbrev Qb:SE:=.aP 1
abbrev Qc:SE:=ln Qb
abbrev Qd:SB:=.lt Qa Qc
abbrev Qe:SB:=.lt Qc (.lit 1759218604441)
abbrev Qf:SE:=.aP 0
abbrev Qg:SE:=.op .norm Qb Qa
abbrev Qh:SE:=.dat (.i 1)
abbrev Qi:SB:=.eq Qg Qh
abbrev Qj:List SE:=[Qf]
abbrev Qk:SE:=.dat (.i 2)
abbrev Ql:SB:=.eq Qg Qk
def RV:T Lf:=sp Qd (sp Qe (ju 9001 [Qf,Qb,Qc,Qa]) fl) (sp Qi (ju 9002 Qj) (sp Ql (ju 9003 Qj) fl))
abbrev Qm:SE:=.aP 3
abbrev Qn:SB:=.eq Qm Qf
abbrev Qo:SE:=.aP 2
abbrev Qp:SB:=.lt Qm Qo
abbrev Qq:SB:=.lt Qm Qa
abbrev Qr:SB:=.lt Qm Qc
abbrev Qs:SE:=el Qb Qm
abbrev Qt:SE:=ce 4 Qs
abbrev Qu:SB:=.lt Qa (ln Qt)
abbrev Qv:SE:=.lit 17592186044416
abbrev Qw:SB:=.lt (ln Qt) Qv
abbrev Qx:SE:=ce 5 Qs
abbrev Qy:SB:=.lt Qa (ln Qx)
abbrev Qz:SB:=.lt (ln Qx) Qv
abbrev Q0:SE:=.lit 1
abbrev Q1:SE:=wr (.add Qm Q0)
abbrev Q2:SE:=el Qb Qf
abbrev Q3:SE:=nm (ce 0 Q2)
abbrev Q4:SE:=nm (ce 1 Q2)
abbrev Q5:SE:=nm (ce 2 Q2)
abbrev Q6:SE:=nm (ce 3 Q2)
abbrev Q7:SB:=.eq Qx Qh
abbrev Q8:SB:=.eq Qx Qk
abbrev Q9:SB:=.eq Qt Qh
abbrev Qba:SB:=.eq Qt Qk
abbrev Qbb:T Lf:=ou [Qa,Qf,Qb]
abbrev ZU:SE:=mk Qm
abbrev Qbd:SE:=.dat (.i 4)
abbrev Qbe:SE:=.op .set Qb (cn ZU (.op .set Qs (cn Qbd Qt)))
abbrev Qbf:SE:=.dat (.i 5)
abbrev Qbg:SE:=.op .set Qbe (cn ZU (.op .set (el Qbe Qm) (cn Qbf Qx)))
abbrev Qbh:SE:=cn Qbf Qh
abbrev Qbi:SE:=.op .set Qbe (cn ZU (.op .set (el Qbe Qm) Qbh))
abbrev Qbj:SE:=cn Qbf Qk
abbrev Qbk:SE:=.op .set Qbe (cn ZU (.op .set (el Qbe Qm) Qbj))
abbrev Qbl:SE:=cn Qbd Qh
abbrev Qbm:SE:=.op .set Qb (cn ZU (.op .set Qs Qbl))
abbrev Qbn:SE:=.op .set Qbm (cn ZU (.op .set (el Qbm Qm) (cn Qbf Qx)))
abbrev Qbo:SE:=.op .set Qbm (cn ZU (.op .set (el Qbm Qm) Qbh))
abbrev Qbp:SE:=.op .set Qbm (cn ZU (.op .set (el Qbm Qm) Qbj))
abbrev Qbq:SE:=cn Qbd Qk
abbrev Qbr:SE:=.op .set Qb (cn ZU (.op .set Qs Qbq))
abbrev Qbs:SE:=.op .set Qbr (cn ZU (.op .set (el Qbr Qm) (cn Qbf Qx)))
abbrev Qbt:SE:=.op .set Qbr (cn ZU (.op .set (el Qbr Qm) Qbh))
abbrev Qbu:SE:=.op .set Qbr (cn ZU (.op .set (el Qbr Qm) Qbj))
def wE:T Lf:=sp Qn (sp Qp (sp Qq fl (sp Qr (sp Qu (sp Qw (sp Qy (sp Qz (ju 9004 [Qf,Qb,Qo,Q1,Q3,Q4,Q5,Q6,Qt,Qx]) fl) (sp Q7 (ju 9005 [Qf,Qb,Qo,Q1,Q3,Q4,Q5,Q6,Qt,Qh]) (sp Q8 (ju 9005 [Qf,Qb,Qo,Q1,Q3,Q4,Q5,Q6,Qt,Qk]) fl))) fl) (sp Q9 (sp Qy (sp Qz (ju 9006 [Qf,Qb,Qo,Q1,Q3,Q4,Q5,Q6,Qh,Qx]) fl) (sp Q7 (ju 9007 [Qf,Qb,Qo,Q1,Q3,Q4,Q5,Q6,Qh,Qh]) (sp Q8 (ju 9007 [Qf,Qb,Qo,Q1,Q3,Q4,Q5,Q6,Qh,Qk]) fl))) (sp Qba (sp Qy (sp Qz (ju 9006 [Qf,Qb,Qo,Q1,Q3,Q4,Q5,Q6,Qk,Qx]) fl) (sp Q7 (ju 9007 [Qf,Qb,Qo,Q1,Q3,Q4,Q5,Q6,Qk,Qh]) (sp Q8 (ju 9007 [Qf,Qb,Qo,Q1,Q3,Q4,Q5,Q6,Qk,Qk]) fl))) fl))) fl)) Qbb) (sp Qp (sp Qq fl (sp Qr (sp Qu (sp Qw (sp Qy (sp Qz (ju 9001 [Qf,Qbg,Qo,Q1]) fl) (sp Q7 (ju 9001 [Qf,Qbi,Qo,Q1]) (sp Q8 (ju 9001 [Qf,Qbk,Qo,Q1]) fl))) fl) (sp Q9 (sp Qy (sp Qz (ju 9001 [Qf,Qbn,Qo,Q1]) fl) (sp Q7 (ju 9001 [Qf,Qbo,Qo,Q1]) (sp Q8 (ju 9001 [Qf,Qbp,Qo,Q1]) fl))) (sp Qba (sp Qy (sp Qz (ju 9001 [Qf,Qbs,Qo,Q1]) fl) (sp Q7 (ju 9001 [Qf,Qbt,Qo,Q1]) (sp Q8 (ju 9001 [Qf,Qbu,Qo,Q1]) fl))) fl))) fl)) Qbb)
abbrev Qbv:SB:=.eq Qa Qf
def anJ:T Lf:=sp Qbv (ou [Q0,Qf]) (ou [Q0,Qf])
abbrev nT:SE:=.lit 2
def anI:T Lf:=sp Qbv (ou [nT,Qf]) (ou [nT,Qf])
abbrev Qbx:T Lf:=sp Qq fl (sp Qr fl fl)
abbrev wV:SE:=.lit 3
abbrev bC:SE:=.aP 4
abbrev bK:SE:=.aP 5
abbrev cZ:SE:=.aP 6
abbrev dZ:SE:=.aP 7
abbrev fQ:SE:=.aP 8
abbrev fP:SE:=.aP 9
abbrev Qb5:T Lf:=ou [wV,Qf,Qb,bC,bK,cZ,dZ,fQ,fP]
abbrev Qb6:List SE:=[Qf,Qbg,Qo,Q1,bC,bK,cZ,dZ,fQ,fP]
abbrev Qb7:List SE:=[Qf,Qbi,Qo,Q1,bC,bK,cZ,dZ,fQ,fP]
abbrev Qb8:List SE:=[Qf,Qbk,Qo,Q1,bC,bK,cZ,dZ,fQ,fP]
abbrev Qb9:List SE:=[Qf,Qbn,Qo,Q1,bC,bK,cZ,dZ,fQ,fP]
abbrev Qca:List SE:=[Qf,Qbo,Qo,Q1,bC,bK,cZ,dZ,fQ,fP]
abbrev Qcb:List SE:=[Qf,Qbp,Qo,Q1,bC,bK,cZ,dZ,fQ,fP]
abbrev Qcc:List SE:=[Qf,Qbs,Qo,Q1,bC,bK,cZ,dZ,fQ,fP]
abbrev Qcd:List SE:=[Qf,Qbt,Qo,Q1,bC,bK,cZ,dZ,fQ,fP]
abbrev Qce:List SE:=[Qf,Qbu,Qo,Q1,bC,bK,cZ,dZ,fQ,fP]
def aeS:T Lf:=sp Qn (sp Qp Qbx Qb5) (sp Qp (sp Qq fl (sp Qr (sp Qu (sp Qw (sp Qy (sp Qz (ju 9004 Qb6) fl) (sp Q7 (ju 9004 Qb7) (sp Q8 (ju 9004 Qb8) fl))) fl) (sp Q9 (sp Qy (sp Qz (ju 9004 Qb9) fl) (sp Q7 (ju 9004 Qca) (sp Q8 (ju 9004 Qcb) fl))) (sp Qba (sp Qy (sp Qz (ju 9004 Qcc) fl) (sp Q7 (ju 9004 Qcd) (sp Q8 (ju 9004 Qce) fl))) fl))) fl)) Qb5)
abbrev rY:SE:=.lit 4
abbrev Qcg:T Lf:=ou [rY,Qf,Qb,bC,bK,cZ,dZ,fQ,fP]
def aeR:T Lf:=sp Qn (sp Qp Qbx Qcg) (sp Qp (sp Qq fl (sp Qr (sp Qu (sp Qw (sp Qy (sp Qz (ju 9005 Qb6) fl) (sp Q7 (ju 9005 Qb7) (sp Q8 (ju 9005 Qb8) fl))) fl) (sp Q9 (sp Qy (sp Qz (ju 9005 Qb9) fl) (sp Q7 (ju 9005 Qca) (sp Q8 (ju 9005 Qcb) fl))) (sp Qba (sp Qy (sp Qz (ju 9005 Qcc) fl) (sp Q7 (ju 9005 Qcd) (sp Q8 (ju 9005 Qce) fl))) fl))) fl)) Qcg)
abbrev Qch:SE:=.lit 5
abbrev Qci:T Lf:=ou [Qch,Qf,Qb,bC,bK,cZ,dZ,fQ,fP]
def aeQ:T Lf:=sp Qn (sp Qp Qbx Qci) (sp Qp (sp Qq fl (sp Qr (sp Qu (sp Qw (sp Qy (sp Qz (ju 9006 Qb6) fl) (sp Q7 (ju 9006 Qb7) (sp Q8 (ju 9006 Qb8) fl))) fl) (sp Q9 (sp Qy (sp Qz (ju 9006 Qb9) fl) (sp Q7 (ju 9006 Qca) (sp Q8 (ju 9006 Qcb) fl))) (sp Qba (sp Qy (sp Qz (ju 9006 Qcc) fl) (sp Q7 (ju 9006 Qcd) (sp Q8 (ju 9006 Qce) fl))) fl))) fl)) Qci)
abbrev ZT:SE:=.lit 6
abbrev Qck:T Lf:=ou [ZT,Qf,Qb,bC,bK,cZ,dZ,fQ,fP]
def aeP:T Lf:=sp Qn (sp Qp Qbx Qck) (sp Qp (sp Qq fl (sp Qr (sp Qu (sp Qw (sp Qy (sp Qz (ju 9007 Qb6) fl) (sp Q7 (ju 9007 Qb7) (sp Q8 (ju 9007 Qb8) fl))) fl) (sp Q9 (sp Qy (sp Qz (ju 9007 Qb9) fl) (sp Q7 (ju 9007 Qca) (sp Q8 (ju 9007 Qcb) fl))) (sp Qba (sp Qy (sp Qz (ju 9007 Qcc) fl) (sp Q7 (ju 9007 Qcd) (sp Q8 (ju 9007 Qce) fl))) fl))) fl)) Qck)
abbrev Qcl:SE:=ln Qo
abbrev Qcm:SB:=.lt Qa Qcl
abbrev Qcn:SB:=.lt Qcl (.lit 2199023255552)
abbrev Qco:SB:=.eq (.op .norm Qo Qa) Qh
abbrev Qcp:List SE:=[Qf,Qc,Qa,Qb]
abbrev Qcq:SB:=.eq (.op .norm Qo Qa) Qk
def JR:T Lf:=sp Qd (sp Qe (sp Qcm (sp Qcn (ju 9051 [Qf,Qc,Qa,Qb,Qo]) fl) (sp Qco (ju 9052 Qcp) (sp Qcq (ju 9053 Qcp) fl))) fl) (sp Qi (sp Qcm (sp Qcn (ju 9054 [Qf,Qo]) fl) (sp Qco (ju 9055 Qj) (sp Qcq (ju 9056 Qj) fl))) (sp Ql (sp Qcm (sp Qcn (ju 9057 [Qf,Qo]) fl) (sp Qco (ju 9058 Qj) (sp Qcq (ju 9059 Qj) fl))) fl))
abbrev wY:SB:=.lt Qo Qb
abbrev uS:SB:=.lt Qo Qa
abbrev Gi:SE:=ln Qm
abbrev Qcu:SB:=.lt Qo Gi
abbrev Qcv:SE:=el Qm Qo
abbrev Qcw:SE:=ce 4 Qcv
abbrev Qcx:SB:=.lt Qa (ln Qcw)
abbrev Qcy:SB:=.lt (ln Qcw) Qv
abbrev Qcz:SE:=ce 5 Qcv
abbrev Qc0:SB:=.lt Qa (ln Qcz)
abbrev Qc1:SB:=.lt (ln Qcz) Qv
abbrev kP:SE:=wr (.add Qo Q0)
abbrev Gg:SE:=mk Qo
abbrev Qc4:SE:=.op .set Qm (cn Gg (.op .set Qcv (cn Qbd Qcw)))
abbrev Qc5:SE:=.op .set Qc4 (cn Gg (.op .set (el Qc4 Qo) (cn Qbf Qcz)))
abbrev Qc6:SB:=.eq Qcz Qh
abbrev Qc7:SE:=.op .set Qc4 (cn Gg (.op .set (el Qc4 Qo) Qbh))
abbrev Qc8:SB:=.eq Qcz Qk
abbrev Qc9:SE:=.op .set Qc4 (cn Gg (.op .set (el Qc4 Qo) Qbj))
abbrev Qda:SE:=.op .set Qm (cn Gg (.op .set Qcv Qbl))
abbrev Qdb:SE:=.op .set Qda (cn Gg (.op .set (el Qda Qo) (cn Qbf Qcz)))
abbrev Qdc:SE:=.op .set Qda (cn Gg (.op .set (el Qda Qo) Qbh))
abbrev Qdd:SE:=.op .set Qda (cn Gg (.op .set (el Qda Qo) Qbj))
abbrev Qde:SE:=.op .set Qm (cn Gg (.op .set Qcv Qbq))
abbrev Qdf:SE:=.op .set Qde (cn Gg (.op .set (el Qde Qo) (cn Qbf Qcz)))
abbrev Qdg:SE:=.op .set Qde (cn Gg (.op .set (el Qde Qo) Qbh))
abbrev Qdh:SE:=.op .set Qde (cn Gg (.op .set (el Qde Qo) Qbj))
abbrev Rn:SE:=ln bC
def aeO:T Lf:=sp wY (sp uS fl (sp Qcu (sp Qcx (sp Qcy (sp Qc0 (sp Qc1 (ju 9051 [Qf,Qb,kP,Qc5,bC]) fl) (sp Qc6 (ju 9051 [Qf,Qb,kP,Qc7,bC]) (sp Qc8 (ju 9051 [Qf,Qb,kP,Qc9,bC]) fl))) fl) (sp (.eq Qcw Qh) (sp Qc0 (sp Qc1 (ju 9051 [Qf,Qb,kP,Qdb,bC]) fl) (sp Qc6 (ju 9051 [Qf,Qb,kP,Qdc,bC]) (sp Qc8 (ju 9051 [Qf,Qb,kP,Qdd,bC]) fl))) (sp (.eq Qcw Qk) (sp Qc0 (sp Qc1 (ju 9051 [Qf,Qb,kP,Qdf,bC]) fl) (sp Qc6 (ju 9051 [Qf,Qb,kP,Qdg,bC]) (sp Qc8 (ju 9051 [Qf,Qb,kP,Qdh,bC]) fl))) fl))) fl)) (ju 9060 [Qf,Rn,Qa,Qm,bC])
def aeN:T Lf:=sp wY (sp uS fl (sp Qcu (sp Qcx (sp Qcy (sp Qc0 (sp Qc1 (ju 9052 [Qf,Qb,kP,Qc5]) fl) (sp Qc6 (ju 9052 [Qf,Qb,kP,Qc7]) (sp Qc8 (ju 9052 [Qf,Qb,kP,Qc9]) fl))) fl) (sp (.eq Qcw Qh) (sp Qc0 (sp Qc1 (ju 9052 [Qf,Qb,kP,Qdb]) fl) (sp Qc6 (ju 9052 [Qf,Qb,kP,Qdc]) (sp Qc8 (ju 9052 [Qf,Qb,kP,Qdd]) fl))) (sp (.eq Qcw Qk) (sp Qc0 (sp Qc1 (ju 9052 [Qf,Qb,kP,Qdf]) fl) (sp Qc6 (ju 9052 [Qf,Qb,kP,Qdg]) (sp Qc8 (ju 9052 [Qf,Qb,kP,Qdh]) fl))) fl))) fl)) (ju 9061 [Qf,Qm])
def aBM:T Lf:=sp wY (sp uS fl (sp Qcu (sp Qcx (sp Qcy (sp Qc0 (sp Qc1 (ju 9053 [Qf,Qb,kP,Qc5]) fl) (sp Qc6 (ju 9053 [Qf,Qb,kP,Qc7]) (sp Qc8 (ju 9053 [Qf,Qb,kP,Qc9]) fl))) fl) (sp (.eq Qcw Qh) (sp Qc0 (sp Qc1 (ju 9053 [Qf,Qb,kP,Qdb]) fl) (sp Qc6 (ju 9053 [Qf,Qb,kP,Qdc]) (sp Qc8 (ju 9053 [Qf,Qb,kP,Qdd]) fl))) (sp (.eq Qcw Qk) (sp Qc0 (sp Qc1 (ju 9053 [Qf,Qb,kP,Qdf]) fl) (sp Qc6 (ju 9053 [Qf,Qb,kP,Qdg]) (sp Qc8 (ju 9053 [Qf,Qb,kP,Qdh]) fl))) fl))) fl)) (ju 9062 [Qf,Qm])
def anH:T Lf:=ju 9063 Qcp
def aBL:T Lf:=ju 9064 Qj
def aBK:T Lf:=ju 9065 Qj
def aBJ:T Lf:=ju 9066 Qcp
def aBI:T Lf:=ju 9067 Qj
def aBH:T Lf:=ju 9068 Qj
abbrev Qdj:SB:=.eq Qo Qf
abbrev Qdk:SB:=.lt Qo Rn
abbrev Qdl:SE:=el bC Qo
abbrev Qdm:SE:=ce 1 Qdl
abbrev Qdn:SB:=.lt Qa (ln Qdm)
abbrev Qdo:SB:=.lt (ln Qdm) Qv
abbrev Qdp:SE:=el bC Qf
abbrev Qdq:SE:=nm (ce 0 Qdp)
abbrev Qdr:SE:=nm (ce 2 Qdp)
abbrev Qds:SE:=nm (ce 3 Qdp)
abbrev Qdt:SE:=nm (ce 4 Qdp)
abbrev Qdu:SE:=nm (ce 5 Qdp)
abbrev Qdv:SB:=.eq Qdm Qh
abbrev Qdw:SB:=.eq Qdm Qk
abbrev Qdx:SE:=.op .set bC (cn Gg (.op .set Qdl (cn Qh Qdm)))
abbrev Qdy:SE:=cn Qh Qh
abbrev Qdz:SE:=.op .set bC (cn Gg (.op .set Qdl Qdy))
abbrev Qd0:SE:=cn Qh Qk
abbrev Qd1:SE:=.op .set bC (cn Gg (.op .set Qdl Qd0))
def Gt:T Lf:=sp Qdj (sp wY (sp uS fl (sp Qdk (sp Qdn (sp Qdo (ju 9069 [Qf,Qb,kP,Qm,bC,Qdq,Qdm,Qdr,Qds,Qdt,Qdu]) fl) (sp Qdv (ju 9070 [Qf,Qb,kP,Qm,bC,Qdq,Qh,Qdr,Qds,Qdt,Qdu]) (sp Qdw (ju 9070 [Qf,Qb,kP,Qm,bC,Qdq,Qk,Qdr,Qds,Qdt,Qdu]) fl))) fl)) (ou [Qa,Qf,Qm,bC])) (sp wY (sp uS fl (sp Qdk (sp Qdn (sp Qdo (ju 9060 [Qf,Qb,kP,Qm,Qdx]) fl) (sp Qdv (ju 9060 [Qf,Qb,kP,Qm,Qdz]) (sp Qdw (ju 9060 [Qf,Qb,kP,Qm,Qd1]) fl))) fl)) (ou [Qa,Qf,Qm,bC]))
abbrev Qd2:T Lf:=ou [Q0,Qf,Qb]
def anG:T Lf:=sp Qbv Qd2 Qd2
def aBG:T Lf:=sp Qbv (ou [nT,Qf,Qb]) (ou [nT,Qf,Qb])
abbrev Qd3:SE:=ce 1 Qcv
abbrev Qd4:SB:=.lt Qa (ln Qd3)
abbrev Qd5:SB:=.lt (ln Qd3) Qv
abbrev Qd6:SE:=el Qm Qf
abbrev Qd7:SE:=nm (ce 0 Qd6)
abbrev Qd8:SE:=nm (ce 2 Qd6)
abbrev Qd9:SE:=nm (ce 3 Qd6)
abbrev Qea:SE:=nm (ce 4 Qd6)
abbrev Qeb:SE:=nm (ce 5 Qd6)
abbrev Qec:List SE:=[Qf,Qb,kP,Qm,Qd7,Qd3,Qd8,Qd9,Qea,Qeb]
abbrev Qed:SB:=.eq Qd3 Qh
abbrev Qee:List SE:=[Qf,Qb,kP,Qm,Qd7,Qh,Qd8,Qd9,Qea,Qeb]
abbrev Qef:SB:=.eq Qd3 Qk
abbrev Qeg:List SE:=[Qf,Qb,kP,Qm,Qd7,Qk,Qd8,Qd9,Qea,Qeb]
abbrev Qeh:SE:=.op .set Qm (cn Gg (.op .set Qcv (cn Qh Qd3)))
abbrev Qei:SE:=.op .set Qm (cn Gg (.op .set Qcv Qdy))
abbrev Qej:SE:=.op .set Qm (cn Gg (.op .set Qcv Qd0))
def Gq:T Lf:=sp Qdj (sp wY (sp uS fl (sp Qcu (sp Qd4 (sp Qd5 (ju 9071 Qec) fl) (sp Qed (ju 9072 Qee) (sp Qef (ju 9072 Qeg) fl))) fl)) (ou [Qa,Qf,Qh,Qm])) (sp wY (sp uS fl (sp Qcu (sp Qd4 (sp Qd5 (ju 9063 [Qf,Qb,kP,Qeh]) fl) (sp Qed (ju 9063 [Qf,Qb,kP,Qei]) (sp Qef (ju 9063 [Qf,Qb,kP,Qej]) fl))) fl)) (ou [Qa,Qf,Qh,Qm]))
def anF:T Lf:=sp Qbv (ou [Q0,Qf,Qh]) (ou [Q0,Qf,Qh])
def aBF:T Lf:=sp Qbv (ou [nT,Qf,Qh]) (ou [nT,Qf,Qh])
def aBE:T Lf:=sp Qdj (sp wY (sp uS fl (sp Qcu (sp Qd4 (sp Qd5 (ju 9073 Qec) fl) (sp Qed (ju 9074 Qee) (sp Qef (ju 9074 Qeg) fl))) fl)) (ou [Qa,Qf,Qk,Qm])) (sp wY (sp uS fl (sp Qcu (sp Qd4 (sp Qd5 (ju 9066 [Qf,Qb,kP,Qeh]) fl) (sp Qed (ju 9066 [Qf,Qb,kP,Qei]) (sp Qef (ju 9066 [Qf,Qb,kP,Qej]) fl))) fl)) (ou [Qa,Qf,Qk,Qm]))
def aBD:T Lf:=sp Qbv (ou [Q0,Qf,Qk]) (ou [Q0,Qf,Qk])
def aBC:T Lf:=sp Qbv (ou [nT,Qf,Qk]) (ou [nT,Qf,Qk])
abbrev Qek:T Lf:=sp uS fl (sp Qdk fl fl)
abbrev jL:SE:=.aP 10
abbrev Qem:T Lf:=ou [wV,Qf,Qm,bC,bK,cZ,dZ,fQ,fP,jL]
abbrev Qen:List SE:=[Qf,Qb,kP,Qm,Qdx,bK,cZ,dZ,fQ,fP,jL]
abbrev Qeo:List SE:=[Qf,Qb,kP,Qm,Qdz,bK,cZ,dZ,fQ,fP,jL]
abbrev Qep:List SE:=[Qf,Qb,kP,Qm,Qd1,bK,cZ,dZ,fQ,fP,jL]
def aeM:T Lf:=sp Qdj (sp wY Qek Qem) (sp wY (sp uS fl (sp Qdk (sp Qdn (sp Qdo (ju 9069 Qen) fl) (sp Qdv (ju 9069 Qeo) (sp Qdw (ju 9069 Qep) fl))) fl)) Qem)
abbrev Qeq:T Lf:=ou [rY,Qf,Qm,bC,bK,cZ,dZ,fQ,fP,jL]
def aeL:T Lf:=sp Qdj (sp wY Qek Qeq) (sp wY (sp uS fl (sp Qdk (sp Qdn (sp Qdo (ju 9070 Qen) fl) (sp Qdv (ju 9070 Qeo) (sp Qdw (ju 9070 Qep) fl))) fl)) Qeq)
abbrev Qer:T Lf:=sp uS fl (sp Qcu fl fl)
abbrev Qes:T Lf:=ou [wV,Qf,Qh,Qm,bC,bK,cZ,dZ,fQ,fP]
abbrev Qet:List SE:=[Qf,Qb,kP,Qeh,bC,bK,cZ,dZ,fQ,fP]
abbrev Qeu:List SE:=[Qf,Qb,kP,Qei,bC,bK,cZ,dZ,fQ,fP]
abbrev Qev:List SE:=[Qf,Qb,kP,Qej,bC,bK,cZ,dZ,fQ,fP]
def aeK:T Lf:=sp Qdj (sp wY Qer Qes) (sp wY (sp uS fl (sp Qcu (sp Qd4 (sp Qd5 (ju 9071 Qet) fl) (sp Qed (ju 9071 Qeu) (sp Qef (ju 9071 Qev) fl))) fl)) Qes)
abbrev Qew:T Lf:=ou [rY,Qf,Qh,Qm,bC,bK,cZ,dZ,fQ,fP]
def aeJ:T Lf:=sp Qdj (sp wY Qer Qew) (sp wY (sp uS fl (sp Qcu (sp Qd4 (sp Qd5 (ju 9072 Qet) fl) (sp Qed (ju 9072 Qeu) (sp Qef (ju 9072 Qev) fl))) fl)) Qew)
abbrev Qex:T Lf:=ou [wV,Qf,Qk,Qm,bC,bK,cZ,dZ,fQ,fP]
def aBB:T Lf:=sp Qdj (sp wY Qer Qex) (sp wY (sp uS fl (sp Qcu (sp Qd4 (sp Qd5 (ju 9073 Qet) fl) (sp Qed (ju 9073 Qeu) (sp Qef (ju 9073 Qev) fl))) fl)) Qex)
abbrev Qey:T Lf:=ou [rY,Qf,Qk,Qm,bC,bK,cZ,dZ,fQ,fP]
def aBA:T Lf:=sp Qdj (sp wY Qer Qey) (sp wY (sp uS fl (sp Qcu (sp Qd4 (sp Qd5 (ju 9074 Qet) fl) (sp Qed (ju 9074 Qeu) (sp Qef (ju 9074 Qev) fl))) fl)) Qey)
abbrev rC:SE:=ln Qf
def aFX:T Lf:=ju 101 [wr (.add rC Qc),Qc,Qa,Qf,Qb]
abbrev jX:T Lf:=ou [Q0]
abbrev bW:T Lf:=ou [Qa]
def aFW:T Lf:=sp wY (sp uS fl (sp Qdk (ju 102 [wr (.add Qf (wr (.add (ln Qdm) (ln (ce 2 Qdl))))),Qo,Qa,Qb,Qm,bC]) fl)) (sp (.lt (.lit 6000) Qf) jX bW)
abbrev Qe2:SB:=.lt Qb Qa
abbrev ZC:SE:=el bK Qb
abbrev vY:SE:=wr (.add Qb Q0)
abbrev Qe5:T Lf:=ju 101 [Qf,Qm,vY,bC,bK]
abbrev Qe6:SE:=ce 6 (el (ce 2 ZC) Qo)
def aFV:T Lf:=sp Qe2 fl (sp (.lt Qb (ln bK)) (sp (.lt Qo (ln (ce 2 ZC))) (sp (.lt (.lit 6000) Qf) Qe5 (sp uS fl (ju 103 [Qf,Qb,Qo,Qm,Qe6,ln Qe6,Qa,bC,bK]))) Qe5) fl)
abbrev Qe7:SB:=.lt cZ Qa
abbrev Qe8:SE:=el bC cZ
abbrev Qe9:List SE:=[nm (ce 0 Qe8),ce 1 Qe8,nm (ce 2 Qe8),ce 3 Qe8,.lit 60]
def aFU:T Lf:=sp (.lt cZ bK) (sp Qe7 fl (sp (.lt cZ Rn) (sp (.eq (a0 150 Qe9) Q0) (ju 103 [wr (.add Qf (rr 150 Qe9 0)),Qb,Qo,Qm,bC,bK,wr (.add cZ Q0),dZ,fQ]) fl) fl)) (ju 102 [Qf,Qb,kP,Qm,dZ,fQ])
abbrev Qfa:SB:=.lt bC Q0
abbrev Qfb:SE:=.lit 100
def aFT:T Lf:=sp Qfa (ou [.lit 10000]) (ju 151 [bC,wr (.add Q0 (wr (.quo Qc Qfb))),Qa,Qf,Qb,Qo,Qm])
abbrev Qfc:SE:=ln cZ
abbrev Qfd:SE:=el cZ Qo
abbrev Qfe:List SE:=[nm (ce 0 Qfd),ce 1 Qfd,nm (ce 2 Qfd),ce 3 Qfd,wr (.sub Qf Q0)]
def aFS:T Lf:=sp (.lt Qo Qfc) (sp (.lt (.lit 10000) Qb) (ou [Qb]) (sp uS fl (sp (.eq (a0 150 Qfe) Q0) (ju 151 [Qf,wr (.add Qb (rr 150 Qfe 0)),kP,Qm,bC,bK,cZ]) fl))) (ou [Qb])
abbrev Qff:SB:=.eq rC Qc
abbrev Qfg:List SE:=[Qf,Qb,rC,Qa]
def ayQ:T Lf:=sp Qff (ju 201 Qfg) bW
abbrev Qfh:SB:=.lt Qm rC
abbrev Qfi:SE:=el Qf Qm
abbrev Qfj:SE:=nm (ce 0 Qs)
abbrev Qfk:SB:=.eq (nm (ce 0 Qfi)) Qfj
abbrev Qfl:SB:=.eq (nm (ce 1 Qfi)) (nm (ce 1 Qs))
abbrev Qfm:SE:=nm (ce 2 Qfi)
abbrev Qfn:SE:=nm (ce 2 Qs)
abbrev Qfo:SB:=.eq (nm (ce 3 Qfi)) (nm (ce 3 Qs))
def t201:T Lf:=sp Qp (sp Qq fl (sp Qfh (sp Qr (sp Qfk (sp Qfl (sp (.and (.not (.and (.not (.eq Qfm Qa)) (.not (.eq Qfn Qa)))) (.not (.and (.not (.not (.eq Qfm Qa))) (.not (.not (.eq Qfn Qa)))))) bW (sp Qfo (sp (.eq (a0 250 [ce 4 Qfi,Qt]) Q0) (sp (.eq (rr 250 [ce 4 Qfi,Qt] 0) Qa) bW (sp (.eq (ln (ce 5 Qfi)) (ln Qx)) (ju 202 [Qf,Qb,Qo,Qm,ln (ce 5 Qfi),Qa,nm (ce 0 Qfi),nm (ce 1 Qfi),Qfm,nm (ce 3 Qfi),ce 4 Qfi,ce 5 Qfi,Qfj,nm (ce 1 Qs),Qfn,nm (ce 3 Qs),Qt,Qx]) bW)) fl) bW)) bW) bW) fl) fl)) jX
abbrev Qfp:SB:=.lt bK Qa
abbrev kT:SE:=.aP 11
abbrev Qfr:SE:=.aP 17
abbrev Qfs:SE:=wr (.add bK Q0)
abbrev nR:SE:=.aP 12
abbrev mX:SE:=.aP 13
abbrev qF:SE:=.aP 14
abbrev U4:SE:=.aP 15
abbrev Qfx:SE:=.aP 16
abbrev Qfy:List SE:=[Qf,Qb,Qo,Q1]
def aoJ:T Lf:=sp (.lt bK bC) (sp Qfp fl (sp (.lt bK (ln kT)) (sp (.lt bK (ln Qfr)) (sp (.eq (nm (el kT bK)) (nm (el Qfr bK))) (ju 202 [Qf,Qb,Qo,Qm,bC,Qfs,cZ,dZ,fQ,fP,jL,kT,nR,mX,qF,U4,Qfx,Qfr]) bW) fl) fl)) (ju 201 Qfy)
def ayP:T Lf:=sp Qff (ju 251 [Qf,Qb,Qa]) bW
abbrev Rl:SB:=.lt Qo rC
abbrev Qf0:SB:=.lt Qo Qc
abbrev XA:SE:=el Qf Qo
abbrev Qf2:SE:=el Qb Qo
def aoH:T Lf:=sp Rl (sp uS fl (sp Qf0 (sp (.eq (nm XA) (nm Qf2)) (ju 251 [Qf,Qb,kP]) bW) fl)) jX
abbrev KZ:List SE:=[Qf,Qb]
abbrev Qf4:SB:=.eq (a0 450 KZ) Q0
abbrev Qf5:SB:=.eq (rr 450 KZ 0) Qa
def aoF:T Lf:=sp Qf4 (sp Qf5 (ju 301 [Qf,rC]) (ou [Qh])) fl
abbrev Qf6:SB:=.lt Qa Qb
abbrev Qf7:SB:=.lt Qa rC
abbrev Qf8:SE:=el Qf Qa
abbrev Qf9:SE:=nm (ce 0 Qf8)
abbrev jM:SE:=.dat (.i 0)
abbrev Qgb:SE:=.dat (.i (-1))
abbrev Qgc:SE:=mk (nm (ce 2 Qf8))
abbrev Qgd:SE:=cn Qh jM
abbrev Qge:SE:=cn jM (cn jM (cn Qh Qgd))
abbrev Qgf:T Lf:=ju 302 [.op .snoc jM (cn Qgb (cn Qgc Qge)),Qf,Qb,Q0]
abbrev Qgg:SE:=.lit 9
def aaA:T Lf:=sp Qf6 (sp Qf7 (sp (.eq Qf9 wV) Qgf (sp (.eq Qf9 Qgg) Qgf (ju 302 [.op .snoc jM (cn Qgb (cn jM Qge)),Qf,Qb,Q0]))) fl) (ou [Qh])
abbrev Qgh:SB:=.lt rC (.lit 1759218604440)
abbrev Qgi:T Lf:=sp Qgh (ju 302 [.op .snoc Qf (cn Qgb (cn (mk Qfn) Qge)),Qb,Qo,Q1]) fl
def ayO:T Lf:=sp Qp (sp Qq fl (sp Qr (sp (.eq Qfj wV) Qgi (sp (.eq Qfj Qgg) Qgi (sp Qgh (ju 302 [.op .snoc Qf (cn Qgb (cn jM Qge)),Qb,Qo,Q1]) fl))) fl)) (ou Qj)
def aoD:T Lf:=sp Qf4 (sp Qf5 (sp (.eq Qcl rC) (ju 351 [Qo,Qcl,Qa,Qf,Qb]) bW) bW) fl
abbrev Qgj:SE:=nm (ce 2 XA)
abbrev Qgk:SE:=nm (ce 0 XA)
abbrev JL:SE:=ce 1 XA
abbrev Qgm:SE:=ce 3 XA
abbrev Xy:SE:=ce 4 XA
abbrev Qgo:SE:=ce 5 XA
abbrev Qgp:List SE:=[nm (ce 0 Qcv),Qd3,nm (ce 2 Qcv),ce 3 Qcv,nm Qcw,Qgk,nm JL,Qa,nm Qgm,Xy,Qgo,Rn]
abbrev Qgq:T Lf:=ju 351 [Qf,Qb,kP,Qm,bC]
abbrev Qgr:List SE:=[nm (ce 0 Qcv),Qd3,nm (ce 2 Qcv),ce 3 Qcv,nm Qcw,Qgk,nm JL,Q0,nm Qgm,Xy,Qgo,Rn]
def Z9:T Lf:=sp wY (sp uS fl (sp Rl (sp Qcu (sp (.eq Qgj Qa) (sp (.eq (a0 500 Qgp) Q0) (sp (.eq (rr 500 Qgp 0) Qa) bW Qgq) fl) (sp (.eq (a0 500 Qgr) Q0) (sp (.eq (rr 500 Qgr 0) Qa) bW Qgq) fl)) fl) fl)) jX
abbrev Qgs:List SE:=[bK,Qo]
abbrev Qgt:SE:=rr 9000 Qgs 0
abbrev Qgu:List SE:=[Qf,Qb,Qo]
abbrev Qgv:SB:=.eq (a0 350 Qgu) Q0
abbrev Qgw:SB:=.eq (rr 350 Qgu 0) Qa
abbrev Gh:SE:=rr 9000 Qgs 2
abbrev Qgy:T Lf:=ou [Gh,Qa,Qa,Qa,Qa,Qa,Qa]
abbrev Qgz:T Lf:=sp Qgv (sp Qgw Qgy (sp Qq Qgy (sp Qr Qgy Qgy))) fl
abbrev Qg0:SB:=.lt bK (ln Gh)
abbrev Qg1:T Lf:=ou [Qh,Qa,Qa,Qa,Qa,Qa,Qa]
abbrev Qg2:T Lf:=ou [Qk,Qa,Qa,Qa,Qa,Qa,Qa]
abbrev KY:SE:=mk bK
abbrev Qg4:SE:=rr 9000 Qgs 3
abbrev Xz:SE:=mk Qg4
abbrev ZB:SE:=rr 9000 Qgs 4
abbrev ZR:SE:=mk ZB
abbrev Qg8:SE:=rr 9000 Qgs 5
abbrev Qg9:SE:=.op .bit (mk Qg8) Qa
abbrev Qha:SE:=rr 9000 Qgs 6
abbrev Qhb:SE:=mk Qha
abbrev Xu:SE:=rr 9000 Qgs 7
abbrev Qhd:SE:=rr 9000 Qgs 8
abbrev Qhe:SE:=cn Qhd jM
abbrev Qhf:SE:=cn Qg9 (cn Qhb (cn Xu Qhe))
abbrev Qhg:SE:=cn KY (cn Xz (cn ZR Qhf))
abbrev Qhh:SE:=.op .set Gh Qhg
abbrev MV:T Lf:=ou [Qhh,Qa,Qa,Qa,Qa,Qa,Qa]
abbrev Qhj:SB:=.eq (a0 600 [bC]) Q0
abbrev Qhk:SB:=.lt bK rC
abbrev Qhl:SB:=.eq (rr 600 [bC] 0) (nm (ce 0 (el Qf bK)))
abbrev Qhm:SB:=.eq bC Q0
abbrev Qhn:SB:=.eq Qg4 Qm
abbrev KX:T Lf:=sp (.eq (a0 550 [Qo]) Q0) (ou [rr 550 [Qo] 0,Qm,.lit 27,bK,wr bC,Qa,nT]) fl
abbrev Qhp:SB:=.eq (a0 900 [Xu,Qm]) Q0
abbrev Qhq:SB:=.eq (rr 900 [Xu,Qm] 0) Qa
abbrev Qhr:SB:=.lt Qg4 Qa
abbrev Qhs:SE:=.op .set Gh (cn KY (cn ZU (cn ZR Qhf)))
abbrev ZQ:T Lf:=sp (.eq (a0 550 [Qo]) Q0) (ou [rr 550 [Qo] 0,Qa,Qa,Qa,Qa,Qa,Qa]) fl
abbrev Qhu:T Lf:=sp Qhr (ou [Qhs,Qm,bC,bK,Qa,Qa,nT]) ZQ
abbrev Qhv:T Lf:=sp Qhn KX (sp Qhp (sp Qhq Qhu KX) fl)
abbrev Qhw:SB:=.eq bC nT
abbrev Qhx:T Lf:=sp Qhn (ou [.op .set Gh (cn KY (cn Qgb (cn ZR Qhf))),Qm,bC,bK,Qa,Qa,nT]) KX
abbrev Qhy:SB:=.eq bC (.lit 8)
abbrev Qhz:SB:=.eq bC wV
abbrev Qh0:T Lf:=ou [Qhs,Qm,bC,bK,Q0,Qa,nT]
abbrev Qh1:T Lf:=ou [Qhh,Qm,bC,bK,Qa,Qa,nT]
abbrev Qh2:T Lf:=sp Qhr Qh0 Qh1
abbrev Qh3:SB:=.eq bC rY
abbrev Qh4:T Lf:=sp Qhr Qh0 (sp (.lt dZ cZ) ZQ Qh1)
abbrev Qh5:SB:=.eq bC Qch
abbrev RD:SE:=ln Xu
abbrev Qh7:SE:=.lit 17592186044415
abbrev Qh8:SE:=cn ZR (cn Qg9 (cn Qhb (cn (.op .snoc Xu ZU) Qhe)))
abbrev Qh9:T Lf:=sp Qhn KX (sp Qhp (sp Qhq (sp Qhr (sp (.lt RD Qh7) (ou [.op .set Gh (cn KY (cn Xz Qh8)),Qm,bC,bK,Qa,Qa,nT]) fl) ZQ) KX) fl)
abbrev Qia:SB:=.eq bC ZT
abbrev Qib:SB:=.eq (a0 850 [Xu,Qm]) Q0
abbrev Qic:SE:=rr 850 [Xu,Qm] 0
abbrev Qid:SE:=wr (.add Qic Q0)
abbrev Qie:SE:=.sub RD Qid
abbrev Qif:SE:=.add Qic Qie
abbrev Qig:SE:=.op .cat (.op .cat (.op .take Xu Qic) (.op .drop (.op .take Xu (.add Qid Qie)) Qid)) (.op .drop Xu Qif)
abbrev Qih:SE:=.op .fill Qig (cn (mk Qif) jM)
abbrev Qii:T Lf:=sp (.lt (.sub RD Qif) Qa) fl (sp (.eq (.add Qif (.sub RD Qif)) (ln Qig)) (sp (.lt (ln Qih) Qif) fl (ou [.op .set Gh (cn KY (cn Xz (cn ZR (cn Qg9 (cn Qhb (cn (.op .take Qih Qif) Qhe)))))),Qm,bC,bK,Qa,Qa,nT])) fl)
abbrev Qij:T Lf:=sp Qib (sp (.lt Qic Qa) KX (sp (.lt Qid Qic) fl (sp (.lt RD Qid) fl (sp (.lt RD RD) fl (sp (.eq Qic Qid) Qh1 (sp (.lt RD Qic) fl (sp (.lt Qid Qa) fl (sp (.lt Qie Qa) fl (sp (.lt RD (.add Qid Qie)) fl (sp (.lt RD Qif) fl (sp (.lt Qif Qa) fl (sp (.lt Qif RD) (sp (.lt (ln Qig) RD) fl Qii) Qii)))))))))))) fl
abbrev Qik:SE:=.lit 7
abbrev Qil:SB:=.eq bC Qik
abbrev Qim:T Lf:=sp Qhn KX (sp Qhp (sp Qhq (sp (.eq RD Qa) Qhu ZQ) KX) fl)
abbrev Qin:SB:=.eq bC Qgg
abbrev Qio:SE:=.op .set Gh (cn KY (cn Xz (cn (mk (wr (.sub ZB Q0))) Qhf)))
abbrev Qip:T Lf:=sp (.lt Qa ZB) (ou [Qio,Qm,bC,bK,Qa,Qa,nT]) ZQ
abbrev Qiq:SB:=.eq bC (.lit 11)
abbrev Qir:T Lf:=sp (.lt Qa ZB) (ou [Qio,Qm,bC,bK,Q0,Qa,nT]) Qh1
abbrev Qis:SE:=.lit 10
abbrev Qit:SB:=.eq bC Qis
abbrev Qiu:SE:=nm (ce 2 (el Qf bK))
abbrev Qiv:SE:=.op .set Gh (cn KY (cn Xz (cn (mk (wr (.add ZB Q0))) Qhf)))
abbrev Qiw:T Lf:=sp (.lt ZB Qiu) (ou [Qiv,Qm,bC,bK,Qa,Qa,nT]) KX
abbrev Qix:SB:=.eq bC (.lit 17)
abbrev Qiy:T Lf:=sp (.lt cZ (wr (.sub Qa ZB))) KX (sp (.lt (wr (.sub (.lit 1099511627776) ZB)) cZ) KX (ou [.op .set Gh (cn KY (cn Xz (cn (mk (wr (.add ZB cZ))) Qhf))),Qm,bC,bK,wr (.add ZB cZ),Qa,nT]))
abbrev Qiz:SB:=.eq bC (.lit 18)
abbrev Qi0:T Lf:=sp (.lt Qa ZB) (ou [Qio,Qm,bC,bK,wr (.sub ZB Q0),Qa,nT]) KX
abbrev Qi1:SB:=.eq bC (.lit 19)
abbrev Qi2:T Lf:=sp (.eq ZB Qa) Qh1 ZQ
abbrev Qi3:SB:=.eq bC (.lit 22)
abbrev Qi4:T Lf:=ou [Qhh,Qm,bC,bK,ZB,Qa,nT]
abbrev Qi5:SB:=.eq bC (.lit 23)
abbrev Qi6:T Lf:=ou [.op .set Gh (cn KY (cn Xz (cn (mk cZ) Qhf))),Qm,bC,bK,cZ,Qa,nT]
abbrev ZP:SE:=.lit 20
abbrev Qi8:SB:=.eq bC ZP
abbrev Qi9:T Lf:=sp (.lt (ln Qhd) Qiu) (sp (.lt (ln Qhd) Qh7) (ou [.op .set Gh (cn KY (cn Xz (cn ZR (cn Qg9 (cn Qhb (cn Xu (cn (.op .snoc Qhd (mk cZ)) jM))))))),Qm,bC,bK,cZ,Qa,nT]) fl) ZQ
abbrev Qja:SB:=.eq bC (.lit 21)
abbrev Qjb:SE:=.add Q0 (.sub (ln Qhd) Q0)
abbrev Qjc:T Lf:=sp (.eq (ln Qhd) Qa) ZQ (sp (.lt (.sub (ln Qhd) Q0) Qa) fl (sp (.lt (ln Qhd) Qjb) fl (ou [.op .set Gh (cn KY (cn Xz (cn ZR (cn Qg9 (cn Qhb (cn Xu (cn (.op .drop (.op .take Qhd Qjb) Q0) jM))))))),Qm,bC,bK,nm (el Qhd Qa),Qa,nT])))
abbrev Qjd:SB:=.eq bC (.lit 12)
abbrev Qje:SB:=.lt Qiu Qa
abbrev Qjf:SB:=.lt Qiu (ln Gh)
abbrev Qjg:SB:=.eq Qiu bK
abbrev Qjh:SE:=.lit (-1)
abbrev Qji:List SE:=[Xu,Qm,bK,Qiu,Gh,bC,cZ,dZ,Qjh,ZB,Qg8,Qha,Qhd]
abbrev Qjj:T Lf:=sp (.lt RD Qh7) (ou [.op .set Gh (cn KY (cn Qgb Qh8)),Qm,bC,bK,Qa,Qa,wV]) fl
abbrev Qjk:SE:=rr 12000 Qji 14
abbrev Qjl:SE:=rr 12000 Qji 15
abbrev Qjm:SE:=.add Qjk Q0
abbrev Qjn:SE:=.op .snoc jM ZU
abbrev Qjo:SE:=.op .cat (.op .cat (.op .take Qjl Qjk) Qjn) (.op .drop Qjl Qjm)
abbrev Qjp:SE:=nm (ce 0 (el Gh Qiu))
abbrev Qjq:SB:=.eq Qjp Qm
abbrev Qjr:SE:=.op .set Gh (cn (mk Qiu) (.op .set (el Gh Qiu) (cn jM Qgb)))
abbrev Qjs:List SE:=[Xu,Qm,bK,Qiu,Qjr,bC,cZ,dZ,Qg4,ZB,Qg8,Qha,Qhd]
abbrev Qjt:T Lf:=sp (.lt RD Qh7) (ou [.op .set Qjr (cn KY (cn Xz Qh8)),Qm,bC,bK,Qa,Qa,wV]) fl
abbrev Qju:SE:=rr 12000 Qjs 14
abbrev Qjv:SE:=rr 12000 Qjs 15
abbrev Qjw:SE:=.add Qju Q0
abbrev Qjx:SE:=.op .cat (.op .cat (.op .take Qjv Qju) Qjn) (.op .drop Qjv Qjw)
abbrev Qjy:SE:=.op .set Gh (cn KY (cn Xz (cn ZR (cn Qg9 (cn Qhb (cn Qh Qhe))))))
abbrev Qjz:SE:=.lit 24
abbrev Qj0:SE:=.lit 4611686018427387904
abbrev Qj1:SE:=.lit 25
abbrev Qj2:SE:=.lit 16
abbrev Qj3:T Lf:=sp (.eq bC Qjz) (sp Qje fl (sp Qjf (sp Qhp (sp Qhq (sp Qjg Qhu (sp (.lt Qjp Qa) (ou [.op .set (.op .set Gh (cn (mk Qiu) (.op .set (el Gh Qiu) (cn jM ZU)))) Qhg,Qm,bC,bK,Qa,Qa,nT]) ZQ)) ZQ) fl) fl)) (sp (.eq bC (.lit 15)) (sp (.lt Qha Qj0) (sp (.eq (wr (.add ZB Q0)) Qiu) (ou [.op .set Gh (cn KY (cn Xz (cn jM (cn Qg9 (cn (mk (wr (.add Qha Q0))) (cn Xu Qhe)))))),Qm,bC,bK,Qha,Qa,wV]) (ou [Qiv,Qm,bC,bK,Qha,Qa,wV])) KX) (sp (.eq bC Qj1) (sp (.lt cZ Qha) (ou [Qhh,Qm,bC,bK,cZ,Qa,nT]) ZQ) (sp (.eq bC Qj2) (sp (.eq Qg8 Qa) (sp Qhn KX (sp Qhr Qh0 ZQ)) Qh1) (sp (.eq bC (.lit 26)) (sp Qhn (ou [.op .set Gh (cn KY (cn Qgb (cn ZR (cn Qh (cn Qhb (cn Xu Qhe)))))),Qm,bC,bK,Qa,Qa,nT]) KX) fl))))
abbrev Qj4:T Lf:=sp (.eq bC (.lit 13)) (sp (.eq RD Qa) Qh1 (sp (.lt (.sub RD Q0) Qa) fl (sp (.lt RD (.add Q0 (.sub RD Q0))) fl (ou [.op .set Gh (cn KY (cn Xz (cn ZR (cn Qg9 (cn Qhb (cn (.op .drop (.op .take Xu (.add Q0 (.sub RD Q0))) Q0) Qhe)))))),Qm,bC,bK,wr (.add (nm (el Xu Qa)) Q0),Qa,nT])))) (sp (.eq bC (.lit 14)) (ou [Qjy,Qm,bC,bK,RD,Qa,nT]) Qj3)
abbrev Qj5:T Lf:=sp (.lt Qa Qiu) (ou [.op .set Gh (cn KY (cn Xz (cn ZR (cn Qg9 (cn Qhb (cn Xu (cn (.op .snoc jM (mk cZ)) jM))))))),Qm,bC,bK,cZ,Qa,nT]) ZQ
abbrev Qj6:SE:=rr 12100 Qji 14
abbrev Qj7:SE:=rr 12100 Qji 15
abbrev Qj8:SE:=.add Qj6 Q0
abbrev Qj9:SE:=.op .cat (.op .cat (.op .take Qj7 Qj6) Qjn) (.op .drop Qj7 Qj8)
abbrev Qka:SE:=rr 12100 Qjs 14
abbrev Qkb:SE:=rr 12100 Qjs 15
abbrev Qkc:SE:=.add Qka Q0
abbrev Qkd:SE:=.op .cat (.op .cat (.op .take Qkb Qka) Qjn) (.op .drop Qkb Qkc)
abbrev Qke:SE:=cn ZR (cn Qg9 (cn Qhb (cn Qjn Qhe)))
abbrev Qkf:T Lf:=sp Qhn KX (sp Qhp (sp Qhq (sp Qhr (ou [.op .set Gh (cn KY (cn Xz Qke)),Qm,bC,bK,Qa,Qa,nT]) ZQ) KX) fl)
abbrev Qkg:T Lf:=sp Qib (sp (.lt Qic Qa) KX fl) fl
abbrev Qkh:T Lf:=ou [.op .set Gh (cn KY (cn Qgb Qke)),Qm,bC,bK,Qa,Qa,wV]
abbrev Qki:T Lf:=ou [.op .set Qjr (cn KY (cn Xz Qke)),Qm,bC,bK,Qa,Qa,wV]
abbrev Qkj:T Lf:=sp (.eq bC (.lit 13)) Qh1 (sp (.eq bC (.lit 14)) (ou [Qjy,Qm,bC,bK,Qa,Qa,nT]) Qj3)
def lK:T Lf:=sp (.eq (a0 9000 Qgs) Q0) (sp (.eq Qgt Qa) (sp Qfp Qgz (sp Qg0 fl Qgz)) (sp (.eq Qgt Q0) (sp Qgv (sp Qgw Qg1 (sp Qq Qg1 (sp Qr (sp Qfp Qg1 Qg1) Qg1))) fl) (sp (.eq Qgt nT) (sp Qgv (sp Qgw Qg2 (sp Qq Qg2 (sp Qr (sp Qfp Qg2 Qg2) Qg2))) fl) (sp (.eq Qgt wV) (sp Qgv (sp Qgw MV (sp Qq MV (sp Qr (sp Qfp MV (sp Qg0 (sp Qhj (sp Qhk (sp Qhl (sp Qhm Qhv (sp Qhw Qhx (sp Qhy Qhx (sp Qhz Qh2 (sp Qh3 Qh4 (sp Qh5 Qh9 (sp Qia Qij (sp Qil Qim (sp Qin Qip (sp Qiq Qir (sp Qit Qiw (sp Qix Qiy (sp Qiz Qi0 (sp Qi1 Qi2 (sp Qi3 Qi4 (sp Qi5 Qi6 (sp Qi8 Qi9 (sp Qja Qjc (sp Qjd (sp Qje fl (sp Qjf (sp Qjg (sp Qhn (sp (.eq (a0 12000 Qji) Q0) (sp (.eq (rr 12000 Qji 0) Qa) Qjj (sp (.eq (rr 12000 Qji 0) Q0) (sp (.lt Qjk Qa) fl (sp (.lt (ln Qjl) Qjm) fl (sp (.lt Qjm Qa) fl (sp (.lt (ln Qjo) Qjm) fl (ou [.op .set Gh (cn KY (cn Qgb (cn ZR (cn Qg9 (cn Qhb (cn (.op .take Qjo Qjm) Qhe)))))),Qm,bC,bK,Qa,Qa,wV]))))) fl)) fl) KX) (sp Qjq (sp (.eq (a0 12000 Qjs) Q0) (sp (.eq (rr 12000 Qjs 0) Qa) Qjt (sp (.eq (rr 12000 Qjs 0) Q0) (sp (.lt Qju Qa) fl (sp (.lt (ln Qjv) Qjw) fl (sp (.lt Qjw Qa) fl (sp (.lt (ln Qjx) Qjw) fl (ou [.op .set Qjr (cn KY (cn Xz (cn ZR (cn Qg9 (cn Qhb (cn (.op .take Qjx Qjw) Qhe)))))),Qm,bC,bK,Qa,Qa,wV]))))) fl)) fl) KX)) fl)) Qj4))))))))))))))))))) MV) fl) fl) MV)) MV))) fl) (sp (.eq Qgt rY) (sp Qgv (sp Qgw MV (sp Qq MV (sp Qr (sp Qfp MV (sp Qg0 (sp Qhj (sp Qhk (sp Qhl (sp Qhm Qhv (sp Qhw Qhx (sp Qhy Qhx (sp Qhz Qh2 (sp Qh3 Qh4 (sp Qh5 Qh9 (sp Qia Qij (sp Qil Qim (sp Qin Qip (sp Qiq Qir (sp Qit Qiw (sp Qix Qiy (sp Qiz Qi0 (sp Qi1 Qi2 (sp Qi3 Qi4 (sp Qi5 Qi6 (sp Qi8 Qj5 (sp Qja ZQ (sp Qjd (sp Qje fl (sp Qjf (sp Qjg (sp Qhn (sp (.eq (a0 12100 Qji) Q0) (sp (.eq (rr 12100 Qji 0) Qa) Qjj (sp (.eq (rr 12100 Qji 0) Q0) (sp (.lt Qj6 Qa) fl (sp (.lt (ln Qj7) Qj8) fl (sp (.lt Qj8 Qa) fl (sp (.lt (ln Qj9) Qj8) fl (ou [.op .set Gh (cn KY (cn Qgb (cn ZR (cn Qg9 (cn Qhb (cn (.op .take Qj9 Qj8) Qhe)))))),Qm,bC,bK,Qa,Qa,wV]))))) fl)) fl) KX) (sp Qjq (sp (.eq (a0 12100 Qjs) Q0) (sp (.eq (rr 12100 Qjs 0) Qa) Qjt (sp (.eq (rr 12100 Qjs 0) Q0) (sp (.lt Qka Qa) fl (sp (.lt (ln Qkb) Qkc) fl (sp (.lt Qkc Qa) fl (sp (.lt (ln Qkd) Qkc) fl (ou [.op .set Qjr (cn KY (cn Xz (cn ZR (cn Qg9 (cn Qhb (cn (.op .take Qkd Qkc) Qhe)))))),Qm,bC,bK,Qa,Qa,wV]))))) fl)) fl) KX)) fl)) Qj4))))))))))))))))))) MV) fl) fl) MV)) MV))) fl) (sp (.eq Qgt Qch) (sp Qgv (sp Qgw MV (sp Qq MV (sp Qr (sp Qfp MV (sp Qg0 (sp Qhj (sp Qhk (sp Qhl (sp Qhm Qhv (sp Qhw Qhx (sp Qhy Qhx (sp Qhz Qh2 (sp Qh3 Qh4 (sp Qh5 Qkf (sp Qia Qkg (sp Qil Qhv (sp Qin Qip (sp Qiq Qir (sp Qit Qiw (sp Qix Qiy (sp Qiz Qi0 (sp Qi1 Qi2 (sp Qi3 Qi4 (sp Qi5 Qi6 (sp Qi8 Qi9 (sp Qja Qjc (sp Qjd (sp Qje fl (sp Qjf (sp Qjg (sp Qhn (sp (.eq (a0 12200 Qji) Q0) (sp (.eq (rr 12200 Qji 0) Qa) Qkh fl) fl) KX) (sp Qjq (sp (.eq (a0 12200 Qjs) Q0) (sp (.eq (rr 12200 Qjs 0) Qa) Qki fl) fl) KX)) fl)) Qkj))))))))))))))))))) MV) fl) fl) MV)) MV))) fl) (sp (.eq Qgt ZT) (sp Qgv (sp Qgw MV (sp Qq MV (sp Qr (sp Qfp MV (sp Qg0 (sp Qhj (sp Qhk (sp Qhl (sp Qhm Qhv (sp Qhw Qhx (sp Qhy Qhx (sp Qhz Qh2 (sp Qh3 Qh4 (sp Qh5 Qkf (sp Qia Qkg (sp Qil Qhv (sp Qin Qip (sp Qiq Qir (sp Qit Qiw (sp Qix Qiy (sp Qiz Qi0 (sp Qi1 Qi2 (sp Qi3 Qi4 (sp Qi5 Qi6 (sp Qi8 Qj5 (sp Qja ZQ (sp Qjd (sp Qje fl (sp Qjf (sp Qjg (sp Qhn (sp (.eq (a0 12300 Qji) Q0) (sp (.eq (rr 12300 Qji 0) Qa) Qkh fl) fl) KX) (sp Qjq (sp (.eq (a0 12300 Qjs) Q0) (sp (.eq (rr 12300 Qjs 0) Qa) Qki fl) fl) KX)) fl)) Qkj))))))))))))))))))) MV) fl) fl) MV)) MV))) fl) fl))))))) fl
abbrev Qkk:T Lf:=ju 451 [Qf,rC,Qa,Qb]
def aDC:T Lf:=sp (.lt (.lit 64) rC) Qkk (sp (.lt Qj2 Qc) Qkk (ju 452 [Qf,rC,Qa,Qb]))
abbrev Qkl:T Lf:=ju 451 [Qf,Qb,kP,Qm]
def ayN:T Lf:=sp wY (sp uS fl (sp Rl Qkl fl)) (ju 453 [Qm,Gi,Qa,Qf])
abbrev Qkm:List SE:=[Qf,Qm,Qgk,JL,Qgj,Qgm,nm Xy]
def ayM:T Lf:=sp wY (sp uS fl (sp Rl (sp (.eq (a0 700 Qkm) Q0) (sp (.eq (rr 700 Qkm 0) Qa) Qkl (ju 452 [Qf,Qb,kP,Qm])) fl) fl)) (ju 454 [Qm,Gi,Qa,Qf])
abbrev Qkn:List SE:=[Qa,Qf,Qb,Qo,Qm,ce 0 XA,JL,ce 2 XA]
abbrev Qko:SE:=.lit 120
def ayL:T Lf:=sp wY (sp uS fl (sp Rl (ju 455 Qkn) fl)) (ou [Qko])
def ayK:T Lf:=sp wY (sp uS fl (sp Rl (sp (.lt Qko (ln JL)) (ju 455 Qkn) (sp (.lt (.lit 4000) (ln (ce 2 XA))) (ju 455 Qkn) (ju 456 Qkn))) fl)) bW
abbrev Qkp:T Lf:=ju 453 [Qb,Qo,Q1,bC]
def ayJ:T Lf:=sp (.lt Qf (ln dZ)) Qkp Qkp
abbrev Qkq:SE:=el dZ Qf
abbrev Qkr:List SE:=[bC,Qb,bK,cZ,dZ,nm (ce 0 Qkq),nm (ce 1 Qkq),nm (ce 2 Qkq),nm (ce 3 Qkq),nm (ce 4 Qkq),nm (ce 5 Qkq),ce 6 Qkq]
abbrev Qks:SE:=wr (.add Qf Q0)
abbrev Qkt:List SE:=[ce 6 Qkq,bK,cZ,dZ]
abbrev Qku:List SE:=[Qks,Qb,Qo,Qm,bC,rr 5000 Qkt 0,rr 5000 Qkt 1,rr 5000 Qkt 2]
def ayI:T Lf:=sp (.lt Qf (ln dZ)) (sp (.lt Qf Qa) fl (sp (.eq (a0 750 Qkr) Q0) (sp (.eq (rr 750 Qkr 0) Qa) (ju 455 [Qks,Qb,Qo,Qm,bC,bK,cZ,dZ]) (sp (.eq (a0 5000 Qkt) Q0) (sp (.eq (rr 5000 Qkt 3) Qa) (ju 456 Qku) (ju 455 Qku)) fl)) fl)) (ju 454 [Qb,Qo,Q1,bC])
abbrev U3:List SE:=[Qf,Qb,Qo,Qm,bC]
abbrev Qkw:SB:=.lt fQ Qa
abbrev Qkx:SB:=.lt Qa (ln fP)
abbrev Qky:SB:=.eq Qf rY
abbrev Qkz:SB:=.lt Qa (ln jL)
abbrev Qk0:SB:=.eq dZ Qa
abbrev Qk1:T Lf:=ju 501 [kT,fP,ln fP,Qa,Qf,Qb,Qo,Qm,bC,bK,cZ,dZ,fQ,jL,jM]
abbrev Qk2:T Lf:=sp (.lt Qa fQ) bW Qk1
abbrev Qk3:T Lf:=sp Qkz bW (sp Qk0 Qk2 bW)
abbrev Qk4:SB:=.eq Qf nT
abbrev Qk5:SB:=.eq Qf (.lit 8)
abbrev Qk6:SB:=.eq Qf Qch
abbrev Qk7:SB:=.eq Qf Q0
abbrev Qk8:T Lf:=sp (.lt bK Qjh) bW (sp (.lt bK kT) (sp Qkw bW (sp (.lt Qj0 fQ) bW (sp Qfp (sp Qkx (sp Qky Qk3 (sp Qk4 Qk3 bW)) (sp Qkz (sp Qk5 (sp Qk0 Qk2 bW) bW) (sp Qk0 (sp (.lt Qa fQ) (sp Qk6 Qk1 bW) Qk1) (sp (.eq Qf ZT) Qk2 bW)))) (sp Qk7 (sp Qkx bW Qk3) (sp Qk4 (sp Qkx Qk3 Qk3) (sp (.eq Qf ZT) (sp Qkx bW (sp Qkz bW (sp Qk0 Qk2 Qk2))) bW)))))) bW)
def ajF:T Lf:=sp (.eq (a0 650 U3) Q0) (sp (.eq (rr 650 U3 1) Qa) Qk8 (sp Qe7 bW (sp (.lt (rr 650 U3 0) cZ) bW Qk8))) fl
abbrev Qk9:SE:=nm Qs
abbrev Qla:SE:=.op .norm (mk Qk9) Qa
abbrev Qlb:T Lf:=ju 501 [Qf,Qb,Qo,Q1,bC,bK,cZ,dZ,fQ,fP,jL,kT,nR,mX,.op .EH qF (cn Qla Qh)]
abbrev Qlc:SE:=ln mX
abbrev Qld:SB:=.lt fP Qa
abbrev Qle:T Lf:=sp Qld jX (sp (.eq Qc Qa) (sp (.eq kT Qa) jX bW) bW)
def XP:T Lf:=sp Qp (sp Qq fl (sp Qr (sp (.lt Qk9 Qa) bW (sp (.lt Qk9 Qf) (sp (.eq (.op .Le qF Qla) Qa) Qlb (sp (.eq (nm (.op .Lh qF Qla)) Q0) bW Qlb)) bW)) fl)) (sp Qe7 (sp (.lt Qa Qlc) bW Qle) (sp (.lt cZ Qlc) bW Qle))
abbrev Qlf:SB:=.lt rC (.lit 1759218604441)
abbrev Qlg:SB:=.eq (.op .norm Qf Qa) Qh
abbrev Qlh:SB:=.eq (.op .norm Qf Qa) Qk
def anQ:T Lf:=sp Qf7 (sp Qlf (ju 551 [Qf,rC,Qa]) fl) (sp Qlg (ju 552 []) (sp Qlh (ju 553 []) fl))
abbrev Qli:SB:=.lt Qa (ln Qgo)
abbrev Qlj:SB:=.lt (ln Qgo) Qv
abbrev Qlk:SE:=.op .set Qf (cn Gg (.op .set XA (cn Qbd Xy)))
abbrev Qll:SB:=.eq Qgo Qh
abbrev Qlm:SB:=.eq Qgo Qk
abbrev Qln:SE:=.op .set Qf (cn Gg (.op .set XA Qbl))
abbrev Qlo:SE:=.op .set Qf (cn Gg (.op .set XA Qbq))
def ayH:T Lf:=sp wY (sp uS fl (sp Rl (sp (.lt Qa (ln Xy)) (sp (.lt (ln Xy) Qv) (sp Qli (sp Qlj (ju 551 [.op .set Qlk (cn Gg (.op .set (el Qlk Qo) (cn Qbf Qgo))),Qb,kP]) fl) (sp Qll (ju 551 [.op .set Qlk (cn Gg (.op .set (el Qlk Qo) Qbh)),Qb,kP]) (sp Qlm (ju 551 [.op .set Qlk (cn Gg (.op .set (el Qlk Qo) Qbj)),Qb,kP]) fl))) fl) (sp (.eq Xy Qh) (sp Qli (sp Qlj (ju 551 [.op .set Qln (cn Gg (.op .set (el Qln Qo) (cn Qbf Qgo))),Qb,kP]) fl) (sp Qll (ju 551 [.op .set Qln (cn Gg (.op .set (el Qln Qo) Qbh)),Qb,kP]) (sp Qlm (ju 551 [.op .set Qln (cn Gg (.op .set (el Qln Qo) Qbj)),Qb,kP]) fl))) (sp (.eq Xy Qk) (sp Qli (sp Qlj (ju 551 [.op .set Qlo (cn Gg (.op .set (el Qlo Qo) (cn Qbf Qgo))),Qb,kP]) fl) (sp Qll (ju 551 [.op .set Qlo (cn Gg (.op .set (el Qlo Qo) Qbh)),Qb,kP]) (sp Qlm (ju 551 [.op .set Qlo (cn Gg (.op .set (el Qlo Qo) Qbj)),Qb,kP]) fl))) fl))) fl)) (ou Qj)
def aFR:T Lf:=ou [Qh]
def aFQ:T Lf:=ou [Qk]
abbrev Qlp:SB:=.eq Qf wV
abbrev Qlq:T Lf:=ou [nT]
abbrev Qlr:T Lf:=ou [rY]
def aDB:T Lf:=sp (.lt (wr Qf) (.lit 27)) (sp (.lt Qf Qa) fl (sp (.lt Qf (.lit 27)) (sp (.eq Qf Qa) bW (sp Qk7 jX (sp Qk4 jX (sp Qlp jX (sp Qky jX (sp Qk6 Qlq (sp (.eq Qf ZT) Qlq (sp (.eq Qf Qik) Qlq (sp Qk5 Qlq (sp (.eq Qf Qgg) (ou [wV]) (sp (.eq Qf Qis) (ou [wV]) (sp (.eq Qf (.lit 11)) (ou [wV]) (sp (.eq Qf (.lit 12)) Qlr (sp (.eq Qf (.lit 13)) Qlr (sp (.eq Qf (.lit 14)) Qlr (sp (.eq Qf (.lit 15)) (ou [Qch]) (sp (.eq Qf Qj2) (ou [ZT]) (sp (.eq Qf (.lit 17)) (ou [Qik]) (sp (.eq Qf (.lit 18)) (ou [Qik]) (sp (.eq Qf (.lit 19)) (ou [Qik]) (sp (.eq Qf ZP) (ou [.lit 8]) (sp (.eq Qf (.lit 21)) (ou [.lit 8]) (sp (.eq Qf (.lit 22)) (ou [Qgg]) (sp (.eq Qf (.lit 23)) (ou [Qgg]) (sp (.eq Qf Qjz) Qlr (sp (.eq Qf Qj1) (ou [Qch]) (ou [ZT]))))))))))))))))))))))))))) fl)) bW
def anL:T Lf:=sp Qlp (ou [Qo,Q0]) (sp Qk6 (ou [wr (.sub Qo Q0),Q0]) (sp (.eq Qf Qik) (ou [.lit 1099511627776,Q0]) (sp (.eq Qf Qgg) (ou [Qa,Qa]) (ou [Qa,Q0]))))
abbrev Qls:T Lf:=sp (.eq bC Qa) jX bW
abbrev Qlt:T Lf:=sp Qfa bW (sp (.lt (.lit 1048576) bC) bW jX)
abbrev Qlu:SB:=.lt bC Qa
def aDA:T Lf:=sp (.eq Qo Q0) Qls (sp (.eq Qo nT) Qls (sp (.eq Qo ZT) Qls (sp (.eq Qo Qik) Qls (sp (.eq Qo wV) Qlt (sp (.eq Qo (.lit 8)) Qlt (sp (.eq Qo Qch) (sp Qfa bW (sp (.lt Qj2 bC) bW jX)) (sp (.eq Qo rY) (sp Qlu bW (sp (.lt bC rC) (sp (.eq (nm (ce 0 (el Qf bC))) Q0) jX bW) bW)) (sp (.eq Qo Qgg) jX bW))))))))
abbrev Qlv:SB:=.lt dZ Qa
abbrev Qlw:SB:=.eq bK Q0
abbrev Qlx:SB:=.eq bK nT
abbrev Qly:SB:=.eq bK wV
abbrev Qlz:SB:=.eq bK rY
abbrev Ql0:SB:=.eq bK Qch
abbrev Ql1:T Lf:=sp (.eq bK ZT) bW (sp (.eq bK Qik) bW bW)
abbrev Ql2:T Lf:=sp Qly bW (sp Qlz bW (sp Ql0 bW Ql1))
abbrev Ql3:SB:=.lt dZ rC
abbrev Ql4:SE:=nm (ce 0 (el Qf dZ))
abbrev Ql5:List SE:=[Ql4,bK,cZ,dZ,fQ,fP,jL,kT,Qa]
abbrev Ql6:T Lf:=sp (.eq cZ Qj2) bW jX
abbrev Ql7:T Lf:=sp (.eq (a0 950 Ql5) Q0) (sp (.eq (rr 950 Ql5 0) Qa) bW Ql6) fl
abbrev Ql8:T Lf:=sp Ql3 (sp (.eq Ql4 ZT) jX bW) bW
abbrev Ql9:T Lf:=sp (.eq (ln kT) Q0) jX bW
abbrev Qma:T Lf:=sp (.lt Rn fP) bW Ql9
abbrev Qmb:T Lf:=sp (.lt Rn fP) bW jX
abbrev Qmc:T Lf:=sp Qly bW (sp Qlz Qma (sp Ql0 Qmb Ql1))
abbrev Qmd:T Lf:=sp (.eq cZ Qj2) Qmb jX
abbrev Qme:T Lf:=sp (.eq (a0 950 Ql5) Q0) (sp (.eq (rr 950 Ql5 0) Qa) bW Qmd) fl
abbrev Qmf:SB:=.lt fQ Gi
abbrev Qmg:T Lf:=sp Qly (sp Qmf Ql9 bW) (sp Qlz bW (sp Ql0 bW (sp (.eq bK ZT) (sp Qmf jX bW) (sp (.eq bK Qik) (sp Qmf bW bW) bW))))
abbrev Qmh:List SE:=[Ql4,bK,cZ,dZ,fQ,fP,jL,kT,Q0]
abbrev Qmi:T Lf:=sp Qly (sp Qmf Ql9 bW) (sp Qlz Qma (sp Ql0 Qmb (sp (.eq bK ZT) (sp Qmf jX bW) (sp (.eq bK Qik) (sp Qmf Qmb bW) bW))))
def aDz:T Lf:=sp Qkw (sp Qld (sp Qlv (sp Qlw bW (sp Qlx bW Ql2)) (sp Qlw (sp Ql3 Ql7 bW) (sp Qlx Ql8 Ql2))) (sp Qlv (sp Qlw bW (sp Qlx bW Qmc)) (sp Qlw (sp Ql3 Qme bW) (sp Qlx Ql8 Qmc)))) (sp Qld (sp Qlv (sp Qlw bW (sp Qlx bW Qmg)) (sp Qlw (sp Ql3 (sp Qmf (sp (.eq (a0 950 Qmh) Q0) (sp (.eq (rr 950 Qmh 0) Qa) bW Ql6) fl) Ql7) bW) (sp Qlx Ql8 Qmg))) (sp Qlv (sp Qlw bW (sp Qlx bW Qmi)) (sp Qlw (sp Ql3 (sp Qmf (sp (.eq (a0 950 Qmh) Q0) (sp (.eq (rr 950 Qmh 0) Qa) bW Qmd) fl) Qme) bW) (sp Qlx Ql8 Qmi))))
abbrev Qmj:List SE:=[Qf,Qb,Qo,Qm,Q0,.lit 1000,bC]
def aDy:T Lf:=sp (.eq (a0 5050 Qmj) Q0) (sp (.eq (rr 5050 Qmj 2) Qa) bW jX) fl
def aDx:T Lf:=ju 851 Qfg
abbrev Qmk:SE:=nm Qfi
def anK:T Lf:=sp Qp (sp Qq fl (sp Qfh (sp (.eq Qb Qmk) (ou [Qm]) (ju 851 Qfy)) fl)) (ou [Qjh])
def aDw:T Lf:=sp (.eq (a0 850 KZ) Q0) (sp (.lt (rr 850 KZ 0) Qa) bW jX) fl
abbrev ZA:SB:=.eq fQ Qa
abbrev Qmm:List SE:=[Qf,ln dZ,Qb,Qo,Qm,bC,bK,cZ,dZ]
def aDv:T Lf:=sp ZA (ju 951 Qmm) (ju 952 Qmm)
abbrev Qmn:SE:=cn Qh (cn jM (cn jM Qgd))
abbrev Qmo:List SE:=[Qf,Qb,Q0,Qo,Qm,bC,bK,cZ,dZ,fQ,.op .snoc jM Qmn]
abbrev Qmp:List SE:=[Qf,Q0,Qa,Qa,Qm,Qa,Qa]
abbrev Qmq:SB:=.eq (a0 1200 [Qm]) Q0
abbrev Qmr:SB:=.eq Qf (rr 1200 [Qm] 0)
abbrev Qms:List SE:=[Qf,jM]
abbrev Qmt:SB:=.eq (a0 5150 Qms) Q0
abbrev Qmu:SB:=.eq (rr 5150 Qms 2) Qa
abbrev Qmv:T Lf:=sp (.eq Qm Qj2) jX jX
abbrev Qmw:T Lf:=sp Qmq (sp Qmr (sp Qmt (sp Qmu bW (sp (.lt ZP (ln (rr 5150 Qms 1))) bW Qmv)) fl) bW) fl
abbrev Qmx:T Lf:=sp (.eq (a0 12400 Qmp) Q0) (sp (.eq (rr 12400 Qmp 0) Qa) bW (sp (.eq (rr 12400 Qmp 0) Q0) Qmw fl)) fl
abbrev Qmy:List SE:=[Qa,Qa,Qf,Qa,Qa,Qa,Qm,Qa,Qa]
abbrev Qmz:SB:=.eq (a0 5200 Qms) Q0
abbrev Qm0:SB:=.eq (rr 5200 Qms 3) Qa
abbrev Qm1:List SE:=[Qf,Qa,Qa,Qa,Qm,Qa,Qa]
abbrev Qm2:T Lf:=sp Qlp Qmx (sp Qk5 Qmx (sp Qk6 Qmx (sp Qky (sp (.eq (a0 12450 Qmy) Q0) (sp (.eq (rr 12450 Qmy 0) Qa) bW (sp (.eq (rr 12450 Qmy 0) Q0) (sp Qmq (sp Qmr (sp Qmz (sp Qm0 bW (sp (.lt ZP (ln (rr 5200 Qms 2))) bW Qmv)) fl) bW) fl) fl)) fl) (sp (.eq (a0 12400 Qm1) Q0) (sp (.eq (rr 12400 Qm1 0) Qa) bW (sp (.eq (rr 12400 Qm1 0) Q0) Qmw fl)) fl))))
abbrev Qm3:SB:=.eq (rr 12500 Qmp 0) Qa
abbrev Qm4:SB:=.eq (rr 12500 Qmp 0) Q0
abbrev Qm5:SE:=.dat (.p (.i 97) (.i 0))
abbrev Qm6:SE:=cn Qm5 Qh
abbrev Qm7:SB:=.lt ZP (ln (.op .EH (rr 5150 Qms 1) Qm6))
abbrev Qm8:T Lf:=sp Qmq (sp Qmr (sp Qmt (sp Qmu bW (sp Qm7 bW (sp (.eq Qm Qj2) bW bW))) fl) bW) fl
abbrev Qm9:T Lf:=sp (.eq (a0 12500 Qmp) Q0) (sp Qm3 bW (sp Qm4 Qm8 fl)) fl
abbrev Qna:SB:=.eq (rr 12550 Qmy 0) Qa
abbrev Qnb:SB:=.eq (rr 12550 Qmy 0) Q0
abbrev Qnc:SB:=.lt ZP (ln (.op .EH (rr 5200 Qms 2) Qm6))
abbrev Qnd:SB:=.eq (rr 12500 Qm1 0) Qa
abbrev Qne:SB:=.eq (rr 12500 Qm1 0) Q0
def ayG:T Lf:=sp Qf6 (ju 953 Qmo) (sp (.eq bK Qjh) Qm2 (sp Qlp Qm9 (sp Qk5 Qm9 (sp Qk6 Qm9 (sp Qky (sp (.eq (a0 12550 Qmy) Q0) (sp Qna bW (sp Qnb (sp Qmq (sp Qmr (sp Qmz (sp Qm0 bW (sp Qnc bW (sp (.eq Qm Qj2) bW bW))) fl) bW) fl) fl)) fl) (sp (.eq (a0 12500 Qm1) Q0) (sp Qnd bW (sp Qne Qm8 fl)) fl))))))
abbrev Qnf:T Lf:=sp Qmq (sp Qmr (sp Qmt (sp Qmu bW (sp Qm7 bW Qmv)) fl) bW) fl
abbrev Qng:T Lf:=sp (.eq (a0 12500 Qmp) Q0) (sp Qm3 bW (sp Qm4 Qnf fl)) fl
def ayF:T Lf:=sp Qf6 (ju 954 Qmo) (sp (.eq bK Qjh) Qm2 (sp Qlp Qng (sp Qk5 Qng (sp Qk6 Qng (sp Qky (sp (.eq (a0 12550 Qmy) Q0) (sp Qna bW (sp Qnb (sp Qmq (sp Qmr (sp Qmz (sp Qm0 bW (sp Qnc bW Qmv)) fl) bW) fl) fl)) fl) (sp (.eq (a0 12500 Qm1) Q0) (sp Qnd bW (sp Qne Qnf fl)) fl))))))
abbrev Qnh:SB:=.lt (ln jL) (.lit 2513169434915)
abbrev Qni:List SE:=[Qf,Qb,kP,Qm,bC,bK,cZ,dZ,fQ,fP,.op .snoc jL Qmn]
abbrev Qnj:List SE:=[Qf,Q0,Qa,Qa,bC,Qa,jL,Qa]
abbrev Qnk:SB:=.eq (a0 1200 [bC]) Q0
abbrev Qnl:SB:=.eq Qf (rr 1200 [bC] 0)
abbrev Qnm:List SE:=[rr 12600 Qnj 9,rr 12600 Qnj 10,Qf,jM]
abbrev Qnn:T Lf:=sp (.eq bC Qj2) jX jX
abbrev Qno:T Lf:=sp (.eq (a0 12600 Qnj) Q0) (sp (.eq (rr 12600 Qnj 0) Qa) bW (sp (.eq (rr 12600 Qnj 0) Q0) (sp Qnk (sp Qnl (sp (.eq (a0 5300 Qnm) Q0) (sp (.eq (rr 5300 Qnm 3) Qa) bW (sp (.lt ZP (ln (rr 5300 Qnm 2))) bW Qnn)) fl) bW) fl) fl)) fl
abbrev Qnp:List SE:=[Qa,Qa,Qf,Qa,Qa,Qa,bC,Qa,jL,Qa]
abbrev Qnq:List SE:=[rr 12650 Qnp 11,rr 12650 Qnp 12,Qf,jM]
abbrev Qnr:List SE:=[Qf,Qa,Qa,Qa,bC,Qa,jL,Qa]
abbrev Qns:List SE:=[rr 12600 Qnr 9,rr 12600 Qnr 10,Qf,jM]
abbrev Qnt:T Lf:=sp Qlp Qno (sp Qk5 Qno (sp Qk6 Qno (sp Qky (sp (.eq (a0 12650 Qnp) Q0) (sp (.eq (rr 12650 Qnp 0) Qa) bW (sp (.eq (rr 12650 Qnp 0) Q0) (sp Qnk (sp Qnl (sp (.eq (a0 5350 Qnq) Q0) (sp (.eq (rr 5350 Qnq 4) Qa) bW (sp (.lt ZP (ln (rr 5350 Qnq 3))) bW Qnn)) fl) bW) fl) fl)) fl) (sp (.eq (a0 12600 Qnr) Q0) (sp (.eq (rr 12600 Qnr 0) Qa) bW (sp (.eq (rr 12600 Qnr 0) Q0) (sp Qnk (sp Qnl (sp (.eq (a0 5300 Qns) Q0) (sp (.eq (rr 5300 Qns 3) Qa) bW (sp (.lt ZP (ln (rr 5300 Qns 2))) bW Qnn)) fl) bW) fl) fl)) fl))))
abbrev Qnu:SB:=.eq (rr 12700 Qnj 0) Qa
abbrev Qnv:SB:=.eq (rr 12700 Qnj 0) Q0
abbrev Qnw:List SE:=[rr 12700 Qnj 9,rr 12700 Qnj 10,Qf,jM]
abbrev Qnx:SB:=.eq (rr 5300 Qnw 3) Qa
abbrev Qny:SB:=.lt ZP (ln (.op .EH (rr 5300 Qnw 2) Qm6))
abbrev Qnz:T Lf:=sp (.eq bC Qj2) bW bW
abbrev Qn0:T Lf:=sp (.eq (a0 12700 Qnj) Q0) (sp Qnu bW (sp Qnv (sp Qnk (sp Qnl (sp (.eq (a0 5300 Qnw) Q0) (sp Qnx bW (sp Qny bW Qnz)) fl) bW) fl) fl)) fl
abbrev Qn1:SB:=.eq (rr 12750 Qnp 0) Qa
abbrev Qn2:SB:=.eq (rr 12750 Qnp 0) Q0
abbrev Qn3:List SE:=[rr 12750 Qnp 11,rr 12750 Qnp 12,Qf,jM]
abbrev Qn4:SB:=.eq (rr 5350 Qn3 4) Qa
abbrev Qn5:SB:=.lt ZP (ln (.op .EH (rr 5350 Qn3 3) Qm6))
abbrev Qn6:SB:=.eq (rr 12700 Qnr 0) Qa
abbrev Qn7:SB:=.eq (rr 12700 Qnr 0) Q0
abbrev Qn8:List SE:=[rr 12700 Qnr 9,rr 12700 Qnr 10,Qf,jM]
abbrev Qn9:SB:=.eq (rr 5300 Qn8 3) Qa
abbrev Qoa:SB:=.lt ZP (ln (.op .EH (rr 5300 Qn8 2) Qm6))
def wC:T Lf:=sp wY (sp Qnh (ju 953 Qni) fl) (sp (.eq cZ Qjh) Qnt (sp Qlp Qn0 (sp Qk5 Qn0 (sp Qk6 Qn0 (sp Qky (sp (.eq (a0 12750 Qnp) Q0) (sp Qn1 bW (sp Qn2 (sp Qnk (sp Qnl (sp (.eq (a0 5350 Qn3) Q0) (sp Qn4 bW (sp Qn5 bW Qnz)) fl) bW) fl) fl)) fl) (sp (.eq (a0 12700 Qnr) Q0) (sp Qn6 bW (sp Qn7 (sp Qnk (sp Qnl (sp (.eq (a0 5300 Qn8) Q0) (sp Qn9 bW (sp Qoa bW Qnz)) fl) bW) fl) fl)) fl))))))
abbrev Qob:T Lf:=sp (.eq (a0 12700 Qnj) Q0) (sp Qnu bW (sp Qnv (sp Qnk (sp Qnl (sp (.eq (a0 5300 Qnw) Q0) (sp Qnx bW (sp Qny bW Qnn)) fl) bW) fl) fl)) fl
def wB:T Lf:=sp wY (sp Qnh (ju 954 Qni) fl) (sp (.eq cZ Qjh) Qnt (sp Qlp Qob (sp Qk5 Qob (sp Qk6 Qob (sp Qky (sp (.eq (a0 12750 Qnp) Q0) (sp Qn1 bW (sp Qn2 (sp Qnk (sp Qnl (sp (.eq (a0 5350 Qn3) Q0) (sp Qn4 bW (sp Qn5 bW Qnn)) fl) bW) fl) fl)) fl) (sp (.eq (a0 12700 Qnr) Q0) (sp Qn6 bW (sp Qn7 (sp Qnk (sp Qnl (sp (.eq (a0 5300 Qn8) Q0) (sp Qn9 bW (sp Qoa bW Qnn)) fl) bW) fl) fl)) fl))))))
def aoW:T Lf:=sp (.eq (a0 1050 [Qf,Qa]) Q0) (sp (.eq (rr 1050 [Qf,Qa] 6) Qa) (sp (.eq (rr 1050 [Qf,Qa] 0) nT) (sp (.eq (wr (.sub (rr 1050 [Qf,Qa] 5) (rr 1050 [Qf,Qa] 4))) rC) jX bW) bW) bW) fl
abbrev Qoc:T Lf:=ou [Qa,jM,Qa,Qa,Qa,Qa,nT,Qa]
abbrev Qod:SE:=rr 12800 KZ 3
abbrev Qoe:SE:=wr (.add (.op .cnt (.op .sub Qf (cn jM (cn (mk Qod) jM))) Qis) Q0)
abbrev Qof:SE:=rr 12850 [Qf,Qod] 3
abbrev Qog:SE:=.op .sub Qf (cn (mk Qod) (cn (mk Qof) jM))
abbrev Qoh:SE:=nm (el Qog Qa)
abbrev Qoi:SE:=.lit 256
abbrev Qoj:SE:=nm (el (.dat b0) Qoh)
abbrev Qok:T Lf:=ou [Qa,jM,Qa,Qa,Qa,Qa,Qfb,Qoe]
abbrev Qol:SE:=.dat (.p (.i 32) (.i 0))
abbrev Qom:SB:=.eq (.op .norm Qog Qa) (.dat (.p (.i 61) (.i 0)))
def XV:T Lf:=sp (.lt (.lit 16384) rC) (ou [Qa,jM,Qa,Qa,Qa,Qa,wV,Qa]) (sp Qe2 Qoc (sp (.lt rC Qb) Qoc (sp (.eq (a0 12800 KZ) Q0) (sp (.eq (rr 12800 KZ 0) Qa) (sp (.lt Qod Qa) fl (sp (.lt rC Qod) fl (sp (.eq Qod rC) (ou [Qch,jM,Qa,Qoe,Qod,Qod,Qa,Qa]) (sp (.eq (a0 12850 [Qf,Qod]) Q0) (sp (.eq (rr 12850 [Qf,Qod] 0) Qa) (sp (.lt Qof Qod) fl (sp (.lt rC Qof) fl (sp (.lt Qa (ln Qog)) (sp (.lt Qoh Qa) fl (sp (.lt Qoh Qoi) (sp (.eq Qoj wV) (sp (.eq (a0 1100 [Qog]) Q0) (sp (.eq (rr 1100 [Qog] 1) Qa) Qok (ou [Q0,jM,rr 1100 [Qog] 0,Qoe,Qod,Qof,Qa,Qa])) fl) (sp (.eq Qoj rY) (sp (.lt (ln Qog) (.lit 1000000000)) (sp (.lt (ln (.op .cat Qol Qog)) (.lit 1000000000)) (sp (.eq (.op .con (.dat b1) (.op .cat (.op .cat Qol Qog) Qol)) Qa) (sp Qom Qok (ou [nT,Qog,Qa,Qoe,Qod,Qof,Qa,Qa])) (sp Qom Qok (ou [wV,Qog,Qa,Qoe,Qod,Qof,Qa,Qa]))) fl) fl) (sp (.eq Qoj Qch) (sp Qom Qok (ou [rY,Qog,Qa,Qoe,Qod,Qof,Qa,Qa])) Qok))) fl)) fl))) fl) fl)))) fl) fl)))
def aoV:T Lf:=sp (.eq rC Qa) (ju 1101 []) (ju 1102 [Qa,Qf,rC,Qa])
def aB8:T Lf:=ou [Qa,Q0]
abbrev Qon:SE:=.lit 9223372036854775807
abbrev Qoo:SE:=wr (.wrap .u8 (.sub Qk9 (.lit 48)))
def afS:T Lf:=sp Qp (sp Qq fl (sp Qr (sp (.lt (wr (.quo (wr (.sub Qon Qoo)) Qis)) Qf) (ou [Qa,Qa]) (ju 1102 [wr (.add (wr (.mul Qf Qis)) Qoo),Qb,Qo,Q1])) fl)) (ou [Qf,Q0])
abbrev Qop:SB:=.eq (rr 1000 [Qb] 0) Qa
abbrev Qoq:SE:=wr (.sub Gi Q0)
abbrev Qor:SE:=.dat (.p (.i 45) (.i 0))
abbrev Qos:SE:=.dat (.p (.i 43) (.i 0))
abbrev Qot:SE:=.dat (.p (.i 42) (.i 0))
abbrev Qou:SE:=.dat (.p (.i 61) (.p (.i 61) (.i 0)))
abbrev Qov:SE:=.dat (.p (.i 60) (.i 0))
def aoU:T Lf:=sp Qk7 (sp uS bW (sp (.eq Qg jM) (sp (.eq Gi Qa) jX bW) bW)) (sp Qk4 (sp (.eq Qo Qa) (sp (.eq Gi Qa) (sp (.eq (a0 1000 [Qb]) Q0) (sp Qop bW jX) fl) bW) bW) (sp Qlp (sp (.eq Qo Qa) (sp (.lt Gi Q0) bW (sp (.lt nT Gi) bW (sp (.lt Qoq Qa) fl (sp (.lt Qoq nT) (sp (.eq Qoq Qa) (sp (.eq Qg Qor) jX bW) (sp (.eq Qg Qos) jX (sp (.eq Qg Qor) jX (sp (.eq Qg Qot) jX (sp (.eq Qg Qou) jX (sp (.eq Qg Qov) jX bW)))))) fl)))) bW) bW))
def aoT:T Lf:=sp (.lt rY Qf) (sp (.lt (.lit 8) Qf) (sp (.lt (.lit 11) Qf) (sp (.lt (.lit 14) Qf) (sp (.eq Qf (.lit 15)) (ou [Qch]) (sp (.eq Qf Qj2) (ou [ZT]) (sp (.lt (.lit 19) Qf) (sp (.lt (.lit 21) Qf) (ou [Qgg]) (ou [.lit 8])) (ou [Qik])))) Qlr) (ou [wV])) Qlq) jX
def aoS:T Lf:=sp Qky jX (sp (.eq Qf (.lit 17)) jX (sp (.eq Qf ZP) jX (sp (.eq Qf (.lit 23)) jX bW)))
def aoR:T Lf:=sp Qlp jX (sp Qky jX (sp (.eq Qf (.lit 11)) jX (sp (.eq Qf (.lit 21)) jX (sp (.eq Qf (.lit 22)) jX bW))))
def aoQ:T Lf:=sp Qlp jX (sp Qk6 jX (sp Qk5 jX (sp (.eq Qf Qgg) jX bW)))
abbrev Qow:SE:=.op .norm Qm Qa
abbrev Qox:T Lf:=sp Qky (sp (.eq (a0 1000 [Qm]) Q0) (sp (.eq (rr 1000 [Qm] 0) Qa) bW jX) fl) (sp (.eq Qow jM) jX bW)
def aoP:T Lf:=sp (.lt Qf Q0) bW (sp (.lt Qgg Qf) bW (sp (.eq (a0 1000 [Qb]) Q0) (sp Qop bW (sp uS bW (sp (.lt Qa Qo) (sp (.eq (a0 1350 Qj) Q0) (sp (.eq (rr 1350 Qj 0) Qa) bW Qox) fl) Qox))) fl))
def afR:T Lf:=sp Qf4 (sp Qf5 (sp (.eq (a0 300 KZ) Q0) (ju 1451 [Qb,Qc,rr 300 KZ 0]) fl) (ou [Qh,Qh,rr 450 KZ 0])) fl
abbrev Qoy:SE:=ce 1 Qf8
abbrev Qoz:SE:=cn jM (cn jM (cn jM (cn jM jM)))
abbrev Qo0:SB:=.lt (ln Qoy) Qv
def XU:T Lf:=sp Qf6 (sp Qf7 (sp (.eq (ln Qoy) Qa) (ju 1452 [Qf,Qb,Q0,Qo,.op .snoc jM (cn jM (cn Qk Qoz))]) (sp Qo0 (ju 1452 [Qf,Qb,Q0,Qo,.op .snoc jM (cn jM (cn (.op .rep (ln Qoy) jM) Qoz))]) fl)) fl) (ou [Qo,Qh,Qa])
abbrev Qo1:SE:=.lit 2199023255551
abbrev Qo2:SB:=.lt (ln JL) Qv
abbrev Qo3:T Lf:=ou [Qm,bC,Qa]
def XT:T Lf:=sp wY (sp uS fl (sp Rl (sp (.eq (ln JL) Qa) (sp (.lt Rn Qo1) (ju 1452 [Qf,Qb,kP,Qm,.op .snoc bC (cn jM (cn Qk Qoz))]) fl) (sp Qo2 (sp (.lt Rn Qo1) (ju 1452 [Qf,Qb,kP,Qm,.op .snoc bC (cn jM (cn (.op .rep (ln JL) jM) Qoz))]) fl) fl)) fl)) Qo3
def aoO:T Lf:=sp Qgv (sp Qgw bW (sp (.eq Gi Qc) (ju 1501 [Qm,Gi,Qa,Qf,Qb]) bW)) fl
abbrev Qo4:List SE:=[Qm,bC,ce 0 Qdl,Qdm,ce 2 Qdl,Qgk,JL,Qgj,nm Qgm,nm Xy,nm Qgo]
def afQ:T Lf:=sp wY (sp uS fl (sp Rl (sp Qdk (sp (.eq (a0 1600 Qo4) Q0) (sp (.eq (rr 1600 Qo4 0) Qa) bW (ju 1501 [Qf,Qb,kP,Qm,bC])) fl) fl) fl)) jX
abbrev Qo5:SB:=.lt bC Qc
abbrev Qo6:List SE:=[Qf,Qb,Qo,Qm]
abbrev Qo7:SB:=.eq (rr 1500 Qo6 0) Qa
abbrev Qo8:T Lf:=sp (.eq (a0 1500 Qo6) Q0) (sp Qo7 bW jX) fl
def aoN:T Lf:=sp Qlu bW (sp Qo5 Qo8 bW)
def aoM:T Lf:=sp Qfp bW (sp (.lt Rn bK) bW (sp (.eq Qfc Gi) (sp (.lt jL Qa) bW (sp (.lt Qj0 jL) bW (sp Qk0 (sp ZA (sp (.eq fP Qa) jX bW) bW) (sp (.eq dZ Qjz) (sp Qkw bW (sp (.lt fQ rC) (sp (.eq (nm (ce 0 (el Qf fQ))) rY) jX bW) bW)) (sp (.eq dZ Qj1) (sp Qkw bW (sp (.lt fQ rC) (sp (.eq (nm (ce 0 (el Qf fQ))) Qch) jX bW) bW)) bW))))) bW))
abbrev Qo9:SE:=el Qm bC
abbrev Qpa:SE:=nm (ce 2 Qo9)
abbrev Qpb:SE:=nm (ce 0 Qo9)
abbrev Qpc:SB:=.eq Qpb (ln (ce 2 (el Qb bC)))
def aoL:T Lf:=sp Qlu fl (sp (.lt bC Gi) (sp (.eq Qpa Qa) (sp Qo5 (sp Qpc jX bW) fl) bW) fl)
abbrev MS:SB:=.eq (a0 1550 U3) Q0
abbrev MQ:SB:=.eq (rr 1550 U3 0) Qa
abbrev Qpf:SB:=.eq (rr 1650 U3 0) Qa
def afP:T Lf:=sp MS (sp MQ bW (sp (.eq (a0 1650 U3) Q0) (sp Qpf bW jX) fl)) fl
abbrev Qpg:SE:=el (ce 2 (el Qb bC)) Qpb
abbrev Qph:T Lf:=ou [Qa,Qa,Qa,Qa,Qa]
def Nq:T Lf:=sp Qlu fl (sp (.lt bC Gi) (sp (.eq Qpa Qa) (sp (.eq (a0 1650 U3) Q0) (sp Qpf (sp Qo5 (sp (.lt Qpb Qa) fl (sp (.lt Qpb (ln (ce 2 (el Qb bC)))) (sp (.eq (nm (ce 0 Qpg)) Q0) (ju 1751 [ce 6 Qpg,ln (ce 6 Qpg),Qa,Qpb,ce 1 Qo9,Qpa,nm (ce 3 Qo9),nm (ce 4 Qo9),nm (ce 5 Qo9),nm (ce 1 Qpg),nm (ce 2 Qpg),Qa]) (sp (.eq (nm (ce 0 Qpg)) nT) (ou [.lit 26,nm (ce 2 Qpg),Qa,Qa,Q0]) Qph)) fl)) fl) Qph) fl) (ou [Qpa,nm (ce 3 Qo9),nm (ce 4 Qo9),Qa,Q0])) fl)
def afO:T Lf:=sp wY (sp uS fl (sp Rl (sp (.eq (a0 1950 [Qgk,JL,Qgj,Qgm,bC]) Q0) (ju 1751 [Qf,Qb,kP,Qm,bC,bK,cZ,dZ,fQ,fP,jL,rr 1950 [Qgk,JL,Qgj,Qgm,bC] 0]) fl) fl)) (ou [fP,jL,kT,fQ,Q0])
def RZ:T Lf:=sp MS (sp MQ Qph (sp (.eq (a0 1750 U3) Q0) (sp (.eq (rr 1750 U3 4) Qa) (ou [rr 1750 U3 0,rr 1750 U3 1,rr 1750 U3 2,rr 1750 U3 3,Qa]) (ou [rr 1750 U3 0,rr 1750 U3 1,rr 1750 U3 2,rr 1750 U3 3,Q0])) fl)) fl
abbrev QU:List SE:=[bC,Qo,Qm]
abbrev rW:SE:=rr 9050 QU 0
abbrev Fb:SE:=rr 9050 QU 2
abbrev Xx:SE:=rr 9050 QU 3
abbrev Qpm:List SE:=[Qf,Qb,Fb,Xx,bC]
abbrev Qpn:List SE:=[Qf,Qb,Fb,Qh,bC]
abbrev Qpo:List SE:=[Qf,Qb,Fb,Qk,bC]
abbrev Qpp:SE:=rr 9050 QU 4
abbrev Qpq:SE:=rr 9050 QU 5
abbrev Qpr:SE:=rr 9050 QU 6
abbrev Qps:SE:=rr 9050 QU 7
abbrev Qpt:SE:=rr 9050 QU 8
abbrev Qpu:SE:=rr 9050 QU 9
abbrev Qpv:SE:=cn (mk Qpr) (cn (mk Qps) (cn (mk Qpt) (cn (mk Qpu) jM)))
abbrev Qpw:SE:=.op .set Xx (cn (mk bC) (cn (mk Qpp) (cn Qpq Qpv)))
abbrev Qpx:T Lf:=ou [Fb,Qpw,Qa,Qa,Qa,Qa,Qa,Qa]
abbrev U2:List SE:=[Qf,Qb,Fb,Qpw,bC]
abbrev Qpz:SB:=.eq (rr 1650 U2 0) Qa
abbrev Qp0:SB:=.eq (rr 1750 U2 4) Qa
abbrev Qp1:List SE:=[Qf,Qb,bC,Fb,Xx,Qpp,Qpq,Qpr,Qps,Qpt,Qpu]
abbrev rX:List SE:=[Qf,Qb,bC,rr 1750 U2 0,rr 1750 U2 1,rr 1750 U2 2,rr 1750 U2 3,Fb,Xx,Qpp,Qpq,Qpr,Qps,Qpt,Qpu]
abbrev Qp3:T Lf:=ou [Fb,Qpw,Qa,Qa,Qa,Qa,Qa,rY]
def JY:T Lf:=sp (.eq (a0 9050 QU) Q0) (sp (.eq rW Qa) (sp MS (sp MQ (ou [Fb,Xx,Qa,Qa,Qa,Qa,Qa,Qa]) (sp (.eq (a0 1650 Qpm) Q0) (sp (.eq (rr 1650 Qpm 0) Qa) (sp (.eq (a0 1750 Qpm) Q0) (sp (.eq (rr 1750 Qpm 4) Qa) fl fl) fl) (ou [Fb,Xx,Qa,Qa,Qa,Qa,Qa,rY])) fl)) fl) (sp (.eq rW Q0) (sp MS (sp MQ (ou [Fb,Qh,Qa,Qa,Qa,Qa,Qa,Qa]) (sp (.eq (a0 1650 Qpn) Q0) (sp (.eq (rr 1650 Qpn 0) Qa) (sp (.eq (a0 1750 Qpn) Q0) (sp (.eq (rr 1750 Qpn 4) Qa) fl fl) fl) (ou [Fb,Qh,Qa,Qa,Qa,Qa,Qa,rY])) fl)) fl) (sp (.eq rW nT) (sp MS (sp MQ (ou [Fb,Qk,Qa,Qa,Qa,Qa,Qa,Qa]) (sp (.eq (a0 1650 Qpo) Q0) (sp (.eq (rr 1650 Qpo 0) Qa) (sp (.eq (a0 1750 Qpo) Q0) (sp (.eq (rr 1750 Qpo 4) Qa) fl fl) fl) (ou [Fb,Qk,Qa,Qa,Qa,Qa,Qa,rY])) fl)) fl) (sp (.eq rW wV) (sp MS (sp MQ Qpx (sp (.eq (a0 1650 U2) Q0) (sp Qpz (sp (.eq (a0 1750 U2) Q0) (sp Qp0 (sp (.eq (a0 14000 Qp1) Q0) (sp (.eq (rr 14000 Qp1 0) Qa) (ou [Fb,.op .set Xx (cn (mk bC) (cn (mk (rr 14000 Qp1 12)) (cn (rr 14000 Qp1 13) Qpv))),Qa,Qa,Qa,Qa,Qa,Q0]) fl) fl) (sp (.eq (a0 14500 rX) Q0) (sp (.eq (rr 14500 rX 0) Qa) (ou [rr 14500 rX 22,.op .set Xx (cn (mk bC) (cn (mk (rr 14500 rX 23)) (cn (rr 14500 rX 24) (cn (mk (rr 14500 rX 25)) (cn (mk (rr 14500 rX 26)) (cn (mk (rr 14500 rX 27)) (cn (mk (rr 14500 rX 28)) jM))))))),rr 14500 rX 16,rr 14500 rX 17,rr 14500 rX 18,rr 14500 rX 19,rr 14500 rX 20,rr 14500 rX 21]) fl) fl)) fl) Qp3) fl)) fl) (sp (.eq rW rY) (sp MS (sp MQ Qpx (sp (.eq (a0 1650 U2) Q0) (sp Qpz (sp (.eq (a0 1750 U2) Q0) (sp Qp0 (sp (.eq (a0 14050 Qp1) Q0) (sp (.eq (rr 14050 Qp1 0) Qa) (ou [Fb,.op .set Xx (cn (mk bC) (cn (mk (rr 14050 Qp1 12)) (cn Qpq Qpv))),Qa,Qa,Qa,Qa,Qa,Q0]) fl) fl) (sp (.eq (a0 14550 rX) Q0) (sp (.eq (rr 14550 rX 0) Qa) (ou [rr 14550 rX 22,.op .set Xx (cn (mk bC) (cn (mk (rr 14550 rX 23)) (cn Qpq (cn (mk (rr 14550 rX 24)) (cn (mk (rr 14550 rX 25)) (cn (mk (rr 14550 rX 26)) (cn (mk (rr 14550 rX 27)) jM))))))),rr 14550 rX 16,rr 14550 rX 17,rr 14550 rX 18,rr 14550 rX 19,rr 14550 rX 20,rr 14550 rX 21]) fl) fl)) fl) Qp3) fl)) fl) fl))))) fl
abbrev Qp4:SB:=.lt Qc (.lit 2199023255552)
abbrev Qp5:List SE:=[rC,Qa,Qf]
def RY:T Lf:=sp Qf7 (sp Qlf (sp Qd (sp Qp4 (ju 1901 [rC,Qa,Qf,Qb]) fl) (sp Qi (ju 1902 Qp5) (sp Ql (ju 1903 Qp5) fl))) fl) (sp Qlg (sp Qd (sp Qp4 (ju 1904 [Qb]) fl) (sp Qi (ju 1905 []) (sp Ql (ju 1906 []) fl))) (sp Qlh (sp Qd (sp Qp4 (ju 1907 [Qb]) fl) (sp Qi (ju 1908 []) (sp Ql (ju 1909 []) fl))) fl))
abbrev Qp6:SB:=.lt Qb Qf
abbrev Qp7:SB:=.lt Qb Qcl
abbrev Qp8:SE:=el Qo Qb
abbrev Qp9:SE:=ce 4 Qp8
abbrev Qqa:SB:=.lt Qa (ln Qp9)
abbrev Qqb:SB:=.lt (ln Qp9) Qv
abbrev Qqc:SE:=ce 5 Qp8
abbrev Qqd:SB:=.lt Qa (ln Qqc)
abbrev Qqe:SB:=.lt (ln Qqc) Qv
abbrev U1:SE:=mk Qb
abbrev Qqg:SE:=.op .set Qo (cn U1 (.op .set Qp8 (cn Qbd Qp9)))
abbrev Qqh:SE:=.op .set Qqg (cn U1 (.op .set (el Qqg Qb) (cn Qbf Qqc)))
abbrev Qqi:SB:=.eq Qqc Qh
abbrev Qqj:SE:=.op .set Qqg (cn U1 (.op .set (el Qqg Qb) Qbh))
abbrev Qqk:SB:=.eq Qqc Qk
abbrev Qql:SE:=.op .set Qqg (cn U1 (.op .set (el Qqg Qb) Qbj))
abbrev Qqm:SE:=.op .set Qo (cn U1 (.op .set Qp8 Qbl))
abbrev Qqn:SE:=.op .set Qqm (cn U1 (.op .set (el Qqm Qb) (cn Qbf Qqc)))
abbrev Qqo:SE:=.op .set Qqm (cn U1 (.op .set (el Qqm Qb) Qbh))
abbrev Qqp:SE:=.op .set Qqm (cn U1 (.op .set (el Qqm Qb) Qbj))
abbrev Qqq:SE:=.op .set Qo (cn U1 (.op .set Qp8 Qbq))
abbrev Qqr:SE:=.op .set Qqq (cn U1 (.op .set (el Qqq Qb) (cn Qbf Qqc)))
abbrev Qqs:SE:=.op .set Qqq (cn U1 (.op .set (el Qqq Qb) Qbh))
abbrev Qqt:SE:=.op .set Qqq (cn U1 (.op .set (el Qqq Qb) Qbj))
def afN:T Lf:=sp Qp6 (sp Qe2 fl (sp Qp7 (sp Qqa (sp Qqb (sp Qqd (sp Qqe (ju 1901 [Qf,vY,Qqh,Qm]) fl) (sp Qqi (ju 1901 [Qf,vY,Qqj,Qm]) (sp Qqk (ju 1901 [Qf,vY,Qql,Qm]) fl))) fl) (sp (.eq Qp9 Qh) (sp Qqd (sp Qqe (ju 1901 [Qf,vY,Qqn,Qm]) fl) (sp Qqi (ju 1901 [Qf,vY,Qqo,Qm]) (sp Qqk (ju 1901 [Qf,vY,Qqp,Qm]) fl))) (sp (.eq Qp9 Qk) (sp Qqd (sp Qqe (ju 1901 [Qf,vY,Qqr,Qm]) fl) (sp Qqi (ju 1901 [Qf,vY,Qqs,Qm]) (sp Qqk (ju 1901 [Qf,vY,Qqt,Qm]) fl))) fl))) fl)) (ju 1910 [Gi,Qa,Qo,Qm])
def afM:T Lf:=sp Qp6 (sp Qe2 fl (sp Qp7 (sp Qqa (sp Qqb (sp Qqd (sp Qqe (ju 1902 [Qf,vY,Qqh]) fl) (sp Qqi (ju 1902 [Qf,vY,Qqj]) (sp Qqk (ju 1902 [Qf,vY,Qql]) fl))) fl) (sp (.eq Qp9 Qh) (sp Qqd (sp Qqe (ju 1902 [Qf,vY,Qqn]) fl) (sp Qqi (ju 1902 [Qf,vY,Qqo]) (sp Qqk (ju 1902 [Qf,vY,Qqp]) fl))) (sp (.eq Qp9 Qk) (sp Qqd (sp Qqe (ju 1902 [Qf,vY,Qqr]) fl) (sp Qqi (ju 1902 [Qf,vY,Qqs]) (sp Qqk (ju 1902 [Qf,vY,Qqt]) fl))) fl))) fl)) (ju 1911 [Qo])
def aB7:T Lf:=sp Qp6 (sp Qe2 fl (sp Qp7 (sp Qqa (sp Qqb (sp Qqd (sp Qqe (ju 1903 [Qf,vY,Qqh]) fl) (sp Qqi (ju 1903 [Qf,vY,Qqj]) (sp Qqk (ju 1903 [Qf,vY,Qql]) fl))) fl) (sp (.eq Qp9 Qh) (sp Qqd (sp Qqe (ju 1903 [Qf,vY,Qqn]) fl) (sp Qqi (ju 1903 [Qf,vY,Qqo]) (sp Qqk (ju 1903 [Qf,vY,Qqp]) fl))) (sp (.eq Qp9 Qk) (sp Qqd (sp Qqe (ju 1903 [Qf,vY,Qqr]) fl) (sp Qqi (ju 1903 [Qf,vY,Qqs]) (sp Qqk (ju 1903 [Qf,vY,Qqt]) fl))) fl))) fl)) (ju 1912 [Qo])
def aoK:T Lf:=ju 1913 Qp5
def aB6:T Lf:=ju 1914 []
def aB5:T Lf:=ju 1915 []
def aB4:T Lf:=ju 1916 Qp5
def aB3:T Lf:=ju 1917 []
def aB2:T Lf:=ju 1918 []
abbrev Qqu:SE:=el Qm Qb
abbrev Qqv:SE:=ce 1 Qqu
def afL:T Lf:=sp Qp6 (sp Qe2 fl (sp (.lt Qb Gi) (sp (.lt Qa (ln Qqv)) (sp (.lt (ln Qqv) Qv) (ju 1910 [Qf,vY,Qo,.op .set Qm (cn U1 (.op .set Qqu (cn Qh Qqv)))]) fl) (sp (.eq Qqv Qh) (ju 1910 [Qf,vY,Qo,.op .set Qm (cn U1 (.op .set Qqu Qdy))]) (sp (.eq Qqv Qk) (ju 1910 [Qf,vY,Qo,.op .set Qm (cn U1 (.op .set Qqu Qd0))]) fl))) fl)) (ou [Qo,Qm])
def aB1:T Lf:=ou [Qf,Qh]
def aB0:T Lf:=ou [Qf,Qk]
abbrev Qqw:SE:=ce 1 Qp8
abbrev Qqx:List SE:=[Qf,vY,.op .set Qo (cn U1 (.op .set Qp8 (cn Qh Qqw)))]
abbrev Qqy:List SE:=[Qf,vY,.op .set Qo (cn U1 (.op .set Qp8 Qdy))]
abbrev Qqz:List SE:=[Qf,vY,.op .set Qo (cn U1 (.op .set Qp8 Qd0))]
def afK:T Lf:=sp Qp6 (sp Qe2 fl (sp Qp7 (sp (.lt Qa (ln Qqw)) (sp (.lt (ln Qqw) Qv) (ju 1913 Qqx) fl) (sp (.eq Qqw Qh) (ju 1913 Qqy) (sp (.eq Qqw Qk) (ju 1913 Qqz) fl))) fl)) (ou [Qh,Qo])
def aBZ:T Lf:=ou [Qh,Qh]
def aBY:T Lf:=ou [Qh,Qk]
def aBX:T Lf:=sp Qp6 (sp Qe2 fl (sp Qp7 (sp (.lt Qa (ln Qqw)) (sp (.lt (ln Qqw) Qv) (ju 1916 Qqx) fl) (sp (.eq Qqw Qh) (ju 1916 Qqy) (sp (.eq Qqw Qk) (ju 1916 Qqz) fl))) fl)) (ou [Qk,Qo])
def aBW:T Lf:=ou [Qk,Qh]
def aBV:T Lf:=ou [Qk,Qk]
abbrev Qq0:SE:=el Qm Qa
abbrev Qq1:List SE:=[nm (ce 0 Qq0),ce 1 Qq0,nm (ce 2 Qq0),ce 3 Qq0,bC]
abbrev Qq2:SE:=rr 1950 Qq1 0
abbrev Qq3:SE:=el Qm Q0
abbrev Qq4:List SE:=[nm (ce 0 Qq3),ce 1 Qq3,nm (ce 2 Qq3),ce 3 Qq3,bC]
abbrev Qq5:SE:=rr 1950 Qq4 0
abbrev Qq6:SE:=.op .EH (.op .EH (.op .EH jM (cn Qos (mk (wr (.add Qq2 Qq5))))) (cn Qor (mk (wr (.sub Qq2 Qq5))))) (cn Qot (mk (wr (.mul Qq2 Qq5))))
abbrev Qq7:T Lf:=sp (.eq (.op .Le Qq6 Qg) Qa) bW (ou [nm (.op .Lh Qq6 Qg)])
def XR:T Lf:=sp Qk7 (ou [Qo]) (sp Qk4 (sp uS bW (sp Qdk (ou [nm Qdl]) bW)) (sp Qlp (sp (.eq Gi Q0) (sp (.eq Qg Qor) (sp (.eq (a0 1950 Qq1) Q0) (ou [wr (.sub Qa Qq2)]) fl) bW) (sp (.eq Gi nT) (sp (.eq (a0 1950 Qq1) Q0) (sp (.eq (a0 1950 Qq4) Q0) (sp (.eq Qg Qou) (sp (.eq Qq2 Qq5) jX Qq7) (sp (.eq Qg Qov) (sp (.lt Qq2 Qq5) jX Qq7) Qq7)) fl) fl) bW)) bW))
abbrev Qq8:List SE:=[bC,Qf,Qb,Qo,Qm,bK,cZ,dZ,fQ,Fb]
abbrev Qq9:List SE:=[bC,Qa,Qf,Qb,Qo,Qm,bK,cZ,dZ,fQ,Fb,Xx,Qpp,Qpq,Qpr,Qps,Qpt,Qpu]
def afJ:T Lf:=sp (.eq (a0 9050 QU) Q0) (sp (.eq rW Qa) (sp MS (sp MQ (ou [Fb,Xx,Qa]) (ju 2001 [bC,Qf,Qb,Qo,Qm,bK,cZ,dZ,fQ,Fb,Xx])) fl) (sp (.eq rW Q0) (sp MS (sp MQ (ou [Fb,Qh,Qa]) (ju 2002 Qq8)) fl) (sp (.eq rW nT) (sp MS (sp MQ (ou [Fb,Qk,Qa]) (ju 2003 Qq8)) fl) (sp (.eq rW wV) (sp MS (sp MQ (ou [Fb,Qpw,Qa]) (ju 2004 Qq9)) fl) (sp (.eq rW rY) (sp MS (sp MQ (ou [Fb,Qpw,Qa]) (ju 2005 Qq9)) fl) fl))))) fl
abbrev Qra:List SE:=[Qb,Qo,fP,jL,Qf]
abbrev Qrb:T Lf:=sp Qlz (sp Qk0 fl fl) fl
abbrev Qrc:T Lf:=sp (.eq (a0 1900 [Qm,bC]) Q0) (ou [rr 1900 [Qm,bC] 0,rr 1900 [Qm,bC] 1,Qa]) fl
def aBU:T Lf:=sp (.eq (a0 1650 Qra) Q0) (sp (.eq (rr 1650 Qra 0) Qa) (sp (.eq (a0 1750 Qra) Q0) (sp (.eq (rr 1750 Qra 4) Qa) fl Qrb) fl) Qrc) fl
abbrev Qrd:List SE:=[Qb,Qo,fP,Qh,Qf]
def aBT:T Lf:=sp (.eq (a0 1650 Qrd) Q0) (sp (.eq (rr 1650 Qrd 0) Qa) (sp (.eq (a0 1750 Qrd) Q0) (sp (.eq (rr 1750 Qrd 4) Qa) fl Qrb) fl) Qrc) fl
abbrev Qre:List SE:=[Qb,Qo,fP,Qk,Qf]
def aBS:T Lf:=sp (.eq (a0 1650 Qre) Q0) (sp (.eq (rr 1650 Qre 0) Qa) (sp (.eq (a0 1750 Qre) Q0) (sp (.eq (rr 1750 Qre 4) Qa) fl Qrb) fl) Qrc) fl
abbrev Qrf:T Lf:=sp (.eq (a0 1900 [bC,bK]) Q0) (ou [rr 1900 [bC,bK] 0,rr 1900 [bC,bK] 1,Qa]) fl
abbrev uU:List SE:=[Qo,Qm,jL,.op .set kT (cn (mk Qf) (cn (mk nR) (cn mX (cn (mk qF) (cn (mk U4) (cn (mk Qfx) (cn (mk Qfr) jM))))))),Qf]
abbrev Rj:SB:=.eq (rr 1650 uU 0) Qa
abbrev Ri:SB:=.eq (rr 1750 uU 4) Qa
abbrev Qrj:List SE:=[Qo,Qm,Qf,jL,kT,nR,mX,qF,U4,Qfx,Qfr]
abbrev mF:List SE:=[Qo,Qm,Qf,rr 1750 uU 0,rr 1750 uU 1,rr 1750 uU 2,Qj0,jL,kT,nR,mX,qF,U4,Qfx,Qfr]
abbrev gV:List SE:=[Qo,Qm,Qf,rr 1750 uU 0,rr 1750 uU 1,rr 1750 uU 2,Qa,jL,kT,nR,mX,qF,U4,Qfx,Qfr]
abbrev Qrm:T Lf:=sp (.eq (a0 14500 gV) Q0) (sp (.eq (rr 14500 gV 0) Qa) (sp (.eq (rr 14500 gV 21) Qa) Qrf (sp (.and (.eq (rr 14500 gV 16) Qf) (.and (.eq (rr 14500 gV 17) cZ) (.and (.eq (rr 14500 gV 18) dZ) (.and (.eq (rr 14500 gV 19) fQ) (.eq (rr 14500 gV 20) fP))))) (ou [rr 14500 gV 22,.op .set kT (cn (mk Qf) (cn (mk (rr 14500 gV 23)) (cn (rr 14500 gV 24) (cn (mk (rr 14500 gV 25)) (cn (mk (rr 14500 gV 26)) (cn (mk (rr 14500 gV 27)) (cn (mk (rr 14500 gV 28)) jM))))))),Q0]) Qrf)) fl) fl
def afI:T Lf:=sp (.lt (.lit 20000) Qb) Qrf (sp (.eq (a0 1650 uU) Q0) (sp Rj (sp (.eq (a0 1750 uU) Q0) (sp Ri (sp (.eq (a0 14000 Qrj) Q0) (sp (.eq (rr 14000 Qrj 0) Qa) (ju 2004 [Qf,vY,Qo,Qm,bC,bK,cZ,dZ,fQ,fP,jL,kT,rr 14000 Qrj 12,rr 14000 Qrj 13,qF,U4,Qfx,Qfr]) fl) fl) (sp (.eq cZ rY) (sp ZA (sp (.eq (a0 14500 mF) Q0) (sp (.eq (rr 14500 mF 0) Qa) (sp (.eq (rr 14500 mF 21) Qa) Qrf (sp (.and (.eq (rr 14500 mF 16) Qf) (.and (.eq (rr 14500 mF 17) cZ) (.and (.eq (rr 14500 mF 18) dZ) (.and (.eq (rr 14500 mF 19) fQ) (.eq (rr 14500 mF 20) fP))))) (ou [rr 14500 mF 22,.op .set kT (cn (mk Qf) (cn (mk (rr 14500 mF 23)) (cn (rr 14500 mF 24) (cn (mk (rr 14500 mF 25)) (cn (mk (rr 14500 mF 26)) (cn (mk (rr 14500 mF 27)) (cn (mk (rr 14500 mF 28)) jM))))))),Q0]) Qrf)) fl) fl) Qrm) Qrm)) fl) Qrf) fl)
abbrev Qrn:T Lf:=sp (.eq (a0 14550 gV) Q0) (sp (.eq (rr 14550 gV 0) Qa) (sp (.eq (rr 14550 gV 21) Qa) Qrf (sp (.and (.eq (rr 14550 gV 16) Qf) (.and (.eq (rr 14550 gV 17) cZ) (.and (.eq (rr 14550 gV 18) dZ) (.and (.eq (rr 14550 gV 19) fQ) (.eq (rr 14550 gV 20) fP))))) (ou [rr 14550 gV 22,.op .set kT (cn (mk Qf) (cn (mk (rr 14550 gV 23)) (cn mX (cn (mk (rr 14550 gV 24)) (cn (mk (rr 14550 gV 25)) (cn (mk (rr 14550 gV 26)) (cn (mk (rr 14550 gV 27)) jM))))))),Q0]) Qrf)) fl) fl
def afH:T Lf:=sp (.lt (.lit 20000) Qb) Qrf (sp (.eq (a0 1650 uU) Q0) (sp Rj (sp (.eq (a0 1750 uU) Q0) (sp Ri (sp (.eq (a0 14050 Qrj) Q0) (sp (.eq (rr 14050 Qrj 0) Qa) (ju 2005 [Qf,vY,Qo,Qm,bC,bK,cZ,dZ,fQ,fP,jL,kT,rr 14050 Qrj 12,mX,qF,U4,Qfx,Qfr]) fl) fl) (sp (.eq cZ rY) (sp ZA (sp (.eq (a0 14550 mF) Q0) (sp (.eq (rr 14550 mF 0) Qa) (sp (.eq (rr 14550 mF 21) Qa) Qrf (sp (.and (.eq (rr 14550 mF 16) Qf) (.and (.eq (rr 14550 mF 17) cZ) (.and (.eq (rr 14550 mF 18) dZ) (.and (.eq (rr 14550 mF 19) fQ) (.eq (rr 14550 mF 20) fP))))) (ou [rr 14550 mF 22,.op .set kT (cn (mk Qf) (cn (mk (rr 14550 mF 23)) (cn mX (cn (mk (rr 14550 mF 24)) (cn (mk (rr 14550 mF 25)) (cn (mk (rr 14550 mF 26)) (cn (mk (rr 14550 mF 27)) jM))))))),Q0]) Qrf)) fl) fl) Qrn) Qrn)) fl) Qrf) fl)
def aoI:T Lf:=sp (.eq (a0 200 [Qf,Qo]) Q0) (sp (.eq (rr 200 [Qf,Qo] 0) Qa) bW (sp (.eq Qc Gi) (ju 2051 [Qc,Qa,Qf,Qb,Qo,Qm]) bW)) fl
def afG:T Lf:=sp Qp6 (sp Qe2 fl (sp (.lt Qb Gi) (sp (.lt Qb (ln bK)) (sp (.eq (nm (ce 0 Qqu)) (nm (ce 0 ZC))) (sp (.eq (nm (ce 2 Qqu)) (nm (ce 2 ZC))) (sp (.eq (nm (ce 3 Qqu)) (nm (ce 3 ZC))) (sp (.eq (nm (ce 4 Qqu)) (nm (ce 4 ZC))) (sp (.eq (nm (ce 5 Qqu)) (nm (ce 5 ZC))) (sp (.eq (ln Qqv) (ln (ce 1 ZC))) (ju 2052 [Qf,Qb,ln Qqv,Qa,Qo,Qm,bC,bK,nm (ce 0 Qqu),Qqv,nm (ce 2 Qqu),nm (ce 3 Qqu),nm (ce 4 Qqu),nm (ce 5 Qqu),nm (ce 0 ZC),ce 1 ZC,nm (ce 2 ZC),nm (ce 3 ZC),nm (ce 4 ZC),nm (ce 5 ZC)]) bW) bW) bW) bW) bW) bW) fl) fl)) jX
def afF:T Lf:=sp Qp (sp Qq fl (sp (.lt Qm (ln fP)) (sp (.lt Qm (ln U4)) (sp (.eq (nm (el fP Qm)) (nm (el U4 Qm))) (ju 2052 [Qf,Qb,Qo,Q1,bC,bK,cZ,dZ,fQ,fP,jL,kT,nR,mX,qF,U4,Qfx,Qfr,.aP 18,.aP 19]) bW) fl) fl)) (ju 2051 [Qf,vY,bC,bK,cZ,dZ])
abbrev Qro:SB:=.eq (rr 1450 KZ 2) Qa
abbrev Qrp:SE:=rr 1450 KZ 0
abbrev Qrq:SE:=rr 1450 KZ 1
def afE:T Lf:=sp (.eq (a0 1450 KZ) Q0) (sp Qro (ju 2151 [Qo,Qcl,Qa,Qf,Qb,Qrp,Qrq]) (ou [Qh,Qh,Qa])) fl
abbrev Qrr:List SE:=[Qm,bC,bK,cZ,Qgk,nm JL,Qgj,nm Qgm,nm Xy]
def afD:T Lf:=sp wY (sp uS fl (sp Rl (sp (.eq (a0 2000 Qrr) Q0) (sp (.eq (rr 2000 Qrr 2) Qa) (ou [bK,cZ,Qo]) (ju 2151 [Qf,Qb,kP,Qm,bC,rr 2000 Qrr 0,rr 2000 Qrr 1])) fl) fl)) (ou [bK,cZ,rC])
def afC:T Lf:=sp Qff (ju 2451 Qfg) bW
def RX:T Lf:=sp Qp (sp Qq fl (sp Qfh (sp Qr (sp (.and Qfk (.and Qfl (.and (.eq Qfm Qfn) (.and Qfo (.eq (nm (ce 4 Qfi)) (nm Qt)))))) (ju 2451 Qfy) bW) fl) fl)) jX
def aoG:T Lf:=sp (.eq (a0 1500 Qo6) Q0) (sp Qo7 bW (ju 2551 [Qc,Qa,Qf,Qb,Qo,Qm])) fl
abbrev Qrs:List SE:=[Qo,Qm,bC,bK,Qb]
abbrev Qrt:T Lf:=ju 2551 [Qf,vY,Qo,Qm,bC,bK]
abbrev Qru:T Lf:=sp (.eq (rr 1800 Qrs 0) rY) (sp (.lt (rr 1800 Qrs 3) (rr 1800 Qrs 2)) bW Qrt) Qrt
def afB:T Lf:=sp Qp6 (sp (.eq (a0 1850 Qrs) Q0) (sp (.eq (a0 1800 Qrs) Q0) (sp (.eq (rr 1850 Qrs 7) Qa) Qru (sp (.eq (rr 1850 Qrs 7) rY) Qru bW)) fl) fl) jX
def XQ:T Lf:=sp (.eq Rn Qc) (sp (.eq (a0 16000 [bC]) Q0) (sp (.eq (rr 16000 [bC] 0) Qa) Qo8 bW) fl) bW
abbrev Qrv:T Lf:=ou [Qh,Qh,Qh,nT]
def Gw:T Lf:=sp (.eq (a0 1450 KZ) Q0) (sp Qro (sp Qcm (sp (.lt Qcl Qv) (sp (.eq (a0 2750 [Qf,Qb,Qrp,Qrq,Qo]) Q0) (sp (.eq (rr 2750 [Qf,Qb,Qrp,Qrq,Qo] 0) Qa) Qrv (ou [Qrp,Qrq,Qo,Qa])) fl) fl) (sp Qco (sp (.eq (a0 2750 [Qf,Qb,Qrp,Qrq,Qh]) Q0) (sp (.eq (rr 2750 [Qf,Qb,Qrp,Qrq,Qh] 0) Qa) Qrv (ou [Qrp,Qrq,Qh,Qa])) fl) (sp Qcq (sp (.eq (a0 2750 [Qf,Qb,Qrp,Qrq,Qk]) Q0) (sp (.eq (rr 2750 [Qf,Qb,Qrp,Qrq,Qk] 0) Qa) Qrv (ou [Qrp,Qrq,Qk,Qa])) fl) fl))) (ou [Qh,Qh,Qh,rr 1450 KZ 2])) fl
abbrev Qrw:SE:=ce 2 Qf2
abbrev Qrx:SE:=nm (ce 3 Qf2)
def Np:T Lf:=sp uS fl (sp Qf0 (sp (.eq (nm Qrw) Qjz) (sp (.lt Qrx Qa) fl (sp (.lt Qrx rC) (sp (.eq (a0 900 [ce 4 (el Qf Qrx),Qo]) Q0) (sp (.eq (rr 900 [ce 4 (el Qf Qrx),Qo] 0) Qa) bW jX) fl) fl)) (sp (.eq (nm Qrw) Qj1) (sp (.lt Qrx Qa) fl (sp (.lt Qrx rC) (sp (.lt (nm (ce 4 Qf2)) (nm (ce 3 (el Qf Qrx)))) bW jX) fl)) bW)) fl)
abbrev Qry:List SE:=[Qo,Qm,bC]
abbrev Qrz:T Lf:=sp (.eq (a0 2850 Qry) Q0) (sp (.eq (rr 2850 Qry 0) Qa) jX bW) fl
def Nl:T Lf:=sp Qlu fl (sp (.lt bC Gi) (sp (.eq Qpa Qa) (sp Qo5 (sp Qpc bW Qrz) fl) Qrz) fl)
abbrev Rk:List SE:=[Qf,Qb,Qo,Qm,bK]
def afA:T Lf:=sp (.eq (a0 2900 Rk) Q0) (sp (.eq (rr 2900 Rk 0) Qa) bW (ju 2951 [bK,bC,Rn,Qa,Qf,Qb,Qo,Qm])) fl
abbrev Qr1:T Lf:=ju 2951 [Qf,Qb,Qo,Q1,bC,bK,cZ,dZ]
abbrev Qr2:T Lf:=sp (.eq (a0 2900 [bC,bK,cZ,dZ,Qm]) Q0) (sp (.eq (rr 2900 [bC,bK,cZ,dZ,Qm] 0) Qa) Qr1 bW) fl
def Gv:T Lf:=sp Qp (sp Qq fl (sp Qr (sp (.lt Qf Qa) fl (sp (.lt Qf Qc) (sp (.lt Qk9 (nm Q2)) Qr2 (sp (.eq Qk9 (nm Q2)) (sp (.lt Qm Qf) Qr2 Qr1) Qr1)) fl)) fl)) jX
abbrev Qr3:SB:=.eq (rr 2750 U3 0) Qa
abbrev Qr4:SB:=.eq (a0 2950 [Qf,Qb,Qo,Qm,bC,bK]) Q0
abbrev Qr5:SB:=.eq (rr 2950 [Qf,Qb,Qo,Qm,bC,bK] 0) Qa
def aoE:T Lf:=ju 3051 [Qf,rC,Qb,Qo]
abbrev Qr6:SE:=ce 4 Qf8
abbrev Qr7:SE:=ce 5 Qf8
abbrev Qr8:SB:=.lt Qa (ln Qr7)
abbrev Qr9:SB:=.lt (ln Qr7) Qv
abbrev Qsa:SE:=mk Qf9
abbrev Qsb:SE:=mk (nm Qoy)
abbrev Qsc:SE:=.op .bit Qgc Qa
abbrev Qsd:SE:=mk (nm (ce 3 Qf8))
abbrev Qse:SE:=cn Qk jM
def aeZ:T Lf:=sp Qf6 (sp Qf7 (sp (.lt Qa (ln Qr6)) (sp (.lt (ln Qr6) Qv) (sp Qr8 (sp Qr9 (ju 3052 [Qf,Qb,Q0,Qo,Qm,.op .snoc jM (cn Qsa (cn Qsb (cn Qsc (cn Qsd (cn Qr6 (cn Qr7 jM))))))]) fl) (sp (.eq Qr7 Qh) (ju 3052 [Qf,Qb,Q0,Qo,Qm,.op .snoc jM (cn Qsa (cn Qsb (cn Qsc (cn Qsd (cn Qr6 Qgd)))))]) (sp (.eq Qr7 Qk) (ju 3052 [Qf,Qb,Q0,Qo,Qm,.op .snoc jM (cn Qsa (cn Qsb (cn Qsc (cn Qsd (cn Qr6 Qse)))))]) fl))) fl) (sp (.eq Qr6 Qh) (sp Qr8 (sp Qr9 (ju 3052 [Qf,Qb,Q0,Qo,Qm,.op .snoc jM (cn Qsa (cn Qsb (cn Qsc (cn Qsd (cn Qh (cn Qr7 jM))))))]) fl) (sp (.eq Qr7 Qh) (ju 3052 [Qf,Qb,Q0,Qo,Qm,.op .snoc jM (cn Qsa (cn Qsb (cn Qsc (cn Qsd (cn Qh Qgd)))))]) (sp (.eq Qr7 Qk) (ju 3052 [Qf,Qb,Q0,Qo,Qm,.op .snoc jM (cn Qsa (cn Qsb (cn Qsc (cn Qsd (cn Qh Qse)))))]) fl))) (sp (.eq Qr6 Qk) (sp Qr8 (sp Qr9 (ju 3052 [Qf,Qb,Q0,Qo,Qm,.op .snoc jM (cn Qsa (cn Qsb (cn Qsc (cn Qsd (cn Qk (cn Qr7 jM))))))]) fl) (sp (.eq Qr7 Qh) (ju 3052 [Qf,Qb,Q0,Qo,Qm,.op .snoc jM (cn Qsa (cn Qsb (cn Qsc (cn Qsd (cn Qk Qgd)))))]) (sp (.eq Qr7 Qk) (ju 3052 [Qf,Qb,Q0,Qo,Qm,.op .snoc jM (cn Qsa (cn Qsb (cn Qsc (cn Qsd (cn Qk Qse)))))]) fl))) fl))) fl) (ju 3053 [Qo,Qcl,Qf,Qm])
abbrev Qsf:SB:=.lt (ln bK) (.lit 1759218604440)
abbrev Qsg:SE:=mk Qgk
abbrev Qsh:SE:=mk (nm JL)
abbrev Qsi:SE:=.op .bit (mk Qgj) Qa
abbrev Qsj:SE:=mk (nm Qgm)
def aeY:T Lf:=sp wY (sp uS fl (sp Rl (sp (.lt Qa (ln Xy)) (sp (.lt (ln Xy) Qv) (sp Qli (sp Qlj (sp Qsf (ju 3052 [Qf,Qb,kP,Qm,bC,.op .snoc bK (cn Qsg (cn Qsh (cn Qsi (cn Qsj (cn Xy (cn Qgo jM))))))]) fl) fl) (sp Qll (sp Qsf (ju 3052 [Qf,Qb,kP,Qm,bC,.op .snoc bK (cn Qsg (cn Qsh (cn Qsi (cn Qsj (cn Xy Qgd)))))]) fl) (sp Qlm (sp Qsf (ju 3052 [Qf,Qb,kP,Qm,bC,.op .snoc bK (cn Qsg (cn Qsh (cn Qsi (cn Qsj (cn Xy Qse)))))]) fl) fl))) fl) (sp (.eq Xy Qh) (sp Qli (sp Qlj (sp Qsf (ju 3052 [Qf,Qb,kP,Qm,bC,.op .snoc bK (cn Qsg (cn Qsh (cn Qsi (cn Qsj (cn Qh (cn Qgo jM))))))]) fl) fl) (sp Qll (sp Qsf (ju 3052 [Qf,Qb,kP,Qm,bC,.op .snoc bK (cn Qsg (cn Qsh (cn Qsi (cn Qsj (cn Qh Qgd)))))]) fl) (sp Qlm (sp Qsf (ju 3052 [Qf,Qb,kP,Qm,bC,.op .snoc bK (cn Qsg (cn Qsh (cn Qsi (cn Qsj (cn Qh Qse)))))]) fl) fl))) (sp (.eq Xy Qk) (sp Qli (sp Qlj (sp Qsf (ju 3052 [Qf,Qb,kP,Qm,bC,.op .snoc bK (cn Qsg (cn Qsh (cn Qsi (cn Qsj (cn Qk (cn Qgo jM))))))]) fl) fl) (sp Qll (sp Qsf (ju 3052 [Qf,Qb,kP,Qm,bC,.op .snoc bK (cn Qsg (cn Qsh (cn Qsi (cn Qsj (cn Qk Qgd)))))]) fl) (sp Qlm (sp Qsf (ju 3052 [Qf,Qb,kP,Qm,bC,.op .snoc bK (cn Qsg (cn Qsh (cn Qsi (cn Qsj (cn Qk Qse)))))]) fl) fl))) fl))) fl)) (ju 3054 [Qm,Gi,Qf,bC,bK])
abbrev Qsk:SE:=cn Qgc (cn Qsd (cn (mk (nm Qr6)) (cn (mk (nm Qr7)) jM)))
abbrev Qsl:SE:=.op .snoc jM (cn Qsa (cn Qoy Qsk))
abbrev Qsm:SE:=.op .snoc jM (cn Qsa (cn Qh Qsk))
abbrev Qsn:SE:=.op .snoc jM (cn Qsa (cn Qk Qsk))
def JX:T Lf:=sp Qf6 (sp Qf7 (sp (.lt Qa (ln Qoy)) (sp Qo0 (ju 3055 [Qf,Qb,Q0,Qo,Qm,Qsl]) fl) (sp (.eq Qoy Qh) (ju 3055 [Qf,Qb,Q0,Qo,Qm,Qsm]) (sp (.eq Qoy Qk) (ju 3055 [Qf,Qb,Q0,Qo,Qm,Qsn]) fl))) fl) (sp (.lt Qa Gi) (sp (.lt Gi Qv) (ou [Qh,Qh,Qm]) fl) (sp (.eq Qow Qh) (ou [Qh,Qh,Qh]) (sp (.eq Qow Qk) (ou [Qh,Qh,Qk]) fl)))
def JW:T Lf:=sp Qf6 (sp Qf7 (sp (.lt Qa (ln Qoy)) (sp Qo0 (ju 3056 [Qf,Qb,Q0,Qo,Qm,bC,Qsl]) fl) (sp (.eq Qoy Qh) (ju 3056 [Qf,Qb,Q0,Qo,Qm,bC,Qsm]) (sp (.eq Qoy Qk) (ju 3056 [Qf,Qb,Q0,Qo,Qm,bC,Qsn]) fl))) fl) (sp (.lt Qa Gi) (sp (.lt Gi Qv) (ou [bC,Qh,Qm]) fl) (sp (.eq Qow Qh) (ou [bC,Qh,Qh]) (sp (.eq Qow Qk) (ou [bC,Qh,Qk]) fl)))
abbrev Qso:SB:=.lt (ln bK) Qo1
abbrev Qsp:SE:=cn (mk Qgj) (cn Qsj (cn (mk (nm Xy)) (cn (mk (nm Qgo)) jM)))
abbrev Qsq:SB:=.eq (.op .norm bC Qa) Qh
abbrev Qsr:SB:=.eq (.op .norm bC Qa) Qk
def JV:T Lf:=sp wY (sp uS fl (sp Rl (sp (.lt Qa (ln JL)) (sp Qo2 (sp Qso (ju 3055 [Qf,Qb,kP,Qm,bC,.op .snoc bK (cn Qsg (cn JL Qsp))]) fl) fl) (sp (.eq JL Qh) (sp Qso (ju 3055 [Qf,Qb,kP,Qm,bC,.op .snoc bK (cn Qsg (cn Qh Qsp))]) fl) (sp (.eq JL Qk) (sp Qso (ju 3055 [Qf,Qb,kP,Qm,bC,.op .snoc bK (cn Qsg (cn Qk Qsp))]) fl) fl))) fl)) (sp (.lt Qa Rn) (sp (.lt Rn Qv) (ou [Qh,bK,bC]) fl) (sp Qsq (ou [Qh,bK,Qh]) (sp Qsr (ou [Qh,bK,Qk]) fl)))
def JU:T Lf:=sp wY (sp uS fl (sp Rl (sp (.lt Qa (ln JL)) (sp Qo2 (sp (.lt Qfc Qo1) (ju 3056 [Qf,Qb,kP,Qm,bC,bK,.op .snoc cZ (cn Qsg (cn JL Qsp))]) fl) fl) (sp (.eq JL Qh) (sp (.lt Qfc Qo1) (ju 3056 [Qf,Qb,kP,Qm,bC,bK,.op .snoc cZ (cn Qsg (cn Qh Qsp))]) fl) (sp (.eq JL Qk) (sp (.lt Qfc Qo1) (ju 3056 [Qf,Qb,kP,Qm,bC,bK,.op .snoc cZ (cn Qsg (cn Qk Qsp))]) fl) fl))) fl)) (sp (.lt Qa Rn) (sp (.lt Rn Qv) (ou [bK,cZ,bC]) fl) (sp Qsq (ou [bK,cZ,Qh]) (sp Qsr (ou [bK,cZ,Qk]) fl)))
abbrev Qss:SB:=.eq (a0 3050 Qry) Q0
abbrev Qst:SE:=rr 3050 Qry 0
abbrev Qsu:SE:=rr 3050 Qry 1
abbrev Qsv:SE:=rr 3050 Qry 2
abbrev Qsw:T Lf:=sp Qss (ou [Qst,Qsu,Qsv,Qa,Qa,Qa,Qa,Qa,Qa,Qa]) fl
abbrev Qsx:SB:=.eq (nm (el bC bK)) Qon
abbrev Qsy:SE:=.lit 131
abbrev Qsz:T Lf:=sp Qss (ou [Qst,Qsu,Qsv,Qa,Qa,Qa,Qa,Qa,Qa,Qsy]) fl
abbrev Qs0:SE:=.op .set bC (cn KY (mk (wr (.add (nm (el bC bK)) Q0))))
abbrev Qs1:List SE:=[Qo,Qm,rr 1850 Rk 0,rr 1850 Rk 1,rr 1850 Rk 2,rr 1850 Rk 3,rr 1850 Rk 4,rr 1850 Rk 5,rr 1850 Rk 6,Qs0,nm (el Qs0 bK)]
abbrev Qs2:T Lf:=sp (.eq (a0 1850 Rk) Q0) (sp (.lt Qa Rn) (sp (.lt Rn Qv) (sp (.eq (a0 15000 Qs1) Q0) (sp (.eq (rr 15000 Qs1 0) Qa) (ou [rr 1850 Rk 0,rr 1850 Rk 1,rr 15000 Qs1 12,rr 1850 Rk 2,rr 1850 Rk 3,rr 1850 Rk 4,rr 1850 Rk 5,rr 1850 Rk 6,rr 1850 Rk 7,Qa]) fl) fl) fl) (sp Qsq fl (sp Qsr fl fl))) fl
def yM:T Lf:=sp Qfp Qsw (sp (.lt bK Qc) (sp (.eq (a0 2750 U3) Q0) (sp Qr3 Qsw (sp (.eq (a0 1700 Rk) Q0) (sp (.eq (rr 1700 Rk 0) Qa) (sp (.eq (a0 1800 Rk) Q0) (sp (.lt bK Rn) (sp (.eq (a0 2850 [Qo,Qm,bK]) Q0) (sp (.eq (rr 2850 [Qo,Qm,bK] 0) Qa) (sp (.eq (rr 1800 Rk 4) Qa) (sp Qsx (sp Qr4 (sp Qr5 Qsw Qsz) fl) Qs2) (sp Qr4 (sp Qr5 Qsw (sp Qsx Qsz Qs2)) fl)) Qsw) fl) fl) fl) (sp Qss (ou [Qst,Qsu,Qsv,Qa,Qa,Qa,Qa,Qa,rY,Qa]) fl)) fl)) fl) Qsw)
def Nk:T Lf:=sp (.eq (a0 2800 Qgu) Q0) (sp (.eq (rr 2800 Qgu 3) Qa) (ju 3151 [Qm,Qc,Qa,Qf,Qb,rr 2800 Qgu 0,rr 2800 Qgu 1,rr 2800 Qgu 2]) (ou [Qh,Qh,Qh,Qh,rr 2800 Qgu 3])) fl
abbrev ZO:List SE:=[Qm,bC,bK,cZ,dZ,.rem (wr (.add (.rem (nm XA) Qb) Qb)) Qb]
abbrev Qs4:T Lf:=ju 3152 [Qf,.op .snoc jM (cn (mk (rr 3100 ZO 3)) (cn (mk (rr 3100 ZO 4)) (cn (mk (rr 3100 ZO 5)) (cn (mk (rr 3100 ZO 6)) (cn (mk (rr 3100 ZO 7)) jM))))),Qb,kP,Qm,bC,rr 3100 ZO 0,rr 3100 ZO 1,rr 3100 ZO 2]
abbrev Qs5:T Lf:=ou [Qh,bK,cZ,dZ,Qa]
def Gu:T Lf:=sp Rl (sp Qf6 (sp uS fl (sp (.eq (a0 3100 ZO) Q0) (sp (.eq (rr 3100 ZO 9) Qa) (sp (.eq (rr 3100 ZO 8) nT) Qs4 (sp (.eq (rr 3100 ZO 8) wV) Qs4 (ju 3151 [Qf,Qb,kP,Qm,bC,rr 3100 ZO 0,rr 3100 ZO 1,rr 3100 ZO 2]))) (ou [Qh,bK,cZ,dZ,rr 3100 ZO 9])) fl)) Qs5) Qs5
abbrev ZN:List SE:=[bC,bK,cZ,dZ,fQ,.rem (wr (.add (.rem Qmk Qo) Qo)) Qo]
abbrev Qs7:T Lf:=sp (.lt Qc (.lit 3518437208882)) (ju 3152 [Qf,.op .snoc Qb (cn (mk (rr 3100 ZN 3)) (cn (mk (rr 3100 ZN 4)) (cn (mk (rr 3100 ZN 5)) (cn (mk (rr 3100 ZN 6)) (cn (mk (rr 3100 ZN 7)) jM))))),Qo,Q1,bC,bK,rr 3100 ZN 0,rr 3100 ZN 1,rr 3100 ZN 2]) fl
abbrev Qs8:T Lf:=ou [Qb,cZ,dZ,fQ,Qa]
def Nj:T Lf:=sp Qfh (sp (.lt Qa Qo) (sp Qq fl (sp (.eq (a0 3100 ZN) Q0) (sp (.eq (rr 3100 ZN 9) Qa) (sp (.eq (rr 3100 ZN 8) nT) Qs7 (sp (.eq (rr 3100 ZN 8) wV) Qs7 (ju 3152 [Qf,Qb,Qo,Q1,bC,bK,rr 3100 ZN 0,rr 3100 ZN 1,rr 3100 ZN 2]))) (ou [Qb,cZ,dZ,fQ,rr 3100 ZN 9])) fl)) Qs8) Qs8
def aoC:T Lf:=sp (.eq (a0 2050 [Qf,Qh,Qm,Qh]) Q0) (sp (.eq (rr 2050 [Qf,Qh,Qm,Qh] 0) Qa) bW jX) fl
abbrev Quo:SE:=rr 17000 [Qm,Qf,Qb] 0
abbrev Qup:List SE:=[Qf,Qb,Qo,Qk]
abbrev Quq:SB:=.eq (a0 17000 [bC,Qf,Qb]) Q0
abbrev Qur:SE:=rr 17000 [bC,Qf,Qb] 0
abbrev Qus:SB:=.eq (rr 3150 Qup 4) Qsy
abbrev Qut:SE:=rr 3150 Qup 0
abbrev Quu:SB:=.eq (a0 2450 [Qut,Qut]) Q0
abbrev Quv:SB:=.eq (rr 2450 [Qut,Qut] 0) Qa
abbrev Quw:SB:=.eq (rr 3150 Qup 4) Qa
abbrev Qux:SE:=rr 3150 Qup 1
abbrev Quy:SE:=rr 3150 Qup 2
abbrev Quz:SB:=.eq (a0 2550 [Qf,Qb,Qux,Quy]) Q0
abbrev Qu0:SB:=.eq (rr 2550 [Qf,Qb,Qux,Quy] 0) Qa
abbrev Qu1:SE:=rr 3150 Qup 3
abbrev Qu2:List SE:=[Qux,Quy,Qu1,Qux,Quy,Qu1]
abbrev Qu3:List SE:=[Qf,Qb,Qo,rr 17000 [bC,Qf,Qb] 4]
abbrev Qu4:SB:=.eq (rr 3150 Qu3 4) Qsy
abbrev Qu5:SB:=.eq (a0 2450 [Qut,rr 3150 Qu3 0]) Q0
abbrev Qu6:SB:=.eq (rr 2450 [Qut,rr 3150 Qu3 0] 0) Qa
abbrev Qu7:SB:=.eq (rr 3150 Qu3 4) Qa
abbrev Qu8:SE:=rr 3150 Qu3 1
abbrev Qu9:SE:=rr 3150 Qu3 2
abbrev Qva:SB:=.eq (a0 2550 [Qf,Qb,Qu8,Qu9]) Q0
abbrev Qvb:SB:=.eq (rr 2550 [Qf,Qb,Qu8,Qu9] 0) Qa
abbrev Qvc:List SE:=[Qux,Quy,Qu1,Qu8,Qu9,rr 3150 Qu3 3]
abbrev Qvd:List SE:=[Qf,Qb,Qo,rr 17000 [Qm,Qf,Qb] 4]
abbrev Qve:SB:=.eq (rr 3150 Qvd 4) Qsy
abbrev Qvf:SB:=.eq (a0 2450 [rr 3150 Qvd 0,Qut]) Q0
abbrev Qvg:SB:=.eq (rr 2450 [rr 3150 Qvd 0,Qut] 0) Qa
abbrev Qvh:SB:=.eq (rr 3150 Qvd 4) Qa
abbrev Qvi:SE:=rr 3150 Qvd 1
abbrev Qvj:SE:=rr 3150 Qvd 2
abbrev Qvk:SB:=.eq (a0 2550 [Qf,Qb,Qvi,Qvj]) Q0
abbrev Qvl:SB:=.eq (rr 2550 [Qf,Qb,Qvi,Qvj] 0) Qa
abbrev Qvm:List SE:=[Qvi,Qvj,rr 3150 Qvd 3,Qux,Quy,Qu1]
abbrev Qvn:List SE:=[rr 3150 Qvd 0,rr 3150 Qu3 0]
abbrev Qvo:SB:=.eq (rr 2450 Qvn 0) Qa
abbrev Qvp:List SE:=[Qvi,Qvj,rr 3150 Qvd 3,Qu8,Qu9,rr 3150 Qu3 3]
def uY:T Lf:=sp (.eq (a0 100 KZ) Q0) (sp (.eq (rr 100 KZ 0) Qa) (sp (.lt Qfb Qcl) jX (sp (.lt rY Qc) jX (sp (.eq (a0 17000 [Qm,Qf,Qb]) Q0) (sp (.eq Quo Qa) (sp (.eq (a0 3150 Qup) Q0) (sp Quq (sp (.eq Qur Qa) (sp Qus (sp Quu (sp Quv bW jX) fl) (sp Quw (sp Quz (sp Qu0 jX (sp Quu (sp Quv bW (sp (.eq (a0 3650 Qu2) Q0) (sp (.eq (rr 3650 Qu2 0) Qa) bW jX) fl)) fl)) fl) jX)) (sp (.eq Qur Q0) (sp (.eq (a0 3150 Qu3) Q0) (sp Qus (sp Qu4 (sp Qu5 (sp Qu6 bW jX) fl) jX) (sp Quw (sp Qu7 (sp Quz (sp Qu0 jX (sp Qva (sp Qvb jX (sp Qu5 (sp Qu6 bW (sp (.eq (a0 3650 Qvc) Q0) (sp (.eq (rr 3650 Qvc 0) Qa) bW jX) fl)) fl)) fl)) fl) jX) jX)) fl) fl)) fl) fl) (sp (.eq Quo Q0) (sp (.eq (a0 3150 Qvd) Q0) (sp Quq (sp (.eq Qur Qa) (sp (.eq (a0 3150 Qup) Q0) (sp Qve (sp Qus (sp Qvf (sp Qvg bW jX) fl) jX) (sp Qvh (sp Quw (sp Qvk (sp Qvl jX (sp Quz (sp Qu0 jX (sp Qvf (sp Qvg bW (sp (.eq (a0 3650 Qvm) Q0) (sp (.eq (rr 3650 Qvm 0) Qa) bW jX) fl)) fl)) fl)) fl) jX) jX)) fl) (sp (.eq Qur Q0) (sp (.eq (a0 3150 Qu3) Q0) (sp Qve (sp Qu4 (sp (.eq (a0 2450 Qvn) Q0) (sp Qvo bW jX) fl) jX) (sp Qvh (sp Qu7 (sp Qvk (sp Qvl jX (sp Qva (sp Qvb jX (sp (.eq (a0 2450 Qvn) Q0) (sp Qvo bW (sp (.eq (a0 3650 Qvp) Q0) (sp (.eq (rr 3650 Qvp 0) Qa) bW jX) fl)) fl)) fl)) fl) jX) jX)) fl) fl)) fl) fl) fl)) fl))) jX) fl
def aoB:T Lf:=sp (.eq (a0 5400 Qo6) Q0) (sp (.lt (rr 5400 Qo6 3) Qa) (ou [rr 5400 Qo6 0,rr 5400 Qo6 1,rr 5400 Qo6 2,Qa]) (ou [rr 5400 Qo6 0,rr 5400 Qo6 1,rr 5400 Qo6 2,Q0])) fl
abbrev Qvq:SE:=wr (.sub bK Q0)
def aoA:T Lf:=sp (.lt Qvq Qa) (ou [Qvq,cZ,Qa]) (sp (.lt ZP bC) (ou [Qvq,cZ,Qa]) (ju 5051 [bC,Qm,Gi,Qa,Qvq,cZ,Qf,Qb,Qo]))
abbrev Qvr:List SE:=[Qfj,ce 1 Qs,Qfn,ce 3 Qs,Qks,bC,bK]
abbrev Qvs:SE:=.op .norm dZ Qa
abbrev Qvt:T Lf:=ou [bC,bK,Qa]
abbrev Qvu:T Lf:=ou [bC,bK,Q0]
def aeX:T Lf:=sp Qp (sp Qq fl (sp Qr (sp (.eq (a0 5050 Qvr) Q0) (sp (.eq (rr 5050 Qvr 2) Qa) (ou [rr 5050 Qvr 0,rr 5050 Qvr 1,Qa]) (ju 5051 [Qf,Qb,Qo,Q1,rr 5050 Qvr 0,rr 5050 Qvr 1,cZ,dZ,fQ])) fl) fl)) (sp (.eq cZ Q0) (sp (.eq Qc Qa) (sp (.eq Qvs jM) (sp Qkw Qvt Qvu) Qvt) Qvt) (sp (.eq cZ nT) (sp (.eq Qc Qa) (sp Qkw Qvt (sp (.lt fQ bK) (sp (.eq (a0 12900 [dZ,Qa]) Q0) (sp (.eq (rr 12900 [dZ,Qa] 0) Qa) Qvt (sp (.eq (rr 12900 [dZ,Qa] 0) Q0) Qvu fl)) fl) Qvt)) Qvt) (sp (.eq cZ wV) (sp ZA (sp (.eq Qc Q0) (sp (.eq Qvs Qor) Qvu Qvt) (sp (.eq Qc nT) (sp (.eq Qvs Qos) Qvu (sp (.eq Qvs Qor) Qvu (sp (.eq Qvs Qot) Qvu (sp (.eq Qvs Qou) Qvu (sp (.eq Qvs Qov) Qvu Qvt))))) Qvt)) Qvt) Qvt)))
def anZ:T Lf:=ju 5101 KZ
def aBR:T Lf:=ou [Qb]
def anY:T Lf:=ju 5151 KZ
def aBQ:T Lf:=ou [Qf,Qb,Q0]
def anX:T Lf:=ju 5201 KZ
def aBP:T Lf:=ou [Q0,Qf,Qb,Q0]
def anW:T Lf:=ju 5251 [Qb,Qf,rC,Qa,Qo]
abbrev Qvv:SE:=wr (.add bC Q0)
abbrev Qvw:SB:=.eq (a0 1150 [Qfj,ce 1 Qs,Qfn,ce 3 Qs]) Q0
abbrev Qvx:SB:=.eq (rr 1150 [Qfj,ce 1 Qs,Qfn,ce 3 Qs] 0) Qa
abbrev Qvy:SB:=.eq (a0 5450 [ce 3 Qs,Qks,Qvv]) Q0
abbrev Qvz:List SE:=[Qf,Qb,Qo,Q1,rr 5450 [ce 3 Qs,Qks,Qvv] 0]
def aeW:T Lf:=sp Qp (sp Qq fl (sp Qr (sp (.lt (.lit 1000) Qvv) fl (sp (.lt ZP Qf) fl (sp Qvw (sp Qvx fl (sp Qvy (ju 5251 Qvz) fl)) fl))) fl)) (ou [bC,Qb])
def anV:T Lf:=ju 5301 [Qf,Qa,Qb,Qo,Qm]
abbrev Qv0:SB:=.eq (nm (ce 0 Qp8)) nT
abbrev Qv1:List SE:=[ce 3 Qp8,Qm,bC]
abbrev Qv2:T Lf:=sp (.eq (a0 5500 Qv1) Q0) (sp (.eq (rr 5500 Qv1 2) Qa) (ou [Qo,rr 5500 Qv1 0,rr 5500 Qv1 1,Qa]) (ju 5301 [Qf,vY,Qo,rr 5500 Qv1 0,rr 5500 Qv1 1])) fl
def aeV:T Lf:=sp Qp6 (sp Qe2 fl (sp Qp7 (sp Qv0 (sp (.eq (.op .Le bC Qqw) Qa) (ou [Qo,Qm,bC,Qa]) (sp (.eq (nm (.op .Lh bC Qqw)) Qa) (ou [Qo,Qm,bC,Qa]) Qv2)) Qv2) fl)) (ou [Qo,Qm,bC,Q0])
def anU:T Lf:=ju 5351 [Qf,Qa,Qb,Q0,Qo,Qm]
abbrev Qv3:T Lf:=ou [Qo,Qm,bC,bK,Qa]
abbrev Qv4:List SE:=[ce 3 Qp8,Qm,bC,bK]
abbrev Qv5:T Lf:=sp (.eq (a0 5600 Qv4) Q0) (sp (.eq (rr 5600 Qv4 3) Qa) (ou [Qo,rr 5600 Qv4 0,rr 5600 Qv4 1,rr 5600 Qv4 2,Qa]) (ju 5351 [Qf,vY,Qo,rr 5600 Qv4 0,rr 5600 Qv4 1,rr 5600 Qv4 2])) fl
def aeU:T Lf:=sp Qp6 (sp Qe2 fl (sp Qp7 (sp Qv0 (sp (.eq (.op .Le bK Qqw) Qa) Qv3 (sp (.eq (nm (.op .Lh bK Qqw)) Qa) Qv3 Qv5)) Qv5) fl)) (ou [Qo,Qm,bC,bK,Q0])
def Vj:T Lf:=sp (.eq (a0 16050 Qj) Q0) (sp (.lt (rr 16050 Qj 0) Qa) bW jX) fl
def anT:T Lf:=ju 5401 [Qf,rC,Qa,Qb,Qo,Qm]
def aeT:T Lf:=sp wY (sp uS fl (sp Rl (sp (.eq (a0 800 [Qgk,JL,Qgj,Qgm,Rn]) Q0) (sp (.eq (rr 800 [Qgk,JL,Qgj,Qgm,Rn] 0) Qa) (ou [Qm,bC,bK,Qo]) (ju 5401 [Qf,Qb,kP,Qm,bC,bK])) fl) fl)) (ou [Qm,bC,bK,Qjh])
def anS:T Lf:=ju 5451 [Qb,Qf,rC,Qa,Qo]
def anR:T Lf:=sp Qp (sp Qq fl (sp Qr (sp (.lt (.lit 1000) Qvv) fl (sp (.lt ZP Qf) fl (sp Qvw (sp Qvx fl (sp Qvy (ju 5451 Qvz) fl)) fl))) fl)) (ou [bC])
def anP:T Lf:=ju 5501 [Qf,rC,Qa,Qb,Qo]
abbrev Qv6:List SE:=[Qgm,Qm,bC]
abbrev Qv7:T Lf:=sp (.eq (a0 5500 Qv6) Q0) (sp (.eq (rr 5500 Qv6 2) Qa) (ou [rr 5500 Qv6 0,rr 5500 Qv6 1,Qa]) (ju 5501 [Qf,Qb,kP,rr 5500 Qv6 0,rr 5500 Qv6 1])) fl
def anO:T Lf:=sp wY (sp uS fl (sp Rl (sp (.eq Qgk nT) (sp (.eq (.op .Le bC JL) Qa) Qo3 (sp (.eq (nm (.op .Lh bC JL)) Qa) Qo3 Qv7)) Qv7) fl)) (ou [Qm,bC,Q0])
def aBO:T Lf:=ju 5551 [Qf,rC,Qa,Q0,Qb,Qo]
abbrev Qv8:SB:=.eq (.op .Le bK JL) Qa
abbrev Qv9:T Lf:=ou [Qm,bC,bK,Qa]
abbrev Qwa:SB:=.eq (nm (.op .Lh bK JL)) Qa
abbrev Qwb:List SE:=[Qgm,Qm,bC,bK]
abbrev Qwc:SB:=.eq (rr 5600 Qwb 3) Qa
abbrev Qwd:T Lf:=ou [rr 5600 Qwb 0,rr 5600 Qwb 1,rr 5600 Qwb 2,Qa]
abbrev Qwe:List SE:=[Qf,Qb,kP,rr 5600 Qwb 0,rr 5600 Qwb 1,rr 5600 Qwb 2]
abbrev Qwf:T Lf:=sp (.eq (a0 5600 Qwb) Q0) (sp Qwc Qwd (ju 5551 Qwe)) fl
def aBN:T Lf:=sp wY (sp uS fl (sp Rl (sp (.eq Qgk nT) (sp Qv8 Qv9 (sp Qwa Qv9 Qwf)) Qwf) fl)) (ou [Qm,bC,bK,Q0])
def anN:T Lf:=ju 5601 [Qf,rC,Qa,Qb,Qo,Qm]
abbrev Qwg:T Lf:=sp (.eq (a0 5600 Qwb) Q0) (sp Qwc Qwd (ju 5601 Qwe)) fl
def anM:T Lf:=sp wY (sp uS fl (sp Rl (sp (.eq Qgk nT) (sp Qv8 Qv9 (sp Qwa Qv9 Qwg)) Qwg) fl)) (ou [Qm,bC,bK,Q0])
def aaB:T Lf:=ju 16051 [Qf,rC,Qa]
def Ns:T Lf:=sp wY (sp uS fl (sp Rl (sp (.lt (nm XA) Qa) (ou [Qo]) (ju 16051 [Qf,Qb,kP])) fl)) (ou [Qjh])
abbrev Qwh:List SE:=[Qf,Qb,Qo,Qm,bC,bK,cZ,dZ,fQ,fP,jL,kT,nR]
abbrev Qwi:SE:=rr 12050 Qwh 14
abbrev Qwj:T Lf:=ou [Qa,Qf,Qb,Qo,Qm,bC,bK,cZ,dZ,fQ,fP,jL,kT,nR]
def Vs:T Lf:=sp (.eq (a0 12050 Qwh) Q0) (sp (.eq (rr 12050 Qwh 0) Qa) (sp (.eq Qwi Qjh) Qwj (ju 12001 [Qf,Qb,Qo,Qm,bC,bK,cZ,dZ,fQ,fP,jL,kT,nR,Qf,Qwi,wr (.add Qwi Q0)])) fl) fl
abbrev Qwk:SB:=.eq (nm (el mX U4)) Qb
abbrev Qwl:List SE:=[Qf,Qb,Qo,Qm,bC,bK,cZ,dZ,fQ,fP,jL,kT,nR,mX,qF,wr (.add U4 Q0)]
abbrev Qwm:SB:=.lt qF Qa
abbrev Qwn:SE:=wr (.add qF Q0)
abbrev Qwo:List SE:=[Qf,Qb,Qo,Qm,bC,bK,cZ,dZ,fQ,fP,jL,kT,nR,.op .set mX (cn (mk qF) (mk (nm (el mX U4)))),Qwn,wr (.add U4 Q0)]
abbrev Qwp:T Lf:=sp Qwm fl (sp (.lt Qlc qF) fl (sp (.lt (.sub Qlc qF) Qa) fl (sp (.eq (.add qF (.sub Qlc qF)) Qlc) (ou [Q0,Qf,Qb,Qo,Qm,bC,bK,cZ,dZ,fQ,fP,jL,kT,nR,qF,.op .fill mX (cn (mk qF) jM),Qlc]) fl)))
def NC:T Lf:=sp (.lt U4 Qlc) (sp (.lt U4 Qa) fl (sp Qwk (ju 12001 Qwl) (sp Qwm fl (sp (.lt qF Qlc) (ju 12001 Qwo) fl)))) Qwp
abbrev Qwq:List SE:=[Qf,Qb,Qo,Qm,bC,bK,cZ,dZ,fQ,fP,jL,kT,nR,rC,Qa]
def aaQ:T Lf:=ju 12051 Qwq
abbrev Qwr:SB:=.eq (nm (el Qf qF)) Qb
abbrev Qws:T Lf:=ou [Qa,Qf,Qb,Qo,Qm,bC,bK,cZ,dZ,fQ,fP,jL,kT,nR,qF]
abbrev Qwt:List SE:=[Qf,Qb,Qo,Qm,bC,bK,cZ,dZ,fQ,fP,jL,kT,nR,mX,Qwn]
abbrev Qwu:T Lf:=ou [Qa,Qf,Qb,Qo,Qm,bC,bK,cZ,dZ,fQ,fP,jL,kT,nR,Qjh]
def Nz:T Lf:=sp (.lt qF mX) (sp Qwm fl (sp (.lt qF rC) (sp Qwr Qws (ju 12051 Qwt)) fl)) Qwu
abbrev Qwv:SE:=rr 12150 Qwh 14
def Vr:T Lf:=sp (.eq (a0 12150 Qwh) Q0) (sp (.eq (rr 12150 Qwh 0) Qa) (sp (.eq Qwv Qjh) Qwj (ju 12101 [Qf,Qb,Qo,Qm,bC,bK,cZ,dZ,fQ,fP,jL,kT,nR,Qf,Qwv,wr (.add Qwv Q0)])) fl) fl
def Ny:T Lf:=sp (.lt U4 Qlc) (sp (.lt U4 Qa) fl (sp Qwk (ju 12101 Qwl) (sp Qwm fl (sp (.lt qF Qlc) (ju 12101 Qwo) fl)))) Qwp
def aaP:T Lf:=ju 12151 Qwq
def Nw:T Lf:=sp (.lt qF mX) (sp Qwm fl (sp (.lt qF rC) (sp Qwr Qws (ju 12151 Qwt)) fl)) Qwu
def aaO:T Lf:=sp (.eq (a0 12250 Qwh) Q0) (sp (.eq (rr 12250 Qwh 0) Qa) Qwj fl) fl
def aaN:T Lf:=ju 12251 Qwh
def aaM:T Lf:=ou [Qa,Qf,Qb,Qo,Qm,bC,bK,cZ,dZ,fQ,fP,jL,kT,nR]
def aaL:T Lf:=sp (.eq (a0 12350 Qwh) Q0) (sp (.eq (rr 12350 Qwh 0) Qa) Qwj fl) fl
def aaK:T Lf:=ju 12351 Qwh
def aaJ:T Lf:=ou [Qa,Qf,Qb,Qo,Qm,bC,bK,cZ,dZ,fQ,fP,jL,kT,nR]
abbrev Qww:SB:=.eq (a0 1400 [Qf,Qm5,Qb,jM,Qo]) Q0
abbrev Qwx:SB:=.eq (rr 1400 [Qf,Qm5,Qb,jM,Qo] 0) Qa
abbrev Qwy:T Lf:=ou [Qa,Qf,Qb,Qo,Qm,bC,bK,cZ]
abbrev Qwz:SB:=.lt (.lit 23) bC
abbrev Qw0:SB:=.eq bK Qa
abbrev Qw1:SB:=.eq (a0 1250 [bC]) Q0
abbrev Qw2:SB:=.eq (rr 1250 [bC] 0) Qa
abbrev Qw3:SB:=.eq (a0 1300 [bC]) Q0
abbrev Qw4:SB:=.eq (rr 1300 [bC] 0) Qa
abbrev Qw5:SB:=.eq (a0 5100 [nT,Q0]) Q0
abbrev Qw6:T Lf:=sp Qw5 (ou [Q0,Qf,Qb,Qo,Qm,bC,bK,cZ]) fl
abbrev Qw7:SB:=.eq (a0 1000 [jM]) Q0
abbrev Qw8:SB:=.eq (rr 1000 [jM] 0) Qa
def aaI:T Lf:=sp Qww (sp Qwx Qwy (sp Qfa Qwy (sp Qwz Qwy (sp Qw0 (sp Qw1 (sp Qw2 (sp Qw3 (sp Qw4 Qw6 (sp Qw7 (sp Qw8 Qwy Qw6) fl)) fl) Qwy) fl) Qwy)))) fl
abbrev Qw9:SE:=.dat (.p (.i 98) (.i 0))
abbrev Qxa:SB:=.eq (a0 1400 [Q0,Qw9,Qf,jM,Qb]) Q0
abbrev Qxb:SB:=.eq (rr 1400 [Q0,Qw9,Qf,jM,Qb] 0) Qa
abbrev Qxc:T Lf:=ou [Qa,Qf,Qb,Qo,Qm,bC,bK,cZ,dZ,fQ]
abbrev Qxd:SB:=.eq (a0 1400 [Qo,Qm5,Qm,Qw9,bC]) Q0
abbrev Qxe:SB:=.eq (rr 1400 [Qo,Qm5,Qm,Qw9,bC] 0) Qa
abbrev Qxf:SB:=.lt cZ Q0
abbrev Qxg:SB:=.lt (.lit 23) cZ
abbrev Qxh:SB:=.eq (a0 1250 [cZ]) Q0
abbrev Qxi:SB:=.eq (rr 1250 [cZ] 0) Qa
abbrev Qxj:SB:=.eq (a0 1300 [cZ]) Q0
abbrev Qxk:SB:=.eq (rr 1300 [cZ] 0) Qa
abbrev Qxl:T Lf:=sp Qw5 (ou [Q0,Qf,Qb,Qo,Qm,bC,bK,cZ,dZ,fQ]) fl
def aaH:T Lf:=sp Qxa (sp Qxb Qxc (sp Qxd (sp Qxe Qxc (sp Qxf Qxc (sp Qxg Qxc (sp Qk0 (sp Qxh (sp Qxi (sp Qxj (sp Qxk Qxl (sp Qw7 (sp Qw8 Qxc Qxl) fl)) fl) Qxc) fl) Qxc)))) fl)) fl
def aaG:T Lf:=sp Qww (sp Qwx Qwy (sp Qfa Qwy (sp Qwz Qwy (sp Qw0 (sp Qw1 (sp Qw2 (sp Qw3 (sp Qw4 Qwy Qw6) fl) Qwy) fl) Qwy)))) fl
def aaF:T Lf:=sp Qxa (sp Qxb Qxc (sp Qxd (sp Qxe Qxc (sp Qxf Qxc (sp Qxg Qxc (sp Qk0 (sp Qxh (sp Qxi (sp Qxj (sp Qxk Qxc Qxl) fl) Qxc) fl) Qxc)))) fl)) fl
abbrev Qxm:T Lf:=ou [Qa,Qf,Qb,Qo,Qm,bC,bK,cZ,dZ]
abbrev Qxn:SB:=.eq Qfc (rr 1250 [bC] 0)
abbrev Qxo:T Lf:=sp (.eq (a0 5250 [cZ,nT,Q0]) Q0) (ou [Q0,Qf,Qb,Qo,Qm,bC,bK,cZ,dZ,Qfc,rr 5250 [cZ,nT,Q0] 1]) fl
def Vq:T Lf:=sp Qww (sp Qwx Qxm (sp Qfa Qxm (sp Qwz Qxm (sp Qw0 (sp Qw1 (sp Qxn (sp Qw3 (sp Qw4 Qxo (sp Qw7 (sp Qw8 Qxm Qxo) fl)) fl) Qxm) fl) Qxm)))) fl
abbrev Qxp:T Lf:=ou [Qa,Qf,Qb,Qo,Qm,bC,bK,cZ,dZ,fQ,fP]
abbrev Qxq:SB:=.eq (ln fQ) (rr 1250 [cZ] 0)
abbrev Qxr:T Lf:=sp (.eq (a0 5250 [fQ,nT,Q0]) Q0) (ou [Q0,Qf,Qb,Qo,Qm,bC,bK,cZ,dZ,fQ,fP,ln fQ,rr 5250 [fQ,nT,Q0] 1]) fl
def Vp:T Lf:=sp Qxa (sp Qxb Qxp (sp Qxd (sp Qxe Qxp (sp Qxf Qxp (sp Qxg Qxp (sp Qk0 (sp Qxh (sp Qxq (sp Qxj (sp Qxk Qxr (sp Qw7 (sp Qw8 Qxp Qxr) fl)) fl) Qxp) fl) Qxp)))) fl)) fl
def Vo:T Lf:=sp Qww (sp Qwx Qxm (sp Qfa Qxm (sp Qwz Qxm (sp Qw0 (sp Qw1 (sp Qxn (sp Qw3 (sp Qw4 Qxm Qxo) fl) Qxm) fl) Qxm)))) fl
def Vm:T Lf:=sp Qxa (sp Qxb Qxp (sp Qxd (sp Qxe Qxp (sp Qxf Qxp (sp Qxg Qxp (sp Qk0 (sp Qxh (sp Qxq (sp Qxj (sp Qxk Qxp Qxr) fl) Qxp) fl) Qxp)))) fl)) fl
def aaE:T Lf:=ju 12801 [Qf,Qb,Qb]
abbrev Qxs:SE:=nm (el (.dat b0) (nm XA))
abbrev Qxt:SE:=.op .idx (.op .sub Qf (cn Gg (cn (mk rC) jM))) Qis
abbrev Qxu:T Lf:=ou [Qa,Qf,Qb,Qo]
def Vl:T Lf:=sp Rl (sp uS fl (sp (.lt (nm XA) Qa) fl (sp (.lt (nm XA) Qoi) (sp (.eq Qxs Q0) (ju 12801 [Qf,Qb,kP]) (sp (.eq Qxs nT) (sp (.lt rC rC) fl (sp (.lt Qxt Qa) (ou [Qa,Qf,Qb,rC]) (ju 12801 [Qf,Qb,wr (.add Qo Qxt)]))) Qxu)) fl))) Qxu
abbrev Qxv:SE:=nm (el Qf Qb)
abbrev Qxw:SE:=wr (.add Qb nT)
abbrev Qxx:SE:=.op .norm (.op .sub Qf (cn U1 (cn (mk rC) jM))) Qa
abbrev Qxy:SE:=.dat (.p (.i 45) (.p (.i 62) (.i 0)))
abbrev Qxz:T Lf:=ou [Qa,Qf,Qb,wr (.add vY Q0)]
abbrev Qx0:SE:=.op .norm (.op .sub Qf (cn U1 (cn (mk Qxw) jM))) Qa
def aaD:T Lf:=sp Qe2 fl (sp (.lt Qb rC) (sp (.lt Qxv Qa) fl (sp (.lt Qxv Qoi) (sp (.eq (nm (el (.dat b0) Qxv)) Qch) (sp (.lt rC Qxw) (sp (.lt rC rC) fl (sp (.eq Qxx Qxy) Qxz (sp (.eq Qxx Qou) Qxz (ou [Qa,Qf,Qb,vY])))) (sp (.lt Qxw Qb) fl (sp (.eq Qx0 Qxy) Qxz (sp (.eq Qx0 Qou) Qxz (ou [Qa,Qf,Qb,vY]))))) (ju 12851 [Qf,Qb,nm (el (.dat b0) Qxv),vY])) fl)) fl)
abbrev Qx1:T Lf:=ou [Qa,Qf,Qb,Qm]
def Vk:T Lf:=sp Qfh (sp Qq fl (sp (.lt Qmk Qa) fl (sp (.lt Qmk Qoi) (sp (.eq (nm (el (.dat b0) Qmk)) wV) (ju 12851 Qfy) (sp (.eq (nm (el (.dat b0) Qmk)) rY) (sp (.eq Qo rY) (ju 12851 Qfy) Qx1) Qx1)) fl))) Qx1
abbrev Qx2:SE:=el Qrw bK
abbrev Qx3:SE:=nm (ce 0 Qx2)
abbrev Qx4:SB:=.lt Qa (ln (ce 6 Qx2))
abbrev Qx5:SE:=el (ce 6 Qx2) Qa
abbrev Qx6:List SE:=[nm (ce 0 Qx5),ce 1 Qx5,nm (ce 2 Qx5),ce 3 Qx5,cZ]
abbrev Qx7:SB:=.eq (a0 1950 Qx6) Q0
abbrev Qx8:SE:=nm (ce 3 Qx2)
abbrev Qx9:SB:=.eq (rr 1950 Qx6 0) Qa
abbrev Qya:T Lf:=ou [Qa,Qf,Qb,Qo,Qm,bC,bK,cZ,dZ,fQ,fP,jL,nm (ce 4 Qx2),cZ]
def Ae:T Lf:=sp uS fl (sp Qdk (sp Qf0 (sp Qfp fl (sp (.lt bK (ln Qrw)) (sp (.eq Qx3 wV) (sp Qx4 (sp Qx7 (sp (.lt Qx8 Qa) fl (sp (.lt Qx8 Qfc) (ou [Qa,Qf,Qb,Qo,Qm,bC,bK,cZ,dZ,fQ,fP,jL,Qfs,.op .set cZ (cn (mk Qx8) (mk (rr 1950 Qx6 0)))]) fl)) fl) fl) (sp (.eq Qx3 rY) (sp Qx4 (sp Qx7 (sp Qx9 Qya (ou [Qa,Qf,Qb,Qo,Qm,bC,bK,cZ,dZ,fQ,fP,jL,Qfs,cZ])) fl) fl) (sp (.eq Qx3 Qch) Qya (sp (.eq Qx3 ZT) (sp (.lt Qx8 Qa) fl (sp (.lt Qx8 Qfc) (ou [Qa,Qf,Qb,Qo,Qm,bC,bK,cZ,dZ,fQ,fP,jL,Qfs,.op .set cZ (cn (mk Qx8) (mk (nm (ce 5 Qx2))))]) fl)) (sp (.eq Qx3 Qik) (sp (.lt Qx8 Qa) fl (sp (.lt Qx8 Qfc) (sp (.lt Qa (nm (el cZ Qx8))) (ou [Qa,Qf,Qb,Qo,Qm,bC,bK,cZ,dZ,fQ,fP,jL,Qfs,.op .set cZ (cn (mk Qx8) (mk (wr (.sub (nm (el cZ Qx8)) Q0))))]) Qya) fl)) fl))))) fl)) fl) fl)
abbrev Qyb:List SE:=[Qf,Qb,dZ,Qo,Qm,bC,bK,cZ]
abbrev IK:SE:=rr 400 Qyb 6
abbrev Qyd:SE:=el Qrw fP
abbrev Qye:SB:=.eq (nm (ce 0 Qyd)) Q0
abbrev Qyf:SB:=.eq (nm (ce 1 Qyd)) Qj2
abbrev QT:SE:=rr 400 Qyb 2
abbrev IJ:SE:=rr 400 Qyb 4
abbrev Qyi:SE:=nm (ce 3 Qyd)
abbrev Qyj:SB:=.lt Qyi Qa
abbrev Qyk:SB:=.eq IK wV
abbrev U0:SE:=rr 400 Qyb 1
abbrev Fa:SE:=rr 400 Qyb 3
abbrev UZ:SE:=rr 400 Qyb 5
abbrev UY:SE:=rr 400 Qyb 0
abbrev Qyp:SE:=wr (.add fP Q0)
abbrev Qyq:T Lf:=ou [Qa,Qf,Qb,Qo,Qm,bC,bK,cZ,dZ,fQ,fP,jL,kT,nR,mX,qF,U0,QT,Fa,IJ,UZ,IK,UY,Qyp,jL,Qjz,Fa,mX,Qa]
abbrev Qyr:T Lf:=ou [Qa,Qf,Qb,Qo,Qm,bC,bK,cZ,dZ,fQ,fP,jL,kT,nR,mX,qF,U0,QT,Fa,IJ,UZ,IK,UY,Qyp,jL,kT,nR,mX,Qa]
abbrev Qys:SB:=.lt Qyi (ln jL)
abbrev Qyt:SE:=.op .set jL (cn (mk Qyi) (mk IJ))
abbrev Qyu:T Lf:=ou [Qa,Qf,Qb,Qo,Qm,bC,bK,cZ,dZ,fQ,fP,jL,kT,nR,mX,qF,U0,QT,Fa,IJ,UZ,IK,UY,Qyp,Qyt,Qjz,Fa,mX,Qa]
abbrev Qyv:T Lf:=ou [Qa,Qf,Qb,Qo,Qm,bC,bK,cZ,dZ,fQ,fP,jL,kT,nR,mX,qF,U0,QT,Fa,IJ,UZ,IK,UY,Qyp,Qyt,kT,nR,mX,Qa]
abbrev Qyw:SE:=nm (ce 4 Qyd)
abbrev Qyx:T Lf:=ou [Qa,Qf,Qb,Qo,Qm,bC,bK,cZ,dZ,fQ,fP,jL,kT,nR,mX,qF,U0,QT,Fa,IJ,UZ,IK,UY,Qyw,jL,Qjz,Fa,mX,Qa]
abbrev Qyy:T Lf:=ou [Qa,Qf,Qb,Qo,Qm,bC,bK,cZ,dZ,fQ,fP,jL,kT,nR,mX,qF,U0,QT,Fa,IJ,UZ,IK,UY,Qyw,jL,kT,nR,mX,Qa]
abbrev Qyz:T Lf:=ou [Qa,Qf,Qb,Qo,Qm,bC,bK,cZ,dZ,fQ,fP,jL,kT,nR,mX,qF,U0,QT,Fa,IJ,UZ,IK,UY,Qyw,Qyt,Qjz,Fa,mX,Qa]
abbrev Qy0:T Lf:=ou [Qa,Qf,Qb,Qo,Qm,bC,bK,cZ,dZ,fQ,fP,jL,kT,nR,mX,qF,U0,QT,Fa,IJ,UZ,IK,UY,Qyw,Qyt,kT,nR,mX,Qa]
abbrev Qy1:SB:=.eq QT (.lit 15)
abbrev Qy2:T Lf:=sp Qyk (sp Qy1 (ou [Qa,Qf,Qb,Qo,Qm,bC,bK,cZ,dZ,fQ,fP,jL,kT,nR,mX,qF,U0,QT,Fa,IJ,UZ,IK,UY,Qyp,jL,Qj1,Fa,IJ,Qa]) Qyq) Qyr
def fZ:T Lf:=sp (.eq (a0 400 Qyb) Q0) (sp uS fl (sp (.lt Qo (ln fQ)) (sp (.eq IK Qa) (sp (.eq Qm rY) (sp (.lt Qj0 Qwn) (ou [Qa,Qf,Qb,Qo,Qm,bC,bK,cZ,dZ,fQ,fP,jL,kT,nR,mX,qF,Qa,Qa,Qa,Qa,Qa,IK,dZ,fP,jL,kT,nR,mX,Qj0]) (ou [Qa,Qf,Qb,Qo,Qm,bC,bK,cZ,dZ,fQ,fP,jL,kT,nR,mX,qF,Qa,Qa,Qa,Qa,Qa,IK,dZ,fP,jL,kT,nR,mX,Qwn])) (ou [Qa,Qf,Qb,Qo,Qm,bC,bK,cZ,dZ,fQ,fP,jL,kT,nR,mX,qF,Qa,Qa,Qa,Qa,Qa,IK,dZ,fP,jL,kT,nR,mX,qF])) (sp (.eq kT Qa) (sp Qf0 (sp Qld fl (sp (.lt fP (ln Qrw)) (sp Qye (sp Qyf (sp (.eq QT Qj2) (sp (.eq IJ Q0) (sp Qyj (sp Qyk Qyq Qyr) (sp Qys (sp Qyk Qyu Qyv) fl)) (sp Qyj (sp Qyk Qyx Qyy) (sp Qys (sp Qyk Qyz Qy0) fl))) (sp Qyj (sp Qyk (sp Qy1 (ou [Qa,Qf,Qb,Qo,Qm,bC,bK,cZ,dZ,fQ,fP,jL,kT,nR,mX,qF,U0,QT,Fa,IJ,UZ,IK,UY,Qyw,jL,Qj1,Fa,IJ,Qa]) Qyx) Qyy) (sp Qys (sp Qyk (sp Qy1 (ou [Qa,Qf,Qb,Qo,Qm,bC,bK,cZ,dZ,fQ,fP,jL,kT,nR,mX,qF,U0,QT,Fa,IJ,UZ,IK,UY,Qyw,Qyt,Qj1,Fa,IJ,Qa]) Qyz) Qy0) fl))) (sp Qyj Qy2 (sp Qys (sp Qyk (sp Qy1 (ou [Qa,Qf,Qb,Qo,Qm,bC,bK,cZ,dZ,fQ,fP,jL,kT,nR,mX,qF,U0,QT,Fa,IJ,UZ,IK,UY,Qyp,Qyt,Qj1,Fa,IJ,Qa]) Qyu) Qyv) fl))) Qy2) fl)) fl) (ou [Qa,Qf,Qb,Qo,Qm,bC,bK,cZ,dZ,fQ,fP,jL,kT,nR,mX,qF,U0,QT,Fa,IJ,UZ,IK,UY,fP,jL,Qa,Qa,Qa,Qa]))) fl)) fl
abbrev Qy3:T Lf:=ou [Qa,Qf,Qb,Qo,Qm,bC,bK,cZ,dZ,fQ,fP,jL,nm (ce 4 Qx2)]
def Nv:T Lf:=sp uS fl (sp Qdk (sp Qf0 (sp Qfp fl (sp (.lt bK (ln Qrw)) (sp (.eq Qx3 wV) (sp Qx4 (sp Qx7 fl fl) fl) (sp (.eq Qx3 rY) (sp Qx4 (sp Qx7 (sp Qx9 Qy3 (ou [Qa,Qf,Qb,Qo,Qm,bC,bK,cZ,dZ,fQ,fP,jL,Qfs])) fl) fl) (sp (.eq Qx3 Qch) Qy3 (sp (.eq Qx3 ZT) fl (sp (.eq Qx3 Qik) fl fl))))) fl)) fl) fl)
abbrev Qy4:T Lf:=ou [Qa,Qf,Qb,Qo,Qm,bC,bK,cZ,dZ,fQ,fP,jL,kT,nR,mX,qF,U0,QT,Fa,IJ,UZ,IK,UY,Qyp,Qjz,Fa,mX,Qa]
abbrev Qy5:T Lf:=ou [Qa,Qf,Qb,Qo,Qm,bC,bK,cZ,dZ,fQ,fP,jL,kT,nR,mX,qF,U0,QT,Fa,IJ,UZ,IK,UY,Qyp,kT,nR,mX,Qa]
abbrev Qy6:T Lf:=ou [Qa,Qf,Qb,Qo,Qm,bC,bK,cZ,dZ,fQ,fP,jL,kT,nR,mX,qF,U0,QT,Fa,IJ,UZ,IK,UY,Qyw,Qjz,Fa,mX,Qa]
abbrev Qy7:T Lf:=ou [Qa,Qf,Qb,Qo,Qm,bC,bK,cZ,dZ,fQ,fP,jL,kT,nR,mX,qF,U0,QT,Fa,IJ,UZ,IK,UY,Qyw,kT,nR,mX,Qa]
abbrev Qy8:T Lf:=sp Qyk (sp Qy1 (ou [Qa,Qf,Qb,Qo,Qm,bC,bK,cZ,dZ,fQ,fP,jL,kT,nR,mX,qF,U0,QT,Fa,IJ,UZ,IK,UY,Qyp,Qj1,Fa,IJ,Qa]) Qy4) Qy5
def kQ:T Lf:=sp (.eq (a0 400 Qyb) Q0) (sp uS fl (sp (.lt Qo (ln fQ)) (sp (.eq IK Qa) (sp (.eq Qm rY) (sp (.lt Qj0 Qwn) (ou [Qa,Qf,Qb,Qo,Qm,bC,bK,cZ,dZ,fQ,fP,jL,kT,nR,mX,qF,Qa,Qa,Qa,Qa,Qa,IK,dZ,fP,kT,nR,mX,Qj0]) (ou [Qa,Qf,Qb,Qo,Qm,bC,bK,cZ,dZ,fQ,fP,jL,kT,nR,mX,qF,Qa,Qa,Qa,Qa,Qa,IK,dZ,fP,kT,nR,mX,Qwn])) (ou [Qa,Qf,Qb,Qo,Qm,bC,bK,cZ,dZ,fQ,fP,jL,kT,nR,mX,qF,Qa,Qa,Qa,Qa,Qa,IK,dZ,fP,kT,nR,mX,qF])) (sp (.eq kT Qa) (sp Qf0 (sp Qld fl (sp (.lt fP (ln Qrw)) (sp Qye (sp Qyf (sp (.eq QT Qj2) (sp (.eq IJ Q0) (sp Qyj (sp Qyk Qy4 Qy5) fl) (sp Qyj (sp Qyk Qy6 Qy7) fl)) (sp Qyj (sp Qyk (sp Qy1 (ou [Qa,Qf,Qb,Qo,Qm,bC,bK,cZ,dZ,fQ,fP,jL,kT,nR,mX,qF,U0,QT,Fa,IJ,UZ,IK,UY,Qyw,Qj1,Fa,IJ,Qa]) Qy6) Qy7) fl)) (sp Qyj Qy8 fl)) Qy8) fl)) fl) (ou [Qa,Qf,Qb,Qo,Qm,bC,bK,cZ,dZ,fQ,fP,jL,kT,nR,mX,qF,U0,QT,Fa,IJ,UZ,IK,UY,fP,Qa,Qa,Qa,Qa]))) fl)) fl
abbrev Qy9:SE:=wr (.sub dZ Q0)
abbrev Qza:T Lf:=ou [Qa,Qf,Qb,Qo,Qm,bC,bK,cZ,dZ,fQ,fP,jL,fP]
def Ad:T Lf:=sp (.eq bK (.lit 13)) (sp (.lt Qa dZ) (sp (.lt Qy9 Qa) fl (sp (.lt Qy9 (ln fP)) (sp (.lt (nm (el fP Qy9)) jL) (ou [Qa,Qf,Qb,Qo,Qm,bC,bK,cZ,dZ,fQ,fP,jL,.op .set fP (cn (mk Qy9) (mk jL))]) (ou [Qa,Qf,Qb,Qo,Qm,bC,bK,cZ,dZ,fQ,fP,jL,.op .set fP (cn (mk Qy9) (mk (nm (el fP Qy9))))])) fl)) Qza) (sp (.eq bK (.lit 14)) (sp Qe7 fl (sp (.lt cZ rC) (ju 15001 [Qf,Qb,Qo,Qm,bC,bK,cZ,dZ,fQ,fP,jL,ce 4 (el Qf cZ),ln (ce 4 (el Qf cZ)),Qa,fP]) fl)) (sp (.eq bK (.lit 15)) (sp Qe7 fl (sp (.lt cZ Qcl) (sp (.lt dZ (nm (ce 3 (el Qo cZ)))) (ju 15002 [Qf,Qb,Qo,Qm,bC,bK,cZ,dZ,fQ,fP,jL,Gi,Qa,fP]) Qza) fl)) Qza))
abbrev Qzb:SE:=nm (el kT mX)
def Nu:T Lf:=sp (.lt mX nR) (sp (.lt mX Qa) fl (sp (.lt mX (ln kT)) (sp (.lt Qzb Qa) fl (sp (.lt Qzb (ln qF)) (sp (.lt (nm (el qF Qzb)) jL) (ju 15001 [Qf,Qb,Qo,Qm,bC,bK,cZ,dZ,fQ,fP,jL,kT,nR,wr (.add mX Q0),.op .set qF (cn (mk Qzb) (mk jL))]) (ju 15001 [Qf,Qb,Qo,Qm,bC,bK,cZ,dZ,fQ,fP,jL,kT,nR,wr (.add mX Q0),.op .set qF (cn (mk Qzb) (mk (nm (el qF Qzb))))])) fl)) fl)) (ou [Qa,Qf,Qb,Qo,Qm,bC,bK,cZ,dZ,fQ,fP,jL,qF])
abbrev Qzc:SE:=wr (.add nR Q0)
abbrev Qzd:T Lf:=ju 15002 [Qf,Qb,Qo,Qm,bC,bK,cZ,dZ,fQ,fP,jL,kT,Qzc,mX]
def Cb:T Lf:=sp (.lt nR kT) (sp (.lt nR Qa) fl (sp (.lt nR Gi) (sp (.eq (nm (ce 2 (el Qm nR))) Qj1) (sp (.eq (nm (ce 3 (el Qm nR))) cZ) (sp (.eq (nm (ce 4 (el Qm nR))) dZ) (sp (.lt nR Qlc) (sp (.lt (nm (el mX nR)) jL) (ju 15002 [Qf,Qb,Qo,Qm,bC,bK,cZ,dZ,fQ,fP,jL,kT,Qzc,.op .set mX (cn (mk nR) (mk jL))]) (ju 15002 [Qf,Qb,Qo,Qm,bC,bK,cZ,dZ,fQ,fP,jL,kT,Qzc,.op .set mX (cn (mk nR) (mk (nm (el mX nR))))])) fl) Qzd) Qzd) Qzd) fl)) (ou [Qa,Qf,Qb,Qo,Qm,bC,bK,cZ,dZ,fQ,fP,jL,mX])
abbrev Qze:T Lf:=ju 17001 [Qf,Qb,Qo,Qa]
def I9:T Lf:=sp (.lt Qfb rC) (sp (.eq (ln (.op .take Qf Qfb)) Qa) Qze (sp (.lt (ln (.op .take Qf Qfb)) Qv) (ju 17002 [Qf,Qb,Qo,.op .take Qf Qfb,Qa]) fl)) (sp (.lt rC rC) fl (sp (.eq (ln (.op .take Qf rC)) Qa) Qze (sp (.lt (ln (.op .take Qf rC)) Qv) (ju 17002 [Qf,Qb,Qo,.op .take Qf rC,Qa]) fl)))
def Nr:T Lf:=sp (.lt Qm (.lit 400)) (ju 17003 [Qf,Qb,Qo,Qm,Qcl]) Qxu
def Vh:T Lf:=sp (.lt bC (.lit 400)) (ju 17004 [Qf,Qb,Qo,Qm,bC,Qcl,Qa]) (ou [Q0,Qf,Qb,Qo,Qm])
def Vg:T Lf:=sp (.lt Qa bC) (ju 17004 [Qf,Qb,Qo,.op .snoc jM jM,Qm,bC,Q0]) (ju 17001 Qfy)
def Vf:T Lf:=sp (.lt cZ bK) (sp (.lt Gi Qh7) (ju 17004 [Qf,Qb,Qo,.op .snoc Qm (mk cZ),bC,bK,wr (.add cZ Q0)]) fl) (ju 17002 [Qf,Qb,Qo,Qm,Qvv])
def aaC:T Lf:=sp (.eq (a0 1000 Qj) Q0) (sp (.eq (rr 1000 Qj 0) Qa) Qbb Qd2) fl
end
theorem atJ:S.tree 9000=RV:=by kernel_rfl
theorem Za:S.tree 9001=wE:=by kernel_rfl
theorem aCo:S.tree 9002=anJ:=by kernel_rfl
theorem aCn:S.tree 9003=anI:=by kernel_rfl
theorem atI:S.tree 9004=aeS:=by kernel_rfl
theorem atH:S.tree 9005=aeR:=by kernel_rfl
theorem atG:S.tree 9006=aeQ:=by kernel_rfl
theorem atF:S.tree 9007=aeP:=by kernel_rfl
theorem atE:S.tree 9050=JR:=by kernel_rfl
theorem atD:S.tree 9051=aeO:=by kernel_rfl
theorem atC:S.tree 9052=aeN:=by kernel_rfl
theorem aHs:S.tree 9053=aBM:=by kernel_rfl
theorem aCm:S.tree 9054=anH:=by kernel_rfl
theorem aCl:S.tree 9055=aBL:=by kernel_rfl
theorem aHr:S.tree 9056=aBK:=by kernel_rfl
theorem aHq:S.tree 9057=aBJ:=by kernel_rfl
theorem aHp:S.tree 9058=aBI:=by kernel_rfl
theorem aHo:S.tree 9059=aBH:=by kernel_rfl
theorem Y9:S.tree 9060=Gt:=by kernel_rfl
theorem aCk:S.tree 9061=anG:=by kernel_rfl
theorem aHn:S.tree 9062=aBG:=by kernel_rfl
theorem Y8:S.tree 9063=Gq:=by kernel_rfl
theorem aCj:S.tree 9064=anF:=by kernel_rfl
theorem aHm:S.tree 9065=aBF:=by kernel_rfl
theorem aHl:S.tree 9066=aBE:=by kernel_rfl
theorem aHk:S.tree 9067=aBD:=by kernel_rfl
theorem aHj:S.tree 9068=aBC:=by kernel_rfl
theorem atB:S.tree 9069=aeM:=by kernel_rfl
theorem atA:S.tree 9070=aeL:=by kernel_rfl
theorem asZ:S.tree 9071=aeK:=by kernel_rfl
theorem asY:S.tree 9072=aeJ:=by kernel_rfl
theorem aHi:S.tree 9073=aBB:=by kernel_rfl
theorem aHh:S.tree 9074=aBA:=by kernel_rfl
theorem e100:S.tree 100=aFX:=by kernel_rfl
theorem aBa:S.tree 101=aFW:=by kernel_rfl
theorem aA9:S.tree 102=aFV:=by kernel_rfl
theorem aFt:S.tree 103=aFU:=by kernel_rfl
theorem aFs:S.tree 150=aFT:=by kernel_rfl
theorem aA8:S.tree 151=aFS:=by kernel_rfl
theorem aFr:S.tree 200=ayQ:=by kernel_rfl
theorem WW:S.tree 201=t201:=by kernel_rfl
theorem aA7:S.tree 202=aoJ:=by kernel_rfl
theorem e250:S.tree 250=ayP:=by kernel_rfl
theorem e251:S.tree 251=aoH:=by kernel_rfl
theorem e300:S.tree 300=aoF:=by kernel_rfl
theorem e301:S.tree 301=aaA:=by kernel_rfl
theorem e302:S.tree 302=ayO:=by kernel_rfl
theorem aA6:S.tree 350=aoD:=by kernel_rfl
theorem aA5:S.tree 351=Z9:=by kernel_rfl
theorem aFq:S.tree 400=lK:=by kernel_rfl
theorem aHE:S.tree 450=aDC:=by kernel_rfl
theorem aFp:S.tree 451=ayN:=by kernel_rfl
theorem aFo:S.tree 452=ayM:=by kernel_rfl
theorem aFm:S.tree 453=ayL:=by kernel_rfl
theorem aFl:S.tree 454=ayK:=by kernel_rfl
theorem aFk:S.tree 455=ayJ:=by kernel_rfl
theorem aFj:S.tree 456=ayI:=by kernel_rfl
theorem aA4:S.tree 500=ajF:=by kernel_rfl
theorem alN:S.tree 501=XP:=by kernel_rfl
theorem aHD:S.tree 550=anQ:=by kernel_rfl
theorem aFi:S.tree 551=ayH:=by kernel_rfl
theorem aHC:S.tree 552=aFR:=by kernel_rfl
theorem aHB:S.tree 553=aFQ:=by kernel_rfl
theorem aHy:S.tree 600=aDB:=by kernel_rfl
theorem aA3:S.tree 650=anL:=by kernel_rfl
theorem aHx:S.tree 700=aDA:=by kernel_rfl
theorem aHw:S.tree 750=aDz:=by kernel_rfl
theorem aHv:S.tree 800=aDy:=by kernel_rfl
theorem aHu:S.tree 850=aDx:=by kernel_rfl
theorem aFh:S.tree 851=anK:=by kernel_rfl
theorem aHt:S.tree 900=aDw:=by kernel_rfl
theorem aHg:S.tree 950=aDv:=by kernel_rfl
theorem aFg:S.tree 951=ayG:=by kernel_rfl
theorem aFf:S.tree 952=ayF:=by kernel_rfl
theorem Lr:S.tree 953=wC:=by kernel_rfl
theorem Lp:S.tree 954=wB:=by kernel_rfl
theorem aC7:S.tree 1000=aoW:=by kernel_rfl
theorem aC6:S.tree 1050=XV:=by kernel_rfl
theorem aC5:S.tree 1100=aoV:=by kernel_rfl
theorem aC4:S.tree 1101=aB8:=by kernel_rfl
theorem avV:S.tree 1102=afS:=by kernel_rfl
theorem aC3:S.tree 1150=aoU:=by kernel_rfl
theorem aC2:S.tree 1200=aoT:=by kernel_rfl
theorem aC1:S.tree 1250=aoS:=by kernel_rfl
theorem aC0:S.tree 1300=aoR:=by kernel_rfl
theorem aCZ:S.tree 1350=aoQ:=by kernel_rfl
theorem aCY:S.tree 1400=aoP:=by kernel_rfl
theorem auW:S.tree 1450=afR:=by kernel_rfl
theorem auU:S.tree 1451=XU:=by kernel_rfl
theorem auT:S.tree 1452=XT:=by kernel_rfl
theorem aCX:S.tree 1500=aoO:=by kernel_rfl
theorem auQ:S.tree 1501=afQ:=by kernel_rfl
theorem aCW:S.tree 1550=aoN:=by kernel_rfl
theorem aCV:S.tree 1600=aoM:=by kernel_rfl
theorem aCU:S.tree 1650=aoL:=by kernel_rfl
theorem auN:S.tree 1700=afP:=by kernel_rfl
theorem aCT:S.tree 1750=Nq:=by kernel_rfl
theorem auL:S.tree 1751=afO:=by kernel_rfl
theorem auK:S.tree 1800=RZ:=by kernel_rfl
theorem PK:S.tree 1850=JY:=by kernel_rfl
theorem aCS:S.tree 1900=RY:=by kernel_rfl
theorem auJ:S.tree 1901=afN:=by kernel_rfl
theorem auI:S.tree 1902=afM:=by kernel_rfl
theorem aHR:S.tree 1903=aB7:=by kernel_rfl
theorem aCR:S.tree 1904=aoK:=by kernel_rfl
theorem aCQ:S.tree 1905=aB6:=by kernel_rfl
theorem aHQ:S.tree 1906=aB5:=by kernel_rfl
theorem aHP:S.tree 1907=aB4:=by kernel_rfl
theorem aHO:S.tree 1908=aB3:=by kernel_rfl
theorem aHN:S.tree 1909=aB2:=by kernel_rfl
theorem auH:S.tree 1910=afL:=by kernel_rfl
theorem aCP:S.tree 1911=aB1:=by kernel_rfl
theorem aHM:S.tree 1912=aB0:=by kernel_rfl
theorem auG:S.tree 1913=afK:=by kernel_rfl
theorem aCO:S.tree 1914=aBZ:=by kernel_rfl
theorem aHL:S.tree 1915=aBY:=by kernel_rfl
theorem aHK:S.tree 1916=aBX:=by kernel_rfl
theorem aHJ:S.tree 1917=aBW:=by kernel_rfl
theorem aHI:S.tree 1918=aBV:=by kernel_rfl
theorem ahU:S.tree 1950=XR:=by kernel_rfl
theorem auF:S.tree 2000=afJ:=by kernel_rfl
theorem aHH:S.tree 2001=aBU:=by kernel_rfl
theorem aHG:S.tree 2002=aBT:=by kernel_rfl
theorem aHF:S.tree 2003=aBS:=by kernel_rfl
theorem auE:S.tree 2004=afI:=by kernel_rfl
theorem auD:S.tree 2005=afH:=by kernel_rfl
theorem aCN:S.tree 2050=aoI:=by kernel_rfl
theorem auC:S.tree 2051=afG:=by kernel_rfl
theorem auB:S.tree 2052=afF:=by kernel_rfl
theorem auA:S.tree 2150=afE:=by kernel_rfl
theorem atZ:S.tree 2151=afD:=by kernel_rfl
theorem atY:S.tree 2450=afC:=by kernel_rfl
theorem Zd:S.tree 2451=RX:=by kernel_rfl
theorem aCM:S.tree 2550=aoG:=by kernel_rfl
theorem atX:S.tree 2551=afB:=by kernel_rfl
theorem aCL:S.tree 2750=XQ:=by kernel_rfl
theorem ahT:S.tree 2800=Gw:=by kernel_rfl
theorem aCK:S.tree 2850=Np:=by kernel_rfl
theorem aCJ:S.tree 2900=Nl:=by kernel_rfl
theorem atW:S.tree 2950=afA:=by kernel_rfl
theorem KI:S.tree 2951=Gv:=by kernel_rfl
theorem aCI:S.tree 3050=aoE:=by kernel_rfl
theorem atV:S.tree 3051=aeZ:=by kernel_rfl
theorem atU:S.tree 3052=aeY:=by kernel_rfl
theorem atT:S.tree 3053=JX:=by kernel_rfl
theorem atS:S.tree 3054=JW:=by kernel_rfl
theorem atQ:S.tree 3055=JV:=by kernel_rfl
theorem atP:S.tree 3056=JU:=by kernel_rfl
theorem BJ:S.tree 3100=yM:=by kernel_rfl
theorem Uz:S.tree 3150=Nk:=by kernel_rfl
theorem Zc:S.tree 3151=Gu:=by kernel_rfl
theorem ahS:S.tree 3152=Nj:=by kernel_rfl
theorem aCH:S.tree 3650=aoC:=by kernel_rfl
theorem Zb:S.tree 3700=uY:=by kernel_rfl
theorem aCG:S.tree 5000=aoB:=by kernel_rfl
theorem aCF:S.tree 5050=aoA:=by kernel_rfl
theorem atO:S.tree 5051=aeX:=by kernel_rfl
theorem aCE:S.tree 5100=anZ:=by kernel_rfl
theorem aCD:S.tree 5101=aBR:=by kernel_rfl
theorem aCC:S.tree 5150=anY:=by kernel_rfl
theorem aCB:S.tree 5151=aBQ:=by kernel_rfl
theorem aCA:S.tree 5200=anX:=by kernel_rfl
theorem aCz:S.tree 5201=aBP:=by kernel_rfl
theorem aCy:S.tree 5250=anW:=by kernel_rfl
theorem atN:S.tree 5251=aeW:=by kernel_rfl
theorem aCx:S.tree 5300=anV:=by kernel_rfl
theorem atM:S.tree 5301=aeV:=by kernel_rfl
theorem aCw:S.tree 5350=anU:=by kernel_rfl
theorem atL:S.tree 5351=aeU:=by kernel_rfl
theorem auP:S.tree 16000=Vj:=by kernel_rfl
theorem aCv:S.tree 5400=anT:=by kernel_rfl
theorem atK:S.tree 5401=aeT:=by kernel_rfl
theorem aCu:S.tree 5450=anS:=by kernel_rfl
theorem aCt:S.tree 5451=anR:=by kernel_rfl
theorem aCs:S.tree 5500=anP:=by kernel_rfl
theorem aCr:S.tree 5501=anO:=by kernel_rfl
theorem aHA:S.tree 5550=aBO:=by kernel_rfl
theorem aHz:S.tree 5551=aBN:=by kernel_rfl
theorem aCq:S.tree 5600=anN:=by kernel_rfl
theorem aCp:S.tree 5601=anM:=by kernel_rfl
theorem auO:S.tree 16050=aaB:=by kernel_rfl
theorem WY:S.tree 16051=Ns:=by kernel_rfl
theorem adM:S.tree 12000=Vs:=by kernel_rfl
theorem W9:S.tree 12001=NC:=by kernel_rfl
theorem avU:S.tree 12050=aaQ:=by kernel_rfl
theorem adL:S.tree 12051=Nz:=by kernel_rfl
theorem adK:S.tree 12100=Vr:=by kernel_rfl
theorem WZ:S.tree 12101=Ny:=by kernel_rfl
theorem avT:S.tree 12150=aaP:=by kernel_rfl
theorem adJ:S.tree 12151=Nw:=by kernel_rfl
theorem avS:S.tree 12200=aaO:=by kernel_rfl
theorem avR:S.tree 12250=aaN:=by kernel_rfl
theorem avQ:S.tree 12251=aaM:=by kernel_rfl
theorem avP:S.tree 12300=aaL:=by kernel_rfl
theorem avO:S.tree 12350=aaK:=by kernel_rfl
theorem avN:S.tree 12351=aaJ:=by kernel_rfl
theorem avM:S.tree 12400=aaI:=by kernel_rfl
theorem avL:S.tree 12450=aaH:=by kernel_rfl
theorem avK:S.tree 12500=aaG:=by kernel_rfl
theorem avJ:S.tree 12550=aaF:=by kernel_rfl
theorem avI:S.tree 12600=Vq:=by kernel_rfl
theorem avH:S.tree 12650=Vp:=by kernel_rfl
theorem avG:S.tree 12700=Vo:=by kernel_rfl
theorem avF:S.tree 12750=Vm:=by kernel_rfl
theorem avE:S.tree 12800=aaE:=by kernel_rfl
theorem avD:S.tree 12801=Vl:=by kernel_rfl
theorem avC:S.tree 12850=aaD:=by kernel_rfl
theorem avA:S.tree 12851=Vk:=by kernel_rfl
theorem auY:S.tree 14000=Ae:=by kernel_rfl
theorem auV:S.tree 14500=fZ:=by kernel_rfl
theorem auX:S.tree 14050=Nv:=by kernel_rfl
theorem auS:S.tree 14550=kQ:=by kernel_rfl
theorem auR:S.tree 15000=Ad:=by kernel_rfl
theorem adI:S.tree 15001=Nu:=by kernel_rfl
theorem adH:S.tree 15002=Cb:=by kernel_rfl
theorem auM:S.tree 17000=I9:=by kernel_rfl
theorem WX:S.tree 17001=Nr:=by kernel_rfl
theorem adG:S.tree 17002=Vh:=by kernel_rfl
theorem adF:S.tree 17003=Vg:=by kernel_rfl
theorem adE:S.tree 17004=Vf:=by kernel_rfl
theorem auZ:S.tree 12900=aaC:=by kernel_rfl
end Go.As.Try
end
section
namespace Go.As.Try
open Go hiding Stat Spec shape
open Go.As Go.Proofs
set_option maxRecDepth 100000
def listed:List Nat:=[9000,9001,9002,9003,9004,9005,9006,9007,9050,9051,9052,9053,9054,9055,9056,9057,9058,9059,9060,9061,9062,9063,9064,9065,9066,9067,9068,9069,9070,9071,9072,9073,9074,100,101,102,103,150,151,200,201,202,250,251,300,301,302,350,351,400,450,451,452,453,454,455,456,500,501,550,551,552,553,600,650,700,750,800,850,851,900,950,951,952,953,954,1000,1050,1100,1101,1102,1150,1200,1250,1300,1350,1400,1450,1451,1452,1500,1501,1550,1600,1650,1700,1750,1751,1800,1850,1900,1901,1902,1903,1904,1905,1906,1907,1908,1909,1910,1911,1912,1913,1914,1915,1916,1917,1918,1950,2000,2001,2002,2003,2004,2005,2050,2051,2052,2150,2151,2450,2451,2550,2551,2750,2800,2850,2900,2950,2951,3050,3051,3052,3053,3054,3055,3056,3100,3150,3151,3152,3650,3700,5000,5050,5051,5100,5101,5150,5151,5200,5201,5250,5251,5300,5301,5350,5351,16000,5400,5401,5450,5451,5500,5501,5550,5551,5600,5601,16050,16051,12000,12001,12050,12051,12100,12101,12150,12151,12200,12250,12251,12300,12350,12351,12400,12450,12500,12550,12600,12650,12700,12750,12800,12801,12850,12851,14000,14500,14050,14550,15000,15001,15002,17000,17001,17002,17003,17004,12900]
noncomputable def trees:List (T Lf):=[RV,wE,anJ,anI,aeS,aeR,aeQ,aeP,JR,aeO,aeN,aBM,anH,aBL,aBK,aBJ,aBI,aBH,Gt,anG,aBG,Gq,anF,aBF,aBE,aBD,aBC,aeM,aeL,aeK,aeJ,aBB,aBA,aFX,aFW,aFV,aFU,aFT,aFS,ayQ,t201,aoJ,ayP,aoH,aoF,aaA,ayO,aoD,Z9,lK,aDC,ayN,ayM,ayL,ayK,ayJ,ayI,ajF,XP,anQ,ayH,aFR,aFQ,aDB,anL,aDA,aDz,aDy,aDx,anK,aDw,aDv,ayG,ayF,wC,wB,aoW,XV,aoV,aB8,afS,aoU,aoT,aoS,aoR,aoQ,aoP,afR,XU,XT,aoO,afQ,aoN,aoM,aoL,afP,Nq,afO,RZ,JY,RY,afN,afM,aB7,aoK,aB6,aB5,aB4,aB3,aB2,afL,aB1,aB0,afK,aBZ,aBY,aBX,aBW,aBV,XR,afJ,aBU,aBT,aBS,afI,afH,aoI,afG,afF,afE,afD,afC,RX,aoG,afB,XQ,Gw,Np,Nl,afA,Gv,aoE,aeZ,aeY,JX,JW,JV,JU,yM,Nk,Gu,Nj,aoC,uY,aoB,aoA,aeX,anZ,aBR,anY,aBQ,anX,aBP,anW,aeW,anV,aeV,anU,aeU,Vj,anT,aeT,anS,anR,anP,anO,aBO,aBN,anN,anM,aaB,Ns,Vs,NC,aaQ,Nz,Vr,Ny,aaP,Nw,aaO,aaN,aaM,aaL,aaK,aaJ,aaI,aaH,aaG,aaF,Vq,Vp,Vo,Vm,aaE,Vl,aaD,Vk,Ae,fZ,Nv,kQ,Ad,Nu,Cb,I9,Nr,Vh,Vg,Vf,aaC]
theorem akM:listed.map S.tree=trees:=by simp only [listed,trees,List.map,atJ,Za,aCo,aCn,atI,atH,atG,atF,atE,atD,atC,aHs,aCm,aCl,aHr,aHq,aHp,aHo,Y9,aCk,aHn,Y8,aCj,aHm,aHl,aHk,aHj,atB,atA,asZ,asY,aHi,aHh,e100,aBa,aA9,aFt,aFs,aA8,aFr,WW,aA7,e250,e251,e300,e301,e302,aA6,aA5,aFq,aHE,aFp,aFo,aFm,aFl,aFk,aFj,aA4,alN,aHD,aFi,aHC,aHB,aHy,aA3,aHx,aHw,aHv,aHu,aFh,aHt,aHg,aFg,aFf,Lr,Lp,aC7,aC6,aC5,aC4,avV,aC3,aC2,aC1,aC0,aCZ,aCY,auW,auU,auT,aCX,auQ,aCW,aCV,aCU,auN,aCT,auL,auK,PK,aCS,auJ,auI,aHR,aCR,aCQ,aHQ,aHP,aHO,aHN,auH,aCP,aHM,auG,aCO,aHL,aHK,aHJ,aHI,ahU,auF,aHH,aHG,aHF,auE,auD,aCN,auC,auB,auA,atZ,atY,Zd,aCM,atX,aCL,ahT,aCK,aCJ,atW,KI,aCI,atV,atU,atT,atS,atQ,atP,BJ,Uz,Zc,ahS,aCH,Zb,aCG,aCF,atO,aCE,aCD,aCC,aCB,aCA,aCz,aCy,atN,aCx,atM,aCw,atL,auP,aCv,atK,aCu,aCt,aCs,aCr,aHA,aHz,aCq,aCp,auO,WY,adM,W9,avU,adL,adK,WZ,avT,adJ,avS,avR,avQ,avP,avO,avN,avM,avL,avK,avJ,avI,avH,avG,avF,avE,avD,avC,avA,auY,auV,auX,auS,auR,adI,adH,auM,WX,adG,adF,adE,auZ]
theorem amX:trees.all (ZM [])=true:=by kernel_rfl
theorem aFw:aC8 (lim 341 feT) 341 listed=true:=by kernel_rfl
theorem axV (j:Nat):ZM [] (S.tree j)=true:=by
 cases h:BI St.t j with
 |none=>exact ajB (S:=St) h
 |some e=>
  have hm:S.tree j∈trees:=by rw [<- akM];exact List.mem_map_of_mem (cov aFw (fun k hk=>arA hk) h)
  exact aJD.1 amX _ hm
noncomputable def L:uT:=lim' S.tree
theorem aN (j:Nat) (xs:List Int):L j xs=fin L (dX (bQ L (low xs)) (S.tree j)):=aDY axV j xs
end Go.As.Try
end
section
namespace Go.As.Try
open Go hiding Stat
open Go.As Go.Proofs Go.RowKit Go.ChangeShapes Go.WideShapes Go.ChangeAt
open Go.Proofs.YtakeldbjhhiinaaGreatDoor
set_option maxRecDepth 100000
theorem own:ownKnob Tryz.prog.godebug=none:=by kernel_rfl
theorem laidOut:laidOutB Tryz.prog=true:=by kernel_rfl
def aqB:TypeId->Option Nat:=KC (owns.take 10)
def ownB (P:Program) (own:TypeId->Option Nat) (l:List (Nat×Nat)):Bool:=l.all fun p=>match P.underlying p.1 with
 |some (.slice e)=>decide (zK P own 8 e=some (pF p.2))&&Nat.beq (P.cellsOf e) (pF p.2).length&&Nat.ble (xC p.2) (P.bytesOf e)&&Nat.ble 1 (pF p.2).length
 |_=>false
theorem Ul {t i:Nat}: ∀{l:List (Nat×Nat)},KC l t=some i->(t,i)∈l
 |[],h=>by simp [KC] at h
 |(a,k)::l,h=>by
  unfold KC at h;split at h
  ·rename_i hb;have:=aJj hb;simp only [aJf] at h;subst this h;simp
  ·exact aKY _ (Ul h)
theorem azR {P:Program} {l:List (Nat×Nat)} (h:ownB P (KC l) l=true):axK P (KC l):=by
 intro t i hti;have:=aJD.1 h _ (Ul hti);simp only at this;split at this
 ·rename_i e he;simp only [aJh,decide_eq_true_eq] at this;exact⟨e,8,he,this.1.1.1,aJj this.1.1.2,aJ9 this.1.2,aJ9 this.2⟩
 ·simp at this
theorem azQ:axK Tryz.prog aqB:=azR (by kernel_rfl)
theorem aAq {W:World} (h:W.ShapedOpen Tryz.prog):base.ok (roW W) W.heap:=by obtain⟨m,hm⟩:=LaysM.n144.s1_3 Tryz.laysM144 W h;exact⟨aiO hm,m,by rw [<- uN]; exact hm⟩
def agM:DataW Unit->Value
 | .lit (.int k n)=> .int k n
 |_=>undef
def cellsD:DataW Unit->Array Value
 | .agg l=>(l.map agM).toArray
 |d=> #[agM d]
def aGs (d:DataW Unit):Obj->Obj
 | .cells _ t f=> .cells (cellsD d) t f
 |o=>o
noncomputable def aDZ (h:Array Obj) (x:String×DataW Unit):Array Obj:=match Tryz.prog.globalNamed x.1 with
 |some g=>h.modify g (aGs x.2)
 |none=>h
noncomputable def laidWorld (os:Os):World:=
 { World.holding Tryz.prog os ⟨#[],#[],[]⟩ with heap:=Rows.kendoStuckRow.laid.foldl aDZ (World.holding Tryz.prog os ⟨#[],#[],[]⟩).heap }
theorem Du {ro:Nat->Prop} {h:Array Obj} {i:Nat} {d:D} {v:Value} (r:Rd ro h (.sl i) d v):DK ro h (.sl i) (enc d) v:=by show Rd ro h (.sl i) (dec (enc d)) v;rw [aF];exact r
theorem axA {ro:Nat->Prop} {h:Array Obj} {u:Value} (a:aBz [.one .bool] [1] ro h u):u= .bool true:=by
 obtain⟨us,fl,hs,hc,hu⟩:=a
 cases hs with
 |one c v hs=> cases hs;simp only [vF,RK.flat,aJ1,aJv,aJo] at hc;obtain⟨n,ns',u',us',h1,h2,h3,h4⟩:=hc;simp only [List.cons.injEq] at h1 h2;obtain⟨rfl,_⟩:=h1;obtain⟨rfl,_⟩:=h2;rw [hu];exact h3
theorem awR {g j:Nat} {e:IY} (hn:j∈S.nums g) (he:S.ents j=some e) (hp:e.pat=none) (hr:e.pX= [.one .bool]) {xs:List Int} (hL:L j xs=some [1]) {W:World} (hsh:W.ShapedOpen Tryz.prog) {vals fl:List Value} (h1:Shape e.QM vals fl) (h2:jY (roW W) W.heap (vF e.QM) xs fl) :
 Calls Tryz.prog g vals.toArray W fun en W'=>en= .returned (.bool true)/\Below W.heap.size W W':=by
 obtain⟨n,hrun⟩:=V5 hL;refine (aoX aDD hn he hp n xs [1] hrun (roW W) W vals fl (fun _ h=>h) (aAq hsh) h1 h2).mono fun en W' ⟨u,hu,hb,ro',_,_,_,ha⟩=>?_;rw [hr] at ha;rw [axA ha] at hu;exact⟨hu,hb⟩
end Go.As.Try
end
section
namespace Go.As
def prune (Y N:List SB):T Lf->T Lf
 | .fail=> .fail
 | .ret l=> .ret l
 | .split c x y=>match Y.contains c with
   |true=>prune Y N x
   |false=>match N.contains c with
    |true=>prune Y N y
    |false=> .split c (prune Y N x) (prune Y N y)
def zY (ρ:Nat->Int):List SB->Prop
 |[]=>True
 |c::l=>c.den ρ=true/\zY ρ l
def zW (ρ:Nat->Int):List SB->Prop
 |[]=>True
 |c::l=> ¬c.den ρ=true/\zW ρ l
theorem amG {ρ:Nat->Int}: ∀{l:List SB},zY ρ l->∀c∈l,c.den ρ=true
 |[],_,c,h=>by simp at h
 |a::l,hz,c,h=>by
  rcases aJq.1 h with rfl|h
  ·exact hz.1
  ·exact amG hz.2 c h
theorem amJ {ρ:Nat->Int}: ∀{l:List SB},zW ρ l->∀c∈l,c.den ρ=false
 |[],_,c,h=>by simp at h
 |a::l,hz,c,h=>by
  rcases aJq.1 h with rfl|h
  ·simpa using hz.1
  ·exact amJ hz.2 c h
theorem amH {ρ:Nat->Int}: ∀{a b:List SB},zY ρ a->zY ρ b->zY ρ (a++b)
 |[],_,_,h=>h
 |_::_,_,h,h'=> ⟨h.1,amH h.2 h'⟩
theorem amK {ρ:Nat->Int}: ∀{a b:List SB},zW ρ a->zW ρ b->zW ρ (a++b)
 |[],_,_,h=>h
 |_::_,_,h,h'=> ⟨h.1,amK h.2 h'⟩
theorem dK {ρ:Nat->Int} {Y N:List SB} (h:zY ρ Y/\zW ρ N): ∀t,dX ρ (prune Y N t)=dX ρ t
 | .fail=>rfl
 | .ret l=>rfl
 | .split c x y=>by
   simp only [prune,dX];split
   ·rename_i h';rw [amG h.1 c (aLZ.1 h'),aJe rfl];exact dK h x
   ·split
    ·rename_i h';rw [amJ h.2 c (aLZ.1 h'),aJd (by simp)];exact dK h y
    ·simp only [dX,dK h x,dK h y]
theorem bD {ρ:Nat->Int} (Y N:List SB) {t:T Lf} {R:RS} (u:T Lf) (h:zY ρ Y/\zW ρ N) (k:prune Y N t=u) (h':dX ρ u=R):dX ρ t=R:=by rw [<- dK h t,k,h']
theorem zz :
 (∀{ρ:Nat->Int} (c:SB) (a b:T Lf),dX ρ (sp c a b)=if c.den ρ=true then dX ρ a else dX ρ b)/\
 (∀{ρ:Nat->Int} (l:List SE),dX ρ (ou l)= .out (l.map (SE.den ρ)))/\
 (∀{ρ:Nat->Int} (j:Nat) (l:List SE),dX ρ (ju j l)= .jump j (l.map (SE.den ρ)))/\
 (∀{ρ:Nat->Int},dX ρ fl= .no)/\
 (∀{ρ:Nat->Int} (a b:SE),((SB.lt a b).den ρ=true)=(a.den ρ<b.den ρ))/\
 (∀{ρ:Nat->Int} (a b:SE),((SB.eq a b).den ρ=true)=(a.den ρ=b.den ρ))/\
 (∀(F:uT) (lo:Nat->Int),(SE.aP 0).den (bQ F lo)=lo 0)/\
 (∀(F:uT) (lo:Nat->Int),(SE.aP 1).den (bQ F lo)=lo 1)/\
 (∀(F:uT) (lo:Nat->Int),(SE.aP 2).den (bQ F lo)=lo 2)/\
 (∀(F:uT) (lo:Nat->Int),(SE.aP 3).den (bQ F lo)=lo 3)/\
 (∀(F:uT) (lo:Nat->Int),(SE.aP 4).den (bQ F lo)=lo 4)/\
 (∀(F:uT) (lo:Nat->Int),(SE.aP 5).den (bQ F lo)=lo 5)/\
 (∀(F:uT) (lo:Nat->Int),(SE.aP 6).den (bQ F lo)=lo 6)/\
 (∀(F:uT) (lo:Nat->Int),(SE.aP 7).den (bQ F lo)=lo 7)/\
 (∀(F:uT) (lo:Nat->Int),(SE.aP 8).den (bQ F lo)=lo 8)/\
 (∀(F:uT) (lo:Nat->Int),(SE.aP 9).den (bQ F lo)=lo 9)/\
 (∀(F:uT) (lo:Nat->Int),(SE.aP 10).den (bQ F lo)=lo 10)/\
 (∀(F:uT) (lo:Nat->Int),(SE.aP 11).den (bQ F lo)=lo 11)/\
 (∀(F:uT) (lo:Nat->Int),(SE.aP 12).den (bQ F lo)=lo 12)/\
 (∀(F:uT) (lo:Nat->Int),(SE.aP 13).den (bQ F lo)=lo 13)/\
 (∀(F:uT) (lo:Nat->Int),(SE.aP 14).den (bQ F lo)=lo 14)/\
 (∀(F:uT) (lo:Nat->Int),(SE.aP 15).den (bQ F lo)=lo 15)/\
 (∀(F:uT) (lo:Nat->Int),(SE.aP 16).den (bQ F lo)=lo 16)/\
 (∀(F:uT) (lo:Nat->Int),(SE.aP 17).den (bQ F lo)=lo 17)/\
 (∀(F:uT) (lo:Nat->Int),(SE.aP 18).den (bQ F lo)=lo 18)/\
 (∀(F:uT) (lo:Nat->Int),(SE.aP 19).den (bQ F lo)=lo 19)/\
 (∀(F:uT) (lo:Nat->Int),(SE.aP 20).den (bQ F lo)=lo 20)/\
 (∀(F:uT) (lo:Nat->Int),(SE.aP 21).den (bQ F lo)=lo 21)/\
 (∀(F:uT) (lo:Nat->Int),(SE.aP 22).den (bQ F lo)=lo 22)/\
 (∀(F:uT) (lo:Nat->Int),(SE.aP 23).den (bQ F lo)=lo 23)/\
 (∀(F:uT) (lo:Nat->Int),(SE.aP 24).den (bQ F lo)=lo 24)/\
 (∀(F:uT) (lo:Nat->Int),(SE.aP 25).den (bQ F lo)=lo 25)/\
 (∀{ρ:Nat->Int} (n:Int),(SE.lit n).den ρ=n)/\
 (∀{ρ:Nat->Int} (d:D),(SE.dat d).den ρ=enc d)/\
 (∀{ρ:Nat->Int} (a:SE),(ln a).den ρ=((dec (a.den ρ)).l.length:Int))/\
 (∀{ρ:Nat->Int} (a:SE),(nm a).den ρ=(dec (a.den ρ)).n)/\
 (∀{ρ:Nat->Int} (j:Nat) (a:SE),(ce j a).den ρ=enc ((dec (a.den ρ)).hd j))/\
 (∀{ρ:Nat->Int} (a b:SE),(el a b).den ρ=enc ((dec (a.den ρ)).at (b.den ρ)))/\
 (∀{ρ:Nat->Int} (a b:SE),(cn a b).den ρ=enc (.p (dec (a.den ρ)) (dec (b.den ρ))))/\
 (∀{ρ:Nat->Int} (a:SE),(mk a).den ρ=enc (.i (a.den ρ)))/\
 (∀{ρ:Nat->Int} (a:SE),(wr a).den ρ=IntKind.i64.wrap (a.den ρ))/\
 (∀{ρ:Nat->Int} (a b:SE),(SE.add a b).den ρ=a.den ρ+b.den ρ)/\
 (∀{ρ:Nat->Int} (a b:SE),(SE.sub a b).den ρ=a.den ρ-b.den ρ)/\
 (∀{ρ:Nat->Int} (o:iY) (a b:SE),(SE.op o a b).den ρ=o.den (a.den ρ) (b.den ρ))/\
 (∀{F:uT} {lo:Nat->Int} (j:Nat) (l:List SE),(a0 j l).den (bQ F lo)=if (F j (l.map (SE.den (bQ F lo)))).isSome=true then 1 else 0)/\
 (∀{F:uT} {lo:Nat->Int} (j:Nat) (l:List SE) (i:Nat),(rr j l i).den (bQ F lo)=low ((F j (l.map (SE.den (bQ F lo)))).getD []) i)/\
 (∀{x:Int} {xs:List Int},low (x::xs) 0=x)/\
 (∀{x:Int} {xs:List Int} {i:Nat},low (x::xs) (i+1)=low xs i)/\
 (∀{f:SE->Int},List.map f []= [])/\
 (∀{f:SE->Int} {a:SE} {l:List SE},List.map f (a::l)=f a::List.map f l)/\
 (∀d:D,dec (enc d)=d)/\
 (∀n:Int,(D.i n).n=n)/\
 (∀{α:Type} (a:α),(some a).isSome=true)/\
 (∀{α:Type} (a b:α),(some a).getD b=a)/\
 (∀{α:Type} {_:Decidable True} (a b:α),ite True a b=a)/\
 (∀{α:Type} {_:Decidable False} (a b:α),ite False a b=b)/\
 (∀{ρ:Nat->Int},zY ρ []=True)/\
 (∀{ρ:Nat->Int} (c:SB) (l:List SB),zY ρ (c::l)=(c.den ρ=true/\zY ρ l))/\
 (∀{ρ:Nat->Int},zW ρ []=True)/\
 (∀{ρ:Nat->Int} (c:SB) (l:List SB),zW ρ (c::l)=(¬c.den ρ=true/\zW ρ l))/\
 (∀x y:Int,iY.den .len x y=((dec x).l.length:Int))/\
 (∀x y:Int,iY.den .at x y=enc ((dec x).at y))/\
 (∀(x y:Int) (j:Nat),iY.den (.cell j) x y=enc ((dec x).hd j))/\
 (∀x y:Int,iY.den .num x y=(dec x).n)/\
 (∀x y:Int,iY.den .mk x y=enc (.i x))/\
 (∀x y:Int,iY.den .cons x y=enc (.p (dec x) (dec y)))/\
 (∀x y:Int,iY.den .snoc x y=enc (dL ((dec x).l++ [dec y])))/\
 (∀x y:Int,iY.den .cat x y=enc (dL ((dec x).l++(dec y).l)))/\
 (∀x y:Int,iY.den .take x y=enc (fJ (dec x) ((dec x).l.take y.toNat)))/\
 (∀x y:Int,iY.den .drop x y=enc (fJ (dec x) ((dec x).l.drop y.toNat)))/\
 (∀(x:Int) (q v:D),iY.den .set x (enc (.p q v))=enc (dL (dY (dec x).l q.n v)))/\
 (∀x y:Int,iY.den .bit x y=enc (.i (if (dec x).n=0 then 0 else 1)))/\
 (∀x y:Int,iY.den .norm x y=enc (dec x))/\
 (∀x y:Int,iY.den .Le x y=if (pG (dec x).l (dec y)).isSome then 1 else 0)/\
 (∀x y:Int,iY.den .Lh x y=enc ((pG (dec x).l (dec y)).getD (.i 0)))/\
 (∀(x:Int) (k v:D),iY.den .EH x (enc (.p k v))=enc (dL (CX (dec x).l k v)))/\
 (∀x y:Int,iY.den .rep x y=enc (dL (List.replicate x.toNat (dec y))))/\
 (∀(x:Int) (q v:D),iY.den .fill x (enc (.p q v))=enc (dL ((dec x).l.take q.n.toNat++List.replicate ((dec x).l.length-q.n.toNat) v)))/\
 (∀x y:Int,iY.den .sub x y=enc (dL (((dec x).l.take ((dec y).hd 1).n.toNat).drop ((dec y).hd 0).n.toNat)))/\
 (∀x y:Int,iY.den .idx x y=P7 (dec x).l y)/\
 (∀x y:Int,iY.den .cnt x y=awJ (dec x).l y)/\
 (∀x y:Int,iY.den .con x y=if alR (dec x).l (dec y).l then 1 else 0)/\
 (∀x y:Int,iY.den .slt x y=if Zh (dec x).l (dec y).l then 1 else 0)/\
 (∀x y:Int,iY.den .abM x y=enc (dL (VY (dec x).l (dec y))))/\
 (∀p:Prop,(p/\True)=p)/\(∀p:Prop,(True/\p)=p)/\(¬False)=True:=
 ⟨dP,kR,pR,Ag,oZ,jD,fun _ _=>aY (by decide),fun _ _=>aY (by decide),fun _ _=>aY (by decide),fun _ _=>aY (by decide),fun _ _=>aY (by decide),fun _ _=>aY (by decide),fun _ _=>aY (by decide),fun _ _=>aY (by decide),fun _ _=>aY (by decide),fun _ _=>aY (by decide),fun _ _=>aY (by decide),fun _ _=>aY (by decide),fun _ _=>aY (by decide),fun _ _=>aY (by decide),fun _ _=>aY (by decide),fun _ _=>aY (by decide),fun _ _=>aY (by decide),fun _ _=>aY (by decide),fun _ _=>aY (by decide),fun _ _=>aY (by decide),fun _ _=>aY (by decide),fun _ _=>aY (by decide),fun _ _=>aY (by decide),fun _ _=>aY (by decide),fun _ _=>aY (by decide),fun _ _=>aY (by decide),bT,jG,iK,JG,avY,JH,PW,PV,Dp,den_add,aBk,PU,iW,iE,aQ _,aT _ _,rfl,rfl,aF,n_i,fun _=>rfl,fun _ _=>rfl,fun _ _=>aJe trivial,fun _ _=>aJd id,rfl,fun _ _=>rfl,rfl,fun _ _=>rfl,fun _ _=>rfl,fun _ _=>rfl,fun _ _ _=>rfl,fun _ _=>rfl,fun _ _=>rfl,fun _ _=>rfl,fun _ _=>rfl,fun _ _=>rfl,fun _ _=>rfl,fun _ _=>rfl,fun _ _ _=>by show (match dec (enc _) with | .p q v=>_|_=>_)=_; rw [aF],fun _ _=>rfl,fun _ _=>rfl,fun _ _=>rfl,fun _ _=>rfl,fun _ _ _=>by show (match dec (enc _) with | .p q v=>_|_=>_)=_; rw [aF],fun _ _=>rfl,fun _ _ _=>by show (match dec (enc _) with | .p q v=>_|_=>_)=_; rw [aF],fun _ _=>rfl,fun _ _=>rfl,fun _ _=>rfl,fun _ _=>rfl,fun _ _=>rfl,fun _ _=>rfl,and_true,true_and,not_false_eq_true⟩
theorem zg:(∀(l:List D) (j:Nat),(dL l).hd j=(l[j]?).getD (.i 0))/\(∀(a:D) (l:List D),(a::l)[0]?=some a)/\(∀(a:D) (l:List D) (i:Nat),(a::l)[i+1]?=l[i]?):=⟨eP,fun _ _=>rfl,fun _ _ _=>rfl⟩
end Go.As
end
section
namespace Go.As.Try
open Go hiding Stat Spec shape
open Go.As
set_option maxRecDepth 100000
def Ends (p:List Int->Prop) (R:RS):Prop:= ∃ys,fin L R=some ys/\p ys
def Tot (j:Nat) (xs:List Int) (p:List Int->Prop):Prop:= ∃ys,L j xs=some ys/\p ys
theorem Tot.of {j:Nat} {xs:List Int} {p:List Int->Prop} (h:Ends p (dX (bQ L (low xs)) (S.tree j))):Tot j xs p:=by obtain⟨ys,h1,h2⟩:=h;exact⟨ys,by rw [aN]; exact h1,h2⟩
theorem Ends.ite {p:List Int->Prop} {c:Prop} [Decidable c] {a b:RS} (h1:c->Ends p a) (h2: ¬c->Ends p b):Ends p (if c then a else b):=by
 by_cases h:c
 ·rw [aJe h]; exact h1 h
 ·rw [aJd h]; exact h2 h
theorem Ends.out {p:List Int->Prop} {ys:List Int} (h:p ys):Ends p (.out ys):=⟨ys,rfl,h⟩
theorem Ends.jump {p:List Int->Prop} {j:Nat} {xs:List Int} (h:Tot j xs p):Ends p (.jump j xs):=h
def FW (ys:List Int):Prop:= ∃c:Int,ys= [c]/\(c=0\/c=1)
def is3 (ys:List Int):Prop:= ∃a b c:Int,ys= [a,b,c]/\(c=0\/c=1)
theorem Az:FW [0]:=⟨0,rfl,.inl rfl⟩
theorem Aw:FW [1]:=⟨1,rfl,.inr rfl⟩
theorem YA {a b:Int}:is3 [a,b,0]:=⟨a,b,0,rfl,.inl rfl⟩
theorem aCg {a b:Int}:is3 [a,b,1]:=⟨a,b,1,rfl,.inr rfl⟩
def kG (x:D):D:=dL [.i (-1),.i (if (x.hd 0).n=3\/(x.hd 0).n=9 then (x.hd 2).n else 0),.i 0,.i 0,.i 1,.i 1]
theorem QK (d0:D) (hlen:d0.l.length<=64): ∀(k i:Nat) (acc:List D),i+k=d0.l.length->acc.length=i->
 L 302 [enc (dL acc),enc d0,(d0.l.length:Int),(i:Int)]=some [enc (dL (acc++(d0.l.drop i).map kG))]
 |0,i,acc,h1,h2=>by rw [aN,e302];simp only [ayO,dP,kR,oZ,aY,aQ,aT,Nat.reduceLT,fin,List.map];rw [aJd (by omega)];simp only [fin,aY,aQ,Nat.reduceLT];rw [aJ7 (by omega)];simp
 |k+1,i,acc,h1,h2=>by
  have hi:i<d0.l.length:=by omega
  have hd:d0.l.drop i=d0.l[i]::d0.l.drop (i+1):=aJN hi;have ih:=fun x=>QK d0 hlen k (i+1) (acc++ [x]) (by omega) (by simp [h2]);rw [aN,e302,hd];simp only [ayO,dP,kR,pR,Ag,oZ,jD,aY,iK,bT,JG,avY,JH,PU,PW,PV,jG,Dp,den_add,aQ,aT,Nat.reduceLT,List.map,aF,aW,aX hi];have w:=aZ (n:=i) (by omega);have c1:(i:Int)<(d0.l.length:Int):=by omega
  have c2: ¬((i:Int)<0):=by omega
  have c3:(acc.length:Int)<1759218604440:=by omega
  simp only [c1,c2,c3,w,if_true,if_false,fin,iY.den,aF,aW];by_cases h3:(d0.l[i].hd 0).n=3
  ·simp only [h3,if_true,fin];have:=ih (kG d0.l[i]);simp only [kG,h3,true_or,if_true,dL] at this ⊢;rw [this];simp
  ·by_cases h9:(d0.l[i].hd 0).n=9
   ·simp only [aJd h3,aJe h9,fin];have:=ih (kG d0.l[i]);simp only [kG,aJe (Or.inr h9:(d0.l[i].hd 0).n=3\/(d0.l[i].hd 0).n=9),dL] at this ⊢;rw [this];simp
   ·simp only [aJd h3,aJd h9,fin];have:=ih (kG d0.l[i]);simp only [kG,h3,h9,or_self,if_false,dL] at this ⊢;rw [this];simp
def Bs (d:D):Prop:=d=dL d.l/\∀(i:Nat) (h:i<d.l.length),0<=(d.l[i]).n/\(d.l[i]).n<256
theorem aFy (s:ByteArray):Bs (Bo s):=by unfold Bo wQ;refine⟨by rw [aW],fun i h=>?_⟩;simp only [aW,aJZ,List.getElem_map,D.n] at h ⊢;have:=(s.data.toList[i]).toNat_lt;omega
theorem Ku (d:D) (hb:Bs d) (hlen:d.l.length<=1000000): ∀(k i:Nat) (n:Int),i+k=d.l.length->∃a b,L 1102 [n,enc d,(d.l.length:Int),(i:Int)]=some [a,b]
 |0,i,n,h1=>by rw [aN,avV];simp only [afS,dP,kR,oZ,aY,aQ,aT,Nat.reduceLT,List.map,bT];rw [aJd (by omega)];exact⟨_,_,rfl⟩
 |k+1,i,n,h1=>by
  have hi:i<d.l.length:=by omega
  have ih:=fun x=>Ku d hb hlen k (i+1) x (by omega);rw [aN,avV];have w:=aZ (n:=i) (by omega);have c1:(i:Int)<(d.l.length:Int):=by omega
  have c2: ¬((i:Int)<0):=by omega
  simp only [afS,dP,kR,pR,Ag,oZ,aY,aQ,aT,Nat.reduceLT,List.map,bT,iK,aF,c1,c2,if_true,if_false,Dp,den_add,w];split
  ·exact⟨_,_,rfl⟩
  ·exact ih _
theorem abJ (d:D) (hb:Bs d) (hlen:d.l.length<=1000000): ∃a b,L 1100 [enc d]=some [a,b]:=by
 rw [aN,aC5];simp only [aoV,dP,pR,jD,aY,aQ,aT,Nat.reduceLT,List.map,bT,iK,aF];split
 ·show ∃a b,L 1101 []=some [a,b];rw [aN,aC4];exact⟨_,_,rfl⟩
 ·exact Ku d hb hlen d.l.length 0 _ (by omega)
theorem UD (z:Int): ∀(l:List D) (i:Nat),xU z l (i:Int)= -1\/((i:Int)<=xU z l i/\xU z l i<(i:Int)+l.length)
 |[],i=> .inl rfl
 |d::l,i=>by
  have ih:=UD z l (i+1);have hc:((i+1:Nat):Int)=(i:Int)+1:=by omega
  rw [hc] at ih;have hl:((d::l).length:Int)=(l.length:Int)+1:=by simp
  cases d with
  |i n=>
   simp only [xU];split
   ·right; omega
   ·rcases ih with h|⟨h1,h2⟩
    ·left; exact h
    ·right; omega
  |p a b=>
   simp only [xU];rcases ih with h|⟨h1,h2⟩
   ·left; exact h
   ·right; omega
theorem awI {z:Int} {d:D} {l:List D} (h:d≠.i z) (h0: ¬P7 (d::l) z<0):1<=P7 (d::l) z/\P7 (d::l) z<(l.length:Int)+1:=by
 have h1:=UD z l 1
 have key:P7 (d::l) z=xU z l ((1:Nat):Int):=by
  unfold P7
  cases d with
  |i n=> simp only [xU];rw [aJd (by intro q; exact h (by rw [q]))];rfl
  |p a b=>rfl
 rw [key] at h0 ⊢;omega
theorem aHS:(b0.at 10).n=1:=by show (b0.at ((10:Nat):Int)).n=1;kernel_rfl
theorem Dx (d:D) (hb:Bs d) (hlen:d.l.length<=1000000) (x1:Int): ∀(k i:Nat),d.l.length-i<=k->i<=d.l.length->∃p:Nat,p<=d.l.length/\L 12801 [enc d,x1,(i:Int)]=some [0,enc d,x1,(p:Int)]
 |k,i,h1,h2=>by
  rw [aN,avD];have c2: ¬((i:Int)<0):=by omega
  by_cases hi:i<d.l.length
  ·have c1:(i:Int)<(d.l.length:Int):=by omega
   have w:=aZ (n:=i) (by omega);obtain⟨b1,b2⟩:=hb.2 i hi;have b1: ¬(d.l[i]).n<0:=by omega
   obtain⟨k,rfl⟩ : ∃k',k=k'+1:=⟨k-1,by omega⟩;have hdr:(d.l.take d.l.length).drop i=d.l[i]::d.l.drop (i+1):=by rw [aKV,aJN hi]
   simp only [Vl,dP,kR,pR,Ag,oZ,jD,aY,aQ,aT,Nat.reduceLT,List.map,bT,jG,iK,aF,c1,c2,if_true,if_false,Dp,den_add,w,JG,JH,aX hi,b1,b2];by_cases q1:(b0.at (d.l[i]).n).n=1
   ·simp only [q1,if_true];exact Dx d hb hlen x1 k (i+1) (by omega) (by omega)
   ·by_cases q2:(b0.at (d.l[i]).n).n=2
    ·simp only [aJd q1,aJe q2]
     have hne:d.l[i]≠.i 10:=by intro h;rw [h] at q1;exact q1 aHS
     simp only [aJs,if_false,PU,iY.den,PW,PV,jG,iK,aY,bT,aQ,aT,Nat.reduceLT,aF,D.hd,l_p,wX,n_i,aJn,aJk,aJl,aJJ,aW,hdr];split
     ·exact⟨d.l.length,aJi _,by simp [fin]⟩
     ·rename_i h0;obtain⟨g1,g2⟩:=awI hne h0;rw [aJQ] at g2;obtain⟨m,hm⟩ : ∃m:Nat,P7 (d.l[i]::d.l.drop (i+1)) 10=(m:Int):=⟨(P7 (d.l[i]::d.l.drop (i+1)) 10).toNat,by omega⟩;have w2:IntKind.i64.wrap ((i:Int)+(m:Int))=((i+m:Nat):Int):=by rw [mY (by omega) (by omega)]; omega
      simp only [hm,w2,fin];exact Dx d hb hlen x1 k (i+m) (by omega) (by omega)
    ·simp only [aJd q1,aJd q2];exact⟨i,by omega,rfl⟩
  ·have c1: ¬(i:Int)<(d.l.length:Int):=by omega
   simp only [Vl,dP,kR,oZ,aY,aQ,aT,Nat.reduceLT,List.map,bT,iK,aF,c1,if_false];exact⟨i,by omega,rfl⟩
theorem adS (d:D) (hb:Bs d) (hlen:d.l.length<=1000000) (i:Nat) (hi:i<=d.l.length): ∃p:Nat,p<=d.l.length/\L 12800 [enc d,(i:Int)]=some [0,enc d,(i:Int),(p:Int)]:=by rw [aN,avE];simp only [aaE,pR,aY,aQ,aT,Nat.reduceLT,List.map];exact Dx d hb hlen _ _ i (aJi _) hi
theorem Ux (d:D) (hb:Bs d) (hlen:d.l.length<=1000000) (x1 x2:Int): ∀(k i:Nat),d.l.length-i<=k->i<=d.l.length->∃p:Nat,i<=p/\p<=d.l.length/\L 12851 [enc d,x1,x2,(i:Int)]=some [0,enc d,x1,(p:Int)]
 |k,i,h1,h2=>by
  rw [aN,avA];have c2: ¬((i:Int)<0):=by omega
  by_cases hi:i<d.l.length
  ·have c1:(i:Int)<(d.l.length:Int):=by omega
   have w:=aZ (n:=i) (by omega);obtain⟨b1,b2⟩:=hb.2 i hi;have b1: ¬(d.l[i]).n<0:=by omega
   obtain⟨k,rfl⟩ : ∃k',k=k'+1:=⟨k-1,by omega⟩
   have ih: ∃p:Nat,i<=p/\p<=d.l.length/\L 12851 [enc d,x1,x2,((i+1:Nat):Int)]=some [0,enc d,x1,(p:Int)]:=by obtain⟨p,q1,q2,q3⟩:=Ux d hb hlen x1 x2 k (i+1) (by omega) (by omega);exact⟨p,by omega,q2,q3⟩
   simp only [Vk,dP,kR,pR,Ag,oZ,jD,aY,aQ,aT,Nat.reduceLT,List.map,bT,jG,iK,aF,c1,c2,if_true,if_false,Dp,den_add,w,JG,JH,aX hi,b1,b2];split
   ·exact ih
   ·split
    ·split
     ·exact ih
     ·exact⟨i,by omega,by omega,rfl⟩
    ·exact⟨i,by omega,by omega,rfl⟩
  ·have c1: ¬(i:Int)<(d.l.length:Int):=by omega
   simp only [Vk,dP,kR,oZ,aY,aQ,aT,Nat.reduceLT,List.map,bT,iK,aF,c1,if_false];exact⟨i,by omega,by omega,rfl⟩
theorem agO {l:List D} {a b:D} (h:enc (dL l)=enc (.p a (.p b (.i 0)))):l.length=2:=by have:=congrArg (fun d=>d.l.length) (jB h);simpa [D.l] using this
theorem asR (d:D) (hb:Bs d) (hlen:d.l.length<=1000000) (i:Nat) (hi:i<d.l.length): ∃p:Nat,i<p/\p<=d.l.length/\L 12850 [enc d,(i:Int)]=some [0,enc d,(i:Int),(p:Int)]:=by
 have c2: ¬((i:Int)<0):=by omega
 have c1:(i:Int)<(d.l.length:Int):=by omega
 have w:=aZ (n:=i) (by omega);have w1:=aZ (n:=i+1) (by omega);have w2:IntKind.i64.wrap ((i:Int)+2)=((i+2:Nat):Int):=by rw [mY (by omega) (by omega)]; omega
 obtain⟨b1,b2⟩:=hb.2 i hi;have b1: ¬(d.l[i]).n<0:=by omega
 have c3: ¬(((i+2:Nat):Int)<(i:Int)):=by omega
 rw [aN,avC];simp only [aaD,dP,kR,pR,Ag,oZ,jD,aY,aQ,aT,Nat.reduceLT,List.map,bT,iK,aF,c1,c2,c3,if_true,if_false,Dp,den_add,w,w1,w2,JG,JH,aX hi,b1,b2,aJs,PU,iY.den,PW,PV,jG,D.hd,l_p,wX,n_i,aJn,aJk,aJl,aJJ];split
 ·split
  ·rename_i h5;split
   ·rename_i h6;have:=agO h6;simp only [aJQ,aJB] at this;omega
   ·split
    ·rename_i h6;have:=agO h6;simp only [aJQ,aJB] at this;omega
    ·exact⟨i+1,by omega,by omega,rfl⟩
  ·rename_i h5;split
   ·exact⟨i+1+1,by omega,by omega,rfl⟩
   ·split
    ·exact⟨i+1+1,by omega,by omega,rfl⟩
    ·exact⟨i+1,by omega,by omega,rfl⟩
 ·obtain⟨p,q1,q2,q3⟩:=Ux d hb hlen (i:Int) ((b0.at (d.l[i]).n).n) _ (i+1) (aJi _) (by omega);exact⟨p,by omega,q2,q3⟩
theorem aBo {d:D} (hb:Bs d) (a b:Nat):Bs (dL ((d.l.take b).drop a)):=by
 refine⟨by rw [aW],fun i h=>?_⟩;simp only [aW] at h ⊢
 have hl:i<d.l.length-a:=by simp only [aJQ,aJB] at h;omega
 have:((d.l.take b).drop a)[i]=d.l[a+i]:=by simp
 rw [this];exact hb.2 _ _
theorem aqO (d:D) (hb:Bs d): ∃k s n ln a e er el',L 1050 [enc d,0]=some [k,s,n,ln,a,e,er,el']:=by
 rw [aN,aC6];by_cases hg:(16384:Int)<(d.l.length:Int)
 ·simp only [XV,dP,kR,oZ,aY,aQ,aT,Nat.reduceLT,List.map,bT,iK,aF,hg,if_true];exact⟨_,_,_,_,_,_,_,_,rfl⟩
 ·obtain⟨p,hp,hB⟩:=adS d hb (by omega) 0 (by omega);have hB':L 12800 [enc d,0]=some [0,enc d,0,(p:Int)]:=hB;have c0: ¬((0:Int)<0):=by omega
  have c1: ¬((d.l.length:Int)<0):=by omega
  have c2: ¬((p:Int)<0):=by omega
  have c3: ¬((d.l.length:Int)<(p:Int)):=by omega
  by_cases he:(p:Int)=(d.l.length:Int)
  ·simp only [XV,dP,kR,Ag,oZ,jD,aY,aQ,aT,Nat.reduceLT,List.map,bT,iK,aF,hg,if_false,c0,c1,iW,iE,hB',aJI,if_true,aJl,c2,c3,he,aJs,fin];exact⟨_,_,_,_,_,_,_,_,rfl⟩
  ·obtain⟨e,h1,h2,hE⟩:=asR d hb (by omega) p (by omega);have c4: ¬((e:Int)<(p:Int)):=by omega
   have c5: ¬((d.l.length:Int)<(e:Int)):=by omega
   have hpart:=aBo hb p e;have hpl:((d.l.take e).drop p).length=e-p:=by simp only [aJQ,aJB]; omega
   have hp0:0<((d.l.take e).drop p).length:=by omega
   obtain⟨na,nb,hN⟩:=abJ _ hpart (by rw [aW]; omega);obtain⟨b1,b2⟩:=hpart.2 0 (by rw [aW]; exact hp0);generalize hq:(d.l.take e).drop p=q at *;simp only [aW] at b1 b2;have b1: ¬(q[0]).n<0:=by omega
   have hat:(dL q).at 0=q[0]:=by have:=aX (d:=dL q) (i:=0) (by rw [aW]; exact hp0);simpa using this
   have c6:(0:Int)<(q.length:Int):=by omega
   have c7:(q.length:Int)<1000000000:=by omega
   have c8:((([D.i 32]++q:List D).length:Nat):Int)<1000000000:=by simp only [aJy,aJr,aJt]; omega
   simp only [XV,dP,kR,Ag,oZ,jD,aY,aQ,aT,Nat.reduceLT,List.map,bT,iK,aF,hg,if_false,c0,c1,iW,iE,hB',hE,aJI,if_true,aJl,c2,c3,c4,c5,aJd he,PU,iY.den,PW,PV,jG,D.hd,l_p,wX,n_i,aJn,aJk,aJJ,hq,aW,c6,c7,c8,JG,JH,hat,b1,b2,hN]
   repeat' first |exact⟨_,_,_,_,_,_,_,_,rfl⟩|split
theorem oG (d:D) (hb:Bs d): ∃b,(b=0\/b=1)/\L 1000 [enc d]=some [b]:=by
 obtain⟨k,s,n,ln',a,e,er,el',h⟩:=aqO d hb;rw [aN,aC7];simp only [aoW,dP,kR,Ag,jD,aY,aQ,aT,Nat.reduceLT,List.map,bT,iW,iE,h,aJI,if_true,aJl];split
 ·split
  ·split
   ·exact⟨1,.inr rfl,rfl⟩
   ·exact⟨0,.inl rfl,rfl⟩
  ·exact⟨0,.inl rfl,rfl⟩
 ·exact⟨0,.inl rfl,rfl⟩
theorem aFM {d:D} (h:Wd .str d):Bs d:=by obtain⟨s,rfl⟩:=h.s;exact aFy s
theorem Ej {kids:D} (h:Wd (.sl 6) kids) {i:Nat} (hi:i<kids.l.length): ∃k s n ks,kids.l[i]=dL [.i k,s,.i n,ks]/\iM .u8 k/\Wd .str s/\iM .i64 n/\Wd (.sl 6) ks:=by
 obtain⟨r,h1,hl,hc⟩:=h.elN (cs:=[.int .u8,.str,.int .i64,.sl 6]) rfl _ (aJm hi)
 match r,hl with
 |[a,b,c,d],_=> obtain⟨k,rfl,hk⟩:=(hc 0 _ _ rfl rfl).i;obtain⟨n,rfl,hn⟩:=(hc 2 _ _ rfl rfl).i;exact⟨k,b,n,d,h1,hk,hc 1 _ _ rfl rfl,hn,hc 3 _ _ rfl rfl⟩
theorem ajC (d:D) (hb:Bs d): ∃b,(b=0\/b=1)/\L 12900 [enc d,0]=some [b,enc d,0]:=by
 obtain⟨b,hb1,h⟩:=oG d hb;rw [aN,auZ];simp only [aaC,zz,h];rcases hb1 with rfl|rfl
 ·exact⟨_,.inl rfl,rfl⟩
 ·exact⟨_,.inr rfl,rfl⟩
theorem SV: ∀(m deep:Nat),21-deep<=m->∀(k n left loc:Int) (s kids:D),Wd .str s->Wd (.sl 6) kids->
 Tot 5050 [k,enc s,n,enc kids,(deep:Int),left,loc] is3
 |m,deep,hm,k,n,left,loc,s,kids,hs,hk=>by
  refine Tot.of ?_;rw [aCF];simp only [aoA,zz];refine .ite (fun _=> .out YA) fun _=> .ite (fun _=> .out YA) fun hd=> .jump ?_;obtain⟨m,rfl⟩ : ∃m',m=m'+1:=⟨m-1,by omega⟩;have ih:=SV m (deep+1) (by omega);have hlen:=hk.len;have w0:=aZ (n:=deep) (by omega)
  have loop: ∀(j i:Nat) (l' c':Int),i+j=kids.l.length->Tot 5051 [(deep:Int),enc kids,(kids.l.length:Int),(i:Int),l',c',k,enc s,n] is3:=by
   intro j
   induction j with
   |zero=>
    intro i l' c' hi;have c1: ¬(i:Int)<(kids.l.length:Int):=by omega
    obtain⟨b,hb,hR⟩:=ajC s (aFM hs);refine Tot.of ?_;rw [atO];simp only [aeX,zz,c1,hR];rcases hb with rfl|rfl
    ·simp only [Int.reduceEq,if_true,if_false]
     repeat' first |exact .out YA|exact .out aCg|refine .ite (fun _=>?_) (fun _=>?_)
    ·simp only [Int.reduceEq,if_true,if_false]
     repeat' first |exact .out YA|exact .out aCg|refine .ite (fun _=>?_) (fun _=>?_)
   |succ j ih2=>
    intro i l' c' hi;have hil:i<kids.l.length:=by omega
    have c1:(i:Int)<(kids.l.length:Int):=by omega
    have c2: ¬((i:Int)<0):=by omega
    have w:=aZ (n:=i) (by omega);obtain⟨k',s',n',ks',he,_,h1,_,h2⟩:=Ej hk hil;obtain⟨ys,hR,a,b,c,rfl,hc⟩:=ih k' n' l' c' s' ks' h1 h2;refine Tot.of ?_;rw [atO];simp only [aeX,zz,c1,c2,aX hil,he,zg,w0,w,hR];exact .ite (fun _=> .out YA) fun _=> .jump (ih2 (i+1) _ _ (by omega))
  exact loop kids.l.length 0 _ _ (by omega)
theorem ajH (k n loc:Int) (s kids:D) (hs:Wd .str s) (hk:Wd (.sl 6) kids):Tot 800 [k,enc s,n,enc kids,loc] FW:=by obtain⟨ys,hR,a,b,c,rfl,hc⟩:=SV 20 1 (by omega) k n 1000 loc s kids hs hk;have hR':L 5050 [k,enc s,n,enc kids,1,1000,loc]=some [a,b,c]:=hR;refine Tot.of ?_;rw [aHv];simp only [aDy,zz,hR'];exact .ite (fun _=> .out Az) fun _=> .out Aw
def aCe (a b c:Int) (ys:List Int):Prop:= ∃i:Int,ys= [a,b,c,i]
def aD6 (a b c:Int) (ys:List Int):Prop:= ∃i:Int,ys= [a,b,c,i]/\(i=0\/i=1)
theorem Ia (kids loc:D) (nm' code:Int) (hk:Wd (.sl 6) kids): ∀(j i:Nat),i+j=kids.l.length->Tot 5401 [enc kids,(kids.l.length:Int),(i:Int),nm',enc loc,code] (aCe nm' (enc loc) code)
 |0,i,hi=>by
  have c1: ¬(i:Int)<(kids.l.length:Int):=by omega
  refine Tot.of ?_;rw [atK];simp only [aeT,zz,c1];exact .out ⟨_,rfl⟩
 |j+1,i,hi=>by
  have hlen:=hk.len;have hil:i<kids.l.length:=by omega
  have c1:(i:Int)<(kids.l.length:Int):=by omega
  have c2: ¬((i:Int)<0):=by omega
  have w:=aZ (n:=i) (by omega);obtain⟨k',s',n',ks',he,_,h1,_,h2⟩:=Ej hk hil;obtain⟨ys,hR,b,rfl,hb⟩:=ajH k' n' (loc.l.length:Int) s' ks' h1 h2;refine Tot.of ?_;rw [atK];simp only [aeT,zz,c1,c2,aX hil,he,zg,w,hR];exact .ite (fun _=> .out ⟨_,rfl⟩) fun _=> .jump (Ia kids loc nm' code hk j (i+1) (by omega))
theorem alD (kids loc:D) (nm' code:Int) (hk:Wd (.sl 6) kids):Tot 5000 [enc kids,nm',enc loc,code] (aD6 nm' (enc loc) code):=by
 have h0:Tot 5400 [enc kids,nm',enc loc,code] (aCe nm' (enc loc) code):=by refine Tot.of ?_;rw [aCv];simp only [anT,zz];exact .jump (Ia kids loc nm' code hk kids.l.length 0 (by omega))
 obtain⟨ys,hR,i,rfl⟩:=h0;refine Tot.of ?_;rw [aCG];simp only [aoB,zz,hR];exact .ite (fun _=> .out ⟨_,rfl,.inl rfl⟩) fun _=> .out ⟨_,rfl,.inr rfl⟩
theorem VO (o:Int):Tot 1200 [o] (fun ys=> ∃k,ys= [k]):=by
 refine Tot.of ?_;rw [aC2];simp only [aoT,zz]
 repeat' first |exact .out ⟨_,rfl⟩|refine .ite (fun _=>?_) (fun _=>?_)
theorem uP (o:Int):Tot 1250 [o] FW:=by
 refine Tot.of ?_;rw [aC1];simp only [aoS,zz]
 repeat' first |exact .out Az|exact .out Aw|refine .ite (fun _=>?_) (fun _=>?_)
theorem uG (o:Int):Tot 1300 [o] FW:=by
 refine Tot.of ?_;rw [aC0];simp only [aoR,zz]
 repeat' first |exact .out Az|exact .out Aw|refine .ite (fun _=>?_) (fun _=>?_)
theorem Zk (o:Int):Tot 1350 [o] FW:=by
 refine Tot.of ?_;rw [aCZ];simp only [aoQ,zz]
 repeat' first |exact .out Az|exact .out Aw|refine .ite (fun _=>?_) (fun _=>?_)
def E1:D:=.p (.i 1) (.p (.i 0) (.p (.i 0) (.p (.i 1) (.i 0))))
theorem EL:Bs (.i 0):=⟨rfl,fun i h=>by simp [D.l] at h⟩
theorem EK {b:Int} (h1:0<=b) (h2:b<256):Bs (.p (.i b) (.i 0)):=⟨rfl,fun i h=>by
 simp only [D.l,aJr,aJt] at h;obtain rfl:i=0:=by omega
 exact⟨h1,h2⟩⟩
theorem iQ (k n x5:Int) (s s':D) (hs:Bs s) (hs':Bs s'):Tot 1400 [k,enc s,n,enc s',x5] FW:=by
 obtain⟨b,hb,hR⟩:=oG s hs;obtain⟨b',hb',hR'⟩:=oG s' hs';obtain⟨ys,hC,c,rfl,hc⟩:=Zk k;refine Tot.of ?_;rw [aCY];simp only [aoP,zz,hR,hR',hC]
 repeat' first |exact .out Az|exact .out Aw|refine .ite (fun _=>?_) (fun _=>?_)
theorem aBs:L 1150 [1,enc (.i 0),0,enc (.i 1)]=some [1]:=by rw [aN,aC3];simp only [aoU,zz,wX,aJt,Int.reduceLT,Int.reduceEq];rfl
theorem alE (a b:Int):L 5450 [enc (.i 1),a,b]=some [b]:=by rw [aN,aCu];simp only [anS,zz,wX,aJt,fin];rw [aN,aCt];simp only [anR,zz];rfl
theorem Ei:L 5250 [enc (dL [E1]),2,1]=some [2,enc (dL [E1])]:=by have h1:=aBs;have h2:=alE 3 2;have w1:IntKind.i64.wrap (1+1)=2:=mY (by omega) (by omega);have w2:IntKind.i64.wrap (2+1)=3:=mY (by omega) (by omega);have w3:IntKind.i64.wrap (0+1)=1:=mY (by omega) (by omega);have ha:(dL [E1]).at 0=E1:=rfl;have g0:E1.hd 0= .i 1:=rfl;have g1:E1.hd 1= .i 0:=rfl;have g2:E1.hd 2= .i 0:=rfl;have g3:E1.hd 3= .i 1:=rfl;rw [aN,aCy];simp only [anW,zz,aW,aJr,aJt,aJp,fin];rw [aN,atN];simp only [aeW,zz,aW,aJr,aJt,aJp,ha,g0,g1,g2,g3,w1,w2,w3,h1,h2,Int.reduceLT,Int.reduceEq,fin,aJH,aJs];rw [aN,atN];simp only [aeW,zz,aJs];rfl
theorem ajE (k m:Int):L 5500 [enc (.i 1),k,m]=some [k,m,1]:=by rw [aN,aCs];simp only [anP,zz,wX,aJt,fin];rw [aN,aCr];simp only [anO,zz];rfl
theorem ajD (a k m:Int):L 5600 [enc (.i 1),a,k,m]=some [a,k,m,1]:=by rw [aN,aCq];simp only [anN,zz,wX,aJt,fin];rw [aN,aCp];simp only [anM,zz];rfl
theorem anB (k m:Int):L 5150 [k,m]=some [k,m,1]:=by rw [aN,aCC];simp only [anY,zz,fin];rw [aN,aCB];rfl
theorem anA (k m:Int):L 5200 [k,m]=some [1,k,m,1]:=by rw [aN,aCA];simp only [anX,zz,fin];rw [aN,aCz];rfl
theorem MC (k m:Int):L 5100 [k,m]=some [m]:=by rw [aN,aCE];simp only [anZ,zz,fin];rw [aN,aCD];rfl
theorem pO (k m:Int):L 5300 [1,enc (dL [E1]),k,m]=some [enc (dL [E1]),k,m,1]:=by have h2:=ajE k m;have w3:IntKind.i64.wrap (0+1)=1:=mY (by omega) (by omega);have ha:(dL [E1]).at 0=E1:=rfl;have g0:E1.hd 0= .i 1:=rfl;have g1:E1.hd 1= .i 0:=rfl;have g3:E1.hd 3= .i 1:=rfl;rw [aN,aCx];simp only [anV,zz,fin];rw [aN,atM];simp only [aeV,zz,aW,aJr,aJt,aJp,ha,g0,g1,g3,w3,h2,Int.reduceLT,Int.reduceEq,fin,aJH,aJs];rw [aN,atM];simp only [aeV,zz,aJs];rfl
theorem Vb (k m:Int):L 5350 [1,enc (dL [E1]),k,m]=some [enc (dL [E1]),1,k,m,1]:=by have h2:=ajD 1 k m;have w3:IntKind.i64.wrap (0+1)=1:=mY (by omega) (by omega);have ha:(dL [E1]).at 0=E1:=rfl;have g0:E1.hd 0= .i 1:=rfl;have g1:E1.hd 1= .i 0:=rfl;have g3:E1.hd 3= .i 1:=rfl;rw [aN,aCw];simp only [anU,zz,fin];rw [aN,atL];simp only [aeU,zz,aW,aJr,aJt,aJp,ha,g0,g1,g3,w3,h2,Int.reduceLT,Int.reduceEq,fin,aJH,aJs];rw [aN,atL];simp only [aeU,zz,aJs];rfl
def isR (ys:List Int):Prop:= ∃b l,ys=b::l/\(b=0\/b=1)
theorem agY {l:List Int}:isR (0::l):=⟨0,l,rfl,.inl rfl⟩
theorem agX {l:List Int}:isR (1::l):=⟨1,l,rfl,.inr rfl⟩
theorem VG (a b c d e f g:Int):Tot 12400 [a,b,c,d,e,f,g] isR:=by
 obtain⟨ys,h1,o,rfl,_⟩:=iQ a b c _ _ (EK (b:=97) (by omega) (by omega)) EL;obtain⟨ys,h2,q,rfl,_⟩:=uP e;obtain⟨ys,h3,r,rfl,_⟩:=uG e;obtain⟨n,_,h4⟩:=oG _ EL;refine Tot.of ?_;rw [avM];simp only [aaI,zz,h1,h2,h3,h4,MC]
 repeat' first |exact .out agY|exact .out agX|refine .ite (fun _=>?_) (fun _=>?_)
theorem VF (a b c d e f g:Int):Tot 12500 [a,b,c,d,e,f,g] isR:=by
 obtain⟨ys,h1,o,rfl,_⟩:=iQ a b c _ _ (EK (b:=97) (by omega) (by omega)) EL;obtain⟨ys,h2,q,rfl,_⟩:=uP e;obtain⟨ys,h3,r,rfl,_⟩:=uG e;obtain⟨n,_,h4⟩:=oG _ EL;refine Tot.of ?_;rw [avK];simp only [aaG,zz,h1,h2,h3,h4,MC]
 repeat' first |exact .out agY|exact .out agX|refine .ite (fun _=>?_) (fun _=>?_)
theorem apX (a b c d e f g h i:Int):Tot 12450 [a,b,c,d,e,f,g,h,i] isR:=by
 obtain⟨ys,h0,o,rfl,_⟩:=iQ 1 a b _ _ (EK (b:=98) (by omega) (by omega)) EL;obtain⟨ys,h1,o',rfl,_⟩:=iQ c d e _ _ (EK (b:=97) (by omega) (by omega)) (EK (b:=98) (by omega) (by omega));obtain⟨ys,h2,q,rfl,_⟩:=uP g;obtain⟨ys,h3,r,rfl,_⟩:=uG g;obtain⟨n,_,h4⟩:=oG _ EL;refine Tot.of ?_;rw [avL];simp only [aaH,zz,h0,h1,h2,h3,h4,MC]
 repeat' first |exact .out agY|exact .out agX|refine .ite (fun _=>?_) (fun _=>?_)
theorem apW (a b c d e f g h i:Int):Tot 12550 [a,b,c,d,e,f,g,h,i] isR:=by
 obtain⟨ys,h0,o,rfl,_⟩:=iQ 1 a b _ _ (EK (b:=98) (by omega) (by omega)) EL;obtain⟨ys,h1,o',rfl,_⟩:=iQ c d e _ _ (EK (b:=97) (by omega) (by omega)) (EK (b:=98) (by omega) (by omega));obtain⟨ys,h2,q,rfl,_⟩:=uP g;obtain⟨ys,h3,r,rfl,_⟩:=uG g;obtain⟨n,_,h4⟩:=oG _ EL;refine Tot.of ?_;rw [avJ];simp only [aaF,zz,h0,h1,h2,h3,h4,MC]
 repeat' first |exact .out agY|exact .out agX|refine .ite (fun _=>?_) (fun _=>?_)
def arE (m k:Nat) (ys:List Int):Prop:=(∃l,ys=0::l)\/(m=1/\low ys 0=1/\low ys k=1/\low ys (k+1)=enc (dL [E1]))
theorem CY {m k:Nat} {l:List Int}:arE m k (0::l):=.inl ⟨l,rfl⟩
def xZ (m:Nat):D:=dL (List.replicate m E1)
theorem yY (m:Nat):(xZ m).l.length=m:=by unfold xZ; rw [aW,aKr]
theorem CP (m:Nat) (hm:1<=m) (a b c d e f g:Int):Tot 12600 [a,b,c,d,e,f,enc (xZ m),g] (arE m 9):=by
 obtain⟨ys,h1,o,rfl,_⟩:=iQ a b c _ _ (EK (b:=97) (by omega) (by omega)) EL;obtain⟨ys,h2,q,rfl,hq⟩:=uP e;obtain⟨ys,h3,r,rfl,_⟩:=uG e;obtain⟨n,_,h4⟩:=oG _ EL;refine Tot.of ?_;rw [avI];by_cases h:m=1
 ·subst h;have h5:=Ei;simp only [Vq,zz,h1,h2,h3,h4,xZ,List.replicate,h5]
  repeat' first |exact .out CY|exact .out (.inr ⟨rfl,rfl,rfl,rfl⟩)|refine .ite (fun _=>?_) (fun _=>?_)
 ·have c1: ¬((m:Int)=q):=by rcases hq with rfl|rfl<;>omega
  simp only [Vq,zz,h1,h2,h3,h4,yY,c1]
  repeat' first |exact .out CY|refine .ite (fun _=>?_) (fun _=>?_)
theorem CO (m:Nat) (hm:1<=m) (a b c d e f g:Int):Tot 12700 [a,b,c,d,e,f,enc (xZ m),g] (arE m 9):=by
 obtain⟨ys,h1,o,rfl,_⟩:=iQ a b c _ _ (EK (b:=97) (by omega) (by omega)) EL;obtain⟨ys,h2,q,rfl,hq⟩:=uP e;obtain⟨ys,h3,r,rfl,_⟩:=uG e;obtain⟨n,_,h4⟩:=oG _ EL;refine Tot.of ?_;rw [avG];by_cases h:m=1
 ·subst h;have h5:=Ei;simp only [Vo,zz,h1,h2,h3,h4,xZ,List.replicate,h5]
  repeat' first |exact .out CY|exact .out (.inr ⟨rfl,rfl,rfl,rfl⟩)|refine .ite (fun _=>?_) (fun _=>?_)
 ·have c1: ¬((m:Int)=q):=by rcases hq with rfl|rfl<;>omega
  simp only [Vo,zz,h1,h2,h3,h4,yY,c1]
  repeat' first |exact .out CY|refine .ite (fun _=>?_) (fun _=>?_)
theorem apV (m:Nat) (hm:1<=m) (a b c d e f g h' i:Int):Tot 12650 [a,b,c,d,e,f,g,h',enc (xZ m),i] (arE m 11):=by
 obtain⟨ys,h0,o,rfl,_⟩:=iQ 1 a b _ _ (EK (b:=98) (by omega) (by omega)) EL;obtain⟨ys,h1,o',rfl,_⟩:=iQ c d e _ _ (EK (b:=97) (by omega) (by omega)) (EK (b:=98) (by omega) (by omega));obtain⟨ys,h2,q,rfl,hq⟩:=uP g;obtain⟨ys,h3,r,rfl,_⟩:=uG g;obtain⟨n,_,h4⟩:=oG _ EL;refine Tot.of ?_;rw [avH];by_cases h:m=1
 ·subst h;have h5:=Ei;simp only [Vp,zz,h0,h1,h2,h3,h4,xZ,List.replicate,h5]
  repeat' first |exact .out CY|exact .out (.inr ⟨rfl,rfl,rfl,rfl⟩)|refine .ite (fun _=>?_) (fun _=>?_)
 ·have c1: ¬((m:Int)=q):=by rcases hq with rfl|rfl<;>omega
  simp only [Vp,zz,h0,h1,h2,h3,h4,yY,c1]
  repeat' first |exact .out CY|refine .ite (fun _=>?_) (fun _=>?_)
theorem apU (m:Nat) (hm:1<=m) (a b c d e f g h' i:Int):Tot 12750 [a,b,c,d,e,f,g,h',enc (xZ m),i] (arE m 11):=by
 obtain⟨ys,h0,o,rfl,_⟩:=iQ 1 a b _ _ (EK (b:=98) (by omega) (by omega)) EL;obtain⟨ys,h1,o',rfl,_⟩:=iQ c d e _ _ (EK (b:=97) (by omega) (by omega)) (EK (b:=98) (by omega) (by omega));obtain⟨ys,h2,q,rfl,hq⟩:=uP g;obtain⟨ys,h3,r,rfl,_⟩:=uG g;obtain⟨n,_,h4⟩:=oG _ EL;refine Tot.of ?_;rw [avF];by_cases h:m=1
 ·subst h;have h5:=Ei;simp only [Vm,zz,h0,h1,h2,h3,h4,xZ,List.replicate,h5]
  repeat' first |exact .out CY|exact .out (.inr ⟨rfl,rfl,rfl,rfl⟩)|refine .ite (fun _=>?_) (fun _=>?_)
 ·have c1: ¬((m:Int)=q):=by rcases hq with rfl|rfl<;>omega
  simp only [Vm,zz,h0,h1,h2,h3,h4,yY,c1]
  repeat' first |exact .out CY|refine .ite (fun _=>?_) (fun _=>?_)
def isD (a b:Int) (ys:List Int):Prop:= ∃c:Int,ys= [c]/\(c=0\/c=1)/\(c=1->a= -1\/b≠0)
theorem gX {a b:Int}:isD a b [0]:=⟨0,rfl,.inl rfl,fun h=>absurd h (by omega)⟩
theorem pI {a b:Int} (h:a= -1\/b≠0):isD a b [1]:=⟨1,rfl,.inr rfl,fun _=>h⟩
theorem Tot.mono {j:Nat} {xs:List Int} {p q:List Int->Prop} (h:Tot j xs p) (f: ∀ys,p ys->q ys):Tot j xs q:=by obtain⟨ys,a,b⟩:=h;exact⟨ys,a,f ys b⟩
theorem aBf (x0 x2 x3 x4 x5 x6 x7 x8:Int):Tot 951 [x0,0,x2,x3,x4,x5,x6,x7,x8] (isD x5 0):=by
 obtain⟨ys,a1,b1,l1,rfl,g1⟩:=VG x0 1 0 0 x3 0 0;obtain⟨ys,a2,b2,l2,rfl,g2⟩:=VG x0 0 0 0 x3 0 0;obtain⟨ys,a3,b3,l3,rfl,g3⟩:=apX 0 0 x0 0 0 0 x3 0 0;obtain⟨ys,a4,b4,l4,rfl,g4⟩:=VF x0 1 0 0 x3 0 0;obtain⟨ys,a5,b5,l5,rfl,g5⟩:=VF x0 0 0 0 x3 0 0;obtain⟨ys,a6,b6,l6,rfl,g6⟩:=apW 0 0 x0 0 0 0 x3 0 0;obtain⟨ys,a7,k,rfl⟩:=VO x3;refine Tot.of ?_;rw [aFg];simp only [ayG,zz,aJs,a1,a2,a3,a4,a5,a6,a7,anB,anA]
 repeat' first |exact .out gX|exact .out (pI (by omega))|refine .ite (fun _=>?_) (fun _=>?_)|(exfalso; omega)
theorem aBe (x0 x2 x3 x4 x5 x6 x7 x8:Int):Tot 952 [x0,0,x2,x3,x4,x5,x6,x7,x8] (isD x5 1):=by
 obtain⟨ys,a1,b1,l1,rfl,g1⟩:=VG x0 1 0 0 x3 0 0;obtain⟨ys,a2,b2,l2,rfl,g2⟩:=VG x0 0 0 0 x3 0 0;obtain⟨ys,a3,b3,l3,rfl,g3⟩:=apX 0 0 x0 0 0 0 x3 0 0;obtain⟨ys,a4,b4,l4,rfl,g4⟩:=VF x0 1 0 0 x3 0 0;obtain⟨ys,a5,b5,l5,rfl,g5⟩:=VF x0 0 0 0 x3 0 0;obtain⟨ys,a6,b6,l6,rfl,g6⟩:=apW 0 0 x0 0 0 0 x3 0 0;obtain⟨ys,a7,k,rfl⟩:=VO x3;refine Tot.of ?_;rw [aFf];simp only [ayF,zz,aJs,a1,a2,a3,a4,a5,a6,a7,anB,anA]
 repeat' first |exact .out gX|exact .out (pI (by omega))|refine .ite (fun _=>?_) (fun _=>?_)|(exfalso; omega)
theorem Zg (m:Nat) (hm:1<=m) (x0 x3 x4 x5 x6 x7 x8 x9:Int):Tot 953 [x0,(m:Int),(m:Int),x3,x4,x5,x6,x7,x8,x9,enc (xZ m)] (isD x6 0):=by
 obtain⟨ys,a7,k,rfl⟩:=VO x4;by_cases hn:x6= -1
 ·by_cases h3:x0=3
  ·subst h3;obtain⟨ys,hR,hC⟩:=CP m hm 3 1 0 0 x4 0 0;refine Tot.of ?_;rw [Lr];rcases hC with ⟨l,rfl⟩|⟨rfl,q1,q2,q3⟩
   ·simp only [wC,zz,aJs,hn,hR,Int.reduceEq];exact .out gX
   ·simp only [wC,zz,aJs,hn,hR,q1,q2,q3,a7,pO,Int.reduceEq,aJH]
    repeat' first |exact .out gX|exact .out (pI (by omega))|refine .ite (fun _=>?_) (fun _=>?_)|(exfalso; omega)
  by_cases h8:x0=8
  ·subst h8;obtain⟨ys,hR,hC⟩:=CP m hm 8 1 0 0 x4 0 0;refine Tot.of ?_;rw [Lr];rcases hC with ⟨l,rfl⟩|⟨rfl,q1,q2,q3⟩
   ·simp only [wC,zz,aJs,hn,hR,Int.reduceEq];exact .out gX
   ·simp only [wC,zz,aJs,hn,hR,q1,q2,q3,a7,pO,Int.reduceEq,aJH]
    repeat' first |exact .out gX|exact .out (pI (by omega))|refine .ite (fun _=>?_) (fun _=>?_)|(exfalso; omega)
  by_cases h5:x0=5
  ·subst h5;obtain⟨ys,hR,hC⟩:=CP m hm 5 1 0 0 x4 0 0;refine Tot.of ?_;rw [Lr];rcases hC with ⟨l,rfl⟩|⟨rfl,q1,q2,q3⟩
   ·simp only [wC,zz,aJs,hn,hR,Int.reduceEq];exact .out gX
   ·simp only [wC,zz,aJs,hn,hR,q1,q2,q3,a7,pO,Int.reduceEq,aJH]
    repeat' first |exact .out gX|exact .out (pI (by omega))|refine .ite (fun _=>?_) (fun _=>?_)|(exfalso; omega)
  by_cases h4:x0=4
  ·subst h4;obtain⟨ys,hR,hC⟩:=apV m hm 0 0 4 0 0 0 x4 0 0;refine Tot.of ?_;rw [Lr];rcases hC with ⟨l,rfl⟩|⟨rfl,q1,q2,q3⟩
   ·simp only [wC,zz,aJs,hn,hR,Int.reduceEq];exact .out gX
   ·simp only [wC,zz,aJs,hn,hR,q1,q2,q3,a7,Vb,Int.reduceEq,aJH]
    repeat' first |exact .out gX|exact .out (pI (by omega))|refine .ite (fun _=>?_) (fun _=>?_)|(exfalso; omega)
  obtain⟨ys,hR,hC⟩:=CP m hm x0 0 0 0 x4 0 0;refine Tot.of ?_;rw [Lr];rcases hC with ⟨l,rfl⟩|⟨rfl,q1,q2,q3⟩
  ·simp only [wC,zz,aJs,hn,h3,h8,h5,h4,hR,Int.reduceEq];exact .out gX
  ·simp only [wC,zz,aJs,hn,h3,h8,h5,h4,hR,q1,q2,q3,a7,pO,Int.reduceEq,aJH]
   repeat' first |exact .out gX|exact .out (pI (by omega))|refine .ite (fun _=>?_) (fun _=>?_)|(exfalso; omega)
 ·by_cases h3:x0=3
  ·subst h3;obtain⟨ys,hR,hC⟩:=CO m hm 3 1 0 0 x4 0 0;refine Tot.of ?_;rw [Lr];rcases hC with ⟨l,rfl⟩|⟨rfl,q1,q2,q3⟩
   ·simp only [wC,zz,aJs,hn,hR,Int.reduceEq];exact .out gX
   ·simp only [wC,zz,aJs,hn,hR,q1,q2,q3,a7,pO,Int.reduceEq,aJH]
    repeat' first |exact .out gX|exact .out (pI (by omega))|refine .ite (fun _=>?_) (fun _=>?_)|(exfalso; omega)
  by_cases h8:x0=8
  ·subst h8;obtain⟨ys,hR,hC⟩:=CO m hm 8 1 0 0 x4 0 0;refine Tot.of ?_;rw [Lr];rcases hC with ⟨l,rfl⟩|⟨rfl,q1,q2,q3⟩
   ·simp only [wC,zz,aJs,hn,hR,Int.reduceEq];exact .out gX
   ·simp only [wC,zz,aJs,hn,hR,q1,q2,q3,a7,pO,Int.reduceEq,aJH]
    repeat' first |exact .out gX|exact .out (pI (by omega))|refine .ite (fun _=>?_) (fun _=>?_)|(exfalso; omega)
  by_cases h5:x0=5
  ·subst h5;obtain⟨ys,hR,hC⟩:=CO m hm 5 1 0 0 x4 0 0;refine Tot.of ?_;rw [Lr];rcases hC with ⟨l,rfl⟩|⟨rfl,q1,q2,q3⟩
   ·simp only [wC,zz,aJs,hn,hR,Int.reduceEq];exact .out gX
   ·simp only [wC,zz,aJs,hn,hR,q1,q2,q3,a7,pO,Int.reduceEq,aJH]
    repeat' first |exact .out gX|exact .out (pI (by omega))|refine .ite (fun _=>?_) (fun _=>?_)|(exfalso; omega)
  by_cases h4:x0=4
  ·subst h4;obtain⟨ys,hR,hC⟩:=apU m hm 0 0 4 0 0 0 x4 0 0;refine Tot.of ?_;rw [Lr];rcases hC with ⟨l,rfl⟩|⟨rfl,q1,q2,q3⟩
   ·simp only [wC,zz,aJs,hn,hR,Int.reduceEq];exact .out gX
   ·simp only [wC,zz,aJs,hn,hR,q1,q2,q3,a7,Vb,Int.reduceEq,aJH]
    repeat' first |exact .out gX|exact .out (pI (by omega))|refine .ite (fun _=>?_) (fun _=>?_)|(exfalso; omega)
  obtain⟨ys,hR,hC⟩:=CO m hm x0 0 0 0 x4 0 0;refine Tot.of ?_;rw [Lr];rcases hC with ⟨l,rfl⟩|⟨rfl,q1,q2,q3⟩
  ·simp only [wC,zz,aJs,hn,h3,h8,h5,h4,hR,Int.reduceEq];exact .out gX
  ·simp only [wC,zz,aJs,hn,h3,h8,h5,h4,hR,q1,q2,q3,a7,pO,Int.reduceEq,aJH]
   repeat' first |exact .out gX|exact .out (pI (by omega))|refine .ite (fun _=>?_) (fun _=>?_)|(exfalso; omega)
theorem ahW (M:Nat) (hM:M<=2513169434915) (x0 x3 x4 x5 x6 x7 x8 x9:Int): ∀(j m:Nat),m+j=M->1<=m->Tot 953 [x0,(M:Int),(m:Int),x3,x4,x5,x6,x7,x8,x9,enc (xZ m)] (isD x6 0)
 |0,m,h1,h2=>by
  obtain rfl:M=m:=by omega
  exact Zg M h2 x0 x3 x4 x5 x6 x7 x8 x9
 |j+1,m,h1,h2=>by
  have ih:=ahW M hM x0 x3 x4 x5 x6 x7 x8 x9 j (m+1) (by omega) (by omega);have c1:(m:Int)<(M:Int):=by omega
  have c2:((m:Nat):Int)<2513169434915:=by omega
  have w:=aZ (n:=m) (by omega)
  have hr:xZ (m+1)=dL ((xZ m).l++ [E1]):=by unfold xZ;rw [aW,List.replicate_succ']
  rw [hr] at ih;refine Tot.of ?_;rw [Lr];simp only [wC,zz,c1,c2,yY,w];exact .jump ih
theorem Zf (m:Nat) (hm:1<=m) (x0 x3 x4 x5 x6 x7 x8 x9:Int):Tot 954 [x0,(m:Int),(m:Int),x3,x4,x5,x6,x7,x8,x9,enc (xZ m)] (isD x6 1):=by
 obtain⟨ys,a7,k,rfl⟩:=VO x4;by_cases hn:x6= -1
 ·by_cases h3:x0=3
  ·subst h3;obtain⟨ys,hR,hC⟩:=CP m hm 3 1 0 0 x4 0 0;refine Tot.of ?_;rw [Lp];rcases hC with ⟨l,rfl⟩|⟨rfl,q1,q2,q3⟩
   ·simp only [wB,zz,aJs,hn,hR,Int.reduceEq];exact .out gX
   ·simp only [wB,zz,aJs,hn,hR,q1,q2,q3,a7,pO,Int.reduceEq,aJH]
    repeat' first |exact .out gX|exact .out (pI (by omega))|refine .ite (fun _=>?_) (fun _=>?_)|(exfalso; omega)
  by_cases h8:x0=8
  ·subst h8;obtain⟨ys,hR,hC⟩:=CP m hm 8 1 0 0 x4 0 0;refine Tot.of ?_;rw [Lp];rcases hC with ⟨l,rfl⟩|⟨rfl,q1,q2,q3⟩
   ·simp only [wB,zz,aJs,hn,hR,Int.reduceEq];exact .out gX
   ·simp only [wB,zz,aJs,hn,hR,q1,q2,q3,a7,pO,Int.reduceEq,aJH]
    repeat' first |exact .out gX|exact .out (pI (by omega))|refine .ite (fun _=>?_) (fun _=>?_)|(exfalso; omega)
  by_cases h5:x0=5
  ·subst h5;obtain⟨ys,hR,hC⟩:=CP m hm 5 1 0 0 x4 0 0;refine Tot.of ?_;rw [Lp];rcases hC with ⟨l,rfl⟩|⟨rfl,q1,q2,q3⟩
   ·simp only [wB,zz,aJs,hn,hR,Int.reduceEq];exact .out gX
   ·simp only [wB,zz,aJs,hn,hR,q1,q2,q3,a7,pO,Int.reduceEq,aJH]
    repeat' first |exact .out gX|exact .out (pI (by omega))|refine .ite (fun _=>?_) (fun _=>?_)|(exfalso; omega)
  by_cases h4:x0=4
  ·subst h4;obtain⟨ys,hR,hC⟩:=apV m hm 0 0 4 0 0 0 x4 0 0;refine Tot.of ?_;rw [Lp];rcases hC with ⟨l,rfl⟩|⟨rfl,q1,q2,q3⟩
   ·simp only [wB,zz,aJs,hn,hR,Int.reduceEq];exact .out gX
   ·simp only [wB,zz,aJs,hn,hR,q1,q2,q3,a7,Vb,Int.reduceEq,aJH]
    repeat' first |exact .out gX|exact .out (pI (by omega))|refine .ite (fun _=>?_) (fun _=>?_)|(exfalso; omega)
  obtain⟨ys,hR,hC⟩:=CP m hm x0 0 0 0 x4 0 0;refine Tot.of ?_;rw [Lp];rcases hC with ⟨l,rfl⟩|⟨rfl,q1,q2,q3⟩
  ·simp only [wB,zz,aJs,hn,h3,h8,h5,h4,hR,Int.reduceEq];exact .out gX
  ·simp only [wB,zz,aJs,hn,h3,h8,h5,h4,hR,q1,q2,q3,a7,pO,Int.reduceEq,aJH]
   repeat' first |exact .out gX|exact .out (pI (by omega))|refine .ite (fun _=>?_) (fun _=>?_)|(exfalso; omega)
 ·by_cases h3:x0=3
  ·subst h3;obtain⟨ys,hR,hC⟩:=CO m hm 3 1 0 0 x4 0 0;refine Tot.of ?_;rw [Lp];rcases hC with ⟨l,rfl⟩|⟨rfl,q1,q2,q3⟩
   ·simp only [wB,zz,aJs,hn,hR,Int.reduceEq];exact .out gX
   ·simp only [wB,zz,aJs,hn,hR,q1,q2,q3,a7,pO,Int.reduceEq,aJH]
    repeat' first |exact .out gX|exact .out (pI (by omega))|refine .ite (fun _=>?_) (fun _=>?_)|(exfalso; omega)
  by_cases h8:x0=8
  ·subst h8;obtain⟨ys,hR,hC⟩:=CO m hm 8 1 0 0 x4 0 0;refine Tot.of ?_;rw [Lp];rcases hC with ⟨l,rfl⟩|⟨rfl,q1,q2,q3⟩
   ·simp only [wB,zz,aJs,hn,hR,Int.reduceEq];exact .out gX
   ·simp only [wB,zz,aJs,hn,hR,q1,q2,q3,a7,pO,Int.reduceEq,aJH]
    repeat' first |exact .out gX|exact .out (pI (by omega))|refine .ite (fun _=>?_) (fun _=>?_)|(exfalso; omega)
  by_cases h5:x0=5
  ·subst h5;obtain⟨ys,hR,hC⟩:=CO m hm 5 1 0 0 x4 0 0;refine Tot.of ?_;rw [Lp];rcases hC with ⟨l,rfl⟩|⟨rfl,q1,q2,q3⟩
   ·simp only [wB,zz,aJs,hn,hR,Int.reduceEq];exact .out gX
   ·simp only [wB,zz,aJs,hn,hR,q1,q2,q3,a7,pO,Int.reduceEq,aJH]
    repeat' first |exact .out gX|exact .out (pI (by omega))|refine .ite (fun _=>?_) (fun _=>?_)|(exfalso; omega)
  by_cases h4:x0=4
  ·subst h4;obtain⟨ys,hR,hC⟩:=apU m hm 0 0 4 0 0 0 x4 0 0;refine Tot.of ?_;rw [Lp];rcases hC with ⟨l,rfl⟩|⟨rfl,q1,q2,q3⟩
   ·simp only [wB,zz,aJs,hn,hR,Int.reduceEq];exact .out gX
   ·simp only [wB,zz,aJs,hn,hR,q1,q2,q3,a7,Vb,Int.reduceEq,aJH]
    repeat' first |exact .out gX|exact .out (pI (by omega))|refine .ite (fun _=>?_) (fun _=>?_)|(exfalso; omega)
  obtain⟨ys,hR,hC⟩:=CO m hm x0 0 0 0 x4 0 0;refine Tot.of ?_;rw [Lp];rcases hC with ⟨l,rfl⟩|⟨rfl,q1,q2,q3⟩
  ·simp only [wB,zz,aJs,hn,h3,h8,h5,h4,hR,Int.reduceEq];exact .out gX
  ·simp only [wB,zz,aJs,hn,h3,h8,h5,h4,hR,q1,q2,q3,a7,pO,Int.reduceEq,aJH]
   repeat' first |exact .out gX|exact .out (pI (by omega))|refine .ite (fun _=>?_) (fun _=>?_)|(exfalso; omega)
theorem ahV (M:Nat) (hM:M<=2513169434915) (x0 x3 x4 x5 x6 x7 x8 x9:Int): ∀(j m:Nat),m+j=M->1<=m->Tot 954 [x0,(M:Int),(m:Int),x3,x4,x5,x6,x7,x8,x9,enc (xZ m)] (isD x6 1)
 |0,m,h1,h2=>by
  obtain rfl:M=m:=by omega
  exact Zf M h2 x0 x3 x4 x5 x6 x7 x8 x9
 |j+1,m,h1,h2=>by
  have ih:=ahV M hM x0 x3 x4 x5 x6 x7 x8 x9 j (m+1) (by omega) (by omega);have c1:(m:Int)<(M:Int):=by omega
  have c2:((m:Nat):Int)<2513169434915:=by omega
  have w:=aZ (n:=m) (by omega)
  have hr:xZ (m+1)=dL ((xZ m).l++ [E1]):=by unfold xZ;rw [aW,List.replicate_succ']
  rw [hr] at ih;refine Tot.of ?_;rw [Lp];simp only [wB,zz,c1,c2,yY,w];exact .jump ih
theorem Ze (x0 x1 x2 x3 x4 x5 x6 x8:Int) (d:D) (hd:d.l.length<=2513169434915):Tot 950 [x0,x1,x2,x3,x4,x5,x6,enc d,x8] (isD x4 x8):=by
 have key: ∀(t t2:Nat) (b:Int),(t=951/\t2=953/\b=0)\/(t=952/\t2=954/\b=1)->Tot t [x0,(d.l.length:Int),x1,x2,x3,x4,x5,x6,enc d] (isD x4 b):=by
  intro t t2 b ht;by_cases h0:d.l.length=0
  ·rw [h0];rcases ht with ⟨rfl,rfl,rfl⟩|⟨rfl,rfl,rfl⟩
   ·exact aBf x0 x1 x2 x3 x4 x5 x6 (enc d)
   ·exact aBe x0 x1 x2 x3 x4 x5 x6 (enc d)
  ·have c1:(0:Int)<(d.l.length:Int):=by omega
   have hr:enc (xZ 1)=enc (dL ([]++ [E1])):=rfl;rcases ht with ⟨rfl,rfl,rfl⟩|⟨rfl,rfl,rfl⟩
   ·have:=ahW d.l.length hd x0 x1 x2 x3 x4 x5 x6 (enc d) (d.l.length-1) 1 (by omega) (by omega);rw [hr] at this;refine Tot.of ?_;rw [aFg];simp only [ayG,zz,c1,wX];exact .jump this
   ·have:=ahV d.l.length hd x0 x1 x2 x3 x4 x5 x6 (enc d) (d.l.length-1) 1 (by omega) (by omega);rw [hr] at this;refine Tot.of ?_;rw [aFf];simp only [ayF,zz,c1,wX];exact .jump this
 refine Tot.of ?_;rw [aHg];simp only [aDv,zz];exact .ite (fun h=> .jump ((key 951 953 0 (.inl ⟨rfl,rfl,rfl⟩)).mono fun ys ⟨c,a,b,e⟩=> ⟨c,a,b,fun q=>by have:=e q; omega⟩)) fun h=> .jump ((key 952 954 1 (.inr ⟨rfl,rfl,rfl⟩)).mono fun ys ⟨c,a,b,e⟩=> ⟨c,a,b,fun _=> .inr h⟩)
def OkI (d0:D) (nl nc:Nat) (dx op ob into to:Int) (na:Nat):Prop:=
 (dx=1/\0<=ob/\ob<(d0.l.length:Int)/\(into= -1\/0<=into/\into<(nl:Int))/\(op=16->0<=to/\to<=(nc:Int)))\/
 (dx=2/\0<=ob/\ob<(d0.l.length:Int))\/(dx=3/\0<=into/\into<(nl:Int)/\(na:Int)=1)\/(dx=4/\0<=to/\to<=(nc:Int)/\(na:Int)=1)\/
 (dx=5/\0<=to/\to<=(nc:Int))\/(dx=6/\0<=into/\into<(nl:Int))\/(dx=7/\0<=into/\into<(nl:Int)/\0<=to/\to<=(nc:Int))
def isI (p:Prop) (ys:List Int):Prop:= ∃c:Int,ys= [c]/\(c=0\/c=1)/\(c=1->p)
theorem aGz {p:Prop}:isI p [0]:=⟨0,rfl,.inl rfl,fun h=>absurd h (by omega)⟩
theorem aGy {p:Prop} (h:p):isI p [1]:=⟨1,rfl,.inr rfl,fun _=>h⟩
set_option maxHeartbeats 2000000 in
theorem aAb (d0 d1 d3 d4 d:D) (x2 x5 x6 x7 x8 x9 x10:Int) (hd:d.l.length<=2513169434915):Tot 750 [enc d0,enc d1,x2,enc d3,enc d4,x5,x6,x7,x8,x9,x10,enc d] (isI (OkI d0 d3.l.length d4.l.length x5 x6 x7 x8 x9 d.l.length)):=by
 unfold OkI;obtain⟨ys,h0,b0,rfl,_,f0⟩:=Ze ((d0.at x7).hd 0).n x5 x6 x7 x8 x9 x10 0 d hd;obtain⟨ys,h1,b1,rfl,_,f1⟩:=Ze ((d0.at x7).hd 0).n x5 x6 x7 x8 x9 x10 1 d hd;refine Tot.of ?_;rw [aHw];simp only [aDz,zz,h0,h1]
 repeat' first |exact .out aGz|exact .out (aGy (by omega))|refine .ite (fun _=>?_) (fun _=>?_)
def OkO (d0:D) (k n:Int):Prop:=1<=k/\k<=9/\(k=1\/k=2\/k=6\/k=7->n=0)/\(k=3\/k=8->1<=n/\n<=1048576)/\(k=5->1<=n/\n<=16)/\(k=4->0<=n/\n<(d0.l.length:Int)/\((d0.at n).hd 0).n=1)
def agG (d0:D) (x:D):Prop:=OkO d0 (x.hd 0).n (x.hd 2).n
def aD4 (d0:D) (k n:Int) (ys:List Int):Prop:= ∃b:Int,ys= [b]/\(b=0\/b=1)/\(b≠0->OkO d0 k n)
theorem akG (d0:D) (x1 x2 x3 x4 x5 x6:Int):Tot 700 [enc d0,x1,x2,x3,x4,x5,x6] (aD4 d0 x2 x4):=by
 refine Tot.of ?_;rw [aHx];simp only [aDA,zz]
 repeat' first
  |exact .out ⟨0,rfl,.inl rfl,fun h=>absurd rfl h⟩
  |exact .out ⟨1,rfl,.inr rfl,fun _=> ⟨by omega,by omega,by omega,by omega,by omega,fun h4=>by first |omega|exact⟨by omega,by omega,by assumption⟩⟩⟩
  |refine .ite (fun _=>?_) (fun _=>?_)
def yA (d0 d1:D):Prop:=d0.l.length<=64/\d1.l.length<=16/\∀x∈d0.l,agG d0 x
def ahB (d0 x:D):Prop:= ∀y∈(x.hd 2).l,OkI d0 (x.hd 1).l.length (x.hd 2).l.length (y.hd 0).n (y.hd 1).n (y.hd 2).n (y.hd 3).n (y.hd 4).n (y.hd 6).l.length
def OO (d0 d1:D) (ys:List Int):Prop:= ∃b:Int,ys= [b]/\(b=0\/b=120)/\(b=0->yA d0 d1/\∀x∈d1.l,ahB d0 x)
theorem Gp {d:D} (h:Wd (.sl 4) d) {i:Nat} (hi:i<d.l.length): ∃nm' lc cd,d.l[i]=dL [nm',lc,cd]/\Wd .str nm'/\Wd (.sl 2) lc/\Wd (.sl 5) cd:=by
 obtain⟨r,h1,hl,hc⟩:=h.elN (cs:=[.str,.sl 2,.sl 5]) rfl _ (aJm hi)
 match r,hl with
 |[a,b,c],_=>exact⟨a,b,c,h1,hc 0 _ _ rfl rfl,hc 1 _ _ rfl rfl,hc 2 _ _ rfl rfl⟩
theorem abZ {d:D} (h:Wd (.sl 5) d) {i:Nat} (hi:i<d.l.length): ∃a b c e f g Rh,d.l[i]=dL [.i a,.i b,.i c,.i e,.i f,.i g,Rh]/\iM .u8 a/\iM .u8 b/\iM .i64 c/\iM .i64 e/\iM .i64 f/\iM .i64 g/\Wd (.sl 6) Rh:=by
 obtain⟨r,h1,hl,hc⟩:=h.elN (cs:=[.int .u8,.int .u8,.int .i64,.int .i64,.int .i64,.int .i64,.sl 6]) rfl _ (aJm hi)
 match r,hl with
 |[a,b,c,e,f,g,Rh],_=> obtain⟨a,rfl,ha⟩:=(hc 0 _ _ rfl rfl).i;obtain⟨b,rfl,hb⟩:=(hc 1 _ _ rfl rfl).i;obtain⟨c,rfl,hc'⟩:=(hc 2 _ _ rfl rfl).i;obtain⟨e,rfl,he⟩:=(hc 3 _ _ rfl rfl).i;obtain⟨f,rfl,hf⟩:=(hc 4 _ _ rfl rfl).i;obtain⟨g,rfl,hg⟩:=(hc 5 _ _ rfl rfl).i;exact⟨a,b,c,e,f,g,Rh,h1,ha,hb,hc',he,hf,hg,hc 6 _ _ rfl rfl⟩
section
variable {d0 d1:D} (h0:Wd (.sl 3) d0) (h1:Wd (.sl 4) d1)
include h1
theorem Gn (hx: ∀x y:Int,x=y->True): ∀(j i:Nat),i+j=d1.l.length->Tot 453 [enc d1,(d1.l.length:Int),(i:Int),enc d0] (OO d0 d1)
 |0,i,hi=>by
  have c1: ¬(i:Int)<(d1.l.length:Int):=by omega
  refine Tot.of ?_;rw [aFm];simp only [ayL,zz,c1];exact .out ⟨120,rfl,.inr rfl,fun h=>by omega⟩
 |j+1,i,hi=>by
  have hl:=h1.len;have c1:(i:Int)<(d1.l.length:Int):=by omega
  have c2: ¬((i:Int)<0):=by omega
  have w:=aZ (n:=i) (by omega);refine Tot.of ?_;rw [aFm];simp only [ayL,zz,c1,c2];refine .jump (Tot.of ?_);rw [aFk];simp only [ayJ,zz,w];exact .ite (fun _=> .jump (Gn hx j (i+1) (by omega))) fun _=> .jump (Gn hx j (i+1) (by omega))
theorem Ve (i:Nat) (hi:i<d1.l.length) (j:Nat) (hj:i+1+j=d1.l.length) (x0 x5 x6 x7:Int):Tot 455 [x0,enc d1,(d1.l.length:Int),(i:Int),enc d0,x5,x6,x7] (OO d0 d1):=by have hl:=h1.len;have w:=aZ (n:=i) (by omega);refine Tot.of ?_;rw [aFk];simp only [ayJ,zz,w];exact .ite (fun _=> .jump (Gn h1 (fun _ _ _=>trivial) j (i+1) (by omega))) fun _=> .jump (Gn h1 (fun _ _ _=>trivial) j (i+1) (by omega))
theorem XO (hg:yA d0 d1): ∀(j i:Nat),i+j=d1.l.length->(∀(n:Nat) (h:n<d1.l.length),n<i->ahB d0 d1.l[n])->Tot 454 [enc d1,(d1.l.length:Int),(i:Int),enc d0] (OO d0 d1)
 |0,i,hi,hp=>by
  have c1: ¬(i:Int)<(d1.l.length:Int):=by omega
  refine Tot.of ?_;rw [aFl];simp only [ayK,zz,c1];refine .out ⟨0,rfl,.inl rfl,fun _=> ⟨hg,fun x hx=>?_⟩⟩;obtain⟨n,hn,rfl⟩:=aKG hx;exact hp n hn (by omega)
 |j+1,i,hi,hp=>by
  have hl:=h1.len;have hil:i<d1.l.length:=by omega
  have c1:(i:Int)<(d1.l.length:Int):=by omega
  have c2: ¬((i:Int)<0):=by omega
  have w:=aZ (n:=i) (by omega);obtain⟨nm',lc,cd,he,hn,hlc,hcd⟩:=Gp h1 hil;have hcl:=hcd.len;have e1:(d1.l[i]).hd 1=lc:=by rw [he,eP]; rfl
  have e2:(d1.l[i]).hd 2=cd:=by rw [he,eP]; rfl
  have loop: ∀(m k:Nat),k+m=cd.l.length->(∀(n:Nat) (h:n<cd.l.length),n<k->OkI d0 lc.l.length cd.l.length ((cd.l[n]).hd 0).n ((cd.l[n]).hd 1).n ((cd.l[n]).hd 2).n ((cd.l[n]).hd 3).n ((cd.l[n]).hd 4).n ((cd.l[n]).hd 6).l.length)->Tot 456 [(k:Int),enc d1,(d1.l.length:Int),(i:Int),enc d0,enc nm',enc lc,enc cd] (OO d0 d1):=by
   intro m
   induction m with
   |zero=>
    intro k hk hq;have c3: ¬(k:Int)<(cd.l.length:Int):=by omega
    have ih:=XO hg j (i+1) (by omega) fun n hn hni=>by
     by_cases hne:n=i
     ·subst hne;unfold ahB;rw [e1,e2];intro y hy;obtain⟨z,hz,rfl⟩:=aKG hy;exact hq z hz (by omega)
     ·exact hp n hn (by omega)
    refine Tot.of ?_;rw [aFj];simp only [ayI,zz,c3,w];exact .jump ih
   |succ m ihm=>
    intro k hk hq;have hkl:k<cd.l.length:=by omega
    have c3:(k:Int)<(cd.l.length:Int):=by omega
    have c4: ¬((k:Int)<0):=by omega
    have w2:=aZ (n:=k) (by omega);obtain⟨a,b,c,e,f,g,Rh,hin,_,_,_,_,_,_,has⟩:=abZ hcd hkl;have hroom:=has.room
    have hal:Rh.l.length<=2513169434915:=by have:xC 6=56:=rfl;rw [this] at hroom;omega
    obtain⟨ys,hM,q,rfl,aI5,hqI⟩:=aAb d0 d1 lc cd Rh (enc nm') a b c e f g hal;obtain⟨ys,hX,r,rfl,_⟩:=alD Rh lc (enc nm') (enc cd) has;refine Tot.of ?_;rw [aFj];simp only [ayI,zz,c3,c4,aX hkl,hin,zg,hM,hX,w2];refine .ite (fun _=> .jump (Ve h1 i hil j (by omega) _ _ _ _)) fun hq0=> .ite (fun _=> .jump (ihm (k+1) (by omega) fun n hn hnk=>?_)) fun _=> .jump (Ve h1 i hil j (by omega) _ _ _ _);by_cases hne:n=k
    ·subst hne;simp only [hin,zg];exact hqI (by omega)
    ·exact hq n hn (by omega)
  refine Tot.of ?_;rw [aFl];simp only [ayK,zz,c1,c2,aX hil,he,zg];exact .ite (fun _=> .jump (Ve h1 i hil j (by omega) _ _ _ _)) fun _=> .ite (fun _=> .jump (Ve h1 i hil j (by omega) _ _ _ _)) fun _=> .jump (loop cd.l.length 0 (by omega) fun n hn h=>absurd h (by omega))
include h0
theorem LZ: ∀(j i:Nat),i+j=d0.l.length->Tot 451 [enc d0,(d0.l.length:Int),(i:Int),enc d1] (OO d0 d1)
 |0,i,hi=>by
  have c1: ¬(i:Int)<(d0.l.length:Int):=by omega
  refine Tot.of ?_;rw [aFp];simp only [ayN,zz,c1];exact .jump (Gn h1 (fun _ _ _=>trivial) d1.l.length 0 (by omega))
 |j+1,i,hi=>by
  have hl:=h0.len;have c1:(i:Int)<(d0.l.length:Int):=by omega
  have c2: ¬((i:Int)<0):=by omega
  have w:=aZ (n:=i) (by omega);refine Tot.of ?_;rw [aFp];simp only [ayN,zz,c1,c2,w];exact .jump (LZ j (i+1) (by omega))
theorem Yj (hs:d0.l.length<=64) (ht:d1.l.length<=16): ∀(j i:Nat),i+j=d0.l.length->(∀(k:Nat) (h:k<d0.l.length),k<i->agG d0 d0.l[k])->Tot 452 [enc d0,(d0.l.length:Int),(i:Int),enc d1] (OO d0 d1)
 |0,i,hi,hp=>by
  have c1: ¬(i:Int)<(d0.l.length:Int):=by omega
  refine Tot.of ?_;rw [aFo];simp only [ayM,zz,c1];refine .jump (XO h1 ⟨hs,ht,fun x hx=>?_⟩ d1.l.length 0 (by omega) fun n hn h=>absurd h (by omega));obtain⟨k,hk,rfl⟩:=aKG hx;exact hp k hk (by omega)
 |j+1,i,hi,hp=>by
  have hil:i<d0.l.length:=by omega
  have c1:(i:Int)<(d0.l.length:Int):=by omega
  have c2: ¬((i:Int)<0):=by omega
  have w:=aZ (n:=i) (by omega);obtain⟨ys,hO,b,rfl,_,hob⟩:=akG d0 (enc d1) ((d0.l[i]).hd 0).n (enc ((d0.l[i]).hd 1)) ((d0.l[i]).hd 2).n (enc ((d0.l[i]).hd 3)) ((d0.l[i]).hd 4).n;refine Tot.of ?_;rw [aFo];simp only [ayM,zz,c1,c2,w,aX hil,hO];refine .ite (fun _=> .jump (LZ h0 h1 j (i+1) (by omega))) fun hb=> .jump (Yj hs ht j (i+1) (by omega) fun k hk hki=>?_);by_cases hke:k=i
  ·subst hke;exact hob hb
  ·exact hp k hk (by omega)
theorem zQ:Tot 450 [enc d0,enc d1] (OO d0 d1):=by
 refine Tot.of ?_;rw [aHE];simp only [aDC,zz]
 exact .ite (fun _=> .jump (LZ h0 h1 d0.l.length 0 (by omega))) fun ha=> .ite (fun _=> .jump (LZ h0 h1 d0.l.length 0 (by omega))) fun hb=>
  .jump (Yj h0 h1 (by omega) (by omega) d0.l.length 0 (by omega) fun k hk hki=>by omega)
end
def one (ys:List Int):Prop:= ∃k:Int,ys= [k]
theorem aFN {o:Int} (h:iM .u8 o):IntKind.i64.wrap o=o:=mY (by have:=h.1; omega) (by have:=h.2; omega)
theorem aqQ (a b c d e:Int):Tot 650 [a,b,c,d,e] (fun ys=> ∃k l:Int,ys= [k,l]/\(l=0\/l=1)):=by
 refine Tot.of ?_;rw [aA3];simp only [anL,zz]
 repeat' first |exact .out ⟨_,_,rfl,.inl rfl⟩|exact .out ⟨_,_,rfl,.inr rfl⟩|refine .ite (fun _=>?_) (fun _=>?_)
theorem Sz (r:D) (hl:r.l.length<=140737488351232) (x0 x4 x5 x6 x7 x8 x9 x10 x11 x12:Int) (v:D): ∀(j i:Nat) (x14:Int),i+j=r.l.length->
 Tot 501 [x0,enc r,(r.l.length:Int),(i:Int),x4,x5,x6,x7,x8,x9,x10,x11,x12,enc v,x14] FW
 |0,i,x14,hi=>by
  have c1: ¬(i:Int)<(r.l.length:Int):=by omega
  refine Tot.of ?_;rw [alN];simp only [XP,zz,c1]
  repeat' first |exact .out Az|exact .out Aw|refine .ite (fun _=>?_) (fun _=>?_)
 |j+1,i,x14,hi=>by
  have c1:(i:Int)<(r.l.length:Int):=by omega
  have c2: ¬((i:Int)<0):=by omega
  have w:=aZ (n:=i) (by omega);have ih:=fun x=>Sz r hl x0 x4 x5 x6 x7 x8 x9 x10 x11 x12 v j (i+1) x (by omega);refine Tot.of ?_;rw [alN];simp only [XP,zz,c1,c2,w]
  repeat' first |exact .out Az|exact .out Aw|exact .jump (ih _)|refine .ite (fun _=>?_) (fun _=>?_)
theorem aaU (x0 x1 x2 x3 x4 x5 x6 x7 x8 x11:Int) (r v:D) (hl:r.l.length<=140737488351232):Tot 500 [x0,x1,x2,x3,x4,x5,x6,x7,x8,enc r,enc v,x11] FW:=by
 obtain⟨ys,hM,a,b,rfl,hb⟩:=aqQ x0 x1 x2 x3 x4;have ih:=Sz r hl x11 x0 x1 x2 x3 x4 x5 x6 x7 x8 v r.l.length 0 (enc (.i 0)) (by omega);refine Tot.of ?_;rw [aA4];simp only [ajF,zz,hM]
 repeat' first |exact .out Az|exact .out Aw|exact .jump ih|refine .ite (fun _=>?_) (fun _=>?_)
theorem set_self {d:D} (hd:d=dL d.l) {i:Nat} (hi:i<d.l.length):dL (dY d.l (i:Int) d.l[i])=d:=by rw [yQ,List.set_getElem_self,<- hd]
theorem NU (a b c d e f x:D):dY [a,b,c,d,e,f] 4 x= [a,b,c,d,x,f]:=rfl
theorem NT (a b c d e f x:D):dY [a,b,c,d,e,f] 5 x= [a,b,c,d,e,x]:=rfl
theorem iP: ¬(enc (.i 2)=enc (.i 1)):=fun h=>by have:=jB h; simp at this
theorem len1:(((D.i 1).l.length:Nat):Int)=0:=rfl
theorem len2:(((D.i 2).l.length:Nat):Int)=0:=rfl
theorem nI: ¬((0:Int)<0):=by omega
theorem bF {r:D} (h:Wd (.sl 0) r):r= .i 1\/r= .i 2\/((0:Int)<(r.l.length:Int)/\(r.l.length:Int)<17592186044416):=by
 rcases h.sh with h1|h1|⟨h1,h2⟩
 ·exact .inl h1
 ·exact .inr (.inl h1)
 ·have hr:=h.room;have h3:xC 0=8:=rfl;rw [h3] at hr;have:=aKe.2 h2;exact .inr (.inr ⟨by omega,by omega⟩)
structure Th (d:D):Prop where
 wd:Wd (.sl 7) d
 sh:d=dL d.l
 few:d.l.length<=1759218604390
theorem BZ {d:D} (h:Wd (.sl 7) d) (hn:0<d.l.length):Th d:=by
 refine⟨h,?_,?_⟩
 ·rcases h.sh with rfl|rfl|⟨h1,_⟩
  ·simp [D.l] at hn
  ·simp [D.l] at hn
  ·exact h1
 ·have hr:=h.room;have h3:xC 7=80:=rfl;rw [h3] at hr;omega
theorem UG (d:D) (h:Th d): ∀(j i:Nat),i+j=d.l.length->L 551 [enc d,(d.l.length:Int),(i:Int)]=some [enc d]
 |0,i,hi=>by
  have c1: ¬(i:Int)<(d.l.length:Int):=by omega
  rw [aN,aFi];simp only [ayH,zz,c1,fin]
 |j+1,i,hi=>by
  have hl:=h.few;have hil:i<d.l.length:=by omega
  have c1:(i:Int)<(d.l.length:Int):=by omega
  have c2: ¬((i:Int)<0):=by omega
  have w:=aZ (n:=i) (by omega);have ih:=UG d h j (i+1) (by omega);obtain⟨o,c,dn,g,r,v,he,_,_,_,_,hr,hv⟩:=h.wd.thing _ (aJm hil);have hs:=set_self h.sh hil;rw [he] at hs;rw [aN,aFi];rcases bF hr with rfl|rfl|⟨r1,r2⟩ <;>rcases bF hv with rfl|rfl|⟨v1,v2⟩
  all_goals
   simp only [ayH,zz,c1,c2,w,aX hil,he,eP,aW,aJn,aJk,NU,NT,hs,len1,len2,nI,iP]
   try simp only [r1,r2,zz]
   try simp only [v1,v2,zz]
   try simp only [fin]
   exact ih
theorem awL (d:D) (h:Wd (.sl 7) d):L 550 [enc d]=some [enc d]:=by
 rw [aN,aHD];rcases h.sh with rfl|rfl|⟨h1,h2⟩
 ·simp only [anQ,zz,len1,nI,fin];rw [aN,aHC];rfl
 ·simp only [anQ,zz,len2,nI,iP,fin];rw [aN,aHB];rfl
 ·have hp:=aKe.2 h2;have ht:=BZ h hp;have hl:=ht.few;have c1:(0:Int)<(d.l.length:Int):=by omega
  have c2:(d.l.length:Int)<1759218604441:=by omega
  simp only [anQ,zz,c1,c2,fin];exact UG d ht d.l.length 0 (by omega)
theorem UL (d:D) (h:Th d) (gi:Nat) (x4 x5 x6 x7 x8 x9:Int): ∀(j i:Nat),gi<i->i+j=d.l.length->L 9004 [(gi:Int),enc d,(d.l.length:Int),(i:Int),x4,x5,x6,x7,x8,x9]=some [3,(gi:Int),enc d,x4,x5,x6,x7,x8,x9]
 |0,i,hg,hi=>by
  have c1: ¬(i:Int)<(d.l.length:Int):=by omega
  have c0: ¬((i:Int)=(gi:Int)):=by omega
  rw [aN,atI];simp only [aeS,zz,c0,c1,fin]
 |j+1,i,hg,hi=>by
  have hl:=h.few;have hil:i<d.l.length:=by omega
  have c1:(i:Int)<(d.l.length:Int):=by omega
  have c2: ¬((i:Int)<0):=by omega
  have c0: ¬((i:Int)=(gi:Int)):=by omega
  have w:=aZ (n:=i) (by omega);have ih:=UL d h gi x4 x5 x6 x7 x8 x9 j (i+1) (by omega) (by omega);obtain⟨o,c,dn,g,r,v,he,_,_,_,_,hr,hv⟩:=h.wd.thing _ (aJm hil);have hs:=set_self h.sh hil;rw [he] at hs;rw [aN,atI];rcases bF hr with rfl|rfl|⟨r1,r2⟩ <;>rcases bF hv with rfl|rfl|⟨v1,v2⟩
  all_goals
   simp only [aeS,zz,c0,c1,c2,w,aX hil,he,eP,aW,aJn,aJk,NU,NT,hs,len1,len2,nI,iP]
   try simp only [r1,r2,zz]
   try simp only [v1,v2,zz]
   try simp only [fin]
   exact ih
theorem UK (d:D) (h:Th d) (gi:Nat) (x4 x5 x6 x7 x8 x9:Int): ∀(j i:Nat),gi<i->i+j=d.l.length->L 9005 [(gi:Int),enc d,(d.l.length:Int),(i:Int),x4,x5,x6,x7,x8,x9]=some [4,(gi:Int),enc d,x4,x5,x6,x7,x8,x9]
 |0,i,hg,hi=>by
  have c1: ¬(i:Int)<(d.l.length:Int):=by omega
  have c0: ¬((i:Int)=(gi:Int)):=by omega
  rw [aN,atH];simp only [aeR,zz,c0,c1,fin]
 |j+1,i,hg,hi=>by
  have hl:=h.few;have hil:i<d.l.length:=by omega
  have c1:(i:Int)<(d.l.length:Int):=by omega
  have c2: ¬((i:Int)<0):=by omega
  have c0: ¬((i:Int)=(gi:Int)):=by omega
  have w:=aZ (n:=i) (by omega);have ih:=UK d h gi x4 x5 x6 x7 x8 x9 j (i+1) (by omega) (by omega);obtain⟨o,c,dn,g,r,v,he,_,_,_,_,hr,hv⟩:=h.wd.thing _ (aJm hil);have hs:=set_self h.sh hil;rw [he] at hs;rw [aN,atH];rcases bF hr with rfl|rfl|⟨r1,r2⟩ <;>rcases bF hv with rfl|rfl|⟨v1,v2⟩
  all_goals
   simp only [aeR,zz,c0,c1,c2,w,aX hil,he,eP,aW,aJn,aJk,NU,NT,hs,len1,len2,nI,iP]
   try simp only [r1,r2,zz]
   try simp only [v1,v2,zz]
   try simp only [fin]
   exact ih
theorem UJ (d:D) (h:Th d) (gi:Nat) (x4 x5 x6 x7 x8 x9:Int): ∀(j i:Nat),gi<i->i+j=d.l.length->L 9006 [(gi:Int),enc d,(d.l.length:Int),(i:Int),x4,x5,x6,x7,x8,x9]=some [5,(gi:Int),enc d,x4,x5,x6,x7,x8,x9]
 |0,i,hg,hi=>by
  have c1: ¬(i:Int)<(d.l.length:Int):=by omega
  have c0: ¬((i:Int)=(gi:Int)):=by omega
  rw [aN,atG];simp only [aeQ,zz,c0,c1,fin]
 |j+1,i,hg,hi=>by
  have hl:=h.few;have hil:i<d.l.length:=by omega
  have c1:(i:Int)<(d.l.length:Int):=by omega
  have c2: ¬((i:Int)<0):=by omega
  have c0: ¬((i:Int)=(gi:Int)):=by omega
  have w:=aZ (n:=i) (by omega);have ih:=UJ d h gi x4 x5 x6 x7 x8 x9 j (i+1) (by omega) (by omega);obtain⟨o,c,dn,g,r,v,he,_,_,_,_,hr,hv⟩:=h.wd.thing _ (aJm hil);have hs:=set_self h.sh hil;rw [he] at hs;rw [aN,atG];rcases bF hr with rfl|rfl|⟨r1,r2⟩ <;>rcases bF hv with rfl|rfl|⟨v1,v2⟩
  all_goals
   simp only [aeQ,zz,c0,c1,c2,w,aX hil,he,eP,aW,aJn,aJk,NU,NT,hs,len1,len2,nI,iP]
   try simp only [r1,r2,zz]
   try simp only [v1,v2,zz]
   try simp only [fin]
   exact ih
theorem UH (d:D) (h:Th d) (gi:Nat) (x4 x5 x6 x7 x8 x9:Int): ∀(j i:Nat),gi<i->i+j=d.l.length->L 9007 [(gi:Int),enc d,(d.l.length:Int),(i:Int),x4,x5,x6,x7,x8,x9]=some [6,(gi:Int),enc d,x4,x5,x6,x7,x8,x9]
 |0,i,hg,hi=>by
  have c1: ¬(i:Int)<(d.l.length:Int):=by omega
  have c0: ¬((i:Int)=(gi:Int)):=by omega
  rw [aN,atF];simp only [aeP,zz,c0,c1,fin]
 |j+1,i,hg,hi=>by
  have hl:=h.few;have hil:i<d.l.length:=by omega
  have c1:(i:Int)<(d.l.length:Int):=by omega
  have c2: ¬((i:Int)<0):=by omega
  have c0: ¬((i:Int)=(gi:Int)):=by omega
  have w:=aZ (n:=i) (by omega);have ih:=UH d h gi x4 x5 x6 x7 x8 x9 j (i+1) (by omega) (by omega);obtain⟨o,c,dn,g,r,v,he,_,_,_,_,hr,hv⟩:=h.wd.thing _ (aJm hil);have hs:=set_self h.sh hil;rw [he] at hs;rw [aN,atF];rcases bF hr with rfl|rfl|⟨r1,r2⟩ <;>rcases bF hv with rfl|rfl|⟨v1,v2⟩
  all_goals
   simp only [aeP,zz,c0,c1,c2,w,aX hil,he,eP,aW,aJn,aJk,NU,NT,hs,len1,len2,nI,iP]
   try simp only [r1,r2,zz]
   try simp only [v1,v2,zz]
   try simp only [fin]
   exact ih
def qE (r v:D):Int:=if 0<r.l.length then (if 0<v.l.length then 3 else 4) else (if 0<v.l.length then 5 else 6)
theorem aDa (d:D) (h:Th d) (gi:Nat) (hgi:gi<d.l.length) (o c dn g:Int) (r v:D) (he':d.l[gi]=dL [.i o,.i c,.i dn,.i g,r,v]): ∀(j i:Nat),i<=gi->i+j=gi->
 L 9001 [(gi:Int),enc d,(d.l.length:Int),(i:Int)]=some [qE r v,(gi:Int),enc d,o,c,dn,g,enc r,enc v]
 |0,i,hg,hi=>by
  obtain rfl:i=gi:=by omega
  have hl:=h.few;have c1:(i:Int)<(d.l.length:Int):=by omega
  have c2: ¬((i:Int)<0):=by omega
  have w:=aZ (n:=i) (by omega);obtain⟨o',c',IX,g',r',v',he,_,_,_,_,hr,hv⟩:=h.wd.thing _ (aJm hgi);rw [he'] at he;have he:=P6 he;simp only [List.cons.injEq,D.i.injEq,and_true] at he;obtain⟨rfl,rfl,rfl,rfl,rfl,rfl⟩:=he;have b4:=fun a b=>UL d h i o c dn g a b (d.l.length-(i+1)) (i+1) (by omega) (by omega);have b5:=fun a b=>UK d h i o c dn g a b (d.l.length-(i+1)) (i+1) (by omega) (by omega);have b6:=fun a b=>UJ d h i o c dn g a b (d.l.length-(i+1)) (i+1) (by omega) (by omega);have b7:=fun a b=>UH d h i o c dn g a b (d.l.length-(i+1)) (i+1) (by omega) (by omega);rw [aN,Za];rcases bF hr with rfl|rfl|⟨r1,r2⟩
  ·rcases bF hv with rfl|rfl|⟨v1,v2⟩
   ·simp only [wE,zz,c1,c2,w,aX hgi,he',eP,aW,aJn,aJk,len1,nI,fin,b7];rw [qE,aJd (by simp [D.l]),aJd (by simp [D.l])]
   ·simp only [wE,zz,c1,c2,w,aX hgi,he',eP,aW,aJn,aJk,len1,nI,len2,iP,fin,b7];rw [qE,aJd (by simp [D.l]),aJd (by simp [D.l])]
   ·simp only [wE,zz,c1,c2,w,aX hgi,he',eP,aW,aJn,aJk,len1,nI,v1,v2,fin,b6];rw [qE,aJd (by simp [D.l]),aJe (by omega)]
  ·rcases bF hv with rfl|rfl|⟨v1,v2⟩
   ·simp only [wE,zz,c1,c2,w,aX hgi,he',eP,aW,aJn,aJk,len2,nI,iP,len1,fin,b7];rw [qE,aJd (by simp [D.l]),aJd (by simp [D.l])]
   ·simp only [wE,zz,c1,c2,w,aX hgi,he',eP,aW,aJn,aJk,len2,nI,iP,fin,b7];rw [qE,aJd (by simp [D.l]),aJd (by simp [D.l])]
   ·simp only [wE,zz,c1,c2,w,aX hgi,he',eP,aW,aJn,aJk,len2,nI,iP,v1,v2,fin,b6];rw [qE,aJd (by simp [D.l]),aJe (by omega)]
  ·rcases bF hv with rfl|rfl|⟨v1,v2⟩
   ·simp only [wE,zz,c1,c2,w,aX hgi,he',eP,aW,aJn,aJk,r1,r2,len1,nI,fin,b5];rw [qE,aJe (by omega),aJd (by simp [D.l])]
   ·simp only [wE,zz,c1,c2,w,aX hgi,he',eP,aW,aJn,aJk,r1,r2,len2,nI,iP,fin,b5];rw [qE,aJe (by omega),aJd (by simp [D.l])]
   ·simp only [wE,zz,c1,c2,w,aX hgi,he',eP,aW,aJn,aJk,r1,r2,v1,v2,fin,b4];rw [qE,aJe (by omega),aJe (by omega)]
 |j+1,i,hg,hi=>by
  have hl:=h.few;have hil:i<d.l.length:=by omega
  have c1:(i:Int)<(d.l.length:Int):=by omega
  have c2: ¬((i:Int)<0):=by omega
  have c0: ¬((i:Int)=(gi:Int)):=by omega
  have w:=aZ (n:=i) (by omega);have ih:=aDa d h gi hgi o c dn g r v he' j (i+1) (by omega) (by omega);clear he';obtain⟨o2,c2',dn2,g2,r2',v2',he,_,_,_,_,hr,hv⟩:=h.wd.thing _ (aJm hil);have hs:=set_self h.sh hil;rw [he] at hs;rw [aN,Za];rcases bF hr with rfl|rfl|⟨r1,r2⟩ <;>rcases bF hv with rfl|rfl|⟨v1,v2⟩
  all_goals
   simp only [wE,zz,c0,c1,c2,w,aX hil,he,eP,aW,aJn,aJk,NU,NT,hs,len1,len2,nI,iP]
   try simp only [r1,r2,zz]
   try simp only [v1,v2,zz]
   try simp only [fin]
   exact ih
theorem aC9 (d:D) (h:Th d) (gi:Nat) (hgi:gi<d.l.length) (o c dn g:Int) (r v:D) (he':d.l[gi]=dL [.i o,.i c,.i dn,.i g,r,v]) :
 L 9000 [(gi:Int),enc d]=some [qE r v,(gi:Int),enc d,o,c,dn,g,enc r,enc v]:=by
 have hl:=h.few;have c1:(0:Int)<(d.l.length:Int):=by omega
 have c2:(d.l.length:Int)<1759218604441:=by omega
 rw [aN,atJ];simp only [RV,zz,c1,c2,fin];exact aDa d h gi hgi o c dn g r v he' gi 0 (by omega) (by omega)
theorem P9 (d:D) (h:Th d) (x:Int) (hx:x<0\/(d.l.length:Int)<=x): ∀(j i:Nat),i+j=d.l.length->L 9001 [x,enc d,(d.l.length:Int),(i:Int)]=some [0,x,enc d]
 |0,i,hi=>by
  have c1: ¬(i:Int)<(d.l.length:Int):=by omega
  rw [aN,Za];by_cases c0:(i:Int)=x
  ·simp only [wE,zz,c0,fin];have c1: ¬x<(d.l.length:Int):=by omega
   simp only [aJd c1]
  ·simp only [wE,zz,c0,c1,fin]
 |j+1,i,hi=>by
  have hl:=h.few;have hil:i<d.l.length:=by omega
  have c1:(i:Int)<(d.l.length:Int):=by omega
  have c2: ¬((i:Int)<0):=by omega
  have c0: ¬((i:Int)=x):=by omega
  have w:=aZ (n:=i) (by omega);have ih:=P9 d h x hx j (i+1) (by omega);obtain⟨o,c,dn,g,r,v,he,_,_,_,_,hr,hv⟩:=h.wd.thing _ (aJm hil);have hs:=set_self h.sh hil;rw [he] at hs;rw [aN,Za];rcases bF hr with rfl|rfl|⟨r1,r2⟩ <;>rcases bF hv with rfl|rfl|⟨v1,v2⟩
  all_goals
   simp only [wE,zz,c0,c1,c2,w,aX hil,he,eP,aW,aJn,aJk,NU,NT,hs,len1,len2,nI,iP]
   try simp only [r1,r2,zz]
   try simp only [v1,v2,zz]
   try simp only [fin]
   exact ih
theorem copyN (d:D) (h:Wd (.sl 7) d) (x:Int) (hx:x<0\/(d.l.length:Int)<=x):Tot 9000 [x,enc d] (fun ys=>ys= [0,x,enc d]\/(ys= [1,x]/\d= .i 1)\/(ys= [2,x]/\d= .i 2)):=by
 refine Tot.of ?_;rw [atJ];rcases h.sh with rfl|rfl|⟨h1,h2⟩
 ·simp only [RV,zz,len1,nI];refine .jump (Tot.of ?_);rw [aCo];simp only [anJ,zz];exact .ite (fun _=> .out (.inr (.inl rfl))) fun _=> .out (.inr (.inl rfl))
 ·simp only [RV,zz,len2,nI,iP];refine .jump (Tot.of ?_);rw [aCn];simp only [anI,zz];exact .ite (fun _=> .out (.inr (.inr rfl))) fun _=> .out (.inr (.inr rfl))
 ·have hp:=aKe.2 h2;have ht:=BZ h hp;have hl:=ht.few;have c1:(0:Int)<(d.l.length:Int):=by omega
  have c2:(d.l.length:Int)<1759218604441:=by omega
  simp only [RV,zz,c1,c2];exact .jump ⟨_,P9 d ht x hx d.l.length 0 (by omega),.inl rfl⟩
def ayU (d x:D) (m:Nat):List Int:=[(d.hd 0).n,enc (d.hd 1),(d.hd 2).n,enc (d.hd 3),(d.hd 4).n,(x.hd 0).n,(x.hd 1).n,(if (x.hd 2).n=0 then 0 else 1),(x.hd 3).n,enc (x.hd 4),enc (x.hd 5),(m:Int)]
def Snd (d x:D) (m:Nat):Prop:=L 500 (ayU d x m)=some [1]
theorem ayT (d x:D) (m:Nat) (h:(x.hd 4).l.length<=140737488351232): ∃c,L 500 (ayU d x m)=some [c]/\(c=0\/c=1):=by obtain⟨ys,h1,c,rfl,hc⟩:=aaU (d.hd 0).n (enc (d.hd 1)) (d.hd 2).n (enc (d.hd 3)) (d.hd 4).n (x.hd 0).n (x.hd 1).n (if (x.hd 2).n=0 then 0 else 1) (x.hd 3).n (m:Int) (x.hd 4) (x.hd 5) h;exact⟨c,h1,hc⟩
theorem aC:((1:Int)=0)=False:=by simp
def FB (s:D):Prop:= ∀x∈s.l,(x.hd 4).l.length<=140737488351232
section
variable {d0 d1 s:D} (hr:FB s) (hle:s.l.length=d0.l.length) (hlen:d0.l.length<=140737488351232)
include hr hle hlen
theorem N8: ∀(j i:Nat),i+j=s.l.length->∃b:Int,L 351 [enc s,(s.l.length:Int),(i:Int),enc d0,enc d1]=some [b]/\(b=0\/b=1)/\
 (b=1↔∀(k:Nat) (hk:k<s.l.length),i<=k->Snd (d0.l[k]'(hle▸hk)) s.l[k] d1.l.length)
 |0,i,hi=>by
  have c1: ¬(i:Int)<(s.l.length:Int):=by omega
  refine⟨1,?_,.inr rfl,fun _ k hk h=>absurd hk (by omega),fun _=>rfl⟩;rw [aN,aA5];simp only [Z9,zz,c1,fin]
 |j+1,i,hi=>by
  have hil:i<s.l.length:=by omega
  have hid:i<d0.l.length:=by omega
  have c1:(i:Int)<(s.l.length:Int):=by omega
  have c2: ¬((i:Int)<0):=by omega
  have c3:(i:Int)<(d0.l.length:Int):=by omega
  have w:=aZ (n:=i) (by omega);obtain⟨c,hS,hc⟩:=ayT d0.l[i] s.l[i] d1.l.length (hr _ (aJm hil));obtain⟨b,hb1,hb2,ih⟩:=N8 j (i+1) (by omega);have hS':=hS;unfold ayU at hS;by_cases hc0:c=0
  ·subst hc0;refine⟨0,?_,.inl rfl,fun h=>absurd h (by omega),fun h=>?_⟩
   ·rw [aN,aA5];by_cases hn:((s.l[i]).hd 2).n=0
    ·rw [aJe hn] at hS;simp only [Z9,zz,c1,c2,c3,w,aX hil,aX hid,hn,hS,fin]
    ·rw [aJd hn] at hS;simp only [Z9,zz,c1,c2,c3,w,aX hil,aX hid,hn,hS,fin]
   ·have:=h i hil (aJi i);unfold Snd at this;rw [hS'] at this;simp at this
  ·have hc1:c=1:=by omega
   subst hc1;refine⟨b,?_,hb2,fun h k hk hik=>?_,fun h=>ih.2 fun k hk hik=>h k hk (by omega)⟩
   ·rw [aN,aA5];by_cases hn:((s.l[i]).hd 2).n=0
    ·rw [aJe hn] at hS;simp only [Z9,zz,c1,c2,c3,w,aX hil,aX hid,hn,hS,fin,aC,hb1]
    ·rw [aJd hn] at hS;simp only [Z9,zz,c1,c2,c3,w,aX hil,aX hid,hn,hS,fin,aC,hb1]
   ·by_cases hke:k=i
    ·subst hke;exact hS'
    ·exact ih.1 h k hk (by omega)
end
theorem nY {d0 d1 s:D} (h0:Wd (.sl 3) d0) (h1:Wd (.sl 4) d1) (hr:FB s): ∃b:Int,L 350 [enc d0,enc d1,enc s]=some [b]/\(b=0\/b=1)/\
 (b=1↔L 450 [enc d0,enc d1]=some [0]/\∃hle:s.l.length=d0.l.length,∀(k:Nat) (hk:k<s.l.length),Snd (d0.l[k]'(hle▸hk)) s.l[k] d1.l.length):=by
 obtain⟨ys,hC,c,rfl,hc,hok⟩:=zQ h0 h1;by_cases hc0:c=0
 ·subst hc0;by_cases hl:s.l.length=d0.l.length
  ·have hlen:=h0.len;obtain⟨b,hb1,hb2,hb3⟩:=N8 (d1:=d1) hr hl hlen s.l.length 0 (by omega);refine⟨b,?_,hb2,fun h=> ⟨hC,hl,fun k hk=>hb3.1 h k hk (by omega)⟩,fun⟨_,_,h⟩=>hb3.2 fun k hk _=>h k hk⟩;have hl':(s.l.length:Int)=(d0.l.length:Int):=by omega
   rw [aN,aA6,aoD,dP,aJe,dP,aJe,dP,aJe,pR]
   ·simp only [List.map,bT,iK,jG,aY,Nat.reduceLT,aQ,aT,aF,fin];exact hb1
   ·simp only [jD,oZ,bT,iE,iW,iK,List.map,jG,aY,Nat.reduceLT,aQ,aT,aF];exact hl'
   ·simp only [jD,oZ,bT,iE,iW,iK,List.map,jG,aY,Nat.reduceLT,aQ,aT,aF];rw [hC];simp only [aQ,aT,aJI,aJl,if_true]
   ·simp only [jD,oZ,bT,iE,iW,iK,List.map,jG,aY,Nat.reduceLT,aQ,aT,aF];rw [hC];simp only [aQ,aT,aJI,aJl,if_true]
  ·refine⟨0,?_,.inl rfl,fun h=>absurd h (by omega),fun⟨_,h,_⟩=>absurd h hl⟩;have hl': ¬(s.l.length:Int)=(d0.l.length:Int):=by omega
   rw [aN,aA6,aoD,dP,aJe,dP,aJe,dP,aJd]
   ·simp only [kR,List.map,bT,fin]
   ·simp only [jD,oZ,bT,iE,iW,iK,List.map,jG,aY,Nat.reduceLT,aQ,aT,aF];exact hl'
   ·simp only [jD,oZ,bT,iE,iW,iK,List.map,jG,aY,Nat.reduceLT,aQ,aT,aF];rw [hC];simp only [aQ,aT,aJI,aJl,if_true]
   ·simp only [jD,oZ,bT,iE,iW,iK,List.map,jG,aY,Nat.reduceLT,aQ,aT,aF];rw [hC];simp only [aQ,aT,aJI,aJl,if_true]
 ·refine⟨0,?_,.inl rfl,fun h=>absurd h (by omega),fun⟨h,_⟩=>?_⟩
  ·rw [aN,aA6,aoD,dP,aJe,dP,aJd]
   ·simp only [kR,List.map,bT,fin]
   ·simp only [jD,oZ,bT,iE,iW,iK,List.map,jG,aY,Nat.reduceLT,aQ,aT,aF];rw [hC];simp only [aQ,aT,aJI,aJl,if_true];exact hc0
   ·simp only [jD,oZ,bT,iE,iW,iK,List.map,jG,aY,Nat.reduceLT,aQ,aT,aF];rw [hC];simp only [aQ,aT,aJI,aJl,if_true]
  ·rw [hC] at h;simp at h;exact absurd h hc0
def OkT (d0:D) (nl nc:Nat) (a:Int) (ll:Nat) (w o g t:Int):Prop:=
 0<=a/\a<=(nc:Int)/\(ll:Int)=(nl:Int)/\0<=t/\t<=4611686018427387904/\
  (w=0/\o=0/\g=0\/w=24/\0<=o/\o<(d0.l.length:Int)/\((d0.at o).hd 0).n=4\/w=25/\0<=o/\o<(d0.l.length:Int)/\((d0.at o).hd 0).n=5)
def Xw (p:Prop) (ys:List Int):Prop:= ∃b:Int,ys= [b]/\(b=0/\¬p\/b=1/\p)
theorem xP {p:Prop} (h: ¬p):Xw p [0]:=⟨0,rfl,.inl ⟨rfl,h⟩⟩
theorem Ub {p:Prop} (h:p):Xw p [1]:=⟨1,rfl,.inr ⟨rfl,h⟩⟩
theorem ayB (d0 d3 d4 d6:D) (x1 x2 x5 x7 x8 x9 x10:Int):Tot 1600 [enc d0,x1,x2,enc d3,enc d4,x5,enc d6,x7,x8,x9,x10] (Xw (OkT d0 d3.l.length d4.l.length x5 d6.l.length x7 x8 x9 x10)):=by
 unfold OkT;refine Tot.of ?_;rw [aCV];simp only [aoM,zz]
 repeat' first
  |exact .out (xP (by omega))
  |exact .out (Ub (by omega))
  |refine .ite (fun _=>?_) (fun _=>?_)
def OkK (d0 x k:D):Prop:=OkT d0 (x.hd 1).l.length (x.hd 2).l.length (k.hd 0).n (k.hd 1).l.length (k.hd 2).n (k.hd 3).n (k.hd 4).n (k.hd 5).n
section
variable {d0 d1 k:D} (hle:k.l.length=d1.l.length) (hlen:d1.l.length<=140737488351232)
include hle hlen
theorem Kv: ∀(j i:Nat),i+j=k.l.length->Tot 1501 [enc k,(k.l.length:Int),(i:Int),enc d0,enc d1] (Xw (∀(n:Nat) (hn:n<k.l.length),i<=n->OkK d0 (d1.l[n]'(hle▸hn)) k.l[n]))
 |0,i,hi=>by
  have c1: ¬(i:Int)<(k.l.length:Int):=by omega
  refine Tot.of ?_;rw [auQ];simp only [afQ,zz,c1];exact .out (Ub fun n hn h=>by omega)
 |j+1,i,hi=>by
  have hil:i<k.l.length:=by omega
  have hid:i<d1.l.length:=by omega
  have c1:(i:Int)<(k.l.length:Int):=by omega
  have c2: ¬((i:Int)<0):=by omega
  have c3:(i:Int)<(d1.l.length:Int):=by omega
  have w:=aZ (n:=i) (by omega);obtain⟨ys,hT,b,rfl,hb⟩:=ayB d0 ((d1.l[i]).hd 1) ((d1.l[i]).hd 2) ((k.l[i]).hd 1) (enc d1) (enc ((d1.l[i]).hd 0)) ((k.l[i]).hd 0).n ((k.l[i]).hd 2).n ((k.l[i]).hd 3).n ((k.l[i]).hd 4).n ((k.l[i]).hd 5).n;obtain⟨ys,ih,b',rfl,hb'⟩:=Kv j (i+1) (by omega);refine Tot.of ?_;rw [auQ];simp only [afQ,zz,c1,c2,c3,aX hil,aX hid,w,hT];refine .ite (fun h0=> .out (xP fun h=>?_)) (fun h0=> .jump ⟨_,ih,b',rfl,?_⟩)
  ·rcases hb with ⟨_,hb⟩|⟨hb,_⟩
   ·exact hb (h i hil (aJi _))
   ·omega
  ·rcases hb with ⟨hb,_⟩|⟨_,hb⟩
   ·exact absurd hb h0
   ·rcases hb' with ⟨q,hb'⟩|⟨q,hb'⟩
    ·exact .inl ⟨q,fun h=>hb' fun n hn hni=>h n hn (by omega)⟩
    ·refine .inr ⟨q,fun n hn hni=>?_⟩;by_cases he:n=i
     ·subst he; exact hb
     ·exact hb' n hn (by omega)
end
def MR (d0 d1 s k:D):Prop:=L 350 [enc d0,enc d1,enc s]=some [1]/\∃hle:k.l.length=d1.l.length,∀(n:Nat) (hn:n<k.l.length),OkK d0 (d1.l[n]'(hle▸hn)) k.l[n]
theorem Jp {d0 d1 s k:D} (h0:Wd (.sl 3) d0) (h1:Wd (.sl 4) d1) (hr:FB s) (hlen:d1.l.length<=140737488351232):Tot 1500 [enc d0,enc d1,enc s,enc k] (Xw (MR d0 d1 s k)):=by
 obtain⟨b,hb,hb1,_⟩:=nY h0 h1 hr;refine Tot.of ?_;rw [aCX];simp only [aoO,zz,hb];refine .ite (fun h=> .out (xP fun q=>?_)) (fun h=> .ite (fun hl=>?_) (fun hl=> .out (xP fun q=>?_)))
 ·have:=q.1;rw [hb] at this;simp at this;omega
 ·have hle:k.l.length=d1.l.length:=by omega
  obtain⟨ys,hL,b',rfl,hb'⟩:=Kv (d0:=d0) hle hlen k.l.length 0 (by omega);refine .jump ⟨_,hL,b',rfl,?_⟩;have hone:b=1:=by omega
  subst hone;rcases hb' with ⟨q,hb'⟩|⟨q,hb'⟩
  ·exact .inl ⟨q,fun h=>hb' fun n hn _=>h.2.2 n hn⟩
  ·exact .inr ⟨q,hb,hle,fun n hn=>hb' n hn (aKl _)⟩
 ·have:=q.2.1;omega
theorem X8 {d0 d1 s k:D} (h0:Wd (.sl 3) d0) (h1:Wd (.sl 4) d1) (hr:FB s) (hlen:d1.l.length<=140737488351232) (t:Int):Tot 1550 [enc d0,enc d1,enc s,enc k,t] (Xw (0<=t/\t<(d1.l.length:Int)/\MR d0 d1 s k)):=by
 obtain⟨ys,hM,b,rfl,hb⟩:=Jp h0 h1 hr hlen (k:=k);refine Tot.of ?_;rw [aCW];simp only [aoN,zz,hM];refine .ite (fun h=> .out (xP fun q=>by omega)) (fun h=> .ite (fun h2=> .ite (fun h3=> .out (xP fun q=>?_)) (fun h3=> .out (Ub ?_))) (fun h2=> .out (xP fun q=>by omega)))
 ·rcases hb with ⟨_,hb⟩|⟨hb,_⟩
  ·exact hb q.2.2
  ·omega
 ·rcases hb with ⟨hb,_⟩|⟨_,hb⟩
  ·exact absurd hb h3
  ·exact⟨by omega,h2,hb⟩
def firstAt (t:Int):List D->Nat->Int
 |[],_=> -1
 |x::l,i=>if x.n=t then (i:Int) else firstAt t l (i+1)
def place (r:D) (t:Int):Int:=firstAt t r.l 0
def wo (t:Int) (l:List D):List D:=l.filter fun x=>decide (x.n≠t)
theorem EW (t:Int): ∀(l:List D) (i:Nat),(firstAt t l i= -1/\∀x∈l,x.n≠t)\/∃(k:Nat) (h:k<l.length),firstAt t l i=((i+k:Nat):Int)/\(l[k]).n=t/\∀x∈l.take k,x.n≠t
 |[],_=> .inl ⟨rfl,fun x h=>absurd h (by simp)⟩
 |x::l,i=>by
  unfold firstAt;by_cases hx:x.n=t
  ·rw [aJe hx];exact .inr ⟨0,by simp,by simp,hx,by simp⟩
  ·rw [aJd hx];rcases EW t l (i+1) with ⟨h1,h2⟩|⟨k,hk,h1,h2,h3⟩
   ·exact .inl ⟨h1,fun y hy=>by rcases aJq.1 hy with rfl|hy; exact hx; exact h2 y hy⟩
   ·refine .inr ⟨k+1,by simp; omega,by rw [h1]; congr 1; omega,by simpa using h2,fun y hy=>?_⟩;rw [aKj] at hy;rcases aJq.1 hy with rfl|hy
    ·exact hx
    ·exact h3 y hy
theorem tZ (r:D) (t:Int):(place r t= -1/\∀x∈r.l,x.n≠t)\/∃(k:Nat) (h:k<r.l.length),place r t=(k:Int)/\(r.l[k]).n=t/\∀x∈r.l.take k,x.n≠t:=by have:=EW t r.l 0;simp only [aJp] at this;exact this
theorem jF (r:D) (t:Int): -1<=place r t/\place r t<(r.l.length:Int):=by rcases tZ r t with ⟨h,_⟩|⟨k,hk,h,_⟩ <;>rw [h]<;>omega
theorem LG {t:Int} {l:List D} (h: ∀x∈l,x.n≠t):wo t l=l:=List.filter_eq_self.2 fun x hx=>by simpa using h x hx
theorem AZ {r:D} {t:Int} {i:Nat} (h:i<r.l.length):firstAt t (r.l.drop i) i=if (r.at (i:Int)).n=t then (i:Int) else firstAt t (r.l.drop (i+1)) (i+1):=by rw [aJN h,aX h];rfl
theorem arM (r:D) (t:Int) (hl:r.l.length<=140737488351232): ∀(j i:Nat),i+j=r.l.length->L 851 [enc r,t,(r.l.length:Int),(i:Int)]=some [firstAt t (r.l.drop i) i]
 |0,i,hi=>by
  have c1: ¬(i:Int)<(r.l.length:Int):=by omega
  rw [aJ7 (by omega),aN,aFh];simp only [anK,zz,c1,fin,firstAt]
 |j+1,i,hi=>by
  have c1:(i:Int)<(r.l.length:Int):=by omega
  have c2: ¬((i:Int)<0):=by omega
  have w:=aZ (n:=i) (by omega);have ih:=arM r t hl j (i+1) (by omega);rw [AZ (by omega),aN,aFh];by_cases he:(r.at (i:Int)).n=t
  ·simp only [anK,zz,c1,c2,he,fin]
  ·have he': ¬t=(r.at (i:Int)).n:=fun h=>he h.symm;simp only [anK,zz,c1,c2,aJd he,aJd he',w,fin,ih]
theorem dM (r:D) (t:Int) (hl:r.l.length<=140737488351232):L 850 [enc r,t]=some [place r t]:=by have h:=arM r t hl r.l.length 0 (by omega);rw [aN,aHu];simp only [aDx,zz,fin];exact h
theorem has_is (r:D) (t:Int) (hl:r.l.length<=140737488351232):L 900 [enc r,t]=some [if place r t<0 then 0 else 1]:=by rw [aN,aHt];simp only [aDw,zz,dM r t hl];split<;>rfl
theorem Hl (r:D) (t:Int) (hl:r.l.length<=140737488351232) (y2 y3 y4 y5 y6 y7 y8 y9 rF rE rD:Int): ∀(j i:Nat),i+j=r.l.length->
 L 12051 [enc r,t,y2,y3,y4,y5,y6,y7,y8,y9,rF,rE,rD,(r.l.length:Int),(i:Int)]=some [0,enc r,t,y2,y3,y4,y5,y6,y7,y8,y9,rF,rE,rD,firstAt t (r.l.drop i) i]
 |0,i,hi=>by
  have c1: ¬(i:Int)<(r.l.length:Int):=by omega
  rw [aJ7 (by omega),aN,adL];simp only [Nz,zz,c1,fin,firstAt]
 |j+1,i,hi=>by
  have c1:(i:Int)<(r.l.length:Int):=by omega
  have c2: ¬((i:Int)<0):=by omega
  have w:=aZ (n:=i) (by omega);have ih:=Hl r t hl y2 y3 y4 y5 y6 y7 y8 y9 rF rE rD j (i+1) (by omega);rw [AZ (by omega),aN,adL];by_cases he:(r.at (i:Int)).n=t
  ·simp only [Nz,zz,c1,c2,he,fin]
  ·simp only [Nz,zz,c1,c2,aJd he,w,fin,ih]
theorem aAh (r:D) (t:Int) (hl:r.l.length<=140737488351232) (y2 y3 y4 y5 y6 y7 y8 y9 rF rE rD:Int):L 12050 [enc r,t,y2,y3,y4,y5,y6,y7,y8,y9,rF,rE,rD]=some [0,enc r,t,y2,y3,y4,y5,y6,y7,y8,y9,rF,rE,rD,place r t]:=by have h:=Hl r t hl y2 y3 y4 y5 y6 y7 y8 y9 rF rE rD r.l.length 0 (by omega);rw [aN,avU];simp only [aaQ,zz,fin];exact h
theorem Hg (r:D) (t:Int) (hl:r.l.length<=140737488351232) (y2 y3 y4 y5 y6 y7 y8 y9 rF rE rD:Int): ∀(j i:Nat),i+j=r.l.length->
 L 12151 [enc r,t,y2,y3,y4,y5,y6,y7,y8,y9,rF,rE,rD,(r.l.length:Int),(i:Int)]=some [0,enc r,t,y2,y3,y4,y5,y6,y7,y8,y9,rF,rE,rD,firstAt t (r.l.drop i) i]
 |0,i,hi=>by
  have c1: ¬(i:Int)<(r.l.length:Int):=by omega
  rw [aJ7 (by omega),aN,adJ];simp only [Nw,zz,c1,fin,firstAt]
 |j+1,i,hi=>by
  have c1:(i:Int)<(r.l.length:Int):=by omega
  have c2: ¬((i:Int)<0):=by omega
  have w:=aZ (n:=i) (by omega);have ih:=Hg r t hl y2 y3 y4 y5 y6 y7 y8 y9 rF rE rD j (i+1) (by omega);rw [AZ (by omega),aN,adJ];by_cases he:(r.at (i:Int)).n=t
  ·simp only [Nw,zz,c1,c2,he,fin]
  ·simp only [Nw,zz,c1,c2,aJd he,w,fin,ih]
theorem aAg (r:D) (t:Int) (hl:r.l.length<=140737488351232) (y2 y3 y4 y5 y6 y7 y8 y9 rF rE rD:Int):L 12150 [enc r,t,y2,y3,y4,y5,y6,y7,y8,y9,rF,rE,rD]=some [0,enc r,t,y2,y3,y4,y5,y6,y7,y8,y9,rF,rE,rD,place r t]:=by have h:=Hg r t hl y2 y3 y4 y5 y6 y7 y8 y9 rF rE rD r.l.length 0 (by omega);rw [aN,avT];simp only [aaP,zz,fin];exact h
theorem DL {t:Int} {l:List D} {j:Nat} (h:j<l.length):wo t (l.take (j+1))=if (l[j]).n=t then wo t (l.take j) else wo t (l.take j)++ [l[j]]:=by
 unfold wo;rw [aLM h,List.filter_append];by_cases he:(l[j]).n=t
 ·simp [he]
 ·simp [he]
theorem amO (t:Int) (l:List D):(wo t l).length<=l.length:=List.length_filter_le _ _
theorem Bh (r0:D) (t:Int) (l0:List D) (hl:l0.length<=140737488351232) (hn: ∀x∈l0,x= .i x.n) (y2 y3 y4 y5 y6 y7 y8 y9 rF rE rD:Int): ∀(m i j:Nat) (r:D),r.l.length=l0.length->i<j->j+m=l0.length->r.l.drop j=l0.drop j->r.l.take i=wo t (l0.take j)->
 ∃(n:Nat) (r':D),n<l0.length/\r'.l.length=l0.length/\r'.l.take n=wo t l0/\L 12001 [enc r0,t,y2,y3,y4,y5,y6,y7,y8,y9,rF,rE,rD,enc r,(i:Int),(j:Int)]=some [1,enc r0,t,y2,y3,y4,y5,y6,y7,y8,y9,rF,rE,rD,(n:Int),enc r',(l0.length:Int)]
 |0,i,j,r,hr,h1,h2,h3,h4=>by
  have c1: ¬(j:Int)<(l0.length:Int):=by omega
  have c2: ¬((i:Int)<0):=by omega
  have c3: ¬((l0.length:Int)<(i:Int)):=by omega
  have c4: ¬((l0.length:Int)-(i:Int)<0):=by omega
  have c5:(i:Int)+((l0.length:Int)-(i:Int))=(l0.length:Int):=by omega
  refine⟨i,dL (r.l.take i++List.replicate (r.l.length-i) (.i 0)),by omega,by rw [aW]; simp only [aJy,aJB,aKr]; omega,?_,?_⟩
  ·rw [aW,aKJ (by rw [aJB]; omega),aKW,aLN,h4,aKg (by omega)]
  ·rw [aN,W9];simp only [NC,zz,c1,c2,c3,c4,c5,aJJ,fin,hr]
 |m+1,i,j,r,hr,h1,h2,h3,h4=>by
  have c1:(j:Int)<(l0.length:Int):=by omega
  have c2: ¬((j:Int)<0):=by omega
  have w:=aZ (n:=j) (by omega);have hj:j<r.l.length:=by omega
  have hj0:j<l0.length:=by omega
  have hx:r.at (j:Int)=l0[j]:=by rw [aX hj];rw [aJN hj,aJN hj0] at h3;exact (List.cons.inj h3).1
  have h3':r.l.drop (j+1)=l0.drop (j+1):=by rw [aJN hj,aJN hj0] at h3;exact (List.cons.inj h3).2
  by_cases he:(r.at (j:Int)).n=t
  ·obtain⟨n,r',q1,q2,q3,ih⟩:=Bh r0 t l0 hl hn y2 y3 y4 y5 y6 y7 y8 y9 rF rE rD m i (j+1) r hr (by omega) (by omega) h3' (by rw [DL hj0,<- hx,aJe he,h4]);refine⟨n,r',q1,q2,q3,?_⟩;rw [aN,W9];simp only [NC,zz,c1,c2,he,w,hr,fin,ih]
  ·have c3: ¬((i:Int)<0):=by omega
   have c4:(i:Int)<(l0.length:Int):=by omega
   have w2:=aZ (n:=i) (by omega);have hs:dY r.l (i:Int) (.i (r.at (j:Int)).n)=r.l.set i l0[j]:=by rw [yQ,hx,<- hn _ (aJm hj0)]
   obtain⟨n,r',q1,q2,q3,ih⟩:=Bh r0 t l0 hl hn y2 y3 y4 y5 y6 y7 y8 y9 rF rE rD m (i+1) (j+1) (dL (dY r.l (i:Int) (.i (r.at (j:Int)).n))) (by rw [aW,dQ,hr]) (by omega) (by omega)
    (by rw [aW,hs,aLD (by omega),h3'])
    (by rw [aW,hs,aLM (by rw [aKM]; omega),aLC (aJi _),aL0,h4,DL hj0,<- hx,aJd he])
   refine⟨n,r',q1,q2,q3,?_⟩;rw [aN,W9];simp only [NC,zz,c1,c2,c3,c4,aJd he,w,w2,hr,fin,ih]
theorem aBj (r:D) (t:Int) (hl:r.l.length<=140737488351232) (hn: ∀x∈r.l,x= .i x.n):(wo t r.l=r.l/\∀y2 y3 y4 y5 y6 y7 y8 y9 rF rE rD:Int,L 12000 [enc r,t,y2,y3,y4,y5,y6,y7,y8,y9,rF,rE,rD]=some [0,enc r,t,y2,y3,y4,y5,y6,y7,y8,y9,rF,rE,rD])\/
 ∀y2 y3 y4 y5 y6 y7 y8 y9 rF rE rD:Int,∃(n:Nat) (r':D),n<r.l.length/\r'.l.length=r.l.length/\r'.l.take n=wo t r.l/\L 12000 [enc r,t,y2,y3,y4,y5,y6,y7,y8,y9,rF,rE,rD]=some [1,enc r,t,y2,y3,y4,y5,y6,y7,y8,y9,rF,rE,rD,(n:Int),enc r',(r.l.length:Int)]:=by
 have h:=aAh r t hl;rcases tZ r t with ⟨hp,hno⟩|⟨i,hi,hp,hat,hno⟩
 ·refine .inl ⟨LG hno,fun y2 y3 y4 y5 y6 y7 y8 y9 rF rE rD=>?_⟩;have h':=h y2 y3 y4 y5 y6 y7 y8 y9 rF rE rD;clear h;rw [hp] at h';rw [aN,adM,Vs,dP,aJe,dP,aJe,dP,aJe]
  ·simp only [kR,List.map,bT,aY,aQ,aT,Nat.reduceLT,fin]
  ·simp only [Qm3,jD,bT,iE,iW,List.map,aY,Nat.reduceLT,aQ,aT];rw [h'];simp only [aQ,aT,aJI,aJl,if_true]
  ·simp only [jD,bT,iE,iW,List.map,aY,Nat.reduceLT,aQ,aT];rw [h'];simp only [aQ,aT,aJI,aJl,if_true]
  ·simp only [jD,bT,iE,iW,List.map,aY,Nat.reduceLT,aQ,aT];rw [h'];simp only [aQ,aT,aJI,aJl,if_true]
 ·refine .inr fun y2 y3 y4 y5 y6 y7 y8 y9 rF rE rD=>?_;have h':=h y2 y3 y4 y5 y6 y7 y8 y9 rF rE rD;clear h;rw [hp] at h';have w:=aZ (n:=i) (by omega);have h0:r.l.take i=wo t (r.l.take (i+1)):=by rw [DL hi,aJe hat,LG hno]
  obtain⟨n,r',q1,q2,q3,ih⟩:=Bh r t r.l hl hn y2 y3 y4 y5 y6 y7 y8 y9 rF rE rD (r.l.length-(i+1)) i (i+1) r rfl (by omega) (by omega) rfl h0;refine⟨n,r',q1,q2,q3,?_⟩;rw [aN,adM,Vs,dP,aJe,dP,aJe,dP,aJd]
  ·simp only [pR,List.map,Qm3,bT,iE,Dp,den_add,aY,aQ,aT,Nat.reduceLT];rw [h'];simp only [aQ,aT,aJl,w,fin];rw [ih]
  ·simp only [Qm3,jD,bT,iE,iW,List.map,aY,Nat.reduceLT,aQ,aT];rw [h'];simp only [aQ,aT,aJI,aJl,if_true];omega
  ·simp only [jD,bT,iE,iW,List.map,aY,Nat.reduceLT,aQ,aT];rw [h'];simp only [aQ,aT,aJI,aJl,if_true]
  ·simp only [jD,bT,iE,iW,List.map,aY,Nat.reduceLT,aQ,aT];rw [h'];simp only [aQ,aT,aJI,aJl,if_true]
theorem Bg (r0:D) (t:Int) (l0:List D) (hl:l0.length<=140737488351232) (hn: ∀x∈l0,x= .i x.n) (y2 y3 y4 y5 y6 y7 y8 y9 rF rE rD:Int): ∀(m i j:Nat) (r:D),r.l.length=l0.length->i<j->j+m=l0.length->r.l.drop j=l0.drop j->r.l.take i=wo t (l0.take j)->
 ∃(n:Nat) (r':D),n<l0.length/\r'.l.length=l0.length/\r'.l.take n=wo t l0/\L 12101 [enc r0,t,y2,y3,y4,y5,y6,y7,y8,y9,rF,rE,rD,enc r,(i:Int),(j:Int)]=some [1,enc r0,t,y2,y3,y4,y5,y6,y7,y8,y9,rF,rE,rD,(n:Int),enc r',(l0.length:Int)]
 |0,i,j,r,hr,h1,h2,h3,h4=>by
  have c1: ¬(j:Int)<(l0.length:Int):=by omega
  have c2: ¬((i:Int)<0):=by omega
  have c3: ¬((l0.length:Int)<(i:Int)):=by omega
  have c4: ¬((l0.length:Int)-(i:Int)<0):=by omega
  have c5:(i:Int)+((l0.length:Int)-(i:Int))=(l0.length:Int):=by omega
  refine⟨i,dL (r.l.take i++List.replicate (r.l.length-i) (.i 0)),by omega,by rw [aW]; simp only [aJy,aJB,aKr]; omega,?_,?_⟩
  ·rw [aW,aKJ (by rw [aJB]; omega),aKW,aLN,h4,aKg (by omega)]
  ·rw [aN,WZ];simp only [Ny,zz,c1,c2,c3,c4,c5,aJJ,fin,hr]
 |m+1,i,j,r,hr,h1,h2,h3,h4=>by
  have c1:(j:Int)<(l0.length:Int):=by omega
  have c2: ¬((j:Int)<0):=by omega
  have w:=aZ (n:=j) (by omega);have hj:j<r.l.length:=by omega
  have hj0:j<l0.length:=by omega
  have hx:r.at (j:Int)=l0[j]:=by rw [aX hj];rw [aJN hj,aJN hj0] at h3;exact (List.cons.inj h3).1
  have h3':r.l.drop (j+1)=l0.drop (j+1):=by rw [aJN hj,aJN hj0] at h3;exact (List.cons.inj h3).2
  by_cases he:(r.at (j:Int)).n=t
  ·obtain⟨n,r',q1,q2,q3,ih⟩:=Bg r0 t l0 hl hn y2 y3 y4 y5 y6 y7 y8 y9 rF rE rD m i (j+1) r hr (by omega) (by omega) h3' (by rw [DL hj0,<- hx,aJe he,h4]);refine⟨n,r',q1,q2,q3,?_⟩;rw [aN,WZ];simp only [Ny,zz,c1,c2,he,w,hr,fin,ih]
  ·have c3: ¬((i:Int)<0):=by omega
   have c4:(i:Int)<(l0.length:Int):=by omega
   have w2:=aZ (n:=i) (by omega);have hs:dY r.l (i:Int) (.i (r.at (j:Int)).n)=r.l.set i l0[j]:=by rw [yQ,hx,<- hn _ (aJm hj0)]
   obtain⟨n,r',q1,q2,q3,ih⟩:=Bg r0 t l0 hl hn y2 y3 y4 y5 y6 y7 y8 y9 rF rE rD m (i+1) (j+1) (dL (dY r.l (i:Int) (.i (r.at (j:Int)).n))) (by rw [aW,dQ,hr]) (by omega) (by omega)
    (by rw [aW,hs,aLD (by omega),h3'])
    (by rw [aW,hs,aLM (by rw [aKM]; omega),aLC (aJi _),aL0,h4,DL hj0,<- hx,aJd he])
   refine⟨n,r',q1,q2,q3,?_⟩;rw [aN,WZ];simp only [Ny,zz,c1,c2,c3,c4,aJd he,w,w2,hr,fin,ih]
theorem aBi (r:D) (t:Int) (hl:r.l.length<=140737488351232) (hn: ∀x∈r.l,x= .i x.n):(wo t r.l=r.l/\∀y2 y3 y4 y5 y6 y7 y8 y9 rF rE rD:Int,L 12100 [enc r,t,y2,y3,y4,y5,y6,y7,y8,y9,rF,rE,rD]=some [0,enc r,t,y2,y3,y4,y5,y6,y7,y8,y9,rF,rE,rD])\/
 ∀y2 y3 y4 y5 y6 y7 y8 y9 rF rE rD:Int,∃(n:Nat) (r':D),n<r.l.length/\r'.l.length=r.l.length/\r'.l.take n=wo t r.l/\L 12100 [enc r,t,y2,y3,y4,y5,y6,y7,y8,y9,rF,rE,rD]=some [1,enc r,t,y2,y3,y4,y5,y6,y7,y8,y9,rF,rE,rD,(n:Int),enc r',(r.l.length:Int)]:=by
 have h:=aAg r t hl;rcases tZ r t with ⟨hp,hno⟩|⟨i,hi,hp,hat,hno⟩
 ·refine .inl ⟨LG hno,fun y2 y3 y4 y5 y6 y7 y8 y9 rF rE rD=>?_⟩;have h':=h y2 y3 y4 y5 y6 y7 y8 y9 rF rE rD;clear h;rw [hp] at h';rw [aN,adK,Vr,dP,aJe,dP,aJe,dP,aJe]
  ·simp only [kR,List.map,bT,aY,aQ,aT,Nat.reduceLT,fin]
  ·simp only [Qnf,jD,bT,iE,iW,List.map,aY,Nat.reduceLT,aQ,aT];rw [h'];simp only [aQ,aT,aJI,aJl,if_true]
  ·simp only [jD,bT,iE,iW,List.map,aY,Nat.reduceLT,aQ,aT];rw [h'];simp only [aQ,aT,aJI,aJl,if_true]
  ·simp only [jD,bT,iE,iW,List.map,aY,Nat.reduceLT,aQ,aT];rw [h'];simp only [aQ,aT,aJI,aJl,if_true]
 ·refine .inr fun y2 y3 y4 y5 y6 y7 y8 y9 rF rE rD=>?_;have h':=h y2 y3 y4 y5 y6 y7 y8 y9 rF rE rD;clear h;rw [hp] at h';have w:=aZ (n:=i) (by omega);have h0:r.l.take i=wo t (r.l.take (i+1)):=by rw [DL hi,aJe hat,LG hno]
  obtain⟨n,r',q1,q2,q3,ih⟩:=Bg r t r.l hl hn y2 y3 y4 y5 y6 y7 y8 y9 rF rE rD (r.l.length-(i+1)) i (i+1) r rfl (by omega) (by omega) rfl h0;refine⟨n,r',q1,q2,q3,?_⟩;rw [aN,adK,Vr,dP,aJe,dP,aJe,dP,aJd]
  ·simp only [pR,List.map,Qnf,bT,iE,Dp,den_add,aY,aQ,aT,Nat.reduceLT];rw [h'];simp only [aQ,aT,aJl,w,fin];rw [ih]
  ·simp only [Qnf,jD,bT,iE,iW,List.map,aY,Nat.reduceLT,aQ,aT];rw [h'];simp only [aQ,aT,aJI,aJl,if_true];omega
  ·simp only [jD,bT,iE,iW,List.map,aY,Nat.reduceLT,aQ,aT];rw [h'];simp only [aQ,aT,aJI,aJl,if_true]
  ·simp only [jD,bT,iE,iW,List.map,aY,Nat.reduceLT,aQ,aT];rw [h'];simp only [aQ,aT,aJI,aJl,if_true]
theorem aBh (r:D) (t:Int): ∀y2 y3 y4 y5 y6 y7 y8 y9 rF rE rD:Int,L 12200 [enc r,t,y2,y3,y4,y5,y6,y7,y8,y9,rF,rE,rD]=some [0,enc r,t,y2,y3,y4,y5,y6,y7,y8,y9,rF,rE,rD]:=by
 intro y2 y3 y4 y5 y6 y7 y8 y9 rF rE rD
 have h:L 12250 [enc r,t,y2,y3,y4,y5,y6,y7,y8,y9,rF,rE,rD]=some [0,enc r,t,y2,y3,y4,y5,y6,y7,y8,y9,rF,rE,rD]:=by rw [aN,avR];simp only [aaN,zz,fin];rw [aN,avQ];simp only [aaM,zz,fin]
 have h':=h;clear h;rw [aN,avS,aaO,dP,aJe,dP,aJe]
 ·simp only [kR,List.map,bT,aY,aQ,aT,Nat.reduceLT,fin]
 ·simp only [jD,bT,iE,iW,List.map,aY,Nat.reduceLT,aQ,aT];rw [h'];simp only [aQ,aT,aJI,aJl,if_true]
 ·simp only [jD,bT,iE,iW,List.map,aY,Nat.reduceLT,aQ,aT];rw [h'];simp only [aQ,aT,aJI,aJl,if_true]
theorem aBg (r:D) (t:Int): ∀y2 y3 y4 y5 y6 y7 y8 y9 rF rE rD:Int,L 12300 [enc r,t,y2,y3,y4,y5,y6,y7,y8,y9,rF,rE,rD]=some [0,enc r,t,y2,y3,y4,y5,y6,y7,y8,y9,rF,rE,rD]:=by
 intro y2 y3 y4 y5 y6 y7 y8 y9 rF rE rD
 have h:L 12350 [enc r,t,y2,y3,y4,y5,y6,y7,y8,y9,rF,rE,rD]=some [0,enc r,t,y2,y3,y4,y5,y6,y7,y8,y9,rF,rE,rD]:=by rw [aN,avO];simp only [aaK,zz,fin];rw [aN,avN];simp only [aaJ,zz,fin]
 have h':=h;clear h;rw [aN,avP,aaL,dP,aJe,dP,aJe]
 ·simp only [kR,List.map,bT,aY,aQ,aT,Nat.reduceLT,fin]
 ·simp only [jD,bT,iE,iW,List.map,aY,Nat.reduceLT,aQ,aT];rw [h'];simp only [aQ,aT,aJI,aJl,if_true]
 ·simp only [jD,bT,iE,iW,List.map,aY,Nat.reduceLT,aQ,aT];rw [h'];simp only [aQ,aT,aJI,aJl,if_true]
abbrev Mx (d0:D) (obj:Int):Int:=((d0.at obj).hd 2).n
abbrev Mo (d0 s:D) (obj:Int):Int:=((s.at ((d0.at obj).hd 2).n).hd 0).n
inductive Act where
 |blk
 |mis
 |res (o c dn g:Int) (r v:D) (m:Option Int) (a oc:Int)
def act (M mo th op arg tries o c dn g:Int) (r v:D):Act:=
 if op=1 then (if o=th then .mis else if place r th<0 then (if o<0 then .res th c dn g r v none 0 2 else .blk) else .mis)
 else if op=2 then (if o=th then .res (-1) c dn g r v none 0 2 else .mis)
 else if op=8 then (if o=th then .res (-1) c dn g r v none 0 2 else .mis)
 else if op=3 then (if o<0 then .res th c dn g r v none 1 2 else .res o c dn g r v none 0 2)
 else if op=4 then (if o<0 then .res th c dn g r v none 1 2 else if tries<arg then .blk else .res o c dn g r v none 0 2)
 else if op=5 then (if o=th then .mis else if place r th<0 then (if o<0 then .res o c dn g (dL (r.l++ [.i th])) v none 0 2 else .blk) else .mis)
 else if op=6 then (if place r th<0 then .mis else .res o c dn g (fJ (.i 2) (r.l.take (place r th).toNat++r.l.drop ((place r th).toNat+1))) v none 0 2)
 else if op=7 then (if o=th then .mis else if place r th<0 then (if (r.l.length:Int)=0 then (if o<0 then .res th c dn g r v none 0 2 else .blk) else .blk) else .mis)
 else if op=9 then (if 0<c then .res o (IntKind.i64.wrap (c-1)) dn g r v none 0 2 else .blk)
 else if op=11 then (if 0<c then .res o (IntKind.i64.wrap (c-1)) dn g r v none 1 2 else .res o c dn g r v none 0 2)
 else if op=10 then (if c<M then .res o (IntKind.i64.wrap (c+1)) dn g r v none 0 2 else .mis)
 else if op=17 then (if arg<IntKind.i64.wrap (0-c) then .mis else if IntKind.i64.wrap (1099511627776-c)<arg then .mis else .res o (IntKind.i64.wrap (c+arg)) dn g r v none (IntKind.i64.wrap (c+arg)) 2)
 else if op=18 then (if 0<c then .res o (IntKind.i64.wrap (c-1)) dn g r v none (IntKind.i64.wrap (c-1)) 2 else .mis)
 else if op=19 then (if c=0 then .res o c dn g r v none 0 2 else .blk)
 else if op=22 then .res o c dn g r v none c 2
 else if op=23 then .res o arg dn g r v none arg 2
 else if op=20 then (if (v.l.length:Int)<M then .res o c dn g r (dL (v.l++ [.i arg])) none arg 2 else .blk)
 else if op=21 then (if (v.l.length:Int)=0 then .blk else .res o c dn g r (fJ v (v.l.drop 1)) none (v.at 0).n 2)
 else if op=12 then (if mo=th then .res o c dn g (dL (wo th r.l++ [.i th])) v (some (-1)) 0 3 else .mis)
 else if op=13 then (if (r.l.length:Int)=0 then .res o c dn g r v none 0 2 else .res o c dn g (fJ r (r.l.drop 1)) v none (IntKind.i64.wrap ((r.at 0).n+1)) 2)
 else if op=14 then .res o c dn g (.i 1) v none (r.l.length:Int) 2
 else if op=24 then (if place r th<0 then (if mo<0 then .res o c dn g r v (some th) 0 2 else .blk) else .blk)
 else if op=15 then (if g<4611686018427387904 then (if IntKind.i64.wrap (c+1)=M then .res o 0 dn (IntKind.i64.wrap (g+1)) r v none g 3 else .res o (IntKind.i64.wrap (c+1)) dn g r v none g 3) else .mis)
 else if op=25 then (if arg<g then .res o c dn g r v none arg 2 else .blk)
 else if op=16 then (if dn=0 then (if o=th then .mis else if o<0 then .res th c dn g r v none 1 2 else .blk) else .res o c dn g r v none 0 2)
 else (if o=th then .res (-1) c 1 g r v none 0 2 else .mis)
def CQ (s:D) (obj M:Int):Act->D
 | .res o c dn g r v m _ _=>dL (dY (match m with |none=>s.l|some q=>dY s.l M (dL (dY (s.at M).l 0 (.i q)))) obj (dL [.i o,.i c,.i (if dn=0 then 0 else 1),.i g,r,v]))
 |_=>s
def outA (s:D) (th op obj M:Int):Act->List Int
 | .blk=>[enc s,0,0,0,0,0,0]
 | .mis=>[enc s,th,27,obj,IntKind.i64.wrap op,0,2]
 | .res o c dn g r v m a oc=>[enc (CQ s obj M (.res o c dn g r v m a oc)),th,op,obj,a,0,oc]
structure TH (d0 d1 s:D) (th op obj arg tries o c dn g:Int) (r v:D):Prop where
 hcp:L 9000 [obj,enc s]=some [qE r v,obj,enc s,o,c,dn,g,enc r,enc v]
 jR:L 550 [enc s]=some [enc s]
 hR:L 350 [enc d0,enc d1,enc s]=some [1]
 Hu:0<=th
 Ht:th<(d1.l.length:Int)
 AQ:0<=obj
 AP:obj<(s.l.length:Int)
 hlen:s.l.length=d0.l.length
 hk:L 600 [op]=some [((d0.at obj).hd 0).n]
 hr:(r.l.length:Int)<17592186044415
 hv:(v.l.length:Int)<17592186044415
 hn: ∀x∈r.l,x= .i x.n
 hM:op=12\/op=24->0<=((d0.at obj).hd 2).n/\((d0.at obj).hd 2).n<(s.l.length:Int)/\((d0.at obj).hd 2).n≠obj
theorem TH.hb {d0 d1 s:D} {th op obj arg tries o c dn g:Int} {r v:D} (H:TH d0 d1 s th op obj arg tries o c dn g r v):r.l.length<=140737488351232:=by have:=H.hr; omega
noncomputable abbrev dI (d0 d1 s:D) (th op obj arg tries:Int):Nat->Int:=bQ L (low [enc d0,enc d1,enc s,th,op,obj,arg,tries])
abbrev bH (k:Nat):SE:=rr 9000 [.aP 5,.aP 2] k
abbrev mtx:SE:=nm (ce 2 (el (.aP 0) (.aP 5)))
abbrev kK:SE:=rr 850 [bH 7,.aP 3] 0
abbrev ajK (q:SE):SE:=.op .set (bH 2) (cn (mk mtx) (.op .set (el (bH 2) mtx) (cn (.dat (.i 0)) q)))
abbrev yK:List SE:=[bH 7,.aP 3,.aP 5,mtx,ajK (.dat (.i (-1))),.aP 4,.aP 6,.aP 7,bH 3,bH 4,bH 5,bH 6,bH 8]
abbrev thg (o c d g r v:SE):SE:=cn (mk (.aP 5)) (cn o (cn c (cn d (cn g (cn r (cn v (.dat (.i 0))))))))
abbrev yB:T Lf:=ou [rr 550 [.aP 2] 0,.aP 3,.lit 27,.aP 5,wr (.aP 4),.lit 0,.lit 2]
abbrev EG:T Lf:=ou [rr 550 [.aP 2] 0,.lit 0,.lit 0,.lit 0,.lit 0,.lit 0,.lit 0]
abbrev nD (z o c d g r v a:SE) (oc:Int):T Lf:=ou [.op .set z (thg o c d g r v),.aP 3,.aP 4,.aP 5,a,.lit 0,.lit oc]
theorem D5 {r:D} (h:r.l= []) (t:Int):place r t= -1:=by unfold place; rw [h]; rfl
theorem aDr {r:D} (h:r.l= []) (t:Int):wo t r.l= []:=by rw [h]; rfl
theorem alt3 {r v:D} (h:0<r.l.length) (h':0<v.l.length):qE r v=3:=by simp [qE,h,h']
theorem aIN {r v:D} (h:0<r.l.length) (h':v.l= []):qE r v=4:=by simp [qE,h,h']
theorem aIM {r v:D} (h:r.l= []) (h':0<v.l.length):qE r v=5:=by simp [qE,h,h']
theorem aIL {r v:D} (h:r.l= []) (h':v.l= []):qE r v=6:=by simp [qE,h,h']
abbrev Gl (d0 s:D) (th op obj arg tries o c dn g:Int) (r v:D):RS:=.out (outA s th op obj (Mx d0 obj) (act (Mx d0 obj) (Mo d0 s obj) th op arg tries o c dn g r v))
theorem dH (s:D) (th op obj M:Int):outA s th op obj M .blk= [enc s,0,0,0,0,0,0]:=rfl
theorem dG (s:D) (th op obj M:Int):outA s th op obj M .mis= [enc s,th,27,obj,IntKind.i64.wrap op,0,2]:=rfl
theorem bV (s:D) (th op obj M o c dn g:Int) (r v:D) (a oc:Int):outA s th op obj M (.res o c dn g r v none a oc)= [enc (dL (dY s.l obj (dL [.i o,.i c,.i (if dn=0 then 0 else 1),.i g,r,v]))),th,op,obj,a,0,oc]:=rfl
theorem bU (s:D) (th op obj M o c dn g:Int) (r v:D) (q a oc:Int):outA s th op obj M (.res o c dn g r v (some q) a oc)= [enc (dL (dY (dY s.l M (dL (dY (s.at M).l 0 (.i q)))) obj (dL [.i o,.i c,.i (if dn=0 then 0 else 1),.i g,r,v]))),th,op,obj,a,0,oc]:=rfl
section
variable {s:D} {th op obj M:Int}
theorem fH {c:Prop} [Decidable c] {a b:Act}:RS.out (outA s th op obj M (if c then a else b))=if c then RS.out (outA s th op obj M a) else RS.out (outA s th op obj M b):=by split<;>rfl
end
theorem BO {p:Prop} [Decidable p]:((if p then (0:Int) else 1)=0)=p:=by by_cases h:p<;>simp [h]
theorem lT (l:List D):l= []\/0<l.length:=by cases l<;>simp
theorem z2 {ρ:Nat->Int} {a b c d:List SB} (h:zY ρ a/\zW ρ b) (h':zY ρ c/\zW ρ d):zY ρ (a++c)/\zW ρ (b++d):=⟨amH h.1 h'.1,amK h.2 h'.2⟩
end Go.As.Try
end

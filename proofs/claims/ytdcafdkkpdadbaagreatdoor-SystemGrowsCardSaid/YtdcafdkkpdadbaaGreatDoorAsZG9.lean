import GoSem.Claim
import Derived.Orders
import Derived.Scope
import Derived.LoopN
import Derived.Below
import GoSem.Core.View
import GoSem.Core.Layout
import GoSem.Op.Equal
import Derived.WalkKit
import Derived.Lib.Strings
import Derived.Laws.IdiomStrings
import Derived.Laws.RangeString
import Derived.Laws.StructEq
import Derived.Lib.Bytealg
import Derived.Lib.IndexMore
import Derived.Deep.LoopGhost
import Derived.IntWalk
import Derived.ChangeArms
import Derived.DataReads
import GoSem.ClaimJoined
import Derived.KernelRfl
import Derived.Test.YtdcafdkkpdadbaaGreatDoorProg
import Derived.Shelf.Strings.Search3
import Derived.Shelf.LaysM
import Derived.Shelf.Strings.Shaped
import Derived.Test.YtdcafdkkpdadbaaGreatDoorCards
import Derived.Test.YtdcafdkkpdadbaaGreatDoorTie
import Derived.ProofKit
import Derived.OpenShut
import Derived.Deep.DeepHandedRow
import Derived.LaidLaws
import Derived.Test.YtdcafdkkpdadbaaGreatDoorAsZG8
set_option linter.unusedSectionVars false
set_option linter.unusedVariables false
set_option linter.unusedSimpArgs false
section
namespace Go.As.Try
open Go hiding Stat Spec shape
open Go.As
set_option maxRecDepth 100000
def ops:List Int:=[1,2,8,3,4,5,6,7,9,11,10,17,18,19,22,23,20,21,12,13,14,24,15,25,16,26]
abbrev Yo (k:Int):List SB:=[.eq (.aC 4) (.lit k)]
abbrev No (k:Int):List SB:=(ops.filter fun j=>!(j == k)).map fun j=> .eq (.aC 4) (.lit j)
abbrev p3:T Lf:=prune (YG++YA3) (NG++NA3) kE
abbrev p4:T Lf:=prune (YG++YA4) (NG++NA4) kE
abbrev p5:T Lf:=prune (YG++YA5) (NG++NA5) kE
abbrev p6:T Lf:=prune (YG++YA6) (NG++NA6) kE
section
variable {d0 d1 s r v:D} {th op obj arg tries o c dn g:Int}
theorem aeD {ρ:Nat→Int}: ∀{l:List SB},(∀c∈l,¬c.den ρ=true)→zW ρ l
 | [],_=>trivial
 | c :: l,h=> ⟨h c (by simp),aeD fun x hx=>h x (List.mem_cons_of_mem _ hx)⟩
theorem fO (k:Int):zY (dH d0 d1 s th k obj arg tries) (Yo k)∧zW (dH d0 d1 s th k obj arg tries) (No k):=by
 refine⟨by simp only [zz,aH.den,Nat.reduceLT],aeD fun c hc=>?_⟩
 obtain⟨j,hj,rfl⟩:=List.mem_map.1 hc
 have:=(List.mem_filter.1 hj).2
 simp only [zz,aH.den,Nat.reduceLT]
 intro h
 subst h
 simp at this
theorem sp3 (H:TH d0 d1 s th op obj arg tries o c dn g r v) (hr:0 < r.l.length) (hv:0 < v.l.length):dU (dH d0 d1 s th op obj arg tries) p3=dU (dH d0 d1 s th op obj arg tries) kE:=dJ (z2 (fG H) (fA3 H hr hv)) kE
theorem sp4 (H:TH d0 d1 s th op obj arg tries o c dn g r v) (hr:0 < r.l.length) (hv:v.l= []):dU (dH d0 d1 s th op obj arg tries) p4=dU (dH d0 d1 s th op obj arg tries) kE:=dJ (z2 (fG H) (fA4 H hr hv)) kE
theorem sp5 (H:TH d0 d1 s th op obj arg tries o c dn g r v) (hr:r.l= []) (hv:0 < v.l.length):dU (dH d0 d1 s th op obj arg tries) p5=dU (dH d0 d1 s th op obj arg tries) kE:=dJ (z2 (fG H) (fA5 H hr hv)) kE
theorem sp6 (H:TH d0 d1 s th op obj arg tries o c dn g r v) (hr:r.l= []) (hv:v.l= []):dU (dH d0 d1 s th op obj arg tries) p6=dU (dH d0 d1 s th op obj arg tries) kE:=dJ (z2 (fG H) (fA6 H hr hv)) kE
theorem jW {k:Int} {t u:T Lf} {Q:RS} (e:prune (Yo k) (No k) t=u) (h:dU (dH d0 d1 s th k obj arg tries) u=Q):dU (dH d0 d1 s th k obj arg tries) t=Q:=by rw [← dJ (fO k) t,e,h]
theorem jX (H:TH d0 d1 s th op obj arg tries o c dn g r v) {u:T Lf} {Q:RS} (e3:prune (Yo op) (No op) p3=u) (e4:prune (Yo op) (No op) p4=u) (e5:prune (Yo op) (No op) p5=u) (e6:prune (Yo op) (No op) p6=u) (h:dU (dH d0 d1 s th op obj arg tries) u=Q):dU (dH d0 d1 s th op obj arg tries) kE=Q:=by
 rcases kS r.l with hr | hr <;> rcases kS v.l with hv | hv
 ·exact (sp6 H hr hv).symm.trans (jW e6 h)
 ·exact (sp5 H hr hv).symm.trans (jW e5 h)
 ·exact (sp4 H hr hv).symm.trans (jW e4 h)
 ·exact (sp3 H hr hv).symm.trans (jW e3 h)
theorem o1 (H:TH d0 d1 s th 1 obj arg tries o c dn g r v):dU (dH d0 d1 s th 1 obj arg tries) kE=Gl d0 s th 1 obj arg tries o c dn g r v:=jX H (u:=zt0) (by kernel_rfl) (by kernel_rfl) (by kernel_rfl) (by kernel_rfl) (sm0 H)
theorem o2 (H:TH d0 d1 s th 2 obj arg tries o c dn g r v):dU (dH d0 d1 s th 2 obj arg tries) kE=Gl d0 s th 2 obj arg tries o c dn g r v:=jX H (u:=zt1) (by kernel_rfl) (by kernel_rfl) (by kernel_rfl) (by kernel_rfl) (sm1 H)
theorem o8 (H:TH d0 d1 s th 8 obj arg tries o c dn g r v):dU (dH d0 d1 s th 8 obj arg tries) kE=Gl d0 s th 8 obj arg tries o c dn g r v:=jX H (u:=zt1) (by kernel_rfl) (by kernel_rfl) (by kernel_rfl) (by kernel_rfl) (sm2 H)
theorem o3 (H:TH d0 d1 s th 3 obj arg tries o c dn g r v):dU (dH d0 d1 s th 3 obj arg tries) kE=Gl d0 s th 3 obj arg tries o c dn g r v:=jX H (u:=zt2) (by kernel_rfl) (by kernel_rfl) (by kernel_rfl) (by kernel_rfl) (sm3 H)
theorem o4 (H:TH d0 d1 s th 4 obj arg tries o c dn g r v):dU (dH d0 d1 s th 4 obj arg tries) kE=Gl d0 s th 4 obj arg tries o c dn g r v:=jX H (u:=zt3) (by kernel_rfl) (by kernel_rfl) (by kernel_rfl) (by kernel_rfl) (sm4 H)
theorem o5 (H:TH d0 d1 s th 5 obj arg tries o c dn g r v):dU (dH d0 d1 s th 5 obj arg tries) kE=Gl d0 s th 5 obj arg tries o c dn g r v:=by
 rcases kS r.l with hr | hr <;> rcases kS v.l with hv | hv
 ·exact (sp6 H hr hv).symm.trans (jW (u:=awM) (by kernel_rfl) (aBw H hr))
 ·exact (sp5 H hr hv).symm.trans (jW (u:=awM) (by kernel_rfl) (aBw H hr))
 ·exact (sp4 H hr hv).symm.trans (jW (u:=zt4) (by kernel_rfl) (sm5 H hr))
 ·exact (sp3 H hr hv).symm.trans (jW (u:=zt4) (by kernel_rfl) (sm5 H hr))
theorem o6 (H:TH d0 d1 s th 6 obj arg tries o c dn g r v):dU (dH d0 d1 s th 6 obj arg tries) kE=Gl d0 s th 6 obj arg tries o c dn g r v:=by
 rcases kS r.l with hr | hr <;> rcases kS v.l with hv | hv
 ·exact (sp6 H hr hv).symm.trans (jW (u:=zt5) (by kernel_rfl) (sm6 H (by rw [CO hr]; omega)))
 ·exact (sp5 H hr hv).symm.trans (jW (u:=zt5) (by kernel_rfl) (sm6 H (by rw [CO hr]; omega)))
 ·by_cases hk:place r th < 0
  ·exact (sp4 H hr hv).symm.trans ((dJ (fK0 H hk) _).symm.trans (jW (u:=zt5) (by kernel_rfl) (sm6 H hk)))
  ·exact (sp4 H hr hv).symm.trans ((dJ (fK1 H hk) _).symm.trans (jW (u:=zt6) (by kernel_rfl) (sm7 H hr hk)))
 ·by_cases hk:place r th < 0
  ·exact (sp3 H hr hv).symm.trans ((dJ (fK0 H hk) _).symm.trans (jW (u:=zt5) (by kernel_rfl) (sm6 H hk)))
  ·exact (sp3 H hr hv).symm.trans ((dJ (fK1 H hk) _).symm.trans (jW (u:=zt6) (by kernel_rfl) (sm7 H hr hk)))
theorem o7 (H:TH d0 d1 s th 7 obj arg tries o c dn g r v):dU (dH d0 d1 s th 7 obj arg tries) kE=Gl d0 s th 7 obj arg tries o c dn g r v:=by
 rcases kS r.l with hr | hr <;> rcases kS v.l with hv | hv
 ·exact (sp6 H hr hv).symm.trans (jW (u:=zt0) (by kernel_rfl) (aBv H hr))
 ·exact (sp5 H hr hv).symm.trans (jW (u:=zt0) (by kernel_rfl) (aBv H hr))
 ·exact (sp4 H hr hv).symm.trans (jW (u:=zt7) (by kernel_rfl) (sm8 H hr))
 ·exact (sp3 H hr hv).symm.trans (jW (u:=zt7) (by kernel_rfl) (sm8 H hr))
theorem o9 (H:TH d0 d1 s th 9 obj arg tries o c dn g r v):dU (dH d0 d1 s th 9 obj arg tries) kE=Gl d0 s th 9 obj arg tries o c dn g r v:=jX H (u:=zt8) (by kernel_rfl) (by kernel_rfl) (by kernel_rfl) (by kernel_rfl) (sm9 H)
theorem o11 (H:TH d0 d1 s th 11 obj arg tries o c dn g r v):dU (dH d0 d1 s th 11 obj arg tries) kE=Gl d0 s th 11 obj arg tries o c dn g r v:=jX H (u:=zt9) (by kernel_rfl) (by kernel_rfl) (by kernel_rfl) (by kernel_rfl) (aDH H)
theorem o10 (H:TH d0 d1 s th 10 obj arg tries o c dn g r v):dU (dH d0 d1 s th 10 obj arg tries) kE=Gl d0 s th 10 obj arg tries o c dn g r v:=jX H (u:=aBd) (by kernel_rfl) (by kernel_rfl) (by kernel_rfl) (by kernel_rfl) (aDG H)
theorem o17 (H:TH d0 d1 s th 17 obj arg tries o c dn g r v):dU (dH d0 d1 s th 17 obj arg tries) kE=Gl d0 s th 17 obj arg tries o c dn g r v:=jX H (u:=aBb) (by kernel_rfl) (by kernel_rfl) (by kernel_rfl) (by kernel_rfl) (aDF H)
theorem o18 (H:TH d0 d1 s th 18 obj arg tries o c dn g r v):dU (dH d0 d1 s th 18 obj arg tries) kE=Gl d0 s th 18 obj arg tries o c dn g r v:=jX H (u:=aBa) (by kernel_rfl) (by kernel_rfl) (by kernel_rfl) (by kernel_rfl) (aDE H)
theorem o19 (H:TH d0 d1 s th 19 obj arg tries o c dn g r v):dU (dH d0 d1 s th 19 obj arg tries) kE=Gl d0 s th 19 obj arg tries o c dn g r v:=jX H (u:=aA9) (by kernel_rfl) (by kernel_rfl) (by kernel_rfl) (by kernel_rfl) (aDD H)
theorem o22 (H:TH d0 d1 s th 22 obj arg tries o c dn g r v):dU (dH d0 d1 s th 22 obj arg tries) kE=Gl d0 s th 22 obj arg tries o c dn g r v:=jX H (u:=aA8) (by kernel_rfl) (by kernel_rfl) (by kernel_rfl) (by kernel_rfl) (aDC H)
theorem o23 (H:TH d0 d1 s th 23 obj arg tries o c dn g r v):dU (dH d0 d1 s th 23 obj arg tries) kE=Gl d0 s th 23 obj arg tries o c dn g r v:=jX H (u:=aA7) (by kernel_rfl) (by kernel_rfl) (by kernel_rfl) (by kernel_rfl) (aDB H)
theorem o20 (H:TH d0 d1 s th 20 obj arg tries o c dn g r v):dU (dH d0 d1 s th 20 obj arg tries) kE=Gl d0 s th 20 obj arg tries o c dn g r v:=by
 rcases kS r.l with hr | hr <;> rcases kS v.l with hv | hv
 ·exact (sp6 H hr hv).symm.trans (jW (u:=awO) (by kernel_rfl) (aBy H hv))
 ·exact (sp5 H hr hv).symm.trans (jW (u:=awT) (by kernel_rfl) (aBD H hv))
 ·exact (sp4 H hr hv).symm.trans (jW (u:=awO) (by kernel_rfl) (aBy H hv))
 ·exact (sp3 H hr hv).symm.trans (jW (u:=awT) (by kernel_rfl) (aBD H hv))
theorem o21 (H:TH d0 d1 s th 21 obj arg tries o c dn g r v):dU (dH d0 d1 s th 21 obj arg tries) kE=Gl d0 s th 21 obj arg tries o c dn g r v:=by
 rcases kS r.l with hr | hr <;> rcases kS v.l with hv | hv
 ·exact (sp6 H hr hv).symm.trans (jW (u:=awN) (by kernel_rfl) (aBx H hv))
 ·exact (sp5 H hr hv).symm.trans (jW (u:=awS) (by kernel_rfl) (aBC H hv))
 ·exact (sp4 H hr hv).symm.trans (jW (u:=awN) (by kernel_rfl) (aBx H hv))
 ·exact (sp3 H hr hv).symm.trans (jW (u:=awS) (by kernel_rfl) (aBC H hv))
theorem o12 (H:TH d0 d1 s th 12 obj arg tries o c dn g r v):dU (dH d0 d1 s th 12 obj arg tries) kE=Gl d0 s th 12 obj arg tries o c dn g r v:=by
 rcases kS r.l with hr | hr <;> rcases kS v.l with hv | hv
 ·have hd:=arT r th obj (Mx d0 obj) (enc (dL (iK s.l (Mx d0 obj) (dL (iK (s.at (Mx d0 obj)).l 0 (.i (-1))))))) 12 arg tries o c dn g (enc v)
  exact (sp6 H hr hv).symm.trans ((dJ (fM H (by omega)) _).symm.trans ((dJ (aD6 H hd) _).symm.trans (jW (u:=awL) (by kernel_rfl) (aBu H hr))))
 ·have hd:=arU r th obj (Mx d0 obj) (enc (dL (iK s.l (Mx d0 obj) (dL (iK (s.at (Mx d0 obj)).l 0 (.i (-1))))))) 12 arg tries o c dn g (enc v)
  exact (sp5 H hr hv).symm.trans ((dJ (fM H (by omega)) _).symm.trans ((dJ (aD7 H hd) _).symm.trans (jW (u:=awL) (by kernel_rfl) (aBu H hr))))
 ·rcases arV r th (by have:=H.hr; omega) H.hn with ⟨hw,hd⟩ | hd
  ·have hd:=hd obj (Mx d0 obj) (enc (dL (iK s.l (Mx d0 obj) (dL (iK (s.at (Mx d0 obj)).l 0 (.i (-1))))))) 12 arg tries o c dn g (enc v)
   exact (sp4 H hr hv).symm.trans ((dJ (fM H (by omega)) _).symm.trans ((dJ (aD8 H hd) _).symm.trans (jW (u:=awR) (by kernel_rfl) (aBB H hr hw))))
  ·obtain⟨n,r1,hn,hl,hw,hd⟩:=hd obj (Mx d0 obj) (enc (dL (iK s.l (Mx d0 obj) (dL (iK (s.at (Mx d0 obj)).l 0 (.i (-1))))))) 12 arg tries o c dn g (enc v)
   exact (sp4 H hr hv).symm.trans ((dJ (fM H (by omega)) _).symm.trans ((dJ (aD9 H hn hl hd) _).symm.trans (jW (u:=aA1) (by kernel_rfl) (aDv H hr hv hn hl hw hd))))
 ·rcases arW r th (by have:=H.hr; omega) H.hn with ⟨hw,hd⟩ | hd
  ·have hd:=hd obj (Mx d0 obj) (enc (dL (iK s.l (Mx d0 obj) (dL (iK (s.at (Mx d0 obj)).l 0 (.i (-1))))))) 12 arg tries o c dn g (enc v)
   exact (sp3 H hr hv).symm.trans ((dJ (fM H (by omega)) _).symm.trans ((dJ (aEa H hd) _).symm.trans (jW (u:=awR) (by kernel_rfl) (aBB H hr hw))))
  ·obtain⟨n,r1,hn,hl,hw,hd⟩:=hd obj (Mx d0 obj) (enc (dL (iK s.l (Mx d0 obj) (dL (iK (s.at (Mx d0 obj)).l 0 (.i (-1))))))) 12 arg tries o c dn g (enc v)
   exact (sp3 H hr hv).symm.trans ((dJ (fM H (by omega)) _).symm.trans ((dJ (aEb H hn hl hd) _).symm.trans (jW (u:=aA6) (by kernel_rfl) (aDA H hr hv hn hl hw hd))))
theorem o13 (H:TH d0 d1 s th 13 obj arg tries o c dn g r v):dU (dH d0 d1 s th 13 obj arg tries) kE=Gl d0 s th 13 obj arg tries o c dn g r v:=by
 rcases kS r.l with hr | hr <;> rcases kS v.l with hv | hv
 ·exact (sp6 H hr hv).symm.trans (jW (u:=awK) (by kernel_rfl) (aBt H hr))
 ·exact (sp5 H hr hv).symm.trans (jW (u:=awK) (by kernel_rfl) (aBt H hr))
 ·exact (sp4 H hr hv).symm.trans (jW (u:=awQ) (by kernel_rfl) (aBA H hr))
 ·exact (sp3 H hr hv).symm.trans (jW (u:=awQ) (by kernel_rfl) (aBA H hr))
theorem o14 (H:TH d0 d1 s th 14 obj arg tries o c dn g r v):dU (dH d0 d1 s th 14 obj arg tries) kE=Gl d0 s th 14 obj arg tries o c dn g r v:=by
 rcases kS r.l with hr | hr <;> rcases kS v.l with hv | hv
 ·exact (sp6 H hr hv).symm.trans (jW (u:=awJ) (by kernel_rfl) (aBs H hr))
 ·exact (sp5 H hr hv).symm.trans (jW (u:=awJ) (by kernel_rfl) (aBs H hr))
 ·exact (sp4 H hr hv).symm.trans (jW (u:=awP) (by kernel_rfl) (aBz H hr))
 ·exact (sp3 H hr hv).symm.trans (jW (u:=awP) (by kernel_rfl) (aBz H hr))
theorem o24 (H:TH d0 d1 s th 24 obj arg tries o c dn g r v):dU (dH d0 d1 s th 24 obj arg tries) kE=Gl d0 s th 24 obj arg tries o c dn g r v:=by
 rcases kS r.l with hr | hr <;> rcases kS v.l with hv | hv
 ·exact (sp6 H hr hv).symm.trans ((dJ (fM H (by omega)) _).symm.trans (jW (u:=aeA) (by kernel_rfl) (aoW H)))
 ·exact (sp5 H hr hv).symm.trans ((dJ (fM H (by omega)) _).symm.trans (jW (u:=aeA) (by kernel_rfl) (aoW H)))
 ·exact (sp4 H hr hv).symm.trans ((dJ (fM H (by omega)) _).symm.trans (jW (u:=aeA) (by kernel_rfl) (aoW H)))
 ·exact (sp3 H hr hv).symm.trans ((dJ (fM H (by omega)) _).symm.trans (jW (u:=aeA) (by kernel_rfl) (aoW H)))
theorem o15 (H:TH d0 d1 s th 15 obj arg tries o c dn g r v):dU (dH d0 d1 s th 15 obj arg tries) kE=Gl d0 s th 15 obj arg tries o c dn g r v:=jX H (u:=aA5) (by kernel_rfl) (by kernel_rfl) (by kernel_rfl) (by kernel_rfl) (aDz H)
theorem o25 (H:TH d0 d1 s th 25 obj arg tries o c dn g r v):dU (dH d0 d1 s th 25 obj arg tries) kE=Gl d0 s th 25 obj arg tries o c dn g r v:=jX H (u:=aA4) (by kernel_rfl) (by kernel_rfl) (by kernel_rfl) (by kernel_rfl) (aDy H)
theorem o16 (H:TH d0 d1 s th 16 obj arg tries o c dn g r v):dU (dH d0 d1 s th 16 obj arg tries) kE=Gl d0 s th 16 obj arg tries o c dn g r v:=jX H (u:=aA3) (by kernel_rfl) (by kernel_rfl) (by kernel_rfl) (by kernel_rfl) (aDx H)
theorem o26 (H:TH d0 d1 s th 26 obj arg tries o c dn g r v):dU (dH d0 d1 s th 26 obj arg tries) kE=Gl d0 s th 26 obj arg tries o c dn g r v:=jX H (u:=aA2) (by kernel_rfl) (by kernel_rfl) (by kernel_rfl) (by kernel_rfl) (aDw H)
theorem anZ (H:TH d0 d1 s th op obj arg tries o c dn g r v) (hop:op∈ops):L 400 [enc d0,enc d1,enc s,th,op,obj,arg,tries]=some (outA s th op obj (Mx d0 obj) (act (Mx d0 obj) (Mo d0 s obj) th op arg tries o c dn g r v)):=by
 rw [aX,aAS]
 suffices h:dU (dH d0 d1 s th op obj arg tries) kE=Gl d0 s th op obj arg tries o c dn g r v by rw [h]; rfl
 unfold ops at hop
 simp only [List.mem_cons,List.not_mem_nil,or_false] at hop
 rcases hop with rfl | rfl | rfl | rfl | rfl | rfl | rfl | rfl | rfl | rfl | rfl | rfl | rfl | rfl | rfl | rfl | rfl | rfl | rfl | rfl | rfl | rfl | rfl | rfl | rfl | rfl
 ·exact o1 H
 ·exact o2 H
 ·exact o8 H
 ·exact o3 H
 ·exact o4 H
 ·exact o5 H
 ·exact o6 H
 ·exact o7 H
 ·exact o9 H
 ·exact o11 H
 ·exact o10 H
 ·exact o17 H
 ·exact o18 H
 ·exact o19 H
 ·exact o22 H
 ·exact o23 H
 ·exact o20 H
 ·exact o21 H
 ·exact o12 H
 ·exact o13 H
 ·exact o14 H
 ·exact o24 H
 ·exact o15 H
 ·exact o25 H
 ·exact o16 H
 ·exact o26 H
end
end Go.As.Try
end
section
namespace Go.As.Try
open Go hiding Stat Spec shape
open Go.As
set_option maxRecDepth 100000
abbrev ahP:T Lf:=ou [.op .set (aY 2) (thg (mk (aY 3)) (mk (aY 4)) bt (mk (aY 6)) (aY 7) (aY 8)),.lit 0,.lit 0,.lit 0,.lit 0,.lit 0,.lit 0]
abbrev Ya (a:Int):List SB:=[.eq (a0 9000 [.aC 5,.aC 2]) (.lit 1),.eq (aY 0) (.lit a),.eq (a0 350 [.aC 0,.aC 1,.aC 2]) (.lit 1)]
abbrev Na (a:Int):List SB:=([0,1,2,3,4,5].filter fun j=>!(j == a)).map fun j=> .eq (aY 0) (.lit j)
abbrev r3:SB:=.eq (rr 350 [.aC 0,.aC 1,.aC 2] 0) (.lit 0)
abbrev t3:SB:=.lt (.aC 3) (.lit 0)
abbrev u3:SB:=.lt (.aC 3) (ln (.aC 1))
section
variable {d0 d1 s r v:D} {th op obj arg tries o c dn g b kop a:Int} (hR:L 350 [enc d0,enc d1,enc s]=some [b])
include hR
theorem fa {l:List Int} (hc:L 9000 [obj,enc s]=some (a :: l)):zY (dH d0 d1 s th op obj arg tries) (Ya a)∧zW (dH d0 d1 s th op obj arg tries) (Na a):=by
 refine⟨by simp only [zz,aH.den,Nat.reduceLT,hc,hR],aeD fun c hc'=>?_⟩
 obtain⟨j,hj,rfl⟩:=List.mem_map.1 hc'
 have:=(List.mem_filter.1 hj).2
 simp only [zz,aH.den,Nat.reduceLT,hc]
 intro h
 subst h
 simp at this
theorem wY (k:dU (dH d0 d1 s th op obj arg tries) kE= .out [enc s,0,0,0,0,0,0]):L 400 [enc d0,enc d1,enc s,th,op,obj,arg,tries]=some [enc s,0,0,0,0,0,0]:=by
 rw [aX,aAS]
 exact congrArg (fin L) k
section
variable (ha:a=3∨a=4∨a=5∨a=6) (hcp:L 9000 [obj,enc s]=some [a,obj,enc s,o,c,dn,g,enc r,enc v]) (Bq:0≤obj) (Bo:obj < (s.l.length:Int)) (hd:dn=0∨dn=1) (hs:s=dL (iK s.l obj (dL [.i o,.i c,.i dn,.i g,r,v])))
include ha hcp Bq Bo hd hs
omit ha hR Bq Bo in
theorem JB:dU (dH d0 d1 s th op obj arg tries) ahP= .out [enc s,0,0,0,0,0,0]:=by
 have e:(if dn=0 then (0:Int) else 1)=dn:=by rcases hd with rfl | rfl <;> rfl
 simp only [dL] at hs
 simp only [zz,aH.den,Nat.reduceLT,hcp,e,← hs]
theorem aDL (h:b=0):L 400 [enc d0,enc d1,enc s,th,op,obj,arg,tries]=some [enc s,0,0,0,0,0,0]:=
 wY hR (aP (Ya a++ [r3]) (Na a++ []) ahP (z2 (fa hR hcp) (by simp only [zz,aH.den,Nat.reduceLT,hcp,hR] <;> omega)) (by rcases ha with rfl | rfl | rfl | rfl <;> kernel_rfl) (JB hcp hd hs))
theorem aDK (hb:b≠0) (h:th < 0):L 400 [enc d0,enc d1,enc s,th,op,obj,arg,tries]=some [enc s,0,0,0,0,0,0]:=
 wY hR (aP (Ya a++ [t3]) (Na a++ [r3]) ahP (z2 (fa hR hcp) (by simp only [zz,aH.den,Nat.reduceLT,hcp,hR] <;> omega)) (by rcases ha with rfl | rfl | rfl | rfl <;> kernel_rfl) (JB hcp hd hs))
theorem aDJ (hb:b≠0) (h0:0≤th) (h: ¬th < (d1.l.length:Int)):L 400 [enc d0,enc d1,enc s,th,op,obj,arg,tries]=some [enc s,0,0,0,0,0,0]:=
 wY hR (aP (Ya a++ []) (Na a++ [r3,t3,u3]) ahP (z2 (fa hR hcp) (by simp only [zz,aH.den,Nat.reduceLT,hcp,hR] <;> omega)) (by rcases ha with rfl | rfl | rfl | rfl <;> kernel_rfl) (JB hcp hd hs))
theorem aDM (hb:b≠0) (h0:0≤th) (h:th < (d1.l.length:Int)) (hk:L 600 [op]=some [kop]) (hlen:s.l.length=d0.l.length) (hne: ¬kop=((d0.at obj).hd 0).n):L 400 [enc d0,enc d1,enc s,th,op,obj,arg,tries]=some [enc s,0,0,0,0,0,0]:=
 wY hR (aP (Ya a++ [u3,.lt (.aC 5) (ln (aY 2)),.eq (a0 600 [.aC 4]) (.lit 1),.lt (.aC 5) (ln (.aC 0))]) (Na a++ [r3,t3,.lt (.aC 5) (.lit 0),.eq (rr 600 [.aC 4] 0) (nm (ce 0 (el (.aC 0) (.aC 5))))]) ahP (z2 (fa hR hcp) (by simp only [zz,aH.den,Nat.reduceLT,hcp,hR,hk] <;> omega)) (by rcases ha with rfl | rfl | rfl | rfl <;> kernel_rfl) (JB hcp hd hs))
end
theorem aBO (hcp:L 9000 [obj,enc s]=some [0,obj,enc s]) (h:obj < 0):L 400 [enc d0,enc d1,enc s,th,op,obj,arg,tries]=some [enc s,0,0,0,0,0,0]:=
 wY hR (aP (Ya 0++ [.lt (.aC 5) (.lit 0)]) (Na 0++ []) (sp r3 (ou [aY 2,.lit 0,.lit 0,.lit 0,.lit 0,.lit 0,.lit 0]) (sp t3 (ou [aY 2,.lit 0,.lit 0,.lit 0,.lit 0,.lit 0,.lit 0]) (sp u3 (ou [aY 2,.lit 0,.lit 0,.lit 0,.lit 0,.lit 0,.lit 0]) (ou [aY 2,.lit 0,.lit 0,.lit 0,.lit 0,.lit 0,.lit 0])))) (z2 (fa hR hcp) (by simp only [zz,aH.den,Nat.reduceLT,hcp] <;> omega)) (by kernel_rfl) (by simp only [zz,aH.den,Nat.reduceLT,hcp,hR,ite_self]))
theorem aBN (hcp:L 9000 [obj,enc s]=some [0,obj,enc s]) (h0:0≤obj) (h: ¬obj < (s.l.length:Int)):L 400 [enc d0,enc d1,enc s,th,op,obj,arg,tries]=some [enc s,0,0,0,0,0,0]:=
 wY hR (aP (Ya 0++ []) (Na 0++ [.lt (.aC 5) (.lit 0),.lt (.aC 5) (ln (aY 2))]) (sp r3 (ou [aY 2,.lit 0,.lit 0,.lit 0,.lit 0,.lit 0,.lit 0]) (sp t3 (ou [aY 2,.lit 0,.lit 0,.lit 0,.lit 0,.lit 0,.lit 0]) (sp u3 (ou [aY 2,.lit 0,.lit 0,.lit 0,.lit 0,.lit 0,.lit 0]) (ou [aY 2,.lit 0,.lit 0,.lit 0,.lit 0,.lit 0,.lit 0])))) (z2 (fa hR hcp) (by simp only [zz,aH.den,Nat.reduceLT,hcp] <;> omega)) (by kernel_rfl) (by simp only [zz,aH.den,Nat.reduceLT,hcp,hR,ite_self]))
theorem aBM (hcp:L 9000 [obj,enc s]=some [1,obj]) (h:obj < 0) (hs:s= .i 1):L 400 [enc d0,enc d1,enc s,th,op,obj,arg,tries]=some [enc s,0,0,0,0,0,0]:=
 wY hR (aP (Ya 1++ [.lt (.aC 5) (.lit 0)]) (Na 1++ []) (sp r3 (ou [.dat (.i 1),.lit 0,.lit 0,.lit 0,.lit 0,.lit 0,.lit 0]) (sp t3 (ou [.dat (.i 1),.lit 0,.lit 0,.lit 0,.lit 0,.lit 0,.lit 0]) (sp u3 (ou [.dat (.i 1),.lit 0,.lit 0,.lit 0,.lit 0,.lit 0,.lit 0]) (ou [.dat (.i 1),.lit 0,.lit 0,.lit 0,.lit 0,.lit 0,.lit 0])))) (z2 (fa hR hcp) (by simp only [zz,aH.den,Nat.reduceLT,hcp] <;> omega)) (by kernel_rfl) (by simp only [zz,aH.den,Nat.reduceLT,hcp,hR,hs,ite_self]))
theorem aBL (hcp:L 9000 [obj,enc s]=some [1,obj]) (h0:0≤obj) (h: ¬obj < (s.l.length:Int)) (hs:s= .i 1):L 400 [enc d0,enc d1,enc s,th,op,obj,arg,tries]=some [enc s,0,0,0,0,0,0]:=
 wY hR (aP (Ya 1++ []) (Na 1++ [.lt (.aC 5) (.lit 0)]) (sp r3 (ou [.dat (.i 1),.lit 0,.lit 0,.lit 0,.lit 0,.lit 0,.lit 0]) (sp t3 (ou [.dat (.i 1),.lit 0,.lit 0,.lit 0,.lit 0,.lit 0,.lit 0]) (sp u3 (ou [.dat (.i 1),.lit 0,.lit 0,.lit 0,.lit 0,.lit 0,.lit 0]) (ou [.dat (.i 1),.lit 0,.lit 0,.lit 0,.lit 0,.lit 0,.lit 0])))) (z2 (fa hR hcp) (by simp only [zz,aH.den,Nat.reduceLT,hcp] <;> omega)) (by kernel_rfl) (by simp only [zz,aH.den,Nat.reduceLT,hcp,hR,hs,ite_self]))
theorem aBK (hcp:L 9000 [obj,enc s]=some [2,obj]) (h:obj < 0) (hs:s= .i 2):L 400 [enc d0,enc d1,enc s,th,op,obj,arg,tries]=some [enc s,0,0,0,0,0,0]:=
 wY hR (aP (Ya 2++ [.lt (.aC 5) (.lit 0)]) (Na 2++ []) (sp r3 (ou [.dat (.i 2),.lit 0,.lit 0,.lit 0,.lit 0,.lit 0,.lit 0]) (sp t3 (ou [.dat (.i 2),.lit 0,.lit 0,.lit 0,.lit 0,.lit 0,.lit 0]) (sp u3 (ou [.dat (.i 2),.lit 0,.lit 0,.lit 0,.lit 0,.lit 0,.lit 0]) (ou [.dat (.i 2),.lit 0,.lit 0,.lit 0,.lit 0,.lit 0,.lit 0])))) (z2 (fa hR hcp) (by simp only [zz,aH.den,Nat.reduceLT,hcp] <;> omega)) (by kernel_rfl) (by simp only [zz,aH.den,Nat.reduceLT,hcp,hR,hs,ite_self]))
theorem aBJ (hcp:L 9000 [obj,enc s]=some [2,obj]) (h0:0≤obj) (h: ¬obj < (s.l.length:Int)) (hs:s= .i 2):L 400 [enc d0,enc d1,enc s,th,op,obj,arg,tries]=some [enc s,0,0,0,0,0,0]:=
 wY hR (aP (Ya 2++ []) (Na 2++ [.lt (.aC 5) (.lit 0)]) (sp r3 (ou [.dat (.i 2),.lit 0,.lit 0,.lit 0,.lit 0,.lit 0,.lit 0]) (sp t3 (ou [.dat (.i 2),.lit 0,.lit 0,.lit 0,.lit 0,.lit 0,.lit 0]) (sp u3 (ou [.dat (.i 2),.lit 0,.lit 0,.lit 0,.lit 0,.lit 0,.lit 0]) (ou [.dat (.i 2),.lit 0,.lit 0,.lit 0,.lit 0,.lit 0,.lit 0])))) (z2 (fa hR hcp) (by simp only [zz,aH.den,Nat.reduceLT,hcp] <;> omega)) (by kernel_rfl) (by simp only [zz,aH.den,Nat.reduceLT,hcp,hR,hs,ite_self]))
end
end Go.As.Try
end
section
namespace Go.As.Try
open Go hiding Stat Spec shape
open Go.As
set_option maxRecDepth 100000
def kindOf (o:Int):Int:=if o < 27 then (if o=0 then 0 else if o=1 then 1 else if o=2 then 1 else if o=3 then 1 else if o=4 then 1 else if o=5 then 2 else if o=6 then 2 else if o=7 then 2 else if o=8 then 2 else if o=9 then 3 else if o=10 then 3 else if o=11 then 3 else if o=12 then 4 else if o=13 then 4 else if o=14 then 4 else if o=15 then 5 else if o=16 then 6 else if o=17 then 7 else if o=18 then 7 else if o=19 then 7 else if o=20 then 8 else if o=21 then 8 else if o=22 then 9 else if o=23 then 9 else if o=24 then 4 else if o=25 then 5 else 6) else 0
theorem Va (o:Int) (h:iR .u8 o):L 600 [o]=some [kindOf o]:=by
 have h1:=h.1
 have w:=aBg h
 have c1: ¬(o < 0):=by omega
 rw [aX,aC6]
 simp only [axE,zz,aH.den,Nat.reduceLT,w,c1]
 by_cases h27:o < 27
 ·simp only [if_pos h27]
  have:o=0∨o=1∨o=2∨o=3∨o=4∨o=5∨o=6∨o=7∨o=8∨o=9∨o=10∨o=11∨o=12∨o=13∨o=14∨o=15∨o=16∨o=17∨o=18∨o=19∨o=20∨o=21∨o=22∨o=23∨o=24∨o=25∨o=26:=by omega
  rcases this with rfl | rfl | rfl | rfl | rfl | rfl | rfl | rfl | rfl | rfl | rfl | rfl | rfl | rfl | rfl | rfl | rfl | rfl | rfl | rfl | rfl | rfl | rfl | rfl | rfl | rfl | rfl
  all_goals rfl
 ·simp only [if_neg h27]
  unfold kindOf
  rw [if_neg h27]
  rfl
theorem aiG {o:Int} (h0:0≤o) (h:kindOf o≠0):o∈ops:=by
 have h27:o < 27:=by
  refine Decidable.byContradiction fun hn=>h ?_
  unfold kindOf
  rw [if_neg hn]
 have:o=0∨o=1∨o=2∨o=3∨o=4∨o=5∨o=6∨o=7∨o=8∨o=9∨o=10∨o=11∨o=12∨o=13∨o=14∨o=15∨o=16∨o=17∨o=18∨o=19∨o=20∨o=21∨o=22∨o=23∨o=24∨o=25∨o=26:=by omega
 rcases this with rfl | rfl | rfl | rfl | rfl | rfl | rfl | rfl | rfl | rfl | rfl | rfl | rfl | rfl | rfl | rfl | rfl | rfl | rfl | rfl | rfl | rfl | rfl | rfl | rfl | rfl | rfl
 all_goals first | exact absurd rfl h | decide
structure Acc (d0 d1 s:D) (th op obj:Int):Prop where
 r:L 350 [enc d0,enc d1,enc s]=some [1]
 t0:0≤th
 t1:th < (d1.l.length:Int)
 o0:0≤obj
 o1:obj < (s.l.length:Int)
 k:kindOf op=((d0.at obj).hd 0).n
structure Tg (x:D) (o c dn g:Int) (r v:D):Prop where
 is:x=dL [.i o,.i c,.i dn,.i g,r,v]
 ho:iR .i64 o
 hc:iR .i64 c
 hd:dn=0∨dn=1
 hg:iR .i64 g
 hr:Wd (.sl 0) r
 hv:Wd (.sl 0) v
theorem Uz {x:D} (h:CW x): ∃o c dn g r v,Tg x o c dn g r v:=by
 obtain⟨o,c,d,g,r,v,h1,h2,h3,h4,h5,h6,h7⟩:=h
 exact⟨o,c,d,g,r,v,h1,h2,h3,h4,h5,h6,h7⟩
theorem anV {r:D} (h:Wd (.sl 0) r): ∀x∈r.l,x= .i x.n:=by
 intro x hx
 obtain⟨n,rfl,_⟩:=(h.el1 rfl x hx).i
 rfl
def few (s:D):Prop:= ∀x∈s.l,(x.hd 4).l.length < 17592186044415∧(x.hd 5).l.length < 17592186044415
theorem few.rows {s:D} (h:few s):He s:=fun x hx=>by have:=(h x hx).1; omega
section
variable {d0 d1 s:D} {th op obj arg tries:Int} (h0:Wd (.sl 3) d0) (h1:Wd (.sl 4) d1) (hs:Wd (.sl 7) s) (hf:few s) (hop:iR .u8 op)
include h0 h1 hf in
theorem UN (h:L 350 [enc d0,enc d1,enc s]=some [1]):Hq d0 d1∧s.l.length=d0.l.length:=by
 obtain⟨b,hb,_,hi⟩:=yU h0 h1 hf.rows
 rw [h] at hb
 simp only [Option.some.injEq,List.cons.injEq,and_true] at hb
 obtain⟨hC,hle,_⟩:=hi.1 hb.symm
 obtain⟨ys,hC',c,rfl,_,hok⟩:=Dp h0 h1
 rw [hC] at hC'
 simp only [Option.some.injEq,List.cons.injEq,and_true] at hC'
 exact⟨(hok hC'.symm).1,hle⟩
include h0 h1 hf in
theorem abC (A:Acc d0 d1 s th op obj):ahI d0 (d0.at obj)∧s.l.length=d0.l.length:=by
 obtain⟨hok,hle⟩:=UN h0 h1 hf A.r
 refine⟨?_,hle⟩
 have a1:=A.o0; have a2:=A.o1
 obtain⟨i,rfl⟩ : ∃i:Nat,obj=(i:Int):=⟨obj.toNat,by omega⟩
 have hi:i < d0.l.length:=by omega
 rw [bM hi]
 exact hok.2.2 _ (List.getElem_mem hi)
include h0 h1 hs hf hop
theorem Wu (A:Acc d0 d1 s th op obj) (h:op=12∨op=24):0≤Mx d0 obj∧Mx d0 obj < (s.l.length:Int)∧Mx d0 obj≠obj:=by
 obtain⟨ho,hle⟩:=abC h0 h1 hf A
 have h4:((d0.at obj).hd 0).n=4:=by
  rw [← A.k]
  rcases h with rfl | rfl <;> rfl
 obtain⟨m1,m2,m3⟩:=ho.2.2.2.2.2 h4
 refine⟨m1,by rw [hle]; exact m2,fun he=>?_⟩
 have he:((d0.at obj).hd 2).n=obj:=he
 rw [he,h4] at m3
 omega
theorem anY (A:Acc d0 d1 s th op obj):op∈ops∧∃o c dn g r v,Tg (s.at obj) o c dn g r v∧
 L 400 [enc d0,enc d1,enc s,th,op,obj,arg,tries]=some (outA s th op obj (Mx d0 obj) (act (Mx d0 obj) (Mo d0 s obj) th op arg tries o c dn g r v)):=by
 obtain⟨ho,hle⟩:=abC h0 h1 hf A
 have hin:op∈ops:=aiG hop.1 (by rw [A.k]; have:=ho.1; omega)
 have a1:=A.o0; have a2:=A.o1
 obtain⟨i,rfl⟩ : ∃i:Nat,obj=(i:Int):=⟨obj.toNat,by omega⟩
 have hi:i < s.l.length:=by omega
 have ht:=DJ hs (by omega)
 obtain⟨o,c,dn,g,r,v,T⟩:=Uz (hs.thing _ (List.getElem_mem hi))
 have hfx:=hf _ (List.getElem_mem hi)
 rw [T.is] at hfx
 have hkk:L 600 [op]=some [((d0.at (i:Int)).hd 0).n]:=by rw [Va op hop,A.k]
 refine⟨hin,o,c,dn,g,r,v,by rw [bM hi]; exact T,?_⟩
 refine anZ ⟨avY s ht i hi o c dn g r v T.is,amT s hs,A.r,A.t0,A.t1,A.o0,A.o1,hle,hkk,?_,?_,(anV T.hr),fun h=>Wu h0 h1 hs hf hop A h⟩ hin
 ·have:(r.l.length:Int) < 17592186044415:=Int.ofNat_lt.2 hfx.1
  exact this
 ·have:(v.l.length:Int) < 17592186044415:=Int.ofNat_lt.2 hfx.2
  exact this
theorem awV (A: ¬Acc d0 d1 s th op obj):L 400 [enc d0,enc d1,enc s,th,op,obj,arg,tries]=some [enc s,0,0,0,0,0,0]:=by
 obtain⟨b,hb,hb2,_⟩:=yU h0 h1 hf.rows
 by_cases ho:0≤obj∧obj < (s.l.length:Int)
 ·obtain⟨i,rfl⟩ : ∃i:Nat,obj=(i:Int):=⟨obj.toNat,by omega⟩
  have hi:i < s.l.length:=by omega
  have ht:=DJ hs (by omega)
  obtain⟨o,c,dn,g,r,v,T⟩:=Uz (hs.thing _ (List.getElem_mem hi))
  have hcp:=avY s ht i hi o c dn g r v T.is
  have hss:s=dL (iK s.l (i:Int) (dL [.i o,.i c,.i dn,.i g,r,v])):=by
   have:=set_self ht.sh hi
   rw [T.is] at this
   exact this.symm
  have hkk:=Va op hop
  have key: ∀alt:Int,(alt=3∨alt=4∨alt=5∨alt=6)→L 9000 [(i:Int),enc s]=some [alt,(i:Int),enc s,o,c,dn,g,enc r,enc v]→L 400 [enc d0,enc d1,enc s,th,op,(i:Int),arg,tries]=some [enc s,0,0,0,0,0,0]:=by
   intro alt ha hcp
   by_cases hb0:b=0
   ·exact aDL hb ha hcp ho.1 ho.2 T.hd hss hb0
   ·have hb1:b=1:=by omega
    by_cases t0:th < 0
    ·exact aDK hb ha hcp ho.1 ho.2 T.hd hss hb0 t0
    ·by_cases t1:th < (d1.l.length:Int)
     ·have hne: ¬kindOf op=((d0.at (i:Int)).hd 0).n:=fun hk=>A ⟨by rw [hb,hb1],by omega,t1,ho.1,ho.2,hk⟩
      obtain⟨_,hle⟩:=UN h0 h1 hf (by rw [hb,hb1])
      exact aDM hb ha hcp ho.1 ho.2 T.hd hss hb0 (by omega) t1 hkk hle hne
     ·exact aDJ hb ha hcp ho.1 ho.2 T.hd hss hb0 (by omega) t1
  refine key _ ?_ hcp
  unfold oP
  split <;> split <;> simp
 ·obtain⟨ys,hc,hys⟩:=copyN s hs obj (by omega)
  by_cases hn:obj < 0
  ·rcases hys with rfl | ⟨rfl,he⟩ | ⟨rfl,he⟩
   ·exact aBO hb hc hn
   ·exact aBM hb hc hn he
   ·exact aBK hb hc hn he
  ·rcases hys with rfl | ⟨rfl,he⟩ | ⟨rfl,he⟩
   ·exact aBN hb hc (by omega) (by omega)
   ·exact aBL hb hc (by omega) (by omega) he
   ·exact aBJ hb hc (by omega) (by omega) he
end
end Go.As.Try
end
section
namespace Go.As.Try
open Go hiding Stat Spec shape
open Go.As
set_option maxRecDepth 100000
theorem Ju {d:D} {l:List D} (h: ∀x∈l,∃n,x= .i n∧iR .i64 n) (hl:l.length≤17592186043904):Wd (.sl 0) (fQ d l):=by
 cases l with
 | nil=>
   show Wd (.sl 0) (if d= .i 1 then .i 1 else .i 2)
   split
   ·exact .nil 0
   ·exact .non 0
 | cons a l=>
   refine .one 0 (.int .i64) (a :: l) rfl (by simp) (by have:yI 0=8:=rfl; rw [this]; omega) fun x hx=>?_
   obtain⟨n,rfl,hn⟩:=h x hx
   exact .int _ _ hn
theorem Ce {l:List D} (h: ∀x∈l,∃n,x= .i n∧iR .i64 n) (hn:l≠[]) (hl:l.length≤17592186043904):Wd (.sl 0) (dL l):=by
 rw [← F8 (d:=.i 2) hn]
 exact Ju h hl
theorem yM {r:D} (h:Wd (.sl 0) r): ∀x∈r.l,∃n,x= .i n∧iR .i64 n:=fun x hx=>(h.el1 rfl x hx).i
theorem wrap_in (z:Int):iR .i64 (IntKind.i64.wrap z):=by
 constructor <;> (rw [IntKind.wrap_i64]; omega)
def N7 (n:Nat):Act→Prop
 | .res o c dn g r v m _ oc=>iR .i64 o∧iR .i64 c∧(dn=0∨dn=1)∧iR .i64 g∧Wd (.sl 0) r∧r.l.length≤n∧Wd (.sl 0) v∧v.l.length≤n∧(∀q,m=some q→iR .i64 q)∧(oc=2∨oc=3)
 | _=>True
theorem N7.ite {n:Nat} {p:Prop} [Decidable p] {a b:Act} (ha:N7 n a) (hb:N7 n b):N7 n (if p then a else b):=by
 split
 ·exact ha
 ·exact hb
def NoM:Act→Prop
 | .res _ _ _ _ _ _ m _ _=>m=none
 | _=>True
theorem NoM.ite {p:Prop} [Decidable p] {a b:Act} (ha:NoM a) (hb:NoM b):NoM (if p then a else b):=by
 split
 ·exact ha
 ·exact hb
section
variable {x:D} {M mo th op arg tries o c dn g:Int} {r v:D}
theorem aA0 (T:Tg x o c dn g r v) {n:Nat} (hr:r.l.length≤n) (hv:v.l.length≤n) (hn:n < 17592186043904) (ht:iR .i64 th) (ha:iR .i64 arg):N7 (n+1) (act M mo th op arg tries o c dn g r v):=by
 have hm:iR .i64 (-1):=⟨by omega,by omega⟩
 have hz:iR .i64 0:=⟨by omega,by omega⟩
 have e1: ∀q:Int,(none:Option Int)=some q→iR .i64 q:=fun q h=>by simp at h
 have e2: ∀{p:Int},iR .i64 p→∀q:Int,some p=some q→iR .i64 q:=fun hp q h=>by simp only [Option.some.injEq] at h; exact h▸hp
 have hr1:r.l.length≤n+1:=by omega
 have hv1:v.l.length≤n+1:=by omega
 have w:=@wrap_in
 have sn: ∀{l:List D} {t:Int},(∀x∈l,∃n,x= .i n∧iR .i64 n)→iR .i64 t→∀x∈l++ [.i t],∃n,x= .i n∧iR .i64 n:=fun h ht x hx=>by
  rcases List.mem_append.1 hx with hx | hx
  ·exact h x hx
  ·simp only [List.mem_cons,List.not_mem_nil,or_false] at hx
   exact⟨_,hx,ht⟩
 have r5:Wd (.sl 0) (dL (r.l++ [.i th])):=Ce (sn (yM T.hr) ht) (by simp) (by simp; omega)
 have l5:(dL (r.l++ [.i th])).l.length≤n+1:=by rw [aZ]; simp; omega
 have r20:Wd (.sl 0) (dL (v.l++ [.i arg])):=Ce (sn (yM T.hv) ha) (by simp) (by simp; omega)
 have l20:(dL (v.l++ [.i arg])).l.length≤n+1:=by rw [aZ]; simp; omega
 have r12:Wd (.sl 0) (dL (wo th r.l++ [.i th])):=Ce (sn (fun x hx=>(yM T.hr) x (List.mem_filter.1 hx).1) ht) (by simp) (by have:=aeH th r.l; simp; omega)
 have l12:(dL (wo th r.l++ [.i th])).l.length≤n+1:=by have:=aeH th r.l; rw [aZ]; simp; omega
 have r6: ∀k,Wd (.sl 0) (fQ (.i 2) (r.l.take k++r.l.drop (k+1))):=fun k=>Ju (fun x hx=>by
  rcases List.mem_append.1 hx with hx | hx
  ·exact (yM T.hr) x (List.mem_of_mem_take hx)
  ·exact (yM T.hr) x (List.mem_of_mem_drop hx)) (by simp only [List.length_append,List.length_take,List.length_drop]; omega)
 have l6: ∀k,(fQ (.i 2) (r.l.take k++r.l.drop (k+1))).l.length≤n+1:=fun k=>by rw [gI]; simp only [List.length_append,List.length_take,List.length_drop]; omega
 have r21:Wd (.sl 0) (fQ v (v.l.drop 1)):=Ju (fun x hx=>(yM T.hv) x (List.mem_of_mem_drop hx)) (by simp; omega)
 have l21:(fQ v (v.l.drop 1)).l.length≤n+1:=by rw [gI]; simp; omega
 have r13:Wd (.sl 0) (fQ r (r.l.drop 1)):=Ju (fun x hx=>(yM T.hr) x (List.mem_of_mem_drop hx)) (by simp; omega)
 have l13:(fQ r (r.l.drop 1)).l.length≤n+1:=by rw [gI]; simp; omega
 have r14:Wd (.sl 0) (.i 1):=.nil 0
 have l14:(D.i 1).l.length≤n+1:=by simp [D.l]
 unfold act
 repeat' refine N7.ite ?_ ?_
 all_goals first
  | trivial
  | exact⟨by first | exact T.ho | exact ht | exact hm,by first | exact T.hc | exact w _ | exact ha | exact hz,by first | exact T.hd | exact .inr rfl,by first | exact T.hg | exact w _,by first | exact T.hr | exact r5 | exact r6 _ | exact r12 | exact r13 | exact r14,by first | exact hr1 | exact l5 | exact l6 _ | exact l12 | exact l13 | exact l14,by first | exact T.hv | exact r20 | exact r21,by first | exact hv1 | exact l20 | exact l21,by first | exact e1 | exact e2 hm | exact e2 ht,by first | exact .inl rfl | exact .inr rfl⟩
theorem adW (h12:op≠12) (h24:op≠24):NoM (act M mo th op arg tries o c dn g r v):=by
 unfold act
 rw [if_neg h12,if_neg h24]
 repeat' refine NoM.ite ?_ ?_
 all_goals first
  | exact rfl
  | trivial
end
end Go.As.Try
end
section
namespace Go.As.Try
open Go hiding Stat Spec shape
open Go.As
set_option maxRecDepth 100000
def isN (ys:List Int):Prop:= ∃v:Int,ys= [v]∧iR .i64 v
theorem aiL:isN [0]:=⟨0,rfl,by constructor <;> omega⟩
theorem aiK:isN [1]:=⟨1,rfl,by constructor <;> omega⟩
theorem atY (z:Int):isN [IntKind.i64.wrap z]:=⟨_,rfl,wrap_in z⟩
theorem KF: ∀{d x:D},x∈d.l→SizeOf.sizeOf x < SizeOf.sizeOf d
 | .i _,x,h=>by simp [D.l] at h
 | .p a b,x,h=>by
   simp only [D.l,List.mem_cons] at h
   rcases h with rfl | h
   ·simp only [D.p.sizeOf_spec]; omega
   ·have:=KF (d:=b) h
    simp only [D.p.sizeOf_spec]; omega
def Nums (l:List D):Prop:= ∀y∈l,iR .i64 (amL y).n
theorem ahQ:Nums []:=fun y h=>by simp at h
theorem Fh: ∀{l:List D} {k v:D},Nums l→iR .i64 v.n→Nums (Ls l k v)
 | [],k,v,_,hv=>by
   intro y hy
   simp only [Ls,List.mem_cons,List.not_mem_nil,or_false] at hy
   subst hy
   exact hv
 | d :: l,k,v,hl,hv=>by
   intro y hy
   simp only [Ls] at hy
   split at hy
   ·simp only [List.mem_cons] at hy
    rcases hy with rfl | hy
    ·exact hv
    ·exact hl y (by simp [hy])
   ·simp only [List.mem_cons] at hy
    rcases hy with rfl | hy
    ·exact hl _ (by simp)
    ·exact Fh (fun z hz=>hl z (by simp [hz])) hv y hy
theorem U2: ∀{l:List D} {k:D},Nums l→iR .i64 ((yA l k).getD (.i 0)).n
 | [],k,_=>by constructor <;> simp [yA,D.n]
 | d :: l,k,hl=>by
   simp only [yA]
   split
   ·exact hl d (by simp)
   ·exact U2 fun y hy=>hl y (by simp [hy])
theorem aqA {l:List D} {k:D} (h:Nums l):isN [((yA l k).getD (.i 0)).n]:=⟨_,rfl,U2 h⟩
def Ints (d:D):Prop:= ∀x∈d.l,iR .i64 x.n
theorem ints_at {d:D} (h:Ints d) {i:Int} (h0: ¬i < 0) (h1:i < (d.l.length:Int)):iR .i64 (d.at i).n:=by
 obtain⟨k,rfl⟩ : ∃k:Nat,i=(k:Int):=⟨i.toNat,by omega⟩
 rw [bM (by omega:k < d.l.length)]
 exact h _ (List.getElem_mem _)
set_option maxHeartbeats 4000000 in
theorem Vt: ∀(N:Nat) (kids:D),SizeOf.sizeOf kids≤N→Wd (.sl 6) kids→∀(k n:Int) (s loc:D),iR .i64 n→Ints loc→Tot 1950 [k,enc s,n,enc kids,enc loc] isN
 | 0,kids,hN,_,_,_,_,_,_,_=>by
   exfalso
   cases kids <;> simp at hN
 | N+1,kids,hN,hk,k,n,s,loc,hn,hi=>by
   have sub: ∀i:Nat,∃v:Int,iR .i64 v∧(i < kids.l.length→L 1950 [((kids.at (i:Int)).hd 0).n,enc ((kids.at (i:Int)).hd 1),((kids.at (i:Int)).hd 2).n,enc ((kids.at (i:Int)).hd 3),enc loc]=some [v]):=by
    intro i
    by_cases hil:i < kids.l.length
    ·obtain⟨k',s',n',ks',he,_,_,hn',h2⟩:=Df hk hil
     have hsz:SizeOf.sizeOf ks' < SizeOf.sizeOf kids.l[i]:=by
      rw [he]
      exact KF (by rw [aZ]; simp)
     have hsz2:=KF (List.getElem_mem hil)
     obtain⟨ys,hL,v,rfl,hv⟩:=Vt N ks' (by omega) h2 k' n' s' loc hn' hi
     refine⟨v,hv,fun _=>?_⟩
     rw [bM hil,he]
     simp only [dP,List.getElem?_cons_zero,List.getElem?_cons_succ,Option.getD_some]
     exact hL
    ·exact⟨0,by constructor <;> omega,fun h=>absurd h hil⟩
   obtain⟨v0,hv0,h0⟩:=sub 0
   obtain⟨v1,hv1,h1⟩:=sub 1
   by_cases l1:(kids.l.length:Int)=1
   ·have h0:=h0 (by omega)
    simp only [Int.natCast_zero] at h0
    refine Tot.of ?_
    rw [Z9]
    simp only [UD,zz,aH.den,Nat.reduceLT,l1,h0]
    repeat' first | exact .out ⟨_,rfl,hn⟩ | exact .out aiL | exact .out aiK | exact .out (atY _) | exact .out ⟨_,rfl,ints_at hi ‹_› ‹_›⟩ | refine .ite (fun _=>?_) (fun _=>?_)
   ·by_cases l2:(kids.l.length:Int)=2
    ·have h0:=h0 (by omega)
     have h1:=h1 (by omega)
     simp only [Int.natCast_zero,Int.natCast_one] at h0 h1
     refine Tot.of ?_
     rw [Z9]
     simp only [UD,zz,aH.den,Nat.reduceLT,l1,l2,h0,h1]
     repeat' first | exact .out ⟨_,rfl,hn⟩ | exact .out aiL | exact .out aiK | exact .out (atY _) | exact .out ⟨_,rfl,ints_at hi ‹_› ‹_›⟩ | (simp only [aZ]; exact .out (aqA (Fh (Fh (Fh ahQ (wrap_in _)) (wrap_in _)) (wrap_in _)))) | refine .ite (fun _=>?_) (fun _=>?_)
    ·refine Tot.of ?_
     rw [Z9]
     simp only [UD,zz,aH.den,Nat.reduceLT,l1,l2]
     repeat' first | exact .out ⟨_,rfl,hn⟩ | exact .out aiL | exact .out aiK | exact .out ⟨_,rfl,ints_at hi ‹_› ‹_›⟩ | refine .ite (fun _=>?_) (fun _=>?_)
end Go.As.Try
end
section
namespace Go.As.Try
open Go hiding Stat Spec shape
open Go.As
set_option maxRecDepth 100000
structure Kt (x:D) (a:Int) (lc:D) (w o g tr:Int):Prop where
 is:x=dL [.i a,lc,.i w,.i o,.i g,.i tr]
 ha:iR .i64 a
 hl:Wd (.sl 0) lc
 hw:iR .u8 w
 ho:iR .i64 o
 hg:iR .i64 g
 ht:iR .i64 tr
theorem mD {d:D} (h:Wd (.sl 8) d): ∀x∈d.l,∃a lc w o g tr,Kt x a lc w o g tr:=by
 intro x hx
 obtain⟨r,rfl,hl,hc⟩:=h.elN (cs:=[.int .i64,.sl 0,.int .u8,.int .i64,.int .i64,.int .i64]) rfl x hx
 obtain⟨a,b,c,d,e,f,rfl⟩:=six hl
 obtain⟨a,rfl,ha⟩:=(hc 0 _ _ rfl rfl).i
 obtain⟨w,rfl,hw⟩:=(hc 2 _ _ rfl rfl).i
 obtain⟨o,rfl,ho⟩:=(hc 3 _ _ rfl rfl).i
 obtain⟨g,rfl,hg⟩:=(hc 4 _ _ rfl rfl).i
 obtain⟨t,rfl,ht⟩:=(hc 5 _ _ rfl rfl).i
 exact⟨a,b,w,o,g,t,rfl,ha,hc 1 _ _ rfl rfl,hw,ho,hg,ht⟩
structure Tk (d:D):Prop where
 wd:Wd (.sl 8) d
 sh:d=dL d.l
 few:d.l.length≤2199023255500
theorem Oo {d:D} (h:Wd (.sl 8) d) (hn:0 < d.l.length):Tk d:=by
 refine⟨h,?_,?_⟩
 ·rcases h.sh with rfl | rfl | ⟨h1,_⟩
  ·simp [D.l] at hn
  ·simp [D.l] at hn
  ·exact h1
 ·have hr:=h.room
  have h3:yI 8=64:=rfl
  rw [h3] at hr
  omega
theorem DK (a b c d e f x:D):iK [a,b,c,d,e,f] 1 x= [a,x,c,d,e,f]:=rfl
theorem bT (j:Nat) (xs:List Int):fin L (.jump j xs)=L j xs:=rfl
theorem aT (ys:List Int):fin L (.out ys)=some ys:=rfl
def Oi (lc:D):Int:=if 0 < lc.l.length then 3 else 4
theorem Wj {lc:D} (h:(0:Int) < (lc.l.length:Int)):Oi lc=3:=if_pos (by omega)
theorem aaL (d:D) (h:Th d) (k:D): ∀(j i:Nat),i+j=d.l.length→L 1901 [(d.l.length:Int),(i:Int),enc d,enc k]=L 1910 [(k.l.length:Int),0,enc d,enc k]
 | 0,i,hi=>by
   have c1: ¬(i:Int) < (d.l.length:Int):=by omega
   rw [aX,alA]
   simp only [Zf,zz,aH.den,Nat.reduceLT,c1,bT,Int.natCast_zero]
 | j+1,i,hi=>by
   have hl:=h.few
   have hil:i < d.l.length:=by omega
   have c1:(i:Int) < (d.l.length:Int):=by omega
   have c2: ¬((i:Int) < 0):=by omega
   have w:=bD (n:=i) (by omega)
   have ih:=aaL d h k j (i+1) (by omega)
   obtain⟨o,c,dn,g,r,v,he,_,_,_,_,hr,hv⟩:=h.wd.thing _ (List.getElem_mem hil)
   have hs:=set_self h.sh hil
   rw [he] at hs
   rw [aX,alA]
   rcases bJ hr with rfl | rfl | ⟨r1,r2⟩ <;> rcases bJ hv with rfl | rfl | ⟨v1,v2⟩
   all_goals
    simp only [Zf,zz,aH.den,Nat.reduceLT,c1,c2,w,bM hil,he,dP,aZ,List.getElem?_cons_zero,List.getElem?_cons_succ,KH,KG,hs,len1,len2,uF,nO]
    try simp only [r1,r2,zz]
    try simp only [v1,v2,zz]
    try simp only [bT]
    exact ih
theorem aaK (d:D) (h:Th d): ∀(j i:Nat),i+j=d.l.length→L 1902 [(d.l.length:Int),(i:Int),enc d]=L 1911 [enc d]
 | 0,i,hi=>by
   have c1: ¬(i:Int) < (d.l.length:Int):=by omega
   rw [aX,akZ]
   simp only [Ze,zz,aH.den,Nat.reduceLT,c1,bT,Int.natCast_zero]
 | j+1,i,hi=>by
   have hl:=h.few
   have hil:i < d.l.length:=by omega
   have c1:(i:Int) < (d.l.length:Int):=by omega
   have c2: ¬((i:Int) < 0):=by omega
   have w:=bD (n:=i) (by omega)
   have ih:=aaK d h j (i+1) (by omega)
   obtain⟨o,c,dn,g,r,v,he,_,_,_,_,hr,hv⟩:=h.wd.thing _ (List.getElem_mem hil)
   have hs:=set_self h.sh hil
   rw [he] at hs
   rw [aX,akZ]
   rcases bJ hr with rfl | rfl | ⟨r1,r2⟩ <;> rcases bJ hv with rfl | rfl | ⟨v1,v2⟩
   all_goals
    simp only [Ze,zz,aH.den,Nat.reduceLT,c1,c2,w,bM hil,he,dP,aZ,List.getElem?_cons_zero,List.getElem?_cons_succ,KH,KG,hs,len1,len2,uF,nO]
    try simp only [r1,r2,zz]
    try simp only [v1,v2,zz]
    try simp only [bT]
    exact ih
theorem TS (d:D) (h:Th d) (x0:Int) (k:D): ∀(j i:Nat),i+j=d.l.length→L 9051 [x0,(d.l.length:Int),(i:Int),enc d,enc k]=L 9060 [x0,(k.l.length:Int),0,enc d,enc k]
 | 0,i,hi=>by
   have c1: ¬(i:Int) < (d.l.length:Int):=by omega
   rw [aX,akJ]
   simp only [Y0,zz,aH.den,Nat.reduceLT,c1,bT,Int.natCast_zero]
 | j+1,i,hi=>by
   have hl:=h.few
   have hil:i < d.l.length:=by omega
   have c1:(i:Int) < (d.l.length:Int):=by omega
   have c2: ¬((i:Int) < 0):=by omega
   have w:=bD (n:=i) (by omega)
   have ih:=TS d h x0 k j (i+1) (by omega)
   obtain⟨o,c,dn,g,r,v,he,_,_,_,_,hr,hv⟩:=h.wd.thing _ (List.getElem_mem hil)
   have hs:=set_self h.sh hil
   rw [he] at hs
   rw [aX,akJ]
   rcases bJ hr with rfl | rfl | ⟨r1,r2⟩ <;> rcases bJ hv with rfl | rfl | ⟨v1,v2⟩
   all_goals
    simp only [Y0,zz,aH.den,Nat.reduceLT,c1,c2,w,bM hil,he,dP,aZ,List.getElem?_cons_zero,List.getElem?_cons_succ,KH,KG,hs,len1,len2,uF,nO]
    try simp only [r1,r2,zz]
    try simp only [v1,v2,zz]
    try simp only [bT]
    exact ih
theorem aaJ (d:D) (h:Th d) (x0:Int): ∀(j i:Nat),i+j=d.l.length→L 9052 [x0,(d.l.length:Int),(i:Int),enc d]=L 9061 [x0,enc d]
 | 0,i,hi=>by
   have c1: ¬(i:Int) < (d.l.length:Int):=by omega
   rw [aX,akI]
   simp only [YZ,zz,aH.den,Nat.reduceLT,c1,bT,Int.natCast_zero]
 | j+1,i,hi=>by
   have hl:=h.few
   have hil:i < d.l.length:=by omega
   have c1:(i:Int) < (d.l.length:Int):=by omega
   have c2: ¬((i:Int) < 0):=by omega
   have w:=bD (n:=i) (by omega)
   have ih:=aaJ d h x0 j (i+1) (by omega)
   obtain⟨o,c,dn,g,r,v,he,_,_,_,_,hr,hv⟩:=h.wd.thing _ (List.getElem_mem hil)
   have hs:=set_self h.sh hil
   rw [he] at hs
   rw [aX,akI]
   rcases bJ hr with rfl | rfl | ⟨r1,r2⟩ <;> rcases bJ hv with rfl | rfl | ⟨v1,v2⟩
   all_goals
    simp only [YZ,zz,aH.den,Nat.reduceLT,c1,c2,w,bM hil,he,dP,aZ,List.getElem?_cons_zero,List.getElem?_cons_succ,KH,KG,hs,len1,len2,uF,nO]
    try simp only [r1,r2,zz]
    try simp only [v1,v2,zz]
    try simp only [bT]
    exact ih
theorem aaT (k:D) (h:Tk k) (s:D): ∀(j i:Nat),i+j=k.l.length→L 1910 [(k.l.length:Int),(i:Int),enc s,enc k]=some [enc s,enc k]
 | 0,i,hi=>by
   have c1: ¬(i:Int) < (k.l.length:Int):=by omega
   rw [aX,akY]
   simp only [Zd,zz,aH.den,Nat.reduceLT,c1,aT]
 | j+1,i,hi=>by
   have hl:=h.few
   have hil:i < k.l.length:=by omega
   have c1:(i:Int) < (k.l.length:Int):=by omega
   have c2: ¬((i:Int) < 0):=by omega
   have w:=bD (n:=i) (by omega)
   have ih:=aaT k h s j (i+1) (by omega)
   obtain⟨a,lc,w',o,g,tr,T⟩:=mD h.wd _ (List.getElem_mem hil)
   have hs:=set_self h.sh hil
   rw [T.is] at hs
   rw [aX,akY]
   rcases bJ T.hl with rfl | rfl | ⟨r1,r2⟩
   all_goals
    simp only [Zd,zz,aH.den,Nat.reduceLT,c1,c2,w,bM hil,T.is,dP,aZ,List.getElem?_cons_zero,List.getElem?_cons_succ,DK,hs,len1,len2,uF,nO]
    try simp only [r1,r2,zz]
    try simp only [bT]
    exact ih
theorem aaS (k:D) (h:Tk k): ∀(j i:Nat),i+j=k.l.length→L 1913 [(k.l.length:Int),(i:Int),enc k]=some [enc (.i 1),enc k]
 | 0,i,hi=>by
   have c1: ¬(i:Int) < (k.l.length:Int):=by omega
   rw [aX,akX]
   simp only [Zc,zz,aH.den,Nat.reduceLT,c1,aT]
 | j+1,i,hi=>by
   have hl:=h.few
   have hil:i < k.l.length:=by omega
   have c1:(i:Int) < (k.l.length:Int):=by omega
   have c2: ¬((i:Int) < 0):=by omega
   have w:=bD (n:=i) (by omega)
   have ih:=aaS k h j (i+1) (by omega)
   obtain⟨a,lc,w',o,g,tr,T⟩:=mD h.wd _ (List.getElem_mem hil)
   have hs:=set_self h.sh hil
   rw [T.is] at hs
   rw [aX,akX]
   rcases bJ T.hl with rfl | rfl | ⟨r1,r2⟩
   all_goals
    simp only [Zc,zz,aH.den,Nat.reduceLT,c1,c2,w,bM hil,T.is,dP,aZ,List.getElem?_cons_zero,List.getElem?_cons_succ,DK,hs,len1,len2,uF,nO]
    try simp only [r1,r2,zz]
    try simp only [bT]
    exact ih
theorem aaR (k:D) (h:Tk k) (x0:Int) (s:D): ∀(j i:Nat),(hx:x0 < 0∨(k.l.length:Int)≤x0)→i+j=k.l.length→L 9060 [x0,(k.l.length:Int),(i:Int),enc s,enc k]=some [0,x0,enc s,enc k]
 | 0,i,hx,hi=>by
   have c1: ¬(i:Int) < (k.l.length:Int):=by omega
   rw [aX,VN]
   by_cases c0:(i:Int)=x0
   ·subst c0
    simp only [EO,zz,aH.den,Nat.reduceLT,c1,aT]
   ·simp only [EO,zz,aH.den,Nat.reduceLT,c0,c1,aT]
 | j+1,i,hx,hi=>by
   have hl:=h.few
   have hil:i < k.l.length:=by omega
   have c1:(i:Int) < (k.l.length:Int):=by omega
   have c2: ¬((i:Int) < 0):=by omega
   have c0: ¬((i:Int)=x0):=by omega
   have w:=bD (n:=i) (by omega)
   have ih:=aaR k h x0 s j (i+1) hx (by omega)
   obtain⟨a,lc,w',o,g,tr,T⟩:=mD h.wd _ (List.getElem_mem hil)
   have hs:=set_self h.sh hil
   rw [T.is] at hs
   rw [aX,VN]
   rcases bJ T.hl with rfl | rfl | ⟨r1,r2⟩
   all_goals
    simp only [EO,zz,aH.den,Nat.reduceLT,c0,c1,c2,w,bM hil,T.is,dP,aZ,List.getElem?_cons_zero,List.getElem?_cons_succ,DK,hs,len1,len2,uF,nO]
    try simp only [r1,r2,zz]
    try simp only [bT]
    exact ih
theorem aaQ (k:D) (h:Tk k) (x0:Int): ∀(j i:Nat),(hx:x0 < 0∨(k.l.length:Int)≤x0)→i+j=k.l.length→L 9063 [x0,(k.l.length:Int),(i:Int),enc k]=some [0,x0,enc (.i 1),enc k]
 | 0,i,hx,hi=>by
   have c1: ¬(i:Int) < (k.l.length:Int):=by omega
   rw [aX,VL]
   by_cases c0:(i:Int)=x0
   ·subst c0
    simp only [EN,zz,aH.den,Nat.reduceLT,c1,aT]
   ·simp only [EN,zz,aH.den,Nat.reduceLT,c0,c1,aT]
 | j+1,i,hx,hi=>by
   have hl:=h.few
   have hil:i < k.l.length:=by omega
   have c1:(i:Int) < (k.l.length:Int):=by omega
   have c2: ¬((i:Int) < 0):=by omega
   have c0: ¬((i:Int)=x0):=by omega
   have w:=bD (n:=i) (by omega)
   have ih:=aaQ k h x0 j (i+1) hx (by omega)
   obtain⟨a,lc,w',o,g,tr,T⟩:=mD h.wd _ (List.getElem_mem hil)
   have hs:=set_self h.sh hil
   rw [T.is] at hs
   rw [aX,VL]
   rcases bJ T.hl with rfl | rfl | ⟨r1,r2⟩
   all_goals
    simp only [EN,zz,aH.den,Nat.reduceLT,c0,c1,c2,w,bM hil,T.is,dP,aZ,List.getElem?_cons_zero,List.getElem?_cons_succ,DK,hs,len1,len2,uF,nO]
    try simp only [r1,r2,zz]
    try simp only [bT]
    exact ih
theorem aaP (k:D) (h:Tk k) (gi:Nat) (x4 x5 x6 x7 x8 x9:Int) (s:D): ∀(j i:Nat),gi < i→i+j=k.l.length→L 9069 [(gi:Int),(k.l.length:Int),(i:Int),enc s,enc k,x4,x5,x6,x7,x8,x9]=some [3,(gi:Int),enc s,enc k,x4,x5,x6,x7,x8,x9]
 | 0,i,hg,hi=>by
   have c1: ¬(i:Int) < (k.l.length:Int):=by omega
   have c0: ¬((i:Int)=(gi:Int)):=by omega
   rw [aX,akH]
   simp only [YX,zz,aH.den,Nat.reduceLT,c0,c1,aT]
 | j+1,i,hg,hi=>by
   have hl:=h.few
   have hil:i < k.l.length:=by omega
   have c1:(i:Int) < (k.l.length:Int):=by omega
   have c2: ¬((i:Int) < 0):=by omega
   have c0: ¬((i:Int)=(gi:Int)):=by omega
   have w:=bD (n:=i) (by omega)
   have ih:=aaP k h gi x4 x5 x6 x7 x8 x9 s j (i+1) (by omega) (by omega)
   obtain⟨a,lc,w',o,g,tr,T⟩:=mD h.wd _ (List.getElem_mem hil)
   have hs:=set_self h.sh hil
   rw [T.is] at hs
   rw [aX,akH]
   rcases bJ T.hl with rfl | rfl | ⟨r1,r2⟩
   all_goals
    simp only [YX,zz,aH.den,Nat.reduceLT,c0,c1,c2,w,bM hil,T.is,dP,aZ,List.getElem?_cons_zero,List.getElem?_cons_succ,DK,hs,len1,len2,uF,nO]
    try simp only [r1,r2,zz]
    try simp only [bT]
    exact ih
theorem TV (k:D) (h:Tk k) (gi:Nat) (x4 x5 x6 x7 x8 x9:Int) (s:D): ∀(j i:Nat),gi < i→i+j=k.l.length→L 9070 [(gi:Int),(k.l.length:Int),(i:Int),enc s,enc k,x4,x5,x6,x7,x8,x9]=some [4,(gi:Int),enc s,enc k,x4,x5,x6,x7,x8,x9]
 | 0,i,hg,hi=>by
   have c1: ¬(i:Int) < (k.l.length:Int):=by omega
   have c0: ¬((i:Int)=(gi:Int)):=by omega
   rw [aX,akG]
   simp only [YW,zz,aH.den,Nat.reduceLT,c0,c1,aT]
 | j+1,i,hg,hi=>by
   have hl:=h.few
   have hil:i < k.l.length:=by omega
   have c1:(i:Int) < (k.l.length:Int):=by omega
   have c2: ¬((i:Int) < 0):=by omega
   have c0: ¬((i:Int)=(gi:Int)):=by omega
   have w:=bD (n:=i) (by omega)
   have ih:=TV k h gi x4 x5 x6 x7 x8 x9 s j (i+1) (by omega) (by omega)
   obtain⟨a,lc,w',o,g,tr,T⟩:=mD h.wd _ (List.getElem_mem hil)
   have hs:=set_self h.sh hil
   rw [T.is] at hs
   rw [aX,akG]
   rcases bJ T.hl with rfl | rfl | ⟨r1,r2⟩
   all_goals
    simp only [YW,zz,aH.den,Nat.reduceLT,c0,c1,c2,w,bM hil,T.is,dP,aZ,List.getElem?_cons_zero,List.getElem?_cons_succ,DK,hs,len1,len2,uF,nO]
    try simp only [r1,r2,zz]
    try simp only [bT]
    exact ih
theorem aaO (k:D) (h:Tk k) (gi:Nat) (x4 x5 x6 x7 x8 x9:Int): ∀(j i:Nat),gi < i→i+j=k.l.length→L 9071 [(gi:Int),(k.l.length:Int),(i:Int),enc k,x4,x5,x6,x7,x8,x9]=some [3,(gi:Int),enc (.i 1),enc k,x4,x5,x6,x7,x8,x9]
 | 0,i,hg,hi=>by
   have c1: ¬(i:Int) < (k.l.length:Int):=by omega
   have c0: ¬((i:Int)=(gi:Int)):=by omega
   rw [aX,akF]
   simp only [YV,zz,aH.den,Nat.reduceLT,c0,c1,aT]
 | j+1,i,hg,hi=>by
   have hl:=h.few
   have hil:i < k.l.length:=by omega
   have c1:(i:Int) < (k.l.length:Int):=by omega
   have c2: ¬((i:Int) < 0):=by omega
   have c0: ¬((i:Int)=(gi:Int)):=by omega
   have w:=bD (n:=i) (by omega)
   have ih:=aaO k h gi x4 x5 x6 x7 x8 x9 j (i+1) (by omega) (by omega)
   obtain⟨a,lc,w',o,g,tr,T⟩:=mD h.wd _ (List.getElem_mem hil)
   have hs:=set_self h.sh hil
   rw [T.is] at hs
   rw [aX,akF]
   rcases bJ T.hl with rfl | rfl | ⟨r1,r2⟩
   all_goals
    simp only [YV,zz,aH.den,Nat.reduceLT,c0,c1,c2,w,bM hil,T.is,dP,aZ,List.getElem?_cons_zero,List.getElem?_cons_succ,DK,hs,len1,len2,uF,nO]
    try simp only [r1,r2,zz]
    try simp only [bT]
    exact ih
theorem TU (k:D) (h:Tk k) (gi:Nat) (x4 x5 x6 x7 x8 x9:Int): ∀(j i:Nat),gi < i→i+j=k.l.length→L 9072 [(gi:Int),(k.l.length:Int),(i:Int),enc k,x4,x5,x6,x7,x8,x9]=some [4,(gi:Int),enc (.i 1),enc k,x4,x5,x6,x7,x8,x9]
 | 0,i,hg,hi=>by
   have c1: ¬(i:Int) < (k.l.length:Int):=by omega
   have c0: ¬((i:Int)=(gi:Int)):=by omega
   rw [aX,akE]
   simp only [YU,zz,aH.den,Nat.reduceLT,c0,c1,aT]
 | j+1,i,hg,hi=>by
   have hl:=h.few
   have hil:i < k.l.length:=by omega
   have c1:(i:Int) < (k.l.length:Int):=by omega
   have c2: ¬((i:Int) < 0):=by omega
   have c0: ¬((i:Int)=(gi:Int)):=by omega
   have w:=bD (n:=i) (by omega)
   have ih:=TU k h gi x4 x5 x6 x7 x8 x9 j (i+1) (by omega) (by omega)
   obtain⟨a,lc,w',o,g,tr,T⟩:=mD h.wd _ (List.getElem_mem hil)
   have hs:=set_self h.sh hil
   rw [T.is] at hs
   rw [aX,akE]
   rcases bJ T.hl with rfl | rfl | ⟨r1,r2⟩
   all_goals
    simp only [YU,zz,aH.den,Nat.reduceLT,c0,c1,c2,w,bM hil,T.is,dP,aZ,List.getElem?_cons_zero,List.getElem?_cons_succ,DK,hs,len1,len2,uF,nO]
    try simp only [r1,r2,zz]
    try simp only [bT]
    exact ih
theorem aaN (k:D) (h:Tk k) (s:D) (gi:Nat) (hgi:gi < k.l.length) (a:Int) (lc:D) (w o g tr:Int) (T:Kt k.l[gi] a lc w o g tr): ∀(j i:Nat),i+j=gi→L 9060 [(gi:Int),(k.l.length:Int),(i:Int),enc s,enc k]=some [Oi lc,(gi:Int),enc s,enc k,a,enc lc,w,o,g,tr]
 | 0,i,hi=>by
   have hl:=h.few
   have he:i=gi:=by omega
   subst he
   have c1:(i:Int) < (k.l.length:Int):=by omega
   have c2: ¬((i:Int) < 0):=by omega
   have w':=bD (n:=i) (by omega)
   rw [aX,VN]
   rcases bJ T.hl with rfl | rfl | ⟨r1,r2⟩
   ·have ih:=TV k h i a (enc (.i 1)) w o g tr s (k.l.length - (i+1)) (i+1) (by omega) (by omega)
    simp only [EO,zz,aH.den,Nat.reduceLT,c1,c2,w',bM hgi,T.is,dP,aZ,List.getElem?_cons_zero,List.getElem?_cons_succ,List.getElem?_nil,Option.getD_none,len1,len2,uF,nO,bT]
    exact ih
   ·have ih:=TV k h i a (enc (.i 2)) w o g tr s (k.l.length - (i+1)) (i+1) (by omega) (by omega)
    simp only [EO,zz,aH.den,Nat.reduceLT,c1,c2,w',bM hgi,T.is,dP,aZ,List.getElem?_cons_zero,List.getElem?_cons_succ,List.getElem?_nil,Option.getD_none,len1,len2,uF,nO,bT]
    exact ih
   ·have ih:=aaP k h i a (enc lc) w o g tr s (k.l.length - (i+1)) (i+1) (by omega) (by omega)
    simp only [EO,zz,aH.den,Nat.reduceLT,c1,c2,w',bM hgi,T.is,dP,aZ,List.getElem?_cons_zero,List.getElem?_cons_succ,len1,len2,uF,nO]
    simp only [r1,r2,zz,bT]
    rw [Wj r1]
    exact ih
 | j+1,i,hi=>by
   have hl:=h.few
   have hil:i < k.l.length:=by omega
   have c1:(i:Int) < (k.l.length:Int):=by omega
   have c2: ¬((i:Int) < 0):=by omega
   have c0: ¬((i:Int)=(gi:Int)):=by omega
   have w1:=bD (n:=i) (by omega)
   have ih:=aaN k h s gi hgi a lc w o g tr T j (i+1) (by omega)
   obtain⟨a',lc',w',o',g',tr',T'⟩:=mD h.wd _ (List.getElem_mem hil)
   have hs:=set_self h.sh hil
   rw [T'.is] at hs
   rw [aX,VN]
   rcases bJ T'.hl with rfl | rfl | ⟨r1,r2⟩
   all_goals
    simp only [EO,zz,aH.den,Nat.reduceLT,c0,c1,c2,w1,bM hil,T'.is,dP,aZ,List.getElem?_cons_zero,List.getElem?_cons_succ,DK,hs,len1,len2,uF,nO]
    try simp only [r1,r2,zz]
    try simp only [bT]
    exact ih
theorem aaM (k:D) (h:Tk k) (gi:Nat) (hgi:gi < k.l.length) (a:Int) (lc:D) (w o g tr:Int) (T:Kt k.l[gi] a lc w o g tr): ∀(j i:Nat),i+j=gi→L 9063 [(gi:Int),(k.l.length:Int),(i:Int),enc k]=some [Oi lc,(gi:Int),enc (.i 1),enc k,a,enc lc,w,o,g,tr]
 | 0,i,hi=>by
   have hl:=h.few
   have he:i=gi:=by omega
   subst he
   have c1:(i:Int) < (k.l.length:Int):=by omega
   have c2: ¬((i:Int) < 0):=by omega
   have w':=bD (n:=i) (by omega)
   rw [aX,VL]
   rcases bJ T.hl with rfl | rfl | ⟨r1,r2⟩
   ·have ih:=TU k h i a (enc (.i 1)) w o g tr (k.l.length - (i+1)) (i+1) (by omega) (by omega)
    simp only [EN,zz,aH.den,Nat.reduceLT,c1,c2,w',bM hgi,T.is,dP,aZ,List.getElem?_cons_zero,List.getElem?_cons_succ,List.getElem?_nil,Option.getD_none,len1,len2,uF,nO,bT]
    exact ih
   ·have ih:=TU k h i a (enc (.i 2)) w o g tr (k.l.length - (i+1)) (i+1) (by omega) (by omega)
    simp only [EN,zz,aH.den,Nat.reduceLT,c1,c2,w',bM hgi,T.is,dP,aZ,List.getElem?_cons_zero,List.getElem?_cons_succ,List.getElem?_nil,Option.getD_none,len1,len2,uF,nO,bT]
    exact ih
   ·have ih:=aaO k h i a (enc lc) w o g tr (k.l.length - (i+1)) (i+1) (by omega) (by omega)
    simp only [EN,zz,aH.den,Nat.reduceLT,c1,c2,w',bM hgi,T.is,dP,aZ,List.getElem?_cons_zero,List.getElem?_cons_succ,len1,len2,uF,nO]
    simp only [r1,r2,zz,bT]
    rw [Wj r1]
    exact ih
 | j+1,i,hi=>by
   have hl:=h.few
   have hil:i < k.l.length:=by omega
   have c1:(i:Int) < (k.l.length:Int):=by omega
   have c2: ¬((i:Int) < 0):=by omega
   have c0: ¬((i:Int)=(gi:Int)):=by omega
   have w1:=bD (n:=i) (by omega)
   have ih:=aaM k h gi hgi a lc w o g tr T j (i+1) (by omega)
   obtain⟨a',lc',w',o',g',tr',T'⟩:=mD h.wd _ (List.getElem_mem hil)
   have hs:=set_self h.sh hil
   rw [T'.is] at hs
   rw [aX,VL]
   rcases bJ T'.hl with rfl | rfl | ⟨r1,r2⟩
   all_goals
    simp only [EN,zz,aH.den,Nat.reduceLT,c0,c1,c2,w1,bM hil,T'.is,dP,aZ,List.getElem?_cons_zero,List.getElem?_cons_succ,DK,hs,len1,len2,uF,nO]
    try simp only [r1,r2,zz]
    try simp only [bT]
    exact ih
structure Sk (s k:D):Prop where
 ws:Wd (.sl 7) s
 wk:Wd (.sl 8) k
 n2s:s≠.i 2
 n2k:k≠.i 2
theorem Le {t:Nat} {d:D} (h:Wd (.sl t) d) (h2:d≠.i 2):d= .i 1∨0 < d.l.length:=by
 rcases h.sh with h1 | h1 | ⟨_,h1⟩
 ·exact .inl h1
 ·exact absurd h1 h2
 ·exact .inr (List.length_pos_iff.2 h1)
theorem apS (x0:Int) (s:D):L 9061 [x0,enc s]=some [1,x0,enc s]:=by
 rw [aX,auF]
 simp only [aeX,zz,aH.den,Nat.reduceLT]
 split <;> rfl
theorem apR (x0:Int):L 9064 [x0]=some [1,x0,enc (.i 1)]:=by
 rw [aX,auE]
 simp only [aeW,zz,aH.den,Nat.reduceLT]
 split <;> rfl
theorem apU (s:D):L 1911 [enc s]=some [enc s,enc (.i 1)]:=by
 rw [aX,avE]
 rfl
theorem apT:L 1914 []=some [enc (.i 1),enc (.i 1)]:=by
 rw [aX,avD]
 rfl
theorem ajG (x0:Int) (k:D):L 9054 [x0,enc k]=L 9063 [x0,(k.l.length:Int),0,enc k]:=by
 rw [aX,auH]
 simp only [aeY,zz,aH.den,Nat.reduceLT,bT]
theorem ayR (x0:Int):L 9055 [x0]=L 9064 [x0]:=by
 rw [aX,auG]
 rfl
theorem ayT (k:D):L 1904 [enc k]=L 1913 [(k.l.length:Int),0,enc k]:=by
 rw [aX,avG]
 simp only [afV,zz,aH.den,Nat.reduceLT,bT]
theorem ayS:L 1905 []=L 1914 []:=by
 rw [aX,avF]
 rfl
section
variable {s k:D} (h:Sk s k)
include h
theorem uP:L 1900 [enc s,enc k]=some [enc s,enc k]:=by
 rw [aX,avH]
 rcases Le h.ws h.n2s with rfl | hs <;> rcases Le h.wk h.n2k with rfl | hk
 ·simp only [Ox,zz,aH.den,Nat.reduceLT,len1,uF,bT]
  exact ayS.trans apT
 ·have hK:=Oo h.wk hk
  have hl:=hK.few
  have c1:(0:Int) < (k.l.length:Int):=by omega
  have c2:(k.l.length:Int) < 2199023255552:=by omega
  simp only [Ox,zz,aH.den,Nat.reduceLT,len1,uF,c1,c2,bT]
  exact (ayT k).trans (aaS k hK k.l.length 0 (by omega))
 ·have hT:=DJ h.ws hs
  have hl:=hT.few
  have c1:(0:Int) < (s.l.length:Int):=by omega
  have c2:(s.l.length:Int) < 1759218604441:=by omega
  simp only [Ox,zz,aH.den,Nat.reduceLT,len1,uF,c1,c2,bT]
  exact (aaK s hT s.l.length 0 (by omega)).trans (apU s)
 ·have hT:=DJ h.ws hs
  have hl:=hT.few
  have c1:(0:Int) < (s.l.length:Int):=by omega
  have c2:(s.l.length:Int) < 1759218604441:=by omega
  have hK:=Oo h.wk hk
  have hl':=hK.few
  have c1':(0:Int) < (k.l.length:Int):=by omega
  have c2':(k.l.length:Int) < 2199023255552:=by omega
  simp only [Ox,zz,aH.den,Nat.reduceLT,uF,c1,c2,c1',c2',bT]
  exact (aaL s hT k s.l.length 0 (by omega)).trans (aaT k hK s k.l.length 0 (by omega))
theorem QM {gi:Nat} (hgi:gi < k.l.length) {a:Int} {lc:D} {w o g tr:Int} (T:Kt k.l[gi] a lc w o g tr):L 9050 [(gi:Int),enc s,enc k]=some [Oi lc,(gi:Int),enc s,enc k,a,enc lc,w,o,g,tr]:=by
 have hk:0 < k.l.length:=by omega
 have hK:=Oo h.wk hk
 have hl':=hK.few
 have c1':(0:Int) < (k.l.length:Int):=by omega
 have c2':(k.l.length:Int) < 2199023255552:=by omega
 rw [aX,akK]
 rcases Le h.ws h.n2s with rfl | hs
 ·simp only [Iu,zz,aH.den,Nat.reduceLT,len1,uF,c1',c2',bT]
  exact (ajG _ k).trans (aaM k hK gi hgi a lc w o g tr T gi 0 (by omega))
 ·have hT:=DJ h.ws hs
  have hl:=hT.few
  have c1:(0:Int) < (s.l.length:Int):=by omega
  have c2:(s.l.length:Int) < 1759218604441:=by omega
  simp only [Iu,zz,aH.den,Nat.reduceLT,uF,c1,c2,c1',c2',bT]
  exact (TS s hT _ k s.l.length 0 (by omega)).trans (aaN k hK s gi hgi a lc w o g tr T gi 0 (by omega))
theorem adT {x:Int} (hx:x < 0∨(k.l.length:Int)≤x):L 9050 [x,enc s,enc k]=some [0,x,enc s,enc k]∨L 9050 [x,enc s,enc k]=some [1,x,enc s]∧k= .i 1:=by
 rw [aX,akK]
 rcases Le h.ws h.n2s with rfl | hs <;> rcases Le h.wk h.n2k with rfl | hk
 ·refine .inr ⟨?_,rfl⟩
  simp only [Iu,zz,aH.den,Nat.reduceLT,len1,uF,bT]
  exact (ayR _).trans (apR _)
 ·have hK:=Oo h.wk hk
  have hl:=hK.few
  have c1:(0:Int) < (k.l.length:Int):=by omega
  have c2:(k.l.length:Int) < 2199023255552:=by omega
  refine .inl ?_
  simp only [Iu,zz,aH.den,Nat.reduceLT,len1,uF,c1,c2,bT]
  exact (ajG _ k).trans (aaQ k hK _ k.l.length 0 hx (by omega))
 ·have hT:=DJ h.ws hs
  have hl:=hT.few
  have c1:(0:Int) < (s.l.length:Int):=by omega
  have c2:(s.l.length:Int) < 1759218604441:=by omega
  refine .inr ⟨?_,rfl⟩
  simp only [Iu,zz,aH.den,Nat.reduceLT,len1,uF,c1,c2,bT]
  exact (aaJ s hT _ s.l.length 0 (by omega)).trans (apS _ s)
 ·have hT:=DJ h.ws hs
  have hl:=hT.few
  have c1:(0:Int) < (s.l.length:Int):=by omega
  have c2:(s.l.length:Int) < 1759218604441:=by omega
  have hK:=Oo h.wk hk
  have hl':=hK.few
  have c1':(0:Int) < (k.l.length:Int):=by omega
  have c2':(k.l.length:Int) < 2199023255552:=by omega
  refine .inl ?_
  simp only [Iu,zz,aH.den,Nat.reduceLT,uF,c1,c2,c1',c2',bT]
  exact (TS s hT _ k s.l.length 0 (by omega)).trans (aaR k hK _ s k.l.length 0 hx (by omega))
end
end Go.As.Try
end
section
namespace Go.As.Try
open Go hiding Stat Spec shape
open Go.As
set_option maxRecDepth 100000
def EqI (a b:D) (i:Nat):Prop:= ∀(k:Nat) (h1:k < a.l.length) (h2:k < b.l.length),i≤k→(a.l[k]).n=(b.l[k]).n
theorem EqI.step {a b:D} {i:Nat} (h1:i < a.l.length) (h2:i < b.l.length) (h:(a.l[i]).n=(b.l[i]).n):EqI a b i↔EqI a b (i+1):=by
 constructor
 ·intro q k x y z
  exact q k x y (by omega)
 ·intro q k x y z
  by_cases hk:k=i
  ·subst hk
   exact h
  ·exact q k x y (by omega)
section
variable {a b:D} (hle:a.l.length=b.l.length) (hlen:a.l.length≤140737488351232)
include hle hlen
end
def awI (a b:D):Prop:=a.l.length=b.l.length∧EqI a b 0
end Go.As.Try
end
section
namespace Go.As.Try
open Go hiding Stat Spec shape
open Go.As
set_option maxRecDepth 100000
theorem tJ (ρ) (a b:SB):((SB.and a b).den ρ=true)=(a.den ρ=true∧b.den ρ=true):=by simp [SB.den]
structure aEt (x y:D):Prop where
 o:(x.hd 0).n=(y.hd 0).n
 c:(x.hd 1).n=(y.hd 1).n
 d:(x.hd 2).n=0↔(y.hd 2).n=0
 g:(x.hd 3).n=(y.hd 3).n
 r:awI (x.hd 4) (y.hd 4)
 v:awI (x.hd 5) (y.hd 5)
theorem bits {p q:Int}:((¬(¬p=0∧¬q=0))∧¬(¬¬p=0∧¬¬q=0))↔¬(p=0↔q=0):=by omega
def apF (s:D):Prop:= ∀x∈s.l,(x.hd 4).l.length≤140737488351232∧(x.hd 5).l.length≤140737488351232
section
variable {a b:D} (hle:a.l.length=b.l.length) (hlen:a.l.length≤140737488351232) (hr:apF a)
include hle hlen hr
end
end Go.As.Try
end
section
namespace Go.As.Try
open Go hiding Stat Spec shape
open Go.As
set_option maxRecDepth 100000
end Go.As.Try
end
section
namespace Go.As.Try
open Go hiding Stat Spec shape
open Go.As
set_option maxRecDepth 100000
theorem adU {d0:D} (hl:d0.l.length≤64) (hn:0 < d0.l.length):L 301 [enc d0,(d0.l.length:Int)]=some [enc (dL (d0.l.map mO))]:=by
 have e0:=NS d0 hl (d0.l.length - 1) 1 [mO (d0.l[0]'hn)] (by omega) rfl
 have e1:[mO (d0.l[0]'hn)]++(d0.l.drop 1).map mO=d0.l.map mO:=by
  conv=>rhs; rw [← List.drop_zero (l:=d0.l),List.drop_eq_getElem_cons hn]
  rfl
 rw [e1] at e0
 have a0:d0.at 0=d0.l[0]'hn:=bM (i:=0) hn
 have c1:(0:Int) < (d0.l.length:Int):=by omega
 have key: ∀q:Int,q=(if (((d0.l[0]'hn)).hd 0).n=3∨((d0.l[0]'hn).hd 0).n=9 then ((d0.l[0]'hn).hd 2).n else 0)→enc (dL [mO (d0.l[0]'hn)])=enc (.p (.p (.i (-1)) (.p (.i q) (.p (.i 0) (.p (.i 0) (.p (.i 1) (.p (.i 1) (.i 0))))))) (.i 0)):=fun q hq=>by rw [hq]; rfl
 have k:dU (dB L (low [enc d0,(d0.l.length:Int)])) WZ= .jump 302 [enc (dL [mO (d0.l[0]'hn)]),enc d0,(d0.l.length:Int),1]:=by
  by_cases h3:((d0.l[0]'hn).hd 0).n=3
  ·rw [key _ (by rw [if_pos (.inl h3)])]
   simp only [WZ,zz,aH.den,Nat.reduceLT,c1,a0,Es,List.nil_append,h3,dL]
  ·by_cases h9:((d0.l[0]'hn).hd 0).n=9
   ·rw [key _ (by rw [if_pos (.inr h9)])]
    simp only [WZ,zz,aH.den,Nat.reduceLT,c1,a0,Es,List.nil_append,if_neg h3,if_pos h9,dL]
   ·rw [key 0 (by rw [if_neg (by omega)])]
    simp only [WZ,zz,aH.den,Nat.reduceLT,c1,a0,Es,List.nil_append,if_neg h3,if_neg h9,dL]
 rw [aX,e301]
 exact (congrArg (fin L) k).trans e0
theorem anF {d0 d1:D} (hc:L 450 [enc d0,enc d1]=some [0]) (hl:d0.l.length≤64) (hn:0 < d0.l.length):L 300 [enc d0,enc d1]=some [enc (dL (d0.l.map mO))]:=by
 have k:dU (dB L (low [enc d0,enc d1])) afU= .jump 301 [enc d0,(d0.l.length:Int)]:=by
  refine aP [.eq (a0 450 [.aC 0,.aC 1]) (.lit 1),.eq (rr 450 [.aC 0,.aC 1] 0) (.lit 0)] [] (ju 301 [.aC 0,ln (.aC 0)]) (by simp only [zz,aH.den,Nat.reduceLT,hc]) (by kernel_rfl) ?_
  simp only [qH,List.map,bK,jD,Nat.reduceLT,aN,aO,aG]
 rw [aX,e300]
 exact (congrArg (fin L) k).trans (adU hl hn)
theorem anE {d0 d1:D} {c:Int} (hc:L 450 [enc d0,enc d1]=some [c]) (h:c≠0∨d0.l.length=0):L 300 [enc d0,enc d1]=some [enc (.i 1)]:=by
 by_cases h0:c=0
 ·subst h0
  have hz:d0.l.length=0:=h.resolve_left (fun h=>h rfl)
  have k:dU (dB L (low [enc d0,enc d1])) afU= .jump 301 [enc d0,0]:=by
   refine aP [.eq (a0 450 [.aC 0,.aC 1]) (.lit 1),.eq (rr 450 [.aC 0,.aC 1] 0) (.lit 0)] [] (ju 301 [.aC 0,ln (.aC 0)]) (by simp only [zz,aH.den,Nat.reduceLT,hc]) (by kernel_rfl) ?_
   simp only [qH,List.map,bK,jD,Nat.reduceLT,aN,aO,aG,hz]
   rfl
  have k1:dU (dB L (low [enc d0,0])) WZ= .out [enc (.i 1)]:=by
   refine aP [] [.lt (.lit 0) (.aC 1)] (ou [.dat (.i 1)]) (by simp only [zz,aH.den,Nat.reduceLT] <;> omega) (by kernel_rfl) rfl
  rw [aX,e300]
  refine (congrArg (fin L) k).trans ?_
  show L 301 [enc d0,0]=_
  rw [aX,e301]
  exact congrArg (fin L) k1
 ·have k:dU (dB L (low [enc d0,enc d1])) afU= .out [enc (.i 1)]:=by
   refine aP [.eq (a0 450 [.aC 0,.aC 1]) (.lit 1)] [.eq (rr 450 [.aC 0,.aC 1] 0) (.lit 0)] (ou [.dat (.i 1)]) (by simp only [zz,aH.den,Nat.reduceLT,hc] <;> omega) (by kernel_rfl) rfl
  rw [aX,e300]
  exact congrArg (fin L) k
structure Gs (s:D) (n:Nat):Prop where
 wd:Wd (.sl 7) s
 rows: ∀x∈s.l,(x.hd 4).l.length≤n∧(x.hd 5).l.length≤n
theorem Gs.few {s:D} {n:Nat} (h:Gs s n) (hn:n < 17592186044415):few s:=fun x hx=>by have:=h.rows x hx; omega
theorem Gs.mono {s:D} {n m:Nat} (h:Gs s n) (hm:n≤m):Gs s m:=⟨h.wd,fun x hx=>by have:=h.rows x hx; omega⟩
theorem Ol {l:List D} (h: ∀x∈l,CW x) (hn:l≠[]) (hl:l.length≤1759218604390):Wd (.sl 7) (dL l):=by
 have e:(l.map fun x=>x.l).map dL=l:=by
  rw [List.map_map]
  conv=>rhs; rw [← List.map_id l]
  apply List.map_congr_left
  intro x hx
  obtain⟨o,c,d,g,r,v,rfl,_⟩:=h x hx
  rfl
 rw [← e]
 refine .many 7 [.int .i64,.int .i64,.bool,.int .i64,.sl 0,.sl 0] _ rfl (by simpa using hn) (by have:yI 7=80:=rfl; rw [this,List.length_map]; omega) (fun r hr=>?_) fun r hr j d c h1 h2=>?_
 ·obtain⟨x,hx,rfl⟩:=List.mem_map.1 hr
  obtain⟨o,c,d,g,r,v,rfl,_⟩:=h x hx
  rfl
 ·obtain⟨x,hx,rfl⟩:=List.mem_map.1 hr
  obtain⟨o,c',d',g,r,v,rfl,ho,hc,hd,hg,hr,hv⟩:=h x hx
  rw [aZ] at h1
  match j with
  | 0=>simp at h1 h2; subst h1 h2; exact .int _ _ ho
  | 1=>simp at h1 h2; subst h1 h2; exact .int _ _ hc
  | 2=>
    simp at h1 h2; subst h1 h2
    rcases hd with rfl | rfl
    ·exact .bool false
    ·exact .bool true
  | 3=>simp at h1 h2; subst h1 h2; exact .int _ _ hg
  | 4=>simp at h1 h2; subst h1 h2; exact hr
  | 5=>simp at h1 h2; subst h1 h2; exact hv
  | j+6=>simp at h1
theorem Tg.thing {x:D} {o c dn g:Int} {r v:D} (T:Tg x o c dn g r v):CW x:=⟨o,c,dn,g,r,v,T.is,T.ho,T.hc,T.hd,T.hg,T.hr,T.hv⟩
theorem Bg {l:List D} {z:Int} {y x:D} (h:x∈iK l z y):x∈l∨x=y:=by
 unfold iK at h
 split at h
 ·exact .inl h
 ·exact List.mem_or_eq_of_mem_set h
theorem ajK {l:List D} {k:Nat} {y:D} (h:k < l.length):(iK l (k:Int) y)[k]?=some y:=by
 rw [xK,List.getElem?_set,if_pos rfl,if_pos h]
theorem XU {s:D} {n:Nat} (G:Gs s n) {z:Int} {y:D} (hy:CW y) (h4:(y.hd 4).l.length≤n) (h5:(y.hd 5).l.length≤n) (hn:0 < s.l.length):Gs (dL (iK s.l z y)) n:=by
 have ht:=DJ G.wd hn
 refine⟨Ol (fun x hx=>?_) (fun he=>?_) (by rw [iT]; exact ht.few),fun x hx=>?_⟩
 ·rcases Bg hx with h | rfl
  ·exact G.wd.thing x h
  ·exact hy
 ·have:=iT s.l z y
  rw [he] at this
  simp at this
  omega
 ·rw [aZ] at hx
  rcases Bg hx with h | rfl
  ·exact G.rows x h
  ·exact⟨h4,h5⟩
theorem ahG (s:D) (obj M:Int) (A:Act):(abV s obj M A).l.length=s.l.length:=by
 cases A with
 | blk=>rfl
 | mis=>rfl
 | res o c dn g r v m a oc=>
   unfold abV
   rw [aZ,iT]
   cases m with
   | none=>rfl
   | some q=>exact iT _ _ _
theorem apJ {s:D} {n:Nat} (G:Gs s n) {obj M:Int} {A:Act} (hA:N7 (n+1) A) (ho0:0≤obj) (ho1:obj < (s.l.length:Int)) (hM:NoM A∨0≤M∧M < (s.l.length:Int)):Gs (abV s obj M A) (n+1):=by
 have G1:=G.mono (Nat.le_succ n)
 cases A with
 | blk=>exact G1
 | mis=>exact G1
 | res o c dn g r v m a oc=>
   obtain⟨h1,h2,h3,h4,h5,h6,h7,h8,h9,_⟩:=hA
   have hd:(if dn=0 then (0:Int) else 1)=dn:=by rcases h3 with rfl | rfl <;> rfl
   have hy:CW (dL [.i o,.i c,.i (if dn=0 then 0 else 1),.i g,r,v]):=⟨o,c,_,g,r,v,rfl,h1,h2,by rw [hd]; exact h3,h4,h5,h7⟩
   cases m with
   | none=>exact XU G1 hy h6 h8 (by omega)
   | some q=>
     have hM:0≤M∧M < (s.l.length:Int):=hM.resolve_left (fun h=>by simp [NoM] at h)
     obtain⟨k,rfl⟩ : ∃k:Nat,M=(k:Int):=⟨M.toNat,by omega⟩
     have hk:k < s.l.length:=by omega
     obtain⟨o',c',d',g',r',v',he,q1,q2,q3,q4,q5,q6⟩:=G.wd.thing _ (List.getElem_mem hk)
     have hrw:=G1.rows _ (List.getElem_mem hk)
     rw [he] at hrw
     have hz:dL (iK (s.at (k:Int)).l 0 (.i q))=dL [.i q,.i c',.i d',.i g',r',v']:=by rw [bM hk,he]; rfl
     have G2:Gs (dL (iK s.l (k:Int) (dL (iK (s.at (k:Int)).l 0 (.i q))))) (n+1):=by
      rw [hz]
      exact XU G1 ⟨q,c',d',g',r',v',rfl,h9 q rfl,q2,q3,q4,q5,q6⟩ hrw.1 hrw.2 (by omega)
     have:=XU (z:=obj) G2 hy h6 h8 (by rw [aZ,iT]; omega)
     rw [aZ] at this
     exact this
def evA (th op obj:Int):Act→List Int
 | .blk=>[0,0,0,0,0,0]
 | .mis=>[th,27,obj,IntKind.i64.wrap op,0,2]
 | .res _ _ _ _ _ _ _ a oc=>[th,op,obj,a,0,oc]
theorem apQ (s:D) (th op obj M:Int) (A:Act):outA s th op obj M A=enc (abV s obj M A) :: evA th op obj A:=by cases A <;> rfl
end Go.As.Try
end
section
namespace Go.As.Try
open Go hiding Stat Spec shape
open Go.As
set_option maxRecDepth 100000
structure KT where
 a:Int
 lc:D
 w:Int
 o:Int
 g:Int
 tr:Int
abbrev KT.d (x:KT):D:=dL [.i x.a,x.lc,.i x.w,.i x.o,.i x.g,.i x.tr]
structure Cd (d0 d1:D):Prop where
 h0:Wd (.sl 3) d0
 h1:Wd (.sl 4) d1
 ok:Hq d0 d1
 ins: ∀x∈d1.l,ZK d0 x
theorem MR.code {d0 d1 s k:D} (h0:Wd (.sl 3) d0) (h1:Wd (.sl 4) d1) (hr:He s) (M:MR d0 d1 s k):Cd d0 d1∧s.l.length=d0.l.length:=by
 obtain⟨b,hb,_,hi⟩:=yU h0 h1 hr
 rw [M.1] at hb
 simp only [Option.some.injEq,List.cons.injEq,and_true] at hb
 obtain⟨hC,hle,_⟩:=hi.1 hb.symm
 obtain⟨ys,hC',c,rfl,_,hok⟩:=Dp h0 h1
 rw [hC] at hC'
 simp only [Option.some.injEq,List.cons.injEq,and_true] at hC'
 have:=hok hC'.symm
 exact⟨⟨h0,h1,this.1,this.2⟩,hle⟩
structure Rt (d0 d1:D) (t:Int) (x:KT):Prop where
 t0:0≤t
 t1:t < (d1.l.length:Int)
 ok:OkT d0 ((d1.at t).hd 1).l.length ((d1.at t).hd 2).l.length x.a x.lc.l.length x.w x.o x.g x.tr
 hl:Wd (.sl 0) x.lc
 hg:iR .i64 x.g
abbrev Ins (d1:D) (t:Int) (x:KT):D:=((d1.at t).hd 2).at x.a
abbrev Nc (d1:D) (t:Int):Nat:=((d1.at t).hd 2).l.length
structure InF (d0:D) (nl nc:Nat) (I:D):Prop where
 ok:OkI d0 nl nc (I.hd 0).n (I.hd 1).n (I.hd 2).n (I.hd 3).n (I.hd 4).n (I.hd 6).l.length
 op:iR .u8 (I.hd 1).n
 ob:iR .i64 (I.hd 2).n
 to:iR .i64 (I.hd 4).n
 nn:iR .i64 (I.hd 5).n
 ar:Wd (.sl 6) (I.hd 6)
theorem Cd.at {d0 d1:D} (C:Cd d0 d1) {t:Int} (t0:0≤t) (t1:t < (d1.l.length:Int)):d1.at t∈d1.l:=by
 obtain⟨i,rfl⟩ : ∃i:Nat,t=(i:Int):=⟨t.toNat,by omega⟩
 rw [bM (by omega:i < d1.l.length)]
 exact List.getElem_mem _
theorem axZ {d:D} {i:Int} (h0:0≤i) (h1:i < (d.l.length:Int)):d.at i∈d.l:=by
 obtain⟨k,rfl⟩ : ∃k:Nat,i=(k:Int):=⟨i.toNat,by omega⟩
 rw [bM (by omega:k < d.l.length)]
 exact List.getElem_mem _
theorem Cd.code {d0 d1:D} (C:Cd d0 d1) {t:Int} (t0:0≤t) (t1:t < (d1.l.length:Int)):Wd (.sl 5) ((d1.at t).hd 2):=by
 obtain⟨i,rfl⟩ : ∃i:Nat,t=(i:Int):=⟨t.toNat,by omega⟩
 have hi:i < d1.l.length:=by omega
 obtain⟨nm',lc,cd,he,_,_,h⟩:=EM C.h1 hi
 rw [bM hi,he]
 exact h
theorem Cd.inf {d0 d1:D} (C:Cd d0 d1) {t:Int} {x:KT} (R:Rt d0 d1 t x) (h:x.a < (Nc d1 t:Int)):InF d0 ((d1.at t).hd 1).l.length (Nc d1 t) (Ins d1 t x):=by
 have ha:=R.ok.1
 have h1:=C.ins _ (C.at R.t0 R.t1) (Ins d1 t x) (axZ ha h)
 obtain⟨i,hi⟩ : ∃i:Nat,x.a=(i:Int):=⟨x.a.toNat,by omega⟩
 have hil:i < ((d1.at t).hd 2).l.length:=by unfold Nc at h; omega
 obtain⟨a,b,c,e,f,g,N9,he,_,hb,hc,_,hf,hg,hw⟩:=XO (C.code R.t0 R.t1) hil
 have hI:Ins d1 t x=dL [.i a,.i b,.i c,.i e,.i f,.i g,N9]:=by unfold Ins; rw [hi,bM hil,he]
 refine⟨h1,?_,?_,?_,?_,?_⟩
 all_goals
  rw [hI]
  simp only [dP,List.getElem?_cons_zero,List.getElem?_cons_succ,Option.getD_some,n_i]
  assumption
theorem Rt.ints {d0 d1:D} {t:Int} {x:KT} (R:Rt d0 d1 t x):Ints x.lc:=fun y hy=>by
 obtain⟨n,rfl,hn⟩:=(R.hl.el1 rfl y hy).i
 exact hn
section
variable {d0 d1 s k:D} {t:Int} {x:KT} (hk:k.at t=x.d) (ht:t < (k.l.length:Int)) (R:Rt d0 d1 t x)
include hk ht R
def mW (d1:D) (t:Int) (x:KT):Int:=if x.w=0 then (if x.a=(Nc d1 t:Int) then 1 else 0) else 0
theorem yX:L 1650 [enc d0,enc d1,enc s,enc k,t]=some [mW d1 t x]:=by
 have c1: ¬t < 0:=by have:=R.t0; omega
 have c2:=R.t1
 unfold mW Nc
 rw [aX,avJ]
 simp only [afW,zz,aH.den,Nat.reduceLT,hk,c1,ht,c2,dP,List.getElem?_cons_zero,List.getElem?_cons_succ]
 by_cases w0:x.w=0
 ·simp only [w0,if_true]
  by_cases a0:x.a=(((d1.at t).hd 2).l.length:Int)
  ·simp only [a0,if_true]
   rfl
  ·simp only [a0,if_false]
   rfl
 ·simp only [w0,if_false]
  rfl
end
noncomputable def ev (e lc:D):Int:=low ((L 1950 [(e.hd 0).n,enc (e.hd 1),(e.hd 2).n,enc (e.hd 3),enc lc]).getD []) 0
theorem Vu {Io lc:D} (ha:Wd (.sl 6) Io) (hl:Ints lc) {i:Int} (i0:0≤i) (i1:i < (Io.l.length:Int)):L 1950 [((Io.at i).hd 0).n,enc ((Io.at i).hd 1),((Io.at i).hd 2).n,enc ((Io.at i).hd 3),enc lc]=some [ev (Io.at i) lc]∧iR .i64 (ev (Io.at i) lc):=by
 obtain⟨j,rfl⟩ : ∃j:Nat,i=(j:Int):=⟨i.toNat,by omega⟩
 have hj:j < Io.l.length:=by omega
 obtain⟨k',s',n',ks',he,_,_,hn',h2⟩:=Df ha hj
 obtain⟨ys,hL,v,rfl,hv⟩:=Vt _ ks' (Nat.le_refl _) h2 k' n' s' lc hn' hl
 have e1:Io.at (j:Int)=dL [.i k',s',.i n',ks']:=by rw [bM hj,he]
 unfold ev
 rw [e1]
 simp only [dP,List.getElem?_cons_zero,List.getElem?_cons_succ,Option.getD_some,n_i,hL,aN]
 exact⟨trivial,hv⟩
noncomputable def V8 (Io lc:D):Int:=if Io.l.length=0 then 0 else ev (Io.at ((Io.l.length:Int) - 1)) lc
theorem asF {Io lc:D} (ha:Wd (.sl 6) Io) (hl:Ints lc):iR .i64 (V8 Io lc):=by
 unfold V8
 split
 ·constructor <;> omega
 ·exact (Vu ha hl (by omega) (by omega)).2
theorem Pm {Io lc:D} (ha:Wd (.sl 6) Io) (hl:Ints lc) (x3 x5 x6 x7 x8 x9 x10:Int): ∀(j i:Nat) (v:Int),i+j=Io.l.length→L 1751 [enc Io,(Io.l.length:Int),(i:Int),x3,enc lc,x5,x6,x7,x8,x9,x10,v]=some [x9,x10,if j=0 then v else V8 Io lc,x8,1]
 | 0,i,v,hi=>by
   have c1: ¬(i:Int) < (Io.l.length:Int):=by omega
   rw [aX,alB]
   simp only [Zg,zz,aH.den,Nat.reduceLT,c1,aT,if_true]
 | j+1,i,v,hi=>by
   have hr:=ha.len
   have c1:(i:Int) < (Io.l.length:Int):=by omega
   have c2: ¬((i:Int) < 0):=by omega
   have w:=bD (n:=i) (by omega)
   obtain⟨he,_⟩:=Vu ha hl (i:=(i:Int)) (by omega) c1
   have ih:=Pm ha hl x3 x5 x6 x7 x8 x9 x10 j (i+1) (ev (Io.at (i:Int)) lc) (by omega)
   rw [aX,alB]
   simp only [Zg,zz,aH.den,Nat.reduceLT,c1,c2,w,he,bT]
   rw [ih,if_neg (Nat.succ_ne_zero j)]
   by_cases hj:j=0
   ·subst hj
    rw [if_pos rfl]
    unfold V8
    rw [if_neg (by omega),show ((Io.l.length:Int) - 1)=(i:Int) by omega]
   ·rw [if_neg hj]
noncomputable def vH (d1:D) (t:Int) (x:KT):List Int:=
 if x.w=0 then
  if x.a=(Nc d1 t:Int) then [0,0,0,0,0]
  else if ((Ins d1 t x).hd 0).n=1 then [((Ins d1 t x).hd 1).n,((Ins d1 t x).hd 2).n,V8 ((Ins d1 t x).hd 6) x.lc,x.tr,1]
  else if ((Ins d1 t x).hd 0).n=2 then [26,((Ins d1 t x).hd 2).n,0,0,1]
  else [0,0,0,0,0]
 else [x.w,x.o,x.g,0,1]
section
variable {d0 d1 s k:D} {t:Int} {x:KT} (C:Cd d0 d1) (hk:k.at t=x.d) (ht:t < (k.l.length:Int)) (R:Rt d0 d1 t x)
include C hk ht R
theorem JG:L 1750 [enc d0,enc d1,enc s,enc k,t]=some (vH d1 t x):=by
 have c1: ¬t < 0:=by have:=R.t0; omega
 have c2:=R.t1
 have c3: ¬x.a < 0:=by have:=R.ok.1; omega
 have ho:=yX (s:=s) hk ht R
 unfold vH
 rw [aX,avI]
 by_cases w0:x.w=0
 ·by_cases a0:x.a=(Nc d1 t:Int)
  ·have e:mW d1 t x=1:=by unfold mW; rw [if_pos w0,if_pos a0]
   rw [e] at ho
   rw [if_pos w0,if_pos a0]
   simp only [Ko,zz,aH.den,Nat.reduceLT,hk,c1,ht,c2,dP,List.getElem?_cons_zero,List.getElem?_cons_succ,w0,ho,aQ,aT]
  ·have e:mW d1 t x=0:=by unfold mW; rw [if_pos w0,if_neg a0]
   rw [e] at ho
   have hlt:x.a < (Nc d1 t:Int):=by have:=R.ok.2.1; unfold Nc at a0 ⊢; omega
   have F:=C.inf R hlt
   rw [if_pos w0,if_neg a0]
   unfold Ins at F ⊢
   unfold Nc at hlt
   by_cases h1:((((d1.at t).hd 2).at x.a).hd 0).n=1
   ·rw [if_pos h1]
    have lp:=Pm F.ar R.ints x.a x.w x.o x.g x.tr ((((d1.at t).hd 2).at x.a).hd 1).n ((((d1.at t).hd 2).at x.a).hd 2).n ((((d1.at t).hd 2).at x.a).hd 6).l.length 0 0 (by omega)
    have e2:(if ((((d1.at t).hd 2).at x.a).hd 6).l.length=0 then 0 else V8 ((((d1.at t).hd 2).at x.a).hd 6) x.lc)=V8 ((((d1.at t).hd 2).at x.a).hd 6) x.lc:=by
     by_cases hz:((((d1.at t).hd 2).at x.a).hd 6).l.length=0
     ·rw [if_pos hz]; unfold V8; rw [if_pos hz]
     ·rw [if_neg hz]
    rw [e2] at lp
    simp only [Ko,zz,aH.den,Nat.reduceLT,hk,c1,ht,c2,c3,dP,List.getElem?_cons_zero,List.getElem?_cons_succ,w0,ho,hlt,h1,bT]
    rw [w0] at lp
    exact lp
   ·by_cases h2:((((d1.at t).hd 2).at x.a).hd 0).n=2
    ·rw [if_neg h1,if_pos h2]
     simp only [Ko,zz,aH.den,Nat.reduceLT,hk,c1,ht,c2,c3,dP,List.getElem?_cons_zero,List.getElem?_cons_succ,w0,ho,hlt,h2,aT,if_false,show ¬((2:Int)=1) by omega]
    ·rw [if_neg h1,if_neg h2]
     simp only [Ko,zz,aH.den,Nat.reduceLT,hk,c1,ht,c2,c3,dP,List.getElem?_cons_zero,List.getElem?_cons_succ,w0,ho,hlt,h1,h2,aT]
 ·rw [if_neg w0]
  simp only [Ko,zz,aH.den,Nat.reduceLT,hk,c1,ht,dP,List.getElem?_cons_zero,List.getElem?_cons_succ,w0,aT]
end
noncomputable def jO (I:D) (x:KT):KT:=
 if (I.hd 0).n=3 then { x with a:=x.a+1,lc:=dL (iK x.lc.l (I.hd 3).n (.i (ev ((I.hd 6).at 0) x.lc))) }
 else if (I.hd 0).n=4 then (if ev ((I.hd 6).at 0) x.lc=0 then { x with a:=(I.hd 4).n } else { x with a:=x.a+1 })
 else if (I.hd 0).n=5 then { x with a:=(I.hd 4).n }
 else if (I.hd 0).n=6 then { x with a:=x.a+1,lc:=dL (iK x.lc.l (I.hd 3).n (.i (I.hd 5).n)) }
 else if 0 < (x.lc.at (I.hd 3).n).n then { x with a:=x.a+1,lc:=dL (iK x.lc.l (I.hd 3).n (.i (IntKind.i64.wrap ((x.lc.at (I.hd 3).n).n - 1)))) }
 else { x with a:=(I.hd 4).n }
structure Loc (d1:D) (t:Int) (x:KT):Prop where
 w:x.w=0
 a:x.a < (Nc d1 t:Int)
 n1:((Ins d1 t x).hd 0).n≠1
 n2:((Ins d1 t x).hd 0).n≠2
theorem Sv {d0 d1:D} {t:Int} {x:KT} (R:Rt d0 d1 t x) (ho:mW d1 t x=0) (hn:low (vH d1 t x) 4=0):Loc d1 t x:=by
 unfold mW at ho
 unfold vH at hn
 have h2:=R.ok.2.1
 by_cases w0:x.w=0
 ·rw [if_pos w0] at ho hn
  by_cases a0:x.a=(Nc d1 t:Int)
  ·rw [if_pos a0] at ho
   omega
  ·rw [if_neg a0] at hn
   by_cases h1:((Ins d1 t x).hd 0).n=1
   ·rw [if_pos h1] at hn
    simp only [aO,aN] at hn
    omega
   ·by_cases h2':((Ins d1 t x).hd 0).n=2
    ·rw [if_neg h1,if_pos h2'] at hn
     simp only [aO,aN] at hn
     omega
    ·exact⟨w0,by unfold Nc at a0 ⊢; omega,h1,h2'⟩
 ·rw [if_neg w0] at hn
  simp only [aO,aN] at hn
  omega
section
variable {d0 d1 s k:D} {t:Int} {x:KT} (C:Cd d0 d1) (ht:t < (k.l.length:Int)) (R:Rt d0 d1 t x) (Lc:Loc d1 t x)
include C ht R Lc
theorem aiD:L 14000 [enc d0,enc d1,t,enc s,enc k,x.a,enc x.lc,x.w,x.o,x.g,x.tr]=some [0,enc d0,enc d1,t,enc s,enc k,x.a,enc x.lc,x.w,x.o,x.g,x.tr,(jO (Ins d1 t x) x).a,enc (jO (Ins d1 t x) x).lc]:=by
 have c1: ¬t < 0:=by have:=R.t0; omega
 have c2:=R.t1
 have c3: ¬x.a < 0:=by have:=R.ok.1; omega
 have c4:=Lc.a
 have F:=C.inf R c4
 have hln:(x.lc.l.length:Int)=(((d1.at t).hd 1).l.length:Int):=R.ok.2.2.1
 have hnc:((d1.at t).hd 2).l.length≤140737488351232:=(C.code R.t0 R.t1).len
 have n1:=Lc.n1
 have n2:=Lc.n2
 have hw:IntKind.i64.wrap (x.a+1)=x.a+1:=by
  refine qV (by omega) ?_
  unfold Nc at c4
  omega
 have E:=Vu F.ar R.ints (i:=0)
 have ok:=F.ok
 unfold Ins at n1 n2 ok E ⊢
 unfold Nc at c4
 rw [aX,alJ]
 unfold jO
 rcases ok with h | h | ⟨h,i0,i1,na⟩ | ⟨h,_,_,na⟩ | ⟨h,_⟩ | ⟨h,i0,i1⟩ | ⟨h,i0,i1,_⟩
 ·exact absurd h.1 n1
 ·exact absurd h.1 n2
 ·have c5: ¬(((((d1.at t).hd 2).at x.a).hd 3).n < 0):=by omega
  have c6:(((((d1.at t).hd 2).at x.a).hd 3).n < (x.lc.l.length:Int)):=by omega
  have c7:(0:Int) < (((((d1.at t).hd 2).at x.a).hd 6).l.length:Int):=by omega
  obtain⟨E,_⟩:=E (by omega) c7
  simp only [yO,zz,aH.den,Nat.reduceLT,c1,ht,c2,c3,c4,c5,c6,c7,h,E,hw,aT]
 ·have c7:(0:Int) < (((((d1.at t).hd 2).at x.a).hd 6).l.length:Int):=by omega
  obtain⟨E,_⟩:=E (by omega) c7
  by_cases hz:ev (((((d1.at t).hd 2).at x.a).hd 6).at 0) x.lc=0
  ·simp only [yO,zz,aH.den,Nat.reduceLT,c1,ht,c2,c3,c4,c7,h,E,hw,hz,aT,show ¬((4:Int)=3) by omega]
  ·simp only [yO,zz,aH.den,Nat.reduceLT,c1,ht,c2,c3,c4,c7,h,E,hw,hz,aT,show ¬((4:Int)=3) by omega]
 ·simp only [yO,zz,aH.den,Nat.reduceLT,c1,ht,c2,c3,c4,h,hw,aT,show ¬((5:Int)=3) by omega,show ¬((5:Int)=4) by omega]
 ·have c5: ¬(((((d1.at t).hd 2).at x.a).hd 3).n < 0):=by omega
  have c6:(((((d1.at t).hd 2).at x.a).hd 3).n < (x.lc.l.length:Int)):=by omega
  simp only [yO,zz,aH.den,Nat.reduceLT,c1,ht,c2,c3,c4,c5,c6,h,hw,aT,show ¬((6:Int)=3) by omega,show ¬((6:Int)=4) by omega,show ¬((6:Int)=5) by omega]
 ·have c5: ¬(((((d1.at t).hd 2).at x.a).hd 3).n < 0):=by omega
  have c6:(((((d1.at t).hd 2).at x.a).hd 3).n < (x.lc.l.length:Int)):=by omega
  by_cases hz:0 < (x.lc.at ((((d1.at t).hd 2).at x.a).hd 3).n).n
  ·simp only [yO,zz,aH.den,Nat.reduceLT,c1,ht,c2,c3,c4,c5,c6,h,hw,hz,aT,show ¬((7:Int)=3) by omega,show ¬((7:Int)=4) by omega,show ¬((7:Int)=5) by omega,show ¬((7:Int)=6) by omega]
  ·simp only [yO,zz,aH.den,Nat.reduceLT,c1,ht,c2,c3,c4,c5,c6,h,hw,hz,aT,show ¬((7:Int)=3) by omega,show ¬((7:Int)=4) by omega,show ¬((7:Int)=5) by omega,show ¬((7:Int)=6) by omega]
theorem aiC (hz:x.lc.l.length=0):L 14050 [enc d0,enc d1,t,enc s,enc k,x.a,enc x.lc,x.w,x.o,x.g,x.tr]=some [0,enc d0,enc d1,t,enc s,enc k,x.a,enc x.lc,x.w,x.o,x.g,x.tr,(jO (Ins d1 t x) x).a]∧(jO (Ins d1 t x) x).lc=x.lc:=by
 have c1: ¬t < 0:=by have:=R.t0; omega
 have c2:=R.t1
 have c3: ¬x.a < 0:=by have:=R.ok.1; omega
 have c4:=Lc.a
 have F:=C.inf R c4
 have hln:(x.lc.l.length:Int)=(((d1.at t).hd 1).l.length:Int):=R.ok.2.2.1
 have hnc:((d1.at t).hd 2).l.length≤140737488351232:=(C.code R.t0 R.t1).len
 have n1:=Lc.n1
 have n2:=Lc.n2
 have hw:IntKind.i64.wrap (x.a+1)=x.a+1:=by
  refine qV (by omega) ?_
  unfold Nc at c4
  omega
 have E:=Vu F.ar R.ints (i:=0)
 have ok:=F.ok
 unfold Ins at n1 n2 ok E ⊢
 unfold Nc at c4
 rw [aX,alI]
 unfold jO
 rcases ok with h | h | ⟨h,i0,i1,na⟩ | ⟨h,_,_,na⟩ | ⟨h,_⟩ | ⟨h,i0,i1⟩ | ⟨h,i0,i1,_⟩
 ·exact absurd h.1 n1
 ·exact absurd h.1 n2
 ·omega
 ·have c7:(0:Int) < (((((d1.at t).hd 2).at x.a).hd 6).l.length:Int):=by omega
  obtain⟨E,_⟩:=E (by omega) c7
  by_cases hz:ev (((((d1.at t).hd 2).at x.a).hd 6).at 0) x.lc=0
  ·simp only [Kq,zz,aH.den,Nat.reduceLT,c1,ht,c2,c3,c4,c7,h,E,hw,hz,aT,show ¬((4:Int)=3) by omega]
  ·simp only [Kq,zz,aH.den,Nat.reduceLT,c1,ht,c2,c3,c4,c7,h,E,hw,hz,aT,show ¬((4:Int)=3) by omega]
 ·simp only [Kq,zz,aH.den,Nat.reduceLT,c1,ht,c2,c3,c4,h,hw,aT,show ¬((5:Int)=3) by omega,show ¬((5:Int)=4) by omega]
 ·omega
 ·omega
theorem U7:Rt d0 d1 t (jO (Ins d1 t x) x)∧(jO (Ins d1 t x) x).lc.l.length=x.lc.l.length:=by
 have c4:=Lc.a
 have F:=C.inf R c4
 obtain⟨a0,a1,hln,tr0,tr1,hw⟩:=R.ok
 have n1:=Lc.n1
 have n2:=Lc.n2
 have ok:=F.ok
 have hI:=R.ints
 have hwd: ∀{z v:Int},0≤z→z < (x.lc.l.length:Int)→iR .i64 v→Wd (.sl 0) (dL (iK x.lc.l z (.i v))):=fun {z v} h0 h1 hv=>by
  have:=R.hl.room
  have h3:yI 0=8:=rfl
  rw [h3] at this
  have hs:=iT x.lc.l z (.i v)
  refine Ce (fun y hy=>?_) (fun he=>?_) (by rw [hs]; omega)
  ·rcases Bg hy with h | rfl
   ·exact (R.hl.el1 rfl y h).i
   ·exact⟨v,rfl,hv⟩
  ·rw [he] at hs
   simp only [List.length_nil] at hs
   omega
 have hsl: ∀z v,(dL (iK x.lc.l z v)).l.length=x.lc.l.length:=fun z v=>by rw [aZ,iT]
 have T:=R.t0
 have T':=R.t1
 unfold Nc at c4 ok F
 unfold jO
 have go: ∀{a:Int} {lc:D},0≤a→a≤(((d1.at t).hd 2).l.length:Int)→lc.l.length=x.lc.l.length→Wd (.sl 0) lc→Rt d0 d1 t { x with a:=a,lc:=lc }∧({ x with a:=a,lc:=lc }:KT).lc.l.length=x.lc.l.length:=fun h0 h1 h2 h3=> ⟨⟨T,T',⟨h0,h1,by rw [h2]; exact hln,tr0,tr1,hw⟩,h3,R.hg⟩,h2⟩
 rcases ok with h | h | ⟨h,i0,i1,na⟩ | ⟨h,t0,t1,na⟩ | ⟨h,t0,t1⟩ | ⟨h,i0,i1⟩ | ⟨h,i0,i1,t0,t1⟩
 ·exact absurd h.1 n1
 ·exact absurd h.1 n2
 ·rw [if_pos h]
  exact go (by omega) (by omega) (hsl _ _) (hwd i0 (by omega) (Vu F.ar hI (by omega) (by omega)).2)
 ·rw [if_neg (by omega),if_pos h]
  split
  ·exact go t0 t1 rfl R.hl
  ·exact go (by omega) (by omega) rfl R.hl
 ·rw [if_neg (by omega),if_neg (by omega),if_pos h]
  exact go t0 t1 rfl R.hl
 ·rw [if_neg (by omega),if_neg (by omega),if_neg (by omega),if_pos h]
  exact go (by omega) (by omega) (hsl _ _) (hwd i0 (by omega) F.nn)
 ·rw [if_neg (by omega),if_neg (by omega),if_neg (by omega),if_neg (by omega)]
  split
  ·exact go (by omega) (by omega) (hsl _ _) (hwd i0 (by omega) (wrap_in _))
  ·exact go t0 t1 rfl R.hl
end
end Go.As.Try
end
section
namespace Go.As.Try
open Go hiding Stat Spec shape
open Go.As
set_option maxRecDepth 100000
def adZ:Act→Prop
 | .res _ _ _ _ _ _ _ a _=>iR .i64 a
 | _=>True
theorem adZ.ite {p:Prop} [Decidable p] {a b:Act} (ha:adZ a) (hb:adZ b):adZ (if p then a else b):=by
 split
 ·exact ha
 ·exact hb
theorem aBf {r:D} (h:Wd (.sl 0) r) (i:Nat):iR .i64 (r.at (i:Int)).n:=by
 by_cases hi:i < r.l.length
 ·rw [bM hi]
  obtain⟨n,hn,hk⟩:=(h.el1 rfl _ (List.getElem_mem hi)).i
  rw [hn]
  exact hk
 ·rw [YE,List.getElem?_eq_none (by omega)]
  constructor <;> (simp only [Option.getD_none,n_i]; omega)
theorem aDt {y:D} {M mo th op arg tries o c dn g:Int} {r v:D} (T:Tg y o c dn g r v) (hr:r.l.length≤140737488351232) (ha:iR .i64 arg):adZ (act M mo th op arg tries o c dn g r v):=by
 have hz:iR .i64 0:=⟨by omega,by omega⟩
 have h1:iR .i64 1:=⟨by omega,by omega⟩
 have w:=@wrap_in
 have hv:=aBf T.hv 0
 have hl:iR .i64 (r.l.length:Int):=⟨by omega,by omega⟩
 unfold act
 repeat' refine adZ.ite ?_ ?_
 all_goals first
  | trivial
  | exact hz
  | exact h1
  | exact w _
  | exact T.hc
  | exact ha
  | exact T.hg
  | exact hv
  | exact hl
def wR (I:D) (x:KT) (op e2 e3 e4 oc:Int):KT:=
 if oc=0 then (if op=4 then { x with tr:=if 4611686018427387904 < x.tr+1 then 4611686018427387904 else x.tr+1 } else x)
 else if x.w=0 then
  { a:=if (I.hd 0).n=1∧(I.hd 1).n=16∧¬(e2=16∧e4=1) then (I.hd 4).n else x.a+1,lc:=if (I.hd 0).n=1∧¬(I.hd 3).n < 0 then dL (iK x.lc.l (I.hd 3).n (.i e4)) else x.lc,w:=if oc=3 then (if e2=15 then 25 else 24) else 0,o:=if oc=3 then e3 else x.o,g:=if oc=3∧e2=15 then e4 else x.g,tr:=0 }
 else { x with w:=0,o:=0,g:=0,tr:=0 }
def evT (e1 e2 e3 e4 e5 oc:Int):List Int:=if oc=0 then [0,0,0,0,0] else [e1,e2,e3,e4,e5]
section
variable {d0 d1 s s' k:D} {t op obj arg tries e1 e2 e3 e4 e5 oc:Int} {x:KT} (C:Cd d0 d1) (ht:t < (k.l.length:Int)) (R:Rt d0 d1 t x)
 (hA:L 400 [enc d0,enc d1,enc s,t,op,obj,arg,tries]=some [enc s',e1,e2,e3,e4,e5,oc]) (h0:oc=0→s'=s) (hx:x.w=0→x.a < (Nc d1 t:Int))
include C ht R hA h0 hx
set_option maxHeartbeats 4000000 in
theorem aeP:L 14500 [enc d0,enc d1,t,op,obj,arg,tries,enc s,enc k,x.a,enc x.lc,x.w,x.o,x.g,x.tr]=some (0 :: enc d0 :: enc d1 :: t :: op :: obj :: arg :: tries :: enc s :: enc k :: x.a :: enc x.lc :: x.w :: x.o :: x.g :: x.tr :: (evT e1 e2 e3 e4 e5 oc++ [oc,enc s',(wR (Ins d1 t x) x op e2 e3 e4 oc).a,enc (wR (Ins d1 t x) x op e2 e3 e4 oc).lc,(wR (Ins d1 t x) x op e2 e3 e4 oc).w,(wR (Ins d1 t x) x op e2 e3 e4 oc).o,(wR (Ins d1 t x) x op e2 e3 e4 oc).g,(wR (Ins d1 t x) x op e2 e3 e4 oc).tr])):=by
 have c1: ¬t < 0:=by have:=R.t0; omega
 have c2:=R.t1
 have c3: ¬x.a < 0:=by have:=R.ok.1; omega
 have q0:=R.ok.2.2.2.1
 have q1:=R.ok.2.2.2.2.1
 have wt:IntKind.i64.wrap (x.tr+1)=x.tr+1:=qV (by omega) (by omega)
 rw [aX,alG]
 unfold wR evT
 by_cases o0:oc=0
 ·have hs:=h0 o0
  subst hs
  subst o0
  by_cases p4:op=4
  ·subst p4
   by_cases pt:4611686018427387904 < x.tr+1
   ·simp only [fD,zz,aH.den,Nat.reduceLT,hA,c1,ht,wt,pt,aT,if_true,eq_self,List.cons_append,List.nil_append]
   ·simp only [fD,zz,aH.den,Nat.reduceLT,hA,c1,ht,wt,pt,aT,if_true,eq_self,if_false,List.cons_append,List.nil_append]
  ·simp only [fD,zz,aH.den,Nat.reduceLT,hA,c1,ht,p4,aT,if_true,if_false,List.cons_append,List.nil_append]
 ·by_cases w0:x.w=0
  ·have c4:=hx w0
   have F:=C.inf R c4
   have ok:=F.ok
   have hln:(x.lc.l.length:Int)=(((d1.at t).hd 1).l.length:Int):=R.ok.2.2.1
   have hnc:((d1.at t).hd 2).l.length≤140737488351232:=(C.code R.t0 R.t1).len
   unfold Nc at c4
   have hw:IntKind.i64.wrap (x.a+1)=x.a+1:=qV (by omega) (by omega)
   unfold OkI Ins at ok
   unfold Ins
   by_cases n1:((((d1.at t).hd 2).at x.a).hd 0).n=1
   ·have hin:((((d1.at t).hd 2).at x.a).hd 3).n= -1∨0≤((((d1.at t).hd 2).at x.a).hd 3).n∧((((d1.at t).hd 2).at x.a).hd 3).n < (x.lc.l.length:Int):=by
     rw [hln]
     omega
    by_cases i0:((((d1.at t).hd 2).at x.a).hd 3).n < 0
    ·by_cases p16:((((d1.at t).hd 2).at x.a).hd 1).n=16
     ·by_cases q16:e2=16
      ·by_cases q4:e4=1
       ·by_cases q3:oc=3
        ·simp only [fD,zz,aH.den,Nat.reduceLT,hA,c1,ht,c2,c3,c4,o0,w0,hw,n1,i0,p16,q16,q4,q3,aT,if_true,if_false,and_true,true_and,and_false,false_and,and_self,not_true_eq_false,not_false_eq_true,List.cons_append,List.nil_append,show ¬((16:Int)=15) by omega,show ¬((3:Int)=0) by omega,show ¬((15:Int)=16) by omega]
        ·simp only [fD,zz,aH.den,Nat.reduceLT,hA,c1,ht,c2,c3,c4,o0,w0,hw,n1,i0,p16,q16,q4,q3,aT,if_true,if_false,and_true,true_and,and_false,false_and,and_self,not_true_eq_false,not_false_eq_true,List.cons_append,List.nil_append,show ¬((16:Int)=15) by omega,show ¬((3:Int)=0) by omega,show ¬((15:Int)=16) by omega]
       ·by_cases q3:oc=3
        ·simp only [fD,zz,aH.den,Nat.reduceLT,hA,c1,ht,c2,c3,c4,o0,w0,hw,n1,i0,p16,q16,q4,q3,aT,if_true,if_false,and_true,true_and,and_false,false_and,and_self,not_true_eq_false,not_false_eq_true,List.cons_append,List.nil_append,show ¬((16:Int)=15) by omega,show ¬((3:Int)=0) by omega,show ¬((15:Int)=16) by omega]
        ·simp only [fD,zz,aH.den,Nat.reduceLT,hA,c1,ht,c2,c3,c4,o0,w0,hw,n1,i0,p16,q16,q4,q3,aT,if_true,if_false,and_true,true_and,and_false,false_and,and_self,not_true_eq_false,not_false_eq_true,List.cons_append,List.nil_append,show ¬((16:Int)=15) by omega,show ¬((3:Int)=0) by omega,show ¬((15:Int)=16) by omega]
      ·by_cases yV:e2=15
       ·by_cases q3:oc=3
        ·simp only [fD,zz,aH.den,Nat.reduceLT,hA,c1,ht,c2,c3,c4,o0,w0,hw,n1,i0,p16,q16,yV,q3,aT,if_true,if_false,and_true,true_and,and_false,false_and,and_self,not_true_eq_false,not_false_eq_true,List.cons_append,List.nil_append,show ¬((16:Int)=15) by omega,show ¬((3:Int)=0) by omega,show ¬((15:Int)=16) by omega]
        ·simp only [fD,zz,aH.den,Nat.reduceLT,hA,c1,ht,c2,c3,c4,o0,w0,hw,n1,i0,p16,q16,yV,q3,aT,if_true,if_false,and_true,true_and,and_false,false_and,and_self,not_true_eq_false,not_false_eq_true,List.cons_append,List.nil_append,show ¬((16:Int)=15) by omega,show ¬((3:Int)=0) by omega,show ¬((15:Int)=16) by omega]
       ·by_cases q3:oc=3
        ·simp only [fD,zz,aH.den,Nat.reduceLT,hA,c1,ht,c2,c3,c4,o0,w0,hw,n1,i0,p16,q16,yV,q3,aT,if_true,if_false,and_true,true_and,and_false,false_and,and_self,not_true_eq_false,not_false_eq_true,List.cons_append,List.nil_append,show ¬((16:Int)=15) by omega,show ¬((3:Int)=0) by omega,show ¬((15:Int)=16) by omega]
        ·simp only [fD,zz,aH.den,Nat.reduceLT,hA,c1,ht,c2,c3,c4,o0,w0,hw,n1,i0,p16,q16,yV,q3,aT,if_true,if_false,and_true,true_and,and_false,false_and,and_self,not_true_eq_false,not_false_eq_true,List.cons_append,List.nil_append,show ¬((16:Int)=15) by omega,show ¬((3:Int)=0) by omega,show ¬((15:Int)=16) by omega]
     ·by_cases yV:e2=15
      ·by_cases q3:oc=3
       ·simp only [fD,zz,aH.den,Nat.reduceLT,hA,c1,ht,c2,c3,c4,o0,w0,hw,n1,i0,p16,yV,q3,aT,if_true,if_false,and_true,true_and,and_false,false_and,and_self,not_true_eq_false,not_false_eq_true,List.cons_append,List.nil_append,show ¬((16:Int)=15) by omega,show ¬((3:Int)=0) by omega,show ¬((15:Int)=16) by omega]
       ·simp only [fD,zz,aH.den,Nat.reduceLT,hA,c1,ht,c2,c3,c4,o0,w0,hw,n1,i0,p16,yV,q3,aT,if_true,if_false,and_true,true_and,and_false,false_and,and_self,not_true_eq_false,not_false_eq_true,List.cons_append,List.nil_append,show ¬((16:Int)=15) by omega,show ¬((3:Int)=0) by omega,show ¬((15:Int)=16) by omega]
      ·by_cases q3:oc=3
       ·simp only [fD,zz,aH.den,Nat.reduceLT,hA,c1,ht,c2,c3,c4,o0,w0,hw,n1,i0,p16,yV,q3,aT,if_true,if_false,and_true,true_and,and_false,false_and,and_self,not_true_eq_false,not_false_eq_true,List.cons_append,List.nil_append,show ¬((16:Int)=15) by omega,show ¬((3:Int)=0) by omega,show ¬((15:Int)=16) by omega]
       ·simp only [fD,zz,aH.den,Nat.reduceLT,hA,c1,ht,c2,c3,c4,o0,w0,hw,n1,i0,p16,yV,q3,aT,if_true,if_false,and_true,true_and,and_false,false_and,and_self,not_true_eq_false,not_false_eq_true,List.cons_append,List.nil_append,show ¬((16:Int)=15) by omega,show ¬((3:Int)=0) by omega,show ¬((15:Int)=16) by omega]
    ·have i1:((((d1.at t).hd 2).at x.a).hd 3).n < (x.lc.l.length:Int):=by omega
     by_cases p16:((((d1.at t).hd 2).at x.a).hd 1).n=16
     ·by_cases q16:e2=16
      ·by_cases q4:e4=1
       ·by_cases q3:oc=3
        ·simp only [fD,zz,aH.den,Nat.reduceLT,hA,c1,ht,c2,c3,c4,o0,w0,hw,n1,i0,i1,p16,q16,q4,q3,aT,if_true,if_false,and_true,true_and,and_false,false_and,and_self,not_true_eq_false,not_false_eq_true,List.cons_append,List.nil_append,show ¬((16:Int)=15) by omega,show ¬((3:Int)=0) by omega,show ¬((15:Int)=16) by omega]
        ·simp only [fD,zz,aH.den,Nat.reduceLT,hA,c1,ht,c2,c3,c4,o0,w0,hw,n1,i0,i1,p16,q16,q4,q3,aT,if_true,if_false,and_true,true_and,and_false,false_and,and_self,not_true_eq_false,not_false_eq_true,List.cons_append,List.nil_append,show ¬((16:Int)=15) by omega,show ¬((3:Int)=0) by omega,show ¬((15:Int)=16) by omega]
       ·by_cases q3:oc=3
        ·simp only [fD,zz,aH.den,Nat.reduceLT,hA,c1,ht,c2,c3,c4,o0,w0,hw,n1,i0,i1,p16,q16,q4,q3,aT,if_true,if_false,and_true,true_and,and_false,false_and,and_self,not_true_eq_false,not_false_eq_true,List.cons_append,List.nil_append,show ¬((16:Int)=15) by omega,show ¬((3:Int)=0) by omega,show ¬((15:Int)=16) by omega]
        ·simp only [fD,zz,aH.den,Nat.reduceLT,hA,c1,ht,c2,c3,c4,o0,w0,hw,n1,i0,i1,p16,q16,q4,q3,aT,if_true,if_false,and_true,true_and,and_false,false_and,and_self,not_true_eq_false,not_false_eq_true,List.cons_append,List.nil_append,show ¬((16:Int)=15) by omega,show ¬((3:Int)=0) by omega,show ¬((15:Int)=16) by omega]
      ·by_cases yV:e2=15
       ·by_cases q3:oc=3
        ·simp only [fD,zz,aH.den,Nat.reduceLT,hA,c1,ht,c2,c3,c4,o0,w0,hw,n1,i0,i1,p16,q16,yV,q3,aT,if_true,if_false,and_true,true_and,and_false,false_and,and_self,not_true_eq_false,not_false_eq_true,List.cons_append,List.nil_append,show ¬((16:Int)=15) by omega,show ¬((3:Int)=0) by omega,show ¬((15:Int)=16) by omega]
        ·simp only [fD,zz,aH.den,Nat.reduceLT,hA,c1,ht,c2,c3,c4,o0,w0,hw,n1,i0,i1,p16,q16,yV,q3,aT,if_true,if_false,and_true,true_and,and_false,false_and,and_self,not_true_eq_false,not_false_eq_true,List.cons_append,List.nil_append,show ¬((16:Int)=15) by omega,show ¬((3:Int)=0) by omega,show ¬((15:Int)=16) by omega]
       ·by_cases q3:oc=3
        ·simp only [fD,zz,aH.den,Nat.reduceLT,hA,c1,ht,c2,c3,c4,o0,w0,hw,n1,i0,i1,p16,q16,yV,q3,aT,if_true,if_false,and_true,true_and,and_false,false_and,and_self,not_true_eq_false,not_false_eq_true,List.cons_append,List.nil_append,show ¬((16:Int)=15) by omega,show ¬((3:Int)=0) by omega,show ¬((15:Int)=16) by omega]
        ·simp only [fD,zz,aH.den,Nat.reduceLT,hA,c1,ht,c2,c3,c4,o0,w0,hw,n1,i0,i1,p16,q16,yV,q3,aT,if_true,if_false,and_true,true_and,and_false,false_and,and_self,not_true_eq_false,not_false_eq_true,List.cons_append,List.nil_append,show ¬((16:Int)=15) by omega,show ¬((3:Int)=0) by omega,show ¬((15:Int)=16) by omega]
     ·by_cases yV:e2=15
      ·by_cases q3:oc=3
       ·simp only [fD,zz,aH.den,Nat.reduceLT,hA,c1,ht,c2,c3,c4,o0,w0,hw,n1,i0,i1,p16,yV,q3,aT,if_true,if_false,and_true,true_and,and_false,false_and,and_self,not_true_eq_false,not_false_eq_true,List.cons_append,List.nil_append,show ¬((16:Int)=15) by omega,show ¬((3:Int)=0) by omega,show ¬((15:Int)=16) by omega]
       ·simp only [fD,zz,aH.den,Nat.reduceLT,hA,c1,ht,c2,c3,c4,o0,w0,hw,n1,i0,i1,p16,yV,q3,aT,if_true,if_false,and_true,true_and,and_false,false_and,and_self,not_true_eq_false,not_false_eq_true,List.cons_append,List.nil_append,show ¬((16:Int)=15) by omega,show ¬((3:Int)=0) by omega,show ¬((15:Int)=16) by omega]
      ·by_cases q3:oc=3
       ·simp only [fD,zz,aH.den,Nat.reduceLT,hA,c1,ht,c2,c3,c4,o0,w0,hw,n1,i0,i1,p16,yV,q3,aT,if_true,if_false,and_true,true_and,and_false,false_and,and_self,not_true_eq_false,not_false_eq_true,List.cons_append,List.nil_append,show ¬((16:Int)=15) by omega,show ¬((3:Int)=0) by omega,show ¬((15:Int)=16) by omega]
       ·simp only [fD,zz,aH.den,Nat.reduceLT,hA,c1,ht,c2,c3,c4,o0,w0,hw,n1,i0,i1,p16,yV,q3,aT,if_true,if_false,and_true,true_and,and_false,false_and,and_self,not_true_eq_false,not_false_eq_true,List.cons_append,List.nil_append,show ¬((16:Int)=15) by omega,show ¬((3:Int)=0) by omega,show ¬((15:Int)=16) by omega]
   ·by_cases yV:e2=15
    ·by_cases q3:oc=3
     ·simp only [fD,zz,aH.den,Nat.reduceLT,hA,c1,ht,c2,c3,c4,o0,w0,hw,n1,yV,q3,aT,if_true,if_false,and_true,true_and,and_false,false_and,and_self,not_true_eq_false,not_false_eq_true,List.cons_append,List.nil_append,show ¬((16:Int)=15) by omega,show ¬((3:Int)=0) by omega,show ¬((15:Int)=16) by omega]
     ·simp only [fD,zz,aH.den,Nat.reduceLT,hA,c1,ht,c2,c3,c4,o0,w0,hw,n1,yV,q3,aT,if_true,if_false,and_true,true_and,and_false,false_and,and_self,not_true_eq_false,not_false_eq_true,List.cons_append,List.nil_append,show ¬((16:Int)=15) by omega,show ¬((3:Int)=0) by omega,show ¬((15:Int)=16) by omega]
    ·by_cases q3:oc=3
     ·simp only [fD,zz,aH.den,Nat.reduceLT,hA,c1,ht,c2,c3,c4,o0,w0,hw,n1,yV,q3,aT,if_true,if_false,and_true,true_and,and_false,false_and,and_self,not_true_eq_false,not_false_eq_true,List.cons_append,List.nil_append,show ¬((16:Int)=15) by omega,show ¬((3:Int)=0) by omega,show ¬((15:Int)=16) by omega]
     ·simp only [fD,zz,aH.den,Nat.reduceLT,hA,c1,ht,c2,c3,c4,o0,w0,hw,n1,yV,q3,aT,if_true,if_false,and_true,true_and,and_false,false_and,and_self,not_true_eq_false,not_false_eq_true,List.cons_append,List.nil_append,show ¬((16:Int)=15) by omega,show ¬((3:Int)=0) by omega,show ¬((15:Int)=16) by omega]
  ·simp only [fD,zz,aH.den,Nat.reduceLT,hA,c1,ht,o0,w0,aT,if_true,if_false,List.cons_append,List.nil_append]
end
section
variable {d0 d1 s s' k:D} {t op obj arg tries e1 e2 e3 e4 e5 oc:Int} {x:KT} (C:Cd d0 d1) (ht:t < (k.l.length:Int)) (R:Rt d0 d1 t x)
 (hA:L 400 [enc d0,enc d1,enc s,t,op,obj,arg,tries]=some [enc s',e1,e2,e3,e4,e5,oc]) (h0:oc=0→s'=s) (hx:x.w=0→x.a < (Nc d1 t:Int)) (hz:x.lc.l.length=0)
include C ht R hA h0 hx hz
set_option maxHeartbeats 4000000 in
theorem aeO:L 14550 [enc d0,enc d1,t,op,obj,arg,tries,enc s,enc k,x.a,enc x.lc,x.w,x.o,x.g,x.tr]=some (0 :: enc d0 :: enc d1 :: t :: op :: obj :: arg :: tries :: enc s :: enc k :: x.a :: enc x.lc :: x.w :: x.o :: x.g :: x.tr :: (evT e1 e2 e3 e4 e5 oc++ [oc,enc s',(wR (Ins d1 t x) x op e2 e3 e4 oc).a,(wR (Ins d1 t x) x op e2 e3 e4 oc).w,(wR (Ins d1 t x) x op e2 e3 e4 oc).o,(wR (Ins d1 t x) x op e2 e3 e4 oc).g,(wR (Ins d1 t x) x op e2 e3 e4 oc).tr]))∧(wR (Ins d1 t x) x op e2 e3 e4 oc).lc=x.lc:=by
 have c1: ¬t < 0:=by have:=R.t0; omega
 have c2:=R.t1
 have c3: ¬x.a < 0:=by have:=R.ok.1; omega
 have q0:=R.ok.2.2.2.1
 have q1:=R.ok.2.2.2.2.1
 have wt:IntKind.i64.wrap (x.tr+1)=x.tr+1:=qV (by omega) (by omega)
 rw [aX,alD]
 unfold wR evT
 by_cases o0:oc=0
 ·have hs:=h0 o0
  subst hs
  subst o0
  by_cases p4:op=4
  ·subst p4
   by_cases pt:4611686018427387904 < x.tr+1
   ·simp only [jL,zz,aH.den,Nat.reduceLT,hA,c1,ht,wt,pt,aT,if_true,eq_self,List.cons_append,List.nil_append] <;> exact⟨rfl,rfl⟩
   ·simp only [jL,zz,aH.den,Nat.reduceLT,hA,c1,ht,wt,pt,aT,if_true,eq_self,if_false,List.cons_append,List.nil_append] <;> exact⟨rfl,rfl⟩
  ·simp only [jL,zz,aH.den,Nat.reduceLT,hA,c1,ht,p4,aT,if_true,if_false,List.cons_append,List.nil_append] <;> exact⟨rfl,rfl⟩
 ·by_cases w0:x.w=0
  ·have c4:=hx w0
   have F:=C.inf R c4
   have ok:=F.ok
   have hln:(x.lc.l.length:Int)=(((d1.at t).hd 1).l.length:Int):=R.ok.2.2.1
   have hnc:((d1.at t).hd 2).l.length≤140737488351232:=(C.code R.t0 R.t1).len
   unfold Nc at c4
   have hw:IntKind.i64.wrap (x.a+1)=x.a+1:=qV (by omega) (by omega)
   unfold OkI Ins at ok
   unfold Ins
   by_cases n1:((((d1.at t).hd 2).at x.a).hd 0).n=1
   ·have hin:((((d1.at t).hd 2).at x.a).hd 3).n= -1∨0≤((((d1.at t).hd 2).at x.a).hd 3).n∧((((d1.at t).hd 2).at x.a).hd 3).n < (x.lc.l.length:Int):=by
     rw [hln]
     omega
    by_cases i0:((((d1.at t).hd 2).at x.a).hd 3).n < 0
    ·by_cases p16:((((d1.at t).hd 2).at x.a).hd 1).n=16
     ·by_cases q16:e2=16
      ·by_cases q4:e4=1
       ·by_cases q3:oc=3
        ·simp only [jL,zz,aH.den,Nat.reduceLT,hA,c1,ht,c2,c3,c4,o0,w0,hw,n1,i0,p16,q16,q4,q3,aT,if_true,if_false,and_true,true_and,and_false,false_and,and_self,not_true_eq_false,not_false_eq_true,List.cons_append,List.nil_append,show ¬((16:Int)=15) by omega,show ¬((3:Int)=0) by omega,show ¬((15:Int)=16) by omega] <;> exact⟨rfl,rfl⟩
        ·simp only [jL,zz,aH.den,Nat.reduceLT,hA,c1,ht,c2,c3,c4,o0,w0,hw,n1,i0,p16,q16,q4,q3,aT,if_true,if_false,and_true,true_and,and_false,false_and,and_self,not_true_eq_false,not_false_eq_true,List.cons_append,List.nil_append,show ¬((16:Int)=15) by omega,show ¬((3:Int)=0) by omega,show ¬((15:Int)=16) by omega] <;> exact⟨rfl,rfl⟩
       ·by_cases q3:oc=3
        ·simp only [jL,zz,aH.den,Nat.reduceLT,hA,c1,ht,c2,c3,c4,o0,w0,hw,n1,i0,p16,q16,q4,q3,aT,if_true,if_false,and_true,true_and,and_false,false_and,and_self,not_true_eq_false,not_false_eq_true,List.cons_append,List.nil_append,show ¬((16:Int)=15) by omega,show ¬((3:Int)=0) by omega,show ¬((15:Int)=16) by omega] <;> exact⟨rfl,rfl⟩
        ·simp only [jL,zz,aH.den,Nat.reduceLT,hA,c1,ht,c2,c3,c4,o0,w0,hw,n1,i0,p16,q16,q4,q3,aT,if_true,if_false,and_true,true_and,and_false,false_and,and_self,not_true_eq_false,not_false_eq_true,List.cons_append,List.nil_append,show ¬((16:Int)=15) by omega,show ¬((3:Int)=0) by omega,show ¬((15:Int)=16) by omega] <;> exact⟨rfl,rfl⟩
      ·by_cases yV:e2=15
       ·by_cases q3:oc=3
        ·simp only [jL,zz,aH.den,Nat.reduceLT,hA,c1,ht,c2,c3,c4,o0,w0,hw,n1,i0,p16,q16,yV,q3,aT,if_true,if_false,and_true,true_and,and_false,false_and,and_self,not_true_eq_false,not_false_eq_true,List.cons_append,List.nil_append,show ¬((16:Int)=15) by omega,show ¬((3:Int)=0) by omega,show ¬((15:Int)=16) by omega] <;> exact⟨rfl,rfl⟩
        ·simp only [jL,zz,aH.den,Nat.reduceLT,hA,c1,ht,c2,c3,c4,o0,w0,hw,n1,i0,p16,q16,yV,q3,aT,if_true,if_false,and_true,true_and,and_false,false_and,and_self,not_true_eq_false,not_false_eq_true,List.cons_append,List.nil_append,show ¬((16:Int)=15) by omega,show ¬((3:Int)=0) by omega,show ¬((15:Int)=16) by omega] <;> exact⟨rfl,rfl⟩
       ·by_cases q3:oc=3
        ·simp only [jL,zz,aH.den,Nat.reduceLT,hA,c1,ht,c2,c3,c4,o0,w0,hw,n1,i0,p16,q16,yV,q3,aT,if_true,if_false,and_true,true_and,and_false,false_and,and_self,not_true_eq_false,not_false_eq_true,List.cons_append,List.nil_append,show ¬((16:Int)=15) by omega,show ¬((3:Int)=0) by omega,show ¬((15:Int)=16) by omega] <;> exact⟨rfl,rfl⟩
        ·simp only [jL,zz,aH.den,Nat.reduceLT,hA,c1,ht,c2,c3,c4,o0,w0,hw,n1,i0,p16,q16,yV,q3,aT,if_true,if_false,and_true,true_and,and_false,false_and,and_self,not_true_eq_false,not_false_eq_true,List.cons_append,List.nil_append,show ¬((16:Int)=15) by omega,show ¬((3:Int)=0) by omega,show ¬((15:Int)=16) by omega] <;> exact⟨rfl,rfl⟩
     ·by_cases yV:e2=15
      ·by_cases q3:oc=3
       ·simp only [jL,zz,aH.den,Nat.reduceLT,hA,c1,ht,c2,c3,c4,o0,w0,hw,n1,i0,p16,yV,q3,aT,if_true,if_false,and_true,true_and,and_false,false_and,and_self,not_true_eq_false,not_false_eq_true,List.cons_append,List.nil_append,show ¬((16:Int)=15) by omega,show ¬((3:Int)=0) by omega,show ¬((15:Int)=16) by omega] <;> exact⟨rfl,rfl⟩
       ·simp only [jL,zz,aH.den,Nat.reduceLT,hA,c1,ht,c2,c3,c4,o0,w0,hw,n1,i0,p16,yV,q3,aT,if_true,if_false,and_true,true_and,and_false,false_and,and_self,not_true_eq_false,not_false_eq_true,List.cons_append,List.nil_append,show ¬((16:Int)=15) by omega,show ¬((3:Int)=0) by omega,show ¬((15:Int)=16) by omega] <;> exact⟨rfl,rfl⟩
      ·by_cases q3:oc=3
       ·simp only [jL,zz,aH.den,Nat.reduceLT,hA,c1,ht,c2,c3,c4,o0,w0,hw,n1,i0,p16,yV,q3,aT,if_true,if_false,and_true,true_and,and_false,false_and,and_self,not_true_eq_false,not_false_eq_true,List.cons_append,List.nil_append,show ¬((16:Int)=15) by omega,show ¬((3:Int)=0) by omega,show ¬((15:Int)=16) by omega] <;> exact⟨rfl,rfl⟩
       ·simp only [jL,zz,aH.den,Nat.reduceLT,hA,c1,ht,c2,c3,c4,o0,w0,hw,n1,i0,p16,yV,q3,aT,if_true,if_false,and_true,true_and,and_false,false_and,and_self,not_true_eq_false,not_false_eq_true,List.cons_append,List.nil_append,show ¬((16:Int)=15) by omega,show ¬((3:Int)=0) by omega,show ¬((15:Int)=16) by omega] <;> exact⟨rfl,rfl⟩
    ·omega
   ·by_cases yV:e2=15
    ·by_cases q3:oc=3
     ·simp only [jL,zz,aH.den,Nat.reduceLT,hA,c1,ht,c2,c3,c4,o0,w0,hw,n1,yV,q3,aT,if_true,if_false,and_true,true_and,and_false,false_and,and_self,not_true_eq_false,not_false_eq_true,List.cons_append,List.nil_append,show ¬((16:Int)=15) by omega,show ¬((3:Int)=0) by omega,show ¬((15:Int)=16) by omega] <;> exact⟨rfl,rfl⟩
     ·simp only [jL,zz,aH.den,Nat.reduceLT,hA,c1,ht,c2,c3,c4,o0,w0,hw,n1,yV,q3,aT,if_true,if_false,and_true,true_and,and_false,false_and,and_self,not_true_eq_false,not_false_eq_true,List.cons_append,List.nil_append,show ¬((16:Int)=15) by omega,show ¬((3:Int)=0) by omega,show ¬((15:Int)=16) by omega] <;> exact⟨rfl,rfl⟩
    ·by_cases q3:oc=3
     ·simp only [jL,zz,aH.den,Nat.reduceLT,hA,c1,ht,c2,c3,c4,o0,w0,hw,n1,yV,q3,aT,if_true,if_false,and_true,true_and,and_false,false_and,and_self,not_true_eq_false,not_false_eq_true,List.cons_append,List.nil_append,show ¬((16:Int)=15) by omega,show ¬((3:Int)=0) by omega,show ¬((15:Int)=16) by omega] <;> exact⟨rfl,rfl⟩
     ·simp only [jL,zz,aH.den,Nat.reduceLT,hA,c1,ht,c2,c3,c4,o0,w0,hw,n1,yV,q3,aT,if_true,if_false,and_true,true_and,and_false,false_and,and_self,not_true_eq_false,not_false_eq_true,List.cons_append,List.nil_append,show ¬((16:Int)=15) by omega,show ¬((3:Int)=0) by omega,show ¬((15:Int)=16) by omega] <;> exact⟨rfl,rfl⟩
  ·simp only [jL,zz,aH.den,Nat.reduceLT,hA,c1,ht,o0,w0,aT,if_true,if_false,List.cons_append,List.nil_append] <;> exact⟨rfl,rfl⟩
end
end Go.As.Try
end
section
namespace Go.As.Try
open Go hiding Stat Spec shape
open Go.As
set_option maxRecDepth 100000
structure Sx (s k:D) (n:Nat):Prop where
 g:Gs s n
 wk:Wd (.sl 8) k
 n2s:s≠.i 2
 n2k:k≠.i 2
theorem Sx.st {s k:D} {n:Nat} (S:Sx s k n):Sk s k:=⟨S.g.wd,S.wk,S.n2s,S.n2k⟩
theorem Sx.mono {s k:D} {n m:Nat} (S:Sx s k n) (h:n≤m):Sx s k m:=⟨S.g.mono h,S.wk,S.n2s,S.n2k⟩
abbrev mP (k:D) (t:Int) (x:KT):D:=dL (iK k.l t x.d)
theorem kP (a:D) (l:List D):dL (a :: l)= .p a (dL l):=rfl
theorem oC:dL []= .i 0:=rfl
structure Tried (d0 d1 s:D) (t op obj arg tries:Int) (n:Nat) (s':D) (e1 e2 e3 e4 e5 oc:Int):Prop where
 eq:L 400 [enc d0,enc d1,enc s,t,op,obj,arg,tries]=some [enc s',e1,e2,e3,e4,e5,oc]
 no:oc=0→s'=s∧e1=0∧e2=0∧e3=0∧e4=0∧e5=0
 oc3:oc=0∨oc=2∨oc=3
 gs:Gs s' (n+1)
 len:s'.l.length=s.l.length
 n2:s≠.i 2→s'≠.i 2
 e3:iR .i64 e3
 e4:iR .i64 e4
theorem try_any {d0 d1 s:D} {t op obj arg tries:Int} {n:Nat} (h0:Wd (.sl 3) d0) (h1:Wd (.sl 4) d1) (G:Gs s n) (hn:n < 17592186043904) (ht:iR .i64 t) (hop:iR .u8 op) (hob:iR .i64 obj) (ha:iR .i64 arg) :
 ∃s' e1 e2 e3 e4 e5 oc,Tried d0 d1 s t op obj arg tries n s' e1 e2 e3 e4 e5 oc:=by
 have hf:=G.few (by omega:n < 17592186044415)
 have z:iR .i64 0:=⟨by omega,by omega⟩
 by_cases A:Acc d0 d1 s t op obj
 ·obtain⟨_,o,c,dn,g,r,v,T,hL⟩:=anY (arg:=arg) (tries:=tries) h0 h1 G.wd hf hop A
  rw [apQ] at hL
  have o0:=A.o0
  have o1:=A.o1
  obtain⟨i,rfl⟩ : ∃i:Nat,obj=(i:Int):=⟨obj.toNat,by omega⟩
  have hi:i < s.l.length:=by omega
  have hrow:=G.rows _ (List.getElem_mem hi)
  have e:s.l[i]=dL [.i o,.i c,.i dn,.i g,r,v]:=by rw [← bM hi]; exact T.is
  rw [e] at hrow
  have hA:=aA0 (M:=Mx d0 (i:Int)) (mo:=Mo d0 s (i:Int)) (op:=op) (tries:=tries) T (n:=n) hrow.1 hrow.2 (by omega) ht ha
  have hE:=aDt (M:=Mx d0 (i:Int)) (mo:=Mo d0 s (i:Int)) (th:=t) (op:=op) (tries:=tries) T (by have:=hrow.1; have:r.l.length≤n:=this; omega) ha
  have hM:NoM (act (Mx d0 (i:Int)) (Mo d0 s (i:Int)) t op arg tries o c dn g r v)∨0≤Mx d0 (i:Int)∧Mx d0 (i:Int) < (s.l.length:Int):=by
   by_cases h:op=12∨op=24
   ·have:=Wu h0 h1 G.wd hf hop A h
    exact .inr ⟨this.1,this.2.1⟩
   ·exact .inl (adW (by omega) (by omega))
  have hg:=apJ G hA o0 o1 hM
  have hl:=ahG s (i:Int) (Mx d0 (i:Int)) (act (Mx d0 (i:Int)) (Mo d0 s (i:Int)) t op arg tries o c dn g r v)
  generalize act (Mx d0 (i:Int)) (Mo d0 s (i:Int)) t op arg tries o c dn g r v=B at *
  have hn2:s≠.i 2→abV s (i:Int) (Mx d0 (i:Int)) B≠.i 2:=fun _ he=>by
   rw [he] at hl
   have:(D.i 2).l.length=0:=rfl
   omega
  cases B with
  | blk=>exact⟨s,0,0,0,0,0,0,hL,fun _=> ⟨rfl,rfl,rfl,rfl,rfl,rfl⟩,.inl rfl,hg,rfl,fun h=>h,z,z⟩
  | mis=>exact⟨s,t,27,_,_,0,2,hL,fun h=>absurd h (by omega),.inr (.inl rfl),hg,rfl,fun h=>h,hob,wrap_in _⟩
  | res o' c' dn' g' r' v' m a oc=>exact⟨_,t,op,_,a,0,oc,hL,fun h=>by have:=hA.2.2.2.2.2.2.2.2.2; omega,.inr hA.2.2.2.2.2.2.2.2.2,hg,hl,hn2,hob,hE⟩
 ·exact⟨s,0,0,0,0,0,0,awV h0 h1 G.wd hf hop A,fun _=> ⟨rfl,rfl,rfl,rfl,rfl,rfl⟩,.inl rfl,G.mono (Nat.le_succ n),rfl,fun h=>h,z,z⟩
theorem axJ {k:D} {t:Int} {x:KT} (h:k=dL k.l) (t0:0≤t) (t1:t < (k.l.length:Int)) (hk:k.at t=x.d):mP k t x=k:=by
 obtain⟨i,rfl⟩ : ∃i:Nat,t=(i:Int):=⟨t.toNat,by omega⟩
 have hi:i < k.l.length:=by omega
 rw [bM hi] at hk
 unfold mP
 rw [← hk]
 exact set_self h hi
section
variable {d0 d1 s k:D} {t:Int} {n:Nat} (S:Sx s k n)
include S
end
structure Rs (d0 d1 s k:D) (t:Int) (x:KT):Prop where
 c:Cd d0 d1
 r:Rt d0 d1 t x
 hk:k.at t=x.d
 ht:t < (k.l.length:Int)
 yes:L 1550 [enc d0,enc d1,enc s,enc k,t]=some [1]
theorem aBG {d0 d1 s k:D} {t:Int} {n:Nat} (S:Sx s k n) (hn:n < 17592186043904) (h0:Wd (.sl 3) d0) (h1:Wd (.sl 4) d1):L 1550 [enc d0,enc d1,enc s,enc k,t]=some [0]∨∃x,Rs d0 d1 s k t x:=by
 obtain⟨ys,hL,b,rfl,hb⟩:=agZ (k:=k) h0 h1 (S.g.few (by omega)).rows h1.len t
 rcases hb with ⟨rfl,_⟩ | ⟨rfl,t0,t1,M⟩
 ·exact .inl hL
 ·refine .inr ?_
  obtain⟨hle,hO⟩:=M.2
  obtain⟨i,rfl⟩ : ∃i:Nat,t=(i:Int):=⟨t.toNat,by omega⟩
  have hi:i < k.l.length:=by omega
  have hd:i < d1.l.length:=by omega
  obtain⟨a,lc,w,o,g,tr,T⟩:=mD S.wk _ (List.getElem_mem hi)
  have ok:=hO i hi
  unfold OkK at ok
  rw [T.is] at ok
  simp only [dP,List.getElem?_cons_zero,List.getElem?_cons_succ,Option.getD_some,n_i] at ok
  refine⟨⟨a,lc,w,o,g,tr⟩,(MR.code h0 h1 (S.g.few (by omega)).rows M).1,⟨by omega,by omega,?_,T.hl,T.hg⟩,by rw [bM hi,T.is],by omega,hL⟩
  rw [bM hd]
  exact ok
section
variable {d0 d1 s k:D} {t:Int} {n:Nat} {x:KT} (S:Sx s k n) (R:Rs d0 d1 s k t x)
include S R
theorem Rs.cp:L 9050 [t,enc s,enc k]=some [Oi x.lc,t,enc s,enc k,x.a,enc x.lc,x.w,x.o,x.g,x.tr]:=by
 have t0:=R.r.t0
 have ht:=R.ht
 obtain⟨i,rfl⟩ : ∃i:Nat,t=(i:Int):=⟨t.toNat,by omega⟩
 have hi:i < k.l.length:=by omega
 obtain⟨a,lc,w,o,g,tr,T⟩:=mD S.wk _ (List.getElem_mem hi)
 have h:=QM S.st hi T
 have e:=R.hk
 rw [bM hi,T.is] at e
 simp only [KT.d,kP,oC,D.p.injEq,D.i.injEq,and_true] at e
 obtain⟨rfl,rfl,rfl,rfl,rfl,rfl⟩:=e
 exact h
end
end Go.As.Try
end
section
namespace Go.As.Try
open Go hiding Stat Spec shape
open Go.As
set_option maxRecDepth 100000
theorem Tot.jmp {j k:Nat} {xs ys:List Int} {t:T Lf} {p:List Int→Prop} (e:S.tree j=t) (h:dU (dB L (low xs)) t= .jump k ys) (q:Tot k ys p):Tot j xs p:=by
 refine Tot.of ?_
 rw [e,h]
 exact .jump q
theorem Tot.ret {j:Nat} {xs ys:List Int} {t:T Lf} {p:List Int→Prop} (e:S.tree j=t) (h:dU (dB L (low xs)) t= .out ys) (q:p ys):Tot j xs p:=by
 refine Tot.of ?_
 rw [e,h]
 exact .out q
theorem OC (m:Nat) (hm:m≤60) (ih: ∀(k n:Int) (s kids:D),Wd .str s→Wd (.sl 6) kids→Tot 150 [k,enc s,n,enc kids,(m:Int)] one) (x3 x4 x5:Int) (kids:D) (hk:Wd (.sl 6) kids) :
 ∀(j i:Nat) (x1:Int),i+j=kids.l.length→Tot 151 [((m+1:Nat):Int),x1,(i:Int),x3,x4,x5,enc kids] one
 | 0,i,x1,hi=>Tot.ret arM (ys:=[x1]) (aP [] [.lt (.aC 2) (ln (.aC 6))] (ou [.aC 1]) (by simp only [zz,aH.den,Nat.reduceLT] <;> omega) (by kernel_rfl) (by simp only [zz,aH.den,Nat.reduceLT])) ⟨x1,rfl⟩
 | j+1,i,x1,hi=>by
   have hl:=hk.len
   have hil:i < kids.l.length:=by omega
   have hw:=bD (n:=i) (by omega)
   obtain⟨k,s,n,ks,he,_,hs,_,hks⟩:=Df hk hil
   have ha:kids.at (i:Int)=dL [.i k,s,.i n,ks]:=by rw [bM hil]; exact he
   obtain⟨ys,XT,z,rfl⟩:=ih k n s ks hs hks
   have hw2:IntKind.i64.wrap (((m+1:Nat):Int) - 1)=(m:Int):=by rw [qV (by omega) (by omega)]; omega
   by_cases hx:10000 < x1
   ·exact Tot.ret arM (ys:=[x1]) (aP [.lt (.aC 2) (ln (.aC 6)),.lt (.lit 10000) (.aC 1)] [] (ou [.aC 1]) (by simp only [zz,aH.den,Nat.reduceLT] <;> omega) (by kernel_rfl) (by simp only [zz,aH.den,Nat.reduceLT])) ⟨x1,rfl⟩
   ·exact Tot.jmp arM (aP [.lt (.aC 2) (ln (.aC 6)),.eq (a0 150 [nm (ce 0 (el (.aC 6) (.aC 2))),ce 1 (el (.aC 6) (.aC 2)),nm (ce 2 (el (.aC 6) (.aC 2))),ce 3 (el (.aC 6) (.aC 2)),wr (.sub (.aC 0) (.lit 1))]) (.lit 1)] [.lt (.lit 10000) (.aC 1),.lt (.aC 2) (.lit 0)] (ju 151 [.aC 0,wr (.add (.aC 1) (rr 150 [nm (ce 0 (el (.aC 6) (.aC 2))),ce 1 (el (.aC 6) (.aC 2)),nm (ce 2 (el (.aC 6) (.aC 2))),ce 3 (el (.aC 6) (.aC 2)),wr (.sub (.aC 0) (.lit 1))] 0)),wr (.add (.aC 2) (.lit 1)),.aC 3,.aC 4,.aC 5,.aC 6]) (by simp only [zz,aH.den,Nat.reduceLT,ha,dP,List.getElem?_cons_zero,List.getElem?_cons_succ,hw2,XT] <;> omega) (by kernel_rfl) (by simp only [zz,aH.den,Nat.reduceLT,ha,dP,List.getElem?_cons_zero,List.getElem?_cons_succ,hw2,XT,hw] <;> rfl)) (OC m hm ih x3 x4 x5 kids hk j (i+1) (IntKind.i64.wrap (x1+z)) (by omega))
theorem UK: ∀(m:Nat),m≤60→∀(k n:Int) (s kids:D),Wd .str s→Wd (.sl 6) kids→Tot 150 [k,enc s,n,enc kids,(m:Int)] one
 | 0,_,k,n,s,kids,_,_=>Tot.ret aAT (ys:=[10000]) (aP [.lt (.aC 4) (.lit 1)] [] (ou [.lit 10000]) (by simp only [zz,aH.den,Nat.reduceLT] <;> omega) (by kernel_rfl) (by simp only [zz,aH.den,Nat.reduceLT])) ⟨_,rfl⟩
 | m+1,hm,k,n,s,kids,hs,hk=>Tot.jmp aAT (ys:=[((m+1:Nat):Int),_,(0:Nat),k,enc s,n,enc kids]) (aP [] [.lt (.aC 4) (.lit 1)] (ju 151 [.aC 4,wr (.add (.lit 1) (wr (.quo (ln (.aC 1)) (.lit 100)))),.lit 0,.aC 0,.aC 1,.aC 2,.aC 3]) (by simp only [zz,aH.den,Nat.reduceLT] <;> omega) (by kernel_rfl) (by simp only [qH,List.map,bK,Nat.reduceLT,aN,aO] <;> rfl)) (OC m (by omega) (UK m (by omega)) k (enc s) n kids hk kids.l.length 0 _ (by omega))
section
variable {d0 d1:D} (h1:Wd (.sl 4) d1)
include h1
theorem Md (x1 x2 x3:Int) (N9:D) (ha:Wd (.sl 6) N9) (q: ∀x0,Tot 102 [x0,x1,IntKind.i64.wrap (x2+1),x3,enc d0,enc d1] Ew): ∀(j i:Nat) (x0:Int),i+j=N9.l.length→Tot 103 [x0,x1,x2,x3,enc N9,(N9.l.length:Int),(i:Int),enc d0,enc d1] Ew
 | 0,i,x0,hi=>Tot.jmp aAU (aP [] [.lt (.aC 6) (.aC 5)] (ju 102 [.aC 0,.aC 1,wr (.add (.aC 2) (.lit 1)),.aC 3,.aC 7,.aC 8]) (by simp only [zz,aH.den,Nat.reduceLT] <;> omega) (by kernel_rfl) (by simp only [zz,aH.den,Nat.reduceLT])) (q x0)
 | j+1,i,x0,hi=>by
   have hl:=ha.len
   have hil:i < N9.l.length:=by omega
   have hw:=bD (n:=i) (by omega)
   obtain⟨k,s,n,ks,he,_,hs,_,hks⟩:=Df ha hil
   have hat:N9.at (i:Int)=dL [.i k,s,.i n,ks]:=by rw [bM hil]; exact he
   obtain⟨ys,XT,z,rfl⟩:=UK 60 (by omega) k n s ks hs hks
   have XT:L 150 [k,enc s,n,enc ks,60]=some [z]:=XT
   exact Tot.jmp aAU (aP [.lt (.aC 6) (.aC 5),.lt (.aC 6) (ln (.aC 4)),.eq (a0 150 [nm (ce 0 (el (.aC 4) (.aC 6))),ce 1 (el (.aC 4) (.aC 6)),nm (ce 2 (el (.aC 4) (.aC 6))),ce 3 (el (.aC 4) (.aC 6)),.lit 60]) (.lit 1)] [.lt (.aC 6) (.lit 0)] (ju 103 [wr (.add (.aC 0) (rr 150 [nm (ce 0 (el (.aC 4) (.aC 6))),ce 1 (el (.aC 4) (.aC 6)),nm (ce 2 (el (.aC 4) (.aC 6))),ce 3 (el (.aC 4) (.aC 6)),.lit 60] 0)),.aC 1,.aC 2,.aC 3,.aC 4,.aC 5,wr (.add (.aC 6) (.lit 1)),.aC 7,.aC 8]) (by simp only [zz,aH.den,Nat.reduceLT,hat,dP,List.getElem?_cons_zero,List.getElem?_cons_succ,XT] <;> omega) (by kernel_rfl) (by simp only [zz,aH.den,Nat.reduceLT,hat,dP,List.getElem?_cons_zero,List.getElem?_cons_succ,XT,hw] <;> rfl)) (Md x1 x2 x3 N9 ha q j (i+1) (IntKind.i64.wrap (x0+z)) (by omega))
theorem acT (i:Nat) (hi:i < d1.l.length) (q: ∀x0,Tot 101 [x0,(d1.l.length:Int),((i+1:Nat):Int),enc d0,enc d1] Ew): ∀(j k:Nat) (x0:Int),(∀nm' lc cd,d1.l[i]=dL [nm',lc,cd]→k+j=cd.l.length)→Tot 102 [x0,(i:Int),(k:Int),(d1.l.length:Int),enc d0,enc d1] Ew:=by
 have hl:=h1.len
 have hw:=bD (n:=i) (by omega)
 obtain⟨nm',lc,cd,he,_,_,hcd⟩:=EM h1 hi
 have hat:d1.at (i:Int)=dL [nm',lc,cd]:=by rw [bM hi]; exact he
 have hcl:=hcd.len
 intro j
 induction j with
 | zero=>
   intro k x0 hk
   have hk:=hk _ _ _ he
   exact Tot.jmp arN (aP [.lt (.aC 1) (ln (.aC 5))] [.lt (.aC 1) (.lit 0),.lt (.aC 2) (ln (ce 2 (el (.aC 5) (.aC 1))))] (ju 101 [.aC 0,.aC 3,wr (.add (.aC 1) (.lit 1)),.aC 4,.aC 5]) (by simp only [zz,aH.den,Nat.reduceLT,hat,dP,List.getElem?_cons_zero,List.getElem?_cons_succ] <;> omega) (by kernel_rfl) (by simp only [zz,aH.den,Nat.reduceLT,hw] <;> rfl)) (q x0)
 | succ j ih=>
   intro k x0 hk
   have hk':=hk _ _ _ he
   by_cases h6:6000 < x0
   ·exact Tot.jmp arN (aP [.lt (.aC 1) (ln (.aC 5)),.lt (.aC 2) (ln (ce 2 (el (.aC 5) (.aC 1)))),.lt (.lit 6000) (.aC 0)] [.lt (.aC 1) (.lit 0)] (ju 101 [.aC 0,.aC 3,wr (.add (.aC 1) (.lit 1)),.aC 4,.aC 5]) (by simp only [zz,aH.den,Nat.reduceLT,hat,dP,List.getElem?_cons_zero,List.getElem?_cons_succ] <;> omega) (by kernel_rfl) (by simp only [zz,aH.den,Nat.reduceLT,hw] <;> rfl)) (q x0)
   ·have hkl:k < cd.l.length:=by omega
    have hw2:=bD (n:=k) (by omega)
    obtain⟨a,b,c,e,f,g,N9,hin,_,_,_,_,_,_,has⟩:=XO hcd hkl
    have aD2:cd.at (k:Int)=dL [.i a,.i b,.i c,.i e,.i f,.i g,N9]:=by rw [bM hkl]; exact hin
    refine Tot.jmp arN (aP [.lt (.aC 1) (ln (.aC 5)),.lt (.aC 2) (ln (ce 2 (el (.aC 5) (.aC 1))))] [.lt (.aC 1) (.lit 0),.lt (.lit 6000) (.aC 0),.lt (.aC 2) (.lit 0)] (ju 103 [.aC 0,.aC 1,.aC 2,.aC 3,ce 6 (el (ce 2 (el (.aC 5) (.aC 1))) (.aC 2)),ln (ce 6 (el (ce 2 (el (.aC 5) (.aC 1))) (.aC 2))),.lit 0,.aC 4,.aC 5]) (by simp only [zz,aH.den,Nat.reduceLT,hat,dP,List.getElem?_cons_zero,List.getElem?_cons_succ] <;> omega) (by kernel_rfl) (by simp only [zz,aH.den,Nat.reduceLT,hat,aD2,dP,List.getElem?_cons_zero,List.getElem?_cons_succ] <;> rfl)) (Md h1 (i:Int) (k:Int) (d1.l.length:Int) N9 has (fun x0=>?_) N9.l.length 0 x0 (by omega))
    rw [hw2]
    exact ih (k+1) x0 fun nm' lc cd he=>by have:=hk nm' lc cd he; omega
theorem Mc: ∀(j i:Nat) (x0:Int),i+j=d1.l.length→Tot 101 [x0,(d1.l.length:Int),(i:Int),enc d0,enc d1] Ew
 | 0,i,x0,hi=>by
   by_cases h6:6000 < x0
   ·exact Tot.ret arO (aP [.lt (.lit 6000) (.aC 0)] [.lt (.aC 2) (.aC 1)] (ou [.lit 1]) (by simp only [zz,aH.den,Nat.reduceLT] <;> omega) (by kernel_rfl) (by simp only [zz,aH.den,Nat.reduceLT])) zD
   ·exact Tot.ret arO (aP [] [.lt (.aC 2) (.aC 1),.lt (.lit 6000) (.aC 0)] (ou [.lit 0]) (by simp only [zz,aH.den,Nat.reduceLT] <;> omega) (by kernel_rfl) (by simp only [zz,aH.den,Nat.reduceLT])) zF
 | j+1,i,x0,hi=>by
   have hil:i < d1.l.length:=by omega
   obtain⟨nm',lc,cd,he,_,_,hcd⟩:=EM h1 hil
   refine Tot.jmp arO (ys:=[_,(i:Int),((0:Nat):Int),(d1.l.length:Int),enc d0,enc d1]) (aP [.lt (.aC 2) (.aC 1),.lt (.aC 2) (ln (.aC 4))] [.lt (.aC 2) (.lit 0)] (ju 102 [wr (.add (.aC 0) (wr (.add (ln (ce 1 (el (.aC 4) (.aC 2)))) (ln (ce 2 (el (.aC 4) (.aC 2))))))),.aC 2,.lit 0,.aC 1,.aC 3,.aC 4]) (by simp only [zz,aH.den,Nat.reduceLT] <;> omega) (by kernel_rfl) (by simp only [zz,aH.den,Nat.reduceLT] <;> rfl)) (acT h1 i hil (fun x0=>Mc j (i+1) x0 (by omega)) cd.l.length 0 _ fun n' l' c' he'=>?_)
   rw [he] at he'
   have:=Ny he'
   simp only [List.cons.injEq,and_true] at this
   rw [this.2.2]
   omega
theorem acS:Tot 100 [enc d0,enc d1] Ew:=
 Tot.jmp e100 (ys:=[_,(d1.l.length:Int),((0:Nat):Int),enc d0,enc d1]) (aP [] [] (ju 101 [wr (.add (ln (.aC 0)) (ln (.aC 1))),ln (.aC 1),.lit 0,.aC 0,.aC 1]) (by simp only [zz,aH.den,Nat.reduceLT] <;> omega) (by kernel_rfl) (by simp only [zz,aH.den,Nat.reduceLT] <;> rfl)) (Mc h1 d1.l.length 0 _ (by omega))
end
end Go.As.Try
end

import Derived.Lib.Strings
import Derived.Laws.IdiomStrings
import Derived.Laws.RangeString
import Derived.Laws.StructEq
import Derived.Test.YtdcafdkkpdadbaaGreatDoorAsZJ0
set_option linter.unusedSectionVars false
set_option linter.unusedVariables false
set_option linter.unusedSimpArgs false
section
namespace Go.As
theorem kS {ρ:Nat→Int} {c:SB} {b:Bool}: ∀{pc:List (SB×Bool)},bI ρ pc→qV c pc=some b→c.den ρ=b
 | [],_,h=>by simp [qV] at h
 | (d,x) :: l,hp,h=>by
   simp only [qV] at h
   split at h
   ·rename_i he
    have he:=xA _ _ he
    simp at h
    subst he h
    exact hp _ _ (by simp)
   ·exact kS (fun c b hm=>hp c b (by simp [hm])) h
def Within (lo hi:Option Int) (x:Int):Prop:=(∀l,lo=some l→l≤x)∧∀h,hi=some h→x≤h
theorem TM {lo:Option Int} {z x:Int} (h: ∀l,lo=some l→l≤x) (hz:z≤x): ∀l,akQ lo z=some l→l≤x:=by
 intro l hl
 unfold akQ at hl
 split at hl
 ·simp at hl; omega
 ·have:=h _ rfl
  simp at hl
  split at hl <;> omega
theorem TL {hi:Option Int} {z x:Int} (h: ∀l,hi=some l→x≤l) (hz:x≤z): ∀l,akP hi z=some l→x≤l:=by
 intro l hl
 unfold akP at hl
 split at hl
 ·simp at hl; omega
 ·have:=h _ rfl
  simp at hl
  split at hl <;> omega
theorem akC {lo:Option Int} {z x:Int} (h: ∀l,lo=some l→l≤x) (hz:x≠z): ∀l,akD lo z=some l→l≤x:=by
 intro l hl
 unfold akD at hl
 split at hl
 ·simp at hl
 ·have:=h _ rfl
  simp at hl
  split at hl <;> omega
theorem akE {hi:Option Int} {z x:Int} (h: ∀l,hi=some l→x≤l) (hz:x≠z): ∀l,akF hi z=some l→x≤l:=by
 intro l hl
 unfold akF at hl
 split at hl
 ·simp at hl
 ·have:=h _ rfl
  simp at hl
  split at hl <;> omega
theorem vY {ρ:Nat→Int} {x y:SE} {v:Bool} (h:(SB.lt x y).den ρ=v):(x.den ρ < y.den ρ)↔v=true:=by
 subst h; simp [SB.den]
theorem acL {ρ:Nat→Int} {x y:SE} {v:Bool} (h:(SB.eq x y).den ρ=v):(x.den ρ=y.den ρ)↔v=true:=by
 subst h; simp [SB.den]
theorem aqD {ρ:Nat→Int} (e:SE):Within (adK e).1 (adK e).2 (e.den ρ):=by
 have h0:Within none none (e.den ρ):=⟨by simp,by simp⟩
 unfold adK
 split
 ·split
  ·split
   ·split
    ·split
     ·split
      ·split
       ·rename_i k m x n hn
        obtain⟨hn,rfl,rfl⟩:=hn
        simp only [SE.den]
        have h1:=Int.tmod_lt_of_pos (m.den ρ) (b:=n) (by omega)
        have h2: -n < (m.den ρ).tmod n:=by
         have h1:=Int.tmod_lt_of_pos (-(m.den ρ)) (b:=n) (by omega)
         rw [Int.neg_tmod] at h1
         omega
        have h3:=Int.tmod_nonneg n (a:=(m.den ρ).tmod n+n) (by omega)
        have h4:=Int.tmod_lt_of_pos ((m.den ρ).tmod n+n) (b:=n) (by omega)
        constructor <;> intro l hl <;> simp at hl <;> omega
       ·exact h0
      ·exact h0
     ·exact h0
    ·exact h0
   ·exact h0
  ·exact h0
 ·rename_i o a b
  cases o with
  | len=>
    refine⟨fun l hl=>?_,by simp⟩
    simp only [Option.some.injEq] at hl
    subst hl
    simp only [SE.den,aG.den]
    omega
  | _=>exact h0
 ·exact h0
theorem oZ {ρ:Nat→Int} {e:SE}: ∀{pc:List (SB×Bool)},bI ρ pc→Within (bounds e pc).1 (bounds e pc).2 (e.den ρ)
 | [],_=>aqD e
 | (c,v) :: l,hp=>by
   have ih:=oZ (e:=e) (pc:=l) (fun c b hm=>hp c b (by simp [hm]))
   have hc:=hp c v (by simp)
   unfold bounds
   split
   ·have hc:=vY hc
    split
    ·split
     ·exact ih
     ·rename_i he
      have he:=bW _ _ he
      subst he
      revert ih
      split
      rename_i lo hi hb
      rw [hb]
      intro ih
      simp only [SE.den] at hc
      cases v
      ·exact⟨ih.1,TL ih.2 (by simp at hc; omega)⟩
      ·exact⟨TM ih.1 (by simp at hc; omega),ih.2⟩
    ·split
     ·split
      ·exact ih
      ·rename_i he
       have he:=bW _ _ he
       subst he
       revert ih
       split
       rename_i lo hi hb
       rw [hb]
       intro ih
       simp only [SE.den] at hc
       cases v
       ·exact⟨TM ih.1 (by simp at hc; omega),ih.2⟩
       ·exact⟨ih.1,TL ih.2 (by simp at hc; omega)⟩
     ·exact ih
   ·split
    ·split
     ·split
      ·exact ih
      ·rename_i he
       have he:=bW _ _ he
       subst he
       revert ih
       split
       rename_i lo hi hb
       rw [hb]
       intro ih
       simp only [SB.den,SE.den,beq_eq_false_iff_ne] at hc
       exact⟨akC ih.1 hc,akE ih.2 hc⟩
     ·split
      ·exact ih
      ·rename_i he
       have he:=bW _ _ he
       subst he
       simp only [SB.den,SE.den,beq_iff_eq] at hc
       exact⟨fun l hl=>by simp at hl; omega,fun l hl=>by simp at hl; omega⟩
    ·exact ih
   ·exact ih
theorem D6 {ρ:Nat→Int} {e:SE} {pc:List (SB×Bool)} (hp:bI ρ pc):Within (tV e pc).1 (tV e pc).2 (e.den ρ):=by
 have h0:=oZ (e:=e) hp
 unfold tV
 split
 ·split
  ·split
   ·split
    ·rename_i b _ c
     have hb:=oZ (e:=b) hp
     split
     ·rename_i lo hi hbb
      rw [hbb] at hb
      have b1:=hb.1 lo rfl
      have b2:=hb.2 hi rfl
      split
      ·rename_i hr
       revert h0
       split
       rename_i l2 h2 hee
       rw [hee]
       intro h0
       have hw:(SE.wrap .i64 (.add b (.lit c))).den ρ=b.den ρ+c:=by
        simp only [SE.den]
        rw [← oM]
        simp only [Ai]
        rw [if_pos (by omega)]
       exact⟨TM h0.1 (by rw [hw]; omega),TL h0.2 (by rw [hw]; omega)⟩
      ·exact h0
     ·exact h0
    ·exact h0
   ·exact h0
  ·exact h0
 ·exact h0
theorem MC {ρ:Nat→Int} {pc:List (SB×Bool)} (hp:bI ρ pc) {a b:SE} {v:Bool} (h:abH a b pc=some v):a.den ρ=b.den ρ↔v=true:=by
 unfold abH at h
 split at h
 ·rename_i h1
  simp at h
  subst h
  exact acL (kS hp h1)
 ·rw [← acL (kS hp h)]
  exact eq_comm
theorem apG {ρ:Nat→Int} {pc:List (SB×Bool)} (hp:bI ρ pc) {a b:SE} {v:Bool} (h:decLt pc a b=some v):a.den ρ < b.den ρ↔v=true:=by
 unfold decLt at h
 split at h
 ·rename_i h1
  simp at h
  subst h
  exact vY (kS hp h1)
 ·split at h
  ·have hb:=D6 (e:=b) hp
   have hz: ∀z,(SE.lit z).den ρ=z:=fun _=>rfl
   simp only [hz] at *
   generalize hbb:tV _ pc=p at h hb
   obtain⟨lo,hi⟩:=p
   simp only [Within] at h hb
   split at h
   ·rename_i l
    have:=hb.1 l rfl
    split at h
    ·simp at h; subst h; simp; omega
    ·split at h
     ·rename_i hh
      have:=hb.2 hh rfl
      split at h
      ·simp at h; subst h; simp; omega
      ·simp at h
     ·simp at h
   ·split at h
    ·rename_i hh
     have:=hb.2 hh rfl
     split at h
     ·simp at h; subst h; simp; omega
     ·simp at h
    ·simp at h
  ·split at h
   ·have hb:=D6 (e:=a) hp
    have hz: ∀z,(SE.lit z).den ρ=z:=fun _=>rfl
    simp only [hz] at *
    generalize hbb:tV _ pc=p at h hb
    obtain⟨lo,hi⟩:=p
    simp only [Within] at h hb
    split at h
    ·rename_i hh
     have:=hb.2 hh rfl
     split at h
     ·simp at h; subst h; simp; omega
     ·split at h
      ·rename_i l
       have:=hb.1 l rfl
       split at h
       ·simp at h; subst h; simp; omega
       ·simp at h
      ·simp at h
    ·split at h
     ·rename_i l
      have:=hb.1 l rfl
      split at h
      ·simp at h; subst h; simp; omega
      ·simp at h
     ·simp at h
   ·split at h
    ·rename_i h1
     have h1:=MC hp h1
     simp at h h1
     subst h
     simp; omega
    ·rename_i h1
     have h1:=MC hp h1
     simp at h1
     split at h
     ·rename_i h2
      have h2:=vY (kS hp h2)
      simp at h
      subst h
      cases v <;> simp at h2 <;> simp <;> omega
     ·simp at h
    ·split at h
     ·rename_i h2
      have h2:=vY (kS hp h2)
      simp at h h2
      subst h
      simp; omega
     ·simp at h
theorem apH {ρ:Nat→Int} {pc:List (SB×Bool)} (hp:bI ρ pc) {a b:SE} {v:Bool} (h:decEq pc a b=some v):a.den ρ=b.den ρ↔v=true:=by
 unfold decEq at h
 split at h
 ·rename_i h1
  simp at h
  subst h
  exact MC hp h1
 ·split at h
  ·have hb:=D6 (e:=a) hp
   have hz: ∀z,(SE.lit z).den ρ=z:=fun _=>rfl
   simp only [hz] at *
   generalize hbb:tV _ pc=p at h hb
   obtain⟨lo,hi⟩:=p
   simp only [Within] at h hb
   split at h
   ·rename_i l
    have:=hb.1 l rfl
    split at h
    ·simp at h; subst h; simp; omega
    ·split at h
     ·rename_i hh
      have:=hb.2 hh rfl
      split at h
      ·simp at h; subst h; simp; omega
      ·split at h
       ·simp at h; subst h; simp; omega
       ·simp at h
     ·simp at h
   ·split at h
    ·rename_i hh
     have:=hb.2 hh rfl
     split at h
     ·simp at h; subst h; simp; omega
     ·simp at h
    ·simp at h
  ·split at h
   ·rename_i h2
    have h2:=vY (kS hp h2)
    simp at h h2
    subst h
    simp; omega
   ·rename_i h2
    have h2:=vY (kS hp h2)
    simp at h2
    split at h
    ·rename_i h3
     have h3:=vY (kS hp h3)
     simp at h
     subst h
     cases v <;> simp at h3 <;> simp <;> omega
    ·simp at h
   ·split at h
    ·rename_i h2
     have h2:=vY (kS hp h2)
     simp at h h2
     subst h
     simp; omega
    ·simp at h
theorem N7 {ρ:Nat→Int} {pc:List (SB×Bool)} (hp:bI ρ pc) {c:SB} {b:Bool} (h:KC pc c=some b):c.den ρ=b:=by
 unfold KC at h
 split at h
 ·simp at h; simp [SB.den,h]
 ·have:=apG hp h
  simp only [SB.den]
  cases b <;> simp at this ⊢ <;> omega
 ·have:=apH hp h
  simp only [SB.den]
  cases b <;> simp at this ⊢ <;> omega
 ·exact kS hp h
theorem iW {ρ:Nat→Int} {pc:List (SB×Bool)} (hp:bI ρ pc) {c:SB} {b:Bool} (h:mF pc c=some b):c.den ρ=b:=by
 unfold mF at h
 split at h
 ·rw [Option.map_eq_some_iff] at h
  obtain⟨x,h1,rfl⟩:=h
  simp only [SB.den,N7 hp h1]
 ·exact N7 hp h
end Go.As
end
section
namespace Go.As
section
variable {P:Program} {E:En} {w:World}
theorem V4 {op:BinOp} {t:Nat} {k k':IntKind} {a b:SE} {v:AV} (hk:op= .shr∨k=k') (h:abW op k a b=some v) :
 ∃u,(binOp op t (.int k (a.den E.ρ)) (.int k' (b.den E.ρ))).run P w= .ok u w∧VR E w.heap v u:=by
 unfold abW at h
 cases op <;> simp only [Option.some.injEq,reduceCtorEq] at h
 case add=>obtain rfl:k=k':=by simpa using hk
           subst h; exact⟨_,by simp [binOp,Op.intArith]; rfl,by simp only [VR,adY]⟩
 case sub=>obtain rfl:k=k':=by simpa using hk
           subst h; exact⟨_,by simp [binOp,Op.intArith]; rfl,by simp only [VR,Pg]⟩
 case mul=>obtain rfl:k=k':=by simpa using hk
           subst h; exact⟨_,by simp [binOp,Op.intArith]; rfl,by simp only [VR,adX]⟩
 case quo=>
  obtain rfl:k=k':=by simpa using hk
  split at h
  ·split at h
   ·simp at h
   ·rename_i hy
    simp at h
    subst h
    exact⟨_,by simp [binOp,Op.intDiv,SE.den,hy]; rfl,by simp only [VR,SE.den,oM]⟩
  ·split at h
   ·simp at h
   ·rename_i hy
    simp at h
    subst h
    exact⟨_,by simp [binOp,Op.intDiv,SE.den,hy]; rfl,by simp only [VR,SE.den]⟩
  ·simp at h
 case rem=>
  obtain rfl:k=k':=by simpa using hk
  split at h
  ·split at h
   ·simp at h
   ·rename_i hy
    simp at h
    subst h
    exact⟨_,by simp [binOp,Op.intDiv,SE.den,hy]; rfl,by simp only [VR,SE.den]⟩
  ·split at h
   ·simp at h
   ·rename_i hy
    simp at h
    subst h
    exact⟨_,by simp [binOp,Op.intDiv,SE.den,hy]; rfl,by simp only [VR,SE.den]⟩
  ·simp at h
 case shr=>
  split at h
  ·split at h
   ·simp at h
   ·rename_i hy
    simp at h
    subst h
    exact⟨_,by simp [binOp,Op.shift,SE.den,hy]; rfl,by simp only [VR,SE.den]⟩
  ·simp at h
 all_goals
  obtain rfl:k=k':=by simpa using hk
  subst h
  refine⟨_,by simp [binOp,Op.intCmp]; rfl,?_⟩
  simp only [VR,lN,qR,dV,ajK]
  first | rfl | (congr 1; simp [bne]; done) | (congr 1; rw [Bool.eq_iff_iff]; simp; done) | skip
theorem BJ {op:BinOp} {t:Nat} {x y:Operand} {a b:Value} (h1: ∀cs ds,¬(a= .agg cs∧b= .agg ds)) (h2: ¬(a= .nilIface∧b= .nilIface)) :
 (eqGuard op t x y a b).run P w= .ok () w:=by
 cases op
 case eql=>
  cases a <;> first
   | (cases b <;> first | (exact absurd ⟨rfl,rfl⟩ (h1 _ _)) | (exact absurd ⟨rfl,rfl⟩ h2) | rfl)
   | rfl
 case neq=>
  cases a <;> first
   | (cases b <;> first | (exact absurd ⟨rfl,rfl⟩ (h1 _ _)) | (exact absurd ⟨rfl,rfl⟩ h2) | rfl)
   | rfl
 all_goals rfl
theorem Jq {ρ:Nat→Int} {a b c:SB} (h:Ky a b=some c):c.den ρ=(a.den ρ == b.den ρ):=by
 unfold Ky at h
 split at h <;> simp only [Option.some.injEq,reduceCtorEq] at h <;> subst h
 ·simp [SB.den]
 ·rename Bool=>q
  cases q <;> simp [SB.den,qR]
 ·rename Bool=>q
  cases q <;> simp [SB.den,qR]
 ·simp only [SB.den]
  cases a.den ρ <;> cases b.den ρ <;> rfl
theorem Fj {d:TypeDesc} {t:Nat} (h:P.underlying t=some d) (w:World):(underlying t).run P w= .ok d w:=run_underlying h w
theorem xR {i:TI} {t:Nat} (h:tX P t i): ∃d,P.underlying t=some d∧RZ P d i.kind:=by
 obtain⟨inf,d,z,h1,h2,h3,h4,h5,h6,h7,_⟩:=h.all
 exact⟨d,h2,h7⟩
theorem acK {i:TI} {t:Nat} (ht:tX P t i) {x y:AV} {u u':Value} (hx:VR E w.heap x u) (hy:VR E w.heap y u') {c:SB} (h:aBN i.kind x y=some c) :
 (Op.equal t u u').run P w= .ok (c.den E.ρ) w∧(∀cs ds,¬(u= .agg cs∧u'= .agg ds))∧¬(u= .nilIface∧u'= .nilIface)∧(∀k n,u≠.int k n)∧(∀s,u≠.string s)∧(∀k n,u≠.float k n)∧(∀k n m,u≠.complex k n m):=by
 obtain⟨d,h1,h2⟩:=xR ht
 have hm: ∀a b,Op.equal t a b=Op.equalIn (9999+1) t a b:=fun _ _=>rfl
 rw [hm]
 clear hm
 generalize (9999:Nat)=n
 unfold aBN at h
 split at h
 ·rename_i hk
  rw [hk] at h2
  cases d <;> simp only [RZ] at h2
  split at h
  ·simp only [VR] at hx hy
   subst hx hy
   refine⟨?_,by simp,by simp,by simp,by simp,by simp,by simp⟩
   rw [Jq h]
   simp [Op.equalIn,Fj h1]
  ·simp at h
 ·rename_i k hk
  cases hkk:i.kind <;> rw [hkk] at h h2 <;> simp only [isNil,reduceCtorEq] at h
  case pointer e=>
   cases d <;> simp only [RZ] at h2
   cases x <;> simp only [reduceCtorEq] at h <;> cases y <;> simp only [reduceCtorEq,Option.some.injEq] at h <;> subst h <;> simp only [VR] at hx hy
   all_goals
    first | (obtain⟨b,o,us,rfl,_⟩:=hx) | (obtain⟨rfl,_⟩:=hx) | subst hx
    first | (obtain⟨b',o',us',rfl,_⟩:=hy) | (obtain⟨rfl,_⟩:=hy) | subst hy
    exact⟨by simp [Op.equalIn,Fj h1,SB.den],by simp,by simp,by simp,by simp,by simp,by simp⟩
  case slice e=>
   cases d <;> simp only [RZ] at h2
   cases x <;> simp only [reduceCtorEq] at h <;> cases y <;> simp only [reduceCtorEq,Option.some.injEq] at h <;> subst h <;> simp only [VR] at hx hy
   all_goals
    first | (obtain⟨b,o,cap,us,rfl,_⟩:=hx) | (obtain⟨_,b,cap,rfl,_⟩:=hx) | (obtain⟨_,k,b,cap,_,rfl,_⟩:=hx) | subst hx
    first | (obtain⟨b',o',cap',us',rfl,_⟩:=hy) | (obtain⟨_,b',cap',rfl,_⟩:=hy) | (obtain⟨_,k',b',cap',_,rfl,_⟩:=hy) | subst hy
    exact⟨by simp [Op.equalIn,Fj h1,SB.den],by simp,by simp,by simp,by simp,by simp,by simp⟩
  case map k' e=>
   cases d <;> simp only [RZ] at h2
   cases x <;> simp only [reduceCtorEq] at h <;> cases y <;> simp only [reduceCtorEq,Option.some.injEq] at h <;> subst h <;> simp only [VR] at hx hy
   all_goals
    first | (obtain⟨rfl,_⟩:=hx) | subst hx
    first | (obtain⟨rfl,_⟩:=hy) | subst hy
    exact⟨by simp [Op.equalIn,Fj h1,SB.den],by simp,by simp,by simp,by simp,by simp,by simp⟩
theorem binOp_eql {t:Nat} {u u':Value} {b:Bool} (h:(Op.equal t u u').run P w= .ok b w) (h1: ∀k n,u≠.int k n) (h2: ∀s,u≠.string s) (h3: ∀k n,u≠.float k n) (h4: ∀k n m,u≠.complex k n m) :
 (binOp .eql t u u').run P w= .ok (.bool b) w∧(binOp .neq t u u').run P w= .ok (.bool (!b)) w:=by
 cases u <;> first
  | exact absurd rfl (h1 _ _)
  | exact absurd rfl (h2 _)
  | exact absurd rfl (h3 _ _)
  | exact absurd rfl (h4 _ _ _)
  | (constructor <;> (cases u' <;> simp [binOp,h]))
theorem pG (ρ:Nat→Int) (a b:SE):(AY a b).den ρ=(a.den ρ == b.den ρ):=by
 unfold AY
 split
 ·rename_i h
  rw [bW _ _ h]
  simp [SB.den]
 ·split
  ·simp only [SB.den]
   exact BEq.comm
  ·simp only [SB.den]
theorem oQ (ρ:Nat→Int) (x:SE):(qQ x).den ρ=enc (dec (x.den ρ)):=by
 unfold qQ
 split
 ·simp only [SE.den,aC]
 ·split
  ·simp only [SE.den,aG.den,aC]
  ·simp only [SE.den,aG.den,aC]
  ·simp only [SE.den,aG.den]
 ·simp only [SE.den,aG.den]
theorem E8 {E:En} {h:Array Obj} {x:AV} {u:Value} {e:SE} (hx:VR E h x u) (hs:Ah x=some e): ∃s,u= .string s∧dec (e.den E.ρ)=Aa s:=by
 unfold Ah at hs
 split at hs
 ·simp only [Option.some.injEq] at hs
  subst hs
  simp only [VR] at hx
  obtain⟨rfl,hb⟩:=hx
  refine⟨_,rfl,?_⟩
  simp only [SE.den,aC]
  rw [Gu _ hb]
  simp [Aa,bZ]
 ·simp only [Option.some.injEq] at hs
  subst hs
  simp only [VR] at hx
  generalize dec (SE.den E.ρ _)=d at hx ⊢
  cases hx with
  | str s=>exact⟨s,rfl,rfl⟩
 ·simp at hs
theorem La {E:En} {h:Array Obj} {x y:AV} {u v:Value} {c:SB} (hx:VR E h x u) (hy:VR E h y v) (hs:strEq x y=some c): ∃a b:ByteArray,u= .string a∧v= .string b∧c.den E.ρ=decide (a=b):=by
 unfold strEq at hs
 split at hs
 ·simp at hs
 ·rename_i e he
  split at hs
  ·simp at hs
  ·rename_i f hf
   simp only [Option.some.injEq] at hs
   subst hs
   obtain⟨a,rfl,ha⟩:=E8 hx he
   obtain⟨b,rfl,hb⟩:=E8 hy hf
   refine⟨a,b,rfl,rfl,?_⟩
   rw [pG,oQ,oQ,ha,hb,Bool.eq_iff_iff,beq_iff_eq,decide_eq_true_eq]
   exact⟨fun q=>N8 (qK q),fun q=>by rw [q]⟩
theorem D8 (a b:ByteArray):(a.toList == b.toList)=decide (a=b):=by
 rw [Bool.eq_iff_iff,beq_iff_eq,decide_eq_true_eq]
 constructor
 ·intro h
  rw [← nI a,← nI b]
  have e: ∀x:ByteArray,x.toList=x.data.toList:=by
   intro x
   have:=rQ (bytesOf x)
   rw [nI] at this
   rw [this]
   have e2:(UInt8.ofNat ∘ fun b:UInt8=>b.toNat)=id:=by
    funext b
    simp
   rw [bytesOf,List.map_map,e2,List.map_id]
  rw [e,e] at h
  unfold bytesOf
  rw [h]
 ·intro h; rw [h]
theorem O1 {E:En} {op:BinOp} {x y v:AV} {u u':Value} {t:Nat} (hx:VR E w.heap x u) (hy:VR E w.heap y u') (h:SX op (strEq x y)=some v) :
 (∃r,(binOp op t u u').run P w= .ok r w∧VR E w.heap v r)∧(∀cs ds,¬(u= .agg cs∧u'= .agg ds))∧¬(u= .nilIface∧u'= .nilIface):=by
 unfold SX at h
 split at h
 ·simp at h
 ·rename_i c hc
  obtain⟨a,b,rfl,rfl,hd⟩:=La hx hy hc
  refine⟨?_,by simp,by simp⟩
  split at h
  ·simp only [Option.some.injEq] at h
   subst h
   refine⟨.bool (decide (a=b)),?_,by simp only [VR,hd]⟩
   rw [← D8]
   rfl
  ·simp only [Option.some.injEq] at h
   subst h
   refine⟨.bool (!decide (a=b)),?_,by simp only [VR,SB.den,hd]⟩
   rw [← D8]
   rfl
  ·simp at h
theorem amL {tt:TT} (htt:eG P tt) {t:Nat} {op:BinOp} {x y v:AV} {u u':Value} (hx:VR E w.heap x u) (hy:VR E w.heap y u') (h:amM tt t op x y=some v) :
 (∃r,(binOp op t u u').run P w= .ok r w∧VR E w.heap v r)∧(∀cs ds,¬(u= .agg cs∧u'= .agg ds))∧¬(u= .nilIface∧u'= .nilIface):=by
 unfold amM at h
 split at h
 ·split at h
  ·simp only [VR] at hx hy
   subst hx hy
   refine⟨?_,by simp,by simp⟩
   split at h
   ·exact V4 (.inl rfl) h
   ·simp at h
   ·split at h
    ·rename_i hk; exact V4 (.inr hk) h
    ·simp at h
  ·simp at h
 ·split at h
  ·simp only [VR] at hx hy
   obtain⟨rfl,hx⟩:=hx
   obtain⟨rfl,hy⟩:=hy
   refine⟨?_,by simp,by simp⟩
   obtain⟨r,h1,h2⟩:=Vq (P:=P) (E:=E) (w:=w) hx hy h
   refine⟨r,?_,h2⟩
   cases op <;> first | (simp [Vr] at h; done) | (simpa [binOp] using h1)
  ·exact O1 hx hy h
  ·simp at h
 ·exact O1 hx hy h
 ·split at h
  ·simp at h
  ·rename_i i hi
   split at h
   ·rename_i c hc
    simp at h
    subst h
    obtain⟨e1,e2,e3,e4,e5,e6,e7⟩:=acK (w:=w) (htt t i hi) hx hy hc
    exact⟨⟨_,(binOp_eql e1 e4 e5 e6 e7).1,by simp only [VR]⟩,e2,e3⟩
   ·rename_i c hc
    simp at h
    subst h
    obtain⟨e1,e2,e3,e4,e5,e6,e7⟩:=acK (w:=w) (htt t i hi) hx hy hc
    exact⟨⟨_,(binOp_eql e1 e4 e5 e6 e7).2,by simp only [VR,qR]⟩,e2,e3⟩
   ·simp at h
theorem auJ {op:UnOp} {x v:AV} {u:Value} (hx:VR E w.heap x u) (h:aBL op x=some v): ∃r,(Op.unary op u).run P w= .ok r w∧VR E w.heap v r:=by
 unfold aBL at h
 split at h
 ·simp at h; subst h
  simp only [VR] at hx; subst hx
  exact⟨_,rfl,by simp only [VR,qR]⟩
 ·simp at h; subst h
  simp only [VR] at hx; subst hx
  exact⟨_,rfl,by simp only [VR,Pg,SE.den]⟩
 ·simp at h
end
end Go.As
end
section
namespace Go.As
section
variable {P:Program} {E:En} {w:World}
theorem kJ [Glob] {H:Hp} {w':World} (r:bG E H w) {cs:List AV} {us:List Value} (arr:Array Value) (lo hi:Nat) (e:TypeId) (hv:bJ E w.heap cs us) (h1: ∀u∈us,u.oneCell'=true)
 (ha: ∀(i:Nat) (u:Value),us[i]?=some u→arr[i]?=some u) (hf: ∀o:Nat,lo≤o→o < hi→arr.size≤o) (hw:w'.heap=w.heap.push (.cells arr e (lo,hi))) (al:Alike w w') :
 Stp E H w (E.ext H.fresh (w.heap.size,0) arr.size) (H.new (.cells cs e)) w'∧bG (E.ext H.fresh (w.heap.size,0) arr.size) (H.new (.cells cs e)) w':=by
 refine FM r _ _ _ hw al ?_
 have k:=MJ r (w.heap.size,0) arr.size (.cells arr e (lo,hi))
 rw [← hw] at k
 have hlen:=hv.length
 simp only [OR,En.ext_θ_new,En.ext_κ_new]
 refine⟨arr,lo,hi,us,by rw [hw]; simp,bJ.keep k _ _ hv,fun i u hu=>by rw [Nat.zero_add]; exact ha i u hu,?_,by omega,hf,h1⟩
 rw [← hlen]
 rcases Nat.lt_or_ge arr.size us.length with hh | hh
 ·have:=ha arr.size us[arr.size] (by simp [hh])
  simp at this
 ·exact hh
theorem Tt [Glob] {H:Hp} (_:bG E H w) (c:Nat) (h:Array Obj) (off:Nat):VR (E.ext H.fresh (w.heap.size,0) c) h (.ptr H.fresh off) (.pointer (some ⟨w.heap.size,off,none⟩)):=by
 simp only [VR,En.ext_θ_new]
 exact⟨by simp,En.jK _ _ _ _⟩
theorem YX [Glob] {tt:TT} (htt:eG P tt) {H H':Hp} (r:bG E H w) {t:Nat} {p v:AV} {u x:Value} (hp:VR E w.heap p u) (hx:VR E w.heap v x) (h:Ui tt t p v H=some H') :
 ∃w',(Instr.storeAt t u x).run P w= .ok () w'∧Stp E H w E H' w'∧bG E H' w':=by
 unfold Ui at h
 split at h
 ·simp at h
 ·rename_i i hi
  split at h
  ·rename_i hc
   simp only [Bool.and_eq_true,decide_eq_true_eq] at hc
   split at h
   ·split at h
    ·rename_i id off cs e hl
     split at h
     ·rename_i cs' hs
      simp at h
      subst h
      simp only [VR] at hp
      obtain⟨rfl,_⟩:=hp
      have hcv:=hx.cells hc.2
      have hlen:x.cells.size=i.size:=by have:=hcv.length; simp only [Array.length_toList] at this; omega
      obtain⟨w',h1,h2,h3⟩:=oP (P:=P) r hl hs hcv (hcv.ones hc.2)
      refine⟨w',?_,h2,h3⟩
      simp [Instr.storeAt,Instr.sureAddr,storeVar,dX (htt t i hi),hlen,h1]
     ·simp at h
    ·simp at h
   ·simp at h
  ·simp at h
theorem foldl_set: ∀(vs:List Value) (off k:Nat) (arr:Array Value),off+k+vs.length≤arr.size→
 ((vs.zipIdx k).foldl (fun cs p=>cs.setIfInBounds (off+p.2) p.1) arr).size=arr.size∧
 ∀i,((vs.zipIdx k).foldl (fun cs p=>cs.setIfInBounds (off+p.2) p.1) arr)[i]?=if off+k≤i∧i < off+k+vs.length then vs[i - (off+k)]? else arr[i]?
 | [],off,k,arr,_=> ⟨rfl,fun i=>by rw [if_neg (by simp)]; rfl⟩
 | v :: vs,off,k,arr,h=>by
   simp only [List.zipIdx_cons,List.foldl_cons]
   obtain⟨h1,h2⟩:=foldl_set vs off (k+1) (arr.setIfInBounds (off+k) v) (by simp at h ⊢; omega)
   refine⟨by rw [h1]; simp,fun i=>?_⟩
   rw [h2 i]
   simp only [List.length_cons] at h ⊢
   by_cases hi:off+k=i
   ·rw [if_neg (by omega),if_pos (by omega)]
    subst hi
    have hlt:off+k < arr.size:=by omega
    simp [hlt]
   ·by_cases hj:off+(k+1)≤i∧i < off+(k+1)+vs.length
    ·rw [if_pos hj,if_pos (by omega),show i - (off+k)=(i - (off+(k+1)))+1 from by omega]
     simp
    ·rw [if_neg hj,if_neg (by omega),Array.getElem?_setIfInBounds_ne hi]
def Ag (E:En) (h:Array Obj):List (Nat×AV)→List (Nat×Value)→Prop
 | [],ps=>ps= []
 | (i,v) :: xs,ps=> ∃x r,ps=(i,x) :: r∧VR E h v x∧Ag E h xs r
theorem uX {place:Nat→Option (Nat×Nat)} {h:Array Obj}: ∀{parts:List (Nat×AV)} {cs cs':List AV} {us:Array Value} {ps:List (Nat×Value)},
 zL place cs parts=some cs'→bJ E h cs us.toList→Ag E h parts ps→(∀u∈us.toList,u.oneCell'=true)→
 ∃us':Array Value,Instr.fill place us ps=some us'∧bJ E h cs' us'.toList∧∀u∈us'.toList,u.oneCell'=true
 | [],cs,cs',us,ps,h1,h2,h3,h4=>by
   simp only [Ag] at h3
   subst h3
   simp [zL] at h1
   subst h1
   exact⟨us,rfl,h2,h4⟩
 | (i,v) :: parts,cs,cs',us,ps,h1,h2,h3,h4=>by
  simp only [Ag] at h3
  obtain⟨x,ps',rfl,hx,hb⟩:=h3
  simp only [zL] at h1
  split at h1
  ·simp at h1
  ·rename_i off size hp
   split at h1
   ·rename_i hc
    simp only [Bool.and_eq_true,decide_eq_true_eq] at hc
    split at h1
    ·rename_i cs2 hs
     have hcv:=hx.cells hc.2
     have hlen:=hcv.length
     simp only [Array.length_toList] at hlen
     obtain⟨e1,e2,us',e3,e4⟩:=Cj hs h2 hcv
     have hul:=h2.length
     simp only [Array.length_toList] at hul
     have hfold:=foldl_set x.cells.toList off 0 us (by simp; omega)
     have heq:(x.cells.zipIdx.foldl (fun cs (c,j)=>cs.setIfInBounds (off+j) c) us).toList=us':=by
      apply List.ext_getElem?
      intro k
      rw [e4 k]
      have h5:=hfold.2 k
      simp only [Nat.add_zero,Array.length_toList] at h5
      rw [Array.getElem?_toList,← Array.foldl_toList,Array.toList_zipIdx]
      rw [h5]
      simp only [Array.length_toList,Array.getElem?_toList]
     have h6: ∀u∈(x.cells.zipIdx.foldl (fun cs (c,j)=>cs.setIfInBounds (off+j) c) us).toList,u.oneCell'=true:=by
      rw [heq]
      intro u hu
      rw [List.mem_iff_getElem?] at hu
      obtain⟨k,hk⟩:=hu
      rw [e4 k] at hk
      split at hk
      ·exact hcv.ones hc.2 u (List.mem_of_getElem? hk)
      ·exact h4 u (List.mem_of_getElem? hk)
     obtain⟨us2,g1,g2,g3⟩:=uX (us:=x.cells.zipIdx.foldl (fun cs (c,j)=>cs.setIfInBounds (off+j) c) us) h1 (by rw [heq]; exact e3) hb h6
     refine⟨us2,?_,g2,g3⟩
     simp only [Instr.fill,hp]
     rw [if_neg]
     ·exact g1
     ·simp only [Bool.or_eq_true,decide_eq_true_eq,not_or]
      constructor
      ·omega
      ·omega
    ·simp at h1
   ·simp at h1
theorem EG {s:St} {a:Act} (sr:SR E w.heap s.slots a): ∀{xs:List (Nat×Operand)} {ps:List (Nat×AV)},Di s xs=some ps→Ag E w.heap ps (xs.map fun p=>(p.1,a.eval p.2))
 | [],ps,h=>by simp [Di] at h; subst h; simp [Ag]
 | (i,x) :: xs,ps,h=>by
   simp only [Di] at h
   split at h
   ·simp at h
   ·rename_i b hb
    split at h
    ·simp at h
    ·rename_i bs hbs
     simp at h
     subst h
     simp only [List.map_cons,Ag]
     exact⟨_,_,rfl,jI sr hb,EG sr hbs⟩
theorem dB {α:Type}: ∀(l:List α) (i:Nat),gI l i=l[i]?
 | [],i=>by cases i <;> rfl
 | x :: xs,0=>rfl
 | x :: xs,i+1=>by simp [gI,dB xs i]
theorem Md {α β:Type} {f:α→Option β}: ∀{l:List α} {r:List β},l.mapM f=some r→∀i:Nat,r[i]?=(l[i]?).bind f
 | [],r,h,i=>by simp at h; subst h; simp
 | x :: xs,r,h,i=>by
   simp only [List.mapM_cons,Option.bind_eq_bind,Option.bind_eq_some_iff] at h
   obtain⟨y,h1,ys,h2,h3⟩:=h
   simp only [pure,Option.some.injEq] at h3
   subst h3
   cases i with
   | zero=>simp [h1]
   | succ i=>simpa using Md h2 i
theorem abG {α β:Type} {f:α→Option β}: ∀{l:List α} {r:List β},r.length=l.length→(∀i:Nat,r[i]?=(l[i]?).bind f)→l.mapM f=some r
 | [],r,h,_=>by simp at h; subst h; simp
 | x :: xs,[],h,_=>by simp at h
 | x :: xs,y :: ys,h,h2=>by
   have h0:=h2 0
   simp at h0
   have ih:=abG (l:=xs) (r:=ys) (by simpa using h) (fun i=>by simpa using h2 (i+1))
   simp [List.mapM_cons,h0.symm,ih]
theorem mapM_length {α β:Type} {f:α→Option β}: ∀{l:List α} {r:List β},l.mapM f=some r→r.length=l.length
 | [],r,h=>by simp at h; subst h; simp
 | x :: xs,r,h=>by
   simp only [List.mapM_cons,Option.bind_eq_bind,Option.bind_eq_some_iff] at h
   obtain⟨y,h1,ys,h2,h3⟩:=h
   simp only [pure,Option.some.injEq] at h3
   subst h3
   simp [mapM_length h2]
theorem Ze {tt:TT} (htt:eG P tt) {t:Nat} {parts:List (Nat×AV)} {ps:Array (Nat×Value)} {v:AV} (hp:Ag E w.heap parts ps.toList) (h:UA tt t parts=some v) :
 ∃x,(Instr.build t ps).run P w= .ok x w∧VR E w.heap v x:=by
 unfold UA at h
 split at h
 ·rename_i i hi
  have hti:=htt t i hi
  obtain⟨inf,z,g1,g2,g3,g4,g5⟩:=CZ hti
  have hz:=fD (E:=E) (h:=w.heap) g5
  split at h
  ·rename_i fs hk
   rw [Option.map_eq_some_iff] at h
   obtain⟨cs',h1,rfl⟩:=h
   obtain⟨us',e1,e2,e3⟩:=uX h1 hz.1 hp hz.2
   obtain⟨BA,hu,hm⟩:=D7 hti hk
   have hb:P.built t ps.toList=some us':=by
    unfold Program.built
    have hm2:(BA.toList.mapM fun f=>(P.info? f.type).map fun i=>(f.offset,i.size))=some (fs.map fun x=>(x.1,x.2.2)):=by
     refine abG (by simp [mapM_length hm]) fun i=>?_
     have:=Md hm i
     rw [List.getElem?_map,this]
     cases BA.toList[i]? with
     | none=>rfl
     | some f=>simp only [Option.bind_some,Option.map_map]; rfl
    simp only [g1,hu,g4,hm2]
    rw [← e1]
    congr 1
    funext j
    simp [dB]
   exact⟨_,run_build w t ps us' hb,by simp only [VR]; exact⟨us'.toList,by simp,e2⟩⟩
  ·rename_i n e hk
   split at h
   ·rename_i s hs
    rw [Option.map_eq_some_iff] at h
    obtain⟨cs',h1,rfl⟩:=h
    obtain⟨us',e1,e2,e3⟩:=uX h1 hz.1 hp hz.2
    simp only [jU,Option.map_eq_some_iff] at hs
    obtain⟨ie,hie,rfl⟩:=hs
    obtain⟨inf',z',f1,f2,f3,f4,f5⟩:=CZ (htt e ie hie)
    have hb:P.built t ps.toList=some us':=by
     unfold Program.built
     simp only [g1,wU hti hk,g4,f1]
     rw [← e1,f2]
    exact⟨_,run_build w t ps us' hb,by simp only [VR]; exact⟨us'.toList,by simp,e2⟩⟩
   ·simp at h
  ·simp at h
 ·simp at h
theorem Jc {α:Type} (l:List α) (hl:l≠[]): ∀(n i:Nat),i < n*l.length→(repeatL l n)[i]?=l[i % l.length]?
 | 0,i,h=>by simp at h
 | n+1,i,h=>by
   have hpos:0 < l.length:=List.length_pos_iff.2 hl
   simp only [repeatL]
   rw [List.getElem?_append]
   split
   ·rename_i h2; rw [Nat.mod_eq_of_lt h2]
   ·rename_i h2
    rw [Jc l hl n (i - l.length) (by rw [Nat.add_mul] at h; omega)]
    congr 1
    rw [← Nat.mod_eq_sub_mod (by omega)]
theorem repeatL_length {α:Type} (l:List α): ∀n,(repeatL l n).length=n*l.length
 | 0=>by simp [repeatL]
 | n+1=>by simp [repeatL,repeatL_length l n,Nat.add_mul]; omega
theorem pJ {h:Array Obj} {cs:List AV} {us:List Value} (hv:bJ E h cs us): ∀n,bJ E h (repeatL cs n) (repeatL us n)
 | 0=>by simp [repeatL,bJ]
 | n+1=>hv.append (pJ hv n)
theorem pI {α:Type} {l:List α} {x:α}: ∀{n},x∈repeatL l n→x∈l
 | 0,h=>by simp [repeatL] at h
 | n+1,h=>by
   simp only [repeatL,List.mem_append] at h
   rcases h with h | h
   ·exact h
   ·exact pI h
theorem Aw (z:Array Value) (hz:z.toList≠[]) (n:Nat):((Array.range (n*z.size)).map (z[·% z.size]!)).toList=repeatL z.toList n:=by
 apply List.ext_getElem?
 intro i
 have hpos:0 < z.size:=by have:=List.length_pos_iff.2 hz; simpa using this
 by_cases hi:i < n*z.size
 ·rw [Jc _ hz n i (by simpa using hi)]
  have hm:i % z.size < z.size:=Nat.mod_lt _ hpos
  simp only [Array.getElem?_toList,Array.getElem?_map,Array.getElem?_range,hi,if_true,Option.map_some,Array.length_toList]
  rw [getElem!_pos z (i % z.size) hm,Array.getElem?_eq_getElem hm]
 ·rw [List.getElem?_eq_none (by simp; omega),List.getElem?_eq_none (by rw [repeatL_length]; simp; omega)]
theorem JE [Glob] {tt:TT} (htt:eG P tt) {H H':Hp} (r:bG E H w) {t len:Nat} {parts:List (Nat×AV)} {ps:Array (Nat×Value)} {v:AV} (hp:Ag E w.heap parts ps.toList) (h:zO tt t len parts H=some (v,H')) :
 ∃x w' E',(Instr.buildSlice t len ps).run P w= .ok x w'∧Stp E H w E' H' w'∧bG E' H' w'∧VR E' w'.heap v x:=by
 unfold zO at h
 split at h
 ·rename_i i hi
  have hti:=htt t i hi
  split at h
  ·rename_i e hk
   split at h
   ·rename_i ie hie
    have htie:=htt e ie hie
    obtain⟨inf,z,g1,g2,g3,g4,g5⟩:=CZ htie
    have hz:=fD (E:=E) (h:=w.heap) g5
    split at h
    ·rename_i hb
     split at h
     ·rename_i cs h1
      simp only [Option.some.injEq,Prod.mk.injEq] at h
      obtain⟨rfl,rfl⟩:=h
      have hsz:len*ie.size≤2 ^ 24:=by
       have:len*ie.size≤1000*1000:=Nat.mul_le_mul hb.1 hb.2.1
       omega
      have hzl:z.cells.size=ie.size:=by have:=hz.1.length; simp only [Array.length_toList] at this; omega
      have key: ∃us':Array Value,Instr.fill (fun i=>some (i*inf.size,inf.size)) ((Array.range (len*inf.size)).map ((if len*inf.size=0 then #[] else z.cells)[·% (if len*inf.size=0 then #[] else z.cells).size]!)) ps.toList=some us'∧bJ E w.heap cs us'.toList∧∀u∈us'.toList,u.oneCell'=true:=by
       rw [g2]
       by_cases h0:len*ie.size=0
       ·rw [if_pos h0,h0]
        have hrep:repeatL ie.zero len= []:=by
         apply List.eq_nil_of_length_eq_zero
         rw [repeatL_length,hb.2.2]
         exact h0
        refine uX h1 ?_ hp ?_
        ·rw [hrep]; simp [bJ]
        ·simp
       ·rw [if_neg h0]
        have hne:z.cells.toList≠[]:=by
         intro hx
         have hx':z.cells.size=0:=by have:=congrArg List.length hx; simpa using this
         rw [hzl] at hx'
         simp [hx'] at h0
        have hzz:=Aw z.cells hne len
        rw [hzl] at hzz
        refine uX h1 ?_ hp ?_
        ·rw [hzl,hzz]; exact pJ hz.1 len
        ·rw [hzl,hzz]; intro u hu; exact hz.2 u (pI hu)
      obtain⟨us',e1,e2,e3⟩:=key
      refine⟨.slice (some ⟨w.heap.size,0,none⟩) len len,{ w with heap:=w.heap.push (.cells us' e) },E.ext H.fresh (w.heap.size,0) us'.size,?_,?_⟩
      ·by_cases h0:len*inf.size=0
       ·rw [if_pos h0] at e1
        rw [h0] at e1
        have e0: ∀f:Nat→Value,(Array.range 0).map f= #[]:=by intro f; simp
        rw [e0] at e1
        simp [Instr.buildSlice,run_underlying (fK hti hk),sizeOf,typeInfo,g1,h0,e0,e1,newRow]
       ·rw [if_neg h0] at e1
        have h24: ¬(2 ^ 24 < len*inf.size):=by rw [g2]; omega
        simp only [Instr.buildSlice,Sem.run_bind,run_underlying (fK hti hk),Result.andThen_ok,sizeOf,typeInfo,zeroValue,run_program,g1,g4,Sem.run_pure,newRow,gt_iff_lt,h24,h0,if_false,Sem.run_ite]
        rw [e1]
        rfl
      ·obtain⟨s1,s2⟩:=kJ r us' 0 0 e e2 e3 (fun i u hu=>by rw [← Array.getElem?_toList]; exact hu) (by omega) (w':={ w with heap:=w.heap.push (.cells us' e) }) rfl ⟨rfl,rfl,rfl⟩
       refine⟨s1,s2,?_⟩
       simp only [VR]
       exact⟨En.jK _ _ _ _,⟨w.heap.size,0,none⟩,len,rfl,Nat.le_refl _,by simp [fJ,En.ext_θ_new]⟩
     ·simp at h
    ·simp at h
   ·simp at h
  ·simp at h
 ·simp at h
theorem QI {E:En} {h:Array Obj} {v:AV} {u:Value} {n:Int} (hv:VR E h v u) (hl:mY v=some n): ∃k,u= .int k n:=by
 unfold mY at hl
 split at hl
 ·simp only [Option.some.injEq] at hl
  subst hl
  simp only [VR,SE.den] at hv
  exact⟨_,hv⟩
 ·simp at hl
theorem BG [Glob] {tt:TT} (htt:eG P tt) {H H':Hp} (r:bG E H w) {t:Nat} {l c:AV} {lu cu:Value} {v:AV} (hl:VR E w.heap l lu) (hc:VR E w.heap c cu) (h:wB tt t l c H=some (v,H')) :
 ∃x w' E',(Instr.makeSlice t lu cu).run P w= .ok x w'∧Stp E H w E' H' w'∧bG E' H' w'∧VR E' w'.heap v x:=by
 unfold wB at h
 split at h
 ·rename_i n hln
  split at h
  ·rename_i m hcm
   obtain⟨k1,rfl⟩:=QI hl hln
   obtain⟨k2,rfl⟩:=QI hc hcm
   split at h
   ·rename_i i hi
    have hti:=htt t i hi
    split at h
    ·rename_i e hk
     split at h
     ·rename_i ie hie
      have htie:=htt e ie hie
      obtain⟨inf,z,g1,g2,g3,g4,g5⟩:=CZ htie
      have hz:=fD (E:=E) (h:=w.heap) g5
      split at h
      ·rename_i hb
       obtain⟨b1,b2,b3,b4,b5⟩:=hb
       simp only [Option.some.injEq,Prod.mk.injEq] at h
       obtain⟨rfl,rfl⟩:=h
       have hzl:z.cells.size=ie.size:=by have:=hz.1.length; simp only [Array.length_toList] at this; omega
       have wn:IntKind.i64.wrap (Int.ofNat n)=Int.ofNat n:=by
        rw [← oM]; simp only [Ai]; rw [if_pos (by constructor <;> simp <;> omega)]
       have wm:IntKind.i64.wrap (Int.ofNat m)=Int.ofNat m:=by
        rw [← oM]; simp only [Ai]; rw [if_pos (by constructor <;> simp <;> omega)]
       have hbm:inf.bytes*m≤1000000000:=by rw [g3]; exact Nat.mul_le_mul b4 b2
       have ai: ∀(k:IntKind) (x:Int) (w:World),(asInt (Value.int k x)).run P w= .ok x w:=fun _ _ _=>rfl
       have key: ∃us':Array Value,((Array.range (m*inf.size)).map ((if m*inf.size=0 then #[] else z.cells)[·% (if m*inf.size=0 then #[] else z.cells).size]!))=us'∧bJ E w.heap (repeatL ie.zero m) us'.toList∧∀u∈us'.toList,u.oneCell'=true:=by
        rw [g2]
        by_cases h0:m*ie.size=0
        ·rw [if_pos h0,h0]
         have hrep:repeatL ie.zero m= []:=by
          apply List.eq_nil_of_length_eq_zero
          rw [repeatL_length,b5]
          exact h0
         refine⟨_,rfl,?_,?_⟩
         ·rw [hrep]; simp [bJ]
         ·simp
        ·rw [if_neg h0]
         have hne:z.cells.toList≠[]:=by
          intro hx
          have hx':z.cells.size=0:=by have:=congrArg List.length hx; simpa using this
          rw [hzl] at hx'
          simp [hx'] at h0
         have hzz:=Aw z.cells hne m
         rw [hzl] at hzz
         refine⟨_,rfl,?_,?_⟩
         ·rw [hzl,hzz]; exact pJ hz.1 m
         ·rw [hzl,hzz]; intro u hu; exact hz.2 u (pI hu)
       obtain⟨us',e1,e2,e3⟩:=key
       refine⟨.slice (some ⟨w.heap.size,0,none⟩) n m,{ w with heap:=w.heap.push (.cells us' e) },E.ext H.fresh (w.heap.size,0) us'.size,?_,?_⟩
       ·have t1: ¬(Int.ofNat m < 0):=by simp
        have t2: ¬((inf.bytes:Int)*Int.ofNat m > 2 ^ 48):=by
         have h1:((inf.bytes*m:Nat):Int)≤((1000000000:Nat):Int):=Int.ofNat_le.2 hbm
         rw [Int.natCast_mul] at h1
         show ¬((inf.bytes:Int)*(m:Int) > 2 ^ 48)
         omega
        have t3: ¬(Int.ofNat n < 0):=by simp
        have t4: ¬(Int.ofNat n > Int.ofNat m):=by simp; omega
        have t5:(askRoom (m*inf.bytes)).run P w= .ok () w:=by
         have: ¬(m*inf.bytes > roomBytes):=by
          unfold roomBytes
          rw [Nat.mul_comm]
          omega
         unfold askRoom
         rw [if_neg this]
         rfl
        have t6:(Int.ofNat m).toNat=m:=rfl
        have t7:(Int.ofNat n).toNat=n:=rfl
        by_cases h0:m*inf.size=0
        ·rw [if_pos h0] at e1
         rw [h0] at e1
         simp only [Instr.makeSlice,Sem.run_bind,run_underlying (fK hti hk),Result.andThen_ok,ai,sizeOf,typeInfo,zeroValue,run_program,g1,g4,Sem.run_pure,newRow,Sem.run_ite,wn,wm,t1,t2,t3,t4,t6,t7,h0,decide_false,Bool.or_false,Bool.false_eq_true,if_false,if_true]
         rw [t5,Result.andThen_ok,e1]
         rfl
        ·rw [if_neg h0] at e1
         simp only [Instr.makeSlice,Sem.run_bind,run_underlying (fK hti hk),Result.andThen_ok,ai,sizeOf,typeInfo,zeroValue,run_program,g1,g4,Sem.run_pure,newRow,Sem.run_ite,wn,wm,t1,t2,t3,t4,t6,t7,h0,decide_false,Bool.or_false,Bool.false_eq_true,if_false]
         rw [t5,Result.andThen_ok,e1]
         rfl
       ·obtain⟨s1,s2⟩:=kJ r us' 0 0 e e2 e3 (fun i u hu=>by rw [← Array.getElem?_toList]; exact hu) (by omega) (w':={ w with heap:=w.heap.push (.cells us' e) }) rfl ⟨rfl,rfl,rfl⟩
        refine⟨s1,s2,?_⟩
        simp only [VR]
        exact⟨En.jK _ _ _ _,⟨w.heap.size,0,none⟩,m,rfl,b1,by simp [fJ,En.ext_θ_new]⟩
      ·simp at h
     ·simp at h
    ·simp at h
   ·simp at h
  ·simp at h
 ·simp at h
end
end Go.As
end
section
namespace Go.As
section
variable {P:Program} {E:En} {w:World}
theorem VA {i:TI} {t:Nat} (hti:tX P t i) {fs:List (Nat×Nat×Nat)} (hk:i.kind= .struct fs) {f off ft sz:Nat} (h:gI fs f=some (off,ft,sz)) :
 ∃(BA:Array Field) (fd:Field) (inf:TypeInfo),P.underlying t=some (.struct BA)∧BA[f]?=some fd∧fd.offset=off∧fd.type=ft∧P.info? ft=some inf∧inf.size=sz:=by
 obtain⟨BA,hu,hm⟩:=D7 hti hk
 have h1:=Md hm f
 rw [← dB,h,Array.getElem?_toList] at h1
 cases hf:BA[f]? with
 | none=>rw [hf] at h1; simp at h1
 | some fd=>
   rw [hf] at h1
   simp only [Option.bind_some] at h1
   cases hi:P.info? fd.type with
   | none=>rw [hi] at h1; simp at h1
   | some inf=>
     rw [hi] at h1
     simp at h1
     obtain⟨rfl,rfl,rfl⟩:=h1
     exact⟨BA,fd,inf,hu,hf,rfl,rfl,hi,rfl⟩
theorem PL {x v:AV} {u:Value} {off:Nat} (hx:VR E w.heap x u) (h:abE off x=some v) :
 ∃b o,u= .pointer (some ⟨b,o,none⟩)∧VR E w.heap v (.pointer (some ⟨b,o+off,none⟩)):=by
 unfold abE at h
 cases x <;> simp only [Option.some.injEq,reduceCtorEq,Option.map_eq_some_iff] at h
 case ptr id o=>
  subst h
  simp only [VR] at hx ⊢
  obtain⟨rfl,hid⟩:=hx
  exact⟨_,_,rfl,by rw [Nat.add_assoc],hid⟩
 case pY id es i o=>
  subst h
  simp only [VR] at hx ⊢
  obtain⟨hid,k,h1,rfl⟩:=hx
  exact⟨_,_,rfl,hid,k,h1,by rw [Nat.add_assoc,Nat.add_assoc]⟩
 case qU cs=>
  obtain⟨l,h1,rfl⟩:=h
  simp only [VR] at hx ⊢
  obtain⟨b,o,us,rfl,h2,h3,h4,h5⟩:=hx
  exact⟨b,o,rfl,b,o+off,us.drop off,rfl,h2,(h3.fE h1).1,h4.drop off,fun u hu=>h5 u (List.mem_of_mem_drop hu)⟩
theorem ND {tt:TT} (htt:eG P tt) {t f:Nat} {x v:AV} {u:Value} (hx:VR E w.heap x u) (h:BI tt t x f=some v) :
 ∃r,(Instr.fieldAt t u f).run P w= .ok r w∧VR E w.heap v r:=by
 unfold BI at h
 split at h
 ·rename_i i hi
  split at h
  ·rename_i fs hk
   split at h
   ·rename_i off ft sz hn
    obtain⟨BA,fd,inf,hu,hf,h1,h2,h3,h4⟩:=VA (htt t i hi) hk hn
    split at h
    ·simp at h
    ·rename_i hsz
     obtain⟨b,o,rfl,hv⟩:=PL hx h
     refine⟨_,?_,hv⟩
     have hne: ¬inf.size=0:=by rw [h4]; exact hsz
     simp [Instr.fieldAt,run_underlying hu,hf,Instr.sureAddr,fieldPlace,sizeOf,typeInfo,h2,h3,hne,fH,h1]
   ·simp at h
  ·simp at h
 ·simp at h
theorem abB {i:TI} {t:Nat} (hti:tX P t i) {cs l:List AV} {us:List Value} {off:Nat} {v:AV} (hv:bJ E w.heap cs us) (hd:fE off cs=some l)
 (h:partOf i l=some v) :
 ∃r,(part t us.toArray off).run P w= .ok r w∧VR E w.heap v r:=by
 obtain⟨h1,h2,h3⟩:=hv.fE hd
 have hlen:=hv.length
 unfold partOf at h
 split at h
 ·rename_i hagg
  rw [Option.map_eq_some_iff] at h
  obtain⟨l',h4,rfl⟩:=h
  obtain⟨h5,h6⟩:=h1.jT h4
  refine⟨.agg (us.toArray.extract off (off+i.size)),?_,?_⟩
  ·simp [part,uD hti,hagg,dX hti]
  ·simp only [VR]
   refine⟨(us.drop off).take i.size,?_,h5⟩
   simp
 ·rename_i hagg
  split at h
  ·rename_i x l'
   simp at h
   subst h
   rw [aW] at h1
   obtain⟨u,vs,he,h5,_⟩:=h1
   refine⟨u,?_,h5⟩
   have hg:us[off]?=some u:=by
    have:=congrArg (·[0]?) he
    simpa using this
   simp [part,uD hti,hagg,hg]
  ·simp at h
theorem Y7 {tt:TT} (htt:eG P tt) {t f:Nat} {x v:AV} {u:Value} (hx:VR E w.heap x u) (h:Us tt t x f=some v) :
 ∃r,(Instr.field t u f).run P w= .ok r w∧VR E w.heap v r:=by
 unfold Us at h
 split at h
 ·rename_i i hi
  split at h
  ·rename_i fs hk
   split at h
   ·rename_i off ft sz hn
    obtain⟨BA,fd,inf,hu,hf,h1,h2,h3,h4⟩:=VA (htt t i hi) hk hn
    split at h
    ·rename_i fi cs hfi
     split at h
     ·rename_i l hl
      simp only [VR] at hx
      obtain⟨us,rfl,hv⟩:=hx
      obtain⟨r,e1,e2⟩:=abB (w:=w) (htt ft fi hfi) hv hl h
      refine⟨r,?_,e2⟩
      simp [Instr.field,run_underlying hu,hf,asAgg,h1,h2,e1]
     ·simp at h
    ·simp at h
   ·simp at h
  ·simp at h
 ·simp at h
theorem Ik {x:AV} {u:Value} {n:Int} (hx:VR E w.heap x u) (h:mY x=some n): ∃k,u= .int k n:=by
 cases x <;> simp [mY] at h
 rename_i k e
 cases e <;> simp at h
 subst h
 simp only [VR,SE.den] at hx
 exact⟨k,hx⟩
theorem uY {tt:TT} (htt:eG P tt) {t:Nat} {x ix v:AV} {u ui:Value} (hx:VR E w.heap x u) (hix:VR E w.heap ix ui) (h:sF tt t x ix=some v) :
 ∃r,(Instr.indexAt t u ui).run P w= .ok r w∧VR E w.heap v r:=by
 unfold sF at h
 split at h
 ·rename_i i hi
  obtain⟨k,rfl⟩:=Ik hix hi
  split at h
  ·rename_i ti hti
   have htok:=htt t ti hti
   split at h
   ·rename_i n e hk
    split at h
    ·rename_i hlt
     split at h
     ·rename_i s hs
      simp only [jU,Option.map_eq_some_iff] at hs
      obtain⟨ie,hie,rfl⟩:=hs
      obtain⟨b,o,rfl,hv⟩:=PL hx h
      refine⟨_,?_,hv⟩
      have hu:=wU htok hk
      simp [Instr.indexAt,asIntOf,run_underlying hu,Instr.sureAddr,dX (htt e ie hie),hlt,fH]
     ·simp at h
    ·simp at h
   ·rename_i e hk
    have hu:=fK htok hk
    split at h
    ·rename_i s hs
     simp only [jU,Option.map_eq_some_iff] at hs
     obtain⟨ie,hie,rfl⟩:=hs
     split at h
     ·rename_i id o len c
      split at h
      ·rename_i hlt
       simp at h
       subst h
       simp only [VR] at hx
       obtain⟨hid,a,cap,rfl,hcap,hc⟩:=hx
       have ha:a=⟨(E.θ id).1,(E.θ id).2+o,none⟩:=by
        cases c with
        | exact c=>
          simp only [fJ] at hc
          rcases hc.2 with hc | hc
          ·exact hc
          ·omega
        | rest es=>
          simp only [fJ] at hc
          rcases hc with hc | hc
          ·exact hc.1
          ·omega
       subst ha
       refine⟨.pointer (some ⟨(E.θ id).1,(E.θ id).2+o+i*ie.size,none⟩),?_,by simp only [VR]; exact⟨by rw [Nat.add_assoc],hid⟩⟩
       simp [Instr.indexAt,asIntOf,run_underlying hu,dX (htt e ie hie),hlt,fH]
      ·simp at h
     ·rename_i cs n full
      split at h
      ·rename_i hlt
       rw [Option.map_eq_some_iff] at h
       obtain⟨l,h1,rfl⟩:=h
       simp only [VR] at hx
       obtain⟨b,o,cap,us,rfl,h2,h3,h4,h5,h6,h7⟩:=hx
       refine⟨.pointer (some ⟨b,o+i*ie.size,none⟩),?_,?_⟩
       ·simp [Instr.indexAt,asIntOf,run_underlying hu,dX (htt e ie hie),hlt,fH]
       ·simp only [VR]
        exact⟨b,_,us.drop (i*ie.size),rfl,h4,(h5.fE h1).1,h6.drop _,fun u hu=>h7 u (List.mem_of_mem_drop hu)⟩
      ·simp at h
     ·simp at h
    ·simp at h
   ·simp at h
  ·simp at h
 ·simp at h
theorem Ld (s:List Nat) (i:Nat):(bZ s)[i]?=(s[i]?).map UInt8.ofNat:=by
 have h1:(bZ s)[i]?=(bZ s).data[i]?:=rfl
 rw [h1]
 simp [bZ]
theorem EH {tt:TT} (htt:eG P tt) {t:Nat} {x ix v:AV} {u ui:Value} (hx:VR E w.heap x u) (hix:VR E w.heap ix ui) (h:Gj tt t x ix=some v) :
 ∃r,(Instr.index t u ui).run P w= .ok r w∧VR E w.heap v r:=by
 unfold Gj at h
 split at h
 ·rename_i i hi
  obtain⟨k,rfl⟩:=Ik hix hi
  split at h
  ·rename_i ti hti
   have htok:=htt t ti hti
   split at h
   ·rename_i s hk
    rw [Option.map_eq_some_iff] at h
    obtain⟨b,hb,rfl⟩:=h
    simp only [VR] at hx
    obtain⟨rfl,hlt⟩:=hx
    rw [dB] at hb
    have hg:(bZ s)[i]?=some (UInt8.ofNat b):=by rw [Ld,hb]; rfl
    have h256:=hlt b (List.mem_of_getElem? hb)
    refine⟨_,by simp [Instr.index,asIntOf,run_underlying (gK htok hk),hg]; rfl,?_⟩
    simp only [VR,SE.den]
    congr 1
    simp
    omega
   ·rename_i n e cs hk
    split at h
    ·rename_i hlt
     split at h
     ·rename_i ie hie
      split at h
      ·rename_i l hl
       simp only [VR] at hx
       obtain⟨us,rfl,hv⟩:=hx
       obtain⟨r,e1,e2⟩:=abB (w:=w) (htt e ie hie) hv hl h
       refine⟨r,?_,e2⟩
       simp [Instr.index,asIntOf,run_underlying (wU htok hk),hlt,dX (htt e ie hie),e1]
      ·simp at h
     ·simp at h
    ·simp at h
   ·simp at h
  ·simp at h
 ·simp at h
end
end Go.As
end
section
namespace Go.As
section
variable {P:Program} {E:En} {w:World}
def iU (E:En) (h:Array Obj):Option AV→Option Value→Prop
 | none,o=>o=none
 | some x,o=> ∃u,o=some u∧VR E h x u
theorem fQ {s:St} {a:Act} (sr:SR E w.heap s.slots a) {x:Option Operand} {v:Option AV} (h:Rj s x=some v):iU E w.heap v (x.map a.eval):=by
 cases x with
 | none=>simp [Rj] at h; subst h; simp [iU]
 | some x=>
   simp only [Rj,Option.map_eq_some_iff] at h
   obtain⟨b,h1,rfl⟩:=h
   exact⟨_,rfl,jI sr h1⟩
theorem GL {x:AV} {u:Value} {d y k:Nat} (hx:VR E w.heap x u) (h:bnd (some x) d y=some k) {y':Nat} (hy:y≤y') (code:BoundsCode) :
 (Instr.sliceBound u y' code).run P w= .ok k w∧k≤y:=by
 unfold bnd at h
 simp only at h
 split at h
 ·rename_i i hi
  obtain⟨kk,rfl⟩:=Ik hx hi
  split at h
  ·rename_i hle
   simp at h
   subst h
   refine⟨?_,hle⟩
   have:((i:Int)≤(y':Int)):=by omega
   simp [Instr.sliceBound,asIntOf]
   omega
  ·simp at h
 ·simp at h
theorem GN {d y k:Nat} (h:bnd none d y=some k):k=d∧d≤y:=by
 unfold bnd at h
 simp only at h
 split at h
 ·simp at h; exact⟨h.symm,by assumption⟩
 ·simp at h
theorem iD {isSlice:Bool} {len cap m0 h0:Nat} {lo hi mx:Option AV} {lo' hi' mx':Option Value} (hlo:iU E w.heap lo lo') (hhi:iU E w.heap hi hi') (hmx:iU E w.heap mx mx')
 (hmh:mx.isSome=true→hi.isSome=true) {m h l d:Nat}
 (hm:(mx=none∧m=cap∧m0≤cap)∨(∃x,mx=some x∧bnd mx d m0=some m∧m0≤cap))
 (hh:bnd hi len h0=some h) (hh0:(mx=none→h0≤cap)∧(mx≠none→h0=m)) (hl:bnd lo 0 h=some l) :
 (Instr.sliceBounds isSlice len cap lo' hi' mx').run P w= .ok (l,h,m) w∧l≤h:=by
 have key: ∀(c:BoundsCode) (v:AV) (u:Value),lo=some v→VR E w.heap v u→(Instr.sliceBound u h c).run P w= .ok l w∧l≤h:=by
  intro c v u hv hu
  subst hv
  exact GL hu hl (Nat.le_refl _) c
 have aAv:lo=none→l=0:=fun hv=>by subst hv; exact (GN hl).1
 unfold Instr.sliceBounds
 rcases hm with ⟨rfl,rfl,hm0⟩ | ⟨x,rfl,hm1,hm0⟩
 ·simp only [iU] at hmx
  subst hmx
  have hb:=hh0.1 rfl
  cases hi with
  | none=>
    simp only [iU] at hhi
    subst hhi
    obtain⟨rfl,_⟩:=GN hh
    cases lo with
    | none=>
      simp only [iU] at hlo
      subst hlo
      obtain rfl:=aAv rfl
      simp
    | some v=>
      obtain⟨u,rfl,hu⟩:=hlo
      obtain⟨k1,k2⟩:=key .sliceB v u rfl hu
      simp [k1,k2]
  | some y=>
    obtain⟨uy,rfl,huy⟩:=hhi
    have h1:=fun c=>(GL (P:=P) huy hh hb c).1
    cases lo with
    | none=>
      simp only [iU] at hlo
      subst hlo
      obtain rfl:=aAv rfl
      simp [h1]
    | some v=>
      obtain⟨u,rfl,hu⟩:=hlo
      obtain⟨k1,k2⟩:=key .sliceB v u rfl hu
      simp [h1,k1,k2]
 ·obtain⟨ux,rfl,hux⟩:=hmx
  have h2:=fun c=>(GL (P:=P) hux hm1 hm0 c).1
  have hb:=hh0.2 (by simp)
  subst hb
  cases hi with
  | none=>simp at hmh
  | some y=>
    obtain⟨uy,rfl,huy⟩:=hhi
    have h1:=fun c=>(GL (P:=P) huy hh (Nat.le_refl _) c).1
    cases lo with
    | none=>
      simp only [iU] at hlo
      subst hlo
      obtain rfl:=aAv rfl
      simp [h1,h2]
    | some v=>
      obtain⟨u,rfl,hu⟩:=hlo
      obtain⟨k1,k2⟩:=key .slice3C v u rfl hu
      simp [h1,h2,k1,k2]
theorem yM (s:List Nat) (l h:Nat):(bZ s).extract l h=bZ ((s.take h).drop l):=by
 apply ByteArray.ext
 apply Array.ext'
 rw [Lib.extract_data]
 simp [bZ,List.map_take,List.map_drop,List.drop_take]
theorem vG {id o len cap l h m es:Nat} {a:Addr} {c c':Xv} (hc:fJ E id o len a cap c) (hlen:len≤cap) (hlh:l≤h) (hhm:h≤m) (hmc:m≤cap)
 (hcc:(∃k,c= .exact k∧c'= .exact (m - l))∨(c= .rest es∧c'= .exact (m - l))∨(c= .rest es∧c'= .rest es∧m=cap)) (s:Nat) (hes:c'= .rest es→es=s) :
 fJ E id (o+l*s) (h - l) (if m=l then a else a.add (l*s)) (m - l) c':=by
 rcases hcc with ⟨k,rfl,rfl⟩ | ⟨rfl,rfl⟩ | ⟨rfl,rfl,rfl⟩
 ·simp only [fJ] at *
  refine⟨trivial,?_⟩
  by_cases hml:m=l
  ·right; omega
  ·left
   rw [if_neg hml]
   rcases hc.2 with ha | ha
   ·rw [ha,fH,Nat.add_assoc]
   ·omega
 ·simp only [fJ] at *
  refine⟨trivial,?_⟩
  by_cases hml:m=l
  ·right; omega
  ·left
   rw [if_neg hml]
   rcases hc with ha | ha
   ·rw [ha.1,fH,Nat.add_assoc]
   ·omega
 ·simp only [fJ] at *
  obtain rfl:=hes trivial
  by_cases hml:m=l
  ·right
   rcases hc with ha | ha
   ·subst hml; exact⟨by omega,by omega,ha.2⟩
   ·subst hml; refine⟨by omega,by omega,?_⟩; rw [ha.1,Nat.zero_mul,Nat.add_zero]; exact ha.2.2
  ·left
   rw [if_neg hml]
   rcases hc with ha | ha
   ·refine⟨by rw [ha.1,fH,Nat.add_assoc],?_⟩
    rw [← ha.2,Nat.add_assoc,← Nat.add_mul]
    congr 2
    omega
   ·omega
theorem oC {x:Option AV} {d y k:Nat} (h:bnd x d y=some k):k≤y:=by
 unfold bnd at h
 split at h
 ·split at h
  ·simp at h; omega
  ·simp at h
 ·split at h
  ·split at h
   ·simp at h; omega
   ·simp at h
  ·simp at h
theorem WE [Glob] {tt:TT} (htt:eG P tt) {H:Hp} (r:bG E H w) {t:Nat} {x v:AV} {u:Value} {lo hi mx:Option AV} {lo' hi' mx':Option Value} (hx:VR E w.heap x u)
 (hlo:iU E w.heap lo lo') (hhi:iU E w.heap hi hi') (hmx:iU E w.heap mx mx') (h:Nw tt t x lo hi mx H=some v) :
 ∃r,(Instr.sliceAt t u lo' hi' mx').run P w= .ok r w∧VR E w.heap v r:=by
 unfold Nw at h
 split at h
 ·simp at h
 ·split at h
  ·simp at h
  ·rename_i ti hti
   have htok:=htt t ti hti
   split at h
   ·rename_i e hk
    have hu:=fK htok hk
    split at h
    ·simp at h
    ·rename_i s hs
     simp only [jU,Option.map_eq_some_iff] at hs
     obtain⟨ie,hie,rfl⟩:=hs
     have hsz:=dX (w:=w) (htt e ie hie)
     split at h
     ·rename_i id o len es
      split at h
      ·rename_i hes
       split at h
       ·rename_i cs ty hl
        split at h
        ·simp at h
        ·rename_i b G8
         split at h
         ·simp at h
         ·rename_i l hbl
          simp at h
          subst h
          obtain⟨hes,hpos⟩:=hes
          subst hes
          simp only [VR] at hx
          obtain⟨hid,a,cap,rfl,hlen,hc⟩:=hx
          have hlive:=(r.live id _ hl).2.1
          simp only [OR] at hlive
          obtain⟨arr,lo1,hi1,us,q1,q2,q3,q4,q5,q6,q7⟩:=hlive
          have hcap:(cs.length - o) / ie.size≤cap:=by
           simp only [fJ] at hc
           rcases hc with hc | hc
           ·have:cs.length - o≤cap*ie.size:=by omega
            exact Nat.div_le_of_le_mul (by rw [Nat.mul_comm]; exact this)
           ·have:cs.length - o=0:=by omega
            rw [this]
            simp
          obtain⟨e1,e2⟩:=iD (P:=P) (w:=w) (isSlice:=true) (len:=len) (cap:=cap) (m0:=cap) (d:=0) (m:=cap) hlo hhi hmx (by simp) (.inl ⟨rfl,rfl,Nat.le_refl _⟩) G8 ⟨fun _=>hcap,by simp⟩ hbl
          have aAI:=oC G8
          refine⟨.slice (some (if cap=l then a else a.add (l*ie.size))) (b - l) (cap - l),?_,?_⟩
          ·simp [Instr.sliceAt,run_underlying hu,Instr.slice,e1,hsz] <;> split <;> rfl
          ·simp only [VR]
           exact⟨hid,_,_,rfl,by omega,vG (es:=ie.size) hc hlen e2 (by omega) (Nat.le_refl _) (.inr (.inr ⟨rfl,rfl,rfl⟩)) _ (fun _=>rfl)⟩
       ·simp at h
      ·simp at h
     ·simp at h
   ·simp at h
theorem YZ {tt:TT} (htt:eG P tt) {t:Nat} {x v:AV} {u:Value} {lo hi mx:Option AV} {lo' hi' mx':Option Value} (hx:VR E w.heap x u)
 (hlo:iU E w.heap lo lo') (hhi:iU E w.heap hi hi') (hmx:iU E w.heap mx mx') (h:Uj tt t x lo hi mx=some v) :
 ∃r,(Instr.sliceAt t u lo' hi' mx').run P w= .ok r w∧VR E w.heap v r:=by
 unfold Uj at h
 split at h
 ·simp at h
 ·rename_i ti hti
  have htok:=htt t ti hti
  split at h
  ·rename_i hk
   have hu:=gK htok hk
   split at h
   ·rename_i s
    simp only [iU] at hmx
    subst hmx
    split at h
    ·rename_i b hb
     split at h
     ·rename_i l hl
      simp at h
      subst h
      simp only [VR] at hx
      obtain⟨rfl,hlt⟩:=hx
      obtain⟨e1,e2⟩:=iD (P:=P) (w:=w) (isSlice:=false) (len:=s.length) (cap:=s.length) (m0:=s.length) (d:=0) hlo hhi (mx:=none) (mx':=none) rfl (by simp) (.inl ⟨rfl,rfl,Nat.le_refl _⟩) hb ⟨fun _=>Nat.le_refl _,by simp⟩ hl
      refine⟨.string ((bZ s).extract l b),?_,?_⟩
      ·rw [← nH] at e1
       simp [Instr.sliceAt,run_underlying hu,Instr.slice,e1]
      ·simp only [VR,yM]
       exact⟨trivial,fun c hc=>hlt c (List.mem_of_mem_take (List.mem_of_mem_drop hc))⟩
     ·simp at h
    ·simp at h
   ·simp at h
  ·rename_i e hk
   have hu:=fK htok hk
   split at h
   ·simp at h
   ·rename_i s hs
    simp only [jU,Option.map_eq_some_iff] at hs
    obtain⟨ie,hie,rfl⟩:=hs
    have hsz:=fun w'=>dX (htt e ie hie) w'
    split at h
    ·split at h
     ·simp at h
     ·rename_i hmh
      split at h
      ·rename_i kh kl km G8 hbl hbm
       simp at h
       subst h
       simp only [VR] at hx
       subst hx
       obtain rfl:kh=0:=by have:=oC G8; omega
       obtain rfl:kl=0:=by have:=oC hbl; omega
       obtain rfl:km=0:=by have:=oC hbm; omega
       have hm:(mx=none∧0=0∧0≤0)∨(∃x,mx=some x∧bnd mx 0 0=some 0∧0≤0):=by
        cases mx with
        | none=>exact .inl ⟨rfl,rfl,Nat.le_refl _⟩
        | some y=>exact .inr ⟨y,rfl,hbm,Nat.le_refl _⟩
       obtain⟨e1,e2⟩:=iD (P:=P) (w:=w) (isSlice:=true) (len:=0) (cap:=0) (m0:=0) (d:=0) (m:=0) hlo hhi hmx (by cases mx <;> cases hi <;> simp_all) hm G8 ⟨fun _=>Nat.le_refl _,fun _=>rfl⟩ hbl
       refine⟨.slice none 0 0,?_,by simp only [VR]⟩
       simp [Instr.sliceAt,run_underlying hu,Instr.slice,e1,hsz]
      ·simp at h
    ·rename_i id o len c
     split at h
     ·simp at h
     ·rename_i hmh
      split at h
      ·simp at h
      ·rename_i m hbm
       split at h
       ·simp at h
       ·rename_i b G8
        split at h
        ·simp at h
        ·rename_i l hbl
         simp at h
         subst h
         simp only [VR] at hx
         obtain⟨hid,a,cap,rfl,hlen,hc⟩:=hx
         have hcap:cap=c:=by simp only [fJ] at hc; exact hc.1
         subst hcap
         have hm:(mx=none∧m=cap∧cap≤cap)∨(∃x,mx=some x∧bnd mx cap cap=some m∧cap≤cap):=by
          cases mx with
          | none=>exact .inl ⟨rfl,(GN hbm).1,Nat.le_refl _⟩
          | some y=>exact .inr ⟨y,rfl,hbm,Nat.le_refl _⟩
         obtain⟨e1,e2⟩:=iD (P:=P) (w:=w) (isSlice:=true) (len:=len) (cap:=cap) (m0:=cap) (d:=cap) (m:=m) hlo hhi hmx (by cases mx <;> cases hi <;> simp_all) hm G8 ⟨fun _=>oC hbm,fun _=>rfl⟩ hbl
         refine⟨.slice (some (if m=l then a else a.add (l*ie.size))) (b - l) (m - l),?_,?_⟩
         ·simp [Instr.sliceAt,run_underlying hu,Instr.slice,e1,hsz] <;> split <;> rfl
         ·simp only [VR]
          exact⟨hid,_,_,rfl,by have:=oC G8; omega,vG (es:=0) hc hlen e2 (oC G8) (oC hbm) (.inl ⟨_,rfl,rfl⟩) _ (by simp)⟩
    ·rename_i id o len es
     split at h
     ·split at h
      ·simp at h
      ·rename_i b G8
       split at h
       ·simp at h
       ·rename_i l hbl
        split at h
        ·rename_i hes
         simp at h
         subst h
         simp only [VR] at hx
         obtain⟨hid,a,cap,rfl,hlen,hc⟩:=hx
         obtain⟨e1,e2⟩:=iD (P:=P) (w:=w) (isSlice:=true) (len:=len) (cap:=cap) (m0:=cap) (d:=0) (m:=cap) hlo hhi hmx (by simp) (.inl ⟨rfl,rfl,Nat.le_refl _⟩) G8 ⟨fun _=>hlen,by simp⟩ hbl
         have aAI:=oC G8
         refine⟨.slice (some (if cap=l then a else a.add (l*ie.size))) (b - l) (cap - l),?_,?_⟩
         ·simp [Instr.sliceAt,run_underlying hu,Instr.slice,e1,hsz] <;> split <;> rfl
         ·simp only [VR]
          exact⟨hid,_,_,rfl,by omega,vG (es:=es) hc hlen e2 (by omega) (Nat.le_refl _) (.inr (.inr ⟨rfl,rfl,rfl⟩)) _ (fun _=>hes)⟩
        ·simp at h
     ·rename_i y
      split at h
      ·simp at h
      ·simp at h
      ·rename_i b0 m hbm
       split at h
       ·simp at h
       ·rename_i b G8
        split at h
        ·simp at h
        ·rename_i l hbl
         simp at h
         subst h
         simp only [VR] at hx
         obtain⟨hid,a,cap,rfl,hlen,hc⟩:=hx
         obtain⟨e1,e2⟩:=iD (P:=P) (w:=w) (isSlice:=true) (len:=len) (cap:=cap) (m0:=len) (d:=0) (m:=m) hlo hhi hmx (by simp) (.inr ⟨y,rfl,hbm,hlen⟩) G8 ⟨by simp,fun _=>rfl⟩ hbl
         have hb2:=oC G8
         have hm2:=oC hbm
         refine⟨.slice (some (if m=l then a else a.add (l*ie.size))) (b - l) (m - l),?_,?_⟩
         ·simp [Instr.sliceAt,run_underlying hu,Instr.slice,e1,hsz] <;> split <;> rfl
         ·simp only [VR]
          exact⟨hid,_,_,rfl,by omega,vG (es:=es) hc hlen e2 hb2 (by omega) (.inr (.inl ⟨rfl,rfl⟩)) _ (by simp)⟩
    ·rename_i cs n full
     split at h
     ·split at h
      ·simp at h
      ·rename_i b G8
       split at h
       ·simp at h
       ·rename_i l hbl
        split at h
        ·simp at h
        ·rename_i d hd
         split at h
         ·simp at h
         ·rename_i d' hd'
          simp at h
          subst h
          simp only [VR] at hx
          obtain⟨bb,o,cap,us,rfl,hn,hfull,h4,h5,h6,h7⟩:=hx
          obtain⟨e1,e2⟩:=iD (P:=P) (w:=w) (isSlice:=true) (len:=n) (cap:=cap) (m0:=cap) (d:=0) (m:=cap) hlo hhi hmx (by simp) (.inl ⟨rfl,rfl,Nat.le_refl _⟩) G8 ⟨fun _=>hn,by simp⟩ hbl
          have hb2:=oC G8
          obtain⟨g1,g2,g3⟩:=h5.fE hd
          obtain⟨g4,g5⟩:=g1.jT hd'
          refine⟨.slice (some (if cap=l then⟨bb,o,none⟩ else (⟨bb,o,none⟩ : Addr).add (l*ie.size))) (b - l) (cap - l),?_,?_⟩
          ·simp [Instr.sliceAt,run_underlying hu,Instr.slice,e1,hsz] <;> split <;> rfl
          ·simp only [VR]
           by_cases hml:cap=l
           ·have h0:b - l=0:=by omega
            refine⟨bb,o,cap - l,(us.drop (l*ie.size)).take ((b - l)*ie.size),by rw [if_pos hml],by omega,fun _=>by omega,h4,g4,?_,fun u hu=>h7 u (List.mem_of_mem_drop (List.mem_of_mem_take hu))⟩
            rw [h0,Nat.zero_mul]
            intro i u hu
            simp at hu
           ·refine⟨bb,o+l*ie.size,cap - l,(us.drop (l*ie.size)).take ((b - l)*ie.size),by rw [if_neg hml,fH],by omega,?_,h4,g4,(h6.drop _).take _,fun u hu=>h7 u (List.mem_of_mem_drop (List.mem_of_mem_take hu))⟩
            intro hf
            simp only [Bool.and_eq_true,beq_iff_eq] at hf
            have:=hfull hf.1
            omega
     ·rename_i y
      split at h
      ·simp at h
      ·simp at h
      ·rename_i b0 m hbm
       split at h
       ·simp at h
       ·rename_i b G8
        split at h
        ·simp at h
        ·rename_i l hbl
         split at h
         ·simp at h
         ·rename_i d hd
          split at h
          ·simp at h
          ·rename_i d' hd'
           simp at h
           subst h
           simp only [VR] at hx
           obtain⟨bb,o,cap,us,rfl,hn,hfull,h4,h5,h6,h7⟩:=hx
           obtain⟨e1,e2⟩:=iD (P:=P) (w:=w) (isSlice:=true) (len:=n) (cap:=cap) (m0:=n) (d:=0) (m:=m) hlo hhi hmx (by simp) (.inr ⟨y,rfl,hbm,hn⟩) G8 ⟨by simp,fun _=>rfl⟩ hbl
           have hb2:=oC G8
           obtain⟨g1,g2,g3⟩:=h5.fE hd
           obtain⟨g4,g5⟩:=g1.jT hd'
           refine⟨.slice (some (if m=l then⟨bb,o,none⟩ else (⟨bb,o,none⟩ : Addr).add (l*ie.size))) (b - l) (m - l),?_,?_⟩
           ·simp [Instr.sliceAt,run_underlying hu,Instr.slice,e1,hsz] <;> split <;> rfl
           ·simp only [VR]
            by_cases hml:m=l
            ·have h0:b - l=0:=by omega
             refine⟨bb,o,m - l,(us.drop (l*ie.size)).take ((b - l)*ie.size),by rw [if_pos hml],by omega,fun _=>by omega,h4,g4,?_,fun u hu=>h7 u (List.mem_of_mem_drop (List.mem_of_mem_take hu))⟩
             rw [h0,Nat.zero_mul]
             intro i u hu
             simp at hu
            ·refine⟨bb,o+l*ie.size,m - l,(us.drop (l*ie.size)).take ((b - l)*ie.size),by rw [if_neg hml,fH],by omega,?_,h4,g4,(h6.drop _).take _,fun u hu=>h7 u (List.mem_of_mem_drop (List.mem_of_mem_take hu))⟩
             intro hf
             simp only [beq_iff_eq] at hf
             omega
    ·simp at h
  ·rename_i n e hk
   have hu:=wU htok hk
   split at h
   ·simp at h
   ·rename_i s hs
    simp only [jU,Option.map_eq_some_iff] at hs
    obtain⟨ie,hie,rfl⟩:=hs
    have hsz:=fun w'=>dX (htt e ie hie) w'
    split at h
    ·rename_i id o
     split at h
     ·simp at h
     ·rename_i hmh
      split at h
      ·simp at h
      ·rename_i m hbm
       split at h
       ·simp at h
       ·rename_i b G8
        split at h
        ·simp at h
        ·rename_i l hbl
         simp at h
         subst h
         simp only [VR] at hx
         obtain⟨rfl,hid⟩:=hx
         have hm:(mx=none∧m=n∧n≤n)∨(∃x,mx=some x∧bnd mx n n=some m∧n≤n):=by
          cases mx with
          | none=>exact .inl ⟨rfl,(GN hbm).1,Nat.le_refl _⟩
          | some y=>exact .inr ⟨y,rfl,hbm,Nat.le_refl _⟩
         obtain⟨e1,e2⟩:=iD (P:=P) (w:=w) (isSlice:=false) (len:=n) (cap:=n) (m0:=n) (d:=n) (m:=m) hlo hhi hmx (by cases mx <;> cases hi <;> simp_all) hm G8 ⟨fun _=>oC hbm,fun _=>rfl⟩ hbl
         refine⟨.slice (some (if m=l then⟨(E.θ id).1,(E.θ id).2+o,none⟩ else (⟨(E.θ id).1,(E.θ id).2+o,none⟩ : Addr).add (l*ie.size))) (b - l) (m - l),?_,?_⟩
         ·simp [Instr.sliceAt,run_underlying hu,Instr.sureAddr,e1,hsz] <;> split <;> rfl
         ·simp only [VR,fJ]
          refine⟨hid,_,_,rfl,by have:=oC G8; omega,rfl,?_⟩
          by_cases hml:m=l
          ·right; omega
          ·left; rw [if_neg hml,fH,Nat.add_assoc]
    ·simp at h
  ·simp at h
end
end Go.As
end
section
namespace Go.As
section
variable {P:Program} {E:En} {w:World}
theorem Ju {h:Array Obj}: ∀{cs:List AV} {us:List Value} {l:List Nat},BN cs=some l→bJ E h cs us→us=(l.map UInt8.ofNat).map (fun b=>Value.int .u8 (b.toNat:Int))∧∀b∈l,b < 256
 | [],us,l,h1,h2=>by
   simp [BN] at h1
   subst h1
   rw [kG] at h2
   simp [h2]
 | x :: cs,us,l,h1,h2=>by
   rw [aW] at h2
   obtain⟨u,vs,rfl,h3,h4⟩:=h2
   unfold BN at h1
   split at h1
   ·rename_i he; simp at he
   ·rename_i b xs he
    simp only [List.cons.injEq] at he
    obtain⟨rfl,rfl⟩:=he
    split at h1
    ·rename_i hb
     split at h1
     ·rename_i l' hl
      simp at h1
      subst h1
      obtain⟨e1,e2⟩:=Ju hl h4
      simp only [VR,SE.den] at h3
      refine⟨?_,?_⟩
      ·rw [h3,e1]
       simp [UInt8.toNat_ofNat',Nat.mod_eq_of_lt hb]
      ·intro y hy
       rcases List.mem_cons.1 hy with rfl | hy
       ·exact hb
       ·exact e2 y hy
     ·simp at h1
    ·simp at h1
   ·simp at h1
theorem Gn [Glob] {tt:TT} (htt:eG P tt) {H H':Hp} (r:bG E H w) {sT dT:Nat} {x v:AV} {u:Value} (hx:VR E w.heap x u) (h:uF tt sT dT x H=some (v,H')) :
 ∃y w' E',(convert sT dT u).run P w= .ok y w'∧Stp E H w E' H' w'∧bG E' H' w'∧VR E' w'.heap v y:=by
 unfold uF at h
 split at h
 ·simp at h
 ·rename_i j hj
  obtain⟨sd,hsd,hsk⟩:=xR (htt sT j hj)
  split at h
  ·rename_i i hi
   have hti:=htt dT i hi
   split at h
   ·rename_i k hk
    have hd:=Ci hti hk
    split at h
    ·rename_i kk n
     simp only [Option.some.injEq,Prod.mk.injEq] at h
     obtain⟨rfl,rfl⟩:=h
     simp only [VR] at hx
     subst hx
     refine⟨.int k (k.wrap n),w,E,?_,Stp.refl _ _ _,r,by simp only [VR,SE.den,oM]⟩
     simp [convert,run_underlying hsd,run_underlying hd,Conv.intToInt,SE.den]
    ·rename_i kk e hne
     simp only [Option.some.injEq,Prod.mk.injEq] at h
     obtain⟨rfl,rfl⟩:=h
     simp only [VR] at hx
     subst hx
     refine⟨.int k (k.wrap (e.den E.ρ)),w,E,?_,Stp.refl _ _ _,r,by simp only [VR,SE.den]⟩
     simp [convert,run_underlying hsd,run_underlying hd,Conv.intToInt]
    ·simp at h
   ·rename_i hk
    have hd:=gK hti hk
    split at h
    ·rename_i hjk
     split at h
     ·rename_i s
      simp only [Option.some.injEq,Prod.mk.injEq] at h
      obtain⟨rfl,rfl⟩:=h
      have hx':=hx
      simp only [VR] at hx
      obtain⟨rfl,_⟩:=hx
      refine⟨_,w,E,?_,Stp.refl _ _ _,r,hx'⟩
      simp [convert,run_underlying (gK (htt sT j hj) hjk),run_underlying hd]
     ·simp at h
    ·rename_i e hjk
     have hs:=fK (htt sT j hj) hjk
     split at h
     ·simp at h
     ·rename_i ie hie
      split at h
      ·rename_i hu8
       have he:=Ci (htt e ie hie) hu8.1
       split at h
       ·simp only [Option.some.injEq,Prod.mk.injEq] at h
        obtain⟨rfl,rfl⟩:=h
        simp only [VR] at hx
        subst hx
        refine⟨.string .empty,w,E,?_,Stp.refl _ _ _,r,?_⟩
        ·rw [run_convert_bytes_string w sT dT e none 0 0 hs he hd]
         rfl
        ·simp only [VR]
         exact⟨rfl,by simp⟩
       ·rename_i id o len c
        split at h
        ·rename_i cs hcs
         rw [Option.map_eq_some_iff] at h
         obtain⟨l,hl,he2⟩:=h
         simp only [Prod.mk.injEq] at he2
         obtain⟨rfl,rfl⟩:=he2
         simp only [VR] at hx
         obtain⟨hid,a,cap,rfl,hcap,hc⟩:=hx
         obtain⟨b,o',us,e1,e2,e3,e4,e5⟩:=CJ r (p:=.ptr id o) (u:=.pointer (some ⟨(E.θ id).1,(E.θ id).2+o,none⟩)) (by simp only [VR]; exact⟨trivial,hid⟩) hcs
         obtain⟨e6,e7⟩:=Ju hl e3
         have hlen:len=(l.map UInt8.ofNat).length:=by
          have:=e3.length
          rw [e6] at e2
          simp at e2
          simp [e2]
         have ha:a=⟨(E.θ id).1,(E.θ id).2+o,none⟩∨len=0:=by
          cases c with
          | exact c=>
            simp only [fJ] at hc
            rcases hc.2 with hc | hc
            ·exact .inl hc
            ·right; omega
          | rest es=>
            simp only [fJ] at hc
            rcases hc with hc | hc
            ·exact .inl hc.1
            ·right; omega
         refine⟨.string (bZ l),w,E,?_,Stp.refl _ _ _,r,by simp only [VR]; exact⟨trivial,e7⟩⟩
         rw [hlen]
         refine run_convert_bytes_back w sT dT e a cap (l.map UInt8.ofNat) hs he hd fun k hk=>?_
         rcases ha with ha | ha
         ·subst ha
          rw [fH,sK]
          simp only [Value.pointer.injEq,Option.some.injEq,Addr.mk.injEq] at e1
          obtain⟨e1a,e1b,_⟩:=e1
          rw [e1a,e1b]
          refine e4 k _ ?_
          rw [e6,List.getElem?_map,List.getElem?_eq_getElem hk]
          rfl
         ·omega
        ·simp at h
       ·simp at h
      ·simp at h
    ·simp at h
   ·rename_i e hk
    have hd:=fK hti hk
    split at h
    ·simp at h
    ·rename_i ie hie
     split at h
     ·rename_i hu8
      have he:=Ci (htt e ie hie) hu8.1
      split at h
      ·rename_i s
       simp only [Option.some.injEq,Prod.mk.injEq] at h
       obtain⟨rfl,rfl⟩:=h
       simp only [VR] at hx
       obtain⟨rfl,hlt⟩:=hx
       have hs:=gK (htt sT j hj) hu8.2
       have hsz:(bZ s).size=s.length:=nH s
       have hge:=grownCap_ge w (bZ s).size 0 e
       have hrow:(bytesRow (bZ s) (grownCap w (bZ s).size 0 e)).size=grownCap w (bZ s).size 0 e:=by
        have h1:(bZ s).data.size=s.length:=hsz
        simp only [bytesRow,Array.size_append,Array.size_map,Array.size_replicate,h1]
        omega
       have hv:bJ E w.heap (s.map fun c=>AV.int .u8 (.lit (Int.ofNat c))) ((s.map UInt8.ofNat).map (fun b=>Value.int .u8 (b.toNat:Int))):=by
        clear hge hrow hsz
        induction s with
        | nil=>simp [bJ]
        | cons b s ih=>
          have hb:=hlt b (by simp)
          rw [List.map_cons,List.map_cons,List.map_cons,aW]
          refine⟨_,_,rfl,?_,ih fun c hc=>hlt c (by simp [hc])⟩
          simp [VR,SE.den,UInt8.toNat_ofNat',Nat.mod_eq_of_lt hb]
       obtain⟨s1,s2⟩:=kJ r (bytesRow (bZ s) (grownCap w (bZ s).size 0 e)) (bytesRow (bZ s) (grownCap w (bZ s).size 0 e)).size ((bytesRow (bZ s) (grownCap w (bZ s).size 0 e)).size+1) e hv
        (by intro u hu; simp only [List.mem_map] at hu; obtain⟨b,_,rfl⟩:=hu; rfl)
        (by
         intro k u hu
         have hk:=(List.getElem?_eq_some_iff.1 hu).1
         simp only [List.length_map] at hk
         simp only [bytesRow]
         rw [Array.getElem?_append_left (by have h1:(bZ s).data.size=s.length:=hsz; simp only [Array.size_map,h1]; exact hk)]
         rw [← hu]
         simp [bZ])
        (by intro o h1 h2; omega)
        (w':=w.drew.alloc (.cells (bytesRow (bZ s) (grownCap w (bZ s).size 0 e)) e ((bytesRow (bZ s) (grownCap w (bZ s).size 0 e)).size,(bytesRow (bZ s) (grownCap w (bZ s).size 0 e)).size+1))) rfl ⟨rfl,rfl,rfl⟩
       refine⟨_,_,_,run_bytes_of_string w sT dT e (bZ s) hs hd he,s1,s2,?_⟩
       simp only [VR,hsz]
       refine⟨En.jK _ _ _ _,⟨w.heap.size,0,none⟩,_,rfl,by rw [← hsz]; exact hge,?_⟩
       simp only [fJ,En.ext_θ_new,En.ext_κ_new]
       left
       refine⟨trivial,?_⟩
       rw [← hsz,hrow]
       omega
      ·simp at h
     ·simp at h
   ·simp at h
  ·simp at h
end
end Go.As
end
section
namespace Go.As
section
variable {P:Program} {E:En} {w:World}
def IL (d:TypeDesc):TK→Prop
 | .int _=> ∃k,d= .int k
 | .string=>d= .string
 | .bool=>d= .bool
 | _=>False
theorem EC {tt:TT} (htt:eG P tt) {t:Nat} {kk:TK} (h:CV tt t=some kk): ∃d,P.underlying t=some d∧IL d kk:=by
 unfold CV at h
 split at h
 ·rename_i i hi
  split at h <;> simp only [Option.some.injEq,reduceCtorEq] at h <;> subst h
  ·rename_i k hk; exact⟨_,Ci (htt t i hi) hk,k,rfl⟩
  ·rename_i hk; exact⟨_,gK (htt t i hi) hk,rfl⟩
  ·rename_i hk; exact⟨_,Vf (htt t i hi) hk,rfl⟩
 ·simp at h
theorem ajB {x y:List Nat} (hx: ∀b∈x,b < 256) (hy: ∀b∈y,b < 256):(bZ x == bZ y)=jF x y:=by
 have e:(bZ x == bZ y)=((bZ x).data == (bZ y).data):=rfl
 rw [e,Bool.eq_iff_iff,beq_iff_eq,oV]
 constructor
 ·intro h
  have h2:=congrArg (fun b=>b.toList) h
  simp only [bZ] at h2
  exact map_inj hx hy h2
 ·intro h; rw [h]
theorem VY {h:Array Obj} {pc:List (SB×Bool)} (hp:bI E.ρ pc) {kk:TK} {d:TypeDesc} (hd:IL d kk) {a b:AV} {u u':Value} (ha:VR E h a u) (hb:VR E h b u') {c:Bool} (hc:abO pc kk a b=some c) :
 Instr.sameNow d u u'=some c∧(c=true→∀n,Instr.sameBits (n+1) u' u=true):=by
 unfold abO at hc
 split at hc
 ·obtain⟨k,rfl⟩:=hd
  split at hc
  ·simp only [VR] at ha hb
   subst ha hb
   split at hc
   ·rename_i hk
    subst hk
    have hc:=iW hp hc
    rw [lN] at hc
    subst hc
    refine⟨by simp [Instr.sameNow],fun hh n=>?_⟩
    simp at hh
    simp [Instr.sameBits,hh]
   ·simp at hc
  ·simp at hc
 ·simp only [IL] at hd
  subst hd
  split at hc
  ·simp only [VR] at ha hb
   obtain⟨rfl,ha⟩:=ha
   obtain⟨rfl,hb⟩:=hb
   simp at hc
   subst hc
   have he:=ajB ha hb
   refine⟨by simp only [Instr.sameNow,he],fun hh n=>?_⟩
   simp only [Instr.sameBits]
   have h2:=(oV _ _).1 hh
   subst h2
   rw [he]
   exact hh
  ·split at hc
   ·rename_i c0 h0
    obtain⟨x,y,rfl,rfl,hd⟩:=La ha hb h0
    have hc:=iW hp hc
    rw [hd] at hc
    have hbe: ∀p q:ByteArray,(p == q)=decide (p=q):=by
     intro p q
     rw [Bool.eq_iff_iff,decide_eq_true_eq]
     have e:(p == q)=(p.data == q.data):=rfl
     rw [e,beq_iff_eq]
     constructor
     ·intro h; cases p; cases q; simp only at h; rw [h]
     ·intro h; rw [h]
    refine⟨by simp only [Instr.sameNow,hbe,hc],fun hh n=>?_⟩
    simp only [Instr.sameBits,hbe]
    rw [hh] at hc
    simp only [decide_eq_true_eq] at hc ⊢
    exact hc.symm
   ·simp at hc
 ·simp only [IL] at hd
  subst hd
  split at hc
  ·simp only [VR,SB.den] at ha hb
   subst ha hb
   simp at hc
   subst hc
   refine⟨by simp [Instr.sameNow],fun hh n=>?_⟩
   simp at hh
   simp [Instr.sameBits,hh]
  ·simp at hc
 ·simp at hc
theorem iQ {t:Nat} {kk:TK} {d:TypeDesc} (hu:P.underlying t=some d) (hd:IL d kk) (b:Bool) (v:Value):(Instr.checkKey b 10000 t v).run P w= .ok () w:=by
 have h0:(10000:Nat)=9999+1:=rfl
 rw [h0]
 generalize (9999:Nat)=n
 cases kk <;> simp only [IL] at hd
 ·subst hd; simp [Instr.checkKey,run_underlying hu]
 ·obtain⟨k,rfl⟩:=hd; simp [Instr.checkKey,run_underlying hu]
 ·subst hd; simp [Instr.checkKey,run_underlying hu]
theorem uV {h:Array Obj} {pc:List (SB×Bool)} (hp:bI E.ρ pc) {kk:TK} {d:TypeDesc} (hd:IL d kk) {k:AV} {u:Value} (hk:VR E h k u): ∀{es:List (AV×AV×Nat)} {ents:List MapEntry} {i:Nat} {res:Option (Nat×AV)},
 fA E h es ents→Jo pc kk k es i=some res→
 (res=none∧Instr.findNow d u ents i=some none)∨
 (∃j v e,res=some (i+j,v)∧ents[j]?=some e∧VR E h v e.val∧Instr.findNow d u ents i=some (some (i+j,e.val))∧∀n,Instr.sameBits (n+1) e.key u=true)
 | [],ents,i,res,he,hf=>by
   simp only [fA] at he
   subst he
   simp [Jo] at hf
   exact .inl ⟨hf.symm,by simp [Instr.findNow]⟩
 | (k',v,b) :: es,ents,i,res,he,hf=>by
   simp only [fA] at he
   obtain⟨e,r,rfl,h1,h2,h3,h4⟩:=he
   simp only [Jo] at hf
   split at hf
   ·rename_i hc
    simp at hf
    subst hf
    obtain⟨g1,g2⟩:=VY hp hd hk h1 hc
    exact .inr ⟨0,v,e,rfl,rfl,h2,by simp [Instr.findNow,g1],g2 rfl⟩
   ·rename_i hc
    obtain⟨g1,g2⟩:=VY hp hd hk h1 hc
    rcases uV hp hd hk h4 hf with ⟨q1,q2⟩ | ⟨j,v',e',q1,q2,q3,q4,q5⟩
    ·exact .inl ⟨q1,by simp [Instr.findNow,g1,q2]⟩
    ·refine .inr ⟨j+1,v',e',?_,by simpa using q2,q3,?_,q5⟩
     ·rw [q1]; congr 2; omega
     ·simp only [Instr.findNow,g1,q4]; congr 3; omega
   ·simp at hf
theorem iF {t:Nat} {d:TypeDesc} (hu:P.underlying t=some d) {u:Value} {ents:List MapEntry} {r:Option (Nat×Value)} (h:Instr.findNow d u ents 0=some r):(Instr.findKey t u ents).run P w= .ok r w:=by
 simp [Instr.findKey,run_underlying hu,h]
theorem lH {r:Nat} {o:Obj} (h:w.heap[r]?=some o) (hn: ∀c e f,o≠.cells c e f):(getObj r).run P w= .ok o w:=by
 unfold getObj
 cases o <;> first | exact absurd rfl (hn _ _ _) | simp only [Sem.run,h]
theorem lD {r:Nat} {o o':Obj} (h:w.heap[r]?=some o) (hn: ∀c e f,o≠.cells c e f):(setObj r o').run P w= .ok () { w with heap:=w.heap.setIfInBounds r o' }:=by
 unfold setObj
 cases o <;> first | exact absurd rfl (hn _ _ _) | simp only [Sem.run,h]
theorem jV [Glob] {H:Hp} (r:bG E H w) {id:Nat} {o:dW} (hl:H.get id=some o) (ao:dW) (o':Obj)
 (ho: ∀h',h'[(E.θ id).1]?=some o'→Keeps E w.heap E h'→OR E h' id ao) :
 Stp E H w E (H.put id ao) { w with heap:=w.heap.setIfInBounds (E.θ id).1 o' }∧bG E (H.put id ao) { w with heap:=w.heap.setIfInBounds (E.θ id).1 o' }:=by
 have hlt:=jE r hl
 have hother: ∀b,b≠(E.θ id).1→({ w with heap:=w.heap.setIfInBounds (E.θ id).1 o' }:World).heap[b]?=w.heap[b]?:=fun b hb=>by
  show (w.heap.setIfInBounds (E.θ id).1 o')[b]?=_
  rw [Array.getElem?_setIfInBounds_ne (fun e=>hb e.symm)]
 refine Vy r hl ao (by simp) hother ⟨rfl,rfl,rfl⟩ (ho _ ?_ (rY r hl hother))
 show (w.heap.setIfInBounds (E.θ id).1 o')[(E.θ id).1]?=_
 simp [hlt]
theorem fA.length {h:Array Obj}: ∀{es:List (AV×AV×Nat)} {ents:List MapEntry},fA E h es ents→ents.length=es.length
 | [],ents,he=>by simp only [fA] at he; simp [he]
 | (k,v,b) :: es,ents,he=>by
   simp only [fA] at he
   obtain⟨e,r,rfl,_,_,_,h4⟩:=he
   simp [h4.length]
theorem fA.set {h:Array Obj} {k v:AV} {uk uv:Value} (hk:VR E h k uk) (hv:VR E h v uv): ∀{es:List (AV×AV×Nat)} {ents:List MapEntry} {i:Nat} {e:MapEntry},fA E h es ents→ents[i]?=some e→
 fA E h (wZ k v es i) (ents.set i { e with key:=uk,val:=uv })
 | [],ents,i,e,he,hi=>by simp only [fA] at he; subst he; simp at hi
 | (k',v',b) :: es,ents,0,e,he,hi=>by
   simp only [fA] at he
   obtain⟨e0,r,rfl,h1,h2,h3,h4⟩:=he
   simp at hi
   subst hi
   simp only [wZ,List.set_cons_zero,fA]
   exact⟨_,r,rfl,hk,hv,h3,h4⟩
 | (k',v',b) :: es,ents,i+1,e,he,hi=>by
   simp only [fA] at he
   obtain⟨e0,r,rfl,h1,h2,h3,h4⟩:=he
   simp only [wZ,List.set_cons_succ,fA]
   exact⟨e0,_,rfl,h1,h2,h3,fA.set hk hv h4 (by simpa using hi)⟩
theorem fA.push {h:Array Obj} {k v:AV} {uk uv:Value} {c c':Nat} (hk:VR E h k uk) (hv:VR E h v uv): ∀{es:List (AV×AV×Nat)} {ents:List MapEntry},fA E h es ents→
 fA E h (es++ [(k,v,c)]) (ents++ [{ key:=uk,val:=uv,born:=c' }])
 | [],ents,he=>by
   simp only [fA] at he
   subst he
   simp only [List.nil_append,fA]
   exact⟨_,[],rfl,hk,hv,trivial,rfl⟩
 | (k',v',b) :: es,ents,he=>by
   simp only [fA] at he
   obtain⟨e0,r,rfl,h1,h2,h3,h4⟩:=he
   simp only [List.cons_append,fA]
   exact⟨e0,_,rfl,h1,h2,h3,fA.push hk hv h4⟩
theorem fA.erase {h:Array Obj}: ∀{es:List (AV×AV×Nat)} {ents:List MapEntry} {i:Nat},fA E h es ents→fA E h (uZ es i) (ents.eraseIdx i)
 | [],ents,i,he=>by simp only [fA] at he; subst he; simp [uZ,fA]
 | (k',v',b) :: es,ents,0,he=>by
   simp only [fA] at he
   obtain⟨e0,r,rfl,h1,h2,h3,h4⟩:=he
   simpa [uZ] using h4
 | (k',v',b) :: es,ents,i+1,he=>by
   simp only [fA] at he
   obtain⟨e0,r,rfl,h1,h2,h3,h4⟩:=he
   simp only [uZ,List.eraseIdx_cons_succ,fA]
   exact⟨e0,_,rfl,h1,h2,h3,fA.erase h4⟩
theorem OU {t:Nat} {i:TI} (hti:tX P t i) {z:AV} (h:zeroOf i=some z): ∃u,(zeroValue t).run P w= .ok u w∧VR E w.heap z u:=by
 obtain⟨inf,d,zv,h1,h2,h3,h4,h5,h6,h7,h8⟩:=hti.all
 have hz:=fD (E:=E) (h:=w.heap) h4
 have hr:(zeroValue t).run P w= .ok zv w:=by simp [zeroValue,typeInfo,h1,h3]
 refine⟨zv,hr,?_⟩
 unfold zeroOf at h
 split at h
 ·rename_i ha
  simp at h
  subst h
  rw [ha] at h8
  cases zv <;> simp only [TW,reduceCtorEq] at h8
  rename_i cs
  simp only [VR]
  exact⟨cs.toList,by simp,hz.1⟩
 ·rename_i ha
  split at h
  ·rename_i v hv
   simp at h
   subst h
   rw [hv] at hz
   obtain⟨u,vs,e1,e2,e3⟩:=aW.1 hz.1
   rw [kG] at e3
   subst e3
   rw [ha] at h8
   have:zv=u:=by cases zv <;> simp_all [TW,Value.cells]
   rw [this]
   exact e2
  ·simp at h
end
end Go.As
end
section
namespace Go.As
theorem Hu (ρ:Nat→Int) (x:SE):(Ph x).den ρ=(dec (x.den ρ)).n:=by
 unfold Ph
 split
 ·split
  ·simp only [SE.den,aG.den,aC,D.n]
  ·simp only [SE.den,aG.den]
 ·split
  ·simp only [SE.den,aC,D.n]
  ·simp only [SE.den,aG.den]
 ·simp only [SE.den,aG.den]
theorem oK (ρ:Nat→Int) (x:SE):(Hw x).den ρ=enc (.i (x.den ρ)):=by
 unfold Hw
 split <;> simp only [SE.den,aG.den]
theorem FY (a b:D):(D.p a b).hd 0=a:=by simp [D.hd,D.l]
theorem FZ (a b:D) (j:Nat):(D.p a b).hd (j+1)=b.hd j:=by simp [D.hd,D.l]
theorem yQ (ρ:Nat→Int): ∀(j:Nat) (x:SE),dec ((mP j x).den ρ)=(dec (x.den ρ)).hd j
 | j,.op o a b=>by
   unfold mP
   cases o with
   | cons=>
     cases j with
     | zero=>simp only [SE.den,aG.den,aC,FY]
     | succ j=>simp only [yQ ρ j b,SE.den,aG.den,aC,FZ]
   | _=>simp only [SE.den,aG.den,aC]
 | j,.lit n=>by simp only [mP,SE.den,aG.den,aC]
 | j,.aQ n=>by simp only [mP,SE.den,aG.den,aC]
 | j,.add _ _=>by simp only [mP,SE.den,aG.den,aC]
 | j,.sub _ _=>by simp only [mP,SE.den,aG.den,aC]
 | j,.mul _ _=>by simp only [mP,SE.den,aG.den,aC]
 | j,.quo _ _=>by simp only [mP,SE.den,aG.den,aC]
 | j,.rem _ _=>by simp only [mP,SE.den,aG.den,aC]
 | j,.wrap _ _=>by simp only [mP,SE.den,aG.den,aC]
 | j,.inp _ _=>by simp only [mP,SE.den,aG.den,aC]
 | j,.dat _=>by simp only [mP,SE.den,aG.den,aC]
 | j,.ap _ _=>by simp only [mP,SE.den,aG.den,aC]
theorem dD (ρ:Nat→Int): ∀x:SE,(eP x).den ρ=((dec (x.den ρ)).l.length:Int)
 | .op o a b=>by
   unfold eP
   cases o with
   | set=>
     simp only [dD ρ a,SE.den,aG.den]
     split
     ·simp only [aC,aX,iY]
     ·rfl
   | _=>simp only [SE.den,aG.den]
 | .lit n=>by simp only [eP,SE.den,aG.den]
 | .aQ n=>by simp only [eP,SE.den,aG.den]
 | .add _ _=>by simp only [eP,SE.den,aG.den]
 | .sub _ _=>by simp only [eP,SE.den,aG.den]
 | .mul _ _=>by simp only [eP,SE.den,aG.den]
 | .quo _ _=>by simp only [eP,SE.den,aG.den]
 | .rem _ _=>by simp only [eP,SE.den,aG.den]
 | .wrap _ _=>by simp only [eP,SE.den,aG.den]
 | .inp _ _=>by simp only [eP,SE.den,aG.den]
 | .dat d=>by simp only [eP,SE.den,aC]; rfl
 | .ap _ _=>by simp only [eP,SE.den,aG.den]
theorem Rd.slice {ro:Nat→Prop} {h:Array Obj} {t:Nat} {d:D} {v:Value} (r:Rd ro h (.sl t) d v): ∃x cap,v= .slice x d.l.length cap∧d.l.length≤cap:=by
 generalize hc:CK.sl t=c at r
 cases r with
 | int k n=>simp at hc
 | bool b=>simp at hc
 | str s=>simp at hc
 | nil t=>exact⟨none,0,rfl,by simp [D.l]⟩
 | non t a cap=>exact⟨some a,cap,rfl,by simp [D.l]⟩
 | one t c b o cap ds f hr hcp hb h1 h2=>exact⟨_,cap,by rw [aX],by rw [aX]; exact hcp⟩
 | many t cs b o cap rows f hr hcp hb hl h1 h2=>exact⟨some ⟨b,o,none⟩,cap,by simp,by simpa using hcp⟩
theorem Rd.string {ro:Nat→Prop} {h:Array Obj} {d:D} {v:Value} (r:Rd ro h .str d v): ∃s,v= .string s∧d=Aa s:=by
 cases r with
 | str s=>exact⟨s,rfl,rfl⟩
def kX (ro:Nat→Prop) (h:Array Obj) (c:CK) (d:D) (u:Value):Prop:=match c with
 | .int k=>u= .int k d.n
 | .bool=>u= .bool (!(d.n == 0))
 | c=>Rd ro h c d u
theorem uI {E:En} {h:Array Obj} {c:CK} {x:SE} {u:Value}:VR E h (Ae c x) u↔kX E.ro h c (dec (x.den E.ρ)) u:=by
 cases c <;> simp only [Ae,kX,VR,SB.den,Hu,SE.den]
theorem Rd.cell {ro:Nat→Prop} {h:Array Obj} {c:CK} {d:D} {u:Value} (r:Rd ro h c d u):kX ro h c d u:=by
 cases r with
 | int k n=>simp [kX,D.n]
 | bool b=>cases b <;> simp [kX,D.n]
 | str s=>exact .str s
 | nil t=>exact .nil t
 | non t a cap=>exact .non t a cap
 | one t c b o cap ds f hr hc hb h1 h2=>exact .one t c b o cap ds f hr hc hb h1 h2
 | many t cs b o cap rows f hr hc hb hl h1 h2=>exact .many t cs b o cap rows f hr hc hb hl h1 h2
theorem kX.one {ro:Nat→Prop} {h:Array Obj} {c:CK} {d:D} {u:Value} (r:kX ro h c d u):u.oneCell'=true:=by
 cases c with
 | int k=>simp only [kX] at r; subst r; rfl
 | bool=>simp only [kX] at r; subst r; rfl
 | str=>exact Rd.one' r
 | sl t=>exact Rd.one' r
def dO (ro:Nat→Prop) (h:Array Obj):List CK→Nat→D→List Value→Prop
 | [],_,_,us=>us= []
 | c :: cs,j,d,us=> ∃u vs,us=u :: vs∧kX ro h c (d.hd j) u∧dO ro h cs (j+1) d vs
def DI (ro:Nat→Prop) (h:Array Obj) (r:Row) (d:D) (us:List Value):Prop:=match r with
 | .one c=> ∃u,us= [u]∧kX ro h c d u
 | .many cs=>dO ro h cs 0 d us
theorem wO {E:En} {h:Array Obj} {x:SE}: ∀{cs:List CK} {j:Nat} {us:List Value},bJ E h (kU cs j x) us↔dO E.ro h cs j (dec (x.den E.ρ)) us
 | [],j,us=>by simp only [kU,bJ,dO]
 | c :: cs,j,us=>by
   simp only [kU,aW,dO]
   constructor
   ·rintro⟨u,vs,rfl,h1,h2⟩
    exact⟨u,vs,rfl,by rw [uI,yQ] at h1; exact h1,wO.1 h2⟩
   ·rintro⟨u,vs,rfl,h1,h2⟩
    exact⟨u,vs,rfl,by rw [uI,yQ]; exact h1,wO.2 h2⟩
theorem gV {E:En} {h:Array Obj} {r:Row} {x:SE} {us:List Value}:bJ E h (jB r x) us↔DI E.ro h r (dec (x.den E.ρ)) us:=by
 cases r with
 | one c=>
   simp only [jB,aW,kG,DI]
   constructor
   ·rintro⟨u,vs,rfl,h1,rfl⟩
    exact⟨u,rfl,uI.1 h1⟩
   ·rintro⟨u,rfl,h1⟩
    exact⟨u,[],rfl,uI.2 h1,rfl⟩
 | many cs=>simp only [jB,DI,wO]
theorem yC (x:SE): ∀(cs:List CK) (j:Nat),(kU cs j x).length=cs.length
 | [],_=>rfl
 | _ :: cs,j=>by simp [kU,yC x cs]
theorem jH (r:Row) (x:SE):(jB r x).length=r.es:=by cases r <;> simp [jB,Row.es,yC]
theorem dO.ones {ro:Nat→Prop} {h:Array Obj} {d:D}: ∀{cs:List CK} {j:Nat} {us:List Value},dO ro h cs j d us→∀u∈us,u.oneCell'=true
 | [],_,_,hh,u,hu=>by simp only [dO] at hh; subst hh; simp at hu
 | c :: cs,j,us,hh,u,hu=>by
   simp only [dO] at hh
   obtain⟨x,vs,rfl,h1,h2⟩:=hh
   rcases List.mem_cons.1 hu with rfl | hu
   ·exact h1.one
   ·exact h2.ones u hu
theorem DI.ones {ro:Nat→Prop} {h:Array Obj} {r:Row} {d:D} {us:List Value} (hh:DI ro h r d us): ∀u∈us,u.oneCell'=true:=by
 cases r with
 | one c=>
   obtain⟨u,rfl,h1⟩:=hh
   intro x hx
   simp at hx
   subst hx
   exact h1.one
 | many cs=>exact dO.ones hh
theorem bJ.split {E:En} {h:Array Obj}: ∀{xs ys:List AV} {us:List Value},bJ E h (xs++ys) us→∃a b,us=a++b∧bJ E h xs a∧bJ E h ys b
 | [],ys,us,hh=> ⟨[],us,rfl,by simp only [bJ],hh⟩
 | x :: xs,ys,us,hh=>by
   rw [List.cons_append,aW] at hh
   obtain⟨u,vs,rfl,h1,h2⟩:=hh
   obtain⟨a,b,rfl,h3,h4⟩:=h2.split
   exact⟨u :: a,b,rfl,by rw [aW]; exact⟨u,a,rfl,h1,h3⟩,h4⟩
theorem nK {ρ:Nat→Int} {i:Nat} {cs:List AV}: ∀{ov:List (SE×List AV)},dQ ρ i ov=some cs→∃p∈ov,p.2=cs∧p.1.den ρ=(i:Int)
 | [],h=>by simp [dQ] at h
 | (j,c) :: l,h=>by
   simp only [dQ] at h
   split at h
   ·rename_i hj
    simp only [Option.some.injEq] at h
    exact⟨(j,c),by simp,h,hj⟩
   ·obtain⟨p,h1,h2⟩:=nK h
    exact⟨p,by simp [h1],h2⟩
theorem bU {ρ:Nat→Int} {r:Row} {ov:List (SE×List AV)} (ho:FB r ov): ∀(ds:List D) (i:Nat),(aK ρ r ov ds i).length=ds.length*r.es
 | [],i=>by simp [aK]
 | d :: ds,i=>by
   simp only [aK,List.length_append,bU ho ds (i+1),List.length_cons,Nat.add_mul,Nat.one_mul]
   split
   ·rename_i cs h
    obtain⟨p,h1,h2,_⟩:=nK h
    rw [← h2,ho p h1]; omega
   ·rw [jH]; omega
theorem Ak {ρ:Nat→Int} {r:Row} {ov:List (SE×List AV)}: ∀(xs ys:List D) (i:Nat),aK ρ r ov (xs++ys) i=aK ρ r ov xs i++aK ρ r ov ys (i+xs.length)
 | [],ys,i=>by simp [aK]
 | d :: ds,ys,i=>by
   simp only [List.cons_append,aK,Ak ds ys (i+1),List.append_assoc,List.length_cons]
   rw [show i+1+ds.length=i+(ds.length+1) by omega]
end Go.As
end
section
namespace Go.As
section
variable {P:Program} {E:En} {w:World}
theorem FN [Glob] {H:Hp} (r:bG E H w) {id c:Nat} {es:List (AV×AV×Nat)} (hl:H.get id=some (.map es c)): ∃ents c',w.heap[(E.θ id).1]?=some (.map ents c')∧fA E w.heap es ents.toList:=
 (r.live id _ hl).2.1
theorem WI [Glob] {tt:TT} (htt:eG P tt) {pc:List (SB×Bool)} (hp:bI E.ρ pc) {H:Hp} (r:bG E H w) {t:Nat} {m k v:AV} {um uk:Value} {ok:Bool} (hm:VR E w.heap m um) (hk:VR E w.heap k uk) (h:NC tt pc t m k ok H=some v) :
 ∃x,(Instr.lookup t um uk ok).run P w= .ok x w∧VR E w.heap v x:=by
 unfold NC at h
 split at h
 ·rename_i ti hti
  split at h
  ·rename_i kt et hkind
   have hu:=ET (htt t ti hti) hkind
   split at h
   ·simp at h
   ·rename_i kk hkk
    obtain⟨d,hd1,hd2⟩:=EC htt hkk
    split at h
    ·simp at h
    ·rename_i ie hie
     have key: ∀(es:List (AV×AV×Nat)) (ents:Array MapEntry),fA E w.heap es ents.toList→
      (match Jo pc kk k es 0 with
       | none=>none
       | some (some (_,v))=>some (if ok then .tuple [v,.bool (.lit true)] else v)
       | some none=>match zeroOf ie with
         | none=>none
         | some z=>some (if ok then .tuple [z,.bool (.lit false)] else z))=some v→
      ∃(o:Option (Nat×Value)) (x:Value),(Instr.findKey kt uk ents.toList).run P w= .ok o w∧
       (match o with
        | some (_,y)=>x=(if ok then .tuple #[y,.bool true] else y)
        | none=> ∃z,(zeroValue et).run P w= .ok z w∧x=(if ok then .tuple #[z,.bool false] else z))∧VR E w.heap v x:=by
      intro es ents he hh
      split at hh
      ·simp at hh
      ·rename_i j v' hf
       simp at hh
       subst hh
       rcases uV hp hd2 hk he hf with ⟨q1,_⟩ | ⟨jj,v2,e,q1,q2,q3,q4,q5⟩
       ·simp at q1
       ·simp only [Option.some.injEq,Prod.mk.injEq] at q1
        obtain⟨rfl,rfl⟩:=q1
        refine⟨_,_,iF hd1 q4,rfl,?_⟩
        cases ok
        ·exact q3
        ·simp only [if_true,VR,bJ]
         exact⟨[e.val,.bool true],rfl,_,_,rfl,q3,_,_,rfl,by simp [SB.den],rfl⟩
      ·rename_i hf
       split at hh
       ·simp at hh
       ·rename_i z hz
        simp at hh
        subst hh
        obtain⟨u,e1,e2⟩:=OU (P:=P) (w:=w) (E:=E) (htt et ie hie) hz
        rcases uV hp hd2 hk he hf with ⟨_,q2⟩ | ⟨jj,v2,e,q1,_⟩
        ·refine⟨none,_,iF hd1 q2,⟨u,e1,rfl⟩,?_⟩
         cases ok
         ·exact e2
         ·simp only [if_true,VR,bJ]
          exact⟨[u,.bool false],rfl,_,_,rfl,e2,_,_,rfl,by simp [SB.den],rfl⟩
        ·simp at q1
     split at h
     ·simp at h
     ·rename_i es hes
      unfold TN at hes
      split at hes
      ·simp at hes
       subst hes
       simp only [VR] at hm
       subst hm
       obtain⟨o,x,e1,e2,e3⟩:=key [] #[] (by simp [fA]) h
       refine⟨x,?_,e3⟩
       cases o with
       | none=>
         obtain⟨z,e4,rfl⟩:=e2
         cases ok <;> simp [Instr.lookup,run_underlying hu,iQ hd1 hd2,e1,e4]
       | some p=>
         obtain⟨j,y⟩:=p
         simp only at e2
         subst e2
         cases ok <;> simp [Instr.lookup,run_underlying hu,iQ hd1 hd2,e1]
      ·rename_i id
       split at hes
       ·rename_i es' c hl
        simp at hes
        subst hes
        simp only [VR] at hm
        obtain⟨rfl,hid⟩:=hm
        obtain⟨ents,c',g1,g2⟩:=FN r hl
        have hg:=lH (P:=P) g1 (by simp)
        obtain⟨o,x,e1,e2,e3⟩:=key es' ents g2 h
        refine⟨x,?_,e3⟩
        cases o with
        | none=>
          obtain⟨z,e4,rfl⟩:=e2
          cases ok <;> simp [Instr.lookup,run_underlying hu,hg,iQ hd1 hd2,e1,e4]
        | some p=>
          obtain⟨j,y⟩:=p
          simp only at e2
          subst e2
          cases ok <;> simp [Instr.lookup,run_underlying hu,hg,iQ hd1 hd2,e1]
       ·simp at hes
      ·simp at hes
  ·simp at h
 ·simp at h
theorem L6 {α:Type} (ents:Array α) (i:Nat) (e:α) (f:α→α) (h:ents.toList[i]?=some e):(ents.modify i f).toList=ents.toList.set i (f e):=by
 apply List.ext_getElem?
 intro j
 have hi:=(List.getElem?_eq_some_iff.1 h).1
 rw [Array.getElem?_toList,Array.getElem?_modify,List.getElem?_set]
 by_cases hj:i=j
 ·subst hj
  rw [Array.getElem?_toList] at h
  simp [h]
  simpa using hi
 ·simp [hj]
theorem BF [Glob] {tt:TT} (htt:eG P tt) {pc:List (SB×Bool)} (hp:bI E.ρ pc) {H H':Hp} (r:bG E H w) {t:Nat} {m k v:AV} {um uk uv:Value} (hm:VR E w.heap m um) (hk:VR E w.heap k uk) (hv:VR E w.heap v uv) (h:vZ tt pc t m k v H=some H') :
 ∃w',(Instr.mapUpdate t um uk uv).run P w= .ok () w'∧Stp E H w E H' w'∧bG E H' w':=by
 unfold vZ at h
 split at h
 ·rename_i ti hti
  split at h
  ·rename_i kt et hkind
   have hu:=ET (htt t ti hti) hkind
   split at h
   ·simp at h
   ·rename_i kk hkk
    obtain⟨d,hd1,hd2⟩:=EC htt hkk
    split at h
    ·rename_i id
     split at h
     ·rename_i es c hl
      simp only [VR] at hm
      obtain⟨rfl,hid⟩:=hm
      obtain⟨ents,c',g1,g2⟩:=FN r hl
      have hg:=lH (P:=P) g1 (by simp)
      split at h
      ·simp at h
      ·rename_i i v' hf
       simp at h
       subst h
       rcases uV hp hd2 hk g2 hf with ⟨q1,_⟩ | ⟨jj,v2,e,q1,q2,q3,q4,q5⟩
       ·simp at q1
       ·simp only [Option.some.injEq,Prod.mk.injEq,Nat.zero_add] at q1
        obtain⟨rfl,rfl⟩:=q1
        simp only [Nat.zero_add] at q4
        have hkt:(Instr.keyThatStays (((ents[i]?).map (·.key)).getD uk) uk).run P w= .ok uk w:=by
         rw [Array.getElem?_toList] at q2
         simp only [q2,Option.map_some,Option.getD_some,Instr.keyThatStays]
         rw [if_pos (q5 9999)]
         rfl
        refine⟨_,?_,jV r hl (.map (wZ k v es i) c) (.map (ents.modify i fun e=>{ e with key:=uk,val:=uv }) c') ?_⟩
        ·simp [Instr.mapUpdate,run_underlying hu,hg,iQ hd1 hd2,iF hd1 q4,hkt,lD (P:=P) g1]
        ·intro h' hh kp
         simp only [OR]
         refine⟨_,_,hh,?_⟩
         rw [L6 ents i e _ q2]
         exact fA.set (VR.keep kp _ _ hk) (VR.keep kp _ _ hv) (fA.keep kp _ _ g2) q2
      ·rename_i hf
       simp at h
       subst h
       rcases uV hp hd2 hk g2 hf with ⟨_,q2⟩ | ⟨jj,v2,e,q1,_⟩
       ·refine⟨_,?_,jV r hl (.map (es++ [(k,v,c)]) (c+1)) (.map (ents.push { key:=uk,val:=uv,born:=c' }) (c'+1)) ?_⟩
        ·simp [Instr.mapUpdate,run_underlying hu,hg,iQ hd1 hd2,iF hd1 q2,lD (P:=P) g1]
        ·intro h' hh kp
         simp only [OR]
         refine⟨_,_,hh,?_⟩
         rw [Array.toList_push]
         exact fA.push (VR.keep kp _ _ hk) (VR.keep kp _ _ hv) (fA.keep kp _ _ g2)
       ·simp at q1
     ·simp at h
    ·simp at h
  ·simp at h
 ·simp at h
theorem WJ [Glob] {tt:TT} (htt:eG P tt) {pc:List (SB×Bool)} (hp:bI E.ρ pc) {H H':Hp} (r:bG E H w) {t:Nat} {ts:Nat} {m k:AV} {um uk:Value} (hm:VR E w.heap m um) (hk:VR E w.heap k uk) (h:NI tt pc t m k H=some H') (ty:Nat) :
 ∃w',(Builtin.delete_ #[t,ts] ty #[um,uk]).run P w= .ok (.tuple #[]) w'∧Stp E H w E H' w'∧bG E H' w':=by
 unfold NI at h
 split at h
 ·rename_i ti hti
  split at h
  ·rename_i kt et hkind
   have hu:=ET (htt t ti hti) hkind
   split at h
   ·simp at h
   ·rename_i kk hkk
    obtain⟨d,hd1,hd2⟩:=EC htt hkk
    split at h
    ·simp at h
     subst h
     simp only [VR] at hm
     subst hm
     exact⟨w,by simp [Builtin.delete_,run_underlying hu,iQ hd1 hd2],Stp.refl _ _ _,r⟩
    ·rename_i id
     split at h
     ·rename_i es c hl
      simp only [VR] at hm
      obtain⟨rfl,hid⟩:=hm
      obtain⟨ents,c',g1,g2⟩:=FN r hl
      have hg:=lH (P:=P) g1 (by simp)
      split at h
      ·simp at h
      ·rename_i i v' hf
       simp at h
       subst h
       rcases uV hp hd2 hk g2 hf with ⟨q1,_⟩ | ⟨jj,v2,e,q1,q2,q3,q4,q5⟩
       ·simp at q1
       ·simp only [Option.some.injEq,Prod.mk.injEq,Nat.zero_add] at q1
        obtain⟨rfl,rfl⟩:=q1
        simp only [Nat.zero_add] at q4
        refine⟨_,?_,jV r hl (.map (uZ es i) c) (.map (ents.eraseIdxIfInBounds i) c') ?_⟩
        ·simp [Builtin.delete_,run_underlying hu,hg,iQ hd1 hd2,iF hd1 q4,lD (P:=P) g1]
        ·intro h' hh kp
         simp only [OR]
         refine⟨_,_,hh,?_⟩
         have hil:i < ents.size:=by have:=(List.getElem?_eq_some_iff.1 q2).1; simpa using this
         have:(ents.eraseIdxIfInBounds i).toList=ents.toList.eraseIdx i:=by
          simp [Array.eraseIdxIfInBounds,hil]
         rw [this]
         exact fA.erase (fA.keep kp _ _ g2)
      ·rename_i hf
       simp at h
       subst h
       rcases uV hp hd2 hk g2 hf with ⟨_,q2⟩ | ⟨jj,v2,e,q1,_⟩
       ·refine⟨_,?_,jV r hl (.map es c) (.map ents c') ?_⟩
        ·simp [Builtin.delete_,run_underlying hu,hg,iQ hd1 hd2,iF hd1 q2,lD (P:=P) g1]
        ·intro h' hh kp
         simp only [OR]
         exact⟨_,_,hh,fA.keep kp _ _ g2⟩
       ·simp at q1
     ·simp at h
    ·simp at h
  ·simp at h
 ·simp at h
theorem amJ [Glob] {tt:TT} (htt:eG P tt) {H:Hp} (r:bG E H w) {t ty:Nat} {x v:AV} {u:Value} (hx:VR E w.heap x u) (h:amK tt t x H=some v) :
 ∃y,(Builtin.len_ #[t] ty #[u]).run P w= .ok y w∧VR E w.heap v y:=by
 unfold amK at h
 simp only at h
 split at h
 ·rename_i ti hti
  have htok:=htt t ti hti
  split at h
  ·rename_i hk
   split at h
   ·rename_i s
    simp at h
    subst h
    simp only [VR] at hx
    obtain⟨rfl,_⟩:=hx
    exact⟨_,by simp [Builtin.len_,run_underlying (gK htok hk)]; rfl,by simp [VR,SE.den,goInt,nH]⟩
   ·simp at h; subst h; simp only [VR] at hx
    obtain⟨s,rfl,hs⟩:=hx.string
    exact⟨_,by simp [Builtin.len_,run_underlying (gK htok hk)]; rfl,by simp only [VR,dD,hs,apJ]; rfl⟩
   ·simp at h
  ·rename_i e hk
   have hu:=fK htok hk
   split at h
   ·simp at h; subst h; simp only [VR] at hx; subst hx
    exact⟨_,by simp [Builtin.len_,run_underlying hu]; rfl,by simp [VR,SE.den,goInt]⟩
   ·simp at h; subst h; simp only [VR] at hx; obtain⟨x,rfl⟩:=hx
    exact⟨_,by simp [Builtin.len_,run_underlying hu]; rfl,by simp [VR,SE.den,goInt]⟩
   ·simp at h; subst h; simp only [VR] at hx; obtain⟨⟨x,rfl⟩,_⟩:=hx
    exact⟨_,by simp [Builtin.len_,run_underlying hu]; rfl,by simp [VR,SE.den,goInt]⟩
   ·simp at h; subst h; simp only [VR] at hx; obtain⟨_,a,cap,rfl,_⟩:=hx
    exact⟨_,by simp [Builtin.len_,run_underlying hu]; rfl,by simp [VR,SE.den,goInt]⟩
   ·simp at h; subst h; simp only [VR] at hx; obtain⟨b,o,cap,us,rfl,_⟩:=hx
    exact⟨_,by simp [Builtin.len_,run_underlying hu]; rfl,by simp [VR,SE.den,goInt]⟩
   ·simp at h; subst h; simp only [VR] at hx; obtain⟨x,cap,rfl,_⟩:=hx.slice
    exact⟨_,by simp [Builtin.len_,run_underlying hu]; rfl,by simp [VR,dD,goInt]⟩
   ·simp at h; subst h; simp only [VR] at hx; obtain⟨_,k,a,cap,h0,rfl,_⟩:=hx
    exact⟨_,by simp [Builtin.len_,run_underlying hu]; rfl,by simp [VR,h0,goInt]⟩
   ·simp at h; subst h; simp only [VR] at hx; obtain⟨_,l,k,a,cap,_,h0,rfl,_⟩:=hx
    exact⟨_,by simp [Builtin.len_,run_underlying hu]; rfl,by simp [VR,h0,goInt]⟩
   ·simp at h; subst h; simp only [VR] at hx
    rcases hx with ⟨⟨x,cap,rfl⟩,h0⟩ | ⟨b,o,n,cap,rfl,_,h0,_⟩
    ·exact⟨_,by simp [Builtin.len_,run_underlying hu]; rfl,by simp [VR,SE.den,goInt,h0]⟩
    ·exact⟨_,by simp [Builtin.len_,run_underlying hu]; rfl,by simp [VR,SE.den,goInt,h0]⟩
   ·simp at h
  ·rename_i k e hk
   have hu:=wU htok hk
   simp at h
   subst h
   exact⟨_,by simp [Builtin.len_,run_underlying hu]; rfl,by simp [VR,SE.den,goInt]⟩
  ·rename_i kt et hk
   have hu:=ET htok hk
   split at h
   ·simp at h; subst h; simp only [VR] at hx; subst hx
    exact⟨_,by simp [Builtin.len_,run_underlying hu]; rfl,by simp [VR,SE.den,goInt]⟩
   ·rename_i id
    split at h
    ·rename_i es c hl
     simp at h
     subst h
     simp only [VR] at hx
     obtain⟨rfl,hid⟩:=hx
     obtain⟨ents,c',g1,g2⟩:=FN r hl
     have hg:=lH (P:=P) g1 (by simp)
     have hlen:=g2.length
     simp only [Array.length_toList] at hlen
     exact⟨_,by simp [Builtin.len_,run_underlying hu,hg]; rfl,by simp [VR,SE.den,goInt,hlen]⟩
    ·rename_i e t' hl
     simp at h
     subst h
     simp only [VR] at hx
     obtain⟨rfl,hid⟩:=hx
     obtain⟨_,ho,_⟩:=r.live _ _ hl
     simp only [OR] at ho
     obtain⟨ents,c',g1,g2⟩:=ho
     have hg:=lH (P:=P) g1 (by simp)
     have hlen:=g2.length
     simp only [Array.length_toList] at hlen
     exact⟨_,by simp [Builtin.len_,run_underlying hu,hg]; rfl,by simp [VR,dD,goInt,hlen]⟩
    ·simp at h
   ·simp at h
  ·simp at h
 ·simp at h
end
end Go.As
end
section
namespace Go.As
section
variable {P:Program} {E:En} {w:World}
structure Src (P:Program) (E:En) (w:World) (s m:Nat) (news:List AV) (u:Value) (us:Array Value):Prop where
 len: ∀w2,(Builtin.lenOf u).run P w2= .ok m w2
 first: ∀w2:World,w2.heap=w.heap→(Builtin.firstCells s m u).run P w2= .ok us w2
 vrs:bJ E w.heap news us.toList
 size:us.size=m*s
 ones: ∀x∈us.toList,x.oneCell'=true
theorem iC.loads {b o n:Nat} {us:List Value} (hn:us.length=n) (h:iC w.heap b o us) (w2:World) (hw:w2.heap=w.heap):(loadCells ⟨b,o,none⟩ n).run P w2= .ok us.toArray w2:=
 xE hn (by rw [hw]; exact h)
theorem yP {id off len cap:Nat} {a:Addr} {c:Xv} (hc:fJ E id off len a cap c):a=⟨(E.θ id).1,(E.θ id).2+off,none⟩∨cap=0:=by
 cases c with
 | exact c=>
   simp only [fJ] at hc
   rcases hc.2 with hc2 | hc2
   ·exact .inl hc2
   ·right; omega
 | rest es=>
   simp only [fJ] at hc
   rcases hc with hc | hc
   ·exact .inl hc.1
   ·exact .inr hc.1
theorem AP [Glob] {H:Hp} (r:bG E H w) {id o len cap s:Nat} {a:Addr} {c:Xv} {l:List AV} (hid:E.dm id) (hc:fJ E id o len a cap c) (hlen:len≤cap) (h:qH H (.ptr id o) (len*s)=some l) :
 ∃us:List Value,us.length=len*s∧bJ E w.heap l us∧(∀u∈us,u.oneCell'=true)∧∀w2:World,w2.heap=w.heap→(loadCells a (len*s)).run P w2= .ok us.toArray w2:=by
 obtain⟨b,o',us,e1,e2,e3,e4,e5⟩:=CJ r (p:=.ptr id o) (u:=.pointer (some ⟨(E.θ id).1,(E.θ id).2+o,none⟩)) (by simp only [VR]; exact⟨trivial,hid⟩) h
 simp only [Value.pointer.injEq,Option.some.injEq,Addr.mk.injEq] at e1
 obtain⟨e1a,e1b,_⟩:=e1
 refine⟨us,e2,e3,e5,fun w2 hw=>?_⟩
 rcases yP hc with ha | ha
 ·rw [ha,e1a,e1b]
  exact e4.loads e2 w2 hw
 ·obtain rfl:len=0:=by omega
  rw [Nat.zero_mul] at e2 ⊢
  rw [List.eq_nil_of_length_eq_zero e2]
  rfl
theorem vP [Glob] {H:Hp} (r:bG E H w) {s m:Nat} {y:AV} {u:Value} {news:List AV} (hy:VR E w.heap y u) (h:wW s y H=some (m,news)): ∃us,Src P E w s m news u us:=by
 unfold wW at h
 split at h
 ·simp only [Option.some.injEq,Prod.mk.injEq] at h
  obtain⟨rfl,rfl⟩:=h
  simp only [VR] at hy
  subst hy
  exact⟨#[],fun _=>rfl,fun w2 _=>by simp [Builtin.firstCells],by simp [bJ],by simp,by simp⟩
 ·rename_i id o len c
  rw [Option.map_eq_some_iff] at h
  obtain⟨l,h1,h2⟩:=h
  simp only [Prod.mk.injEq] at h2
  obtain⟨rfl,rfl⟩:=h2
  simp only [VR] at hy
  obtain⟨hid,a,cap,rfl,hlen,hc⟩:=hy
  obtain⟨us,e1,e2,e3,e4⟩:=AP (P:=P) r hid hc hlen h1
  exact⟨us.toArray,fun _=>rfl,fun w2 hw=>by simp only [Builtin.firstCells]; exact e4 w2 hw,by simpa using e2,by simpa using e1,by simpa using e3⟩
 ·rename_i cs n full
  rw [Option.map_eq_some_iff] at h
  obtain⟨l,h1,h2⟩:=h
  simp only [Prod.mk.injEq] at h2
  obtain⟨rfl,rfl⟩:=h2
  simp only [VR] at hy
  obtain⟨b,o,cap,us,rfl,hn,hf,h4,h5,h6,h7⟩:=hy
  obtain⟨g1,g2⟩:=h5.jT h1
  have hl:=h5.length
  have htl:(us.take (n*s)).length=n*s:=by rw [List.length_take]; omega
  exact⟨(us.take (n*s)).toArray,fun _=>rfl,fun w2 hw=>by simp only [Builtin.firstCells]; exact (h6.take (n*s)).loads htl w2 hw,by simpa using g1,by simpa using htl,
   fun x hx=>h7 x (List.mem_of_mem_take (by simpa using hx))⟩
 ·rename_i b
  split at h
  ·rename_i hs
   simp only [Option.some.injEq,Prod.mk.injEq] at h
   obtain⟨rfl,rfl⟩:=h
   simp only [VR] at hy
   obtain⟨rfl,hlt⟩:=hy
   have hsz:(bZ b).size=b.length:=nH b
   have hex:(bZ b).extract 0 b.length=bZ b:=by rw [yM]; simp
   refine⟨(bZ b).data.map fun c=>Value.int .u8 (c.toNat:Int),fun w2=>by simp [Builtin.lenOf,hsz],fun w2 _=>by simp [Builtin.firstCells,hex],?_,?_,?_⟩
   ·have:((bZ b).data.map fun c=>Value.int .u8 (c.toNat:Int)).toList=(b.map UInt8.ofNat).map fun c=>Value.int .u8 (c.toNat:Int):=by simp [bZ]
    rw [this]
    clear hex hsz this
    induction b with
    | nil=>simp [bJ]
    | cons x b ih=>
      have hx:=hlt x (by simp)
      rw [List.map_cons,List.map_cons,List.map_cons,aW]
      refine⟨_,_,rfl,?_,ih fun c hc=>hlt c (by simp [hc])⟩
      simp [VR,SE.den,UInt8.toNat_ofNat',Nat.mod_eq_of_lt hx]
   ·have h1:(bZ b).data.size=b.length:=hsz
    rw [Array.size_map,h1,hs,Nat.mul_one]
   ·intro x hx
    simp only [Array.toList_map,List.mem_map] at hx
    obtain⟨c,_,rfl⟩:=hx
    rfl
  ·simp at h
 ·simp at h
theorem nD {t t2 ty e s m n cap:Nat} {d2:TypeDesc} {inf:TypeInfo} {a:Option Addr} {u2:Value} {us:Array Value} {news:List AV} {w':World} (ht:P.underlying t=some (.slice e)) (ht2:P.underlying t2=some d2)
 (hd2: ∀k,d2≠.int k) (hi:P.info? e=some inf) (hs:inf.size=s) (src:Src P E w s m news u2 us) (hroom:n+m≤cap)
 (hst:match a with | some a=>(storeCells (a.add (n*s)) us.toList).run P w= .ok () w' | none=>w'=w) :
 (Builtin.append_ #[t,t2] ty #[.slice a n cap,u2]).run P w= .ok (.slice a (n+m) cap) w':=by
 have hf:=src.first w rfl
 have hl:=src.len w
 cases a with
 | none=>
   simp only at hst
   subst hst
   simp [Builtin.append_,run_underlying ht,run_underlying ht2,sizeOf,typeInfo,hi,hs,hl,hroom,hf]
 | some a=>
   simp only at hst
   simp [Builtin.append_,run_underlying ht,run_underlying ht2,sizeOf,typeInfo,hi,hs,hl,hroom,hf,hst]
theorem Xh {t t2 ty e s m n cap:Nat} {d2:TypeDesc} {inf:TypeInfo} {z u u2:Value} {us olds:Array Value} {news:List AV} (ht:P.underlying t=some (.slice e)) (ht2:P.underlying t2=some d2)
 (hd2: ∀k,d2≠.int k) (hi:P.info? e=some inf) (hs:inf.size=s) (hz:inf.zero=some z) (hb:inf.bytes≠0) (src:Src P E w s m news u2 us) (hroom:cap < n+m) (hbound:(n+m)*inf.bytes≤140737488355328)
 (a:Option Addr) (hu:u= .slice a n cap) (hold: ∀w2:World,w2.heap=w.heap→(Builtin.firstCells s n u).run P w2= .ok olds w2) :
 (Builtin.append_ #[t,t2] ty #[u,u2]).run P w= .ok (.slice (some ⟨w.heap.size,0,none⟩) (n+m) (grownCap w (n+m) cap e))
  (w.drew.alloc (.cells (olds++us++Builtin.zeroCells z.cells (grownCap w (n+m) cap e - (n+m))) e)):=by
 subst hu
 have hf:=src.first w.drew rfl
 have ho:=hold w.drew rfl
 have hl:=src.len w
 have hn: ¬(n+m≤cap):=by omega
 have h48: ¬(281474976710656 < Builtin.nextslicecap (n+m) cap*inf.bytes):=by
  have h1:Builtin.nextslicecap (n+m) cap*inf.bytes≤2*(n+m)*inf.bytes:=Nat.mul_le_mul_right _ (nextslicecap_le hroom)
  have h2:2*(n+m)*inf.bytes=2*((n+m)*inf.bytes):=Nat.mul_assoc _ _ _
  omega
 have h48': ¬(2 ^ 48 < Builtin.nextslicecap (n+m) cap*inf.bytes):=h48
 simp [Builtin.append_,run_underlying ht,run_underlying ht2,sizeOf,typeInfo,zeroValue,hi,hs,hz,hl,hn,hb,h48',Question.forced,ho,hf,newRow,grownCap]
theorem xU [Glob] {t t2 ty:Nat} {H H':Hp} (r:bG E H w) {ie:TI} {e n m cap:Nat} {cs news old:List AV} {v:AV} {d2:TypeDesc} {u2:Value} {us olds:Array Value} (hte:tX P e ie)
 (ht:P.underlying t=some (.slice e)) (ht2:P.underlying t2=some d2) (hd2: ∀k,d2≠.int k) (hb0:ie.bytes≠0) (hzl:ie.zero.length=ie.size)
 (src:Src P E w ie.size m news u2 us) (hroom:cap < n+m) (a:Option Addr) (hcs:cs=old++news)
 (hov:bJ E w.heap old olds.toList) (ho1: ∀x∈olds.toList,x.oneCell'=true) (hos:olds.size=n*ie.size)
 (hold: ∀w2:World,w2.heap=w.heap→(Builtin.firstCells ie.size n (.slice a n cap)).run P w2= .ok olds w2) (h:wK ie e n m cs H=some (v,H')) :
 ∃x w' E',(Builtin.append_ #[t,t2] ty #[.slice a n cap,u2]).run P w= .ok x w'∧Stp E H w E' H' w'∧bG E' H' w'∧VR E' w'.heap v x:=by
 subst hcs
 unfold wK at h
 split at h
 ·rename_i hbound
  simp only [Option.some.injEq,Prod.mk.injEq] at h
  obtain⟨rfl,rfl⟩:=h
  obtain⟨inf,d,z,h1,h2,h3,h4,h5,h6,h7,h8⟩:=hte.all
  have hz:=fD (E:=E) (h:=w.heap) h4
  have hzs:z.cells.size=ie.size:=by have:=hz.1.length; simp only [Array.length_toList] at this; omega
  have hge:=grownCap_ge w (n+m) cap e
  have hsrc:=src.size
  obtain⟨s1,s2⟩:=kJ r (olds++us++Builtin.zeroCells z.cells (grownCap w (n+m) cap e - (n+m))) 0 0 e (hov.append src.vrs)
   (by intro x hx; rcases List.mem_append.1 hx with hx | hx; exact ho1 x hx; exact src.ones x hx)
   (by
    intro i x hx
    have hi:=(List.getElem?_eq_some_iff.1 hx).1
    rw [Array.getElem?_append_left (by simpa using hi)]
    rw [← Array.getElem?_toList,Array.toList_append]
    exact hx)
   (by omega) (w':=w.drew.alloc (.cells (olds++us++Builtin.zeroCells z.cells (grownCap w (n+m) cap e - (n+m))) e)) rfl ⟨rfl,rfl,rfl⟩
  refine⟨_,_,_,Xh (s:=ie.size) ht ht2 hd2 h1 h5 h3 (by rw [h6]; exact hb0) src hroom (by rw [h6]; exact hbound) a rfl hold,s1,s2,?_⟩
  simp only [VR]
  refine⟨En.jK _ _ _ _,_,_,rfl,hge,?_⟩
  simp only [fJ,En.ext_θ_new,En.ext_κ_new]
  left
  refine⟨trivial,?_⟩
  simp only [Array.size_append,size_zeroCells,hos,hsrc,hzs,← Nat.add_mul]
  rw [Nat.zero_add]
  congr 1
  omega
 ·simp at h
set_option maxHeartbeats 800000 in
theorem Jy [Glob] {t t2 ty:Nat} {H H':Hp} (r:bG E H w) {ie:TI} {e m:Nat} {news:List AV} {x v:AV} {d2:TypeDesc} {u u2:Value} {us:Array Value} (hte:tX P e ie)
 (ht:P.underlying t=some (.slice e)) (ht2:P.underlying t2=some d2) (hd2: ∀k,d2≠.int k) (hs0:ie.size≠0) (hb0:ie.bytes≠0) (hzl:ie.zero.length=ie.size)
 (src:Src P E w ie.size m news u2 us) (hx:VR E w.heap x u) (h:BR ie e m news x H=some (v,H')) :
 ∃y w' E',(Builtin.append_ #[t,t2] ty #[u,u2]).run P w= .ok y w'∧Stp E H w E' H' w'∧bG E' H' w'∧VR E' w'.heap v y:=by
 obtain⟨inf,d,z,h1,h2,h3,h4,h5,h6,h7,h8⟩:=hte.all
 have hpos:0 < ie.size:=by omega
 have hnl:=src.vrs.length
 have hns:=src.size
 simp only [Array.length_toList] at hnl
 unfold BR at h
 split at h
 ·
  simp only [VR] at hx
  subst hx
  split at h
  ·rename_i hm
   subst hm
   simp only [Option.some.injEq,Prod.mk.injEq] at h
   obtain⟨rfl,rfl⟩:=h
   exact⟨_,w,E,nD (s:=ie.size) ht ht2 hd2 h1 h5 src (Nat.le_refl _) (by simp only),Stp.refl _ _ _,r,by simp [VR]⟩
  ·rename_i hm
   exact xU (cap:=0) r hte ht ht2 hd2 hb0 hzl src (by omega) none (old:=[]) (olds:=#[]) (by simp) (by simp [bJ]) (by simp) (by simp) (fun w2 _=>by simp [Builtin.firstCells]) h
 ·
  rename_i id o len c
  have hx0:=hx
  simp only [VR] at hx
  obtain⟨hid,a,cap,rfl,hlen,hc⟩:=hx
  have hcap:cap=c:=by simp only [fJ] at hc; exact hc.1
  subst hcap
  split at h
  ·rename_i hroom
   split at h
   ·rename_i cs e' hl
    split at h
    ·rename_i cs' hs
     simp only [Option.some.injEq,Prod.mk.injEq] at h
     obtain⟨rfl,rfl⟩:=h
     obtain⟨w',g1,g2,g3⟩:=oP (P:=P) r hl hs src.vrs src.ones
     have hst:(storeCells (a.add (len*ie.size)) us.toList).run P w= .ok () w':=by
      rcases yP hc with ha | ha
      ·rw [ha,fH,Nat.add_assoc]; exact g1
      ·obtain rfl:m=0:=by omega
       have hnil:us.toList= []:=List.eq_nil_of_length_eq_zero (by rw [Array.length_toList,hns,Nat.zero_mul])
       rw [hnil] at g1 ⊢
       exact g1
     refine⟨_,w',E,nD (s:=ie.size) ht ht2 hd2 h1 h5 src hroom hst,g2,g3,?_⟩
     simp only [VR]
     refine⟨hid,a,cap,rfl,hroom,?_⟩
     simp only [fJ] at hc ⊢
     exact hc
    ·simp at h
   ·simp at h
  ·rename_i hroom
   split at h
   ·rename_i old hold
    obtain⟨ols,f1,f2,f3,f4⟩:=AP (P:=P) r hid hc hlen hold
    exact xU (cap:=cap) r hte ht ht2 hd2 hb0 hzl src (by omega) (some a) (old:=old) (olds:=ols.toArray) rfl (by simpa using f2) (by simpa using f3) (by simpa using f1)
     (fun w2 hw=>by simp only [Builtin.firstCells]; exact f4 w2 hw) h
   ·simp at h
 ·
  rename_i id o len es
  split at h
  ·rename_i hes
   subst hes
   simp only [VR] at hx
   obtain⟨hid,a,cap,rfl,hlen,hc⟩:=hx
   split at h
   ·rename_i cs e' hl
    obtain⟨arr,lo,hi,cus,b1,b2,b3,b4,b5,b6,b7⟩:=(r.live id _ hl).2.1
    split at h
    ·rename_i hle
     split at h
     ·rename_i cs' hs
      simp only [Option.some.injEq,Prod.mk.injEq] at h
      obtain⟨rfl,rfl⟩:=h
      obtain⟨w',g1,g2,g3⟩:=oP (P:=P) r hl hs src.vrs src.ones
      have hroom:len+m≤cap:=by
       simp only [fJ] at hc
       rcases hc with ⟨_,hc⟩ | ⟨rfl,rfl,hc⟩
       ·have:(len+m)*ie.size≤cap*ie.size:=by omega
        exact Nat.le_of_mul_le_mul_right this hpos
       ·have:(0+m)*ie.size=0:=by omega
        rcases Nat.mul_eq_zero.1 this with hh | hh <;> omega
      have hst:(storeCells (a.add (len*ie.size)) us.toList).run P w= .ok () w':=by
       rcases yP hc with ha | ha
       ·rw [ha,fH,Nat.add_assoc]; exact g1
       ·obtain rfl:m=0:=by omega
        have hnil:us.toList= []:=List.eq_nil_of_length_eq_zero (by rw [Array.length_toList,hns,Nat.zero_mul])
        rw [hnil] at g1 ⊢
        exact g1
      refine⟨_,w',E,nD (s:=ie.size) ht ht2 hd2 h1 h5 src hroom hst,g2,g3,?_⟩
      simp only [VR]
      refine⟨hid,a,cap,rfl,hroom,?_⟩
      simp only [fJ] at hc ⊢
      rcases hc with hc | ⟨rfl,rfl,hc⟩
      ·exact .inl hc
      ·exact .inr ⟨rfl,by omega,hc⟩
     ·simp at h
    ·rename_i aEZ
     split at h
     ·rename_i hend
      obtain⟨hend,rfl⟩:=hend
      split at h
      ·rename_i old hd
       obtain⟨d1,d2',d3⟩:=b2.fE hd
       have hcl:=b2.length
       have hm0:m≠0:=by
        intro hm
        subst hm
        rw [Nat.add_zero] at aEZ
        omega
       by_cases hroom:len+m≤cap
       ·
        have hfirst:a=⟨(E.θ id).1,(E.θ id).2+o,none⟩∧o+cap*ie.size=E.κ id:=by
         simp only [fJ] at hc
         rcases hc with hc | hc
         ·exact hc
         ·omega
        obtain⟨rfl,aFD⟩:=hfirst
        unfold wK at h
        split at h
        ·simp only [Option.some.injEq,Prod.mk.injEq] at h
         obtain⟨rfl,rfl⟩:=h
         have hml:len*ie.size+m*ie.size≤cap*ie.size:=by rw [← Nat.add_mul]; exact Nat.mul_le_mul_right _ hroom
         have hul:us.toList.length=m*ie.size:=by simpa using hns
         obtain⟨w',arr',e1,e2,e3,e4,e5,e6,e7⟩:=qG (P:=P) (E.θ id).1 ((E.θ id).2+(o+len*ie.size)) e' lo hi us.toList 0 arr w b1 b6 (by omega) src.ones
         have hst:(storeCells ((⟨(E.θ id).1,(E.θ id).2+o,none⟩ : Addr).add (len*ie.size)) us.toList).run P w= .ok () w':=by
          rw [fH,Nat.add_assoc]; exact e1
         have kp:Keeps E w.heap (E.ext H.fresh ((E.θ id).1,(E.θ id).2+o) (cap*ie.size)) w'.heap:=
          ⟨rfl,fun _ hh=> .inr hh,fun _ hh=>En.ext_θ E _ _ _ (r.Aq hh),fun _ hh=>En.ext_κ E _ _ _ (r.Aq hh),fun _ hh=>hh,(rY r hl e4).Lu⟩
         have hstep:=Yn r hl (.cells (old++news) e') o (cap*ie.size) e3 e4 e2 (by
          simp only [OR,En.ext_θ_new,En.ext_κ_new]
          refine⟨arr',lo,hi,cus.drop o++us.toList,e5,bJ.keep kp _ _ (d1.append src.vrs),?_,?_,by omega,by rw [e6]; exact b6,?_⟩
          ·intro i y hy
           rw [e7]
           have hdl:(cus.drop o).length=len*ie.size:=by rw [List.length_drop]; omega
           rw [List.getElem?_append] at hy
           split at hy
           ·rename_i hi'
            rw [if_neg (by omega)]
            rw [List.getElem?_drop] at hy
            rw [Nat.add_assoc]
            exact b3 _ _ hy
           ·rename_i hi'
            have hi2:=(List.getElem?_eq_some_iff.1 hy).1
            rw [if_pos (by omega)]
            rw [show (E.θ id).2+o+i - ((E.θ id).2+(o+len*ie.size)+0)=i - (cus.drop o).length from by omega]
            exact hy
          ·rw [List.length_append,d3]; omega
          ·intro y hy
           rcases List.mem_append.1 hy with hy | hy
           ·exact b7 y (List.mem_of_mem_drop hy)
           ·exact src.ones y hy)
         refine⟨_,w',_,nD (s:=ie.size) ht ht2 hd2 h1 h5 src hroom hst,hstep.1,hstep.2,?_⟩
         simp only [VR,show (H.drop id).fresh=H.fresh from rfl]
         refine⟨En.jK _ _ _ _,_,_,rfl,hroom,?_⟩
         simp only [fJ,En.ext_θ_new,En.ext_κ_new]
         left
         exact⟨by simp,by omega⟩
        ·simp at h
       ·
        have hread:qH H (.ptr id o) (len*ie.size)=some old:=by
         simp only [qH,hl,hd]
         have:len*ie.size=old.length:=by omega
         rw [this]
         clear h hd d1 d3 this
         induction old with
         | nil=>rfl
         | cons y ys ih=>simp [As.jT,ih]
        obtain⟨ols,f1,f2,f3,f4⟩:=AP (P:=P) r hid hc hlen hread
        obtain⟨q1,q2⟩:=drop_step r id
        have src':Src P E w ie.size m news u2 us:=src
        obtain⟨y,w',E',p1,p2,p3,p4⟩:=xU (t:=t) (t2:=t2) (ty:=ty) (cap:=cap) q2 hte ht ht2 hd2 hb0 hzl src' (by omega) (some a) (old:=old) (olds:=ols.toArray) rfl (by simpa using f2) (by simpa using f3) (by simpa using f1)
         (fun w2 hw=>by simp only [Builtin.firstCells]; exact f4 w2 hw) h
        exact⟨y,w',E',p1,q1.trans p2,p3,p4⟩
      ·simp at h
     ·simp at h
   ·simp at h
  ·simp at h
 ·
  rename_i cs n full
  have hx0:=hx
  simp only [VR] at hx
  obtain⟨b,o,cap,cus,rfl,hn,hf,g4,g5,g6,g7⟩:=hx
  split at h
  ·rename_i hm
   subst hm
   simp only [Option.some.injEq,Prod.mk.injEq] at h
   obtain⟨rfl,rfl⟩:=h
   have hnil:us.toList= []:=List.eq_nil_of_length_eq_zero (by rw [Array.length_toList,hns,Nat.zero_mul])
   exact⟨_,w,E,nD (s:=ie.size) ht ht2 hd2 h1 h5 src (by omega) (by simp only [hnil]; rfl),Stp.refl _ _ _,r,hx0⟩
  ·rename_i hm
   split at h
   ·rename_i hfull
    have hcap:=hf hfull
    subst hcap
    split at h
    ·rename_i old hold
     obtain⟨j1,j2⟩:=g5.jT hold
     have hcl:=g5.length
     have htl:(cus.take (cap*ie.size)).length=cap*ie.size:=by rw [List.length_take]; omega
     exact xU (cap:=cap) r hte ht ht2 hd2 hb0 hzl src (by omega) (some ⟨b,o,none⟩) (old:=old) (olds:=(cus.take (cap*ie.size)).toArray) rfl (by simpa using j1)
      (fun x hx=>g7 x (List.mem_of_mem_take (by simpa using hx))) (by simpa using htl)
      (fun w2 hw=>by simp only [Builtin.firstCells]; exact (g6.take _).loads htl w2 hw) h
    ·simp at h
   ·simp at h
 ·simp at h
theorem WL [Glob] {tt:TT} (htt:eG P tt) {H H':Hp} (r:bG E H w) {t t2 ty:Nat} {x y v:AV} {u u2:Value} (hx:VR E w.heap x u) (hy:VR E w.heap y u2) (h:NJ tt t t2 x y H=some (v,H')) :
 ∃z w' E',(Builtin.append_ #[t,t2] ty #[u,u2]).run P w= .ok z w'∧Stp E H w E' H' w'∧bG E' H' w'∧VR E' w'.heap v z:=by
 unfold NJ at h
 split at h
 ·rename_i ti hti
  split at h
  ·rename_i e hk
   split at h
   ·rename_i ie hie
    split at h
    ·simp at h
    ·rename_i ti2 alM
     obtain⟨d2,hd2,hk2⟩:=xR (htt t2 ti2 alM)
     split at h
     ·simp at h
     ·rename_i k2 hne
      split at h
      ·simp at h
      ·rename_i hcond
       simp only [not_or,Classical.not_not] at hcond
       split at h
       ·simp at h
       ·rename_i m news hsrc
        obtain⟨us,src⟩:=vP (P:=P) r hy hsrc
        refine Jy r (htt e ie hie) (fK (htt t ti hti) hk) hd2 ?_ hcond.1 hcond.2.1 hcond.2.2 src hx h
        intro k hd
        subst hd
        cases hkk:ti2.kind <;> rw [hkk] at hk2 <;> simp only [RZ] at hk2
        exact hne _ hkk
   ·simp at h
  ·simp at h
 ·simp at h
end
end Go.As
end
section
namespace Go.As
section
variable {P:Program} {E:En} {w:World}
theorem Zc [Glob] {tt:TT} (htt:eG P tt) {H H':Hp} (r:bG E H w) {t ty:Nat} {x:AV} {u:Value} (hx:VR E w.heap x u) (h:Ux tt t x H=some H') :
 ∃w',(Builtin.clear_ #[t] ty #[u]).run P w= .ok (.tuple #[]) w'∧Stp E H w E H' w'∧bG E H' w':=by
 unfold Ux at h
 split at h
 ·rename_i ti hti
  split at h
  ·rename_i e hk
   have hu:=fK (htt t ti hti) hk
   split at h
   ·rename_i ie hie
    obtain⟨inf,d,z,h1,h2,h3,h4,h5,h6,h7,h8⟩:=(htt e ie hie).all
    have hz:=fD (E:=E) (h:=w.heap) h4
    split at h
    ·simp at h
     subst h
     simp only [VR] at hx
     subst hx
     exact⟨w,by simp [Builtin.clear_,run_underlying hu],Stp.refl _ _ _,r⟩
    ·simp at h
     subst h
     simp only [VR] at hx
     obtain⟨⟨x,rfl⟩,_⟩:=hx
     exact⟨w,by cases x <;> simp [Builtin.clear_,run_underlying hu],Stp.refl _ _ _,r⟩
    ·rename_i id o len c
     simp only [VR] at hx
     obtain⟨hid,a,cap,rfl,hlen,hc⟩:=hx
     split at h
     ·simp at h
      subst h
      exact⟨w,by simp [Builtin.clear_,run_underlying hu],Stp.refl _ _ _,r⟩
     ·rename_i hl0
      split at h
      ·simp at h
      ·rename_i hne
       split at h
       ·rename_i cs e' hl
        split at h
        ·rename_i cs' hs
         simp at h
         subst h
         have ha:a=⟨(E.θ id).1,(E.θ id).2+o,none⟩:=by
          rcases yP hc with ha | ha
          ·exact ha
          ·exfalso; exact hl0 (by omega)
         have aAB:z.cells.toList≠[]:=by
          intro hx
          have:=hz.1.length
          rw [hx] at this
          exact hne (List.eq_nil_of_length_eq_zero (by simpa using this.symm))
         have hzc:(Builtin.zeroCells z.cells len).toList=repeatL z.cells.toList len:=Aw z.cells aAB len
         obtain⟨w',g1,g2,g3⟩:=oP (P:=P) r hl hs (pJ hz.1 len) (fun u hu=>hz.2 u (pI hu))
         refine⟨w',?_,g2,g3⟩
         subst ha
         obtain⟨l,rfl⟩ : ∃l,len=l+1:=⟨len - 1,by have:len≠0:=fun hh=>hl0 hh; omega⟩
         simp [Builtin.clear_,run_underlying hu,zeroValue,typeInfo,h1,h3,hzc,g1]
        ·simp at h
       ·simp at h
    ·simp at h
   ·simp at h
  ·simp at h
 ·simp at h
theorem Y0 [Glob] {tt:TT} (htt:eG P tt) {H H':Hp} (r:bG E H w) {t:Nat} {x v:AV} {u:Value} (hx:VR E w.heap x u) (h:Uk tt t x H=some (v,H')) :
 ∃y w' E',(Instr.range t u).run P w= .ok y w'∧Stp E H w E' H' w'∧bG E' H' w'∧VR E' w'.heap v y:=by
 unfold Uk at h
 split at h
 ·rename_i ti hti
  split at h
  ·rename_i hk
   split at h
   ·rename_i b
    simp only [Option.some.injEq,Prod.mk.injEq] at h
    obtain⟨rfl,rfl⟩:=h
    simp only [VR] at hx
    obtain⟨rfl,hlt⟩:=hx
    obtain⟨s1,s2⟩:=FM r (.stringIter (bZ b) 0) (.nS b 0) 0 (w':=w.iter (bZ b) 0) rfl ⟨rfl,rfl,rfl⟩ (by
     simp only [OR,En.ext_θ_new]
     exact⟨World.iter_heap _ _ _,trivial,hlt⟩)
    exact⟨_,_,_,run_range_string w t (bZ b) (gK (htt t ti hti) hk),s1,s2,Tt r 0 _ 0⟩
   ·simp at h
  ·simp at h
 ·simp at h
theorem afS [Glob] {H H':Hp} (r:bG E H w) {x v:AV} {u:Value} {isS:Bool} (hx:VR E w.heap x u) (h:Y2 x isS H=some (v,H')) (ty:Nat) :
 ∃y w',(Instr.next u isS ty).run P w= .ok y w'∧Stp E H w E H' w'∧bG E H' w'∧VR E w'.heap v y:=by
 unfold Y2 at h
 split at h
 ·simp at h
 ·split at h
  ·rename_i id
   split at h
   ·rename_i b p hl
    obtain⟨g1,g2,g3⟩:=(r.live id _ hl).2.1
    simp only [VR] at hx
    obtain⟨rfl,hid⟩:=hx
    rw [g2]
    have hg:=lH (P:=P) g1 (by simp)
    split at h
    ·rename_i hn
     simp only [Option.some.injEq,Prod.mk.injEq] at h
     obtain⟨rfl,rfl⟩:=h
     rw [dB,List.getElem?_eq_none_iff] at hn
     have hp: ¬p < (bZ b).size:=by rw [nH]; omega
     refine⟨.tuple #[.bool false],w,?_,Stp.refl _ _ _,r,?_⟩
     ·simp [Instr.next,hg,hp]
     ·simp only [VR,bJ]; exact⟨[.bool false],rfl,_,_,rfl,by simp [SB.den],rfl⟩
    ·rename_i c hn
     split at h
     ·rename_i hc
      simp only [Option.some.injEq,Prod.mk.injEq] at h
      obtain⟨rfl,rfl⟩:=h
      rw [dB] at hn
      have hpl:=(List.getElem?_eq_some_iff.1 hn).1
      have hp:p < (bZ b).size:=by rw [nH]; exact hpl
      have hb:(bZ b)[p]'hp=UInt8.ofNat c:=by
       have h1:(bZ b)[p]?=some ((bZ b)[p]'hp):=getElem?_pos (bZ b) p hp
       rw [Ld,hn] at h1
       simpa using h1.symm
      have hbn:((bZ b)[p]'hp).toNat=c:=by rw [hb]; simp; omega
      have hdec:=decode_ascii (bZ b) p hp (by rw [hbn]; exact hc)
      obtain⟨s1,s2⟩:=jV r hl (.nS b (p+1)) (.stringIter (bZ b) (p+1)) (by
       intro h' hh _
       exact⟨hh,g2,g3⟩)
      refine⟨.tuple #[.bool true,goInt p,.int .i32 ((bZ b)[p]'hp).toNat],_,?_,s1,s2,?_⟩
      ·simp only [Instr.next,Sem.run_bind,hg,Result.andThen_ok,hp,if_true,hdec,lD (P:=P) g1 (by simp),Sem.run_pure]
      ·simp only [VR,bJ,hbn]
       exact⟨_,rfl,_,_,rfl,by simp [SB.den],_,_,rfl,by simp [SE.den,goInt],_,_,rfl,by simp [SE.den],rfl⟩
     ·simp at h
   ·simp at h
  ·simp at h
theorem JY {ρ:Nat→Int} {pc:List (SB×Bool)} (hp:bI ρ pc) {c:SB} {b:Bool} (h:c.den ρ=b):bI ρ ((c,b) :: pc):=by
 intro d x hm
 rcases List.mem_cons.1 hm with hm | hm
 ·simp only [Prod.mk.injEq] at hm; rw [hm.1,hm.2]; exact h
 ·exact hp d x hm
theorem cO {α:Type} {ρ:Nat→Int} {s:St} (hp:bI ρ s.pc) {c:SB} {f:St→Bool→T α} {r:α} (h:(pV s c f).leaf ρ=some r) :
 ∃pc',bI ρ pc'∧(f { s with pc:=pc' } (c.den ρ)).leaf ρ=some r:=by
 unfold pV at h
 split at h
 ·rename_i b hb
  exact⟨s.pc,hp,by rw [iW hp hb]; exact h⟩
 ·split at h
  ·rename_i d
   simp only [T.leaf] at h
   split at h
   ·rename_i hc
    exact⟨_,JY hp hc,by simp only [SB.den,hc]; exact h⟩
   ·rename_i hc
    exact⟨_,JY hp hc,by simp only [SB.den,hc]; exact h⟩
  ·simp only [T.leaf] at h
   split at h
   ·rename_i hc
    exact⟨_,JY hp hc,by rw [hc]; exact h⟩
   ·rename_i hc
    exact⟨_,JY hp hc,by rw [hc]; exact h⟩
theorem T.fP {α β:Type} {ρ:Nat→Int} {f:α→T β} {r:β}: ∀{x:T α},(x.bind f).leaf ρ=some r→∃a,x.leaf ρ=some a∧(f a).leaf ρ=some r
 | .fail,h=>by simp [T.bind,T.leaf] at h
 | .ret a,h=> ⟨a,rfl,h⟩
 | .split c x y,h=>by
   simp only [T.bind,T.leaf] at h ⊢
   split at h <;> exact T.fP h
theorem qW {mx:Bool}: ∀{xs:List AV} {a:SE} {k:IntKind} {s s':St} {us:List Value} {v:AV},bI E.ρ s.pc→bJ E w.heap xs us→(zJ mx xs a k s).leaf E.ρ=some (v,s')→
 s'.h=s.h∧s'.slots=s.slots∧bI E.ρ s'.pc∧∃u,(us.foldlM (if mx then Builtin.max2 else Builtin.min2) (.int k (a.den E.ρ))).run P w= .ok u w∧VR E w.heap v u
 | [],a,k,s,s',us,v,hp,hv,h=>by
   simp only [zJ,T.leaf,Option.some.injEq,Prod.mk.injEq] at h
   obtain⟨rfl,rfl⟩:=h
   rw [kG] at hv
   subst hv
   exact⟨rfl,rfl,hp,_,rfl,by simp only [VR]⟩
 | x :: xs,a,k,s,s',us,v,hp,hv,h=>by
   rw [aW] at hv
   obtain⟨u,vs,rfl,hx,hxs⟩:=hv
   cases x <;> simp only [zJ,T.leaf,reduceCtorEq] at h
   rename_i k' b
   simp only [VR] at hx
   subst hx
   obtain⟨pc',hp',h1⟩:=cO hp h
   cases mx
   ·simp only [Bool.false_eq_true,if_false,dV] at h1 ⊢
    by_cases hc:b.den E.ρ < a.den E.ρ
    ·simp only [hc,decide_true,if_true] at h1
     obtain⟨q1,q2,q3,u,q4,q5⟩:=qW hp' hxs h1
     refine⟨q1,q2,q3,u,?_,q5⟩
     simp only [List.foldlM_cons,Sem.run_bind,Builtin.min2,Sem.run_pure,Result.andThen_ok,hc,if_true]
     simpa using q4
    ·simp only [hc,decide_false,Bool.false_eq_true,if_false] at h1
     obtain⟨q1,q2,q3,u,q4,q5⟩:=qW hp' hxs h1
     refine⟨q1,q2,q3,u,?_,q5⟩
     simp only [List.foldlM_cons,Sem.run_bind,Builtin.min2,Sem.run_pure,Result.andThen_ok,hc,if_false]
     simpa using q4
   ·simp only [if_true,dV] at h1 ⊢
    by_cases hc:a.den E.ρ < b.den E.ρ
    ·simp only [hc,decide_true,if_true] at h1
     obtain⟨q1,q2,q3,u,q4,q5⟩:=qW hp' hxs h1
     refine⟨q1,q2,q3,u,?_,q5⟩
     simp only [List.foldlM_cons,Sem.run_bind,Builtin.max2,Sem.run_pure,Result.andThen_ok,gt_iff_lt,hc,if_true]
     simpa using q4
    ·simp only [hc,decide_false,Bool.false_eq_true,if_false] at h1
     obtain⟨q1,q2,q3,u,q4,q5⟩:=qW hp' hxs h1
     refine⟨q1,q2,q3,u,?_,q5⟩
     simp only [List.foldlM_cons,Sem.run_bind,Builtin.max2,Sem.run_pure,Result.andThen_ok,gt_iff_lt,hc,if_false]
     simpa using q4
end
end Go.As
end
section
namespace Go.As
section
variable {P:Program} {E:En} {w:World}
theorem adZ (ρ:Nat→Int) (a b:SB):(ajL a b).den ρ=(a.den ρ && b.den ρ):=by
 unfold ajL
 split <;> simp [SB.den]
theorem afX {i:TI} {t:Nat} (hti:tX P t i) {x y:AV} {u v:Value} (hx:VR E w.heap x u) (hy:VR E w.heap y v) {c:SB} (h:Zg i.kind x y=some c) (d:Nat) :
 (Op.equalIn (d+1) t u v).run P w= .ok (c.den E.ρ) w∧u.oneCell'=true∧v.oneCell'=true∧i.agg=false:=by
 unfold Zg at h
 split at h
 ·rename_i k hk
  split at h
  ·split at h
   ·rename_i hkk
    subst hkk
    simp at h
    subst h
    simp only [VR] at hx hy
    subst hx hy
    exact⟨by rw [run_equalIn_int w d t _ _ _ _ (Ci hti hk),lN],rfl,rfl,by simp [TI.agg,TK.agg,hk]⟩
   ·simp at h
  ·simp at h
 ·rename_i hk
  split at h
  ·simp at h
   subst h
   simp only [VR] at hx hy
   obtain⟨rfl,hx⟩:=hx
   obtain⟨rfl,hy⟩:=hy
   exact⟨by rw [run_equalIn_string w d t _ _ (gK hti hk),aaS hx hy]; rfl,rfl,rfl,by simp [TI.agg,TK.agg,hk]⟩
  ·obtain⟨a,b,rfl,rfl,hd⟩:=La hx hy h
   exact⟨by rw [run_equalIn_string w d t _ _ (gK hti hk),D8,hd],rfl,rfl,by simp [TI.agg,TK.agg,hk]⟩
 ·rename_i hk
  split at h
  ·simp only [VR] at hx hy
   subst hx hy
   exact⟨by rw [run_equalIn_bool' w d t _ _ (Vf hti hk),Jq h],rfl,rfl,by simp [TI.agg,TK.agg,hk]⟩
  ·simp at h
 ·simp at h
theorem acM {tt:TT} (htt:eG P tt) {xs ys:List AV} {us vs:List Value} (hx:bJ E w.heap xs us) (hy:bJ E w.heap ys vs) (d:Nat): ∀{BA:List Field} {l:List (Nat×Nat×Nat)} {c:SB},
 (BA.mapM fun f=>(P.info? f.type).map fun i=>(f.offset,f.type,i.size))=some l→(∀f∈BA,f.name≠ "_")→amO tt xs ys l=some c→
 (Op.eqFields (d+1) us.toArray vs.toArray BA).run P w= .ok (c.den E.ρ) w
 | [],l,c,hm,_,h=>by
   simp at hm
   subst hm
   simp [amO] at h
   subst h
   simp [Op.eqFields,SB.den]
 | f :: BA,l,c,hm,hn,h=>by
   simp only [List.mapM_cons,Option.bind_eq_bind,Option.bind_eq_some_iff] at hm
   obtain⟨p,h1,ls,h2,h3⟩:=hm
   simp only [pure,Option.some.injEq] at h3
   subst h3
   rw [Option.map_eq_some_iff] at h1
   obtain⟨inf,aFE,rfl⟩:=h1
   simp only [amO] at h
   split at h
   ·simp at h
   ·rename_i i hi
    split at h
    ·rename_i x y hxn hyn
     split at h
     ·simp at h
     ·rename_i c1 hc1
      split at h
      ·simp at h
      ·rename_i c2 hc2
       simp at h
       subst h
       obtain⟨u,hu1,hu2⟩:=hx.nth hxn
       obtain⟨v,hv1,hv2⟩:=hy.nth hyn
       obtain⟨e1,e2,e3,e4⟩:=afX (w:=w) (htt f.type i hi) hu2 hv2 hc1 d
       have ih:=acM htt hx hy d h2 (fun g hg=>hn g (by simp [hg])) hc2
       have p1:(part f.type us.toArray f.offset).run P w= .ok u w:=by simp [part,uD (htt f.type i hi),e4,hu1]
       have p2:(part f.type vs.toArray f.offset).run P w= .ok v w:=by simp [part,uD (htt f.type i hi),e4,hv1]
       simp only [Op.eqFields]
       rw [if_pos (hn f (by simp))]
       simp only [Sem.run_bind,p1,p2,e1,Result.andThen_ok,adZ]
       cases hcd:c1.den E.ρ
       ·simp
       ·simp [ih]
    ·simp at h
theorem NH {tt:TT} (htt:eG P tt) {t:Nat} {xs ys:List AV} {us vs:List Value} {c:SB} (hx:bJ E w.heap xs us) (hy:bJ E w.heap ys vs) (h:Kv tt t xs ys=some c) (op:BinOp) (x y:Operand) :
 (eqGuard op t x y (.agg us.toArray) (.agg vs.toArray)).run P w= .ok () w∧(binOp .eql t (.agg us.toArray) (.agg vs.toArray)).run P w= .ok (.bool (c.den E.ρ)) w∧(binOp .neq t (.agg us.toArray) (.agg vs.toArray)).run P w= .ok (.bool (!(c.den E.ρ))) w:=by
 unfold Kv at h
 split at h
 ·simp at h
 ·rename_i i hi
  split at h
  ·rename_i fs hk
   split at h
   ·rename_i hq
    have hti:=htt t i hi
    have he:=hti.eqs hq
    obtain⟨BA,hu,hm⟩:=D7 hti hk
    unfold amN at he
    rw [hu] at he
    simp only [Bool.and_eq_true,Bool.not_eq_true',List.all_eq_true,bne_iff_ne,ne_eq] at he
    obtain⟨⟨h1,h2⟩,h3⟩:=he
    have hf:P.fieldsOf t=BA:=by simp [Program.fieldsOf,hu]
    have h10:(10000:Nat)=9998+1+1:=rfl
    have key:(Op.equalIn 10000 t (.agg us.toArray) (.agg vs.toArray)).run P w= .ok (c.den E.ρ) w:=by
     rw [h10]
     generalize (9998:Nat)=n
     rw [run_equalIn_struct w (n+1) t _ _ (by rw [hf]; exact hu) h1,hf]
     exact acM htt hx hy n hm (fun f hf=>(h3 f hf).1) h
    refine⟨run_eqGuard_agg w op t x y _ _ h2,?_,?_⟩
    ·rw [run_eql_struct,key]; rfl
    ·rw [run_neq_struct,key]; rfl
   ·simp at h
  ·simp at h
def After [Glob] (E:En) (s:St) (w:World) (v:AV) (s':St) (u:Value) (w':World):Prop:= ∃E',Stp E s.h w E' s'.h w'∧bG E' s'.h w'∧VR E' w'.heap v u
def oD [Glob] (P:Program) (E:En) (s:St) (o:Oper) (a:Act) (w:World) (v:AV) (s':St):Prop:=
 s'.slots=s.slots∧bI E.ρ s'.pc∧wR P o a w (After E s w v s')
theorem aF {α:Type} {ρ:Nat→Int} {a b:α} (h:(T.ret a).leaf ρ=some b):a=b:=by simpa [T.leaf] using h
theorem jD {s:St} {a:Act} {x:Operand} {f:AV→T (AV×St)} {r:AV×St} (sr:SR E w.heap s.slots a) (h:(G6 s x f).leaf E.ρ=some r): ∃v,VR E w.heap v (a.eval x)∧(f v).leaf E.ρ=some r:=by
 unfold G6 at h
 split at h
 ·rename_i v hv; exact⟨v,jI sr hv,h⟩
 ·simp [T.leaf] at h
theorem kN {s s':St} {v:AV} {r:Option AV} {ρ:Nat→Int} (h:(xG s r).leaf ρ=some (v,s')):r=some v∧s'=s:=by
 unfold xG at h
 split at h
 ·have:=aF h; simp only [Prod.mk.injEq] at this; exact⟨by rw [this.1],this.2.symm⟩
 ·simp [T.leaf] at h
theorem Fv {s s':St} {v:AV} {r:Option Hp} {ρ:Nat→Int} (h:(Yl s r).leaf ρ=some (v,s')): ∃H,r=some H∧v=AV.undef∧s'= { s with h:=H }:=by
 unfold Yl at h
 split at h
 ·rename_i H; have:=aF h; simp only [Prod.mk.injEq] at this; exact⟨H,rfl,this.1.symm,this.2.symm⟩
 ·simp [T.leaf] at h
theorem uS {s s':St} {v:AV} {r:Option (AV×Hp)} {ρ:Nat→Int} (h:(Jb s r).leaf ρ=some (v,s')): ∃H,r=some (v,H)∧s'= { s with h:=H }:=by
 unfold Jb at h
 split at h
 ·rename_i x H; have:=aF h; simp only [Prod.mk.injEq] at this; obtain⟨rfl,rfl⟩:=this; exact⟨H,rfl,rfl⟩
 ·simp [T.leaf] at h
theorem rP {h:Array Obj}:VR E h AV.undef undef:=by simp only [AV.undef,VR,bJ]; exact⟨[],rfl,rfl⟩
variable {s s':St} {o:Oper} {a:Act} {v:AV}
theorem oD.pure [Glob] (hp:bI E.ρ s.pc) (r:bG E s.h w) {u:Value} (h:(execOp a.eval o).run P w= .ok (.value u) w) (hv:VR E w.heap v u):oD P E s o a w v s:=
 ⟨rfl,hp,wR.value h ⟨E,Stp.refl _ _ _,r,hv⟩⟩
theorem oD.heap [Glob] {H':Hp} {E':En} {w':World} (hp:bI E.ρ s.pc) {u:Value} (h:(execOp a.eval o).run P w= .ok (.value u) w') (h1:Stp E s.h w E' H' w') (h2:bG E' H' w') (hv:VR E' w'.heap v u) :
 oD P E s o a w v { s with h:=H' }:=
 ⟨rfl,hp,wR.value h ⟨E',h1,h2,hv⟩⟩
end
end Go.As
end
section
namespace Go.As
theorem EI {α:Type} {ρ:Nat→Int} {kk:TK} {k:AV} {r:α} {f:St→T α}: ∀{es:List (AV×AV×Nat)} {s:St},bI ρ s.pc→(zZ kk k es s f).leaf ρ=some r→∃pc',bI ρ pc'∧(f { s with pc:=pc' }).leaf ρ=some r
 | [],s,hp,h=> ⟨s.pc,hp,h⟩
 | (k',v,b) :: es,s,hp,h=>by
   simp only [zZ] at h
   split at h
   ·split at h
    ·exact⟨s.pc,hp,h⟩
    ·exact EI hp h
   ·split at h
    ·obtain⟨pc1,hp1,h1⟩:=cO hp h
     split at h1
     ·exact⟨pc1,hp1,h1⟩
     ·obtain⟨pc2,hp2,h2⟩:=EI (s:={ s with pc:=pc1 }) hp1 h1
      exact⟨pc2,hp2,h2⟩
    ·exact⟨s.pc,hp,h⟩
theorem vO {α:Type} {ρ:Nat→Int} {tt:TT} {t:Nat} {m k:AV} {r:α} {f:St→T α} {s:St} (hp:bI ρ s.pc) (h:(rO tt t m k s f).leaf ρ=some r): ∃pc',bI ρ pc'∧(f { s with pc:=pc' }).leaf ρ=some r:=by
 unfold rO at h
 split at h
 ·split at h
  ·split at h
   ·split at h
    ·exact EI hp h
    ·exact⟨s.pc,hp,h⟩
   ·exact⟨s.pc,hp,h⟩
  ·exact⟨s.pc,hp,h⟩
 ·exact⟨s.pc,hp,h⟩
theorem WO {ρ:Nat→Int} {k:IntKind} {e:SE} {f:AV→St→T (AV×St)} {r:AV×St}: ∀(n j:Nat) {s:St},bI ρ s.pc→(j:Int)≤e.den ρ→e.den ρ < (j:Int)+n→(WQ k e f n j s).leaf ρ=some r→
 ∃(i:Nat) (pc':List (SB×Bool)),bI ρ pc'∧e.den ρ=(i:Int)∧(f (.int k (.lit (Int.ofNat i))) { s with pc:=pc' }).leaf ρ=some r
 | 0,j,s,_,_,_,h=>by simp [WQ,T.leaf] at h
 | n+1,j,s,hp,h1,h2,h=>by
   simp only [WQ] at h
   split at h
   ·exact⟨j,s.pc,hp,by omega,h⟩
   ·obtain⟨pc1,hp1,h3⟩:=cO hp h
    rw [lN] at h3
    split at h3
    ·rename_i he
     simp only [SE.den,beq_iff_eq] at he
     exact⟨j,pc1,hp1,he,h3⟩
    ·rename_i he
     simp only [SE.den,beq_eq_false_iff_ne,ne_eq] at he
     have hj:(Int.ofNat j)=(j:Int):=rfl
     rw [hj] at he
     obtain⟨i,pc2,hp2,q1,q2⟩:=WO n (j+1) (s:={ s with pc:=pc1 }) hp1 (by push_cast; omega) (by push_cast at h2 ⊢; omega) h3
     exact⟨i,pc2,hp2,q1,q2⟩
theorem rF {α:Type} {ρ:Nat→Int} {s:St} (hp:bI ρ s.pc) {i n:SE} {f:St→T α} {r:α} (h:(FD s i n f).leaf ρ=some r) :
 ∃pc',bI ρ pc'∧0≤i.den ρ∧i.den ρ < n.den ρ∧(f { s with pc:=pc' }).leaf ρ=some r:=by
 unfold FD at h
 obtain⟨pc1,hp1,h1⟩:=cO hp h
 split at h1
 ·simp [T.leaf] at h1
 ·rename_i e1
  rw [dV,decide_eq_false_iff_not] at e1
  obtain⟨pc2,hp2,h2⟩:=cO (s:={ s with pc:=pc1 }) hp1 h1
  split at h2
  ·rename_i e2
   rw [dV,decide_eq_true_eq] at e2
   simp only [SE.den,Int.not_lt] at e1
   exact⟨pc2,hp2,e1,e2,h2⟩
  ·simp [T.leaf] at h2
theorem GV {E:En} {h0:Array Obj} {tt:TT} {t:Nat} {x ix:AV} {ui:Value} {f:AV→St→T (AV×St)} {r:AV×St} {s:St} (hp:bI E.ρ s.pc) (hix:VR E h0 ix ui) (h:(RJ tt t x ix s f).leaf E.ρ=some r) :
 ∃ix' pc',bI E.ρ pc'∧VR E h0 ix' ui∧(f ix' { s with pc:=pc' }).leaf E.ρ=some r:=by
 unfold RJ at h
 split at h
 ·exact⟨ix,s.pc,hp,hix,h⟩
 ·split at h
  ·rename_i k e _
   split at h
   ·rename_i n hn
    obtain⟨pc1,hp1,h1,h2,h3⟩:=rF hp h
    simp only [SE.den] at h2
    obtain⟨i,pc2,hp2,q1,q2⟩:=WO n 0 (s:={ s with pc:=pc1 }) hp1 (by simpa using h1) (by simpa using h2) h3
    refine⟨_,pc2,hp2,?_,q2⟩
    simp only [VR,SE.den] at hix ⊢
    rw [hix,q1]
    rfl
   ·simp [T.leaf] at h
  ·simp [T.leaf] at h
theorem QA {ro:Nat→Prop} {h:Array Obj} {t:Nat} {d:D} {v:Value} (r:Rd ro h (.sl t) d v):(0 < d.l.length→∃a n cap,v= .slice (some a) n cap)∧(d= .i 1→v= .slice none 0 0)∧(d= .i 2→∃a n cap,v= .slice (some a) n cap):=by
 generalize hc:CK.sl t=c at r
 cases r with
 | int k n=>simp at hc
 | bool b=>simp at hc
 | str s=>simp at hc
 | nil t=>exact⟨by simp [D.l],fun _=>rfl,by simp⟩
 | non t a cap=>exact⟨by simp [D.l],by simp,fun _=> ⟨a,0,cap,rfl⟩⟩
 | one t c b o cap ds f hr hcp hb h1 h2=>exact⟨fun _=> ⟨_,_,_,rfl⟩,fun q=>by cases ds <;> simp [dL] at q,fun q=>by cases ds <;> simp [dL] at q⟩
 | many t cs b o cap rows f hr hcp hb hl h1 h2=>exact⟨fun _=> ⟨_,_,_,rfl⟩,fun q=>by cases rows <;> simp [dL] at q,fun q=>by cases rows <;> simp [dL] at q⟩
theorem TJ {P:Program} {E:En} {w:World} {tt:TT} (htt:eG P tt) {t e:Nat} {ti:TI} (hti:tt t=some ti) (hk:ti.kind= .slice e) {u:Value} {b:Bool} (hu:(b=true∧u= .slice none 0 0)∨(b=false∧∃a n cap,u= .slice (some a) n cap)) {s s':St} {op:BinOp} {v:AV} {ρ:Nat→Int}
 (h:(akL s op b).leaf ρ=some (v,s')):s'=s∧∃y,(binOp op t u (.slice none 0 0)).run P w= .ok y w∧VR E w.heap v y∧(∀cs ds,¬(u= .agg cs∧(Value.slice none 0 0)= .agg ds))∧¬(u= .nilIface∧(Value.slice none 0 0)= .nilIface):=by
 obtain⟨d,h1,h2⟩:=xR (htt t ti hti)
 rw [hk] at h2
 have he:(Op.equal t u (.slice none 0 0)).run P w= .ok b w:=by
  have hm:Op.equal t u (.slice none 0 0)=Op.equalIn (9999+1) t u (.slice none 0 0):=rfl
  rw [hm]
  generalize (9999:Nat)=n
  cases d <;> simp only [RZ] at h2
  rcases hu with ⟨rfl,rfl⟩ | ⟨rfl,a,m,cap,rfl⟩ <;> simp [Op.equalIn,Fj h1]
 have hns:(∀k n,u≠.int k n)∧(∀s,u≠.string s)∧(∀k n,u≠.float k n)∧(∀k n m,u≠.complex k n m):=by
  rcases hu with ⟨_,rfl⟩ | ⟨_,a,m,cap,rfl⟩ <;> simp
 obtain⟨q1,q2⟩:=binOp_eql he hns.1 hns.2.1 hns.2.2.1 hns.2.2.2
 unfold akL at h
 split at h
 ·simp only [T.leaf,Option.some.injEq,Prod.mk.injEq] at h
  obtain⟨rfl,rfl⟩:=h
  exact⟨rfl,_,q1,by simp only [VR,SB.den],by simp,by simp⟩
 ·simp only [T.leaf,Option.some.injEq,Prod.mk.injEq] at h
  obtain⟨rfl,rfl⟩:=h
  exact⟨rfl,_,q2,by simp only [VR,SB.den],by simp,by simp⟩
 ·simp [T.leaf] at h
theorem asN {P:Program} {E:En} {w:World} {tt:TT} (htt:eG P tt) {t:Nat} {a b:AV} {e:SE} (hn:Yy tt t a b=some e) {u u':Value} (ha:VR E w.heap a u) (hb:VR E w.heap b u') {s s':St} (hp:bI E.ρ s.pc) {op:BinOp} {v:AV} (h:(aAj s e op).leaf E.ρ=some (v,s')) :
 s'.slots=s.slots∧s'.h=s.h∧bI E.ρ s'.pc∧∃y,(binOp op t u u').run P w= .ok y w∧VR E w.heap v y∧(∀cs ds,¬(u= .agg cs∧u'= .agg ds))∧¬(u= .nilIface∧u'= .nilIface):=by
 unfold Yy at hn
 split at hn
 ·split at hn
  ·split at hn
   ·rename_i ti hti
    split at hn
    ·rename_i el hk
     simp only [Option.some.injEq] at hn
     subst hn
     simp only [VR] at ha hb
     subst hb
     obtain⟨k1,k2,k3⟩:=QA ha
     unfold aAj at h
     obtain⟨pc1,hp1,h1⟩:=cO hp h
     split at h1
     ·rename_i t1
      rw [dV,decide_eq_true_eq,dD] at t1
      simp only [SE.den] at t1
      obtain⟨rfl,q⟩:=TJ (P:=P) (E:=E) (w:=w) htt hti hk (.inr ⟨rfl,k1 (by omega)⟩) h1
      exact⟨rfl,rfl,hp1,q⟩
     ·obtain⟨pc2,hp2,h2⟩:=cO (s:={ s with pc:=pc1 }) hp1 h1
      split at h2
      ·rename_i t2
       rw [pG,oQ,beq_iff_eq] at t2
       simp only [SE.den] at t2
       obtain⟨rfl,q⟩:=TJ (P:=P) (E:=E) (w:=w) htt hti hk (.inl ⟨rfl,k2 (qK t2)⟩) h2
       exact⟨rfl,rfl,hp2,q⟩
      ·obtain⟨pc3,hp3,h3⟩:=cO (s:={ s with pc:=pc2 }) hp2 h2
       split at h3
       ·rename_i t3
        rw [pG,oQ,beq_iff_eq] at t3
        simp only [SE.den] at t3
        obtain⟨rfl,q⟩:=TJ (P:=P) (E:=E) (w:=w) htt hti hk (.inr ⟨rfl,k3 (qK t3)⟩) h3
        exact⟨rfl,rfl,hp3,q⟩
       ·simp [T.leaf] at h3
    ·simp at hn
   ·simp at hn
  ·simp at hn
 ·simp at hn
end Go.As
end

import Derived.Lib.Bytealg
import Derived.Lib.IndexMore
import Derived.Deep.LoopGhost
import Derived.IntWalk
import Derived.ChangeArms
import Derived.DataReads
import GoSem.ClaimJoined
import Derived.OpenShut
import Derived.KernelRfl
import Derived.Test.YtniglnbdppnhoaaGreatDoorProg
import Derived.Shelf.Strings.Search3
import Derived.Shelf.LaysM
import Derived.Shelf.Strings.Shaped
import Derived.Test.YtniglnbdppnhoaaGreatDoorAsZR1
set_option linter.unusedSectionVars false
set_option linter.unusedVariables false
set_option linter.unusedSimpArgs false
section
namespace Go.As
section
variable {P:Program}
theorem CV {α:Type} {l pre:List α} {a b:α} {l0:List α} (h:l=pre++a::b::l0):l.reverse[l0.length]?=some b/\l.reverse[l0.length+1]?=some a:=by
 grind
theorem zH {n b:Nat} (h:((1 <<<n)-1).testBit b=true):b<n:=by
 rw [Nat.shiftLeft_eq,aam,Nat.testBit_two_pow_sub_one] at h
 grind
theorem C1 [bp] {tt:TT} {ops:Array Oper} {ms:List Nat} {ρ:Nat->Int} {gK:Tr Z} {H0:Hp} {base Y!:Nat} {d:yi} (sf:Ew tt ops.toList ms) (K:base=H0.next) (hN:base+ops.size<=Y!)
 (rf:Im P ρ ops base Y! (items tt ops.toList ms ops.toList 0 0) ⟨gK,[(⟨H0.m,base+ops.size,none⟩,0)],[],[],[]⟩ d)
 (xp: ∀r∈((items tt ops.toList ms ops.toList 0 0).filter (·.k.DY)).map fun x=>(x,nq (items tt ops.toList ms ops.toList 0 0) (dH tt ops.toList) x),∃v,d.vs.reverse[r.1.i]?=some v/\∀k∈r.2,∃h mm,d.eY.reverse[k]?=some (h,mm)/\rE P ρ ops r.1.o (only d.bj r.1.rd) (ct base r.1.m mm d.c7 h) v (ct base r.1.m mm d.c7 h))
 (D3:tp base d.c7 d.eY=true) :
 ∃p:rA P ρ ops gK H0,p.base=base/\p.nE=dH tt ops.toList/\(∀i,p.val i=(d.vs.reverse[i]?).getD .dw)/\(∀k h mm,d.eY.reverse[k]?=some (h,mm)->p.F k=h/\∀a,p.un k a=!mm.testBit a)/\(∀i,p.ru i=(d.oE.reverse[i]?).getD none)/\
  (∀(m:Nat),m<p.nE->∃(j:Nat) (o:Oper),ops[j]?=some o/\p.kd j= .e/\p.st j=m):=by
 have dc: ∀(j:Nat),ops.toList[j]?=ops[j]?:=fun j=>aK;have c6: ∀{j:Nat} {o:Oper},ops[j]?=some o->j<ops.size:=fun h=>(aV.1 h).1;have Md:dQ (items tt ops.toList ms ops.toList 0 0)=dH tt ops.toList:=fy _ _ _;have sK:dH tt ops.toList=dH tt (ops.toList.take ops.size):=by rw [abm ad]
 obtain⟨ps,s1,s2⟩:=rf.eY;rw [Md] at s2;have LF:d.eY.length=dH tt ops.toList+1:=by rw [s1,aO,s2]; rfl
 have Ji:d.eY.reverse[0]?=some (⟨H0.m,base+ops.size,none⟩,0):=by rw [s1]; simp
 have Hj: ∀k,k<=dH tt ops.toList->∃h mm,d.eY.reverse[k]?=some (h,mm):=by
  intro k R;have:k<d.eY.reverse.length:=by rw [abo]; omega
  exact⟨d.eY.reverse[k].1,d.eY.reverse[k].2,aJ this⟩
 have Fk:=rf.It (by
  intro q hq;simp only [aw,aaJ,or_false] at hq;subst hq
  exact⟨hN,rfl⟩)
 have Fj: ∀(k:Nat) (h:Hp) (mm:Nat),d.eY.reverse[k]?=some (h,mm)->h.next<=Y!/\h.res=none:=by intro k h mm hh;exact Fk (h,mm) (by have:=aP hh; simpa using this)
 let Js:Nat->Hp:=fun k=>((d.eY.reverse[k]?).map (·.1)).getD ⟨.nil,0,none⟩
 let IL:Nat->Nat->Bool:=fun k a=>match d.eY.reverse[k]? with |some q=>!q.2.testBit a|none=>false
 let II:Nat->Nat->Bool:=fun i j=>match ops[j]? with |some _=>(ms.getD j 0).testBit i|none=>false
 let F4:Nat->Kind:=fun i=>match ops[i]? with |some o=>kindOf tt o.op|none=> .pa
 let uR:Nat->Option bS:=fun i=>(d.oE.reverse[i]?).getD none
 have Ff: ∀k h mm,d.eY.reverse[k]?=some (h,mm)->Js k=h/\∀a,IL k a=!mm.testBit a:=by intro k h mm hh;refine⟨by simp only [Js,hh]; rfl,fun a=>by simp only [IL,hh]⟩
 have Ck: ∀{i j:Nat} {o:Oper},ops[j]?=some o->II i j=(ms.getD j 0).testBit i:=by intro i j o ho;simp only [II,ho]
 have Br: ∀{j:Nat} {o:Oper},ops[j]?=some o->F4 j=kindOf tt o.op:=by intro j o ho;simp only [F4,ho]
 have Kx: ∀{j:Nat},F4 j= .e->∃o,ops[j]?=some o/\kindOf tt o.op= .e:=by
  intro j hj
  cases ho:ops[j]? with
  |none=>simp only [F4,ho] at hj; simp at hj
  |some o=>exact⟨o,rfl,by rw [<- Br ho]; exact hj⟩
 have BJ: ∀(k:Nat),∀(o':Oper),ops[k]?=some o'->∀b,(ms.getD k 0).testBit b=true->b<k:=by
  intro k
  induction k using Nat.strongRecOn with
  |_ k ih=>
   intro o' o4 b Ef;rw [sf.mask k o' (by rw [dc]; exact o4)] at Ef;obtain⟨e,e1,e2,e3⟩:=gB Ef;have Er:e∈o'.after:=by simpa using e1
   have Fm:=sf.back k o' (by rw [dc]; exact o4) e Er e2;rcases e3 with rfl|e3
   ·exact Fm
   ·have:=c6 o4;have:=ih e.on Fm (ops[e.on]'J) ad b e3;omega
 have JZ: ∀(i:Nat),∃S:Tr Z,∀(o:Oper),ops[i]?=some o->∃dp Au v ob pre,dp.bj=S/\rz P ρ ops base Y! (ni tt ops.toList ms i o) dp v ob Au/\d.vs.reverse[i]?=some v/\d.oE.reverse[i]?=some ob/\d.eY=pre++Au.eY/\dp.eY.length=1+dH tt (ops.toList.take i)/\
  (∀q,q∈dp.c7->q∈d.c7)/\(∀t x,S.get t=some x->(∃p oj,p<i/\ops[p]?=some oj/\oj.dst=some t/\d.vs.reverse[p]?=some x)\/(gK.get t=some x/\∀(p:Nat) (oj:Oper),p<i->ops[p]?=some oj->oj.dst≠some t)):=by
  intro i
  cases Fi:ops[i]? with
  |none=>exact⟨.nil,fun o h=>by simp at h⟩
  |some o0=>
   have M:(items tt ops.toList ms ops.toList 0 0)[i]?=some (ni tt ops.toList ms i o0):=dq (by rw [dc]; exact Fi);obtain⟨dp,Au,v,ob,pre,g1,g2,g3,g4,g5,g6,g7,g8⟩:=rf.at_ i _ M;refine⟨dp.bj,fun o ho=>?_⟩;simp only [af] at ho;subst ho;refine⟨dp,Au,v,ob,pre,rfl,g1,by simpa using g2,by simpa using g3,g4,?_,g6,?_⟩
   ·rw [g5];congr 1
    have:(items tt ops.toList ms ops.toList 0 0).take i=items tt ops.toList ms (ops.toList.take i) 0 0:=by
     apply aaz;intro j;rw [aan,dN,dN,aan];split
     ·rename_i hj;rw [List.take_take,Nat.min_eq_left J]
     ·rfl
    rw [this,fy]
   ·intro t x ht;rcases g8 t x ht with ⟨p,y,q1,q2,q3,q4⟩|⟨q1,q2⟩
    ·cases gE:ops.toList[p]? with
     |none=>rw [dN,gE] at q2; simp at q2
     |some oj=> rw [dq gE] at q2;simp at q2;subst q2;exact .inl ⟨p,oj,q1,by rw [<- dc]; exact gE,q3,by simpa using q4⟩
    ·refine .inr ⟨q1,fun p oj F gE=>?_⟩
     have hm:ni tt ops.toList ms p oj∈(items tt ops.toList ms ops.toList 0 0).take i:=by refine aP (i:=p) ?_;rw [aan,ak F];exact dq (by rw [dc]; exact gE)
     exact q2 _ hm
 obtain⟨Sd,jl⟩:=Classical.skolem.1 JZ
 let Sf:Nat->Tr Z:=fun i=>match ops[i]? with
  |some o=>(match kindOf tt o.op with
   | .r=>only d.bj (reads ops.toList o)
   |_=>only (Sd i) (reads ops.toList o))
  |none=> .nil
 have K4: ∀{i:Nat} {o:Oper},ops[i]?=some o->kindOf tt o.op= .r->Sf i=only d.bj (reads ops.toList o):=by intro i o ho R;simp only [Sf,ho,R]
 have Km: ∀{i:Nat} {o:Oper},ops[i]?=some o->kindOf tt o.op≠.r->Sf i=only (Sd i) (reads ops.toList o):=by
  intro i o ho R;have:Sf i=(match kindOf tt o.op with | .r=>only d.bj (reads ops.toList o)|_=>only (Sd i) (reads ops.toList o)):=by simp only [Sf,ho]
  rw [this]
  cases hh:kindOf tt o.op with
  |r=>exact absurd hh R
  |pa=>rfl
  |e=>rfl
 have HT: ∀a b,(a,b)∈d.c7->uR a=some b:=by
  intro a b wS;rcases rf.ru a b wS with h|⟨p,x,g1,g2,g3⟩
  ·simp at h
  ·cases ho:ops.toList[p]? with
   |none=>rw [dN,ho] at g1; simp at g1
   |some o=> rw [dq ho] at g1;simp at g1;subst g1;have:p=a:=g2;subst this;simp only [aaX,ax] at g3;simp only [uR,g3,aI]
 have HS: ∀a b,uR a=some b->(a,b)∈d.c7:=by
  intro a b wS
  have KH:d.oE.reverse[a]?=some (some b):=by
   simp only [uR] at wS
   cases hh:d.oE.reverse[a]? with
   |none=>rw [hh] at wS; simp at wS
   |some x=>rw [hh] at wS; simp at wS; rw [wS]
  obtain⟨po,o1,o2⟩:=rf.oE
  have HW:a<ops.size:=by have O:=(aL.1 KH).1;rw [abo,o1,aaE,o2,jf] at O;simpa using O
  have M:(items tt ops.toList ms ops.toList 0 0)[a]?=some (ni tt ops.toList ms a ops[a]):=dq (by rw [dc]; simp [HW]);exact rf.Kl a _ b M (by simpa using KH)
 refine⟨{
  base:=base,bf:=II,kd:=F4,S:=Sf,val:=fun i=>(d.vs.reverse[i]?).getD .dw,st:=fun i=>dH tt (ops.toList.take i),nE:=dH tt ops.toList,F:=Js,un:=IL,ru:=uR,
  gen:=?_,back:=?_,dst:=?_,bj:=?_,Kt:=?_,inj:=?_,Gl:=?_,pa:=?_,ev:=?_,rd:=?_,Kq:=?_,I0:=?_,first:=?_ },rfl,rfl,fun i=>rfl,Ff,fun i=>rfl,?_⟩
 ·intro i j h
  cases ho:ops[j]? with
  |none=>simp only [II,ho] at h; simp at h
  |some o=>
   rw [Ck ho,sf.mask j o (by rw [dc]; exact ho)] at h;obtain⟨e,e1,e2,e3⟩:=gB h;have Er:e∈o.after:=by simpa using e1
   refine⟨o,e,rfl,Er,e2,e3.imp id fun N=>?_⟩;have I:=sf.back j o (by rw [dc]; exact ho) e Er e2;have hj:=c6 ho;rw [Ck (o:=ops[e.on]'J) ad];exact N
 ·intro j o ho e he Ef;exact sf.back j o (by rw [dc]; exact ho) e he Ef
 ·intro i j oi oj dd hi hj O U;exact sf.dst i j oi oj dd (by rw [dc]; exact hi) (by rw [dc]; exact hj) O U
 ·intro i o ho t x ht
  cases R:kindOf tt o.op with
  |r=>
   rw [K4 ho R] at ht;obtain⟨O,U⟩:=mg ht;rcases rf.slot t x U with ⟨p,y,g1,g2,g3⟩|⟨g1,g2⟩
   ·cases gE:ops.toList[p]? with
    |none=>rw [dN,gE] at g1; simp at g1
    |some oj=>
     rw [dq gE] at g1;simp at g1;subst g1;have F:ops[p]?=some oj:=by rw [<- dc]; exact gE
     refine .inl ⟨p,oj,?_,F,g2,?_⟩
     ·rw [Ck ho];rcases sf.rd i o (by rw [dc]; exact ho) t O p oj gE g2 with h|⟨h,_⟩
      ·exact h
      ·exact absurd R h
     ·simp only [aaX,ax] at g3;simp only [g3,aI]
   ·refine .inr ⟨g1,fun j oj gE hd=>?_⟩;exact absurd hd (g2 _ (aP (dq (by rw [dc]; exact gE))))
  |_=>
   rw [Km ho (by rw [R]; simp)] at ht;obtain⟨O,U⟩:=mg ht;obtain⟨dp,Au,v,ob,pre,_,_,_,_,_,_,_,g8⟩:=jl i o ho;rcases g8 t x U with ⟨p,oj,q1,q2,q3,q4⟩|⟨q1,q2⟩
   ·refine .inl ⟨p,oj,?_,q2,q3,by rw [q4]; rfl⟩;rw [Ck ho];rcases sf.rd i o (by rw [dc]; exact ho) t O p oj (by rw [dc]; exact q2) q3 with h|⟨_,h⟩
    ·exact h
    ·have:=BJ p oj q2 i h;omega
   ·refine .inr ⟨q1,fun j oj gE hd=>?_⟩;rw [Ck gE];rcases sf.rd i o (by rw [dc]; exact ho) t O j oj (by rw [dc]; exact gE) hd with h|⟨_,h⟩
    ·exact absurd hd (q2 j oj (BJ i o ho j h) gE)
    ·exact h
 ·intro j o ho R;rw [Br ho] at R;rw [sK];exact uO (by rw [dc]; exact ho) R (c6 ho)
 ·intro i j hi hj he;obtain⟨oi,Fi,Dn⟩:=Kx hi;obtain⟨oj,gE,Dm⟩:=Kx hj;rcases abi i j with h|h|h
  ·have:=uO (tt:=tt) (l:=ops.toList) (by rw [dc]; exact Fi) Dn h;omega
  ·exact h
  ·have:=uO (tt:=tt) (l:=ops.toList) (by rw [dc]; exact gE) Dm h;omega
 ·intro j o ho R m hm;obtain⟨i,oi,O,U,N,h4⟩:=kW hm;rw [Br ho] at R;have IH:ops[i]?=some oi:=by rw [<- dc]; exact U
  refine⟨i,by rw [Br IH]; exact N,h4,?_⟩;rw [Ck ho];exact sf.DT i j oi o U (by rw [dc]; exact ho) N R O
 ·intro i o ho R;rw [Br ho] at R;obtain⟨dp,Au,v,ob,pre,IE,hF,g2,g3,g4,g5,g6,g7⟩:=jl i o ho;obtain⟨h0,mm,rest,hs,hF⟩:=hF;simp only [ni,R] at hF;obtain⟨_,HA,f1,f2,f3⟩:=hF;rw [IE] at f1;refine⟨HA,Y!,?_,f2,?_,?_⟩
  ·rw [Km ho (by rw [R]; simp)];simp only [g2,aI];exact f1
  ·simp only [uR,g3,aI];exact f3
  ·intro k rH;obtain⟨U,MC,hh⟩:=Hj k rH;rw [(Ff _ _ _ hh).1];exact (Fj _ _ _ hh).1
 ·intro j o ho R;rw [Br ho] at R;obtain⟨dp,Au,v,ob,pre,IE,hF,g2,g3,g4,g5,g6,g7⟩:=jl j o ho;obtain⟨h0,mm,rest,hs,hF⟩:=hF;simp only [ni,R] at hF;obtain⟨_,hn,f1,f2,f3,f4⟩:=hF;rw [IE] at f4;rw [f1,hs] at g4;have Jo:rest.length=dH tt (ops.toList.take j):=by rw [hs] at g5; simp at g5; omega
  obtain⟨r1,r2⟩:=CV g4;rw [Jo] at r1 r2;obtain⟨p1,p2⟩:=Ff _ _ _ r1;obtain⟨p3,p4⟩:=Ff _ _ _ r2;refine⟨ct base (ms.getD j 0) mm dp.c7 h0,?_,?_,?_,?_,?_⟩
  ·rw [Km ho (by rw [R]; simp)];simp only [g2,aI,p3];exact f4
  ·rw [(dI _ _).1,p1]
  ·rw [(dI _ _).2];exact (Fj _ _ _ r1).2
  ·intro id x M;rcases gm M with h|⟨a,a1,a2,a3,a4⟩
   ·left; rw [p1]; exact h
   ·right;exact⟨a,by rw [Ck ho]; exact a2,by rw [p2,a3]; rfl,a4,HT a x (g6 _ a1)⟩
  ·intro a ha;rw [p4] at ha;simp only [Nat.testBit_or,Bool.not_or,an,bd] at ha;refine⟨by rw [p2,ha.1]; rfl,?_⟩;rw [Ck ho];exact ha.2
 ·intro i o ho R k Fp O U;rw [Br ho] at R;have Fl:ni tt ops.toList ms i o∈items tt ops.toList ms ops.toList 0 0:=aP (dq (by rw [dc]; exact ho))
  obtain⟨v,g1,g2⟩:=xp (ni tt ops.toList ms i o,nq (items tt ops.toList ms ops.toList 0 0) (dH tt ops.toList) (ni tt ops.toList ms i o)) (by
   rw [aF]
   exact⟨_,aaK.2 ⟨Fl,by simp [ni,R,Kind.DY]⟩,rfl⟩)
  have Ae:k∈nq (items tt ops.toList ms ops.toList 0 0) (dH tt ops.toList) (ni tt ops.toList ms i o):=by
   unfold nq;rw [aaK,aal];refine⟨J,aE.2 fun y hy=>?_⟩;obtain⟨j,oj,gE,rfl⟩:=sH hy;have Di:ops[j]?=some oj:=by rw [<- dc]; exact gE
   cases Dm:kindOf tt oj.op with
   |pa=>simp [ni,Dm,Kind.DZ]
   |r=>simp [ni,Dm,Kind.DZ]
   |e=>
    simp only [ni,Dm,Kind.DZ,aaG,aaI,an,aah,bd,decide_eq_true_eq];constructor
    ·cases Fz:(ms.getD i 0).testBit j with
     |false=>exact .inl rfl
     |true=>exact .inr (O j (by rw [Br Di]; exact Dm) (by rw [Ck ho]; exact Fz))
    ·cases Fz:(ms.getD j 0).testBit i with
     |false=>exact .inl rfl
     |true=>exact .inr (U j oj Di (by rw [Br Di]; exact Dm) (by rw [Ck Di]; exact Fz))
  obtain⟨h0,mm,g3,g4⟩:=g2 k Ae;obtain⟨p1,p2⟩:=Ff _ _ _ g3;refine⟨ct base (ms.getD i 0) mm d.c7 h0,?_,?_,?_,?_⟩
  ·have Dt:d.vs.reverse[i]?=some v:=g1;rw [K4 ho R];simp only [Dt,aI];exact g4
  ·rw [(dI _ _).1,p1]
  ·rw [(dI _ _).2];exact (Fj _ _ _ g3).2
  ·intro id x M;rcases gm M with h|⟨a,a1,a2,a3,a4⟩
   ·left; rw [p1]; exact h
   ·right;exact⟨a,by rw [Ck ho]; exact a2,by rw [p2,a3]; rfl,a4,HT a x a1⟩
 ·intro k a x R M hu;obtain⟨h0,mm,hh⟩:=Hj k R;obtain⟨p1,p2⟩:=Ff _ _ _ hh;rw [p1];rw [p2] at hu;unfold tp at D3;have:=aE.1 D3 _ (HS a x M)
  have:=aE.1 this (h0,mm) (by
   have:=aP hh
   simpa using this)
  simp only [aah,Option.isNone_iff_eq_none] at this;simp only [bd] at hu;rcases this with h|h
  ·rw [hu] at h; simp at h
  ·exact h
 ·intro i R
  cases ho:ops[i]? with
  |none=>
   obtain⟨po,o1,o2⟩:=rf.oE
   have y6:d.oE.reverse[i]?=none:=by rw [aaD,abo,o1,aaE,o2,jf];have:=abz.1 ho;simpa using this
   simp only [uR,y6,Option.getD_none]
  |some o=>
   obtain⟨dp,Au,v,ob,pre,IE,hF,g2,g3,g4,g5,g6,g7⟩:=jl i o ho;obtain⟨h0,mm,rest,hs,hF⟩:=hF;rw [Br ho] at R
   cases j7:kindOf tt o.op with
   |pa=>exact absurd j7 R
   |e=> simp only [ni,j7] at hF;simp only [uR,g3,aI,hF.1]
   |r=> simp only [ni,j7] at hF;simp only [uR,g3,aI,hF.1]
 ·have:=(Ff 0 _ _ Ji).1;refine⟨K,by rw [this]; exact ar _,fun id x h=>?_⟩;rw [this] at h;exact h
 ·intro m hm;have JC:m<dH tt (ops.toList.take ops.size):=by rw [<- sK]; exact hm
  obtain⟨i,oi,O,U,N,h4⟩:=kW JC;have IH:ops[i]?=some oi:=by rw [<- dc]; exact U
  exact⟨i,oi,IH,by show F4 i=_; rw [Br IH]; exact N,h4⟩
end
section
variable {P:Program}
theorem re [bp] {tt:TT} (bx:bV P tt) {call:bR} (B:dD P call) {ops:Array Oper} {E:En} {s s':St} {a:Act} {w:World} {Q:Exit->Act->World->Prop}
 (hd: ∀o∈ops.toList,∀d,o.dst=some d->d<a.tmps.size) (fit:Fit E s a w) (h:(draw tt call ops.toList s).leaf E.ρ=some s') (hq: ∀a' w',fB E s a w s' a' w'->Q .normal a' w') :
 wpAny P .any ops Q ops.size (Array.replicate ops.size false) a { w with drawn:=w.drawn+1 }:=by
 unfold draw rh at h;split at h
 ·simp [T.leaf] at h
 ·rename_i q LJ;split at h
  ·simp [T.leaf] at h
  ·rename_i xq;simp only at h;obtain⟨⟨ea,d⟩,O,U⟩:=T.cA h;simp only at U;obtain⟨ms,e1,e2,e3,sf⟩:=CL LJ;rw [e1,] at O;have rf:=zl bx B _ fit.pc O;have dE:=zk _ fit.pc O;split at U
   ·simp [T.leaf] at U
   ·rename_i h0 mm rest Jh;obtain⟨gQ,N,h4⟩:=T.cA U;split at h4
    ·rename_i D3;have:=bh h4;subst this
     have Hn:=r7 bx B q.rs dE (by
      intro r hr;rw [e3,aF] at hr;obtain⟨x,M,rfl⟩:=hr;rw [aaK,e1] at M;obtain⟨j,o,ho,rfl⟩:=sH M.1;have h5:(kindOf tt o.op).DY=true:=M.2;show kindOf tt o.op= .r;revert h5
      cases kindOf tt o.op<;>simp [Kind.DY]) N
     have gw:=Hn.1;have xp:=Hn.2;rw [e3,e1,e2] at xp;obtain⟨p,p1,p2,p3,p4,p5,p6⟩:=C1 sf (base:=s.h.next) (H0:=s.h) rfl (Nat.le_add_right _ _) rf xp D3;have dc: ∀(j:Nat),ops.toList[j]?=ops[j]?:=fun j=>aK;let w1:World:={ w with drawn:=w.drawn+1 };have Kc:Fit E s a w1:=⟨⟨fit.rel.fresh,fit.rel.res,fit.rel.live,fit.rel.inj,fit.rel.oy,fit.rel.jM,fit.rel.hid⟩,fit.sr,fit.pc⟩
     have HD: ∀(i:Nat),(Array.replicate ops.size false)[i]?≠some true:=by
      intro i hh
      grind
     refine p.any (E0:=E) (a0:=a) (w0:=w1) hd ?_ ops.size _ a w1 ad ?_ (p.start rfl rfl rfl Kc _ HD)
     ·intro a' w' inv;obtain⟨ps,s1,s2⟩:=rf.eY;rw [fy] at s2
      have hlen:rest.length=dH tt ops.toList:=by
       have:d.eY.length=dH tt ops.toList+1:=by rw [s1,aO,s2]; rfl
       grind
      have Eb:d.eY.reverse[dH tt ops.toList]?=some (h0,mm):=by
       grind
      obtain⟨q1,q2⟩:=p4 _ _ _ Eb
      have Fk:=rf.It (by
       intro q hq;simp only [aw,aaJ,or_false] at hq;subst hq
       exact⟨Nat.le_add_right _ _,rfl⟩) (h0,mm) (by rw [Jh]; simp)
      have ht:=p.finish (s0:=s) (s':=⟨d.bj,ct s.h.next ((1 <<<ops.toList.length)-1) mm d.c7 h0,gQ⟩) (w0:=w1) rfl inv gw ?_ ?_ ?_ ?_ p6
      ·refine hq a' w' ⟨ht.defers,ht.size,?_⟩;obtain⟨E',st,f'⟩:=ht.step;exact⟨E',⟨st.ρ,st.dm,st.θ,st.κ,st.ro,st.lU,st.zY,st.ED,st.Cz,st.os,st.tape,st.output,st.size,st.bw,st.own,st.hd⟩,f'⟩
      ·intro t x ht;rcases rf.slot t x ht with ⟨j,y,g1,g2,g3⟩|⟨g1,g2⟩
       ·cases gE:ops.toList[j]? with
        |none=>rw [dN,gE] at g1; simp at g1
        |some oj=>
         rw [dq gE] at g1;simp at g1;subst g1;refine .inl ⟨j,oj,by rw [<- dc]; exact gE,g2,?_⟩
         grind
       ·refine .inr ⟨g1,fun j oj gE=>?_⟩;exact g2 _ (aP (dq (by rw [dc]; exact gE)))
      ·intro id x M;rw [p2,q1,p1];rcases gm M with h|⟨b,b1,b2,b3,b4⟩
       ·grind
       ·right
        have c6:b<ops.size:=by
         have:=zH b2
         grind
        refine⟨b,c6,by rw [q2,b3]; rfl,b4,?_⟩;rcases rf.ru b x b1 with h|⟨j,y,g1,g2,g3⟩
        ·grind
        ·cases gE:ops.toList[j]? with
         |none=>rw [dN,gE] at g1; simp at g1
         |some oj=>
          rw [dq gE] at g1;simp at g1;subst g1;have:j=b:=g2
          grind
      ·rw [p2,q1];exact (dI _ _).1.symm
      ·show (ct s.h.next ((1 <<<ops.toList.length)-1) mm d.c7 h0).res=none;rw [(dI _ _).2]
       grind
     ·have: ∀(l:Nat->Bool) (n:Nat),left l n<=n:=by
       intro l n
       induction n with
       |zero=>exact ar _
       |succ n ih=>simp only [left]; split<;>omega
      grind
    ·simp [T.leaf] at h4
theorem DC [bp] {tt:TT} (bx:bV P tt) (hm:P.follows .mixedOrders=true) {call:bR} (B:dD P call):DQ P (draw tt call):=by intro id ops E s s' a w Q hd fit h hq;exact wp_region_any hm (re bx B hd fit h hq)
end
end Go.As
end
section
namespace Go.As
noncomputable section
open Go.RowKit
section
variable {P:Program}
def En.zero (ρ:Nat->Int) (ro:Nat->Prop):En:={ ρ:=ρ,θ:=fun _=>(0,0),κ:=fun _=>0,dm:=fun _=>False,ro:=ro }
def Hp.zero:Hp:=⟨.nil,0,none⟩
theorem AI [bp] (ρ:Nat->Int) (ro:Nat->Prop) (w:World) (h: ∀b,ro b->b<w.heap.size) (hg:bp.ok ρ ro w.heap):bq (En.zero ρ ro) Hp.zero w:=
 ⟨fun _ _ h=>h,by simp [Hp.zero],fun id o h=>by simp [Hp.zero,Hp.get,Tr.get] at h,fun id _ o _ h=>by simp [Hp.zero,Hp.get,Tr.get] at h,h,hg,fun _ _ h=>by simp [En.zero] at h⟩
theorem ca.below {E E':En} {H':Hp} {w w':World} (s:ca E Hp.zero w E' H' w'):Below w.heap.size w w':=
 ⟨s.os,s.tape,s.output,s.size,fun k R=>s.bw k R fun id o h=>by simp [Hp.zero,Hp.get,Tr.get] at h⟩
theorem jE [bp] {g:FuncId} {f:List Z->St->T (Z×St)} (hf:fh P g f) {fn:Func} (BG:P.funcs[g]?=some fn) (eM:(fn.name == "runtime.NumGoroutine")=false) {c:Code} (AG:fn.body=some c)
 {ρ:Nat->Int} {ro:Nat->Prop} {w:World} (eP: ∀b,ro b->b<w.heap.size) (hg:bp.ok ρ ro w.heap) {args:List Z} {dg:List Value} (W:bC (En.zero ρ ro) w.heap args dg) {v:Z} {s':St}
 (h:(f args ⟨.nil,Hp.zero,[]⟩).leaf ρ=some (v,s')):Calls P g dg.toArray w fun e w'=> ∃u E',e= .returned u/\V E' w'.heap v u/\E'.ρ=ρ/\Below w.heap.size w w':=by
 obtain⟨_,_,N⟩:=hf args ⟨.nil,Hp.zero,[]⟩ (En.zero ρ ro) w dg v s' (AI ρ ro w eP hg) W (by simp [bu]) h
 have iu:(callFunc g dg.toArray).run P w= .ok (.enter g dg.toArray) w:=by unfold callFunc;simp [BG,AG,by simpa using eM]
 unfold gy iU at N;rw [iu] at N;exact Calls.mono N fun e w' ⟨u,he,E',st,_,W⟩=> ⟨u,E',he,W,st.ρ,st.below⟩
end
end
end Go.As
end
section
namespace Go.As
noncomputable section
open Go.RowKit
mutual
def cY:Z->Bool
 | .bool (.lit _)=>true
 | .int _ (.lit _)=>true
 | .str _=>true
 | .dw=>true
 | .bE=>true
 | .eS=>true
 | .jZ=>true
 | .lB=>true
 | .iface _ v=>cY v
 | .agg cs=>gi cs
 | .tuple cs=>gi cs
 | .func _ fs cs=>gi fs&&gi cs
 |_=>false
def gi:List Z->Bool
 |[]=>true
 |x::xs=>cY x&&gi xs
end
section
variable {P:Program}
mutual
theorem kY {E E':En} {h h':Array Obj}: ∀(x:Z) (u:Value),cY x=true->V E h x u->V E' h' x u
 | .bool b,u,B,W=>by cases b<;>simp [cY] at B; simpa [V,SB.den] using W
 | .int k e,u,B,W=>by cases e<;>simp [cY] at B; simpa [V,Y.den] using W
 | .str s,u,_,W=>by simp only [V] at *; exact W
 | .dw,u,_,W=>by simp only [V] at *; exact W
 | .bE,u,_,W=>by simp only [V] at *; exact W
 | .eS,u,_,W=>by simp only [V] at *; exact W
 | .jZ,u,_,W=>by simp only [V] at *; exact W
 | .lB,u,_,W=>by simp only [V] at *; exact W
 | .iface t x,u,B,W=>by simp only [V,cY] at *;obtain⟨y,O,U⟩:=W;exact⟨y,O,kY x y B U⟩
 | .agg cs,u,B,W=>by simp only [V,cY] at *;obtain⟨us,O,U⟩:=W;exact⟨us,O,fL cs us B U⟩
 | .tuple cs,u,B,W=>by simp only [V,cY] at *;obtain⟨us,O,U⟩:=W;exact⟨us,O,fL cs us B U⟩
 | .func fn fs cs,u,B,W=>by simp only [V,cY,an] at *;obtain⟨us,ws,O,U,N⟩:=W;exact⟨us,ws,O,fL fs us B.1 U,fL cs ws B.2 N⟩
 | .ptr _ _,_,B,_=>by simp [cY] at B
 | .fD _,_,B,_=>by simp [cY] at B
 | .slice _ _ _ _,_,B,_=>by simp [cY] at B
 | .ro _ _ _,_,B,_=>by simp [cY] at B
 | .map _,_,B,_=>by simp [cY] at B
 | .vu _,_,B,_=>by simp [cY] at B
 | .k8 _ _,_,B,_=>by simp [cY] at B
theorem fL {E E':En} {h h':Array Obj}: ∀(xs:List Z) (us:List Value),gi xs=true->bC E h xs us->bC E' h' xs us
 |[],us,_,W=>by simp only [bC] at *; exact W
 |x::xs,us,B,W=>by simp only [bC,gi,an] at *;obtain⟨u,vs,O,U,N⟩:=W;exact⟨u,vs,O,kY x u B.1 U,fL xs vs B.2 N⟩
end
theorem kZ [bp] {E:En} {H:Hp} {w w':World} (r:bq E H w) (b:Below w.heap.size w w'):ca E H w E H w'/\bq E H w':=by have R:c9 E w.heap E w'.heap:=⟨rfl,fun _ h=>h,fun _ _=>rfl,fun _ _=>rfl,fun _ h=>h,fun x M=>b.block x (r.oy x M)⟩;refine⟨⟨rfl,fun _ h=>h,fun _ _=>rfl,fun _ _=>rfl,fun _ h=>h,fun _ h=> .inl h,ar _,.inr rfl,fun _ h=> .inl h,b.os,b.tape,b.output,b.size,fun x M _=>b.block x M,fun id o h _=> ⟨id,o,h,rfl⟩,rfl⟩,r.fresh,r.res,fun id o h=>?_,r.inj,fun x M=>aac (r.oy x M) b.size,bp.bw r.jM R.ro R.pU,r.HJ rfl b.size (fun _ h=> .inl h) fun id o h _=> ⟨id,o,h,rfl⟩⟩;obtain⟨O,U,N⟩:=r.live id o h;exact⟨O,U.bw R O (b.block _ (eO r h)) (r.Ed rfl (fun x M _=>b.block x M) _),N⟩
def z6 (args:List Z) (v:Z):List Z->St->T (Z×St):=fun aaa s=>if dk aaa args then .ret (v,s) else .fail
def sM (args:List Z) (v:Z) (f:List Z->St->T (Z×St)):Bool:=
 gi args&&cY v&&(match f args ⟨.nil,Hp.zero,[]⟩ with | .ret (u,_)=>bZ u v|_=>false)
theorem yF [bp] {g:FuncId} {f:List Z->St->T (Z×St)} (hf:fh P g f) {fn:Func} (BG:P.funcs[g]?=some fn) (eM:(fn.name == "runtime.NumGoroutine")=false) {c:Code} (K:fn.body=some c)
 {args:List Z} {v:Z} (h:sM args v f=true):fh P g (z6 args v):=by
 intro aaa s E w dg u s' r W F I;unfold z6 at I;split at I
 ·rename_i hs;have:=bh I;simp only [ag] at this;obtain⟨rfl,rfl⟩:=this;rw [cy _ _ hs] at W;unfold sM at h;simp only [an] at h;obtain⟨⟨O,U⟩,N⟩:=h;split at N
  ·rename_i u' s1 iu;have hu:=dx _ _ N;subst hu;have B:=jE hf BG eM K (ρ:=E.ρ) (ro:=E.ro) (w:=w) r.oy r.jM (fL args dg O W) (v:=u') (s':=s1) (by rw [iu]; rfl);refine⟨rfl,F,?_⟩
   have iu:(callFunc g dg.toArray).run P w= .ok (.enter g dg.toArray) w:=by unfold callFunc;simp [BG,K,by simpa using eM]
   unfold gy iU;rw [iu];exact Calls.mono B fun e w' ⟨x,E',he,M,_,iN⟩=> ⟨x,he,E,(kZ r iN).1,(kZ r iN).2,kY u' x U M⟩
  grind
 ·simp [T.leaf] at I
def orElse (f g:List Z->St->T (Z×St)):List Z->St->T (Z×St):=fun aaa s=>match f aaa s with | .fail=>g aaa s|x=>x
theorem ss [bp] {id:FuncId} {f g:List Z->St->T (Z×St)} (hf:fh P id f) (hg:fh P id g):fh P id (orElse f g):=by
 intro aaa s E w dg u s' r W F I;unfold orElse at I;split at I
 ·exact hg aaa s E w dg u s' r W F I
 ·exact hf aaa s E w dg u s' r W F I
end
end
end Go.As
end
section
namespace Go.As
noncomputable section
open Go.RowKit
section
variable {P:Program}
theorem kS {g:FuncId} {fn:Func} {e:Array Value->Sem Value} (hf:P.funcs[g]?=some fn) (eM:(fn.name == "runtime.NumGoroutine")=false) (K:fn.body.isNone=true) (hn:Extern.findNext fn=none) (he:Extern.find fn=some e)
 {args:Array Value} {w:World} {u:Value} (hr:(e args).run P w= .ok u w):(callFunc g args).run P w= .ok (.value u) w:=by
 have AG:fn.body=none:=by simpa using K
 unfold callFunc;simp [hf,AG,by simpa using eM,hn,he,hr]
def rn (c:Nat):List Nat->Nat
 |[]=>0
 |x::xs=>if x.beq c then rn c xs+1 else rn c xs
def nT:List Z->St->T (Z×St):=fun args s=>match args with
 |[.str b,.int .u8 (.lit (.ofNat c))]=>if c<256 then .ret (.int .i64 (.lit (Int.ofNat (rn c b))),s) else .fail
 |_=> .fail
theorem tq {a b:Nat} (ha:a<256) (K:b<256):(UInt8.ofNat a == UInt8.ofNat b)=a.beq b:=by
 rw [aX];simp only [beq_iff_eq,Nat.beq_eq];constructor
 ·intro h;have:=congrArg UInt8.toNat h;simp only [aad] at this;omega
 grind
theorem td {c:Nat} (B:c<256): ∀{s:List Nat},(∀b∈s,b<256)->Lib.countByte (s.map UInt8.ofNat) (UInt8.ofNat c)=rn c s
 |[],_=>rfl
 |x::xs,h=>by
  have ih:=td B (s:=xs) fun b K=>h b (by simp [K]);unfold Lib.countByte at *;rw [au,List.count_cons,ih,tq (h x ad) B];simp only [rn]
  grind
theorem B9 [bp] {g:FuncId} {fn:Func} (hf:P.funcs[g]?=some fn) (eM:(fn.name == "runtime.NumGoroutine")=false) (K:fn.body.isNone=true) (hn:Extern.findNext fn=none) (he:Extern.find fn=some Extern.BytealgCount.count):fh P g nT:=by
 intro aaa s E w dg u s' r W F I;unfold nT at I;split at I
 ·rename_i b c;split at I
  ·rename_i B;have:=bh I;simp only [ag] at this;obtain⟨rfl,rfl⟩:=this;simp only [bC,V,Y.den] at W;obtain⟨u1,r1,rfl,⟨rfl,wQ⟩,u2,r2,rfl,rfl,rfl⟩:=W;refine⟨rfl,F,?_⟩;unfold gy iU;rw [kS hf eM K hn he (Lib.run_countString (bG b) (Int.ofNat c) w)];refine⟨E,ca.refl _ _ _,r,?_⟩;simp only [V,Y.den];have:(Int.ofNat c).toNat.toUInt8=UInt8.ofNat c:=rfl;rw [this];have U:(bG b).data.toList=b.map UInt8.ofNat:=by simp [bG]
   rw [U,td B wQ];rfl
  ·simp [T.leaf] at I
 ·simp [T.leaf] at I
def qy (c:Nat):List Nat->Int
 |[]=> -1
 |x::xs=>if x.beq c then 0 else match qy c xs with
  | .ofNat n=> .ofNat (n+1)
  | .negSucc n=> .negSucc n
def nR:List Z->St->T (Z×St):=fun args s=>match args with
 |[.str b,.int .u8 (.lit (.ofNat c))]=>if c<256 then .ret (.int .i64 (.lit (qy c b)),s) else .fail
 |_=> .fail
theorem sI {c:Nat} (B:c<256): ∀{s:List Nat},(∀b∈s,b<256)->Lib.indexByte (s.map UInt8.ofNat) (UInt8.ofNat c)=qy c s
 |[],_=>rfl
 |x::xs,h=>by
  have ih:=sI B (s:=xs) fun b K=>h b (by simp [K]);have Cv:=Lib.indexByte_ge (xs.map UInt8.ofNat) (UInt8.ofNat c);simp only [au,Lib.indexByte,qy];rw [tq (h x ad) B];cases x.beq c
  ·simp only [ay,if_false];rw [ih] at Cv ⊢
   cases hi:qy c xs with
   |ofNat n=>rw [hi] at Cv; simp
   |negSucc n=>
    grind
  ·rfl
theorem Bv [bp] {g:FuncId} {fn:Func} (hf:P.funcs[g]?=some fn) (eM:(fn.name == "runtime.NumGoroutine")=false) (K:fn.body.isNone=true) (hn:Extern.findNext fn=none) (he:Extern.find fn=some Extern.BytealgIndexByte.indexByte):fh P g nR:=by
 intro aaa s E w dg u s' r W F I;unfold nR at I;split at I
 ·rename_i b c;split at I
  ·rename_i B;have:=bh I;simp only [ag] at this;obtain⟨rfl,rfl⟩:=this;simp only [bC,V,Y.den] at W;obtain⟨u1,r1,rfl,⟨rfl,wQ⟩,u2,r2,rfl,rfl,rfl⟩:=W;refine⟨rfl,F,?_⟩;unfold gy iU;rw [kS hf eM K hn he (Lib.run_indexByteString (bG b) (Int.ofNat c) w)];refine⟨E,ca.refl _ _ _,r,?_⟩;simp only [V,Y.den];have:(Int.ofNat c).toNat.toUInt8=UInt8.ofNat c:=rfl;rw [this];have U:(bG b).data.toList=b.map UInt8.ofNat:=by simp [bG]
   rw [U,sI B wQ]
  ·simp [T.leaf] at I
 ·simp [T.leaf] at I
def vk:List Nat->List Nat->Bool
 |[],_=>true
 |_::_,[]=>false
 |a::x,b::y=>if a.beq b then vk x y else false
def lY (c:List Nat):List Nat->Bool
 |[]=>vk c []
 |b::bs=>if vk c (b::bs) then true else lY c bs
def jk:List Z->St->T (Z×St):=fun args s=>match args with
 |[.str b,.str c]=>if b.length<4294967281 then .ret (.bool (.lit (lY c b)),s) else .fail
 |_=> .fail
theorem yr: ∀{c s:List Nat},(∀b∈c,b<256)->(∀b∈s,b<256)->(c.map UInt8.ofNat).isPrefixOf (s.map UInt8.ofNat)=vk c s
 |[],_,_,_=>by simp [vk]
 |_::_,[],_,_=>by simp [vk]
 |a::x,b::y,B,hs=>by
  have ih:=yr (c:=x) (s:=y) (fun z hz=>B z (by simp [hz])) (fun z hz=>hs z (by simp [hz]));simp only [au,List.isPrefixOf,vk];rw [tq (B a ad) (hs b ad),ih]
  grind
theorem index_ge (sub:List UInt8): ∀l:List UInt8,-1<=Lib.index l sub
 |[]=>by unfold Lib.index; split<;>omega
 |b::l=>by
  have ih:=index_ge sub l;unfold Lib.index
  grind
theorem pG {c:List Nat} (B: ∀b∈c,b<256): ∀{s:List Nat},(∀b∈s,b<256)->Lib.contains (s.map UInt8.ofNat) (c.map UInt8.ofNat)=lY c s
 |[],_=>by cases c<;>simp [Lib.contains,Lib.index,lY,vk]
 |b::bs,h=>by
  have ih:=pG B (s:=bs) fun z hz=>h z (by simp [hz]);have F:=yr B h;simp only [au] at F;unfold Lib.contains at *;simp only [au,Lib.index,lY]
  grind
theorem wz [bp] {g:FuncId} (hg: ∀(ρ:Nat->Int) (ro:Nat->Prop) (w:World),bp.ok ρ ro w.heap->∀s sub:ByteArray,s.size<4294967281->Calls P g #[.string s,.string sub] w fun e w'=>e= .returned (.bool (Lib.contains s.data.toList sub.data.toList))/\w'=w)
 (iu: ∀(args:Array Value) (w:World),(callFunc g args).run P w= .ok (.enter g args) w):fh P g jk:=by
 intro aaa s E w dg u s' r W F I;unfold jk at I;split at I
 ·rename_i b c;split at I
  ·rename_i hlen;have:=bh I;simp only [ag] at this;obtain⟨rfl,rfl⟩:=this;simp only [bC,V] at W;obtain⟨u1,r1,rfl,⟨rfl,wQ⟩,u2,r2,rfl,⟨rfl,AF⟩,rfl⟩:=W;refine⟨rfl,F,?_⟩;unfold gy iU;rw [iu];refine Calls.mono (hg E.ρ E.ro w r.jM (bG b) (bG c) (by simpa [bG,ByteArray.size] using hlen)) fun e w' ⟨he,hw⟩=>?_;subst hw;refine⟨_,he,E,ca.refl _ _ _,r,?_⟩;simp only [V,SB.den];have U: ∀l:List Nat,(bG l).data.toList=l.map UInt8.ofNat:=by intro l; simp [bG]
   rw [U,U,pG AF wQ]
  ·simp [T.leaf] at I
 ·simp [T.leaf] at I
end
end
end Go.As
end
section
namespace Go.As
noncomputable section
structure oZ where
 m:Nat
 k:Kind
 st:Nat
 rd:List Nat
structure wL where
 is:List oZ
 nE:Nat
 rs:List (Nat×List Nat)
def xi:Kind->Kind->Bool
 | .pa,.pa=>true
 | .e,.e=>true
 | .r,.r=>true
 |_,_=>false
def lA:List Nat->List Nat->Bool
 |[],[]=>true
 |a::x,b::y=>Nat.beq a b&&lA x y
 |_,_=>false
def nw:List Item->List oZ->Bool
 |[],[]=>true
 |x::xs,d::ds=>Nat.beq x.m d.m&&xi x.k d.k&&Nat.beq x.st d.st&&lA x.rd d.rd&&nw xs ds
 |_,_=>false
def nu:List (Item×List Nat)->List (Nat×List Nat)->Bool
 |[],[]=>true
 |(x,ks)::xs,(i,js)::ys=>Nat.beq x.i i&&lA ks js&&nu xs ys
 |_,_=>false
def nm:Nat->List Oper->List oZ->List Item
 |i,o::os,d::ds=> ⟨i,o,d.m,d.k,d.st,d.rd⟩ ::nm (i+1) os ds
 |_,_,_=>[]
def zM (is:List Item):List (Nat×List Nat)->List (Item×List Nat)
 |[]=>[]
 |(i,ks)::r=>match cq is i with
  |some x=>(x,ks)::zM is r
  |none=>zM is r
def statOf (all:List Oper) (H:wL):Stat:=⟨nm 0 all H.is,H.nE,zM (nm 0 all H.is) H.rs⟩
def j8 (tt:TT) (all:List Oper) (H:wL):Bool:=match stat tt all with
 |none=>false
 |some q=>nw q.is H.is&&Nat.beq q.nE H.nE&&nu q.rs H.rs
theorem Aa {a b:Kind} (h:xi a b=true):a=b:=by cases a<;>cases b<;>simp [xi] at h<;>rfl
theorem nF: ∀{a b:List Nat},lA a b=true->a=b
 |[],[],_=>rfl
 |[],_::_,h=>by simp [lA] at h
 |_::_,[],h=>by simp [lA] at h
 |a::x,b::y,h=>by simp only [lA,an] at h;rw [aq h.1,nF h.2]
theorem sF {tt:TT} {all:List Oper} {ms:List Nat}: ∀{os:List Oper} {i n:Nat} {ds:List oZ},nw (items tt all ms os i n) ds=true->items tt all ms os i n=nm i os ds
 |[],i,n,ds,h=>by cases ds<;>simp [items,nw,nm] at *
 |o::os,i,n,ds,h=>by
  cases ds with
  |nil=>simp [items,nw] at h
  |cons d ds=> simp only [items,nw,an] at h;obtain⟨⟨⟨⟨O,U⟩,N⟩,h4⟩,h5⟩:=h;have ih:=sF h5;simp only [items,nm];rw [ih,aq O,Aa U,aq N,nF h4]
theorem yq {is:List Item}: ∀{xs:List (Item×List Nat)} {ys:List (Nat×List Nat)},(∀p∈xs,cq is p.1.i=some p.1)->nu xs ys=true->zM is ys=xs
 |[],[],_,_=>rfl
 |[],_::_,_,h=>by simp [nu] at h
 |_::_,[],_,h=>by simp [nu] at h
 |(x,ks)::xs,(i,js)::ys,hm,h=>by simp only [nu,an] at h;have O:=hm (x,ks) ad;simp only [zM];rw [<- aq h.1.1,O,<- nF h.1.2,yq (fun p F=>hm p (by simp [F])) h.2]
theorem u5: ∀{i:Nat} {os:List Oper} {ds:List oZ} {x:Item},x∈nm i os ds->i<=x.i/\cq (nm i os ds) (x.i-i)=some x
 |_,[],_,_,h=>by simp [nm] at h
 |_,_::_,[],_,h=>by simp [nm] at h
 |i,o::os,d::ds,x,h=>by
  simp only [nm,aw] at h ⊢;rcases h with rfl|h
  ·simp [cq]
  ·obtain⟨O,U⟩:=u5 h;refine⟨J,?_⟩;have:x.i-i=(x.i-(i+1))+1:=J
   rw [this];exact U
theorem nU {tt:TT} {all:List Oper} {H:wL} (h:j8 tt all H=true):stat tt all=some (statOf all H):=by
 unfold j8 at h;split at h
 ·grind
 ·rename_i q hq;rw [hq];simp only [an] at h;obtain⟨⟨O,U⟩,N⟩:=h;have Hq:=hq;unfold stat at Hq;simp only at Hq;split at Hq
  ·simp only [af] at Hq;subst Hq;have e1:=sF O;simp only at U N
   have e3:zM (nm 0 all H.is) H.rs=_:=yq (is:=nm 0 all H.is) (by
    intro p F;simp only [aF,aaK] at F;obtain⟨x,⟨M,_⟩,rfl⟩:=F;rw [e1] at M;have:=(u5 M).2
    simpa using this) N
   unfold statOf;rw [e3,<- aq U,<- e1]
  grind
end
end Go.As
end
section
namespace Go.As
noncomputable section
def k6 (pos:Nat->Nat) (o:Oper):Oper:={ o with after:=o.after.map (fun e=>{ e with on:=pos e.on }),guard:=match o.guard with |none=>none|some (j,b)=>some (pos j,b) }
def posOf:List Nat->Nat->Nat
 |[],_=>0
 |x::xs,i=>match Nat.beq x i with
  |true=>0
  |false=>posOf xs i+1
def oC (pos:Nat->Nat) (all:List Oper):List Nat->List Oper
 |[]=>[]
 |i::is=>match cq all i with
  |some o=>k6 pos o::oC pos all is
  |none=>[]
def cC (ord:List Nat) (all:List Oper):List Oper:=oC (posOf ord) all ord
def tB (ord:List Nat) (n:Nat):Bool:=
 Nat.beq ord.length n&&(List.range n).all (fun i=>match cq ord (posOf ord i) with |some j=>Nat.beq i j|none=>false)&&
 (List.range n).all (fun j=>match cq ord j with |some i=>Nat.blt i n&&Nat.beq (posOf ord i) j|none=>false)
theorem vl: ∀(ord:List Nat) (i:Nat),posOf ord i<=ord.length
 |[],_=>ar _
 |x::xs,i=>by
  simp only [posOf,aA];split
  ·omega
  ·have:=vl xs i; omega
theorem r9: ∀(ord:List Nat) (i:Nat),posOf ord i<ord.length->ord[posOf ord i]?=some i
 |[],_,h=>by simp [posOf] at h
 |x::xs,i,h=>by
  simp only [posOf,aA] at h ⊢;split
  ·rename_i he;simp_all
  ·rename_i he;rw [he] at h;simp only at h;simpa using r9 xs i J
structure Perm (n:Nat) (ord:List Nat):Prop where
 len:ord.length=n
 at': ∀i,i<n->ord[posOf ord i]?=some i
 back: ∀j,j<n->∃i,ord[j]?=some i/\i<n/\posOf ord i=j
theorem zT {ord:List Nat} {n:Nat} (h:tB ord n=true):Perm n ord:=by
 unfold tB at h;simp only [an,aE,aal] at h;obtain⟨⟨O,U⟩,N⟩:=h;refine⟨aq O,fun i hi=>?_,fun j hj=>?_⟩
 ·have:=U i hi;split at this
  all_goals simp_all [cI]
 simp_all [cI]
theorem Perm.lt {n:Nat} {ord:List Nat} (p:Perm n ord) {i:Nat} (hi:i<n):posOf ord i<n:=by
 have:=p.at' i hi;rw [<- p.len]
 grind
theorem Perm.ge {n:Nat} {ord:List Nat} (p:Perm n ord) {i:Nat} (hi: ¬i<n):posOf ord i=n:=by
 have O:=vl ord i;rw [p.len] at O;rcases aG (posOf ord i) n with h|h
 ·have U:=r9 ord i (by rw [p.len]; exact h);obtain⟨k,N,h4,_⟩:=p.back _ h
  grind
 ·omega
theorem Perm.inj {n:Nat} {ord:List Nat} (p:Perm n ord) {i j:Nat} (hi:i<n) (hj:j<n) (h:posOf ord i=posOf ord j):i=j:=by
 have O:=p.at' i hi;have U:=p.at' j hj
 grind
theorem sc {pos:Nat->Nat} {all:List Oper}: ∀{is:List Nat},(∀i∈is,i<all.length)->∀j:Nat,(oC pos all is)[j]?=(is[j]?).bind fun i=>(all[i]?).map (k6 pos)
 |[],_,j=>by simp [oC]
 |i::is,h,j=>by
  have hi:=h i ad;have ih:=sc (pos:=pos) (is:=is) fun k R=>h k (by simp [R])
  grind [oC,cI]
section
variable {P:Program}
theorem fV {ord:List Nat} {ops:Array Oper} (p:Perm ops.size ord) {i:Nat} (hi:i<ops.size):(cC ord ops.toList)[posOf ord i]?=(ops[i]?).map (k6 (posOf ord)):=by
 unfold cC
 rw [sc (by
  intro k R;obtain⟨j,hj,rfl⟩:=List.getElem_of_mem R;obtain⟨i',O,U,_⟩:=p.back j (by rw [<- p.len]; exact hj);rw [aJ hj] at O;simp only [af] at O;rw [O]
  simpa using U),p.at' i hi]
 simp
theorem jX {ord:List Nat} {ops:Array Oper} (p:Perm ops.size ord):(cC ord ops.toList).length=ops.size:=by
 have h0: ∀j,j<ops.size->(cC ord ops.toList)[j]?.isSome=true:=by
  intro j hj;obtain⟨i,_,U,N⟩:=p.back j hj
  grind [fV]
 have hle:(cC ord ops.toList).length<=ops.size:=by
  have: ∀(is:List Nat),(oC (posOf ord) ops.toList is).length<=is.length:=by
   intro is
   induction is with
   |nil=>simp [oC]
   |cons i is ih=>simp only [oC]; split<;>simp; omega
  have:=this ord;rw [p.len] at this;exact this
 rcases aG (cC ord ops.toList).length ops.size with h|h
 all_goals grind
theorem Ba (pos:Nat->Nat) (o:Oper) (a:Act) (w:World) (Y':Act->World->Prop) (Q:Exit->Act->World->Prop):(k6 pos o).wp P a w Y' Q=o.wp P a w Y' Q:=rfl
theorem w7 (pos:Nat->Nat) (o:Oper) (a:Act) (w:World):(k6 pos o).asks P a w=o.asks P a w:=rfl
theorem tn {ord:List Nat} {ops:Array Oper} (p:Perm ops.size ord) (tmps:Array Value) (j:Nat):yielded (cC ord ops.toList).toArray tmps (posOf ord j)=yielded ops tmps j:=by
 unfold yielded
 have:((cC ord ops.toList).toArray[posOf ord j]?).bind (·.dst)=(ops[j]?).bind (·.dst):=by
  rw [abp];rcases aG j ops.size with h|h
  ·rw [fV p h];cases ops[j]?<;>rfl
  ·rw [p.ge J,abq (by rw [jX p]; exact ar _),abr h]
 grind
theorem u7 {ord:List Nat} {ops:Array Oper} (p:Perm ops.size ord) (tmps:Array Value) (o:Oper) :
 Region.wanted (k6 (posOf ord) o) (yielded (cC ord ops.toList).toArray tmps)=Region.wanted o (yielded ops tmps):=by
 unfold Region.wanted k6
 cases hg:o.guard with
 |none=>rfl
 |some g=> obtain⟨j,b⟩:=g;simp only;rw [tn p]
theorem dM {md:Region.Mode} {ops:Array Oper} {listed:Array Bool} {i:Nat}:i∈Region.ready md ops listed↔∃o,ops[i]?=some o/\listed.getD i true=false/\∀e∈o.after.toList,Region.binds md e=true->listed.getD e.on false=true:=by
 unfold Region.ready;simp only [aaK,aal,an,bd];constructor
 ·rintro⟨O,U,N⟩;have e:=abA O;refine⟨_,e,U,?_⟩;rw [e] at N;simp only [aR,aI,Array.all_eq_true_iff_forall_mem] at N;intro x M K
  grind
 grind
theorem lx {md:Region.Mode} {ord:List Nat} {ops:Array Oper} (p:Perm ops.size ord) {listed dn:Array Bool} (hz:listed.size=ops.size) (Bw:dn.size=ops.size) (I: ∀i,i<ops.size->dn[posOf ord i]?=listed[i]?) {i:Nat} (hi:i<ops.size) :
 posOf ord i∈Region.ready md (cC ord ops.toList).toArray dn↔i∈Region.ready md ops listed:=by
 have hg: ∀(k:Nat) (d:Bool),dn.getD (posOf ord k) d=listed.getD k d:=by
  intro k d;simp only [aag];rcases aG k ops.size with h|h
  ·grind
  ·rw [p.ge J,abr J,abr J]
 rw [dM,dM,abp,fV p hi,hg];constructor
 ·rintro⟨o,O,U,N⟩;rw [az] at O;obtain⟨o0,h0,rfl⟩:=O;refine⟨o0,h0,U,fun e he K=>?_⟩
  have:=N { e with on:=posOf ord e.on } (by
   simp only [k6,abb,aF]
   exact⟨e,he,rfl⟩) K
  simp_all
 ·rintro⟨o,O,U,N⟩;refine⟨k6 (posOf ord) o,by rw [O]; rfl,U,fun e he K=>?_⟩;simp only [k6,abb,aF] at he;obtain⟨e0,Dq,rfl⟩:=he;show dn.getD (posOf ord e0.on) false=true;rw [hg];exact N e0 Dq K
theorem wU {md:Region.Mode} {ord:List Nat} {ops:Array Oper} (p:Perm ops.size ord) {Q:Exit->Act->World->Prop}: ∀(fuel:Nat) (listed dn:Array Bool) (a:Act) (w:World),listed.size=ops.size->dn.size=ops.size->
 (∀i,i<ops.size->dn[posOf ord i]?=listed[i]?)->wpAny P md (cC ord ops.toList).toArray Q fuel dn a w->wpAny P md ops Q fuel listed a w:=by
 have GV: ∀(listed dn:Array Bool),listed.size=ops.size->dn.size=ops.size->(∀i,i<ops.size->dn[posOf ord i]?=listed[i]?)->
  (Region.ready md (cC ord ops.toList).toArray dn= []↔Region.ready md ops listed= []):=by
  intro listed dn hz Bw I;constructor
  ·intro h;rw [aaY] at h ⊢;intro i hm
   have hi:i<ops.size:=by
    grind [dM]
   exact h _ ((lx p hz Bw I hi).2 hm)
  ·intro h;rw [aaY] at h ⊢;intro j hm
   have hj:j<ops.size:=by
    grind [dM]
   obtain⟨i,_,U,N⟩:=p.back j hj;subst N;exact h _ ((lx p hz Bw I U).1 hm)
 intro fuel
 induction fuel with
 |zero=> intro listed dn a w hz Bw I h;exact⟨(GV _ _ hz Bw I).1 h.1,h.2⟩
 |succ fuel ih=>
  intro listed dn a w hz Bw I h;refine⟨fun h0=>h.1 ((GV _ _ hz Bw I).2 h0),fun i hm=>?_⟩
  have hi:i<ops.size:=by
   grind [dM]
  have hh:=h.2 _ ((lx p hz Bw I hi).2 hm)
  have oI: ∀a w,wpAny P md (cC ord ops.toList).toArray Q fuel (dn.setIfInBounds (posOf ord i) true) a w->wpAny P md ops Q fuel (listed.setIfInBounds i true) a w:=by
   intro a w hw;refine ih _ _ a w (by simp [hz]) (by simp [Bw]) (fun k R=>?_) hw;rw [abt,abt];by_cases JN:i=k
   ·grind
   ·rw [ah JN,ah (fun h=>JN (p.inj hi R h)),I k R]
  have U:=wpOp_mono oI hh;unfold wpOp at U ⊢;rw [abp,fV p hi] at U
  cases ho:ops[i]? with
  |none=>rw [ho] at U; exact U
  |some o=> rw [ho] at U;simp only [aR] at U ⊢;rw [u7 p,Ba,w7] at U;exact U
structure Cp where
 ord:List Nat
 h:wL
def BZ (tt:TT) (H:Nat->Nat->Option Cp) (call:bR) (g id:Nat) (all:List Oper) (s:St):T St:=match H g id with
 |some p=>match p.ord with
  |[]=>rh tt call all (statOf all p.h) s
  |o::os=>match cC (o::os) all with
   |Cn=>rh tt call Cn (statOf Cn p.h) s
 |none=> .fail
def FU (tt:TT) (H:Nat->Nat->Option Cp) (g id:Nat) (all:List Oper):Bool:=match H g id with
 |some p=>match p.ord with
  |[]=>j8 tt all p.h
  |o::os=>tB (o::os) all.length&&j8 tt (cC (o::os) all) p.h
 |none=>true
theorem BY [bp] {tt:TT} (bx:bV P tt) (hm:P.follows .mixedOrders=true) {H:Nat->Nat->Option Cp} {call:bR} (B:dD P call) (g:Nat):lT P (FU tt H g) (BZ tt H call g):=by
 intro id ops R E s s' a w Q hd fit h hq;unfold FU at R;unfold BZ at h;split at R
 ·rename_i p F;rw [F] at h;simp only at h;split at R
  ·rename_i he;rw [he] at h;have:=nU R;refine DC bx hm B id ops E s s' a w Q hd fit ?_ hq
   grind [draw]
  ·rename_i o os he;rw [he] at h;simp only at h;simp only [an] at R;have F:=zT R.1;have F:Perm ops.size (o::os):=by simpa using F
   have:=nU R.2;refine wp_region_any hm ?_
   have rN: ∀x∈((cC (o::os) ops.toList).toArray).toList,∀d,x.dst=some d->d<a.tmps.size:=by
    intro x M d KA;obtain⟨j,hj,rfl⟩:=List.getElem_of_mem M;have Fq:j<ops.size:=by rw [<- jX F]; exact hj
    obtain⟨i,_,U,N⟩:=F.back j Fq;have hg:=fV F U;rw [N] at hg
    have G7:(cC (o::os) ops.toList)[j]?=some ((cC (o::os) ops.toList).toArray.toList[j]):=by
     grind
    rw [G7] at hg;rw [abA U] at hg;simp only [aR,af] at hg;rw [hg] at KA;exact hd (ops[i]) ad d KA
   have key:=re (ops:=(cC (o::os) ops.toList).toArray) bx B rN fit (by
    unfold draw;rw [this]
    exact h) hq
   have dc:(cC (o::os) ops.toList).toArray.size=ops.size:=by simpa using jX F
   rw [dc] at key;refine wU F _ _ _ _ _ ad ad (fun i hi=>?_) key;rw [aav,aav,ak hi,ak (F.lt hi)]
 grind [T.leaf]
end
end
end Go.As
end
section
namespace Go.As
noncomputable section
def sg (h:Hp):List Nat->Tr bS->Tr bS
 |[],t=>t
 |i::is,t=>match h.get i with
  |some o=>sg h is (t.put i (some o))
  |none=>sg h is t
theorem nz {h:Hp}: ∀(is:List Nat) (t:Tr bS),(∀id o,t.get id=some o->h.get id=some o)->∀id o,(sg h is t).get id=some o->h.get id=some o
 |[],_,ht,id,o,hg=>ht id o hg
 |i::is,t,ht,id,o,hg=>by
  simp only [sg] at hg;split at hg
  ·rename_i x M;refine nz is _ (fun j y hy=>?_) id o hg
   grind [Tr.br]
  ·exact nz is t ht id o hg
def nv:List (Y×List Z)->List (Y×List Z)->Bool
 |[],[]=>true
 |(i,a)::x,(j,b)::y=>cf i j&&dk a b&&nv x y
 |_,_=>false
theorem r4: ∀{a b:List (Y×List Z)},nv a b=true->a=b
 |[],[],_=>rfl
 |[],_::_,h=>by simp [nv] at h
 |_::_,[],h=>by simp [nv] at h
 |(i,a)::x,(j,b)::y,h=>by simp only [nv,an] at h;rw [bD _ _ h.1.1,cy _ _ h.1.2,r4 h.2]
def tx:bS->bS->Bool
 | .cells a e,.cells b f=>dk a b&&Nat.beq e f
 | .vec a t e x,.vec b u f y=>cf a b&&Nat.beq t u&&Nat.beq e f&&nv x y
 |_,_=>false
theorem wY {a b:bS} (h:tx a b=true):a=b:=by
 cases a<;>cases b<;>simp only [tx,ay,an] at h
 ·rw [cy _ _ h.1,aq h.2]
 ·rw [bD _ _ h.1.1.1,aq h.1.1.2,aq h.1.2,r4 h.2]
def ox {α:Type} (f:α->α->Bool):Tr α->Tr α->Bool
 | .nil,.nil=>true
 | .node v l r,.node u x y=>(match v,u with |some a,some b=>f a b|none,none=>true|_,_=>false)&&ox f l x&&ox f r y
 |_,_=>false
theorem l8 {α:Type} {f:α->α->Bool} (hf: ∀a b,f a b=true->a=b): ∀(a b:Tr α),ox f a b=true->a=b
 | .nil,b,h=>by cases b<;>simp [ox] at h; rfl
 | .node v l r,b,h=>by
   cases b with
   |nil=>simp [ox] at h
   |node u x y=>
    simp only [ox,an] at h;rw [l8 hf l x h.1.2,l8 hf r y h.2]
    grind
def F6 (i:Nat):List Nat->Bool
 |[]=>false
 |j::l=>match Nat.beq i j with
  |true=>true
  |false=>F6 i l
theorem tR {i:Nat}: ∀{l:List Nat},F6 i l=true↔i∈l
 |[]=>by simp [F6]
 |j::l=>by
  simp only [F6,aw];split
  ·rename_i h; simp [aq h]
  ·rename_i h; rw [tR]; simp [aaP h]
def iW (i:Nat):List Nat->List Nat
 |[]=>[]
 |j::l=>match Nat.beq i j with
  |true=>iW i l
  |false=>j::iW i l
theorem hZ {i k:Nat}: ∀{l:List Nat},k∈iW i l↔k∈l/\k≠i
 |[]=>by simp [iW]
 |j::l=>by
  simp only [iW];split
  ·rename_i h;have:=aq h;subst this;rw [hZ]
   grind
  ·rename_i h;have:=aaP h;simp only [aw];rw [hZ]
   grind
def sy (all:List Oper) (rem:List Nat) (i:Nat):Bool:=match cq all i with
 |some o=>o.after.toList.all fun e=>!Region.binds .any e||(!F6 e.on rem&&Nat.blt e.on all.length)
 |none=>false
def wJ (tt:TT) (call:bR) (all:List Oper) (pc:List (SB×Bool)) (tS:Tr Z) (tH:Hp):Nat->List Nat->Tr Z->Hp->Bool
 |0,rem,S,H=>match rem with
  |[]=>ox bZ S tS&&ox tx H.m tH.m&&Nat.beq H.next tH.next&&(match H.res with |none=>true|_=>false)
  |_=>false
 |n+1,rem,S,H=>match rem with
  |[]=>false
  |_=>rem.any (sy all rem)&&rem.all fun i=>match sy all rem i with
   |false=>true
   |true=>match cq all i with
    |some o=>match Cy tt call all o ⟨S,H,pc⟩ with
     | .ret (v,s')=>wJ tt call all pc tS tH n (iW i rem) (jT S o.dst v) s'.h
     |_=>false
    |none=>false
section
variable {P:Program}
theorem AW {E:En} {h:Array Obj} {S:Tr Z} {a:Act} (sr:SR E h S a) {d:Option Nat} {v:Z} {u:Value} (hd: ∀t,d=some t->t<a.tmps.size) (W:V E h v u):SR E h (jT S d v) (a.put d u):=by
 cases d with
 |none=>exact sr
 |some t=>exact sr.put (hd t rfl) W
theorem Cm [bp] {tt:TT} (bx:bV P tt) {call:bR} (B:dD P call) {ops:Array Oper} {ρ:Nat->Int} {pc:List (SB×Bool)} (Fg:bu ρ pc) {tS:Tr Z} {tH:Hp} (ME:tH.res=none) {Q:Exit->Act->World->Prop} {m:Nat} (hd: ∀o∈ops.toList,∀d,o.dst=some d->d<m) :
 ∀(n:Nat) (rem:List Nat) (S:Tr Z) (H:Hp) (E:En) (a:Act) (w:World) (listed:Array Bool),wJ tt call ops.toList pc tS tH n rem S H=true->E.ρ=ρ->bq E H w->SR E w.heap S a->a.tmps.size=m->listed.size=ops.size->
  (∀i,i<ops.size->(listed[i]?=some true↔i∉rem))->(∀i∈rem,i<ops.size)->
  (∀(a':Act) (w':World) (E':En),ca E H w E' tH w'->bq E' tH w'->SR E' w'.heap tS a'->a'.tmps.size=m->a'.defers=a.defers->Q .normal a' w')->wpAny P .any ops Q n listed a w:=by
 intro n;have jl: ∀(i:Nat),cq ops.toList i=ops[i]?:=fun i=>by rw [cI,aK]
 have Bb: ∀(rem:List Nat) (listed:Array Bool),listed.size=ops.size->(∀i,i<ops.size->(listed[i]?=some true↔i∉rem))->∀i,i∈Region.ready .any ops listed->i∈rem/\sy ops.toList rem i=true/\i<ops.size:=by
  intro rem listed dc I i hi;obtain⟨o,ho,O,U⟩:=dM.1 hi;have xr:i<ops.size:=(aV.1 ho).1
  have hf:listed[i]?=some false:=by simp_all
  refine⟨?_,?_,xr⟩
  ·grind
  ·unfold sy;rw [jl,ho];simp only [aE];intro e he
   cases K:Region.binds .any e with
   |false=>rfl
   |true=>
    have:=U e he K
    have c6:e.on<ops.size:=by
     grind
    simp only [aaG,aaI,an,bd];refine⟨?_,by simpa [aaw] using c6⟩
    cases JM:F6 e.on rem with
    |false=>rfl
    |true=> exfalso;have hm:=tR.1 JM;simp_all
 have EF: ∀(rem:List Nat) (listed:Array Bool),listed.size=ops.size->(∀i,i<ops.size->(listed[i]?=some true↔i∉rem))->(∀i∈rem,i<ops.size)->rem.any (sy ops.toList rem)=true->Region.ready .any ops listed≠[]:=by
  intro rem listed dc I hr HV fY;rw [List.any_eq_true] at HV;obtain⟨i,hi,hm⟩:=HV;have xr:=hr i hi
  have:i∈Region.ready .any ops listed:=by
   rw [dM];unfold sy at hm;rw [jl] at hm;split at hm
   ·rename_i o ho;refine⟨o,ho,?_,fun e he K=>?_⟩
    ·have e1:listed[i]?=some (listed[i]'J):=by simp [dc,xr]
     simp only [aag,e1,aI]
     grind
    ·rw [aE] at hm;have:=hm e he;rw [K] at this;simp only [aaG,aaI,an,bd] at this;obtain⟨this,c6⟩:=this;have c6:e.on<ops.size:=by simpa [aaw] using c6
     have Hv:e.on∉rem:=fun h=>by rw [tR.2 h] at this; simp at this
     simp_all
   grind
  grind
 induction n with
 |zero=>
  intro rem S H E a w listed h hρ r sr ha dc I hr hq;simp only [wJ] at h;split at h
  ·simp only [an] at h;obtain⟨⟨⟨O,U⟩,N⟩,h4⟩:=h;have e1:=l8 dx _ _ O;have e2:=l8 (fun _ _=>wY) _ _ U;have e3:=aq N
   have e4:H.res=none:=by
    grind
   have eH:H=tH:=by
    obtain⟨m1,n1,r1⟩:=H;obtain⟨m2,n2,r2⟩:=tH
    grind
   subst e1 eH;refine⟨?_,hq a w E (ca.refl _ _ _) r sr ha rfl⟩;rw [aaY];intro i hi;have:=(Bb [] listed dc I i hi).1
   grind
  grind
 |succ n ih=>
  intro rem S H E a w listed h hρ r sr ha dc I hr hq;simp only [wJ] at h;split at h
  ·grind
  ·rename_i dV;simp only [an] at h;refine⟨fun h0=>absurd h0 (EF rem listed dc I hr h.1),fun i hi=>?_⟩;obtain⟨g1,g2,g3⟩:=Bb rem listed dc I i hi;have uZ:=(aE.1 h.2) i g1;rw [g2] at uZ;simp only at uZ;split at uZ
   ·rename_i o ho;have o4:ops[i]?=some o:=by rw [<- jl]; exact ho
    split at uZ
    ·rename_i v s' HN;have J0:=uI bx B (ops:=ops) (o:=o) (s:=⟨S,H,pc⟩) (s':=s') (v:=v) (ρ:=ρ) Fg (by rw [HN]; rfl);refine J0.wpOp hρ r sr o4 fun u E' w' st r' W=>?_
     have L9: ∀t,o.dst=some t->t<a.tmps.size:=by intro t ht;rw [ha];exact hd o (Array.mem_toList_iff.2 (abl o4)) t ht
     have Lb:SR E' w'.heap (jT S o.dst v) (a.put o.dst u):=AW (sr.bw (st.keeps r)) L9 W;refine ih (iW i rem) _ _ E' (a.put o.dst u) w' (listed.setIfInBounds i true) uZ (st.ρ.trans hρ) r' Lb (by rw [pZ]; exact ha) (by simpa using dc) ?_ ?_ ?_
     ·intro k R;rw [abt,hZ]
      grind
     ·intro k R;exact hr k (hZ.1 R).1
     ·intro a' w2 E2 zG r2 IN Hm dX;exact hq a' w2 E2 (st.trans zG) r2 IN Hm (by rw [dX,As.put_defers])
    grind
   grind
end
end
end Go.As
end
section
namespace Go.As
noncomputable section
def ra (o:Oper) (j:Nat):Bool:=o.after.toList.any fun e=>Region.binds .any e&&Nat.beq e.on j
def tw (n1:Nat) (all:List Oper):Bool:=
 Nat.blt 0 n1&&Nat.ble n1 all.length&&
 (List.range all.length).all (fun j=>match cq all j with
  |some o=>match Nat.blt j n1 with
   |true=>(o.after.toList.all fun e=>!Region.binds .any e||Nat.blt e.on j)&&(match o.guard with |some (k,_)=>Nat.blt k n1|none=>true)
   |false=>ra o (n1-1)
  |none=>false)&&
 (match cq all (n1-1) with
  |some o=>(List.range (n1-1)).all fun i=>ra o i
  |none=>false)
structure yd (n1:Nat) (ops:Array Oper):Prop where
 pos:0<n1
 le:n1<=ops.size
 back: ∀(i:Nat) (o:Oper),i<n1->ops[i]?=some o->∀e∈o.after.toList,Region.binds .any e=true->e.on<i
 guard: ∀(i:Nat) (o:Oper),i<n1->ops[i]?=some o->∀k b,o.guard=some (k,b)->k<n1
 late: ∀(i:Nat) (o:Oper),n1<=i->ops[i]?=some o->∃e∈o.after.toList,Region.binds .any e=true/\e.on=n1-1
 last: ∀(o:Oper),ops[n1-1]?=some o->∀i,i<n1-1->∃e∈o.after.toList,Region.binds .any e=true/\e.on=i
theorem s8 {o:Oper} {j:Nat} (h:ra o j=true): ∃e∈o.after.toList,Region.binds .any e=true/\e.on=j:=by unfold ra at h;rw [List.any_eq_true] at h;simp_all
theorem wW {n1:Nat} {ops:Array Oper} (h:tw n1 ops.toList=true):yd n1 ops:=by
 have jl: ∀(i:Nat),cq ops.toList i=ops[i]?:=fun i=>by rw [cI,aK]
 unfold tw at h;simp only [an] at h;obtain⟨⟨⟨O,U⟩,N⟩,h4⟩:=h;have O:0<n1:=by simpa [aaw] using O
 have U:n1<=ops.size:=by simpa using aaZ U
 rw [aE] at N
 have N: ∀(i:Nat) (o:Oper),ops[i]?=some o->(match Nat.blt i n1 with
  |true=>(o.after.toList.all fun e=>!Region.binds .any e||Nat.blt e.on i)&&(match o.guard with |some (k,_)=>Nat.blt k n1|none=>true)
  |false=>ra o (n1-1))=true:=by
  intro i o ho;have hi:i<ops.size:=(aV.1 ho).1;have:=N i (aal.2 (by simpa using hi));rw [jl,ho] at this;exact this
 refine⟨O,U,?_,?_,?_,?_⟩
 ·intro i o hi ho e he K;have:=N i o ho;rw [show Nat.blt i n1=true by simpa [aaw] using hi] at this;simp only [an] at this;have:=(aE.1 this.1) e he;simp_all
 ·intro i o hi ho k b hg;have:=N i o ho;rw [show Nat.blt i n1=true by simpa [aaw] using hi] at this;simp_all
 ·intro i o hi ho;have:=N i o ho
  rw [show Nat.blt i n1=false by
   cases K:Nat.blt i n1 with
   |false=>rfl
   |true=>rw [aaw] at K; omega] at this
  exact s8 this
 ·intro o ho i hi;rw [jl,ho] at h4;exact s8 ((aE.1 h4) i (aal.2 hi))
section
variable {P:Program}
theorem wp_exit {o:Oper} {a:Act} {w:World} {Y':Act->World->Prop} {Q1 Q:Exit->Act->World->Prop} (h: ∀e a w,e≠.normal->Q1 e a w->Q e a w) (hh:o.wp P a w Y' Q1):o.wp P a w Y' Q:=by
 have I:LetsOut Q1->LetsOut Q:=fun⟨a,w,O⟩=> ⟨a,w,h _ _ _ ad O⟩;unfold Oper.wp at *;generalize (execOp a.eval o).run P w=r at *
 cases r with
 |ok n w'=>
  cases n<;>simp only [Oper.upon] at hh ⊢<;>
   first
    |exact hh
    |exact Calls.mono hh (fun e DR he=>by cases e<;>first |exact he|exact h _ _ _ ad he|exact I he)
 |halt x w'=>cases x<;>simp only [Oper.upon] at hh ⊢<;>first |exact hh|exact h _ _ _ ad hh
theorem vB {l l':Nat->Bool} {i:Nat} (O:l i=false) (U:l' i=true) (h: ∀j,j≠i->l' j=l j): ∀n,i<n->left l' n+1=left l n
 |0,hi=>by omega
 |n+1,hi=>by
  simp only [left];by_cases xr:i=n
  ·subst xr
   have: ∀m,m<=i->left l' m=left l m:=by
    intro m
    induction m with
    |zero=>intro _; rfl
    |succ m ih=>
     intro hm
     grind [left]
   grind
  ·have:=vB O U h n J
   grind
theorem vC {l:Nat->Bool}: ∀n,(∀i,i<n->l i=true)->left l n=0
 |0,_=>rfl
 |n+1,h=>by simp only [left];rw [vC n (fun i hi=>h i J),h n J];rfl
def kf (n1 n:Nat):Array Bool:=(Array.range n).map fun i=>decide (i<n1)
theorem u6 {n1:Nat} {ops:Array Oper} (sf:yd n1 ops) {Q Q1:Exit->Act->World->Prop} (hq: ∀e a w,e≠.normal->Q1 e a w->Q e a w) (hn: ∀a w,Q1 .normal a w->wpAny P .any ops Q (ops.size-n1) (kf n1 ops.size) a w) :
 ∀(f:Nat) (l1 l:Array Bool) (a:Act) (w:World),l1.size=n1->l.size=ops.size->(∀i,i<n1->l[i]?=l1[i]?)->(∀i,n1<=i->i<ops.size->l[i]?=some false)->left (fun i=>l1.getD i true) n1=f->(l1[n1-1]?=some true->f=0)->
  wpAny P .any (ops.toList.take n1).toArray Q1 f l1 a w->wpAny P .any ops Q (f+(ops.size-n1)) l a w:=by
 have hR: ∀i,i<n1->(ops.toList.take n1).toArray[i]?=ops[i]?:=by
  intro i hi
  grind
 have K0:(ops.toList.take n1).toArray.size=n1:=by
  have:=sf.le
  grind
 have KM:LetsOut Q1->LetsOut Q:=fun⟨a,w,O⟩=> ⟨a,w,hq _ _ _ ad O⟩
 have j9: ∀(l:Array Bool) (i:Nat),i<l.size->(l.getD i true=true↔l[i]?=some true)/\(l.getD i false=true↔l[i]?=some true):=by intro l i hi;simp_all
 intro f
 induction f with
 |zero=>
  intro l1 l a w O U N h4 h5 h6 hw;have qC:=nK n1 h5
  have:l=kf n1 ops.size:=by
   grind [kf]
  rw [this,ax];exact hn a w hw.2
 |succ f ih=>
  intro l1 l a w O U N h4 h5 h6 hw;rw [show f+1+(ops.size-n1)=(f+(ops.size-n1))+1 by omega];have hle:=sf.le;have gq:=sf.pos;have Eb:l1[n1-1]?=some true->False:=fun h=>by have:=h6 h; omega
  refine⟨fun fY=>?_,fun i hi=>?_⟩
  ·exfalso
   have qC: ∀i,i<n1->l[i]?=some true:=by
    intro i
    induction i using Nat.strongRecOn with
    |_ i I5=>
     intro hi;apply Classical.byContradiction;intro Hw;have KP:ops[i]?=some (ops[i]'J):=ad
     have:i∈Region.ready .any ops l:=by
      rw [dM];refine⟨_,KP,?_,fun e he K=>?_⟩
      ·grind
      ·have c6:=sf.back i _ hi KP e he K
       grind
     grind
   grind
  ·obtain⟨o,ho,g1,g2⟩:=dM.1 hi;have xr:i<ops.size:=(aV.1 ho).1
   have Gb:i<n1:=by
    rcases aG i n1 with h|h
    ·exact h
    ·exfalso;obtain⟨e,e1,e2,e3⟩:=sf.late i o h ho
     grind
   have rG:l1.getD i true=false:=by
    grind
   have MO: ∀e∈o.after.toList,Region.binds .any e=true->l1.getD e.on false=true:=by
    intro e he K
    grind
   have LI:i∈Region.ready .any (ops.toList.take n1).toArray l1:=by
    rw [dM]
    grind
   have Cu:=hw.2 i LI
   have D8: ∀a w,wpAny P .any (ops.toList.take n1).toArray Q1 f (l1.setIfInBounds i true) a w->wpAny P .any ops Q (f+(ops.size-n1)) (l.setIfInBounds i true) a w:=by
    intro a w Jc
    have y7:left (fun j=>(l1.setIfInBounds i true).getD j true) n1=f:=by
     have:=vB (l:=fun j=>l1.getD j true) (l':=fun j=>(l1.setIfInBounds i true).getD j true) (i:=i) rG (by
      simp only [aag,Array.getElem?_setIfInBounds_self]
      split<;>rfl) (fun j hj=>by
      simp only [aag]
      rw [Array.getElem?_setIfInBounds_ne (fun e=>hj e.symm)]) n1 Gb
     omega
    refine ih _ _ a w (by simpa using O) (by simpa using U) (fun k R=>?_) (fun k KO rH=>?_) y7 (fun c6=>?_) Jc
    ·grind
    ·grind
    ·by_cases IC:i=n1-1
     ·rw [<- y7];refine vC n1 fun k R=>?_;by_cases rH:k=i
      ·grind
      ·obtain⟨e,e1,e2,e3⟩:=sf.last o (by rw [<- IC]; exact ho) k J
       grind
     grind
   have Cu:=wpOp_mono D8 Cu;unfold wpOp at Cu ⊢;rw [hR i Gb,ho] at Cu;rw [ho];simp only at Cu ⊢
   have G9:Region.wanted o (yielded (ops.toList.take n1).toArray a.tmps)=Region.wanted o (yielded ops a.tmps):=by
    unfold Region.wanted
    cases hg:o.guard with
    |none=>rfl
    |some g=>
     obtain⟨k,b⟩:=g;simp only;have:=sf.guard i o Gb ho k b hg;unfold yielded
     grind
   rw [G9] at Cu;split
   ·rename_i Lz;rw [ak Lz] at Cu;rcases Cu with h|⟨h,h'⟩
    ·exact .inl (wp_exit hq h)
    grind
   grind
end
end
end Go.As
end
section
namespace Go.As
noncomputable section
def pV (n1 n:Nat):List Nat:=(List.range (n-n1)).map fun k=>k+n1
def GL:Z->List Nat
 | .ptr i _=>[i]
 | .slice i _ _ _=>[i]
 |_=>[]
def EV (S:Tr Z):List Nat->List Nat
 |[]=>[]
 |t::ts=>match S.get t with
  |some v=>GL v++EV S ts
  |none=>EV S ts
def yY (all:List Oper) (S:Tr Z):List Nat->List Nat
 |[]=>[]
 |i::is=>match cq all i with
  |some o=>EV S (qd o.op)++yY all S is
  |none=>yY all S is
def AZ (tt:TT) (call:bR) (all:List Oper) (pc:List (SB×Bool)):List Nat->Tr Z->Hp->Option (Tr Z×Hp)
 |[],S,H=>some (S,H)
 |i::is,S,H=>match cq all i with
  |some o=>match Cy tt call all o ⟨S,H,pc⟩ with
   | .ret (v,s')=>AZ tt call all pc is (jT S o.dst v) s'.h
   |_=>none
  |none=>none
def uL (tt:TT) (call:bR) (all:List Oper) (n1:Nat) (s1:St):T St:=
 match s1.h.res with
 |some _=> .fail
 |none=>match (⟨sg s1.h (yY all s1.bj (pV n1 all.length)) .nil,s1.h.next,none⟩ : Hp) with
  |small=>match AZ tt call all s1.pc (pV n1 all.length) s1.bj small with
   |some (S,H)=>match H.res with
    |none=>match Nat.beq H.next s1.h.next&&wJ tt call all s1.pc S H (all.length-n1) (pV n1 all.length) s1.bj small with
     |true=> .ret ⟨S,⟨Tr.over H.m (Tr.minus small.m s1.h.m),s1.h.next,none⟩,s1.pc⟩
     |false=> .fail
    |some _=> .fail
   |none=> .fail
structure tk where
 ord:List Nat
 n1:Nat
 h:wL
def tb (tt:TT) (H:Nat->Nat->Option tk) (call:bR) (g id:Nat) (all:List Oper) (s:St):T St:=match H g id with
 |some p=>match p.n1 with
  |0=>match p.ord with
   |[]=>rh tt call all (statOf all p.h) s
   |o::os=>match cC (o::os) all with
    |Cn=>rh tt call Cn (statOf Cn p.h) s
  |n1=>(rh tt call (all.take n1) (statOf (all.take n1) p.h) s).bind (uL tt call all n1)
 |none=> .fail
def x8 (tt:TT) (H:Nat->Nat->Option tk) (g id:Nat) (all:List Oper):Bool:=match H g id with
 |some p=>match p.n1 with
  |0=>match p.ord with
   |[]=>j8 tt all p.h
   |o::os=>tB (o::os) all.length&&j8 tt (cC (o::os) all) p.h
  |n1=>tw n1 all&&j8 tt (all.take n1) p.h
 |none=>true
section
variable {P:Program}
theorem sx {n1 n i:Nat} (h:n1<=n):i∈pV n1 n↔n1<=i/\i<n:=by
 unfold pV;rw [aF];constructor
 ·rintro⟨k,R,rfl⟩
  grind
 ·rintro⟨O,U⟩;exact⟨i-n1,aal.2 J,J⟩
theorem z8 (n:Nat): ∀m,m<=n->left (fun i=>(Array.replicate n false).getD i true) m=m:=by
 intro m
 induction m with
 |zero=>intro _; rfl
 |succ m ih=>
  intro hm;have c6:m<n:=J
  simp only [left];rw [ih J];simp [c6]
theorem xY [bp] {tt:TT} (bx:bV P tt) {call:bR} (B:dD P call) {ops:Array Oper} {n1:Nat} (sf:yd n1 ops) {E:En} {s s1 s':St} {a a1:Act} {w w1:World} {Q:Exit->Act->World->Prop}
 (hd: ∀o∈ops.toList,∀d,o.dst=some d->d<a.tmps.size) (ht:fB E s a w s1 a1 w1) (h:(uL tt call ops.toList n1 s1).leaf E.ρ=some s') (hq: ∀a' w',fB E s a w s' a' w'->Q .normal a' w') :
 wpAny P .any ops Q (ops.size-n1) (kf n1 ops.size) a1 w1:=by
 obtain⟨d1,z1,E1,pO,f1⟩:=ht;have hlen:ops.toList.length=ops.size:=aC;unfold uL at h;split at h
 ·simp [T.leaf] at h
 ·rename_i xq;simp only at h;split at h
  ·rename_i S H LG;split at h
   ·rename_i Ml;split at h
    ·rename_i qC;simp only [an] at qC;have Fk:=aq qC.1;have:=bh h;subst this
     have nQ: ∀id o,(⟨sg s1.h (yY ops.toList s1.bj (pV n1 ops.toList.length)) .nil,s1.h.next,none⟩ : Hp).get id=some o->s1.h.get id=some o:=
      fun id o hg=>nz _ _ (fun _ _ hh=>by simp [Tr.get] at hh) id o hg
     have rs:=f1.rel.part nQ (ar _) ad;have Fg:bu E1.ρ s1.pc:=f1.pc;have HW:=qC.2;rw [hlen] at HW;refine Cm bx B (ops:=ops) (ρ:=E1.ρ) (pc:=s1.pc) Fg Ml (m:=a.tmps.size) hd (ops.size-n1) (pV n1 ops.size) s1.bj _ E1 a1 w1 (kf n1 ops.size) HW rfl (by rw [hlen] at rs; exact rs) f1.sr z1 (by simp [kf]) ?_ ?_ ?_
     ·intro i hi;rw [sx sf.le];unfold kf
      grind
     ·intro i hi;exact ((sx sf.le).1 hi).2
     ·intro a2 w2 E2 zG r2 IN z2 d2;rw [hlen] at nQ;obtain⟨Hc,e0,_,_,r3,va⟩:=BP f1.rel nQ zG r2 s1.h.next (fun id hid=>r2.fresh id J)
      have pN:=va.AS (by rw [e0]; exact ar _) (by rw [e0]) (fun id jK=>by
       rcases zG.Cz id jK with O|O|O
       ·exact .inl O
       ·have Cw:s1.h.next<=id/\id<H.next:=O;omega
       ·simp at O)
      subst e0;refine hq a2 w2 ⟨d2.trans d1,z2,E2,pO.trans ?_,?_⟩
      ·grind
      ·refine⟨by rw [hlen]; exact r3,IN,?_⟩;show bu E2.ρ s1.pc;rw [zG.ρ]
       grind
    ·simp [T.leaf] at h
   ·simp [T.leaf] at h
  ·simp [T.leaf] at h
theorem mT [bp] {tt:TT} (bx:bV P tt) (hm:P.follows .mixedOrders=true) {H:Nat->Nat->Option tk} {call:bR} (B:dD P call) (g:Nat):lT P (x8 tt H g) (tb tt H call g):=by
 intro id ops R E s s' a w Q hd fit h hq;unfold x8 at R;unfold tb at h;split at R
 ·rename_i p F;rw [F] at h;simp only at h;split at R
  ·rename_i hn;rw [hn] at h;simp only at h
   have A:=BY (P:=P) bx hm (H:=fun _ _=>some ⟨p.ord,p.h⟩) B g id ops (by
    unfold FU
    exact R) E s s' a w Q hd fit (by
    unfold BZ
    exact h) hq
   exact A
  ·rename_i n1 hn;split at h
   ·rename_i h0
    grind
   ·rename_i MB _;simp only [an] at R;have sf:=wW R.1;have pk:=nU R.2;obtain⟨s1,O,U⟩:=T.cA h;refine wp_region_any hm ?_;have hle:=sf.le;have K0:(ops.toList.take p.n1).toArray.size=p.n1:=by simp; omega
    have lI: ∀o∈(ops.toList.take p.n1).toArray.toList,∀d,o.dst=some d->d<a.tmps.size:=by
     intro o ho
     grind
    have key:=re (P:=P) (ops:=(ops.toList.take p.n1).toArray) (Q:=fun e a' w'=>match e with | .normal=>wpAny P .any ops Q (ops.size-p.n1) (kf p.n1 ops.size) a' w'|e=>Q e a' w') bx B lI fit (s':=s1) (by
     unfold draw;rw [List.toList_toArray,pk]
     exact O) (fun a' w' ht=>xY bx B sf hd ht U hq)
    rw [K0] at key
    have:=u6 sf (Q:=Q) (fun e a w dV hh=>by
     cases e with
     |normal=>exact absurd rfl dV
     |_=>exact hh) (fun a w hh=>hh) p.n1 (Array.replicate p.n1 false) (Array.replicate ops.size false) a _ ad ad (fun i hi=>by
     rw [aav,aav,ak hi,ak J]) (fun i _ hi=>by
     rw [aav,ak hi]) (by
     exact z8 p.n1 p.n1 (ar _)) (fun hh=>by
     rw [aav,ak (by have:=sf.pos; omega)] at hh
     simp at hh) key
    grind
 ·rename_i hh;rw [hh] at h;simp [T.leaf] at h
end
end
end Go.As
end
section
namespace Go.As
noncomputable section
def Dd {α:Type} (n:Nat) (t:Tr α) (k:Nat):Option α:=match Nat.ble n k with
 |true=>none
 |false=>t.get k
theorem yL {α:Type} {n:Nat} {t:Tr α} {f:Nat->Option α} (h:(List.range n).map t.get=(List.range n).map f) {k:Nat} {x:α} (R:Dd n t k=some x):f k=some x:=by
 unfold Dd at R;split at R
 ·grind
 ·rename_i hle
  have c6:k<n:=by
   have: ¬(n<=k):=by
    intro h;rw [abB h] at hle
    grind
   omega
  have:=congrArg (fun l=>l[k]?) h
  grind
section
variable {P:Program}
theorem CC {n:Nat} {F2:Tr TI} (h:(List.range n).map F2.get=(List.range n).map (CG P)):bV P (Dd n F2):=fun _ _ R=>CF (yL h R)
def EL (lj:Nat->List Oper->Bool) (f:Func):Bool:=!(f.name == "runtime.NumGoroutine")&&(match f.body with |some c=>gx lj f.ntmps c|none=>true)
def K1 {α:Type} (t:Tr (Tr α)) (g id:Nat):Option α:=match t.get g with
 |some u=>u.get id
 |none=>none
theorem Du {n:Nat} {tW:Tr Func} (h:(List.range n).map tW.get=(List.range n).map (fun g=>P.funcs[g]?)) {lj:Nat->Nat->List Oper->Bool} (B:(List.range n).all (fun g=>match tW.get g with |some f=>EL (lj g) f|none=>true)=true):DP P lj (Dd n tW):=by
 intro g fn R;have O:=yL h R;refine⟨O,?_⟩
 have c6:g<n:=by
  unfold Dd at R;split at R
  ·grind
  ·rename_i hle;rcases aG g n with h|h
   ·exact h
   ·rw [abB h] at hle; simp at hle
 have j9:tW.get g=some fn:=by
  unfold Dd at R
  grind
 have:=aE.1 B g (aal.2 c6);rw [j9] at this;simp only [EL,an,bd] at this
 grind
end
end
end Go.As
end
section
namespace Go.As
noncomputable section
structure Ren where
 ns:List Y
 bl:List Nat
 sh:List Nat
def Ren.se (r:Ren):Y->Y
 | .lit n=> .lit n
 | .pE i=>match cq r.ns i with |some e=>e|none=> .pE i
 | .add a b=> .add (r.se a) (r.se b)
 | .sub a b=> .sub (r.se a) (r.se b)
 | .mul a b=> .mul (r.se a) (r.se b)
 | .quo a b=> .quo (r.se a) (r.se b)
 | .rem a b=> .rem (r.se a) (r.se b)
 | .wrap k a=> .wrap k (r.se a)
 | .k8 b e=> .k8 b (r.se e)
 | .cE d=> .cE d
 | .op o a b=>match o with
   | .len=>bL (r.se a)
   |o=> .op o (r.se a) (r.se b)
 | .ap f a=> .ap f (r.se a)
def Ren.sb (r:Ren):SB->SB
 | .lit b=> .lit b
 | .lt a b=>da (r.se a) (r.se b)
 | .le a b=> .le (r.se a) (r.se b)
 | .eq a b=>im (r.se a) (r.se b)
 | .not s=> .not (r.sb s)
 | .and a b=> .and (r.sb a) (r.sb b)
def Ren.id (r:Ren) (i:Nat):Nat:=match cq r.bl i with |some j=>j|none=>0
def Ren.o3 (r:Ren) (i:Nat):Nat:=match cq r.sh i with |some j=>j|none=>0
mutual
def Ren.av (r:Ren):Z->Z
 | .bool b=> .bool (r.sb b)
 | .int k e=> .int k (r.se e)
 | .str s=> .str s
 | .ptr i o=> .ptr (r.id i) (r.o3 i+o)
 | .dw=> .dw
 | .fD cs=> .fD (r.pD cs)
 | .slice i o l c=> .slice (r.id i) (r.o3 i+o) l c
 | .bE=> .bE
 | .ro cs n f=> .ro (r.pD cs) n f
 | .map i=> .map (r.id i)
 | .eS=> .eS
 | .func f a b=> .func f (r.pD a) (r.pD b)
 | .jZ=> .jZ
 | .iface t v=> .iface t (r.av v)
 | .lB=> .lB
 | .agg cs=> .agg (r.pD cs)
 | .tuple cs=> .tuple (r.pD cs)
 | .vu i=> .vu i
 | .k8 k ks=> .k8 k ks
 | .emp=> .emp
 | .cE e t=> .cE (r.se e) t
 | .dW e=> .dW (r.se e)
 | .hK i n t=>match r.o3 i with
   |0=> .hK (r.id i) (r.se n) t
   |_=> .vu 0
 | .nk i es x o=>match r.o3 i with
   |0=> .nk (r.id i) es (r.se x) o
   |_=> .vu 0
 | .jN i lo n t=>match r.o3 i with
   |0=> .jN (r.id i) (r.se lo) (r.se n) t
   |_=> .vu 0
 | .any=> .any
 | .lN z t=> .lN (r.se z) t
def Ren.pD (r:Ren):List Z->List Z
 |[]=>[]
 |x::xs=>r.av x::r.pD xs
end
mutual
def eK (n:Nat):Z->Bool
 | .ptr i _=>Nat.blt i n
 | .slice i _ _ _=>Nat.blt i n
 | .map i=>Nat.blt i n
 | .hK i _ _=>Nat.blt i n
 | .nk i _ _ _=>Nat.blt i n
 | .jN i _ _ _=>Nat.blt i n
 | .fD cs=>gp n cs
 | .ro cs _ _=>gp n cs
 | .func _ a b=>gp n a&&gp n b
 | .iface _ v=>eK n v
 | .agg cs=>gp n cs
 | .tuple cs=>gp n cs
 |_=>true
def gp (n:Nat):List Z->Bool
 |[]=>true
 |x::xs=>eK n x&&gp n xs
end
def Ren.env (r:Ren) (ρ:Nat->Int) (i:Nat):Int:=match cq r.ns i with |some e=>e.den ρ|none=>ρ i
theorem sv {α:Type}: ∀{l:List α} {i:Nat},l.length<=i->cq l i=none
 |[],_,_=>rfl
 |_::_,0,h=>by simp at h
 |_::l,i+1,h=>by simp only [cq]; exact sv (by simpa using h)
theorem Ren.fw {r:Ren} (h:r.ns.length<=900) {ρ:Nat->Int} {i:Nat} (hi:900<=i):r.env ρ i=ρ i:=by
 grind [Ren.env,sv]
theorem Ren.bQ {r:Ren} (h:r.ns.length<=900) (ρ:Nat->Int): ∀e:Y,(r.se e).den ρ=e.den (r.env ρ)
 | .lit n=>rfl
 | .pE i=>by simp only [Ren.se,Y.den,Ren.env];split<;>rfl
 | .add a b=>by simp only [Ren.se,Y.den,Ren.bQ h ρ a,Ren.bQ h ρ b]
 | .sub a b=>by simp only [Ren.se,Y.den,Ren.bQ h ρ a,Ren.bQ h ρ b]
 | .mul a b=>by simp only [Ren.se,Y.den,Ren.bQ h ρ a,Ren.bQ h ρ b]
 | .quo a b=>by simp only [Ren.se,Y.den,Ren.bQ h ρ a,Ren.bQ h ρ b]
 | .rem a b=>by simp only [Ren.se,Y.den,Ren.bQ h ρ a,Ren.bQ h ρ b]
 | .wrap k a=>by simp only [Ren.se,Y.den,Ren.bQ h ρ a]
 | .k8 b e=>by simp only [Ren.se,Y.den,Ren.bQ h ρ e];rw [Ren.fw h J]
 | .cE d=>rfl
 | .op o a b=>by
   cases o with
   |len=> simp only [Ren.se,bz,Ren.bQ h ρ a];simp [Y.den,c8.den]
   |_=>simp only [Ren.se,Y.den,Ren.bQ h ρ a,Ren.bQ h ρ b]
 | .ap f a=>by simp only [Ren.se,Y.den,Ren.bQ h ρ a];rw [Ren.fw h (by unfold gk; omega)]
theorem Ren.nt {r:Ren} (h:r.ns.length<=900) (ρ:Nat->Int): ∀c:SB,(r.sb c).den ρ=c.den (r.env ρ)
 | .lit b=>rfl
 | .lt a b=>by simp only [Ren.sb,bN,SB.den,Ren.bQ h]
 | .le a b=>by simp only [Ren.sb,SB.den,Ren.bQ h]
 | .eq a b=>by simp only [Ren.sb,cW,SB.den,Ren.bQ h]
 | .not s=>by simp only [Ren.sb,SB.den,Ren.nt h ρ s]
 | .and a b=>by simp only [Ren.sb,SB.den,Ren.nt h ρ a,Ren.nt h ρ b]
def En.eC (E:En) (r:Ren):En:={ ρ:=r.env E.ρ,θ:=fun i=>((E.θ (r.id i)).1,(E.θ (r.id i)).2+r.o3 i),κ:=fun i=>E.κ (r.id i)-r.o3 i,dm:=fun i=>i<r.bl.length/\E.dm (r.id i),ro:=E.ro,hd:=E.hd }
theorem lR {i n:Nat} (h:Nat.blt i n=true):i<n:=by simp_all
mutual
theorem V.eC {E:En} {r:Ren} {h:Array Obj} (I:r.ns.length<=900): ∀(x:Z) (u:Value),eK r.bl.length x=true->V E h (r.av x) u->V (E.eC r) h x u
 | .bool b,u,_,W=>by simp only [Ren.av,V,En.eC,Ren.nt I] at *; exact W
 | .int k e,u,_,W=>by simp only [Ren.av,V,En.eC,Ren.bQ I] at *; exact W
 | .str s,u,_,W=>by simp only [Ren.av,V] at *; exact W
 | .ptr i o,u,hi,W=>by simp only [Ren.av,V,En.eC,eK] at *; exact⟨by rw [W.1,aQ],lR hi,W.2⟩
 | .dw,u,_,W=>by simp only [Ren.av,V] at *; exact W
 | .fD cs,u,hi,W=>by simp only [Ren.av,V,eK] at *;obtain⟨b,o,us,O,U,N,h4⟩:=W;exact⟨b,o,us,O,U,bC.eC I cs us hi N,h4⟩
 | .slice i o l c,u,hi,W=>by
   simp only [Ren.av,V,eK] at *;obtain⟨O,a,cap,U,N,h4⟩:=W;refine⟨⟨lR hi,O⟩,a,cap,U,N,?_⟩
   cases c with
   |exact k=>
    simp only [cg,En.eC] at *
    grind
   |rest es=>
    simp only [cg,En.eC] at *
    grind
 | .bE,u,_,W=>by simp only [Ren.av,V] at *; exact W
 | .ro cs n f,u,hi,W=>by simp only [Ren.av,V,eK] at *;obtain⟨b,o,cap,us,O,U,N,h4,h5,h6⟩:=W;exact⟨b,o,cap,us,O,U,N,h4,bC.eC I cs us hi h5,h6⟩
 | .map i,u,hi,W=>by simp only [Ren.av,V,En.eC,eK] at *; exact⟨W.1,lR hi,W.2⟩
 | .eS,u,_,W=>by simp only [Ren.av,V] at *; exact W
 | .func f a b,u,hi,W=>by simp only [Ren.av,V,eK,an] at *;obtain⟨us,ws,O,U,N⟩:=W;exact⟨us,ws,O,bC.eC I a us hi.1 U,bC.eC I b ws hi.2 N⟩
 | .jZ,u,_,W=>by simp only [Ren.av,V] at *; exact W
 | .iface t v,u,hi,W=>by simp only [Ren.av,V,eK] at *;obtain⟨y,O,U⟩:=W;exact⟨y,O,V.eC I v y hi U⟩
 | .lB,u,_,W=>by simp only [Ren.av,V] at *; exact W
 | .agg cs,u,hi,W=>by simp only [Ren.av,V,eK] at *;obtain⟨us,O,U⟩:=W;exact⟨us,O,bC.eC I cs us hi U⟩
 | .tuple cs,u,hi,W=>by simp only [Ren.av,V,eK] at *;obtain⟨us,O,U⟩:=W;exact⟨us,O,bC.eC I cs us hi U⟩
 | .vu i,u,_,W=>by simp only [Ren.av,V] at W
 | .k8 k ks,u,_,W=>by
   simp only [Ren.av,V,En.eC] at *;rw [Ren.fw I J];rcases W with W|⟨b,o,n,cap,O,U,N,h4,h5⟩
   ·grind
   ·refine .inr ⟨b,o,n,cap,O,U,N,h4,fun i j kd hi hj=>?_⟩;rw [Ren.fw I J]
    grind
 | .emp,u,_,W=>by simp only [Ren.av,V] at *; exact W
 | .cE e t,u,_,W=>by simp only [Ren.av,V,En.eC,Ren.bQ I] at *; exact W
 | .dW e,u,_,W=>by simp only [Ren.av,V,En.eC,Ren.bQ I] at *; exact W
 | .hK i n t,u,hi,W=>by
   simp only [Ren.av] at W;split at W
   ·rename_i hs;simp only [V,En.eC,eK,Ren.bQ I] at *;obtain⟨O,k,a,cap,U,N,h4,h5⟩:=W;refine⟨⟨lR hi,O⟩,k,a,cap,U,N,h4,?_⟩;simp only [cg,hs] at *
    grind
   ·simp [V] at W
 | .any,u,_,_=>by simp only [V]
 | .lN z t,u,_,W=>by simp only [Ren.av,V,En.eC,Ren.bQ I] at *; exact W
 | .jN i lo n t,u,hi,W=>by
   simp only [Ren.av] at W;split at W
   ·rename_i hs;simp only [V,En.eC,eK,Ren.bQ I] at *;obtain⟨O,l,k,a,cap,U,N,h4,h5,h6⟩:=W;refine⟨⟨lR hi,O⟩,l,k,a,cap,U,N,h4,h5,?_⟩;simp only [cg,hs] at *
    grind
   ·simp [V] at W
 | .nk i es x o,u,hi,W=>by
   simp only [Ren.av] at W;split at W
   ·rename_i hs;simp only [V,En.eC,eK,Ren.bQ I] at *;obtain⟨O,k,U,N⟩:=W;exact⟨⟨lR hi,O⟩,k,U,by rw [N,hs,aH]⟩
   ·simp [V] at W
theorem bC.eC {E:En} {r:Ren} {h:Array Obj} (I:r.ns.length<=900): ∀(xs:List Z) (us:List Value),gp r.bl.length xs=true->bC E h (r.pD xs) us->bC (E.eC r) h xs us
 |[],us,_,W=>by simp only [Ren.pD,bC] at *; exact W
 |x::xs,us,hi,W=>by simp only [Ren.pD,bC,gp,an] at *;obtain⟨u,vs,O,U,N⟩:=W;exact⟨u,vs,O,V.eC I x u hi.1 U,bC.eC I xs vs hi.2 N⟩
end
theorem DK {E:En} {r:Ren} {h:Array Obj} {xs ys:List Z} {us:List Value} (hs:dk (r.pD xs) ys=true) (W:bC E h ys us):bC E h (r.pD xs) us:=by
 grind [cy]
def iG (r:Ren):List (Z×Z×Nat)->List (Z×Z×Nat)->Bool
 |[],[]=>true
 |(k,v,_)::xs,(k',v',_)::ys=>match bZ (r.av k) k' with
  |true=>match bZ (r.av v) v' with
   |true=>iG r xs ys
   |false=>false
  |false=>false
 |_,_=>false
def uJ (n:Nat):List (Z×Z×Nat)->Bool
 |[]=>true
 |(k,v,_)::xs=>eK n k&&eK n v&&uJ n xs
def vt (n:Nat):List (Y×List Z)->Bool
 |[]=>true
 |(_,cs)::l=>gp n cs&&vt n l
def fm (r:Ren):List (Y×List Z)->List (Y×List Z)->Bool
 |[],[]=>true
 |(i,a)::x,(j,b)::y=>cf (r.se i) j&&dk (r.pD a) b&&fm r x y
 |_,_=>false
def vW (n:Nat):List (Y×Z)->Bool
 |[]=>true
 |(_,v)::l=>eK n v&&vW n l
def fo (r:Ren):List (Y×Z)->List (Y×Z)->Bool
 |[],[]=>true
 |(i,a)::x,(j,b)::y=>cf (r.se i) j&&bZ (r.av a) b&&fo r x y
 |_,_=>false
def vw (n:Nat):bS->Bool
 | .kg _ _ _ ov=>vW n ov
 | .vec _ _ _ ov=>vt n ov
 | .cells cs _=>gp n cs
 | .map es _=>uJ n es
 | .dZ _ _=>true
 | .dJ _ _ _ _=>false
 | .ey _ _=>true
def bP (r:Ren) (k:Nat):bS->bS->Bool
 | .cells cs e,.cells ds f=>match Nat.beq e f with
   |true=>match b8 k ds with
    |some ds=>dk (r.pD cs) ds
    |none=>false
   |false=>false
 | .map es k,.map fs _=>iG r es fs&&Nat.beq k 0
 | .dZ s p,.dZ t q=>dB s t&&Nat.beq p q&&Nat.beq k 0
 | .ey e t,.ey e' t'=>cf (r.se e) e'&&Nat.beq t t'&&Nat.beq k 0
 | .kg e t cK ov,.kg e' t' Gg dv=>cf (r.se e) e'&&Nat.beq t t'&&decide (cK=Gg)&&fo r ov dv&&Nat.beq k 0
 | .vec e t ty ov,.vec e' t' DS dv=>cf (r.se e) e'&&Nat.beq t t'&&Nat.beq ty DS&&fm r ov dv&&Nat.beq k 0
 |_,_=>false
theorem bY.eC {E:En} {r:Ren} {h:Array Obj} (I:r.ns.length<=900): ∀{xs ys:List (Z×Z×Nat)} {es:List MapEntry},uJ r.bl.length xs=true->iG r xs ys=true->bY E h ys es->bY (E.eC r) h xs es
 |[],[],es,_,_,h=>by simp only [bY] at *; exact h
 |[],_::_,_,_,hs,_=>by simp [iG] at hs
 |(_,_,_)::_,[],_,_,hs,_=>by simp [iG] at hs
 |(k,v,b)::xs,(k',v',b')::ys,es,hi,hs,h=>by
  simp only [uJ,an] at hi;simp only [iG] at hs;simp only [bY] at *;obtain⟨e,rr,rfl,O,U,_,h4⟩:=h;split at hs
  ·rename_i e1;split at hs
   ·rename_i e2;refine⟨e,rr,rfl,V.eC I k _ hi.1.1 (by rw [dx _ _ e1]; exact O),V.eC I v _ hi.1.2 (by rw [dx _ _ e2]; exact U),trivial,bY.eC I hi.2 hs h4⟩
   grind
  grind
theorem hG {r:Ren}: ∀xs:List Z,(r.pD xs).length=xs.length
 |[]=>rfl
 |_::xs=>by simp [Ren.pD,hG xs]
theorem sk {r:Ren} (I:r.ns.length<=900) {ρ:Nat->Int} {i:Nat}: ∀{ov dv:List (Y×List Z)},fm r ov dv=true->bO ρ i dv=(bO (r.env ρ) i ov).map r.pD
 |[],[],_=>rfl
 |[],_::_,h=>by simp [fm] at h
 |_::_,[],h=>by simp [fm] at h
 |(j,a)::x,(k,b)::y,h=>by
  simp only [fm,an] at h;have O:=bD _ _ h.1.1;have U:=cy _ _ h.1.2;simp only [bO];rw [<- O,Ren.bQ I,<- U,sk I h.2]
  grind
theorem sj {n:Nat}: ∀{ov:List (Y×List Z)},vt n ov=true->∀p∈ov,gp n p.2=true
 |[],_,p,F=>by simp at F
 |(j,a)::x,h,p,F=>by
  simp only [vt,an] at h;rcases aw.1 F with rfl|F
  ·grind
  ·exact sj h.2 p F
theorem jy {E:En} {r:Ren} {h:Array Obj} (I:r.ns.length<=900) {row:Row} {ov dv:List (Y×List Z)} (hs:fm r ov dv=true) (hi:vt r.bl.length ov=true): ∀(ds:List D) (i:Nat) {us:List Value},
 bC E h (bk E.ρ row dv ds i) us->bC (E.eC r) h (bk (E.eC r).ρ row ov ds i) us
 |[],_,us,W=>by simp only [bk,bC] at *; exact W
 |d::ds,i,us,W=>by
  simp only [bk] at *;obtain⟨a,b,rfl,O,U⟩:=W.split;refine bC.append ?_ (jy I hs hi ds (i+1) U);rw [sk I hs] at O;show bC (E.eC r) h (match bO (r.env E.ρ) i ov with |some cs=>cs|none=>cT row (.cE d)) a
  cases ho:bO (r.env E.ρ) i ov with
  |none=> rw [ho] at O;simp only [Option.map_none] at O;exact (cF (E:=E.eC r)).2 (show k4 E.ro h row (dec (enc d)) a from (cF (E:=E)).1 O)
  |some cs=> rw [ho] at O;simp only [aR] at O;obtain⟨p,p1,p2,_⟩:=eu ho;exact bC.eC I cs a (by rw [<- p2]; exact sj hi p p1) O
theorem pR {r:Ren} {row:Row}: ∀{ov dv:List (Y×List Z)},fm r ov dv=true->jY row dv->jY row ov
 |[],[],_,h=>h
 |[],_::_,h,_=>by simp [fm] at h
 |_::_,[],h,_=>by simp [fm] at h
 |(j,a)::x,(k,b)::y,h,ho=>by
  simp only [fm,an] at h;intro p F;rcases aw.1 F with rfl|F
  ·have:=congrArg List.length (cy _ _ h.1.2);rw [hG] at this;simp only;rw [this];exact ho (k,b) ad
  ·exact pR h.2 (fun q hq=>ho q (by simp [hq])) p F
theorem yy {r:Ren} (I:r.ns.length<=900) {ρ:Nat->Int} {n:Int}: ∀{ov dv:List (Y×Z)},fo r ov dv=true->fW ρ n dv=(fW (r.env ρ) n ov).map r.av
 |[],[],_=>rfl
 |[],_::_,h=>by simp [fo] at h
 |_::_,[],h=>by simp [fo] at h
 |(j,a)::x,(k,b)::y,h=>by simp only [fo,an] at h;have O:=bD _ _ h.1.1;have U:=dx _ _ h.1.2;simp only [fW];rw [<- O,Ren.bQ I,<- U,yy I h.2];split<;>simp
theorem l9 {r:Ren} (I:r.ns.length<=900) {ρ:Nat->Int}: ∀{ov dv:List (Y×Z)},fo r ov dv=true->(ov.map fun p=>p.1.den (r.env ρ))=dv.map fun p=>p.1.den ρ
 |[],[],_=>rfl
 |[],_::_,h=>by simp [fo] at h
 |_::_,[],h=>by simp [fo] at h
 |(j,a)::x,(k,b)::y,h=>by simp only [fo,an] at h;have O:=bD _ _ h.1.1;simp only [au];rw [<- O,Ren.bQ I,l9 I h.2]
theorem rB.congr {ρ ρ':Nat->Int} {ds:List D} {ov dv:List (Y×Z)} (h:rB ρ ds ov) (R:(dv.map fun p=>p.1.den ρ')=ov.map fun p=>p.1.den ρ):rB ρ' ds dv:=by refine⟨h.1,fun p F=>?_,by rw [R]; exact h.2.2⟩;have:p.1.den ρ'∈dv.map fun p=>p.1.den ρ':=aF.2 ⟨p,F,rfl⟩;rw [R] at this;obtain⟨q,hq,he⟩:=aF.1 this;rw [<- he];exact h.2.1 q hq
theorem sO {n:Nat} {ρ:Nat->Int} {m:Int} {v:Z}: ∀{ov:List (Y×Z)},vW n ov=true->fW ρ m ov=some v->eK n v=true
 |[],_,h=>by simp [fW] at h
 |(_,u)::l,hi,h=>by
  simp only [vW,an] at hi;simp only [fW] at h;split at h
  ·simp only [af] at h; subst h; exact hi.1
  ·exact sO hi.2 h
theorem jH.eC {E:En} {r:Ren} {h:Array Obj} (I:r.ns.length<=900) {Y_:Nat} {key:D} {j ty:Nat} {c:FC} {d:D} {u:Value} (ho:jH E h Y_ key j ty c d u):jH (E.eC r) h Y_ key j ty c d u:=by
 cases c with
 |ck c=>exact ho
 |mp t=>exact ho
 |own t=>
  rcases ho with ho|⟨b,o,n,cap,a,arr,lo,hi,O,U,N,h4,h5,h6,h7⟩
  ·exact .inl ho
  ·refine .inr ⟨b,o,n,cap,a,arr,lo,hi,O,U,N,h4,h5,h6,?_⟩;rcases h7 with h7|⟨g1,g2,us,g3,g4⟩
   ·exact .inl h7
   ·exact .inr ⟨g1,g2,us,jy I (ov:=[]) (dv:=[]) rfl rfl _ _ g3,g4⟩
theorem kD.eC {E:En} {r:Ren} {h:Array Obj} (I:r.ns.length<=900) {Y_ t:Nat} {cK:List Nat} {key d:D} {v:Value} (ho:kD E h Y_ t cK key d v):kD (E.eC r) h Y_ t cK key d v:=by
 unfold kD at *;split at ho
 ·obtain⟨c,O,U⟩:=ho;exact⟨c,O,U.eC I⟩
 ·obtain⟨b,o,arr,lo,hi,O,U,N,h4,h5,h6⟩:=ho;refine⟨b,o,arr,lo,hi,O,U,N,h4,h5,fun j c B=>?_⟩;obtain⟨u,g1,g2,g3⟩:=h6 j c B;exact⟨u,g1,g2,g3.eC I⟩
theorem cw.eC {E:En} {r:Ren} {h:Array Obj} (I:r.ns.length<=900) {Y_ t:Nat} {cK:List Nat} {ov dv:List (Y×Z)} (hs:fo r ov dv=true) (hi:vW r.bl.length ov=true): ∀{ds:List D} {es:List MapEntry},cw E h Y_ t cK dv ds es->cw (E.eC r) h Y_ t cK ov ds es
 |[],_,ho=>ho
 |d::ds,_,⟨e,rr,n,O,U,N,h4,h5⟩=>by
  refine⟨e,rr,n,O,U,N,?_,cw.eC I hs hi h5⟩;have he:=yy I (ρ:=E.ρ) (n:=n) hs
  show match fW (r.env E.ρ) n ov with |some v=>V (E.eC r) h v e.val|none=>kD (E.eC r) h Y_ t cK (.i n) (wx d) e.val
  cases W:fW (r.env E.ρ) n ov with
  |none=> rw [W] at he;rw [he] at h4;exact h4.eC I
  |some v=> rw [W] at he;rw [he] at h4;exact V.eC I v _ (sO hi W) h4
theorem OR.eC {E:En} {r:Ren} {h:Array Obj} (I:r.ns.length<=900) {id:Nat} {o o':bS} (hi:vw r.bl.length o=true) (hs:bP r (r.o3 id) o o'=true) (ho:OR E h (r.id id) o'):OR (E.eC r) h id o:=by
 cases o with
 |cells cs e=>
  cases o' with
  |dJ _ _ _ _=>simp [bP] at hs
  |cells ds f=>
   simp only [bP] at hs;simp only [vw] at hi;split at hs
   ·rename_i he;have he:=aq he;subst he;split at hs
    ·rename_i Es xt;simp only [OR] at *;obtain⟨arr,lo,hi',us,O,U,N,h4,h5,h6,h7⟩:=ho;obtain⟨g1,g2,g3⟩:=U.b8 xt;have hlen:=congrArg List.length (cy _ _ hs);rw [hG] at hlen;refine⟨arr,lo,hi',us.drop (r.o3 id),O,bC.eC I cs _ hi (DK hs g1),fun i u hu=>?_,?_,?_,h6,fun u hu=>h7 u (aS hu)⟩
     ·rw [aaO] at hu;have:=N _ u hu;show arr[(E.θ (r.id id)).2+r.o3 id+i]?=some u
      grind
     ·show cs.length<=E.κ (r.id id)-r.o3 id;omega
     ·show (E.θ (r.id id)).2+r.o3 id+(E.κ (r.id id)-r.o3 id)=arr.size;omega
    grind
   grind
  |map _ _=>simp [bP] at hs
  |dZ _ _=>simp [bP] at hs
  |vec _ _ _ _=>simp [bP] at hs
  |ey _ _=>simp [bP] at hs
  |kg _ _ _ _=>simp [bP] at hs
 |map es c=>
  cases o' with
  |dJ _ _ _ _=>simp [bP] at hs
  |map fs d=> simp only [bP] at hs;simp only [vw] at hi;simp only [OR] at *;obtain⟨bo,c',O,U,_⟩:=ho;simp only [an] at hs;have hz:=aq hs.2;exact⟨bo,c',O,bY.eC I hi hs.1 U,by rw [hz]; trivial⟩
  |cells _ _=>simp [bP] at hs
  |dZ _ _=>simp [bP] at hs
  |vec _ _ _ _=>simp [bP] at hs
  |ey _ _=>simp [bP] at hs
  |kg _ _ _ _=>simp [bP] at hs
 |dJ _ _ _ _=>simp [vw] at hi
 |dZ s p=>
  cases o' with
  |dJ _ _ _ _=>simp [bP] at hs
  |dZ t q=> simp_all [bP,eV,OR,En.eC]
  |cells _ _=>simp [bP] at hs
  |map _ _=>simp [bP] at hs
  |vec _ _ _ _=>simp [bP] at hs
  |ey _ _=>simp [bP] at hs
  |kg _ _ _ _=>simp [bP] at hs
 |ey e t=>
  cases o' with
  |dJ _ _ _ _=>simp [bP] at hs
  |cells _ _=>simp [bP] at hs
  |map _ _=>simp [bP] at hs
  |dZ _ _=>simp [bP] at hs
  |vec _ _ _ _=>simp [bP] at hs
  |kg _ _ _ _=>simp [bP] at hs
  |ey e' t'=> simp only [bP,an] at hs;have O:=bD _ _ hs.1.1;have U:=aq hs.1.2;subst O U;simp only [OR] at *;have nV:e.den (E.eC r).ρ=(r.se e).den E.ρ:=(Ren.bQ I E.ρ e).symm;rw [nV];exact ho
 |vec e t ty ov=>
  cases o' with
  |dJ _ _ _ _=>simp [bP] at hs
  |cells _ _=>simp [bP] at hs
  |map _ _=>simp [bP] at hs
  |dZ _ _=>simp [bP] at hs
  |ey _ _=>simp [bP] at hs
  |kg _ _ _ _=>simp [bP] at hs
  |vec e' t' DS dv=>
   simp only [bP,an] at hs;simp only [vw] at hi;have O:=bD _ _ hs.1.1.1.1;have U:=aq hs.1.1.1.2;have N:=aq hs.1.1.2;have h4:=aq hs.2;have oJ:=hs.1.2;subst O U N;simp only [OR] at *;obtain⟨h0,arr,lo,hi',us,q1,q2,q3,q4,q5,q6,q7⟩:=ho;have Fh:=pR oJ h0.1;have nV:e.den (E.eC r).ρ=(r.se e).den E.ρ:=(Ren.bQ I E.ρ e).symm;rw [nV];refine⟨⟨Fh,h0.2⟩,arr,lo,hi',us,q1,jy I oJ hi _ _ q2,?_,?_,?_,q6,q7⟩
   ·intro i u hu;show arr[(E.θ (r.id id)).2+r.o3 id+i]?=some u
    grind
   ·show _<=E.κ (r.id id)-r.o3 id
    grind [bB]
   ·show (E.θ (r.id id)).2+r.o3 id+(E.κ (r.id id)-r.o3 id)=arr.size
    grind
 |kg e t cK ov=>
  cases o' with
  |dJ _ _ _ _=>simp [bP] at hs
  |cells _ _=>simp [bP] at hs
  |map _ _=>simp [bP] at hs
  |dZ _ _=>simp [bP] at hs
  |ey _ _=>simp [bP] at hs
  |vec _ _ _ _=>simp [bP] at hs
  |kg e' t' Gg dv=> simp only [bP,an,decide_eq_true_eq] at hs;simp only [vw] at hi;have O:=bD _ _ hs.1.1.1.1;have U:=aq hs.1.1.1.2;have N:=hs.1.1.2;have oJ:=hs.1.2;subst O U N;simp only [OR] at *;obtain⟨n0,bo,c',g1,g2⟩:=ho;have nV:e.den (E.eC r).ρ=(r.se e).den E.ρ:=(Ren.bQ I E.ρ e).symm;rw [nV];exact⟨n0.congr (l9 I oJ),bo,c',g1,cw.eC I oJ hi g2⟩
end
end Go.As
end
section
namespace Go.As
noncomputable section
open Go.RowKit
structure CS where
 k:Nat
 bj:List (Nat×Z)
 gR:List bS
 pc:List (SB×Bool)
 m:Y
def kG:List (Nat×Z)->Tr Z->Tr Z
 |[],t=>t
 |(i,v)::l,t=>kG l (t.put i (some v))
def nD:List bS->Nat->Tr bS->Tr bS
 |[],_,t=>t
 |o::os,i,t=>nD os (i+1) (t.put i (some o))
def CS.st (c:CS):St:=⟨kG c.bj .nil,⟨nD c.gR 0 .nil,c.gR.length,none⟩,c.pc⟩
structure Gs where
 ns:Tr Y
 bl:Tr (Nat×Nat)
def Gs.num (g:Gs) (i:Nat) (e:Y):Gs:=match g.ns.get i with
 |some _=>g
 |none=> ⟨g.ns.put i (some e),g.bl⟩
def Gs.ru (g:Gs) (i j k:Nat):Gs:=match g.bl.get i with
 |some _=>g
 |none=> ⟨g.ns,g.bl.put i (some (j,k))⟩
def lJ (x y:Y) (g:Gs):Gs:=match x with
 | .pE i=>g.num i y
 |_=>g
def HZ:SB->SB->Gs->Gs
 | .not a,.not b,g=>HZ a b g
 | .eq a b,.eq c d,g=>lJ b d (lJ a c g)
 |_,_,g=>g
mutual
def Ag:Z->Z->Gs->Gs
 | .bool a,.bool b,g=>HZ a b g
 | .int _ e,.int _ f,g=>lJ e f g
 | .ptr i o,.ptr j p,g=>g.ru i j (p-o)
 | .slice i o _ _,.slice j p _ _,g=>g.ru i j (p-o)
 | .map i,.map j,g=>g.ru i j 0
 | .agg a,.agg b,g=>mB a b g
 | .tuple a,.tuple b,g=>mB a b g
 | .iface _ a,.iface _ b,g=>Ag a b g
 | .func _ a b,.func _ c d,g=>mB b d (mB a c g)
 | .fD a,.fD b,g=>mB a b g
 | .ro a _ _,.ro b _ _,g=>mB a b g
 | .cE a _,.cE b _,g=>lJ a b g
 | .dW a,.dW b,g=>lJ a b g
 | .hK i a _,.hK j b _,g=>(lJ a b g).ru i j 0
 | .nk i _ a _,.nk j _ b _,g=>(lJ a b g).ru i j 0
 | .lN a _,.lN b _,g=>lJ a b g
 | .jN i l a _,.jN j k b _,g=>(lJ l k (lJ a b g)).ru i j 0
 |_,_,g=>g
def mB:List Z->List Z->Gs->Gs
 |x::xs,y::ys,g=>mB xs ys (Ag x y g)
 |_,_,g=>g
end
def BK:List (Z×Z×Nat)->List (Z×Z×Nat)->Gs->Gs
 |(k,v,_)::xs,(k',v',_)::ys,g=>BK xs ys (Ag v v' (Ag k k' g))
 |_,_,g=>g
def Eh:List (Y×List Z)->List (Y×List Z)->Gs->Gs
 |(i,a)::x,(j,b)::y,g=>Eh x y (mB a b (lJ i j g))
 |_,_,g=>g
def Ei:List (Y×Z)->List (Y×Z)->Gs->Gs
 |(i,a)::x,(j,b)::y,g=>Ei x y (Ag a b (lJ i j g))
 |_,_,g=>g
def J8 (k:Nat) (o o':bS) (g:Gs):Gs:=match o,o' with
 | .cells a _,.cells b _=>match b8 k b with
   |some b=>mB a b g
   |none=>g
 | .map a _,.map b _=>BK a b g
 | .vec a _ _ ov,.vec b _ _ dv=>Eh ov dv (lJ a b g)
 | .ey a _,.ey b _=>lJ a b g
 | .kg a _ _ ov,.kg b _ _ dv=>Ei ov dv (lJ a b g)
 |_,_=>g
def pn (s:Tr Z):List (Nat×Z)->Gs->Gs
 |[],g=>g
 |(t,v)::l,g=>match s.get t with
  |some v'=>pn s l (Ag v v' g)
  |none=>pn s l g
def nZ (h:Hp):List bS->Nat->Gs->Gs
 |[],_,g=>g
 |o::os,i,g=>match g.bl.get i with
  |some (j,k)=>match h.get j with
   |some o'=>nZ h os (i+1) (J8 k o o' g)
   |none=>nZ h os (i+1) g
  |none=>nZ h os (i+1) g
def qt (g:Tr Y):Nat->Nat->List Y
 |0,_=>[]
 |n+1,i=>match g.get i with
  |some e=>e::qt g n (i+1)
  |none=> .lit 0::qt g n (i+1)
def tM (g:Tr (Nat×Nat)):Nat->Nat->List Nat
 |0,_=>[]
 |n+1,i=>match g.get i with
  |some (e,_)=>e::tM g n (i+1)
  |none=>0::tM g n (i+1)
def tL (g:Tr (Nat×Nat)):Nat->Nat->List Nat
 |0,_=>[]
 |n+1,i=>match g.get i with
  |some (_,e)=>e::tL g n (i+1)
  |none=>0::tL g n (i+1)
def CS.fZ (c:CS) (s:St):Ren:=match nZ s.h c.gR 0 (pn s.bj c.bj ⟨.nil,.nil⟩) with
 |⟨ns,bl⟩=> ⟨qt ns c.k 0,tM bl c.gR.length 0,tL bl c.gR.length 0⟩
def yC (i:Nat):List Nat->Bool
 |[]=>true
 |j::l=>match Nat.beq i j with
  |true=>false
  |false=>yC i l
def kV:List Nat->Bool
 |[]=>true
 |i::l=>yC i l&&kV l
def pb (r:Ren) (n:Nat) (s:Tr Z):List (Nat×Z)->Bool
 |[]=>true
 |(t,v)::l=>match s.get t with
  |some v'=>eK n v&&bZ (r.av v) v'&&pb r n s l
  |none=>false
def qg (r:Ren) (n:Nat) (h:Hp):List bS->Nat->Bool
 |[],_=>true
 |o::os,i=>match h.get (r.id i) with
  |some o'=>vw n o&&bP r (r.o3 i) o o'&&qg r n h os (i+1)
  |none=>false
def wF (pc:List (SB×Bool)) (e:Y):Option Int×Option Int:=match e with
 | .lit z=>(some z,some z)
 |e=>bounds e pc
def yX (a b:Int):Bool:=decide (-9223372036854775808<=a)&&decide (b<=9223372036854775807)
def rq (pc:List (SB×Bool)) (e:Y):Option Int×Option Int:=match e with
 | .wrap .i64 (.add a b)=>match wF pc a,wF pc b with
   |(some la,some ha),(some lb,some K)=>if yX (la+lb) (ha+K) then (some (la+lb),some (ha+K)) else bounds e pc
   |_,_=>bounds e pc
 | .wrap .i64 (.sub a b)=>match wF pc a,wF pc b with
   |(some la,some ha),(some lb,some K)=>if yX (la-K) (ha-lb) then (some (la-K),some (ha-lb)) else bounds e pc
   |_,_=>bounds e pc
 |e=>wF pc e
def ry (a b:Option Int):Bool:=match a,b with
 |some x,some y=>decide (x<y)
 |_,_=>false
def uT (a b:Option Int):Bool:=match a,b with
 |some x,some y=>decide (x<=y)
 |_,_=>false
def C0 (pc:List (SB×Bool)) (c:SB) (v:Bool):Bool:=
 match dS pc c with
 |some b=>b == v
 |none=>match c with
  | .lt a b=>match v with
    |true=>ry (rq pc a).2 (rq pc b).1
    |false=>uT (rq pc b).2 (rq pc a).1
  | .eq a b=>match v with
    |true=>false
    |false=>ry (rq pc a).2 (rq pc b).1||ry (rq pc b).2 (rq pc a).1
  |_=>false
def pr (pv:List (SB×Bool)->SB->Bool->Bool) (r:Ren) (pc:List (SB×Bool)):List (SB×Bool)->Bool
 |[]=>true
 |(c,v)::l=>pv pc (r.sb c) v&&pr pv r pc l
def CS.fits (pv:List (SB×Bool)->SB->Bool->Bool) (c:CS) (s:St) (r:Ren):Bool:=
 Nat.ble r.ns.length 900&&Nat.beq r.bl.length c.gR.length&&kV r.bl&&pb r c.gR.length s.bj c.bj&&qg r c.gR.length s.h c.gR 0&&pr pv r s.pc c.pc
theorem jS: ∀{l:List (Nat×Z)} {t:Tr Z} {i:Nat} {v:Z},(kG l t).get i=some v->(i,v)∈l\/t.get i=some v
 |[],t,i,v,h=> .inr h
 |(j,x)::l,t,i,v,h=>by
  simp only [kG] at h;rcases jS h with h|h
  all_goals grind [Tr.br]
theorem lz: ∀{l:List bS} {i:Nat} {t:Tr bS} {j:Nat},(nD l i t).get j=if i<=j/\j<i+l.length then l[j-i]? else t.get j
 |[],i,t,j=>by rw [ah ad];rfl
 |o::os,i,t,j=>by
  simp only [nD];rw [lz,Tr.br]
  grind
theorem vx {i:Nat}: ∀{l:List Nat},yC i l=true->i∉l
 |[],_=>by simp
 |j::l,h=>by
  simp only [yC] at h;split at h
  ·grind
  ·rename_i K;have:=aaP K;simp [this,vx h]
theorem mU: ∀{l:List Nat},kV l=true->∀{i j x:Nat},cq l i=some x->cq l j=some x->i=j
 |[],_,i,_,_,h,_=>by simp [cq] at h
 |y::l,hd,i,j,x,O,U=>by
  simp only [kV,an] at hd;have hn:=vx hd.1
  have hm: ∀{i:Nat} {l:List Nat} {x:Nat},cq l i=some x->x∈l:=by
   intro i l x h
   grind [cI]
  cases i with
  |zero=>
   cases j with
   |zero=>rfl
   |succ j=>
    grind [cq]
  |succ i=>
   cases j with
   |zero=>
    grind [cq]
   |succ j=> simp only [cq] at O U;rw [mU hd.2 O U]
theorem ou {r:Ren} {n:Nat} {s:Tr Z}: ∀{l:List (Nat×Z)},pb r n s l=true->∀{t:Nat} {v:Z},(t,v)∈l->∃v',s.get t=some v'/\eK n v=true/\r.av v=v'
 |[],_,_,_,h=>by simp at h
 |(t0,v0)::l,hs,t,v,h=>by
  simp only [pb] at hs;split at hs
  ·rename_i v' W;simp only [an] at hs;rcases aw.1 h with h|h
   ·grind [dx]
   ·exact ou hs.2 h
  grind
theorem fE {r:Ren} {n:Nat} {h:Hp}: ∀{l:List bS} {i:Nat},qg r n h l i=true->∀{j:Nat} {o:bS},l[j]?=some o->∃o',h.get (r.id (i+j))=some o'/\vw n o=true/\bP r (r.o3 (i+j)) o o'=true
 |[],_,_,_,_,h=>by simp at h
 |o0::os,i,hs,j,o,hj=>by
  simp only [qg] at hs;split at hs
  ·rename_i o' ho;simp only [an] at hs
   cases j with
   |zero=>
    grind
   |succ j=>
    have:=fE hs.2 (j:=j) (by simpa using hj)
    grind
  grind
def Co (pv:List (SB×Bool)->SB->Bool->Bool):Prop:= ∀(ρ:Nat->Int) (pc:List (SB×Bool)) (c:SB) (v:Bool),bu ρ pc->pv pc c v=true->c.den ρ=v
theorem nb {ρ:Nat->Int} {pc:List (SB×Bool)} (F:bu ρ pc) (e:Y):iz (wF pc e).1 (wF pc e).2 (e.den ρ):=by
 unfold wF
 grind [iz,Y.den,eX]
theorem qz {a b x:Int} (h:yX a b=true) (O:a<=x) (U:x<=b):IntKind.i64.wrap x=x:=by
 simp only [yX,an,decide_eq_true_eq] at h;rw [<- ef]
 grind [iO]
theorem zu {ρ:Nat->Int} {pc:List (SB×Bool)} (F:bu ρ pc) (e:Y):iz (rq pc e).1 (rq pc e).2 (e.den ρ):=by
 unfold rq;split
 ·rename_i a b;have ha:=nb F a;have K:=nb F b;split
  ·rename_i la J3 lb Ef e1 e2;rw [e1] at ha;rw [e2] at K;have a1:=ha.1 la rfl;have a2:=ha.2 J3 rfl;have b1:=K.1 lb rfl;have b2:=K.2 Ef rfl;split
   ·rename_i hi;simp only [Y.den];rw [qz hi J J];constructor<;>intro l I<;>simp at I<;>omega
   ·exact eX F
  ·exact eX F
 ·rename_i a b;have ha:=nb F a;have K:=nb F b;split
  ·rename_i la J3 lb Ef e1 e2;rw [e1] at ha;rw [e2] at K;have a1:=ha.1 la rfl;have a2:=ha.2 J3 rfl;have b1:=K.1 lb rfl;have b2:=K.2 Ef rfl;split
   ·rename_i hi;simp only [Y.den];rw [qz hi J J];constructor<;>intro l I<;>simp at I<;>omega
   ·exact eX F
  ·exact eX F
 grind [nb]
theorem oe {a b:Option Int} {x y:Int} (h:ry a b=true) (O: ∀z,a=some z->x<=z) (U: ∀z,b=some z->z<=y):x<y:=by
 unfold ry at h
 grind
theorem ya {a b:Option Int} {x y:Int} (h:uT a b=true) (O: ∀z,a=some z->x<=z) (U: ∀z,b=some z->z<=y):x<=y:=by
 unfold uT at h
 grind
theorem EH:Co C0:=by
 intro ρ pc c v F h;unfold C0 at h;split at h
 ·rename_i b K
  grind [cR]
 ·split at h
  ·have ha:=fun a=>zu F a;split at h
   ·have:=oe h (ha _).2 (ha _).1
    grind [SB.den]
   ·have:=ya h (ha _).2 (ha _).1
    grind [SB.den]
  ·have ha:=fun a=>zu F a;split at h
   ·grind
   ·simp only [aah] at h;simp only [SB.den,beq_eq_false_iff_ne,ne_eq];rcases h with h|h
    ·have:=oe h (ha _).2 (ha _).1;omega
    ·have:=oe h (ha _).2 (ha _).1;omega
  grind
theorem qM {pv:List (SB×Bool)->SB->Bool->Bool} (F8:Co pv) {r:Ren} (I:r.ns.length<=900) {ρ:Nat->Int} {pc:List (SB×Bool)} (F:bu ρ pc): ∀{l:List (SB×Bool)},pr pv r pc l=true->bu (r.env ρ) l
 |[],_=>by intro c b h; simp at h
 |(c0,v0)::l,h=>by
  simp only [pr,an] at h;intro c b hm;rcases aw.1 hm with hm|hm
  ·simp only [ag] at hm;obtain⟨rfl,rfl⟩:=hm;rw [<- Ren.nt I];exact F8 ρ pc _ _ F h.1
  ·exact qM F8 I F h.2 c b hm
theorem vZ [bp] {pv:List (SB×Bool)->SB->Bool->Bool} (F8:Co pv) {E:En} {c:CS} {s:St} {r:Ren} {a:Act} {w:World} (f:Fit E s a w) (h:c.fits pv s r=true):r.ns.length<=900/\Fit (E.eC r) c.st a w/\
 ∀id o,c.st.h.get id=some o->∃o',s.h.get (r.id id)=some o':=by
 unfold CS.fits at h;simp only [an] at h;obtain⟨⟨⟨⟨⟨O,U⟩,N⟩,h4⟩,h5⟩,h6⟩:=h;have I:=aaZ O;have hn:=aq U
 have j9: ∀id o,c.st.h.get id=some o->c.gR[id]?=some o:=by
  intro id o ho;have:(nD c.gR 0 .nil).get id=some o:=ho
  grind [lz,Tr.get]
 refine⟨I,⟨⟨?_,?_,?_,?_,f.rel.oy,bp.eC f.rel.jM fun i hi=>Ren.fw I hi,?_⟩,?_,qM F8 I f.pc h6⟩,?_⟩
 ·intro id hid hd;have:id<r.bl.length:=hd.1;have hid:c.gR.length<=id:=hid;omega
 ·intro x M
  grind [CS.st]
 ·intro id o ho;obtain⟨o',g1,g2,g3⟩:=fE h5 (j9 id o ho);rw [ax] at g1 g3;obtain⟨q1,q2,q3⟩:=f.rel.live _ _ g1;have c6:=(aL.1 (j9 id o ho)).1;exact⟨⟨J,q1⟩,OR.eC I (by rw [hn]; exact g2) g3 q2,q3⟩
 ·intro id xl o o' ho o4 he;obtain⟨p,g1,_⟩:=fE h5 (j9 id o ho);obtain⟨p',Dt,_⟩:=fE h5 (j9 xl o' o4);rw [ax] at g1 Dt;have heq:=f.rel.inj _ _ _ _ g1 Dt he;have c6:=(aL.1 (j9 id o ho)).1;have Fm:=(aL.1 (j9 xl o' o4)).1;unfold Ren.id at heq
  cases e1:cq r.bl id with
  |none=>rw [cI,aaD] at e1; omega
  |some x=>
   cases e2:cq r.bl xl with
   |none=>rw [cI,aaD] at e2; omega
   |some y=> rw [e1,e2] at heq;simp only at heq;subst heq;exact mU N e1 e2
 ·intro b x K;obtain⟨q1,q2,q3⟩:=f.rel.hid b x K;refine⟨q1,q2,fun id o ho=>?_⟩;obtain⟨o',g1,_⟩:=fE h5 (j9 id o ho);rw [ax] at g1;exact q3 _ o' g1
 ·intro t v ht;have:(kG c.bj .nil).get t=some v:=ht;rcases jS this with h|h
  ·obtain⟨v',g1,g2,g3⟩:=ou h4 h;obtain⟨u,q1,q2⟩:=f.sr t v' g1
   grind [V.eC]
  grind [Tr.get]
 grind [fE]
end
end Go.As
end
section
namespace Go.As
noncomputable section
open Go.RowKit
structure Cs where
 w0:World
 ro:Nat->Prop
 ρ0:Nat->Int
structure DL [bp] (Y_:Cs) (E:En) (s:St) (a:Act) (w:World):Prop where
 fit:Fit E s a w
 hi: ∀i,900<=i->E.ρ i=Y_.ρ0 i
 ro: ∀b,Y_.ro b->E.ro b
 below:Below Y_.w0.heap.size Y_.w0 w
 own: ∀id o,s.h.get id=some o->Y_.w0.heap.size<=(E.θ id).1
theorem DL.then [bp] {Y_:Cs} {E:En} {s s':St} {a a':Act} {w w':World} (t:DL Y_ E s a w) (h:fB E s a w s' a' w'): ∃E',DL Y_ E' s' a' w'/\E'.ρ=E.ρ:=by
 obtain⟨_,_,E',st,f'⟩:=h;refine⟨E',⟨f',fun i hi=>by rw [st.ρ]; exact t.hi i hi,fun b K=>st.ro b (t.ro b K),?_,?_⟩,st.ρ⟩
 ·refine t.below.trans ⟨st.os,st.tape,st.output,st.size,fun k R=>?_⟩
  exact st.bw k (aac R t.below.size) fun id o ho he=>by have:=t.own id o ho;omega
 ·intro id o ho;rcases aG (E'.θ id).1 w.heap.size with h|h
  ·obtain⟨jg,o0,h0,he⟩:=st.own id o ho h;rw [<- he];exact t.own jg o0 h0
  ·exact aD t.below.size h
theorem DL.fits [bp] {pv:List (SB×Bool)->SB->Bool->Bool} (F8:Co pv) {Y_:Cs} {E:En} {c:CS} {s:St} {r:Ren} {a:Act} {w:World} (t:DL Y_ E s a w) (h:c.fits pv s r=true):r.ns.length<=900/\DL Y_ (E.eC r) c.st a w:=by
 obtain⟨I,f,ho⟩:=vZ F8 t.fit h;refine⟨I,f,fun i hi=>?_,t.ro,t.below,fun id o hid=>?_⟩
 ·show r.env E.ρ i=_;rw [Ren.fw I hi];exact t.hi i hi
 ·obtain⟨o',h'⟩:=ho id o hid;exact t.own _ _ h'
inductive Fr where
 |seq (p:List Nat) (c:Code)
 |block (id:Nat)
def tN {α:Type}:T α->(α->Bool)->Bool
 | .fail,_=>false
 | .ret a,f=>f a
 | .split _ x y,f=>tN x f&&tN y f
structure F0 where
 tt:TT
 call:bR
 draw:Nat->List Oper->St->T St
 lf:Nat
 pv:List (SB×Bool)->SB->Bool->Bool
 res:List ResultVar
def F0.ev (g:F0) (c:Code) (s:St):T (Ex×St):=dA g.tt g.call g.draw g.lf c s
def isTrue:Option (List Z)->Bool
 |some [.bool (.lit b)]=>b
 |_=>false
def BX (g:F0) (e:Ex) (s:St):Bool:=match e with
 | .exit _=>false
 |_=>isTrue (fb g.tt s g.res)
def EG:Z->Z->Bool
 | .int _ (.lit a),.int _ (.lit b)=>a == b
 | .int _ (.lit _),.int _ _=>false
 | .slice _ _ n _,.slice _ _ m _=>Nat.beq n m
 | .slice _ _ _ _,_=>false
 | .bE,.bE=>true
 | .bE,_=>false
 |_,_=>true
def quick (s:Tr Z):List (Nat×Z)->Bool
 |[]=>true
 |(t,v)::l=>match s.get t with
  |some v'=>match EG v v' with
   |true=>quick s l
   |false=>false
  |none=>false
def uW (pv:List (SB×Bool)->SB->Bool->Bool) (s:St):List CS->Bool
 |[]=>false
 |c::cs=>match quick s.bj c.bj with
  |false=>uW pv s cs
  |true=>match c.fits pv s (c.fZ s) with
   |true=>true
   |false=>uW pv s cs
abbrev Ik:=List Nat->Option (List CS)
mutual
def go (g:F0) (eE:Ik):Nat->List Nat->Code->List Fr->St->Bool
 |0,_,_,_,_=>false
 |n+1,p,c,fr,s=>match eE p with
  |some cs=>uW g.pv s cs
  |none=>match c with
   | .seq a b=>go g eE n (0::p) a (.seq (1::p) b::fr) s
   | .block id b=>go g eE n (0::p) b (.block id::fr) s
   |c=>tN (g.ev c s) fun (e,s')=>cont g eE n fr e s'
def cont (g:F0) (eE:Ik):Nat->List Fr->Ex->St->Bool
 |0,_,_,_=>false
 |n+1,fr,e,s=>match fr with
  |[]=>BX g e s
  | .seq p c::fr=>match e with
    | .normal=>go g eE n p c fr s
    |e=>cont g eE n fr e s
  | .block id::fr=>match e with
    | .exit j=>match Nat.beq j id with
      |true=>cont g eE n fr .normal s
      |false=>cont g eE n fr (.exit j) s
    |e=>cont g eE n fr e s
end
def apart (pc:List (SB×Bool)) (x:Y):List Y->Bool
 |[]=>true
 |y::l=>match decEq pc x y with
  |some false=>apart pc x l
  |_=>false
structure Hint where
 ts:List (SB×Bool):=[]
 xs:List Y:=[]
 n:Nat:=0
section
variable {P:Program} {g:F0} {lj:Nat->List Oper->Bool} {Y!:Nat} {body:Code} {Y_:Cs} {Q:Exit->Act->World->Prop}
structure K7 [bp] (P:Program) (g:F0) (lj:Nat->List Oper->Bool):Prop where
 tt:bV P g.tt
 call:dD P g.call
 draw:lT P lj g.draw
 pv:Co g.pv
theorem DL.pc [bp] {Y_:Cs} {E:En} {s:St} {a:Act} {w:World} {pc:List (SB×Bool)} (t:DL Y_ E s a w) (F:bu E.ρ pc):DL Y_ E { s with pc:=pc } a w:=
 ⟨⟨t.fit.rel,t.fit.sr,F⟩,t.hi,t.ro,t.below,t.own⟩
end
end
end Go.As
end
section
namespace Go.As
noncomputable section
def DJ (h:Hp) (o:bS):Hp:=⟨h.m.put h.next (some o),h.next+1,h.res⟩
def H9 {α:Type} (c:FC) (x:Y) (ty:Nat) (s:St) (k:Z->St->T α):T α:=match c with
 | .ck c=>k (kz c x) s
 | .mp t=>k (.map s.h.next) { s with h:=DJ s.h (.ey x t) }
 | .own t=>dP s (hY (bL x) (.lit 0)) fun s b=>match b with
   |false=>k (.hK s.h.next (bL x) t) { s with h:=DJ s.h (.vec x t ty []) }
   |true=>dP s (hY (fk x) (.cE (.i 3))) fun s b=>match b with
    |true=>k (.slice s.h.next 0 0 (.rest (rowOf t).es)) { s with h:=DJ s.h (.cells [] ty) }
    |false=>k (.lN x t) s
def Ek {α:Type} (cK:List Nat) (x:Y):List FC->Nat->St->(List Z->St->T α)->T α
 |[],_,s,k=>k [] s
 |c::cs,j,s,k=>H9 c (dr j x) (cK.getD (j+2) 0) s fun v s=>Ek cK x cs (j+1) s fun vs s=>k (v::vs) s
def Kd {α:Type} (t:Nat) (cK:List Nat) (x:Y) (s:St) (k:Z->St->T α):T α:=match (ld t).ptr with
 |false=>match (ld t).cs with
  |[c]=>H9 c x (cK.getD 1 0) s k
  |_=> .fail
 |true=>Ek cK x (ld t).cs 0 s fun vs s=>k (.ptr s.h.next 0) { s with h:=DJ s.h (.cells vs (cK.getD 0 0)) }
def Ka {α:Type} (id:Nat) (x:Y) (s:St) (k:St->T α):T α:=match s.h.get id with
 |some o=>match o with
  | .kg e t cK ov=>jr x ov s fun r s=>match r with
    |some _=>k s
    |none=>dP s (sL e (gM x)) fun s b=>match b with
     |true=>k s
     |false=>Kd t cK (.op .xf e (gM x)) { s with h:=s.h.drop id } fun v s=>k { s with h:=s.h.put id (.kg e t cK ((x,v)::ov)) }
  |_=>k s
 |none=>k s
def DO (E:En) (H:Hp) (b:Nat):Prop:=(∃id o,H.get id=some o/\(E.θ id).1=b)\/∃x,E.hd b=some x
structure View [bp] (E:En) (H:Hp) (w:World) (E':En) (H':Hp):Prop where
 rel:bq E' H' w
 kp:c9 E w.heap E' w.heap
 lU: ∀b,E'.ro b->E.ro b\/DO E H b
 hold: ∀b,DO E' H' b->DO E H b
theorem View.refl [bp] {E:En} {H:Hp} {w:World} (r:bq E H w):View E H w E H:=
 ⟨r,⟨rfl,fun _ h=>h,fun _ _=>rfl,fun _ _=>rfl,fun _ h=>h,fun _ _=>rfl⟩,fun _ h=> .inl h,fun _ h=>h⟩
theorem View.trans [bp] {E E1 E2:En} {H H1 H2:Hp} {w:World} (a:View E H w E1 H1) (b:View E1 H1 w E2 H2):View E H w E2 H2:=
 ⟨b.rel,⟨b.kp.ρ.trans a.kp.ρ,fun id h=>b.kp.dm id (a.kp.dm id h),fun id h=>(b.kp.θ id (a.kp.dm id h)).trans (a.kp.θ id h),fun id h=>(b.kp.κ id (a.kp.dm id h)).trans (a.kp.κ id h),fun x h=>b.kp.ro x (a.kp.ro x h),fun _ _=>rfl⟩,
  fun x h=>(b.lU x h).elim (a.lU x) fun h=> .inr (a.hold x h),fun x h=>a.hold x (b.hold x h)⟩
theorem c9.trans {E E1 E2:En} {h:Array Obj} (a:c9 E h E1 h) (b:c9 E1 h E2 h):c9 E h E2 h:=
 ⟨b.ρ.trans a.ρ,fun id h=>b.dm id (a.dm id h),fun id h=>(b.θ id (a.dm id h)).trans (a.θ id h),fun id h=>(b.κ id (a.dm id h)).trans (a.κ id h),fun x h=>b.ro x (a.ro x h),fun _ _=>rfl⟩
structure ll [bp] (Y_:Nat) (key:D) (Z?:Nat->Prop) (w:World) (E:En) (H:Hp) (E':En) (H':Hp):Prop where
 view:View E H w E' H'
 hd: ∀b x,E.hd b=some x->E'.hd b=some x\/∃j,Z? j/\x=(Y_,key,j)
 rN: ∀b x,E'.hd b=some x->E.hd b=some x
 new: ∀id o,H'.get id=some o->H.get id=some o\/(nf o=true/\H.next<=id)
 zY:H.next<=H'.next
 ro: ∀b,E'.ro b->E.ro b
theorem ll.refl [bp] {Y_:Nat} {key:D} {Z?:Nat->Prop} {w:World} {E:En} {H:Hp} (r:bq E H w):ll Y_ key Z? w E H E H:=
 ⟨View.refl r,fun _ _ h=> .inl h,fun _ _ h=>h,fun _ _ h=> .inl h,ar _,fun _ h=>h⟩
theorem ll.trans [bp] {Y_:Nat} {key:D} {Z? J1 J2:Nat->Prop} {w:World} {E E1 E2:En} {H H1 H2:Hp} (a:ll Y_ key J1 w E H E1 H1) (b:ll Y_ key J2 w E1 H1 E2 H2) (O: ∀j,J1 j->Z? j) (U: ∀j,J2 j->Z? j):ll Y_ key Z? w E H E2 H2:=by
 refine⟨a.view.trans b.view,fun q x h=>?_,fun q x h=>a.rN q x (b.rN q x h),fun id o h=>?_,aD a.zY b.zY,fun q h=>a.ro q (b.ro q h)⟩
 ·rcases a.hd q x h with h|⟨j,h,e⟩
  ·rcases b.hd q x h with h|⟨j,h,e⟩
   ·exact .inl h
   ·exact .inr ⟨j,U j h,e⟩
  ·exact .inr ⟨j,O j h,e⟩
 ·rcases b.new id o h with h|⟨h,g⟩
  ·exact a.new id o h
  ·exact .inr ⟨h,aD a.zY g⟩
theorem ll.nf [bp] {Y_:Nat} {key:D} {Z?:Nat->Prop} {w:World} {E E':En} {H H':Hp} (a:ll Y_ key Z? w E H E' H') (r:bq E H w) (M: ∀id o,H.get id=some o->nf o=true\/(E.θ id).1≠Y_): ∀id o,H'.get id=some o->nf o=true\/(E'.θ id).1≠Y_:=by
 intro id o h;rcases a.new id o h with h|⟨h,_⟩
 ·rcases M id o h with g|g
  ·exact .inl g
  ·exact .inr (by rw [a.view.kp.θ id (r.live id o h).1]; exact g)
 ·exact .inl h
theorem ll.own [bp] {Y_:Nat} {key:D} {Z?:Nat->Prop} {w:World} {E E':En} {H H':Hp} (a:ll Y_ key Z? w E H E' H') {j ty:Nat} (hj: ¬Z? j) {c:FC} {d:D} {u:Value} (ho:jH E w.heap Y_ key j ty c d u):jH E' w.heap Y_ key j ty c d u:=
 ho.bw a.view.kp fun b K=>by
  rcases a.hd b _ K with h|⟨i,h,e⟩
  ·exact⟨h,rfl⟩
  ·simp only [ag,true_and] at e;exact absurd (e▸h) hj
theorem Rd.i3 {ro:Nat->Prop} {h:Array Obj} {t:Nat} {u:Value} (r:Rd ro h (.sl t) (.i 3) u):False:=by
 generalize hd:D.i 3=d at r
 cases r with
 |nil t=>simp at hd
 |nh t a cap=>simp at hd
 |one t c b o cap ds f hr B K O U=>cases ds<;>simp [dL] at hd
 |many t cs b o cap rows f hr B K I O U=>cases rows<;>simp [dL] at hd
theorem cw.one {E:En} {h:Array Obj} {Y_ t:Nat} {cK:List Nat} {ov:List (Y×Z)} {n:Int} {d:D} (oJ:fW E.ρ n ov=none): ∀{ds:List D} {es:List MapEntry},(ds.map fA).Nodup->fv ds (.i n)=some d->cw E h Y_ t cK ov ds es->
 ∃en:MapEntry,kD E h Y_ t cK (.i n) d en.val/\∀e1∈es,e1.key= .int .i64 n->e1=en
 |[],_,_,hf,_=>by simp [fv] at hf
 |a::ds,_,rM,hf,⟨e0,rr,m,h0,q1,q2,q3,q4⟩=>by
  subst h0;have R:fA a= .i m:=by rw [q1]; rfl
  simp only [au,aaH] at rM;simp only [fv] at hf;by_cases hm:m=n
  ·subst hm;rw [ak R] at hf;simp only [af] at hf;rw [oJ,hf] at q3;refine⟨e0,q3,fun e1 O U=>?_⟩;rcases aw.1 O with rfl|O
   ·rfl
   ·obtain⟨i,hi⟩:=abn O;exact absurd (cw.set.cw.ph q4 hi U) (by rw [<- R]; exact rM.1)
  ·rw [ah (by rw [R]; simpa using hm)] at hf;obtain⟨en,p1,p2⟩:=cw.one oJ rM.2 hf q4;refine⟨en,p1,fun e1 O U=>?_⟩;rcases aw.1 O with rfl|O
   ·rw [q2] at U;simp only [Value.int.injEq,true_and] at U;exact absurd U hm
   ·exact p2 e1 O U
theorem cw.FI {E E3:En} {h:Array Obj} (kp:c9 E h E3 h) {Y_ t:Nat} {cK:List Nat} {ov:List (Y×Z)} {n:Int} {x:Y} {v:Z} (M:x.den E.ρ=n) (oJ:fW E.ρ n ov=none) (hd: ∀b m j,m≠n->E.hd b=some (Y_,.i m,j)->E3.hd b=some (Y_,.i m,j)) :
 ∀{ds:List D} {es:List MapEntry},(∀e1∈es,e1.key= .int .i64 n->V E3 h v e1.val)->cw E h Y_ t cK ov ds es->cw E3 h Y_ t cK ((x,v)::ov) ds es
 |[],_,_,ho=>ho
 |a::ds,_,W,⟨e0,rr,m,h0,q1,q2,q3,q4⟩=>by
  subst h0;refine⟨e0,rr,m,rfl,q1,q2,?_,cw.FI kp M oJ hd (fun e1 O U=>W e1 (by simp [O]) U) q4⟩;simp only [fW,kp.ρ,M];by_cases hm:n=m
  ·rw [ak hm];exact W e0 ad (by rw [q2,hm])
  ·rw [ah hm];split at q3
   ·exact V.bw kp _ _ q3
   ·exact q3.bw kp fun b j K=> ⟨hd b m j (fun e=>hm e.symm) K,rfl⟩
end
end Go.As
end
section
namespace Go.As
noncomputable section
def GO {α:Type} (c:FC) (v:Z) (ty:Nat) (s:St) (k:Y->St->T α):T α:=match c with
 | .ck c=>BO v s fun v s=>match fK c v with
   |some x=>k x s
   |none=> .fail
 | .mp t=>match v with
   | .map i=>match s.h.get i with
     |some o=>match o with
      | .ey e t'=>match Nat.beq t t' with
        |true=>k e { s with h:=s.h.drop i }
        |false=> .fail
      |_=> .fail
     |none=> .fail
   |_=> .fail
 | .own t=>match v with
   | .bE=>k (.cE (.i 1)) s
   | .lN z t'=>match Nat.beq t t' with
     |true=>k z s
     |false=> .fail
   | .slice i o n c=>match c with
     | .exact m=>match n with
       |0=>match m with
        |0=>k (.cE (.i 2)) s
        |_=> .fail
       |_=> .fail
     | .rest es=>match s.h.get i with
       |some ob=>match ob with
        | .cells cs DS=>if es=(rowOf t).es/\DS=ty/\o+n*es=cs.length then match n with
         |0=>k (.cE (.i 3)) { s with h:=s.h.drop i }
         |m+1=>match ei (rowOf t) (.cE (.i 0)) (m+1) (cs.drop o) with
          |some e=>k e { s with h:=s.h.drop i }
          |none=> .fail
         else .fail
        |_=> .fail
       |none=> .fail
   | .hK i n t'=>match Nat.beq t t' with
     |true=>match oo s.h i t with
      |some (e,DS)=>match Nat.beq DS ty&&cf n (bL e) with
       |true=>k e { s with h:=s.h.drop i }
       |false=> .fail
      |none=> .fail
     |false=> .fail
   | .jN i lo n t'=>match Nat.beq t t' with
     |true=>match oo s.h i t with
      |some (e,DS)=>match Nat.beq DS ty with
       |true=>nC e lo n s fun s=>dP s (hY n (.lit 0)) fun s b=>match b with
        |true=>k (.cE (.i 3)) { s with h:=s.h.drop i }
        |false=>k (qa e lo n) { s with h:=s.h.drop i }
       |false=> .fail
      |none=> .fail
     |false=> .fail
   |_=> .fail
def DW {α:Type} (cK:List Nat):List FC->Nat->List Z->St->(Y->St->T α)->T α
 |[],_,[],s,k=>k (.cE (.i 0)) s
 |c::cs,j,v::vs,s,k=>GO c v (cK.getD (j+2) 0) s fun a s=>DW cK cs (j+1) vs s fun b s=>k (cm a b) s
 |_,_,_,_,_=> .fail
def IQ {α:Type} (t:Nat) (cK:List Nat) (v:Z) (s:St) (k:Y->St->T α):T α:=match (ld t).ptr with
 |false=>match (ld t).cs with
  |[c]=>GO c v (cK.getD 1 0) s k
  |_=> .fail
 |true=>match v with
  | .ptr i o=>match o with
    |0=>match s.h.get i with
     |some ob=>match ob with
      | .cells cs ty=>match Nat.beq ty (cK.getD 0 0) with
        |true=>DW cK (ld t).cs 0 cs { s with h:=s.h.drop i } k
        |false=> .fail
      |_=> .fail
     |none=> .fail
    |_=> .fail
  |_=> .fail
def DV {α:Type} (t:Nat) (cK:List Nat):List (Y×Z)->Y->St->(Y->St->T α)->T α
 |[],e,s,k=>k e s
 |(x,v)::l,e,s,k=>IQ t cK v s fun d s=>DV t cK l (.op .qi e (cm (gM x) d)) s k
def IS {α:Type} (id:Nat) (s:St) (k:St->T α):T α:=match s.h.get id with
 |some o=>match o with
  | .kg e t cK ov=>DV t cK ov e { s with h:=s.h.drop id } fun e' s=>k { s with h:=s.h.put id (.kg e' t cK []) }
  |_=>k s
 |none=>k s
structure oY [bp] (w:World) (E:En) (H:Hp) (E':En) (H':Hp):Prop where
 view:View E H w E' H'
 mono: ∀b x,E.hd b=some x->E'.hd b=some x
 sub: ∀id o,H'.get id=some o->H.get id=some o
 hold: ∀b,E'.ro b\/(∃x,E'.hd b=some x)->E.ro b\/(∃x,E.hd b=some x)\/∃id o,H.get id=some o/\(E.θ id).1=b
theorem oY.refl [bp] {w:World} {E:En} {H:Hp} (r:bq E H w):oY w E H E H:=⟨View.refl r,fun _ _ h=>h,fun _ _ h=>h,fun _ h=>h.imp id .inl⟩
theorem oY.trans [bp] {w:World} {E E1 E2:En} {H H1 H2:Hp} (r:bq E H w) (a:oY w E H E1 H1) (b:oY w E1 H1 E2 H2):oY w E H E2 H2:=by
 refine⟨a.view.trans b.view,fun q x h=>b.mono q x (a.mono q x h),fun id o h=>a.sub id o (b.sub id o h),fun q h=>?_⟩;rcases b.hold q h with h|h|⟨id,o,O,U⟩
 ·exact a.hold q (.inl h)
 ·exact a.hold q (.inr h)
 ·have N:=a.sub id o O;rw [a.view.kp.θ id (r.live id o N).1] at U;exact .inr (.inr ⟨id,o,N,U⟩)
theorem oY.own [bp] {w:World} {E E':En} {H H':Hp} (a:oY w E H E' H') {Y_:Nat} {key:D} {j ty:Nat} {c:FC} {d:D} {u:Value} (ho:jH E w.heap Y_ key j ty c d u):jH E' w.heap Y_ key j ty c d u:=
 ho.bw a.view.kp fun b K=> ⟨a.mono b _ K,rfl⟩
theorem cw.first {E:En} {h:Array Obj} {Y_ t:Nat} {cK:List Nat} {ov:List (Y×Z)} {n:Int}: ∀{ds:List D} {es:List MapEntry},(ds.map fA).Nodup->D.i n∈ds.map fA->cw E h Y_ t cK ov ds es->∃en∈es,en.key= .int .i64 n/\∀e1∈es,e1.key= .int .i64 n->e1=en
 |[],_,_,hf,_=>by simp at hf
 |a::ds,_,rM,hf,⟨e0,rr,m,h0,q1,q2,q3,q4⟩=>by
  subst h0;have R:fA a= .i m:=by rw [q1]; rfl
  simp only [au,aaH] at rM;simp only [au,aw,R] at hf;by_cases hm:m=n
  ·subst hm;refine⟨e0,ad,q2,fun e1 O U=>?_⟩;rcases aw.1 O with rfl|O
   ·rfl
   ·obtain⟨i,hi⟩:=abn O;exact absurd (cw.set.cw.ph q4 hi U) (by rw [<- R]; exact rM.1)
  ·rcases hf with hf|hf
   ·exact absurd (by simpa using hf:n=m).symm hm
   ·obtain⟨en,p1,p2,p3⟩:=cw.first rM.2 hf q4;refine⟨en,by simp [p1],p2,fun e1 O U=>?_⟩;rcases aw.1 O with rfl|O
    ·rw [q2] at U;simp only [Value.int.injEq,true_and] at U;exact absurd U hm
    ·exact p3 e1 O U
end
end Go.As
end
section
namespace Go.As
noncomputable section
open Go.RowKit
section
variable {P:Program} {c:Code} {Q:Exit->Act->World->Prop} {a:Act} {w:World}
end
inductive Ko where
 |seq (p:List Nat) (c:Code)
 |block (id:Nat)
 |loop (p:List Nat) (b:Code)
 |scope
def ER (body:Code):List Nat->Option (Code×List Ko)
 |[]=>some (body,[])
 |d::p=>match ER body p with
  |some (.seq a b,fr)=>match d with
   |0=>some (a,.seq (1::p) b::fr)
   |_=>some (b,fr)
  |some (.block id b,fr)=>some (b,.block id::fr)
  |some (.cond _ a b,fr)=>match d with
   |0=>some (a,fr)
   |_=>some (b,fr)
  |some (.loop b,fr)=>some (b,.loop p b::fr)
  |some (.scope b,fr)=>some (b,.scope::fr)
  |_=>none
inductive RK where
 |one (c:CK)
 |agg (cs:List CK)
 deriving DecidableEq,Inhabited
def RK.flat:RK->List CK
 | .one c=>[c]
 | .agg cs=>cs
def sR:List RK->List CK
 |[]=>[]
 |r::rs=>r.flat++sR rs
def Et (c:CK) (t:Y):Z:=match c with
 | .int k=> .int k t
 | .bool=> .bool (.not (.eq t (.lit 0)))
 | .str=> .dW t
 | .sl ty=> .cE t ty
def Ce:List CK->(Nat->Y)->Nat->List Z
 |[],_,_=>[]
 |c::cs,f,i=>Et c (f i)::Ce cs f (i+1)
def vz:List RK->(Nat->Y)->Nat->List Z
 |[],_,_=>[]
 | .one c::r,f,i=>Et c (f i)::vz r f (i+1)
 | .agg cs::r,f,i=> .agg (Ce cs f i)::vz r f (i+cs.length)
def GU (c:CK) (v:Z):Option Y:=match c with
 | .int k=>match v with
   | .int k' e=>if k=k' then some e else none
   |_=>none
 | .bool=>none
 | .str=>jI v
 | .sl t=>fK (.sl t) v
def Dx:Z->Bool
 | .agg _=>false
 | .tuple _=>false
 |_=>true
def cellsOf:List RK->List Z->Option (List Z)
 |[],[]=>some []
 | .one _::rs,v::vs=>match Dx v with
   |true=>match cellsOf rs vs with
    |some l=>some (v::l)
    |none=>none
   |false=>none
 | .agg cs::rs,v::vs=>match v with
   | .agg xs=>match Nat.beq xs.length cs.length with
     |true=>match cellsOf rs vs with
      |some l=>some (xs++l)
      |none=>none
     |false=>none
   |_=>none
 |_,_=>none
def outs {α:Type}:List CK->List Z->St->(List Y->St->T α)->T α
 |[],[],s,k=>k [] s
 |c::cs,v::vs,s,k=>match c with
  | .bool=>match v with
    | .bool b=>dP s b fun s b=>outs cs vs s fun es s=>k (.lit (if b then 1 else 0)::es) s
    |_=> .fail
  |c=>match GU c v with
   |some e=>outs cs vs s fun es s=>k (e::es) s
   |none=> .fail
 |_,_,_,_=> .fail
def gN:List Y->Y
 |[]=> .cE (.i 0)
 |e::es=>cm (gM e) (gN es)
def rZ (r:Y) (i:Nat):Y:=.op .num (.op (.cell i) r (.lit 0)) (.lit 0)
inductive Lf where
 |out (es:List Y)
 |jump (j:Nat) (es:List Y)
 deriving Inhabited
inductive KX where
 |cell (t j:Nat)
 |row (t j:Nat) (k:KX) (q:Nat)
 |Cx (t:Nat)
 deriving Inhabited
def KX.ev (s:St):KX->Option Y
 | .Cx _=>none
 | .cell t j=>match s.bj.get t with
   |some v=>match v with
    | .agg cs=>match cq cs j with
      |some w=>match w with
       | .int _ e=>some e
       |_=>none
      |none=>none
    | .int _ e=>some e
    | .ptr i o=>match s.h.get i with
      |some ob=>match ob with
       | .cells cs _=>match cq cs (o+j) with
         |some w=>match w with
          | .int _ e=>some e
          |_=>none
         |none=>none
       |_=>none
      |none=>none
    |_=>none
   |none=>none
 | .row t j k q=>match KX.ev s k with
   |none=>none
   |some x=>match s.bj.get t with
    |some v=>match v with
     | .agg cs=>match cq cs j with
       |some w=>match w with
        | .cE e _=>some (l7 (dr q (.op .at e x)))
        |_=>none
       |none=>none
     | .cE e _=>some (l7 (dr q (.op .at e x)))
     | .ptr i o=>match s.h.get i with
       |some ob=>match ob with
        | .cells cs _=>match cq cs (o+j) with
          |some w=>match w with
           | .cE e _=>some (l7 (dr q (.op .at e x)))
           |_=>none
          |none=>none
        |_=>none
       |none=>none
     |_=>none
    |none=>none
structure FH where
 r:Nat
 gd:Option (KX×Int)
 k:KX
 deriving Inhabited
def qI:Tr bS->List Nat
 | .nil=>[]
 | .node v l r=>(match v with
   |some o=>match nf o with
    |true=>[]
    |false=>[0]
   |none=>[])++((qI l).map fun i=>2*i+1)++((qI r).map fun i=>2*i+2)
def xy {α:Type} (x:Y):List Nat->St->(St->T α)->T α
 |[],s,k=>k s
 |i::l,s,k=>Ka i x s fun s=>xy x l s k
def Bc {α:Type}:List Nat->St->(St->T α)->T α
 |[],s,k=>k s
 |i::l,s,k=>IS i s fun s=>Bc l s k
def J9 {α:Type} (t:Nat) (s:St) (k:St->T α):T α:=match s.bj.get t with
 |some v=>BN v s fun v s=>k { s with bj:=s.bj.put t (some v) }
 |none=>k s
def vY {α:Type} (r:Nat):List FH->St->(St->T α)->T α
 |[],s,k=>k s
 |h::hs,s,k=>match Nat.beq h.r r with
  |false=>vY r hs s k
  |true=>match h.k.ev s with
   |none=>match h.k with
    | .Cx t=>J9 t s fun s=>vY r hs s k
    |_=>vY r hs s k
   |some x=>match h.gd with
    |none=>xy x (qI s.h.m) s fun s=>vY r hs s k
    |some (g,n)=>match g.ev s with
     |none=>vY r hs s k
     |some y=>dP s (im y (.lit n)) fun s b=>match b with
      |true=>xy x (qI s.h.m) s fun s=>vY r hs s k
      |false=>vY r hs s k
def GK:Code->Option Nat
 | .region id _ _=>some id
 |_=>none
structure rC where
 tt:TT
 call:bR
 draw:Nat->List Oper->St->T St
 lf:Nat
 res:List ResultVar
 r5:List RK
 iI:List bS:=[]
 ko:Nat:=0
 A6:List CS:=[]
 kb:Nat:=0
 fz:List (Nat×Nat×Nat):=[]
 FI:List FH:=[]
def Em (g:rC):Bool:=match g.FI with
 |[]=>false
 |_::_=>match g.iI with
  |[]=>match g.A6 with
   |[]=>true
   |_=>false
  |_=>false
def Kb {α:Type} (g:rC) (c:Code) (s:St) (k:St->T α):T α:=match Em g with
 |true=>match GK c with
  |some r=>vY r g.FI s k
  |none=>k s
 |false=>k s
def GN {α:Type} (g:rC) (s:St) (k:St->T α):T α:=match Em g with
 |true=>Bc (qI s.h.m) s k
 |false=>k s
def rC.ev (g:rC) (c:Code) (s:St):T (Ex×St):=dA g.tt g.call g.draw g.lf c s
abbrev DM:=List Nat->Option (List (Nat×CS))
def EW:Nat->Tr (Nat×Nat)
 |0=> .nil
 |n+1=>(EW n).put n (some (n,0))
def Bd (g:rC) (h:Hp):Ren:=match nZ h g.iI 0 ⟨.nil,EW g.iI.length⟩ with
 |⟨ns,_⟩=> ⟨qt ns g.ko 0,List.range g.iI.length,[]⟩
def CS.nY (m:Nat) (c:CS) (s:St):Ren:=match nZ s.h c.gR 0 (pn s.bj c.bj ⟨.nil,EW m⟩) with
 |⟨ns,bl⟩=> ⟨qt ns c.k 0,tM bl c.gR.length 0,tL bl c.gR.length 0⟩
def sJ (m:Nat) (r:Ren):Bool:=match m with
 |0=>true
 |n+1=>(match cq r.bl n with |some j=>Nat.beq j n|none=>false)&&Nat.beq (r.o3 n) 0&&sJ n r
def El:Nat->Nat->List Y->List Y
 |0,_,ns=>ns
 |_+1,_,[]=>[]
 |n+1,i,_::ns=> .pE i::El n (i+1) ns
def Ah (kb:Nat) (r:Ren):Ren:=match kb with
 |0=>r
 |n+1=>{ r with ns:=El (n+1) 0 r.ns }
def FO (n m kb:Nat) (s:St):List CS->Nat->T Lf
 |[],_=> .fail
 |c::l,i=>match quick s.bj c.bj&&Nat.beq n c.bj.length with
  |false=>FO n m kb s l (i+1)
  |true=>match c.fits C0 s (Ah kb (c.nY m s))&&sJ m (Ah kb (c.nY m s)) with
   |true=> .ret (.out (.lit (Int.ofNat i)::(Ah kb (c.nY m s)).ns))
   |false=>FO n m kb s l (i+1)
def FF {α:Type}:List (Nat×Nat×Nat)->List Z->St->(List Z->St->T α)->T α
 |[],vs,s,k=>k vs s
 |(r,f,t)::l,vs,s,k=>match cq vs r with
  |some (.agg xs)=>match cq xs f with
   |some x=>BN x s fun x s=>match fK (.sl t) x with
    |some e=>FF l (vs.set r (.agg (xs.set f (.cE e t)))) s k
    |none=> .fail
   |none=> .fail
  |_=> .fail
def Ke (g:rC) (e:Ex) (s:St):T Lf:=match e with
 | .exit _=> .fail
 |_=>match fb g.tt s g.res with
  |none=> .fail
  |some vs=>match g.A6 with
   |[]=>match cellsOf g.r5 vs with
    |none=> .fail
    |some cells=>mD cells s fun cells s=>match qg (Bd g s.h) g.iI.length s.h g.iI 0 with
     |true=>outs (sR g.r5) cells s fun es _=> .ret (.out ((Bd g s.h).ns++es))
     |false=> .fail
   |c::l=>FF g.fz vs s fun vs s=>FO vs.length g.iI.length g.kb ⟨bI vs 0 .nil,s.h,s.pc⟩ (c::l) 0
def tO (m kb:Nat) (s:St):List (Nat×CS)->T Lf
 |[]=> .fail
 |(j,c)::l=>match quick s.bj c.bj with
  |false=>tO m kb s l
  |true=>match c.fits C0 s (Ah kb (c.nY m s))&&sJ m (Ah kb (c.nY m s)) with
   |true=> .ret (.jump j (Ah kb (c.nY m s)).ns)
   |false=>tO m kb s l
def EA {α:Type} (k:St->T α):List (Nat×Nat)->St->T α
 |[],s=>k s
 |(t,g)::l,s=>match s.bj.get t with
  |some (.int _ e)=>dP s (.eq e (.pE g)) fun s _=>EA k l s
  |_=>EA k l s
def uQ {α:Type} (k:St->T α):List Nat->St->T α
 |[],s=>k s
 |t::ts,s=>match s.bj.get t with
  |some (.bool c)=>dP s c fun s b=>uQ k ts { s with bj:=s.bj.put t (some (.bool (.lit b))) }
  |_=>uQ k ts s
def Ci:List (Nat×Z)->List Nat->List Nat
 |[],acc=>acc
 |(t,.bool _)::l,acc=>Ci l (t::acc)
 |_::l,acc=>Ci l acc
def Cj:List (Nat×CS)->List Nat->List Nat
 |[],acc=>acc
 |(_,c)::l,acc=>Cj l (Ci c.bj acc)
mutual
def tU (g:rC) (eE:DM):Nat->List Nat->Code->List Ko->St->T Lf
 |0,_,_,_,_=> .fail
 |n+1,p,c,fr,s=>match eE p with
  |some l=>GN g s fun s=>uQ (fun s=>tO g.iI.length g.kb s l) (Cj l []) s
  |none=>match c with
   | .seq a b=>tU g eE n (0::p) a (.seq (1::p) b::fr) s
   | .block id b=>tU g eE n (0::p) b (.block id::fr) s
   | .scope b=>tU g eE n (0::p) b (.scope::fr) s
   | .cond v a b=>match As.ev s v with
     |some (.bool c)=>dP s c fun s t=>match t with
      |true=>tU g eE n (0::p) a fr s
      |false=>tU g eE n (1::p) b fr s
     |_=> .fail
   |c=>Kb g c s fun s=>(g.ev c s).bind fun (e,s')=>xx g eE n fr e s'
def xx (g:rC) (eE:DM):Nat->List Ko->Ex->St->T Lf
 |0,_,_,_=> .fail
 |n+1,fr,e,s=>match fr with
  |[]=>Ke g e s
  | .seq p c::fr=>match e with
    | .normal=>tU g eE n p c fr s
    |e=>xx g eE n fr e s
  | .block id::fr=>match e with
    | .exit j=>match Nat.beq j id with
      |true=>xx g eE n fr .normal s
      |false=>xx g eE n fr (.exit j) s
    |e=>xx g eE n fr e s
  | .loop p _::fr=>match e with
    | .normal=>match eE p with
      |some l=>GN g s fun s=>uQ (fun s=>tO g.iI.length g.kb s l) (Cj l []) s
      |none=> .fail
    |e=>xx g eE n fr e s
  | .scope::fr=>xx g eE n fr e s
end
abbrev Ey:=Nat->List Int->Option (List Int)
def jF (xs:List Int):Int:=enc (dL (xs.map .i))
def Good (X?:Ey) (ρ:Nat->Int):Prop:= ∀j xs,ρ (gk (2*j) (jF xs))=(if (X? j xs).isSome then 1 else 0)/\ρ (gk (2*j+1) (jF xs))=jF ((X? j xs).getD [])
def low (xs:List Int) (i:Nat):Int:=xs.getD i 0
open Classical in
def BW (X?:Ey) (lo:Nat->Int) (i:Nat):Int:=if i<900 then lo i else
 if h: ∃p:Nat×List Int,i=gk (2*p.1) (jF p.2) then (if (X? h.choose.1 h.choose.2).isSome then 1 else 0) else
 if h: ∃p:Nat×List Int,i=gk (2*p.1+1) (jF p.2) then jF ((X? h.choose.1 h.choose.2).getD []) else 0
theorem wG {a b:List Int} (h:jF a=jF b):a=b:=by
 unfold jF at h;have:=x4 (gA h)
 have HI: ∀{x y:List Int},x.map D.i=y.map D.i->x=y:=by
  intro x
  induction x with
  |nil=>intro y h; cases y with |nil=>rfl|cons z y=>simp at h
  |cons z x ih=>
   intro y h
   cases y with
   |nil=>simp at h
   |cons q y=>
    grind
 grind
theorem oh {f g:Nat} {a b:Int} (h:gk f a=gk g b):f=g/\a=b:=by
 unfold gk at h;obtain⟨O,U⟩:=nG (a:=f) (b:=zN a) (a':=g) (b':=zN b) J
 grind [AJ]
theorem ng (f:Nat) (a:Int):1000<=gk f a:=by unfold gk; omega
theorem At (X?:Ey) (lo:Nat->Int):Good X? (BW X? lo):=by
 intro j xs;have O:=ng (2*j) (jF xs);have U:=ng (2*j+1) (jF xs);constructor
 ·unfold BW;rw [ah J];have h: ∃p:Nat×List Int,gk (2*j) (jF xs)=gk (2*p.1) (jF p.2):=⟨(j,xs),rfl⟩;rw [dif_pos h];obtain⟨q1,q2⟩:=oh h.choose_spec;have q2:=wG q2
  grind
 ·unfold BW;rw [ah J]
  have hn: ¬∃p:Nat×List Int,gk (2*j+1) (jF xs)=gk (2*p.1) (jF p.2):=by rintro⟨p,F⟩;have:=(oh F).1;omega
  rw [dif_neg hn];have h: ∃p:Nat×List Int,gk (2*j+1) (jF xs)=gk (2*p.1+1) (jF p.2):=⟨(j,xs),rfl⟩;rw [dif_pos h];obtain⟨q1,q2⟩:=oh h.choose_spec;have q2:=wG q2
  grind
theorem Good.eC {X?:Ey} {ρ ρ':Nat->Int} (g:Good X? ρ) (h: ∀i,900<=i->ρ' i=ρ i):Good X? ρ':=by intro j xs;have O:=ng (2*j) (jF xs);have U:=ng (2*j+1) (jF xs);rw [h _ J,h _ J];exact g j xs
def A2:List CK->Bool
 |[]=>true
 |c::l=>match c with
  | .int _=>A2 l
  | .bool=>A2 l
  |_=>false
def Hu (j:Nat) (FY r5:List RK):List Z->St->T (Z×St):=fun args s=>match cellsOf FY args with
 |none=> .fail
 |some cells=>mD cells s fun cells s1=>outs (sR FY) cells s1 fun es s2=>
  dP s2 (.eq (.ap (2*j) (gN es)) (.lit 1)) fun s3 b=>match b with
   |true=> .ret (match vz r5 (rZ (.ap (2*j+1) (gN es))) 0 with |[v]=>v|vs=> .tuple vs,match A2 (sR r5) with
    |true=>{ s3 with h:=s.h }
    |false=>s3)
   |false=> .fail
end
end Go.As
end
section
namespace Go.As
open Go.RowKit
def cp (Y':Nat):Y->Bool
 | .lit _=>true
 | .pE i=>Nat.blt i Y'
 | .add a b=>cp Y' a&&cp Y' b
 | .sub a b=>cp Y' a&&cp Y' b
 | .mul a b=>cp Y' a&&cp Y' b
 | .quo a b=>cp Y' a&&cp Y' b
 | .rem a b=>cp Y' a&&cp Y' b
 | .wrap _ a=>cp Y' a
 | .k8 _ _=>false
 | .cE _=>true
 | .op _ a b=>cp Y' a&&cp Y' b
 | .ap _ _=>false
def jV (Y':Nat):SB->Bool
 | .lit _=>true
 | .lt a b=>cp Y' a&&cp Y' b
 | .le a b=>cp Y' a&&cp Y' b
 | .eq a b=>cp Y' a&&cp Y' b
 | .not s=>jV Y' s
 | .and a b=>jV Y' a&&jV Y' b
mutual
def dU (Y':Nat):Z->Bool
 | .bool b=>jV Y' b
 | .int _ e=>cp Y' e
 | .fD cs=>gr Y' cs
 | .ro cs _ _=>gr Y' cs
 | .func _ a b=>gr Y' a&&gr Y' b
 | .iface _ v=>dU Y' v
 | .agg cs=>gr Y' cs
 | .tuple cs=>gr Y' cs
 | .k8 _ _=>false
 | .cE e _=>cp Y' e
 | .dW e=>cp Y' e
 | .hK _ n _=>cp Y' n
 | .nk _ _ i _=>cp Y' i
 | .jN _ l n _=>cp Y' l&&cp Y' n
 | .lN z _=>cp Y' z
 |_=>true
def gr (Y':Nat):List Z->Bool
 |[]=>true
 |x::xs=>dU Y' x&&gr Y' xs
end
def pz (Y':Nat):List (Z×Z×Nat)->Bool
 |[]=>true
 |(k,v,_)::l=>dU Y' k&&dU Y' v&&pz Y' l
def qc (Y':Nat):List (Y×List Z)->Bool
 |[]=>true
 |(i,cs)::l=>cp Y' i&&gr Y' cs&&qc Y' l
def jn (Y':Nat):List (Y×Z)->Bool
 |[]=>true
 |(x,v)::l=>cp Y' x&&dU Y' v&&jn Y' l
def ml (Y':Nat):bS->Bool
 | .kg e _ _ ov=>cp Y' e&&jn Y' ov
 | .cells cs _=>gr Y' cs
 | .map es _=>pz Y' es
 | .dZ _ _=>true
 | .dJ _ _ _ _=>true
 | .vec e _ _ ov=>cp Y' e&&qc Y' ov
 | .ey e _=>cp Y' e
def yu (Y':Nat):List (SB×Bool)->Bool
 |[]=>true
 |(c,_)::l=>jV Y' c&&yu Y' l
def l3 (Y':Nat):List (Nat×Z)->Bool
 |[]=>true
 |(_,v)::l=>dU Y' v&&l3 Y' l
def pf (Y':Nat):List bS->Bool
 |[]=>true
 |o::l=>ml Y' o&&pf Y' l
def tc (Y':Nat) (c:CS):Bool:=l3 Y' c.bj&&pf Y' c.gR&&yu Y' c.pc
section
variable {Y':Nat} {ρ ρ':Nat->Int} (hρ: ∀i,i<Y'->ρ' i=ρ i)
include hρ
theorem bF: ∀e:Y,cp Y' e=true->e.den ρ'=e.den ρ
 | .lit _,_=>rfl
 | .pE i,h=>by simp only [cp] at h; exact hρ i (lR h)
 | .add a b,h=>by simp only [cp,an] at h; simp only [Y.den,bF a h.1,bF b h.2]
 | .sub a b,h=>by simp only [cp,an] at h; simp only [Y.den,bF a h.1,bF b h.2]
 | .mul a b,h=>by simp only [cp,an] at h; simp only [Y.den,bF a h.1,bF b h.2]
 | .quo a b,h=>by simp only [cp,an] at h; simp only [Y.den,bF a h.1,bF b h.2]
 | .rem a b,h=>by simp only [cp,an] at h; simp only [Y.den,bF a h.1,bF b h.2]
 | .wrap _ a,h=>by simp only [cp] at h; simp only [Y.den,bF a h]
 | .k8 _ _,h=>by simp [cp] at h
 | .cE _,_=>rfl
 | .op _ a b,h=>by simp only [cp,an] at h; simp only [Y.den,bF a h.1,bF b h.2]
 | .ap _ _,h=>by simp [cp] at h
theorem iF: ∀c:SB,jV Y' c=true->c.den ρ'=c.den ρ
 | .lit _,_=>rfl
 | .lt a b,h=>by simp only [jV,an] at h; simp only [SB.den,bF hρ a h.1,bF hρ b h.2]
 | .le a b,h=>by simp only [jV,an] at h; simp only [SB.den,bF hρ a h.1,bF hρ b h.2]
 | .eq a b,h=>by simp only [jV,an] at h; simp only [SB.den,bF hρ a h.1,bF hρ b h.2]
 | .not s,h=>by simp only [jV] at h; simp only [SB.den,iF s h]
 | .and a b,h=>by simp only [jV,an] at h; simp only [SB.den,iF a h.1,iF b h.2]
end
section
variable {Y':Nat} {E E':En} (hρ: ∀i,i<Y'->E'.ρ i=E.ρ i) (hθ:E'.θ=E.θ) (hκ:E'.κ=E.κ) (jK:E'.dm=E.dm) (eP:E'.ro=E.ro) {h:Array Obj}
include hρ hθ hκ jK eP
theorem cg.low {id off len:Nat} {a:Addr} {cap:Nat} {c:wN} (B:cg E id off len a cap c):cg E' id off len a cap c:=by simp_all [cg]
mutual
theorem V.low: ∀(x:Z) (u:Value),dU Y' x=true->V E h x u->V E' h x u
 | .bool b,u,I,W=>by simp only [V,dU] at *; rw [iF hρ b I]; exact W
 | .int _ e,u,I,W=>by simp only [V,dU] at *; rw [bF hρ e I]; exact W
 | .str s,u,_,W=>by simp only [V] at *; exact W
 | .ptr id off,u,_,W=>by simp only [V] at *; rw [hθ,jK]; exact W
 | .dw,u,_,W=>by simp only [V] at *; exact W
 | .fD cs,u,I,W=>by simp only [V,dU] at *;obtain⟨b,o,us,O,U,N,h4,h5⟩:=W;exact⟨b,o,us,O,by rw [eP]; exact U,bC.low cs us I N,h4,h5⟩
 | .slice id off len c,u,_,W=>by simp only [V] at *;obtain⟨O,a,cap,U,N,h4⟩:=W;exact⟨by rw [jK]; exact O,a,cap,U,N,cg.low hρ hθ hκ jK eP h4⟩
 | .bE,u,_,W=>by simp only [V] at *; exact W
 | .ro cs n full,u,I,W=>by simp only [V,dU] at *;obtain⟨b,o,cap,us,O,U,N,h4,h5,h6,h7⟩:=W;exact⟨b,o,cap,us,O,U,N,by rw [eP]; exact h4,bC.low cs us I h5,h6,h7⟩
 | .map id,u,_,W=>by simp only [V] at *; rw [hθ,jK]; exact W
 | .eS,u,_,W=>by simp only [V] at *; exact W
 | .func fn fs cs,u,I,W=>by simp only [V,dU,an] at *;obtain⟨us,ws,O,U,N⟩:=W;exact⟨us,ws,O,bC.low fs us I.1 U,bC.low cs ws I.2 N⟩
 | .jZ,u,_,W=>by simp only [V] at *; exact W
 | .iface t x,u,I,W=>by simp only [V,dU] at *;obtain⟨y,O,U⟩:=W;exact⟨y,O,V.low x y I U⟩
 | .lB,u,_,W=>by simp only [V] at *; exact W
 | .agg cs,u,I,W=>by simp only [V,dU] at *;obtain⟨us,O,U⟩:=W;exact⟨us,O,bC.low cs us I U⟩
 | .tuple cs,u,I,W=>by simp only [V,dU] at *;obtain⟨us,O,U⟩:=W;exact⟨us,O,bC.low cs us I U⟩
 | .vu _,u,_,W=>by simp only [V] at W
 | .k8 _ _,u,I,_=>by simp [dU] at I
 | .emp,u,_,W=>by simp only [V] at *; exact W
 | .cE e t,u,I,W=>by simp only [V,dU] at *; rw [bF hρ e I,eP]; exact W
 | .dW e,u,I,W=>by simp only [V,dU] at *; rw [bF hρ e I,eP]; exact W
 | .hK id n t,u,I,W=>by simp only [V,dU] at *;obtain⟨O,k,a,cap,U,N,h4,h5⟩:=W;exact⟨by rw [jK]; exact O,k,a,cap,by rw [bF hρ n I]; exact U,N,h4,cg.low hρ hθ hκ jK eP h5⟩
 | .nk id es i off,u,I,W=>by simp only [V,dU] at *;obtain⟨O,k,U,N⟩:=W;exact⟨by rw [jK]; exact O,k,by rw [bF hρ i I]; exact U,by rw [hθ]; exact N⟩
 | .any,u,_,_=>by simp only [V]
 | .lN z t,u,I,W=>by simp only [V,dU] at *; rw [bF hρ z I,eP]; exact W
 | .jN id lo n t,u,I,W=>by simp only [V,dU,an] at *;obtain⟨O,l,k,a,cap,U,N,h4,h5,h6⟩:=W;exact⟨by rw [jK]; exact O,l,k,a,cap,by rw [bF hρ lo I.1]; exact U,by rw [bF hρ n I.2]; exact N,h4,h5,cg.low hρ hθ hκ jK eP h6⟩
theorem bC.low: ∀(xs:List Z) (us:List Value),gr Y' xs=true->bC E h xs us->bC E' h xs us
 |[],us,_,W=>by simp only [bC] at *; exact W
 |x::xs,us,I,W=>by simp only [bC,gr,an] at *;obtain⟨u,vs,O,U,N⟩:=W;exact⟨u,vs,O,V.low x u I.1 U,bC.low xs vs I.2 N⟩
end
theorem bY.low: ∀{es:List (Z×Z×Nat)} {bo:List MapEntry},pz Y' es=true->bY E h es bo->bY E' h es bo
 |[],_,_,W=>by simp only [bY] at *; exact W
 |(k,v,b)::es,bo,I,W=>by simp only [bY,pz,an] at *;obtain⟨e,r,O,U,N,h4,h5⟩:=W;exact⟨e,r,O,V.low hρ hθ hκ jK eP k _ I.1.1 U,V.low hρ hθ hκ jK eP v _ I.1.2 N,h4,bY.low I.2 h5⟩
theorem sn {i:Nat}: ∀{ov:List (Y×List Z)},qc Y' ov=true->bO E'.ρ i ov=bO E.ρ i ov
 |[],_=>rfl
 |(j,cs)::l,I=>by simp only [qc,an] at I;simp only [bO];rw [bF hρ j I.1.1,sn I.2]
theorem sq: ∀{ov:List (Y×List Z)},qc Y' ov=true->∀p∈ov,gr Y' p.2=true
 |[],_,p,F=>by simp at F
 |(j,cs)::l,I,p,F=>by
  simp only [qc,an] at I;rcases aw.1 F with rfl|F
  ·grind
  ·exact sq I.2 p F
theorem jz {r:Row} {ov:List (Y×List Z)} (I:qc Y' ov=true): ∀(ds:List D) (i:Nat) {us:List Value},bC E h (bk E.ρ r ov ds i) us->bC E' h (bk E'.ρ r ov ds i) us
 |[],_,us,W=>by simp only [bk,bC] at *; exact W
 |d::ds,i,us,W=>by
  simp only [bk] at *;obtain⟨a,b,rfl,O,U⟩:=W.split;refine bC.append ?_ (jz I ds (i+1) U);rw [sn hρ hθ hκ jK eP I]
  cases ho:bO E.ρ i ov with
  |none=> rw [ho] at O;rw [cF] at O ⊢;rw [eP];exact O
  |some cs=> rw [ho] at O;obtain⟨p,p1,p2,_⟩:=eu ho;exact bC.low hρ hθ hκ jK eP cs a (by rw [<- p2]; exact sq hρ hθ hκ jK eP I p p1) O
theorem yB {n:Int}: ∀{ov:List (Y×Z)},jn Y' ov=true->fW E'.ρ n ov=fW E.ρ n ov
 |[],_=>rfl
 |(j,v)::l,I=>by simp only [jn,an] at I;simp only [fW];rw [bF hρ j I.1.1,yB I.2]
omit hρ hθ hκ jK eP in
theorem qE {n:Int} {ρ:Nat->Int} {v:Z}: ∀{ov:List (Y×Z)},jn Y' ov=true->fW ρ n ov=some v->dU Y' v=true
 |[],_,h=>by simp [fW] at h
 |(j,u)::l,I,h=>by
  simp only [jn,an] at I;simp only [fW] at h;split at h
  ·simp only [af] at h; subst h; exact I.1.2
  ·exact qE I.2 h
theorem oK: ∀{ov:List (Y×Z)},jn Y' ov=true->(ov.map fun p=>p.1.den E'.ρ)=ov.map fun p=>p.1.den E.ρ
 |[],_=>rfl
 |(j,v)::l,I=>by simp only [jn,an] at I;simp only [au];rw [bF hρ j I.1.1,oK I.2]
theorem jH.low (BF:E'.hd=E.hd) {Y_:Nat} {key:D} {j ty:Nat} {c:FC} {d:D} {u:Value} (ho:jH E h Y_ key j ty c d u):jH E' h Y_ key j ty c d u:=by
 cases c with
 |ck c=>simp only [jH] at *; rw [eP]; exact ho
 |mp t=>simp only [jH] at *; rw [eP,BF]; exact ho
 |own t=>
  rcases ho with ho|⟨b,o,n,cap,a,arr,lo,hi,O,U,N,h4,h5,h6,h7⟩
  ·exact .inl (by rw [eP]; exact ho)
  ·refine .inr ⟨b,o,n,cap,a,arr,lo,hi,O,U,by rw [BF]; exact N,h4,h5,h6,?_⟩;rcases h7 with h7|⟨g1,g2,us,g3,g4⟩
   ·exact .inl h7
   ·exact .inr ⟨g1,g2,us,jz hρ hθ hκ jK eP (ov:=[]) rfl _ _ g3,g4⟩
theorem kD.low (BF:E'.hd=E.hd) {Y_ t:Nat} {cK:List Nat} {key d:D} {v:Value} (ho:kD E h Y_ t cK key d v):kD E' h Y_ t cK key d v:=by
 unfold kD at *;split at ho
 ·obtain⟨c,O,U⟩:=ho;exact⟨c,O,jH.low hρ hθ hκ jK eP BF U⟩
 ·obtain⟨b,o,arr,lo,hi,O,U,N,h4,h5,h6⟩:=ho;refine⟨b,o,arr,lo,hi,O,by rw [BF]; exact U,N,h4,h5,fun j c B=>?_⟩;obtain⟨u,g1,g2,g3⟩:=h6 j c B;exact⟨u,g1,g2,jH.low hρ hθ hκ jK eP BF g3⟩
theorem cw.low (BF:E'.hd=E.hd) {Y_ t:Nat} {cK:List Nat} {ov:List (Y×Z)} (I:jn Y' ov=true): ∀{ds:List D} {es:List MapEntry},cw E h Y_ t cK ov ds es->cw E' h Y_ t cK ov ds es
 |[],_,ho=>ho
 |d::ds,_,⟨e,r,n,O,U,N,h4,h5⟩=>by
  refine⟨e,r,n,O,U,N,?_,cw.low BF I h5⟩;rw [yB hρ hθ hκ jK eP I];split at h4
  ·rename_i v W;exact V.low hρ hθ hκ jK eP v _ (qE I W) h4
  ·exact kD.low hρ hθ hκ jK eP BF h4
theorem OR.low {id:Nat} {o:bS} (I:ml Y' o=true) (ho:OR E h id o) (BF:E'.hd=E.hd:=by rfl):OR E' h id o:=by
 cases o with
 |kg e t cK ov=> simp only [OR,ml,an] at *;obtain⟨n0,bo,c,O,U⟩:=ho;rw [hθ,bF hρ e I.1];exact⟨n0.congr (oK hρ hθ hκ jK eP I.2),bo,c,O,cw.low hρ hθ hκ jK eP BF I.2 U⟩
 |cells cs e=> simp only [OR,ml] at *;obtain⟨arr,lo,hi,us,O,U,N,h4,h5,h6,h7⟩:=ho;rw [hθ,hκ];exact⟨arr,lo,hi,us,O,bC.low hρ hθ hκ jK eP cs us I U,N,h4,h5,h6,h7⟩
 |map es c=>
  grind [OR,ml,bY.low]
 |dZ s p=>simp only [OR] at *; rw [hθ]; exact ho
 |dJ m s l z=>cases m<;>(simp only [OR] at *; grind)
 |ey e t=>
  grind [OR,ml,bF]
 |vec e t ty ov=>
  grind [OR,ml,bF,jz,bB]
end
theorem vn {Y':Nat} {ρ ρ':Nat->Int} (hρ: ∀i,i<Y'->ρ' i=ρ i): ∀{pc:List (SB×Bool)},yu Y' pc=true->bu ρ pc->bu ρ' pc
 |[],_,_=>by intro c b h; simp at h
 |(c0,b0)::l,I,F=>by
  simp only [yu,an] at I;intro c b hm;rcases aw.1 hm with hm|hm
  ·simp only [ag] at hm;obtain⟨rfl,rfl⟩:=hm;rw [iF hρ c I.1];exact F c b ad
  ·exact vn hρ I.2 (fun c b h=>F c b (by simp [h])) c b hm
theorem lZ {Y':Nat}: ∀{l:List (Nat×Z)},l3 Y' l=true->∀{t:Nat} {v:Z},(t,v)∈l->dU Y' v=true
 |[],_,_,_,h=>by simp at h
 |(t0,v0)::l,hs,t,v,h=>by
  simp only [l3,an] at hs;rcases aw.1 h with h|h
  ·grind
  ·exact lZ hs.2 h
theorem oF {Y':Nat}: ∀{l:List bS},pf Y' l=true->∀{i:Nat} {o:bS},l[i]?=some o->ml Y' o=true
 |[],_,_,_,h=>by simp at h
 |o0::l,hs,i,o,h=>by
  simp only [pf,an] at hs
  cases i with
  |zero=>simp at h; rw [<- h]; exact hs.1
  |succ i=>exact oF hs.2 (by simpa using h)
structure yh (E:En) (s:St) (a:Act) (w:World):Prop where
 fresh: ∀id,s.h.next<=id->¬E.dm id
 res: ∀r,s.h.res=some r->r<s.h.next/\¬E.dm r
 live: ∀id o,s.h.get id=some o->E.dm id/\OR E w.heap id o/\¬E.ro (E.θ id).1
 inj: ∀id xl o o',s.h.get id=some o->s.h.get xl=some o'->(E.θ id).1=(E.θ xl).1->id=xl
 oy: ∀b,E.ro b->b<w.heap.size
 sr:SR E w.heap s.bj a
 pc:bu E.ρ s.pc
 hid: ∀b x,E.hd b=some x->b<w.heap.size/\¬E.ro b/\∀id o,s.h.get id=some o->(E.θ id).1≠b
theorem Fit.x [bp] {E:En} {s:St} {a:Act} {w:World} (f:Fit E s a w):yh E s a w:=⟨f.rel.fresh,f.rel.res,f.rel.live,f.rel.inj,f.rel.oy,f.sr,f.pc,f.rel.hid⟩
theorem yh.fit [bp] {E:En} {s:St} {a:Act} {w:World} (f:yh E s a w) (hg:bp.ok E.ρ E.ro w.heap):Fit E s a w:=⟨⟨f.fresh,f.res,f.live,f.inj,f.oy,hg,f.hid⟩,f.sr,f.pc⟩
theorem yh.low {Y':Nat} {E:En} {c:CS} {a:Act} {w:World} {ρ':Nat->Int} (B:tc Y' c=true) (hρ: ∀i,i<Y'->ρ' i=E.ρ i) (f:yh E c.st a w):yh { E with ρ:=ρ' } c.st a w:=by
 unfold tc at B;simp only [an] at B;obtain⟨⟨O,U⟩,N⟩:=B;refine⟨f.fresh,f.res,fun id o ho=>?_,f.inj,f.oy,fun t v ht=>?_,vn hρ N f.pc,f.hid⟩
 ·obtain⟨q1,q2,q3⟩:=f.live id o ho;refine⟨q1,OR.low (E:=E) (E':={ E with ρ:=ρ' }) hρ rfl rfl rfl rfl ?_ q2,q3⟩;have:(nD c.gR 0 .nil).get id=some o:=ho
  grind [lz,oF,Tr.get]
 ·obtain⟨u,q1,q2⟩:=f.sr t v ht;refine⟨u,q1,V.low (E:=E) (E':={ E with ρ:=ρ' }) hρ rfl rfl rfl rfl v u ?_ q2⟩;have:(kG c.bj .nil).get t=some v:=ht;rcases jS this with h|h
  all_goals grind [lZ,Tr.get]
end Go.As
end
section
namespace Go.As
open Go.RowKit
def zD (ro:Nat->Prop) (h:Array Obj) (c:CK) (n:Int) (u:Value):Prop:=match c with
 | .int k=>u= .int k n
 | .bool=>u= .bool (!(n == 0))
 |c=>Rd ro h c (dec n) u
def rD (ro:Nat->Prop) (h:Array Obj):List CK->List Int->List Value->Prop
 |[],ns,us=>ns= []/\us= []
 |c::cs,ns,us=> ∃n IZ u dh,ns=n::IZ/\us=u::dh/\zD ro h c n u/\rD ro h cs IZ dh
theorem rD.length {ro:Nat->Prop} {h:Array Obj}: ∀{cs:List CK} {ns:List Int} {us:List Value},rD ro h cs ns us->ns.length=cs.length/\us.length=cs.length
 |[],ns,us,hh=>by simp only [rD] at hh; simp [hh.1,hh.2]
 |c::cs,ns,us,hh=>by
  obtain⟨n,IZ,u,dh,rfl,rfl,_,U⟩:=hh;have:=U.length
  grind
theorem zD.bw {ro jW:Nat->Prop} {h h':Array Obj} (k1: ∀b,ro b->jW b) (k2: ∀b,ro b->h'[b]?=h[b]?) {c:CK} {n:Int} {u:Value} (r:zD ro h c n u):zD jW h' c n u:=by
 cases c with
 |int k=>exact r
 |bool=>exact r
 |str=>exact Rd.bw k1 k2 r
 |sl t=>exact Rd.bw k1 k2 r
inductive Shape:List RK->List Value->List Value->Prop where
 |nil:Shape [] [] []
 |one (c:CK) {rs:List RK} {us fl:List Value} (u:Value):Shape rs us fl->Shape (.one c::rs) (u::us) (u::fl)
 |agg (cs:List CK) {rs:List RK} {us fl:List Value} (xs:List Value) (h:xs.length=cs.length):Shape rs us fl->Shape (.agg cs::rs) (.agg xs.toArray::us) (xs++fl)
section
variable {P:Program} {E:En} {w:World}
def Io (r5:List RK) (ys:List Int) (ro:Nat->Prop) (h:Array Obj) (u:Value):Prop:= ∃us fl,Shape r5 us fl/\rD ro h (sR r5) ys fl/\u=if hh:us.toArray.size=1 then us.toArray[0] else .tuple us.toArray
end
structure ln where
 w0:World
 ro:Nat->Prop
 m:Nat
 θ:Nat->Nat×Nat
 κ:Nat->Nat
def ln.fp (Y_:ln) (b:Nat):Prop:= ∃i,i<Y_.m/\(Y_.θ i).1=b
structure IJ (Y_:ln) (w:World):Prop where
 os:w.os=Y_.w0.os
 tape:w.tape=Y_.w0.tape
 output:w.output=Y_.w0.output
 size:Y_.w0.heap.size<=w.heap.size
 ru: ∀k,k<Y_.w0.heap.size->¬Y_.fp k->w.heap[k]?=Y_.w0.heap[k]?
structure iT (Y_:ln) (E:En) (s:St) (a:Act) (w:World):Prop where
 fit:yh E s a w
 ro: ∀b,Y_.ro b->E.ro b
 lU: ∀b,E.ro b->Y_.ro b\/Y_.w0.heap.size<=b\/Y_.fp b
 AH:IJ Y_ w
 own: ∀id o,s.h.get id=some o->Y_.w0.heap.size<=(E.θ id).1\/Y_.fp (E.θ id).1
 Iv: ∀i,i<Y_.m->E.dm i/\E.θ i=Y_.θ i/\E.κ i=Y_.κ i
 BE: ∀b x,E.hd b=some x->Y_.w0.heap.size<=b
section
variable {P:Program} {Y_:ln}
theorem iT.step [bp] {E E':En} {s s':St} {a a':Act} {w w':World} (t:iT Y_ E s a w) (st:ca E s.h w E' s'.h w') (f':Fit E' s' a' w'):iT Y_ E' s' a' w':=by
 have Dh: ∀id o,s'.h.get id=some o->Y_.w0.heap.size<=(E'.θ id).1\/Y_.fp (E'.θ id).1:=by
  intro id o ho;rcases aG (E'.θ id).1 w.heap.size with h|h
  ·obtain⟨jg,o0,h0,he⟩:=st.own id o ho h;rw [<- he];exact t.own jg o0 h0
  ·exact .inl (aD t.AH.size h)
 refine⟨f'.x,fun b K=>st.ro b (t.ro b K),fun b K=>?_,⟨st.os.trans t.AH.os,st.tape.trans t.AH.tape,st.output.trans t.AH.output,aD t.AH.size st.size,fun k R hn=>?_⟩,Dh,fun i hi=>?_,fun b x K=>t.BE b x (by rw [<- st.hd]; exact K)⟩
 ·rcases st.lU b K with h|⟨id,o,O,U⟩|h
  ·exact t.lU b h
  ·rw [<- U]; exact .inr (t.own id o O)
  ·exact .inr (.inl (aD t.AH.size h))
 ·rw [<- t.AH.ru k R hn];refine st.bw k (aac R t.AH.size) fun id o ho he=>?_;rcases t.own id o ho with h|h
  all_goals grind
 ·obtain⟨O,U,N⟩:=t.Iv i hi;exact⟨st.dm i O,by rw [st.θ i O]; exact U,by rw [st.κ i O]; exact N⟩
theorem iT.then [bp] {E:En} {s s':St} {a a':Act} {w w':World} (t:iT Y_ E s a w) (h:fB E s a w s' a' w'): ∃E',iT Y_ E' s' a' w'/\E'.ρ=E.ρ/\bp.ok E'.ρ E'.ro w'.heap:=by obtain⟨_,_,E',st,f'⟩:=h;exact⟨E',t.step st f',st.ρ,f'.rel.jM⟩
theorem iT.pc {E:En} {s:St} {a:Act} {w:World} {pc:List (SB×Bool)} (t:iT Y_ E s a w) (F:bu E.ρ pc):iT Y_ E { s with pc:=pc } a w:=
 ⟨⟨t.fit.fresh,t.fit.res,t.fit.live,t.fit.inj,t.fit.oy,t.fit.sr,F,t.fit.hid⟩,t.ro,t.lU,t.AH,t.own,t.Iv,t.BE⟩
theorem vH {r:Ren}: ∀{m:Nat},sJ m r=true->∀i,i<m->i<r.bl.length/\r.id i=i/\r.o3 i=0
 |0,_,i,hi=>by omega
 |n+1,h,i,hi=>by
  simp only [sJ,an] at h;obtain⟨⟨O,U⟩,N⟩:=h;by_cases he:i=n
  ·subst he;split at O
   ·rename_i j hj;have O:=aq O;subst O;refine⟨?_,?_,aq U⟩
    all_goals grind [cI,Ren.id]
   grind
  ·exact vH N i J
theorem iT.fits [bp] {E:En} {c:CS} {s:St} {r:Ren} {a:Act} {w:World} (t:iT Y_ E s a w) (hg:bp.ok E.ρ E.ro w.heap) (h:c.fits C0 s r=true) (hid:sJ Y_.m r=true):r.ns.length<=900/\iT Y_ (E.eC r) c.st a w:=by
 obtain⟨I,f,ho⟩:=vZ EH (t.fit.fit hg) h;refine⟨I,f.x,t.ro,t.lU,t.AH,fun id o hid=>?_,fun i hi=>?_,t.BE⟩
 ·obtain⟨o',h'⟩:=ho id o hid;exact t.own _ _ h'
 ·obtain⟨q1,q2,q3⟩:=vH hid i hi;obtain⟨O,U,N⟩:=t.Iv i hi;refine⟨⟨q1,by rw [q2]; exact O⟩,?_,?_⟩
  ·show ((E.θ (r.id i)).1,(E.θ (r.id i)).2+r.o3 i)=_
   grind
  ·show E.κ (r.id i)-r.o3 i=_
   grind
theorem iT.low {Y':Nat} {E:En} {c:CS} {a:Act} {w:World} {ρ':Nat->Int} (B:tc Y' c=true) (hρ: ∀i,i<Y'->ρ' i=E.ρ i) (t:iT Y_ E c.st a w):iT Y_ { E with ρ:=ρ' } c.st a w:=
 ⟨t.fit.low B hρ,t.ro,t.lU,t.AH,t.own,t.Iv,t.BE⟩
def ln.out (Y_:ln) (ys:List Int) (ro:Nat->Prop):En:={ ρ:=low ys,θ:=Y_.θ,κ:=Y_.κ,dm:=fun i=>i<Y_.m,ro:=ro }
def QE (Y_:ln) (r5:List RK) (iI:List bS) (ko:Nat) (ys:List Int) (e:Ending) (w':World):Prop:=
 ∃u,e= .returned u/\IJ Y_ w'/\∃jW:Nat->Prop,(∀b,Y_.ro b->jW b)/\(∀b,jW b->Y_.ro b\/Y_.w0.heap.size<=b)/\(∀b,jW b->b<w'.heap.size)/\(∀i,i<Y_.m->¬jW (Y_.θ i).1)/\
  (∀i o,iI[i]?=some o->OR (Y_.out ys jW) w'.heap i o)/\Io r5 (ys.drop ko) jW w'.heap u
structure Kp [bp] (P:Program) (g:rC) (lj:Nat->List Oper->Bool):Prop where
 tt:bV P g.tt
 call:dD P g.call
 draw:lT P lj g.draw
def I1:List bS->Bool
 |[]=>true
 |o::l=>nf o&&I1 l
def vv (Y':Nat):List bS->Bool
 |[]=>true
 |o::l=>nf o&&(ml Y' o&&vv Y' l)
theorem iT.view [bp] {E E':En} {s:St} {a:Act} {w:World} {h':Hp} {cl:List (SB×Bool)} (hm:Y_.m=0) (t:iT Y_ E s a w) (v:View E s.h w E' h') (F:bu E.ρ cl):iT Y_ E' { s with h:=h',pc:=cl } a w:=by
 have hold: ∀b,DO E s.h b->Y_.w0.heap.size<=b:=by
  rintro b (⟨id,o,O,U⟩|⟨x,O⟩)
  ·rcases t.own id o O with h|⟨i,hi,_⟩
   ·rw [U] at h; exact h
   ·omega
  ·exact t.BE b x O
 refine⟨⟨v.rel.fresh,v.rel.res,v.rel.live,v.rel.inj,v.rel.oy,fun i x hi=>?_,by rw [v.kp.ρ]; exact F,v.rel.hid⟩,fun b K=>v.kp.ro b (t.ro b K),fun b K=>?_,t.AH,fun id o ho=> .inl (hold _ (v.hold _ (.inl ⟨id,o,ho,rfl⟩))),fun i hi=>by omega,fun b x K=>hold _ (v.hold _ (.inr ⟨x,K⟩))⟩
 ·obtain⟨u,O,U⟩:=t.fit.sr i x hi;exact⟨u,O,V.bw v.kp _ _ U⟩
 ·rcases v.lU b K with h|h
  ·exact t.lU b h
  ·exact .inr (.inl (hold b h))
def zA [bp] {α:Type} (Y_:ln) (a:Act) (w:World) (f:St->(St->T α)->T α):Prop:= ∀(k:St->T α) (E:En) (s:St) (x:α),iT Y_ E s a w->bp.ok E.ρ E.ro w.heap->(f s k).leaf E.ρ=some x->∃E' s',E'.ρ=E.ρ/\iT Y_ E' s' a w/\bp.ok E'.ρ E'.ro w.heap/\(k s').leaf E.ρ=some x
theorem zA.then [bp] {α:Type} {a:Act} {w:World} {f f':St->(St->T α)->T α} (O:zA Y_ a w f) (U:zA Y_ a w f'):zA Y_ a w (fun s k=>f s fun s=>f' s k):=by intro k E s x t hg h;obtain⟨E1,s1,e1,t1,g1,q1⟩:=O _ E s x t hg h;rw [<- e1] at q1;obtain⟨E2,s2,e2,t2,g2,q2⟩:=U _ E1 s1 x t1 g1 q1;exact⟨E2,s2,e2.trans e1,t2,g2,by rw [<- e1]; exact q2⟩
end
end Go.As
end
section
namespace Go.As
open Go.RowKit
def Ren.bo (r:Ren):List (Z×Z×Nat)->List (Z×Z×Nat)
 |[]=>[]
 |(k,v,n)::l=>(r.av k,r.av v,n)::r.bo l
theorem Ren.oS (r:Ren): ∀es:List (Z×Z×Nat),(r.bo es).map (·.2.2)=es.map (·.2.2)
 |[]=>rfl
 |(k,v,n)::l=>by simp only [Ren.bo,au,Ren.oS r l]
def Ren.EJ (r:Ren):List (Y×List Z)->List (Y×List Z)
 |[]=>[]
 |(i,cs)::l=>(r.se i,r.pD cs)::r.EJ l
def Ren.ob (r:Ren):bS->bS
 | .cells cs e=> .cells (r.pD cs) e
 | .map es n=> .map (r.bo es) n
 | .dZ s p=> .dZ s p
 | .dJ m s l z=> .dJ (m.map r.id) s l z
 | .vec e t ty ov=> .vec (r.se e) t ty (r.EJ ov)
 | .ey e t=> .ey (r.se e) t
 | .kg e t cK ov=> .kg e t cK ov
noncomputable def xb (r:Ren):List bS->Nat->Hp->Hp
 |[],_,h=>h
 |o::os,i,h=>xb r os (i+1) (h.put (r.id i) (r.ob o))
def yD (r:Ren):Bool:=r.sh.all fun i=>Nat.beq i 0
def Gm (r:Y) (n:Nat):List Y:=(List.range n).map (rZ r)
noncomputable def Ht (j:Nat) (c:CS) (r5:List RK) (iI:List bS) (ko:Nat):List Z->St->T (Z×St):=fun args s=>
 match Nat.beq args.length c.bj.length&&c.fits C0 ⟨bI args 0 .nil,s.h,s.pc⟩ (c.fZ ⟨bI args 0 .nil,s.h,s.pc⟩)&&yD (c.fZ ⟨bI args 0 .nil,s.h,s.pc⟩) with
 |true=>dP s (.eq (.ap (2*j) (gN (c.fZ ⟨bI args 0 .nil,s.h,s.pc⟩).ns)) (.lit 1)) fun s' b=>match b with
  |true=> .ret (match vz r5 (rZ (.ap (2*j+1) (gN (c.fZ ⟨bI args 0 .nil,s.h,s.pc⟩).ns))) ko with |[v]=>v|vs=> .tuple vs,
   { s' with h:=xb ⟨Gm (.ap (2*j+1) (gN (c.fZ ⟨bI args 0 .nil,s.h,s.pc⟩).ns)) ko,(c.fZ ⟨bI args 0 .nil,s.h,s.pc⟩).bl,[]⟩ iI 0 s'.h })
  |false=> .fail
 |false=> .fail
noncomputable def H5 (s:St) (t c:Nat):Y:=match s.bj.get t with
 |some v=>match v with
  | .int _ e=>e
  | .agg cs=>match cq cs c with
    |some v=>match v with
     | .int _ e=>e
     |_=> .lit 0
    |none=> .lit 0
  |_=> .lit 0
 |none=> .lit 0
noncomputable def H6 (s:St):List (Nat×Nat)->List Y->List Y
 |[],ns=>ns
 |_::_,[]=>[]
 |(t,c)::l,_::ns=>H5 s t c::H6 s l ns
noncomputable def Ej (s:St) (gh:List (Nat×Nat)) (r:Ren):Ren:={ r with ns:=H6 s gh r.ns }
noncomputable def H4 (s:St) (gh:List (Nat×Nat)):Option Y:=match gh with
 |(t,c)::_=>some (H5 s t c)
 |[]=>none
noncomputable def yc (q:Y) (kb:Nat) (ns:List Y) (c:CS) (bl:List Nat) (s:St):Ren:=⟨(List.range c.k).map fun a=>match Nat.blt a kb with |true=>(match cq ns a with |some e=>e|none=> .lit 0)|false=>rZ q (a+1),(List.range c.gR.length).map fun i=>match cq bl i with |some j=>j|none=>s.h.next+(i-bl.length),[]⟩
noncomputable def H3 (g n:Y) (s:St) (k:St->T (Z×St)):T (Z×St):=dP s (da g (.lit 0)) fun s b=>match b with
 |true=>k s
 |false=>dP s (da g n) fun s b=>match b with
  |true=> .fail
  |false=>k s
noncomputable def Mo (q:Y) (kb:Nat) (ns:List Y) (g:Option Y) (c:CS) (bl:List Nat) (s:St) (k:St->T (Z×St)):T (Z×St):=match g with
 |none=>k s
 |some g=>match c.m with
  | .pE _=>k s
  |_=>match c.bj with
   |[]=>k s
   |(_,v)::_=>match v with
    | .hK _ n _=>H3 g ((yc q kb ns c bl s).se n) s k
    |_=>k s
noncomputable def Ig (q:Y) (kb:Nat) (ns:List Y) (g:Option Y) (bl:List Nat):List CS->Nat->St->T (Z×St)
 |[],_,_=> .fail
 |c::l,i,s=>dP s (im (rZ q 0) (.lit (Int.ofNat i))) fun s b=>match b with
  |true=>Mo q kb ns g c bl s fun s=> .ret (rL ((yc q kb ns c bl s).pD (c.bj.map fun p=>p.2)),
   { s with h:=⟨(xb (yc q kb ns c bl s) c.gR 0 s.h).m,s.h.next+(c.gR.length-bl.length),s.h.res⟩ })
  |false=>Ig q kb ns g bl l (i+1) s
noncomputable def D7 (j kb:Nat) (c:CS) (gh:List (Nat×Nat)) (A6:List CS):List Z->St->T (Z×St):=fun args s=>
 match Nat.beq args.length c.bj.length&&c.fits C0 ⟨bI args 0 .nil,s.h,s.pc⟩ (Ej s gh (c.fZ ⟨bI args 0 .nil,s.h,s.pc⟩))&&yD (Ej s gh (c.fZ ⟨bI args 0 .nil,s.h,s.pc⟩)) with
 |true=>dP s (.eq (.ap (2*j) (gN (Ej s gh (c.fZ ⟨bI args 0 .nil,s.h,s.pc⟩)).ns)) (.lit 1)) fun s' b=>match b with
  |true=>Ig (.ap (2*j+1) (gN (Ej s gh (c.fZ ⟨bI args 0 .nil,s.h,s.pc⟩)).ns)) kb (Ej s gh (c.fZ ⟨bI args 0 .nil,s.h,s.pc⟩)).ns (H4 s gh) (Ej s gh (c.fZ ⟨bI args 0 .nil,s.h,s.pc⟩)).bl A6 0 s'
  |false=> .fail
 |false=> .fail
section
variable {Eo E2:En} {r:Ren} {h:Array Obj} (I:r.ns.length<=900) (lG:r.sh= []) (hρ:Eo.ρ=r.env E2.ρ) (hid: ∀i,Eo.dm i->E2.dm (r.id i)/\E2.θ (r.id i)=Eo.θ i/\E2.κ (r.id i)=Eo.κ i) (eP:Eo.ro=E2.ro)
include I lG hρ hid eP
theorem AX (i:Nat):r.o3 i=0:=by unfold Ren.o3; rw [lG]; rfl
theorem cg.back {id off len:Nat} {a:Addr} {cap:Nat} {c:wN} (hd:Eo.dm id) (B:cg Eo id off len a cap c):cg E2 (r.id id) off len a cap c:=by simp_all [cg]
mutual
theorem V.back: ∀(x:Z) (u:Value),V Eo h x u->V E2 h (r.av x) u
 | .bool b,u,W=>by simp only [V,Ren.av] at *; rw [Ren.nt I,<- hρ]; exact W
 | .int _ e,u,W=>by simp only [V,Ren.av] at *; rw [Ren.bQ I,<- hρ]; exact W
 | .str s,u,W=>by simp only [V,Ren.av] at *; exact W
 | .ptr id off,u,W=>by
   simp only [V,Ren.av,AX I lG hρ hid eP,ax] at *
   grind
 | .dw,u,W=>by simp only [V,Ren.av] at *; exact W
 | .fD cs,u,W=>by simp only [V,Ren.av] at *;obtain⟨b,o,us,O,U,N,h4,h5⟩:=W;exact⟨b,o,us,O,by rw [<- eP]; exact U,bC.back cs us N,h4,h5⟩
 | .slice id off len c,u,W=>by simp only [V,Ren.av,AX I lG hρ hid eP,ax] at *;obtain⟨O,a,cap,U,N,h4⟩:=W;exact⟨(hid id O).1,a,cap,U,N,cg.back I lG hρ hid eP O h4⟩
 | .bE,u,W=>by simp only [V,Ren.av] at *; exact W
 | .ro cs n full,u,W=>by simp only [V,Ren.av] at *;obtain⟨b,o,cap,us,O,U,N,h4,h5,h6,h7⟩:=W;exact⟨b,o,cap,us,O,U,N,by rw [<- eP]; exact h4,bC.back cs us h5,h6,h7⟩
 | .map id,u,W=>by
   simp only [V,Ren.av] at *
   grind
 | .eS,u,W=>by simp only [V,Ren.av] at *; exact W
 | .func fn fs cs,u,W=>by simp only [V,Ren.av] at *;obtain⟨us,ws,O,U,N⟩:=W;exact⟨us,ws,O,bC.back fs us U,bC.back cs ws N⟩
 | .jZ,u,W=>by simp only [V,Ren.av] at *; exact W
 | .iface t x,u,W=>by simp only [V,Ren.av] at *;obtain⟨y,O,U⟩:=W;exact⟨y,O,V.back x y U⟩
 | .lB,u,W=>by simp only [V,Ren.av] at *; exact W
 | .agg cs,u,W=>by simp only [V,Ren.av] at *;obtain⟨us,O,U⟩:=W;exact⟨us,O,bC.back cs us U⟩
 | .tuple cs,u,W=>by simp only [V,Ren.av] at *;obtain⟨us,O,U⟩:=W;exact⟨us,O,bC.back cs us U⟩
 | .vu _,u,W=>by simp only [V] at W
 | .k8 k ks,u,W=>by
   simp only [V,Ren.av] at *;rw [hρ,Ren.fw I J,eP] at W;rcases W with W|⟨b,o,n,cap,O,U,N,h4,h5⟩
   ·grind
   ·refine .inr ⟨b,o,n,cap,O,U,N,h4,fun i j kd hi hj=>?_⟩;have:=h5 i j kd hi hj
    first
     |exact this
     |(rw [Ren.fw I J] at this; exact this)
     |(rw [hρ,Ren.fw I J] at this; exact this)
 | .emp,u,W=>by simp only [V,Ren.av] at *; exact W
 | .cE e t,u,W=>by simp only [V,Ren.av] at *; rw [Ren.bQ I,<- hρ,<- eP]; exact W
 | .dW e,u,W=>by simp only [V,Ren.av] at *; rw [Ren.bQ I,<- hρ,<- eP]; exact W
 | .hK id n t,u,W=>by simp only [Ren.av,AX I lG hρ hid eP];simp only [V] at *;obtain⟨O,k,a,cap,U,N,h4,h5⟩:=W;exact⟨(hid id O).1,k,a,cap,by rw [Ren.bQ I,<- hρ]; exact U,N,h4,cg.back I lG hρ hid eP O h5⟩
 | .nk id es i off,u,W=>by simp only [Ren.av,AX I lG hρ hid eP];simp only [V] at *;obtain⟨O,k,U,N⟩:=W;obtain⟨g1,g2,_⟩:=hid id O;exact⟨g1,k,by rw [Ren.bQ I,<- hρ]; exact U,by rw [g2]; exact N⟩
 | .any,u,_=>by simp only [V,Ren.av]
 | .lN z t,u,W=>by simp only [V,Ren.av] at *; rw [Ren.bQ I,<- hρ,<- eP]; exact W
 | .jN id lo n t,u,W=>by simp only [Ren.av,AX I lG hρ hid eP];simp only [V] at *;obtain⟨O,l,k,a,cap,U,N,h4,h5,h6⟩:=W;exact⟨(hid id O).1,l,k,a,cap,by rw [Ren.bQ I,<- hρ]; exact U,by rw [Ren.bQ I,<- hρ]; exact N,h4,h5,cg.back I lG hρ hid eP O h6⟩
theorem bC.back: ∀(xs:List Z) (us:List Value),bC Eo h xs us->bC E2 h (r.pD xs) us
 |[],us,W=>by simp only [bC,Ren.pD] at *; exact W
 |x::xs,us,W=>by simp only [bC,Ren.pD] at *;obtain⟨u,vs,O,U,N⟩:=W;exact⟨u,vs,O,V.back x u U,bC.back xs vs N⟩
end
theorem bY.back: ∀{es:List (Z×Z×Nat)} {bo:List MapEntry},bY Eo h es bo->bY E2 h (r.bo es) bo
 |[],_,W=>by simp only [bY,Ren.bo] at *; exact W
 |(k,v,b)::es,bo,W=>by simp only [bY,Ren.bo] at *;obtain⟨e,rr,O,U,N,h4,h5⟩:=W;exact⟨e,rr,O,V.back I lG hρ hid eP k _ U,V.back I lG hρ hid eP v _ N,h4,bY.back h5⟩
theorem qb {i:Nat}: ∀{ov:List (Y×List Z)},bO E2.ρ i (r.EJ ov)=(bO Eo.ρ i ov).map r.pD
 |[]=>rfl
 |(j,cs)::l=>by
  simp only [bO,Ren.EJ];rw [Ren.bQ I,<- hρ,qb]
  grind
theorem lh {row:Row} {ov:List (Y×List Z)}: ∀(ds:List D) (i:Nat) {us:List Value},bC Eo h (bk Eo.ρ row ov ds i) us->bC E2 h (bk E2.ρ row (r.EJ ov) ds i) us
 |[],_,us,W=>by simp only [bk,bC] at *; exact W
 |d::ds,i,us,W=>by
  simp only [bk] at *;obtain⟨a,b,rfl,O,U⟩:=W.split;refine bC.append ?_ (lh ds (i+1) U);rw [qb I lG hρ hid eP]
  cases ho:bO Eo.ρ i ov with
  |none=> rw [ho] at O;simp only [Option.map_none];rw [cF] at O ⊢;rw [<- eP];exact O
  |some cs=> rw [ho] at O;exact bC.back I lG hρ hid eP cs a O
theorem so {row:Row}: ∀{ov:List (Y×List Z)},jY row ov->jY row (r.EJ ov)
 |[],h=>h
 |(i,cs)::l,h=>by
  intro p F;simp only [Ren.EJ] at F;rcases aw.1 F with rfl|F
  ·simp only [hG]; exact h (i,cs) ad
  ·exact so (fun q hq=>h q (by simp [hq])) p F
theorem OR.back {id:Nat} {o:bS} (hn:nf o=true) (hd:Eo.dm id) (ho:OR Eo h id o):OR E2 h (r.id id) (r.ob o):=by
 obtain⟨_,U,N⟩:=hid id hd
 cases o with
 |kg e t cK ov=>simp [nf] at hn
 |cells cs e=> simp only [OR,Ren.ob] at *;obtain⟨arr,lo,hi,us,q1,q2,q3,q4,q5,q6,q7⟩:=ho;rw [U,N];exact⟨arr,lo,hi,us,q1,bC.back I lG hρ hid eP cs us q2,q3,by rw [hG]; exact q4,q5,q6,q7⟩
 |map es c=>
  simp only [OR,Ren.ob] at *;obtain⟨bo,c',q1,q2,q3⟩:=ho;rw [U];refine⟨bo,c',q1,bY.back I lG hρ hid eP q2,?_⟩
  cases c with
  |zero=>trivial
  |succ c=>exact⟨q3.1,by rw [q3.2,Ren.oS]⟩
 |dZ s p=>simp only [OR,Ren.ob] at *; rw [U]; exact ho
 |dJ m s l z=>
  cases m with
  |none=>simp only [OR,Ren.ob,Option.map] at *; rw [U]; exact ho
  |some i=> simp only [OR,Ren.ob,Option.map] at *;obtain⟨q1,q2,q3⟩:=hid i ho.2.2;rw [U,q2];exact⟨ho.1,ho.2.1,q1⟩
 |ey e t=>
  grind [OR,Ren.ob,Ren.bQ]
 |vec e t ty ov=>
  simp only [OR,Ren.ob] at *;obtain⟨⟨q0,qw⟩,arr,lo,hi,us,q1,q2,q3,q4,q5,q6,q7⟩:=ho;have he:(r.se e).den E2.ρ=e.den Eo.ρ:=by rw [Ren.bQ I,<- hρ]
  have Lk:=so I lG hρ hid eP q0;rw [U,N,he];refine⟨⟨Lk,qw⟩,arr,lo,hi,us,q1,lh I lG hρ hid eP _ _ q2,q3,?_,q5,q6,q7⟩
  grind [bB]
end
section
variable {P:Program}
def Bp:List (Nat×Z)->Nat->Bool
 |[],_=>true
 |(t,_)::l,i=>Nat.beq t i&&Bp l (i+1)
theorem bC.of {E:En} {h:Array Obj}: ∀{vs:List Z} {us:List Value},us.length=vs.length->(∀(k:Nat) (v:Z),vs[k]?=some v->∃u,us[k]?=some u/\V E h v u)->bC E h vs us
 |[],us,I,_=>by rw [cZ]; exact aaf I
 |v::vs,[],I,_=>by simp at I
 |v::vs,u::us,I,hh=>by
  rw [bt];refine⟨u,us,rfl,?_,bC.of (by simpa using I) fun k x R=>?_⟩
  ·obtain⟨y,O,U⟩:=hh 0 v rfl
   grind
  ·exact hh (k+1) x (by simpa using R)
def DU:List CS->Bool
 |[]=>true
 |c::l=>tc c.k c&&Bp c.bj 0&&Nat.ble c.k 900&&(I1 c.gR&&DU l)
end
end Go.As
end
section
namespace Go.As
open Go.RowKit
structure wK where
 ok:(Nat->Prop)->Array Obj->Prop
 bw: ∀{ro jW:Nat->Prop} {h h':Array Obj},ok ro h->(∀b,ro b->jW b)->(∀b,ro b->h'[b]?=h[b]?)->ok jW h'
@[reducible] def wK.jM (G:wK) (X?:Ey):bp where
 ok ρ ro h:=G.ok ro h/\Good X? ρ
 bw O U N:=⟨G.bw O.1 U N,O.2⟩
 eC O U:=⟨O.1,O.2.eC U⟩
structure Ez where
 g:Nat
 FY:List RK
 r5:List RK
 eE:DM
 pos:Option (List Nat×CS)
 pat:Option (CS×List bS×Nat):=none
 A6:List CS:=[]
 gh:List (Nat×Nat):=[]
 wh:List Nat:=[]
 kb:Nat:=0
 Kr:List (Nat×Nat):=[]
 fz:List (Nat×Nat×Nat):=[]
 FI:List FH:=[]
def Ez.iI (e:Ez):List bS:=match e.pat with
 |none=>[]
 |some (_,o,_)=>o
def Ez.ko (e:Ez):Nat:=match e.pat with
 |none=>0
 |some (_,_,k)=>k
structure Sys where
 P:Program
 G:wK
 tt:TT
 ft:Nat->Option Func
 lj:Nat->Nat->List Oper->Bool
 draw:bR->Nat->Nat->List Oper->St->T St
 vP:Nat->Option (List Z->St->T (Z×St))
 lf:Nat
 depth:Nat
 C9:Nat->List Nat
 bo:Nat->Option Ez
noncomputable section
def C2 (c:CS) (args:List Z) (s:St):Bool:=match quick (bI args 0 .nil) c.bj with
 |false=>false
 |true=>Nat.beq args.length c.bj.length&&c.fits C0 ⟨bI args 0 .nil,s.h,s.pc⟩ (c.fZ ⟨bI args 0 .nil,s.h,s.pc⟩)&&yD (c.fZ ⟨bI args 0 .nil,s.h,s.pc⟩)
def ym (s:St):List Nat->Bool
 |[]=>true
 |t::l=>match Nat.ble 1000 t with
  |true=>match s.bj.get (t-1000) with
   |some _=>ym s l
   |none=>false
  |false=>match s.bj.get t with
   |some _=>false
   |none=>ym s l
def HY (s:St):List (Nat×Nat)->Bool
 |[]=>true
 |(t,_)::l=>match s.bj.get t with
  |some _=>HY s l
  |none=>false
def vo (c:CS) (gh:List (Nat×Nat)) (wh:List Nat) (args:List Z) (s:St):Bool:=match quick (bI args 0 .nil) c.bj with
 |false=>false
 |true=>ym s wh&&HY s gh&&Nat.beq args.length c.bj.length&&c.fits C0 ⟨bI args 0 .nil,s.h,s.pc⟩ (Ej s gh (c.fZ ⟨bI args 0 .nil,s.h,s.pc⟩))&&yD (Ej s gh (c.fZ ⟨bI args 0 .nil,s.h,s.pc⟩))
def tV:Nat->List Z->Nat->List (Nat×Nat×Nat)
 |_,[],_=>[]
 |i,v::l,f=>match v with
  | .cE _ t=>(i,f,t)::tV i l (f+1)
  |_=>tV i l (f+1)
def pq:List (Nat×Z)->List (Nat×Nat×Nat)
 |[]=>[]
 |(i,v)::l=>match v with
  | .agg cs=>tV i cs 0++pq l
  |_=>pq l
def Ij (args:List Z) (p:Nat×Nat×Nat):Bool:=match cq args p.1 with
 |some v=>match v with
  | .agg xs=>match cq xs p.2.1 with
    |some _=>true
    |none=>false
  |_=>false
 |none=>false
def xw (s:St):List (Nat×Nat)->Bool
 |[]=>true
 |(t,c)::l=>match s.bj.get t with
  |some v=>match v with
   | .int _ _=>xw s l
   | .agg cs=>match cq cs c with
     |some x=>match x with
      | .int _ _=>xw s l
      |_=>false
     |none=>false
   |_=>false
  |none=>false
def H8 (c:CS) (gh:List (Nat×Nat)) (wh:List Nat) (args:List Z) (s:St):Bool:=match gh with
 |[]=>false
 |_=>ym s wh&&xw s gh&&match pq c.bj with
  |[]=>false
  |fz=>fz.all (Ij args)
def Sys.vL (S:Sys):List Nat->List Z->St->T (Z×St)
 |[],_,_=> .fail
 |j::l,args,s=>match S.bo j with
  |none=> .fail
  |some e=>match e.pat with
   |none=>Hu j e.FY e.r5 args s
   |some (c,iI,ko)=>match e.A6 with
    |[]=>match C2 c args s with
     |true=>Ht j c e.r5 iI ko args s
     |false=>S.vL l args s
    |r::rs=>match vo c e.gh e.wh args s with
     |true=>D7 j e.kb c e.gh (r::rs) args s
     |false=>match H8 c e.gh e.wh args s with
      |true=>FF (pq c.bj) args s fun Ev s'=>match vo c e.gh e.wh Ev s' with
       |true=>D7 j e.kb c e.gh (r::rs) Ev s'
       |false=>S.vL l args s
      |false=>S.vL l args s
def Sys.vQ (S:Sys) (g:Nat):Option (List Z->St->T (Z×St)):=match S.C9 g with
 |[]=>S.vP g
 |j::l=>some (match S.vP g with
  |none=>S.vL (j::l)
  |some h=>orElse h (S.vL (j::l)))
def Sys.call (S:Sys):bR:=rO S.tt S.ft S.vQ S.draw S.lf S.depth
def Sys.cfg (S:Sys) (e:Ez) (fn:Func):rC:=⟨S.tt,S.call,S.draw S.call e.g,S.lf,fn.results.toList,e.r5,e.iI,e.ko,e.A6,e.kb,e.fz,e.FI⟩
def DA (S:Sys) (e:Ez):T Lf:=match S.ft e.g with
 |none=> .fail
 |some fn=>match fn.body with
  |none=> .fail
  |some body=>match e.pos with
   |none=>match e.pat with
    |none=>tU (S.cfg e fn) e.eE 1000 [] body [] ⟨bI (vz e.FY .pE 0) 0 .nil,Hp.zero,[]⟩
    |some (c,_,_)=>tU (S.cfg e fn) e.eE 1000 [] body [] c.st
   |some (p,c)=>match ER body p with
    |some (b,fr)=>match b with
     | .loop b=>EA (fun s=>tU (S.cfg e fn) e.eE 1000 (0::p) b (.loop p b::fr) s) e.Kr c.st
     |_=> .fail
    |none=> .fail
def Sys.tree (S:Sys) (j:Nat):T Lf:=match S.bo j with
 |none=> .fail
 |some e=>DA S e
end
def CI (S:Sys) (e:Ez) (body:Code):Prop:= ∀p l,e.eE p=some l->(∃b fr,ER body p=some (.loop b,fr))/\∀j c,(j,c)∈l->S.bo j=some { e with pos:=some (p,c) }/\tc c.k c=true/\c.k<=900/\e.kb<=c.k
structure K3 (S:Sys):Prop where
 tt:bV S.P S.tt
 ft:DP S.P S.lj S.ft
 draw: ∀(Y?:bp) call,@dD Y? S.P call->∀g,@lT Y? S.P (S.lj g) (S.draw call g)
 vP: ∀(Y?:bp),(∀ρ ro h,Y?.ok ρ ro h->S.G.ok ro h)->∀g h,S.vP g=some h->@fh Y? S.P g h
 run: ∀g j,j∈S.C9 g->∀(args:Array Value) (w:World),(callFunc g args).run S.P w= .ok (.enter g args) w
 num: ∀g j e,j∈S.C9 g->S.bo j=some e->e.g=g/\e.pos=none/\(match e.pat with
  |none=>(sR e.FY).length<=900/\e.A6= []
  |some (c,iI,_)=>tc c.k c=true/\c.k<=900/\iI.length=c.gR.length/\(e.A6≠[]->DU e.A6=true)/\I1 c.gR=true)
 outs: ∀j e,S.bo j=some e->vv e.ko e.iI=true/\e.ko<=900/\e.kb<=900
 bo: ∀j e,S.bo j=some e->∀fn body,S.ft e.g=some fn->fn.body=some body->CI S e body
section
variable {S:Sys}
theorem gy.mono {P:Program} {g:FuncId} {dg:Array Value} {w:World} {X! R':Value->World->Prop} (h:gy P g dg w X!) (k: ∀u w',X! u w'->R' u w'):gy P g dg w R':=by
 unfold gy at h ⊢;unfold iU at h ⊢;split at h
 ·grind
 ·exact Calls.mono h fun e w' ⟨u,he,hr⟩=> ⟨u,he,k _ _ hr⟩
 grind
theorem QE.spec {w:World} {ro:Nat->Prop} {θ:Nat->Nat×Nat} {κ:Nat->Nat} {r5:List RK} {ys:List Int} {e:Ending} {w':World} (h:QE ⟨w,ro,0,θ,κ⟩ r5 [] 0 ys e w') :
 ∃u,e= .returned u/\Below w.heap.size w w'/\∃jW:Nat->Prop,(∀b,ro b->jW b)/\(∀b,jW b->ro b\/w.heap.size<=b)/\(∀b,jW b->b<w'.heap.size)/\Io r5 ys jW w'.heap u:=by
 obtain⟨u,q1,q2,jW,q3,q4,q5,_,_,q6⟩:=h;exact⟨u,q1,⟨q2.os,q2.tape,q2.output,q2.size,fun k R=>q2.ru k R fun⟨i,hi,_⟩=>absurd hi (by show ¬i<0; omega)⟩,jW,q3,q4,q5,q6⟩
theorem IJ.refl {Y_:ln}:IJ Y_ Y_.w0:=⟨rfl,rfl,rfl,ar _,fun _ _ _=>rfl⟩
end
end Go.As
end
section
namespace Go.As
open Go.RowKit
def oM:List (Nat×Nat)->Nat->Option Nat
 |[],_=>none
 |(t,k)::l,x=>match Nat.beq t x with
  |true=>some k
  |false=>oM l x
def vq (l:List (Nat×Nat)) (tt:TT):TT:=fun t=>match tt t with
 |some i=>some { i with own:=oM l t }
 |none=>none
section
variable {P:Program}
theorem C3 {l:List (Nat×Nat)} {tt:TT} (h:bV P tt):bV P (vq l tt):=by
 intro t i hi;unfold vq at hi;split at hi
 ·rename_i j hj;simp only [af] at hi;subst hi;obtain⟨O,U⟩:=h t j hj;exact⟨O,U⟩
 grind
theorem xh (l:List (Nat×Nat)) (tt:TT):kindOf (vq l tt)=kindOf tt:=by
 funext op;cases op
 case convert t u x=>
  simp only [kindOf,vq]
  cases ht:tt t with
  |none=>rfl
  |some i=>
   grind
 all_goals rfl
theorem sG (l:List (Nat×Nat)) (tt:TT) (all:List Oper) (ms:List Nat): ∀(os:List Oper) (i n:Nat),items (vq l tt) all ms os i n=items tt all ms os i n
 |[],_,_=>rfl
 |o::os,i,n=>by simp only [items,xh,sG l tt all ms os]
theorem AU (l:List (Nat×Nat)) (tt:TT) (all:List Oper):stat (vq l tt) all=stat tt all:=by
 unfold stat
 simp only [sG]
theorem Cc (l:List (Nat×Nat)) (tt:TT) (H:Nat->Nat->Option tk):x8 (vq l tt) H=x8 tt H:=by funext g id all;unfold x8;simp only [j8,AU]
end
structure FE where
 no:Nat
 g:Nat
 FY:List RK
 r5:List RK
 pat:Option (CS×List bS×Nat):=none
 A6:List CS:=[]
 gh:List (Nat×Nat):=[]
 wh:List Nat:=[]
 kb:Nat:=0
 Kr:List (Nat×Nat):=[]
 fz:List (Nat×Nat×Nat):=[]
 FI:List FH:=[]
 loops:List (List Nat×CS):=[]
def idxs (p:List Nat):List (List Nat×CS)->Nat->List (Nat×CS)
 |[],_=>[]
 |(q,c)::l,j=>match dB q p with
  |true=>(j,c)::idxs p l (j+1)
  |false=>idxs p l (j+1)
def FE.eE (f:FE):DM:=fun p=>match idxs p f.loops (f.no+1) with
 |[]=>none
 |x::l=>some (x::l)
structure Mv where
 P:Program
 G:wK
 tt:TT
 ft:Nat->Option Func
 lj:Nat->Nat->List Oper->Bool
 draw:bR->Nat->Nat->List Oper->St->T St
 vP:Nat->Option (List Z->St->T (Z×St))
 t:Nat->Option FE
 C9:Nat->List Nat
end Go.As
end
section
namespace Go.As
open Go.RowKit
noncomputable section
def a0 (j:Nat) (l:List Y):Y:=.ap (2*j) (gN l)
def a1 (j:Nat) (l:List Y):Y:=.ap (2*j+1) (gN l)
def rr (j:Nat) (l:List Y) (i:Nat):Y:=rZ (.ap (2*j+1) (gN l)) i
def mk (x:Y):Y:=.op .mk x (.lit 0)
def el (x y:Y):Y:=.op .at x y
def fl:T Lf:=.fail
end
end Go.As
end
section
namespace Go.As
open Go.RowKit
def rF (kn:List (Nat×Y)):Y->Bool
 | .ap f a=>rF kn a&&kn.any fun p=>Nat.beq f (2*p.1+1)&&cf a p.2
 | .op _ a b=>rF kn a&&rF kn b
 | .add a b=>rF kn a&&rF kn b
 | .sub a b=>rF kn a&&rF kn b
 | .mul a b=>rF kn a&&rF kn b
 | .quo a b=>rF kn a&&rF kn b
 | .rem a b=>rF kn a&&rF kn b
 | .wrap _ a=>rF kn a
 | .k8 _ _=>false
 | .lit _=>true
 | .cE _=>true
 | .pE i=>Nat.blt i 900
def Is (kn:List (Nat×Y)):SB->Bool
 | .lit _=>true
 | .lt a b=>rF kn a&&rF kn b
 | .le a b=>rF kn a&&rF kn b
 | .eq a b=>rF kn a&&rF kn b
 | .not a=>Is kn a
 | .and a b=>Is kn a&&Is kn b
def FW:SB->Option (Nat×Y)
 | .eq x y=>match x with
   | .ap f a=>match y with
     | .lit n=>match j3 n 1&&Nat.beq (f % 2) 0 with
       |true=>some (f / 2,a)
       |false=>none
     |_=>none
   |_=>none
 |_=>none
def I4:T Lf->Bool
 | .fail=>true
 |_=>false
def EM (kn:List (Nat×Y)):List Y->Bool
 |[]=>true
 |e::l=>rF kn e&&EM kn l
def GS (kn:List (Nat×Y)):T Lf->Bool
 | .fail=>true
 | .ret l=>match l with
   | .out es=>EM kn es
   | .jump _ es=>EM kn es
 | .split c x y=>match FW c with
   |some p=>rF kn p.2&&GS (p::kn) x&&I4 y
   |none=>Is kn c&&GS kn x&&GS kn y
inductive RS where
 |no
 |out (ys:List Int)
 |jump (j:Nat) (xs:List Int)
noncomputable def pN (ρ:Nat->Int):T Lf->RS
 | .fail=> .no
 | .ret l=>match l with
   | .out es=> .out (es.map (Y.den ρ))
   | .jump j es=> .jump j (es.map (Y.den ρ))
 | .split c x y=>if c.den ρ=true then pN ρ x else pN ρ y
section
variable {X? F':Ey} {lo:Nat->Int}
end
section
variable {tree:Nat->T Lf} (Fh: ∀j,GS [] (tree j)=true)
include Fh
end
section
variable {tree:Nat->T Lf} (Fh: ∀j,GS [] (tree j)=true)
include Fh
noncomputable def fin (X?:Ey):RS->Option (List Int)
 | .no=>none
 | .out ys=>some ys
 | .jump j xs=>X? j xs
end
section
variable {X?:Ey} {lo:Nat->Int} {ρ:Nat->Int} {xs:List Int}
end
def Ky:IntKind->Int->Prop
 | .i64,n=> -9223372036854775808<=n/\n<=9223372036854775807
 | .u8,n=>0<=n/\n<=255
 |_,_=>True
def uP:Nat->Nat
 |0=>8
 |1=>8
 |2=>16
 |3=>56
 |4=>64
 |5=>64
 |6=>56
 |7=>80
 |8=>64
 |9=>40
 |10=>24
 |11=>24
 |12=>16
 |13=>40
 |14=>1
 |15=>24
 |16=>48
 |_=>1
theorem Cf (t:Nat):1<=uP t:=by
 unfold uP
 grind
inductive Wd:CK->D->Prop where
 |int (k:IntKind) (n:Int) (h:Ky k n):Wd (.int k) (.i n)
 |bool (b:Bool):Wd .bool (.i (if b then 1 else 0))
 |str (s:ByteArray) (h:s.size<=140737488351232):Wd .str (lP s)
 |nil (t:Nat):Wd (.sl t) (.i 1)
 |nh (t:Nat):Wd (.sl t) (.i 2)
 |one (t:Nat) (c:CK) (ds:List D) (hr:rowOf t= .one c) (hn:ds≠[]) (hm:ds.length*uP t<=140737488351232) (h: ∀d∈ds,Wd c d):Wd (.sl t) (dL ds)
 |many (t:Nat) (cs:List CK) (rows:List (List D)) (hr:rowOf t= .many cs) (hn:rows≠[]) (hm:rows.length*uP t<=140737488351232) (I: ∀r∈rows,r.length=cs.length)
  (h: ∀r∈rows,∀(j:Nat) (d:D) (c:CK),r[j]?=some d->cs[j]?=some c->Wd c d):Wd (.sl t) (dL (rows.map dL))
def Sh (d:D):Prop:=d= .i 1\/d= .i 2\/(d=dL d.l/\d.l≠[])
theorem Wd.sh {t:Nat} {d:D} (h:Wd (.sl t) d):Sh d:=by
 cases h with
 |nil=>exact .inl rfl
 |nh=>exact .inr (.inl rfl)
 |one _ c ds hr hn hm h=>exact .inr (.inr ⟨by rw [ch],by rw [ch]; exact hn⟩)
 |many _ cs rows hr hn hm I h=>exact .inr (.inr ⟨by rw [ch],by rw [ch]; simpa using hn⟩)
theorem Wd.i {k:IntKind} {d:D} (h:Wd (.int k) d): ∃n,d= .i n/\Ky k n:=by
 cases h with
 |int _ n h=>exact⟨n,rfl,h⟩
theorem Wd.b {d:D} (h:Wd .bool d):d= .i 0\/d= .i 1:=by
 cases h with
 |bool b=>cases b<;>simp
theorem Wd.s {d:D} (h:Wd .str d): ∃s,d=lP s:=by
 cases h with
 |str s=>exact⟨s,rfl⟩
theorem Wd.room {t:Nat} {d:D} (h:Wd (.sl t) d):d.l.length*uP t<=140737488351232:=by
 cases h with
 |nil=>simp [D.l]
 |nh=>simp [D.l]
 |one _ c ds hr hn hm h=>rw [ch]; exact hm
 |many _ cs rows hr hn hm I h=>rw [ch,aaN]; exact hm
theorem Wd.len {t:Nat} {d:D} (h:Wd (.sl t) d):d.l.length<=140737488351232:=
 aD (Nat.le_mul_of_pos_right _ (Cf t)) h.room
end Go.As
end
section
namespace Go.As
open Go Go.RowKit
theorem add_add (a:Addr) (m n:Nat):(a.add m).add n=a.add (m+n):=by
 unfold Addr.add;by_cases O:m=0
 ·subst O; simp
 ·by_cases U:n=0
  ·subst U; simp
  ·simp [O,U,aQ]
def eB (i:Nat):List CK:=match rowOf i with
 | .one c=>[c]
 | .many cs=>cs
def qF (X?:TypeId->Option (List CK)) (P:Program):List Field->Nat->Nat->Option (List CK)
 |[],o,DT=>if o=DT then some [] else none
 |f::fs,o,DT=>match X? f.type with
  |none=>none
  |some cs=>if f.offset=o/\P.cellsOf f.type=cs.length then (match qF X? P fs (o+cs.length) DT with
   |none=>none
   |some l=>some (cs++l)) else none
def ke (P:Program) (own:TypeId->Option Nat):Nat->TypeId->Option (List CK)
 |0,_=>none
 |n+1,t=>match P.underlying t with
  |some .bool=>some [.bool]
  |some (.int k)=>some [.int k]
  |some .string=>some [.str]
  |some (.slice _)=>match own t with
   |some i=>some [.sl i]
   |none=>none
  |some (.struct fs)=>qF (ke P own n) P fs.toList 0 (P.cellsOf t)
  |some (.array m e)=>match ke P own n e with
   |some cs=>if P.cellsOf e=cs.length/\P.cellsOf t=m*cs.length then some (List.replicate m cs).flatten else none
   |none=>none
  |_=>none
def Cq (P:Program) (own:TypeId->Option Nat):Prop:= ∀t i,own t=some i->∃e n,P.underlying t=some (.slice e)/\ke P own n e=some (eB i)/\P.cellsOf e=(eB i).length/\uP i<=P.bytesOf e/\0<(eB i).length
inductive Rs (ro:Nat->Prop) (h:Array Obj):List CK->List D->List Value->Prop where
 |nil:Rs ro h [] [] []
 |cons {c:CK} {d:D} {v:Value} {cs:List CK} {ds:List D} {vs:List Value} (r:Rd ro h c d v) (w:Wd c d) (t:Rs ro h cs ds vs):Rs ro h (c::cs) (d::ds) (v::vs)
section
variable {ro:Nat->Prop} {h:Array Obj}
theorem Rs.append {cs eW:List CK} {ds Es:List D} {vs zE:List Value} (a:Rs ro h cs ds vs) (b:Rs ro h eW Es zE):Rs ro h (cs++eW) (ds++Es) (vs++zE):=by
 induction a with
 |nil=>exact b
 |cons r w _ ih=>exact .cons r w ih
theorem Rs.len {cs:List CK} {ds:List D} {vs:List Value} (a:Rs ro h cs ds vs):ds.length=cs.length/\vs.length=cs.length:=by
 induction a with
 |nil=>exact⟨rfl,rfl⟩
 |cons r w _ ih=>exact⟨by simp [ih.1],by simp [ih.2]⟩
theorem Rs.at {cs:List CK} {ds:List D} {vs:List Value} (a:Rs ro h cs ds vs): ∀{j:Nat} {d:D} {c:CK},ds[j]?=some d->cs[j]?=some c->∃v,vs[j]?=some v/\Rd ro h c d v/\Wd c d:=by
 induction a with
 |nil=>intro j d c O _; simp at O
 |cons r w _ ih=>
  intro j d c O U
  cases j with
  |zero=> simp only [aaq,af] at O U;subst O U;exact⟨_,rfl,r,w⟩
  |succ j=> simp only [aaW] at O U;obtain⟨v,N,h4⟩:=ih O U;exact⟨v,by simpa using N,h4⟩
end
theorem DI {l:List Nat} {m:Nat} (h:l.all (·<=m)=true): ∀x∈l,x<=m:=fun x M=>by simpa using aE.1 h x M
theorem xc {l:List Nat} {m:Nat} (h: ∀x∈l,x<=m):l.all (·<=m)=true:=aE.2 fun x M=>by simpa using h x M
theorem DH {l l':List Nat} {m:Nat} (h:l.all (·<=m)=true) (s: ∀x∈l',x∈l):l'.all (·<=m)=true:=xc fun x M=>DI h x (s x M)
theorem jR {H:Type} {P:Program} {e:TypeId}: ∀{l:List (DataW H)} {d:DataW H},d∈l->∀x∈d.weights P e,x∈DataW.weightsAll P e l
 |[],_,h,_,_=>by simp at h
 |d'::l,d,h,x,M=>by
  simp only [DataW.weightsAll,aZ];rcases aw.1 h with rfl|h
  ·exact .inl M
  ·exact .inr (jR h x M)
section
variable {P:Program} {own:TypeId->Option Nat} (ok:Cq P own) {H:Type} {en:TypeId×Value->H} {Z':World}
abbrev w5 (Z':World):Nat->Prop:=fun b=>b<Z'.heap.size
theorem zt {b o:Nat} {v:Value} (h:Z'.cell? ⟨b,o,none⟩ = some v):b<Z'.heap.size:=by
 rw [gj] at h;unfold eN at h;split at h
 ·rename_i K;exact (aV.1 K).1
 ·simp at h
def Reads (P:Program) (own:TypeId->Option Nat) (en:TypeId×Value->H) (Z':World) (fuel:Nat):Prop:=
 ∀(t:TypeId) (n:Nat) (rP:List CK) (cs:List Value) (x:DataW H×List MemPlace),ke P own n t=some rP->DataW.trod en P Z' 0 (fun _=>true) true fuel t cs=some x->(x.1.weights P t).all (·<=reachBytes)=true->∃ds,Rs (w5 Z') Z'.heap rP ds cs
theorem oB {fuel:Nat} (ih:Reads P own en Z' fuel) {n:Nat} {cs:List Value} {DT:Nat} (I:cs.length=DT): ∀(fs:List Field) (o:Nat) (rP:List CK) (xs:List (DataW H×List MemPlace)),qF (ke P own n) P fs o DT=some rP->xs.length=fs.length->
 (∀(i:Nat) (f:Field),fs[i]?=some f->DataW.trod en P Z' 0 (fun _=>true) true fuel f.type ((cs.drop f.offset).take (P.cellsOf f.type))=xs[i]?)->
 (DataW.weightsEach P (fs.map (·.type)) (xs.map (·.1))).all (·<=reachBytes)=true->∃ds,Rs (w5 Z') Z'.heap rP ds (cs.drop o)
 |[],o,rP,xs,hf,_,_,_=>by
  simp only [qF] at hf;split at hf
  ·rename_i ho;simp only [af] at hf;subst hf;rw [abC J];exact⟨[],.nil⟩
  ·simp at hf
 |f::fs,o,rP,[],_,M,_,_=>by simp at M
 |f::fs,o,rP,x::xs,hf,M,ht,hw=>by
  simp only [qF] at hf;split at hf
  ·simp at hf
  ·rename_i c1 O;split at hf
   ·rename_i ho;split at hf
    ·simp at hf
    ·rename_i l LY;simp only [af] at hf;subst hf;have h0:=ht 0 f rfl;rw [ho.1,ho.2] at h0;simp only [au,DataW.weightsEach,aa0,an] at hw;obtain⟨ds,r1⟩:=ih f.type n c1 _ x O h0 hw.1;obtain⟨Es,r2⟩:=oB ih I fs (o+c1.length) l xs LY (by simpa using M) (fun i g hg=>ht (i+1) g (by simpa using hg)) hw.2;refine⟨ds++Es,?_⟩
     have e:cs.drop o=(cs.drop o).take c1.length++cs.drop (o+c1.length):=by rw [<- List.drop_drop,aas]
     rw [e];exact r1.append r2
   ·simp at hf
include ok in
theorem vh {fuel:Nat} (ih:Reads P own en Z' fuel) {t e:TypeId} {i:Nat} (ht:P.underlying t=some (.slice e)) (ho:own t=some i) {cs:List Value} {x:DataW H×List MemPlace} (M:DataW.trod en P Z' 0 (fun _=>true) true (fuel+1) t cs=some x) (hw:(x.1.weights P t).all (·<=reachBytes)=true) :
 ∃d v,cs= [v]/\Rd (w5 Z') Z'.heap (.sl i) d v/\Wd (.sl i) d:=by
 obtain⟨e',nf,E8,L5,IF,Mh,gq⟩:=ok t i ho;rw [ht] at E8;simp only [af,TypeDesc.slice.injEq] at E8;subst E8;rcases DataW.trod_slice ht M with ⟨rfl,rfl⟩|⟨a,len,cap,elems,rest,n,hn,rfl,rfl,_,KN,_,hlen,L7,_,_⟩
 ·exact⟨.i 1,_,rfl,.nil i,.nil i⟩
 ·simp only [Nat.succ.injEq] at hn;subst hn;rcases aat len with h0|h0
  ·subst h0;exact⟨.i 2,_,rfl,.nh i a cap,.nh i⟩
  ·simp only [DataW.weights,ht,abk,aa0,an,decide_eq_true_eq,aaN] at hw
   have row: ∀k,k<len->∃cs ds,Z'.cells? 0 (a.add (k*(eB i).length)) (eB i).length=some cs/\Rs (w5 Z') Z'.heap (eB i) ds cs:=by intro k R;have he:=L7 k R;rw [aJ J,IF,aao] at he;obtain⟨cs,O,U⟩:=he;obtain⟨ds,hr⟩:=ih e nf (eB i) cs _ L5 U (DH hw.2.1 (jR (List.mem_map_of_mem (List.getElem_mem _))));exact⟨cs,ds,O,hr⟩
   obtain⟨b,o,spot⟩:=a
   have Hk:spot=none:=by obtain⟨cs,ds,O,hr⟩:=row 0 h0;obtain⟨_,h4,h5⟩:=World.cells?_some O;have:=h5 0 gq;rw [aJ J] at this;simpa [Addr.add] using World.cell?_spot this
   subst Hk
   have cell: ∀k,k<len->∃ds vs,Rs (w5 Z') Z'.heap (eB i) ds vs/\∀j,j<(eB i).length->eN Z'.heap b (o+k*(eB i).length+j)=vs[j]?:=by
    intro k R;obtain⟨cs,ds,O,hr⟩:=row k R;obtain⟨_,h4,h5⟩:=World.cells?_some O;refine⟨ds,cs,hr,fun j hj=>?_⟩;have:=h5 j hj;rw [add_add] at this;have e2:(Addr.mk b o none).add (k*(eB i).length+j)=⟨b,o+k*(eB i).length+j,none⟩:=by simp [Addr.add,aQ]
    rw [e2,gj] at this;exact this
   have K:b<Z'.heap.size:=by obtain⟨ds,vs,hr,B⟩:=cell 0 h0;have:=B 0 gq;rw [aJ (by rw [hr.len.2]; exact gq),<- gj] at this;exact zt this
   have Ea:len*uP i<=140737488351232:=by
    have O:(elems.length+rest.length)*P.bytesOf e<=reachBytes:=hw.1
    have U:len*uP i<=(elems.length+rest.length)*P.bytesOf e:=aa8 J Mh
    have N:reachBytes=140737488351232:=rfl;omega
   classical
   let ds:Nat->List D:=fun k=>if h:k<len then (cell k h).choose else [];let vs:Nat->List Value:=fun k=>if h:k<len then (cell k h).choose_spec.choose else []
   have spec: ∀k,k<len->Rs (w5 Z') Z'.heap (eB i) (ds k) (vs k)/\∀j,j<(eB i).length->eN Z'.heap b (o+k*(eB i).length+j)=(vs k)[j]?:=by intro k R;have e1:ds k=(cell k R).choose:=dif_pos R;have e2:vs k=(cell k R).choose_spec.choose:=dif_pos R;rw [e1,e2];exact (cell k R).choose_spec.choose_spec
   have get: ∀{k:Nat} {r:List D},((List.range len).map ds)[k]?=some r->k<len/\r=ds k:=by
    intro k r R;rw [bc] at R
    have Af:k<len:=by
     rcases aG k len with h|h
     ·exact h
     ·rw [abq (by simpa using h)] at R; simp at R
    rw [abu Af] at R;simp only [aR,af] at R;exact⟨Af,R.symm⟩
   cases fG:rowOf i with
   |one c=>
    have Ae:eB i= [c]:=by unfold eB; rw [fG]
    have H7: ∀{k:Nat} {d:D},((List.range len).map fun k=>(ds k).headD (.i 0))[k]?=some d->k<len/\d=(ds k).headD (.i 0):=by
     intro k d R;rw [bc] at R
     have Af:k<len:=by
      rcases aG k len with h|h
      ·exact h
      ·rw [abq (by simpa using h)] at R; simp at R
     rw [abu Af] at R;simp only [aR,af] at R;exact⟨Af,R.symm⟩
    have Lc: ∀k,k<len->∃d v,ds k= [d]/\eN Z'.heap b (o+k)=some v/\Rd (w5 Z') Z'.heap c d v/\Wd c d:=by
     intro k R;obtain⟨hr,B⟩:=spec k R;rw [Ae] at hr B
     match Ed:ds k,Ix:vs k,hr with
     |[d],[v],.cons r w .nil=> have:=B 0 ad;rw [Ix] at this;exact⟨d,v,rfl,by simpa using this,r,w⟩
    have e:len=((List.range len).map fun k=>(ds k).headD (.i 0)).length:=ad
    have r:=Rd.one (ro:=w5 Z') (h:=Z'.heap) i c b o cap ((List.range len).map fun k=>(ds k).headD (.i 0)) (fun k=>(vs k).headD undef) fG (by rw [<- e]; exact KN) K
     (fun k d hd=>by
      obtain⟨R,rfl⟩:=H7 hd;obtain⟨hr,B⟩:=spec k R;rw [Ae] at hr B;have:=B 0 ad
      match Ed:ds k,Ix:vs k,hr with
      |[d],[v],.cons r w .nil=>
       rw [Ix] at this
       simpa using this)
     (fun k d hd=>by
      obtain⟨R,rfl⟩:=H7 hd;obtain⟨hr,B⟩:=spec k R;rw [Ae] at hr
      match Ed:ds k,Ix:vs k,hr with
      |[d],[v],.cons r w .nil=>exact r)
    rw [<- e] at r;refine⟨_,_,rfl,r,.one i c _ fG (fun h=>by have:=congrArg List.length h; simp at this; omega) (by rw [<- e]; exact Ea) fun d hd=>?_⟩;obtain⟨k,R,rfl⟩:=aF.1 hd;obtain⟨d,v,O,_,_,w⟩:=Lc k (by simpa using R);rw [O];exact w
   |many rP=>
    have Ae:eB i=rP:=by unfold eB; rw [fG]
    have e:len=((List.range len).map ds).length:=ad
    have KK: ∀r∈(List.range len).map ds,r.length=rP.length:=by intro r hr;obtain⟨k,R,rfl⟩:=aF.1 hr;have:=(spec k (by simpa using R)).1.len.1;rw [Ae] at this;exact this
    have r:=Rd.many (ro:=w5 Z') (h:=Z'.heap) i rP b o cap ((List.range len).map ds) (fun k j=>((vs k)[j]?).getD undef) fG (by rw [<- e]; exact KN) K KK
     (fun k r j d hr hj=>by
      obtain⟨R,rfl⟩:=get hr;obtain⟨xp,B⟩:=spec k R;rw [Ae] at xp B
      have Fq:j<rP.length:=by have:=(aL.1 hj).1;rw [xp.len.1] at this;exact this
      rw [B j Fq,aJ (by rw [xp.len.2]; exact Fq)]
      rfl)
     (fun k r j d c hr hj Gc=>by
      obtain⟨R,rfl⟩:=get hr;obtain⟨xp,B⟩:=spec k R;rw [Ae] at xp;obtain⟨v,O,U,_⟩:=xp.at hj Gc;show Rd (w5 Z') Z'.heap c d (((vs k)[j]?).getD undef);rw [O]
      exact U)
    rw [<- e] at r;refine⟨_,_,rfl,r,.many i rP _ fG (fun h=>by have:=congrArg List.length h; simp at this; omega) (by rw [<- e]; exact Ea) KK fun r hr j d c hj Gc=>?_⟩;obtain⟨k,R,rfl⟩:=aF.1 hr;have xp:=(spec k (by simpa using R)).1;rw [Ae] at xp;obtain⟨v,_,_,N⟩:=xp.at hj Gc;exact N
theorem pW {fuel:Nat} (ih:Reads P own en Z' fuel) {n:Nat} {cs:List Value} {e:TypeId} {c1:List CK} (O:ke P own n e=some c1): ∀(xs:List (DataW H×List MemPlace)) (i:Nat),cs.length=(i+xs.length)*c1.length->
 (∀(j:Nat),j<xs.length->DataW.trod en P Z' 0 (fun _=>true) true fuel e ((cs.drop ((i+j)*c1.length)).take c1.length)=xs[j]?)->
 (DataW.weightsAll P e (xs.map (·.1))).all (·<=reachBytes)=true->∃ds,Rs (w5 Z') Z'.heap (List.replicate xs.length c1).flatten ds (cs.drop (i*c1.length))
 |[],i,I,_,_=>by rw [abC (by rw [I]; simp)];exact⟨[],.nil⟩
 |x::xs,i,I,ht,hw=>by
  have h0:=ht 0 ad;rw [aH] at h0;simp only [au,DataW.weightsAll,aa0,an] at hw;obtain⟨ds,r1⟩:=ih e n c1 _ x O h0 hw.1
  obtain⟨Es,r2⟩:=pW ih O xs (i+1) (by rw [I,aA]; congr 1; omega) (fun j hj=>by
   have:=ht (j+1) (by simpa using hj);rw [show i+1+j=i+(j+1) by omega]
   simpa using this) hw.2
  refine⟨ds++Es,?_⟩
  have e1:cs.drop (i*c1.length)=(cs.drop (i*c1.length)).take c1.length++cs.drop ((i+1)*c1.length):=by rw [Nat.succ_mul,<- List.drop_drop,aas]
  rw [e1,aA,abh,List.flatten_cons];exact r1.append r2
include ok in
theorem tz: ∀fuel:Nat,Reads P own en Z' fuel
 |0=>fun t n rP cs x _ M _=>by simp [DataW.trod] at M
 |fuel+1=>fun t n rP cs x hf M hw=>by
  cases n with
  |zero=>simp [ke] at hf
  |succ n=>
   unfold ke at hf;split at hf
   ·rename_i ht;simp only [af] at hf;subst hf;obtain⟨b,rfl,_⟩:=DataW.trod_bool ht M;exact⟨_,.cons (.bool b) (.bool b) .nil⟩
   ·rename_i k ht;simp only [af] at hf;subst hf;obtain⟨z,rfl,_,jO⟩:=DataW.trod_int ht M;refine⟨_,.cons (.int k z) (.int k z ?_) .nil⟩;simp only [Lit.wf,an,decide_eq_true_eq] at jO;cases k<;>first |exact jO|trivial
   ·rename_i ht;simp only [af] at hf;subst hf;obtain⟨s,rfl,rfl,_⟩:=DataW.trod_string ht M;refine⟨_,.cons (.str s) (.str s ?_) .nil⟩;simp only [DataW.weights,abk,List.all_nil,Bool.and_true,decide_eq_true_eq] at hw;exact hw
   ·rename_i e ht;split at hf
    ·rename_i i ho;simp only [af] at hf;subst hf;obtain⟨d,v,rfl,r,w⟩:=vh ok (tz fuel) ht ho M hw;exact⟨_,.cons r w .nil⟩
    ·simp at hf
   ·rename_i fs ht;obtain⟨xs,m,hm,rfl,I,Ja,iA⟩:=DataW.trod_struct ht M;simp only [Nat.succ.injEq] at hm;subst hm
    have Jd:(DataW.weightsEach P (fs.toList.map (·.type)) (xs.map (·.1))).all (·<=reachBytes)=true:=by simp only [DataW.weights,ht] at hw;exact hw
    have:=oB (tz fuel) I fs.toList 0 rP xs hf (by simpa using Ja) (fun i f hi=>iA i f (by simpa using hi)) Jd;simpa using this
   ·rename_i m e ht;split at hf
    ·rename_i c1 O;split at hf
     ·rename_i IF;simp only [af] at hf;subst hf;obtain⟨xs,m',hm,rfl,I,Ja,iA⟩:=DataW.trod_array ht M;simp only [Nat.succ.injEq] at hm;subst hm;subst Ja
      have Jd:(DataW.weightsAll P e (xs.map (·.1))).all (·<=reachBytes)=true:=by simp only [DataW.weights,ht] at hw;exact hw
      rw [IF.2] at I
      have:=pW (tz fuel) O xs 0 (by rw [I,ax]) (fun j hj=>by
       rw [ax];have:=iA j hj;rw [IF.1] at this
       exact this) Jd
      simpa using this
     ·simp at hf
    ·simp at hf
   ·simp at hf
end
theorem mi {P:Program} {w:World} {r:Reach} {base:Nat} {t:TypeId} {v:Value} {n:Nat} {e:TypeId} (ht:P.underlying t=some (.array n e)) (h:Value.okWide P w r base t v): ∃cs,v= .agg cs/\cs.size=P.cellsOf t:=by simp only [Value.okWide,ht] at h;obtain⟨cs,O,U,_⟩:=h;exact⟨cs,O,U⟩
end Go.As
end
section
namespace Go.As.Try
open Go hiding Stat
open Go.As Go.Proofs
set_option maxRecDepth 100000
abbrev nO {α:Type} (l r:Tr α):Tr α:=.node none l r
abbrev nS {α:Type} (v:α) (l r:Tr α):Tr α:=.node (some v) l r
abbrev nL {α:Type} (v:α):Tr α:=.node (some v) .nil .nil
abbrev A (m n:Nat) (l:List Nat):oZ:=⟨m,.pa,n,l⟩
abbrev hR (m n:Nat) (l:List Nat):oZ:=⟨m,.r,n,l⟩
abbrev hE (m n:Nat) (l:List Nat):oZ:=⟨m,.e,n,l⟩
abbrev tF:TI:=⟨.func,1,8,[.jZ],false,none⟩
abbrev zI:Z:=.int .i64 (.lit 0)
abbrev zU:Z:=.int .u8 (.lit 0)
def F2:Tr TI:=(nO (nS tF (nS ⟨.int .i64,1,8,[zI],false,none⟩ (nS ⟨.struct [(0,2,1),(1,3,1),(2,4,1),(3,6,1)],4,24,[zI,zI,.bool (.lit false),zU],true,none⟩ (nS ⟨.pointer 228,1,8,[.dw],false,none⟩ (nS ⟨.struct [(0,3,1),(1,30,1),(2,3,1),(3,2,1),(4,2,1)],5,40,[zI,zU,zI,zI,zI],true,none⟩ (nS ⟨.int .u8,1,1,[zU],false,none⟩ (nL tF) (nL tF)) (nL tF)) (nO (nS ⟨.struct [(0,9,1),(1,77,1),(2,3,1)],3,48,[.str [],.bE,zI],false,none⟩ (nL tF) (nL tF)) (nS ⟨.int .u64,1,8,[.int .u64 (.lit (0))],false,none⟩ .nil (nL ⟨.struct [(0,12,1),(1,12,1),(2,167,1),(3,232,1),(4,5,1),(5,5,1),(6,233,1),(7,234,1),(8,235,1),(9,236,1),(10,237,1)],11,48,[.int .u64 (.lit (0)),.int .u64 (.lit (0)),.int .u32 (.lit (0)),zU,zU,zU,zU,.jZ,.dw,.int .i32 (.lit (0)),.int .i32 (.lit (0))],false,none⟩)))) (nS ⟨.slice 75,1,24,[.bE],false,none⟩ (nS ⟨.slice 79,1,24,[.bE],false,none⟩ (nS tF (nL tF) (nL tF)) (nS ⟨.struct [(0,26,2),(2,101,1)],3,56,[.bE,.bE,.eS],false,none⟩ (nL ⟨.int .u32,1,4,[.int .u32 (.lit (0))],false,none⟩) (nL ⟨.struct [(0,229,0)],0,0,[],false,none⟩))) (nS ⟨.struct [(0,33,1),(1,3,1),(2,4,1),(3,4,1)],4,40,[.bE,zI,.bool (.lit false),.bool (.lit false)],false,none⟩ (nS tF (nL tF) (nL ⟨.array 2 72,2,48,[.bE,.bE],false,none⟩)) (nS tF (nL tF) .nil)))) (nS ⟨.string,1,16,[.str []],false,none⟩ (nS ⟨.struct [(0,17,1)],1,8,[.dw],false,none⟩ (nS tF (nS ⟨.struct [(0,9,1),(1,65,6),(7,44,2),(9,3,1)],10,96,[.str [],zU,.str [],zI,zI,zI,zI,zI,zI,zI],false,none⟩ (nL ⟨.struct [(0,130,1),(1,88,1)],2,16,[.eS,.eS],false,none⟩) (nL ⟨.struct [(0,3,1),(1,3,1)],2,16,[zI,zI],true,none⟩)) (nS tF (nL tF) (nL ⟨.struct [(0,17,1),(1,17,1),(2,17,1),(3,9,1)],4,40,[.dw,.dw,.dw,.str []],false,none⟩))) (nO (nS ⟨.pointer 85,1,8,[.dw],false,none⟩ (nL ⟨.int .u8,1,1,[zU],false,none⟩) (nL tF)) (nS tF (nL ⟨.array 23 9,23,368,(bJ [.str []] 23),false,none⟩) .nil))) (nS tF (nS ⟨.struct [(0,42,1),(1,3,1)],2,16,[zI,zI],true,none⟩ (nS ⟨.struct [(0,73,1),(1,9,1),(2,2,1),(3,9,1),(4,3,1)],5,56,[zU,.str [],zI,.str [],zI],true,none⟩ (nL ⟨.struct [(0,137,1),(1,30,1),(2,3,1),(3,3,1),(4,3,1),(5,2,1),(6,122,1)],7,64,[zU,zU,zI,zI,zI,zI,.bE],false,none⟩) (nL tF)) (nS tF (nL tF) (nL ⟨.pointer 5,1,8,[.dw],false,none⟩))) (nS ⟨.slice 33,1,24,[.bE],false,none⟩ (nS ⟨.struct [(0,9,1),(1,72,1),(2,90,1)],3,64,[.str [],.bE,.bE],false,none⟩ (nL tF) (nL tF)) (nL ⟨.struct [(0,121,1),(1,30,1),(2,9,1),(3,9,1),(4,2,1),(5,122,1),(6,77,1),(7,77,1),(8,3,1)],9,128,[zU,zU,.str [],.str [],zI,.bE,.bE,.bE,zI],false,none⟩))))) (nS ⟨.int .u8,1,1,[zU],false,none⟩ (nS ⟨.string,1,16,[.str []],false,none⟩ (nS ⟨.pointer 239,1,8,[.dw],false,none⟩ (nS ⟨.slice 3,1,24,[.bE],false,none⟩ (nS ⟨.struct [(0,63,1),(1,9,1),(2,2,1),(3,3,1),(4,3,1),(5,3,1)],6,56,[zU,.str [],zI,zI,zI,zI],true,none⟩ (nL ⟨.pointer 132,1,8,[.dw],false,none⟩) (nL ⟨.pointer 195,1,8,[.dw],false,none⟩)) (nS tF (nL tF) (nL ⟨.array 32 5,32,32,(bJ [zU] 32),false,none⟩))) (nS tF (nS tF (nL tF) (nL tF)) (nS tF (nL tF) .nil))) (nS ⟨.struct [(0,23,1),(1,24,1)],2,48,[.bE,.bE],false,none⟩ (nS ⟨.struct [(0,23,1),(1,39,1)],2,48,[.bE,.bE],false,none⟩ (nS ⟨.int .u8,1,1,[zU],false,none⟩ (nL ⟨.int .u8,1,1,[zU],false,none⟩) (nL tF)) (nS tF (nL ⟨.int .u64,1,8,[.int .u64 (.lit (0))],false,none⟩) (nL ⟨.int .u8,1,1,[zU],false,none⟩))) (nS tF (nS ⟨.pointer 94,1,8,[.dw],false,none⟩ (nL ⟨.struct [(0,3,1),(1,3,1)],2,16,[zI,zI],true,none⟩) (nL tF)) (nS ⟨.int .u8,1,1,[zU],false,none⟩ (nL tF) .nil)))) (nS ⟨.struct [(0,9,1),(1,12,1)],2,24,[.str [],.int .u64 (.lit (0))],false,none⟩ (nS ⟨.int .i32,1,4,[.int .i32 (.lit (0))],false,none⟩ (nS tF (nS ⟨.array 9 9,9,144,[.str [],.str [],.str [],.str [],.str [],.str [],.str [],.str [],.str []],false,none⟩ (nL tF) (nL tF)) (nS ⟨.map 154 3,1,8,[.eS],false,none⟩ (nL tF) (nL ⟨.array 0 16,0,0,[],false,none⟩))) (nS tF (nS ⟨.struct [(0,3,1),(1,4,1),(2,4,1)],3,16,[zI,.bool (.lit false),.bool (.lit false)],true,none⟩ (nL ⟨.struct [(0,147,1),(1,9,1),(2,2,1),(3,122,1)],4,56,[zU,.str [],zI,.bE],false,none⟩) .nil) (nS tF (nL tF) .nil))) (nS ⟨.array 2 22,4,4,[.bool (.lit false),.bool (.lit false),.bool (.lit false),.bool (.lit false)],false,none⟩ (nO (nS ⟨.slice 124,1,24,[.bE],false,none⟩ (nL tF) (nL ⟨.slice 5,1,24,[.bE],false,none⟩)) (nS tF (nL ⟨.pointer 170,1,8,[.dw],false,none⟩) (nL ⟨.int .i32,1,4,[.int .i32 (.lit (0))],false,none⟩))) (nS tF (nS ⟨.struct [(0,88,1),(1,92,3),(4,3,1)],5,80,[.eS,.str [],.bE,.bE,zI],false,none⟩ (nL tF) (nL ⟨.array 20 169,20,160,(bJ [.int .u64 (.lit (0))] 20),false,none⟩)) (nS tF (nL tF) .nil)))))) (nS ⟨.int .i64,1,8,[zI],false,none⟩ (nS ⟨.bool,1,1,[.bool (.lit false)],false,none⟩ (nS ⟨.struct [(0,2,1),(1,3,1),(2,4,1),(3,6,1)],4,24,[zI,zI,.bool (.lit false),zU],true,none⟩ (nS ⟨.pointer 231,1,8,[.dw],false,none⟩ (nS ⟨.struct [(0,3,1),(1,30,1),(2,3,1),(3,2,1),(4,2,1)],5,40,[zI,zU,zI,zI,zI],true,none⟩ (nS ⟨.struct [(0,63,1),(1,9,1),(2,2,1),(3,3,1),(4,3,1),(5,3,1)],6,56,[zU,.str [],zI,zI,zI,zI],true,none⟩ (nL tF) (nL tF)) (nS tF (nL tF) (nL tF))) (nS tF (nS tF (nL tF) (nL tF)) (nO (nL tF) .nil))) (nS ⟨.slice 92,1,24,[.bE],false,none⟩ (nS ⟨.struct [(0,23,1),(1,39,1)],2,48,[.bE,.bE],false,none⟩ (nS ⟨.slice 9,1,24,[.bE],false,none⟩ (nL tF) (nL tF)) (nS tF (nL tF) (nL ⟨.int .u8,1,1,[zU],false,none⟩))) (nS ⟨.struct [(0,33,1),(1,3,1),(2,4,1),(3,4,1)],4,40,[.bE,zI,.bool (.lit false),.bool (.lit false)],false,none⟩ (nS ⟨.map 9 3,1,8,[.eS],false,none⟩ (nL tF) (nL ⟨.array 24 5,24,24,(bJ [zU] 24),false,none⟩)) (nS tF (nL tF) .nil)))) (nS ⟨.int .u64,1,8,[.int .u64 (.lit (0))],false,none⟩ (nS ⟨.iface true,1,16,[.lB],false,none⟩ (nS tF (nS tF (nL ⟨.struct [(0,130,1),(1,88,1)],2,16,[.eS,.eS],false,none⟩) (nL tF)) (nS ⟨.pointer 103,1,8,[.dw],false,none⟩ .nil (nL ⟨.struct [(0,17,1),(1,17,1),(2,17,1),(3,9,1)],4,40,[.dw,.dw,.dw,.str []],false,none⟩))) (nS ⟨.map 3 50,1,8,[.eS],false,none⟩ (nS ⟨.struct [(0,3,1),(1,4,1),(2,4,1)],3,16,[zI,.bool (.lit false),.bool (.lit false)],true,none⟩ (nL ⟨.struct [(0,147,1),(1,9,1),(2,2,1),(3,122,1)],4,56,[zU,.str [],zI,.bE],false,none⟩) (nL ⟨.pointer 198,1,8,[.dw],false,none⟩)) (nS tF (nL tF) .nil))) (nS ⟨.slice 32,1,24,[.bE],false,none⟩ (nS ⟨.struct [(0,42,1),(1,3,1)],2,16,[zI,zI],true,none⟩ (nS tF (nL ⟨.struct [(0,137,1),(1,30,1),(2,3,1),(3,3,1),(4,3,1),(5,2,1),(6,122,1)],7,64,[zU,zU,zI,zI,zI,zI,.bE],false,none⟩) (nL tF)) (nS tF (nL tF) (nL ⟨.int .i32,1,4,[.int .i32 (.lit (0))],false,none⟩))) (nS tF (nS ⟨.struct [(0,9,1),(1,72,1),(2,90,1)],3,64,[.str [],.bE,.bE],false,none⟩ (nL tF) (nL tF)) (nS ⟨.struct [(0,121,1),(1,30,1),(2,9,1),(3,9,1),(4,2,1),(5,122,1),(6,77,1),(7,77,1),(8,3,1)],9,128,[zU,zU,.str [],.str [],zI,.bE,.bE,.bE,zI],false,none⟩ (nL tF) .nil))))) (nS ⟨.int .u8,1,1,[zU],false,none⟩ (nS ⟨.string,1,16,[.str []],false,none⟩ (nS ⟨.struct [(0,17,1)],1,8,[.dw],false,none⟩ (nO (nS ⟨.struct [(0,9,1),(1,65,6),(7,44,2),(9,3,1)],10,96,[.str [],zU,.str [],zI,zI,zI,zI,zI,zI,zI],false,none⟩ (nL ⟨.map 9 73,1,8,[.eS],false,none⟩) (nL ⟨.struct [(0,3,1),(1,3,1)],2,16,[zI,zI],true,none⟩)) (nS tF (nL tF) (nL ⟨.array 64 5,64,64,(bJ [zU] 64),false,none⟩))) (nS ⟨.pointer 56,1,8,[.dw],false,none⟩ (nS tF (nL tF) (nL tF)) (nS tF (nL tF) .nil))) (nS ⟨.struct [(0,23,1),(1,24,1)],2,48,[.bE,.bE],false,none⟩ (nS ⟨.int .i64,1,8,[zI],false,none⟩ (nS ⟨.struct [(0,73,1),(1,9,1),(2,2,1),(3,9,1),(4,3,1)],5,56,[zU,.str [],zI,.str [],zI],true,none⟩ (nL tF) (nL ⟨.pointer 3,1,8,[.dw],false,none⟩)) (nS tF (nL ⟨.array 256 5,256,256,(bJ [zU] 256),false,none⟩) (nL tF))) (nS tF (nS ⟨.slice 140,1,24,[.bE],false,none⟩ (nL ⟨.struct [(0,3,1),(1,3,1)],2,16,[zI,zI],true,none⟩) .nil) (nS ⟨.slice 149,1,24,[.bE],false,none⟩ (nL tF) .nil)))) (nS ⟨.struct [(0,9,1),(1,12,1)],2,24,[.str [],.int .u64 (.lit (0))],false,none⟩ (nS ⟨.array 2 4,2,2,[.bool (.lit false),.bool (.lit false)],false,none⟩ (nS tF (nS tF (nL tF) (nL ⟨.int .u64,1,8,[.int .u64 (.lit (0))],false,none⟩)) (nS ⟨.struct [(0,26,2),(2,101,1)],3,56,[.bE,.bE,.eS],false,none⟩ (nL tF) (nL ⟨.struct [(0,229,0)],0,0,[],false,none⟩))) (nS tF (nS tF (nL tF) (nL tF)) (nO (nL ⟨.pointer 124,1,8,[.dw],false,none⟩) .nil))) (nS ⟨.int .u8,1,1,[zU],false,none⟩ (nS tF (nS ⟨.struct [(0,9,1),(1,77,1),(2,3,1)],3,48,[.str [],.bE,zI],false,none⟩ (nL tF) (nL tF)) (nS tF (nL tF) (nL ⟨.struct [(0,12,1),(1,12,1),(2,167,1),(3,232,1),(4,5,1),(5,5,1),(6,233,1),(7,234,1),(8,235,1),(9,236,1),(10,237,1)],11,48,[.int .u64 (.lit (0)),.int .u64 (.lit (0)),.int .u32 (.lit (0)),zU,zU,zU,zU,.jZ,.dw,.int .i32 (.lit (0)),.int .i32 (.lit (0))],false,none⟩))) (nS ⟨.pointer 67,1,8,[.dw],false,none⟩ (nS ⟨.struct [(0,88,1),(1,92,3),(4,3,1)],5,80,[.eS,.str [],.bE,.bE,zI],false,none⟩ (nL ⟨.int .i64,1,8,[zI],false,none⟩) (nL ⟨.array 65 5,65,65,(bJ [zU] 65),false,none⟩)) (nS tF (nL ⟨.array 2 77,2,48,[.bE,.bE],false,none⟩) .nil)))))))
noncomputable def tW:Tr Func:=(nS Tryz.f0 (nS Tryz.f1 (nS Tryz.f3 (nS Tryz.f7 (nS Tryz.f15 (nS Tryz.f31 (nS Tryz.f63 (nL Tryz.f127) .nil) (nS Tryz.f95 (nL Tryz.f159) .nil)) (nS Tryz.f47 (nS Tryz.f79 (nL Tryz.f143) .nil) (nL Tryz.f111))) (nS Tryz.f23 (nS Tryz.f39 (nS Tryz.f71 (nL Tryz.f135) .nil) (nS Tryz.f103 (nL Tryz.f167) .nil)) (nS Tryz.f55 (nS Tryz.f87 (nL Tryz.f151) .nil) (nL Tryz.f119)))) (nS Tryz.f11 (nS Tryz.f19 (nS Tryz.f35 (nS Tryz.f67 (nL Tryz.f131) .nil) (nS Tryz.f99 (nL Tryz.f163) .nil)) (nS Tryz.f51 (nS Tryz.f83 (nL Tryz.f147) .nil) (nL Tryz.f115))) (nS Tryz.f27 (nS Tryz.f43 (nS Tryz.f75 (nL Tryz.f139) .nil) (nL Tryz.f107)) (nS Tryz.f59 (nS Tryz.f91 (nL Tryz.f155) .nil) (nL Tryz.f123))))) (nS Tryz.f5 (nS Tryz.f9 (nS Tryz.f17 (nS Tryz.f33 (nS Tryz.f65 (nL Tryz.f129) .nil) (nS Tryz.f97 (nL Tryz.f161) .nil)) (nS Tryz.f49 (nS Tryz.f81 (nL Tryz.f145) .nil) (nL Tryz.f113))) (nS Tryz.f25 (nS Tryz.f41 (nS Tryz.f73 (nL Tryz.f137) .nil) (nL Tryz.f105)) (nS Tryz.f57 (nS Tryz.f89 (nL Tryz.f153) .nil) (nL Tryz.f121)))) (nS Tryz.f13 (nS Tryz.f21 (nS Tryz.f37 (nS Tryz.f69 (nL Tryz.f133) .nil) (nS Tryz.f101 (nL Tryz.f165) .nil)) (nS Tryz.f53 (nS Tryz.f85 (nL Tryz.f149) .nil) (nL Tryz.f117))) (nS Tryz.f29 (nS Tryz.f45 (nS Tryz.f77 (nL Tryz.f141) .nil) (nL Tryz.f109)) (nS Tryz.f61 (nS Tryz.f93 (nL Tryz.f157) .nil) (nL Tryz.f125)))))) (nS Tryz.f2 (nS Tryz.f4 (nS Tryz.f8 (nS Tryz.f16 (nS Tryz.f32 (nS Tryz.f64 (nL Tryz.f128) .nil) (nS Tryz.f96 (nL Tryz.f160) .nil)) (nS Tryz.f48 (nS Tryz.f80 (nL Tryz.f144) .nil) (nL Tryz.f112))) (nS Tryz.f24 (nS Tryz.f40 (nS Tryz.f72 (nL Tryz.f136) .nil) (nS Tryz.f104 (nL Tryz.f168) .nil)) (nS Tryz.f56 (nS Tryz.f88 (nL Tryz.f152) .nil) (nL Tryz.f120)))) (nS Tryz.f12 (nS Tryz.f20 (nS Tryz.f36 (nS Tryz.f68 (nL Tryz.f132) .nil) (nS Tryz.f100 (nL Tryz.f164) .nil)) (nS Tryz.f52 (nS Tryz.f84 (nL Tryz.f148) .nil) (nL Tryz.f116))) (nS Tryz.f28 (nS Tryz.f44 (nS Tryz.f76 (nL Tryz.f140) .nil) (nL Tryz.f108)) (nS Tryz.f60 (nS Tryz.f92 (nL Tryz.f156) .nil) (nL Tryz.f124))))) (nS Tryz.f6 (nS Tryz.f10 (nS Tryz.f18 (nS Tryz.f34 (nS Tryz.f66 (nL Tryz.f130) .nil) (nS Tryz.f98 (nL Tryz.f162) .nil)) (nS Tryz.f50 (nS Tryz.f82 (nL Tryz.f146) .nil) (nL Tryz.f114))) (nS Tryz.f26 (nS Tryz.f42 (nS Tryz.f74 (nL Tryz.f138) .nil) (nL Tryz.f106)) (nS Tryz.f58 (nS Tryz.f90 (nL Tryz.f154) .nil) (nL Tryz.f122)))) (nS Tryz.f14 (nS Tryz.f22 (nS Tryz.f38 (nS Tryz.f70 (nL Tryz.f134) .nil) (nS Tryz.f102 (nL Tryz.f166) .nil)) (nS Tryz.f54 (nS Tryz.f86 (nL Tryz.f150) .nil) (nL Tryz.f118))) (nS Tryz.f30 (nS Tryz.f46 (nS Tryz.f78 (nL Tryz.f142) .nil) (nL Tryz.f110)) (nS Tryz.f62 (nS Tryz.f94 (nL Tryz.f158) .nil) (nL Tryz.f126)))))))
def Hh:Tr (Tr tk):=(nO (nO (nO (nS (nO (nO .nil (nL ⟨[],0,⟨[hR 0 0 [1],A 0 0 [2],hE 3 0 [26,27],A 0 1 [],A 0 1 [],A 24 1 [29,30],hE 63 1 [28,31],A 127 2 [32],A 255 2 [33,4],A 511 2 [33,34],A 1023 2 [35],A 2047 2 [36,3],hR 4095 2 [36,37],A 8191 2 [36,38],A 16383 2 [36,39],A 32767 2 [40],hR 65535 2 [41,1],A 65535 2 [41,2],hE 262143 2 [41,42,43],A 65535 3 [41],hE 1048575 3 [41,44,45],A 2097151 4 [41,46],A 4194303 4 [47],A 8388607 4 [48,6],A 16777215 4 [48,49],A 33554431 4 [50],A 67108863 4 [51,5],A 67108863 4 [51],hE 268435455 4 [51,52,53],A 536870911 5 [51,54],A 1073741823 5 [55],hR 2147483647 5 [56,1],A 2147483647 5 [56,2],A 6442450943 5 [56,58],hE 17179869183 5 [56,57,59],hR 34359738367 6 [56,60],A 68719476735 6 [56,61],A 137438953471 6 [56,62],A 274877906943 6 [63]],6,[(0,[0]),(12,[2]),(16,[2]),(31,[5]),(35,[6])]⟩⟩)) (nO (nL ⟨[],0,⟨[hR 0 0 [1],A 0 0 [2],A 2 0 [21],hE 7 0 [20,22],A 15 1 [23],A 31 1 [19],A 31 1 [19],A 63 1 [24],A 255 1 [25]],1,[(0,[0])]⟩⟩) .nil)) (nO (nO (nO (nL (nO (nL ⟨[],0,⟨[A 0 0 [0],A 0 0 [2],A 3 0 [10,11],hR 7 0 [12],A 0 0 [0],A 0 0 [1],A 48 0 [14,15],hR 112 0 [16],hE 255 0 [13,17]],1,[(3,[0]),(7,[0])]⟩⟩) .nil)) .nil) .nil) .nil) (nO (nS (nO (nO .nil (nO (nO .nil (nL ⟨[],0,⟨[A 0 0 [],A 0 0 [7],hR 2 0 [87],A 6 0 [88],hE 1 0 [4,86],hE 31 1 [5,89]],2,[(2,[0,1])]⟩⟩)) .nil)) .nil) (nL (nO .nil (nO .nil (nO (nL ⟨[],0,⟨[A 0 0 [0],A 0 0 [9],A 0 0 [0],A 0 0 [1],A 0 0 [10],A 24 0 [50,51],A 0 0 [0],A 0 0 [1],A 0 0 [10],A 384 0 [54,55],A 960 0 [53,56],hR 1984 0 [57],A 0 0 [0],A 0 0 [9],A 12288 0 [59,60],hR 28672 0 [61],A 65475 0 [47,48],hE 131011 0 [63,58],A 262143 1 [49,52],hE 524287 1 [64,62]],2,[(11,[0]),(15,[0])]⟩⟩) .nil)))) .nil) (nO (nL (nO (nL ⟨[],0,⟨[hR 0 0 [0],A 0 0 [2],hE 3 0 [8,9]],1,[(0,[0])]⟩⟩) (nL ⟨[],0,⟨[A 0 0 [2],hR 0 0 [0],A 2 0 [12],A 6 0 [13],A 14 0 [14],hR 30 0 [15],hE 63 0 [11,16],A 127 1 [17],A 255 1 [18],A 127 1 [1],hE 639 1 [20],A 2047 2 [1],hE 4095 2 [21,19]],3,[(1,[0]),(5,[0])]⟩⟩))) .nil))) (nS (nO .nil (nO (nO (nO (nL ⟨[],0,⟨[A 0 0 [11],A 0 0 [11],A 2 0 [79],A 6 0 [80],hR 14 0 [81],A 30 0 [82],A 62 0 [83,11],A 126 0 [83,84],A 254 0 [83,85],hR 510 0 [83,86],A 62 0 [83,8],hR 1086 0 [83,88],A 4094 0 [83,87,89],A 8190 0 [83,90],A 16383 0 [78],A 32767 0 [92],hE 65535 0 [93,91]],1,[(4,[0]),(9,[0]),(11,[0])]⟩⟩) .nil) .nil) .nil)) (nO (nO (nL (nO (nL ⟨[],0,⟨[A 0 0 [0],A 1 0 [5],A 3 0 [6],A 7 0 [7],hR 15 0 [8],A 0 0 [3],hR 32 0 [10],A 127 0 [9,11],hR 255 0 [12],A 0 0 [],hE 1023 0 [4,13]],1,[(4,[0]),(6,[0]),(8,[0])]⟩⟩) .nil)) .nil) (nS (nO (nL ⟨[],0,⟨[A 0 0 [0],A 1 0 [9],A 3 0 [10],hR 7 0 [11],A 0 0 [3],hR 16 0 [13],hR 63 0 [12,14],A 127 0 [15],A 255 0 [8],A 255 0 [8],A 511 0 [16],A 2047 0 [17]],0,[(3,[0]),(5,[0]),(6,[0])]⟩⟩) .nil) (nL (nO (nL ⟨[],0,⟨[A 0 0 [0],A 0 0 [1],A 0 0 [2],A 6 0 [11,12],A 1 0 [10],A 31 0 [14,13],hR 63 0 [15],A 127 0 [16]],0,[(6,[0])]⟩⟩) (nO (nO (nL ⟨[],0,⟨[A 0 0 [8],A 0 0 [1],hR 2 0 [39],A 7 0 [38,40],A 15 0 [41],A 31 0 [42,0],A 31 0 [42,1],A 31 0 [42,8],A 223 0 [42,44,45],A 63 0 [42,43],A 1023 0 [42,47,46],hR 2047 0 [42,48],A 4095 0 [42,49],A 8191 0 [42,50],A 16383 0 [51,0],A 16383 0 [51,1],A 16383 0 [51,8],A 114687 0 [51,53,54],A 32767 0 [51,52],A 524287 0 [51,56,55],hR 1048575 0 [51,57],A 2097151 0 [51,58],A 4194303 0 [51,59],A 8388607 0 [60,7],A 16777215 0 [60,61],A 33554431 0 [51,60,62],A 67108863 0 [42,51,63],A 134217727 0 [42,64]],0,[(2,[0]),(11,[0]),(20,[0])]⟩⟩) .nil) .nil))) .nil)) (nO .nil (nO .nil (nL (nO (nO .nil (nO (nL ⟨[],0,⟨[A 0 0 [1],hR 1 0 [43],A 3 0 [44],A 7 0 [45],A 15 0 [46,3],A 31 0 [46,47],A 63 0 [46,48],A 127 0 [49],A 255 0 [50,3],A 511 0 [50,51],A 1023 0 [50,52],A 2047 0 [53],A 4095 0 [54,3],A 8191 0 [54,55],A 16383 0 [54,4,56],hR 32767 0 [54,57],A 4095 0 [54,1],hR 69631 0 [54,59],hE 262143 0 [54,58,60],A 524287 1 [54,61],A 1048575 1 [62]],1,[(1,[0]),(15,[0]),(17,[0])]⟩⟩) .nil)) .nil)))))) (nO (nS (nO (nO (nL ⟨[],0,⟨[A 0 0 [],hR 0 0 [4],hE 1 0 [2,17],hE 7 1 [3,18]],2,[(1,[0,1])]⟩⟩) (nO .nil (nO (nL ⟨[],0,⟨[A 0 0 [5],hR 1 0 [78],A 0 0 [11],A 4 0 [80],A 12 0 [81],hR 28 0 [82],A 60 0 [83],hE 127 0 [79,84],A 255 1 [5],hE 511 1 [86,85]],2,[(1,[0]),(5,[0])]⟩⟩) .nil))) .nil) (nO (nO .nil (nL (nL ⟨[],0,⟨[hR 0 0 [0],A 1 0 [2],A 3 0 [3],A 7 0 [4],hR 15 0 [5],hR 0 0 [1],hR 0 0 [0],hE 64 0 [8],A 255 1 [6,7],A 511 1 [10],hE 1023 1 [11,9]],2,[(0,[0,1]),(4,[0,1]),(5,[0,1]),(6,[0])]⟩⟩))) (nO (nL (nO .nil (nL ⟨[],0,⟨[A 0 0 [0],A 0 0 [1],A 0 0 [2],A 6 0 [13,14],A 1 0 [12],A 31 0 [16,15],hR 63 0 [17]],0,[(6,[0])]⟩⟩))) .nil)) (nO (nO (nL (nO (nO (nL ⟨[],0,⟨[A 0 0 [0],A 0 0 [6],A 0 0 [0],A 0 0 [7],A 0 0 [0],A 0 0 [7],A 48 0 [18,19],hR 112 0 [20],A 0 0 [0],A 0 0 [6],A 768 0 [22,23],hR 1792 0 [24],A 4083 0 [14,15],hE 8179 0 [26,21],A 16383 1 [16,17],hE 32767 1 [27,25]],2,[(7,[0]),(11,[0])]⟩⟩) .nil) .nil)) .nil) (nS (nO .nil (nL ⟨[],0,⟨[hR 0 0 [2],hR 0 0 [2],A 2 0 [9],A 6 0 [10],A 14 0 [11],hR 30 0 [12],hR 0 0 [3],A 64 0 [14],hE 254 0 [13,15],A 511 1 [8],A 1023 1 [17],A 2047 1 [18],hE 4095 1 [19,16]],2,[(0,[0,1]),(1,[0]),(5,[0]),(6,[0])]⟩⟩)) (nL (nO .nil (nO (nL ⟨[],9,⟨[A 0 0 [1],A 1 0 [23],A 3 0 [24],hR 7 0 [25],A 0 0 [0],hE 16 0 [27],hR 15 1 [26],A 0 1 [],hE 255 1 [26,30]],2,[(3,[0,1]),(6,[0,1])]⟩⟩) .nil))) .nil))) (nO (nS (nO .nil (nL ⟨[],0,⟨[A 0 0 [0],A 1 0 [6],A 3 0 [7],A 7 0 [8],hR 15 0 [9],A 0 0 [3],A 0 0 [0],A 64 0 [12],A 192 0 [13],A 448 0 [14],hR 960 0 [15],hE 2016 0 [11,16],A 4064 1 [17],A 8160 1 [18],A 16383 1 [10,19],A 0 1 [],hE 65535 1 [4,20]],2,[(4,[0,1]),(10,[0])]⟩⟩)) (nS (nO (nO .nil (nO (nO (nL ⟨[],0,⟨[A 0 0 [1],A 1 0 [73],A 3 0 [74],A 7 0 [75,0],A 7 0 [75,1],A 23 0 [75,77],A 63 0 [75,76,78],hR 127 0 [75,79],A 7 0 [75,0],A 7 0 [75,11],A 775 0 [75,81,82],hR 1799 0 [75,83],hE 4095 0 [75,80,84],A 8191 1 [75,85],A 16383 1 [75,86]],1,[(7,[0]),(11,[0])]⟩⟩) .nil) .nil)) .nil) (nL (nO .nil (nO (nL ⟨[],0,⟨[A 0 0 [7],A 0 0 [1],A 3 0 [16,17],A 7 0 [18],A 15 0 [19,0],A 15 0 [19,7],A 63 0 [19,20,21],hR 127 0 [19,22],A 15 0 [19,0],A 15 0 [19,7],A 527 0 [19,25],A 1807 0 [19,24,26],hR 3855 0 [19,27],hE 8191 0 [19,23,28],A 16383 1 [19,29]],1,[(7,[0]),(12,[0])]⟩⟩) (nL ⟨[],0,⟨[A 0 0 [0],A 0 0 [7],A 0 0 [0],A 0 0 [7],A 8 0 [36],A 0 0 [0],A 0 0 [7],A 64 0 [39],A 224 0 [38,40],hR 480 0 [41],A 0 0 [0],A 0 0 [7],A 3072 0 [43,44],hR 7168 0 [45],A 16355 0 [33,34],hE 32739 0 [47,42],A 65535 1 [35,37],hE 131071 1 [48,46]],2,[(9,[0]),(13,[0])]⟩⟩)))) (nL (nO (nO (nO (nO (nL ⟨[],0,⟨[A 0 0 [9],A 1 0 [61],A 3 0 [62],A 7 0 [63,4],hR 15 0 [63,64],A 31 0 [63,65],A 63 0 [63,66],A 127 0 [67],A 255 0 [68,4],hR 511 0 [68,69],A 255 0 [68,0],A 1279 0 [68,71],A 3327 0 [68,72],hR 7423 0 [68,73],A 16383 0 [68,70,74],A 32767 0 [68,75],A 65535 0 [76],A 131071 0 [77,4],hR 262143 0 [77,78],A 524287 0 [77,79],A 1048575 0 [77,80],A 2097151 0 [77,81],hE 4194303 0 [77,82],A 8388607 1 [77,83],A 16777215 1 [84]],1,[(4,[0]),(9,[0]),(13,[0]),(18,[0])]⟩⟩) .nil) .nil) .nil) .nil))) (nL (nO (nO .nil (nL ⟨[],0,⟨[A 0 0 [5],hR 1 0 [13],hE 3 0 [14],A 0 1 [5],hR 8 1 [16],hE 31 1 [17],A 63 2 [15,18],A 127 2 [19]],2,[(1,[0]),(4,[0,1])]⟩⟩)) .nil))) (nO (nO (nL (nO (nS ⟨[],0,⟨[A 0 0 [0],A 0 0 [1],A 0 0 [0],A 0 0 [3],A 0 0 [0],A 0 0 [3],A 48 0 [16,17],hR 112 0 [18],A 0 0 [0],A 0 0 [1],A 768 0 [20,21],hR 1792 0 [22],A 4083 0 [12,13],hE 8179 0 [24,19],A 16383 1 [14,15],hE 32767 1 [25,23]],2,[(7,[0]),(11,[0])]⟩⟩ (nS ⟨[],0,⟨[A 0 0 [10],A 0 0 [11],A 3 0 [30,31],A 7 0 [32],A 15 0 [33,0],A 15 0 [33,10],A 63 0 [33,34,35],hR 127 0 [33,36],A 15 0 [33,0],A 15 0 [33,1],A 783 0 [33,38,39],hR 1807 0 [33,40],hE 4095 0 [33,37,41],A 8191 1 [33,42]],1,[(7,[0]),(11,[0])]⟩⟩ (nO (nL ⟨[],0,⟨[A 0 0 [10],A 0 0 [11],A 3 0 [115,116],A 7 0 [117],A 15 0 [118,0],A 15 0 [118,11],A 63 0 [118,119,120],hR 127 0 [118,121],A 15 0 [118,0],A 15 0 [118,1],A 783 0 [118,123,124],hR 1807 0 [118,125],hE 4095 0 [118,122,126],A 8191 1 [118,127],A 16383 1 [118,128]],1,[(7,[0]),(11,[0])]⟩⟩) .nil) .nil) (nS ⟨[],0,⟨[A 0 0 [10],A 0 0 [11],A 3 0 [46,47],A 7 0 [48],A 15 0 [49,0],A 15 0 [49,11],A 63 0 [49,50,51],hR 127 0 [49,52],A 15 0 [49,0],A 15 0 [49,1],A 783 0 [49,54,55],hR 1807 0 [49,56],hE 4095 0 [49,53,57],A 8191 1 [49,58],A 16383 1 [49,59]],1,[(7,[0]),(11,[0])]⟩⟩ .nil (nS ⟨[],0,⟨[A 0 0 [10],A 0 0 [11],A 3 0 [99,100],A 7 0 [101],A 15 0 [102,0],A 15 0 [102,10],A 63 0 [102,103,104],hR 127 0 [102,105],A 15 0 [102,0],A 15 0 [102,1],A 783 0 [102,107,108],hR 1807 0 [102,109],hE 4095 0 [102,106,110],A 8191 1 [102,111]],1,[(7,[0]),(11,[0])]⟩⟩ (nL ⟨[],0,⟨[A 0 0 [0],A 0 0 [11],A 0 0 [0],A 0 0 [1],A 0 0 [0],A 0 0 [1],A 48 0 [157,158],hR 112 0 [159],A 0 0 [0],A 0 0 [11],A 768 0 [161,162],hR 1792 0 [163],A 4083 0 [153,154],hE 8179 0 [165,160],A 16383 1 [155,156],hE 32767 1 [166,164]],2,[(7,[0]),(11,[0])]⟩⟩) .nil))) (nO (nO (nL ⟨[],0,⟨[A 0 0 [0],A 0 0 [11],A 0 0 [0],A 0 0 [1],A 0 0 [0],A 0 0 [1],A 48 0 [70,71],hR 112 0 [72],A 0 0 [0],A 0 0 [11],A 768 0 [74,75],hR 1792 0 [76],A 4083 0 [66,67],hE 8179 0 [78,73],A 16383 1 [68,69],hE 32767 1 [79,77]],2,[(7,[0]),(11,[0])]⟩⟩) .nil) (nO (nS ⟨[],0,⟨[A 0 0 [0],A 0 0 [10],A 0 0 [0],A 0 0 [11],A 0 0 [0],A 0 0 [11],A 48 0 [85,86],hR 112 0 [87],A 0 0 [0],A 0 0 [10],A 768 0 [89,90],hR 1792 0 [91],A 4083 0 [81,82],hE 8179 0 [93,88],A 16383 1 [83,84],hE 32767 1 [94,92]],2,[(7,[0]),(11,[0])]⟩⟩ (nL ⟨[],0,⟨[A 0 0 [0],A 0 0 [10],A 0 0 [0],A 0 0 [11],A 0 0 [0],A 0 0 [11],A 48 0 [139,140],hR 112 0 [141],A 0 0 [0],A 0 0 [10],A 768 0 [143,144],hR 1792 0 [145],A 4083 0 [135,136],hE 8179 0 [147,142],A 16383 1 [137,138],hE 32767 1 [148,146]],2,[(7,[0]),(11,[0])]⟩⟩) .nil) .nil)))) .nil) (nO (nL (nO .nil (nO (nL ⟨[],0,⟨[A 0 0 [1],hR 1 0 [15],A 3 0 [16],A 7 0 [17],A 15 0 [18,1],hR 31 0 [18,19],A 63 0 [18,20],A 127 0 [18,21],A 255 0 [22],A 511 0 [23,1],hR 1023 0 [23,24],hE 2047 0 [23,25],A 4095 1 [23,26],A 8191 1 [23,27],A 16383 1 [28],A 32767 1 [29,1],hR 65535 1 [29,30],A 131071 1 [29,31],A 262143 1 [29,32],A 524287 1 [33],A 1048575 1 [34,1],hR 2097151 1 [34,35],hR 4194303 1 [34,36],A 1048575 1 [34,1],hR 9437183 1 [34,38],hE 26214399 1 [34,39],A 67108863 2 [34,37,40],A 134217727 2 [34,41],A 268435455 2 [42],A 536870911 2 [43,1],hR 1073741823 2 [43,44],hR 2147483647 2 [43,45],A 4294967295 2 [43,46],A 8589934591 2 [43,47],A 17179869183 2 [48],A 34359738367 2 [49,3],A 68719476735 2 [49,50],A 137438953471 2 [49,51],A 274877906943 2 [52,1],hR 549755813887 2 [52,53],A 1099511627775 2 [52,54],A 2199023255551 2 [49,52,55],A 4398046511103 2 [49,56]],2,[(1,[0]),(5,[0]),(10,[0]),(16,[1]),(21,[1,2]),(22,[1,2]),(24,[1]),(30,[2]),(31,[2]),(39,[2])]⟩⟩) .nil))) (nL (nO .nil (nO (nL ⟨[],0,⟨[A 0 0 [6],hR 1 0 [13],A 3 0 [14],A 7 0 [15],A 15 0 [16,0],A 31 0 [16,17],A 63 0 [16,18],hR 127 0 [16,19],A 15 0 [16,6],hR 271 0 [16,21],hR 1023 0 [16,20,22],A 2047 0 [16,23],A 4095 0 [16,24],A 8191 0 [25],A 16383 0 [26,0],A 16383 0 [26,6],hR 49151 0 [26,28],hE 131071 0 [26,27,29],A 262143 1 [26,30],A 524287 1 [26,31]],1,[(1,[0]),(7,[0]),(9,[0]),(10,[0]),(16,[0])]⟩⟩) .nil)))))))) (nO (nO (nS (nO (nO (nO (nL ⟨[],0,⟨[A 0 0 [5],hR 1 0 [27],A 0 0 [4],hE 4 0 [29],A 12 1 [30],hE 31 1 [28,31],A 63 2 [5],hE 127 2 [33,32]],3,[(1,[0,1])]⟩⟩) .nil) .nil) (nO .nil (nO .nil (nL ⟨[],0,⟨[A 0 0 [],A 0 0 [4],A 2 0 [58],A 6 0 [59],hR 14 0 [60],hE 1 0 [2,57],hE 63 1 [3,61]],2,[(4,[0,1])]⟩⟩)))) (nS (nO (nO (nL ⟨[],0,⟨[A 0 0 [6],A 0 0 [0],hR 2 0 [8],A 7 0 [7,9],A 15 0 [10],A 31 0 [11,6],A 31 0 [11,1],hR 95 0 [11,13],A 255 0 [11,12,14],A 511 0 [11,15],A 1023 0 [16],A 2047 0 [17,0],A 2047 0 [17,6],A 8191 0 [17,18,19],hR 16383 0 [17,20],A 2047 0 [17,1],A 2047 0 [17,6],A 100351 0 [17,22,23],hR 231423 0 [17,24],A 524287 0 [17,21,25],A 1048575 0 [17,26]],0,[(2,[0]),(7,[0]),(14,[0]),(18,[0])]⟩⟩) .nil) .nil) (nO .nil (nL (nO .nil (nS ⟨[],0,⟨[A 0 0 [0],A 0 0 [3],hR 2 0 [10],A 0 0 [3],hR 8 0 [12],hE 24 0 [13],hE 63 1 [9,11,14],A 127 2 [15]],2,[(2,[0,1]),(4,[0])]⟩⟩ (nO (nL ⟨[],0,⟨[A 0 0 [0],A 1 0 [27],A 3 0 [28],hR 7 0 [29],A 0 0 [3],hR 16 0 [31],hE 63 0 [30,32]],1,[(3,[0]),(5,[0])]⟩⟩) .nil) .nil)))) .nil) .nil) (nO (nO (nL (nO (nL ⟨[],0,⟨[A 0 0 [0],A 1 0 [4],A 3 0 [5],A 7 0 [6],hR 15 0 [7],A 0 0 [3],hR 32 0 [9],A 127 0 [8,10],A 255 0 [11],hR 511 0 [12]],0,[(4,[0]),(6,[0]),(9,[0])]⟩⟩) .nil)) .nil) (nO (nO (nL (nO (nS ⟨[],0,⟨[A 0 0 [0],A 0 0 [1],A 0 0 [0],A 0 0 [3],A 0 0 [0],A 0 0 [3],A 48 0 [15,16],hR 112 0 [17],A 0 0 [0],A 0 0 [1],A 768 0 [19,20],hR 1792 0 [21],A 4083 0 [11,12],hE 8179 0 [23,18],A 16383 1 [13,14],hE 32767 1 [24,22]],2,[(7,[0]),(11,[0])]⟩⟩ (nL ⟨[],0,⟨[A 0 0 [9],A 0 0 [10],A 3 0 [29,30],A 7 0 [31],A 15 0 [32,0],A 15 0 [32,1],A 63 0 [32,33,34],hR 127 0 [32,35],A 15 0 [32,0],A 15 0 [32,9],A 783 0 [32,37,38],hR 1807 0 [32,39],hE 4095 0 [32,36,40],A 8191 1 [32,41],A 16383 1 [32,42]],1,[(7,[0]),(11,[0])]⟩⟩) (nL ⟨[],0,⟨[A 0 0 [9],A 0 0 [10],A 3 0 [46,47],A 7 0 [48],A 15 0 [49,0],A 15 0 [49,1],A 63 0 [49,50,51],hR 127 0 [49,52],A 15 0 [49,0],A 15 0 [49,10],A 783 0 [49,54,55],hR 1807 0 [49,56],hE 4095 0 [49,53,57],A 8191 1 [49,58]],1,[(7,[0]),(11,[0])]⟩⟩)) (nO (nO (nL ⟨[],0,⟨[A 0 0 [0],A 0 0 [9],A 0 0 [0],A 0 0 [10],A 0 0 [0],A 0 0 [10],A 48 0 [69,70],hR 112 0 [71],A 0 0 [0],A 0 0 [9],A 768 0 [73,74],hR 1792 0 [75],A 4083 0 [65,66],hE 8179 0 [77,72],A 16383 1 [67,68],hE 32767 1 [78,76]],2,[(7,[0]),(11,[0])]⟩⟩) .nil) .nil))) (nL (nO (nO (nL ⟨[],0,⟨[A 0 0 [9],A 1 0 [17],A 0 0 [2],A 7 0 [18,19],A 15 0 [20],A 31 0 [21,0],A 31 0 [21,3],A 31 0 [21,9],A 223 0 [21,23,24],A 511 0 [21,22,25],hR 1023 0 [21,26],A 31 0 [21,0],A 31 0 [21,3],A 31 0 [21,9],A 12319 0 [21,29,30],A 28703 0 [21,31],A 63519 0 [21,28,32],hR 129055 0 [21,33],hE 262143 0 [21,27,34],A 524287 1 [21,35]],1,[(10,[0]),(17,[0])]⟩⟩) (nL ⟨[],0,⟨[A 0 0 [0],A 0 0 [3],A 0 0 [8],A 6 0 [40,41],A 15 0 [39,42],hR 31 0 [43],A 0 0 [0],A 0 0 [3],A 0 0 [9],A 384 0 [46,47],A 960 0 [45,48],hR 1984 0 [49],hE 4095 0 [44,50],A 8191 1 [51]],1,[(5,[0]),(11,[0])]⟩⟩)) (nO .nil (nL ⟨[],0,⟨[A 0 0 [0],A 0 0 [3],A 0 0 [8],A 6 0 [54,55],A 0 0 [0],A 0 0 [3],A 0 0 [9],A 96 0 [58,59],A 0 0 [0],A 0 0 [3],A 0 0 [9],A 1536 0 [62,63],A 3840 0 [61,64],hR 7936 0 [65],A 0 0 [0],A 0 0 [3],A 0 0 [8],A 98304 0 [68,69],A 245760 0 [67,70],hR 507904 0 [71],A 1048335 0 [53,56],hE 2096911 0 [73,66],A 4194303 1 [57,60],hE 8388607 1 [74,72]],2,[(13,[0]),(19,[0])]⟩⟩))))) (nL (nO .nil (nO .nil (nL ⟨[],0,⟨[A 0 0 [9],A 1 0 [47],A 3 0 [48,3],hR 7 0 [48,49],A 3 0 [48,5],hR 19 0 [48,51],A 63 0 [48,50,52],A 127 0 [48,53],hR 255 0 [48,54],hR 3 0 [48,5],A 3 0 [48,7],hE 2047 0 [48,55,56,57],A 4095 1 [48,58],A 8191 1 [59],A 16383 1 [60,5],hR 32767 1 [60,61],A 65535 1 [60,62],A 131071 1 [60,63],A 262143 1 [64,8],A 524287 1 [60,64,65],A 1048575 1 [60,66],A 2097151 1 [67]],1,[(3,[0]),(5,[0]),(8,[0]),(9,[0]),(15,[1])]⟩⟩))))))) (nO (nO (nO (nO (nO (nL (nO (nO .nil (nL ⟨[],0,⟨[A 0 0 [6],hR 0 0 [5],hR 0 0 [0],hE 4 0 [21],A 14 1 [20,22],A 31 1 [19,23],hE 63 1 [5,24]],2,[(1,[0,1]),(2,[0])]⟩⟩)) .nil)) .nil) .nil) .nil) (nS (nO .nil (nO .nil (nO (nL ⟨[],0,⟨[A 0 0 [3],A 1 0 [34],A 3 0 [35],hR 7 0 [36],A 0 0 [5],hR 16 0 [38],A 0 0 [5],hR 64 0 [40],hE 255 0 [37,39,41]],1,[(3,[0]),(5,[0]),(7,[0])]⟩⟩) .nil))) (nO (nL (nO (nO (nO (nO .nil (nL ⟨[],0,⟨[A 0 0 [0],A 0 0 [10],A 0 0 [0],A 0 0 [10],A 8 0 [120],A 0 0 [0],A 0 0 [10],A 64 0 [123],A 224 0 [122,124],hR 480 0 [125],A 0 0 [0],A 0 0 [10],A 3072 0 [127,128],hR 7168 0 [129],A 16355 0 [117,118],hE 32739 0 [131,126],A 65535 1 [119,121],hE 131071 1 [132,130]],2,[(9,[0]),(13,[0])]⟩⟩)) (nL ⟨[],0,⟨[A 0 0 [0],A 0 0 [7],A 0 0 [0],A 0 0 [7],A 8 0 [45],A 0 0 [0],A 0 0 [7],A 64 0 [48],A 224 0 [47,49],hR 480 0 [50],A 0 0 [0],A 0 0 [7],A 3072 0 [52,53],hR 7168 0 [54],A 16355 0 [42,43],hE 32739 0 [56,51],A 65535 1 [44,46],hE 131071 1 [57,55]],2,[(9,[0]),(13,[0])]⟩⟩)) (nS ⟨[],0,⟨[A 0 0 [7],A 0 0 [2],A 3 0 [17,18],A 7 0 [19],A 15 0 [20,0],A 15 0 [20,7],A 63 0 [20,21,22],hR 127 0 [20,23],A 15 0 [20,0],A 15 0 [20,7],A 527 0 [20,26],A 1807 0 [20,25,27],hR 3855 0 [20,28],hE 8191 0 [20,24,29],A 16383 1 [20,30],A 32767 1 [20,31]],1,[(7,[0]),(12,[0])]⟩⟩ (nO (nL ⟨[],0,⟨[A 0 0 [0],A 0 0 [9],A 0 0 [0],A 0 0 [9],A 8 0 [82],A 0 0 [0],A 0 0 [9],A 64 0 [85],A 224 0 [84,86],hR 480 0 [87],A 0 0 [0],A 0 0 [9],A 3072 0 [89,90],hR 7168 0 [91],A 16355 0 [79,80],hE 32739 0 [93,88],A 65535 1 [81,83],hE 131071 1 [94,92]],2,[(9,[0]),(13,[0])]⟩⟩) .nil) .nil)) (nO (nO (nO (nL ⟨[],0,⟨[A 0 0 [0],A 0 0 [9],A 3 0 [68,69],hR 7 0 [70],A 0 0 [0],A 0 0 [9],A 32 0 [73],A 112 0 [72,74],hR 240 0 [75],hE 511 0 [71,76],A 1023 1 [77]],1,[(3,[0]),(8,[0])]⟩⟩) .nil) .nil) (nO .nil (nO (nL ⟨[],0,⟨[A 0 0 [0],A 0 0 [10],A 3 0 [106,107],hR 7 0 [108],A 0 0 [0],A 0 0 [10],A 32 0 [111],A 112 0 [110,112],hR 240 0 [113],hE 511 0 [109,114],A 1023 1 [115]],1,[(3,[0]),(8,[0])]⟩⟩) .nil))))) .nil) .nil)) (nS (nO .nil (nO .nil (nL ⟨[],0,⟨[A 0 0 [0],A 0 0 [5],A 3 0 [16,17],hR 7 0 [18],A 0 0 [1],A 0 0 [5],A 48 0 [20,21],hR 112 0 [22],hE 255 0 [19,23],A 511 1 [24]],1,[(3,[0]),(7,[0])]⟩⟩))) (nO (nO (nL (nO .nil (nO .nil (nO (nL ⟨[],0,⟨[A 0 0 [0],A 0 0 [6],A 0 0 [0],A 0 0 [6],A 0 0 [10],A 24 0 [36,37],A 0 0 [0],A 0 0 [6],A 0 0 [10],A 384 0 [40,41],A 960 0 [39,42],hR 1984 0 [43],A 0 0 [0],A 0 0 [6],A 12288 0 [45,46],hR 28672 0 [47],A 65475 0 [33,34],hE 131011 0 [49,44],A 262143 1 [35,38],hE 524287 1 [50,48]],2,[(11,[0]),(15,[0])]⟩⟩) .nil)))) (nL (nO (nO .nil (nL ⟨[],0,⟨[A 0 0 [0],A 1 0 [29],A 3 0 [30],hR 7 0 [31],hR 0 0 [8],A 0 0 [9],hE 63 0 [32,33,34]],1,[(3,[0]),(4,[0])]⟩⟩)) (nS ⟨[],0,⟨[A 0 0 [3],A 0 0 [0],A 2 0 [15],A 6 0 [16],hR 14 0 [17],hR 0 0 [8],hR 62 0 [18,19],hE 127 0 [14,20],A 255 1 [21]],1,[(4,[0]),(5,[0]),(6,[0])]⟩⟩ (nL ⟨[],0,⟨[A 0 0 [0],A 1 0 [24],A 3 0 [25],hR 7 0 [26],hR 0 0 [8],hE 31 0 [27,28]],1,[(3,[0]),(4,[0])]⟩⟩) .nil)))) (nL (nO (nL ⟨[],0,⟨[A 0 0 [3],hR 1 0 [6],A 0 0 [0],A 4 0 [8],A 12 0 [9],hR 28 0 [10],A 0 0 [3],hR 64 0 [12],hR 252 0 [11,13],A 0 0 [0],A 0 0 [3],hR 1024 0 [16],hE 3584 0 [15,17],A 8191 1 [7,14,18],A 0 1 [],hE 32767 1 [4,19]],2,[(1,[0,1]),(5,[0,1]),(7,[0,1]),(8,[0,1]),(11,[0])]⟩⟩) .nil))) (nS (nO .nil (nO .nil (nO .nil (nL ⟨[],0,⟨[hR 0 0 [1],hR 0 0 [7],A 0 0 [7],hR 4 0 [67],A 0 0 [8],A 28 0 [68,69],hR 60 0 [70],hE 127 0 [65,66,71],A 255 1 [72],A 511 1 [73],A 1023 1 [74,7],hR 2047 1 [74,75],A 1023 1 [74,8],A 8191 1 [74,76,77],A 16383 1 [74,78],hR 32767 1 [74,79],A 1023 1 [74,7],hE 131071 1 [74,80,81],A 262143 2 [74,82],A 524287 2 [83]],2,[(0,[0]),(1,[0]),(3,[0]),(6,[0]),(11,[1]),(15,[1])]⟩⟩)))) (nO .nil (nL (nO (nS ⟨[],0,⟨[A 0 0 [0],A 1 0 [3],hR 3 0 [4],A 0 0 [0],A 8 0 [6],hR 24 0 [7],A 56 0 [8],A 127 0 [5,9],A 255 0 [3],hE 511 0 [11,10]],1,[(2,[0]),(5,[0])]⟩⟩ (nL ⟨[],0,⟨[A 0 0 [0],A 1 0 [21],hR 3 0 [22],A 0 0 [0],A 8 0 [24],hR 24 0 [25],A 56 0 [26],A 127 0 [23,27],A 255 0 [21],hE 511 0 [29,28]],1,[(2,[0]),(5,[0])]⟩⟩) .nil) (nL ⟨[],0,⟨[A 0 0 [0],A 1 0 [12],hR 3 0 [13],A 0 0 [0],A 8 0 [15],hR 24 0 [16],A 56 0 [17],A 127 0 [14,18],A 255 0 [12],hE 511 0 [20,19]],1,[(2,[0]),(5,[0])]⟩⟩)))) .nil)))))
end Go.As.Try
end
section
namespace Go.As.Try
open Go Go.As Go.Proofs
set_option maxRecDepth 100000
theorem AO:(List.range 241).map F2.get=(List.range 241).map (CG Tryz.prog):=aa
theorem vU:(List.range 169).map tW.get=(List.range 169).map (fun g=>Tryz.prog.funcs[g]?):=aa
theorem BM:(List.range 169).all (fun g=>match tW.get g with |some f=>EL (x8 (Dd 241 F2) (K1 Hh) g) f|none=>true)=true:=aa
theorem mixed:Tryz.prog.follows .mixedOrders=true:=aa
end Go.As.Try
namespace Go.Proofs
open Go.Shelf
def Tryz.laysM144_ren:Go.Shelf.Ren:=⟨fun|144=>85|143=>117|219=>129|217=>128|225=>137|224=>138|267=>139|266=>136|314=>144|n=>n,fun|9=>9|4=>4|3=>3|5=>5|46=>111|146=>223|51=>167|n=>n,fun|1=>0|n=>n⟩
theorem Tryz.laysM144:Go.Proofs.LaysM.n144 Tryz.prog Tryz.laysM144_ren where
 mixed:=aa
 f143:=Tryz.func117.trans (congrArg some aa)
 f144:=Tryz.func85.trans (congrArg some aa)
 f217:=Tryz.func128.trans (congrArg some aa)
 f219:=Tryz.func129.trans (congrArg some aa)
 f224:=Tryz.func138.trans (congrArg some aa)
 f225:=Tryz.func137.trans (congrArg some aa)
 f266:=Tryz.func136.trans (congrArg some aa)
 f267:=Tryz.func139.trans (congrArg some aa)
 f314:=Tryz.func144.trans (congrArg some aa)
 t3:=Tryz.underlying3
 a3:=Tryz.isAgg3
 z3:=Tryz.sizeOf3
 v3:=Tryz.zeroValue3
 t4:=Tryz.underlying4
 a4:=Tryz.isAgg4
 z4:=Tryz.sizeOf4
 v4:=Tryz.zeroValue4
 t5:=Tryz.underlying5
 a5:=Tryz.isAgg5
 z5:=Tryz.sizeOf5
 v5:=Tryz.zeroValue5
 t9:=Tryz.underlying9
 a9:=Tryz.isAgg9
 z9:=Tryz.sizeOf9
 v9:=Tryz.zeroValue9
 t46:=Tryz.underlying111
 a46:=Tryz.isAgg111
 z46:=Tryz.sizeOf111
 v46:=Tryz.zeroValue111
 t51:=Tryz.underlying167
 a51:=Tryz.isAgg167
 z51:=Tryz.sizeOf167
 v51:=Tryz.zeroValue167
 t146:=Tryz.underlying223
 a146:=Tryz.isAgg223
 z146:=Tryz.sizeOf223
 v146:=Tryz.zeroValue223
 g1:=aa
 i3:=aa
 i4:=aa
 i5:=aa
 i9:=aa
 i46:=aa
 i51:=aa
 i146:=aa
 m1:=aa
 s1_3:=fun w h=>Go.Proofs.cell_of_shapedOpen_int (zero:=#[.int .i64 0]) (t:=3) h (of_decide_eq_true aa) aa rfl aa aa Tryz.underlying3
end Go.Proofs
end
section
namespace Go.As
noncomputable section
open Go.RowKit
def ji:List Z->St->T (Z×St):=fun args s=>match args with
 |[.dW e,.int .u8 (.lit (.ofNat c))]=>if c<256 then .ret (.int .i64 (.op .Kj e (.lit (Int.ofNat c))),s) else .fail
 |args=>nT args s
def jh:List Z->St->T (Z×St):=fun args s=>match args with
 |[.dW e,.int .u8 (.lit (.ofNat c))]=>if c<256 then .ret (.int .i64 (.op .idx e (.lit (Int.ofNat c))),s) else .fail
 |args=>nR args s
def fN:List Z->St->T (Z×St):=fun args s=>match args with
 |[.str b,.dW e]=>if b.length<4294967281 then .ret (.bool (.not (.eq (.op .Ki (.cE (eD b)) e) (.lit 0))),s) else .fail
 |args=>jk args s
theorem zo {x:UInt8} {c:Nat} (B:c<256):(D.i (x.toNat:Int)= .i (c:Int))↔x=UInt8.ofNat c:=by
 simp only [D.i.injEq,aaM];constructor
 ·intro h;rw [<- h];simp
 ·intro h;rw [h,aad];omega
theorem zq {c:Nat} (B:c<256): ∀l:List UInt8,(Lib.countByte l (UInt8.ofNat c):Int)=DF (l.map fun b=> .i (b.toNat:Int)) (c:Int)
 |[]=>rfl
 |x::xs=>by
  have ih:=zq B xs;unfold Lib.countByte at *;rw [List.count_cons,au];simp only [DF];rw [<- ih];by_cases h:x=UInt8.ofNat c
  ·rw [ak ((zo B).2 h),ak (by simpa using h)];omega
  ·rw [ah (fun q=>h ((zo B).1 q)),ah (by simpa using h)];omega
theorem wy {c:Nat} (B:c<256): ∀(l:List UInt8) (i:Nat),(Lib.indexByte l (UInt8.ofNat c)= -1->rm (c:Int) (l.map fun b=> .i (b.toNat:Int)) (i:Int)= -1)/\(Lib.indexByte l (UInt8.ofNat c)≠-1->rm (c:Int) (l.map fun b=> .i (b.toNat:Int)) (i:Int)=(i:Int)+Lib.indexByte l (UInt8.ofNat c))
 |[],i=> ⟨fun _=>rfl,fun h=>absurd rfl h⟩
 |x::xs,i=>by
  obtain⟨Kz,I5⟩:=wy B xs (i+1);have Cv:=Lib.indexByte_ge xs (UInt8.ofNat c);have HQ:(((i+1:Nat):Int))=(i:Int)+1:=J
  rw [HQ] at Kz I5
  have key:Lib.indexByte (x::xs) (UInt8.ofNat c)=if x=UInt8.ofNat c then 0 else if Lib.indexByte xs (UInt8.ofNat c)= -1 then -1 else Lib.indexByte xs (UInt8.ofNat c)+1:=by simp only [Lib.indexByte,beq_iff_eq]
  have GZ:rm (c:Int) ((x::xs).map fun b=> .i (b.toNat:Int)) (i:Int)=if (x.toNat:Int)=(c:Int) then (i:Int) else rm (c:Int) (xs.map fun b=> .i (b.toNat:Int)) ((i:Int)+1):=rfl;by_cases h:x=UInt8.ofNat c
  ·have h':=(zo B).2 h;simp only [D.i.injEq] at h';rw [key,GZ,ak h,ak h'];exact⟨fun q=>by omega,fun _=>by omega⟩
  ·have h': ¬(x.toNat:Int)=(c:Int):=fun q=>h ((zo B).1 (by rw [q]));rw [key,GZ,ah h,ah h'];by_cases hi:Lib.indexByte xs (UInt8.ofNat c)= -1
   ·rw [ak hi];exact⟨fun _=>Kz hi,fun q=>absurd rfl q⟩
   ·rw [ah hi];exact⟨fun q=>by omega,fun _=>by rw [I5 hi]; omega⟩
theorem DE {c:Nat} (B:c<256) (l:List UInt8):FR (l.map fun b=> .i (b.toNat:Int)) (c:Int)=Lib.indexByte l (UInt8.ofNat c):=by
 obtain⟨O,U⟩:=wy B l 0;unfold FR;by_cases h:Lib.indexByte l (UInt8.ofNat c)= -1
 ·have:=O h;rw [h]; exact this
 ·have:=U h;rw [show ((0:Nat):Int)=0 from rfl,Int.zero_add] at this;exact this
theorem zm: ∀(c s:List UInt8),xZ (c.map fun b=> .i (b.toNat:Int)) (s.map fun b=> .i (b.toNat:Int))=c.isPrefixOf s
 |[],s=>by simp [xZ]
 |_::_,[]=>rfl
 |a::x,b::y=>by simp only [au,xZ,List.isPrefixOf,zm x y];congr 1;rw [aX,decide_eq_true_eq,beq_iff_eq];simp only [D.i.injEq,aaM];exact UInt8.toNat_inj
theorem zp (c:List UInt8): ∀s:List UInt8,B8 (s.map fun b=> .i (b.toNat:Int)) (c.map fun b=> .i (b.toNat:Int))=Lib.contains s c
 |[]=>by cases c<;>simp [B8,xZ,Lib.contains,Lib.index]
 |b::bs=>by
  have ih:=zp c bs;have F:=zm c (b::bs);simp only [au] at F;unfold Lib.contains at *;simp only [au,Lib.index,B8];rw [F,ih];have Cv:=index_ge c bs
  have key:(0<=(if c.isPrefixOf (b::bs)=true then (0:Int) else if (Lib.index bs c == -1)=true then -1 else Lib.index bs c+1))↔(c.isPrefixOf (b::bs)=true\/0<=Lib.index bs c):=by
   by_cases hq:c.isPrefixOf (b::bs)=true
   ·simp [hq]
   ·by_cases O:Lib.index bs c= -1
    ·simp [hq,O]
    ·simp only [beq_iff_eq,hq,O,if_false,false_or,ay];omega
  rw [aX,aah,decide_eq_true_eq];exact key.symm.trans decide_eq_true_iff.symm
section
variable {P:Program}
theorem Ay [bp] {g:FuncId} {fn:Func} (hf:P.funcs[g]?=some fn) (eM:(fn.name == "runtime.NumGoroutine")=false) (K:fn.body.isNone=true) (hn:Extern.findNext fn=none) (he:Extern.find fn=some Extern.BytealgCount.count):fh P g ji:=by
 intro aaa s E w dg u s' r W F I;unfold ji at I;split at I
 ·rename_i e c;split at I
  ·rename_i B;have:=bh I;simp only [ag] at this;obtain⟨rfl,rfl⟩:=this;simp only [bC,V,Y.den] at W;obtain⟨u1,r1,rfl,Fc,u2,r2,rfl,rfl,rfl⟩:=W;obtain⟨st,rfl,hd⟩:=Fc.string;refine⟨rfl,F,?_⟩;unfold gy iU;rw [kS hf eM K hn he (Lib.run_countString st (Int.ofNat c) w)];refine⟨E,ca.refl _ _ _,r,?_⟩;simp only [V,Y.den,c8.den];have:(Int.ofNat c).toNat.toUInt8=UInt8.ofNat c:=rfl;rw [this,zq B,hd];unfold lP iw;rw [ch];rfl
  ·simp [T.leaf] at I
 ·exact B9 hf eM K hn he _ _ _ _ _ _ _ r W F I
theorem Ab [bp] {g:FuncId} {fn:Func} (hf:P.funcs[g]?=some fn) (eM:(fn.name == "runtime.NumGoroutine")=false) (K:fn.body.isNone=true) (hn:Extern.findNext fn=none) (he:Extern.find fn=some Extern.BytealgIndexByte.indexByte):fh P g jh:=by
 intro aaa s E w dg u s' r W F I;unfold jh at I;split at I
 ·rename_i e c;split at I
  ·rename_i B;have:=bh I;simp only [ag] at this;obtain⟨rfl,rfl⟩:=this;simp only [bC,V,Y.den] at W;obtain⟨u1,r1,rfl,Fc,u2,r2,rfl,rfl,rfl⟩:=W;obtain⟨st,rfl,hd⟩:=Fc.string;refine⟨rfl,F,?_⟩;unfold gy iU;rw [kS hf eM K hn he (Lib.run_indexByteString st (Int.ofNat c) w)];refine⟨E,ca.refl _ _ _,r,?_⟩;simp only [V,Y.den,c8.den];have:(Int.ofNat c).toNat.toUInt8=UInt8.ofNat c:=rfl;rw [this,<- DE B,hd];unfold lP iw;rw [ch];rfl
  ·simp [T.leaf] at I
 ·exact Bv hf eM K hn he _ _ _ _ _ _ _ r W F I
theorem uM [bp] {g:FuncId} (hg: ∀(ρ:Nat->Int) (ro:Nat->Prop) (w:World),bp.ok ρ ro w.heap->∀s sub:ByteArray,s.size<4294967281->Calls P g #[.string s,.string sub] w fun e w'=>e= .returned (.bool (Lib.contains s.data.toList sub.data.toList))/\w'=w)
 (iu: ∀(args:Array Value) (w:World),(callFunc g args).run P w= .ok (.enter g args) w):fh P g fN:=by
 intro aaa s E w dg u s' r W F I;unfold fN at I;split at I
 ·rename_i b e;split at I
  ·rename_i hlen;have:=bh I;simp only [ag] at this;obtain⟨rfl,rfl⟩:=this;simp only [bC,V] at W;obtain⟨u1,r1,rfl,⟨rfl,wQ⟩,u2,r2,rfl,Fc,rfl⟩:=W;obtain⟨st,rfl,hd⟩:=Fc.string;refine⟨rfl,F,?_⟩;unfold gy iU;rw [iu];refine Calls.mono (hg E.ρ E.ro w r.jM (bG b) st (by simpa [bG,ByteArray.size] using hlen)) fun e' w' ⟨he,hw⟩=>?_;subst hw;refine⟨_,he,E,ca.refl _ _ _,r,?_⟩;simp only [V,SB.den,Y.den,c8.den,bn];have U:(bG b).data.toList=b.map UInt8.ofNat:=by simp [bG]
   rw [U,hd,mV b wQ];unfold lP iw;rw [ch,ch,zp];cases Lib.contains (b.map UInt8.ofNat) st.data.toList<;>rfl
  ·simp [T.leaf] at I
 ·exact wz hg iu _ _ _ _ _ _ _ r W F I
end
end
end Go.As
end
section
namespace Go.As
noncomputable section
open Go.RowKit
mutual
def db (h:Hp):Z->Z->Bool
 | .bool (.lit a),v=>match v with
   | .bool (.lit b)=>a == b
   |_=>false
 | .int k (.lit a),v=>match v with
   | .int k' (.lit b)=>decide (k=k')&&decide (a=b)
   |_=>false
 | .str s,v=>match v with
   | .str t=>dB s t
   |_=>false
 | .bE,v=>match v with
   | .bE=>true
   |_=>false
 | .agg ks,v=>match v with
   | .agg cs=>Nat.beq ks.length cs.length&&je h ks cs
   |_=>false
 | .ro ks n false,v=>match v with
   | .slice id off len _=>match Nat.beq n len with
     |true=>match n with
      |0=>false
      |_=>match h.get id with
       |some (.cells cs _)=>match b8 off cs with
        |some l=>je h ks l
        |none=>false
       |_=>false
     |false=>false
   | .ro cs m _=>Nat.beq n m&&je h ks cs
   |_=>false
 |_,_=>false
def je (h:Hp):List Z->List Z->Bool
 |[],_=>true
 |k::ks,l=>match l with
  |v::vs=>match db h k v with
   |true=>je h ks vs
   |false=>false
  |[]=>false
end
def sA (h:Hp) (aaa:List Z):List (List Z×Z)->Option Z
 |[]=>none
 |(k,v)::l=>match Nat.beq k.length aaa.length with
  |true=>match je h k aaa with
   |true=>some v
   |false=>sA h aaa l
  |false=>sA h aaa l
def yG (EB:List (List Z×Z)):List Z->St->T (Z×St):=fun aaa s=>match sA s.h aaa EB with
 |some v=> .ret (v,s)
 |none=> .fail
def n3 (key:List Z) (v:Z) (f:List Z->St->T (Z×St)):Bool:=
 cY v&&(match f key ⟨.nil,Hp.zero,[]⟩ with | .ret (u,_)=>bZ u v|_=>false)
section
variable {P:Program}
mutual
theorem z7 [bp] {E:En} {H:Hp} {w:World} (r:bq E H w) (ρ:Nat->Int): ∀(key v:Z) (u:Value),db H key v=true->V E w.heap v u->V (En.zero ρ (fun b=>b<w.heap.size)) w.heap key u
 | .bool b,v,u,hm,W=>by
   cases b<;>simp only [db,ay] at hm;split at hm
   ·simp only [beq_iff_eq] at hm;subst hm;simpa [V,SB.den] using W
   ·simp at hm
 | .int k e,v,u,hm,W=>by
   cases e<;>simp only [db,ay] at hm;split at hm
   ·simp only [an,decide_eq_true_eq] at hm;obtain⟨rfl,rfl⟩:=hm;simpa [V,Y.den] using W
   ·simp at hm
 | .str s,v,u,hm,W=>by
   simp only [db] at hm;split at hm
   ·have:=(eV _ _).1 hm;subst this;simpa only [V] using W
   ·simp at hm
 | .bE,v,u,hm,W=>by
   simp only [db] at hm;split at hm
   ·simpa only [V] using W
   ·simp at hm
 | .agg ks,v,u,hm,W=>by
   simp only [db] at hm;split at hm
   ·rename_i cs;simp only [an] at hm;simp only [V] at W ⊢;obtain⟨us,rfl,U⟩:=W;obtain⟨N,h4⟩:=iL r ρ ks cs us hm.2 U;have e:=aq hm.1;rw [e,<- U.length,abe] at N;exact⟨us,rfl,N⟩
   ·simp at hm
 | .ro ks n true,v,u,hm,W=>by simp [db] at hm
 | .ro ks n false,v,u,hm,W=>by
   simp only [db] at hm;split at hm
   ·rename_i id off len c;split at hm
    ·rename_i hn;have hn:=aq hn;subst hn;split at hm
     ·simp at hm
     ·rename_i Iz;split at hm
      ·rename_i cs e hg;split at hm
       ·rename_i l I;simp only [V] at W ⊢;obtain⟨hd,a,cap,rfl,hle,ee⟩:=W;obtain⟨_,ho,_⟩:=r.live id _ hg;simp only [OR] at ho;obtain⟨arr,lo,hi,us,K,U,N,_,_,_,h7⟩:=ho;obtain⟨q1,q2,q3⟩:=U.b8 I;obtain⟨p1,p2⟩:=iL r ρ ks l _ hm q1
        have ha:a=⟨(E.θ id).1,(E.θ id).2+off,none⟩:=by
         cases c with
         |exact c=>
          simp only [cg] at ee;rcases ee.2 with h|h
          ·exact h
          ·exact absurd J Iz
         |rest es=>
          simp only [cg] at ee;rcases ee with h|h
          ·exact h.1
          ·exact absurd J Iz
        subst ha;have c6:(E.θ id).1<w.heap.size:=(aV.1 K).1;refine⟨_,_,cap,_,rfl,hle,ad,c6,p1,?_,?_⟩
        ·intro i x M
         have D2:us[off+i]?=some x:=by
          rw [aan] at M;split at M
          ·rw [aaO] at M; exact M
          ·simp at M
         have:=N _ _ D2;unfold eN;rw [K];simp only;rw [<- this];congr 1;omega
        ·intro x M;exact h7 x (aS (aT M))
       ·simp at hm
      ·simp at hm
    ·simp at hm
   ·rename_i cs m f;simp only [an] at hm;have hn:=aq hm.1;subst hn;simp only [V] at W ⊢;obtain⟨b,o,cap,us,rfl,U,N,h4,h5,h6,h7⟩:=W;obtain⟨p1,p2⟩:=iL r ρ ks cs _ hm.2 h5;refine⟨b,o,cap,_,rfl,U,ad,r.oy b h4,p1,?_,fun x M=>h7 x (aT M)⟩;intro i x M;rw [aan] at M;split at M
    ·exact h6 i x M
    ·simp at M
   ·simp at hm
 | .ptr _ _,v,u,hm,_=>by simp [db] at hm
 | .dw,v,u,hm,_=>by simp [db] at hm
 | .fD _,v,u,hm,_=>by simp [db] at hm
 | .slice _ _ _ _,v,u,hm,_=>by simp [db] at hm
 | .map _,v,u,hm,_=>by simp [db] at hm
 | .eS,v,u,hm,_=>by simp [db] at hm
 | .func _ _ _,v,u,hm,_=>by simp [db] at hm
 | .jZ,v,u,hm,_=>by simp [db] at hm
 | .iface _ _,v,u,hm,_=>by simp [db] at hm
 | .lB,v,u,hm,_=>by simp [db] at hm
 | .tuple _,v,u,hm,_=>by simp [db] at hm
 | .vu _,v,u,hm,_=>by simp [db] at hm
 | .k8 _ _,v,u,hm,_=>by simp [db] at hm
theorem iL [bp] {E:En} {H:Hp} {w:World} (r:bq E H w) (ρ:Nat->Int): ∀(ks vs:List Z) (us:List Value),je H ks vs=true->bC E w.heap vs us->
 bC (En.zero ρ (fun b=>b<w.heap.size)) w.heap ks (us.take ks.length)/\ks.length<=us.length
 |[],vs,us,_,_=>by simp [bC]
 |k::ks,[],us,hm,_=>by simp [je] at hm
 |k::ks,v::vs,us,hm,W=>by
  simp only [je] at hm;split at hm
  ·rename_i O;rw [bt] at W;obtain⟨u,dh,rfl,hu,vI⟩:=W;obtain⟨p1,p2⟩:=iL r ρ ks vs dh hm vI;rw [aA,aar,bt];exact⟨⟨u,_,rfl,z7 r ρ k v u O hu,p1⟩,by simp; exact p2⟩
  ·simp at hm
end
theorem qk {h:Hp} {aaa:List Z} {v:Z}: ∀{EB:List (List Z×Z)},sA h aaa EB=some v->∃k,(k,v)∈EB/\k.length=aaa.length/\je h k aaa=true
 |[],I=>by simp [sA] at I
 |(k,x)::l,I=>by
  simp only [sA] at I;split at I
  ·rename_i O;split at I
   ·rename_i U;simp only [af] at I;subst I;exact⟨k,ad,aq O,U⟩
   ·obtain⟨k',O,U⟩:=qk I;exact⟨k',by simp [O],U⟩
  ·obtain⟨k',O,U⟩:=qk I;exact⟨k',by simp [O],U⟩
theorem vA [bp] {g:FuncId} {f:List Z->St->T (Z×St)} (hf:fh P g f) {fn:Func} (BG:P.funcs[g]?=some fn) (eM:(fn.name == "runtime.NumGoroutine")=false) {c:Code} (K:fn.body=some c)
 {EB:List (List Z×Z)} (h: ∀p∈EB,n3 p.1 p.2 f=true):fh P g (yG EB):=by
 intro aaa s E w dg u s' r W F I;unfold yG at I;split at I
 ·rename_i v HB;have:=bh I;simp only [ag] at this;obtain⟨rfl,rfl⟩:=this;obtain⟨k,Fl,hlen,JA⟩:=qk HB;have R:=h _ Fl;unfold n3 at R;simp only [an] at R;obtain⟨U,N⟩:=R;split at N
  ·rename_i u' s1 iu;have hu:=dx _ _ N;subst hu;obtain⟨p1,_⟩:=iL r E.ρ k aaa dg JA W;rw [hlen,<- W.length,abe] at p1;have HL:bp.ok E.ρ (fun b=>b<w.heap.size) w.heap:=bp.bw r.jM r.oy fun _ _=>rfl;have B:=jE hf BG eM K (ρ:=E.ρ) (ro:=fun b=>b<w.heap.size) (w:=w) (fun _ h=>h) HL p1 (v:=u') (s':=s1) (by rw [iu]; rfl);refine⟨rfl,F,?_⟩
   have iu:(callFunc g dg.toArray).run P w= .ok (.enter g dg.toArray) w:=by unfold callFunc;simp [BG,K,by simpa using eM]
   unfold gy iU;rw [iu];exact Calls.mono B fun e w' ⟨x,E',he,M,_,iN⟩=> ⟨x,he,E,(kZ r iN).1,(kZ r iN).2,kY u' x U M⟩
  ·simp at N
 ·simp [T.leaf] at I
end
end
end Go.As
end

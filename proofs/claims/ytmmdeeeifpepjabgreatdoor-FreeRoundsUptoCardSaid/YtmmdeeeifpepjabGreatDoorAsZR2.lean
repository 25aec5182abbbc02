import Derived.Lib.Bytealg
import Derived.Lib.IndexMore
import Derived.Deep.LoopGhost
import Derived.IntWalk
import Derived.ChangeArms
import Derived.DataReads
import GoSem.ClaimJoined
import Derived.OpenShut
import Derived.KernelRfl
import Derived.Test.YtmmdeeeifpepjabGreatDoorProg
import Derived.Test.YtmmdeeeifpepjabGreatDoorAsZR1
set_option linter.unusedSectionVars false
set_option linter.unusedVariables false
set_option linter.unusedSimpArgs false
section
namespace Go.As
section
variable {P:Program}
theorem avJ {α:Type} {l pre:List α} {a b:α} {l0:List α} (h:l=pre++a :: b :: l0):l.reverse[l0.length]?=some b∧l.reverse[l0.length+1]?=some a:=by
 subst h;constructor
 ·simp
 ·rw [show pre++a :: b :: l0=(pre++ [a])++(b :: l0) by simp,List.reverse_append];rw [List.getElem?_append_right (by simp)];simp
theorem afZ {n b:Nat} (h:((1 <<< n) - 1).testBit b=true):b < n:=by rw [Nat.shiftLeft_eq,Nat.one_mul,Nat.testBit_two_pow_sub_one] at h;simpa using h
theorem avO [Glob] {tt:TT} {ops:Array Oper} {ms:List Nat} {ρ:Nat→Int} {vS:Tr AV} {H0:Hp} {base N:Nat} {d:DSt} (sf:aA4 tt ops.toList ms) (hb:base=H0.next) (hN:base+ops.size≤N)
 (rf:aFB P ρ ops base N (items tt ops.toList ms ops.toList 0 0) ⟨vS,[(⟨H0.m,base+ops.size,none⟩,0)],[],[],[]⟩ d)
 (hrs: ∀r∈((items tt ops.toList ms ops.toList 0 0).filter (·.k.ZR)).map fun x=>(x,stages (items tt ops.toList ms ops.toList 0 0) (lT tt ops.toList) x),∃v,d.vs.reverse[r.1.i]?=some v∧∀k∈r.2,∃h mm,d.pY.reverse[k]?=some (h,mm)∧QB P ρ ops r.1.o (only d.slots r.1.rd) (gK base r.1.m mm d.blks h) v (gK base r.1.m mm d.blks h))
 (hun:Ul base d.blks d.pY=true) :
 ∃p:Plan P ρ ops vS H0,p.base=base∧p.nE=lT tt ops.toList∧(∀i,p.val i=(d.vs.reverse[i]?).getD .jR)∧(∀k h mm,d.pY.reverse[k]?=some (h,mm)→p.hp k=h∧∀a,p.un k a=!mm.testBit a)∧(∀i,p.blk i=(d.obs.reverse[i]?).getD none)∧
  (∀(m:Nat),m < p.nE→∃(j:Nat) (o:Oper),ops[j]?=some o∧p.kd j= .e∧p.st j=m):=by
 have hsz: ∀(j:Nat),ops.toList[j]?=ops[j]?:=fun j=>Array.getElem?_toList;have hlt: ∀{j:Nat} {o:Oper},ops[j]?=some o→j < ops.size:=fun h=>(Array.getElem?_eq_some_iff.1 h).1;have hci:mF (items tt ops.toList ms ops.toList 0 0)=lT tt ops.toList:=qW _ _ _;have hfull:lT tt ops.toList=lT tt (ops.toList.take ops.size):=by rw [List.take_of_length_le (by simp)]
 obtain⟨ps,s1,s2⟩:=rf.pY;rw [hci] at s2;have aGD:d.pY.length=lT tt ops.toList+1:=by rw [s1,List.length_append,s2]; rfl
 have aF1:d.pY.reverse[0]?=some (⟨H0.m,base+ops.size,none⟩,0):=by rw [s1]; simp
 have aEr: ∀k,k≤lT tt ops.toList→∃h mm,d.pY.reverse[k]?=some (h,mm):=by
  intro k hk;have:k < d.pY.reverse.length:=by rw [List.length_reverse]; omega
  exact⟨d.pY.reverse[k].1,d.pY.reverse[k].2,List.getElem?_eq_getElem this⟩
 have hnx:=rf.nxt (by
  intro q hq;simp only [List.mem_cons,List.not_mem_nil,or_false] at hq;subst hq
  exact⟨hN,rfl⟩)
 have hnx2: ∀(k:Nat) (h:Hp) (mm:Nat),d.pY.reverse[k]?=some (h,mm)→h.next≤N∧h.res=none:=by intro k h mm hh;exact hnx (h,mm) (by have:=List.mem_of_getElem? hh; simpa using this)
 let hpf:Nat→Hp:=fun k=>((d.pY.reverse[k]?).map (·.1)).getD ⟨.nil,0,none⟩
 let unf:Nat→Nat→Bool:=fun k a=>match d.pY.reverse[k]? with | some q=>!q.2.testBit a | none=>false
 let bff:Nat→Nat→Bool:=fun i j=>match ops[j]? with | some _=>(ms.getD j 0).testBit i | none=>false
 let kdf:Nat→Kind:=fun i=>match ops[i]? with | some o=>kindOf tt o.op | none=> .pa
 let V8:Nat→Option dW:=fun i=>(d.obs.reverse[i]?).getD none
 have hpe: ∀k h mm,d.pY.reverse[k]?=some (h,mm)→hpf k=h∧∀a,unf k a=!mm.testBit a:=by intro k h mm hh;refine⟨by simp only [hpf,hh]; rfl,fun a=>by simp only [unf,hh]⟩
 have bfe: ∀{i j:Nat} {o:Oper},ops[j]?=some o→bff i j=(ms.getD j 0).testBit i:=by intro i j o ho;simp only [bff,ho]
 have kde: ∀{j:Nat} {o:Oper},ops[j]?=some o→kdf j=kindOf tt o.op:=by intro j o ho;simp only [kdf,ho]
 have kdE: ∀{j:Nat},kdf j= .e→∃o,ops[j]?=some o∧kindOf tt o.op= .e:=by
  intro j hj
  cases ho:ops[j]? with
  | none=>simp only [kdf,ho] at hj; simp at hj
  | some o=>exact⟨o,rfl,by rw [← kde ho]; exact hj⟩
 have hbelow: ∀(k:Nat),∀(o':Oper),ops[k]?=some o'→∀b,(ms.getD k 0).testBit b=true→b < k:=by
  intro k
  induction k using Nat.strongRecOn with
  | _ k ih=>
    intro o' ho' b hb';rw [sf.mask k o' (by rw [hsz]; exact ho')] at hb';obtain⟨e,e1,e2,e3⟩:=uV hb';have e1':e∈o'.after:=by simpa using e1
    have hlt':=sf.back k o' (by rw [hsz]; exact ho') e e1' e2;rcases e3 with rfl | e3
    ·exact hlt'
    ·have:=hlt ho';have:=ih e.on hlt' (ops[e.on]'(by omega)) (by simp) b e3;omega
 have aGb: ∀(i:Nat),∃S:Tr AV,∀(o:Oper),ops[i]?=some o→∃dp dp1 v ob pre,dp.slots=S∧P5 P ρ ops base N (Ii tt ops.toList ms i o) dp v ob dp1∧d.vs.reverse[i]?=some v∧d.obs.reverse[i]?=some ob∧d.pY=pre++dp1.pY∧dp.pY.length=1+lT tt (ops.toList.take i)∧
  (∀q,q∈dp.blks→q∈d.blks)∧(∀t x,S.get t=some x→(∃p oj,p < i∧ops[p]?=some oj∧oj.dst=some t∧d.vs.reverse[p]?=some x)∨(vS.get t=some x∧∀(p:Nat) (oj:Oper),p < i→ops[p]?=some oj→oj.dst≠some t)):=by
  intro i
  cases hoi:ops[i]? with
  | none=>exact⟨.nil,fun o h=>by simp at h⟩
  | some o0=>
    have hx:(items tt ops.toList ms ops.toList 0 0)[i]?=some (Ii tt ops.toList ms i o0):=kE (by rw [hsz]; exact hoi);obtain⟨dp,dp1,v,ob,pre,g1,g2,g3,g4,g5,g6,g7,g8⟩:=rf.at_ i _ hx;refine⟨dp.slots,fun o ho=>?_⟩;simp only [Option.some.injEq] at ho;subst ho;refine⟨dp,dp1,v,ob,pre,rfl,g1,by simpa using g2,by simpa using g3,g4,?_,g6,?_⟩
    ·rw [g5];congr 1
     have:(items tt ops.toList ms ops.toList 0 0).take i=items tt ops.toList ms (ops.toList.take i) 0 0:=by
      apply List.ext_getElem?;intro j;rw [List.getElem?_take,lZ,lZ,List.getElem?_take];split
      ·rename_i hj;rw [List.take_take,Nat.min_eq_left (by omega)]
      ·rfl
     rw [this,qW]
    ·intro t x ht;rcases g8 t x ht with ⟨p,y,q1,q2,q3,q4⟩ | ⟨q1,q2⟩
     ·cases hoj:ops.toList[p]? with
      | none=>rw [lZ,hoj] at q2; simp at q2
      | some oj=> rw [kE hoj] at q2;simp at q2;subst q2;exact .inl ⟨p,oj,q1,by rw [← hsz]; exact hoj,q3,by simpa using q4⟩
     ·refine .inr ⟨q1,fun p oj hp hoj=>?_⟩
      have hm:Ii tt ops.toList ms p oj∈(items tt ops.toList ms ops.toList 0 0).take i:=by refine List.mem_of_getElem? (i:=p) ?_;rw [List.getElem?_take,if_pos hp];exact kE (by rw [hsz]; exact hoj)
      exact q2 _ hm
 obtain⟨Sd,hat⟩:=Classical.skolem.1 aGb
 let Sf:Nat→Tr AV:=fun i=>match ops[i]? with
  | some o=>(match kindOf tt o.op with
    | .r=>only d.slots (reads ops.toList o)
    | _=>only (Sd i) (reads ops.toList o))
  | none=> .nil
 have SfR: ∀{i:Nat} {o:Oper},ops[i]?=some o→kindOf tt o.op= .r→Sf i=only d.slots (reads ops.toList o):=by intro i o ho hk;simp only [Sf,ho,hk]
 have SfN: ∀{i:Nat} {o:Oper},ops[i]?=some o→kindOf tt o.op≠.r→Sf i=only (Sd i) (reads ops.toList o):=by
  intro i o ho hk;have:Sf i=(match kindOf tt o.op with | .r=>only d.slots (reads ops.toList o) | _=>only (Sd i) (reads ops.toList o)):=by simp only [Sf,ho]
  rw [this]
  cases hh:kindOf tt o.op with
  | r=>exact absurd hh hk
  | pa=>rfl
  | e=>rfl
 have hblk: ∀a b,(a,b)∈d.blks→V8 a=some b:=by
  intro a b hab;rcases rf.blk a b hab with h | ⟨p,x,g1,g2,g3⟩
  ·simp at h
  ·cases ho:ops.toList[p]? with
   | none=>rw [lZ,ho] at g1; simp at g1
   | some o=> rw [kE ho] at g1;simp at g1;subst g1;have:p=a:=g2;subst this;simp only [List.length_nil,Nat.zero_add] at g3;simp only [V8,g3,Option.getD_some]
 have hblk2: ∀a b,V8 a=some b→(a,b)∈d.blks:=by
  intro a b hab
  have hob:d.obs.reverse[a]?=some (some b):=by
   simp only [V8] at hab
   cases hh:d.obs.reverse[a]? with
   | none=>rw [hh] at hab; simp at hab
   | some x=>rw [hh] at hab; simp at hab; rw [hab]
  obtain⟨po,o1,o2⟩:=rf.obs
  have hal:a < ops.size:=by have h1:=(List.getElem?_eq_some_iff.1 hob).1;rw [List.length_reverse,o1,List.append_nil,o2,Ae] at h1;simpa using h1
  have hx:(items tt ops.toList ms ops.toList 0 0)[a]?=some (Ii tt ops.toList ms a ops[a]):=kE (by rw [hsz]; simp [hal]);exact rf.aGk a _ b hx (by simpa using hob)
 refine⟨{
  base:=base,bf:=bff,kd:=kdf,S:=Sf,val:=fun i=>(d.vs.reverse[i]?).getD .jR,st:=fun i=>lT tt (ops.toList.take i),nE:=lT tt ops.toList,hp:=hpf,un:=unf,blk:=V8,
  gen:=?_,back:=?_,dst:=?_,slots:=?_,stl:=?_,inj:=?_,aDI:=?_,pa:=?_,ev:=?_,rd:=?_,unm:=?_,nob:=?_,first:=?_ },rfl,rfl,fun i=>rfl,hpe,fun i=>rfl,?_⟩
 ·intro i j h
  cases ho:ops[j]? with
  | none=>simp only [bff,ho] at h; simp at h
  | some o=>
    rw [bfe ho,sf.mask j o (by rw [hsz]; exact ho)] at h;obtain⟨e,e1,e2,e3⟩:=uV h;have e1':e∈o.after:=by simpa using e1
    refine⟨o,e,rfl,e1',e2,e3.imp id fun h3=>?_⟩;have hl:=sf.back j o (by rw [hsz]; exact ho) e e1' e2;have hj:=hlt ho;rw [bfe (o:=ops[e.on]'(by omega)) (by simp)];exact h3
 ·intro j o ho e he hb';exact sf.back j o (by rw [hsz]; exact ho) e he hb'
 ·intro i j oi oj dd hi hj h1 h2;exact sf.dst i j oi oj dd (by rw [hsz]; exact hi) (by rw [hsz]; exact hj) h1 h2
 ·intro i o ho t x ht
  cases hk:kindOf tt o.op with
  | r=>
    rw [SfR ho hk] at ht;obtain⟨h1,h2⟩:=Gp ht;rcases rf.slot t x h2 with ⟨p,y,g1,g2,g3⟩ | ⟨g1,g2⟩
    ·cases hoj:ops.toList[p]? with
     | none=>rw [lZ,hoj] at g1; simp at g1
     | some oj=>
       rw [kE hoj] at g1;simp at g1;subst g1;have hp:ops[p]?=some oj:=by rw [← hsz]; exact hoj
       refine .inl ⟨p,oj,?_,hp,g2,?_⟩
       ·rw [bfe ho];rcases sf.rd i o (by rw [hsz]; exact ho) t h1 p oj hoj g2 with h | ⟨h,_⟩
        ·exact h
        ·exact absurd hk h
       ·simp only [List.length_nil,Nat.zero_add] at g3;simp only [g3,Option.getD_some]
    ·refine .inr ⟨g1,fun j oj hoj hd=>?_⟩;exact absurd hd (g2 _ (List.mem_of_getElem? (kE (by rw [hsz]; exact hoj))))
  | _=>
    rw [SfN ho (by rw [hk]; simp)] at ht;obtain⟨h1,h2⟩:=Gp ht;obtain⟨dp,dp1,v,ob,pre,_,_,_,_,_,_,_,g8⟩:=hat i o ho;rcases g8 t x h2 with ⟨p,oj,q1,q2,q3,q4⟩ | ⟨q1,q2⟩
    ·refine .inl ⟨p,oj,?_,q2,q3,by rw [q4]; rfl⟩;rw [bfe ho];rcases sf.rd i o (by rw [hsz]; exact ho) t h1 p oj (by rw [hsz]; exact q2) q3 with h | ⟨_,h⟩
     ·exact h
     ·have:=hbelow p oj q2 i h;omega
    ·refine .inr ⟨q1,fun j oj hoj hd=>?_⟩;rw [bfe hoj];rcases sf.rd i o (by rw [hsz]; exact ho) t h1 j oj (by rw [hsz]; exact hoj) hd with h | ⟨_,h⟩
     ·exact absurd hd (q2 j oj (hbelow i o ho j h) hoj)
     ·exact h
 ·intro j o ho hk;rw [kde ho] at hk;rw [hfull];exact V6 (by rw [hsz]; exact ho) hk (hlt ho)
 ·intro i j hi hj he;obtain⟨oi,hoi,hki⟩:=kdE hi;obtain⟨oj,hoj,hkj⟩:=kdE hj;rcases Nat.lt_trichotomy i j with h | h | h
  ·have:=V6 (tt:=tt) (l:=ops.toList) (by rw [hsz]; exact hoi) hki h;omega
  ·exact h
  ·have:=V6 (tt:=tt) (l:=ops.toList) (by rw [hsz]; exact hoj) hkj h;omega
 ·intro j o ho hk m hm;obtain⟨i,oi,h1,h2,h3,h4⟩:=D9 hm;rw [kde ho] at hk;have h2':ops[i]?=some oi:=by rw [← hsz]; exact h2
  refine⟨i,by rw [kde h2']; exact h3,h4,?_⟩;rw [bfe ho];exact sf.tot i j oi o h2 (by rw [hsz]; exact ho) h3 hk h1
 ·intro i o ho hk;rw [kde ho] at hk;obtain⟨dp,dp1,v,ob,pre,hdp,hF,g2,g3,g4,g5,g6,g7⟩:=hat i o ho;obtain⟨h0,mm,rest,hs,hF⟩:=hF;simp only [Ii,hk] at hF;obtain⟨_,HA,f1,f2,f3⟩:=hF;rw [hdp] at f1;refine⟨HA,N,?_,f2,?_,?_⟩
  ·rw [SfN ho (by rw [hk]; simp)];simp only [g2,Option.getD_some];exact f1
  ·simp only [V8,g3,Option.getD_some];exact f3
  ·intro k hk2;obtain⟨h2,mm2,hh⟩:=aEr k hk2;rw [(hpe _ _ _ hh).1];exact (hnx2 _ _ _ hh).1
 ·intro j o ho hk;rw [kde ho] at hk;obtain⟨dp,dp1,v,ob,pre,hdp,hF,g2,g3,g4,g5,g6,g7⟩:=hat j o ho;obtain⟨h0,mm,rest,hs,hF⟩:=hF;simp only [Ii,hk] at hF;obtain⟨_,hn,f1,f2,f3,f4⟩:=hF;rw [hdp] at f4;rw [f1,hs] at g4;have hrl:rest.length=lT tt (ops.toList.take j):=by rw [hs] at g5; simp at g5; omega
  obtain⟨r1,r2⟩:=avJ g4;rw [hrl] at r1 r2;obtain⟨p1,p2⟩:=hpe _ _ _ r1;obtain⟨p3,p4⟩:=hpe _ _ _ r2;refine⟨gK base (ms.getD j 0) mm dp.blks h0,?_,?_,?_,?_,?_⟩
  ·rw [SfN ho (by rw [hk]; simp)];simp only [g2,Option.getD_some,p3];exact f4
  ·rw [(lU _ _).1,p1]
  ·rw [(lU _ _).2];exact (hnx2 _ _ _ r1).2
  ·intro id x hx;rcases uG hx with h | ⟨a,a1,a2,a3,a4⟩
   ·left; rw [p1]; exact h
   ·right;exact⟨a,by rw [bfe ho]; exact a2,by rw [p2,a3]; rfl,a4,hblk a x (g6 _ a1)⟩
  ·intro a ha;rw [p4] at ha;simp only [Nat.testBit_or,Bool.not_or,Bool.and_eq_true,Bool.not_eq_true'] at ha;refine⟨by rw [p2,ha.1]; rfl,?_⟩;rw [bfe ho];exact ha.2
 ·intro i o ho hk k hkn h1 h2;rw [kde ho] at hk;have hmem:Ii tt ops.toList ms i o∈items tt ops.toList ms ops.toList 0 0:=List.mem_of_getElem? (kE (by rw [hsz]; exact ho))
  obtain⟨v,g1,g2⟩:=hrs (Ii tt ops.toList ms i o,stages (items tt ops.toList ms ops.toList 0 0) (lT tt ops.toList) (Ii tt ops.toList ms i o)) (by
   rw [List.mem_map]
   exact⟨_,List.mem_filter.2 ⟨hmem,by simp [Ii,hk,Kind.ZR]⟩,rfl⟩)
  have hks:k∈stages (items tt ops.toList ms ops.toList 0 0) (lT tt ops.toList) (Ii tt ops.toList ms i o):=by
   unfold stages;rw [List.mem_filter,List.mem_range];refine⟨by omega,List.all_eq_true.2 fun y hy=>?_⟩;obtain⟨j,oj,hoj,rfl⟩:=SQ hy;have awG:ops[j]?=some oj:=by rw [← hsz]; exact hoj
   cases hkj:kindOf tt oj.op with
   | pa=>simp [Ii,hkj,Kind.isE]
   | r=>simp [Ii,hkj,Kind.isE]
   | e=>
     simp only [Ii,hkj,Kind.isE,Bool.not_true,Bool.false_or,Bool.and_eq_true,Bool.or_eq_true,Bool.not_eq_true',decide_eq_true_eq];constructor
     ·cases hbit:(ms.getD i 0).testBit j with
      | false=>exact .inl rfl
      | true=>exact .inr (h1 j (by rw [kde awG]; exact hkj) (by rw [bfe ho]; exact hbit))
     ·cases hbit:(ms.getD j 0).testBit i with
      | false=>exact .inl rfl
      | true=>exact .inr (h2 j oj awG (by rw [kde awG]; exact hkj) (by rw [bfe awG]; exact hbit))
  obtain⟨h0,mm,g3,g4⟩:=g2 k hks;obtain⟨p1,p2⟩:=hpe _ _ _ g3;refine⟨gK base (ms.getD i 0) mm d.blks h0,?_,?_,?_,?_⟩
  ·have g1':d.vs.reverse[i]?=some v:=g1;rw [SfR ho hk];simp only [g1',Option.getD_some];exact g4
  ·rw [(lU _ _).1,p1]
  ·rw [(lU _ _).2];exact (hnx2 _ _ _ g3).2
  ·intro id x hx;rcases uG hx with h | ⟨a,a1,a2,a3,a4⟩
   ·left; rw [p1]; exact h
   ·right;exact⟨a,by rw [bfe ho]; exact a2,by rw [p2,a3]; rfl,a4,hblk a x a1⟩
 ·intro k a x hk hx hu;obtain⟨h0,mm,hh⟩:=aEr k hk;obtain⟨p1,p2⟩:=hpe _ _ _ hh;rw [p1];rw [p2] at hu;unfold Ul at hun;have:=List.all_eq_true.1 hun _ (hblk2 a x hx)
  have:=List.all_eq_true.1 this (h0,mm) (by
   have:=List.mem_of_getElem? hh
   simpa using this)
  simp only [Bool.or_eq_true,Option.isNone_iff_eq_none] at this;simp only [Bool.not_eq_true'] at hu;rcases this with h | h
  ·rw [hu] at h; simp at h
  ·exact h
 ·intro i hk
  cases ho:ops[i]? with
  | none=>
    obtain⟨po,o1,o2⟩:=rf.obs
    have hnone:d.obs.reverse[i]?=none:=by rw [List.getElem?_eq_none_iff,List.length_reverse,o1,List.append_nil,o2,Ae];have:=Array.getElem?_eq_none_iff.1 ho;simpa using this
    simp only [V8,hnone,Option.getD_none]
  | some o=>
    obtain⟨dp,dp1,v,ob,pre,hdp,hF,g2,g3,g4,g5,g6,g7⟩:=hat i o ho;obtain⟨h0,mm,rest,hs,hF⟩:=hF;rw [kde ho] at hk
    cases hkk:kindOf tt o.op with
    | pa=>exact absurd hkk hk
    | e=> simp only [Ii,hkk] at hF;simp only [V8,g3,Option.getD_some,hF.1]
    | r=> simp only [Ii,hkk] at hF;simp only [V8,g3,Option.getD_some,hF.1]
 ·have:=(hpe 0 _ _ aF1).1;refine⟨hb,by rw [this]; exact Nat.le_refl _,fun id x h=>?_⟩;rw [this] at h;exact h
 ·intro m hm;have hm':m < lT tt (ops.toList.take ops.size):=by rw [← hfull]; exact hm
  obtain⟨i,oi,h1,h2,h3,h4⟩:=D9 hm';have h2':ops[i]?=some oi:=by rw [← hsz]; exact h2
  exact⟨i,oi,h2',by show kdf i=_; rw [kde h2']; exact h3,h4⟩
end
end Go.As
end
section
namespace Go.As
section
variable {P:Program}
theorem O6 [Glob] {tt:TT} (htt:eP P tt) {call:dU} (hc:jU P call) {ops:Array Oper} {E:En} {s s':St} {a:Act} {w:World} {Q:Exit→Act→World→Prop}
 (hd: ∀o∈ops.toList,∀d,o.dst=some d→d < a.tmps.size) (fit:Fit E s a w) (h:(draw tt call ops.toList s).leaf E.ρ=some s') (hq: ∀a' w',Then E s a w s' a' w'→Q .normal a' w') :
 wpAny P .any ops Q ops.size (Array.replicate ops.size false) a { w with drawn:=w.drawn+1 }:=by
 unfold draw O7 at h;split at h
 ·simp [T.leaf] at h
 ·rename_i q hq0;split at h
  ·simp [T.leaf] at h
  ·rename_i hres;simp only at h;obtain⟨⟨pc1,d⟩,h1,h2⟩:=T.fU h;simp only at h2;obtain⟨ms,e1,e2,e3,sf⟩:=auV hq0;rw [e1,] at h1;have rf:=aeY htt hc _ fit.pc h1;have hp1:=aeX _ fit.pc h1;split at h2
   ·simp [T.leaf] at h2
   ·rename_i h0 mm rest aB3;obtain⟨pc2,h3,h4⟩:=T.fU h2;split at h4
    ·rename_i hun;have:=aH h4;subst this
     have aEs:=RG htt hc q.rs hp1 (by
      intro r hr;rw [e3,List.mem_map] at hr;obtain⟨x,hx,rfl⟩:=hr;rw [List.mem_filter,e1] at hx;obtain⟨j,o,ho,rfl⟩:=SQ hx.1;have h5:(kindOf tt o.op).ZR=true:=hx.2;show kindOf tt o.op= .r;revert h5
      cases kindOf tt o.op <;> simp [Kind.ZR]) h3
     have hp2:=aEs.1;have hrs:=aEs.2;rw [e3,e1,e2] at hrs;obtain⟨p,p1,p2,p3,p4,p5,p6⟩:=avO sf (base:=s.h.next) (H0:=s.h) rfl (Nat.le_add_right _ _) rf hrs hun;have hsz: ∀(j:Nat),ops.toList[j]?=ops[j]?:=fun j=>Array.getElem?_toList;let w1:World:={ w with drawn:=w.drawn+1 };have aGd:Fit E s a w1:=⟨⟨fit.rel.fresh,fit.rel.res,fit.rel.live,fit.rel.inj,fit.rel.BO,fit.rel.glob⟩,fit.sr,fit.pc⟩
     have hlist: ∀(i:Nat),(Array.replicate ops.size false)[i]?≠some true:=by intro i hh;have:=Array.mem_of_getElem? hh;simp at this
     refine p.any (E0:=E) (a0:=a) (w0:=w1) hd ?_ ops.size _ a w1 (by simp) ?_ (p.start rfl rfl rfl aGd _ hlist)
     ·intro a' w' inv;obtain⟨ps,s1,s2⟩:=rf.pY;rw [qW] at s2
      have hlen:rest.length=lT tt ops.toList:=by
       have:d.pY.length=lT tt ops.toList+1:=by rw [s1,List.length_append,s2]; rfl
       rw [aB3] at this;simpa using this
      have hlast:d.pY.reverse[lT tt ops.toList]?=some (h0,mm):=by rw [← hlen];exact rev_at (pre:=[]) aB3
      obtain⟨q1,q2⟩:=p4 _ _ _ hlast
      have hnx:=rf.nxt (by
       intro q hq;simp only [List.mem_cons,List.not_mem_nil,or_false] at hq;subst hq
       exact⟨Nat.le_add_right _ _,rfl⟩) (h0,mm) (by rw [aB3]; simp)
      have ht:=p.finish (s0:=s) (s':=⟨d.slots,gK s.h.next ((1 <<< ops.toList.length) - 1) mm d.blks h0,pc2⟩) (w0:=w1) rfl inv hp2 ?_ ?_ ?_ ?_ p6
      ·refine hq a' w' ⟨ht.defers,ht.size,?_⟩;obtain⟨E',st,f'⟩:=ht.step;exact⟨E',⟨st.ρ,st.dm,st.θ,st.κ,st.ro,st.JE,st.nxm,st.rsm,st.dmn,st.os,st.tape,st.output,st.size,st.keep,st.own⟩,f'⟩
      ·intro t x ht;rcases rf.slot t x ht with ⟨j,y,g1,g2,g3⟩ | ⟨g1,g2⟩
       ·cases hoj:ops.toList[j]? with
        | none=>rw [lZ,hoj] at g1; simp at g1
        | some oj=> rw [kE hoj] at g1;simp at g1;subst g1;refine .inl ⟨j,oj,by rw [← hsz]; exact hoj,g2,?_⟩;simp only [List.length_nil,Nat.zero_add] at g3;rw [p3,g3];rfl
       ·refine .inr ⟨g1,fun j oj hoj=>?_⟩;exact g2 _ (List.mem_of_getElem? (kE (by rw [hsz]; exact hoj)))
      ·intro id x hx;rw [p2,q1,p1];rcases uG hx with h | ⟨b,b1,b2,b3,b4⟩
       ·exact .inl h
       ·right
        have hlt:b < ops.size:=by have:=afZ b2;simpa using this
        refine⟨b,hlt,by rw [q2,b3]; rfl,b4,?_⟩;rcases rf.blk b x b1 with h | ⟨j,y,g1,g2,g3⟩
        ·simp at h
        ·cases hoj:ops.toList[j]? with
         | none=>rw [lZ,hoj] at g1; simp at g1
         | some oj=> rw [kE hoj] at g1;simp at g1;subst g1;have:j=b:=g2;subst this;simp only [List.length_nil,Nat.zero_add] at g3;rw [p5,g3];rfl
      ·rw [p2,q1];exact (lU _ _).1.symm
      ·show (gK s.h.next ((1 <<< ops.toList.length) - 1) mm d.blks h0).res=none;rw [(lU _ _).2];exact hnx.2
     ·have: ∀(l:Nat→Bool) (n:Nat),left l n≤n:=by
       intro l n
       induction n with
       | zero=>exact Nat.le_refl _
       | succ n ih=>simp only [left]; split <;> omega
      exact this _ _
    ·simp [T.leaf] at h4
theorem ayA [Glob] {tt:TT} (htt:eP P tt) (hm:P.follows .mixedOrders=true) {call:dU} (hc:jU P call):ayW P (draw tt call):=by intro id ops E s s' a w Q hd fit h hq;exact wp_region_any hm (O6 htt hc hd fit h hq)
end
end Go.As
end
section
namespace Go.As
noncomputable section
open Go.RowKit
section
variable {P:Program}
def En.zero (ρ:Nat→Int) (ro:Nat→Prop):En:={ ρ:=ρ,θ:=fun _=>(0,0),κ:=fun _=>0,dm:=fun _=>False,ro:=ro }
def Hp.zero:Hp:=⟨.nil,0,none⟩
theorem WB [Glob] (ρ:Nat→Int) (ro:Nat→Prop) (w:World) (h: ∀b,ro b→b < w.heap.size) (hg:Glob.ok ρ ro w.heap):bF (En.zero ρ ro) Hp.zero w:=
 ⟨fun _ _ h=>h,by simp [Hp.zero],fun id o h=>by simp [Hp.zero,Hp.get,Tr.get] at h,fun id _ o _ h=>by simp [Hp.zero,Hp.get,Tr.get] at h,h,hg⟩
theorem Stp.below {E E':En} {H':Hp} {w w':World} (s:Stp E Hp.zero w E' H' w'):Below w.heap.size w w':=
 ⟨s.os,s.tape,s.output,s.size,fun k hk=>s.keep k hk fun id o h=>by simp [Hp.zero,Hp.get,Tr.get] at h⟩
theorem HY [Glob] {g:FuncId} {f:List AV→St→T (AV×St)} (hf:mP P g f) {fn:Func} (hfn:P.funcs[g]?=some fn) (hname:(fn.name == "runtime.NumGoroutine")=false) {c:Code} (hb2:fn.body=some c)
 {ρ:Nat→Int} {ro:Nat→Prop} {w:World} (hro: ∀b,ro b→b < w.heap.size) (hg:Glob.ok ρ ro w.heap) {args:List AV} {vals:List Value} (hv:bJ (En.zero ρ ro) w.heap args vals) {v:AV} {s':St}
 (h:(f args ⟨.nil,Hp.zero,[]⟩).leaf ρ=some (v,s')):Calls P g vals.toArray w fun e w'=> ∃u E',e= .returned u∧VR E' w'.heap v u∧E'.ρ=ρ∧Below w.heap.size w w':=by
 obtain⟨_,_,h3⟩:=hf args ⟨.nil,Hp.zero,[]⟩ (En.zero ρ ro) w vals v s' (WB ρ ro w hro hg) hv (by simp [bI]) h
 have hrun:(callFunc g vals.toArray).run P w= .ok (.enter g vals.toArray) w:=by unfold callFunc;simp [hfn,hb2,by simpa using hname]
 unfold uT uS at h3;rw [hrun] at h3;exact Calls.mono h3 fun e w' ⟨u,he,E',st,_,hv⟩=> ⟨u,E',he,hv,st.ρ,st.below⟩
end
end
end Go.As
end
section
namespace Go.As
noncomputable section
open Go.RowKit
mutual
def jO:AV→Bool
 | .bool (.lit _)=>true
 | .int _ (.lit _)=>true
 | .str _=>true
 | .jR=>true
 | .aA=>true
 | .pO=>true
 | .zZ=>true
 | .E5=>true
 | .iface _ v=>jO v
 | .agg cs=>tZ cs
 | .tuple cs=>tZ cs
 | .func _ fs cs=>tZ fs && tZ cs
 | _=>false
def tZ:List AV→Bool
 | []=>true
 | x :: xs=>jO x && tZ xs
end
section
variable {P:Program}
mutual
theorem Eb {E E':En} {h h':Array Obj}: ∀(x:AV) (u:Value),jO x=true→VR E h x u→VR E' h' x u
 | .bool b,u,hc,hv=>by cases b <;> simp [jO] at hc; simpa [VR,SB.den] using hv
 | .int k e,u,hc,hv=>by cases e <;> simp [jO] at hc; simpa [VR,SE.den] using hv
 | .str s,u,_,hv=>by simp only [VR] at *; exact hv
 | .jR,u,_,hv=>by simp only [VR] at *; exact hv
 | .aA,u,_,hv=>by simp only [VR] at *; exact hv
 | .pO,u,_,hv=>by simp only [VR] at *; exact hv
 | .zZ,u,_,hv=>by simp only [VR] at *; exact hv
 | .E5,u,_,hv=>by simp only [VR] at *; exact hv
 | .iface t x,u,hc,hv=>by simp only [VR,jO] at *;obtain⟨y,h1,h2⟩:=hv;exact⟨y,h1,Eb x y hc h2⟩
 | .agg cs,u,hc,hv=>by simp only [VR,jO] at *;obtain⟨us,h1,h2⟩:=hv;exact⟨us,h1,rX cs us hc h2⟩
 | .tuple cs,u,hc,hv=>by simp only [VR,jO] at *;obtain⟨us,h1,h2⟩:=hv;exact⟨us,h1,rX cs us hc h2⟩
 | .func fn fs cs,u,hc,hv=>by simp only [VR,jO,Bool.and_eq_true] at *;obtain⟨us,ws,h1,h2,h3⟩:=hv;exact⟨us,ws,h1,rX fs us hc.1 h2,rX cs ws hc.2 h3⟩
 | .ptr _ _,_,hc,_=>by simp [jO] at hc
 | .rO _,_,hc,_=>by simp [jO] at hc
 | .slice _ _ _ _,_,hc,_=>by simp [jO] at hc
 | .ro _ _ _,_,hc,_=>by simp [jO] at hc
 | .map _,_,hc,_=>by simp [jO] at hc
 | .opq _,_,hc,_=>by simp [jO] at hc
 | .inp _ _,_,hc,_=>by simp [jO] at hc
theorem rX {E E':En} {h h':Array Obj}: ∀(xs:List AV) (us:List Value),tZ xs=true→bJ E h xs us→bJ E' h' xs us
 | [],us,_,hv=>by simp only [bJ] at *; exact hv
 | x :: xs,us,hc,hv=>by simp only [bJ,tZ,Bool.and_eq_true] at *;obtain⟨u,vs,h1,h2,h3⟩:=hv;exact⟨u,vs,h1,Eb x u hc.1 h2,rX xs vs hc.2 h3⟩
end
theorem Ee [Glob] {E:En} {H:Hp} {w w':World} (r:bF E H w) (b:Below w.heap.size w w'):Stp E H w E H w'∧bF E H w':=by have hk:Keeps E w.heap E w'.heap:=⟨rfl,fun _ h=>h,fun _ _=>rfl,fun _ _=>rfl,fun _ h=>h,fun x hx=>b.block x (r.BO x hx)⟩;refine⟨⟨rfl,fun _ h=>h,fun _ _=>rfl,fun _ _=>rfl,fun _ h=>h,fun _ h=> .inl h,Nat.le_refl _,.inr rfl,fun _ h=> .inl h,b.os,b.tape,b.output,b.size,fun x hx _=>b.block x hx,fun id o h _=> ⟨id,o,h,rfl⟩⟩,r.fresh,r.res,fun id o h=>?_,r.inj,fun x hx=>Nat.lt_of_lt_of_le (r.BO x hx) b.size,Glob.keep r.glob hk.ro hk.Nr⟩;obtain⟨h1,h2,h3⟩:=r.live id o h;exact⟨h1,h2.keep hk h1 (b.block _ (jG r h)),h3⟩
def memo (args:List AV) (v:AV):List AV→St→T (AV×St):=fun aGL s=>if jZ aGL args then .ret (v,s) else .fail
def gives (args:List AV) (v:AV) (f:List AV→St→T (AV×St)):Bool:=
 tZ args && jO v && (match f args ⟨.nil,Hp.zero,[]⟩ with | .ret (u,_)=>eY u v | _=>false)
theorem Ls [Glob] {g:FuncId} {f:List AV→St→T (AV×St)} (hf:mP P g f) {fn:Func} (hfn:P.funcs[g]?=some fn) (hname:(fn.name == "runtime.NumGoroutine")=false) {c:Code} (hb:fn.body=some c)
 {args:List AV} {v:AV} (h:gives args v f=true):mP P g (memo args v):=by
 intro aGL s E w vals u s' r hv hp hl;unfold memo at hl;split at hl
 ·rename_i hs;have:=aH hl;simp only [Prod.mk.injEq] at this;obtain⟨rfl,rfl⟩:=this;rw [gY _ _ hs] at hv;unfold gives at h;simp only [Bool.and_eq_true] at h;obtain⟨⟨h1,h2⟩,h3⟩:=h;split at h3
  ·rename_i u' s1 hrun;have hu:=nM _ _ h3;subst hu;have hc:=HY hf hfn hname hb (ρ:=E.ρ) (ro:=E.ro) (w:=w) r.BO r.glob (rX args vals h1 hv) (v:=u') (s':=s1) (by rw [hrun]; rfl);refine⟨rfl,hp,?_⟩
   have hrun:(callFunc g vals.toArray).run P w= .ok (.enter g vals.toArray) w:=by unfold callFunc;simp [hfn,hb,by simpa using hname]
   unfold uT uS;rw [hrun];exact Calls.mono hc fun e w' ⟨x,E',he,hx,_,hbl⟩=> ⟨x,he,E,(Ee r hbl).1,(Ee r hbl).2,Eb u' x h2 hx⟩
  ·simp at h3
 ·simp [T.leaf] at hl
def orElse (f g:List AV→St→T (AV×St)):List AV→St→T (AV×St):=fun aGL s=>match f aGL s with | .fail=>g aGL s | x=>x
theorem yL [Glob] {id:FuncId} {f g:List AV→St→T (AV×St)} (hf:mP P id f) (hg:mP P id g):mP P id (orElse f g):=by
 intro aGL s E w vals u s' r hv hp hl;unfold orElse at hl;split at hl
 ·exact hg aGL s E w vals u s' r hv hp hl
 ·exact hf aGL s E w vals u s' r hv hp hl
end
end
end Go.As
end
section
namespace Go.As
noncomputable section
open Go.RowKit
section
variable {P:Program}
theorem DX {g:FuncId} {fn:Func} {e:Array Value→Sem Value} (hf:P.funcs[g]?=some fn) (hname:(fn.name == "runtime.NumGoroutine")=false) (hb:fn.body.isNone=true) (hn:Extern.findNext fn=none) (he:Extern.find fn=some e)
 {args:Array Value} {w:World} {u:Value} (hr:(e args).run P w= .ok u w):(callFunc g args).run P w= .ok (.value u) w:=by
 have hb2:fn.body=none:=by simpa using hb
 unfold callFunc;simp [hf,hb2,by simpa using hname,hn,he,hr]
def Pv (c:Nat):List Nat→Nat
 | []=>0
 | x :: xs=>if x.beq c then Pv c xs+1 else Pv c xs
def I8:List AV→St→T (AV×St):=fun args s=>match args with
 | [.str b,.int .u8 (.lit (.ofNat c))]=>if c < 256 then .ret (.int .i64 (.lit (Int.ofNat (Pv c b))),s) else .fail
 | _=> .fail
theorem Ur {a b:Nat} (ha:a < 256) (hb:b < 256):(UInt8.ofNat a == UInt8.ofNat b)=a.beq b:=by
 rw [Bool.eq_iff_iff];simp only [beq_iff_eq,Nat.beq_eq];constructor
 ·intro h;have:=congrArg UInt8.toNat h;simp only [UInt8.toNat_ofNat'] at this;omega
 ·intro h;rw [h]
theorem TL {c:Nat} (hc:c < 256): ∀{s:List Nat},(∀b∈s,b < 256)→Lib.countByte (s.map UInt8.ofNat) (UInt8.ofNat c)=Pv c s
 | [],_=>rfl
 | x :: xs,h=>by have ih:=TL hc (s:=xs) fun b hb=>h b (by simp [hb]);unfold Lib.countByte at *;rw [List.map_cons,List.count_cons,ih,Ur (h x (by simp)) hc];simp only [Pv];cases x.beq c <;> simp
theorem asO [Glob] {g:FuncId} {fn:Func} (hf:P.funcs[g]?=some fn) (hname:(fn.name == "runtime.NumGoroutine")=false) (hb:fn.body.isNone=true) (hn:Extern.findNext fn=none) (he:Extern.find fn=some Extern.BytealgCount.count):mP P g I8:=by
 intro aGL s E w vals u s' r hv hp hl;unfold I8 at hl;split at hl
 ·rename_i b c;split at hl
  ·rename_i hc;have:=aH hl;simp only [Prod.mk.injEq] at this;obtain⟨rfl,rfl⟩:=this;simp only [bJ,VR,SE.den] at hv;obtain⟨u1,r1,rfl,⟨rfl,hbb⟩,u2,r2,rfl,rfl,rfl⟩:=hv;refine⟨rfl,hp,?_⟩;unfold uT uS;rw [DX hf hname hb hn he (Lib.run_countString (bY b) (Int.ofNat c) w)];refine⟨E,Stp.refl _ _ _,r,?_⟩;simp only [VR,SE.den];have:(Int.ofNat c).toNat.toUInt8=UInt8.ofNat c:=rfl;rw [this];have h2:(bY b).data.toList=b.map UInt8.ofNat:=by simp [bY]
   rw [h2,TL hc hbb];rfl
  ·simp [T.leaf] at hl
 ·simp [T.leaf] at hl
def Og (c:Nat):List Nat→Int
 | []=> -1
 | x :: xs=>if x.beq c then 0 else match Og c xs with
   | .ofNat n=> .ofNat (n+1)
   | .negSucc n=> .negSucc n
def I7:List AV→St→T (AV×St):=fun args s=>match args with
 | [.str b,.int .u8 (.lit (.ofNat c))]=>if c < 256 then .ret (.int .i64 (.lit (Og c b)),s) else .fail
 | _=> .fail
theorem SV {c:Nat} (hc:c < 256): ∀{s:List Nat},(∀b∈s,b < 256)→Lib.indexByte (s.map UInt8.ofNat) (UInt8.ofNat c)=Og c s
 | [],_=>rfl
 | x :: xs,h=>by
   have ih:=SV hc (s:=xs) fun b hb=>h b (by simp [hb]);have hge:=Lib.indexByte_ge (xs.map UInt8.ofNat) (UInt8.ofNat c);simp only [List.map_cons,Lib.indexByte,Og];rw [Ur (h x (by simp)) hc];cases x.beq c
   ·simp only [Bool.false_eq_true,if_false];rw [ih] at hge ⊢
    cases hi:Og c xs with
    | ofNat n=>rw [hi] at hge; simp
    | negSucc n=>
      rw [hi] at hge;have:n=0:=by omega
      subst this;rfl
   ·rfl
theorem aoA [Glob] {g:FuncId} {fn:Func} (hf:P.funcs[g]?=some fn) (hname:(fn.name == "runtime.NumGoroutine")=false) (hb:fn.body.isNone=true) (hn:Extern.findNext fn=none) (he:Extern.find fn=some Extern.BytealgIndexByte.indexByte):mP P g I7:=by
 intro aGL s E w vals u s' r hv hp hl;unfold I7 at hl;split at hl
 ·rename_i b c;split at hl
  ·rename_i hc;have:=aH hl;simp only [Prod.mk.injEq] at this;obtain⟨rfl,rfl⟩:=this;simp only [bJ,VR,SE.den] at hv;obtain⟨u1,r1,rfl,⟨rfl,hbb⟩,u2,r2,rfl,rfl,rfl⟩:=hv;refine⟨rfl,hp,?_⟩;unfold uT uS;rw [DX hf hname hb hn he (Lib.run_indexByteString (bY b) (Int.ofNat c) w)];refine⟨E,Stp.refl _ _ _,r,?_⟩;simp only [VR,SE.den];have:(Int.ofNat c).toNat.toUInt8=UInt8.ofNat c:=rfl;rw [this];have h2:(bY b).data.toList=b.map UInt8.ofNat:=by simp [bY]
   rw [h2,SV hc hbb]
  ·simp [T.leaf] at hl
 ·simp [T.leaf] at hl
def UZ:List Nat→List Nat→Bool
 | [],_=>true
 | _ :: _,[]=>false
 | a :: x,b :: y=>if a.beq b then UZ x y else false
def FP (c:List Nat):List Nat→Bool
 | []=>UZ c []
 | b :: bs=>if UZ c (b :: bs) then true else FP c bs
def Ap:List AV→St→T (AV×St):=fun args s=>match args with
 | [.str b,.str c]=>if b.length < 4294967281 then .ret (.bool (.lit (FP c b)),s) else .fail
 | _=> .fail
theorem adA: ∀{c s:List Nat},(∀b∈c,b < 256)→(∀b∈s,b < 256)→(c.map UInt8.ofNat).isPrefixOf (s.map UInt8.ofNat)=UZ c s
 | [],_,_,_=>by simp [UZ]
 | _ :: _,[],_,_=>by simp [UZ]
 | a :: x,b :: y,hc,hs=>by have ih:=adA (c:=x) (s:=y) (fun z hz=>hc z (by simp [hz])) (fun z hz=>hs z (by simp [hz]));simp only [List.map_cons,List.isPrefixOf,UZ];rw [Ur (hc a (by simp)) (hs b (by simp)),ih];cases a.beq b <;> simp
theorem index_ge (sub:List UInt8): ∀l:List UInt8,-1≤Lib.index l sub
 | []=>by unfold Lib.index; split <;> omega
 | b :: l=>by
   have ih:=index_ge sub l;unfold Lib.index;split
   ·omega
   ·split <;> omega
theorem L8 {c:List Nat} (hc: ∀b∈c,b < 256): ∀{s:List Nat},(∀b∈s,b < 256)→Lib.contains (s.map UInt8.ofNat) (c.map UInt8.ofNat)=FP c s
 | [],_=>by cases c <;> simp [Lib.contains,Lib.index,FP,UZ]
 | b :: bs,h=>by
   have ih:=L8 hc (s:=bs) fun z hz=>h z (by simp [hz]);have hp:=adA hc h;simp only [List.map_cons] at hp;unfold Lib.contains at *;simp only [List.map_cons,Lib.index,FP];rw [hp,← ih];have hge:=index_ge (c.map UInt8.ofNat) (bs.map UInt8.ofNat);cases UZ c (b :: bs)
   ·simp only [Bool.false_eq_true,if_false];by_cases h1:Lib.index (bs.map UInt8.ofNat) (c.map UInt8.ofNat)= -1
    ·rw [h1]; rfl
    ·rw [if_neg (by simpa using h1)];rw [decide_eq_decide];omega
   ·simp
theorem Yn [Glob] {g:FuncId} (hg: ∀(ρ:Nat→Int) (ro:Nat→Prop) (w:World),Glob.ok ρ ro w.heap→∀s sub:ByteArray,s.size < 4294967281→Calls P g #[.string s,.string sub] w fun e w'=>e= .returned (.bool (Lib.contains s.data.toList sub.data.toList))∧w'=w)
 (hrun: ∀(args:Array Value) (w:World),(callFunc g args).run P w= .ok (.enter g args) w):mP P g Ap:=by
 intro aGL s E w vals u s' r hv hp hl;unfold Ap at hl;split at hl
 ·rename_i b c;split at hl
  ·rename_i hlen;have:=aH hl;simp only [Prod.mk.injEq] at this;obtain⟨rfl,rfl⟩:=this;simp only [bJ,VR] at hv;obtain⟨u1,r1,rfl,⟨rfl,hbb⟩,u2,r2,rfl,⟨rfl,hcc⟩,rfl⟩:=hv;refine⟨rfl,hp,?_⟩;unfold uT uS;rw [hrun];refine Calls.mono (hg E.ρ E.ro w r.glob (bY b) (bY c) (by simpa [bY,ByteArray.size] using hlen)) fun e w' ⟨he,hw⟩=>?_;subst hw;refine⟨_,he,E,Stp.refl _ _ _,r,?_⟩;simp only [VR,SB.den];have h2: ∀l:List Nat,(bY l).data.toList=l.map UInt8.ofNat:=by intro l; simp [bY]
   rw [h2,h2,L8 hcc hbb]
  ·simp [T.leaf] at hl
 ·simp [T.leaf] at hl
end
end
end Go.As
end
section
namespace Go.As
noncomputable section
structure Kr where
 m:Nat
 k:Kind
 st:Nat
 rd:List Nat
structure YN where
 is:List Kr
 nE:Nat
 rs:List (Nat×List Nat)
def ZP:Kind→Kind→Bool
 | .pa,.pa=>true
 | .e,.e=>true
 | .r,.r=>true
 | _,_=>false
def EZ:List Nat→List Nat→Bool
 | [],[]=>true
 | a :: x,b :: y=>Nat.beq a b && EZ x y
 | _,_=>false
def II:List Item→List Kr→Bool
 | [],[]=>true
 | x :: xs,d :: ds=>Nat.beq x.m d.m && ZP x.k d.k && Nat.beq x.st d.st && EZ x.rd d.rd && II xs ds
 | _,_=>false
def IE:List (Item×List Nat)→List (Nat×List Nat)→Bool
 | [],[]=>true
 | (x,ks) :: xs,(i,js) :: ys=>Nat.beq x.i i && EZ ks js && IE xs ys
 | _,_=>false
def Io:Nat→List Oper→List Kr→List Item
 | i,o :: os,d :: ds=> ⟨i,o,d.m,d.k,d.st,d.rd⟩ :: Io (i+1) os ds
 | _,_,_=>[]
def agF (is:List Item):List (Nat×List Nat)→List (Item×List Nat)
 | []=>[]
 | (i,ks) :: r=>match gQ is i with
   | some x=>(x,ks) :: agF is r
   | none=>agF is r
def statOf (all:List Oper) (H:YN):Stat:=⟨Io 0 all H.is,H.nE,agF (Io 0 all H.is) H.rs⟩
def CG (tt:TT) (all:List Oper) (H:YN):Bool:=match stat tt all with
 | none=>false
 | some q=>II q.is H.is && Nat.beq q.nE H.nE && IE q.rs H.rs
theorem ahI {a b:Kind} (h:ZP a b=true):a=b:=by cases a <;> cases b <;> simp [ZP] at h <;> rfl
theorem IV: ∀{a b:List Nat},EZ a b=true→a=b
 | [],[],_=>rfl
 | [],_ :: _,h=>by simp [EZ] at h
 | _ :: _,[],h=>by simp [EZ] at h
 | a :: x,b :: y,h=>by simp only [EZ,Bool.and_eq_true] at h;rw [Nat.eq_of_beq_eq_true h.1,IV h.2]
theorem SL {tt:TT} {all:List Oper} {ms:List Nat}: ∀{os:List Oper} {i n:Nat} {ds:List Kr},II (items tt all ms os i n) ds=true→items tt all ms os i n=Io i os ds
 | [],i,n,ds,h=>by cases ds <;> simp [items,II,Io] at *
 | o :: os,i,n,ds,h=>by
   cases ds with
   | nil=>simp [items,II] at h
   | cons d ds=> simp only [items,II,Bool.and_eq_true] at h;obtain⟨⟨⟨⟨h1,h2⟩,h3⟩,h4⟩,h5⟩:=h;have ih:=SL h5;simp only [items,Io];rw [ih,Nat.eq_of_beq_eq_true h1,ahI h2,Nat.eq_of_beq_eq_true h3,IV h4]
theorem acX {is:List Item}: ∀{xs:List (Item×List Nat)} {ys:List (Nat×List Nat)},(∀p∈xs,gQ is p.1.i=some p.1)→IE xs ys=true→agF is ys=xs
 | [],[],_,_=>rfl
 | [],_ :: _,_,h=>by simp [IE] at h
 | _ :: _,[],_,h=>by simp [IE] at h
 | (x,ks) :: xs,(i,js) :: ys,hm,h=>by simp only [IE,Bool.and_eq_true] at h;have h1:=hm (x,ks) (by simp);simp only [agF];rw [← Nat.eq_of_beq_eq_true h.1.1,h1,← IV h.1.2,acX (fun p hp=>hm p (by simp [hp])) h.2]
theorem WA: ∀{i:Nat} {os:List Oper} {ds:List Kr} {x:Item},x∈Io i os ds→i≤x.i∧gQ (Io i os ds) (x.i - i)=some x
 | _,[],_,_,h=>by simp [Io] at h
 | _,_ :: _,[],_,h=>by simp [Io] at h
 | i,o :: os,d :: ds,x,h=>by
   simp only [Io,List.mem_cons] at h ⊢;rcases h with rfl | h
   ·simp [gQ]
   ·obtain⟨h1,h2⟩:=WA h;refine⟨by omega,?_⟩;have:x.i - i=(x.i - (i+1))+1:=by omega
    rw [this];exact h2
theorem I9 {tt:TT} {all:List Oper} {H:YN} (h:CG tt all H=true):stat tt all=some (statOf all H):=by
 unfold CG at h;split at h
 ·simp at h
 ·rename_i q hq;rw [hq];simp only [Bool.and_eq_true] at h;obtain⟨⟨h1,h2⟩,h3⟩:=h;have hq':=hq;unfold stat at hq';simp only at hq';split at hq'
  ·simp only [Option.some.injEq] at hq';subst hq';have e1:=SL h1;simp only at h2 h3
   have e3:agF (Io 0 all H.is) H.rs=_:=acX (is:=Io 0 all H.is) (by
    intro p hp;simp only [List.mem_map,List.mem_filter] at hp;obtain⟨x,⟨hx,_⟩,rfl⟩:=hp;rw [e1] at hx;have:=(WA hx).2
    simpa using this) h3
   unfold statOf;rw [e3,← Nat.eq_of_beq_eq_true h2,← e1]
  ·simp at hq'
end
end Go.As
end
section
namespace Go.As
noncomputable section
def Ey (pos:Nat→Nat) (o:Oper):Oper:={ o with after:=o.after.map (fun e=>{ e with on:=pos e.on }),guard:=match o.guard with | none=>none | some (j,b)=>some (pos j,b) }
def posOf:List Nat→Nat→Nat
 | [],_=>0
 | x :: xs,i=>match Nat.beq x i with
   | true=>0
   | false=>posOf xs i+1
def JI (pos:Nat→Nat) (all:List Oper):List Nat→List Oper
 | []=>[]
 | i :: is=>match gQ all i with
   | some o=>Ey pos o :: JI pos all is
   | none=>[]
def iP (ord:List Nat) (all:List Oper):List Oper:=JI (posOf ord) all ord
def U0 (ord:List Nat) (n:Nat):Bool:=
 Nat.beq ord.length n && (List.range n).all (fun i=>match gQ ord (posOf ord i) with | some j=>Nat.beq i j | none=>false) &&
 (List.range n).all (fun j=>match gQ ord j with | some i=>Nat.blt i n && Nat.beq (posOf ord i) j | none=>false)
theorem Xi: ∀(ord:List Nat) (i:Nat),posOf ord i≤ord.length
 | [],_=>Nat.le_refl _
 | x :: xs,i=>by
   simp only [posOf,List.length_cons];split
   ·omega
   ·have:=Xi xs i; omega
theorem RI: ∀(ord:List Nat) (i:Nat),posOf ord i < ord.length→ord[posOf ord i]?=some i
 | [],_,h=>by simp [posOf] at h
 | x :: xs,i,h=>by
   simp only [posOf,List.length_cons] at h ⊢;split
   ·rename_i he;simp [Nat.eq_of_beq_eq_true he]
   ·rename_i he;rw [he] at h;simp only at h;simpa using RI xs i (by omega)
structure Perm (n:Nat) (ord:List Nat):Prop where
 len:ord.length=n
 at': ∀i,i < n→ord[posOf ord i]?=some i
 back: ∀j,j < n→∃i,ord[j]?=some i∧i < n∧posOf ord i=j
theorem agR {ord:List Nat} {n:Nat} (h:U0 ord n=true):Perm n ord:=by
 unfold U0 at h;simp only [Bool.and_eq_true,List.all_eq_true,List.mem_range] at h;obtain⟨⟨h1,h2⟩,h3⟩:=h;refine⟨Nat.eq_of_beq_eq_true h1,fun i hi=>?_,fun j hj=>?_⟩
 ·have:=h2 i hi;split at this
  ·rename_i j hjj;rw [dB] at hjj;rw [hjj,Nat.eq_of_beq_eq_true this]
  ·simp at this
 ·have:=h3 j hj;split at this
  ·rename_i i hii;rw [dB] at hii;simp only [Bool.and_eq_true] at this;exact⟨i,hii,by simpa [Nat.blt_eq] using this.1,Nat.eq_of_beq_eq_true this.2⟩
  ·simp at this
theorem Perm.lt {n:Nat} {ord:List Nat} (p:Perm n ord) {i:Nat} (hi:i < n):posOf ord i < n:=by have:=p.at' i hi;rw [← p.len];exact (List.getElem?_eq_some_iff.1 this).1
theorem Perm.ge {n:Nat} {ord:List Nat} (p:Perm n ord) {i:Nat} (hi: ¬i < n):posOf ord i=n:=by
 have h1:=Xi ord i;rw [p.len] at h1;rcases Nat.lt_or_ge (posOf ord i) n with h | h
 ·have h2:=RI ord i (by rw [p.len]; exact h);obtain⟨k,h3,h4,_⟩:=p.back _ h;rw [h2] at h3;simp only [Option.some.injEq] at h3;omega
 ·omega
theorem Perm.inj {n:Nat} {ord:List Nat} (p:Perm n ord) {i j:Nat} (hi:i < n) (hj:j < n) (h:posOf ord i=posOf ord j):i=j:=by have h1:=p.at' i hi;have h2:=p.at' j hj;rw [h,h2] at h1;simpa using h1.symm
theorem RN {pos:Nat→Nat} {all:List Oper}: ∀{is:List Nat},(∀i∈is,i < all.length)→∀j:Nat,(JI pos all is)[j]?=(is[j]?).bind fun i=>(all[i]?).map (Ey pos)
 | [],_,j=>by simp [JI]
 | i :: is,h,j=>by
   have hi:=h i (by simp);have ih:=RN (pos:=pos) (is:=is) fun k hk=>h k (by simp [hk]);simp only [JI];rw [dB,List.getElem?_eq_getElem hi]
   cases j with
   | zero=>simp [List.getElem?_eq_getElem hi]
   | succ j=>simpa using ih j
section
variable {P:Program}
theorem tC {ord:List Nat} {ops:Array Oper} (p:Perm ops.size ord) {i:Nat} (hi:i < ops.size):(iP ord ops.toList)[posOf ord i]?=(ops[i]?).map (Ey (posOf ord)):=by
 unfold iP
 rw [RN (by
  intro k hk;obtain⟨j,hj,rfl⟩:=List.getElem_of_mem hk;obtain⟨i',h1,h2,_⟩:=p.back j (by rw [← p.len]; exact hj);rw [List.getElem?_eq_getElem hj] at h1;simp only [Option.some.injEq] at h1;rw [h1]
  simpa using h2),p.at' i hi]
 simp
theorem wR {ord:List Nat} {ops:Array Oper} (p:Perm ops.size ord):(iP ord ops.toList).length=ops.size:=by
 have h0: ∀j,j < ops.size→(iP ord ops.toList)[j]?.isSome=true:=by intro j hj;obtain⟨i,_,h2,h3⟩:=p.back j hj;have:=tC p h2;rw [h3] at this;rw [this];simp [h2]
 have hle:(iP ord ops.toList).length≤ops.size:=by
  have: ∀(is:List Nat),(JI (posOf ord) ops.toList is).length≤is.length:=by
   intro is
   induction is with
   | nil=>simp [JI]
   | cons i is ih=>simp only [JI]; split <;> simp; omega
  have:=this ord;rw [p.len] at this;exact this
 rcases Nat.lt_or_ge (iP ord ops.toList).length ops.size with h | h
 ·have:=h0 _ h;rw [List.getElem?_eq_none (Nat.le_refl _)] at this;simp at this
 ·omega
theorem amF (pos:Nat→Nat) (o:Oper) (a:Act) (w:World) (K:Act→World→Prop) (Q:Exit→Act→World→Prop):(Ey pos o).wp P a w K Q=o.wp P a w K Q:=rfl
theorem Zw (pos:Nat→Nat) (o:Oper) (a:Act) (w:World):(Ey pos o).asks P a w=o.asks P a w:=rfl
theorem Uk {ord:List Nat} {ops:Array Oper} (p:Perm ops.size ord) (tmps:Array Value) (j:Nat):yielded (iP ord ops.toList).toArray tmps (posOf ord j)=yielded ops tmps j:=by
 unfold yielded
 have:((iP ord ops.toList).toArray[posOf ord j]?).bind (·.dst)=(ops[j]?).bind (·.dst):=by
  rw [List.getElem?_toArray];rcases Nat.lt_or_ge j ops.size with h | h
  ·rw [tC p h];cases ops[j]? <;> rfl
  ·rw [p.ge (by omega),List.getElem?_eq_none (by rw [wR p]; exact Nat.le_refl _),Array.getElem?_eq_none h]
 rw [this]
theorem WG {ord:List Nat} {ops:Array Oper} (p:Perm ops.size ord) (tmps:Array Value) (o:Oper) :
 Region.wanted (Ey (posOf ord) o) (yielded (iP ord ops.toList).toArray tmps)=Region.wanted o (yielded ops tmps):=by
 unfold Region.wanted Ey
 cases hg:o.guard with
 | none=>rfl
 | some g=> obtain⟨j,b⟩:=g;simp only;rw [Uk p]
theorem lY {md:Region.Mode} {ops:Array Oper} {listed:Array Bool} {i:Nat}:i∈Region.ready md ops listed↔∃o,ops[i]?=some o∧listed.getD i true=false∧∀e∈o.after.toList,Region.binds md e=true→listed.getD e.on false=true:=by
 unfold Region.ready;simp only [List.mem_filter,List.mem_range,Bool.and_eq_true,Bool.not_eq_true'];constructor
 ·rintro⟨h1,h2,h3⟩;have e:=Array.getElem?_eq_getElem h1;refine⟨_,e,h2,?_⟩;rw [e] at h3;simp only [Option.map_some,Option.getD_some,Array.all_eq_true_iff_forall_mem] at h3;intro x hx hb;have:=h3 x (by simpa using hx);rw [hb] at this;simpa using this
 ·rintro⟨o,h1,h2,h3⟩;have hi:i < ops.size:=(Array.getElem?_eq_some_iff.1 h1).1;refine⟨hi,h2,?_⟩;rw [h1];simp only [Option.map_some,Option.getD_some,Array.all_eq_true_iff_forall_mem];intro x hx
  cases hb:Region.binds md x with
  | false=>rfl
  | true=>simpa using h3 x (by simpa using hx) hb
theorem EU {md:Region.Mode} {ord:List Nat} {ops:Array Oper} (p:Perm ops.size ord) {listed listed':Array Bool} (hz:listed.size=ops.size) (hz':listed'.size=ops.size) (hl: ∀i,i < ops.size→listed'[posOf ord i]?=listed[i]?) {i:Nat} (hi:i < ops.size) :
 posOf ord i∈Region.ready md (iP ord ops.toList).toArray listed'↔i∈Region.ready md ops listed:=by
 have hg: ∀(k:Nat) (d:Bool),listed'.getD (posOf ord k) d=listed.getD k d:=by
  intro k d;simp only [Array.getD_eq_getD_getElem?];rcases Nat.lt_or_ge k ops.size with h | h
  ·rw [hl k h]
  ·rw [p.ge (by omega),Array.getElem?_eq_none (by omega),Array.getElem?_eq_none (by omega)]
 rw [lY,lY,List.getElem?_toArray,tC p hi,hg];constructor
 ·rintro⟨o,h1,h2,h3⟩;rw [Option.map_eq_some_iff] at h1;obtain⟨o0,h0,rfl⟩:=h1;refine⟨o0,h0,h2,fun e he hb=>?_⟩
  have:=h3 { e with on:=posOf ord e.on } (by
   simp only [Ey,Array.toList_map,List.mem_map]
   exact⟨e,he,rfl⟩) hb
  rwa [hg] at this
 ·rintro⟨o,h1,h2,h3⟩;refine⟨Ey (posOf ord) o,by rw [h1]; rfl,h2,fun e he hb=>?_⟩;simp only [Ey,Array.toList_map,List.mem_map] at he;obtain⟨e0,he0,rfl⟩:=he;show listed'.getD (posOf ord e0.on) false=true;rw [hg];exact h3 e0 he0 hb
theorem YZ {md:Region.Mode} {ord:List Nat} {ops:Array Oper} (p:Perm ops.size ord) {Q:Exit→Act→World→Prop}: ∀(fuel:Nat) (listed listed':Array Bool) (a:Act) (w:World),listed.size=ops.size→listed'.size=ops.size→
 (∀i,i < ops.size→listed'[posOf ord i]?=listed[i]?)→wpAny P md (iP ord ops.toList).toArray Q fuel listed' a w→wpAny P md ops Q fuel listed a w:=by
 have aEb: ∀(listed listed':Array Bool),listed.size=ops.size→listed'.size=ops.size→(∀i,i < ops.size→listed'[posOf ord i]?=listed[i]?)→
  (Region.ready md (iP ord ops.toList).toArray listed'= []↔Region.ready md ops listed= []):=by
  intro listed listed' hz hz' hl;constructor
  ·intro h;rw [List.eq_nil_iff_forall_not_mem] at h ⊢;intro i hm
   have hi:i < ops.size:=by obtain⟨o,ho,_⟩:=lY.1 hm;exact (Array.getElem?_eq_some_iff.1 ho).1
   exact h _ ((EU p hz hz' hl hi).2 hm)
  ·intro h;rw [List.eq_nil_iff_forall_not_mem] at h ⊢;intro j hm
   have hj:j < ops.size:=by obtain⟨o,ho,_⟩:=lY.1 hm;rw [List.getElem?_toArray] at ho;rw [← wR p];exact (List.getElem?_eq_some_iff.1 ho).1
   obtain⟨i,_,h2,h3⟩:=p.back j hj;subst h3;exact h _ ((EU p hz hz' hl h2).1 hm)
 intro fuel
 induction fuel with
 | zero=> intro listed listed' a w hz hz' hl h;exact⟨(aEb _ _ hz hz' hl).1 h.1,h.2⟩
 | succ fuel ih=>
   intro listed listed' a w hz hz' hl h;refine⟨fun h0=>h.1 ((aEb _ _ hz hz' hl).2 h0),fun i hm=>?_⟩
   have hi:i < ops.size:=by obtain⟨o,ho,_⟩:=lY.1 hm;exact (Array.getElem?_eq_some_iff.1 ho).1
   have hh:=h.2 _ ((EU p hz hz' hl hi).2 hm)
   have hstep: ∀a w,wpAny P md (iP ord ops.toList).toArray Q fuel (listed'.setIfInBounds (posOf ord i) true) a w→wpAny P md ops Q fuel (listed.setIfInBounds i true) a w:=by
    intro a w hw;refine ih _ _ a w (by simp [hz]) (by simp [hz']) (fun k hk=>?_) hw;rw [Array.getElem?_setIfInBounds,Array.getElem?_setIfInBounds];by_cases hik:i=k
    ·subst hik;rw [if_pos rfl,if_pos rfl,hz,hz',if_pos hi,if_pos (p.lt hi)]
    ·rw [if_neg hik,if_neg (fun h=>hik (p.inj hi hk h)),hl k hk]
   have h2:=wpOp_mono hstep hh;unfold wpOp at h2 ⊢;rw [List.getElem?_toArray,tC p hi] at h2
   cases ho:ops[i]? with
   | none=>rw [ho] at h2; exact h2
   | some o=> rw [ho] at h2;simp only [Option.map_some] at h2 ⊢;rw [WG p,amF,Zw] at h2;exact h2
structure atP where
 ord:List Nat
 h:YN
def asA (tt:TT) (H:Nat→Nat→Option atP) (call:dU) (g id:Nat) (all:List Oper) (s:St):T St:=match H g id with
 | some p=>match p.ord with
   | []=>O7 tt call all (statOf all p.h) s
   | o :: os=>match iP (o :: os) all with
     | all'=>O7 tt call all' (statOf all' p.h) s
 | none=> .fail
def aDf (tt:TT) (H:Nat→Nat→Option atP) (g id:Nat) (all:List Oper):Bool:=match H g id with
 | some p=>match p.ord with
   | []=>CG tt all p.h
   | o :: os=>U0 (o :: os) all.length && CG tt (iP (o :: os) all) p.h
 | none=>true
theorem arZ [Glob] {tt:TT} (htt:eP P tt) (hm:P.follows .mixedOrders=true) {H:Nat→Nat→Option atP} {call:dU} (hc:jU P call) (g:Nat):Dp P (aDf tt H g) (asA tt H call g):=by
 intro id ops hk E s s' a w Q hd fit h hq;unfold aDf at hk;unfold asA at h;split at hk
 ·rename_i p hp;rw [hp] at h;simp only at h;split at hk
  ·rename_i he;rw [he] at h;have:=I9 hk;refine ayA htt hm hc id ops E s s' a w Q hd fit ?_ hq;unfold draw;rw [this];exact h
  ·rename_i o os he;rw [he] at h;simp only at h;simp only [Bool.and_eq_true] at hk;have hp:=agR hk.1;have hp:Perm ops.size (o :: os):=by simpa using hp
   have:=I9 hk.2;refine wp_region_any hm ?_
   have hd': ∀x∈((iP (o :: os) ops.toList).toArray).toList,∀d,x.dst=some d→d < a.tmps.size:=by
    intro x hx d hxd;obtain⟨j,hj,rfl⟩:=List.getElem_of_mem hx;have hj':j < ops.size:=by rw [← wR hp]; exact hj
    obtain⟨i,_,h2,h3⟩:=hp.back j hj';have hg:=tC hp h2;rw [h3] at hg
    have hx2:(iP (o :: os) ops.toList)[j]?=some ((iP (o :: os) ops.toList).toArray.toList[j]):=by rw [List.getElem?_eq_getElem hj]
    rw [hx2] at hg;rw [Array.getElem?_eq_getElem h2] at hg;simp only [Option.map_some,Option.some.injEq] at hg;rw [hg] at hxd;exact hd (ops[i]) (by simp) d hxd
   have key:=O6 (ops:=(iP (o :: os) ops.toList).toArray) htt hc hd' fit (by
    unfold draw;rw [this]
    exact h) hq
   have hsz:(iP (o :: os) ops.toList).toArray.size=ops.size:=by simpa using wR hp
   rw [hsz] at key;refine YZ hp _ _ _ _ _ (by simp) (by simp) (fun i hi=>?_) key;rw [Array.getElem?_replicate,Array.getElem?_replicate,if_pos hi,if_pos (hp.lt hi)]
 ·rename_i hh;rw [hh] at h;simp [T.leaf] at h
end
end
end Go.As
end
section
namespace Go.As
noncomputable section
def RP (h:Hp):List Nat→Tr dW→Tr dW
 | [],t=>t
 | i :: is,t=>match h.get i with
   | some o=>RP h is (t.put i (some o))
   | none=>RP h is t
theorem IK {h:Hp}: ∀(is:List Nat) (t:Tr dW),(∀id o,t.get id=some o→h.get id=some o)→∀id o,(RP h is t).get id=some o→h.get id=some o
 | [],_,ht,id,o,hg=>ht id o hg
 | i :: is,t,ht,id,o,hg=>by
   simp only [RP] at hg;split at hg
   ·rename_i x hx;refine IK is _ (fun j y hy=>?_) id o hg;rw [Tr.get_put] at hy;split at hy
    ·rename_i he;subst he;simp only [Option.some.injEq] at hy;subst hy;exact hx
    ·exact ht j y hy
   ·exact IK is t ht id o hg
def IG:List (SE×List AV)→List (SE×List AV)→Bool
 | [],[]=>true
 | (i,a) :: x,(j,b) :: y=>gI i j && jZ a b && IG x y
 | _,_=>false
theorem Rn: ∀{a b:List (SE×List AV)},IG a b=true→a=b
 | [],[],_=>rfl
 | [],_ :: _,h=>by simp [IG] at h
 | _ :: _,[],h=>by simp [IG] at h
 | (i,a) :: x,(j,b) :: y,h=>by simp only [IG,Bool.and_eq_true] at h;rw [bW _ _ h.1.1,gY _ _ h.1.2,Rn h.2]
def UL:dW→dW→Bool
 | .cells a e,.cells b f=>jZ a b && Nat.beq e f
 | .vec a t e x,.vec b u f y=>gI a b && Nat.beq t u && Nat.beq e f && IG x y
 | _,_=>false
theorem Zr {a b:dW} (h:UL a b=true):a=b:=by
 cases a <;> cases b <;> simp only [UL,Bool.false_eq_true,Bool.and_eq_true] at h
 ·rw [gY _ _ h.1,Nat.eq_of_beq_eq_true h.2]
 ·rw [bW _ _ h.1.1.1,Nat.eq_of_beq_eq_true h.1.1.2,Nat.eq_of_beq_eq_true h.1.2,Rn h.2]
def JD {α:Type} (f:α→α→Bool):Tr α→Tr α→Bool
 | .nil,.nil=>true
 | .node v l r,.node u x y=>(match v,u with | some a,some b=>f a b | none,none=>true | _,_=>false) && JD f l x && JD f r y
 | _,_=>false
theorem F8 {α:Type} {f:α→α→Bool} (hf: ∀a b,f a b=true→a=b): ∀(a b:Tr α),JD f a b=true→a=b
 | .nil,b,h=>by cases b <;> simp [JD] at h; rfl
 | .node v l r,b,h=>by
   cases b with
   | nil=>simp [JD] at h
   | node u x y=>
     simp only [JD,Bool.and_eq_true] at h;rw [F8 hf l x h.1.2,F8 hf r y h.2];have h1:=h.1.1;cases v <;> cases u <;> simp only [Bool.false_eq_true] at h1
     ·rfl
     ·rw [hf _ _ h1]
def inL (i:Nat):List Nat→Bool
 | []=>false
 | j :: l=>match Nat.beq i j with
   | true=>true
   | false=>inL i l
theorem Vj {i:Nat}: ∀{l:List Nat},inL i l=true↔i∈l
 | []=>by simp [inL]
 | j :: l=>by
   simp only [inL,List.mem_cons];split
   ·rename_i h; simp [Nat.eq_of_beq_eq_true h]
   ·rename_i h; rw [Vj]; simp [Nat.ne_of_beq_eq_false h]
def without (i:Nat):List Nat→List Nat
 | []=>[]
 | j :: l=>match Nat.beq i j with
   | true=>without i l
   | false=>j :: without i l
theorem wS {i k:Nat}: ∀{l:List Nat},k∈without i l↔k∈l∧k≠i
 | []=>by simp [without]
 | j :: l=>by
   simp only [without];split
   ·rename_i h;have:=Nat.eq_of_beq_eq_true h;subst this;rw [wS];simp only [List.mem_cons];constructor
    ·rintro⟨h1,h2⟩; exact⟨.inr h1,h2⟩
    ·rintro⟨h1 | h1,h2⟩
     ·exact absurd h1 h2
     ·exact⟨h1,h2⟩
   ·rename_i h;have:=Nat.ne_of_beq_eq_false h;simp only [List.mem_cons];rw [wS];constructor
    ·rintro (rfl | ⟨h1,h2⟩)
     ·exact⟨.inl rfl,fun e=>this e.symm⟩
     ·exact⟨.inr h1,h2⟩
    ·rintro⟨h1 | h1,h2⟩
     ·exact .inl h1
     ·exact .inr ⟨h1,h2⟩
def SA (all:List Oper) (rem:List Nat) (i:Nat):Bool:=match gQ all i with
 | some o=>o.after.toList.all fun e=>!Region.binds .any e || (!inL e.on rem && Nat.blt e.on all.length)
 | none=>false
def YB (tt:TT) (call:dU) (all:List Oper) (pc:List (SB×Bool)) (tS:Tr AV) (tH:Hp):Nat→List Nat→Tr AV→Hp→Bool
 | 0,rem,S,H=>match rem with
   | []=>JD eY S tS && JD UL H.m tH.m && Nat.beq H.next tH.next && (match H.res with | none=>true | _=>false)
   | _=>false
 | n+1,rem,S,H=>match rem with
   | []=>false
   | _=>rem.any (SA all rem) && rem.all fun i=>match SA all rem i with
     | false=>true
     | true=>match gQ all i with
       | some o=>match ev1 tt call all o ⟨S,H,pc⟩ with
         | .ret (v,s')=>YB tt call all pc tS tH n (without i rem) (BJ S o.dst v) s'.h
         | _=>false
       | none=>false
section
variable {P:Program}
theorem alS {E:En} {h:Array Obj} {S:Tr AV} {a:Act} (sr:SR E h S a) {d:Option Nat} {v:AV} {u:Value} (hd: ∀t,d=some t→t < a.tmps.size) (hv:VR E h v u):SR E h (BJ S d v) (a.put d u):=by
 cases d with
 | none=>exact sr
 | some t=>exact sr.put (hd t rfl) hv
theorem atI [Glob] {tt:TT} (htt:eP P tt) {call:dU} (hc:jU P call) {ops:Array Oper} {ρ:Nat→Int} {pc:List (SB×Bool)} (hpc:bI ρ pc) {tS:Tr AV} {tH:Hp} (htr:tH.res=none) {Q:Exit→Act→World→Prop} {m:Nat} (hd: ∀o∈ops.toList,∀d,o.dst=some d→d < m) :
 ∀(n:Nat) (rem:List Nat) (S:Tr AV) (H:Hp) (E:En) (a:Act) (w:World) (listed:Array Bool),YB tt call ops.toList pc tS tH n rem S H=true→E.ρ=ρ→bF E H w→SR E w.heap S a→a.tmps.size=m→listed.size=ops.size→
  (∀i,i < ops.size→(listed[i]?=some true↔i∉rem))→(∀i∈rem,i < ops.size)→
  (∀(a':Act) (w':World) (E':En),Stp E H w E' tH w'→bF E' tH w'→SR E' w'.heap tS a'→a'.tmps.size=m→a'.defers=a.defers→Q .normal a' w')→wpAny P .any ops Q n listed a w:=by
 intro n;have hat: ∀(i:Nat),gQ ops.toList i=ops[i]?:=fun i=>by rw [dB,Array.getElem?_toList]
 have amG: ∀(rem:List Nat) (listed:Array Bool),listed.size=ops.size→(∀i,i < ops.size→(listed[i]?=some true↔i∉rem))→∀i,i∈Region.ready .any ops listed→i∈rem∧SA ops.toList rem i=true∧i < ops.size:=by
  intro rem listed hsz hl i hi;obtain⟨o,ho,h1,h2⟩:=lY.1 hi;have hin:i < ops.size:=(Array.getElem?_eq_some_iff.1 ho).1
  have hf:listed[i]?=some false:=by
   have e:listed[i]?=some (listed[i]'(by omega)):=by simp
   rw [e];simp only [Array.getD_eq_getD_getElem?,e,Option.getD_some] at h1;rw [h1]
  refine⟨?_,?_,hin⟩
  ·apply Classical.byContradiction;intro hn;rw [(hl i hin).2 hn] at hf;simp at hf
  ·unfold SA;rw [hat,ho];simp only [List.all_eq_true];intro e he
   cases hb:Region.binds .any e with
   | false=>rfl
   | true=>
     have:=h2 e he hb
     have hlt:e.on < ops.size:=by
      rcases Nat.lt_or_ge e.on ops.size with h | h
      ·exact h
      ·simp [Array.getD_eq_getD_getElem?,Array.getElem?_eq_none (show listed.size≤e.on by omega)] at this
     simp only [Bool.not_true,Bool.false_or,Bool.and_eq_true,Bool.not_eq_true'];refine⟨?_,by simpa [Nat.blt_eq] using hlt⟩
     cases hin2:inL e.on rem with
     | false=>rfl
     | true=>
       exfalso;have hm:=Vj.1 hin2;have e1:listed[e.on]?=some (listed[e.on]'(by omega)):=by simp [hsz,hlt]
       simp only [Array.getD_eq_getD_getElem?,e1,Option.getD_some] at this;rw [this] at e1;exact (hl e.on hlt).1 e1 hm
 have aBE: ∀(rem:List Nat) (listed:Array Bool),listed.size=ops.size→(∀i,i < ops.size→(listed[i]?=some true↔i∉rem))→(∀i∈rem,i < ops.size)→rem.any (SA ops.toList rem)=true→Region.ready .any ops listed≠[]:=by
  intro rem listed hsz hl hr hany hnil;rw [List.any_eq_true] at hany;obtain⟨i,hi,hm⟩:=hany;have hin:=hr i hi
  have:i∈Region.ready .any ops listed:=by
   rw [lY];unfold SA at hm;rw [hat] at hm;split at hm
   ·rename_i o ho;refine⟨o,ho,?_,fun e he hb=>?_⟩
    ·have e1:listed[i]?=some (listed[i]'(by omega)):=by simp [hsz,hin]
     simp only [Array.getD_eq_getD_getElem?,e1,Option.getD_some]
     cases hb:listed[i]'(by omega) with
     | false=>rfl
     | true=> rw [hb] at e1;exact absurd hi ((hl i hin).1 e1)
    ·rw [List.all_eq_true] at hm;have:=hm e he;rw [hb] at this;simp only [Bool.not_true,Bool.false_or,Bool.and_eq_true,Bool.not_eq_true'] at this;obtain⟨this,hlt⟩:=this;have hlt:e.on < ops.size:=by simpa [Nat.blt_eq] using hlt
     have hnot:e.on∉rem:=fun h=>by rw [Vj.2 h] at this; simp at this
     have:=(hl e.on hlt).2 hnot;simp [Array.getD_eq_getD_getElem?,this]
   ·simp at hm
  rw [hnil] at this;simp at this
 induction n with
 | zero=>
   intro rem S H E a w listed h hρ r sr ha hsz hl hr hq;simp only [YB] at h;split at h
   ·simp only [Bool.and_eq_true] at h;obtain⟨⟨⟨h1,h2⟩,h3⟩,h4⟩:=h;have e1:=F8 nM _ _ h1;have e2:=F8 (fun _ _=>Zr) _ _ h2;have e3:=Nat.eq_of_beq_eq_true h3
    have e4:H.res=none:=by
     split at h4
     ·assumption
     ·simp at h4
    have eH:H=tH:=by obtain⟨m1,n1,r1⟩:=H;obtain⟨m2,n2,r2⟩:=tH;simp only at e2 e3 e4 htr;subst e2 e3 e4 htr;rfl
    subst e1 eH;refine⟨?_,hq a w E (Stp.refl _ _ _) r sr ha rfl⟩;rw [List.eq_nil_iff_forall_not_mem];intro i hi;have:=(amG [] listed hsz hl i hi).1;simp at this
   ·simp at h
 | succ n ih=>
   intro rem S H E a w listed h hρ r sr ha hsz hl hr hq;simp only [YB] at h;split at h
   ·simp at h
   ·rename_i hne;simp only [Bool.and_eq_true] at h;refine⟨fun h0=>absurd h0 (aBE rem listed hsz hl hr h.1),fun i hi=>?_⟩;obtain⟨g1,g2,g3⟩:=amG rem listed hsz hl i hi;have hi2:=(List.all_eq_true.1 h.2) i g1;rw [g2] at hi2;simp only at hi2;split at hi2
    ·rename_i o ho;have ho':ops[i]?=some o:=by rw [← hat]; exact ho
     split at hi2
     ·rename_i v s' hev;have hact:=VN htt hc (ops:=ops) (o:=o) (s:=⟨S,H,pc⟩) (s':=s') (v:=v) (ρ:=ρ) hpc (by rw [hev]; rfl);refine hact.wpOp hρ r sr ho' fun u E' w' st r' hv=>?_
      have hdo: ∀t,o.dst=some t→t < a.tmps.size:=by intro t ht;rw [ha];exact hd o (Array.mem_toList_iff.2 (Array.mem_of_getElem? ho')) t ht
      have sr':SR E' w'.heap (BJ S o.dst v) (a.put o.dst u):=alS (sr.keep (st.keeps r)) hdo hv;refine ih (without i rem) _ _ E' (a.put o.dst u) w' (listed.setIfInBounds i true) hi2 (st.ρ.trans hρ) r' sr' (by rw [Nz]; exact ha) (by simpa using hsz) ?_ ?_ ?_
      ·intro k hk;rw [Array.getElem?_setIfInBounds,wS];by_cases hik:i=k
       ·subst hik;rw [if_pos rfl,if_pos (by omega)];simp
       ·rw [if_neg hik,hl k hk];constructor
        ·intro h1 h2; exact h1 h2.1
        ·intro h1 h2; exact h1 ⟨h2,fun e=>hik e.symm⟩
      ·intro k hk;exact hr k (wS.1 hk).1
      ·intro a' w2 E2 st2 r2 sr2 hs2 hd2;exact hq a' w2 E2 (st.trans st2) r2 sr2 hs2 (by rw [hd2,As.put_defers])
     ·simp at hi2
    ·simp at hi2
end
end
end Go.As
end
section
namespace Go.As
noncomputable section
def OW (o:Oper) (j:Nat):Bool:=o.after.toList.any fun e=>Region.binds .any e && Nat.beq e.on j
def UG (n1:Nat) (all:List Oper):Bool:=
 Nat.blt 0 n1 && Nat.ble n1 all.length &&
 (List.range all.length).all (fun j=>match gQ all j with
  | some o=>match Nat.blt j n1 with
    | true=>(o.after.toList.all fun e=>!Region.binds .any e || Nat.blt e.on j) && (match o.guard with | some (k,_)=>Nat.blt k n1 | none=>true)
    | false=>OW o (n1 - 1)
  | none=>false) &&
 (match gQ all (n1 - 1) with
  | some o=>(List.range (n1 - 1)).all fun i=>OW o i
  | none=>false)
structure abJ (n1:Nat) (ops:Array Oper):Prop where
 pos:0 < n1
 le:n1≤ops.size
 back: ∀(i:Nat) (o:Oper),i < n1→ops[i]?=some o→∀e∈o.after.toList,Region.binds .any e=true→e.on < i
 guard: ∀(i:Nat) (o:Oper),i < n1→ops[i]?=some o→∀k b,o.guard=some (k,b)→k < n1
 late: ∀(i:Nat) (o:Oper),n1≤i→ops[i]?=some o→∃e∈o.after.toList,Region.binds .any e=true∧e.on=n1 - 1
 last: ∀(o:Oper),ops[n1 - 1]?=some o→∀i,i < n1 - 1→∃e∈o.after.toList,Region.binds .any e=true∧e.on=i
theorem TD {o:Oper} {j:Nat} (h:OW o j=true): ∃e∈o.after.toList,Region.binds .any e=true∧e.on=j:=by unfold OW at h;rw [List.any_eq_true] at h;obtain⟨e,he,h⟩:=h;simp only [Bool.and_eq_true] at h;exact⟨e,he,h.1,Nat.eq_of_beq_eq_true h.2⟩
theorem Zn {n1:Nat} {ops:Array Oper} (h:UG n1 ops.toList=true):abJ n1 ops:=by
 have hat: ∀(i:Nat),gQ ops.toList i=ops[i]?:=fun i=>by rw [dB,Array.getElem?_toList]
 unfold UG at h;simp only [Bool.and_eq_true] at h;obtain⟨⟨⟨h1,h2⟩,h3⟩,h4⟩:=h;have h1:0 < n1:=by simpa [Nat.blt_eq] using h1
 have h2:n1≤ops.size:=by simpa using Nat.le_of_ble_eq_true h2
 rw [List.all_eq_true] at h3
 have h3: ∀(i:Nat) (o:Oper),ops[i]?=some o→(match Nat.blt i n1 with
  | true=>(o.after.toList.all fun e=>!Region.binds .any e || Nat.blt e.on i) && (match o.guard with | some (k,_)=>Nat.blt k n1 | none=>true)
  | false=>OW o (n1 - 1))=true:=by
  intro i o ho;have hi:i < ops.size:=(Array.getElem?_eq_some_iff.1 ho).1;have:=h3 i (List.mem_range.2 (by simpa using hi));rw [hat,ho] at this;exact this
 refine⟨h1,h2,?_,?_,?_,?_⟩
 ·intro i o hi ho e he hb;have:=h3 i o ho;rw [show Nat.blt i n1=true by simpa [Nat.blt_eq] using hi] at this;simp only [Bool.and_eq_true] at this;have:=(List.all_eq_true.1 this.1) e he;rw [hb] at this;simpa [Nat.blt_eq] using this
 ·intro i o hi ho k b hg;have:=h3 i o ho;rw [show Nat.blt i n1=true by simpa [Nat.blt_eq] using hi] at this;simp only [Bool.and_eq_true,hg] at this;simpa [Nat.blt_eq] using this.2
 ·intro i o hi ho;have:=h3 i o ho
  rw [show Nat.blt i n1=false by
   cases hb:Nat.blt i n1 with
   | false=>rfl
   | true=>rw [Nat.blt_eq] at hb; omega] at this
  exact TD this
 ·intro o ho i hi;rw [hat,ho] at h4;exact TD ((List.all_eq_true.1 h4) i (List.mem_range.2 hi))
section
variable {P:Program}
theorem wp_exit {o:Oper} {a:Act} {w:World} {K:Act→World→Prop} {Q1 Q:Exit→Act→World→Prop} (h: ∀e a w,e≠.normal→Q1 e a w→Q e a w) (hh:o.wp P a w K Q1):o.wp P a w K Q:=by
 have hl:LetsOut Q1→LetsOut Q:=fun⟨a,w,h1⟩=> ⟨a,w,h _ _ _ (by simp) h1⟩;unfold Oper.wp at *;generalize (execOp a.eval o).run P w=r at *
 cases r with
 | ok n w'=>
   cases n <;> simp only [Oper.upon] at hh ⊢ <;>
    first
     | exact hh
     | exact Calls.mono hh (fun e w'' he=>by cases e <;> first | exact he | exact h _ _ _ (by simp) he | exact hl he)
 | halt x w'=>cases x <;> simp only [Oper.upon] at hh ⊢ <;> first | exact hh | exact h _ _ _ (by simp) hh
theorem Xx {l l':Nat→Bool} {i:Nat} (h1:l i=false) (h2:l' i=true) (h: ∀j,j≠i→l' j=l j): ∀n,i < n→left l' n+1=left l n
 | 0,hi=>by omega
 | n+1,hi=>by
   simp only [left];by_cases hin:i=n
   ·subst hin
    have: ∀m,m≤i→left l' m=left l m:=by
     intro m
     induction m with
     | zero=>intro _; rfl
     | succ m ih=> intro hm;simp only [left];rw [ih (by omega),h m (by omega)]
    rw [this i (Nat.le_refl _)];simp [h1,h2]
   ·have:=Xx h1 h2 h n (by omega);rw [h n (fun e=>hin e.symm)];omega
theorem Oa {l:Nat→Bool}: ∀n,(∀i,i < n→l i=true)→left l n=0
 | 0,_=>rfl
 | n+1,h=>by simp only [left];rw [Oa n (fun i hi=>h i (by omega)),h n (by omega)];rfl
def firstT (n1 n:Nat):Array Bool:=(Array.range n).map fun i=>decide (i < n1)
theorem WC {n1:Nat} {ops:Array Oper} (sf:abJ n1 ops) {Q Q1:Exit→Act→World→Prop} (hq: ∀e a w,e≠.normal→Q1 e a w→Q e a w) (hn: ∀a w,Q1 .normal a w→wpAny P .any ops Q (ops.size - n1) (firstT n1 ops.size) a w) :
 ∀(f:Nat) (l1 l:Array Bool) (a:Act) (w:World),l1.size=n1→l.size=ops.size→(∀i,i < n1→l[i]?=l1[i]?)→(∀i,n1≤i→i < ops.size→l[i]?=some false)→left (fun i=>l1.getD i true) n1=f→(l1[n1 - 1]?=some true→f=0)→
  wpAny P .any (ops.toList.take n1).toArray Q1 f l1 a w→wpAny P .any ops Q (f+(ops.size - n1)) l a w:=by
 have hR: ∀i,i < n1→(ops.toList.take n1).toArray[i]?=ops[i]?:=by intro i hi;rw [List.getElem?_toArray,List.getElem?_take,if_pos hi,Array.getElem?_toList]
 have hRs:(ops.toList.take n1).toArray.size=n1:=by have:=sf.le;simp;omega
 have hlf:LetsOut Q1→LetsOut Q:=fun⟨a,w,h1⟩=> ⟨a,w,hq _ _ _ (by simp) h1⟩
 have hget: ∀(l:Array Bool) (i:Nat),i < l.size→(l.getD i true=true↔l[i]?=some true)∧(l.getD i false=true↔l[i]?=some true):=by
  intro l i hi;have e:l[i]?=some (l[i]'hi):=by simp
  simp only [Array.getD_eq_getD_getElem?,e,Option.getD_some];simp
 intro f
 induction f with
 | zero=>
   intro l1 l a w h1 h2 h3 h4 h5 h6 hw;have hall:=I5 n1 h5
   have:l=firstT n1 ops.size:=by
    apply Array.ext_getElem?;intro i;unfold firstT;rcases Nat.lt_or_ge i ops.size with hi | hi
    ·rw [Array.getElem?_map,Array.getElem?_range,if_pos hi];rcases Nat.lt_or_ge i n1 with hi1 | hi1
     ·rw [h3 i hi1,((hget l1 i (by omega)).1.1 (hall i hi1))];simp [hi1]
     ·rw [h4 i hi1 hi];simp;omega
    ·rw [Array.getElem?_eq_none (by omega),Array.getElem?_eq_none (by simp; omega)]
   rw [this,Nat.zero_add];exact hn a w hw.2
 | succ f ih=>
   intro l1 l a w h1 h2 h3 h4 h5 h6 hw;rw [show f+1+(ops.size - n1)=(f+(ops.size - n1))+1 by omega];have hle:=sf.le;have hpos:=sf.pos;have hlast:l1[n1 - 1]?=some true→False:=fun h=>by have:=h6 h; omega
   refine⟨fun hnil=>?_,fun i hi=>?_⟩
   ·exfalso
    have hall: ∀i,i < n1→l[i]?=some true:=by
     intro i
     induction i using Nat.strongRecOn with
     | _ i ih2=>
       intro hi;apply Classical.byContradiction;intro hno;have hio:ops[i]?=some (ops[i]'(by omega)):=by simp
       have:i∈Region.ready .any ops l:=by
        rw [lY];refine⟨_,hio,?_,fun e he hb=>?_⟩
        ·cases hb:l.getD i true with
         | false=>rfl
         | true=>exact absurd ((hget l i (by omega)).1.1 hb) hno
        ·have hlt:=sf.back i _ hi hio e he hb;exact (hget l e.on (by omega)).2.2 (ih2 e.on hlt (by omega))
       rw [hnil] at this;simp at this
    have:=Oa (l:=fun i=>l1.getD i true) n1 (fun i hi=>(hget l1 i (by omega)).1.2 (by rw [← h3 i hi]; exact hall i hi));omega
   ·obtain⟨o,ho,g1,g2⟩:=lY.1 hi;have hin:i < ops.size:=(Array.getElem?_eq_some_iff.1 ho).1
    have hi1:i < n1:=by
     rcases Nat.lt_or_ge i n1 with h | h
     ·exact h
     ·exfalso;obtain⟨e,e1,e2,e3⟩:=sf.late i o h ho;have:=g2 e e1 e2;rw [e3] at this;have:=(hget l (n1 - 1) (by omega)).2.1 this;rw [h3 _ (by omega)] at this;exact hlast this
    have hl1:l1.getD i true=false:=by
     cases hb:l1.getD i true with
     | false=>rfl
     | true=> have:=(hget l1 i (by omega)).1.1 hb;rw [← h3 i hi1] at this;have:=(hget l i (by omega)).1.2 this;rw [g1] at this;simp at this
    have hed: ∀e∈o.after.toList,Region.binds .any e=true→l1.getD e.on false=true:=by intro e he hb;have hlt:=sf.back i o hi1 ho e he hb;have:=(hget l e.on (by omega)).2.1 (g2 e he hb);rw [h3 _ (by omega)] at this;exact (hget l1 e.on (by omega)).2.2 this
    have hr1:i∈Region.ready .any (ops.toList.take n1).toArray l1:=by rw [lY];exact⟨o,by rw [hR i hi1]; exact ho,hl1,hed⟩
    have hop:=hw.2 i hr1
    have hnext: ∀a w,wpAny P .any (ops.toList.take n1).toArray Q1 f (l1.setIfInBounds i true) a w→wpAny P .any ops Q (f+(ops.size - n1)) (l.setIfInBounds i true) a w:=by
     intro a w hw2
     have hleft:left (fun j=>(l1.setIfInBounds i true).getD j true) n1=f:=by
      have:=Xx (l:=fun j=>l1.getD j true) (l':=fun j=>(l1.setIfInBounds i true).getD j true) (i:=i) hl1 (by
       simp only [Array.getD_eq_getD_getElem?,Array.getElem?_setIfInBounds_self]
       split <;> rfl) (fun j hj=>by
       simp only [Array.getD_eq_getD_getElem?]
       rw [Array.getElem?_setIfInBounds_ne (fun e=>hj e.symm)]) n1 hi1
      omega
     refine ih _ _ a w (by simpa using h1) (by simpa using h2) (fun k hk=>?_) (fun k hk1 hk2=>?_) hleft (fun hlt=>?_) hw2
     ·rw [Array.getElem?_setIfInBounds,Array.getElem?_setIfInBounds,h3 k hk,h1,h2];by_cases hik:i=k
      ·rw [if_pos hik,if_pos hik,if_pos hin,if_pos hi1]
      ·rw [if_neg hik,if_neg hik]
     ·rw [Array.getElem?_setIfInBounds_ne (by omega)];exact h4 k hk1 hk2
     ·by_cases hil:i=n1 - 1
      ·rw [← hleft];refine Oa n1 fun k hk=>?_;by_cases hk2:k=i
       ·subst hk2;simp only [Array.getD_eq_getD_getElem?,Array.getElem?_setIfInBounds_self];split <;> rfl
       ·obtain⟨e,e1,e2,e3⟩:=sf.last o (by rw [← hil]; exact ho) k (by omega);have:=hed e e1 e2;rw [e3] at this;have:=(hget l1 k (by omega)).2.1 this;simp only [Array.getD_eq_getD_getElem?];rw [Array.getElem?_setIfInBounds_ne (fun e=>hk2 e.symm),this];rfl
      ·rw [Array.getElem?_setIfInBounds_ne hil] at hlt;exact absurd hlt hlast
    have hop:=wpOp_mono hnext hop;unfold wpOp at hop ⊢;rw [hR i hi1,ho] at hop;rw [ho];simp only at hop ⊢
    have hwant:Region.wanted o (yielded (ops.toList.take n1).toArray a.tmps)=Region.wanted o (yielded ops a.tmps):=by
     unfold Region.wanted
     cases hg:o.guard with
     | none=>rfl
     | some g=> obtain⟨k,b⟩:=g;simp only;have:=sf.guard i o hi1 ho k b hg;unfold yielded;rw [hR k this]
    rw [hwant] at hop;split
    ·rename_i hwt;rw [if_pos hwt] at hop;rcases hop with h | ⟨h,h'⟩
     ·exact .inl (wp_exit hq h)
     ·exact .inr ⟨h,hlf h'⟩
    ·rename_i hwt;rw [if_neg hwt] at hop;exact hop
end
end
end Go.As
end
section
namespace Go.As
noncomputable section
def Nv (n1 n:Nat):List Nat:=(List.range (n - n1)).map fun k=>k+n1
def aDY:AV→List Nat
 | .ptr i _=>[i]
 | .slice i _ _ _=>[i]
 | _=>[]
def aBY (S:Tr AV):List Nat→List Nat
 | []=>[]
 | t :: ts=>match S.get t with
   | some v=>aDY v++aBY S ts
   | none=>aBY S ts
def aeG (all:List Oper) (S:Tr AV):List Nat→List Nat
 | []=>[]
 | i :: is=>match gQ all i with
   | some o=>aBY S (NR o.op)++aeG all S is
   | none=>aeG all S is
def alW (tt:TT) (call:dU) (all:List Oper) (pc:List (SB×Bool)):List Nat→Tr AV→Hp→Option (Tr AV×Hp)
 | [],S,H=>some (S,H)
 | i :: is,S,H=>match gQ all i with
   | some o=>match ev1 tt call all o ⟨S,H,pc⟩ with
     | .ret (v,s')=>alW tt call all pc is (BJ S o.dst v) s'.h
     | _=>none
   | none=>none
def VW (tt:TT) (call:dU) (all:List Oper) (n1:Nat) (s1:St):T St:=
 match s1.h.res with
 | some _=> .fail
 | none=>match (⟨RP s1.h (aeG all s1.slots (Nv n1 all.length)) .nil,s1.h.next,none⟩ : Hp) with
   | small=>match alW tt call all s1.pc (Nv n1 all.length) s1.slots small with
     | some (S,H)=>match H.res with
       | none=>match Nat.beq H.next s1.h.next && YB tt call all s1.pc S H (all.length - n1) (Nv n1 all.length) s1.slots small with
         | true=> .ret ⟨S,⟨Tr.over H.m (Tr.minus small.m s1.h.m),s1.h.next,none⟩,s1.pc⟩
         | false=> .fail
       | some _=> .fail
     | none=> .fail
structure Uh where
 ord:List Nat
 n1:Nat
 h:YN
def TG (tt:TT) (H:Nat→Nat→Option Uh) (call:dU) (g id:Nat) (all:List Oper) (s:St):T St:=match H g id with
 | some p=>match p.n1 with
   | 0=>match p.ord with
     | []=>O7 tt call all (statOf all p.h) s
     | o :: os=>match iP (o :: os) all with
       | all'=>O7 tt call all' (statOf all' p.h) s
   | n1=>(O7 tt call (all.take n1) (statOf (all.take n1) p.h) s).bind (VW tt call all n1)
 | none=> .fail
def V7 (tt:TT) (H:Nat→Nat→Option Uh) (g id:Nat) (all:List Oper):Bool:=match H g id with
 | some p=>match p.n1 with
   | 0=>match p.ord with
     | []=>CG tt all p.h
     | o :: os=>U0 (o :: os) all.length && CG tt (iP (o :: os) all) p.h
   | n1=>UG n1 all && CG tt (all.take n1) p.h
 | none=>true
section
variable {P:Program}
theorem Sz {n1 n i:Nat} (h:n1≤n):i∈Nv n1 n↔n1≤i∧i < n:=by
 unfold Nv;rw [List.mem_map];constructor
 ·rintro⟨k,hk,rfl⟩;rw [List.mem_range] at hk;omega
 ·rintro⟨h1,h2⟩;exact⟨i - n1,List.mem_range.2 (by omega),by omega⟩
theorem ahH (n:Nat): ∀m,m≤n→left (fun i=>(Array.replicate n false).getD i true) m=m:=by
 intro m
 induction m with
 | zero=>intro _; rfl
 | succ m ih=>
   intro hm;have hlt:m < n:=by omega
   simp only [left];rw [ih (by omega)];simp [hlt]
theorem aaZ [Glob] {tt:TT} (htt:eP P tt) {call:dU} (hc:jU P call) {ops:Array Oper} {n1:Nat} (sf:abJ n1 ops) {E:En} {s s1 s':St} {a a1:Act} {w w1:World} {Q:Exit→Act→World→Prop}
 (hd: ∀o∈ops.toList,∀d,o.dst=some d→d < a.tmps.size) (ht:Then E s a w s1 a1 w1) (h:(VW tt call ops.toList n1 s1).leaf E.ρ=some s') (hq: ∀a' w',Then E s a w s' a' w'→Q .normal a' w') :
 wpAny P .any ops Q (ops.size - n1) (firstT n1 ops.size) a1 w1:=by
 obtain⟨d1,z1,E1,st1,f1⟩:=ht;have hlen:ops.toList.length=ops.size:=Array.length_toList;unfold VW at h;split at h
 ·simp [T.leaf] at h
 ·rename_i hres;simp only at h;split at h
  ·rename_i S H hseq;split at h
   ·rename_i hHr;split at h
    ·rename_i hall;simp only [Bool.and_eq_true] at hall;have hnx:=Nat.eq_of_beq_eq_true hall.1;have:=aH h;subst this
     have hsub: ∀id o,(⟨RP s1.h (aeG ops.toList s1.slots (Nv n1 ops.toList.length)) .nil,s1.h.next,none⟩ : Hp).get id=some o→s1.h.get id=some o:=
      fun id o hg=>IK _ _ (fun _ _ hh=>by simp [Tr.get] at hh) id o hg
     have rs:=f1.rel.part hsub (Nat.le_refl _) (by simp);have hpc:bI E1.ρ s1.pc:=f1.pc;have hal:=hall.2;rw [hlen] at hal;refine atI htt hc (ops:=ops) (ρ:=E1.ρ) (pc:=s1.pc) hpc hHr (m:=a.tmps.size) hd (ops.size - n1) (Nv n1 ops.size) s1.slots _ E1 a1 w1 (firstT n1 ops.size) hal rfl (by rw [hlen] at rs; exact rs) f1.sr z1 (by simp [firstT]) ?_ ?_ ?_
     ·intro i hi;rw [Sz sf.le];unfold firstT;rw [Array.getElem?_map,Array.getElem?_range,if_pos hi];simp only [Option.map_some,Option.some.injEq,decide_eq_true_eq];omega
     ·intro i hi;exact ((Sz sf.le).1 hi).2
     ·intro a2 w2 E2 st2 r2 sr2 z2 d2;rw [hlen] at hsub;obtain⟨Hc,e0,_,_,r3,YP⟩:=aoX f1.rel hsub st2 r2 s1.h.next (fun id hid=>r2.fresh id (by omega))
      have eG:=YP.strong (by rw [e0]; exact Nat.le_refl _) (by rw [e0]) (fun id hdm=>by
       rcases st2.dmn id hdm with h1 | h1 | h1
       ·exact .inl h1
       ·have h1':s1.h.next≤id∧id < H.next:=h1;omega
       ·simp at h1)
      subst e0;refine hq a2 w2 ⟨d2.trans d1,z2,E2,st1.trans ?_,?_⟩
      ·rw [hlen]; exact eG
      ·refine⟨by rw [hlen]; exact r3,sr2,?_⟩;show bI E2.ρ s1.pc;rw [st2.ρ];exact hpc
    ·simp [T.leaf] at h
   ·simp [T.leaf] at h
  ·simp [T.leaf] at h
theorem Hq [Glob] {tt:TT} (htt:eP P tt) (hm:P.follows .mixedOrders=true) {H:Nat→Nat→Option Uh} {call:dU} (hc:jU P call) (g:Nat):Dp P (V7 tt H g) (TG tt H call g):=by
 intro id ops hk E s s' a w Q hd fit h hq;unfold V7 at hk;unfold TG at h;split at hk
 ·rename_i p hp;rw [hp] at h;simp only at h;split at hk
  ·rename_i hn;rw [hn] at h;simp only at h
   have hP:=arZ (P:=P) htt hm (H:=fun _ _=>some ⟨p.ord,p.h⟩) hc g id ops (by
    unfold aDf
    exact hk) E s s' a w Q hd fit (by
    unfold asA
    exact h) hq
   exact hP
  ·rename_i n1 hn;split at h
   ·rename_i h0;exact absurd h0 hn
   ·rename_i n1' _;simp only [Bool.and_eq_true] at hk;have sf:=Zn hk.1;have hst:=I9 hk.2;obtain⟨s1,h1,h2⟩:=T.fU h;refine wp_region_any hm ?_;have hle:=sf.le;have hRs:(ops.toList.take p.n1).toArray.size=p.n1:=by simp; omega
    have hd1: ∀o∈(ops.toList.take p.n1).toArray.toList,∀d,o.dst=some d→d < a.tmps.size:=by intro o ho;exact hd o (List.mem_of_mem_take (by simpa using ho))
    have key:=O6 (P:=P) (ops:=(ops.toList.take p.n1).toArray) (Q:=fun e a' w'=>match e with | .normal=>wpAny P .any ops Q (ops.size - p.n1) (firstT p.n1 ops.size) a' w' | e=>Q e a' w') htt hc hd1 fit (s':=s1) (by
     unfold draw;rw [List.toList_toArray,hst]
     exact h1) (fun a' w' ht=>aaZ htt hc sf hd ht h2 hq)
    rw [hRs] at key
    have:=WC sf (Q:=Q) (fun e a w hne hh=>by
     cases e with
     | normal=>exact absurd rfl hne
     | _=>exact hh) (fun a w hh=>hh) p.n1 (Array.replicate p.n1 false) (Array.replicate ops.size false) a _ (by simp) (by simp) (fun i hi=>by
     rw [Array.getElem?_replicate,Array.getElem?_replicate,if_pos hi,if_pos (by omega)]) (fun i _ hi=>by
     rw [Array.getElem?_replicate,if_pos hi]) (by
     exact ahH p.n1 p.n1 (Nat.le_refl _)) (fun hh=>by
     rw [Array.getElem?_replicate,if_pos (by have:=sf.pos; omega)] at hh
     simp at hh) key
    rw [show p.n1+(ops.size - p.n1)=ops.size by omega] at this;exact this
 ·rename_i hh;rw [hh] at h;simp [T.leaf] at h
end
end
end Go.As
end
section
namespace Go.As
noncomputable section
def lim {α:Type} (n:Nat) (t:Tr α) (k:Nat):Option α:=match Nat.ble n k with
 | true=>none
 | false=>t.get k
theorem adO {α:Type} {n:Nat} {t:Tr α} {f:Nat→Option α} (h:(List.range n).map t.get=(List.range n).map f) {k:Nat} {x:α} (hk:lim n t k=some x):f k=some x:=by
 unfold lim at hk;split at hk
 ·simp at hk
 ·rename_i hle
  have hlt:k < n:=by
   have: ¬(n≤k):=by intro h;rw [Nat.ble_eq_true_of_le h] at hle;simp at hle
   omega
  have:=congrArg (fun l=>l[k]?) h;simp only [List.getElem?_map,List.getElem?_range hlt,Option.map_some,Option.some.injEq] at this;rw [← this];exact hk
section
variable {P:Program}
theorem atX {n:Nat} {tab:Tr TI} (h:(List.range n).map tab.get=(List.range n).map (auC P)):eP P (lim n tab):=fun _ _ hk=>auB (adO h hk)
def aBI (chk:Nat→List Oper→Bool) (f:Func):Bool:=!(f.name == "runtime.NumGoroutine") && (match f.body with | some c=>mJ chk f.ntmps c | none=>true)
def hAt {α:Type} (t:Tr (Tr α)) (g id:Nat):Option α:=match t.get g with
 | some u=>u.get id
 | none=>none
theorem awL {n:Nat} {Vm:Tr Func} (h:(List.range n).map Vm.get=(List.range n).map (fun g=>P.funcs[g]?)) {chk:Nat→Nat→List Oper→Bool} (hc:(List.range n).all (fun g=>match Vm.get g with | some f=>aBI (chk g) f | none=>true)=true):aiM P chk (lim n Vm):=by
 intro g fn hk;have h1:=adO h hk;refine⟨h1,?_⟩
 have hlt:g < n:=by
  unfold lim at hk;split at hk
  ·simp at hk
  ·rename_i hle;rcases Nat.lt_or_ge g n with h | h
   ·exact h
   ·rw [Nat.ble_eq_true_of_le h] at hle; simp at hle
 have hget:Vm.get g=some fn:=by
  unfold lim at hk;split at hk
  ·simp at hk
  ·exact hk
 have:=List.all_eq_true.1 hc g (List.mem_range.2 hlt);rw [hget] at this;simp only [aBI,Bool.and_eq_true,Bool.not_eq_true'] at this;refine⟨this.1,fun c hb=>?_⟩;rw [hb] at this;exact this.2
end
end
end Go.As
end
section
namespace Go.As
noncomputable section
structure Ren where
 ns:List SE
 bl:List Nat
 sh:List Nat
def Ren.se (r:Ren):SE→SE
 | .lit n=> .lit n
 | .aP i=>match gQ r.ns i with | some e=>e | none=> .aP i
 | .add a b=> .add (r.se a) (r.se b)
 | .sub a b=> .sub (r.se a) (r.se b)
 | .mul a b=> .mul (r.se a) (r.se b)
 | .quo a b=> .quo (r.se a) (r.se b)
 | .rem a b=> .rem (r.se a) (r.se b)
 | .wrap k a=> .wrap k (r.se a)
 | .inp b e=> .inp b (r.se e)
 | .dat d=> .dat d
 | .op o a b=>match o with
   | .len=>eX (r.se a)
   | o=> .op o (r.se a) (r.se b)
 | .ap f a=> .ap f (r.se a)
def Ren.sb (r:Ren):SB→SB
 | .lit b=> .lit b
 | .lt a b=>kT (r.se a) (r.se b)
 | .le a b=> .le (r.se a) (r.se b)
 | .eq a b=>Ef (r.se a) (r.se b)
 | .not s=> .not (r.sb s)
 | .and a b=> .and (r.sb a) (r.sb b)
def Ren.id (r:Ren) (i:Nat):Nat:=match gQ r.bl i with | some j=>j | none=>0
def Ren.Bv (r:Ren) (i:Nat):Nat:=match gQ r.sh i with | some j=>j | none=>0
mutual
def Ren.av (r:Ren):AV→AV
 | .bool b=> .bool (r.sb b)
 | .int k e=> .int k (r.se e)
 | .str s=> .str s
 | .ptr i o=> .ptr (r.id i) (r.Bv i+o)
 | .jR=> .jR
 | .rO cs=> .rO (r.KD cs)
 | .slice i o l c=> .slice (r.id i) (r.Bv i+o) l c
 | .aA=> .aA
 | .ro cs n f=> .ro (r.KD cs) n f
 | .map i=> .map (r.id i)
 | .pO=> .pO
 | .func f a b=> .func f (r.KD a) (r.KD b)
 | .zZ=> .zZ
 | .iface t v=> .iface t (r.av v)
 | .E5=> .E5
 | .agg cs=> .agg (r.KD cs)
 | .tuple cs=> .tuple (r.KD cs)
 | .opq i=> .opq i
 | .inp k ks=> .inp k ks
 | .emp=> .emp
 | .dat e t=> .dat (r.se e) t
 | .mD e=> .mD (r.se e)
 | .vM i n t=>match r.Bv i with
   | 0=> .vM (r.id i) (r.se n) t
   | _=> .opq 0
 | .qL i es x o=>match r.Bv i with
   | 0=> .qL (r.id i) es (r.se x) o
   | _=> .opq 0
 | .Bo i lo n t=>match r.Bv i with
   | 0=> .Bo (r.id i) (r.se lo) (r.se n) t
   | _=> .opq 0
 | .any=> .any
 | .Ik z t=> .Ik (r.se z) t
def Ren.KD (r:Ren):List AV→List AV
 | []=>[]
 | x :: xs=>r.av x :: r.KD xs
end
mutual
def qV (n:Nat):AV→Bool
 | .ptr i _=>Nat.blt i n
 | .slice i _ _ _=>Nat.blt i n
 | .map i=>Nat.blt i n
 | .vM i _ _=>Nat.blt i n
 | .qL i _ _ _=>Nat.blt i n
 | .Bo i _ _ _=>Nat.blt i n
 | .rO cs=>uK n cs
 | .ro cs _ _=>uK n cs
 | .func _ a b=>uK n a && uK n b
 | .iface _ v=>qV n v
 | .agg cs=>uK n cs
 | .tuple cs=>uK n cs
 | _=>true
def uK (n:Nat):List AV→Bool
 | []=>true
 | x :: xs=>qV n x && uK n xs
end
def Ren.env (r:Ren) (ρ:Nat→Int) (i:Nat):Int:=match gQ r.ns i with | some e=>e.den ρ | none=>ρ i
theorem Sj {α:Type}: ∀{l:List α} {i:Nat},l.length≤i→gQ l i=none
 | [],_,_=>rfl
 | _ :: _,0,h=>by simp at h
 | _ :: l,i+1,h=>by simp only [gQ]; exact Sj (by simpa using h)
theorem Ren.pF {r:Ren} (h:r.ns.length≤900) {ρ:Nat→Int} {i:Nat} (hi:900≤i):r.env ρ i=ρ i:=by unfold Ren.env;rw [Sj (by omega)]
theorem Ren.dZ {r:Ren} (h:r.ns.length≤900) (ρ:Nat→Int): ∀e:SE,(r.se e).den ρ=e.den (r.env ρ)
 | .lit n=>rfl
 | .aP i=>by simp only [Ren.se,SE.den,Ren.env];split <;> rfl
 | .add a b=>by simp only [Ren.se,SE.den,Ren.dZ h ρ a,Ren.dZ h ρ b]
 | .sub a b=>by simp only [Ren.se,SE.den,Ren.dZ h ρ a,Ren.dZ h ρ b]
 | .mul a b=>by simp only [Ren.se,SE.den,Ren.dZ h ρ a,Ren.dZ h ρ b]
 | .quo a b=>by simp only [Ren.se,SE.den,Ren.dZ h ρ a,Ren.dZ h ρ b]
 | .rem a b=>by simp only [Ren.se,SE.den,Ren.dZ h ρ a,Ren.dZ h ρ b]
 | .wrap k a=>by simp only [Ren.se,SE.den,Ren.dZ h ρ a]
 | .inp b e=>by simp only [Ren.se,SE.den,Ren.dZ h ρ e];rw [Ren.pF h (by omega)]
 | .dat d=>rfl
 | .op o a b=>by
   cases o with
   | len=> simp only [Ren.se,dD,Ren.dZ h ρ a];simp [SE.den,iO.den]
   | _=>simp only [Ren.se,SE.den,Ren.dZ h ρ a,Ren.dZ h ρ b]
 | .ap f a=>by simp only [Ren.se,SE.den,Ren.dZ h ρ a];rw [Ren.pF h (by unfold kJ; omega)]
theorem Ren.IB {r:Ren} (h:r.ns.length≤900) (ρ:Nat→Int): ∀c:SB,(r.sb c).den ρ=c.den (r.env ρ)
 | .lit b=>rfl
 | .lt a b=>by simp only [Ren.sb,dV,SB.den,Ren.dZ h]
 | .le a b=>by simp only [Ren.sb,SB.den,Ren.dZ h]
 | .eq a b=>by simp only [Ren.sb,lV,SB.den,Ren.dZ h]
 | .not s=>by simp only [Ren.sb,SB.den,Ren.IB h ρ s]
 | .and a b=>by simp only [Ren.sb,SB.den,Ren.IB h ρ a,Ren.IB h ρ b]
def En.ren (E:En) (r:Ren):En:={ ρ:=r.env E.ρ,θ:=fun i=>((E.θ (r.id i)).1,(E.θ (r.id i)).2+r.Bv i),κ:=fun i=>E.κ (r.id i) - r.Bv i,dm:=fun i=>i < r.bl.length∧E.dm (r.id i),ro:=E.ro }
theorem FD {i n:Nat} (h:Nat.blt i n=true):i < n:=by have:=Nat.le_of_ble_eq_true h;omega
mutual
theorem VR.ren {E:En} {r:Ren} {h:Array Obj} (hl:r.ns.length≤900): ∀(x:AV) (u:Value),qV r.bl.length x=true→VR E h (r.av x) u→VR (E.ren r) h x u
 | .bool b,u,_,hv=>by simp only [Ren.av,VR,En.ren,Ren.IB hl] at *; exact hv
 | .int k e,u,_,hv=>by simp only [Ren.av,VR,En.ren,Ren.dZ hl] at *; exact hv
 | .str s,u,_,hv=>by simp only [Ren.av,VR] at *; exact hv
 | .ptr i o,u,hi,hv=>by simp only [Ren.av,VR,En.ren,qV] at *; exact⟨by rw [hv.1,Nat.add_assoc],FD hi,hv.2⟩
 | .jR,u,_,hv=>by simp only [Ren.av,VR] at *; exact hv
 | .rO cs,u,hi,hv=>by simp only [Ren.av,VR,qV] at *;obtain⟨b,o,us,h1,h2,h3,h4⟩:=hv;exact⟨b,o,us,h1,h2,bJ.ren hl cs us hi h3,h4⟩
 | .slice i o l c,u,hi,hv=>by
   simp only [Ren.av,VR,qV] at *;obtain⟨h1,a,cap,h2,h3,h4⟩:=hv;refine⟨⟨FD hi,h1⟩,a,cap,h2,h3,?_⟩
   cases c with
   | exact k=> simp only [fP,En.ren] at *;exact⟨h4.1,h4.2.imp (fun h=>by rw [h,Nat.add_assoc]) id⟩
   | rest es=>
     simp only [fP,En.ren] at *;rcases h4 with ⟨q1,q2⟩ | ⟨q1,q2,q3⟩
     ·exact .inl ⟨by rw [q1,Nat.add_assoc],by omega⟩
     ·exact .inr ⟨q1,q2,by omega⟩
 | .aA,u,_,hv=>by simp only [Ren.av,VR] at *; exact hv
 | .ro cs n f,u,hi,hv=>by simp only [Ren.av,VR,qV] at *;obtain⟨b,o,cap,us,h1,h2,h3,h4,h5,h6⟩:=hv;exact⟨b,o,cap,us,h1,h2,h3,h4,bJ.ren hl cs us hi h5,h6⟩
 | .map i,u,hi,hv=>by simp only [Ren.av,VR,En.ren,qV] at *; exact⟨hv.1,FD hi,hv.2⟩
 | .pO,u,_,hv=>by simp only [Ren.av,VR] at *; exact hv
 | .func f a b,u,hi,hv=>by simp only [Ren.av,VR,qV,Bool.and_eq_true] at *;obtain⟨us,ws,h1,h2,h3⟩:=hv;exact⟨us,ws,h1,bJ.ren hl a us hi.1 h2,bJ.ren hl b ws hi.2 h3⟩
 | .zZ,u,_,hv=>by simp only [Ren.av,VR] at *; exact hv
 | .iface t v,u,hi,hv=>by simp only [Ren.av,VR,qV] at *;obtain⟨y,h1,h2⟩:=hv;exact⟨y,h1,VR.ren hl v y hi h2⟩
 | .E5,u,_,hv=>by simp only [Ren.av,VR] at *; exact hv
 | .agg cs,u,hi,hv=>by simp only [Ren.av,VR,qV] at *;obtain⟨us,h1,h2⟩:=hv;exact⟨us,h1,bJ.ren hl cs us hi h2⟩
 | .tuple cs,u,hi,hv=>by simp only [Ren.av,VR,qV] at *;obtain⟨us,h1,h2⟩:=hv;exact⟨us,h1,bJ.ren hl cs us hi h2⟩
 | .opq i,u,_,hv=>by simp only [Ren.av,VR] at hv
 | .inp k ks,u,_,hv=>by
   simp only [Ren.av,VR,En.ren] at *;rw [Ren.pF hl (by omega)];rcases hv with hv | ⟨b,o,n,cap,h1,h2,h3,h4,h5⟩
   ·exact .inl hv
   ·refine .inr ⟨b,o,n,cap,h1,h2,h3,h4,fun i j kd hi hj=>?_⟩;rw [Ren.pF hl (by omega)];exact h5 i j kd hi hj
 | .emp,u,_,hv=>by simp only [Ren.av,VR] at *; exact hv
 | .dat e t,u,_,hv=>by simp only [Ren.av,VR,En.ren,Ren.dZ hl] at *; exact hv
 | .mD e,u,_,hv=>by simp only [Ren.av,VR,En.ren,Ren.dZ hl] at *; exact hv
 | .vM i n t,u,hi,hv=>by
   simp only [Ren.av] at hv;split at hv
   ·rename_i hs;simp only [VR,En.ren,qV,Ren.dZ hl] at *;obtain⟨h1,k,a,cap,h2,h3,h4,h5⟩:=hv;refine⟨⟨FD hi,h1⟩,k,a,cap,h2,h3,h4,?_⟩;simp only [fP,hs] at *;simpa using h5
   ·simp [VR] at hv
 | .any,u,_,_=>by simp only [VR]
 | .Ik z t,u,_,hv=>by simp only [Ren.av,VR,En.ren,Ren.dZ hl] at *; exact hv
 | .Bo i lo n t,u,hi,hv=>by
   simp only [Ren.av] at hv;split at hv
   ·rename_i hs;simp only [VR,En.ren,qV,Ren.dZ hl] at *;obtain⟨h1,l,k,a,cap,h2,h3,h4,h5,h6⟩:=hv;refine⟨⟨FD hi,h1⟩,l,k,a,cap,h2,h3,h4,h5,?_⟩;simp only [fP,hs] at *;simpa using h6
   ·simp [VR] at hv
 | .qL i es x o,u,hi,hv=>by
   simp only [Ren.av] at hv;split at hv
   ·rename_i hs;simp only [VR,En.ren,qV,Ren.dZ hl] at *;obtain⟨h1,k,h2,h3⟩:=hv;exact⟨⟨FD hi,h1⟩,k,h2,by rw [h3,hs,Nat.add_zero]⟩
   ·simp [VR] at hv
theorem bJ.ren {E:En} {r:Ren} {h:Array Obj} (hl:r.ns.length≤900): ∀(xs:List AV) (us:List Value),uK r.bl.length xs=true→bJ E h (r.KD xs) us→bJ (E.ren r) h xs us
 | [],us,_,hv=>by simp only [Ren.KD,bJ] at *; exact hv
 | x :: xs,us,hi,hv=>by simp only [Ren.KD,bJ,uK,Bool.and_eq_true] at *;obtain⟨u,vs,h1,h2,h3⟩:=hv;exact⟨u,vs,h1,VR.ren hl x u hi.1 h2,bJ.ren hl xs vs hi.2 h3⟩
end
theorem ayV {E:En} {r:Ren} {h:Array Obj} {xs ys:List AV} {us:List Value} (hs:jZ (r.KD xs) ys=true) (hv:bJ E h ys us):bJ E h (r.KD xs) us:=by rw [gY _ _ hs]; exact hv
def yG (r:Ren):List (AV×AV×Nat)→List (AV×AV×Nat)→Bool
 | [],[]=>true
 | (k,v,_) :: xs,(k',v',_) :: ys=>match eY (r.av k) k' with
   | true=>match eY (r.av v) v' with
     | true=>yG r xs ys
     | false=>false
   | false=>false
 | _,_=>false
def VO (n:Nat):List (AV×AV×Nat)→Bool
 | []=>true
 | (k,v,_) :: xs=>qV n k && qV n v && VO n xs
def Xo (n:Nat):List (SE×List AV)→Bool
 | []=>true
 | (_,cs) :: l=>uK n cs && Xo n l
def qP (r:Ren):List (SE×List AV)→List (SE×List AV)→Bool
 | [],[]=>true
 | (i,a) :: x,(j,b) :: y=>gI (r.se i) j && jZ (r.KD a) b && qP r x y
 | _,_=>false
def agX (n:Nat):dW→Bool
 | .vec _ _ _ ov=>Xo n ov
 | .cells cs _=>uK n cs
 | .map es _=>VO n es
 | .nY _ _=>true
 | .iY _ _=>true
def iL (r:Ren) (k:Nat):dW→dW→Bool
 | .cells cs e,.cells ds f=>match Nat.beq e f with
   | true=>match fE k ds with
     | some ds=>jZ (r.KD cs) ds
     | none=>false
   | false=>false
 | .map es _,.map fs _=>yG r es fs
 | .nY s p,.nY t q=>jH s t && Nat.beq p q && Nat.beq k 0
 | .iY e t,.iY e' t'=>gI (r.se e) e' && Nat.beq t t' && Nat.beq k 0
 | .vec e t ty ov,.vec e' t' ty' wL=>gI (r.se e) e' && Nat.beq t t' && Nat.beq ty ty' && qP r ov wL && Nat.beq k 0
 | _,_=>false
theorem fB.ren {E:En} {r:Ren} {h:Array Obj} (hl:r.ns.length≤900): ∀{xs ys:List (AV×AV×Nat)} {es:List MapEntry},VO r.bl.length xs=true→yG r xs ys=true→fB E h ys es→fB (E.ren r) h xs es
 | [],[],es,_,_,h=>by simp only [fB] at *; exact h
 | [],_ :: _,_,_,hs,_=>by simp [yG] at hs
 | (_,_,_) :: _,[],_,_,hs,_=>by simp [yG] at hs
 | (k,v,b) :: xs,(k',v',b') :: ys,es,hi,hs,h=>by
   simp only [VO,Bool.and_eq_true] at hi;simp only [yG] at hs;simp only [fB] at *;obtain⟨e,rr,rfl,h1,h2,_,h4⟩:=h;split at hs
   ·rename_i e1;split at hs
    ·rename_i e2;refine⟨e,rr,rfl,VR.ren hl k _ hi.1.1 (by rw [nM _ _ e1]; exact h1),VR.ren hl v _ hi.1.2 (by rw [nM _ _ e2]; exact h2),trivial,fB.ren hl hi.2 hs h4⟩
    ·simp at hs
   ·simp at hs
theorem wH {r:Ren}: ∀xs:List AV,(r.KD xs).length=xs.length
 | []=>rfl
 | _ :: xs=>by simp [Ren.KD,wH xs]
theorem RV {r:Ren} (hl:r.ns.length≤900) {ρ:Nat→Int} {i:Nat}: ∀{ov wL:List (SE×List AV)},qP r ov wL=true→dQ ρ i wL=(dQ (r.env ρ) i ov).map r.KD
 | [],[],_=>rfl
 | [],_ :: _,h=>by simp [qP] at h
 | _ :: _,[],h=>by simp [qP] at h
 | (j,a) :: x,(k,b) :: y,h=>by simp only [qP,Bool.and_eq_true] at h;have h1:=bW _ _ h.1.1;have h2:=gY _ _ h.1.2;simp only [dQ];rw [← h1,Ren.dZ hl,← h2,RV hl h.2];split <;> rfl
theorem RU {n:Nat}: ∀{ov:List (SE×List AV)},Xo n ov=true→∀p∈ov,uK n p.2=true
 | [],_,p,hp=>by simp at hp
 | (j,a) :: x,h,p,hp=>by
   simp only [Xo,Bool.and_eq_true] at h;rcases List.mem_cons.1 hp with rfl | hp
   ·exact h.1
   ·exact RU h.2 p hp
theorem Ht {E:En} {r:Ren} {h:Array Obj} (hl:r.ns.length≤900) {row:Row} {ov wL:List (SE×List AV)} (hs:qP r ov wL=true) (hi:Xo r.bl.length ov=true): ∀(ds:List D) (i:Nat) {us:List Value},
 bJ E h (aK E.ρ row wL ds i) us→bJ (E.ren r) h (aK (E.ren r).ρ row ov ds i) us
 | [],_,us,hv=>by simp only [aK,bJ] at *; exact hv
 | d :: ds,i,us,hv=>by
   simp only [aK] at *;obtain⟨a,b,rfl,h1,h2⟩:=hv.split;refine bJ.append ?_ (Ht hl hs hi ds (i+1) h2);rw [RV hl hs] at h1;show bJ (E.ren r) h (match dQ (r.env E.ρ) i ov with | some cs=>cs | none=>jD row (.dat d)) a
   cases ho:dQ (r.env E.ρ) i ov with
   | none=> rw [ho] at h1;simp only [Option.map_none] at h1;exact (gZ (E:=E.ren r)).2 (show Eu E.ro h row (dec (enc d)) a from (gZ (E:=E)).1 h1)
   | some cs=> rw [ho] at h1;simp only [Option.map_some] at h1;obtain⟨p,p1,p2,_⟩:=nN ho;exact bJ.ren hl cs a (by rw [← p2]; exact RU hi p p1) h1
theorem Nk {r:Ren} {row:Row}: ∀{ov wL:List (SE×List AV)},qP r ov wL=true→Gn row wL→Gn row ov
 | [],[],_,h=>h
 | [],_ :: _,h,_=>by simp [qP] at h
 | _ :: _,[],h,_=>by simp [qP] at h
 | (j,a) :: x,(k,b) :: y,h,ho=>by
   simp only [qP,Bool.and_eq_true] at h;intro p hp;rcases List.mem_cons.1 hp with rfl | hp
   ·have:=congrArg List.length (gY _ _ h.1.2);rw [wH] at this;simp only;rw [this];exact ho (k,b) (by simp)
   ·exact Nk h.2 (fun q hq=>ho q (by simp [hq])) p hp
theorem OR.ren {E:En} {r:Ren} {h:Array Obj} (hl:r.ns.length≤900) {id:Nat} {o o':dW} (hi:agX r.bl.length o=true) (hs:iL r (r.Bv id) o o'=true) (ho:OR E h (r.id id) o'):OR (E.ren r) h id o:=by
 cases o with
 | cells cs e=>
   cases o' with
   | cells ds f=>
     simp only [iL] at hs;simp only [agX] at hi;split at hs
     ·rename_i he;have he:=Nat.eq_of_beq_eq_true he;subst he;split at hs
      ·rename_i ds' hdr;simp only [OR] at *;obtain⟨arr,lo,hi',us,h1,h2,h3,h4,h5,h6,h7⟩:=ho;obtain⟨g1,g2,g3⟩:=h2.fE hdr;have hlen:=congrArg List.length (gY _ _ hs);rw [wH] at hlen;refine⟨arr,lo,hi',us.drop (r.Bv id),h1,bJ.ren hl cs _ hi (ayV hs g1),fun i u hu=>?_,?_,?_,h6,fun u hu=>h7 u (List.mem_of_mem_drop hu)⟩
       ·rw [List.getElem?_drop] at hu;have:=h3 _ u hu;show arr[(E.θ (r.id id)).2+r.Bv id+i]?=some u;rw [Nat.add_assoc];exact this
       ·show cs.length≤E.κ (r.id id) - r.Bv id;omega
       ·show (E.θ (r.id id)).2+r.Bv id+(E.κ (r.id id) - r.Bv id)=arr.size;omega
      ·simp at hs
     ·simp at hs
   | map _ _=>simp [iL] at hs
   | nY _ _=>simp [iL] at hs
   | vec _ _ _ _=>simp [iL] at hs
   | iY _ _=>simp [iL] at hs
 | map es c=>
   cases o' with
   | map fs d=> simp only [iL] at hs;simp only [agX] at hi;simp only [OR] at *;obtain⟨ents,c',h1,h2⟩:=ho;exact⟨ents,c',h1,fB.ren hl hi hs h2⟩
   | cells _ _=>simp [iL] at hs
   | nY _ _=>simp [iL] at hs
   | vec _ _ _ _=>simp [iL] at hs
   | iY _ _=>simp [iL] at hs
 | nY s p=>
   cases o' with
   | nY t q=> simp only [iL,Bool.and_eq_true] at hs;have h1:=(pU _ _).1 hs.1.1;have h2:=Nat.eq_of_beq_eq_true hs.1.2;have h3:=Nat.eq_of_beq_eq_true hs.2;subst h1 h2;simp only [OR,En.ren,h3] at *;exact ho
   | cells _ _=>simp [iL] at hs
   | map _ _=>simp [iL] at hs
   | vec _ _ _ _=>simp [iL] at hs
   | iY _ _=>simp [iL] at hs
 | iY e t=>
   cases o' with
   | cells _ _=>simp [iL] at hs
   | map _ _=>simp [iL] at hs
   | nY _ _=>simp [iL] at hs
   | vec _ _ _ _=>simp [iL] at hs
   | iY e' t'=> simp only [iL,Bool.and_eq_true] at hs;have h1:=bW _ _ hs.1.1;have h2:=Nat.eq_of_beq_eq_true hs.1.2;subst h1 h2;simp only [OR] at *;have hden:e.den (E.ren r).ρ=(r.se e).den E.ρ:=(Ren.dZ hl E.ρ e).symm;rw [hden];exact ho
 | vec e t ty ov=>
   cases o' with
   | cells _ _=>simp [iL] at hs
   | map _ _=>simp [iL] at hs
   | nY _ _=>simp [iL] at hs
   | iY _ _=>simp [iL] at hs
   | vec e' t' ty' wL=>
     simp only [iL,Bool.and_eq_true] at hs;simp only [agX] at hi;have h1:=bW _ _ hs.1.1.1.1;have h2:=Nat.eq_of_beq_eq_true hs.1.1.1.2;have h3:=Nat.eq_of_beq_eq_true hs.1.1.2;have h4:=Nat.eq_of_beq_eq_true hs.2;have hov:=hs.1.2;subst h1 h2 h3;simp only [OR] at *;obtain⟨h0,arr,lo,hi',us,q1,q2,q3,q4,q5,q6,q7⟩:=ho;have hok:=Nk hov h0.1;have hden:e.den (E.ren r).ρ=(r.se e).den E.ρ:=(Ren.dZ hl E.ρ e).symm;rw [hden];refine⟨⟨hok,h0.2⟩,arr,lo,hi',us,q1,Ht hl hov hi _ _ q2,?_,?_,?_,q6,q7⟩
     ·intro i u hu;show arr[(E.θ (r.id id)).2+r.Bv id+i]?=some u;rw [h4,Nat.add_zero];exact q3 i u hu
     ·show _≤E.κ (r.id id) - r.Bv id;rw [bU hok,h4,Nat.sub_zero,← bU (ρ:=E.ρ) h0.1];exact q4
     ·show (E.θ (r.id id)).2+r.Bv id+(E.κ (r.id id) - r.Bv id)=arr.size;rw [h4,Nat.add_zero,Nat.sub_zero];exact q5
end
end Go.As
end
section
namespace Go.As
noncomputable section
open Go.RowKit
structure CS where
 k:Nat
 slots:List (Nat×AV)
 objs:List dW
 pc:List (SB×Bool)
 m:SE
def rZ:List (Nat×AV)→Tr AV→Tr AV
 | [],t=>t
 | (i,v) :: l,t=>rZ l (t.put i (some v))
def vV:List dW→Nat→Tr dW→Tr dW
 | [],_,t=>t
 | o :: os,i,t=>vV os (i+1) (t.put i (some o))
def CS.st (c:CS):St:=⟨rZ c.slots .nil,⟨vV c.objs 0 .nil,c.objs.length,none⟩,c.pc⟩
structure Gs where
 ns:Tr SE
 bl:Tr (Nat×Nat)
def Gs.num (g:Gs) (i:Nat) (e:SE):Gs:=match g.ns.get i with
 | some _=>g
 | none=> ⟨g.ns.put i (some e),g.bl⟩
def Gs.blk (g:Gs) (i j k:Nat):Gs:=match g.bl.get i with
 | some _=>g
 | none=> ⟨g.ns,g.bl.put i (some (j,k))⟩
def Ja (x y:SE) (g:Gs):Gs:=match x with
 | .aP i=>g.num i y
 | _=>g
def aEG:SB→SB→Gs→Gs
 | .not a,.not b,g=>aEG a b g
 | .eq a b,.eq c d,g=>Ja b d (Ja a c g)
 | _,_,g=>g
mutual
def aoQ:AV→AV→Gs→Gs
 | .bool a,.bool b,g=>aEG a b g
 | .int _ e,.int _ f,g=>Ja e f g
 | .ptr i o,.ptr j p,g=>g.blk i j (p - o)
 | .slice i o _ _,.slice j p _ _,g=>g.blk i j (p - o)
 | .map i,.map j,g=>g.blk i j 0
 | .agg a,.agg b,g=>GX a b g
 | .tuple a,.tuple b,g=>GX a b g
 | .iface _ a,.iface _ b,g=>aoQ a b g
 | .func _ a b,.func _ c d,g=>GX b d (GX a c g)
 | .rO a,.rO b,g=>GX a b g
 | .ro a _ _,.ro b _ _,g=>GX a b g
 | .dat a _,.dat b _,g=>Ja a b g
 | .mD a,.mD b,g=>Ja a b g
 | .vM i a _,.vM j b _,g=>(Ja a b g).blk i j 0
 | .qL i _ a _,.qL j _ b _,g=>(Ja a b g).blk i j 0
 | .Ik a _,.Ik b _,g=>Ja a b g
 | .Bo i l a _,.Bo j k b _,g=>(Ja l k (Ja a b g)).blk i j 0
 | _,_,g=>g
def GX:List AV→List AV→Gs→Gs
 | x :: xs,y :: ys,g=>GX xs ys (aoQ x y g)
 | _,_,g=>g
end
def aoP:List (AV×AV×Nat)→List (AV×AV×Nat)→Gs→Gs
 | (k,v,_) :: xs,(k',v',_) :: ys,g=>aoP xs ys (aoQ v v' (aoQ k k' g))
 | _,_,g=>g
def aAc:List (SE×List AV)→List (SE×List AV)→Gs→Gs
 | (i,a) :: x,(j,b) :: y,g=>aAc x y (GX a b (Ja i j g))
 | _,_,g=>g
def aGc (k:Nat) (o o':dW) (g:Gs):Gs:=match o,o' with
 | .cells a _,.cells b _=>match fE k b with
   | some b=>GX a b g
   | none=>g
 | .map a _,.map b _=>aoP a b g
 | .vec a _ _ ov,.vec b _ _ wL=>aAc ov wL (Ja a b g)
 | .iY a _,.iY b _=>Ja a b g
 | _,_=>g
def LD (s:Tr AV):List (Nat×AV)→Gs→Gs
 | [],g=>g
 | (t,v) :: l,g=>match s.get t with
   | some v'=>LD s l (aoQ v v' g)
   | none=>LD s l g
def Jb (h:Hp):List dW→Nat→Gs→Gs
 | [],_,g=>g
 | o :: os,i,g=>match g.bl.get i with
   | some (j,k)=>match h.get j with
     | some o'=>Jb h os (i+1) (aGc k o o' g)
     | none=>Jb h os (i+1) g
   | none=>Jb h os (i+1) g
def Fb (g:Tr SE):Nat→Nat→List SE
 | 0,_=>[]
 | n+1,i=>match g.get i with
   | some e=>e :: Fb g n (i+1)
   | none=> .lit 0 :: Fb g n (i+1)
def Vd (g:Tr (Nat×Nat)):Nat→Nat→List Nat
 | 0,_=>[]
 | n+1,i=>match g.get i with
   | some (e,_)=>e :: Vd g n (i+1)
   | none=>0 :: Vd g n (i+1)
def Vb (g:Tr (Nat×Nat)):Nat→Nat→List Nat
 | 0,_=>[]
 | n+1,i=>match g.get i with
   | some (_,e)=>e :: Vb g n (i+1)
   | none=>0 :: Vb g n (i+1)
def CS.guess (c:CS) (s:St):Ren:=match Jb s.h c.objs 0 (LD s.slots c.slots ⟨.nil,.nil⟩) with
 | ⟨ns,bl⟩=> ⟨Fb ns c.k 0,Vd bl c.objs.length 0,Vb bl c.objs.length 0⟩
def adG (i:Nat):List Nat→Bool
 | []=>true
 | j :: l=>match Nat.beq i j with
   | true=>false
   | false=>adG i l
def D8:List Nat→Bool
 | []=>true
 | i :: l=>adG i l && D8 l
def KU (r:Ren) (n:Nat) (s:Tr AV):List (Nat×AV)→Bool
 | []=>true
 | (t,v) :: l=>match s.get t with
   | some v'=>qV n v && eY (r.av v) v' && KU r n s l
   | none=>false
def IU (r:Ren) (n:Nat) (h:Hp):List dW→Nat→Bool
 | [],_=>true
 | o :: os,i=>match h.get (r.id i) with
   | some o'=>agX n o && iL r (r.Bv i) o o' && IU r n h os (i+1)
   | none=>false
def Yu (pc:List (SB×Bool)) (e:SE):Option Int×Option Int:=match e with
 | .lit z=>(some z,some z)
 | e=>bounds e pc
def aeF (a b:Int):Bool:=decide (-9223372036854775808≤a) && decide (b≤9223372036854775807)
def PK (pc:List (SB×Bool)) (e:SE):Option Int×Option Int:=match e with
 | .wrap .i64 (.add a b)=>match Yu pc a,Yu pc b with
   | (some la,some ha),(some lb,some hb)=>if aeF (la+lb) (ha+hb) then (some (la+lb),some (ha+hb)) else bounds e pc
   | _,_=>bounds e pc
 | .wrap .i64 (.sub a b)=>match Yu pc a,Yu pc b with
   | (some la,some ha),(some lb,some hb)=>if aeF (la - hb) (ha - lb) then (some (la - hb),some (ha - lb)) else bounds e pc
   | _,_=>bounds e pc
 | e=>Yu pc e
def PN (a b:Option Int):Bool:=match a,b with
 | some x,some y=>decide (x < y)
 | _,_=>false
def Wh (a b:Option Int):Bool:=match a,b with
 | some x,some y=>decide (x≤y)
 | _,_=>false
def prv (pc:List (SB×Bool)) (c:SB) (v:Bool):Bool:=
 match mM pc c with
 | some b=>b == v
 | none=>match c with
   | .lt a b=>match v with
     | true=>PN (PK pc a).2 (PK pc b).1
     | false=>Wh (PK pc b).2 (PK pc a).1
   | .eq a b=>match v with
     | true=>false
     | false=>PN (PK pc a).2 (PK pc b).1 || PN (PK pc b).2 (PK pc a).1
   | _=>false
def LG (pv:List (SB×Bool)→SB→Bool→Bool) (r:Ren) (pc:List (SB×Bool)):List (SB×Bool)→Bool
 | []=>true
 | (c,v) :: l=>pv pc (r.sb c) v && LG pv r pc l
def CS.fits (pv:List (SB×Bool)→SB→Bool→Bool) (c:CS) (s:St) (r:Ren):Bool:=
 Nat.ble r.ns.length 900 && Nat.beq r.bl.length c.objs.length && D8 r.bl && KU r c.objs.length s.slots c.slots && IU r c.objs.length s.h c.objs 0 && LG pv r s.pc c.pc
theorem BI: ∀{l:List (Nat×AV)} {t:Tr AV} {i:Nat} {v:AV},(rZ l t).get i=some v→(i,v)∈l∨t.get i=some v
 | [],t,i,v,h=> .inr h
 | (j,x) :: l,t,i,v,h=>by
   simp only [rZ] at h;rcases BI h with h | h
   ·exact .inl (by simp [h])
   ·rw [Tr.get_put] at h;split at h
    ·rename_i e;simp only [Option.some.injEq] at h;exact .inl (by rw [e,h]; simp)
    ·exact .inr h
theorem mY: ∀{l:List dW} {i:Nat} {t:Tr dW} {j:Nat},(vV l i t).get j=if i≤j∧j < i+l.length then l[j - i]? else t.get j
 | [],i,t,j=>by rw [if_neg (by simp)];rfl
 | o :: os,i,t,j=>by
   simp only [vV];rw [mY,Tr.get_put];simp only [List.length_cons];by_cases h1:i+1≤j∧j < i+1+os.length
   ·rw [if_pos h1,if_pos (by omega)];have:j - i=(j - (i+1))+1:=by omega
    rw [this,List.getElem?_cons_succ]
   ·rw [if_neg h1];by_cases h3:j=i
    ·subst h3;rw [if_pos rfl,if_pos (by omega)];simp
    ·rw [if_neg h3,if_neg (by omega)]
theorem Xt {i:Nat}: ∀{l:List Nat},adG i l=true→i∉l
 | [],_=>by simp
 | j :: l,h=>by
   simp only [adG] at h;split at h
   ·simp at h
   ·rename_i hb;have:=Nat.ne_of_beq_eq_false hb;simp [this,Xt h]
theorem uX: ∀{l:List Nat},D8 l=true→∀{i j x:Nat},gQ l i=some x→gQ l j=some x→i=j
 | [],_,i,_,_,h,_=>by simp [gQ] at h
 | y :: l,hd,i,j,x,h1,h2=>by
   simp only [D8,Bool.and_eq_true] at hd;have hn:=Xt hd.1
   have hm: ∀{i:Nat} {l:List Nat} {x:Nat},gQ l i=some x→x∈l:=by intro i l x h;rw [dB] at h;exact List.mem_of_getElem? h
   cases i with
   | zero=>
     cases j with
     | zero=>rfl
     | succ j=> simp only [gQ,Option.some.injEq] at h1 h2;subst h1;exact absurd (hm h2) hn
   | succ i=>
     cases j with
     | zero=> simp only [gQ,Option.some.injEq] at h1 h2;subst h2;exact absurd (hm h1) hn
     | succ j=> simp only [gQ] at h1 h2;rw [uX hd.2 h1 h2]
theorem JA {r:Ren} {n:Nat} {s:Tr AV}: ∀{l:List (Nat×AV)},KU r n s l=true→∀{t:Nat} {v:AV},(t,v)∈l→∃v',s.get t=some v'∧qV n v=true∧r.av v=v'
 | [],_,_,_,h=>by simp at h
 | (t0,v0) :: l,hs,t,v,h=>by
   simp only [KU] at hs;split at hs
   ·rename_i v' hv;simp only [Bool.and_eq_true] at hs;rcases List.mem_cons.1 h with h | h
    ·simp only [Prod.mk.injEq] at h;obtain⟨rfl,rfl⟩:=h;exact⟨v',hv,hs.1.1,nM _ _ hs.1.2⟩
    ·exact JA hs.2 h
   ·simp at hs
theorem lM {r:Ren} {n:Nat} {h:Hp}: ∀{l:List dW} {i:Nat},IU r n h l i=true→∀{j:Nat} {o:dW},l[j]?=some o→∃o',h.get (r.id (i+j))=some o'∧agX n o=true∧iL r (r.Bv (i+j)) o o'=true
 | [],_,_,_,_,h=>by simp at h
 | o0 :: os,i,hs,j,o,hj=>by
   simp only [IU] at hs;split at hs
   ·rename_i o' ho;simp only [Bool.and_eq_true] at hs
    cases j with
    | zero=> simp at hj;subst hj;exact⟨o',ho,hs.1.1,hs.1.2⟩
    | succ j=> have:=lM hs.2 (j:=j) (by simpa using hj);rw [show i+(j+1)=i+1+j by omega];exact this
   ·simp at hs
def atO (pv:List (SB×Bool)→SB→Bool→Bool):Prop:= ∀(ρ:Nat→Int) (pc:List (SB×Bool)) (c:SB) (v:Bool),bI ρ pc→pv pc c v=true→c.den ρ=v
theorem H9 {ρ:Nat→Int} {pc:List (SB×Bool)} (hp:bI ρ pc) (e:SE):Within (Yu pc e).1 (Yu pc e).2 (e.den ρ):=by
 unfold Yu;split
 ·simp [Within,SE.den]
 ·exact pW hp
theorem Oh {a b x:Int} (h:aeF a b=true) (h1:a≤x) (h2:x≤b):IntKind.i64.wrap x=x:=by simp only [aeF,Bool.and_eq_true,decide_eq_true_eq] at h;rw [← oZ];simp only [Bh];rw [if_pos (by omega)]
theorem afM {ρ:Nat→Int} {pc:List (SB×Bool)} (hp:bI ρ pc) (e:SE):Within (PK pc e).1 (PK pc e).2 (e.den ρ):=by
 unfold PK;split
 ·rename_i a b;have ha:=H9 hp a;have hb:=H9 hp b;split
  ·rename_i la ha' lb hb' e1 e2;rw [e1] at ha;rw [e2] at hb;have a1:=ha.1 la rfl;have a2:=ha.2 ha' rfl;have b1:=hb.1 lb rfl;have b2:=hb.2 hb' rfl;split
   ·rename_i hi;simp only [SE.den];rw [Oh hi (by omega) (by omega)];constructor <;> intro l hl <;> simp at hl <;> omega
   ·exact pW hp
  ·exact pW hp
 ·rename_i a b;have ha:=H9 hp a;have hb:=H9 hp b;split
  ·rename_i la ha' lb hb' e1 e2;rw [e1] at ha;rw [e2] at hb;have a1:=ha.1 la rfl;have a2:=ha.2 ha' rfl;have b1:=hb.1 lb rfl;have b2:=hb.2 hb' rfl;split
   ·rename_i hi;simp only [SE.den];rw [Oh hi (by omega) (by omega)];constructor <;> intro l hl <;> simp at hl <;> omega
   ·exact pW hp
  ·exact pW hp
 ·exact H9 hp e
theorem Jk {a b:Option Int} {x y:Int} (h:PN a b=true) (h1: ∀z,a=some z→x≤z) (h2: ∀z,b=some z→z≤y):x < y:=by
 unfold PN at h;split at h
 ·have:=h1 _ rfl;have:=h2 _ rfl;simp at h;omega
 ·simp at h
theorem abH {a b:Option Int} {x y:Int} (h:Wh a b=true) (h1: ∀z,a=some z→x≤z) (h2: ∀z,b=some z→z≤y):x≤y:=by
 unfold Wh at h;split at h
 ·have:=h1 _ rfl;have:=h2 _ rfl;simp at h;omega
 ·simp at h
theorem Zz:atO prv:=by
 intro ρ pc c v hp h;unfold prv at h;split at h
 ·rename_i b hb;rw [jA hp hb];simpa using h
 ·split at h
  ·have ha:=fun a=>afM hp a;split at h
   ·have:=Jk h (ha _).2 (ha _).1;simp [SB.den,this]
   ·have:=abH h (ha _).2 (ha _).1;simp [SB.den]; omega
  ·have ha:=fun a=>afM hp a;split at h
   ·simp at h
   ·simp only [Bool.or_eq_true] at h;simp only [SB.den,beq_eq_false_iff_ne,ne_eq];rcases h with h | h
    ·have:=Jk h (ha _).2 (ha _).1;omega
    ·have:=Jk h (ha _).2 (ha _).1;omega
  ·simp at h
theorem OA {pv:List (SB×Bool)→SB→Bool→Bool} (hpv:atO pv) {r:Ren} (hl:r.ns.length≤900) {ρ:Nat→Int} {pc:List (SB×Bool)} (hp:bI ρ pc): ∀{l:List (SB×Bool)},LG pv r pc l=true→bI (r.env ρ) l
 | [],_=>by intro c b h; simp at h
 | (c0,v0) :: l,h=>by
   simp only [LG,Bool.and_eq_true] at h;intro c b hm;rcases List.mem_cons.1 hm with hm | hm
   ·simp only [Prod.mk.injEq] at hm;obtain⟨rfl,rfl⟩:=hm;rw [← Ren.IB hl];exact hpv ρ pc _ _ hp h.1
   ·exact OA hpv hl hp h.2 c b hm
theorem G5 [Glob] {pv:List (SB×Bool)→SB→Bool→Bool} (hpv:atO pv) {E:En} {c:CS} {s:St} {r:Ren} {a:Act} {w:World} (f:Fit E s a w) (h:c.fits pv s r=true):r.ns.length≤900∧Fit (E.ren r) c.st a w∧
 ∀id o,c.st.h.get id=some o→∃o',s.h.get (r.id id)=some o':=by
 unfold CS.fits at h;simp only [Bool.and_eq_true] at h;obtain⟨⟨⟨⟨⟨h1,h2⟩,h3⟩,h4⟩,h5⟩,h6⟩:=h;have hl:=Nat.le_of_ble_eq_true h1;have hn:=Nat.eq_of_beq_eq_true h2
 have hget: ∀id o,c.st.h.get id=some o→c.objs[id]?=some o:=by
  intro id o ho;have:(vV c.objs 0 .nil).get id=some o:=ho;rw [mY] at this;split at this
  ·simpa using this
  ·simp [Tr.get] at this
 refine⟨hl,⟨⟨?_,?_,?_,?_,f.rel.BO,Glob.ren f.rel.glob fun i hi=>Ren.pF hl hi⟩,?_,OA hpv hl f.pc h6⟩,?_⟩
 ·intro id hid hd;have:id < r.bl.length:=hd.1;have hid:c.objs.length≤id:=hid;omega
 ·intro x hx;simp [CS.st] at hx
 ·intro id o ho;obtain⟨o',g1,g2,g3⟩:=lM h5 (hget id o ho);rw [Nat.zero_add] at g1 g3;obtain⟨q1,q2,q3⟩:=f.rel.live _ _ g1;have hlt:=(List.getElem?_eq_some_iff.1 (hget id o ho)).1;exact⟨⟨by omega,q1⟩,OR.ren hl (by rw [hn]; exact g2) g3 q2,q3⟩
 ·intro id id' o o' ho ho' he;obtain⟨p,g1,_⟩:=lM h5 (hget id o ho);obtain⟨p',g1',_⟩:=lM h5 (hget id' o' ho');rw [Nat.zero_add] at g1 g1';have heq:=f.rel.inj _ _ _ _ g1 g1' he;have hlt:=(List.getElem?_eq_some_iff.1 (hget id o ho)).1;have hlt':=(List.getElem?_eq_some_iff.1 (hget id' o' ho')).1;unfold Ren.id at heq
  cases e1:gQ r.bl id with
  | none=>rw [dB,List.getElem?_eq_none_iff] at e1; omega
  | some x=>
    cases e2:gQ r.bl id' with
    | none=>rw [dB,List.getElem?_eq_none_iff] at e2; omega
    | some y=> rw [e1,e2] at heq;simp only at heq;subst heq;exact uX h3 e1 e2
 ·intro t v ht;have:(rZ c.slots .nil).get t=some v:=ht;rcases BI this with h | h
  ·obtain⟨v',g1,g2,g3⟩:=JA h4 h;obtain⟨u,q1,q2⟩:=f.sr t v' g1;exact⟨u,q1,VR.ren hl v u (by rw [hn]; exact g2) (by rw [g3]; exact q2)⟩
  ·simp [Tr.get] at h
 ·intro id o ho;obtain⟨o',g1,_⟩:=lM h5 (hget id o ho);rw [Nat.zero_add] at g1;exact⟨o',g1⟩
end
end Go.As
end
section
namespace Go.As
noncomputable section
open Go.RowKit
structure Base where
 w0:World
 ro:Nat→Prop
 ρ0:Nat→Int
structure Top [Glob] (B:Base) (E:En) (s:St) (a:Act) (w:World):Prop where
 fit:Fit E s a w
 hi: ∀i,900≤i→E.ρ i=B.ρ0 i
 ro: ∀b,B.ro b→E.ro b
 below:Below B.w0.heap.size B.w0 w
 own: ∀id o,s.h.get id=some o→B.w0.heap.size≤(E.θ id).1
theorem Top.then [Glob] {B:Base} {E:En} {s s':St} {a a':Act} {w w':World} (t:Top B E s a w) (h:Then E s a w s' a' w'): ∃E',Top B E' s' a' w'∧E'.ρ=E.ρ:=by
 obtain⟨_,_,E',st,f'⟩:=h;refine⟨E',⟨f',fun i hi=>by rw [st.ρ]; exact t.hi i hi,fun b hb=>st.ro b (t.ro b hb),?_,?_⟩,st.ρ⟩
 ·refine t.below.trans ⟨st.os,st.tape,st.output,st.size,fun k hk=>?_⟩
  exact st.keep k (Nat.lt_of_lt_of_le hk t.below.size) fun id o ho he=>by have:=t.own id o ho;omega
 ·intro id o ho;rcases Nat.lt_or_ge (E'.θ id).1 w.heap.size with h | h
  ·obtain⟨Em,o0,h0,he⟩:=st.own id o ho h;rw [← he];exact t.own Em o0 h0
  ·exact Nat.le_trans t.below.size h
theorem Top.fits [Glob] {pv:List (SB×Bool)→SB→Bool→Bool} (hpv:atO pv) {B:Base} {E:En} {c:CS} {s:St} {r:Ren} {a:Act} {w:World} (t:Top B E s a w) (h:c.fits pv s r=true):r.ns.length≤900∧Top B (E.ren r) c.st a w:=by
 obtain⟨hl,f,ho⟩:=G5 hpv t.fit h;refine⟨hl,f,fun i hi=>?_,t.ro,t.below,fun id o hid=>?_⟩
 ·show r.env E.ρ i=_;rw [Ren.pF hl hi];exact t.hi i hi
 ·obtain⟨o',h'⟩:=ho id o hid;exact t.own _ _ h'
inductive Fr where
 | seq (p:List Nat) (c:Code)
 | block (id:Nat)
def Vg {α:Type}:T α→(α→Bool)→Bool
 | .fail,_=>false
 | .ret a,f=>f a
 | .split _ x y,f=>Vg x f && Vg y f
structure Cfg where
 tt:TT
 call:dU
 draw:Nat→List Oper→St→T St
 lf:Nat
 pv:List (SB×Bool)→SB→Bool→Bool
 res:List ResultVar
def Cfg.ev (g:Cfg) (c:Code) (s:St):T (Ex×St):=lC g.tt g.call g.draw g.lf c s
def isTrue:Option (List AV)→Bool
 | some [.bool (.lit b)]=>b
 | _=>false
def apH (g:Cfg) (e:Ex) (s:St):Bool:=match e with
 | .exit _=>false
 | _=>isTrue (nR g.tt s g.res)
def aBG:AV→AV→Bool
 | .int _ (.lit a),.int _ (.lit b)=>a == b
 | .int _ (.lit _),.int _ _=>false
 | .slice _ _ n _,.slice _ _ m _=>Nat.beq n m
 | .slice _ _ _ _,_=>false
 | .aA,.aA=>true
 | .aA,_=>false
 | _,_=>true
def quick (s:Tr AV):List (Nat×AV)→Bool
 | []=>true
 | (t,v) :: l=>match s.get t with
   | some v'=>match aBG v v' with
     | true=>quick s l
     | false=>false
   | none=>false
def Wj (pv:List (SB×Bool)→SB→Bool→Bool) (s:St):List CS→Bool
 | []=>false
 | c :: cs=>match quick s.slots c.slots with
   | false=>Wj pv s cs
   | true=>match c.fits pv s (c.guess s) with
     | true=>true
     | false=>Wj pv s cs
abbrev Tabs:=List Nat→Option (List CS)
mutual
def go (g:Cfg) (tabs:Tabs):Nat→List Nat→Code→List Fr→St→Bool
 | 0,_,_,_,_=>false
 | n+1,p,c,fr,s=>match tabs p with
   | some cs=>Wj g.pv s cs
   | none=>match c with
     | .seq a b=>go g tabs n (0 :: p) a (.seq (1 :: p) b :: fr) s
     | .block id b=>go g tabs n (0 :: p) b (.block id :: fr) s
     | c=>Vg (g.ev c s) fun (e,s')=>cont g tabs n fr e s'
def cont (g:Cfg) (tabs:Tabs):Nat→List Fr→Ex→St→Bool
 | 0,_,_,_=>false
 | n+1,fr,e,s=>match fr with
   | []=>apH g e s
   | .seq p c :: fr=>match e with
     | .normal=>go g tabs n p c fr s
     | e=>cont g tabs n fr e s
   | .block id :: fr=>match e with
     | .exit j=>match Nat.beq j id with
       | true=>cont g tabs n fr .normal s
       | false=>cont g tabs n fr (.exit j) s
     | e=>cont g tabs n fr e s
end
def apart (pc:List (SB×Bool)) (x:SE):List SE→Bool
 | []=>true
 | y :: l=>match decEq pc x y with
   | some false=>apart pc x l
   | _=>false
structure Hint where
 ts:List (SB×Bool):=[]
 xs:List SE:=[]
 n:Nat:=0
section
variable {P:Program} {g:Cfg} {chk:Nat→List Oper→Bool} {N:Nat} {body:Code} {B:Base} {Q:Exit→Act→World→Prop}
structure aGC [Glob] (P:Program) (g:Cfg) (chk:Nat→List Oper→Bool):Prop where
 tt:eP P g.tt
 call:jU P g.call
 draw:Dp P chk g.draw
 pv:atO g.pv
theorem Top.pc [Glob] {B:Base} {E:En} {s:St} {a:Act} {w:World} {pc:List (SB×Bool)} (t:Top B E s a w) (hp:bI E.ρ pc):Top B E { s with pc:=pc } a w:=
 ⟨⟨t.fit.rel,t.fit.sr,hp⟩,t.hi,t.ro,t.below,t.own⟩
end
end
end Go.As
end
section
namespace Go.As
noncomputable section
open Go.RowKit
section
variable {P:Program} {c:Code} {Q:Exit→Act→World→Prop} {a:Act} {w:World}
def P8 (P:Program) (c:Code) (Q:Exit→Act→World→Prop) (a:Act) (w:World):Prop:=
 ∀b k cs,∃e a' w',Q e a' w'∧Arrives P (lone (b.at a (.code c :: .inLoop c :: k)) cs w) b k cs e a' w'
theorem ZJ (h:c.wp P (Exit.then (P8 P c Q) Q) a w):P8 P c Q a w:=by
 intro b k cs;obtain⟨e,a₁,w₁,hq,harr⟩:=h b (.inLoop c :: k) cs
 cases e with
 | normal=> obtain⟨e₂,a₂,w₂,hq₂,harr₂⟩:=hq b k cs;exact⟨e₂,a₂,w₂,hq₂,.of_steps (Steps.trans harr (.one step_inLoop)) harr₂⟩
 | exit id=>exact⟨_,a₁,w₁,hq,.pass (x:=.inLoop c) rfl (fun _ _=> .inl (by simp)) harr⟩
 | goto l=>exact⟨_,a₁,w₁,hq,.pass (x:=.inLoop c) rfl (fun _ _=> .inl (by simp)) harr⟩
 | ret=>exact⟨_,a₁,w₁,hq,.pass (x:=.inLoop c) rfl (fun _ _=> .inl (by simp)) harr⟩
 | panic ch=>exact⟨_,a₁,w₁,hq,.pass (x:=.inLoop c) rfl (fun _ _=> .inl (by simp)) harr⟩
 | outgrown=>exact⟨_,a₁,w₁,hq,.pass (x:=.inLoop c) rfl (fun _ _=> .inl (by simp)) harr⟩
theorem ZK (h:P8 P c Q a w):(Code.loop c).wp P Q a w:=by intro b k cs;obtain⟨e,a',w',hq,harr⟩:=h b k cs;exact⟨e,a',w',hq,.of_steps (.one step_loop) harr⟩
end
inductive FrE where
 | seq (p:List Nat) (c:Code)
 | block (id:Nat)
 | loop (p:List Nat) (b:Code)
 | scope
def uU (body:Code):List Nat→Option (Code×List FrE)
 | []=>some (body,[])
 | d :: p=>match uU body p with
   | some (.seq a b,fr)=>match d with
     | 0=>some (a,.seq (1 :: p) b :: fr)
     | _=>some (b,fr)
   | some (.block id b,fr)=>some (b,.block id :: fr)
   | some (.cond _ a b,fr)=>match d with
     | 0=>some (a,fr)
     | _=>some (b,fr)
   | some (.loop b,fr)=>some (b,.loop p b :: fr)
   | some (.scope b,fr)=>some (b,.scope :: fr)
   | _=>none
def P9 (body:Code):List FrE→Prop
 | []=>True
 | .seq p c :: fr=>uU body p=some (c,fr)∧P9 body fr
 | .block _ :: fr=>P9 body fr
 | .loop p b :: fr=>uU body p=some (.loop b,fr)∧P9 body fr
 | .scope :: fr=>P9 body fr
def KE (P:Program) (Q:Exit→Act→World→Prop):List FrE→Exit→Act→World→Prop
 | []=>Q
 | .seq _ c :: fr=>Exit.then (fun a w=>c.wp P (KE P Q fr) a w) (KE P Q fr)
 | .block id :: fr=>Exit.inBlock id (KE P Q fr)
 | .loop _ b :: fr=>Exit.then (P8 P b (KE P Q fr)) (KE P Q fr)
 | .scope :: fr=>Exit.noGoto (KE P Q fr)
inductive RK where
 | one (c:CK)
 | agg (cs:List CK)
 deriving DecidableEq,Inhabited
def RK.flat:RK→List CK
 | .one c=>[c]
 | .agg cs=>cs
def uP:List RK→List CK
 | []=>[]
 | r :: rs=>r.flat++uP rs
def afL (c:CK) (t:SE):AV:=match c with
 | .int k=> .int k t
 | .bool=> .bool (.not (.eq t (.lit 0)))
 | .str=> .mD t
 | .sl ty=> .dat t ty
def PG:List CK→(Nat→SE)→Nat→List AV
 | [],_,_=>[]
 | c :: cs,f,i=>afL c (f i) :: PG cs f (i+1)
def vW:List RK→(Nat→SE)→Nat→List AV
 | [],_,_=>[]
 | .one c :: r,f,i=>afL c (f i) :: vW r f (i+1)
 | .agg cs :: r,f,i=> .agg (PG cs f i) :: vW r f (i+cs.length)
def anA (c:CK) (v:AV):Option SE:=match c with
 | .int k=>match v with
   | .int k' e=>if k=k' then some e else none
   | _=>none
 | .bool=>none
 | .str=>Bg v
 | .sl t=>rW (.sl t) v
def awR:AV→Bool
 | .agg _=>false
 | .tuple _=>false
 | _=>true
def cellsOf:List RK→List AV→Option (List AV)
 | [],[]=>some []
 | .one _ :: rs,v :: vs=>match awR v with
   | true=>match cellsOf rs vs with
     | some l=>some (v :: l)
     | none=>none
   | false=>none
 | .agg cs :: rs,v :: vs=>match v with
   | .agg xs=>match Nat.beq xs.length cs.length with
     | true=>match cellsOf rs vs with
       | some l=>some (xs++l)
       | none=>none
     | false=>none
   | _=>none
 | _,_=>none
def outs {α:Type}:List CK→List AV→St→(List SE→St→T α)→T α
 | [],[],s,k=>k [] s
 | c :: cs,v :: vs,s,k=>match c with
   | .bool=>match v with
     | .bool b=>qI s b fun s b=>outs cs vs s fun es s=>k (.lit (if b then 1 else 0) :: es) s
     | _=> .fail
   | c=>match anA c v with
     | some e=>outs cs vs s fun es s=>k (e :: es) s
     | none=> .fail
 | _,_,_,_=> .fail
def iK:List SE→SE
 | []=> .dat (.i 0)
 | e :: es=>gX (Iz e) (iK es)
def uN (r:SE) (i:Nat):SE:=.op .num (.op (.cell i) r (.lit 0)) (.lit 0)
inductive Lf where
 | out (es:List SE)
 | jump (j:Nat) (es:List SE)
 deriving Inhabited
structure Jp where
 tt:TT
 call:dU
 draw:Nat→List Oper→St→T St
 lf:Nat
 res:List ResultVar
 oP:List RK
 dY:List dW:=[]
 ko:Nat:=0
 wK:List CS:=[]
 jV:Nat:=0
 fz:List (Nat×Nat×Nat):=[]
def Jp.ev (g:Jp) (c:Code) (s:St):T (Ex×St):=lC g.tt g.call g.draw g.lf c s
abbrev KG:=List Nat→Option (List (Nat×CS))
def aBZ:Nat→Tr (Nat×Nat)
 | 0=> .nil
 | n+1=>(aBZ n).put n (some (n,0))
def jE (g:Jp) (h:Hp):Ren:=match Jb h g.dY 0 ⟨.nil,aBZ g.dY.length⟩ with
 | ⟨ns,_⟩=> ⟨Fb ns g.ko 0,List.range g.dY.length,[]⟩
def CS.lN (m:Nat) (c:CS) (s:St):Ren:=match Jb s.h c.objs 0 (LD s.slots c.slots ⟨.nil,aBZ m⟩) with
 | ⟨ns,bl⟩=> ⟨Fb ns c.k 0,Vd bl c.objs.length 0,Vb bl c.objs.length 0⟩
def Oj (m:Nat) (r:Ren):Bool:=match m with
 | 0=>true
 | n+1=>(match gQ r.bl n with | some j=>Nat.beq j n | none=>false) && Nat.beq (r.Bv n) 0 && Oj n r
def JU:Nat→Nat→List SE→List SE
 | 0,_,ns=>ns
 | _+1,_,[]=>[]
 | n+1,i,_ :: ns=> .aP i :: JU n (i+1) ns
def xK (jV:Nat) (r:Ren):Ren:=match jV with
 | 0=>r
 | n+1=>{ r with ns:=JU (n+1) 0 r.ns }
def Yb (n m jV:Nat) (s:St):List CS→Nat→T Lf
 | [],_=> .fail
 | c :: l,i=>match quick s.slots c.slots && Nat.beq n c.slots.length with
   | false=>Yb n m jV s l (i+1)
   | true=>match c.fits prv s (xK jV (c.lN m s)) && Oj m (xK jV (c.lN m s)) with
     | true=> .ret (.out (.lit (Int.ofNat i) :: (xK jV (c.lN m s)).ns))
     | false=>Yb n m jV s l (i+1)
def Z5 {α:Type}:List (Nat×Nat×Nat)→List AV→St→(List AV→St→T α)→T α
 | [],vs,s,k=>k vs s
 | (r,f,t) :: l,vs,s,k=>match gQ vs r with
   | some (.agg xs)=>match gQ xs f with
     | some x=>ahQ x s fun x s=>match rW (.sl t) x with
       | some e=>Z5 l (vs.set r (.agg (xs.set f (.dat e t)))) s k
       | none=> .fail
     | none=> .fail
   | _=> .fail
def apM (g:Jp) (e:Ex) (s:St):T Lf:=match e with
 | .exit _=> .fail
 | _=>match nR g.tt s g.res with
   | none=> .fail
   | some vs=>match g.wK with
     | []=>match cellsOf g.oP vs with
       | none=> .fail
       | some cells=>GY cells s fun cells s=>match IU (jE g s.h) g.dY.length s.h g.dY 0 with
         | true=>outs (uP g.oP) cells s fun es _=> .ret (.out ((jE g s.h).ns++es))
         | false=> .fail
     | c :: l=>Z5 g.fz vs s fun vs s=>Yb vs.length g.dY.length g.jV ⟨bD vs 0 .nil,s.h,s.pc⟩ (c :: l) 0
def xI (m jV:Nat) (s:St):List (Nat×CS)→T Lf
 | []=> .fail
 | (j,c) :: l=>match quick s.slots c.slots with
   | false=>xI m jV s l
   | true=>match c.fits prv s (xK jV (c.lN m s)) && Oj m (xK jV (c.lN m s)) with
     | true=> .ret (.jump j (xK jV (c.lN m s)).ns)
     | false=>xI m jV s l
def Y0 {α:Type} (k:St→T α):List (Nat×Nat)→St→T α
 | [],s=>k s
 | (t,g) :: l,s=>match s.slots.get t with
   | some (.int _ e)=>qI s (.eq e (.aP g)) fun s _=>Y0 k l s
   | _=>Y0 k l s
def Df {α:Type} (k:St→T α):List Nat→St→T α
 | [],s=>k s
 | t :: ts,s=>match s.slots.get t with
   | some (.bool c)=>qI s c fun s b=>Df k ts { s with slots:=s.slots.put t (some (.bool (.lit b))) }
   | _=>Df k ts s
def asZ:List (Nat×AV)→List Nat→List Nat
 | [],acc=>acc
 | (t,.bool _) :: l,acc=>asZ l (t :: acc)
 | _ :: l,acc=>asZ l acc
def atA:List (Nat×CS)→List Nat→List Nat
 | [],acc=>acc
 | (_,c) :: l,acc=>atA l (asZ c.slots acc)
mutual
def Ep (g:Jp) (tabs:KG):Nat→List Nat→Code→List FrE→St→T Lf
 | 0,_,_,_,_=> .fail
 | n+1,p,c,fr,s=>match tabs p with
   | some l=>Df (fun s=>xI g.dY.length g.jV s l) (atA l []) s
   | none=>match c with
     | .seq a b=>Ep g tabs n (0 :: p) a (.seq (1 :: p) b :: fr) s
     | .block id b=>Ep g tabs n (0 :: p) b (.block id :: fr) s
     | .scope b=>Ep g tabs n (0 :: p) b (.scope :: fr) s
     | .cond v a b=>match As.ev s v with
       | some (.bool c)=>qI s c fun s t=>match t with
         | true=>Ep g tabs n (0 :: p) a fr s
         | false=>Ep g tabs n (1 :: p) b fr s
       | _=> .fail
     | c=>(g.ev c s).bind fun (e,s')=>Ar g tabs n fr e s'
def Ar (g:Jp) (tabs:KG):Nat→List FrE→Ex→St→T Lf
 | 0,_,_,_=> .fail
 | n+1,fr,e,s=>match fr with
   | []=>apM g e s
   | .seq p c :: fr=>match e with
     | .normal=>Ep g tabs n p c fr s
     | e=>Ar g tabs n fr e s
   | .block id :: fr=>match e with
     | .exit j=>match Nat.beq j id with
       | true=>Ar g tabs n fr .normal s
       | false=>Ar g tabs n fr (.exit j) s
     | e=>Ar g tabs n fr e s
   | .loop p _ :: fr=>match e with
     | .normal=>match tabs p with
       | some l=>Df (fun s=>xI g.dY.length g.jV s l) (atA l []) s
       | none=> .fail
     | e=>Ar g tabs n fr e s
   | .scope :: fr=>Ar g tabs n fr e s
end
abbrev uH:=Nat→List Int→Option (List Int)
def qK (xs:List Int):Int:=enc (dL (xs.map .i))
def Good (F:uH) (ρ:Nat→Int):Prop:= ∀j xs,ρ (kJ (2*j) (qK xs))=(if (F j xs).isSome then 1 else 0)∧ρ (kJ (2*j+1) (qK xs))=qK ((F j xs).getD [])
def low (xs:List Int) (i:Nat):Int:=xs.getD i 0
open Classical in
def bM (F:uH) (lo:Nat→Int) (i:Nat):Int:=if i < 900 then lo i else
 if h: ∃p:Nat×List Int,i=kJ (2*p.1) (qK p.2) then (if (F h.choose.1 h.choose.2).isSome then 1 else 0) else
 if h: ∃p:Nat×List Int,i=kJ (2*p.1+1) (qK p.2) then qK ((F h.choose.1 h.choose.2).getD []) else 0
theorem Yx {a b:List Int} (h:qK a=qK b):a=b:=by
 unfold qK at h;have:=Po (iD h)
 have hinj: ∀{x y:List Int},x.map D.i=y.map D.i→x=y:=by
  intro x
  induction x with
  | nil=>intro y h; cases y with | nil=>rfl | cons z y=>simp at h
  | cons z x ih=>
    intro y h
    cases y with
    | nil=>simp at h
    | cons q y=> simp only [List.map_cons,List.cons.injEq,D.i.injEq] at h;rw [h.1,ih h.2]
 exact hinj this
theorem zD {f g:Nat} {a b:Int} (h:kJ f a=kJ g b):f=g∧a=b:=by unfold kJ at h;obtain⟨h1,h2⟩:=IW (a:=f) (b:=zN a) (a':=g) (b':=zN b) (by omega);exact⟨h1,aiX h2⟩
theorem Dk (f:Nat) (a:Int):1000≤kJ f a:=by unfold kJ; omega
theorem wC {F:uH} {lo:Nat→Int} {i:Nat} (h:i < 900):bM F lo i=lo i:=by unfold bM; rw [if_pos h]
theorem nV (F:uH) (lo:Nat→Int):Good F (bM F lo):=by
 intro j xs;have h1:=Dk (2*j) (qK xs);have h2:=Dk (2*j+1) (qK xs);constructor
 ·unfold bM;rw [if_neg (by omega)];have h: ∃p:Nat×List Int,kJ (2*j) (qK xs)=kJ (2*p.1) (qK p.2):=⟨(j,xs),rfl⟩;rw [dif_pos h];obtain⟨q1,q2⟩:=zD h.choose_spec;have q2:=Yx q2;have q1:h.choose.1=j:=by omega
  rw [← q2,q1]
 ·unfold bM;rw [if_neg (by omega)]
  have hn: ¬∃p:Nat×List Int,kJ (2*j+1) (qK xs)=kJ (2*p.1) (qK p.2):=by rintro⟨p,hp⟩;have:=(zD hp).1;omega
  rw [dif_neg hn];have h: ∃p:Nat×List Int,kJ (2*j+1) (qK xs)=kJ (2*p.1+1) (qK p.2):=⟨(j,xs),rfl⟩;rw [dif_pos h];obtain⟨q1,q2⟩:=zD h.choose_spec;have q2:=Yx q2;have q1:h.choose.1=j:=by omega
  rw [← q2,q1]
theorem Good.ren {F:uH} {ρ ρ':Nat→Int} (g:Good F ρ) (h: ∀i,900≤i→ρ' i=ρ i):Good F ρ':=by intro j xs;have h1:=Dk (2*j) (qK xs);have h2:=Dk (2*j+1) (qK xs);rw [h _ (by omega),h _ (by omega)];exact g j xs
def fA (tree:Nat→T Lf):Nat→uH
 | 0,_,_=>none
 | n+1,j,xs=>match (tree j).leaf (bM (fA tree n) (low xs)) with
   | none=>none
   | some (.out es)=>some (es.map (SE.den (bM (fA tree n) (low xs))))
   | some (.jump j' es)=>fA tree n j' (es.map (SE.den (bM (fA tree n) (low xs))))
def Rj:List CK→Bool
 | []=>true
 | c :: l=>match c with
   | .int _=>Rj l
   | .bool=>Rj l
   | _=>false
def aoJ (j:Nat) (PX oP:List RK):List AV→St→T (AV×St):=fun args s=>match cellsOf PX args with
 | none=> .fail
 | some cells=>GY cells s fun cells s1=>outs (uP PX) cells s1 fun es s2=>
  qI s2 (.eq (.ap (2*j) (iK es)) (.lit 1)) fun s3 b=>match b with
   | true=> .ret (match vW oP (uN (.ap (2*j+1) (iK es))) 0 with | [v]=>v | vs=> .tuple vs,match Rj (uP oP) with
     | true=>{ s3 with h:=s.h }
     | false=>s3)
   | false=> .fail
end
end Go.As
end
section
namespace Go.As
open Go.RowKit
def gG (K:Nat):SE→Bool
 | .lit _=>true
 | .aP i=>Nat.blt i K
 | .add a b=>gG K a && gG K b
 | .sub a b=>gG K a && gG K b
 | .mul a b=>gG K a && gG K b
 | .quo a b=>gG K a && gG K b
 | .rem a b=>gG K a && gG K b
 | .wrap _ a=>gG K a
 | .inp _ _=>false
 | .dat _=>true
 | .op _ a b=>gG K a && gG K b
 | .ap _ _=>false
def BM (K:Nat):SB→Bool
 | .lit _=>true
 | .lt a b=>gG K a && gG K b
 | .le a b=>gG K a && gG K b
 | .eq a b=>gG K a && gG K b
 | .not s=>BM K s
 | .and a b=>BM K a && BM K b
mutual
def oH (K:Nat):AV→Bool
 | .bool b=>BM K b
 | .int _ e=>gG K e
 | .rO cs=>pV K cs
 | .ro cs _ _=>pV K cs
 | .func _ a b=>pV K a && pV K b
 | .iface _ v=>oH K v
 | .agg cs=>pV K cs
 | .tuple cs=>pV K cs
 | .inp _ _=>false
 | .dat e _=>gG K e
 | .mD e=>gG K e
 | .vM _ n _=>gG K n
 | .qL _ _ i _=>gG K i
 | .Bo _ l n _=>gG K l && gG K n
 | .Ik z _=>gG K z
 | _=>true
def pV (K:Nat):List AV→Bool
 | []=>true
 | x :: xs=>oH K x && pV K xs
end
def LQ (K:Nat):List (AV×AV×Nat)→Bool
 | []=>true
 | (k,v,_) :: l=>oH K k && oH K v && LQ K l
def NQ (K:Nat):List (SE×List AV)→Bool
 | []=>true
 | (i,cs) :: l=>gG K i && pV K cs && NQ K l
def Gu (K:Nat):dW→Bool
 | .cells cs _=>pV K cs
 | .map es _=>LQ K es
 | .nY _ _=>true
 | .vec e _ _ ov=>gG K e && NQ K ov
 | .iY e _=>gG K e
def adD (K:Nat):List (SB×Bool)→Bool
 | []=>true
 | (c,_) :: l=>BM K c && adD K l
def yB (K:Nat):List (Nat×AV)→Bool
 | []=>true
 | (_,v) :: l=>oH K v && yB K l
def Ll (K:Nat):List dW→Bool
 | []=>true
 | o :: l=>Gu K o && Ll K l
def CZ (K:Nat) (c:CS):Bool:=yB K c.slots && Ll K c.objs && adD K c.pc
section
variable {K:Nat} {ρ ρ':Nat→Int} (hρ: ∀i,i < K→ρ' i=ρ i)
include hρ
theorem dI: ∀e:SE,gG K e=true→e.den ρ'=e.den ρ
 | .lit _,_=>rfl
 | .aP i,h=>by simp only [gG] at h; exact hρ i (FD h)
 | .add a b,h=>by simp only [gG,Bool.and_eq_true] at h; simp only [SE.den,dI a h.1,dI b h.2]
 | .sub a b,h=>by simp only [gG,Bool.and_eq_true] at h; simp only [SE.den,dI a h.1,dI b h.2]
 | .mul a b,h=>by simp only [gG,Bool.and_eq_true] at h; simp only [SE.den,dI a h.1,dI b h.2]
 | .quo a b,h=>by simp only [gG,Bool.and_eq_true] at h; simp only [SE.den,dI a h.1,dI b h.2]
 | .rem a b,h=>by simp only [gG,Bool.and_eq_true] at h; simp only [SE.den,dI a h.1,dI b h.2]
 | .wrap _ a,h=>by simp only [gG] at h; simp only [SE.den,dI a h]
 | .inp _ _,h=>by simp [gG] at h
 | .dat _,_=>rfl
 | .op _ a b,h=>by simp only [gG,Bool.and_eq_true] at h; simp only [SE.den,dI a h.1,dI b h.2]
 | .ap _ _,h=>by simp [gG] at h
theorem yF: ∀c:SB,BM K c=true→c.den ρ'=c.den ρ
 | .lit _,_=>rfl
 | .lt a b,h=>by simp only [BM,Bool.and_eq_true] at h; simp only [SB.den,dI hρ a h.1,dI hρ b h.2]
 | .le a b,h=>by simp only [BM,Bool.and_eq_true] at h; simp only [SB.den,dI hρ a h.1,dI hρ b h.2]
 | .eq a b,h=>by simp only [BM,Bool.and_eq_true] at h; simp only [SB.den,dI hρ a h.1,dI hρ b h.2]
 | .not s,h=>by simp only [BM] at h; simp only [SB.den,yF s h]
 | .and a b,h=>by simp only [BM,Bool.and_eq_true] at h; simp only [SB.den,yF a h.1,yF b h.2]
end
section
variable {K:Nat} {E E':En} (hρ: ∀i,i < K→E'.ρ i=E.ρ i) (hθ:E'.θ=E.θ) (hκ:E'.κ=E.κ) (hdm:E'.dm=E.dm) (hro:E'.ro=E.ro) {h:Array Obj}
include hρ hθ hκ hdm hro
theorem fP.low {id off len:Nat} {a:Addr} {cap:Nat} {c:YO} (hc:fP E id off len a cap c):fP E' id off len a cap c:=by
 cases c <;> simp only [fP] at* <;> rw [hθ]
 ·exact hc
 ·rw [hκ]; exact hc
mutual
theorem VR.low: ∀(x:AV) (u:Value),oH K x=true→VR E h x u→VR E' h x u
 | .bool b,u,hl,hv=>by simp only [VR,oH] at *; rw [yF hρ b hl]; exact hv
 | .int _ e,u,hl,hv=>by simp only [VR,oH] at *; rw [dI hρ e hl]; exact hv
 | .str s,u,_,hv=>by simp only [VR] at *; exact hv
 | .ptr id off,u,_,hv=>by simp only [VR] at *; rw [hθ,hdm]; exact hv
 | .jR,u,_,hv=>by simp only [VR] at *; exact hv
 | .rO cs,u,hl,hv=>by simp only [VR,oH] at *;obtain⟨b,o,us,h1,h2,h3,h4,h5⟩:=hv;exact⟨b,o,us,h1,by rw [hro]; exact h2,bJ.low cs us hl h3,h4,h5⟩
 | .slice id off len c,u,_,hv=>by simp only [VR] at *;obtain⟨h1,a,cap,h2,h3,h4⟩:=hv;exact⟨by rw [hdm]; exact h1,a,cap,h2,h3,fP.low hρ hθ hκ hdm hro h4⟩
 | .aA,u,_,hv=>by simp only [VR] at *; exact hv
 | .ro cs n full,u,hl,hv=>by simp only [VR,oH] at *;obtain⟨b,o,cap,us,h1,h2,h3,h4,h5,h6,h7⟩:=hv;exact⟨b,o,cap,us,h1,h2,h3,by rw [hro]; exact h4,bJ.low cs us hl h5,h6,h7⟩
 | .map id,u,_,hv=>by simp only [VR] at *; rw [hθ,hdm]; exact hv
 | .pO,u,_,hv=>by simp only [VR] at *; exact hv
 | .func fn fs cs,u,hl,hv=>by simp only [VR,oH,Bool.and_eq_true] at *;obtain⟨us,ws,h1,h2,h3⟩:=hv;exact⟨us,ws,h1,bJ.low fs us hl.1 h2,bJ.low cs ws hl.2 h3⟩
 | .zZ,u,_,hv=>by simp only [VR] at *; exact hv
 | .iface t x,u,hl,hv=>by simp only [VR,oH] at *;obtain⟨y,h1,h2⟩:=hv;exact⟨y,h1,VR.low x y hl h2⟩
 | .E5,u,_,hv=>by simp only [VR] at *; exact hv
 | .agg cs,u,hl,hv=>by simp only [VR,oH] at *;obtain⟨us,h1,h2⟩:=hv;exact⟨us,h1,bJ.low cs us hl h2⟩
 | .tuple cs,u,hl,hv=>by simp only [VR,oH] at *;obtain⟨us,h1,h2⟩:=hv;exact⟨us,h1,bJ.low cs us hl h2⟩
 | .opq _,u,_,hv=>by simp only [VR] at hv
 | .inp _ _,u,hl,_=>by simp [oH] at hl
 | .emp,u,_,hv=>by simp only [VR] at *; exact hv
 | .dat e t,u,hl,hv=>by simp only [VR,oH] at *; rw [dI hρ e hl,hro]; exact hv
 | .mD e,u,hl,hv=>by simp only [VR,oH] at *; rw [dI hρ e hl,hro]; exact hv
 | .vM id n t,u,hl,hv=>by simp only [VR,oH] at *;obtain⟨h1,k,a,cap,h2,h3,h4,h5⟩:=hv;exact⟨by rw [hdm]; exact h1,k,a,cap,by rw [dI hρ n hl]; exact h2,h3,h4,fP.low hρ hθ hκ hdm hro h5⟩
 | .qL id es i off,u,hl,hv=>by simp only [VR,oH] at *;obtain⟨h1,k,h2,h3⟩:=hv;exact⟨by rw [hdm]; exact h1,k,by rw [dI hρ i hl]; exact h2,by rw [hθ]; exact h3⟩
 | .any,u,_,_=>by simp only [VR]
 | .Ik z t,u,hl,hv=>by simp only [VR,oH] at *; rw [dI hρ z hl,hro]; exact hv
 | .Bo id lo n t,u,hl,hv=>by simp only [VR,oH,Bool.and_eq_true] at *;obtain⟨h1,l,k,a,cap,h2,h3,h4,h5,h6⟩:=hv;exact⟨by rw [hdm]; exact h1,l,k,a,cap,by rw [dI hρ lo hl.1]; exact h2,by rw [dI hρ n hl.2]; exact h3,h4,h5,fP.low hρ hθ hκ hdm hro h6⟩
theorem bJ.low: ∀(xs:List AV) (us:List Value),pV K xs=true→bJ E h xs us→bJ E' h xs us
 | [],us,_,hv=>by simp only [bJ] at *; exact hv
 | x :: xs,us,hl,hv=>by simp only [bJ,pV,Bool.and_eq_true] at *;obtain⟨u,vs,h1,h2,h3⟩:=hv;exact⟨u,vs,h1,VR.low x u hl.1 h2,bJ.low xs vs hl.2 h3⟩
end
theorem fB.low: ∀{es:List (AV×AV×Nat)} {ents:List MapEntry},LQ K es=true→fB E h es ents→fB E' h es ents
 | [],_,_,hv=>by simp only [fB] at *; exact hv
 | (k,v,b) :: es,ents,hl,hv=>by simp only [fB,LQ,Bool.and_eq_true] at *;obtain⟨e,r,h1,h2,h3,h4,h5⟩:=hv;exact⟨e,r,h1,VR.low hρ hθ hκ hdm hro k _ hl.1.1 h2,VR.low hρ hθ hκ hdm hro v _ hl.1.2 h3,h4,fB.low hl.2 h5⟩
theorem RX {i:Nat}: ∀{ov:List (SE×List AV)},NQ K ov=true→dQ E'.ρ i ov=dQ E.ρ i ov
 | [],_=>rfl
 | (j,cs) :: l,hl=>by simp only [NQ,Bool.and_eq_true] at hl;simp only [dQ];rw [dI hρ j hl.1.1,RX hl.2]
theorem RZ: ∀{ov:List (SE×List AV)},NQ K ov=true→∀p∈ov,pV K p.2=true
 | [],_,p,hp=>by simp at hp
 | (j,cs) :: l,hl,p,hp=>by
   simp only [NQ,Bool.and_eq_true] at hl;rcases List.mem_cons.1 hp with rfl | hp
   ·exact hl.1.2
   ·exact RZ hl.2 p hp
theorem Hu {r:Row} {ov:List (SE×List AV)} (hl:NQ K ov=true): ∀(ds:List D) (i:Nat) {us:List Value},bJ E h (aK E.ρ r ov ds i) us→bJ E' h (aK E'.ρ r ov ds i) us
 | [],_,us,hv=>by simp only [aK,bJ] at *; exact hv
 | d :: ds,i,us,hv=>by
   simp only [aK] at *;obtain⟨a,b,rfl,h1,h2⟩:=hv.split;refine bJ.append ?_ (Hu hl ds (i+1) h2);rw [RX hρ hθ hκ hdm hro hl]
   cases ho:dQ E.ρ i ov with
   | none=> rw [ho] at h1;rw [gZ] at h1 ⊢;rw [hro];exact h1
   | some cs=> rw [ho] at h1;obtain⟨p,p1,p2,_⟩:=nN ho;exact bJ.low hρ hθ hκ hdm hro cs a (by rw [← p2]; exact RZ hρ hθ hκ hdm hro hl p p1) h1
theorem OR.low {id:Nat} {o:dW} (hl:Gu K o=true) (ho:OR E h id o):OR E' h id o:=by
 cases o with
 | cells cs e=> simp only [OR,Gu] at *;obtain⟨arr,lo,hi,us,h1,h2,h3,h4,h5,h6,h7⟩:=ho;rw [hθ,hκ];exact⟨arr,lo,hi,us,h1,bJ.low hρ hθ hκ hdm hro cs us hl h2,h3,h4,h5,h6,h7⟩
 | map es c=> simp only [OR,Gu] at *;obtain⟨ents,c',h1,h2⟩:=ho;rw [hθ];exact⟨ents,c',h1,fB.low hρ hθ hκ hdm hro hl h2⟩
 | nY s p=>simp only [OR] at *; rw [hθ]; exact ho
 | iY e t=> simp only [OR,Gu] at *;obtain⟨ents,c',h1,h2⟩:=ho;rw [hθ,dI hρ e hl,hro];exact⟨ents,c',h1,h2⟩
 | vec e t ty ov=> simp only [OR,Gu,Bool.and_eq_true] at *;obtain⟨⟨h0,hw⟩,arr,lo,hi,us,h1,h2,h3,h4,h5,h6,h7⟩:=ho;have he:=dI hρ e hl.1;rw [hθ,hκ,he];refine⟨⟨h0,hw⟩,arr,lo,hi,us,h1,Hu hρ hθ hκ hdm hro hl.2 _ _ h2,h3,?_,h5,h6,h7⟩;rw [bU h0] at h4 ⊢;exact h4
end
theorem Xl {K:Nat} {ρ ρ':Nat→Int} (hρ: ∀i,i < K→ρ' i=ρ i): ∀{pc:List (SB×Bool)},adD K pc=true→bI ρ pc→bI ρ' pc
 | [],_,_=>by intro c b h; simp at h
 | (c0,b0) :: l,hl,hp=>by
   simp only [adD,Bool.and_eq_true] at hl;intro c b hm;rcases List.mem_cons.1 hm with hm | hm
   ·simp only [Prod.mk.injEq] at hm;obtain⟨rfl,rfl⟩:=hm;rw [yF hρ c hl.1];exact hp c b (by simp)
   ·exact Xl hρ hl.2 (fun c b h=>hp c b (by simp [h])) c b hm
theorem F7 {K:Nat}: ∀{l:List (Nat×AV)},yB K l=true→∀{t:Nat} {v:AV},(t,v)∈l→oH K v=true
 | [],_,_,_,h=>by simp at h
 | (t0,v0) :: l,hs,t,v,h=>by
   simp only [yB,Bool.and_eq_true] at hs;rcases List.mem_cons.1 h with h | h
   ·simp only [Prod.mk.injEq] at h;rw [h.2]; exact hs.1
   ·exact F7 hs.2 h
theorem BZ {K:Nat}: ∀{l:List dW},Ll K l=true→∀{i:Nat} {o:dW},l[i]?=some o→Gu K o=true
 | [],_,_,_,h=>by simp at h
 | o0 :: l,hs,i,o,h=>by
   simp only [Ll,Bool.and_eq_true] at hs
   cases i with
   | zero=>simp at h; rw [← h]; exact hs.1
   | succ i=>exact BZ hs.2 (by simpa using h)
structure Ig (E:En) (s:St) (a:Act) (w:World):Prop where
 fresh: ∀id,s.h.next≤id→¬E.dm id
 res: ∀r,s.h.res=some r→r < s.h.next∧¬E.dm r
 live: ∀id o,s.h.get id=some o→E.dm id∧OR E w.heap id o∧¬E.ro (E.θ id).1
 inj: ∀id id' o o',s.h.get id=some o→s.h.get id'=some o'→(E.θ id).1=(E.θ id').1→id=id'
 BO: ∀b,E.ro b→b < w.heap.size
 sr:SR E w.heap s.slots a
 pc:bI E.ρ s.pc
theorem Fit.x [Glob] {E:En} {s:St} {a:Act} {w:World} (f:Fit E s a w):Ig E s a w:=⟨f.rel.fresh,f.rel.res,f.rel.live,f.rel.inj,f.rel.BO,f.sr,f.pc⟩
theorem Ig.fit [Glob] {E:En} {s:St} {a:Act} {w:World} (f:Ig E s a w) (hg:Glob.ok E.ρ E.ro w.heap):Fit E s a w:=⟨⟨f.fresh,f.res,f.live,f.inj,f.BO,hg⟩,f.sr,f.pc⟩
theorem Ig.low {K:Nat} {E:En} {c:CS} {a:Act} {w:World} {ρ':Nat→Int} (hc:CZ K c=true) (hρ: ∀i,i < K→ρ' i=E.ρ i) (f:Ig E c.st a w):Ig { E with ρ:=ρ' } c.st a w:=by
 unfold CZ at hc;simp only [Bool.and_eq_true] at hc;obtain⟨⟨h1,h2⟩,h3⟩:=hc;refine⟨f.fresh,f.res,fun id o ho=>?_,f.inj,f.BO,fun t v ht=>?_,Xl hρ h3 f.pc⟩
 ·obtain⟨q1,q2,q3⟩:=f.live id o ho;refine⟨q1,OR.low (E:=E) (E':={ E with ρ:=ρ' }) hρ rfl rfl rfl rfl ?_ q2,q3⟩;have:(vV c.objs 0 .nil).get id=some o:=ho;rw [mY] at this;split at this
  ·exact BZ h2 this
  ·simp [Tr.get] at this
 ·obtain⟨u,q1,q2⟩:=f.sr t v ht;refine⟨u,q1,VR.low (E:=E) (E':={ E with ρ:=ρ' }) hρ rfl rfl rfl rfl v u ?_ q2⟩;have:(rZ c.slots .nil).get t=some v:=ht;rcases BI this with h | h
  ·exact F7 h1 h
  ·simp [Tr.get] at h
end Go.As
end
section
namespace Go.As
open Go.RowKit
def zG (ro:Nat→Prop) (h:Array Obj) (c:CK) (n:Int) (u:Value):Prop:=match c with
 | .int k=>u= .int k n
 | .bool=>u= .bool (!(n == 0))
 | c=>Rd ro h c (dec n) u
def jI (ro:Nat→Prop) (h:Array Obj):List CK→List Int→List Value→Prop
 | [],ns,us=>ns= []∧us= []
 | c :: cs,ns,us=> ∃n ns' u us',ns=n :: ns'∧us=u :: us'∧zG ro h c n u∧jI ro h cs ns' us'
theorem Yr {E:En} {h:Array Obj} {c:CK} {t:SE} {u:Value}:VR E h (afL c t) u↔zG E.ro h c (t.den E.ρ) u:=by cases c <;> simp only [afL,zG,VR,SB.den,SE.den]
theorem amZ {E:En} {h:Array Obj} {c:CK} {v:AV} {u:Value} {e:SE} (hv:VR E h v u) (hn:anA c v=some e):zG E.ro h c (e.den E.ρ) u:=by
 unfold anA at hn;split at hn
 ·split at hn
  ·split at hn
   ·rename_i hk;subst hk;simp only [Option.some.injEq] at hn;subst hn;simpa only [zG,VR] using hv
   ·simp at hn
  ·simp at hn
 ·simp at hn
 ·obtain⟨s,rfl,hs⟩:=FZ hv hn;simp only [zG,hs];exact .str s
 ·exact qG hv hn
theorem jI.length {ro:Nat→Prop} {h:Array Obj}: ∀{cs:List CK} {ns:List Int} {us:List Value},jI ro h cs ns us→ns.length=cs.length∧us.length=cs.length
 | [],ns,us,hh=>by simp only [jI] at hh; simp [hh.1,hh.2]
 | c :: cs,ns,us,hh=>by obtain⟨n,ns',u,us',rfl,rfl,_,h2⟩:=hh;have:=h2.length;simp [this.1,this.2]
theorem zG.keep {ro ro':Nat→Prop} {h h':Array Obj} (k1: ∀b,ro b→ro' b) (k2: ∀b,ro b→h'[b]?=h[b]?) {c:CK} {n:Int} {u:Value} (r:zG ro h c n u):zG ro' h' c n u:=by
 cases c with
 | int k=>exact r
 | bool=>exact r
 | str=>exact Rd.keep k1 k2 r
 | sl t=>exact Rd.keep k1 k2 r
theorem PE {E:En} {h:Array Obj} {f:Nat→SE}: ∀{cs:List CK} {i:Nat} {ns:List Int} {us:List Value},jI E.ro h cs ns us→(∀k n,ns[k]?=some n→(f (i+k)).den E.ρ=n)→bJ E h (PG cs f i) us
 | [],_,_,us,hh,_=>by simp only [jI] at hh; rw [hh.2]; simp [PG,bJ]
 | c :: cs,i,ns,us,hh,hf=>by
   obtain⟨n,ns',u,us',rfl,rfl,h1,h2⟩:=hh;simp only [PG,aY];refine⟨u,us',rfl,?_,PE h2 fun k m hk=>?_⟩
   ·rw [Yr];have:=hf 0 n rfl;rw [Nat.add_zero] at this;rw [this];exact h1
   ·have:=hf (k+1) m (by simpa using hk);rw [show i+1+k=i+(k+1) by omega];exact this
inductive Shape:List RK→List Value→List Value→Prop where
 | nil:Shape [] [] []
 | one (c:CK) {rs:List RK} {us fl:List Value} (u:Value):Shape rs us fl→Shape (.one c :: rs) (u :: us) (u :: fl)
 | agg (cs:List CK) {rs:List RK} {us fl:List Value} (xs:List Value) (h:xs.length=cs.length):Shape rs us fl→Shape (.agg cs :: rs) (.agg xs.toArray :: us) (xs++fl)
theorem sJ {E:En} {h:Array Obj}: ∀{oP:List RK} {vs cells:List AV} {us:List Value},bJ E h vs us→cellsOf oP vs=some cells→∃fl,Shape oP us fl∧bJ E h cells fl
 | [],[],cells,us,hv,hc=>by simp only [cellsOf,Option.some.injEq] at hc;subst hc;simp only [bJ] at hv;subst hv;exact⟨[],.nil,by simp [bJ]⟩
 | [],_ :: _,cells,us,hv,hc=>by simp [cellsOf] at hc
 | .one _ :: _,[],cells,us,hv,hc=>by simp [cellsOf] at hc
 | .agg _ :: _,[],cells,us,hv,hc=>by simp [cellsOf] at hc
 | .one c :: rs,v :: vs,cells,us,hv,hc=>by
   rw [aY] at hv;obtain⟨u,us',rfl,h1,h2⟩:=hv;simp only [cellsOf] at hc;split at hc
   ·split at hc
    ·rename_i l hl;simp only [Option.some.injEq] at hc;subst hc;obtain⟨fl,s,v2⟩:=sJ h2 hl;exact⟨u :: fl,.one c u s,by rw [aY]; exact⟨u,fl,rfl,h1,v2⟩⟩
    ·simp at hc
   ·simp at hc
 | .agg cs :: rs,v :: vs,cells,us,hv,hc=>by
   rw [aY] at hv;obtain⟨u,us',rfl,h1,h2⟩:=hv;simp only [cellsOf] at hc;split at hc
   ·rename_i xs;split at hc
    ·rename_i hlen;have hlen:=Nat.eq_of_beq_eq_true hlen;split at hc
     ·rename_i l hl;simp only [Option.some.injEq] at hc;subst hc;obtain⟨fl,s,v2⟩:=sJ h2 hl;simp only [VR] at h1;obtain⟨ws,rfl,h3⟩:=h1;exact⟨ws++fl,.agg cs ws (by rw [h3.length,hlen]) s,h3.append v2⟩
     ·simp at hc
    ·simp at hc
   ·simp at hc
theorem EK {ro:Nat→Prop} {h:Array Obj}: ∀{cs ds:List CK} {ns:List Int} {us vs:List Value},us.length=cs.length→jI ro h (cs++ds) ns (us++vs)→∃a b,ns=a++b∧jI ro h cs a us∧jI ro h ds b vs
 | [],ds,ns,us,vs,hl,hh=>by have:us= []:=List.eq_nil_of_length_eq_zero hl;subst this;exact⟨[],ns,rfl,by simp [jI],hh⟩
 | c :: cs,ds,ns,us,vs,hl,hh=>by
   simp only [List.cons_append,jI] at hh;obtain⟨n,ns',u,us',rfl,he,h1,h2⟩:=hh
   cases us with
   | nil=>simp at hl
   | cons x us=> simp only [List.cons_append,List.cons.injEq] at he;obtain⟨rfl,rfl⟩:=he;obtain⟨a,b,rfl,h3,h4⟩:=EK (by simpa using hl) h2;exact⟨n :: a,b,rfl,⟨n,a,x,us,rfl,rfl,h1,h3⟩,h4⟩
theorem yO {E:En} {h:Array Obj} {f:Nat→SE}: ∀{oP:List RK} {us fl:List Value} {ns:List Int} {i:Nat},Shape oP us fl→jI E.ro h (uP oP) ns fl→(∀k n,ns[k]?=some n→(f (i+k)).den E.ρ=n)→bJ E h (vW oP f i) us
 | [],us,fl,ns,i,s,_,_=>by cases s; simp [vW,bJ]
 | .one c :: rs,us,fl,ns,i,s,hc,hf=>by
   cases s with
   | one _ u s=>
     simp only [uP,RK.flat,List.cons_append,List.nil_append,jI] at hc;obtain⟨n,ns',u',us',rfl,he,h1,h2⟩:=hc;simp only [List.cons.injEq] at he;obtain⟨rfl,rfl⟩:=he;simp only [vW,aY];refine⟨_,_,rfl,?_,yO s h2 fun k m hk=>?_⟩
     ·rw [Yr];have:=hf 0 n rfl;rw [Nat.add_zero] at this;rw [this]; exact h1
     ·have:=hf (k+1) m (by simpa using hk);rw [show i+1+k=i+(k+1) by omega];exact this
 | .agg cs :: rs,us,fl,ns,i,s,hc,hf=>by
   cases s with
   | agg _ xs hl s=>
     simp only [uP,RK.flat] at hc;obtain⟨a,b,rfl,h1,h2⟩:=EK hl hc;have hal:=h1.length.1;simp only [vW,aY,VR];refine⟨_,_,rfl,⟨xs,rfl,PE h1 fun k m hk=>hf k m ?_⟩,yO s h2 fun k m hk=>?_⟩
     ·rw [List.getElem?_append_left (List.getElem?_eq_some_iff.1 hk).1]; exact hk
     ·have:=hf (cs.length+k) m (by rw [List.getElem?_append_right (by omega),show cs.length+k - a.length=k by omega]; exact hk);rw [show i+cs.length+k=i+(cs.length+k) by omega];exact this
section
variable {P:Program} {E:En} {w:World}
theorem Lh {α:Type} {r:α} {h:Array Obj}: ∀{cs:List CK} {vs:List AV} {s:St} {k:List SE→St→T α} {us:List Value},bI E.ρ s.pc→bJ E h vs us→(outs cs vs s k).leaf E.ρ=some r→
 ∃es pc',bI E.ρ pc'∧jI E.ro h cs (es.map (SE.den E.ρ)) us∧(k es { s with pc:=pc' }).leaf E.ρ=some r
 | [],[],s,k,us,hp,hv,hl=>by simp only [outs] at hl;simp only [bJ] at hv;exact⟨[],s.pc,hp,by simp [jI,hv],hl⟩
 | [],_ :: _,s,k,us,hp,hv,hl=>by simp [outs,T.leaf] at hl
 | _ :: _,[],s,k,us,hp,hv,hl=>by simp [outs,T.leaf] at hl
 | c :: cs,v :: vs,s,k,us,hp,hv,hl=>by
   rw [aY] at hv;obtain⟨u,us',rfl,h1,h2⟩:=hv;simp only [outs] at hl;split at hl
   ·split at hl
    ·rename_i b;obtain⟨pc1,hp1,hl1⟩:=cO hp hl;obtain⟨es,pc2,hp2,q1,q2⟩:=Lh (s:={ s with pc:=pc1 }) hp1 h2 hl1;refine⟨_ :: es,pc2,hp2,?_,q2⟩;simp only [List.map_cons,jI];refine⟨_,_,u,us',rfl,rfl,?_,q1⟩;simp only [VR] at h1;subst h1;simp only [zG,SE.den];cases b.den E.ρ <;> rfl
    ·simp [T.leaf] at hl
   ·split at hl
    ·rename_i e he;obtain⟨es,pc2,hp2,q1,q2⟩:=Lh hp h2 hl;refine⟨_ :: es,pc2,hp2,?_,q2⟩;simp only [List.map_cons,jI];exact⟨_,_,u,us',rfl,rfl,amZ h1 he,q1⟩
    ·simp [T.leaf] at hl
theorem ES (ρ:Nat→Int): ∀es:List SE,dec ((iK es).den ρ)=dL ((es.map (SE.den ρ)).map .i)
 | []=>by simp only [iK,SE.den,aG]; rfl
 | e :: es=>by simp only [iK,gX,SE.den,iO.den,aG,oV,ES ρ es,List.map_cons,dL]
theorem lH (ρ:Nat→Int): ∀es:List SE,(iK es).den ρ=qK (es.map (SE.den ρ))
 | []=>rfl
 | e :: es=>by have:=ES ρ (e :: es);simp only [iK,gX,SE.den,iO.den,aG,oV,ES ρ es,List.map_cons,qK,dL]
theorem Dy {ρ:Nat→Int} {r:SE} {ys:List Int} (h:r.den ρ=qK ys) {i:Nat} {y:Int} (hi:ys[i]?=some y):(uN r i).den ρ=y:=by simp only [uN,SE.den,iO.den,h,qK,aG,D.hd,aT,List.getElem?_map,hi,Option.map_some,Option.getD_some,D.n]
def ayX (oP:List RK) (ys:List Int) (ro:Nat→Prop) (h:Array Obj) (u:Value):Prop:= ∃us fl,Shape oP us fl∧jI ro h (uP oP) ys fl∧u=if hh:us.toArray.size=1 then us.toArray[0] else .tuple us.toArray
def atL (P:Program) (GB:(Nat→Prop)→Array Obj→Prop) (g:FuncId) (PX oP:List RK) (f:List Int→Option (List Int)):Prop:=
 ∀xs ys,f xs=some ys→∀(ro:Nat→Prop) (w:World) (vals fl:List Value),(∀b,ro b→b < w.heap.size)→GB ro w.heap→Shape PX vals fl→jI ro w.heap (uP PX) xs fl→
  Calls P g vals.toArray w fun e w'=> ∃u,e= .returned u∧Below w.heap.size w w'∧∃ro':Nat→Prop,(∀b,ro b→ro' b)∧(∀b,ro' b→ro b∨w.heap.size≤b)∧(∀b,ro' b→b < w'.heap.size)∧ayX oP ys ro' w'.heap u
theorem jI.aBz {ro ro':Nat→Prop} {h h':Array Obj}: ∀{cs:List CK} {ns:List Int} {us:List Value},jI ro h cs ns us→Rj cs=true→jI ro' h' cs ns us
 | [],ns,us,hh,_=>hh
 | c :: cs,ns,us,hh,hs=>by
   obtain⟨n,ns',u,us',rfl,rfl,h1,h2⟩:=hh;simp only [Rj] at hs;split at hs
   ·exact⟨n,ns',u,us',rfl,rfl,h1,h2.aBz hs⟩
   ·exact⟨n,ns',u,us',rfl,rfl,h1,h2.aBz hs⟩
   ·simp at hs
theorem aoI [Glob] {GB:(Nat→Prop)→Array Obj→Prop} (hgb: ∀ρ ro h,Glob.ok ρ ro h→GB ro h) {F:uH} (hgood: ∀ρ ro h,Glob.ok ρ ro h→Good F ρ) {g:FuncId} {j:Nat} {PX oP:List RK} (hs:atL P GB g PX oP (F j))
 (hrun: ∀(args:Array Value) (w:World),(callFunc g args).run P w= .ok (.enter g args) w):mP P g (aoJ j PX oP):=by
 intro aGL s E w vals v s' r hv hp hl;unfold aoJ at hl;split at hl
 ·simp [T.leaf] at hl
 ·rename_i cells hc;obtain⟨fl,sh,hv2⟩:=sJ hv hc;obtain⟨cells',h1,pcF,E1,hpF,f,hfr,hl⟩:=yU rfl r hp hl;have hv3:=hfr _ hv2;have s1:=f.eG;have r1:=f.rel;have hρ:=f.ρ;rw [← hρ] at hl hpF;obtain⟨es,pc1,hp1,q1,q2⟩:=Lh (s:={ s with h:=h1,pc:=pcF }) hpF hv3 hl;obtain⟨pc2,hp2,q3⟩:=cO (s:={ s with h:=h1,pc:=pc1 }) hp1 q2;split at q3
  ·rename_i ht;have hg:=hgood _ _ _ r1.glob;have hg1:=(hg j (es.map (SE.den E1.ρ))).1;have hg2:=(hg j (es.map (SE.den E1.ρ))).2;simp only [SB.den,SE.den,lH,hg1,beq_iff_eq] at ht
   have hsome:(F j (es.map (SE.den E1.ρ))).isSome=true:=by
    cases hh:(F j (es.map (SE.den E1.ρ))).isSome with
    | true=>rfl
    | false=>rw [hh] at ht; simp at ht
   obtain⟨ys,hys⟩:=Option.isSome_iff_exists.1 hsome;have hres:=aH q3;simp only [Prod.mk.injEq] at hres;obtain⟨rfl,hs'⟩:=hres;have hrun':=hs _ ys hys E1.ro w vals fl r1.BO (hgb _ _ _ r1.glob) sh q1
   have hval: ∀(E2:En) (h2:Array Obj) (us fl':List Value),E2.ρ=E1.ρ→Shape oP us fl'→jI E2.ro h2 (uP oP) ys fl'→
    VR E2 h2 (match vW oP (uN (.ap (2*j+1) (iK es))) 0 with | [v]=>v | vs=> .tuple vs) (if hh:us.toArray.size=1 then us.toArray[0] else .tuple us.toArray):=by
    intro E2 h2 us fl' hE2 sh' c1
    have hvr:bJ E2 h2 (vW oP (uN (.ap (2*j+1) (iK es))) 0) us:=by refine yO sh' c1 fun k n hk=>?_;rw [Nat.zero_add];refine Dy (ys:=ys) ?_ hk;show E2.ρ _=_;rw [hE2,lH,hg2,hys];rfl
    have:=KX hvr;unfold resV at this;exact this
   cases hsc:Rj (uP oP) with
   | true=>
     rw [hsc] at hs';simp only at hs';subst hs';refine⟨rfl,by rw [← hρ]; exact hp2,?_⟩;unfold uT uS;rw [hrun];refine Calls.mono hrun' fun e w' ⟨u,he,hb,ro',k1,k2,k3,k4⟩=> ⟨u,he,?_⟩;have hkeep:Keeps E w.heap E w'.heap:=⟨rfl,fun _ h=>h,fun _ _=>rfl,fun _ _=>rfl,fun _ h=>h,fun b hbr=>hb.block b (r.BO b hbr)⟩
     have st2:Stp E s.h w E s.h w':=
      ⟨rfl,fun _ h=>h,fun _ _=>rfl,fun _ _=>rfl,fun _ h=>h,fun b hbr=> .inl hbr,Nat.le_refl _,.inr rfl,fun _ h=> .inl h,hb.os,hb.tape,hb.output,hb.size,fun b hbl _=>hb.block b hbl,fun id o h _=> ⟨id,o,h,rfl⟩⟩
     have r2:bF E s.h w':=by refine⟨r.fresh,r.res,fun id o h=>?_,r.inj,fun b hbr=>Nat.lt_of_lt_of_le (r.BO b hbr) hb.size,Glob.keep r.glob (fun _ h=>h) hkeep.Nr⟩;obtain⟨g1,g2,g3⟩:=r.live id o h;exact⟨g1,g2.keep hkeep g1 (hb.block _ (jG r h)),g3⟩
     obtain⟨us,fl',sh',c1,rfl⟩:=k4;exact⟨E,st2,r2,hval E w'.heap us fl' hρ.symm sh' (c1.aBz hsc)⟩
   | false=>
     rw [hsc] at hs';simp only at hs';subst hs';refine⟨rfl,by rw [← hρ]; exact hp2,?_⟩;unfold uT uS;rw [hrun];refine Calls.mono hrun' fun e w' ⟨u,he,hb,ro',k1,k2,k3,k4⟩=> ⟨u,he,?_⟩;have hkeep:Keeps E1 w.heap { E1 with ro:=ro' } w'.heap:=⟨rfl,fun _ h=>h,fun _ _=>rfl,fun _ _=>rfl,k1,fun b hbr=>hb.block b (r1.BO b hbr)⟩
     have st2:Stp E1 h1 w { E1 with ro:=ro' } h1 w':=
      ⟨rfl,fun _ h=>h,fun _ _=>rfl,fun _ _=>rfl,k1,fun b hbr=>(k2 b hbr).imp id .inr,Nat.le_refl _,.inr rfl,fun _ h=> .inl h,hb.os,hb.tape,hb.output,hb.size,fun b hbl _=>hb.block b hbl,fun id o h _=> ⟨id,o,h,rfl⟩⟩
     have r2:bF { E1 with ro:=ro' } h1 w':=by
      refine⟨r1.fresh,r1.res,fun id o h=>?_,r1.inj,k3,Glob.keep r1.glob k1 hkeep.Nr⟩;obtain⟨g1,g2,g3⟩:=r1.live id o h;refine⟨g1,g2.keep hkeep g1 (hb.block _ (jG r1 h)),fun hr=>?_⟩;rcases k2 _ hr with hr | hr
      ·exact g3 hr
      ·have hlt:(E1.θ id).1 < w.heap.size:=jG r1 h;have hge:w.heap.size≤(E1.θ id).1:=hr;omega
     obtain⟨us,fl',sh',c1,rfl⟩:=k4;exact⟨{ E1 with ro:=ro' },s1.trans st2,r2,hval { E1 with ro:=ro' } w'.heap us fl' rfl sh' c1⟩
  ·simp [T.leaf] at q3
end
end Go.As
end
section
namespace Go.As
open Go.RowKit
structure qY where
 w0:World
 ro:Nat→Prop
 m:Nat
 θ:Nat→Nat×Nat
 κ:Nat→Nat
def qY.fp (B:qY) (b:Nat):Prop:= ∃i,i < B.m∧(B.θ i).1=b
structure Bel (B:qY) (w:World):Prop where
 os:w.os=B.w0.os
 tape:w.tape=B.w0.tape
 output:w.output=B.w0.output
 size:B.w0.heap.size≤w.heap.size
 blk: ∀k,k < B.w0.heap.size→¬B.fp k→w.heap[k]?=B.w0.heap[k]?
structure qX (B:qY) (E:En) (s:St) (a:Act) (w:World):Prop where
 fit:Ig E s a w
 ro: ∀b,B.ro b→E.ro b
 JE: ∀b,E.ro b→B.ro b∨B.w0.heap.size≤b∨B.fp b
 bel:Bel B w
 own: ∀id o,s.h.get id=some o→B.w0.heap.size≤(E.θ id).1∨B.fp (E.θ id).1
 inx: ∀i,i < B.m→E.dm i∧E.θ i=B.θ i∧E.κ i=B.κ i
section
variable {P:Program} {B:qY}
theorem qX.step [Glob] {E E':En} {s s':St} {a a':Act} {w w':World} (t:qX B E s a w) (st:Stp E s.h w E' s'.h w') (f':Fit E' s' a' w'):qX B E' s' a' w':=by
 have hown: ∀id o,s'.h.get id=some o→B.w0.heap.size≤(E'.θ id).1∨B.fp (E'.θ id).1:=by
  intro id o ho;rcases Nat.lt_or_ge (E'.θ id).1 w.heap.size with h | h
  ·obtain⟨Em,o0,h0,he⟩:=st.own id o ho h;rw [← he];exact t.own Em o0 h0
  ·exact .inl (Nat.le_trans t.bel.size h)
 refine⟨f'.x,fun b hb=>st.ro b (t.ro b hb),fun b hb=>?_,⟨st.os.trans t.bel.os,st.tape.trans t.bel.tape,st.output.trans t.bel.output,Nat.le_trans t.bel.size st.size,fun k hk hn=>?_⟩,hown,fun i hi=>?_⟩
 ·rcases st.JE b hb with h | ⟨id,o,h1,h2⟩ | h
  ·exact t.JE b h
  ·rw [← h2]; exact .inr (t.own id o h1)
  ·exact .inr (.inl (Nat.le_trans t.bel.size h))
 ·rw [← t.bel.blk k hk hn];refine st.keep k (Nat.lt_of_lt_of_le hk t.bel.size) fun id o ho he=>?_;rcases t.own id o ho with h | h
  ·omega
  ·rw [he] at h; exact hn h
 ·obtain⟨h1,h2,h3⟩:=t.inx i hi;exact⟨st.dm i h1,by rw [st.θ i h1]; exact h2,by rw [st.κ i h1]; exact h3⟩
theorem qX.then [Glob] {E:En} {s s':St} {a a':Act} {w w':World} (t:qX B E s a w) (h:Then E s a w s' a' w'): ∃E',qX B E' s' a' w'∧E'.ρ=E.ρ∧Glob.ok E'.ρ E'.ro w'.heap:=by obtain⟨_,_,E',st,f'⟩:=h;exact⟨E',t.step st f',st.ρ,f'.rel.glob⟩
theorem qX.pc {E:En} {s:St} {a:Act} {w:World} {pc:List (SB×Bool)} (t:qX B E s a w) (hp:bI E.ρ pc):qX B E { s with pc:=pc } a w:=
 ⟨⟨t.fit.fresh,t.fit.res,t.fit.live,t.fit.inj,t.fit.BO,t.fit.sr,hp⟩,t.ro,t.JE,t.bel,t.own,t.inx⟩
theorem Oi {r:Ren}: ∀{m:Nat},Oj m r=true→∀i,i < m→i < r.bl.length∧r.id i=i∧r.Bv i=0
 | 0,_,i,hi=>by omega
 | n+1,h,i,hi=>by
   simp only [Oj,Bool.and_eq_true] at h;obtain⟨⟨h1,h2⟩,h3⟩:=h;by_cases he:i=n
   ·subst he;split at h1
    ·rename_i j hj;have h1:=Nat.eq_of_beq_eq_true h1;subst h1;refine⟨?_,?_,Nat.eq_of_beq_eq_true h2⟩
     ·rw [dB] at hj;exact (List.getElem?_eq_some_iff.1 hj).1
     ·unfold Ren.id; rw [hj]
    ·simp at h1
   ·exact Oi h3 i (by omega)
theorem qX.fits [Glob] {E:En} {c:CS} {s:St} {r:Ren} {a:Act} {w:World} (t:qX B E s a w) (hg:Glob.ok E.ρ E.ro w.heap) (h:c.fits prv s r=true) (hid:Oj B.m r=true):r.ns.length≤900∧qX B (E.ren r) c.st a w:=by
 obtain⟨hl,f,ho⟩:=G5 Zz (t.fit.fit hg) h;refine⟨hl,f.x,t.ro,t.JE,t.bel,fun id o hid=>?_,fun i hi=>?_⟩
 ·obtain⟨o',h'⟩:=ho id o hid;exact t.own _ _ h'
 ·obtain⟨q1,q2,q3⟩:=Oi hid i hi;obtain⟨h1,h2,h3⟩:=t.inx i hi;refine⟨⟨q1,by rw [q2]; exact h1⟩,?_,?_⟩
  ·show ((E.θ (r.id i)).1,(E.θ (r.id i)).2+r.Bv i)=_;rw [q2,q3,Nat.add_zero];exact h2
  ·show E.κ (r.id i) - r.Bv i=_;rw [q2,q3,Nat.sub_zero];exact h3
theorem qX.low {K:Nat} {E:En} {c:CS} {a:Act} {w:World} {ρ':Nat→Int} (hc:CZ K c=true) (hρ: ∀i,i < K→ρ' i=E.ρ i) (t:qX B E c.st a w):qX B { E with ρ:=ρ' } c.st a w:=
 ⟨t.fit.low hc hρ,t.ro,t.JE,t.bel,t.own,t.inx⟩
def qY.out (B:qY) (ys:List Int) (ro:Nat→Prop):En:={ ρ:=low ys,θ:=B.θ,κ:=B.κ,dm:=fun i=>i < B.m,ro:=ro }
def QE (B:qY) (oP:List RK) (dY:List dW) (ko:Nat) (ys:List Int) (e:Ending) (w':World):Prop:=
 ∃u,e= .returned u∧Bel B w'∧∃ro':Nat→Prop,(∀b,B.ro b→ro' b)∧(∀b,ro' b→B.ro b∨B.w0.heap.size≤b)∧(∀b,ro' b→b < w'.heap.size)∧(∀i,i < B.m→¬ro' (B.θ i).1)∧
  (∀i o,dY[i]?=some o→OR (B.out ys ro') w'.heap i o)∧ayX oP (ys.drop ko) ro' w'.heap u
def agK (us:List Value):Value:=if h:us.toArray.size=1 then us.toArray[0] else .tuple us.toArray
def QR (B:qY) (wK:List CS) (ys:List Int) (e:Ending) (w':World):Prop:=
 ∃(us:List Value) (i:Nat) (c:CS) (E':En),e= .returned (agK us)∧Bel B w'∧wK[i]?=some c∧ys[0]?=some (i:Int)∧ys.length=c.k+1∧(∀a x,ys[a+1]?=some x→E'.ρ a=x)∧us.length=c.slots.length∧
  Ig E' c.st { tmps:=us.toArray,defers:=[] } w'∧(∀b,B.ro b→E'.ro b)∧(∀b,E'.ro b→B.ro b∨B.w0.heap.size≤b)∧(∀i,i < B.m→i < c.objs.length∧E'.dm i∧E'.θ i=B.θ i∧E'.κ i=B.κ i)∧(∀id o,c.st.h.get id=some o→B.m≤id→B.w0.heap.size≤(E'.θ id).1)
def QX (B:qY) (oP:List RK) (dY:List dW) (ko:Nat) (wK:List CS) (ys:List Int):Ending→World→Prop:=match wK with
 | []=>QE B oP dY ko ys
 | c :: l=>QR B (c :: l) ys
structure abL [Glob] (P:Program) (g:Jp) (chk:Nat→List Oper→Bool):Prop where
 tt:eP P g.tt
 call:jU P g.call
 draw:Dp P chk g.draw
theorem yX {chk:Nat→List Oper→Bool} {N:Nat} {body:Code} (h:mJ chk N body=true): ∀(p:List Nat) {c:Code} {fr:List FrE},uU body p=some (c,fr)→mJ chk N c=true
 | [],c,fr,hl=>by simp only [uU,Option.some.injEq,Prod.mk.injEq] at hl;rw [← hl.1]; exact h
 | d :: p,c,fr,hl=>by
   simp only [uU] at hl;split at hl
   ·rename_i a b fr' hp;have:=yX h p hp;simp only [mJ,Bool.and_eq_true] at this;split at hl
    ·simp only [Option.some.injEq,Prod.mk.injEq] at hl; rw [← hl.1]; exact this.1
    ·simp only [Option.some.injEq,Prod.mk.injEq] at hl; rw [← hl.1]; exact this.2
   ·rename_i id b fr' hp;have:=yX h p hp;simp only [mJ] at this;simp only [Option.some.injEq,Prod.mk.injEq] at hl; rw [← hl.1]; exact this
   ·rename_i v a b fr' hp;have:=yX h p hp;simp only [mJ,Bool.and_eq_true] at this;split at hl
    ·simp only [Option.some.injEq,Prod.mk.injEq] at hl; rw [← hl.1]; exact this.1
    ·simp only [Option.some.injEq,Prod.mk.injEq] at hl; rw [← hl.1]; exact this.2
   ·rename_i b fr' hp;have:=yX h p hp;simp only [mJ] at this;simp only [Option.some.injEq,Prod.mk.injEq] at hl; rw [← hl.1]; exact this
   ·rename_i b fr' hp;have:=yX h p hp;simp only [mJ] at this;simp only [Option.some.injEq,Prod.mk.injEq] at hl; rw [← hl.1]; exact this
   ·simp at hl
theorem DL {body:Code}: ∀(p:List Nat) {c:Code} {fr:List FrE},uU body p=some (c,fr)→P9 body fr
 | [],c,fr,h=>by simp only [uU,Option.some.injEq,Prod.mk.injEq] at h;rw [← h.2]; trivial
 | d :: p,c,fr,h=>by
   have h0:=h;simp only [uU] at h;split at h
   ·rename_i a b fr' hp;have ih:=DL p hp;split at h
    ·simp only [Option.some.injEq,Prod.mk.injEq] at h;obtain⟨rfl,rfl⟩:=h;refine⟨?_,ih⟩;simp only [uU,hp]
    ·simp only [Option.some.injEq,Prod.mk.injEq] at h;rw [← h.2]; exact ih
   ·rename_i id b fr' hp;have ih:=DL p hp;simp only [Option.some.injEq,Prod.mk.injEq] at h;rw [← h.2]; exact ih
   ·rename_i v a b fr' hp;have ih:=DL p hp;split at h
    ·simp only [Option.some.injEq,Prod.mk.injEq] at h; rw [← h.2]; exact ih
    ·simp only [Option.some.injEq,Prod.mk.injEq] at h; rw [← h.2]; exact ih
   ·rename_i b fr' hp;have ih:=DL p hp;simp only [Option.some.injEq,Prod.mk.injEq] at h;rw [← h.2];exact⟨hp,ih⟩
   ·rename_i b fr' hp;have ih:=DL p hp;simp only [Option.some.injEq,Prod.mk.injEq] at h;rw [← h.2]; exact ih
   ·simp at h
def YI (F:uH) (ρ:Nat→Int) (ys:List Int):Lf→Prop
 | .out es=>es.map (SE.den ρ)=ys
 | .jump j es=>F j (es.map (SE.den ρ))=some ys
def atS [Glob] (P:Program) (body:Code) (N:Nat) (B:qY) (Q:Exit→Act→World→Prop) (F:uH) (ys:List Int) (tabs:KG):Prop:=
 ∀p l,tabs p=some l→∃b fr,uU body p=some (.loop b,fr)∧∀j c,(j,c)∈l→∀E a w,qX B E c.st a w→Glob.ok E.ρ E.ro w.heap→(∃xs:List Int,(∀i x,xs[i]?=some x→E.ρ i=x)∧xs.length=c.k∧c.k≤900∧F j xs=some ys)→N≤a.tmps.size→a.defers= []→P8 P b (KE P Q fr) a w
theorem sF (g:Tr SE): ∀(n i:Nat),(Fb g n i).length=n
 | 0,_=>rfl
 | n+1,i=>by simp only [Fb];split <;> simp [sF g n (i+1)]
theorem Aq (m:Nat) (c:CS) (s:St):(c.lN m s).ns.length=c.k:=by unfold CS.lN;split;exact sF _ _ _
theorem GZ: ∀(n i:Nat) (ns:List SE),(JU n i ns).length=ns.length
 | 0,_,_=>rfl
 | _+1,_,[]=>rfl
 | n+1,i,_ :: ns=>by simp only [JU,List.length_cons,GZ n (i+1) ns]
theorem CP (jV:Nat) (r:Ren):(xK jV r).ns.length=r.ns.length:=by
 unfold xK;split
 ·rfl
 ·exact GZ _ _ _
theorem Um {α:Type} {k:St→T α} {E:En} {a:Act} {w:World} {x:α}: ∀{ts:List (Nat×Nat)} {s:St},(Y0 k ts s).leaf E.ρ=some x→qX B E s a w→∃s',qX B E s' a w∧(k s').leaf E.ρ=some x
 | [],s,h,t=> ⟨s,t,h⟩
 | (i,g) :: ts,s,h,t=>by
   simp only [Y0] at h;split at h
   ·obtain⟨pc',hp',h1⟩:=cO t.fit.pc h;exact Um h1 (t.pc hp')
   ·exact Um h t
theorem DR [Glob] {jV:Nat} {F:uH} {ys:List Int} {body:Code} {N:Nat} {Q:Exit→Act→World→Prop} {tabs:KG} (hj:atS P body N B Q F ys tabs) {p:List Nat} {l0:List (Nat×CS)} (hp:tabs p=some l0) {b:Code} {fr:List FrE} (hl:uU body p=some (.loop b,fr)) :
 ∀{l:List (Nat×CS)} {s:St} {lf:Lf} {E:En} {a:Act} {w:World},(∀x∈l,x∈l0)→(xI B.m jV s l).leaf E.ρ=some lf→YI F E.ρ ys lf→qX B E s a w→Glob.ok E.ρ E.ro w.heap→N≤a.tmps.size→a.defers= []→P8 P b (KE P Q fr) a w
 | [],s,lf,E,a,w,_,h,_,_,_,_,_=>by simp [xI,T.leaf] at h
 | (j,c) :: l,s,lf,E,a,w,hsub,h,hlf,t,hg,hN,hd=>by
   simp only [xI] at h;split at h
   ·exact DR hj hp hl (fun x hx=>hsub x (by simp [hx])) h hlf t hg hN hd
   ·split at h
    ·rename_i hf;have:=aH h;subst this;simp only [Bool.and_eq_true] at hf;obtain⟨hle,t'⟩:=t.fits hg hf.1 hf.2;obtain⟨b',fr',hl',hh⟩:=hj p l0 hp;rw [hl] at hl';simp only [Option.some.injEq,Prod.mk.injEq,Code.loop.injEq] at hl';obtain⟨rfl,rfl⟩:=hl';have hgl:(xK jV (c.lN B.m s)).ns.length=c.k:=by rw [CP,Aq]
     refine hh j c (hsub _ (by simp)) (E.ren (xK jV (c.lN B.m s))) a w t' (Glob.ren hg fun i hi=>Ren.pF hle hi) ⟨(xK jV (c.lN B.m s)).ns.map (SE.den E.ρ),fun i x hi=>?_,by simp [hgl],by rw [← hgl]; exact hle,hlf⟩ hN hd;rw [List.getElem?_map,Option.map_eq_some_iff] at hi;obtain⟨e,he,rfl⟩:=hi;show (xK jV (c.lN B.m s)).env E.ρ i=_;unfold Ren.env;rw [dB,he]
    ·exact DR hj hp hl (fun x hx=>hsub x (by simp [hx])) h hlf t hg hN hd
theorem Ed {α:Type} {k:St→T α} {E:En} {a:Act} {w:World} {x:α}: ∀{ts:List Nat} {s:St},(Df k ts s).leaf E.ρ=some x→qX B E s a w→∃s',qX B E s' a w∧(k s').leaf E.ρ=some x
 | [],s,h,t=> ⟨s,t,h⟩
 | i :: ts,s,h,t=>by
   simp only [Df] at h;split at h
   ·rename_i c hc;obtain⟨pc',hp',h1⟩:=cO t.fit.pc h;refine Ed h1 ⟨⟨t.fit.fresh,t.fit.res,t.fit.live,t.fit.inj,t.fit.BO,fun j v hj=>?_,hp'⟩,t.ro,t.JE,t.bel,t.own,t.inx⟩;simp only at hj;rw [Tr.get_put] at hj;split at hj
    ·rename_i he;subst he;simp only [Option.some.injEq] at hj;subst hj;obtain⟨u,h2,h3⟩:=t.fit.sr _ _ hc;refine⟨u,h2,?_⟩;simp only [VR] at h3 ⊢;rw [h3];rfl
    ·exact t.fit.sr j v hj
   ·exact Ed h t
theorem agV (g:Jp) (h:Hp):(jE g h).ns.length=g.ko∧(jE g h).bl=List.range g.dY.length∧(jE g h).sh= []:=by unfold jE;split;exact⟨sF _ _ _,rfl,rfl⟩
def qU (K:Nat):List dW→Bool
 | []=>true
 | o :: l=>Gu K o && qU K l
theorem zX {K:Nat}: ∀{l:List dW},qU K l=true→∀{i:Nat} {o:dW},l[i]?=some o→Gu K o=true
 | [],_,_,_,h=>by simp at h
 | o0 :: l,hs,i,o,h=>by
   simp only [qU,Bool.and_eq_true] at hs
   cases i with
   | zero=>simp at h; rw [← h]; exact hs.1
   | succ i=>exact zX hs.2 (by simpa using h)
theorem LU {n m jV:Nat} {s:St} {ρ:Nat→Int} {lf:Lf}: ∀{l:List CS} {k:Nat},(Yb n m jV s l k).leaf ρ=some lf→∃i c,l[i - k]?=some c∧(c.fits prv s (xK jV (c.lN m s))=true∧Oj m (xK jV (c.lN m s))=true)∧n=c.slots.length∧lf= .out (.lit (i:Int) :: (xK jV (c.lN m s)).ns)∧k≤i
 | [],k,h=>by simp [Yb,T.leaf] at h
 | c :: l,k,h=>by
   simp only [Yb] at h;split at h
   ·obtain⟨i,c',q1,q2,q3,q4,q5⟩:=LU h;refine⟨i,c',?_,q2,q3,q4,by omega⟩;rw [show i - k=(i - (k+1))+1 by omega,List.getElem?_cons_succ];exact q1
   ·rename_i hq;simp only [Bool.and_eq_true] at hq;split at h
    ·rename_i hf;have:=aH h;simp only [Bool.and_eq_true] at hf;exact⟨k,c,by simp,hf,Nat.eq_of_beq_eq_true hq.2,this.symm,Nat.le_refl _⟩
    ·obtain⟨i,c',q1,q2,q3,q4,q5⟩:=LU h;refine⟨i,c',?_,q2,q3,q4,by omega⟩;rw [show i - k=(i - (k+1))+1 by omega,List.getElem?_cons_succ];exact q1
theorem Wp {E E':En} {h h':Array Obj} (kp:Keeps E h E' h'): ∀{xs:List AV} {us:List Value} {i:Nat} {x:AV},bJ E h xs us→xs[i]?=some x→∃u,VR E h x u∧∀x',VR E' h' x' u→bJ E' h' (xs.set i x') us
 | [],us,i,x,_,hx=>by simp at hx
 | y :: ys,us,0,x,hv,hx=>by rw [aY] at hv;obtain⟨u,vs,rfl,a,b⟩:=hv;simp only [List.getElem?_cons_zero,Option.some.injEq] at hx;subst hx;refine⟨u,a,fun x' hx'=>?_⟩;rw [List.set_cons_zero,aY];exact⟨u,vs,rfl,hx',bJ.keep kp _ _ b⟩
 | y :: ys,us,i+1,x,hv,hx=>by rw [aY] at hv;obtain⟨u,vs,rfl,a,b⟩:=hv;rw [List.getElem?_cons_succ] at hx;obtain⟨u',h1,h2⟩:=Wp kp b hx;refine⟨u',h1,fun x' hx'=>?_⟩;rw [List.set_cons_succ,aY];exact⟨u,vs,rfl,VR.keep kp _ _ a,h2 x' hx'⟩
theorem aeN [Glob] {α:Type} {ρ:Nat→Int} {w:World} {us:List Value} {k:List AV→St→T α} {x:α}: ∀{fz:List (Nat×Nat×Nat)} {vs:List AV} {s:St} {E:En},E.ρ=ρ→bF E s.h w→bI ρ s.pc→bJ E w.heap vs us→(Z5 fz vs s k).leaf ρ=some x→
 ∃vs' h' pc' E',bI ρ pc'∧YL E w s.h E' h'∧bJ E' w.heap vs' us∧(k vs' { s with h:=h',pc:=pc' }).leaf ρ=some x
 | [],vs,s,E,hρ,r,hp,hv,h=> ⟨vs,s.h,s.pc,E,hp,YL.refl r,hv,h⟩
 | (i,f,t) :: l,vs,s,E,hρ,r,hp,hv,h=>by
   simp only [Z5] at h;split at h
   ·rename_i xs hi;split at h
    ·rename_i y hy;rw [dB] at hi hy;obtain⟨y',h1,pc1,E1,hp1,f1,q1,g1⟩:=aeM hρ r hp h;have kp:=f1.eG.keeps r;obtain⟨u,a,b⟩:=Wp kp hv hi;simp only [VR] at a;obtain⟨ws,rfl,a⟩:=a;obtain⟨u2,a2,b2⟩:=Wp kp a hy;split at g1
     ·rename_i e he;have hc:=qG (q1 _ a2) he
      have hv1:bJ E1 w.heap (vs.set i (.agg (xs.set f (.dat e t)))) us:=by refine b _ ?_;simp only [VR];exact⟨ws,rfl,b2 _ (by simp only [VR]; exact hc)⟩
      obtain⟨vs2,h2,pc2,E2,hp2,f2,q2,g2⟩:=aeN (s:={ s with h:=h1,pc:=pc1 }) (f1.ρ.trans hρ) f1.rel hp1 hv1 g1;exact⟨vs2,h2,pc2,E2,hp2,f1.trans f2,q2,g2⟩
     ·simp [T.leaf] at g1
    ·simp [T.leaf] at h
   ·simp [T.leaf] at h
theorem axS [Glob] {g:Jp} {chk:Nat→List Oper→Bool} (hg:abL P g chk) {fn:Func} (hres:g.res=fn.results.toList) (hm:g.dY.length=B.m) (hlo:qU g.ko g.dY=true) (hko:g.ko≤900) {e:Ex} {s:St} {lf:Lf} {E:En} {a:Act} {w:World} {F:uH} {ys:List Int} (h:(apM g e s).leaf E.ρ=some lf) (hlf:YI F E.ρ ys lf)
 (t:qX B E s a w) (hgl:Glob.ok E.ρ E.ro w.heap) (hd:a.defers= []):bodyPost P fn (QX B g.oP g.dY g.ko g.wK ys) (EP e) a w:=by
 have fit:=t.fit.fit hgl
 have key: ∀{x:T Lf},x=(match nR g.tt s g.res with
  | none=>T.fail
  | some vs=>match g.wK with
    | []=>match cellsOf g.oP vs with
      | none=> .fail
      | some cells=>GY cells s fun cells s=>match IU (jE g s.h) g.dY.length s.h g.dY 0 with
        | true=>outs (uP g.oP) cells s fun es _=> .ret (.out ((jE g s.h).ns++es))
        | false=> .fail
    | c :: l=>Z5 g.fz vs s fun vs s=>Yb vs.length g.dY.length g.jV ⟨bD vs 0 .nil,s.h,s.pc⟩ (c :: l) 0)→x.leaf E.ρ=some lf→∃v,(results fn a.tmps).run P w= .ok v w∧QX B g.oP g.dY g.ko g.wK ys (.returned v) w:=by
  intro x hx hl;subst hx;split at hl
  ·simp [T.leaf] at hl
  ·rename_i vs hr;rw [hres] at hr;obtain⟨us,g1,g2⟩:=AA hg.tt fit hr
   have hrun:(results fn a.tmps).run P w= .ok (agK us) w:=by
    have hm:(fn.results.mapM (BQ a)).run P w= .ok us.toArray w:=by rw [Array.mapM_eq_mapM_toList];rw [map_eq_pure_bind];simp only [Sem.run_bind,g1];rfl
    have hr2:results fn a.tmps=(do let vs ← fn.results.mapM (BQ a); pure (if h:vs.size=1 then vs[0] else .tuple vs)):=rfl;rw [hr2];simp only [Sem.run_bind,hm];rfl
   split at hl
   ·rename_i Kw;split at hl
    ·simp [T.leaf] at hl
    ·rename_i cells hc;rw [Kw];show ∃v,_∧QE B g.oP g.dY g.ko ys (.returned v) w;obtain⟨fl,sh,hv2⟩:=sJ g2 hc;obtain⟨cells',h1,pcF,E1,hpF,f,hfr,hl⟩:=yU rfl fit.rel fit.pc hl;have hv3:=hfr _ hv2;have s1:=f.eG;have r1:=f.rel;split at hl
     ·rename_i hob;have hρ:=f.ρ;rw [← hρ] at hl hlf hpF;obtain⟨es,pc1,hp1,q1,q2⟩:=Lh (s:={ s with h:=h1,pc:=pcF }) hpF hv3 hl;have:=aH q2;subst this;simp only [YI] at hlf;obtain⟨n1,n2,n3⟩:=agV g h1
      have hdrop:ys.drop g.ko=es.map (SE.den E1.ρ):=by rw [← hlf,List.map_append,List.drop_append_of_le_length (by simp [n1])];rw [List.drop_of_length_le (by simp [n1]),List.nil_append]
      have aF8: ∀i,i < g.ko→low ys i=(jE g h1).env E1.ρ i:=by
       intro i hi;have hlt:i < (jE g h1).ns.length:=by omega
       unfold low Ren.env;rw [dB,List.getElem?_eq_getElem hlt,← hlf,List.getD_eq_getElem?_getD,List.map_append,List.getElem?_append_left (by simpa using hlt),List.getElem?_map,List.getElem?_eq_getElem hlt];rfl
      have awH: ∀i,i < B.m→E1.dm i∧E1.θ i=B.θ i∧E1.κ i=B.κ i:=by intro i hi;obtain⟨h1,h2,h3⟩:=t.inx i hi;exact⟨s1.dm i h1,by rw [s1.θ i h1]; exact h2,by rw [s1.κ i h1]; exact h3⟩
      have awI: ∀i,i < g.dY.length→(jE g h1).id i=i:=by intro i hi;unfold Ren.id;rw [n2,dB,List.getElem?_range hi]
      have XG: ∀i,(jE g h1).Bv i=0:=by intro i;unfold Ren.Bv;rw [n3];rfl
      have hlive: ∀i,i < B.m→¬E1.ro (B.θ i).1:=by
       intro i hi;have hlt:i < g.dY.length:=by omega
       obtain⟨o',q3,_,_⟩:=lM hob (List.getElem?_eq_getElem hlt);rw [Nat.zero_add,awI i hlt] at q3;have:=(r1.live i o' q3).2.2;rw [(awH i hi).2.1] at this;exact this
      refine⟨agK us,hrun,_,rfl,t.bel,E1.ro,fun b hb=>s1.ro b (t.ro b hb),fun b hb=>?_,r1.BO,hlive,fun i o hi=>?_,us,fl,sh,by rw [hdrop]; exact q1,rfl⟩
      ·have key:B.ro b∨B.w0.heap.size≤b∨B.fp b:=by
        rcases s1.JE b hb with h | ⟨id,o,h1,h2⟩ | h
        ·exact t.JE b h
        ·rw [← h2]; exact .inr (t.own id o h1)
        ·exact .inr (.inl (Nat.le_trans t.bel.size h))
       rcases key with h | h | ⟨i,hi,he⟩
       ·exact .inl h
       ·exact .inr h
       ·exact absurd hb (by rw [← he]; exact hlive i hi)
      ·have hil:=(List.getElem?_eq_some_iff.1 hi).1;obtain⟨o',q3,q4,q5⟩:=lM hob hi;rw [Nat.zero_add] at q3 q5;have ho:=(r1.live _ o' q3).2.1;have ho2:=OR.ren (E:=E1) (r:=jE g h1) (by omega) (id:=i) (by rw [n2,List.length_range]; exact q4) q5 ho
       have kp:Keeps (E1.ren (jE g h1)) w.heap { ρ:=(jE g h1).env E1.ρ,θ:=B.θ,κ:=B.κ,dm:=fun i=>i < B.m,ro:=E1.ro } w.heap:=by
        have hd: ∀id,(E1.ren (jE g h1)).dm id→id < g.dY.length:=by intro id hh;have:=hh.1;rw [n2,List.length_range] at this;exact this
        refine⟨rfl,fun id hh=>by have:=hd id hh; show id < B.m; omega,fun id hh=>?_,fun id hh=>?_,fun _ h=>h,fun _ _=>rfl⟩
        ·have:=hd id hh;show B.θ id=((E1.θ ((jE g h1).id id)).1,(E1.θ ((jE g h1).id id)).2+(jE g h1).Bv id);rw [awI id this,XG,Nat.add_zero,(awH id (by omega)).2.1]
        ·have:=hd id hh;show B.κ id=E1.κ ((jE g h1).id id) - (jE g h1).Bv id;rw [awI id this,XG,Nat.sub_zero,(awH id (by omega)).2.2]
       have aEw:(E1.ren (jE g h1)).dm i:=by refine⟨by rw [n2,List.length_range]; exact hil,?_⟩;rw [awI i hil];exact (awH i (by omega)).1
       have hθi:(E1.ren (jE g h1)).θ i=B.θ i:=(kp.θ i aEw).symm;have ho3:=OR.keep kp aEw rfl ho2;exact OR.low (K:=g.ko) (E:={ ρ:=(jE g h1).env E1.ρ,θ:=B.θ,κ:=B.κ,dm:=fun i=>i < B.m,ro:=E1.ro }) (E':=B.out ys E1.ro) aF8 rfl rfl rfl rfl (zX hlo hi) ho3
     ·simp [T.leaf] at hl
   ·rename_i c0 l0 Kw
    have hq:QR B (c0 :: l0) ys (.returned (agK us)) w:=by
     obtain⟨vs1,h1,pc1,E1,hp1,f1,g2,hl⟩:=aeN rfl fit.rel fit.pc g2 hl;have hgl:=f1.rel.glob
     have t0:qX B E1 ⟨bD vs1 0 .nil,h1,pc1⟩ { tmps:=us.toArray,defers:=[] } w:=by have sr1:=GK g2 0;exact t.step (s':=⟨bD vs1 0 .nil,h1,pc1⟩) f1.eG ⟨f1.rel,by simpa using sr1,by rw [f1.ρ]; exact hp1⟩
     rw [← f1.ρ] at hl hlf;obtain⟨i,c,q1,⟨q2,q2'⟩,q3,q4,_⟩:=LU hl;rw [hm] at q2 q2' q4;obtain⟨hle,t1⟩:=t0.fits hgl q2 q2';rw [q4] at hlf;simp only [YI,List.map_cons] at hlf;subst hlf
     have hbl:(xK g.jV (c.lN B.m ⟨bD vs1 0 .nil,h1,pc1⟩)).bl.length=c.objs.length:=by have:=q2;unfold CS.fits at this;simp only [Bool.and_eq_true] at this;exact Nat.eq_of_beq_eq_true this.1.1.1.1.2
     have hin: ∀i,i < B.m→i < c.objs.length:=fun i hi=>by rw [← hbl]; exact (Oi q2' i hi).1
     have hlive: ∀i,i < B.m→∃o,c.st.h.get i=some o:=by intro i hi;have hi2:=hin i hi;refine⟨c.objs[i],?_⟩;show (vV c.objs 0 .nil).get i=_;rw [mY,if_pos (by omega)];simp
     have hfp: ∀b,B.fp b→¬(E1.ren (xK g.jV (c.lN B.m ⟨bD vs1 0 .nil,h1,pc1⟩))).ro b:=by rintro b ⟨i,hi,rfl⟩ hb;obtain⟨o,ho⟩:=hlive i hi;have:=(t1.fit.live i o ho).2.2;rw [(t1.inx i hi).2.1] at this;exact this hb
     refine⟨us,i,c,E1.ren (xK g.jV (c.lN B.m ⟨bD vs1 0 .nil,h1,pc1⟩)),rfl,t.bel,by simpa using q1,by simp [SE.den],by simp [CP,Aq],fun a x ha=>?_,by rw [← q3,g2.length],t1.fit,t1.ro,fun b hb=>?_,fun i hi=> ⟨hin i hi,t1.inx i hi⟩,fun id o ho hid=>?_⟩
     ·simp only [List.getElem?_cons_succ,List.getElem?_map,Option.map_eq_some_iff] at ha;obtain⟨e,he,rfl⟩:=ha;show (xK g.jV (c.lN B.m ⟨bD vs1 0 .nil,h1,pc1⟩)).env E1.ρ a=_;unfold Ren.env;rw [dB,he]
     ·rcases t1.JE b hb with h | h | h
      ·exact .inl h
      ·exact .inr h
      ·exact absurd hb (hfp b h)
     ·rcases t1.own id o ho with h | ⟨i,hi,he⟩
      ·exact h
      ·obtain⟨o',ho'⟩:=hlive i hi;rw [← (t1.inx i hi).2.1] at he;have:=t1.fit.inj i id o' o ho' ho he;omega
    exact⟨agK us,hrun,by rw [Kw]; exact hq⟩
 unfold apM at h
 cases e with
 | exit id=>simp [T.leaf] at h
 | normal=>exact⟨hd,key rfl h⟩
 | ret=>exact⟨hd,key rfl h⟩
theorem QG {P:Program} {Q:Exit→Act→World→Prop} {e:Ex} {a:Act} {w:World} (h:Q (EP e) a w):Exit.noGoto Q (EP e) a w:=by cases e <;> exact h
theorem Vl [Glob] {g:Jp} {chk:Nat→List Oper→Bool} (hg:abL P g chk) {body:Code} {N:Nat} (hd:mJ chk N body=true) {fn:Func} (hres:g.res=fn.results.toList) (hm:g.dY.length=B.m) (hlo:qU g.ko g.dY=true) (hko:g.ko≤900) {F:uH} {ys:List Int} {tabs:KG}
 (hj:atS P body N B (bodyPost P fn (QX B g.oP g.dY g.ko g.wK ys)) F ys tabs): ∀n:Nat,
 (∀p c fr s lf E a w,uU body p=some (c,fr)→(Ep g tabs n p c fr s).leaf E.ρ=some lf→YI F E.ρ ys lf→qX B E s a w→Glob.ok E.ρ E.ro w.heap→N≤a.tmps.size→a.defers= []→c.wp P (KE P (bodyPost P fn (QX B g.oP g.dY g.ko g.wK ys)) fr) a w)∧
 (∀fr e s lf E a w,P9 body fr→(Ar g tabs n fr e s).leaf E.ρ=some lf→YI F E.ρ ys lf→qX B E s a w→Glob.ok E.ρ E.ro w.heap→N≤a.tmps.size→a.defers= []→KE P (bodyPost P fn (QX B g.oP g.dY g.ko g.wK ys)) fr (EP e) a w)
 | 0=> ⟨fun _ _ _ _ _ _ _ _ _ h=>by simp [Ep,T.leaf] at h,fun _ _ _ _ _ _ _ _ h=>by simp [Ar,T.leaf] at h⟩
 | n+1=>by
   obtain⟨ih1,ih2⟩:=Vl hg hd hres hm hlo hko hj n
   have leaf: ∀p c fr s lf E a w,uU body p=some (c,fr)→((g.ev c s).bind fun (e,s')=>Ar g tabs n fr e s').leaf E.ρ=some lf→YI F E.ρ ys lf→qX B E s a w→Glob.ok E.ρ E.ro w.heap→N≤a.tmps.size→a.defers= []→c.wp P (KE P (bodyPost P fn (QX B g.oP g.dY g.ko g.wK ys)) fr) a w:=by intro p c fr s lf E a w hl h hlf t hgl hN hdf;obtain⟨⟨e,s'⟩,h1,h2⟩:=T.fU h;refine wp_mono (nU hg.tt hg.call hg.draw c (yX hd p hl) E s s' e a w hN (t.fit.fit hgl) h1) fun x a' w' ⟨hx,ht⟩=>?_;subst hx;obtain⟨E',t',hρ,hg'⟩:=t.then ht;exact ih2 fr e s' lf E' a' w' (DL p hl) (by rw [hρ]; exact h2) (by rw [hρ]; exact hlf) t' hg' (by rw [ht.size]; exact hN) (by rw [ht.defers,hdf])
   constructor
   ·intro p c fr s lf E a w hl h hlf t hgl hN hdf;simp only [Ep] at h;split at h
    ·rename_i l hcs;obtain⟨b,fr',hl',_⟩:=hj p l hcs;rw [hl] at hl';simp only [Option.some.injEq,Prod.mk.injEq] at hl';obtain⟨rfl,rfl⟩:=hl';obtain⟨s',t',h'⟩:=Ed h t;exact ZK (DR hj hcs hl (fun _ hx=>hx) (by rw [← hm]; exact h') hlf t' hgl hN hdf)
    ·cases c with
     | seq x y=> simp only at h;refine wp_seq ?_;exact ih1 (0 :: p) x (.seq (1 :: p) y :: fr) s lf E a w (by simp only [uU,hl]) h hlf t hgl hN hdf
     | block id b=> simp only at h;refine wp_block ?_;exact ih1 (0 :: p) b (.block id :: fr) s lf E a w (by simp only [uU,hl]) h hlf t hgl hN hdf
     | scope b=> simp only at h;refine wp_scope_straight ?_;exact ih1 (0 :: p) b (.scope :: fr) s lf E a w (by simp only [uU,hl]) h hlf t hgl hN hdf
     | cond v x y=>
       simp only at h;split at h
       ·rename_i c hv;obtain⟨pc',hp',h1⟩:=cO t.fit.pc h;have hvr:=jK t.fit.sr hv;simp only [VR] at hvr;refine wp_cond hvr ?_
        cases hcd:c.den E.ρ with
        | true=> rw [hcd] at h1;simp only at h1;exact ih1 (0 :: p) x fr _ lf E a w (by simp only [uU,hl]) h1 hlf (t.pc hp') hgl hN hdf
        | false=> rw [hcd] at h1;simp only at h1;exact ih1 (1 :: p) y fr _ lf E a w (by simp only [uU,hl]) h1 hlf (t.pc hp') hgl hN hdf
       ·simp [T.leaf] at h
     | _=>simp only at h; exact leaf p _ fr s lf E a w hl h hlf t hgl hN hdf
   ·intro fr e s lf E a w hf h hlf t hgl hN hdf
    cases fr with
    | nil=> simp only [Ar] at h;exact axS hg hres hm hlo hko h hlf t hgl hdf
    | cons f fr=>
      cases f with
      | seq p c=>
        simp only [Ar] at h;obtain⟨hl,hf'⟩:=hf
        cases e with
        | normal=>exact ih1 p c fr s lf E a w hl h hlf t hgl hN hdf
        | exit id=>exact ih2 fr (.exit id) s lf E a w hf' h hlf t hgl hN hdf
        | ret=>exact ih2 fr .ret s lf E a w hf' h hlf t hgl hN hdf
      | block id=>
        simp only [Ar] at h;have hf':P9 body fr:=hf
        cases e with
        | normal=>exact ih2 fr .normal s lf E a w hf' h hlf t hgl hN hdf
        | ret=>exact ih2 fr .ret s lf E a w hf' h hlf t hgl hN hdf
        | exit j=>
          simp only at h;show (if j=id then _ else _);split at h
          ·rename_i hj';rw [if_pos (Nat.eq_of_beq_eq_true hj')];exact ih2 fr .normal s lf E a w hf' h hlf t hgl hN hdf
          ·rename_i hj';rw [if_neg (Nat.ne_of_beq_eq_false hj')];exact ih2 fr (.exit j) s lf E a w hf' h hlf t hgl hN hdf
      | loop p b=>
        simp only [Ar] at h;obtain⟨hl,hf'⟩:=hf
        cases e with
        | normal=>
          simp only at h;split at h
          ·rename_i l hcs;obtain⟨s',t',h'⟩:=Ed h t;exact DR hj hcs hl (fun _ hx=>hx) (by rw [← hm]; exact h') hlf t' hgl hN hdf
          ·simp [T.leaf] at h
        | exit id=>exact ih2 fr (.exit id) s lf E a w hf' h hlf t hgl hN hdf
        | ret=>exact ih2 fr .ret s lf E a w hf' h hlf t hgl hN hdf
      | scope=> simp only [Ar] at h;exact QG (P:=P) (ih2 fr e s lf E a w hf h hlf t hgl hN hdf)
end
end Go.As
end
section
namespace Go.As
open Go.RowKit
def Ren.ents (r:Ren):List (AV×AV×Nat)→List (AV×AV×Nat)
 | []=>[]
 | (k,v,n) :: l=>(r.av k,r.av v,n) :: r.ents l
def Ren.ovs (r:Ren):List (SE×List AV)→List (SE×List AV)
 | []=>[]
 | (i,cs) :: l=>(r.se i,r.KD cs) :: r.ovs l
def Ren.ob (r:Ren):dW→dW
 | .cells cs e=> .cells (r.KD cs) e
 | .map es n=> .map (r.ents es) n
 | .nY s p=> .nY s p
 | .vec e t ty ov=> .vec (r.se e) t ty (r.ovs ov)
 | .iY e t=> .iY (r.se e) t
noncomputable def mW (r:Ren):List dW→Nat→Hp→Hp
 | [],_,h=>h
 | o :: os,i,h=>mW r os (i+1) (h.put (r.id i) (r.ob o))
def Sl (r:Ren):Bool:=r.sh.all fun i=>Nat.beq i 0
def acV (r:SE) (n:Nat):List SE:=(List.range n).map (uN r)
noncomputable def aoH (j:Nat) (c:CS) (oP:List RK) (dY:List dW) (ko:Nat):List AV→St→T (AV×St):=fun args s=>
 match Nat.beq args.length c.slots.length && c.fits prv ⟨bD args 0 .nil,s.h,s.pc⟩ (c.guess ⟨bD args 0 .nil,s.h,s.pc⟩) && Sl (c.guess ⟨bD args 0 .nil,s.h,s.pc⟩) with
 | true=>qI s (.eq (.ap (2*j) (iK (c.guess ⟨bD args 0 .nil,s.h,s.pc⟩).ns)) (.lit 1)) fun s' b=>match b with
   | true=> .ret (match vW oP (uN (.ap (2*j+1) (iK (c.guess ⟨bD args 0 .nil,s.h,s.pc⟩).ns))) ko with | [v]=>v | vs=> .tuple vs,
    { s' with h:=mW ⟨acV (.ap (2*j+1) (iK (c.guess ⟨bD args 0 .nil,s.h,s.pc⟩).ns)) ko,(c.guess ⟨bD args 0 .nil,s.h,s.pc⟩).bl,[]⟩ dY 0 s'.h })
   | false=> .fail
 | false=> .fail
noncomputable def aEI (s:St) (t c:Nat):SE:=match s.slots.get t with
 | some v=>match v with
   | .int _ e=>e
   | .agg cs=>match gQ cs c with
     | some v=>match v with
       | .int _ e=>e
       | _=> .lit 0
     | none=> .lit 0
   | _=> .lit 0
 | none=> .lit 0
noncomputable def aoU (s:St):List (Nat×Nat)→List SE→List SE
 | [],ns=>ns
 | _ :: _,[]=>[]
 | (t,c) :: l,_ :: ns=>aEI s t c :: aoU s l ns
noncomputable def ghR (s:St) (gh:List (Nat×Nat)) (r:Ren):Ren:={ r with ns:=aoU s gh r.ns }
noncomputable def aEH (s:St) (gh:List (Nat×Nat)):Option SE:=match gh with
 | (t,c) :: _=>some (aEI s t c)
 | []=>none
noncomputable def xQ (q:SE) (jV:Nat) (ns:List SE) (c:CS) (bl:List Nat) (s:St):Ren:=⟨(List.range c.k).map fun a=>match Nat.blt a jV with | true=>(match gQ ns a with | some e=>e | none=> .lit 0) | false=>uN q (a+1),(List.range c.objs.length).map fun i=>match gQ bl i with | some j=>j | none=>s.h.next+(i - bl.length),[]⟩
noncomputable def aoT (g n:SE) (s:St) (k:St→T (AV×St)):T (AV×St):=qI s (kT g (.lit 0)) fun s b=>match b with
 | true=>k s
 | false=>qI s (kT g n) fun s b=>match b with
   | true=> .fail
   | false=>k s
noncomputable def ghT (q:SE) (jV:Nat) (ns:List SE) (g:Option SE) (c:CS) (bl:List Nat) (s:St) (k:St→T (AV×St)):T (AV×St):=match g with
 | none=>k s
 | some g=>match c.m with
   | .aP _=>k s
   | _=>match c.slots with
     | []=>k s
     | (_,v) :: _=>match v with
       | .vM _ n _=>aoT g ((xQ q jV ns c bl s).se n) s k
       | _=>k s
noncomputable def atH (q:SE) (jV:Nat) (ns:List SE) (g:Option SE) (bl:List Nat):List CS→Nat→St→T (AV×St)
 | [],_,_=> .fail
 | c :: l,i,s=>qI s (Ef (uN q 0) (.lit (Int.ofNat i))) fun s b=>match b with
   | true=>ghT q jV ns g c bl s fun s=> .ret (resV ((xQ q jV ns c bl s).KD (c.slots.map fun p=>p.2)),
    { s with h:=⟨(mW (xQ q jV ns c bl s) c.objs 0 s.h).m,s.h.next+(c.objs.length - bl.length),s.h.res⟩ })
   | false=>atH q jV ns g bl l (i+1) s
noncomputable def aoF (j jV:Nat) (c:CS) (gh:List (Nat×Nat)) (wK:List CS):List AV→St→T (AV×St):=fun args s=>
 match Nat.beq args.length c.slots.length && c.fits prv ⟨bD args 0 .nil,s.h,s.pc⟩ (ghR s gh (c.guess ⟨bD args 0 .nil,s.h,s.pc⟩)) && Sl (ghR s gh (c.guess ⟨bD args 0 .nil,s.h,s.pc⟩)) with
 | true=>qI s (.eq (.ap (2*j) (iK (ghR s gh (c.guess ⟨bD args 0 .nil,s.h,s.pc⟩)).ns)) (.lit 1)) fun s' b=>match b with
   | true=>atH (.ap (2*j+1) (iK (ghR s gh (c.guess ⟨bD args 0 .nil,s.h,s.pc⟩)).ns)) jV (ghR s gh (c.guess ⟨bD args 0 .nil,s.h,s.pc⟩)).ns (aEH s gh) (ghR s gh (c.guess ⟨bD args 0 .nil,s.h,s.pc⟩)).bl wK 0 s'
   | false=> .fail
 | false=> .fail
section
variable {Eo E2:En} {r:Ren} {h:Array Obj} (hl:r.ns.length≤900) (hsh:r.sh= []) (hρ:Eo.ρ=r.env E2.ρ) (hid: ∀i,Eo.dm i→E2.dm (r.id i)∧E2.θ (r.id i)=Eo.θ i∧E2.κ (r.id i)=Eo.κ i) (hro:Eo.ro=E2.ro)
include hl hsh hρ hid hro
theorem alT (i:Nat):r.Bv i=0:=by unfold Ren.Bv; rw [hsh]; rfl
theorem fP.back {id off len:Nat} {a:Addr} {cap:Nat} {c:YO} (hd:Eo.dm id) (hc:fP Eo id off len a cap c):fP E2 (r.id id) off len a cap c:=by
 obtain⟨_,h2,h3⟩:=hid id hd;cases c <;> simp only [fP] at* <;> rw [h2]
 ·exact hc
 ·rw [h3]; exact hc
mutual
theorem VR.back: ∀(x:AV) (u:Value),VR Eo h x u→VR E2 h (r.av x) u
 | .bool b,u,hv=>by simp only [VR,Ren.av] at *; rw [Ren.IB hl,← hρ]; exact hv
 | .int _ e,u,hv=>by simp only [VR,Ren.av] at *; rw [Ren.dZ hl,← hρ]; exact hv
 | .str s,u,hv=>by simp only [VR,Ren.av] at *; exact hv
 | .ptr id off,u,hv=>by simp only [VR,Ren.av,alT hl hsh hρ hid hro,Nat.zero_add] at *;obtain⟨h1,h2,_⟩:=hid id hv.2;rw [h2]; exact⟨hv.1,h1⟩
 | .jR,u,hv=>by simp only [VR,Ren.av] at *; exact hv
 | .rO cs,u,hv=>by simp only [VR,Ren.av] at *;obtain⟨b,o,us,h1,h2,h3,h4,h5⟩:=hv;exact⟨b,o,us,h1,by rw [← hro]; exact h2,bJ.back cs us h3,h4,h5⟩
 | .slice id off len c,u,hv=>by simp only [VR,Ren.av,alT hl hsh hρ hid hro,Nat.zero_add] at *;obtain⟨h1,a,cap,h2,h3,h4⟩:=hv;exact⟨(hid id h1).1,a,cap,h2,h3,fP.back hl hsh hρ hid hro h1 h4⟩
 | .aA,u,hv=>by simp only [VR,Ren.av] at *; exact hv
 | .ro cs n full,u,hv=>by simp only [VR,Ren.av] at *;obtain⟨b,o,cap,us,h1,h2,h3,h4,h5,h6,h7⟩:=hv;exact⟨b,o,cap,us,h1,h2,h3,by rw [← hro]; exact h4,bJ.back cs us h5,h6,h7⟩
 | .map id,u,hv=>by simp only [VR,Ren.av] at *;obtain⟨h1,h2,_⟩:=hid id hv.2;rw [h2]; exact⟨hv.1,h1⟩
 | .pO,u,hv=>by simp only [VR,Ren.av] at *; exact hv
 | .func fn fs cs,u,hv=>by simp only [VR,Ren.av] at *;obtain⟨us,ws,h1,h2,h3⟩:=hv;exact⟨us,ws,h1,bJ.back fs us h2,bJ.back cs ws h3⟩
 | .zZ,u,hv=>by simp only [VR,Ren.av] at *; exact hv
 | .iface t x,u,hv=>by simp only [VR,Ren.av] at *;obtain⟨y,h1,h2⟩:=hv;exact⟨y,h1,VR.back x y h2⟩
 | .E5,u,hv=>by simp only [VR,Ren.av] at *; exact hv
 | .agg cs,u,hv=>by simp only [VR,Ren.av] at *;obtain⟨us,h1,h2⟩:=hv;exact⟨us,h1,bJ.back cs us h2⟩
 | .tuple cs,u,hv=>by simp only [VR,Ren.av] at *;obtain⟨us,h1,h2⟩:=hv;exact⟨us,h1,bJ.back cs us h2⟩
 | .opq _,u,hv=>by simp only [VR] at hv
 | .inp k ks,u,hv=>by
   simp only [VR,Ren.av] at *;rw [hρ,Ren.pF hl (by omega),hro] at hv;rcases hv with hv | ⟨b,o,n,cap,h1,h2,h3,h4,h5⟩
   ·exact .inl hv
   ·refine .inr ⟨b,o,n,cap,h1,h2,h3,h4,fun i j kd hi hj=>?_⟩;have:=h5 i j kd hi hj
    first
     | exact this
     | (rw [Ren.pF hl (by omega)] at this; exact this)
     | (rw [hρ,Ren.pF hl (by omega)] at this; exact this)
 | .emp,u,hv=>by simp only [VR,Ren.av] at *; exact hv
 | .dat e t,u,hv=>by simp only [VR,Ren.av] at *; rw [Ren.dZ hl,← hρ,← hro]; exact hv
 | .mD e,u,hv=>by simp only [VR,Ren.av] at *; rw [Ren.dZ hl,← hρ,← hro]; exact hv
 | .vM id n t,u,hv=>by simp only [Ren.av,alT hl hsh hρ hid hro];simp only [VR] at *;obtain⟨h1,k,a,cap,h2,h3,h4,h5⟩:=hv;exact⟨(hid id h1).1,k,a,cap,by rw [Ren.dZ hl,← hρ]; exact h2,h3,h4,fP.back hl hsh hρ hid hro h1 h5⟩
 | .qL id es i off,u,hv=>by simp only [Ren.av,alT hl hsh hρ hid hro];simp only [VR] at *;obtain⟨h1,k,h2,h3⟩:=hv;obtain⟨g1,g2,_⟩:=hid id h1;exact⟨g1,k,by rw [Ren.dZ hl,← hρ]; exact h2,by rw [g2]; exact h3⟩
 | .any,u,_=>by simp only [VR,Ren.av]
 | .Ik z t,u,hv=>by simp only [VR,Ren.av] at *; rw [Ren.dZ hl,← hρ,← hro]; exact hv
 | .Bo id lo n t,u,hv=>by simp only [Ren.av,alT hl hsh hρ hid hro];simp only [VR] at *;obtain⟨h1,l,k,a,cap,h2,h3,h4,h5,h6⟩:=hv;exact⟨(hid id h1).1,l,k,a,cap,by rw [Ren.dZ hl,← hρ]; exact h2,by rw [Ren.dZ hl,← hρ]; exact h3,h4,h5,fP.back hl hsh hρ hid hro h1 h6⟩
theorem bJ.back: ∀(xs:List AV) (us:List Value),bJ Eo h xs us→bJ E2 h (r.KD xs) us
 | [],us,hv=>by simp only [bJ,Ren.KD] at *; exact hv
 | x :: xs,us,hv=>by simp only [bJ,Ren.KD] at *;obtain⟨u,vs,h1,h2,h3⟩:=hv;exact⟨u,vs,h1,VR.back x u h2,bJ.back xs vs h3⟩
end
theorem fB.back: ∀{es:List (AV×AV×Nat)} {ents:List MapEntry},fB Eo h es ents→fB E2 h (r.ents es) ents
 | [],_,hv=>by simp only [fB,Ren.ents] at *; exact hv
 | (k,v,b) :: es,ents,hv=>by simp only [fB,Ren.ents] at *;obtain⟨e,rr,h1,h2,h3,h4,h5⟩:=hv;exact⟨e,rr,h1,VR.back hl hsh hρ hid hro k _ h2,VR.back hl hsh hρ hid hro v _ h3,h4,fB.back h5⟩
theorem NP {i:Nat}: ∀{ov:List (SE×List AV)},dQ E2.ρ i (r.ovs ov)=(dQ Eo.ρ i ov).map r.KD
 | []=>rfl
 | (j,cs) :: l=>by simp only [dQ,Ren.ovs];rw [Ren.dZ hl,← hρ,NP];split <;> rfl
theorem EI {row:Row} {ov:List (SE×List AV)}: ∀(ds:List D) (i:Nat) {us:List Value},bJ Eo h (aK Eo.ρ row ov ds i) us→bJ E2 h (aK E2.ρ row (r.ovs ov) ds i) us
 | [],_,us,hv=>by simp only [aK,bJ] at *; exact hv
 | d :: ds,i,us,hv=>by
   simp only [aK] at *;obtain⟨a,b,rfl,h1,h2⟩:=hv.split;refine bJ.append ?_ (EI ds (i+1) h2);rw [NP hl hsh hρ hid hro]
   cases ho:dQ Eo.ρ i ov with
   | none=> rw [ho] at h1;simp only [Option.map_none];rw [gZ] at h1 ⊢;rw [← hro];exact h1
   | some cs=> rw [ho] at h1;exact bJ.back hl hsh hρ hid hro cs a h1
theorem RY {row:Row}: ∀{ov:List (SE×List AV)},Gn row ov→Gn row (r.ovs ov)
 | [],h=>h
 | (i,cs) :: l,h=>by
   intro p hp;simp only [Ren.ovs] at hp;rcases List.mem_cons.1 hp with rfl | hp
   ·simp only [wH]; exact h (i,cs) (by simp)
   ·exact RY (fun q hq=>h q (by simp [hq])) p hp
theorem OR.back {id:Nat} {o:dW} (hd:Eo.dm id) (ho:OR Eo h id o):OR E2 h (r.id id) (r.ob o):=by
 obtain⟨_,h2,h3⟩:=hid id hd
 cases o with
 | cells cs e=> simp only [OR,Ren.ob] at *;obtain⟨arr,lo,hi,us,q1,q2,q3,q4,q5,q6,q7⟩:=ho;rw [h2,h3];exact⟨arr,lo,hi,us,q1,bJ.back hl hsh hρ hid hro cs us q2,q3,by rw [wH]; exact q4,q5,q6,q7⟩
 | map es c=> simp only [OR,Ren.ob] at *;obtain⟨ents,c',q1,q2⟩:=ho;rw [h2];exact⟨ents,c',q1,fB.back hl hsh hρ hid hro q2⟩
 | nY s p=>simp only [OR,Ren.ob] at *; rw [h2]; exact ho
 | iY e t=>
   simp only [OR,Ren.ob] at *;obtain⟨ents,c',q1,q2⟩:=ho;have he:(r.se e).den E2.ρ=e.den Eo.ρ:=by rw [Ren.dZ hl,← hρ]
   rw [h2,he,← hro];exact⟨ents,c',q1,q2⟩
 | vec e t ty ov=>
   simp only [OR,Ren.ob] at *;obtain⟨⟨q0,qw⟩,arr,lo,hi,us,q1,q2,q3,q4,q5,q6,q7⟩:=ho;have he:(r.se e).den E2.ρ=e.den Eo.ρ:=by rw [Ren.dZ hl,← hρ]
   have q0':=RY hl hsh hρ hid hro q0;rw [h2,h3,he];refine⟨⟨q0',qw⟩,arr,lo,hi,us,q1,EI hl hsh hρ hid hro _ _ q2,q3,?_,q5,q6,q7⟩;rw [bU q0'];rw [bU q0] at q4;exact q4
end
theorem EW {r:Ren}: ∀{os:List dW} {i:Nat} {h:Hp},(∀a b,i≤a→a < i+os.length→i≤b→b < i+os.length→r.id a=r.id b→a=b)→
 (∀k o,os[k]?=some o→(mW r os i h).get (r.id (i+k))=some (r.ob o))∧(∀id,(∀k,k < os.length→r.id (i+k)≠id)→(mW r os i h).get id=h.get id)∧(mW r os i h).next=h.next∧(mW r os i h).res=h.res
 | [],i,h,_=> ⟨fun k o hk=>by simp at hk,fun _ _=>rfl,rfl,rfl⟩
 | o :: os,i,h,hinj=>by
   obtain⟨h1,h2,h3,h4⟩:=EW (r:=r) (os:=os) (i:=i+1) (h:=h.put (r.id i) (r.ob o)) fun a b h1 h2 h3 h4=>hinj a b (by omega) (by simp only [List.length_cons]; omega) (by omega) (by simp only [List.length_cons]; omega);refine⟨fun k x hk=>?_,fun id hn=>?_,h3,h4⟩
   ·cases k with
    | zero=> simp at hk;subst hk;simp only [mW];show (mW r os (i+1) (h.put (r.id i) (r.ob o))).get (r.id i)=some (r.ob o);rw [h2 (r.id i) fun k hk he=>?_,Hp.get_put,if_pos rfl];have:=hinj (i+1+k) i (by omega) (by simp only [List.length_cons]; omega) (by omega) (by simp) he;omega
    | succ k=> simp only [mW];have:=h1 k x (by simpa using hk);rw [show i+(k+1)=i+1+k by omega];exact this
   ·simp only [mW];rw [h2 id fun k hk=>?_,Hp.get_put,if_neg ?_]
    ·have:=hn 0 (by simp);rw [Nat.add_zero] at this;exact fun q=>this q.symm
    ·have:=hn (k+1) (by simp only [List.length_cons]; omega);rw [show i+(k+1)=i+1+k by omega] at this;exact this
theorem ED (c:CS) (s:St):(c.guess s).ns.length=c.k:=by unfold CS.guess;split;exact sF _ _ _
section
variable {P:Program}
def aA6 (P:Program) (GB:(Nat→Prop)→Array Obj→Prop) (g:FuncId) (c:CS) (oP:List RK) (dY:List dW) (ko:Nat) (f:List Int→Option (List Int)):Prop:=
 ∀xs ys,f xs=some ys→∀(E:En) (w:World) (vals:List Value),(∀i x,xs[i]?=some x→E.ρ i=x)→xs.length=c.k→Ig E c.st { tmps:=vals.toArray,defers:=[] } w→GB E.ro w.heap→
  Calls P g vals.toArray w (QE ⟨w,E.ro,c.objs.length,E.θ,E.κ⟩ oP dY ko ys)
theorem aoG [Glob] {GB:(Nat→Prop)→Array Obj→Prop} (hgb: ∀ρ ro h,Glob.ok ρ ro h→GB ro h) {F:uH} (hgood: ∀ρ ro h,Glob.ok ρ ro h→Good F ρ) {g:FuncId} {j:Nat} {c:CS} {oP:List RK} {dY:List dW} {ko:Nat} (hlo:qU ko dY=true) (hko:ko≤900) (hom:dY.length=c.objs.length)
 (hs:aA6 P GB g c oP dY ko (F j)) (hrun: ∀(args:Array Value) (w:World),(callFunc g args).run P w= .ok (.enter g args) w):mP P g (aoH j c oP dY ko):=by
 intro aGL s E w vals v s' r hv hp hl;unfold aoH at hl;split at hl
 ·rename_i hcond;simp only [Bool.and_eq_true] at hcond;obtain⟨⟨_,hfit⟩,hns⟩:=hcond;have hlen:=ED c ⟨bD aGL 0 .nil,s.h,s.pc⟩;generalize hr:c.guess ⟨bD aGL 0 .nil,s.h,s.pc⟩ = rn at hl hfit hns hlen
  have f0:Fit E ⟨bD aGL 0 .nil,s.h,s.pc⟩ { tmps:=vals.toArray,defers:=[] } w:=by refine⟨r,?_,hp⟩;have:=GK hv 0;simpa using this
  obtain⟨hle,f1,ho⟩:=G5 Zz f0 hfit;obtain⟨pc1,hp1,q1⟩:=cO hp hl;split at q1
  ·rename_i ht;have hg:=hgood _ _ _ r.glob;have hg1:=(hg j (rn.ns.map (SE.den E.ρ))).1;have hg2:=(hg j (rn.ns.map (SE.den E.ρ))).2;simp only [SB.den,SE.den,lH,hg1,beq_iff_eq] at ht
   have hsome:(F j (rn.ns.map (SE.den E.ρ))).isSome=true:=by
    cases hh:(F j (rn.ns.map (SE.den E.ρ))).isSome with
    | true=>rfl
    | false=>rw [hh] at ht; simp at ht
   obtain⟨ys,hys⟩:=Option.isSome_iff_exists.1 hsome
   have hrd:(SE.ap (2*j+1) (iK rn.ns)).den E.ρ=qK ys:=by show E.ρ _=_;rw [lH,hg2,hys];rfl
   have:=aH q1;simp only [Prod.mk.injEq] at this;obtain⟨rfl,rfl⟩:=this;refine⟨rfl,hp1,?_⟩;unfold uT uS;rw [hrun]
   have hxs: ∀i x,(rn.ns.map (SE.den E.ρ))[i]?=some x→(E.ren rn).ρ i=x:=by intro i x hi;rw [List.getElem?_map,Option.map_eq_some_iff] at hi;obtain⟨e,he,rfl⟩:=hi;show rn.env E.ρ i=_;unfold Ren.env;rw [dB,he]
   refine Calls.mono (hs _ ys hys (E.ren rn) w vals hxs (by simpa using hlen) f1.x (hgb _ _ _ f1.rel.glob)) fun e w' ⟨u,he,hb,ro',k1,k2,k3,k4,k5,k6⟩=> ⟨u,he,?_⟩;have Ai:=hfit;unfold CS.fits at Ai;simp only [Bool.and_eq_true] at Ai;obtain⟨⟨⟨⟨⟨_,hbl⟩,hdis⟩,_⟩,aB5⟩,_⟩:=Ai;have hbl:=Nat.eq_of_beq_eq_true hbl
   have XG: ∀i,rn.Bv i=0:=by
    intro i;unfold Ren.Bv;split
    ·rename_i x hx;rw [dB] at hx;unfold Sl at hns;rw [List.all_eq_true] at hns;exact Nat.eq_of_beq_eq_true (hns x (List.mem_of_getElem? hx))
    ·rfl
   have Ky: ∀i,i < c.objs.length→∃o,s.h.get (rn.id i)=some o:=by intro i hi;obtain⟨o',g1,_⟩:=lM aB5 (List.getElem?_eq_getElem hi);rw [Nat.zero_add] at g1;exact⟨o',g1⟩
   have hinj: ∀a b,a < c.objs.length→b < c.objs.length→rn.id a=rn.id b→a=b:=by
    intro a b ha hb he;have hla:a < rn.bl.length:=by omega
    have hlb:b < rn.bl.length:=by omega
    unfold Ren.id at he;rw [dB,dB,List.getElem?_eq_getElem hla,List.getElem?_eq_getElem hlb] at he;simp only at he;exact uX hdis (i:=a) (j:=b) (x:=rn.bl[a]) (by rw [dB,List.getElem?_eq_getElem hla]) (by rw [dB,List.getElem?_eq_getElem hlb,he])
   generalize hR:(⟨acV (.ap (2*j+1) (iK rn.ns)) ko,rn.bl,[]⟩ : Ren)=R;have Vk: ∀i,R.id i=rn.id i:=by intro i; rw [← hR]; rfl
   have hRl:R.ns.length=ko:=by rw [← hR]; simp [acV]
   obtain⟨p1,p2,p3,p4⟩:=EW (r:=R) (os:=dY) (i:=0) (h:=s.h) fun a b _ h2 _ h4 he=>by rw [Vk,Vk] at he;exact hinj a b (by omega) (by omega) he
   have hfp: ∀b,(qY.mk w (E.ren rn).ro c.objs.length (E.ren rn).θ (E.ren rn).κ).fp b→∃id o,s.h.get id=some o∧(E.θ id).1=b:=by rintro b ⟨i,hi,he⟩;obtain⟨o,h1⟩:=Ky i hi;exact⟨_,o,h1,he⟩
   have awF: ∀b,E.ro b→w'.heap[b]?=w.heap[b]?:=by intro b hbr;refine hb.blk b (r.BO b hbr) fun hf=>?_;obtain⟨id,o,h1,h2⟩:=hfp b hf;exact (r.live id o h1).2.2 (by rw [h2]; exact hbr)
   have hkeep:Keeps E w.heap { E with ro:=ro' } w'.heap:=⟨rfl,fun _ h=>h,fun _ _=>rfl,fun _ _=>rfl,k1,awF⟩
   have ZV: ∀id o,(mW R dY 0 s.h).get id=some o→∃o',s.h.get id=some o':=by
    intro id o hg;by_cases hex: ∃k,k < dY.length∧R.id (0+k)=id
    ·obtain⟨k,hk,rfl⟩:=hex;rw [Nat.zero_add,Vk];exact Ky k (by omega)
    ·rw [p2 id fun k hk he=>hex ⟨k,hk,he⟩] at hg;exact⟨o,hg⟩
   have st2:Stp E s.h w { E with ro:=ro' } (mW R dY 0 s.h) w':=by
    refine⟨rfl,fun _ h=>h,fun _ _=>rfl,fun _ _=>rfl,k1,fun b hbr=>(k2 b hbr).imp id .inr,by rw [p3]; exact Nat.le_refl _,by rw [p4]; exact .inr rfl,fun _ h=> .inl h,hb.os,hb.tape,hb.output,hb.size,fun b hbl hn=>hb.blk b hbl fun hf=>?_,fun id o hg _=>?_⟩
    ·obtain⟨id,o,h1,h2⟩:=hfp b hf;exact hn id o h1 h2
    ·obtain⟨o',h1⟩:=ZV id o hg;exact⟨id,o',h1,rfl⟩
   have aeJ: ∀i,i < ko→R.env E.ρ i=low ys i:=by
    intro i hi;unfold Ren.env low
    have hn:gQ R.ns i=some (uN (.ap (2*j+1) (iK rn.ns)) i):=by rw [← hR,dB];simp [acV,hi]
    rw [hn];simp only;rw [List.getD_eq_getElem?_getD];simp only [uN,SE.den,iO.den,aG];have aEt:(SE.ap (2*j+1) (iK rn.ns)).den E.ρ=qK ys:=hrd;simp only [SE.den] at aEt;rw [aEt];simp only [qK,aG,D.hd,aT,List.getElem?_map];cases ys[i]? <;> rfl
   have r2:bF { E with ro:=ro' } (mW R dY 0 s.h) w':=by
    refine⟨fun id hid=>r.fresh id (by rw [← p3]; exact hid),fun q hq=>by rw [p3]; exact r.res q (by rw [← p4]; exact hq),fun id o hg=>?_,fun i1 i2 o1 o2 h1 h2 he=>?_,k3,Glob.keep r.glob k1 awF⟩
    ·by_cases hex: ∃k,k < dY.length∧R.id (0+k)=id
     ·obtain⟨k,hk,rfl⟩:=hex;rw [Nat.zero_add];have hx:=List.getElem?_eq_getElem hk;have:=p1 k _ hx;rw [hg] at this;simp only [Option.some.injEq] at this;subst this;obtain⟨o',h1⟩:=Ky k (by omega);obtain⟨d1,d2,d3⟩:=r.live _ _ h1;refine⟨by rw [Vk]; exact d1,?_,?_⟩
      ·have ho2:=k5 k _ hx
       have ho3:=OR.low (K:=ko) (E:=(qY.mk w (E.ren rn).ro c.objs.length (E.ren rn).θ (E.ren rn).κ).out ys ro') (E':={ ρ:=R.env E.ρ,θ:=(E.ren rn).θ,κ:=(E.ren rn).κ,dm:=fun i=>i < c.objs.length,ro:=ro' })
        (fun i hi=>aeJ i hi) rfl rfl rfl rfl (zX hlo hx) ho2
       refine OR.back (Eo:={ ρ:=R.env E.ρ,θ:=(E.ren rn).θ,κ:=(E.ren rn).κ,dm:=fun i=>i < c.objs.length,ro:=ro' }) (E2:={ E with ro:=ro' }) (r:=R) (by rw [hRl]; exact hko) (by rw [← hR]) rfl (fun i hi=>?_) rfl (show k < c.objs.length by omega) ho3;obtain⟨o2,h2⟩:=Ky i hi;refine⟨by rw [Vk]; exact (r.live _ _ h2).1,?_,?_⟩
       ·show E.θ (R.id i)=((E.θ (rn.id i)).1,(E.θ (rn.id i)).2+rn.Bv i);rw [Vk,XG,Nat.add_zero]
       ·show E.κ (R.id i)=E.κ (rn.id i) - rn.Bv i;rw [Vk,XG,Nat.sub_zero]
      ·rw [Vk];exact k4 k (by show k < c.objs.length; omega)
     ·rw [p2 id fun k hk he=>hex ⟨k,hk,he⟩] at hg;obtain⟨d1,d2,d3⟩:=r.live id o hg
      have hblk:w'.heap[(E.θ id).1]?=w.heap[(E.θ id).1]?:=by refine hb.blk _ (jG r hg) ?_;rintro⟨i,hi,he⟩;obtain⟨o',h1⟩:=Ky i hi;have:=r.inj _ id o' o h1 hg he;exact hex ⟨i,by show i < dY.length; rw [hom]; exact hi,by rw [Nat.zero_add,Vk]; exact this⟩
      refine⟨d1,d2.keep hkeep d1 hblk,fun hr=>?_⟩;rcases k2 _ hr with hr | hr
      ·exact d3 hr
      ·have hlt:(E.θ id).1 < w.heap.size:=jG r hg;have hge:w.heap.size≤(E.θ id).1:=hr;omega
    ·obtain⟨a1,b1⟩:=ZV _ _ h1;obtain⟨a2,b2⟩:=ZV _ _ h2;exact r.inj _ _ _ _ b1 b2 he
   refine⟨{ E with ro:=ro' },st2,r2,?_⟩;obtain⟨us,fl',sh',c1,rfl⟩:=k6
   have hvr:bJ { E with ro:=ro' } w'.heap (vW oP (uN (.ap (2*j+1) (iK rn.ns))) ko) us:=by refine yO sh' c1 fun k n hk=>?_;rw [List.getElem?_drop] at hk;exact Dy (ys:=ys) hrd hk
   have:=KX hvr;unfold resV at this;exact this
  ·simp [T.leaf] at q1
 ·simp [T.leaf] at hl
theorem JQ (s:St): ∀(gh:List (Nat×Nat)) (ns:List SE),(aoU s gh ns).length=ns.length
 | [],_=>rfl
 | _ :: _,[]=>rfl
 | (t,c) :: l,_ :: ns=>by simp only [aoU,List.length_cons,JQ s l ns]
theorem aoS {g n:SE} {ρ:Nat→Int} {s:St} {k:St→T (AV×St)} {r:AV×St} (hp:bI ρ s.pc) (h:(aoT g n s k).leaf ρ=some r): ∃pc,bI ρ pc∧(k { s with pc:=pc }).leaf ρ=some r:=by
 unfold aoT at h;obtain⟨pc1,hp1,h1⟩:=cO hp h;split at h1
 ·exact⟨pc1,hp1,h1⟩
 ·obtain⟨pc2,hp2,h2⟩:=cO (s:={ s with pc:=pc1 }) hp1 h1;split at h2
  ·simp [T.leaf] at h2
  ·exact⟨pc2,hp2,h2⟩
theorem aCa {q:SE} {jV:Nat} {ns:List SE} {g:Option SE} {c:CS} {bl:List Nat} {ρ:Nat→Int} {s:St} {k:St→T (AV×St)} {r:AV×St} (hp:bI ρ s.pc) (h:(ghT q jV ns g c bl s k).leaf ρ=some r): ∃pc,bI ρ pc∧(k { s with pc:=pc }).leaf ρ=some r:=by
 unfold ghT at h;split at h
 ·exact⟨s.pc,hp,h⟩
 ·split at h
  ·exact⟨s.pc,hp,h⟩
  ·split at h
   ·exact⟨s.pc,hp,h⟩
   ·split at h
    ·exact aoS hp h
    ·exact⟨s.pc,hp,h⟩
theorem afR {q:SE} {jV:Nat} {ns:List SE} {g:Option SE} {bl:List Nat} {ρ:Nat→Int} {v:AV} {s':St}: ∀{l:List CS} {k:Nat} {s:St},bI ρ s.pc→(atH q jV ns g bl l k s).leaf ρ=some (v,s')→
 ∃i c pc',l[i - k]?=some c∧k≤i∧(uN q 0).den ρ=(i:Int)∧bI ρ pc'∧v=resV ((xQ q jV ns c bl s).KD (c.slots.map fun p=>p.2))∧s'= { s with h:=⟨(mW (xQ q jV ns c bl s) c.objs 0 s.h).m,s.h.next+(c.objs.length - bl.length),s.h.res⟩,pc:=pc' }
 | [],k,s,_,h=>by simp [atH,T.leaf] at h
 | c :: l,k,s,hp,h=>by
   simp only [atH] at h;obtain⟨pc',hp',h1⟩:=cO hp h;split at h1
   ·rename_i hb;rw [lV,beq_iff_eq] at hb;obtain⟨pc2,hp2,h2⟩:=aCa (s:={ s with pc:=pc' }) hp' h1;have:=aH h2;simp only [Prod.mk.injEq] at this;exact⟨k,c,pc2,by simp,Nat.le_refl _,hb,hp2,this.1.symm,this.2.symm⟩
   ·obtain⟨i,c',pc2,q1,q2,q3,q4,q5,q6⟩:=afR (s:={ s with pc:=pc' }) hp' h1;refine⟨i,c',pc2,?_,by omega,q3,q4,q5,q6⟩;rw [show i - k=(i - (k+1))+1 by omega,List.getElem?_cons_succ];exact q1
def Fe:List (Nat×AV)→Nat→Bool
 | [],_=>true
 | (t,_) :: l,i=>Nat.beq t i && Fe l (i+1)
theorem Jz: ∀{l:List (Nat×AV)} {i t:Nat} {tr:Tr AV},Fe l i=true→t < i→(rZ l tr).get t=tr.get t
 | [],_,_,_,_,_=>rfl
 | (j,v) :: l,i,t,tr,h,ht=>by simp only [Fe,Bool.and_eq_true] at h;have hj:=Nat.eq_of_beq_eq_true h.1;simp only [rZ];rw [Jz h.2 (by omega),Tr.get_put,if_neg (by omega)]
theorem F6: ∀{l:List (Nat×AV)} {i:Nat} {tr:Tr AV},Fe l i=true→∀k v,(l.map fun p=>p.2)[k]?=some v→(rZ l tr).get (i+k)=some v
 | [],_,_,_,k,v,hk=>by simp at hk
 | (j,x) :: l,i,tr,h,k,v,hk=>by
   simp only [Fe,Bool.and_eq_true] at h;have hj:=Nat.eq_of_beq_eq_true h.1;subst hj;simp only [rZ]
   cases k with
   | zero=> simp only [List.map_cons,List.getElem?_cons_zero,Option.some.injEq] at hk;subst hk;rw [Nat.add_zero,Jz h.2 (by omega),Tr.get_put,if_pos rfl]
   | succ k=> have:=F6 (tr:=tr.put j (some x)) h.2 k v (by simpa using hk);rw [show j+(k+1)=j+1+k by omega];exact this
theorem bJ.of {E:En} {h:Array Obj}: ∀{vs:List AV} {us:List Value},us.length=vs.length→(∀(k:Nat) (v:AV),vs[k]?=some v→∃u,us[k]?=some u∧VR E h v u)→bJ E h vs us
 | [],us,hl,_=>by rw [kM]; exact List.eq_nil_of_length_eq_zero hl
 | v :: vs,[],hl,_=>by simp at hl
 | v :: vs,u :: us,hl,hh=>by
   rw [aY];refine⟨u,us,rfl,?_,bJ.of (by simpa using hl) fun k x hk=>?_⟩
   ·obtain⟨y,h1,h2⟩:=hh 0 v rfl;simp at h1;subst h1;exact h2
   ·exact hh (k+1) x (by simpa using hk)
def aA5 (P:Program) (GB:(Nat→Prop)→Array Obj→Prop) (g:FuncId) (c:CS) (wK:List CS) (f:List Int→Option (List Int)):Prop:=
 ∀xs ys,f xs=some ys→∀(E:En) (w:World) (vals:List Value),(∀i x,xs[i]?=some x→E.ρ i=x)→xs.length=c.k→Ig E c.st { tmps:=vals.toArray,defers:=[] } w→GB E.ro w.heap→
  Calls P g vals.toArray w (QR ⟨w,E.ro,c.objs.length,E.θ,E.κ⟩ wK ys)
def Ry:List CS→Bool
 | []=>true
 | c :: l=>CZ c.k c && Fe c.slots 0 && Nat.ble c.k 900 && Ry l
theorem Rx: ∀{l:List CS},Ry l=true→∀{i:Nat} {c:CS},l[i]?=some c→CZ c.k c=true∧Fe c.slots 0=true∧c.k≤900
 | [],_,i,c,h=>by simp at h
 | c0 :: l,hs,i,c,h=>by
   simp only [Ry,Bool.and_eq_true] at hs
   cases i with
   | zero=>simp at h; subst h; exact⟨hs.1.1.1,hs.1.1.2,Nat.le_of_ble_eq_true hs.1.2⟩
   | succ i=>exact Rx hs.2 (by simpa using h)
theorem aoE [Glob] {GB:(Nat→Prop)→Array Obj→Prop} (hgb: ∀ρ ro h,Glob.ok ρ ro h→GB ro h) {F:uH} (hgood: ∀ρ ro h,Glob.ok ρ ro h→Good F ρ) {g:FuncId} {j:Nat} {c:CS} {gh:List (Nat×Nat)} {jV:Nat} {wK:List CS} (hrp:Ry wK=true) (hgat: ∀xs ys,F j xs=some ys→∀a y,a < jV→ys[a+1]?=some y→y=low xs a)
 (hs:aA5 P GB g c wK (F j)) (hrun: ∀(args:Array Value) (w:World),(callFunc g args).run P w= .ok (.enter g args) w):mP P g (aoF j jV c gh wK):=by
 intro aGL s E w vals v s' r hv hp hl;unfold aoF at hl;split at hl
 ·rename_i hcond;simp only [Bool.and_eq_true] at hcond;obtain⟨⟨_,hfit⟩,hns⟩:=hcond;have hlen:=ED c ⟨bD aGL 0 .nil,s.h,s.pc⟩
  have hlen2:(ghR s gh (c.guess ⟨bD aGL 0 .nil,s.h,s.pc⟩)).ns.length=c.k:=by show (aoU s gh _).length=c.k;rw [JQ,hlen]
  generalize hr:ghR s gh (c.guess ⟨bD aGL 0 .nil,s.h,s.pc⟩)=rn at hl hfit hlen2 hns
  have f0:Fit E ⟨bD aGL 0 .nil,s.h,s.pc⟩ { tmps:=vals.toArray,defers:=[] } w:=by refine⟨r,?_,hp⟩;have:=GK hv 0;simpa using this
  obtain⟨hle,f1,ho⟩:=G5 Zz f0 hfit;obtain⟨pc1,hp1,q1⟩:=cO hp hl;split at q1
  ·rename_i ht;have hg:=hgood _ _ _ r.glob;have hg1:=(hg j (rn.ns.map (SE.den E.ρ))).1;have hg2:=(hg j (rn.ns.map (SE.den E.ρ))).2;simp only [SB.den,SE.den,lH,hg1,beq_iff_eq] at ht
   have hsome:(F j (rn.ns.map (SE.den E.ρ))).isSome=true:=by
    cases hh:(F j (rn.ns.map (SE.den E.ρ))).isSome with
    | true=>rfl
    | false=>rw [hh] at ht; simp at ht
   obtain⟨ys,hys⟩:=Option.isSome_iff_exists.1 hsome
   have hrd:(SE.ap (2*j+1) (iK rn.ns)).den E.ρ=qK ys:=by show E.ρ _=_;rw [lH,hg2,hys];rfl
   obtain⟨i,c',pc2,a1,_,a3,a4,rfl,rfl⟩:=afR (s:={ s with pc:=pc1 }) hp1 q1;rw [Nat.sub_zero] at a1;refine⟨rfl,a4,?_⟩;unfold uT uS;rw [hrun]
   have hxs: ∀i x,(rn.ns.map (SE.den E.ρ))[i]?=some x→(E.ren rn).ρ i=x:=by intro i x hi;rw [List.getElem?_map,Option.map_eq_some_iff] at hi;obtain⟨e,he,rfl⟩:=hi;show rn.env E.ρ i=_;unfold Ren.env;rw [dB,he]
   refine Calls.mono (hs _ ys hys (E.ren rn) w vals hxs (by simpa using hlen2) f1.x (hgb _ _ _ f1.rel.glob)) fun e w' ⟨us,i2,c2,E',he,hb,b1,b2,b3,b4,b5,b6,b7,b8,ayM,b9⟩=> ⟨agK us,he,?_⟩
   have hi:i2=i:=by have:=Dy hrd b2;rw [a3] at this;omega
   subst hi;rw [b1] at a1;simp only [Option.some.injEq] at a1;subst a1;obtain⟨k1,k2,k3⟩:=Rx hrp b1;have Ai:=hfit;unfold CS.fits at Ai;simp only [Bool.and_eq_true] at Ai;obtain⟨⟨⟨⟨⟨_,hbl⟩,hdis⟩,_⟩,aB5⟩,_⟩:=Ai;have hbl:=Nat.eq_of_beq_eq_true hbl
   have XG: ∀i,rn.Bv i=0:=by
    intro i;unfold Ren.Bv;split
    ·rename_i x hx;rw [dB] at hx;unfold Sl at hns;rw [List.all_eq_true] at hns;exact Nat.eq_of_beq_eq_true (hns x (List.mem_of_getElem? hx))
    ·rfl
   have Ky: ∀i,i < c.objs.length→∃o,s.h.get (rn.id i)=some o:=by intro i hi;obtain⟨o',g1,_⟩:=lM aB5 (List.getElem?_eq_getElem hi);rw [Nat.zero_add] at g1;exact⟨o',g1⟩
   have hinj: ∀a b,a < c.objs.length→b < c.objs.length→rn.id a=rn.id b→a=b:=by
    intro a b ha hb he;have hla:a < rn.bl.length:=by omega
    have hlb:b < rn.bl.length:=by omega
    unfold Ren.id at he;rw [dB,dB,List.getElem?_eq_getElem hla,List.getElem?_eq_getElem hlb] at he;simp only at he;exact uX hdis (i:=a) (j:=b) (x:=rn.bl[a]) (by rw [dB,List.getElem?_eq_getElem hla]) (by rw [dB,List.getElem?_eq_getElem hlb,he])
   have Oq: ∀id,E.dm id→id < s.h.next:=by
    intro id hd;rcases Nat.lt_or_ge id s.h.next with h | h
    ·exact h
    ·exact absurd hd (r.fresh id h)
   have XJ: ∀i,i < c.objs.length→rn.id i < s.h.next:=by intro i hi;obtain⟨o,h1⟩:=Ky i hi;exact Oq _ (r.live _ _ h1).1
   have hθr: ∀i,(E.ren rn).θ i=E.θ (rn.id i):=by intro i;show ((E.θ (rn.id i)).1,(E.θ (rn.id i)).2+rn.Bv i)=_;rw [XG,Nat.add_zero]
   have hκr: ∀i,(E.ren rn).κ i=E.κ (rn.id i):=by intro i;show E.κ (rn.id i) - rn.Bv i=_;rw [XG,Nat.sub_zero]
   have hm2:c.objs.length≤c2.objs.length:=by
    rcases Nat.eq_zero_or_pos c.objs.length with h | h
    ·omega
    ·have:=(ayM (c.objs.length - 1) (by show c.objs.length - 1 < c.objs.length; omega)).1;omega
   have hfp: ∀b,(qY.mk w (E.ren rn).ro c.objs.length (E.ren rn).θ (E.ren rn).κ).fp b→∃id o,s.h.get id=some o∧(E.θ id).1=b:=by rintro b ⟨i,hi,he⟩;obtain⟨o,h1⟩:=Ky i hi;refine⟨_,o,h1,?_⟩;have he':((E.ren rn).θ i).1=b:=he;rw [hθr] at he';exact he'
   have awF: ∀b,E.ro b→w'.heap[b]?=w.heap[b]?:=by intro b hbr;refine hb.blk b (r.BO b hbr) fun hf=>?_;obtain⟨id,o,h1,h2⟩:=hfp b hf;exact (r.live id o h1).2.2 (by rw [h2]; exact hbr)
   generalize hR:xQ (.ap (2*j+1) (iK rn.ns)) jV rn.ns c2 rn.bl { s with pc:=pc1 }=R
   have QH: ∀i,i < c.objs.length→R.id i=rn.id i:=by
    intro i hi;have hla:i < rn.bl.length:=by omega
    rw [← hR];unfold xQ Ren.id;simp only [dB,List.getElem?_map,List.getElem?_range (show i < c2.objs.length by omega),Option.map_some,List.getElem?_eq_getElem hla]
   have ZX: ∀i,i < c2.objs.length→c.objs.length≤i→R.id i=s.h.next+(i - c.objs.length):=by
    intro i hi hge;have hla:rn.bl.length≤i:=by omega
    rw [← hR];unfold xQ Ren.id;simp only [dB,List.getElem?_map,List.getElem?_range hi,Option.map_some,List.getElem?_eq_none hla];rw [hbl]
   have aEC: ∀a b,a < c2.objs.length→b < c2.objs.length→R.id a=R.id b→a=b:=by
    intro a b ha hb he;rcases Nat.lt_or_ge a c.objs.length with h1 | h1 <;> rcases Nat.lt_or_ge b c.objs.length with h2 | h2
    ·rw [QH a h1,QH b h2] at he;exact hinj a b h1 h2 he
    ·rw [QH a h1,ZX b hb h2] at he;have:=XJ a h1;omega
    ·rw [ZX a ha h1,QH b h2] at he;have:=XJ b h2;omega
    ·rw [ZX a ha h1,ZX b hb h2] at he;omega
   have hRl:R.ns.length=c2.k:=by rw [← hR]; simp [xQ]
   have aEB:R.sh= []:=by rw [← hR]; rfl
   have aeJ: ∀a,a < c2.k→R.env E.ρ a=E'.ρ a:=by
    intro a ha;unfold Ren.env
    have hn:gQ R.ns a=some (match Nat.blt a jV with | true=>(match gQ rn.ns a with | some e=>e | none=> .lit 0) | false=>uN (.ap (2*j+1) (iK rn.ns)) (a+1)):=by rw [← hR,dB];simp [xQ,ha]
    rw [hn];simp only;have hy:ys[a+1]?=some ys[a+1]:=List.getElem?_eq_getElem (by omega);rw [b4 a _ hy];split
    ·rename_i hb;have hlt:a < jV:=Nat.lt_of_succ_le (by simpa [Nat.blt] using hb);rw [hgat _ _ hys a _ hlt hy];unfold low;rw [List.getD_eq_getElem?_getD,List.getElem?_map,dB];cases rn.ns[a]? <;> rfl
    ·exact Dy hrd hy
   have aF7: ∀id o,c2.st.h.get id=some o→id < c2.objs.length∧c2.objs[id]?=some o:=by
    intro id o ho;have:(vV c2.objs 0 .nil).get id=some o:=ho;rw [mY] at this;split at this
    ·exact⟨by omega,this⟩
    ·simp [Tr.get] at this
   have Oo: ∀id o,c2.objs[id]?=some o→c2.st.h.get id=some o:=by intro id o ho;show (vV c2.objs 0 .nil).get id=_;have hlt:=(List.getElem?_eq_some_iff.1 ho).1;rw [mY,if_pos (by omega)];exact ho
   have aEv: ∀i,E'.dm i→i < c2.objs.length:=by
    intro i hd;rcases Nat.lt_or_ge i c2.objs.length with h | h
    ·exact h
    ·exact absurd hd (b6.fresh i h)
   obtain⟨p1,p2,p3,p4⟩:=EW (r:=R) (os:=c2.objs) (i:=0) (h:=s.h) fun a b _ h2 _ h4 he=>aEC a b (by omega) (by omega) he;generalize hH2:(⟨(mW R c2.objs 0 s.h).m,s.h.next+(c2.objs.length - rn.bl.length),s.h.res⟩ : Hp)=H2;have aEE: ∀id,H2.get id=(mW R c2.objs 0 s.h).get id:=by intro id; rw [← hH2]; rfl
   have awJ:H2.next=s.h.next+(c2.objs.length - c.objs.length):=by rw [← hH2,hbl]
   have aED:H2.res=s.h.res:=by rw [← hH2]
   have hnew: ∀k o,c2.objs[k]?=some o→H2.get (R.id k)=some (R.ob o):=by intro k o hk;have:=p1 k o hk;rw [Nat.zero_add] at this;rw [aEE]; exact this
   have hold: ∀id,(∀k,k < c2.objs.length→R.id k≠id)→H2.get id=s.h.get id:=by intro id hid;rw [aEE];exact p2 id fun k hk he=>by rw [Nat.zero_add] at he; exact hid k hk he
   have hcase: ∀id o,H2.get id=some o→(∃k o',id=R.id k∧c2.objs[k]?=some o'∧o=R.ob o')∨(s.h.get id=some o∧∀k,k < c2.objs.length→R.id k≠id):=by
    intro id o hg;by_cases hex: ∃k,k < c2.objs.length∧R.id k=id
    ·obtain⟨k,hk,rfl⟩:=hex;have hx:=List.getElem?_eq_getElem hk;have:=hnew k _ hx;rw [hg] at this;simp only [Option.some.injEq] at this;exact .inl ⟨k,_,rfl,hx,this⟩
    ·have hne: ∀k,k < c2.objs.length→R.id k≠id:=fun k hk he=>hex ⟨k,hk,he⟩;rw [hold id hne] at hg;exact .inr ⟨hg,hne⟩
   let E2:En:={ ρ:=E.ρ,θ:=fun id=>if id < s.h.next then E.θ id else E'.θ (id - s.h.next+c.objs.length),κ:=fun id=>if id < s.h.next then E.κ id else E'.κ (id - s.h.next+c.objs.length),dm:=fun id=>E.dm id∨(s.h.next≤id∧id < s.h.next+(c2.objs.length - c.objs.length)),ro:=E'.ro };have hθo: ∀id,id < s.h.next→E2.θ id=E.θ id:=fun id h=>by show (if id < s.h.next then _ else _)=_; rw [if_pos h]
   have hκo: ∀id,id < s.h.next→E2.κ id=E.κ id:=fun id h=>by show (if id < s.h.next then _ else _)=_; rw [if_pos h]
   have hθn: ∀k,k < c2.objs.length→E2.θ (R.id k)=E'.θ k:=by
    intro k hk;rcases Nat.lt_or_ge k c.objs.length with h | h
    ·rw [QH k h,hθo _ (XJ k h),← hθr,(ayM k h).2.2.1]
    ·rw [ZX k hk h];show (if s.h.next+(k - c.objs.length) < s.h.next then _ else _)=_;rw [if_neg (by omega),Nat.add_sub_cancel_left,Nat.sub_add_cancel h]
   have hκn: ∀k,k < c2.objs.length→E2.κ (R.id k)=E'.κ k:=by
    intro k hk;rcases Nat.lt_or_ge k c.objs.length with h | h
    ·rw [QH k h,hκo _ (XJ k h),← hκr,(ayM k h).2.2.2]
    ·rw [ZX k hk h];show (if s.h.next+(k - c.objs.length) < s.h.next then _ else _)=_;rw [if_neg (by omega),Nat.add_sub_cancel_left,Nat.sub_add_cancel h]
   have aEx: ∀k,k < c2.objs.length→E2.dm (R.id k):=by
    intro k hk;rcases Nat.lt_or_ge k c.objs.length with h | h
    ·obtain⟨o,h1⟩:=Ky k h;rw [QH k h];exact .inl (r.live _ _ h1).1
    ·rw [ZX k hk h];exact .inr ⟨by omega,by omega⟩
   have hkeep:Keeps E w.heap E2 w'.heap:=⟨rfl,fun _ h=> .inl h,fun id h=>hθo id (Oq id h),fun id h=>hκo id (Oq id h),b7,awF⟩
   have aoN: ∀i,E'.dm i→E2.dm (R.id i)∧E2.θ (R.id i)=E'.θ i∧E2.κ (R.id i)=E'.κ i:=by intro i hd;have hi:=aEv i hd;exact⟨aEx i hi,hθn i hi,hκn i hi⟩
   unfold CZ at k1;simp only [Bool.and_eq_true] at k1;obtain⟨⟨ks,ko⟩,_⟩:=k1
   have st2:Stp E s.h w E2 H2 w':=by
    refine⟨rfl,fun _ h=> .inl h,fun id h=>hθo id (Oq id h),fun id h=>hκo id (Oq id h),b7,fun b hbr=>(b8 b hbr).imp id .inr,by rw [awJ]; omega,by rw [aED]; exact .inr rfl,fun id h=>?_,hb.os,hb.tape,hb.output,hb.size,fun b aB8 hn=>hb.blk b aB8 fun hf=>?_,fun id o hg hlt=>?_⟩
    ·rcases h with h | h
     ·exact .inl h
     ·exact .inr (.inl ⟨h.1,by rw [awJ]; exact h.2⟩)
    ·obtain⟨id,o,h1,h2⟩:=hfp b hf;exact hn id o h1 h2
    ·rcases hcase id o hg with ⟨k,o',rfl,hk,_⟩ | ⟨h1,_⟩
     ·have hkl:=(List.getElem?_eq_some_iff.1 hk).1;rcases Nat.lt_or_ge k c.objs.length with h | h
      ·obtain⟨o2,h2⟩:=Ky k h;exact⟨_,o2,h2,by rw [QH k h,hθo _ (XJ k h)]⟩
      ·rw [hθn k hkl] at hlt;have hh:w.heap.size≤(E'.θ k).1:=b9 k o' (Oo k o' hk) h;omega
     ·exact⟨id,o,h1,(by rw [hθo id (Oq id (r.live _ _ h1).1)])⟩
   have r2:bF E2 H2 w':=by
    refine⟨fun id hid=>?_,fun q hq=>?_,fun id o hg=>?_,fun i1 i2 o1 o2 h1 h2 he=>?_,b6.BO,Glob.keep r.glob b7 hkeep.Nr⟩
    ·rw [awJ] at hid;rintro (h | h)
     ·exact r.fresh id (by omega) h
     ·omega
    ·rw [aED] at hq;obtain⟨g1,g2⟩:=r.res q hq;refine⟨by rw [awJ]; omega,?_⟩;rintro (h | h)
     ·exact g2 h
     ·omega
    ·rcases hcase id o hg with ⟨k,o',rfl,hk,rfl⟩ | ⟨h2,hne⟩
     ·have hkl:=(List.getElem?_eq_some_iff.1 hk).1;obtain⟨g1,g2,g3⟩:=b6.live k o' (Oo k o' hk);refine⟨aEx k hkl,?_,by rw [hθn k hkl]; exact g3⟩;have ho3:=OR.low (K:=c2.k) (E:=E') (E':={ E' with ρ:=R.env E.ρ }) (fun a ha=>aeJ a ha) rfl rfl rfl rfl (BZ ko hk) g2;exact OR.back (Eo:={ E' with ρ:=R.env E.ρ }) (E2:=E2) (r:=R) (by rw [hRl]; exact k3) aEB rfl (fun i hd=>aoN i hd) rfl (id:=k) g1 ho3
     ·obtain⟨g1,g2,g3⟩:=r.live id o h2;have h1:=Oq id g1;refine⟨.inl g1,g2.keep hkeep g1 (hb.blk _ (jG r h2) ?_),?_⟩
      ·rintro⟨i,hi,he⟩;obtain⟨o',h3⟩:=Ky i hi;have he':((E.ren rn).θ i).1=(E.θ id).1:=he;rw [hθr] at he';have:=r.inj _ id o' o h3 h2 he';have hi':i < c.objs.length:=hi;exact hne i (by omega) (by rw [QH i hi']; exact this)
      ·rw [hθo id h1];intro hr;rcases b8 _ hr with hr | hr
       ·exact g3 hr
       ·have hlt:(E.θ id).1 < w.heap.size:=jG r h2;have hge:w.heap.size≤(E.θ id).1:=hr;omega
    ·have mix: ∀(k:Nat) (o':dW) (id:Nat) (o:dW),c2.objs[k]?=some o'→s.h.get id=some o→(∀k,k < c2.objs.length→R.id k≠id)→(E'.θ k).1=(E.θ id).1→False:=by
      intro k o' id o hk h2 hne he;have hkl:=(List.getElem?_eq_some_iff.1 hk).1;rcases Nat.lt_or_ge k c.objs.length with h | h
      ·obtain⟨o3,h3⟩:=Ky k h;have hb3:E'.θ k=(E.ren rn).θ k:=(ayM k h).2.2.1;rw [hb3,hθr] at he;have:=r.inj _ id o3 o h3 h2 he;exact hne k hkl (by rw [QH k h]; exact this)
      ·have h3:=jG r h2;have h4:w.heap.size≤(E'.θ k).1:=b9 k o' (Oo k o' hk) h;omega
     rcases hcase i1 o1 h1 with ⟨m1,y1,rfl,z1,_⟩ | ⟨x2,x3⟩
     ·have hm1:=(List.getElem?_eq_some_iff.1 z1).1;rcases hcase i2 o2 h2 with ⟨m2,y2,rfl,z2,_⟩ | ⟨x4,x5⟩
      ·have hm2:=(List.getElem?_eq_some_iff.1 z2).1;rw [hθn m1 hm1,hθn m2 hm2] at he;have:=b6.inj _ _ _ _ (Oo m1 y1 z1) (Oo m2 y2 z2) he;rw [this]
      ·rw [hθn m1 hm1,hθo _ (Oq _ (r.live _ _ x4).1)] at he;exact (mix m1 y1 i2 o2 z1 x4 x5 he).elim
     ·rcases hcase i2 o2 h2 with ⟨m2,y2,rfl,z2,_⟩ | ⟨x4,x5⟩
      ·have hm2:=(List.getElem?_eq_some_iff.1 z2).1;rw [hθn m2 hm2,hθo _ (Oq _ (r.live _ _ x2).1)] at he;exact (mix m2 y2 i1 o1 z2 x2 x3 he.symm).elim
      ·rw [hθo _ (Oq _ (r.live _ _ x2).1),hθo _ (Oq _ (r.live _ _ x4).1)] at he;exact r.inj _ _ _ _ x2 x4 he
   refine⟨E2,st2,r2,?_⟩
   have hvs:bJ E' w'.heap (c2.slots.map fun p=>p.2) us:=by refine bJ.of (by rw [b5]; simp) fun k x hk=>?_;have:=F6 (tr:=.nil) k2 k x hk;rw [Nat.zero_add] at this;obtain⟨u,h1,h2⟩:=b6.sr k x this;exact⟨u,by simpa using h1,h2⟩
   have aEu:pV c2.k (c2.slots.map fun p=>p.2)=true:=by
    have: ∀{l:List (Nat×AV)},yB c2.k l=true→pV c2.k (l.map fun p=>p.2)=true:=by
     intro l
     induction l with
     | nil=>intro _; rfl
     | cons p l ih=> intro h;simp only [yB,Bool.and_eq_true] at h;simp only [List.map_cons,pV,Bool.and_eq_true];exact⟨h.1,ih h.2⟩
    exact this ks
   have aFZ:=bJ.low (K:=c2.k) (E:=E') (E':={ E' with ρ:=R.env E.ρ }) (fun a ha=>aeJ a ha) rfl rfl rfl rfl _ _ aEu hvs;have aFY:=bJ.back (Eo:={ E' with ρ:=R.env E.ρ }) (E2:=E2) (r:=R) (by rw [hRl]; exact k3) aEB rfl (fun i hd=>aoN i hd) rfl _ _ aFZ;exact KX aFY
  ·simp [T.leaf] at q1
 ·simp [T.leaf] at hl
end
end Go.As
end
section
namespace Go.As
open Go.RowKit
structure YK where
 ok:(Nat→Prop)→Array Obj→Prop
 keep: ∀{ro ro':Nat→Prop} {h h':Array Obj},ok ro h→(∀b,ro b→ro' b)→(∀b,ro b→h'[b]?=h[b]?)→ok ro' h'
@[reducible] def YK.glob (G:YK) (F:uH):Glob where
 ok ρ ro h:=G.ok ro h∧Good F ρ
 keep h1 h2 h3:=⟨G.keep h1.1 h2 h3,h1.2⟩
 ren h1 h2:=⟨h1.1,h1.2.ren h2⟩
structure Il where
 g:Nat
 PX:List RK
 oP:List RK
 tabs:KG
 pos:Option (List Nat×CS)
 pat:Option (CS×List dW×Nat):=none
 wK:List CS:=[]
 gh:List (Nat×Nat):=[]
 wh:List Nat:=[]
 jV:Nat:=0
 tst:List (Nat×Nat):=[]
 fz:List (Nat×Nat×Nat):=[]
def Il.dY (e:Il):List dW:=match e.pat with
 | none=>[]
 | some (_,o,_)=>o
def Il.ko (e:Il):Nat:=match e.pat with
 | none=>0
 | some (_,_,k)=>k
structure Sys where
 P:Program
 G:YK
 tt:TT
 ft:Nat→Option Func
 chk:Nat→Nat→List Oper→Bool
 draw:dU→Nat→Nat→List Oper→St→T St
 EC:Nat→Option (List AV→St→T (AV×St))
 lf:Nat
 depth:Nat
 nums:Nat→List Nat
 ents:Nat→Option Il
noncomputable section
def avP (c:CS) (args:List AV) (s:St):Bool:=match quick (bD args 0 .nil) c.slots with
 | false=>false
 | true=>Nat.beq args.length c.slots.length && c.fits prv ⟨bD args 0 .nil,s.h,s.pc⟩ (c.guess ⟨bD args 0 .nil,s.h,s.pc⟩) && Sl (c.guess ⟨bD args 0 .nil,s.h,s.pc⟩)
def unset (s:St):List Nat→Bool
 | []=>true
 | t :: l=>match s.slots.get t with
   | some _=>false
   | none=>unset s l
def aEF (s:St):List (Nat×Nat)→Bool
 | []=>true
 | (t,_) :: l=>match s.slots.get t with
   | some _=>aEF s l
   | none=>false
def amO (c:CS) (gh:List (Nat×Nat)) (wh:List Nat) (args:List AV) (s:St):Bool:=match quick (bD args 0 .nil) c.slots with
 | false=>false
 | true=>unset s wh && aEF s gh && Nat.beq args.length c.slots.length && c.fits prv ⟨bD args 0 .nil,s.h,s.pc⟩ (ghR s gh (c.guess ⟨bD args 0 .nil,s.h,s.pc⟩)) && Sl (ghR s gh (c.guess ⟨bD args 0 .nil,s.h,s.pc⟩))
def Sys.Ol (S:Sys):List Nat→List AV→St→T (AV×St)
 | [],_,_=> .fail
 | j :: l,args,s=>match S.ents j with
   | none=> .fail
   | some e=>match e.pat with
     | none=>aoJ j e.PX e.oP args s
     | some (c,dY,ko)=>match e.wK with
       | []=>match avP c args s with
         | true=>aoH j c e.oP dY ko args s
         | false=>S.Ol l args s
       | r :: rs=>match amO c e.gh e.wh args s with
         | true=>aoF j e.jV c e.gh (r :: rs) args s
         | false=>S.Ol l args s
def Sys.hook (S:Sys) (g:Nat):Option (List AV→St→T (AV×St)):=match S.nums g with
 | []=>S.EC g
 | j :: l=>some (match S.EC g with
   | none=>S.Ol (j :: l)
   | some h=>orElse h (S.Ol (j :: l)))
def Sys.call (S:Sys):dU:=VB S.tt S.ft S.hook S.draw S.lf S.depth
def Sys.cfg (S:Sys) (e:Il) (fn:Func):Jp:=⟨S.tt,S.call,S.draw S.call e.g,S.lf,fn.results.toList,e.oP,e.dY,e.ko,e.wK,e.jV,e.fz⟩
def sH (S:Sys) (e:Il):T Lf:=match S.ft e.g with
 | none=> .fail
 | some fn=>match fn.body with
   | none=> .fail
   | some body=>match e.pos with
     | none=>match e.pat with
       | none=>Ep (S.cfg e fn) e.tabs 1000 [] body [] ⟨bD (vW e.PX .aP 0) 0 .nil,Hp.zero,[]⟩
       | some (c,_,_)=>Ep (S.cfg e fn) e.tabs 1000 [] body [] c.st
     | some (p,c)=>match uU body p with
       | some (b,fr)=>match b with
         | .loop b=>Y0 (fun s=>Ep (S.cfg e fn) e.tabs 1000 (0 :: p) b (.loop p b :: fr) s) e.tst c.st
         | _=> .fail
       | none=> .fail
def Sys.tree (S:Sys) (j:Nat):T Lf:=match S.ents j with
 | none=> .fail
 | some e=>sH S e
end
def auF (S:Sys) (e:Il) (body:Code):Prop:= ∀p l,e.tabs p=some l→(∃b fr,uU body p=some (.loop b,fr))∧∀j c,(j,c)∈l→S.ents j=some { e with pos:=some (p,c) }∧CZ c.k c=true∧c.k≤900∧e.jV≤c.k
structure PZ (S:Sys):Prop where
 tt:eP S.P S.tt
 ft:aiM S.P S.chk S.ft
 draw: ∀(I:Glob) call,@jU I S.P call→∀g,@Dp I S.P (S.chk g) (S.draw call g)
 EC: ∀(I:Glob),(∀ρ ro h,I.ok ρ ro h→S.G.ok ro h)→∀g h,S.EC g=some h→@mP I S.P g h
 run: ∀g j,j∈S.nums g→∀(args:Array Value) (w:World),(callFunc g args).run S.P w= .ok (.enter g args) w
 num: ∀g j e,j∈S.nums g→S.ents j=some e→e.g=g∧e.pos=none∧(match e.pat with
  | none=>(uP e.PX).length≤900∧e.wK= []
  | some (c,dY,_)=>CZ c.k c=true∧c.k≤900∧dY.length=c.objs.length∧(e.wK≠[]→Ry e.wK=true))
 outs: ∀j e,S.ents j=some e→qU e.ko e.dY=true∧e.ko≤900∧e.jV≤900
 ents: ∀j e,S.ents j=some e→∀fn body,S.ft e.g=some fn→fn.body=some body→auF S e body
section
variable {S:Sys}
def aA7 (S:Sys) (n:Nat):Prop:= ∀g j e,j∈S.nums g→S.ents j=some e→match e.pat with
 | none=>atL S.P S.G.ok g e.PX e.oP (fA S.tree n j)
 | some (c,dY,ko)=>match e.wK with
   | []=>aA6 S.P S.G.ok g c e.oP dY ko (fA S.tree n j)
   | r :: rs=>aA5 S.P S.G.ok g c (r :: rs) (fA S.tree n j)
def LoopN (S:Sys) (n:Nat):Prop:= ∀j e p c,S.ents j=some e→e.pos=some (p,c)→CZ c.k c=true→c.k≤900→∀fn body b fr,S.ft e.g=some fn→fn.body=some body→uU body p=some (.loop b,fr)→
 ∀(B:qY) (E:En) (a:Act) (w:World) (xs ys:List Int),e.dY.length=B.m→fA S.tree n j xs=some ys→(∀i x,xs[i]?=some x→E.ρ i=x)→xs.length=c.k→qX B E c.st a w→S.G.ok E.ro w.heap→fn.ntmps≤a.tmps.size→a.defers= []→
  P8 S.P b (KE S.P (bodyPost S.P fn (QX B e.oP e.dY e.ko e.wK ys)) fr) a w
def LfG (jV:Nat) (tabs:KG):Lf→Prop
 | .out es=> ∀a e,a < jV→es[a+1]?=some e→e= .aP a
 | .jump j es=>(∃p l c,tabs p=some l∧(j,c)∈l∧es.length=c.k)∧∀a e,a < jV→es[a]?=some e→e= .aP a
theorem Tf: ∀{n i:Nat} {ns:List SE} {a:Nat} {e:SE},a < n→(JU n i ns)[a]?=some e→e= .aP (i+a)
 | 0,_,_,a,_,h,_=>by omega
 | n+1,i,[],a,e,_,h=>by simp [JU] at h
 | n+1,i,x :: ns,0,e,_,h=>by simp [JU] at h; rw [← h]; rfl
 | n+1,i,x :: ns,a+1,e,ha,h=>by simp only [JU,List.getElem?_cons_succ] at h;rw [Tf (n:=n) (by omega) h];congr 1; omega
theorem XQ {jV:Nat} {r:Ren} {a:Nat} {e:SE} (ha:a < jV) (h:(xK jV r).ns[a]?=some e):e= .aP a:=by
 unfold xK at h;split at h
 ·omega
 ·have:=Tf ha h;rw [this,Nat.zero_add]
theorem apK {n m jV:Nat} {s:St} {ρ:Nat→Int} {lf:Lf} {tabs:KG} {l:List CS} {k:Nat} (h:(Yb n m jV s l k).leaf ρ=some lf):LfG jV tabs lf:=by obtain⟨i,c,_,_,_,rfl,_⟩:=LU h;intro a e ha he;rw [List.getElem?_cons_succ] at he;exact XQ ha he
theorem Ad {m jV:Nat} {s:St} {ρ:Nat→Int} {lf:Lf} {tabs:KG} {p:List Nat} {l0:List (Nat×CS)} (hp:tabs p=some l0): ∀{l:List (Nat×CS)},(∀x∈l,x∈l0)→(xI m jV s l).leaf ρ=some lf→LfG jV tabs lf
 | [],_,h=>by simp [xI,T.leaf] at h
 | (j,c) :: l,hsub,h=>by
   simp only [xI] at h;split at h
   ·exact Ad hp (fun x hx=>hsub x (by simp [hx])) h
   ·split at h
    ·have:=aH h;subst this;exact⟨⟨p,l0,c,hp,hsub _ (by simp),by rw [CP,Aq]⟩,fun a e ha he=>XQ ha he⟩
    ·exact Ad hp (fun x hx=>hsub x (by simp [hx])) h
theorem xA {α:Type} {k:St→T α} {ρ:Nat→Int} {x:α}: ∀{ts:List Nat} {s:St},(Df k ts s).leaf ρ=some x→∃s',(k s').leaf ρ=some x
 | [],s,h=> ⟨s,h⟩
 | i :: ts,s,h=>by
   simp only [Df] at h;split at h
   ·obtain⟨pc,b,h1⟩:=lW h;exact xA h1
   ·exact xA h
theorem Iw {α:Type} {k:St→T α} {ρ:Nat→Int} {x:α}: ∀{ts:List (Nat×Nat)} {s:St},(Y0 k ts s).leaf ρ=some x→∃s',(k s').leaf ρ=some x
 | [],s,h=> ⟨s,h⟩
 | (t,g) :: ts,s,h=>by
   simp only [Y0] at h;split at h
   ·obtain⟨pc,b,h1⟩:=lW h;exact Iw h1
   ·exact Iw h
theorem Tc {α:Type} {ρ:Nat→Int} {v:AV} {s:St} {k:AV→St→T α} {x:α} (h:(ahR v s k).leaf ρ=some x): ∃v s,(k v s).leaf ρ=some x:=by
 unfold ahR at h;split at h
 ·split at h
  ·unfold IQ at h;obtain⟨_,b1,h⟩:=lW h
   cases b1 with
   | true=>simp [T.leaf] at h
   | false=>
     obtain⟨_,b2,h⟩:=lW h
     cases b2 with
     | true=>simp [T.leaf] at h
     | false=>
       obtain⟨_,b3,h⟩:=lW h
       cases b3 with
       | true=>simp [T.leaf] at h
       | false=>exact⟨_,_,h⟩
  ·exact⟨_,_,h⟩
 ·exact⟨_,_,h⟩
theorem Oy {α:Type} {ρ:Nat→Int} {x:α}: ∀{vs:List AV} {s:St} {k:List AV→St→T α},(S9 vs s k).leaf ρ=some x→∃vs s,(k vs s).leaf ρ=some x
 | [],s,k,h=> ⟨_,_,h⟩
 | v :: vs,s,k,h=>by simp only [S9] at h;obtain⟨_,_,h⟩:=Tc h;obtain⟨_,_,h⟩:=Oy h;exact⟨_,_,h⟩
theorem NJ {α:Type} {ρ:Nat→Int} {x:α} {t:Nat}: ∀{ov:List (SE×List AV)} {e:SE} {s:St} {k:SE→St→T α},(RQ t ov e s k).leaf ρ=some x→∃e s,(k e s).leaf ρ=some x
 | [],e,s,k,h=> ⟨_,_,h⟩
 | (j,cs) :: ov,e,s,k,h=>by
   simp only [RQ] at h;obtain⟨_,_,h⟩:=NJ h;obtain⟨_,_,h⟩:=Oy h;split at h
   ·exact⟨_,_,h⟩
   ·simp [T.leaf] at h
theorem ahP {α:Type} {ρ:Nat→Int} {v:AV} {s:St} {k:AV→St→T α} {x:α} (h:(ahQ v s k).leaf ρ=some x): ∃v s,(k v s).leaf ρ=some x:=by
 unfold ahQ at h;split at h
 ·obtain⟨_,_,h⟩:=NJ h;split at h
  ·exact⟨_,_,h⟩
  ·simp [T.leaf] at h
 ·exact Tc h
theorem SY {α:Type} {ρ:Nat→Int} {x:α} {k:List AV→St→T α}: ∀{fz:List (Nat×Nat×Nat)} {vs:List AV} {s:St},(Z5 fz vs s k).leaf ρ=some x→∃vs s,(k vs s).leaf ρ=some x
 | [],vs,s,h=> ⟨_,_,h⟩
 | (i,f,t) :: l,vs,s,h=>by
   simp only [Z5] at h;split at h
   ·split at h
    ·obtain⟨_,_,h⟩:=ahP h;split at h
     ·exact SY h
     ·simp [T.leaf] at h
    ·simp [T.leaf] at h
   ·simp [T.leaf] at h
theorem apL {g:Jp} {tabs:KG} {e:Ex} {s:St} {ρ:Nat→Int} {lf:Lf} (hr:g.wK≠[]) (h:(apM g e s).leaf ρ=some lf):LfG g.jV tabs lf:=by
 unfold apM at h;split at h
 ·simp [T.leaf] at h
 ·split at h
  ·simp [T.leaf] at h
  ·split at h
   ·rename_i h0; exact absurd h0 hr
   ·obtain⟨_,_,h⟩:=SY h;exact apK h
theorem aeK {g:Jp} {tabs:KG} {ρ:Nat→Int} (hr:g.wK≠[]): ∀n:Nat,
 (∀p c fr s lf,(Ep g tabs n p c fr s).leaf ρ=some lf→LfG g.jV tabs lf)∧
 (∀fr e s lf,(Ar g tabs n fr e s).leaf ρ=some lf→LfG g.jV tabs lf)
 | 0=> ⟨fun _ _ _ _ _ h=>by simp [Ep,T.leaf] at h,fun _ _ _ _ h=>by simp [Ar,T.leaf] at h⟩
 | n+1=>by
   obtain⟨ih1,ih2⟩:=aeK hr n
   have lfc: ∀(c:Code) fr s lf,((g.ev c s).bind fun (e,s')=>Ar g tabs n fr e s').leaf ρ=some lf→LfG g.jV tabs lf:=by intro c fr s lf h;obtain⟨⟨e,s'⟩,_,h2⟩:=T.fU h;exact ih2 _ _ _ _ h2
   constructor
   ·intro p c fr s lf h;unfold Ep at h;split at h
    ·rename_i l hl;obtain⟨s',h1⟩:=xA h;exact Ad hl (fun _ h=>h) h1
    ·split at h
     ·exact ih1 _ _ _ _ _ h
     ·exact ih1 _ _ _ _ _ h
     ·exact ih1 _ _ _ _ _ h
     ·split at h
      ·obtain⟨pc,b,h1⟩:=lW h;split at h1
       ·exact ih1 _ _ _ _ _ h1
       ·exact ih1 _ _ _ _ _ h1
      ·simp [T.leaf] at h
     ·exact lfc _ _ _ _ h
   ·intro fr e s lf h;unfold Ar at h;split at h
    ·exact apL hr h
    ·split at h
     ·exact ih1 _ _ _ _ _ h
     ·exact ih2 _ _ _ _ h
    ·split at h
     ·split at h
      ·exact ih2 _ _ _ _ h
      ·exact ih2 _ _ _ _ h
     ·exact ih2 _ _ _ _ h
    ·split at h
     ·split at h
      ·rename_i l hl;obtain⟨s',h1⟩:=xA h;exact Ad hl (fun _ h=>h) h1
      ·simp [T.leaf] at h
     ·exact ih2 _ _ _ _ h
    ·exact ih2 _ _ _ _ h
theorem JZ {e:Il} {ρ:Nat→Int} {lf:Lf} (hr:e.wK≠[]) (h:(sH S e).leaf ρ=some lf): ∃fn body,S.ft e.g=some fn∧fn.body=some body∧LfG e.jV e.tabs lf:=by
 unfold sH at h;split at h
 ·simp [T.leaf] at h
 ·rename_i fn hfn;split at h
  ·simp [T.leaf] at h
  ·rename_i body hb;refine⟨fn,body,hfn,hb,?_⟩;have key: ∀n p c fr s,(Ep (S.cfg e fn) e.tabs n p c fr s).leaf ρ=some lf→LfG e.jV e.tabs lf:=fun n p c fr s h=>(aeK (g:=S.cfg e fn) hr n).1 _ _ _ _ _ h;split at h
   ·split at h
    ·exact key _ _ _ _ _ h
    ·exact key _ _ _ _ _ h
   ·split at h
    ·split at h
     ·obtain⟨s',h1⟩:=Iw h;exact key _ _ _ _ _ h1
     ·simp [T.leaf] at h
    ·simp [T.leaf] at h
theorem acW (hs:PZ S): ∀(n j:Nat) (e:Il) (xs ys:List Int),S.ents j=some e→e.wK≠[]→fA S.tree n j xs=some ys→∀a y,a < e.jV→ys[a+1]?=some y→y=low xs a
 | 0,_,_,_,_,_,_,h=>by simp [fA] at h
 | n+1,j,e,xs,ys,he,hr,h=>by
   intro a y ha hy;obtain⟨_,_,hg⟩:=hs.outs j e he;have SX:S.tree j=sH S e:=by unfold Sys.tree; rw [he]
   simp only [fA,SX] at h;split at h
   ·simp at h
   ·rename_i es hl;obtain⟨_,_,_,_,hlf⟩:=JZ hr hl;simp only [Option.some.injEq] at h;subst h;rw [List.getElem?_map,Option.map_eq_some_iff] at hy;obtain⟨x,hx,rfl⟩:=hy;rw [hlf a x ha hx];show bM _ _ a=_;rw [wC (by omega)]
   ·rename_i j' es hl;obtain⟨fn,body,hfn,hb,⟨p,l,c,hp,hc,hlen⟩,hlf⟩:=JZ hr hl;obtain⟨_,hh⟩:=hs.ents j e he fn body hfn hb p l hp;obtain⟨q1,_,_,q4⟩:=hh j' c hc;have:=acW hs n j' _ _ ys q1 hr h a y ha hy;rw [this];have hal:a < es.length:=by omega
    have hx:=List.getElem?_eq_getElem hal;unfold low;rw [List.getD_eq_getElem?_getD,List.getElem?_map,hx];show (es[a]).den _=_;rw [hlf a _ ha hx];show bM _ _ a=_;rw [wC (by omega)]
theorem ayK (hs:PZ S) {n:Nat} (h:aA7 S n):@jU (S.G.glob (fA S.tree n)) S.P S.call:=by
 letI I:=S.G.glob (fA S.tree n);have a1: ∀ρ ro h,I.ok ρ ro h→S.G.ok ro h:=fun _ _ _ h=>h.1;have a2: ∀ρ ro h,I.ok ρ ro h→Good (fA S.tree n) ρ:=fun _ _ _ h=>h.2;refine Hg hs.tt hs.ft (hook:=S.hook) ?_ (fun call hc g=>hs.draw I call hc g) S.lf S.depth
 have hL: ∀g l,(∀j∈l,j∈S.nums g)→@mP I S.P g (S.Ol l):=by
  intro g l
  induction l with
  | nil=> intro _ aGL s E w vals v s' r hv hp hl;simp [Sys.Ol,T.leaf] at hl
  | cons j l ih=>
    intro hsub aGL s E w vals v s' r hv hp hl;have hj:=hsub j (by simp);simp only [Sys.Ol] at hl;split at hl
    ·simp [T.leaf] at hl
    ·rename_i e he;have hspec:=h g j e hj he;obtain⟨_,_,hnum⟩:=hs.num g j e hj he;obtain⟨ho1,ho2,_⟩:=hs.outs j e he
     cases hpat:e.pat with
     | none=> rw [hpat] at hl hspec;exact @aoI S.P I S.G.ok a1 (fA S.tree n) a2 g j e.PX e.oP hspec (hs.run g j hj) aGL s E w vals v s' r hv hp hl
     | some q=>
       obtain⟨c,dY,ko⟩:=q;rw [hpat] at hl hspec hnum;simp only at hl hspec hnum;unfold Il.dY Il.ko at ho1;unfold Il.ko at ho2;rw [hpat] at ho1 ho2
       cases Kw:e.wK with
       | nil=>
         rw [Kw] at hl hspec;simp only at hl hspec;split at hl
         ·exact @aoG S.P I S.G.ok a1 (fA S.tree n) a2 g j c e.oP dY ko ho1 ho2 hnum.2.2.1 hspec (hs.run g j hj) aGL s E w vals v s' r hv hp hl
         ·exact ih (fun j hj=>hsub j (by simp [hj])) aGL s E w vals v s' r hv hp hl
       | cons r0 rs=>
         rw [Kw] at hl hspec;simp only at hl hspec;have hrp:=hnum.2.2.2 (by rw [Kw]; simp);rw [Kw] at hrp;split at hl
         ·exact @aoE S.P I S.G.ok a1 (fA S.tree n) a2 g j c e.gh e.jV (r0 :: rs) hrp (fun xs ys h=>acW hs n j e xs ys he (by rw [Kw]; simp) h) hspec (hs.run g j hj) aGL s E w vals v s' r hv hp hl
         ·exact ih (fun j hj=>hsub j (by simp [hj])) aGL s E w vals v s' r hv hp hl
 intro g f hf;unfold Sys.hook at hf;split at hf
 ·exact hs.EC I a1 g f hf
 ·rename_i j l hj;simp only [Option.some.injEq] at hf;subst hf;have h2:=hL g (j :: l) (by rw [hj]; exact fun _ h=>h);split
  ·exact h2
  ·rename_i h0 hh;exact yL (hs.EC I a1 g h0 hh) h2
theorem ZQ (hs:PZ S) {n:Nat} (h:LoopN S n) {j:Nat} {e:Il} (he:S.ents j=some e) {fn:Func} {body:Code} (hfn:S.ft e.g=some fn) (hb:fn.body=some body) (B:qY) (hm:e.dY.length=B.m) (ys:List Int) :
 @atS (S.G.glob (fA S.tree n)) S.P body fn.ntmps B (bodyPost S.P fn (QX B e.oP e.dY e.ko e.wK ys)) (fA S.tree n) ys e.tabs:=by
 intro p l hp;obtain⟨⟨b,fr,hl⟩,hh⟩:=hs.ents j e he fn body hfn hb p l hp;refine⟨b,fr,hl,fun j' c hc E a w t hg ⟨xs,h1,h2,h3,h4⟩ hN hd=>?_⟩;obtain⟨q1,q2,q3,_⟩:=hh j' c hc;exact h j' { e with pos:=some (p,c) } p c q1 rfl q2 q3 fn body b fr hfn hb hl B E a w xs ys hm h4 h1 h2 t hg.1 hN hd
theorem anK {F:uH} {E:En} {xs:List Int} {k:Nat} (h: ∀i x,xs[i]?=some x→E.ρ i=x) (hk:xs.length=k) (h9:k≤900): ∀i,i < k→bM F (low xs) i=E.ρ i:=by intro i hi;rw [wC (by omega)];have hx:xs[i]?=some xs[i]:=List.getElem?_eq_getElem (by omega);unfold low;rw [h i _ hx,List.getD_eq_getElem?_getD,hx];rfl
theorem Vf {tree:Nat→T Lf} {n j:Nat} {xs ys:List Int} (h:fA tree (n+1) j xs=some ys): ∃lf,(tree j).leaf (bM (fA tree n) (low xs))=some lf∧YI (fA tree n) (bM (fA tree n) (low xs)) ys lf:=by
 simp only [fA] at h;split at h
 ·simp at h
 ·rename_i es hl;simp only [Option.some.injEq] at h;exact⟨_,hl,h⟩
 ·rename_i j' es hl;exact⟨_,hl,h⟩
theorem QE.spec {w:World} {ro:Nat→Prop} {θ:Nat→Nat×Nat} {κ:Nat→Nat} {oP:List RK} {ys:List Int} {e:Ending} {w':World} (h:QE ⟨w,ro,0,θ,κ⟩ oP [] 0 ys e w') :
 ∃u,e= .returned u∧Below w.heap.size w w'∧∃ro':Nat→Prop,(∀b,ro b→ro' b)∧(∀b,ro' b→ro b∨w.heap.size≤b)∧(∀b,ro' b→b < w'.heap.size)∧ayX oP ys ro' w'.heap u:=by
 obtain⟨u,q1,q2,ro',q3,q4,q5,_,_,q6⟩:=h;exact⟨u,q1,⟨q2.os,q2.tape,q2.output,q2.size,fun k hk=>q2.blk k hk fun⟨i,hi,_⟩=>absurd hi (by show ¬i < 0; omega)⟩,ro',q3,q4,q5,q6⟩
theorem Bel.refl {B:qY}:Bel B B.w0:=⟨rfl,rfl,rfl,Nat.le_refl _,fun _ _ _=>rfl⟩
theorem Ig.grow {E:En} {s:St} {w:World} {vals:List Value} (f:Ig E s { tmps:=vals.toArray,defers:=[] } w) (n:Nat):Ig E s { tmps:=vals.toArray++Array.replicate n undef,defers:=[] } w:=by refine⟨f.fresh,f.res,f.live,f.inj,f.BO,fun t v ht=>?_,f.pc⟩;obtain⟨u,h1,h2⟩:=f.sr t v ht;refine⟨u,?_,h2⟩;have hlt:=(Array.getElem?_eq_some_iff.1 h1).1;show (vals.toArray++Array.replicate n undef)[t]?=some u;rw [Array.getElem?_append_left hlt];exact h1
theorem alI (hs:PZ S): ∀n:Nat,aA7 S n∧LoopN S n
 | 0=> ⟨fun g j e _ _=>by
  cases e.pat with
  | none=>exact fun xs ys h=>by simp [fA] at h
  | some q=>
    obtain⟨c,dY,ko⟩:=q
    cases e.wK with
    | nil=>exact fun xs ys h=>by simp [fA] at h
    | cons r rs=>exact fun xs ys h=>by simp [fA] at h,fun j e p c _ _ _ _ fn body b fr _ _ _ B E a w xs ys _ h=>by simp [fA] at h⟩
 | n+1=>by
   obtain⟨ih1,ih2⟩:=alI hs n;letI I:=S.G.glob (fA S.tree n);have hcall:=ayK hs ih1;have asT: ∀(e:Il) (fn:Func),abL S.P (S.cfg e fn) (S.chk e.g):=fun e fn=> ⟨hs.tt,hcall,hs.draw I S.call hcall e.g⟩;constructor
   ·intro g j e hn he;obtain⟨hg,hpos,hnum⟩:=hs.num g j e hn he;obtain⟨hlo,hko,_⟩:=hs.outs j e he;have SX:S.tree j=sH S e:=by unfold Sys.tree; rw [he]
    cases hpat:e.pat with
    | none=>
      rw [hpat] at hnum;simp only at hnum ⊢;intro xs ys hx ro w vals fl hro hgb sh hc;obtain⟨lf,h1,h2⟩:=Vf hx;rw [SX] at h1;unfold sH at h1
      cases hfn:S.ft e.g with
      | none=>rw [hfn] at h1; simp [T.leaf] at h1
      | some fn=>
        rw [hfn] at h1
        cases hb:fn.body with
        | none=>simp only [hb] at h1; simp [T.leaf] at h1
        | some body=>
          simp only [hb,hpos,hpat] at h1;obtain⟨hf,_,hd⟩:=hs.ft e.g fn hfn;rw [hg] at hf;have hdst:=hd body hb;have hlx:=hc.length.1;have hob:e.dY= []:=by unfold Il.dY; rw [hpat]
          have hk0:e.ko=0:=by unfold Il.ko; rw [hpat]
          have hvr:bJ (En.zero (bM (fA S.tree n) (low xs)) ro) w.heap (vW e.PX .aP 0) vals:=by refine yO sh hc fun k x hk=>?_;have hkl:=(List.getElem?_eq_some_iff.1 hk).1;rw [Nat.zero_add];show bM _ _ k=x;rw [wC (by omega)];unfold low;rw [List.getD_eq_getElem?_getD,hk];rfl
          have hgl:I.ok (bM (fA S.tree n) (low xs)) ro w.heap:=⟨hgb,nV _ _⟩;let B:qY:=⟨w,ro,0,fun _=>(0,0),fun _=>0⟩
          have t0:qX B (En.zero (bM (fA S.tree n) (low xs)) ro) ⟨bD (vW e.PX .aP 0) 0 .nil,Hp.zero,[]⟩ { tmps:=vals.toArray++Array.replicate (fn.ntmps - vals.toArray.size) undef,defers:=[] } w:=by
           have fit:Fit (En.zero (bM (fA S.tree n) (low xs)) ro) ⟨bD (vW e.PX .aP 0) 0 .nil,Hp.zero,[]⟩ { tmps:=vals.toArray++Array.replicate (fn.ntmps - vals.toArray.size) undef,defers:=[] } w:=
            ⟨WB _ ro w hro hgl,GK hvr _,by intro c b h; simp at h⟩
           exact⟨fit.x,fun _ h=>h,fun _ h=> .inl h,Bel.refl,fun id o h=>by simp [Hp.zero,Hp.get,Tr.get] at h,fun i hi=>absurd hi (by show ¬i < 0; omega)⟩
          refine Calls.mono (calls_of_wp (R:=QX B e.oP e.dY e.ko e.wK ys) hf hb ?_) fun e' w' hq=>QE.spec (w:=w) (ro:=ro) (θ:=fun _=>(0,0)) (κ:=fun _=>0) (by rw [hob,hk0,hnum.2] at hq; exact hq);exact (Vl (B:=B) (asT e fn) hdst rfl (by show e.dY.length=0; rw [hob]; rfl) hlo hko (ZQ hs ih2 he hfn hb B (by show e.dY.length=0; rw [hob]; rfl) ys) 1000).1 [] body [] _ lf _ _ w rfl h1 h2 t0 hgl (by simp; omega) rfl
    | some q=>
      obtain⟨c,dY,ko⟩:=q;rw [hpat] at hnum;simp only at hnum ⊢;obtain⟨aEz,hc9,hom,hrp⟩:=hnum
      have main: ∀xs ys,fA S.tree (n+1) j xs=some ys→∀(E:En) (w:World) (vals:List Value),(∀i x,xs[i]?=some x→E.ρ i=x)→xs.length=c.k→Ig E c.st { tmps:=vals.toArray,defers:=[] } w→S.G.ok E.ro w.heap→
       Calls S.P g vals.toArray w (QX ⟨w,E.ro,c.objs.length,E.θ,E.κ⟩ e.oP dY ko e.wK ys):=?_
      ·cases Kw:e.wK with
       | nil=> simp only;intro xs ys hx E w vals hxs hlen fx hgb;have:=main xs ys hx E w vals hxs hlen fx hgb;rw [Kw] at this;exact this
       | cons r0 rs=> simp only;intro xs ys hx E w vals hxs hlen fx hgb;have:=main xs ys hx E w vals hxs hlen fx hgb;rw [Kw] at this;exact this
      intro xs ys hx E w vals hxs hlen fx hgb;obtain⟨lf,h1,h2⟩:=Vf hx;rw [SX] at h1;unfold sH at h1
      cases hfn:S.ft e.g with
      | none=>rw [hfn] at h1; simp [T.leaf] at h1
      | some fn=>
        rw [hfn] at h1
        cases hb:fn.body with
        | none=>simp only [hb] at h1; simp [T.leaf] at h1
        | some body=>
          simp only [hb,hpos,hpat] at h1;obtain⟨hf,_,hd⟩:=hs.ft e.g fn hfn;rw [hg] at hf;have hdst:=hd body hb;have hob:e.dY=dY:=by unfold Il.dY; rw [hpat]
          have hk0:e.ko=ko:=by unfold Il.ko; rw [hpat]
          let B:qY:=⟨w,E.ro,c.objs.length,E.θ,E.κ⟩
          have aF6: ∀id o,c.st.h.get id=some o→id < c.objs.length:=by
           intro id o ho;have:(vV c.objs 0 .nil).get id=some o:=ho;rw [mY] at this;split at this
           ·omega
           ·simp [Tr.get] at this
          have aF4: ∀id,id < c.objs.length→∃o,c.st.h.get id=some o:=by intro id hid;refine⟨c.objs[id],?_⟩;show (vV c.objs 0 .nil).get id=_;rw [mY,if_pos (by omega)];simp
          have t1:qX B E c.st { tmps:=vals.toArray++Array.replicate (fn.ntmps - vals.toArray.size) undef,defers:=[] } w:=by refine⟨fx.grow _,fun _ h=>h,fun _ h=> .inl h,Bel.refl,fun id o h=> .inr ⟨id,aF6 id o h,rfl⟩,fun i hi=>?_⟩;obtain⟨o,ho⟩:=aF4 i hi;exact⟨(fx.live i o ho).1,rfl,rfl⟩
          have t0:=t1.low (ρ':=bM (fA S.tree n) (low xs)) aEz (anK hxs hlen hc9);have hgl:I.ok (bM (fA S.tree n) (low xs)) E.ro w.heap:=⟨hgb,nV _ _⟩;have hm:e.dY.length=B.m:=by rw [hob]; exact hom
          have hw:=(Vl (B:=B) (asT e fn) hdst rfl hm hlo hko (ZQ hs ih2 he hfn hb B hm ys) 1000).1 [] body [] _ lf { E with ρ:=bM (fA S.tree n) (low xs) } _ w rfl h1 h2 t0 hgl (by simp; omega) rfl;have hw':=calls_of_wp (R:=QX B e.oP e.dY e.ko e.wK ys) hf hb hw;rw [hob,hk0] at hw';exact hw'
   ·intro j e p c he hpos hlow h9 fn body b fr hfn hb hl B E a w xs ys hm hx hxs hlen t hgb hN hdf;obtain⟨hlo,hko,_⟩:=hs.outs j e he;obtain⟨lf,h1,h2⟩:=Vf hx;have SX:S.tree j=sH S e:=by unfold Sys.tree; rw [he]
    rw [SX] at h1;unfold sH at h1;simp only [hfn,hb,hpos,hl] at h1;obtain⟨hf,_,hd⟩:=hs.ft e.g fn hfn;have hdst:=hd body hb;have t':=t.low (ρ':=bM (fA S.tree n) (low xs)) hlow (anK hxs hlen h9);have hgl:I.ok (bM (fA S.tree n) (low xs)) E.ro w.heap:=⟨hgb,nV _ _⟩;refine ZJ ?_;obtain⟨s2,t2,h1'⟩:=Um (E:={ E with ρ:=bM (fA S.tree n) (low xs) }) h1 t';exact (Vl (B:=B) (asT e fn) hdst rfl hm hlo hko (ZQ hs ih2 he hfn hb B hm ys) 1000).1 (0 :: p) b (.loop p b :: fr) s2 lf { E with ρ:=bM (fA S.tree n) (low xs) } a w (by simp only [uU,hl]) h1' h2 t2 hgl hN hdf
theorem alH (hs:PZ S) {g j:Nat} {e:Il} (hn:j∈S.nums g) (he:S.ents j=some e) (hp:e.pat=none) (n:Nat):atL S.P S.G.ok g e.PX e.oP (fA S.tree n j):=by have:=(alI hs n).1 g j e hn he;rw [hp] at this;exact this
end
end Go.As
end
section
namespace Go.As
open Go.RowKit
def JV:List (Nat×Nat)→Nat→Option Nat
 | [],_=>none
 | (t,k) :: l,x=>match Nat.beq t x with
   | true=>some k
   | false=>JV l x
def Xn (l:List (Nat×Nat)) (tt:TT):TT:=fun t=>match tt t with
 | some i=>some { i with own:=JV l t }
 | none=>none
section
variable {P:Program}
theorem avQ {l:List (Nat×Nat)} {tt:TT} (h:eP P tt):eP P (Xn l tt):=by
 intro t i hi;unfold Xn at hi;split at hi
 ·rename_i j hj;simp only [Option.some.injEq] at hi;subst hi;obtain⟨h1,h2⟩:=h t j hj;exact⟨h1,h2⟩
 ·simp at hi
theorem ZO (l:List (Nat×Nat)) (tt:TT):kindOf (Xn l tt)=kindOf tt:=by
 funext op;cases op
 case convert t u x=>
  simp only [kindOf,Xn]
  cases ht:tt t with
  | none=>rfl
  | some i=>
    simp only
    cases i.kind with
    | slice e=>
      simp only
      cases hu:tt u with
      | none=>rfl
      | some j=>rfl
    | _=>rfl
 all_goals rfl
theorem SN (l:List (Nat×Nat)) (tt:TT) (all:List Oper) (ms:List Nat): ∀(os:List Oper) (i n:Nat),items (Xn l tt) all ms os i n=items tt all ms os i n
 | [],_,_=>rfl
 | o :: os,i,n=>by simp only [items,ZO,SN l tt all ms os]
theorem alO (l:List (Nat×Nat)) (tt:TT) (all:List Oper):stat (Xn l tt) all=stat tt all:=by
 unfold stat
 simp only [SN]
theorem asR (l:List (Nat×Nat)) (tt:TT) (H:Nat→Nat→Option Uh):V7 (Xn l tt) H=V7 tt H:=by funext g id all;unfold V7;simp only [CG,alO]
end
end Go.As
end
section
namespace Go.As
open Go.RowKit
structure FE where
 no:Nat
 g:Nat
 PX:List RK
 oP:List RK
 pat:Option (CS×List dW×Nat):=none
 wK:List CS:=[]
 gh:List (Nat×Nat):=[]
 wh:List Nat:=[]
 jV:Nat:=0
 tst:List (Nat×Nat):=[]
 fz:List (Nat×Nat×Nat):=[]
 loops:List (List Nat×CS):=[]
def idxs (p:List Nat):List (List Nat×CS)→Nat→List (Nat×CS)
 | [],_=>[]
 | (q,c) :: l,j=>match jH q p with
   | true=>(j,c) :: idxs p l (j+1)
   | false=>idxs p l (j+1)
def FE.tabs (f:FE):KG:=fun p=>match idxs p f.loops (f.no+1) with
 | []=>none
 | x :: l=>some (x :: l)
def FE.ent (f:FE):Il:=⟨f.g,f.PX,f.oP,f.tabs,none,f.pat,f.wK,f.gh,f.wh,f.jV,f.tst,f.fz⟩
def Bj (t:Nat→Option FE) (j:Nat):Option Il:=match t (j / 50) with
 | none=>none
 | some f=>match j % 50 with
   | 0=>some f.ent
   | i+1=>match gQ f.loops i with
     | some x=>some { f.ent with pos:=some x }
     | none=>none
def anY:Option (Code×List FrE)→Bool
 | some (c,_)=>match c with
   | .loop _=>true
   | _=>false
 | none=>false
def Va (jV:Nat) (body:Code) (x:List Nat×CS):Bool:=anY (uU body x.1) && CZ x.2.k x.2 && Nat.ble x.2.k 900 && Nat.ble jV x.2.k
def aEa {α:Type}:List α→Bool
 | []=>true
 | _=>false
def aoY (ft:Nat→Option Func) (k:Nat) (f:FE):Bool:=Nat.beq f.no (50*k) && Nat.blt f.loops.length 50 && Nat.ble f.jV 900 &&
 (match f.pat with
  | none=>Nat.ble (uP f.PX).length 900 && aEa f.wK
  | some (c,dY,ko)=>CZ c.k c && Nat.ble c.k 900 && Nat.beq dY.length c.objs.length && Ry f.wK && qU ko dY && Nat.ble ko 900) &&
 (match ft f.g with
  | some fn=>match fn.body with
    | some body=>f.loops.all (Va f.jV body)
    | none=>false
  | none=>false)
def Xr (ft:Nat→Option Func) (t:Nat→Option FE) (g:Nat) (l:List Nat):Bool:=
 l.all fun j=>Nat.beq (j % 50) 0 && match t (j / 50) with
  | some f=>Nat.beq f.g g && (match ft g with
    | some fn=>fn.body.isSome
    | none=>false)
  | none=>false
theorem OU: ∀{a b:List Nat},jH a b=true→a=b
 | [],[],_=>rfl
 | [],_ :: _,h=>by simp [jH] at h
 | _ :: _,[],h=>by simp [jH] at h
 | a :: x,b :: y,h=>by
   simp only [jH] at h;split at h
   ·rename_i h1;rw [Nat.eq_of_beq_eq_true h1,OU h]
   ·simp at h
theorem GL {p:List Nat}: ∀{l:List (List Nat×CS)} {n j:Nat} {c:CS},(j,c)∈idxs p l n→∃i,l[i]?=some (p,c)∧j=n+i
 | [],n,j,c,h=>by simp [idxs] at h
 | (q,c0) :: l,n,j,c,h=>by
   simp only [idxs] at h;split at h
   ·rename_i hq;rcases List.mem_cons.1 h with h | h
    ·simp only [Prod.mk.injEq] at h;obtain⟨rfl,rfl⟩:=h;exact⟨0,by rw [OU hq]; rfl,rfl⟩
    ·obtain⟨i,h1,h2⟩:=GL h;exact⟨i+1,by simpa using h1,by omega⟩
   ·obtain⟨i,h1,h2⟩:=GL h;exact⟨i+1,by simpa using h1,by omega⟩
structure aiK where
 P:Program
 G:YK
 tt:TT
 ft:Nat→Option Func
 chk:Nat→Nat→List Oper→Bool
 draw:dU→Nat→Nat→List Oper→St→T St
 EC:Nat→Option (List AV→St→T (AV×St))
 t:Nat→Option FE
 nums:Nat→List Nat
noncomputable def aiK.sys (S:aiK):Sys:=⟨S.P,S.G,S.tt,S.ft,S.chk,S.draw,S.EC,40,60,S.nums,Bj S.t⟩
theorem OV {t:Nat→Option FE} {j:Nat} {e:Il} (h:Bj t j=some e): ∃f pos,t (j / 50)=some f∧e= { f.ent with pos:=pos }:=by
 unfold Bj at h;split at h
 ·simp at h
 ·rename_i f hf;split at h
  ·simp only [Option.some.injEq] at h;exact⟨f,none,hf,h.symm⟩
  ·split at h
   ·rename_i x hx;simp only [Option.some.injEq] at h;exact⟨f,some x,hf,h.symm⟩
   ·simp at h
theorem auU {S:aiK} (h1:eP S.P S.tt) (h2:aiM S.P S.chk S.ft) (h3: ∀(I:Glob) call,@jU I S.P call→∀g,@Dp I S.P (S.chk g) (S.draw call g)) (h4: ∀(I:Glob),(∀ρ ro h,I.ok ρ ro h→S.G.ok ro h)→∀g h,S.EC g=some h→@mP I S.P g h)
 (h5: ∀k f,S.t k=some f→aoY S.ft k f=true) (h6: ∀g,Xr S.ft S.t g (S.nums g)=true):PZ S.sys where
 tt:=h1
 ft:=h2
 draw:=h3
 EC:=h4
 run:=by
  intro g j hj args w;have hn:=h6 g;unfold Xr at hn;have:=List.all_eq_true.1 hn j hj;simp only [Bool.and_eq_true] at this;obtain⟨_,h⟩:=this;split at h
  ·simp only [Bool.and_eq_true] at h;obtain⟨_,h⟩:=h;split at h
   ·rename_i fn hfn;obtain⟨q1,q2,_⟩:=h2 g fn hfn;obtain⟨c,hb⟩:=Option.isSome_iff_exists.1 h;unfold callFunc;simp [aiK.sys,q1,hb,by simpa using q2]
   ·simp at h
  ·simp at h
 num:=by
  intro g j e hj he;have hn:=h6 g;unfold Xr at hn;have:=List.all_eq_true.1 hn j hj;simp only [Bool.and_eq_true] at this;obtain⟨hm,h⟩:=this;have hm:=Nat.eq_of_beq_eq_true hm;have he':Bj S.t j=some e:=he;unfold Bj at he';split at h
  ·rename_i f hf;rw [hf,hm] at he';simp only [Option.some.injEq] at he';subst he';simp only [Bool.and_eq_true] at h;have hok:=h5 _ _ hf;unfold aoY at hok;simp only [Bool.and_eq_true] at hok;obtain⟨⟨_,hp⟩,_⟩:=hok;refine⟨Nat.eq_of_beq_eq_true h.1,rfl,?_⟩
   show (match f.pat with
    | none=>_
    | some (c,dY,_)=>_)
   cases hpat:f.pat with
   | none=>
     rw [hpat] at hp;simp only [Bool.and_eq_true] at hp;refine⟨Nat.le_of_ble_eq_true hp.1,?_⟩;show f.wK= []
     cases hr:f.wK with
     | nil=>rfl
     | cons a l=>rw [hr] at hp; simp [aEa] at hp
   | some q=> obtain⟨c,dY,ko⟩:=q;rw [hpat] at hp;simp only [Bool.and_eq_true] at hp;obtain⟨⟨⟨⟨⟨p1,p2⟩,p3⟩,p4⟩,_⟩,_⟩:=hp;exact⟨p1,Nat.le_of_ble_eq_true p2,Nat.eq_of_beq_eq_true p3,fun _=>p4⟩
  ·simp at h
 outs:=by
  intro j e he;obtain⟨f,pos,hf,rfl⟩:=OV he;have hok:=h5 _ _ hf;unfold aoY at hok;simp only [Bool.and_eq_true] at hok;obtain⟨⟨⟨_,hg⟩,hp⟩,_⟩:=hok;refine⟨?_,?_,Nat.le_of_ble_eq_true hg⟩
  ·unfold Il.dY Il.ko;show qU (match f.pat with | none=>0 | some (_,_,k)=>k) (match f.pat with | none=>[] | some (_,o,_)=>o)=true
   cases hpat:f.pat with
   | none=>rfl
   | some q=> obtain⟨c,dY,ko⟩:=q;rw [hpat] at hp;simp only [Bool.and_eq_true] at hp;exact hp.1.2
  ·unfold Il.ko;show (match f.pat with | none=>0 | some (_,_,k)=>k)≤900
   cases hpat:f.pat with
   | none=>exact Nat.zero_le _
   | some q=> obtain⟨c,dY,ko⟩:=q;rw [hpat] at hp;simp only [Bool.and_eq_true] at hp;exact Nat.le_of_ble_eq_true hp.2
 ents:=by
  intro j e he fn body hfn hb;obtain⟨f,pos,hf,rfl⟩:=OV he;have hok:=h5 _ _ hf;unfold aoY at hok;simp only [Bool.and_eq_true] at hok;obtain⟨⟨⟨⟨hno,hlen⟩,_⟩,_⟩,hl⟩:=hok;have hno:=Nat.eq_of_beq_eq_true hno;have hlen:f.loops.length < 50:=Nat.lt_of_succ_le (by simpa [Nat.blt] using hlen);have hfn':S.ft f.g=some fn:=hfn;rw [hfn'] at hl;simp only [hb] at hl;intro p l hp;have hp':f.tabs p=some l:=hp
  have hl0:l=idxs p f.loops (f.no+1)∧l≠[]:=by
   unfold FE.tabs at hp';split at hp'
   ·simp at hp'
   ·rename_i x l' hx;simp only [Option.some.injEq] at hp';rw [hx,hp'];exact⟨rfl,by rw [← hp']; simp⟩
  have hat: ∀i c,f.loops[i]?=some (p,c)→Va f.jV body (p,c)=true:=fun i c hi=>List.all_eq_true.1 hl _ (List.mem_of_getElem? hi);constructor
  ·obtain⟨hl1,hl2⟩:=hl0
   cases hc:l with
   | nil=>exact absurd hc hl2
   | cons x l'=>
     obtain⟨j',c⟩:=x;have:(j',c)∈idxs p f.loops (f.no+1):=by rw [← hl1,hc]; simp
     obtain⟨i,hi,_⟩:=GL this;have:=hat i c hi;unfold Va at this;simp only [Bool.and_eq_true] at this;have hi:=this.1.1.1;unfold anY at hi;split at hi
     ·rename_i c' fr heq;split at hi
      ·rename_i b;exact⟨b,fr,heq⟩
      ·simp at hi
     ·simp at hi
  ·intro j' c hc;rw [hl0.1] at hc;obtain⟨i,hi,rfl⟩:=GL hc;have hil:=(List.getElem?_eq_some_iff.1 hi).1;have:=hat i c hi;unfold Va at this;simp only [Bool.and_eq_true] at this;obtain⟨⟨⟨_,q1⟩,q2⟩,q3⟩:=this;refine⟨?_,q1,Nat.le_of_ble_eq_true q2,Nat.le_of_ble_eq_true q3⟩;show Bj S.t (f.no+1+i)=_;have hd:(f.no+1+i) / 50=j / 50:=by rw [hno]; omega
   have hm:(f.no+1+i) % 50=i+1:=by rw [hno]; omega
   unfold Bj;rw [hd,hf,hm];simp only;rw [dB,hi]
end Go.As
end
section
namespace Go.As
open Go.RowKit
def u8L (l:List Int):List AV:=l.map fun n=> .int .u8 (.lit n)
noncomputable section
def a0 (j:Nat) (l:List SE):SE:=.ap (2*j) (iK l)
def a1 (j:Nat) (l:List SE):SE:=.ap (2*j+1) (iK l)
def rr (j:Nat) (l:List SE) (i:Nat):SE:=uN (.ap (2*j+1) (iK l)) i
def nm (x:SE):SE:=.op .num x (.lit 0)
def mk (x:SE):SE:=.op .mk x (.lit 0)
def ln (x:SE):SE:=.op .len x (.lit 0)
def ce (j:Nat) (x:SE):SE:=.op (.cell j) x (.lit 0)
def el (x y:SE):SE:=.op .at x y
def cn (x y:SE):SE:=.op .cons x y
def wr (x:SE):SE:=.wrap .i64 x
def sp (c:SB) (a b:T Lf):T Lf:=.split c a b
def ou (l:List SE):T Lf:=.ret (.out l)
def ju (j:Nat) (l:List SE):T Lf:=.ret (.jump j l)
def fl:T Lf:=.fail
end
end Go.As
end
section
namespace Go.As
open Go.RowKit
def Eh (kn:List (Nat×SE)):SE→Bool
 | .ap f a=>Eh kn a && kn.any fun p=>Nat.beq f (2*p.1+1) && gI a p.2
 | .op _ a b=>Eh kn a && Eh kn b
 | .add a b=>Eh kn a && Eh kn b
 | .sub a b=>Eh kn a && Eh kn b
 | .mul a b=>Eh kn a && Eh kn b
 | .quo a b=>Eh kn a && Eh kn b
 | .rem a b=>Eh kn a && Eh kn b
 | .wrap _ a=>Eh kn a
 | .inp _ _=>false
 | .lit _=>true
 | .dat _=>true
 | .aP i=>Nat.blt i 900
def okC (kn:List (Nat×SE)):SB→Bool
 | .lit _=>true
 | .lt a b=>Eh kn a && Eh kn b
 | .le a b=>Eh kn a && Eh kn b
 | .eq a b=>Eh kn a && Eh kn b
 | .not a=>okC kn a
 | .and a b=>okC kn a && okC kn b
def callOf:SB→Option (Nat×SE)
 | .eq x y=>match x with
   | .ap f a=>match y with
     | .lit n=>match Ci n 1 && Nat.beq (f % 2) 0 with
       | true=>some (f / 2,a)
       | false=>none
     | _=>none
   | _=>none
 | _=>none
def aBW:T Lf→Bool
 | .fail=>true
 | _=>false
def amR (kn:List (Nat×SE)):List SE→Bool
 | []=>true
 | e :: l=>Eh kn e && amR kn l
def YR (kn:List (Nat×SE)):T Lf→Bool
 | .fail=>true
 | .ret l=>match l with
   | .out es=>amR kn es
   | .jump _ es=>amR kn es
 | .split c x y=>match callOf c with
   | some p=>Eh kn p.2 && YR (p :: kn) x && aBW y
   | none=>okC kn c && YR kn x && YR kn y
inductive RS where
 | no
 | out (ys:List Int)
 | jump (j:Nat) (xs:List Int)
noncomputable def eG (ρ:Nat→Int):T Lf→RS
 | .fail=> .no
 | .ret l=>match l with
   | .out es=> .out (es.map (SE.den ρ))
   | .jump j es=> .jump j (es.map (SE.den ρ))
 | .split c x y=>if c.den ρ=true then eG ρ x else eG ρ y
theorem Gh {tree:Nat→T Lf} {n j:Nat} {xs:List Int}:fA tree (n+1) j xs=match eG (bM (fA tree n) (low xs)) (tree j) with
 | .no=>none
 | .out ys=>some ys
 | .jump j' xs'=>fA tree n j' xs':=by
 have: ∀t:T Lf,(match t.leaf (bM (fA tree n) (low xs)) with
  | none=>none
  | some (.out es)=>some (es.map (SE.den (bM (fA tree n) (low xs))))
  | some (.jump j' es)=>fA tree n j' (es.map (SE.den (bM (fA tree n) (low xs)))))=match eG (bM (fA tree n) (low xs)) t with
  | .no=>none
  | .out ys=>some ys
  | .jump j' xs'=>fA tree n j' xs':=by
  intro t
  induction t with
  | fail=>rfl
  | ret l=>cases l <;> rfl
  | split c x y ihx ihy=>
    simp only [T.leaf,eG]
    cases hc:c.den (bM (fA tree n) (low xs)) with
    | true=>simpa [hc] using ihx
    | false=>simpa [hc] using ihy
 exact this (tree j)
def Fle (F F':uH):Prop:= ∀j xs ys,F j xs=some ys→F' j xs=some ys
def Kn (F F':uH) (lo:Nat→Int) (kn:List (Nat×SE)):Prop:= ∀p∈kn,p.2.den (bM F lo)=p.2.den (bM F' lo)∧∃xs ys,p.2.den (bM F lo)=qK xs∧F p.1 xs=some ys
theorem TA {F:uH} {lo:Nat→Int} {j:Nat} {z:Int} (h:bM F lo (kJ (2*j) z)=1): ∃xs ys,z=qK xs∧F j xs=some ys:=by
 have h1:=Dk (2*j) z;unfold bM at h;rw [if_neg (by omega)] at h;split at h
 ·rename_i hp;obtain⟨q1,q2⟩:=zD hp.choose_spec;have q1:hp.choose.1=j:=by omega
  split at h
  ·rename_i hs;obtain⟨ys,hy⟩:=Option.isSome_iff_exists.1 hs;refine⟨hp.choose.2,ys,q2,?_⟩;generalize hp.choose=q at q1 hy;subst q1;exact hy
  ·omega
 ·split at h
  ·rename_i hp;have:=(zD hp.choose_spec).1;omega
  ·omega
section
variable {F F':uH} {lo:Nat→Int}
theorem iC (hF:Fle F F') {kn:List (Nat×SE)} (hk:Kn F F' lo kn): ∀{e:SE},Eh kn e=true→e.den (bM F lo)=e.den (bM F' lo)
 | .ap f a,h=>by simp only [Eh,Bool.and_eq_true] at h;have ha:=iC hF hk h.1;obtain⟨p,hp,hq⟩:=List.any_eq_true.1 h.2;simp only [Bool.and_eq_true] at hq;have h1:=Nat.eq_of_beq_eq_true hq.1;have h2:=bW _ _ hq.2;subst h2;obtain⟨k1,xs,ys,k2,k3⟩:=hk p hp;simp only [SE.den];rw [← k1,k2,h1,(nV F lo p.1 xs).2,(nV F' lo p.1 xs).2,k3,hF _ _ _ k3]
 | .op o a b,h=>by simp only [Eh,Bool.and_eq_true] at h; simp only [SE.den,iC hF hk h.1,iC hF hk h.2]
 | .add a b,h=>by simp only [Eh,Bool.and_eq_true] at h; simp only [SE.den,iC hF hk h.1,iC hF hk h.2]
 | .sub a b,h=>by simp only [Eh,Bool.and_eq_true] at h; simp only [SE.den,iC hF hk h.1,iC hF hk h.2]
 | .mul a b,h=>by simp only [Eh,Bool.and_eq_true] at h; simp only [SE.den,iC hF hk h.1,iC hF hk h.2]
 | .quo a b,h=>by simp only [Eh,Bool.and_eq_true] at h; simp only [SE.den,iC hF hk h.1,iC hF hk h.2]
 | .rem a b,h=>by simp only [Eh,Bool.and_eq_true] at h; simp only [SE.den,iC hF hk h.1,iC hF hk h.2]
 | .wrap k a,h=>by simp only [Eh] at h; simp only [SE.den,iC hF hk h]
 | .inp _ _,h=>by simp [Eh] at h
 | .lit _,_=>rfl
 | .dat _,_=>rfl
 | .aP i,h=>by have hi:i < 900:=Nat.lt_of_succ_le (by simpa [Eh,Nat.blt] using h);simp only [SE.den];rw [wC hi,wC hi]
theorem Gt (hF:Fle F F') {kn:List (Nat×SE)} (hk:Kn F F' lo kn): ∀{c:SB},okC kn c=true→c.den (bM F lo)=c.den (bM F' lo)
 | .lit _,_=>rfl
 | .lt a b,h=>by simp only [okC,Bool.and_eq_true] at h; simp only [SB.den,iC hF hk h.1,iC hF hk h.2]
 | .le a b,h=>by simp only [okC,Bool.and_eq_true] at h; simp only [SB.den,iC hF hk h.1,iC hF hk h.2]
 | .eq a b,h=>by simp only [okC,Bool.and_eq_true] at h; simp only [SB.den,iC hF hk h.1,iC hF hk h.2]
 | .not a,h=>by simp only [okC] at h; simp only [SB.den,Gt hF hk h]
 | .and a b,h=>by simp only [okC,Bool.and_eq_true] at h; simp only [SB.den,Gt hF hk h.1,Gt hF hk h.2]
theorem BX (hF:Fle F F') {kn:List (Nat×SE)} (hk:Kn F F' lo kn): ∀{es:List SE},amR kn es=true→es.map (SE.den (bM F lo))=es.map (SE.den (bM F' lo))
 | [],_=>rfl
 | e :: l,h=>by simp only [amR,Bool.and_eq_true] at h;simp only [List.map_cons,iC hF hk h.1,BX hF hk h.2]
theorem J4 {c:SB} {p:Nat×SE} (h:callOf c=some p):c= .eq (.ap (2*p.1) p.2) (.lit 1):=by
 cases c with
 | eq x y=>
   cases x with
   | ap f a=>
     cases y with
     | lit n=>
       simp only [callOf] at h;split at h
       ·rename_i hb;simp only [Option.some.injEq] at h;simp only [Bool.and_eq_true] at hb;have h1:=DU hb.1;have h2:=Nat.eq_of_beq_eq_true hb.2;subst h;show SB.eq (.ap f a) (.lit n)= .eq (.ap (2*(f / 2)) a) (.lit 1);rw [show 2*(f / 2)=f by omega,h1]
       ·simp at h
     | _=>simp [callOf] at h
   | _=>simp [callOf] at h
 | _=>simp [callOf] at h
theorem F5 (hF:Fle F F'): ∀{t:T Lf} {kn:List (Nat×SE)},Kn F F' lo kn→YR kn t=true→eG (bM F lo) t≠.no→eG (bM F' lo) t=eG (bM F lo) t
 | .fail,_,_,_,h=>absurd rfl h
 | .ret (.out es),_,hk,ho,_=>by simp only [YR] at ho; simp only [eG,BX hF hk ho]
 | .ret (.jump j es),_,hk,ho,_=>by simp only [YR] at ho; simp only [eG,BX hF hk ho]
 | .split c x y,kn,hk,ho,h=>by
   simp only [YR] at ho;split at ho
   ·rename_i p hp;simp only [Bool.and_eq_true] at ho;obtain⟨⟨h1,h2⟩,h3⟩:=ho;have hc:=J4 hp;subst hc
    have hy:y= .fail:=by cases y <;> simp [aBW] at h3 <;> rfl
    subst hy;have hd:=iC hF hk h1;simp only [eG,SB.den,SE.den] at h ⊢;by_cases h4:bM F lo (kJ (2*p.1) (p.2.den (bM F lo)))=1
    ·obtain⟨xs,ys,e1,e2⟩:=TA h4;have e3:=hF _ _ _ e2
     have h5:bM F' lo (kJ (2*p.1) (p.2.den (bM F' lo)))=1:=by rw [← hd,e1,(nV F' lo p.1 xs).1,e3];rfl
     have c4:(bM F lo (kJ (2*p.1) (p.2.den (bM F lo))) == 1)=true:=by rw [h4]; rfl
     have c5:(bM F' lo (kJ (2*p.1) (p.2.den (bM F' lo))) == 1)=true:=by rw [h5]; rfl
     simp only [c4,c5,if_true] at h ⊢;refine F5 hF (kn:=p :: kn) ?_ h2 h;intro q hq;rcases List.mem_cons.1 hq with rfl | hq
     ·exact⟨hd,xs,ys,e1,e2⟩
     ·exact hk q hq
    ·have c4:(bM F lo (kJ (2*p.1) (p.2.den (bM F lo))) == 1)=false:=by simpa using h4
     simp only [c4,Bool.false_eq_true,if_false] at h;exact absurd rfl h
   ·simp only [Bool.and_eq_true] at ho;obtain⟨⟨h1,h2⟩,h3⟩:=ho;have hc:=Gt hF hk h1;simp only [eG] at h ⊢;rw [← hc];by_cases h4:c.den (bM F lo)=true
    ·rw [if_pos h4] at h ⊢;rw [if_pos h4];exact F5 hF hk h2 h
    ·rw [if_neg h4] at h ⊢;rw [if_neg h4];exact F5 hF hk h3 h
end
section
variable {tree:Nat→T Lf} (hok: ∀j,YR [] (tree j)=true)
include hok
theorem Ru {n:Nat} {F':uH} (hF:Fle (fA tree n) F') {j:Nat} {xs ys:List Int} (h:fA tree (n+1) j xs=some ys) :
 (match eG (bM F' (low xs)) (tree j) with
 | .no=>none
 | .out ys=>some ys
 | .jump j' xs'=>F' j' xs')=some ys:=by
 rw [Gh] at h
 have hne:eG (bM (fA tree n) (low xs)) (tree j)≠.no:=by intro he;rw [he] at h;simp at h
 rw [F5 hF (kn:=[]) (by intro p hp; simp at hp) (hok j) hne];split at h
 ·simp at h
 ·rename_i heq; exact h
 ·rename_i heq; exact hF _ _ _ h
theorem Rw: ∀n,Fle (fA tree n) (fA tree (n+1))
 | 0=>fun j xs ys h=>by simp [fA] at h
 | n+1=>fun j xs ys h=>by rw [Gh (n:=n+1)];exact Ru hok (Rw n) h
theorem Gi {n m:Nat} (h:n≤m):Fle (fA tree n) (fA tree m):=by
 induction h with
 | refl=>exact fun _ _ _ h=>h
 | step _ ih=>exact fun j xs ys h=>Rw hok _ _ _ _ (ih _ _ _ h)
end
open Classical in
noncomputable def lim' (tree:Nat→T Lf):uH:=fun j xs=>if h: ∃n ys,fA tree n j xs=some ys then some h.choose_spec.choose else none
section
variable {tree:Nat→T Lf} (hok: ∀j,YR [] (tree j)=true)
include hok
theorem ZM {n j:Nat} {xs ys:List Int} (h:fA tree n j xs=some ys):lim' tree j xs=some ys:=by unfold lim';have he: ∃n ys,fA tree n j xs=some ys:=⟨n,ys,h⟩;rw [dif_pos he];have h2:=he.choose_spec.choose_spec;have h3:=Gi hok (Nat.le_max_left n he.choose) _ _ _ h;have h4:=Gi hok (Nat.le_max_right n he.choose) _ _ _ h2;rw [h3] at h4;exact h4.symm
omit hok in
theorem Ve {j:Nat} {xs ys:List Int} (h:lim' tree j xs=some ys): ∃n,fA tree n j xs=some ys:=by
 unfold lim' at h;split at h
 ·rename_i he;simp only [Option.some.injEq] at h;exact⟨he.choose,by rw [← h]; exact he.choose_spec.choose_spec⟩
 ·simp at h
theorem N9 (n:Nat):Fle (fA tree n) (lim' tree):=fun _ _ _ h=>ZM hok h
def KnS (tree:Nat→T Lf) (n0:Nat) (lo:Nat→Int) (kn:List (Nat×SE)):Prop:= ∀m,n0≤m→Kn (fA tree m) (lim' tree) lo kn
theorem BH {lo:Nat→Int}: ∀{t:T Lf} {kn:List (Nat×SE)} (n0:Nat),KnS tree n0 lo kn→YR kn t=true→eG (bM (lim' tree) lo) t≠.no→∃n,∀m,n≤m→eG (bM (fA tree m) lo) t=eG (bM (lim' tree) lo) t
 | .fail,_,_,_,_,h=>absurd rfl h
 | .ret (.out es),_,n0,hk,ho,_=> ⟨n0,fun m hm=>by simp only [YR] at ho; simp only [eG,BX (N9 hok m) (hk m hm) ho]⟩
 | .ret (.jump j es),_,n0,hk,ho,_=> ⟨n0,fun m hm=>by simp only [YR] at ho; simp only [eG,BX (N9 hok m) (hk m hm) ho]⟩
 | .split c x y,kn,n0,hk,ho,h=>by
   simp only [YR] at ho;split at ho
   ·rename_i p hp;simp only [Bool.and_eq_true] at ho;obtain⟨⟨h1,h2⟩,h3⟩:=ho;have hc:=J4 hp;subst hc
    have hy:y= .fail:=by cases y <;> simp [aBW] at h3 <;> rfl
    subst hy;have hd: ∀m,n0≤m→p.2.den (bM (fA tree m) lo)=p.2.den (bM (lim' tree) lo):=fun m hm=>iC (N9 hok m) (hk m hm) h1;simp only [eG,SB.den,SE.den] at h ⊢;by_cases h4:bM (lim' tree) lo (kJ (2*p.1) (p.2.den (bM (lim' tree) lo)))=1
    ·have c4:(bM (lim' tree) lo (kJ (2*p.1) (p.2.den (bM (lim' tree) lo))) == 1)=true:=by rw [h4]; rfl
     obtain⟨xs,ys,e1,e2⟩:=TA h4;obtain⟨n1,e3⟩:=Ve e2;simp only [c4,if_true] at h ⊢
     have hk2:KnS tree (max n0 n1) lo (p :: kn):=by
      intro m hm q hq;rcases List.mem_cons.1 hq with rfl | hq
      ·refine⟨hd m (by omega),xs,ys,by rw [hd m (by omega)]; exact e1,Gi hok (show n1≤m by omega) _ _ _ e3⟩
      ·exact hk m (by omega) q hq
     obtain⟨n2,h5⟩:=BH (max n0 n1) hk2 h2 h;refine⟨max (max n0 n1) n2,fun m hm=>?_⟩
     have c5:(bM (fA tree m) lo (kJ (2*p.1) (p.2.den (bM (fA tree m) lo))) == 1)=true:=by rw [hd m (by omega),e1,(nV (fA tree m) lo p.1 xs).1,Gi hok (show n1≤m by omega) _ _ _ e3];rfl
     simp only [c5,if_true];exact h5 m (by omega)
    ·have c4:(bM (lim' tree) lo (kJ (2*p.1) (p.2.den (bM (lim' tree) lo))) == 1)=false:=by simpa using h4
     simp only [c4,Bool.false_eq_true,if_false] at h;exact absurd rfl h
   ·simp only [Bool.and_eq_true] at ho;obtain⟨⟨h1,h2⟩,h3⟩:=ho;have hc: ∀m,n0≤m→c.den (bM (fA tree m) lo)=c.den (bM (lim' tree) lo):=fun m hm=>Gt (N9 hok m) (hk m hm) h1;simp only [eG] at h ⊢;by_cases h4:c.den (bM (lim' tree) lo)=true
    ·rw [if_pos h4] at h;obtain⟨n2,h5⟩:=BH n0 hk h2 h;refine⟨max n0 n2,fun m hm=>?_⟩;rw [hc m (by omega),if_pos h4,if_pos h4];exact h5 m (by omega)
    ·rw [if_neg h4] at h;obtain⟨n2,h5⟩:=BH n0 hk h3 h;refine⟨max n0 n2,fun m hm=>?_⟩;rw [hc m (by omega),if_neg h4,if_neg h4];exact h5 m (by omega)
noncomputable def fin (F:uH):RS→Option (List Int)
 | .no=>none
 | .out ys=>some ys
 | .jump j xs=>F j xs
theorem aBR (j:Nat) (xs:List Int):lim' tree j xs=fin (lim' tree) (eG (bM (lim' tree) (low xs)) (tree j)):=by
 cases h:lim' tree j xs with
 | some ys=>
   obtain⟨n,hn⟩:=Ve h
   cases n with
   | zero=>simp [fA] at hn
   | succ n=> have:=Ru hok (N9 hok n) hn;rw [← this];cases eG (bM (lim' tree) (low xs)) (tree j) <;> rfl
 | none=>
   cases hs:eG (bM (lim' tree) (low xs)) (tree j) with
   | no=>rfl
   | out ys=>
     exfalso;obtain⟨n,hn⟩:=BH hok (lo:=low xs) (t:=tree j) (kn:=[]) 0 (by intro m _ p hp; simp at hp) (hok j) (by rw [hs]; simp);have:fA tree (n+1) j xs=some ys:=by rw [Gh,hn n (Nat.le_refl _),hs]
     rw [ZM hok this] at h;simp at h
   | jump j' xs'=>
     show none=lim' tree j' xs'
     cases h2:lim' tree j' xs' with
     | none=>rfl
     | some ys=>
       exfalso;obtain⟨n,hn⟩:=BH hok (lo:=low xs) (t:=tree j) (kn:=[]) 0 (by intro m _ p hp; simp at hp) (hok j) (by rw [hs]; simp);obtain⟨n2,h3⟩:=Ve h2
       have:fA tree (max n n2+1) j xs=some ys:=by rw [Gh,hn _ (Nat.le_max_left _ _),hs];exact Gi hok (Nat.le_max_right n n2) _ _ _ h3
       rw [ZM hok this] at h;simp at h
end
end Go.As
end
section
namespace Go.As
open Go.RowKit
theorem afT {S:aiK} {j:Nat} (h:Bj S.t j=none):YR [] (S.sys.tree j)=true:=by
 have:S.sys.tree j= .fail:=by unfold Sys.tree;show (match Bj S.t j with | none=>T.fail | some e=>sH S.sys e)=_;rw [h]
 rw [this];rfl
def aoB (j:Nat):List Nat→Bool
 | []=>false
 | i :: l=>match Nat.beq i j with
   | true=>true
   | false=>aoB j l
theorem XF {j:Nat}: ∀{l:List Nat},aoB j l=true→j∈l
 | [],h=>by simp [aoB] at h
 | i :: l,h=>by
   simp only [aoB] at h;split at h
   ·rename_i hb;rw [Nat.eq_of_beq_eq_true hb];simp
   ·exact List.mem_cons_of_mem _ (XF h)
def aA0 (t:Nat→Option FE) (N:Nat) (l:List Nat):Bool:=(List.range N).all fun k=>match t k with
 | none=>true
 | some f=>(List.range (f.loops.length+1)).all fun i=>aoB (50*k+i) l
theorem cov {t:Nat→Option FE} {N:Nat} {l:List Nat} (h:aA0 t N l=true) (hN: ∀k,N≤k→t k=none) {j:Nat} {e:Il} (he:Bj t j=some e):j∈l:=by
 unfold Bj at he;split at he
 ·simp at he
 ·rename_i f hf
  have hk:j / 50 < N:=by
   rcases Nat.lt_or_ge (j / 50) N with h1 | h1
   ·exact h1
   ·rw [hN _ h1] at hf; simp at hf
  have:=List.all_eq_true.1 h _ (List.mem_range.2 hk);rw [hf] at this
  have hm:j % 50 < f.loops.length+1:=by
   split at he
   ·omega
   ·rename_i i hi;split at he
    ·rename_i x hx;rw [dB] at hx;have:=(List.getElem?_eq_some_iff.1 hx).1;omega
    ·simp at he
  have:=XF (List.all_eq_true.1 this _ (List.mem_range.2 hm));rwa [show 50*(j / 50)+j % 50=j by omega] at this
theorem anQ {α:Type} {n:Nat} {t:Tr α} {k:Nat} (h:n≤k):lim n t k=none:=by unfold lim;rw [Nat.ble_eq_true_of_le h]
section
variable {F:uH} {lo:Nat→Int} {ρ:Nat→Int} {xs:List Int}
theorem dS (c:SB) (a b:T Lf):eG ρ (sp c a b)=if c.den ρ=true then eG ρ a else eG ρ b:=rfl
theorem jQ (l:List SE):eG ρ (ou l)= .out (l.map (SE.den ρ)):=rfl
theorem oJ (j:Nat) (l:List SE):eG ρ (ju j l)= .jump j (l.map (SE.den ρ)):=rfl
theorem zO:eG ρ fl= .no:=rfl
theorem aW {i:Nat} (h:i < 900):(SE.aP i).den (bM F lo)=lo i:=wC h
theorem aN (x:Int):low (x :: xs) 0=x:=rfl
theorem aO (x:Int) (i:Nat):low (x :: xs) (i+1)=low xs i:=rfl
theorem bK (n:Int):(SE.lit n).den ρ=n:=rfl
theorem iU (d:D):(SE.dat d).den ρ=enc d:=rfl
theorem den_add (a b:SE):(SE.add a b).den ρ=a.den ρ+b.den ρ:=rfl
theorem ayH (a b:SE):(SE.sub a b).den ρ=a.den ρ - b.den ρ:=rfl
theorem CY (a:SE):(wr a).den ρ=IntKind.i64.wrap (a.den ρ):=rfl
theorem Jh (a:SE):(nm a).den ρ=(dec (a.den ρ)).n:=rfl
theorem O9 (a:SE):(mk a).den ρ=enc (.i (a.den ρ)):=rfl
theorem iE (a:SE):(ln a).den ρ=((dec (a.den ρ)).l.length:Int):=rfl
theorem asB (j:Nat) (a:SE):(ce j a).den ρ=enc ((dec (a.den ρ)).hd j):=rfl
theorem Ji (a b:SE):(el a b).den ρ=enc ((dec (a.den ρ)).at (b.den ρ)):=rfl
theorem Pg (a b:SE):(cn a b).den ρ=enc (.p (dec (a.den ρ)) (dec (b.den ρ))):=rfl
theorem O8 (o:iO) (a b:SE):(SE.op o a b).den ρ=o.den (a.den ρ) (b.den ρ):=rfl
theorem iM (j:Nat) (l:List SE):(a0 j l).den (bM F lo)=if (F j (l.map (SE.den (bM F lo)))).isSome=true then 1 else 0:=by unfold a0;show bM F lo (kJ (2*j) ((iK l).den (bM F lo)))=_;rw [lH,(nV F lo j _).1]
theorem gU (j:Nat) (l:List SE) (i:Nat):(rr j l i).den (bM F lo)=low ((F j (l.map (SE.den (bM F lo)))).getD []) i:=by unfold rr uN;show (dec (enc ((dec (bM F lo (kJ (2*j+1) ((iK l).den (bM F lo))))).hd i))).n=_;rw [lH,(nV F lo j _).2,aG];simp only [qK,aG,D.hd,aT,List.getElem?_map];unfold low;rw [List.getD_eq_getElem?_getD];cases ((F j (l.map (SE.den (bM F lo)))).getD [])[i]? <;> rfl
theorem iQ (a b:SE):((SB.eq a b).den ρ=true)=(a.den ρ=b.den ρ):=by simp [SB.den]
theorem oW (a b:SE):((SB.lt a b).den ρ=true)=(a.den ρ < b.den ρ):=by simp [SB.den]
theorem Nj (a:SB):((SB.not a).den ρ=true)= ¬(a.den ρ=true):=by simp [SB.den]
end
end Go.As
end
section
namespace Go.As
open Go.RowKit
def iI:IntKind→Int→Prop
 | .i64,n=> -9223372036854775808≤n∧n≤9223372036854775807
 | .u8,n=>0≤n∧n≤255
 | _,_=>True
def wG:Nat→Nat
 | 0=>8
 | 1=>8
 | 2=>16
 | 3=>56
 | 4=>64
 | 5=>64
 | 6=>56
 | 7=>80
 | 8=>64
 | 9=>40
 | 10=>24
 | 11=>24
 | 12=>16
 | 13=>40
 | 14=>1
 | 15=>24
 | 16=>48
 | _=>1
theorem asW (t:Nat):1≤wG t:=by unfold wG;split <;> omega
inductive Wd:CK→D→Prop where
 | int (k:IntKind) (n:Int) (h:iI k n):Wd (.int k) (.i n)
 | bool (b:Bool):Wd .bool (.i (if b then 1 else 0))
 | str (s:ByteArray) (h:s.size≤140737488351232):Wd .str (AY s)
 | nil (t:Nat):Wd (.sl t) (.i 1)
 | non (t:Nat):Wd (.sl t) (.i 2)
 | one (t:Nat) (c:CK) (ds:List D) (hr:rowOf t= .one c) (hn:ds≠[]) (hm:ds.length*wG t≤140737488351232) (h: ∀d∈ds,Wd c d):Wd (.sl t) (dL ds)
 | many (t:Nat) (cs:List CK) (rows:List (List D)) (hr:rowOf t= .many cs) (hn:rows≠[]) (hm:rows.length*wG t≤140737488351232) (hl: ∀r∈rows,r.length=cs.length)
  (h: ∀r∈rows,∀(j:Nat) (d:D) (c:CK),r[j]?=some d→cs[j]?=some c→Wd c d):Wd (.sl t) (dL (rows.map dL))
def Sh (d:D):Prop:=d= .i 1∨d= .i 2∨(d=dL d.l∧d.l≠[])
theorem Wd.sh {t:Nat} {d:D} (h:Wd (.sl t) d):Sh d:=by
 cases h with
 | nil=>exact .inl rfl
 | non=>exact .inr (.inl rfl)
 | one _ c ds hr hn hm h=>exact .inr (.inr ⟨by rw [aT],by rw [aT]; exact hn⟩)
 | many _ cs rows hr hn hm hl h=>exact .inr (.inr ⟨by rw [aT],by rw [aT]; simpa using hn⟩)
theorem Wd.i {k:IntKind} {d:D} (h:Wd (.int k) d): ∃n,d= .i n∧iI k n:=by
 cases h with
 | int _ n h=>exact⟨n,rfl,h⟩
theorem Wd.b {d:D} (h:Wd .bool d):d= .i 0∨d= .i 1:=by
 cases h with
 | bool b=>cases b <;> simp
theorem Wd.s {d:D} (h:Wd .str d): ∃s,d=AY s:=by
 cases h with
 | str s=>exact⟨s,rfl⟩
theorem Wd.room {t:Nat} {d:D} (h:Wd (.sl t) d):d.l.length*wG t≤140737488351232:=by
 cases h with
 | nil=>simp [D.l]
 | non=>simp [D.l]
 | one _ c ds hr hn hm h=>rw [aT]; exact hm
 | many _ cs rows hr hn hm hl h=>rw [aT,List.length_map]; exact hm
theorem Wd.len {t:Nat} {d:D} (h:Wd (.sl t) d):d.l.length≤140737488351232:=
 Nat.le_trans (Nat.le_mul_of_pos_right _ (asW t)) h.room
theorem Wd.el1 {t:Nat} {c:CK} {d:D} (h:Wd (.sl t) d) (hr:rowOf t= .one c): ∀x∈d.l,Wd c x:=by
 cases h with
 | nil=>intro x hx; simp [D.l] at hx
 | non=>intro x hx; simp [D.l] at hx
 | one _ c' ds hr' hn hm h=> rw [hr] at hr';simp only [Row.one.injEq] at hr';subst hr';intro x hx;rw [aT] at hx;exact h x hx
 | many _ cs rows hr' hn hm hl h=>rw [hr] at hr'; simp at hr'
theorem Wd.elN {t:Nat} {cs:List CK} {d:D} (h:Wd (.sl t) d) (hr:rowOf t= .many cs): ∀x∈d.l,∃r,x=dL r∧r.length=cs.length∧∀(j:Nat) (y:D) (c:CK),r[j]?=some y→cs[j]?=some c→Wd c y:=by
 cases h with
 | nil=>intro x hx; simp [D.l] at hx
 | non=>intro x hx; simp [D.l] at hx
 | one _ c' ds hr' hn hm h=>rw [hr] at hr'; simp at hr'
 | many _ cs' rows hr' hn hm hl h=> rw [hr] at hr';simp only [Row.many.injEq] at hr';subst hr';intro x hx;rw [aT] at hx;obtain⟨r,h1,rfl⟩:=List.mem_map.1 hx;exact⟨r,rfl,hl r h1,fun j y c h2 h3=>h r h1 j y c h2 h3⟩
def isDecl (x:D):Prop:= ∃(k n ln:Int) (s s':ByteArray),x=dL [.i k,AY s,.i n,AY s',.i ln]∧iI .u8 k∧iI .i64 n∧iI .i64 ln
def DT (x:D):Prop:= ∃(o c d g:Int) (r v:D),x=dL [.i o,.i c,.i d,.i g,r,v]∧iI .i64 o∧iI .i64 c∧(d=0∨d=1)∧iI .i64 g∧Wd (.sl 0) r∧Wd (.sl 0) v
theorem five {α:Type} {r:List α} (h:r.length=5): ∃a b c d e,r= [a,b,c,d,e]:=by
 match r,h with
 | [a,b,c,d,e],_=>exact⟨a,b,c,d,e,rfl⟩
theorem six {α:Type} {r:List α} (h:r.length=6): ∃a b c d e f,r= [a,b,c,d,e,f]:=by
 match r,h with
 | [a,b,c,d,e,f],_=>exact⟨a,b,c,d,e,f,rfl⟩
theorem Wd.decl {d:D} (h:Wd (.sl 3) d): ∀x∈d.l,isDecl x:=by intro x hx;obtain⟨r,rfl,hl,hc⟩:=h.elN (cs:=[.int .u8,.str,.int .i64,.str,.int .i64]) rfl x hx;obtain⟨a,b,c,d,e,rfl⟩:=five hl;obtain⟨k,rfl,hk⟩:=(hc 0 _ _ rfl rfl).i;obtain⟨s,rfl⟩:=(hc 1 _ _ rfl rfl).s;obtain⟨n,rfl,hn⟩:=(hc 2 _ _ rfl rfl).i;obtain⟨s',rfl⟩:=(hc 3 _ _ rfl rfl).s;obtain⟨ln,rfl,hln⟩:=(hc 4 _ _ rfl rfl).i;exact⟨k,n,ln,s,s',rfl,hk,hn,hln⟩
theorem Wd.thing {d:D} (h:Wd (.sl 7) d): ∀x∈d.l,DT x:=by
 intro x hx;obtain⟨r,rfl,hl,hc⟩:=h.elN (cs:=[.int .i64,.int .i64,.bool,.int .i64,.sl 0,.sl 0]) rfl x hx;obtain⟨a,b,c,d,e,f,rfl⟩:=six hl;obtain⟨o,rfl,ho⟩:=(hc 0 _ _ rfl rfl).i;obtain⟨k,rfl,hk⟩:=(hc 1 _ _ rfl rfl).i;obtain⟨g,rfl,hg⟩:=(hc 3 _ _ rfl rfl).i;rcases (hc 2 _ _ rfl rfl).b with rfl | rfl
 ·exact⟨o,k,0,g,e,f,rfl,ho,hk,.inl rfl,hg,hc 4 _ _ rfl rfl,hc 5 _ _ rfl rfl⟩
 ·exact⟨o,k,1,g,e,f,rfl,ho,hk,.inr rfl,hg,hc 4 _ _ rfl rfl,hc 5 _ _ rfl rfl⟩
theorem oQ {z:Int} (h1: -9223372036854775808≤z) (h2:z≤9223372036854775807):IntKind.i64.wrap z=z:=IntWalk.i64_in z ⟨h1,h2⟩
theorem aZ {n:Nat} (h:n < 9223372036854775807):IntKind.i64.wrap ((n:Int)+1)=((n+1:Nat):Int):=by rw [oQ (by omega) (by omega)]; omega
theorem n_i (n:Int):(D.i n).n=n:=rfl
theorem l_p (a b:D):(D.p a b).l=a :: b.l:=rfl
theorem rQ (n:Int):(D.i n).l= []:=rfl
theorem iT (l:List D) (j:Nat):(dL l).hd j=(l[j]?).getD (.i 0):=by unfold D.hd; rw [aT]
theorem jT (d:D) (i:Nat):d.at (i:Int)=(d.l[i]?).getD (.i 0):=rfl
theorem aX {d:D} {i:Nat} (h:i < d.l.length):d.at (i:Int)=d.l[i]:=by rw [jT,List.getElem?_eq_getElem h];rfl
end Go.As
end
section
namespace Go.As
open Go Go.RowKit
theorem add_add (a:Addr) (m n:Nat):(a.add m).add n=a.add (m+n):=by
 unfold Addr.add;by_cases h1:m=0
 ·subst h1; simp
 ·by_cases h2:n=0
  ·subst h2; simp
  ·simp [h1,h2,Nat.add_assoc]
def nZ (i:Nat):List CK:=match rowOf i with
 | .one c=>[c]
 | .many cs=>cs
def Oz (F:TypeId→Option (List CK)) (P:Program):List Field→Nat→Nat→Option (List CK)
 | [],o,tot=>if o=tot then some [] else none
 | f :: fs,o,tot=>match F f.type with
   | none=>none
   | some cs=>if f.offset=o∧P.cellsOf f.type=cs.length then (match Oz F P fs (o+cs.length) tot with
     | none=>none
     | some l=>some (cs++l)) else none
def yV (P:Program) (own:TypeId→Option Nat):Nat→TypeId→Option (List CK)
 | 0,_=>none
 | n+1,t=>match P.underlying t with
   | some .bool=>some [.bool]
   | some (.int k)=>some [.int k]
   | some .string=>some [.str]
   | some (.slice _)=>match own t with
     | some i=>some [.sl i]
     | none=>none
   | some (.struct fs)=>Oz (yV P own n) P fs.toList 0 (P.cellsOf t)
   | some (.array m e)=>match yV P own n e with
     | some cs=>if P.cellsOf e=cs.length∧P.cellsOf t=m*cs.length then some (List.replicate m cs).flatten else none
     | none=>none
   | _=>none
def atQ (P:Program) (own:TypeId→Option Nat):Prop:= ∀t i,own t=some i→∃e n,P.underlying t=some (.slice e)∧yV P own n e=some (nZ i)∧P.cellsOf e=(nZ i).length∧wG i≤P.bytesOf e∧0 < (nZ i).length
inductive Rs (ro:Nat→Prop) (h:Array Obj):List CK→List D→List Value→Prop where
 | nil:Rs ro h [] [] []
 | cons {c:CK} {d:D} {v:Value} {cs:List CK} {ds:List D} {vs:List Value} (r:Rd ro h c d v) (w:Wd c d) (t:Rs ro h cs ds vs):Rs ro h (c :: cs) (d :: ds) (v :: vs)
section
variable {ro:Nat→Prop} {h:Array Obj}
theorem Rs.append {cs cs':List CK} {ds ds':List D} {vs vs':List Value} (a:Rs ro h cs ds vs) (b:Rs ro h cs' ds' vs'):Rs ro h (cs++cs') (ds++ds') (vs++vs'):=by
 induction a with
 | nil=>exact b
 | cons r w _ ih=>exact .cons r w ih
theorem Rs.len {cs:List CK} {ds:List D} {vs:List Value} (a:Rs ro h cs ds vs):ds.length=cs.length∧vs.length=cs.length:=by
 induction a with
 | nil=>exact⟨rfl,rfl⟩
 | cons r w _ ih=>exact⟨by simp [ih.1],by simp [ih.2]⟩
theorem Rs.at {cs:List CK} {ds:List D} {vs:List Value} (a:Rs ro h cs ds vs): ∀{j:Nat} {d:D} {c:CK},ds[j]?=some d→cs[j]?=some c→∃v,vs[j]?=some v∧Rd ro h c d v∧Wd c d:=by
 induction a with
 | nil=>intro j d c h1 _; simp at h1
 | cons r w _ ih=>
   intro j d c h1 h2
   cases j with
   | zero=> simp only [List.getElem?_cons_zero,Option.some.injEq] at h1 h2;subst h1 h2;exact⟨_,rfl,r,w⟩
   | succ j=> simp only [List.getElem?_cons_succ] at h1 h2;obtain⟨v,h3,h4⟩:=ih h1 h2;exact⟨v,by simpa using h3,h4⟩
end
theorem ayT {l:List Nat} {m:Nat} (h:l.all (·≤m)=true): ∀x∈l,x≤m:=fun x hx=>by simpa using List.all_eq_true.1 h x hx
theorem ZB {l:List Nat} {m:Nat} (h: ∀x∈l,x≤m):l.all (·≤m)=true:=List.all_eq_true.2 fun x hx=>by simpa using h x hx
theorem ayS {l l':List Nat} {m:Nat} (h:l.all (·≤m)=true) (s: ∀x∈l',x∈l):l'.all (·≤m)=true:=ZB fun x hx=>ayT h x (s x hx)
theorem weightsAll_mem {H:Type} {P:Program} {e:TypeId}: ∀{l:List (DataW H)} {d:DataW H},d∈l→∀x∈d.weights P e,x∈DataW.weightsAll P e l
 | [],_,h,_,_=>by simp at h
 | d' :: l,d,h,x,hx=>by
   simp only [DataW.weightsAll,List.mem_append];rcases List.mem_cons.1 h with rfl | h
   ·exact .inl hx
   ·exact .inr (weightsAll_mem h x hx)
section
variable {P:Program} {own:TypeId→Option Nat} (ok:atQ P own) {H:Type} {en:TypeId×Value→H} {W:World}
abbrev Wv (W:World):Nat→Prop:=fun b=>b < W.heap.size
theorem afK {b o:Nat} {v:Value} (h:W.cell? ⟨b,o,none⟩ = some v):b < W.heap.size:=by
 rw [uD] at h;unfold hcell at h;split at h
 ·rename_i hb;exact (Array.getElem?_eq_some_iff.1 hb).1
 ·simp at h
def Reads (P:Program) (own:TypeId→Option Nat) (en:TypeId×Value→H) (W:World) (fuel:Nat):Prop:=
 ∀(t:TypeId) (n:Nat) (QI:List CK) (cs:List Value) (x:DataW H×List MemPlace),yV P own n t=some QI→DataW.trod en P W 0 (fun _=>true) true fuel t cs=some x→(x.1.weights P t).all (·≤reachBytes)=true→∃ds,Rs (Wv W) W.heap QI ds cs
theorem JH {fuel:Nat} (ih:Reads P own en W fuel) {n:Nat} {cs:List Value} {tot:Nat} (hl:cs.length=tot): ∀(fs:List Field) (o:Nat) (QI:List CK) (xs:List (DataW H×List MemPlace)),Oz (yV P own n) P fs o tot=some QI→xs.length=fs.length→
 (∀(i:Nat) (f:Field),fs[i]?=some f→DataW.trod en P W 0 (fun _=>true) true fuel f.type ((cs.drop f.offset).take (P.cellsOf f.type))=xs[i]?)→
 (DataW.weightsEach P (fs.map (·.type)) (xs.map (·.1))).all (·≤reachBytes)=true→∃ds,Rs (Wv W) W.heap QI ds (cs.drop o)
 | [],o,QI,xs,hf,_,_,_=>by
   simp only [Oz] at hf;split at hf
   ·rename_i ho;simp only [Option.some.injEq] at hf;subst hf;rw [List.drop_of_length_le (by omega)];exact⟨[],.nil⟩
   ·simp at hf
 | f :: fs,o,QI,[],_,hx,_,_=>by simp at hx
 | f :: fs,o,QI,x :: xs,hf,hx,ht,hw=>by
   simp only [Oz] at hf;split at hf
   ·simp at hf
   ·rename_i c1 h1;split at hf
    ·rename_i ho;split at hf
     ·simp at hf
     ·rename_i l hl2;simp only [Option.some.injEq] at hf;subst hf;have h0:=ht 0 f rfl;rw [ho.1,ho.2] at h0;simp only [List.map_cons,DataW.weightsEach,List.all_append,Bool.and_eq_true] at hw;obtain⟨ds,r1⟩:=ih f.type n c1 _ x h1 h0 hw.1;obtain⟨ds',r2⟩:=JH ih hl fs (o+c1.length) l xs hl2 (by simpa using hx) (fun i g hg=>ht (i+1) g (by simpa using hg)) hw.2;refine⟨ds++ds',?_⟩
      have e:cs.drop o=(cs.drop o).take c1.length++cs.drop (o+c1.length):=by rw [← List.drop_drop,List.take_append_drop]
      rw [e];exact r1.append r2
    ·simp at hf
include ok in
theorem Xf {fuel:Nat} (ih:Reads P own en W fuel) {t e:TypeId} {i:Nat} (ht:P.underlying t=some (.slice e)) (ho:own t=some i) {cs:List Value} {x:DataW H×List MemPlace} (hx:DataW.trod en P W 0 (fun _=>true) true (fuel+1) t cs=some x) (hw:(x.1.weights P t).all (·≤reachBytes)=true) :
 ∃d v,cs= [v]∧Rd (Wv W) W.heap (.sl i) d v∧Wd (.sl i) d:=by
 obtain⟨e',nf,ht',hfl,hce,hby,hpos⟩:=ok t i ho;rw [ht] at ht';simp only [Option.some.injEq,TypeDesc.slice.injEq] at ht';subst ht';rcases DataW.trod_slice ht hx with ⟨rfl,rfl⟩ | ⟨a,len,cap,elems,rest,n,hn,rfl,rfl,_,hlc,_,hlen,hel,_,_⟩
 ·exact⟨.i 1,_,rfl,.nil i,.nil i⟩
 ·simp only [Nat.succ.injEq] at hn;subst hn;rcases Nat.eq_zero_or_pos len with h0 | h0
  ·subst h0;exact⟨.i 2,_,rfl,.non i a cap,.non i⟩
  ·simp only [DataW.weights,ht,List.all_cons,List.all_append,Bool.and_eq_true,decide_eq_true_eq,List.length_map] at hw
   have row: ∀k,k < len→∃cs ds,W.cells? 0 (a.add (k*(nZ i).length)) (nZ i).length=some cs∧Rs (Wv W) W.heap (nZ i) ds cs:=by intro k hk;have he:=hel k hk;rw [List.getElem?_eq_getElem (by omega),hce,Option.bind_eq_some_iff] at he;obtain⟨cs,h1,h2⟩:=he;obtain⟨ds,hr⟩:=ih e nf (nZ i) cs _ hfl h2 (ayS hw.2.1 (weightsAll_mem (List.mem_map_of_mem (List.getElem_mem _))));exact⟨cs,ds,h1,hr⟩
   obtain⟨b,o,spot⟩:=a
   have hspot:spot=none:=by obtain⟨cs,ds,h1,hr⟩:=row 0 h0;obtain⟨_,h4,h5⟩:=World.cells?_some h1;have:=h5 0 hpos;rw [List.getElem?_eq_getElem (by omega)] at this;simpa [Addr.add] using World.cell?_spot this
   subst hspot
   have cell: ∀k,k < len→∃ds vs,Rs (Wv W) W.heap (nZ i) ds vs∧∀j,j < (nZ i).length→hcell W.heap b (o+k*(nZ i).length+j)=vs[j]?:=by
    intro k hk;obtain⟨cs,ds,h1,hr⟩:=row k hk;obtain⟨_,h4,h5⟩:=World.cells?_some h1;refine⟨ds,cs,hr,fun j hj=>?_⟩;have:=h5 j hj;rw [add_add] at this;have e2:(Addr.mk b o none).add (k*(nZ i).length+j)=⟨b,o+k*(nZ i).length+j,none⟩:=by simp [Addr.add,Nat.add_assoc]
    rw [e2,uD] at this;exact this
   have hb:b < W.heap.size:=by obtain⟨ds,vs,hr,hc⟩:=cell 0 h0;have:=hc 0 hpos;rw [List.getElem?_eq_getElem (by rw [hr.len.2]; exact hpos),← uD] at this;exact afK this
   have aAb:len*wG i≤140737488351232:=by
    have h1:(elems.length+rest.length)*P.bytesOf e≤reachBytes:=hw.1
    have h2:len*wG i≤(elems.length+rest.length)*P.bytesOf e:=Nat.mul_le_mul (by omega) hby
    have h3:reachBytes=140737488351232:=rfl;omega
   classical
   let ds:Nat→List D:=fun k=>if h:k < len then (cell k h).choose else [];let vs:Nat→List Value:=fun k=>if h:k < len then (cell k h).choose_spec.choose else []
   have spec: ∀k,k < len→Rs (Wv W) W.heap (nZ i) (ds k) (vs k)∧∀j,j < (nZ i).length→hcell W.heap b (o+k*(nZ i).length+j)=(vs k)[j]?:=by intro k hk;have e1:ds k=(cell k hk).choose:=dif_pos hk;have e2:vs k=(cell k hk).choose_spec.choose:=dif_pos hk;rw [e1,e2];exact (cell k hk).choose_spec.choose_spec
   have get: ∀{k:Nat} {r:List D},((List.range len).map ds)[k]?=some r→k < len∧r=ds k:=by
    intro k r hk;rw [List.getElem?_map] at hk
    have hk':k < len:=by
     rcases Nat.lt_or_ge k len with h | h
     ·exact h
     ·rw [List.getElem?_eq_none (by simpa using h)] at hk; simp at hk
    rw [List.getElem?_range hk'] at hk;simp only [Option.map_some,Option.some.injEq] at hk;exact⟨hk',hk.symm⟩
   cases hrow:rowOf i with
   | one c=>
     have hks:nZ i= [c]:=by unfold nZ; rw [hrow]
     have aEJ: ∀{k:Nat} {d:D},((List.range len).map fun k=>(ds k).headD (.i 0))[k]?=some d→k < len∧d=(ds k).headD (.i 0):=by
      intro k d hk;rw [List.getElem?_map] at hk
      have hk':k < len:=by
       rcases Nat.lt_or_ge k len with h | h
       ·exact h
       ·rw [List.getElem?_eq_none (by simpa using h)] at hk; simp at hk
      rw [List.getElem?_range hk'] at hk;simp only [Option.map_some,Option.some.injEq] at hk;exact⟨hk',hk.symm⟩
     have sp1: ∀k,k < len→∃d v,ds k= [d]∧hcell W.heap b (o+k)=some v∧Rd (Wv W) W.heap c d v∧Wd c d:=by
      intro k hk;obtain⟨hr,hc⟩:=spec k hk;rw [hks] at hr hc
      match hdk:ds k,hvk:vs k,hr with
      | [d],[v],.cons r w .nil=> have:=hc 0 (by simp);rw [hvk] at this;exact⟨d,v,rfl,by simpa using this,r,w⟩
     have e:len=((List.range len).map fun k=>(ds k).headD (.i 0)).length:=by simp
     have r:=Rd.one (ro:=Wv W) (h:=W.heap) i c b o cap ((List.range len).map fun k=>(ds k).headD (.i 0)) (fun k=>(vs k).headD undef) hrow (by rw [← e]; exact hlc) hb
      (fun k d hd=>by
       obtain⟨hk,rfl⟩:=aEJ hd;obtain⟨hr,hc⟩:=spec k hk;rw [hks] at hr hc;have:=hc 0 (by simp)
       match hdk:ds k,hvk:vs k,hr with
       | [d],[v],.cons r w .nil=>
         rw [hvk] at this
         simpa using this)
      (fun k d hd=>by
       obtain⟨hk,rfl⟩:=aEJ hd;obtain⟨hr,hc⟩:=spec k hk;rw [hks] at hr
       match hdk:ds k,hvk:vs k,hr with
       | [d],[v],.cons r w .nil=>exact r)
     rw [← e] at r;refine⟨_,_,rfl,r,.one i c _ hrow (fun h=>by have:=congrArg List.length h; simp at this; omega) (by rw [← e]; exact aAb) fun d hd=>?_⟩;obtain⟨k,hk,rfl⟩:=List.mem_map.1 hd;obtain⟨d,v,h1,_,_,w⟩:=sp1 k (by simpa using hk);rw [h1];exact w
   | many QI=>
     have hks:nZ i=QI:=by unfold nZ; rw [hrow]
     have e:len=((List.range len).map ds).length:=by simp
     have hlr: ∀r∈(List.range len).map ds,r.length=QI.length:=by intro r hr;obtain⟨k,hk,rfl⟩:=List.mem_map.1 hr;have:=(spec k (by simpa using hk)).1.len.1;rw [hks] at this;exact this
     have r:=Rd.many (ro:=Wv W) (h:=W.heap) i QI b o cap ((List.range len).map ds) (fun k j=>((vs k)[j]?).getD undef) hrow (by rw [← e]; exact hlc) hb hlr
      (fun k r j d hr hj=>by
       obtain⟨hk,rfl⟩:=get hr;obtain⟨hrs,hc⟩:=spec k hk;rw [hks] at hrs hc
       have hj':j < QI.length:=by have:=(List.getElem?_eq_some_iff.1 hj).1;rw [hrs.len.1] at this;exact this
       rw [hc j hj',List.getElem?_eq_getElem (by rw [hrs.len.2]; exact hj')]
       rfl)
      (fun k r j d c hr hj hcj=>by
       obtain⟨hk,rfl⟩:=get hr;obtain⟨hrs,hc⟩:=spec k hk;rw [hks] at hrs;obtain⟨v,h1,h2,_⟩:=hrs.at hj hcj;show Rd (Wv W) W.heap c d (((vs k)[j]?).getD undef);rw [h1]
       exact h2)
     rw [← e] at r;refine⟨_,_,rfl,r,.many i QI _ hrow (fun h=>by have:=congrArg List.length h; simp at this; omega) (by rw [← e]; exact aAb) hlr fun r hr j d c hj hcj=>?_⟩;obtain⟨k,hk,rfl⟩:=List.mem_map.1 hr;have hrs:=(spec k (by simpa using hk)).1;rw [hks] at hrs;obtain⟨v,_,_,h3⟩:=hrs.at hj hcj;exact h3
theorem Nw {fuel:Nat} (ih:Reads P own en W fuel) {n:Nat} {cs:List Value} {e:TypeId} {c1:List CK} (h1:yV P own n e=some c1): ∀(xs:List (DataW H×List MemPlace)) (i:Nat),cs.length=(i+xs.length)*c1.length→
 (∀(j:Nat),j < xs.length→DataW.trod en P W 0 (fun _=>true) true fuel e ((cs.drop ((i+j)*c1.length)).take c1.length)=xs[j]?)→
 (DataW.weightsAll P e (xs.map (·.1))).all (·≤reachBytes)=true→∃ds,Rs (Wv W) W.heap (List.replicate xs.length c1).flatten ds (cs.drop (i*c1.length))
 | [],i,hl,_,_=>by rw [List.drop_of_length_le (by rw [hl]; simp)];exact⟨[],.nil⟩
 | x :: xs,i,hl,ht,hw=>by
   have h0:=ht 0 (by simp);rw [Nat.add_zero] at h0;simp only [List.map_cons,DataW.weightsAll,List.all_append,Bool.and_eq_true] at hw;obtain⟨ds,r1⟩:=ih e n c1 _ x h1 h0 hw.1
   obtain⟨ds',r2⟩:=Nw ih h1 xs (i+1) (by rw [hl,List.length_cons]; congr 1; omega) (fun j hj=>by
    have:=ht (j+1) (by simpa using hj);rw [show i+1+j=i+(j+1) by omega]
    simpa using this) hw.2
   refine⟨ds++ds',?_⟩
   have e1:cs.drop (i*c1.length)=(cs.drop (i*c1.length)).take c1.length++cs.drop ((i+1)*c1.length):=by rw [Nat.succ_mul,← List.drop_drop,List.take_append_drop]
   rw [e1,List.length_cons,List.replicate_succ,List.flatten_cons];exact r1.append r2
include ok in
theorem UQ: ∀fuel:Nat,Reads P own en W fuel
 | 0=>fun t n QI cs x _ hx _=>by simp [DataW.trod] at hx
 | fuel+1=>fun t n QI cs x hf hx hw=>by
   cases n with
   | zero=>simp [yV] at hf
   | succ n=>
     unfold yV at hf;split at hf
     ·rename_i ht;simp only [Option.some.injEq] at hf;subst hf;obtain⟨b,rfl,_⟩:=DataW.trod_bool ht hx;exact⟨_,.cons (.bool b) (.bool b) .nil⟩
     ·rename_i k ht;simp only [Option.some.injEq] at hf;subst hf;obtain⟨z,rfl,_,hwf⟩:=DataW.trod_int ht hx;refine⟨_,.cons (.int k z) (.int k z ?_) .nil⟩;simp only [Lit.wf,Bool.and_eq_true,decide_eq_true_eq] at hwf;cases k <;> first | exact hwf | trivial
     ·rename_i ht;simp only [Option.some.injEq] at hf;subst hf;obtain⟨s,rfl,rfl,_⟩:=DataW.trod_string ht hx;refine⟨_,.cons (.str s) (.str s ?_) .nil⟩;simp only [DataW.weights,List.all_cons,List.all_nil,Bool.and_true,decide_eq_true_eq] at hw;exact hw
     ·rename_i e ht;split at hf
      ·rename_i i ho;simp only [Option.some.injEq] at hf;subst hf;obtain⟨d,v,rfl,r,w⟩:=Xf ok (UQ fuel) ht ho hx hw;exact⟨_,.cons r w .nil⟩
      ·simp at hf
     ·rename_i fs ht;obtain⟨xs,m,hm,rfl,hl,hxl,hxs⟩:=DataW.trod_struct ht hx;simp only [Nat.succ.injEq] at hm;subst hm
      have hw':(DataW.weightsEach P (fs.toList.map (·.type)) (xs.map (·.1))).all (·≤reachBytes)=true:=by simp only [DataW.weights,ht] at hw;exact hw
      have:=JH (UQ fuel) hl fs.toList 0 QI xs hf (by simpa using hxl) (fun i f hi=>hxs i f (by simpa using hi)) hw';simpa using this
     ·rename_i m e ht;split at hf
      ·rename_i c1 h1;split at hf
       ·rename_i hce;simp only [Option.some.injEq] at hf;subst hf;obtain⟨xs,m',hm,rfl,hl,hxl,hxs⟩:=DataW.trod_array ht hx;simp only [Nat.succ.injEq] at hm;subst hm;subst hxl
        have hw':(DataW.weightsAll P e (xs.map (·.1))).all (·≤reachBytes)=true:=by simp only [DataW.weights,ht] at hw;exact hw
        rw [hce.2] at hl
        have:=Nw (UQ fuel) h1 xs 0 (by rw [hl,Nat.zero_add]) (fun j hj=>by
         rw [Nat.zero_add];have:=hxs j hj;rw [hce.1] at this
         exact this) hw'
        simpa using this
       ·simp at hf
      ·simp at hf
     ·simp at hf
end
theorem U3 {P:Program} {w:World} {r:Reach} {base:Nat} {t:TypeId} {v:Value} {n:Nat} {e:TypeId} (ht:P.underlying t=some (.array n e)) (h:Value.okWide P w r base t v): ∃cs,v= .agg cs∧cs.size=P.cellsOf t:=by simp only [Value.okWide,ht] at h;obtain⟨cs,h1,h2,_⟩:=h;exact⟨cs,h1,h2⟩
end Go.As
end

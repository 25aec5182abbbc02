import Derived.Lib.Bytealg
import Derived.Lib.IndexMore
import Derived.Deep.LoopGhost
import Derived.IntWalk
import Derived.ChangeArms
import Derived.DataReads
import GoSem.ClaimJoined
import Derived.OpenShut
import Derived.KernelRfl
import Derived.Test.YtmmdeeeifpepjacGreatDoorProg
import Derived.Test.YtmmdeeeifpepjacGreatDoorAsZF1
set_option linter.unusedSectionVars false
set_option linter.unusedVariables false
set_option linter.unusedSimpArgs false
section
namespace Go.As
section
variable {P:Program}
theorem atH {α:Type} {l pre:List α} {a b:α} {l0:List α} (h:l=pre++a :: b :: l0):l.reverse[l0.length]?=some b∧l.reverse[l0.length+1]?=some a:=by
 subst h;constructor
 ·simp
 ·rw [show pre++a :: b :: l0=(pre++ [a])++(b :: l0) by simp,List.reverse_append];rw [List.getElem?_append_right (by simp)];simp
theorem aeZ {n b:Nat} (h:((1 <<< n) - 1).testBit b=true):b < n:=by rw [Nat.shiftLeft_eq,Nat.one_mul,Nat.testBit_two_pow_sub_one] at h;simpa using h
theorem atK [Glob] {tt:TT} {ops:Array Oper} {ms:List Nat} {ρ:Nat→Int} {vW:Tr AV} {H0:Hp} {base N:Nat} {d:DSt} (sf:aAp tt ops.toList ms) (hb:base=H0.next) (hN:base+ops.size≤N)
 (rf:aEY P ρ ops base N (items tt ops.toList ms ops.toList 0 0) ⟨vW,[(⟨H0.m,base+ops.size,none⟩,0)],[],[],[]⟩ d)
 (hrs: ∀r∈((items tt ops.toList ms ops.toList 0 0).filter (·.k.Zj)).map fun x=>(x,stages (items tt ops.toList ms ops.toList 0 0) (lX tt ops.toList) x),∃v,d.vs.reverse[r.1.i]?=some v∧∀k∈r.2,∃h mm,d.qG.reverse[k]?=some (h,mm)∧Ph P ρ ops r.1.o (only d.slots r.1.rd) (gJ base r.1.m mm d.blks h) v (gJ base r.1.m mm d.blks h))
 (hun:TF base d.blks d.qG=true) :
 ∃p:Plan P ρ ops vW H0,p.base=base∧p.nE=lX tt ops.toList∧(∀i,p.val i=(d.vs.reverse[i]?).getD .jS)∧(∀k h mm,d.qG.reverse[k]?=some (h,mm)→p.hp k=h∧∀a,p.un k a=!mm.testBit a)∧(∀i,p.blk i=(d.obs.reverse[i]?).getD none)∧
  (∀(m:Nat),m < p.nE→∃(j:Nat) (o:Oper),ops[j]?=some o∧p.kd j= .e∧p.st j=m):=by
 have hsz: ∀(j:Nat),ops.toList[j]?=ops[j]?:=fun j=>Array.getElem?_toList;have hlt: ∀{j:Nat} {o:Oper},ops[j]?=some o→j < ops.size:=fun h=>(Array.getElem?_eq_some_iff.1 h).1;have hci:mQ (items tt ops.toList ms ops.toList 0 0)=lX tt ops.toList:=rF _ _ _;have hfull:lX tt ops.toList=lX tt (ops.toList.take ops.size):=by rw [List.take_of_length_le (by simp)]
 obtain⟨ps,s1,s2⟩:=rf.qG;rw [hci] at s2;have aF2:d.qG.length=lX tt ops.toList+1:=by rw [s1,List.length_append,s2]; rfl
 have aFp:d.qG.reverse[0]?=some (⟨H0.m,base+ops.size,none⟩,0):=by rw [s1]; simp
 have aDz: ∀k,k≤lX tt ops.toList→∃h mm,d.qG.reverse[k]?=some (h,mm):=by
  intro k hk;have:k < d.qG.reverse.length:=by rw [List.length_reverse]; omega
  exact⟨d.qG.reverse[k].1,d.qG.reverse[k].2,List.getElem?_eq_getElem this⟩
 have hnx:=rf.nxt (by
  intro q hq;simp only [List.mem_cons,List.not_mem_nil,or_false] at hq;subst hq
  exact⟨hN,rfl⟩)
 have hnx2: ∀(k:Nat) (h:Hp) (mm:Nat),d.qG.reverse[k]?=some (h,mm)→h.next≤N∧h.res=none:=by intro k h mm hh;exact hnx (h,mm) (by have:=List.mem_of_getElem? hh; simpa using this)
 let hpf:Nat→Hp:=fun k=>((d.qG.reverse[k]?).map (·.1)).getD ⟨.nil,0,none⟩
 let unf:Nat→Nat→Bool:=fun k a=>match d.qG.reverse[k]? with | some q=>!q.2.testBit a | none=>false
 let bff:Nat→Nat→Bool:=fun i j=>match ops[j]? with | some _=>(ms.getD j 0).testBit i | none=>false
 let kdf:Nat→Kind:=fun i=>match ops[i]? with | some o=>kindOf tt o.op | none=> .pa
 let Vu:Nat→Option dU:=fun i=>(d.obs.reverse[i]?).getD none
 have hpe: ∀k h mm,d.qG.reverse[k]?=some (h,mm)→hpf k=h∧∀a,unf k a=!mm.testBit a:=by intro k h mm hh;refine⟨by simp only [hpf,hh]; rfl,fun a=>by simp only [unf,hh]⟩
 have bfe: ∀{i j:Nat} {o:Oper},ops[j]?=some o→bff i j=(ms.getD j 0).testBit i:=by intro i j o ho;simp only [bff,ho]
 have kde: ∀{j:Nat} {o:Oper},ops[j]?=some o→kdf j=kindOf tt o.op:=by intro j o ho;simp only [kdf,ho]
 have kdE: ∀{j:Nat},kdf j= .e→∃o,ops[j]?=some o∧kindOf tt o.op= .e:=by
  intro j hj
  cases ho:ops[j]? with
  | none=>simp only [kdf,ho] at hj; simp at hj
  | some o=>exact⟨o,rfl,by rw [← kde ho]; exact hj⟩
 have hbelow: ∀(k:Nat),∀(o':Oper),ops[k]?=some o'→∀b,(ms.getD k 0).testBit b=true→b < k:=by
  intro k
  induction k using Nat.strongRecOn with
  | _ k ih=>
    intro o' ho' b hb';rw [sf.mask k o' (by rw [hsz]; exact ho')] at hb';obtain⟨e,e1,e2,e3⟩:=vC hb';have e1':e∈o'.after:=by simpa using e1
    have hlt':=sf.back k o' (by rw [hsz]; exact ho') e e1' e2;rcases e3 with rfl | e3
    ·exact hlt'
    ·have:=hlt ho';have:=ih e.on hlt' (ops[e.on]'(by omega)) (by simp) b e3;omega
 have aFA: ∀(i:Nat),∃S:Tr AV,∀(o:Oper),ops[i]?=some o→∃dp dp1 v ob pre,dp.slots=S∧OX P ρ ops base N (H8 tt ops.toList ms i o) dp v ob dp1∧d.vs.reverse[i]?=some v∧d.obs.reverse[i]?=some ob∧d.qG=pre++dp1.qG∧dp.qG.length=1+lX tt (ops.toList.take i)∧
  (∀q,q∈dp.blks→q∈d.blks)∧(∀t x,S.get t=some x→(∃p oj,p < i∧ops[p]?=some oj∧oj.dst=some t∧d.vs.reverse[p]?=some x)∨(vW.get t=some x∧∀(p:Nat) (oj:Oper),p < i→ops[p]?=some oj→oj.dst≠some t)):=by
  intro i
  cases hoi:ops[i]? with
  | none=>exact⟨.nil,fun o h=>by simp at h⟩
  | some o0=>
    have hx:(items tt ops.toList ms ops.toList 0 0)[i]?=some (H8 tt ops.toList ms i o0):=kH (by rw [hsz]; exact hoi);obtain⟨dp,dp1,v,ob,pre,g1,g2,g3,g4,g5,g6,g7,g8⟩:=rf.at_ i _ hx;refine⟨dp.slots,fun o ho=>?_⟩;simp only [Option.some.injEq] at ho;subst ho;refine⟨dp,dp1,v,ob,pre,rfl,g1,by simpa using g2,by simpa using g3,g4,?_,g6,?_⟩
    ·rw [g5];congr 1
     have:(items tt ops.toList ms ops.toList 0 0).take i=items tt ops.toList ms (ops.toList.take i) 0 0:=by
      apply List.ext_getElem?;intro j;rw [List.getElem?_take,mM,mM,List.getElem?_take];split
      ·rename_i hj;rw [List.take_take,Nat.min_eq_left (by omega)]
      ·rfl
     rw [this,rF]
    ·intro t x ht;rcases g8 t x ht with ⟨p,y,q1,q2,q3,q4⟩ | ⟨q1,q2⟩
     ·cases hoj:ops.toList[p]? with
      | none=>rw [mM,hoj] at q2; simp at q2
      | some oj=> rw [kH hoj] at q2;simp at q2;subst q2;exact .inl ⟨p,oj,q1,by rw [← hsz]; exact hoj,q3,by simpa using q4⟩
     ·refine .inr ⟨q1,fun p oj hp hoj=>?_⟩
      have hm:H8 tt ops.toList ms p oj∈(items tt ops.toList ms ops.toList 0 0).take i:=by refine List.mem_of_getElem? (i:=p) ?_;rw [List.getElem?_take,if_pos hp];exact kH (by rw [hsz]; exact hoj)
      exact q2 _ hm
 obtain⟨Sd,hat⟩:=Classical.skolem.1 aFA
 let Sf:Nat→Tr AV:=fun i=>match ops[i]? with
  | some o=>(match kindOf tt o.op with
    | .r=>only d.slots (reads ops.toList o)
    | _=>only (Sd i) (reads ops.toList o))
  | none=> .nil
 have SfR: ∀{i:Nat} {o:Oper},ops[i]?=some o→kindOf tt o.op= .r→Sf i=only d.slots (reads ops.toList o):=by intro i o ho hk;simp only [Sf,ho,hk]
 have SfN: ∀{i:Nat} {o:Oper},ops[i]?=some o→kindOf tt o.op≠.r→Sf i=only (Sd i) (reads ops.toList o):=by
  intro i o ho hk;have:Sf i=(match kindOf tt o.op with | .r=>only d.slots (reads ops.toList o) | _=>only (Sd i) (reads ops.toList o)):=by simp only [Sf,ho]
  rw [this]
  cases hh:kindOf tt o.op with
  | r=>exact absurd hh hk
  | pa=>rfl
  | e=>rfl
 have hblk: ∀a b,(a,b)∈d.blks→Vu a=some b:=by
  intro a b hab;rcases rf.blk a b hab with h | ⟨p,x,g1,g2,g3⟩
  ·simp at h
  ·cases ho:ops.toList[p]? with
   | none=>rw [mM,ho] at g1; simp at g1
   | some o=> rw [kH ho] at g1;simp at g1;subst g1;have:p=a:=g2;subst this;simp only [List.length_nil,Nat.zero_add] at g3;simp only [Vu,g3,Option.getD_some]
 have hblk2: ∀a b,Vu a=some b→(a,b)∈d.blks:=by
  intro a b hab
  have hob:d.obs.reverse[a]?=some (some b):=by
   simp only [Vu] at hab
   cases hh:d.obs.reverse[a]? with
   | none=>rw [hh] at hab; simp at hab
   | some x=>rw [hh] at hab; simp at hab; rw [hab]
  obtain⟨po,o1,o2⟩:=rf.obs
  have hal:a < ops.size:=by have h1:=(List.getElem?_eq_some_iff.1 hob).1;rw [List.length_reverse,o1,List.append_nil,o2,zQ] at h1;simpa using h1
  have hx:(items tt ops.toList ms ops.toList 0 0)[a]?=some (H8 tt ops.toList ms a ops[a]):=kH (by rw [hsz]; simp [hal]);exact rf.aFK a _ b hx (by simpa using hob)
 refine⟨{
  base:=base,bf:=bff,kd:=kdf,S:=Sf,val:=fun i=>(d.vs.reverse[i]?).getD .jS,st:=fun i=>lX tt (ops.toList.take i),nE:=lX tt ops.toList,hp:=hpf,un:=unf,blk:=Vu,
  gen:=?_,back:=?_,dst:=?_,slots:=?_,stl:=?_,inj:=?_,aCX:=?_,pa:=?_,ev:=?_,rd:=?_,unm:=?_,nob:=?_,first:=?_ },rfl,rfl,fun i=>rfl,hpe,fun i=>rfl,?_⟩
 ·intro i j h
  cases ho:ops[j]? with
  | none=>simp only [bff,ho] at h; simp at h
  | some o=>
    rw [bfe ho,sf.mask j o (by rw [hsz]; exact ho)] at h;obtain⟨e,e1,e2,e3⟩:=vC h;have e1':e∈o.after:=by simpa using e1
    refine⟨o,e,rfl,e1',e2,e3.imp id fun h3=>?_⟩;have hl:=sf.back j o (by rw [hsz]; exact ho) e e1' e2;have hj:=hlt ho;rw [bfe (o:=ops[e.on]'(by omega)) (by simp)];exact h3
 ·intro j o ho e he hb';exact sf.back j o (by rw [hsz]; exact ho) e he hb'
 ·intro i j oi oj dd hi hj h1 h2;exact sf.dst i j oi oj dd (by rw [hsz]; exact hi) (by rw [hsz]; exact hj) h1 h2
 ·intro i o ho t x ht
  cases hk:kindOf tt o.op with
  | r=>
    rw [SfR ho hk] at ht;obtain⟨h1,h2⟩:=F5 ht;rcases rf.slot t x h2 with ⟨p,y,g1,g2,g3⟩ | ⟨g1,g2⟩
    ·cases hoj:ops.toList[p]? with
     | none=>rw [mM,hoj] at g1; simp at g1
     | some oj=>
       rw [kH hoj] at g1;simp at g1;subst g1;have hp:ops[p]?=some oj:=by rw [← hsz]; exact hoj
       refine .inl ⟨p,oj,?_,hp,g2,?_⟩
       ·rw [bfe ho];rcases sf.rd i o (by rw [hsz]; exact ho) t h1 p oj hoj g2 with h | ⟨h,_⟩
        ·exact h
        ·exact absurd hk h
       ·simp only [List.length_nil,Nat.zero_add] at g3;simp only [g3,Option.getD_some]
    ·refine .inr ⟨g1,fun j oj hoj hd=>?_⟩;exact absurd hd (g2 _ (List.mem_of_getElem? (kH (by rw [hsz]; exact hoj))))
  | _=>
    rw [SfN ho (by rw [hk]; simp)] at ht;obtain⟨h1,h2⟩:=F5 ht;obtain⟨dp,dp1,v,ob,pre,_,_,_,_,_,_,_,g8⟩:=hat i o ho;rcases g8 t x h2 with ⟨p,oj,q1,q2,q3,q4⟩ | ⟨q1,q2⟩
    ·refine .inl ⟨p,oj,?_,q2,q3,by rw [q4]; rfl⟩;rw [bfe ho];rcases sf.rd i o (by rw [hsz]; exact ho) t h1 p oj (by rw [hsz]; exact q2) q3 with h | ⟨_,h⟩
     ·exact h
     ·have:=hbelow p oj q2 i h;omega
    ·refine .inr ⟨q1,fun j oj hoj hd=>?_⟩;rw [bfe hoj];rcases sf.rd i o (by rw [hsz]; exact ho) t h1 j oj (by rw [hsz]; exact hoj) hd with h | ⟨_,h⟩
     ·exact absurd hd (q2 j oj (hbelow i o ho j h) hoj)
     ·exact h
 ·intro j o ho hk;rw [kde ho] at hk;rw [hfull];exact Vs (by rw [hsz]; exact ho) hk (hlt ho)
 ·intro i j hi hj he;obtain⟨oi,hoi,hki⟩:=kdE hi;obtain⟨oj,hoj,hkj⟩:=kdE hj;rcases Nat.lt_trichotomy i j with h | h | h
  ·have:=Vs (tt:=tt) (l:=ops.toList) (by rw [hsz]; exact hoi) hki h;omega
  ·exact h
  ·have:=Vs (tt:=tt) (l:=ops.toList) (by rw [hsz]; exact hoj) hkj h;omega
 ·intro j o ho hk m hm;obtain⟨i,oi,h1,h2,h3,h4⟩:=DR hm;rw [kde ho] at hk;have h2':ops[i]?=some oi:=by rw [← hsz]; exact h2
  refine⟨i,by rw [kde h2']; exact h3,h4,?_⟩;rw [bfe ho];exact sf.tot i j oi o h2 (by rw [hsz]; exact ho) h3 hk h1
 ·intro i o ho hk;rw [kde ho] at hk;obtain⟨dp,dp1,v,ob,pre,hdp,hF,g2,g3,g4,g5,g6,g7⟩:=hat i o ho;obtain⟨h0,mm,rest,hs,hF⟩:=hF;simp only [H8,hk] at hF;obtain⟨_,HA,f1,f2,f3⟩:=hF;rw [hdp] at f1;refine⟨HA,N,?_,f2,?_,?_⟩
  ·rw [SfN ho (by rw [hk]; simp)];simp only [g2,Option.getD_some];exact f1
  ·simp only [Vu,g3,Option.getD_some];exact f3
  ·intro k hk2;obtain⟨h2,mm2,hh⟩:=aDz k hk2;rw [(hpe _ _ _ hh).1];exact (hnx2 _ _ _ hh).1
 ·intro j o ho hk;rw [kde ho] at hk;obtain⟨dp,dp1,v,ob,pre,hdp,hF,g2,g3,g4,g5,g6,g7⟩:=hat j o ho;obtain⟨h0,mm,rest,hs,hF⟩:=hF;simp only [H8,hk] at hF;obtain⟨_,hn,f1,f2,f3,f4⟩:=hF;rw [hdp] at f4;rw [f1,hs] at g4;have hrl:rest.length=lX tt (ops.toList.take j):=by rw [hs] at g5; simp at g5; omega
  obtain⟨r1,r2⟩:=atH g4;rw [hrl] at r1 r2;obtain⟨p1,p2⟩:=hpe _ _ _ r1;obtain⟨p3,p4⟩:=hpe _ _ _ r2;refine⟨gJ base (ms.getD j 0) mm dp.blks h0,?_,?_,?_,?_,?_⟩
  ·rw [SfN ho (by rw [hk]; simp)];simp only [g2,Option.getD_some,p3];exact f4
  ·rw [(lY _ _).1,p1]
  ·rw [(lY _ _).2];exact (hnx2 _ _ _ r1).2
  ·intro id x hx;rcases uI hx with h | ⟨a,a1,a2,a3,a4⟩
   ·left; rw [p1]; exact h
   ·right;exact⟨a,by rw [bfe ho]; exact a2,by rw [p2,a3]; rfl,a4,hblk a x (g6 _ a1)⟩
  ·intro a ha;rw [p4] at ha;simp only [Nat.testBit_or,Bool.not_or,Bool.and_eq_true,Bool.not_eq_true'] at ha;refine⟨by rw [p2,ha.1]; rfl,?_⟩;rw [bfe ho];exact ha.2
 ·intro i o ho hk k hkn h1 h2;rw [kde ho] at hk;have hmem:H8 tt ops.toList ms i o∈items tt ops.toList ms ops.toList 0 0:=List.mem_of_getElem? (kH (by rw [hsz]; exact ho))
  obtain⟨v,g1,g2⟩:=hrs (H8 tt ops.toList ms i o,stages (items tt ops.toList ms ops.toList 0 0) (lX tt ops.toList) (H8 tt ops.toList ms i o)) (by
   rw [List.mem_map]
   exact⟨_,List.mem_filter.2 ⟨hmem,by simp [H8,hk,Kind.Zj]⟩,rfl⟩)
  have hks:k∈stages (items tt ops.toList ms ops.toList 0 0) (lX tt ops.toList) (H8 tt ops.toList ms i o):=by
   unfold stages;rw [List.mem_filter,List.mem_range];refine⟨by omega,List.all_eq_true.2 fun y hy=>?_⟩;obtain⟨j,oj,hoj,rfl⟩:=RJ hy;have auD:ops[j]?=some oj:=by rw [← hsz]; exact hoj
   cases hkj:kindOf tt oj.op with
   | pa=>simp [H8,hkj,Kind.isE]
   | r=>simp [H8,hkj,Kind.isE]
   | e=>
     simp only [H8,hkj,Kind.isE,Bool.not_true,Bool.false_or,Bool.and_eq_true,Bool.or_eq_true,Bool.not_eq_true',decide_eq_true_eq];constructor
     ·cases hbit:(ms.getD i 0).testBit j with
      | false=>exact .inl rfl
      | true=>exact .inr (h1 j (by rw [kde auD]; exact hkj) (by rw [bfe ho]; exact hbit))
     ·cases hbit:(ms.getD j 0).testBit i with
      | false=>exact .inl rfl
      | true=>exact .inr (h2 j oj auD (by rw [kde auD]; exact hkj) (by rw [bfe auD]; exact hbit))
  obtain⟨h0,mm,g3,g4⟩:=g2 k hks;obtain⟨p1,p2⟩:=hpe _ _ _ g3;refine⟨gJ base (ms.getD i 0) mm d.blks h0,?_,?_,?_,?_⟩
  ·have g1':d.vs.reverse[i]?=some v:=g1;rw [SfR ho hk];simp only [g1',Option.getD_some];exact g4
  ·rw [(lY _ _).1,p1]
  ·rw [(lY _ _).2];exact (hnx2 _ _ _ g3).2
  ·intro id x hx;rcases uI hx with h | ⟨a,a1,a2,a3,a4⟩
   ·left; rw [p1]; exact h
   ·right;exact⟨a,by rw [bfe ho]; exact a2,by rw [p2,a3]; rfl,a4,hblk a x a1⟩
 ·intro k a x hk hx hu;obtain⟨h0,mm,hh⟩:=aDz k hk;obtain⟨p1,p2⟩:=hpe _ _ _ hh;rw [p1];rw [p2] at hu;unfold TF at hun;have:=List.all_eq_true.1 hun _ (hblk2 a x hx)
  have:=List.all_eq_true.1 this (h0,mm) (by
   have:=List.mem_of_getElem? hh
   simpa using this)
  simp only [Bool.or_eq_true,Option.isNone_iff_eq_none] at this;simp only [Bool.not_eq_true'] at hu;rcases this with h | h
  ·rw [hu] at h; simp at h
  ·exact h
 ·intro i hk
  cases ho:ops[i]? with
  | none=>
    obtain⟨po,o1,o2⟩:=rf.obs
    have hnone:d.obs.reverse[i]?=none:=by rw [List.getElem?_eq_none_iff,List.length_reverse,o1,List.append_nil,o2,zQ];have:=Array.getElem?_eq_none_iff.1 ho;simpa using this
    simp only [Vu,hnone,Option.getD_none]
  | some o=>
    obtain⟨dp,dp1,v,ob,pre,hdp,hF,g2,g3,g4,g5,g6,g7⟩:=hat i o ho;obtain⟨h0,mm,rest,hs,hF⟩:=hF;rw [kde ho] at hk
    cases hkk:kindOf tt o.op with
    | pa=>exact absurd hkk hk
    | e=> simp only [H8,hkk] at hF;simp only [Vu,g3,Option.getD_some,hF.1]
    | r=> simp only [H8,hkk] at hF;simp only [Vu,g3,Option.getD_some,hF.1]
 ·have:=(hpe 0 _ _ aFp).1;refine⟨hb,by rw [this]; exact Nat.le_refl _,fun id x h=>?_⟩;rw [this] at h;exact h
 ·intro m hm;have hm':m < lX tt (ops.toList.take ops.size):=by rw [← hfull]; exact hm
  obtain⟨i,oi,h1,h2,h3,h4⟩:=DR hm';have h2':ops[i]?=some oi:=by rw [← hsz]; exact h2
  exact⟨i,oi,h2',by show kdf i=_; rw [kde h2']; exact h3,h4⟩
end
end Go.As
end
section
namespace Go.As
section
variable {P:Program}
theorem Om [Glob] {tt:TT} (htt:eG P tt) {call:dR} (hc:jW P call) {ops:Array Oper} {E:En} {s s':St} {a:Act} {w:World} {Q:Exit→Act→World→Prop}
 (hd: ∀o∈ops.toList,∀d,o.dst=some d→d < a.tmps.size) (fit:Fit E s a w) (h:(draw tt call ops.toList s).leaf E.ρ=some s') (hq: ∀a' w',Then E s a w s' a' w'→Q .normal a' w') :
 wpAny P .any ops Q ops.size (Array.replicate ops.size false) a { w with drawn:=w.drawn+1 }:=by
 unfold draw Oo at h;split at h
 ·simp [T.leaf] at h
 ·rename_i q hq0;split at h
  ·simp [T.leaf] at h
  ·rename_i hres;simp only at h;obtain⟨⟨pc1,d⟩,h1,h2⟩:=T.fQ h;simp only at h2;obtain⟨ms,e1,e2,e3,sf⟩:=asU hq0;rw [e1,] at h1;have rf:=adR htt hc _ fit.pc h1;have hp1:=adQ _ fit.pc h1;split at h2
   ·simp [T.leaf] at h2
   ·rename_i h0 mm rest aBo;obtain⟨pc2,h3,h4⟩:=T.fQ h2;split at h4
    ·rename_i hun;have:=aF h4;subst this
     have aDA:=QJ htt hc q.rs hp1 (by
      intro r hr;rw [e3,List.mem_map] at hr;obtain⟨x,hx,rfl⟩:=hr;rw [List.mem_filter,e1] at hx;obtain⟨j,o,ho,rfl⟩:=RJ hx.1;have h5:(kindOf tt o.op).Zj=true:=hx.2;show kindOf tt o.op= .r;revert h5
      cases kindOf tt o.op <;> simp [Kind.Zj]) h3
     have hp2:=aDA.1;have hrs:=aDA.2;rw [e3,e1,e2] at hrs;obtain⟨p,p1,p2,p3,p4,p5,p6⟩:=atK sf (base:=s.h.next) (H0:=s.h) rfl (Nat.le_add_right _ _) rf hrs hun;have hsz: ∀(j:Nat),ops.toList[j]?=ops[j]?:=fun j=>Array.getElem?_toList;let w1:World:={ w with drawn:=w.drawn+1 };have aFD:Fit E s a w1:=⟨⟨fit.rel.fresh,fit.rel.res,fit.rel.live,fit.rel.inj,fit.rel.Bv,fit.rel.glob⟩,fit.sr,fit.pc⟩
     have hlist: ∀(i:Nat),(Array.replicate ops.size false)[i]?≠some true:=by intro i hh;have:=Array.mem_of_getElem? hh;simp at this
     refine p.any (E0:=E) (a0:=a) (w0:=w1) hd ?_ ops.size _ a w1 (by simp) ?_ (p.start rfl rfl rfl aFD _ hlist)
     ·intro a' w' inv;obtain⟨ps,s1,s2⟩:=rf.qG;rw [rF] at s2
      have hlen:rest.length=lX tt ops.toList:=by
       have:d.qG.length=lX tt ops.toList+1:=by rw [s1,List.length_append,s2]; rfl
       rw [aBo] at this;simpa using this
      have hlast:d.qG.reverse[lX tt ops.toList]?=some (h0,mm):=by rw [← hlen];exact rev_at (pre:=[]) aBo
      obtain⟨q1,q2⟩:=p4 _ _ _ hlast
      have hnx:=rf.nxt (by
       intro q hq;simp only [List.mem_cons,List.not_mem_nil,or_false] at hq;subst hq
       exact⟨Nat.le_add_right _ _,rfl⟩) (h0,mm) (by rw [aBo]; simp)
      have ht:=p.finish (s0:=s) (s':=⟨d.slots,gJ s.h.next ((1 <<< ops.toList.length) - 1) mm d.blks h0,pc2⟩) (w0:=w1) rfl inv hp2 ?_ ?_ ?_ ?_ p6
      ·refine hq a' w' ⟨ht.defers,ht.size,?_⟩;obtain⟨E',st,f'⟩:=ht.step;exact⟨E',⟨st.ρ,st.dm,st.θ,st.κ,st.ro,st.Jk,st.nxm,st.rsm,st.dmn,st.os,st.tape,st.output,st.size,st.keep,st.own⟩,f'⟩
      ·intro t x ht;rcases rf.slot t x ht with ⟨j,y,g1,g2,g3⟩ | ⟨g1,g2⟩
       ·cases hoj:ops.toList[j]? with
        | none=>rw [mM,hoj] at g1; simp at g1
        | some oj=> rw [kH hoj] at g1;simp at g1;subst g1;refine .inl ⟨j,oj,by rw [← hsz]; exact hoj,g2,?_⟩;simp only [List.length_nil,Nat.zero_add] at g3;rw [p3,g3];rfl
       ·refine .inr ⟨g1,fun j oj hoj=>?_⟩;exact g2 _ (List.mem_of_getElem? (kH (by rw [hsz]; exact hoj)))
      ·intro id x hx;rw [p2,q1,p1];rcases uI hx with h | ⟨b,b1,b2,b3,b4⟩
       ·exact .inl h
       ·right
        have hlt:b < ops.size:=by have:=aeZ b2;simpa using this
        refine⟨b,hlt,by rw [q2,b3]; rfl,b4,?_⟩;rcases rf.blk b x b1 with h | ⟨j,y,g1,g2,g3⟩
        ·simp at h
        ·cases hoj:ops.toList[j]? with
         | none=>rw [mM,hoj] at g1; simp at g1
         | some oj=> rw [kH hoj] at g1;simp at g1;subst g1;have:j=b:=g2;subst this;simp only [List.length_nil,Nat.zero_add] at g3;rw [p5,g3];rfl
      ·rw [p2,q1];exact (lY _ _).1.symm
      ·show (gJ s.h.next ((1 <<< ops.toList.length) - 1) mm d.blks h0).res=none;rw [(lY _ _).2];exact hnx.2
     ·have: ∀(l:Nat→Bool) (n:Nat),left l n≤n:=by
       intro l n
       induction n with
       | zero=>exact Nat.le_refl _
       | succ n ih=>simp only [left]; split <;> omega
      exact this _ _
    ·simp [T.leaf] at h4
theorem awC [Glob] {tt:TT} (htt:eG P tt) (hm:P.follows .mixedOrders=true) {call:dR} (hc:jW P call):awW P (draw tt call):=by intro id ops E s s' a w Q hd fit h hq;exact wp_region_any hm (Om htt hc hd fit h hq)
end
end Go.As
end
section
namespace Go.As
noncomputable section
open Go.RowKit
section
variable {P:Program}
def En.zero (ρ:Nat→Int) (ro:Nat→Prop):En:={ ρ:=ρ,θ:=fun _=>(0,0),κ:=fun _=>0,dm:=fun _=>False,ro:=ro }
def Hp.zero:Hp:=⟨.nil,0,none⟩
theorem VL [Glob] (ρ:Nat→Int) (ro:Nat→Prop) (w:World) (h: ∀b,ro b→b < w.heap.size) (hg:Glob.ok ρ ro w.heap):bH (En.zero ρ ro) Hp.zero w:=
 ⟨fun _ _ h=>h,by simp [Hp.zero],fun id o h=>by simp [Hp.zero,Hp.get,Tr.get] at h,fun id _ o _ h=>by simp [Hp.zero,Hp.get,Tr.get] at h,h,hg⟩
theorem Stp.below {E E':En} {H':Hp} {w w':World} (s:Stp E Hp.zero w E' H' w'):Below w.heap.size w w':=
 ⟨s.os,s.tape,s.output,s.size,fun k hk=>s.keep k hk fun id o h=>by simp [Hp.zero,Hp.get,Tr.get] at h⟩
theorem Ho [Glob] {g:FuncId} {f:List AV→St→T (AV×St)} (hf:nC P g f) {fn:Func} (hfn:P.funcs[g]?=some fn) (hname:(fn.name == "runtime.NumGoroutine")=false) {c:Code} (hb2:fn.body=some c)
 {ρ:Nat→Int} {ro:Nat→Prop} {w:World} (hro: ∀b,ro b→b < w.heap.size) (hg:Glob.ok ρ ro w.heap) {args:List AV} {vals:List Value} (hv:bJ (En.zero ρ ro) w.heap args vals) {v:AV} {s':St}
 (h:(f args ⟨.nil,Hp.zero,[]⟩).leaf ρ=some (v,s')):Calls P g vals.toArray w fun e w'=> ∃u E',e= .returned u∧VR E' w'.heap v u∧E'.ρ=ρ∧Below w.heap.size w w':=by
 obtain⟨_,_,h3⟩:=hf args ⟨.nil,Hp.zero,[]⟩ (En.zero ρ ro) w vals v s' (VL ρ ro w hro hg) hv (by simp [bI]) h
 have hrun:(callFunc g vals.toArray).run P w= .ok (.enter g vals.toArray) w:=by unfold callFunc;simp [hfn,hb2,by simpa using hname]
 unfold uV uT at h3;rw [hrun] at h3;exact Calls.mono h3 fun e w' ⟨u,he,E',st,_,hv⟩=> ⟨u,E',he,hv,st.ρ,st.below⟩
end
end
end Go.As
end
section
namespace Go.As
noncomputable section
open Go.RowKit
mutual
def jR:AV→Bool
 | .bool (.lit _)=>true
 | .int _ (.lit _)=>true
 | .str _=>true
 | .jS=>true
 | .aA=>true
 | .mO=>true
 | .BI=>true
 | .ES=>true
 | .iface _ v=>jR v
 | .agg cs=>uF cs
 | .tuple cs=>uF cs
 | .func _ fs cs=>uF fs && uF cs
 | _=>false
def uF:List AV→Bool
 | []=>true
 | x :: xs=>jR x && uF xs
end
section
variable {P:Program}
mutual
theorem DU {E E':En} {h h':Array Obj}: ∀(x:AV) (u:Value),jR x=true→VR E h x u→VR E' h' x u
 | .bool b,u,hc,hv=>by cases b <;> simp [jR] at hc; simpa [VR,SB.den] using hv
 | .int k e,u,hc,hv=>by cases e <;> simp [jR] at hc; simpa [VR,SE.den] using hv
 | .str s,u,_,hv=>by simp only [VR] at *; exact hv
 | .jS,u,_,hv=>by simp only [VR] at *; exact hv
 | .aA,u,_,hv=>by simp only [VR] at *; exact hv
 | .mO,u,_,hv=>by simp only [VR] at *; exact hv
 | .BI,u,_,hv=>by simp only [VR] at *; exact hv
 | .ES,u,_,hv=>by simp only [VR] at *; exact hv
 | .iface t x,u,hc,hv=>by simp only [VR,jR] at *;obtain⟨y,h1,h2⟩:=hv;exact⟨y,h1,DU x y hc h2⟩
 | .agg cs,u,hc,hv=>by simp only [VR,jR] at *;obtain⟨us,h1,h2⟩:=hv;exact⟨us,h1,sD cs us hc h2⟩
 | .tuple cs,u,hc,hv=>by simp only [VR,jR] at *;obtain⟨us,h1,h2⟩:=hv;exact⟨us,h1,sD cs us hc h2⟩
 | .func fn fs cs,u,hc,hv=>by simp only [VR,jR,Bool.and_eq_true] at *;obtain⟨us,ws,h1,h2,h3⟩:=hv;exact⟨us,ws,h1,sD fs us hc.1 h2,sD cs ws hc.2 h3⟩
 | .ptr _ _,_,hc,_=>by simp [jR] at hc
 | .rV _,_,hc,_=>by simp [jR] at hc
 | .slice _ _ _ _,_,hc,_=>by simp [jR] at hc
 | .ro _ _ _,_,hc,_=>by simp [jR] at hc
 | .map _,_,hc,_=>by simp [jR] at hc
 | .opq _,_,hc,_=>by simp [jR] at hc
 | .inp _ _,_,hc,_=>by simp [jR] at hc
theorem sD {E E':En} {h h':Array Obj}: ∀(xs:List AV) (us:List Value),uF xs=true→bJ E h xs us→bJ E' h' xs us
 | [],us,_,hv=>by simp only [bJ] at *; exact hv
 | x :: xs,us,hc,hv=>by simp only [bJ,uF,Bool.and_eq_true] at *;obtain⟨u,vs,h1,h2,h3⟩:=hv;exact⟨u,vs,h1,DU x u hc.1 h2,sD xs vs hc.2 h3⟩
end
theorem DX [Glob] {E:En} {H:Hp} {w w':World} (r:bH E H w) (b:Below w.heap.size w w'):Stp E H w E H w'∧bH E H w':=by have hk:Keeps E w.heap E w'.heap:=⟨rfl,fun _ h=>h,fun _ _=>rfl,fun _ _=>rfl,fun _ h=>h,fun x hx=>b.block x (r.Bv x hx)⟩;refine⟨⟨rfl,fun _ h=>h,fun _ _=>rfl,fun _ _=>rfl,fun _ h=>h,fun _ h=> .inl h,Nat.le_refl _,.inr rfl,fun _ h=> .inl h,b.os,b.tape,b.output,b.size,fun x hx _=>b.block x hx,fun id o h _=> ⟨id,o,h,rfl⟩⟩,r.fresh,r.res,fun id o h=>?_,r.inj,fun x hx=>Nat.lt_of_lt_of_le (r.Bv x hx) b.size,Glob.keep r.glob hk.ro hk.Mc⟩;obtain⟨h1,h2,h3⟩:=r.live id o h;exact⟨h1,h2.keep hk h1 (b.block _ (jH r h)),h3⟩
def memo (args:List AV) (v:AV):List AV→St→T (AV×St):=fun aF9 s=>if kG aF9 args then .ret (v,s) else .fail
def gives (args:List AV) (v:AV) (f:List AV→St→T (AV×St)):Bool:=
 uF args && jR v && (match f args ⟨.nil,Hp.zero,[]⟩ with | .ret (u,_)=>eU u v | _=>false)
theorem KG [Glob] {g:FuncId} {f:List AV→St→T (AV×St)} (hf:nC P g f) {fn:Func} (hfn:P.funcs[g]?=some fn) (hname:(fn.name == "runtime.NumGoroutine")=false) {c:Code} (hb:fn.body=some c)
 {args:List AV} {v:AV} (h:gives args v f=true):nC P g (memo args v):=by
 intro aF9 s E w vals u s' r hv hp hl;unfold memo at hl;split at hl
 ·rename_i hs;have:=aF hl;simp only [Prod.mk.injEq] at this;obtain⟨rfl,rfl⟩:=this;rw [gX _ _ hs] at hv;unfold gives at h;simp only [Bool.and_eq_true] at h;obtain⟨⟨h1,h2⟩,h3⟩:=h;split at h3
  ·rename_i u' s1 hrun;have hu:=nZ _ _ h3;subst hu;have hc:=Ho hf hfn hname hb (ρ:=E.ρ) (ro:=E.ro) (w:=w) r.Bv r.glob (sD args vals h1 hv) (v:=u') (s':=s1) (by rw [hrun]; rfl);refine⟨rfl,hp,?_⟩
   have hrun:(callFunc g vals.toArray).run P w= .ok (.enter g vals.toArray) w:=by unfold callFunc;simp [hfn,hb,by simpa using hname]
   unfold uV uT;rw [hrun];exact Calls.mono hc fun e w' ⟨x,E',he,hx,_,hbl⟩=> ⟨x,he,E,(DX r hbl).1,(DX r hbl).2,DU u' x h2 hx⟩
  ·simp at h3
 ·simp [T.leaf] at hl
def orElse (f g:List AV→St→T (AV×St)):List AV→St→T (AV×St):=fun aF9 s=>match f aF9 s with | .fail=>g aF9 s | x=>x
theorem Dp [Glob] {id:FuncId} {f g:List AV→St→T (AV×St)} (hf:nC P id f) (hg:nC P id g):nC P id (orElse f g):=by
 intro aF9 s E w vals u s' r hv hp hl;unfold orElse at hl;split at hl
 ·exact hg aF9 s E w vals u s' r hv hp hl
 ·exact hf aF9 s E w vals u s' r hv hp hl
end
end
end Go.As
end
section
namespace Go.As
noncomputable section
open Go.RowKit
section
variable {P:Program}
theorem DF {g:FuncId} {fn:Func} {e:Array Value→Sem Value} (hf:P.funcs[g]?=some fn) (hname:(fn.name == "runtime.NumGoroutine")=false) (hb:fn.body.isNone=true) (hn:Extern.findNext fn=none) (he:Extern.find fn=some e)
 {args:Array Value} {w:World} {u:Value} (hr:(e args).run P w= .ok u w):(callFunc g args).run P w= .ok (.value u) w:=by
 have hb2:fn.body=none:=by simpa using hb
 unfold callFunc;simp [hf,hb2,by simpa using hname,hn,he,hr]
def OC (c:Nat):List Nat→Nat
 | []=>0
 | x :: xs=>if x.beq c then OC c xs+1 else OC c xs
def IK:List AV→St→T (AV×St):=fun args s=>match args with
 | [.str b,.int .u8 (.lit (.ofNat c))]=>if c < 256 then .ret (.int .i64 (.lit (Int.ofNat (OC c b))),s) else .fail
 | _=> .fail
theorem TL {a b:Nat} (ha:a < 256) (hb:b < 256):(UInt8.ofNat a == UInt8.ofNat b)=a.beq b:=by
 rw [Bool.eq_iff_iff];simp only [beq_iff_eq,Nat.beq_eq];constructor
 ·intro h;have:=congrArg UInt8.toNat h;simp only [UInt8.toNat_ofNat'] at this;omega
 ·intro h;rw [h]
theorem SN {c:Nat} (hc:c < 256): ∀{s:List Nat},(∀b∈s,b < 256)→Lib.countByte (s.map UInt8.ofNat) (UInt8.ofNat c)=OC c s
 | [],_=>rfl
 | x :: xs,h=>by have ih:=SN hc (s:=xs) fun b hb=>h b (by simp [hb]);unfold Lib.countByte at *;rw [List.map_cons,List.count_cons,ih,TL (h x (by simp)) hc];simp only [OC];cases x.beq c <;> simp
theorem aqR [Glob] {g:FuncId} {fn:Func} (hf:P.funcs[g]?=some fn) (hname:(fn.name == "runtime.NumGoroutine")=false) (hb:fn.body.isNone=true) (hn:Extern.findNext fn=none) (he:Extern.find fn=some Extern.BytealgCount.count):nC P g IK:=by
 intro aF9 s E w vals u s' r hv hp hl;unfold IK at hl;split at hl
 ·rename_i b c;split at hl
  ·rename_i hc;have:=aF hl;simp only [Prod.mk.injEq] at this;obtain⟨rfl,rfl⟩:=this;simp only [bJ,VR,SE.den] at hv;obtain⟨u1,r1,rfl,⟨rfl,hbb⟩,u2,r2,rfl,rfl,rfl⟩:=hv;refine⟨rfl,hp,?_⟩;unfold uV uT;rw [DF hf hname hb hn he (Lib.run_countString (bZ b) (Int.ofNat c) w)];refine⟨E,Stp.refl _ _ _,r,?_⟩;simp only [VR,SE.den];have:(Int.ofNat c).toNat.toUInt8=UInt8.ofNat c:=rfl;rw [this];have h2:(bZ b).data.toList=b.map UInt8.ofNat:=by simp [bZ]
   rw [h2,SN hc hbb];rfl
  ·simp [T.leaf] at hl
 ·simp [T.leaf] at hl
def Ns (c:Nat):List Nat→Int
 | []=> -1
 | x :: xs=>if x.beq c then 0 else match Ns c xs with
   | .ofNat n=> .ofNat (n+1)
   | .negSucc n=> .negSucc n
def IJ:List AV→St→T (AV×St):=fun args s=>match args with
 | [.str b,.int .u8 (.lit (.ofNat c))]=>if c < 256 then .ret (.int .i64 (.lit (Ns c b)),s) else .fail
 | _=> .fail
theorem RP {c:Nat} (hc:c < 256): ∀{s:List Nat},(∀b∈s,b < 256)→Lib.indexByte (s.map UInt8.ofNat) (UInt8.ofNat c)=Ns c s
 | [],_=>rfl
 | x :: xs,h=>by
   have ih:=RP hc (s:=xs) fun b hb=>h b (by simp [hb]);have hge:=Lib.indexByte_ge (xs.map UInt8.ofNat) (UInt8.ofNat c);simp only [List.map_cons,Lib.indexByte,Ns];rw [TL (h x (by simp)) hc];cases x.beq c
   ·simp only [Bool.false_eq_true,if_false];rw [ih] at hge ⊢
    cases hi:Ns c xs with
    | ofNat n=>rw [hi] at hge; simp
    | negSucc n=>
      rw [hi] at hge;have:n=0:=by omega
      subst this;rfl
   ·rfl
theorem amN [Glob] {g:FuncId} {fn:Func} (hf:P.funcs[g]?=some fn) (hname:(fn.name == "runtime.NumGoroutine")=false) (hb:fn.body.isNone=true) (hn:Extern.findNext fn=none) (he:Extern.find fn=some Extern.BytealgIndexByte.indexByte):nC P g IJ:=by
 intro aF9 s E w vals u s' r hv hp hl;unfold IJ at hl;split at hl
 ·rename_i b c;split at hl
  ·rename_i hc;have:=aF hl;simp only [Prod.mk.injEq] at this;obtain⟨rfl,rfl⟩:=this;simp only [bJ,VR,SE.den] at hv;obtain⟨u1,r1,rfl,⟨rfl,hbb⟩,u2,r2,rfl,rfl,rfl⟩:=hv;refine⟨rfl,hp,?_⟩;unfold uV uT;rw [DF hf hname hb hn he (Lib.run_indexByteString (bZ b) (Int.ofNat c) w)];refine⟨E,Stp.refl _ _ _,r,?_⟩;simp only [VR,SE.den];have:(Int.ofNat c).toNat.toUInt8=UInt8.ofNat c:=rfl;rw [this];have h2:(bZ b).data.toList=b.map UInt8.ofNat:=by simp [bZ]
   rw [h2,RP hc hbb]
  ·simp [T.leaf] at hl
 ·simp [T.leaf] at hl
def Ul:List Nat→List Nat→Bool
 | [],_=>true
 | _ :: _,[]=>false
 | a :: x,b :: y=>if a.beq b then Ul x y else false
def Fz (c:List Nat):List Nat→Bool
 | []=>Ul c []
 | b :: bs=>if Ul c (b :: bs) then true else Fz c bs
def Ac:List AV→St→T (AV×St):=fun args s=>match args with
 | [.str b,.str c]=>if b.length < 4294967281 then .ret (.bool (.lit (Fz c b)),s) else .fail
 | _=> .fail
theorem abZ: ∀{c s:List Nat},(∀b∈c,b < 256)→(∀b∈s,b < 256)→(c.map UInt8.ofNat).isPrefixOf (s.map UInt8.ofNat)=Ul c s
 | [],_,_,_=>by simp [Ul]
 | _ :: _,[],_,_=>by simp [Ul]
 | a :: x,b :: y,hc,hs=>by have ih:=abZ (c:=x) (s:=y) (fun z hz=>hc z (by simp [hz])) (fun z hz=>hs z (by simp [hz]));simp only [List.map_cons,List.isPrefixOf,Ul];rw [TL (hc a (by simp)) (hs b (by simp)),ih];cases a.beq b <;> simp
theorem index_ge (sub:List UInt8): ∀l:List UInt8,-1≤Lib.index l sub
 | []=>by unfold Lib.index; split <;> omega
 | b :: l=>by
   have ih:=index_ge sub l;unfold Lib.index;split
   ·omega
   ·split <;> omega
theorem Ld {c:List Nat} (hc: ∀b∈c,b < 256): ∀{s:List Nat},(∀b∈s,b < 256)→Lib.contains (s.map UInt8.ofNat) (c.map UInt8.ofNat)=Fz c s
 | [],_=>by cases c <;> simp [Lib.contains,Lib.index,Fz,Ul]
 | b :: bs,h=>by
   have ih:=Ld hc (s:=bs) fun z hz=>h z (by simp [hz]);have hp:=abZ hc h;simp only [List.map_cons] at hp;unfold Lib.contains at *;simp only [List.map_cons,Lib.index,Fz];rw [hp,← ih];have hge:=index_ge (c.map UInt8.ofNat) (bs.map UInt8.ofNat);cases Ul c (b :: bs)
   ·simp only [Bool.false_eq_true,if_false];by_cases h1:Lib.index (bs.map UInt8.ofNat) (c.map UInt8.ofNat)= -1
    ·rw [h1]; rfl
    ·rw [if_neg (by simpa using h1)];rw [decide_eq_decide];omega
   ·simp
theorem XP [Glob] {g:FuncId} (hg: ∀(ρ:Nat→Int) (ro:Nat→Prop) (w:World),Glob.ok ρ ro w.heap→∀s sub:ByteArray,s.size < 4294967281→Calls P g #[.string s,.string sub] w fun e w'=>e= .returned (.bool (Lib.contains s.data.toList sub.data.toList))∧w'=w)
 (hrun: ∀(args:Array Value) (w:World),(callFunc g args).run P w= .ok (.enter g args) w):nC P g Ac:=by
 intro aF9 s E w vals u s' r hv hp hl;unfold Ac at hl;split at hl
 ·rename_i b c;split at hl
  ·rename_i hlen;have:=aF hl;simp only [Prod.mk.injEq] at this;obtain⟨rfl,rfl⟩:=this;simp only [bJ,VR] at hv;obtain⟨u1,r1,rfl,⟨rfl,hbb⟩,u2,r2,rfl,⟨rfl,hcc⟩,rfl⟩:=hv;refine⟨rfl,hp,?_⟩;unfold uV uT;rw [hrun];refine Calls.mono (hg E.ρ E.ro w r.glob (bZ b) (bZ c) (by simpa [bZ,ByteArray.size] using hlen)) fun e w' ⟨he,hw⟩=>?_;subst hw;refine⟨_,he,E,Stp.refl _ _ _,r,?_⟩;simp only [VR,SB.den];have h2: ∀l:List Nat,(bZ l).data.toList=l.map UInt8.ofNat:=by intro l; simp [bZ]
   rw [h2,h2,Ld hcc hbb]
  ·simp [T.leaf] at hl
 ·simp [T.leaf] at hl
end
end
end Go.As
end
section
namespace Go.As
noncomputable section
structure JR where
 m:Nat
 k:Kind
 st:Nat
 rd:List Nat
structure Yf where
 is:List JR
 nE:Nat
 rs:List (Nat×List Nat)
def Zh:Kind→Kind→Bool
 | .pa,.pa=>true
 | .e,.e=>true
 | .r,.r=>true
 | _,_=>false
def ER:List Nat→List Nat→Bool
 | [],[]=>true
 | a :: x,b :: y=>Nat.beq a b && ER x y
 | _,_=>false
def Ip:List Item→List JR→Bool
 | [],[]=>true
 | x :: xs,d :: ds=>Nat.beq x.m d.m && Zh x.k d.k && Nat.beq x.st d.st && ER x.rd d.rd && Ip xs ds
 | _,_=>false
def Il:List (Item×List Nat)→List (Nat×List Nat)→Bool
 | [],[]=>true
 | (x,ks) :: xs,(i,js) :: ys=>Nat.beq x.i i && ER ks js && Il xs ys
 | _,_=>false
def Ic:Nat→List Oper→List JR→List Item
 | i,o :: os,d :: ds=> ⟨i,o,d.m,d.k,d.st,d.rd⟩ :: Ic (i+1) os ds
 | _,_,_=>[]
def afH (is:List Item):List (Nat×List Nat)→List (Item×List Nat)
 | []=>[]
 | (i,ks) :: r=>match gK is i with
   | some x=>(x,ks) :: afH is r
   | none=>afH is r
def statOf (all:List Oper) (H:Yf):Stat:=⟨Ic 0 all H.is,H.nE,afH (Ic 0 all H.is) H.rs⟩
def BQ (tt:TT) (all:List Oper) (H:Yf):Bool:=match stat tt all with
 | none=>false
 | some q=>Ip q.is H.is && Nat.beq q.nE H.nE && Il q.rs H.rs
theorem agE {a b:Kind} (h:Zh a b=true):a=b:=by cases a <;> cases b <;> simp [Zh] at h <;> rfl
theorem Iz: ∀{a b:List Nat},ER a b=true→a=b
 | [],[],_=>rfl
 | [],_ :: _,h=>by simp [ER] at h
 | _ :: _,[],h=>by simp [ER] at h
 | a :: x,b :: y,h=>by simp only [ER,Bool.and_eq_true] at h;rw [Nat.eq_of_beq_eq_true h.1,Iz h.2]
theorem RH {tt:TT} {all:List Oper} {ms:List Nat}: ∀{os:List Oper} {i n:Nat} {ds:List JR},Ip (items tt all ms os i n) ds=true→items tt all ms os i n=Ic i os ds
 | [],i,n,ds,h=>by cases ds <;> simp [items,Ip,Ic] at *
 | o :: os,i,n,ds,h=>by
   cases ds with
   | nil=>simp [items,Ip] at h
   | cons d ds=> simp only [items,Ip,Bool.and_eq_true] at h;obtain⟨⟨⟨⟨h1,h2⟩,h3⟩,h4⟩,h5⟩:=h;have ih:=RH h5;simp only [items,Ic];rw [ih,Nat.eq_of_beq_eq_true h1,agE h2,Nat.eq_of_beq_eq_true h3,Iz h4]
theorem abX {is:List Item}: ∀{xs:List (Item×List Nat)} {ys:List (Nat×List Nat)},(∀p∈xs,gK is p.1.i=some p.1)→Il xs ys=true→afH is ys=xs
 | [],[],_,_=>rfl
 | [],_ :: _,_,h=>by simp [Il] at h
 | _ :: _,[],_,h=>by simp [Il] at h
 | (x,ks) :: xs,(i,js) :: ys,hm,h=>by simp only [Il,Bool.and_eq_true] at h;have h1:=hm (x,ks) (by simp);simp only [afH];rw [← Nat.eq_of_beq_eq_true h.1.1,h1,← Iz h.1.2,abX (fun p hp=>hm p (by simp [hp])) h.2]
theorem VK: ∀{i:Nat} {os:List Oper} {ds:List JR} {x:Item},x∈Ic i os ds→i≤x.i∧gK (Ic i os ds) (x.i - i)=some x
 | _,[],_,_,h=>by simp [Ic] at h
 | _,_ :: _,[],_,h=>by simp [Ic] at h
 | i,o :: os,d :: ds,x,h=>by
   simp only [Ic,List.mem_cons] at h ⊢;rcases h with rfl | h
   ·simp [gK]
   ·obtain⟨h1,h2⟩:=VK h;refine⟨by omega,?_⟩;have:x.i - i=(x.i - (i+1))+1:=by omega
    rw [this];exact h2
theorem IL {tt:TT} {all:List Oper} {H:Yf} (h:BQ tt all H=true):stat tt all=some (statOf all H):=by
 unfold BQ at h;split at h
 ·simp at h
 ·rename_i q hq;rw [hq];simp only [Bool.and_eq_true] at h;obtain⟨⟨h1,h2⟩,h3⟩:=h;have hq':=hq;unfold stat at hq';simp only at hq';split at hq'
  ·simp only [Option.some.injEq] at hq';subst hq';have e1:=RH h1;simp only at h2 h3
   have e3:afH (Ic 0 all H.is) H.rs=_:=abX (is:=Ic 0 all H.is) (by
    intro p hp;simp only [List.mem_map,List.mem_filter] at hp;obtain⟨x,⟨hx,_⟩,rfl⟩:=hp;rw [e1] at hx;have:=(VK hx).2
    simpa using this) h3
   unfold statOf;rw [e3,← Nat.eq_of_beq_eq_true h2,← e1]
  ·simp at hq'
end
end Go.As
end
section
namespace Go.As
noncomputable section
def Ej (pos:Nat→Nat) (o:Oper):Oper:={ o with after:=o.after.map (fun e=>{ e with on:=pos e.on }),guard:=match o.guard with | none=>none | some (j,b)=>some (pos j,b) }
def posOf:List Nat→Nat→Nat
 | [],_=>0
 | x :: xs,i=>match Nat.beq x i with
   | true=>0
   | false=>posOf xs i+1
def Jp (pos:Nat→Nat) (all:List Oper):List Nat→List Oper
 | []=>[]
 | i :: is=>match gK all i with
   | some o=>Ej pos o :: Jp pos all is
   | none=>[]
def iM (ord:List Nat) (all:List Oper):List Oper:=Jp (posOf ord) all ord
def Um (ord:List Nat) (n:Nat):Bool:=
 Nat.beq ord.length n && (List.range n).all (fun i=>match gK ord (posOf ord i) with | some j=>Nat.beq i j | none=>false) &&
 (List.range n).all (fun j=>match gK ord j with | some i=>Nat.blt i n && Nat.beq (posOf ord i) j | none=>false)
theorem Wy: ∀(ord:List Nat) (i:Nat),posOf ord i≤ord.length
 | [],_=>Nat.le_refl _
 | x :: xs,i=>by
   simp only [posOf,List.length_cons];split
   ·omega
   ·have:=Wy xs i; omega
theorem QL: ∀(ord:List Nat) (i:Nat),posOf ord i < ord.length→ord[posOf ord i]?=some i
 | [],_,h=>by simp [posOf] at h
 | x :: xs,i,h=>by
   simp only [posOf,List.length_cons] at h ⊢;split
   ·rename_i he;simp [Nat.eq_of_beq_eq_true he]
   ·rename_i he;rw [he] at h;simp only at h;simpa using QL xs i (by omega)
structure Perm (n:Nat) (ord:List Nat):Prop where
 len:ord.length=n
 at': ∀i,i < n→ord[posOf ord i]?=some i
 back: ∀j,j < n→∃i,ord[j]?=some i∧i < n∧posOf ord i=j
theorem afR {ord:List Nat} {n:Nat} (h:Um ord n=true):Perm n ord:=by
 unfold Um at h;simp only [Bool.and_eq_true,List.all_eq_true,List.mem_range] at h;obtain⟨⟨h1,h2⟩,h3⟩:=h;refine⟨Nat.eq_of_beq_eq_true h1,fun i hi=>?_,fun j hj=>?_⟩
 ·have:=h2 i hi;split at this
  ·rename_i j hjj;rw [dB] at hjj;rw [hjj,Nat.eq_of_beq_eq_true this]
  ·simp at this
 ·have:=h3 j hj;split at this
  ·rename_i i hii;rw [dB] at hii;simp only [Bool.and_eq_true] at this;exact⟨i,hii,by simpa [Nat.blt_eq] using this.1,Nat.eq_of_beq_eq_true this.2⟩
  ·simp at this
theorem Perm.lt {n:Nat} {ord:List Nat} (p:Perm n ord) {i:Nat} (hi:i < n):posOf ord i < n:=by have:=p.at' i hi;rw [← p.len];exact (List.getElem?_eq_some_iff.1 this).1
theorem Perm.ge {n:Nat} {ord:List Nat} (p:Perm n ord) {i:Nat} (hi: ¬i < n):posOf ord i=n:=by
 have h1:=Wy ord i;rw [p.len] at h1;rcases Nat.lt_or_ge (posOf ord i) n with h | h
 ·have h2:=QL ord i (by rw [p.len]; exact h);obtain⟨k,h3,h4,_⟩:=p.back _ h;rw [h2] at h3;simp only [Option.some.injEq] at h3;omega
 ·omega
theorem Perm.inj {n:Nat} {ord:List Nat} (p:Perm n ord) {i j:Nat} (hi:i < n) (hj:j < n) (h:posOf ord i=posOf ord j):i=j:=by have h1:=p.at' i hi;have h2:=p.at' j hj;rw [h,h2] at h1;simpa using h1.symm
theorem QO {pos:Nat→Nat} {all:List Oper}: ∀{is:List Nat},(∀i∈is,i < all.length)→∀j:Nat,(Jp pos all is)[j]?=(is[j]?).bind fun i=>(all[i]?).map (Ej pos)
 | [],_,j=>by simp [Jp]
 | i :: is,h,j=>by
   have hi:=h i (by simp);have ih:=QO (pos:=pos) (is:=is) fun k hk=>h k (by simp [hk]);simp only [Jp];rw [dB,List.getElem?_eq_getElem hi]
   cases j with
   | zero=>simp [List.getElem?_eq_getElem hi]
   | succ j=>simpa using ih j
section
variable {P:Program}
theorem tJ {ord:List Nat} {ops:Array Oper} (p:Perm ops.size ord) {i:Nat} (hi:i < ops.size):(iM ord ops.toList)[posOf ord i]?=(ops[i]?).map (Ej (posOf ord)):=by
 unfold iM
 rw [QO (by
  intro k hk;obtain⟨j,hj,rfl⟩:=List.getElem_of_mem hk;obtain⟨i',h1,h2,_⟩:=p.back j (by rw [← p.len]; exact hj);rw [List.getElem?_eq_getElem hj] at h1;simp only [Option.some.injEq] at h1;rw [h1]
  simpa using h2),p.at' i hi]
 simp
theorem wV {ord:List Nat} {ops:Array Oper} (p:Perm ops.size ord):(iM ord ops.toList).length=ops.size:=by
 have h0: ∀j,j < ops.size→(iM ord ops.toList)[j]?.isSome=true:=by intro j hj;obtain⟨i,_,h2,h3⟩:=p.back j hj;have:=tJ p h2;rw [h3] at this;rw [this];simp [h2]
 have hle:(iM ord ops.toList).length≤ops.size:=by
  have: ∀(is:List Nat),(Jp (posOf ord) ops.toList is).length≤is.length:=by
   intro is
   induction is with
   | nil=>simp [Jp]
   | cons i is ih=>simp only [Jp]; split <;> simp; omega
  have:=this ord;rw [p.len] at this;exact this
 rcases Nat.lt_or_ge (iM ord ops.toList).length ops.size with h | h
 ·have:=h0 _ h;rw [List.getElem?_eq_none (Nat.le_refl _)] at this;simp at this
 ·omega
theorem akY (pos:Nat→Nat) (o:Oper) (a:Act) (w:World) (K:Act→World→Prop) (Q:Exit→Act→World→Prop):(Ej pos o).wp P a w K Q=o.wp P a w K Q:=rfl
theorem Y2 (pos:Nat→Nat) (o:Oper) (a:Act) (w:World):(Ej pos o).asks P a w=o.asks P a w:=rfl
theorem TD {ord:List Nat} {ops:Array Oper} (p:Perm ops.size ord) (tmps:Array Value) (j:Nat):yielded (iM ord ops.toList).toArray tmps (posOf ord j)=yielded ops tmps j:=by
 unfold yielded
 have:((iM ord ops.toList).toArray[posOf ord j]?).bind (·.dst)=(ops[j]?).bind (·.dst):=by
  rw [List.getElem?_toArray];rcases Nat.lt_or_ge j ops.size with h | h
  ·rw [tJ p h];cases ops[j]? <;> rfl
  ·rw [p.ge (by omega),List.getElem?_eq_none (by rw [wV p]; exact Nat.le_refl _),Array.getElem?_eq_none h]
 rw [this]
theorem VP {ord:List Nat} {ops:Array Oper} (p:Perm ops.size ord) (tmps:Array Value) (o:Oper) :
 Region.wanted (Ej (posOf ord) o) (yielded (iM ord ops.toList).toArray tmps)=Region.wanted o (yielded ops tmps):=by
 unfold Region.wanted Ej
 cases hg:o.guard with
 | none=>rfl
 | some g=> obtain⟨j,b⟩:=g;simp only;rw [TD p]
theorem mJ {md:Region.Mode} {ops:Array Oper} {listed:Array Bool} {i:Nat}:i∈Region.ready md ops listed↔∃o,ops[i]?=some o∧listed.getD i true=false∧∀e∈o.after.toList,Region.binds md e=true→listed.getD e.on false=true:=by
 unfold Region.ready;simp only [List.mem_filter,List.mem_range,Bool.and_eq_true,Bool.not_eq_true'];constructor
 ·rintro⟨h1,h2,h3⟩;have e:=Array.getElem?_eq_getElem h1;refine⟨_,e,h2,?_⟩;rw [e] at h3;simp only [Option.map_some,Option.getD_some,Array.all_eq_true_iff_forall_mem] at h3;intro x hx hb;have:=h3 x (by simpa using hx);rw [hb] at this;simpa using this
 ·rintro⟨o,h1,h2,h3⟩;have hi:i < ops.size:=(Array.getElem?_eq_some_iff.1 h1).1;refine⟨hi,h2,?_⟩;rw [h1];simp only [Option.map_some,Option.getD_some,Array.all_eq_true_iff_forall_mem];intro x hx
  cases hb:Region.binds md x with
  | false=>rfl
  | true=>simpa using h3 x (by simpa using hx) hb
theorem EM {md:Region.Mode} {ord:List Nat} {ops:Array Oper} (p:Perm ops.size ord) {listed listed':Array Bool} (hz:listed.size=ops.size) (hz':listed'.size=ops.size) (hl: ∀i,i < ops.size→listed'[posOf ord i]?=listed[i]?) {i:Nat} (hi:i < ops.size) :
 posOf ord i∈Region.ready md (iM ord ops.toList).toArray listed'↔i∈Region.ready md ops listed:=by
 have hg: ∀(k:Nat) (d:Bool),listed'.getD (posOf ord k) d=listed.getD k d:=by
  intro k d;simp only [Array.getD_eq_getD_getElem?];rcases Nat.lt_or_ge k ops.size with h | h
  ·rw [hl k h]
  ·rw [p.ge (by omega),Array.getElem?_eq_none (by omega),Array.getElem?_eq_none (by omega)]
 rw [mJ,mJ,List.getElem?_toArray,tJ p hi,hg];constructor
 ·rintro⟨o,h1,h2,h3⟩;rw [Option.map_eq_some_iff] at h1;obtain⟨o0,h0,rfl⟩:=h1;refine⟨o0,h0,h2,fun e he hb=>?_⟩
  have:=h3 { e with on:=posOf ord e.on } (by
   simp only [Ej,Array.toList_map,List.mem_map]
   exact⟨e,he,rfl⟩) hb
  rwa [hg] at this
 ·rintro⟨o,h1,h2,h3⟩;refine⟨Ej (posOf ord) o,by rw [h1]; rfl,h2,fun e he hb=>?_⟩;simp only [Ej,Array.toList_map,List.mem_map] at he;obtain⟨e0,he0,rfl⟩:=he;show listed'.getD (posOf ord e0.on) false=true;rw [hg];exact h3 e0 he0 hb
theorem Yr {md:Region.Mode} {ord:List Nat} {ops:Array Oper} (p:Perm ops.size ord) {Q:Exit→Act→World→Prop}: ∀(fuel:Nat) (listed listed':Array Bool) (a:Act) (w:World),listed.size=ops.size→listed'.size=ops.size→
 (∀i,i < ops.size→listed'[posOf ord i]?=listed[i]?)→wpAny P md (iM ord ops.toList).toArray Q fuel listed' a w→wpAny P md ops Q fuel listed a w:=by
 have aDo: ∀(listed listed':Array Bool),listed.size=ops.size→listed'.size=ops.size→(∀i,i < ops.size→listed'[posOf ord i]?=listed[i]?)→
  (Region.ready md (iM ord ops.toList).toArray listed'= []↔Region.ready md ops listed= []):=by
  intro listed listed' hz hz' hl;constructor
  ·intro h;rw [List.eq_nil_iff_forall_not_mem] at h ⊢;intro i hm
   have hi:i < ops.size:=by obtain⟨o,ho,_⟩:=mJ.1 hm;exact (Array.getElem?_eq_some_iff.1 ho).1
   exact h _ ((EM p hz hz' hl hi).2 hm)
  ·intro h;rw [List.eq_nil_iff_forall_not_mem] at h ⊢;intro j hm
   have hj:j < ops.size:=by obtain⟨o,ho,_⟩:=mJ.1 hm;rw [List.getElem?_toArray] at ho;rw [← wV p];exact (List.getElem?_eq_some_iff.1 ho).1
   obtain⟨i,_,h2,h3⟩:=p.back j hj;subst h3;exact h _ ((EM p hz hz' hl h2).1 hm)
 intro fuel
 induction fuel with
 | zero=> intro listed listed' a w hz hz' hl h;exact⟨(aDo _ _ hz hz' hl).1 h.1,h.2⟩
 | succ fuel ih=>
   intro listed listed' a w hz hz' hl h;refine⟨fun h0=>h.1 ((aDo _ _ hz hz' hl).2 h0),fun i hm=>?_⟩
   have hi:i < ops.size:=by obtain⟨o,ho,_⟩:=mJ.1 hm;exact (Array.getElem?_eq_some_iff.1 ho).1
   have hh:=h.2 _ ((EM p hz hz' hl hi).2 hm)
   have hstep: ∀a w,wpAny P md (iM ord ops.toList).toArray Q fuel (listed'.setIfInBounds (posOf ord i) true) a w→wpAny P md ops Q fuel (listed.setIfInBounds i true) a w:=by
    intro a w hw;refine ih _ _ a w (by simp [hz]) (by simp [hz']) (fun k hk=>?_) hw;rw [Array.getElem?_setIfInBounds,Array.getElem?_setIfInBounds];by_cases hik:i=k
    ·subst hik;rw [if_pos rfl,if_pos rfl,hz,hz',if_pos hi,if_pos (p.lt hi)]
    ·rw [if_neg hik,if_neg (fun h=>hik (p.inj hi hk h)),hl k hk]
   have h2:=wpOp_mono hstep hh;unfold wpOp at h2 ⊢;rw [List.getElem?_toArray,tJ p hi] at h2
   cases ho:ops[i]? with
   | none=>rw [ho] at h2; exact h2
   | some o=> rw [ho] at h2;simp only [Option.map_some] at h2 ⊢;rw [VP p,akY,Y2] at h2;exact h2
structure arO where
 ord:List Nat
 h:Yf
def aqG (tt:TT) (H:Nat→Nat→Option arO) (call:dR) (g id:Nat) (all:List Oper) (s:St):T St:=match H g id with
 | some p=>match p.ord with
   | []=>Oo tt call all (statOf all p.h) s
   | o :: os=>match iM (o :: os) all with
     | all'=>Oo tt call all' (statOf all' p.h) s
 | none=> .fail
def aCw (tt:TT) (H:Nat→Nat→Option arO) (g id:Nat) (all:List Oper):Bool:=match H g id with
 | some p=>match p.ord with
   | []=>BQ tt all p.h
   | o :: os=>Um (o :: os) all.length && BQ tt (iM (o :: os) all) p.h
 | none=>true
theorem aqF [Glob] {tt:TT} (htt:eG P tt) (hm:P.follows .mixedOrders=true) {H:Nat→Nat→Option arO} {call:dR} (hc:jW P call) (g:Nat):CW P (aCw tt H g) (aqG tt H call g):=by
 intro id ops hk E s s' a w Q hd fit h hq;unfold aCw at hk;unfold aqG at h;split at hk
 ·rename_i p hp;rw [hp] at h;simp only at h;split at hk
  ·rename_i he;rw [he] at h;have:=IL hk;refine awC htt hm hc id ops E s s' a w Q hd fit ?_ hq;unfold draw;rw [this];exact h
  ·rename_i o os he;rw [he] at h;simp only at h;simp only [Bool.and_eq_true] at hk;have hp:=afR hk.1;have hp:Perm ops.size (o :: os):=by simpa using hp
   have:=IL hk.2;refine wp_region_any hm ?_
   have hd': ∀x∈((iM (o :: os) ops.toList).toArray).toList,∀d,x.dst=some d→d < a.tmps.size:=by
    intro x hx d hxd;obtain⟨j,hj,rfl⟩:=List.getElem_of_mem hx;have hj':j < ops.size:=by rw [← wV hp]; exact hj
    obtain⟨i,_,h2,h3⟩:=hp.back j hj';have hg:=tJ hp h2;rw [h3] at hg
    have hx2:(iM (o :: os) ops.toList)[j]?=some ((iM (o :: os) ops.toList).toArray.toList[j]):=by rw [List.getElem?_eq_getElem hj]
    rw [hx2] at hg;rw [Array.getElem?_eq_getElem h2] at hg;simp only [Option.map_some,Option.some.injEq] at hg;rw [hg] at hxd;exact hd (ops[i]) (by simp) d hxd
   have key:=Om (ops:=(iM (o :: os) ops.toList).toArray) htt hc hd' fit (by
    unfold draw;rw [this]
    exact h) hq
   have hsz:(iM (o :: os) ops.toList).toArray.size=ops.size:=by simpa using wV hp
   rw [hsz] at key;refine Yr hp _ _ _ _ _ (by simp) (by simp) (fun i hi=>?_) key;rw [Array.getElem?_replicate,Array.getElem?_replicate,if_pos hi,if_pos (hp.lt hi)]
 ·rename_i hh;rw [hh] at h;simp [T.leaf] at h
end
end
end Go.As
end
section
namespace Go.As
noncomputable section
def QS (h:Hp):List Nat→Tr dU→Tr dU
 | [],t=>t
 | i :: is,t=>match h.get i with
   | some o=>QS h is (t.put i (some o))
   | none=>QS h is t
theorem Ir {h:Hp}: ∀(is:List Nat) (t:Tr dU),(∀id o,t.get id=some o→h.get id=some o)→∀id o,(QS h is t).get id=some o→h.get id=some o
 | [],_,ht,id,o,hg=>ht id o hg
 | i :: is,t,ht,id,o,hg=>by
   simp only [QS] at hg;split at hg
   ·rename_i x hx;refine Ir is _ (fun j y hy=>?_) id o hg;rw [Tr.get_put] at hy;split at hy
    ·rename_i he;subst he;simp only [Option.some.injEq] at hy;subst hy;exact hx
    ·exact ht j y hy
   ·exact Ir is t ht id o hg
def Io:List (SE×List AV)→List (SE×List AV)→Bool
 | [],[]=>true
 | (i,a) :: x,(j,b) :: y=>gI i j && kG a b && Io x y
 | _,_=>false
theorem QA: ∀{a b:List (SE×List AV)},Io a b=true→a=b
 | [],[],_=>rfl
 | [],_ :: _,h=>by simp [Io] at h
 | _ :: _,[],h=>by simp [Io] at h
 | (i,a) :: x,(j,b) :: y,h=>by simp only [Io,Bool.and_eq_true] at h;rw [bY _ _ h.1.1,gX _ _ h.1.2,QA h.2]
def Ud:dU→dU→Bool
 | .cells a e,.cells b f=>kG a b && Nat.beq e f
 | .vec a t e x,.vec b u f y=>gI a b && Nat.beq t u && Nat.beq e f && Io x y
 | _,_=>false
theorem YW {a b:dU} (h:Ud a b=true):a=b:=by
 cases a <;> cases b <;> simp only [Ud,Bool.false_eq_true,Bool.and_eq_true] at h
 ·rw [gX _ _ h.1,Nat.eq_of_beq_eq_true h.2]
 ·rw [bY _ _ h.1.1.1,Nat.eq_of_beq_eq_true h.1.1.2,Nat.eq_of_beq_eq_true h.1.2,QA h.2]
def Jj {α:Type} (f:α→α→Bool):Tr α→Tr α→Bool
 | .nil,.nil=>true
 | .node v l r,.node u x y=>(match v,u with | some a,some b=>f a b | none,none=>true | _,_=>false) && Jj f l x && Jj f r y
 | _,_=>false
theorem FQ {α:Type} {f:α→α→Bool} (hf: ∀a b,f a b=true→a=b): ∀(a b:Tr α),Jj f a b=true→a=b
 | .nil,b,h=>by cases b <;> simp [Jj] at h; rfl
 | .node v l r,b,h=>by
   cases b with
   | nil=>simp [Jj] at h
   | node u x y=>
     simp only [Jj,Bool.and_eq_true] at h;rw [FQ hf l x h.1.2,FQ hf r y h.2];have h1:=h.1.1;cases v <;> cases u <;> simp only [Bool.false_eq_true] at h1
     ·rfl
     ·rw [hf _ _ h1]
def inL (i:Nat):List Nat→Bool
 | []=>false
 | j :: l=>match Nat.beq i j with
   | true=>true
   | false=>inL i l
theorem UG {i:Nat}: ∀{l:List Nat},inL i l=true↔i∈l
 | []=>by simp [inL]
 | j :: l=>by
   simp only [inL,List.mem_cons];split
   ·rename_i h; simp [Nat.eq_of_beq_eq_true h]
   ·rename_i h; rw [UG]; simp [Nat.ne_of_beq_eq_false h]
def without (i:Nat):List Nat→List Nat
 | []=>[]
 | j :: l=>match Nat.beq i j with
   | true=>without i l
   | false=>j :: without i l
theorem wW {i k:Nat}: ∀{l:List Nat},k∈without i l↔k∈l∧k≠i
 | []=>by simp [without]
 | j :: l=>by
   simp only [without];split
   ·rename_i h;have:=Nat.eq_of_beq_eq_true h;subst this;rw [wW];simp only [List.mem_cons];constructor
    ·rintro⟨h1,h2⟩; exact⟨.inr h1,h2⟩
    ·rintro⟨h1 | h1,h2⟩
     ·exact absurd h1 h2
     ·exact⟨h1,h2⟩
   ·rename_i h;have:=Nat.ne_of_beq_eq_false h;simp only [List.mem_cons];rw [wW];constructor
    ·rintro (rfl | ⟨h1,h2⟩)
     ·exact⟨.inl rfl,fun e=>this e.symm⟩
     ·exact⟨.inr h1,h2⟩
    ·rintro⟨h1 | h1,h2⟩
     ·exact .inl h1
     ·exact .inr ⟨h1,h2⟩
def Ru (all:List Oper) (rem:List Nat) (i:Nat):Bool:=match gK all i with
 | some o=>o.after.toList.all fun e=>!Region.binds .any e || (!inL e.on rem && Nat.blt e.on all.length)
 | none=>false
def X4 (tt:TT) (call:dR) (all:List Oper) (pc:List (SB×Bool)) (tS:Tr AV) (tH:Hp):Nat→List Nat→Tr AV→Hp→Bool
 | 0,rem,S,H=>match rem with
   | []=>Jj eU S tS && Jj Ud H.m tH.m && Nat.beq H.next tH.next && (match H.res with | none=>true | _=>false)
   | _=>false
 | n+1,rem,S,H=>match rem with
   | []=>false
   | _=>rem.any (Ru all rem) && rem.all fun i=>match Ru all rem i with
     | false=>true
     | true=>match gK all i with
       | some o=>match ev1 tt call all o ⟨S,H,pc⟩ with
         | .ret (v,s')=>X4 tt call all pc tS tH n (without i rem) (Bj S o.dst v) s'.h
         | _=>false
       | none=>false
section
variable {P:Program}
theorem akK {E:En} {h:Array Obj} {S:Tr AV} {a:Act} (sr:SR E h S a) {d:Option Nat} {v:AV} {u:Value} (hd: ∀t,d=some t→t < a.tmps.size) (hv:VR E h v u):SR E h (Bj S d v) (a.put d u):=by
 cases d with
 | none=>exact sr
 | some t=>exact sr.put (hd t rfl) hv
theorem arJ [Glob] {tt:TT} (htt:eG P tt) {call:dR} (hc:jW P call) {ops:Array Oper} {ρ:Nat→Int} {pc:List (SB×Bool)} (hpc:bI ρ pc) {tS:Tr AV} {tH:Hp} (htr:tH.res=none) {Q:Exit→Act→World→Prop} {m:Nat} (hd: ∀o∈ops.toList,∀d,o.dst=some d→d < m) :
 ∀(n:Nat) (rem:List Nat) (S:Tr AV) (H:Hp) (E:En) (a:Act) (w:World) (listed:Array Bool),X4 tt call ops.toList pc tS tH n rem S H=true→E.ρ=ρ→bH E H w→SR E w.heap S a→a.tmps.size=m→listed.size=ops.size→
  (∀i,i < ops.size→(listed[i]?=some true↔i∉rem))→(∀i∈rem,i < ops.size)→
  (∀(a':Act) (w':World) (E':En),Stp E H w E' tH w'→bH E' tH w'→SR E' w'.heap tS a'→a'.tmps.size=m→a'.defers=a.defers→Q .normal a' w')→wpAny P .any ops Q n listed a w:=by
 intro n;have hat: ∀(i:Nat),gK ops.toList i=ops[i]?:=fun i=>by rw [dB,Array.getElem?_toList]
 have akZ: ∀(rem:List Nat) (listed:Array Bool),listed.size=ops.size→(∀i,i < ops.size→(listed[i]?=some true↔i∉rem))→∀i,i∈Region.ready .any ops listed→i∈rem∧Ru ops.toList rem i=true∧i < ops.size:=by
  intro rem listed hsz hl i hi;obtain⟨o,ho,h1,h2⟩:=mJ.1 hi;have hin:i < ops.size:=(Array.getElem?_eq_some_iff.1 ho).1
  have hf:listed[i]?=some false:=by
   have e:listed[i]?=some (listed[i]'(by omega)):=by simp
   rw [e];simp only [Array.getD_eq_getD_getElem?,e,Option.getD_some] at h1;rw [h1]
  refine⟨?_,?_,hin⟩
  ·apply Classical.byContradiction;intro hn;rw [(hl i hin).2 hn] at hf;simp at hf
  ·unfold Ru;rw [hat,ho];simp only [List.all_eq_true];intro e he
   cases hb:Region.binds .any e with
   | false=>rfl
   | true=>
     have:=h2 e he hb
     have hlt:e.on < ops.size:=by
      rcases Nat.lt_or_ge e.on ops.size with h | h
      ·exact h
      ·simp [Array.getD_eq_getD_getElem?,Array.getElem?_eq_none (show listed.size≤e.on by omega)] at this
     simp only [Bool.not_true,Bool.false_or,Bool.and_eq_true,Bool.not_eq_true'];refine⟨?_,by simpa [Nat.blt_eq] using hlt⟩
     cases hin2:inL e.on rem with
     | false=>rfl
     | true=>
       exfalso;have hm:=UG.1 hin2;have e1:listed[e.on]?=some (listed[e.on]'(by omega)):=by simp [hsz,hlt]
       simp only [Array.getD_eq_getD_getElem?,e1,Option.getD_some] at this;rw [this] at e1;exact (hl e.on hlt).1 e1 hm
 have aAX: ∀(rem:List Nat) (listed:Array Bool),listed.size=ops.size→(∀i,i < ops.size→(listed[i]?=some true↔i∉rem))→(∀i∈rem,i < ops.size)→rem.any (Ru ops.toList rem)=true→Region.ready .any ops listed≠[]:=by
  intro rem listed hsz hl hr hany hnil;rw [List.any_eq_true] at hany;obtain⟨i,hi,hm⟩:=hany;have hin:=hr i hi
  have:i∈Region.ready .any ops listed:=by
   rw [mJ];unfold Ru at hm;rw [hat] at hm;split at hm
   ·rename_i o ho;refine⟨o,ho,?_,fun e he hb=>?_⟩
    ·have e1:listed[i]?=some (listed[i]'(by omega)):=by simp [hsz,hin]
     simp only [Array.getD_eq_getD_getElem?,e1,Option.getD_some]
     cases hb:listed[i]'(by omega) with
     | false=>rfl
     | true=> rw [hb] at e1;exact absurd hi ((hl i hin).1 e1)
    ·rw [List.all_eq_true] at hm;have:=hm e he;rw [hb] at this;simp only [Bool.not_true,Bool.false_or,Bool.and_eq_true,Bool.not_eq_true'] at this;obtain⟨this,hlt⟩:=this;have hlt:e.on < ops.size:=by simpa [Nat.blt_eq] using hlt
     have hnot:e.on∉rem:=fun h=>by rw [UG.2 h] at this; simp at this
     have:=(hl e.on hlt).2 hnot;simp [Array.getD_eq_getD_getElem?,this]
   ·simp at hm
  rw [hnil] at this;simp at this
 induction n with
 | zero=>
   intro rem S H E a w listed h hρ r sr ha hsz hl hr hq;simp only [X4] at h;split at h
   ·simp only [Bool.and_eq_true] at h;obtain⟨⟨⟨h1,h2⟩,h3⟩,h4⟩:=h;have e1:=FQ nZ _ _ h1;have e2:=FQ (fun _ _=>YW) _ _ h2;have e3:=Nat.eq_of_beq_eq_true h3
    have e4:H.res=none:=by
     split at h4
     ·assumption
     ·simp at h4
    have eH:H=tH:=by obtain⟨m1,n1,r1⟩:=H;obtain⟨m2,n2,r2⟩:=tH;simp only at e2 e3 e4 htr;subst e2 e3 e4 htr;rfl
    subst e1 eH;refine⟨?_,hq a w E (Stp.refl _ _ _) r sr ha rfl⟩;rw [List.eq_nil_iff_forall_not_mem];intro i hi;have:=(akZ [] listed hsz hl i hi).1;simp at this
   ·simp at h
 | succ n ih=>
   intro rem S H E a w listed h hρ r sr ha hsz hl hr hq;simp only [X4] at h;split at h
   ·simp at h
   ·rename_i hne;simp only [Bool.and_eq_true] at h;refine⟨fun h0=>absurd h0 (aAX rem listed hsz hl hr h.1),fun i hi=>?_⟩;obtain⟨g1,g2,g3⟩:=akZ rem listed hsz hl i hi;have hi2:=(List.all_eq_true.1 h.2) i g1;rw [g2] at hi2;simp only at hi2;split at hi2
    ·rename_i o ho;have ho':ops[i]?=some o:=by rw [← hat]; exact ho
     split at hi2
     ·rename_i v s' hev;have hact:=Ve htt hc (ops:=ops) (o:=o) (s:=⟨S,H,pc⟩) (s':=s') (v:=v) (ρ:=ρ) hpc (by rw [hev]; rfl);refine hact.wpOp hρ r sr ho' fun u E' w' st r' hv=>?_
      have hdo: ∀t,o.dst=some t→t < a.tmps.size:=by intro t ht;rw [ha];exact hd o (Array.mem_toList_iff.2 (Array.mem_of_getElem? ho')) t ht
      have sr':SR E' w'.heap (Bj S o.dst v) (a.put o.dst u):=akK (sr.keep (st.keeps r)) hdo hv;refine ih (without i rem) _ _ E' (a.put o.dst u) w' (listed.setIfInBounds i true) hi2 (st.ρ.trans hρ) r' sr' (by rw [MG]; exact ha) (by simpa using hsz) ?_ ?_ ?_
      ·intro k hk;rw [Array.getElem?_setIfInBounds,wW];by_cases hik:i=k
       ·subst hik;rw [if_pos rfl,if_pos (by omega)];simp
       ·rw [if_neg hik,hl k hk];constructor
        ·intro h1 h2; exact h1 h2.1
        ·intro h1 h2; exact h1 ⟨h2,fun e=>hik e.symm⟩
      ·intro k hk;exact hr k (wW.1 hk).1
      ·intro a' w2 E2 st2 r2 sr2 hs2 hd2;exact hq a' w2 E2 (st.trans st2) r2 sr2 hs2 (by rw [hd2,As.put_defers])
     ·simp at hi2
    ·simp at hi2
end
end
end Go.As
end
section
namespace Go.As
noncomputable section
def Oh (o:Oper) (j:Nat):Bool:=o.after.toList.any fun e=>Region.binds .any e && Nat.beq e.on j
def Uc (n1:Nat) (all:List Oper):Bool:=
 Nat.blt 0 n1 && Nat.ble n1 all.length &&
 (List.range all.length).all (fun j=>match gK all j with
  | some o=>match Nat.blt j n1 with
    | true=>(o.after.toList.all fun e=>!Region.binds .any e || Nat.blt e.on j) && (match o.guard with | some (k,_)=>Nat.blt k n1 | none=>true)
    | false=>Oh o (n1 - 1)
  | none=>false) &&
 (match gK all (n1 - 1) with
  | some o=>(List.range (n1 - 1)).all fun i=>Oh o i
  | none=>false)
structure aaF (n1:Nat) (ops:Array Oper):Prop where
 pos:0 < n1
 le:n1≤ops.size
 back: ∀(i:Nat) (o:Oper),i < n1→ops[i]?=some o→∀e∈o.after.toList,Region.binds .any e=true→e.on < i
 guard: ∀(i:Nat) (o:Oper),i < n1→ops[i]?=some o→∀k b,o.guard=some (k,b)→k < n1
 late: ∀(i:Nat) (o:Oper),n1≤i→ops[i]?=some o→∃e∈o.after.toList,Region.binds .any e=true∧e.on=n1 - 1
 last: ∀(o:Oper),ops[n1 - 1]?=some o→∀i,i < n1 - 1→∃e∈o.after.toList,Region.binds .any e=true∧e.on=i
theorem SG {o:Oper} {j:Nat} (h:Oh o j=true): ∃e∈o.after.toList,Region.binds .any e=true∧e.on=j:=by unfold Oh at h;rw [List.any_eq_true] at h;obtain⟨e,he,h⟩:=h;simp only [Bool.and_eq_true] at h;exact⟨e,he,h.1,Nat.eq_of_beq_eq_true h.2⟩
theorem YS {n1:Nat} {ops:Array Oper} (h:Uc n1 ops.toList=true):aaF n1 ops:=by
 have hat: ∀(i:Nat),gK ops.toList i=ops[i]?:=fun i=>by rw [dB,Array.getElem?_toList]
 unfold Uc at h;simp only [Bool.and_eq_true] at h;obtain⟨⟨⟨h1,h2⟩,h3⟩,h4⟩:=h;have h1:0 < n1:=by simpa [Nat.blt_eq] using h1
 have h2:n1≤ops.size:=by simpa using Nat.le_of_ble_eq_true h2
 rw [List.all_eq_true] at h3
 have h3: ∀(i:Nat) (o:Oper),ops[i]?=some o→(match Nat.blt i n1 with
  | true=>(o.after.toList.all fun e=>!Region.binds .any e || Nat.blt e.on i) && (match o.guard with | some (k,_)=>Nat.blt k n1 | none=>true)
  | false=>Oh o (n1 - 1))=true:=by
  intro i o ho;have hi:i < ops.size:=(Array.getElem?_eq_some_iff.1 ho).1;have:=h3 i (List.mem_range.2 (by simpa using hi));rw [hat,ho] at this;exact this
 refine⟨h1,h2,?_,?_,?_,?_⟩
 ·intro i o hi ho e he hb;have:=h3 i o ho;rw [show Nat.blt i n1=true by simpa [Nat.blt_eq] using hi] at this;simp only [Bool.and_eq_true] at this;have:=(List.all_eq_true.1 this.1) e he;rw [hb] at this;simpa [Nat.blt_eq] using this
 ·intro i o hi ho k b hg;have:=h3 i o ho;rw [show Nat.blt i n1=true by simpa [Nat.blt_eq] using hi] at this;simp only [Bool.and_eq_true,hg] at this;simpa [Nat.blt_eq] using this.2
 ·intro i o hi ho;have:=h3 i o ho
  rw [show Nat.blt i n1=false by
   cases hb:Nat.blt i n1 with
   | false=>rfl
   | true=>rw [Nat.blt_eq] at hb; omega] at this
  exact SG this
 ·intro o ho i hi;rw [hat,ho] at h4;exact SG ((List.all_eq_true.1 h4) i (List.mem_range.2 hi))
section
variable {P:Program}
theorem wp_exit {o:Oper} {a:Act} {w:World} {K:Act→World→Prop} {Q1 Q:Exit→Act→World→Prop} (h: ∀e a w,e≠.normal→Q1 e a w→Q e a w) (hh:o.wp P a w K Q1):o.wp P a w K Q:=by
 have hl:LetsOut Q1→LetsOut Q:=fun⟨a,w,h1⟩=> ⟨a,w,h _ _ _ (by simp) h1⟩;unfold Oper.wp at *;generalize (execOp a.eval o).run P w=r at *
 cases r with
 | ok n w'=>
   cases n <;> simp only [Oper.upon] at hh ⊢ <;>
    first
     | exact hh
     | exact Calls.mono hh (fun e w'' he=>by cases e <;> first | exact he | exact h _ _ _ (by simp) he | exact hl he)
 | halt x w'=>cases x <;> simp only [Oper.upon] at hh ⊢ <;> first | exact hh | exact h _ _ _ (by simp) hh
theorem WU {l l':Nat→Bool} {i:Nat} (h1:l i=false) (h2:l' i=true) (h: ∀j,j≠i→l' j=l j): ∀n,i < n→left l' n+1=left l n
 | 0,hi=>by omega
 | n+1,hi=>by
   simp only [left];by_cases hin:i=n
   ·subst hin
    have: ∀m,m≤i→left l' m=left l m:=by
     intro m
     induction m with
     | zero=>intro _; rfl
     | succ m ih=> intro hm;simp only [left];rw [ih (by omega),h m (by omega)]
    rw [this i (Nat.le_refl _)];simp [h1,h2]
   ·have:=WU h1 h2 h n (by omega);rw [h n (fun e=>hin e.symm)];omega
theorem Nl {l:Nat→Bool}: ∀n,(∀i,i < n→l i=true)→left l n=0
 | 0,_=>rfl
 | n+1,h=>by simp only [left];rw [Nl n (fun i hi=>h i (by omega)),h n (by omega)];rfl
def firstT (n1 n:Nat):Array Bool:=(Array.range n).map fun i=>decide (i < n1)
theorem VN {n1:Nat} {ops:Array Oper} (sf:aaF n1 ops) {Q Q1:Exit→Act→World→Prop} (hq: ∀e a w,e≠.normal→Q1 e a w→Q e a w) (hn: ∀a w,Q1 .normal a w→wpAny P .any ops Q (ops.size - n1) (firstT n1 ops.size) a w) :
 ∀(f:Nat) (l1 l:Array Bool) (a:Act) (w:World),l1.size=n1→l.size=ops.size→(∀i,i < n1→l[i]?=l1[i]?)→(∀i,n1≤i→i < ops.size→l[i]?=some false)→left (fun i=>l1.getD i true) n1=f→(l1[n1 - 1]?=some true→f=0)→
  wpAny P .any (ops.toList.take n1).toArray Q1 f l1 a w→wpAny P .any ops Q (f+(ops.size - n1)) l a w:=by
 have hR: ∀i,i < n1→(ops.toList.take n1).toArray[i]?=ops[i]?:=by intro i hi;rw [List.getElem?_toArray,List.getElem?_take,if_pos hi,Array.getElem?_toList]
 have hRs:(ops.toList.take n1).toArray.size=n1:=by have:=sf.le;simp;omega
 have hlf:LetsOut Q1→LetsOut Q:=fun⟨a,w,h1⟩=> ⟨a,w,hq _ _ _ (by simp) h1⟩
 have hget: ∀(l:Array Bool) (i:Nat),i < l.size→(l.getD i true=true↔l[i]?=some true)∧(l.getD i false=true↔l[i]?=some true):=by
  intro l i hi;have e:l[i]?=some (l[i]'hi):=by simp
  simp only [Array.getD_eq_getD_getElem?,e,Option.getD_some];simp
 intro f
 induction f with
 | zero=>
   intro l1 l a w h1 h2 h3 h4 h5 h6 hw;have hall:=II n1 h5
   have:l=firstT n1 ops.size:=by
    apply Array.ext_getElem?;intro i;unfold firstT;rcases Nat.lt_or_ge i ops.size with hi | hi
    ·rw [Array.getElem?_map,Array.getElem?_range,if_pos hi];rcases Nat.lt_or_ge i n1 with hi1 | hi1
     ·rw [h3 i hi1,((hget l1 i (by omega)).1.1 (hall i hi1))];simp [hi1]
     ·rw [h4 i hi1 hi];simp;omega
    ·rw [Array.getElem?_eq_none (by omega),Array.getElem?_eq_none (by simp; omega)]
   rw [this,Nat.zero_add];exact hn a w hw.2
 | succ f ih=>
   intro l1 l a w h1 h2 h3 h4 h5 h6 hw;rw [show f+1+(ops.size - n1)=(f+(ops.size - n1))+1 by omega];have hle:=sf.le;have hpos:=sf.pos;have hlast:l1[n1 - 1]?=some true→False:=fun h=>by have:=h6 h; omega
   refine⟨fun hnil=>?_,fun i hi=>?_⟩
   ·exfalso
    have hall: ∀i,i < n1→l[i]?=some true:=by
     intro i
     induction i using Nat.strongRecOn with
     | _ i ih2=>
       intro hi;apply Classical.byContradiction;intro hno;have hio:ops[i]?=some (ops[i]'(by omega)):=by simp
       have:i∈Region.ready .any ops l:=by
        rw [mJ];refine⟨_,hio,?_,fun e he hb=>?_⟩
        ·cases hb:l.getD i true with
         | false=>rfl
         | true=>exact absurd ((hget l i (by omega)).1.1 hb) hno
        ·have hlt:=sf.back i _ hi hio e he hb;exact (hget l e.on (by omega)).2.2 (ih2 e.on hlt (by omega))
       rw [hnil] at this;simp at this
    have:=Nl (l:=fun i=>l1.getD i true) n1 (fun i hi=>(hget l1 i (by omega)).1.2 (by rw [← h3 i hi]; exact hall i hi));omega
   ·obtain⟨o,ho,g1,g2⟩:=mJ.1 hi;have hin:i < ops.size:=(Array.getElem?_eq_some_iff.1 ho).1
    have hi1:i < n1:=by
     rcases Nat.lt_or_ge i n1 with h | h
     ·exact h
     ·exfalso;obtain⟨e,e1,e2,e3⟩:=sf.late i o h ho;have:=g2 e e1 e2;rw [e3] at this;have:=(hget l (n1 - 1) (by omega)).2.1 this;rw [h3 _ (by omega)] at this;exact hlast this
    have hl1:l1.getD i true=false:=by
     cases hb:l1.getD i true with
     | false=>rfl
     | true=> have:=(hget l1 i (by omega)).1.1 hb;rw [← h3 i hi1] at this;have:=(hget l i (by omega)).1.2 this;rw [g1] at this;simp at this
    have hed: ∀e∈o.after.toList,Region.binds .any e=true→l1.getD e.on false=true:=by intro e he hb;have hlt:=sf.back i o hi1 ho e he hb;have:=(hget l e.on (by omega)).2.1 (g2 e he hb);rw [h3 _ (by omega)] at this;exact (hget l1 e.on (by omega)).2.2 this
    have hr1:i∈Region.ready .any (ops.toList.take n1).toArray l1:=by rw [mJ];exact⟨o,by rw [hR i hi1]; exact ho,hl1,hed⟩
    have hop:=hw.2 i hr1
    have hnext: ∀a w,wpAny P .any (ops.toList.take n1).toArray Q1 f (l1.setIfInBounds i true) a w→wpAny P .any ops Q (f+(ops.size - n1)) (l.setIfInBounds i true) a w:=by
     intro a w hw2
     have hleft:left (fun j=>(l1.setIfInBounds i true).getD j true) n1=f:=by
      have:=WU (l:=fun j=>l1.getD j true) (l':=fun j=>(l1.setIfInBounds i true).getD j true) (i:=i) hl1 (by
       simp only [Array.getD_eq_getD_getElem?,Array.getElem?_setIfInBounds_self]
       split <;> rfl) (fun j hj=>by
       simp only [Array.getD_eq_getD_getElem?]
       rw [Array.getElem?_setIfInBounds_ne (fun e=>hj e.symm)]) n1 hi1
      omega
     refine ih _ _ a w (by simpa using h1) (by simpa using h2) (fun k hk=>?_) (fun k hk1 hk2=>?_) hleft (fun hlt=>?_) hw2
     ·rw [Array.getElem?_setIfInBounds,Array.getElem?_setIfInBounds,h3 k hk,h1,h2];by_cases hik:i=k
      ·rw [if_pos hik,if_pos hik,if_pos hin,if_pos hi1]
      ·rw [if_neg hik,if_neg hik]
     ·rw [Array.getElem?_setIfInBounds_ne (by omega)];exact h4 k hk1 hk2
     ·by_cases hil:i=n1 - 1
      ·rw [← hleft];refine Nl n1 fun k hk=>?_;by_cases hk2:k=i
       ·subst hk2;simp only [Array.getD_eq_getD_getElem?,Array.getElem?_setIfInBounds_self];split <;> rfl
       ·obtain⟨e,e1,e2,e3⟩:=sf.last o (by rw [← hil]; exact ho) k (by omega);have:=hed e e1 e2;rw [e3] at this;have:=(hget l1 k (by omega)).2.1 this;simp only [Array.getD_eq_getD_getElem?];rw [Array.getElem?_setIfInBounds_ne (fun e=>hk2 e.symm),this];rfl
      ·rw [Array.getElem?_setIfInBounds_ne hil] at hlt;exact absurd hlt hlast
    have hop:=wpOp_mono hnext hop;unfold wpOp at hop ⊢;rw [hR i hi1,ho] at hop;rw [ho];simp only at hop ⊢
    have hwant:Region.wanted o (yielded (ops.toList.take n1).toArray a.tmps)=Region.wanted o (yielded ops a.tmps):=by
     unfold Region.wanted
     cases hg:o.guard with
     | none=>rfl
     | some g=> obtain⟨k,b⟩:=g;simp only;have:=sf.guard i o hi1 ho k b hg;unfold yielded;rw [hR k this]
    rw [hwant] at hop;split
    ·rename_i hwt;rw [if_pos hwt] at hop;rcases hop with h | ⟨h,h'⟩
     ·exact .inl (wp_exit hq h)
     ·exact .inr ⟨h,hlf h'⟩
    ·rename_i hwt;rw [if_neg hwt] at hop;exact hop
end
end
end Go.As
end
section
namespace Go.As
noncomputable section
def MB (n1 n:Nat):List Nat:=(List.range (n - n1)).map fun k=>k+n1
def aDd:AV→List Nat
 | .ptr i _=>[i]
 | .slice i _ _ _=>[i]
 | _=>[]
def aBk (S:Tr AV):List Nat→List Nat
 | []=>[]
 | t :: ts=>match S.get t with
   | some v=>aDd v++aBk S ts
   | none=>aBk S ts
def acY (all:List Oper) (S:Tr AV):List Nat→List Nat
 | []=>[]
 | i :: is=>match gK all i with
   | some o=>aBk S (MP o.op)++acY all S is
   | none=>acY all S is
def akP (tt:TT) (call:dR) (all:List Oper) (pc:List (SB×Bool)):List Nat→Tr AV→Hp→Option (Tr AV×Hp)
 | [],S,H=>some (S,H)
 | i :: is,S,H=>match gK all i with
   | some o=>match ev1 tt call all o ⟨S,H,pc⟩ with
     | .ret (v,s')=>akP tt call all pc is (Bj S o.dst v) s'.h
     | _=>none
   | none=>none
def Vl (tt:TT) (call:dR) (all:List Oper) (n1:Nat) (s1:St):T St:=
 match s1.h.res with
 | some _=> .fail
 | none=>match (⟨QS s1.h (acY all s1.slots (MB n1 all.length)) .nil,s1.h.next,none⟩ : Hp) with
   | small=>match akP tt call all s1.pc (MB n1 all.length) s1.slots small with
     | some (S,H)=>match H.res with
       | none=>match Nat.beq H.next s1.h.next && X4 tt call all s1.pc S H (all.length - n1) (MB n1 all.length) s1.slots small with
         | true=> .ret ⟨S,⟨Tr.over H.m (Tr.minus small.m s1.h.m),s1.h.next,none⟩,s1.pc⟩
         | false=> .fail
       | some _=> .fail
     | none=> .fail
structure Tz where
 ord:List Nat
 n1:Nat
 h:Yf
def SK (tt:TT) (H:Nat→Nat→Option Tz) (call:dR) (g id:Nat) (all:List Oper) (s:St):T St:=match H g id with
 | some p=>match p.n1 with
   | 0=>match p.ord with
     | []=>Oo tt call all (statOf all p.h) s
     | o :: os=>match iM (o :: os) all with
       | all'=>Oo tt call all' (statOf all' p.h) s
   | n1=>(Oo tt call (all.take n1) (statOf (all.take n1) p.h) s).bind (Vl tt call all n1)
 | none=> .fail
def Vt (tt:TT) (H:Nat→Nat→Option Tz) (g id:Nat) (all:List Oper):Bool:=match H g id with
 | some p=>match p.n1 with
   | 0=>match p.ord with
     | []=>BQ tt all p.h
     | o :: os=>Um (o :: os) all.length && BQ tt (iM (o :: os) all) p.h
   | n1=>Uc n1 all && BQ tt (all.take n1) p.h
 | none=>true
section
variable {P:Program}
theorem Rn {n1 n i:Nat} (h:n1≤n):i∈MB n1 n↔n1≤i∧i < n:=by
 unfold MB;rw [List.mem_map];constructor
 ·rintro⟨k,hk,rfl⟩;rw [List.mem_range] at hk;omega
 ·rintro⟨h1,h2⟩;exact⟨i - n1,List.mem_range.2 (by omega),by omega⟩
theorem agD (n:Nat): ∀m,m≤n→left (fun i=>(Array.replicate n false).getD i true) m=m:=by
 intro m
 induction m with
 | zero=>intro _; rfl
 | succ m ih=>
   intro hm;have hlt:m < n:=by omega
   simp only [left];rw [ih (by omega)];simp [hlt]
theorem Z5 [Glob] {tt:TT} (htt:eG P tt) {call:dR} (hc:jW P call) {ops:Array Oper} {n1:Nat} (sf:aaF n1 ops) {E:En} {s s1 s':St} {a a1:Act} {w w1:World} {Q:Exit→Act→World→Prop}
 (hd: ∀o∈ops.toList,∀d,o.dst=some d→d < a.tmps.size) (ht:Then E s a w s1 a1 w1) (h:(Vl tt call ops.toList n1 s1).leaf E.ρ=some s') (hq: ∀a' w',Then E s a w s' a' w'→Q .normal a' w') :
 wpAny P .any ops Q (ops.size - n1) (firstT n1 ops.size) a1 w1:=by
 obtain⟨d1,z1,E1,st1,f1⟩:=ht;have hlen:ops.toList.length=ops.size:=Array.length_toList;unfold Vl at h;split at h
 ·simp [T.leaf] at h
 ·rename_i hres;simp only at h;split at h
  ·rename_i S H hseq;split at h
   ·rename_i hHr;split at h
    ·rename_i hall;simp only [Bool.and_eq_true] at hall;have hnx:=Nat.eq_of_beq_eq_true hall.1;have:=aF h;subst this
     have hsub: ∀id o,(⟨QS s1.h (acY ops.toList s1.slots (MB n1 ops.toList.length)) .nil,s1.h.next,none⟩ : Hp).get id=some o→s1.h.get id=some o:=
      fun id o hg=>Ir _ _ (fun _ _ hh=>by simp [Tr.get] at hh) id o hg
     have rs:=f1.rel.part hsub (Nat.le_refl _) (by simp);have hpc:bI E1.ρ s1.pc:=f1.pc;have hal:=hall.2;rw [hlen] at hal;refine arJ htt hc (ops:=ops) (ρ:=E1.ρ) (pc:=s1.pc) hpc hHr (m:=a.tmps.size) hd (ops.size - n1) (MB n1 ops.size) s1.slots _ E1 a1 w1 (firstT n1 ops.size) hal rfl (by rw [hlen] at rs; exact rs) f1.sr z1 (by simp [firstT]) ?_ ?_ ?_
     ·intro i hi;rw [Rn sf.le];unfold firstT;rw [Array.getElem?_map,Array.getElem?_range,if_pos hi];simp only [Option.map_some,Option.some.injEq,decide_eq_true_eq];omega
     ·intro i hi;exact ((Rn sf.le).1 hi).2
     ·intro a2 w2 E2 st2 r2 sr2 z2 d2;rw [hlen] at hsub;obtain⟨Hc,e0,_,_,r3,Yh⟩:=anK f1.rel hsub st2 r2 s1.h.next (fun id hid=>r2.fresh id (by omega))
      have dX:=Yh.strong (by rw [e0]; exact Nat.le_refl _) (by rw [e0]) (fun id hdm=>by
       rcases st2.dmn id hdm with h1 | h1 | h1
       ·exact .inl h1
       ·have h1':s1.h.next≤id∧id < H.next:=h1;omega
       ·simp at h1)
      subst e0;refine hq a2 w2 ⟨d2.trans d1,z2,E2,st1.trans ?_,?_⟩
      ·rw [hlen]; exact dX
      ·refine⟨by rw [hlen]; exact r3,sr2,?_⟩;show bI E2.ρ s1.pc;rw [st2.ρ];exact hpc
    ·simp [T.leaf] at h
   ·simp [T.leaf] at h
  ·simp [T.leaf] at h
theorem G6 [Glob] {tt:TT} (htt:eG P tt) (hm:P.follows .mixedOrders=true) {H:Nat→Nat→Option Tz} {call:dR} (hc:jW P call) (g:Nat):CW P (Vt tt H g) (SK tt H call g):=by
 intro id ops hk E s s' a w Q hd fit h hq;unfold Vt at hk;unfold SK at h;split at hk
 ·rename_i p hp;rw [hp] at h;simp only at h;split at hk
  ·rename_i hn;rw [hn] at h;simp only at h
   have hP:=aqF (P:=P) htt hm (H:=fun _ _=>some ⟨p.ord,p.h⟩) hc g id ops (by
    unfold aCw
    exact hk) E s s' a w Q hd fit (by
    unfold aqG
    exact h) hq
   exact hP
  ·rename_i n1 hn;split at h
   ·rename_i h0;exact absurd h0 hn
   ·rename_i n1' _;simp only [Bool.and_eq_true] at hk;have sf:=YS hk.1;have hst:=IL hk.2;obtain⟨s1,h1,h2⟩:=T.fQ h;refine wp_region_any hm ?_;have hle:=sf.le;have hRs:(ops.toList.take p.n1).toArray.size=p.n1:=by simp; omega
    have hd1: ∀o∈(ops.toList.take p.n1).toArray.toList,∀d,o.dst=some d→d < a.tmps.size:=by intro o ho;exact hd o (List.mem_of_mem_take (by simpa using ho))
    have key:=Om (P:=P) (ops:=(ops.toList.take p.n1).toArray) (Q:=fun e a' w'=>match e with | .normal=>wpAny P .any ops Q (ops.size - p.n1) (firstT p.n1 ops.size) a' w' | e=>Q e a' w') htt hc hd1 fit (s':=s1) (by
     unfold draw;rw [List.toList_toArray,hst]
     exact h1) (fun a' w' ht=>Z5 htt hc sf hd ht h2 hq)
    rw [hRs] at key
    have:=VN sf (Q:=Q) (fun e a w hne hh=>by
     cases e with
     | normal=>exact absurd rfl hne
     | _=>exact hh) (fun a w hh=>hh) p.n1 (Array.replicate p.n1 false) (Array.replicate ops.size false) a _ (by simp) (by simp) (fun i hi=>by
     rw [Array.getElem?_replicate,Array.getElem?_replicate,if_pos hi,if_pos (by omega)]) (fun i _ hi=>by
     rw [Array.getElem?_replicate,if_pos hi]) (by
     exact agD p.n1 p.n1 (Nat.le_refl _)) (fun hh=>by
     rw [Array.getElem?_replicate,if_pos (by have:=sf.pos; omega)] at hh
     simp at hh) key
    rw [show p.n1+(ops.size - p.n1)=ops.size by omega] at this;exact this
 ·rename_i hh;rw [hh] at h;simp [T.leaf] at h
end
end
end Go.As
end
section
namespace Go.As
noncomputable section
def lim {α:Type} (n:Nat) (t:Tr α) (k:Nat):Option α:=match Nat.ble n k with
 | true=>none
 | false=>t.get k
theorem acK {α:Type} {n:Nat} {t:Tr α} {f:Nat→Option α} (h:(List.range n).map t.get=(List.range n).map f) {k:Nat} {x:α} (hk:lim n t k=some x):f k=some x:=by
 unfold lim at hk;split at hk
 ·simp at hk
 ·rename_i hle
  have hlt:k < n:=by
   have: ¬(n≤k):=by intro h;rw [Nat.ble_eq_true_of_le h] at hle;simp at hle
   omega
  have:=congrArg (fun l=>l[k]?) h;simp only [List.getElem?_map,List.getElem?_range hlt,Option.map_some,Option.some.injEq] at this;rw [← this];exact hk
section
variable {P:Program}
theorem arV {n:Nat} {tab:Tr TI} (h:(List.range n).map tab.get=(List.range n).map (asA P)):eG P (lim n tab):=fun _ _ hk=>arZ (acK h hk)
def aA0 (chk:Nat→List Oper→Bool) (f:Func):Bool:=!(f.name == "runtime.NumGoroutine") && (match f.body with | some c=>mX chk f.ntmps c | none=>true)
def hAt {α:Type} (t:Tr (Tr α)) (g id:Nat):Option α:=match t.get g with
 | some u=>u.get id
 | none=>none
theorem auI {n:Nat} {UL:Tr Func} (h:(List.range n).map UL.get=(List.range n).map (fun g=>P.funcs[g]?)) {chk:Nat→Nat→List Oper→Bool} (hc:(List.range n).all (fun g=>match UL.get g with | some f=>aA0 (chk g) f | none=>true)=true):ahN P chk (lim n UL):=by
 intro g fn hk;have h1:=acK h hk;refine⟨h1,?_⟩
 have hlt:g < n:=by
  unfold lim at hk;split at hk
  ·simp at hk
  ·rename_i hle;rcases Nat.lt_or_ge g n with h | h
   ·exact h
   ·rw [Nat.ble_eq_true_of_le h] at hle; simp at hle
 have hget:UL.get g=some fn:=by
  unfold lim at hk;split at hk
  ·simp at hk
  ·exact hk
 have:=List.all_eq_true.1 hc g (List.mem_range.2 hlt);rw [hget] at this;simp only [aA0,Bool.and_eq_true,Bool.not_eq_true'] at this;refine⟨this.1,fun c hb=>?_⟩;rw [hb] at this;exact this.2
end
end
end Go.As
end
section
namespace Go.As
noncomputable section
structure Ren where
 ns:List SE
 bl:List Nat
 sh:List Nat
def Ren.se (r:Ren):SE→SE
 | .lit n=> .lit n
 | .aK i=>match gK r.ns i with | some e=>e | none=> .aK i
 | .add a b=> .add (r.se a) (r.se b)
 | .sub a b=> .sub (r.se a) (r.se b)
 | .mul a b=> .mul (r.se a) (r.se b)
 | .quo a b=> .quo (r.se a) (r.se b)
 | .rem a b=> .rem (r.se a) (r.se b)
 | .wrap k a=> .wrap k (r.se a)
 | .inp b e=> .inp b (r.se e)
 | .dat d=> .dat d
 | .op o a b=>match o with
   | .len=>eP (r.se a)
   | o=> .op o (r.se a) (r.se b)
 | .ap f a=> .ap f (r.se a)
def Ren.sb (r:Ren):SB→SB
 | .lit b=> .lit b
 | .lt a b=>kU (r.se a) (r.se b)
 | .le a b=> .le (r.se a) (r.se b)
 | .eq a b=>DZ (r.se a) (r.se b)
 | .not s=> .not (r.sb s)
 | .and a b=> .and (r.sb a) (r.sb b)
def Ren.id (r:Ren) (i:Nat):Nat:=match gK r.bl i with | some j=>j | none=>0
def Ren.A8 (r:Ren) (i:Nat):Nat:=match gK r.sh i with | some j=>j | none=>0
mutual
def Ren.av (r:Ren):AV→AV
 | .bool b=> .bool (r.sb b)
 | .int k e=> .int k (r.se e)
 | .str s=> .str s
 | .ptr i o=> .ptr (r.id i) (r.A8 i+o)
 | .jS=> .jS
 | .rV cs=> .rV (r.J4 cs)
 | .slice i o l c=> .slice (r.id i) (r.A8 i+o) l c
 | .aA=> .aA
 | .ro cs n f=> .ro (r.J4 cs) n f
 | .map i=> .map (r.id i)
 | .mO=> .mO
 | .func f a b=> .func f (r.J4 a) (r.J4 b)
 | .BI=> .BI
 | .iface t v=> .iface t (r.av v)
 | .ES=> .ES
 | .agg cs=> .agg (r.J4 cs)
 | .tuple cs=> .tuple (r.J4 cs)
 | .opq i=> .opq i
 | .inp k ks=> .inp k ks
 | .emp=> .emp
 | .dat e t=> .dat (r.se e) t
 | .mP e=> .mP (r.se e)
 | .vS i n t=>match r.A8 i with
   | 0=> .vS (r.id i) (r.se n) t
   | _=> .opq 0
 | .qR i es x o=>match r.A8 i with
   | 0=> .qR (r.id i) es (r.se x) o
   | _=> .opq 0
 | .AY i lo n t=>match r.A8 i with
   | 0=> .AY (r.id i) (r.se lo) (r.se n) t
   | _=> .opq 0
 | .any=> .any
 | .Ia z t=> .Ia (r.se z) t
def Ren.J4 (r:Ren):List AV→List AV
 | []=>[]
 | x :: xs=>r.av x :: r.J4 xs
end
mutual
def rE (n:Nat):AV→Bool
 | .ptr i _=>Nat.blt i n
 | .slice i _ _ _=>Nat.blt i n
 | .map i=>Nat.blt i n
 | .vS i _ _=>Nat.blt i n
 | .qR i _ _ _=>Nat.blt i n
 | .AY i _ _ _=>Nat.blt i n
 | .rV cs=>uN n cs
 | .ro cs _ _=>uN n cs
 | .func _ a b=>uN n a && uN n b
 | .iface _ v=>rE n v
 | .agg cs=>uN n cs
 | .tuple cs=>uN n cs
 | _=>true
def uN (n:Nat):List AV→Bool
 | []=>true
 | x :: xs=>rE n x && uN n xs
end
def Ren.env (r:Ren) (ρ:Nat→Int) (i:Nat):Int:=match gK r.ns i with | some e=>e.den ρ | none=>ρ i
theorem Rh {α:Type}: ∀{l:List α} {i:Nat},l.length≤i→gK l i=none
 | [],_,_=>rfl
 | _ :: _,0,h=>by simp at h
 | _ :: l,i+1,h=>by simp only [gK]; exact Rh (by simpa using h)
theorem Ren.pV {r:Ren} (h:r.ns.length≤900) {ρ:Nat→Int} {i:Nat} (hi:900≤i):r.env ρ i=ρ i:=by unfold Ren.env;rw [Rh (by omega)]
theorem Ren.dZ {r:Ren} (h:r.ns.length≤900) (ρ:Nat→Int): ∀e:SE,(r.se e).den ρ=e.den (r.env ρ)
 | .lit n=>rfl
 | .aK i=>by simp only [Ren.se,SE.den,Ren.env];split <;> rfl
 | .add a b=>by simp only [Ren.se,SE.den,Ren.dZ h ρ a,Ren.dZ h ρ b]
 | .sub a b=>by simp only [Ren.se,SE.den,Ren.dZ h ρ a,Ren.dZ h ρ b]
 | .mul a b=>by simp only [Ren.se,SE.den,Ren.dZ h ρ a,Ren.dZ h ρ b]
 | .quo a b=>by simp only [Ren.se,SE.den,Ren.dZ h ρ a,Ren.dZ h ρ b]
 | .rem a b=>by simp only [Ren.se,SE.den,Ren.dZ h ρ a,Ren.dZ h ρ b]
 | .wrap k a=>by simp only [Ren.se,SE.den,Ren.dZ h ρ a]
 | .inp b e=>by simp only [Ren.se,SE.den,Ren.dZ h ρ e];rw [Ren.pV h (by omega)]
 | .dat d=>rfl
 | .op o a b=>by
   cases o with
   | len=> simp only [Ren.se,dD,Ren.dZ h ρ a];simp [SE.den,iL.den]
   | _=>simp only [Ren.se,SE.den,Ren.dZ h ρ a,Ren.dZ h ρ b]
 | .ap f a=>by simp only [Ren.se,SE.den,Ren.dZ h ρ a];rw [Ren.pV h (by unfold kP; omega)]
theorem Ren.Ik {r:Ren} (h:r.ns.length≤900) (ρ:Nat→Int): ∀c:SB,(r.sb c).den ρ=c.den (r.env ρ)
 | .lit b=>rfl
 | .lt a b=>by simp only [Ren.sb,dS,SB.den,Ren.dZ h]
 | .le a b=>by simp only [Ren.sb,SB.den,Ren.dZ h]
 | .eq a b=>by simp only [Ren.sb,lZ,SB.den,Ren.dZ h]
 | .not s=>by simp only [Ren.sb,SB.den,Ren.Ik h ρ s]
 | .and a b=>by simp only [Ren.sb,SB.den,Ren.Ik h ρ a,Ren.Ik h ρ b]
def En.ren (E:En) (r:Ren):En:={ ρ:=r.env E.ρ,θ:=fun i=>((E.θ (r.id i)).1,(E.θ (r.id i)).2+r.A8 i),κ:=fun i=>E.κ (r.id i) - r.A8 i,dm:=fun i=>i < r.bl.length∧E.dm (r.id i),ro:=E.ro }
theorem Fh {i n:Nat} (h:Nat.blt i n=true):i < n:=by have:=Nat.le_of_ble_eq_true h;omega
mutual
theorem VR.ren {E:En} {r:Ren} {h:Array Obj} (hl:r.ns.length≤900): ∀(x:AV) (u:Value),rE r.bl.length x=true→VR E h (r.av x) u→VR (E.ren r) h x u
 | .bool b,u,_,hv=>by simp only [Ren.av,VR,En.ren,Ren.Ik hl] at *; exact hv
 | .int k e,u,_,hv=>by simp only [Ren.av,VR,En.ren,Ren.dZ hl] at *; exact hv
 | .str s,u,_,hv=>by simp only [Ren.av,VR] at *; exact hv
 | .ptr i o,u,hi,hv=>by simp only [Ren.av,VR,En.ren,rE] at *; exact⟨by rw [hv.1,Nat.add_assoc],Fh hi,hv.2⟩
 | .jS,u,_,hv=>by simp only [Ren.av,VR] at *; exact hv
 | .rV cs,u,hi,hv=>by simp only [Ren.av,VR,rE] at *;obtain⟨b,o,us,h1,h2,h3,h4⟩:=hv;exact⟨b,o,us,h1,h2,bJ.ren hl cs us hi h3,h4⟩
 | .slice i o l c,u,hi,hv=>by
   simp only [Ren.av,VR,rE] at *;obtain⟨h1,a,cap,h2,h3,h4⟩:=hv;refine⟨⟨Fh hi,h1⟩,a,cap,h2,h3,?_⟩
   cases c with
   | exact k=> simp only [fJ,En.ren] at *;exact⟨h4.1,h4.2.imp (fun h=>by rw [h,Nat.add_assoc]) id⟩
   | rest es=>
     simp only [fJ,En.ren] at *;rcases h4 with ⟨q1,q2⟩ | ⟨q1,q2,q3⟩
     ·exact .inl ⟨by rw [q1,Nat.add_assoc],by omega⟩
     ·exact .inr ⟨q1,q2,by omega⟩
 | .aA,u,_,hv=>by simp only [Ren.av,VR] at *; exact hv
 | .ro cs n f,u,hi,hv=>by simp only [Ren.av,VR,rE] at *;obtain⟨b,o,cap,us,h1,h2,h3,h4,h5,h6⟩:=hv;exact⟨b,o,cap,us,h1,h2,h3,h4,bJ.ren hl cs us hi h5,h6⟩
 | .map i,u,hi,hv=>by simp only [Ren.av,VR,En.ren,rE] at *; exact⟨hv.1,Fh hi,hv.2⟩
 | .mO,u,_,hv=>by simp only [Ren.av,VR] at *; exact hv
 | .func f a b,u,hi,hv=>by simp only [Ren.av,VR,rE,Bool.and_eq_true] at *;obtain⟨us,ws,h1,h2,h3⟩:=hv;exact⟨us,ws,h1,bJ.ren hl a us hi.1 h2,bJ.ren hl b ws hi.2 h3⟩
 | .BI,u,_,hv=>by simp only [Ren.av,VR] at *; exact hv
 | .iface t v,u,hi,hv=>by simp only [Ren.av,VR,rE] at *;obtain⟨y,h1,h2⟩:=hv;exact⟨y,h1,VR.ren hl v y hi h2⟩
 | .ES,u,_,hv=>by simp only [Ren.av,VR] at *; exact hv
 | .agg cs,u,hi,hv=>by simp only [Ren.av,VR,rE] at *;obtain⟨us,h1,h2⟩:=hv;exact⟨us,h1,bJ.ren hl cs us hi h2⟩
 | .tuple cs,u,hi,hv=>by simp only [Ren.av,VR,rE] at *;obtain⟨us,h1,h2⟩:=hv;exact⟨us,h1,bJ.ren hl cs us hi h2⟩
 | .opq i,u,_,hv=>by simp only [Ren.av,VR] at hv
 | .inp k ks,u,_,hv=>by
   simp only [Ren.av,VR,En.ren] at *;rw [Ren.pV hl (by omega)];rcases hv with hv | ⟨b,o,n,cap,h1,h2,h3,h4,h5⟩
   ·exact .inl hv
   ·refine .inr ⟨b,o,n,cap,h1,h2,h3,h4,fun i j kd hi hj=>?_⟩;rw [Ren.pV hl (by omega)];exact h5 i j kd hi hj
 | .emp,u,_,hv=>by simp only [Ren.av,VR] at *; exact hv
 | .dat e t,u,_,hv=>by simp only [Ren.av,VR,En.ren,Ren.dZ hl] at *; exact hv
 | .mP e,u,_,hv=>by simp only [Ren.av,VR,En.ren,Ren.dZ hl] at *; exact hv
 | .vS i n t,u,hi,hv=>by
   simp only [Ren.av] at hv;split at hv
   ·rename_i hs;simp only [VR,En.ren,rE,Ren.dZ hl] at *;obtain⟨h1,k,a,cap,h2,h3,h4,h5⟩:=hv;refine⟨⟨Fh hi,h1⟩,k,a,cap,h2,h3,h4,?_⟩;simp only [fJ,hs] at *;simpa using h5
   ·simp [VR] at hv
 | .any,u,_,_=>by simp only [VR]
 | .Ia z t,u,_,hv=>by simp only [Ren.av,VR,En.ren,Ren.dZ hl] at *; exact hv
 | .AY i lo n t,u,hi,hv=>by
   simp only [Ren.av] at hv;split at hv
   ·rename_i hs;simp only [VR,En.ren,rE,Ren.dZ hl] at *;obtain⟨h1,l,k,a,cap,h2,h3,h4,h5,h6⟩:=hv;refine⟨⟨Fh hi,h1⟩,l,k,a,cap,h2,h3,h4,h5,?_⟩;simp only [fJ,hs] at *;simpa using h6
   ·simp [VR] at hv
 | .qR i es x o,u,hi,hv=>by
   simp only [Ren.av] at hv;split at hv
   ·rename_i hs;simp only [VR,En.ren,rE,Ren.dZ hl] at *;obtain⟨h1,k,h2,h3⟩:=hv;exact⟨⟨Fh hi,h1⟩,k,h2,by rw [h3,hs,Nat.add_zero]⟩
   ·simp [VR] at hv
theorem bJ.ren {E:En} {r:Ren} {h:Array Obj} (hl:r.ns.length≤900): ∀(xs:List AV) (us:List Value),uN r.bl.length xs=true→bJ E h (r.J4 xs) us→bJ (E.ren r) h xs us
 | [],us,_,hv=>by simp only [Ren.J4,bJ] at *; exact hv
 | x :: xs,us,hi,hv=>by simp only [Ren.J4,bJ,uN,Bool.and_eq_true] at *;obtain⟨u,vs,h1,h2,h3⟩:=hv;exact⟨u,vs,h1,VR.ren hl x u hi.1 h2,bJ.ren hl xs vs hi.2 h3⟩
end
theorem awV {E:En} {r:Ren} {h:Array Obj} {xs ys:List AV} {us:List Value} (hs:kG (r.J4 xs) ys=true) (hv:bJ E h ys us):bJ E h (r.J4 xs) us:=by rw [gX _ _ hs]; exact hv
def yF (r:Ren):List (AV×AV×Nat)→List (AV×AV×Nat)→Bool
 | [],[]=>true
 | (k,v,_) :: xs,(k',v',_) :: ys=>match eU (r.av k) k' with
   | true=>match eU (r.av v) v' with
     | true=>yF r xs ys
     | false=>false
   | false=>false
 | _,_=>false
def Vf (n:Nat):List (AV×AV×Nat)→Bool
 | []=>true
 | (k,v,_) :: xs=>rE n k && rE n v && Vf n xs
def WH (n:Nat):List (SE×List AV)→Bool
 | []=>true
 | (_,cs) :: l=>uN n cs && WH n l
def qY (r:Ren):List (SE×List AV)→List (SE×List AV)→Bool
 | [],[]=>true
 | (i,a) :: x,(j,b) :: y=>gI (r.se i) j && kG (r.J4 a) b && qY r x y
 | _,_=>false
def afX (n:Nat):dU→Bool
 | .vec _ _ _ ov=>WH n ov
 | .cells cs _=>uN n cs
 | .map es _=>Vf n es
 | .oL _ _=>true
 | .iW _ _=>true
def iJ (r:Ren) (k:Nat):dU→dU→Bool
 | .cells cs e,.cells ds f=>match Nat.beq e f with
   | true=>match fD k ds with
     | some ds=>kG (r.J4 cs) ds
     | none=>false
   | false=>false
 | .map es _,.map fs _=>yF r es fs
 | .oL s p,.oL t q=>jI s t && Nat.beq p q && Nat.beq k 0
 | .iW e t,.iW e' t'=>gI (r.se e) e' && Nat.beq t t' && Nat.beq k 0
 | .vec e t ty ov,.vec e' t' ty' wP=>gI (r.se e) e' && Nat.beq t t' && Nat.beq ty ty' && qY r ov wP && Nat.beq k 0
 | _,_=>false
theorem eY.ren {E:En} {r:Ren} {h:Array Obj} (hl:r.ns.length≤900): ∀{xs ys:List (AV×AV×Nat)} {es:List MapEntry},Vf r.bl.length xs=true→yF r xs ys=true→eY E h ys es→eY (E.ren r) h xs es
 | [],[],es,_,_,h=>by simp only [eY] at *; exact h
 | [],_ :: _,_,_,hs,_=>by simp [yF] at hs
 | (_,_,_) :: _,[],_,_,hs,_=>by simp [yF] at hs
 | (k,v,b) :: xs,(k',v',b') :: ys,es,hi,hs,h=>by
   simp only [Vf,Bool.and_eq_true] at hi;simp only [yF] at hs;simp only [eY] at *;obtain⟨e,rr,rfl,h1,h2,_,h4⟩:=h;split at hs
   ·rename_i e1;split at hs
    ·rename_i e2;refine⟨e,rr,rfl,VR.ren hl k _ hi.1.1 (by rw [nZ _ _ e1]; exact h1),VR.ren hl v _ hi.1.2 (by rw [nZ _ _ e2]; exact h2),trivial,eY.ren hl hi.2 hs h4⟩
    ·simp at hs
   ·simp at hs
theorem wJ {r:Ren}: ∀xs:List AV,(r.J4 xs).length=xs.length
 | []=>rfl
 | _ :: xs=>by simp [Ren.J4,wJ xs]
theorem QV {r:Ren} (hl:r.ns.length≤900) {ρ:Nat→Int} {i:Nat}: ∀{ov wP:List (SE×List AV)},qY r ov wP=true→dQ ρ i wP=(dQ (r.env ρ) i ov).map r.J4
 | [],[],_=>rfl
 | [],_ :: _,h=>by simp [qY] at h
 | _ :: _,[],h=>by simp [qY] at h
 | (j,a) :: x,(k,b) :: y,h=>by simp only [qY,Bool.and_eq_true] at h;have h1:=bY _ _ h.1.1;have h2:=gX _ _ h.1.2;simp only [dQ];rw [← h1,Ren.dZ hl,← h2,QV hl h.2];split <;> rfl
theorem QU {n:Nat}: ∀{ov:List (SE×List AV)},WH n ov=true→∀p∈ov,uN n p.2=true
 | [],_,p,hp=>by simp at hp
 | (j,a) :: x,h,p,hp=>by
   simp only [WH,Bool.and_eq_true] at h;rcases List.mem_cons.1 hp with rfl | hp
   ·exact h.1
   ·exact QU h.2 p hp
theorem G9 {E:En} {r:Ren} {h:Array Obj} (hl:r.ns.length≤900) {row:Row} {ov wP:List (SE×List AV)} (hs:qY r ov wP=true) (hi:WH r.bl.length ov=true): ∀(ds:List D) (i:Nat) {us:List Value},
 bJ E h (aH E.ρ row wP ds i) us→bJ (E.ren r) h (aH (E.ren r).ρ row ov ds i) us
 | [],_,us,hv=>by simp only [aH,bJ] at *; exact hv
 | d :: ds,i,us,hv=>by
   simp only [aH] at *;obtain⟨a,b,rfl,h1,h2⟩:=hv.split;refine bJ.append ?_ (G9 hl hs hi ds (i+1) h2);rw [QV hl hs] at h1;show bJ (E.ren r) h (match dQ (r.env E.ρ) i ov with | some cs=>cs | none=>jE row (.dat d)) a
   cases ho:dQ (r.env E.ρ) i ov with
   | none=> rw [ho] at h1;simp only [Option.map_none] at h1;exact (gY (E:=E.ren r)).2 (show Ec E.ro h row (dec (enc d)) a from (gY (E:=E)).1 h1)
   | some cs=> rw [ho] at h1;simp only [Option.map_some] at h1;obtain⟨p,p1,p2,_⟩:=oC ho;exact bJ.ren hl cs a (by rw [← p2]; exact QU hi p p1) h1
theorem L8 {r:Ren} {row:Row}: ∀{ov wP:List (SE×List AV)},qY r ov wP=true→FZ row wP→FZ row ov
 | [],[],_,h=>h
 | [],_ :: _,h,_=>by simp [qY] at h
 | _ :: _,[],h,_=>by simp [qY] at h
 | (j,a) :: x,(k,b) :: y,h,ho=>by
   simp only [qY,Bool.and_eq_true] at h;intro p hp;rcases List.mem_cons.1 hp with rfl | hp
   ·have:=congrArg List.length (gX _ _ h.1.2);rw [wJ] at this;simp only;rw [this];exact ho (k,b) (by simp)
   ·exact L8 h.2 (fun q hq=>ho q (by simp [hq])) p hp
theorem OR.ren {E:En} {r:Ren} {h:Array Obj} (hl:r.ns.length≤900) {id:Nat} {o o':dU} (hi:afX r.bl.length o=true) (hs:iJ r (r.A8 id) o o'=true) (ho:OR E h (r.id id) o'):OR (E.ren r) h id o:=by
 cases o with
 | cells cs e=>
   cases o' with
   | cells ds f=>
     simp only [iJ] at hs;simp only [afX] at hi;split at hs
     ·rename_i he;have he:=Nat.eq_of_beq_eq_true he;subst he;split at hs
      ·rename_i ds' hdr;simp only [OR] at *;obtain⟨arr,lo,hi',us,h1,h2,h3,h4,h5,h6,h7⟩:=ho;obtain⟨g1,g2,g3⟩:=h2.fD hdr;have hlen:=congrArg List.length (gX _ _ hs);rw [wJ] at hlen;refine⟨arr,lo,hi',us.drop (r.A8 id),h1,bJ.ren hl cs _ hi (awV hs g1),fun i u hu=>?_,?_,?_,h6,fun u hu=>h7 u (List.mem_of_mem_drop hu)⟩
       ·rw [List.getElem?_drop] at hu;have:=h3 _ u hu;show arr[(E.θ (r.id id)).2+r.A8 id+i]?=some u;rw [Nat.add_assoc];exact this
       ·show cs.length≤E.κ (r.id id) - r.A8 id;omega
       ·show (E.θ (r.id id)).2+r.A8 id+(E.κ (r.id id) - r.A8 id)=arr.size;omega
      ·simp at hs
     ·simp at hs
   | map _ _=>simp [iJ] at hs
   | oL _ _=>simp [iJ] at hs
   | vec _ _ _ _=>simp [iJ] at hs
   | iW _ _=>simp [iJ] at hs
 | map es c=>
   cases o' with
   | map fs d=> simp only [iJ] at hs;simp only [afX] at hi;simp only [OR] at *;obtain⟨ents,c',h1,h2⟩:=ho;exact⟨ents,c',h1,eY.ren hl hi hs h2⟩
   | cells _ _=>simp [iJ] at hs
   | oL _ _=>simp [iJ] at hs
   | vec _ _ _ _=>simp [iJ] at hs
   | iW _ _=>simp [iJ] at hs
 | oL s p=>
   cases o' with
   | oL t q=> simp only [iJ,Bool.and_eq_true] at hs;have h1:=(qB _ _).1 hs.1.1;have h2:=Nat.eq_of_beq_eq_true hs.1.2;have h3:=Nat.eq_of_beq_eq_true hs.2;subst h1 h2;simp only [OR,En.ren,h3] at *;exact ho
   | cells _ _=>simp [iJ] at hs
   | map _ _=>simp [iJ] at hs
   | vec _ _ _ _=>simp [iJ] at hs
   | iW _ _=>simp [iJ] at hs
 | iW e t=>
   cases o' with
   | cells _ _=>simp [iJ] at hs
   | map _ _=>simp [iJ] at hs
   | oL _ _=>simp [iJ] at hs
   | vec _ _ _ _=>simp [iJ] at hs
   | iW e' t'=> simp only [iJ,Bool.and_eq_true] at hs;have h1:=bY _ _ hs.1.1;have h2:=Nat.eq_of_beq_eq_true hs.1.2;subst h1 h2;simp only [OR] at *;have hden:e.den (E.ren r).ρ=(r.se e).den E.ρ:=(Ren.dZ hl E.ρ e).symm;rw [hden];exact ho
 | vec e t ty ov=>
   cases o' with
   | cells _ _=>simp [iJ] at hs
   | map _ _=>simp [iJ] at hs
   | oL _ _=>simp [iJ] at hs
   | iW _ _=>simp [iJ] at hs
   | vec e' t' ty' wP=>
     simp only [iJ,Bool.and_eq_true] at hs;simp only [afX] at hi;have h1:=bY _ _ hs.1.1.1.1;have h2:=Nat.eq_of_beq_eq_true hs.1.1.1.2;have h3:=Nat.eq_of_beq_eq_true hs.1.1.2;have h4:=Nat.eq_of_beq_eq_true hs.2;have hov:=hs.1.2;subst h1 h2 h3;simp only [OR] at *;obtain⟨h0,arr,lo,hi',us,q1,q2,q3,q4,q5,q6,q7⟩:=ho;have hok:=L8 hov h0.1;have hden:e.den (E.ren r).ρ=(r.se e).den E.ρ:=(Ren.dZ hl E.ρ e).symm;rw [hden];refine⟨⟨hok,h0.2⟩,arr,lo,hi',us,q1,G9 hl hov hi _ _ q2,?_,?_,?_,q6,q7⟩
     ·intro i u hu;show arr[(E.θ (r.id id)).2+r.A8 id+i]?=some u;rw [h4,Nat.add_zero];exact q3 i u hu
     ·show _≤E.κ (r.id id) - r.A8 id;rw [bV hok,h4,Nat.sub_zero,← bV (ρ:=E.ρ) h0.1];exact q4
     ·show (E.θ (r.id id)).2+r.A8 id+(E.κ (r.id id) - r.A8 id)=arr.size;rw [h4,Nat.add_zero,Nat.sub_zero];exact q5
end
end Go.As
end
section
namespace Go.As
noncomputable section
open Go.RowKit
structure CS where
 k:Nat
 slots:List (Nat×AV)
 objs:List dU
 pc:List (SB×Bool)
 m:SE
def sG:List (Nat×AV)→Tr AV→Tr AV
 | [],t=>t
 | (i,v) :: l,t=>sG l (t.put i (some v))
def vY:List dU→Nat→Tr dU→Tr dU
 | [],_,t=>t
 | o :: os,i,t=>vY os (i+1) (t.put i (some o))
def CS.st (c:CS):St:=⟨sG c.slots .nil,⟨vY c.objs 0 .nil,c.objs.length,none⟩,c.pc⟩
structure Gs where
 ns:Tr SE
 bl:Tr (Nat×Nat)
def Gs.num (g:Gs) (i:Nat) (e:SE):Gs:=match g.ns.get i with
 | some _=>g
 | none=> ⟨g.ns.put i (some e),g.bl⟩
def Gs.blk (g:Gs) (i j k:Nat):Gs:=match g.bl.get i with
 | some _=>g
 | none=> ⟨g.ns,g.bl.put i (some (j,k))⟩
def IQ (x y:SE) (g:Gs):Gs:=match x with
 | .aK i=>g.num i y
 | _=>g
def aDP:SB→SB→Gs→Gs
 | .not a,.not b,g=>aDP a b g
 | .eq a b,.eq c d,g=>IQ b d (IQ a c g)
 | _,_,g=>g
mutual
def anD:AV→AV→Gs→Gs
 | .bool a,.bool b,g=>aDP a b g
 | .int _ e,.int _ f,g=>IQ e f g
 | .ptr i o,.ptr j p,g=>g.blk i j (p - o)
 | .slice i o _ _,.slice j p _ _,g=>g.blk i j (p - o)
 | .map i,.map j,g=>g.blk i j 0
 | .agg a,.agg b,g=>Gx a b g
 | .tuple a,.tuple b,g=>Gx a b g
 | .iface _ a,.iface _ b,g=>anD a b g
 | .func _ a b,.func _ c d,g=>Gx b d (Gx a c g)
 | .rV a,.rV b,g=>Gx a b g
 | .ro a _ _,.ro b _ _,g=>Gx a b g
 | .dat a _,.dat b _,g=>IQ a b g
 | .mP a,.mP b,g=>IQ a b g
 | .vS i a _,.vS j b _,g=>(IQ a b g).blk i j 0
 | .qR i _ a _,.qR j _ b _,g=>(IQ a b g).blk i j 0
 | .Ia a _,.Ia b _,g=>IQ a b g
 | .AY i l a _,.AY j k b _,g=>(IQ l k (IQ a b g)).blk i j 0
 | _,_,g=>g
def Gx:List AV→List AV→Gs→Gs
 | x :: xs,y :: ys,g=>Gx xs ys (anD x y g)
 | _,_,g=>g
end
def anC:List (AV×AV×Nat)→List (AV×AV×Nat)→Gs→Gs
 | (k,v,_) :: xs,(k',v',_) :: ys,g=>anC xs ys (anD v v' (anD k k' g))
 | _,_,g=>g
def ayP:List (SE×List AV)→List (SE×List AV)→Gs→Gs
 | (i,a) :: x,(j,b) :: y,g=>ayP x y (Gx a b (IQ i j g))
 | _,_,g=>g
def aFC (k:Nat) (o o':dU) (g:Gs):Gs:=match o,o' with
 | .cells a _,.cells b _=>match fD k b with
   | some b=>Gx a b g
   | none=>g
 | .map a _,.map b _=>anC a b g
 | .vec a _ _ ov,.vec b _ _ wP=>ayP ov wP (IQ a b g)
 | .iW a _,.iW b _=>IQ a b g
 | _,_=>g
def KJ (s:Tr AV):List (Nat×AV)→Gs→Gs
 | [],g=>g
 | (t,v) :: l,g=>match s.get t with
   | some v'=>KJ s l (anD v v' g)
   | none=>KJ s l g
def IU (h:Hp):List dU→Nat→Gs→Gs
 | [],_,g=>g
 | o :: os,i,g=>match g.bl.get i with
   | some (j,k)=>match h.get j with
     | some o'=>IU h os (i+1) (aFC k o o' g)
     | none=>IU h os (i+1) g
   | none=>IU h os (i+1) g
def EX (g:Tr SE):Nat→Nat→List SE
 | 0,_=>[]
 | n+1,i=>match g.get i with
   | some e=>e :: EX g n (i+1)
   | none=> .lit 0 :: EX g n (i+1)
def UA (g:Tr (Nat×Nat)):Nat→Nat→List Nat
 | 0,_=>[]
 | n+1,i=>match g.get i with
   | some (e,_)=>e :: UA g n (i+1)
   | none=>0 :: UA g n (i+1)
def Uz (g:Tr (Nat×Nat)):Nat→Nat→List Nat
 | 0,_=>[]
 | n+1,i=>match g.get i with
   | some (_,e)=>e :: Uz g n (i+1)
   | none=>0 :: Uz g n (i+1)
def CS.guess (c:CS) (s:St):Ren:=match IU s.h c.objs 0 (KJ s.slots c.slots ⟨.nil,.nil⟩) with
 | ⟨ns,bl⟩=> ⟨EX ns c.k 0,UA bl c.objs.length 0,Uz bl c.objs.length 0⟩
def acE (i:Nat):List Nat→Bool
 | []=>true
 | j :: l=>match Nat.beq i j with
   | true=>false
   | false=>acE i l
def DN:List Nat→Bool
 | []=>true
 | i :: l=>acE i l && DN l
def Kq (r:Ren) (n:Nat) (s:Tr AV):List (Nat×AV)→Bool
 | []=>true
 | (t,v) :: l=>match s.get t with
   | some v'=>rE n v && eU (r.av v) v' && Kq r n s l
   | none=>false
def Iy (r:Ren) (n:Nat) (h:Hp):List dU→Nat→Bool
 | [],_=>true
 | o :: os,i=>match h.get (r.id i) with
   | some o'=>afX n o && iJ r (r.A8 i) o o' && Iy r n h os (i+1)
   | none=>false
def XV (pc:List (SB×Bool)) (e:SE):Option Int×Option Int:=match e with
 | .lit z=>(some z,some z)
 | e=>bounds e pc
def acX (a b:Int):Bool:=decide (-9223372036854775808≤a) && decide (b≤9223372036854775807)
def OM (pc:List (SB×Bool)) (e:SE):Option Int×Option Int:=match e with
 | .wrap .i64 (.add a b)=>match XV pc a,XV pc b with
   | (some la,some ha),(some lb,some hb)=>if acX (la+lb) (ha+hb) then (some (la+lb),some (ha+hb)) else bounds e pc
   | _,_=>bounds e pc
 | .wrap .i64 (.sub a b)=>match XV pc a,XV pc b with
   | (some la,some ha),(some lb,some hb)=>if acX (la - hb) (ha - lb) then (some (la - hb),some (ha - lb)) else bounds e pc
   | _,_=>bounds e pc
 | e=>XV pc e
def OQ (a b:Option Int):Bool:=match a,b with
 | some x,some y=>decide (x < y)
 | _,_=>false
def Vw (a b:Option Int):Bool:=match a,b with
 | some x,some y=>decide (x≤y)
 | _,_=>false
def prv (pc:List (SB×Bool)) (c:SB) (v:Bool):Bool:=
 match mY pc c with
 | some b=>b == v
 | none=>match c with
   | .lt a b=>match v with
     | true=>OQ (OM pc a).2 (OM pc b).1
     | false=>Vw (OM pc b).2 (OM pc a).1
   | .eq a b=>match v with
     | true=>false
     | false=>OQ (OM pc a).2 (OM pc b).1 || OQ (OM pc b).2 (OM pc a).1
   | _=>false
def KL (pv:List (SB×Bool)→SB→Bool→Bool) (r:Ren) (pc:List (SB×Bool)):List (SB×Bool)→Bool
 | []=>true
 | (c,v) :: l=>pv pc (r.sb c) v && KL pv r pc l
def CS.fits (pv:List (SB×Bool)→SB→Bool→Bool) (c:CS) (s:St) (r:Ren):Bool:=
 Nat.ble r.ns.length 900 && Nat.beq r.bl.length c.objs.length && DN r.bl && Kq r c.objs.length s.slots c.slots && Iy r c.objs.length s.h c.objs 0 && KL pv r s.pc c.pc
theorem Bh: ∀{l:List (Nat×AV)} {t:Tr AV} {i:Nat} {v:AV},(sG l t).get i=some v→(i,v)∈l∨t.get i=some v
 | [],t,i,v,h=> .inr h
 | (j,x) :: l,t,i,v,h=>by
   simp only [sG] at h;rcases Bh h with h | h
   ·exact .inl (by simp [h])
   ·rw [Tr.get_put] at h;split at h
    ·rename_i e;simp only [Option.some.injEq] at h;exact .inl (by rw [e,h]; simp)
    ·exact .inr h
theorem nK: ∀{l:List dU} {i:Nat} {t:Tr dU} {j:Nat},(vY l i t).get j=if i≤j∧j < i+l.length then l[j - i]? else t.get j
 | [],i,t,j=>by rw [if_neg (by simp)];rfl
 | o :: os,i,t,j=>by
   simp only [vY];rw [nK,Tr.get_put];simp only [List.length_cons];by_cases h1:i+1≤j∧j < i+1+os.length
   ·rw [if_pos h1,if_pos (by omega)];have:j - i=(j - (i+1))+1:=by omega
    rw [this,List.getElem?_cons_succ]
   ·rw [if_neg h1];by_cases h3:j=i
    ·subst h3;rw [if_pos rfl,if_pos (by omega)];simp
    ·rw [if_neg h3,if_neg (by omega)]
theorem WM {i:Nat}: ∀{l:List Nat},acE i l=true→i∉l
 | [],_=>by simp
 | j :: l,h=>by
   simp only [acE] at h;split at h
   ·simp at h
   ·rename_i hb;have:=Nat.ne_of_beq_eq_false hb;simp [this,WM h]
theorem vF: ∀{l:List Nat},DN l=true→∀{i j x:Nat},gK l i=some x→gK l j=some x→i=j
 | [],_,i,_,_,h,_=>by simp [gK] at h
 | y :: l,hd,i,j,x,h1,h2=>by
   simp only [DN,Bool.and_eq_true] at hd;have hn:=WM hd.1
   have hm: ∀{i:Nat} {l:List Nat} {x:Nat},gK l i=some x→x∈l:=by intro i l x h;rw [dB] at h;exact List.mem_of_getElem? h
   cases i with
   | zero=>
     cases j with
     | zero=>rfl
     | succ j=> simp only [gK,Option.some.injEq] at h1 h2;subst h1;exact absurd (hm h2) hn
   | succ i=>
     cases j with
     | zero=> simp only [gK,Option.some.injEq] at h1 h2;subst h2;exact absurd (hm h1) hn
     | succ j=> simp only [gK] at h1 h2;rw [vF hd.2 h1 h2]
theorem Jh {r:Ren} {n:Nat} {s:Tr AV}: ∀{l:List (Nat×AV)},Kq r n s l=true→∀{t:Nat} {v:AV},(t,v)∈l→∃v',s.get t=some v'∧rE n v=true∧r.av v=v'
 | [],_,_,_,h=>by simp at h
 | (t0,v0) :: l,hs,t,v,h=>by
   simp only [Kq] at hs;split at hs
   ·rename_i v' hv;simp only [Bool.and_eq_true] at hs;rcases List.mem_cons.1 h with h | h
    ·simp only [Prod.mk.injEq] at h;obtain⟨rfl,rfl⟩:=h;exact⟨v',hv,hs.1.1,nZ _ _ hs.1.2⟩
    ·exact Jh hs.2 h
   ·simp at hs
theorem lS {r:Ren} {n:Nat} {h:Hp}: ∀{l:List dU} {i:Nat},Iy r n h l i=true→∀{j:Nat} {o:dU},l[j]?=some o→∃o',h.get (r.id (i+j))=some o'∧afX n o=true∧iJ r (r.A8 (i+j)) o o'=true
 | [],_,_,_,_,h=>by simp at h
 | o0 :: os,i,hs,j,o,hj=>by
   simp only [Iy] at hs;split at hs
   ·rename_i o' ho;simp only [Bool.and_eq_true] at hs
    cases j with
    | zero=> simp at hj;subst hj;exact⟨o',ho,hs.1.1,hs.1.2⟩
    | succ j=> have:=lS hs.2 (j:=j) (by simpa using hj);rw [show i+(j+1)=i+1+j by omega];exact this
   ·simp at hs
def arN (pv:List (SB×Bool)→SB→Bool→Bool):Prop:= ∀(ρ:Nat→Int) (pc:List (SB×Bool)) (c:SB) (v:Bool),bI ρ pc→pv pc c v=true→c.den ρ=v
theorem Hu {ρ:Nat→Int} {pc:List (SB×Bool)} (hp:bI ρ pc) (e:SE):Within (XV pc e).1 (XV pc e).2 (e.den ρ):=by
 unfold XV;split
 ·simp [Within,SE.den]
 ·exact qF hp
theorem Nu {a b x:Int} (h:acX a b=true) (h1:a≤x) (h2:x≤b):IntKind.i64.wrap x=x:=by simp only [acX,Bool.and_eq_true,decide_eq_true_eq] at h;rw [← pU];simp only [AQ];rw [if_pos (by omega)]
theorem aeJ {ρ:Nat→Int} {pc:List (SB×Bool)} (hp:bI ρ pc) (e:SE):Within (OM pc e).1 (OM pc e).2 (e.den ρ):=by
 unfold OM;split
 ·rename_i a b;have ha:=Hu hp a;have hb:=Hu hp b;split
  ·rename_i la ha' lb hb' e1 e2;rw [e1] at ha;rw [e2] at hb;have a1:=ha.1 la rfl;have a2:=ha.2 ha' rfl;have b1:=hb.1 lb rfl;have b2:=hb.2 hb' rfl;split
   ·rename_i hi;simp only [SE.den];rw [Nu hi (by omega) (by omega)];constructor <;> intro l hl <;> simp at hl <;> omega
   ·exact qF hp
  ·exact qF hp
 ·rename_i a b;have ha:=Hu hp a;have hb:=Hu hp b;split
  ·rename_i la ha' lb hb' e1 e2;rw [e1] at ha;rw [e2] at hb;have a1:=ha.1 la rfl;have a2:=ha.2 ha' rfl;have b1:=hb.1 lb rfl;have b2:=hb.2 hb' rfl;split
   ·rename_i hi;simp only [SE.den];rw [Nu hi (by omega) (by omega)];constructor <;> intro l hl <;> simp at hl <;> omega
   ·exact qF hp
  ·exact qF hp
 ·exact Hu hp e
theorem I8 {a b:Option Int} {x y:Int} (h:OQ a b=true) (h1: ∀z,a=some z→x≤z) (h2: ∀z,b=some z→z≤y):x < y:=by
 unfold OQ at h;split at h
 ·have:=h1 _ rfl;have:=h2 _ rfl;simp at h;omega
 ·simp at h
theorem aaD {a b:Option Int} {x y:Int} (h:Vw a b=true) (h1: ∀z,a=some z→x≤z) (h2: ∀z,b=some z→z≤y):x≤y:=by
 unfold Vw at h;split at h
 ·have:=h1 _ rfl;have:=h2 _ rfl;simp at h;omega
 ·simp at h
theorem Y5:arN prv:=by
 intro ρ pc c v hp h;unfold prv at h;split at h
 ·rename_i b hb;rw [jB hp hb];simpa using h
 ·split at h
  ·have ha:=fun a=>aeJ hp a;split at h
   ·have:=I8 h (ha _).2 (ha _).1;simp [SB.den,this]
   ·have:=aaD h (ha _).2 (ha _).1;simp [SB.den]; omega
  ·have ha:=fun a=>aeJ hp a;split at h
   ·simp at h
   ·simp only [Bool.or_eq_true] at h;simp only [SB.den,beq_eq_false_iff_ne,ne_eq];rcases h with h | h
    ·have:=I8 h (ha _).2 (ha _).1;omega
    ·have:=I8 h (ha _).2 (ha _).1;omega
  ·simp at h
theorem NR {pv:List (SB×Bool)→SB→Bool→Bool} (hpv:arN pv) {r:Ren} (hl:r.ns.length≤900) {ρ:Nat→Int} {pc:List (SB×Bool)} (hp:bI ρ pc): ∀{l:List (SB×Bool)},KL pv r pc l=true→bI (r.env ρ) l
 | [],_=>by intro c b h; simp at h
 | (c0,v0) :: l,h=>by
   simp only [KL,Bool.and_eq_true] at h;intro c b hm;rcases List.mem_cons.1 hm with hm | hm
   ·simp only [Prod.mk.injEq] at hm;obtain⟨rfl,rfl⟩:=hm;rw [← Ren.Ik hl];exact hpv ρ pc _ _ hp h.1
   ·exact NR hpv hl hp h.2 c b hm
theorem GK [Glob] {pv:List (SB×Bool)→SB→Bool→Bool} (hpv:arN pv) {E:En} {c:CS} {s:St} {r:Ren} {a:Act} {w:World} (f:Fit E s a w) (h:c.fits pv s r=true):r.ns.length≤900∧Fit (E.ren r) c.st a w∧
 ∀id o,c.st.h.get id=some o→∃o',s.h.get (r.id id)=some o':=by
 unfold CS.fits at h;simp only [Bool.and_eq_true] at h;obtain⟨⟨⟨⟨⟨h1,h2⟩,h3⟩,h4⟩,h5⟩,h6⟩:=h;have hl:=Nat.le_of_ble_eq_true h1;have hn:=Nat.eq_of_beq_eq_true h2
 have hget: ∀id o,c.st.h.get id=some o→c.objs[id]?=some o:=by
  intro id o ho;have:(vY c.objs 0 .nil).get id=some o:=ho;rw [nK] at this;split at this
  ·simpa using this
  ·simp [Tr.get] at this
 refine⟨hl,⟨⟨?_,?_,?_,?_,f.rel.Bv,Glob.ren f.rel.glob fun i hi=>Ren.pV hl hi⟩,?_,NR hpv hl f.pc h6⟩,?_⟩
 ·intro id hid hd;have:id < r.bl.length:=hd.1;have hid:c.objs.length≤id:=hid;omega
 ·intro x hx;simp [CS.st] at hx
 ·intro id o ho;obtain⟨o',g1,g2,g3⟩:=lS h5 (hget id o ho);rw [Nat.zero_add] at g1 g3;obtain⟨q1,q2,q3⟩:=f.rel.live _ _ g1;have hlt:=(List.getElem?_eq_some_iff.1 (hget id o ho)).1;exact⟨⟨by omega,q1⟩,OR.ren hl (by rw [hn]; exact g2) g3 q2,q3⟩
 ·intro id id' o o' ho ho' he;obtain⟨p,g1,_⟩:=lS h5 (hget id o ho);obtain⟨p',g1',_⟩:=lS h5 (hget id' o' ho');rw [Nat.zero_add] at g1 g1';have heq:=f.rel.inj _ _ _ _ g1 g1' he;have hlt:=(List.getElem?_eq_some_iff.1 (hget id o ho)).1;have hlt':=(List.getElem?_eq_some_iff.1 (hget id' o' ho')).1;unfold Ren.id at heq
  cases e1:gK r.bl id with
  | none=>rw [dB,List.getElem?_eq_none_iff] at e1; omega
  | some x=>
    cases e2:gK r.bl id' with
    | none=>rw [dB,List.getElem?_eq_none_iff] at e2; omega
    | some y=> rw [e1,e2] at heq;simp only at heq;subst heq;exact vF h3 e1 e2
 ·intro t v ht;have:(sG c.slots .nil).get t=some v:=ht;rcases Bh this with h | h
  ·obtain⟨v',g1,g2,g3⟩:=Jh h4 h;obtain⟨u,q1,q2⟩:=f.sr t v' g1;exact⟨u,q1,VR.ren hl v u (by rw [hn]; exact g2) (by rw [g3]; exact q2)⟩
  ·simp [Tr.get] at h
 ·intro id o ho;obtain⟨o',g1,_⟩:=lS h5 (hget id o ho);rw [Nat.zero_add] at g1;exact⟨o',g1⟩
end
end Go.As
end
section
namespace Go.As
noncomputable section
open Go.RowKit
structure Base where
 w0:World
 ro:Nat→Prop
 ρ0:Nat→Int
structure Top [Glob] (B:Base) (E:En) (s:St) (a:Act) (w:World):Prop where
 fit:Fit E s a w
 hi: ∀i,900≤i→E.ρ i=B.ρ0 i
 ro: ∀b,B.ro b→E.ro b
 below:Below B.w0.heap.size B.w0 w
 own: ∀id o,s.h.get id=some o→B.w0.heap.size≤(E.θ id).1
theorem Top.then [Glob] {B:Base} {E:En} {s s':St} {a a':Act} {w w':World} (t:Top B E s a w) (h:Then E s a w s' a' w'): ∃E',Top B E' s' a' w'∧E'.ρ=E.ρ:=by
 obtain⟨_,_,E',st,f'⟩:=h;refine⟨E',⟨f',fun i hi=>by rw [st.ρ]; exact t.hi i hi,fun b hb=>st.ro b (t.ro b hb),?_,?_⟩,st.ρ⟩
 ·refine t.below.trans ⟨st.os,st.tape,st.output,st.size,fun k hk=>?_⟩
  exact st.keep k (Nat.lt_of_lt_of_le hk t.below.size) fun id o ho he=>by have:=t.own id o ho;omega
 ·intro id o ho;rcases Nat.lt_or_ge (E'.θ id).1 w.heap.size with h | h
  ·obtain⟨D8,o0,h0,he⟩:=st.own id o ho h;rw [← he];exact t.own D8 o0 h0
  ·exact Nat.le_trans t.below.size h
theorem Top.fits [Glob] {pv:List (SB×Bool)→SB→Bool→Bool} (hpv:arN pv) {B:Base} {E:En} {c:CS} {s:St} {r:Ren} {a:Act} {w:World} (t:Top B E s a w) (h:c.fits pv s r=true):r.ns.length≤900∧Top B (E.ren r) c.st a w:=by
 obtain⟨hl,f,ho⟩:=GK hpv t.fit h;refine⟨hl,f,fun i hi=>?_,t.ro,t.below,fun id o hid=>?_⟩
 ·show r.env E.ρ i=_;rw [Ren.pV hl hi];exact t.hi i hi
 ·obtain⟨o',h'⟩:=ho id o hid;exact t.own _ _ h'
inductive Fr where
 | seq (p:List Nat) (c:Code)
 | block (id:Nat)
def UE {α:Type}:T α→(α→Bool)→Bool
 | .fail,_=>false
 | .ret a,f=>f a
 | .split _ x y,f=>UE x f && UE y f
structure Cfg where
 tt:TT
 call:dR
 draw:Nat→List Oper→St→T St
 lf:Nat
 pv:List (SB×Bool)→SB→Bool→Bool
 res:List ResultVar
def Cfg.ev (g:Cfg) (c:Code) (s:St):T (Ex×St):=lF g.tt g.call g.draw g.lf c s
def isTrue:Option (List AV)→Bool
 | some [.bool (.lit b)]=>b
 | _=>false
def anU (g:Cfg) (e:Ex) (s:St):Bool:=match e with
 | .exit _=>false
 | _=>isTrue (oH g.tt s g.res)
def aAY:AV→AV→Bool
 | .int _ (.lit a),.int _ (.lit b)=>a == b
 | .int _ (.lit _),.int _ _=>false
 | .slice _ _ n _,.slice _ _ m _=>Nat.beq n m
 | .slice _ _ _ _,_=>false
 | .aA,.aA=>true
 | .aA,_=>false
 | _,_=>true
def quick (s:Tr AV):List (Nat×AV)→Bool
 | []=>true
 | (t,v) :: l=>match s.get t with
   | some v'=>match aAY v v' with
     | true=>quick s l
     | false=>false
   | none=>false
def Vy (pv:List (SB×Bool)→SB→Bool→Bool) (s:St):List CS→Bool
 | []=>false
 | c :: cs=>match quick s.slots c.slots with
   | false=>Vy pv s cs
   | true=>match c.fits pv s (c.guess s) with
     | true=>true
     | false=>Vy pv s cs
abbrev Tabs:=List Nat→Option (List CS)
mutual
def go (g:Cfg) (tabs:Tabs):Nat→List Nat→Code→List Fr→St→Bool
 | 0,_,_,_,_=>false
 | n+1,p,c,fr,s=>match tabs p with
   | some cs=>Vy g.pv s cs
   | none=>match c with
     | .seq a b=>go g tabs n (0 :: p) a (.seq (1 :: p) b :: fr) s
     | .block id b=>go g tabs n (0 :: p) b (.block id :: fr) s
     | c=>UE (g.ev c s) fun (e,s')=>cont g tabs n fr e s'
def cont (g:Cfg) (tabs:Tabs):Nat→List Fr→Ex→St→Bool
 | 0,_,_,_=>false
 | n+1,fr,e,s=>match fr with
   | []=>anU g e s
   | .seq p c :: fr=>match e with
     | .normal=>go g tabs n p c fr s
     | e=>cont g tabs n fr e s
   | .block id :: fr=>match e with
     | .exit j=>match Nat.beq j id with
       | true=>cont g tabs n fr .normal s
       | false=>cont g tabs n fr (.exit j) s
     | e=>cont g tabs n fr e s
end
def apart (pc:List (SB×Bool)) (x:SE):List SE→Bool
 | []=>true
 | y :: l=>match decEq pc x y with
   | some false=>apart pc x l
   | _=>false
structure Hint where
 ts:List (SB×Bool):=[]
 xs:List SE:=[]
 n:Nat:=0
section
variable {P:Program} {g:Cfg} {chk:Nat→List Oper→Bool} {N:Nat} {body:Code} {B:Base} {Q:Exit→Act→World→Prop}
structure aF1 [Glob] (P:Program) (g:Cfg) (chk:Nat→List Oper→Bool):Prop where
 tt:eG P g.tt
 call:jW P g.call
 draw:CW P chk g.draw
 pv:arN g.pv
theorem Top.pc [Glob] {B:Base} {E:En} {s:St} {a:Act} {w:World} {pc:List (SB×Bool)} (t:Top B E s a w) (hp:bI E.ρ pc):Top B E { s with pc:=pc } a w:=
 ⟨⟨t.fit.rel,t.fit.sr,hp⟩,t.hi,t.ro,t.below,t.own⟩
end
end
end Go.As
end
section
namespace Go.As
noncomputable section
open Go.RowKit
section
variable {P:Program} {c:Code} {Q:Exit→Act→World→Prop} {a:Act} {w:World}
def O7 (P:Program) (c:Code) (Q:Exit→Act→World→Prop) (a:Act) (w:World):Prop:=
 ∀b k cs,∃e a' w',Q e a' w'∧Arrives P (lone (b.at a (.code c :: .inLoop c :: k)) cs w) b k cs e a' w'
theorem Zc (h:c.wp P (Exit.then (O7 P c Q) Q) a w):O7 P c Q a w:=by
 intro b k cs;obtain⟨e,a₁,w₁,hq,harr⟩:=h b (.inLoop c :: k) cs
 cases e with
 | normal=> obtain⟨e₂,a₂,w₂,hq₂,harr₂⟩:=hq b k cs;exact⟨e₂,a₂,w₂,hq₂,.of_steps (Steps.trans harr (.one step_inLoop)) harr₂⟩
 | exit id=>exact⟨_,a₁,w₁,hq,.pass (x:=.inLoop c) rfl (fun _ _=> .inl (by simp)) harr⟩
 | goto l=>exact⟨_,a₁,w₁,hq,.pass (x:=.inLoop c) rfl (fun _ _=> .inl (by simp)) harr⟩
 | ret=>exact⟨_,a₁,w₁,hq,.pass (x:=.inLoop c) rfl (fun _ _=> .inl (by simp)) harr⟩
 | panic ch=>exact⟨_,a₁,w₁,hq,.pass (x:=.inLoop c) rfl (fun _ _=> .inl (by simp)) harr⟩
 | outgrown=>exact⟨_,a₁,w₁,hq,.pass (x:=.inLoop c) rfl (fun _ _=> .inl (by simp)) harr⟩
theorem Zd (h:O7 P c Q a w):(Code.loop c).wp P Q a w:=by intro b k cs;obtain⟨e,a',w',hq,harr⟩:=h b k cs;exact⟨e,a',w',hq,.of_steps (.one step_loop) harr⟩
end
inductive FrE where
 | seq (p:List Nat) (c:Code)
 | block (id:Nat)
 | loop (p:List Nat) (b:Code)
 | scope
def uZ (body:Code):List Nat→Option (Code×List FrE)
 | []=>some (body,[])
 | d :: p=>match uZ body p with
   | some (.seq a b,fr)=>match d with
     | 0=>some (a,.seq (1 :: p) b :: fr)
     | _=>some (b,fr)
   | some (.block id b,fr)=>some (b,.block id :: fr)
   | some (.cond _ a b,fr)=>match d with
     | 0=>some (a,fr)
     | _=>some (b,fr)
   | some (.loop b,fr)=>some (b,.loop p b :: fr)
   | some (.scope b,fr)=>some (b,.scope :: fr)
   | _=>none
def O9 (body:Code):List FrE→Prop
 | []=>True
 | .seq p c :: fr=>uZ body p=some (c,fr)∧O9 body fr
 | .block _ :: fr=>O9 body fr
 | .loop p b :: fr=>uZ body p=some (.loop b,fr)∧O9 body fr
 | .scope :: fr=>O9 body fr
def KE (P:Program) (Q:Exit→Act→World→Prop):List FrE→Exit→Act→World→Prop
 | []=>Q
 | .seq _ c :: fr=>Exit.then (fun a w=>c.wp P (KE P Q fr) a w) (KE P Q fr)
 | .block id :: fr=>Exit.inBlock id (KE P Q fr)
 | .loop _ b :: fr=>Exit.then (O7 P b (KE P Q fr)) (KE P Q fr)
 | .scope :: fr=>Exit.noGoto (KE P Q fr)
inductive RK where
 | one (c:CK)
 | agg (cs:List CK)
 deriving DecidableEq,Inhabited
def RK.flat:RK→List CK
 | .one c=>[c]
 | .agg cs=>cs
def uS:List RK→List CK
 | []=>[]
 | r :: rs=>r.flat++uS rs
def aeI (c:CK) (t:SE):AV:=match c with
 | .int k=> .int k t
 | .bool=> .bool (.not (.eq t (.lit 0)))
 | .str=> .mP t
 | .sl ty=> .dat t ty
def OJ:List CK→(Nat→SE)→Nat→List AV
 | [],_,_=>[]
 | c :: cs,f,i=>aeI c (f i) :: OJ cs f (i+1)
def vZ:List RK→(Nat→SE)→Nat→List AV
 | [],_,_=>[]
 | .one c :: r,f,i=>aeI c (f i) :: vZ r f (i+1)
 | .agg cs :: r,f,i=> .agg (OJ cs f i) :: vZ r f (i+cs.length)
def alQ (c:CK) (v:AV):Option SE:=match c with
 | .int k=>match v with
   | .int k' e=>if k=k' then some e else none
   | _=>none
 | .bool=>none
 | .str=>AP v
 | .sl t=>rZ (.sl t) v
def auP:AV→Bool
 | .agg _=>false
 | .tuple _=>false
 | _=>true
def cellsOf:List RK→List AV→Option (List AV)
 | [],[]=>some []
 | .one _ :: rs,v :: vs=>match auP v with
   | true=>match cellsOf rs vs with
     | some l=>some (v :: l)
     | none=>none
   | false=>none
 | .agg cs :: rs,v :: vs=>match v with
   | .agg xs=>match Nat.beq xs.length cs.length with
     | true=>match cellsOf rs vs with
       | some l=>some (xs++l)
       | none=>none
     | false=>none
   | _=>none
 | _,_=>none
def outs {α:Type}:List CK→List AV→St→(List SE→St→T α)→T α
 | [],[],s,k=>k [] s
 | c :: cs,v :: vs,s,k=>match c with
   | .bool=>match v with
     | .bool b=>qP s b fun s b=>outs cs vs s fun es s=>k (.lit (if b then 1 else 0) :: es) s
     | _=> .fail
   | c=>match alQ c v with
     | some e=>outs cs vs s fun es s=>k (e :: es) s
     | none=> .fail
 | _,_,_,_=> .fail
def iI:List SE→SE
 | []=> .dat (.i 0)
 | e :: es=>gW (Ij e) (iI es)
def uP (r:SE) (i:Nat):SE:=.op .num (.op (.cell i) r (.lit 0)) (.lit 0)
inductive Lf where
 | out (es:List SE)
 | jump (j:Nat) (es:List SE)
 deriving Inhabited
structure Jc where
 tt:TT
 call:dR
 draw:Nat→List Oper→St→T St
 lf:Nat
 res:List ResultVar
 pK:List RK
 dW:List dU:=[]
 ko:Nat:=0
 wO:List CS:=[]
 jX:Nat:=0
 fz:List (Nat×Nat×Nat):=[]
def Jc.ev (g:Jc) (c:Code) (s:St):T (Ex×St):=lF g.tt g.call g.draw g.lf c s
abbrev J5:=List Nat→Option (List (Nat×CS))
def aBl:Nat→Tr (Nat×Nat)
 | 0=> .nil
 | n+1=>(aBl n).put n (some (n,0))
def jF (g:Jc) (h:Hp):Ren:=match IU h g.dW 0 ⟨.nil,aBl g.dW.length⟩ with
 | ⟨ns,_⟩=> ⟨EX ns g.ko 0,List.range g.dW.length,[]⟩
def CS.lT (m:Nat) (c:CS) (s:St):Ren:=match IU s.h c.objs 0 (KJ s.slots c.slots ⟨.nil,aBl m⟩) with
 | ⟨ns,bl⟩=> ⟨EX ns c.k 0,UA bl c.objs.length 0,Uz bl c.objs.length 0⟩
def Nw (m:Nat) (r:Ren):Bool:=match m with
 | 0=>true
 | n+1=>(match gK r.bl n with | some j=>Nat.beq j n | none=>false) && Nat.beq (r.A8 n) 0 && Nw n r
def Jy:Nat→Nat→List SE→List SE
 | 0,_,ns=>ns
 | _+1,_,[]=>[]
 | n+1,i,_ :: ns=> .aK i :: Jy n (i+1) ns
def xM (jX:Nat) (r:Ren):Ren:=match jX with
 | 0=>r
 | n+1=>{ r with ns:=Jy (n+1) 0 r.ns }
def XD (n m jX:Nat) (s:St):List CS→Nat→T Lf
 | [],_=> .fail
 | c :: l,i=>match quick s.slots c.slots && Nat.beq n c.slots.length with
   | false=>XD n m jX s l (i+1)
   | true=>match c.fits prv s (xM jX (c.lT m s)) && Nw m (xM jX (c.lT m s)) with
     | true=> .ret (.out (.lit (Int.ofNat i) :: (xM jX (c.lT m s)).ns))
     | false=>XD n m jX s l (i+1)
def Zr {α:Type}:List (Nat×Nat×Nat)→List AV→St→(List AV→St→T α)→T α
 | [],vs,s,k=>k vs s
 | (r,f,t) :: l,vs,s,k=>match gK vs r with
   | some (.agg xs)=>match gK xs f with
     | some x=>agM x s fun x s=>match rZ (.sl t) x with
       | some e=>Zr l (vs.set r (.agg (xs.set f (.dat e t)))) s k
       | none=> .fail
     | none=> .fail
   | _=> .fail
def anX (g:Jc) (e:Ex) (s:St):T Lf:=match e with
 | .exit _=> .fail
 | _=>match oH g.tt s g.res with
   | none=> .fail
   | some vs=>match g.wO with
     | []=>match cellsOf g.pK vs with
       | none=> .fail
       | some cells=>Gz cells s fun cells s=>match Iy (jF g s.h) g.dW.length s.h g.dW 0 with
         | true=>outs (uS g.pK) cells s fun es _=> .ret (.out ((jF g s.h).ns++es))
         | false=> .fail
     | c :: l=>Zr g.fz vs s fun vs s=>XD vs.length g.dW.length g.jX ⟨bG vs 0 .nil,s.h,s.pc⟩ (c :: l) 0
def xJ (m jX:Nat) (s:St):List (Nat×CS)→T Lf
 | []=> .fail
 | (j,c) :: l=>match quick s.slots c.slots with
   | false=>xJ m jX s l
   | true=>match c.fits prv s (xM jX (c.lT m s)) && Nw m (xM jX (c.lT m s)) with
     | true=> .ret (.jump j (xM jX (c.lT m s)).ns)
     | false=>xJ m jX s l
def Yt {α:Type} (k:St→T α):List (Nat×Nat)→St→T α
 | [],s=>k s
 | (t,g) :: l,s=>match s.slots.get t with
   | some (.int _ e)=>qP s (.eq e (.aK g)) fun s _=>Yt k l s
   | _=>Yt k l s
def CG {α:Type} (k:St→T α):List Nat→St→T α
 | [],s=>k s
 | t :: ts,s=>match s.slots.get t with
   | some (.bool c)=>qP s c fun s b=>CG k ts { s with slots:=s.slots.put t (some (.bool (.lit b))) }
   | _=>CG k ts s
def arB:List (Nat×AV)→List Nat→List Nat
 | [],acc=>acc
 | (t,.bool _) :: l,acc=>arB l (t :: acc)
 | _ :: l,acc=>arB l acc
def arC:List (Nat×CS)→List Nat→List Nat
 | [],acc=>acc
 | (_,c) :: l,acc=>arC l (arB c.slots acc)
mutual
def D9 (g:Jc) (tabs:J5):Nat→List Nat→Code→List FrE→St→T Lf
 | 0,_,_,_,_=> .fail
 | n+1,p,c,fr,s=>match tabs p with
   | some l=>CG (fun s=>xJ g.dW.length g.jX s l) (arC l []) s
   | none=>match c with
     | .seq a b=>D9 g tabs n (0 :: p) a (.seq (1 :: p) b :: fr) s
     | .block id b=>D9 g tabs n (0 :: p) b (.block id :: fr) s
     | .scope b=>D9 g tabs n (0 :: p) b (.scope :: fr) s
     | .cond v a b=>match As.ev s v with
       | some (.bool c)=>qP s c fun s t=>match t with
         | true=>D9 g tabs n (0 :: p) a fr s
         | false=>D9 g tabs n (1 :: p) b fr s
       | _=> .fail
     | c=>(g.ev c s).bind fun (e,s')=>Ae g tabs n fr e s'
def Ae (g:Jc) (tabs:J5):Nat→List FrE→Ex→St→T Lf
 | 0,_,_,_=> .fail
 | n+1,fr,e,s=>match fr with
   | []=>anX g e s
   | .seq p c :: fr=>match e with
     | .normal=>D9 g tabs n p c fr s
     | e=>Ae g tabs n fr e s
   | .block id :: fr=>match e with
     | .exit j=>match Nat.beq j id with
       | true=>Ae g tabs n fr .normal s
       | false=>Ae g tabs n fr (.exit j) s
     | e=>Ae g tabs n fr e s
   | .loop p _ :: fr=>match e with
     | .normal=>match tabs p with
       | some l=>CG (fun s=>xJ g.dW.length g.jX s l) (arC l []) s
       | none=> .fail
     | e=>Ae g tabs n fr e s
   | .scope :: fr=>Ae g tabs n fr e s
end
abbrev uJ:=Nat→List Int→Option (List Int)
def qQ (xs:List Int):Int:=enc (dL (xs.map .i))
def Good (F:uJ) (ρ:Nat→Int):Prop:= ∀j xs,ρ (kP (2*j) (qQ xs))=(if (F j xs).isSome then 1 else 0)∧ρ (kP (2*j+1) (qQ xs))=qQ ((F j xs).getD [])
def low (xs:List Int) (i:Nat):Int:=xs.getD i 0
open Classical in
def bM (F:uJ) (lo:Nat→Int) (i:Nat):Int:=if i < 900 then lo i else
 if h: ∃p:Nat×List Int,i=kP (2*p.1) (qQ p.2) then (if (F h.choose.1 h.choose.2).isSome then 1 else 0) else
 if h: ∃p:Nat×List Int,i=kP (2*p.1+1) (qQ p.2) then qQ ((F h.choose.1 h.choose.2).getD []) else 0
theorem XY {a b:List Int} (h:qQ a=qQ b):a=b:=by
 unfold qQ at h;have:=OA (lV h)
 have hinj: ∀{x y:List Int},x.map D.i=y.map D.i→x=y:=by
  intro x
  induction x with
  | nil=>intro y h; cases y with | nil=>rfl | cons z y=>simp at h
  | cons z x ih=>
    intro y h
    cases y with
    | nil=>simp at h
    | cons q y=> simp only [List.map_cons,List.cons.injEq,D.i.injEq] at h;rw [h.1,ih h.2]
 exact hinj this
theorem yX {f g:Nat} {a b:Int} (h:kP f a=kP g b):f=g∧a=b:=by unfold kP at h;obtain⟨h1,h2⟩:=IB (a:=f) (b:=zN a) (a':=g) (b':=zN b) (by omega);exact⟨h1,ahY h2⟩
theorem CQ (f:Nat) (a:Int):1000≤kP f a:=by unfold kP; omega
theorem wG {F:uJ} {lo:Nat→Int} {i:Nat} (h:i < 900):bM F lo i=lo i:=by unfold bM; rw [if_pos h]
theorem oJ (F:uJ) (lo:Nat→Int):Good F (bM F lo):=by
 intro j xs;have h1:=CQ (2*j) (qQ xs);have h2:=CQ (2*j+1) (qQ xs);constructor
 ·unfold bM;rw [if_neg (by omega)];have h: ∃p:Nat×List Int,kP (2*j) (qQ xs)=kP (2*p.1) (qQ p.2):=⟨(j,xs),rfl⟩;rw [dif_pos h];obtain⟨q1,q2⟩:=yX h.choose_spec;have q2:=XY q2;have q1:h.choose.1=j:=by omega
  rw [← q2,q1]
 ·unfold bM;rw [if_neg (by omega)]
  have hn: ¬∃p:Nat×List Int,kP (2*j+1) (qQ xs)=kP (2*p.1) (qQ p.2):=by rintro⟨p,hp⟩;have:=(yX hp).1;omega
  rw [dif_neg hn];have h: ∃p:Nat×List Int,kP (2*j+1) (qQ xs)=kP (2*p.1+1) (qQ p.2):=⟨(j,xs),rfl⟩;rw [dif_pos h];obtain⟨q1,q2⟩:=yX h.choose_spec;have q2:=XY q2;have q1:h.choose.1=j:=by omega
  rw [← q2,q1]
theorem Good.ren {F:uJ} {ρ ρ':Nat→Int} (g:Good F ρ) (h: ∀i,900≤i→ρ' i=ρ i):Good F ρ':=by intro j xs;have h1:=CQ (2*j) (qQ xs);have h2:=CQ (2*j+1) (qQ xs);rw [h _ (by omega),h _ (by omega)];exact g j xs
def eX (tree:Nat→T Lf):Nat→uJ
 | 0,_,_=>none
 | n+1,j,xs=>match (tree j).leaf (bM (eX tree n) (low xs)) with
   | none=>none
   | some (.out es)=>some (es.map (SE.den (bM (eX tree n) (low xs))))
   | some (.jump j' es)=>eX tree n j' (es.map (SE.den (bM (eX tree n) (low xs))))
def P8:List CK→Bool
 | []=>true
 | c :: l=>match c with
   | .int _=>P8 l
   | .bool=>P8 l
   | _=>false
def amW (j:Nat) (OU pK:List RK):List AV→St→T (AV×St):=fun args s=>match cellsOf OU args with
 | none=> .fail
 | some cells=>Gz cells s fun cells s1=>outs (uS OU) cells s1 fun es s2=>
  qP s2 (.eq (.ap (2*j) (iI es)) (.lit 1)) fun s3 b=>match b with
   | true=> .ret (match vZ pK (uP (.ap (2*j+1) (iI es))) 0 with | [v]=>v | vs=> .tuple vs,match P8 (uS pK) with
     | true=>{ s3 with h:=s.h }
     | false=>s3)
   | false=> .fail
end
end Go.As
end
section
namespace Go.As
open Go.RowKit
def gG (K:Nat):SE→Bool
 | .lit _=>true
 | .aK i=>Nat.blt i K
 | .add a b=>gG K a && gG K b
 | .sub a b=>gG K a && gG K b
 | .mul a b=>gG K a && gG K b
 | .quo a b=>gG K a && gG K b
 | .rem a b=>gG K a && gG K b
 | .wrap _ a=>gG K a
 | .inp _ _=>false
 | .dat _=>true
 | .op _ a b=>gG K a && gG K b
 | .ap _ _=>false
def Bo (K:Nat):SB→Bool
 | .lit _=>true
 | .lt a b=>gG K a && gG K b
 | .le a b=>gG K a && gG K b
 | .eq a b=>gG K a && gG K b
 | .not s=>Bo K s
 | .and a b=>Bo K a && Bo K b
mutual
def oU (K:Nat):AV→Bool
 | .bool b=>Bo K b
 | .int _ e=>gG K e
 | .rV cs=>qC K cs
 | .ro cs _ _=>qC K cs
 | .func _ a b=>qC K a && qC K b
 | .iface _ v=>oU K v
 | .agg cs=>qC K cs
 | .tuple cs=>qC K cs
 | .inp _ _=>false
 | .dat e _=>gG K e
 | .mP e=>gG K e
 | .vS _ n _=>gG K n
 | .qR _ _ i _=>gG K i
 | .AY _ l n _=>gG K l && gG K n
 | .Ia z _=>gG K z
 | _=>true
def qC (K:Nat):List AV→Bool
 | []=>true
 | x :: xs=>oU K x && qC K xs
end
def KU (K:Nat):List (AV×AV×Nat)→Bool
 | []=>true
 | (k,v,_) :: l=>oU K k && oU K v && KU K l
def MO (K:Nat):List (SE×List AV)→Bool
 | []=>true
 | (i,cs) :: l=>gG K i && qC K cs && MO K l
def F8 (K:Nat):dU→Bool
 | .cells cs _=>qC K cs
 | .map es _=>KU K es
 | .oL _ _=>true
 | .vec e _ _ ov=>gG K e && MO K ov
 | .iW e _=>gG K e
def acA (K:Nat):List (SB×Bool)→Bool
 | []=>true
 | (c,_) :: l=>Bo K c && acA K l
def yA (K:Nat):List (Nat×AV)→Bool
 | []=>true
 | (_,v) :: l=>oU K v && yA K l
def KA (K:Nat):List dU→Bool
 | []=>true
 | o :: l=>F8 K o && KA K l
def Cj (K:Nat) (c:CS):Bool:=yA K c.slots && KA K c.objs && acA K c.pc
section
variable {K:Nat} {ρ ρ':Nat→Int} (hρ: ∀i,i < K→ρ' i=ρ i)
include hρ
theorem dI: ∀e:SE,gG K e=true→e.den ρ'=e.den ρ
 | .lit _,_=>rfl
 | .aK i,h=>by simp only [gG] at h; exact hρ i (Fh h)
 | .add a b,h=>by simp only [gG,Bool.and_eq_true] at h; simp only [SE.den,dI a h.1,dI b h.2]
 | .sub a b,h=>by simp only [gG,Bool.and_eq_true] at h; simp only [SE.den,dI a h.1,dI b h.2]
 | .mul a b,h=>by simp only [gG,Bool.and_eq_true] at h; simp only [SE.den,dI a h.1,dI b h.2]
 | .quo a b,h=>by simp only [gG,Bool.and_eq_true] at h; simp only [SE.den,dI a h.1,dI b h.2]
 | .rem a b,h=>by simp only [gG,Bool.and_eq_true] at h; simp only [SE.den,dI a h.1,dI b h.2]
 | .wrap _ a,h=>by simp only [gG] at h; simp only [SE.den,dI a h]
 | .inp _ _,h=>by simp [gG] at h
 | .dat _,_=>rfl
 | .op _ a b,h=>by simp only [gG,Bool.and_eq_true] at h; simp only [SE.den,dI a h.1,dI b h.2]
 | .ap _ _,h=>by simp [gG] at h
theorem yE: ∀c:SB,Bo K c=true→c.den ρ'=c.den ρ
 | .lit _,_=>rfl
 | .lt a b,h=>by simp only [Bo,Bool.and_eq_true] at h; simp only [SB.den,dI hρ a h.1,dI hρ b h.2]
 | .le a b,h=>by simp only [Bo,Bool.and_eq_true] at h; simp only [SB.den,dI hρ a h.1,dI hρ b h.2]
 | .eq a b,h=>by simp only [Bo,Bool.and_eq_true] at h; simp only [SB.den,dI hρ a h.1,dI hρ b h.2]
 | .not s,h=>by simp only [Bo] at h; simp only [SB.den,yE s h]
 | .and a b,h=>by simp only [Bo,Bool.and_eq_true] at h; simp only [SB.den,yE a h.1,yE b h.2]
end
section
variable {K:Nat} {E E':En} (hρ: ∀i,i < K→E'.ρ i=E.ρ i) (hθ:E'.θ=E.θ) (hκ:E'.κ=E.κ) (hdm:E'.dm=E.dm) (hro:E'.ro=E.ro) {h:Array Obj}
include hρ hθ hκ hdm hro
theorem fJ.low {id off len:Nat} {a:Addr} {cap:Nat} {c:Yg} (hc:fJ E id off len a cap c):fJ E' id off len a cap c:=by
 cases c <;> simp only [fJ] at* <;> rw [hθ]
 ·exact hc
 ·rw [hκ]; exact hc
mutual
theorem VR.low: ∀(x:AV) (u:Value),oU K x=true→VR E h x u→VR E' h x u
 | .bool b,u,hl,hv=>by simp only [VR,oU] at *; rw [yE hρ b hl]; exact hv
 | .int _ e,u,hl,hv=>by simp only [VR,oU] at *; rw [dI hρ e hl]; exact hv
 | .str s,u,_,hv=>by simp only [VR] at *; exact hv
 | .ptr id off,u,_,hv=>by simp only [VR] at *; rw [hθ,hdm]; exact hv
 | .jS,u,_,hv=>by simp only [VR] at *; exact hv
 | .rV cs,u,hl,hv=>by simp only [VR,oU] at *;obtain⟨b,o,us,h1,h2,h3,h4,h5⟩:=hv;exact⟨b,o,us,h1,by rw [hro]; exact h2,bJ.low cs us hl h3,h4,h5⟩
 | .slice id off len c,u,_,hv=>by simp only [VR] at *;obtain⟨h1,a,cap,h2,h3,h4⟩:=hv;exact⟨by rw [hdm]; exact h1,a,cap,h2,h3,fJ.low hρ hθ hκ hdm hro h4⟩
 | .aA,u,_,hv=>by simp only [VR] at *; exact hv
 | .ro cs n full,u,hl,hv=>by simp only [VR,oU] at *;obtain⟨b,o,cap,us,h1,h2,h3,h4,h5,h6,h7⟩:=hv;exact⟨b,o,cap,us,h1,h2,h3,by rw [hro]; exact h4,bJ.low cs us hl h5,h6,h7⟩
 | .map id,u,_,hv=>by simp only [VR] at *; rw [hθ,hdm]; exact hv
 | .mO,u,_,hv=>by simp only [VR] at *; exact hv
 | .func fn fs cs,u,hl,hv=>by simp only [VR,oU,Bool.and_eq_true] at *;obtain⟨us,ws,h1,h2,h3⟩:=hv;exact⟨us,ws,h1,bJ.low fs us hl.1 h2,bJ.low cs ws hl.2 h3⟩
 | .BI,u,_,hv=>by simp only [VR] at *; exact hv
 | .iface t x,u,hl,hv=>by simp only [VR,oU] at *;obtain⟨y,h1,h2⟩:=hv;exact⟨y,h1,VR.low x y hl h2⟩
 | .ES,u,_,hv=>by simp only [VR] at *; exact hv
 | .agg cs,u,hl,hv=>by simp only [VR,oU] at *;obtain⟨us,h1,h2⟩:=hv;exact⟨us,h1,bJ.low cs us hl h2⟩
 | .tuple cs,u,hl,hv=>by simp only [VR,oU] at *;obtain⟨us,h1,h2⟩:=hv;exact⟨us,h1,bJ.low cs us hl h2⟩
 | .opq _,u,_,hv=>by simp only [VR] at hv
 | .inp _ _,u,hl,_=>by simp [oU] at hl
 | .emp,u,_,hv=>by simp only [VR] at *; exact hv
 | .dat e t,u,hl,hv=>by simp only [VR,oU] at *; rw [dI hρ e hl,hro]; exact hv
 | .mP e,u,hl,hv=>by simp only [VR,oU] at *; rw [dI hρ e hl,hro]; exact hv
 | .vS id n t,u,hl,hv=>by simp only [VR,oU] at *;obtain⟨h1,k,a,cap,h2,h3,h4,h5⟩:=hv;exact⟨by rw [hdm]; exact h1,k,a,cap,by rw [dI hρ n hl]; exact h2,h3,h4,fJ.low hρ hθ hκ hdm hro h5⟩
 | .qR id es i off,u,hl,hv=>by simp only [VR,oU] at *;obtain⟨h1,k,h2,h3⟩:=hv;exact⟨by rw [hdm]; exact h1,k,by rw [dI hρ i hl]; exact h2,by rw [hθ]; exact h3⟩
 | .any,u,_,_=>by simp only [VR]
 | .Ia z t,u,hl,hv=>by simp only [VR,oU] at *; rw [dI hρ z hl,hro]; exact hv
 | .AY id lo n t,u,hl,hv=>by simp only [VR,oU,Bool.and_eq_true] at *;obtain⟨h1,l,k,a,cap,h2,h3,h4,h5,h6⟩:=hv;exact⟨by rw [hdm]; exact h1,l,k,a,cap,by rw [dI hρ lo hl.1]; exact h2,by rw [dI hρ n hl.2]; exact h3,h4,h5,fJ.low hρ hθ hκ hdm hro h6⟩
theorem bJ.low: ∀(xs:List AV) (us:List Value),qC K xs=true→bJ E h xs us→bJ E' h xs us
 | [],us,_,hv=>by simp only [bJ] at *; exact hv
 | x :: xs,us,hl,hv=>by simp only [bJ,qC,Bool.and_eq_true] at *;obtain⟨u,vs,h1,h2,h3⟩:=hv;exact⟨u,vs,h1,VR.low x u hl.1 h2,bJ.low xs vs hl.2 h3⟩
end
theorem eY.low: ∀{es:List (AV×AV×Nat)} {ents:List MapEntry},KU K es=true→eY E h es ents→eY E' h es ents
 | [],_,_,hv=>by simp only [eY] at *; exact hv
 | (k,v,b) :: es,ents,hl,hv=>by simp only [eY,KU,Bool.and_eq_true] at *;obtain⟨e,r,h1,h2,h3,h4,h5⟩:=hv;exact⟨e,r,h1,VR.low hρ hθ hκ hdm hro k _ hl.1.1 h2,VR.low hρ hθ hκ hdm hro v _ hl.1.2 h3,h4,eY.low hl.2 h5⟩
theorem QW {i:Nat}: ∀{ov:List (SE×List AV)},MO K ov=true→dQ E'.ρ i ov=dQ E.ρ i ov
 | [],_=>rfl
 | (j,cs) :: l,hl=>by simp only [MO,Bool.and_eq_true] at hl;simp only [dQ];rw [dI hρ j hl.1.1,QW hl.2]
theorem QZ: ∀{ov:List (SE×List AV)},MO K ov=true→∀p∈ov,qC K p.2=true
 | [],_,p,hp=>by simp at hp
 | (j,cs) :: l,hl,p,hp=>by
   simp only [MO,Bool.and_eq_true] at hl;rcases List.mem_cons.1 hp with rfl | hp
   ·exact hl.1.2
   ·exact QZ hl.2 p hp
theorem He {r:Row} {ov:List (SE×List AV)} (hl:MO K ov=true): ∀(ds:List D) (i:Nat) {us:List Value},bJ E h (aH E.ρ r ov ds i) us→bJ E' h (aH E'.ρ r ov ds i) us
 | [],_,us,hv=>by simp only [aH,bJ] at *; exact hv
 | d :: ds,i,us,hv=>by
   simp only [aH] at *;obtain⟨a,b,rfl,h1,h2⟩:=hv.split;refine bJ.append ?_ (He hl ds (i+1) h2);rw [QW hρ hθ hκ hdm hro hl]
   cases ho:dQ E.ρ i ov with
   | none=> rw [ho] at h1;rw [gY] at h1 ⊢;rw [hro];exact h1
   | some cs=> rw [ho] at h1;obtain⟨p,p1,p2,_⟩:=oC ho;exact bJ.low hρ hθ hκ hdm hro cs a (by rw [← p2]; exact QZ hρ hθ hκ hdm hro hl p p1) h1
theorem OR.low {id:Nat} {o:dU} (hl:F8 K o=true) (ho:OR E h id o):OR E' h id o:=by
 cases o with
 | cells cs e=> simp only [OR,F8] at *;obtain⟨arr,lo,hi,us,h1,h2,h3,h4,h5,h6,h7⟩:=ho;rw [hθ,hκ];exact⟨arr,lo,hi,us,h1,bJ.low hρ hθ hκ hdm hro cs us hl h2,h3,h4,h5,h6,h7⟩
 | map es c=> simp only [OR,F8] at *;obtain⟨ents,c',h1,h2⟩:=ho;rw [hθ];exact⟨ents,c',h1,eY.low hρ hθ hκ hdm hro hl h2⟩
 | oL s p=>simp only [OR] at *; rw [hθ]; exact ho
 | iW e t=> simp only [OR,F8] at *;obtain⟨ents,c',h1,h2⟩:=ho;rw [hθ,dI hρ e hl,hro];exact⟨ents,c',h1,h2⟩
 | vec e t ty ov=> simp only [OR,F8,Bool.and_eq_true] at *;obtain⟨⟨h0,hw⟩,arr,lo,hi,us,h1,h2,h3,h4,h5,h6,h7⟩:=ho;have he:=dI hρ e hl.1;rw [hθ,hκ,he];refine⟨⟨h0,hw⟩,arr,lo,hi,us,h1,He hρ hθ hκ hdm hro hl.2 _ _ h2,h3,?_,h5,h6,h7⟩;rw [bV h0] at h4 ⊢;exact h4
end
theorem WC {K:Nat} {ρ ρ':Nat→Int} (hρ: ∀i,i < K→ρ' i=ρ i): ∀{pc:List (SB×Bool)},acA K pc=true→bI ρ pc→bI ρ' pc
 | [],_,_=>by intro c b h; simp at h
 | (c0,b0) :: l,hl,hp=>by
   simp only [acA,Bool.and_eq_true] at hl;intro c b hm;rcases List.mem_cons.1 hm with hm | hm
   ·simp only [Prod.mk.injEq] at hm;obtain⟨rfl,rfl⟩:=hm;rw [yE hρ c hl.1];exact hp c b (by simp)
   ·exact WC hρ hl.2 (fun c b h=>hp c b (by simp [h])) c b hm
theorem FP {K:Nat}: ∀{l:List (Nat×AV)},yA K l=true→∀{t:Nat} {v:AV},(t,v)∈l→oU K v=true
 | [],_,_,_,h=>by simp at h
 | (t0,v0) :: l,hs,t,v,h=>by
   simp only [yA,Bool.and_eq_true] at hs;rcases List.mem_cons.1 h with h | h
   ·simp only [Prod.mk.injEq] at h;rw [h.2]; exact hs.1
   ·exact FP hs.2 h
theorem BH {K:Nat}: ∀{l:List dU},KA K l=true→∀{i:Nat} {o:dU},l[i]?=some o→F8 K o=true
 | [],_,_,_,h=>by simp at h
 | o0 :: l,hs,i,o,h=>by
   simp only [KA,Bool.and_eq_true] at hs
   cases i with
   | zero=>simp at h; rw [← h]; exact hs.1
   | succ i=>exact BH hs.2 (by simpa using h)
structure H6 (E:En) (s:St) (a:Act) (w:World):Prop where
 fresh: ∀id,s.h.next≤id→¬E.dm id
 res: ∀r,s.h.res=some r→r < s.h.next∧¬E.dm r
 live: ∀id o,s.h.get id=some o→E.dm id∧OR E w.heap id o∧¬E.ro (E.θ id).1
 inj: ∀id id' o o',s.h.get id=some o→s.h.get id'=some o'→(E.θ id).1=(E.θ id').1→id=id'
 Bv: ∀b,E.ro b→b < w.heap.size
 sr:SR E w.heap s.slots a
 pc:bI E.ρ s.pc
theorem Fit.x [Glob] {E:En} {s:St} {a:Act} {w:World} (f:Fit E s a w):H6 E s a w:=⟨f.rel.fresh,f.rel.res,f.rel.live,f.rel.inj,f.rel.Bv,f.sr,f.pc⟩
theorem H6.fit [Glob] {E:En} {s:St} {a:Act} {w:World} (f:H6 E s a w) (hg:Glob.ok E.ρ E.ro w.heap):Fit E s a w:=⟨⟨f.fresh,f.res,f.live,f.inj,f.Bv,hg⟩,f.sr,f.pc⟩
theorem H6.low {K:Nat} {E:En} {c:CS} {a:Act} {w:World} {ρ':Nat→Int} (hc:Cj K c=true) (hρ: ∀i,i < K→ρ' i=E.ρ i) (f:H6 E c.st a w):H6 { E with ρ:=ρ' } c.st a w:=by
 unfold Cj at hc;simp only [Bool.and_eq_true] at hc;obtain⟨⟨h1,h2⟩,h3⟩:=hc;refine⟨f.fresh,f.res,fun id o ho=>?_,f.inj,f.Bv,fun t v ht=>?_,WC hρ h3 f.pc⟩
 ·obtain⟨q1,q2,q3⟩:=f.live id o ho;refine⟨q1,OR.low (E:=E) (E':={ E with ρ:=ρ' }) hρ rfl rfl rfl rfl ?_ q2,q3⟩;have:(vY c.objs 0 .nil).get id=some o:=ho;rw [nK] at this;split at this
  ·exact BH h2 this
  ·simp [Tr.get] at this
 ·obtain⟨u,q1,q2⟩:=f.sr t v ht;refine⟨u,q1,VR.low (E:=E) (E':={ E with ρ:=ρ' }) hρ rfl rfl rfl rfl v u ?_ q2⟩;have:(sG c.slots .nil).get t=some v:=ht;rcases Bh this with h | h
  ·exact FP h1 h
  ·simp [Tr.get] at h
end Go.As
end
section
namespace Go.As
open Go.RowKit
def uU (ro:Nat→Prop) (h:Array Obj) (c:CK) (n:Int) (u:Value):Prop:=match c with
 | .int k=>u= .int k n
 | .bool=>u= .bool (!(n == 0))
 | c=>Rd ro h c (dec n) u
def jJ (ro:Nat→Prop) (h:Array Obj):List CK→List Int→List Value→Prop
 | [],ns,us=>ns= []∧us= []
 | c :: cs,ns,us=> ∃n ns' u us',ns=n :: ns'∧us=u :: us'∧uU ro h c n u∧jJ ro h cs ns' us'
theorem XU {E:En} {h:Array Obj} {c:CK} {t:SE} {u:Value}:VR E h (aeI c t) u↔uU E.ro h c (t.den E.ρ) u:=by cases c <;> simp only [aeI,uU,VR,SB.den,SE.den]
theorem alP {E:En} {h:Array Obj} {c:CK} {v:AV} {u:Value} {e:SE} (hv:VR E h v u) (hn:alQ c v=some e):uU E.ro h c (e.den E.ρ) u:=by
 unfold alQ at hn;split at hn
 ·split at hn
  ·split at hn
   ·rename_i hk;subst hk;simp only [Option.some.injEq] at hn;subst hn;simpa only [uU,VR] using hv
   ·simp at hn
  ·simp at hn
 ·simp at hn
 ·obtain⟨s,rfl,hs⟩:=FK hv hn;simp only [uU,hs];exact .str s
 ·exact qM hv hn
theorem jJ.length {ro:Nat→Prop} {h:Array Obj}: ∀{cs:List CK} {ns:List Int} {us:List Value},jJ ro h cs ns us→ns.length=cs.length∧us.length=cs.length
 | [],ns,us,hh=>by simp only [jJ] at hh; simp [hh.1,hh.2]
 | c :: cs,ns,us,hh=>by obtain⟨n,ns',u,us',rfl,rfl,_,h2⟩:=hh;have:=h2.length;simp [this.1,this.2]
theorem uU.keep {ro ro':Nat→Prop} {h h':Array Obj} (k1: ∀b,ro b→ro' b) (k2: ∀b,ro b→h'[b]?=h[b]?) {c:CK} {n:Int} {u:Value} (r:uU ro h c n u):uU ro' h' c n u:=by
 cases c with
 | int k=>exact r
 | bool=>exact r
 | str=>exact Rd.keep k1 k2 r
 | sl t=>exact Rd.keep k1 k2 r
theorem OI {E:En} {h:Array Obj} {f:Nat→SE}: ∀{cs:List CK} {i:Nat} {ns:List Int} {us:List Value},jJ E.ro h cs ns us→(∀k n,ns[k]?=some n→(f (i+k)).den E.ρ=n)→bJ E h (OJ cs f i) us
 | [],_,_,us,hh,_=>by simp only [jJ] at hh; rw [hh.2]; simp [OJ,bJ]
 | c :: cs,i,ns,us,hh,hf=>by
   obtain⟨n,ns',u,us',rfl,rfl,h1,h2⟩:=hh;simp only [OJ,aY];refine⟨u,us',rfl,?_,OI h2 fun k m hk=>?_⟩
   ·rw [XU];have:=hf 0 n rfl;rw [Nat.add_zero] at this;rw [this];exact h1
   ·have:=hf (k+1) m (by simpa using hk);rw [show i+1+k=i+(k+1) by omega];exact this
inductive Shape:List RK→List Value→List Value→Prop where
 | nil:Shape [] [] []
 | one (c:CK) {rs:List RK} {us fl:List Value} (u:Value):Shape rs us fl→Shape (.one c :: rs) (u :: us) (u :: fl)
 | agg (cs:List CK) {rs:List RK} {us fl:List Value} (xs:List Value) (h:xs.length=cs.length):Shape rs us fl→Shape (.agg cs :: rs) (.agg xs.toArray :: us) (xs++fl)
theorem sO {E:En} {h:Array Obj}: ∀{pK:List RK} {vs cells:List AV} {us:List Value},bJ E h vs us→cellsOf pK vs=some cells→∃fl,Shape pK us fl∧bJ E h cells fl
 | [],[],cells,us,hv,hc=>by simp only [cellsOf,Option.some.injEq] at hc;subst hc;simp only [bJ] at hv;subst hv;exact⟨[],.nil,by simp [bJ]⟩
 | [],_ :: _,cells,us,hv,hc=>by simp [cellsOf] at hc
 | .one _ :: _,[],cells,us,hv,hc=>by simp [cellsOf] at hc
 | .agg _ :: _,[],cells,us,hv,hc=>by simp [cellsOf] at hc
 | .one c :: rs,v :: vs,cells,us,hv,hc=>by
   rw [aY] at hv;obtain⟨u,us',rfl,h1,h2⟩:=hv;simp only [cellsOf] at hc;split at hc
   ·split at hc
    ·rename_i l hl;simp only [Option.some.injEq] at hc;subst hc;obtain⟨fl,s,v2⟩:=sO h2 hl;exact⟨u :: fl,.one c u s,by rw [aY]; exact⟨u,fl,rfl,h1,v2⟩⟩
    ·simp at hc
   ·simp at hc
 | .agg cs :: rs,v :: vs,cells,us,hv,hc=>by
   rw [aY] at hv;obtain⟨u,us',rfl,h1,h2⟩:=hv;simp only [cellsOf] at hc;split at hc
   ·rename_i xs;split at hc
    ·rename_i hlen;have hlen:=Nat.eq_of_beq_eq_true hlen;split at hc
     ·rename_i l hl;simp only [Option.some.injEq] at hc;subst hc;obtain⟨fl,s,v2⟩:=sO h2 hl;simp only [VR] at h1;obtain⟨ws,rfl,h3⟩:=h1;exact⟨ws++fl,.agg cs ws (by rw [h3.length,hlen]) s,h3.append v2⟩
     ·simp at hc
    ·simp at hc
   ·simp at hc
theorem Ez {ro:Nat→Prop} {h:Array Obj}: ∀{cs ds:List CK} {ns:List Int} {us vs:List Value},us.length=cs.length→jJ ro h (cs++ds) ns (us++vs)→∃a b,ns=a++b∧jJ ro h cs a us∧jJ ro h ds b vs
 | [],ds,ns,us,vs,hl,hh=>by have:us= []:=List.eq_nil_of_length_eq_zero hl;subst this;exact⟨[],ns,rfl,by simp [jJ],hh⟩
 | c :: cs,ds,ns,us,vs,hl,hh=>by
   simp only [List.cons_append,jJ] at hh;obtain⟨n,ns',u,us',rfl,he,h1,h2⟩:=hh
   cases us with
   | nil=>simp at hl
   | cons x us=> simp only [List.cons_append,List.cons.injEq] at he;obtain⟨rfl,rfl⟩:=he;obtain⟨a,b,rfl,h3,h4⟩:=Ez (by simpa using hl) h2;exact⟨n :: a,b,rfl,⟨n,a,x,us,rfl,rfl,h1,h3⟩,h4⟩
theorem yK {E:En} {h:Array Obj} {f:Nat→SE}: ∀{pK:List RK} {us fl:List Value} {ns:List Int} {i:Nat},Shape pK us fl→jJ E.ro h (uS pK) ns fl→(∀k n,ns[k]?=some n→(f (i+k)).den E.ρ=n)→bJ E h (vZ pK f i) us
 | [],us,fl,ns,i,s,_,_=>by cases s; simp [vZ,bJ]
 | .one c :: rs,us,fl,ns,i,s,hc,hf=>by
   cases s with
   | one _ u s=>
     simp only [uS,RK.flat,List.cons_append,List.nil_append,jJ] at hc;obtain⟨n,ns',u',us',rfl,he,h1,h2⟩:=hc;simp only [List.cons.injEq] at he;obtain⟨rfl,rfl⟩:=he;simp only [vZ,aY];refine⟨_,_,rfl,?_,yK s h2 fun k m hk=>?_⟩
     ·rw [XU];have:=hf 0 n rfl;rw [Nat.add_zero] at this;rw [this]; exact h1
     ·have:=hf (k+1) m (by simpa using hk);rw [show i+1+k=i+(k+1) by omega];exact this
 | .agg cs :: rs,us,fl,ns,i,s,hc,hf=>by
   cases s with
   | agg _ xs hl s=>
     simp only [uS,RK.flat] at hc;obtain⟨a,b,rfl,h1,h2⟩:=Ez hl hc;have hal:=h1.length.1;simp only [vZ,aY,VR];refine⟨_,_,rfl,⟨xs,rfl,OI h1 fun k m hk=>hf k m ?_⟩,yK s h2 fun k m hk=>?_⟩
     ·rw [List.getElem?_append_left (List.getElem?_eq_some_iff.1 hk).1]; exact hk
     ·have:=hf (cs.length+k) m (by rw [List.getElem?_append_right (by omega),show cs.length+k - a.length=k by omega]; exact hk);rw [show i+cs.length+k=i+(cs.length+k) by omega];exact this
section
variable {P:Program} {E:En} {w:World}
theorem Ky {α:Type} {r:α} {h:Array Obj}: ∀{cs:List CK} {vs:List AV} {s:St} {k:List SE→St→T α} {us:List Value},bI E.ρ s.pc→bJ E h vs us→(outs cs vs s k).leaf E.ρ=some r→
 ∃es pc',bI E.ρ pc'∧jJ E.ro h cs (es.map (SE.den E.ρ)) us∧(k es { s with pc:=pc' }).leaf E.ρ=some r
 | [],[],s,k,us,hp,hv,hl=>by simp only [outs] at hl;simp only [bJ] at hv;exact⟨[],s.pc,hp,by simp [jJ,hv],hl⟩
 | [],_ :: _,s,k,us,hp,hv,hl=>by simp [outs,T.leaf] at hl
 | _ :: _,[],s,k,us,hp,hv,hl=>by simp [outs,T.leaf] at hl
 | c :: cs,v :: vs,s,k,us,hp,hv,hl=>by
   rw [aY] at hv;obtain⟨u,us',rfl,h1,h2⟩:=hv;simp only [outs] at hl;split at hl
   ·split at hl
    ·rename_i b;obtain⟨pc1,hp1,hl1⟩:=cZ hp hl;obtain⟨es,pc2,hp2,q1,q2⟩:=Ky (s:={ s with pc:=pc1 }) hp1 h2 hl1;refine⟨_ :: es,pc2,hp2,?_,q2⟩;simp only [List.map_cons,jJ];refine⟨_,_,u,us',rfl,rfl,?_,q1⟩;simp only [VR] at h1;subst h1;simp only [uU,SE.den];cases b.den E.ρ <;> rfl
    ·simp [T.leaf] at hl
   ·split at hl
    ·rename_i e he;obtain⟨es,pc2,hp2,q1,q2⟩:=Ky hp h2 hl;refine⟨_ :: es,pc2,hp2,?_,q2⟩;simp only [List.map_cons,jJ];exact⟨_,_,u,us',rfl,rfl,alP h1 he,q1⟩
    ·simp [T.leaf] at hl
theorem EK (ρ:Nat→Int): ∀es:List SE,dec ((iI es).den ρ)=dL ((es.map (SE.den ρ)).map .i)
 | []=>by simp only [iI,SE.den,aC]; rfl
 | e :: es=>by simp only [iI,gW,SE.den,iL.den,aC,pR,EK ρ es,List.map_cons,dL]
theorem lJ (ρ:Nat→Int): ∀es:List SE,(iI es).den ρ=qQ (es.map (SE.den ρ))
 | []=>rfl
 | e :: es=>by have:=EK ρ (e :: es);simp only [iI,gW,SE.den,iL.den,aC,pR,EK ρ es,List.map_cons,qQ,dL]
theorem Di {ρ:Nat→Int} {r:SE} {ys:List Int} (h:r.den ρ=qQ ys) {i:Nat} {y:Int} (hi:ys[i]?=some y):(uP r i).den ρ=y:=by simp only [uP,SE.den,iL.den,h,qQ,aC,D.hd,aT,List.getElem?_map,hi,Option.map_some,Option.getD_some,D.n]
def awX (pK:List RK) (ys:List Int) (ro:Nat→Prop) (h:Array Obj) (u:Value):Prop:= ∃us fl,Shape pK us fl∧jJ ro h (uS pK) ys fl∧u=if hh:us.toArray.size=1 then us.toArray[0] else .tuple us.toArray
def arL (P:Program) (GB:(Nat→Prop)→Array Obj→Prop) (g:FuncId) (OU pK:List RK) (f:List Int→Option (List Int)):Prop:=
 ∀xs ys,f xs=some ys→∀(ro:Nat→Prop) (w:World) (vals fl:List Value),(∀b,ro b→b < w.heap.size)→GB ro w.heap→Shape OU vals fl→jJ ro w.heap (uS OU) xs fl→
  Calls P g vals.toArray w fun e w'=> ∃u,e= .returned u∧Below w.heap.size w w'∧∃ro':Nat→Prop,(∀b,ro b→ro' b)∧(∀b,ro' b→ro b∨w.heap.size≤b)∧(∀b,ro' b→b < w'.heap.size)∧awX pK ys ro' w'.heap u
theorem jJ.aAS {ro ro':Nat→Prop} {h h':Array Obj}: ∀{cs:List CK} {ns:List Int} {us:List Value},jJ ro h cs ns us→P8 cs=true→jJ ro' h' cs ns us
 | [],ns,us,hh,_=>hh
 | c :: cs,ns,us,hh,hs=>by
   obtain⟨n,ns',u,us',rfl,rfl,h1,h2⟩:=hh;simp only [P8] at hs;split at hs
   ·exact⟨n,ns',u,us',rfl,rfl,h1,h2.aAS hs⟩
   ·exact⟨n,ns',u,us',rfl,rfl,h1,h2.aAS hs⟩
   ·simp at hs
theorem amV [Glob] {GB:(Nat→Prop)→Array Obj→Prop} (hgb: ∀ρ ro h,Glob.ok ρ ro h→GB ro h) {F:uJ} (hgood: ∀ρ ro h,Glob.ok ρ ro h→Good F ρ) {g:FuncId} {j:Nat} {OU pK:List RK} (hs:arL P GB g OU pK (F j))
 (hrun: ∀(args:Array Value) (w:World),(callFunc g args).run P w= .ok (.enter g args) w):nC P g (amW j OU pK):=by
 intro aF9 s E w vals v s' r hv hp hl;unfold amW at hl;split at hl
 ·simp [T.leaf] at hl
 ·rename_i cells hc;obtain⟨fl,sh,hv2⟩:=sO hv hc;obtain⟨cells',h1,pcF,E1,hpF,f,hfr,hl⟩:=yP rfl r hp hl;have hv3:=hfr _ hv2;have s1:=f.dX;have r1:=f.rel;have hρ:=f.ρ;rw [← hρ] at hl hpF;obtain⟨es,pc1,hp1,q1,q2⟩:=Ky (s:={ s with h:=h1,pc:=pcF }) hpF hv3 hl;obtain⟨pc2,hp2,q3⟩:=cZ (s:={ s with h:=h1,pc:=pc1 }) hp1 q2;split at q3
  ·rename_i ht;have hg:=hgood _ _ _ r1.glob;have hg1:=(hg j (es.map (SE.den E1.ρ))).1;have hg2:=(hg j (es.map (SE.den E1.ρ))).2;simp only [SB.den,SE.den,lJ,hg1,beq_iff_eq] at ht
   have hsome:(F j (es.map (SE.den E1.ρ))).isSome=true:=by
    cases hh:(F j (es.map (SE.den E1.ρ))).isSome with
    | true=>rfl
    | false=>rw [hh] at ht; simp at ht
   obtain⟨ys,hys⟩:=Option.isSome_iff_exists.1 hsome;have hres:=aF q3;simp only [Prod.mk.injEq] at hres;obtain⟨rfl,hs'⟩:=hres;have hrun':=hs _ ys hys E1.ro w vals fl r1.Bv (hgb _ _ _ r1.glob) sh q1
   have hval: ∀(E2:En) (h2:Array Obj) (us fl':List Value),E2.ρ=E1.ρ→Shape pK us fl'→jJ E2.ro h2 (uS pK) ys fl'→
    VR E2 h2 (match vZ pK (uP (.ap (2*j+1) (iI es))) 0 with | [v]=>v | vs=> .tuple vs) (if hh:us.toArray.size=1 then us.toArray[0] else .tuple us.toArray):=by
    intro E2 h2 us fl' hE2 sh' c1
    have hvr:bJ E2 h2 (vZ pK (uP (.ap (2*j+1) (iI es))) 0) us:=by refine yK sh' c1 fun k n hk=>?_;rw [Nat.zero_add];refine Di (ys:=ys) ?_ hk;show E2.ρ _=_;rw [hE2,lJ,hg2,hys];rfl
    have:=Kr hvr;unfold resV at this;exact this
   cases hsc:P8 (uS pK) with
   | true=>
     rw [hsc] at hs';simp only at hs';subst hs';refine⟨rfl,by rw [← hρ]; exact hp2,?_⟩;unfold uV uT;rw [hrun];refine Calls.mono hrun' fun e w' ⟨u,he,hb,ro',k1,k2,k3,k4⟩=> ⟨u,he,?_⟩;have hkeep:Keeps E w.heap E w'.heap:=⟨rfl,fun _ h=>h,fun _ _=>rfl,fun _ _=>rfl,fun _ h=>h,fun b hbr=>hb.block b (r.Bv b hbr)⟩
     have st2:Stp E s.h w E s.h w':=
      ⟨rfl,fun _ h=>h,fun _ _=>rfl,fun _ _=>rfl,fun _ h=>h,fun b hbr=> .inl hbr,Nat.le_refl _,.inr rfl,fun _ h=> .inl h,hb.os,hb.tape,hb.output,hb.size,fun b hbl _=>hb.block b hbl,fun id o h _=> ⟨id,o,h,rfl⟩⟩
     have r2:bH E s.h w':=by refine⟨r.fresh,r.res,fun id o h=>?_,r.inj,fun b hbr=>Nat.lt_of_lt_of_le (r.Bv b hbr) hb.size,Glob.keep r.glob (fun _ h=>h) hkeep.Mc⟩;obtain⟨g1,g2,g3⟩:=r.live id o h;exact⟨g1,g2.keep hkeep g1 (hb.block _ (jH r h)),g3⟩
     obtain⟨us,fl',sh',c1,rfl⟩:=k4;exact⟨E,st2,r2,hval E w'.heap us fl' hρ.symm sh' (c1.aAS hsc)⟩
   | false=>
     rw [hsc] at hs';simp only at hs';subst hs';refine⟨rfl,by rw [← hρ]; exact hp2,?_⟩;unfold uV uT;rw [hrun];refine Calls.mono hrun' fun e w' ⟨u,he,hb,ro',k1,k2,k3,k4⟩=> ⟨u,he,?_⟩;have hkeep:Keeps E1 w.heap { E1 with ro:=ro' } w'.heap:=⟨rfl,fun _ h=>h,fun _ _=>rfl,fun _ _=>rfl,k1,fun b hbr=>hb.block b (r1.Bv b hbr)⟩
     have st2:Stp E1 h1 w { E1 with ro:=ro' } h1 w':=
      ⟨rfl,fun _ h=>h,fun _ _=>rfl,fun _ _=>rfl,k1,fun b hbr=>(k2 b hbr).imp id .inr,Nat.le_refl _,.inr rfl,fun _ h=> .inl h,hb.os,hb.tape,hb.output,hb.size,fun b hbl _=>hb.block b hbl,fun id o h _=> ⟨id,o,h,rfl⟩⟩
     have r2:bH { E1 with ro:=ro' } h1 w':=by
      refine⟨r1.fresh,r1.res,fun id o h=>?_,r1.inj,k3,Glob.keep r1.glob k1 hkeep.Mc⟩;obtain⟨g1,g2,g3⟩:=r1.live id o h;refine⟨g1,g2.keep hkeep g1 (hb.block _ (jH r1 h)),fun hr=>?_⟩;rcases k2 _ hr with hr | hr
      ·exact g3 hr
      ·have hlt:(E1.θ id).1 < w.heap.size:=jH r1 h;have hge:w.heap.size≤(E1.θ id).1:=hr;omega
     obtain⟨us,fl',sh',c1,rfl⟩:=k4;exact⟨{ E1 with ro:=ro' },s1.trans st2,r2,hval { E1 with ro:=ro' } w'.heap us fl' rfl sh' c1⟩
  ·simp [T.leaf] at q3
end
end Go.As
end
section
namespace Go.As
open Go.RowKit
structure rJ where
 w0:World
 ro:Nat→Prop
 m:Nat
 θ:Nat→Nat×Nat
 κ:Nat→Nat
def rJ.fp (B:rJ) (b:Nat):Prop:= ∃i,i < B.m∧(B.θ i).1=b
structure Bel (B:rJ) (w:World):Prop where
 os:w.os=B.w0.os
 tape:w.tape=B.w0.tape
 output:w.output=B.w0.output
 size:B.w0.heap.size≤w.heap.size
 blk: ∀k,k < B.w0.heap.size→¬B.fp k→w.heap[k]?=B.w0.heap[k]?
structure rH (B:rJ) (E:En) (s:St) (a:Act) (w:World):Prop where
 fit:H6 E s a w
 ro: ∀b,B.ro b→E.ro b
 Jk: ∀b,E.ro b→B.ro b∨B.w0.heap.size≤b∨B.fp b
 bel:Bel B w
 own: ∀id o,s.h.get id=some o→B.w0.heap.size≤(E.θ id).1∨B.fp (E.θ id).1
 inx: ∀i,i < B.m→E.dm i∧E.θ i=B.θ i∧E.κ i=B.κ i
section
variable {P:Program} {B:rJ}
theorem rH.step [Glob] {E E':En} {s s':St} {a a':Act} {w w':World} (t:rH B E s a w) (st:Stp E s.h w E' s'.h w') (f':Fit E' s' a' w'):rH B E' s' a' w':=by
 have hown: ∀id o,s'.h.get id=some o→B.w0.heap.size≤(E'.θ id).1∨B.fp (E'.θ id).1:=by
  intro id o ho;rcases Nat.lt_or_ge (E'.θ id).1 w.heap.size with h | h
  ·obtain⟨D8,o0,h0,he⟩:=st.own id o ho h;rw [← he];exact t.own D8 o0 h0
  ·exact .inl (Nat.le_trans t.bel.size h)
 refine⟨f'.x,fun b hb=>st.ro b (t.ro b hb),fun b hb=>?_,⟨st.os.trans t.bel.os,st.tape.trans t.bel.tape,st.output.trans t.bel.output,Nat.le_trans t.bel.size st.size,fun k hk hn=>?_⟩,hown,fun i hi=>?_⟩
 ·rcases st.Jk b hb with h | ⟨id,o,h1,h2⟩ | h
  ·exact t.Jk b h
  ·rw [← h2]; exact .inr (t.own id o h1)
  ·exact .inr (.inl (Nat.le_trans t.bel.size h))
 ·rw [← t.bel.blk k hk hn];refine st.keep k (Nat.lt_of_lt_of_le hk t.bel.size) fun id o ho he=>?_;rcases t.own id o ho with h | h
  ·omega
  ·rw [he] at h; exact hn h
 ·obtain⟨h1,h2,h3⟩:=t.inx i hi;exact⟨st.dm i h1,by rw [st.θ i h1]; exact h2,by rw [st.κ i h1]; exact h3⟩
theorem rH.then [Glob] {E:En} {s s':St} {a a':Act} {w w':World} (t:rH B E s a w) (h:Then E s a w s' a' w'): ∃E',rH B E' s' a' w'∧E'.ρ=E.ρ∧Glob.ok E'.ρ E'.ro w'.heap:=by obtain⟨_,_,E',st,f'⟩:=h;exact⟨E',t.step st f',st.ρ,f'.rel.glob⟩
theorem rH.pc {E:En} {s:St} {a:Act} {w:World} {pc:List (SB×Bool)} (t:rH B E s a w) (hp:bI E.ρ pc):rH B E { s with pc:=pc } a w:=
 ⟨⟨t.fit.fresh,t.fit.res,t.fit.live,t.fit.inj,t.fit.Bv,t.fit.sr,hp⟩,t.ro,t.Jk,t.bel,t.own,t.inx⟩
theorem Nv {r:Ren}: ∀{m:Nat},Nw m r=true→∀i,i < m→i < r.bl.length∧r.id i=i∧r.A8 i=0
 | 0,_,i,hi=>by omega
 | n+1,h,i,hi=>by
   simp only [Nw,Bool.and_eq_true] at h;obtain⟨⟨h1,h2⟩,h3⟩:=h;by_cases he:i=n
   ·subst he;split at h1
    ·rename_i j hj;have h1:=Nat.eq_of_beq_eq_true h1;subst h1;refine⟨?_,?_,Nat.eq_of_beq_eq_true h2⟩
     ·rw [dB] at hj;exact (List.getElem?_eq_some_iff.1 hj).1
     ·unfold Ren.id; rw [hj]
    ·simp at h1
   ·exact Nv h3 i (by omega)
theorem rH.fits [Glob] {E:En} {c:CS} {s:St} {r:Ren} {a:Act} {w:World} (t:rH B E s a w) (hg:Glob.ok E.ρ E.ro w.heap) (h:c.fits prv s r=true) (hid:Nw B.m r=true):r.ns.length≤900∧rH B (E.ren r) c.st a w:=by
 obtain⟨hl,f,ho⟩:=GK Y5 (t.fit.fit hg) h;refine⟨hl,f.x,t.ro,t.Jk,t.bel,fun id o hid=>?_,fun i hi=>?_⟩
 ·obtain⟨o',h'⟩:=ho id o hid;exact t.own _ _ h'
 ·obtain⟨q1,q2,q3⟩:=Nv hid i hi;obtain⟨h1,h2,h3⟩:=t.inx i hi;refine⟨⟨q1,by rw [q2]; exact h1⟩,?_,?_⟩
  ·show ((E.θ (r.id i)).1,(E.θ (r.id i)).2+r.A8 i)=_;rw [q2,q3,Nat.add_zero];exact h2
  ·show E.κ (r.id i) - r.A8 i=_;rw [q2,q3,Nat.sub_zero];exact h3
theorem rH.low {K:Nat} {E:En} {c:CS} {a:Act} {w:World} {ρ':Nat→Int} (hc:Cj K c=true) (hρ: ∀i,i < K→ρ' i=E.ρ i) (t:rH B E c.st a w):rH B { E with ρ:=ρ' } c.st a w:=
 ⟨t.fit.low hc hρ,t.ro,t.Jk,t.bel,t.own,t.inx⟩
def rJ.out (B:rJ) (ys:List Int) (ro:Nat→Prop):En:={ ρ:=low ys,θ:=B.θ,κ:=B.κ,dm:=fun i=>i < B.m,ro:=ro }
def QE (B:rJ) (pK:List RK) (dW:List dU) (ko:Nat) (ys:List Int) (e:Ending) (w':World):Prop:=
 ∃u,e= .returned u∧Bel B w'∧∃ro':Nat→Prop,(∀b,B.ro b→ro' b)∧(∀b,ro' b→B.ro b∨B.w0.heap.size≤b)∧(∀b,ro' b→b < w'.heap.size)∧(∀i,i < B.m→¬ro' (B.θ i).1)∧
  (∀i o,dW[i]?=some o→OR (B.out ys ro') w'.heap i o)∧awX pK (ys.drop ko) ro' w'.heap u
def afK (us:List Value):Value:=if h:us.toArray.size=1 then us.toArray[0] else .tuple us.toArray
def QR (B:rJ) (wO:List CS) (ys:List Int) (e:Ending) (w':World):Prop:=
 ∃(us:List Value) (i:Nat) (c:CS) (E':En),e= .returned (afK us)∧Bel B w'∧wO[i]?=some c∧ys[0]?=some (i:Int)∧ys.length=c.k+1∧(∀a x,ys[a+1]?=some x→E'.ρ a=x)∧us.length=c.slots.length∧
  H6 E' c.st { tmps:=us.toArray,defers:=[] } w'∧(∀b,B.ro b→E'.ro b)∧(∀b,E'.ro b→B.ro b∨B.w0.heap.size≤b)∧(∀i,i < B.m→i < c.objs.length∧E'.dm i∧E'.θ i=B.θ i∧E'.κ i=B.κ i)∧(∀id o,c.st.h.get id=some o→B.m≤id→B.w0.heap.size≤(E'.θ id).1)
def QX (B:rJ) (pK:List RK) (dW:List dU) (ko:Nat) (wO:List CS) (ys:List Int):Ending→World→Prop:=match wO with
 | []=>QE B pK dW ko ys
 | c :: l=>QR B (c :: l) ys
structure aaI [Glob] (P:Program) (g:Jc) (chk:Nat→List Oper→Bool):Prop where
 tt:eG P g.tt
 call:jW P g.call
 draw:CW P chk g.draw
theorem yR {chk:Nat→List Oper→Bool} {N:Nat} {body:Code} (h:mX chk N body=true): ∀(p:List Nat) {c:Code} {fr:List FrE},uZ body p=some (c,fr)→mX chk N c=true
 | [],c,fr,hl=>by simp only [uZ,Option.some.injEq,Prod.mk.injEq] at hl;rw [← hl.1]; exact h
 | d :: p,c,fr,hl=>by
   simp only [uZ] at hl;split at hl
   ·rename_i a b fr' hp;have:=yR h p hp;simp only [mX,Bool.and_eq_true] at this;split at hl
    ·simp only [Option.some.injEq,Prod.mk.injEq] at hl; rw [← hl.1]; exact this.1
    ·simp only [Option.some.injEq,Prod.mk.injEq] at hl; rw [← hl.1]; exact this.2
   ·rename_i id b fr' hp;have:=yR h p hp;simp only [mX] at this;simp only [Option.some.injEq,Prod.mk.injEq] at hl; rw [← hl.1]; exact this
   ·rename_i v a b fr' hp;have:=yR h p hp;simp only [mX,Bool.and_eq_true] at this;split at hl
    ·simp only [Option.some.injEq,Prod.mk.injEq] at hl; rw [← hl.1]; exact this.1
    ·simp only [Option.some.injEq,Prod.mk.injEq] at hl; rw [← hl.1]; exact this.2
   ·rename_i b fr' hp;have:=yR h p hp;simp only [mX] at this;simp only [Option.some.injEq,Prod.mk.injEq] at hl; rw [← hl.1]; exact this
   ·rename_i b fr' hp;have:=yR h p hp;simp only [mX] at this;simp only [Option.some.injEq,Prod.mk.injEq] at hl; rw [← hl.1]; exact this
   ·simp at hl
theorem Du {body:Code}: ∀(p:List Nat) {c:Code} {fr:List FrE},uZ body p=some (c,fr)→O9 body fr
 | [],c,fr,h=>by simp only [uZ,Option.some.injEq,Prod.mk.injEq] at h;rw [← h.2]; trivial
 | d :: p,c,fr,h=>by
   have h0:=h;simp only [uZ] at h;split at h
   ·rename_i a b fr' hp;have ih:=Du p hp;split at h
    ·simp only [Option.some.injEq,Prod.mk.injEq] at h;obtain⟨rfl,rfl⟩:=h;refine⟨?_,ih⟩;simp only [uZ,hp]
    ·simp only [Option.some.injEq,Prod.mk.injEq] at h;rw [← h.2]; exact ih
   ·rename_i id b fr' hp;have ih:=Du p hp;simp only [Option.some.injEq,Prod.mk.injEq] at h;rw [← h.2]; exact ih
   ·rename_i v a b fr' hp;have ih:=Du p hp;split at h
    ·simp only [Option.some.injEq,Prod.mk.injEq] at h; rw [← h.2]; exact ih
    ·simp only [Option.some.injEq,Prod.mk.injEq] at h; rw [← h.2]; exact ih
   ·rename_i b fr' hp;have ih:=Du p hp;simp only [Option.some.injEq,Prod.mk.injEq] at h;rw [← h.2];exact⟨hp,ih⟩
   ·rename_i b fr' hp;have ih:=Du p hp;simp only [Option.some.injEq,Prod.mk.injEq] at h;rw [← h.2]; exact ih
   ·simp at h
def Yb (F:uJ) (ρ:Nat→Int) (ys:List Int):Lf→Prop
 | .out es=>es.map (SE.den ρ)=ys
 | .jump j es=>F j (es.map (SE.den ρ))=some ys
def arQ [Glob] (P:Program) (body:Code) (N:Nat) (B:rJ) (Q:Exit→Act→World→Prop) (F:uJ) (ys:List Int) (tabs:J5):Prop:=
 ∀p l,tabs p=some l→∃b fr,uZ body p=some (.loop b,fr)∧∀j c,(j,c)∈l→∀E a w,rH B E c.st a w→Glob.ok E.ρ E.ro w.heap→(∃xs:List Int,(∀i x,xs[i]?=some x→E.ρ i=x)∧xs.length=c.k∧c.k≤900∧F j xs=some ys)→N≤a.tmps.size→a.defers= []→O7 P b (KE P Q fr) a w
theorem sJ (g:Tr SE): ∀(n i:Nat),(EX g n i).length=n
 | 0,_=>rfl
 | n+1,i=>by simp only [EX];split <;> simp [sJ g n (i+1)]
theorem Ad (m:Nat) (c:CS) (s:St):(c.lT m s).ns.length=c.k:=by unfold CS.lT;split;exact sJ _ _ _
theorem GI: ∀(n i:Nat) (ns:List SE),(Jy n i ns).length=ns.length
 | 0,_,_=>rfl
 | _+1,_,[]=>rfl
 | n+1,i,_ :: ns=>by simp only [Jy,List.length_cons,GI n (i+1) ns]
theorem BU (jX:Nat) (r:Ren):(xM jX r).ns.length=r.ns.length:=by
 unfold xM;split
 ·rfl
 ·exact GI _ _ _
theorem TG {α:Type} {k:St→T α} {E:En} {a:Act} {w:World} {x:α}: ∀{ts:List (Nat×Nat)} {s:St},(Yt k ts s).leaf E.ρ=some x→rH B E s a w→∃s',rH B E s' a w∧(k s').leaf E.ρ=some x
 | [],s,h,t=> ⟨s,t,h⟩
 | (i,g) :: ts,s,h,t=>by
   simp only [Yt] at h;split at h
   ·obtain⟨pc',hp',h1⟩:=cZ t.fit.pc h;exact TG h1 (t.pc hp')
   ·exact TG h t
theorem Dw [Glob] {jX:Nat} {F:uJ} {ys:List Int} {body:Code} {N:Nat} {Q:Exit→Act→World→Prop} {tabs:J5} (hj:arQ P body N B Q F ys tabs) {p:List Nat} {l0:List (Nat×CS)} (hp:tabs p=some l0) {b:Code} {fr:List FrE} (hl:uZ body p=some (.loop b,fr)) :
 ∀{l:List (Nat×CS)} {s:St} {lf:Lf} {E:En} {a:Act} {w:World},(∀x∈l,x∈l0)→(xJ B.m jX s l).leaf E.ρ=some lf→Yb F E.ρ ys lf→rH B E s a w→Glob.ok E.ρ E.ro w.heap→N≤a.tmps.size→a.defers= []→O7 P b (KE P Q fr) a w
 | [],s,lf,E,a,w,_,h,_,_,_,_,_=>by simp [xJ,T.leaf] at h
 | (j,c) :: l,s,lf,E,a,w,hsub,h,hlf,t,hg,hN,hd=>by
   simp only [xJ] at h;split at h
   ·exact Dw hj hp hl (fun x hx=>hsub x (by simp [hx])) h hlf t hg hN hd
   ·split at h
    ·rename_i hf;have:=aF h;subst this;simp only [Bool.and_eq_true] at hf;obtain⟨hle,t'⟩:=t.fits hg hf.1 hf.2;obtain⟨b',fr',hl',hh⟩:=hj p l0 hp;rw [hl] at hl';simp only [Option.some.injEq,Prod.mk.injEq,Code.loop.injEq] at hl';obtain⟨rfl,rfl⟩:=hl';have hgl:(xM jX (c.lT B.m s)).ns.length=c.k:=by rw [BU,Ad]
     refine hh j c (hsub _ (by simp)) (E.ren (xM jX (c.lT B.m s))) a w t' (Glob.ren hg fun i hi=>Ren.pV hle hi) ⟨(xM jX (c.lT B.m s)).ns.map (SE.den E.ρ),fun i x hi=>?_,by simp [hgl],by rw [← hgl]; exact hle,hlf⟩ hN hd;rw [List.getElem?_map,Option.map_eq_some_iff] at hi;obtain⟨e,he,rfl⟩:=hi;show (xM jX (c.lT B.m s)).env E.ρ i=_;unfold Ren.env;rw [dB,he]
    ·exact Dw hj hp hl (fun x hx=>hsub x (by simp [hx])) h hlf t hg hN hd
theorem DV {α:Type} {k:St→T α} {E:En} {a:Act} {w:World} {x:α}: ∀{ts:List Nat} {s:St},(CG k ts s).leaf E.ρ=some x→rH B E s a w→∃s',rH B E s' a w∧(k s').leaf E.ρ=some x
 | [],s,h,t=> ⟨s,t,h⟩
 | i :: ts,s,h,t=>by
   simp only [CG] at h;split at h
   ·rename_i c hc;obtain⟨pc',hp',h1⟩:=cZ t.fit.pc h;refine DV h1 ⟨⟨t.fit.fresh,t.fit.res,t.fit.live,t.fit.inj,t.fit.Bv,fun j v hj=>?_,hp'⟩,t.ro,t.Jk,t.bel,t.own,t.inx⟩;simp only at hj;rw [Tr.get_put] at hj;split at hj
    ·rename_i he;subst he;simp only [Option.some.injEq] at hj;subst hj;obtain⟨u,h2,h3⟩:=t.fit.sr _ _ hc;refine⟨u,h2,?_⟩;simp only [VR] at h3 ⊢;rw [h3];rfl
    ·exact t.fit.sr j v hj
   ·exact DV h t
theorem afV (g:Jc) (h:Hp):(jF g h).ns.length=g.ko∧(jF g h).bl=List.range g.dW.length∧(jF g h).sh= []:=by unfold jF;split;exact⟨sJ _ _ _,rfl,rfl⟩
def rD (K:Nat):List dU→Bool
 | []=>true
 | o :: l=>F8 K o && rD K l
theorem zL {K:Nat}: ∀{l:List dU},rD K l=true→∀{i:Nat} {o:dU},l[i]?=some o→F8 K o=true
 | [],_,_,_,h=>by simp at h
 | o0 :: l,hs,i,o,h=>by
   simp only [rD,Bool.and_eq_true] at hs
   cases i with
   | zero=>simp at h; rw [← h]; exact hs.1
   | succ i=>exact zL hs.2 (by simpa using h)
theorem KW {n m jX:Nat} {s:St} {ρ:Nat→Int} {lf:Lf}: ∀{l:List CS} {k:Nat},(XD n m jX s l k).leaf ρ=some lf→∃i c,l[i - k]?=some c∧(c.fits prv s (xM jX (c.lT m s))=true∧Nw m (xM jX (c.lT m s))=true)∧n=c.slots.length∧lf= .out (.lit (i:Int) :: (xM jX (c.lT m s)).ns)∧k≤i
 | [],k,h=>by simp [XD,T.leaf] at h
 | c :: l,k,h=>by
   simp only [XD] at h;split at h
   ·obtain⟨i,c',q1,q2,q3,q4,q5⟩:=KW h;refine⟨i,c',?_,q2,q3,q4,by omega⟩;rw [show i - k=(i - (k+1))+1 by omega,List.getElem?_cons_succ];exact q1
   ·rename_i hq;simp only [Bool.and_eq_true] at hq;split at h
    ·rename_i hf;have:=aF h;simp only [Bool.and_eq_true] at hf;exact⟨k,c,by simp,hf,Nat.eq_of_beq_eq_true hq.2,this.symm,Nat.le_refl _⟩
    ·obtain⟨i,c',q1,q2,q3,q4,q5⟩:=KW h;refine⟨i,c',?_,q2,q3,q4,by omega⟩;rw [show i - k=(i - (k+1))+1 by omega,List.getElem?_cons_succ];exact q1
theorem VB {E E':En} {h h':Array Obj} (kp:Keeps E h E' h'): ∀{xs:List AV} {us:List Value} {i:Nat} {x:AV},bJ E h xs us→xs[i]?=some x→∃u,VR E h x u∧∀x',VR E' h' x' u→bJ E' h' (xs.set i x') us
 | [],us,i,x,_,hx=>by simp at hx
 | y :: ys,us,0,x,hv,hx=>by rw [aY] at hv;obtain⟨u,vs,rfl,a,b⟩:=hv;simp only [List.getElem?_cons_zero,Option.some.injEq] at hx;subst hx;refine⟨u,a,fun x' hx'=>?_⟩;rw [List.set_cons_zero,aY];exact⟨u,vs,rfl,hx',bJ.keep kp _ _ b⟩
 | y :: ys,us,i+1,x,hv,hx=>by rw [aY] at hv;obtain⟨u,vs,rfl,a,b⟩:=hv;rw [List.getElem?_cons_succ] at hx;obtain⟨u',h1,h2⟩:=VB kp b hx;refine⟨u',h1,fun x' hx'=>?_⟩;rw [List.set_cons_succ,aY];exact⟨u,vs,rfl,VR.keep kp _ _ a,h2 x' hx'⟩
theorem adF [Glob] {α:Type} {ρ:Nat→Int} {w:World} {us:List Value} {k:List AV→St→T α} {x:α}: ∀{fz:List (Nat×Nat×Nat)} {vs:List AV} {s:St} {E:En},E.ρ=ρ→bH E s.h w→bI ρ s.pc→bJ E w.heap vs us→(Zr fz vs s k).leaf ρ=some x→
 ∃vs' h' pc' E',bI ρ pc'∧Ye E w s.h E' h'∧bJ E' w.heap vs' us∧(k vs' { s with h:=h',pc:=pc' }).leaf ρ=some x
 | [],vs,s,E,hρ,r,hp,hv,h=> ⟨vs,s.h,s.pc,E,hp,Ye.refl r,hv,h⟩
 | (i,f,t) :: l,vs,s,E,hρ,r,hp,hv,h=>by
   simp only [Zr] at h;split at h
   ·rename_i xs hi;split at h
    ·rename_i y hy;rw [dB] at hi hy;obtain⟨y',h1,pc1,E1,hp1,f1,q1,g1⟩:=adE hρ r hp h;have kp:=f1.dX.keeps r;obtain⟨u,a,b⟩:=VB kp hv hi;simp only [VR] at a;obtain⟨ws,rfl,a⟩:=a;obtain⟨u2,a2,b2⟩:=VB kp a hy;split at g1
     ·rename_i e he;have hc:=qM (q1 _ a2) he
      have hv1:bJ E1 w.heap (vs.set i (.agg (xs.set f (.dat e t)))) us:=by refine b _ ?_;simp only [VR];exact⟨ws,rfl,b2 _ (by simp only [VR]; exact hc)⟩
      obtain⟨vs2,h2,pc2,E2,hp2,f2,q2,g2⟩:=adF (s:={ s with h:=h1,pc:=pc1 }) (f1.ρ.trans hρ) f1.rel hp1 hv1 g1;exact⟨vs2,h2,pc2,E2,hp2,f1.trans f2,q2,g2⟩
     ·simp [T.leaf] at g1
    ·simp [T.leaf] at h
   ·simp [T.leaf] at h
theorem avQ [Glob] {g:Jc} {chk:Nat→List Oper→Bool} (hg:aaI P g chk) {fn:Func} (hres:g.res=fn.results.toList) (hm:g.dW.length=B.m) (hlo:rD g.ko g.dW=true) (hko:g.ko≤900) {e:Ex} {s:St} {lf:Lf} {E:En} {a:Act} {w:World} {F:uJ} {ys:List Int} (h:(anX g e s).leaf E.ρ=some lf) (hlf:Yb F E.ρ ys lf)
 (t:rH B E s a w) (hgl:Glob.ok E.ρ E.ro w.heap) (hd:a.defers= []):bodyPost P fn (QX B g.pK g.dW g.ko g.wO ys) (EI e) a w:=by
 have fit:=t.fit.fit hgl
 have key: ∀{x:T Lf},x=(match oH g.tt s g.res with
  | none=>T.fail
  | some vs=>match g.wO with
    | []=>match cellsOf g.pK vs with
      | none=> .fail
      | some cells=>Gz cells s fun cells s=>match Iy (jF g s.h) g.dW.length s.h g.dW 0 with
        | true=>outs (uS g.pK) cells s fun es _=> .ret (.out ((jF g s.h).ns++es))
        | false=> .fail
    | c :: l=>Zr g.fz vs s fun vs s=>XD vs.length g.dW.length g.jX ⟨bG vs 0 .nil,s.h,s.pc⟩ (c :: l) 0)→x.leaf E.ρ=some lf→∃v,(results fn a.tmps).run P w= .ok v w∧QX B g.pK g.dW g.ko g.wO ys (.returned v) w:=by
  intro x hx hl;subst hx;split at hl
  ·simp [T.leaf] at hl
  ·rename_i vs hr;rw [hres] at hr;obtain⟨us,g1,g2⟩:=Ai hg.tt fit hr
   have hrun:(results fn a.tmps).run P w= .ok (afK us) w:=by
    have hm:(fn.results.mapM (Bz a)).run P w= .ok us.toArray w:=by rw [Array.mapM_eq_mapM_toList];rw [map_eq_pure_bind];simp only [Sem.run_bind,g1];rfl
    have hr2:results fn a.tmps=(do let vs ← fn.results.mapM (Bz a); pure (if h:vs.size=1 then vs[0] else .tuple vs)):=rfl;rw [hr2];simp only [Sem.run_bind,hm];rfl
   split at hl
   ·rename_i JW;split at hl
    ·simp [T.leaf] at hl
    ·rename_i cells hc;rw [JW];show ∃v,_∧QE B g.pK g.dW g.ko ys (.returned v) w;obtain⟨fl,sh,hv2⟩:=sO g2 hc;obtain⟨cells',h1,pcF,E1,hpF,f,hfr,hl⟩:=yP rfl fit.rel fit.pc hl;have hv3:=hfr _ hv2;have s1:=f.dX;have r1:=f.rel;split at hl
     ·rename_i hob;have hρ:=f.ρ;rw [← hρ] at hl hlf hpF;obtain⟨es,pc1,hp1,q1,q2⟩:=Ky (s:={ s with h:=h1,pc:=pcF }) hpF hv3 hl;have:=aF q2;subst this;simp only [Yb] at hlf;obtain⟨n1,n2,n3⟩:=afV g h1
      have hdrop:ys.drop g.ko=es.map (SE.den E1.ρ):=by rw [← hlf,List.map_append,List.drop_append_of_le_length (by simp [n1])];rw [List.drop_of_length_le (by simp [n1]),List.nil_append]
      have aFx: ∀i,i < g.ko→low ys i=(jF g h1).env E1.ρ i:=by
       intro i hi;have hlt:i < (jF g h1).ns.length:=by omega
       unfold low Ren.env;rw [dB,List.getElem?_eq_getElem hlt,← hlf,List.getD_eq_getElem?_getD,List.map_append,List.getElem?_append_left (by simpa using hlt),List.getElem?_map,List.getElem?_eq_getElem hlt];rfl
      have auE: ∀i,i < B.m→E1.dm i∧E1.θ i=B.θ i∧E1.κ i=B.κ i:=by intro i hi;obtain⟨h1,h2,h3⟩:=t.inx i hi;exact⟨s1.dm i h1,by rw [s1.θ i h1]; exact h2,by rw [s1.κ i h1]; exact h3⟩
      have auF: ∀i,i < g.dW.length→(jF g h1).id i=i:=by intro i hi;unfold Ren.id;rw [n2,dB,List.getElem?_range hi]
      have Xe: ∀i,(jF g h1).A8 i=0:=by intro i;unfold Ren.A8;rw [n3];rfl
      have hlive: ∀i,i < B.m→¬E1.ro (B.θ i).1:=by
       intro i hi;have hlt:i < g.dW.length:=by omega
       obtain⟨o',q3,_,_⟩:=lS hob (List.getElem?_eq_getElem hlt);rw [Nat.zero_add,auF i hlt] at q3;have:=(r1.live i o' q3).2.2;rw [(auE i hi).2.1] at this;exact this
      refine⟨afK us,hrun,_,rfl,t.bel,E1.ro,fun b hb=>s1.ro b (t.ro b hb),fun b hb=>?_,r1.Bv,hlive,fun i o hi=>?_,us,fl,sh,by rw [hdrop]; exact q1,rfl⟩
      ·have key:B.ro b∨B.w0.heap.size≤b∨B.fp b:=by
        rcases s1.Jk b hb with h | ⟨id,o,h1,h2⟩ | h
        ·exact t.Jk b h
        ·rw [← h2]; exact .inr (t.own id o h1)
        ·exact .inr (.inl (Nat.le_trans t.bel.size h))
       rcases key with h | h | ⟨i,hi,he⟩
       ·exact .inl h
       ·exact .inr h
       ·exact absurd hb (by rw [← he]; exact hlive i hi)
      ·have hil:=(List.getElem?_eq_some_iff.1 hi).1;obtain⟨o',q3,q4,q5⟩:=lS hob hi;rw [Nat.zero_add] at q3 q5;have ho:=(r1.live _ o' q3).2.1;have ho2:=OR.ren (E:=E1) (r:=jF g h1) (by omega) (id:=i) (by rw [n2,List.length_range]; exact q4) q5 ho
       have kp:Keeps (E1.ren (jF g h1)) w.heap { ρ:=(jF g h1).env E1.ρ,θ:=B.θ,κ:=B.κ,dm:=fun i=>i < B.m,ro:=E1.ro } w.heap:=by
        have hd: ∀id,(E1.ren (jF g h1)).dm id→id < g.dW.length:=by intro id hh;have:=hh.1;rw [n2,List.length_range] at this;exact this
        refine⟨rfl,fun id hh=>by have:=hd id hh; show id < B.m; omega,fun id hh=>?_,fun id hh=>?_,fun _ h=>h,fun _ _=>rfl⟩
        ·have:=hd id hh;show B.θ id=((E1.θ ((jF g h1).id id)).1,(E1.θ ((jF g h1).id id)).2+(jF g h1).A8 id);rw [auF id this,Xe,Nat.add_zero,(auE id (by omega)).2.1]
        ·have:=hd id hh;show B.κ id=E1.κ ((jF g h1).id id) - (jF g h1).A8 id;rw [auF id this,Xe,Nat.sub_zero,(auE id (by omega)).2.2]
       have aDE:(E1.ren (jF g h1)).dm i:=by refine⟨by rw [n2,List.length_range]; exact hil,?_⟩;rw [auF i hil];exact (auE i (by omega)).1
       have hθi:(E1.ren (jF g h1)).θ i=B.θ i:=(kp.θ i aDE).symm;have ho3:=OR.keep kp aDE rfl ho2;exact OR.low (K:=g.ko) (E:={ ρ:=(jF g h1).env E1.ρ,θ:=B.θ,κ:=B.κ,dm:=fun i=>i < B.m,ro:=E1.ro }) (E':=B.out ys E1.ro) aFx rfl rfl rfl rfl (zL hlo hi) ho3
     ·simp [T.leaf] at hl
   ·rename_i c0 l0 JW
    have hq:QR B (c0 :: l0) ys (.returned (afK us)) w:=by
     obtain⟨vs1,h1,pc1,E1,hp1,f1,g2,hl⟩:=adF rfl fit.rel fit.pc g2 hl;have hgl:=f1.rel.glob
     have t0:rH B E1 ⟨bG vs1 0 .nil,h1,pc1⟩ { tmps:=us.toArray,defers:=[] } w:=by have sr1:=Gp g2 0;exact t.step (s':=⟨bG vs1 0 .nil,h1,pc1⟩) f1.dX ⟨f1.rel,by simpa using sr1,by rw [f1.ρ]; exact hp1⟩
     rw [← f1.ρ] at hl hlf;obtain⟨i,c,q1,⟨q2,q2'⟩,q3,q4,_⟩:=KW hl;rw [hm] at q2 q2' q4;obtain⟨hle,t1⟩:=t0.fits hgl q2 q2';rw [q4] at hlf;simp only [Yb,List.map_cons] at hlf;subst hlf
     have hbl:(xM g.jX (c.lT B.m ⟨bG vs1 0 .nil,h1,pc1⟩)).bl.length=c.objs.length:=by have:=q2;unfold CS.fits at this;simp only [Bool.and_eq_true] at this;exact Nat.eq_of_beq_eq_true this.1.1.1.1.2
     have hin: ∀i,i < B.m→i < c.objs.length:=fun i hi=>by rw [← hbl]; exact (Nv q2' i hi).1
     have hlive: ∀i,i < B.m→∃o,c.st.h.get i=some o:=by intro i hi;have hi2:=hin i hi;refine⟨c.objs[i],?_⟩;show (vY c.objs 0 .nil).get i=_;rw [nK,if_pos (by omega)];simp
     have hfp: ∀b,B.fp b→¬(E1.ren (xM g.jX (c.lT B.m ⟨bG vs1 0 .nil,h1,pc1⟩))).ro b:=by rintro b ⟨i,hi,rfl⟩ hb;obtain⟨o,ho⟩:=hlive i hi;have:=(t1.fit.live i o ho).2.2;rw [(t1.inx i hi).2.1] at this;exact this hb
     refine⟨us,i,c,E1.ren (xM g.jX (c.lT B.m ⟨bG vs1 0 .nil,h1,pc1⟩)),rfl,t.bel,by simpa using q1,by simp [SE.den],by simp [BU,Ad],fun a x ha=>?_,by rw [← q3,g2.length],t1.fit,t1.ro,fun b hb=>?_,fun i hi=> ⟨hin i hi,t1.inx i hi⟩,fun id o ho hid=>?_⟩
     ·simp only [List.getElem?_cons_succ,List.getElem?_map,Option.map_eq_some_iff] at ha;obtain⟨e,he,rfl⟩:=ha;show (xM g.jX (c.lT B.m ⟨bG vs1 0 .nil,h1,pc1⟩)).env E1.ρ a=_;unfold Ren.env;rw [dB,he]
     ·rcases t1.Jk b hb with h | h | h
      ·exact .inl h
      ·exact .inr h
      ·exact absurd hb (hfp b h)
     ·rcases t1.own id o ho with h | ⟨i,hi,he⟩
      ·exact h
      ·obtain⟨o',ho'⟩:=hlive i hi;rw [← (t1.inx i hi).2.1] at he;have:=t1.fit.inj i id o' o ho' ho he;omega
    exact⟨afK us,hrun,by rw [JW]; exact hq⟩
 unfold anX at h
 cases e with
 | exit id=>simp [T.leaf] at h
 | normal=>exact⟨hd,key rfl h⟩
 | ret=>exact⟨hd,key rfl h⟩
theorem Pv {P:Program} {Q:Exit→Act→World→Prop} {e:Ex} {a:Act} {w:World} (h:Q (EI e) a w):Exit.noGoto Q (EI e) a w:=by cases e <;> exact h
theorem UK [Glob] {g:Jc} {chk:Nat→List Oper→Bool} (hg:aaI P g chk) {body:Code} {N:Nat} (hd:mX chk N body=true) {fn:Func} (hres:g.res=fn.results.toList) (hm:g.dW.length=B.m) (hlo:rD g.ko g.dW=true) (hko:g.ko≤900) {F:uJ} {ys:List Int} {tabs:J5}
 (hj:arQ P body N B (bodyPost P fn (QX B g.pK g.dW g.ko g.wO ys)) F ys tabs): ∀n:Nat,
 (∀p c fr s lf E a w,uZ body p=some (c,fr)→(D9 g tabs n p c fr s).leaf E.ρ=some lf→Yb F E.ρ ys lf→rH B E s a w→Glob.ok E.ρ E.ro w.heap→N≤a.tmps.size→a.defers= []→c.wp P (KE P (bodyPost P fn (QX B g.pK g.dW g.ko g.wO ys)) fr) a w)∧
 (∀fr e s lf E a w,O9 body fr→(Ae g tabs n fr e s).leaf E.ρ=some lf→Yb F E.ρ ys lf→rH B E s a w→Glob.ok E.ρ E.ro w.heap→N≤a.tmps.size→a.defers= []→KE P (bodyPost P fn (QX B g.pK g.dW g.ko g.wO ys)) fr (EI e) a w)
 | 0=> ⟨fun _ _ _ _ _ _ _ _ _ h=>by simp [D9,T.leaf] at h,fun _ _ _ _ _ _ _ _ h=>by simp [Ae,T.leaf] at h⟩
 | n+1=>by
   obtain⟨ih1,ih2⟩:=UK hg hd hres hm hlo hko hj n
   have leaf: ∀p c fr s lf E a w,uZ body p=some (c,fr)→((g.ev c s).bind fun (e,s')=>Ae g tabs n fr e s').leaf E.ρ=some lf→Yb F E.ρ ys lf→rH B E s a w→Glob.ok E.ρ E.ro w.heap→N≤a.tmps.size→a.defers= []→c.wp P (KE P (bodyPost P fn (QX B g.pK g.dW g.ko g.wO ys)) fr) a w:=by intro p c fr s lf E a w hl h hlf t hgl hN hdf;obtain⟨⟨e,s'⟩,h1,h2⟩:=T.fQ h;refine wp_mono (oI hg.tt hg.call hg.draw c (yR hd p hl) E s s' e a w hN (t.fit.fit hgl) h1) fun x a' w' ⟨hx,ht⟩=>?_;subst hx;obtain⟨E',t',hρ,hg'⟩:=t.then ht;exact ih2 fr e s' lf E' a' w' (Du p hl) (by rw [hρ]; exact h2) (by rw [hρ]; exact hlf) t' hg' (by rw [ht.size]; exact hN) (by rw [ht.defers,hdf])
   constructor
   ·intro p c fr s lf E a w hl h hlf t hgl hN hdf;simp only [D9] at h;split at h
    ·rename_i l hcs;obtain⟨b,fr',hl',_⟩:=hj p l hcs;rw [hl] at hl';simp only [Option.some.injEq,Prod.mk.injEq] at hl';obtain⟨rfl,rfl⟩:=hl';obtain⟨s',t',h'⟩:=DV h t;exact Zd (Dw hj hcs hl (fun _ hx=>hx) (by rw [← hm]; exact h') hlf t' hgl hN hdf)
    ·cases c with
     | seq x y=> simp only at h;refine wp_seq ?_;exact ih1 (0 :: p) x (.seq (1 :: p) y :: fr) s lf E a w (by simp only [uZ,hl]) h hlf t hgl hN hdf
     | block id b=> simp only at h;refine wp_block ?_;exact ih1 (0 :: p) b (.block id :: fr) s lf E a w (by simp only [uZ,hl]) h hlf t hgl hN hdf
     | scope b=> simp only at h;refine wp_scope_straight ?_;exact ih1 (0 :: p) b (.scope :: fr) s lf E a w (by simp only [uZ,hl]) h hlf t hgl hN hdf
     | cond v x y=>
       simp only at h;split at h
       ·rename_i c hv;obtain⟨pc',hp',h1⟩:=cZ t.fit.pc h;have hvr:=jL t.fit.sr hv;simp only [VR] at hvr;refine wp_cond hvr ?_
        cases hcd:c.den E.ρ with
        | true=> rw [hcd] at h1;simp only at h1;exact ih1 (0 :: p) x fr _ lf E a w (by simp only [uZ,hl]) h1 hlf (t.pc hp') hgl hN hdf
        | false=> rw [hcd] at h1;simp only at h1;exact ih1 (1 :: p) y fr _ lf E a w (by simp only [uZ,hl]) h1 hlf (t.pc hp') hgl hN hdf
       ·simp [T.leaf] at h
     | _=>simp only at h; exact leaf p _ fr s lf E a w hl h hlf t hgl hN hdf
   ·intro fr e s lf E a w hf h hlf t hgl hN hdf
    cases fr with
    | nil=> simp only [Ae] at h;exact avQ hg hres hm hlo hko h hlf t hgl hdf
    | cons f fr=>
      cases f with
      | seq p c=>
        simp only [Ae] at h;obtain⟨hl,hf'⟩:=hf
        cases e with
        | normal=>exact ih1 p c fr s lf E a w hl h hlf t hgl hN hdf
        | exit id=>exact ih2 fr (.exit id) s lf E a w hf' h hlf t hgl hN hdf
        | ret=>exact ih2 fr .ret s lf E a w hf' h hlf t hgl hN hdf
      | block id=>
        simp only [Ae] at h;have hf':O9 body fr:=hf
        cases e with
        | normal=>exact ih2 fr .normal s lf E a w hf' h hlf t hgl hN hdf
        | ret=>exact ih2 fr .ret s lf E a w hf' h hlf t hgl hN hdf
        | exit j=>
          simp only at h;show (if j=id then _ else _);split at h
          ·rename_i hj';rw [if_pos (Nat.eq_of_beq_eq_true hj')];exact ih2 fr .normal s lf E a w hf' h hlf t hgl hN hdf
          ·rename_i hj';rw [if_neg (Nat.ne_of_beq_eq_false hj')];exact ih2 fr (.exit j) s lf E a w hf' h hlf t hgl hN hdf
      | loop p b=>
        simp only [Ae] at h;obtain⟨hl,hf'⟩:=hf
        cases e with
        | normal=>
          simp only at h;split at h
          ·rename_i l hcs;obtain⟨s',t',h'⟩:=DV h t;exact Dw hj hcs hl (fun _ hx=>hx) (by rw [← hm]; exact h') hlf t' hgl hN hdf
          ·simp [T.leaf] at h
        | exit id=>exact ih2 fr (.exit id) s lf E a w hf' h hlf t hgl hN hdf
        | ret=>exact ih2 fr .ret s lf E a w hf' h hlf t hgl hN hdf
      | scope=> simp only [Ae] at h;exact Pv (P:=P) (ih2 fr e s lf E a w hf h hlf t hgl hN hdf)
end
end Go.As
end
section
namespace Go.As
open Go.RowKit
def Ren.ents (r:Ren):List (AV×AV×Nat)→List (AV×AV×Nat)
 | []=>[]
 | (k,v,n) :: l=>(r.av k,r.av v,n) :: r.ents l
def Ren.ovs (r:Ren):List (SE×List AV)→List (SE×List AV)
 | []=>[]
 | (i,cs) :: l=>(r.se i,r.J4 cs) :: r.ovs l
def Ren.ob (r:Ren):dU→dU
 | .cells cs e=> .cells (r.J4 cs) e
 | .map es n=> .map (r.ents es) n
 | .oL s p=> .oL s p
 | .vec e t ty ov=> .vec (r.se e) t ty (r.ovs ov)
 | .iW e t=> .iW (r.se e) t
noncomputable def nI (r:Ren):List dU→Nat→Hp→Hp
 | [],_,h=>h
 | o :: os,i,h=>nI r os (i+1) (h.put (r.id i) (r.ob o))
def Ri (r:Ren):Bool:=r.sh.all fun i=>Nat.beq i 0
def abU (r:SE) (n:Nat):List SE:=(List.range n).map (uP r)
noncomputable def amU (j:Nat) (c:CS) (pK:List RK) (dW:List dU) (ko:Nat):List AV→St→T (AV×St):=fun args s=>
 match Nat.beq args.length c.slots.length && c.fits prv ⟨bG args 0 .nil,s.h,s.pc⟩ (c.guess ⟨bG args 0 .nil,s.h,s.pc⟩) && Ri (c.guess ⟨bG args 0 .nil,s.h,s.pc⟩) with
 | true=>qP s (.eq (.ap (2*j) (iI (c.guess ⟨bG args 0 .nil,s.h,s.pc⟩).ns)) (.lit 1)) fun s' b=>match b with
   | true=> .ret (match vZ pK (uP (.ap (2*j+1) (iI (c.guess ⟨bG args 0 .nil,s.h,s.pc⟩).ns))) ko with | [v]=>v | vs=> .tuple vs,
    { s' with h:=nI ⟨abU (.ap (2*j+1) (iI (c.guess ⟨bG args 0 .nil,s.h,s.pc⟩).ns)) ko,(c.guess ⟨bG args 0 .nil,s.h,s.pc⟩).bl,[]⟩ dW 0 s'.h })
   | false=> .fail
 | false=> .fail
noncomputable def aDR (s:St) (t c:Nat):SE:=match s.slots.get t with
 | some v=>match v with
   | .int _ e=>e
   | .agg cs=>match gK cs c with
     | some v=>match v with
       | .int _ e=>e
       | _=> .lit 0
     | none=> .lit 0
   | _=> .lit 0
 | none=> .lit 0
noncomputable def anH (s:St):List (Nat×Nat)→List SE→List SE
 | [],ns=>ns
 | _ :: _,[]=>[]
 | (t,c) :: l,_ :: ns=>aDR s t c :: anH s l ns
noncomputable def ghR (s:St) (gh:List (Nat×Nat)) (r:Ren):Ren:={ r with ns:=anH s gh r.ns }
noncomputable def aDQ (s:St) (gh:List (Nat×Nat)):Option SE:=match gh with
 | (t,c) :: _=>some (aDR s t c)
 | []=>none
noncomputable def xQ (q:SE) (jX:Nat) (ns:List SE) (c:CS) (bl:List Nat) (s:St):Ren:=⟨(List.range c.k).map fun a=>match Nat.blt a jX with | true=>(match gK ns a with | some e=>e | none=> .lit 0) | false=>uP q (a+1),(List.range c.objs.length).map fun i=>match gK bl i with | some j=>j | none=>s.h.next+(i - bl.length),[]⟩
noncomputable def anG (g n:SE) (s:St) (k:St→T (AV×St)):T (AV×St):=qP s (kU g (.lit 0)) fun s b=>match b with
 | true=>k s
 | false=>qP s (kU g n) fun s b=>match b with
   | true=> .fail
   | false=>k s
noncomputable def ghT (q:SE) (jX:Nat) (ns:List SE) (g:Option SE) (c:CS) (bl:List Nat) (s:St) (k:St→T (AV×St)):T (AV×St):=match g with
 | none=>k s
 | some g=>match c.m with
   | .aK _=>k s
   | _=>match c.slots with
     | []=>k s
     | (_,v) :: _=>match v with
       | .vS _ n _=>anG g ((xQ q jX ns c bl s).se n) s k
       | _=>k s
noncomputable def arI (q:SE) (jX:Nat) (ns:List SE) (g:Option SE) (bl:List Nat):List CS→Nat→St→T (AV×St)
 | [],_,_=> .fail
 | c :: l,i,s=>qP s (DZ (uP q 0) (.lit (Int.ofNat i))) fun s b=>match b with
   | true=>ghT q jX ns g c bl s fun s=> .ret (resV ((xQ q jX ns c bl s).J4 (c.slots.map fun p=>p.2)),
    { s with h:=⟨(nI (xQ q jX ns c bl s) c.objs 0 s.h).m,s.h.next+(c.objs.length - bl.length),s.h.res⟩ })
   | false=>arI q jX ns g bl l (i+1) s
noncomputable def amS (j jX:Nat) (c:CS) (gh:List (Nat×Nat)) (wO:List CS):List AV→St→T (AV×St):=fun args s=>
 match Nat.beq args.length c.slots.length && c.fits prv ⟨bG args 0 .nil,s.h,s.pc⟩ (ghR s gh (c.guess ⟨bG args 0 .nil,s.h,s.pc⟩)) && Ri (ghR s gh (c.guess ⟨bG args 0 .nil,s.h,s.pc⟩)) with
 | true=>qP s (.eq (.ap (2*j) (iI (ghR s gh (c.guess ⟨bG args 0 .nil,s.h,s.pc⟩)).ns)) (.lit 1)) fun s' b=>match b with
   | true=>arI (.ap (2*j+1) (iI (ghR s gh (c.guess ⟨bG args 0 .nil,s.h,s.pc⟩)).ns)) jX (ghR s gh (c.guess ⟨bG args 0 .nil,s.h,s.pc⟩)).ns (aDQ s gh) (ghR s gh (c.guess ⟨bG args 0 .nil,s.h,s.pc⟩)).bl wO 0 s'
   | false=> .fail
 | false=> .fail
section
variable {Eo E2:En} {r:Ren} {h:Array Obj} (hl:r.ns.length≤900) (hsh:r.sh= []) (hρ:Eo.ρ=r.env E2.ρ) (hid: ∀i,Eo.dm i→E2.dm (r.id i)∧E2.θ (r.id i)=Eo.θ i∧E2.κ (r.id i)=Eo.κ i) (hro:Eo.ro=E2.ro)
include hl hsh hρ hid hro
theorem akL (i:Nat):r.A8 i=0:=by unfold Ren.A8; rw [hsh]; rfl
theorem fJ.back {id off len:Nat} {a:Addr} {cap:Nat} {c:Yg} (hd:Eo.dm id) (hc:fJ Eo id off len a cap c):fJ E2 (r.id id) off len a cap c:=by
 obtain⟨_,h2,h3⟩:=hid id hd;cases c <;> simp only [fJ] at* <;> rw [h2]
 ·exact hc
 ·rw [h3]; exact hc
mutual
theorem VR.back: ∀(x:AV) (u:Value),VR Eo h x u→VR E2 h (r.av x) u
 | .bool b,u,hv=>by simp only [VR,Ren.av] at *; rw [Ren.Ik hl,← hρ]; exact hv
 | .int _ e,u,hv=>by simp only [VR,Ren.av] at *; rw [Ren.dZ hl,← hρ]; exact hv
 | .str s,u,hv=>by simp only [VR,Ren.av] at *; exact hv
 | .ptr id off,u,hv=>by simp only [VR,Ren.av,akL hl hsh hρ hid hro,Nat.zero_add] at *;obtain⟨h1,h2,_⟩:=hid id hv.2;rw [h2]; exact⟨hv.1,h1⟩
 | .jS,u,hv=>by simp only [VR,Ren.av] at *; exact hv
 | .rV cs,u,hv=>by simp only [VR,Ren.av] at *;obtain⟨b,o,us,h1,h2,h3,h4,h5⟩:=hv;exact⟨b,o,us,h1,by rw [← hro]; exact h2,bJ.back cs us h3,h4,h5⟩
 | .slice id off len c,u,hv=>by simp only [VR,Ren.av,akL hl hsh hρ hid hro,Nat.zero_add] at *;obtain⟨h1,a,cap,h2,h3,h4⟩:=hv;exact⟨(hid id h1).1,a,cap,h2,h3,fJ.back hl hsh hρ hid hro h1 h4⟩
 | .aA,u,hv=>by simp only [VR,Ren.av] at *; exact hv
 | .ro cs n full,u,hv=>by simp only [VR,Ren.av] at *;obtain⟨b,o,cap,us,h1,h2,h3,h4,h5,h6,h7⟩:=hv;exact⟨b,o,cap,us,h1,h2,h3,by rw [← hro]; exact h4,bJ.back cs us h5,h6,h7⟩
 | .map id,u,hv=>by simp only [VR,Ren.av] at *;obtain⟨h1,h2,_⟩:=hid id hv.2;rw [h2]; exact⟨hv.1,h1⟩
 | .mO,u,hv=>by simp only [VR,Ren.av] at *; exact hv
 | .func fn fs cs,u,hv=>by simp only [VR,Ren.av] at *;obtain⟨us,ws,h1,h2,h3⟩:=hv;exact⟨us,ws,h1,bJ.back fs us h2,bJ.back cs ws h3⟩
 | .BI,u,hv=>by simp only [VR,Ren.av] at *; exact hv
 | .iface t x,u,hv=>by simp only [VR,Ren.av] at *;obtain⟨y,h1,h2⟩:=hv;exact⟨y,h1,VR.back x y h2⟩
 | .ES,u,hv=>by simp only [VR,Ren.av] at *; exact hv
 | .agg cs,u,hv=>by simp only [VR,Ren.av] at *;obtain⟨us,h1,h2⟩:=hv;exact⟨us,h1,bJ.back cs us h2⟩
 | .tuple cs,u,hv=>by simp only [VR,Ren.av] at *;obtain⟨us,h1,h2⟩:=hv;exact⟨us,h1,bJ.back cs us h2⟩
 | .opq _,u,hv=>by simp only [VR] at hv
 | .inp k ks,u,hv=>by
   simp only [VR,Ren.av] at *;rw [hρ,Ren.pV hl (by omega),hro] at hv;rcases hv with hv | ⟨b,o,n,cap,h1,h2,h3,h4,h5⟩
   ·exact .inl hv
   ·refine .inr ⟨b,o,n,cap,h1,h2,h3,h4,fun i j kd hi hj=>?_⟩;have:=h5 i j kd hi hj
    first
     | exact this
     | (rw [Ren.pV hl (by omega)] at this; exact this)
     | (rw [hρ,Ren.pV hl (by omega)] at this; exact this)
 | .emp,u,hv=>by simp only [VR,Ren.av] at *; exact hv
 | .dat e t,u,hv=>by simp only [VR,Ren.av] at *; rw [Ren.dZ hl,← hρ,← hro]; exact hv
 | .mP e,u,hv=>by simp only [VR,Ren.av] at *; rw [Ren.dZ hl,← hρ,← hro]; exact hv
 | .vS id n t,u,hv=>by simp only [Ren.av,akL hl hsh hρ hid hro];simp only [VR] at *;obtain⟨h1,k,a,cap,h2,h3,h4,h5⟩:=hv;exact⟨(hid id h1).1,k,a,cap,by rw [Ren.dZ hl,← hρ]; exact h2,h3,h4,fJ.back hl hsh hρ hid hro h1 h5⟩
 | .qR id es i off,u,hv=>by simp only [Ren.av,akL hl hsh hρ hid hro];simp only [VR] at *;obtain⟨h1,k,h2,h3⟩:=hv;obtain⟨g1,g2,_⟩:=hid id h1;exact⟨g1,k,by rw [Ren.dZ hl,← hρ]; exact h2,by rw [g2]; exact h3⟩
 | .any,u,_=>by simp only [VR,Ren.av]
 | .Ia z t,u,hv=>by simp only [VR,Ren.av] at *; rw [Ren.dZ hl,← hρ,← hro]; exact hv
 | .AY id lo n t,u,hv=>by simp only [Ren.av,akL hl hsh hρ hid hro];simp only [VR] at *;obtain⟨h1,l,k,a,cap,h2,h3,h4,h5,h6⟩:=hv;exact⟨(hid id h1).1,l,k,a,cap,by rw [Ren.dZ hl,← hρ]; exact h2,by rw [Ren.dZ hl,← hρ]; exact h3,h4,h5,fJ.back hl hsh hρ hid hro h1 h6⟩
theorem bJ.back: ∀(xs:List AV) (us:List Value),bJ Eo h xs us→bJ E2 h (r.J4 xs) us
 | [],us,hv=>by simp only [bJ,Ren.J4] at *; exact hv
 | x :: xs,us,hv=>by simp only [bJ,Ren.J4] at *;obtain⟨u,vs,h1,h2,h3⟩:=hv;exact⟨u,vs,h1,VR.back x u h2,bJ.back xs vs h3⟩
end
theorem eY.back: ∀{es:List (AV×AV×Nat)} {ents:List MapEntry},eY Eo h es ents→eY E2 h (r.ents es) ents
 | [],_,hv=>by simp only [eY,Ren.ents] at *; exact hv
 | (k,v,b) :: es,ents,hv=>by simp only [eY,Ren.ents] at *;obtain⟨e,rr,h1,h2,h3,h4,h5⟩:=hv;exact⟨e,rr,h1,VR.back hl hsh hρ hid hro k _ h2,VR.back hl hsh hρ hid hro v _ h3,h4,eY.back h5⟩
theorem MN {i:Nat}: ∀{ov:List (SE×List AV)},dQ E2.ρ i (r.ovs ov)=(dQ Eo.ρ i ov).map r.J4
 | []=>rfl
 | (j,cs) :: l=>by simp only [dQ,Ren.ovs];rw [Ren.dZ hl,← hρ,MN];split <;> rfl
theorem Ew {row:Row} {ov:List (SE×List AV)}: ∀(ds:List D) (i:Nat) {us:List Value},bJ Eo h (aH Eo.ρ row ov ds i) us→bJ E2 h (aH E2.ρ row (r.ovs ov) ds i) us
 | [],_,us,hv=>by simp only [aH,bJ] at *; exact hv
 | d :: ds,i,us,hv=>by
   simp only [aH] at *;obtain⟨a,b,rfl,h1,h2⟩:=hv.split;refine bJ.append ?_ (Ew ds (i+1) h2);rw [MN hl hsh hρ hid hro]
   cases ho:dQ Eo.ρ i ov with
   | none=> rw [ho] at h1;simp only [Option.map_none];rw [gY] at h1 ⊢;rw [← hro];exact h1
   | some cs=> rw [ho] at h1;exact bJ.back hl hsh hρ hid hro cs a h1
theorem QY {row:Row}: ∀{ov:List (SE×List AV)},FZ row ov→FZ row (r.ovs ov)
 | [],h=>h
 | (i,cs) :: l,h=>by
   intro p hp;simp only [Ren.ovs] at hp;rcases List.mem_cons.1 hp with rfl | hp
   ·simp only [wJ]; exact h (i,cs) (by simp)
   ·exact QY (fun q hq=>h q (by simp [hq])) p hp
theorem OR.back {id:Nat} {o:dU} (hd:Eo.dm id) (ho:OR Eo h id o):OR E2 h (r.id id) (r.ob o):=by
 obtain⟨_,h2,h3⟩:=hid id hd
 cases o with
 | cells cs e=> simp only [OR,Ren.ob] at *;obtain⟨arr,lo,hi,us,q1,q2,q3,q4,q5,q6,q7⟩:=ho;rw [h2,h3];exact⟨arr,lo,hi,us,q1,bJ.back hl hsh hρ hid hro cs us q2,q3,by rw [wJ]; exact q4,q5,q6,q7⟩
 | map es c=> simp only [OR,Ren.ob] at *;obtain⟨ents,c',q1,q2⟩:=ho;rw [h2];exact⟨ents,c',q1,eY.back hl hsh hρ hid hro q2⟩
 | oL s p=>simp only [OR,Ren.ob] at *; rw [h2]; exact ho
 | iW e t=>
   simp only [OR,Ren.ob] at *;obtain⟨ents,c',q1,q2⟩:=ho;have he:(r.se e).den E2.ρ=e.den Eo.ρ:=by rw [Ren.dZ hl,← hρ]
   rw [h2,he,← hro];exact⟨ents,c',q1,q2⟩
 | vec e t ty ov=>
   simp only [OR,Ren.ob] at *;obtain⟨⟨q0,qw⟩,arr,lo,hi,us,q1,q2,q3,q4,q5,q6,q7⟩:=ho;have he:(r.se e).den E2.ρ=e.den Eo.ρ:=by rw [Ren.dZ hl,← hρ]
   have q0':=QY hl hsh hρ hid hro q0;rw [h2,h3,he];refine⟨⟨q0',qw⟩,arr,lo,hi,us,q1,Ew hl hsh hρ hid hro _ _ q2,q3,?_,q5,q6,q7⟩;rw [bV q0'];rw [bV q0] at q4;exact q4
end
theorem EN {r:Ren}: ∀{os:List dU} {i:Nat} {h:Hp},(∀a b,i≤a→a < i+os.length→i≤b→b < i+os.length→r.id a=r.id b→a=b)→
 (∀k o,os[k]?=some o→(nI r os i h).get (r.id (i+k))=some (r.ob o))∧(∀id,(∀k,k < os.length→r.id (i+k)≠id)→(nI r os i h).get id=h.get id)∧(nI r os i h).next=h.next∧(nI r os i h).res=h.res
 | [],i,h,_=> ⟨fun k o hk=>by simp at hk,fun _ _=>rfl,rfl,rfl⟩
 | o :: os,i,h,hinj=>by
   obtain⟨h1,h2,h3,h4⟩:=EN (r:=r) (os:=os) (i:=i+1) (h:=h.put (r.id i) (r.ob o)) fun a b h1 h2 h3 h4=>hinj a b (by omega) (by simp only [List.length_cons]; omega) (by omega) (by simp only [List.length_cons]; omega);refine⟨fun k x hk=>?_,fun id hn=>?_,h3,h4⟩
   ·cases k with
    | zero=> simp at hk;subst hk;simp only [nI];show (nI r os (i+1) (h.put (r.id i) (r.ob o))).get (r.id i)=some (r.ob o);rw [h2 (r.id i) fun k hk he=>?_,Hp.get_put,if_pos rfl];have:=hinj (i+1+k) i (by omega) (by simp only [List.length_cons]; omega) (by omega) (by simp) he;omega
    | succ k=> simp only [nI];have:=h1 k x (by simpa using hk);rw [show i+(k+1)=i+1+k by omega];exact this
   ·simp only [nI];rw [h2 id fun k hk=>?_,Hp.get_put,if_neg ?_]
    ·have:=hn 0 (by simp);rw [Nat.add_zero] at this;exact fun q=>this q.symm
    ·have:=hn (k+1) (by simp only [List.length_cons]; omega);rw [show i+(k+1)=i+1+k by omega] at this;exact this
theorem Es (c:CS) (s:St):(c.guess s).ns.length=c.k:=by unfold CS.guess;split;exact sJ _ _ _
section
variable {P:Program}
def aAr (P:Program) (GB:(Nat→Prop)→Array Obj→Prop) (g:FuncId) (c:CS) (pK:List RK) (dW:List dU) (ko:Nat) (f:List Int→Option (List Int)):Prop:=
 ∀xs ys,f xs=some ys→∀(E:En) (w:World) (vals:List Value),(∀i x,xs[i]?=some x→E.ρ i=x)→xs.length=c.k→H6 E c.st { tmps:=vals.toArray,defers:=[] } w→GB E.ro w.heap→
  Calls P g vals.toArray w (QE ⟨w,E.ro,c.objs.length,E.θ,E.κ⟩ pK dW ko ys)
theorem amT [Glob] {GB:(Nat→Prop)→Array Obj→Prop} (hgb: ∀ρ ro h,Glob.ok ρ ro h→GB ro h) {F:uJ} (hgood: ∀ρ ro h,Glob.ok ρ ro h→Good F ρ) {g:FuncId} {j:Nat} {c:CS} {pK:List RK} {dW:List dU} {ko:Nat} (hlo:rD ko dW=true) (hko:ko≤900) (hom:dW.length=c.objs.length)
 (hs:aAr P GB g c pK dW ko (F j)) (hrun: ∀(args:Array Value) (w:World),(callFunc g args).run P w= .ok (.enter g args) w):nC P g (amU j c pK dW ko):=by
 intro aF9 s E w vals v s' r hv hp hl;unfold amU at hl;split at hl
 ·rename_i hcond;simp only [Bool.and_eq_true] at hcond;obtain⟨⟨_,hfit⟩,hns⟩:=hcond;have hlen:=Es c ⟨bG aF9 0 .nil,s.h,s.pc⟩;generalize hr:c.guess ⟨bG aF9 0 .nil,s.h,s.pc⟩ = rn at hl hfit hns hlen
  have f0:Fit E ⟨bG aF9 0 .nil,s.h,s.pc⟩ { tmps:=vals.toArray,defers:=[] } w:=by refine⟨r,?_,hp⟩;have:=Gp hv 0;simpa using this
  obtain⟨hle,f1,ho⟩:=GK Y5 f0 hfit;obtain⟨pc1,hp1,q1⟩:=cZ hp hl;split at q1
  ·rename_i ht;have hg:=hgood _ _ _ r.glob;have hg1:=(hg j (rn.ns.map (SE.den E.ρ))).1;have hg2:=(hg j (rn.ns.map (SE.den E.ρ))).2;simp only [SB.den,SE.den,lJ,hg1,beq_iff_eq] at ht
   have hsome:(F j (rn.ns.map (SE.den E.ρ))).isSome=true:=by
    cases hh:(F j (rn.ns.map (SE.den E.ρ))).isSome with
    | true=>rfl
    | false=>rw [hh] at ht; simp at ht
   obtain⟨ys,hys⟩:=Option.isSome_iff_exists.1 hsome
   have hrd:(SE.ap (2*j+1) (iI rn.ns)).den E.ρ=qQ ys:=by show E.ρ _=_;rw [lJ,hg2,hys];rfl
   have:=aF q1;simp only [Prod.mk.injEq] at this;obtain⟨rfl,rfl⟩:=this;refine⟨rfl,hp1,?_⟩;unfold uV uT;rw [hrun]
   have hxs: ∀i x,(rn.ns.map (SE.den E.ρ))[i]?=some x→(E.ren rn).ρ i=x:=by intro i x hi;rw [List.getElem?_map,Option.map_eq_some_iff] at hi;obtain⟨e,he,rfl⟩:=hi;show rn.env E.ρ i=_;unfold Ren.env;rw [dB,he]
   refine Calls.mono (hs _ ys hys (E.ren rn) w vals hxs (by simpa using hlen) f1.x (hgb _ _ _ f1.rel.glob)) fun e w' ⟨u,he,hb,ro',k1,k2,k3,k4,k5,k6⟩=> ⟨u,he,?_⟩;have zX:=hfit;unfold CS.fits at zX;simp only [Bool.and_eq_true] at zX;obtain⟨⟨⟨⟨⟨_,hbl⟩,hdis⟩,_⟩,aBq⟩,_⟩:=zX;have hbl:=Nat.eq_of_beq_eq_true hbl
   have Xe: ∀i,rn.A8 i=0:=by
    intro i;unfold Ren.A8;split
    ·rename_i x hx;rw [dB] at hx;unfold Ri at hns;rw [List.all_eq_true] at hns;exact Nat.eq_of_beq_eq_true (hns x (List.mem_of_getElem? hx))
    ·rfl
   have JX: ∀i,i < c.objs.length→∃o,s.h.get (rn.id i)=some o:=by intro i hi;obtain⟨o',g1,_⟩:=lS aBq (List.getElem?_eq_getElem hi);rw [Nat.zero_add] at g1;exact⟨o',g1⟩
   have hinj: ∀a b,a < c.objs.length→b < c.objs.length→rn.id a=rn.id b→a=b:=by
    intro a b ha hb he;have hla:a < rn.bl.length:=by omega
    have hlb:b < rn.bl.length:=by omega
    unfold Ren.id at he;rw [dB,dB,List.getElem?_eq_getElem hla,List.getElem?_eq_getElem hlb] at he;simp only at he;exact vF hdis (i:=a) (j:=b) (x:=rn.bl[a]) (by rw [dB,List.getElem?_eq_getElem hla]) (by rw [dB,List.getElem?_eq_getElem hlb,he])
   generalize hR:(⟨abU (.ap (2*j+1) (iI rn.ns)) ko,rn.bl,[]⟩ : Ren)=R;have UH: ∀i,R.id i=rn.id i:=by intro i; rw [← hR]; rfl
   have hRl:R.ns.length=ko:=by rw [← hR]; simp [abU]
   obtain⟨p1,p2,p3,p4⟩:=EN (r:=R) (os:=dW) (i:=0) (h:=s.h) fun a b _ h2 _ h4 he=>by rw [UH,UH] at he;exact hinj a b (by omega) (by omega) he
   have hfp: ∀b,(rJ.mk w (E.ren rn).ro c.objs.length (E.ren rn).θ (E.ren rn).κ).fp b→∃id o,s.h.get id=some o∧(E.θ id).1=b:=by rintro b ⟨i,hi,he⟩;obtain⟨o,h1⟩:=JX i hi;exact⟨_,o,h1,he⟩
   have auC: ∀b,E.ro b→w'.heap[b]?=w.heap[b]?:=by intro b hbr;refine hb.blk b (r.Bv b hbr) fun hf=>?_;obtain⟨id,o,h1,h2⟩:=hfp b hf;exact (r.live id o h1).2.2 (by rw [h2]; exact hbr)
   have hkeep:Keeps E w.heap { E with ro:=ro' } w'.heap:=⟨rfl,fun _ h=>h,fun _ _=>rfl,fun _ _=>rfl,k1,auC⟩
   have Zm: ∀id o,(nI R dW 0 s.h).get id=some o→∃o',s.h.get id=some o':=by
    intro id o hg;by_cases hex: ∃k,k < dW.length∧R.id (0+k)=id
    ·obtain⟨k,hk,rfl⟩:=hex;rw [Nat.zero_add,UH];exact JX k (by omega)
    ·rw [p2 id fun k hk he=>hex ⟨k,hk,he⟩] at hg;exact⟨o,hg⟩
   have st2:Stp E s.h w { E with ro:=ro' } (nI R dW 0 s.h) w':=by
    refine⟨rfl,fun _ h=>h,fun _ _=>rfl,fun _ _=>rfl,k1,fun b hbr=>(k2 b hbr).imp id .inr,by rw [p3]; exact Nat.le_refl _,by rw [p4]; exact .inr rfl,fun _ h=> .inl h,hb.os,hb.tape,hb.output,hb.size,fun b hbl hn=>hb.blk b hbl fun hf=>?_,fun id o hg _=>?_⟩
    ·obtain⟨id,o,h1,h2⟩:=hfp b hf;exact hn id o h1 h2
    ·obtain⟨o',h1⟩:=Zm id o hg;exact⟨id,o',h1,rfl⟩
   have adB: ∀i,i < ko→R.env E.ρ i=low ys i:=by
    intro i hi;unfold Ren.env low
    have hn:gK R.ns i=some (uP (.ap (2*j+1) (iI rn.ns)) i):=by rw [← hR,dB];simp [abU,hi]
    rw [hn];simp only;rw [List.getD_eq_getElem?_getD];simp only [uP,SE.den,iL.den,aC];have aDB:(SE.ap (2*j+1) (iI rn.ns)).den E.ρ=qQ ys:=hrd;simp only [SE.den] at aDB;rw [aDB];simp only [qQ,aC,D.hd,aT,List.getElem?_map];cases ys[i]? <;> rfl
   have r2:bH { E with ro:=ro' } (nI R dW 0 s.h) w':=by
    refine⟨fun id hid=>r.fresh id (by rw [← p3]; exact hid),fun q hq=>by rw [p3]; exact r.res q (by rw [← p4]; exact hq),fun id o hg=>?_,fun i1 i2 o1 o2 h1 h2 he=>?_,k3,Glob.keep r.glob k1 auC⟩
    ·by_cases hex: ∃k,k < dW.length∧R.id (0+k)=id
     ·obtain⟨k,hk,rfl⟩:=hex;rw [Nat.zero_add];have hx:=List.getElem?_eq_getElem hk;have:=p1 k _ hx;rw [hg] at this;simp only [Option.some.injEq] at this;subst this;obtain⟨o',h1⟩:=JX k (by omega);obtain⟨d1,d2,d3⟩:=r.live _ _ h1;refine⟨by rw [UH]; exact d1,?_,?_⟩
      ·have ho2:=k5 k _ hx
       have ho3:=OR.low (K:=ko) (E:=(rJ.mk w (E.ren rn).ro c.objs.length (E.ren rn).θ (E.ren rn).κ).out ys ro') (E':={ ρ:=R.env E.ρ,θ:=(E.ren rn).θ,κ:=(E.ren rn).κ,dm:=fun i=>i < c.objs.length,ro:=ro' })
        (fun i hi=>adB i hi) rfl rfl rfl rfl (zL hlo hx) ho2
       refine OR.back (Eo:={ ρ:=R.env E.ρ,θ:=(E.ren rn).θ,κ:=(E.ren rn).κ,dm:=fun i=>i < c.objs.length,ro:=ro' }) (E2:={ E with ro:=ro' }) (r:=R) (by rw [hRl]; exact hko) (by rw [← hR]) rfl (fun i hi=>?_) rfl (show k < c.objs.length by omega) ho3;obtain⟨o2,h2⟩:=JX i hi;refine⟨by rw [UH]; exact (r.live _ _ h2).1,?_,?_⟩
       ·show E.θ (R.id i)=((E.θ (rn.id i)).1,(E.θ (rn.id i)).2+rn.A8 i);rw [UH,Xe,Nat.add_zero]
       ·show E.κ (R.id i)=E.κ (rn.id i) - rn.A8 i;rw [UH,Xe,Nat.sub_zero]
      ·rw [UH];exact k4 k (by show k < c.objs.length; omega)
     ·rw [p2 id fun k hk he=>hex ⟨k,hk,he⟩] at hg;obtain⟨d1,d2,d3⟩:=r.live id o hg
      have hblk:w'.heap[(E.θ id).1]?=w.heap[(E.θ id).1]?:=by refine hb.blk _ (jH r hg) ?_;rintro⟨i,hi,he⟩;obtain⟨o',h1⟩:=JX i hi;have:=r.inj _ id o' o h1 hg he;exact hex ⟨i,by show i < dW.length; rw [hom]; exact hi,by rw [Nat.zero_add,UH]; exact this⟩
      refine⟨d1,d2.keep hkeep d1 hblk,fun hr=>?_⟩;rcases k2 _ hr with hr | hr
      ·exact d3 hr
      ·have hlt:(E.θ id).1 < w.heap.size:=jH r hg;have hge:w.heap.size≤(E.θ id).1:=hr;omega
    ·obtain⟨a1,b1⟩:=Zm _ _ h1;obtain⟨a2,b2⟩:=Zm _ _ h2;exact r.inj _ _ _ _ b1 b2 he
   refine⟨{ E with ro:=ro' },st2,r2,?_⟩;obtain⟨us,fl',sh',c1,rfl⟩:=k6
   have hvr:bJ { E with ro:=ro' } w'.heap (vZ pK (uP (.ap (2*j+1) (iI rn.ns))) ko) us:=by refine yK sh' c1 fun k n hk=>?_;rw [List.getElem?_drop] at hk;exact Di (ys:=ys) hrd hk
   have:=Kr hvr;unfold resV at this;exact this
  ·simp [T.leaf] at q1
 ·simp [T.leaf] at hl
theorem Jv (s:St): ∀(gh:List (Nat×Nat)) (ns:List SE),(anH s gh ns).length=ns.length
 | [],_=>rfl
 | _ :: _,[]=>rfl
 | (t,c) :: l,_ :: ns=>by simp only [anH,List.length_cons,Jv s l ns]
theorem anF {g n:SE} {ρ:Nat→Int} {s:St} {k:St→T (AV×St)} {r:AV×St} (hp:bI ρ s.pc) (h:(anG g n s k).leaf ρ=some r): ∃pc,bI ρ pc∧(k { s with pc:=pc }).leaf ρ=some r:=by
 unfold anG at h;obtain⟨pc1,hp1,h1⟩:=cZ hp h;split at h1
 ·exact⟨pc1,hp1,h1⟩
 ·obtain⟨pc2,hp2,h2⟩:=cZ (s:={ s with pc:=pc1 }) hp1 h1;split at h2
  ·simp [T.leaf] at h2
  ·exact⟨pc2,hp2,h2⟩
theorem aBx {q:SE} {jX:Nat} {ns:List SE} {g:Option SE} {c:CS} {bl:List Nat} {ρ:Nat→Int} {s:St} {k:St→T (AV×St)} {r:AV×St} (hp:bI ρ s.pc) (h:(ghT q jX ns g c bl s k).leaf ρ=some r): ∃pc,bI ρ pc∧(k { s with pc:=pc }).leaf ρ=some r:=by
 unfold ghT at h;split at h
 ·exact⟨s.pc,hp,h⟩
 ·split at h
  ·exact⟨s.pc,hp,h⟩
  ·split at h
   ·exact⟨s.pc,hp,h⟩
   ·split at h
    ·exact anF hp h
    ·exact⟨s.pc,hp,h⟩
theorem aeO {q:SE} {jX:Nat} {ns:List SE} {g:Option SE} {bl:List Nat} {ρ:Nat→Int} {v:AV} {s':St}: ∀{l:List CS} {k:Nat} {s:St},bI ρ s.pc→(arI q jX ns g bl l k s).leaf ρ=some (v,s')→
 ∃i c pc',l[i - k]?=some c∧k≤i∧(uP q 0).den ρ=(i:Int)∧bI ρ pc'∧v=resV ((xQ q jX ns c bl s).J4 (c.slots.map fun p=>p.2))∧s'= { s with h:=⟨(nI (xQ q jX ns c bl s) c.objs 0 s.h).m,s.h.next+(c.objs.length - bl.length),s.h.res⟩,pc:=pc' }
 | [],k,s,_,h=>by simp [arI,T.leaf] at h
 | c :: l,k,s,hp,h=>by
   simp only [arI] at h;obtain⟨pc',hp',h1⟩:=cZ hp h;split at h1
   ·rename_i hb;rw [lZ,beq_iff_eq] at hb;obtain⟨pc2,hp2,h2⟩:=aBx (s:={ s with pc:=pc' }) hp' h1;have:=aF h2;simp only [Prod.mk.injEq] at this;exact⟨k,c,pc2,by simp,Nat.le_refl _,hb,hp2,this.1.symm,this.2.symm⟩
   ·obtain⟨i,c',pc2,q1,q2,q3,q4,q5,q6⟩:=aeO (s:={ s with pc:=pc' }) hp' h1;refine⟨i,c',pc2,?_,by omega,q3,q4,q5,q6⟩;rw [show i - k=(i - (k+1))+1 by omega,List.getElem?_cons_succ];exact q1
def EY:List (Nat×AV)→Nat→Bool
 | [],_=>true
 | (t,_) :: l,i=>Nat.beq t i && EY l (i+1)
theorem Jg: ∀{l:List (Nat×AV)} {i t:Nat} {tr:Tr AV},EY l i=true→t < i→(sG l tr).get t=tr.get t
 | [],_,_,_,_,_=>rfl
 | (j,v) :: l,i,t,tr,h,ht=>by simp only [EY,Bool.and_eq_true] at h;have hj:=Nat.eq_of_beq_eq_true h.1;simp only [sG];rw [Jg h.2 (by omega),Tr.get_put,if_neg (by omega)]
theorem FN: ∀{l:List (Nat×AV)} {i:Nat} {tr:Tr AV},EY l i=true→∀k v,(l.map fun p=>p.2)[k]?=some v→(sG l tr).get (i+k)=some v
 | [],_,_,_,k,v,hk=>by simp at hk
 | (j,x) :: l,i,tr,h,k,v,hk=>by
   simp only [EY,Bool.and_eq_true] at h;have hj:=Nat.eq_of_beq_eq_true h.1;subst hj;simp only [sG]
   cases k with
   | zero=> simp only [List.map_cons,List.getElem?_cons_zero,Option.some.injEq] at hk;subst hk;rw [Nat.add_zero,Jg h.2 (by omega),Tr.get_put,if_pos rfl]
   | succ k=> have:=FN (tr:=tr.put j (some x)) h.2 k v (by simpa using hk);rw [show j+(k+1)=j+1+k by omega];exact this
theorem bJ.of {E:En} {h:Array Obj}: ∀{vs:List AV} {us:List Value},us.length=vs.length→(∀(k:Nat) (v:AV),vs[k]?=some v→∃u,us[k]?=some u∧VR E h v u)→bJ E h vs us
 | [],us,hl,_=>by rw [kQ]; exact List.eq_nil_of_length_eq_zero hl
 | v :: vs,[],hl,_=>by simp at hl
 | v :: vs,u :: us,hl,hh=>by
   rw [aY];refine⟨u,us,rfl,?_,bJ.of (by simpa using hl) fun k x hk=>?_⟩
   ·obtain⟨y,h1,h2⟩:=hh 0 v rfl;simp at h1;subst h1;exact h2
   ·exact hh (k+1) x (by simpa using hk)
def aAq (P:Program) (GB:(Nat→Prop)→Array Obj→Prop) (g:FuncId) (c:CS) (wO:List CS) (f:List Int→Option (List Int)):Prop:=
 ∀xs ys,f xs=some ys→∀(E:En) (w:World) (vals:List Value),(∀i x,xs[i]?=some x→E.ρ i=x)→xs.length=c.k→H6 E c.st { tmps:=vals.toArray,defers:=[] } w→GB E.ro w.heap→
  Calls P g vals.toArray w (QR ⟨w,E.ro,c.objs.length,E.θ,E.κ⟩ wO ys)
def QF:List CS→Bool
 | []=>true
 | c :: l=>Cj c.k c && EY c.slots 0 && Nat.ble c.k 900 && QF l
theorem QD: ∀{l:List CS},QF l=true→∀{i:Nat} {c:CS},l[i]?=some c→Cj c.k c=true∧EY c.slots 0=true∧c.k≤900
 | [],_,i,c,h=>by simp at h
 | c0 :: l,hs,i,c,h=>by
   simp only [QF,Bool.and_eq_true] at hs
   cases i with
   | zero=>simp at h; subst h; exact⟨hs.1.1.1,hs.1.1.2,Nat.le_of_ble_eq_true hs.1.2⟩
   | succ i=>exact QD hs.2 (by simpa using h)
theorem amR [Glob] {GB:(Nat→Prop)→Array Obj→Prop} (hgb: ∀ρ ro h,Glob.ok ρ ro h→GB ro h) {F:uJ} (hgood: ∀ρ ro h,Glob.ok ρ ro h→Good F ρ) {g:FuncId} {j:Nat} {c:CS} {gh:List (Nat×Nat)} {jX:Nat} {wO:List CS} (hrp:QF wO=true) (hgat: ∀xs ys,F j xs=some ys→∀a y,a < jX→ys[a+1]?=some y→y=low xs a)
 (hs:aAq P GB g c wO (F j)) (hrun: ∀(args:Array Value) (w:World),(callFunc g args).run P w= .ok (.enter g args) w):nC P g (amS j jX c gh wO):=by
 intro aF9 s E w vals v s' r hv hp hl;unfold amS at hl;split at hl
 ·rename_i hcond;simp only [Bool.and_eq_true] at hcond;obtain⟨⟨_,hfit⟩,hns⟩:=hcond;have hlen:=Es c ⟨bG aF9 0 .nil,s.h,s.pc⟩
  have hlen2:(ghR s gh (c.guess ⟨bG aF9 0 .nil,s.h,s.pc⟩)).ns.length=c.k:=by show (anH s gh _).length=c.k;rw [Jv,hlen]
  generalize hr:ghR s gh (c.guess ⟨bG aF9 0 .nil,s.h,s.pc⟩)=rn at hl hfit hlen2 hns
  have f0:Fit E ⟨bG aF9 0 .nil,s.h,s.pc⟩ { tmps:=vals.toArray,defers:=[] } w:=by refine⟨r,?_,hp⟩;have:=Gp hv 0;simpa using this
  obtain⟨hle,f1,ho⟩:=GK Y5 f0 hfit;obtain⟨pc1,hp1,q1⟩:=cZ hp hl;split at q1
  ·rename_i ht;have hg:=hgood _ _ _ r.glob;have hg1:=(hg j (rn.ns.map (SE.den E.ρ))).1;have hg2:=(hg j (rn.ns.map (SE.den E.ρ))).2;simp only [SB.den,SE.den,lJ,hg1,beq_iff_eq] at ht
   have hsome:(F j (rn.ns.map (SE.den E.ρ))).isSome=true:=by
    cases hh:(F j (rn.ns.map (SE.den E.ρ))).isSome with
    | true=>rfl
    | false=>rw [hh] at ht; simp at ht
   obtain⟨ys,hys⟩:=Option.isSome_iff_exists.1 hsome
   have hrd:(SE.ap (2*j+1) (iI rn.ns)).den E.ρ=qQ ys:=by show E.ρ _=_;rw [lJ,hg2,hys];rfl
   obtain⟨i,c',pc2,a1,_,a3,a4,rfl,rfl⟩:=aeO (s:={ s with pc:=pc1 }) hp1 q1;rw [Nat.sub_zero] at a1;refine⟨rfl,a4,?_⟩;unfold uV uT;rw [hrun]
   have hxs: ∀i x,(rn.ns.map (SE.den E.ρ))[i]?=some x→(E.ren rn).ρ i=x:=by intro i x hi;rw [List.getElem?_map,Option.map_eq_some_iff] at hi;obtain⟨e,he,rfl⟩:=hi;show rn.env E.ρ i=_;unfold Ren.env;rw [dB,he]
   refine Calls.mono (hs _ ys hys (E.ren rn) w vals hxs (by simpa using hlen2) f1.x (hgb _ _ _ f1.rel.glob)) fun e w' ⟨us,i2,c2,E',he,hb,b1,b2,b3,b4,b5,b6,b7,b8,awO,b9⟩=> ⟨afK us,he,?_⟩
   have hi:i2=i:=by have:=Di hrd b2;rw [a3] at this;omega
   subst hi;rw [b1] at a1;simp only [Option.some.injEq] at a1;subst a1;obtain⟨k1,k2,k3⟩:=QD hrp b1;have zX:=hfit;unfold CS.fits at zX;simp only [Bool.and_eq_true] at zX;obtain⟨⟨⟨⟨⟨_,hbl⟩,hdis⟩,_⟩,aBq⟩,_⟩:=zX;have hbl:=Nat.eq_of_beq_eq_true hbl
   have Xe: ∀i,rn.A8 i=0:=by
    intro i;unfold Ren.A8;split
    ·rename_i x hx;rw [dB] at hx;unfold Ri at hns;rw [List.all_eq_true] at hns;exact Nat.eq_of_beq_eq_true (hns x (List.mem_of_getElem? hx))
    ·rfl
   have JX: ∀i,i < c.objs.length→∃o,s.h.get (rn.id i)=some o:=by intro i hi;obtain⟨o',g1,_⟩:=lS aBq (List.getElem?_eq_getElem hi);rw [Nat.zero_add] at g1;exact⟨o',g1⟩
   have hinj: ∀a b,a < c.objs.length→b < c.objs.length→rn.id a=rn.id b→a=b:=by
    intro a b ha hb he;have hla:a < rn.bl.length:=by omega
    have hlb:b < rn.bl.length:=by omega
    unfold Ren.id at he;rw [dB,dB,List.getElem?_eq_getElem hla,List.getElem?_eq_getElem hlb] at he;simp only at he;exact vF hdis (i:=a) (j:=b) (x:=rn.bl[a]) (by rw [dB,List.getElem?_eq_getElem hla]) (by rw [dB,List.getElem?_eq_getElem hlb,he])
   have ND: ∀id,E.dm id→id < s.h.next:=by
    intro id hd;rcases Nat.lt_or_ge id s.h.next with h | h
    ·exact h
    ·exact absurd hd (r.fresh id h)
   have Xh: ∀i,i < c.objs.length→rn.id i < s.h.next:=by intro i hi;obtain⟨o,h1⟩:=JX i hi;exact ND _ (r.live _ _ h1).1
   have hθr: ∀i,(E.ren rn).θ i=E.θ (rn.id i):=by intro i;show ((E.θ (rn.id i)).1,(E.θ (rn.id i)).2+rn.A8 i)=_;rw [Xe,Nat.add_zero]
   have hκr: ∀i,(E.ren rn).κ i=E.κ (rn.id i):=by intro i;show E.κ (rn.id i) - rn.A8 i=_;rw [Xe,Nat.sub_zero]
   have hm2:c.objs.length≤c2.objs.length:=by
    rcases Nat.eq_zero_or_pos c.objs.length with h | h
    ·omega
    ·have:=(awO (c.objs.length - 1) (by show c.objs.length - 1 < c.objs.length; omega)).1;omega
   have hfp: ∀b,(rJ.mk w (E.ren rn).ro c.objs.length (E.ren rn).θ (E.ren rn).κ).fp b→∃id o,s.h.get id=some o∧(E.θ id).1=b:=by rintro b ⟨i,hi,he⟩;obtain⟨o,h1⟩:=JX i hi;refine⟨_,o,h1,?_⟩;have he':((E.ren rn).θ i).1=b:=he;rw [hθr] at he';exact he'
   have auC: ∀b,E.ro b→w'.heap[b]?=w.heap[b]?:=by intro b hbr;refine hb.blk b (r.Bv b hbr) fun hf=>?_;obtain⟨id,o,h1,h2⟩:=hfp b hf;exact (r.live id o h1).2.2 (by rw [h2]; exact hbr)
   generalize hR:xQ (.ap (2*j+1) (iI rn.ns)) jX rn.ns c2 rn.bl { s with pc:=pc1 }=R
   have Px: ∀i,i < c.objs.length→R.id i=rn.id i:=by
    intro i hi;have hla:i < rn.bl.length:=by omega
    rw [← hR];unfold xQ Ren.id;simp only [dB,List.getElem?_map,List.getElem?_range (show i < c2.objs.length by omega),Option.map_some,List.getElem?_eq_getElem hla]
   have Zo: ∀i,i < c2.objs.length→c.objs.length≤i→R.id i=s.h.next+(i - c.objs.length):=by
    intro i hi hge;have hla:rn.bl.length≤i:=by omega
    rw [← hR];unfold xQ Ren.id;simp only [dB,List.getElem?_map,List.getElem?_range hi,Option.map_some,List.getElem?_eq_none hla];rw [hbl]
   have aDL: ∀a b,a < c2.objs.length→b < c2.objs.length→R.id a=R.id b→a=b:=by
    intro a b ha hb he;rcases Nat.lt_or_ge a c.objs.length with h1 | h1 <;> rcases Nat.lt_or_ge b c.objs.length with h2 | h2
    ·rw [Px a h1,Px b h2] at he;exact hinj a b h1 h2 he
    ·rw [Px a h1,Zo b hb h2] at he;have:=Xh a h1;omega
    ·rw [Zo a ha h1,Px b h2] at he;have:=Xh b h2;omega
    ·rw [Zo a ha h1,Zo b hb h2] at he;omega
   have hRl:R.ns.length=c2.k:=by rw [← hR]; simp [xQ]
   have aDK:R.sh= []:=by rw [← hR]; rfl
   have adB: ∀a,a < c2.k→R.env E.ρ a=E'.ρ a:=by
    intro a ha;unfold Ren.env
    have hn:gK R.ns a=some (match Nat.blt a jX with | true=>(match gK rn.ns a with | some e=>e | none=> .lit 0) | false=>uP (.ap (2*j+1) (iI rn.ns)) (a+1)):=by rw [← hR,dB];simp [xQ,ha]
    rw [hn];simp only;have hy:ys[a+1]?=some ys[a+1]:=List.getElem?_eq_getElem (by omega);rw [b4 a _ hy];split
    ·rename_i hb;have hlt:a < jX:=Nat.lt_of_succ_le (by simpa [Nat.blt] using hb);rw [hgat _ _ hys a _ hlt hy];unfold low;rw [List.getD_eq_getElem?_getD,List.getElem?_map,dB];cases rn.ns[a]? <;> rfl
    ·exact Di hrd hy
   have aFw: ∀id o,c2.st.h.get id=some o→id < c2.objs.length∧c2.objs[id]?=some o:=by
    intro id o ho;have:(vY c2.objs 0 .nil).get id=some o:=ho;rw [nK] at this;split at this
    ·exact⟨by omega,this⟩
    ·simp [Tr.get] at this
   have NC: ∀id o,c2.objs[id]?=some o→c2.st.h.get id=some o:=by intro id o ho;show (vY c2.objs 0 .nil).get id=_;have hlt:=(List.getElem?_eq_some_iff.1 ho).1;rw [nK,if_pos (by omega)];exact ho
   have aDD: ∀i,E'.dm i→i < c2.objs.length:=by
    intro i hd;rcases Nat.lt_or_ge i c2.objs.length with h | h
    ·exact h
    ·exact absurd hd (b6.fresh i h)
   obtain⟨p1,p2,p3,p4⟩:=EN (r:=R) (os:=c2.objs) (i:=0) (h:=s.h) fun a b _ h2 _ h4 he=>aDL a b (by omega) (by omega) he;generalize hH2:(⟨(nI R c2.objs 0 s.h).m,s.h.next+(c2.objs.length - rn.bl.length),s.h.res⟩ : Hp)=H2;have aDN: ∀id,H2.get id=(nI R c2.objs 0 s.h).get id:=by intro id; rw [← hH2]; rfl
   have auG:H2.next=s.h.next+(c2.objs.length - c.objs.length):=by rw [← hH2,hbl]
   have aDM:H2.res=s.h.res:=by rw [← hH2]
   have hnew: ∀k o,c2.objs[k]?=some o→H2.get (R.id k)=some (R.ob o):=by intro k o hk;have:=p1 k o hk;rw [Nat.zero_add] at this;rw [aDN]; exact this
   have hold: ∀id,(∀k,k < c2.objs.length→R.id k≠id)→H2.get id=s.h.get id:=by intro id hid;rw [aDN];exact p2 id fun k hk he=>by rw [Nat.zero_add] at he; exact hid k hk he
   have hcase: ∀id o,H2.get id=some o→(∃k o',id=R.id k∧c2.objs[k]?=some o'∧o=R.ob o')∨(s.h.get id=some o∧∀k,k < c2.objs.length→R.id k≠id):=by
    intro id o hg;by_cases hex: ∃k,k < c2.objs.length∧R.id k=id
    ·obtain⟨k,hk,rfl⟩:=hex;have hx:=List.getElem?_eq_getElem hk;have:=hnew k _ hx;rw [hg] at this;simp only [Option.some.injEq] at this;exact .inl ⟨k,_,rfl,hx,this⟩
    ·have hne: ∀k,k < c2.objs.length→R.id k≠id:=fun k hk he=>hex ⟨k,hk,he⟩;rw [hold id hne] at hg;exact .inr ⟨hg,hne⟩
   let E2:En:={ ρ:=E.ρ,θ:=fun id=>if id < s.h.next then E.θ id else E'.θ (id - s.h.next+c.objs.length),κ:=fun id=>if id < s.h.next then E.κ id else E'.κ (id - s.h.next+c.objs.length),dm:=fun id=>E.dm id∨(s.h.next≤id∧id < s.h.next+(c2.objs.length - c.objs.length)),ro:=E'.ro };have hθo: ∀id,id < s.h.next→E2.θ id=E.θ id:=fun id h=>by show (if id < s.h.next then _ else _)=_; rw [if_pos h]
   have hκo: ∀id,id < s.h.next→E2.κ id=E.κ id:=fun id h=>by show (if id < s.h.next then _ else _)=_; rw [if_pos h]
   have hθn: ∀k,k < c2.objs.length→E2.θ (R.id k)=E'.θ k:=by
    intro k hk;rcases Nat.lt_or_ge k c.objs.length with h | h
    ·rw [Px k h,hθo _ (Xh k h),← hθr,(awO k h).2.2.1]
    ·rw [Zo k hk h];show (if s.h.next+(k - c.objs.length) < s.h.next then _ else _)=_;rw [if_neg (by omega),Nat.add_sub_cancel_left,Nat.sub_add_cancel h]
   have hκn: ∀k,k < c2.objs.length→E2.κ (R.id k)=E'.κ k:=by
    intro k hk;rcases Nat.lt_or_ge k c.objs.length with h | h
    ·rw [Px k h,hκo _ (Xh k h),← hκr,(awO k h).2.2.2]
    ·rw [Zo k hk h];show (if s.h.next+(k - c.objs.length) < s.h.next then _ else _)=_;rw [if_neg (by omega),Nat.add_sub_cancel_left,Nat.sub_add_cancel h]
   have aDF: ∀k,k < c2.objs.length→E2.dm (R.id k):=by
    intro k hk;rcases Nat.lt_or_ge k c.objs.length with h | h
    ·obtain⟨o,h1⟩:=JX k h;rw [Px k h];exact .inl (r.live _ _ h1).1
    ·rw [Zo k hk h];exact .inr ⟨by omega,by omega⟩
   have hkeep:Keeps E w.heap E2 w'.heap:=⟨rfl,fun _ h=> .inl h,fun id h=>hθo id (ND id h),fun id h=>hκo id (ND id h),b7,auC⟩
   have anA: ∀i,E'.dm i→E2.dm (R.id i)∧E2.θ (R.id i)=E'.θ i∧E2.κ (R.id i)=E'.κ i:=by intro i hd;have hi:=aDD i hd;exact⟨aDF i hi,hθn i hi,hκn i hi⟩
   unfold Cj at k1;simp only [Bool.and_eq_true] at k1;obtain⟨⟨ks,ko⟩,_⟩:=k1
   have st2:Stp E s.h w E2 H2 w':=by
    refine⟨rfl,fun _ h=> .inl h,fun id h=>hθo id (ND id h),fun id h=>hκo id (ND id h),b7,fun b hbr=>(b8 b hbr).imp id .inr,by rw [auG]; omega,by rw [aDM]; exact .inr rfl,fun id h=>?_,hb.os,hb.tape,hb.output,hb.size,fun b aBt hn=>hb.blk b aBt fun hf=>?_,fun id o hg hlt=>?_⟩
    ·rcases h with h | h
     ·exact .inl h
     ·exact .inr (.inl ⟨h.1,by rw [auG]; exact h.2⟩)
    ·obtain⟨id,o,h1,h2⟩:=hfp b hf;exact hn id o h1 h2
    ·rcases hcase id o hg with ⟨k,o',rfl,hk,_⟩ | ⟨h1,_⟩
     ·have hkl:=(List.getElem?_eq_some_iff.1 hk).1;rcases Nat.lt_or_ge k c.objs.length with h | h
      ·obtain⟨o2,h2⟩:=JX k h;exact⟨_,o2,h2,by rw [Px k h,hθo _ (Xh k h)]⟩
      ·rw [hθn k hkl] at hlt;have hh:w.heap.size≤(E'.θ k).1:=b9 k o' (NC k o' hk) h;omega
     ·exact⟨id,o,h1,(by rw [hθo id (ND id (r.live _ _ h1).1)])⟩
   have r2:bH E2 H2 w':=by
    refine⟨fun id hid=>?_,fun q hq=>?_,fun id o hg=>?_,fun i1 i2 o1 o2 h1 h2 he=>?_,b6.Bv,Glob.keep r.glob b7 hkeep.Mc⟩
    ·rw [auG] at hid;rintro (h | h)
     ·exact r.fresh id (by omega) h
     ·omega
    ·rw [aDM] at hq;obtain⟨g1,g2⟩:=r.res q hq;refine⟨by rw [auG]; omega,?_⟩;rintro (h | h)
     ·exact g2 h
     ·omega
    ·rcases hcase id o hg with ⟨k,o',rfl,hk,rfl⟩ | ⟨h2,hne⟩
     ·have hkl:=(List.getElem?_eq_some_iff.1 hk).1;obtain⟨g1,g2,g3⟩:=b6.live k o' (NC k o' hk);refine⟨aDF k hkl,?_,by rw [hθn k hkl]; exact g3⟩;have ho3:=OR.low (K:=c2.k) (E:=E') (E':={ E' with ρ:=R.env E.ρ }) (fun a ha=>adB a ha) rfl rfl rfl rfl (BH ko hk) g2;exact OR.back (Eo:={ E' with ρ:=R.env E.ρ }) (E2:=E2) (r:=R) (by rw [hRl]; exact k3) aDK rfl (fun i hd=>anA i hd) rfl (id:=k) g1 ho3
     ·obtain⟨g1,g2,g3⟩:=r.live id o h2;have h1:=ND id g1;refine⟨.inl g1,g2.keep hkeep g1 (hb.blk _ (jH r h2) ?_),?_⟩
      ·rintro⟨i,hi,he⟩;obtain⟨o',h3⟩:=JX i hi;have he':((E.ren rn).θ i).1=(E.θ id).1:=he;rw [hθr] at he';have:=r.inj _ id o' o h3 h2 he';have hi':i < c.objs.length:=hi;exact hne i (by omega) (by rw [Px i hi']; exact this)
      ·rw [hθo id h1];intro hr;rcases b8 _ hr with hr | hr
       ·exact g3 hr
       ·have hlt:(E.θ id).1 < w.heap.size:=jH r h2;have hge:w.heap.size≤(E.θ id).1:=hr;omega
    ·have mix: ∀(k:Nat) (o':dU) (id:Nat) (o:dU),c2.objs[k]?=some o'→s.h.get id=some o→(∀k,k < c2.objs.length→R.id k≠id)→(E'.θ k).1=(E.θ id).1→False:=by
      intro k o' id o hk h2 hne he;have hkl:=(List.getElem?_eq_some_iff.1 hk).1;rcases Nat.lt_or_ge k c.objs.length with h | h
      ·obtain⟨o3,h3⟩:=JX k h;have hb3:E'.θ k=(E.ren rn).θ k:=(awO k h).2.2.1;rw [hb3,hθr] at he;have:=r.inj _ id o3 o h3 h2 he;exact hne k hkl (by rw [Px k h]; exact this)
      ·have h3:=jH r h2;have h4:w.heap.size≤(E'.θ k).1:=b9 k o' (NC k o' hk) h;omega
     rcases hcase i1 o1 h1 with ⟨m1,y1,rfl,z1,_⟩ | ⟨x2,x3⟩
     ·have hm1:=(List.getElem?_eq_some_iff.1 z1).1;rcases hcase i2 o2 h2 with ⟨m2,y2,rfl,z2,_⟩ | ⟨x4,x5⟩
      ·have hm2:=(List.getElem?_eq_some_iff.1 z2).1;rw [hθn m1 hm1,hθn m2 hm2] at he;have:=b6.inj _ _ _ _ (NC m1 y1 z1) (NC m2 y2 z2) he;rw [this]
      ·rw [hθn m1 hm1,hθo _ (ND _ (r.live _ _ x4).1)] at he;exact (mix m1 y1 i2 o2 z1 x4 x5 he).elim
     ·rcases hcase i2 o2 h2 with ⟨m2,y2,rfl,z2,_⟩ | ⟨x4,x5⟩
      ·have hm2:=(List.getElem?_eq_some_iff.1 z2).1;rw [hθn m2 hm2,hθo _ (ND _ (r.live _ _ x2).1)] at he;exact (mix m2 y2 i1 o1 z2 x2 x3 he.symm).elim
      ·rw [hθo _ (ND _ (r.live _ _ x2).1),hθo _ (ND _ (r.live _ _ x4).1)] at he;exact r.inj _ _ _ _ x2 x4 he
   refine⟨E2,st2,r2,?_⟩
   have hvs:bJ E' w'.heap (c2.slots.map fun p=>p.2) us:=by refine bJ.of (by rw [b5]; simp) fun k x hk=>?_;have:=FN (tr:=.nil) k2 k x hk;rw [Nat.zero_add] at this;obtain⟨u,h1,h2⟩:=b6.sr k x this;exact⟨u,by simpa using h1,h2⟩
   have aDC:qC c2.k (c2.slots.map fun p=>p.2)=true:=by
    have: ∀{l:List (Nat×AV)},yA c2.k l=true→qC c2.k (l.map fun p=>p.2)=true:=by
     intro l
     induction l with
     | nil=>intro _; rfl
     | cons p l ih=> intro h;simp only [yA,Bool.and_eq_true] at h;simp only [List.map_cons,qC,Bool.and_eq_true];exact⟨h.1,ih h.2⟩
    exact this ks
   have aFm:=bJ.low (K:=c2.k) (E:=E') (E':={ E' with ρ:=R.env E.ρ }) (fun a ha=>adB a ha) rfl rfl rfl rfl _ _ aDC hvs;have aFl:=bJ.back (Eo:={ E' with ρ:=R.env E.ρ }) (E2:=E2) (r:=R) (by rw [hRl]; exact k3) aDK rfl (fun i hd=>anA i hd) rfl _ _ aFm;exact Kr aFl
  ·simp [T.leaf] at q1
 ·simp [T.leaf] at hl
end
end Go.As
end
section
namespace Go.As
open Go.RowKit
structure Yd where
 ok:(Nat→Prop)→Array Obj→Prop
 keep: ∀{ro ro':Nat→Prop} {h h':Array Obj},ok ro h→(∀b,ro b→ro' b)→(∀b,ro b→h'[b]?=h[b]?)→ok ro' h'
@[reducible] def Yd.glob (G:Yd) (F:uJ):Glob where
 ok ρ ro h:=G.ok ro h∧Good F ρ
 keep h1 h2 h3:=⟨G.keep h1.1 h2 h3,h1.2⟩
 ren h1 h2:=⟨h1.1,h1.2.ren h2⟩
structure Ib where
 g:Nat
 OU:List RK
 pK:List RK
 tabs:J5
 pos:Option (List Nat×CS)
 pat:Option (CS×List dU×Nat):=none
 wO:List CS:=[]
 gh:List (Nat×Nat):=[]
 wh:List Nat:=[]
 jX:Nat:=0
 tst:List (Nat×Nat):=[]
 fz:List (Nat×Nat×Nat):=[]
def Ib.dW (e:Ib):List dU:=match e.pat with
 | none=>[]
 | some (_,o,_)=>o
def Ib.ko (e:Ib):Nat:=match e.pat with
 | none=>0
 | some (_,_,k)=>k
structure Sys where
 P:Program
 G:Yd
 tt:TT
 ft:Nat→Option Func
 chk:Nat→Nat→List Oper→Bool
 draw:dR→Nat→Nat→List Oper→St→T St
 Ep:Nat→Option (List AV→St→T (AV×St))
 lf:Nat
 depth:Nat
 nums:Nat→List Nat
 ents:Nat→Option Ib
noncomputable section
def atL (c:CS) (args:List AV) (s:St):Bool:=match quick (bG args 0 .nil) c.slots with
 | false=>false
 | true=>Nat.beq args.length c.slots.length && c.fits prv ⟨bG args 0 .nil,s.h,s.pc⟩ (c.guess ⟨bG args 0 .nil,s.h,s.pc⟩) && Ri (c.guess ⟨bG args 0 .nil,s.h,s.pc⟩)
def unset (s:St):List Nat→Bool
 | []=>true
 | t :: l=>match s.slots.get t with
   | some _=>false
   | none=>unset s l
def aDO (s:St):List (Nat×Nat)→Bool
 | []=>true
 | (t,_) :: l=>match s.slots.get t with
   | some _=>aDO s l
   | none=>false
def alF (c:CS) (gh:List (Nat×Nat)) (wh:List Nat) (args:List AV) (s:St):Bool:=match quick (bG args 0 .nil) c.slots with
 | false=>false
 | true=>unset s wh && aDO s gh && Nat.beq args.length c.slots.length && c.fits prv ⟨bG args 0 .nil,s.h,s.pc⟩ (ghR s gh (c.guess ⟨bG args 0 .nil,s.h,s.pc⟩)) && Ri (ghR s gh (c.guess ⟨bG args 0 .nil,s.h,s.pc⟩))
def Sys.Ny (S:Sys):List Nat→List AV→St→T (AV×St)
 | [],_,_=> .fail
 | j :: l,args,s=>match S.ents j with
   | none=> .fail
   | some e=>match e.pat with
     | none=>amW j e.OU e.pK args s
     | some (c,dW,ko)=>match e.wO with
       | []=>match atL c args s with
         | true=>amU j c e.pK dW ko args s
         | false=>S.Ny l args s
       | r :: rs=>match alF c e.gh e.wh args s with
         | true=>amS j e.jX c e.gh (r :: rs) args s
         | false=>S.Ny l args s
def Sys.hook (S:Sys) (g:Nat):Option (List AV→St→T (AV×St)):=match S.nums g with
 | []=>S.Ep g
 | j :: l=>some (match S.Ep g with
   | none=>S.Ny (j :: l)
   | some h=>orElse h (S.Ny (j :: l)))
def Sys.call (S:Sys):dR:=U3 S.tt S.ft S.hook S.draw S.lf S.depth
def Sys.cfg (S:Sys) (e:Ib) (fn:Func):Jc:=⟨S.tt,S.call,S.draw S.call e.g,S.lf,fn.results.toList,e.pK,e.dW,e.ko,e.wO,e.jX,e.fz⟩
def sN (S:Sys) (e:Ib):T Lf:=match S.ft e.g with
 | none=> .fail
 | some fn=>match fn.body with
   | none=> .fail
   | some body=>match e.pos with
     | none=>match e.pat with
       | none=>D9 (S.cfg e fn) e.tabs 1000 [] body [] ⟨bG (vZ e.OU .aK 0) 0 .nil,Hp.zero,[]⟩
       | some (c,_,_)=>D9 (S.cfg e fn) e.tabs 1000 [] body [] c.st
     | some (p,c)=>match uZ body p with
       | some (b,fr)=>match b with
         | .loop b=>Yt (fun s=>D9 (S.cfg e fn) e.tabs 1000 (0 :: p) b (.loop p b :: fr) s) e.tst c.st
         | _=> .fail
       | none=> .fail
def Sys.tree (S:Sys) (j:Nat):T Lf:=match S.ents j with
 | none=> .fail
 | some e=>sN S e
end
def asD (S:Sys) (e:Ib) (body:Code):Prop:= ∀p l,e.tabs p=some l→(∃b fr,uZ body p=some (.loop b,fr))∧∀j c,(j,c)∈l→S.ents j=some { e with pos:=some (p,c) }∧Cj c.k c=true∧c.k≤900∧e.jX≤c.k
structure OW (S:Sys):Prop where
 tt:eG S.P S.tt
 ft:ahN S.P S.chk S.ft
 draw: ∀(I:Glob) call,@jW I S.P call→∀g,@CW I S.P (S.chk g) (S.draw call g)
 Ep: ∀(I:Glob),(∀ρ ro h,I.ok ρ ro h→S.G.ok ro h)→∀g h,S.Ep g=some h→@nC I S.P g h
 run: ∀g j,j∈S.nums g→∀(args:Array Value) (w:World),(callFunc g args).run S.P w= .ok (.enter g args) w
 num: ∀g j e,j∈S.nums g→S.ents j=some e→e.g=g∧e.pos=none∧(match e.pat with
  | none=>(uS e.OU).length≤900∧e.wO= []
  | some (c,dW,_)=>Cj c.k c=true∧c.k≤900∧dW.length=c.objs.length∧(e.wO≠[]→QF e.wO=true))
 outs: ∀j e,S.ents j=some e→rD e.ko e.dW=true∧e.ko≤900∧e.jX≤900
 ents: ∀j e,S.ents j=some e→∀fn body,S.ft e.g=some fn→fn.body=some body→asD S e body
section
variable {S:Sys}
def aAs (S:Sys) (n:Nat):Prop:= ∀g j e,j∈S.nums g→S.ents j=some e→match e.pat with
 | none=>arL S.P S.G.ok g e.OU e.pK (eX S.tree n j)
 | some (c,dW,ko)=>match e.wO with
   | []=>aAr S.P S.G.ok g c e.pK dW ko (eX S.tree n j)
   | r :: rs=>aAq S.P S.G.ok g c (r :: rs) (eX S.tree n j)
def LoopN (S:Sys) (n:Nat):Prop:= ∀j e p c,S.ents j=some e→e.pos=some (p,c)→Cj c.k c=true→c.k≤900→∀fn body b fr,S.ft e.g=some fn→fn.body=some body→uZ body p=some (.loop b,fr)→
 ∀(B:rJ) (E:En) (a:Act) (w:World) (xs ys:List Int),e.dW.length=B.m→eX S.tree n j xs=some ys→(∀i x,xs[i]?=some x→E.ρ i=x)→xs.length=c.k→rH B E c.st a w→S.G.ok E.ro w.heap→fn.ntmps≤a.tmps.size→a.defers= []→
  O7 S.P b (KE S.P (bodyPost S.P fn (QX B e.pK e.dW e.ko e.wO ys)) fr) a w
def LfG (jX:Nat) (tabs:J5):Lf→Prop
 | .out es=> ∀a e,a < jX→es[a+1]?=some e→e= .aK a
 | .jump j es=>(∃p l c,tabs p=some l∧(j,c)∈l∧es.length=c.k)∧∀a e,a < jX→es[a]?=some e→e= .aK a
theorem RZ: ∀{n i:Nat} {ns:List SE} {a:Nat} {e:SE},a < n→(Jy n i ns)[a]?=some e→e= .aK (i+a)
 | 0,_,_,a,_,h,_=>by omega
 | n+1,i,[],a,e,_,h=>by simp [Jy] at h
 | n+1,i,x :: ns,0,e,_,h=>by simp [Jy] at h; rw [← h]; rfl
 | n+1,i,x :: ns,a+1,e,ha,h=>by simp only [Jy,List.getElem?_cons_succ] at h;rw [RZ (n:=n) (by omega) h];congr 1; omega
theorem Xm {jX:Nat} {r:Ren} {a:Nat} {e:SE} (ha:a < jX) (h:(xM jX r).ns[a]?=some e):e= .aK a:=by
 unfold xM at h;split at h
 ·omega
 ·have:=RZ ha h;rw [this,Nat.zero_add]
theorem anV {n m jX:Nat} {s:St} {ρ:Nat→Int} {lf:Lf} {tabs:J5} {l:List CS} {k:Nat} (h:(XD n m jX s l k).leaf ρ=some lf):LfG jX tabs lf:=by obtain⟨i,c,_,_,_,rfl,_⟩:=KW h;intro a e ha he;rw [List.getElem?_cons_succ] at he;exact Xm ha he
theorem zO {m jX:Nat} {s:St} {ρ:Nat→Int} {lf:Lf} {tabs:J5} {p:List Nat} {l0:List (Nat×CS)} (hp:tabs p=some l0): ∀{l:List (Nat×CS)},(∀x∈l,x∈l0)→(xJ m jX s l).leaf ρ=some lf→LfG jX tabs lf
 | [],_,h=>by simp [xJ,T.leaf] at h
 | (j,c) :: l,hsub,h=>by
   simp only [xJ] at h;split at h
   ·exact zO hp (fun x hx=>hsub x (by simp [hx])) h
   ·split at h
    ·have:=aF h;subst this;exact⟨⟨p,l0,c,hp,hsub _ (by simp),by rw [BU,Ad]⟩,fun a e ha he=>Xm ha he⟩
    ·exact zO hp (fun x hx=>hsub x (by simp [hx])) h
theorem xC {α:Type} {k:St→T α} {ρ:Nat→Int} {x:α}: ∀{ts:List Nat} {s:St},(CG k ts s).leaf ρ=some x→∃s',(k s').leaf ρ=some x
 | [],s,h=> ⟨s,h⟩
 | i :: ts,s,h=>by
   simp only [CG] at h;split at h
   ·obtain⟨pc,b,h1⟩:=mD h;exact xC h1
   ·exact xC h
theorem Ih {α:Type} {k:St→T α} {ρ:Nat→Int} {x:α}: ∀{ts:List (Nat×Nat)} {s:St},(Yt k ts s).leaf ρ=some x→∃s',(k s').leaf ρ=some x
 | [],s,h=> ⟨s,h⟩
 | (t,g) :: ts,s,h=>by
   simp only [Yt] at h;split at h
   ·obtain⟨pc,b,h1⟩:=mD h;exact Ih h1
   ·exact Ih h
theorem RX {α:Type} {ρ:Nat→Int} {v:AV} {s:St} {k:AV→St→T α} {x:α} (h:(agN v s k).leaf ρ=some x): ∃v s,(k v s).leaf ρ=some x:=by
 unfold agN at h;split at h
 ·split at h
  ·unfold Iw at h;obtain⟨_,b1,h⟩:=mD h
   cases b1 with
   | true=>simp [T.leaf] at h
   | false=>
     obtain⟨_,b2,h⟩:=mD h
     cases b2 with
     | true=>simp [T.leaf] at h
     | false=>
       obtain⟨_,b3,h⟩:=mD h
       cases b3 with
       | true=>simp [T.leaf] at h
       | false=>exact⟨_,_,h⟩
  ·exact⟨_,_,h⟩
 ·exact⟨_,_,h⟩
theorem NK {α:Type} {ρ:Nat→Int} {x:α}: ∀{vs:List AV} {s:St} {k:List AV→St→T α},(RV vs s k).leaf ρ=some x→∃vs s,(k vs s).leaf ρ=some x
 | [],s,k,h=> ⟨_,_,h⟩
 | v :: vs,s,k,h=>by simp only [RV] at h;obtain⟨_,_,h⟩:=RX h;obtain⟨_,_,h⟩:=NK h;exact⟨_,_,h⟩
theorem ML {α:Type} {ρ:Nat→Int} {x:α} {t:Nat}: ∀{ov:List (SE×List AV)} {e:SE} {s:St} {k:SE→St→T α},(QT t ov e s k).leaf ρ=some x→∃e s,(k e s).leaf ρ=some x
 | [],e,s,k,h=> ⟨_,_,h⟩
 | (j,cs) :: ov,e,s,k,h=>by
   simp only [QT] at h;obtain⟨_,_,h⟩:=ML h;obtain⟨_,_,h⟩:=NK h;split at h
   ·exact⟨_,_,h⟩
   ·simp [T.leaf] at h
theorem agL {α:Type} {ρ:Nat→Int} {v:AV} {s:St} {k:AV→St→T α} {x:α} (h:(agM v s k).leaf ρ=some x): ∃v s,(k v s).leaf ρ=some x:=by
 unfold agM at h;split at h
 ·obtain⟨_,_,h⟩:=ML h;split at h
  ·exact⟨_,_,h⟩
  ·simp [T.leaf] at h
 ·exact RX h
theorem RU {α:Type} {ρ:Nat→Int} {x:α} {k:List AV→St→T α}: ∀{fz:List (Nat×Nat×Nat)} {vs:List AV} {s:St},(Zr fz vs s k).leaf ρ=some x→∃vs s,(k vs s).leaf ρ=some x
 | [],vs,s,h=> ⟨_,_,h⟩
 | (i,f,t) :: l,vs,s,h=>by
   simp only [Zr] at h;split at h
   ·split at h
    ·obtain⟨_,_,h⟩:=agL h;split at h
     ·exact RU h
     ·simp [T.leaf] at h
    ·simp [T.leaf] at h
   ·simp [T.leaf] at h
theorem anW {g:Jc} {tabs:J5} {e:Ex} {s:St} {ρ:Nat→Int} {lf:Lf} (hr:g.wO≠[]) (h:(anX g e s).leaf ρ=some lf):LfG g.jX tabs lf:=by
 unfold anX at h;split at h
 ·simp [T.leaf] at h
 ·split at h
  ·simp [T.leaf] at h
  ·split at h
   ·rename_i h0; exact absurd h0 hr
   ·obtain⟨_,_,h⟩:=RU h;exact anV h
theorem adC {g:Jc} {tabs:J5} {ρ:Nat→Int} (hr:g.wO≠[]): ∀n:Nat,
 (∀p c fr s lf,(D9 g tabs n p c fr s).leaf ρ=some lf→LfG g.jX tabs lf)∧
 (∀fr e s lf,(Ae g tabs n fr e s).leaf ρ=some lf→LfG g.jX tabs lf)
 | 0=> ⟨fun _ _ _ _ _ h=>by simp [D9,T.leaf] at h,fun _ _ _ _ h=>by simp [Ae,T.leaf] at h⟩
 | n+1=>by
   obtain⟨ih1,ih2⟩:=adC hr n
   have lfc: ∀(c:Code) fr s lf,((g.ev c s).bind fun (e,s')=>Ae g tabs n fr e s').leaf ρ=some lf→LfG g.jX tabs lf:=by intro c fr s lf h;obtain⟨⟨e,s'⟩,_,h2⟩:=T.fQ h;exact ih2 _ _ _ _ h2
   constructor
   ·intro p c fr s lf h;unfold D9 at h;split at h
    ·rename_i l hl;obtain⟨s',h1⟩:=xC h;exact zO hl (fun _ h=>h) h1
    ·split at h
     ·exact ih1 _ _ _ _ _ h
     ·exact ih1 _ _ _ _ _ h
     ·exact ih1 _ _ _ _ _ h
     ·split at h
      ·obtain⟨pc,b,h1⟩:=mD h;split at h1
       ·exact ih1 _ _ _ _ _ h1
       ·exact ih1 _ _ _ _ _ h1
      ·simp [T.leaf] at h
     ·exact lfc _ _ _ _ h
   ·intro fr e s lf h;unfold Ae at h;split at h
    ·exact anW hr h
    ·split at h
     ·exact ih1 _ _ _ _ _ h
     ·exact ih2 _ _ _ _ h
    ·split at h
     ·split at h
      ·exact ih2 _ _ _ _ h
      ·exact ih2 _ _ _ _ h
     ·exact ih2 _ _ _ _ h
    ·split at h
     ·split at h
      ·rename_i l hl;obtain⟨s',h1⟩:=xC h;exact zO hl (fun _ h=>h) h1
      ·simp [T.leaf] at h
     ·exact ih2 _ _ _ _ h
    ·exact ih2 _ _ _ _ h
theorem JD {e:Ib} {ρ:Nat→Int} {lf:Lf} (hr:e.wO≠[]) (h:(sN S e).leaf ρ=some lf): ∃fn body,S.ft e.g=some fn∧fn.body=some body∧LfG e.jX e.tabs lf:=by
 unfold sN at h;split at h
 ·simp [T.leaf] at h
 ·rename_i fn hfn;split at h
  ·simp [T.leaf] at h
  ·rename_i body hb;refine⟨fn,body,hfn,hb,?_⟩;have key: ∀n p c fr s,(D9 (S.cfg e fn) e.tabs n p c fr s).leaf ρ=some lf→LfG e.jX e.tabs lf:=fun n p c fr s h=>(adC (g:=S.cfg e fn) hr n).1 _ _ _ _ _ h;split at h
   ·split at h
    ·exact key _ _ _ _ _ h
    ·exact key _ _ _ _ _ h
   ·split at h
    ·split at h
     ·obtain⟨s',h1⟩:=Ih h;exact key _ _ _ _ _ h1
     ·simp [T.leaf] at h
    ·simp [T.leaf] at h
theorem abV (hs:OW S): ∀(n j:Nat) (e:Ib) (xs ys:List Int),S.ents j=some e→e.wO≠[]→eX S.tree n j xs=some ys→∀a y,a < e.jX→ys[a+1]?=some y→y=low xs a
 | 0,_,_,_,_,_,_,h=>by simp [eX] at h
 | n+1,j,e,xs,ys,he,hr,h=>by
   intro a y ha hy;obtain⟨_,_,hg⟩:=hs.outs j e he;have RQ:S.tree j=sN S e:=by unfold Sys.tree; rw [he]
   simp only [eX,RQ] at h;split at h
   ·simp at h
   ·rename_i es hl;obtain⟨_,_,_,_,hlf⟩:=JD hr hl;simp only [Option.some.injEq] at h;subst h;rw [List.getElem?_map,Option.map_eq_some_iff] at hy;obtain⟨x,hx,rfl⟩:=hy;rw [hlf a x ha hx];show bM _ _ a=_;rw [wG (by omega)]
   ·rename_i j' es hl;obtain⟨fn,body,hfn,hb,⟨p,l,c,hp,hc,hlen⟩,hlf⟩:=JD hr hl;obtain⟨_,hh⟩:=hs.ents j e he fn body hfn hb p l hp;obtain⟨q1,_,_,q4⟩:=hh j' c hc;have:=abV hs n j' _ _ ys q1 hr h a y ha hy;rw [this];have hal:a < es.length:=by omega
    have hx:=List.getElem?_eq_getElem hal;unfold low;rw [List.getD_eq_getElem?_getD,List.getElem?_map,hx];show (es[a]).den _=_;rw [hlf a _ ha hx];show bM _ _ a=_;rw [wG (by omega)]
theorem awM (hs:OW S) {n:Nat} (h:aAs S n):@jW (S.G.glob (eX S.tree n)) S.P S.call:=by
 letI I:=S.G.glob (eX S.tree n);have a1: ∀ρ ro h,I.ok ρ ro h→S.G.ok ro h:=fun _ _ _ h=>h.1;have a2: ∀ρ ro h,I.ok ρ ro h→Good (eX S.tree n) ρ:=fun _ _ _ h=>h.2;refine GY hs.tt hs.ft (hook:=S.hook) ?_ (fun call hc g=>hs.draw I call hc g) S.lf S.depth
 have hL: ∀g l,(∀j∈l,j∈S.nums g)→@nC I S.P g (S.Ny l):=by
  intro g l
  induction l with
  | nil=> intro _ aF9 s E w vals v s' r hv hp hl;simp [Sys.Ny,T.leaf] at hl
  | cons j l ih=>
    intro hsub aF9 s E w vals v s' r hv hp hl;have hj:=hsub j (by simp);simp only [Sys.Ny] at hl;split at hl
    ·simp [T.leaf] at hl
    ·rename_i e he;have hspec:=h g j e hj he;obtain⟨_,_,hnum⟩:=hs.num g j e hj he;obtain⟨ho1,ho2,_⟩:=hs.outs j e he
     cases hpat:e.pat with
     | none=> rw [hpat] at hl hspec;exact @amV S.P I S.G.ok a1 (eX S.tree n) a2 g j e.OU e.pK hspec (hs.run g j hj) aF9 s E w vals v s' r hv hp hl
     | some q=>
       obtain⟨c,dW,ko⟩:=q;rw [hpat] at hl hspec hnum;simp only at hl hspec hnum;unfold Ib.dW Ib.ko at ho1;unfold Ib.ko at ho2;rw [hpat] at ho1 ho2
       cases JW:e.wO with
       | nil=>
         rw [JW] at hl hspec;simp only at hl hspec;split at hl
         ·exact @amT S.P I S.G.ok a1 (eX S.tree n) a2 g j c e.pK dW ko ho1 ho2 hnum.2.2.1 hspec (hs.run g j hj) aF9 s E w vals v s' r hv hp hl
         ·exact ih (fun j hj=>hsub j (by simp [hj])) aF9 s E w vals v s' r hv hp hl
       | cons r0 rs=>
         rw [JW] at hl hspec;simp only at hl hspec;have hrp:=hnum.2.2.2 (by rw [JW]; simp);rw [JW] at hrp;split at hl
         ·exact @amR S.P I S.G.ok a1 (eX S.tree n) a2 g j c e.gh e.jX (r0 :: rs) hrp (fun xs ys h=>abV hs n j e xs ys he (by rw [JW]; simp) h) hspec (hs.run g j hj) aF9 s E w vals v s' r hv hp hl
         ·exact ih (fun j hj=>hsub j (by simp [hj])) aF9 s E w vals v s' r hv hp hl
 intro g f hf;unfold Sys.hook at hf;split at hf
 ·exact hs.Ep I a1 g f hf
 ·rename_i j l hj;simp only [Option.some.injEq] at hf;subst hf;have h2:=hL g (j :: l) (by rw [hj]; exact fun _ h=>h);split
  ·exact h2
  ·rename_i h0 hh;exact Dp (hs.Ep I a1 g h0 hh) h2
theorem Zi (hs:OW S) {n:Nat} (h:LoopN S n) {j:Nat} {e:Ib} (he:S.ents j=some e) {fn:Func} {body:Code} (hfn:S.ft e.g=some fn) (hb:fn.body=some body) (B:rJ) (hm:e.dW.length=B.m) (ys:List Int) :
 @arQ (S.G.glob (eX S.tree n)) S.P body fn.ntmps B (bodyPost S.P fn (QX B e.pK e.dW e.ko e.wO ys)) (eX S.tree n) ys e.tabs:=by
 intro p l hp;obtain⟨⟨b,fr,hl⟩,hh⟩:=hs.ents j e he fn body hfn hb p l hp;refine⟨b,fr,hl,fun j' c hc E a w t hg ⟨xs,h1,h2,h3,h4⟩ hN hd=>?_⟩;obtain⟨q1,q2,q3,_⟩:=hh j' c hc;exact h j' { e with pos:=some (p,c) } p c q1 rfl q2 q3 fn body b fr hfn hb hl B E a w xs ys hm h4 h1 h2 t hg.1 hN hd
theorem amA {F:uJ} {E:En} {xs:List Int} {k:Nat} (h: ∀i x,xs[i]?=some x→E.ρ i=x) (hk:xs.length=k) (h9:k≤900): ∀i,i < k→bM F (low xs) i=E.ρ i:=by intro i hi;rw [wG (by omega)];have hx:xs[i]?=some xs[i]:=List.getElem?_eq_getElem (by omega);unfold low;rw [h i _ hx,List.getD_eq_getElem?_getD,hx];rfl
theorem UD {tree:Nat→T Lf} {n j:Nat} {xs ys:List Int} (h:eX tree (n+1) j xs=some ys): ∃lf,(tree j).leaf (bM (eX tree n) (low xs))=some lf∧Yb (eX tree n) (bM (eX tree n) (low xs)) ys lf:=by
 simp only [eX] at h;split at h
 ·simp at h
 ·rename_i es hl;simp only [Option.some.injEq] at h;exact⟨_,hl,h⟩
 ·rename_i j' es hl;exact⟨_,hl,h⟩
theorem QE.spec {w:World} {ro:Nat→Prop} {θ:Nat→Nat×Nat} {κ:Nat→Nat} {pK:List RK} {ys:List Int} {e:Ending} {w':World} (h:QE ⟨w,ro,0,θ,κ⟩ pK [] 0 ys e w') :
 ∃u,e= .returned u∧Below w.heap.size w w'∧∃ro':Nat→Prop,(∀b,ro b→ro' b)∧(∀b,ro' b→ro b∨w.heap.size≤b)∧(∀b,ro' b→b < w'.heap.size)∧awX pK ys ro' w'.heap u:=by
 obtain⟨u,q1,q2,ro',q3,q4,q5,_,_,q6⟩:=h;exact⟨u,q1,⟨q2.os,q2.tape,q2.output,q2.size,fun k hk=>q2.blk k hk fun⟨i,hi,_⟩=>absurd hi (by show ¬i < 0; omega)⟩,ro',q3,q4,q5,q6⟩
theorem Bel.refl {B:rJ}:Bel B B.w0:=⟨rfl,rfl,rfl,Nat.le_refl _,fun _ _ _=>rfl⟩
theorem H6.grow {E:En} {s:St} {w:World} {vals:List Value} (f:H6 E s { tmps:=vals.toArray,defers:=[] } w) (n:Nat):H6 E s { tmps:=vals.toArray++Array.replicate n undef,defers:=[] } w:=by refine⟨f.fresh,f.res,f.live,f.inj,f.Bv,fun t v ht=>?_,f.pc⟩;obtain⟨u,h1,h2⟩:=f.sr t v ht;refine⟨u,?_,h2⟩;have hlt:=(Array.getElem?_eq_some_iff.1 h1).1;show (vals.toArray++Array.replicate n undef)[t]?=some u;rw [Array.getElem?_append_left hlt];exact h1
theorem akD (hs:OW S): ∀n:Nat,aAs S n∧LoopN S n
 | 0=> ⟨fun g j e _ _=>by
  cases e.pat with
  | none=>exact fun xs ys h=>by simp [eX] at h
  | some q=>
    obtain⟨c,dW,ko⟩:=q
    cases e.wO with
    | nil=>exact fun xs ys h=>by simp [eX] at h
    | cons r rs=>exact fun xs ys h=>by simp [eX] at h,fun j e p c _ _ _ _ fn body b fr _ _ _ B E a w xs ys _ h=>by simp [eX] at h⟩
 | n+1=>by
   obtain⟨ih1,ih2⟩:=akD hs n;letI I:=S.G.glob (eX S.tree n);have hcall:=awM hs ih1;have aqV: ∀(e:Ib) (fn:Func),aaI S.P (S.cfg e fn) (S.chk e.g):=fun e fn=> ⟨hs.tt,hcall,hs.draw I S.call hcall e.g⟩;constructor
   ·intro g j e hn he;obtain⟨hg,hpos,hnum⟩:=hs.num g j e hn he;obtain⟨hlo,hko,_⟩:=hs.outs j e he;have RQ:S.tree j=sN S e:=by unfold Sys.tree; rw [he]
    cases hpat:e.pat with
    | none=>
      rw [hpat] at hnum;simp only at hnum ⊢;intro xs ys hx ro w vals fl hro hgb sh hc;obtain⟨lf,h1,h2⟩:=UD hx;rw [RQ] at h1;unfold sN at h1
      cases hfn:S.ft e.g with
      | none=>rw [hfn] at h1; simp [T.leaf] at h1
      | some fn=>
        rw [hfn] at h1
        cases hb:fn.body with
        | none=>simp only [hb] at h1; simp [T.leaf] at h1
        | some body=>
          simp only [hb,hpos,hpat] at h1;obtain⟨hf,_,hd⟩:=hs.ft e.g fn hfn;rw [hg] at hf;have hdst:=hd body hb;have hlx:=hc.length.1;have hob:e.dW= []:=by unfold Ib.dW; rw [hpat]
          have hk0:e.ko=0:=by unfold Ib.ko; rw [hpat]
          have hvr:bJ (En.zero (bM (eX S.tree n) (low xs)) ro) w.heap (vZ e.OU .aK 0) vals:=by refine yK sh hc fun k x hk=>?_;have hkl:=(List.getElem?_eq_some_iff.1 hk).1;rw [Nat.zero_add];show bM _ _ k=x;rw [wG (by omega)];unfold low;rw [List.getD_eq_getElem?_getD,hk];rfl
          have hgl:I.ok (bM (eX S.tree n) (low xs)) ro w.heap:=⟨hgb,oJ _ _⟩;let B:rJ:=⟨w,ro,0,fun _=>(0,0),fun _=>0⟩
          have t0:rH B (En.zero (bM (eX S.tree n) (low xs)) ro) ⟨bG (vZ e.OU .aK 0) 0 .nil,Hp.zero,[]⟩ { tmps:=vals.toArray++Array.replicate (fn.ntmps - vals.toArray.size) undef,defers:=[] } w:=by
           have fit:Fit (En.zero (bM (eX S.tree n) (low xs)) ro) ⟨bG (vZ e.OU .aK 0) 0 .nil,Hp.zero,[]⟩ { tmps:=vals.toArray++Array.replicate (fn.ntmps - vals.toArray.size) undef,defers:=[] } w:=
            ⟨VL _ ro w hro hgl,Gp hvr _,by intro c b h; simp at h⟩
           exact⟨fit.x,fun _ h=>h,fun _ h=> .inl h,Bel.refl,fun id o h=>by simp [Hp.zero,Hp.get,Tr.get] at h,fun i hi=>absurd hi (by show ¬i < 0; omega)⟩
          refine Calls.mono (calls_of_wp (R:=QX B e.pK e.dW e.ko e.wO ys) hf hb ?_) fun e' w' hq=>QE.spec (w:=w) (ro:=ro) (θ:=fun _=>(0,0)) (κ:=fun _=>0) (by rw [hob,hk0,hnum.2] at hq; exact hq);exact (UK (B:=B) (aqV e fn) hdst rfl (by show e.dW.length=0; rw [hob]; rfl) hlo hko (Zi hs ih2 he hfn hb B (by show e.dW.length=0; rw [hob]; rfl) ys) 1000).1 [] body [] _ lf _ _ w rfl h1 h2 t0 hgl (by simp; omega) rfl
    | some q=>
      obtain⟨c,dW,ko⟩:=q;rw [hpat] at hnum;simp only at hnum ⊢;obtain⟨aDH,hc9,hom,hrp⟩:=hnum
      have main: ∀xs ys,eX S.tree (n+1) j xs=some ys→∀(E:En) (w:World) (vals:List Value),(∀i x,xs[i]?=some x→E.ρ i=x)→xs.length=c.k→H6 E c.st { tmps:=vals.toArray,defers:=[] } w→S.G.ok E.ro w.heap→
       Calls S.P g vals.toArray w (QX ⟨w,E.ro,c.objs.length,E.θ,E.κ⟩ e.pK dW ko e.wO ys):=?_
      ·cases JW:e.wO with
       | nil=> simp only;intro xs ys hx E w vals hxs hlen fx hgb;have:=main xs ys hx E w vals hxs hlen fx hgb;rw [JW] at this;exact this
       | cons r0 rs=> simp only;intro xs ys hx E w vals hxs hlen fx hgb;have:=main xs ys hx E w vals hxs hlen fx hgb;rw [JW] at this;exact this
      intro xs ys hx E w vals hxs hlen fx hgb;obtain⟨lf,h1,h2⟩:=UD hx;rw [RQ] at h1;unfold sN at h1
      cases hfn:S.ft e.g with
      | none=>rw [hfn] at h1; simp [T.leaf] at h1
      | some fn=>
        rw [hfn] at h1
        cases hb:fn.body with
        | none=>simp only [hb] at h1; simp [T.leaf] at h1
        | some body=>
          simp only [hb,hpos,hpat] at h1;obtain⟨hf,_,hd⟩:=hs.ft e.g fn hfn;rw [hg] at hf;have hdst:=hd body hb;have hob:e.dW=dW:=by unfold Ib.dW; rw [hpat]
          have hk0:e.ko=ko:=by unfold Ib.ko; rw [hpat]
          let B:rJ:=⟨w,E.ro,c.objs.length,E.θ,E.κ⟩
          have aFv: ∀id o,c.st.h.get id=some o→id < c.objs.length:=by
           intro id o ho;have:(vY c.objs 0 .nil).get id=some o:=ho;rw [nK] at this;split at this
           ·omega
           ·simp [Tr.get] at this
          have aFt: ∀id,id < c.objs.length→∃o,c.st.h.get id=some o:=by intro id hid;refine⟨c.objs[id],?_⟩;show (vY c.objs 0 .nil).get id=_;rw [nK,if_pos (by omega)];simp
          have t1:rH B E c.st { tmps:=vals.toArray++Array.replicate (fn.ntmps - vals.toArray.size) undef,defers:=[] } w:=by refine⟨fx.grow _,fun _ h=>h,fun _ h=> .inl h,Bel.refl,fun id o h=> .inr ⟨id,aFv id o h,rfl⟩,fun i hi=>?_⟩;obtain⟨o,ho⟩:=aFt i hi;exact⟨(fx.live i o ho).1,rfl,rfl⟩
          have t0:=t1.low (ρ':=bM (eX S.tree n) (low xs)) aDH (amA hxs hlen hc9);have hgl:I.ok (bM (eX S.tree n) (low xs)) E.ro w.heap:=⟨hgb,oJ _ _⟩;have hm:e.dW.length=B.m:=by rw [hob]; exact hom
          have hw:=(UK (B:=B) (aqV e fn) hdst rfl hm hlo hko (Zi hs ih2 he hfn hb B hm ys) 1000).1 [] body [] _ lf { E with ρ:=bM (eX S.tree n) (low xs) } _ w rfl h1 h2 t0 hgl (by simp; omega) rfl;have hw':=calls_of_wp (R:=QX B e.pK e.dW e.ko e.wO ys) hf hb hw;rw [hob,hk0] at hw';exact hw'
   ·intro j e p c he hpos hlow h9 fn body b fr hfn hb hl B E a w xs ys hm hx hxs hlen t hgb hN hdf;obtain⟨hlo,hko,_⟩:=hs.outs j e he;obtain⟨lf,h1,h2⟩:=UD hx;have RQ:S.tree j=sN S e:=by unfold Sys.tree; rw [he]
    rw [RQ] at h1;unfold sN at h1;simp only [hfn,hb,hpos,hl] at h1;obtain⟨hf,_,hd⟩:=hs.ft e.g fn hfn;have hdst:=hd body hb;have t':=t.low (ρ':=bM (eX S.tree n) (low xs)) hlow (amA hxs hlen h9);have hgl:I.ok (bM (eX S.tree n) (low xs)) E.ro w.heap:=⟨hgb,oJ _ _⟩;refine Zc ?_;obtain⟨s2,t2,h1'⟩:=TG (E:={ E with ρ:=bM (eX S.tree n) (low xs) }) h1 t';exact (UK (B:=B) (aqV e fn) hdst rfl hm hlo hko (Zi hs ih2 he hfn hb B hm ys) 1000).1 (0 :: p) b (.loop p b :: fr) s2 lf { E with ρ:=bM (eX S.tree n) (low xs) } a w (by simp only [uZ,hl]) h1' h2 t2 hgl hN hdf
theorem akC (hs:OW S) {g j:Nat} {e:Ib} (hn:j∈S.nums g) (he:S.ents j=some e) (hp:e.pat=none) (n:Nat):arL S.P S.G.ok g e.OU e.pK (eX S.tree n j):=by have:=(akD hs n).1 g j e hn he;rw [hp] at this;exact this
end
end Go.As
end
section
namespace Go.As
open Go.RowKit
def Jz:List (Nat×Nat)→Nat→Option Nat
 | [],_=>none
 | (t,k) :: l,x=>match Nat.beq t x with
   | true=>some k
   | false=>Jz l x
def WG (l:List (Nat×Nat)) (tt:TT):TT:=fun t=>match tt t with
 | some i=>some { i with own:=Jz l t }
 | none=>none
section
variable {P:Program}
theorem atM {l:List (Nat×Nat)} {tt:TT} (h:eG P tt):eG P (WG l tt):=by
 intro t i hi;unfold WG at hi;split at hi
 ·rename_i j hj;simp only [Option.some.injEq] at hi;subst hi;obtain⟨h1,h2⟩:=h t j hj;exact⟨h1,h2⟩
 ·simp at hi
theorem Zg (l:List (Nat×Nat)) (tt:TT):kindOf (WG l tt)=kindOf tt:=by
 funext op;cases op
 case convert t u x=>
  simp only [kindOf,WG]
  cases ht:tt t with
  | none=>rfl
  | some i=>
    simp only
    cases i.kind with
    | slice e=>
      simp only
      cases hu:tt u with
      | none=>rfl
      | some j=>rfl
    | _=>rfl
 all_goals rfl
theorem RI (l:List (Nat×Nat)) (tt:TT) (all:List Oper) (ms:List Nat): ∀(os:List Oper) (i n:Nat),items (WG l tt) all ms os i n=items tt all ms os i n
 | [],_,_=>rfl
 | o :: os,i,n=>by simp only [items,Zg,RI l tt all ms os]
theorem akH (l:List (Nat×Nat)) (tt:TT) (all:List Oper):stat (WG l tt) all=stat tt all:=by
 unfold stat
 simp only [RI]
theorem aqU (l:List (Nat×Nat)) (tt:TT) (H:Nat→Nat→Option Tz):Vt (WG l tt) H=Vt tt H:=by funext g id all;unfold Vt;simp only [BQ,akH]
end
end Go.As
end
section
namespace Go.As
open Go.RowKit
structure FE where
 no:Nat
 g:Nat
 OU:List RK
 pK:List RK
 pat:Option (CS×List dU×Nat):=none
 wO:List CS:=[]
 gh:List (Nat×Nat):=[]
 wh:List Nat:=[]
 jX:Nat:=0
 tst:List (Nat×Nat):=[]
 fz:List (Nat×Nat×Nat):=[]
 loops:List (List Nat×CS):=[]
def idxs (p:List Nat):List (List Nat×CS)→Nat→List (Nat×CS)
 | [],_=>[]
 | (q,c) :: l,j=>match jI q p with
   | true=>(j,c) :: idxs p l (j+1)
   | false=>idxs p l (j+1)
def FE.tabs (f:FE):J5:=fun p=>match idxs p f.loops (f.no+1) with
 | []=>none
 | x :: l=>some (x :: l)
def FE.ent (f:FE):Ib:=⟨f.g,f.OU,f.pK,f.tabs,none,f.pat,f.wO,f.gh,f.wh,f.jX,f.tst,f.fz⟩
def AU (t:Nat→Option FE) (j:Nat):Option Ib:=match t (j / 50) with
 | none=>none
 | some f=>match j % 50 with
   | 0=>some f.ent
   | i+1=>match gK f.loops i with
     | some x=>some { f.ent with pos:=some x }
     | none=>none
def amL:Option (Code×List FrE)→Bool
 | some (c,_)=>match c with
   | .loop _=>true
   | _=>false
 | none=>false
def Uy (jX:Nat) (body:Code) (x:List Nat×CS):Bool:=amL (uZ body x.1) && Cj x.2.k x.2 && Nat.ble x.2.k 900 && Nat.ble jX x.2.k
def aDn {α:Type}:List α→Bool
 | []=>true
 | _=>false
def anL (ft:Nat→Option Func) (k:Nat) (f:FE):Bool:=Nat.beq f.no (50*k) && Nat.blt f.loops.length 50 && Nat.ble f.jX 900 &&
 (match f.pat with
  | none=>Nat.ble (uS f.OU).length 900 && aDn f.wO
  | some (c,dW,ko)=>Cj c.k c && Nat.ble c.k 900 && Nat.beq dW.length c.objs.length && QF f.wO && rD ko dW && Nat.ble ko 900) &&
 (match ft f.g with
  | some fn=>match fn.body with
    | some body=>f.loops.all (Uy f.jX body)
    | none=>false
  | none=>false)
def WL (ft:Nat→Option Func) (t:Nat→Option FE) (g:Nat) (l:List Nat):Bool:=
 l.all fun j=>Nat.beq (j % 50) 0 && match t (j / 50) with
  | some f=>Nat.beq f.g g && (match ft g with
    | some fn=>fn.body.isSome
    | none=>false)
  | none=>false
theorem Oe: ∀{a b:List Nat},jI a b=true→a=b
 | [],[],_=>rfl
 | [],_ :: _,h=>by simp [jI] at h
 | _ :: _,[],h=>by simp [jI] at h
 | a :: x,b :: y,h=>by
   simp only [jI] at h;split at h
   ·rename_i h1;rw [Nat.eq_of_beq_eq_true h1,Oe h]
   ·simp at h
theorem Gq {p:List Nat}: ∀{l:List (List Nat×CS)} {n j:Nat} {c:CS},(j,c)∈idxs p l n→∃i,l[i]?=some (p,c)∧j=n+i
 | [],n,j,c,h=>by simp [idxs] at h
 | (q,c0) :: l,n,j,c,h=>by
   simp only [idxs] at h;split at h
   ·rename_i hq;rcases List.mem_cons.1 h with h | h
    ·simp only [Prod.mk.injEq] at h;obtain⟨rfl,rfl⟩:=h;exact⟨0,by rw [Oe hq]; rfl,rfl⟩
    ·obtain⟨i,h1,h2⟩:=Gq h;exact⟨i+1,by simpa using h1,by omega⟩
   ·obtain⟨i,h1,h2⟩:=Gq h;exact⟨i+1,by simpa using h1,by omega⟩
structure ahM where
 P:Program
 G:Yd
 tt:TT
 ft:Nat→Option Func
 chk:Nat→Nat→List Oper→Bool
 draw:dR→Nat→Nat→List Oper→St→T St
 Ep:Nat→Option (List AV→St→T (AV×St))
 t:Nat→Option FE
 nums:Nat→List Nat
noncomputable def ahM.sys (S:ahM):Sys:=⟨S.P,S.G,S.tt,S.ft,S.chk,S.draw,S.Ep,40,60,S.nums,AU S.t⟩
theorem Og {t:Nat→Option FE} {j:Nat} {e:Ib} (h:AU t j=some e): ∃f pos,t (j / 50)=some f∧e= { f.ent with pos:=pos }:=by
 unfold AU at h;split at h
 ·simp at h
 ·rename_i f hf;split at h
  ·simp only [Option.some.injEq] at h;exact⟨f,none,hf,h.symm⟩
  ·split at h
   ·rename_i x hx;simp only [Option.some.injEq] at h;exact⟨f,some x,hf,h.symm⟩
   ·simp at h
theorem asR {S:ahM} (h1:eG S.P S.tt) (h2:ahN S.P S.chk S.ft) (h3: ∀(I:Glob) call,@jW I S.P call→∀g,@CW I S.P (S.chk g) (S.draw call g)) (h4: ∀(I:Glob),(∀ρ ro h,I.ok ρ ro h→S.G.ok ro h)→∀g h,S.Ep g=some h→@nC I S.P g h)
 (h5: ∀k f,S.t k=some f→anL S.ft k f=true) (h6: ∀g,WL S.ft S.t g (S.nums g)=true):OW S.sys where
 tt:=h1
 ft:=h2
 draw:=h3
 Ep:=h4
 run:=by
  intro g j hj args w;have hn:=h6 g;unfold WL at hn;have:=List.all_eq_true.1 hn j hj;simp only [Bool.and_eq_true] at this;obtain⟨_,h⟩:=this;split at h
  ·simp only [Bool.and_eq_true] at h;obtain⟨_,h⟩:=h;split at h
   ·rename_i fn hfn;obtain⟨q1,q2,_⟩:=h2 g fn hfn;obtain⟨c,hb⟩:=Option.isSome_iff_exists.1 h;unfold callFunc;simp [ahM.sys,q1,hb,by simpa using q2]
   ·simp at h
  ·simp at h
 num:=by
  intro g j e hj he;have hn:=h6 g;unfold WL at hn;have:=List.all_eq_true.1 hn j hj;simp only [Bool.and_eq_true] at this;obtain⟨hm,h⟩:=this;have hm:=Nat.eq_of_beq_eq_true hm;have he':AU S.t j=some e:=he;unfold AU at he';split at h
  ·rename_i f hf;rw [hf,hm] at he';simp only [Option.some.injEq] at he';subst he';simp only [Bool.and_eq_true] at h;have hok:=h5 _ _ hf;unfold anL at hok;simp only [Bool.and_eq_true] at hok;obtain⟨⟨_,hp⟩,_⟩:=hok;refine⟨Nat.eq_of_beq_eq_true h.1,rfl,?_⟩
   show (match f.pat with
    | none=>_
    | some (c,dW,_)=>_)
   cases hpat:f.pat with
   | none=>
     rw [hpat] at hp;simp only [Bool.and_eq_true] at hp;refine⟨Nat.le_of_ble_eq_true hp.1,?_⟩;show f.wO= []
     cases hr:f.wO with
     | nil=>rfl
     | cons a l=>rw [hr] at hp; simp [aDn] at hp
   | some q=> obtain⟨c,dW,ko⟩:=q;rw [hpat] at hp;simp only [Bool.and_eq_true] at hp;obtain⟨⟨⟨⟨⟨p1,p2⟩,p3⟩,p4⟩,_⟩,_⟩:=hp;exact⟨p1,Nat.le_of_ble_eq_true p2,Nat.eq_of_beq_eq_true p3,fun _=>p4⟩
  ·simp at h
 outs:=by
  intro j e he;obtain⟨f,pos,hf,rfl⟩:=Og he;have hok:=h5 _ _ hf;unfold anL at hok;simp only [Bool.and_eq_true] at hok;obtain⟨⟨⟨_,hg⟩,hp⟩,_⟩:=hok;refine⟨?_,?_,Nat.le_of_ble_eq_true hg⟩
  ·unfold Ib.dW Ib.ko;show rD (match f.pat with | none=>0 | some (_,_,k)=>k) (match f.pat with | none=>[] | some (_,o,_)=>o)=true
   cases hpat:f.pat with
   | none=>rfl
   | some q=> obtain⟨c,dW,ko⟩:=q;rw [hpat] at hp;simp only [Bool.and_eq_true] at hp;exact hp.1.2
  ·unfold Ib.ko;show (match f.pat with | none=>0 | some (_,_,k)=>k)≤900
   cases hpat:f.pat with
   | none=>exact Nat.zero_le _
   | some q=> obtain⟨c,dW,ko⟩:=q;rw [hpat] at hp;simp only [Bool.and_eq_true] at hp;exact Nat.le_of_ble_eq_true hp.2
 ents:=by
  intro j e he fn body hfn hb;obtain⟨f,pos,hf,rfl⟩:=Og he;have hok:=h5 _ _ hf;unfold anL at hok;simp only [Bool.and_eq_true] at hok;obtain⟨⟨⟨⟨hno,hlen⟩,_⟩,_⟩,hl⟩:=hok;have hno:=Nat.eq_of_beq_eq_true hno;have hlen:f.loops.length < 50:=Nat.lt_of_succ_le (by simpa [Nat.blt] using hlen);have hfn':S.ft f.g=some fn:=hfn;rw [hfn'] at hl;simp only [hb] at hl;intro p l hp;have hp':f.tabs p=some l:=hp
  have hl0:l=idxs p f.loops (f.no+1)∧l≠[]:=by
   unfold FE.tabs at hp';split at hp'
   ·simp at hp'
   ·rename_i x l' hx;simp only [Option.some.injEq] at hp';rw [hx,hp'];exact⟨rfl,by rw [← hp']; simp⟩
  have hat: ∀i c,f.loops[i]?=some (p,c)→Uy f.jX body (p,c)=true:=fun i c hi=>List.all_eq_true.1 hl _ (List.mem_of_getElem? hi);constructor
  ·obtain⟨hl1,hl2⟩:=hl0
   cases hc:l with
   | nil=>exact absurd hc hl2
   | cons x l'=>
     obtain⟨j',c⟩:=x;have:(j',c)∈idxs p f.loops (f.no+1):=by rw [← hl1,hc]; simp
     obtain⟨i,hi,_⟩:=Gq this;have:=hat i c hi;unfold Uy at this;simp only [Bool.and_eq_true] at this;have hi:=this.1.1.1;unfold amL at hi;split at hi
     ·rename_i c' fr heq;split at hi
      ·rename_i b;exact⟨b,fr,heq⟩
      ·simp at hi
     ·simp at hi
  ·intro j' c hc;rw [hl0.1] at hc;obtain⟨i,hi,rfl⟩:=Gq hc;have hil:=(List.getElem?_eq_some_iff.1 hi).1;have:=hat i c hi;unfold Uy at this;simp only [Bool.and_eq_true] at this;obtain⟨⟨⟨_,q1⟩,q2⟩,q3⟩:=this;refine⟨?_,q1,Nat.le_of_ble_eq_true q2,Nat.le_of_ble_eq_true q3⟩;show AU S.t (f.no+1+i)=_;have hd:(f.no+1+i) / 50=j / 50:=by rw [hno]; omega
   have hm:(f.no+1+i) % 50=i+1:=by rw [hno]; omega
   unfold AU;rw [hd,hf,hm];simp only;rw [dB,hi]
end Go.As
end
section
namespace Go.As
open Go.RowKit
def u8L (l:List Int):List AV:=l.map fun n=> .int .u8 (.lit n)
noncomputable section
def a0 (j:Nat) (l:List SE):SE:=.ap (2*j) (iI l)
def a1 (j:Nat) (l:List SE):SE:=.ap (2*j+1) (iI l)
def rr (j:Nat) (l:List SE) (i:Nat):SE:=uP (.ap (2*j+1) (iI l)) i
def nm (x:SE):SE:=.op .num x (.lit 0)
def mk (x:SE):SE:=.op .mk x (.lit 0)
def ln (x:SE):SE:=.op .len x (.lit 0)
def ce (j:Nat) (x:SE):SE:=.op (.cell j) x (.lit 0)
def el (x y:SE):SE:=.op .at x y
def cn (x y:SE):SE:=.op .cons x y
def wr (x:SE):SE:=.wrap .i64 x
def sp (c:SB) (a b:T Lf):T Lf:=.split c a b
def ou (l:List SE):T Lf:=.ret (.out l)
def ju (j:Nat) (l:List SE):T Lf:=.ret (.jump j l)
def fl:T Lf:=.fail
end
end Go.As
end
section
namespace Go.As
open Go.RowKit
def D5 (kn:List (Nat×SE)):SE→Bool
 | .ap f a=>D5 kn a && kn.any fun p=>Nat.beq f (2*p.1+1) && gI a p.2
 | .op _ a b=>D5 kn a && D5 kn b
 | .add a b=>D5 kn a && D5 kn b
 | .sub a b=>D5 kn a && D5 kn b
 | .mul a b=>D5 kn a && D5 kn b
 | .quo a b=>D5 kn a && D5 kn b
 | .rem a b=>D5 kn a && D5 kn b
 | .wrap _ a=>D5 kn a
 | .inp _ _=>false
 | .lit _=>true
 | .dat _=>true
 | .aK i=>Nat.blt i 900
def okC (kn:List (Nat×SE)):SB→Bool
 | .lit _=>true
 | .lt a b=>D5 kn a && D5 kn b
 | .le a b=>D5 kn a && D5 kn b
 | .eq a b=>D5 kn a && D5 kn b
 | .not a=>okC kn a
 | .and a b=>okC kn a && okC kn b
def callOf:SB→Option (Nat×SE)
 | .eq x y=>match x with
   | .ap f a=>match y with
     | .lit n=>match BM n 1 && Nat.beq (f % 2) 0 with
       | true=>some (f / 2,a)
       | false=>none
     | _=>none
   | _=>none
 | _=>none
def aBi:T Lf→Bool
 | .fail=>true
 | _=>false
def alH (kn:List (Nat×SE)):List SE→Bool
 | []=>true
 | e :: l=>D5 kn e && alH kn l
def Yi (kn:List (Nat×SE)):T Lf→Bool
 | .fail=>true
 | .ret l=>match l with
   | .out es=>alH kn es
   | .jump _ es=>alH kn es
 | .split c x y=>match callOf c with
   | some p=>D5 kn p.2 && Yi (p :: kn) x && aBi y
   | none=>okC kn c && Yi kn x && Yi kn y
inductive RS where
 | no
 | out (ys:List Int)
 | jump (j:Nat) (xs:List Int)
noncomputable def dX (ρ:Nat→Int):T Lf→RS
 | .fail=> .no
 | .ret l=>match l with
   | .out es=> .out (es.map (SE.den ρ))
   | .jump j es=> .jump j (es.map (SE.den ρ))
 | .split c x y=>if c.den ρ=true then dX ρ x else dX ρ y
theorem FV {tree:Nat→T Lf} {n j:Nat} {xs:List Int}:eX tree (n+1) j xs=match dX (bM (eX tree n) (low xs)) (tree j) with
 | .no=>none
 | .out ys=>some ys
 | .jump j' xs'=>eX tree n j' xs':=by
 have: ∀t:T Lf,(match t.leaf (bM (eX tree n) (low xs)) with
  | none=>none
  | some (.out es)=>some (es.map (SE.den (bM (eX tree n) (low xs))))
  | some (.jump j' es)=>eX tree n j' (es.map (SE.den (bM (eX tree n) (low xs)))))=match dX (bM (eX tree n) (low xs)) t with
  | .no=>none
  | .out ys=>some ys
  | .jump j' xs'=>eX tree n j' xs':=by
  intro t
  induction t with
  | fail=>rfl
  | ret l=>cases l <;> rfl
  | split c x y ihx ihy=>
    simp only [T.leaf,dX]
    cases hc:c.den (bM (eX tree n) (low xs)) with
    | true=>simpa [hc] using ihx
    | false=>simpa [hc] using ihy
 exact this (tree j)
def Fle (F F':uJ):Prop:= ∀j xs ys,F j xs=some ys→F' j xs=some ys
def Kn (F F':uJ) (lo:Nat→Int) (kn:List (Nat×SE)):Prop:= ∀p∈kn,p.2.den (bM F lo)=p.2.den (bM F' lo)∧∃xs ys,p.2.den (bM F lo)=qQ xs∧F p.1 xs=some ys
theorem SA {F:uJ} {lo:Nat→Int} {j:Nat} {z:Int} (h:bM F lo (kP (2*j) z)=1): ∃xs ys,z=qQ xs∧F j xs=some ys:=by
 have h1:=CQ (2*j) z;unfold bM at h;rw [if_neg (by omega)] at h;split at h
 ·rename_i hp;obtain⟨q1,q2⟩:=yX hp.choose_spec;have q1:hp.choose.1=j:=by omega
  split at h
  ·rename_i hs;obtain⟨ys,hy⟩:=Option.isSome_iff_exists.1 hs;refine⟨hp.choose.2,ys,q2,?_⟩;generalize hp.choose=q at q1 hy;subst q1;exact hy
  ·omega
 ·split at h
  ·rename_i hp;have:=(yX hp.choose_spec).1;omega
  ·omega
section
variable {F F':uJ} {lo:Nat→Int}
theorem gZ (hF:Fle F F') {kn:List (Nat×SE)} (hk:Kn F F' lo kn): ∀{e:SE},D5 kn e=true→e.den (bM F lo)=e.den (bM F' lo)
 | .ap f a,h=>by simp only [D5,Bool.and_eq_true] at h;have ha:=gZ hF hk h.1;obtain⟨p,hp,hq⟩:=List.any_eq_true.1 h.2;simp only [Bool.and_eq_true] at hq;have h1:=Nat.eq_of_beq_eq_true hq.1;have h2:=bY _ _ hq.2;subst h2;obtain⟨k1,xs,ys,k2,k3⟩:=hk p hp;simp only [SE.den];rw [← k1,k2,h1,(oJ F lo p.1 xs).2,(oJ F' lo p.1 xs).2,k3,hF _ _ _ k3]
 | .op o a b,h=>by simp only [D5,Bool.and_eq_true] at h; simp only [SE.den,gZ hF hk h.1,gZ hF hk h.2]
 | .add a b,h=>by simp only [D5,Bool.and_eq_true] at h; simp only [SE.den,gZ hF hk h.1,gZ hF hk h.2]
 | .sub a b,h=>by simp only [D5,Bool.and_eq_true] at h; simp only [SE.den,gZ hF hk h.1,gZ hF hk h.2]
 | .mul a b,h=>by simp only [D5,Bool.and_eq_true] at h; simp only [SE.den,gZ hF hk h.1,gZ hF hk h.2]
 | .quo a b,h=>by simp only [D5,Bool.and_eq_true] at h; simp only [SE.den,gZ hF hk h.1,gZ hF hk h.2]
 | .rem a b,h=>by simp only [D5,Bool.and_eq_true] at h; simp only [SE.den,gZ hF hk h.1,gZ hF hk h.2]
 | .wrap k a,h=>by simp only [D5] at h; simp only [SE.den,gZ hF hk h]
 | .inp _ _,h=>by simp [D5] at h
 | .lit _,_=>rfl
 | .dat _,_=>rfl
 | .aK i,h=>by have hi:i < 900:=Nat.lt_of_succ_le (by simpa [D5,Nat.blt] using h);simp only [SE.den];rw [wG hi,wG hi]
theorem F7 (hF:Fle F F') {kn:List (Nat×SE)} (hk:Kn F F' lo kn): ∀{c:SB},okC kn c=true→c.den (bM F lo)=c.den (bM F' lo)
 | .lit _,_=>rfl
 | .lt a b,h=>by simp only [okC,Bool.and_eq_true] at h; simp only [SB.den,gZ hF hk h.1,gZ hF hk h.2]
 | .le a b,h=>by simp only [okC,Bool.and_eq_true] at h; simp only [SB.den,gZ hF hk h.1,gZ hF hk h.2]
 | .eq a b,h=>by simp only [okC,Bool.and_eq_true] at h; simp only [SB.den,gZ hF hk h.1,gZ hF hk h.2]
 | .not a,h=>by simp only [okC] at h; simp only [SB.den,F7 hF hk h]
 | .and a b,h=>by simp only [okC,Bool.and_eq_true] at h; simp only [SB.den,F7 hF hk h.1,F7 hF hk h.2]
theorem BF (hF:Fle F F') {kn:List (Nat×SE)} (hk:Kn F F' lo kn): ∀{es:List SE},alH kn es=true→es.map (SE.den (bM F lo))=es.map (SE.den (bM F' lo))
 | [],_=>rfl
 | e :: l,h=>by simp only [alH,Bool.and_eq_true] at h;simp only [List.map_cons,gZ hF hk h.1,BF hF hk h.2]
theorem JF {c:SB} {p:Nat×SE} (h:callOf c=some p):c= .eq (.ap (2*p.1) p.2) (.lit 1):=by
 cases c with
 | eq x y=>
   cases x with
   | ap f a=>
     cases y with
     | lit n=>
       simp only [callOf] at h;split at h
       ·rename_i hb;simp only [Option.some.injEq] at h;simp only [Bool.and_eq_true] at hb;have h1:=Dy hb.1;have h2:=Nat.eq_of_beq_eq_true hb.2;subst h;show SB.eq (.ap f a) (.lit n)= .eq (.ap (2*(f / 2)) a) (.lit 1);rw [show 2*(f / 2)=f by omega,h1]
       ·simp at h
     | _=>simp [callOf] at h
   | _=>simp [callOf] at h
 | _=>simp [callOf] at h
theorem FM (hF:Fle F F'): ∀{t:T Lf} {kn:List (Nat×SE)},Kn F F' lo kn→Yi kn t=true→dX (bM F lo) t≠.no→dX (bM F' lo) t=dX (bM F lo) t
 | .fail,_,_,_,h=>absurd rfl h
 | .ret (.out es),_,hk,ho,_=>by simp only [Yi] at ho; simp only [dX,BF hF hk ho]
 | .ret (.jump j es),_,hk,ho,_=>by simp only [Yi] at ho; simp only [dX,BF hF hk ho]
 | .split c x y,kn,hk,ho,h=>by
   simp only [Yi] at ho;split at ho
   ·rename_i p hp;simp only [Bool.and_eq_true] at ho;obtain⟨⟨h1,h2⟩,h3⟩:=ho;have hc:=JF hp;subst hc
    have hy:y= .fail:=by cases y <;> simp [aBi] at h3 <;> rfl
    subst hy;have hd:=gZ hF hk h1;simp only [dX,SB.den,SE.den] at h ⊢;by_cases h4:bM F lo (kP (2*p.1) (p.2.den (bM F lo)))=1
    ·obtain⟨xs,ys,e1,e2⟩:=SA h4;have e3:=hF _ _ _ e2
     have h5:bM F' lo (kP (2*p.1) (p.2.den (bM F' lo)))=1:=by rw [← hd,e1,(oJ F' lo p.1 xs).1,e3];rfl
     have c4:(bM F lo (kP (2*p.1) (p.2.den (bM F lo))) == 1)=true:=by rw [h4]; rfl
     have c5:(bM F' lo (kP (2*p.1) (p.2.den (bM F' lo))) == 1)=true:=by rw [h5]; rfl
     simp only [c4,c5,if_true] at h ⊢;refine FM hF (kn:=p :: kn) ?_ h2 h;intro q hq;rcases List.mem_cons.1 hq with rfl | hq
     ·exact⟨hd,xs,ys,e1,e2⟩
     ·exact hk q hq
    ·have c4:(bM F lo (kP (2*p.1) (p.2.den (bM F lo))) == 1)=false:=by simpa using h4
     simp only [c4,Bool.false_eq_true,if_false] at h;exact absurd rfl h
   ·simp only [Bool.and_eq_true] at ho;obtain⟨⟨h1,h2⟩,h3⟩:=ho;have hc:=F7 hF hk h1;simp only [dX] at h ⊢;rw [← hc];by_cases h4:c.den (bM F lo)=true
    ·rw [if_pos h4] at h ⊢;rw [if_pos h4];exact FM hF hk h2 h
    ·rw [if_neg h4] at h ⊢;rw [if_neg h4];exact FM hF hk h3 h
end
section
variable {tree:Nat→T Lf} (hok: ∀j,Yi [] (tree j)=true)
include hok
theorem QB {n:Nat} {F':uJ} (hF:Fle (eX tree n) F') {j:Nat} {xs ys:List Int} (h:eX tree (n+1) j xs=some ys) :
 (match dX (bM F' (low xs)) (tree j) with
 | .no=>none
 | .out ys=>some ys
 | .jump j' xs'=>F' j' xs')=some ys:=by
 rw [FV] at h
 have hne:dX (bM (eX tree n) (low xs)) (tree j)≠.no:=by intro he;rw [he] at h;simp at h
 rw [FM hF (kn:=[]) (by intro p hp; simp at hp) (hok j) hne];split at h
 ·simp at h
 ·rename_i heq; exact h
 ·rename_i heq; exact hF _ _ _ h
theorem QC: ∀n,Fle (eX tree n) (eX tree (n+1))
 | 0=>fun j xs ys h=>by simp [eX] at h
 | n+1=>fun j xs ys h=>by rw [FV (n:=n+1)];exact QB hok (QC n) h
theorem FW {n m:Nat} (h:n≤m):Fle (eX tree n) (eX tree m):=by
 induction h with
 | refl=>exact fun _ _ _ h=>h
 | step _ ih=>exact fun j xs ys h=>QC hok _ _ _ _ (ih _ _ _ h)
end
open Classical in
noncomputable def lim' (tree:Nat→T Lf):uJ:=fun j xs=>if h: ∃n ys,eX tree n j xs=some ys then some h.choose_spec.choose else none
section
variable {tree:Nat→T Lf} (hok: ∀j,Yi [] (tree j)=true)
include hok
theorem Ze {n j:Nat} {xs ys:List Int} (h:eX tree n j xs=some ys):lim' tree j xs=some ys:=by unfold lim';have he: ∃n ys,eX tree n j xs=some ys:=⟨n,ys,h⟩;rw [dif_pos he];have h2:=he.choose_spec.choose_spec;have h3:=FW hok (Nat.le_max_left n he.choose) _ _ _ h;have h4:=FW hok (Nat.le_max_right n he.choose) _ _ _ h2;rw [h3] at h4;exact h4.symm
omit hok in
theorem UC {j:Nat} {xs ys:List Int} (h:lim' tree j xs=some ys): ∃n,eX tree n j xs=some ys:=by
 unfold lim' at h;split at h
 ·rename_i he;simp only [Option.some.injEq] at h;exact⟨he.choose,by rw [← h]; exact he.choose_spec.choose_spec⟩
 ·simp at h
theorem Nk (n:Nat):Fle (eX tree n) (lim' tree):=fun _ _ _ h=>Ze hok h
def KnS (tree:Nat→T Lf) (n0:Nat) (lo:Nat→Int) (kn:List (Nat×SE)):Prop:= ∀m,n0≤m→Kn (eX tree m) (lim' tree) lo kn
theorem Bg {lo:Nat→Int}: ∀{t:T Lf} {kn:List (Nat×SE)} (n0:Nat),KnS tree n0 lo kn→Yi kn t=true→dX (bM (lim' tree) lo) t≠.no→∃n,∀m,n≤m→dX (bM (eX tree m) lo) t=dX (bM (lim' tree) lo) t
 | .fail,_,_,_,_,h=>absurd rfl h
 | .ret (.out es),_,n0,hk,ho,_=> ⟨n0,fun m hm=>by simp only [Yi] at ho; simp only [dX,BF (Nk hok m) (hk m hm) ho]⟩
 | .ret (.jump j es),_,n0,hk,ho,_=> ⟨n0,fun m hm=>by simp only [Yi] at ho; simp only [dX,BF (Nk hok m) (hk m hm) ho]⟩
 | .split c x y,kn,n0,hk,ho,h=>by
   simp only [Yi] at ho;split at ho
   ·rename_i p hp;simp only [Bool.and_eq_true] at ho;obtain⟨⟨h1,h2⟩,h3⟩:=ho;have hc:=JF hp;subst hc
    have hy:y= .fail:=by cases y <;> simp [aBi] at h3 <;> rfl
    subst hy;have hd: ∀m,n0≤m→p.2.den (bM (eX tree m) lo)=p.2.den (bM (lim' tree) lo):=fun m hm=>gZ (Nk hok m) (hk m hm) h1;simp only [dX,SB.den,SE.den] at h ⊢;by_cases h4:bM (lim' tree) lo (kP (2*p.1) (p.2.den (bM (lim' tree) lo)))=1
    ·have c4:(bM (lim' tree) lo (kP (2*p.1) (p.2.den (bM (lim' tree) lo))) == 1)=true:=by rw [h4]; rfl
     obtain⟨xs,ys,e1,e2⟩:=SA h4;obtain⟨n1,e3⟩:=UC e2;simp only [c4,if_true] at h ⊢
     have hk2:KnS tree (max n0 n1) lo (p :: kn):=by
      intro m hm q hq;rcases List.mem_cons.1 hq with rfl | hq
      ·refine⟨hd m (by omega),xs,ys,by rw [hd m (by omega)]; exact e1,FW hok (show n1≤m by omega) _ _ _ e3⟩
      ·exact hk m (by omega) q hq
     obtain⟨n2,h5⟩:=Bg (max n0 n1) hk2 h2 h;refine⟨max (max n0 n1) n2,fun m hm=>?_⟩
     have c5:(bM (eX tree m) lo (kP (2*p.1) (p.2.den (bM (eX tree m) lo))) == 1)=true:=by rw [hd m (by omega),e1,(oJ (eX tree m) lo p.1 xs).1,FW hok (show n1≤m by omega) _ _ _ e3];rfl
     simp only [c5,if_true];exact h5 m (by omega)
    ·have c4:(bM (lim' tree) lo (kP (2*p.1) (p.2.den (bM (lim' tree) lo))) == 1)=false:=by simpa using h4
     simp only [c4,Bool.false_eq_true,if_false] at h;exact absurd rfl h
   ·simp only [Bool.and_eq_true] at ho;obtain⟨⟨h1,h2⟩,h3⟩:=ho;have hc: ∀m,n0≤m→c.den (bM (eX tree m) lo)=c.den (bM (lim' tree) lo):=fun m hm=>F7 (Nk hok m) (hk m hm) h1;simp only [dX] at h ⊢;by_cases h4:c.den (bM (lim' tree) lo)=true
    ·rw [if_pos h4] at h;obtain⟨n2,h5⟩:=Bg n0 hk h2 h;refine⟨max n0 n2,fun m hm=>?_⟩;rw [hc m (by omega),if_pos h4,if_pos h4];exact h5 m (by omega)
    ·rw [if_neg h4] at h;obtain⟨n2,h5⟩:=Bg n0 hk h3 h;refine⟨max n0 n2,fun m hm=>?_⟩;rw [hc m (by omega),if_neg h4,if_neg h4];exact h5 m (by omega)
noncomputable def fin (F:uJ):RS→Option (List Int)
 | .no=>none
 | .out ys=>some ys
 | .jump j xs=>F j xs
theorem aBb (j:Nat) (xs:List Int):lim' tree j xs=fin (lim' tree) (dX (bM (lim' tree) (low xs)) (tree j)):=by
 cases h:lim' tree j xs with
 | some ys=>
   obtain⟨n,hn⟩:=UC h
   cases n with
   | zero=>simp [eX] at hn
   | succ n=> have:=QB hok (Nk hok n) hn;rw [← this];cases dX (bM (lim' tree) (low xs)) (tree j) <;> rfl
 | none=>
   cases hs:dX (bM (lim' tree) (low xs)) (tree j) with
   | no=>rfl
   | out ys=>
     exfalso;obtain⟨n,hn⟩:=Bg hok (lo:=low xs) (t:=tree j) (kn:=[]) 0 (by intro m _ p hp; simp at hp) (hok j) (by rw [hs]; simp);have:eX tree (n+1) j xs=some ys:=by rw [FV,hn n (Nat.le_refl _),hs]
     rw [Ze hok this] at h;simp at h
   | jump j' xs'=>
     show none=lim' tree j' xs'
     cases h2:lim' tree j' xs' with
     | none=>rfl
     | some ys=>
       exfalso;obtain⟨n,hn⟩:=Bg hok (lo:=low xs) (t:=tree j) (kn:=[]) 0 (by intro m _ p hp; simp at hp) (hok j) (by rw [hs]; simp);obtain⟨n2,h3⟩:=UC h2
       have:eX tree (max n n2+1) j xs=some ys:=by rw [FV,hn _ (Nat.le_max_left _ _),hs];exact FW hok (Nat.le_max_right n n2) _ _ _ h3
       rw [Ze hok this] at h;simp at h
end
end Go.As
end
section
namespace Go.As
open Go.RowKit
theorem aeP {S:ahM} {j:Nat} (h:AU S.t j=none):Yi [] (S.sys.tree j)=true:=by
 have:S.sys.tree j= .fail:=by unfold Sys.tree;show (match AU S.t j with | none=>T.fail | some e=>sN S.sys e)=_;rw [h]
 rw [this];rfl
def amO (j:Nat):List Nat→Bool
 | []=>false
 | i :: l=>match Nat.beq i j with
   | true=>true
   | false=>amO j l
theorem Xd {j:Nat}: ∀{l:List Nat},amO j l=true→j∈l
 | [],h=>by simp [amO] at h
 | i :: l,h=>by
   simp only [amO] at h;split at h
   ·rename_i hb;rw [Nat.eq_of_beq_eq_true hb];simp
   ·exact List.mem_cons_of_mem _ (Xd h)
def aAk (t:Nat→Option FE) (N:Nat) (l:List Nat):Bool:=(List.range N).all fun k=>match t k with
 | none=>true
 | some f=>(List.range (f.loops.length+1)).all fun i=>amO (50*k+i) l
theorem cov {t:Nat→Option FE} {N:Nat} {l:List Nat} (h:aAk t N l=true) (hN: ∀k,N≤k→t k=none) {j:Nat} {e:Ib} (he:AU t j=some e):j∈l:=by
 unfold AU at he;split at he
 ·simp at he
 ·rename_i f hf
  have hk:j / 50 < N:=by
   rcases Nat.lt_or_ge (j / 50) N with h1 | h1
   ·exact h1
   ·rw [hN _ h1] at hf; simp at hf
  have:=List.all_eq_true.1 h _ (List.mem_range.2 hk);rw [hf] at this
  have hm:j % 50 < f.loops.length+1:=by
   split at he
   ·omega
   ·rename_i i hi;split at he
    ·rename_i x hx;rw [dB] at hx;have:=(List.getElem?_eq_some_iff.1 hx).1;omega
    ·simp at he
  have:=Xd (List.all_eq_true.1 this _ (List.mem_range.2 hm));rwa [show 50*(j / 50)+j % 50=j by omega] at this
theorem amD {α:Type} {n:Nat} {t:Tr α} {k:Nat} (h:n≤k):lim n t k=none:=by unfold lim;rw [Nat.ble_eq_true_of_le h]
section
variable {F:uJ} {lo:Nat→Int} {ρ:Nat→Int} {xs:List Int}
theorem dP (c:SB) (a b:T Lf):dX ρ (sp c a b)=if c.den ρ=true then dX ρ a else dX ρ b:=rfl
theorem jU (l:List SE):dX ρ (ou l)= .out (l.map (SE.den ρ)):=rfl
theorem pF (j:Nat) (l:List SE):dX ρ (ju j l)= .jump j (l.map (SE.den ρ)):=rfl
theorem zF:dX ρ fl= .no:=rfl
theorem aP {i:Nat} (h:i < 900):(SE.aK i).den (bM F lo)=lo i:=wG h
theorem aN (x:Int):low (x :: xs) 0=x:=rfl
theorem aO (x:Int) (i:Nat):low (x :: xs) (i+1)=low xs i:=rfl
theorem bP (n:Int):(SE.lit n).den ρ=n:=rfl
theorem iU (d:D):(SE.dat d).den ρ=enc d:=rfl
theorem den_add (a b:SE):(SE.add a b).den ρ=a.den ρ+b.den ρ:=rfl
theorem awJ (a b:SE):(SE.sub a b).den ρ=a.den ρ - b.den ρ:=rfl
theorem Ci (a:SE):(wr a).den ρ=IntKind.i64.wrap (a.den ρ):=rfl
theorem I5 (a:SE):(nm a).den ρ=(dec (a.den ρ)).n:=rfl
theorem Ot (a:SE):(mk a).den ρ=enc (.i (a.den ρ)):=rfl
theorem iC (a:SE):(ln a).den ρ=((dec (a.den ρ)).l.length:Int):=rfl
theorem aqH (j:Nat) (a:SE):(ce j a).den ρ=enc ((dec (a.den ρ)).hd j):=rfl
theorem I7 (a b:SE):(el a b).den ρ=enc ((dec (a.den ρ)).at (b.den ρ)):=rfl
theorem Ou (a b:SE):(cn a b).den ρ=enc (.p (dec (a.den ρ)) (dec (b.den ρ))):=rfl
theorem Oq (o:iL) (a b:SE):(SE.op o a b).den ρ=o.den (a.den ρ) (b.den ρ):=rfl
theorem iK (j:Nat) (l:List SE):(a0 j l).den (bM F lo)=if (F j (l.map (SE.den (bM F lo)))).isSome=true then 1 else 0:=by unfold a0;show bM F lo (kP (2*j) ((iI l).den (bM F lo)))=_;rw [lJ,(oJ F lo j _).1]
theorem gQ (j:Nat) (l:List SE) (i:Nat):(rr j l i).den (bM F lo)=low ((F j (l.map (SE.den (bM F lo)))).getD []) i:=by unfold rr uP;show (dec (enc ((dec (bM F lo (kP (2*j+1) ((iI l).den (bM F lo))))).hd i))).n=_;rw [lJ,(oJ F lo j _).2,aC];simp only [qQ,aC,D.hd,aT,List.getElem?_map];unfold low;rw [List.getD_eq_getElem?_getD];cases ((F j (l.map (SE.den (bM F lo)))).getD [])[i]? <;> rfl
theorem iO (a b:SE):((SB.eq a b).den ρ=true)=(a.den ρ=b.den ρ):=by simp [SB.den]
theorem oM (a b:SE):((SB.lt a b).den ρ=true)=(a.den ρ < b.den ρ):=by simp [SB.den]
theorem L6 (a:SB):((SB.not a).den ρ=true)= ¬(a.den ρ=true):=by simp [SB.den]
end
end Go.As
end
section
namespace Go.As
open Go.RowKit
def iP:IntKind→Int→Prop
 | .i64,n=> -9223372036854775808≤n∧n≤9223372036854775807
 | .u8,n=>0≤n∧n≤255
 | _,_=>True
def yV:Nat→Nat
 | 0=>8
 | 1=>8
 | 2=>16
 | 3=>56
 | 4=>64
 | 5=>64
 | 6=>56
 | 7=>80
 | 8=>64
 | 9=>40
 | 10=>24
 | 11=>24
 | 12=>16
 | 13=>40
 | 14=>1
 | 15=>24
 | 16=>48
 | _=>1
theorem aqY (t:Nat):1≤yV t:=by unfold yV;split <;> omega
inductive Wd:CK→D→Prop where
 | int (k:IntKind) (n:Int) (h:iP k n):Wd (.int k) (.i n)
 | bool (b:Bool):Wd .bool (.i (if b then 1 else 0))
 | str (s:ByteArray) (h:s.size≤140737488351232):Wd .str (Aw s)
 | nil (t:Nat):Wd (.sl t) (.i 1)
 | non (t:Nat):Wd (.sl t) (.i 2)
 | one (t:Nat) (c:CK) (ds:List D) (hr:rowOf t= .one c) (hn:ds≠[]) (hm:ds.length*yV t≤140737488351232) (h: ∀d∈ds,Wd c d):Wd (.sl t) (dL ds)
 | many (t:Nat) (cs:List CK) (rows:List (List D)) (hr:rowOf t= .many cs) (hn:rows≠[]) (hm:rows.length*yV t≤140737488351232) (hl: ∀r∈rows,r.length=cs.length)
  (h: ∀r∈rows,∀(j:Nat) (d:D) (c:CK),r[j]?=some d→cs[j]?=some c→Wd c d):Wd (.sl t) (dL (rows.map dL))
def Sh (d:D):Prop:=d= .i 1∨d= .i 2∨(d=dL d.l∧d.l≠[])
theorem Wd.sh {t:Nat} {d:D} (h:Wd (.sl t) d):Sh d:=by
 cases h with
 | nil=>exact .inl rfl
 | non=>exact .inr (.inl rfl)
 | one _ c ds hr hn hm h=>exact .inr (.inr ⟨by rw [aT],by rw [aT]; exact hn⟩)
 | many _ cs rows hr hn hm hl h=>exact .inr (.inr ⟨by rw [aT],by rw [aT]; simpa using hn⟩)
theorem Wd.i {k:IntKind} {d:D} (h:Wd (.int k) d): ∃n,d= .i n∧iP k n:=by
 cases h with
 | int _ n h=>exact⟨n,rfl,h⟩
theorem Wd.b {d:D} (h:Wd .bool d):d= .i 0∨d= .i 1:=by
 cases h with
 | bool b=>cases b <;> simp
theorem Wd.s {d:D} (h:Wd .str d): ∃s,d=Aw s:=by
 cases h with
 | str s=>exact⟨s,rfl⟩
theorem Wd.room {t:Nat} {d:D} (h:Wd (.sl t) d):d.l.length*yV t≤140737488351232:=by
 cases h with
 | nil=>simp [D.l]
 | non=>simp [D.l]
 | one _ c ds hr hn hm h=>rw [aT]; exact hm
 | many _ cs rows hr hn hm hl h=>rw [aT,List.length_map]; exact hm
theorem Wd.len {t:Nat} {d:D} (h:Wd (.sl t) d):d.l.length≤140737488351232:=
 Nat.le_trans (Nat.le_mul_of_pos_right _ (aqY t)) h.room
theorem Wd.el1 {t:Nat} {c:CK} {d:D} (h:Wd (.sl t) d) (hr:rowOf t= .one c): ∀x∈d.l,Wd c x:=by
 cases h with
 | nil=>intro x hx; simp [D.l] at hx
 | non=>intro x hx; simp [D.l] at hx
 | one _ c' ds hr' hn hm h=> rw [hr] at hr';simp only [Row.one.injEq] at hr';subst hr';intro x hx;rw [aT] at hx;exact h x hx
 | many _ cs rows hr' hn hm hl h=>rw [hr] at hr'; simp at hr'
theorem Wd.elN {t:Nat} {cs:List CK} {d:D} (h:Wd (.sl t) d) (hr:rowOf t= .many cs): ∀x∈d.l,∃r,x=dL r∧r.length=cs.length∧∀(j:Nat) (y:D) (c:CK),r[j]?=some y→cs[j]?=some c→Wd c y:=by
 cases h with
 | nil=>intro x hx; simp [D.l] at hx
 | non=>intro x hx; simp [D.l] at hx
 | one _ c' ds hr' hn hm h=>rw [hr] at hr'; simp at hr'
 | many _ cs' rows hr' hn hm hl h=> rw [hr] at hr';simp only [Row.many.injEq] at hr';subst hr';intro x hx;rw [aT] at hx;obtain⟨r,h1,rfl⟩:=List.mem_map.1 hx;exact⟨r,rfl,hl r h1,fun j y c h2 h3=>h r h1 j y c h2 h3⟩
def isDecl (x:D):Prop:= ∃(k n ln:Int) (s s':ByteArray),x=dL [.i k,Aw s,.i n,Aw s',.i ln]∧iP .u8 k∧iP .i64 n∧iP .i64 ln
def Dx (x:D):Prop:= ∃(o c d g:Int) (r v:D),x=dL [.i o,.i c,.i d,.i g,r,v]∧iP .i64 o∧iP .i64 c∧(d=0∨d=1)∧iP .i64 g∧Wd (.sl 0) r∧Wd (.sl 0) v
theorem five {α:Type} {r:List α} (h:r.length=5): ∃a b c d e,r= [a,b,c,d,e]:=by
 match r,h with
 | [a,b,c,d,e],_=>exact⟨a,b,c,d,e,rfl⟩
theorem six {α:Type} {r:List α} (h:r.length=6): ∃a b c d e f,r= [a,b,c,d,e,f]:=by
 match r,h with
 | [a,b,c,d,e,f],_=>exact⟨a,b,c,d,e,f,rfl⟩
theorem Wd.decl {d:D} (h:Wd (.sl 3) d): ∀x∈d.l,isDecl x:=by intro x hx;obtain⟨r,rfl,hl,hc⟩:=h.elN (cs:=[.int .u8,.str,.int .i64,.str,.int .i64]) rfl x hx;obtain⟨a,b,c,d,e,rfl⟩:=five hl;obtain⟨k,rfl,hk⟩:=(hc 0 _ _ rfl rfl).i;obtain⟨s,rfl⟩:=(hc 1 _ _ rfl rfl).s;obtain⟨n,rfl,hn⟩:=(hc 2 _ _ rfl rfl).i;obtain⟨s',rfl⟩:=(hc 3 _ _ rfl rfl).s;obtain⟨ln,rfl,hln⟩:=(hc 4 _ _ rfl rfl).i;exact⟨k,n,ln,s,s',rfl,hk,hn,hln⟩
theorem Wd.thing {d:D} (h:Wd (.sl 7) d): ∀x∈d.l,Dx x:=by
 intro x hx;obtain⟨r,rfl,hl,hc⟩:=h.elN (cs:=[.int .i64,.int .i64,.bool,.int .i64,.sl 0,.sl 0]) rfl x hx;obtain⟨a,b,c,d,e,f,rfl⟩:=six hl;obtain⟨o,rfl,ho⟩:=(hc 0 _ _ rfl rfl).i;obtain⟨k,rfl,hk⟩:=(hc 1 _ _ rfl rfl).i;obtain⟨g,rfl,hg⟩:=(hc 3 _ _ rfl rfl).i;rcases (hc 2 _ _ rfl rfl).b with rfl | rfl
 ·exact⟨o,k,0,g,e,f,rfl,ho,hk,.inl rfl,hg,hc 4 _ _ rfl rfl,hc 5 _ _ rfl rfl⟩
 ·exact⟨o,k,1,g,e,f,rfl,ho,hk,.inr rfl,hg,hc 4 _ _ rfl rfl,hc 5 _ _ rfl rfl⟩
theorem qE {z:Int} (h1: -9223372036854775808≤z) (h2:z≤9223372036854775807):IntKind.i64.wrap z=z:=IntWalk.i64_in z ⟨h1,h2⟩
theorem bC {n:Nat} (h:n < 9223372036854775807):IntKind.i64.wrap ((n:Int)+1)=((n+1:Nat):Int):=by rw [qE (by omega) (by omega)]; omega
theorem WO (n:Int):(D.i n).n=n:=rfl
theorem l_p (a b:D):(D.p a b).l=a :: b.l:=rfl
theorem Ba (n:Int):(D.i n).l= []:=rfl
theorem gU (l:List D) (j:Nat):(dL l).hd j=(l[j]?).getD (.i 0):=by unfold D.hd; rw [aT]
theorem rG (d:D) (i:Nat):d.at (i:Int)=(d.l[i]?).getD (.i 0):=rfl
theorem aZ {d:D} {i:Nat} (h:i < d.l.length):d.at (i:Int)=d.l[i]:=by rw [rG,List.getElem?_eq_getElem h];rfl
end Go.As
end
section
namespace Go.As
open Go Go.RowKit
theorem add_add (a:Addr) (m n:Nat):(a.add m).add n=a.add (m+n):=by
 unfold Addr.add;by_cases h1:m=0
 ·subst h1; simp
 ·by_cases h2:n=0
  ·subst h2; simp
  ·simp [h1,h2,Nat.add_assoc]
def oN (i:Nat):List CK:=match rowOf i with
 | .one c=>[c]
 | .many cs=>cs
def NQ (F:TypeId→Option (List CK)) (P:Program):List Field→Nat→Nat→Option (List CK)
 | [],o,tot=>if o=tot then some [] else none
 | f :: fs,o,tot=>match F f.type with
   | none=>none
   | some cs=>if f.offset=o∧P.cellsOf f.type=cs.length then (match NQ F P fs (o+cs.length) tot with
     | none=>none
     | some l=>some (cs++l)) else none
def yQ (P:Program) (own:TypeId→Option Nat):Nat→TypeId→Option (List CK)
 | 0,_=>none
 | n+1,t=>match P.underlying t with
   | some .bool=>some [.bool]
   | some (.int k)=>some [.int k]
   | some .string=>some [.str]
   | some (.slice _)=>match own t with
     | some i=>some [.sl i]
     | none=>none
   | some (.struct fs)=>NQ (yQ P own n) P fs.toList 0 (P.cellsOf t)
   | some (.array m e)=>match yQ P own n e with
     | some cs=>if P.cellsOf e=cs.length∧P.cellsOf t=m*cs.length then some (List.replicate m cs).flatten else none
     | none=>none
   | _=>none
def arP (P:Program) (own:TypeId→Option Nat):Prop:= ∀t i,own t=some i→∃e n,P.underlying t=some (.slice e)∧yQ P own n e=some (oN i)∧P.cellsOf e=(oN i).length∧yV i≤P.bytesOf e∧0 < (oN i).length
inductive Rs (ro:Nat→Prop) (h:Array Obj):List CK→List D→List Value→Prop where
 | nil:Rs ro h [] [] []
 | cons {c:CK} {d:D} {v:Value} {cs:List CK} {ds:List D} {vs:List Value} (r:Rd ro h c d v) (w:Wd c d) (t:Rs ro h cs ds vs):Rs ro h (c :: cs) (d :: ds) (v :: vs)
section
variable {ro:Nat→Prop} {h:Array Obj}
theorem Rs.append {cs cs':List CK} {ds ds':List D} {vs vs':List Value} (a:Rs ro h cs ds vs) (b:Rs ro h cs' ds' vs'):Rs ro h (cs++cs') (ds++ds') (vs++vs'):=by
 induction a with
 | nil=>exact b
 | cons r w _ ih=>exact .cons r w ih
theorem Rs.len {cs:List CK} {ds:List D} {vs:List Value} (a:Rs ro h cs ds vs):ds.length=cs.length∧vs.length=cs.length:=by
 induction a with
 | nil=>exact⟨rfl,rfl⟩
 | cons r w _ ih=>exact⟨by simp [ih.1],by simp [ih.2]⟩
theorem Rs.at {cs:List CK} {ds:List D} {vs:List Value} (a:Rs ro h cs ds vs): ∀{j:Nat} {d:D} {c:CK},ds[j]?=some d→cs[j]?=some c→∃v,vs[j]?=some v∧Rd ro h c d v∧Wd c d:=by
 induction a with
 | nil=>intro j d c h1 _; simp at h1
 | cons r w _ ih=>
   intro j d c h1 h2
   cases j with
   | zero=> simp only [List.getElem?_cons_zero,Option.some.injEq] at h1 h2;subst h1 h2;exact⟨_,rfl,r,w⟩
   | succ j=> simp only [List.getElem?_cons_succ] at h1 h2;obtain⟨v,h3,h4⟩:=ih h1 h2;exact⟨v,by simpa using h3,h4⟩
end
theorem awT {l:List Nat} {m:Nat} (h:l.all (·≤m)=true): ∀x∈l,x≤m:=fun x hx=>by simpa using List.all_eq_true.1 h x hx
theorem Y6 {l:List Nat} {m:Nat} (h: ∀x∈l,x≤m):l.all (·≤m)=true:=List.all_eq_true.2 fun x hx=>by simpa using h x hx
theorem awS {l l':List Nat} {m:Nat} (h:l.all (·≤m)=true) (s: ∀x∈l',x∈l):l'.all (·≤m)=true:=Y6 fun x hx=>awT h x (s x hx)
theorem weightsAll_mem {H:Type} {P:Program} {e:TypeId}: ∀{l:List (DataW H)} {d:DataW H},d∈l→∀x∈d.weights P e,x∈DataW.weightsAll P e l
 | [],_,h,_,_=>by simp at h
 | d' :: l,d,h,x,hx=>by
   simp only [DataW.weightsAll,List.mem_append];rcases List.mem_cons.1 h with rfl | h
   ·exact .inl hx
   ·exact .inr (weightsAll_mem h x hx)
section
variable {P:Program} {own:TypeId→Option Nat} (ok:arP P own) {H:Type} {en:TypeId×Value→H} {W:World}
abbrev QG (W:World):Nat→Prop:=fun b=>b < W.heap.size
theorem aeH {b o:Nat} {v:Value} (h:W.cell? ⟨b,o,none⟩ = some v):b < W.heap.size:=by
 rw [uG] at h;unfold hcell at h;split at h
 ·rename_i hb;exact (Array.getElem?_eq_some_iff.1 hb).1
 ·simp at h
def Reads (P:Program) (own:TypeId→Option Nat) (en:TypeId×Value→H) (W:World) (fuel:Nat):Prop:=
 ∀(t:TypeId) (n:Nat) (Py:List CK) (cs:List Value) (x:DataW H×List MemPlace),yQ P own n t=some Py→DataW.trod en P W 0 (fun _=>true) true fuel t cs=some x→(x.1.weights P t).all (·≤reachBytes)=true→∃ds,Rs (QG W) W.heap Py ds cs
theorem Jo {fuel:Nat} (ih:Reads P own en W fuel) {n:Nat} {cs:List Value} {tot:Nat} (hl:cs.length=tot): ∀(fs:List Field) (o:Nat) (Py:List CK) (xs:List (DataW H×List MemPlace)),NQ (yQ P own n) P fs o tot=some Py→xs.length=fs.length→
 (∀(i:Nat) (f:Field),fs[i]?=some f→DataW.trod en P W 0 (fun _=>true) true fuel f.type ((cs.drop f.offset).take (P.cellsOf f.type))=xs[i]?)→
 (DataW.weightsEach P (fs.map (·.type)) (xs.map (·.1))).all (·≤reachBytes)=true→∃ds,Rs (QG W) W.heap Py ds (cs.drop o)
 | [],o,Py,xs,hf,_,_,_=>by
   simp only [NQ] at hf;split at hf
   ·rename_i ho;simp only [Option.some.injEq] at hf;subst hf;rw [List.drop_of_length_le (by omega)];exact⟨[],.nil⟩
   ·simp at hf
 | f :: fs,o,Py,[],_,hx,_,_=>by simp at hx
 | f :: fs,o,Py,x :: xs,hf,hx,ht,hw=>by
   simp only [NQ] at hf;split at hf
   ·simp at hf
   ·rename_i c1 h1;split at hf
    ·rename_i ho;split at hf
     ·simp at hf
     ·rename_i l hl2;simp only [Option.some.injEq] at hf;subst hf;have h0:=ht 0 f rfl;rw [ho.1,ho.2] at h0;simp only [List.map_cons,DataW.weightsEach,List.all_append,Bool.and_eq_true] at hw;obtain⟨ds,r1⟩:=ih f.type n c1 _ x h1 h0 hw.1;obtain⟨ds',r2⟩:=Jo ih hl fs (o+c1.length) l xs hl2 (by simpa using hx) (fun i g hg=>ht (i+1) g (by simpa using hg)) hw.2;refine⟨ds++ds',?_⟩
      have e:cs.drop o=(cs.drop o).take c1.length++cs.drop (o+c1.length):=by rw [← List.drop_drop,List.take_append_drop]
      rw [e];exact r1.append r2
    ·simp at hf
include ok in
theorem Wu {fuel:Nat} (ih:Reads P own en W fuel) {t e:TypeId} {i:Nat} (ht:P.underlying t=some (.slice e)) (ho:own t=some i) {cs:List Value} {x:DataW H×List MemPlace} (hx:DataW.trod en P W 0 (fun _=>true) true (fuel+1) t cs=some x) (hw:(x.1.weights P t).all (·≤reachBytes)=true) :
 ∃d v,cs= [v]∧Rd (QG W) W.heap (.sl i) d v∧Wd (.sl i) d:=by
 obtain⟨e',nf,ht',hfl,hce,hby,hpos⟩:=ok t i ho;rw [ht] at ht';simp only [Option.some.injEq,TypeDesc.slice.injEq] at ht';subst ht';rcases DataW.trod_slice ht hx with ⟨rfl,rfl⟩ | ⟨a,len,cap,elems,rest,n,hn,rfl,rfl,_,hlc,_,hlen,hel,_,_⟩
 ·exact⟨.i 1,_,rfl,.nil i,.nil i⟩
 ·simp only [Nat.succ.injEq] at hn;subst hn;rcases Nat.eq_zero_or_pos len with h0 | h0
  ·subst h0;exact⟨.i 2,_,rfl,.non i a cap,.non i⟩
  ·simp only [DataW.weights,ht,List.all_cons,List.all_append,Bool.and_eq_true,decide_eq_true_eq,List.length_map] at hw
   have row: ∀k,k < len→∃cs ds,W.cells? 0 (a.add (k*(oN i).length)) (oN i).length=some cs∧Rs (QG W) W.heap (oN i) ds cs:=by intro k hk;have he:=hel k hk;rw [List.getElem?_eq_getElem (by omega),hce,Option.bind_eq_some_iff] at he;obtain⟨cs,h1,h2⟩:=he;obtain⟨ds,hr⟩:=ih e nf (oN i) cs _ hfl h2 (awS hw.2.1 (weightsAll_mem (List.mem_map_of_mem (List.getElem_mem _))));exact⟨cs,ds,h1,hr⟩
   obtain⟨b,o,spot⟩:=a
   have hspot:spot=none:=by obtain⟨cs,ds,h1,hr⟩:=row 0 h0;obtain⟨_,h4,h5⟩:=World.cells?_some h1;have:=h5 0 hpos;rw [List.getElem?_eq_getElem (by omega)] at this;simpa [Addr.add] using World.cell?_spot this
   subst hspot
   have cell: ∀k,k < len→∃ds vs,Rs (QG W) W.heap (oN i) ds vs∧∀j,j < (oN i).length→hcell W.heap b (o+k*(oN i).length+j)=vs[j]?:=by
    intro k hk;obtain⟨cs,ds,h1,hr⟩:=row k hk;obtain⟨_,h4,h5⟩:=World.cells?_some h1;refine⟨ds,cs,hr,fun j hj=>?_⟩;have:=h5 j hj;rw [add_add] at this;have e2:(Addr.mk b o none).add (k*(oN i).length+j)=⟨b,o+k*(oN i).length+j,none⟩:=by simp [Addr.add,Nat.add_assoc]
    rw [e2,uG] at this;exact this
   have hb:b < W.heap.size:=by obtain⟨ds,vs,hr,hc⟩:=cell 0 h0;have:=hc 0 hpos;rw [List.getElem?_eq_getElem (by rw [hr.len.2]; exact hpos),← uG] at this;exact aeH this
   have ayN:len*yV i≤140737488351232:=by
    have h1:(elems.length+rest.length)*P.bytesOf e≤reachBytes:=hw.1
    have h2:len*yV i≤(elems.length+rest.length)*P.bytesOf e:=Nat.mul_le_mul (by omega) hby
    have h3:reachBytes=140737488351232:=rfl;omega
   classical
   let ds:Nat→List D:=fun k=>if h:k < len then (cell k h).choose else [];let vs:Nat→List Value:=fun k=>if h:k < len then (cell k h).choose_spec.choose else []
   have spec: ∀k,k < len→Rs (QG W) W.heap (oN i) (ds k) (vs k)∧∀j,j < (oN i).length→hcell W.heap b (o+k*(oN i).length+j)=(vs k)[j]?:=by intro k hk;have e1:ds k=(cell k hk).choose:=dif_pos hk;have e2:vs k=(cell k hk).choose_spec.choose:=dif_pos hk;rw [e1,e2];exact (cell k hk).choose_spec.choose_spec
   have get: ∀{k:Nat} {r:List D},((List.range len).map ds)[k]?=some r→k < len∧r=ds k:=by
    intro k r hk;rw [List.getElem?_map] at hk
    have hk':k < len:=by
     rcases Nat.lt_or_ge k len with h | h
     ·exact h
     ·rw [List.getElem?_eq_none (by simpa using h)] at hk; simp at hk
    rw [List.getElem?_range hk'] at hk;simp only [Option.map_some,Option.some.injEq] at hk;exact⟨hk',hk.symm⟩
   cases hrow:rowOf i with
   | one c=>
     have hks:oN i= [c]:=by unfold oN; rw [hrow]
     have aDS: ∀{k:Nat} {d:D},((List.range len).map fun k=>(ds k).headD (.i 0))[k]?=some d→k < len∧d=(ds k).headD (.i 0):=by
      intro k d hk;rw [List.getElem?_map] at hk
      have hk':k < len:=by
       rcases Nat.lt_or_ge k len with h | h
       ·exact h
       ·rw [List.getElem?_eq_none (by simpa using h)] at hk; simp at hk
      rw [List.getElem?_range hk'] at hk;simp only [Option.map_some,Option.some.injEq] at hk;exact⟨hk',hk.symm⟩
     have sp1: ∀k,k < len→∃d v,ds k= [d]∧hcell W.heap b (o+k)=some v∧Rd (QG W) W.heap c d v∧Wd c d:=by
      intro k hk;obtain⟨hr,hc⟩:=spec k hk;rw [hks] at hr hc
      match hdk:ds k,hvk:vs k,hr with
      | [d],[v],.cons r w .nil=> have:=hc 0 (by simp);rw [hvk] at this;exact⟨d,v,rfl,by simpa using this,r,w⟩
     have e:len=((List.range len).map fun k=>(ds k).headD (.i 0)).length:=by simp
     have r:=Rd.one (ro:=QG W) (h:=W.heap) i c b o cap ((List.range len).map fun k=>(ds k).headD (.i 0)) (fun k=>(vs k).headD undef) hrow (by rw [← e]; exact hlc) hb
      (fun k d hd=>by
       obtain⟨hk,rfl⟩:=aDS hd;obtain⟨hr,hc⟩:=spec k hk;rw [hks] at hr hc;have:=hc 0 (by simp)
       match hdk:ds k,hvk:vs k,hr with
       | [d],[v],.cons r w .nil=>
         rw [hvk] at this
         simpa using this)
      (fun k d hd=>by
       obtain⟨hk,rfl⟩:=aDS hd;obtain⟨hr,hc⟩:=spec k hk;rw [hks] at hr
       match hdk:ds k,hvk:vs k,hr with
       | [d],[v],.cons r w .nil=>exact r)
     rw [← e] at r;refine⟨_,_,rfl,r,.one i c _ hrow (fun h=>by have:=congrArg List.length h; simp at this; omega) (by rw [← e]; exact ayN) fun d hd=>?_⟩;obtain⟨k,hk,rfl⟩:=List.mem_map.1 hd;obtain⟨d,v,h1,_,_,w⟩:=sp1 k (by simpa using hk);rw [h1];exact w
   | many Py=>
     have hks:oN i=Py:=by unfold oN; rw [hrow]
     have e:len=((List.range len).map ds).length:=by simp
     have hlr: ∀r∈(List.range len).map ds,r.length=Py.length:=by intro r hr;obtain⟨k,hk,rfl⟩:=List.mem_map.1 hr;have:=(spec k (by simpa using hk)).1.len.1;rw [hks] at this;exact this
     have r:=Rd.many (ro:=QG W) (h:=W.heap) i Py b o cap ((List.range len).map ds) (fun k j=>((vs k)[j]?).getD undef) hrow (by rw [← e]; exact hlc) hb hlr
      (fun k r j d hr hj=>by
       obtain⟨hk,rfl⟩:=get hr;obtain⟨hrs,hc⟩:=spec k hk;rw [hks] at hrs hc
       have hj':j < Py.length:=by have:=(List.getElem?_eq_some_iff.1 hj).1;rw [hrs.len.1] at this;exact this
       rw [hc j hj',List.getElem?_eq_getElem (by rw [hrs.len.2]; exact hj')]
       rfl)
      (fun k r j d c hr hj hcj=>by
       obtain⟨hk,rfl⟩:=get hr;obtain⟨hrs,hc⟩:=spec k hk;rw [hks] at hrs;obtain⟨v,h1,h2,_⟩:=hrs.at hj hcj;show Rd (QG W) W.heap c d (((vs k)[j]?).getD undef);rw [h1]
       exact h2)
     rw [← e] at r;refine⟨_,_,rfl,r,.many i Py _ hrow (fun h=>by have:=congrArg List.length h; simp at this; omega) (by rw [← e]; exact ayN) hlr fun r hr j d c hj hcj=>?_⟩;obtain⟨k,hk,rfl⟩:=List.mem_map.1 hr;have hrs:=(spec k (by simpa using hk)).1;rw [hks] at hrs;obtain⟨v,_,_,h3⟩:=hrs.at hj hcj;exact h3
theorem MC {fuel:Nat} (ih:Reads P own en W fuel) {n:Nat} {cs:List Value} {e:TypeId} {c1:List CK} (h1:yQ P own n e=some c1): ∀(xs:List (DataW H×List MemPlace)) (i:Nat),cs.length=(i+xs.length)*c1.length→
 (∀(j:Nat),j < xs.length→DataW.trod en P W 0 (fun _=>true) true fuel e ((cs.drop ((i+j)*c1.length)).take c1.length)=xs[j]?)→
 (DataW.weightsAll P e (xs.map (·.1))).all (·≤reachBytes)=true→∃ds,Rs (QG W) W.heap (List.replicate xs.length c1).flatten ds (cs.drop (i*c1.length))
 | [],i,hl,_,_=>by rw [List.drop_of_length_le (by rw [hl]; simp)];exact⟨[],.nil⟩
 | x :: xs,i,hl,ht,hw=>by
   have h0:=ht 0 (by simp);rw [Nat.add_zero] at h0;simp only [List.map_cons,DataW.weightsAll,List.all_append,Bool.and_eq_true] at hw;obtain⟨ds,r1⟩:=ih e n c1 _ x h1 h0 hw.1
   obtain⟨ds',r2⟩:=MC ih h1 xs (i+1) (by rw [hl,List.length_cons]; congr 1; omega) (fun j hj=>by
    have:=ht (j+1) (by simpa using hj);rw [show i+1+j=i+(j+1) by omega]
    simpa using this) hw.2
   refine⟨ds++ds',?_⟩
   have e1:cs.drop (i*c1.length)=(cs.drop (i*c1.length)).take c1.length++cs.drop ((i+1)*c1.length):=by rw [Nat.succ_mul,← List.drop_drop,List.take_append_drop]
   rw [e1,List.length_cons,List.replicate_succ,List.flatten_cons];exact r1.append r2
include ok in
theorem Ug: ∀fuel:Nat,Reads P own en W fuel
 | 0=>fun t n Py cs x _ hx _=>by simp [DataW.trod] at hx
 | fuel+1=>fun t n Py cs x hf hx hw=>by
   cases n with
   | zero=>simp [yQ] at hf
   | succ n=>
     unfold yQ at hf;split at hf
     ·rename_i ht;simp only [Option.some.injEq] at hf;subst hf;obtain⟨b,rfl,_⟩:=DataW.trod_bool ht hx;exact⟨_,.cons (.bool b) (.bool b) .nil⟩
     ·rename_i k ht;simp only [Option.some.injEq] at hf;subst hf;obtain⟨z,rfl,_,hwf⟩:=DataW.trod_int ht hx;refine⟨_,.cons (.int k z) (.int k z ?_) .nil⟩;simp only [Lit.wf,Bool.and_eq_true,decide_eq_true_eq] at hwf;cases k <;> first | exact hwf | trivial
     ·rename_i ht;simp only [Option.some.injEq] at hf;subst hf;obtain⟨s,rfl,rfl,_⟩:=DataW.trod_string ht hx;refine⟨_,.cons (.str s) (.str s ?_) .nil⟩;simp only [DataW.weights,List.all_cons,List.all_nil,Bool.and_true,decide_eq_true_eq] at hw;exact hw
     ·rename_i e ht;split at hf
      ·rename_i i ho;simp only [Option.some.injEq] at hf;subst hf;obtain⟨d,v,rfl,r,w⟩:=Wu ok (Ug fuel) ht ho hx hw;exact⟨_,.cons r w .nil⟩
      ·simp at hf
     ·rename_i fs ht;obtain⟨xs,m,hm,rfl,hl,hxl,hxs⟩:=DataW.trod_struct ht hx;simp only [Nat.succ.injEq] at hm;subst hm
      have hw':(DataW.weightsEach P (fs.toList.map (·.type)) (xs.map (·.1))).all (·≤reachBytes)=true:=by simp only [DataW.weights,ht] at hw;exact hw
      have:=Jo (Ug fuel) hl fs.toList 0 Py xs hf (by simpa using hxl) (fun i f hi=>hxs i f (by simpa using hi)) hw';simpa using this
     ·rename_i m e ht;split at hf
      ·rename_i c1 h1;split at hf
       ·rename_i hce;simp only [Option.some.injEq] at hf;subst hf;obtain⟨xs,m',hm,rfl,hl,hxl,hxs⟩:=DataW.trod_array ht hx;simp only [Nat.succ.injEq] at hm;subst hm;subst hxl
        have hw':(DataW.weightsAll P e (xs.map (·.1))).all (·≤reachBytes)=true:=by simp only [DataW.weights,ht] at hw;exact hw
        rw [hce.2] at hl
        have:=MC (Ug fuel) h1 xs 0 (by rw [hl,Nat.zero_add]) (fun j hj=>by
         rw [Nat.zero_add];have:=hxs j hj;rw [hce.1] at this
         exact this) hw'
        simpa using this
       ·simp at hf
      ·simp at hf
     ·simp at hf
end
end Go.As
end

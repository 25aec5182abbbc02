import Derived.Lib.Bytealg
import Derived.Lib.IndexMore
import Derived.Deep.LoopGhost
import Derived.Test.YtdcafdkkpdadbaaGreatDoorAsZJ3
set_option linter.unusedSectionVars false
set_option linter.unusedVariables false
set_option linter.unusedSimpArgs false
section
namespace Go.As
section
variable {P:Program}
theorem Dn {tt:TT}: ∀{l:List Oper} {i:Nat} {o:Oper},l[i]?=some o→lJ tt (l.take (i+1))=lJ tt (l.take i)+(match kindOf tt o.op with | .e=>1 | _=>0)
 | [],i,o,h=>by simp at h
 | x :: xs,0,o,h=>by
   simp at h
   subst h
   simp only [Nat.zero_add,List.take_succ_cons,List.take_zero,lJ]
   cases kindOf tt x.op <;> rfl
 | x :: xs,i+1,o,h=>by
   simp only [List.take_succ_cons,lJ]
   rw [Dn (l:=xs) (by simpa using h)]
   omega
theorem Xb {tt:TT} {l:List Oper} {i:Nat} (h:l[i]?=none):lJ tt (l.take (i+1))=lJ tt (l.take i):=by
 have:=List.getElem?_eq_none_iff.1 h
 rw [List.take_of_length_le (by omega),List.take_of_length_le (by omega)]
theorem RI {tt:TT} {l:List Oper} {i:Nat}: ∀{j:Nat},i≤j→lJ tt (l.take i)≤lJ tt (l.take j)
 | 0,h=>by
   obtain rfl:i=0:=by omega
   exact Nat.le_refl _
 | j+1,h=>by
   by_cases e:i=j+1
   ·subst e; exact Nat.le_refl _
   ·have:=RI (tt:=tt) (l:=l) (i:=i) (j:=j) (by omega)
    cases ho:l[j]? with
    | none=>rw [Xb ho]; exact this
    | some o=>rw [Dn ho]; omega
theorem UR {tt:TT} {l:List Oper} {i j:Nat} {o:Oper} (ho:l[i]?=some o) (hk:kindOf tt o.op= .e) (h:i < j):lJ tt (l.take i) < lJ tt (l.take j):=by
 have h1:=Dn (tt:=tt) ho
 rw [hk] at h1
 have h2:=RI (tt:=tt) (l:=l) (i:=i+1) (j:=j) h
 simp only at h1
 omega
theorem Dl {tt:TT} {l:List Oper} {m:Nat}: ∀{j:Nat},m < lJ tt (l.take j)→∃i o,i < j∧l[i]?=some o∧kindOf tt o.op= .e∧lJ tt (l.take i)=m
 | 0,h=>by simp [lJ] at h
 | j+1,h=>by
   cases ho:l[j]? with
   | none=>
     rw [Xb ho] at h
     obtain⟨i,o,h1,h2⟩:=Dl h
     exact⟨i,o,by omega,h2⟩
   | some o=>
     rw [Dn ho] at h
     rcases Nat.lt_or_ge m (lJ tt (l.take j)) with h' | h'
     ·obtain⟨i,o,h1,h2⟩:=Dl h'
      exact⟨i,o,by omega,h2⟩
     ·cases hk:kindOf tt o.op <;> rw [hk] at h <;> simp only at h <;> try omega
      exact⟨j,o,by omega,ho,hk,by omega⟩
def G7 (tt:TT) (all:List Oper) (ms:List Nat) (j:Nat) (o:Oper):Item:=⟨j,o,ms.getD j 0,kindOf tt o.op,lJ tt (all.take j),reads all o⟩
theorem jX {tt:TT} {all:List Oper} {ms:List Nat} {j:Nat} {o:Oper} (h:all[j]?=some o):(items tt all ms all 0 0)[j]?=some (G7 tt all ms j o):=by
 rw [lV,h]
 simp [G7]
theorem QL {tt:TT} {all:List Oper} {ms:List Nat} {x:Item} (h:x∈items tt all ms all 0 0): ∃j o,all[j]?=some o∧x=G7 tt all ms j o:=by
 obtain⟨j,hj⟩:=List.getElem?_of_mem h
 cases ho:all[j]? with
 | none=>rw [lV,ho] at hj; simp at hj
 | some o=>
   rw [jX ho] at hj
   simp at hj
   exact⟨j,o,ho,hj.symm⟩
structure ayT (tt:TT) (all:List Oper) (ms:List Nat):Prop where
 back: ∀(j:Nat) (o:Oper),all[j]?=some o→∀e∈o.after,Region.binds .any e=true→e.on < j
 mask: ∀(j:Nat) (o:Oper),all[j]?=some o→ms.getD j 0=sG ms o.after.toList
 rd: ∀(j:Nat) (o:Oper),all[j]?=some o→∀t∈reads all o,∀(i:Nat) (oi:Oper),all[i]?=some oi→oi.dst=some t→(ms.getD j 0).testBit i=true∨(kindOf tt o.op≠.r∧(ms.getD i 0).testBit j=true)
 dst: ∀(i j:Nat) (oi oj:Oper) (d:Nat),all[i]?=some oi→all[j]?=some oj→oi.dst=some d→oj.dst=some d→i=j
 tot: ∀(i j:Nat) (oi oj:Oper),all[i]?=some oi→all[j]?=some oj→kindOf tt oi.op= .e→kindOf tt oj.op= .e→i < j→(ms.getD j 0).testBit i=true
theorem arQ {tt:TT} {all:List Oper} {q:Stat} (h:stat tt all=some q): ∃ms,q.is=items tt all ms all 0 0∧q.nE=lJ tt all∧q.rs=((q.is.filter (·.k.YH)).map fun x=>(x,stages q.is q.nE x))∧ayT tt all ms:=by
 unfold stat at h
 simp only at h
 split at h
 ·rename_i hok
  simp at h
  subst h
  refine⟨vX all [],rfl,qL _ _ _,rfl,?_⟩
  have key: ∀(j:Nat) (o:Oper),all[j]?=some o→Em (vX all []) (items tt all (vX all []) all 0 0) (G7 tt all (vX all []) j o)=true:=fun j o ho=>List.all_eq_true.1 hok _ (List.mem_of_getElem? (jX ho))
  have mem: ∀(j:Nat) (o:Oper),all[j]?=some o→G7 tt all (vX all []) j o∈items tt all (vX all []) all 0 0:=fun j o ho=>List.mem_of_getElem? (jX ho)
  refine⟨?_,?_,?_,?_,?_⟩
  ·intro j o ho e he hb
   have:=key j o ho
   simp only [Em,Bool.and_eq_true,List.all_eq_true] at this
   have:=this.1.1.1.1 e (by simpa [G7] using he)
   simpa [hb,G7] using this
  ·intro j o ho
   have:=key j o ho
   simp only [Em,Bool.and_eq_true] at this
   have:=this.1.1.1.2
   simpa [G7] using this
  ·intro j o ho t ht i oi hoi hd
   have:=key j o ho
   simp only [Em,Bool.and_eq_true,List.all_eq_true] at this
   have:=this.1.1.2 t ht _ (mem i oi hoi)
   simp only [G7,hd,ne_eq,not_true_eq_false,decide_false,Bool.false_or,Bool.or_eq_true,Bool.and_eq_true,Bool.not_eq_true'] at this
   rcases this with h | ⟨h1,h2⟩
   ·exact .inl h
   ·refine .inr ⟨fun hk=>?_,h2⟩
    rw [hk] at h1
    simp [Kind.YH] at h1
  ·intro i j oi oj d hi hj hdi hdj
   have:=key i oi hi
   simp only [Em,Bool.and_eq_true,List.all_eq_true] at this
   have:=this.1.2 _ (mem j oj hj)
   simp [G7,hdi,hdj] at this
   exact this.symm
  ·intro i j oi oj hi hj hki hkj hlt
   have:=key j oj hj
   simp only [Em,Bool.and_eq_true,List.all_eq_true] at this
   have:=this.2
   simp only [G7,hkj,Kind.isE,Bool.not_true,Bool.false_or,List.all_eq_true] at this
   have:=this _ (mem i oi hi)
   simpa [G7,hki,Kind.isE,hlt] using this
 ·simp at h
theorem LH [Glob] {tt:TT} (htt:eG P tt) {call:dU} (hc:jR P call) {ops:Array Oper} {base:Nat} {pc:List (SB×Bool)} {ρ:Nat→Int} (hp:bI ρ pc) {x:Item} (hk:kindOf tt x.o.op= .r) {v:AV} {S:Tr AV} {blks:List (Nat×dW)} {pF:List (Hp×Nat)}: ∀(ks:List Nat),(JW tt call ops.toList base pc x v S blks pF ks).leaf ρ=some ()→
 ∀k∈ks,∃h mm,pF[k]?=some (h,mm)∧OG P ρ ops x.o S (gG base x.m mm blks h) v (gG base x.m mm blks h)
 | [],_=>by simp
 | k :: ks,h=>by
   simp only [JW] at h
   split at h
   ·rename_i h0 mm hn
    obtain⟨⟨u,s'⟩,h1,h2⟩:=T.fP h
    simp only at h2
    split at h2
    ·rename_i hs
     have ha:=UD htt hc (s:=⟨S,gG base x.m mm blks h0,pc⟩) hp h1
     have hr:=aD0 hk h1
     rw [hr,nJ _ _ hs] at ha
     intro k' hk'
     rcases List.mem_cons.1 hk' with rfl | hk'
     ·exact⟨h0,mm,by rw [← dB]; exact hn,ha⟩
     ·exact LH htt hc hp hk ks h2 k' hk'
    ·simp [T.leaf] at h2
   ·simp [T.leaf] at h
theorem PD [Glob] {tt:TT} (htt:eG P tt) {call:dU} (hc:jR P call) {ops:Array Oper} {base:Nat} {ρ:Nat→Int} {d:ZO} {pF:List (Hp×Nat)} {vs:List AV}: ∀(rs:List (Item×List Nat)) {pc pc':List (SB×Bool)},bI ρ pc→(∀r∈rs,kindOf tt r.1.o.op= .r)→(Tm tt call ops.toList base d pF vs rs pc).leaf ρ=some pc'→
 bI ρ pc'∧∀r∈rs,∃v,vs[r.1.i]?=some v∧∀k∈r.2,∃h mm,pF[k]?=some (h,mm)∧OG P ρ ops r.1.o (only d.slots r.1.rd) (gG base r.1.m mm d.blks h) v (gG base r.1.m mm d.blks h)
 | [],pc,pc',hp,_,h=>by
   have:=aF h
   subst this
   exact⟨hp,by simp⟩
 | (x,ks) :: rs,pc,pc',hp,hk,h=>by
   simp only [Tm] at h
   split at h
   ·rename_i v hv
    obtain⟨⟨⟩,pc1,h1,hp1,h2⟩:=T.oU hp h
    obtain⟨hp2,ih⟩:=PD htt hc rs hp1 (fun r hr=>hk r (by simp [hr])) h2
    refine⟨hp2,fun r hr=>?_⟩
    rcases List.mem_cons.1 hr with rfl | hr
    ·exact⟨v,by rw [← dB]; exact hv,LH htt hc hp (hk _ (by simp)) ks h1⟩
    ·exact ih r hr
   ·simp [T.leaf] at h
end
end Go.As
end
section
namespace Go.As
section
variable {P:Program}
theorem asA {α:Type} {l pre:List α} {a b:α} {l0:List α} (h:l=pre++a :: b :: l0):l.reverse[l0.length]?=some b∧l.reverse[l0.length+1]?=some a:=by
 subst h
 constructor
 ·simp
 ·rw [show pre++a :: b :: l0=(pre++ [a])++(b :: l0) by simp,List.reverse_append]
  rw [List.getElem?_append_right (by simp)]
  simp
theorem adV {n b:Nat} (h:((1 <<< n) - 1).testBit b=true):b < n:=by
 rw [Nat.shiftLeft_eq,Nat.one_mul,Nat.testBit_two_pow_sub_one] at h
 simpa using h
theorem asE [Glob] {tt:TT} {ops:Array Oper} {ms:List Nat} {ρ:Nat→Int} {uQ:Tr AV} {H0:Hp} {base N:Nat} {d:ZO} (sf:ayT tt ops.toList ms) (hb:base=H0.next) (hN:base+ops.size≤N)
 (rf:aEy P ρ ops base N (items tt ops.toList ms ops.toList 0 0) ⟨uQ,[(⟨H0.m,base+ops.size,none⟩,0)],[],[],[]⟩ d)
 (hrs: ∀r∈((items tt ops.toList ms ops.toList 0 0).filter (·.k.YH)).map fun x=>(x,stages (items tt ops.toList ms ops.toList 0 0) (lJ tt ops.toList) x),∃v,d.vs.reverse[r.1.i]?=some v∧∀k∈r.2,∃h mm,d.pF.reverse[k]?=some (h,mm)∧OG P ρ ops r.1.o (only d.slots r.1.rd) (gG base r.1.m mm d.blks h) v (gG base r.1.m mm d.blks h))
 (hun:Sj base d.blks d.pF=true) :
 ∃p:Plan P ρ ops uQ H0,p.base=base∧p.nE=lJ tt ops.toList∧(∀i,p.val i=(d.vs.reverse[i]?).getD .jJ)∧(∀k h mm,d.pF.reverse[k]?=some (h,mm)→p.hp k=h∧∀a,p.un k a=!mm.testBit a)∧(∀i,p.blk i=(d.obs.reverse[i]?).getD none)∧
  (∀(m:Nat),m < p.nE→∃(j:Nat) (o:Oper),ops[j]?=some o∧p.kd j= .e∧p.st j=m):=by
 have hsz: ∀(j:Nat),ops.toList[j]?=ops[j]?:=fun j=>Array.getElem?_toList
 have hlt: ∀{j:Nat} {o:Oper},ops[j]?=some o→j < ops.size:=fun h=>(Array.getElem?_eq_some_iff.1 h).1
 have hci:lY (items tt ops.toList ms ops.toList 0 0)=lJ tt ops.toList:=qL _ _ _
 have hfull:lJ tt ops.toList=lJ tt (ops.toList.take ops.size):=by rw [List.take_of_length_le (by simp)]
 obtain⟨ps,s1,s2⟩:=rf.pF
 rw [hci] at s2
 have aFA:d.pF.length=lJ tt ops.toList+1:=by rw [s1,List.length_append,s2]; rfl
 have aEY:d.pF.reverse[0]?=some (⟨H0.m,base+ops.size,none⟩,0):=by
  rw [s1]; simp
 have aDd: ∀k,k≤lJ tt ops.toList→∃h mm,d.pF.reverse[k]?=some (h,mm):=by
  intro k hk
  have:k < d.pF.reverse.length:=by rw [List.length_reverse]; omega
  exact⟨d.pF.reverse[k].1,d.pF.reverse[k].2,List.getElem?_eq_getElem this⟩
 have hnx:=rf.nxt (by
  intro q hq
  simp only [List.mem_cons,List.not_mem_nil,or_false] at hq
  subst hq
  exact⟨hN,rfl⟩)
 have hnx2: ∀(k:Nat) (h:Hp) (mm:Nat),d.pF.reverse[k]?=some (h,mm)→h.next≤N∧h.res=none:=by
  intro k h mm hh
  exact hnx (h,mm) (by have:=List.mem_of_getElem? hh; simpa using this)
 let hpf:Nat→Hp:=fun k=>((d.pF.reverse[k]?).map (·.1)).getD ⟨.nil,0,none⟩
 let unf:Nat→Nat→Bool:=fun k a=>match d.pF.reverse[k]? with | some q=>!q.2.testBit a | none=>false
 let bff:Nat→Nat→Bool:=fun i j=>match ops[j]? with | some _=>(ms.getD j 0).testBit i | none=>false
 let kdf:Nat→Kind:=fun i=>match ops[i]? with | some o=>kindOf tt o.op | none=> .pa
 let UW:Nat→Option dW:=fun i=>(d.obs.reverse[i]?).getD none
 have hpe: ∀k h mm,d.pF.reverse[k]?=some (h,mm)→hpf k=h∧∀a,unf k a=!mm.testBit a:=by
  intro k h mm hh
  refine⟨by simp only [hpf,hh]; rfl,fun a=>by simp only [unf,hh]⟩
 have bfe: ∀{i j:Nat} {o:Oper},ops[j]?=some o→bff i j=(ms.getD j 0).testBit i:=by
  intro i j o ho
  simp only [bff,ho]
 have kde: ∀{j:Nat} {o:Oper},ops[j]?=some o→kdf j=kindOf tt o.op:=by
  intro j o ho
  simp only [kdf,ho]
 have kdE: ∀{j:Nat},kdf j= .e→∃o,ops[j]?=some o∧kindOf tt o.op= .e:=by
  intro j hj
  cases ho:ops[j]? with
  | none=>simp only [kdf,ho] at hj; simp at hj
  | some o=>exact⟨o,rfl,by rw [← kde ho]; exact hj⟩
 have hbelow: ∀(k:Nat),∀(o':Oper),ops[k]?=some o'→∀b,(ms.getD k 0).testBit b=true→b < k:=by
  intro k
  induction k using Nat.strongRecOn with
  | _ k ih=>
    intro o' ho' b hb'
    rw [sf.mask k o' (by rw [hsz]; exact ho')] at hb'
    obtain⟨e,e1,e2,e3⟩:=tK hb'
    have e1':e∈o'.after:=by simpa using e1
    have hlt':=sf.back k o' (by rw [hsz]; exact ho') e e1' e2
    rcases e3 with rfl | e3
    ·exact hlt'
    ·have:=hlt ho'
     have:=ih e.on hlt' (ops[e.on]'(by omega)) (by simp) b e3
     omega
 have aE8: ∀(i:Nat),∃S:Tr AV,∀(o:Oper),ops[i]?=some o→∃dp dp1 v ob pre,dp.slots=S∧OA P ρ ops base N (G7 tt ops.toList ms i o) dp v ob dp1∧d.vs.reverse[i]?=some v∧d.obs.reverse[i]?=some ob∧d.pF=pre++dp1.pF∧dp.pF.length=1+lJ tt (ops.toList.take i)∧
  (∀q,q∈dp.blks→q∈d.blks)∧(∀t x,S.get t=some x→(∃p oj,p < i∧ops[p]?=some oj∧oj.dst=some t∧d.vs.reverse[p]?=some x)∨(uQ.get t=some x∧∀(p:Nat) (oj:Oper),p < i→ops[p]?=some oj→oj.dst≠some t)):=by
  intro i
  cases hoi:ops[i]? with
  | none=>exact⟨.nil,fun o h=>by simp at h⟩
  | some o0=>
    have hx:(items tt ops.toList ms ops.toList 0 0)[i]?=some (G7 tt ops.toList ms i o0):=jX (by rw [hsz]; exact hoi)
    obtain⟨dp,dp1,v,ob,pre,g1,g2,g3,g4,g5,g6,g7,g8⟩:=rf.at_ i _ hx
    refine⟨dp.slots,fun o ho=>?_⟩
    simp only [Option.some.injEq] at ho
    subst ho
    refine⟨dp,dp1,v,ob,pre,rfl,g1,by simpa using g2,by simpa using g3,g4,?_,g6,?_⟩
    ·rw [g5]
     congr 1
     have:(items tt ops.toList ms ops.toList 0 0).take i=items tt ops.toList ms (ops.toList.take i) 0 0:=by
      apply List.ext_getElem?
      intro j
      rw [List.getElem?_take,lV,lV,List.getElem?_take]
      split
      ·rename_i hj
       rw [List.take_take,Nat.min_eq_left (by omega)]
      ·rfl
     rw [this,qL]
    ·intro t x ht
     rcases g8 t x ht with ⟨p,y,q1,q2,q3,q4⟩ | ⟨q1,q2⟩
     ·cases hoj:ops.toList[p]? with
      | none=>rw [lV,hoj] at q2; simp at q2
      | some oj=>
        rw [jX hoj] at q2
        simp at q2
        subst q2
        exact .inl ⟨p,oj,q1,by rw [← hsz]; exact hoj,q3,by simpa using q4⟩
     ·refine .inr ⟨q1,fun p oj hp hoj=>?_⟩
      have hm:G7 tt ops.toList ms p oj∈(items tt ops.toList ms ops.toList 0 0).take i:=by
       refine List.mem_of_getElem? (i:=p) ?_
       rw [List.getElem?_take,if_pos hp]
       exact jX (by rw [hsz]; exact hoj)
      exact q2 _ hm
 obtain⟨Sd,hat⟩:=Classical.skolem.1 aE8
 let Sf:Nat→Tr AV:=fun i=>match ops[i]? with
  | some o=>(match kindOf tt o.op with
    | .r=>only d.slots (reads ops.toList o)
    | _=>only (Sd i) (reads ops.toList o))
  | none=> .nil
 have SfR: ∀{i:Nat} {o:Oper},ops[i]?=some o→kindOf tt o.op= .r→Sf i=only d.slots (reads ops.toList o):=by
  intro i o ho hk
  simp only [Sf,ho,hk]
 have SfN: ∀{i:Nat} {o:Oper},ops[i]?=some o→kindOf tt o.op≠.r→Sf i=only (Sd i) (reads ops.toList o):=by
  intro i o ho hk
  have:Sf i=(match kindOf tt o.op with | .r=>only d.slots (reads ops.toList o) | _=>only (Sd i) (reads ops.toList o)):=by simp only [Sf,ho]
  rw [this]
  cases hh:kindOf tt o.op with
  | r=>exact absurd hh hk
  | pa=>rfl
  | e=>rfl
 have hblk: ∀a b,(a,b)∈d.blks→UW a=some b:=by
  intro a b hab
  rcases rf.blk a b hab with h | ⟨p,x,g1,g2,g3⟩
  ·simp at h
  ·cases ho:ops.toList[p]? with
   | none=>rw [lV,ho] at g1; simp at g1
   | some o=>
     rw [jX ho] at g1
     simp at g1
     subst g1
     have:p=a:=g2
     subst this
     simp only [List.length_nil,Nat.zero_add] at g3
     simp only [UW,g3,Option.getD_some]
 have hblk2: ∀a b,UW a=some b→(a,b)∈d.blks:=by
  intro a b hab
  have hob:d.obs.reverse[a]?=some (some b):=by
   simp only [UW] at hab
   cases hh:d.obs.reverse[a]? with
   | none=>rw [hh] at hab; simp at hab
   | some x=>rw [hh] at hab; simp at hab; rw [hab]
  obtain⟨po,o1,o2⟩:=rf.obs
  have hal:a < ops.size:=by
   have h1:=(List.getElem?_eq_some_iff.1 hob).1
   rw [List.length_reverse,o1,List.append_nil,o2,yY] at h1
   simpa using h1
  have hx:(items tt ops.toList ms ops.toList 0 0)[a]?=some (G7 tt ops.toList ms a ops[a]):=jX (by rw [hsz]; simp [hal])
  exact rf.aFh a _ b hx (by simpa using hob)
 refine⟨{
  base:=base,bf:=bff,kd:=kdf,S:=Sf,val:=fun i=>(d.vs.reverse[i]?).getD .jJ,st:=fun i=>lJ tt (ops.toList.take i),nE:=lJ tt ops.toList,hp:=hpf,un:=unf,blk:=UW,
  gen:=?_,back:=?_,dst:=?_,slots:=?_,stl:=?_,inj:=?_,aCz:=?_,pa:=?_,ev:=?_,rd:=?_,unm:=?_,nob:=?_,first:=?_ },rfl,rfl,fun i=>rfl,hpe,fun i=>rfl,?_⟩
 ·intro i j h
  cases ho:ops[j]? with
  | none=>simp only [bff,ho] at h; simp at h
  | some o=>
    rw [bfe ho,sf.mask j o (by rw [hsz]; exact ho)] at h
    obtain⟨e,e1,e2,e3⟩:=tK h
    have e1':e∈o.after:=by simpa using e1
    refine⟨o,e,rfl,e1',e2,e3.imp id fun h3=>?_⟩
    have hl:=sf.back j o (by rw [hsz]; exact ho) e e1' e2
    have hj:=hlt ho
    rw [bfe (o:=ops[e.on]'(by omega)) (by simp)]
    exact h3
 ·intro j o ho e he hb'
  exact sf.back j o (by rw [hsz]; exact ho) e he hb'
 ·intro i j oi oj dd hi hj h1 h2
  exact sf.dst i j oi oj dd (by rw [hsz]; exact hi) (by rw [hsz]; exact hj) h1 h2
 ·intro i o ho t x ht
  cases hk:kindOf tt o.op with
  | r=>
    rw [SfR ho hk] at ht
    obtain⟨h1,h2⟩:=FC ht
    rcases rf.slot t x h2 with ⟨p,y,g1,g2,g3⟩ | ⟨g1,g2⟩
    ·cases hoj:ops.toList[p]? with
     | none=>rw [lV,hoj] at g1; simp at g1
     | some oj=>
       rw [jX hoj] at g1
       simp at g1
       subst g1
       have hp:ops[p]?=some oj:=by rw [← hsz]; exact hoj
       refine .inl ⟨p,oj,?_,hp,g2,?_⟩
       ·rw [bfe ho]
        rcases sf.rd i o (by rw [hsz]; exact ho) t h1 p oj hoj g2 with h | ⟨h,_⟩
        ·exact h
        ·exact absurd hk h
       ·simp only [List.length_nil,Nat.zero_add] at g3
        simp only [g3,Option.getD_some]
    ·refine .inr ⟨g1,fun j oj hoj hd=>?_⟩
     exact absurd hd (g2 _ (List.mem_of_getElem? (jX (by rw [hsz]; exact hoj))))
  | _=>
    rw [SfN ho (by rw [hk]; simp)] at ht
    obtain⟨h1,h2⟩:=FC ht
    obtain⟨dp,dp1,v,ob,pre,_,_,_,_,_,_,_,g8⟩:=hat i o ho
    rcases g8 t x h2 with ⟨p,oj,q1,q2,q3,q4⟩ | ⟨q1,q2⟩
    ·refine .inl ⟨p,oj,?_,q2,q3,by rw [q4]; rfl⟩
     rw [bfe ho]
     rcases sf.rd i o (by rw [hsz]; exact ho) t h1 p oj (by rw [hsz]; exact q2) q3 with h | ⟨_,h⟩
     ·exact h
     ·have:=hbelow p oj q2 i h
      omega
    ·refine .inr ⟨q1,fun j oj hoj hd=>?_⟩
     rw [bfe hoj]
     rcases sf.rd i o (by rw [hsz]; exact ho) t h1 j oj (by rw [hsz]; exact hoj) hd with h | ⟨_,h⟩
     ·exact absurd hd (q2 j oj (hbelow i o ho j h) hoj)
     ·exact h
 ·intro j o ho hk
  rw [kde ho] at hk
  rw [hfull]
  exact UR (by rw [hsz]; exact ho) hk (hlt ho)
 ·intro i j hi hj he
  obtain⟨oi,hoi,hki⟩:=kdE hi
  obtain⟨oj,hoj,hkj⟩:=kdE hj
  rcases Nat.lt_trichotomy i j with h | h | h
  ·have:=UR (tt:=tt) (l:=ops.toList) (by rw [hsz]; exact hoi) hki h
   omega
  ·exact h
  ·have:=UR (tt:=tt) (l:=ops.toList) (by rw [hsz]; exact hoj) hkj h
   omega
 ·intro j o ho hk m hm
  obtain⟨i,oi,h1,h2,h3,h4⟩:=Dl hm
  rw [kde ho] at hk
  have h2':ops[i]?=some oi:=by rw [← hsz]; exact h2
  refine⟨i,by rw [kde h2']; exact h3,h4,?_⟩
  rw [bfe ho]
  exact sf.tot i j oi o h2 (by rw [hsz]; exact ho) h3 hk h1
 ·intro i o ho hk
  rw [kde ho] at hk
  obtain⟨dp,dp1,v,ob,pre,hdp,hF,g2,g3,g4,g5,g6,g7⟩:=hat i o ho
  obtain⟨h0,mm,rest,hs,hF⟩:=hF
  simp only [G7,hk] at hF
  obtain⟨_,HA,f1,f2,f3⟩:=hF
  rw [hdp] at f1
  refine⟨HA,N,?_,f2,?_,?_⟩
  ·rw [SfN ho (by rw [hk]; simp)]
   simp only [g2,Option.getD_some]
   exact f1
  ·simp only [UW,g3,Option.getD_some]
   exact f3
  ·intro k hk2
   obtain⟨h2,mm2,hh⟩:=aDd k hk2
   rw [(hpe _ _ _ hh).1]
   exact (hnx2 _ _ _ hh).1
 ·intro j o ho hk
  rw [kde ho] at hk
  obtain⟨dp,dp1,v,ob,pre,hdp,hF,g2,g3,g4,g5,g6,g7⟩:=hat j o ho
  obtain⟨h0,mm,rest,hs,hF⟩:=hF
  simp only [G7,hk] at hF
  obtain⟨_,hn,f1,f2,f3,f4⟩:=hF
  rw [hdp] at f4
  rw [f1,hs] at g4
  have hrl:rest.length=lJ tt (ops.toList.take j):=by rw [hs] at g5; simp at g5; omega
  obtain⟨r1,r2⟩:=asA g4
  rw [hrl] at r1 r2
  obtain⟨p1,p2⟩:=hpe _ _ _ r1
  obtain⟨p3,p4⟩:=hpe _ _ _ r2
  refine⟨gG base (ms.getD j 0) mm dp.blks h0,?_,?_,?_,?_,?_⟩
  ·rw [SfN ho (by rw [hk]; simp)]
   simp only [g2,Option.getD_some,p3]
   exact f4
  ·rw [(lK _ _).1,p1]
  ·rw [(lK _ _).2]
   exact (hnx2 _ _ _ r1).2
  ·intro id x hx
   rcases sO hx with h | ⟨a,a1,a2,a3,a4⟩
   ·left; rw [p1]; exact h
   ·right
    exact⟨a,by rw [bfe ho]; exact a2,by rw [p2,a3]; rfl,a4,hblk a x (g6 _ a1)⟩
  ·intro a ha
   rw [p4] at ha
   simp only [Nat.testBit_or,Bool.not_or,Bool.and_eq_true,Bool.not_eq_true'] at ha
   refine⟨by rw [p2,ha.1]; rfl,?_⟩
   rw [bfe ho]
   exact ha.2
 ·intro i o ho hk k hkn h1 h2
  rw [kde ho] at hk
  have hmem:G7 tt ops.toList ms i o∈items tt ops.toList ms ops.toList 0 0:=List.mem_of_getElem? (jX (by rw [hsz]; exact ho))
  obtain⟨v,g1,g2⟩:=hrs (G7 tt ops.toList ms i o,stages (items tt ops.toList ms ops.toList 0 0) (lJ tt ops.toList) (G7 tt ops.toList ms i o)) (by
   rw [List.mem_map]
   exact⟨_,List.mem_filter.2 ⟨hmem,by simp [G7,hk,Kind.YH]⟩,rfl⟩)
  have hks:k∈stages (items tt ops.toList ms ops.toList 0 0) (lJ tt ops.toList) (G7 tt ops.toList ms i o):=by
   unfold stages
   rw [List.mem_filter,List.mem_range]
   refine⟨by omega,List.all_eq_true.2 fun y hy=>?_⟩
   obtain⟨j,oj,hoj,rfl⟩:=QL hy
   have asY:ops[j]?=some oj:=by rw [← hsz]; exact hoj
   cases hkj:kindOf tt oj.op with
   | pa=>simp [G7,hkj,Kind.isE]
   | r=>simp [G7,hkj,Kind.isE]
   | e=>
     simp only [G7,hkj,Kind.isE,Bool.not_true,Bool.false_or,Bool.and_eq_true,Bool.or_eq_true,Bool.not_eq_true',decide_eq_true_eq]
     constructor
     ·cases hbit:(ms.getD i 0).testBit j with
      | false=>exact .inl rfl
      | true=>exact .inr (h1 j (by rw [kde asY]; exact hkj) (by rw [bfe ho]; exact hbit))
     ·cases hbit:(ms.getD j 0).testBit i with
      | false=>exact .inl rfl
      | true=>exact .inr (h2 j oj asY (by rw [kde asY]; exact hkj) (by rw [bfe asY]; exact hbit))
  obtain⟨h0,mm,g3,g4⟩:=g2 k hks
  obtain⟨p1,p2⟩:=hpe _ _ _ g3
  refine⟨gG base (ms.getD i 0) mm d.blks h0,?_,?_,?_,?_⟩
  ·have g1':d.vs.reverse[i]?=some v:=g1
   rw [SfR ho hk]
   simp only [g1',Option.getD_some]
   exact g4
  ·rw [(lK _ _).1,p1]
  ·rw [(lK _ _).2]
   exact (hnx2 _ _ _ g3).2
  ·intro id x hx
   rcases sO hx with h | ⟨a,a1,a2,a3,a4⟩
   ·left; rw [p1]; exact h
   ·right
    exact⟨a,by rw [bfe ho]; exact a2,by rw [p2,a3]; rfl,a4,hblk a x a1⟩
 ·intro k a x hk hx hu
  obtain⟨h0,mm,hh⟩:=aDd k hk
  obtain⟨p1,p2⟩:=hpe _ _ _ hh
  rw [p1]
  rw [p2] at hu
  unfold Sj at hun
  have:=List.all_eq_true.1 hun _ (hblk2 a x hx)
  have:=List.all_eq_true.1 this (h0,mm) (by
   have:=List.mem_of_getElem? hh
   simpa using this)
  simp only [Bool.or_eq_true,Option.isNone_iff_eq_none] at this
  simp only [Bool.not_eq_true'] at hu
  rcases this with h | h
  ·rw [hu] at h; simp at h
  ·exact h
 ·intro i hk
  cases ho:ops[i]? with
  | none=>
    obtain⟨po,o1,o2⟩:=rf.obs
    have hnone:d.obs.reverse[i]?=none:=by
     rw [List.getElem?_eq_none_iff,List.length_reverse,o1,List.append_nil,o2,yY]
     have:=Array.getElem?_eq_none_iff.1 ho
     simpa using this
    simp only [UW,hnone,Option.getD_none]
  | some o=>
    obtain⟨dp,dp1,v,ob,pre,hdp,hF,g2,g3,g4,g5,g6,g7⟩:=hat i o ho
    obtain⟨h0,mm,rest,hs,hF⟩:=hF
    rw [kde ho] at hk
    cases hkk:kindOf tt o.op with
    | pa=>exact absurd hkk hk
    | e=>
      simp only [G7,hkk] at hF
      simp only [UW,g3,Option.getD_some,hF.1]
    | r=>
      simp only [G7,hkk] at hF
      simp only [UW,g3,Option.getD_some,hF.1]
 ·have:=(hpe 0 _ _ aEY).1
  refine⟨hb,by rw [this]; exact Nat.le_refl _,fun id x h=>?_⟩
  rw [this] at h
  exact h
 ·intro m hm
  have hm':m < lJ tt (ops.toList.take ops.size):=by rw [← hfull]; exact hm
  obtain⟨i,oi,h1,h2,h3,h4⟩:=Dl hm'
  have h2':ops[i]?=some oi:=by rw [← hsz]; exact h2
  exact⟨i,oi,h2',by show kdf i=_; rw [kde h2']; exact h3,h4⟩
end
end Go.As
end
section
namespace Go.As
section
variable {P:Program}
theorem NU [Glob] {tt:TT} (htt:eG P tt) {call:dU} (hc:jR P call) {ops:Array Oper} {E:En} {s s':St} {a:Act} {w:World} {Q:Exit→Act→World→Prop}
 (hd: ∀o∈ops.toList,∀d,o.dst=some d→d < a.tmps.size) (fit:Fit E s a w) (h:(draw tt call ops.toList s).leaf E.ρ=some s') (hq: ∀a' w',Then E s a w s' a' w'→Q .normal a' w') :
 wpAny P .any ops Q ops.size (Array.replicate ops.size false) a { w with drawn:=w.drawn+1 }:=by
 unfold draw NV at h
 split at h
 ·simp [T.leaf] at h
 ·rename_i q hq0
  split at h
  ·simp [T.leaf] at h
  ·rename_i hres
   simp only at h
   obtain⟨⟨pc1,d⟩,h1,h2⟩:=T.fP h
   simp only at h2
   obtain⟨ms,e1,e2,e3,sf⟩:=arQ hq0
   rw [e1,] at h1
   have rf:=acS htt hc _ fit.pc h1
   have hp1:=acR _ fit.pc h1
   split at h2
   ·simp [T.leaf] at h2
   ·rename_i h0 mm rest aAD
    obtain⟨pc2,h3,h4⟩:=T.fP h2
    split at h4
    ·rename_i hun
     have:=aF h4
     subst this
     have aDe:=PD htt hc q.rs hp1 (by
      intro r hr
      rw [e3,List.mem_map] at hr
      obtain⟨x,hx,rfl⟩:=hr
      rw [List.mem_filter,e1] at hx
      obtain⟨j,o,ho,rfl⟩:=QL hx.1
      have h5:(kindOf tt o.op).YH=true:=hx.2
      show kindOf tt o.op= .r
      revert h5
      cases kindOf tt o.op <;> simp [Kind.YH]) h3
     have hp2:=aDe.1
     have hrs:=aDe.2
     rw [e3,e1,e2] at hrs
     obtain⟨p,p1,p2,p3,p4,p5,p6⟩:=asE sf (base:=s.h.next) (H0:=s.h) rfl (Nat.le_add_right _ _) rf hrs hun
     have hsz: ∀(j:Nat),ops.toList[j]?=ops[j]?:=fun j=>Array.getElem?_toList
     let w1:World:={ w with drawn:=w.drawn+1 }
     have aFa:Fit E s a w1:=⟨⟨fit.rel.fresh,fit.rel.res,fit.rel.live,fit.rel.inj,fit.rel.AZ,fit.rel.glob⟩,fit.sr,fit.pc⟩
     have hlist: ∀(i:Nat),(Array.replicate ops.size false)[i]?≠some true:=by
      intro i hh
      have:=Array.mem_of_getElem? hh
      simp at this
     refine p.any (E0:=E) (a0:=a) (w0:=w1) hd ?_ ops.size _ a w1 (by simp) ?_ (p.start rfl rfl rfl aFa _ hlist)
     ·intro a' w' inv
      obtain⟨ps,s1,s2⟩:=rf.pF
      rw [qL] at s2
      have hlen:rest.length=lJ tt ops.toList:=by
       have:d.pF.length=lJ tt ops.toList+1:=by rw [s1,List.length_append,s2]; rfl
       rw [aAD] at this
       simpa using this
      have hlast:d.pF.reverse[lJ tt ops.toList]?=some (h0,mm):=by
       rw [← hlen]
       exact rev_at (pre:=[]) aAD
      obtain⟨q1,q2⟩:=p4 _ _ _ hlast
      have hnx:=rf.nxt (by
       intro q hq
       simp only [List.mem_cons,List.not_mem_nil,or_false] at hq
       subst hq
       exact⟨Nat.le_add_right _ _,rfl⟩) (h0,mm) (by rw [aAD]; simp)
      have ht:=p.finish (s0:=s) (s':=⟨d.slots,gG s.h.next ((1 <<< ops.toList.length) - 1) mm d.blks h0,pc2⟩) (w0:=w1) rfl inv hp2 ?_ ?_ ?_ ?_ p6
      ·refine hq a' w' ⟨ht.defers,ht.size,?_⟩
       obtain⟨E',st,f'⟩:=ht.step
       exact⟨E',⟨st.ρ,st.dm,st.θ,st.κ,st.ro,st.Ja,st.nxm,st.rsm,st.dmn,st.os,st.tape,st.output,st.size,st.keep,st.own⟩,f'⟩
      ·intro t x ht
       rcases rf.slot t x ht with ⟨j,y,g1,g2,g3⟩ | ⟨g1,g2⟩
       ·cases hoj:ops.toList[j]? with
        | none=>rw [lV,hoj] at g1; simp at g1
        | some oj=>
          rw [jX hoj] at g1
          simp at g1
          subst g1
          refine .inl ⟨j,oj,by rw [← hsz]; exact hoj,g2,?_⟩
          simp only [List.length_nil,Nat.zero_add] at g3
          rw [p3,g3]
          rfl
       ·refine .inr ⟨g1,fun j oj hoj=>?_⟩
        exact g2 _ (List.mem_of_getElem? (jX (by rw [hsz]; exact hoj)))
      ·intro id x hx
       rw [p2,q1,p1]
       rcases sO hx with h | ⟨b,b1,b2,b3,b4⟩
       ·exact .inl h
       ·right
        have hlt:b < ops.size:=by
         have:=adV b2
         simpa using this
        refine⟨b,hlt,by rw [q2,b3]; rfl,b4,?_⟩
        rcases rf.blk b x b1 with h | ⟨j,y,g1,g2,g3⟩
        ·simp at h
        ·cases hoj:ops.toList[j]? with
         | none=>rw [lV,hoj] at g1; simp at g1
         | some oj=>
           rw [jX hoj] at g1
           simp at g1
           subst g1
           have:j=b:=g2
           subst this
           simp only [List.length_nil,Nat.zero_add] at g3
           rw [p5,g3]
           rfl
      ·rw [p2,q1]
       exact (lK _ _).1.symm
      ·show (gG s.h.next ((1 <<< ops.toList.length) - 1) mm d.blks h0).res=none
       rw [(lK _ _).2]
       exact hnx.2
     ·have: ∀(l:Nat→Bool) (n:Nat),left l n≤n:=by
       intro l n
       induction n with
       | zero=>exact Nat.le_refl _
       | succ n ih=>simp only [left]; split <;> omega
      exact this _ _
    ·simp [T.leaf] at h4
theorem auT [Glob] {tt:TT} (htt:eG P tt) (hm:P.follows .mixedOrders=true) {call:dU} (hc:jR P call):avO P (draw tt call):=by
 intro id ops E s s' a w Q hd fit h hq
 exact wp_region_any hm (NU htt hc hd fit h hq)
end
end Go.As
end
section
namespace Go.As
noncomputable section
open Go.RowKit
section
variable {P:Program}
def En.zero (ρ:Nat→Int) (ro:Nat→Prop):En:={ ρ:=ρ,θ:=fun _=>(0,0),κ:=fun _=>0,dm:=fun _=>False,ro:=ro }
def Hp.zero:Hp:=⟨.nil,0,none⟩
theorem Va [Glob] (ρ:Nat→Int) (ro:Nat→Prop) (w:World) (h: ∀b,ro b→b < w.heap.size) (hg:Glob.ok ρ ro w.heap):bG (En.zero ρ ro) Hp.zero w:=
 ⟨fun _ _ h=>h,by simp [Hp.zero],fun id o h=>by simp [Hp.zero,Hp.get,Tr.get] at h,fun id _ o _ h=>by simp [Hp.zero,Hp.get,Tr.get] at h,h,hg⟩
theorem Stp.below {E E':En} {H':Hp} {w w':World} (s:Stp E Hp.zero w E' H' w'):Below w.heap.size w w':=
 ⟨s.os,s.tape,s.output,s.size,fun k hk=>s.keep k hk fun id o h=>by simp [Hp.zero,Hp.get,Tr.get] at h⟩
theorem GI [Glob] {g:FuncId} {f:List AV→St→T (AV×St)} (hf:mJ P g f) {fn:Func} (hfn:P.funcs[g]?=some fn) (hname:(fn.name == "runtime.NumGoroutine")=false) {c:Code} (hb2:fn.body=some c)
 {ρ:Nat→Int} {ro:Nat→Prop} {w:World} (hro: ∀b,ro b→b < w.heap.size) (hg:Glob.ok ρ ro w.heap) {args:List AV} {vals:List Value} (hv:bJ (En.zero ρ ro) w.heap args vals) {v:AV} {s':St}
 (h:(f args ⟨.nil,Hp.zero,[]⟩).leaf ρ=some (v,s')):Calls P g vals.toArray w fun e w'=> ∃u E',e= .returned u∧VR E' w'.heap v u∧E'.ρ=ρ∧Below w.heap.size w w':=by
 obtain⟨_,_,h3⟩:=hf args ⟨.nil,Hp.zero,[]⟩ (En.zero ρ ro) w vals v s' (Va ρ ro w hro hg) hv (by simp [bI]) h
 have hrun:(callFunc g vals.toArray).run P w= .ok (.enter g vals.toArray) w:=by
  unfold callFunc
  simp [hfn,hb2,by simpa using hname]
 unfold tC sZ at h3
 rw [hrun] at h3
 exact Calls.mono h3 fun e w' ⟨u,he,E',st,_,hv⟩=> ⟨u,E',he,hv,st.ρ,st.below⟩
end
end
end Go.As
end
section
namespace Go.As
noncomputable section
open Go.RowKit
mutual
def jM:AV→Bool
 | .bool (.lit _)=>true
 | .int _ (.lit _)=>true
 | .str _=>true
 | .jJ=>true
 | .aA=>true
 | .lW=>true
 | .yU=>true
 | .Es=>true
 | .iface _ v=>jM v
 | .agg cs=>sJ cs
 | .tuple cs=>sJ cs
 | .func _ fs cs=>sJ fs && sJ cs
 | _=>false
def sJ:List AV→Bool
 | []=>true
 | x :: xs=>jM x && sJ xs
end
section
variable {P:Program}
mutual
theorem Dp {E E':En} {h h':Array Obj}: ∀(x:AV) (u:Value),jM x=true→VR E h x u→VR E' h' x u
 | .bool b,u,hc,hv=>by cases b <;> simp [jM] at hc; simpa [VR,SB.den] using hv
 | .int k e,u,hc,hv=>by cases e <;> simp [jM] at hc; simpa [VR,SE.den] using hv
 | .str s,u,_,hv=>by simp only [VR] at *; exact hv
 | .jJ,u,_,hv=>by simp only [VR] at *; exact hv
 | .aA,u,_,hv=>by simp only [VR] at *; exact hv
 | .lW,u,_,hv=>by simp only [VR] at *; exact hv
 | .yU,u,_,hv=>by simp only [VR] at *; exact hv
 | .Es,u,_,hv=>by simp only [VR] at *; exact hv
 | .iface t x,u,hc,hv=>by
   simp only [VR,jM] at *
   obtain⟨y,h1,h2⟩:=hv
   exact⟨y,h1,Dp x y hc h2⟩
 | .agg cs,u,hc,hv=>by
   simp only [VR,jM] at *
   obtain⟨us,h1,h2⟩:=hv
   exact⟨us,h1,qZ cs us hc h2⟩
 | .tuple cs,u,hc,hv=>by
   simp only [VR,jM] at *
   obtain⟨us,h1,h2⟩:=hv
   exact⟨us,h1,qZ cs us hc h2⟩
 | .func fn fs cs,u,hc,hv=>by
   simp only [VR,jM,Bool.and_eq_true] at *
   obtain⟨us,ws,h1,h2,h3⟩:=hv
   exact⟨us,ws,h1,qZ fs us hc.1 h2,qZ cs ws hc.2 h3⟩
 | .ptr _ _,_,hc,_=>by simp [jM] at hc
 | .qU _,_,hc,_=>by simp [jM] at hc
 | .slice _ _ _ _,_,hc,_=>by simp [jM] at hc
 | .ro _ _ _,_,hc,_=>by simp [jM] at hc
 | .map _,_,hc,_=>by simp [jM] at hc
 | .opq _,_,hc,_=>by simp [jM] at hc
 | .inp _ _,_,hc,_=>by simp [jM] at hc
theorem qZ {E E':En} {h h':Array Obj}: ∀(xs:List AV) (us:List Value),sJ xs=true→bJ E h xs us→bJ E' h' xs us
 | [],us,_,hv=>by simp only [bJ] at *; exact hv
 | x :: xs,us,hc,hv=>by
   simp only [bJ,sJ,Bool.and_eq_true] at *
   obtain⟨u,vs,h1,h2,h3⟩:=hv
   exact⟨u,vs,h1,Dp x u hc.1 h2,qZ xs vs hc.2 h3⟩
end
theorem Du [Glob] {E:En} {H:Hp} {w w':World} (r:bG E H w) (b:Below w.heap.size w w'):Stp E H w E H w'∧bG E H w':=by
 have hk:Keeps E w.heap E w'.heap:=⟨rfl,fun _ h=>h,fun _ _=>rfl,fun _ _=>rfl,fun _ h=>h,fun x hx=>b.block x (r.AZ x hx)⟩
 refine⟨⟨rfl,fun _ h=>h,fun _ _=>rfl,fun _ _=>rfl,fun _ h=>h,fun _ h=> .inl h,Nat.le_refl _,.inr rfl,fun _ h=> .inl h,b.os,b.tape,b.output,b.size,fun x hx _=>b.block x hx,fun id o h _=> ⟨id,o,h,rfl⟩⟩,r.fresh,r.res,fun id o h=>?_,r.inj,fun x hx=>Nat.lt_of_lt_of_le (r.AZ x hx) b.size,Glob.keep r.glob hk.ro hk.Lu⟩
 obtain⟨h1,h2,h3⟩:=r.live id o h
 exact⟨h1,h2.keep hk h1 (b.block _ (jE r h)),h3⟩
def memo (args:List AV) (v:AV):List AV→St→T (AV×St):=fun aFG s=>if jW aFG args then .ret (v,s) else .fail
def gives (args:List AV) (v:AV) (f:List AV→St→T (AV×St)):Bool:=
 sJ args && jM v && (match f args ⟨.nil,Hp.zero,[]⟩ with | .ret (u,_)=>eU u v | _=>false)
theorem J8 [Glob] {g:FuncId} {f:List AV→St→T (AV×St)} (hf:mJ P g f) {fn:Func} (hfn:P.funcs[g]?=some fn) (hname:(fn.name == "runtime.NumGoroutine")=false) {c:Code} (hb:fn.body=some c)
 {args:List AV} {v:AV} (h:gives args v f=true):mJ P g (memo args v):=by
 intro aFG s E w vals u s' r hv hp hl
 unfold memo at hl
 split at hl
 ·rename_i hs
  have:=aF hl
  simp only [Prod.mk.injEq] at this
  obtain⟨rfl,rfl⟩:=this
  rw [gU _ _ hs] at hv
  unfold gives at h
  simp only [Bool.and_eq_true] at h
  obtain⟨⟨h1,h2⟩,h3⟩:=h
  split at h3
  ·rename_i u' s1 hrun
   have hu:=nJ _ _ h3
   subst hu
   have hc:=GI hf hfn hname hb (ρ:=E.ρ) (ro:=E.ro) (w:=w) r.AZ r.glob (qZ args vals h1 hv) (v:=u') (s':=s1) (by rw [hrun]; rfl)
   refine⟨rfl,hp,?_⟩
   have hrun:(callFunc g vals.toArray).run P w= .ok (.enter g vals.toArray) w:=by
    unfold callFunc
    simp [hfn,hb,by simpa using hname]
   unfold tC sZ
   rw [hrun]
   exact Calls.mono hc fun e w' ⟨x,E',he,hx,_,hbl⟩=> ⟨x,he,E,(Du r hbl).1,(Du r hbl).2,Dp u' x h2 hx⟩
  ·simp at h3
 ·simp [T.leaf] at hl
def orElse (f g:List AV→St→T (AV×St)):List AV→St→T (AV×St):=fun aFG s=>match f aFG s with | .fail=>g aFG s | x=>x
theorem xI [Glob] {id:FuncId} {f g:List AV→St→T (AV×St)} (hf:mJ P id f) (hg:mJ P id g):mJ P id (orElse f g):=by
 intro aFG s E w vals u s' r hv hp hl
 unfold orElse at hl
 split at hl
 ·exact hg aFG s E w vals u s' r hv hp hl
 ·exact hf aFG s E w vals u s' r hv hp hl
end
end
end Go.As
end
section
namespace Go.As
noncomputable section
open Go.RowKit
section
variable {P:Program}
theorem Dc {g:FuncId} {fn:Func} {e:Array Value→Sem Value} (hf:P.funcs[g]?=some fn) (hname:(fn.name == "runtime.NumGoroutine")=false) (hb:fn.body.isNone=true) (hn:Extern.findNext fn=none) (he:Extern.find fn=some e)
 {args:Array Value} {w:World} {u:Value} (hr:(e args).run P w= .ok u w):(callFunc g args).run P w= .ok (.value u) w:=by
 have hb2:fn.body=none:=by simpa using hb
 unfold callFunc
 simp [hf,hb2,by simpa using hname,hn,he,hr]
def Oc (c:Nat):List Nat→Nat
 | []=>0
 | x :: xs=>if x.beq c then Oc c xs+1 else Oc c xs
def Ip:List AV→St→T (AV×St):=fun args s=>match args with
 | [.str b,.int .u8 (.lit (.ofNat c))]=>if c < 256 then .ret (.int .i64 (.lit (Int.ofNat (Oc c b))),s) else .fail
 | _=> .fail
theorem Sr {a b:Nat} (ha:a < 256) (hb:b < 256):(UInt8.ofNat a == UInt8.ofNat b)=a.beq b:=by
 rw [Bool.eq_iff_iff]
 simp only [beq_iff_eq,Nat.beq_eq]
 constructor
 ·intro h
  have:=congrArg UInt8.toNat h
  simp only [UInt8.toNat_ofNat'] at this
  omega
 ·intro h
  rw [h]
theorem Rx {c:Nat} (hc:c < 256): ∀{s:List Nat},(∀b∈s,b < 256)→Lib.countByte (s.map UInt8.ofNat) (UInt8.ofNat c)=Oc c s
 | [],_=>rfl
 | x :: xs,h=>by
   have ih:=Rx hc (s:=xs) fun b hb=>h b (by simp [hb])
   unfold Lib.countByte at *
   rw [List.map_cons,List.count_cons,ih,Sr (h x (by simp)) hc]
   simp only [Oc]
   cases x.beq c <;> simp
theorem apP [Glob] {g:FuncId} {fn:Func} (hf:P.funcs[g]?=some fn) (hname:(fn.name == "runtime.NumGoroutine")=false) (hb:fn.body.isNone=true) (hn:Extern.findNext fn=none) (he:Extern.find fn=some Extern.BytealgCount.count):mJ P g Ip:=by
 intro aFG s E w vals u s' r hv hp hl
 unfold Ip at hl
 split at hl
 ·rename_i b c
  split at hl
  ·rename_i hc
   have:=aF hl
   simp only [Prod.mk.injEq] at this
   obtain⟨rfl,rfl⟩:=this
   simp only [bJ,VR,SE.den] at hv
   obtain⟨u1,r1,rfl,⟨rfl,hbb⟩,u2,r2,rfl,rfl,rfl⟩:=hv
   refine⟨rfl,hp,?_⟩
   unfold tC sZ
   rw [Dc hf hname hb hn he (Lib.run_countString (bZ b) (Int.ofNat c) w)]
   refine⟨E,Stp.refl _ _ _,r,?_⟩
   simp only [VR,SE.den]
   have:(Int.ofNat c).toNat.toUInt8=UInt8.ofNat c:=rfl
   rw [this]
   have h2:(bZ b).data.toList=b.map UInt8.ofNat:=by simp [bZ]
   rw [h2,Rx hc hbb]
   rfl
  ·simp [T.leaf] at hl
 ·simp [T.leaf] at hl
def MO (c:Nat):List Nat→Int
 | []=> -1
 | x :: xs=>if x.beq c then 0 else match MO c xs with
   | .ofNat n=> .ofNat (n+1)
   | .negSucc n=> .negSucc n
def Io:List AV→St→T (AV×St):=fun args s=>match args with
 | [.str b,.int .u8 (.lit (.ofNat c))]=>if c < 256 then .ret (.int .i64 (.lit (MO c b)),s) else .fail
 | _=> .fail
theorem QN {c:Nat} (hc:c < 256): ∀{s:List Nat},(∀b∈s,b < 256)→Lib.indexByte (s.map UInt8.ofNat) (UInt8.ofNat c)=MO c s
 | [],_=>rfl
 | x :: xs,h=>by
   have ih:=QN hc (s:=xs) fun b hb=>h b (by simp [hb])
   have hge:=Lib.indexByte_ge (xs.map UInt8.ofNat) (UInt8.ofNat c)
   simp only [List.map_cons,Lib.indexByte,MO]
   rw [Sr (h x (by simp)) hc]
   cases x.beq c
   ·simp only [Bool.false_eq_true,if_false]
    rw [ih] at hge ⊢
    cases hi:MO c xs with
    | ofNat n=>rw [hi] at hge; simp
    | negSucc n=>
      rw [hi] at hge
      have:n=0:=by omega
      subst this
      rfl
   ·rfl
theorem alJ [Glob] {g:FuncId} {fn:Func} (hf:P.funcs[g]?=some fn) (hname:(fn.name == "runtime.NumGoroutine")=false) (hb:fn.body.isNone=true) (hn:Extern.findNext fn=none) (he:Extern.find fn=some Extern.BytealgIndexByte.indexByte):mJ P g Io:=by
 intro aFG s E w vals u s' r hv hp hl
 unfold Io at hl
 split at hl
 ·rename_i b c
  split at hl
  ·rename_i hc
   have:=aF hl
   simp only [Prod.mk.injEq] at this
   obtain⟨rfl,rfl⟩:=this
   simp only [bJ,VR,SE.den] at hv
   obtain⟨u1,r1,rfl,⟨rfl,hbb⟩,u2,r2,rfl,rfl,rfl⟩:=hv
   refine⟨rfl,hp,?_⟩
   unfold tC sZ
   rw [Dc hf hname hb hn he (Lib.run_indexByteString (bZ b) (Int.ofNat c) w)]
   refine⟨E,Stp.refl _ _ _,r,?_⟩
   simp only [VR,SE.den]
   have:(Int.ofNat c).toNat.toUInt8=UInt8.ofNat c:=rfl
   rw [this]
   have h2:(bZ b).data.toList=b.map UInt8.ofNat:=by simp [bZ]
   rw [h2,QN hc hbb]
  ·simp [T.leaf] at hl
 ·simp [T.leaf] at hl
def Tv:List Nat→List Nat→Bool
 | [],_=>true
 | _ :: _,[]=>false
 | a :: x,b :: y=>if a.beq b then Tv x y else false
def ES (c:List Nat):List Nat→Bool
 | []=>Tv c []
 | b :: bs=>if Tv c (b :: bs) then true else ES c bs
def zF:List AV→St→T (AV×St):=fun args s=>match args with
 | [.str b,.str c]=>if b.length < 4294967281 then .ret (.bool (.lit (ES c b)),s) else .fail
 | _=> .fail
theorem aaZ: ∀{c s:List Nat},(∀b∈c,b < 256)→(∀b∈s,b < 256)→(c.map UInt8.ofNat).isPrefixOf (s.map UInt8.ofNat)=Tv c s
 | [],_,_,_=>by simp [Tv]
 | _ :: _,[],_,_=>by simp [Tv]
 | a :: x,b :: y,hc,hs=>by
   have ih:=aaZ (c:=x) (s:=y) (fun z hz=>hc z (by simp [hz])) (fun z hz=>hs z (by simp [hz]))
   simp only [List.map_cons,List.isPrefixOf,Tv]
   rw [Sr (hc a (by simp)) (hs b (by simp)),ih]
   cases a.beq b <;> simp
theorem index_ge (sub:List UInt8): ∀l:List UInt8,-1≤Lib.index l sub
 | []=>by unfold Lib.index; split <;> omega
 | b :: l=>by
   have ih:=index_ge sub l
   unfold Lib.index
   split
   ·omega
   ·split <;> omega
theorem KH {c:List Nat} (hc: ∀b∈c,b < 256): ∀{s:List Nat},(∀b∈s,b < 256)→Lib.contains (s.map UInt8.ofNat) (c.map UInt8.ofNat)=ES c s
 | [],_=>by
   cases c <;> simp [Lib.contains,Lib.index,ES,Tv]
 | b :: bs,h=>by
   have ih:=KH hc (s:=bs) fun z hz=>h z (by simp [hz])
   have hp:=aaZ hc h
   simp only [List.map_cons] at hp
   unfold Lib.contains at *
   simp only [List.map_cons,Lib.index,ES]
   rw [hp,← ih]
   have hge:=index_ge (c.map UInt8.ofNat) (bs.map UInt8.ofNat)
   cases Tv c (b :: bs)
   ·simp only [Bool.false_eq_true,if_false]
    by_cases h1:Lib.index (bs.map UInt8.ofNat) (c.map UInt8.ofNat)= -1
    ·rw [h1]; rfl
    ·rw [if_neg (by simpa using h1)]
     rw [decide_eq_decide]
     omega
   ·simp
theorem Xa [Glob] {g:FuncId} (hg: ∀(ρ:Nat→Int) (ro:Nat→Prop) (w:World),Glob.ok ρ ro w.heap→∀s sub:ByteArray,s.size < 4294967281→Calls P g #[.string s,.string sub] w fun e w'=>e= .returned (.bool (Lib.contains s.data.toList sub.data.toList))∧w'=w)
 (hrun: ∀(args:Array Value) (w:World),(callFunc g args).run P w= .ok (.enter g args) w):mJ P g zF:=by
 intro aFG s E w vals u s' r hv hp hl
 unfold zF at hl
 split at hl
 ·rename_i b c
  split at hl
  ·rename_i hlen
   have:=aF hl
   simp only [Prod.mk.injEq] at this
   obtain⟨rfl,rfl⟩:=this
   simp only [bJ,VR] at hv
   obtain⟨u1,r1,rfl,⟨rfl,hbb⟩,u2,r2,rfl,⟨rfl,hcc⟩,rfl⟩:=hv
   refine⟨rfl,hp,?_⟩
   unfold tC sZ
   rw [hrun]
   refine Calls.mono (hg E.ρ E.ro w r.glob (bZ b) (bZ c) (by simpa [bZ,ByteArray.size] using hlen)) fun e w' ⟨he,hw⟩=>?_
   subst hw
   refine⟨_,he,E,Stp.refl _ _ _,r,?_⟩
   simp only [VR,SB.den]
   have h2: ∀l:List Nat,(bZ l).data.toList=l.map UInt8.ofNat:=by intro l; simp [bZ]
   rw [h2,h2,KH hcc hbb]
  ·simp [T.leaf] at hl
 ·simp [T.leaf] at hl
end
end
end Go.As
end
section
namespace Go.As
noncomputable section
structure JB where
 m:Nat
 k:Kind
 st:Nat
 rd:List Nat
structure Xu where
 is:List JB
 nE:Nat
 rs:List (Nat×List Nat)
def YE:Kind→Kind→Bool
 | .pa,.pa=>true
 | .e,.e=>true
 | .r,.r=>true
 | _,_=>false
def Ep:List Nat→List Nat→Bool
 | [],[]=>true
 | a :: x,b :: y=>Nat.beq a b && Ep x y
 | _,_=>false
def H7:List Item→List JB→Bool
 | [],[]=>true
 | x :: xs,d :: ds=>Nat.beq x.m d.m && YE x.k d.k && Nat.beq x.st d.st && Ep x.rd d.rd && H7 xs ds
 | _,_=>false
def HY:List (Item×List Nat)→List (Nat×List Nat)→Bool
 | [],[]=>true
 | (x,ks) :: xs,(i,js) :: ys=>Nat.beq x.i i && Ep ks js && HY xs ys
 | _,_=>false
def Hl:Nat→List Oper→List JB→List Item
 | i,o :: os,d :: ds=> ⟨i,o,d.m,d.k,d.st,d.rd⟩ :: Hl (i+1) os ds
 | _,_,_=>[]
def aeD (is:List Item):List (Nat×List Nat)→List (Item×List Nat)
 | []=>[]
 | (i,ks) :: r=>match gI is i with
   | some x=>(x,ks) :: aeD is r
   | none=>aeD is r
def statOf (all:List Oper) (H:Xu):Stat:=⟨Hl 0 all H.is,H.nE,aeD (Hl 0 all H.is) H.rs⟩
def Bz (tt:TT) (all:List Oper) (H:Xu):Bool:=match stat tt all with
 | none=>false
 | some q=>H7 q.is H.is && Nat.beq q.nE H.nE && HY q.rs H.rs
theorem afD {a b:Kind} (h:YE a b=true):a=b:=by cases a <;> cases b <;> simp [YE] at h <;> rfl
theorem Ig: ∀{a b:List Nat},Ep a b=true→a=b
 | [],[],_=>rfl
 | [],_ :: _,h=>by simp [Ep] at h
 | _ :: _,[],h=>by simp [Ep] at h
 | a :: x,b :: y,h=>by
   simp only [Ep,Bool.and_eq_true] at h
   rw [Nat.eq_of_beq_eq_true h.1,Ig h.2]
theorem QJ {tt:TT} {all:List Oper} {ms:List Nat}: ∀{os:List Oper} {i n:Nat} {ds:List JB},H7 (items tt all ms os i n) ds=true→items tt all ms os i n=Hl i os ds
 | [],i,n,ds,h=>by cases ds <;> simp [items,H7,Hl] at *
 | o :: os,i,n,ds,h=>by
   cases ds with
   | nil=>simp [items,H7] at h
   | cons d ds=>
     simp only [items,H7,Bool.and_eq_true] at h
     obtain⟨⟨⟨⟨h1,h2⟩,h3⟩,h4⟩,h5⟩:=h
     have ih:=QJ h5
     simp only [items,Hl]
     rw [ih,Nat.eq_of_beq_eq_true h1,afD h2,Nat.eq_of_beq_eq_true h3,Ig h4]
theorem aaY {is:List Item}: ∀{xs:List (Item×List Nat)} {ys:List (Nat×List Nat)},(∀p∈xs,gI is p.1.i=some p.1)→HY xs ys=true→aeD is ys=xs
 | [],[],_,_=>rfl
 | [],_ :: _,_,h=>by simp [HY] at h
 | _ :: _,[],_,h=>by simp [HY] at h
 | (x,ks) :: xs,(i,js) :: ys,hm,h=>by
   simp only [HY,Bool.and_eq_true] at h
   have h1:=hm (x,ks) (by simp)
   simp only [aeD]
   rw [← Nat.eq_of_beq_eq_true h.1.1,h1,← Ig h.1.2,aaY (fun p hp=>hm p (by simp [hp])) h.2]
theorem U9: ∀{i:Nat} {os:List Oper} {ds:List JB} {x:Item},x∈Hl i os ds→i≤x.i∧gI (Hl i os ds) (x.i - i)=some x
 | _,[],_,_,h=>by simp [Hl] at h
 | _,_ :: _,[],_,h=>by simp [Hl] at h
 | i,o :: os,d :: ds,x,h=>by
   simp only [Hl,List.mem_cons] at h ⊢
   rcases h with rfl | h
   ·simp [gI]
   ·obtain⟨h1,h2⟩:=U9 h
    refine⟨by omega,?_⟩
    have:x.i - i=(x.i - (i+1))+1:=by omega
    rw [this]
    exact h2
theorem Iq {tt:TT} {all:List Oper} {H:Xu} (h:Bz tt all H=true):stat tt all=some (statOf all H):=by
 unfold Bz at h
 split at h
 ·simp at h
 ·rename_i q hq
  rw [hq]
  simp only [Bool.and_eq_true] at h
  obtain⟨⟨h1,h2⟩,h3⟩:=h
  have hq':=hq
  unfold stat at hq'
  simp only at hq'
  split at hq'
  ·simp only [Option.some.injEq] at hq'
   subst hq'
   have e1:=QJ h1
   simp only at h2 h3
   have e3:aeD (Hl 0 all H.is) H.rs=_:=aaY (is:=Hl 0 all H.is) (by
    intro p hp
    simp only [List.mem_map,List.mem_filter] at hp
    obtain⟨x,⟨hx,_⟩,rfl⟩:=hp
    rw [e1] at hx
    have:=(U9 hx).2
    simpa using this) h3
   unfold statOf
   rw [e3,← Nat.eq_of_beq_eq_true h2,← e1]
  ·simp at hq'
end
end Go.As
end
section
namespace Go.As
noncomputable section
def DK (pos:Nat→Nat) (o:Oper):Oper:={ o with after:=o.after.map (fun e=>{ e with on:=pos e.on }),guard:=match o.guard with | none=>none | some (j,b)=>some (pos j,b) }
def posOf:List Nat→Nat→Nat
 | [],_=>0
 | x :: xs,i=>match Nat.beq x i with
   | true=>0
   | false=>posOf xs i+1
def Je (pos:Nat→Nat) (all:List Oper):List Nat→List Oper
 | []=>[]
 | i :: is=>match gI all i with
   | some o=>DK pos o :: Je pos all is
   | none=>[]
def iJ (ord:List Nat) (all:List Oper):List Oper:=Je (posOf ord) all ord
def Tz (ord:List Nat) (n:Nat):Bool:=
 Nat.beq ord.length n && (List.range n).all (fun i=>match gI ord (posOf ord i) with | some j=>Nat.beq i j | none=>false) &&
 (List.range n).all (fun j=>match gI ord j with | some i=>Nat.blt i n && Nat.beq (posOf ord i) j | none=>false)
theorem Vz: ∀(ord:List Nat) (i:Nat),posOf ord i≤ord.length
 | [],_=>Nat.le_refl _
 | x :: xs,i=>by
   simp only [posOf,List.length_cons]
   split
   ·omega
   ·have:=Vz xs i; omega
theorem PG: ∀(ord:List Nat) (i:Nat),posOf ord i < ord.length→ord[posOf ord i]?=some i
 | [],_,h=>by simp [posOf] at h
 | x :: xs,i,h=>by
   simp only [posOf,List.length_cons] at h ⊢
   split
   ·rename_i he
    simp [Nat.eq_of_beq_eq_true he]
   ·rename_i he
    rw [he] at h
    simp only at h
    simpa using PG xs i (by omega)
structure Perm (n:Nat) (ord:List Nat):Prop where
 len:ord.length=n
 at': ∀i,i < n→ord[posOf ord i]?=some i
 back: ∀j,j < n→∃i,ord[j]?=some i∧i < n∧posOf ord i=j
theorem aeK {ord:List Nat} {n:Nat} (h:Tz ord n=true):Perm n ord:=by
 unfold Tz at h
 simp only [Bool.and_eq_true,List.all_eq_true,List.mem_range] at h
 obtain⟨⟨h1,h2⟩,h3⟩:=h
 refine⟨Nat.eq_of_beq_eq_true h1,fun i hi=>?_,fun j hj=>?_⟩
 ·have:=h2 i hi
  split at this
  ·rename_i j hjj
   rw [dB] at hjj
   rw [hjj,Nat.eq_of_beq_eq_true this]
  ·simp at this
 ·have:=h3 j hj
  split at this
  ·rename_i i hii
   rw [dB] at hii
   simp only [Bool.and_eq_true] at this
   exact⟨i,hii,by simpa [Nat.blt_eq] using this.1,Nat.eq_of_beq_eq_true this.2⟩
  ·simp at this
theorem Perm.lt {n:Nat} {ord:List Nat} (p:Perm n ord) {i:Nat} (hi:i < n):posOf ord i < n:=by
 have:=p.at' i hi
 rw [← p.len]
 exact (List.getElem?_eq_some_iff.1 this).1
theorem Perm.ge {n:Nat} {ord:List Nat} (p:Perm n ord) {i:Nat} (hi: ¬i < n):posOf ord i=n:=by
 have h1:=Vz ord i
 rw [p.len] at h1
 rcases Nat.lt_or_ge (posOf ord i) n with h | h
 ·have h2:=PG ord i (by rw [p.len]; exact h)
  obtain⟨k,h3,h4,_⟩:=p.back _ h
  rw [h2] at h3
  simp only [Option.some.injEq] at h3
  omega
 ·omega
theorem Perm.inj {n:Nat} {ord:List Nat} (p:Perm n ord) {i j:Nat} (hi:i < n) (hj:j < n) (h:posOf ord i=posOf ord j):i=j:=by
 have h1:=p.at' i hi
 have h2:=p.at' j hj
 rw [h,h2] at h1
 simpa using h1.symm
theorem PO {pos:Nat→Nat} {all:List Oper}: ∀{is:List Nat},(∀i∈is,i < all.length)→∀j:Nat,(Je pos all is)[j]?=(is[j]?).bind fun i=>(all[i]?).map (DK pos)
 | [],_,j=>by simp [Je]
 | i :: is,h,j=>by
   have hi:=h i (by simp)
   have ih:=PO (pos:=pos) (is:=is) fun k hk=>h k (by simp [hk])
   simp only [Je]
   rw [dB,List.getElem?_eq_getElem hi]
   cases j with
   | zero=>simp [List.getElem?_eq_getElem hi]
   | succ j=>simpa using ih j
section
variable {P:Program}
theorem rX {ord:List Nat} {ops:Array Oper} (p:Perm ops.size ord) {i:Nat} (hi:i < ops.size):(iJ ord ops.toList)[posOf ord i]?=(ops[i]?).map (DK (posOf ord)):=by
 unfold iJ
 rw [PO (by
  intro k hk
  obtain⟨j,hj,rfl⟩:=List.getElem_of_mem hk
  obtain⟨i',h1,h2,_⟩:=p.back j (by rw [← p.len]; exact hj)
  rw [List.getElem?_eq_getElem hj] at h1
  simp only [Option.some.injEq] at h1
  rw [h1]
  simpa using h2),p.at' i hi]
 simp
theorem vV {ord:List Nat} {ops:Array Oper} (p:Perm ops.size ord):(iJ ord ops.toList).length=ops.size:=by
 have h0: ∀j,j < ops.size→(iJ ord ops.toList)[j]?.isSome=true:=by
  intro j hj
  obtain⟨i,_,h2,h3⟩:=p.back j hj
  have:=rX p h2
  rw [h3] at this
  rw [this]
  simp [h2]
 have hle:(iJ ord ops.toList).length≤ops.size:=by
  have: ∀(is:List Nat),(Je (posOf ord) ops.toList is).length≤is.length:=by
   intro is
   induction is with
   | nil=>simp [Je]
   | cons i is ih=>simp only [Je]; split <;> simp; omega
  have:=this ord
  rw [p.len] at this
  exact this
 rcases Nat.lt_or_ge (iJ ord ops.toList).length ops.size with h | h
 ·have:=h0 _ h
  rw [List.getElem?_eq_none (Nat.le_refl _)] at this
  simp at this
 ·omega
theorem ajQ (pos:Nat→Nat) (o:Oper) (a:Act) (w:World) (K:Act→World→Prop) (Q:Exit→Act→World→Prop):(DK pos o).wp P a w K Q=o.wp P a w K Q:=rfl
theorem Ym (pos:Nat→Nat) (o:Oper) (a:Act) (w:World):(DK pos o).asks P a w=o.asks P a w:=rfl
theorem Si {ord:List Nat} {ops:Array Oper} (p:Perm ops.size ord) (tmps:Array Value) (j:Nat):yielded (iJ ord ops.toList).toArray tmps (posOf ord j)=yielded ops tmps j:=by
 unfold yielded
 have:((iJ ord ops.toList).toArray[posOf ord j]?).bind (·.dst)=(ops[j]?).bind (·.dst):=by
  rw [List.getElem?_toArray]
  rcases Nat.lt_or_ge j ops.size with h | h
  ·rw [rX p h]
   cases ops[j]? <;> rfl
  ·rw [p.ge (by omega),List.getElem?_eq_none (by rw [vV p]; exact Nat.le_refl _),Array.getElem?_eq_none h]
 rw [this]
theorem Ve {ord:List Nat} {ops:Array Oper} (p:Perm ops.size ord) (tmps:Array Value) (o:Oper) :
 Region.wanted (DK (posOf ord) o) (yielded (iJ ord ops.toList).toArray tmps)=Region.wanted o (yielded ops tmps):=by
 unfold Region.wanted DK
 cases hg:o.guard with
 | none=>rfl
 | some g=>
   obtain⟨j,b⟩:=g
   simp only
   rw [Si p]
theorem lU {md:Region.Mode} {ops:Array Oper} {listed:Array Bool} {i:Nat}:i∈Region.ready md ops listed↔∃o,ops[i]?=some o∧listed.getD i true=false∧∀e∈o.after.toList,Region.binds md e=true→listed.getD e.on false=true:=by
 unfold Region.ready
 simp only [List.mem_filter,List.mem_range,Bool.and_eq_true,Bool.not_eq_true']
 constructor
 ·rintro⟨h1,h2,h3⟩
  have e:=Array.getElem?_eq_getElem h1
  refine⟨_,e,h2,?_⟩
  rw [e] at h3
  simp only [Option.map_some,Option.getD_some,Array.all_eq_true_iff_forall_mem] at h3
  intro x hx hb
  have:=h3 x (by simpa using hx)
  rw [hb] at this
  simpa using this
 ·rintro⟨o,h1,h2,h3⟩
  have hi:i < ops.size:=(Array.getElem?_eq_some_iff.1 h1).1
  refine⟨hi,h2,?_⟩
  rw [h1]
  simp only [Option.map_some,Option.getD_some,Array.all_eq_true_iff_forall_mem]
  intro x hx
  cases hb:Region.binds md x with
  | false=>rfl
  | true=>simpa using h3 x (by simpa using hx) hb
theorem Ei {md:Region.Mode} {ord:List Nat} {ops:Array Oper} (p:Perm ops.size ord) {listed listed':Array Bool} (hz:listed.size=ops.size) (hz':listed'.size=ops.size) (hl: ∀i,i < ops.size→listed'[posOf ord i]?=listed[i]?) {i:Nat} (hi:i < ops.size) :
 posOf ord i∈Region.ready md (iJ ord ops.toList).toArray listed'↔i∈Region.ready md ops listed:=by
 have hg: ∀(k:Nat) (d:Bool),listed'.getD (posOf ord k) d=listed.getD k d:=by
  intro k d
  simp only [Array.getD_eq_getD_getElem?]
  rcases Nat.lt_or_ge k ops.size with h | h
  ·rw [hl k h]
  ·rw [p.ge (by omega),Array.getElem?_eq_none (by omega),Array.getElem?_eq_none (by omega)]
 rw [lU,lU,List.getElem?_toArray,rX p hi,hg]
 constructor
 ·rintro⟨o,h1,h2,h3⟩
  rw [Option.map_eq_some_iff] at h1
  obtain⟨o0,h0,rfl⟩:=h1
  refine⟨o0,h0,h2,fun e he hb=>?_⟩
  have:=h3 { e with on:=posOf ord e.on } (by
   simp only [DK,Array.toList_map,List.mem_map]
   exact⟨e,he,rfl⟩) hb
  rwa [hg] at this
 ·rintro⟨o,h1,h2,h3⟩
  refine⟨DK (posOf ord) o,by rw [h1]; rfl,h2,fun e he hb=>?_⟩
  simp only [DK,Array.toList_map,List.mem_map] at he
  obtain⟨e0,he0,rfl⟩:=he
  show listed'.getD (posOf ord e0.on) false=true
  rw [hg]
  exact h3 e0 he0 hb
theorem XK {md:Region.Mode} {ord:List Nat} {ops:Array Oper} (p:Perm ops.size ord) {Q:Exit→Act→World→Prop}: ∀(fuel:Nat) (listed listed':Array Bool) (a:Act) (w:World),listed.size=ops.size→listed'.size=ops.size→
 (∀i,i < ops.size→listed'[posOf ord i]?=listed[i]?)→wpAny P md (iJ ord ops.toList).toArray Q fuel listed' a w→wpAny P md ops Q fuel listed a w:=by
 have aCZ: ∀(listed listed':Array Bool),listed.size=ops.size→listed'.size=ops.size→(∀i,i < ops.size→listed'[posOf ord i]?=listed[i]?)→
  (Region.ready md (iJ ord ops.toList).toArray listed'= []↔Region.ready md ops listed= []):=by
  intro listed listed' hz hz' hl
  constructor
  ·intro h
   rw [List.eq_nil_iff_forall_not_mem] at h ⊢
   intro i hm
   have hi:i < ops.size:=by
    obtain⟨o,ho,_⟩:=lU.1 hm
    exact (Array.getElem?_eq_some_iff.1 ho).1
   exact h _ ((Ei p hz hz' hl hi).2 hm)
  ·intro h
   rw [List.eq_nil_iff_forall_not_mem] at h ⊢
   intro j hm
   have hj:j < ops.size:=by
    obtain⟨o,ho,_⟩:=lU.1 hm
    rw [List.getElem?_toArray] at ho
    rw [← vV p]
    exact (List.getElem?_eq_some_iff.1 ho).1
   obtain⟨i,_,h2,h3⟩:=p.back j hj
   subst h3
   exact h _ ((Ei p hz hz' hl h2).1 hm)
 intro fuel
 induction fuel with
 | zero=>
   intro listed listed' a w hz hz' hl h
   exact⟨(aCZ _ _ hz hz' hl).1 h.1,h.2⟩
 | succ fuel ih=>
   intro listed listed' a w hz hz' hl h
   refine⟨fun h0=>h.1 ((aCZ _ _ hz hz' hl).2 h0),fun i hm=>?_⟩
   have hi:i < ops.size:=by
    obtain⟨o,ho,_⟩:=lU.1 hm
    exact (Array.getElem?_eq_some_iff.1 ho).1
   have hh:=h.2 _ ((Ei p hz hz' hl hi).2 hm)
   have hstep: ∀a w,wpAny P md (iJ ord ops.toList).toArray Q fuel (listed'.setIfInBounds (posOf ord i) true) a w→wpAny P md ops Q fuel (listed.setIfInBounds i true) a w:=by
    intro a w hw
    refine ih _ _ a w (by simp [hz]) (by simp [hz']) (fun k hk=>?_) hw
    rw [Array.getElem?_setIfInBounds,Array.getElem?_setIfInBounds]
    by_cases hik:i=k
    ·subst hik
     rw [if_pos rfl,if_pos rfl,hz,hz',if_pos hi,if_pos (p.lt hi)]
    ·rw [if_neg hik,if_neg (fun h=>hik (p.inj hi hk h)),hl k hk]
   have h2:=wpOp_mono hstep hh
   unfold wpOp at h2 ⊢
   rw [List.getElem?_toArray,rX p hi] at h2
   cases ho:ops[i]? with
   | none=>rw [ho] at h2; exact h2
   | some o=>
     rw [ho] at h2
     simp only [Option.map_some] at h2 ⊢
     rw [Ve p,ajQ,Ym] at h2
     exact h2
structure aqK where
 ord:List Nat
 h:Xu
def apE (tt:TT) (H:Nat→Nat→Option aqK) (call:dU) (g id:Nat) (all:List Oper) (s:St):T St:=match H g id with
 | some p=>match p.ord with
   | []=>NV tt call all (statOf all p.h) s
   | o :: os=>match iJ (o :: os) all with
     | all'=>NV tt call all' (statOf all' p.h) s
 | none=> .fail
def aB6 (tt:TT) (H:Nat→Nat→Option aqK) (g id:Nat) (all:List Oper):Bool:=match H g id with
 | some p=>match p.ord with
   | []=>Bz tt all p.h
   | o :: os=>Tz (o :: os) all.length && Bz tt (iJ (o :: os) all) p.h
 | none=>true
theorem apD [Glob] {tt:TT} (htt:eG P tt) (hm:P.follows .mixedOrders=true) {H:Nat→Nat→Option aqK} {call:dU} (hc:jR P call) (g:Nat):BZ P (aB6 tt H g) (apE tt H call g):=by
 intro id ops hk E s s' a w Q hd fit h hq
 unfold aB6 at hk
 unfold apE at h
 split at hk
 ·rename_i p hp
  rw [hp] at h
  simp only at h
  split at hk
  ·rename_i he
   rw [he] at h
   have:=Iq hk
   refine auT htt hm hc id ops E s s' a w Q hd fit ?_ hq
   unfold draw
   rw [this]
   exact h
  ·rename_i o os he
   rw [he] at h
   simp only at h
   simp only [Bool.and_eq_true] at hk
   have hp:=aeK hk.1
   have hp:Perm ops.size (o :: os):=by simpa using hp
   have:=Iq hk.2
   refine wp_region_any hm ?_
   have hd': ∀x∈((iJ (o :: os) ops.toList).toArray).toList,∀d,x.dst=some d→d < a.tmps.size:=by
    intro x hx d hxd
    obtain⟨j,hj,rfl⟩:=List.getElem_of_mem hx
    have hj':j < ops.size:=by rw [← vV hp]; exact hj
    obtain⟨i,_,h2,h3⟩:=hp.back j hj'
    have hg:=rX hp h2
    rw [h3] at hg
    have hx2:(iJ (o :: os) ops.toList)[j]?=some ((iJ (o :: os) ops.toList).toArray.toList[j]):=by
     rw [List.getElem?_eq_getElem hj]
    rw [hx2] at hg
    rw [Array.getElem?_eq_getElem h2] at hg
    simp only [Option.map_some,Option.some.injEq] at hg
    rw [hg] at hxd
    exact hd (ops[i]) (by simp) d hxd
   have key:=NU (ops:=(iJ (o :: os) ops.toList).toArray) htt hc hd' fit (by
    unfold draw
    rw [this]
    exact h) hq
   have hsz:(iJ (o :: os) ops.toList).toArray.size=ops.size:=by simpa using vV hp
   rw [hsz] at key
   refine XK hp _ _ _ _ _ (by simp) (by simp) (fun i hi=>?_) key
   rw [Array.getElem?_replicate,Array.getElem?_replicate,if_pos hi,if_pos (hp.lt hi)]
 ·rename_i hh
  rw [hh] at h
  simp [T.leaf] at h
end
end
end Go.As
end
section
namespace Go.As
noncomputable section
def PU (h:Hp):List Nat→Tr dW→Tr dW
 | [],t=>t
 | i :: is,t=>match h.get i with
   | some o=>PU h is (t.put i (some o))
   | none=>PU h is t
theorem H9 {h:Hp}: ∀(is:List Nat) (t:Tr dW),(∀id o,t.get id=some o→h.get id=some o)→∀id o,(PU h is t).get id=some o→h.get id=some o
 | [],_,ht,id,o,hg=>ht id o hg
 | i :: is,t,ht,id,o,hg=>by
   simp only [PU] at hg
   split at hg
   ·rename_i x hx
    refine H9 is _ (fun j y hy=>?_) id o hg
    rw [Tr.get_put] at hy
    split at hy
    ·rename_i he
     subst he
     simp only [Option.some.injEq] at hy
     subst hy
     exact hx
    ·exact ht j y hy
   ·exact H9 is t ht id o hg
def H6:List (SE×List AV)→List (SE×List AV)→Bool
 | [],[]=>true
 | (i,a) :: x,(j,b) :: y=>gB i j && jW a b && H6 x y
 | _,_=>false
theorem Pn: ∀{a b:List (SE×List AV)},H6 a b=true→a=b
 | [],[],_=>rfl
 | [],_ :: _,h=>by simp [H6] at h
 | _ :: _,[],h=>by simp [H6] at h
 | (i,a) :: x,(j,b) :: y,h=>by
   simp only [H6,Bool.and_eq_true] at h
   rw [bW _ _ h.1.1,gU _ _ h.1.2,Pn h.2]
def Td:dW→dW→Bool
 | .cells a e,.cells b f=>jW a b && Nat.beq e f
 | .vec a t e x,.vec b u f y=>gB a b && Nat.beq t u && Nat.beq e f && H6 x y
 | _,_=>false
theorem Yj {a b:dW} (h:Td a b=true):a=b:=by
 cases a <;> cases b <;> simp only [Td,Bool.false_eq_true,Bool.and_eq_true] at h
 ·rw [gU _ _ h.1,Nat.eq_of_beq_eq_true h.2]
 ·rw [bW _ _ h.1.1.1,Nat.eq_of_beq_eq_true h.1.1.2,Nat.eq_of_beq_eq_true h.1.2,Pn h.2]
def I8 {α:Type} (f:α→α→Bool):Tr α→Tr α→Bool
 | .nil,.nil=>true
 | .node v l r,.node u x y=>(match v,u with | some a,some b=>f a b | none,none=>true | _,_=>false) && I8 f l x && I8 f r y
 | _,_=>false
theorem Fg {α:Type} {f:α→α→Bool} (hf: ∀a b,f a b=true→a=b): ∀(a b:Tr α),I8 f a b=true→a=b
 | .nil,b,h=>by cases b <;> simp [I8] at h; rfl
 | .node v l r,b,h=>by
   cases b with
   | nil=>simp [I8] at h
   | node u x y=>
     simp only [I8,Bool.and_eq_true] at h
     rw [Fg hf l x h.1.2,Fg hf r y h.2]
     have h1:=h.1.1
     cases v <;> cases u <;> simp only [Bool.false_eq_true] at h1
     ·rfl
     ·rw [hf _ _ h1]
def inL (i:Nat):List Nat→Bool
 | []=>false
 | j :: l=>match Nat.beq i j with
   | true=>true
   | false=>inL i l
theorem TY {i:Nat}: ∀{l:List Nat},inL i l=true↔i∈l
 | []=>by simp [inL]
 | j :: l=>by
   simp only [inL,List.mem_cons]
   split
   ·rename_i h; simp [Nat.eq_of_beq_eq_true h]
   ·rename_i h; rw [TY]; simp [Nat.ne_of_beq_eq_false h]
def without (i:Nat):List Nat→List Nat
 | []=>[]
 | j :: l=>match Nat.beq i j with
   | true=>without i l
   | false=>j :: without i l
theorem vW {i k:Nat}: ∀{l:List Nat},k∈without i l↔k∈l∧k≠i
 | []=>by simp [without]
 | j :: l=>by
   simp only [without]
   split
   ·rename_i h
    have:=Nat.eq_of_beq_eq_true h
    subst this
    rw [vW]
    simp only [List.mem_cons]
    constructor
    ·rintro⟨h1,h2⟩; exact⟨.inr h1,h2⟩
    ·rintro⟨h1 | h1,h2⟩
     ·exact absurd h1 h2
     ·exact⟨h1,h2⟩
   ·rename_i h
    have:=Nat.ne_of_beq_eq_false h
    simp only [List.mem_cons]
    rw [vW]
    constructor
    ·rintro (rfl | ⟨h1,h2⟩)
     ·exact⟨.inl rfl,fun e=>this e.symm⟩
     ·exact⟨.inr h1,h2⟩
    ·rintro⟨h1 | h1,h2⟩
     ·exact .inl h1
     ·exact .inr ⟨h1,h2⟩
def QD (all:List Oper) (rem:List Nat) (i:Nat):Bool:=match gI all i with
 | some o=>o.after.toList.all fun e=>!Region.binds .any e || (!inL e.on rem && Nat.blt e.on all.length)
 | none=>false
def Xk (tt:TT) (call:dU) (all:List Oper) (pc:List (SB×Bool)) (tS:Tr AV) (tH:Hp):Nat→List Nat→Tr AV→Hp→Bool
 | 0,rem,S,H=>match rem with
   | []=>I8 eU S tS && I8 Td H.m tH.m && Nat.beq H.next tH.next && (match H.res with | none=>true | _=>false)
   | _=>false
 | n+1,rem,S,H=>match rem with
   | []=>false
   | _=>rem.any (QD all rem) && rem.all fun i=>match QD all rem i with
     | false=>true
     | true=>match gI all i with
       | some o=>match ev1 tt call all o ⟨S,H,pc⟩ with
         | .ret (v,s')=>Xk tt call all pc tS tH n (without i rem) (AO S o.dst v) s'.h
         | _=>false
       | none=>false
section
variable {P:Program}
theorem ajD {E:En} {h:Array Obj} {S:Tr AV} {a:Act} (sr:SR E h S a) {d:Option Nat} {v:AV} {u:Value} (hd: ∀t,d=some t→t < a.tmps.size) (hv:VR E h v u):SR E h (AO S d v) (a.put d u):=by
 cases d with
 | none=>exact sr
 | some t=>exact sr.put (hd t rfl) hv
theorem aqG [Glob] {tt:TT} (htt:eG P tt) {call:dU} (hc:jR P call) {ops:Array Oper} {ρ:Nat→Int} {pc:List (SB×Bool)} (hpc:bI ρ pc) {tS:Tr AV} {tH:Hp} (htr:tH.res=none) {Q:Exit→Act→World→Prop} {m:Nat} (hd: ∀o∈ops.toList,∀d,o.dst=some d→d < m) :
 ∀(n:Nat) (rem:List Nat) (S:Tr AV) (H:Hp) (E:En) (a:Act) (w:World) (listed:Array Bool),Xk tt call ops.toList pc tS tH n rem S H=true→E.ρ=ρ→bG E H w→SR E w.heap S a→a.tmps.size=m→listed.size=ops.size→
  (∀i,i < ops.size→(listed[i]?=some true↔i∉rem))→(∀i∈rem,i < ops.size)→
  (∀(a':Act) (w':World) (E':En),Stp E H w E' tH w'→bG E' tH w'→SR E' w'.heap tS a'→a'.tmps.size=m→a'.defers=a.defers→Q .normal a' w')→wpAny P .any ops Q n listed a w:=by
 intro n
 have hat: ∀(i:Nat),gI ops.toList i=ops[i]?:=fun i=>by rw [dB,Array.getElem?_toList]
 have ajR: ∀(rem:List Nat) (listed:Array Bool),listed.size=ops.size→(∀i,i < ops.size→(listed[i]?=some true↔i∉rem))→∀i,i∈Region.ready .any ops listed→i∈rem∧QD ops.toList rem i=true∧i < ops.size:=by
  intro rem listed hsz hl i hi
  obtain⟨o,ho,h1,h2⟩:=lU.1 hi
  have hin:i < ops.size:=(Array.getElem?_eq_some_iff.1 ho).1
  have hf:listed[i]?=some false:=by
   have e:listed[i]?=some (listed[i]'(by omega)):=by simp
   rw [e]
   simp only [Array.getD_eq_getD_getElem?,e,Option.getD_some] at h1
   rw [h1]
  refine⟨?_,?_,hin⟩
  ·apply Classical.byContradiction
   intro hn
   rw [(hl i hin).2 hn] at hf
   simp at hf
  ·unfold QD
   rw [hat,ho]
   simp only [List.all_eq_true]
   intro e he
   cases hb:Region.binds .any e with
   | false=>rfl
   | true=>
     have:=h2 e he hb
     have hlt:e.on < ops.size:=by
      rcases Nat.lt_or_ge e.on ops.size with h | h
      ·exact h
      ·simp [Array.getD_eq_getD_getElem?,Array.getElem?_eq_none (show listed.size≤e.on by omega)] at this
     simp only [Bool.not_true,Bool.false_or,Bool.and_eq_true,Bool.not_eq_true']
     refine⟨?_,by simpa [Nat.blt_eq] using hlt⟩
     cases hin2:inL e.on rem with
     | false=>rfl
     | true=>
       exfalso
       have hm:=TY.1 hin2
       have e1:listed[e.on]?=some (listed[e.on]'(by omega)):=by simp [hsz,hlt]
       simp only [Array.getD_eq_getD_getElem?,e1,Option.getD_some] at this
       rw [this] at e1
       exact (hl e.on hlt).1 e1 hm
 have aAc: ∀(rem:List Nat) (listed:Array Bool),listed.size=ops.size→(∀i,i < ops.size→(listed[i]?=some true↔i∉rem))→(∀i∈rem,i < ops.size)→rem.any (QD ops.toList rem)=true→Region.ready .any ops listed≠[]:=by
  intro rem listed hsz hl hr hany hnil
  rw [List.any_eq_true] at hany
  obtain⟨i,hi,hm⟩:=hany
  have hin:=hr i hi
  have:i∈Region.ready .any ops listed:=by
   rw [lU]
   unfold QD at hm
   rw [hat] at hm
   split at hm
   ·rename_i o ho
    refine⟨o,ho,?_,fun e he hb=>?_⟩
    ·have e1:listed[i]?=some (listed[i]'(by omega)):=by simp [hsz,hin]
     simp only [Array.getD_eq_getD_getElem?,e1,Option.getD_some]
     cases hb:listed[i]'(by omega) with
     | false=>rfl
     | true=>
       rw [hb] at e1
       exact absurd hi ((hl i hin).1 e1)
    ·rw [List.all_eq_true] at hm
     have:=hm e he
     rw [hb] at this
     simp only [Bool.not_true,Bool.false_or,Bool.and_eq_true,Bool.not_eq_true'] at this
     obtain⟨this,hlt⟩:=this
     have hlt:e.on < ops.size:=by simpa [Nat.blt_eq] using hlt
     have hnot:e.on∉rem:=fun h=>by rw [TY.2 h] at this; simp at this
     have:=(hl e.on hlt).2 hnot
     simp [Array.getD_eq_getD_getElem?,this]
   ·simp at hm
  rw [hnil] at this
  simp at this
 induction n with
 | zero=>
   intro rem S H E a w listed h hρ r sr ha hsz hl hr hq
   simp only [Xk] at h
   split at h
   ·simp only [Bool.and_eq_true] at h
    obtain⟨⟨⟨h1,h2⟩,h3⟩,h4⟩:=h
    have e1:=Fg nJ _ _ h1
    have e2:=Fg (fun _ _=>Yj) _ _ h2
    have e3:=Nat.eq_of_beq_eq_true h3
    have e4:H.res=none:=by
     split at h4
     ·assumption
     ·simp at h4
    have eH:H=tH:=by
     obtain⟨m1,n1,r1⟩:=H
     obtain⟨m2,n2,r2⟩:=tH
     simp only at e2 e3 e4 htr
     subst e2 e3 e4 htr
     rfl
    subst e1 eH
    refine⟨?_,hq a w E (Stp.refl _ _ _) r sr ha rfl⟩
    rw [List.eq_nil_iff_forall_not_mem]
    intro i hi
    have:=(ajR [] listed hsz hl i hi).1
    simp at this
   ·simp at h
 | succ n ih=>
   intro rem S H E a w listed h hρ r sr ha hsz hl hr hq
   simp only [Xk] at h
   split at h
   ·simp at h
   ·rename_i hne
    simp only [Bool.and_eq_true] at h
    refine⟨fun h0=>absurd h0 (aAc rem listed hsz hl hr h.1),fun i hi=>?_⟩
    obtain⟨g1,g2,g3⟩:=ajR rem listed hsz hl i hi
    have hi2:=(List.all_eq_true.1 h.2) i g1
    rw [g2] at hi2
    simp only at hi2
    split at hi2
    ·rename_i o ho
     have ho':ops[i]?=some o:=by rw [← hat]; exact ho
     split at hi2
     ·rename_i v s' hev
      have hact:=UD htt hc (ops:=ops) (o:=o) (s:=⟨S,H,pc⟩) (s':=s') (v:=v) (ρ:=ρ) hpc (by rw [hev]; rfl)
      refine hact.wpOp hρ r sr ho' fun u E' w' st r' hv=>?_
      have hdo: ∀t,o.dst=some t→t < a.tmps.size:=by
       intro t ht
       rw [ha]
       exact hd o (Array.mem_toList_iff.2 (Array.mem_of_getElem? ho')) t ht
      have sr':SR E' w'.heap (AO S o.dst v) (a.put o.dst u):=ajD (sr.keep (st.keeps r)) hdo hv
      refine ih (without i rem) _ _ E' (a.put o.dst u) w' (listed.setIfInBounds i true) hi2 (st.ρ.trans hρ) r' sr' (by rw [LJ]; exact ha) (by simpa using hsz) ?_ ?_ ?_
      ·intro k hk
       rw [Array.getElem?_setIfInBounds,vW]
       by_cases hik:i=k
       ·subst hik
        rw [if_pos rfl,if_pos (by omega)]
        simp
       ·rw [if_neg hik,hl k hk]
        constructor
        ·intro h1 h2; exact h1 h2.1
        ·intro h1 h2; exact h1 ⟨h2,fun e=>hik e.symm⟩
      ·intro k hk
       exact hr k (vW.1 hk).1
      ·intro a' w2 E2 st2 r2 sr2 hs2 hd2
       exact hq a' w2 E2 (st.trans st2) r2 sr2 hs2 (by rw [hd2,As.put_defers])
     ·simp at hi2
    ·simp at hi2
end
end
end Go.As
end
section
namespace Go.As
noncomputable section
def NR (o:Oper) (j:Nat):Bool:=o.after.toList.any fun e=>Region.binds .any e && Nat.beq e.on j
def SY (n1:Nat) (all:List Oper):Bool:=
 Nat.blt 0 n1 && Nat.ble n1 all.length &&
 (List.range all.length).all (fun j=>match gI all j with
  | some o=>match Nat.blt j n1 with
    | true=>(o.after.toList.all fun e=>!Region.binds .any e || Nat.blt e.on j) && (match o.guard with | some (k,_)=>Nat.blt k n1 | none=>true)
    | false=>NR o (n1 - 1)
  | none=>false) &&
 (match gI all (n1 - 1) with
  | some o=>(List.range (n1 - 1)).all fun i=>NR o i
  | none=>false)
structure ZE (n1:Nat) (ops:Array Oper):Prop where
 pos:0 < n1
 le:n1≤ops.size
 back: ∀(i:Nat) (o:Oper),i < n1→ops[i]?=some o→∀e∈o.after.toList,Region.binds .any e=true→e.on < i
 guard: ∀(i:Nat) (o:Oper),i < n1→ops[i]?=some o→∀k b,o.guard=some (k,b)→k < n1
 late: ∀(i:Nat) (o:Oper),n1≤i→ops[i]?=some o→∃e∈o.after.toList,Region.binds .any e=true∧e.on=n1 - 1
 last: ∀(o:Oper),ops[n1 - 1]?=some o→∀i,i < n1 - 1→∃e∈o.after.toList,Region.binds .any e=true∧e.on=i
theorem Ro {o:Oper} {j:Nat} (h:NR o j=true): ∃e∈o.after.toList,Region.binds .any e=true∧e.on=j:=by
 unfold NR at h
 rw [List.any_eq_true] at h
 obtain⟨e,he,h⟩:=h
 simp only [Bool.and_eq_true] at h
 exact⟨e,he,h.1,Nat.eq_of_beq_eq_true h.2⟩
theorem Yg {n1:Nat} {ops:Array Oper} (h:SY n1 ops.toList=true):ZE n1 ops:=by
 have hat: ∀(i:Nat),gI ops.toList i=ops[i]?:=fun i=>by rw [dB,Array.getElem?_toList]
 unfold SY at h
 simp only [Bool.and_eq_true] at h
 obtain⟨⟨⟨h1,h2⟩,h3⟩,h4⟩:=h
 have h1:0 < n1:=by simpa [Nat.blt_eq] using h1
 have h2:n1≤ops.size:=by simpa using Nat.le_of_ble_eq_true h2
 rw [List.all_eq_true] at h3
 have h3: ∀(i:Nat) (o:Oper),ops[i]?=some o→(match Nat.blt i n1 with
  | true=>(o.after.toList.all fun e=>!Region.binds .any e || Nat.blt e.on i) && (match o.guard with | some (k,_)=>Nat.blt k n1 | none=>true)
  | false=>NR o (n1 - 1))=true:=by
  intro i o ho
  have hi:i < ops.size:=(Array.getElem?_eq_some_iff.1 ho).1
  have:=h3 i (List.mem_range.2 (by simpa using hi))
  rw [hat,ho] at this
  exact this
 refine⟨h1,h2,?_,?_,?_,?_⟩
 ·intro i o hi ho e he hb
  have:=h3 i o ho
  rw [show Nat.blt i n1=true by simpa [Nat.blt_eq] using hi] at this
  simp only [Bool.and_eq_true] at this
  have:=(List.all_eq_true.1 this.1) e he
  rw [hb] at this
  simpa [Nat.blt_eq] using this
 ·intro i o hi ho k b hg
  have:=h3 i o ho
  rw [show Nat.blt i n1=true by simpa [Nat.blt_eq] using hi] at this
  simp only [Bool.and_eq_true,hg] at this
  simpa [Nat.blt_eq] using this.2
 ·intro i o hi ho
  have:=h3 i o ho
  rw [show Nat.blt i n1=false by
   cases hb:Nat.blt i n1 with
   | false=>rfl
   | true=>rw [Nat.blt_eq] at hb; omega] at this
  exact Ro this
 ·intro o ho i hi
  rw [hat,ho] at h4
  exact Ro ((List.all_eq_true.1 h4) i (List.mem_range.2 hi))
section
variable {P:Program}
theorem wp_exit {o:Oper} {a:Act} {w:World} {K:Act→World→Prop} {Q1 Q:Exit→Act→World→Prop} (h: ∀e a w,e≠.normal→Q1 e a w→Q e a w) (hh:o.wp P a w K Q1):o.wp P a w K Q:=by
 have hl:LetsOut Q1→LetsOut Q:=fun⟨a,w,h1⟩=> ⟨a,w,h _ _ _ (by simp) h1⟩
 unfold Oper.wp at *
 generalize (execOp a.eval o).run P w=r at *
 cases r with
 | ok n w'=>
   cases n <;> simp only [Oper.upon] at hh ⊢ <;>
    first
     | exact hh
     | exact Calls.mono hh (fun e w'' he=>by cases e <;> first | exact he | exact h _ _ _ (by simp) he | exact hl he)
 | halt x w'=>cases x <;> simp only [Oper.upon] at hh ⊢ <;> first | exact hh | exact h _ _ _ (by simp) hh
theorem VT {l l':Nat→Bool} {i:Nat} (h1:l i=false) (h2:l' i=true) (h: ∀j,j≠i→l' j=l j): ∀n,i < n→left l' n+1=left l n
 | 0,hi=>by omega
 | n+1,hi=>by
   simp only [left]
   by_cases hin:i=n
   ·subst hin
    have: ∀m,m≤i→left l' m=left l m:=by
     intro m
     induction m with
     | zero=>intro _; rfl
     | succ m ih=>
       intro hm
       simp only [left]
       rw [ih (by omega),h m (by omega)]
    rw [this i (Nat.le_refl _)]
    simp [h1,h2]
   ·have:=VT h1 h2 h n (by omega)
    rw [h n (fun e=>hin e.symm)]
    omega
theorem MI {l:Nat→Bool}: ∀n,(∀i,i < n→l i=true)→left l n=0
 | 0,_=>rfl
 | n+1,h=>by
   simp only [left]
   rw [MI n (fun i hi=>h i (by omega)),h n (by omega)]
   rfl
def firstT (n1 n:Nat):Array Bool:=(Array.range n).map fun i=>decide (i < n1)
theorem Vb {n1:Nat} {ops:Array Oper} (sf:ZE n1 ops) {Q Q1:Exit→Act→World→Prop} (hq: ∀e a w,e≠.normal→Q1 e a w→Q e a w) (hn: ∀a w,Q1 .normal a w→wpAny P .any ops Q (ops.size - n1) (firstT n1 ops.size) a w) :
 ∀(f:Nat) (l1 l:Array Bool) (a:Act) (w:World),l1.size=n1→l.size=ops.size→(∀i,i < n1→l[i]?=l1[i]?)→(∀i,n1≤i→i < ops.size→l[i]?=some false)→left (fun i=>l1.getD i true) n1=f→(l1[n1 - 1]?=some true→f=0)→
  wpAny P .any (ops.toList.take n1).toArray Q1 f l1 a w→wpAny P .any ops Q (f+(ops.size - n1)) l a w:=by
 have hR: ∀i,i < n1→(ops.toList.take n1).toArray[i]?=ops[i]?:=by
  intro i hi
  rw [List.getElem?_toArray,List.getElem?_take,if_pos hi,Array.getElem?_toList]
 have hRs:(ops.toList.take n1).toArray.size=n1:=by
  have:=sf.le
  simp
  omega
 have hlf:LetsOut Q1→LetsOut Q:=fun⟨a,w,h1⟩=> ⟨a,w,hq _ _ _ (by simp) h1⟩
 have hget: ∀(l:Array Bool) (i:Nat),i < l.size→(l.getD i true=true↔l[i]?=some true)∧(l.getD i false=true↔l[i]?=some true):=by
  intro l i hi
  have e:l[i]?=some (l[i]'hi):=by simp
  simp only [Array.getD_eq_getD_getElem?,e,Option.getD_some]
  simp
 intro f
 induction f with
 | zero=>
   intro l1 l a w h1 h2 h3 h4 h5 h6 hw
   have hall:=Il n1 h5
   have:l=firstT n1 ops.size:=by
    apply Array.ext_getElem?
    intro i
    unfold firstT
    rcases Nat.lt_or_ge i ops.size with hi | hi
    ·rw [Array.getElem?_map,Array.getElem?_range,if_pos hi]
     rcases Nat.lt_or_ge i n1 with hi1 | hi1
     ·rw [h3 i hi1,((hget l1 i (by omega)).1.1 (hall i hi1))]
      simp [hi1]
     ·rw [h4 i hi1 hi]
      simp
      omega
    ·rw [Array.getElem?_eq_none (by omega),Array.getElem?_eq_none (by simp; omega)]
   rw [this,Nat.zero_add]
   exact hn a w hw.2
 | succ f ih=>
   intro l1 l a w h1 h2 h3 h4 h5 h6 hw
   rw [show f+1+(ops.size - n1)=(f+(ops.size - n1))+1 by omega]
   have hle:=sf.le
   have hpos:=sf.pos
   have hlast:l1[n1 - 1]?=some true→False:=fun h=>by have:=h6 h; omega
   refine⟨fun hnil=>?_,fun i hi=>?_⟩
   ·exfalso
    have hall: ∀i,i < n1→l[i]?=some true:=by
     intro i
     induction i using Nat.strongRecOn with
     | _ i ih2=>
       intro hi
       apply Classical.byContradiction
       intro hno
       have hio:ops[i]?=some (ops[i]'(by omega)):=by simp
       have:i∈Region.ready .any ops l:=by
        rw [lU]
        refine⟨_,hio,?_,fun e he hb=>?_⟩
        ·cases hb:l.getD i true with
         | false=>rfl
         | true=>exact absurd ((hget l i (by omega)).1.1 hb) hno
        ·have hlt:=sf.back i _ hi hio e he hb
         exact (hget l e.on (by omega)).2.2 (ih2 e.on hlt (by omega))
       rw [hnil] at this
       simp at this
    have:=MI (l:=fun i=>l1.getD i true) n1 (fun i hi=>(hget l1 i (by omega)).1.2 (by rw [← h3 i hi]; exact hall i hi))
    omega
   ·obtain⟨o,ho,g1,g2⟩:=lU.1 hi
    have hin:i < ops.size:=(Array.getElem?_eq_some_iff.1 ho).1
    have hi1:i < n1:=by
     rcases Nat.lt_or_ge i n1 with h | h
     ·exact h
     ·exfalso
      obtain⟨e,e1,e2,e3⟩:=sf.late i o h ho
      have:=g2 e e1 e2
      rw [e3] at this
      have:=(hget l (n1 - 1) (by omega)).2.1 this
      rw [h3 _ (by omega)] at this
      exact hlast this
    have hl1:l1.getD i true=false:=by
     cases hb:l1.getD i true with
     | false=>rfl
     | true=>
       have:=(hget l1 i (by omega)).1.1 hb
       rw [← h3 i hi1] at this
       have:=(hget l i (by omega)).1.2 this
       rw [g1] at this
       simp at this
    have hed: ∀e∈o.after.toList,Region.binds .any e=true→l1.getD e.on false=true:=by
     intro e he hb
     have hlt:=sf.back i o hi1 ho e he hb
     have:=(hget l e.on (by omega)).2.1 (g2 e he hb)
     rw [h3 _ (by omega)] at this
     exact (hget l1 e.on (by omega)).2.2 this
    have hr1:i∈Region.ready .any (ops.toList.take n1).toArray l1:=by
     rw [lU]
     exact⟨o,by rw [hR i hi1]; exact ho,hl1,hed⟩
    have hop:=hw.2 i hr1
    have hnext: ∀a w,wpAny P .any (ops.toList.take n1).toArray Q1 f (l1.setIfInBounds i true) a w→wpAny P .any ops Q (f+(ops.size - n1)) (l.setIfInBounds i true) a w:=by
     intro a w hw2
     have hleft:left (fun j=>(l1.setIfInBounds i true).getD j true) n1=f:=by
      have:=VT (l:=fun j=>l1.getD j true) (l':=fun j=>(l1.setIfInBounds i true).getD j true) (i:=i) hl1 (by
       simp only [Array.getD_eq_getD_getElem?,Array.getElem?_setIfInBounds_self]
       split <;> rfl) (fun j hj=>by
       simp only [Array.getD_eq_getD_getElem?]
       rw [Array.getElem?_setIfInBounds_ne (fun e=>hj e.symm)]) n1 hi1
      omega
     refine ih _ _ a w (by simpa using h1) (by simpa using h2) (fun k hk=>?_) (fun k hk1 hk2=>?_) hleft (fun hlt=>?_) hw2
     ·rw [Array.getElem?_setIfInBounds,Array.getElem?_setIfInBounds,h3 k hk,h1,h2]
      by_cases hik:i=k
      ·rw [if_pos hik,if_pos hik,if_pos hin,if_pos hi1]
      ·rw [if_neg hik,if_neg hik]
     ·rw [Array.getElem?_setIfInBounds_ne (by omega)]
      exact h4 k hk1 hk2
     ·by_cases hil:i=n1 - 1
      ·rw [← hleft]
       refine MI n1 fun k hk=>?_
       by_cases hk2:k=i
       ·subst hk2
        simp only [Array.getD_eq_getD_getElem?,Array.getElem?_setIfInBounds_self]
        split <;> rfl
       ·obtain⟨e,e1,e2,e3⟩:=sf.last o (by rw [← hil]; exact ho) k (by omega)
        have:=hed e e1 e2
        rw [e3] at this
        have:=(hget l1 k (by omega)).2.1 this
        simp only [Array.getD_eq_getD_getElem?]
        rw [Array.getElem?_setIfInBounds_ne (fun e=>hk2 e.symm),this]
        rfl
      ·rw [Array.getElem?_setIfInBounds_ne hil] at hlt
       exact absurd hlt hlast
    have hop:=wpOp_mono hnext hop
    unfold wpOp at hop ⊢
    rw [hR i hi1,ho] at hop
    rw [ho]
    simp only at hop ⊢
    have hwant:Region.wanted o (yielded (ops.toList.take n1).toArray a.tmps)=Region.wanted o (yielded ops a.tmps):=by
     unfold Region.wanted
     cases hg:o.guard with
     | none=>rfl
     | some g=>
       obtain⟨k,b⟩:=g
       simp only
       have:=sf.guard i o hi1 ho k b hg
       unfold yielded
       rw [hR k this]
    rw [hwant] at hop
    split
    ·rename_i hwt
     rw [if_pos hwt] at hop
     rcases hop with h | ⟨h,h'⟩
     ·exact .inl (wp_exit hq h)
     ·exact .inr ⟨h,hlf h'⟩
    ·rename_i hwt
     rw [if_neg hwt] at hop
     exact hop
end
end
end Go.As
end
section
namespace Go.As
noncomputable section
def LD (n1 n:Nat):List Nat:=(List.range (n - n1)).map fun k=>k+n1
def aCO:AV→List Nat
 | .ptr i _=>[i]
 | .slice i _ _ _=>[i]
 | _=>[]
def aAz (S:Tr AV):List Nat→List Nat
 | []=>[]
 | t :: ts=>match S.get t with
   | some v=>aCO v++aAz S ts
   | none=>aAz S ts
def abZ (all:List Oper) (S:Tr AV):List Nat→List Nat
 | []=>[]
 | i :: is=>match gI all i with
   | some o=>aAz S (LX o.op)++abZ all S is
   | none=>abZ all S is
def ajH (tt:TT) (call:dU) (all:List Oper) (pc:List (SB×Bool)):List Nat→Tr AV→Hp→Option (Tr AV×Hp)
 | [],S,H=>some (S,H)
 | i :: is,S,H=>match gI all i with
   | some o=>match ev1 tt call all o ⟨S,H,pc⟩ with
     | .ret (v,s')=>ajH tt call all pc is (AO S o.dst v) s'.h
     | _=>none
   | none=>none
def UK (tt:TT) (call:dU) (all:List Oper) (n1:Nat) (s1:St):T St:=
 match s1.h.res with
 | some _=> .fail
 | none=>match (⟨PU s1.h (abZ all s1.slots (LD n1 all.length)) .nil,s1.h.next,none⟩ : Hp) with
   | small=>match ajH tt call all s1.pc (LD n1 all.length) s1.slots small with
     | some (S,H)=>match H.res with
       | none=>match Nat.beq H.next s1.h.next && Xk tt call all s1.pc S H (all.length - n1) (LD n1 all.length) s1.slots small with
         | true=> .ret ⟨S,⟨Tr.over H.m (Tr.minus small.m s1.h.m),s1.h.next,none⟩,s1.pc⟩
         | false=> .fail
       | some _=> .fail
     | none=> .fail
structure RY where
 ord:List Nat
 n1:Nat
 h:Xu
def Ru (tt:TT) (H:Nat→Nat→Option RY) (call:dU) (g id:Nat) (all:List Oper) (s:St):T St:=match H g id with
 | some p=>match p.n1 with
   | 0=>match p.ord with
     | []=>NV tt call all (statOf all p.h) s
     | o :: os=>match iJ (o :: os) all with
       | all'=>NV tt call all' (statOf all' p.h) s
   | n1=>(NV tt call (all.take n1) (statOf (all.take n1) p.h) s).bind (UK tt call all n1)
 | none=> .fail
def UU (tt:TT) (H:Nat→Nat→Option RY) (g id:Nat) (all:List Oper):Bool:=match H g id with
 | some p=>match p.n1 with
   | 0=>match p.ord with
     | []=>Bz tt all p.h
     | o :: os=>Tz (o :: os) all.length && Bz tt (iJ (o :: os) all) p.h
   | n1=>SY n1 all && Bz tt (all.take n1) p.h
 | none=>true
section
variable {P:Program}
theorem QC {n1 n i:Nat} (h:n1≤n):i∈LD n1 n↔n1≤i∧i < n:=by
 unfold LD
 rw [List.mem_map]
 constructor
 ·rintro⟨k,hk,rfl⟩
  rw [List.mem_range] at hk
  omega
 ·rintro⟨h1,h2⟩
  exact⟨i - n1,List.mem_range.2 (by omega),by omega⟩
theorem afC (n:Nat): ∀m,m≤n→left (fun i=>(Array.replicate n false).getD i true) m=m:=by
 intro m
 induction m with
 | zero=>intro _; rfl
 | succ m ih=>
   intro hm
   have hlt:m < n:=by omega
   simp only [left]
   rw [ih (by omega)]
   simp [hlt]
theorem Zu [Glob] {tt:TT} (htt:eG P tt) {call:dU} (hc:jR P call) {ops:Array Oper} {n1:Nat} (sf:ZE n1 ops) {E:En} {s s1 s':St} {a a1:Act} {w w1:World} {Q:Exit→Act→World→Prop}
 (hd: ∀o∈ops.toList,∀d,o.dst=some d→d < a.tmps.size) (ht:Then E s a w s1 a1 w1) (h:(UK tt call ops.toList n1 s1).leaf E.ρ=some s') (hq: ∀a' w',Then E s a w s' a' w'→Q .normal a' w') :
 wpAny P .any ops Q (ops.size - n1) (firstT n1 ops.size) a1 w1:=by
 obtain⟨d1,z1,E1,st1,f1⟩:=ht
 have hlen:ops.toList.length=ops.size:=Array.length_toList
 unfold UK at h
 split at h
 ·simp [T.leaf] at h
 ·rename_i hres
  simp only at h
  split at h
  ·rename_i S H hseq
   split at h
   ·rename_i hHr
    split at h
    ·rename_i hall
     simp only [Bool.and_eq_true] at hall
     have hnx:=Nat.eq_of_beq_eq_true hall.1
     have:=aF h
     subst this
     have hsub: ∀id o,(⟨PU s1.h (abZ ops.toList s1.slots (LD n1 ops.toList.length)) .nil,s1.h.next,none⟩ : Hp).get id=some o→s1.h.get id=some o:=
      fun id o hg=>H9 _ _ (fun _ _ hh=>by simp [Tr.get] at hh) id o hg
     have rs:=f1.rel.part hsub (Nat.le_refl _) (by simp)
     have hpc:bI E1.ρ s1.pc:=f1.pc
     have hal:=hall.2
     rw [hlen] at hal
     refine aqG htt hc (ops:=ops) (ρ:=E1.ρ) (pc:=s1.pc) hpc hHr (m:=a.tmps.size) hd (ops.size - n1) (LD n1 ops.size) s1.slots _ E1 a1 w1 (firstT n1 ops.size) hal rfl (by rw [hlen] at rs; exact rs) f1.sr z1 (by simp [firstT]) ?_ ?_ ?_
     ·intro i hi
      rw [QC sf.le]
      unfold firstT
      rw [Array.getElem?_map,Array.getElem?_range,if_pos hi]
      simp only [Option.map_some,Option.some.injEq,decide_eq_true_eq]
      omega
     ·intro i hi
      exact ((QC sf.le).1 hi).2
     ·intro a2 w2 E2 st2 r2 sr2 z2 d2
      rw [hlen] at hsub
      obtain⟨Hc,e0,_,_,r3,Xw⟩:=amG f1.rel hsub st2 r2 s1.h.next (fun id hid=>r2.fresh id (by omega))
      have eF:=Xw.strong (by rw [e0]; exact Nat.le_refl _) (by rw [e0]) (fun id hdm=>by
       rcases st2.dmn id hdm with h1 | h1 | h1
       ·exact .inl h1
       ·have h1':s1.h.next≤id∧id < H.next:=h1
        omega
       ·simp at h1)
      subst e0
      refine hq a2 w2 ⟨d2.trans d1,z2,E2,st1.trans ?_,?_⟩
      ·rw [hlen]; exact eF
      ·refine⟨by rw [hlen]; exact r3,sr2,?_⟩
       show bI E2.ρ s1.pc
       rw [st2.ρ]
       exact hpc
    ·simp [T.leaf] at h
   ·simp [T.leaf] at h
  ·simp [T.leaf] at h
theorem Gq [Glob] {tt:TT} (htt:eG P tt) (hm:P.follows .mixedOrders=true) {H:Nat→Nat→Option RY} {call:dU} (hc:jR P call) (g:Nat):BZ P (UU tt H g) (Ru tt H call g):=by
 intro id ops hk E s s' a w Q hd fit h hq
 unfold UU at hk
 unfold Ru at h
 split at hk
 ·rename_i p hp
  rw [hp] at h
  simp only at h
  split at hk
  ·rename_i hn
   rw [hn] at h
   simp only at h
   have hP:=apD (P:=P) htt hm (H:=fun _ _=>some ⟨p.ord,p.h⟩) hc g id ops (by
    unfold aB6
    exact hk) E s s' a w Q hd fit (by
    unfold apE
    exact h) hq
   exact hP
  ·rename_i n1 hn
   split at h
   ·rename_i h0
    exact absurd h0 hn
   ·rename_i n1' _
    simp only [Bool.and_eq_true] at hk
    have sf:=Yg hk.1
    have hst:=Iq hk.2
    obtain⟨s1,h1,h2⟩:=T.fP h
    refine wp_region_any hm ?_
    have hle:=sf.le
    have hRs:(ops.toList.take p.n1).toArray.size=p.n1:=by simp; omega
    have hd1: ∀o∈(ops.toList.take p.n1).toArray.toList,∀d,o.dst=some d→d < a.tmps.size:=by
     intro o ho
     exact hd o (List.mem_of_mem_take (by simpa using ho))
    have key:=NU (P:=P) (ops:=(ops.toList.take p.n1).toArray) (Q:=fun e a' w'=>match e with | .normal=>wpAny P .any ops Q (ops.size - p.n1) (firstT p.n1 ops.size) a' w' | e=>Q e a' w') htt hc hd1 fit (s':=s1) (by
     unfold draw
     rw [List.toList_toArray,hst]
     exact h1) (fun a' w' ht=>Zu htt hc sf hd ht h2 hq)
    rw [hRs] at key
    have:=Vb sf (Q:=Q) (fun e a w hne hh=>by
     cases e with
     | normal=>exact absurd rfl hne
     | _=>exact hh) (fun a w hh=>hh) p.n1 (Array.replicate p.n1 false) (Array.replicate ops.size false) a _ (by simp) (by simp) (fun i hi=>by
     rw [Array.getElem?_replicate,Array.getElem?_replicate,if_pos hi,if_pos (by omega)]) (fun i _ hi=>by
     rw [Array.getElem?_replicate,if_pos hi]) (by
     exact afC p.n1 p.n1 (Nat.le_refl _)) (fun hh=>by
     rw [Array.getElem?_replicate,if_pos (by have:=sf.pos; omega)] at hh
     simp at hh) key
    rw [show p.n1+(ops.size - p.n1)=ops.size by omega] at this
    exact this
 ·rename_i hh
  rw [hh] at h
  simp [T.leaf] at h
end
end
end Go.As
end
section
namespace Go.As
noncomputable section
def lim {α:Type} (n:Nat) (t:Tr α) (k:Nat):Option α:=match Nat.ble n k with
 | true=>none
 | false=>t.get k
theorem abJ {α:Type} {n:Nat} {t:Tr α} {f:Nat→Option α} (h:(List.range n).map t.get=(List.range n).map f) {k:Nat} {x:α} (hk:lim n t k=some x):f k=some x:=by
 unfold lim at hk
 split at hk
 ·simp at hk
 ·rename_i hle
  have hlt:k < n:=by
   have: ¬(n≤k):=by
    intro h
    rw [Nat.ble_eq_true_of_le h] at hle
    simp at hle
   omega
  have:=congrArg (fun l=>l[k]?) h
  simp only [List.getElem?_map,List.getElem?_range hlt,Option.map_some,Option.some.injEq] at this
  rw [← this]
  exact hk
section
variable {P:Program}
theorem aqR {n:Nat} {tab:Tr TI} (h:(List.range n).map tab.get=(List.range n).map (aqX P)):eG P (lim n tab):=fun _ _ hk=>aqW (abJ h hk)
def aAg (chk:Nat→List Oper→Bool) (f:Func):Bool:=!(f.name == "runtime.NumGoroutine") && (match f.body with | some c=>mD chk f.ntmps c | none=>true)
def hAt {α:Type} (t:Tr (Tr α)) (g id:Nat):Option α:=match t.get g with
 | some u=>u.get id
 | none=>none
theorem atD {n:Nat} {Uc:Tr Func} (h:(List.range n).map Uc.get=(List.range n).map (fun g=>P.funcs[g]?)) {chk:Nat→Nat→List Oper→Bool} (hc:(List.range n).all (fun g=>match Uc.get g with | some f=>aAg (chk g) f | none=>true)=true):agI P chk (lim n Uc):=by
 intro g fn hk
 have h1:=abJ h hk
 refine⟨h1,?_⟩
 have hlt:g < n:=by
  unfold lim at hk
  split at hk
  ·simp at hk
  ·rename_i hle
   rcases Nat.lt_or_ge g n with h | h
   ·exact h
   ·rw [Nat.ble_eq_true_of_le h] at hle; simp at hle
 have hget:Uc.get g=some fn:=by
  unfold lim at hk
  split at hk
  ·simp at hk
  ·exact hk
 have:=List.all_eq_true.1 hc g (List.mem_range.2 hlt)
 rw [hget] at this
 simp only [aAg,Bool.and_eq_true,Bool.not_eq_true'] at this
 refine⟨this.1,fun c hb=>?_⟩
 rw [hb] at this
 exact this.2
end
end
end Go.As
end
section
namespace Go.As
noncomputable section
structure Ren where
 ns:List SE
 bl:List Nat
 sh:List Nat
def Ren.se (r:Ren):SE→SE
 | .lit n=> .lit n
 | .aQ i=>match gI r.ns i with | some e=>e | none=> .aQ i
 | .add a b=> .add (r.se a) (r.se b)
 | .sub a b=> .sub (r.se a) (r.se b)
 | .mul a b=> .mul (r.se a) (r.se b)
 | .quo a b=> .quo (r.se a) (r.se b)
 | .rem a b=> .rem (r.se a) (r.se b)
 | .wrap k a=> .wrap k (r.se a)
 | .inp b e=> .inp b (r.se e)
 | .dat d=> .dat d
 | .op o a b=>match o with
   | .len=>eP (r.se a)
   | o=> .op o (r.se a) (r.se b)
 | .ap f a=> .ap f (r.se a)
def Ren.sb (r:Ren):SB→SB
 | .lit b=> .lit b
 | .lt a b=>kM (r.se a) (r.se b)
 | .le a b=> .le (r.se a) (r.se b)
 | .eq a b=>Dv (r.se a) (r.se b)
 | .not s=> .not (r.sb s)
 | .and a b=> .and (r.sb a) (r.sb b)
def Ren.id (r:Ren) (i:Nat):Nat:=match gI r.bl i with | some j=>j | none=>0
def Ren.Ar (r:Ren) (i:Nat):Nat:=match gI r.sh i with | some j=>j | none=>0
mutual
def Ren.av (r:Ren):AV→AV
 | .bool b=> .bool (r.sb b)
 | .int k e=> .int k (r.se e)
 | .str s=> .str s
 | .ptr i o=> .ptr (r.id i) (r.Ar i+o)
 | .jJ=> .jJ
 | .qU cs=> .qU (r.JH cs)
 | .slice i o l c=> .slice (r.id i) (r.Ar i+o) l c
 | .aA=> .aA
 | .ro cs n f=> .ro (r.JH cs) n f
 | .map i=> .map (r.id i)
 | .lW=> .lW
 | .func f a b=> .func f (r.JH a) (r.JH b)
 | .yU=> .yU
 | .iface t v=> .iface t (r.av v)
 | .Es=> .Es
 | .agg cs=> .agg (r.JH cs)
 | .tuple cs=> .tuple (r.JH cs)
 | .opq i=> .opq i
 | .inp k ks=> .inp k ks
 | .emp=> .emp
 | .dat e t=> .dat (r.se e) t
 | .lX e=> .lX (r.se e)
 | .uK i n t=>match r.Ar i with
   | 0=> .uK (r.id i) (r.se n) t
   | _=> .opq 0
 | .pY i es x o=>match r.Ar i with
   | 0=> .pY (r.id i) es (r.se x) o
   | _=> .opq 0
 | .Ap i lo n t=>match r.Ar i with
   | 0=> .Ap (r.id i) (r.se lo) (r.se n) t
   | _=> .opq 0
 | .any=> .any
 | .G9 z t=> .G9 (r.se z) t
def Ren.JH (r:Ren):List AV→List AV
 | []=>[]
 | x :: xs=>r.av x :: r.JH xs
end
mutual
def qJ (n:Nat):AV→Bool
 | .ptr i _=>Nat.blt i n
 | .slice i _ _ _=>Nat.blt i n
 | .map i=>Nat.blt i n
 | .uK i _ _=>Nat.blt i n
 | .pY i _ _ _=>Nat.blt i n
 | .Ap i _ _ _=>Nat.blt i n
 | .qU cs=>sS n cs
 | .ro cs _ _=>sS n cs
 | .func _ a b=>sS n a && sS n b
 | .iface _ v=>qJ n v
 | .agg cs=>sS n cs
 | .tuple cs=>sS n cs
 | _=>true
def sS (n:Nat):List AV→Bool
 | []=>true
 | x :: xs=>qJ n x && sS n xs
end
def Ren.env (r:Ren) (ρ:Nat→Int) (i:Nat):Int:=match gI r.ns i with | some e=>e.den ρ | none=>ρ i
theorem P7 {α:Type}: ∀{l:List α} {i:Nat},l.length≤i→gI l i=none
 | [],_,_=>rfl
 | _ :: _,0,h=>by simp at h
 | _ :: l,i+1,h=>by simp only [gI]; exact P7 (by simpa using h)
theorem Ren.oN {r:Ren} (h:r.ns.length≤900) {ρ:Nat→Int} {i:Nat} (hi:900≤i):r.env ρ i=ρ i:=by
 unfold Ren.env
 rw [P7 (by omega)]
theorem Ren.dZ {r:Ren} (h:r.ns.length≤900) (ρ:Nat→Int): ∀e:SE,(r.se e).den ρ=e.den (r.env ρ)
 | .lit n=>rfl
 | .aQ i=>by
   simp only [Ren.se,SE.den,Ren.env]
   split <;> rfl
 | .add a b=>by simp only [Ren.se,SE.den,Ren.dZ h ρ a,Ren.dZ h ρ b]
 | .sub a b=>by simp only [Ren.se,SE.den,Ren.dZ h ρ a,Ren.dZ h ρ b]
 | .mul a b=>by simp only [Ren.se,SE.den,Ren.dZ h ρ a,Ren.dZ h ρ b]
 | .quo a b=>by simp only [Ren.se,SE.den,Ren.dZ h ρ a,Ren.dZ h ρ b]
 | .rem a b=>by simp only [Ren.se,SE.den,Ren.dZ h ρ a,Ren.dZ h ρ b]
 | .wrap k a=>by simp only [Ren.se,SE.den,Ren.dZ h ρ a]
 | .inp b e=>by
   simp only [Ren.se,SE.den,Ren.dZ h ρ e]
   rw [Ren.oN h (by omega)]
 | .dat d=>rfl
 | .op o a b=>by
   cases o with
   | len=>
     simp only [Ren.se,dD,Ren.dZ h ρ a]
     simp [SE.den,aG.den]
   | _=>simp only [Ren.se,SE.den,Ren.dZ h ρ a,Ren.dZ h ρ b]
 | .ap f a=>by
   simp only [Ren.se,SE.den,Ren.dZ h ρ a]
   rw [Ren.oN h (by unfold kE; omega)]
theorem Ren.Hy {r:Ren} (h:r.ns.length≤900) (ρ:Nat→Int): ∀c:SB,(r.sb c).den ρ=c.den (r.env ρ)
 | .lit b=>rfl
 | .lt a b=>by simp only [Ren.sb,dV,SB.den,Ren.dZ h]
 | .le a b=>by simp only [Ren.sb,SB.den,Ren.dZ h]
 | .eq a b=>by simp only [Ren.sb,lN,SB.den,Ren.dZ h]
 | .not s=>by simp only [Ren.sb,SB.den,Ren.Hy h ρ s]
 | .and a b=>by simp only [Ren.sb,SB.den,Ren.Hy h ρ a,Ren.Hy h ρ b]
def En.ren (E:En) (r:Ren):En:={ ρ:=r.env E.ρ,θ:=fun i=>((E.θ (r.id i)).1,(E.θ (r.id i)).2+r.Ar i),κ:=fun i=>E.κ (r.id i) - r.Ar i,dm:=fun i=>i < r.bl.length∧E.dm (r.id i),ro:=E.ro }
theorem EL {i n:Nat} (h:Nat.blt i n=true):i < n:=by
 have:=Nat.le_of_ble_eq_true h
 omega
mutual
theorem VR.ren {E:En} {r:Ren} {h:Array Obj} (hl:r.ns.length≤900): ∀(x:AV) (u:Value),qJ r.bl.length x=true→VR E h (r.av x) u→VR (E.ren r) h x u
 | .bool b,u,_,hv=>by simp only [Ren.av,VR,En.ren,Ren.Hy hl] at *; exact hv
 | .int k e,u,_,hv=>by simp only [Ren.av,VR,En.ren,Ren.dZ hl] at *; exact hv
 | .str s,u,_,hv=>by simp only [Ren.av,VR] at *; exact hv
 | .ptr i o,u,hi,hv=>by simp only [Ren.av,VR,En.ren,qJ] at *; exact⟨by rw [hv.1,Nat.add_assoc],EL hi,hv.2⟩
 | .jJ,u,_,hv=>by simp only [Ren.av,VR] at *; exact hv
 | .qU cs,u,hi,hv=>by
   simp only [Ren.av,VR,qJ] at *
   obtain⟨b,o,us,h1,h2,h3,h4⟩:=hv
   exact⟨b,o,us,h1,h2,bJ.ren hl cs us hi h3,h4⟩
 | .slice i o l c,u,hi,hv=>by
   simp only [Ren.av,VR,qJ] at *
   obtain⟨h1,a,cap,h2,h3,h4⟩:=hv
   refine⟨⟨EL hi,h1⟩,a,cap,h2,h3,?_⟩
   cases c with
   | exact k=>
     simp only [fJ,En.ren] at *
     exact⟨h4.1,h4.2.imp (fun h=>by rw [h,Nat.add_assoc]) id⟩
   | rest es=>
     simp only [fJ,En.ren] at *
     rcases h4 with ⟨q1,q2⟩ | ⟨q1,q2,q3⟩
     ·exact .inl ⟨by rw [q1,Nat.add_assoc],by omega⟩
     ·exact .inr ⟨q1,q2,by omega⟩
 | .aA,u,_,hv=>by simp only [Ren.av,VR] at *; exact hv
 | .ro cs n f,u,hi,hv=>by
   simp only [Ren.av,VR,qJ] at *
   obtain⟨b,o,cap,us,h1,h2,h3,h4,h5,h6⟩:=hv
   exact⟨b,o,cap,us,h1,h2,h3,h4,bJ.ren hl cs us hi h5,h6⟩
 | .map i,u,hi,hv=>by simp only [Ren.av,VR,En.ren,qJ] at *; exact⟨hv.1,EL hi,hv.2⟩
 | .lW,u,_,hv=>by simp only [Ren.av,VR] at *; exact hv
 | .func f a b,u,hi,hv=>by
   simp only [Ren.av,VR,qJ,Bool.and_eq_true] at *
   obtain⟨us,ws,h1,h2,h3⟩:=hv
   exact⟨us,ws,h1,bJ.ren hl a us hi.1 h2,bJ.ren hl b ws hi.2 h3⟩
 | .yU,u,_,hv=>by simp only [Ren.av,VR] at *; exact hv
 | .iface t v,u,hi,hv=>by
   simp only [Ren.av,VR,qJ] at *
   obtain⟨y,h1,h2⟩:=hv
   exact⟨y,h1,VR.ren hl v y hi h2⟩
 | .Es,u,_,hv=>by simp only [Ren.av,VR] at *; exact hv
 | .agg cs,u,hi,hv=>by
   simp only [Ren.av,VR,qJ] at *
   obtain⟨us,h1,h2⟩:=hv
   exact⟨us,h1,bJ.ren hl cs us hi h2⟩
 | .tuple cs,u,hi,hv=>by
   simp only [Ren.av,VR,qJ] at *
   obtain⟨us,h1,h2⟩:=hv
   exact⟨us,h1,bJ.ren hl cs us hi h2⟩
 | .opq i,u,_,hv=>by simp only [Ren.av,VR] at hv
 | .inp k ks,u,_,hv=>by
   simp only [Ren.av,VR,En.ren] at *
   rw [Ren.oN hl (by omega)]
   rcases hv with hv | ⟨b,o,n,cap,h1,h2,h3,h4,h5⟩
   ·exact .inl hv
   ·refine .inr ⟨b,o,n,cap,h1,h2,h3,h4,fun i j kd hi hj=>?_⟩
    rw [Ren.oN hl (by omega)]
    exact h5 i j kd hi hj
 | .emp,u,_,hv=>by simp only [Ren.av,VR] at *; exact hv
 | .dat e t,u,_,hv=>by simp only [Ren.av,VR,En.ren,Ren.dZ hl] at *; exact hv
 | .lX e,u,_,hv=>by simp only [Ren.av,VR,En.ren,Ren.dZ hl] at *; exact hv
 | .uK i n t,u,hi,hv=>by
   simp only [Ren.av] at hv
   split at hv
   ·rename_i hs
    simp only [VR,En.ren,qJ,Ren.dZ hl] at *
    obtain⟨h1,k,a,cap,h2,h3,h4,h5⟩:=hv
    refine⟨⟨EL hi,h1⟩,k,a,cap,h2,h3,h4,?_⟩
    simp only [fJ,hs] at *
    simpa using h5
   ·simp [VR] at hv
 | .any,u,_,_=>by simp only [VR]
 | .G9 z t,u,_,hv=>by simp only [Ren.av,VR,En.ren,Ren.dZ hl] at *; exact hv
 | .Ap i lo n t,u,hi,hv=>by
   simp only [Ren.av] at hv
   split at hv
   ·rename_i hs
    simp only [VR,En.ren,qJ,Ren.dZ hl] at *
    obtain⟨h1,l,k,a,cap,h2,h3,h4,h5,h6⟩:=hv
    refine⟨⟨EL hi,h1⟩,l,k,a,cap,h2,h3,h4,h5,?_⟩
    simp only [fJ,hs] at *
    simpa using h6
   ·simp [VR] at hv
 | .pY i es x o,u,hi,hv=>by
   simp only [Ren.av] at hv
   split at hv
   ·rename_i hs
    simp only [VR,En.ren,qJ,Ren.dZ hl] at *
    obtain⟨h1,k,h2,h3⟩:=hv
    exact⟨⟨EL hi,h1⟩,k,h2,by rw [h3,hs,Nat.add_zero]⟩
   ·simp [VR] at hv
theorem bJ.ren {E:En} {r:Ren} {h:Array Obj} (hl:r.ns.length≤900): ∀(xs:List AV) (us:List Value),sS r.bl.length xs=true→bJ E h (r.JH xs) us→bJ (E.ren r) h xs us
 | [],us,_,hv=>by simp only [Ren.JH,bJ] at *; exact hv
 | x :: xs,us,hi,hv=>by
   simp only [Ren.JH,bJ,sS,Bool.and_eq_true] at *
   obtain⟨u,vs,h1,h2,h3⟩:=hv
   exact⟨u,vs,h1,VR.ren hl x u hi.1 h2,bJ.ren hl xs vs hi.2 h3⟩
end
theorem avN {E:En} {r:Ren} {h:Array Obj} {xs ys:List AV} {us:List Value} (hs:jW (r.JH xs) ys=true) (hv:bJ E h ys us):bJ E h (r.JH xs) us:=by
 rw [gU _ _ hs]; exact hv
def xC (r:Ren):List (AV×AV×Nat)→List (AV×AV×Nat)→Bool
 | [],[]=>true
 | (k,v,_) :: xs,(k',v',_) :: ys=>match eU (r.av k) k' with
   | true=>match eU (r.av v) v' with
     | true=>xC r xs ys
     | false=>false
   | false=>false
 | _,_=>false
def UE (n:Nat):List (AV×AV×Nat)→Bool
 | []=>true
 | (k,v,_) :: xs=>qJ n k && qJ n v && UE n xs
def VG (n:Nat):List (SE×List AV)→Bool
 | []=>true
 | (_,cs) :: l=>sS n cs && VG n l
def qF (r:Ren):List (SE×List AV)→List (SE×List AV)→Bool
 | [],[]=>true
 | (i,a) :: x,(j,b) :: y=>gB (r.se i) j && jW (r.JH a) b && qF r x y
 | _,_=>false
def aeQ (n:Nat):dW→Bool
 | .vec _ _ _ ov=>VG n ov
 | .cells cs _=>sS n cs
 | .map es _=>UE n es
 | .nS _ _=>true
 | .iR _ _=>true
def iH (r:Ren) (k:Nat):dW→dW→Bool
 | .cells cs e,.cells ds f=>match Nat.beq e f with
   | true=>match fE k ds with
     | some ds=>jW (r.JH cs) ds
     | none=>false
   | false=>false
 | .map es _,.map fs _=>xC r es fs
 | .nS s p,.nS t q=>jF s t && Nat.beq p q && Nat.beq k 0
 | .iR e t,.iR e' t'=>gB (r.se e) e' && Nat.beq t t' && Nat.beq k 0
 | .vec e t ty ov,.vec e' t' ty' vM=>gB (r.se e) e' && Nat.beq t t' && Nat.beq ty ty' && qF r ov vM && Nat.beq k 0
 | _,_=>false
theorem fA.ren {E:En} {r:Ren} {h:Array Obj} (hl:r.ns.length≤900): ∀{xs ys:List (AV×AV×Nat)} {es:List MapEntry},UE r.bl.length xs=true→xC r xs ys=true→fA E h ys es→fA (E.ren r) h xs es
 | [],[],es,_,_,h=>by simp only [fA] at *; exact h
 | [],_ :: _,_,_,hs,_=>by simp [xC] at hs
 | (_,_,_) :: _,[],_,_,hs,_=>by simp [xC] at hs
 | (k,v,b) :: xs,(k',v',b') :: ys,es,hi,hs,h=>by
   simp only [UE,Bool.and_eq_true] at hi
   simp only [xC] at hs
   simp only [fA] at *
   obtain⟨e,rr,rfl,h1,h2,_,h4⟩:=h
   split at hs
   ·rename_i e1
    split at hs
    ·rename_i e2
     refine⟨e,rr,rfl,VR.ren hl k _ hi.1.1 (by rw [nJ _ _ e1]; exact h1),VR.ren hl v _ hi.1.2 (by rw [nJ _ _ e2]; exact h2),trivial,fA.ren hl hi.2 hs h4⟩
    ·simp at hs
   ·simp at hs
theorem vH {r:Ren}: ∀xs:List AV,(r.JH xs).length=xs.length
 | []=>rfl
 | _ :: xs=>by simp [Ren.JH,vH xs]
theorem PX {r:Ren} (hl:r.ns.length≤900) {ρ:Nat→Int} {i:Nat}: ∀{ov vM:List (SE×List AV)},qF r ov vM=true→dQ ρ i vM=(dQ (r.env ρ) i ov).map r.JH
 | [],[],_=>rfl
 | [],_ :: _,h=>by simp [qF] at h
 | _ :: _,[],h=>by simp [qF] at h
 | (j,a) :: x,(k,b) :: y,h=>by
   simp only [qF,Bool.and_eq_true] at h
   have h1:=bW _ _ h.1.1
   have h2:=gU _ _ h.1.2
   simp only [dQ]
   rw [← h1,Ren.dZ hl,← h2,PX hl h.2]
   split <;> rfl
theorem PW {n:Nat}: ∀{ov:List (SE×List AV)},VG n ov=true→∀p∈ov,sS n p.2=true
 | [],_,p,hp=>by simp at hp
 | (j,a) :: x,h,p,hp=>by
   simp only [VG,Bool.and_eq_true] at h
   rcases List.mem_cons.1 hp with rfl | hp
   ·exact h.1
   ·exact PW h.2 p hp
theorem Gv {E:En} {r:Ren} {h:Array Obj} (hl:r.ns.length≤900) {row:Row} {ov vM:List (SE×List AV)} (hs:qF r ov vM=true) (hi:VG r.bl.length ov=true): ∀(ds:List D) (i:Nat) {us:List Value},
 bJ E h (aK E.ρ row vM ds i) us→bJ (E.ren r) h (aK (E.ren r).ρ row ov ds i) us
 | [],_,us,hv=>by simp only [aK,bJ] at *; exact hv
 | d :: ds,i,us,hv=>by
   simp only [aK] at *
   obtain⟨a,b,rfl,h1,h2⟩:=hv.split
   refine bJ.append ?_ (Gv hl hs hi ds (i+1) h2)
   rw [PX hl hs] at h1
   show bJ (E.ren r) h (match dQ (r.env E.ρ) i ov with | some cs=>cs | none=>jB row (.dat d)) a
   cases ho:dQ (r.env E.ρ) i ov with
   | none=>
     rw [ho] at h1
     simp only [Option.map_none] at h1
     exact (gV (E:=E.ren r)).2 (show DI E.ro h row (dec (enc d)) a from (gV (E:=E)).1 h1)
   | some cs=>
     rw [ho] at h1
     simp only [Option.map_some] at h1
     obtain⟨p,p1,p2,_⟩:=nK ho
     exact bJ.ren hl cs a (by rw [← p2]; exact PW hi p p1) h1
theorem Lp {r:Ren} {row:Row}: ∀{ov vM:List (SE×List AV)},qF r ov vM=true→FB row vM→FB row ov
 | [],[],_,h=>h
 | [],_ :: _,h,_=>by simp [qF] at h
 | _ :: _,[],h,_=>by simp [qF] at h
 | (j,a) :: x,(k,b) :: y,h,ho=>by
   simp only [qF,Bool.and_eq_true] at h
   intro p hp
   rcases List.mem_cons.1 hp with rfl | hp
   ·have:=congrArg List.length (gU _ _ h.1.2)
    rw [vH] at this
    simp only
    rw [this]
    exact ho (k,b) (by simp)
   ·exact Lp h.2 (fun q hq=>ho q (by simp [hq])) p hp
theorem OR.ren {E:En} {r:Ren} {h:Array Obj} (hl:r.ns.length≤900) {id:Nat} {o o':dW} (hi:aeQ r.bl.length o=true) (hs:iH r (r.Ar id) o o'=true) (ho:OR E h (r.id id) o'):OR (E.ren r) h id o:=by
 cases o with
 | cells cs e=>
   cases o' with
   | cells ds f=>
     simp only [iH] at hs
     simp only [aeQ] at hi
     split at hs
     ·rename_i he
      have he:=Nat.eq_of_beq_eq_true he
      subst he
      split at hs
      ·rename_i ds' hdr
       simp only [OR] at *
       obtain⟨arr,lo,hi',us,h1,h2,h3,h4,h5,h6,h7⟩:=ho
       obtain⟨g1,g2,g3⟩:=h2.fE hdr
       have hlen:=congrArg List.length (gU _ _ hs)
       rw [vH] at hlen
       refine⟨arr,lo,hi',us.drop (r.Ar id),h1,bJ.ren hl cs _ hi (avN hs g1),fun i u hu=>?_,?_,?_,h6,fun u hu=>h7 u (List.mem_of_mem_drop hu)⟩
       ·rw [List.getElem?_drop] at hu
        have:=h3 _ u hu
        show arr[(E.θ (r.id id)).2+r.Ar id+i]?=some u
        rw [Nat.add_assoc]
        exact this
       ·show cs.length≤E.κ (r.id id) - r.Ar id
        omega
       ·show (E.θ (r.id id)).2+r.Ar id+(E.κ (r.id id) - r.Ar id)=arr.size
        omega
      ·simp at hs
     ·simp at hs
   | map _ _=>simp [iH] at hs
   | nS _ _=>simp [iH] at hs
   | vec _ _ _ _=>simp [iH] at hs
   | iR _ _=>simp [iH] at hs
 | map es c=>
   cases o' with
   | map fs d=>
     simp only [iH] at hs
     simp only [aeQ] at hi
     simp only [OR] at *
     obtain⟨ents,c',h1,h2⟩:=ho
     exact⟨ents,c',h1,fA.ren hl hi hs h2⟩
   | cells _ _=>simp [iH] at hs
   | nS _ _=>simp [iH] at hs
   | vec _ _ _ _=>simp [iH] at hs
   | iR _ _=>simp [iH] at hs
 | nS s p=>
   cases o' with
   | nS t q=>
     simp only [iH,Bool.and_eq_true] at hs
     have h1:=(oV _ _).1 hs.1.1
     have h2:=Nat.eq_of_beq_eq_true hs.1.2
     have h3:=Nat.eq_of_beq_eq_true hs.2
     subst h1 h2
     simp only [OR,En.ren,h3] at *
     exact ho
   | cells _ _=>simp [iH] at hs
   | map _ _=>simp [iH] at hs
   | vec _ _ _ _=>simp [iH] at hs
   | iR _ _=>simp [iH] at hs
 | iR e t=>
   cases o' with
   | cells _ _=>simp [iH] at hs
   | map _ _=>simp [iH] at hs
   | nS _ _=>simp [iH] at hs
   | vec _ _ _ _=>simp [iH] at hs
   | iR e' t'=>
     simp only [iH,Bool.and_eq_true] at hs
     have h1:=bW _ _ hs.1.1
     have h2:=Nat.eq_of_beq_eq_true hs.1.2
     subst h1 h2
     simp only [OR] at *
     have hden:e.den (E.ren r).ρ=(r.se e).den E.ρ:=(Ren.dZ hl E.ρ e).symm
     rw [hden]
     exact ho
 | vec e t ty ov=>
   cases o' with
   | cells _ _=>simp [iH] at hs
   | map _ _=>simp [iH] at hs
   | nS _ _=>simp [iH] at hs
   | iR _ _=>simp [iH] at hs
   | vec e' t' ty' vM=>
     simp only [iH,Bool.and_eq_true] at hs
     simp only [aeQ] at hi
     have h1:=bW _ _ hs.1.1.1.1
     have h2:=Nat.eq_of_beq_eq_true hs.1.1.1.2
     have h3:=Nat.eq_of_beq_eq_true hs.1.1.2
     have h4:=Nat.eq_of_beq_eq_true hs.2
     have hov:=hs.1.2
     subst h1 h2 h3
     simp only [OR] at *
     obtain⟨h0,arr,lo,hi',us,q1,q2,q3,q4,q5,q6,q7⟩:=ho
     have hok:=Lp hov h0.1
     have hden:e.den (E.ren r).ρ=(r.se e).den E.ρ:=(Ren.dZ hl E.ρ e).symm
     rw [hden]
     refine⟨⟨hok,h0.2⟩,arr,lo,hi',us,q1,Gv hl hov hi _ _ q2,?_,?_,?_,q6,q7⟩
     ·intro i u hu
      show arr[(E.θ (r.id id)).2+r.Ar id+i]?=some u
      rw [h4,Nat.add_zero]
      exact q3 i u hu
     ·show _≤E.κ (r.id id) - r.Ar id
      rw [bU hok,h4,Nat.sub_zero,← bU (ρ:=E.ρ) h0.1]
      exact q4
     ·show (E.θ (r.id id)).2+r.Ar id+(E.κ (r.id id) - r.Ar id)=arr.size
      rw [h4,Nat.add_zero,Nat.sub_zero]
      exact q5
end
end Go.As
end
section
namespace Go.As
noncomputable section
open Go.RowKit
structure CS where
 k:Nat
 slots:List (Nat×AV)
 objs:List dW
 pc:List (SB×Bool)
 m:SE
def rE:List (Nat×AV)→Tr AV→Tr AV
 | [],t=>t
 | (i,v) :: l,t=>rE l (t.put i (some v))
def uT:List dW→Nat→Tr dW→Tr dW
 | [],_,t=>t
 | o :: os,i,t=>uT os (i+1) (t.put i (some o))
def CS.st (c:CS):St:=⟨rE c.slots .nil,⟨uT c.objs 0 .nil,c.objs.length,none⟩,c.pc⟩
structure Gs where
 ns:Tr SE
 bl:Tr (Nat×Nat)
def Gs.num (g:Gs) (i:Nat) (e:SE):Gs:=match g.ns.get i with
 | some _=>g
 | none=> ⟨g.ns.put i (some e),g.bl⟩
def Gs.blk (g:Gs) (i j k:Nat):Gs:=match g.bl.get i with
 | some _=>g
 | none=> ⟨g.ns,g.bl.put i (some (j,k))⟩
def Ir (x y:SE) (g:Gs):Gs:=match x with
 | .aQ i=>g.num i y
 | _=>g
def aDs:SB→SB→Gs→Gs
 | .not a,.not b,g=>aDs a b g
 | .eq a b,.eq c d,g=>Ir b d (Ir a c g)
 | _,_,g=>g
mutual
def alZ:AV→AV→Gs→Gs
 | .bool a,.bool b,g=>aDs a b g
 | .int _ e,.int _ f,g=>Ir e f g
 | .ptr i o,.ptr j p,g=>g.blk i j (p - o)
 | .slice i o _ _,.slice j p _ _,g=>g.blk i j (p - o)
 | .map i,.map j,g=>g.blk i j 0
 | .agg a,.agg b,g=>F5 a b g
 | .tuple a,.tuple b,g=>F5 a b g
 | .iface _ a,.iface _ b,g=>alZ a b g
 | .func _ a b,.func _ c d,g=>F5 b d (F5 a c g)
 | .qU a,.qU b,g=>F5 a b g
 | .ro a _ _,.ro b _ _,g=>F5 a b g
 | .dat a _,.dat b _,g=>Ir a b g
 | .lX a,.lX b,g=>Ir a b g
 | .uK i a _,.uK j b _,g=>(Ir a b g).blk i j 0
 | .pY i _ a _,.pY j _ b _,g=>(Ir a b g).blk i j 0
 | .G9 a _,.G9 b _,g=>Ir a b g
 | .Ap i l a _,.Ap j k b _,g=>(Ir l k (Ir a b g)).blk i j 0
 | _,_,g=>g
def F5:List AV→List AV→Gs→Gs
 | x :: xs,y :: ys,g=>F5 xs ys (alZ x y g)
 | _,_,g=>g
end
def alY:List (AV×AV×Nat)→List (AV×AV×Nat)→Gs→Gs
 | (k,v,_) :: xs,(k',v',_) :: ys,g=>alY xs ys (alZ v v' (alZ k k' g))
 | _,_,g=>g
def awT:List (SE×List AV)→List (SE×List AV)→Gs→Gs
 | (i,a) :: x,(j,b) :: y,g=>awT x y (F5 a b (Ir i j g))
 | _,_,g=>g
def aE9 (k:Nat) (o o':dW) (g:Gs):Gs:=match o,o' with
 | .cells a _,.cells b _=>match fE k b with
   | some b=>F5 a b g
   | none=>g
 | .map a _,.map b _=>alY a b g
 | .vec a _ _ ov,.vec b _ _ vM=>awT ov vM (Ir a b g)
 | .iR a _,.iR b _=>Ir a b g
 | _,_=>g
def Ko (s:Tr AV):List (Nat×AV)→Gs→Gs
 | [],g=>g
 | (t,v) :: l,g=>match s.get t with
   | some v'=>Ko s l (alZ v v' g)
   | none=>Ko s l g
def Iu (h:Hp):List dW→Nat→Gs→Gs
 | [],_,g=>g
 | o :: os,i,g=>match g.bl.get i with
   | some (j,k)=>match h.get j with
     | some o'=>Iu h os (i+1) (aE9 k o o' g)
     | none=>Iu h os (i+1) g
   | none=>Iu h os (i+1) g
def Ey (g:Tr SE):Nat→Nat→List SE
 | 0,_=>[]
 | n+1,i=>match g.get i with
   | some e=>e :: Ey g n (i+1)
   | none=> .lit 0 :: Ey g n (i+1)
def TR (g:Tr (Nat×Nat)):Nat→Nat→List Nat
 | 0,_=>[]
 | n+1,i=>match g.get i with
   | some (e,_)=>e :: TR g n (i+1)
   | none=>0 :: TR g n (i+1)
def TQ (g:Tr (Nat×Nat)):Nat→Nat→List Nat
 | 0,_=>[]
 | n+1,i=>match g.get i with
   | some (_,e)=>e :: TQ g n (i+1)
   | none=>0 :: TQ g n (i+1)
def CS.guess (c:CS) (s:St):Ren:=match Iu s.h c.objs 0 (Ko s.slots c.slots ⟨.nil,.nil⟩) with
 | ⟨ns,bl⟩=> ⟨Ey ns c.k 0,TR bl c.objs.length 0,TQ bl c.objs.length 0⟩
def abC (i:Nat):List Nat→Bool
 | []=>true
 | j :: l=>match Nat.beq i j with
   | true=>false
   | false=>abC i l
def Dk:List Nat→Bool
 | []=>true
 | i :: l=>abC i l && Dk l
def JU (r:Ren) (n:Nat) (s:Tr AV):List (Nat×AV)→Bool
 | []=>true
 | (t,v) :: l=>match s.get t with
   | some v'=>qJ n v && eU (r.av v) v' && JU r n s l
   | none=>false
def Ie (r:Ren) (n:Nat) (h:Hp):List dW→Nat→Bool
 | [],_=>true
 | o :: os,i=>match h.get (r.id i) with
   | some o'=>aeQ n o && iH r (r.Ar i) o o' && Ie r n h os (i+1)
   | none=>false
def Xe (pc:List (SB×Bool)) (e:SE):Option Int×Option Int:=match e with
 | .lit z=>(some z,some z)
 | e=>bounds e pc
def abY (a b:Int):Bool:=decide (-9223372036854775808≤a) && decide (b≤9223372036854775807)
def Ot (pc:List (SB×Bool)) (e:SE):Option Int×Option Int:=match e with
 | .wrap .i64 (.add a b)=>match Xe pc a,Xe pc b with
   | (some la,some ha),(some lb,some hb)=>if abY (la+lb) (ha+hb) then (some (la+lb),some (ha+hb)) else bounds e pc
   | _,_=>bounds e pc
 | .wrap .i64 (.sub a b)=>match Xe pc a,Xe pc b with
   | (some la,some ha),(some lb,some hb)=>if abY (la - hb) (ha - lb) then (some (la - hb),some (ha - lb)) else bounds e pc
   | _,_=>bounds e pc
 | e=>Xe pc e
def Ov (a b:Option Int):Bool:=match a,b with
 | some x,some y=>decide (x < y)
 | _,_=>false
def UY (a b:Option Int):Bool:=match a,b with
 | some x,some y=>decide (x≤y)
 | _,_=>false
def prv (pc:List (SB×Bool)) (c:SB) (v:Bool):Bool:=
 match mF pc c with
 | some b=>b == v
 | none=>match c with
   | .lt a b=>match v with
     | true=>Ov (Ot pc a).2 (Ot pc b).1
     | false=>UY (Ot pc b).2 (Ot pc a).1
   | .eq a b=>match v with
     | true=>false
     | false=>Ov (Ot pc a).2 (Ot pc b).1 || Ov (Ot pc b).2 (Ot pc a).1
   | _=>false
def Kq (pv:List (SB×Bool)→SB→Bool→Bool) (r:Ren) (pc:List (SB×Bool)):List (SB×Bool)→Bool
 | []=>true
 | (c,v) :: l=>pv pc (r.sb c) v && Kq pv r pc l
def CS.fits (pv:List (SB×Bool)→SB→Bool→Bool) (c:CS) (s:St) (r:Ren):Bool:=
 Nat.ble r.ns.length 900 && Nat.beq r.bl.length c.objs.length && Dk r.bl && JU r c.objs.length s.slots c.slots && Ie r c.objs.length s.h c.objs 0 && Kq pv r s.pc c.pc
theorem AL: ∀{l:List (Nat×AV)} {t:Tr AV} {i:Nat} {v:AV},(rE l t).get i=some v→(i,v)∈l∨t.get i=some v
 | [],t,i,v,h=> .inr h
 | (j,x) :: l,t,i,v,h=>by
   simp only [rE] at h
   rcases AL h with h | h
   ·exact .inl (by simp [h])
   ·rw [Tr.get_put] at h
    split at h
    ·rename_i e
     simp only [Option.some.injEq] at h
     exact .inl (by rw [e,h]; simp)
    ·exact .inr h
theorem mW: ∀{l:List dW} {i:Nat} {t:Tr dW} {j:Nat},(uT l i t).get j=if i≤j∧j < i+l.length then l[j - i]? else t.get j
 | [],i,t,j=>by
   rw [if_neg (by simp)]
   rfl
 | o :: os,i,t,j=>by
   simp only [uT]
   rw [mW,Tr.get_put]
   simp only [List.length_cons]
   by_cases h1:i+1≤j∧j < i+1+os.length
   ·rw [if_pos h1,if_pos (by omega)]
    have:j - i=(j - (i+1))+1:=by omega
    rw [this,List.getElem?_cons_succ]
   ·rw [if_neg h1]
    by_cases h3:j=i
    ·subst h3
     rw [if_pos rfl,if_pos (by omega)]
     simp
    ·rw [if_neg h3,if_neg (by omega)]
theorem VK {i:Nat}: ∀{l:List Nat},abC i l=true→i∉l
 | [],_=>by simp
 | j :: l,h=>by
   simp only [abC] at h
   split at h
   ·simp at h
   ·rename_i hb
    have:=Nat.ne_of_beq_eq_false hb
    simp [this,VK h]
theorem tN: ∀{l:List Nat},Dk l=true→∀{i j x:Nat},gI l i=some x→gI l j=some x→i=j
 | [],_,i,_,_,h,_=>by simp [gI] at h
 | y :: l,hd,i,j,x,h1,h2=>by
   simp only [Dk,Bool.and_eq_true] at hd
   have hn:=VK hd.1
   have hm: ∀{i:Nat} {l:List Nat} {x:Nat},gI l i=some x→x∈l:=by
    intro i l x h
    rw [dB] at h
    exact List.mem_of_getElem? h
   cases i with
   | zero=>
     cases j with
     | zero=>rfl
     | succ j=>
       simp only [gI,Option.some.injEq] at h1 h2
       subst h1
       exact absurd (hm h2) hn
   | succ i=>
     cases j with
     | zero=>
       simp only [gI,Option.some.injEq] at h1 h2
       subst h2
       exact absurd (hm h1) hn
     | succ j=>
       simp only [gI] at h1 h2
       rw [tN hd.2 h1 h2]
theorem I4 {r:Ren} {n:Nat} {s:Tr AV}: ∀{l:List (Nat×AV)},JU r n s l=true→∀{t:Nat} {v:AV},(t,v)∈l→∃v',s.get t=some v'∧qJ n v=true∧r.av v=v'
 | [],_,_,_,h=>by simp at h
 | (t0,v0) :: l,hs,t,v,h=>by
   simp only [JU] at hs
   split at hs
   ·rename_i v' hv
    simp only [Bool.and_eq_true] at hs
    rcases List.mem_cons.1 h with h | h
    ·simp only [Prod.mk.injEq] at h
     obtain⟨rfl,rfl⟩:=h
     exact⟨v',hv,hs.1.1,nJ _ _ hs.1.2⟩
    ·exact I4 hs.2 h
   ·simp at hs
theorem lF {r:Ren} {n:Nat} {h:Hp}: ∀{l:List dW} {i:Nat},Ie r n h l i=true→∀{j:Nat} {o:dW},l[j]?=some o→∃o',h.get (r.id (i+j))=some o'∧aeQ n o=true∧iH r (r.Ar (i+j)) o o'=true
 | [],_,_,_,_,h=>by simp at h
 | o0 :: os,i,hs,j,o,hj=>by
   simp only [Ie] at hs
   split at hs
   ·rename_i o' ho
    simp only [Bool.and_eq_true] at hs
    cases j with
    | zero=>
      simp at hj
      subst hj
      exact⟨o',ho,hs.1.1,hs.1.2⟩
    | succ j=>
      have:=lF hs.2 (j:=j) (by simpa using hj)
      rw [show i+(j+1)=i+1+j by omega]
      exact this
   ·simp at hs
def aqJ (pv:List (SB×Bool)→SB→Bool→Bool):Prop:= ∀(ρ:Nat→Int) (pc:List (SB×Bool)) (c:SB) (v:Bool),bI ρ pc→pv pc c v=true→c.den ρ=v
theorem GR {ρ:Nat→Int} {pc:List (SB×Bool)} (hp:bI ρ pc) (e:SE):Within (Xe pc e).1 (Xe pc e).2 (e.den ρ):=by
 unfold Xe
 split
 ·simp [Within,SE.den]
 ·exact oZ hp
theorem MP {a b x:Int} (h:abY a b=true) (h1:a≤x) (h2:x≤b):IntKind.i64.wrap x=x:=by
 simp only [abY,Bool.and_eq_true,decide_eq_true_eq] at h
 rw [← oM]
 simp only [Ai]
 rw [if_pos (by omega)]
theorem adH {ρ:Nat→Int} {pc:List (SB×Bool)} (hp:bI ρ pc) (e:SE):Within (Ot pc e).1 (Ot pc e).2 (e.den ρ):=by
 unfold Ot
 split
 ·rename_i a b
  have ha:=GR hp a
  have hb:=GR hp b
  split
  ·rename_i la ha' lb hb' e1 e2
   rw [e1] at ha
   rw [e2] at hb
   have a1:=ha.1 la rfl
   have a2:=ha.2 ha' rfl
   have b1:=hb.1 lb rfl
   have b2:=hb.2 hb' rfl
   split
   ·rename_i hi
    simp only [SE.den]
    rw [MP hi (by omega) (by omega)]
    constructor <;> intro l hl <;> simp at hl <;> omega
   ·exact oZ hp
  ·exact oZ hp
 ·rename_i a b
  have ha:=GR hp a
  have hb:=GR hp b
  split
  ·rename_i la ha' lb hb' e1 e2
   rw [e1] at ha
   rw [e2] at hb
   have a1:=ha.1 la rfl
   have a2:=ha.2 ha' rfl
   have b1:=hb.1 lb rfl
   have b2:=hb.2 hb' rfl
   split
   ·rename_i hi
    simp only [SE.den]
    rw [MP hi (by omega) (by omega)]
    constructor <;> intro l hl <;> simp at hl <;> omega
   ·exact oZ hp
  ·exact oZ hp
 ·exact GR hp e
theorem II {a b:Option Int} {x y:Int} (h:Ov a b=true) (h1: ∀z,a=some z→x≤z) (h2: ∀z,b=some z→z≤y):x < y:=by
 unfold Ov at h
 split at h
 ·have:=h1 _ rfl
  have:=h2 _ rfl
  simp at h
  omega
 ·simp at h
theorem ZC {a b:Option Int} {x y:Int} (h:UY a b=true) (h1: ∀z,a=some z→x≤z) (h2: ∀z,b=some z→z≤y):x≤y:=by
 unfold UY at h
 split at h
 ·have:=h1 _ rfl
  have:=h2 _ rfl
  simp at h
  omega
 ·simp at h
theorem Yq:aqJ prv:=by
 intro ρ pc c v hp h
 unfold prv at h
 split at h
 ·rename_i b hb
  rw [iW hp hb]
  simpa using h
 ·split at h
  ·have ha:=fun a=>adH hp a
   split at h
   ·have:=II h (ha _).2 (ha _).1
    simp [SB.den,this]
   ·have:=ZC h (ha _).2 (ha _).1
    simp [SB.den]; omega
  ·have ha:=fun a=>adH hp a
   split at h
   ·simp at h
   ·simp only [Bool.or_eq_true] at h
    simp only [SB.den,beq_eq_false_iff_ne,ne_eq]
    rcases h with h | h
    ·have:=II h (ha _).2 (ha _).1
     omega
    ·have:=II h (ha _).2 (ha _).1
     omega
  ·simp at h
theorem Nq {pv:List (SB×Bool)→SB→Bool→Bool} (hpv:aqJ pv) {r:Ren} (hl:r.ns.length≤900) {ρ:Nat→Int} {pc:List (SB×Bool)} (hp:bI ρ pc): ∀{l:List (SB×Bool)},Kq pv r pc l=true→bI (r.env ρ) l
 | [],_=>by intro c b h; simp at h
 | (c0,v0) :: l,h=>by
   simp only [Kq,Bool.and_eq_true] at h
   intro c b hm
   rcases List.mem_cons.1 hm with hm | hm
   ·simp only [Prod.mk.injEq] at hm
    obtain⟨rfl,rfl⟩:=hm
    rw [← Ren.Hy hl]
    exact hpv ρ pc _ _ hp h.1
   ·exact Nq hpv hl hp h.2 c b hm
theorem F8 [Glob] {pv:List (SB×Bool)→SB→Bool→Bool} (hpv:aqJ pv) {E:En} {c:CS} {s:St} {r:Ren} {a:Act} {w:World} (f:Fit E s a w) (h:c.fits pv s r=true):r.ns.length≤900∧Fit (E.ren r) c.st a w∧
 ∀id o,c.st.h.get id=some o→∃o',s.h.get (r.id id)=some o':=by
 unfold CS.fits at h
 simp only [Bool.and_eq_true] at h
 obtain⟨⟨⟨⟨⟨h1,h2⟩,h3⟩,h4⟩,h5⟩,h6⟩:=h
 have hl:=Nat.le_of_ble_eq_true h1
 have hn:=Nat.eq_of_beq_eq_true h2
 have hget: ∀id o,c.st.h.get id=some o→c.objs[id]?=some o:=by
  intro id o ho
  have:(uT c.objs 0 .nil).get id=some o:=ho
  rw [mW] at this
  split at this
  ·simpa using this
  ·simp [Tr.get] at this
 refine⟨hl,⟨⟨?_,?_,?_,?_,f.rel.AZ,Glob.ren f.rel.glob fun i hi=>Ren.oN hl hi⟩,?_,Nq hpv hl f.pc h6⟩,?_⟩
 ·intro id hid hd
  have:id < r.bl.length:=hd.1
  have hid:c.objs.length≤id:=hid
  omega
 ·intro x hx
  simp [CS.st] at hx
 ·intro id o ho
  obtain⟨o',g1,g2,g3⟩:=lF h5 (hget id o ho)
  rw [Nat.zero_add] at g1 g3
  obtain⟨q1,q2,q3⟩:=f.rel.live _ _ g1
  have hlt:=(List.getElem?_eq_some_iff.1 (hget id o ho)).1
  exact⟨⟨by omega,q1⟩,OR.ren hl (by rw [hn]; exact g2) g3 q2,q3⟩
 ·intro id id' o o' ho ho' he
  obtain⟨p,g1,_⟩:=lF h5 (hget id o ho)
  obtain⟨p',g1',_⟩:=lF h5 (hget id' o' ho')
  rw [Nat.zero_add] at g1 g1'
  have heq:=f.rel.inj _ _ _ _ g1 g1' he
  have hlt:=(List.getElem?_eq_some_iff.1 (hget id o ho)).1
  have hlt':=(List.getElem?_eq_some_iff.1 (hget id' o' ho')).1
  unfold Ren.id at heq
  cases e1:gI r.bl id with
  | none=>rw [dB,List.getElem?_eq_none_iff] at e1; omega
  | some x=>
    cases e2:gI r.bl id' with
    | none=>rw [dB,List.getElem?_eq_none_iff] at e2; omega
    | some y=>
      rw [e1,e2] at heq
      simp only at heq
      subst heq
      exact tN h3 e1 e2
 ·intro t v ht
  have:(rE c.slots .nil).get t=some v:=ht
  rcases AL this with h | h
  ·obtain⟨v',g1,g2,g3⟩:=I4 h4 h
   obtain⟨u,q1,q2⟩:=f.sr t v' g1
   exact⟨u,q1,VR.ren hl v u (by rw [hn]; exact g2) (by rw [g3]; exact q2)⟩
  ·simp [Tr.get] at h
 ·intro id o ho
  obtain⟨o',g1,_⟩:=lF h5 (hget id o ho)
  rw [Nat.zero_add] at g1
  exact⟨o',g1⟩
end
end Go.As
end
section
namespace Go.As
noncomputable section
open Go.RowKit
structure Base where
 w0:World
 ro:Nat→Prop
 ρ0:Nat→Int
structure Top [Glob] (B:Base) (E:En) (s:St) (a:Act) (w:World):Prop where
 fit:Fit E s a w
 hi: ∀i,900≤i→E.ρ i=B.ρ0 i
 ro: ∀b,B.ro b→E.ro b
 below:Below B.w0.heap.size B.w0 w
 own: ∀id o,s.h.get id=some o→B.w0.heap.size≤(E.θ id).1
theorem Top.then [Glob] {B:Base} {E:En} {s s':St} {a a':Act} {w w':World} (t:Top B E s a w) (h:Then E s a w s' a' w'): ∃E',Top B E' s' a' w'∧E'.ρ=E.ρ:=by
 obtain⟨_,_,E',st,f'⟩:=h
 refine⟨E',⟨f',fun i hi=>by rw [st.ρ]; exact t.hi i hi,fun b hb=>st.ro b (t.ro b hb),?_,?_⟩,st.ρ⟩
 ·refine t.below.trans ⟨st.os,st.tape,st.output,st.size,fun k hk=>?_⟩
  exact st.keep k (Nat.lt_of_lt_of_le hk t.below.size) fun id o ho he=>by
   have:=t.own id o ho
   omega
 ·intro id o ho
  rcases Nat.lt_or_ge (E'.θ id).1 w.heap.size with h | h
  ·obtain⟨Dy,o0,h0,he⟩:=st.own id o ho h
   rw [← he]
   exact t.own Dy o0 h0
  ·exact Nat.le_trans t.below.size h
theorem Top.fits [Glob] {pv:List (SB×Bool)→SB→Bool→Bool} (hpv:aqJ pv) {B:Base} {E:En} {c:CS} {s:St} {r:Ren} {a:Act} {w:World} (t:Top B E s a w) (h:c.fits pv s r=true):r.ns.length≤900∧Top B (E.ren r) c.st a w:=by
 obtain⟨hl,f,ho⟩:=F8 hpv t.fit h
 refine⟨hl,f,fun i hi=>?_,t.ro,t.below,fun id o hid=>?_⟩
 ·show r.env E.ρ i=_
  rw [Ren.oN hl hi]
  exact t.hi i hi
 ·obtain⟨o',h'⟩:=ho id o hid
  exact t.own _ _ h'
inductive Fr where
 | seq (p:List Nat) (c:Code)
 | block (id:Nat)
def TV {α:Type}:T α→(α→Bool)→Bool
 | .fail,_=>false
 | .ret a,f=>f a
 | .split _ x y,f=>TV x f && TV y f
structure Cfg where
 tt:TT
 call:dU
 draw:Nat→List Oper→St→T St
 lf:Nat
 pv:List (SB×Bool)→SB→Bool→Bool
 res:List ResultVar
def Cfg.ev (g:Cfg) (c:Code) (s:St):T (Ex×St):=kT g.tt g.call g.draw g.lf c s
def isTrue:Option (List AV)→Bool
 | some [.bool (.lit b)]=>b
 | _=>false
def amR (g:Cfg) (e:Ex) (s:St):Bool:=match e with
 | .exit _=>false
 | _=>isTrue (nN g.tt s g.res)
def aAd:AV→AV→Bool
 | .int _ (.lit a),.int _ (.lit b)=>a == b
 | .int _ (.lit _),.int _ _=>false
 | .slice _ _ n _,.slice _ _ m _=>Nat.beq n m
 | .slice _ _ _ _,_=>false
 | .aA,.aA=>true
 | .aA,_=>false
 | _,_=>true
def quick (s:Tr AV):List (Nat×AV)→Bool
 | []=>true
 | (t,v) :: l=>match s.get t with
   | some v'=>match aAd v v' with
     | true=>quick s l
     | false=>false
   | none=>false
def U0 (pv:List (SB×Bool)→SB→Bool→Bool) (s:St):List CS→Bool
 | []=>false
 | c :: cs=>match quick s.slots c.slots with
   | false=>U0 pv s cs
   | true=>match c.fits pv s (c.guess s) with
     | true=>true
     | false=>U0 pv s cs
abbrev Tabs:=List Nat→Option (List CS)
mutual
def go (g:Cfg) (tabs:Tabs):Nat→List Nat→Code→List Fr→St→Bool
 | 0,_,_,_,_=>false
 | n+1,p,c,fr,s=>match tabs p with
   | some cs=>U0 g.pv s cs
   | none=>match c with
     | .seq a b=>go g tabs n (0 :: p) a (.seq (1 :: p) b :: fr) s
     | .block id b=>go g tabs n (0 :: p) b (.block id :: fr) s
     | c=>TV (g.ev c s) fun (e,s')=>cont g tabs n fr e s'
def cont (g:Cfg) (tabs:Tabs):Nat→List Fr→Ex→St→Bool
 | 0,_,_,_=>false
 | n+1,fr,e,s=>match fr with
   | []=>amR g e s
   | .seq p c :: fr=>match e with
     | .normal=>go g tabs n p c fr s
     | e=>cont g tabs n fr e s
   | .block id :: fr=>match e with
     | .exit j=>match Nat.beq j id with
       | true=>cont g tabs n fr .normal s
       | false=>cont g tabs n fr (.exit j) s
     | e=>cont g tabs n fr e s
end
def apart (pc:List (SB×Bool)) (x:SE):List SE→Bool
 | []=>true
 | y :: l=>match decEq pc x y with
   | some false=>apart pc x l
   | _=>false
structure Hint where
 ts:List (SB×Bool):=[]
 xs:List SE:=[]
 n:Nat:=0
section
variable {P:Program} {g:Cfg} {chk:Nat→List Oper→Bool} {N:Nat} {body:Code} {B:Base} {Q:Exit→Act→World→Prop}
structure aFz [Glob] (P:Program) (g:Cfg) (chk:Nat→List Oper→Bool):Prop where
 tt:eG P g.tt
 call:jR P g.call
 draw:BZ P chk g.draw
 pv:aqJ g.pv
theorem Top.pc [Glob] {B:Base} {E:En} {s:St} {a:Act} {w:World} {pc:List (SB×Bool)} (t:Top B E s a w) (hp:bI E.ρ pc):Top B E { s with pc:=pc } a w:=
 ⟨⟨t.fit.rel,t.fit.sr,hp⟩,t.hi,t.ro,t.below,t.own⟩
end
end
end Go.As
end
section
namespace Go.As
noncomputable section
open Go.RowKit
section
variable {P:Program} {c:Code} {Q:Exit→Act→World→Prop} {a:Act} {w:World}
def OC (P:Program) (c:Code) (Q:Exit→Act→World→Prop) (a:Act) (w:World):Prop:=
 ∀b k cs,∃e a' w',Q e a' w'∧Arrives P (lone (b.at a (.code c :: .inLoop c :: k)) cs w) b k cs e a' w'
theorem YA (h:c.wp P (Exit.then (OC P c Q) Q) a w):OC P c Q a w:=by
 intro b k cs
 obtain⟨e,a₁,w₁,hq,harr⟩:=h b (.inLoop c :: k) cs
 cases e with
 | normal=>
   obtain⟨e₂,a₂,w₂,hq₂,harr₂⟩:=hq b k cs
   exact⟨e₂,a₂,w₂,hq₂,.of_steps (Steps.trans harr (.one step_inLoop)) harr₂⟩
 | exit id=>exact⟨_,a₁,w₁,hq,.pass (x:=.inLoop c) rfl (fun _ _=> .inl (by simp)) harr⟩
 | goto l=>exact⟨_,a₁,w₁,hq,.pass (x:=.inLoop c) rfl (fun _ _=> .inl (by simp)) harr⟩
 | ret=>exact⟨_,a₁,w₁,hq,.pass (x:=.inLoop c) rfl (fun _ _=> .inl (by simp)) harr⟩
 | panic ch=>exact⟨_,a₁,w₁,hq,.pass (x:=.inLoop c) rfl (fun _ _=> .inl (by simp)) harr⟩
 | outgrown=>exact⟨_,a₁,w₁,hq,.pass (x:=.inLoop c) rfl (fun _ _=> .inl (by simp)) harr⟩
theorem YB (h:OC P c Q a w):(Code.loop c).wp P Q a w:=by
 intro b k cs
 obtain⟨e,a',w',hq,harr⟩:=h b k cs
 exact⟨e,a',w',hq,.of_steps (.one step_loop) harr⟩
end
inductive FrE where
 | seq (p:List Nat) (c:Code)
 | block (id:Nat)
 | loop (p:List Nat) (b:Code)
 | scope
def tJ (body:Code):List Nat→Option (Code×List FrE)
 | []=>some (body,[])
 | d :: p=>match tJ body p with
   | some (.seq a b,fr)=>match d with
     | 0=>some (a,.seq (1 :: p) b :: fr)
     | _=>some (b,fr)
   | some (.block id b,fr)=>some (b,.block id :: fr)
   | some (.cond _ a b,fr)=>match d with
     | 0=>some (a,fr)
     | _=>some (b,fr)
   | some (.loop b,fr)=>some (b,.loop p b :: fr)
   | some (.scope b,fr)=>some (b,.scope :: fr)
   | _=>none
def OD (body:Code):List FrE→Prop
 | []=>True
 | .seq p c :: fr=>tJ body p=some (c,fr)∧OD body fr
 | .block _ :: fr=>OD body fr
 | .loop p b :: fr=>tJ body p=some (.loop b,fr)∧OD body fr
 | .scope :: fr=>OD body fr
def KE (P:Program) (Q:Exit→Act→World→Prop):List FrE→Exit→Act→World→Prop
 | []=>Q
 | .seq _ c :: fr=>Exit.then (fun a w=>c.wp P (KE P Q fr) a w) (KE P Q fr)
 | .block id :: fr=>Exit.inBlock id (KE P Q fr)
 | .loop _ b :: fr=>Exit.then (OC P b (KE P Q fr)) (KE P Q fr)
 | .scope :: fr=>Exit.noGoto (KE P Q fr)
inductive RK where
 | one (c:CK)
 | agg (cs:List CK)
 deriving DecidableEq,Inhabited
def RK.flat:RK→List CK
 | .one c=>[c]
 | .agg cs=>cs
def sW:List RK→List CK
 | []=>[]
 | r :: rs=>r.flat++sW rs
def adG (c:CK) (t:SE):AV:=match c with
 | .int k=> .int k t
 | .bool=> .bool (.not (.eq t (.lit 0)))
 | .str=> .lX t
 | .sl ty=> .dat t ty
def Ol:List CK→(Nat→SE)→Nat→List AV
 | [],_,_=>[]
 | c :: cs,f,i=>adG c (f i) :: Ol cs f (i+1)
def uU:List RK→(Nat→SE)→Nat→List AV
 | [],_,_=>[]
 | .one c :: r,f,i=>adG c (f i) :: uU r f (i+1)
 | .agg cs :: r,f,i=> .agg (Ol cs f i) :: uU r f (i+cs.length)
def akK (c:CK) (v:AV):Option SE:=match c with
 | .int k=>match v with
   | .int k' e=>if k=k' then some e else none
   | _=>none
 | .bool=>none
 | .str=>Ah v
 | .sl t=>qY (.sl t) v
def atH:AV→Bool
 | .agg _=>false
 | .tuple _=>false
 | _=>true
def cellsOf:List RK→List AV→Option (List AV)
 | [],[]=>some []
 | .one _ :: rs,v :: vs=>match atH v with
   | true=>match cellsOf rs vs with
     | some l=>some (v :: l)
     | none=>none
   | false=>none
 | .agg cs :: rs,v :: vs=>match v with
   | .agg xs=>match Nat.beq xs.length cs.length with
     | true=>match cellsOf rs vs with
       | some l=>some (xs++l)
       | none=>none
     | false=>none
   | _=>none
 | _,_=>none
def outs {α:Type}:List CK→List AV→St→(List SE→St→T α)→T α
 | [],[],s,k=>k [] s
 | c :: cs,v :: vs,s,k=>match c with
   | .bool=>match v with
     | .bool b=>pV s b fun s b=>outs cs vs s fun es s=>k (.lit (if b then 1 else 0) :: es) s
     | _=> .fail
   | c=>match akK c v with
     | some e=>outs cs vs s fun es s=>k (e :: es) s
     | none=> .fail
 | _,_,_,_=> .fail
def iG:List SE→SE
 | []=> .dat (.i 0)
 | e :: es=>gQ (Hw e) (iG es)
def sU (r:SE) (i:Nat):SE:=.op .num (.op (.cell i) r (.lit 0)) (.lit 0)
inductive Lf where
 | out (es:List SE)
 | jump (j:Nat) (es:List SE)
 deriving Inhabited
structure IQ where
 tt:TT
 call:dU
 draw:Nat→List Oper→St→T St
 lf:Nat
 res:List ResultVar
 oH:List RK
 dY:List dW:=[]
 ko:Nat:=0
 vK:List CS:=[]
 jS:Nat:=0
 fz:List (Nat×Nat×Nat):=[]
def IQ.ev (g:IQ) (c:Code) (s:St):T (Ex×St):=kT g.tt g.call g.draw g.lf c s
abbrev JI:=List Nat→Option (List (Nat×CS))
def aAA:Nat→Tr (Nat×Nat)
 | 0=> .nil
 | n+1=>(aAA n).put n (some (n,0))
def jC (g:IQ) (h:Hp):Ren:=match Iu h g.dY 0 ⟨.nil,aAA g.dY.length⟩ with
 | ⟨ns,_⟩=> ⟨Ey ns g.ko 0,List.range g.dY.length,[]⟩
def CS.lG (m:Nat) (c:CS) (s:St):Ren:=match Iu s.h c.objs 0 (Ko s.slots c.slots ⟨.nil,aAA m⟩) with
 | ⟨ns,bl⟩=> ⟨Ey ns c.k 0,TR bl c.objs.length 0,TQ bl c.objs.length 0⟩
def MS (m:Nat) (r:Ren):Bool:=match m with
 | 0=>true
 | n+1=>(match gI r.bl n with | some j=>Nat.beq j n | none=>false) && Nat.beq (r.Ar n) 0 && MS n r
def Jl:Nat→Nat→List SE→List SE
 | 0,_,ns=>ns
 | _+1,_,[]=>[]
 | n+1,i,_ :: ns=> .aQ i :: Jl n (i+1) ns
def wL (jS:Nat) (r:Ren):Ren:=match jS with
 | 0=>r
 | n+1=>{ r with ns:=Jl (n+1) 0 r.ns }
def WS (n m jS:Nat) (s:St):List CS→Nat→T Lf
 | [],_=> .fail
 | c :: l,i=>match quick s.slots c.slots && Nat.beq n c.slots.length with
   | false=>WS n m jS s l (i+1)
   | true=>match c.fits prv s (wL jS (c.lG m s)) && MS m (wL jS (c.lG m s)) with
     | true=> .ret (.out (.lit (Int.ofNat i) :: (wL jS (c.lG m s)).ns))
     | false=>WS n m jS s l (i+1)
def YQ {α:Type}:List (Nat×Nat×Nat)→List AV→St→(List AV→St→T α)→T α
 | [],vs,s,k=>k vs s
 | (r,f,t) :: l,vs,s,k=>match gI vs r with
   | some (.agg xs)=>match gI xs f with
     | some x=>afM x s fun x s=>match qY (.sl t) x with
       | some e=>YQ l (vs.set r (.agg (xs.set f (.dat e t)))) s k
       | none=> .fail
     | none=> .fail
   | _=> .fail
def amW (g:IQ) (e:Ex) (s:St):T Lf:=match e with
 | .exit _=> .fail
 | _=>match nN g.tt s g.res with
   | none=> .fail
   | some vs=>match g.vK with
     | []=>match cellsOf g.oH vs with
       | none=> .fail
       | some cells=>F6 cells s fun cells s=>match Ie (jC g s.h) g.dY.length s.h g.dY 0 with
         | true=>outs (sW g.oH) cells s fun es _=> .ret (.out ((jC g s.h).ns++es))
         | false=> .fail
     | c :: l=>YQ g.fz vs s fun vs s=>WS vs.length g.dY.length g.jS ⟨bD vs 0 .nil,s.h,s.pc⟩ (c :: l) 0
def wJ (m jS:Nat) (s:St):List (Nat×CS)→T Lf
 | []=> .fail
 | (j,c) :: l=>match quick s.slots c.slots with
   | false=>wJ m jS s l
   | true=>match c.fits prv s (wL jS (c.lG m s)) && MS m (wL jS (c.lG m s)) with
     | true=> .ret (.jump j (wL jS (c.lG m s)).ns)
     | false=>wJ m jS s l
def XL {α:Type} (k:St→T α):List (Nat×Nat)→St→T α
 | [],s=>k s
 | (t,g) :: l,s=>match s.slots.get t with
   | some (.int _ e)=>pV s (.eq e (.aQ g)) fun s _=>XL k l s
   | _=>XL k l s
def BO {α:Type} (k:St→T α):List Nat→St→T α
 | [],s=>k s
 | t :: ts,s=>match s.slots.get t with
   | some (.bool c)=>pV s c fun s b=>BO k ts { s with slots:=s.slots.put t (some (.bool (.lit b))) }
   | _=>BO k ts s
def apZ:List (Nat×AV)→List Nat→List Nat
 | [],acc=>acc
 | (t,.bool _) :: l,acc=>apZ l (t :: acc)
 | _ :: l,acc=>apZ l acc
def aqA:List (Nat×CS)→List Nat→List Nat
 | [],acc=>acc
 | (_,c) :: l,acc=>aqA l (apZ c.slots acc)
mutual
def Dz (g:IQ) (tabs:JI):Nat→List Nat→Code→List FrE→St→T Lf
 | 0,_,_,_,_=> .fail
 | n+1,p,c,fr,s=>match tabs p with
   | some l=>BO (fun s=>wJ g.dY.length g.jS s l) (aqA l []) s
   | none=>match c with
     | .seq a b=>Dz g tabs n (0 :: p) a (.seq (1 :: p) b :: fr) s
     | .block id b=>Dz g tabs n (0 :: p) b (.block id :: fr) s
     | .scope b=>Dz g tabs n (0 :: p) b (.scope :: fr) s
     | .cond v a b=>match As.ev s v with
       | some (.bool c)=>pV s c fun s t=>match t with
         | true=>Dz g tabs n (0 :: p) a fr s
         | false=>Dz g tabs n (1 :: p) b fr s
       | _=> .fail
     | c=>(g.ev c s).bind fun (e,s')=>zH g tabs n fr e s'
def zH (g:IQ) (tabs:JI):Nat→List FrE→Ex→St→T Lf
 | 0,_,_,_=> .fail
 | n+1,fr,e,s=>match fr with
   | []=>amW g e s
   | .seq p c :: fr=>match e with
     | .normal=>Dz g tabs n p c fr s
     | e=>zH g tabs n fr e s
   | .block id :: fr=>match e with
     | .exit j=>match Nat.beq j id with
       | true=>zH g tabs n fr .normal s
       | false=>zH g tabs n fr (.exit j) s
     | e=>zH g tabs n fr e s
   | .loop p _ :: fr=>match e with
     | .normal=>match tabs p with
       | some l=>BO (fun s=>wJ g.dY.length g.jS s l) (aqA l []) s
       | none=> .fail
     | e=>zH g tabs n fr e s
   | .scope :: fr=>zH g tabs n fr e s
end
abbrev Hf:=Nat→List Int→Option (List Int)
def pX (xs:List Int):Int:=enc (dL (xs.map .i))
def Good (F:Hf) (ρ:Nat→Int):Prop:= ∀j xs,ρ (kE (2*j) (pX xs))=(if (F j xs).isSome then 1 else 0)∧ρ (kE (2*j+1) (pX xs))=pX ((F j xs).getD [])
def low (xs:List Int) (i:Nat):Int:=xs.getD i 0
open Classical in
def dK (F:Hf) (lo:Nat→Int) (i:Nat):Int:=if i < 900 then lo i else
 if h: ∃p:Nat×List Int,i=kE (2*p.1) (pX p.2) then (if (F h.choose.1 h.choose.2).isSome then 1 else 0) else
 if h: ∃p:Nat×List Int,i=kE (2*p.1+1) (pX p.2) then pX ((F h.choose.1 h.choose.2).getD []) else 0
theorem Xg {a b:List Int} (h:pX a=pX b):a=b:=by
 unfold pX at h
 have:=Ob (qK h)
 have hinj: ∀{x y:List Int},x.map D.i=y.map D.i→x=y:=by
  intro x
  induction x with
  | nil=>intro y h; cases y with | nil=>rfl | cons z y=>simp at h
  | cons z x ih=>
    intro y h
    cases y with
    | nil=>simp at h
    | cons q y=>
      simp only [List.map_cons,List.cons.injEq,D.i.injEq] at h
      rw [h.1,ih h.2]
 exact hinj this
theorem yE {f g:Nat} {a b:Int} (h:kE f a=kE g b):f=g∧a=b:=by
 unfold kE at h
 obtain⟨h1,h2⟩:=Ih (a:=f) (b:=zN a) (a':=g) (b':=zN b) (by omega)
 exact⟨h1,agQ h2⟩
theorem BU (f:Nat) (a:Int):1000≤kE f a:=by unfold kE; omega
theorem vC {F:Hf} {lo:Nat→Int} {i:Nat} (h:i < 900):dK F lo i=lo i:=by unfold dK; rw [if_pos h]
theorem nP (F:Hf) (lo:Nat→Int):Good F (dK F lo):=by
 intro j xs
 have h1:=BU (2*j) (pX xs)
 have h2:=BU (2*j+1) (pX xs)
 constructor
 ·unfold dK
  rw [if_neg (by omega)]
  have h: ∃p:Nat×List Int,kE (2*j) (pX xs)=kE (2*p.1) (pX p.2):=⟨(j,xs),rfl⟩
  rw [dif_pos h]
  obtain⟨q1,q2⟩:=yE h.choose_spec
  have q2:=Xg q2
  have q1:h.choose.1=j:=by omega
  rw [← q2,q1]
 ·unfold dK
  rw [if_neg (by omega)]
  have hn: ¬∃p:Nat×List Int,kE (2*j+1) (pX xs)=kE (2*p.1) (pX p.2):=by
   rintro⟨p,hp⟩
   have:=(yE hp).1
   omega
  rw [dif_neg hn]
  have h: ∃p:Nat×List Int,kE (2*j+1) (pX xs)=kE (2*p.1+1) (pX p.2):=⟨(j,xs),rfl⟩
  rw [dif_pos h]
  obtain⟨q1,q2⟩:=yE h.choose_spec
  have q2:=Xg q2
  have q1:h.choose.1=j:=by omega
  rw [← q2,q1]
theorem Good.ren {F:Hf} {ρ ρ':Nat→Int} (g:Good F ρ) (h: ∀i,900≤i→ρ' i=ρ i):Good F ρ':=by
 intro j xs
 have h1:=BU (2*j) (pX xs)
 have h2:=BU (2*j+1) (pX xs)
 rw [h _ (by omega),h _ (by omega)]
 exact g j xs
def eX (tree:Nat→T Lf):Nat→Hf
 | 0,_,_=>none
 | n+1,j,xs=>match (tree j).leaf (dK (eX tree n) (low xs)) with
   | none=>none
   | some (.out es)=>some (es.map (SE.den (dK (eX tree n) (low xs))))
   | some (.jump j' es)=>eX tree n j' (es.map (SE.den (dK (eX tree n) (low xs))))
def Pj:List CK→Bool
 | []=>true
 | c :: l=>match c with
   | .int _=>Pj l
   | .bool=>Pj l
   | _=>false
def alS (j:Nat) (Oy oH:List RK):List AV→St→T (AV×St):=fun args s=>match cellsOf Oy args with
 | none=> .fail
 | some cells=>F6 cells s fun cells s1=>outs (sW Oy) cells s1 fun es s2=>
  pV s2 (.eq (.ap (2*j) (iG es)) (.lit 1)) fun s3 b=>match b with
   | true=> .ret (match uU oH (sU (.ap (2*j+1) (iG es))) 0 with | [v]=>v | vs=> .tuple vs,match Pj (sW oH) with
     | true=>{ s3 with h:=s.h }
     | false=>s3)
   | false=> .fail
end
end Go.As
end
section
namespace Go.As
open Go.RowKit
def fZ (K:Nat):SE→Bool
 | .lit _=>true
 | .aQ i=>Nat.blt i K
 | .add a b=>fZ K a && fZ K b
 | .sub a b=>fZ K a && fZ K b
 | .mul a b=>fZ K a && fZ K b
 | .quo a b=>fZ K a && fZ K b
 | .rem a b=>fZ K a && fZ K b
 | .wrap _ a=>fZ K a
 | .inp _ _=>false
 | .dat _=>true
 | .op _ a b=>fZ K a && fZ K b
 | .ap _ _=>false
def AX (K:Nat):SB→Bool
 | .lit _=>true
 | .lt a b=>fZ K a && fZ K b
 | .le a b=>fZ K a && fZ K b
 | .eq a b=>fZ K a && fZ K b
 | .not s=>AX K s
 | .and a b=>AX K a && AX K b
mutual
def nX (K:Nat):AV→Bool
 | .bool b=>AX K b
 | .int _ e=>fZ K e
 | .qU cs=>oW K cs
 | .ro cs _ _=>oW K cs
 | .func _ a b=>oW K a && oW K b
 | .iface _ v=>nX K v
 | .agg cs=>oW K cs
 | .tuple cs=>oW K cs
 | .inp _ _=>false
 | .dat e _=>fZ K e
 | .lX e=>fZ K e
 | .uK _ n _=>fZ K n
 | .pY _ _ i _=>fZ K i
 | .Ap _ l n _=>fZ K l && fZ K n
 | .G9 z _=>fZ K z
 | _=>true
def oW (K:Nat):List AV→Bool
 | []=>true
 | x :: xs=>nX K x && oW K xs
end
def Kz (K:Nat):List (AV×AV×Nat)→Bool
 | []=>true
 | (k,v,_) :: l=>nX K k && nX K v && Kz K l
def LW (K:Nat):List (SE×List AV)→Bool
 | []=>true
 | (i,cs) :: l=>fZ K i && oW K cs && LW K l
def FI (K:Nat):dW→Bool
 | .cells cs _=>oW K cs
 | .map es _=>Kz K es
 | .nS _ _=>true
 | .vec e _ _ ov=>fZ K e && LW K ov
 | .iR e _=>fZ K e
def abA (K:Nat):List (SB×Bool)→Bool
 | []=>true
 | (c,_) :: l=>AX K c && abA K l
def wY (K:Nat):List (Nat×AV)→Bool
 | []=>true
 | (_,v) :: l=>nX K v && wY K l
def J4 (K:Nat):List dW→Bool
 | []=>true
 | o :: l=>FI K o && J4 K l
def BL (K:Nat) (c:CS):Bool:=wY K c.slots && J4 K c.objs && abA K c.pc
section
variable {K:Nat} {ρ ρ':Nat→Int} (hρ: ∀i,i < K→ρ' i=ρ i)
include hρ
theorem dI: ∀e:SE,fZ K e=true→e.den ρ'=e.den ρ
 | .lit _,_=>rfl
 | .aQ i,h=>by simp only [fZ] at h; exact hρ i (EL h)
 | .add a b,h=>by simp only [fZ,Bool.and_eq_true] at h; simp only [SE.den,dI a h.1,dI b h.2]
 | .sub a b,h=>by simp only [fZ,Bool.and_eq_true] at h; simp only [SE.den,dI a h.1,dI b h.2]
 | .mul a b,h=>by simp only [fZ,Bool.and_eq_true] at h; simp only [SE.den,dI a h.1,dI b h.2]
 | .quo a b,h=>by simp only [fZ,Bool.and_eq_true] at h; simp only [SE.den,dI a h.1,dI b h.2]
 | .rem a b,h=>by simp only [fZ,Bool.and_eq_true] at h; simp only [SE.den,dI a h.1,dI b h.2]
 | .wrap _ a,h=>by simp only [fZ] at h; simp only [SE.den,dI a h]
 | .inp _ _,h=>by simp [fZ] at h
 | .dat _,_=>rfl
 | .op _ a b,h=>by simp only [fZ,Bool.and_eq_true] at h; simp only [SE.den,dI a h.1,dI b h.2]
 | .ap _ _,h=>by simp [fZ] at h
theorem xB: ∀c:SB,AX K c=true→c.den ρ'=c.den ρ
 | .lit _,_=>rfl
 | .lt a b,h=>by simp only [AX,Bool.and_eq_true] at h; simp only [SB.den,dI hρ a h.1,dI hρ b h.2]
 | .le a b,h=>by simp only [AX,Bool.and_eq_true] at h; simp only [SB.den,dI hρ a h.1,dI hρ b h.2]
 | .eq a b,h=>by simp only [AX,Bool.and_eq_true] at h; simp only [SB.den,dI hρ a h.1,dI hρ b h.2]
 | .not s,h=>by simp only [AX] at h; simp only [SB.den,xB s h]
 | .and a b,h=>by simp only [AX,Bool.and_eq_true] at h; simp only [SB.den,xB a h.1,xB b h.2]
end
section
variable {K:Nat} {E E':En} (hρ: ∀i,i < K→E'.ρ i=E.ρ i) (hθ:E'.θ=E.θ) (hκ:E'.κ=E.κ) (hdm:E'.dm=E.dm) (hro:E'.ro=E.ro) {h:Array Obj}
include hρ hθ hκ hdm hro
theorem fJ.low {id off len:Nat} {a:Addr} {cap:Nat} {c:Xv} (hc:fJ E id off len a cap c):fJ E' id off len a cap c:=by
 cases c <;> simp only [fJ] at* <;> rw [hθ]
 ·exact hc
 ·rw [hκ]; exact hc
mutual
theorem VR.low: ∀(x:AV) (u:Value),nX K x=true→VR E h x u→VR E' h x u
 | .bool b,u,hl,hv=>by simp only [VR,nX] at *; rw [xB hρ b hl]; exact hv
 | .int _ e,u,hl,hv=>by simp only [VR,nX] at *; rw [dI hρ e hl]; exact hv
 | .str s,u,_,hv=>by simp only [VR] at *; exact hv
 | .ptr id off,u,_,hv=>by simp only [VR] at *; rw [hθ,hdm]; exact hv
 | .jJ,u,_,hv=>by simp only [VR] at *; exact hv
 | .qU cs,u,hl,hv=>by
   simp only [VR,nX] at *
   obtain⟨b,o,us,h1,h2,h3,h4,h5⟩:=hv
   exact⟨b,o,us,h1,by rw [hro]; exact h2,bJ.low cs us hl h3,h4,h5⟩
 | .slice id off len c,u,_,hv=>by
   simp only [VR] at *
   obtain⟨h1,a,cap,h2,h3,h4⟩:=hv
   exact⟨by rw [hdm]; exact h1,a,cap,h2,h3,fJ.low hρ hθ hκ hdm hro h4⟩
 | .aA,u,_,hv=>by simp only [VR] at *; exact hv
 | .ro cs n full,u,hl,hv=>by
   simp only [VR,nX] at *
   obtain⟨b,o,cap,us,h1,h2,h3,h4,h5,h6,h7⟩:=hv
   exact⟨b,o,cap,us,h1,h2,h3,by rw [hro]; exact h4,bJ.low cs us hl h5,h6,h7⟩
 | .map id,u,_,hv=>by simp only [VR] at *; rw [hθ,hdm]; exact hv
 | .lW,u,_,hv=>by simp only [VR] at *; exact hv
 | .func fn fs cs,u,hl,hv=>by
   simp only [VR,nX,Bool.and_eq_true] at *
   obtain⟨us,ws,h1,h2,h3⟩:=hv
   exact⟨us,ws,h1,bJ.low fs us hl.1 h2,bJ.low cs ws hl.2 h3⟩
 | .yU,u,_,hv=>by simp only [VR] at *; exact hv
 | .iface t x,u,hl,hv=>by
   simp only [VR,nX] at *
   obtain⟨y,h1,h2⟩:=hv
   exact⟨y,h1,VR.low x y hl h2⟩
 | .Es,u,_,hv=>by simp only [VR] at *; exact hv
 | .agg cs,u,hl,hv=>by
   simp only [VR,nX] at *
   obtain⟨us,h1,h2⟩:=hv
   exact⟨us,h1,bJ.low cs us hl h2⟩
 | .tuple cs,u,hl,hv=>by
   simp only [VR,nX] at *
   obtain⟨us,h1,h2⟩:=hv
   exact⟨us,h1,bJ.low cs us hl h2⟩
 | .opq _,u,_,hv=>by simp only [VR] at hv
 | .inp _ _,u,hl,_=>by simp [nX] at hl
 | .emp,u,_,hv=>by simp only [VR] at *; exact hv
 | .dat e t,u,hl,hv=>by simp only [VR,nX] at *; rw [dI hρ e hl,hro]; exact hv
 | .lX e,u,hl,hv=>by simp only [VR,nX] at *; rw [dI hρ e hl,hro]; exact hv
 | .uK id n t,u,hl,hv=>by
   simp only [VR,nX] at *
   obtain⟨h1,k,a,cap,h2,h3,h4,h5⟩:=hv
   exact⟨by rw [hdm]; exact h1,k,a,cap,by rw [dI hρ n hl]; exact h2,h3,h4,fJ.low hρ hθ hκ hdm hro h5⟩
 | .pY id es i off,u,hl,hv=>by
   simp only [VR,nX] at *
   obtain⟨h1,k,h2,h3⟩:=hv
   exact⟨by rw [hdm]; exact h1,k,by rw [dI hρ i hl]; exact h2,by rw [hθ]; exact h3⟩
 | .any,u,_,_=>by simp only [VR]
 | .G9 z t,u,hl,hv=>by simp only [VR,nX] at *; rw [dI hρ z hl,hro]; exact hv
 | .Ap id lo n t,u,hl,hv=>by
   simp only [VR,nX,Bool.and_eq_true] at *
   obtain⟨h1,l,k,a,cap,h2,h3,h4,h5,h6⟩:=hv
   exact⟨by rw [hdm]; exact h1,l,k,a,cap,by rw [dI hρ lo hl.1]; exact h2,by rw [dI hρ n hl.2]; exact h3,h4,h5,fJ.low hρ hθ hκ hdm hro h6⟩
theorem bJ.low: ∀(xs:List AV) (us:List Value),oW K xs=true→bJ E h xs us→bJ E' h xs us
 | [],us,_,hv=>by simp only [bJ] at *; exact hv
 | x :: xs,us,hl,hv=>by
   simp only [bJ,oW,Bool.and_eq_true] at *
   obtain⟨u,vs,h1,h2,h3⟩:=hv
   exact⟨u,vs,h1,VR.low x u hl.1 h2,bJ.low xs vs hl.2 h3⟩
end
theorem fA.low: ∀{es:List (AV×AV×Nat)} {ents:List MapEntry},Kz K es=true→fA E h es ents→fA E' h es ents
 | [],_,_,hv=>by simp only [fA] at *; exact hv
 | (k,v,b) :: es,ents,hl,hv=>by
   simp only [fA,Kz,Bool.and_eq_true] at *
   obtain⟨e,r,h1,h2,h3,h4,h5⟩:=hv
   exact⟨e,r,h1,VR.low hρ hθ hκ hdm hro k _ hl.1.1 h2,VR.low hρ hθ hκ hdm hro v _ hl.1.2 h3,h4,fA.low hl.2 h5⟩
theorem PY {i:Nat}: ∀{ov:List (SE×List AV)},LW K ov=true→dQ E'.ρ i ov=dQ E.ρ i ov
 | [],_=>rfl
 | (j,cs) :: l,hl=>by
   simp only [LW,Bool.and_eq_true] at hl
   simp only [dQ]
   rw [dI hρ j hl.1.1,PY hl.2]
theorem P5: ∀{ov:List (SE×List AV)},LW K ov=true→∀p∈ov,oW K p.2=true
 | [],_,p,hp=>by simp at hp
 | (j,cs) :: l,hl,p,hp=>by
   simp only [LW,Bool.and_eq_true] at hl
   rcases List.mem_cons.1 hp with rfl | hp
   ·exact hl.1.2
   ·exact P5 hl.2 p hp
theorem Gw {r:Row} {ov:List (SE×List AV)} (hl:LW K ov=true): ∀(ds:List D) (i:Nat) {us:List Value},bJ E h (aK E.ρ r ov ds i) us→bJ E' h (aK E'.ρ r ov ds i) us
 | [],_,us,hv=>by simp only [aK,bJ] at *; exact hv
 | d :: ds,i,us,hv=>by
   simp only [aK] at *
   obtain⟨a,b,rfl,h1,h2⟩:=hv.split
   refine bJ.append ?_ (Gw hl ds (i+1) h2)
   rw [PY hρ hθ hκ hdm hro hl]
   cases ho:dQ E.ρ i ov with
   | none=>
     rw [ho] at h1
     rw [gV] at h1 ⊢
     rw [hro]
     exact h1
   | some cs=>
     rw [ho] at h1
     obtain⟨p,p1,p2,_⟩:=nK ho
     exact bJ.low hρ hθ hκ hdm hro cs a (by rw [← p2]; exact P5 hρ hθ hκ hdm hro hl p p1) h1
theorem OR.low {id:Nat} {o:dW} (hl:FI K o=true) (ho:OR E h id o):OR E' h id o:=by
 cases o with
 | cells cs e=>
   simp only [OR,FI] at *
   obtain⟨arr,lo,hi,us,h1,h2,h3,h4,h5,h6,h7⟩:=ho
   rw [hθ,hκ]
   exact⟨arr,lo,hi,us,h1,bJ.low hρ hθ hκ hdm hro cs us hl h2,h3,h4,h5,h6,h7⟩
 | map es c=>
   simp only [OR,FI] at *
   obtain⟨ents,c',h1,h2⟩:=ho
   rw [hθ]
   exact⟨ents,c',h1,fA.low hρ hθ hκ hdm hro hl h2⟩
 | nS s p=>simp only [OR] at *; rw [hθ]; exact ho
 | iR e t=>
   simp only [OR,FI] at *
   obtain⟨ents,c',h1,h2⟩:=ho
   rw [hθ,dI hρ e hl,hro]
   exact⟨ents,c',h1,h2⟩
 | vec e t ty ov=>
   simp only [OR,FI,Bool.and_eq_true] at *
   obtain⟨⟨h0,hw⟩,arr,lo,hi,us,h1,h2,h3,h4,h5,h6,h7⟩:=ho
   have he:=dI hρ e hl.1
   rw [hθ,hκ,he]
   refine⟨⟨h0,hw⟩,arr,lo,hi,us,h1,Gw hρ hθ hκ hdm hro hl.2 _ _ h2,h3,?_,h5,h6,h7⟩
   rw [bU h0] at h4 ⊢
   exact h4
end
theorem VD {K:Nat} {ρ ρ':Nat→Int} (hρ: ∀i,i < K→ρ' i=ρ i): ∀{pc:List (SB×Bool)},abA K pc=true→bI ρ pc→bI ρ' pc
 | [],_,_=>by intro c b h; simp at h
 | (c0,b0) :: l,hl,hp=>by
   simp only [abA,Bool.and_eq_true] at hl
   intro c b hm
   rcases List.mem_cons.1 hm with hm | hm
   ·simp only [Prod.mk.injEq] at hm
    obtain⟨rfl,rfl⟩:=hm
    rw [xB hρ c hl.1]
    exact hp c b (by simp)
   ·exact VD hρ hl.2 (fun c b h=>hp c b (by simp [h])) c b hm
theorem Fe {K:Nat}: ∀{l:List (Nat×AV)},wY K l=true→∀{t:Nat} {v:AV},(t,v)∈l→nX K v=true
 | [],_,_,_,h=>by simp at h
 | (t0,v0) :: l,hs,t,v,h=>by
   simp only [wY,Bool.and_eq_true] at hs
   rcases List.mem_cons.1 h with h | h
   ·simp only [Prod.mk.injEq] at h
    rw [h.2]; exact hs.1
   ·exact Fe hs.2 h
theorem Bf {K:Nat}: ∀{l:List dW},J4 K l=true→∀{i:Nat} {o:dW},l[i]?=some o→FI K o=true
 | [],_,_,_,h=>by simp at h
 | o0 :: l,hs,i,o,h=>by
   simp only [J4,Bool.and_eq_true] at hs
   cases i with
   | zero=>simp at h; rw [← h]; exact hs.1
   | succ i=>exact Bf hs.2 (by simpa using h)
structure G5 (E:En) (s:St) (a:Act) (w:World):Prop where
 fresh: ∀id,s.h.next≤id→¬E.dm id
 res: ∀r,s.h.res=some r→r < s.h.next∧¬E.dm r
 live: ∀id o,s.h.get id=some o→E.dm id∧OR E w.heap id o∧¬E.ro (E.θ id).1
 inj: ∀id id' o o',s.h.get id=some o→s.h.get id'=some o'→(E.θ id).1=(E.θ id').1→id=id'
 AZ: ∀b,E.ro b→b < w.heap.size
 sr:SR E w.heap s.slots a
 pc:bI E.ρ s.pc
theorem Fit.x [Glob] {E:En} {s:St} {a:Act} {w:World} (f:Fit E s a w):G5 E s a w:=⟨f.rel.fresh,f.rel.res,f.rel.live,f.rel.inj,f.rel.AZ,f.sr,f.pc⟩
theorem G5.fit [Glob] {E:En} {s:St} {a:Act} {w:World} (f:G5 E s a w) (hg:Glob.ok E.ρ E.ro w.heap):Fit E s a w:=⟨⟨f.fresh,f.res,f.live,f.inj,f.AZ,hg⟩,f.sr,f.pc⟩
theorem G5.low {K:Nat} {E:En} {c:CS} {a:Act} {w:World} {ρ':Nat→Int} (hc:BL K c=true) (hρ: ∀i,i < K→ρ' i=E.ρ i) (f:G5 E c.st a w):G5 { E with ρ:=ρ' } c.st a w:=by
 unfold BL at hc
 simp only [Bool.and_eq_true] at hc
 obtain⟨⟨h1,h2⟩,h3⟩:=hc
 refine⟨f.fresh,f.res,fun id o ho=>?_,f.inj,f.AZ,fun t v ht=>?_,VD hρ h3 f.pc⟩
 ·obtain⟨q1,q2,q3⟩:=f.live id o ho
  refine⟨q1,OR.low (E:=E) (E':={ E with ρ:=ρ' }) hρ rfl rfl rfl rfl ?_ q2,q3⟩
  have:(uT c.objs 0 .nil).get id=some o:=ho
  rw [mW] at this
  split at this
  ·exact Bf h2 this
  ·simp [Tr.get] at this
 ·obtain⟨u,q1,q2⟩:=f.sr t v ht
  refine⟨u,q1,VR.low (E:=E) (E':={ E with ρ:=ρ' }) hρ rfl rfl rfl rfl v u ?_ q2⟩
  have:(rE c.slots .nil).get t=some v:=ht
  rcases AL this with h | h
  ·exact Fe h1 h
  ·simp [Tr.get] at h
end Go.As
end

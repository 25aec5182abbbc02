import Derived.Lib.Bytealg
import Derived.Lib.IndexMore
import Derived.Deep.LoopGhost
import Derived.Test.YtlgfoolepdjmoaaGreatDoorAsZN1
set_option linter.unusedSectionVars false
set_option linter.unusedVariables false
set_option linter.unusedSimpArgs false
section
namespace Go.As
section
variable {P:Program}
theorem wQ {tt:TT}: ∀{l:List Oper} {i:Nat} {o:Oper},l[i]?=some o->jk tt (l.take (i+1))=jk tt (l.take i)+(match kindOf tt o.op with | .e=>1|_=>0)
 |[],i,o,h=>by simp at h
 |x::xs,0,o,h=>by
  simp at h;subst h;simp only [ay,anh,List.take_zero,jk]
  grind
 |x::xs,i+1,o,h=>by simp only [anh,jk];rw [wQ (l:=xs) (by simpa using h)];omega
theorem Mr {tt:TT} {l:List Oper} {i:Nat} (h:l[i]?=none):jk tt (l.take (i+1))=jk tt (l.take i):=by have:=anH.1 h;rw [ans J,ans J]
theorem HL {tt:TT} {l:List Oper} {i:Nat}: ∀{j:Nat},i<=j->jk tt (l.take i)<=jk tt (l.take j)
 |0,h=>by
  grind
 |j+1,h=>by
  by_cases e:i=j+1
  ·grind
  ·have:=HL (tt:=tt) (l:=l) (i:=i) (j:=j) J
   cases ho:l[j]? with
   |none=>rw [Mr ho]; exact this
   |some o=>rw [wQ ho]; omega
theorem JU {tt:TT} {l:List Oper} {i j:Nat} {o:Oper} (ho:l[i]?=some o) (hk:kindOf tt o.op= .e) (h:i<j):jk tt (l.take i)<jk tt (l.take j):=by
 have U:=wQ (tt:=tt) ho;rw [hk] at U;have Z:=HL (tt:=tt) (l:=l) (i:=i+1) (j:=j) h
 grind
theorem wP {tt:TT} {l:List Oper} {m:Nat}: ∀{j:Nat},m<jk tt (l.take j)->∃i o,i<j/\l[i]?=some o/\kindOf tt o.op= .e/\jk tt (l.take i)=m
 |0,h=>by simp [jk] at h
 |j+1,h=>by
  cases ho:l[j]? with
  |none=>
   rw [Mr ho] at h;obtain⟨i,o,U,Z⟩:=wP h
   grind
  |some o=>
   rw [wQ ho] at h;rcases aT m (jk tt (l.take j)) with h'|h'
   ·obtain⟨i,o,U,Z⟩:=wP h'
    grind
   grind
def Aq (tt:TT) (all:List Oper) (ms:List Nat) (j:Nat) (o:Oper):Item:=⟨j,o,ms.getD j 0,kindOf tt o.op,jk tt (all.take j),reads all o⟩
theorem iE {tt:TT} {all:List Oper} {ms:List Nat} {j:Nat} {o:Oper} (h:all[j]?=some o):(items tt all ms all 0 0)[j]?=some (Aq tt all ms j o):=by rw [jI,h];simp [Aq]
theorem G0 {tt:TT} {all:List Oper} {ms:List Nat} {x:Item} (h:x∈items tt all ms all 0 0): ∃j o,all[j]?=some o/\x=Aq tt all ms j o:=by
 obtain⟨j,hj⟩:=an2 h
 cases ho:all[j]? with
 |none=>rw [jI,ho] at hj; simp at hj
 |some o=>
  rw [iE ho] at hj
  grind
structure ac3 (tt:TT) (all:List Oper) (ms:List Nat):Prop where
 back: ∀(j:Nat) (o:Oper),all[j]?=some o->∀e∈o.after,Region.binds .any e=true->e.on<j
 mask: ∀(j:Nat) (o:Oper),all[j]?=some o->ms.getD j 0=nY ms o.after.toList
 rd: ∀(j:Nat) (o:Oper),all[j]?=some o->∀t∈reads all o,∀(i:Nat) (oi:Oper),all[i]?=some oi->oi.dst=some t->(ms.getD j 0).testBit i=true\/(kindOf tt o.op≠.r/\(ms.getD i 0).testBit j=true)
 dst: ∀(i j:Nat) (oi oj:Oper) (d:Nat),all[i]?=some oi->all[j]?=some oj->oi.dst=some d->oj.dst=some d->i=j
 tot: ∀(i j:Nat) (oi oj:Oper),all[i]?=some oi->all[j]?=some oj->kindOf tt oi.op= .e->kindOf tt oj.op= .e->i<j->(ms.getD j 0).testBit i=true
theorem I! {tt:TT} {all:List Oper} {q:Stat} (h:stat tt all=some q): ∃ms,q.is=items tt all ms all 0 0/\q.nE=jk tt all/\q.rs=((q.is.filter (·.k.V?)).map fun x=>(x,AE q.is q.nE x))/\ac3 tt all ms:=by
 unfold stat at h;simp only at h;split at h
 ·rename_i oP;simp at h;subst h;refine⟨qF all [],rfl,mF _ _ _,rfl,?_⟩;have key: ∀(j:Nat) (o:Oper),all[j]?=some o->xK (qF all []) (items tt all (qF all []) all 0 0) (Aq tt all (qF all []) j o)=true:=fun j o ho=>aX.1 oP _ (amE (iE ho));have mem: ∀(j:Nat) (o:Oper),all[j]?=some o->Aq tt all (qF all []) j o∈items tt all (qF all []) all 0 0:=fun j o ho=>amE (iE ho);refine⟨?_,?_,?_,?_,?_⟩
  ·intro j o ho e he hb;have:=key j o ho;simp only [xK,an,aX] at this;have:=this.1.1.1.1 e (by simpa [Aq] using he);simpa [hb,Aq] using this
  ·intro j o ho;have:=key j o ho;simp only [xK,an] at this;have:=this.1.1.1.2;simpa [Aq] using this
  ·intro j o ho t ht i oi hoi hd;have:=key j o ho;simp only [xK,an,aX] at this;have:=this.1.1.2 t ht _ (mem i oi hoi);simp only [Aq,hd,ne_eq,not_true_eq_false,decide_false,anL,ane,an,amW] at this;rcases this with h|⟨U,Z⟩
   ·grind
   ·refine .inr ⟨fun hk=>?_,Z⟩;rw [hk] at U;simp [Kind.V?] at U
  ·intro i j oi oj d hi hj hdi hdj;have:=key i oi hi;simp only [xK,an,aX] at this;have:=this.1.2 _ (mem j oj hj);simp [Aq,hdi,hdj] at this
   grind
  ·intro i j oi oj hi hj Ye hkj fD;have:=key j oj hj;simp only [xK,an,aX] at this;have:=this.2;simp only [Aq,hkj,Kind.isE,anJ,anL,aX] at this;have:=this _ (mem i oi hi);simpa [Aq,Ye,Kind.isE,fD] using this
 grind
theorem DH [bG] {tt:TT} (cJ:eB P tt) {call:ek} (hc:im P call) {ops:Array Oper} {base:Nat} {pc:List (SB×Bool)} {ρ:Nat->Int} (hp:bT ρ pc) {x:Item} (hk:kindOf tt x.o.op= .r) {v:W} {S:Tr W} {hY:List (Nat×dP)} {lW:List (Hp×Nat)}: ∀(ks:List Nat),(CG tt call ops.toList base pc x v S hY lW ks).leaf ρ=some ()->
 ∀k∈ks,∃h mm,lW[k]?=some (h,mm)/\FB P ρ ops x.o S (fF base x.m mm hY h) v (fF base x.m mm hY h)
 |[],_=>by simp
 |k::ks,h=>by
  simp only [CG] at h;split at h
  ·rename_i h0 mm hn;obtain⟨⟨u,s'⟩,U,Z⟩:=T.fg h;simp only at Z;split at Z
   ·rename_i hs;have ha:=JF cJ hc (s:=⟨S,fF base x.m mm hY h0,pc⟩) hp U;have hr:=ajw hk U;rw [hr,jF _ _ hs] at ha;intro k' uC;rcases aw.1 uC with rfl|uC
    ·exact⟨h0,mm,by rw [<- dg]; exact hn,ha⟩
    ·exact DH cJ hc hp hk ks Z k' uC
   ·simp [T.leaf] at Z
  ·simp [T.leaf] at h
theorem Gq [bG] {tt:TT} (cJ:eB P tt) {call:ek} (hc:im P call) {ops:Array Oper} {base:Nat} {ρ:Nat->Int} {d:Px} {lW:List (Hp×Nat)} {vs:List W}: ∀(rs:List (Item×List Nat)) {pc ea:List (SB×Bool)},bT ρ pc->(∀r∈rs,kindOf tt r.1.o.op= .r)->(It tt call ops.toList base d lW vs rs pc).leaf ρ=some ea->
 bT ρ ea/\∀r∈rs,∃v,vs[r.1.i]?=some v/\∀k∈r.2,∃h mm,lW[k]?=some (h,mm)/\FB P ρ ops r.1.o (only d.bE r.1.rd) (fF base r.1.m mm d.hY h) v (fF base r.1.m mm d.hY h)
 |[],pc,ea,hp,_,h=>by
  have:=bC h
  grind
 |(x,ks)::rs,pc,ea,hp,hk,h=>by
  simp only [It] at h;split at h
  ·rename_i v hv;obtain⟨⟨⟩,fI,U,fq,Z⟩:=T.lQ hp h;obtain⟨jz,ih⟩:=Gq cJ hc rs fq (fun r hr=>hk r (by simp [hr])) Z;refine⟨jz,fun r hr=>?_⟩;rcases aw.1 hr with rfl|hr
   ·exact⟨v,by rw [<- dg]; exact hv,DH cJ hc hp (hk _ ad) ks U⟩
   grind
  ·simp [T.leaf] at h
end
section
variable {P:Program}
theorem N_ {α:Type} {l pre:List α} {a b:α} {l0:List α} (h:l=pre++a::b::l0):l.reverse[l0.length]?=some b/\l.reverse[l0.length+1]?=some a:=by
 grind
theorem Te {n b:Nat} (h:((1 <<<n)-1).testBit b=true):b<n:=by
 rw [Nat.shiftLeft_eq,anl,Nat.testBit_two_pow_sub_one] at h
 grind
theorem O' [bG] {tt:TT} {ops:Array Oper} {ms:List Nat} {ρ:Nat->Int} {pj:Tr W} {H0:Hp} {base N:Nat} {d:Px} (sf:ac3 tt ops.toList ms) (hb:base=H0.next) (hN:base+ops.size<=N)
 (rf:akw P ρ ops base N (items tt ops.toList ms ops.toList 0 0) ⟨pj,[(⟨H0.m,base+ops.size,none⟩,0)],[],[],[]⟩ d)
 (Oh: ∀r∈((items tt ops.toList ms ops.toList 0 0).filter (·.k.V?)).map fun x=>(x,AE (items tt ops.toList ms ops.toList 0 0) (jk tt ops.toList) x),∃v,d.vs.reverse[r.1.i]?=some v/\∀k∈r.2,∃h mm,d.lW.reverse[k]?=some (h,mm)/\FB P ρ ops r.1.o (only d.bE r.1.rd) (fF base r.1.m mm d.hY h) v (fF base r.1.m mm d.hY h))
 (hun:H4 base d.hY d.lW=true) :
 ∃p:Fx P ρ ops pj H0,p.base=base/\p.nE=jk tt ops.toList/\(∀i,p.val i=(d.vs.reverse[i]?).getD .sV)/\(∀k h mm,d.lW.reverse[k]?=some (h,mm)->p.hp k=h/\∀a,p.un k a=!mm.testBit a)/\(∀i,p.kE i=(d.BL.reverse[i]?).getD none)/\
  (∀(m:Nat),m<p.nE->∃(j:Nat) (o:Oper),ops[j]?=some o/\p.kd j= .e/\p.st j=m):=by
 have gT: ∀(j:Nat),ops.toList[j]?=ops[j]?:=fun j=>amD;have fD: ∀{j:Nat} {o:Oper},ops[j]?=some o->j<ops.size:=fun h=>(amK.1 h).1;have hci:jN (items tt ops.toList ms ops.toList 0 0)=jk tt ops.toList:=mF _ _ _;have G9:jk tt ops.toList=jk tt (ops.toList.take ops.size):=by rw [ans ad]
 obtain⟨ps,s1,s2⟩:=rf.lW;rw [hci] at s2;have ams:d.lW.length=jk tt ops.toList+1:=by rw [s1,aZ,s2]; rfl
 have alb:d.lW.reverse[0]?=some (⟨H0.m,base+ops.size,none⟩,0):=by rw [s1]; simp
 have aiQ: ∀k,k<=jk tt ops.toList->∃h mm,d.lW.reverse[k]?=some (h,mm):=by
  intro k hk;have:k<d.lW.reverse.length:=by rw [aoq]; omega
  exact⟨d.lW.reverse[k].1,d.lW.reverse[k].2,aM this⟩
 have hnx:=rf.nxt (by
  intro q hq;simp only [aw,amI,or_false] at hq;subst hq
  exact⟨hN,rfl⟩)
 have aeM: ∀(k:Nat) (h:Hp) (mm:Nat),d.lW.reverse[k]?=some (h,mm)->h.next<=N/\h.res=none:=by intro k h mm hh;exact hnx (h,mm) (by have:=amE hh; simpa using this)
 let hpf:Nat->Hp:=fun k=>((d.lW.reverse[k]?).map (·.1)).getD ⟨.nil,0,none⟩
 let unf:Nat->Nat->Bool:=fun k a=>match d.lW.reverse[k]? with |some q=>!q.2.testBit a|none=>false
 let bff:Nat->Nat->Bool:=fun i j=>match ops[j]? with |some _=>(ms.getD j 0).testBit i|none=>false
 let kdf:Nat->Kind:=fun i=>match ops[i]? with |some o=>kindOf tt o.op|none=> .pa
 let JW:Nat->Option dP:=fun i=>(d.BL.reverse[i]?).getD none
 have hpe: ∀k h mm,d.lW.reverse[k]?=some (h,mm)->hpf k=h/\∀a,unf k a=!mm.testBit a:=by intro k h mm hh;refine⟨by simp only [hpf,hh]; rfl,fun a=>by simp only [unf,hh]⟩
 have d!: ∀{i j:Nat} {o:Oper},ops[j]?=some o->bff i j=(ms.getD j 0).testBit i:=by intro i j o ho;simp only [bff,ho]
 have XL: ∀{j:Nat} {o:Oper},ops[j]?=some o->kdf j=kindOf tt o.op:=by intro j o ho;simp only [kdf,ho]
 have kdE: ∀{j:Nat},kdf j= .e->∃o,ops[j]?=some o/\kindOf tt o.op= .e:=by
  intro j hj
  cases ho:ops[j]? with
  |none=>simp only [kdf,ho] at hj; simp at hj
  |some o=>exact⟨o,rfl,by rw [<- XL ho]; exact hj⟩
 have Yl: ∀(k:Nat),∀(o':Oper),ops[k]?=some o'->∀b,(ms.getD k 0).testBit b=true->b<k:=by
  intro k
  induction k using Nat.strongRecOn with
  |_ k ih=>
   intro o' wB b El;rw [sf.mask k o' (by rw [gT]; exact wB)] at El;obtain⟨e,e1,e2,e3⟩:=oQ El;have e1':e∈o'.after:=by simpa using e1
   have aeP:=sf.back k o' (by rw [gT]; exact wB) e e1' e2;rcases e3 with rfl|e3
   ·exact aeP
   ·have:=fD wB;have:=ih e.on aeP (ops[e.on]'J) ad b e3;omega
 have alG: ∀(i:Nat),∃S:Tr W,∀(o:Oper),ops[i]?=some o->∃dp Us v ob pre,dp.bE=S/\Fv P ρ ops base N (Aq tt ops.toList ms i o) dp v ob Us/\d.vs.reverse[i]?=some v/\d.BL.reverse[i]?=some ob/\d.lW=pre++Us.lW/\dp.lW.length=1+jk tt (ops.toList.take i)/\
  (∀q,q∈dp.hY->q∈d.hY)/\(∀t x,S.get t=some x->(∃p oj,p<i/\ops[p]?=some oj/\oj.dst=some t/\d.vs.reverse[p]?=some x)\/(pj.get t=some x/\∀(p:Nat) (oj:Oper),p<i->ops[p]?=some oj->oj.dst≠some t)):=by
  intro i
  cases hoi:ops[i]? with
  |none=>exact⟨.nil,fun o h=>by simp at h⟩
  |some o0=>
   have hx:(items tt ops.toList ms ops.toList 0 0)[i]?=some (Aq tt ops.toList ms i o0):=iE (by rw [gT]; exact hoi);obtain⟨dp,Us,v,ob,pre,g1,g2,g3,g4,g5,g6,g7,g8⟩:=rf.at_ i _ hx;refine⟨dp.bE,fun o ho=>?_⟩;simp only [ag] at ho;subst ho;refine⟨dp,Us,v,ob,pre,rfl,g1,by simpa using g2,by simpa using g3,g4,?_,g6,?_⟩
   ·rw [g5];congr 1
    have:(items tt ops.toList ms ops.toList 0 0).take i=items tt ops.toList ms (ops.toList.take i) 0 0:=by
     apply anF;intro j;rw [am5,jI,jI,am5];split
     ·rename_i hj;rw [List.take_take,aor J]
     ·rfl
    rw [this,mF]
   ·intro t x ht;rcases g8 t x ht with ⟨p,y,q1,q2,q3,q4⟩|⟨q1,q2⟩
    ·cases oX:ops.toList[p]? with
     |none=>rw [jI,oX] at q2; simp at q2
     |some oj=> rw [iE oX] at q2;simp at q2;subst q2;exact .inl ⟨p,oj,q1,by rw [<- gT]; exact oX,q3,by simpa using q4⟩
    ·refine .inr ⟨q1,fun p oj hp oX=>?_⟩
     have hm:Aq tt ops.toList ms p oj∈(items tt ops.toList ms ops.toList 0 0).take i:=by refine amE (i:=p) ?_;rw [am5,ah hp];exact iE (by rw [gT]; exact oX)
     exact q2 _ hm
 obtain⟨Sd,mN⟩:=Classical.skolem.1 alG
 let Sf:Nat->Tr W:=fun i=>match ops[i]? with
  |some o=>(match kindOf tt o.op with
   | .r=>only d.bE (reads ops.toList o)
   |_=>only (Sd i) (reads ops.toList o))
  |none=> .nil
 have SfR: ∀{i:Nat} {o:Oper},ops[i]?=some o->kindOf tt o.op= .r->Sf i=only d.bE (reads ops.toList o):=by intro i o ho hk;simp only [Sf,ho,hk]
 have SfN: ∀{i:Nat} {o:Oper},ops[i]?=some o->kindOf tt o.op≠.r->Sf i=only (Sd i) (reads ops.toList o):=by
  intro i o ho hk;have:Sf i=(match kindOf tt o.op with | .r=>only d.bE (reads ops.toList o)|_=>only (Sd i) (reads ops.toList o)):=by simp only [Sf,ho]
  rw [this]
  cases hh:kindOf tt o.op with
  |r=>exact absurd hh hk
  |pa=>rfl
  |e=>rfl
 have LF: ∀a b,(a,b)∈d.hY->JW a=some b:=by
  intro a b MY;rcases rf.kE a b MY with h|⟨p,x,g1,g2,g3⟩
  ·simp at h
  ·cases ho:ops.toList[p]? with
   |none=>rw [jI,ho] at g1; simp at g1
   |some o=> rw [iE ho] at g1;simp at g1;subst g1;have:p=a:=g2;subst this;simp only [bg,ay] at g3;simp only [JW,g3,aC]
 have aje: ∀a b,JW a=some b->(a,b)∈d.hY:=by
  intro a b MY
  have I4:d.BL.reverse[a]?=some (some b):=by
   simp only [JW] at MY
   cases hh:d.BL.reverse[a]? with
   |none=>rw [hh] at MY; simp at MY
   |some x=>rw [hh] at MY; simp at MY; rw [MY]
  obtain⟨po,o1,o2⟩:=rf.BL
  have U0:a<ops.size:=by have U:=(aW.1 I4).1;rw [aoq,o1,ank,o2,sY] at U;simpa using U
  have hx:(items tt ops.toList ms ops.toList 0 0)[a]?=some (Aq tt ops.toList ms a ops[a]):=iE (by rw [gT]; simp [U0]);exact rf.alY a _ b hx (by simpa using I4)
 refine⟨{
  base:=base,bf:=bff,kd:=kdf,S:=Sf,val:=fun i=>(d.vs.reverse[i]?).getD .sV,st:=fun i=>jk tt (ops.toList.take i),nE:=jk tt ops.toList,hp:=hpf,un:=unf,kE:=JW,
  gen:=?_,back:=?_,dst:=?_,bE:=?_,stl:=?_,inj:=?_,ahN:=?_,pa:=?_,ev:=?_,rd:=?_,unm:=?_,nob:=?_,first:=?_ },rfl,rfl,fun i=>rfl,hpe,fun i=>rfl,?_⟩
 ·intro i j h
  cases ho:ops[j]? with
  |none=>simp only [bff,ho] at h; simp at h
  |some o=>
   rw [d! ho,sf.mask j o (by rw [gT]; exact ho)] at h;obtain⟨e,e1,e2,e3⟩:=oQ h;have e1':e∈o.after:=by simpa using e1
   refine⟨o,e,rfl,e1',e2,e3.imp id fun h3=>?_⟩;have Y:=sf.back j o (by rw [gT]; exact ho) e e1' e2;have hj:=fD ho;rw [d! (o:=ops[e.on]'J) ad];exact h3
 ·intro j o ho e he El;exact sf.back j o (by rw [gT]; exact ho) e he El
 ·intro i j oi oj dd hi hj U Z;exact sf.dst i j oi oj dd (by rw [gT]; exact hi) (by rw [gT]; exact hj) U Z
 ·intro i o ho t x ht
  cases hk:kindOf tt o.op with
  |r=>
   rw [SfR ho hk] at ht;obtain⟨U,Z⟩:=yY ht;rcases rf.slot t x Z with ⟨p,y,g1,g2,g3⟩|⟨g1,g2⟩
   ·cases oX:ops.toList[p]? with
    |none=>rw [jI,oX] at g1; simp at g1
    |some oj=>
     rw [iE oX] at g1;simp at g1;subst g1;have hp:ops[p]?=some oj:=by rw [<- gT]; exact oX
     refine .inl ⟨p,oj,?_,hp,g2,?_⟩
     ·rw [d! ho];rcases sf.rd i o (by rw [gT]; exact ho) t U p oj oX g2 with h|⟨h,_⟩
      ·exact h
      ·exact absurd hk h
     ·simp only [bg,ay] at g3;simp only [g3,aC]
   ·refine .inr ⟨g1,fun j oj oX hd=>?_⟩;exact absurd hd (g2 _ (amE (iE (by rw [gT]; exact oX))))
  |_=>
   rw [SfN ho (by rw [hk]; simp)] at ht;obtain⟨U,Z⟩:=yY ht;obtain⟨dp,Us,v,ob,pre,_,_,_,_,_,_,_,g8⟩:=mN i o ho;rcases g8 t x Z with ⟨p,oj,q1,q2,q3,q4⟩|⟨q1,q2⟩
   ·refine .inl ⟨p,oj,?_,q2,q3,by rw [q4]; rfl⟩;rw [d! ho];rcases sf.rd i o (by rw [gT]; exact ho) t U p oj (by rw [gT]; exact q2) q3 with h|⟨_,h⟩
    ·exact h
    ·have:=Yl p oj q2 i h;omega
   ·refine .inr ⟨q1,fun j oj oX hd=>?_⟩;rw [d! oX];rcases sf.rd i o (by rw [gT]; exact ho) t U j oj (by rw [gT]; exact oX) hd with h|⟨_,h⟩
    ·exact absurd hd (q2 j oj (Yl i o ho j h) oX)
    ·exact h
 ·intro j o ho hk;rw [XL ho] at hk;rw [G9];exact JU (by rw [gT]; exact ho) hk (fD ho)
 ·intro i j hi hj he;obtain⟨oi,hoi,Ye⟩:=kdE hi;obtain⟨oj,oX,hkj⟩:=kdE hj;rcases aon i j with h|h|h
  ·have:=JU (tt:=tt) (l:=ops.toList) (by rw [gT]; exact hoi) Ye h;omega
  ·exact h
  ·have:=JU (tt:=tt) (l:=ops.toList) (by rw [gT]; exact oX) hkj h;omega
 ·intro j o ho hk m hm;obtain⟨i,oi,U,Z,h3,h4⟩:=wP hm;rw [XL ho] at hk;have h2':ops[i]?=some oi:=by rw [<- gT]; exact Z
  refine⟨i,by rw [XL h2']; exact h3,h4,?_⟩;rw [d! ho];exact sf.tot i j oi o Z (by rw [gT]; exact ho) h3 hk U
 ·intro i o ho hk;rw [XL ho] at hk;obtain⟨dp,Us,v,ob,pre,hdp,hF,g2,g3,g4,g5,g6,g7⟩:=mN i o ho;obtain⟨h0,mm,rest,hs,hF⟩:=hF;simp only [Aq,hk] at hF;obtain⟨_,HA,f1,f2,f3⟩:=hF;rw [hdp] at f1;refine⟨HA,N,?_,f2,?_,?_⟩
  ·rw [SfN ho (by rw [hk]; simp)];simp only [g2,aC];exact f1
  ·simp only [JW,g3,aC];exact f3
  ·intro k CV;obtain⟨Z,mm2,hh⟩:=aiQ k CV;rw [(hpe _ _ _ hh).1];exact (aeM _ _ _ hh).1
 ·intro j o ho hk;rw [XL ho] at hk;obtain⟨dp,Us,v,ob,pre,hdp,hF,g2,g3,g4,g5,g6,g7⟩:=mN j o ho;obtain⟨h0,mm,rest,hs,hF⟩:=hF;simp only [Aq,hk] at hF;obtain⟨_,hn,f1,f2,f3,f4⟩:=hF;rw [hdp] at f4;rw [f1,hs] at g4;have hrl:rest.length=jk tt (ops.toList.take j):=by rw [hs] at g5; simp at g5; omega
  obtain⟨r1,r2⟩:=N_ g4;rw [hrl] at r1 r2;obtain⟨p1,p2⟩:=hpe _ _ _ r1;obtain⟨p3,p4⟩:=hpe _ _ _ r2;refine⟨fF base (ms.getD j 0) mm dp.hY h0,?_,?_,?_,?_,?_⟩
  ·rw [SfN ho (by rw [hk]; simp)];simp only [g2,aC,p3];exact f4
  ·rw [(jl _ _).1,p1]
  ·rw [(jl _ _).2];exact (aeM _ _ _ r1).2
  ·intro id x hx;rcases n6 hx with h|⟨a,a1,a2,a3,a4⟩
   ·left; rw [p1]; exact h
   ·right;exact⟨a,by rw [d! ho]; exact a2,by rw [p2,a3]; rfl,a4,LF a x (g6 _ a1)⟩
  ·intro a ha;rw [p4] at ha;simp only [Nat.testBit_or,Bool.not_or,an,amW] at ha;refine⟨by rw [p2,ha.1]; rfl,?_⟩;rw [d! ho];exact ha.2
 ·intro i o ho hk k hkn U Z;rw [XL ho] at hk;have rq:Aq tt ops.toList ms i o∈items tt ops.toList ms ops.toList 0 0:=amE (iE (by rw [gT]; exact ho))
  obtain⟨v,g1,g2⟩:=Oh (Aq tt ops.toList ms i o,AE (items tt ops.toList ms ops.toList 0 0) (jk tt ops.toList) (Aq tt ops.toList ms i o)) (by
   rw [aK]
   exact⟨_,amL.2 ⟨rq,by simp [Aq,hk,Kind.V?]⟩,rfl⟩)
  have Lz:k∈AE (items tt ops.toList ms ops.toList 0 0) (jk tt ops.toList) (Aq tt ops.toList ms i o):=by
   unfold AE;rw [amL,amN];refine⟨J,aX.2 fun y hy=>?_⟩;obtain⟨j,oj,oX,rfl⟩:=G0 hy;have Y?:ops[j]?=some oj:=by rw [<- gT]; exact oX
   cases hkj:kindOf tt oj.op with
   |pa=>simp [Aq,hkj,Kind.isE]
   |r=>simp [Aq,hkj,Kind.isE]
   |e=>
    simp only [Aq,hkj,Kind.isE,anJ,anL,an,ane,amW,decide_eq_true_eq];constructor
    ·cases aeW:(ms.getD i 0).testBit j with
     |false=>exact .inl rfl
     |true=>exact .inr (U j (by rw [XL Y?]; exact hkj) (by rw [d! ho]; exact aeW))
    ·cases aeW:(ms.getD j 0).testBit i with
     |false=>exact .inl rfl
     |true=>exact .inr (Z j oj Y? (by rw [XL Y?]; exact hkj) (by rw [d! Y?]; exact aeW))
  obtain⟨h0,mm,g3,g4⟩:=g2 k Lz;obtain⟨p1,p2⟩:=hpe _ _ _ g3;refine⟨fF base (ms.getD i 0) mm d.hY h0,?_,?_,?_,?_⟩
  ·have g1':d.vs.reverse[i]?=some v:=g1;rw [SfR ho hk];simp only [g1',aC];exact g4
  ·rw [(jl _ _).1,p1]
  ·rw [(jl _ _).2];exact (aeM _ _ _ g3).2
  ·intro id x hx;rcases n6 hx with h|⟨a,a1,a2,a3,a4⟩
   ·left; rw [p1]; exact h
   ·right;exact⟨a,by rw [d! ho]; exact a2,by rw [p2,a3]; rfl,a4,LF a x a1⟩
 ·intro k a x hk hx hu;obtain⟨h0,mm,hh⟩:=aiQ k hk;obtain⟨p1,p2⟩:=hpe _ _ _ hh;rw [p1];rw [p2] at hu;unfold H4 at hun;have:=aX.1 hun _ (aje a x hx)
  have:=aX.1 this (h0,mm) (by
   have:=amE hh
   simpa using this)
  simp only [ane,Option.isNone_iff_eq_none] at this;simp only [amW] at hu;rcases this with h|h
  ·rw [hu] at h; simp at h
  ·exact h
 ·intro i hk
  cases ho:ops[i]? with
  |none=>
   obtain⟨po,o1,o2⟩:=rf.BL
   have Ru:d.BL.reverse[i]?=none:=by rw [anH,aoq,o1,ank,o2,sY];have:=aoE.1 ho;simpa using this
   simp only [JW,Ru,ana]
  |some o=>
   obtain⟨dp,Us,v,ob,pre,hdp,hF,g2,g3,g4,g5,g6,g7⟩:=mN i o ho;obtain⟨h0,mm,rest,hs,hF⟩:=hF;rw [XL ho] at hk
   cases tc:kindOf tt o.op with
   |pa=>exact absurd tc hk
   |e=> simp only [Aq,tc] at hF;simp only [JW,g3,aC,hF.1]
   |r=> simp only [Aq,tc] at hF;simp only [JW,g3,aC,hF.1]
 ·have:=(hpe 0 _ _ alb).1;refine⟨hb,by rw [this]; exact au _,fun id x h=>?_⟩;rw [this] at h;exact h
 ·intro m hm;have hm':m<jk tt (ops.toList.take ops.size):=by rw [<- G9]; exact hm
  obtain⟨i,oi,U,Z,h3,h4⟩:=wP hm';have h2':ops[i]?=some oi:=by rw [<- gT]; exact Z
  exact⟨i,oi,h2',by show kdf i=_; rw [XL h2']; exact h3,h4⟩
end
section
variable {P:Program}
theorem EW [bG] {tt:TT} (cJ:eB P tt) {call:ek} (hc:im P call) {ops:Array Oper} {E:En} {s s':St} {a:Act} {w:World} {Q:Exit->Act->World->Prop}
 (hd: ∀o∈ops.toList,∀d,o.dst=some d->d<a.tmps.size) (fit:Fit E s a w) (h:(draw tt call ops.toList s).leaf E.ρ=some s') (hq: ∀a' w',mL E s a w s' a' w'->Q .normal a' w') :
 wpAny P .any ops Q ops.size (Array.replicate ops.size false) a { w with drawn:=w.drawn+1 }:=by
 unfold draw EY at h;split at h
 ·simp [T.leaf] at h
 ·rename_i q hq0;split at h
  ·simp [T.leaf] at h
  ·rename_i xY;simp only at h;obtain⟨⟨fI,d⟩,U,Z⟩:=T.fg h;simp only at Z;obtain⟨ms,e1,e2,e3,sf⟩:=I! hq0;rw [e1,] at U;have rf:=R5 cJ hc _ fit.pc U;have fq:=R4 _ fit.pc U;split at Z
   ·simp [T.leaf] at Z
   ·rename_i h0 mm rest ala;obtain⟨jH,h3,h4⟩:=T.fg Z;split at h4
    ·rename_i hun;have:=bC h4;subst this
     have aiT:=Gq cJ hc q.rs fq (by
      intro r hr;rw [e3,aK] at hr;obtain⟨x,hx,rfl⟩:=hr;rw [amL,e1] at hx;obtain⟨j,o,ho,rfl⟩:=G0 hx.1;have h5:(kindOf tt o.op).V?=true:=hx.2;show kindOf tt o.op= .r;revert h5
      cases kindOf tt o.op<;>simp [Kind.V?]) h3
     have jz:=aiT.1;have Oh:=aiT.2;rw [e3,e1,e2] at Oh;obtain⟨p,p1,p2,p3,p4,p5,p6⟩:=O' sf (base:=s.h.next) (H0:=s.h) rfl (Nat.le_add_right _ _) rf Oh hun;have gT: ∀(j:Nat),ops.toList[j]?=ops[j]?:=fun j=>amD;let w1:World:={ w with drawn:=w.drawn+1 };have alN:Fit E s a w1:=⟨⟨fit.rel.fresh,fit.rel.res,fit.rel.live,fit.rel.inj,fit.rel.qC,fit.rel.iX,fit.rel.hid⟩,fit.sr,fit.pc⟩
     have ai5: ∀(i:Nat),(Array.replicate ops.size false)[i]?≠some true:=by
      intro i hh
      grind
     refine p.any (E0:=E) (a0:=a) (w0:=w1) hd ?_ ops.size _ a w1 ad ?_ (p.start rfl rfl rfl alN _ ai5)
     ·intro a' w' inv;obtain⟨ps,s1,s2⟩:=rf.lW;rw [mF] at s2
      have hlen:rest.length=jk tt ops.toList:=by
       have:d.lW.length=jk tt ops.toList+1:=by rw [s1,aZ,s2]; rfl
       grind
      have abY:d.lW.reverse[jk tt ops.toList]?=some (h0,mm):=by
       grind
      obtain⟨q1,q2⟩:=p4 _ _ _ abY
      have hnx:=rf.nxt (by
       intro q hq;simp only [aw,amI,or_false] at hq;subst hq
       exact⟨Nat.le_add_right _ _,rfl⟩) (h0,mm) (by rw [ala]; simp)
      have ht:=p.finish (s0:=s) (s':=⟨d.bE,fF s.h.next ((1 <<<ops.toList.length)-1) mm d.hY h0,jH⟩) (w0:=w1) rfl inv jz ?_ ?_ ?_ ?_ p6
      ·refine hq a' w' ⟨ht.defers,ht.size,?_⟩;obtain⟨E',st,f'⟩:=ht.step;exact⟨E',⟨st.ρ,st.dm,st.θ,st.κ,st.ro,st.rF,st.NW,st.rsm,st.ZT,st.os,st.tape,st.output,st.size,st.keep,st.own,st.hd⟩,f'⟩
      ·intro t x ht;rcases rf.slot t x ht with ⟨j,y,g1,g2,g3⟩|⟨g1,g2⟩
       ·cases oX:ops.toList[j]? with
        |none=>rw [jI,oX] at g1; simp at g1
        |some oj=>
         rw [iE oX] at g1;simp at g1;subst g1;refine .inl ⟨j,oj,by rw [<- gT]; exact oX,g2,?_⟩
         grind
       ·refine .inr ⟨g1,fun j oj oX=>?_⟩;exact g2 _ (amE (iE (by rw [gT]; exact oX)))
      ·intro id x hx;rw [p2,q1,p1];rcases n6 hx with h|⟨b,b1,b2,b3,b4⟩
       ·grind
       ·right
        have fD:b<ops.size:=by
         have:=Te b2
         grind
        refine⟨b,fD,by rw [q2,b3]; rfl,b4,?_⟩;rcases rf.kE b x b1 with h|⟨j,y,g1,g2,g3⟩
        ·grind
        ·cases oX:ops.toList[j]? with
         |none=>rw [jI,oX] at g1; simp at g1
         |some oj=>
          rw [iE oX] at g1;simp at g1;subst g1;have:j=b:=g2
          grind
      ·rw [p2,q1];exact (jl _ _).1.symm
      ·show (fF s.h.next ((1 <<<ops.toList.length)-1) mm d.hY h0).res=none;rw [(jl _ _).2]
       grind
     ·have: ∀(l:Nat->Bool) (n:Nat),left l n<=n:=by
       intro l n
       induction n with
       |zero=>exact au _
       |succ n ih=>simp only [left]; split<;>omega
      grind
    ·simp [T.leaf] at h4
theorem aay [bG] {tt:TT} (cJ:eB P tt) (hm:P.follows .mixedOrders=true) {call:ek} (hc:im P call):aaX P (draw tt call):=by intro id ops E s s' a w Q hd fit h hq;exact wp_region_any hm (EW cJ hc hd fit h hq)
end
end Go.As
end
section
namespace Go.As
noncomputable section
open Go.RowKit
section
variable {P:Program}
def En.zero (ρ:Nat->Int) (ro:Nat->Prop):En:={ ρ:=ρ,θ:=fun _=>(0,0),κ:=fun _=>0,dm:=fun _=>False,ro:=ro }
def Hp.zero:Hp:=⟨.nil,0,none⟩
theorem Dd [bG] (ρ:Nat->Int) (ro:Nat->Prop) (w:World) (h: ∀b,ro b->b<w.heap.size) (hg:bG.ok ρ ro w.heap):bN (En.zero ρ ro) Hp.zero w:=
 ⟨fun _ _ h=>h,by simp [Hp.zero],fun id o h=>by simp [Hp.zero,Hp.get,Tr.get] at h,fun id _ o _ h=>by simp [Hp.zero,Hp.get,Tr.get] at h,h,hg,fun _ _ h=>by simp [En.zero] at h⟩
theorem eS.below {E E':En} {H':Hp} {w w':World} (s:eS E Hp.zero w E' H' w'):Below w.heap.size w w':=
 ⟨s.os,s.tape,s.output,s.size,fun k hk=>s.keep k hk fun id o h=>by simp [Hp.zero,Hp.get,Tr.get] at h⟩
theorem Ah [bG] {g:FuncId} {f:List W->St->T (W×St)} (hf:ik P g f) {fn:Func} (ua:P.funcs[g]?=some fn) (kc:(fn.name == "runtime.NumGoroutine")=false) {c:Code} (LG:fn.body=some c)
 {ρ:Nat->Int} {ro:Nat->Prop} {w:World} (jy: ∀b,ro b->b<w.heap.size) (hg:bG.ok ρ ro w.heap) {args:List W} {vals:List Value} (hv:cw (En.zero ρ ro) w.heap args vals) {v:W} {s':St}
 (h:(f args ⟨.nil,Hp.zero,[]⟩).leaf ρ=some (v,s')):Calls P g vals.toArray w fun e w'=> ∃u E',e= .returned u/\VR E' w'.heap v u/\E'.ρ=ρ/\Below w.heap.size w w':=by
 obtain⟨_,_,h3⟩:=hf args ⟨.nil,Hp.zero,[]⟩ (En.zero ρ ro) w vals v s' (Dd ρ ro w jy hg) hv (by simp [bT]) h
 have jx:(callFunc g vals.toArray).run P w= .ok (.enter g vals.toArray) w:=by unfold callFunc;simp [ua,LG,by simpa using kc]
 unfold jE lI at h3;rw [jx] at h3;exact Calls.mono h3 fun e w' ⟨u,he,E',st,_,hv⟩=> ⟨u,E',he,hv,st.ρ,st.below⟩
end
end
end Go.As
end
section
namespace Go.As
noncomputable section
open Go.RowKit
mutual
def hU:W->Bool
 | .bool (.lit _)=>true
 | .int _ (.lit _)=>true
 | .str _=>true
 | .sV=>true
 | .dv=>true
 | .ri=>true
 | .u4=>true
 | .wY=>true
 | .iface _ v=>hU v
 | .agg cs=>nZ cs
 | .tuple cs=>nZ cs
 | .func _ fs cs=>nZ fs&&nZ cs
 |_=>false
def nZ:List W->Bool
 |[]=>true
 |x::xs=>hU x&&nZ xs
end
section
variable {P:Program}
mutual
theorem wR {E E':En} {h h':Array Obj}: ∀(x:W) (u:Value),hU x=true->VR E h x u->VR E' h' x u
 | .bool b,u,hc,hv=>by cases b<;>simp [hU] at hc; simpa [VR,SB.den] using hv
 | .int k e,u,hc,hv=>by cases e<;>simp [hU] at hc; simpa [VR,V.den] using hv
 | .str s,u,_,hv=>by simp only [VR] at *; exact hv
 | .sV,u,_,hv=>by simp only [VR] at *; exact hv
 | .dv,u,_,hv=>by simp only [VR] at *; exact hv
 | .ri,u,_,hv=>by simp only [VR] at *; exact hv
 | .u4,u,_,hv=>by simp only [VR] at *; exact hv
 | .wY,u,_,hv=>by simp only [VR] at *; exact hv
 | .iface t x,u,hc,hv=>by simp only [VR,hU] at *;obtain⟨y,U,Z⟩:=hv;exact⟨y,U,wR x y hc Z⟩
 | .agg cs,u,hc,hv=>by simp only [VR,hU] at *;obtain⟨us,U,Z⟩:=hv;exact⟨us,U,nq cs us hc Z⟩
 | .tuple cs,u,hc,hv=>by simp only [VR,hU] at *;obtain⟨us,U,Z⟩:=hv;exact⟨us,U,nq cs us hc Z⟩
 | .func fn fs cs,u,hc,hv=>by simp only [VR,hU,an] at *;obtain⟨us,ws,U,Z,h3⟩:=hv;exact⟨us,ws,U,nq fs us hc.1 Z,nq cs ws hc.2 h3⟩
 | .ptr _ _,_,hc,_=>by simp [hU] at hc
 | .mJ _,_,hc,_=>by simp [hU] at hc
 | .slice _ _ _ _,_,hc,_=>by simp [hU] at hc
 | .ro _ _ _,_,hc,_=>by simp [hU] at hc
 | .map _,_,hc,_=>by simp [hU] at hc
 | .Kc _,_,hc,_=>by simp [hU] at hc
 | .wy _ _,_,hc,_=>by simp [hU] at hc
theorem nq {E E':En} {h h':Array Obj}: ∀(xs:List W) (us:List Value),nZ xs=true->cw E h xs us->cw E' h' xs us
 |[],us,_,hv=>by simp only [cw] at *; exact hv
 |x::xs,us,hc,hv=>by simp only [cw,nZ,an] at *;obtain⟨u,vs,U,Z,h3⟩:=hv;exact⟨u,vs,U,wR x u hc.1 Z,nq xs vs hc.2 h3⟩
end
theorem nt [bG] {E:En} {H:Hp} {w w':World} (r:bN E H w) (b:Below w.heap.size w w'):eS E H w E H w'/\bN E H w':=by have hk:fw E w.heap E w'.heap:=⟨rfl,fun _ h=>h,fun _ _=>rfl,fun _ _=>rfl,fun _ h=>h,fun x hx=>b.block x (r.qC x hx)⟩;refine⟨⟨rfl,fun _ h=>h,fun _ _=>rfl,fun _ _=>rfl,fun _ h=>h,fun _ h=> .inl h,au _,.inr rfl,fun _ h=> .inl h,b.os,b.tape,b.output,b.size,fun x hx _=>b.block x hx,fun id o h _=> ⟨id,o,h,rfl⟩,rfl⟩,r.fresh,r.res,fun id o h=>?_,r.inj,fun x hx=>amZ (r.qC x hx) b.size,bG.keep r.iX hk.ro hk.BE,r.T5 rfl b.size (fun _ h=> .inl h) fun id o h _=> ⟨id,o,h,rfl⟩⟩;obtain⟨U,Z,h3⟩:=r.live id o h;exact⟨U,Z.keep hk U (b.block _ (fm r h)) (r.T8 rfl (fun x hx _=>b.block x hx) _),h3⟩
def Cn (args:List W) (v:W):List W->St->T (W×St):=fun amB s=>if iA amB args then .ret (v,s) else .fail
def Er (args:List W) (v:W) (f:List W->St->T (W×St)):Bool:=
 nZ args&&hU v&&(match f args ⟨.nil,Hp.zero,[]⟩ with | .ret (u,_)=>eL u v|_=>false)
theorem zf [bG] {g:FuncId} {f:List W->St->T (W×St)} (hf:ik P g f) {fn:Func} (ua:P.funcs[g]?=some fn) (kc:(fn.name == "runtime.NumGoroutine")=false) {c:Code} (hb:fn.body=some c)
 {args:List W} {v:W} (h:Er args v f=true):ik P g (Cn args v):=by
 intro amB s E w vals u s' r hv hp Y;unfold Cn at Y;split at Y
 ·rename_i hs;have:=bC Y;simp only [ak] at this;obtain⟨rfl,rfl⟩:=this;rw [fK _ _ hs] at hv;unfold Er at h;simp only [an] at h;obtain⟨⟨U,Z⟩,h3⟩:=h;split at h3
  ·rename_i u' s1 jx;have hu:=jF _ _ h3;subst hu;have hc:=Ah hf ua kc hb (ρ:=E.ρ) (ro:=E.ro) (w:=w) r.qC r.iX (nq args vals U hv) (v:=u') (s':=s1) (by rw [jx]; rfl);refine⟨rfl,hp,?_⟩
   have jx:(callFunc g vals.toArray).run P w= .ok (.enter g vals.toArray) w:=by unfold callFunc;simp [ua,hb,by simpa using kc]
   unfold jE lI;rw [jx];exact Calls.mono hc fun e w' ⟨x,E',he,hx,_,ni⟩=> ⟨x,he,E,(nt r ni).1,(nt r ni).2,wR u' x Z hx⟩
  grind
 ·simp [T.leaf] at Y
def orElse (f g:List W->St->T (W×St)):List W->St->T (W×St):=fun amB s=>match f amB s with | .fail=>g amB s|x=>x
theorem ng [bG] {id:FuncId} {f g:List W->St->T (W×St)} (hf:ik P id f) (hg:ik P id g):ik P id (orElse f g):=by
 intro amB s E w vals u s' r hv hp Y;unfold orElse at Y;split at Y
 ·exact hg amB s E w vals u s' r hv hp Y
 ·exact hf amB s E w vals u s' r hv hp Y
end
end
end Go.As
end
section
namespace Go.As
noncomputable section
open Go.RowKit
section
variable {P:Program}
theorem wE {g:FuncId} {fn:Func} {e:Array Value->Sem Value} (hf:P.funcs[g]?=some fn) (kc:(fn.name == "runtime.NumGoroutine")=false) (hb:fn.body.isNone=true) (hn:Extern.findNext fn=none) (he:Extern.find fn=some e)
 {args:Array Value} {w:World} {u:Value} (hr:(e args).run P w= .ok u w):(callFunc g args).run P w= .ok (.value u) w:=by
 have LG:fn.body=none:=by simpa using hb
 unfold callFunc;simp [hf,LG,by simpa using kc,hn,he,hr]
def Fe (c:Nat):List Nat->Nat
 |[]=>0
 |x::xs=>if x.beq c then Fe c xs+1 else Fe c xs
def A5:List W->St->T (W×St):=fun args s=>match args with
 |[.str b,.int .u8 (.lit (.ofNat c))]=>if c<256 then .ret (.int .i64 (.lit (Int.ofNat (Fe c b))),s) else .fail
 |_=> .fail
theorem H8 {a b:Nat} (ha:a<256) (hb:b<256):(UInt8.ofNat a == UInt8.ofNat b)=a.beq b:=by
 rw [amP];simp only [beq_iff_eq,Nat.beq_eq];constructor
 ·intro h;have:=congrArg UInt8.toNat h;simp only [am6] at this;omega
 grind
theorem HE {c:Nat} (hc:c<256): ∀{s:List Nat},(∀b∈s,b<256)->Lib.countByte (s.map UInt8.ofNat) (UInt8.ofNat c)=Fe c s
 |[],_=>rfl
 |x::xs,h=>by
  have ih:=HE hc (s:=xs) fun b hb=>h b (by simp [hb]);unfold Lib.countByte at *;rw [ax,List.count_cons,ih,H8 (h x ad) hc];simp only [Fe]
  grind
theorem Z5 [bG] {g:FuncId} {fn:Func} (hf:P.funcs[g]?=some fn) (kc:(fn.name == "runtime.NumGoroutine")=false) (hb:fn.body.isNone=true) (hn:Extern.findNext fn=none) (he:Extern.find fn=some Extern.BytealgCount.count):ik P g A5:=by
 intro amB s E w vals u s' r hv hp Y;unfold A5 at Y;split at Y
 ·rename_i b c;split at Y
  ·rename_i hc;have:=bC Y;simp only [ak] at this;obtain⟨rfl,rfl⟩:=this;simp only [cw,VR,V.den] at hv;obtain⟨u1,r1,rfl,⟨rfl,MW⟩,u2,r2,rfl,rfl,rfl⟩:=hv;refine⟨rfl,hp,?_⟩;unfold jE lI;rw [wE hf kc hb hn he (Lib.run_countString (df b) (Int.ofNat c) w)];refine⟨E,eS.refl _ _ _,r,?_⟩;simp only [VR,V.den];have:(Int.ofNat c).toNat.toUInt8=UInt8.ofNat c:=rfl;rw [this];have Z:(df b).data.toList=b.map UInt8.ofNat:=by simp [df]
   rw [Z,HE hc MW];rfl
  ·simp [T.leaf] at Y
 ·simp [T.leaf] at Y
def Eb (c:Nat):List Nat->Int
 |[]=> -1
 |x::xs=>if x.beq c then 0 else match Eb c xs with
  | .ofNat n=> .ofNat (n+1)
  | .negSucc n=> .negSucc n
def A4:List W->St->T (W×St):=fun args s=>match args with
 |[.str b,.int .u8 (.lit (.ofNat c))]=>if c<256 then .ret (.int .i64 (.lit (Eb c b)),s) else .fail
 |_=> .fail
theorem G3 {c:Nat} (hc:c<256): ∀{s:List Nat},(∀b∈s,b<256)->Lib.indexByte (s.map UInt8.ofNat) (UInt8.ofNat c)=Eb c s
 |[],_=>rfl
 |x::xs,h=>by
  have ih:=G3 hc (s:=xs) fun b hb=>h b (by simp [hb]);have On:=Lib.indexByte_ge (xs.map UInt8.ofNat) (UInt8.ofNat c);simp only [ax,Lib.indexByte,Eb];rw [H8 (h x ad) hc];cases x.beq c
  ·simp only [aQ,if_false];rw [ih] at On ⊢
   cases hi:Eb c xs with
   |ofNat n=>rw [hi] at On; simp
   |negSucc n=>
    grind
  ·rfl
theorem XU [bG] {g:FuncId} {fn:Func} (hf:P.funcs[g]?=some fn) (kc:(fn.name == "runtime.NumGoroutine")=false) (hb:fn.body.isNone=true) (hn:Extern.findNext fn=none) (he:Extern.find fn=some Extern.BytealgIndexByte.indexByte):ik P g A4:=by
 intro amB s E w vals u s' r hv hp Y;unfold A4 at Y;split at Y
 ·rename_i b c;split at Y
  ·rename_i hc;have:=bC Y;simp only [ak] at this;obtain⟨rfl,rfl⟩:=this;simp only [cw,VR,V.den] at hv;obtain⟨u1,r1,rfl,⟨rfl,MW⟩,u2,r2,rfl,rfl,rfl⟩:=hv;refine⟨rfl,hp,?_⟩;unfold jE lI;rw [wE hf kc hb hn he (Lib.run_indexByteString (df b) (Int.ofNat c) w)];refine⟨E,eS.refl _ _ _,r,?_⟩;simp only [VR,V.den];have:(Int.ofNat c).toNat.toUInt8=UInt8.ofNat c:=rfl;rw [this];have Z:(df b).data.toList=b.map UInt8.ofNat:=by simp [df]
   rw [Z,G3 hc MW]
  ·simp [T.leaf] at Y
 ·simp [T.leaf] at Y
def KM:List Nat->List Nat->Bool
 |[],_=>true
 |_::_,[]=>false
 |a::x,b::y=>if a.beq b then KM x y else false
def yw (c:List Nat):List Nat->Bool
 |[]=>KM c []
 |b::bs=>if KM c (b::bs) then true else yw c bs
def tb:List W->St->T (W×St):=fun args s=>match args with
 |[.str b,.str c]=>if b.length<4294967281 then .ret (.bool (.lit (yw c b)),s) else .fail
 |_=> .fail
theorem P4: ∀{c s:List Nat},(∀b∈c,b<256)->(∀b∈s,b<256)->(c.map UInt8.ofNat).isPrefixOf (s.map UInt8.ofNat)=KM c s
 |[],_,_,_=>by simp [KM]
 |_::_,[],_,_=>by simp [KM]
 |a::x,b::y,hc,hs=>by
  have ih:=P4 (c:=x) (s:=y) (fun z hz=>hc z (by simp [hz])) (fun z hz=>hs z (by simp [hz]));simp only [ax,List.isPrefixOf,KM];rw [H8 (hc a ad) (hs b ad),ih]
  grind
theorem index_ge (sub:List UInt8): ∀l:List UInt8,-1<=Lib.index l sub
 |[]=>by unfold Lib.index; split<;>omega
 |b::l=>by
  have ih:=index_ge sub l;unfold Lib.index
  grind
theorem Df {c:List Nat} (hc: ∀b∈c,b<256): ∀{s:List Nat},(∀b∈s,b<256)->Lib.contains (s.map UInt8.ofNat) (c.map UInt8.ofNat)=yw c s
 |[],_=>by cases c<;>simp [Lib.contains,Lib.index,yw,KM]
 |b::bs,h=>by
  have ih:=Df hc (s:=bs) fun z hz=>h z (by simp [hz]);have hp:=P4 hc h;simp only [ax] at hp;unfold Lib.contains at *;simp only [ax,Lib.index,yw]
  grind
theorem Mp [bG] {g:FuncId} (hg: ∀(ρ:Nat->Int) (ro:Nat->Prop) (w:World),bG.ok ρ ro w.heap->∀s sub:ByteArray,s.size<4294967281->Calls P g #[.string s,.string sub] w fun e w'=>e= .returned (.bool (Lib.contains s.data.toList sub.data.toList))/\w'=w)
 (jx: ∀(args:Array Value) (w:World),(callFunc g args).run P w= .ok (.enter g args) w):ik P g tb:=by
 intro amB s E w vals u s' r hv hp Y;unfold tb at Y;split at Y
 ·rename_i b c;split at Y
  ·rename_i hlen;have:=bC Y;simp only [ak] at this;obtain⟨rfl,rfl⟩:=this;simp only [cw,VR] at hv;obtain⟨u1,r1,rfl,⟨rfl,MW⟩,u2,r2,rfl,⟨rfl,UZ⟩,rfl⟩:=hv;refine⟨rfl,hp,?_⟩;unfold jE lI;rw [jx];refine Calls.mono (hg E.ρ E.ro w r.iX (df b) (df c) (by simpa [df,ByteArray.size] using hlen)) fun e w' ⟨he,hw⟩=>?_;subst hw;refine⟨_,he,E,eS.refl _ _ _,r,?_⟩;simp only [VR,SB.den];have Z: ∀l:List Nat,(df l).data.toList=l.map UInt8.ofNat:=by intro l; simp [df]
   rw [Z,Z,Df UZ MW]
  ·simp [T.leaf] at Y
 ·simp [T.leaf] at Y
end
end
end Go.As
end
section
namespace Go.As
noncomputable section
structure Cl where
 m:Nat
 k:Kind
 st:Nat
 rd:List Nat
structure ML where
 is:List Cl
 nE:Nat
 rs:List (Nat×List Nat)
def N7:Kind->Kind->Bool
 | .pa,.pa=>true
 | .e,.e=>true
 | .r,.r=>true
 |_,_=>false
def xL:List Nat->List Nat->Bool
 |[],[]=>true
 |a::x,b::y=>Nat.beq a b&&xL x y
 |_,_=>false
def AM:List Item->List Cl->Bool
 |[],[]=>true
 |x::xs,d::ds=>Nat.beq x.m d.m&&N7 x.k d.k&&Nat.beq x.st d.st&&xL x.rd d.rd&&AM xs ds
 |_,_=>false
def AK:List (Item×List Nat)->List (Nat×List Nat)->Bool
 |[],[]=>true
 |(x,ks)::xs,(i,js)::ys=>Nat.beq x.i i&&xL ks js&&AK xs ys
 |_,_=>false
def Ax:Nat->List Oper->List Cl->List Item
 |i,o::os,d::ds=> ⟨i,o,d.m,d.k,d.st,d.rd⟩ ::Ax (i+1) os ds
 |_,_,_=>[]
def Tn (is:List Item):List (Nat×List Nat)->List (Item×List Nat)
 |[]=>[]
 |(i,ks)::r=>match eX is i with
  |some x=>(x,ks)::Tn is r
  |none=>Tn is r
def statOf (all:List Oper) (H:ML):Stat:=⟨Ax 0 all H.is,H.nE,Tn (Ax 0 all H.is) H.rs⟩
def vh (tt:TT) (all:List Oper) (H:ML):Bool:=match stat tt all with
 |none=>false
 |some q=>AM q.is H.is&&Nat.beq q.nE H.nE&&AK q.rs H.rs
theorem TX {a b:Kind} (h:N7 a b=true):a=b:=by cases a<;>cases b<;>simp [N7] at h<;>rfl
theorem AS: ∀{a b:List Nat},xL a b=true->a=b
 |[],[],_=>rfl
 |[],_::_,h=>by simp [xL] at h
 |_::_,[],h=>by simp [xL] at h
 |a::x,b::y,h=>by simp only [xL,an] at h;rw [aq h.1,AS h.2]
theorem GY {tt:TT} {all:List Oper} {ms:List Nat}: ∀{os:List Oper} {i n:Nat} {ds:List Cl},AM (items tt all ms os i n) ds=true->items tt all ms os i n=Ax i os ds
 |[],i,n,ds,h=>by cases ds<;>simp [items,AM,Ax] at *
 |o::os,i,n,ds,h=>by
  cases ds with
  |nil=>simp [items,AM] at h
  |cons d ds=> simp only [items,AM,an] at h;obtain⟨⟨⟨⟨U,Z⟩,h3⟩,h4⟩,h5⟩:=h;have ih:=GY h5;simp only [items,Ax];rw [ih,aq U,TX Z,aq h3,AS h4]
theorem P1 {is:List Item}: ∀{xs:List (Item×List Nat)} {ys:List (Nat×List Nat)},(∀p∈xs,eX is p.1.i=some p.1)->AK xs ys=true->Tn is ys=xs
 |[],[],_,_=>rfl
 |[],_::_,_,h=>by simp [AK] at h
 |_::_,[],_,h=>by simp [AK] at h
 |(x,ks)::xs,(i,js)::ys,hm,h=>by simp only [AK,an] at h;have U:=hm (x,ks) ad;simp only [Tn];rw [<- aq h.1.1,U,<- AS h.1.2,P1 (fun p hp=>hm p (by simp [hp])) h.2]
theorem Kj: ∀{i:Nat} {os:List Oper} {ds:List Cl} {x:Item},x∈Ax i os ds->i<=x.i/\eX (Ax i os ds) (x.i-i)=some x
 |_,[],_,_,h=>by simp [Ax] at h
 |_,_::_,[],_,h=>by simp [Ax] at h
 |i,o::os,d::ds,x,h=>by
  simp only [Ax,aw] at h ⊢;rcases h with rfl|h
  ·simp [eX]
  ·obtain⟨U,Z⟩:=Kj h;refine⟨J,?_⟩;have:x.i-i=(x.i-(i+1))+1:=J
   rw [this];exact Z
theorem A7 {tt:TT} {all:List Oper} {H:ML} (h:vh tt all H=true):stat tt all=some (statOf all H):=by
 unfold vh at h;split at h
 ·grind
 ·rename_i q hq;rw [hq];simp only [an] at h;obtain⟨⟨U,Z⟩,h3⟩:=h;have Oi:=hq;unfold stat at Oi;simp only at Oi;split at Oi
  ·simp only [ag] at Oi;subst Oi;have e1:=GY U;simp only at Z h3
   have e3:Tn (Ax 0 all H.is) H.rs=_:=P1 (is:=Ax 0 all H.is) (by
    intro p hp;simp only [aK,amL] at hp;obtain⟨x,⟨hx,_⟩,rfl⟩:=hp;rw [e1] at hx;have:=(Kj hx).2
    simpa using this) h3
   unfold statOf;rw [e3,<- aq Z,<- e1]
  grind
end
end Go.As
end
section
namespace Go.As
noncomputable section
def xc (pos:Nat->Nat) (o:Oper):Oper:={ o with after:=o.after.map (fun e=>{ e with on:=pos e.on }),guard:=match o.guard with |none=>none|some (j,b)=>some (pos j,b) }
def posOf:List Nat->Nat->Nat
 |[],_=>0
 |x::xs,i=>match Nat.beq x i with
  |true=>0
  |false=>posOf xs i+1
def BJ (pos:Nat->Nat) (all:List Oper):List Nat->List Oper
 |[]=>[]
 |i::is=>match eX all i with
  |some o=>xc pos o::BJ pos all is
  |none=>[]
def fX (ord:List Nat) (all:List Oper):List Oper:=BJ (posOf ord) all ord
def Iy (ord:List Nat) (n:Nat):Bool:=
 Nat.beq ord.length n&&(List.range n).all (fun i=>match eX ord (posOf ord i) with |some j=>Nat.beq i j|none=>false)&&
 (List.range n).all (fun j=>match eX ord j with |some i=>Nat.blt i n&&Nat.beq (posOf ord i) j|none=>false)
theorem KN: ∀(ord:List Nat) (i:Nat),posOf ord i<=ord.length
 |[],_=>au _
 |x::xs,i=>by
  simp only [posOf,aL];split
  ·omega
  ·have:=KN xs i; omega
theorem Gt: ∀(ord:List Nat) (i:Nat),posOf ord i<ord.length->ord[posOf ord i]?=some i
 |[],_,h=>by simp [posOf] at h
 |x::xs,i,h=>by
  simp only [posOf,aL] at h ⊢;split
  ·rename_i he;simp_all
  ·rename_i he;rw [he] at h;simp only at h;simpa using Gt xs i J
structure Perm (n:Nat) (ord:List Nat):Prop where
 len:ord.length=n
 at': ∀i,i<n->ord[posOf ord i]?=some i
 back: ∀j,j<n->∃i,ord[j]?=some i/\i<n/\posOf ord i=j
theorem TD {ord:List Nat} {n:Nat} (h:Iy ord n=true):Perm n ord:=by
 unfold Iy at h;simp only [an,aX,amN] at h;obtain⟨⟨U,Z⟩,h3⟩:=h;refine⟨aq U,fun i hi=>?_,fun j hj=>?_⟩
 ·have:=Z i hi;split at this
  all_goals simp_all [dg]
 simp_all [dg]
theorem Perm.lt {n:Nat} {ord:List Nat} (p:Perm n ord) {i:Nat} (hi:i<n):posOf ord i<n:=by
 have:=p.at' i hi;rw [<- p.len]
 grind
theorem Perm.ge {n:Nat} {ord:List Nat} (p:Perm n ord) {i:Nat} (hi: ¬i<n):posOf ord i=n:=by
 have U:=KN ord i;rw [p.len] at U;rcases aT (posOf ord i) n with h|h
 ·have Z:=Gt ord i (by rw [p.len]; exact h);obtain⟨k,h3,h4,_⟩:=p.back _ h
  grind
 ·omega
theorem Perm.inj {n:Nat} {ord:List Nat} (p:Perm n ord) {i j:Nat} (hi:i<n) (hj:j<n) (h:posOf ord i=posOf ord j):i=j:=by
 have U:=p.at' i hi;have Z:=p.at' j hj
 grind
theorem Gw {pos:Nat->Nat} {all:List Oper}: ∀{is:List Nat},(∀i∈is,i<all.length)->∀j:Nat,(BJ pos all is)[j]?=(is[j]?).bind fun i=>(all[i]?).map (xc pos)
 |[],_,j=>by simp [BJ]
 |i::is,h,j=>by
  have hi:=h i ad;have ih:=Gw (pos:=pos) (is:=is) fun k hk=>h k (by simp [hk])
  grind [BJ,dg]
section
variable {P:Program}
theorem nK {ord:List Nat} {ops:Array Oper} (p:Perm ops.size ord) {i:Nat} (hi:i<ops.size):(fX ord ops.toList)[posOf ord i]?=(ops[i]?).map (xc (posOf ord)):=by
 unfold fX
 rw [Gw (by
  intro k hk;obtain⟨j,hj,rfl⟩:=am2 hk;obtain⟨i',U,Z,_⟩:=p.back j (by rw [<- p.len]; exact hj);rw [aM hj] at U;simp only [ag] at U;rw [U]
  simpa using Z),p.at' i hi]
 simp
theorem uW {ord:List Nat} {ops:Array Oper} (p:Perm ops.size ord):(fX ord ops.toList).length=ops.size:=by
 have h0: ∀j,j<ops.size->(fX ord ops.toList)[j]?.isSome=true:=by
  intro j hj;obtain⟨i,_,Z,h3⟩:=p.back j hj
  grind [nK]
 have hle:(fX ord ops.toList).length<=ops.size:=by
  have: ∀(is:List Nat),(BJ (posOf ord) ops.toList is).length<=is.length:=by
   intro is
   induction is with
   |nil=>simp [BJ]
   |cons i is ih=>simp only [BJ]; split<;>simp; omega
  have:=this ord;rw [p.len] at this;exact this
 rcases aT (fX ord ops.toList).length ops.size with h|h
 all_goals grind
theorem W8 (pos:Nat->Nat) (o:Oper) (a:Act) (w:World) (K:Act->World->Prop) (Q:Exit->Act->World->Prop):(xc pos o).wp P a w K Q=o.wp P a w K Q:=rfl
theorem NL (pos:Nat->Nat) (o:Oper) (a:Act) (w:World):(xc pos o).asks P a w=o.asks P a w:=rfl
theorem H3 {ord:List Nat} {ops:Array Oper} (p:Perm ops.size ord) (tmps:Array Value) (j:Nat):yielded (fX ord ops.toList).toArray tmps (posOf ord j)=yielded ops tmps j:=by
 unfold yielded
 have:((fX ord ops.toList).toArray[posOf ord j]?).bind (·.dst)=(ops[j]?).bind (·.dst):=by
  rw [aos];rcases aT j ops.size with h|h
  ·rw [nK p h];cases ops[j]?<;>rfl
  ·rw [p.ge J,anM (by rw [uW p]; exact au _),aot h]
 grind
theorem Kr {ord:List Nat} {ops:Array Oper} (p:Perm ops.size ord) (tmps:Array Value) (o:Oper) :
 Region.wanted (xc (posOf ord) o) (yielded (fX ord ops.toList).toArray tmps)=Region.wanted o (yielded ops tmps):=by
 unfold Region.wanted xc
 cases hg:o.guard with
 |none=>rfl
 |some g=> obtain⟨j,b⟩:=g;simp only;rw [H3 p]
theorem jG {md:Region.Mode} {ops:Array Oper} {listed:Array Bool} {i:Nat}:i∈Region.ready md ops listed↔∃o,ops[i]?=some o/\listed.getD i true=false/\∀e∈o.after.toList,Region.binds md e=true->listed.getD e.on false=true:=by
 unfold Region.ready;simp only [amL,amN,an,amW];constructor
 ·rintro⟨U,Z,h3⟩;have e:=an3 U;refine⟨_,e,Z,?_⟩;rw [e] at h3;simp only [bq,aC,Array.all_eq_true_iff_forall_mem] at h3;intro x hx hb
  grind
 grind
theorem xG {md:Region.Mode} {ord:List Nat} {ops:Array Oper} (p:Perm ops.size ord) {listed iD:Array Bool} (hz:listed.size=ops.size) (I0:iD.size=ops.size) (Y: ∀i,i<ops.size->iD[posOf ord i]?=listed[i]?) {i:Nat} (hi:i<ops.size) :
 posOf ord i∈Region.ready md (fX ord ops.toList).toArray iD↔i∈Region.ready md ops listed:=by
 have hg: ∀(k:Nat) (d:Bool),iD.getD (posOf ord k) d=listed.getD k d:=by
  intro k d;simp only [anc];rcases aT k ops.size with h|h
  ·grind
  ·rw [p.ge J,aot J,aot J]
 rw [jG,jG,aos,nK p hi,hg];constructor
 ·rintro⟨o,U,Z,h3⟩;rw [aO] at U;obtain⟨o0,h0,rfl⟩:=U;refine⟨o0,h0,Z,fun e he hb=>?_⟩
  have:=h3 { e with on:=posOf ord e.on } (by
   simp only [xc,aoh,aK]
   exact⟨e,he,rfl⟩) hb
  simp_all
 ·rintro⟨o,U,Z,h3⟩;refine⟨xc (posOf ord) o,by rw [U]; rfl,Z,fun e he hb=>?_⟩;simp only [xc,aoh,aK] at he;obtain⟨e0,he0,rfl⟩:=he;show iD.getD (posOf ord e0.on) false=true;rw [hg];exact h3 e0 he0 hb
theorem M9 {md:Region.Mode} {ord:List Nat} {ops:Array Oper} (p:Perm ops.size ord) {Q:Exit->Act->World->Prop}: ∀(fuel:Nat) (listed iD:Array Bool) (a:Act) (w:World),listed.size=ops.size->iD.size=ops.size->
 (∀i,i<ops.size->iD[posOf ord i]?=listed[i]?)->wpAny P md (fX ord ops.toList).toArray Q fuel iD a w->wpAny P md ops Q fuel listed a w:=by
 have ain: ∀(listed iD:Array Bool),listed.size=ops.size->iD.size=ops.size->(∀i,i<ops.size->iD[posOf ord i]?=listed[i]?)->
  (Region.ready md (fX ord ops.toList).toArray iD= []↔Region.ready md ops listed= []):=by
  intro listed iD hz I0 Y;constructor
  ·intro h;rw [an1] at h ⊢;intro i hm
   have hi:i<ops.size:=by
    grind [jG]
   exact h _ ((xG p hz I0 Y hi).2 hm)
  ·intro h;rw [an1] at h ⊢;intro j hm
   have hj:j<ops.size:=by
    grind [jG]
   obtain⟨i,_,Z,h3⟩:=p.back j hj;subst h3;exact h _ ((xG p hz I0 Y Z).1 hm)
 intro fuel
 induction fuel with
 |zero=> intro listed iD a w hz I0 Y h;exact⟨(ain _ _ hz I0 Y).1 h.1,h.2⟩
 |succ fuel ih=>
  intro listed iD a w hz I0 Y h;refine⟨fun h0=>h.1 ((ain _ _ hz I0 Y).2 h0),fun i hm=>?_⟩
  have hi:i<ops.size:=by
   grind [jG]
  have hh:=h.2 _ ((xG p hz I0 Y hi).2 hm)
  have BT: ∀a w,wpAny P md (fX ord ops.toList).toArray Q fuel (iD.setIfInBounds (posOf ord i) true) a w->wpAny P md ops Q fuel (listed.setIfInBounds i true) a w:=by
   intro a w hw;refine ih _ _ a w (by simp [hz]) (by simp [I0]) (fun k hk=>?_) hw;rw [anN,anN];by_cases hik:i=k
   ·grind
   ·rw [af hik,af (fun h=>hik (p.inj hi hk h)),Y k hk]
  have Z:=wpOp_mono BT hh;unfold wpOp at Z ⊢;rw [aos,nK p hi] at Z
  cases ho:ops[i]? with
  |none=>rw [ho] at Z; exact Z
  |some o=> rw [ho] at Z;simp only [bq] at Z ⊢;rw [Kr p,W8,NL] at Z;exact Z
structure p? where
 ord:List Nat
 h:ML
def ZS (tt:TT) (H:Nat->Nat->Option p?) (call:ek) (g id:Nat) (all:List Oper) (s:St):T St:=match H g id with
 |some p=>match p.ord with
  |[]=>EY tt call all (statOf all p.h) s
  |o::os=>match fX (o::os) all with
   |i_=>EY tt call i_ (statOf i_ p.h) s
 |none=> .fail
def afJ (tt:TT) (H:Nat->Nat->Option p?) (g id:Nat) (all:List Oper):Bool:=match H g id with
 |some p=>match p.ord with
  |[]=>vh tt all p.h
  |o::os=>Iy (o::os) all.length&&vh tt (fX (o::os) all) p.h
 |none=>true
theorem ZR [bG] {tt:TT} (cJ:eB P tt) (hm:P.follows .mixedOrders=true) {H:Nat->Nat->Option p?} {call:ek} (hc:im P call) (g:Nat):vS P (afJ tt H g) (ZS tt H call g):=by
 intro id ops hk E s s' a w Q hd fit h hq;unfold afJ at hk;unfold ZS at h;split at hk
 ·rename_i p hp;rw [hp] at h;simp only at h;split at hk
  ·rename_i he;rw [he] at h;have:=A7 hk;refine aay cJ hm hc id ops E s s' a w Q hd fit ?_ hq
   grind [draw]
  ·rename_i o os he;rw [he] at h;simp only at h;simp only [an] at hk;have hp:=TD hk.1;have hp:Perm ops.size (o::os):=by simpa using hp
   have:=A7 hk.2;refine wp_region_any hm ?_
   have uI: ∀x∈((fX (o::os) ops.toList).toArray).toList,∀d,x.dst=some d->d<a.tmps.size:=by
    intro x hx d hxd;obtain⟨j,hj,rfl⟩:=am2 hx;have Yg:j<ops.size:=by rw [<- uW hp]; exact hj
    obtain⟨i,_,Z,h3⟩:=hp.back j Yg;have hg:=nK hp Z;rw [h3] at hg
    have hx2:(fX (o::os) ops.toList)[j]?=some ((fX (o::os) ops.toList).toArray.toList[j]):=by
     grind
    rw [hx2] at hg;rw [an3 Z] at hg;simp only [bq,ag] at hg;rw [hg] at hxd;exact hd (ops[i]) ad d hxd
   have key:=EW (ops:=(fX (o::os) ops.toList).toArray) cJ hc uI fit (by
    unfold draw;rw [this]
    exact h) hq
   have gT:(fX (o::os) ops.toList).toArray.size=ops.size:=by simpa using uW hp
   rw [gT] at key;refine M9 hp _ _ _ _ _ ad ad (fun i hi=>?_) key;rw [ant,ant,ah hi,ah (hp.lt hi)]
 grind [T.leaf]
end
end
end Go.As
end
section
namespace Go.As
noncomputable section
def Gy (h:Hp):List Nat->Tr dP->Tr dP
 |[],t=>t
 |i::is,t=>match h.get i with
  |some o=>Gy h is (t.put i (some o))
  |none=>Gy h is t
theorem AP {h:Hp}: ∀(is:List Nat) (t:Tr dP),(∀id o,t.get id=some o->h.get id=some o)->∀id o,(Gy h is t).get id=some o->h.get id=some o
 |[],_,ht,id,o,hg=>ht id o hg
 |i::is,t,ht,id,o,hg=>by
  simp only [Gy] at hg;split at hg
  ·rename_i x hx;refine AP is _ (fun j y hy=>?_) id o hg
   grind [Tr.bP]
  ·exact AP is t ht id o hg
def AL:List (V×List W)->List (V×List W)->Bool
 |[],[]=>true
 |(i,a)::x,(j,b)::y=>eT i j&&iA a b&&AL x y
 |_,_=>false
theorem Gh: ∀{a b:List (V×List W)},AL a b=true->a=b
 |[],[],_=>rfl
 |[],_::_,h=>by simp [AL] at h
 |_::_,[],h=>by simp [AL] at h
 |(i,a)::x,(j,b)::y,h=>by simp only [AL,an] at h;rw [cH _ _ h.1.1,fK _ _ h.1.2,Gh h.2]
def Ip:dP->dP->Bool
 | .cells a e,.cells b f=>iA a b&&Nat.beq e f
 | .vec a t e x,.vec b u f y=>eT a b&&Nat.beq t u&&Nat.beq e f&&AL x y
 |_,_=>false
theorem NF {a b:dP} (h:Ip a b=true):a=b:=by
 cases a<;>cases b<;>simp only [Ip,aQ,an] at h
 ·rw [fK _ _ h.1,aq h.2]
 ·rw [cH _ _ h.1.1.1,aq h.1.1.2,aq h.1.2,Gh h.2]
def BD {α:Type} (f:α->α->Bool):Tr α->Tr α->Bool
 | .nil,.nil=>true
 | .node v l r,.node u x y=>(match v,u with |some a,some b=>f a b|none,none=>true|_,_=>false)&&BD f l x&&BD f r y
 |_,_=>false
theorem yK {α:Type} {f:α->α->Bool} (hf: ∀a b,f a b=true->a=b): ∀(a b:Tr α),BD f a b=true->a=b
 | .nil,b,h=>by cases b<;>simp [BD] at h; rfl
 | .node v l r,b,h=>by
   cases b with
   |nil=>simp [BD] at h
   |node u x y=>
    simp only [BD,an] at h;rw [yK hf l x h.1.2,yK hf r y h.2]
    grind
def inL (i:Nat):List Nat->Bool
 |[]=>false
 |j::l=>match Nat.beq i j with
  |true=>true
  |false=>inL i l
theorem IZ {i:Nat}: ∀{l:List Nat},inL i l=true↔i∈l
 |[]=>by simp [inL]
 |j::l=>by
  simp only [inL,aw];split
  ·rename_i h; simp [aq h]
  ·rename_i h; rw [IZ]; simp [anD h]
def sG (i:Nat):List Nat->List Nat
 |[]=>[]
 |j::l=>match Nat.beq i j with
  |true=>sG i l
  |false=>j::sG i l
theorem qE {i k:Nat}: ∀{l:List Nat},k∈sG i l↔k∈l/\k≠i
 |[]=>by simp [sG]
 |j::l=>by
  simp only [sG];split
  ·rename_i h;have:=aq h;subst this;rw [qE]
   grind
  ·rename_i h;have:=anD h;simp only [aw];rw [qE]
   grind
def GO (all:List Oper) (rem:List Nat) (i:Nat):Bool:=match eX all i with
 |some o=>o.after.toList.all fun e=>!Region.binds .any e||(!inL e.on rem&&Nat.blt e.on all.length)
 |none=>false
def ME (tt:TT) (call:ek) (all:List Oper) (pc:List (SB×Bool)) (tS:Tr W) (tH:Hp):Nat->List Nat->Tr W->Hp->Bool
 |0,rem,S,H=>match rem with
  |[]=>BD eL S tS&&BD Ip H.m tH.m&&Nat.beq H.next tH.next&&(match H.res with |none=>true|_=>false)
  |_=>false
 |n+1,rem,S,H=>match rem with
  |[]=>false
  |_=>rem.any (GO all rem)&&rem.all fun i=>match GO all rem i with
   |false=>true
   |true=>match eX all i with
    |some o=>match w_ tt call all o ⟨S,H,pc⟩ with
     | .ret (v,s')=>ME tt call all pc tS tH n (sG i rem) (uQ S o.dst v) s'.h
     |_=>false
    |none=>false
section
variable {P:Program}
theorem WU {E:En} {h:Array Obj} {S:Tr W} {a:Act} (sr:SR E h S a) {d:Option Nat} {v:W} {u:Value} (hd: ∀t,d=some t->t<a.tmps.size) (hv:VR E h v u):SR E h (uQ S d v) (a.put d u):=by
 cases d with
 |none=>exact sr
 |some t=>exact sr.put (hd t rfl) hv
theorem h! [bG] {tt:TT} (cJ:eB P tt) {call:ek} (hc:im P call) {ops:Array Oper} {ρ:Nat->Int} {pc:List (SB×Bool)} (hpc:bT ρ pc) {tS:Tr W} {tH:Hp} (htr:tH.res=none) {Q:Exit->Act->World->Prop} {m:Nat} (hd: ∀o∈ops.toList,∀d,o.dst=some d->d<m) :
 ∀(n:Nat) (rem:List Nat) (S:Tr W) (H:Hp) (E:En) (a:Act) (w:World) (listed:Array Bool),ME tt call ops.toList pc tS tH n rem S H=true->E.ρ=ρ->bN E H w->SR E w.heap S a->a.tmps.size=m->listed.size=ops.size->
  (∀i,i<ops.size->(listed[i]?=some true↔i∉rem))->(∀i∈rem,i<ops.size)->
  (∀(a':Act) (w':World) (E':En),eS E H w E' tH w'->bN E' tH w'->SR E' w'.heap tS a'->a'.tmps.size=m->a'.defers=a.defers->Q .normal a' w')->wpAny P .any ops Q n listed a w:=by
 intro n;have mN: ∀(i:Nat),eX ops.toList i=ops[i]?:=fun i=>by rw [dg,amD]
 have W9: ∀(rem:List Nat) (listed:Array Bool),listed.size=ops.size->(∀i,i<ops.size->(listed[i]?=some true↔i∉rem))->∀i,i∈Region.ready .any ops listed->i∈rem/\GO ops.toList rem i=true/\i<ops.size:=by
  intro rem listed gT Y i hi;obtain⟨o,ho,U,Z⟩:=jG.1 hi;have uH:i<ops.size:=(amK.1 ho).1
  have hf:listed[i]?=some false:=by simp_all
  refine⟨?_,?_,uH⟩
  ·grind
  ·unfold GO;rw [mN,ho];simp only [aX];intro e he
   cases hb:Region.binds .any e with
   |false=>rfl
   |true=>
    have:=Z e he hb
    have fD:e.on<ops.size:=by
     grind
    simp only [anJ,anL,an,amW];refine⟨?_,by simpa [anu] using fD⟩
    cases alq:inL e.on rem with
    |false=>rfl
    |true=> exfalso;have hm:=IZ.1 alq;simp_all
 have aeg: ∀(rem:List Nat) (listed:Array Bool),listed.size=ops.size->(∀i,i<ops.size->(listed[i]?=some true↔i∉rem))->(∀i∈rem,i<ops.size)->rem.any (GO ops.toList rem)=true->Region.ready .any ops listed≠[]:=by
  intro rem listed gT Y hr ajg nN;rw [aou] at ajg;obtain⟨i,hi,hm⟩:=ajg;have uH:=hr i hi
  have:i∈Region.ready .any ops listed:=by
   rw [jG];unfold GO at hm;rw [mN] at hm;split at hm
   ·rename_i o ho;refine⟨o,ho,?_,fun e he hb=>?_⟩
    ·have e1:listed[i]?=some (listed[i]'J):=by simp [gT,uH]
     simp only [anc,e1,aC]
     grind
    ·rw [aX] at hm;have:=hm e he;rw [hb] at this;simp only [anJ,anL,an,amW] at this;obtain⟨this,fD⟩:=this;have fD:e.on<ops.size:=by simpa [anu] using fD
     have aiZ:e.on∉rem:=fun h=>by rw [IZ.2 h] at this; simp at this
     simp_all
   grind
  grind
 induction n with
 |zero=>
  intro rem S H E a w listed h hρ r sr ha gT Y hr hq;simp only [ME] at h;split at h
  ·simp only [an] at h;obtain⟨⟨⟨U,Z⟩,h3⟩,h4⟩:=h;have e1:=yK jF _ _ U;have e2:=yK (fun _ _=>NF) _ _ Z;have e3:=aq h3
   have e4:H.res=none:=by
    grind
   have eH:H=tH:=by
    obtain⟨m1,n1,r1⟩:=H;obtain⟨m2,n2,r2⟩:=tH
    grind
   subst e1 eH;refine⟨?_,hq a w E (eS.refl _ _ _) r sr ha rfl⟩;rw [an1];intro i hi;have:=(W9 [] listed gT Y i hi).1
   grind
  grind
 |succ n ih=>
  intro rem S H E a w listed h hρ r sr ha gT Y hr hq;simp only [ME] at h;split at h
  ·grind
  ·rename_i gn;simp only [an] at h;refine⟨fun h0=>absurd h0 (aeg rem listed gT Y hr h.1),fun i hi=>?_⟩;obtain⟨g1,g2,g3⟩:=W9 rem listed gT Y i hi;have I6:=(aX.1 h.2) i g1;rw [g2] at I6;simp only at I6;split at I6
   ·rename_i o ho;have wB:ops[i]?=some o:=by rw [<- mN]; exact ho
    split at I6
    ·rename_i v s' hev;have alH:=JF cJ hc (ops:=ops) (o:=o) (s:=⟨S,H,pc⟩) (s':=s') (v:=v) (ρ:=ρ) hpc (by rw [hev]; rfl);refine alH.wpOp hρ r sr wB fun u E' w' st r' hv=>?_
     have hdo: ∀t,o.dst=some t->t<a.tmps.size:=by intro t ht;rw [ha];exact hd o (Array.mem_toList_iff.2 (aop wB)) t ht
     have sr':SR E' w'.heap (uQ S o.dst v) (a.put o.dst u):=WU (sr.keep (st.keeps r)) hdo hv;refine ih (sG i rem) _ _ E' (a.put o.dst u) w' (listed.setIfInBounds i true) I6 (st.ρ.trans hρ) r' sr' (by rw [DI]; exact ha) (by simpa using gT) ?_ ?_ ?_
     ·intro k hk;rw [anN,qE]
      grind
     ·intro k hk;exact hr k (qE.1 hk).1
     ·intro a' w2 E2 qZ r2 sr2 hs2 jX;exact hq a' w2 E2 (st.trans qZ) r2 sr2 hs2 (by rw [jX,As.put_defers])
    grind
   grind
end
end
end Go.As
end
section
namespace Go.As
noncomputable section
def ET (o:Oper) (j:Nat):Bool:=o.after.toList.any fun e=>Region.binds .any e&&Nat.beq e.on j
def Io (n1:Nat) (all:List Oper):Bool:=
 Nat.blt 0 n1&&Nat.ble n1 all.length&&
 (List.range all.length).all (fun j=>match eX all j with
  |some o=>match Nat.blt j n1 with
   |true=>(o.after.toList.all fun e=>!Region.binds .any e||Nat.blt e.on j)&&(match o.guard with |some (k,_)=>Nat.blt k n1|none=>true)
   |false=>ET o (n1-1)
  |none=>false)&&
 (match eX all (n1-1) with
  |some o=>(List.range (n1-1)).all fun i=>ET o i
  |none=>false)
structure Po (n1:Nat) (ops:Array Oper):Prop where
 pos:0<n1
 le:n1<=ops.size
 back: ∀(i:Nat) (o:Oper),i<n1->ops[i]?=some o->∀e∈o.after.toList,Region.binds .any e=true->e.on<i
 guard: ∀(i:Nat) (o:Oper),i<n1->ops[i]?=some o->∀k b,o.guard=some (k,b)->k<n1
 late: ∀(i:Nat) (o:Oper),n1<=i->ops[i]?=some o->∃e∈o.after.toList,Region.binds .any e=true/\e.on=n1-1
 last: ∀(o:Oper),ops[n1-1]?=some o->∀i,i<n1-1->∃e∈o.after.toList,Region.binds .any e=true/\e.on=i
theorem Hz {o:Oper} {j:Nat} (h:ET o j=true): ∃e∈o.after.toList,Region.binds .any e=true/\e.on=j:=by unfold ET at h;rw [aou] at h;simp_all
theorem Nz {n1:Nat} {ops:Array Oper} (h:Io n1 ops.toList=true):Po n1 ops:=by
 have mN: ∀(i:Nat),eX ops.toList i=ops[i]?:=fun i=>by rw [dg,amD]
 unfold Io at h;simp only [an] at h;obtain⟨⟨⟨U,Z⟩,h3⟩,h4⟩:=h;have U:0<n1:=by simpa [anu] using U
 have Z:n1<=ops.size:=by simpa using amU Z
 rw [aX] at h3
 have h3: ∀(i:Nat) (o:Oper),ops[i]?=some o->(match Nat.blt i n1 with
  |true=>(o.after.toList.all fun e=>!Region.binds .any e||Nat.blt e.on i)&&(match o.guard with |some (k,_)=>Nat.blt k n1|none=>true)
  |false=>ET o (n1-1))=true:=by
  intro i o ho;have hi:i<ops.size:=(amK.1 ho).1;have:=h3 i (amN.2 (by simpa using hi));rw [mN,ho] at this;exact this
 refine⟨U,Z,?_,?_,?_,?_⟩
 ·intro i o hi ho e he hb;have:=h3 i o ho;rw [show Nat.blt i n1=true by simpa [anu] using hi] at this;simp only [an] at this;have:=(aX.1 this.1) e he;simp_all
 ·intro i o hi ho k b hg;have:=h3 i o ho;rw [show Nat.blt i n1=true by simpa [anu] using hi] at this;simp_all
 ·intro i o hi ho;have:=h3 i o ho
  rw [show Nat.blt i n1=false by
   cases hb:Nat.blt i n1 with
   |false=>rfl
   |true=>rw [anu] at hb; omega] at this
  exact Hz this
 ·intro o ho i hi;rw [mN,ho] at h4;exact Hz ((aX.1 h4) i (amN.2 hi))
section
variable {P:Program}
theorem wp_exit {o:Oper} {a:Act} {w:World} {K:Act->World->Prop} {Q1 Q:Exit->Act->World->Prop} (h: ∀e a w,e≠.normal->Q1 e a w->Q e a w) (hh:o.wp P a w K Q1):o.wp P a w K Q:=by
 have Y:LetsOut Q1->LetsOut Q:=fun⟨a,w,U⟩=> ⟨a,w,h _ _ _ ad U⟩;unfold Oper.wp at *;generalize (execOp a.eval o).run P w=r at *
 cases r with
 |ok n w'=>
  cases n<;>simp only [Oper.upon] at hh ⊢<;>
   first
    |exact hh
    |exact Calls.mono hh (fun e w'' he=>by cases e<;>first |exact he|exact h _ _ _ ad he|exact Y he)
 |halt x w'=>cases x<;>simp only [Oper.upon] at hh ⊢<;>first |exact hh|exact h _ _ _ ad hh
theorem Ld {l l':Nat->Bool} {i:Nat} (U:l i=false) (Z:l' i=true) (h: ∀j,j≠i->l' j=l j): ∀n,i<n->left l' n+1=left l n
 |0,hi=>by omega
 |n+1,hi=>by
  simp only [left];by_cases uH:i=n
  ·subst uH
   have: ∀m,m<=i->left l' m=left l m:=by
    intro m
    induction m with
    |zero=>intro _; rfl
    |succ m ih=>
     intro hm
     grind [left]
   grind
  ·have:=Ld U Z h n J
   grind
theorem Le {l:Nat->Bool}: ∀n,(∀i,i<n->l i=true)->left l n=0
 |0,_=>rfl
 |n+1,h=>by simp only [left];rw [Le n (fun i hi=>h i J),h n J];rfl
def vy (n1 n:Nat):Array Bool:=(Array.range n).map fun i=>decide (i<n1)
theorem Ko {n1:Nat} {ops:Array Oper} (sf:Po n1 ops) {Q Q1:Exit->Act->World->Prop} (hq: ∀e a w,e≠.normal->Q1 e a w->Q e a w) (hn: ∀a w,Q1 .normal a w->wpAny P .any ops Q (ops.size-n1) (vy n1 ops.size) a w) :
 ∀(f:Nat) (l1 l:Array Bool) (a:Act) (w:World),l1.size=n1->l.size=ops.size->(∀i,i<n1->l[i]?=l1[i]?)->(∀i,n1<=i->i<ops.size->l[i]?=some false)->left (fun i=>l1.getD i true) n1=f->(l1[n1-1]?=some true->f=0)->
  wpAny P .any (ops.toList.take n1).toArray Q1 f l1 a w->wpAny P .any ops Q (f+(ops.size-n1)) l a w:=by
 have hR: ∀i,i<n1->(ops.toList.take n1).toArray[i]?=ops[i]?:=by
  intro i hi
  grind
 have hRs:(ops.toList.take n1).toArray.size=n1:=by
  have:=sf.le
  grind
 have ru:LetsOut Q1->LetsOut Q:=fun⟨a,w,U⟩=> ⟨a,w,hq _ _ _ ad U⟩
 have vi: ∀(l:Array Bool) (i:Nat),i<l.size->(l.getD i true=true↔l[i]?=some true)/\(l.getD i false=true↔l[i]?=some true):=by intro l i hi;simp_all
 intro f
 induction f with
 |zero=>
  intro l1 l a w U Z h3 h4 h5 h6 hw;have tg:=A0 n1 h5
  have:l=vy n1 ops.size:=by
   grind [vy]
  rw [this,ay];exact hn a w hw.2
 |succ f ih=>
  intro l1 l a w U Z h3 h4 h5 h6 hw;rw [show f+1+(ops.size-n1)=(f+(ops.size-n1))+1 by omega];have hle:=sf.le;have jU:=sf.pos;have abY:l1[n1-1]?=some true->False:=fun h=>by have:=h6 h; omega
  refine⟨fun nN=>?_,fun i hi=>?_⟩
  ·exfalso
   have tg: ∀i,i<n1->l[i]?=some true:=by
    intro i
    induction i using Nat.strongRecOn with
    |_ i tX=>
     intro hi;apply Classical.byContradiction;intro Ar;have hio:ops[i]?=some (ops[i]'J):=ad
     have:i∈Region.ready .any ops l:=by
      rw [jG];refine⟨_,hio,?_,fun e he hb=>?_⟩
      ·grind
      ·have fD:=sf.back i _ hi hio e he hb
       grind
     grind
   grind
  ·obtain⟨o,ho,g1,g2⟩:=jG.1 hi;have uH:i<ops.size:=(amK.1 ho).1
   have hi1:i<n1:=by
    rcases aT i n1 with h|h
    ·exact h
    ·exfalso;obtain⟨e,e1,e2,e3⟩:=sf.late i o h ho
     grind
   have A6:l1.getD i true=false:=by
    grind
   have hed: ∀e∈o.after.toList,Region.binds .any e=true->l1.getD e.on false=true:=by
    intro e he hb
    grind
   have hr1:i∈Region.ready .any (ops.toList.take n1).toArray l1:=by
    rw [jG]
    grind
   have tY:=hw.2 i hr1
   have abW: ∀a w,wpAny P .any (ops.toList.take n1).toArray Q1 f (l1.setIfInBounds i true) a w->wpAny P .any ops Q (f+(ops.size-n1)) (l.setIfInBounds i true) a w:=by
    intro a w hw2
    have Rv:left (fun j=>(l1.setIfInBounds i true).getD j true) n1=f:=by
     have:=Ld (l:=fun j=>l1.getD j true) (l':=fun j=>(l1.setIfInBounds i true).getD j true) (i:=i) A6 (by
      simp only [anc,Array.getElem?_setIfInBounds_self]
      split<;>rfl) (fun j hj=>by
      simp only [anc]
      rw [Array.getElem?_setIfInBounds_ne (fun e=>hj e.symm)]) n1 hi1
     omega
    refine ih _ _ a w (by simpa using U) (by simpa using Z) (fun k hk=>?_) (fun k hk1 CV=>?_) Rv (fun fD=>?_) hw2
    ·grind
    ·grind
    ·by_cases ep:i=n1-1
     ·rw [<- Rv];refine Le n1 fun k hk=>?_;by_cases CV:k=i
      ·grind
      ·obtain⟨e,e1,e2,e3⟩:=sf.last o (by rw [<- ep]; exact ho) k J
       grind
     grind
   have tY:=wpOp_mono abW tY;unfold wpOp at tY ⊢;rw [hR i hi1,ho] at tY;rw [ho];simp only at tY ⊢
   have aiL:Region.wanted o (yielded (ops.toList.take n1).toArray a.tmps)=Region.wanted o (yielded ops a.tmps):=by
    unfold Region.wanted
    cases hg:o.guard with
    |none=>rfl
    |some g=>
     obtain⟨k,b⟩:=g;simp only;have:=sf.guard i o hi1 ho k b hg;unfold yielded
     grind
   rw [aiL] at tY;split
   ·rename_i hwt;rw [ah hwt] at tY;rcases tY with h|⟨h,h'⟩
    ·exact .inl (wp_exit hq h)
    grind
   grind
end
end
end Go.As
end
section
namespace Go.As
noncomputable section
def DF (n1 n:Nat):List Nat:=(List.range (n-n1)).map fun k=>k+n1
def ah6:W->List Nat
 | .ptr i _=>[i]
 | .slice i _ _ _=>[i]
 |_=>[]
def aeD (S:Tr W):List Nat->List Nat
 |[]=>[]
 |t::ts=>match S.get t with
  |some v=>ah6 v++aeD S ts
  |none=>aeD S ts
def Rj (all:List Oper) (S:Tr W):List Nat->List Nat
 |[]=>[]
 |i::is=>match eX all i with
  |some o=>aeD S (DS o.op)++Rj all S is
  |none=>Rj all S is
def WY (tt:TT) (call:ek) (all:List Oper) (pc:List (SB×Bool)):List Nat->Tr W->Hp->Option (Tr W×Hp)
 |[],S,H=>some (S,H)
 |i::is,S,H=>match eX all i with
  |some o=>match w_ tt call all o ⟨S,H,pc⟩ with
   | .ret (v,s')=>WY tt call all pc is (uQ S o.dst v) s'.h
   |_=>none
  |none=>none
def JN (tt:TT) (call:ek) (all:List Oper) (n1:Nat) (s1:St):T St:=
 match s1.h.res with
 |some _=> .fail
 |none=>match (⟨Gy s1.h (Rj all s1.bE (DF n1 all.length)) .nil,s1.h.next,none⟩ : Hp) with
  |small=>match WY tt call all s1.pc (DF n1 all.length) s1.bE small with
   |some (S,H)=>match H.res with
    |none=>match Nat.beq H.next s1.h.next&&ME tt call all s1.pc S H (all.length-n1) (DF n1 all.length) s1.bE small with
     |true=> .ret ⟨S,⟨Tr.over H.m (Tr.minus small.m s1.h.m),s1.h.next,none⟩,s1.pc⟩
     |false=> .fail
    |some _=> .fail
   |none=> .fail
structure Ao where
 ord:List Nat
 n1:Nat
 h:ML
def EX (tt:TT) (H:Nat->Nat->Option Ao) (call:ek) (g id:Nat) (all:List Oper) (s:St):T St:=match H g id with
 |some p=>match p.n1 with
  |0=>match p.ord with
   |[]=>EY tt call all (statOf all p.h) s
   |o::os=>match fX (o::os) all with
    |i_=>EY tt call i_ (statOf i_ p.h) s
  |n1=>(EY tt call (all.take n1) (statOf (all.take n1) p.h) s).bind (JN tt call all n1)
 |none=> .fail
def JV (tt:TT) (H:Nat->Nat->Option Ao) (g id:Nat) (all:List Oper):Bool:=match H g id with
 |some p=>match p.n1 with
  |0=>match p.ord with
   |[]=>vh tt all p.h
   |o::os=>Iy (o::os) all.length&&vh tt (fX (o::os) all) p.h
  |n1=>Io n1 all&&vh tt (all.take n1) p.h
 |none=>true
section
variable {P:Program}
theorem GN {n1 n i:Nat} (h:n1<=n):i∈DF n1 n↔n1<=i/\i<n:=by
 unfold DF;rw [aK];constructor
 ·rintro⟨k,hk,rfl⟩
  grind
 ·rintro⟨U,Z⟩;exact⟨i-n1,amN.2 J,J⟩
theorem TW (n:Nat): ∀m,m<=n->left (fun i=>(Array.replicate n false).getD i true) m=m:=by
 intro m
 induction m with
 |zero=>intro _; rfl
 |succ m ih=>
  intro hm;have fD:m<n:=J
  simp only [left];rw [ih J];simp [fD]
theorem Pb [bG] {tt:TT} (cJ:eB P tt) {call:ek} (hc:im P call) {ops:Array Oper} {n1:Nat} (sf:Po n1 ops) {E:En} {s s1 s':St} {a a1:Act} {w w1:World} {Q:Exit->Act->World->Prop}
 (hd: ∀o∈ops.toList,∀d,o.dst=some d->d<a.tmps.size) (ht:mL E s a w s1 a1 w1) (h:(JN tt call ops.toList n1 s1).leaf E.ρ=some s') (hq: ∀a' w',mL E s a w s' a' w'->Q .normal a' w') :
 wpAny P .any ops Q (ops.size-n1) (vy n1 ops.size) a1 w1:=by
 obtain⟨d1,z1,E1,AF,f1⟩:=ht;have hlen:ops.toList.length=ops.size:=bn;unfold JN at h;split at h
 ·simp [T.leaf] at h
 ·rename_i xY;simp only at h;split at h
  ·rename_i S H amt;split at h
   ·rename_i hHr;split at h
    ·rename_i tg;simp only [an] at tg;have hnx:=aq tg.1;have:=bC h;subst this
     have nM: ∀id o,(⟨Gy s1.h (Rj ops.toList s1.bE (DF n1 ops.toList.length)) .nil,s1.h.next,none⟩ : Hp).get id=some o->s1.h.get id=some o:=
      fun id o hg=>AP _ _ (fun _ _ hh=>by simp [Tr.get] at hh) id o hg
     have rs:=f1.rel.part nM (au _) ad;have hpc:bT E1.ρ s1.pc:=f1.pc;have U0:=tg.2;rw [hlen] at U0;refine h! cJ hc (ops:=ops) (ρ:=E1.ρ) (pc:=s1.pc) hpc hHr (m:=a.tmps.size) hd (ops.size-n1) (DF n1 ops.size) s1.bE _ E1 a1 w1 (vy n1 ops.size) U0 rfl (by rw [hlen] at rs; exact rs) f1.sr z1 (by simp [vy]) ?_ ?_ ?_
     ·intro i hi;rw [GN sf.le];unfold vy
      grind
     ·intro i hi;exact ((GN sf.le).1 hi).2
     ·intro a2 w2 E2 qZ r2 sr2 z2 d2;rw [hlen] at nM;obtain⟨Hc,e0,_,_,r3,Kw⟩:=Yw f1.rel nM qZ r2 s1.h.next (fun id hid=>r2.fresh id J)
      have eu:=Kw.WL (by rw [e0]; exact au _) (by rw [e0]) (fun id qI=>by
       rcases qZ.ZT id qI with U|U|U
       ·exact .inl U
       ·have RH:s1.h.next<=id/\id<H.next:=U;omega
       ·simp at U)
      subst e0;refine hq a2 w2 ⟨d2.trans d1,z2,E2,AF.trans ?_,?_⟩
      ·grind
      ·refine⟨by rw [hlen]; exact r3,sr2,?_⟩;show bT E2.ρ s1.pc;rw [qZ.ρ]
       grind
    ·simp [T.leaf] at h
   ·simp [T.leaf] at h
  ·simp [T.leaf] at h
theorem vF [bG] {tt:TT} (cJ:eB P tt) (hm:P.follows .mixedOrders=true) {H:Nat->Nat->Option Ao} {call:ek} (hc:im P call) (g:Nat):vS P (JV tt H g) (EX tt H call g):=by
 intro id ops hk E s s' a w Q hd fit h hq;unfold JV at hk;unfold EX at h;split at hk
 ·rename_i p hp;rw [hp] at h;simp only at h;split at hk
  ·rename_i hn;rw [hn] at h;simp only at h
   have hP:=ZR (P:=P) cJ hm (H:=fun _ _=>some ⟨p.ord,p.h⟩) hc g id ops (by
    unfold afJ
    exact hk) E s s' a w Q hd fit (by
    unfold ZS
    exact h) hq
   exact hP
  ·rename_i n1 hn;split at h
   ·rename_i h0
    grind
   ·rename_i n1' _;simp only [an] at hk;have sf:=Nz hk.1;have CU:=A7 hk.2;obtain⟨s1,U,Z⟩:=T.fg h;refine wp_region_any hm ?_;have hle:=sf.le;have hRs:(ops.toList.take p.n1).toArray.size=p.n1:=by simp; omega
    have ya: ∀o∈(ops.toList.take p.n1).toArray.toList,∀d,o.dst=some d->d<a.tmps.size:=by
     intro o ho
     grind
    have key:=EW (P:=P) (ops:=(ops.toList.take p.n1).toArray) (Q:=fun e a' w'=>match e with | .normal=>wpAny P .any ops Q (ops.size-p.n1) (vy p.n1 ops.size) a' w'|e=>Q e a' w') cJ hc ya fit (s':=s1) (by
     unfold draw;rw [List.toList_toArray,CU]
     exact U) (fun a' w' ht=>Pb cJ hc sf hd ht Z hq)
    rw [hRs] at key
    have:=Ko sf (Q:=Q) (fun e a w gn hh=>by
     cases e with
     |normal=>exact absurd rfl gn
     |_=>exact hh) (fun a w hh=>hh) p.n1 (Array.replicate p.n1 false) (Array.replicate ops.size false) a _ ad ad (fun i hi=>by
     rw [ant,ant,ah hi,ah J]) (fun i _ hi=>by
     rw [ant,ah hi]) (by
     exact TW p.n1 p.n1 (au _)) (fun hh=>by
     rw [ant,ah (by have:=sf.pos; omega)] at hh
     simp at hh) key
    grind
 ·rename_i hh;rw [hh] at h;simp [T.leaf] at h
end
end
end Go.As
end
section
namespace Go.As
noncomputable section
def lim {α:Type} (n:Nat) (t:Tr α) (k:Nat):Option α:=match Nat.ble n k with
 |true=>none
 |false=>t.get k
theorem QJ {α:Type} {n:Nat} {t:Tr α} {f:Nat->Option α} (h:(List.range n).map t.get=(List.range n).map f) {k:Nat} {x:α} (hk:lim n t k=some x):f k=some x:=by
 unfold lim at hk;split at hk
 ·grind
 ·rename_i hle
  have fD:k<n:=by
   have: ¬(n<=k):=by
    intro h;rw [anO h] at hle
    grind
   omega
  have:=congrArg (fun l=>l[k]?) h
  grind
section
variable {P:Program}
theorem D' {n:Nat} {tab:Tr TI} (h:(List.range n).map tab.get=(List.range n).map (F_ P)):eB P (lim n tab):=fun _ _ hk=>E? (QJ h hk)
def aem (qW:Nat->List Oper->Bool) (f:Func):Bool:=!(f.name == "runtime.NumGoroutine")&&(match f.body with |some c=>jQ qW f.ntmps c|none=>true)
def hAt {α:Type} (t:Tr (Tr α)) (g id:Nat):Option α:=match t.get g with
 |some u=>u.get id
 |none=>none
theorem aac {n:Nat} {Jc:Tr Func} (h:(List.range n).map Jc.get=(List.range n).map (fun g=>P.funcs[g]?)) {qW:Nat->Nat->List Oper->Bool} (hc:(List.range n).all (fun g=>match Jc.get g with |some f=>aem (qW g) f|none=>true)=true):UK P qW (lim n Jc):=by
 intro g fn hk;have U:=QJ h hk;refine⟨U,?_⟩
 have fD:g<n:=by
  unfold lim at hk;split at hk
  ·grind
  ·rename_i hle;rcases aT g n with h|h
   ·exact h
   ·rw [anO h] at hle; simp at hle
 have vi:Jc.get g=some fn:=by
  unfold lim at hk
  grind
 have:=aX.1 hc g (amN.2 fD);rw [vi] at this;simp only [aem,an,amW] at this
 grind
end
end
end Go.As
end
section
namespace Go.As
noncomputable section
structure Ren where
 ns:List V
 bl:List Nat
 sh:List Nat
def Ren.se (r:Ren):V->V
 | .lit n=> .lit n
 | .dH i=>match eX r.ns i with |some e=>e|none=> .dH i
 | .add a b=> .add (r.se a) (r.se b)
 | .sub a b=> .sub (r.se a) (r.se b)
 | .mul a b=> .mul (r.se a) (r.se b)
 | .quo a b=> .quo (r.se a) (r.se b)
 | .rem a b=> .rem (r.se a) (r.se b)
 | .wrap k a=> .wrap k (r.se a)
 | .wy b e=> .wy b (r.se e)
 | .eg d=> .eg d
 | .op o a b=>match o with
   | .len=>dO (r.se a)
   |o=> .op o (r.se a) (r.se b)
 | .ap f a=> .ap f (r.se a)
def Ren.sb (r:Ren):SB->SB
 | .lit b=> .lit b
 | .lt a b=>gV (r.se a) (r.se b)
 | .le a b=> .le (r.se a) (r.se b)
 | .eq a b=>ra (r.se a) (r.se b)
 | .not s=> .not (r.sb s)
 | .and a b=> .and (r.sb a) (r.sb b)
def Ren.id (r:Ren) (i:Nat):Nat:=match eX r.bl i with |some j=>j|none=>0
def Ren.uz (r:Ren) (i:Nat):Nat:=match eX r.sh i with |some j=>j|none=>0
mutual
def Ren.av (r:Ren):W->W
 | .bool b=> .bool (r.sb b)
 | .int k e=> .int k (r.se e)
 | .str s=> .str s
 | .ptr i o=> .ptr (r.id i) (r.uz i+o)
 | .sV=> .sV
 | .mJ cs=> .mJ (r.Ct cs)
 | .slice i o l c=> .slice (r.id i) (r.uz i+o) l c
 | .dv=> .dv
 | .ro cs n f=> .ro (r.Ct cs) n f
 | .map i=> .map (r.id i)
 | .ri=> .ri
 | .func f a b=> .func f (r.Ct a) (r.Ct b)
 | .u4=> .u4
 | .iface t v=> .iface t (r.av v)
 | .wY=> .wY
 | .agg cs=> .agg (r.Ct cs)
 | .tuple cs=> .tuple (r.Ct cs)
 | .Kc i=> .Kc i
 | .wy k ks=> .wy k ks
 | .emp=> .emp
 | .eg e t=> .eg (r.se e) t
 | .jD e=> .jD (r.se e)
 | .oq i n t=>match r.uz i with
   |0=> .oq (r.id i) (r.se n) t
   |_=> .Kc 0
 | .yu i es x o=>match r.uz i with
   |0=> .yu (r.id i) es (r.se x) o
   |_=> .Kc 0
 | .sD i lo n t=>match r.uz i with
   |0=> .sD (r.id i) (r.se lo) (r.se n) t
   |_=> .Kc 0
 | .any=> .any
 | .w4 z t=> .w4 (r.se z) t
def Ren.Ct (r:Ren):List W->List W
 |[]=>[]
 |x::xs=>r.av x::r.Ct xs
end
mutual
def lB (n:Nat):W->Bool
 | .ptr i _=>Nat.blt i n
 | .slice i _ _ _=>Nat.blt i n
 | .map i=>Nat.blt i n
 | .oq i _ _=>Nat.blt i n
 | .yu i _ _ _=>Nat.blt i n
 | .sD i _ _ _=>Nat.blt i n
 | .mJ cs=>od n cs
 | .ro cs _ _=>od n cs
 | .func _ a b=>od n a&&od n b
 | .iface _ v=>lB n v
 | .agg cs=>od n cs
 | .tuple cs=>od n cs
 |_=>true
def od (n:Nat):List W->Bool
 |[]=>true
 |x::xs=>lB n x&&od n xs
end
def Ren.env (r:Ren) (ρ:Nat->Int) (i:Nat):Int:=match eX r.ns i with |some e=>e.den ρ|none=>ρ i
theorem GI {α:Type}: ∀{l:List α} {i:Nat},l.length<=i->eX l i=none
 |[],_,_=>rfl
 |_::_,0,h=>by simp at h
 |_::l,i+1,h=>by simp only [eX]; exact GI (by simpa using h)
theorem Ren.lD {r:Ren} (h:r.ns.length<=900) {ρ:Nat->Int} {i:Nat} (hi:900<=i):r.env ρ i=ρ i:=by
 grind [Ren.env,GI]
theorem Ren.ej {r:Ren} (h:r.ns.length<=900) (ρ:Nat->Int): ∀e:V,(r.se e).den ρ=e.den (r.env ρ)
 | .lit n=>rfl
 | .dH i=>by simp only [Ren.se,V.den,Ren.env];split<;>rfl
 | .add a b=>by simp only [Ren.se,V.den,Ren.ej h ρ a,Ren.ej h ρ b]
 | .sub a b=>by simp only [Ren.se,V.den,Ren.ej h ρ a,Ren.ej h ρ b]
 | .mul a b=>by simp only [Ren.se,V.den,Ren.ej h ρ a,Ren.ej h ρ b]
 | .quo a b=>by simp only [Ren.se,V.den,Ren.ej h ρ a,Ren.ej h ρ b]
 | .rem a b=>by simp only [Ren.se,V.den,Ren.ej h ρ a,Ren.ej h ρ b]
 | .wrap k a=>by simp only [Ren.se,V.den,Ren.ej h ρ a]
 | .wy b e=>by simp only [Ren.se,V.den,Ren.ej h ρ e];rw [Ren.lD h J]
 | .eg d=>rfl
 | .op o a b=>by
   cases o with
   |len=> simp only [Ren.se,cl,Ren.ej h ρ a];simp [V.den,eZ.den]
   |_=>simp only [Ren.se,V.den,Ren.ej h ρ a,Ren.ej h ρ b]
 | .ap f a=>by simp only [Ren.se,V.den,Ren.ej h ρ a];rw [Ren.lD h (by unfold iZ; omega)]
theorem Ren.AJ {r:Ren} (h:r.ns.length<=900) (ρ:Nat->Int): ∀c:SB,(r.sb c).den ρ=c.den (r.env ρ)
 | .lit b=>rfl
 | .lt a b=>by simp only [Ren.sb,dU,SB.den,Ren.ej h]
 | .le a b=>by simp only [Ren.sb,SB.den,Ren.ej h]
 | .eq a b=>by simp only [Ren.sb,gG,SB.den,Ren.ej h]
 | .not s=>by simp only [Ren.sb,SB.den,Ren.AJ h ρ s]
 | .and a b=>by simp only [Ren.sb,SB.den,Ren.AJ h ρ a,Ren.AJ h ρ b]
def En.gL (E:En) (r:Ren):En:={ ρ:=r.env E.ρ,θ:=fun i=>((E.θ (r.id i)).1,(E.θ (r.id i)).2+r.uz i),κ:=fun i=>E.κ (r.id i)-r.uz i,dm:=fun i=>i<r.bl.length/\E.dm (r.id i),ro:=E.ro,hd:=E.hd }
theorem yl {i n:Nat} (h:Nat.blt i n=true):i<n:=by simp_all
mutual
theorem VR.gL {E:En} {r:Ren} {h:Array Obj} (Y:r.ns.length<=900): ∀(x:W) (u:Value),lB r.bl.length x=true->VR E h (r.av x) u->VR (E.gL r) h x u
 | .bool b,u,_,hv=>by simp only [Ren.av,VR,En.gL,Ren.AJ Y] at *; exact hv
 | .int k e,u,_,hv=>by simp only [Ren.av,VR,En.gL,Ren.ej Y] at *; exact hv
 | .str s,u,_,hv=>by simp only [Ren.av,VR] at *; exact hv
 | .ptr i o,u,hi,hv=>by simp only [Ren.av,VR,En.gL,lB] at *; exact⟨by rw [hv.1,amF],yl hi,hv.2⟩
 | .sV,u,_,hv=>by simp only [Ren.av,VR] at *; exact hv
 | .mJ cs,u,hi,hv=>by simp only [Ren.av,VR,lB] at *;obtain⟨b,o,us,U,Z,h3,h4⟩:=hv;exact⟨b,o,us,U,Z,cw.gL Y cs us hi h3,h4⟩
 | .slice i o l c,u,hi,hv=>by
   simp only [Ren.av,VR,lB] at *;obtain⟨U,a,cap,Z,h3,h4⟩:=hv;refine⟨⟨yl hi,U⟩,a,cap,Z,h3,?_⟩
   cases c with
   |exact k=>
    simp only [eC,En.gL] at *
    grind
   |rest es=>
    simp only [eC,En.gL] at *
    grind
 | .dv,u,_,hv=>by simp only [Ren.av,VR] at *; exact hv
 | .ro cs n f,u,hi,hv=>by simp only [Ren.av,VR,lB] at *;obtain⟨b,o,cap,us,U,Z,h3,h4,h5,h6⟩:=hv;exact⟨b,o,cap,us,U,Z,h3,h4,cw.gL Y cs us hi h5,h6⟩
 | .map i,u,hi,hv=>by simp only [Ren.av,VR,En.gL,lB] at *; exact⟨hv.1,yl hi,hv.2⟩
 | .ri,u,_,hv=>by simp only [Ren.av,VR] at *; exact hv
 | .func f a b,u,hi,hv=>by simp only [Ren.av,VR,lB,an] at *;obtain⟨us,ws,U,Z,h3⟩:=hv;exact⟨us,ws,U,cw.gL Y a us hi.1 Z,cw.gL Y b ws hi.2 h3⟩
 | .u4,u,_,hv=>by simp only [Ren.av,VR] at *; exact hv
 | .iface t v,u,hi,hv=>by simp only [Ren.av,VR,lB] at *;obtain⟨y,U,Z⟩:=hv;exact⟨y,U,VR.gL Y v y hi Z⟩
 | .wY,u,_,hv=>by simp only [Ren.av,VR] at *; exact hv
 | .agg cs,u,hi,hv=>by simp only [Ren.av,VR,lB] at *;obtain⟨us,U,Z⟩:=hv;exact⟨us,U,cw.gL Y cs us hi Z⟩
 | .tuple cs,u,hi,hv=>by simp only [Ren.av,VR,lB] at *;obtain⟨us,U,Z⟩:=hv;exact⟨us,U,cw.gL Y cs us hi Z⟩
 | .Kc i,u,_,hv=>by simp only [Ren.av,VR] at hv
 | .wy k ks,u,_,hv=>by
   simp only [Ren.av,VR,En.gL] at *;rw [Ren.lD Y J];rcases hv with hv|⟨b,o,n,cap,U,Z,h3,h4,h5⟩
   ·grind
   ·refine .inr ⟨b,o,n,cap,U,Z,h3,h4,fun i j kd hi hj=>?_⟩;rw [Ren.lD Y J]
    grind
 | .emp,u,_,hv=>by simp only [Ren.av,VR] at *; exact hv
 | .eg e t,u,_,hv=>by simp only [Ren.av,VR,En.gL,Ren.ej Y] at *; exact hv
 | .jD e,u,_,hv=>by simp only [Ren.av,VR,En.gL,Ren.ej Y] at *; exact hv
 | .oq i n t,u,hi,hv=>by
   simp only [Ren.av] at hv;split at hv
   ·rename_i hs;simp only [VR,En.gL,lB,Ren.ej Y] at *;obtain⟨U,k,a,cap,Z,h3,h4,h5⟩:=hv;refine⟨⟨yl hi,U⟩,k,a,cap,Z,h3,h4,?_⟩;simp only [eC,hs] at *
    grind
   ·simp [VR] at hv
 | .any,u,_,_=>by simp only [VR]
 | .w4 z t,u,_,hv=>by simp only [Ren.av,VR,En.gL,Ren.ej Y] at *; exact hv
 | .sD i lo n t,u,hi,hv=>by
   simp only [Ren.av] at hv;split at hv
   ·rename_i hs;simp only [VR,En.gL,lB,Ren.ej Y] at *;obtain⟨U,l,k,a,cap,Z,h3,h4,h5,h6⟩:=hv;refine⟨⟨yl hi,U⟩,l,k,a,cap,Z,h3,h4,h5,?_⟩;simp only [eC,hs] at *
    grind
   ·simp [VR] at hv
 | .yu i es x o,u,hi,hv=>by
   simp only [Ren.av] at hv;split at hv
   ·rename_i hs;simp only [VR,En.gL,lB,Ren.ej Y] at *;obtain⟨U,k,Z,h3⟩:=hv;exact⟨⟨yl hi,U⟩,k,Z,by rw [h3,hs,bh]⟩
   ·simp [VR] at hv
theorem cw.gL {E:En} {r:Ren} {h:Array Obj} (Y:r.ns.length<=900): ∀(xs:List W) (us:List Value),od r.bl.length xs=true->cw E h (r.Ct xs) us->cw (E.gL r) h xs us
 |[],us,_,hv=>by simp only [Ren.Ct,cw] at *; exact hv
 |x::xs,us,hi,hv=>by simp only [Ren.Ct,cw,od,an] at *;obtain⟨u,vs,U,Z,h3⟩:=hv;exact⟨u,vs,U,VR.gL Y x u hi.1 Z,cw.gL Y xs vs hi.2 h3⟩
end
theorem aaU {E:En} {r:Ren} {h:Array Obj} {xs ys:List W} {us:List Value} (hs:iA (r.Ct xs) ys=true) (hv:cw E h ys us):cw E h (r.Ct xs) us:=by
 grind [fK]
def rT (r:Ren):List (W×W×Nat)->List (W×W×Nat)->Bool
 |[],[]=>true
 |(k,v,_)::xs,(k',v',_)::ys=>match eL (r.av k) k' with
  |true=>match eL (r.av v) v' with
   |true=>rT r xs ys
   |false=>false
  |false=>false
 |_,_=>false
def JG (n:Nat):List (W×W×Nat)->Bool
 |[]=>true
 |(k,v,_)::xs=>lB n k&&lB n v&&JG n xs
def KZ (n:Nat):List (V×List W)->Bool
 |[]=>true
 |(_,cs)::l=>od n cs&&KZ n l
def my (r:Ren):List (V×List W)->List (V×List W)->Bool
 |[],[]=>true
 |(i,a)::x,(j,b)::y=>eT (r.se i) j&&iA (r.Ct a) b&&my r x y
 |_,_=>false
def LR (n:Nat):List (V×W)->Bool
 |[]=>true
 |(_,v)::l=>lB n v&&LR n l
def mz (r:Ren):List (V×W)->List (V×W)->Bool
 |[],[]=>true
 |(i,a)::x,(j,b)::y=>eT (r.se i) j&&eL (r.av a) b&&mz r x y
 |_,_=>false
def K1 (n:Nat):dP->Bool
 | .ur _ _ _ ov=>LR n ov
 | .vec _ _ _ ov=>KZ n ov
 | .cells cs _=>od n cs
 | .map es _=>JG n es
 | .j4 _ _=>true
 | .jt _ _ _ _=>false
 | .jT _ _=>true
def ec (r:Ren) (k:Nat):dP->dP->Bool
 | .cells cs e,.cells ds f=>match Nat.beq e f with
   |true=>match eE k ds with
    |some ds=>iA (r.Ct cs) ds
    |none=>false
   |false=>false
 | .map es k,.map fs _=>rT r es fs&&Nat.beq k 0
 | .j4 s p,.j4 t q=>gC s t&&Nat.beq p q&&Nat.beq k 0
 | .jT e t,.jT e' t'=>eT (r.se e) e'&&Nat.beq t t'&&Nat.beq k 0
 | .ur e t eY ov,.ur e' t' agQ iP=>eT (r.se e) e'&&Nat.beq t t'&&decide (eY=agQ)&&mz r ov iP&&Nat.beq k 0
 | .vec e t ty ov,.vec e' t' VE iP=>eT (r.se e) e'&&Nat.beq t t'&&Nat.beq ty VE&&my r ov iP&&Nat.beq k 0
 |_,_=>false
theorem eK.gL {E:En} {r:Ren} {h:Array Obj} (Y:r.ns.length<=900): ∀{xs ys:List (W×W×Nat)} {es:List MapEntry},JG r.bl.length xs=true->rT r xs ys=true->eK E h ys es->eK (E.gL r) h xs es
 |[],[],es,_,_,h=>by simp only [eK] at *; exact h
 |[],_::_,_,_,hs,_=>by simp [rT] at hs
 |(_,_,_)::_,[],_,_,hs,_=>by simp [rT] at hs
 |(k,v,b)::xs,(k',v',b')::ys,es,hi,hs,h=>by
  simp only [JG,an] at hi;simp only [rT] at hs;simp only [eK] at *;obtain⟨e,rr,rfl,U,Z,_,h4⟩:=h;split at hs
  ·rename_i e1;split at hs
   ·rename_i e2;refine⟨e,rr,rfl,VR.gL Y k _ hi.1.1 (by rw [jF _ _ e1]; exact U),VR.gL Y v _ hi.1.2 (by rw [jF _ _ e2]; exact Z),trivial,eK.gL Y hi.2 hs h4⟩
   grind
  grind
theorem qd {r:Ren}: ∀xs:List W,(r.Ct xs).length=xs.length
 |[]=>rfl
 |_::xs=>by simp [Ren.Ct,qd xs]
theorem GC {r:Ren} (Y:r.ns.length<=900) {ρ:Nat->Int} {i:Nat}: ∀{ov iP:List (V×List W)},my r ov iP=true->dY ρ i iP=(dY (r.env ρ) i ov).map r.Ct
 |[],[],_=>rfl
 |[],_::_,h=>by simp [my] at h
 |_::_,[],h=>by simp [my] at h
 |(j,a)::x,(k,b)::y,h=>by
  simp only [my,an] at h;have U:=cH _ _ h.1.1;have Z:=fK _ _ h.1.2;simp only [dY];rw [<- U,Ren.ej Y,<- Z,GC Y h.2]
  grind
theorem GA {n:Nat}: ∀{ov:List (V×List W)},KZ n ov=true->∀p∈ov,od n p.2=true
 |[],_,p,hp=>by simp at hp
 |(j,a)::x,h,p,hp=>by
  simp only [KZ,an] at h;rcases aw.1 hp with rfl|hp
  ·grind
  ·exact GA h.2 p hp
theorem tK {E:En} {r:Ren} {h:Array Obj} (Y:r.ns.length<=900) {row:Row} {ov iP:List (V×List W)} (hs:my r ov iP=true) (hi:KZ r.bl.length ov=true): ∀(ds:List D) (i:Nat) {us:List Value},
 cw E h (bD E.ρ row iP ds i) us->cw (E.gL r) h (bD (E.gL r).ρ row ov ds i) us
 |[],_,us,hv=>by simp only [bD,cw] at *; exact hv
 |d::ds,i,us,hv=>by
  simp only [bD] at *;obtain⟨a,b,rfl,U,Z⟩:=hv.split;refine cw.append ?_ (tK Y hs hi ds (i+1) Z);rw [GC Y hs] at U;show cw (E.gL r) h (match dY (r.env E.ρ) i ov with |some cs=>cs|none=>gz row (.eg d)) a
  cases ho:dY (r.env E.ρ) i ov with
  |none=> rw [ho] at U;simp only [Option.map_none] at U;exact (fy (E:=E.gL r)).2 (show uD E.ro h row (dec (enc d)) a from (fy (E:=E)).1 U)
  |some cs=> rw [ho] at U;simp only [bq] at U;obtain⟨p,p1,p2,_⟩:=kJ ho;exact cw.gL Y cs a (by rw [<- p2]; exact GA hi p p1) U
theorem DA {r:Ren} {row:Row}: ∀{ov iP:List (V×List W)},my r ov iP=true->sU row iP->sU row ov
 |[],[],_,h=>h
 |[],_::_,h,_=>by simp [my] at h
 |_::_,[],h,_=>by simp [my] at h
 |(j,a)::x,(k,b)::y,h,ho=>by
  simp only [my,an] at h;intro p hp;rcases aw.1 hp with rfl|hp
  ·have:=congrArg List.length (fK _ _ h.1.2);rw [qd] at this;simp only;rw [this];exact ho (k,b) ad
  ·exact DA h.2 (fun q hq=>ho q (by simp [hq])) p hp
theorem P9 {r:Ren} (Y:r.ns.length<=900) {ρ:Nat->Int} {n:Int}: ∀{ov iP:List (V×W)},mz r ov iP=true->lJ ρ n iP=(lJ (r.env ρ) n ov).map r.av
 |[],[],_=>rfl
 |[],_::_,h=>by simp [mz] at h
 |_::_,[],h=>by simp [mz] at h
 |(j,a)::x,(k,b)::y,h=>by simp only [mz,an] at h;have U:=cH _ _ h.1.1;have Z:=jF _ _ h.1.2;simp only [lJ];rw [<- U,Ren.ej Y,<- Z,P9 Y h.2];split<;>simp
theorem yL {r:Ren} (Y:r.ns.length<=900) {ρ:Nat->Int}: ∀{ov iP:List (V×W)},mz r ov iP=true->(ov.map fun p=>p.1.den (r.env ρ))=iP.map fun p=>p.1.den ρ
 |[],[],_=>rfl
 |[],_::_,h=>by simp [mz] at h
 |_::_,[],h=>by simp [mz] at h
 |(j,a)::x,(k,b)::y,h=>by simp only [mz,an] at h;have U:=cH _ _ h.1.1;simp only [ax];rw [<- U,Ren.ej Y,yL Y h.2]
theorem Ap.congr {ρ ρ':Nat->Int} {ds:List D} {ov iP:List (V×W)} (h:Ap ρ ds ov) (hk:(iP.map fun p=>p.1.den ρ')=ov.map fun p=>p.1.den ρ):Ap ρ' ds iP:=by refine⟨h.1,fun p hp=>?_,by rw [hk]; exact h.2.2⟩;have:p.1.den ρ'∈iP.map fun p=>p.1.den ρ':=aK.2 ⟨p,hp,rfl⟩;rw [hk] at this;obtain⟨q,hq,he⟩:=aK.1 this;rw [<- he];exact h.2.1 q hq
theorem Hh {n:Nat} {ρ:Nat->Int} {m:Int} {v:W}: ∀{ov:List (V×W)},LR n ov=true->lJ ρ m ov=some v->lB n v=true
 |[],_,h=>by simp [lJ] at h
 |(_,u)::l,hi,h=>by
  simp only [LR,an] at hi;simp only [lJ] at h;split at h
  ·simp only [ag] at h; subst h; exact hi.1
  ·exact Hh hi.2 h
theorem oU.gL {E:En} {r:Ren} {h:Array Obj} (Y:r.ns.length<=900) {B:Nat} {key:D} {j ty:Nat} {c:FC} {d:D} {u:Value} (ho:oU E h B key j ty c d u):oU (E.gL r) h B key j ty c d u:=by
 cases c with
 |ck c=>exact ho
 |mp t=>exact ho
 |own t=>
  rcases ho with ho|⟨b,o,n,cap,a,arr,lo,hi,U,Z,h3,h4,h5,h6,h7⟩
  ·exact .inl ho
  ·refine .inr ⟨b,o,n,cap,a,arr,lo,hi,U,Z,h3,h4,h5,h6,?_⟩;rcases h7 with h7|⟨g1,g2,us,g3,g4⟩
   ·exact .inl h7
   ·exact .inr ⟨g1,g2,us,tK Y (ov:=[]) (iP:=[]) rfl rfl _ _ g3,g4⟩
theorem qg.gL {E:En} {r:Ren} {h:Array Obj} (Y:r.ns.length<=900) {B t:Nat} {eY:List Nat} {key d:D} {v:Value} (ho:qg E h B t eY key d v):qg (E.gL r) h B t eY key d v:=by
 unfold qg at *;split at ho
 ·obtain⟨c,U,Z⟩:=ho;exact⟨c,U,Z.gL Y⟩
 ·obtain⟨b,o,arr,lo,hi,U,Z,h3,h4,h5,h6⟩:=ho;refine⟨b,o,arr,lo,hi,U,Z,h3,h4,h5,fun j c hc=>?_⟩;obtain⟨u,g1,g2,g3⟩:=h6 j c hc;exact⟨u,g1,g2,g3.gL Y⟩
theorem eP.gL {E:En} {r:Ren} {h:Array Obj} (Y:r.ns.length<=900) {B t:Nat} {eY:List Nat} {ov iP:List (V×W)} (hs:mz r ov iP=true) (hi:LR r.bl.length ov=true): ∀{ds:List D} {es:List MapEntry},eP E h B t eY iP ds es->eP (E.gL r) h B t eY ov ds es
 |[],_,ho=>ho
 |d::ds,_,⟨e,rr,n,U,Z,h3,h4,h5⟩=>by
  refine⟨e,rr,n,U,Z,h3,?_,eP.gL Y hs hi h5⟩;have he:=P9 Y (ρ:=E.ρ) (n:=n) hs
  show match lJ (r.env E.ρ) n ov with |some v=>VR (E.gL r) h v e.val|none=>qg (E.gL r) h B t eY (.i n) (FW d) e.val
  cases hv:lJ (r.env E.ρ) n ov with
  |none=> rw [hv] at he;rw [he] at h4;exact h4.gL Y
  |some v=> rw [hv] at he;rw [he] at h4;exact VR.gL Y v _ (Hh hi hv) h4
theorem OR.gL {E:En} {r:Ren} {h:Array Obj} (Y:r.ns.length<=900) {id:Nat} {o o':dP} (hi:K1 r.bl.length o=true) (hs:ec r (r.uz id) o o'=true) (ho:OR E h (r.id id) o'):OR (E.gL r) h id o:=by
 cases o with
 |cells cs e=>
  cases o' with
  |jt _ _ _ _=>simp [ec] at hs
  |cells ds f=>
   simp only [ec] at hs;simp only [K1] at hi;split at hs
   ·rename_i he;have he:=aq he;subst he;split at hs
    ·rename_i ds' FQ;simp only [OR] at *;obtain⟨arr,lo,hi',us,U,Z,h3,h4,h5,h6,h7⟩:=ho;obtain⟨g1,g2,g3⟩:=Z.eE FQ;have hlen:=congrArg List.length (fK _ _ hs);rw [qd] at hlen;refine⟨arr,lo,hi',us.drop (r.uz id),U,cw.gL Y cs _ hi (aaU hs g1),fun i u hu=>?_,?_,?_,h6,fun u hu=>h7 u (bw hu)⟩
     ·rw [am4] at hu;have:=h3 _ u hu;show arr[(E.θ (r.id id)).2+r.uz id+i]?=some u
      grind
     ·show cs.length<=E.κ (r.id id)-r.uz id;omega
     ·show (E.θ (r.id id)).2+r.uz id+(E.κ (r.id id)-r.uz id)=arr.size;omega
    grind
   grind
  |map _ _=>simp [ec] at hs
  |j4 _ _=>simp [ec] at hs
  |vec _ _ _ _=>simp [ec] at hs
  |jT _ _=>simp [ec] at hs
  |ur _ _ _ _=>simp [ec] at hs
 |map es c=>
  cases o' with
  |jt _ _ _ _=>simp [ec] at hs
  |map fs d=> simp only [ec] at hs;simp only [K1] at hi;simp only [OR] at *;obtain⟨bJ,c',U,Z,_⟩:=ho;simp only [an] at hs;have hz:=aq hs.2;exact⟨bJ,c',U,eK.gL Y hi hs.1 Z,by rw [hz]; trivial⟩
  |cells _ _=>simp [ec] at hs
  |j4 _ _=>simp [ec] at hs
  |vec _ _ _ _=>simp [ec] at hs
  |jT _ _=>simp [ec] at hs
  |ur _ _ _ _=>simp [ec] at hs
 |jt _ _ _ _=>simp [K1] at hi
 |j4 s p=>
  cases o' with
  |jt _ _ _ _=>simp [ec] at hs
  |j4 t q=> simp_all [ec,kr,OR,En.gL]
  |cells _ _=>simp [ec] at hs
  |map _ _=>simp [ec] at hs
  |vec _ _ _ _=>simp [ec] at hs
  |jT _ _=>simp [ec] at hs
  |ur _ _ _ _=>simp [ec] at hs
 |jT e t=>
  cases o' with
  |jt _ _ _ _=>simp [ec] at hs
  |cells _ _=>simp [ec] at hs
  |map _ _=>simp [ec] at hs
  |j4 _ _=>simp [ec] at hs
  |vec _ _ _ _=>simp [ec] at hs
  |ur _ _ _ _=>simp [ec] at hs
  |jT e' t'=> simp only [ec,an] at hs;have U:=cH _ _ hs.1.1;have Z:=aq hs.1.2;subst U Z;simp only [OR] at *;have pG:e.den (E.gL r).ρ=(r.se e).den E.ρ:=(Ren.ej Y E.ρ e).symm;rw [pG];exact ho
 |vec e t ty ov=>
  cases o' with
  |jt _ _ _ _=>simp [ec] at hs
  |cells _ _=>simp [ec] at hs
  |map _ _=>simp [ec] at hs
  |j4 _ _=>simp [ec] at hs
  |jT _ _=>simp [ec] at hs
  |ur _ _ _ _=>simp [ec] at hs
  |vec e' t' VE iP=>
   simp only [ec,an] at hs;simp only [K1] at hi;have U:=cH _ _ hs.1.1.1.1;have Z:=aq hs.1.1.1.2;have h3:=aq hs.1.1.2;have h4:=aq hs.2;have qH:=hs.1.2;subst U Z h3;simp only [OR] at *;obtain⟨h0,arr,lo,hi',us,q1,q2,q3,q4,q5,q6,q7⟩:=ho;have oP:=DA qH h0.1;have pG:e.den (E.gL r).ρ=(r.se e).den E.ρ:=(Ren.ej Y E.ρ e).symm;rw [pG];refine⟨⟨oP,h0.2⟩,arr,lo,hi',us,q1,tK Y qH hi _ _ q2,?_,?_,?_,q6,q7⟩
   ·intro i u hu;show arr[(E.θ (r.id id)).2+r.uz id+i]?=some u
    grind
   ·show _<=E.κ (r.id id)-r.uz id
    grind [cF]
   ·show (E.θ (r.id id)).2+r.uz id+(E.κ (r.id id)-r.uz id)=arr.size
    grind
 |ur e t eY ov=>
  cases o' with
  |jt _ _ _ _=>simp [ec] at hs
  |cells _ _=>simp [ec] at hs
  |map _ _=>simp [ec] at hs
  |j4 _ _=>simp [ec] at hs
  |jT _ _=>simp [ec] at hs
  |vec _ _ _ _=>simp [ec] at hs
  |ur e' t' agQ iP=> simp only [ec,an,decide_eq_true_eq] at hs;simp only [K1] at hi;have U:=cH _ _ hs.1.1.1.1;have Z:=aq hs.1.1.1.2;have h3:=hs.1.1.2;have qH:=hs.1.2;subst U Z h3;simp only [OR] at *;obtain⟨n0,bJ,c',g1,g2⟩:=ho;have pG:e.den (E.gL r).ρ=(r.se e).den E.ρ:=(Ren.ej Y E.ρ e).symm;rw [pG];exact⟨n0.congr (yL Y qH),bJ,c',g1,eP.gL Y qH hi g2⟩
end
end Go.As
end
section
namespace Go.As
noncomputable section
open Go.RowKit
structure CS where
 k:Nat
 bE:List (Nat×W)
 dz:List dP
 pc:List (SB×Bool)
 m:V
def nv:List (Nat×W)->Tr W->Tr W
 |[],t=>t
 |(i,v)::l,t=>nv l (t.put i (some v))
def oa:List dP->Nat->Tr dP->Tr dP
 |[],_,t=>t
 |o::os,i,t=>oa os (i+1) (t.put i (some o))
def CS.st (c:CS):St:=⟨nv c.bE .nil,⟨oa c.dz 0 .nil,c.dz.length,none⟩,c.pc⟩
structure Gs where
 ns:Tr V
 bl:Tr (Nat×Nat)
def Gs.num (g:Gs) (i:Nat) (e:V):Gs:=match g.ns.get i with
 |some _=>g
 |none=> ⟨g.ns.put i (some e),g.bl⟩
def Gs.kE (g:Gs) (i j k:Nat):Gs:=match g.bl.get i with
 |some _=>g
 |none=> ⟨g.ns,g.bl.put i (some (j,k))⟩
def yb (x y:V) (g:Gs):Gs:=match x with
 | .dH i=>g.num i y
 |_=>g
def ajo:SB->SB->Gs->Gs
 | .not a,.not b,g=>ajo a b g
 | .eq a b,.eq c d,g=>yb b d (yb a c g)
 |_,_,g=>g
mutual
def T9:W->W->Gs->Gs
 | .bool a,.bool b,g=>ajo a b g
 | .int _ e,.int _ f,g=>yb e f g
 | .ptr i o,.ptr j p,g=>g.kE i j (p-o)
 | .slice i o _ _,.slice j p _ _,g=>g.kE i j (p-o)
 | .map i,.map j,g=>g.kE i j 0
 | .agg a,.agg b,g=>zC a b g
 | .tuple a,.tuple b,g=>zC a b g
 | .iface _ a,.iface _ b,g=>T9 a b g
 | .func _ a b,.func _ c d,g=>zC b d (zC a c g)
 | .mJ a,.mJ b,g=>zC a b g
 | .ro a _ _,.ro b _ _,g=>zC a b g
 | .eg a _,.eg b _,g=>yb a b g
 | .jD a,.jD b,g=>yb a b g
 | .oq i a _,.oq j b _,g=>(yb a b g).kE i j 0
 | .yu i _ a _,.yu j _ b _,g=>(yb a b g).kE i j 0
 | .w4 a _,.w4 b _,g=>yb a b g
 | .sD i l a _,.sD j k b _,g=>(yb l k (yb a b g)).kE i j 0
 |_,_,g=>g
def zC:List W->List W->Gs->Gs
 |x::xs,y::ys,g=>zC xs ys (T9 x y g)
 |_,_,g=>g
end
def Ym:List (W×W×Nat)->List (W×W×Nat)->Gs->Gs
 |(k,v,_)::xs,(k',v',_)::ys,g=>Ym xs ys (T9 v v' (T9 k k' g))
 |_,_,g=>g
def ab2:List (V×List W)->List (V×List W)->Gs->Gs
 |(i,a)::x,(j,b)::y,g=>ab2 x y (zC a b (yb i j g))
 |_,_,g=>g
def ab3:List (V×W)->List (V×W)->Gs->Gs
 |(i,a)::x,(j,b)::y,g=>ab3 x y (T9 a b (yb i j g))
 |_,_,g=>g
def alL (k:Nat) (o o':dP) (g:Gs):Gs:=match o,o' with
 | .cells a _,.cells b _=>match eE k b with
   |some b=>zC a b g
   |none=>g
 | .map a _,.map b _=>Ym a b g
 | .vec a _ _ ov,.vec b _ _ iP=>ab2 ov iP (yb a b g)
 | .jT a _,.jT b _=>yb a b g
 | .ur a _ _ ov,.ur b _ _ iP=>ab3 ov iP (yb a b g)
 |_,_=>g
def CX (s:Tr W):List (Nat×W)->Gs->Gs
 |[],g=>g
 |(t,v)::l,g=>match s.get t with
  |some v'=>CX s l (T9 v v' g)
  |none=>CX s l g
def A9 (h:Hp):List dP->Nat->Gs->Gs
 |[],_,g=>g
 |o::os,i,g=>match g.bl.get i with
  |some (j,k)=>match h.get j with
   |some o'=>A9 h os (i+1) (alL k o o' g)
   |none=>A9 h os (i+1) g
  |none=>A9 h os (i+1) g
def xS (g:Tr V):Nat->Nat->List V
 |0,_=>[]
 |n+1,i=>match g.get i with
  |some e=>e::xS g n (i+1)
  |none=> .lit 0::xS g n (i+1)
def IN (g:Tr (Nat×Nat)):Nat->Nat->List Nat
 |0,_=>[]
 |n+1,i=>match g.get i with
  |some (e,_)=>e::IN g n (i+1)
  |none=>0::IN g n (i+1)
def IM (g:Tr (Nat×Nat)):Nat->Nat->List Nat
 |0,_=>[]
 |n+1,i=>match g.get i with
  |some (_,e)=>e::IM g n (i+1)
  |none=>0::IM g n (i+1)
def CS.kV (c:CS) (s:St):Ren:=match A9 s.h c.dz 0 (CX s.bE c.bE ⟨.nil,.nil⟩) with
 |⟨ns,bl⟩=> ⟨xS ns c.k 0,IN bl c.dz.length 0,IM bl c.dz.length 0⟩
def QB (i:Nat):List Nat->Bool
 |[]=>true
 |j::l=>match Nat.beq i j with
  |true=>false
  |false=>QB i l
def wL:List Nat->Bool
 |[]=>true
 |i::l=>QB i l&&wL l
def CD (r:Ren) (n:Nat) (s:Tr W):List (Nat×W)->Bool
 |[]=>true
 |(t,v)::l=>match s.get t with
  |some v'=>lB n v&&eL (r.av v) v'&&CD r n s l
  |none=>false
def AR (r:Ren) (n:Nat) (h:Hp):List dP->Nat->Bool
 |[],_=>true
 |o::os,i=>match h.get (r.id i) with
  |some o'=>K1 n o&&ec r (r.uz i) o o'&&AR r n h os (i+1)
  |none=>false
def My (pc:List (SB×Bool)) (e:V):Option Int×Option Int:=match e with
 | .lit z=>(some z,some z)
 |e=>bounds e pc
def Ri (a b:Int):Bool:=decide (-9223372036854775808<=a)&&decide (b<=9223372036854775807)
def Fl (pc:List (SB×Bool)) (e:V):Option Int×Option Int:=match e with
 | .wrap .i64 (.add a b)=>match My pc a,My pc b with
   |(some la,some ha),(some lb,some hb)=>if Ri (la+lb) (ha+hb) then (some (la+lb),some (ha+hb)) else bounds e pc
   |_,_=>bounds e pc
 | .wrap .i64 (.sub a b)=>match My pc a,My pc b with
   |(some la,some ha),(some lb,some hb)=>if Ri (la-hb) (ha-lb) then (some (la-hb),some (ha-lb)) else bounds e pc
   |_,_=>bounds e pc
 |e=>My pc e
def Fo (a b:Option Int):Bool:=match a,b with
 |some x,some y=>decide (x<y)
 |_,_=>false
def JZ (a b:Option Int):Bool:=match a,b with
 |some x,some y=>decide (x<=y)
 |_,_=>false
def t! (pc:List (SB×Bool)) (c:SB) (v:Bool):Bool:=
 match jR pc c with
 |some b=>b == v
 |none=>match c with
  | .lt a b=>match v with
    |true=>Fo (Fl pc a).2 (Fl pc b).1
    |false=>JZ (Fl pc b).2 (Fl pc a).1
  | .eq a b=>match v with
    |true=>false
    |false=>Fo (Fl pc a).2 (Fl pc b).1||Fo (Fl pc b).2 (Fl pc a).1
  |_=>false
def C0 (pv:List (SB×Bool)->SB->Bool->Bool) (r:Ren) (pc:List (SB×Bool)):List (SB×Bool)->Bool
 |[]=>true
 |(c,v)::l=>pv pc (r.sb c) v&&C0 pv r pc l
def CS.fits (pv:List (SB×Bool)->SB->Bool->Bool) (c:CS) (s:St) (r:Ren):Bool:=
 Nat.ble r.ns.length 900&&Nat.beq r.bl.length c.dz.length&&wL r.bl&&CD r c.dz.length s.bE c.bE&&AR r c.dz.length s.h c.dz 0&&C0 pv r s.pc c.pc
theorem uP: ∀{l:List (Nat×W)} {t:Tr W} {i:Nat} {v:W},(nv l t).get i=some v->(i,v)∈l\/t.get i=some v
 |[],t,i,v,h=> .inr h
 |(j,x)::l,t,i,v,h=>by
  simp only [nv] at h;rcases uP h with h|h
  all_goals grind [Tr.bP]
theorem jg: ∀{l:List dP} {i:Nat} {t:Tr dP} {j:Nat},(oa l i t).get j=if i<=j/\j<i+l.length then l[j-i]? else t.get j
 |[],i,t,j=>by rw [af ad];rfl
 |o::os,i,t,j=>by
  simp only [oa];rw [jg,Tr.bP]
  grind
theorem K4 {i:Nat}: ∀{l:List Nat},QB i l=true->i∉l
 |[],_=>by simp
 |j::l,h=>by
  simp only [QB] at h;split at h
  ·grind
  ·rename_i hb;have:=anD hb;simp [this,K4 h]
theorem oR: ∀{l:List Nat},wL l=true->∀{i j x:Nat},eX l i=some x->eX l j=some x->i=j
 |[],_,i,_,_,h,_=>by simp [eX] at h
 |y::l,hd,i,j,x,U,Z=>by
  simp only [wL,an] at hd;have hn:=K4 hd.1
  have hm: ∀{i:Nat} {l:List Nat} {x:Nat},eX l i=some x->x∈l:=by
   intro i l x h
   grind [dg]
  cases i with
  |zero=>
   cases j with
   |zero=>rfl
   |succ j=>
    grind [eX]
  |succ i=>
   cases j with
   |zero=>
    grind [eX]
   |succ j=> simp only [eX] at U Z;rw [oR hd.2 U Z]
theorem BB {r:Ren} {n:Nat} {s:Tr W}: ∀{l:List (Nat×W)},CD r n s l=true->∀{t:Nat} {v:W},(t,v)∈l->∃v',s.get t=some v'/\lB n v=true/\r.av v=v'
 |[],_,_,_,h=>by simp at h
 |(t0,v0)::l,hs,t,v,h=>by
  simp only [CD] at hs;split at hs
  ·rename_i v' hv;simp only [an] at hs;rcases aw.1 h with h|h
   ·grind [jF]
   ·exact BB hs.2 h
  grind
theorem iM {r:Ren} {n:Nat} {h:Hp}: ∀{l:List dP} {i:Nat},AR r n h l i=true->∀{j:Nat} {o:dP},l[j]?=some o->∃o',h.get (r.id (i+j))=some o'/\K1 n o=true/\ec r (r.uz (i+j)) o o'=true
 |[],_,_,_,_,h=>by simp at h
 |o0::os,i,hs,j,o,hj=>by
  simp only [AR] at hs;split at hs
  ·rename_i o' ho;simp only [an] at hs
   cases j with
   |zero=>
    grind
   |succ j=>
    have:=iM hs.2 (j:=j) (by simpa using hj)
    grind
  grind
def p! (pv:List (SB×Bool)->SB->Bool->Bool):Prop:= ∀(ρ:Nat->Int) (pc:List (SB×Bool)) (c:SB) (v:Bool),bT ρ pc->pv pc c v=true->c.den ρ=v
theorem Al {ρ:Nat->Int} {pc:List (SB×Bool)} (hp:bT ρ pc) (e:V):rC (My pc e).1 (My pc e).2 (e.den ρ):=by
 unfold My
 grind [rC,V.den,lV]
theorem Ec {a b x:Int} (h:Ri a b=true) (U:a<=x) (Z:x<=b):IntKind.i64.wrap x=x:=by
 simp only [Ri,an,decide_eq_true_eq] at h;rw [<- kq]
 grind [sj]
theorem Sv {ρ:Nat->Int} {pc:List (SB×Bool)} (hp:bT ρ pc) (e:V):rC (Fl pc e).1 (Fl pc e).2 (e.den ρ):=by
 unfold Fl;split
 ·rename_i a b;have ha:=Al hp a;have hb:=Al hp b;split
  ·rename_i la ha' lb El e1 e2;rw [e1] at ha;rw [e2] at hb;have a1:=ha.1 la rfl;have a2:=ha.2 ha' rfl;have b1:=hb.1 lb rfl;have b2:=hb.2 El rfl;split
   ·rename_i hi;simp only [V.den];rw [Ec hi J J];constructor<;>intro l Y<;>simp at Y<;>omega
   ·exact lV hp
  ·exact lV hp
 ·rename_i a b;have ha:=Al hp a;have hb:=Al hp b;split
  ·rename_i la ha' lb El e1 e2;rw [e1] at ha;rw [e2] at hb;have a1:=ha.1 la rfl;have a2:=ha.2 ha' rfl;have b1:=hb.1 lb rfl;have b2:=hb.2 El rfl;split
   ·rename_i hi;simp only [V.den];rw [Ec hi J J];constructor<;>intro l Y<;>simp at Y<;>omega
   ·exact lV hp
  ·exact lV hp
 grind [Al]
theorem Bp {a b:Option Int} {x y:Int} (h:Fo a b=true) (U: ∀z,a=some z->x<=z) (Z: ∀z,b=some z->z<=y):x<y:=by
 unfold Fo at h
 grind
theorem Pl {a b:Option Int} {x y:Int} (h:JZ a b=true) (U: ∀z,a=some z->x<=z) (Z: ∀z,b=some z->z<=y):x<=y:=by
 unfold JZ at h
 grind
theorem NP:p! t!:=by
 intro ρ pc c v hp h;unfold t! at h;split at h
 ·rename_i b hb
  grind [gD]
 ·split at h
  ·have ha:=fun a=>Sv hp a;split at h
   ·have:=Bp h (ha _).2 (ha _).1
    grind [SB.den]
   ·have:=Pl h (ha _).2 (ha _).1
    grind [SB.den]
  ·have ha:=fun a=>Sv hp a;split at h
   ·grind
   ·simp only [ane] at h;simp only [SB.den,beq_eq_false_iff_ne,ne_eq];rcases h with h|h
    ·have:=Bp h (ha _).2 (ha _).1;omega
    ·have:=Bp h (ha _).2 (ha _).1;omega
  grind
theorem EC {pv:List (SB×Bool)->SB->Bool->Bool} (hpv:p! pv) {r:Ren} (Y:r.ns.length<=900) {ρ:Nat->Int} {pc:List (SB×Bool)} (hp:bT ρ pc): ∀{l:List (SB×Bool)},C0 pv r pc l=true->bT (r.env ρ) l
 |[],_=>by intro c b h; simp at h
 |(c0,v0)::l,h=>by
  simp only [C0,an] at h;intro c b hm;rcases aw.1 hm with hm|hm
  ·simp only [ak] at hm;obtain⟨rfl,rfl⟩:=hm;rw [<- Ren.AJ Y];exact hpv ρ pc _ _ hp h.1
  ·exact EC hpv Y hp h.2 c b hm
theorem zJ [bG] {pv:List (SB×Bool)->SB->Bool->Bool} (hpv:p! pv) {E:En} {c:CS} {s:St} {r:Ren} {a:Act} {w:World} (f:Fit E s a w) (h:c.fits pv s r=true):r.ns.length<=900/\Fit (E.gL r) c.st a w/\
 ∀id o,c.st.h.get id=some o->∃o',s.h.get (r.id id)=some o':=by
 unfold CS.fits at h;simp only [an] at h;obtain⟨⟨⟨⟨⟨U,Z⟩,h3⟩,h4⟩,h5⟩,h6⟩:=h;have Y:=amU U;have hn:=aq Z
 have vi: ∀id o,c.st.h.get id=some o->c.dz[id]?=some o:=by
  intro id o ho;have:(oa c.dz 0 .nil).get id=some o:=ho
  grind [jg,Tr.get]
 refine⟨Y,⟨⟨?_,?_,?_,?_,f.rel.qC,bG.gL f.rel.iX fun i hi=>Ren.lD Y hi,?_⟩,?_,EC hpv Y f.pc h6⟩,?_⟩
 ·intro id hid hd;have:id<r.bl.length:=hd.1;have hid:c.dz.length<=id:=hid;omega
 ·intro x hx
  grind [CS.st]
 ·intro id o ho;obtain⟨o',g1,g2,g3⟩:=iM h5 (vi id o ho);rw [ay] at g1 g3;obtain⟨q1,q2,q3⟩:=f.rel.live _ _ g1;have fD:=(aW.1 (vi id o ho)).1;exact⟨⟨J,q1⟩,OR.gL Y (by rw [hn]; exact g2) g3 q2,q3⟩
 ·intro id Ob o o' ho wB he;obtain⟨p,g1,_⟩:=iM h5 (vi id o ho);obtain⟨p',g1',_⟩:=iM h5 (vi Ob o' wB);rw [ay] at g1 g1';have heq:=f.rel.inj _ _ _ _ g1 g1' he;have fD:=(aW.1 (vi id o ho)).1;have aeP:=(aW.1 (vi Ob o' wB)).1;unfold Ren.id at heq
  cases e1:eX r.bl id with
  |none=>rw [dg,anH] at e1; omega
  |some x=>
   cases e2:eX r.bl Ob with
   |none=>rw [dg,anH] at e2; omega
   |some y=> rw [e1,e2] at heq;simp only at heq;subst heq;exact oR h3 e1 e2
 ·intro b x hb;obtain⟨q1,q2,q3⟩:=f.rel.hid b x hb;refine⟨q1,q2,fun id o ho=>?_⟩;obtain⟨o',g1,_⟩:=iM h5 (vi id o ho);rw [ay] at g1;exact q3 _ o' g1
 ·intro t v ht;have:(nv c.bE .nil).get t=some v:=ht;rcases uP this with h|h
  ·obtain⟨v',g1,g2,g3⟩:=BB h4 h;obtain⟨u,q1,q2⟩:=f.sr t v' g1
   grind [VR.gL]
  grind [Tr.get]
 grind [iM]
end
end Go.As
end
section
namespace Go.As
noncomputable section
open Go.RowKit
structure r! where
 w0:World
 ro:Nat->Prop
 ρ0:Nat->Int
structure Top [bG] (B:r!) (E:En) (s:St) (a:Act) (w:World):Prop where
 fit:Fit E s a w
 hi: ∀i,900<=i->E.ρ i=B.ρ0 i
 ro: ∀b,B.ro b->E.ro b
 below:Below B.w0.heap.size B.w0 w
 own: ∀id o,s.h.get id=some o->B.w0.heap.size<=(E.θ id).1
theorem Top.then [bG] {B:r!} {E:En} {s s':St} {a a':Act} {w w':World} (t:Top B E s a w) (h:mL E s a w s' a' w'): ∃E',Top B E' s' a' w'/\E'.ρ=E.ρ:=by
 obtain⟨_,_,E',st,f'⟩:=h;refine⟨E',⟨f',fun i hi=>by rw [st.ρ]; exact t.hi i hi,fun b hb=>st.ro b (t.ro b hb),?_,?_⟩,st.ρ⟩
 ·refine t.below.trans ⟨st.os,st.tape,st.output,st.size,fun k hk=>?_⟩
  exact st.keep k (amZ hk t.below.size) fun id o ho he=>by have:=t.own id o ho;omega
 ·intro id o ho;rcases aT (E'.θ id).1 w.heap.size with h|h
  ·obtain⟨rG,o0,h0,he⟩:=st.own id o ho h;rw [<- he];exact t.own rG o0 h0
  ·exact bk t.below.size h
theorem Top.fits [bG] {pv:List (SB×Bool)->SB->Bool->Bool} (hpv:p! pv) {B:r!} {E:En} {c:CS} {s:St} {r:Ren} {a:Act} {w:World} (t:Top B E s a w) (h:c.fits pv s r=true):r.ns.length<=900/\Top B (E.gL r) c.st a w:=by
 obtain⟨Y,f,ho⟩:=zJ hpv t.fit h;refine⟨Y,f,fun i hi=>?_,t.ro,t.below,fun id o hid=>?_⟩
 ·show r.env E.ρ i=_;rw [Ren.lD Y hi];exact t.hi i hi
 ·obtain⟨o',h'⟩:=ho id o hid;exact t.own _ _ h'
inductive Fr where
 |seq (p:List Nat) (c:Code)
 |block (id:Nat)
def IS {α:Type}:T α->(α->Bool)->Bool
 | .fail,_=>false
 | .ret a,f=>f a
 | .split _ x y,f=>IS x f&&IS y f
structure Cfg where
 tt:TT
 call:ek
 draw:Nat->List Oper->St->T St
 lf:Nat
 pv:List (SB×Bool)->SB->Bool->Bool
 res:List ResultVar
def Cfg.ev (g:Cfg) (c:Code) (s:St):T (Ex×St):=iY g.tt g.call g.draw g.lf c s
def isTrue:Option (List W)->Bool
 |some [.bool (.lit b)]=>b
 |_=>false
def YH (g:Cfg) (e:Ex) (s:St):Bool:=match e with
 | .exit _=>false
 |_=>isTrue (kQ g.tt s g.res)
def aeh:W->W->Bool
 | .int _ (.lit a),.int _ (.lit b)=>a == b
 | .int _ (.lit _),.int _ _=>false
 | .slice _ _ n _,.slice _ _ m _=>Nat.beq n m
 | .slice _ _ _ _,_=>false
 | .dv,.dv=>true
 | .dv,_=>false
 |_,_=>true
def quick (s:Tr W):List (Nat×W)->Bool
 |[]=>true
 |(t,v)::l=>match s.get t with
  |some v'=>match aeh v v' with
   |true=>quick s l
   |false=>false
  |none=>false
def J4 (pv:List (SB×Bool)->SB->Bool->Bool) (s:St):List CS->Bool
 |[]=>false
 |c::cs=>match quick s.bE c.bE with
  |false=>J4 pv s cs
  |true=>match c.fits pv s (c.kV s) with
   |true=>true
   |false=>J4 pv s cs
abbrev aku:=List Nat->Option (List CS)
mutual
def go (g:Cfg) (fe:aku):Nat->List Nat->Code->List Fr->St->Bool
 |0,_,_,_,_=>false
 |n+1,p,c,fr,s=>match fe p with
  |some cs=>J4 g.pv s cs
  |none=>match c with
   | .seq a b=>go g fe n (0::p) a (.seq (1::p) b::fr) s
   | .block id b=>go g fe n (0::p) b (.block id::fr) s
   |c=>IS (g.ev c s) fun (e,s')=>cont g fe n fr e s'
def cont (g:Cfg) (fe:aku):Nat->List Fr->Ex->St->Bool
 |0,_,_,_=>false
 |n+1,fr,e,s=>match fr with
  |[]=>YH g e s
  | .seq p c::fr=>match e with
    | .normal=>go g fe n p c fr s
    |e=>cont g fe n fr e s
  | .block id::fr=>match e with
    | .exit j=>match Nat.beq j id with
      |true=>cont g fe n fr .normal s
      |false=>cont g fe n fr (.exit j) s
    |e=>cont g fe n fr e s
end
def apart (pc:List (SB×Bool)) (x:V):List V->Bool
 |[]=>true
 |y::l=>match decEq pc x y with
  |some false=>apart pc x l
  |_=>false
structure Hint where
 ts:List (SB×Bool):=[]
 xs:List V:=[]
 n:Nat:=0
section
variable {P:Program} {g:Cfg} {qW:Nat->List Oper->Bool} {N:Nat} {body:Code} {B:r!} {Q:Exit->Act->World->Prop}
structure amm [bG] (P:Program) (g:Cfg) (qW:Nat->List Oper->Bool):Prop where
 tt:eB P g.tt
 call:im P g.call
 draw:vS P qW g.draw
 pv:p! g.pv
theorem Top.pc [bG] {B:r!} {E:En} {s:St} {a:Act} {w:World} {pc:List (SB×Bool)} (t:Top B E s a w) (hp:bT E.ρ pc):Top B E { s with pc:=pc } a w:=
 ⟨⟨t.fit.rel,t.fit.sr,hp⟩,t.hi,t.ro,t.below,t.own⟩
end
end
end Go.As
end
section
namespace Go.As
noncomputable section
def MF (h:Hp) (o:dP):Hp:=⟨h.m.put h.next (some o),h.next+1,h.res⟩
def aah {α:Type} (c:FC) (x:V) (ty:Nat) (s:St) (k:W->St->T α):T α:=match c with
 | .ck c=>k (vJ c x) s
 | .mp t=>k (.map s.h.next) { s with h:=MF s.h (.jT x t) }
 | .own t=>jn s (qB (dO x) (.lit 0)) fun s b=>match b with
   |false=>k (.oq s.h.next (dO x) t) { s with h:=MF s.h (.vec x t ty []) }
   |true=>jn s (qB (mw x) (.eg (.i 3))) fun s b=>match b with
    |true=>k (.slice s.h.next 0 0 (.rest (rowOf t).es)) { s with h:=MF s.h (.cells [] ty) }
    |false=>k (.w4 x t) s
def RN {α:Type} (eY:List Nat) (x:V):List FC->Nat->St->(List W->St->T α)->T α
 |[],_,s,k=>k [] s
 |c::cs,j,s,k=>aah c (iL j x) (eY.getD (j+2) 0) s fun v s=>RN eY x cs (j+1) s fun vs s=>k (v::vs) s
def aan {α:Type} (t:Nat) (eY:List Nat) (x:V) (s:St) (k:W->St->T α):T α:=match (qQ t).ptr with
 |false=>match (qQ t).cs with
  |[c]=>aah c x (eY.getD 1 0) s k
  |_=> .fail
 |true=>RN eY x (qQ t).cs 0 s fun vs s=>k (.ptr s.h.next 0) { s with h:=MF s.h (.cells vs (eY.getD 0 0)) }
def aag {α:Type} (id:Nat) (x:V) (s:St) (k:St->T α):T α:=match s.h.get id with
 |some o=>match o with
  | .ur e t eY ov=>tz x ov s fun r s=>match r with
    |some _=>k s
    |none=>jn s (Ha e (mY x)) fun s b=>match b with
     |true=>k s
     |false=>aan t eY (.op .DX e (mY x)) { s with h:=s.h.drop id } fun v s=>k { s with h:=s.h.put id (.ur e t eY ((x,v)::ov)) }
  |_=>k s
 |none=>k s
def aaW (E:En) (H:Hp) (b:Nat):Prop:=(∃id o,H.get id=some o/\(E.θ id).1=b)\/∃x,E.hd b=some x
structure View [bG] (E:En) (H:Hp) (w:World) (E':En) (H':Hp):Prop where
 rel:bN E' H' w
 kp:fw E w.heap E' w.heap
 rF: ∀b,E'.ro b->E.ro b\/aaW E H b
 hold: ∀b,aaW E' H' b->aaW E H b
theorem View.refl [bG] {E:En} {H:Hp} {w:World} (r:bN E H w):View E H w E H:=
 ⟨r,⟨rfl,fun _ h=>h,fun _ _=>rfl,fun _ _=>rfl,fun _ h=>h,fun _ _=>rfl⟩,fun _ h=> .inl h,fun _ h=>h⟩
theorem View.trans [bG] {E E1 E2:En} {H H1 H2:Hp} {w:World} (a:View E H w E1 H1) (b:View E1 H1 w E2 H2):View E H w E2 H2:=
 ⟨b.rel,⟨b.kp.ρ.trans a.kp.ρ,fun id h=>b.kp.dm id (a.kp.dm id h),fun id h=>(b.kp.θ id (a.kp.dm id h)).trans (a.kp.θ id h),fun id h=>(b.kp.κ id (a.kp.dm id h)).trans (a.kp.κ id h),fun x h=>b.kp.ro x (a.kp.ro x h),fun _ _=>rfl⟩,
  fun x h=>(b.rF x h).elim (a.rF x) fun h=> .inr (a.hold x h),fun x h=>a.hold x (b.hold x h)⟩
theorem fw.trans {E E1 E2:En} {h:Array Obj} (a:fw E h E1 h) (b:fw E1 h E2 h):fw E h E2 h:=
 ⟨b.ρ.trans a.ρ,fun id h=>b.dm id (a.dm id h),fun id h=>(b.θ id (a.dm id h)).trans (a.θ id h),fun id h=>(b.κ id (a.dm id h)).trans (a.κ id h),fun x h=>b.ro x (a.ro x h),fun _ _=>rfl⟩
theorem View.aen [bG] {E E':En} {H H':Hp} {w:World} (r:bN E H w) (s:eS E H w E' H' w) (r':bN E' H' w):View E H w E' H':=by
 refine⟨r',s.keeps r,fun b hb=>?_,fun b hb=>?_⟩
 ·rcases s.rF b hb with h|h|h
  ·exact .inl h
  ·exact .inr (.inl h)
  ·have:=r'.qC b hb;omega
 ·rcases hb with ⟨id,o,U,Z⟩|⟨x,U⟩
  ·obtain⟨rG,o0,g1,g2⟩:=s.own id o U (fm r' U);exact .inl ⟨rG,o0,g1,g2.trans Z⟩
  ·exact .inr ⟨x,by rw [<- s.hd]; exact U⟩
theorem vv (H:Hp) (o:dP) (j:Nat):(MF H o).get j=if j=H.next then some o else H.get j:=by simp [MF,Hp.get,Tr.bP]
def En.MP (E:En) (b o c n:Nat):En:={ E.ext n (b,o) c with hd:=fun q=>if q=b then none else E.hd q }
theorem AH [bG] {E:En} {H:Hp} {w:World} (r:bN E H w) (b o c:Nat):fw E w.heap (E.MP b o c H.next) w.heap:=by have hu: ∀{i:Nat},E.dm i->i≠H.next:=fun h e=>r.fresh _ (au _) (e▸h);exact⟨rfl,fun _ h=> .inr h,fun _ h=>En.ext_θ E H.next (b,o) c (hu h),fun _ h=>En.ext_κ E H.next (b,o) c (hu h),fun _ h=>h,fun _ _=>rfl⟩
theorem Td [bG] {E:En} {H:Hp} {w:World} (r:bN E H w) {b o c:Nat} {x:Nat×D×Nat} (hb:E.hd b=some x) (hx: ∀id o,H.get id=some o->nf o=true\/(E.θ id).1≠x.1) (ao:dP)
 (ho:OR (E.MP b o c H.next) w.heap H.next ao):View E H w (E.MP b o c H.next) (MF H ao):=by
 have hu: ∀{i:Nat},E.dm i->i≠H.next:=fun h e=>r.fresh _ (au _) (e▸h);obtain⟨q1,q2,q3⟩:=r.hid b x hb;have kp:=AH r b o c;have hθ: ∀{i:Nat},E.dm i->(E.MP b o c H.next).θ i=E.θ i:=fun h=>kp.θ _ h;have hθn:(E.MP b o c H.next).θ H.next=(b,o):=En.ext_θ_new E H.next (b,o) c;refine⟨⟨fun id hid hd=>?_,fun q hq=>?_,fun id o2 Z=>?_,fun i j o1 o2 U Z he=>?_,r.qC,r.iX,fun q y hq=>?_⟩,kp,fun _ h=> .inl h,fun q hq=>?_⟩
 ·have hid:H.next+1<=id:=hid;rcases hd with hd|hd
  ·have hd:id=H.next:=hd;omega
  ·exact r.fresh id J hd
 ·obtain⟨g1,g2⟩:=r.res q hq;refine⟨Nat.lt_succ_of_lt g1,?_⟩;rintro (hd|hd)
  ·have hd:q=H.next:=hd;omega
  ·exact g2 hd
 ·rw [vv] at Z;split at Z
  ·rename_i he;simp only [ag] at Z;subst Z he;exact⟨.inl rfl,ho,by rw [hθn]; exact q2⟩
  ·obtain⟨g1,g2,g3⟩:=r.live id o2 Z;refine⟨.inr g1,g2.XK kp g1 rfl ?_,by rw [hθ g1]; exact g3⟩;rcases hx id o2 Z with h|h
   ·exact .inl h
   ·refine .inr fun key q j hq=> ⟨?_,rfl⟩;show (if q=b then none else E.hd q)=_;rw [af]
    ·exact hq
    ·rintro rfl;rw [hb] at hq;simp only [ag] at hq;rw [hq] at h;exact h rfl
 ·rw [vv] at U Z;split at U<;>split at Z
  ·omega
  ·rename_i e1 _;have g:=(r.live j o2 Z).1;rw [e1,hθn,hθ g] at he;exact absurd he.symm (q3 j o2 Z)
  ·rename_i _ e1;have g:=(r.live i o1 U).1;rw [e1,hθn,hθ g] at he;exact absurd he (q3 i o1 U)
  ·rw [hθ (r.live i o1 U).1,hθ (r.live j o2 Z).1] at he;exact r.inj i j o1 o2 U Z he
 ·have hq:(if q=b then none else E.hd q)=some y:=hq;split at hq
  ·simp at hq
  ·rename_i gn;obtain⟨p1,p2,p3⟩:=r.hid q y hq;refine⟨p1,p2,fun id o2 Z=>?_⟩;rw [vv] at Z;split at Z
   ·rename_i he;rw [he,hθn];exact fun e=>gn e.symm
   ·rw [hθ (r.live id o2 Z).1];exact p3 id o2 Z
 ·rcases hq with ⟨id,o2,Z,he⟩|⟨y,hq⟩
  ·rw [vv] at Z;split at Z
   ·rename_i e;rw [e,hθn] at he;have he:b=q:=he;exact .inr ⟨x,by rw [<- he]; exact hb⟩
   ·rw [hθ (r.live id o2 Z).1] at he;exact .inl ⟨id,o2,Z,he⟩
  ·have hq:(if q=b then none else E.hd q)=some y:=hq;split at hq
   ·simp at hq
   ·exact .inr ⟨y,hq⟩
theorem KK [bG] {E:En} {H:Hp} {w:World} (r:bN E H w) {id:Nat} {ao:dP} (hd:E.dm id) (jy: ¬E.ro (E.θ id).1) (gn: ∀j o,H.get j=some o->j≠id/\(E.θ j).1≠(E.θ id).1) (hh: ∀x,E.hd (E.θ id).1≠some x) (ho:OR E w.heap id ao):bN E (H.put id ao) w:=by
 have hg: ∀j o,(H.put id ao).get j=some o->(j=id/\o=ao)\/(j≠id/\H.get j=some o):=by
  intro j o h;rw [Hp.bP] at h;split at h
  ·rename_i e; simp only [ag] at h; exact .inl ⟨e,h.symm⟩
  ·rename_i e; exact .inr ⟨e,h⟩
 refine⟨r.fresh,r.res,fun j o h=>?_,fun i j o1 o2 U Z he=>?_,r.qC,r.iX,fun q y hq=>?_⟩
 ·rcases hg j o h with ⟨rfl,rfl⟩|⟨_,h⟩
  ·exact⟨hd,ho,jy⟩
  ·exact r.live j o h
 ·rcases hg i o1 U with ⟨e1,_⟩|⟨e1,g1⟩ <;>rcases hg j o2 Z with ⟨e2,_⟩|⟨e2,g2⟩
  ·omega
  ·rw [e1] at he;exact absurd he.symm (gn j o2 g2).2
  ·rw [e2] at he;exact absurd he (gn i o1 g1).2
  ·exact r.inj i j o1 o2 g1 g2 he
 ·obtain⟨p1,p2,p3⟩:=r.hid q y hq;refine⟨p1,p2,fun j o h=>?_⟩;rcases hg j o h with ⟨rfl,rfl⟩|⟨_,h⟩
  ·exact fun e=>hh y (by rw [e]; exact hq)
  ·exact p3 j o h
structure n8 [bG] (B:Nat) (key:D) (Z?:Nat->Prop) (w:World) (E:En) (H:Hp) (E':En) (H':Hp):Prop where
 view:View E H w E' H'
 hd: ∀b x,E.hd b=some x->E'.hd b=some x\/∃j,Z? j/\x=(B,key,j)
 uI: ∀b x,E'.hd b=some x->E.hd b=some x
 new: ∀id o,H'.get id=some o->H.get id=some o\/(nf o=true/\H.next<=id)
 NW:H.next<=H'.next
 ro: ∀b,E'.ro b->E.ro b
theorem n8.refl [bG] {B:Nat} {key:D} {Z?:Nat->Prop} {w:World} {E:En} {H:Hp} (r:bN E H w):n8 B key Z? w E H E H:=
 ⟨View.refl r,fun _ _ h=> .inl h,fun _ _ h=>h,fun _ _ h=> .inl h,au _,fun _ h=>h⟩
theorem n8.trans [bG] {B:Nat} {key:D} {Z? J1 J2:Nat->Prop} {w:World} {E E1 E2:En} {H H1 H2:Hp} (a:n8 B key J1 w E H E1 H1) (b:n8 B key J2 w E1 H1 E2 H2) (U: ∀j,J1 j->Z? j) (Z: ∀j,J2 j->Z? j):n8 B key Z? w E H E2 H2:=by
 refine⟨a.view.trans b.view,fun q x h=>?_,fun q x h=>a.uI q x (b.uI q x h),fun id o h=>?_,bk a.NW b.NW,fun q h=>a.ro q (b.ro q h)⟩
 ·rcases a.hd q x h with h|⟨j,h,e⟩
  ·rcases b.hd q x h with h|⟨j,h,e⟩
   ·exact .inl h
   ·exact .inr ⟨j,Z j h,e⟩
  ·exact .inr ⟨j,U j h,e⟩
 ·rcases b.new id o h with h|⟨h,g⟩
  ·exact a.new id o h
  ·exact .inr ⟨h,bk a.NW g⟩
theorem n8.nf [bG] {B:Nat} {key:D} {Z?:Nat->Prop} {w:World} {E E':En} {H H':Hp} (a:n8 B key Z? w E H E' H') (r:bN E H w) (hx: ∀id o,H.get id=some o->nf o=true\/(E.θ id).1≠B): ∀id o,H'.get id=some o->nf o=true\/(E'.θ id).1≠B:=by
 intro id o h;rcases a.new id o h with h|⟨h,_⟩
 ·rcases hx id o h with g|g
  ·exact .inl g
  ·exact .inr (by rw [a.view.kp.θ id (r.live id o h).1]; exact g)
 ·exact .inl h
theorem n8.own [bG] {B:Nat} {key:D} {Z?:Nat->Prop} {w:World} {E E':En} {H H':Hp} (a:n8 B key Z? w E H E' H') {j ty:Nat} (hj: ¬Z? j) {c:FC} {d:D} {u:Value} (ho:oU E w.heap B key j ty c d u):oU E' w.heap B key j ty c d u:=
 ho.keep a.view.kp fun b hb=>by
  rcases a.hd b _ hb with h|⟨i,h,e⟩
  ·exact⟨h,rfl⟩
  ·simp only [ak,true_and] at e;exact absurd (e▸h) hj
theorem sP [bG] {E:En} {H:Hp} {w:World} (r:bN E H w) {b o c B j:Nat} {key:D} (hb:E.hd b=some (B,key,j)) (hx: ∀id o,H.get id=some o->nf o=true\/(E.θ id).1≠B) (ao:dP) (hn:nf ao=true)
 (ho:OR (E.MP b o c H.next) w.heap H.next ao):n8 B key (·= j) w E H (E.MP b o c H.next) (MF H ao):=by
 refine⟨Td r hb hx ao ho,fun q x h=>?_,fun q x h=>?_,fun id o h=>?_,am3 _,fun _ h=>h⟩
 ·show (if q=b then none else E.hd q)=some x\/_;split
  ·rename_i e;subst e;rw [hb] at h;simp only [ag] at h;exact .inr ⟨j,rfl,h.symm⟩
  ·exact .inl h
 ·have h:(if q=b then none else E.hd q)=some x:=h;split at h
  ·simp at h
  ·exact h
 ·rw [vv] at h;split at h
  ·rename_i e;simp only [ag] at h;exact .inr ⟨by rw [<- h]; exact hn,J⟩
  ·exact .inl h
theorem Rd.i3 {ro:Nat->Prop} {h:Array Obj} {t:Nat} {u:Value} (r:Rd ro h (.sl t) (.i 3) u):False:=by
 generalize hd:D.i 3=d at r
 cases r with
 |nil t=>simp at hd
 |we t a cap=>simp at hd
 |one t c b o cap ds f hr hc hb U Z=>cases ds<;>simp [dL] at hd
 |many t cs b o cap rows f hr hc hb Y U Z=>cases rows<;>simp [dL] at hd
theorem Rd.ak6 {ro:Nat->Prop} {h:Array Obj} {t:Nat} {d:D} {x:Option Addr} {c:Nat} (r:Rd ro h (.sl t) d (.slice x 0 c)):d.l= []:=by
 generalize hu:Value.slice x 0 c=u at r
 cases r with
 |nil t=>rfl
 |we t a cap=>rfl
 |one t c b o cap ds f hr hc hb U Z=> simp only [Value.slice.injEq] at hu;rw [bI];exact amJ hu.2.1.symm
 |many t cs b o cap rows f hr hc hb Y U Z=> simp only [Value.slice.injEq] at hu;rw [bI,amJ hu.2.1.symm];rfl
theorem RO [bG] {α:Type} {ρ:Nat->Int} {c:FC} {x:V} {ty:Nat} {s:St} {k:W->St->T α} {y:α} {E:En} {w:World} {B j:Nat} {key:D} {u:Value} (hρ:E.ρ=ρ) (r:bN E s.h w) (hp:bT ρ s.pc) (hx: ∀id o,s.h.get id=some o->nf o=true\/(E.θ id).1≠B)
 (ho:oU E w.heap B key j ty c (dec (x.den ρ)) u) (h:(aah c x ty s k).leaf ρ=some y) :
 ∃v h' ea E',bT ρ ea/\n8 B key (·= j) w E s.h E' h'/\VR E' w.heap v u/\(k v { s with h:=h',pc:=ea }).leaf ρ=some y:=by
 cases c with
 |ck c=> refine⟨_,s.h,s.pc,E,hp,n8.refl r,?_,h⟩;rw [nr,hρ];exact Rd.cell ho
 |mp t=>
  obtain⟨b,bJ,c,rfl,Z,h3,h4⟩:=ho;refine⟨_,_,s.pc,E.MP b 0 0 s.h.next,hp,sP r Z hx (.jT x t) rfl ?_,?_,h⟩
  ·simp only [OR];have hθ:(E.MP b 0 0 s.h.next).θ s.h.next=(b,0):=En.ext_θ_new E s.h.next (b,0) 0;rw [hθ];exact⟨bJ,c,h3,by show jW E.ro w.heap t (dec (x.den E.ρ)).l bJ.toList; rw [hρ]; exact h4⟩
  ·simp only [VR];have hθ:(E.MP b 0 0 s.h.next).θ s.h.next=(b,0):=En.ext_θ_new E s.h.next (b,0) 0;rw [hθ];exact⟨rfl,.inl rfl⟩
 |own t=>
  simp only [aah] at h;obtain⟨fI,fq,U⟩:=cE hp h;rw [iq,cl] at U;simp only [V.den] at U;rcases ho with ⟨⟨a,rfl⟩,Z⟩|⟨b,o,n,cap,a,arr,lo,hi,rfl,g2,g3,g4,g5,g6,g7⟩
  ·have Y:=Z.ak6;rw [Y] at U;obtain⟨jH,jz,h3⟩:=cE (s:={ s with pc:=fI }) fq U;rw [iq,lN] at h3;simp only [V.den] at h3
   have gn:(enc (dec (x.den ρ)) == enc (.i 3))=false:=by rw [beq_eq_false_iff_ne];intro e;rw [gZ e] at Z;exact Z.i3
   rw [gn] at h3;refine⟨_,s.h,jH,E,jz,n8.refl r,?_,h3⟩;simp only [VR];rw [hρ];exact⟨⟨a,rfl⟩,Z⟩
  ·have hθ: ∀c,(E.MP b o c s.h.next).θ s.h.next=(b,o):=fun c=>En.ext_θ_new E s.h.next (b,o) c;have hκ: ∀c,(E.MP b o c s.h.next).κ s.h.next=c:=fun c=>En.ext_κ_new E s.h.next (b,o) c;rcases g7 with ⟨rfl,hd⟩|⟨q1,rfl,us,q3,q4,q5⟩
   ·rw [hd] at U;obtain⟨jH,jz,h3⟩:=cE (s:={ s with pc:=fI }) fq U;rw [iq,lN] at h3;simp only [V.den,hd,beq_self_eq_true] at h3;refine⟨_,_,jH,E.MP b o (cap*(rowOf t).es) s.h.next,jz,sP r g3 hx (.cells [] ty) rfl ?_,?_,h3⟩
    ·simp only [OR];rw [hθ,hκ];refine⟨arr,lo,hi,[],g4,by simp only [cw],fun i u hu=>by simp at hu,amS _,?_,g6,ad⟩;rcases g5 with ⟨_,g5⟩|⟨g5,_,g8⟩
     ·exact g5
     ·rw [g5,amH]; exact g8
    ·simp only [VR];refine⟨.inl rfl,a,cap,rfl,amS _,?_⟩;simp only [eC];rw [hθ,hκ];rcases g5 with ⟨g5,_⟩|⟨g5,_,_⟩
     ·exact .inl ⟨g5,ay _⟩
     ·exact .inr ⟨g5,trivial,by rw [g5,amH]⟩
   ·have jU:0<(dec (x.den ρ)).l.length:=by
     have:=q1.2.2;exact amV.2 this
    have gn:(((dec (x.den ρ)).l.length:Int) == 0)=false:=by rw [beq_eq_false_iff_ne]; omega
    rw [gn] at U
    have g5:a=⟨b,o,none⟩/\o+cap*(rowOf t).es=arr.size:=by
     rcases g5 with g5|⟨_,g5,_⟩
     ·exact g5
     ·omega
    have qH:sU (rowOf t) []:=fun p hp=>by simp at hp
    have hlen:(bD E.ρ (rowOf t) [] (dec (x.den ρ)).l 0).length<=cap*(rowOf t).es:=by rw [cF qH];exact am8 _ g2
    have kp:=AH r b o (cap*(rowOf t).es);refine⟨_,_,fI,E.MP b o (cap*(rowOf t).es) s.h.next,fq,sP r g3 hx (.vec x t ty []) rfl ?_,?_,U⟩
    ·simp only [OR];rw [hθ,hκ];show (sU (rowOf t) []/\sB (rowOf t) (dec (x.den E.ρ)))/\∃arr lo hi us,w.heap[b]?=some (.cells arr ty (lo,hi))/\cw _ w.heap (bD E.ρ (rowOf t) [] (dec (x.den E.ρ)).l 0) us/\_;rw [hρ];rw [hρ] at q3 hlen;exact⟨⟨qH,q1⟩,arr,lo,hi,us,g4,cw.keep kp _ _ q3,q4,(by show (bD E.ρ (rowOf t) [] (dec (x.den E.ρ)).l 0).length<=_; rw [hρ]; exact hlen),g5.2,g6,q5⟩
    ·simp only [VR];refine⟨.inl rfl,(dec (x.den ρ)).l.length,a,cap,?_,rfl,g2,?_⟩
     ·show (dO x).den E.ρ=_;rw [cl,hρ]
     ·simp only [eC];rw [hθ,hκ];exact .inl ⟨g5.1,ay _⟩
theorem LU [bG] {α:Type} {ρ:Nat->Int} {eY:List Nat} {x:V} {y:α} {w:World} {B:Nat} {key:D}: ∀{cs:List FC} {j:Nat} {s:St} {k:List W->St->T α} {E:En} {us:List Value},E.ρ=ρ->bN E s.h w->bT ρ s.pc->(∀id o,s.h.get id=some o->nf o=true\/(E.θ id).1≠B)->
 us.length=cs.length->(∀i c u,cs[i]?=some c->us[i]?=some u->oU E w.heap B key (j+i+1) (eY.getD (j+i+2) 0) c ((dec (x.den ρ)).hd (j+i)) u)->(RN eY x cs j s k).leaf ρ=some y->
 ∃vs h' ea E',bT ρ ea/\n8 B key (fun i=>j<i) w E s.h E' h'/\cw E' w.heap vs us/\(k vs { s with h:=h',pc:=ea }).leaf ρ=some y
 |[],j,s,k,E,us,hρ,r,hp,hx,Y,ho,h=>by have:us= []:=amJ Y;subst this;exact⟨[],s.h,s.pc,E,hp,n8.refl r,by simp only [cw],h⟩
 |c::cs,j,s,k,E,[],hρ,r,hp,hx,Y,ho,h=>by simp at Y
 |c::cs,j,s,k,E,u::us,hρ,r,hp,hx,Y,ho,h=>by
  simp only [RN] at h;have h0:=ho 0 c u rfl rfl;rw [bh,<- px] at h0;obtain⟨v,U,fI,E1,fq,f1,v1,g1⟩:=RO hρ r hp hx h0 h;have hρ1:E1.ρ=ρ:=f1.view.kp.ρ.trans hρ
  obtain⟨vs,Z,jH,E2,jz,f2,v2,g2⟩:=LU (s:={ s with h:=U,pc:=fI }) (us:=us) hρ1 f1.view.rel fq (f1.nf r hx) (by simpa using Y) (fun i c' u' hc hu=>by
   have:=ho (i+1) c' u' (by simpa using hc) (by simpa using hu);have e1:j+(i+1)=j+1+i:=J
   rw [e1] at this
   exact f1.own J this) g1
  refine⟨v::vs,Z,jH,E2,jz,f1.trans f2 (fun i hi=>by omega) (fun i hi=>by omega),?_,g2⟩;rw [bO];exact⟨u,us,rfl,VR.keep f2.view.kp _ _ v1,v2⟩
theorem aam [bG] {α:Type} {ρ:Nat->Int} {t:Nat} {eY:List Nat} {x:V} {y:α} {w:World} {B:Nat} {key:D} {s:St} {k:W->St->T α} {E:En} {u:Value} (hρ:E.ρ=ρ) (r:bN E s.h w) (hp:bT ρ s.pc) (hx: ∀id o,s.h.get id=some o->nf o=true\/(E.θ id).1≠B)
 (ho:qg E w.heap B t eY key (dec (x.den ρ)) u) (h:(aan t eY x s k).leaf ρ=some y) :
 ∃v h' ea E',bT ρ ea/\n8 B key (fun _=>True) w E s.h E' h'/\VR E' w.heap v u/\(k v { s with h:=h',pc:=ea }).leaf ρ=some y:=by
 unfold qg at ho;unfold aan at h;split at ho
 ·rename_i Oj;rw [Oj] at h;obtain⟨c,hc,ho⟩:=ho;rw [hc] at h;obtain⟨v,U,fI,E1,fq,f1,v1,g1⟩:=RO hρ r hp hx ho h;exact⟨v,U,fI,E1,fq,⟨f1.view,fun b x hb=>(f1.hd b x hb).imp id fun⟨j,_,e⟩=> ⟨j,trivial,e⟩,f1.uI,f1.new,f1.NW,f1.ro⟩,v1,g1⟩
 ·rename_i Oj;rw [Oj] at h;obtain⟨b,o,arr,lo,hi,rfl,Z,h3,h4,h5,h6⟩:=ho
  have tg: ∃us:List Value,us.length=(qQ t).cs.length/\∀j u,us[j]?=some u->arr[o+j]?=some u:=by
   refine⟨(arr.toList.drop o).take (qQ t).cs.length,?_,fun j u hu=>?_⟩
   ·rw [a8,br,bn]; omega
   ·rw [am5] at hu;split at hu
    ·rw [am4,amD] at hu;exact hu
    ·simp at hu
  obtain⟨us,Y,BS⟩:=tg
  have iW: ∀i c u,(qQ t).cs[i]?=some c->us[i]?=some u->u.oneCell'=true/\oU E w.heap B key (i+1) (eY.getD (i+2) 0) c ((dec (x.den ρ)).hd i) u:=by intro i c u hc hu;obtain⟨u',p1,p2,p3⟩:=h6 i c hc;rw [BS i u hu] at p1;simp only [ag] at p1;subst p1;exact⟨p2,p3⟩
  obtain⟨vs,U,fI,E1,fq,f1,v1,g1⟩:=LU (j:=0) (us:=us) hρ r hp hx Y (fun i c u hc hu=>by
   rw [ay]
   exact (iW i c u hc hu).2) h
  have RE:E1.hd b=some (B,key,0):=by
   rcases f1.hd b _ Z with q|⟨j,q1,q2⟩
   ·exact q
   ·simp only [ak,true_and] at q2;omega
  have hθ:(E1.MP b o (arr.size-o) U.next).θ U.next=(b,o):=En.ext_θ_new E1 U.next (b,o) (arr.size-o);have hκ:(E1.MP b o (arr.size-o) U.next).κ U.next=arr.size-o:=En.ext_κ_new E1 U.next (b,o) (arr.size-o);have kp:=AH f1.view.rel b o (arr.size-o);have hvl:=v1.length
  have f2:=sP (o:=o) (c:=arr.size-o) f1.view.rel RE (f1.nf r hx) (.cells vs (eY.getD 0 0)) rfl (by
   simp only [OR];rw [hθ,hκ];refine⟨arr,lo,hi,us,h3,cw.keep kp _ _ v1,BS,J,J,h5,fun u hu=>?_⟩;obtain⟨i,hi'⟩:=an2 hu;have ep:=(aW.1 hi').1;have als:i<(qQ t).cs.length:=J
   exact (iW i _ u (aM als) hi').1)
  refine⟨_,_,fI,_,fq,f1.trans f2 (fun _ _=>trivial) (fun _ _=>trivial),?_,g1⟩;simp only [VR];rw [hθ];exact⟨by rw [bh],.inl rfl⟩
theorem eP.one {E:En} {h:Array Obj} {B t:Nat} {eY:List Nat} {ov:List (V×W)} {n:Int} {d:D} (qH:lJ E.ρ n ov=none): ∀{ds:List D} {es:List MapEntry},(ds.map ji).Nodup->gv ds (.i n)=some d->eP E h B t eY ov ds es->
 ∃en:MapEntry,qg E h B t eY (.i n) d en.val/\∀e1∈es,e1.key= .int .i64 n->e1=en
 |[],_,_,hf,_=>by simp [gv] at hf
 |a::ds,_,BW,hf,⟨e0,rr,m,h0,q1,q2,q3,q4⟩=>by
  subst h0;have hk:ji a= .i m:=by rw [q1]; rfl
  simp only [ax,amX] at BW;simp only [gv] at hf;by_cases hm:m=n
  ·subst hm;rw [ah hk] at hf;simp only [ag] at hf;rw [qH,hf] at q3;refine⟨e0,q3,fun e1 U Z=>?_⟩;rcases aw.1 U with rfl|U
   ·rfl
   ·obtain⟨i,hi⟩:=an2 U;exact absurd (eP.set.eP.CQ q4 hi Z) (by rw [<- hk]; exact BW.1)
  ·rw [af (by rw [hk]; simpa using hm)] at hf;obtain⟨en,p1,p2⟩:=eP.one qH BW.2 hf q4;refine⟨en,p1,fun e1 U Z=>?_⟩;rcases aw.1 U with rfl|U
   ·rw [q2] at Z;simp only [Value.int.injEq,true_and] at Z;exact absurd Z hm
   ·exact p2 e1 U Z
theorem eP.U1 {E E3:En} {h:Array Obj} (kp:fw E h E3 h) {B t:Nat} {eY:List Nat} {ov:List (V×W)} {n:Int} {x:V} {v:W} (hx:x.den E.ρ=n) (qH:lJ E.ρ n ov=none) (hd: ∀b m j,m≠n->E.hd b=some (B,.i m,j)->E3.hd b=some (B,.i m,j)) :
 ∀{ds:List D} {es:List MapEntry},(∀e1∈es,e1.key= .int .i64 n->VR E3 h v e1.val)->eP E h B t eY ov ds es->eP E3 h B t eY ((x,v)::ov) ds es
 |[],_,_,ho=>ho
 |a::ds,_,hv,⟨e0,rr,m,h0,q1,q2,q3,q4⟩=>by
  subst h0;refine⟨e0,rr,m,rfl,q1,q2,?_,eP.U1 kp hx qH hd (fun e1 U Z=>hv e1 (by simp [U]) Z) q4⟩;simp only [lJ,kp.ρ,hx];by_cases hm:n=m
  ·rw [ah hm];exact hv e0 ad (by rw [q2,hm])
  ·rw [af hm];split at q3
   ·exact VR.keep kp _ _ q3
   ·exact q3.keep kp fun b j hb=> ⟨hd b m j (fun e=>hm e.symm) hb,rfl⟩
theorem aaf [bG] {α:Type} {ρ:Nat->Int} {id:Nat} {x:V} {y:α} {w:World} {s:St} {k:St->T α} {E:En} (hρ:E.ρ=ρ) (r:bN E s.h w) (hp:bT ρ s.pc) (h:(aag id x s k).leaf ρ=some y) :
 ∃h' ea E',bT ρ ea/\View E s.h w E' h'/\(k { s with h:=h',pc:=ea }).leaf ρ=some y:=by
 unfold aag at h;split at h
 ·rename_i o Y;split at h
  ·rename_i e t eY ov;obtain⟨fI,fq,U⟩:=ye hp h
   cases qH:lJ ρ (x.den ρ) ov with
   |some v=>rw [qH] at U; exact⟨s.h,fI,E,fq,View.refl r,U⟩
   |none=>
    rw [qH] at U;obtain⟨jH,jz,Z⟩:=cE (s:={ s with pc:=fI }) fq U;rw [wC] at Z;simp only [V.den,eZ.den,rQ] at Z;obtain⟨g0,bJ,c',g1,g2⟩:=zL r Y;rw [hρ] at g0 g2;have hm: ∀n,lJ E.ρ n ov=lJ ρ n ov:=fun n=>by rw [hρ]
    cases hf:gv (dec (e.den ρ)).l (.i (x.den ρ)) with
    |none=> rw [hf] at Z;exact⟨s.h,jH,E,jz,View.refl r,Z⟩
    |some d=>
     rw [hf] at Z;simp only [bu,if_true] at Z;have Z:(aan t eY (.op .DX e (mY x)) { s with pc:=jH,h:=s.h.drop id } fun v s=>k { s with h:=s.h.put id (.ur e t eY ((x,v)::ov)) }).leaf ρ=some y:=Z
     have hdx:dec ((V.op .DX e (mY x)).den ρ)=d:=by simp only [V.den,eZ.den,bB,rQ,hf,aC]
     obtain⟨en,ald,huq⟩:=eP.one (by rw [hρ]; exact qH) g0.1 hf g2;obtain⟨dst,drl⟩:=wK r id;have T6:=(r.live id _ Y).1
     have G8:id<s.h.next:=by
      rcases aT id s.h.next with q|q
      ·exact q
      ·exact absurd T6 (r.fresh id q)
     have Yk: ∀j o,(s.h.drop id).get j=some o->s.h.get j=some o/\j≠id:=by
      intro j o hj;rw [Hp.kj] at hj;split at hj
      ·simp at hj
      ·rename_i e; exact⟨hj,e⟩
     have hx0: ∀j o,(s.h.drop id).get j=some o->nf o=true\/(E.θ j).1≠(E.θ id).1:=by intro j o hj;obtain⟨q1,q2⟩:=Yk j o hj;exact .inr fun e=>q2 (r.inj j id _ _ q1 Y e)
     obtain⟨v,h3,UT,E3,I3,f3,v3,g3⟩:=aam (s:={ s with pc:=jH,h:=s.h.drop id }) (B:=(E.θ id).1) (key:=.i (x.den ρ)) hρ drl jz hx0 (by rw [hdx]; exact ald) Z;have hθ:=f3.view.kp.θ id T6;have hρ3:E3.ρ=ρ:=f3.view.kp.ρ.trans hρ
     have hnn: ∀j o,h3.get j=some o->j≠id/\(E3.θ j).1≠(E3.θ id).1:=by
      intro j o hj;rcases f3.new j o hj with q|⟨_,q⟩
      ·obtain⟨q1,q2⟩:=Yk j o q;refine⟨q2,?_⟩;rw [hθ,f3.view.kp.θ j (r.live j o q1).1];exact fun e=>q2 (r.inj j id _ _ q1 Y e)
      ·have q:s.h.next<=j:=q;refine⟨J,fun e=>?_⟩;rw [hθ] at e;rcases f3.view.hold _ (.inl ⟨j,o,hj,rfl⟩) with ⟨i0,o0,q1,q2⟩|⟨y0,q1⟩
       ·obtain⟨q3,q4⟩:=Yk i0 o0 q1;exact q4 (r.inj i0 id _ _ q3 Y (q2.trans e))
       ·rw [e] at q1;exact (r.hid _ _ q1).2.2 id _ Y rfl
     have hr3:bN E3 (h3.put id (.ur e t eY ((x,v)::ov))) w:=by
      refine KK f3.view.rel (f3.view.kp.dm id T6) ?_ hnn ?_ ?_
      ·rw [hθ];exact fun hr=>(r.live id _ Y).2.2 (f3.ro _ hr)
      ·rw [hθ];intro q hq;exact (r.hid _ _ (f3.uI _ _ hq)).2.2 id _ Y rfl
      ·simp only [OR];rw [hρ3,hθ];refine⟨⟨g0.1,fun p hp=>?_,?_⟩,bJ,c',g1,?_⟩
       ·rcases aw.1 hp with rfl|hp
        ·rcases zK (E:=E) (i:=0) (dt:=.int .i64) ⟨_,rfl⟩ (x.den ρ) g2 with ⟨q1,_⟩|⟨_,_,_,_,q2,_⟩
         ·rw [hf] at q1; simp at q1
         ·exact q2
        ·exact g0.2.1 p hp
       ·simp only [ax,amX];exact⟨IA qH,g0.2.2⟩
       ·exact eP.U1 f3.view.kp (x:=x) (by rw [hρ]) (by rw [hρ]; exact qH) (fun b m j hm hb=>by
         rcases f3.hd b _ hb with q|⟨j',_,q⟩
         ·exact q
         ·simp only [ak,D.i.injEq,true_and] at q
          exact absurd q.1 hm) (fun e1 U Z=>by rw [huq e1 U Z]; exact v3) g2
     refine⟨_,UT,E3,I3,⟨hr3,f3.view.kp,fun b hb=> .inl (f3.ro b hb),fun b hb=>by
      rcases hb with ⟨j,o,q1,q2⟩|q
      ·rw [Hp.bP] at q1;split at q1
       ·rename_i e;rw [e,hθ] at q2;exact .inl ⟨id,_,Y,q2⟩
       ·rcases f3.view.hold b (.inl ⟨j,o,q1,q2⟩) with ⟨i0,o0,p1,p2⟩|p
        ·exact .inl ⟨i0,o0,(Yk i0 o0 p1).1,p2⟩
        ·exact .inr p
      ·rcases f3.view.hold b (.inr q) with ⟨i0,o0,p1,p2⟩|p
       ·exact .inl ⟨i0,o0,(Yk i0 o0 p1).1,p2⟩
       ·exact .inr p⟩,g3⟩
  ·exact⟨s.h,s.pc,E,hp,View.refl r,h⟩
 ·exact⟨s.h,s.pc,E,hp,View.refl r,h⟩
end
end Go.As
end
section
namespace Go.As
noncomputable section
def TF {α:Type} (c:FC) (v:W) (ty:Nat) (s:St) (k:V->St->T α):T α:=match c with
 | .ck c=>Oy v s fun v s=>match lS c v with
   |some x=>k x s
   |none=> .fail
 | .mp t=>match v with
   | .map i=>match s.h.get i with
     |some o=>match o with
      | .jT e t'=>match Nat.beq t t' with
        |true=>k e { s with h:=s.h.drop i }
        |false=> .fail
      |_=> .fail
     |none=> .fail
   |_=> .fail
 | .own t=>match v with
   | .dv=>k (.eg (.i 1)) s
   | .w4 z t'=>match Nat.beq t t' with
     |true=>k z s
     |false=> .fail
   | .slice i o n c=>match c with
     | .exact m=>match n with
       |0=>match m with
        |0=>k (.eg (.i 2)) s
        |_=> .fail
       |_=> .fail
     | .rest es=>match s.h.get i with
       |some ob=>match ob with
        | .cells cs VE=>if es=(rowOf t).es/\VE=ty/\o+n*es=cs.length then match n with
         |0=>k (.eg (.i 3)) { s with h:=s.h.drop i }
         |m+1=>match kz (rowOf t) (.eg (.i 0)) (m+1) (cs.drop o) with
          |some e=>k e { s with h:=s.h.drop i }
          |none=> .fail
         else .fail
        |_=> .fail
       |none=> .fail
   | .oq i n t'=>match Nat.beq t t' with
     |true=>match Bu s.h i t with
      |some (e,VE)=>match Nat.beq VE ty&&eT n (dO e) with
       |true=>k e { s with h:=s.h.drop i }
       |false=> .fail
      |none=> .fail
     |false=> .fail
   | .sD i lo n t'=>match Nat.beq t t' with
     |true=>match Bu s.h i t with
      |some (e,VE)=>match Nat.beq VE ty with
       |true=>xJ e lo n s fun s=>jn s (qB n (.lit 0)) fun s b=>match b with
        |true=>k (.eg (.i 3)) { s with h:=s.h.drop i }
        |false=>k (DN e lo n) { s with h:=s.h.drop i }
       |false=> .fail
      |none=> .fail
     |false=> .fail
   |_=> .fail
def Gx {α:Type} (eY:List Nat):List FC->Nat->List W->St->(V->St->T α)->T α
 |[],_,[],s,k=>k (.eg (.i 0)) s
 |c::cs,j,v::vs,s,k=>TF c v (eY.getD (j+2) 0) s fun a s=>Gx eY cs (j+1) vs s fun b s=>k (eD a b) s
 |_,_,_,_,_=> .fail
def aek {α:Type} (t:Nat) (eY:List Nat) (v:W) (s:St) (k:V->St->T α):T α:=match (qQ t).ptr with
 |false=>match (qQ t).cs with
  |[c]=>TF c v (eY.getD 1 0) s k
  |_=> .fail
 |true=>match v with
  | .ptr i o=>match o with
    |0=>match s.h.get i with
     |some ob=>match ob with
      | .cells cs ty=>match Nat.beq ty (eY.getD 0 0) with
        |true=>Gx eY (qQ t).cs 0 cs { s with h:=s.h.drop i } k
        |false=> .fail
      |_=> .fail
     |none=> .fail
    |_=> .fail
  |_=> .fail
def P5 {α:Type} (t:Nat) (eY:List Nat):List (V×W)->V->St->(V->St->T α)->T α
 |[],e,s,k=>k e s
 |(x,v)::l,e,s,k=>aek t eY v s fun d s=>P5 t eY l (.op .u5 e (eD (mY x) d)) s k
def P? {α:Type} (id:Nat) (s:St) (k:St->T α):T α:=match s.h.get id with
 |some o=>match o with
  | .ur e t eY ov=>P5 t eY ov e { s with h:=s.h.drop id } fun e' s=>k { s with h:=s.h.put id (.ur e' t eY []) }
  |_=>k s
 |none=>k s
structure lH [bG] (w:World) (E:En) (H:Hp) (E':En) (H':Hp):Prop where
 view:View E H w E' H'
 mono: ∀b x,E.hd b=some x->E'.hd b=some x
 sub: ∀id o,H'.get id=some o->H.get id=some o
 hold: ∀b,E'.ro b\/(∃x,E'.hd b=some x)->E.ro b\/(∃x,E.hd b=some x)\/∃id o,H.get id=some o/\(E.θ id).1=b
theorem lH.refl [bG] {w:World} {E:En} {H:Hp} (r:bN E H w):lH w E H E H:=⟨View.refl r,fun _ _ h=>h,fun _ _ h=>h,fun _ h=>h.imp id .inl⟩
theorem lH.trans [bG] {w:World} {E E1 E2:En} {H H1 H2:Hp} (r:bN E H w) (a:lH w E H E1 H1) (b:lH w E1 H1 E2 H2):lH w E H E2 H2:=by
 refine⟨a.view.trans b.view,fun q x h=>b.mono q x (a.mono q x h),fun id o h=>a.sub id o (b.sub id o h),fun q h=>?_⟩;rcases b.hold q h with h|h|⟨id,o,U,Z⟩
 ·exact a.hold q (.inl h)
 ·exact a.hold q (.inr h)
 ·have h3:=a.sub id o U;rw [a.view.kp.θ id (r.live id o h3).1] at Z;exact .inr (.inr ⟨id,o,h3,Z⟩)
theorem lH.aeo [bG] {w:World} {E E':En} {H H':Hp} (r:bN E H w) (f:Kh E w H E' H'):lH w E H E' H':=by
 refine⟨View.aen r f.eu f.rel,fun b x h=>by rw [f.eu.hd]; exact h,f.sub.get,fun b h=>?_⟩;rcases h with h|⟨x,h⟩
 ·rcases f.eu.rF b h with g|g|g
  ·exact .inl g
  ·exact .inr (.inr g)
  ·have:=f.rel.qC b h;omega
 ·exact .inr (.inl ⟨x,by rw [<- f.eu.hd]; exact h⟩)
theorem lH.own [bG] {w:World} {E E':En} {H H':Hp} (a:lH w E H E' H') {B:Nat} {key:D} {j ty:Nat} {c:FC} {d:D} {u:Value} (ho:oU E w.heap B key j ty c d u):oU E' w.heap B key j ty c d u:=
 ho.keep a.view.kp fun b hb=> ⟨a.mono b _ hb,rfl⟩
def En.T7 (E:En) (b:Nat) (x:Nat×D×Nat):En:={ E with hd:=fun q=>if q=b then some x else E.hd q }
theorem r7 [bG] {E:En} {H:Hp} {w:World} (r:bN E H w) {i:Nat} {o:dP} (Y:H.get i=some o) (x:Nat×D×Nat):lH w E H (E.T7 (E.θ i).1 x) (H.drop i):=by
 have hg: ∀j o,(H.drop i).get j=some o->H.get j=some o/\j≠i:=by
  intro j o hj;rw [Hp.kj] at hj;split at hj
  ·simp at hj
  ·rename_i e; exact⟨hj,e⟩
 have kp:fw E w.heap (E.T7 (E.θ i).1 x) w.heap:=⟨rfl,fun _ h=>h,fun _ _=>rfl,fun _ _=>rfl,fun _ h=>h,fun _ _=>rfl⟩
 have mono: ∀b y,E.hd b=some y->(E.T7 (E.θ i).1 x).hd b=some y:=by
  intro b y hb;show (if b=(E.θ i).1 then some x else E.hd b)=_;rw [af]
  ·exact hb
  ·exact fun e=>(r.hid b y hb).2.2 i o Y e.symm
 have nO: ∀b y,(E.T7 (E.θ i).1 x).hd b=some y->b=(E.θ i).1\/E.hd b=some y:=by
  intro b y hb;have hb:(if b=(E.θ i).1 then some x else E.hd b)=some y:=hb;split at hb
  ·rename_i e; exact .inl e
  ·exact .inr hb
 refine⟨⟨⟨r.fresh,r.res,fun j o2 Z=>?_,fun a b o1 o2 U Z he=>r.inj a b o1 o2 (hg _ _ U).1 (hg _ _ Z).1 he,r.qC,r.iX,fun b y hb=>?_⟩,kp,fun _ h=> .inl h,fun b hb=>?_⟩,mono,fun j o2 Z=>(hg j o2 Z).1,fun b hb=>?_⟩
 ·obtain⟨g1,g2,g3⟩:=r.live j o2 (hg j o2 Z).1;exact⟨g1,g2.keep kp g1 rfl fun key b q hb=> ⟨mono b _ hb,rfl⟩,g3⟩
 ·rcases nO b y hb with rfl|hb
  ·refine⟨fm r Y,(r.live i o Y).2.2,fun j o2 Z e=>?_⟩;obtain⟨q1,q2⟩:=hg j o2 Z;exact q2 (r.inj j i o2 o q1 Y e)
  ·obtain⟨q1,q2,q3⟩:=r.hid b y hb;exact⟨q1,q2,fun j o2 Z=>q3 j o2 (hg j o2 Z).1⟩
 ·rcases hb with ⟨j,o2,Z,he⟩|⟨y,hb⟩
  ·exact .inl ⟨j,o2,(hg j o2 Z).1,he⟩
  ·rcases nO b y hb with rfl|hb
   ·exact .inl ⟨i,o,Y,rfl⟩
   ·exact .inr ⟨y,hb⟩
 ·rcases hb with hb|⟨y,hb⟩
  ·exact .inl hb
  ·rcases nO b y hb with rfl|hb
   ·exact .inr (.inr ⟨i,o,Y,rfl⟩)
   ·exact .inr (.inl ⟨y,hb⟩)
theorem te (E:En) (b:Nat) (x:Nat×D×Nat):(E.T7 b x).hd b=some x:=by show (if b=b then some x else E.hd b)=_;rw [ah rfl]
theorem PD {E:En} {h:Array Obj} {i:Nat} {e:V} {t ty:Nat} (ho:OR E h i (.vec e t ty [])) {l k:Nat} (hk:l+k<=(dec (e.den E.ρ)).l.length) :
 ∃arr lo hi us,h[(E.θ i).1]?=some (.cells arr ty (lo,hi))/\(E.θ i).2+E.κ i=arr.size/\(∀q,lo<=q->q<hi->arr.size<=q)/\cw E h (bD E.ρ (rowOf t) [] (((dec (e.den E.ρ)).l.take (l+k)).drop l) 0) us/\
  (∀q u,us[q]?=some u->arr[(E.θ i).2+l*(rowOf t).es+q]?=some u)/\∀u∈us,u.oneCell'=true:=by
 simp only [OR] at ho;obtain⟨⟨qH,_⟩,arr,lo,hi,us,U,Z,h3,h4,h5,h6,h7⟩:=ho;generalize (dec (e.den E.ρ)).l=L at *
 have hL:L=L.take l++((L.take (l+k)).drop l++L.drop (l+k)):=by
  rw [List.drop_take,show l+k-l=k by omega]
  have e1:(L.drop l).take k++L.drop (l+k)=L.drop l:=by rw [<- aov,amR]
  rw [e1,amR]
 have h2':=Z;rw [hL,gO,gO] at h2';obtain⟨a,bc,rfl,a1,a2⟩:=h2'.split;obtain⟨b,c,rfl,b1,b2⟩:=a2.split
 have U0:a.length=l*(rowOf t).es:=by rw [a1.length,cF qH,a8,aor J]
 refine⟨arr,lo,hi,b,U,h5,h6,b1,fun q u hu=>?_,fun u hu=>h7 u (by simp [hu])⟩;have fD:=(aW.1 hu).1
 have:=h3 (l*(rowOf t).es+q) u (by
  rw [aok J,aoA J,U0,anP]
  exact hu)
 rw [<- amF] at this;exact this
theorem EV {α:Type}: ∀{n:Nat} {l:List α},n<=l.length->As.eE n l=some (l.drop n)
 |0,_,_=>rfl
 |n+1,[],h=>by simp at h
 |n+1,_::l,h=>by simp only [As.eE,aoj];exact EV (by simpa using h)
theorem P6 [bG] {α:Type} {ρ:Nat->Int} {c:FC} {v:W} {ty:Nat} {s:St} {k:V->St->T α} {y:α} {E:En} {w:World} {u:Value} (B:Nat) (key:D) (j:Nat) (hρ:E.ρ=ρ) (r:bN E s.h w) (hp:bT ρ s.pc) (hv:VR E w.heap v u) (h:(TF c v ty s k).leaf ρ=some y) :
 ∃x h' ea E',bT ρ ea/\lH w E s.h E' h'/\oU E' w.heap B key j ty c (dec (x.den ρ)) u/\(k x { s with h:=h',pc:=ea }).leaf ρ=some y:=by
 cases c with
 |ck c=>
  simp only [TF] at h;obtain⟨v',U,fI,E1,fq,f,q,g⟩:=Je hρ r hp h;split at g
  ·rename_i x hx;refine⟨x,U,fI,E1,fq,lH.aeo r f,?_,g⟩;have:=(jJ (q u hv) hx).rd (pe hx);rw [f.ρ,hρ] at this;exact this
  ·simp [T.leaf] at g
 |mp t=>
  simp only [TF] at h;split at h
  ·rename_i i;split at h
   ·rename_i o Y;split at h
    ·rename_i e t';split at h
     ·rename_i ht;have ht:=aq ht;subst ht;have ho:=(r.live i _ Y).2.1;simp only [OR] at ho;obtain⟨bJ,c',g1,g2⟩:=ho;simp only [VR] at hv;obtain⟨rfl,_⟩:=hv;rw [hρ] at g2;exact⟨e,_,s.pc,_,hp,r7 r Y (B,key,j),⟨(E.θ i).1,bJ,c',rfl,te _ _ _,g1,g2⟩,h⟩
     ·simp [T.leaf] at h
    ·simp [T.leaf] at h
   ·simp [T.leaf] at h
  ·simp [T.leaf] at h
 |own t=>
  simp only [TF] at h;split at h
  ·simp only [VR] at hv;subst hv;refine⟨_,s.h,s.pc,E,hp,lH.refl r,.inl ⟨⟨none,rfl⟩,?_⟩,h⟩;simp only [V.den,bB];exact .nil t
  ·rename_i z t';split at h
   ·rename_i ht;have ht:=aq ht;subst ht;simp only [VR] at hv;rw [hρ] at hv;exact⟨_,s.h,s.pc,E,hp,lH.refl r,.inl hv,h⟩
   ·simp [T.leaf] at h
  ·rename_i i o n c;split at h
   ·rename_i m;split at h
    ·split at h
     ·simp only [VR,eC] at hv;obtain⟨_,a,cap,rfl,_,rfl,_⟩:=hv;refine⟨_,s.h,s.pc,E,hp,lH.refl r,.inl ⟨⟨some a,rfl⟩,?_⟩,h⟩;simp only [V.den,bB];exact .we t a 0
     ·simp [T.leaf] at h
    ·simp [T.leaf] at h
   ·rename_i es;split at h
    ·rename_i ob Y;split at h
     ·rename_i cs VE;split at h
      ·rename_i hc;obtain⟨rfl,rfl,hlen⟩:=hc;have ho:=(r.live i _ Y).2.1;simp only [OR] at ho;obtain⟨arr,lo,hi,us,g1,g2,g3,g4,g5,g6,g7⟩:=ho;simp only [VR,eC] at hv;obtain⟨_,a,cap,rfl,q1,q2⟩:=hv
       have fV:(a=⟨(E.θ i).1,(E.θ i).2+o,none⟩/\(E.θ i).2+o+cap*(rowOf t).es=arr.size)\/(cap=0/\n=0/\(E.θ i).2+o=arr.size):=by
        rcases q2 with ⟨q2,q3⟩|⟨q2,q3,q4⟩
        ·exact .inl ⟨q2,J⟩
        ·exact .inr ⟨q2,q3,J⟩
       have hs:=r7 r Y (B,key,j);split at h
       ·refine⟨_,_,s.pc,_,hp,hs,.inr ⟨(E.θ i).1,(E.θ i).2+o,0,cap,a,arr,lo,hi,rfl,q1,te _ _ _,g1,fV,g6,.inl ⟨rfl,?_⟩⟩,h⟩;simp only [V.den,bB]
       ·rename_i m;split at h
        ·rename_i e he;obtain⟨ds,d1,d2,d3,d4,d5⟩:=qU (ρ:=ρ) _ he;have hz:(dec ((V.eg (.i 0)).den ρ))= .i 0:=by simp only [V.den,bB]
         rw [hz] at d2 d3;have d2:(dec (e.den ρ)).l=ds:=d2;have d3:=d3 rfl;refine⟨e,_,s.pc,_,hp,hs,.inr ⟨(E.θ i).1,(E.θ i).2+o,m+1,cap,a,arr,lo,hi,rfl,q1,te _ _ _,g1,fV,g6,.inr ⟨⟨d3,by rw [d2]; exact d4,?_⟩,by rw [d2]; exact d1,us.drop o,?_,?_,?_⟩⟩,h⟩
         ·rw [d2];intro e0;rw [e0] at d1;simp at d1
         ·rw [d2];show cw _ w.heap (bD E.ρ (rowOf t) [] ds 0) (us.drop o);rw [hρ];have FQ:As.eE o cs=some (cs.drop o):=EV J;exact d5 _ _ _ _ (by exact hρ) (cw.keep hs.view.kp _ _ (g2.eE FQ).1)
         ·intro q u hu;rw [am4] at hu;have:=g3 _ u hu;rw [<- amF] at this;exact this
         ·exact fun u hu=>g7 u (bw hu)
        ·simp [T.leaf] at h
      ·simp [T.leaf] at h
     ·simp [T.leaf] at h
    ·simp [T.leaf] at h
  ·rename_i i n t';split at h
   ·rename_i ht;have ht:=aq ht;subst ht;split at h
    ·rename_i e VE X_;split at h
     ·rename_i hc;simp only [an] at hc;have Oe:=aq hc.1;have hn:=cH _ _ hc.2;subst Oe hn;have Y:=mW X_;have ho:=(r.live i _ Y).2.1;have hw:=(OR.oe.1 ho).1.2;simp only [VR,eC] at hv;obtain⟨_,m,a,cap,q0,rfl,q1,q2⟩:=hv;rw [cl] at q0;have hm:(dec (e.den E.ρ)).l.length=m:=J
      have jU:0<m:=by rw [<- hm]; exact amV.2 hw.2.2
      obtain⟨arr,lo,hi,us,g1,g2,g3,g4,g5,g6⟩:=PD ho (l:=0) (k:=m) J;have hs:=r7 r Y (B,key,j);rw [ay,am0,<- hm,anj] at g4
      have fV:a=⟨(E.θ i).1,(E.θ i).2,none⟩/\(E.θ i).2+cap*(rowOf t).es=arr.size:=by
       rcases q2 with ⟨q2,q3⟩|⟨_,q3,_⟩
       ·exact⟨by rw [q2,bh],J⟩
       ·omega
      rw [hρ] at hw hm;refine⟨e,_,s.pc,_,hp,hs,.inr ⟨(E.θ i).1,(E.θ i).2,m,cap,a,arr,lo,hi,rfl,q1,te _ _ _,g1,.inl fV,g3,.inr ⟨hw,hm,us,?_,fun q u hu=>?_,g6⟩⟩,h⟩
      ·have:=cw.keep hs.view.kp _ _ g4;rw [hρ] at this;show cw _ w.heap (bD E.ρ (rowOf t) [] (dec (e.den ρ)).l 0) us;rw [hρ];exact this
      ·have:=g5 q u hu;rw [amH,bh] at this;exact this
     ·simp [T.leaf] at h
    ·simp [T.leaf] at h
   ·simp [T.leaf] at h
  ·rename_i i u? n t';split at h
   ·rename_i ht;have ht:=aq ht;subst ht;split at h
    ·rename_i e VE X_;split at h
     ·rename_i hc;have Oe:=aq hc;subst Oe;have Y:=mW X_;have ho:=(r.live i _ Y).2.1;have hw:=(OR.oe.1 ho).1.2;obtain⟨fI,fq,z1,z2,z3,U⟩:=wc hp h;obtain⟨jH,jz,Z⟩:=cE (s:={ s with pc:=fI }) fq U;rw [iq] at Z;simp only [V.den] at Z;simp only [VR,eC] at hv;obtain⟨_,l,m,a,cap,q0,q00,rfl,q1,q2⟩:=hv;have q0':=q0;have akX:=q00;rw [hρ] at q0 q00;obtain⟨arr,lo,hi,us,g1,g2,g3,g4,g5,g6⟩:=PD ho (l:=l) (k:=m) (by rw [hρ]; omega);have hs:=r7 r Y (B,key,j)
      have fV:(a=⟨(E.θ i).1,(E.θ i).2+l*(rowOf t).es,none⟩/\(E.θ i).2+l*(rowOf t).es+cap*(rowOf t).es=arr.size)\/(cap=0/\m=0/\(E.θ i).2+l*(rowOf t).es=arr.size):=by
       rcases q2 with ⟨q2,q3⟩|⟨q2,q3,q4⟩
       ·exact .inl ⟨q2,J⟩
       ·exact .inr ⟨q2,q3,J⟩
      cases hm:m with
      |zero=>
       have:n.den ρ=0:=by rw [q00,hm]; rfl
       rw [this] at Z;subst hm;refine⟨_,_,jH,_,jz,hs,.inr ⟨(E.θ i).1,(E.θ i).2+l*(rowOf t).es,0,cap,a,arr,lo,hi,rfl,q1,te _ _ _,g1,fV,g3,.inl ⟨rfl,?_⟩⟩,Z⟩;simp only [V.den,bB]
      |succ m'=>
       have:(n.den ρ == 0)=false:=by rw [beq_eq_false_iff_ne]; omega
       rw [this] at Z;rw [<- hm];have pG:=xI (e:=e) q0' akX;rw [hρ] at pG g4 hw;generalize hpt:((dec (e.den ρ)).l.take (l+m)).drop l=pt at pG g4
       have aeK:pt.length=m:=by rw [<- hpt,br,a8,aor J];omega
       have gn:pt≠[]:=by intro e0;rw [e0] at aeK;simp at aeK;omega
       rw [vH gn] at pG;refine⟨_,_,jH,_,jz,hs,.inr ⟨(E.θ i).1,(E.θ i).2+l*(rowOf t).es,m,cap,a,arr,lo,hi,rfl,q1,te _ _ _,g1,fV,g3,.inr ⟨?_,?_,us,?_,g5,g6⟩⟩,Z⟩
       ·rw [pG];refine⟨by rw [bI],fun d hd=>?_,by rw [bI]; exact gn⟩;rw [bI,<- hpt] at hd;exact hw.2.1 d (amG (bw hd))
       ·rw [pG,bI]; exact aeK
       ·rw [pG,bI];have:=cw.keep hs.view.kp _ _ g4;show cw _ w.heap (bD E.ρ (rowOf t) [] pt 0) us;rw [hρ];exact this
     ·simp [T.leaf] at h
    ·simp [T.leaf] at h
   ·simp [T.leaf] at h
  ·simp [T.leaf] at h
theorem KS [bG] {α:Type} {ρ:Nat->Int} {eY:List Nat} {y:α} {w:World} (B:Nat) (key:D): ∀{cs:List FC} {j:Nat} {vs:List W} {s:St} {k:V->St->T α} {E:En} {us:List Value},E.ρ=ρ->bN E s.h w->bT ρ s.pc->cw E w.heap vs us->(Gx eY cs j vs s k).leaf ρ=some y->
 ∃x h' ea E',bT ρ ea/\lH w E s.h E' h'/\us.length=cs.length/\(∀i c u,cs[i]?=some c->us[i]?=some u->oU E' w.heap B key (j+i+1) (eY.getD (j+i+2) 0) c ((dec (x.den ρ)).hd i) u)/\(k x { s with h:=h',pc:=ea }).leaf ρ=some y
 |[],j,[],s,k,E,us,hρ,r,hp,hv,h=>by rw [fP] at hv;subst hv;exact⟨_,s.h,s.pc,E,hp,lH.refl r,rfl,fun i c u hc=>by simp at hc,h⟩
 |[],j,_::_,s,k,E,us,hρ,r,hp,hv,h=>by simp [Gx,T.leaf] at h
 |_::_,j,[],s,k,E,us,hρ,r,hp,hv,h=>by simp [Gx,T.leaf] at h
 |c::cs,j,v::vs,s,k,E,us,hρ,r,hp,hv,h=>by
  simp only [Gx] at h;rw [bO] at hv;obtain⟨u,us,rfl,hv,G5⟩:=hv;obtain⟨a,U,fI,E1,fq,f1,o1,g1⟩:=P6 B key (j+1) hρ r hp hv h;obtain⟨b,Z,jH,E2,jz,f2,Y,o2,g2⟩:=KS (s:={ s with h:=U,pc:=fI }) B key (f1.view.kp.ρ.trans hρ) f1.view.rel fq (cw.keep f1.view.kp _ _ G5) g1;refine⟨_,Z,jH,E2,jz,f1.trans r f2,by simp [Y],fun i c' u' hc hu=>?_,g2⟩;have hd0:dec ((eD a b).den ρ)= .p (dec (a.den ρ)) (dec (b.den ρ)):=by simp only [eD,V.den,eZ.den,bB]
  cases i with
  |zero=> simp only [aF,ag] at hc hu;subst hc hu;rw [hd0];exact f2.own o1
  |succ i=>
   have:=o2 i c' u' (by simpa using hc) (by simpa using hu);have e1:j+(i+1)=j+1+i:=J
   rw [hd0,e1];exact this
theorem P_ [bG] {α:Type} {ρ:Nat->Int} {t:Nat} {eY:List Nat} {v:W} {y:α} {w:World} (B:Nat) (key:D) {s:St} {k:V->St->T α} {E:En} {u:Value} (hρ:E.ρ=ρ) (r:bN E s.h w) (hp:bT ρ s.pc) (hv:VR E w.heap v u) (h:(aek t eY v s k).leaf ρ=some y) :
 ∃x h' ea E',bT ρ ea/\lH w E s.h E' h'/\qg E' w.heap B t eY key (dec (x.den ρ)) u/\(k x { s with h:=h',pc:=ea }).leaf ρ=some y:=by
 unfold aek at h;unfold qg;split at h
 ·rename_i Oj;rw [Oj];split at h
  ·rename_i c hc;obtain⟨x,U,fI,E1,fq,f1,o1,g1⟩:=P6 B key 1 hρ r hp hv h;exact⟨x,U,fI,E1,fq,f1,⟨c,hc,o1⟩,g1⟩
  ·simp [T.leaf] at h
 ·rename_i Oj;rw [Oj];split at h
  ·rename_i i o;split at h
   ·split at h
    ·rename_i ob Y;split at h
     ·rename_i cs ty;split at h
      ·rename_i Oe;have Oe:=aq Oe;subst Oe;have ho:=(r.live i _ Y).2.1;simp only [OR] at ho;obtain⟨arr,lo,hi,us,g1,g2,g3,g4,g5,g6,g7⟩:=ho;simp only [VR] at hv;obtain⟨rfl,_⟩:=hv;have hs:=r7 r Y (B,key,0);obtain⟨x,U,fI,E1,fq,f1,A6,o1,q1⟩:=KS (s:={ s with h:=s.h.drop i }) (E:=E.T7 (E.θ i).1 (B,key,0)) B key hρ hs.view.rel hp (cw.keep hs.view.kp _ _ g2) h;have hvl:=g2.length;refine⟨x,U,fI,E1,fq,hs.trans r f1,⟨(E.θ i).1,(E.θ i).2,arr,lo,hi,by rw [bh],f1.mono _ _ (te _ _ _),g1,J,g6,fun q c hc=>?_⟩,q1⟩;have hql:=(aW.1 hc).1;have hqu:q<us.length:=J
       have hu:=aM hqu;refine⟨us[q],g3 q _ hu,g7 _ (az hqu),?_⟩;have:=o1 q c _ hc hu;rw [ay] at this;exact this
      ·simp [T.leaf] at h
     ·simp [T.leaf] at h
    ·simp [T.leaf] at h
   ·simp [T.leaf] at h
  ·simp [T.leaf] at h
theorem GQ {n:Int} {d:D}: ∀{ds:List D},D.i n∈ds.map ji->(lP ds (.i n) d).map ji=ds.map ji
 |[],h=>by simp at h
 |a::ds,h=>by
  simp only [lP];by_cases hk:ji a= .i n
  ·rw [ah hk];simp [ji,hk];exact hk.symm
  ·rw [af hk];simp only [ax,aw] at h;rcases h with h|h
   ·exact absurd h.symm hk
   ·simp only [ax,GQ h]
theorem eP.pck {E E':En} {h:Array Obj} (kp:fw E h E' h) (mono: ∀b x,E.hd b=some x->E'.hd b=some x) {B t:Nat} {eY:List Nat} {l:List (V×W)} {x:V} {v:W} {n:Int} {d:D} (hx:x.den E.ρ=n) (Y:lJ E.ρ n l=none) :
 ∀{ds:List D} {es:List MapEntry},(ds.map ji).Nodup->(∀e1∈es,e1.key= .int .i64 n->qg E' h B t eY (.i n) d e1.val)->eP E h B t eY ((x,v)::l) ds es->eP E' h B t eY l (if D.i n∈ds.map ji then lP ds (.i n) d else ds) es
 |[],es,_,_,ho=>by simp only [anr,amI,if_false]; exact ho
 |a::ds,_,BW,hv,⟨e0,rr,m,h0,q1,q2,q3,q4⟩=>by
  subst h0;have hk:ji a= .i m:=by rw [q1]; rfl
  simp only [ax,amX] at BW;have ih:=eP.pck kp mono hx Y BW.2 (fun e1 U Z=>hv e1 (by simp [U]) Z) q4;by_cases hm:m=n
  ·subst hm;rw [hk] at BW;rw [af BW.1] at ih;simp only [ax,aw,hk,true_or,if_true,lP];refine⟨e0,rr,m,rfl,rfl,q2,?_,ih⟩;rw [kp.ρ,Y];exact hv e0 ad q2
  ·have gn: ¬D.i n=D.i m:=by simpa using fun e=>hm e.symm
   have alh: ¬ji a= .i n:=by rw [hk]; simpa using hm
   have hq:(match lJ E'.ρ m l with |some v=>VR E' h v e0.val|none=>qg E' h B t eY (.i m) (FW a) e0.val):=by
    simp only [lJ,hx] at q3;rw [af (fun e=>hm e.symm)] at q3;rw [kp.ρ]
    cases ho:lJ E.ρ m l with
    |some v=>rw [ho] at q3; exact VR.keep kp _ _ q3
    |none=>rw [ho] at q3; exact q3.keep kp fun b j hb=> ⟨mono b _ hb,rfl⟩
   simp only [ax,aw,hk,gn,false_or];by_cases rq:D.i n∈ds.map ji
   ·rw [ah rq] at ih ⊢;simp only [lP,af alh];exact⟨e0,rr,m,rfl,q1,q2,hq,ih⟩
   ·rw [af rq] at ih ⊢;exact⟨e0,rr,m,rfl,q1,q2,hq,ih⟩
theorem eP.told {E:En} {h:Array Obj} {B t:Nat} {eY:List Nat} {ov:List (V×W)} {n:Int} {v:W} (qH:lJ E.ρ n ov=some v): ∀{ds:List D} {es:List MapEntry},eP E h B t eY ov ds es->∀e1∈es,e1.key= .int .i64 n->VR E h v e1.val
 |[],es,he,e1,U,_=>by simp only [eP] at he; subst he; simp at U
 |a::ds,_,⟨e0,rr,m,h0,q1,q2,q3,q4⟩,e1,U,Z=>by
  subst h0;rcases aw.1 U with rfl|U
  ·rw [q2] at Z;simp only [Value.int.injEq,true_and] at Z;subst Z;rw [qH] at q3;exact q3
  ·exact eP.told qH q4 e1 U Z
theorem eP.first {E:En} {h:Array Obj} {B t:Nat} {eY:List Nat} {ov:List (V×W)} {n:Int}: ∀{ds:List D} {es:List MapEntry},(ds.map ji).Nodup->D.i n∈ds.map ji->eP E h B t eY ov ds es->∃en∈es,en.key= .int .i64 n/\∀e1∈es,e1.key= .int .i64 n->e1=en
 |[],_,_,hf,_=>by simp at hf
 |a::ds,_,BW,hf,⟨e0,rr,m,h0,q1,q2,q3,q4⟩=>by
  subst h0;have hk:ji a= .i m:=by rw [q1]; rfl
  simp only [ax,amX] at BW;simp only [ax,aw,hk] at hf;by_cases hm:m=n
  ·subst hm;refine⟨e0,ad,q2,fun e1 U Z=>?_⟩;rcases aw.1 U with rfl|U
   ·rfl
   ·obtain⟨i,hi⟩:=an2 U;exact absurd (eP.set.eP.CQ q4 hi Z) (by rw [<- hk]; exact BW.1)
  ·rcases hf with hf|hf
   ·exact absurd (by simpa using hf:n=m).symm hm
   ·obtain⟨en,p1,p2,p3⟩:=eP.first BW.2 hf q4;refine⟨en,by simp [p1],p2,fun e1 U Z=>?_⟩;rcases aw.1 U with rfl|U
    ·rw [q2] at Z;simp only [Value.int.injEq,true_and] at Z;exact absurd Z hm
    ·exact p3 e1 U Z
theorem KR [bG] {α:Type} {ρ:Nat->Int} {t:Nat} {eY:List Nat} {y:α} {w:World} {B:Nat} {bJ:List MapEntry}: ∀{ov:List (V×W)} {e:V} {s:St} {k:V->St->T α} {E:En},E.ρ=ρ->bN E s.h w->bT ρ s.pc->Ap ρ (dec (e.den ρ)).l ov->eP E w.heap B t eY ov (dec (e.den ρ)).l bJ->(P5 t eY ov e s k).leaf ρ=some y->
 ∃e' h' ea E',bT ρ ea/\lH w E s.h E' h'/\Ap ρ (dec (e'.den ρ)).l []/\eP E' w.heap B t eY [] (dec (e'.den ρ)).l bJ/\(k e' { s with h:=h',pc:=ea }).leaf ρ=some y
 |[],e,s,k,E,hρ,r,hp,fo,en,h=> ⟨e,s.h,s.pc,E,hp,lH.refl r,fo,en,h⟩
 |(x,v)::l,e,s,k,E,hρ,r,hp,fo,en,h=>by
  simp only [P5] at h;have rq:=fo.2.1 (x,v) ad
  have Ar:lJ ρ (x.den ρ) l=none:=by
   cases ho:lJ ρ (x.den ρ) l with
   |none=>rfl
   |some u=> have:=IB ho;have h3:=fo.2.2;simp only [ax,amX] at h3;exact absurd this h3.1
  obtain⟨en0,p1,p2,p3⟩:=eP.first fo.1 rq en;have hv:=eP.told (E:=E) (n:=x.den ρ) (v:=v) (by simp only [lJ]; rw [hρ,ah rfl]) en en0 p1 p2;obtain⟨d,U,fI,E1,fq,f1,o1,g1⟩:=P_ B (.i (x.den ρ)) hρ r hp hv h
  have pG:dec ((V.op .u5 e (eD (mY x) d)).den ρ)=dL (lP (dec (e.den ρ)).l (.i (x.den ρ)) (dec (d.den ρ))):=by simp only [eD,V.den,eZ.den,bB,rQ]
  have hk:=GQ (d:=dec (d.den ρ)) rq;have en1:=eP.pck f1.view.kp f1.mono (n:=x.den ρ) (d:=dec (d.den ρ)) (by rw [hρ]) (by rw [hρ]; exact Ar) fo.1 (fun e1 U Z=>by rw [p3 e1 U Z]; exact o1) en;rw [ah rq] at en1
  obtain⟨e',Z,jH,E2,jz,f2,fo2,en2,g2⟩:=KR (s:={ s with h:=U,pc:=fI }) (f1.view.kp.ρ.trans hρ) f1.view.rel fq (e:=.op .u5 e (eD (mY x) d)) (by
   rw [pG,bI];refine⟨by rw [hk]; exact fo.1,fun p hp=>by rw [hk]; exact fo.2.1 p (by simp [hp]),?_⟩;have h3:=fo.2.2;simp only [ax,amX] at h3
   exact h3.2) (by rw [pG,bI]; exact en1) g1
  exact⟨e',Z,jH,E2,jz,f1.trans r f2,fo2,en2,g2⟩
theorem P! [bG] {α:Type} {ρ:Nat->Int} {id:Nat} {y:α} {w:World} {s:St} {k:St->T α} {E:En} (hρ:E.ρ=ρ) (r:bN E s.h w) (hp:bT ρ s.pc) (h:(P? id s k).leaf ρ=some y) :
 ∃h' ea E',bT ρ ea/\View E s.h w E' h'/\(k { s with h:=h',pc:=ea }).leaf ρ=some y:=by
 unfold P? at h;split at h
 ·rename_i o Y;split at h
  ·rename_i e t eY ov;obtain⟨g0,bJ,c',g1,g2⟩:=zL r Y;rw [hρ] at g0 g2;obtain⟨dst,drl⟩:=wK r id;obtain⟨e',U,fI,E1,fq,f1,fo1,en1,q1⟩:=KR (s:={ s with h:=s.h.drop id }) hρ drl hp g0 g2 h;have T6:=(r.live id _ Y).1;have hθ:=f1.view.kp.θ id T6;have hρ1:E1.ρ=ρ:=f1.view.kp.ρ.trans hρ
   have Yk: ∀j o,(s.h.drop id).get j=some o->s.h.get j=some o/\j≠id:=by
    intro j o hj;rw [Hp.kj] at hj;split at hj
    ·simp at hj
    ·rename_i e; exact⟨hj,e⟩
   have abZ: ∀b,E1.ro b\/(∃x,E1.hd b=some x)->b≠(E.θ id).1:=by
    intro b hb e;subst e;rcases f1.hold _ hb with h|⟨x,h⟩|⟨j,o,U,Z⟩
    ·exact (r.live id _ Y).2.2 h
    ·exact (r.hid _ _ h).2.2 id _ Y rfl
    ·obtain⟨q1,q2⟩:=Yk j o U;exact q2 (r.inj j id _ _ q1 Y Z)
   have hr:bN E1 (U.put id (.ur e' t eY [])) w:=by
    refine KK f1.view.rel (f1.view.kp.dm id T6) ?_ (fun j o hj=>?_) ?_ ?_
    ·rw [hθ]; exact fun h=>abZ _ (.inl h) rfl
    ·obtain⟨q1,q2⟩:=Yk j o (f1.sub j o hj);refine⟨q2,?_⟩;rw [hθ,f1.view.kp.θ j (r.live j o q1).1];exact fun e=>q2 (r.inj j id _ _ q1 Y e)
    ·rw [hθ]; exact fun x h=>abZ _ (.inr ⟨x,h⟩) rfl
    ·simp only [OR];rw [hρ1,hθ];exact⟨fo1,bJ,c',g1,en1⟩
   refine⟨_,fI,E1,fq,⟨hr,f1.view.kp,fun b hb=>?_,fun b hb=>?_⟩,q1⟩
   ·rcases f1.view.rF b hb with h|⟨i0,o0,p1,p2⟩|p
    ·exact .inl h
    ·exact .inr (.inl ⟨i0,o0,(Yk i0 o0 p1).1,p2⟩)
    ·exact .inr (.inr p)
   ·rcases hb with ⟨j,o,q1,q2⟩|q
    ·rw [Hp.bP] at q1;split at q1
     ·rename_i e;rw [e,hθ] at q2;exact .inl ⟨id,_,Y,q2⟩
     ·rcases f1.view.hold b (.inl ⟨j,o,q1,q2⟩) with ⟨i0,o0,p1,p2⟩|p
      ·exact .inl ⟨i0,o0,(Yk i0 o0 p1).1,p2⟩
      ·exact .inr p
    ·rcases f1.view.hold b (.inr q) with ⟨i0,o0,p1,p2⟩|p
     ·exact .inl ⟨i0,o0,(Yk i0 o0 p1).1,p2⟩
     ·exact .inr p
  ·exact⟨s.h,s.pc,E,hp,View.refl r,h⟩
 ·exact⟨s.h,s.pc,E,hp,View.refl r,h⟩
end
end Go.As
end
section
namespace Go.As
noncomputable section
open Go.RowKit
section
variable {P:Program} {c:Code} {Q:Exit->Act->World->Prop} {a:Act} {w:World}
def Fy (P:Program) (c:Code) (Q:Exit->Act->World->Prop) (a:Act) (w:World):Prop:=
 ∀b k cs,∃e a' w',Q e a' w'/\Arrives P (lone (b.at a (.code c::.inLoop c::k)) cs w) b k cs e a' w'
theorem N0 (h:c.wp P (Exit.then (Fy P c Q) Q) a w):Fy P c Q a w:=by
 intro b k cs;obtain⟨e,a₁,w₁,hq,LI⟩:=h b (.inLoop c::k) cs
 cases e with
 |normal=> obtain⟨e₂,a₂,w₂,hq₂,harr₂⟩:=hq b k cs;exact⟨e₂,a₂,w₂,hq₂,.of_steps (Steps.trans LI (.one step_inLoop)) harr₂⟩
 |exit id=>exact⟨_,a₁,w₁,hq,.pass (x:=.inLoop c) rfl (fun _ _=> .inl ad) LI⟩
 |goto l=>exact⟨_,a₁,w₁,hq,.pass (x:=.inLoop c) rfl (fun _ _=> .inl ad) LI⟩
 |ret=>exact⟨_,a₁,w₁,hq,.pass (x:=.inLoop c) rfl (fun _ _=> .inl ad) LI⟩
 |panic ch=>exact⟨_,a₁,w₁,hq,.pass (x:=.inLoop c) rfl (fun _ _=> .inl ad) LI⟩
 |outgrown=>exact⟨_,a₁,w₁,hq,.pass (x:=.inLoop c) rfl (fun _ _=> .inl ad) LI⟩
theorem N1 (h:Fy P c Q a w):(Code.loop c).wp P Q a w:=by intro b k cs;obtain⟨e,a',w',hq,LI⟩:=h b k cs;exact⟨e,a',w',hq,.of_steps (.one step_loop) LI⟩
end
inductive FrE where
 |seq (p:List Nat) (c:Code)
 |block (id:Nat)
 |loop (p:List Nat) (b:Code)
 |scope
def oN (body:Code):List Nat->Option (Code×List FrE)
 |[]=>some (body,[])
 |d::p=>match oN body p with
  |some (.seq a b,fr)=>match d with
   |0=>some (a,.seq (1::p) b::fr)
   |_=>some (b,fr)
  |some (.block id b,fr)=>some (b,.block id::fr)
  |some (.cond _ a b,fr)=>match d with
   |0=>some (a,fr)
   |_=>some (b,fr)
  |some (.loop b,fr)=>some (b,.loop p b::fr)
  |some (.scope b,fr)=>some (b,.scope::fr)
  |_=>none
def Fz (body:Code):List FrE->Prop
 |[]=>True
 | .seq p c::fr=>oN body p=some (c,fr)/\Fz body fr
 | .block _::fr=>Fz body fr
 | .loop p b::fr=>oN body p=some (.loop b,fr)/\Fz body fr
 | .scope::fr=>Fz body fr
def KE (P:Program) (Q:Exit->Act->World->Prop):List FrE->Exit->Act->World->Prop
 |[]=>Q
 | .seq _ c::fr=>Exit.then (fun a w=>c.wp P (KE P Q fr) a w) (KE P Q fr)
 | .block id::fr=>Exit.inBlock id (KE P Q fr)
 | .loop _ b::fr=>Exit.then (Fy P b (KE P Q fr)) (KE P Q fr)
 | .scope::fr=>Exit.noGoto (KE P Q fr)
inductive RK where
 |one (c:CK)
 |agg (cs:List CK)
 deriving DecidableEq,Inhabited
def RK.flat:RK->List CK
 | .one c=>[c]
 | .agg cs=>cs
def oH:List RK->List CK
 |[]=>[]
 |r::rs=>r.flat++oH rs
def Su (c:CK) (t:V):W:=match c with
 | .int k=> .int k t
 | .bool=> .bool (.not (.eq t (.lit 0)))
 | .str=> .jD t
 | .sl ty=> .eg t ty
def Fj:List CK->(Nat->V)->Nat->List W
 |[],_,_=>[]
 |c::cs,f,i=>Su c (f i)::Fj cs f (i+1)
def pF:List RK->(Nat->V)->Nat->List W
 |[],_,_=>[]
 | .one c::r,f,i=>Su c (f i)::pF r f (i+1)
 | .agg cs::r,f,i=> .agg (Fj cs f i)::pF r f (i+cs.length)
def Xq (c:CK) (v:W):Option V:=match c with
 | .int k=>match v with
   | .int k' e=>if k=k' then some e else none
   |_=>none
 | .bool=>none
 | .str=>tT v
 | .sl t=>lS (.sl t) v
def aak:W->Bool
 | .agg _=>false
 | .tuple _=>false
 |_=>true
def cellsOf:List RK->List W->Option (List W)
 |[],[]=>some []
 | .one _::rs,v::vs=>match aak v with
   |true=>match cellsOf rs vs with
    |some l=>some (v::l)
    |none=>none
   |false=>none
 | .agg cs::rs,v::vs=>match v with
   | .agg xs=>match Nat.beq xs.length cs.length with
     |true=>match cellsOf rs vs with
      |some l=>some (xs++l)
      |none=>none
     |false=>none
   |_=>none
 |_,_=>none
def outs {α:Type}:List CK->List W->St->(List V->St->T α)->T α
 |[],[],s,k=>k [] s
 |c::cs,v::vs,s,k=>match c with
  | .bool=>match v with
    | .bool b=>jn s b fun s b=>outs cs vs s fun es s=>k (.lit (if b then 1 else 0)::es) s
    |_=> .fail
  |c=>match Xq c v with
   |some e=>outs cs vs s fun es s=>k (e::es) s
   |none=> .fail
 |_,_,_,_=> .fail
def fU:List V->V
 |[]=> .eg (.i 0)
 |e::es=>eD (mY e) (fU es)
def oy (r:V) (i:Nat):V:=.op .num (.op (.cell i) r (.lit 0)) (.lit 0)
inductive Lf where
 |out (es:List V)
 |jump (j:Nat) (es:List V)
 deriving Inhabited
inductive KX where
 |cell (t j:Nat)
 |row (t j:Nat) (k:KX) (q:Nat)
 |Ud (t:Nat)
 deriving Inhabited
def KX.ev (s:St):KX->Option V
 | .Ud _=>none
 | .cell t j=>match s.bE.get t with
   |some v=>match v with
    | .agg cs=>match eX cs j with
      |some w=>match w with
       | .int _ e=>some e
       |_=>none
      |none=>none
    | .int _ e=>some e
    | .ptr i o=>match s.h.get i with
      |some ob=>match ob with
       | .cells cs _=>match eX cs (o+j) with
         |some w=>match w with
          | .int _ e=>some e
          |_=>none
         |none=>none
       |_=>none
      |none=>none
    |_=>none
   |none=>none
 | .row t j k q=>match KX.ev s k with
   |none=>none
   |some x=>match s.bE.get t with
    |some v=>match v with
     | .agg cs=>match eX cs j with
       |some w=>match w with
        | .eg e _=>some (yJ (iL q (.op .at e x)))
        |_=>none
       |none=>none
     | .eg e _=>some (yJ (iL q (.op .at e x)))
     | .ptr i o=>match s.h.get i with
       |some ob=>match ob with
        | .cells cs _=>match eX cs (o+j) with
          |some w=>match w with
           | .eg e _=>some (yJ (iL q (.op .at e x)))
           |_=>none
          |none=>none
        |_=>none
       |none=>none
     |_=>none
    |none=>none
structure FH where
 r:Nat
 gd:Option (KX×Int)
 k:KX
 deriving Inhabited
def Ez:Tr dP->List Nat
 | .nil=>[]
 | .node v l r=>(match v with
   |some o=>match nf o with
    |true=>[]
    |false=>[0]
   |none=>[])++((Ez l).map fun i=>2*i+1)++((Ez r).map fun i=>2*i+2)
def Jf {α:Type} (x:V):List Nat->St->(St->T α)->T α
 |[],s,k=>k s
 |i::l,s,k=>aag i x s fun s=>Jf x l s k
def NS {α:Type}:List Nat->St->(St->T α)->T α
 |[],s,k=>k s
 |i::l,s,k=>P? i s fun s=>NS l s k
def ae9 {α:Type} (t j kd:Nat) (s:St) (k:St->T α):T α:=match s.bE.get t with
 |some p=>match p with
  | .ptr i o=>match s.h.get i with
    |some ob=>match ob with
     | .cells cs _=>match eX cs (o+j) with
       |some v=>LO v s fun v s=>match s.h.get i with
        |some ob=>match ob with
         | .cells cs e=>match lS (.sl kd) v with
           |some x=>k { s with h:=s.h.put i (.cells (cs.set (o+j) (.eg x kd)) e) }
           |none=> .fail
         |_=> .fail
        |none=> .fail
       |none=>k s
     |_=>k s
    |none=>k s
  |_=>k s
 |none=>k s
def aad {α:Type} (t:Nat) (s:St) (k:St->T α):T α:=match Nat.ble 1000000 t with
 |true=>ae9 (t % 1000) (t / 1000000-1) (t / 1000 % 1000-1) s k
 |false=>match s.bE.get (t % 1000) with
 |some v=>LO v s fun v s=>match Nat.ble 1000 t with
  |true=>match lS (.sl (t / 1000-1)) v with
   |some e=>k { s with bE:=s.bE.put (t % 1000) (some (.eg e (t / 1000-1))) }
   |none=> .fail
  |false=>k { s with bE:=s.bE.put (t % 1000) (some v) }
 |none=>k s
def FU {α:Type} (r:Nat):List FH->St->(St->T α)->T α
 |[],s,k=>k s
 |h::hs,s,k=>match Nat.beq h.r r with
  |false=>FU r hs s k
  |true=>match h.k.ev s with
   |none=>match h.k with
    | .Ud t=>aad t s fun s=>FU r hs s k
    |_=>FU r hs s k
   |some x=>match h.gd with
    |none=>Jf x (Ez s.h.m) s fun s=>FU r hs s k
    |some (g,n)=>match g.ev s with
     |none=>FU r hs s k
     |some y=>jn s (ra y (.lit n)) fun s b=>match b with
      |true=>Jf x (Ez s.h.m) s fun s=>FU r hs s k
      |false=>FU r hs s k
def abH:Code->Option Nat
 | .region id _ _=>some id
 |_=>none
structure tR where
 tt:TT
 call:ek
 draw:Nat->List Oper->St->T St
 lf:Nat
 res:List ResultVar
 lh:List RK
 eh:List dP:=[]
 ko:Nat:=0
 oz:List CS:=[]
 ic:Nat:=0
 fz:List (Nat×Nat×Nat):=[]
 U1:List FH:=[]
def Ho (g:tR):Bool:=match g.U1 with
 |[]=>false
 |_::_=>match g.eh with
  |[]=>match g.oz with
   |[]=>true
   |_=>false
  |_=>false
def Ue {α:Type} (r:Nat):List FH->St->(St->T α)->T α
 |[],s,k=>k s
 |h::hs,s,k=>match Nat.beq h.r r with
  |false=>Ue r hs s k
  |true=>match h.k with
   | .Ud t=>aad t s fun s=>Ue r hs s k
   |_=>Ue r hs s k
def Uf {α:Type} (g:tR) (c:Code) (s:St) (k:St->T α):T α:=match Ho g with
 |true=>match abH c with
  |some r=>FU r g.U1 s k
  |none=>k s
 |false=>match g.oz with
  |[]=>match abH c with
   |some r=>Ue r g.U1 s k
   |none=>k s
  |_::_=>k s
def abK:List Nat->Nat
 |[]=>1000000
 |d::p=>1000000+2*(abK p-1000000)+d+1
def abM (p:List Nat):List FH->Bool
 |[]=>false
 |h::hs=>match Nat.beq h.r (abK p) with
  |true=>true
  |false=>abM p hs
def TE {α:Type} (g:tR) (p:List Nat) (s:St) (k:St->T α):T α:=match Ho g with
 |true=>match abM p g.U1 with
  |true=>k s
  |false=>NS (Ez s.h.m) s k
 |false=>k s
def tR.ev (g:tR) (c:Code) (s:St):T (Ex×St):=iY g.tt g.call g.draw g.lf c s
abbrev Cw:=List Nat->Option (List (Nat×CS))
def aeE:Nat->Tr (Nat×Nat)
 |0=> .nil
 |n+1=>(aeE n).put n (some (n,0))
def gM (g:tR) (h:Hp):Ren:=match A9 h g.eh 0 ⟨.nil,aeE g.eh.length⟩ with
 |⟨ns,_⟩=> ⟨xS ns g.ko 0,List.range g.eh.length,[]⟩
def CS.jh (m:Nat) (c:CS) (s:St):Ren:=match A9 s.h c.dz 0 (CX s.bE c.bE ⟨.nil,aeE m⟩) with
 |⟨ns,bl⟩=> ⟨xS ns c.k 0,IN bl c.dz.length 0,IM bl c.dz.length 0⟩
def Ee (m:Nat) (r:Ren):Bool:=match m with
 |0=>true
 |n+1=>(match eX r.bl n with |some j=>Nat.beq j n|none=>false)&&Nat.beq (r.uz n) 0&&Ee n r
def B1:Nat->Nat->List V->List V
 |0,_,ns=>ns
 |_+1,_,[]=>[]
 |n+1,i,_::ns=> .dH i::B1 n (i+1) ns
def ry (ic:Nat) (r:Ren):Ren:=match ic with
 |0=>r
 |n+1=>{ r with ns:=B1 (n+1) 0 r.ns }
def Mb (n m ic:Nat) (s:St):List CS->Nat->T Lf
 |[],_=> .fail
 |c::l,i=>match quick s.bE c.bE&&Nat.beq n c.bE.length with
  |false=>Mb n m ic s l (i+1)
  |true=>match c.fits t! s (ry ic (c.jh m s))&&Ee m (ry ic (c.jh m s)) with
   |true=> .ret (.out (.lit (Int.ofNat i)::(ry ic (c.jh m s)).ns))
   |false=>Mb n m ic s l (i+1)
def LP {α:Type}:List (Nat×Nat×Nat)->List W->St->(List W->St->T α)->T α
 |[],vs,s,k=>k vs s
 |(r,f,t)::l,vs,s,k=>match eX vs r with
  |some (.agg xs)=>match eX xs f with
   |some x=>LO x s fun x s=>match lS (.sl t) x with
    |some e=>LP l (vs.set r (.agg (xs.set f (.eg e t)))) s k
    |none=> .fail
   |none=> .fail
  |_=> .fail
def YK (g:tR) (e:Ex) (s:St):T Lf:=match e with
 | .exit _=> .fail
 |_=>match kQ g.tt s g.res with
  |none=> .fail
  |some vs=>match g.oz with
   |[]=>match cellsOf g.lh vs with
    |none=> .fail
    |some cells=>xr cells s fun cells s=>match AR (gM g s.h) g.eh.length s.h g.eh 0 with
     |true=>outs (oH g.lh) cells s fun es _=> .ret (.out ((gM g s.h).ns++es))
     |false=> .fail
   |c::l=>LP g.fz vs s fun vs s=>Mb vs.length g.eh.length g.ic ⟨cq vs 0 .nil,s.h,s.pc⟩ (c::l) 0
def rk (m ic:Nat) (s:St):List (Nat×CS)->T Lf
 |[]=> .fail
 |(j,c)::l=>match quick s.bE c.bE with
  |false=>rk m ic s l
  |true=>match c.fits t! s (ry ic (c.jh m s))&&Ee m (ry ic (c.jh m s)) with
   |true=> .ret (.jump j (ry ic (c.jh m s)).ns)
   |false=>rk m ic s l
def Nd {α:Type} (k:St->T α):List (Nat×Nat)->St->T α
 |[],s=>k s
 |(t,g)::l,s=>match s.bE.get t with
  |some (.int _ e)=>jn s (.eq e (.dH g)) fun s _=>Nd k l s
  |_=>Nd k l s
def vL {α:Type} (k:St->T α):List Nat->St->T α
 |[],s=>k s
 |t::ts,s=>match s.bE.get t with
  |some (.bool c)=>jn s c fun s b=>vL k ts { s with bE:=s.bE.put t (some (.bool (.lit b))) }
  |_=>vL k ts s
def c!:List (Nat×W)->List Nat->List Nat
 |[],acc=>acc
 |(t,.bool _)::l,acc=>c! l (t::acc)
 |_::l,acc=>c! l acc
def d_:List (Nat×CS)->List Nat->List Nat
 |[],acc=>acc
 |(_,c)::l,acc=>d_ l (c! c.bE acc)
mutual
def wZ (g:tR) (fe:Cw):Nat->List Nat->Code->List FrE->St->T Lf
 |0,_,_,_,_=> .fail
 |n+1,p,c,fr,s=>match fe p with
  |some l=>TE g p s fun s=>vL (fun s=>rk g.eh.length g.ic s l) (d_ l []) s
  |none=>match c with
   | .seq a b=>wZ g fe n (0::p) a (.seq (1::p) b::fr) s
   | .block id b=>wZ g fe n (0::p) b (.block id::fr) s
   | .scope b=>wZ g fe n (0::p) b (.scope::fr) s
   | .cond v a b=>match As.ev s v with
     |some (.bool c)=>jn s c fun s t=>match t with
      |true=>wZ g fe n (0::p) a fr s
      |false=>wZ g fe n (1::p) b fr s
     |_=> .fail
   |c=>Uf g c s fun s=>(g.ev c s).bind fun (e,s')=>tm g fe n fr e s'
def tm (g:tR) (fe:Cw):Nat->List FrE->Ex->St->T Lf
 |0,_,_,_=> .fail
 |n+1,fr,e,s=>match fr with
  |[]=>YK g e s
  | .seq p c::fr=>match e with
    | .normal=>wZ g fe n p c fr s
    |e=>tm g fe n fr e s
  | .block id::fr=>match e with
    | .exit j=>match Nat.beq j id with
      |true=>tm g fe n fr .normal s
      |false=>tm g fe n fr (.exit j) s
    |e=>tm g fe n fr e s
  | .loop p _::fr=>match e with
    | .normal=>match fe p with
      |some l=>TE g p s fun s=>vL (fun s=>rk g.eh.length g.ic s l) (d_ l []) s
      |none=> .fail
    |e=>tm g fe n fr e s
  | .scope::fr=>tm g fe n fr e s
end
abbrev n7:=Nat->List Int->Option (List Int)
def me (xs:List Int):Int:=enc (dL (xs.map .i))
def Good (F:n7) (ρ:Nat->Int):Prop:= ∀j xs,ρ (iZ (2*j) (me xs))=(if (F j xs).isSome then 1 else 0)/\ρ (iZ (2*j+1) (me xs))=me ((F j xs).getD [])
def low (xs:List Int) (i:Nat):Int:=xs.getD i 0
open Classical in
def cV (F:n7) (lo:Nat->Int) (i:Nat):Int:=if i<900 then lo i else
 if h: ∃p:Nat×List Int,i=iZ (2*p.1) (me p.2) then (if (F h.choose.1 h.choose.2).isSome then 1 else 0) else
 if h: ∃p:Nat×List Int,i=iZ (2*p.1+1) (me p.2) then me ((F h.choose.1 h.choose.2).getD []) else 0
theorem MA {a b:List Int} (h:me a=me b):a=b:=by
 unfold me at h;have:=Fb (gZ h)
 have LA: ∀{x y:List Int},x.map D.i=y.map D.i->x=y:=by
  intro x
  induction x with
  |nil=>intro y h; cases y with |nil=>rfl|cons z y=>simp at h
  |cons z x ih=>
   intro y h
   cases y with
   |nil=>simp at h
   |cons q y=>
    grind
 grind
theorem sv {f g:Nat} {a b:Int} (h:iZ f a=iZ g b):f=g/\a=b:=by
 unfold iZ at h;obtain⟨U,Z⟩:=AT (a:=f) (b:=zN a) (a':=g) (b':=zN b) J
 grind [Vv]
theorem vO (f:Nat) (a:Int):1000<=iZ f a:=by unfold iZ; omega
theorem sk {F:n7} {lo:Nat->Int} {i:Nat} (h:i<900):cV F lo i=lo i:=by unfold cV; rw [ah h]
theorem kS (F:n7) (lo:Nat->Int):Good F (cV F lo):=by
 intro j xs;have U:=vO (2*j) (me xs);have Z:=vO (2*j+1) (me xs);constructor
 ·unfold cV;rw [af J];have h: ∃p:Nat×List Int,iZ (2*j) (me xs)=iZ (2*p.1) (me p.2):=⟨(j,xs),rfl⟩;rw [dif_pos h];obtain⟨q1,q2⟩:=sv h.choose_spec;have q2:=MA q2
  grind
 ·unfold cV;rw [af J]
  have hn: ¬∃p:Nat×List Int,iZ (2*j+1) (me xs)=iZ (2*p.1) (me p.2):=by rintro⟨p,hp⟩;have:=(sv hp).1;omega
  rw [dif_neg hn];have h: ∃p:Nat×List Int,iZ (2*j+1) (me xs)=iZ (2*p.1+1) (me p.2):=⟨(j,xs),rfl⟩;rw [dif_pos h];obtain⟨q1,q2⟩:=sv h.choose_spec;have q2:=MA q2
  grind
theorem Good.gL {F:n7} {ρ ρ':Nat->Int} (g:Good F ρ) (h: ∀i,900<=i->ρ' i=ρ i):Good F ρ':=by intro j xs;have U:=vO (2*j) (me xs);have Z:=vO (2*j+1) (me xs);rw [h _ J,h _ J];exact g j xs
def eO (tree:Nat->T Lf):Nat->n7
 |0,_,_=>none
 |n+1,j,xs=>match (tree j).leaf (cV (eO tree n) (low xs)) with
  |none=>none
  |some (.out es)=>some (es.map (V.den (cV (eO tree n) (low xs))))
  |some (.jump j' es)=>eO tree n j' (es.map (V.den (cV (eO tree n) (low xs))))
def Gg:List CK->Bool
 |[]=>true
 |c::l=>match c with
  | .int _=>Gg l
  | .bool=>Gg l
  |_=>false
def X7 (j:Nat) (Fs lh:List RK):List W->St->T (W×St):=fun args s=>match cellsOf Fs args with
 |none=> .fail
 |some cells=>xr cells s fun cells s1=>outs (oH Fs) cells s1 fun es s2=>
  jn s2 (.eq (.ap (2*j) (fU es)) (.lit 1)) fun s3 b=>match b with
   |true=> .ret (match pF lh (oy (.ap (2*j+1) (fU es))) 0 with |[v]=>v|vs=> .tuple vs,match Gg (oH lh) with
    |true=>{ s3 with h:=s.h }
    |false=>s3)
   |false=> .fail
end
end Go.As
end
section
namespace Go.As
open Go.RowKit
def fh (K:Nat):V->Bool
 | .lit _=>true
 | .dH i=>Nat.blt i K
 | .add a b=>fh K a&&fh K b
 | .sub a b=>fh K a&&fh K b
 | .mul a b=>fh K a&&fh K b
 | .quo a b=>fh K a&&fh K b
 | .rem a b=>fh K a&&fh K b
 | .wrap _ a=>fh K a
 | .wy _ _=>false
 | .eg _=>true
 | .op _ a b=>fh K a&&fh K b
 | .ap _ _=>false
def uS (K:Nat):SB->Bool
 | .lit _=>true
 | .lt a b=>fh K a&&fh K b
 | .le a b=>fh K a&&fh K b
 | .eq a b=>fh K a&&fh K b
 | .not s=>uS K s
 | .and a b=>uS K a&&uS K b
mutual
def jS (K:Nat):W->Bool
 | .bool b=>uS K b
 | .int _ e=>fh K e
 | .mJ cs=>lT K cs
 | .ro cs _ _=>lT K cs
 | .func _ a b=>lT K a&&lT K b
 | .iface _ v=>jS K v
 | .agg cs=>lT K cs
 | .tuple cs=>lT K cs
 | .wy _ _=>false
 | .eg e _=>fh K e
 | .jD e=>fh K e
 | .oq _ n _=>fh K n
 | .yu _ _ i _=>fh K i
 | .sD _ l n _=>fh K l&&fh K n
 | .w4 z _=>fh K z
 |_=>true
def lT (K:Nat):List W->Bool
 |[]=>true
 |x::xs=>jS K x&&lT K xs
end
def C6 (K:Nat):List (W×W×Nat)->Bool
 |[]=>true
 |(k,v,_)::l=>jS K k&&jS K v&&C6 K l
def DQ (K:Nat):List (V×List W)->Bool
 |[]=>true
 |(i,cs)::l=>fh K i&&lT K cs&&DQ K l
def tq (K:Nat):List (V×W)->Bool
 |[]=>true
 |(x,v)::l=>fh K x&&jS K v&&tq K l
def xe (K:Nat):dP->Bool
 | .ur e _ _ ov=>fh K e&&tq K ov
 | .cells cs _=>lT K cs
 | .map es _=>C6 K es
 | .j4 _ _=>true
 | .jt _ _ _ _=>true
 | .vec e _ _ ov=>fh K e&&DQ K ov
 | .jT e _=>fh K e
def P7 (K:Nat):List (SB×Bool)->Bool
 |[]=>true
 |(c,_)::l=>uS K c&&P7 K l
def rP (K:Nat):List (Nat×W)->Bool
 |[]=>true
 |(_,v)::l=>jS K v&&rP K l
def CN (K:Nat):List dP->Bool
 |[]=>true
 |o::l=>xe K o&&CN K l
def vI (K:Nat) (c:CS):Bool:=rP K c.bE&&CN K c.dz&&P7 K c.pc
section
variable {K:Nat} {ρ ρ':Nat->Int} (hρ: ∀i,i<K->ρ' i=ρ i)
include hρ
theorem dc: ∀e:V,fh K e=true->e.den ρ'=e.den ρ
 | .lit _,_=>rfl
 | .dH i,h=>by simp only [fh] at h; exact hρ i (yl h)
 | .add a b,h=>by simp only [fh,an] at h; simp only [V.den,dc a h.1,dc b h.2]
 | .sub a b,h=>by simp only [fh,an] at h; simp only [V.den,dc a h.1,dc b h.2]
 | .mul a b,h=>by simp only [fh,an] at h; simp only [V.den,dc a h.1,dc b h.2]
 | .quo a b,h=>by simp only [fh,an] at h; simp only [V.den,dc a h.1,dc b h.2]
 | .rem a b,h=>by simp only [fh,an] at h; simp only [V.den,dc a h.1,dc b h.2]
 | .wrap _ a,h=>by simp only [fh] at h; simp only [V.den,dc a h]
 | .wy _ _,h=>by simp [fh] at h
 | .eg _,_=>rfl
 | .op _ a b,h=>by simp only [fh,an] at h; simp only [V.den,dc a h.1,dc b h.2]
 | .ap _ _,h=>by simp [fh] at h
theorem rS: ∀c:SB,uS K c=true->c.den ρ'=c.den ρ
 | .lit _,_=>rfl
 | .lt a b,h=>by simp only [uS,an] at h; simp only [SB.den,dc hρ a h.1,dc hρ b h.2]
 | .le a b,h=>by simp only [uS,an] at h; simp only [SB.den,dc hρ a h.1,dc hρ b h.2]
 | .eq a b,h=>by simp only [uS,an] at h; simp only [SB.den,dc hρ a h.1,dc hρ b h.2]
 | .not s,h=>by simp only [uS] at h; simp only [SB.den,rS s h]
 | .and a b,h=>by simp only [uS,an] at h; simp only [SB.den,rS a h.1,rS b h.2]
end
section
variable {K:Nat} {E E':En} (hρ: ∀i,i<K->E'.ρ i=E.ρ i) (hθ:E'.θ=E.θ) (hκ:E'.κ=E.κ) (qI:E'.dm=E.dm) (jy:E'.ro=E.ro) {h:Array Obj}
include hρ hθ hκ qI jy
theorem eC.low {id off len:Nat} {a:Addr} {cap:Nat} {c:MN} (hc:eC E id off len a cap c):eC E' id off len a cap c:=by simp_all [eC]
mutual
theorem VR.low: ∀(x:W) (u:Value),jS K x=true->VR E h x u->VR E' h x u
 | .bool b,u,Y,hv=>by simp only [VR,jS] at *; rw [rS hρ b Y]; exact hv
 | .int _ e,u,Y,hv=>by simp only [VR,jS] at *; rw [dc hρ e Y]; exact hv
 | .str s,u,_,hv=>by simp only [VR] at *; exact hv
 | .ptr id off,u,_,hv=>by simp only [VR] at *; rw [hθ,qI]; exact hv
 | .sV,u,_,hv=>by simp only [VR] at *; exact hv
 | .mJ cs,u,Y,hv=>by simp only [VR,jS] at *;obtain⟨b,o,us,U,Z,h3,h4,h5⟩:=hv;exact⟨b,o,us,U,by rw [jy]; exact Z,cw.low cs us Y h3,h4,h5⟩
 | .slice id off len c,u,_,hv=>by simp only [VR] at *;obtain⟨U,a,cap,Z,h3,h4⟩:=hv;exact⟨by rw [qI]; exact U,a,cap,Z,h3,eC.low hρ hθ hκ qI jy h4⟩
 | .dv,u,_,hv=>by simp only [VR] at *; exact hv
 | .ro cs n full,u,Y,hv=>by simp only [VR,jS] at *;obtain⟨b,o,cap,us,U,Z,h3,h4,h5,h6,h7⟩:=hv;exact⟨b,o,cap,us,U,Z,h3,by rw [jy]; exact h4,cw.low cs us Y h5,h6,h7⟩
 | .map id,u,_,hv=>by simp only [VR] at *; rw [hθ,qI]; exact hv
 | .ri,u,_,hv=>by simp only [VR] at *; exact hv
 | .func fn fs cs,u,Y,hv=>by simp only [VR,jS,an] at *;obtain⟨us,ws,U,Z,h3⟩:=hv;exact⟨us,ws,U,cw.low fs us Y.1 Z,cw.low cs ws Y.2 h3⟩
 | .u4,u,_,hv=>by simp only [VR] at *; exact hv
 | .iface t x,u,Y,hv=>by simp only [VR,jS] at *;obtain⟨y,U,Z⟩:=hv;exact⟨y,U,VR.low x y Y Z⟩
 | .wY,u,_,hv=>by simp only [VR] at *; exact hv
 | .agg cs,u,Y,hv=>by simp only [VR,jS] at *;obtain⟨us,U,Z⟩:=hv;exact⟨us,U,cw.low cs us Y Z⟩
 | .tuple cs,u,Y,hv=>by simp only [VR,jS] at *;obtain⟨us,U,Z⟩:=hv;exact⟨us,U,cw.low cs us Y Z⟩
 | .Kc _,u,_,hv=>by simp only [VR] at hv
 | .wy _ _,u,Y,_=>by simp [jS] at Y
 | .emp,u,_,hv=>by simp only [VR] at *; exact hv
 | .eg e t,u,Y,hv=>by simp only [VR,jS] at *; rw [dc hρ e Y,jy]; exact hv
 | .jD e,u,Y,hv=>by simp only [VR,jS] at *; rw [dc hρ e Y,jy]; exact hv
 | .oq id n t,u,Y,hv=>by simp only [VR,jS] at *;obtain⟨U,k,a,cap,Z,h3,h4,h5⟩:=hv;exact⟨by rw [qI]; exact U,k,a,cap,by rw [dc hρ n Y]; exact Z,h3,h4,eC.low hρ hθ hκ qI jy h5⟩
 | .yu id es i off,u,Y,hv=>by simp only [VR,jS] at *;obtain⟨U,k,Z,h3⟩:=hv;exact⟨by rw [qI]; exact U,k,by rw [dc hρ i Y]; exact Z,by rw [hθ]; exact h3⟩
 | .any,u,_,_=>by simp only [VR]
 | .w4 z t,u,Y,hv=>by simp only [VR,jS] at *; rw [dc hρ z Y,jy]; exact hv
 | .sD id lo n t,u,Y,hv=>by simp only [VR,jS,an] at *;obtain⟨U,l,k,a,cap,Z,h3,h4,h5,h6⟩:=hv;exact⟨by rw [qI]; exact U,l,k,a,cap,by rw [dc hρ lo Y.1]; exact Z,by rw [dc hρ n Y.2]; exact h3,h4,h5,eC.low hρ hθ hκ qI jy h6⟩
theorem cw.low: ∀(xs:List W) (us:List Value),lT K xs=true->cw E h xs us->cw E' h xs us
 |[],us,_,hv=>by simp only [cw] at *; exact hv
 |x::xs,us,Y,hv=>by simp only [cw,lT,an] at *;obtain⟨u,vs,U,Z,h3⟩:=hv;exact⟨u,vs,U,VR.low x u Y.1 Z,cw.low xs vs Y.2 h3⟩
end
theorem eK.low: ∀{es:List (W×W×Nat)} {bJ:List MapEntry},C6 K es=true->eK E h es bJ->eK E' h es bJ
 |[],_,_,hv=>by simp only [eK] at *; exact hv
 |(k,v,b)::es,bJ,Y,hv=>by simp only [eK,C6,an] at *;obtain⟨e,r,U,Z,h3,h4,h5⟩:=hv;exact⟨e,r,U,VR.low hρ hθ hκ qI jy k _ Y.1.1 Z,VR.low hρ hθ hκ qI jy v _ Y.1.2 h3,h4,eK.low Y.2 h5⟩
theorem GD {i:Nat}: ∀{ov:List (V×List W)},DQ K ov=true->dY E'.ρ i ov=dY E.ρ i ov
 |[],_=>rfl
 |(j,cs)::l,Y=>by simp only [DQ,an] at Y;simp only [dY];rw [dc hρ j Y.1.1,GD Y.2]
theorem GG: ∀{ov:List (V×List W)},DQ K ov=true->∀p∈ov,lT K p.2=true
 |[],_,p,hp=>by simp at hp
 |(j,cs)::l,Y,p,hp=>by
  simp only [DQ,an] at Y;rcases aw.1 hp with rfl|hp
  ·grind
  ·exact GG Y.2 p hp
theorem tL {r:Row} {ov:List (V×List W)} (Y:DQ K ov=true): ∀(ds:List D) (i:Nat) {us:List Value},cw E h (bD E.ρ r ov ds i) us->cw E' h (bD E'.ρ r ov ds i) us
 |[],_,us,hv=>by simp only [bD,cw] at *; exact hv
 |d::ds,i,us,hv=>by
  simp only [bD] at *;obtain⟨a,b,rfl,U,Z⟩:=hv.split;refine cw.append ?_ (tL Y ds (i+1) Z);rw [GD hρ hθ hκ qI jy Y]
  cases ho:dY E.ρ i ov with
  |none=> rw [ho] at U;rw [fy] at U ⊢;rw [jy];exact U
  |some cs=> rw [ho] at U;obtain⟨p,p1,p2,_⟩:=kJ ho;exact cw.low hρ hθ hκ qI jy cs a (by rw [<- p2]; exact GG hρ hθ hκ qI jy Y p p1) U
theorem QA {n:Int}: ∀{ov:List (V×W)},tq K ov=true->lJ E'.ρ n ov=lJ E.ρ n ov
 |[],_=>rfl
 |(j,v)::l,Y=>by simp only [tq,an] at Y;simp only [lJ];rw [dc hρ j Y.1.1,QA Y.2]
omit hρ hθ hκ qI jy in
theorem Eu {n:Int} {ρ:Nat->Int} {v:W}: ∀{ov:List (V×W)},tq K ov=true->lJ ρ n ov=some v->jS K v=true
 |[],_,h=>by simp [lJ] at h
 |(j,u)::l,Y,h=>by
  simp only [tq,an] at Y;simp only [lJ] at h;split at h
  ·simp only [ag] at h; subst h; exact Y.1.2
  ·exact Eu Y.2 h
theorem B0: ∀{ov:List (V×W)},tq K ov=true->(ov.map fun p=>p.1.den E'.ρ)=ov.map fun p=>p.1.den E.ρ
 |[],_=>rfl
 |(j,v)::l,Y=>by simp only [tq,an] at Y;simp only [ax];rw [dc hρ j Y.1.1,B0 Y.2]
theorem oU.low (Yh:E'.hd=E.hd) {B:Nat} {key:D} {j ty:Nat} {c:FC} {d:D} {u:Value} (ho:oU E h B key j ty c d u):oU E' h B key j ty c d u:=by
 cases c with
 |ck c=>simp only [oU] at *; rw [jy]; exact ho
 |mp t=>simp only [oU] at *; rw [jy,Yh]; exact ho
 |own t=>
  rcases ho with ho|⟨b,o,n,cap,a,arr,lo,hi,U,Z,h3,h4,h5,h6,h7⟩
  ·exact .inl (by rw [jy]; exact ho)
  ·refine .inr ⟨b,o,n,cap,a,arr,lo,hi,U,Z,by rw [Yh]; exact h3,h4,h5,h6,?_⟩;rcases h7 with h7|⟨g1,g2,us,g3,g4⟩
   ·exact .inl h7
   ·exact .inr ⟨g1,g2,us,tL hρ hθ hκ qI jy (ov:=[]) rfl _ _ g3,g4⟩
theorem qg.low (Yh:E'.hd=E.hd) {B t:Nat} {eY:List Nat} {key d:D} {v:Value} (ho:qg E h B t eY key d v):qg E' h B t eY key d v:=by
 unfold qg at *;split at ho
 ·obtain⟨c,U,Z⟩:=ho;exact⟨c,U,oU.low hρ hθ hκ qI jy Yh Z⟩
 ·obtain⟨b,o,arr,lo,hi,U,Z,h3,h4,h5,h6⟩:=ho;refine⟨b,o,arr,lo,hi,U,by rw [Yh]; exact Z,h3,h4,h5,fun j c hc=>?_⟩;obtain⟨u,g1,g2,g3⟩:=h6 j c hc;exact⟨u,g1,g2,oU.low hρ hθ hκ qI jy Yh g3⟩
theorem eP.low (Yh:E'.hd=E.hd) {B t:Nat} {eY:List Nat} {ov:List (V×W)} (Y:tq K ov=true): ∀{ds:List D} {es:List MapEntry},eP E h B t eY ov ds es->eP E' h B t eY ov ds es
 |[],_,ho=>ho
 |d::ds,_,⟨e,r,n,U,Z,h3,h4,h5⟩=>by
  refine⟨e,r,n,U,Z,h3,?_,eP.low Yh Y h5⟩;rw [QA hρ hθ hκ qI jy Y];split at h4
  ·rename_i v hv;exact VR.low hρ hθ hκ qI jy v _ (Eu Y hv) h4
  ·exact qg.low hρ hθ hκ qI jy Yh h4
theorem OR.low {id:Nat} {o:dP} (Y:xe K o=true) (ho:OR E h id o) (Yh:E'.hd=E.hd:=by rfl):OR E' h id o:=by
 cases o with
 |ur e t eY ov=> simp only [OR,xe,an] at *;obtain⟨n0,bJ,c,U,Z⟩:=ho;rw [hθ,dc hρ e Y.1];exact⟨n0.congr (B0 hρ hθ hκ qI jy Y.2),bJ,c,U,eP.low hρ hθ hκ qI jy Yh Y.2 Z⟩
 |cells cs e=> simp only [OR,xe] at *;obtain⟨arr,lo,hi,us,U,Z,h3,h4,h5,h6,h7⟩:=ho;rw [hθ,hκ];exact⟨arr,lo,hi,us,U,cw.low hρ hθ hκ qI jy cs us Y Z,h3,h4,h5,h6,h7⟩
 |map es c=>
  grind [OR,xe,eK.low]
 |j4 s p=>simp only [OR] at *; rw [hθ]; exact ho
 |jt m s l z=>cases m<;>(simp only [OR] at *; grind)
 |jT e t=>
  grind [OR,xe,dc]
 |vec e t ty ov=>
  grind [OR,xe,dc,tL,cF]
end
theorem KU {K:Nat} {ρ ρ':Nat->Int} (hρ: ∀i,i<K->ρ' i=ρ i): ∀{pc:List (SB×Bool)},P7 K pc=true->bT ρ pc->bT ρ' pc
 |[],_,_=>by intro c b h; simp at h
 |(c0,b0)::l,Y,hp=>by
  simp only [P7,an] at Y;intro c b hm;rcases aw.1 hm with hm|hm
  ·simp only [ak] at hm;obtain⟨rfl,rfl⟩:=hm;rw [rS hρ c Y.1];exact hp c b ad
  ·exact KU hρ Y.2 (fun c b h=>hp c b (by simp [h])) c b hm
theorem yG {K:Nat}: ∀{l:List (Nat×W)},rP K l=true->∀{t:Nat} {v:W},(t,v)∈l->jS K v=true
 |[],_,_,_,h=>by simp at h
 |(t0,v0)::l,hs,t,v,h=>by
  simp only [rP,an] at hs;rcases aw.1 h with h|h
  ·grind
  ·exact yG hs.2 h
theorem uZ {K:Nat}: ∀{l:List dP},CN K l=true->∀{i:Nat} {o:dP},l[i]?=some o->xe K o=true
 |[],_,_,_,h=>by simp at h
 |o0::l,hs,i,o,h=>by
  simp only [CN,an] at hs
  cases i with
  |zero=>simp at h; rw [<- h]; exact hs.1
  |succ i=>exact uZ hs.2 (by simpa using h)
structure vR (E:En) (s:St) (a:Act) (w:World):Prop where
 fresh: ∀id,s.h.next<=id->¬E.dm id
 res: ∀r,s.h.res=some r->r<s.h.next/\¬E.dm r
 live: ∀id o,s.h.get id=some o->E.dm id/\OR E w.heap id o/\¬E.ro (E.θ id).1
 inj: ∀id Ob o o',s.h.get id=some o->s.h.get Ob=some o'->(E.θ id).1=(E.θ Ob).1->id=Ob
 qC: ∀b,E.ro b->b<w.heap.size
 sr:SR E w.heap s.bE a
 pc:bT E.ρ s.pc
 hid: ∀b x,E.hd b=some x->b<w.heap.size/\¬E.ro b/\∀id o,s.h.get id=some o->(E.θ id).1≠b
theorem Fit.x [bG] {E:En} {s:St} {a:Act} {w:World} (f:Fit E s a w):vR E s a w:=⟨f.rel.fresh,f.rel.res,f.rel.live,f.rel.inj,f.rel.qC,f.sr,f.pc,f.rel.hid⟩
theorem vR.fit [bG] {E:En} {s:St} {a:Act} {w:World} (f:vR E s a w) (hg:bG.ok E.ρ E.ro w.heap):Fit E s a w:=⟨⟨f.fresh,f.res,f.live,f.inj,f.qC,hg,f.hid⟩,f.sr,f.pc⟩
theorem vR.low {K:Nat} {E:En} {c:CS} {a:Act} {w:World} {ρ':Nat->Int} (hc:vI K c=true) (hρ: ∀i,i<K->ρ' i=E.ρ i) (f:vR E c.st a w):vR { E with ρ:=ρ' } c.st a w:=by
 unfold vI at hc;simp only [an] at hc;obtain⟨⟨U,Z⟩,h3⟩:=hc;refine⟨f.fresh,f.res,fun id o ho=>?_,f.inj,f.qC,fun t v ht=>?_,KU hρ h3 f.pc,f.hid⟩
 ·obtain⟨q1,q2,q3⟩:=f.live id o ho;refine⟨q1,OR.low (E:=E) (E':={ E with ρ:=ρ' }) hρ rfl rfl rfl rfl ?_ q2,q3⟩;have:(oa c.dz 0 .nil).get id=some o:=ho
  grind [jg,uZ,Tr.get]
 ·obtain⟨u,q1,q2⟩:=f.sr t v ht;refine⟨u,q1,VR.low (E:=E) (E':={ E with ρ:=ρ' }) hρ rfl rfl rfl rfl v u ?_ q2⟩;have:(nv c.bE .nil).get t=some v:=ht;rcases uP this with h|h
  all_goals grind [yG,Tr.get]
end Go.As
end
section
namespace Go.As
open Go.RowKit
def vT (ro:Nat->Prop) (h:Array Obj) (c:CK) (n:Int) (u:Value):Prop:=match c with
 | .int k=>u= .int k n
 | .bool=>u= .bool (!(n == 0))
 |c=>Rd ro h c (dec n) u
def gP (ro:Nat->Prop) (h:Array Obj):List CK->List Int->List Value->Prop
 |[],ns,us=>ns= []/\us= []
 |c::cs,ns,us=> ∃n u_ u gw,ns=n::u_/\us=u::gw/\vT ro h c n u/\gP ro h cs u_ gw
theorem Mv {E:En} {h:Array Obj} {c:CK} {t:V} {u:Value}:VR E h (Su c t) u↔vT E.ro h c (t.den E.ρ) u:=by cases c<;>simp only [Su,vT,VR,SB.den,V.den]
theorem Xp {E:En} {h:Array Obj} {c:CK} {v:W} {u:Value} {e:V} (hv:VR E h v u) (hn:Xq c v=some e):vT E.ro h c (e.den E.ρ) u:=by
 unfold Xq at hn;split at hn
 ·grind [vT,VR]
 ·grind
 ·obtain⟨s,rfl,hs⟩:=yB hv hn;simp only [vT,hs];exact .str s
 ·exact jJ hv hn
theorem gP.length {ro:Nat->Prop} {h:Array Obj}: ∀{cs:List CK} {ns:List Int} {us:List Value},gP ro h cs ns us->ns.length=cs.length/\us.length=cs.length
 |[],ns,us,hh=>by simp only [gP] at hh; simp [hh.1,hh.2]
 |c::cs,ns,us,hh=>by
  obtain⟨n,u_,u,gw,rfl,rfl,_,Z⟩:=hh;have:=Z.length
  grind
theorem vT.keep {ro mg:Nat->Prop} {h h':Array Obj} (k1: ∀b,ro b->mg b) (k2: ∀b,ro b->h'[b]?=h[b]?) {c:CK} {n:Int} {u:Value} (r:vT ro h c n u):vT mg h' c n u:=by
 cases c with
 |int k=>exact r
 |bool=>exact r
 |str=>exact Rd.keep k1 k2 r
 |sl t=>exact Rd.keep k1 k2 r
theorem Fi {E:En} {h:Array Obj} {f:Nat->V}: ∀{cs:List CK} {i:Nat} {ns:List Int} {us:List Value},gP E.ro h cs ns us->(∀k n,ns[k]?=some n->(f (i+k)).den E.ρ=n)->cw E h (Fj cs f i) us
 |[],_,_,us,hh,_=>by simp only [gP] at hh; rw [hh.2]; simp [Fj,cw]
 |c::cs,i,ns,us,hh,hf=>by
  obtain⟨n,u_,u,gw,rfl,rfl,U,Z⟩:=hh;simp only [Fj,bO];refine⟨u,gw,rfl,?_,Fi Z fun k m hk=>?_⟩
  ·rw [Mv];have:=hf 0 n rfl
   grind
  ·have:=hf (k+1) m (by simpa using hk)
   grind
inductive Shape:List RK->List Value->List Value->Prop where
 |nil:Shape [] [] []
 |one (c:CK) {rs:List RK} {us fl:List Value} (u:Value):Shape rs us fl->Shape (.one c::rs) (u::us) (u::fl)
 |agg (cs:List CK) {rs:List RK} {us fl:List Value} (xs:List Value) (h:xs.length=cs.length):Shape rs us fl->Shape (.agg cs::rs) (.agg xs.toArray::us) (xs++fl)
theorem nB {E:En} {h:Array Obj}: ∀{lh:List RK} {vs cells:List W} {us:List Value},cw E h vs us->cellsOf lh vs=some cells->∃fl,Shape lh us fl/\cw E h cells fl
 |[],[],cells,us,hv,hc=>by simp only [cellsOf,ag] at hc;subst hc;simp only [cw] at hv;subst hv;exact⟨[],.nil,by simp [cw]⟩
 |[],_::_,cells,us,hv,hc=>by simp [cellsOf] at hc
 | .one _::_,[],cells,us,hv,hc=>by simp [cellsOf] at hc
 | .agg _::_,[],cells,us,hv,hc=>by simp [cellsOf] at hc
 | .one c::rs,v::vs,cells,us,hv,hc=>by
   rw [bO] at hv;obtain⟨u,gw,rfl,U,Z⟩:=hv;simp only [cellsOf] at hc;split at hc
   ·split at hc
    ·rename_i l Y;simp only [ag] at hc;subst hc;obtain⟨fl,s,v2⟩:=nB Z Y;exact⟨u::fl,.one c u s,by rw [bO]; exact⟨u,fl,rfl,U,v2⟩⟩
    grind
   grind
 | .agg cs::rs,v::vs,cells,us,hv,hc=>by
   rw [bO] at hv;obtain⟨u,gw,rfl,U,Z⟩:=hv;simp only [cellsOf] at hc;split at hc
   ·rename_i xs;split at hc
    ·rename_i hlen;have hlen:=aq hlen;split at hc
     ·rename_i l Y;simp only [ag] at hc;subst hc;obtain⟨fl,s,v2⟩:=nB Z Y;simp only [VR] at U;obtain⟨ws,rfl,h3⟩:=U;exact⟨ws++fl,.agg cs ws (by rw [h3.length,hlen]) s,h3.append v2⟩
     grind
    grind
   grind
theorem xy {ro:Nat->Prop} {h:Array Obj}: ∀{cs ds:List CK} {ns:List Int} {us vs:List Value},us.length=cs.length->gP ro h (cs++ds) ns (us++vs)->∃a b,ns=a++b/\gP ro h cs a us/\gP ro h ds b vs
 |[],ds,ns,us,vs,Y,hh=>by have:us= []:=amJ Y;subst this;exact⟨[],ns,rfl,by simp [gP],hh⟩
 |c::cs,ds,ns,us,vs,Y,hh=>by
  simp only [aR,gP] at hh;obtain⟨n,u_,u,gw,rfl,he,U,Z⟩:=hh
  cases us with
  |nil=>simp at Y
  |cons x us=> simp only [aR,List.cons.injEq] at he;obtain⟨rfl,rfl⟩:=he;obtain⟨a,b,rfl,h3,h4⟩:=xy (by simpa using Y) Z;exact⟨n::a,b,rfl,⟨n,a,x,us,rfl,rfl,U,h3⟩,h4⟩
theorem rZ {E:En} {h:Array Obj} {f:Nat->V}: ∀{lh:List RK} {us fl:List Value} {ns:List Int} {i:Nat},Shape lh us fl->gP E.ro h (oH lh) ns fl->(∀k n,ns[k]?=some n->(f (i+k)).den E.ρ=n)->cw E h (pF lh f i) us
 |[],us,fl,ns,i,s,_,_=>by cases s; simp [pF,cw]
 | .one c::rs,us,fl,ns,i,s,hc,hf=>by
   cases s with
   |one _ u s=>
    simp only [oH,RK.flat,aR,aA,gP] at hc;obtain⟨n,u_,u',gw,rfl,he,U,Z⟩:=hc;simp only [List.cons.injEq] at he;obtain⟨rfl,rfl⟩:=he;simp only [pF,bO];refine⟨_,_,rfl,?_,rZ s Z fun k m hk=>?_⟩
    ·rw [Mv];have:=hf 0 n rfl
     grind
    ·have:=hf (k+1) m (by simpa using hk)
     grind
 | .agg cs::rs,us,fl,ns,i,s,hc,hf=>by
   cases s with
   |agg _ xs Y s=>
    simp only [oH,RK.flat] at hc;obtain⟨a,b,rfl,U,Z⟩:=xy Y hc;have U0:=U.length.1;simp only [pF,bO,VR];refine⟨_,_,rfl,⟨xs,rfl,Fi U fun k m hk=>hf k m ?_⟩,rZ s Z fun k m hk=>?_⟩
    ·grind
    ·have:=hf (cs.length+k) m (by rw [aok J,show cs.length+k-a.length=k by omega]; exact hk)
     grind
section
variable {P:Program} {E:En} {w:World}
theorem CJ {α:Type} {r:α} {h:Array Obj}: ∀{cs:List CK} {vs:List W} {s:St} {k:List V->St->T α} {us:List Value},bT E.ρ s.pc->cw E h vs us->(outs cs vs s k).leaf E.ρ=some r->
 ∃es ea,bT E.ρ ea/\gP E.ro h cs (es.map (V.den E.ρ)) us/\(k es { s with pc:=ea }).leaf E.ρ=some r
 |[],[],s,k,us,hp,hv,Y=>by simp only [outs] at Y;simp only [cw] at hv;exact⟨[],s.pc,hp,by simp [gP,hv],Y⟩
 |[],_::_,s,k,us,hp,hv,Y=>by simp [outs,T.leaf] at Y
 |_::_,[],s,k,us,hp,hv,Y=>by simp [outs,T.leaf] at Y
 |c::cs,v::vs,s,k,us,hp,hv,Y=>by
  rw [bO] at hv;obtain⟨u,gw,rfl,U,Z⟩:=hv;simp only [outs] at Y;split at Y
  ·split at Y
   ·rename_i b;obtain⟨fI,fq,A6⟩:=cE hp Y;obtain⟨es,jH,jz,q1,q2⟩:=CJ (s:={ s with pc:=fI }) fq Z A6;refine⟨_::es,jH,jz,?_,q2⟩;simp only [ax,gP];refine⟨_,_,u,gw,rfl,rfl,?_,q1⟩;simp only [VR] at U;subst U;simp only [vT,V.den];cases b.den E.ρ<;>rfl
   grind [T.leaf]
  ·split at Y
   ·rename_i e he;obtain⟨es,jH,jz,q1,q2⟩:=CJ hp Z Y
    grind [gP,Xp]
   grind [T.leaf]
theorem xE (ρ:Nat->Int): ∀es:List V,dec ((fU es).den ρ)=dL ((es.map (V.den ρ)).map .i)
 |[]=>by simp only [fU,V.den,bB]; rfl
 |e::es=>by simp only [fU,eD,V.den,eZ.den,bB,lz,xE ρ es,ax,dL]
theorem jc (ρ:Nat->Int): ∀es:List V,(fU es).den ρ=me (es.map (V.den ρ))
 |[]=>rfl
 |e::es=>by have:=xE ρ (e::es);simp only [fU,eD,V.den,eZ.den,bB,lz,xE ρ es,ax,me,dL]
theorem vZ {ρ:Nat->Int} {r:V} {ys:List Int} (h:r.den ρ=me ys) {i:Nat} {y:Int} (hi:ys[i]?=some y):(oy r i).den ρ=y:=by simp only [oy,V.den,eZ.den,h,me,bB,D.hd,bI,bp,hi,bq,aC,D.n]
def aaY (lh:List RK) (ys:List Int) (ro:Nat->Prop) (h:Array Obj) (u:Value):Prop:= ∃us fl,Shape lh us fl/\gP ro h (oH lh) ys fl/\u=if hh:us.toArray.size=1 then us.toArray[0] else .tuple us.toArray
def i? (P:Program) (GB:(Nat->Prop)->Array Obj->Prop) (g:FuncId) (Fs lh:List RK) (f:List Int->Option (List Int)):Prop:=
 ∀xs ys,f xs=some ys->∀(ro:Nat->Prop) (w:World) (vals fl:List Value),(∀b,ro b->b<w.heap.size)->GB ro w.heap->Shape Fs vals fl->gP ro w.heap (oH Fs) xs fl->
  Calls P g vals.toArray w fun e w'=> ∃u,e= .returned u/\Below w.heap.size w w'/\∃mg:Nat->Prop,(∀b,ro b->mg b)/\(∀b,mg b->ro b\/w.heap.size<=b)/\(∀b,mg b->b<w'.heap.size)/\aaY lh ys mg w'.heap u
theorem gP.aea {ro mg:Nat->Prop} {h h':Array Obj}: ∀{cs:List CK} {ns:List Int} {us:List Value},gP ro h cs ns us->Gg cs=true->gP mg h' cs ns us
 |[],ns,us,hh,_=>hh
 |c::cs,ns,us,hh,hs=>by
  obtain⟨n,u_,u,gw,rfl,rfl,U,Z⟩:=hh;simp only [Gg] at hs;split at hs
  ·exact⟨n,u_,u,gw,rfl,rfl,U,Z.aea hs⟩
  ·exact⟨n,u_,u,gw,rfl,rfl,U,Z.aea hs⟩
  grind
theorem X6 [bG] {GB:(Nat->Prop)->Array Obj->Prop} (LC: ∀ρ ro h,bG.ok ρ ro h->GB ro h) {F:n7} (LB: ∀ρ ro h,bG.ok ρ ro h->Good F ρ) {g:FuncId} {j:Nat} {Fs lh:List RK} (hs:i? P GB g Fs lh (F j))
 (jx: ∀(args:Array Value) (w:World),(callFunc g args).run P w= .ok (.enter g args) w):ik P g (X7 j Fs lh):=by
 intro amB s E w vals v s' r hv hp Y;unfold X7 at Y;split at Y
 ·grind [T.leaf]
 ·rename_i cells hc;obtain⟨fl,sh,X'⟩:=nB hv hc;obtain⟨afL,U,pcF,E1,Y_,f,RA,Y⟩:=pR rfl r hp Y;have hv3:=RA _ X';have s1:=f.eu;have r1:=f.rel;have hρ:=f.ρ;rw [<- hρ] at Y Y_;obtain⟨es,fI,fq,q1,q2⟩:=CJ (s:={ s with h:=U,pc:=pcF }) Y_ hv3 Y;obtain⟨jH,jz,q3⟩:=cE (s:={ s with h:=U,pc:=fI }) fq q2;split at q3
  ·rename_i ht;have hg:=LB _ _ _ r1.iX;have hg1:=(hg j (es.map (V.den E1.ρ))).1;have hg2:=(hg j (es.map (V.den E1.ρ))).2;simp only [SB.den,V.den,jc,hg1,beq_iff_eq] at ht
   have BU:(F j (es.map (V.den E1.ρ))).isSome=true:=by
    grind
   obtain⟨ys,G4⟩:=am9.1 BU;have xY:=bC q3;simp only [ak] at xY;obtain⟨rfl,hs'⟩:=xY;have abT:=hs _ ys G4 E1.ro w vals fl r1.qC (LC _ _ _ r1.iX) sh q1
   have I2: ∀(E2:En) (Z:Array Obj) (us fl':List Value),E2.ρ=E1.ρ->Shape lh us fl'->gP E2.ro Z (oH lh) ys fl'->
    VR E2 Z (match pF lh (oy (.ap (2*j+1) (fU es))) 0 with |[v]=>v|vs=> .tuple vs) (if hh:us.toArray.size=1 then us.toArray[0] else .tuple us.toArray):=by
    intro E2 Z us fl' hE2 sh' c1
    have Rk:cw E2 Z (pF lh (oy (.ap (2*j+1) (fU es))) 0) us:=by
     refine rZ sh' c1 fun k n hk=>?_;rw [ay];refine vZ (ys:=ys) ?_ hk;show E2.ρ _=_
     grind [jc]
    have:=CF Rk;unfold AO at this;exact this
   cases hsc:Gg (oH lh) with
   |true=>
    rw [hsc] at hs';simp only at hs';subst hs';refine⟨rfl,by rw [<- hρ]; exact jz,?_⟩;unfold jE lI;rw [jx];refine Calls.mono abT fun e w' ⟨u,he,hb,mg,k1,k2,k3,k4⟩=> ⟨u,he,?_⟩;have tZ:fw E w.heap E w'.heap:=⟨rfl,fun _ h=>h,fun _ _=>rfl,fun _ _=>rfl,fun _ h=>h,fun b I8=>hb.block b (r.qC b I8)⟩
    have qZ:eS E s.h w E s.h w':=
     ⟨rfl,fun _ h=>h,fun _ _=>rfl,fun _ _=>rfl,fun _ h=>h,fun b I8=> .inl I8,au _,.inr rfl,fun _ h=> .inl h,hb.os,hb.tape,hb.output,hb.size,fun b ni _=>hb.block b ni,fun id o h _=> ⟨id,o,h,rfl⟩,rfl⟩
    have r2:bN E s.h w':=by refine⟨r.fresh,r.res,fun id o h=>?_,r.inj,fun b I8=>amZ (r.qC b I8) hb.size,bG.keep r.iX (fun _ h=>h) tZ.BE,r.T5 qZ.hd qZ.size qZ.rF qZ.own⟩;obtain⟨g1,g2,g3⟩:=r.live id o h;exact⟨g1,g2.keep tZ g1 (hb.block _ (fm r h)) (r.T8 rfl (fun x hx _=>hb.block x hx) _),g3⟩
    obtain⟨us,fl',sh',c1,rfl⟩:=k4;exact⟨E,qZ,r2,I2 E w'.heap us fl' hρ.symm sh' (c1.aea hsc)⟩
   |false=>
    rw [hsc] at hs';simp only at hs';subst hs';refine⟨rfl,by rw [<- hρ]; exact jz,?_⟩;unfold jE lI;rw [jx];refine Calls.mono abT fun e w' ⟨u,he,hb,mg,k1,k2,k3,k4⟩=> ⟨u,he,?_⟩;have tZ:fw E1 w.heap { E1 with ro:=mg } w'.heap:=⟨rfl,fun _ h=>h,fun _ _=>rfl,fun _ _=>rfl,k1,fun b I8=>hb.block b (r1.qC b I8)⟩
    have qZ:eS E1 U w { E1 with ro:=mg } U w':=
     ⟨rfl,fun _ h=>h,fun _ _=>rfl,fun _ _=>rfl,k1,fun b I8=>(k2 b I8).imp id .inr,au _,.inr rfl,fun _ h=> .inl h,hb.os,hb.tape,hb.output,hb.size,fun b ni _=>hb.block b ni,fun id o h _=> ⟨id,o,h,rfl⟩,rfl⟩
    have r2:bN { E1 with ro:=mg } U w':=by
     refine⟨r1.fresh,r1.res,fun id o h=>?_,r1.inj,k3,bG.keep r1.iX k1 tZ.BE,r1.T5 qZ.hd qZ.size qZ.rF qZ.own⟩;obtain⟨g1,g2,g3⟩:=r1.live id o h;refine⟨g1,g2.keep tZ g1 (hb.block _ (fm r1 h)) (r1.T8 rfl (fun x hx _=>hb.block x hx) _),fun hr=>?_⟩;rcases k2 _ hr with hr|hr
     ·grind
     ·have fD:(E1.θ id).1<w.heap.size:=fm r1 h
      grind
    obtain⟨us,fl',sh',c1,rfl⟩:=k4;exact⟨{ E1 with ro:=mg },s1.trans qZ,r2,I2 { E1 with ro:=mg } w'.heap us fl' rfl sh' c1⟩
  grind [T.leaf]
end
structure mc where
 w0:World
 ro:Nat->Prop
 m:Nat
 θ:Nat->Nat×Nat
 κ:Nat->Nat
def mc.fp (B:mc) (b:Nat):Prop:= ∃i,i<B.m/\(B.θ i).1=b
structure Bel (B:mc) (w:World):Prop where
 os:w.os=B.w0.os
 tape:w.tape=B.w0.tape
 output:w.output=B.w0.output
 size:B.w0.heap.size<=w.heap.size
 kE: ∀k,k<B.w0.heap.size->¬B.fp k->w.heap[k]?=B.w0.heap[k]?
structure kB (B:mc) (E:En) (s:St) (a:Act) (w:World):Prop where
 fit:vR E s a w
 ro: ∀b,B.ro b->E.ro b
 rF: ∀b,E.ro b->B.ro b\/B.w0.heap.size<=b\/B.fp b
 MZ:Bel B w
 own: ∀id o,s.h.get id=some o->B.w0.heap.size<=(E.θ id).1\/B.fp (E.θ id).1
 W?: ∀i,i<B.m->E.dm i/\E.θ i=B.θ i/\E.κ i=B.κ i
 td: ∀b x,E.hd b=some x->B.w0.heap.size<=b
section
variable {P:Program} {B:mc}
theorem kB.step [bG] {E E':En} {s s':St} {a a':Act} {w w':World} (t:kB B E s a w) (st:eS E s.h w E' s'.h w') (f':Fit E' s' a' w'):kB B E' s' a' w':=by
 have Y': ∀id o,s'.h.get id=some o->B.w0.heap.size<=(E'.θ id).1\/B.fp (E'.θ id).1:=by
  intro id o ho;rcases aT (E'.θ id).1 w.heap.size with h|h
  ·obtain⟨rG,o0,h0,he⟩:=st.own id o ho h;rw [<- he];exact t.own rG o0 h0
  ·exact .inl (bk t.MZ.size h)
 refine⟨f'.x,fun b hb=>st.ro b (t.ro b hb),fun b hb=>?_,⟨st.os.trans t.MZ.os,st.tape.trans t.MZ.tape,st.output.trans t.MZ.output,bk t.MZ.size st.size,fun k hk hn=>?_⟩,Y',fun i hi=>?_,fun b x hb=>t.td b x (by rw [<- st.hd]; exact hb)⟩
 ·rcases st.rF b hb with h|⟨id,o,U,Z⟩|h
  ·exact t.rF b h
  ·rw [<- Z]; exact .inr (t.own id o U)
  ·exact .inr (.inl (bk t.MZ.size h))
 ·rw [<- t.MZ.kE k hk hn];refine st.keep k (amZ hk t.MZ.size) fun id o ho he=>?_;rcases t.own id o ho with h|h
  all_goals grind
 ·obtain⟨U,Z,h3⟩:=t.W? i hi;exact⟨st.dm i U,by rw [st.θ i U]; exact Z,by rw [st.κ i U]; exact h3⟩
theorem kB.then [bG] {E:En} {s s':St} {a a':Act} {w w':World} (t:kB B E s a w) (h:mL E s a w s' a' w'): ∃E',kB B E' s' a' w'/\E'.ρ=E.ρ/\bG.ok E'.ρ E'.ro w'.heap:=by obtain⟨_,_,E',st,f'⟩:=h;exact⟨E',t.step st f',st.ρ,f'.rel.iX⟩
theorem kB.pc {E:En} {s:St} {a:Act} {w:World} {pc:List (SB×Bool)} (t:kB B E s a w) (hp:bT E.ρ pc):kB B E { s with pc:=pc } a w:=
 ⟨⟨t.fit.fresh,t.fit.res,t.fit.live,t.fit.inj,t.fit.qC,t.fit.sr,hp,t.fit.hid⟩,t.ro,t.rF,t.MZ,t.own,t.W?,t.td⟩
theorem Ed {r:Ren}: ∀{m:Nat},Ee m r=true->∀i,i<m->i<r.bl.length/\r.id i=i/\r.uz i=0
 |0,_,i,hi=>by omega
 |n+1,h,i,hi=>by
  simp only [Ee,an] at h;obtain⟨⟨U,Z⟩,h3⟩:=h;by_cases he:i=n
  ·subst he;split at U
   ·rename_i j hj;have U:=aq U;subst U;refine⟨?_,?_,aq Z⟩
    all_goals grind [dg,Ren.id]
   grind
  ·exact Ed h3 i J
theorem kB.fits [bG] {E:En} {c:CS} {s:St} {r:Ren} {a:Act} {w:World} (t:kB B E s a w) (hg:bG.ok E.ρ E.ro w.heap) (h:c.fits t! s r=true) (hid:Ee B.m r=true):r.ns.length<=900/\kB B (E.gL r) c.st a w:=by
 obtain⟨Y,f,ho⟩:=zJ NP (t.fit.fit hg) h;refine⟨Y,f.x,t.ro,t.rF,t.MZ,fun id o hid=>?_,fun i hi=>?_,t.td⟩
 ·obtain⟨o',h'⟩:=ho id o hid;exact t.own _ _ h'
 ·obtain⟨q1,q2,q3⟩:=Ed hid i hi;obtain⟨U,Z,h3⟩:=t.W? i hi;refine⟨⟨q1,by rw [q2]; exact U⟩,?_,?_⟩
  ·show ((E.θ (r.id i)).1,(E.θ (r.id i)).2+r.uz i)=_
   grind
  ·show E.κ (r.id i)-r.uz i=_
   grind
theorem kB.low {K:Nat} {E:En} {c:CS} {a:Act} {w:World} {ρ':Nat->Int} (hc:vI K c=true) (hρ: ∀i,i<K->ρ' i=E.ρ i) (t:kB B E c.st a w):kB B { E with ρ:=ρ' } c.st a w:=
 ⟨t.fit.low hc hρ,t.ro,t.rF,t.MZ,t.own,t.W?,t.td⟩
def mc.out (B:mc) (ys:List Int) (ro:Nat->Prop):En:={ ρ:=low ys,θ:=B.θ,κ:=B.κ,dm:=fun i=>i<B.m,ro:=ro }
def QE (B:mc) (lh:List RK) (eh:List dP) (ko:Nat) (ys:List Int) (e:Ending) (w':World):Prop:=
 ∃u,e= .returned u/\Bel B w'/\∃mg:Nat->Prop,(∀b,B.ro b->mg b)/\(∀b,mg b->B.ro b\/B.w0.heap.size<=b)/\(∀b,mg b->b<w'.heap.size)/\(∀i,i<B.m->¬mg (B.θ i).1)/\
  (∀i o,eh[i]?=some o->OR (B.out ys mg) w'.heap i o)/\aaY lh (ys.drop ko) mg w'.heap u
def Tq (us:List Value):Value:=if h:us.toArray.size=1 then us.toArray[0] else .tuple us.toArray
def QR (B:mc) (oz:List CS) (ys:List Int) (e:Ending) (w':World):Prop:=
 ∃(us:List Value) (i:Nat) (c:CS) (E':En),e= .returned (Tq us)/\Bel B w'/\oz[i]?=some c/\ys[0]?=some (i:Int)/\ys.length=c.k+1/\(∀a x,ys[a+1]?=some x->E'.ρ a=x)/\us.length=c.bE.length/\
  vR E' c.st { tmps:=us.toArray,defers:=[] } w'/\(∀b,B.ro b->E'.ro b)/\(∀b,E'.ro b->B.ro b\/B.w0.heap.size<=b)/\(∀i,i<B.m->i<c.dz.length/\E'.dm i/\E'.θ i=B.θ i/\E'.κ i=B.κ i)/\(∀id o,c.st.h.get id=some o->B.m<=id->B.w0.heap.size<=(E'.θ id).1)
def QX (B:mc) (lh:List RK) (eh:List dP) (ko:Nat) (oz:List CS) (ys:List Int):Ending->World->Prop:=match oz with
 |[]=>QE B lh eh ko ys
 |c::l=>QR B (c::l) ys
structure Py [bG] (P:Program) (g:tR) (qW:Nat->List Oper->Bool):Prop where
 tt:eB P g.tt
 call:im P g.call
 draw:vS P qW g.draw
theorem so {qW:Nat->List Oper->Bool} {N:Nat} {body:Code} (h:jQ qW N body=true): ∀(p:List Nat) {c:Code} {fr:List FrE},oN body p=some (c,fr)->jQ qW N c=true
 |[],c,fr,Y=>by
  grind [oN]
 |d::p,c,fr,Y=>by
  simp only [oN] at Y;split at Y
  ·rename_i a b Yx hp;have:=so h p hp
   grind [jQ]
  ·rename_i id b Yx hp;have:=so h p hp
   grind [jQ]
  ·rename_i v a b Yx hp;have:=so h p hp
   grind [jQ]
  ·rename_i b Yx hp;have:=so h p hp
   grind [jQ]
  ·rename_i b Yx hp;have:=so h p hp
   grind [jQ]
  grind
theorem wj {body:Code}: ∀(p:List Nat) {c:Code} {fr:List FrE},oN body p=some (c,fr)->Fz body fr
 |[],c,fr,h=>by simp only [oN,ag,ak] at h;rw [<- h.2]; trivial
 |d::p,c,fr,h=>by
  have h0:=h;simp only [oN] at h;split at h
  ·rename_i a b Yx hp;have ih:=wj p hp;split at h
   ·simp only [ag,ak] at h;obtain⟨rfl,rfl⟩:=h;refine⟨?_,ih⟩;simp only [oN,hp]
   grind
  ·rename_i id b Yx hp;have ih:=wj p hp;simp only [ag,ak] at h;rw [<- h.2]; exact ih
  ·rename_i v a b Yx hp;have ih:=wj p hp
   grind
  ·rename_i b Yx hp;have ih:=wj p hp;simp only [ag,ak] at h;rw [<- h.2];exact⟨hp,ih⟩
  ·rename_i b Yx hp;have ih:=wj p hp;simp only [ag,ak] at h;rw [<- h.2]; exact ih
  grind
def MI (F:n7) (ρ:Nat->Int) (ys:List Int):Lf->Prop
 | .out es=>es.map (V.den ρ)=ys
 | .jump j es=>F j (es.map (V.den ρ))=some ys
def q? [bG] (P:Program) (body:Code) (N:Nat) (B:mc) (Q:Exit->Act->World->Prop) (F:n7) (ys:List Int) (fe:Cw):Prop:=
 ∀p l,fe p=some l->∃b fr,oN body p=some (.loop b,fr)/\∀j c,(j,c)∈l->∀E a w,kB B E c.st a w->bG.ok E.ρ E.ro w.heap->(∃xs:List Int,(∀i x,xs[i]?=some x->E.ρ i=x)/\xs.length=c.k/\c.k<=900/\F j xs=some ys)->N<=a.tmps.size->a.defers= []->Fy P b (KE P Q fr) a w
theorem ny (g:Tr V): ∀(n i:Nat),(xS g n i).length=n
 |0,_=>rfl
 |n+1,i=>by simp only [xS];split<;>simp [ny g n (i+1)]
theorem tj (m:Nat) (c:CS) (s:St):(c.jh m s).ns.length=c.k:=by
 grind [CS.jh,ny]
theorem zH: ∀(n i:Nat) (ns:List V),(B1 n i ns).length=ns.length
 |0,_,_=>rfl
 |_+1,_,[]=>rfl
 |n+1,i,_::ns=>by simp only [B1,aL,zH n (i+1) ns]
theorem vw (ic:Nat) (r:Ren):(ry ic r).ns.length=r.ns.length:=by
 unfold ry
 grind [zH]
theorem H5 {α:Type} {k:St->T α} {E:En} {a:Act} {w:World} {x:α}: ∀{ts:List (Nat×Nat)} {s:St},(Nd k ts s).leaf E.ρ=some x->kB B E s a w->∃s',kB B E s' a w/\(k s').leaf E.ρ=some x
 |[],s,h,t=> ⟨s,t,h⟩
 |(i,g)::ts,s,h,t=>by
  simp only [Nd] at h;split at h
  ·obtain⟨ea,fA,U⟩:=cE t.fit.pc h;exact H5 U (t.pc fA)
  ·exact H5 h t
theorem wu [bG] {ic:Nat} {F:n7} {ys:List Int} {body:Code} {N:Nat} {Q:Exit->Act->World->Prop} {fe:Cw} (hj:q? P body N B Q F ys fe) {p:List Nat} {l0:List (Nat×CS)} (hp:fe p=some l0) {b:Code} {fr:List FrE} (Y:oN body p=some (.loop b,fr)) :
 ∀{l:List (Nat×CS)} {s:St} {lf:Lf} {E:En} {a:Act} {w:World},(∀x∈l,x∈l0)->(rk B.m ic s l).leaf E.ρ=some lf->MI F E.ρ ys lf->kB B E s a w->bG.ok E.ρ E.ro w.heap->N<=a.tmps.size->a.defers= []->Fy P b (KE P Q fr) a w
 |[],s,lf,E,a,w,_,h,_,_,_,_,_=>by simp [rk,T.leaf] at h
 |(j,c)::l,s,lf,E,a,w,nM,h,ru,t,hg,hN,hd=>by
  simp only [rk] at h;split at h
  ·exact wu hj hp Y (fun x hx=>nM x (by simp [hx])) h ru t hg hN hd
  ·split at h
   ·rename_i hf;have:=bC h;subst this;simp only [an] at hf;obtain⟨hle,t'⟩:=t.fits hg hf.1 hf.2;obtain⟨b',Yx,FP,hh⟩:=hj p l0 hp;rw [Y] at FP;simp only [ag,ak,Code.loop.injEq] at FP;obtain⟨rfl,rfl⟩:=FP;have oB:(ry ic (c.jh B.m s)).ns.length=c.k:=by rw [vw,tj]
    refine hh j c (nM _ ad) (E.gL (ry ic (c.jh B.m s))) a w t' (bG.gL hg fun i hi=>Ren.lD hle hi) ⟨(ry ic (c.jh B.m s)).ns.map (V.den E.ρ),fun i x hi=>?_,by simp [oB],by rw [<- oB]; exact hle,ru⟩ hN hd;rw [bp,aO] at hi;obtain⟨e,he,rfl⟩:=hi;show (ry ic (c.jh B.m s)).env E.ρ i=_
    grind [Ren.env,dg]
   ·exact wu hj hp Y (fun x hx=>nM x (by simp [hx])) h ru t hg hN hd
theorem wT {α:Type} {k:St->T α} {E:En} {a:Act} {w:World} {x:α}: ∀{ts:List Nat} {s:St},(vL k ts s).leaf E.ρ=some x->kB B E s a w->∃s',kB B E s' a w/\(k s').leaf E.ρ=some x
 |[],s,h,t=> ⟨s,t,h⟩
 |i::ts,s,h,t=>by
  simp only [vL] at h;split at h
  ·rename_i c hc;obtain⟨ea,fA,U⟩:=cE t.fit.pc h;refine wT U ⟨⟨t.fit.fresh,t.fit.res,t.fit.live,t.fit.inj,t.fit.qC,fun j v hj=>?_,fA,t.fit.hid⟩,t.ro,t.rF,t.MZ,t.own,t.W?,t.td⟩;simp only at hj;rw [Tr.bP] at hj;split at hj
   ·rename_i he;subst he;simp only [ag] at hj;subst hj;obtain⟨u,Z,h3⟩:=t.fit.sr _ _ hc;refine⟨u,Z,?_⟩;simp only [VR] at h3 ⊢;rw [h3];rfl
   ·exact t.fit.sr j v hj
  ·exact wT h t
theorem TM (g:tR) (h:Hp):(gM g h).ns.length=g.ko/\(gM g h).bl=List.range g.eh.length/\(gM g h).sh= []:=by
 grind [gM,ny]
def nfs:List dP->Bool
 |[]=>true
 |o::l=>nf o&&nfs l
theorem IG: ∀{l:List dP},nfs l=true->∀{i:Nat} {o:dP},l[i]?=some o->nf o=true
 |[],_,_,_,h=>by simp at h
 |o0::l,hs,i,o,h=>by
  simp only [nfs,an] at hs
  cases i with
  |zero=>simp at h; rw [<- h]; exact hs.1
  |succ i=>exact IG hs.2 (by simpa using h)
def mE (K:Nat):List dP->Bool
 |[]=>true
 |o::l=>nf o&&(xe K o&&mE K l)
theorem mD {K:Nat}: ∀{l:List dP},mE K l=true->∀{i:Nat} {o:dP},l[i]?=some o->nf o=true/\xe K o=true
 |[],_,_,_,h=>by simp at h
 |o0::l,hs,i,o,h=>by
  simp only [mE,an] at hs
  cases i with
  |zero=>simp at h; rw [<- h]; exact⟨hs.1,hs.2.1⟩
  |succ i=>exact mD hs.2.2 (by simpa using h)
theorem C7 {n m ic:Nat} {s:St} {ρ:Nat->Int} {lf:Lf}: ∀{l:List CS} {k:Nat},(Mb n m ic s l k).leaf ρ=some lf->∃i c,l[i-k]?=some c/\(c.fits t! s (ry ic (c.jh m s))=true/\Ee m (ry ic (c.jh m s))=true)/\n=c.bE.length/\lf= .out (.lit (i:Int)::(ry ic (c.jh m s)).ns)/\k<=i
 |[],k,h=>by simp [Mb,T.leaf] at h
 |c::l,k,h=>by
  simp only [Mb] at h;split at h
  ·obtain⟨i,c',q1,q2,q3,q4,q5⟩:=C7 h
   grind
  ·rename_i hq;simp only [an] at hq;split at h
   ·rename_i hf;have:=bC h;simp only [an] at hf;exact⟨k,c,ad,hf,aq hq.2,this.symm,au _⟩
   ·obtain⟨i,c',q1,q2,q3,q4,q5⟩:=C7 h
    grind
theorem Da {E E':En} {h h':Array Obj} (kp:fw E h E' h'): ∀{xs:List W} {us:List Value} {i:Nat} {x:W},cw E h xs us->xs[i]?=some x->∃u,VR E h x u/\∀x',VR E' h' x' u->cw E' h' (xs.set i x') us
 |[],us,i,x,_,hx=>by simp at hx
 |y::ys,us,0,x,hv,hx=>by rw [bO] at hv;obtain⟨u,vs,rfl,a,b⟩:=hv;simp only [aF,ag] at hx;subst hx;refine⟨u,a,fun x' I1=>?_⟩;rw [ann,bO];exact⟨u,vs,rfl,I1,cw.keep kp _ _ b⟩
 |y::ys,us,i+1,x,hv,hx=>by rw [bO] at hv;obtain⟨u,vs,rfl,a,b⟩:=hv;rw [aH] at hx;obtain⟨u',U,Z⟩:=Da kp b hx;refine⟨u',U,fun x' I1=>?_⟩;rw [ano,bO];exact⟨u,vs,rfl,VR.keep kp _ _ a,Z x' I1⟩
theorem Jd [bG] {α:Type} {ρ:Nat->Int} {w:World} {us:List Value} {k:List W->St->T α} {x:α}: ∀{fz:List (Nat×Nat×Nat)} {vs:List W} {s:St} {E:En},E.ρ=ρ->bN E s.h w->bT ρ s.pc->cw E w.heap vs us->(LP fz vs s k).leaf ρ=some x->
 ∃MO h' ea E',bT ρ ea/\Kh E w s.h E' h'/\cw E' w.heap MO us/\(k MO { s with h:=h',pc:=ea }).leaf ρ=some x
 |[],vs,s,E,hρ,r,hp,hv,h=> ⟨vs,s.h,s.pc,E,hp,Kh.refl r,hv,h⟩
 |(i,f,t)::l,vs,s,E,hρ,r,hp,hv,h=>by
  simp only [LP] at h;split at h
  ·rename_i xs hi;split at h
   ·rename_i y hy;rw [dg] at hi hy;obtain⟨y',U,fI,E1,fq,f1,q1,g1⟩:=CZ hρ r hp h;have kp:=f1.eu.keeps r;obtain⟨u,a,b⟩:=Da kp hv hi;simp only [VR] at a;obtain⟨ws,rfl,a⟩:=a;obtain⟨u2,a2,b2⟩:=Da kp a hy;split at g1
    ·rename_i e he;have hc:=jJ (q1 _ a2) he
     have Rl:cw E1 w.heap (vs.set i (.agg (xs.set f (.eg e t)))) us:=by refine b _ ?_;simp only [VR];exact⟨ws,rfl,b2 _ (by simp only [VR]; exact hc)⟩
     obtain⟨vs2,Z,jH,E2,jz,f2,q2,g2⟩:=Jd (s:={ s with h:=U,pc:=fI }) (f1.ρ.trans hρ) f1.rel fq Rl g1;exact⟨vs2,Z,jH,E2,jz,f1.trans f2,q2,g2⟩
    grind [T.leaf]
   grind [T.leaf]
  grind [T.leaf]
theorem aaq [bG] {g:tR} {qW:Nat->List Oper->Bool} (hg:Py P g qW) {fn:Func} (xY:g.res=fn.results.toList) (hm:g.eh.length=B.m) (mH:mE g.ko g.eh=true) (v!:g.ko<=900) {e:Ex} {s:St} {lf:Lf} {E:En} {a:Act} {w:World} {F:n7} {ys:List Int} (h:(YK g e s).leaf E.ρ=some lf) (ru:MI F E.ρ ys lf)
 (t:kB B E s a w) (oB:bG.ok E.ρ E.ro w.heap) (hd:a.defers= []):bodyPost P fn (QX B g.lh g.eh g.ko g.oz ys) (xB e) a w:=by
 have fit:=t.fit.fit oB
 have key: ∀{x:T Lf},x=(match kQ g.tt s g.res with
  |none=>T.fail
  |some vs=>match g.oz with
   |[]=>match cellsOf g.lh vs with
    |none=> .fail
    |some cells=>xr cells s fun cells s=>match AR (gM g s.h) g.eh.length s.h g.eh 0 with
     |true=>outs (oH g.lh) cells s fun es _=> .ret (.out ((gM g s.h).ns++es))
     |false=> .fail
   |c::l=>LP g.fz vs s fun vs s=>Mb vs.length g.eh.length g.ic ⟨cq vs 0 .nil,s.h,s.pc⟩ (c::l) 0)->x.leaf E.ρ=some lf->∃v,(results fn a.tmps).run P w= .ok v w/\QX B g.lh g.eh g.ko g.oz ys (.returned v) w:=by
  intro x hx Y;subst hx;split at Y
  ·simp [T.leaf] at Y
  ·rename_i vs hr;rw [xY] at hr;obtain⟨us,g1,g2⟩:=tA hg.tt fit hr
   have jx:(results fn a.tmps).run P w= .ok (Tq us) w:=by
    have hm:(fn.results.mapM (uT a)).run P w= .ok us.toArray w:=by rw [aoD];simp_all
    have hr2:results fn a.tmps=(do let vs <- fn.results.mapM (uT a); pure (if h:vs.size=1 then vs[0] else .tuple vs)):=rfl;rw [hr2];simp only [Sem.run_bind,hm];rfl
   split at Y
   ·rename_i A3;split at Y
    ·simp [T.leaf] at Y
    ·rename_i cells hc;rw [A3];show ∃v,_/\QE B g.lh g.eh g.ko ys (.returned v) w;obtain⟨fl,sh,X'⟩:=nB g2 hc;obtain⟨afL,U,pcF,E1,Y_,f,RA,Y⟩:=pR rfl fit.rel fit.pc Y;have hv3:=RA _ X';have s1:=f.eu;have r1:=f.rel;split at Y
     ·rename_i I4;have hρ:=f.ρ;rw [<- hρ] at Y ru Y_;obtain⟨es,fI,fq,q1,q2⟩:=CJ (s:={ s with h:=U,pc:=pcF }) Y_ hv3 Y;have:=bC q2;subst this;simp only [MI] at ru;obtain⟨n1,n2,n3⟩:=TM g U
      have Ei:ys.drop g.ko=es.map (V.den E1.ρ):=by
       grind
      have aly: ∀i,i<g.ko->low ys i=(gM g U).env E1.ρ i:=by
       intro i hi
       grind [gM,low,Ren.env,dg]
      have amx: ∀i,i<B.m->E1.dm i/\E1.θ i=B.θ i/\E1.κ i=B.κ i:=by intro i hi;obtain⟨U,Z,h3⟩:=t.W? i hi;exact⟨s1.dm i U,by rw [s1.θ i U]; exact Z,by rw [s1.κ i U]; exact h3⟩
      have alu: ∀i,i<g.eh.length->(gM g U).id i=i:=by
       intro i hi
       grind [Ren.id,dg]
      have T0: ∀i,(gM g U).uz i=0:=by intro i;unfold Ren.uz;rw [n3];rfl
      have zu: ∀i,i<B.m->¬E1.ro (B.θ i).1:=by
       intro i hi;have fD:i<g.eh.length:=J
       obtain⟨o',q3,_,_⟩:=iM I4 (aM fD);rw [ay,alu i fD] at q3;have:=(r1.live i o' q3).2.2
       grind
      refine⟨Tq us,jx,_,rfl,t.MZ,E1.ro,fun b hb=>s1.ro b (t.ro b hb),fun b hb=>?_,r1.qC,zu,fun i o hi=>?_,us,fl,sh,by rw [Ei]; exact q1,rfl⟩
      ·have key:B.ro b\/B.w0.heap.size<=b\/B.fp b:=by
        rcases s1.rF b hb with h|⟨id,o,U,Z⟩|h
        ·exact t.rF b h
        ·rw [<- Z]; exact .inr (t.own id o U)
        ·exact .inr (.inl (bk t.MZ.size h))
       rcases key with h|h|⟨i,hi,he⟩
       ·exact .inl h
       ·exact .inr h
       ·exact absurd hb (by rw [<- he]; exact zu i hi)
      ·have ep:=(aW.1 hi).1;obtain⟨o',q3,q4,q5⟩:=iM I4 hi;rw [ay] at q3 q5;have ho:=(r1.live _ o' q3).2.1;have ho2:=OR.gL (E:=E1) (r:=gM g U) J (id:=i) (by rw [n2,List.length_range]; exact q4) q5 ho
       have kp:fw (E1.gL (gM g U)) w.heap { ρ:=(gM g U).env E1.ρ,θ:=B.θ,κ:=B.κ,dm:=fun i=>i<B.m,ro:=E1.ro } w.heap:=by
        have hd: ∀id,(E1.gL (gM g U)).dm id->id<g.eh.length:=by
         intro id hh;have:=hh.1
         grind
        refine⟨rfl,fun id hh=>by have:=hd id hh; show id<B.m; omega,fun id hh=>?_,fun id hh=>?_,fun _ h=>h,fun _ _=>rfl⟩
        ·have:=hd id hh;show B.θ id=((E1.θ ((gM g U).id id)).1,(E1.θ ((gM g U).id id)).2+(gM g U).uz id)
         grind
        ·have:=hd id hh;show B.κ id=E1.κ ((gM g U).id id)-(gM g U).uz id
         grind
       have ai8:(E1.gL (gM g U)).dm i:=by
        refine⟨by rw [n2,List.length_range]; exact ep,?_⟩
        grind
       have hθi:(E1.gL (gM g U)).θ i=B.θ i:=(kp.θ i ai8).symm;have ho3:=OR.abN kp ai8 rfl (mD mH hi).1 ho2;exact OR.low (K:=g.ko) (E:={ ρ:=(gM g U).env E1.ρ,θ:=B.θ,κ:=B.κ,dm:=fun i=>i<B.m,ro:=E1.ro }) (E':=B.out ys E1.ro) aly rfl rfl rfl rfl (mD mH hi).2 ho3
     ·simp [T.leaf] at Y
   ·rename_i c0 l0 A3
    have hq:QR B (c0::l0) ys (.returned (Tq us)) w:=by
     obtain⟨Vy,U,fI,E1,fq,f1,g2,Y⟩:=Jd rfl fit.rel fit.pc g2 Y;have oB:=f1.rel.iX
     have t0:kB B E1 ⟨cq Vy 0 .nil,U,fI⟩ { tmps:=us.toArray,defers:=[] } w:=by have sr1:=zn g2 0;exact t.step (s':=⟨cq Vy 0 .nil,U,fI⟩) f1.eu ⟨f1.rel,by simpa using sr1,by rw [f1.ρ]; exact fq⟩
     rw [<- f1.ρ] at Y ru;obtain⟨i,c,q1,⟨q2,q2'⟩,q3,q4,_⟩:=C7 Y;rw [hm] at q2 q2' q4;obtain⟨hle,t1⟩:=t0.fits oB q2 q2';rw [q4] at ru;simp only [MI,ax] at ru;subst ru
     have ni:(ry g.ic (c.jh B.m ⟨cq Vy 0 .nil,U,fI⟩)).bl.length=c.dz.length:=by simp_all [CS.fits]
     have uH: ∀i,i<B.m->i<c.dz.length:=fun i hi=>by rw [<- ni]; exact (Ed q2' i hi).1
     have zu: ∀i,i<B.m->∃o,c.st.h.get i=some o:=by
      intro i hi;have I6:=uH i hi;refine⟨c.dz[i],?_⟩;show (oa c.dz 0 .nil).get i=_
      grind [jg]
     have hfp: ∀b,B.fp b->¬(E1.gL (ry g.ic (c.jh B.m ⟨cq Vy 0 .nil,U,fI⟩))).ro b:=by
      rintro b ⟨i,hi,rfl⟩ hb;obtain⟨o,ho⟩:=zu i hi;have:=(t1.fit.live i o ho).2.2;rw [(t1.W? i hi).2.1] at this
      grind
     refine⟨us,i,c,E1.gL (ry g.ic (c.jh B.m ⟨cq Vy 0 .nil,U,fI⟩)),rfl,t.MZ,by simpa using q1,by simp [V.den],by simp [vw,tj],fun a x ha=>?_,by rw [<- q3,g2.length],t1.fit,t1.ro,fun b hb=>?_,fun i hi=> ⟨uH i hi,t1.W? i hi⟩,fun id o ho hid=>?_⟩
     ·simp only [aH,bp,aO] at ha;obtain⟨e,he,rfl⟩:=ha;show (ry g.ic (c.jh B.m ⟨cq Vy 0 .nil,U,fI⟩)).env E1.ρ a=_
      grind [Ren.env,dg]
     ·rcases t1.rF b hb with h|h|h
      all_goals grind
     ·rcases t1.own id o ho with h|⟨i,hi,he⟩
      ·exact h
      ·obtain⟨o',wB⟩:=zu i hi;rw [<- (t1.W? i hi).2.1] at he;have:=t1.fit.inj i id o' o wB ho he;omega
    exact⟨Tq us,jx,by rw [A3]; exact hq⟩
 unfold YK at h
 cases e with
 |exit id=>simp [T.leaf] at h
 |normal=>exact⟨hd,key rfl h⟩
 |ret=>exact⟨hd,key rfl h⟩
theorem FI {P:Program} {Q:Exit->Act->World->Prop} {e:Ex} {a:Act} {w:World} (h:Q (xB e) a w):Exit.noGoto Q (xB e) a w:=by cases e<;>exact h
theorem kB.view [bG] {E E':En} {s:St} {a:Act} {w:World} {h':Hp} {ea:List (SB×Bool)} (hm:B.m=0) (t:kB B E s a w) (v:View E s.h w E' h') (hp:bT E.ρ ea):kB B E' { s with h:=h',pc:=ea } a w:=by
 have hold: ∀b,aaW E s.h b->B.w0.heap.size<=b:=by
  rintro b (⟨id,o,U,Z⟩|⟨x,U⟩)
  ·rcases t.own id o U with h|⟨i,hi,_⟩
   ·rw [Z] at h; exact h
   ·omega
  ·exact t.td b x U
 refine⟨⟨v.rel.fresh,v.rel.res,v.rel.live,v.rel.inj,v.rel.qC,fun i x hi=>?_,by rw [v.kp.ρ]; exact hp,v.rel.hid⟩,fun b hb=>v.kp.ro b (t.ro b hb),fun b hb=>?_,t.MZ,fun id o ho=> .inl (hold _ (v.hold _ (.inl ⟨id,o,ho,rfl⟩))),fun i hi=>by omega,fun b x hb=>hold _ (v.hold _ (.inr ⟨x,hb⟩))⟩
 ·obtain⟨u,U,Z⟩:=t.fit.sr i x hi;exact⟨u,U,VR.keep v.kp _ _ Z⟩
 ·rcases v.rF b hb with h|h
  ·exact t.rF b h
  ·exact .inr (.inl (hold b h))
def qf [bG] {α:Type} (B:mc) (a:Act) (w:World) (f:St->(St->T α)->T α):Prop:= ∀(k:St->T α) (E:En) (s:St) (x:α),kB B E s a w->bG.ok E.ρ E.ro w.heap->(f s k).leaf E.ρ=some x->∃E' s',E'.ρ=E.ρ/\kB B E' s' a w/\bG.ok E'.ρ E'.ro w.heap/\(k s').leaf E.ρ=some x
theorem S7 [bG] {α:Type} {a:Act} {w:World} (hm:B.m=0) (id:Nat) (y:V):qf (α:=α) B a w (aag id y):=by intro k E s x t hg h;obtain⟨h',ea,E',hp,v,g⟩:=aaf rfl (t.fit.fit hg).rel t.fit.pc h;exact⟨E',_,v.kp.ρ,t.view hm v hp,v.rel.iX,g⟩
theorem S6 [bG] {α:Type} {a:Act} {w:World} (hm:B.m=0) (id:Nat):qf (α:=α) B a w (P? id):=by intro k E s x t hg h;obtain⟨h',ea,E',hp,v,g⟩:=P! rfl (t.fit.fit hg).rel t.fit.pc h;exact⟨E',_,v.kp.ρ,t.view hm v hp,v.rel.iX,g⟩
theorem mn [bG] {α:Type} {a:Act} {w:World}:qf (α:=α) B a w (fun s k=>k s):=fun _ E s _ t hg h=> ⟨E,s,rfl,t,hg,h⟩
theorem qf.then [bG] {α:Type} {a:Act} {w:World} {f f':St->(St->T α)->T α} (U:qf B a w f) (Z:qf B a w f'):qf B a w (fun s k=>f s fun s=>f' s k):=by intro k E s x t hg h;obtain⟨E1,s1,e1,t1,g1,q1⟩:=U _ E s x t hg h;rw [<- e1] at q1;obtain⟨E2,s2,e2,t2,g2,q2⟩:=Z _ E1 s1 x t1 g1 q1;exact⟨E2,s2,e2.trans e1,t2,g2,by rw [<- e1]; exact q2⟩
theorem xC [bG] {α:Type} {a:Act} {w:World} (hm:B.m=0) (y:V): ∀l:List Nat,qf (α:=α) B a w (Jf y l)
 |[]=>mn
 |i::l=>(S7 hm i y).then (xC hm y l)
theorem Dj [bG] {α:Type} {a:Act} {w:World} (hm:B.m=0): ∀l:List Nat,qf (α:=α) B a w (NS l)
 |[]=>mn
 |i::l=>(S6 hm i).then (Dj hm l)
theorem Nh [bG] {α:Type} {a:Act} {w:World} (t j kd:Nat):qf (α:=α) B a w (ae9 t j kd):=by
 intro k E s x tp hg h;unfold ae9 at h;split at h
 ·split at h
  ·rename_i i o hsl;split at h
   ·rename_i ob I4;split at h
    ·rename_i cs e0;split at h
     ·rename_i v hv;rw [dg] at hv;have fit:=tp.fit.fit hg;obtain⟨v',h',ea,E',hp,f,RA,g⟩:=CZ rfl fit.rel fit.pc h;split at g
      ·rename_i ob' aiY;split at g
       ·rename_i lE e';have XZ:=f.sub.get _ _ aiY;rw [I4] at XZ;simp only [ag,dP.cells.injEq] at XZ;obtain⟨rfl,rfl⟩:=XZ;split at g
        ·rename_i c hc;obtain⟨qI,Ro,_⟩:=fit.rel.live i _ I4;have kp:=f.eu.keeps fit.rel
         have alf:OR E' w.heap i (.cells (cs.set (o+j) (.eg c kd)) e0):=by simp only [OR] at Ro ⊢;obtain⟨arr,lo,hi,us,U,Z,h3,h4,h5,h6,h7⟩:=Ro;obtain⟨u,hu,aeI⟩:=Da kp Z hv;rw [f.eu.θ i qI,f.eu.κ i qI];exact⟨arr,lo,hi,us,U,aeI _ (by simp only [VR]; exact jJ (RA u hu) hc),h3,by rw [anp]; exact h4,h5,h6,h7⟩
         obtain⟨qZ,ah5⟩:=yR f.rel aiY (.cells (cs.set (o+j) (.eg c kd)) e0) rfl (fun _ _=>rfl) ⟨rfl,rfl,rfl⟩ alf;have st:=f.eu.trans qZ;exact⟨E',{ s with h:=h'.put i (.cells (cs.set (o+j) (.eg c kd)) e0),pc:=ea },f.ρ,tp.step st ⟨ah5,SR.keep (st.keeps fit.rel) fit.sr,by rw [f.ρ]; exact hp⟩,ah5.iX,g⟩
        ·simp [T.leaf] at g
       ·simp [T.leaf] at g
      ·simp [T.leaf] at g
     ·exact⟨E,s,rfl,tp,hg,h⟩
    ·exact⟨E,s,rfl,tp,hg,h⟩
   ·exact⟨E,s,rfl,tp,hg,h⟩
  ·exact⟨E,s,rfl,tp,hg,h⟩
 ·exact⟨E,s,rfl,tp,hg,h⟩
theorem F4 [bG] {α:Type} {a:Act} {w:World} (i:Nat):qf (α:=α) B a w (aad i):=by
 intro k E s x t hg h;unfold aad at h;split at h
 ·exact Nh _ _ _ k E s x t hg h
 split at h
 ·rename_i v hv;have fit:=t.fit.fit hg;obtain⟨v',h',ea,E',hp,f,RA,g⟩:=CZ rfl fit.rel fit.pc h
  have key: ∀v2:W,(∀u,VR E w.heap v u->VR E' w.heap v2 u)->(k { s with h:=h',pc:=ea,bE:=s.bE.put (i % 1000) (some v2) }).leaf E.ρ=some x->∃E' s',E'.ρ=E.ρ/\kB B E' s' a w/\bG.ok E'.ρ E'.ro w.heap/\(k s').leaf E.ρ=some x:=by
   intro v2 Z g;refine⟨E',_,f.ρ,t.step f.eu ⟨f.rel,fun j y hj=>?_,by rw [f.ρ]; exact hp⟩,f.rel.iX,g⟩;obtain⟨u,hu,hvu⟩:=fit.sr (i % 1000) v hv;simp only [Tr.bP] at hj;split at hj
   ·rename_i he;subst he;simp only [ag] at hj;subst hj;exact⟨u,hu,Z u hvu⟩
   ·exact SR.keep (f.eu.keeps fit.rel) fit.sr j y hj
  split at g
  ·split at g
   ·rename_i e he;exact key _ (fun u hu=>by simp only [VR]; exact jJ (RA u hu) he) g
   ·simp [T.leaf] at g
  ·exact key _ RA g
 ·exact⟨E,s,rfl,t,hg,h⟩
theorem Dm [bG] {α:Type} {a:Act} {w:World} (hm:B.m=0) (r:Nat): ∀l:List FH,qf (α:=α) B a w (FU r l)
 |[]=>mn
 |h0::l=>by
  have ih:=Dm (α:=α) (a:=a) (w:=w) hm r l;intro k E s x t hg h;simp only [FU] at h;split at h
  ·exact ih k E s x t hg h
  ·split at h
   ·split at h
    ·exact ((F4 _).then ih) k E s x t hg h
    ·exact ih k E s x t hg h
   ·split at h
    ·exact ((xC hm _ _).then ih) k E s x t hg h
    ·split at h
     ·exact ih k E s x t hg h
     ·obtain⟨ea,fA,U⟩:=cE t.fit.pc h;split at U
      ·exact ((xC hm _ _).then ih) k E _ x (t.pc fA) hg U
      ·exact ih k E _ x (t.pc fA) hg U
theorem Ey {g:tR} (h:Ho g=true):g.eh= []/\g.oz= []:=by
 unfold Ho at h;split at h
 ·simp at h
 ·split at h
  ·rename_i U;split at h
   ·rename_i Z;exact⟨U,Z⟩
   ·simp at h
  ·simp at h
theorem Dl [bG] {α:Type} {a:Act} {w:World} (r:Nat): ∀l:List FH,qf (α:=α) B a w (Ue r l)
 |[]=>mn
 |h0::l=>by
  have ih:=Dl (α:=α) (a:=a) (w:=w) r l;intro k E s x t hg h;simp only [Ue] at h;split at h
  ·exact ih k E s x t hg h
  ·split at h
   ·exact ((F4 _).then ih) k E s x t hg h
   ·exact ih k E s x t hg h
theorem Ni [bG] {α:Type} {a:Act} {w:World} {g:tR} (hm:g.eh.length=B.m) (c:Code):qf (α:=α) B a w (Uf g c):=by
 intro k E s x t hg h;unfold Uf at h;split at h
 ·rename_i he;rw [(Ey he).1] at hm;split at h
  ·exact Dm hm.symm _ _ k E s x t hg h
  ·exact mn k E s x t hg h
 ·split at h
  ·split at h
   ·exact Dl _ _ k E s x t hg h
   ·exact mn k E s x t hg h
  ·exact mn k E s x t hg h
theorem Dk [bG] {α:Type} {a:Act} {w:World} {g:tR} {p:List Nat} (hm:g.eh.length=B.m):qf (α:=α) B a w (TE g p):=by
 intro k E s x t hg h;unfold TE at h;split at h
 ·rename_i he;rw [(Ey he).1] at hm;split at h
  ·exact mn k E s x t hg h
  ·exact Dj hm.symm _ k E s x t hg h
 ·exact mn k E s x t hg h
theorem Ja [bG] {g:tR} {qW:Nat->List Oper->Bool} (hg:Py P g qW) {body:Code} {N:Nat} (hd:jQ qW N body=true) {fn:Func} (xY:g.res=fn.results.toList) (hm:g.eh.length=B.m) (mH:mE g.ko g.eh=true) (v!:g.ko<=900) {F:n7} {ys:List Int} {fe:Cw}
 (hj:q? P body N B (bodyPost P fn (QX B g.lh g.eh g.ko g.oz ys)) F ys fe): ∀n:Nat,
 (∀p c fr s lf E a w,oN body p=some (c,fr)->(wZ g fe n p c fr s).leaf E.ρ=some lf->MI F E.ρ ys lf->kB B E s a w->bG.ok E.ρ E.ro w.heap->N<=a.tmps.size->a.defers= []->c.wp P (KE P (bodyPost P fn (QX B g.lh g.eh g.ko g.oz ys)) fr) a w)/\
 (∀fr e s lf E a w,Fz body fr->(tm g fe n fr e s).leaf E.ρ=some lf->MI F E.ρ ys lf->kB B E s a w->bG.ok E.ρ E.ro w.heap->N<=a.tmps.size->a.defers= []->KE P (bodyPost P fn (QX B g.lh g.eh g.ko g.oz ys)) fr (xB e) a w)
 |0=> ⟨fun _ _ _ _ _ _ _ _ _ h=>by simp [wZ,T.leaf] at h,fun _ _ _ _ _ _ _ _ h=>by simp [tm,T.leaf] at h⟩
 |n+1=>by
  obtain⟨Kd,tX⟩:=Ja hg hd xY hm mH v! hj n
  have leaf: ∀p c fr s lf E a w,oN body p=some (c,fr)->(Uf g c s fun s=>(g.ev c s).bind fun (e,s')=>tm g fe n fr e s').leaf E.ρ=some lf->MI F E.ρ ys lf->kB B E s a w->bG.ok E.ρ E.ro w.heap->N<=a.tmps.size->a.defers= []->c.wp P (KE P (bodyPost P fn (QX B g.lh g.eh g.ko g.oz ys)) fr) a w:=by intro p c fr s lf E0 a w Y h ru t oB hN CW;obtain⟨E,s,hE,t,oB,h⟩:=Ni hm c _ E0 s lf t oB h;rw [<- hE] at h ru;obtain⟨⟨e,s'⟩,U,Z⟩:=T.fg h;refine wp_mono (kR hg.tt hg.call hg.draw c (so hd p Y) E s s' e a w hN (t.fit.fit oB) U) fun x a' w' ⟨hx,ht⟩=>?_;subst hx;obtain⟨E',t',hρ,hg'⟩:=t.then ht;exact tX fr e s' lf E' a' w' (wj p Y) (by rw [hρ]; exact Z) (by rw [hρ]; exact ru) t' hg' (by rw [ht.size]; exact hN) (by rw [ht.defers,CW])
  constructor
  ·intro p c fr s lf E a w Y h ru t oB hN CW;simp only [wZ] at h;split at h
   ·rename_i l MV;obtain⟨E1,s1,hE,t,oB,h⟩:=Dk hm _ E s lf t oB h;rw [<- hE] at h ru;obtain⟨b,Yx,FP,_⟩:=hj p l MV;rw [Y] at FP;simp only [ag,ak] at FP;obtain⟨rfl,rfl⟩:=FP;obtain⟨s',t',h'⟩:=wT h t;exact N1 (wu hj MV Y (fun _ hx=>hx) (by rw [<- hm]; exact h') ru t' oB hN CW)
   ·cases c with
    |seq x y=> simp only at h;refine wp_seq ?_;exact Kd (0::p) x (.seq (1::p) y::fr) s lf E a w (by simp only [oN,Y]) h ru t oB hN CW
    |block id b=> simp only at h;refine wp_block ?_;exact Kd (0::p) b (.block id::fr) s lf E a w (by simp only [oN,Y]) h ru t oB hN CW
    |scope b=> simp only at h;refine wp_scope_straight ?_;exact Kd (0::p) b (.scope::fr) s lf E a w (by simp only [oN,Y]) h ru t oB hN CW
    |cond v x y=>
     simp only at h;split at h
     ·rename_i c hv;obtain⟨ea,fA,U⟩:=cE t.fit.pc h;have Rk:=gf t.fit.sr hv;simp only [VR] at Rk;refine wp_cond Rk ?_
      cases RC:c.den E.ρ with
      |true=> rw [RC] at U;simp only at U;exact Kd (0::p) x fr _ lf E a w (by simp only [oN,Y]) U ru (t.pc fA) oB hN CW
      |false=> rw [RC] at U;simp only at U;exact Kd (1::p) y fr _ lf E a w (by simp only [oN,Y]) U ru (t.pc fA) oB hN CW
     grind [T.leaf]
    |_=>simp only at h; exact leaf p _ fr s lf E a w Y h ru t oB hN CW
  ·intro fr e s lf E a w hf h ru t oB hN CW
   cases fr with
   |nil=> simp only [tm] at h;exact aaq hg xY hm mH v! h ru t oB CW
   |cons f fr=>
    cases f with
    |seq p c=>
     simp only [tm] at h;obtain⟨Y,Oq⟩:=hf
     cases e with
     |normal=>exact Kd p c fr s lf E a w Y h ru t oB hN CW
     |exit id=>exact tX fr (.exit id) s lf E a w Oq h ru t oB hN CW
     |ret=>exact tX fr .ret s lf E a w Oq h ru t oB hN CW
    |block id=>
     simp only [tm] at h;have Oq:Fz body fr:=hf
     cases e with
     |normal=>exact tX fr .normal s lf E a w Oq h ru t oB hN CW
     |ret=>exact tX fr .ret s lf E a w Oq h ru t oB hN CW
     |exit j=>
      simp only at h;show (if j=id then _ else _);split at h
      ·rename_i Yg;rw [ah (aq Yg)];exact tX fr .normal s lf E a w Oq h ru t oB hN CW
      ·rename_i Yg;rw [af (anD Yg)];exact tX fr (.exit j) s lf E a w Oq h ru t oB hN CW
    |loop p b=>
     simp only [tm] at h;obtain⟨Y,Oq⟩:=hf
     cases e with
     |normal=>
      simp only at h;split at h
      ·rename_i l MV;obtain⟨E1,s1,hE,t,oB,h⟩:=Dk hm _ E s lf t oB h;rw [<- hE] at h ru;obtain⟨s',t',h'⟩:=wT h t;exact wu hj MV Y (fun _ hx=>hx) (by rw [<- hm]; exact h') ru t' oB hN CW
      grind [T.leaf]
     |exit id=>exact tX fr (.exit id) s lf E a w Oq h ru t oB hN CW
     |ret=>exact tX fr .ret s lf E a w Oq h ru t oB hN CW
    |scope=> simp only [tm] at h;exact FI (P:=P) (tX fr e s lf E a w hf h ru t oB hN CW)
end
end Go.As
end
section
namespace Go.As
open Go.RowKit
def Ren.bJ (r:Ren):List (W×W×Nat)->List (W×W×Nat)
 |[]=>[]
 |(k,v,n)::l=>(r.av k,r.av v,n)::r.bJ l
theorem Ren.B8 (r:Ren): ∀es:List (W×W×Nat),(r.bJ es).map (·.2.2)=es.map (·.2.2)
 |[]=>rfl
 |(k,v,n)::l=>by simp only [Ren.bJ,ax,Ren.B8 r l]
def Ren.ovs (r:Ren):List (V×List W)->List (V×List W)
 |[]=>[]
 |(i,cs)::l=>(r.se i,r.Ct cs)::r.ovs l
def Ren.ob (r:Ren):dP->dP
 | .cells cs e=> .cells (r.Ct cs) e
 | .map es n=> .map (r.bJ es) n
 | .j4 s p=> .j4 s p
 | .jt m s l z=> .jt (m.map r.id) s l z
 | .vec e t ty ov=> .vec (r.se e) t ty (r.ovs ov)
 | .jT e t=> .jT (r.se e) t
 | .ur e t eY ov=> .ur e t eY ov
noncomputable def j5 (r:Ren):List dP->Nat->Hp->Hp
 |[],_,h=>h
 |o::os,i,h=>j5 r os (i+1) (h.put (r.id i) (r.ob o))
def GJ (r:Ren):Bool:=r.sh.all fun i=>Nat.beq i 0
def PX (r:V) (n:Nat):List V:=(List.range n).map (oy r)
noncomputable def X5 (j:Nat) (c:CS) (lh:List RK) (eh:List dP) (ko:Nat):List W->St->T (W×St):=fun args s=>
 match Nat.beq args.length c.bE.length&&c.fits t! ⟨cq args 0 .nil,s.h,s.pc⟩ (c.kV ⟨cq args 0 .nil,s.h,s.pc⟩)&&GJ (c.kV ⟨cq args 0 .nil,s.h,s.pc⟩) with
 |true=>jn s (.eq (.ap (2*j) (fU (c.kV ⟨cq args 0 .nil,s.h,s.pc⟩).ns)) (.lit 1)) fun s' b=>match b with
  |true=> .ret (match pF lh (oy (.ap (2*j+1) (fU (c.kV ⟨cq args 0 .nil,s.h,s.pc⟩).ns))) ko with |[v]=>v|vs=> .tuple vs,
   { s' with h:=j5 ⟨PX (.ap (2*j+1) (fU (c.kV ⟨cq args 0 .nil,s.h,s.pc⟩).ns)) ko,(c.kV ⟨cq args 0 .nil,s.h,s.pc⟩).bl,[]⟩ eh 0 s'.h })
  |false=> .fail
 |false=> .fail
noncomputable def ajr (s:St) (t c:Nat):V:=match s.bE.get t with
 |some v=>match v with
  | .int _ e=>e
  | .agg cs=>match eX cs c with
    |some v=>match v with
     | .int _ e=>e
     |_=> .lit 0
    |none=> .lit 0
  |_=> .lit 0
 |none=> .lit 0
noncomputable def Yt (s:St):List (Nat×Nat)->List V->List V
 |[],ns=>ns
 |_::_,[]=>[]
 |(t,c)::l,_::ns=>ajr s t c::Yt s l ns
noncomputable def v? (s:St) (gh:List (Nat×Nat)) (r:Ren):Ren:={ r with ns:=Yt s gh r.ns }
noncomputable def ajq (s:St) (gh:List (Nat×Nat)):Option V:=match gh with
 |(t,c)::_=>some (ajr s t c)
 |[]=>none
noncomputable def rA (q:V) (ic:Nat) (ns:List V) (c:CS) (bl:List Nat) (s:St):Ren:=⟨(List.range c.k).map fun a=>match Nat.blt a ic with |true=>(match eX ns a with |some e=>e|none=> .lit 0)|false=>oy q (a+1),(List.range c.dz.length).map fun i=>match eX bl i with |some j=>j|none=>s.h.next+(i-bl.length),[]⟩
noncomputable def Ys (g n:V) (s:St) (k:St->T (W×St)):T (W×St):=jn s (gV g (.lit 0)) fun s b=>match b with
 |true=>k s
 |false=>jn s (gV g n) fun s b=>match b with
  |true=> .fail
  |false=>k s
noncomputable def ghT (q:V) (ic:Nat) (ns:List V) (g:Option V) (c:CS) (bl:List Nat) (s:St) (k:St->T (W×St)):T (W×St):=match g with
 |none=>k s
 |some g=>match c.m with
  | .dH _=>k s
  |_=>match c.bE with
   |[]=>k s
   |(_,v)::_=>match v with
    | .oq _ n _=>Ys g ((rA q ic ns c bl s).se n) s k
    |_=>k s
noncomputable def h_ (q:V) (ic:Nat) (ns:List V) (g:Option V) (bl:List Nat):List CS->Nat->St->T (W×St)
 |[],_,_=> .fail
 |c::l,i,s=>jn s (ra (oy q 0) (.lit (Int.ofNat i))) fun s b=>match b with
  |true=>ghT q ic ns g c bl s fun s=> .ret (AO ((rA q ic ns c bl s).Ct (c.bE.map fun p=>p.2)),
   { s with h:=⟨(j5 (rA q ic ns c bl s) c.dz 0 s.h).m,s.h.next+(c.dz.length-bl.length),s.h.res⟩ })
  |false=>h_ q ic ns g bl l (i+1) s
noncomputable def Rp (j ic:Nat) (c:CS) (gh:List (Nat×Nat)) (oz:List CS):List W->St->T (W×St):=fun args s=>
 match Nat.beq args.length c.bE.length&&c.fits t! ⟨cq args 0 .nil,s.h,s.pc⟩ (v? s gh (c.kV ⟨cq args 0 .nil,s.h,s.pc⟩))&&GJ (v? s gh (c.kV ⟨cq args 0 .nil,s.h,s.pc⟩)) with
 |true=>jn s (.eq (.ap (2*j) (fU (v? s gh (c.kV ⟨cq args 0 .nil,s.h,s.pc⟩)).ns)) (.lit 1)) fun s' b=>match b with
  |true=>h_ (.ap (2*j+1) (fU (v? s gh (c.kV ⟨cq args 0 .nil,s.h,s.pc⟩)).ns)) ic (v? s gh (c.kV ⟨cq args 0 .nil,s.h,s.pc⟩)).ns (ajq s gh) (v? s gh (c.kV ⟨cq args 0 .nil,s.h,s.pc⟩)).bl oz 0 s'
  |false=> .fail
 |false=> .fail
section
variable {Eo E2:En} {r:Ren} {h:Array Obj} (Y:r.ns.length<=900) (xX:r.sh= []) (hρ:Eo.ρ=r.env E2.ρ) (hid: ∀i,Eo.dm i->E2.dm (r.id i)/\E2.θ (r.id i)=Eo.θ i/\E2.κ (r.id i)=Eo.κ i) (jy:Eo.ro=E2.ro)
include Y xX hρ hid jy
theorem WV (i:Nat):r.uz i=0:=by unfold Ren.uz; rw [xX]; rfl
theorem eC.back {id off len:Nat} {a:Addr} {cap:Nat} {c:MN} (hd:Eo.dm id) (hc:eC Eo id off len a cap c):eC E2 (r.id id) off len a cap c:=by simp_all [eC]
mutual
theorem VR.back: ∀(x:W) (u:Value),VR Eo h x u->VR E2 h (r.av x) u
 | .bool b,u,hv=>by simp only [VR,Ren.av] at *; rw [Ren.AJ Y,<- hρ]; exact hv
 | .int _ e,u,hv=>by simp only [VR,Ren.av] at *; rw [Ren.ej Y,<- hρ]; exact hv
 | .str s,u,hv=>by simp only [VR,Ren.av] at *; exact hv
 | .ptr id off,u,hv=>by
   simp only [VR,Ren.av,WV Y xX hρ hid jy,ay] at *
   grind
 | .sV,u,hv=>by simp only [VR,Ren.av] at *; exact hv
 | .mJ cs,u,hv=>by simp only [VR,Ren.av] at *;obtain⟨b,o,us,U,Z,h3,h4,h5⟩:=hv;exact⟨b,o,us,U,by rw [<- jy]; exact Z,cw.back cs us h3,h4,h5⟩
 | .slice id off len c,u,hv=>by simp only [VR,Ren.av,WV Y xX hρ hid jy,ay] at *;obtain⟨U,a,cap,Z,h3,h4⟩:=hv;exact⟨(hid id U).1,a,cap,Z,h3,eC.back Y xX hρ hid jy U h4⟩
 | .dv,u,hv=>by simp only [VR,Ren.av] at *; exact hv
 | .ro cs n full,u,hv=>by simp only [VR,Ren.av] at *;obtain⟨b,o,cap,us,U,Z,h3,h4,h5,h6,h7⟩:=hv;exact⟨b,o,cap,us,U,Z,h3,by rw [<- jy]; exact h4,cw.back cs us h5,h6,h7⟩
 | .map id,u,hv=>by
   simp only [VR,Ren.av] at *
   grind
 | .ri,u,hv=>by simp only [VR,Ren.av] at *; exact hv
 | .func fn fs cs,u,hv=>by simp only [VR,Ren.av] at *;obtain⟨us,ws,U,Z,h3⟩:=hv;exact⟨us,ws,U,cw.back fs us Z,cw.back cs ws h3⟩
 | .u4,u,hv=>by simp only [VR,Ren.av] at *; exact hv
 | .iface t x,u,hv=>by simp only [VR,Ren.av] at *;obtain⟨y,U,Z⟩:=hv;exact⟨y,U,VR.back x y Z⟩
 | .wY,u,hv=>by simp only [VR,Ren.av] at *; exact hv
 | .agg cs,u,hv=>by simp only [VR,Ren.av] at *;obtain⟨us,U,Z⟩:=hv;exact⟨us,U,cw.back cs us Z⟩
 | .tuple cs,u,hv=>by simp only [VR,Ren.av] at *;obtain⟨us,U,Z⟩:=hv;exact⟨us,U,cw.back cs us Z⟩
 | .Kc _,u,hv=>by simp only [VR] at hv
 | .wy k ks,u,hv=>by
   simp only [VR,Ren.av] at *;rw [hρ,Ren.lD Y J,jy] at hv;rcases hv with hv|⟨b,o,n,cap,U,Z,h3,h4,h5⟩
   ·grind
   ·refine .inr ⟨b,o,n,cap,U,Z,h3,h4,fun i j kd hi hj=>?_⟩;have:=h5 i j kd hi hj
    first
     |exact this
     |(rw [Ren.lD Y J] at this; exact this)
     |(rw [hρ,Ren.lD Y J] at this; exact this)
 | .emp,u,hv=>by simp only [VR,Ren.av] at *; exact hv
 | .eg e t,u,hv=>by simp only [VR,Ren.av] at *; rw [Ren.ej Y,<- hρ,<- jy]; exact hv
 | .jD e,u,hv=>by simp only [VR,Ren.av] at *; rw [Ren.ej Y,<- hρ,<- jy]; exact hv
 | .oq id n t,u,hv=>by simp only [Ren.av,WV Y xX hρ hid jy];simp only [VR] at *;obtain⟨U,k,a,cap,Z,h3,h4,h5⟩:=hv;exact⟨(hid id U).1,k,a,cap,by rw [Ren.ej Y,<- hρ]; exact Z,h3,h4,eC.back Y xX hρ hid jy U h5⟩
 | .yu id es i off,u,hv=>by simp only [Ren.av,WV Y xX hρ hid jy];simp only [VR] at *;obtain⟨U,k,Z,h3⟩:=hv;obtain⟨g1,g2,_⟩:=hid id U;exact⟨g1,k,by rw [Ren.ej Y,<- hρ]; exact Z,by rw [g2]; exact h3⟩
 | .any,u,_=>by simp only [VR,Ren.av]
 | .w4 z t,u,hv=>by simp only [VR,Ren.av] at *; rw [Ren.ej Y,<- hρ,<- jy]; exact hv
 | .sD id lo n t,u,hv=>by simp only [Ren.av,WV Y xX hρ hid jy];simp only [VR] at *;obtain⟨U,l,k,a,cap,Z,h3,h4,h5,h6⟩:=hv;exact⟨(hid id U).1,l,k,a,cap,by rw [Ren.ej Y,<- hρ]; exact Z,by rw [Ren.ej Y,<- hρ]; exact h3,h4,h5,eC.back Y xX hρ hid jy U h6⟩
theorem cw.back: ∀(xs:List W) (us:List Value),cw Eo h xs us->cw E2 h (r.Ct xs) us
 |[],us,hv=>by simp only [cw,Ren.Ct] at *; exact hv
 |x::xs,us,hv=>by simp only [cw,Ren.Ct] at *;obtain⟨u,vs,U,Z,h3⟩:=hv;exact⟨u,vs,U,VR.back x u Z,cw.back xs vs h3⟩
end
theorem eK.back: ∀{es:List (W×W×Nat)} {bJ:List MapEntry},eK Eo h es bJ->eK E2 h (r.bJ es) bJ
 |[],_,hv=>by simp only [eK,Ren.bJ] at *; exact hv
 |(k,v,b)::es,bJ,hv=>by simp only [eK,Ren.bJ] at *;obtain⟨e,rr,U,Z,h3,h4,h5⟩:=hv;exact⟨e,rr,U,VR.back Y xX hρ hid jy k _ Z,VR.back Y xX hρ hid jy v _ h3,h4,eK.back h5⟩
theorem DP {i:Nat}: ∀{ov:List (V×List W)},dY E2.ρ i (r.ovs ov)=(dY Eo.ρ i ov).map r.Ct
 |[]=>rfl
 |(j,cs)::l=>by
  simp only [dY,Ren.ovs];rw [Ren.ej Y,<- hρ,DP]
  grind
theorem xw {row:Row} {ov:List (V×List W)}: ∀(ds:List D) (i:Nat) {us:List Value},cw Eo h (bD Eo.ρ row ov ds i) us->cw E2 h (bD E2.ρ row (r.ovs ov) ds i) us
 |[],_,us,hv=>by simp only [bD,cw] at *; exact hv
 |d::ds,i,us,hv=>by
  simp only [bD] at *;obtain⟨a,b,rfl,U,Z⟩:=hv.split;refine cw.append ?_ (xw ds (i+1) Z);rw [DP Y xX hρ hid jy]
  cases ho:dY Eo.ρ i ov with
  |none=> rw [ho] at U;simp only [Option.map_none];rw [fy] at U ⊢;rw [<- jy];exact U
  |some cs=> rw [ho] at U;exact cw.back Y xX hρ hid jy cs a U
theorem GF {row:Row}: ∀{ov:List (V×List W)},sU row ov->sU row (r.ovs ov)
 |[],h=>h
 |(i,cs)::l,h=>by
  intro p hp;simp only [Ren.ovs] at hp;rcases aw.1 hp with rfl|hp
  ·simp only [qd]; exact h (i,cs) ad
  ·exact GF (fun q hq=>h q (by simp [hq])) p hp
theorem OR.back {id:Nat} {o:dP} (hn:nf o=true) (hd:Eo.dm id) (ho:OR Eo h id o):OR E2 h (r.id id) (r.ob o):=by
 obtain⟨_,Z,h3⟩:=hid id hd
 cases o with
 |ur e t eY ov=>simp [nf] at hn
 |cells cs e=> simp only [OR,Ren.ob] at *;obtain⟨arr,lo,hi,us,q1,q2,q3,q4,q5,q6,q7⟩:=ho;rw [Z,h3];exact⟨arr,lo,hi,us,q1,cw.back Y xX hρ hid jy cs us q2,q3,by rw [qd]; exact q4,q5,q6,q7⟩
 |map es c=>
  simp only [OR,Ren.ob] at *;obtain⟨bJ,c',q1,q2,q3⟩:=ho;rw [Z];refine⟨bJ,c',q1,eK.back Y xX hρ hid jy q2,?_⟩
  cases c with
  |zero=>trivial
  |succ c=>exact⟨q3.1,by rw [q3.2,Ren.B8]⟩
 |j4 s p=>simp only [OR,Ren.ob] at *; rw [Z]; exact ho
 |jt m s l z=>
  cases m with
  |none=>simp only [OR,Ren.ob,Option.map] at *; rw [Z]; exact ho
  |some i=> simp only [OR,Ren.ob,Option.map] at *;obtain⟨q1,q2,q3⟩:=hid i ho.2.2;rw [Z,q2];exact⟨ho.1,ho.2.1,q1⟩
 |jT e t=>
  grind [OR,Ren.ob,Ren.ej]
 |vec e t ty ov=>
  simp only [OR,Ren.ob] at *;obtain⟨⟨q0,qw⟩,arr,lo,hi,us,q1,q2,q3,q4,q5,q6,q7⟩:=ho;have he:(r.se e).den E2.ρ=e.den Eo.ρ:=by rw [Ren.ej Y,<- hρ]
  have q0':=GF Y xX hρ hid jy q0;rw [Z,h3,he];refine⟨⟨q0',qw⟩,arr,lo,hi,us,q1,xw Y xX hρ hid jy _ _ q2,q3,?_,q5,q6,q7⟩
  grind [cF]
end
theorem xH {r:Ren}: ∀{os:List dP} {i:Nat} {h:Hp},(∀a b,i<=a->a<i+os.length->i<=b->b<i+os.length->r.id a=r.id b->a=b)->
 (∀k o,os[k]?=some o->(j5 r os i h).get (r.id (i+k))=some (r.ob o))/\(∀id,(∀k,k<os.length->r.id (i+k)≠id)->(j5 r os i h).get id=h.get id)/\(j5 r os i h).next=h.next/\(j5 r os i h).res=h.res
 |[],i,h,_=> ⟨fun k o hk=>by simp at hk,fun _ _=>rfl,rfl,rfl⟩
 |o::os,i,h,LA=>by
  obtain⟨U,Z,h3,h4⟩:=xH (r:=r) (os:=os) (i:=i+1) (h:=h.put (r.id i) (r.ob o)) fun a b U Z h3 h4=>LA a b J (by simp only [aL]; omega) J (by simp only [aL]; omega);refine⟨fun k x hk=>?_,fun id hn=>?_,h3,h4⟩
  ·cases k with
   |zero=>
    simp at hk;subst hk;simp only [j5];show (j5 r os (i+1) (h.put (r.id i) (r.ob o))).get (r.id i)=some (r.ob o)
    grind [Hp.bP]
   |succ k=>
    grind [j5]
  ·simp only [j5];rw [Z id fun k hk=>?_,Hp.bP,af ?_]
   ·have:=hn 0 ad
    grind
   grind
theorem xn (c:CS) (s:St):(c.kV s).ns.length=c.k:=by
 grind [CS.kV,ny]
section
variable {P:Program}
def ac5 (P:Program) (GB:(Nat->Prop)->Array Obj->Prop) (g:FuncId) (c:CS) (lh:List RK) (eh:List dP) (ko:Nat) (f:List Int->Option (List Int)):Prop:=
 ∀xs ys,f xs=some ys->∀(E:En) (w:World) (vals:List Value),(∀i x,xs[i]?=some x->E.ρ i=x)->xs.length=c.k->vR E c.st { tmps:=vals.toArray,defers:=[] } w->GB E.ro w.heap->
  Calls P g vals.toArray w (QE ⟨w,E.ro,c.dz.length,E.θ,E.κ⟩ lh eh ko ys)
theorem X4 [bG] {GB:(Nat->Prop)->Array Obj->Prop} (LC: ∀ρ ro h,bG.ok ρ ro h->GB ro h) {F:n7} (LB: ∀ρ ro h,bG.ok ρ ro h->Good F ρ) {g:FuncId} {j:Nat} {c:CS} {lh:List RK} {eh:List dP} {ko:Nat} (mH:mE ko eh=true) (v!:ko<=900) (hom:eh.length=c.dz.length)
 (hs:ac5 P GB g c lh eh ko (F j)) (jx: ∀(args:Array Value) (w:World),(callFunc g args).run P w= .ok (.enter g args) w):ik P g (X5 j c lh eh ko):=by
 intro amB s E w vals v s' r hv hp Y;unfold X5 at Y;split at Y
 ·rename_i je;simp only [an] at je;obtain⟨⟨_,Oo⟩,uG⟩:=je;have hlen:=xn c ⟨cq amB 0 .nil,s.h,s.pc⟩;generalize hr:c.kV ⟨cq amB 0 .nil,s.h,s.pc⟩ = rn at Y Oo uG hlen
  have f0:Fit E ⟨cq amB 0 .nil,s.h,s.pc⟩ { tmps:=vals.toArray,defers:=[] } w:=by refine⟨r,?_,hp⟩;have:=zn hv 0;simpa using this
  obtain⟨hle,f1,ho⟩:=zJ NP f0 Oo;obtain⟨fI,fq,q1⟩:=cE hp Y;split at q1
  ·rename_i ht;have hg:=LB _ _ _ r.iX;have hg1:=(hg j (rn.ns.map (V.den E.ρ))).1;have hg2:=(hg j (rn.ns.map (V.den E.ρ))).2;simp only [SB.den,V.den,jc,hg1,beq_iff_eq] at ht
   have BU:(F j (rn.ns.map (V.den E.ρ))).isSome=true:=by
    cases hh:(F j (rn.ns.map (V.den E.ρ))).isSome with
    |true=>rfl
    |false=>rw [hh] at ht; simp at ht
   obtain⟨ys,G4⟩:=am9.1 BU
   have T3:(V.ap (2*j+1) (fU rn.ns)).den E.ρ=me ys:=by show E.ρ _=_;rw [jc,hg2,G4];rfl
   have:=bC q1;simp only [ak] at this;obtain⟨rfl,rfl⟩:=this;refine⟨rfl,fq,?_⟩;unfold jE lI;rw [jx]
   have mM: ∀i x,(rn.ns.map (V.den E.ρ))[i]?=some x->(E.gL rn).ρ i=x:=by intro i x hi;rw [bp,aO] at hi;obtain⟨e,he,rfl⟩:=hi;show rn.env E.ρ i=_;unfold Ren.env;rw [dg,he]
   refine Calls.mono (hs _ ys G4 (E.gL rn) w vals mM (by simpa using hlen) f1.x (LC _ _ _ f1.rel.iX)) fun e w' ⟨u,he,hb,mg,k1,k2,k3,k4,k5,k6⟩=> ⟨u,he,?_⟩;have s7:=Oo;unfold CS.fits at s7;simp only [an] at s7;obtain⟨⟨⟨⟨⟨_,ni⟩,aeT⟩,_⟩,aeL⟩,_⟩:=s7;have ni:=aq ni
   have T0: ∀i,rn.uz i=0:=by
    intro i;unfold Ren.uz;split
    ·rename_i x hx;rw [dg] at hx;unfold GJ at uG;rw [aX] at uG;exact aq (uG x (amE hx))
    ·rfl
   have td: ∀i,i<c.dz.length->∃o,s.h.get (rn.id i)=some o:=by intro i hi;obtain⟨o',g1,_⟩:=iM aeL (aM hi);rw [ay] at g1;exact⟨o',g1⟩
   have LA: ∀a b,a<c.dz.length->b<c.dz.length->rn.id a=rn.id b->a=b:=by
    intro a b ha hb he;have hla:a<rn.bl.length:=J
    have hlb:b<rn.bl.length:=J
    unfold Ren.id at he;rw [dg,dg,aM hla,aM hlb] at he;simp only at he;exact oR aeT (i:=a) (j:=b) (x:=rn.bl[a]) (by rw [dg,aM hla]) (by rw [dg,aM hlb,he])
   generalize hR:(⟨PX (.ap (2*j+1) (fU rn.ns)) ko,rn.bl,[]⟩ : Ren)=R;have I9: ∀i,R.id i=rn.id i:=by intro i; rw [<- hR]; rfl
   have hRl:R.ns.length=ko:=by rw [<- hR]; simp [PX]
   obtain⟨p1,p2,p3,p4⟩:=xH (r:=R) (os:=eh) (i:=0) (h:=s.h) fun a b _ Z _ h4 he=>by rw [I9,I9] at he;exact LA a b J J he
   have hfp: ∀b,(mc.mk w (E.gL rn).ro c.dz.length (E.gL rn).θ (E.gL rn).κ).fp b->∃id o,s.h.get id=some o/\(E.θ id).1=b:=by rintro b ⟨i,hi,he⟩;obtain⟨o,U⟩:=td i hi;exact⟨_,o,U,he⟩
   have X!: ∀b,E.ro b->w'.heap[b]?=w.heap[b]?:=by intro b I8;refine hb.kE b (r.qC b I8) fun hf=>?_;obtain⟨id,o,U,Z⟩:=hfp b hf;exact (r.live id o U).2.2 (by rw [Z]; exact I8)
   have tZ:fw E w.heap { E with ro:=mg } w'.heap:=⟨rfl,fun _ h=>h,fun _ _=>rfl,fun _ _=>rfl,k1,X!⟩
   have Og: ∀id o,(j5 R eh 0 s.h).get id=some o->∃o',s.h.get id=some o':=by
    intro id o hg;by_cases hex: ∃k,k<eh.length/\R.id (0+k)=id
    ·obtain⟨k,hk,rfl⟩:=hex;rw [ay,I9];exact td k J
    ·rw [p2 id fun k hk he=>hex ⟨k,hk,he⟩] at hg;exact⟨o,hg⟩
   have qZ:eS E s.h w { E with ro:=mg } (j5 R eh 0 s.h) w':=by
    refine⟨rfl,fun _ h=>h,fun _ _=>rfl,fun _ _=>rfl,k1,fun b I8=>(k2 b I8).imp id .inr,by rw [p3]; exact au _,by rw [p4]; exact .inr rfl,fun _ h=> .inl h,hb.os,hb.tape,hb.output,hb.size,fun b ni hn=>hb.kE b ni fun hf=>?_,fun id o hg _=>?_,rfl⟩
    ·obtain⟨id,o,U,Z⟩:=hfp b hf;exact hn id o U Z
    ·obtain⟨o',U⟩:=Og id o hg;exact⟨id,o',U,rfl⟩
   have RG: ∀i,i<ko->R.env E.ρ i=low ys i:=by
    intro i hi;unfold Ren.env low
    have hn:eX R.ns i=some (oy (.ap (2*j+1) (fU rn.ns)) i):=by rw [<- hR,dg];simp [PX,hi]
    rw [hn];simp only;rw [an4];simp only [oy,V.den,eZ.den,bB];have aiV:(V.ap (2*j+1) (fU rn.ns)).den E.ρ=me ys:=T3;simp only [V.den] at aiV;rw [aiV];simp only [me,bB,D.hd,bI,bp];cases ys[i]?<;>rfl
   have r2:bN { E with ro:=mg } (j5 R eh 0 s.h) w':=by
    refine⟨fun id hid=>r.fresh id (by rw [<- p3]; exact hid),fun q hq=>by rw [p3]; exact r.res q (by rw [<- p4]; exact hq),fun id o hg=>?_,fun i1 i2 o1 o2 U Z he=>?_,k3,bG.keep r.iX k1 X!,r.T5 qZ.hd qZ.size qZ.rF qZ.own⟩
    ·by_cases hex: ∃k,k<eh.length/\R.id (0+k)=id
     ·obtain⟨k,hk,rfl⟩:=hex;rw [ay];have hx:=aM hk;have:=p1 k _ hx;rw [hg] at this;simp only [ag] at this;subst this;obtain⟨o',U⟩:=td k J;obtain⟨d1,d2,d3⟩:=r.live _ _ U;refine⟨by rw [I9]; exact d1,?_,?_⟩
      ·have ho2:=k5 k _ hx
       have ho3:=OR.low (K:=ko) (E:=(mc.mk w (E.gL rn).ro c.dz.length (E.gL rn).θ (E.gL rn).κ).out ys mg) (E':={ ρ:=R.env E.ρ,θ:=(E.gL rn).θ,κ:=(E.gL rn).κ,dm:=fun i=>i<c.dz.length,ro:=mg })
        (fun i hi=>RG i hi) rfl rfl rfl rfl (mD mH hx).2 ho2
       refine OR.back (Eo:={ ρ:=R.env E.ρ,θ:=(E.gL rn).θ,κ:=(E.gL rn).κ,dm:=fun i=>i<c.dz.length,ro:=mg }) (E2:={ E with ro:=mg }) (r:=R) (by rw [hRl]; exact v!) (by rw [<- hR]) rfl (fun i hi=>?_) rfl (mD mH hx).1 (show k<c.dz.length by omega) ho3;obtain⟨o2,Z⟩:=td i hi;refine⟨by rw [I9]; exact (r.live _ _ Z).1,?_,?_⟩
       ·show E.θ (R.id i)=((E.θ (rn.id i)).1,(E.θ (rn.id i)).2+rn.uz i);rw [I9,T0,bh]
       ·show E.κ (R.id i)=E.κ (rn.id i)-rn.uz i;rw [I9,T0,aow]
      ·rw [I9];exact k4 k (by show k<c.dz.length; omega)
     ·rw [p2 id fun k hk he=>hex ⟨k,hk,he⟩] at hg;obtain⟨d1,d2,d3⟩:=r.live id o hg
      have LF:w'.heap[(E.θ id).1]?=w.heap[(E.θ id).1]?:=by refine hb.kE _ (fm r hg) ?_;rintro⟨i,hi,he⟩;obtain⟨o',U⟩:=td i hi;have:=r.inj _ id o' o U hg he;exact hex ⟨i,by show i<eh.length; rw [hom]; exact hi,by rw [ay,I9]; exact this⟩
      refine⟨d1,d2.keep tZ d1 LF (r.T8 rfl (fun x hx hn=>hb.kE x hx fun hf=>by obtain⟨id,o,U,Z⟩:=hfp x hf; exact hn id o U Z) _),fun hr=>?_⟩;rcases k2 _ hr with hr|hr
      ·exact d3 hr
      ·have fD:(E.θ id).1<w.heap.size:=fm r hg;have On:w.heap.size<=(E.θ id).1:=hr;omega
    ·obtain⟨a1,b1⟩:=Og _ _ U;obtain⟨a2,b2⟩:=Og _ _ Z;exact r.inj _ _ _ _ b1 b2 he
   refine⟨{ E with ro:=mg },qZ,r2,?_⟩;obtain⟨us,fl',sh',c1,rfl⟩:=k6
   have Rk:cw { E with ro:=mg } w'.heap (pF lh (oy (.ap (2*j+1) (fU rn.ns))) ko) us:=by refine rZ sh' c1 fun k n hk=>?_;rw [am4] at hk;exact vZ (ys:=ys) T3 hk
   have:=CF Rk;unfold AO at this;exact this
  ·simp [T.leaf] at q1
 ·simp [T.leaf] at Y
theorem BZ (s:St): ∀(gh:List (Nat×Nat)) (ns:List V),(Yt s gh ns).length=ns.length
 |[],_=>rfl
 |_::_,[]=>rfl
 |(t,c)::l,_::ns=>by simp only [Yt,aL,BZ s l ns]
theorem Yr {g n:V} {ρ:Nat->Int} {s:St} {k:St->T (W×St)} {r:W×St} (hp:bT ρ s.pc) (h:(Ys g n s k).leaf ρ=some r): ∃pc,bT ρ pc/\(k { s with pc:=pc }).leaf ρ=some r:=by
 unfold Ys at h;obtain⟨fI,fq,U⟩:=cE hp h;split at U
 ·grind
 ·obtain⟨jH,jz,Z⟩:=cE (s:={ s with pc:=fI }) fq U
  grind [T.leaf]
theorem ae6 {q:V} {ic:Nat} {ns:List V} {g:Option V} {c:CS} {bl:List Nat} {ρ:Nat->Int} {s:St} {k:St->T (W×St)} {r:W×St} (hp:bT ρ s.pc) (h:(ghT q ic ns g c bl s k).leaf ρ=some r): ∃pc,bT ρ pc/\(k { s with pc:=pc }).leaf ρ=some r:=by
 unfold ghT at h;split at h
 ·exact⟨s.pc,hp,h⟩
 ·split at h
  ·exact⟨s.pc,hp,h⟩
  ·split at h
   ·exact⟨s.pc,hp,h⟩
   ·split at h
    ·exact Yr hp h
    ·exact⟨s.pc,hp,h⟩
theorem SD {q:V} {ic:Nat} {ns:List V} {g:Option V} {bl:List Nat} {ρ:Nat->Int} {v:W} {s':St}: ∀{l:List CS} {k:Nat} {s:St},bT ρ s.pc->(h_ q ic ns g bl l k s).leaf ρ=some (v,s')->
 ∃i c ea,l[i-k]?=some c/\k<=i/\(oy q 0).den ρ=(i:Int)/\bT ρ ea/\v=AO ((rA q ic ns c bl s).Ct (c.bE.map fun p=>p.2))/\s'= { s with h:=⟨(j5 (rA q ic ns c bl s) c.dz 0 s.h).m,s.h.next+(c.dz.length-bl.length),s.h.res⟩,pc:=ea }
 |[],k,s,_,h=>by simp [h_,T.leaf] at h
 |c::l,k,s,hp,h=>by
  simp only [h_] at h;obtain⟨ea,fA,U⟩:=cE hp h;split at U
  ·rename_i hb;rw [gG,beq_iff_eq] at hb;obtain⟨jH,jz,Z⟩:=ae6 (s:={ s with pc:=ea }) fA U;have:=bC Z;simp only [ak] at this;exact⟨k,c,jH,ad,au _,hb,jz,this.1.symm,this.2.symm⟩
  ·obtain⟨i,c',jH,q1,q2,q3,q4,q5,q6⟩:=SD (s:={ s with pc:=ea }) fA U;refine⟨i,c',jH,?_,J,q3,q4,q5,q6⟩
   grind
def xT:List (Nat×W)->Nat->Bool
 |[],_=>true
 |(t,_)::l,i=>Nat.beq t i&&xT l (i+1)
theorem BA: ∀{l:List (Nat×W)} {i t:Nat} {tr:Tr W},xT l i=true->t<i->(nv l tr).get t=tr.get t
 |[],_,_,_,_,_=>rfl
 |(j,v)::l,i,t,tr,h,ht=>by simp only [xT,an] at h;have hj:=aq h.1;simp only [nv];rw [BA h.2 J,Tr.bP,af J]
theorem yF: ∀{l:List (Nat×W)} {i:Nat} {tr:Tr W},xT l i=true->∀k v,(l.map fun p=>p.2)[k]?=some v->(nv l tr).get (i+k)=some v
 |[],_,_,_,k,v,hk=>by simp at hk
 |(j,x)::l,i,tr,h,k,v,hk=>by
  simp only [xT,an] at h;have hj:=aq h.1;subst hj;simp only [nv]
  cases k with
  |zero=>
   grind [BA,Tr.bP]
  |succ k=>
   have:=yF (tr:=tr.put j (some x)) h.2 k v (by simpa using hk)
   grind
theorem cw.of {E:En} {h:Array Obj}: ∀{vs:List W} {us:List Value},us.length=vs.length->(∀(k:Nat) (v:W),vs[k]?=some v->∃u,us[k]?=some u/\VR E h v u)->cw E h vs us
 |[],us,Y,_=>by rw [fP]; exact amJ Y
 |v::vs,[],Y,_=>by simp at Y
 |v::vs,u::us,Y,hh=>by
  rw [bO];refine⟨u,us,rfl,?_,cw.of (by simpa using Y) fun k x hk=>?_⟩
  ·obtain⟨y,U,Z⟩:=hh 0 v rfl
   grind
  ·exact hh (k+1) x (by simpa using hk)
def ac4 (P:Program) (GB:(Nat->Prop)->Array Obj->Prop) (g:FuncId) (c:CS) (oz:List CS) (f:List Int->Option (List Int)):Prop:=
 ∀xs ys,f xs=some ys->∀(E:En) (w:World) (vals:List Value),(∀i x,xs[i]?=some x->E.ρ i=x)->xs.length=c.k->vR E c.st { tmps:=vals.toArray,defers:=[] } w->GB E.ro w.heap->
  Calls P g vals.toArray w (QR ⟨w,E.ro,c.dz.length,E.θ,E.κ⟩ oz ys)
def Gm:List CS->Bool
 |[]=>true
 |c::l=>vI c.k c&&xT c.bE 0&&Nat.ble c.k 900&&(nfs c.dz&&Gm l)
theorem Gk: ∀{l:List CS},Gm l=true->∀{i:Nat} {c:CS},l[i]?=some c->vI c.k c=true/\xT c.bE 0=true/\c.k<=900/\nfs c.dz=true
 |[],_,i,c,h=>by simp at h
 |c0::l,hs,i,c,h=>by
  simp only [Gm,an] at hs
  cases i with
  |zero=>simp at h; subst h; exact⟨hs.1.1.1,hs.1.1.2,amU hs.1.2,hs.2.1⟩
  |succ i=>exact Gk hs.2.2 (by simpa using h)
theorem Lu [bG] {GB:(Nat->Prop)->Array Obj->Prop} (LC: ∀ρ ro h,bG.ok ρ ro h->GB ro h) {F:n7} (LB: ∀ρ ro h,bG.ok ρ ro h->Good F ρ) {g:FuncId} {j:Nat} {c:CS} {gh:List (Nat×Nat)} {ic:Nat} {oz:List CS} (hrp:Gm oz=true) (alx: ∀xs ys,F j xs=some ys->∀a y,a<ic->ys[a+1]?=some y->y=low xs a)
 (hs:ac4 P GB g c oz (F j)) (jx: ∀(args:Array Value) (w:World),(callFunc g args).run P w= .ok (.enter g args) w):ik P g (Rp j ic c gh oz):=by
 intro amB s E w vals v s' r hv hp Y;unfold Rp at Y;split at Y
 ·rename_i je;simp only [an] at je;obtain⟨⟨_,Oo⟩,uG⟩:=je;have hlen:=xn c ⟨cq amB 0 .nil,s.h,s.pc⟩
  have G7:(v? s gh (c.kV ⟨cq amB 0 .nil,s.h,s.pc⟩)).ns.length=c.k:=by show (Yt s gh _).length=c.k;rw [BZ,hlen]
  generalize hr:v? s gh (c.kV ⟨cq amB 0 .nil,s.h,s.pc⟩)=rn at Y Oo G7 uG
  have f0:Fit E ⟨cq amB 0 .nil,s.h,s.pc⟩ { tmps:=vals.toArray,defers:=[] } w:=by refine⟨r,?_,hp⟩;have:=zn hv 0;simpa using this
  obtain⟨hle,f1,ho⟩:=zJ NP f0 Oo;obtain⟨fI,fq,q1⟩:=cE hp Y;split at q1
  ·rename_i ht;have hg:=LB _ _ _ r.iX;have hg1:=(hg j (rn.ns.map (V.den E.ρ))).1;have hg2:=(hg j (rn.ns.map (V.den E.ρ))).2;simp only [SB.den,V.den,jc,hg1,beq_iff_eq] at ht
   have BU:(F j (rn.ns.map (V.den E.ρ))).isSome=true:=by
    cases hh:(F j (rn.ns.map (V.den E.ρ))).isSome with
    |true=>rfl
    |false=>rw [hh] at ht; simp at ht
   obtain⟨ys,G4⟩:=am9.1 BU
   have T3:(V.ap (2*j+1) (fU rn.ns)).den E.ρ=me ys:=by show E.ρ _=_;rw [jc,hg2,G4];rfl
   obtain⟨i,c',jH,a1,_,a3,a4,rfl,rfl⟩:=SD (s:={ s with pc:=fI }) fq q1;rw [aow] at a1;refine⟨rfl,a4,?_⟩;unfold jE lI;rw [jx]
   have mM: ∀i x,(rn.ns.map (V.den E.ρ))[i]?=some x->(E.gL rn).ρ i=x:=by intro i x hi;rw [bp,aO] at hi;obtain⟨e,he,rfl⟩:=hi;show rn.env E.ρ i=_;unfold Ren.env;rw [dg,he]
   refine Calls.mono (hs _ ys G4 (E.gL rn) w vals mM (by simpa using G7) f1.x (LC _ _ _ f1.rel.iX)) fun e w' ⟨us,i2,c2,E',he,hb,b1,b2,b3,b4,b5,b6,b7,b8,aaN,b9⟩=> ⟨Tq us,he,?_⟩
   have hi:i2=i:=by have:=vZ T3 b2;rw [a3] at this;omega
   subst hi;rw [b1] at a1;simp only [ag] at a1;subst a1;obtain⟨k1,k2,k3,k9⟩:=Gk hrp b1;have s7:=Oo;unfold CS.fits at s7;simp only [an] at s7;obtain⟨⟨⟨⟨⟨_,ni⟩,aeT⟩,_⟩,aeL⟩,_⟩:=s7;have ni:=aq ni
   have T0: ∀i,rn.uz i=0:=by
    intro i;unfold Ren.uz;split
    ·rename_i x hx;rw [dg] at hx;unfold GJ at uG;rw [aX] at uG;exact aq (uG x (amE hx))
    ·rfl
   have td: ∀i,i<c.dz.length->∃o,s.h.get (rn.id i)=some o:=by intro i hi;obtain⟨o',g1,_⟩:=iM aeL (aM hi);rw [ay] at g1;exact⟨o',g1⟩
   have LA: ∀a b,a<c.dz.length->b<c.dz.length->rn.id a=rn.id b->a=b:=by
    intro a b ha hb he;have hla:a<rn.bl.length:=J
    have hlb:b<rn.bl.length:=J
    unfold Ren.id at he;rw [dg,dg,aM hla,aM hlb] at he;simp only at he;exact oR aeT (i:=a) (j:=b) (x:=rn.bl[a]) (by rw [dg,aM hla]) (by rw [dg,aM hlb,he])
   have Ej: ∀id,E.dm id->id<s.h.next:=by
    intro id hd;rcases aT id s.h.next with h|h
    ·exact h
    ·exact absurd hd (r.fresh id h)
   have G8: ∀i,i<c.dz.length->rn.id i<s.h.next:=by intro i hi;obtain⟨o,U⟩:=td i hi;exact Ej _ (r.live _ _ U).1
   have hθr: ∀i,(E.gL rn).θ i=E.θ (rn.id i):=by intro i;show ((E.θ (rn.id i)).1,(E.θ (rn.id i)).2+rn.uz i)=_;rw [T0,bh]
   have hκr: ∀i,(E.gL rn).κ i=E.κ (rn.id i):=by intro i;show E.κ (rn.id i)-rn.uz i=_;rw [T0,aow]
   have hm2:c.dz.length<=c2.dz.length:=by
    rcases ani c.dz.length with h|h
    ·omega
    ·have:=(aaN (c.dz.length-1) (by show c.dz.length-1<c.dz.length; omega)).1;omega
   have hfp: ∀b,(mc.mk w (E.gL rn).ro c.dz.length (E.gL rn).θ (E.gL rn).κ).fp b->∃id o,s.h.get id=some o/\(E.θ id).1=b:=by rintro b ⟨i,hi,he⟩;obtain⟨o,U⟩:=td i hi;refine⟨_,o,U,?_⟩;have yr:((E.gL rn).θ i).1=b:=he;rw [hθr] at yr;exact yr
   have X!: ∀b,E.ro b->w'.heap[b]?=w.heap[b]?:=by intro b I8;refine hb.kE b (r.qC b I8) fun hf=>?_;obtain⟨id,o,U,Z⟩:=hfp b hf;exact (r.live id o U).2.2 (by rw [Z]; exact I8)
   generalize hR:rA (.ap (2*j+1) (fU rn.ns)) ic rn.ns c2 rn.bl { s with pc:=fI }=R
   have FR: ∀i,i<c.dz.length->R.id i=rn.id i:=by
    intro i hi;have hla:i<rn.bl.length:=J
    rw [<- hR];unfold rA Ren.id;simp only [dg,bp,anQ (show i<c2.dz.length by omega),bq,aM hla]
   have Ou: ∀i,i<c2.dz.length->c.dz.length<=i->R.id i=s.h.next+(i-c.dz.length):=by
    intro i hi On;have hla:rn.bl.length<=i:=J
    rw [<- hR];unfold rA Ren.id;simp only [dg,bp,anQ hi,bq,anM hla];rw [ni]
   have ajj: ∀a b,a<c2.dz.length->b<c2.dz.length->R.id a=R.id b->a=b:=by
    intro a b ha hb he;rcases aT a c.dz.length with U|U<;>rcases aT b c.dz.length with Z|Z
    ·rw [FR a U,FR b Z] at he;exact LA a b U Z he
    ·rw [FR a U,Ou b hb Z] at he;have:=G8 a U;omega
    ·rw [Ou a ha U,FR b Z] at he;have:=G8 b Z;omega
    ·rw [Ou a ha U,Ou b hb Z] at he;omega
   have hRl:R.ns.length=c2.k:=by rw [<- hR]; simp [rA]
   have aji:R.sh= []:=by rw [<- hR]; rfl
   have RG: ∀a,a<c2.k->R.env E.ρ a=E'.ρ a:=by
    intro a ha;unfold Ren.env
    have hn:eX R.ns a=some (match Nat.blt a ic with |true=>(match eX rn.ns a with |some e=>e|none=> .lit 0)|false=>oy (.ap (2*j+1) (fU rn.ns)) (a+1)):=by rw [<- hR,dg];simp [rA,ha]
    rw [hn];simp only;have hy:ys[a+1]?=some ys[a+1]:=aM J;rw [b4 a _ hy];split
    ·rename_i hb;have fD:a<ic:=Nat.lt_of_succ_le (by simpa [Nat.blt] using hb);rw [alx _ _ G4 a _ fD hy];unfold low;rw [an4,bp,dg];cases rn.ns[a]?<;>rfl
    ·exact vZ T3 hy
   have alw: ∀id o,c2.st.h.get id=some o->id<c2.dz.length/\c2.dz[id]?=some o:=by
    intro id o ho;have:(oa c2.dz 0 .nil).get id=some o:=ho;rw [jg] at this;split at this
    ·exact⟨J,this⟩
    ·simp [Tr.get] at this
   have Eh: ∀id o,c2.dz[id]?=some o->c2.st.h.get id=some o:=by intro id o ho;show (oa c2.dz 0 .nil).get id=_;have fD:=(aW.1 ho).1;rw [jg,ah J];exact ho
   have ai7: ∀i,E'.dm i->i<c2.dz.length:=by
    intro i hd;rcases aT i c2.dz.length with h|h
    ·exact h
    ·exact absurd hd (b6.fresh i h)
   obtain⟨p1,p2,p3,p4⟩:=xH (r:=R) (os:=c2.dz) (i:=0) (h:=s.h) fun a b _ Z _ h4 he=>ajj a b J J he;generalize hH2:(⟨(j5 R c2.dz 0 s.h).m,s.h.next+(c2.dz.length-rn.bl.length),s.h.res⟩ : Hp)=H2;have ajl: ∀id,H2.get id=(j5 R c2.dz 0 s.h).get id:=by intro id; rw [<- hH2]; rfl
   have aaa:H2.next=s.h.next+(c2.dz.length-c.dz.length):=by rw [<- hH2,ni]
   have ajk:H2.res=s.h.res:=by rw [<- hH2]
   have aeN: ∀k o,c2.dz[k]?=some o->H2.get (R.id k)=some (R.ob o):=by intro k o hk;have:=p1 k o hk;rw [ay] at this;rw [ajl]; exact this
   have hold: ∀id,(∀k,k<c2.dz.length->R.id k≠id)->H2.get id=s.h.get id:=by intro id hid;rw [ajl];exact p2 id fun k hk he=>by rw [ay] at he; exact hid k hk he
   have nO: ∀id o,H2.get id=some o->(∃k o',id=R.id k/\c2.dz[k]?=some o'/\o=R.ob o')\/(s.h.get id=some o/\∀k,k<c2.dz.length->R.id k≠id):=by
    intro id o hg;by_cases hex: ∃k,k<c2.dz.length/\R.id k=id
    ·obtain⟨k,hk,rfl⟩:=hex;have hx:=aM hk;have:=aeN k _ hx;rw [hg] at this;simp only [ag] at this;exact .inl ⟨k,_,rfl,hx,this⟩
    ·have gn: ∀k,k<c2.dz.length->R.id k≠id:=fun k hk he=>hex ⟨k,hk,he⟩;rw [hold id gn] at hg;exact .inr ⟨hg,gn⟩
   let E2:En:={ ρ:=E.ρ,θ:=fun id=>if id<s.h.next then E.θ id else E'.θ (id-s.h.next+c.dz.length),κ:=fun id=>if id<s.h.next then E.κ id else E'.κ (id-s.h.next+c.dz.length),dm:=fun id=>E.dm id\/(s.h.next<=id/\id<s.h.next+(c2.dz.length-c.dz.length)),ro:=E'.ro,hd:=E.hd };have hθo: ∀id,id<s.h.next->E2.θ id=E.θ id:=fun id h=>by show (if id<s.h.next then _ else _)=_; rw [ah h]
   have hκo: ∀id,id<s.h.next->E2.κ id=E.κ id:=fun id h=>by show (if id<s.h.next then _ else _)=_; rw [ah h]
   have hθn: ∀k,k<c2.dz.length->E2.θ (R.id k)=E'.θ k:=by
    intro k hk;rcases aT k c.dz.length with h|h
    ·rw [FR k h,hθo _ (G8 k h),<- hθr,(aaN k h).2.2.1]
    ·rw [Ou k hk h];show (if s.h.next+(k-c.dz.length)<s.h.next then _ else _)=_;rw [af J,anP,Nat.sub_add_cancel h]
   have hκn: ∀k,k<c2.dz.length->E2.κ (R.id k)=E'.κ k:=by
    intro k hk;rcases aT k c.dz.length with h|h
    ·rw [FR k h,hκo _ (G8 k h),<- hκr,(aaN k h).2.2.2]
    ·rw [Ou k hk h];show (if s.h.next+(k-c.dz.length)<s.h.next then _ else _)=_;rw [af J,anP,Nat.sub_add_cancel h]
   have ai9: ∀k,k<c2.dz.length->E2.dm (R.id k):=by
    intro k hk;rcases aT k c.dz.length with h|h
    ·obtain⟨o,U⟩:=td k h;rw [FR k h];exact .inl (r.live _ _ U).1
    ·rw [Ou k hk h];exact .inr ⟨J,J⟩
   have tZ:fw E w.heap E2 w'.heap:=⟨rfl,fun _ h=> .inl h,fun id h=>hθo id (Ej id h),fun id h=>hκo id (Ej id h),b7,X!⟩
   have X9: ∀i,E'.dm i->E2.dm (R.id i)/\E2.θ (R.id i)=E'.θ i/\E2.κ (R.id i)=E'.κ i:=by intro i hd;have hi:=ai7 i hd;exact⟨ai9 i hi,hθn i hi,hκn i hi⟩
   unfold vI at k1;simp only [an] at k1;obtain⟨⟨ks,ko⟩,_⟩:=k1
   have qZ:eS E s.h w E2 H2 w':=by
    refine⟨rfl,fun _ h=> .inl h,fun id h=>hθo id (Ej id h),fun id h=>hκo id (Ej id h),b7,fun b I8=>(b8 b I8).imp id .inr,by rw [aaa]; omega,by rw [ajk]; exact .inr rfl,fun id h=>?_,hb.os,hb.tape,hb.output,hb.size,fun b aeV hn=>hb.kE b aeV fun hf=>?_,fun id o hg fD=>?_,rfl⟩
    ·rcases h with h|h
     ·exact .inl h
     ·exact .inr (.inl ⟨h.1,by rw [aaa]; exact h.2⟩)
    ·obtain⟨id,o,U,Z⟩:=hfp b hf;exact hn id o U Z
    ·rcases nO id o hg with ⟨k,o',rfl,hk,_⟩|⟨U,_⟩
     ·have I5:=(aW.1 hk).1;rcases aT k c.dz.length with h|h
      ·obtain⟨o2,Z⟩:=td k h;exact⟨_,o2,Z,by rw [FR k h,hθo _ (G8 k h)]⟩
      ·rw [hθn k I5] at fD;have hh:w.heap.size<=(E'.θ k).1:=b9 k o' (Eh k o' hk) h;omega
     ·exact⟨id,o,U,(by rw [hθo id (Ej id (r.live _ _ U).1)])⟩
   have r2:bN E2 H2 w':=by
    refine⟨fun id hid=>?_,fun q hq=>?_,fun id o hg=>?_,fun i1 i2 o1 o2 U Z he=>?_,b6.qC,bG.keep r.iX b7 tZ.BE,r.T5 qZ.hd qZ.size qZ.rF qZ.own⟩
    ·rw [aaa] at hid;rintro (h|h)
     ·exact r.fresh id J h
     ·omega
    ·rw [ajk] at hq;obtain⟨g1,g2⟩:=r.res q hq;refine⟨by rw [aaa]; omega,?_⟩;rintro (h|h)
     ·exact g2 h
     ·omega
    ·rcases nO id o hg with ⟨k,o',rfl,hk,rfl⟩|⟨Z,gn⟩
     ·have I5:=(aW.1 hk).1;obtain⟨g1,g2,g3⟩:=b6.live k o' (Eh k o' hk);refine⟨ai9 k I5,?_,by rw [hθn k I5]; exact g3⟩;have ho3:=OR.low (K:=c2.k) (E:=E') (E':={ E' with ρ:=R.env E.ρ }) (fun a ha=>RG a ha) rfl rfl rfl rfl (uZ ko hk) g2;exact OR.back (Eo:={ E' with ρ:=R.env E.ρ }) (E2:=E2) (r:=R) (by rw [hRl]; exact k3) aji rfl (fun i hd=>X9 i hd) rfl (id:=k) (IG k9 hk) g1 ho3
     ·obtain⟨g1,g2,g3⟩:=r.live id o Z;have U:=Ej id g1;refine⟨.inl g1,g2.keep tZ g1 (hb.kE _ (fm r Z) ?_) (r.T8 rfl (fun x hx hn=>hb.kE x hx fun hf=>by obtain⟨id,o,U,Z⟩:=hfp x hf; exact hn id o U Z) _),?_⟩
      ·rintro⟨i,hi,he⟩;obtain⟨o',h3⟩:=td i hi;have yr:((E.gL rn).θ i).1=(E.θ id).1:=he;rw [hθr] at yr;have:=r.inj _ id o' o h3 Z yr;have hi':i<c.dz.length:=hi;exact gn i J (by rw [FR i hi']; exact this)
      ·rw [hθo id U];intro hr;rcases b8 _ hr with hr|hr
       ·exact g3 hr
       ·have fD:(E.θ id).1<w.heap.size:=fm r Z;have On:w.heap.size<=(E.θ id).1:=hr;omega
    ·have mix: ∀(k:Nat) (o':dP) (id:Nat) (o:dP),c2.dz[k]?=some o'->s.h.get id=some o->(∀k,k<c2.dz.length->R.id k≠id)->(E'.θ k).1=(E.θ id).1->False:=by
      intro k o' id o hk Z gn he;have I5:=(aW.1 hk).1;rcases aT k c.dz.length with h|h
      ·obtain⟨o3,h3⟩:=td k h;have hb3:E'.θ k=(E.gL rn).θ k:=(aaN k h).2.2.1;rw [hb3,hθr] at he;have:=r.inj _ id o3 o h3 Z he;exact gn k I5 (by rw [FR k h]; exact this)
      ·have h3:=fm r Z;have h4:w.heap.size<=(E'.θ k).1:=b9 k o' (Eh k o' hk) h;omega
     rcases nO i1 o1 U with ⟨m1,y1,rfl,z1,_⟩|⟨x2,x3⟩
     ·have hm1:=(aW.1 z1).1;rcases nO i2 o2 Z with ⟨m2,y2,rfl,z2,_⟩|⟨x4,x5⟩
      ·have hm2:=(aW.1 z2).1;rw [hθn m1 hm1,hθn m2 hm2] at he;have:=b6.inj _ _ _ _ (Eh m1 y1 z1) (Eh m2 y2 z2) he;rw [this]
      ·rw [hθn m1 hm1,hθo _ (Ej _ (r.live _ _ x4).1)] at he;exact (mix m1 y1 i2 o2 z1 x4 x5 he).elim
     ·rcases nO i2 o2 Z with ⟨m2,y2,rfl,z2,_⟩|⟨x4,x5⟩
      ·have hm2:=(aW.1 z2).1;rw [hθn m2 hm2,hθo _ (Ej _ (r.live _ _ x2).1)] at he;exact (mix m2 y2 i1 o1 z2 x2 x3 he.symm).elim
      ·rw [hθo _ (Ej _ (r.live _ _ x2).1),hθo _ (Ej _ (r.live _ _ x4).1)] at he;exact r.inj _ _ _ _ x2 x4 he
   refine⟨E2,qZ,r2,?_⟩
   have G5:cw E' w'.heap (c2.bE.map fun p=>p.2) us:=by refine cw.of (by rw [b5]; simp) fun k x hk=>?_;have:=yF (tr:=.nil) k2 k x hk;rw [ay] at this;obtain⟨u,U,Z⟩:=b6.sr k x this;exact⟨u,by simpa using U,Z⟩
   have ai4:lT c2.k (c2.bE.map fun p=>p.2)=true:=by
    have: ∀{l:List (Nat×W)},rP c2.k l=true->lT c2.k (l.map fun p=>p.2)=true:=by
     intro l
     induction l with
     |nil=>intro _; rfl
     |cons p l ih=> intro h;simp only [rP,an] at h;simp only [ax,lT,an];exact⟨h.1,ih h.2⟩
    exact this ks
   have ak8:=cw.low (K:=c2.k) (E:=E') (E':={ E' with ρ:=R.env E.ρ }) (fun a ha=>RG a ha) rfl rfl rfl rfl _ _ ai4 G5;have ak7:=cw.back (Eo:={ E' with ρ:=R.env E.ρ }) (E2:=E2) (r:=R) (by rw [hRl]; exact k3) aji rfl (fun i hd=>X9 i hd) rfl _ _ ak8;exact CF ak7
  ·simp [T.leaf] at q1
 ·simp [T.leaf] at Y
end
end Go.As
end
section
namespace Go.As
open Go.RowKit
structure MJ where
 ok:(Nat->Prop)->Array Obj->Prop
 keep: ∀{ro mg:Nat->Prop} {h h':Array Obj},ok ro h->(∀b,ro b->mg b)->(∀b,ro b->h'[b]?=h[b]?)->ok mg h'
@[reducible] def MJ.iX (G:MJ) (F:n7):bG where
 ok ρ ro h:=G.ok ro h/\Good F ρ
 keep U Z h3:=⟨G.keep U.1 Z h3,U.2⟩
 gL U Z:=⟨U.1,U.2.gL Z⟩
structure Aw where
 g:Nat
 Fs:List RK
 lh:List RK
 fe:Cw
 pos:Option (List Nat×CS)
 pat:Option (CS×List dP×Nat):=none
 oz:List CS:=[]
 gh:List (Nat×Nat):=[]
 wh:List Nat:=[]
 ic:Nat:=0
 tst:List (Nat×Nat):=[]
 fz:List (Nat×Nat×Nat):=[]
 U1:List FH:=[]
def Aw.eh (e:Aw):List dP:=match e.pat with
 |none=>[]
 |some (_,o,_)=>o
def Aw.ko (e:Aw):Nat:=match e.pat with
 |none=>0
 |some (_,_,k)=>k
structure Sys where
 P:Program
 G:MJ
 tt:TT
 ft:Nat->Option Func
 qW:Nat->Nat->List Oper->Bool
 draw:ek->Nat->Nat->List Oper->St->T St
 xl:Nat->Option (List W->St->T (W×St))
 lf:Nat
 depth:Nat
 Cm:Nat->List Nat
 bJ:Nat->Option Aw
noncomputable section
def Q_ (c:CS) (args:List W) (s:St):Bool:=match quick (cq args 0 .nil) c.bE with
 |false=>false
 |true=>Nat.beq args.length c.bE.length&&c.fits t! ⟨cq args 0 .nil,s.h,s.pc⟩ (c.kV ⟨cq args 0 .nil,s.h,s.pc⟩)&&GJ (c.kV ⟨cq args 0 .nil,s.h,s.pc⟩)
def PE (s:St):List Nat->Bool
 |[]=>true
 |t::l=>match Nat.ble 1000 t with
  |true=>match s.bE.get (t-1000) with
   |some _=>PE s l
   |none=>false
  |false=>match s.bE.get t with
   |some _=>false
   |none=>PE s l
def ajn (s:St):List (Nat×Nat)->Bool
 |[]=>true
 |(t,_)::l=>match s.bE.get t with
  |some _=>ajn s l
  |none=>false
def KV (c:CS) (gh:List (Nat×Nat)) (wh:List Nat) (args:List W) (s:St):Bool:=match quick (cq args 0 .nil) c.bE with
 |false=>false
 |true=>PE s wh&&ajn s gh&&Nat.beq args.length c.bE.length&&c.fits t! ⟨cq args 0 .nil,s.h,s.pc⟩ (v? s gh (c.kV ⟨cq args 0 .nil,s.h,s.pc⟩))&&GJ (v? s gh (c.kV ⟨cq args 0 .nil,s.h,s.pc⟩))
def Jb:Nat->List W->Nat->List (Nat×Nat×Nat)
 |_,[],_=>[]
 |i,v::l,f=>match v with
  | .eg _ t=>(i,f,t)::Jb i l (f+1)
  |_=>Jb i l (f+1)
def CY:List (Nat×W)->List (Nat×Nat×Nat)
 |[]=>[]
 |(i,v)::l=>match v with
  | .agg cs=>Jb i cs 0++CY l
  |_=>CY l
def akp (args:List W) (p:Nat×Nat×Nat):Bool:=match eX args p.1 with
 |some v=>match v with
  | .agg xs=>match eX xs p.2.1 with
    |some _=>true
    |none=>false
  |_=>false
 |none=>false
def Ox (s:St):List (Nat×Nat)->Bool
 |[]=>true
 |(t,c)::l=>match s.bE.get t with
  |some v=>match v with
   | .int _ _=>Ox s l
   | .agg cs=>match eX cs c with
     |some x=>match x with
      | .int _ _=>Ox s l
      |_=>false
     |none=>false
   |_=>false
  |none=>false
def ajt (c:CS) (gh:List (Nat×Nat)) (wh:List Nat) (args:List W) (s:St):Bool:=match gh with
 |[]=>false
 |_=>PE s wh&&Ox s gh&&match CY c.bE with
  |[]=>false
  |fz=>fz.all (akp args)
def Sys.BV (S:Sys):List Nat->List W->St->T (W×St)
 |[],_,_=> .fail
 |j::l,args,s=>match S.bJ j with
  |none=> .fail
  |some e=>match e.pat with
   |none=>X7 j e.Fs e.lh args s
   |some (c,eh,ko)=>match e.oz with
    |[]=>match Q_ c args s with
     |true=>X5 j c e.lh eh ko args s
     |false=>S.BV l args s
    |r::rs=>match KV c e.gh e.wh args s with
     |true=>Rp j e.ic c e.gh (r::rs) args s
     |false=>match ajt c e.gh e.wh args s with
      |true=>LP (CY c.bE) args s fun ac1 s'=>match KV c e.gh e.wh ac1 s' with
       |true=>Rp j e.ic c e.gh (r::rs) ac1 s'
       |false=>S.BV l args s
      |false=>S.BV l args s
def Sys.hook (S:Sys) (g:Nat):Option (List W->St->T (W×St)):=match S.Cm g with
 |[]=>S.xl g
 |j::l=>some (match S.xl g with
  |none=>S.BV (j::l)
  |some h=>orElse h (S.BV (j::l)))
def Sys.call (S:Sys):ek:=FV S.tt S.ft S.hook S.draw S.lf S.depth
def Sys.cfg (S:Sys) (e:Aw) (fn:Func):tR:=⟨S.tt,S.call,S.draw S.call e.g,S.lf,fn.results.toList,e.lh,e.eh,e.ko,e.oz,e.ic,e.fz,e.U1⟩
def nA (S:Sys) (e:Aw):T Lf:=match S.ft e.g with
 |none=> .fail
 |some fn=>match fn.body with
  |none=> .fail
  |some body=>match e.pos with
   |none=>match e.pat with
    |none=>wZ (S.cfg e fn) e.fe 1000 [] body [] ⟨cq (pF e.Fs .dH 0) 0 .nil,Hp.zero,[]⟩
    |some (c,_,_)=>wZ (S.cfg e fn) e.fe 1000 [] body [] c.st
   |some (p,c)=>match oN body p with
    |some (b,fr)=>match b with
     | .loop b=>Nd (fun s=>wZ (S.cfg e fn) e.fe 1000 (0::p) b (.loop p b::fr) s) e.tst c.st
     |_=> .fail
    |none=> .fail
def Sys.tree (S:Sys) (j:Nat):T Lf:=match S.bJ j with
 |none=> .fail
 |some e=>nA S e
end
def G_ (S:Sys) (e:Aw) (body:Code):Prop:= ∀p l,e.fe p=some l->(∃b fr,oN body p=some (.loop b,fr))/\∀j c,(j,c)∈l->S.bJ j=some { e with pos:=some (p,c) }/\vI c.k c=true/\c.k<=900/\e.ic<=c.k
structure Fu (S:Sys):Prop where
 tt:eB S.P S.tt
 ft:UK S.P S.qW S.ft
 draw: ∀(I:bG) call,@im I S.P call->∀g,@vS I S.P (S.qW g) (S.draw call g)
 xl: ∀(I:bG),(∀ρ ro h,I.ok ρ ro h->S.G.ok ro h)->∀g h,S.xl g=some h->@ik I S.P g h
 run: ∀g j,j∈S.Cm g->∀(args:Array Value) (w:World),(callFunc g args).run S.P w= .ok (.enter g args) w
 num: ∀g j e,j∈S.Cm g->S.bJ j=some e->e.g=g/\e.pos=none/\(match e.pat with
  |none=>(oH e.Fs).length<=900/\e.oz= []
  |some (c,eh,_)=>vI c.k c=true/\c.k<=900/\eh.length=c.dz.length/\(e.oz≠[]->Gm e.oz=true)/\nfs c.dz=true)
 outs: ∀j e,S.bJ j=some e->mE e.ko e.eh=true/\e.ko<=900/\e.ic<=900
 bJ: ∀j e,S.bJ j=some e->∀fn body,S.ft e.g=some fn->fn.body=some body->G_ S e body
section
variable {S:Sys}
def ac6 (S:Sys) (n:Nat):Prop:= ∀g j e,j∈S.Cm g->S.bJ j=some e->match e.pat with
 |none=>i? S.P S.G.ok g e.Fs e.lh (eO S.tree n j)
 |some (c,eh,ko)=>match e.oz with
  |[]=>ac5 S.P S.G.ok g c e.lh eh ko (eO S.tree n j)
  |r::rs=>ac4 S.P S.G.ok g c (r::rs) (eO S.tree n j)
def ac8 (S:Sys) (n:Nat):Prop:= ∀j e p c,S.bJ j=some e->e.pos=some (p,c)->vI c.k c=true->c.k<=900->∀fn body b fr,S.ft e.g=some fn->fn.body=some body->oN body p=some (.loop b,fr)->
 ∀(B:mc) (E:En) (a:Act) (w:World) (xs ys:List Int),e.eh.length=B.m->eO S.tree n j xs=some ys->(∀i x,xs[i]?=some x->E.ρ i=x)->xs.length=c.k->kB B E c.st a w->S.G.ok E.ro w.heap->fn.ntmps<=a.tmps.size->a.defers= []->
  Fy S.P b (KE S.P (bodyPost S.P fn (QX B e.lh e.eh e.ko e.oz ys)) fr) a w
def LfG (ic:Nat) (fe:Cw):Lf->Prop
 | .out es=> ∀a e,a<ic->es[a+1]?=some e->e= .dH a
 | .jump j es=>(∃p l c,fe p=some l/\(j,c)∈l/\es.length=c.k)/\∀a e,a<ic->es[a]?=some e->e= .dH a
theorem Hk: ∀{n i:Nat} {ns:List V} {a:Nat} {e:V},a<n->(B1 n i ns)[a]?=some e->e= .dH (i+a)
 |0,_,_,a,_,h,_=>by omega
 |n+1,i,[],a,e,_,h=>by simp [B1] at h
 |n+1,i,x::ns,0,e,_,h=>by simp [B1] at h; rw [<- h]; rfl
 |n+1,i,x::ns,a+1,e,ha,h=>by
  simp only [B1,aH] at h;rw [Hk (n:=n) J h]
  grind
theorem LV {ic:Nat} {r:Ren} {a:Nat} {e:V} (ha:a<ic) (h:(ry ic r).ns[a]?=some e):e= .dH a:=by
 unfold ry at h;split at h
 ·omega
 ·have:=Hk ha h
  grind
theorem YI {n m ic:Nat} {s:St} {ρ:Nat->Int} {lf:Lf} {fe:Cw} {l:List CS} {k:Nat} (h:(Mb n m ic s l k).leaf ρ=some lf):LfG ic fe lf:=by
 obtain⟨i,c,_,_,_,rfl,_⟩:=C7 h;intro a e ha he
 grind [LV]
theorem sX {m ic:Nat} {s:St} {ρ:Nat->Int} {lf:Lf} {fe:Cw} {p:List Nat} {l0:List (Nat×CS)} (hp:fe p=some l0): ∀{l:List (Nat×CS)},(∀x∈l,x∈l0)->(rk m ic s l).leaf ρ=some lf->LfG ic fe lf
 |[],_,h=>by simp [rk,T.leaf] at h
 |(j,c)::l,nM,h=>by
  simp only [rk] at h;split at h
  ·exact sX hp (fun x hx=>nM x (by simp [hx])) h
  ·split at h
   ·have:=bC h;subst this;exact⟨⟨p,l0,c,hp,nM _ ad,by rw [vw,tj]⟩,fun a e ha he=>LV ha he⟩
   ·exact sX hp (fun x hx=>nM x (by simp [hx])) h
theorem qX {α:Type} {k:St->T α} {ρ:Nat->Int} {x:α}: ∀{ts:List Nat} {s:St},(vL k ts s).leaf ρ=some x->∃s',(k s').leaf ρ=some x
 |[],s,h=> ⟨s,h⟩
 |i::ts,s,h=>by
  simp only [vL] at h;split at h
  ·obtain⟨pc,b,U⟩:=iC h;exact qX U
  ·exact qX h
theorem AB {α:Type} {k:St->T α} {ρ:Nat->Int} {x:α}: ∀{ts:List (Nat×Nat)} {s:St},(Nd k ts s).leaf ρ=some x->∃s',(k s').leaf ρ=some x
 |[],s,h=> ⟨s,h⟩
 |(t,g)::ts,s,h=>by
  simp only [Nd] at h;split at h
  ·obtain⟨pc,b,U⟩:=iC h;exact AB U
  ·exact AB h
theorem Hg {α:Type} {ρ:Nat->Int} {v:W} {s:St} {k:W->St->T α} {x:α} (h:(Oy v s k).leaf ρ=some x): ∃v s,(k v s).leaf ρ=some x:=by
 unfold Oy at h;split at h
 ·split at h
  ·unfold xJ at h;obtain⟨_,b1,h⟩:=iC h
   cases b1 with
   |true=>simp [T.leaf] at h
   |false=>
    obtain⟨_,b2,h⟩:=iC h
    cases b2 with
    |true=>simp [T.leaf] at h
    |false=>
     obtain⟨_,b3,h⟩:=iC h
     cases b3 with
     |true=>simp [T.leaf] at h
     |false=>exact⟨_,_,h⟩
  grind
 grind
theorem Et {α:Type} {ρ:Nat->Int} {x:α}: ∀{vs:List W} {s:St} {k:List W->St->T α},(Hf vs s k).leaf ρ=some x->∃vs s,(k vs s).leaf ρ=some x
 |[],s,k,h=> ⟨_,_,h⟩
 |v::vs,s,k,h=>by
  simp only [Hf] at h;obtain⟨_,_,h⟩:=Hg h;obtain⟨_,_,h⟩:=Et h
  grind
theorem DO {α:Type} {ρ:Nat->Int} {x:α} {t:Nat}: ∀{ov:List (V×List W)} {e:V} {s:St} {k:V->St->T α},(Gz t ov e s k).leaf ρ=some x->∃e s,(k e s).leaf ρ=some x
 |[],e,s,k,h=> ⟨_,_,h⟩
 |(j,cs)::ov,e,s,k,h=>by
  simp only [Gz] at h;obtain⟨_,_,h⟩:=DO h
  grind [Et,T.leaf]
theorem Uc {α:Type} {ρ:Nat->Int} {v:W} {s:St} {k:W->St->T α} {x:α} (h:(LO v s k).leaf ρ=some x): ∃v s,(k v s).leaf ρ=some x:=by
 grind [LO,DO,T.leaf,Hg]
theorem He {α:Type} {ρ:Nat->Int} {x:α} {k:List W->St->T α}: ∀{fz:List (Nat×Nat×Nat)} {vs:List W} {s:St},(LP fz vs s k).leaf ρ=some x->∃vs s,(k vs s).leaf ρ=some x
 |[],vs,s,h=> ⟨_,_,h⟩
 |(i,f,t)::l,vs,s,h=>by
  simp only [LP] at h;split at h
  ·split at h
   ·obtain⟨_,_,h⟩:=Uc h;split at h
    ·exact He h
    grind [T.leaf]
   grind [T.leaf]
  grind [T.leaf]
theorem YJ {g:tR} {fe:Cw} {e:Ex} {s:St} {ρ:Nat->Int} {lf:Lf} (hr:g.oz≠[]) (h:(YK g e s).leaf ρ=some lf):LfG g.ic fe lf:=by
 unfold YK at h
 grind [T.leaf,He,YI]
theorem RL {g:tR} {fe:Cw} {ρ:Nat->Int} (hr:g.oz≠[]): ∀n:Nat,
 (∀p c fr s lf,(wZ g fe n p c fr s).leaf ρ=some lf->LfG g.ic fe lf)/\
 (∀fr e s lf,(tm g fe n fr e s).leaf ρ=some lf->LfG g.ic fe lf)
 |0=> ⟨fun _ _ _ _ _ h=>by simp [wZ,T.leaf] at h,fun _ _ _ _ h=>by simp [tm,T.leaf] at h⟩
 |n+1=>by
  obtain⟨Kd,tX⟩:=RL hr n
  have aiX:Ho g=false:=by
   cases ho:Ho g with
   |false=>rfl
   |true=>exact absurd (Ey ho).2 hr
  have hfo: ∀(c:Code) (s:St) (k:St->T Lf),Uf g c s k=k s:=fun c s k=>by unfold Uf; rw [aiX]; cases hq:g.oz with |nil=>exact absurd hq hr|cons _ _=>rfl
  have hpo: ∀(p:List Nat) (s:St) (k:St->T Lf),TE g p s k=k s:=fun p s k=>by unfold TE; rw [aiX]
  have lfc: ∀(c:Code) fr s lf,((g.ev c s).bind fun (e,s')=>tm g fe n fr e s').leaf ρ=some lf->LfG g.ic fe lf:=by intro c fr s lf h;obtain⟨⟨e,s'⟩,_,Z⟩:=T.fg h;exact tX _ _ _ _ Z
  constructor
  ·intro p c fr s lf h;unfold wZ at h;split at h
   ·rename_i l Y;rw [hpo] at h;obtain⟨s',U⟩:=qX h;exact sX Y (fun _ h=>h) U
   ·split at h
    ·grind
    ·grind
    ·grind
    ·split at h
     ·obtain⟨pc,b,U⟩:=iC h
      grind
     grind [T.leaf]
    ·rw [hfo] at h;exact lfc _ _ _ _ h
  ·intro fr e s lf h;unfold tm at h;split at h
   ·exact YJ hr h
   ·grind
   ·grind
   ·split at h
    ·split at h
     ·rename_i l Y;rw [hpo] at h;obtain⟨s',U⟩:=qX h;exact sX Y (fun _ h=>h) U
     grind [T.leaf]
    grind
   grind
theorem B9 {e:Aw} {ρ:Nat->Int} {lf:Lf} (hr:e.oz≠[]) (h:(nA S e).leaf ρ=some lf): ∃fn body,S.ft e.g=some fn/\fn.body=some body/\LfG e.ic e.fe lf:=by
 unfold nA at h;split at h
 ·simp [T.leaf] at h
 ·rename_i fn ua;split at h
  ·simp [T.leaf] at h
  ·rename_i body hb;refine⟨fn,body,ua,hb,?_⟩;have key: ∀n p c fr s,(wZ (S.cfg e fn) e.fe n p c fr s).leaf ρ=some lf->LfG e.ic e.fe lf:=fun n p c fr s h=>(RL (g:=S.cfg e fn) hr n).1 _ _ _ _ _ h;split at h
   ·grind
   ·split at h
    ·split at h
     ·obtain⟨s',U⟩:=AB h
      grind
     ·simp [T.leaf] at h
    ·simp [T.leaf] at h
theorem Iq (hs:Fu S): ∀(n j:Nat) (e:Aw) (xs ys:List Int),S.bJ j=some e->e.oz≠[]->eO S.tree n j xs=some ys->∀a y,a<e.ic->ys[a+1]?=some y->y=low xs a
 |0,_,_,_,_,_,_,h=>by simp [eO] at h
 |n+1,j,e,xs,ys,he,hr,h=>by
  intro a y ha hy;obtain⟨_,_,hg⟩:=hs.outs j e he;have G6:S.tree j=nA S e:=by unfold Sys.tree; rw [he]
  simp only [eO,G6] at h;split at h
  ·grind
  ·rename_i es Y;obtain⟨_,_,_,_,ru⟩:=B9 hr Y;simp only [ag] at h;subst h;rw [bp,aO] at hy;obtain⟨x,hx,rfl⟩:=hy;rw [ru a x ha hx];show cV _ _ a=_
   grind [sk]
  ·rename_i j' es Y;obtain⟨fn,body,ua,hb,⟨p,l,c,hp,hc,hlen⟩,ru⟩:=B9 hr Y;obtain⟨_,hh⟩:=hs.bJ j e he fn body ua hb p l hp;obtain⟨q1,_,_,q4⟩:=hh j' c hc;have:=Iq hs n j' _ _ ys q1 hr h a y ha hy;rw [this];have U0:a<es.length:=J
   have hx:=aM U0;unfold low;rw [an4,bp,hx];show (es[a]).den _=_;rw [ru a _ ha hx];show cV _ _ a=_
   grind [sk]
theorem jE.mono {P:Program} {g:FuncId} {vals:Array Value} {w:World} {R R':Value->World->Prop} (h:jE P g vals w R) (k: ∀u w',R u w'->R' u w'):jE P g vals w R':=by
 unfold jE at h ⊢;unfold lI at h ⊢;split at h
 ·grind
 ·exact Calls.mono h fun e w' ⟨u,he,hr⟩=> ⟨u,he,k _ _ hr⟩
 grind
theorem aaL (hs:Fu S) {n:Nat} (h:ac6 S n):@im (S.G.iX (eO S.tree n)) S.P S.call:=by
 letI I:=S.G.iX (eO S.tree n);have a1: ∀ρ ro h,I.ok ρ ro h->S.G.ok ro h:=fun _ _ _ h=>h.1;have a2: ∀ρ ro h,I.ok ρ ro h->Good (eO S.tree n) ρ:=fun _ _ _ h=>h.2;refine wI hs.tt hs.ft (hook:=S.hook) ?_ (fun call hc g=>hs.draw I call hc g) S.lf S.depth
 have hL: ∀g l,(∀j∈l,j∈S.Cm g)->@ik I S.P g (S.BV l):=by
  intro g l
  induction l with
  |nil=>
   intro _ amB s E w vals v s' r hv hp Y
   grind [Sys.BV,T.leaf]
  |cons j l ih=>
   intro nM amB s E w vals v s' r hv hp Y;have hj:=nM j ad;simp only [Sys.BV] at Y;split at Y
   ·grind [T.leaf]
   ·rename_i e he;have ve:=h g j e hj he;obtain⟨_,_,Eg⟩:=hs.num g j e hj he;obtain⟨ho1,ho2,_⟩:=hs.outs j e he
    cases s8:e.pat with
    |none=> rw [s8] at Y ve;exact @X6 S.P I S.G.ok a1 (eO S.tree n) a2 g j e.Fs e.lh ve (hs.run g j hj) amB s E w vals v s' r hv hp Y
    |some q=>
     obtain⟨c,eh,ko⟩:=q;rw [s8] at Y ve Eg;simp only at Y ve Eg;unfold Aw.eh Aw.ko at ho1;unfold Aw.ko at ho2;rw [s8] at ho1 ho2
     cases A3:e.oz with
     |nil=>
      rw [A3] at Y ve;simp only at Y ve;split at Y
      ·exact @X4 S.P I S.G.ok a1 (eO S.tree n) a2 g j c e.lh eh ko ho1 ho2 Eg.2.2.1 ve (hs.run g j hj) amB s E w vals v s' r hv hp Y
      ·exact ih (fun j hj=>nM j (by simp [hj])) amB s E w vals v s' r hv hp Y
     |cons r0 rs=>
      rw [A3] at Y ve;simp only at Y ve;have hrp:=Eg.2.2.2.1 (by rw [A3]; simp);rw [A3] at hrp;split at Y
      ·exact @Lu S.P I S.G.ok a1 (eO S.tree n) a2 g j c e.gh e.ic (r0::rs) hrp (fun xs ys h=>Iq hs n j e xs ys he (by rw [A3]; simp) h) ve (hs.run g j hj) amB s E w vals v s' r hv hp Y
      ·split at Y
       ·obtain⟨as1,U,fI,E1,fq,f,Rl,Y⟩:=Jd rfl r hp hv Y;split at Y
        ·rw [<- f.ρ] at Y fq;have:=@Lu S.P I S.G.ok a1 (eO S.tree n) a2 g j c e.gh e.ic (r0::rs) hrp (fun xs ys h=>Iq hs n j e xs ys he (by rw [A3]; simp) h) ve (hs.run g j hj) as1 { s with h:=U,pc:=fI } E1 w vals v s' f.rel Rl fq Y;obtain⟨k1,k2,k3⟩:=this;rw [f.ρ] at k2;exact⟨k1,k2,jE.mono k3 fun u w' ⟨E2,q1,q2,q3⟩=> ⟨E2,f.eu.trans q1,q2,q3⟩⟩
        ·exact ih (fun j hj=>nM j (by simp [hj])) amB s E w vals v s' r hv hp Y
       ·exact ih (fun j hj=>nM j (by simp [hj])) amB s E w vals v s' r hv hp Y
 intro g f hf;unfold Sys.hook at hf;split at hf
 ·exact hs.xl I a1 g f hf
 ·rename_i j l hj;simp only [ag] at hf;subst hf;have Z:=hL g (j::l) (by rw [hj]; exact fun _ h=>h);split
  ·exact Z
  ·rename_i h0 hh;exact ng (hs.xl I a1 g h0 hh) Z
theorem N8 (hs:Fu S) {n:Nat} (h:ac8 S n) {j:Nat} {e:Aw} (he:S.bJ j=some e) {fn:Func} {body:Code} (ua:S.ft e.g=some fn) (hb:fn.body=some body) (B:mc) (hm:e.eh.length=B.m) (ys:List Int) :
 @q? (S.G.iX (eO S.tree n)) S.P body fn.ntmps B (bodyPost S.P fn (QX B e.lh e.eh e.ko e.oz ys)) (eO S.tree n) ys e.fe:=by
 intro p l hp;obtain⟨⟨b,fr,Y⟩,hh⟩:=hs.bJ j e he fn body ua hb p l hp;refine⟨b,fr,Y,fun j' c hc E a w t hg ⟨xs,U,Z,h3,h4⟩ hN hd=>?_⟩;obtain⟨q1,q2,q3,_⟩:=hh j' c hc;exact h j' { e with pos:=some (p,c) } p c q1 rfl q2 q3 fn body b fr ua hb Y B E a w xs ys hm h4 U Z t hg.1 hN hd
theorem XB {F:n7} {E:En} {xs:List Int} {k:Nat} (h: ∀i x,xs[i]?=some x->E.ρ i=x) (hk:xs.length=k) (h9:k<=900): ∀i,i<k->cV F (low xs) i=E.ρ i:=by
 intro i hi
 grind [sk,low]
theorem IQ {tree:Nat->T Lf} {n j:Nat} {xs ys:List Int} (h:eO tree (n+1) j xs=some ys): ∃lf,(tree j).leaf (cV (eO tree n) (low xs))=some lf/\MI (eO tree n) (cV (eO tree n) (low xs)) ys lf:=by
 simp only [eO] at h;split at h
 ·grind
 ·rename_i es Y;simp only [ag] at h;exact⟨_,Y,h⟩
 ·rename_i j' es Y;exact⟨_,Y,h⟩
theorem QE.spec {w:World} {ro:Nat->Prop} {θ:Nat->Nat×Nat} {κ:Nat->Nat} {lh:List RK} {ys:List Int} {e:Ending} {w':World} (h:QE ⟨w,ro,0,θ,κ⟩ lh [] 0 ys e w') :
 ∃u,e= .returned u/\Below w.heap.size w w'/\∃mg:Nat->Prop,(∀b,ro b->mg b)/\(∀b,mg b->ro b\/w.heap.size<=b)/\(∀b,mg b->b<w'.heap.size)/\aaY lh ys mg w'.heap u:=by
 obtain⟨u,q1,q2,mg,q3,q4,q5,_,_,q6⟩:=h;exact⟨u,q1,⟨q2.os,q2.tape,q2.output,q2.size,fun k hk=>q2.kE k hk fun⟨i,hi,_⟩=>absurd hi (by show ¬i<0; omega)⟩,mg,q3,q4,q5,q6⟩
theorem Bel.refl {B:mc}:Bel B B.w0:=⟨rfl,rfl,rfl,au _,fun _ _ _=>rfl⟩
theorem vR.grow {E:En} {s:St} {w:World} {vals:List Value} (f:vR E s { tmps:=vals.toArray,defers:=[] } w) (n:Nat):vR E s { tmps:=vals.toArray++Array.replicate n undef,defers:=[] } w:=by
 refine⟨f.fresh,f.res,f.live,f.inj,f.qC,fun t v ht=>?_,f.pc,f.hid⟩;obtain⟨u,U,Z⟩:=f.sr t v ht
 grind
theorem vR.hd0 {E:En} {s:St} {a:Act} {w:World} (f:vR E s a w) (hn: ∀id o,s.h.get id=some o->nf o=true):vR { E with hd:=fun _=>none } s a w:=by
 have k:fw E w.heap { E with hd:=fun _=>none } w.heap:=⟨rfl,fun _ h=>h,fun _ _=>rfl,fun _ _=>rfl,fun _ h=>h,fun _ _=>rfl⟩;refine⟨f.fresh,f.res,fun id o ho=>?_,f.inj,f.qC,fun t v ht=>?_,f.pc,fun b x hb=>by simp at hb⟩
 ·obtain⟨U,Z,h3⟩:=f.live id o ho;exact⟨U,Z.abN k U rfl (hn id o ho),h3⟩
 ·obtain⟨u,U,Z⟩:=f.sr t v ht;exact⟨u,U,VR.keep k _ _ Z⟩
theorem WI (hs:Fu S): ∀n:Nat,ac6 S n/\ac8 S n
 |0=> ⟨fun g j e _ _=>by
  cases e.pat with
  |none=>exact fun xs ys h=>by simp [eO] at h
  |some q=>
   obtain⟨c,eh,ko⟩:=q
   cases e.oz with
   |nil=>exact fun xs ys h=>by simp [eO] at h
   |cons r rs=>exact fun xs ys h=>by simp [eO] at h,fun j e p c _ _ _ _ fn body b fr _ _ _ B E a w xs ys _ h=>by simp [eO] at h⟩
 |n+1=>by
  obtain⟨Kd,tX⟩:=WI hs n;letI I:=S.G.iX (eO S.tree n);have RD:=aaL hs Kd;have a_: ∀(e:Aw) (fn:Func),Py S.P (S.cfg e fn) (S.qW e.g):=fun e fn=> ⟨hs.tt,RD,hs.draw I S.call RD e.g⟩;constructor
  ·intro g j e hn he;obtain⟨hg,jU,Eg⟩:=hs.num g j e hn he;obtain⟨mH,v!,_⟩:=hs.outs j e he;have G6:S.tree j=nA S e:=by unfold Sys.tree; rw [he]
   cases s8:e.pat with
   |none=>
    rw [s8] at Eg;simp only at Eg ⊢;intro xs ys hx ro w vals fl jy LC sh hc;obtain⟨lf,U,Z⟩:=IQ hx;rw [G6] at U;unfold nA at U
    cases ua:S.ft e.g with
    |none=>rw [ua] at U; simp [T.leaf] at U
    |some fn=>
     rw [ua] at U
     cases hb:fn.body with
     |none=>simp only [hb] at U; simp [T.leaf] at U
     |some body=>
      simp only [hb,jU,s8] at U;obtain⟨hf,_,hd⟩:=hs.ft e.g fn ua;rw [hg] at hf;have mK:=hd body hb;have hlx:=hc.length.1;have I4:e.eh= []:=by unfold Aw.eh; rw [s8]
      have Yf:e.ko=0:=by unfold Aw.ko; rw [s8]
      have Rk:cw (En.zero (cV (eO S.tree n) (low xs)) ro) w.heap (pF e.Fs .dH 0) vals:=by
       refine rZ sh hc fun k x hk=>?_;have I5:=(aW.1 hk).1;rw [ay];show cV _ _ k=x
       grind [sk,low]
      have oB:I.ok (cV (eO S.tree n) (low xs)) ro w.heap:=⟨LC,kS _ _⟩;let B:mc:=⟨w,ro,0,fun _=>(0,0),fun _=>0⟩
      have t0:kB B (En.zero (cV (eO S.tree n) (low xs)) ro) ⟨cq (pF e.Fs .dH 0) 0 .nil,Hp.zero,[]⟩ { tmps:=vals.toArray++Array.replicate (fn.ntmps-vals.toArray.size) undef,defers:=[] } w:=by
       have fit:Fit (En.zero (cV (eO S.tree n) (low xs)) ro) ⟨cq (pF e.Fs .dH 0) 0 .nil,Hp.zero,[]⟩ { tmps:=vals.toArray++Array.replicate (fn.ntmps-vals.toArray.size) undef,defers:=[] } w:=
        ⟨Dd _ ro w jy oB,zn Rk _,by intro c b h; simp at h⟩
       exact⟨fit.x,fun _ h=>h,fun _ h=> .inl h,Bel.refl,fun id o h=>by simp [Hp.zero,Hp.get,Tr.get] at h,fun i hi=>absurd hi (by show ¬i<0; omega),fun b x hb=>by simp [En.zero] at hb⟩
      refine Calls.mono (calls_of_wp (R:=QX B e.lh e.eh e.ko e.oz ys) hf hb ?_) fun e' w' hq=>QE.spec (w:=w) (ro:=ro) (θ:=fun _=>(0,0)) (κ:=fun _=>0) (by rw [I4,Yf,Eg.2] at hq; exact hq);exact (Ja (B:=B) (a_ e fn) mK rfl (by show e.eh.length=0; rw [I4]; rfl) mH v! (N8 hs tX he ua hb B (by show e.eh.length=0; rw [I4]; rfl) ys) 1000).1 [] body [] _ lf _ _ w rfl U Z t0 oB (by simp; omega) rfl
   |some q=>
    obtain⟨c,eh,ko⟩:=q;rw [s8] at Eg;simp only at Eg ⊢;obtain⟨ajb,hc9,hom,hrp,hnf⟩:=Eg
    have main: ∀xs ys,eO S.tree (n+1) j xs=some ys->∀(E:En) (w:World) (vals:List Value),(∀i x,xs[i]?=some x->E.ρ i=x)->xs.length=c.k->vR E c.st { tmps:=vals.toArray,defers:=[] } w->S.G.ok E.ro w.heap->
     Calls S.P g vals.toArray w (QX ⟨w,E.ro,c.dz.length,E.θ,E.κ⟩ e.lh eh ko e.oz ys):=?_
    ·cases A3:e.oz with
     |nil=> simp only;intro xs ys hx E w vals mM hlen fx LC;have:=main xs ys hx E w vals mM hlen fx LC;rw [A3] at this;exact this
     |cons r0 rs=> simp only;intro xs ys hx E w vals mM hlen fx LC;have:=main xs ys hx E w vals mM hlen fx LC;rw [A3] at this;exact this
    intro xs ys hx E0 w vals mM hlen fx0 LC
    have fx:=fx0.hd0 fun id o ho=>by
     have:(oa c.dz 0 .nil).get id=some o:=ho;rw [jg] at this;split at this
     ·exact IG hnf this
     ·simp [Tr.get] at this
    have hE: ∃E:En,E= { E0 with hd:=fun _=>none }:=⟨_,rfl⟩;obtain⟨E,hE⟩:=hE;rw [<- hE] at fx;have mM: ∀i x,xs[i]?=some x->E.ρ i=x:=by rw [hE]; exact mM
    have LC:S.G.ok E.ro w.heap:=by rw [hE]; exact LC
    have hEd:E.hd=fun _=>none:=by rw [hE]
    suffices Calls S.P g vals.toArray w (QX ⟨w,E.ro,c.dz.length,E.θ,E.κ⟩ e.lh eh ko e.oz ys) by rw [hE] at this; exact this
    obtain⟨lf,U,Z⟩:=IQ hx;rw [G6] at U;unfold nA at U
    cases ua:S.ft e.g with
    |none=>rw [ua] at U; simp [T.leaf] at U
    |some fn=>
     rw [ua] at U
     cases hb:fn.body with
     |none=>simp only [hb] at U; simp [T.leaf] at U
     |some body=>
      simp only [hb,jU,s8] at U;obtain⟨hf,_,hd⟩:=hs.ft e.g fn ua;rw [hg] at hf;have mK:=hd body hb;have I4:e.eh=eh:=by unfold Aw.eh; rw [s8]
      have Yf:e.ko=ko:=by unfold Aw.ko; rw [s8]
      let B:mc:=⟨w,E.ro,c.dz.length,E.θ,E.κ⟩
      have alv: ∀id o,c.st.h.get id=some o->id<c.dz.length:=by
       intro id o ho;have:(oa c.dz 0 .nil).get id=some o:=ho
       grind [jg,Tr.get]
      have aln: ∀id,id<c.dz.length->∃o,c.st.h.get id=some o:=by
       intro id hid;refine⟨c.dz[id],?_⟩;show (oa c.dz 0 .nil).get id=_
       grind [jg]
      have t1:kB B E c.st { tmps:=vals.toArray++Array.replicate (fn.ntmps-vals.toArray.size) undef,defers:=[] } w:=by refine⟨fx.grow _,fun _ h=>h,fun _ h=> .inl h,Bel.refl,fun id o h=> .inr ⟨id,alv id o h,rfl⟩,fun i hi=>?_,fun b x hb=>by rw [hEd] at hb; simp at hb⟩;obtain⟨o,ho⟩:=aln i hi;exact⟨(fx.live i o ho).1,rfl,rfl⟩
      have t0:=t1.low (ρ':=cV (eO S.tree n) (low xs)) ajb (XB mM hlen hc9);have oB:I.ok (cV (eO S.tree n) (low xs)) E.ro w.heap:=⟨LC,kS _ _⟩;have hm:e.eh.length=B.m:=by rw [I4]; exact hom
      have hw:=(Ja (B:=B) (a_ e fn) mK rfl hm mH v! (N8 hs tX he ua hb B hm ys) 1000).1 [] body [] _ lf { E with ρ:=cV (eO S.tree n) (low xs) } _ w rfl U Z t0 oB (by simp; omega) rfl;have hw':=calls_of_wp (R:=QX B e.lh e.eh e.ko e.oz ys) hf hb hw
      grind
  ·intro j e p c he jU alk h9 fn body b fr ua hb Y B E a w xs ys hm hx mM hlen t LC hN CW;obtain⟨mH,v!,_⟩:=hs.outs j e he;obtain⟨lf,U,Z⟩:=IQ hx;have G6:S.tree j=nA S e:=by unfold Sys.tree; rw [he]
   rw [G6] at U;unfold nA at U;simp only [ua,hb,jU,Y] at U;obtain⟨hf,_,hd⟩:=hs.ft e.g fn ua;have mK:=hd body hb;have t':=t.low (ρ':=cV (eO S.tree n) (low xs)) alk (XB mM hlen h9);have oB:I.ok (cV (eO S.tree n) (low xs)) E.ro w.heap:=⟨LC,kS _ _⟩;refine N0 ?_;obtain⟨s2,t2,RH⟩:=H5 (E:={ E with ρ:=cV (eO S.tree n) (low xs) }) U t';exact (Ja (B:=B) (a_ e fn) mK rfl hm mH v! (N8 hs tX he ua hb B hm ys) 1000).1 (0::p) b (.loop p b::fr) s2 lf { E with ρ:=cV (eO S.tree n) (low xs) } a w (by simp only [oN,Y]) RH Z t2 oB hN CW
theorem WH (hs:Fu S) {g j:Nat} {e:Aw} (hn:j∈S.Cm g) (he:S.bJ j=some e) (hp:e.pat=none) (n:Nat):i? S.P S.G.ok g e.Fs e.lh (eO S.tree n j):=by
 have:=(WI hs n).1 g j e hn he
 grind
end
end Go.As
end
section
namespace Go.As
open Go.RowKit
def B2:List (Nat×Nat)->Nat->Option Nat
 |[],_=>none
 |(t,k)::l,x=>match Nat.beq t x with
  |true=>some k
  |false=>B2 l x
def KY (l:List (Nat×Nat)) (tt:TT):TT:=fun t=>match tt t with
 |some i=>some { i with own:=B2 l t }
 |none=>none
section
variable {P:Program}
theorem Q' {l:List (Nat×Nat)} {tt:TT} (h:eB P tt):eB P (KY l tt):=by
 intro t i hi;unfold KY at hi;split at hi
 ·rename_i j hj;simp only [ag] at hi;subst hi;obtain⟨U,Z⟩:=h t j hj;exact⟨U,Z⟩
 grind
theorem N6 (l:List (Nat×Nat)) (tt:TT):kindOf (KY l tt)=kindOf tt:=by
 funext op;cases op
 case convert t u x=>
  simp only [kindOf,KY]
  cases ht:tt t with
  |none=>rfl
  |some i=>
   grind
 all_goals rfl
theorem GZ (l:List (Nat×Nat)) (tt:TT) (all:List Oper) (ms:List Nat): ∀(os:List Oper) (i n:Nat),items (KY l tt) all ms os i n=items tt all ms os i n
 |[],_,_=>rfl
 |o::os,i,n=>by simp only [items,N6,GZ l tt all ms os]
theorem WN (l:List (Nat×Nat)) (tt:TT) (all:List Oper):stat (KY l tt) all=stat tt all:=by
 unfold stat
 simp only [GZ]
theorem Z9 (l:List (Nat×Nat)) (tt:TT) (H:Nat->Nat->Option Ao):JV (KY l tt) H=JV tt H:=by funext g id all;unfold JV;simp only [vh,WN]
end
structure FE where
 no:Nat
 g:Nat
 Fs:List RK
 lh:List RK
 pat:Option (CS×List dP×Nat):=none
 oz:List CS:=[]
 gh:List (Nat×Nat):=[]
 wh:List Nat:=[]
 ic:Nat:=0
 tst:List (Nat×Nat):=[]
 fz:List (Nat×Nat×Nat):=[]
 U1:List FH:=[]
 loops:List (List Nat×CS):=[]
def idxs (p:List Nat):List (List Nat×CS)->Nat->List (Nat×CS)
 |[],_=>[]
 |(q,c)::l,j=>match gC q p with
  |true=>(j,c)::idxs p l (j+1)
  |false=>idxs p l (j+1)
def FE.fe (f:FE):Cw:=fun p=>match idxs p f.loops (f.no+1) with
 |[]=>none
 |x::l=>some (x::l)
def FE.ent (f:FE):Aw:=⟨f.g,f.Fs,f.lh,f.fe,none,f.pat,f.oz,f.gh,f.wh,f.ic,f.tst,f.fz,f.U1⟩
def uu (t:Nat->Option FE) (j:Nat):Option Aw:=match t (j / 50) with
 |none=>none
 |some f=>match j % 50 with
  |0=>some f.ent
  |i+1=>match eX f.loops i with
   |some x=>some { f.ent with pos:=some x }
   |none=>none
def XR:Option (Code×List FrE)->Bool
 |some (c,_)=>match c with
  | .loop _=>true
  |_=>false
 |none=>false
def IL (ic:Nat) (body:Code) (x:List Nat×CS):Bool:=XR (oN body x.1)&&vI x.2.k x.2&&Nat.ble x.2.k 900&&Nat.ble ic x.2.k
def aim {α:Type}:List α->Bool
 |[]=>true
 |_=>false
def Yy (ft:Nat->Option Func) (k:Nat) (f:FE):Bool:=Nat.beq f.no (50*k)&&Nat.blt f.loops.length 50&&Nat.ble f.ic 900&&
 (match f.pat with
  |none=>Nat.ble (oH f.Fs).length 900&&aim f.oz
  |some (c,eh,ko)=>vI c.k c&&Nat.ble c.k 900&&Nat.beq eh.length c.dz.length&&Gm f.oz&&mE ko eh&&Nat.ble ko 900&&nfs c.dz)&&
 (match ft f.g with
  |some fn=>match fn.body with
   |some body=>f.loops.all (IL f.ic body)
   |none=>false
  |none=>false)
def K3 (ft:Nat->Option Func) (t:Nat->Option FE) (g:Nat) (l:List Nat):Bool:=
 l.all fun j=>Nat.beq (j % 50) 0&&match t (j / 50) with
  |some f=>Nat.beq f.g g&&(match ft g with
   |some fn=>fn.body.isSome
   |none=>false)
  |none=>false
theorem ER: ∀{a b:List Nat},gC a b=true->a=b
 |[],[],_=>rfl
 |[],_::_,h=>by simp [gC] at h
 |_::_,[],h=>by simp [gC] at h
 |a::x,b::y,h=>by
  simp only [gC] at h;split at h
  ·rename_i U;rw [aq U,ER h]
  grind
theorem zo {p:List Nat}: ∀{l:List (List Nat×CS)} {n j:Nat} {c:CS},(j,c)∈idxs p l n->∃i,l[i]?=some (p,c)/\j=n+i
 |[],n,j,c,h=>by simp [idxs] at h
 |(q,c0)::l,n,j,c,h=>by
  simp only [idxs] at h;split at h
  ·rename_i hq;rcases aw.1 h with h|h
   ·simp only [ak] at h;obtain⟨rfl,rfl⟩:=h;exact⟨0,by rw [ER hq]; rfl,rfl⟩
   ·obtain⟨i,U,Z⟩:=zo h;exact⟨i+1,by simpa using U,J⟩
  ·obtain⟨i,U,Z⟩:=zo h;exact⟨i+1,by simpa using U,J⟩
structure UC where
 P:Program
 G:MJ
 tt:TT
 ft:Nat->Option Func
 qW:Nat->Nat->List Oper->Bool
 draw:ek->Nat->Nat->List Oper->St->T St
 xl:Nat->Option (List W->St->T (W×St))
 t:Nat->Option FE
 Cm:Nat->List Nat
noncomputable def UC.sys (S:UC):Sys:=⟨S.P,S.G,S.tt,S.ft,S.qW,S.draw,S.xl,40,60,S.Cm,uu S.t⟩
theorem ES {t:Nat->Option FE} {j:Nat} {e:Aw} (h:uu t j=some e): ∃f pos,t (j / 50)=some f/\e= { f.ent with pos:=pos }:=by
 unfold uu at h;split at h
 ·grind
 ·rename_i f hf;split at h
  ·simp only [ag] at h;exact⟨f,none,hf,h.symm⟩
  grind
theorem I' {S:UC} (U:eB S.P S.tt) (Z:UK S.P S.qW S.ft) (h3: ∀(I:bG) call,@im I S.P call->∀g,@vS I S.P (S.qW g) (S.draw call g)) (h4: ∀(I:bG),(∀ρ ro h,I.ok ρ ro h->S.G.ok ro h)->∀g h,S.xl g=some h->@ik I S.P g h)
 (h5: ∀k f,S.t k=some f->Yy S.ft k f=true) (h6: ∀g,K3 S.ft S.t g (S.Cm g)=true):Fu S.sys where
 tt:=U
 ft:=Z
 draw:=h3
 xl:=h4
 run:=by
  intro g j hj args w;have hn:=h6 g;unfold K3 at hn;have:=aX.1 hn j hj;simp only [an] at this;obtain⟨_,h⟩:=this;split at h
  ·simp only [an] at h;obtain⟨_,h⟩:=h;split at h
   ·rename_i fn ua;obtain⟨q1,q2,_⟩:=Z g fn ua;obtain⟨c,hb⟩:=am9.1 h;unfold callFunc;simp [UC.sys,q1,hb,by simpa using q2]
   ·simp at h
  ·simp at h
 num:=by
  intro g j e hj he;have hn:=h6 g;unfold K3 at hn;have:=aX.1 hn j hj;simp only [an] at this;obtain⟨hm,h⟩:=this;have hm:=aq hm;have yr:uu S.t j=some e:=he;unfold uu at yr;split at h
  ·rename_i f hf;rw [hf,hm] at yr;simp only [ag] at yr;subst yr;simp only [an] at h;have oP:=h5 _ _ hf;unfold Yy at oP;simp only [an] at oP;obtain⟨⟨_,hp⟩,_⟩:=oP;refine⟨aq h.1,rfl,?_⟩
   show (match f.pat with
    |none=>_
    |some (c,eh,_)=>_)
   cases s8:f.pat with
   |none=>
    rw [s8] at hp;simp only [an] at hp;refine⟨amU hp.1,?_⟩;show f.oz= []
    cases hr:f.oz with
    |nil=>rfl
    |cons a l=>rw [hr] at hp; simp [aim] at hp
   |some q=> obtain⟨c,eh,ko⟩:=q;rw [s8] at hp;simp only [an] at hp;obtain⟨⟨⟨⟨⟨⟨p1,p2⟩,p3⟩,p4⟩,_⟩,_⟩,p7⟩:=hp;exact⟨p1,amU p2,aq p3,fun _=>p4,p7⟩
  ·simp at h
 outs:=by
  intro j e he;obtain⟨f,pos,hf,rfl⟩:=ES he;have oP:=h5 _ _ hf;unfold Yy at oP;simp only [an] at oP;obtain⟨⟨⟨_,hg⟩,hp⟩,_⟩:=oP;refine⟨?_,?_,amU hg⟩
  ·unfold Aw.eh Aw.ko;show mE (match f.pat with |none=>0|some (_,_,k)=>k) (match f.pat with |none=>[]|some (_,o,_)=>o)=true
   cases s8:f.pat with
   |none=>rfl
   |some q=> obtain⟨c,eh,ko⟩:=q;rw [s8] at hp;simp only [an] at hp;exact hp.1.1.2
  ·unfold Aw.ko;show (match f.pat with |none=>0|some (_,_,k)=>k)<=900
   cases s8:f.pat with
   |none=>exact amS _
   |some q=> obtain⟨c,eh,ko⟩:=q;rw [s8] at hp;simp only [an] at hp;exact amU hp.1.2
 bJ:=by
  intro j e he fn body ua hb;obtain⟨f,pos,hf,rfl⟩:=ES he;have oP:=h5 _ _ hf;unfold Yy at oP;simp only [an] at oP;obtain⟨⟨⟨⟨Ar,hlen⟩,_⟩,_⟩,Y⟩:=oP;have Ar:=aq Ar;have hlen:f.loops.length<50:=Nat.lt_of_succ_le (by simpa [Nat.blt] using hlen);have alz:S.ft f.g=some fn:=ua;rw [alz] at Y;simp only [hb] at Y;intro p l hp;have fA:f.fe p=some l:=hp
  have hl0:l=idxs p f.loops (f.no+1)/\l≠[]:=by
   unfold FE.fe at fA;split at fA
   ·simp at fA
   ·rename_i x l' hx;simp only [ag] at fA;rw [hx,fA];exact⟨rfl,by rw [<- fA]; simp⟩
  have mN: ∀i c,f.loops[i]?=some (p,c)->IL f.ic body (p,c)=true:=fun i c hi=>aX.1 Y _ (amE hi);constructor
  ·obtain⟨A6,hl2⟩:=hl0
   cases hc:l with
   |nil=>exact absurd hc hl2
   |cons x l'=>
    obtain⟨j',c⟩:=x;have:(j',c)∈idxs p f.loops (f.no+1):=by rw [<- A6,hc]; simp
    obtain⟨i,hi,_⟩:=zo this;have:=mN i c hi;unfold IL at this;simp only [an] at this;have hi:=this.1.1.1;unfold XR at hi;split at hi
    ·rename_i c' fr heq;split at hi
     ·rename_i b;exact⟨b,fr,heq⟩
     ·simp at hi
    ·simp at hi
  ·intro j' c hc;rw [hl0.1] at hc;obtain⟨i,hi,rfl⟩:=zo hc;have ep:=(aW.1 hi).1;have:=mN i c hi;unfold IL at this;simp only [an] at this;obtain⟨⟨⟨_,q1⟩,q2⟩,q3⟩:=this;refine⟨?_,q1,amU q2,amU q3⟩;show uu S.t (f.no+1+i)=_;have hd:(f.no+1+i) / 50=j / 50:=by rw [Ar]; omega
   have hm:(f.no+1+i) % 50=i+1:=by rw [Ar]; omega
   unfold uu;rw [hd,hf,hm];simp only;rw [dg,hi]
end Go.As
end

import Derived.Lib.Bytealg
import Derived.Lib.IndexMore
import Derived.Deep.LoopGhost
import Derived.Test.YtbmkacliajebmaaGreatDoorAsZL1
set_option linter.unusedSectionVars false
set_option linter.unusedVariables false
set_option linter.unusedSimpArgs false
section
namespace Go.As
section
variable {P:Program}
theorem vW {tt:TT}: ∀{l:List Oper} {i:Nat} {o:Oper},l[i]?=some o->jd tt (l.take (i+1))=jd tt (l.take i)+(match kindOf tt o.op with | .e=>1|_=>0)
 |[],i,o,h=>by simp at h
 |x::xs,0,o,h=>by
  simp at h;subst h;simp only [ay,amp,List.take_zero,jd]
  grind
 |x::xs,i+1,o,h=>by simp only [amp,jd];rw [vW (l:=xs) (by simpa using h)];omega
theorem LB {tt:TT} {l:List Oper} {i:Nat} (h:l[i]?=none):jd tt (l.take (i+1))=jd tt (l.take i):=by have:=amC.1 h;rw [amU J,amU J]
theorem Hh {tt:TT} {l:List Oper} {i:Nat}: ∀{j:Nat},i<=j->jd tt (l.take i)<=jd tt (l.take j)
 |0,h=>by
  grind
 |j+1,h=>by
  by_cases e:i=j+1
  ·grind
  ·have:=Hh (tt:=tt) (l:=l) (i:=i) (j:=j) J
   cases ho:l[j]? with
   |none=>rw [LB ho]; exact this
   |some o=>rw [vW ho]; omega
theorem Jj {tt:TT} {l:List Oper} {i j:Nat} {o:Oper} (ho:l[i]?=some o) (hk:kindOf tt o.op= .e) (h:i<j):jd tt (l.take i)<jd tt (l.take j):=by
 have U:=vW (tt:=tt) ho;rw [hk] at U;have Z:=Hh (tt:=tt) (l:=l) (i:=i+1) (j:=j) h
 grind
theorem vV {tt:TT} {l:List Oper} {m:Nat}: ∀{j:Nat},m<jd tt (l.take j)->∃i o,i<j/\l[i]?=some o/\kindOf tt o.op= .e/\jd tt (l.take i)=m
 |0,h=>by simp [jd] at h
 |j+1,h=>by
  cases ho:l[j]? with
  |none=>
   rw [LB ho] at h;obtain⟨i,o,U,Z⟩:=vV h
   grind
  |some o=>
   rw [vW ho] at h;rcases aQ m (jd tt (l.take j)) with h'|h'
   ·obtain⟨i,o,U,Z⟩:=vV h'
    grind
   grind
def zt (tt:TT) (all:List Oper) (ms:List Nat) (j:Nat) (o:Oper):Item:=⟨j,o,ms.getD j 0,kindOf tt o.op,jd tt (all.take j),reads all o⟩
theorem ig {tt:TT} {all:List Oper} {ms:List Nat} {j:Nat} {o:Oper} (h:all[j]?=some o):(items tt all ms all 0 0)[j]?=some (zt tt all ms j o):=by rw [jv,h];simp [zt]
theorem Gq {tt:TT} {all:List Oper} {ms:List Nat} {x:Item} (h:x∈items tt all ms all 0 0): ∃j o,all[j]?=some o/\x=zt tt all ms j o:=by
 obtain⟨j,hj⟩:=amV h
 cases ho:all[j]? with
 |none=>rw [jv,ho] at hj; simp at hj
 |some o=>
  rw [ig ho] at hj
  grind
structure acJ (tt:TT) (all:List Oper) (ms:List Nat):Prop where
 back: ∀(j:Nat) (o:Oper),all[j]?=some o->∀e∈o.after,Region.binds .any e=true->e.on<j
 mask: ∀(j:Nat) (o:Oper),all[j]?=some o->ms.getD j 0=nL ms o.after.toList
 rd: ∀(j:Nat) (o:Oper),all[j]?=some o->∀t∈reads all o,∀(i:Nat) (oi:Oper),all[i]?=some oi->oi.dst=some t->(ms.getD j 0).testBit i=true\/(kindOf tt o.op≠.r/\(ms.getD i 0).testBit j=true)
 dst: ∀(i j:Nat) (oi oj:Oper) (d:Nat),all[i]?=some oi->all[j]?=some oj->oi.dst=some d->oj.dst=some d->i=j
 tot: ∀(i j:Nat) (oi oj:Oper),all[i]?=some oi->all[j]?=some oj->kindOf tt oi.op= .e->kindOf tt oj.op= .e->i<j->(ms.getD j 0).testBit i=true
theorem A_ {tt:TT} {all:List Oper} {q:Stat} (h:stat tt all=some q): ∃ms,q.is=items tt all ms all 0 0/\q.nE=jd tt all/\q.rs=((q.is.filter (·.k.M!)).map fun x=>(x,zE q.is q.nE x))/\acJ tt all ms:=by
 unfold stat at h;simp only at h;split at h
 ·rename_i oE;simp at h;subst h;refine⟨pP all [],rfl,my _ _ _,rfl,?_⟩;have key: ∀(j:Nat) (o:Oper),all[j]?=some o->xc (pP all []) (items tt all (pP all []) all 0 0) (zt tt all (pP all []) j o)=true:=fun j o ho=>aR.1 oE _ (bw (ig ho));have mem: ∀(j:Nat) (o:Oper),all[j]?=some o->zt tt all (pP all []) j o∈items tt all (pP all []) all 0 0:=fun j o ho=>bw (ig ho);refine⟨?_,?_,?_,?_,?_⟩
  ·intro j o ho e he Y;have:=key j o ho;simp only [xc,an,aR] at this;have:=this.1.1.1.1 e (by simpa [zt] using he);simpa [Y,zt] using this
  ·intro j o ho;have:=key j o ho;simp only [xc,an] at this;have:=this.1.1.1.2;simpa [zt] using this
  ·intro j o ho t ht i oi hoi hd;have:=key j o ho;simp only [xc,an,aR] at this;have:=this.1.1.2 t ht _ (mem i oi hoi);simp only [zt,hd,ne_eq,not_true_eq_false,decide_false,amG,amg,an,alS] at this;rcases this with h|⟨U,Z⟩
   ·grind
   ·refine .inr ⟨fun hk=>?_,Z⟩;rw [hk] at U;simp [Kind.M!] at U
  ·intro i j oi oj d hi hj hdi hdj;have:=key i oi hi;simp only [xc,an,aR] at this;have:=this.1.2 _ (mem j oj hj);simp [zt,hdi,hdj] at this
   grind
  ·intro i j oi oj hi hj XB Q_ ff;have:=key j oj hj;simp only [xc,an,aR] at this;have:=this.2;simp only [zt,Q_,Kind.isE,amE,amG,aR] at this;have:=this _ (mem i oi hi);simpa [zt,XB,Kind.isE,ff] using this
 grind
theorem C1 [bI] {tt:TT} (cJ:ew P tt) {call:eh} (hc:gX P call) {ops:Array Oper} {base:Nat} {pc:List (SB×Bool)} {ρ:Nat->Int} (hp:bW ρ pc) {x:Item} (hk:kindOf tt x.o.op= .r) {v:W} {S:Tr W} {gQ:List (Nat×dG)} {lR:List (Hp×Nat)}: ∀(ks:List Nat),(B0 tt call ops.toList base pc x v S gQ lR ks).leaf ρ=some ()->
 ∀k∈ks,∃h mm,lR[k]?=some (h,mm)/\EN P ρ ops x.o S (fq base x.m mm gQ h) v (fq base x.m mm gQ h)
 |[],_=>by simp
 |k::ks,h=>by
  simp only [B0] at h;split at h
  ·rename_i h0 mm hn;obtain⟨⟨u,s'⟩,U,Z⟩:=T.eZ h;simp only at Z;split at Z
   ·rename_i hs;have ha:=I4 cJ hc (s:=⟨S,fq base x.m mm gQ h0,pc⟩) hp U;have hr:=aiI hk U;rw [hr,jq _ _ hs] at ha;intro k' QK;rcases ax.1 QK with rfl|QK
    ·exact⟨h0,mm,by rw [<- di]; exact hn,ha⟩
    ·exact C1 cJ hc hp hk ks Z k' QK
   ·simp [T.leaf] at Z
  ·simp [T.leaf] at h
theorem FP [bI] {tt:TT} (cJ:ew P tt) {call:eh} (hc:gX P call) {ops:Array Oper} {base:Nat} {ρ:Nat->Int} {d:O7} {lR:List (Hp×Nat)} {vs:List W}: ∀(rs:List (Item×List Nat)) {pc dY:List (SB×Bool)},bW ρ pc->(∀r∈rs,kindOf tt r.1.o.op= .r)->(HQ tt call ops.toList base d lR vs rs pc).leaf ρ=some dY->
 bW ρ dY/\∀r∈rs,∃v,vs[r.1.i]?=some v/\∀k∈r.2,∃h mm,lR[k]?=some (h,mm)/\EN P ρ ops r.1.o (only d.bE r.1.rd) (fq base r.1.m mm d.gQ h) v (fq base r.1.m mm d.gQ h)
 |[],pc,dY,hp,_,h=>by
  have:=bC h
  grind
 |(x,ks)::rs,pc,dY,hp,hk,h=>by
  simp only [HQ] at h;split at h
  ·rename_i v hv;obtain⟨⟨⟩,fA,U,fk,Z⟩:=T.lK hp h;obtain⟨jk,ih⟩:=FP cJ hc rs fk (fun r hr=>hk r (by simp [hr])) Z;refine⟨jk,fun r hr=>?_⟩;rcases ax.1 hr with rfl|hr
   ·exact⟨v,by rw [<- di]; exact hv,C1 cJ hc hp (hk _ ad) ks U⟩
   grind
  ·simp [T.leaf] at h
end
section
variable {P:Program}
theorem D' {α:Type} {l pre:List α} {a b:α} {l0:List α} (h:l=pre++a::b::l0):l.reverse[l0.length]?=some b/\l.reverse[l0.length+1]?=some a:=by
 grind
theorem Ss {n b:Nat} (h:((1 <<<n)-1).testBit b=true):b<n:=by
 rw [Nat.shiftLeft_eq,aml,Nat.testBit_two_pow_sub_one] at h
 grind
theorem F_ [bI] {tt:TT} {ops:Array Oper} {ms:List Nat} {ρ:Nat->Int} {oM:Tr W} {H0:Hp} {base N:Nat} {d:O7} (sf:acJ tt ops.toList ms) (Y:base=H0.next) (hN:base+ops.size<=N)
 (rf:ajs P ρ ops base N (items tt ops.toList ms ops.toList 0 0) ⟨oM,[(⟨H0.m,base+ops.size,none⟩,0)],[],[],[]⟩ d)
 (ND: ∀r∈((items tt ops.toList ms ops.toList 0 0).filter (·.k.M!)).map fun x=>(x,zE (items tt ops.toList ms ops.toList 0 0) (jd tt ops.toList) x),∃v,d.vs.reverse[r.1.i]?=some v/\∀k∈r.2,∃h mm,d.lR.reverse[k]?=some (h,mm)/\EN P ρ ops r.1.o (only d.bE r.1.rd) (fq base r.1.m mm d.gQ h) v (fq base r.1.m mm d.gQ h))
 (hun:Hs base d.gQ d.lR=true) :
 ∃p:EJ P ρ ops oM H0,p.base=base/\p.nE=jd tt ops.toList/\(∀i,p.val i=(d.vs.reverse[i]?).getD .tI)/\(∀k h mm,d.lR.reverse[k]?=some (h,mm)->p.hp k=h/\∀a,p.un k a=!mm.testBit a)/\(∀i,p.nZ i=(d.A4.reverse[i]?).getD none)/\
  (∀(m:Nat),m<p.nE->∃(j:Nat) (o:Oper),ops[j]?=some o/\p.kd j= .e/\p.st j=m):=by
 have gW: ∀(j:Nat),ops.toList[j]?=ops[j]?:=fun j=>bu;have ff: ∀{j:Nat} {o:Oper},ops[j]?=some o->j<ops.size:=fun h=>(alK.1 h).1;have hci:jz (items tt ops.toList ms ops.toList 0 0)=jd tt ops.toList:=my _ _ _;have Gz:jd tt ops.toList=jd tt (ops.toList.take ops.size):=by rw [amU ad]
 obtain⟨ps,s1,s2⟩:=rf.lR;rw [hci] at s2;have alu:d.lR.length=jd tt ops.toList+1:=by rw [s1,a8,s2]; rfl
 have akg:d.lR.reverse[0]?=some (⟨H0.m,base+ops.size,none⟩,0):=by rw [s1]; simp
 have ah5: ∀k,k<=jd tt ops.toList->∃h mm,d.lR.reverse[k]?=some (h,mm):=by
  intro k hk;have:k<d.lR.reverse.length:=by rw [anl]; omega
  exact⟨d.lR.reverse[k].1,d.lR.reverse[k].2,aM this⟩
 have hnx:=rf.nxt (by
  intro q hq;simp only [ax,alU,or_false] at hq;subst hq
  exact⟨hN,rfl⟩)
 have aev: ∀(k:Nat) (h:Hp) (mm:Nat),d.lR.reverse[k]?=some (h,mm)->h.next<=N/\h.res=none:=by intro k h mm hh;exact hnx (h,mm) (by have:=bw hh; simpa using this)
 let hpf:Nat->Hp:=fun k=>((d.lR.reverse[k]?).map (·.1)).getD ⟨.nil,0,none⟩
 let unf:Nat->Nat->Bool:=fun k a=>match d.lR.reverse[k]? with |some q=>!q.2.testBit a|none=>false
 let bff:Nat->Nat->Bool:=fun i j=>match ops[j]? with |some _=>(ms.getD j 0).testBit i|none=>false
 let kdf:Nat->Kind:=fun i=>match ops[i]? with |some o=>kindOf tt o.op|none=> .pa
 let Jl:Nat->Option dG:=fun i=>(d.A4.reverse[i]?).getD none
 have hpe: ∀k h mm,d.lR.reverse[k]?=some (h,mm)->hpf k=h/\∀a,unf k a=!mm.testBit a:=by intro k h mm hh;refine⟨by simp only [hpf,hh]; rfl,fun a=>by simp only [unf,hh]⟩
 have ZL: ∀{i j:Nat} {o:Oper},ops[j]?=some o->bff i j=(ms.getD j 0).testBit i:=by intro i j o ho;simp only [bff,ho]
 have Xb: ∀{j:Nat} {o:Oper},ops[j]?=some o->kdf j=kindOf tt o.op:=by intro j o ho;simp only [kdf,ho]
 have kdE: ∀{j:Nat},kdf j= .e->∃o,ops[j]?=some o/\kindOf tt o.op= .e:=by
  intro j hj
  cases ho:ops[j]? with
  |none=>simp only [kdf,ho] at hj; simp at hj
  |some o=>exact⟨o,rfl,by rw [<- Xb ho]; exact hj⟩
 have XJ: ∀(k:Nat),∀(o':Oper),ops[k]?=some o'->∀b,(ms.getD k 0).testBit b=true->b<k:=by
  intro k
  induction k using Nat.strongRecOn with
  |_ k ih=>
   intro o' Aj b E5;rw [sf.mask k o' (by rw [gW]; exact Aj)] at E5;obtain⟨e,e1,e2,e3⟩:=ow E5;have e1':e∈o'.after:=by simpa using e1
   have aey:=sf.back k o' (by rw [gW]; exact Aj) e e1' e2;rcases e3 with rfl|e3
   ·exact aey
   ·have:=ff Aj;have:=ih e.on aey (ops[e.on]'J) ad b e3;omega
 have akJ: ∀(i:Nat),∃S:Tr W,∀(o:Oper),ops[i]?=some o->∃dp TD v ob pre,dp.bE=S/\EI P ρ ops base N (zt tt ops.toList ms i o) dp v ob TD/\d.vs.reverse[i]?=some v/\d.A4.reverse[i]?=some ob/\d.lR=pre++TD.lR/\dp.lR.length=1+jd tt (ops.toList.take i)/\
  (∀q,q∈dp.gQ->q∈d.gQ)/\(∀t x,S.get t=some x->(∃p oj,p<i/\ops[p]?=some oj/\oj.dst=some t/\d.vs.reverse[p]?=some x)\/(oM.get t=some x/\∀(p:Nat) (oj:Oper),p<i->ops[p]?=some oj->oj.dst≠some t)):=by
  intro i
  cases hoi:ops[i]? with
  |none=>exact⟨.nil,fun o h=>by simp at h⟩
  |some o0=>
   have hx:(items tt ops.toList ms ops.toList 0 0)[i]?=some (zt tt ops.toList ms i o0):=ig (by rw [gW]; exact hoi);obtain⟨dp,TD,v,ob,pre,g1,g2,g3,g4,g5,g6,g7,g8⟩:=rf.at_ i _ hx;refine⟨dp.bE,fun o ho=>?_⟩;simp only [ag] at ho;subst ho;refine⟨dp,TD,v,ob,pre,rfl,g1,by simpa using g2,by simpa using g3,g4,?_,g6,?_⟩
   ·rw [g5];congr 1
    have:(items tt ops.toList ms ops.toList 0 0).take i=items tt ops.toList ms (ops.toList.take i) 0 0:=by
     apply amA;intro j;rw [ame,jv,jv,ame];split
     ·rename_i hj;rw [List.take_take,anm J]
     ·rfl
    rw [this,my]
   ·intro t x ht;rcases g8 t x ht with ⟨p,y,q1,q2,q3,q4⟩|⟨q1,q2⟩
    ·cases oF:ops.toList[p]? with
     |none=>rw [jv,oF] at q2; simp at q2
     |some oj=> rw [ig oF] at q2;simp at q2;subst q2;exact .inl ⟨p,oj,q1,by rw [<- gW]; exact oF,q3,by simpa using q4⟩
    ·refine .inr ⟨q1,fun p oj hp oF=>?_⟩
     have hm:zt tt ops.toList ms p oj∈(items tt ops.toList ms ops.toList 0 0).take i:=by refine bw (i:=p) ?_;rw [ame,ah hp];exact ig (by rw [gW]; exact oF)
     exact q2 _ hm
 obtain⟨Sd,mB⟩:=Classical.skolem.1 akJ
 let Sf:Nat->Tr W:=fun i=>match ops[i]? with
  |some o=>(match kindOf tt o.op with
   | .r=>only d.bE (reads ops.toList o)
   |_=>only (Sd i) (reads ops.toList o))
  |none=> .nil
 have SfR: ∀{i:Nat} {o:Oper},ops[i]?=some o->kindOf tt o.op= .r->Sf i=only d.bE (reads ops.toList o):=by intro i o ho hk;simp only [Sf,ho,hk]
 have SfN: ∀{i:Nat} {o:Oper},ops[i]?=some o->kindOf tt o.op≠.r->Sf i=only (Sd i) (reads ops.toList o):=by
  intro i o ho hk;have:Sf i=(match kindOf tt o.op with | .r=>only d.bE (reads ops.toList o)|_=>only (Sd i) (reads ops.toList o)):=by simp only [Sf,ho]
  rw [this]
  cases hh:kindOf tt o.op with
  |r=>exact absurd hh hk
  |pa=>rfl
  |e=>rfl
 have R_: ∀a b,(a,b)∈d.gQ->Jl a=some b:=by
  intro a b DG;rcases rf.nZ a b DG with h|⟨p,x,g1,g2,g3⟩
  ·simp at h
  ·cases ho:ops.toList[p]? with
   |none=>rw [jv,ho] at g1; simp at g1
   |some o=> rw [ig ho] at g1;simp at g1;subst g1;have:p=a:=g2;subst this;simp only [aX,ay] at g3;simp only [Jl,g3,az]
 have air: ∀a b,Jl a=some b->(a,b)∈d.gQ:=by
  intro a b DG
  have Jw:d.A4.reverse[a]?=some (some b):=by
   simp only [Jl] at DG
   cases hh:d.A4.reverse[a]? with
   |none=>rw [hh] at DG; simp at DG
   |some x=>rw [hh] at DG; simp at DG; rw [DG]
  obtain⟨po,o1,o2⟩:=rf.A4
  have NN:a<ops.size:=by have U:=(aW.1 Jw).1;rw [anl,o1,alZ,o2,sq] at U;simpa using U
  have hx:(items tt ops.toList ms ops.toList 0 0)[a]?=some (zt tt ops.toList ms a ops[a]):=ig (by rw [gW]; simp [NN]);exact rf.akZ a _ b hx (by simpa using Jw)
 refine⟨{
  base:=base,bf:=bff,kd:=kdf,S:=Sf,val:=fun i=>(d.vs.reverse[i]?).getD .tI,st:=fun i=>jd tt (ops.toList.take i),nE:=jd tt ops.toList,hp:=hpf,un:=unf,nZ:=Jl,
  gen:=?_,back:=?_,dst:=?_,bE:=?_,stl:=?_,inj:=?_,ahf:=?_,pa:=?_,ev:=?_,rd:=?_,unm:=?_,nob:=?_,first:=?_ },rfl,rfl,fun i=>rfl,hpe,fun i=>rfl,?_⟩
 ·intro i j h
  cases ho:ops[j]? with
  |none=>simp only [bff,ho] at h; simp at h
  |some o=>
   rw [ZL ho,sf.mask j o (by rw [gW]; exact ho)] at h;obtain⟨e,e1,e2,e3⟩:=ow h;have e1':e∈o.after:=by simpa using e1
   refine⟨o,e,rfl,e1',e2,e3.imp id fun h3=>?_⟩;have hl:=sf.back j o (by rw [gW]; exact ho) e e1' e2;have hj:=ff ho;rw [ZL (o:=ops[e.on]'J) ad];exact h3
 ·intro j o ho e he E5;exact sf.back j o (by rw [gW]; exact ho) e he E5
 ·intro i j oi oj dd hi hj U Z;exact sf.dst i j oi oj dd (by rw [gW]; exact hi) (by rw [gW]; exact hj) U Z
 ·intro i o ho t x ht
  cases hk:kindOf tt o.op with
  |r=>
   rw [SfR ho hk] at ht;obtain⟨U,Z⟩:=yg ht;rcases rf.slot t x Z with ⟨p,y,g1,g2,g3⟩|⟨g1,g2⟩
   ·cases oF:ops.toList[p]? with
    |none=>rw [jv,oF] at g1; simp at g1
    |some oj=>
     rw [ig oF] at g1;simp at g1;subst g1;have hp:ops[p]?=some oj:=by rw [<- gW]; exact oF
     refine .inl ⟨p,oj,?_,hp,g2,?_⟩
     ·rw [ZL ho];rcases sf.rd i o (by rw [gW]; exact ho) t U p oj oF g2 with h|⟨h,_⟩
      ·exact h
      ·exact absurd hk h
     ·simp only [aX,ay] at g3;simp only [g3,az]
   ·refine .inr ⟨g1,fun j oj oF hd=>?_⟩;exact absurd hd (g2 _ (bw (ig (by rw [gW]; exact oF))))
  |_=>
   rw [SfN ho (by rw [hk]; simp)] at ht;obtain⟨U,Z⟩:=yg ht;obtain⟨dp,TD,v,ob,pre,_,_,_,_,_,_,_,g8⟩:=mB i o ho;rcases g8 t x Z with ⟨p,oj,q1,q2,q3,q4⟩|⟨q1,q2⟩
   ·refine .inl ⟨p,oj,?_,q2,q3,by rw [q4]; rfl⟩;rw [ZL ho];rcases sf.rd i o (by rw [gW]; exact ho) t U p oj (by rw [gW]; exact q2) q3 with h|⟨_,h⟩
    ·exact h
    ·have:=XJ p oj q2 i h;omega
   ·refine .inr ⟨q1,fun j oj oF hd=>?_⟩;rw [ZL oF];rcases sf.rd i o (by rw [gW]; exact ho) t U j oj (by rw [gW]; exact oF) hd with h|⟨_,h⟩
    ·exact absurd hd (q2 j oj (XJ i o ho j h) oF)
    ·exact h
 ·intro j o ho hk;rw [Xb ho] at hk;rw [Gz];exact Jj (by rw [gW]; exact ho) hk (ff ho)
 ·intro i j hi hj he;obtain⟨oi,hoi,XB⟩:=kdE hi;obtain⟨oj,oF,Q_⟩:=kdE hj;rcases anh i j with h|h|h
  ·have:=Jj (tt:=tt) (l:=ops.toList) (by rw [gW]; exact hoi) XB h;omega
  ·exact h
  ·have:=Jj (tt:=tt) (l:=ops.toList) (by rw [gW]; exact oF) Q_ h;omega
 ·intro j o ho hk m hm;obtain⟨i,oi,U,Z,h3,h4⟩:=vV hm;rw [Xb ho] at hk;have R?:ops[i]?=some oi:=by rw [<- gW]; exact Z
  refine⟨i,by rw [Xb R?]; exact h3,h4,?_⟩;rw [ZL ho];exact sf.tot i j oi o Z (by rw [gW]; exact ho) h3 hk U
 ·intro i o ho hk;rw [Xb ho] at hk;obtain⟨dp,TD,v,ob,pre,hdp,hF,g2,g3,g4,g5,g6,g7⟩:=mB i o ho;obtain⟨h0,mm,rest,hs,hF⟩:=hF;simp only [zt,hk] at hF;obtain⟨_,HA,f1,f2,f3⟩:=hF;rw [hdp] at f1;refine⟨HA,N,?_,f2,?_,?_⟩
  ·rw [SfN ho (by rw [hk]; simp)];simp only [g2,az];exact f1
  ·simp only [Jl,g3,az];exact f3
  ·intro k Cc;obtain⟨Z,mm2,hh⟩:=ah5 k Cc;rw [(hpe _ _ _ hh).1];exact (aev _ _ _ hh).1
 ·intro j o ho hk;rw [Xb ho] at hk;obtain⟨dp,TD,v,ob,pre,hdp,hF,g2,g3,g4,g5,g6,g7⟩:=mB j o ho;obtain⟨h0,mm,rest,hs,hF⟩:=hF;simp only [zt,hk] at hF;obtain⟨_,hn,f1,f2,f3,f4⟩:=hF;rw [hdp] at f4;rw [f1,hs] at g4;have hrl:rest.length=jd tt (ops.toList.take j):=by rw [hs] at g5; simp at g5; omega
  obtain⟨r1,r2⟩:=D' g4;rw [hrl] at r1 r2;obtain⟨p1,p2⟩:=hpe _ _ _ r1;obtain⟨p3,p4⟩:=hpe _ _ _ r2;refine⟨fq base (ms.getD j 0) mm dp.gQ h0,?_,?_,?_,?_,?_⟩
  ·rw [SfN ho (by rw [hk]; simp)];simp only [g2,az,p3];exact f4
  ·rw [(je _ _).1,p1]
  ·rw [(je _ _).2];exact (aev _ _ _ r1).2
  ·intro id x hx;rcases nO hx with h|⟨a,a1,a2,a3,a4⟩
   ·left; rw [p1]; exact h
   ·right;exact⟨a,by rw [ZL ho]; exact a2,by rw [p2,a3]; rfl,a4,R_ a x (g6 _ a1)⟩
  ·intro a ha;rw [p4] at ha;simp only [Nat.testBit_or,Bool.not_or,an,alS] at ha;refine⟨by rw [p2,ha.1]; rfl,?_⟩;rw [ZL ho];exact ha.2
 ·intro i o ho hk k hkn U Z;rw [Xb ho] at hk;have BJ:zt tt ops.toList ms i o∈items tt ops.toList ms ops.toList 0 0:=bw (ig (by rw [gW]; exact ho))
  obtain⟨v,g1,g2⟩:=ND (zt tt ops.toList ms i o,zE (items tt ops.toList ms ops.toList 0 0) (jd tt ops.toList) (zt tt ops.toList ms i o)) (by
   rw [aT]
   exact⟨_,ama.2 ⟨BJ,by simp [zt,hk,Kind.M!]⟩,rfl⟩)
  have KO:k∈zE (items tt ops.toList ms ops.toList 0 0) (jd tt ops.toList) (zt tt ops.toList ms i o):=by
   unfold zE;rw [ama,alR];refine⟨J,aR.2 fun y hy=>?_⟩;obtain⟨j,oj,oF,rfl⟩:=Gq hy;have P_:ops[j]?=some oj:=by rw [<- gW]; exact oF
   cases Q_:kindOf tt oj.op with
   |pa=>simp [zt,Q_,Kind.isE]
   |r=>simp [zt,Q_,Kind.isE]
   |e=>
    simp only [zt,Q_,Kind.isE,amE,amG,an,amg,alS,decide_eq_true_eq];constructor
    ·cases aeF:(ms.getD i 0).testBit j with
     |false=>exact .inl rfl
     |true=>exact .inr (U j (by rw [Xb P_]; exact Q_) (by rw [ZL ho]; exact aeF))
    ·cases aeF:(ms.getD j 0).testBit i with
     |false=>exact .inl rfl
     |true=>exact .inr (Z j oj P_ (by rw [Xb P_]; exact Q_) (by rw [ZL P_]; exact aeF))
  obtain⟨h0,mm,g3,g4⟩:=g2 k KO;obtain⟨p1,p2⟩:=hpe _ _ _ g3;refine⟨fq base (ms.getD i 0) mm d.gQ h0,?_,?_,?_,?_⟩
  ·have S':d.vs.reverse[i]?=some v:=g1;rw [SfR ho hk];simp only [S',az];exact g4
  ·rw [(je _ _).1,p1]
  ·rw [(je _ _).2];exact (aev _ _ _ g3).2
  ·intro id x hx;rcases nO hx with h|⟨a,a1,a2,a3,a4⟩
   ·left; rw [p1]; exact h
   ·right;exact⟨a,by rw [ZL ho]; exact a2,by rw [p2,a3]; rfl,a4,R_ a x a1⟩
 ·intro k a x hk hx hu;obtain⟨h0,mm,hh⟩:=ah5 k hk;obtain⟨p1,p2⟩:=hpe _ _ _ hh;rw [p1];rw [p2] at hu;unfold Hs at hun;have:=aR.1 hun _ (air a x hx)
  have:=aR.1 this (h0,mm) (by
   have:=bw hh
   simpa using this)
  simp only [amg,Option.isNone_iff_eq_none] at this;simp only [alS] at hu;rcases this with h|h
  ·rw [hu] at h; simp at h
  ·exact h
 ·intro i hk
  cases ho:ops[i]? with
  |none=>
   obtain⟨po,o1,o2⟩:=rf.A4
   have QI:d.A4.reverse[i]?=none:=by rw [amC,anl,o1,alZ,o2,sq];have:=anD.1 ho;simpa using this
   simp only [Jl,QI,amb]
  |some o=>
   obtain⟨dp,TD,v,ob,pre,hdp,hF,g2,g3,g4,g5,g6,g7⟩:=mB i o ho;obtain⟨h0,mm,rest,hs,hF⟩:=hF;rw [Xb ho] at hk
   cases sD:kindOf tt o.op with
   |pa=>exact absurd sD hk
   |e=> simp only [zt,sD] at hF;simp only [Jl,g3,az,hF.1]
   |r=> simp only [zt,sD] at hF;simp only [Jl,g3,az,hF.1]
 ·have:=(hpe 0 _ _ akg).1;refine⟨Y,by rw [this]; exact au _,fun id x h=>?_⟩;rw [this] at h;exact h
 ·intro m hm;have hm':m<jd tt (ops.toList.take ops.size):=by rw [<- Gz]; exact hm
  obtain⟨i,oi,U,Z,h3,h4⟩:=vV hm';have R?:ops[i]?=some oi:=by rw [<- gW]; exact Z
  exact⟨i,oi,R?,by show kdf i=_; rw [Xb R?]; exact h3,h4⟩
end
section
variable {P:Program}
theorem Ef [bI] {tt:TT} (cJ:ew P tt) {call:eh} (hc:gX P call) {ops:Array Oper} {E:En} {s s':St} {a:Act} {w:World} {Q:Exit->Act->World->Prop}
 (hd: ∀o∈ops.toList,∀d,o.dst=some d->d<a.tmps.size) (fit:Fit E s a w) (h:(draw tt call ops.toList s).leaf E.ρ=some s') (hq: ∀a' w',mE E s a w s' a' w'->Q .normal a' w') :
 wpAny P .any ops Q ops.size (Array.replicate ops.size false) a { w with drawn:=w.drawn+1 }:=by
 unfold draw Eg at h;split at h
 ·simp [T.leaf] at h
 ·rename_i q hq0;split at h
  ·simp [T.leaf] at h
  ·rename_i xp;simp only at h;obtain⟨⟨fA,d⟩,U,Z⟩:=T.eZ h;simp only at Z;obtain⟨ms,e1,e2,e3,sf⟩:=A_ hq0;rw [e1,] at U;have rf:=Ri cJ hc _ fit.pc U;have fk:=Rh _ fit.pc U;split at Z
   ·simp [T.leaf] at Z
   ·rename_i h0 mm rest akf;obtain⟨jt,h3,h4⟩:=T.eZ Z;split at h4
    ·rename_i hun;have:=bC h4;subst this
     have ah7:=FP cJ hc q.rs fk (by
      intro r hr;rw [e3,aT] at hr;obtain⟨x,hx,rfl⟩:=hr;rw [ama,e1] at hx;obtain⟨j,o,ho,rfl⟩:=Gq hx.1;have h5:(kindOf tt o.op).M!=true:=hx.2;show kindOf tt o.op= .r;revert h5
      cases kindOf tt o.op<;>simp [Kind.M!]) h3
     have jk:=ah7.1;have ND:=ah7.2;rw [e3,e1,e2] at ND;obtain⟨p,p1,p2,p3,p4,p5,p6⟩:=F_ sf (base:=s.h.next) (H0:=s.h) rfl (Nat.le_add_right _ _) rf ND hun;have gW: ∀(j:Nat),ops.toList[j]?=ops[j]?:=fun j=>bu;let w1:World:={ w with drawn:=w.drawn+1 };have akQ:Fit E s a w1:=⟨⟨fit.rel.fresh,fit.rel.res,fit.rel.live,fit.rel.inj,fit.rel.pL,fit.rel.iT,fit.rel.hid⟩,fit.sr,fit.pc⟩
     have aii: ∀(i:Nat),(Array.replicate ops.size false)[i]?≠some true:=by
      intro i hh
      grind
     refine p.any (E0:=E) (a0:=a) (w0:=w1) hd ?_ ops.size _ a w1 ad ?_ (p.start rfl rfl rfl akQ _ aii)
     ·intro a' w' inv;obtain⟨ps,s1,s2⟩:=rf.lR;rw [my] at s2
      have hlen:rest.length=jd tt ops.toList:=by
       have:d.lR.length=jd tt ops.toList+1:=by rw [s1,a8,s2]; rfl
       grind
      have abE:d.lR.reverse[jd tt ops.toList]?=some (h0,mm):=by
       grind
      obtain⟨q1,q2⟩:=p4 _ _ _ abE
      have hnx:=rf.nxt (by
       intro q hq;simp only [ax,alU,or_false] at hq;subst hq
       exact⟨Nat.le_add_right _ _,rfl⟩) (h0,mm) (by rw [akf]; simp)
      have ht:=p.finish (s0:=s) (s':=⟨d.bE,fq s.h.next ((1 <<<ops.toList.length)-1) mm d.gQ h0,jt⟩) (w0:=w1) rfl inv jk ?_ ?_ ?_ ?_ p6
      ·refine hq a' w' ⟨ht.defers,ht.size,?_⟩;obtain⟨E',st,f'⟩:=ht.step;exact⟨E',⟨st.ρ,st.dm,st.θ,st.κ,st.ro,st.qQ,st.Nh,st.rsm,st.Zn,st.os,st.tape,st.output,st.size,st.bX,st.own,st.hd⟩,f'⟩
      ·intro t x ht;rcases rf.slot t x ht with ⟨j,y,g1,g2,g3⟩|⟨g1,g2⟩
       ·cases oF:ops.toList[j]? with
        |none=>rw [jv,oF] at g1; simp at g1
        |some oj=>
         rw [ig oF] at g1;simp at g1;subst g1;refine .inl ⟨j,oj,by rw [<- gW]; exact oF,g2,?_⟩
         grind
       ·refine .inr ⟨g1,fun j oj oF=>?_⟩;exact g2 _ (bw (ig (by rw [gW]; exact oF)))
      ·intro id x hx;rw [p2,q1,p1];rcases nO hx with h|⟨b,b1,b2,b3,b4⟩
       ·grind
       ·right
        have ff:b<ops.size:=by
         have:=Ss b2
         grind
        refine⟨b,ff,by rw [q2,b3]; rfl,b4,?_⟩;rcases rf.nZ b x b1 with h|⟨j,y,g1,g2,g3⟩
        ·grind
        ·cases oF:ops.toList[j]? with
         |none=>rw [jv,oF] at g1; simp at g1
         |some oj=>
          rw [ig oF] at g1;simp at g1;subst g1;have:j=b:=g2
          grind
      ·rw [p2,q1];exact (je _ _).1.symm
      ·show (fq s.h.next ((1 <<<ops.toList.length)-1) mm d.gQ h0).res=none;rw [(je _ _).2]
       grind
     ·have: ∀(l:Nat->Bool) (n:Nat),left l n<=n:=by
       intro l n
       induction n with
       |zero=>exact au _
       |succ n ih=>simp only [left]; split<;>omega
      grind
    ·simp [T.leaf] at h4
theorem Y' [bI] {tt:TT} (cJ:ew P tt) (hm:P.follows .mixedOrders=true) {call:eh} (hc:gX P call):aav P (draw tt call):=by intro id ops E s s' a w Q hd fit h hq;exact wp_region_any hm (Ef cJ hc hd fit h hq)
end
end Go.As
end
section
namespace Go.As
noncomputable section
open Go.RowKit
section
variable {P:Program}
def En.zero (ρ:Nat->Int) (ro:Nat->Prop):En:={ ρ:=ρ,θ:=fun _=>(0,0),κ:=fun _=>0,dm:=fun _=>False,ro:=ro }
def Hp.zero:Hp:=⟨.nil,0,none⟩
theorem Cv [bI] (ρ:Nat->Int) (ro:Nat->Prop) (w:World) (h: ∀b,ro b->b<w.heap.size) (hg:bI.ok ρ ro w.heap):bO (En.zero ρ ro) Hp.zero w:=
 ⟨fun _ _ h=>h,by simp [Hp.zero],fun id o h=>by simp [Hp.zero,Hp.get,Tr.get] at h,fun id _ o _ h=>by simp [Hp.zero,Hp.get,Tr.get] at h,h,hg,fun _ _ h=>by simp [En.zero] at h⟩
theorem eN.below {E E':En} {H':Hp} {w w':World} (s:eN E Hp.zero w E' H' w'):Below w.heap.size w w':=
 ⟨s.os,s.tape,s.output,s.size,fun k hk=>s.bX k hk fun id o h=>by simp [Hp.zero,Hp.get,Tr.get] at h⟩
theorem zi [bI] {g:FuncId} {f:List W->St->T (W×St)} (hf:iE P g f) {fn:Func} (tq:P.funcs[g]?=some fn) (jX:(fn.name == "runtime.NumGoroutine")=false) {c:Code} (KU:fn.body=some c)
 {ρ:Nat->Int} {ro:Nat->Prop} {w:World} (kJ: ∀b,ro b->b<w.heap.size) (hg:bI.ok ρ ro w.heap) {args:List W} {vals:List Value} (hv:cA (En.zero ρ ro) w.heap args vals) {v:W} {s':St}
 (h:(f args ⟨.nil,Hp.zero,[]⟩).leaf ρ=some (v,s')):Calls P g vals.toArray w fun e w'=> ∃u E',e= .returned u/\VR E' w'.heap v u/\E'.ρ=ρ/\Below w.heap.size w w':=by
 obtain⟨_,_,h3⟩:=hf args ⟨.nil,Hp.zero,[]⟩ (En.zero ρ ro) w vals v s' (Cv ρ ro w kJ hg) hv (by simp [bW]) h
 have kV:(callFunc g vals.toArray).run P w= .ok (.enter g vals.toArray) w:=by unfold callFunc;simp [tq,KU,by simpa using jX]
 unfold kS mO at h3;rw [kV] at h3;exact Calls.mono h3 fun e w' ⟨u,he,E',st,_,hv⟩=> ⟨u,E',he,hv,st.ρ,st.below⟩
end
end
end Go.As
end
section
namespace Go.As
noncomputable section
open Go.RowKit
mutual
def gO:W->Bool
 | .bool (.lit _)=>true
 | .int _ (.lit _)=>true
 | .str _=>true
 | .tI=>true
 | .eg=>true
 | .rq=>true
 | .we=>true
 | .xe=>true
 | .iface _ v=>gO v
 | .agg cs=>lB cs
 | .tuple cs=>lB cs
 | .func _ fs cs=>lB fs&&lB cs
 |_=>false
def lB:List W->Bool
 |[]=>true
 |x::xs=>gO x&&lB xs
end
section
variable {P:Program}
mutual
theorem vX {E E':En} {h h':Array Obj}: ∀(x:W) (u:Value),gO x=true->VR E h x u->VR E' h' x u
 | .bool b,u,hc,hv=>by cases b<;>simp [gO] at hc; simpa [VR,SB.den] using hv
 | .int k e,u,hc,hv=>by cases e<;>simp [gO] at hc; simpa [VR,V.den] using hv
 | .str s,u,_,hv=>by simp only [VR] at *; exact hv
 | .tI,u,_,hv=>by simp only [VR] at *; exact hv
 | .eg,u,_,hv=>by simp only [VR] at *; exact hv
 | .rq,u,_,hv=>by simp only [VR] at *; exact hv
 | .we,u,_,hv=>by simp only [VR] at *; exact hv
 | .xe,u,_,hv=>by simp only [VR] at *; exact hv
 | .iface t x,u,hc,hv=>by simp only [VR,gO] at *;obtain⟨y,U,Z⟩:=hv;exact⟨y,U,vX x y hc Z⟩
 | .agg cs,u,hc,hv=>by simp only [VR,gO] at *;obtain⟨us,U,Z⟩:=hv;exact⟨us,U,lN cs us hc Z⟩
 | .tuple cs,u,hc,hv=>by simp only [VR,gO] at *;obtain⟨us,U,Z⟩:=hv;exact⟨us,U,lN cs us hc Z⟩
 | .func fn fs cs,u,hc,hv=>by simp only [VR,gO,an] at *;obtain⟨us,ws,U,Z,h3⟩:=hv;exact⟨us,ws,U,lN fs us hc.1 Z,lN cs ws hc.2 h3⟩
 | .ptr _ _,_,hc,_=>by simp [gO] at hc
 | .mU _,_,hc,_=>by simp [gO] at hc
 | .slice _ _ _ _,_,hc,_=>by simp [gO] at hc
 | .ro _ _ _,_,hc,_=>by simp [gO] at hc
 | .map _,_,hc,_=>by simp [gO] at hc
 | .Kh _,_,hc,_=>by simp [gO] at hc
 | .wi _ _,_,hc,_=>by simp [gO] at hc
theorem lN {E E':En} {h h':Array Obj}: ∀(xs:List W) (us:List Value),lB xs=true->cA E h xs us->cA E' h' xs us
 |[],us,_,hv=>by simp only [cA] at *; exact hv
 |x::xs,us,hc,hv=>by simp only [cA,lB,an] at *;obtain⟨u,vs,U,Z,h3⟩:=hv;exact⟨u,vs,U,vX x u hc.1 Z,lN xs vs hc.2 h3⟩
end
theorem rN [bI] {E:En} {H:Hp} {w w':World} (r:bO E H w) (b:Below w.heap.size w w'):eN E H w E H w'/\bO E H w':=by have hk:fh E w.heap E w'.heap:=⟨rfl,fun _ h=>h,fun _ _=>rfl,fun _ _=>rfl,fun _ h=>h,fun x hx=>b.block x (r.pL x hx)⟩;refine⟨⟨rfl,fun _ h=>h,fun _ _=>rfl,fun _ _=>rfl,fun _ h=>h,fun _ h=> .inl h,au _,.inr rfl,fun _ h=> .inl h,b.os,b.tape,b.output,b.size,fun x hx _=>b.block x hx,fun id o h _=> ⟨id,o,h,rfl⟩,rfl⟩,r.fresh,r.res,fun id o h=>?_,r.inj,fun x hx=>alW (r.pL x hx) b.size,bI.bX r.iT hk.ro hk.AW,r.Tc rfl b.size (fun _ h=> .inl h) fun id o h _=> ⟨id,o,h,rfl⟩⟩;obtain⟨U,Z,h3⟩:=r.live id o h;exact⟨U,Z.bX hk U (b.block _ (fF r h)) (r.Ti rfl (fun x hx _=>b.block x hx) _),h3⟩
def EX (args:List W) (v:W):List W->St->T (W×St):=fun alD s=>if hY alD args then .ret (v,s) else .fail
def GD (args:List W) (v:W) (f:List W->St->T (W×St)):Bool:=
 lB args&&gO v&&(match f args ⟨.nil,Hp.zero,[]⟩ with | .ret (u,_)=>eD u v|_=>false)
theorem B8 [bI] {g:FuncId} {f:List W->St->T (W×St)} (hf:iE P g f) {fn:Func} (tq:P.funcs[g]?=some fn) (jX:(fn.name == "runtime.NumGoroutine")=false) {c:Code} (Y:fn.body=some c)
 {args:List W} {v:W} (h:GD args v f=true):iE P g (EX args v):=by
 intro alD s E w vals u s' r hv hp hl;unfold EX at hl;split at hl
 ·rename_i hs;have:=bC hl;simp only [ak] at this;obtain⟨rfl,rfl⟩:=this;rw [fD _ _ hs] at hv;unfold GD at h;simp only [an] at h;obtain⟨⟨U,Z⟩,h3⟩:=h;split at h3
  ·rename_i u' s1 kV;have hu:=jq _ _ h3;subst hu;have hc:=zi hf tq jX Y (ρ:=E.ρ) (ro:=E.ro) (w:=w) r.pL r.iT (lN args vals U hv) (v:=u') (s':=s1) (by rw [kV]; rfl);refine⟨rfl,hp,?_⟩
   have kV:(callFunc g vals.toArray).run P w= .ok (.enter g vals.toArray) w:=by unfold callFunc;simp [tq,Y,by simpa using jX]
   unfold kS mO;rw [kV];exact Calls.mono hc fun e w' ⟨x,E',he,hx,_,mX⟩=> ⟨x,he,E,(rN r mX).1,(rN r mX).2,vX u' x Z hx⟩
  grind
 ·simp [T.leaf] at hl
def orElse (f g:List W->St->T (W×St)):List W->St->T (W×St):=fun alD s=>match f alD s with | .fail=>g alD s|x=>x
theorem mV [bI] {id:FuncId} {f g:List W->St->T (W×St)} (hf:iE P id f) (hg:iE P id g):iE P id (orElse f g):=by
 intro alD s E w vals u s' r hv hp hl;unfold orElse at hl;split at hl
 ·exact hg alD s E w vals u s' r hv hp hl
 ·exact hf alD s E w vals u s' r hv hp hl
end
end
end Go.As
end
section
namespace Go.As
noncomputable section
open Go.RowKit
section
variable {P:Program}
theorem vN {g:FuncId} {fn:Func} {e:Array Value->Sem Value} (hf:P.funcs[g]?=some fn) (jX:(fn.name == "runtime.NumGoroutine")=false) (Y:fn.body.isNone=true) (hn:Extern.findNext fn=none) (he:Extern.find fn=some e)
 {args:Array Value} {w:World} {u:Value} (hr:(e args).run P w= .ok u w):(callFunc g args).run P w= .ok (.value u) w:=by
 have KU:fn.body=none:=by simpa using Y
 unfold callFunc;simp [hf,KU,by simpa using jX,hn,he,hr]
def Et (c:Nat):List Nat->Nat
 |[]=>0
 |x::xs=>if x.beq c then Et c xs+1 else Et c xs
def Ai:List W->St->T (W×St):=fun args s=>match args with
 |[.str b,.int .u8 (.lit (.ofNat c))]=>if c<256 then .ret (.int .i64 (.lit (Int.ofNat (Et c b))),s) else .fail
 |_=> .fail
theorem Hv {a b:Nat} (ha:a<256) (Y:b<256):(UInt8.ofNat a == UInt8.ofNat b)=a.beq b:=by
 rw [alQ];simp only [beq_iff_eq,Nat.beq_eq];constructor
 ·intro h;have:=congrArg UInt8.toNat h;simp only [al4] at this;omega
 grind
theorem G9 {c:Nat} (hc:c<256): ∀{s:List Nat},(∀b∈s,b<256)->Lib.countByte (s.map UInt8.ofNat) (UInt8.ofNat c)=Et c s
 |[],_=>rfl
 |x::xs,h=>by
  have ih:=G9 hc (s:=xs) fun b Y=>h b (by simp [Y]);unfold Lib.countByte at *;rw [aw,List.count_cons,ih,Hv (h x ad) hc];simp only [Et]
  grind
theorem Zy [bI] {g:FuncId} {fn:Func} (hf:P.funcs[g]?=some fn) (jX:(fn.name == "runtime.NumGoroutine")=false) (Y:fn.body.isNone=true) (hn:Extern.findNext fn=none) (he:Extern.find fn=some Extern.BytealgCount.count):iE P g Ai:=by
 intro alD s E w vals u s' r hv hp hl;unfold Ai at hl;split at hl
 ·rename_i b c;split at hl
  ·rename_i hc;have:=bC hl;simp only [ak] at this;obtain⟨rfl,rfl⟩:=this;simp only [cA,VR,V.den] at hv;obtain⟨u1,r1,rfl,⟨rfl,Ma⟩,u2,r2,rfl,rfl,rfl⟩:=hv;refine⟨rfl,hp,?_⟩;unfold kS mO;rw [vN hf jX Y hn he (Lib.run_countString (de b) (Int.ofNat c) w)];refine⟨E,eN.refl _ _ _,r,?_⟩;simp only [VR,V.den];have:(Int.ofNat c).toNat.toUInt8=UInt8.ofNat c:=rfl;rw [this];have Z:(de b).data.toList=b.map UInt8.ofNat:=by simp [de]
   rw [Z,G9 hc Ma];rfl
  ·simp [T.leaf] at hl
 ·simp [T.leaf] at hl
def Du (c:Nat):List Nat->Int
 |[]=> -1
 |x::xs=>if x.beq c then 0 else match Du c xs with
  | .ofNat n=> .ofNat (n+1)
  | .negSucc n=> .negSucc n
def Ah:List W->St->T (W×St):=fun args s=>match args with
 |[.str b,.int .u8 (.lit (.ofNat c))]=>if c<256 then .ret (.int .i64 (.lit (Du c b)),s) else .fail
 |_=> .fail
theorem Gr {c:Nat} (hc:c<256): ∀{s:List Nat},(∀b∈s,b<256)->Lib.indexByte (s.map UInt8.ofNat) (UInt8.ofNat c)=Du c s
 |[],_=>rfl
 |x::xs,h=>by
  have ih:=Gr hc (s:=xs) fun b Y=>h b (by simp [Y]);have NJ:=Lib.indexByte_ge (xs.map UInt8.ofNat) (UInt8.ofNat c);simp only [aw,Lib.indexByte,Du];rw [Hv (h x ad) hc];cases x.beq c
  ·simp only [aL,if_false];rw [ih] at NJ ⊢
   cases hi:Du c xs with
   |ofNat n=>rw [hi] at NJ; simp
   |negSucc n=>
    grind
  ·rfl
theorem Xl [bI] {g:FuncId} {fn:Func} (hf:P.funcs[g]?=some fn) (jX:(fn.name == "runtime.NumGoroutine")=false) (Y:fn.body.isNone=true) (hn:Extern.findNext fn=none) (he:Extern.find fn=some Extern.BytealgIndexByte.indexByte):iE P g Ah:=by
 intro alD s E w vals u s' r hv hp hl;unfold Ah at hl;split at hl
 ·rename_i b c;split at hl
  ·rename_i hc;have:=bC hl;simp only [ak] at this;obtain⟨rfl,rfl⟩:=this;simp only [cA,VR,V.den] at hv;obtain⟨u1,r1,rfl,⟨rfl,Ma⟩,u2,r2,rfl,rfl,rfl⟩:=hv;refine⟨rfl,hp,?_⟩;unfold kS mO;rw [vN hf jX Y hn he (Lib.run_indexByteString (de b) (Int.ofNat c) w)];refine⟨E,eN.refl _ _ _,r,?_⟩;simp only [VR,V.den];have:(Int.ofNat c).toNat.toUInt8=UInt8.ofNat c:=rfl;rw [this];have Z:(de b).data.toList=b.map UInt8.ofNat:=by simp [de]
   rw [Z,Gr hc Ma]
  ·simp [T.leaf] at hl
 ·simp [T.leaf] at hl
def J7:List Nat->List Nat->Bool
 |[],_=>true
 |_::_,[]=>false
 |a::x,b::y=>if a.beq b then J7 x y else false
def xJ (c:List Nat):List Nat->Bool
 |[]=>J7 c []
 |b::bs=>if J7 c (b::bs) then true else xJ c bs
def sB:List W->St->T (W×St):=fun args s=>match args with
 |[.str b,.str c]=>if b.length<4294967281 then .ret (.bool (.lit (xJ c b)),s) else .fail
 |_=> .fail
theorem Pw: ∀{c s:List Nat},(∀b∈c,b<256)->(∀b∈s,b<256)->(c.map UInt8.ofNat).isPrefixOf (s.map UInt8.ofNat)=J7 c s
 |[],_,_,_=>by simp [J7]
 |_::_,[],_,_=>by simp [J7]
 |a::x,b::y,hc,hs=>by
  have ih:=Pw (c:=x) (s:=y) (fun z hz=>hc z (by simp [hz])) (fun z hz=>hs z (by simp [hz]));simp only [aw,List.isPrefixOf,J7];rw [Hv (hc a ad) (hs b ad),ih]
  grind
theorem index_ge (sub:List UInt8): ∀l:List UInt8,-1<=Lib.index l sub
 |[]=>by unfold Lib.index; split<;>omega
 |b::l=>by
  have ih:=index_ge sub l;unfold Lib.index
  grind
theorem Cx {c:List Nat} (hc: ∀b∈c,b<256): ∀{s:List Nat},(∀b∈s,b<256)->Lib.contains (s.map UInt8.ofNat) (c.map UInt8.ofNat)=xJ c s
 |[],_=>by cases c<;>simp [Lib.contains,Lib.index,xJ,J7]
 |b::bs,h=>by
  have ih:=Cx hc (s:=bs) fun z hz=>h z (by simp [hz]);have hp:=Pw hc h;simp only [aw] at hp;unfold Lib.contains at *;simp only [aw,Lib.index,xJ]
  grind
theorem Lz [bI] {g:FuncId} (hg: ∀(ρ:Nat->Int) (ro:Nat->Prop) (w:World),bI.ok ρ ro w.heap->∀s sub:ByteArray,s.size<4294967281->Calls P g #[.string s,.string sub] w fun e w'=>e= .returned (.bool (Lib.contains s.data.toList sub.data.toList))/\w'=w)
 (kV: ∀(args:Array Value) (w:World),(callFunc g args).run P w= .ok (.enter g args) w):iE P g sB:=by
 intro alD s E w vals u s' r hv hp hl;unfold sB at hl;split at hl
 ·rename_i b c;split at hl
  ·rename_i hlen;have:=bC hl;simp only [ak] at this;obtain⟨rfl,rfl⟩:=this;simp only [cA,VR] at hv;obtain⟨u1,r1,rfl,⟨rfl,Ma⟩,u2,r2,rfl,⟨rfl,T9⟩,rfl⟩:=hv;refine⟨rfl,hp,?_⟩;unfold kS mO;rw [kV];refine Calls.mono (hg E.ρ E.ro w r.iT (de b) (de c) (by simpa [de,ByteArray.size] using hlen)) fun e w' ⟨he,hw⟩=>?_;subst hw;refine⟨_,he,E,eN.refl _ _ _,r,?_⟩;simp only [VR,SB.den];have Z: ∀l:List Nat,(de l).data.toList=l.map UInt8.ofNat:=by intro l; simp [de]
   rw [Z,Z,Cx T9 Ma]
  ·simp [T.leaf] at hl
 ·simp [T.leaf] at hl
end
end
end Go.As
end
section
namespace Go.As
noncomputable section
structure BG where
 m:Nat
 k:Kind
 st:Nat
 rd:List Nat
structure L0 where
 is:List BG
 nE:Nat
 rs:List (Nat×List Nat)
def Ns:Kind->Kind->Bool
 | .pa,.pa=>true
 | .e,.e=>true
 | .r,.r=>true
 |_,_=>false
def xd:List Nat->List Nat->Bool
 |[],[]=>true
 |a::x,b::y=>Nat.beq a b&&xd x y
 |_,_=>false
def zL:List Item->List BG->Bool
 |[],[]=>true
 |x::xs,d::ds=>Nat.beq x.m d.m&&Ns x.k d.k&&Nat.beq x.st d.st&&xd x.rd d.rd&&zL xs ds
 |_,_=>false
def zJ:List (Item×List Nat)->List (Nat×List Nat)->Bool
 |[],[]=>true
 |(x,ks)::xs,(i,js)::ys=>Nat.beq x.i i&&xd ks js&&zJ xs ys
 |_,_=>false
def zy:Nat->List Oper->List BG->List Item
 |i,o::os,d::ds=> ⟨i,o,d.m,d.k,d.st,d.rd⟩ ::zy (i+1) os ds
 |_,_,_=>[]
def SC (is:List Item):List (Nat×List Nat)->List (Item×List Nat)
 |[]=>[]
 |(i,ks)::r=>match eT is i with
  |some x=>(x,ks)::SC is r
  |none=>SC is r
def statOf (all:List Oper) (H:L0):Stat:=⟨zy 0 all H.is,H.nE,SC (zy 0 all H.is) H.rs⟩
def uD (tt:TT) (all:List Oper) (H:L0):Bool:=match stat tt all with
 |none=>false
 |some q=>zL q.is H.is&&Nat.beq q.nE H.nE&&zJ q.rs H.rs
theorem S3 {a b:Kind} (h:Ns a b=true):a=b:=by cases a<;>cases b<;>simp [Ns] at h<;>rfl
theorem zV: ∀{a b:List Nat},xd a b=true->a=b
 |[],[],_=>rfl
 |[],_::_,h=>by simp [xd] at h
 |_::_,[],h=>by simp [xd] at h
 |a::x,b::y,h=>by simp only [xd,an] at h;rw [aq h.1,zV h.2]
theorem Gn {tt:TT} {all:List Oper} {ms:List Nat}: ∀{os:List Oper} {i n:Nat} {ds:List BG},zL (items tt all ms os i n) ds=true->items tt all ms os i n=zy i os ds
 |[],i,n,ds,h=>by cases ds<;>simp [items,zL,zy] at *
 |o::os,i,n,ds,h=>by
  cases ds with
  |nil=>simp [items,zL] at h
  |cons d ds=> simp only [items,zL,an] at h;obtain⟨⟨⟨⟨U,Z⟩,h3⟩,h4⟩,h5⟩:=h;have ih:=Gn h5;simp only [items,zy];rw [ih,aq U,S3 Z,aq h3,zV h4]
theorem Pu {is:List Item}: ∀{xs:List (Item×List Nat)} {ys:List (Nat×List Nat)},(∀p∈xs,eT is p.1.i=some p.1)->zJ xs ys=true->SC is ys=xs
 |[],[],_,_=>rfl
 |[],_::_,_,h=>by simp [zJ] at h
 |_::_,[],_,h=>by simp [zJ] at h
 |(x,ks)::xs,(i,js)::ys,hm,h=>by simp only [zJ,an] at h;have U:=hm (x,ks) ad;simp only [SC];rw [<- aq h.1.1,U,<- zV h.1.2,Pu (fun p hp=>hm p (by simp [hp])) h.2]
theorem JG: ∀{i:Nat} {os:List Oper} {ds:List BG} {x:Item},x∈zy i os ds->i<=x.i/\eT (zy i os ds) (x.i-i)=some x
 |_,[],_,_,h=>by simp [zy] at h
 |_,_::_,[],_,h=>by simp [zy] at h
 |i,o::os,d::ds,x,h=>by
  simp only [zy,ax] at h ⊢;rcases h with rfl|h
  ·simp [eT]
  ·obtain⟨U,Z⟩:=JG h;refine⟨J,?_⟩;have:x.i-i=(x.i-(i+1))+1:=J
   rw [this];exact Z
theorem Al {tt:TT} {all:List Oper} {H:L0} (h:uD tt all H=true):stat tt all=some (statOf all H):=by
 unfold uD at h;split at h
 ·grind
 ·rename_i q hq;rw [hq];simp only [an] at h;obtain⟨⟨U,Z⟩,h3⟩:=h;have hq':=hq;unfold stat at hq';simp only at hq';split at hq'
  ·simp only [ag] at hq';subst hq';have e1:=Gn U;simp only at Z h3
   have e3:SC (zy 0 all H.is) H.rs=_:=Pu (is:=zy 0 all H.is) (by
    intro p hp;simp only [aT,ama] at hp;obtain⟨x,⟨hx,_⟩,rfl⟩:=hp;rw [e1] at hx;have:=(JG hx).2
    simpa using this) h3
   unfold statOf;rw [e3,<- aq Z,<- e1]
  grind
end
end Go.As
end
section
namespace Go.As
noncomputable section
def wD (pos:Nat->Nat) (o:Oper):Oper:={ o with after:=o.after.map (fun e=>{ e with on:=pos e.on }),guard:=match o.guard with |none=>none|some (j,b)=>some (pos j,b) }
def posOf:List Nat->Nat->Nat
 |[],_=>0
 |x::xs,i=>match Nat.beq x i with
  |true=>0
  |false=>posOf xs i+1
def A2 (pos:Nat->Nat) (all:List Oper):List Nat->List Oper
 |[]=>[]
 |i::is=>match eT all i with
  |some o=>wD pos o::A2 pos all is
  |none=>[]
def fP (ord:List Nat) (all:List Oper):List Oper:=A2 (posOf ord) all ord
def HV (ord:List Nat) (n:Nat):Bool:=
 Nat.beq ord.length n&&(List.range n).all (fun i=>match eT ord (posOf ord i) with |some j=>Nat.beq i j|none=>false)&&
 (List.range n).all (fun j=>match eT ord j with |some i=>Nat.blt i n&&Nat.beq (posOf ord i) j|none=>false)
theorem J8: ∀(ord:List Nat) (i:Nat),posOf ord i<=ord.length
 |[],_=>au _
 |x::xs,i=>by
  simp only [posOf,aK];split
  ·omega
  ·have:=J8 xs i; omega
theorem FR: ∀(ord:List Nat) (i:Nat),posOf ord i<ord.length->ord[posOf ord i]?=some i
 |[],_,h=>by simp [posOf] at h
 |x::xs,i,h=>by
  simp only [posOf,aK] at h ⊢;split
  ·rename_i he;simp_all
  ·rename_i he;rw [he] at h;simp only at h;simpa using FR xs i J
structure Perm (n:Nat) (ord:List Nat):Prop where
 len:ord.length=n
 at': ∀i,i<n->ord[posOf ord i]?=some i
 back: ∀j,j<n->∃i,ord[j]?=some i/\i<n/\posOf ord i=j
theorem SO {ord:List Nat} {n:Nat} (h:HV ord n=true):Perm n ord:=by
 unfold HV at h;simp only [an,aR,alR] at h;obtain⟨⟨U,Z⟩,h3⟩:=h;refine⟨aq U,fun i hi=>?_,fun j hj=>?_⟩
 ·have:=Z i hi;split at this
  all_goals simp_all [di]
 simp_all [di]
theorem Perm.lt {n:Nat} {ord:List Nat} (p:Perm n ord) {i:Nat} (hi:i<n):posOf ord i<n:=by
 have:=p.at' i hi;rw [<- p.len]
 grind
theorem Perm.ge {n:Nat} {ord:List Nat} (p:Perm n ord) {i:Nat} (hi: ¬i<n):posOf ord i=n:=by
 have U:=J8 ord i;rw [p.len] at U;rcases aQ (posOf ord i) n with h|h
 ·have Z:=FR ord i (by rw [p.len]; exact h);obtain⟨k,h3,h4,_⟩:=p.back _ h
  grind
 ·omega
theorem Perm.inj {n:Nat} {ord:List Nat} (p:Perm n ord) {i j:Nat} (hi:i<n) (hj:j<n) (h:posOf ord i=posOf ord j):i=j:=by
 have U:=p.at' i hi;have Z:=p.at' j hj
 grind
theorem FU {pos:Nat->Nat} {all:List Oper}: ∀{is:List Nat},(∀i∈is,i<all.length)->∀j:Nat,(A2 pos all is)[j]?=(is[j]?).bind fun i=>(all[i]?).map (wD pos)
 |[],_,j=>by simp [A2]
 |i::is,h,j=>by
  have hi:=h i ad;have ih:=FU (pos:=pos) (is:=is) fun k hk=>h k (by simp [hk])
  grind [A2,di]
section
variable {P:Program}
theorem nC {ord:List Nat} {ops:Array Oper} (p:Perm ops.size ord) {i:Nat} (hi:i<ops.size):(fP ord ops.toList)[posOf ord i]?=(ops[i]?).map (wD (posOf ord)):=by
 unfold fP
 rw [FU (by
  intro k hk;obtain⟨j,hj,rfl⟩:=amr hk;obtain⟨i',U,Z,_⟩:=p.back j (by rw [<- p.len]; exact hj);rw [aM hj] at U;simp only [ag] at U;rw [U]
  simpa using Z),p.at' i hi]
 simp
theorem ue {ord:List Nat} {ops:Array Oper} (p:Perm ops.size ord):(fP ord ops.toList).length=ops.size:=by
 have h0: ∀j,j<ops.size->(fP ord ops.toList)[j]?.isSome=true:=by
  intro j hj;obtain⟨i,_,Z,h3⟩:=p.back j hj
  grind [nC]
 have hle:(fP ord ops.toList).length<=ops.size:=by
  have: ∀(is:List Nat),(A2 (posOf ord) ops.toList is).length<=is.length:=by
   intro is
   induction is with
   |nil=>simp [A2]
   |cons i is ih=>simp only [A2]; split<;>simp; omega
  have:=this ord;rw [p.len] at this;exact this
 rcases aQ (fP ord ops.toList).length ops.size with h|h
 all_goals grind
theorem Wq (pos:Nat->Nat) (o:Oper) (a:Act) (w:World) (K:Act->World->Prop) (Q:Exit->Act->World->Prop):(wD pos o).wp P a w K Q=o.wp P a w K Q:=rfl
theorem M3 (pos:Nat->Nat) (o:Oper) (a:Act) (w:World):(wD pos o).asks P a w=o.asks P a w:=rfl
theorem Hr {ord:List Nat} {ops:Array Oper} (p:Perm ops.size ord) (tmps:Array Value) (j:Nat):yielded (fP ord ops.toList).toArray tmps (posOf ord j)=yielded ops tmps j:=by
 unfold yielded
 have:((fP ord ops.toList).toArray[posOf ord j]?).bind (·.dst)=(ops[j]?).bind (·.dst):=by
  rw [ann];rcases aQ j ops.size with h|h
  ·rw [nC p h];cases ops[j]?<;>rfl
  ·rw [p.ge J,amH (by rw [ue p]; exact au _),ano h]
 grind
theorem JL {ord:List Nat} {ops:Array Oper} (p:Perm ops.size ord) (tmps:Array Value) (o:Oper) :
 Region.wanted (wD (posOf ord) o) (yielded (fP ord ops.toList).toArray tmps)=Region.wanted o (yielded ops tmps):=by
 unfold Region.wanted wD
 cases hg:o.guard with
 |none=>rfl
 |some g=> obtain⟨j,b⟩:=g;simp only;rw [Hr p]
theorem jr {md:Region.Mode} {ops:Array Oper} {listed:Array Bool} {i:Nat}:i∈Region.ready md ops listed↔∃o,ops[i]?=some o/\listed.getD i true=false/\∀e∈o.after.toList,Region.binds md e=true->listed.getD e.on false=true:=by
 unfold Region.ready;simp only [ama,alR,an,alS];constructor
 ·rintro⟨U,Z,h3⟩;have e:=anE U;refine⟨_,e,Z,?_⟩;rw [e] at h3;simp only [alE,az,Array.all_eq_true_iff_forall_mem] at h3;intro x hx Y
  grind
 grind
theorem w7 {md:Region.Mode} {ord:List Nat} {ops:Array Oper} (p:Perm ops.size ord) {listed ic:Array Bool} (hz:listed.size=ops.size) (EO:ic.size=ops.size) (hl: ∀i,i<ops.size->ic[posOf ord i]?=listed[i]?) {i:Nat} (hi:i<ops.size) :
 posOf ord i∈Region.ready md (fP ord ops.toList).toArray ic↔i∈Region.ready md ops listed:=by
 have hg: ∀(k:Nat) (d:Bool),ic.getD (posOf ord k) d=listed.getD k d:=by
  intro k d;simp only [amf];rcases aQ k ops.size with h|h
  ·grind
  ·rw [p.ge J,ano J,ano J]
 rw [jr,jr,ann,nC p hi,hg];constructor
 ·rintro⟨o,U,Z,h3⟩;rw [aO] at U;obtain⟨o0,h0,rfl⟩:=U;refine⟨o0,h0,Z,fun e he Y=>?_⟩
  have:=h3 { e with on:=posOf ord e.on } (by
   simp only [wD,am8,aT]
   exact⟨e,he,rfl⟩) Y
  simp_all
 ·rintro⟨o,U,Z,h3⟩;refine⟨wD (posOf ord) o,by rw [U]; rfl,Z,fun e he Y=>?_⟩;simp only [wD,am8,aT] at he;obtain⟨e0,Q!,rfl⟩:=he;show ic.getD (posOf ord e0.on) false=true;rw [hg];exact h3 e0 Q! Y
theorem Ml {md:Region.Mode} {ord:List Nat} {ops:Array Oper} (p:Perm ops.size ord) {Q:Exit->Act->World->Prop}: ∀(fuel:Nat) (listed ic:Array Bool) (a:Act) (w:World),listed.size=ops.size->ic.size=ops.size->
 (∀i,i<ops.size->ic[posOf ord i]?=listed[i]?)->wpAny P md (fP ord ops.toList).toArray Q fuel ic a w->wpAny P md ops Q fuel listed a w:=by
 have ahK: ∀(listed ic:Array Bool),listed.size=ops.size->ic.size=ops.size->(∀i,i<ops.size->ic[posOf ord i]?=listed[i]?)->
  (Region.ready md (fP ord ops.toList).toArray ic= []↔Region.ready md ops listed= []):=by
  intro listed ic hz EO hl;constructor
  ·intro h;rw [amT] at h ⊢;intro i hm
   have hi:i<ops.size:=by
    grind [jr]
   exact h _ ((w7 p hz EO hl hi).2 hm)
  ·intro h;rw [amT] at h ⊢;intro j hm
   have hj:j<ops.size:=by
    grind [jr]
   obtain⟨i,_,Z,h3⟩:=p.back j hj;subst h3;exact h _ ((w7 p hz EO hl Z).1 hm)
 intro fuel
 induction fuel with
 |zero=> intro listed ic a w hz EO hl h;exact⟨(ahK _ _ hz EO hl).1 h.1,h.2⟩
 |succ fuel ih=>
  intro listed ic a w hz EO hl h;refine⟨fun h0=>h.1 ((ahK _ _ hz EO hl).2 h0),fun i hm=>?_⟩
  have hi:i<ops.size:=by
   grind [jr]
  have hh:=h.2 _ ((w7 p hz EO hl hi).2 hm)
  have Bc: ∀a w,wpAny P md (fP ord ops.toList).toArray Q fuel (ic.setIfInBounds (posOf ord i) true) a w->wpAny P md ops Q fuel (listed.setIfInBounds i true) a w:=by
   intro a w hw;refine ih _ _ a w (by simp [hz]) (by simp [EO]) (fun k hk=>?_) hw;rw [anp,anp];by_cases hik:i=k
   ·grind
   ·rw [af hik,af (fun h=>hik (p.inj hi hk h)),hl k hk]
  have Z:=wpOp_mono Bc hh;unfold wpOp at Z ⊢;rw [ann,nC p hi] at Z
  cases ho:ops[i]? with
  |none=>rw [ho] at Z; exact Z
  |some o=> rw [ho] at Z;simp only [alE] at Z ⊢;rw [JL p,Wq,M3] at Z;exact Z
structure Z9 where
 ord:List Nat
 h:L0
def Zm (tt:TT) (H:Nat->Nat->Option Z9) (call:eh) (g id:Nat) (all:List Oper) (s:St):T St:=match H g id with
 |some p=>match p.ord with
  |[]=>Eg tt call all (statOf all p.h) s
  |o::os=>match fP (o::os) all with
   |td=>Eg tt call td (statOf td p.h) s
 |none=> .fail
def afn (tt:TT) (H:Nat->Nat->Option Z9) (g id:Nat) (all:List Oper):Bool:=match H g id with
 |some p=>match p.ord with
  |[]=>uD tt all p.h
  |o::os=>HV (o::os) all.length&&uD tt (fP (o::os) all) p.h
 |none=>true
theorem Zl [bI] {tt:TT} (cJ:ew P tt) (hm:P.follows .mixedOrders=true) {H:Nat->Nat->Option Z9} {call:eh} (hc:gX P call) (g:Nat):vh P (afn tt H g) (Zm tt H call g):=by
 intro id ops hk E s s' a w Q hd fit h hq;unfold afn at hk;unfold Zm at h;split at hk
 ·rename_i p hp;rw [hp] at h;simp only at h;split at hk
  ·rename_i he;rw [he] at h;have:=Al hk;refine Y' cJ hm hc id ops E s s' a w Q hd fit ?_ hq
   grind [draw]
  ·rename_i o os he;rw [he] at h;simp only at h;simp only [an] at hk;have hp:=SO hk.1;have hp:Perm ops.size (o::os):=by simpa using hp
   have:=Al hk.2;refine wp_region_any hm ?_
   have DE: ∀x∈((fP (o::os) ops.toList).toArray).toList,∀d,x.dst=some d->d<a.tmps.size:=by
    intro x hx d hxd;obtain⟨j,hj,rfl⟩:=amr hx;have XE:j<ops.size:=by rw [<- ue hp]; exact hj
    obtain⟨i,_,Z,h3⟩:=hp.back j XE;have hg:=nC hp Z;rw [h3] at hg
    have hx2:(fP (o::os) ops.toList)[j]?=some ((fP (o::os) ops.toList).toArray.toList[j]):=by
     grind
    rw [hx2] at hg;rw [anE Z] at hg;simp only [alE,ag] at hg;rw [hg] at hxd;exact hd (ops[i]) ad d hxd
   have key:=Ef (ops:=(fP (o::os) ops.toList).toArray) cJ hc DE fit (by
    unfold draw;rw [this]
    exact h) hq
   have gW:(fP (o::os) ops.toList).toArray.size=ops.size:=by simpa using ue hp
   rw [gW] at key;refine Ml hp _ _ _ _ _ ad ad (fun i hi=>?_) key;rw [ams,ams,ah hi,ah (hp.lt hi)]
 grind [T.leaf]
end
end
end Go.As
end
section
namespace Go.As
noncomputable section
def FW (h:Hp):List Nat->Tr dG->Tr dG
 |[],t=>t
 |i::is,t=>match h.get i with
  |some o=>FW h is (t.put i (some o))
  |none=>FW h is t
theorem zP {h:Hp}: ∀(is:List Nat) (t:Tr dG),(∀id o,t.get id=some o->h.get id=some o)->∀id o,(FW h is t).get id=some o->h.get id=some o
 |[],_,ht,id,o,hg=>ht id o hg
 |i::is,t,ht,id,o,hg=>by
  simp only [FW] at hg;split at hg
  ·rename_i x hx;refine zP is _ (fun j y hy=>?_) id o hg
   grind [Tr.bR]
  ·exact zP is t ht id o hg
def zK:List (V×List W)->List (V×List W)->Bool
 |[],[]=>true
 |(i,a)::x,(j,b)::y=>eR i j&&hY a b&&zK x y
 |_,_=>false
theorem FG: ∀{a b:List (V×List W)},zK a b=true->a=b
 |[],[],_=>rfl
 |[],_::_,h=>by simp [zK] at h
 |_::_,[],h=>by simp [zK] at h
 |(i,a)::x,(j,b)::y,h=>by simp only [zK,an] at h;rw [cO _ _ h.1.1,fD _ _ h.1.2,FG h.2]
def HN:dG->dG->Bool
 | .cells a e,.cells b f=>hY a b&&Nat.beq e f
 | .vec a t e x,.vec b u f y=>eR a b&&Nat.beq t u&&Nat.beq e f&&zK x y
 |_,_=>false
theorem MZ {a b:dG} (h:HN a b=true):a=b:=by
 cases a<;>cases b<;>simp only [HN,aL,an] at h
 ·rw [fD _ _ h.1,aq h.2]
 ·rw [cO _ _ h.1.1.1,aq h.1.1.2,aq h.1.2,FG h.2]
def AU {α:Type} (f:α->α->Bool):Tr α->Tr α->Bool
 | .nil,.nil=>true
 | .node v l r,.node u x y=>(match v,u with |some a,some b=>f a b|none,none=>true|_,_=>false)&&AU f l x&&AU f r y
 |_,_=>false
theorem xW {α:Type} {f:α->α->Bool} (hf: ∀a b,f a b=true->a=b): ∀(a b:Tr α),AU f a b=true->a=b
 | .nil,b,h=>by cases b<;>simp [AU] at h; rfl
 | .node v l r,b,h=>by
   cases b with
   |nil=>simp [AU] at h
   |node u x y=>
    simp only [AU,an] at h;rw [xW hf l x h.1.2,xW hf r y h.2]
    grind
def inL (i:Nat):List Nat->Bool
 |[]=>false
 |j::l=>match Nat.beq i j with
  |true=>true
  |false=>inL i l
theorem Ip {i:Nat}: ∀{l:List Nat},inL i l=true↔i∈l
 |[]=>by simp [inL]
 |j::l=>by
  simp only [inL,ax];split
  ·rename_i h; simp [aq h]
  ·rename_i h; rw [Ip]; simp [amy h]
def rU (i:Nat):List Nat->List Nat
 |[]=>[]
 |j::l=>match Nat.beq i j with
  |true=>rU i l
  |false=>j::rU i l
theorem pO {i k:Nat}: ∀{l:List Nat},k∈rU i l↔k∈l/\k≠i
 |[]=>by simp [rU]
 |j::l=>by
  simp only [rU];split
  ·rename_i h;have:=aq h;subst this;rw [pO]
   grind
  ·rename_i h;have:=amy h;simp only [ax];rw [pO]
   grind
def Gc (all:List Oper) (rem:List Nat) (i:Nat):Bool:=match eT all i with
 |some o=>o.after.toList.all fun e=>!Region.binds .any e||(!inL e.on rem&&Nat.blt e.on all.length)
 |none=>false
def LM (tt:TT) (call:eh) (all:List Oper) (pc:List (SB×Bool)) (tS:Tr W) (tH:Hp):Nat->List Nat->Tr W->Hp->Bool
 |0,rem,S,H=>match rem with
  |[]=>AU eD S tS&&AU HN H.m tH.m&&Nat.beq H.next tH.next&&(match H.res with |none=>true|_=>false)
  |_=>false
 |n+1,rem,S,H=>match rem with
  |[]=>false
  |_=>rem.any (Gc all rem)&&rem.all fun i=>match Gc all rem i with
   |false=>true
   |true=>match eT all i with
    |some o=>match i_ tt call all o ⟨S,H,pc⟩ with
     | .ret (v,s')=>LM tt call all pc tS tH n (rU i rem) (tX S o.dst v) s'.h
     |_=>false
    |none=>false
section
variable {P:Program}
theorem V4 {E:En} {h:Array Obj} {S:Tr W} {a:Act} (sr:SR E h S a) {d:Option Nat} {v:W} {u:Value} (hd: ∀t,d=some t->t<a.tmps.size) (hv:VR E h v u):SR E h (tX S d v) (a.put d u):=by
 cases d with
 |none=>exact sr
 |some t=>exact sr.put (hd t rfl) hv
theorem ZS [bI] {tt:TT} (cJ:ew P tt) {call:eh} (hc:gX P call) {ops:Array Oper} {ρ:Nat->Int} {pc:List (SB×Bool)} (hpc:bW ρ pc) {tS:Tr W} {tH:Hp} (htr:tH.res=none) {Q:Exit->Act->World->Prop} {m:Nat} (hd: ∀o∈ops.toList,∀d,o.dst=some d->d<m) :
 ∀(n:Nat) (rem:List Nat) (S:Tr W) (H:Hp) (E:En) (a:Act) (w:World) (listed:Array Bool),LM tt call ops.toList pc tS tH n rem S H=true->E.ρ=ρ->bO E H w->SR E w.heap S a->a.tmps.size=m->listed.size=ops.size->
  (∀i,i<ops.size->(listed[i]?=some true↔i∉rem))->(∀i∈rem,i<ops.size)->
  (∀(a':Act) (w':World) (E':En),eN E H w E' tH w'->bO E' tH w'->SR E' w'.heap tS a'->a'.tmps.size=m->a'.defers=a.defers->Q .normal a' w')->wpAny P .any ops Q n listed a w:=by
 intro n;have mB: ∀(i:Nat),eT ops.toList i=ops[i]?:=fun i=>by rw [di,bu]
 have Wr: ∀(rem:List Nat) (listed:Array Bool),listed.size=ops.size->(∀i,i<ops.size->(listed[i]?=some true↔i∉rem))->∀i,i∈Region.ready .any ops listed->i∈rem/\Gc ops.toList rem i=true/\i<ops.size:=by
  intro rem listed gW hl i hi;obtain⟨o,ho,U,Z⟩:=jr.1 hi;have xH:i<ops.size:=(alK.1 ho).1
  have hf:listed[i]?=some false:=by simp_all
  refine⟨?_,?_,xH⟩
  ·grind
  ·unfold Gc;rw [mB,ho];simp only [aR];intro e he
   cases Y:Region.binds .any e with
   |false=>rfl
   |true=>
    have:=Z e he Y
    have ff:e.on<ops.size:=by
     grind
    simp only [amE,amG,an,alS];refine⟨?_,by simpa [amt] using ff⟩
    cases akw:inL e.on rem with
    |false=>rfl
    |true=> exfalso;have hm:=Ip.1 akw;simp_all
 have adS: ∀(rem:List Nat) (listed:Array Bool),listed.size=ops.size->(∀i,i<ops.size->(listed[i]?=some true↔i∉rem))->(∀i∈rem,i<ops.size)->rem.any (Gc ops.toList rem)=true->Region.ready .any ops listed≠[]:=by
  intro rem listed gW hl hr ait nF;rw [anq] at ait;obtain⟨i,hi,hm⟩:=ait;have xH:=hr i hi
  have:i∈Region.ready .any ops listed:=by
   rw [jr];unfold Gc at hm;rw [mB] at hm;split at hm
   ·rename_i o ho;refine⟨o,ho,?_,fun e he Y=>?_⟩
    ·have e1:listed[i]?=some (listed[i]'J):=by simp [gW,xH]
     simp only [amf,e1,az]
     grind
    ·rw [aR] at hm;have:=hm e he;rw [Y] at this;simp only [amE,amG,an,alS] at this;obtain⟨this,ff⟩:=this;have ff:e.on<ops.size:=by simpa [amt] using ff
     have aic:e.on∉rem:=fun h=>by rw [Ip.2 h] at this; simp at this
     simp_all
   grind
  grind
 induction n with
 |zero=>
  intro rem S H E a w listed h hρ r sr ha gW hl hr hq;simp only [LM] at h;split at h
  ·simp only [an] at h;obtain⟨⟨⟨U,Z⟩,h3⟩,h4⟩:=h;have e1:=xW jq _ _ U;have e2:=xW (fun _ _=>MZ) _ _ Z;have e3:=aq h3
   have e4:H.res=none:=by
    grind
   have eH:H=tH:=by
    obtain⟨m1,n1,r1⟩:=H;obtain⟨m2,n2,r2⟩:=tH
    grind
   subst e1 eH;refine⟨?_,hq a w E (eN.refl _ _ _) r sr ha rfl⟩;rw [amT];intro i hi;have:=(Wr [] listed gW hl i hi).1
   grind
  grind
 |succ n ih=>
  intro rem S H E a w listed h hρ r sr ha gW hl hr hq;simp only [LM] at h;split at h
  ·grind
  ·rename_i fX;simp only [an] at h;refine⟨fun h0=>absurd h0 (adS rem listed gW hl hr h.1),fun i hi=>?_⟩;obtain⟨g1,g2,g3⟩:=Wr rem listed gW hl i hi;have Is:=(aR.1 h.2) i g1;rw [g2] at Is;simp only at Is;split at Is
   ·rename_i o ho;have Aj:ops[i]?=some o:=by rw [<- mB]; exact ho
    split at Is
    ·rename_i v s' hev;have akK:=I4 cJ hc (ops:=ops) (o:=o) (s:=⟨S,H,pc⟩) (s':=s') (v:=v) (ρ:=ρ) hpc (by rw [hev]; rfl);refine akK.wpOp hρ r sr Aj fun u E' w' st r' hv=>?_
     have hdo: ∀t,o.dst=some t->t<a.tmps.size:=by intro t ht;rw [ha];exact hd o (Array.mem_toList_iff.2 (ank Aj)) t ht
     have sr':SR E' w'.heap (tX S o.dst v) (a.put o.dst u):=V4 (sr.bX (st.keeps r)) hdo hv;refine ih (rU i rem) _ _ E' (a.put o.dst u) w' (listed.setIfInBounds i true) Is (st.ρ.trans hρ) r' sr' (by rw [C3]; exact ha) (by simpa using gW) ?_ ?_ ?_
     ·intro k hk;rw [anp,pO]
      grind
     ·intro k hk;exact hr k (pO.1 hk).1
     ·intro a' w2 E2 tF r2 sr2 hs2 jM;exact hq a' w2 E2 (st.trans tF) r2 sr2 hs2 (by rw [jM,As.put_defers])
    grind
   grind
end
end
end Go.As
end
section
namespace Go.As
noncomputable section
def Eb (o:Oper) (j:Nat):Bool:=o.after.toList.any fun e=>Region.binds .any e&&Nat.beq e.on j
def HL (n1:Nat) (all:List Oper):Bool:=
 Nat.blt 0 n1&&Nat.ble n1 all.length&&
 (List.range all.length).all (fun j=>match eT all j with
  |some o=>match Nat.blt j n1 with
   |true=>(o.after.toList.all fun e=>!Region.binds .any e||Nat.blt e.on j)&&(match o.guard with |some (k,_)=>Nat.blt k n1|none=>true)
   |false=>Eb o (n1-1)
  |none=>false)&&
 (match eT all (n1-1) with
  |some o=>(List.range (n1-1)).all fun i=>Eb o i
  |none=>false)
structure O0 (n1:Nat) (ops:Array Oper):Prop where
 pos:0<n1
 le:n1<=ops.size
 back: ∀(i:Nat) (o:Oper),i<n1->ops[i]?=some o->∀e∈o.after.toList,Region.binds .any e=true->e.on<i
 guard: ∀(i:Nat) (o:Oper),i<n1->ops[i]?=some o->∀k b,o.guard=some (k,b)->k<n1
 late: ∀(i:Nat) (o:Oper),n1<=i->ops[i]?=some o->∃e∈o.after.toList,Region.binds .any e=true/\e.on=n1-1
 last: ∀(o:Oper),ops[n1-1]?=some o->∀i,i<n1-1->∃e∈o.after.toList,Region.binds .any e=true/\e.on=i
theorem G5 {o:Oper} {j:Nat} (h:Eb o j=true): ∃e∈o.after.toList,Region.binds .any e=true/\e.on=j:=by unfold Eb at h;rw [anq] at h;simp_all
theorem MU {n1:Nat} {ops:Array Oper} (h:HL n1 ops.toList=true):O0 n1 ops:=by
 have mB: ∀(i:Nat),eT ops.toList i=ops[i]?:=fun i=>by rw [di,bu]
 unfold HL at h;simp only [an] at h;obtain⟨⟨⟨U,Z⟩,h3⟩,h4⟩:=h;have U:0<n1:=by simpa [amt] using U
 have Z:n1<=ops.size:=by simpa using alO Z
 rw [aR] at h3
 have h3: ∀(i:Nat) (o:Oper),ops[i]?=some o->(match Nat.blt i n1 with
  |true=>(o.after.toList.all fun e=>!Region.binds .any e||Nat.blt e.on i)&&(match o.guard with |some (k,_)=>Nat.blt k n1|none=>true)
  |false=>Eb o (n1-1))=true:=by
  intro i o ho;have hi:i<ops.size:=(alK.1 ho).1;have:=h3 i (alR.2 (by simpa using hi));rw [mB,ho] at this;exact this
 refine⟨U,Z,?_,?_,?_,?_⟩
 ·intro i o hi ho e he Y;have:=h3 i o ho;rw [show Nat.blt i n1=true by simpa [amt] using hi] at this;simp only [an] at this;have:=(aR.1 this.1) e he;simp_all
 ·intro i o hi ho k b hg;have:=h3 i o ho;rw [show Nat.blt i n1=true by simpa [amt] using hi] at this;simp_all
 ·intro i o hi ho;have:=h3 i o ho
  rw [show Nat.blt i n1=false by
   cases Y:Nat.blt i n1 with
   |false=>rfl
   |true=>rw [amt] at Y; omega] at this
  exact G5 this
 ·intro o ho i hi;rw [mB,ho] at h4;exact G5 ((aR.1 h4) i (alR.2 hi))
section
variable {P:Program}
theorem wp_exit {o:Oper} {a:Act} {w:World} {K:Act->World->Prop} {Q1 Q:Exit->Act->World->Prop} (h: ∀e a w,e≠.normal->Q1 e a w->Q e a w) (hh:o.wp P a w K Q1):o.wp P a w K Q:=by
 have hl:LetsOut Q1->LetsOut Q:=fun⟨a,w,U⟩=> ⟨a,w,h _ _ _ ad U⟩;unfold Oper.wp at *;generalize (execOp a.eval o).run P w=r at *
 cases r with
 |ok n w'=>
  cases n<;>simp only [Oper.upon] at hh ⊢<;>
   first
    |exact hh
    |exact Calls.mono hh (fun e w'' he=>by cases e<;>first |exact he|exact h _ _ _ ad he|exact hl he)
 |halt x w'=>cases x<;>simp only [Oper.upon] at hh ⊢<;>first |exact hh|exact h _ _ _ ad hh
theorem Ku {l l':Nat->Bool} {i:Nat} (U:l i=false) (Z:l' i=true) (h: ∀j,j≠i->l' j=l j): ∀n,i<n->left l' n+1=left l n
 |0,hi=>by omega
 |n+1,hi=>by
  simp only [left];by_cases xH:i=n
  ·subst xH
   have: ∀m,m<=i->left l' m=left l m:=by
    intro m
    induction m with
    |zero=>intro _; rfl
    |succ m ih=>
     intro hm
     grind [left]
   grind
  ·have:=Ku U Z h n J
   grind
theorem Kv {l:Nat->Bool}: ∀n,(∀i,i<n->l i=true)->left l n=0
 |0,_=>rfl
 |n+1,h=>by simp only [left];rw [Kv n (fun i hi=>h i J),h n J];rfl
def uS (n1 n:Nat):Array Bool:=(Array.range n).map fun i=>decide (i<n1)
theorem JJ {n1:Nat} {ops:Array Oper} (sf:O0 n1 ops) {Q Q1:Exit->Act->World->Prop} (hq: ∀e a w,e≠.normal->Q1 e a w->Q e a w) (hn: ∀a w,Q1 .normal a w->wpAny P .any ops Q (ops.size-n1) (uS n1 ops.size) a w) :
 ∀(f:Nat) (l1 l:Array Bool) (a:Act) (w:World),l1.size=n1->l.size=ops.size->(∀i,i<n1->l[i]?=l1[i]?)->(∀i,n1<=i->i<ops.size->l[i]?=some false)->left (fun i=>l1.getD i true) n1=f->(l1[n1-1]?=some true->f=0)->
  wpAny P .any (ops.toList.take n1).toArray Q1 f l1 a w->wpAny P .any ops Q (f+(ops.size-n1)) l a w:=by
 have hR: ∀i,i<n1->(ops.toList.take n1).toArray[i]?=ops[i]?:=by
  intro i hi
  grind
 have hRs:(ops.toList.take n1).toArray.size=n1:=by
  have:=sf.le
  grind
 have pE:LetsOut Q1->LetsOut Q:=fun⟨a,w,U⟩=> ⟨a,w,hq _ _ _ ad U⟩
 have uE: ∀(l:Array Bool) (i:Nat),i<l.size->(l.getD i true=true↔l[i]?=some true)/\(l.getD i false=true↔l[i]?=some true):=by intro l i hi;simp_all
 intro f
 induction f with
 |zero=>
  intro l1 l a w U Z h3 h4 h5 h6 hw;have An:=Ad n1 h5
  have:l=uS n1 ops.size:=by
   grind [uS]
  rw [this,ay];exact hn a w hw.2
 |succ f ih=>
  intro l1 l a w U Z h3 h4 h5 h6 hw;rw [show f+1+(ops.size-n1)=(f+(ops.size-n1))+1 by omega];have hle:=sf.le;have lr:=sf.pos;have abE:l1[n1-1]?=some true->False:=fun h=>by have:=h6 h; omega
  refine⟨fun nF=>?_,fun i hi=>?_⟩
  ·exfalso
   have An: ∀i,i<n1->l[i]?=some true:=by
    intro i
    induction i using Nat.strongRecOn with
    |_ i vI=>
     intro hi;apply Classical.byContradiction;intro Gx;have hio:ops[i]?=some (ops[i]'J):=ad
     have:i∈Region.ready .any ops l:=by
      rw [jr];refine⟨_,hio,?_,fun e he Y=>?_⟩
      ·grind
      ·have ff:=sf.back i _ hi hio e he Y
       grind
     grind
   grind
  ·obtain⟨o,ho,g1,g2⟩:=jr.1 hi;have xH:i<ops.size:=(alK.1 ho).1
   have hi1:i<n1:=by
    rcases aQ i n1 with h|h
    ·exact h
    ·exfalso;obtain⟨e,e1,e2,e3⟩:=sf.late i o h ho
     grind
   have Ak:l1.getD i true=false:=by
    grind
   have hed: ∀e∈o.after.toList,Region.binds .any e=true->l1.getD e.on false=true:=by
    intro e he Y
    grind
   have hr1:i∈Region.ready .any (ops.toList.take n1).toArray l1:=by
    rw [jr]
    grind
   have zu:=hw.2 i hr1
   have abB: ∀a w,wpAny P .any (ops.toList.take n1).toArray Q1 f (l1.setIfInBounds i true) a w->wpAny P .any ops Q (f+(ops.size-n1)) (l.setIfInBounds i true) a w:=by
    intro a w hw2
    have QJ:left (fun j=>(l1.setIfInBounds i true).getD j true) n1=f:=by
     have:=Ku (l:=fun j=>l1.getD j true) (l':=fun j=>(l1.setIfInBounds i true).getD j true) (i:=i) Ak (by
      simp only [amf,Array.getElem?_setIfInBounds_self]
      split<;>rfl) (fun j hj=>by
      simp only [amf]
      rw [Array.getElem?_setIfInBounds_ne (fun e=>hj e.symm)]) n1 hi1
     omega
    refine ih _ _ a w (by simpa using U) (by simpa using Z) (fun k hk=>?_) (fun k hk1 Cc=>?_) QJ (fun ff=>?_) hw2
    ·grind
    ·grind
    ·by_cases ei:i=n1-1
     ·rw [<- QJ];refine Kv n1 fun k hk=>?_;by_cases Cc:k=i
      ·grind
      ·obtain⟨e,e1,e2,e3⟩:=sf.last o (by rw [<- ei]; exact ho) k J
       grind
     grind
   have zu:=wpOp_mono abB zu;unfold wpOp at zu ⊢;rw [hR i hi1,ho] at zu;rw [ho];simp only at zu ⊢
   have ah1:Region.wanted o (yielded (ops.toList.take n1).toArray a.tmps)=Region.wanted o (yielded ops a.tmps):=by
    unfold Region.wanted
    cases hg:o.guard with
    |none=>rfl
    |some g=>
     obtain⟨k,b⟩:=g;simp only;have:=sf.guard i o hi1 ho k b hg;unfold yielded
     grind
   rw [ah1] at zu;split
   ·rename_i hwt;rw [ah hwt] at zu;rcases zu with h|⟨h,h'⟩
    ·exact .inl (wp_exit hq h)
    grind
   grind
end
end
end Go.As
end
section
namespace Go.As
noncomputable section
def CZ (n1 n:Nat):List Nat:=(List.range (n-n1)).map fun k=>k+n1
def ahw:W->List Nat
 | .ptr i _=>[i]
 | .slice i _ _ _=>[i]
 |_=>[]
def aem (S:Tr W):List Nat->List Nat
 |[]=>[]
 |t::ts=>match S.get t with
  |some v=>ahw v++aem S ts
  |none=>aem S ts
def P8 (all:List Oper) (S:Tr W):List Nat->List Nat
 |[]=>[]
 |i::is=>match eT all i with
  |some o=>aem S (Db o.op)++P8 all S is
  |none=>P8 all S is
def V9 (tt:TT) (call:eh) (all:List Oper) (pc:List (SB×Bool)):List Nat->Tr W->Hp->Option (Tr W×Hp)
 |[],S,H=>some (S,H)
 |i::is,S,H=>match eT all i with
  |some o=>match i_ tt call all o ⟨S,H,pc⟩ with
   | .ret (v,s')=>V9 tt call all pc is (tX S o.dst v) s'.h
   |_=>none
  |none=>none
def Jc (tt:TT) (call:eh) (all:List Oper) (n1:Nat) (s1:St):T St:=
 match s1.h.res with
 |some _=> .fail
 |none=>match (⟨FW s1.h (P8 all s1.bE (CZ n1 all.length)) .nil,s1.h.next,none⟩ : Hp) with
  |small=>match V9 tt call all s1.pc (CZ n1 all.length) s1.bE small with
   |some (S,H)=>match H.res with
    |none=>match Nat.beq H.next s1.h.next&&LM tt call all s1.pc S H (all.length-n1) (CZ n1 all.length) s1.bE small with
     |true=> .ret ⟨S,⟨Tr.over H.m (Tr.minus small.m s1.h.m),s1.h.next,none⟩,s1.pc⟩
     |false=> .fail
    |some _=> .fail
   |none=> .fail
structure zq where
 ord:List Nat
 n1:Nat
 h:L0
def Bw (tt:TT) (H:Nat->Nat->Option zq) (call:eh) (g id:Nat) (all:List Oper) (s:St):T St:=match H g id with
 |some p=>match p.n1 with
  |0=>match p.ord with
   |[]=>Eg tt call all (statOf all p.h) s
   |o::os=>match fP (o::os) all with
    |td=>Eg tt call td (statOf td p.h) s
  |n1=>(Eg tt call (all.take n1) (statOf (all.take n1) p.h) s).bind (Jc tt call all n1)
 |none=> .fail
def Jk (tt:TT) (H:Nat->Nat->Option zq) (g id:Nat) (all:List Oper):Bool:=match H g id with
 |some p=>match p.n1 with
  |0=>match p.ord with
   |[]=>uD tt all p.h
   |o::os=>HV (o::os) all.length&&uD tt (fP (o::os) all) p.h
  |n1=>HL n1 all&&uD tt (all.take n1) p.h
 |none=>true
section
variable {P:Program}
theorem Gb {n1 n i:Nat} (h:n1<=n):i∈CZ n1 n↔n1<=i/\i<n:=by
 unfold CZ;rw [aT];constructor
 ·rintro⟨k,hk,rfl⟩
  grind
 ·rintro⟨U,Z⟩;exact⟨i-n1,alR.2 J,J⟩
theorem S2 (n:Nat): ∀m,m<=n->left (fun i=>(Array.replicate n false).getD i true) m=m:=by
 intro m
 induction m with
 |zero=>intro _; rfl
 |succ m ih=>
  intro hm;have ff:m<n:=J
  simp only [left];rw [ih J];simp [ff]
theorem ON [bI] {tt:TT} (cJ:ew P tt) {call:eh} (hc:gX P call) {ops:Array Oper} {n1:Nat} (sf:O0 n1 ops) {E:En} {s s1 s':St} {a a1:Act} {w w1:World} {Q:Exit->Act->World->Prop}
 (hd: ∀o∈ops.toList,∀d,o.dst=some d->d<a.tmps.size) (ht:mE E s a w s1 a1 w1) (h:(Jc tt call ops.toList n1 s1).leaf E.ρ=some s') (hq: ∀a' w',mE E s a w s' a' w'->Q .normal a' w') :
 wpAny P .any ops Q (ops.size-n1) (uS n1 ops.size) a1 w1:=by
 obtain⟨d1,z1,E1,CM,f1⟩:=ht;have hlen:ops.toList.length=ops.size:=bj;unfold Jc at h;split at h
 ·simp [T.leaf] at h
 ·rename_i xp;simp only at h;split at h
  ·rename_i S H alv;split at h
   ·rename_i hHr;split at h
    ·rename_i An;simp only [an] at An;have hnx:=aq An.1;have:=bC h;subst this
     have lY: ∀id o,(⟨FW s1.h (P8 ops.toList s1.bE (CZ n1 ops.toList.length)) .nil,s1.h.next,none⟩ : Hp).get id=some o->s1.h.get id=some o:=
      fun id o hg=>zP _ _ (fun _ _ hh=>by simp [Tr.get] at hh) id o hg
     have rs:=f1.rel.part lY (au _) ad;have hpc:bW E1.ρ s1.pc:=f1.pc;have NN:=An.2;rw [hlen] at NN;refine ZS cJ hc (ops:=ops) (ρ:=E1.ρ) (pc:=s1.pc) hpc hHr (m:=a.tmps.size) hd (ops.size-n1) (CZ n1 ops.size) s1.bE _ E1 a1 w1 (uS n1 ops.size) NN rfl (by rw [hlen] at rs; exact rs) f1.sr z1 (by simp [uS]) ?_ ?_ ?_
     ·intro i hi;rw [Gb sf.le];unfold uS
      grind
     ·intro i hi;exact ((Gb sf.le).1 hi).2
     ·intro a2 w2 E2 tF r2 sr2 z2 d2;rw [hlen] at lY;obtain⟨Hc,e0,_,_,r3,JT⟩:=XU f1.rel lY tF r2 s1.h.next (fun id hid=>r2.fresh id J)
      have ek:=JT.VZ (by rw [e0]; exact au _) (by rw [e0]) (fun id tu=>by
       rcases tF.Zn id tu with U|U|U
       ·exact .inl U
       ·have Ua:s1.h.next<=id/\id<H.next:=U;omega
       ·simp at U)
      subst e0;refine hq a2 w2 ⟨d2.trans d1,z2,E2,CM.trans ?_,?_⟩
      ·grind
      ·refine⟨by rw [hlen]; exact r3,sr2,?_⟩;show bW E2.ρ s1.pc;rw [tF.ρ]
       grind
    ·simp [T.leaf] at h
   ·simp [T.leaf] at h
  ·simp [T.leaf] at h
theorem rJ [bI] {tt:TT} (cJ:ew P tt) (hm:P.follows .mixedOrders=true) {H:Nat->Nat->Option zq} {call:eh} (hc:gX P call) (g:Nat):vh P (Jk tt H g) (Bw tt H call g):=by
 intro id ops hk E s s' a w Q hd fit h hq;unfold Jk at hk;unfold Bw at h;split at hk
 ·rename_i p hp;rw [hp] at h;simp only at h;split at hk
  ·rename_i hn;rw [hn] at h;simp only at h
   have hP:=Zl (P:=P) cJ hm (H:=fun _ _=>some ⟨p.ord,p.h⟩) hc g id ops (by
    unfold afn
    exact hk) E s s' a w Q hd fit (by
    unfold Zm
    exact h) hq
   exact hP
  ·rename_i n1 hn;split at h
   ·rename_i h0
    grind
   ·rename_i n1' _;simp only [an] at hk;have sf:=MU hk.1;have Cb:=Al hk.2;obtain⟨s1,U,Z⟩:=T.eZ h;refine wp_region_any hm ?_;have hle:=sf.le;have hRs:(ops.toList.take p.n1).toArray.size=p.n1:=by simp; omega
    have xr: ∀o∈(ops.toList.take p.n1).toArray.toList,∀d,o.dst=some d->d<a.tmps.size:=by
     intro o ho
     grind
    have key:=Ef (P:=P) (ops:=(ops.toList.take p.n1).toArray) (Q:=fun e a' w'=>match e with | .normal=>wpAny P .any ops Q (ops.size-p.n1) (uS p.n1 ops.size) a' w'|e=>Q e a' w') cJ hc xr fit (s':=s1) (by
     unfold draw;rw [List.toList_toArray,Cb]
     exact U) (fun a' w' ht=>ON cJ hc sf hd ht Z hq)
    rw [hRs] at key
    have:=JJ sf (Q:=Q) (fun e a w fX hh=>by
     cases e with
     |normal=>exact absurd rfl fX
     |_=>exact hh) (fun a w hh=>hh) p.n1 (Array.replicate p.n1 false) (Array.replicate ops.size false) a _ ad ad (fun i hi=>by
     rw [ams,ams,ah hi,ah J]) (fun i _ hi=>by
     rw [ams,ah hi]) (by
     exact S2 p.n1 p.n1 (au _)) (fun hh=>by
     rw [ams,ah (by have:=sf.pos; omega)] at hh
     simp at hh) key
    grind
 ·rename_i hh;rw [hh] at h;simp [T.leaf] at h
end
end
end Go.As
end
section
namespace Go.As
noncomputable section
def Gi {α:Type} (n:Nat) (t:Tr α) (k:Nat):Option α:=match Nat.ble n k with
 |true=>none
 |false=>t.get k
theorem PQ {α:Type} {n:Nat} {t:Tr α} {f:Nat->Option α} (h:(List.range n).map t.get=(List.range n).map f) {k:Nat} {x:α} (hk:Gi n t k=some x):f k=some x:=by
 unfold Gi at hk;split at hk
 ·grind
 ·rename_i hle
  have ff:k<n:=by
   have: ¬(n<=k):=by
    intro h;rw [amI h] at hle
    grind
   omega
  have:=congrArg (fun l=>l[k]?) h
  grind
section
variable {P:Program}
theorem t? {n:Nat} {tab:Tr TI} (h:(List.range n).map tab.get=(List.range n).map (w! P)):ew P (Gi n tab):=fun _ _ hk=>w_ (PQ h hk)
def adY (qi:Nat->List Oper->Bool) (f:Func):Bool:=!(f.name == "runtime.NumGoroutine")&&(match f.body with |some c=>jG qi f.ntmps c|none=>true)
def hAt {α:Type} (t:Tr (Tr α)) (g id:Nat):Option α:=match t.get g with
 |some u=>u.get id
 |none=>none
theorem S! {n:Nat} {Iy:Tr Func} (h:(List.range n).map Iy.get=(List.range n).map (fun g=>P.funcs[g]?)) {qi:Nat->Nat->List Oper->Bool} (hc:(List.range n).all (fun g=>match Iy.get g with |some f=>adY (qi g) f|none=>true)=true):T0 P qi (Gi n Iy):=by
 intro g fn hk;have U:=PQ h hk;refine⟨U,?_⟩
 have ff:g<n:=by
  unfold Gi at hk;split at hk
  ·grind
  ·rename_i hle;rcases aQ g n with h|h
   ·exact h
   ·rw [amI h] at hle; simp at hle
 have uE:Iy.get g=some fn:=by
  unfold Gi at hk
  grind
 have:=aR.1 hc g (alR.2 ff);rw [uE] at this;simp only [adY,an,alS] at this
 grind
end
end
end Go.As
end
section
namespace Go.As
noncomputable section
structure Ren where
 ns:List V
 bl:List Nat
 sh:List Nat
def Ren.se (r:Ren):V->V
 | .lit n=> .lit n
 | .du i=>match eT r.ns i with |some e=>e|none=> .du i
 | .add a b=> .add (r.se a) (r.se b)
 | .sub a b=> .sub (r.se a) (r.se b)
 | .mul a b=> .mul (r.se a) (r.se b)
 | .quo a b=> .quo (r.se a) (r.se b)
 | .rem a b=> .rem (r.se a) (r.se b)
 | .wrap k a=> .wrap k (r.se a)
 | .wi b e=> .wi b (r.se e)
 | .eo d=> .eo d
 | .op o a b=>match o with
   | .len=>dN (r.se a)
   |o=> .op o (r.se a) (r.se b)
 | .ap f a=> .ap f (r.se a)
def Ren.sb (r:Ren):SB->SB
 | .lit b=> .lit b
 | .lt a b=>gV (r.se a) (r.se b)
 | .le a b=> .le (r.se a) (r.se b)
 | .eq a b=>qp (r.se a) (r.se b)
 | .not s=> .not (r.sb s)
 | .and a b=> .and (r.sb a) (r.sb b)
def Ren.id (r:Ren) (i:Nat):Nat:=match eT r.bl i with |some j=>j|none=>0
def Ren.tG (r:Ren) (i:Nat):Nat:=match eT r.sh i with |some j=>j|none=>0
mutual
def Ren.av (r:Ren):W->W
 | .bool b=> .bool (r.sb b)
 | .int k e=> .int k (r.se e)
 | .str s=> .str s
 | .ptr i o=> .ptr (r.id i) (r.tG i+o)
 | .tI=> .tI
 | .mU cs=> .mU (r.BN cs)
 | .slice i o l c=> .slice (r.id i) (r.tG i+o) l c
 | .eg=> .eg
 | .ro cs n f=> .ro (r.BN cs) n f
 | .map i=> .map (r.id i)
 | .rq=> .rq
 | .func f a b=> .func f (r.BN a) (r.BN b)
 | .we=> .we
 | .iface t v=> .iface t (r.av v)
 | .xe=> .xe
 | .agg cs=> .agg (r.BN cs)
 | .tuple cs=> .tuple (r.BN cs)
 | .Kh i=> .Kh i
 | .wi k ks=> .wi k ks
 | .emp=> .emp
 | .eo e t=> .eo (r.se e) t
 | .jy e=> .jy (r.se e)
 | .oL i n t=>match r.tG i with
   |0=> .oL (r.id i) (r.se n) t
   |_=> .Kh 0
 | .zd i es x o=>match r.tG i with
   |0=> .zd (r.id i) es (r.se x) o
   |_=> .Kh 0
 | .tE i lo n t=>match r.tG i with
   |0=> .tE (r.id i) (r.se lo) (r.se n) t
   |_=> .Kh 0
 | .any=> .any
 | .wR z t=> .wR (r.se z) t
def Ren.BN (r:Ren):List W->List W
 |[]=>[]
 |x::xs=>r.av x::r.BN xs
end
mutual
def lj (n:Nat):W->Bool
 | .ptr i _=>Nat.blt i n
 | .slice i _ _ _=>Nat.blt i n
 | .map i=>Nat.blt i n
 | .oL i _ _=>Nat.blt i n
 | .zd i _ _ _=>Nat.blt i n
 | .tE i _ _ _=>Nat.blt i n
 | .mU cs=>nU n cs
 | .ro cs _ _=>nU n cs
 | .func _ a b=>nU n a&&nU n b
 | .iface _ v=>lj n v
 | .agg cs=>nU n cs
 | .tuple cs=>nU n cs
 |_=>true
def nU (n:Nat):List W->Bool
 |[]=>true
 |x::xs=>lj n x&&nU n xs
end
def Ren.env (r:Ren) (ρ:Nat->Int) (i:Nat):Int:=match eT r.ns i with |some e=>e.den ρ|none=>ρ i
theorem F6 {α:Type}: ∀{l:List α} {i:Nat},l.length<=i->eT l i=none
 |[],_,_=>rfl
 |_::_,0,h=>by simp at h
 |_::l,i+1,h=>by simp only [eT]; exact F6 (by simpa using h)
theorem Ren.lA {r:Ren} (h:r.ns.length<=900) {ρ:Nat->Int} {i:Nat} (hi:900<=i):r.env ρ i=ρ i:=by
 grind [Ren.env,F6]
theorem Ren.ef {r:Ren} (h:r.ns.length<=900) (ρ:Nat->Int): ∀e:V,(r.se e).den ρ=e.den (r.env ρ)
 | .lit n=>rfl
 | .du i=>by simp only [Ren.se,V.den,Ren.env];split<;>rfl
 | .add a b=>by simp only [Ren.se,V.den,Ren.ef h ρ a,Ren.ef h ρ b]
 | .sub a b=>by simp only [Ren.se,V.den,Ren.ef h ρ a,Ren.ef h ρ b]
 | .mul a b=>by simp only [Ren.se,V.den,Ren.ef h ρ a,Ren.ef h ρ b]
 | .quo a b=>by simp only [Ren.se,V.den,Ren.ef h ρ a,Ren.ef h ρ b]
 | .rem a b=>by simp only [Ren.se,V.den,Ren.ef h ρ a,Ren.ef h ρ b]
 | .wrap k a=>by simp only [Ren.se,V.den,Ren.ef h ρ a]
 | .wi b e=>by simp only [Ren.se,V.den,Ren.ef h ρ e];rw [Ren.lA h J]
 | .eo d=>rfl
 | .op o a b=>by
   cases o with
   |len=> simp only [Ren.se,cC,Ren.ef h ρ a];simp [V.den,fc.den]
   |_=>simp only [Ren.se,V.den,Ren.ef h ρ a,Ren.ef h ρ b]
 | .ap f a=>by simp only [Ren.se,V.den,Ren.ef h ρ a];rw [Ren.lA h (by unfold iQ; omega)]
theorem Ren.zH {r:Ren} (h:r.ns.length<=900) (ρ:Nat->Int): ∀c:SB,(r.sb c).den ρ=c.den (r.env ρ)
 | .lit b=>rfl
 | .lt a b=>by simp only [Ren.sb,dQ,SB.den,Ren.ef h]
 | .le a b=>by simp only [Ren.sb,SB.den,Ren.ef h]
 | .eq a b=>by simp only [Ren.sb,gv,SB.den,Ren.ef h]
 | .not s=>by simp only [Ren.sb,SB.den,Ren.zH h ρ s]
 | .and a b=>by simp only [Ren.sb,SB.den,Ren.zH h ρ a,Ren.zH h ρ b]
def En.gA (E:En) (r:Ren):En:={ ρ:=r.env E.ρ,θ:=fun i=>((E.θ (r.id i)).1,(E.θ (r.id i)).2+r.tG i),κ:=fun i=>E.κ (r.id i)-r.tG i,dm:=fun i=>i<r.bl.length/\E.dm (r.id i),ro:=E.ro,hd:=E.hd }
theorem xD {i n:Nat} (h:Nat.blt i n=true):i<n:=by simp_all
mutual
theorem VR.gA {E:En} {r:Ren} {h:Array Obj} (hl:r.ns.length<=900): ∀(x:W) (u:Value),lj r.bl.length x=true->VR E h (r.av x) u->VR (E.gA r) h x u
 | .bool b,u,_,hv=>by simp only [Ren.av,VR,En.gA,Ren.zH hl] at *; exact hv
 | .int k e,u,_,hv=>by simp only [Ren.av,VR,En.gA,Ren.ef hl] at *; exact hv
 | .str s,u,_,hv=>by simp only [Ren.av,VR] at *; exact hv
 | .ptr i o,u,hi,hv=>by simp only [Ren.av,VR,En.gA,lj] at *; exact⟨by rw [hv.1,alF],xD hi,hv.2⟩
 | .tI,u,_,hv=>by simp only [Ren.av,VR] at *; exact hv
 | .mU cs,u,hi,hv=>by simp only [Ren.av,VR,lj] at *;obtain⟨b,o,us,U,Z,h3,h4⟩:=hv;exact⟨b,o,us,U,Z,cA.gA hl cs us hi h3,h4⟩
 | .slice i o l c,u,hi,hv=>by
   simp only [Ren.av,VR,lj] at *;obtain⟨U,a,cap,Z,h3,h4⟩:=hv;refine⟨⟨xD hi,U⟩,a,cap,Z,h3,?_⟩
   cases c with
   |exact k=>
    simp only [eF,En.gA] at *
    grind
   |rest es=>
    simp only [eF,En.gA] at *
    grind
 | .eg,u,_,hv=>by simp only [Ren.av,VR] at *; exact hv
 | .ro cs n f,u,hi,hv=>by simp only [Ren.av,VR,lj] at *;obtain⟨b,o,cap,us,U,Z,h3,h4,h5,h6⟩:=hv;exact⟨b,o,cap,us,U,Z,h3,h4,cA.gA hl cs us hi h5,h6⟩
 | .map i,u,hi,hv=>by simp only [Ren.av,VR,En.gA,lj] at *; exact⟨hv.1,xD hi,hv.2⟩
 | .rq,u,_,hv=>by simp only [Ren.av,VR] at *; exact hv
 | .func f a b,u,hi,hv=>by simp only [Ren.av,VR,lj,an] at *;obtain⟨us,ws,U,Z,h3⟩:=hv;exact⟨us,ws,U,cA.gA hl a us hi.1 Z,cA.gA hl b ws hi.2 h3⟩
 | .we,u,_,hv=>by simp only [Ren.av,VR] at *; exact hv
 | .iface t v,u,hi,hv=>by simp only [Ren.av,VR,lj] at *;obtain⟨y,U,Z⟩:=hv;exact⟨y,U,VR.gA hl v y hi Z⟩
 | .xe,u,_,hv=>by simp only [Ren.av,VR] at *; exact hv
 | .agg cs,u,hi,hv=>by simp only [Ren.av,VR,lj] at *;obtain⟨us,U,Z⟩:=hv;exact⟨us,U,cA.gA hl cs us hi Z⟩
 | .tuple cs,u,hi,hv=>by simp only [Ren.av,VR,lj] at *;obtain⟨us,U,Z⟩:=hv;exact⟨us,U,cA.gA hl cs us hi Z⟩
 | .Kh i,u,_,hv=>by simp only [Ren.av,VR] at hv
 | .wi k ks,u,_,hv=>by
   simp only [Ren.av,VR,En.gA] at *;rw [Ren.lA hl J];rcases hv with hv|⟨b,o,n,cap,U,Z,h3,h4,h5⟩
   ·grind
   ·refine .inr ⟨b,o,n,cap,U,Z,h3,h4,fun i j kd hi hj=>?_⟩;rw [Ren.lA hl J]
    grind
 | .emp,u,_,hv=>by simp only [Ren.av,VR] at *; exact hv
 | .eo e t,u,_,hv=>by simp only [Ren.av,VR,En.gA,Ren.ef hl] at *; exact hv
 | .jy e,u,_,hv=>by simp only [Ren.av,VR,En.gA,Ren.ef hl] at *; exact hv
 | .oL i n t,u,hi,hv=>by
   simp only [Ren.av] at hv;split at hv
   ·rename_i hs;simp only [VR,En.gA,lj,Ren.ef hl] at *;obtain⟨U,k,a,cap,Z,h3,h4,h5⟩:=hv;refine⟨⟨xD hi,U⟩,k,a,cap,Z,h3,h4,?_⟩;simp only [eF,hs] at *
    grind
   ·simp [VR] at hv
 | .any,u,_,_=>by simp only [VR]
 | .wR z t,u,_,hv=>by simp only [Ren.av,VR,En.gA,Ren.ef hl] at *; exact hv
 | .tE i lo n t,u,hi,hv=>by
   simp only [Ren.av] at hv;split at hv
   ·rename_i hs;simp only [VR,En.gA,lj,Ren.ef hl] at *;obtain⟨U,l,k,a,cap,Z,h3,h4,h5,h6⟩:=hv;refine⟨⟨xD hi,U⟩,l,k,a,cap,Z,h3,h4,h5,?_⟩;simp only [eF,hs] at *
    grind
   ·simp [VR] at hv
 | .zd i es x o,u,hi,hv=>by
   simp only [Ren.av] at hv;split at hv
   ·rename_i hs;simp only [VR,En.gA,lj,Ren.ef hl] at *;obtain⟨U,k,Z,h3⟩:=hv;exact⟨⟨xD hi,U⟩,k,Z,by rw [h3,hs,bg]⟩
   ·simp [VR] at hv
theorem cA.gA {E:En} {r:Ren} {h:Array Obj} (hl:r.ns.length<=900): ∀(xs:List W) (us:List Value),nU r.bl.length xs=true->cA E h (r.BN xs) us->cA (E.gA r) h xs us
 |[],us,_,hv=>by simp only [Ren.BN,cA] at *; exact hv
 |x::xs,us,hi,hv=>by simp only [Ren.BN,cA,nU,an] at *;obtain⟨u,vs,U,Z,h3⟩:=hv;exact⟨u,vs,U,VR.gA hl x u hi.1 Z,cA.gA hl xs vs hi.2 h3⟩
end
theorem aar {E:En} {r:Ren} {h:Array Obj} {xs ys:List W} {us:List Value} (hs:hY (r.BN xs) ys=true) (hv:cA E h ys us):cA E h (r.BN xs) us:=by
 grind [fD]
def ri (r:Ren):List (W×W×Nat)->List (W×W×Nat)->Bool
 |[],[]=>true
 |(k,v,_)::xs,(k',v',_)::ys=>match eD (r.av k) k' with
  |true=>match eD (r.av v) v' with
   |true=>ri r xs ys
   |false=>false
  |false=>false
 |_,_=>false
def I5 (n:Nat):List (W×W×Nat)->Bool
 |[]=>true
 |(k,v,_)::xs=>lj n k&&lj n v&&I5 n xs
def Kg (n:Nat):List (V×List W)->Bool
 |[]=>true
 |(_,cs)::l=>nU n cs&&Kg n l
def mj (r:Ren):List (V×List W)->List (V×List W)->Bool
 |[],[]=>true
 |(i,a)::x,(j,b)::y=>eR (r.se i) j&&hY (r.BN a) b&&mj r x y
 |_,_=>false
def K3 (n:Nat):List (V×W)->Bool
 |[]=>true
 |(_,v)::l=>lj n v&&K3 n l
def ml (r:Ren):List (V×W)->List (V×W)->Bool
 |[],[]=>true
 |(i,a)::x,(j,b)::y=>eR (r.se i) j&&eD (r.av a) b&&ml r x y
 |_,_=>false
def Kj (n:Nat):dG->Bool
 | .qS _ _ _ ov=>K3 n ov
 | .vec _ _ _ ov=>Kg n ov
 | .cells cs _=>nU n cs
 | .map es _=>I5 n es
 | .jP _ _=>true
 | .jh _ _ _ _=>false
 | .jJ _ _=>true
def dX (r:Ren) (k:Nat):dG->dG->Bool
 | .cells cs e,.cells ds f=>match Nat.beq e f with
   |true=>match eE k ds with
    |some ds=>hY (r.BN cs) ds
    |none=>false
   |false=>false
 | .map es k,.map fs _=>ri r es fs&&Nat.beq k 0
 | .jP s p,.jP t q=>gC s t&&Nat.beq p q&&Nat.beq k 0
 | .jJ e t,.jJ e' t'=>eR (r.se e) e'&&Nat.beq t t'&&Nat.beq k 0
 | .qS e t eS ov,.qS e' t' agx iD=>eR (r.se e) e'&&Nat.beq t t'&&decide (eS=agx)&&ml r ov iD&&Nat.beq k 0
 | .vec e t ty ov,.vec e' t' US iD=>eR (r.se e) e'&&Nat.beq t t'&&Nat.beq ty US&&mj r ov iD&&Nat.beq k 0
 |_,_=>false
theorem eC.gA {E:En} {r:Ren} {h:Array Obj} (hl:r.ns.length<=900): ∀{xs ys:List (W×W×Nat)} {es:List MapEntry},I5 r.bl.length xs=true->ri r xs ys=true->eC E h ys es->eC (E.gA r) h xs es
 |[],[],es,_,_,h=>by simp only [eC] at *; exact h
 |[],_::_,_,_,hs,_=>by simp [ri] at hs
 |(_,_,_)::_,[],_,_,hs,_=>by simp [ri] at hs
 |(k,v,b)::xs,(k',v',b')::ys,es,hi,hs,h=>by
  simp only [I5,an] at hi;simp only [ri] at hs;simp only [eC] at *;obtain⟨e,rr,rfl,U,Z,_,h4⟩:=h;split at hs
  ·rename_i e1;split at hs
   ·rename_i e2;refine⟨e,rr,rfl,VR.gA hl k _ hi.1.1 (by rw [jq _ _ e1]; exact U),VR.gA hl v _ hi.1.2 (by rw [jq _ _ e2]; exact Z),trivial,eC.gA hl hi.2 hs h4⟩
   grind
  grind
theorem pw {r:Ren}: ∀xs:List W,(r.BN xs).length=xs.length
 |[]=>rfl
 |_::xs=>by simp [Ren.BN,pw xs]
theorem F0 {r:Ren} (hl:r.ns.length<=900) {ρ:Nat->Int} {i:Nat}: ∀{ov iD:List (V×List W)},mj r ov iD=true->dW ρ i iD=(dW (r.env ρ) i ov).map r.BN
 |[],[],_=>rfl
 |[],_::_,h=>by simp [mj] at h
 |_::_,[],h=>by simp [mj] at h
 |(j,a)::x,(k,b)::y,h=>by
  simp only [mj,an] at h;have U:=cO _ _ h.1.1;have Z:=fD _ _ h.1.2;simp only [dW];rw [<- U,Ren.ef hl,<- Z,F0 hl h.2]
  grind
theorem FZ {n:Nat}: ∀{ov:List (V×List W)},Kg n ov=true->∀p∈ov,nU n p.2=true
 |[],_,p,hp=>by simp at hp
 |(j,a)::x,h,p,hp=>by
  simp only [Kg,an] at h;rcases ax.1 hp with rfl|hp
  ·grind
  ·exact FZ h.2 p hp
theorem s7 {E:En} {r:Ren} {h:Array Obj} (hl:r.ns.length<=900) {row:Row} {ov iD:List (V×List W)} (hs:mj r ov iD=true) (hi:Kg r.bl.length ov=true): ∀(ds:List D) (i:Nat) {us:List Value},
 cA E h (bG E.ρ row iD ds i) us->cA (E.gA r) h (bG (E.gA r).ρ row ov ds i) us
 |[],_,us,hv=>by simp only [bG,cA] at *; exact hv
 |d::ds,i,us,hv=>by
  simp only [bG] at *;obtain⟨a,b,rfl,U,Z⟩:=hv.split;refine cA.append ?_ (s7 hl hs hi ds (i+1) Z);rw [F0 hl hs] at U;show cA (E.gA r) h (match dW (r.env E.ρ) i ov with |some cs=>cs|none=>gy row (.eo d)) a
  cases ho:dW (r.env E.ρ) i ov with
  |none=> rw [ho] at U;simp only [Option.map_none] at U;exact (fT (E:=E.gA r)).2 (show wA E.ro h row (dec (enc d)) a from (fT (E:=E)).1 U)
  |some cs=> rw [ho] at U;simp only [alE] at U;obtain⟨p,p1,p2,_⟩:=kq ho;exact cA.gA hl cs a (by rw [<- p2]; exact FZ hi p p1) U
theorem CR {r:Ren} {row:Row}: ∀{ov iD:List (V×List W)},mj r ov iD=true->sg row iD->sg row ov
 |[],[],_,h=>h
 |[],_::_,h,_=>by simp [mj] at h
 |_::_,[],h,_=>by simp [mj] at h
 |(j,a)::x,(k,b)::y,h,ho=>by
  simp only [mj,an] at h;intro p hp;rcases ax.1 hp with rfl|hp
  ·have:=congrArg List.length (fD _ _ h.1.2);rw [pw] at this;simp only;rw [this];exact ho (k,b) ad
  ·exact CR h.2 (fun q hq=>ho q (by simp [hq])) p hp
theorem PG {r:Ren} (hl:r.ns.length<=900) {ρ:Nat->Int} {n:Int}: ∀{ov iD:List (V×W)},ml r ov iD=true->lE ρ n iD=(lE (r.env ρ) n ov).map r.av
 |[],[],_=>rfl
 |[],_::_,h=>by simp [ml] at h
 |_::_,[],h=>by simp [ml] at h
 |(j,a)::x,(k,b)::y,h=>by simp only [ml,an] at h;have U:=cO _ _ h.1.1;have Z:=jq _ _ h.1.2;simp only [lE];rw [<- U,Ren.ef hl,<- Z,PG hl h.2];split<;>simp
theorem xX {r:Ren} (hl:r.ns.length<=900) {ρ:Nat->Int}: ∀{ov iD:List (V×W)},ml r ov iD=true->(ov.map fun p=>p.1.den (r.env ρ))=iD.map fun p=>p.1.den ρ
 |[],[],_=>rfl
 |[],_::_,h=>by simp [ml] at h
 |_::_,[],h=>by simp [ml] at h
 |(j,a)::x,(k,b)::y,h=>by simp only [ml,an] at h;have U:=cO _ _ h.1.1;simp only [aw];rw [<- U,Ren.ef hl,xX hl h.2]
theorem zr.congr {ρ ρ':Nat->Int} {ds:List D} {ov iD:List (V×W)} (h:zr ρ ds ov) (hk:(iD.map fun p=>p.1.den ρ')=ov.map fun p=>p.1.den ρ):zr ρ' ds iD:=by refine⟨h.1,fun p hp=>?_,by rw [hk]; exact h.2.2⟩;have:p.1.den ρ'∈iD.map fun p=>p.1.den ρ':=aT.2 ⟨p,hp,rfl⟩;rw [hk] at this;obtain⟨q,hq,he⟩:=aT.1 this;rw [<- he];exact h.2.1 q hq
theorem GK {n:Nat} {ρ:Nat->Int} {m:Int} {v:W}: ∀{ov:List (V×W)},K3 n ov=true->lE ρ m ov=some v->lj n v=true
 |[],_,h=>by simp [lE] at h
 |(_,u)::l,hi,h=>by
  simp only [K3,an] at hi;simp only [lE] at h;split at h
  ·simp only [ag] at h; subst h; exact hi.1
  ·exact GK hi.2 h
theorem oB.gA {E:En} {r:Ren} {h:Array Obj} (hl:r.ns.length<=900) {B:Nat} {key:D} {j ty:Nat} {c:FC} {d:D} {u:Value} (ho:oB E h B key j ty c d u):oB (E.gA r) h B key j ty c d u:=by
 cases c with
 |ck c=>exact ho
 |mp t=>exact ho
 |own t=>
  rcases ho with ho|⟨b,o,n,cap,a,arr,lo,hi,U,Z,h3,h4,h5,h6,h7⟩
  ·exact .inl ho
  ·refine .inr ⟨b,o,n,cap,a,arr,lo,hi,U,Z,h3,h4,h5,h6,?_⟩;rcases h7 with h7|⟨g1,g2,us,g3,g4⟩
   ·exact .inl h7
   ·exact .inr ⟨g1,g2,us,s7 hl (ov:=[]) (iD:=[]) rfl rfl _ _ g3,g4⟩
theorem pA.gA {E:En} {r:Ren} {h:Array Obj} (hl:r.ns.length<=900) {B t:Nat} {eS:List Nat} {key d:D} {v:Value} (ho:pA E h B t eS key d v):pA (E.gA r) h B t eS key d v:=by
 unfold pA at *;split at ho
 ·obtain⟨c,U,Z⟩:=ho;exact⟨c,U,Z.gA hl⟩
 ·obtain⟨b,o,arr,lo,hi,U,Z,h3,h4,h5,h6⟩:=ho;refine⟨b,o,arr,lo,hi,U,Z,h3,h4,h5,fun j c hc=>?_⟩;obtain⟨u,g1,g2,g3⟩:=h6 j c hc;exact⟨u,g1,g2,g3.gA hl⟩
theorem eJ.gA {E:En} {r:Ren} {h:Array Obj} (hl:r.ns.length<=900) {B t:Nat} {eS:List Nat} {ov iD:List (V×W)} (hs:ml r ov iD=true) (hi:K3 r.bl.length ov=true): ∀{ds:List D} {es:List MapEntry},eJ E h B t eS iD ds es->eJ (E.gA r) h B t eS ov ds es
 |[],_,ho=>ho
 |d::ds,_,⟨e,rr,n,U,Z,h3,h4,h5⟩=>by
  refine⟨e,rr,n,U,Z,h3,?_,eJ.gA hl hs hi h5⟩;have he:=PG hl (ρ:=E.ρ) (n:=n) hs
  show match lE (r.env E.ρ) n ov with |some v=>VR (E.gA r) h v e.val|none=>pA (E.gA r) h B t eS (.i n) (E8 d) e.val
  cases hv:lE (r.env E.ρ) n ov with
  |none=> rw [hv] at he;rw [he] at h4;exact h4.gA hl
  |some v=> rw [hv] at he;rw [he] at h4;exact VR.gA hl v _ (GK hi hv) h4
theorem OR.gA {E:En} {r:Ren} {h:Array Obj} (hl:r.ns.length<=900) {id:Nat} {o o':dG} (hi:Kj r.bl.length o=true) (hs:dX r (r.tG id) o o'=true) (ho:OR E h (r.id id) o'):OR (E.gA r) h id o:=by
 cases o with
 |cells cs e=>
  cases o' with
  |jh _ _ _ _=>simp [dX] at hs
  |cells ds f=>
   simp only [dX] at hs;simp only [Kj] at hi;split at hs
   ·rename_i he;have he:=aq he;subst he;split at hs
    ·rename_i ds' E4;simp only [OR] at *;obtain⟨arr,lo,hi',us,U,Z,h3,h4,h5,h6,h7⟩:=ho;obtain⟨g1,g2,g3⟩:=Z.eE E4;have hlen:=congrArg List.length (fD _ _ hs);rw [pw] at hlen;refine⟨arr,lo,hi',us.drop (r.tG id),U,cA.gA hl cs _ hi (aar hs g1),fun i u hu=>?_,?_,?_,h6,fun u hu=>h7 u (br hu)⟩
     ·rw [amd] at hu;have:=h3 _ u hu;show arr[(E.θ (r.id id)).2+r.tG id+i]?=some u
      grind
     ·show cs.length<=E.κ (r.id id)-r.tG id;omega
     ·show (E.θ (r.id id)).2+r.tG id+(E.κ (r.id id)-r.tG id)=arr.size;omega
    grind
   grind
  |map _ _=>simp [dX] at hs
  |jP _ _=>simp [dX] at hs
  |vec _ _ _ _=>simp [dX] at hs
  |jJ _ _=>simp [dX] at hs
  |qS _ _ _ _=>simp [dX] at hs
 |map es c=>
  cases o' with
  |jh _ _ _ _=>simp [dX] at hs
  |map fs d=> simp only [dX] at hs;simp only [Kj] at hi;simp only [OR] at *;obtain⟨bL,c',U,Z,_⟩:=ho;simp only [an] at hs;have hz:=aq hs.2;exact⟨bL,c',U,eC.gA hl hi hs.1 Z,by rw [hz]; trivial⟩
  |cells _ _=>simp [dX] at hs
  |jP _ _=>simp [dX] at hs
  |vec _ _ _ _=>simp [dX] at hs
  |jJ _ _=>simp [dX] at hs
  |qS _ _ _ _=>simp [dX] at hs
 |jh _ _ _ _=>simp [Kj] at hi
 |jP s p=>
  cases o' with
  |jh _ _ _ _=>simp [dX] at hs
  |jP t q=> simp_all [dX,lM,OR,En.gA]
  |cells _ _=>simp [dX] at hs
  |map _ _=>simp [dX] at hs
  |vec _ _ _ _=>simp [dX] at hs
  |jJ _ _=>simp [dX] at hs
  |qS _ _ _ _=>simp [dX] at hs
 |jJ e t=>
  cases o' with
  |jh _ _ _ _=>simp [dX] at hs
  |cells _ _=>simp [dX] at hs
  |map _ _=>simp [dX] at hs
  |jP _ _=>simp [dX] at hs
  |vec _ _ _ _=>simp [dX] at hs
  |qS _ _ _ _=>simp [dX] at hs
  |jJ e' t'=> simp only [dX,an] at hs;have U:=cO _ _ hs.1.1;have Z:=aq hs.1.2;subst U Z;simp only [OR] at *;have oT:e.den (E.gA r).ρ=(r.se e).den E.ρ:=(Ren.ef hl E.ρ e).symm;rw [oT];exact ho
 |vec e t ty ov=>
  cases o' with
  |jh _ _ _ _=>simp [dX] at hs
  |cells _ _=>simp [dX] at hs
  |map _ _=>simp [dX] at hs
  |jP _ _=>simp [dX] at hs
  |jJ _ _=>simp [dX] at hs
  |qS _ _ _ _=>simp [dX] at hs
  |vec e' t' US iD=>
   simp only [dX,an] at hs;simp only [Kj] at hi;have U:=cO _ _ hs.1.1.1.1;have Z:=aq hs.1.1.1.2;have h3:=aq hs.1.1.2;have h4:=aq hs.2;have rT:=hs.1.2;subst U Z h3;simp only [OR] at *;obtain⟨h0,arr,lo,hi',us,q1,q2,q3,q4,q5,q6,q7⟩:=ho;have oE:=CR rT h0.1;have oT:e.den (E.gA r).ρ=(r.se e).den E.ρ:=(Ren.ef hl E.ρ e).symm;rw [oT];refine⟨⟨oE,h0.2⟩,arr,lo,hi',us,q1,s7 hl rT hi _ _ q2,?_,?_,?_,q6,q7⟩
   ·intro i u hu;show arr[(E.θ (r.id id)).2+r.tG id+i]?=some u
    grind
   ·show _<=E.κ (r.id id)-r.tG id
    grind [cD]
   ·show (E.θ (r.id id)).2+r.tG id+(E.κ (r.id id)-r.tG id)=arr.size
    grind
 |qS e t eS ov=>
  cases o' with
  |jh _ _ _ _=>simp [dX] at hs
  |cells _ _=>simp [dX] at hs
  |map _ _=>simp [dX] at hs
  |jP _ _=>simp [dX] at hs
  |jJ _ _=>simp [dX] at hs
  |vec _ _ _ _=>simp [dX] at hs
  |qS e' t' agx iD=> simp only [dX,an,decide_eq_true_eq] at hs;simp only [Kj] at hi;have U:=cO _ _ hs.1.1.1.1;have Z:=aq hs.1.1.1.2;have h3:=hs.1.1.2;have rT:=hs.1.2;subst U Z h3;simp only [OR] at *;obtain⟨n0,bL,c',g1,g2⟩:=ho;have oT:e.den (E.gA r).ρ=(r.se e).den E.ρ:=(Ren.ef hl E.ρ e).symm;rw [oT];exact⟨n0.congr (xX hl rT),bL,c',g1,eJ.gA hl rT hi g2⟩
end
end Go.As
end
section
namespace Go.As
noncomputable section
open Go.RowKit
structure CS where
 k:Nat
 bE:List (Nat×W)
 dy:List dG
 pc:List (SB×Bool)
 m:V
def ni:List (Nat×W)->Tr W->Tr W
 |[],t=>t
 |(i,v)::l,t=>ni l (t.put i (some v))
def nT:List dG->Nat->Tr dG->Tr dG
 |[],_,t=>t
 |o::os,i,t=>nT os (i+1) (t.put i (some o))
def CS.st (c:CS):St:=⟨ni c.bE .nil,⟨nT c.dy 0 .nil,c.dy.length,none⟩,c.pc⟩
structure Gs where
 ns:Tr V
 bl:Tr (Nat×Nat)
def Gs.num (g:Gs) (i:Nat) (e:V):Gs:=match g.ns.get i with
 |some _=>g
 |none=> ⟨g.ns.put i (some e),g.bl⟩
def Gs.nZ (g:Gs) (i j k:Nat):Gs:=match g.bl.get i with
 |some _=>g
 |none=> ⟨g.ns,g.bl.put i (some (j,k))⟩
def xt (x y:V) (g:Gs):Gs:=match x with
 | .du i=>g.num i y
 |_=>g
def aiA:SB->SB->Gs->Gs
 | .not a,.not b,g=>aiA a b g
 | .eq a b,.eq c d,g=>xt b d (xt a c g)
 |_,_,g=>g
mutual
def Tj:W->W->Gs->Gs
 | .bool a,.bool b,g=>aiA a b g
 | .int _ e,.int _ f,g=>xt e f g
 | .ptr i o,.ptr j p,g=>g.nZ i j (p-o)
 | .slice i o _ _,.slice j p _ _,g=>g.nZ i j (p-o)
 | .map i,.map j,g=>g.nZ i j 0
 | .agg a,.agg b,g=>yH a b g
 | .tuple a,.tuple b,g=>yH a b g
 | .iface _ a,.iface _ b,g=>Tj a b g
 | .func _ a b,.func _ c d,g=>yH b d (yH a c g)
 | .mU a,.mU b,g=>yH a b g
 | .ro a _ _,.ro b _ _,g=>yH a b g
 | .eo a _,.eo b _,g=>xt a b g
 | .jy a,.jy b,g=>xt a b g
 | .oL i a _,.oL j b _,g=>(xt a b g).nZ i j 0
 | .zd i _ a _,.zd j _ b _,g=>(xt a b g).nZ i j 0
 | .wR a _,.wR b _,g=>xt a b g
 | .tE i l a _,.tE j k b _,g=>(xt l k (xt a b g)).nZ i j 0
 |_,_,g=>g
def yH:List W->List W->Gs->Gs
 |x::xs,y::ys,g=>yH xs ys (Tj x y g)
 |_,_,g=>g
end
def XL:List (W×W×Nat)->List (W×W×Nat)->Gs->Gs
 |(k,v,_)::xs,(k',v',_)::ys,g=>XL xs ys (Tj v v' (Tj k k' g))
 |_,_,g=>g
def abH:List (V×List W)->List (V×List W)->Gs->Gs
 |(i,a)::x,(j,b)::y,g=>abH x y (yH a b (xt i j g))
 |_,_,g=>g
def abI:List (V×W)->List (V×W)->Gs->Gs
 |(i,a)::x,(j,b)::y,g=>abI x y (Tj a b (xt i j g))
 |_,_,g=>g
def akN (k:Nat) (o o':dG) (g:Gs):Gs:=match o,o' with
 | .cells a _,.cells b _=>match eE k b with
   |some b=>yH a b g
   |none=>g
 | .map a _,.map b _=>XL a b g
 | .vec a _ _ ov,.vec b _ _ iD=>abH ov iD (xt a b g)
 | .jJ a _,.jJ b _=>xt a b g
 | .qS a _ _ ov,.qS b _ _ iD=>abI ov iD (xt a b g)
 |_,_=>g
def Cg (s:Tr W):List (Nat×W)->Gs->Gs
 |[],g=>g
 |(t,v)::l,g=>match s.get t with
  |some v'=>Cg s l (Tj v v' g)
  |none=>Cg s l g
def Ao (h:Hp):List dG->Nat->Gs->Gs
 |[],_,g=>g
 |o::os,i,g=>match g.bl.get i with
  |some (j,k)=>match h.get j with
   |some o'=>Ao h os (i+1) (akN k o o' g)
   |none=>Ao h os (i+1) g
  |none=>Ao h os (i+1) g
def xj (g:Tr V):Nat->Nat->List V
 |0,_=>[]
 |n+1,i=>match g.get i with
  |some e=>e::xj g n (i+1)
  |none=> .lit 0::xj g n (i+1)
def Ic (g:Tr (Nat×Nat)):Nat->Nat->List Nat
 |0,_=>[]
 |n+1,i=>match g.get i with
  |some (e,_)=>e::Ic g n (i+1)
  |none=>0::Ic g n (i+1)
def Ib (g:Tr (Nat×Nat)):Nat->Nat->List Nat
 |0,_=>[]
 |n+1,i=>match g.get i with
  |some (_,e)=>e::Ib g n (i+1)
  |none=>0::Ib g n (i+1)
def CS.kM (c:CS) (s:St):Ren:=match Ao s.h c.dy 0 (Cg s.bE c.bE ⟨.nil,.nil⟩) with
 |⟨ns,bl⟩=> ⟨xj ns c.k 0,Ic bl c.dy.length 0,Ib bl c.dy.length 0⟩
def PJ (i:Nat):List Nat->Bool
 |[]=>true
 |j::l=>match Nat.beq i j with
  |true=>false
  |false=>PJ i l
def vU:List Nat->Bool
 |[]=>true
 |i::l=>PJ i l&&vU l
def BY (r:Ren) (n:Nat) (s:Tr W):List (Nat×W)->Bool
 |[]=>true
 |(t,v)::l=>match s.get t with
  |some v'=>lj n v&&eD (r.av v) v'&&BY r n s l
  |none=>false
def zT (r:Ren) (n:Nat) (h:Hp):List dG->Nat->Bool
 |[],_=>true
 |o::os,i=>match h.get (r.id i) with
  |some o'=>Kj n o&&dX r (r.tG i) o o'&&zT r n h os (i+1)
  |none=>false
def LH (pc:List (SB×Bool)) (e:V):Option Int×Option Int:=match e with
 | .lit z=>(some z,some z)
 |e=>bounds e pc
def P7 (a b:Int):Bool:=decide (-9223372036854775808<=a)&&decide (b<=9223372036854775807)
def EB (pc:List (SB×Bool)) (e:V):Option Int×Option Int:=match e with
 | .wrap .i64 (.add a b)=>match LH pc a,LH pc b with
   |(some la,some ha),(some lb,some Y)=>if P7 (la+lb) (ha+Y) then (some (la+lb),some (ha+Y)) else bounds e pc
   |_,_=>bounds e pc
 | .wrap .i64 (.sub a b)=>match LH pc a,LH pc b with
   |(some la,some ha),(some lb,some Y)=>if P7 (la-Y) (ha-lb) then (some (la-Y),some (ha-lb)) else bounds e pc
   |_,_=>bounds e pc
 |e=>LH pc e
def ED (a b:Option Int):Bool:=match a,b with
 |some x,some y=>decide (x<y)
 |_,_=>false
def Jn (a b:Option Int):Bool:=match a,b with
 |some x,some y=>decide (x<=y)
 |_,_=>false
def d? (pc:List (SB×Bool)) (c:SB) (v:Bool):Bool:=
 match jH pc c with
 |some b=>b == v
 |none=>match c with
  | .lt a b=>match v with
    |true=>ED (EB pc a).2 (EB pc b).1
    |false=>Jn (EB pc b).2 (EB pc a).1
  | .eq a b=>match v with
    |true=>false
    |false=>ED (EB pc a).2 (EB pc b).1||ED (EB pc b).2 (EB pc a).1
  |_=>false
def Ci (pv:List (SB×Bool)->SB->Bool->Bool) (r:Ren) (pc:List (SB×Bool)):List (SB×Bool)->Bool
 |[]=>true
 |(c,v)::l=>pv pc (r.sb c) v&&Ci pv r pc l
def CS.fits (pv:List (SB×Bool)->SB->Bool->Bool) (c:CS) (s:St) (r:Ren):Bool:=
 Nat.ble r.ns.length 900&&Nat.beq r.bl.length c.dy.length&&vU r.bl&&BY r c.dy.length s.bE c.bE&&zT r c.dy.length s.h c.dy 0&&Ci pv r s.pc c.pc
theorem tW: ∀{l:List (Nat×W)} {t:Tr W} {i:Nat} {v:W},(ni l t).get i=some v->(i,v)∈l\/t.get i=some v
 |[],t,i,v,h=> .inr h
 |(j,x)::l,t,i,v,h=>by
  simp only [ni] at h;rcases tW h with h|h
  all_goals grind [Tr.bR]
theorem ja: ∀{l:List dG} {i:Nat} {t:Tr dG} {j:Nat},(nT l i t).get j=if i<=j/\j<i+l.length then l[j-i]? else t.get j
 |[],i,t,j=>by rw [af ad];rfl
 |o::os,i,t,j=>by
  simp only [nT];rw [ja,Tr.bR]
  grind
theorem Km {i:Nat}: ∀{l:List Nat},PJ i l=true->i∉l
 |[],_=>by simp
 |j::l,h=>by
  simp only [PJ] at h;split at h
  ·grind
  ·rename_i Y;have:=amy Y;simp [this,Km h]
theorem ox: ∀{l:List Nat},vU l=true->∀{i j x:Nat},eT l i=some x->eT l j=some x->i=j
 |[],_,i,_,_,h,_=>by simp [eT] at h
 |y::l,hd,i,j,x,U,Z=>by
  simp only [vU,an] at hd;have hn:=Km hd.1
  have hm: ∀{i:Nat} {l:List Nat} {x:Nat},eT l i=some x->x∈l:=by
   intro i l x h
   grind [di]
  cases i with
  |zero=>
   cases j with
   |zero=>rfl
   |succ j=>
    grind [eT]
  |succ i=>
   cases j with
   |zero=>
    grind [eT]
   |succ j=> simp only [eT] at U Z;rw [ox hd.2 U Z]
theorem AS {r:Ren} {n:Nat} {s:Tr W}: ∀{l:List (Nat×W)},BY r n s l=true->∀{t:Nat} {v:W},(t,v)∈l->∃v',s.get t=some v'/\lj n v=true/\r.av v=v'
 |[],_,_,_,h=>by simp at h
 |(t0,v0)::l,hs,t,v,h=>by
  simp only [BY] at hs;split at hs
  ·rename_i v' hv;simp only [an] at hs;rcases ax.1 h with h|h
   ·grind [jq]
   ·exact AS hs.2 h
  grind
theorem iw {r:Ren} {n:Nat} {h:Hp}: ∀{l:List dG} {i:Nat},zT r n h l i=true->∀{j:Nat} {o:dG},l[j]?=some o->∃o',h.get (r.id (i+j))=some o'/\Kj n o=true/\dX r (r.tG (i+j)) o o'=true
 |[],_,_,_,_,h=>by simp at h
 |o0::os,i,hs,j,o,hj=>by
  simp only [zT] at hs;split at hs
  ·rename_i o' ho;simp only [an] at hs
   cases j with
   |zero=>
    grind
   |succ j=>
    have:=iw hs.2 (j:=j) (by simpa using hj)
    grind
  grind
def Z8 (pv:List (SB×Bool)->SB->Bool->Bool):Prop:= ∀(ρ:Nat->Int) (pc:List (SB×Bool)) (c:SB) (v:Bool),bW ρ pc->pv pc c v=true->c.den ρ=v
theorem zm {ρ:Nat->Int} {pc:List (SB×Bool)} (hp:bW ρ pc) (e:V):qP (LH pc e).1 (LH pc e).2 (e.den ρ):=by
 unfold LH
 grind [qP,V.den,lQ]
theorem Dv {a b x:Int} (h:P7 a b=true) (U:a<=x) (Z:x<=b):IntKind.i64.wrap x=x:=by
 simp only [P7,an,decide_eq_true_eq] at h;rw [<- j6]
 grind [rF]
theorem RF {ρ:Nat->Int} {pc:List (SB×Bool)} (hp:bW ρ pc) (e:V):qP (EB pc e).1 (EB pc e).2 (e.den ρ):=by
 unfold EB;split
 ·rename_i a b;have ha:=zm hp a;have Y:=zm hp b;split
  ·rename_i la ha' lb E5 e1 e2;rw [e1] at ha;rw [e2] at Y;have a1:=ha.1 la rfl;have a2:=ha.2 ha' rfl;have b1:=Y.1 lb rfl;have b2:=Y.2 E5 rfl;split
   ·rename_i hi;simp only [V.den];rw [Dv hi J J];constructor<;>intro l hl<;>simp at hl<;>omega
   ·exact lQ hp
  ·exact lQ hp
 ·rename_i a b;have ha:=zm hp a;have Y:=zm hp b;split
  ·rename_i la ha' lb E5 e1 e2;rw [e1] at ha;rw [e2] at Y;have a1:=ha.1 la rfl;have a2:=ha.2 ha' rfl;have b1:=Y.1 lb rfl;have b2:=Y.2 E5 rfl;split
   ·rename_i hi;simp only [V.den];rw [Dv hi J J];constructor<;>intro l hl<;>simp at hl<;>omega
   ·exact lQ hp
  ·exact lQ hp
 grind [zm]
theorem AE {a b:Option Int} {x y:Int} (h:ED a b=true) (U: ∀z,a=some z->x<=z) (Z: ∀z,b=some z->z<=y):x<y:=by
 unfold ED at h
 grind
theorem OY {a b:Option Int} {x y:Int} (h:Jn a b=true) (U: ∀z,a=some z->x<=z) (Z: ∀z,b=some z->z<=y):x<=y:=by
 unfold Jn at h
 grind
theorem M7:Z8 d?:=by
 intro ρ pc c v hp h;unfold d? at h;split at h
 ·rename_i b Y
  grind [gp]
 ·split at h
  ·have ha:=fun a=>RF hp a;split at h
   ·have:=AE h (ha _).2 (ha _).1
    grind [SB.den]
   ·have:=OY h (ha _).2 (ha _).1
    grind [SB.den]
  ·have ha:=fun a=>RF hp a;split at h
   ·grind
   ·simp only [amg] at h;simp only [SB.den,beq_eq_false_iff_ne,ne_eq];rcases h with h|h
    ·have:=AE h (ha _).2 (ha _).1;omega
    ·have:=AE h (ha _).2 (ha _).1;omega
  grind
theorem DU {pv:List (SB×Bool)->SB->Bool->Bool} (hpv:Z8 pv) {r:Ren} (hl:r.ns.length<=900) {ρ:Nat->Int} {pc:List (SB×Bool)} (hp:bW ρ pc): ∀{l:List (SB×Bool)},Ci pv r pc l=true->bW (r.env ρ) l
 |[],_=>by intro c b h; simp at h
 |(c0,v0)::l,h=>by
  simp only [Ci,an] at h;intro c b hm;rcases ax.1 hm with hm|hm
  ·simp only [ak] at hm;obtain⟨rfl,rfl⟩:=hm;rw [<- Ren.zH hl];exact hpv ρ pc _ _ hp h.1
  ·exact DU hpv hl hp h.2 c b hm
theorem yM [bI] {pv:List (SB×Bool)->SB->Bool->Bool} (hpv:Z8 pv) {E:En} {c:CS} {s:St} {r:Ren} {a:Act} {w:World} (f:Fit E s a w) (h:c.fits pv s r=true):r.ns.length<=900/\Fit (E.gA r) c.st a w/\
 ∀id o,c.st.h.get id=some o->∃o',s.h.get (r.id id)=some o':=by
 unfold CS.fits at h;simp only [an] at h;obtain⟨⟨⟨⟨⟨U,Z⟩,h3⟩,h4⟩,h5⟩,h6⟩:=h;have hl:=alO U;have hn:=aq Z
 have uE: ∀id o,c.st.h.get id=some o->c.dy[id]?=some o:=by
  intro id o ho;have:(nT c.dy 0 .nil).get id=some o:=ho
  grind [ja,Tr.get]
 refine⟨hl,⟨⟨?_,?_,?_,?_,f.rel.pL,bI.gA f.rel.iT fun i hi=>Ren.lA hl hi,?_⟩,?_,DU hpv hl f.pc h6⟩,?_⟩
 ·intro id hid hd;have:id<r.bl.length:=hd.1;have hid:c.dy.length<=id:=hid;omega
 ·intro x hx
  grind [CS.st]
 ·intro id o ho;obtain⟨o',g1,g2,g3⟩:=iw h5 (uE id o ho);rw [ay] at g1 g3;obtain⟨q1,q2,q3⟩:=f.rel.live _ _ g1;have ff:=(aW.1 (uE id o ho)).1;exact⟨⟨J,q1⟩,OR.gA hl (by rw [hn]; exact g2) g3 q2,q3⟩
 ·intro id Nx o o' ho Aj he;obtain⟨p,g1,_⟩:=iw h5 (uE id o ho);obtain⟨p',S',_⟩:=iw h5 (uE Nx o' Aj);rw [ay] at g1 S';have heq:=f.rel.inj _ _ _ _ g1 S' he;have ff:=(aW.1 (uE id o ho)).1;have aey:=(aW.1 (uE Nx o' Aj)).1;unfold Ren.id at heq
  cases e1:eT r.bl id with
  |none=>rw [di,amC] at e1; omega
  |some x=>
   cases e2:eT r.bl Nx with
   |none=>rw [di,amC] at e2; omega
   |some y=> rw [e1,e2] at heq;simp only at heq;subst heq;exact ox h3 e1 e2
 ·intro b x Y;obtain⟨q1,q2,q3⟩:=f.rel.hid b x Y;refine⟨q1,q2,fun id o ho=>?_⟩;obtain⟨o',g1,_⟩:=iw h5 (uE id o ho);rw [ay] at g1;exact q3 _ o' g1
 ·intro t v ht;have:(ni c.bE .nil).get t=some v:=ht;rcases tW this with h|h
  ·obtain⟨v',g1,g2,g3⟩:=AS h4 h;obtain⟨u,q1,q2⟩:=f.sr t v' g1
   grind [VR.gA]
  grind [Tr.get]
 grind [iw]
end
end Go.As
end
section
namespace Go.As
noncomputable section
open Go.RowKit
structure b? where
 w0:World
 ro:Nat->Prop
 ρ0:Nat->Int
structure Top [bI] (B:b?) (E:En) (s:St) (a:Act) (w:World):Prop where
 fit:Fit E s a w
 hi: ∀i,900<=i->E.ρ i=B.ρ0 i
 ro: ∀b,B.ro b->E.ro b
 below:Below B.w0.heap.size B.w0 w
 own: ∀id o,s.h.get id=some o->B.w0.heap.size<=(E.θ id).1
theorem Top.then [bI] {B:b?} {E:En} {s s':St} {a a':Act} {w w':World} (t:Top B E s a w) (h:mE E s a w s' a' w'): ∃E',Top B E' s' a' w'/\E'.ρ=E.ρ:=by
 obtain⟨_,_,E',st,f'⟩:=h;refine⟨E',⟨f',fun i hi=>by rw [st.ρ]; exact t.hi i hi,fun b Y=>st.ro b (t.ro b Y),?_,?_⟩,st.ρ⟩
 ·refine t.below.trans ⟨st.os,st.tape,st.output,st.size,fun k hk=>?_⟩
  exact st.bX k (alW hk t.below.size) fun id o ho he=>by have:=t.own id o ho;omega
 ·intro id o ho;rcases aQ (E'.θ id).1 w.heap.size with h|h
  ·obtain⟨qR,o0,h0,he⟩:=st.own id o ho h;rw [<- he];exact t.own qR o0 h0
  ·exact bk t.below.size h
theorem Top.fits [bI] {pv:List (SB×Bool)->SB->Bool->Bool} (hpv:Z8 pv) {B:b?} {E:En} {c:CS} {s:St} {r:Ren} {a:Act} {w:World} (t:Top B E s a w) (h:c.fits pv s r=true):r.ns.length<=900/\Top B (E.gA r) c.st a w:=by
 obtain⟨hl,f,ho⟩:=yM hpv t.fit h;refine⟨hl,f,fun i hi=>?_,t.ro,t.below,fun id o hid=>?_⟩
 ·show r.env E.ρ i=_;rw [Ren.lA hl hi];exact t.hi i hi
 ·obtain⟨o',h'⟩:=ho id o hid;exact t.own _ _ h'
inductive Fr where
 |seq (p:List Nat) (c:Code)
 |block (id:Nat)
def Ih {α:Type}:T α->(α->Bool)->Bool
 | .fail,_=>false
 | .ret a,f=>f a
 | .split _ x y,f=>Ih x f&&Ih y f
structure Cfg where
 tt:TT
 call:eh
 draw:Nat->List Oper->St->T St
 lf:Nat
 pv:List (SB×Bool)->SB->Bool->Bool
 res:List ResultVar
def Cfg.ev (g:Cfg) (c:Code) (s:St):T (Ex×St):=iP g.tt g.call g.draw g.lf c s
def isTrue:Option (List W)->Bool
 |some [.bool (.lit b)]=>b
 |_=>false
def X4 (g:Cfg) (e:Ex) (s:St):Bool:=match e with
 | .exit _=>false
 |_=>isTrue (kA g.tt s g.res)
def adT:W->W->Bool
 | .int _ (.lit a),.int _ (.lit b)=>a == b
 | .int _ (.lit _),.int _ _=>false
 | .slice _ _ n _,.slice _ _ m _=>Nat.beq n m
 | .slice _ _ _ _,_=>false
 | .eg,.eg=>true
 | .eg,_=>false
 |_,_=>true
def quick (s:Tr W):List (Nat×W)->Bool
 |[]=>true
 |(t,v)::l=>match s.get t with
  |some v'=>match adT v v' with
   |true=>quick s l
   |false=>false
  |none=>false
def Jq (pv:List (SB×Bool)->SB->Bool->Bool) (s:St):List CS->Bool
 |[]=>false
 |c::cs=>match quick s.bE c.bE with
  |false=>Jq pv s cs
  |true=>match c.fits pv s (c.kM s) with
   |true=>true
   |false=>Jq pv s cs
abbrev ajq:=List Nat->Option (List CS)
mutual
def go (g:Cfg) (eX:ajq):Nat->List Nat->Code->List Fr->St->Bool
 |0,_,_,_,_=>false
 |n+1,p,c,fr,s=>match eX p with
  |some cs=>Jq g.pv s cs
  |none=>match c with
   | .seq a b=>go g eX n (0::p) a (.seq (1::p) b::fr) s
   | .block id b=>go g eX n (0::p) b (.block id::fr) s
   |c=>Ih (g.ev c s) fun (e,s')=>cont g eX n fr e s'
def cont (g:Cfg) (eX:ajq):Nat->List Fr->Ex->St->Bool
 |0,_,_,_=>false
 |n+1,fr,e,s=>match fr with
  |[]=>X4 g e s
  | .seq p c::fr=>match e with
    | .normal=>go g eX n p c fr s
    |e=>cont g eX n fr e s
  | .block id::fr=>match e with
    | .exit j=>match Nat.beq j id with
      |true=>cont g eX n fr .normal s
      |false=>cont g eX n fr (.exit j) s
    |e=>cont g eX n fr e s
end
def apart (pc:List (SB×Bool)) (x:V):List V->Bool
 |[]=>true
 |y::l=>match decEq pc x y with
  |some false=>apart pc x l
  |_=>false
structure Hint where
 ts:List (SB×Bool):=[]
 xs:List V:=[]
 n:Nat:=0
section
variable {P:Program} {g:Cfg} {qi:Nat->List Oper->Bool} {N:Nat} {body:Code} {B:b?} {Q:Exit->Act->World->Prop}
structure aln [bI] (P:Program) (g:Cfg) (qi:Nat->List Oper->Bool):Prop where
 tt:ew P g.tt
 call:gX P g.call
 draw:vh P qi g.draw
 pv:Z8 g.pv
theorem Top.pc [bI] {B:b?} {E:En} {s:St} {a:Act} {w:World} {pc:List (SB×Bool)} (t:Top B E s a w) (hp:bW E.ρ pc):Top B E { s with pc:=pc } a w:=
 ⟨⟨t.fit.rel,t.fit.sr,hp⟩,t.hi,t.ro,t.below,t.own⟩
end
end
end Go.As
end
section
namespace Go.As
noncomputable section
def LN (h:Hp) (o:dG):Hp:=⟨h.m.put h.next (some o),h.next+1,h.res⟩
def U_ {α:Type} (c:FC) (x:V) (ty:Nat) (s:St) (k:W->St->T α):T α:=match c with
 | .ck c=>k (u6 c x) s
 | .mp t=>k (.map s.h.next) { s with h:=LN s.h (.jJ x t) }
 | .own t=>jx s (pJ (dN x) (.lit 0)) fun s b=>match b with
   |false=>k (.oL s.h.next (dN x) t) { s with h:=LN s.h (.vec x t ty []) }
   |true=>jx s (pJ (mi x) (.eo (.i 3))) fun s b=>match b with
    |true=>k (.slice s.h.next 0 0 (.rest (rowOf t).es)) { s with h:=LN s.h (.cells [] ty) }
    |false=>k (.wR x t) s
def QU {α:Type} (eS:List Nat) (x:V):List FC->Nat->St->(List W->St->T α)->T α
 |[],_,s,k=>k [] s
 |c::cs,j,s,k=>U_ c (iu j x) (eS.getD (j+2) 0) s fun v s=>QU eS x cs (j+1) s fun vs s=>k (v::vs) s
def V' {α:Type} (t:Nat) (eS:List Nat) (x:V) (s:St) (k:W->St->T α):T α:=match (qb t).ptr with
 |false=>match (qb t).cs with
  |[c]=>U_ c x (eS.getD 1 0) s k
  |_=> .fail
 |true=>QU eS x (qb t).cs 0 s fun vs s=>k (.ptr s.h.next 0) { s with h:=LN s.h (.cells vs (eS.getD 0 0)) }
def T? {α:Type} (id:Nat) (x:V) (s:St) (k:St->T α):T α:=match s.h.get id with
 |some o=>match o with
  | .qS e t eS ov=>sQ x ov s fun r s=>match r with
    |some _=>k s
    |none=>jx s (GA e (mS x)) fun s b=>match b with
     |true=>k s
     |false=>V' t eS (.op .Df e (mS x)) { s with h:=s.h.drop id } fun v s=>k { s with h:=s.h.put id (.qS e t eS ((x,v)::ov)) }
  |_=>k s
 |none=>k s
def aau (E:En) (H:Hp) (b:Nat):Prop:=(∃id o,H.get id=some o/\(E.θ id).1=b)\/∃x,E.hd b=some x
structure View [bI] (E:En) (H:Hp) (w:World) (E':En) (H':Hp):Prop where
 rel:bO E' H' w
 kp:fh E w.heap E' w.heap
 qQ: ∀b,E'.ro b->E.ro b\/aau E H b
 hold: ∀b,aau E' H' b->aau E H b
theorem View.refl [bI] {E:En} {H:Hp} {w:World} (r:bO E H w):View E H w E H:=
 ⟨r,⟨rfl,fun _ h=>h,fun _ _=>rfl,fun _ _=>rfl,fun _ h=>h,fun _ _=>rfl⟩,fun _ h=> .inl h,fun _ h=>h⟩
theorem View.trans [bI] {E E1 E2:En} {H H1 H2:Hp} {w:World} (a:View E H w E1 H1) (b:View E1 H1 w E2 H2):View E H w E2 H2:=
 ⟨b.rel,⟨b.kp.ρ.trans a.kp.ρ,fun id h=>b.kp.dm id (a.kp.dm id h),fun id h=>(b.kp.θ id (a.kp.dm id h)).trans (a.kp.θ id h),fun id h=>(b.kp.κ id (a.kp.dm id h)).trans (a.kp.κ id h),fun x h=>b.kp.ro x (a.kp.ro x h),fun _ _=>rfl⟩,
  fun x h=>(b.qQ x h).elim (a.qQ x) fun h=> .inr (a.hold x h),fun x h=>a.hold x (b.hold x h)⟩
theorem fh.trans {E E1 E2:En} {h:Array Obj} (a:fh E h E1 h) (b:fh E1 h E2 h):fh E h E2 h:=
 ⟨b.ρ.trans a.ρ,fun id h=>b.dm id (a.dm id h),fun id h=>(b.θ id (a.dm id h)).trans (a.θ id h),fun id h=>(b.κ id (a.dm id h)).trans (a.κ id h),fun x h=>b.ro x (a.ro x h),fun _ _=>rfl⟩
theorem View.adZ [bI] {E E':En} {H H':Hp} {w:World} (r:bO E H w) (s:eN E H w E' H' w) (r':bO E' H' w):View E H w E' H':=by
 refine⟨r',s.keeps r,fun b Y=>?_,fun b Y=>?_⟩
 ·rcases s.qQ b Y with h|h|h
  ·exact .inl h
  ·exact .inr (.inl h)
  ·have:=r'.pL b Y;omega
 ·rcases Y with ⟨id,o,U,Z⟩|⟨x,U⟩
  ·obtain⟨qR,o0,g1,g2⟩:=s.own id o U (fF r' U);exact .inl ⟨qR,o0,g1,g2.trans Z⟩
  ·exact .inr ⟨x,by rw [<- s.hd]; exact U⟩
theorem uQ (H:Hp) (o:dG) (j:Nat):(LN H o).get j=if j=H.next then some o else H.get j:=by simp [LN,Hp.get,Tr.bR]
def En.L4 (E:En) (b o c n:Nat):En:={ E.ext n (b,o) c with hd:=fun q=>if q=b then none else E.hd q }
theorem zF [bI] {E:En} {H:Hp} {w:World} (r:bO E H w) (b o c:Nat):fh E w.heap (E.L4 b o c H.next) w.heap:=by have hu: ∀{i:Nat},E.dm i->i≠H.next:=fun h e=>r.fresh _ (au _) (e▸h);exact⟨rfl,fun _ h=> .inr h,fun _ h=>En.ext_θ E H.next (b,o) c (hu h),fun _ h=>En.ext_κ E H.next (b,o) c (hu h),fun _ h=>h,fun _ _=>rfl⟩
theorem Sr [bI] {E:En} {H:Hp} {w:World} (r:bO E H w) {b o c:Nat} {x:Nat×D×Nat} (Y:E.hd b=some x) (hx: ∀id o,H.get id=some o->nf o=true\/(E.θ id).1≠x.1) (ao:dG)
 (ho:OR (E.L4 b o c H.next) w.heap H.next ao):View E H w (E.L4 b o c H.next) (LN H ao):=by
 have hu: ∀{i:Nat},E.dm i->i≠H.next:=fun h e=>r.fresh _ (au _) (e▸h);obtain⟨q1,q2,q3⟩:=r.hid b x Y;have kp:=zF r b o c;have hθ: ∀{i:Nat},E.dm i->(E.L4 b o c H.next).θ i=E.θ i:=fun h=>kp.θ _ h;have hθn:(E.L4 b o c H.next).θ H.next=(b,o):=En.ext_θ_new E H.next (b,o) c;refine⟨⟨fun id hid hd=>?_,fun q hq=>?_,fun id o2 Z=>?_,fun i j o1 o2 U Z he=>?_,r.pL,r.iT,fun q y hq=>?_⟩,kp,fun _ h=> .inl h,fun q hq=>?_⟩
 ·have hid:H.next+1<=id:=hid;rcases hd with hd|hd
  ·have hd:id=H.next:=hd;omega
  ·exact r.fresh id J hd
 ·obtain⟨g1,g2⟩:=r.res q hq;refine⟨Nat.lt_succ_of_lt g1,?_⟩;rintro (hd|hd)
  ·have hd:q=H.next:=hd;omega
  ·exact g2 hd
 ·rw [uQ] at Z;split at Z
  ·rename_i he;simp only [ag] at Z;subst Z he;exact⟨.inl rfl,ho,by rw [hθn]; exact q2⟩
  ·obtain⟨g1,g2,g3⟩:=r.live id o2 Z;refine⟨.inr g1,g2.Xa kp g1 rfl ?_,by rw [hθ g1]; exact g3⟩;rcases hx id o2 Z with h|h
   ·exact .inl h
   ·refine .inr fun key q j hq=> ⟨?_,rfl⟩;show (if q=b then none else E.hd q)=_;rw [af]
    ·exact hq
    ·rintro rfl;rw [Y] at hq;simp only [ag] at hq;rw [hq] at h;exact h rfl
 ·rw [uQ] at U Z;split at U<;>split at Z
  ·omega
  ·rename_i e1 _;have g:=(r.live j o2 Z).1;rw [e1,hθn,hθ g] at he;exact absurd he.symm (q3 j o2 Z)
  ·rename_i _ e1;have g:=(r.live i o1 U).1;rw [e1,hθn,hθ g] at he;exact absurd he (q3 i o1 U)
  ·rw [hθ (r.live i o1 U).1,hθ (r.live j o2 Z).1] at he;exact r.inj i j o1 o2 U Z he
 ·have hq:(if q=b then none else E.hd q)=some y:=hq;split at hq
  ·simp at hq
  ·rename_i fX;obtain⟨p1,p2,p3⟩:=r.hid q y hq;refine⟨p1,p2,fun id o2 Z=>?_⟩;rw [uQ] at Z;split at Z
   ·rename_i he;rw [he,hθn];exact fun e=>fX e.symm
   ·rw [hθ (r.live id o2 Z).1];exact p3 id o2 Z
 ·rcases hq with ⟨id,o2,Z,he⟩|⟨y,hq⟩
  ·rw [uQ] at Z;split at Z
   ·rename_i e;rw [e,hθn] at he;have he:b=q:=he;exact .inr ⟨x,by rw [<- he]; exact Y⟩
   ·rw [hθ (r.live id o2 Z).1] at he;exact .inl ⟨id,o2,Z,he⟩
  ·have hq:(if q=b then none else E.hd q)=some y:=hq;split at hq
   ·simp at hq
   ·exact .inr ⟨y,hq⟩
theorem J6 [bI] {E:En} {H:Hp} {w:World} (r:bO E H w) {id:Nat} {ao:dG} (hd:E.dm id) (kJ: ¬E.ro (E.θ id).1) (fX: ∀j o,H.get j=some o->j≠id/\(E.θ j).1≠(E.θ id).1) (hh: ∀x,E.hd (E.θ id).1≠some x) (ho:OR E w.heap id ao):bO E (H.put id ao) w:=by
 have hg: ∀j o,(H.put id ao).get j=some o->(j=id/\o=ao)\/(j≠id/\H.get j=some o):=by
  intro j o h;rw [Hp.bR] at h;split at h
  ·rename_i e; simp only [ag] at h; exact .inl ⟨e,h.symm⟩
  ·rename_i e; exact .inr ⟨e,h⟩
 refine⟨r.fresh,r.res,fun j o h=>?_,fun i j o1 o2 U Z he=>?_,r.pL,r.iT,fun q y hq=>?_⟩
 ·rcases hg j o h with ⟨rfl,rfl⟩|⟨_,h⟩
  ·exact⟨hd,ho,kJ⟩
  ·exact r.live j o h
 ·rcases hg i o1 U with ⟨e1,_⟩|⟨e1,g1⟩ <;>rcases hg j o2 Z with ⟨e2,_⟩|⟨e2,g2⟩
  ·omega
  ·rw [e1] at he;exact absurd he.symm (fX j o2 g2).2
  ·rw [e2] at he;exact absurd he (fX i o1 g1).2
  ·exact r.inj i j o1 o2 g1 g2 he
 ·obtain⟨p1,p2,p3⟩:=r.hid q y hq;refine⟨p1,p2,fun j o h=>?_⟩;rcases hg j o h with ⟨rfl,rfl⟩|⟨_,h⟩
  ·exact fun e=>hh y (by rw [e]; exact hq)
  ·exact p3 j o h
structure nQ [bI] (B:Nat) (key:D) (Z?:Nat->Prop) (w:World) (E:En) (H:Hp) (E':En) (H':Hp):Prop where
 view:View E H w E' H'
 hd: ∀b x,E.hd b=some x->E'.hd b=some x\/∃j,Z? j/\x=(B,key,j)
 DE: ∀b x,E'.hd b=some x->E.hd b=some x
 new: ∀id o,H'.get id=some o->H.get id=some o\/(nf o=true/\H.next<=id)
 Nh:H.next<=H'.next
 ro: ∀b,E'.ro b->E.ro b
theorem nQ.refl [bI] {B:Nat} {key:D} {Z?:Nat->Prop} {w:World} {E:En} {H:Hp} (r:bO E H w):nQ B key Z? w E H E H:=
 ⟨View.refl r,fun _ _ h=> .inl h,fun _ _ h=>h,fun _ _ h=> .inl h,au _,fun _ h=>h⟩
theorem nQ.trans [bI] {B:Nat} {key:D} {Z? J1 J2:Nat->Prop} {w:World} {E E1 E2:En} {H H1 H2:Hp} (a:nQ B key J1 w E H E1 H1) (b:nQ B key J2 w E1 H1 E2 H2) (U: ∀j,J1 j->Z? j) (Z: ∀j,J2 j->Z? j):nQ B key Z? w E H E2 H2:=by
 refine⟨a.view.trans b.view,fun q x h=>?_,fun q x h=>a.DE q x (b.DE q x h),fun id o h=>?_,bk a.Nh b.Nh,fun q h=>a.ro q (b.ro q h)⟩
 ·rcases a.hd q x h with h|⟨j,h,e⟩
  ·rcases b.hd q x h with h|⟨j,h,e⟩
   ·exact .inl h
   ·exact .inr ⟨j,Z j h,e⟩
  ·exact .inr ⟨j,U j h,e⟩
 ·rcases b.new id o h with h|⟨h,g⟩
  ·exact a.new id o h
  ·exact .inr ⟨h,bk a.Nh g⟩
theorem nQ.nf [bI] {B:Nat} {key:D} {Z?:Nat->Prop} {w:World} {E E':En} {H H':Hp} (a:nQ B key Z? w E H E' H') (r:bO E H w) (hx: ∀id o,H.get id=some o->nf o=true\/(E.θ id).1≠B): ∀id o,H'.get id=some o->nf o=true\/(E'.θ id).1≠B:=by
 intro id o h;rcases a.new id o h with h|⟨h,_⟩
 ·rcases hx id o h with g|g
  ·exact .inl g
  ·exact .inr (by rw [a.view.kp.θ id (r.live id o h).1]; exact g)
 ·exact .inl h
theorem nQ.own [bI] {B:Nat} {key:D} {Z?:Nat->Prop} {w:World} {E E':En} {H H':Hp} (a:nQ B key Z? w E H E' H') {j ty:Nat} (hj: ¬Z? j) {c:FC} {d:D} {u:Value} (ho:oB E w.heap B key j ty c d u):oB E' w.heap B key j ty c d u:=
 ho.bX a.view.kp fun b Y=>by
  rcases a.hd b _ Y with h|⟨i,h,e⟩
  ·exact⟨h,rfl⟩
  ·simp only [ak,true_and] at e;exact absurd (e▸h) hj
theorem r8 [bI] {E:En} {H:Hp} {w:World} (r:bO E H w) {b o c B j:Nat} {key:D} (Y:E.hd b=some (B,key,j)) (hx: ∀id o,H.get id=some o->nf o=true\/(E.θ id).1≠B) (ao:dG) (hn:nf ao=true)
 (ho:OR (E.L4 b o c H.next) w.heap H.next ao):nQ B key (·= j) w E H (E.L4 b o c H.next) (LN H ao):=by
 refine⟨Sr r Y hx ao ho,fun q x h=>?_,fun q x h=>?_,fun id o h=>?_,amu _,fun _ h=>h⟩
 ·show (if q=b then none else E.hd q)=some x\/_;split
  ·rename_i e;subst e;rw [Y] at h;simp only [ag] at h;exact .inr ⟨j,rfl,h.symm⟩
  ·exact .inl h
 ·have h:(if q=b then none else E.hd q)=some x:=h;split at h
  ·simp at h
  ·exact h
 ·rw [uQ] at h;split at h
  ·rename_i e;simp only [ag] at h;exact .inr ⟨by rw [<- h]; exact hn,J⟩
  ·exact .inl h
theorem Rd.i3 {ro:Nat->Prop} {h:Array Obj} {t:Nat} {u:Value} (r:Rd ro h (.sl t) (.i 3) u):False:=by
 generalize hd:D.i 3=d at r
 cases r with
 |nil t=>simp at hd
 |vz t a cap=>simp at hd
 |one t c b o cap ds f hr hc Y U Z=>cases ds<;>simp [dL] at hd
 |many t cs b o cap rows f hr hc Y hl U Z=>cases rows<;>simp [dL] at hd
theorem Rd.aj5 {ro:Nat->Prop} {h:Array Obj} {t:Nat} {d:D} {x:Option Addr} {c:Nat} (r:Rd ro h (.sl t) d (.slice x 0 c)):d.l= []:=by
 generalize hu:Value.slice x 0 c=u at r
 cases r with
 |nil t=>rfl
 |vz t a cap=>rfl
 |one t c b o cap ds f hr hc Y U Z=> simp only [Value.slice.injEq] at hu;rw [bM];exact alM hu.2.1.symm
 |many t cs b o cap rows f hr hc Y hl U Z=> simp only [Value.slice.injEq] at hu;rw [bM,alM hu.2.1.symm];rfl
theorem QV [bI] {α:Type} {ρ:Nat->Int} {c:FC} {x:V} {ty:Nat} {s:St} {k:W->St->T α} {y:α} {E:En} {w:World} {B j:Nat} {key:D} {u:Value} (hρ:E.ρ=ρ) (r:bO E s.h w) (hp:bW ρ s.pc) (hx: ∀id o,s.h.get id=some o->nf o=true\/(E.θ id).1≠B)
 (ho:oB E w.heap B key j ty c (dec (x.den ρ)) u) (h:(U_ c x ty s k).leaf ρ=some y) :
 ∃v h' dY E',bW ρ dY/\nQ B key (·= j) w E s.h E' h'/\VR E' w.heap v u/\(k v { s with h:=h',pc:=dY }).leaf ρ=some y:=by
 cases c with
 |ck c=> refine⟨_,s.h,s.pc,E,hp,nQ.refl r,?_,h⟩;rw [nh,hρ];exact Rd.cell ho
 |mp t=>
  obtain⟨b,bL,c,rfl,Z,h3,h4⟩:=ho;refine⟨_,_,s.pc,E.L4 b 0 0 s.h.next,hp,r8 r Z hx (.jJ x t) rfl ?_,?_,h⟩
  ·simp only [OR];have hθ:(E.L4 b 0 0 s.h.next).θ s.h.next=(b,0):=En.ext_θ_new E s.h.next (b,0) 0;rw [hθ];exact⟨bL,c,h3,by show jL E.ro w.heap t (dec (x.den E.ρ)).l bL.toList; rw [hρ]; exact h4⟩
  ·simp only [VR];have hθ:(E.L4 b 0 0 s.h.next).θ s.h.next=(b,0):=En.ext_θ_new E s.h.next (b,0) 0;rw [hθ];exact⟨rfl,.inl rfl⟩
 |own t=>
  simp only [U_] at h;obtain⟨fA,fk,U⟩:=cH hp h;rw [gY,cC] at U;simp only [V.den] at U;rcases ho with ⟨⟨a,rfl⟩,Z⟩|⟨b,o,n,cap,a,arr,lo,hi,rfl,g2,g3,g4,g5,g6,g7⟩
  ·have hl:=Z.aj5;rw [hl] at U;obtain⟨jt,jk,h3⟩:=cH (s:={ s with pc:=fA }) fk U;rw [gY,lI] at h3;simp only [V.den] at h3
   have fX:(enc (dec (x.den ρ)) == enc (.i 3))=false:=by rw [beq_eq_false_iff_ne];intro e;rw [gN e] at Z;exact Z.i3
   rw [fX] at h3;refine⟨_,s.h,jt,E,jk,nQ.refl r,?_,h3⟩;simp only [VR];rw [hρ];exact⟨⟨a,rfl⟩,Z⟩
  ·have hθ: ∀c,(E.L4 b o c s.h.next).θ s.h.next=(b,o):=fun c=>En.ext_θ_new E s.h.next (b,o) c;have hκ: ∀c,(E.L4 b o c s.h.next).κ s.h.next=c:=fun c=>En.ext_κ_new E s.h.next (b,o) c;rcases g7 with ⟨rfl,hd⟩|⟨q1,rfl,us,q3,q4,q5⟩
   ·rw [hd] at U;obtain⟨jt,jk,h3⟩:=cH (s:={ s with pc:=fA }) fk U;rw [gY,lI] at h3;simp only [V.den,hd,beq_self_eq_true] at h3;refine⟨_,_,jt,E.L4 b o (cap*(rowOf t).es) s.h.next,jk,r8 r g3 hx (.cells [] ty) rfl ?_,?_,h3⟩
    ·simp only [OR];rw [hθ,hκ];refine⟨arr,lo,hi,[],g4,by simp only [cA],fun i u hu=>by simp at hu,alT _,?_,g6,ad⟩;rcases g5 with ⟨_,g5⟩|⟨g5,_,g8⟩
     ·exact g5
     ·rw [g5,alG]; exact g8
    ·simp only [VR];refine⟨.inl rfl,a,cap,rfl,alT _,?_⟩;simp only [eF];rw [hθ,hκ];rcases g5 with ⟨g5,_⟩|⟨g5,_,_⟩
     ·exact .inl ⟨g5,ay _⟩
     ·exact .inr ⟨g5,trivial,by rw [g5,alG]⟩
   ·have lr:0<(dec (x.den ρ)).l.length:=by
     have:=q1.2.2;exact alX.2 this
    have fX:(((dec (x.den ρ)).l.length:Int) == 0)=false:=by rw [beq_eq_false_iff_ne]; omega
    rw [fX] at U
    have g5:a=⟨b,o,none⟩/\o+cap*(rowOf t).es=arr.size:=by
     rcases g5 with g5|⟨_,g5,_⟩
     ·exact g5
     ·omega
    have rT:sg (rowOf t) []:=fun p hp=>by simp at hp
    have hlen:(bG E.ρ (rowOf t) [] (dec (x.den ρ)).l 0).length<=cap*(rowOf t).es:=by rw [cD rT];exact al5 _ g2
    have kp:=zF r b o (cap*(rowOf t).es);refine⟨_,_,fA,E.L4 b o (cap*(rowOf t).es) s.h.next,fk,r8 r g3 hx (.vec x t ty []) rfl ?_,?_,U⟩
    ·simp only [OR];rw [hθ,hκ];show (sg (rowOf t) []/\rQ (rowOf t) (dec (x.den E.ρ)))/\∃arr lo hi us,w.heap[b]?=some (.cells arr ty (lo,hi))/\cA _ w.heap (bG E.ρ (rowOf t) [] (dec (x.den E.ρ)).l 0) us/\_;rw [hρ];rw [hρ] at q3 hlen;exact⟨⟨rT,q1⟩,arr,lo,hi,us,g4,cA.bX kp _ _ q3,q4,(by show (bG E.ρ (rowOf t) [] (dec (x.den E.ρ)).l 0).length<=_; rw [hρ]; exact hlen),g5.2,g6,q5⟩
    ·simp only [VR];refine⟨.inl rfl,(dec (x.den ρ)).l.length,a,cap,?_,rfl,g2,?_⟩
     ·show (dN x).den E.ρ=_;rw [cC,hρ]
     ·simp only [eF];rw [hθ,hκ];exact .inl ⟨g5.1,ay _⟩
theorem K5 [bI] {α:Type} {ρ:Nat->Int} {eS:List Nat} {x:V} {y:α} {w:World} {B:Nat} {key:D}: ∀{cs:List FC} {j:Nat} {s:St} {k:List W->St->T α} {E:En} {us:List Value},E.ρ=ρ->bO E s.h w->bW ρ s.pc->(∀id o,s.h.get id=some o->nf o=true\/(E.θ id).1≠B)->
 us.length=cs.length->(∀i c u,cs[i]?=some c->us[i]?=some u->oB E w.heap B key (j+i+1) (eS.getD (j+i+2) 0) c ((dec (x.den ρ)).hd (j+i)) u)->(QU eS x cs j s k).leaf ρ=some y->
 ∃vs h' dY E',bW ρ dY/\nQ B key (fun i=>j<i) w E s.h E' h'/\cA E' w.heap vs us/\(k vs { s with h:=h',pc:=dY }).leaf ρ=some y
 |[],j,s,k,E,us,hρ,r,hp,hx,hl,ho,h=>by have:us= []:=alM hl;subst this;exact⟨[],s.h,s.pc,E,hp,nQ.refl r,by simp only [cA],h⟩
 |c::cs,j,s,k,E,[],hρ,r,hp,hx,hl,ho,h=>by simp at hl
 |c::cs,j,s,k,E,u::us,hρ,r,hp,hx,hl,ho,h=>by
  simp only [QU] at h;have h0:=ho 0 c u rfl rfl;rw [bg,<- oN] at h0;obtain⟨v,U,fA,E1,fk,f1,v1,g1⟩:=QV hρ r hp hx h0 h;have hρ1:E1.ρ=ρ:=f1.view.kp.ρ.trans hρ
  obtain⟨vs,Z,jt,E2,jk,f2,v2,g2⟩:=K5 (s:={ s with h:=U,pc:=fA }) (us:=us) hρ1 f1.view.rel fk (f1.nf r hx) (by simpa using hl) (fun i c' u' hc hu=>by
   have:=ho (i+1) c' u' (by simpa using hc) (by simpa using hu);have e1:j+(i+1)=j+1+i:=J
   rw [e1] at this
   exact f1.own J this) g1
  refine⟨v::vs,Z,jt,E2,jk,f1.trans f2 (fun i hi=>by omega) (fun i hi=>by omega),?_,g2⟩;rw [bV];exact⟨u,us,rfl,VR.bX f2.view.kp _ _ v1,v2⟩
theorem V_ [bI] {α:Type} {ρ:Nat->Int} {t:Nat} {eS:List Nat} {x:V} {y:α} {w:World} {B:Nat} {key:D} {s:St} {k:W->St->T α} {E:En} {u:Value} (hρ:E.ρ=ρ) (r:bO E s.h w) (hp:bW ρ s.pc) (hx: ∀id o,s.h.get id=some o->nf o=true\/(E.θ id).1≠B)
 (ho:pA E w.heap B t eS key (dec (x.den ρ)) u) (h:(V' t eS x s k).leaf ρ=some y) :
 ∃v h' dY E',bW ρ dY/\nQ B key (fun _=>True) w E s.h E' h'/\VR E' w.heap v u/\(k v { s with h:=h',pc:=dY }).leaf ρ=some y:=by
 unfold pA at ho;unfold V' at h;split at ho
 ·rename_i NF;rw [NF] at h;obtain⟨c,hc,ho⟩:=ho;rw [hc] at h;obtain⟨v,U,fA,E1,fk,f1,v1,g1⟩:=QV hρ r hp hx ho h;exact⟨v,U,fA,E1,fk,⟨f1.view,fun b x Y=>(f1.hd b x Y).imp id fun⟨j,_,e⟩=> ⟨j,trivial,e⟩,f1.DE,f1.new,f1.Nh,f1.ro⟩,v1,g1⟩
 ·rename_i NF;rw [NF] at h;obtain⟨b,o,arr,lo,hi,rfl,Z,h3,h4,h5,h6⟩:=ho
  have An: ∃us:List Value,us.length=(qb t).cs.length/\∀j u,us[j]?=some u->arr[o+j]?=some u:=by
   refine⟨(arr.toList.drop o).take (qb t).cs.length,?_,fun j u hu=>?_⟩
   ·rw [bd,bq,bj]; omega
   ·rw [ame] at hu;split at hu
    ·rw [amd,bu] at hu;exact hu
    ·simp at hu
  obtain⟨us,hl,Gv⟩:=An
  have jB: ∀i c u,(qb t).cs[i]?=some c->us[i]?=some u->u.oneCell'=true/\oB E w.heap B key (i+1) (eS.getD (i+2) 0) c ((dec (x.den ρ)).hd i) u:=by intro i c u hc hu;obtain⟨u',p1,p2,p3⟩:=h6 i c hc;rw [Gv i u hu] at p1;simp only [ag] at p1;subst p1;exact⟨p2,p3⟩
  obtain⟨vs,U,fA,E1,fk,f1,v1,g1⟩:=K5 (j:=0) (us:=us) hρ r hp hx hl (fun i c u hc hu=>by
   rw [ay]
   exact (jB i c u hc hu).2) h
  have QO:E1.hd b=some (B,key,0):=by
   rcases f1.hd b _ Z with q|⟨j,q1,q2⟩
   ·exact q
   ·simp only [ak,true_and] at q2;omega
  have hθ:(E1.L4 b o (arr.size-o) U.next).θ U.next=(b,o):=En.ext_θ_new E1 U.next (b,o) (arr.size-o);have hκ:(E1.L4 b o (arr.size-o) U.next).κ U.next=arr.size-o:=En.ext_κ_new E1 U.next (b,o) (arr.size-o);have kp:=zF f1.view.rel b o (arr.size-o);have hvl:=v1.length
  have f2:=r8 (o:=o) (c:=arr.size-o) f1.view.rel QO (f1.nf r hx) (.cells vs (eS.getD 0 0)) rfl (by
   simp only [OR];rw [hθ,hκ];refine⟨arr,lo,hi,us,h3,cA.bX kp _ _ v1,Gv,J,J,h5,fun u hu=>?_⟩;obtain⟨i,hi'⟩:=amV hu;have ei:=(aW.1 hi').1;have akx:i<(qb t).cs.length:=J
   exact (jB i _ u (aM akx) hi').1)
  refine⟨_,_,fA,_,fk,f1.trans f2 (fun _ _=>trivial) (fun _ _=>trivial),?_,g1⟩;simp only [VR];rw [hθ];exact⟨by rw [bg],.inl rfl⟩
theorem eJ.one {E:En} {h:Array Obj} {B t:Nat} {eS:List Nat} {ov:List (V×W)} {n:Int} {d:D} (rT:lE E.ρ n ov=none): ∀{ds:List D} {es:List MapEntry},(ds.map jc).Nodup->ec ds (.i n)=some d->eJ E h B t eS ov ds es->
 ∃en:MapEntry,pA E h B t eS (.i n) d en.val/\∀e1∈es,e1.key= .int .i64 n->e1=en
 |[],_,_,hf,_=>by simp [ec] at hf
 |a::ds,_,Bg,hf,⟨e0,rr,m,h0,q1,q2,q3,q4⟩=>by
  subst h0;have hk:jc a= .i m:=by rw [q1]; rfl
  simp only [aw,al0] at Bg;simp only [ec] at hf;by_cases hm:m=n
  ·subst hm;rw [ah hk] at hf;simp only [ag] at hf;rw [rT,hf] at q3;refine⟨e0,q3,fun e1 U Z=>?_⟩;rcases ax.1 U with rfl|U
   ·rfl
   ·obtain⟨i,hi⟩:=amV U;exact absurd (eJ.set.eJ.B9 q4 hi Z) (by rw [<- hk]; exact Bg.1)
  ·rw [af (by rw [hk]; simpa using hm)] at hf;obtain⟨en,p1,p2⟩:=eJ.one rT Bg.2 hf q4;refine⟨en,p1,fun e1 U Z=>?_⟩;rcases ax.1 U with rfl|U
   ·rw [q2] at Z;simp only [Value.int.injEq,true_and] at Z;exact absurd Z hm
   ·exact p2 e1 U Z
theorem eJ.NW {E E3:En} {h:Array Obj} (kp:fh E h E3 h) {B t:Nat} {eS:List Nat} {ov:List (V×W)} {n:Int} {x:V} {v:W} (hx:x.den E.ρ=n) (rT:lE E.ρ n ov=none) (hd: ∀b m j,m≠n->E.hd b=some (B,.i m,j)->E3.hd b=some (B,.i m,j)) :
 ∀{ds:List D} {es:List MapEntry},(∀e1∈es,e1.key= .int .i64 n->VR E3 h v e1.val)->eJ E h B t eS ov ds es->eJ E3 h B t eS ((x,v)::ov) ds es
 |[],_,_,ho=>ho
 |a::ds,_,hv,⟨e0,rr,m,h0,q1,q2,q3,q4⟩=>by
  subst h0;refine⟨e0,rr,m,rfl,q1,q2,?_,eJ.NW kp hx rT hd (fun e1 U Z=>hv e1 (by simp [U]) Z) q4⟩;simp only [lE,kp.ρ,hx];by_cases hm:n=m
  ·rw [ah hm];exact hv e0 ad (by rw [q2,hm])
  ·rw [af hm];split at q3
   ·exact VR.bX kp _ _ q3
   ·exact q3.bX kp fun b j Y=> ⟨hd b m j (fun e=>hm e.symm) Y,rfl⟩
theorem T! [bI] {α:Type} {ρ:Nat->Int} {id:Nat} {x:V} {y:α} {w:World} {s:St} {k:St->T α} {E:En} (hρ:E.ρ=ρ) (r:bO E s.h w) (hp:bW ρ s.pc) (h:(T? id x s k).leaf ρ=some y) :
 ∃h' dY E',bW ρ dY/\View E s.h w E' h'/\(k { s with h:=h',pc:=dY }).leaf ρ=some y:=by
 unfold T? at h;split at h
 ·rename_i o hl;split at h
  ·rename_i e t eS ov;obtain⟨fA,fk,U⟩:=xw hp h
   cases rT:lE ρ (x.den ρ) ov with
   |some v=>rw [rT] at U; exact⟨s.h,fA,E,fk,View.refl r,U⟩
   |none=>
    rw [rT] at U;obtain⟨jt,jk,Z⟩:=cH (s:={ s with pc:=fA }) fk U;rw [vL] at Z;simp only [V.den,fc.den,rb] at Z;obtain⟨g0,bL,c',g1,g2⟩:=yO r hl;rw [hρ] at g0 g2;have hm: ∀n,lE E.ρ n ov=lE ρ n ov:=fun n=>by rw [hρ]
    cases hf:ec (dec (e.den ρ)).l (.i (x.den ρ)) with
    |none=> rw [hf] at Z;exact⟨s.h,jt,E,jk,View.refl r,Z⟩
    |some d=>
     rw [hf] at Z;simp only [bo,if_true] at Z;have Z:(V' t eS (.op .Df e (mS x)) { s with pc:=jt,h:=s.h.drop id } fun v s=>k { s with h:=s.h.put id (.qS e t eS ((x,v)::ov)) }).leaf ρ=some y:=Z
     have hdx:dec ((V.op .Df e (mS x)).den ρ)=d:=by simp only [V.den,fc.den,bB,rb,hf,az]
     obtain⟨en,akj,huq⟩:=eJ.one (by rw [hρ]; exact rT) g0.1 hf g2;obtain⟨dst,drl⟩:=vT r id;have Td:=(r.live id _ hl).1
     have Gy:id<s.h.next:=by
      rcases aQ id s.h.next with q|q
      ·exact q
      ·exact absurd Td (r.fresh id q)
     have XI: ∀j o,(s.h.drop id).get j=some o->s.h.get j=some o/\j≠id:=by
      intro j o hj;rw [Hp.j5] at hj;split at hj
      ·simp at hj
      ·rename_i e; exact⟨hj,e⟩
     have hx0: ∀j o,(s.h.drop id).get j=some o->nf o=true\/(E.θ j).1≠(E.θ id).1:=by intro j o hj;obtain⟨q1,q2⟩:=XI j o hj;exact .inr fun e=>q2 (r.inj j id _ _ q1 hl e)
     obtain⟨v,h3,T5,E3,Iq,f3,v3,g3⟩:=V_ (s:={ s with pc:=jt,h:=s.h.drop id }) (B:=(E.θ id).1) (key:=.i (x.den ρ)) hρ drl jk hx0 (by rw [hdx]; exact akj) Z;have hθ:=f3.view.kp.θ id Td;have hρ3:E3.ρ=ρ:=f3.view.kp.ρ.trans hρ
     have hnn: ∀j o,h3.get j=some o->j≠id/\(E3.θ j).1≠(E3.θ id).1:=by
      intro j o hj;rcases f3.new j o hj with q|⟨_,q⟩
      ·obtain⟨q1,q2⟩:=XI j o q;refine⟨q2,?_⟩;rw [hθ,f3.view.kp.θ j (r.live j o q1).1];exact fun e=>q2 (r.inj j id _ _ q1 hl e)
      ·have q:s.h.next<=j:=q;refine⟨J,fun e=>?_⟩;rw [hθ] at e;rcases f3.view.hold _ (.inl ⟨j,o,hj,rfl⟩) with ⟨i0,o0,q1,q2⟩|⟨y0,q1⟩
       ·obtain⟨q3,q4⟩:=XI i0 o0 q1;exact q4 (r.inj i0 id _ _ q3 hl (q2.trans e))
       ·rw [e] at q1;exact (r.hid _ _ q1).2.2 id _ hl rfl
     have hr3:bO E3 (h3.put id (.qS e t eS ((x,v)::ov))) w:=by
      refine J6 f3.view.rel (f3.view.kp.dm id Td) ?_ hnn ?_ ?_
      ·rw [hθ];exact fun hr=>(r.live id _ hl).2.2 (f3.ro _ hr)
      ·rw [hθ];intro q hq;exact (r.hid _ _ (f3.DE _ _ hq)).2.2 id _ hl rfl
      ·simp only [OR];rw [hρ3,hθ];refine⟨⟨g0.1,fun p hp=>?_,?_⟩,bL,c',g1,?_⟩
       ·rcases ax.1 hp with rfl|hp
        ·rcases yN (E:=E) (i:=0) (dt:=.int .i64) ⟨_,rfl⟩ (x.den ρ) g2 with ⟨q1,_⟩|⟨_,_,_,_,q2,_⟩
         ·rw [hf] at q1; simp at q1
         ·exact q2
        ·exact g0.2.1 p hp
       ·simp only [aw,al0];exact⟨HX rT,g0.2.2⟩
       ·exact eJ.NW f3.view.kp (x:=x) (by rw [hρ]) (by rw [hρ]; exact rT) (fun b m j hm Y=>by
         rcases f3.hd b _ Y with q|⟨j',_,q⟩
         ·exact q
         ·simp only [ak,D.i.injEq,true_and] at q
          exact absurd q.1 hm) (fun e1 U Z=>by rw [huq e1 U Z]; exact v3) g2
     refine⟨_,T5,E3,Iq,⟨hr3,f3.view.kp,fun b Y=> .inl (f3.ro b Y),fun b Y=>by
      rcases Y with ⟨j,o,q1,q2⟩|q
      ·rw [Hp.bR] at q1;split at q1
       ·rename_i e;rw [e,hθ] at q2;exact .inl ⟨id,_,hl,q2⟩
       ·rcases f3.view.hold b (.inl ⟨j,o,q1,q2⟩) with ⟨i0,o0,p1,p2⟩|p
        ·exact .inl ⟨i0,o0,(XI i0 o0 p1).1,p2⟩
        ·exact .inr p
      ·rcases f3.view.hold b (.inr q) with ⟨i0,o0,p1,p2⟩|p
       ·exact .inl ⟨i0,o0,(XI i0 o0 p1).1,p2⟩
       ·exact .inr p⟩,g3⟩
  ·exact⟨s.h,s.pc,E,hp,View.refl r,h⟩
 ·exact⟨s.h,s.pc,E,hp,View.refl r,h⟩
end
end Go.As
end
section
namespace Go.As
noncomputable section
def SQ {α:Type} (c:FC) (v:W) (ty:Nat) (s:St) (k:V->St->T α):T α:=match c with
 | .ck c=>NV v s fun v s=>match mz c v with
   |some x=>k x s
   |none=> .fail
 | .mp t=>match v with
   | .map i=>match s.h.get i with
     |some o=>match o with
      | .jJ e t'=>match Nat.beq t t' with
        |true=>k e { s with h:=s.h.drop i }
        |false=> .fail
      |_=> .fail
     |none=> .fail
   |_=> .fail
 | .own t=>match v with
   | .eg=>k (.eo (.i 1)) s
   | .wR z t'=>match Nat.beq t t' with
     |true=>k z s
     |false=> .fail
   | .slice i o n c=>match c with
     | .exact m=>match n with
       |0=>match m with
        |0=>k (.eo (.i 2)) s
        |_=> .fail
       |_=> .fail
     | .rest es=>match s.h.get i with
       |some ob=>match ob with
        | .cells cs US=>if es=(rowOf t).es/\US=ty/\o+n*es=cs.length then match n with
         |0=>k (.eo (.i 3)) { s with h:=s.h.drop i }
         |m+1=>match j9 (rowOf t) (.eo (.i 0)) (m+1) (cs.drop o) with
          |some e=>k e { s with h:=s.h.drop i }
          |none=> .fail
         else .fail
        |_=> .fail
       |none=> .fail
   | .oL i n t'=>match Nat.beq t t' with
     |true=>match AK s.h i t with
      |some (e,US)=>match Nat.beq US ty&&eR n (dN e) with
       |true=>k e { s with h:=s.h.drop i }
       |false=> .fail
      |none=> .fail
     |false=> .fail
   | .tE i lo n t'=>match Nat.beq t t' with
     |true=>match AK s.h i t with
      |some (e,US)=>match Nat.beq US ty with
       |true=>xb e lo n s fun s=>jx s (pJ n (.lit 0)) fun s b=>match b with
        |true=>k (.eo (.i 3)) { s with h:=s.h.drop i }
        |false=>k (C6 e lo n) { s with h:=s.h.drop i }
       |false=> .fail
      |none=> .fail
     |false=> .fail
   |_=> .fail
def FV {α:Type} (eS:List Nat):List FC->Nat->List W->St->(V->St->T α)->T α
 |[],_,[],s,k=>k (.eo (.i 0)) s
 |c::cs,j,v::vs,s,k=>SQ c v (eS.getD (j+2) 0) s fun a s=>FV eS cs (j+1) vs s fun b s=>k (ey a b) s
 |_,_,_,_,_=> .fail
def adV {α:Type} (t:Nat) (eS:List Nat) (v:W) (s:St) (k:V->St->T α):T α:=match (qb t).ptr with
 |false=>match (qb t).cs with
  |[c]=>SQ c v (eS.getD 1 0) s k
  |_=> .fail
 |true=>match v with
  | .ptr i o=>match o with
    |0=>match s.h.get i with
     |some ob=>match ob with
      | .cells cs ty=>match Nat.beq ty (eS.getD 0 0) with
        |true=>FV eS (qb t).cs 0 cs { s with h:=s.h.drop i } k
        |false=> .fail
      |_=> .fail
     |none=> .fail
    |_=> .fail
  |_=> .fail
def PC {α:Type} (t:Nat) (eS:List Nat):List (V×W)->V->St->(V->St->T α)->T α
 |[],e,s,k=>k e s
 |(x,v)::l,e,s,k=>adV t eS v s fun d s=>PC t eS l (.op .xf e (ey (mS x) d)) s k
def G! {α:Type} (id:Nat) (s:St) (k:St->T α):T α:=match s.h.get id with
 |some o=>match o with
  | .qS e t eS ov=>PC t eS ov e { s with h:=s.h.drop id } fun e' s=>k { s with h:=s.h.put id (.qS e' t eS []) }
  |_=>k s
 |none=>k s
structure lD [bI] (w:World) (E:En) (H:Hp) (E':En) (H':Hp):Prop where
 view:View E H w E' H'
 mono: ∀b x,E.hd b=some x->E'.hd b=some x
 sub: ∀id o,H'.get id=some o->H.get id=some o
 hold: ∀b,E'.ro b\/(∃x,E'.hd b=some x)->E.ro b\/(∃x,E.hd b=some x)\/∃id o,H.get id=some o/\(E.θ id).1=b
theorem lD.refl [bI] {w:World} {E:En} {H:Hp} (r:bO E H w):lD w E H E H:=⟨View.refl r,fun _ _ h=>h,fun _ _ h=>h,fun _ h=>h.imp id .inl⟩
theorem lD.trans [bI] {w:World} {E E1 E2:En} {H H1 H2:Hp} (r:bO E H w) (a:lD w E H E1 H1) (b:lD w E1 H1 E2 H2):lD w E H E2 H2:=by
 refine⟨a.view.trans b.view,fun q x h=>b.mono q x (a.mono q x h),fun id o h=>a.sub id o (b.sub id o h),fun q h=>?_⟩;rcases b.hold q h with h|h|⟨id,o,U,Z⟩
 ·exact a.hold q (.inl h)
 ·exact a.hold q (.inr h)
 ·have h3:=a.sub id o U;rw [a.view.kp.θ id (r.live id o h3).1] at Z;exact .inr (.inr ⟨id,o,h3,Z⟩)
theorem lD.ad0 [bI] {w:World} {E E':En} {H H':Hp} (r:bO E H w) (f:JE E w H E' H'):lD w E H E' H':=by
 refine⟨View.adZ r f.ek f.rel,fun b x h=>by rw [f.ek.hd]; exact h,f.sub.get,fun b h=>?_⟩;rcases h with h|⟨x,h⟩
 ·rcases f.ek.qQ b h with g|g|g
  ·exact .inl g
  ·exact .inr (.inr g)
  ·have:=f.rel.pL b h;omega
 ·exact .inr (.inl ⟨x,by rw [<- f.ek.hd]; exact h⟩)
theorem lD.own [bI] {w:World} {E E':En} {H H':Hp} (a:lD w E H E' H') {B:Nat} {key:D} {j ty:Nat} {c:FC} {d:D} {u:Value} (ho:oB E w.heap B key j ty c d u):oB E' w.heap B key j ty c d u:=
 ho.bX a.view.kp fun b Y=> ⟨a.mono b _ Y,rfl⟩
def En.Te (E:En) (b:Nat) (x:Nat×D×Nat):En:={ E with hd:=fun q=>if q=b then some x else E.hd q }
theorem rA [bI] {E:En} {H:Hp} {w:World} (r:bO E H w) {i:Nat} {o:dG} (hl:H.get i=some o) (x:Nat×D×Nat):lD w E H (E.Te (E.θ i).1 x) (H.drop i):=by
 have hg: ∀j o,(H.drop i).get j=some o->H.get j=some o/\j≠i:=by
  intro j o hj;rw [Hp.j5] at hj;split at hj
  ·simp at hj
  ·rename_i e; exact⟨hj,e⟩
 have kp:fh E w.heap (E.Te (E.θ i).1 x) w.heap:=⟨rfl,fun _ h=>h,fun _ _=>rfl,fun _ _=>rfl,fun _ h=>h,fun _ _=>rfl⟩
 have mono: ∀b y,E.hd b=some y->(E.Te (E.θ i).1 x).hd b=some y:=by
  intro b y Y;show (if b=(E.θ i).1 then some x else E.hd b)=_;rw [af]
  ·exact Y
  ·exact fun e=>(r.hid b y Y).2.2 i o hl e.symm
 have nG: ∀b y,(E.Te (E.θ i).1 x).hd b=some y->b=(E.θ i).1\/E.hd b=some y:=by
  intro b y Y;have Y:(if b=(E.θ i).1 then some x else E.hd b)=some y:=Y;split at Y
  ·rename_i e; exact .inl e
  ·exact .inr Y
 refine⟨⟨⟨r.fresh,r.res,fun j o2 Z=>?_,fun a b o1 o2 U Z he=>r.inj a b o1 o2 (hg _ _ U).1 (hg _ _ Z).1 he,r.pL,r.iT,fun b y Y=>?_⟩,kp,fun _ h=> .inl h,fun b Y=>?_⟩,mono,fun j o2 Z=>(hg j o2 Z).1,fun b Y=>?_⟩
 ·obtain⟨g1,g2,g3⟩:=r.live j o2 (hg j o2 Z).1;exact⟨g1,g2.bX kp g1 rfl fun key b q Y=> ⟨mono b _ Y,rfl⟩,g3⟩
 ·rcases nG b y Y with rfl|Y
  ·refine⟨fF r hl,(r.live i o hl).2.2,fun j o2 Z e=>?_⟩;obtain⟨q1,q2⟩:=hg j o2 Z;exact q2 (r.inj j i o2 o q1 hl e)
  ·obtain⟨q1,q2,q3⟩:=r.hid b y Y;exact⟨q1,q2,fun j o2 Z=>q3 j o2 (hg j o2 Z).1⟩
 ·rcases Y with ⟨j,o2,Z,he⟩|⟨y,Y⟩
  ·exact .inl ⟨j,o2,(hg j o2 Z).1,he⟩
  ·rcases nG b y Y with rfl|Y
   ·exact .inl ⟨i,o,hl,rfl⟩
   ·exact .inr ⟨y,Y⟩
 ·rcases Y with Y|⟨y,Y⟩
  ·exact .inl Y
  ·rcases nG b y Y with rfl|Y
   ·exact .inr (.inr ⟨i,o,hl,rfl⟩)
   ·exact .inr (.inl ⟨y,Y⟩)
theorem sF (E:En) (b:Nat) (x:Nat×D×Nat):(E.Te b x).hd b=some x:=by show (if b=b then some x else E.hd b)=_;rw [ah rfl]
theorem Pd {E:En} {h:Array Obj} {i:Nat} {e:V} {t ty:Nat} (ho:OR E h i (.vec e t ty [])) {l k:Nat} (hk:l+k<=(dec (e.den E.ρ)).l.length) :
 ∃arr lo hi us,h[(E.θ i).1]?=some (.cells arr ty (lo,hi))/\(E.θ i).2+E.κ i=arr.size/\(∀q,lo<=q->q<hi->arr.size<=q)/\cA E h (bG E.ρ (rowOf t) [] (((dec (e.den E.ρ)).l.take (l+k)).drop l) 0) us/\
  (∀q u,us[q]?=some u->arr[(E.θ i).2+l*(rowOf t).es+q]?=some u)/\∀u∈us,u.oneCell'=true:=by
 simp only [OR] at ho;obtain⟨⟨rT,_⟩,arr,lo,hi,us,U,Z,h3,h4,h5,h6,h7⟩:=ho;generalize (dec (e.den E.ρ)).l=L at *
 have hL:L=L.take l++((L.take (l+k)).drop l++L.drop (l+k)):=by
  rw [List.drop_take,show l+k-l=k by omega]
  have e1:(L.drop l).take k++L.drop (l+k)=L.drop l:=by rw [<- anr,al6]
  rw [e1,al6]
 have R?:=Z;rw [hL,gE,gE] at R?;obtain⟨a,bc,rfl,a1,a2⟩:=R?.split;obtain⟨b,c,rfl,b1,b2⟩:=a2.split
 have NN:a.length=l*(rowOf t).es:=by rw [a1.length,cD rT,bd,anm J]
 refine⟨arr,lo,hi,b,U,h5,h6,b1,fun q u hu=>?_,fun u hu=>h7 u (by simp [hu])⟩;have ff:=(aW.1 hu).1
 have:=h3 (l*(rowOf t).es+q) u (by
  rw [anb J,anz J,NN,ans]
  exact hu)
 rw [<- alF] at this;exact this
theorem Ee {α:Type}: ∀{n:Nat} {l:List α},n<=l.length->As.eE n l=some (l.drop n)
 |0,_,_=>rfl
 |n+1,[],h=>by simp at h
 |n+1,_::l,h=>by simp only [As.eE,ana];exact Ee (by simpa using h)
theorem PD [bI] {α:Type} {ρ:Nat->Int} {c:FC} {v:W} {ty:Nat} {s:St} {k:V->St->T α} {y:α} {E:En} {w:World} {u:Value} (B:Nat) (key:D) (j:Nat) (hρ:E.ρ=ρ) (r:bO E s.h w) (hp:bW ρ s.pc) (hv:VR E w.heap v u) (h:(SQ c v ty s k).leaf ρ=some y) :
 ∃x h' dY E',bW ρ dY/\lD w E s.h E' h'/\oB E' w.heap B key j ty c (dec (x.den ρ)) u/\(k x { s with h:=h',pc:=dY }).leaf ρ=some y:=by
 cases c with
 |ck c=>
  simp only [SQ] at h;obtain⟨v',U,fA,E1,fk,f,q,g⟩:=IB hρ r hp h;split at g
  ·rename_i x hx;refine⟨x,U,fA,E1,fk,lD.ad0 r f,?_,g⟩;have:=(kG (q u hv) hx).rd (oJ hx);rw [f.ρ,hρ] at this;exact this
  ·simp [T.leaf] at g
 |mp t=>
  simp only [SQ] at h;split at h
  ·rename_i i;split at h
   ·rename_i o hl;split at h
    ·rename_i e t';split at h
     ·rename_i ht;have ht:=aq ht;subst ht;have ho:=(r.live i _ hl).2.1;simp only [OR] at ho;obtain⟨bL,c',g1,g2⟩:=ho;simp only [VR] at hv;obtain⟨rfl,_⟩:=hv;rw [hρ] at g2;exact⟨e,_,s.pc,_,hp,rA r hl (B,key,j),⟨(E.θ i).1,bL,c',rfl,sF _ _ _,g1,g2⟩,h⟩
     ·simp [T.leaf] at h
    ·simp [T.leaf] at h
   ·simp [T.leaf] at h
  ·simp [T.leaf] at h
 |own t=>
  simp only [SQ] at h;split at h
  ·simp only [VR] at hv;subst hv;refine⟨_,s.h,s.pc,E,hp,lD.refl r,.inl ⟨⟨none,rfl⟩,?_⟩,h⟩;simp only [V.den,bB];exact .nil t
  ·rename_i z t';split at h
   ·rename_i ht;have ht:=aq ht;subst ht;simp only [VR] at hv;rw [hρ] at hv;exact⟨_,s.h,s.pc,E,hp,lD.refl r,.inl hv,h⟩
   ·simp [T.leaf] at h
  ·rename_i i o n c;split at h
   ·rename_i m;split at h
    ·split at h
     ·simp only [VR,eF] at hv;obtain⟨_,a,cap,rfl,_,rfl,_⟩:=hv;refine⟨_,s.h,s.pc,E,hp,lD.refl r,.inl ⟨⟨some a,rfl⟩,?_⟩,h⟩;simp only [V.den,bB];exact .vz t a 0
     ·simp [T.leaf] at h
    ·simp [T.leaf] at h
   ·rename_i es;split at h
    ·rename_i ob hl;split at h
     ·rename_i cs US;split at h
      ·rename_i hc;obtain⟨rfl,rfl,hlen⟩:=hc;have ho:=(r.live i _ hl).2.1;simp only [OR] at ho;obtain⟨arr,lo,hi,us,g1,g2,g3,g4,g5,g6,g7⟩:=ho;simp only [VR,eF] at hv;obtain⟨_,a,cap,rfl,q1,q2⟩:=hv
       have gI:(a=⟨(E.θ i).1,(E.θ i).2+o,none⟩/\(E.θ i).2+o+cap*(rowOf t).es=arr.size)\/(cap=0/\n=0/\(E.θ i).2+o=arr.size):=by
        rcases q2 with ⟨q2,q3⟩|⟨q2,q3,q4⟩
        ·exact .inl ⟨q2,J⟩
        ·exact .inr ⟨q2,q3,J⟩
       have hs:=rA r hl (B,key,j);split at h
       ·refine⟨_,_,s.pc,_,hp,hs,.inr ⟨(E.θ i).1,(E.θ i).2+o,0,cap,a,arr,lo,hi,rfl,q1,sF _ _ _,g1,gI,g6,.inl ⟨rfl,?_⟩⟩,h⟩;simp only [V.den,bB]
       ·rename_i m;split at h
        ·rename_i e he;obtain⟨ds,d1,d2,d3,d4,d5⟩:=qf (ρ:=ρ) _ he;have hz:(dec ((V.eo (.i 0)).den ρ))= .i 0:=by simp only [V.den,bB]
         rw [hz] at d2 d3;have d2:(dec (e.den ρ)).l=ds:=d2;have d3:=d3 rfl;refine⟨e,_,s.pc,_,hp,hs,.inr ⟨(E.θ i).1,(E.θ i).2+o,m+1,cap,a,arr,lo,hi,rfl,q1,sF _ _ _,g1,gI,g6,.inr ⟨⟨d3,by rw [d2]; exact d4,?_⟩,by rw [d2]; exact d1,us.drop o,?_,?_,?_⟩⟩,h⟩
         ·rw [d2];intro e0;rw [e0] at d1;simp at d1
         ·rw [d2];show cA _ w.heap (bG E.ρ (rowOf t) [] ds 0) (us.drop o);rw [hρ];have E4:As.eE o cs=some (cs.drop o):=Ee J;exact d5 _ _ _ _ (by exact hρ) (cA.bX hs.view.kp _ _ (g2.eE E4).1)
         ·intro q u hu;rw [amd] at hu;have:=g3 _ u hu;rw [<- alF] at this;exact this
         ·exact fun u hu=>g7 u (br hu)
        ·simp [T.leaf] at h
      ·simp [T.leaf] at h
     ·simp [T.leaf] at h
    ·simp [T.leaf] at h
  ·rename_i i n t';split at h
   ·rename_i ht;have ht:=aq ht;subst ht;split at h
    ·rename_i e US N!;split at h
     ·rename_i hc;simp only [an] at hc;have NA:=aq hc.1;have hn:=cO _ _ hc.2;subst NA hn;have hl:=mQ N!;have ho:=(r.live i _ hl).2.1;have hw:=(OR.nY.1 ho).1.2;simp only [VR,eF] at hv;obtain⟨_,m,a,cap,q0,rfl,q1,q2⟩:=hv;rw [cC] at q0;have hm:(dec (e.den E.ρ)).l.length=m:=J
      have lr:0<m:=by rw [<- hm]; exact alX.2 hw.2.2
      obtain⟨arr,lo,hi,us,g1,g2,g3,g4,g5,g6⟩:=Pd ho (l:=0) (k:=m) J;have hs:=rA r hl (B,key,j);rw [ay,alN,<- hm,al7] at g4
      have gI:a=⟨(E.θ i).1,(E.θ i).2,none⟩/\(E.θ i).2+cap*(rowOf t).es=arr.size:=by
       rcases q2 with ⟨q2,q3⟩|⟨_,q3,_⟩
       ·exact⟨by rw [q2,bg],J⟩
       ·omega
      rw [hρ] at hw hm;refine⟨e,_,s.pc,_,hp,hs,.inr ⟨(E.θ i).1,(E.θ i).2,m,cap,a,arr,lo,hi,rfl,q1,sF _ _ _,g1,.inl gI,g3,.inr ⟨hw,hm,us,?_,fun q u hu=>?_,g6⟩⟩,h⟩
      ·have:=cA.bX hs.view.kp _ _ g4;rw [hρ] at this;show cA _ w.heap (bG E.ρ (rowOf t) [] (dec (e.den ρ)).l 0) us;rw [hρ];exact this
      ·have:=g5 q u hu;rw [alG,bg] at this;exact this
     ·simp [T.leaf] at h
    ·simp [T.leaf] at h
   ·simp [T.leaf] at h
  ·rename_i i f_ n t';split at h
   ·rename_i ht;have ht:=aq ht;subst ht;split at h
    ·rename_i e US N!;split at h
     ·rename_i hc;have NA:=aq hc;subst NA;have hl:=mQ N!;have ho:=(r.live i _ hl).2.1;have hw:=(OR.nY.1 ho).1.2;obtain⟨fA,fk,z1,z2,z3,U⟩:=vy hp h;obtain⟨jt,jk,Z⟩:=cH (s:={ s with pc:=fA }) fk U;rw [gY] at Z;simp only [V.den] at Z;simp only [VR,eF] at hv;obtain⟨_,l,m,a,cap,q0,q00,rfl,q1,q2⟩:=hv;have q0':=q0;have ajW:=q00;rw [hρ] at q0 q00;obtain⟨arr,lo,hi,us,g1,g2,g3,g4,g5,g6⟩:=Pd ho (l:=l) (k:=m) (by rw [hρ]; omega);have hs:=rA r hl (B,key,j)
      have gI:(a=⟨(E.θ i).1,(E.θ i).2+l*(rowOf t).es,none⟩/\(E.θ i).2+l*(rowOf t).es+cap*(rowOf t).es=arr.size)\/(cap=0/\m=0/\(E.θ i).2+l*(rowOf t).es=arr.size):=by
       rcases q2 with ⟨q2,q3⟩|⟨q2,q3,q4⟩
       ·exact .inl ⟨q2,J⟩
       ·exact .inr ⟨q2,q3,J⟩
      cases hm:m with
      |zero=>
       have:n.den ρ=0:=by rw [q00,hm]; rfl
       rw [this] at Z;subst hm;refine⟨_,_,jt,_,jk,hs,.inr ⟨(E.θ i).1,(E.θ i).2+l*(rowOf t).es,0,cap,a,arr,lo,hi,rfl,q1,sF _ _ _,g1,gI,g3,.inl ⟨rfl,?_⟩⟩,Z⟩;simp only [V.den,bB]
      |succ m'=>
       have:(n.den ρ == 0)=false:=by rw [beq_eq_false_iff_ne]; omega
       rw [this] at Z;rw [<- hm];have oT:=w9 (e:=e) q0' ajW;rw [hρ] at oT g4 hw;generalize hpt:((dec (e.den ρ)).l.take (l+m)).drop l=pt at oT g4
       have aet:pt.length=m:=by rw [<- hpt,bq,bd,anm J];omega
       have fX:pt≠[]:=by intro e0;rw [e0] at aet;simp at aet;omega
       rw [uZ fX] at oT;refine⟨_,_,jt,_,jk,hs,.inr ⟨(E.θ i).1,(E.θ i).2+l*(rowOf t).es,m,cap,a,arr,lo,hi,rfl,q1,sF _ _ _,g1,gI,g3,.inr ⟨?_,?_,us,?_,g5,g6⟩⟩,Z⟩
       ·rw [oT];refine⟨by rw [bM],fun d hd=>?_,by rw [bM]; exact fX⟩;rw [bM,<- hpt] at hd;exact hw.2.1 d (alI (br hd))
       ·rw [oT,bM]; exact aet
       ·rw [oT,bM];have:=cA.bX hs.view.kp _ _ g4;show cA _ w.heap (bG E.ρ (rowOf t) [] pt 0) us;rw [hρ];exact this
     ·simp [T.leaf] at h
    ·simp [T.leaf] at h
   ·simp [T.leaf] at h
  ·simp [T.leaf] at h
theorem Kb [bI] {α:Type} {ρ:Nat->Int} {eS:List Nat} {y:α} {w:World} (B:Nat) (key:D): ∀{cs:List FC} {j:Nat} {vs:List W} {s:St} {k:V->St->T α} {E:En} {us:List Value},E.ρ=ρ->bO E s.h w->bW ρ s.pc->cA E w.heap vs us->(FV eS cs j vs s k).leaf ρ=some y->
 ∃x h' dY E',bW ρ dY/\lD w E s.h E' h'/\us.length=cs.length/\(∀i c u,cs[i]?=some c->us[i]?=some u->oB E' w.heap B key (j+i+1) (eS.getD (j+i+2) 0) c ((dec (x.den ρ)).hd i) u)/\(k x { s with h:=h',pc:=dY }).leaf ρ=some y
 |[],j,[],s,k,E,us,hρ,r,hp,hv,h=>by rw [gP] at hv;subst hv;exact⟨_,s.h,s.pc,E,hp,lD.refl r,rfl,fun i c u hc=>by simp at hc,h⟩
 |[],j,_::_,s,k,E,us,hρ,r,hp,hv,h=>by simp [FV,T.leaf] at h
 |_::_,j,[],s,k,E,us,hρ,r,hp,hv,h=>by simp [FV,T.leaf] at h
 |c::cs,j,v::vs,s,k,E,us,hρ,r,hp,hv,h=>by
  simp only [FV] at h;rw [bV] at hv;obtain⟨u,us,rfl,hv,Gu⟩:=hv;obtain⟨a,U,fA,E1,fk,f1,o1,g1⟩:=PD B key (j+1) hρ r hp hv h;obtain⟨b,Z,jt,E2,jk,f2,hl,o2,g2⟩:=Kb (s:={ s with h:=U,pc:=fA }) B key (f1.view.kp.ρ.trans hρ) f1.view.rel fk (cA.bX f1.view.kp _ _ Gu) g1;refine⟨_,Z,jt,E2,jk,f1.trans r f2,by simp [hl],fun i c' u' hc hu=>?_,g2⟩;have hd0:dec ((ey a b).den ρ)= .p (dec (a.den ρ)) (dec (b.den ρ)):=by simp only [ey,V.den,fc.den,bB]
  cases i with
  |zero=> simp only [aG,ag] at hc hu;subst hc hu;rw [hd0];exact f2.own o1
  |succ i=>
   have:=o2 i c' u' (by simpa using hc) (by simpa using hu);have e1:j+(i+1)=j+1+i:=J
   rw [hd0,e1];exact this
theorem G_ [bI] {α:Type} {ρ:Nat->Int} {t:Nat} {eS:List Nat} {v:W} {y:α} {w:World} (B:Nat) (key:D) {s:St} {k:V->St->T α} {E:En} {u:Value} (hρ:E.ρ=ρ) (r:bO E s.h w) (hp:bW ρ s.pc) (hv:VR E w.heap v u) (h:(adV t eS v s k).leaf ρ=some y) :
 ∃x h' dY E',bW ρ dY/\lD w E s.h E' h'/\pA E' w.heap B t eS key (dec (x.den ρ)) u/\(k x { s with h:=h',pc:=dY }).leaf ρ=some y:=by
 unfold adV at h;unfold pA;split at h
 ·rename_i NF;rw [NF];split at h
  ·rename_i c hc;obtain⟨x,U,fA,E1,fk,f1,o1,g1⟩:=PD B key 1 hρ r hp hv h;exact⟨x,U,fA,E1,fk,f1,⟨c,hc,o1⟩,g1⟩
  ·simp [T.leaf] at h
 ·rename_i NF;rw [NF];split at h
  ·rename_i i o;split at h
   ·split at h
    ·rename_i ob hl;split at h
     ·rename_i cs ty;split at h
      ·rename_i NA;have NA:=aq NA;subst NA;have ho:=(r.live i _ hl).2.1;simp only [OR] at ho;obtain⟨arr,lo,hi,us,g1,g2,g3,g4,g5,g6,g7⟩:=ho;simp only [VR] at hv;obtain⟨rfl,_⟩:=hv;have hs:=rA r hl (B,key,0);obtain⟨x,U,fA,E1,fk,f1,Ak,o1,q1⟩:=Kb (s:={ s with h:=s.h.drop i }) (E:=E.Te (E.θ i).1 (B,key,0)) B key hρ hs.view.rel hp (cA.bX hs.view.kp _ _ g2) h;have hvl:=g2.length;refine⟨x,U,fA,E1,fk,hs.trans r f1,⟨(E.θ i).1,(E.θ i).2,arr,lo,hi,by rw [bg],f1.mono _ _ (sF _ _ _),g1,J,g6,fun q c hc=>?_⟩,q1⟩;have hql:=(aW.1 hc).1;have hqu:q<us.length:=J
       have hu:=aM hqu;refine⟨us[q],g3 q _ hu,g7 _ (aF hqu),?_⟩;have:=o1 q c _ hc hu;rw [ay] at this;exact this
      ·simp [T.leaf] at h
     ·simp [T.leaf] at h
    ·simp [T.leaf] at h
   ·simp [T.leaf] at h
  ·simp [T.leaf] at h
theorem Ge {n:Int} {d:D}: ∀{ds:List D},D.i n∈ds.map jc->(ib ds (.i n) d).map jc=ds.map jc
 |[],h=>by simp at h
 |a::ds,h=>by
  simp only [ib];by_cases hk:jc a= .i n
  ·rw [ah hk];simp [jc,hk];exact hk.symm
  ·rw [af hk];simp only [aw,ax] at h;rcases h with h|h
   ·exact absurd h.symm hk
   ·simp only [aw,Ge h]
theorem eJ.pck {E E':En} {h:Array Obj} (kp:fh E h E' h) (mono: ∀b x,E.hd b=some x->E'.hd b=some x) {B t:Nat} {eS:List Nat} {l:List (V×W)} {x:V} {v:W} {n:Int} {d:D} (hx:x.den E.ρ=n) (hl:lE E.ρ n l=none) :
 ∀{ds:List D} {es:List MapEntry},(ds.map jc).Nodup->(∀e1∈es,e1.key= .int .i64 n->pA E' h B t eS (.i n) d e1.val)->eJ E h B t eS ((x,v)::l) ds es->eJ E' h B t eS l (if D.i n∈ds.map jc then ib ds (.i n) d else ds) es
 |[],es,_,_,ho=>by simp only [amF,alU,if_false]; exact ho
 |a::ds,_,Bg,hv,⟨e0,rr,m,h0,q1,q2,q3,q4⟩=>by
  subst h0;have hk:jc a= .i m:=by rw [q1]; rfl
  simp only [aw,al0] at Bg;have ih:=eJ.pck kp mono hx hl Bg.2 (fun e1 U Z=>hv e1 (by simp [U]) Z) q4;by_cases hm:m=n
  ·subst hm;rw [hk] at Bg;rw [af Bg.1] at ih;simp only [aw,ax,hk,true_or,if_true,ib];refine⟨e0,rr,m,rfl,rfl,q2,?_,ih⟩;rw [kp.ρ,hl];exact hv e0 ad q2
  ·have fX: ¬D.i n=D.i m:=by simpa using fun e=>hm e.symm
   have akm: ¬jc a= .i n:=by rw [hk]; simpa using hm
   have hq:(match lE E'.ρ m l with |some v=>VR E' h v e0.val|none=>pA E' h B t eS (.i m) (E8 a) e0.val):=by
    simp only [lE,hx] at q3;rw [af (fun e=>hm e.symm)] at q3;rw [kp.ρ]
    cases ho:lE E.ρ m l with
    |some v=>rw [ho] at q3; exact VR.bX kp _ _ q3
    |none=>rw [ho] at q3; exact q3.bX kp fun b j Y=> ⟨mono b _ Y,rfl⟩
   simp only [aw,ax,hk,fX,false_or];by_cases BJ:D.i n∈ds.map jc
   ·rw [ah BJ] at ih ⊢;simp only [ib,af akm];exact⟨e0,rr,m,rfl,q1,q2,hq,ih⟩
   ·rw [af BJ] at ih ⊢;exact⟨e0,rr,m,rfl,q1,q2,hq,ih⟩
theorem eJ.told {E:En} {h:Array Obj} {B t:Nat} {eS:List Nat} {ov:List (V×W)} {n:Int} {v:W} (rT:lE E.ρ n ov=some v): ∀{ds:List D} {es:List MapEntry},eJ E h B t eS ov ds es->∀e1∈es,e1.key= .int .i64 n->VR E h v e1.val
 |[],es,he,e1,U,_=>by simp only [eJ] at he; subst he; simp at U
 |a::ds,_,⟨e0,rr,m,h0,q1,q2,q3,q4⟩,e1,U,Z=>by
  subst h0;rcases ax.1 U with rfl|U
  ·rw [q2] at Z;simp only [Value.int.injEq,true_and] at Z;subst Z;rw [rT] at q3;exact q3
  ·exact eJ.told rT q4 e1 U Z
theorem eJ.first {E:En} {h:Array Obj} {B t:Nat} {eS:List Nat} {ov:List (V×W)} {n:Int}: ∀{ds:List D} {es:List MapEntry},(ds.map jc).Nodup->D.i n∈ds.map jc->eJ E h B t eS ov ds es->∃en∈es,en.key= .int .i64 n/\∀e1∈es,e1.key= .int .i64 n->e1=en
 |[],_,_,hf,_=>by simp at hf
 |a::ds,_,Bg,hf,⟨e0,rr,m,h0,q1,q2,q3,q4⟩=>by
  subst h0;have hk:jc a= .i m:=by rw [q1]; rfl
  simp only [aw,al0] at Bg;simp only [aw,ax,hk] at hf;by_cases hm:m=n
  ·subst hm;refine⟨e0,ad,q2,fun e1 U Z=>?_⟩;rcases ax.1 U with rfl|U
   ·rfl
   ·obtain⟨i,hi⟩:=amV U;exact absurd (eJ.set.eJ.B9 q4 hi Z) (by rw [<- hk]; exact Bg.1)
  ·rcases hf with hf|hf
   ·exact absurd (by simpa using hf:n=m).symm hm
   ·obtain⟨en,p1,p2,p3⟩:=eJ.first Bg.2 hf q4;refine⟨en,by simp [p1],p2,fun e1 U Z=>?_⟩;rcases ax.1 U with rfl|U
    ·rw [q2] at Z;simp only [Value.int.injEq,true_and] at Z;exact absurd Z hm
    ·exact p3 e1 U Z
theorem Ka [bI] {α:Type} {ρ:Nat->Int} {t:Nat} {eS:List Nat} {y:α} {w:World} {B:Nat} {bL:List MapEntry}: ∀{ov:List (V×W)} {e:V} {s:St} {k:V->St->T α} {E:En},E.ρ=ρ->bO E s.h w->bW ρ s.pc->zr ρ (dec (e.den ρ)).l ov->eJ E w.heap B t eS ov (dec (e.den ρ)).l bL->(PC t eS ov e s k).leaf ρ=some y->
 ∃e' h' dY E',bW ρ dY/\lD w E s.h E' h'/\zr ρ (dec (e'.den ρ)).l []/\eJ E' w.heap B t eS [] (dec (e'.den ρ)).l bL/\(k e' { s with h:=h',pc:=dY }).leaf ρ=some y
 |[],e,s,k,E,hρ,r,hp,fo,en,h=> ⟨e,s.h,s.pc,E,hp,lD.refl r,fo,en,h⟩
 |(x,v)::l,e,s,k,E,hρ,r,hp,fo,en,h=>by
  simp only [PC] at h;have BJ:=fo.2.1 (x,v) ad
  have Gx:lE ρ (x.den ρ) l=none:=by
   cases ho:lE ρ (x.den ρ) l with
   |none=>rfl
   |some u=> have:=HY ho;have h3:=fo.2.2;simp only [aw,al0] at h3;exact absurd this h3.1
  obtain⟨en0,p1,p2,p3⟩:=eJ.first fo.1 BJ en;have hv:=eJ.told (E:=E) (n:=x.den ρ) (v:=v) (by simp only [lE]; rw [hρ,ah rfl]) en en0 p1 p2;obtain⟨d,U,fA,E1,fk,f1,o1,g1⟩:=G_ B (.i (x.den ρ)) hρ r hp hv h
  have oT:dec ((V.op .xf e (ey (mS x) d)).den ρ)=dL (ib (dec (e.den ρ)).l (.i (x.den ρ)) (dec (d.den ρ))):=by simp only [ey,V.den,fc.den,bB,rb]
  have hk:=Ge (d:=dec (d.den ρ)) BJ;have en1:=eJ.pck f1.view.kp f1.mono (n:=x.den ρ) (d:=dec (d.den ρ)) (by rw [hρ]) (by rw [hρ]; exact Gx) fo.1 (fun e1 U Z=>by rw [p3 e1 U Z]; exact o1) en;rw [ah BJ] at en1
  obtain⟨e',Z,jt,E2,jk,f2,fo2,en2,g2⟩:=Ka (s:={ s with h:=U,pc:=fA }) (f1.view.kp.ρ.trans hρ) f1.view.rel fk (e:=.op .xf e (ey (mS x) d)) (by
   rw [oT,bM];refine⟨by rw [hk]; exact fo.1,fun p hp=>by rw [hk]; exact fo.2.1 p (by simp [hp]),?_⟩;have h3:=fo.2.2;simp only [aw,al0] at h3
   exact h3.2) (by rw [oT,bM]; exact en1) g1
  exact⟨e',Z,jt,E2,jk,f1.trans r f2,fo2,en2,g2⟩
theorem G' [bI] {α:Type} {ρ:Nat->Int} {id:Nat} {y:α} {w:World} {s:St} {k:St->T α} {E:En} (hρ:E.ρ=ρ) (r:bO E s.h w) (hp:bW ρ s.pc) (h:(G! id s k).leaf ρ=some y) :
 ∃h' dY E',bW ρ dY/\View E s.h w E' h'/\(k { s with h:=h',pc:=dY }).leaf ρ=some y:=by
 unfold G! at h;split at h
 ·rename_i o hl;split at h
  ·rename_i e t eS ov;obtain⟨g0,bL,c',g1,g2⟩:=yO r hl;rw [hρ] at g0 g2;obtain⟨dst,drl⟩:=vT r id;obtain⟨e',U,fA,E1,fk,f1,fo1,en1,q1⟩:=Ka (s:={ s with h:=s.h.drop id }) hρ drl hp g0 g2 h;have Td:=(r.live id _ hl).1;have hθ:=f1.view.kp.θ id Td;have hρ1:E1.ρ=ρ:=f1.view.kp.ρ.trans hρ
   have XI: ∀j o,(s.h.drop id).get j=some o->s.h.get j=some o/\j≠id:=by
    intro j o hj;rw [Hp.j5] at hj;split at hj
    ·simp at hj
    ·rename_i e; exact⟨hj,e⟩
   have abF: ∀b,E1.ro b\/(∃x,E1.hd b=some x)->b≠(E.θ id).1:=by
    intro b Y e;subst e;rcases f1.hold _ Y with h|⟨x,h⟩|⟨j,o,U,Z⟩
    ·exact (r.live id _ hl).2.2 h
    ·exact (r.hid _ _ h).2.2 id _ hl rfl
    ·obtain⟨q1,q2⟩:=XI j o U;exact q2 (r.inj j id _ _ q1 hl Z)
   have hr:bO E1 (U.put id (.qS e' t eS [])) w:=by
    refine J6 f1.view.rel (f1.view.kp.dm id Td) ?_ (fun j o hj=>?_) ?_ ?_
    ·rw [hθ]; exact fun h=>abF _ (.inl h) rfl
    ·obtain⟨q1,q2⟩:=XI j o (f1.sub j o hj);refine⟨q2,?_⟩;rw [hθ,f1.view.kp.θ j (r.live j o q1).1];exact fun e=>q2 (r.inj j id _ _ q1 hl e)
    ·rw [hθ]; exact fun x h=>abF _ (.inr ⟨x,h⟩) rfl
    ·simp only [OR];rw [hρ1,hθ];exact⟨fo1,bL,c',g1,en1⟩
   refine⟨_,fA,E1,fk,⟨hr,f1.view.kp,fun b Y=>?_,fun b Y=>?_⟩,q1⟩
   ·rcases f1.view.qQ b Y with h|⟨i0,o0,p1,p2⟩|p
    ·exact .inl h
    ·exact .inr (.inl ⟨i0,o0,(XI i0 o0 p1).1,p2⟩)
    ·exact .inr (.inr p)
   ·rcases Y with ⟨j,o,q1,q2⟩|q
    ·rw [Hp.bR] at q1;split at q1
     ·rename_i e;rw [e,hθ] at q2;exact .inl ⟨id,_,hl,q2⟩
     ·rcases f1.view.hold b (.inl ⟨j,o,q1,q2⟩) with ⟨i0,o0,p1,p2⟩|p
      ·exact .inl ⟨i0,o0,(XI i0 o0 p1).1,p2⟩
      ·exact .inr p
    ·rcases f1.view.hold b (.inr q) with ⟨i0,o0,p1,p2⟩|p
     ·exact .inl ⟨i0,o0,(XI i0 o0 p1).1,p2⟩
     ·exact .inr p
  ·exact⟨s.h,s.pc,E,hp,View.refl r,h⟩
 ·exact⟨s.h,s.pc,E,hp,View.refl r,h⟩
end
end Go.As
end
section
namespace Go.As
noncomputable section
open Go.RowKit
section
variable {P:Program} {c:Code} {Q:Exit->Act->World->Prop} {a:Act} {w:World}
def EK (P:Program) (c:Code) (Q:Exit->Act->World->Prop) (a:Act) (w:World):Prop:=
 ∀b k cs,∃e a' w',Q e a' w'/\Arrives P (lone (b.at a (.code c::.inLoop c::k)) cs w) b k cs e a' w'
theorem Nl (h:c.wp P (Exit.then (EK P c Q) Q) a w):EK P c Q a w:=by
 intro b k cs;obtain⟨e,a₁,w₁,hq,KW⟩:=h b (.inLoop c::k) cs
 cases e with
 |normal=> obtain⟨e₂,a₂,w₂,hq₂,harr₂⟩:=hq b k cs;exact⟨e₂,a₂,w₂,hq₂,.of_steps (Steps.trans KW (.one step_inLoop)) harr₂⟩
 |exit id=>exact⟨_,a₁,w₁,hq,.pass (x:=.inLoop c) rfl (fun _ _=> .inl ad) KW⟩
 |goto l=>exact⟨_,a₁,w₁,hq,.pass (x:=.inLoop c) rfl (fun _ _=> .inl ad) KW⟩
 |ret=>exact⟨_,a₁,w₁,hq,.pass (x:=.inLoop c) rfl (fun _ _=> .inl ad) KW⟩
 |panic ch=>exact⟨_,a₁,w₁,hq,.pass (x:=.inLoop c) rfl (fun _ _=> .inl ad) KW⟩
 |outgrown=>exact⟨_,a₁,w₁,hq,.pass (x:=.inLoop c) rfl (fun _ _=> .inl ad) KW⟩
theorem Nn (h:EK P c Q a w):(Code.loop c).wp P Q a w:=by intro b k cs;obtain⟨e,a',w',hq,KW⟩:=h b k cs;exact⟨e,a',w',hq,.of_steps (.one step_loop) KW⟩
end
inductive FrE where
 |seq (p:List Nat) (c:Code)
 |block (id:Nat)
 |loop (p:List Nat) (b:Code)
 |scope
def oq (body:Code):List Nat->Option (Code×List FrE)
 |[]=>some (body,[])
 |d::p=>match oq body p with
  |some (.seq a b,fr)=>match d with
   |0=>some (a,.seq (1::p) b::fr)
   |_=>some (b,fr)
  |some (.block id b,fr)=>some (b,.block id::fr)
  |some (.cond _ a b,fr)=>match d with
   |0=>some (a,fr)
   |_=>some (b,fr)
  |some (.loop b,fr)=>some (b,.loop p b::fr)
  |some (.scope b,fr)=>some (b,.scope::fr)
  |_=>none
def EL (body:Code):List FrE->Prop
 |[]=>True
 | .seq p c::fr=>oq body p=some (c,fr)/\EL body fr
 | .block _::fr=>EL body fr
 | .loop p b::fr=>oq body p=some (.loop b,fr)/\EL body fr
 | .scope::fr=>EL body fr
def KE (P:Program) (Q:Exit->Act->World->Prop):List FrE->Exit->Act->World->Prop
 |[]=>Q
 | .seq _ c::fr=>Exit.then (fun a w=>c.wp P (KE P Q fr) a w) (KE P Q fr)
 | .block id::fr=>Exit.inBlock id (KE P Q fr)
 | .loop _ b::fr=>Exit.then (EK P b (KE P Q fr)) (KE P Q fr)
 | .scope::fr=>Exit.noGoto (KE P Q fr)
inductive RK where
 |one (c:CK)
 |agg (cs:List CK)
 deriving DecidableEq,Inhabited
def RK.flat:RK->List CK
 | .one c=>[c]
 | .agg cs=>cs
def oh:List RK->List CK
 |[]=>[]
 |r::rs=>r.flat++oh rs
def RE (c:CK) (t:V):W:=match c with
 | .int k=> .int k t
 | .bool=> .bool (.not (.eq t (.lit 0)))
 | .str=> .jy t
 | .sl ty=> .eo t ty
def Ez:List CK->(Nat->V)->Nat->List W
 |[],_,_=>[]
 |c::cs,f,i=>RE c (f i)::Ez cs f (i+1)
def oR:List RK->(Nat->V)->Nat->List W
 |[],_,_=>[]
 | .one c::r,f,i=>RE c (f i)::oR r f (i+1)
 | .agg cs::r,f,i=> .agg (Ez cs f i)::oR r f (i+cs.length)
def WO (c:CK) (v:W):Option V:=match c with
 | .int k=>match v with
   | .int k' e=>if k=k' then some e else none
   |_=>none
 | .bool=>none
 | .str=>tg v
 | .sl t=>mz (.sl t) v
def U?:W->Bool
 | .agg _=>false
 | .tuple _=>false
 |_=>true
def cellsOf:List RK->List W->Option (List W)
 |[],[]=>some []
 | .one _::rs,v::vs=>match U? v with
   |true=>match cellsOf rs vs with
    |some l=>some (v::l)
    |none=>none
   |false=>none
 | .agg cs::rs,v::vs=>match v with
   | .agg xs=>match Nat.beq xs.length cs.length with
     |true=>match cellsOf rs vs with
      |some l=>some (xs++l)
      |none=>none
     |false=>none
   |_=>none
 |_,_=>none
def outs {α:Type}:List CK->List W->St->(List V->St->T α)->T α
 |[],[],s,k=>k [] s
 |c::cs,v::vs,s,k=>match c with
  | .bool=>match v with
    | .bool b=>jx s b fun s b=>outs cs vs s fun es s=>k (.lit (if b then 1 else 0)::es) s
    |_=> .fail
  |c=>match WO c v with
   |some e=>outs cs vs s fun es s=>k (e::es) s
   |none=> .fail
 |_,_,_,_=> .fail
def fL:List V->V
 |[]=> .eo (.i 0)
 |e::es=>ey (mS e) (fL es)
def n6 (r:V) (i:Nat):V:=.op .num (.op (.cell i) r (.lit 0)) (.lit 0)
inductive Lf where
 |out (es:List V)
 |jump (j:Nat) (es:List V)
 deriving Inhabited
inductive KX where
 |cell (t j:Nat)
 |row (t j:Nat) (k:KX) (q:Nat)
 |Mc (t:Nat)
 deriving Inhabited
def KX.ev (s:St):KX->Option V
 | .Mc _=>none
 | .cell t j=>match s.bE.get t with
   |some v=>match v with
    | .agg cs=>match eT cs j with
      |some w=>match w with
       | .int _ e=>some e
       |_=>none
      |none=>none
    | .int _ e=>some e
    | .ptr i o=>match s.h.get i with
      |some ob=>match ob with
       | .cells cs _=>match eT cs (o+j) with
         |some w=>match w with
          | .int _ e=>some e
          |_=>none
         |none=>none
       |_=>none
      |none=>none
    |_=>none
   |none=>none
 | .row t j k q=>match KX.ev s k with
   |none=>none
   |some x=>match s.bE.get t with
    |some v=>match v with
     | .agg cs=>match eT cs j with
       |some w=>match w with
        | .eo e _=>some (xU (iu q (.op .at e x)))
        |_=>none
       |none=>none
     | .eo e _=>some (xU (iu q (.op .at e x)))
     | .ptr i o=>match s.h.get i with
       |some ob=>match ob with
        | .cells cs _=>match eT cs (o+j) with
          |some w=>match w with
           | .eo e _=>some (xU (iu q (.op .at e x)))
           |_=>none
          |none=>none
        |_=>none
       |none=>none
     |_=>none
    |none=>none
structure FH where
 r:Nat
 gd:Option (KX×Int)
 k:KX
 deriving Inhabited
def DR:Tr dG->List Nat
 | .nil=>[]
 | .node v l r=>(match v with
   |some o=>match nf o with
    |true=>[]
    |false=>[0]
   |none=>[])++((DR l).map fun i=>2*i+1)++((DR r).map fun i=>2*i+2)
def IC {α:Type} (x:V):List Nat->St->(St->T α)->T α
 |[],s,k=>k s
 |i::l,s,k=>T? i x s fun s=>IC x l s k
def Nb {α:Type}:List Nat->St->(St->T α)->T α
 |[],s,k=>k s
 |i::l,s,k=>G! i s fun s=>Nb l s k
def S? {α:Type} (t:Nat) (s:St) (k:St->T α):T α:=match s.bE.get (t % 1000) with
 |some v=>NU v s fun v s=>match Nat.ble 1000 t with
  |true=>match mz (.sl (t / 1000-1)) v with
   |some e=>k { s with bE:=s.bE.put (t % 1000) (some (.eo e (t / 1000-1))) }
   |none=> .fail
  |false=>k { s with bE:=s.bE.put (t % 1000) (some v) }
 |none=>k s
def E7 {α:Type} (r:Nat):List FH->St->(St->T α)->T α
 |[],s,k=>k s
 |h::hs,s,k=>match Nat.beq h.r r with
  |false=>E7 r hs s k
  |true=>match h.k.ev s with
   |none=>match h.k with
    | .Mc t=>S? t s fun s=>E7 r hs s k
    |_=>E7 r hs s k
   |some x=>match h.gd with
    |none=>IC x (DR s.h.m) s fun s=>E7 r hs s k
    |some (g,n)=>match g.ev s with
     |none=>E7 r hs s k
     |some y=>jx s (qp y (.lit n)) fun s b=>match b with
      |true=>IC x (DR s.h.m) s fun s=>E7 r hs s k
      |false=>E7 r hs s k
def abj:Code->Option Nat
 | .region id _ _=>some id
 |_=>none
structure tf where
 tt:TT
 call:eh
 draw:Nat->List Oper->St->T St
 lf:Nat
 res:List ResultVar
 kU:List RK
 eb:List dG:=[]
 ko:Nat:=0
 n7:List CS:=[]
 gU:Nat:=0
 fz:List (Nat×Nat×Nat):=[]
 NW:List FH:=[]
def GR (g:tf):Bool:=match g.NW with
 |[]=>false
 |_::_=>match g.eb with
  |[]=>match g.n7 with
   |[]=>true
   |_=>false
  |_=>false
def To {α:Type} (r:Nat):List FH->St->(St->T α)->T α
 |[],s,k=>k s
 |h::hs,s,k=>match Nat.beq h.r r with
  |false=>To r hs s k
  |true=>match h.k with
   | .Mc t=>S? t s fun s=>To r hs s k
   |_=>To r hs s k
def Tp {α:Type} (g:tf) (c:Code) (s:St) (k:St->T α):T α:=match GR g with
 |true=>match abj c with
  |some r=>E7 r g.NW s k
  |none=>k s
 |false=>match g.n7 with
  |[]=>match abj c with
   |some r=>To r g.NW s k
   |none=>k s
  |_::_=>k s
def abm:List Nat->Nat
 |[]=>1000000
 |d::p=>1000000+2*(abm p-1000000)+d+1
def abq (p:List Nat):List FH->Bool
 |[]=>false
 |h::hs=>match Nat.beq h.r (abm p) with
  |true=>true
  |false=>abq p hs
def SP {α:Type} (g:tf) (p:List Nat) (s:St) (k:St->T α):T α:=match GR g with
 |true=>match abq p g.NW with
  |true=>k s
  |false=>Nb (DR s.h.m) s k
 |false=>k s
def tf.ev (g:tf) (c:Code) (s:St):T (Ex×St):=iP g.tt g.call g.draw g.lf c s
abbrev BQ:=List Nat->Option (List (Nat×CS))
def aen:Nat->Tr (Nat×Nat)
 |0=> .nil
 |n+1=>(aen n).put n (some (n,0))
def gB (g:tf) (h:Hp):Ren:=match Ao h g.eb 0 ⟨.nil,aen g.eb.length⟩ with
 |⟨ns,_⟩=> ⟨xj ns g.ko 0,List.range g.eb.length,[]⟩
def CS.jb (m:Nat) (c:CS) (s:St):Ren:=match Ao s.h c.dy 0 (Cg s.bE c.bE ⟨.nil,aen m⟩) with
 |⟨ns,bl⟩=> ⟨xj ns c.k 0,Ic bl c.dy.length 0,Ib bl c.dy.length 0⟩
def Dx (m:Nat) (r:Ren):Bool:=match m with
 |0=>true
 |n+1=>(match eT r.bl n with |some j=>Nat.beq j n|none=>false)&&Nat.beq (r.tG n) 0&&Dx n r
def Bl:Nat->Nat->List V->List V
 |0,_,ns=>ns
 |_+1,_,[]=>[]
 |n+1,i,_::ns=> .du i::Bl n (i+1) ns
def qL (gU:Nat) (r:Ren):Ren:=match gU with
 |0=>r
 |n+1=>{ r with ns:=Bl (n+1) 0 r.ns }
def Lo (n m gU:Nat) (s:St):List CS->Nat->T Lf
 |[],_=> .fail
 |c::l,i=>match quick s.bE c.bE&&Nat.beq n c.bE.length with
  |false=>Lo n m gU s l (i+1)
  |true=>match c.fits d? s (qL gU (c.jb m s))&&Dx m (qL gU (c.jb m s)) with
   |true=> .ret (.out (.lit (Int.ofNat i)::(qL gU (c.jb m s)).ns))
   |false=>Lo n m gU s l (i+1)
def K1 {α:Type}:List (Nat×Nat×Nat)->List W->St->(List W->St->T α)->T α
 |[],vs,s,k=>k vs s
 |(r,f,t)::l,vs,s,k=>match eT vs r with
  |some (.agg xs)=>match eT xs f with
   |some x=>NU x s fun x s=>match mz (.sl t) x with
    |some e=>K1 l (vs.set r (.agg (xs.set f (.eo e t)))) s k
    |none=> .fail
   |none=> .fail
  |_=> .fail
def X7 (g:tf) (e:Ex) (s:St):T Lf:=match e with
 | .exit _=> .fail
 |_=>match kA g.tt s g.res with
  |none=> .fail
  |some vs=>match g.n7 with
   |[]=>match cellsOf g.kU vs with
    |none=> .fail
    |some cells=>wO cells s fun cells s=>match zT (gB g s.h) g.eb.length s.h g.eb 0 with
     |true=>outs (oh g.kU) cells s fun es _=> .ret (.out ((gB g s.h).ns++es))
     |false=> .fail
   |c::l=>K1 g.fz vs s fun vs s=>Lo vs.length g.eb.length g.gU ⟨cf vs 0 .nil,s.h,s.pc⟩ (c::l) 0
def qx (m gU:Nat) (s:St):List (Nat×CS)->T Lf
 |[]=> .fail
 |(j,c)::l=>match quick s.bE c.bE with
  |false=>qx m gU s l
  |true=>match c.fits d? s (qL gU (c.jb m s))&&Dx m (qL gU (c.jb m s)) with
   |true=> .ret (.jump j (qL gU (c.jb m s)).ns)
   |false=>qx m gU s l
def Mm {α:Type} (k:St->T α):List (Nat×Nat)->St->T α
 |[],s=>k s
 |(t,g)::l,s=>match s.bE.get t with
  |some (.int _ e)=>jx s (.eq e (.du g)) fun s _=>Mm k l s
  |_=>Mm k l s
def u9 {α:Type} (k:St->T α):List Nat->St->T α
 |[],s=>k s
 |t::ts,s=>match s.bE.get t with
  |some (.bool c)=>jx s c fun s b=>u9 k ts { s with bE:=s.bE.put t (some (.bool (.lit b))) }
  |_=>u9 k ts s
def ZJ:List (Nat×W)->List Nat->List Nat
 |[],acc=>acc
 |(t,.bool _)::l,acc=>ZJ l (t::acc)
 |_::l,acc=>ZJ l acc
def ZK:List (Nat×CS)->List Nat->List Nat
 |[],acc=>acc
 |(_,c)::l,acc=>ZK l (ZJ c.bE acc)
mutual
def wv (g:tf) (eX:BQ):Nat->List Nat->Code->List FrE->St->T Lf
 |0,_,_,_,_=> .fail
 |n+1,p,c,fr,s=>match eX p with
  |some l=>SP g p s fun s=>u9 (fun s=>qx g.eb.length g.gU s l) (ZK l []) s
  |none=>match c with
   | .seq a b=>wv g eX n (0::p) a (.seq (1::p) b::fr) s
   | .block id b=>wv g eX n (0::p) b (.block id::fr) s
   | .scope b=>wv g eX n (0::p) b (.scope::fr) s
   | .cond v a b=>match As.ev s v with
     |some (.bool c)=>jx s c fun s t=>match t with
      |true=>wv g eX n (0::p) a fr s
      |false=>wv g eX n (1::p) b fr s
     |_=> .fail
   |c=>Tp g c s fun s=>(g.ev c s).bind fun (e,s')=>sJ g eX n fr e s'
def sJ (g:tf) (eX:BQ):Nat->List FrE->Ex->St->T Lf
 |0,_,_,_=> .fail
 |n+1,fr,e,s=>match fr with
  |[]=>X7 g e s
  | .seq p c::fr=>match e with
    | .normal=>wv g eX n p c fr s
    |e=>sJ g eX n fr e s
  | .block id::fr=>match e with
    | .exit j=>match Nat.beq j id with
      |true=>sJ g eX n fr .normal s
      |false=>sJ g eX n fr (.exit j) s
    |e=>sJ g eX n fr e s
  | .loop p _::fr=>match e with
    | .normal=>match eX p with
      |some l=>SP g p s fun s=>u9 (fun s=>qx g.eb.length g.gU s l) (ZK l []) s
      |none=> .fail
    |e=>sJ g eX n fr e s
  | .scope::fr=>sJ g eX n fr e s
end
abbrev nP:=Nat->List Int->Option (List Int)
def lZ (xs:List Int):Int:=enc (dL (xs.map .i))
def Good (F:nP) (ρ:Nat->Int):Prop:= ∀j xs,ρ (iQ (2*j) (lZ xs))=(if (F j xs).isSome then 1 else 0)/\ρ (iQ (2*j+1) (lZ xs))=lZ ((F j xs).getD [])
def low (xs:List Int) (i:Nat):Int:=xs.getD i 0
open Classical in
def cX (F:nP) (lo:Nat->Int) (i:Nat):Int:=if i<900 then lo i else
 if h: ∃p:Nat×List Int,i=iQ (2*p.1) (lZ p.2) then (if (F h.choose.1 h.choose.2).isSome then 1 else 0) else
 if h: ∃p:Nat×List Int,i=iQ (2*p.1+1) (lZ p.2) then lZ ((F h.choose.1 h.choose.2).getD []) else 0
theorem LJ {a b:List Int} (h:lZ a=lZ b):a=b:=by
 unfold lZ at h;have:=Er (gN h)
 have KP: ∀{x y:List Int},x.map D.i=y.map D.i->x=y:=by
  intro x
  induction x with
  |nil=>intro y h; cases y with |nil=>rfl|cons z y=>simp at h
  |cons z x ih=>
   intro y h
   cases y with
   |nil=>simp at h
   |cons q y=>
    grind
 grind
theorem rO {f g:Nat} {a b:Int} (h:iQ f a=iQ g b):f=g/\a=b:=by
 unfold iQ at h;obtain⟨U,Z⟩:=zX (a:=f) (b:=zN a) (a':=g) (b':=zN b) J
 grind [UJ]
theorem vc (f:Nat) (a:Int):1000<=iQ f a:=by unfold iQ; omega
theorem rH {F:nP} {lo:Nat->Int} {i:Nat} (h:i<900):cX F lo i=lo i:=by unfold cX; rw [ah h]
theorem kE (F:nP) (lo:Nat->Int):Good F (cX F lo):=by
 intro j xs;have U:=vc (2*j) (lZ xs);have Z:=vc (2*j+1) (lZ xs);constructor
 ·unfold cX;rw [af J];have h: ∃p:Nat×List Int,iQ (2*j) (lZ xs)=iQ (2*p.1) (lZ p.2):=⟨(j,xs),rfl⟩;rw [dif_pos h];obtain⟨q1,q2⟩:=rO h.choose_spec;have q2:=LJ q2
  grind
 ·unfold cX;rw [af J]
  have hn: ¬∃p:Nat×List Int,iQ (2*j+1) (lZ xs)=iQ (2*p.1) (lZ p.2):=by rintro⟨p,hp⟩;have:=(rO hp).1;omega
  rw [dif_neg hn];have h: ∃p:Nat×List Int,iQ (2*j+1) (lZ xs)=iQ (2*p.1+1) (lZ p.2):=⟨(j,xs),rfl⟩;rw [dif_pos h];obtain⟨q1,q2⟩:=rO h.choose_spec;have q2:=LJ q2
  grind
theorem Good.gA {F:nP} {ρ ρ':Nat->Int} (g:Good F ρ) (h: ∀i,900<=i->ρ' i=ρ i):Good F ρ':=by intro j xs;have U:=vc (2*j) (lZ xs);have Z:=vc (2*j+1) (lZ xs);rw [h _ J,h _ J];exact g j xs
def eI (tree:Nat->T Lf):Nat->nP
 |0,_,_=>none
 |n+1,j,xs=>match (tree j).leaf (cX (eI tree n) (low xs)) with
  |none=>none
  |some (.out es)=>some (es.map (V.den (cX (eI tree n) (low xs))))
  |some (.jump j' es)=>eI tree n j' (es.map (V.den (cX (eI tree n) (low xs))))
def FF:List CK->Bool
 |[]=>true
 |c::l=>match c with
  | .int _=>FF l
  | .bool=>FF l
  |_=>false
def Xw (j:Nat) (EG kU:List RK):List W->St->T (W×St):=fun args s=>match cellsOf EG args with
 |none=> .fail
 |some cells=>wO cells s fun cells s1=>outs (oh EG) cells s1 fun es s2=>
  jx s2 (.eq (.ap (2*j) (fL es)) (.lit 1)) fun s3 b=>match b with
   |true=> .ret (match oR kU (n6 (.ap (2*j+1) (fL es))) 0 with |[v]=>v|vs=> .tuple vs,match FF (oh kU) with
    |true=>{ s3 with h:=s.h }
    |false=>s3)
   |false=> .fail
end
end Go.As
end
section
namespace Go.As
open Go.RowKit
def e8 (K:Nat):V->Bool
 | .lit _=>true
 | .du i=>Nat.blt i K
 | .add a b=>e8 K a&&e8 K b
 | .sub a b=>e8 K a&&e8 K b
 | .mul a b=>e8 K a&&e8 K b
 | .quo a b=>e8 K a&&e8 K b
 | .rem a b=>e8 K a&&e8 K b
 | .wrap _ a=>e8 K a
 | .wi _ _=>false
 | .eo _=>true
 | .op _ a b=>e8 K a&&e8 K b
 | .ap _ _=>false
def ua (K:Nat):SB->Bool
 | .lit _=>true
 | .lt a b=>e8 K a&&e8 K b
 | .le a b=>e8 K a&&e8 K b
 | .eq a b=>e8 K a&&e8 K b
 | .not s=>ua K s
 | .and a b=>ua K a&&ua K b
mutual
def jI (K:Nat):W->Bool
 | .bool b=>ua K b
 | .int _ e=>e8 K e
 | .mU cs=>lO K cs
 | .ro cs _ _=>lO K cs
 | .func _ a b=>lO K a&&lO K b
 | .iface _ v=>jI K v
 | .agg cs=>lO K cs
 | .tuple cs=>lO K cs
 | .wi _ _=>false
 | .eo e _=>e8 K e
 | .jy e=>e8 K e
 | .oL _ n _=>e8 K n
 | .zd _ _ i _=>e8 K i
 | .tE _ l n _=>e8 K l&&e8 K n
 | .wR z _=>e8 K z
 |_=>true
def lO (K:Nat):List W->Bool
 |[]=>true
 |x::xs=>jI K x&&lO K xs
end
def Co (K:Nat):List (W×W×Nat)->Bool
 |[]=>true
 |(k,v,_)::l=>jI K k&&jI K v&&Co K l
def C9 (K:Nat):List (V×List W)->Bool
 |[]=>true
 |(i,cs)::l=>e8 K i&&lO K cs&&C9 K l
def sL (K:Nat):List (V×W)->Bool
 |[]=>true
 |(x,v)::l=>e8 K x&&jI K v&&sL K l
def wF (K:Nat):dG->Bool
 | .qS e _ _ ov=>e8 K e&&sL K ov
 | .cells cs _=>lO K cs
 | .map es _=>Co K es
 | .jP _ _=>true
 | .jh _ _ _ _=>true
 | .vec e _ _ ov=>e8 K e&&C9 K ov
 | .jJ e _=>e8 K e
def PE (K:Nat):List (SB×Bool)->Bool
 |[]=>true
 |(c,_)::l=>ua K c&&PE K l
def ra (K:Nat):List (Nat×W)->Bool
 |[]=>true
 |(_,v)::l=>jI K v&&ra K l
def B4 (K:Nat):List dG->Bool
 |[]=>true
 |o::l=>wF K o&&B4 K l
def u4 (K:Nat) (c:CS):Bool:=ra K c.bE&&B4 K c.dy&&PE K c.pc
section
variable {K:Nat} {ρ ρ':Nat->Int} (hρ: ∀i,i<K->ρ' i=ρ i)
include hρ
theorem dc: ∀e:V,e8 K e=true->e.den ρ'=e.den ρ
 | .lit _,_=>rfl
 | .du i,h=>by simp only [e8] at h; exact hρ i (xD h)
 | .add a b,h=>by simp only [e8,an] at h; simp only [V.den,dc a h.1,dc b h.2]
 | .sub a b,h=>by simp only [e8,an] at h; simp only [V.den,dc a h.1,dc b h.2]
 | .mul a b,h=>by simp only [e8,an] at h; simp only [V.den,dc a h.1,dc b h.2]
 | .quo a b,h=>by simp only [e8,an] at h; simp only [V.den,dc a h.1,dc b h.2]
 | .rem a b,h=>by simp only [e8,an] at h; simp only [V.den,dc a h.1,dc b h.2]
 | .wrap _ a,h=>by simp only [e8] at h; simp only [V.den,dc a h]
 | .wi _ _,h=>by simp [e8] at h
 | .eo _,_=>rfl
 | .op _ a b,h=>by simp only [e8,an] at h; simp only [V.den,dc a h.1,dc b h.2]
 | .ap _ _,h=>by simp [e8] at h
theorem rh: ∀c:SB,ua K c=true->c.den ρ'=c.den ρ
 | .lit _,_=>rfl
 | .lt a b,h=>by simp only [ua,an] at h; simp only [SB.den,dc hρ a h.1,dc hρ b h.2]
 | .le a b,h=>by simp only [ua,an] at h; simp only [SB.den,dc hρ a h.1,dc hρ b h.2]
 | .eq a b,h=>by simp only [ua,an] at h; simp only [SB.den,dc hρ a h.1,dc hρ b h.2]
 | .not s,h=>by simp only [ua] at h; simp only [SB.den,rh s h]
 | .and a b,h=>by simp only [ua,an] at h; simp only [SB.den,rh a h.1,rh b h.2]
end
section
variable {K:Nat} {E E':En} (hρ: ∀i,i<K->E'.ρ i=E.ρ i) (hθ:E'.θ=E.θ) (hκ:E'.κ=E.κ) (tu:E'.dm=E.dm) (kJ:E'.ro=E.ro) {h:Array Obj}
include hρ hθ hκ tu kJ
theorem eF.low {id off len:Nat} {a:Addr} {cap:Nat} {c:L2} (hc:eF E id off len a cap c):eF E' id off len a cap c:=by simp_all [eF]
mutual
theorem VR.low: ∀(x:W) (u:Value),jI K x=true->VR E h x u->VR E' h x u
 | .bool b,u,hl,hv=>by simp only [VR,jI] at *; rw [rh hρ b hl]; exact hv
 | .int _ e,u,hl,hv=>by simp only [VR,jI] at *; rw [dc hρ e hl]; exact hv
 | .str s,u,_,hv=>by simp only [VR] at *; exact hv
 | .ptr id off,u,_,hv=>by simp only [VR] at *; rw [hθ,tu]; exact hv
 | .tI,u,_,hv=>by simp only [VR] at *; exact hv
 | .mU cs,u,hl,hv=>by simp only [VR,jI] at *;obtain⟨b,o,us,U,Z,h3,h4,h5⟩:=hv;exact⟨b,o,us,U,by rw [kJ]; exact Z,cA.low cs us hl h3,h4,h5⟩
 | .slice id off len c,u,_,hv=>by simp only [VR] at *;obtain⟨U,a,cap,Z,h3,h4⟩:=hv;exact⟨by rw [tu]; exact U,a,cap,Z,h3,eF.low hρ hθ hκ tu kJ h4⟩
 | .eg,u,_,hv=>by simp only [VR] at *; exact hv
 | .ro cs n full,u,hl,hv=>by simp only [VR,jI] at *;obtain⟨b,o,cap,us,U,Z,h3,h4,h5,h6,h7⟩:=hv;exact⟨b,o,cap,us,U,Z,h3,by rw [kJ]; exact h4,cA.low cs us hl h5,h6,h7⟩
 | .map id,u,_,hv=>by simp only [VR] at *; rw [hθ,tu]; exact hv
 | .rq,u,_,hv=>by simp only [VR] at *; exact hv
 | .func fn fs cs,u,hl,hv=>by simp only [VR,jI,an] at *;obtain⟨us,ws,U,Z,h3⟩:=hv;exact⟨us,ws,U,cA.low fs us hl.1 Z,cA.low cs ws hl.2 h3⟩
 | .we,u,_,hv=>by simp only [VR] at *; exact hv
 | .iface t x,u,hl,hv=>by simp only [VR,jI] at *;obtain⟨y,U,Z⟩:=hv;exact⟨y,U,VR.low x y hl Z⟩
 | .xe,u,_,hv=>by simp only [VR] at *; exact hv
 | .agg cs,u,hl,hv=>by simp only [VR,jI] at *;obtain⟨us,U,Z⟩:=hv;exact⟨us,U,cA.low cs us hl Z⟩
 | .tuple cs,u,hl,hv=>by simp only [VR,jI] at *;obtain⟨us,U,Z⟩:=hv;exact⟨us,U,cA.low cs us hl Z⟩
 | .Kh _,u,_,hv=>by simp only [VR] at hv
 | .wi _ _,u,hl,_=>by simp [jI] at hl
 | .emp,u,_,hv=>by simp only [VR] at *; exact hv
 | .eo e t,u,hl,hv=>by simp only [VR,jI] at *; rw [dc hρ e hl,kJ]; exact hv
 | .jy e,u,hl,hv=>by simp only [VR,jI] at *; rw [dc hρ e hl,kJ]; exact hv
 | .oL id n t,u,hl,hv=>by simp only [VR,jI] at *;obtain⟨U,k,a,cap,Z,h3,h4,h5⟩:=hv;exact⟨by rw [tu]; exact U,k,a,cap,by rw [dc hρ n hl]; exact Z,h3,h4,eF.low hρ hθ hκ tu kJ h5⟩
 | .zd id es i off,u,hl,hv=>by simp only [VR,jI] at *;obtain⟨U,k,Z,h3⟩:=hv;exact⟨by rw [tu]; exact U,k,by rw [dc hρ i hl]; exact Z,by rw [hθ]; exact h3⟩
 | .any,u,_,_=>by simp only [VR]
 | .wR z t,u,hl,hv=>by simp only [VR,jI] at *; rw [dc hρ z hl,kJ]; exact hv
 | .tE id lo n t,u,hl,hv=>by simp only [VR,jI,an] at *;obtain⟨U,l,k,a,cap,Z,h3,h4,h5,h6⟩:=hv;exact⟨by rw [tu]; exact U,l,k,a,cap,by rw [dc hρ lo hl.1]; exact Z,by rw [dc hρ n hl.2]; exact h3,h4,h5,eF.low hρ hθ hκ tu kJ h6⟩
theorem cA.low: ∀(xs:List W) (us:List Value),lO K xs=true->cA E h xs us->cA E' h xs us
 |[],us,_,hv=>by simp only [cA] at *; exact hv
 |x::xs,us,hl,hv=>by simp only [cA,lO,an] at *;obtain⟨u,vs,U,Z,h3⟩:=hv;exact⟨u,vs,U,VR.low x u hl.1 Z,cA.low xs vs hl.2 h3⟩
end
theorem eC.low: ∀{es:List (W×W×Nat)} {bL:List MapEntry},Co K es=true->eC E h es bL->eC E' h es bL
 |[],_,_,hv=>by simp only [eC] at *; exact hv
 |(k,v,b)::es,bL,hl,hv=>by simp only [eC,Co,an] at *;obtain⟨e,r,U,Z,h3,h4,h5⟩:=hv;exact⟨e,r,U,VR.low hρ hθ hκ tu kJ k _ hl.1.1 Z,VR.low hρ hθ hκ tu kJ v _ hl.1.2 h3,h4,eC.low hl.2 h5⟩
theorem F1 {i:Nat}: ∀{ov:List (V×List W)},C9 K ov=true->dW E'.ρ i ov=dW E.ρ i ov
 |[],_=>rfl
 |(j,cs)::l,hl=>by simp only [C9,an] at hl;simp only [dW];rw [dc hρ j hl.1.1,F1 hl.2]
theorem F3: ∀{ov:List (V×List W)},C9 K ov=true->∀p∈ov,lO K p.2=true
 |[],_,p,hp=>by simp at hp
 |(j,cs)::l,hl,p,hp=>by
  simp only [C9,an] at hl;rcases ax.1 hp with rfl|hp
  ·grind
  ·exact F3 hl.2 p hp
theorem s8 {r:Row} {ov:List (V×List W)} (hl:C9 K ov=true): ∀(ds:List D) (i:Nat) {us:List Value},cA E h (bG E.ρ r ov ds i) us->cA E' h (bG E'.ρ r ov ds i) us
 |[],_,us,hv=>by simp only [bG,cA] at *; exact hv
 |d::ds,i,us,hv=>by
  simp only [bG] at *;obtain⟨a,b,rfl,U,Z⟩:=hv.split;refine cA.append ?_ (s8 hl ds (i+1) Z);rw [F1 hρ hθ hκ tu kJ hl]
  cases ho:dW E.ρ i ov with
  |none=> rw [ho] at U;rw [fT] at U ⊢;rw [kJ];exact U
  |some cs=> rw [ho] at U;obtain⟨p,p1,p2,_⟩:=kq ho;exact cA.low hρ hθ hκ tu kJ cs a (by rw [<- p2]; exact F3 hρ hθ hκ tu kJ hl p p1) U
theorem PH {n:Int}: ∀{ov:List (V×W)},sL K ov=true->lE E'.ρ n ov=lE E.ρ n ov
 |[],_=>rfl
 |(j,v)::l,hl=>by simp only [sL,an] at hl;simp only [lE];rw [dc hρ j hl.1.1,PH hl.2]
omit hρ hθ hκ tu kJ in
theorem DN {n:Int} {ρ:Nat->Int} {v:W}: ∀{ov:List (V×W)},sL K ov=true->lE ρ n ov=some v->jI K v=true
 |[],_,h=>by simp [lE] at h
 |(j,u)::l,hl,h=>by
  simp only [sL,an] at hl;simp only [lE] at h;split at h
  ·simp only [ag] at h; subst h; exact hl.1.2
  ·exact DN hl.2 h
theorem Bk: ∀{ov:List (V×W)},sL K ov=true->(ov.map fun p=>p.1.den E'.ρ)=ov.map fun p=>p.1.den E.ρ
 |[],_=>rfl
 |(j,v)::l,hl=>by simp only [sL,an] at hl;simp only [aw];rw [dc hρ j hl.1.1,Bk hl.2]
theorem oB.low (XF:E'.hd=E.hd) {B:Nat} {key:D} {j ty:Nat} {c:FC} {d:D} {u:Value} (ho:oB E h B key j ty c d u):oB E' h B key j ty c d u:=by
 cases c with
 |ck c=>simp only [oB] at *; rw [kJ]; exact ho
 |mp t=>simp only [oB] at *; rw [kJ,XF]; exact ho
 |own t=>
  rcases ho with ho|⟨b,o,n,cap,a,arr,lo,hi,U,Z,h3,h4,h5,h6,h7⟩
  ·exact .inl (by rw [kJ]; exact ho)
  ·refine .inr ⟨b,o,n,cap,a,arr,lo,hi,U,Z,by rw [XF]; exact h3,h4,h5,h6,?_⟩;rcases h7 with h7|⟨g1,g2,us,g3,g4⟩
   ·exact .inl h7
   ·exact .inr ⟨g1,g2,us,s8 hρ hθ hκ tu kJ (ov:=[]) rfl _ _ g3,g4⟩
theorem pA.low (XF:E'.hd=E.hd) {B t:Nat} {eS:List Nat} {key d:D} {v:Value} (ho:pA E h B t eS key d v):pA E' h B t eS key d v:=by
 unfold pA at *;split at ho
 ·obtain⟨c,U,Z⟩:=ho;exact⟨c,U,oB.low hρ hθ hκ tu kJ XF Z⟩
 ·obtain⟨b,o,arr,lo,hi,U,Z,h3,h4,h5,h6⟩:=ho;refine⟨b,o,arr,lo,hi,U,by rw [XF]; exact Z,h3,h4,h5,fun j c hc=>?_⟩;obtain⟨u,g1,g2,g3⟩:=h6 j c hc;exact⟨u,g1,g2,oB.low hρ hθ hκ tu kJ XF g3⟩
theorem eJ.low (XF:E'.hd=E.hd) {B t:Nat} {eS:List Nat} {ov:List (V×W)} (hl:sL K ov=true): ∀{ds:List D} {es:List MapEntry},eJ E h B t eS ov ds es->eJ E' h B t eS ov ds es
 |[],_,ho=>ho
 |d::ds,_,⟨e,r,n,U,Z,h3,h4,h5⟩=>by
  refine⟨e,r,n,U,Z,h3,?_,eJ.low XF hl h5⟩;rw [PH hρ hθ hκ tu kJ hl];split at h4
  ·rename_i v hv;exact VR.low hρ hθ hκ tu kJ v _ (DN hl hv) h4
  ·exact pA.low hρ hθ hκ tu kJ XF h4
theorem OR.low {id:Nat} {o:dG} (hl:wF K o=true) (ho:OR E h id o) (XF:E'.hd=E.hd:=by rfl):OR E' h id o:=by
 cases o with
 |qS e t eS ov=> simp only [OR,wF,an] at *;obtain⟨n0,bL,c,U,Z⟩:=ho;rw [hθ,dc hρ e hl.1];exact⟨n0.congr (Bk hρ hθ hκ tu kJ hl.2),bL,c,U,eJ.low hρ hθ hκ tu kJ XF hl.2 Z⟩
 |cells cs e=> simp only [OR,wF] at *;obtain⟨arr,lo,hi,us,U,Z,h3,h4,h5,h6,h7⟩:=ho;rw [hθ,hκ];exact⟨arr,lo,hi,us,U,cA.low hρ hθ hκ tu kJ cs us hl Z,h3,h4,h5,h6,h7⟩
 |map es c=>
  grind [OR,wF,eC.low]
 |jP s p=>simp only [OR] at *; rw [hθ]; exact ho
 |jh m s l z=>cases m<;>(simp only [OR] at *; grind)
 |jJ e t=>
  grind [OR,wF,dc]
 |vec e t ty ov=>
  grind [OR,wF,dc,s8,cD]
end
theorem Kc {K:Nat} {ρ ρ':Nat->Int} (hρ: ∀i,i<K->ρ' i=ρ i): ∀{pc:List (SB×Bool)},PE K pc=true->bW ρ pc->bW ρ' pc
 |[],_,_=>by intro c b h; simp at h
 |(c0,b0)::l,hl,hp=>by
  simp only [PE,an] at hl;intro c b hm;rcases ax.1 hm with hm|hm
  ·simp only [ak] at hm;obtain⟨rfl,rfl⟩:=hm;rw [rh hρ c hl.1];exact hp c b ad
  ·exact Kc hρ hl.2 (fun c b h=>hp c b (by simp [h])) c b hm
theorem xQ {K:Nat}: ∀{l:List (Nat×W)},ra K l=true->∀{t:Nat} {v:W},(t,v)∈l->jI K v=true
 |[],_,_,_,h=>by simp at h
 |(t0,v0)::l,hs,t,v,h=>by
  simp only [ra,an] at hs;rcases ax.1 h with h|h
  ·grind
  ·exact xQ hs.2 h
theorem uh {K:Nat}: ∀{l:List dG},B4 K l=true->∀{i:Nat} {o:dG},l[i]?=some o->wF K o=true
 |[],_,_,_,h=>by simp at h
 |o0::l,hs,i,o,h=>by
  simp only [B4,an] at hs
  cases i with
  |zero=>simp at h; rw [<- h]; exact hs.1
  |succ i=>exact uh hs.2 (by simpa using h)
structure vg (E:En) (s:St) (a:Act) (w:World):Prop where
 fresh: ∀id,s.h.next<=id->¬E.dm id
 res: ∀r,s.h.res=some r->r<s.h.next/\¬E.dm r
 live: ∀id o,s.h.get id=some o->E.dm id/\OR E w.heap id o/\¬E.ro (E.θ id).1
 inj: ∀id Nx o o',s.h.get id=some o->s.h.get Nx=some o'->(E.θ id).1=(E.θ Nx).1->id=Nx
 pL: ∀b,E.ro b->b<w.heap.size
 sr:SR E w.heap s.bE a
 pc:bW E.ρ s.pc
 hid: ∀b x,E.hd b=some x->b<w.heap.size/\¬E.ro b/\∀id o,s.h.get id=some o->(E.θ id).1≠b
theorem Fit.x [bI] {E:En} {s:St} {a:Act} {w:World} (f:Fit E s a w):vg E s a w:=⟨f.rel.fresh,f.rel.res,f.rel.live,f.rel.inj,f.rel.pL,f.sr,f.pc,f.rel.hid⟩
theorem vg.fit [bI] {E:En} {s:St} {a:Act} {w:World} (f:vg E s a w) (hg:bI.ok E.ρ E.ro w.heap):Fit E s a w:=⟨⟨f.fresh,f.res,f.live,f.inj,f.pL,hg,f.hid⟩,f.sr,f.pc⟩
theorem vg.low {K:Nat} {E:En} {c:CS} {a:Act} {w:World} {ρ':Nat->Int} (hc:u4 K c=true) (hρ: ∀i,i<K->ρ' i=E.ρ i) (f:vg E c.st a w):vg { E with ρ:=ρ' } c.st a w:=by
 unfold u4 at hc;simp only [an] at hc;obtain⟨⟨U,Z⟩,h3⟩:=hc;refine⟨f.fresh,f.res,fun id o ho=>?_,f.inj,f.pL,fun t v ht=>?_,Kc hρ h3 f.pc,f.hid⟩
 ·obtain⟨q1,q2,q3⟩:=f.live id o ho;refine⟨q1,OR.low (E:=E) (E':={ E with ρ:=ρ' }) hρ rfl rfl rfl rfl ?_ q2,q3⟩;have:(nT c.dy 0 .nil).get id=some o:=ho
  grind [ja,uh,Tr.get]
 ·obtain⟨u,q1,q2⟩:=f.sr t v ht;refine⟨u,q1,VR.low (E:=E) (E':={ E with ρ:=ρ' }) hρ rfl rfl rfl rfl v u ?_ q2⟩;have:(ni c.bE .nil).get t=some v:=ht;rcases tW this with h|h
  all_goals grind [xQ,Tr.get]
end Go.As
end
section
namespace Go.As
open Go.RowKit
def tD (ro:Nat->Prop) (h:Array Obj) (c:CK) (n:Int) (u:Value):Prop:=match c with
 | .int k=>u= .int k n
 | .bool=>u= .bool (!(n == 0))
 |c=>Rd ro h c (dec n) u
def gF (ro:Nat->Prop) (h:Array Obj):List CK->List Int->List Value->Prop
 |[],ns,us=>ns= []/\us= []
 |c::cs,ns,us=> ∃n e! u gq,ns=n::e!/\us=u::gq/\tD ro h c n u/\gF ro h cs e! gq
theorem LF {E:En} {h:Array Obj} {c:CK} {t:V} {u:Value}:VR E h (RE c t) u↔tD E.ro h c (t.den E.ρ) u:=by cases c<;>simp only [RE,tD,VR,SB.den,V.den]
theorem WN {E:En} {h:Array Obj} {c:CK} {v:W} {u:Value} {e:V} (hv:VR E h v u) (hn:WO c v=some e):tD E.ro h c (e.den E.ρ) u:=by
 unfold WO at hn;split at hn
 ·grind [tD,VR]
 ·grind
 ·obtain⟨s,rfl,hs⟩:=xN hv hn;simp only [tD,hs];exact .str s
 ·exact kG hv hn
theorem gF.length {ro:Nat->Prop} {h:Array Obj}: ∀{cs:List CK} {ns:List Int} {us:List Value},gF ro h cs ns us->ns.length=cs.length/\us.length=cs.length
 |[],ns,us,hh=>by simp only [gF] at hh; simp [hh.1,hh.2]
 |c::cs,ns,us,hh=>by
  obtain⟨n,e!,u,gq,rfl,rfl,_,Z⟩:=hh;have:=Z.length
  grind
theorem tD.bX {ro l8:Nat->Prop} {h h':Array Obj} (k1: ∀b,ro b->l8 b) (k2: ∀b,ro b->h'[b]?=h[b]?) {c:CK} {n:Int} {u:Value} (r:tD ro h c n u):tD l8 h' c n u:=by
 cases c with
 |int k=>exact r
 |bool=>exact r
 |str=>exact Rd.bX k1 k2 r
 |sl t=>exact Rd.bX k1 k2 r
theorem Ey {E:En} {h:Array Obj} {f:Nat->V}: ∀{cs:List CK} {i:Nat} {ns:List Int} {us:List Value},gF E.ro h cs ns us->(∀k n,ns[k]?=some n->(f (i+k)).den E.ρ=n)->cA E h (Ez cs f i) us
 |[],_,_,us,hh,_=>by simp only [gF] at hh; rw [hh.2]; simp [Ez,cA]
 |c::cs,i,ns,us,hh,hf=>by
  obtain⟨n,e!,u,gq,rfl,rfl,U,Z⟩:=hh;simp only [Ez,bV];refine⟨u,gq,rfl,?_,Ey Z fun k m hk=>?_⟩
  ·rw [LF];have:=hf 0 n rfl
   grind
  ·have:=hf (k+1) m (by simpa using hk)
   grind
inductive Shape:List RK->List Value->List Value->Prop where
 |nil:Shape [] [] []
 |one (c:CK) {rs:List RK} {us fl:List Value} (u:Value):Shape rs us fl->Shape (.one c::rs) (u::us) (u::fl)
 |agg (cs:List CK) {rs:List RK} {us fl:List Value} (xs:List Value) (h:xs.length=cs.length):Shape rs us fl->Shape (.agg cs::rs) (.agg xs.toArray::us) (xs++fl)
theorem nt {E:En} {h:Array Obj}: ∀{kU:List RK} {vs cells:List W} {us:List Value},cA E h vs us->cellsOf kU vs=some cells->∃fl,Shape kU us fl/\cA E h cells fl
 |[],[],cells,us,hv,hc=>by simp only [cellsOf,ag] at hc;subst hc;simp only [cA] at hv;subst hv;exact⟨[],.nil,by simp [cA]⟩
 |[],_::_,cells,us,hv,hc=>by simp [cellsOf] at hc
 | .one _::_,[],cells,us,hv,hc=>by simp [cellsOf] at hc
 | .agg _::_,[],cells,us,hv,hc=>by simp [cellsOf] at hc
 | .one c::rs,v::vs,cells,us,hv,hc=>by
   rw [bV] at hv;obtain⟨u,gq,rfl,U,Z⟩:=hv;simp only [cellsOf] at hc;split at hc
   ·split at hc
    ·rename_i l hl;simp only [ag] at hc;subst hc;obtain⟨fl,s,v2⟩:=nt Z hl;exact⟨u::fl,.one c u s,by rw [bV]; exact⟨u,fl,rfl,U,v2⟩⟩
    grind
   grind
 | .agg cs::rs,v::vs,cells,us,hv,hc=>by
   rw [bV] at hv;obtain⟨u,gq,rfl,U,Z⟩:=hv;simp only [cellsOf] at hc;split at hc
   ·rename_i xs;split at hc
    ·rename_i hlen;have hlen:=aq hlen;split at hc
     ·rename_i l hl;simp only [ag] at hc;subst hc;obtain⟨fl,s,v2⟩:=nt Z hl;simp only [VR] at U;obtain⟨ws,rfl,h3⟩:=U;exact⟨ws++fl,.agg cs ws (by rw [h3.length,hlen]) s,h3.append v2⟩
     grind
    grind
   grind
theorem wW {ro:Nat->Prop} {h:Array Obj}: ∀{cs ds:List CK} {ns:List Int} {us vs:List Value},us.length=cs.length->gF ro h (cs++ds) ns (us++vs)->∃a b,ns=a++b/\gF ro h cs a us/\gF ro h ds b vs
 |[],ds,ns,us,vs,hl,hh=>by have:us= []:=alM hl;subst this;exact⟨[],ns,rfl,by simp [gF],hh⟩
 |c::cs,ds,ns,us,vs,hl,hh=>by
  simp only [aP,gF] at hh;obtain⟨n,e!,u,gq,rfl,he,U,Z⟩:=hh
  cases us with
  |nil=>simp at hl
  |cons x us=> simp only [aP,List.cons.injEq] at he;obtain⟨rfl,rfl⟩:=he;obtain⟨a,b,rfl,h3,h4⟩:=wW (by simpa using hl) Z;exact⟨n::a,b,rfl,⟨n,a,x,us,rfl,rfl,U,h3⟩,h4⟩
theorem rv {E:En} {h:Array Obj} {f:Nat->V}: ∀{kU:List RK} {us fl:List Value} {ns:List Int} {i:Nat},Shape kU us fl->gF E.ro h (oh kU) ns fl->(∀k n,ns[k]?=some n->(f (i+k)).den E.ρ=n)->cA E h (oR kU f i) us
 |[],us,fl,ns,i,s,_,_=>by cases s; simp [oR,cA]
 | .one c::rs,us,fl,ns,i,s,hc,hf=>by
   cases s with
   |one _ u s=>
    simp only [oh,RK.flat,aP,aC,gF] at hc;obtain⟨n,e!,u',gq,rfl,he,U,Z⟩:=hc;simp only [List.cons.injEq] at he;obtain⟨rfl,rfl⟩:=he;simp only [oR,bV];refine⟨_,_,rfl,?_,rv s Z fun k m hk=>?_⟩
    ·rw [LF];have:=hf 0 n rfl
     grind
    ·have:=hf (k+1) m (by simpa using hk)
     grind
 | .agg cs::rs,us,fl,ns,i,s,hc,hf=>by
   cases s with
   |agg _ xs hl s=>
    simp only [oh,RK.flat] at hc;obtain⟨a,b,rfl,U,Z⟩:=wW hl hc;have NN:=U.length.1;simp only [oR,bV,VR];refine⟨_,_,rfl,⟨xs,rfl,Ey U fun k m hk=>hf k m ?_⟩,rv s Z fun k m hk=>?_⟩
    ·grind
    ·have:=hf (cs.length+k) m (by rw [anb J,show cs.length+k-a.length=k by omega]; exact hk)
     grind
section
variable {P:Program} {E:En} {w:World}
theorem B3 {α:Type} {r:α} {h:Array Obj}: ∀{cs:List CK} {vs:List W} {s:St} {k:List V->St->T α} {us:List Value},bW E.ρ s.pc->cA E h vs us->(outs cs vs s k).leaf E.ρ=some r->
 ∃es dY,bW E.ρ dY/\gF E.ro h cs (es.map (V.den E.ρ)) us/\(k es { s with pc:=dY }).leaf E.ρ=some r
 |[],[],s,k,us,hp,hv,hl=>by simp only [outs] at hl;simp only [cA] at hv;exact⟨[],s.pc,hp,by simp [gF,hv],hl⟩
 |[],_::_,s,k,us,hp,hv,hl=>by simp [outs,T.leaf] at hl
 |_::_,[],s,k,us,hp,hv,hl=>by simp [outs,T.leaf] at hl
 |c::cs,v::vs,s,k,us,hp,hv,hl=>by
  rw [bV] at hv;obtain⟨u,gq,rfl,U,Z⟩:=hv;simp only [outs] at hl;split at hl
  ·split at hl
   ·rename_i b;obtain⟨fA,fk,Ak⟩:=cH hp hl;obtain⟨es,jt,jk,q1,q2⟩:=B3 (s:={ s with pc:=fA }) fk Z Ak;refine⟨_::es,jt,jk,?_,q2⟩;simp only [aw,gF];refine⟨_,_,u,gq,rfl,rfl,?_,q1⟩;simp only [VR] at U;subst U;simp only [tD,V.den];cases b.den E.ρ<;>rfl
   grind [T.leaf]
  ·split at hl
   ·rename_i e he;obtain⟨es,jt,jk,q1,q2⟩:=B3 hp Z hl
    grind [gF,WN]
   grind [T.leaf]
theorem w5 (ρ:Nat->Int): ∀es:List V,dec ((fL es).den ρ)=dL ((es.map (V.den ρ)).map .i)
 |[]=>by simp only [fL,V.den,bB]; rfl
 |e::es=>by simp only [fL,ey,V.den,fc.den,bB,ld,w5 ρ es,aw,dL]
theorem iU (ρ:Nat->Int): ∀es:List V,(fL es).den ρ=lZ (es.map (V.den ρ))
 |[]=>rfl
 |e::es=>by have:=w5 ρ (e::es);simp only [fL,ey,V.den,fc.den,bB,ld,w5 ρ es,aw,lZ,dL]
theorem vq {ρ:Nat->Int} {r:V} {ys:List Int} (h:r.den ρ=lZ ys) {i:Nat} {y:Int} (hi:ys[i]?=some y):(n6 r i).den ρ=y:=by simp only [n6,V.den,fc.den,h,lZ,bB,D.hd,bM,bn,hi,alE,az,D.n]
def aaw (kU:List RK) (ys:List Int) (ro:Nat->Prop) (h:Array Obj) (u:Value):Prop:= ∃us fl,Shape kU us fl/\gF ro h (oh kU) ys fl/\u=if hh:us.toArray.size=1 then us.toArray[0] else .tuple us.toArray
def ZT (P:Program) (GB:(Nat->Prop)->Array Obj->Prop) (g:FuncId) (EG kU:List RK) (f:List Int->Option (List Int)):Prop:=
 ∀xs ys,f xs=some ys->∀(ro:Nat->Prop) (w:World) (vals fl:List Value),(∀b,ro b->b<w.heap.size)->GB ro w.heap->Shape EG vals fl->gF ro w.heap (oh EG) xs fl->
  Calls P g vals.toArray w fun e w'=> ∃u,e= .returned u/\Below w.heap.size w w'/\∃l8:Nat->Prop,(∀b,ro b->l8 b)/\(∀b,l8 b->ro b\/w.heap.size<=b)/\(∀b,l8 b->b<w'.heap.size)/\aaw kU ys l8 w'.heap u
theorem gF.adN {ro l8:Nat->Prop} {h h':Array Obj}: ∀{cs:List CK} {ns:List Int} {us:List Value},gF ro h cs ns us->FF cs=true->gF l8 h' cs ns us
 |[],ns,us,hh,_=>hh
 |c::cs,ns,us,hh,hs=>by
  obtain⟨n,e!,u,gq,rfl,rfl,U,Z⟩:=hh;simp only [FF] at hs;split at hs
  ·exact⟨n,e!,u,gq,rfl,rfl,U,Z.adN hs⟩
  ·exact⟨n,e!,u,gq,rfl,rfl,U,Z.adN hs⟩
  grind
theorem Xv [bI] {GB:(Nat->Prop)->Array Obj->Prop} (KR: ∀ρ ro h,bI.ok ρ ro h->GB ro h) {F:nP} (KQ: ∀ρ ro h,bI.ok ρ ro h->Good F ρ) {g:FuncId} {j:Nat} {EG kU:List RK} (hs:ZT P GB g EG kU (F j))
 (kV: ∀(args:Array Value) (w:World),(callFunc g args).run P w= .ok (.enter g args) w):iE P g (Xw j EG kU):=by
 intro alD s E w vals v s' r hv hp hl;unfold Xw at hl;split at hl
 ·grind [T.leaf]
 ·rename_i cells hc;obtain⟨fl,sh,N?⟩:=nt hv hc;obtain⟨afp,U,pcF,E1,O!,f,hfr,hl⟩:=pd rfl r hp hl;have hv3:=hfr _ N?;have s1:=f.ek;have r1:=f.rel;have hρ:=f.ρ;rw [<- hρ] at hl O!;obtain⟨es,fA,fk,q1,q2⟩:=B3 (s:={ s with h:=U,pc:=pcF }) O! hv3 hl;obtain⟨jt,jk,q3⟩:=cH (s:={ s with h:=U,pc:=fA }) fk q2;split at q3
  ·rename_i ht;have hg:=KQ _ _ _ r1.iT;have hg1:=(hg j (es.map (V.den E1.ρ))).1;have hg2:=(hg j (es.map (V.den E1.ρ))).2;simp only [SB.den,V.den,iU,hg1,beq_iff_eq] at ht
   have Be:(F j (es.map (V.den E1.ρ))).isSome=true:=by
    grind
   obtain⟨ys,Gt⟩:=al8.1 Be;have xp:=bC q3;simp only [ak] at xp;obtain⟨rfl,hs'⟩:=xp;have aby:=hs _ ys Gt E1.ro w vals fl r1.pL (KR _ _ _ r1.iT) sh q1
   have EZ: ∀(E2:En) (Z:Array Obj) (us fl':List Value),E2.ρ=E1.ρ->Shape kU us fl'->gF E2.ro Z (oh kU) ys fl'->
    VR E2 Z (match oR kU (n6 (.ap (2*j+1) (fL es))) 0 with |[v]=>v|vs=> .tuple vs) (if hh:us.toArray.size=1 then us.toArray[0] else .tuple us.toArray):=by
    intro E2 Z us fl' hE2 sh' c1
    have hvr:cA E2 Z (oR kU (n6 (.ap (2*j+1) (fL es))) 0) us:=by
     refine rv sh' c1 fun k n hk=>?_;rw [ay];refine vq (ys:=ys) ?_ hk;show E2.ρ _=_
     grind [iU]
    have:=BZ hvr;unfold zO at this;exact this
   cases hsc:FF (oh kU) with
   |true=>
    rw [hsc] at hs';simp only at hs';subst hs';refine⟨rfl,by rw [<- hρ]; exact jk,?_⟩;unfold kS mO;rw [kV];refine Calls.mono aby fun e w' ⟨u,he,Y,l8,k1,k2,k3,k4⟩=> ⟨u,he,?_⟩;have tp:fh E w.heap E w'.heap:=⟨rfl,fun _ h=>h,fun _ _=>rfl,fun _ _=>rfl,fun _ h=>h,fun b Iu=>Y.block b (r.pL b Iu)⟩
    have tF:eN E s.h w E s.h w':=
     ⟨rfl,fun _ h=>h,fun _ _=>rfl,fun _ _=>rfl,fun _ h=>h,fun b Iu=> .inl Iu,au _,.inr rfl,fun _ h=> .inl h,Y.os,Y.tape,Y.output,Y.size,fun b mX _=>Y.block b mX,fun id o h _=> ⟨id,o,h,rfl⟩,rfl⟩
    have r2:bO E s.h w':=by refine⟨r.fresh,r.res,fun id o h=>?_,r.inj,fun b Iu=>alW (r.pL b Iu) Y.size,bI.bX r.iT (fun _ h=>h) tp.AW,r.Tc tF.hd tF.size tF.qQ tF.own⟩;obtain⟨g1,g2,g3⟩:=r.live id o h;exact⟨g1,g2.bX tp g1 (Y.block _ (fF r h)) (r.Ti rfl (fun x hx _=>Y.block x hx) _),g3⟩
    obtain⟨us,fl',sh',c1,rfl⟩:=k4;exact⟨E,tF,r2,EZ E w'.heap us fl' hρ.symm sh' (c1.adN hsc)⟩
   |false=>
    rw [hsc] at hs';simp only at hs';subst hs';refine⟨rfl,by rw [<- hρ]; exact jk,?_⟩;unfold kS mO;rw [kV];refine Calls.mono aby fun e w' ⟨u,he,Y,l8,k1,k2,k3,k4⟩=> ⟨u,he,?_⟩;have tp:fh E1 w.heap { E1 with ro:=l8 } w'.heap:=⟨rfl,fun _ h=>h,fun _ _=>rfl,fun _ _=>rfl,k1,fun b Iu=>Y.block b (r1.pL b Iu)⟩
    have tF:eN E1 U w { E1 with ro:=l8 } U w':=
     ⟨rfl,fun _ h=>h,fun _ _=>rfl,fun _ _=>rfl,k1,fun b Iu=>(k2 b Iu).imp id .inr,au _,.inr rfl,fun _ h=> .inl h,Y.os,Y.tape,Y.output,Y.size,fun b mX _=>Y.block b mX,fun id o h _=> ⟨id,o,h,rfl⟩,rfl⟩
    have r2:bO { E1 with ro:=l8 } U w':=by
     refine⟨r1.fresh,r1.res,fun id o h=>?_,r1.inj,k3,bI.bX r1.iT k1 tp.AW,r1.Tc tF.hd tF.size tF.qQ tF.own⟩;obtain⟨g1,g2,g3⟩:=r1.live id o h;refine⟨g1,g2.bX tp g1 (Y.block _ (fF r1 h)) (r1.Ti rfl (fun x hx _=>Y.block x hx) _),fun hr=>?_⟩;rcases k2 _ hr with hr|hr
     ·grind
     ·have ff:(E1.θ id).1<w.heap.size:=fF r1 h
      grind
    obtain⟨us,fl',sh',c1,rfl⟩:=k4;exact⟨{ E1 with ro:=l8 },s1.trans tF,r2,EZ { E1 with ro:=l8 } w'.heap us fl' rfl sh' c1⟩
  grind [T.leaf]
end
structure lX where
 w0:World
 ro:Nat->Prop
 m:Nat
 θ:Nat->Nat×Nat
 κ:Nat->Nat
def lX.fp (B:lX) (b:Nat):Prop:= ∃i,i<B.m/\(B.θ i).1=b
structure Bel (B:lX) (w:World):Prop where
 os:w.os=B.w0.os
 tape:w.tape=B.w0.tape
 output:w.output=B.w0.output
 size:B.w0.heap.size<=w.heap.size
 nZ: ∀k,k<B.w0.heap.size->¬B.fp k->w.heap[k]?=B.w0.heap[k]?
structure kc (B:lX) (E:En) (s:St) (a:Act) (w:World):Prop where
 fit:vg E s a w
 ro: ∀b,B.ro b->E.ro b
 qQ: ∀b,E.ro b->B.ro b\/B.w0.heap.size<=b\/B.fp b
 Md:Bel B w
 own: ∀id o,s.h.get id=some o->B.w0.heap.size<=(E.θ id).1\/B.fp (E.θ id).1
 N': ∀i,i<B.m->E.dm i/\E.θ i=B.θ i/\E.κ i=B.κ i
 sE: ∀b x,E.hd b=some x->B.w0.heap.size<=b
section
variable {P:Program} {B:lX}
theorem kc.step [bI] {E E':En} {s s':St} {a a':Act} {w w':World} (t:kc B E s a w) (st:eN E s.h w E' s'.h w') (f':Fit E' s' a' w'):kc B E' s' a' w':=by
 have O?: ∀id o,s'.h.get id=some o->B.w0.heap.size<=(E'.θ id).1\/B.fp (E'.θ id).1:=by
  intro id o ho;rcases aQ (E'.θ id).1 w.heap.size with h|h
  ·obtain⟨qR,o0,h0,he⟩:=st.own id o ho h;rw [<- he];exact t.own qR o0 h0
  ·exact .inl (bk t.Md.size h)
 refine⟨f'.x,fun b Y=>st.ro b (t.ro b Y),fun b Y=>?_,⟨st.os.trans t.Md.os,st.tape.trans t.Md.tape,st.output.trans t.Md.output,bk t.Md.size st.size,fun k hk hn=>?_⟩,O?,fun i hi=>?_,fun b x Y=>t.sE b x (by rw [<- st.hd]; exact Y)⟩
 ·rcases st.qQ b Y with h|⟨id,o,U,Z⟩|h
  ·exact t.qQ b h
  ·rw [<- Z]; exact .inr (t.own id o U)
  ·exact .inr (.inl (bk t.Md.size h))
 ·rw [<- t.Md.nZ k hk hn];refine st.bX k (alW hk t.Md.size) fun id o ho he=>?_;rcases t.own id o ho with h|h
  all_goals grind
 ·obtain⟨U,Z,h3⟩:=t.N' i hi;exact⟨st.dm i U,by rw [st.θ i U]; exact Z,by rw [st.κ i U]; exact h3⟩
theorem kc.then [bI] {E:En} {s s':St} {a a':Act} {w w':World} (t:kc B E s a w) (h:mE E s a w s' a' w'): ∃E',kc B E' s' a' w'/\E'.ρ=E.ρ/\bI.ok E'.ρ E'.ro w'.heap:=by obtain⟨_,_,E',st,f'⟩:=h;exact⟨E',t.step st f',st.ρ,f'.rel.iT⟩
theorem kc.pc {E:En} {s:St} {a:Act} {w:World} {pc:List (SB×Bool)} (t:kc B E s a w) (hp:bW E.ρ pc):kc B E { s with pc:=pc } a w:=
 ⟨⟨t.fit.fresh,t.fit.res,t.fit.live,t.fit.inj,t.fit.pL,t.fit.sr,hp,t.fit.hid⟩,t.ro,t.qQ,t.Md,t.own,t.N',t.sE⟩
theorem Dw {r:Ren}: ∀{m:Nat},Dx m r=true->∀i,i<m->i<r.bl.length/\r.id i=i/\r.tG i=0
 |0,_,i,hi=>by omega
 |n+1,h,i,hi=>by
  simp only [Dx,an] at h;obtain⟨⟨U,Z⟩,h3⟩:=h;by_cases he:i=n
  ·subst he;split at U
   ·rename_i j hj;have U:=aq U;subst U;refine⟨?_,?_,aq Z⟩
    all_goals grind [di,Ren.id]
   grind
  ·exact Dw h3 i J
theorem kc.fits [bI] {E:En} {c:CS} {s:St} {r:Ren} {a:Act} {w:World} (t:kc B E s a w) (hg:bI.ok E.ρ E.ro w.heap) (h:c.fits d? s r=true) (hid:Dx B.m r=true):r.ns.length<=900/\kc B (E.gA r) c.st a w:=by
 obtain⟨hl,f,ho⟩:=yM M7 (t.fit.fit hg) h;refine⟨hl,f.x,t.ro,t.qQ,t.Md,fun id o hid=>?_,fun i hi=>?_,t.sE⟩
 ·obtain⟨o',h'⟩:=ho id o hid;exact t.own _ _ h'
 ·obtain⟨q1,q2,q3⟩:=Dw hid i hi;obtain⟨U,Z,h3⟩:=t.N' i hi;refine⟨⟨q1,by rw [q2]; exact U⟩,?_,?_⟩
  ·show ((E.θ (r.id i)).1,(E.θ (r.id i)).2+r.tG i)=_
   grind
  ·show E.κ (r.id i)-r.tG i=_
   grind
theorem kc.low {K:Nat} {E:En} {c:CS} {a:Act} {w:World} {ρ':Nat->Int} (hc:u4 K c=true) (hρ: ∀i,i<K->ρ' i=E.ρ i) (t:kc B E c.st a w):kc B { E with ρ:=ρ' } c.st a w:=
 ⟨t.fit.low hc hρ,t.ro,t.qQ,t.Md,t.own,t.N',t.sE⟩
def lX.out (B:lX) (ys:List Int) (ro:Nat->Prop):En:={ ρ:=low ys,θ:=B.θ,κ:=B.κ,dm:=fun i=>i<B.m,ro:=ro }
def QE (B:lX) (kU:List RK) (eb:List dG) (ko:Nat) (ys:List Int) (e:Ending) (w':World):Prop:=
 ∃u,e= .returned u/\Bel B w'/\∃l8:Nat->Prop,(∀b,B.ro b->l8 b)/\(∀b,l8 b->B.ro b\/B.w0.heap.size<=b)/\(∀b,l8 b->b<w'.heap.size)/\(∀i,i<B.m->¬l8 (B.θ i).1)/\
  (∀i o,eb[i]?=some o->OR (B.out ys l8) w'.heap i o)/\aaw kU (ys.drop ko) l8 w'.heap u
def SD (us:List Value):Value:=if h:us.toArray.size=1 then us.toArray[0] else .tuple us.toArray
def QR (B:lX) (n7:List CS) (ys:List Int) (e:Ending) (w':World):Prop:=
 ∃(us:List Value) (i:Nat) (c:CS) (E':En),e= .returned (SD us)/\Bel B w'/\n7[i]?=some c/\ys[0]?=some (i:Int)/\ys.length=c.k+1/\(∀a x,ys[a+1]?=some x->E'.ρ a=x)/\us.length=c.bE.length/\
  vg E' c.st { tmps:=us.toArray,defers:=[] } w'/\(∀b,B.ro b->E'.ro b)/\(∀b,E'.ro b->B.ro b\/B.w0.heap.size<=b)/\(∀i,i<B.m->i<c.dy.length/\E'.dm i/\E'.θ i=B.θ i/\E'.κ i=B.κ i)/\(∀id o,c.st.h.get id=some o->B.m<=id->B.w0.heap.size<=(E'.θ id).1)
def QX (B:lX) (kU:List RK) (eb:List dG) (ko:Nat) (n7:List CS) (ys:List Int):Ending->World->Prop:=match n7 with
 |[]=>QE B kU eb ko ys
 |c::l=>QR B (c::l) ys
structure O8 [bI] (P:Program) (g:tf) (qi:Nat->List Oper->Bool):Prop where
 tt:ew P g.tt
 call:gX P g.call
 draw:vh P qi g.draw
theorem rI {qi:Nat->List Oper->Bool} {N:Nat} {body:Code} (h:jG qi N body=true): ∀(p:List Nat) {c:Code} {fr:List FrE},oq body p=some (c,fr)->jG qi N c=true
 |[],c,fr,hl=>by
  grind [oq]
 |d::p,c,fr,hl=>by
  simp only [oq] at hl;split at hl
  ·rename_i a b XV hp;have:=rI h p hp
   grind [jG]
  ·rename_i id b XV hp;have:=rI h p hp
   grind [jG]
  ·rename_i v a b XV hp;have:=rI h p hp
   grind [jG]
  ·rename_i b XV hp;have:=rI h p hp
   grind [jG]
  ·rename_i b XV hp;have:=rI h p hp
   grind [jG]
  grind
theorem vC {body:Code}: ∀(p:List Nat) {c:Code} {fr:List FrE},oq body p=some (c,fr)->EL body fr
 |[],c,fr,h=>by simp only [oq,ag,ak] at h;rw [<- h.2]; trivial
 |d::p,c,fr,h=>by
  have h0:=h;simp only [oq] at h;split at h
  ·rename_i a b XV hp;have ih:=vC p hp;split at h
   ·simp only [ag,ak] at h;obtain⟨rfl,rfl⟩:=h;refine⟨?_,ih⟩;simp only [oq,hp]
   grind
  ·rename_i id b XV hp;have ih:=vC p hp;simp only [ag,ak] at h;rw [<- h.2]; exact ih
  ·rename_i v a b XV hp;have ih:=vC p hp
   grind
  ·rename_i b XV hp;have ih:=vC p hp;simp only [ag,ak] at h;rw [<- h.2];exact⟨hp,ih⟩
  ·rename_i b XV hp;have ih:=vC p hp;simp only [ag,ak] at h;rw [<- h.2]; exact ih
  grind
def LY (F:nP) (ρ:Nat->Int) (ys:List Int):Lf->Prop
 | .out es=>es.map (V.den ρ)=ys
 | .jump j es=>F j (es.map (V.den ρ))=some ys
def b_ [bI] (P:Program) (body:Code) (N:Nat) (B:lX) (Q:Exit->Act->World->Prop) (F:nP) (ys:List Int) (eX:BQ):Prop:=
 ∀p l,eX p=some l->∃b fr,oq body p=some (.loop b,fr)/\∀j c,(j,c)∈l->∀E a w,kc B E c.st a w->bI.ok E.ρ E.ro w.heap->(∃xs:List Int,(∀i x,xs[i]?=some x->E.ρ i=x)/\xs.length=c.k/\c.k<=900/\F j xs=some ys)->N<=a.tmps.size->a.defers= []->EK P b (KE P Q fr) a w
theorem nk (g:Tr V): ∀(n i:Nat),(xj g n i).length=n
 |0,_=>rfl
 |n+1,i=>by simp only [xj];split<;>simp [nk g n (i+1)]
theorem sH (m:Nat) (c:CS) (s:St):(c.jb m s).ns.length=c.k:=by
 grind [CS.jb,nk]
theorem yL: ∀(n i:Nat) (ns:List V),(Bl n i ns).length=ns.length
 |0,_,_=>rfl
 |_+1,_,[]=>rfl
 |n+1,i,_::ns=>by simp only [Bl,aK,yL n (i+1) ns]
theorem uR (gU:Nat) (r:Ren):(qL gU r).ns.length=r.ns.length:=by
 unfold qL
 grind [yL]
theorem Ht {α:Type} {k:St->T α} {E:En} {a:Act} {w:World} {x:α}: ∀{ts:List (Nat×Nat)} {s:St},(Mm k ts s).leaf E.ρ=some x->kc B E s a w->∃s',kc B E s' a w/\(k s').leaf E.ρ=some x
 |[],s,h,t=> ⟨s,t,h⟩
 |(i,g)::ts,s,h,t=>by
  simp only [Mm] at h;split at h
  ·obtain⟨dY,fj,U⟩:=cH t.fit.pc h;exact Ht U (t.pc fj)
  ·exact Ht h t
theorem vE [bI] {gU:Nat} {F:nP} {ys:List Int} {body:Code} {N:Nat} {Q:Exit->Act->World->Prop} {eX:BQ} (hj:b_ P body N B Q F ys eX) {p:List Nat} {l0:List (Nat×CS)} (hp:eX p=some l0) {b:Code} {fr:List FrE} (hl:oq body p=some (.loop b,fr)) :
 ∀{l:List (Nat×CS)} {s:St} {lf:Lf} {E:En} {a:Act} {w:World},(∀x∈l,x∈l0)->(qx B.m gU s l).leaf E.ρ=some lf->LY F E.ρ ys lf->kc B E s a w->bI.ok E.ρ E.ro w.heap->N<=a.tmps.size->a.defers= []->EK P b (KE P Q fr) a w
 |[],s,lf,E,a,w,_,h,_,_,_,_,_=>by simp [qx,T.leaf] at h
 |(j,c)::l,s,lf,E,a,w,lY,h,pE,t,hg,hN,hd=>by
  simp only [qx] at h;split at h
  ·exact vE hj hp hl (fun x hx=>lY x (by simp [hx])) h pE t hg hN hd
  ·split at h
   ·rename_i hf;have:=bC h;subst this;simp only [an] at hf;obtain⟨hle,t'⟩:=t.fits hg hf.1 hf.2;obtain⟨b',XV,NI,hh⟩:=hj p l0 hp;rw [hl] at NI;simp only [ag,ak,Code.loop.injEq] at NI;obtain⟨rfl,rfl⟩:=NI;have n9:(qL gU (c.jb B.m s)).ns.length=c.k:=by rw [uR,sH]
    refine hh j c (lY _ ad) (E.gA (qL gU (c.jb B.m s))) a w t' (bI.gA hg fun i hi=>Ren.lA hle hi) ⟨(qL gU (c.jb B.m s)).ns.map (V.den E.ρ),fun i x hi=>?_,by simp [n9],by rw [<- n9]; exact hle,pE⟩ hN hd;rw [bn,aO] at hi;obtain⟨e,he,rfl⟩:=hi;show (qL gU (c.jb B.m s)).env E.ρ i=_
    grind [Ren.env,di]
   ·exact vE hj hp hl (fun x hx=>lY x (by simp [hx])) h pE t hg hN hd
theorem vY {α:Type} {k:St->T α} {E:En} {a:Act} {w:World} {x:α}: ∀{ts:List Nat} {s:St},(u9 k ts s).leaf E.ρ=some x->kc B E s a w->∃s',kc B E s' a w/\(k s').leaf E.ρ=some x
 |[],s,h,t=> ⟨s,t,h⟩
 |i::ts,s,h,t=>by
  simp only [u9] at h;split at h
  ·rename_i c hc;obtain⟨dY,fj,U⟩:=cH t.fit.pc h;refine vY U ⟨⟨t.fit.fresh,t.fit.res,t.fit.live,t.fit.inj,t.fit.pL,fun j v hj=>?_,fj,t.fit.hid⟩,t.ro,t.qQ,t.Md,t.own,t.N',t.sE⟩;simp only at hj;rw [Tr.bR] at hj;split at hj
   ·rename_i he;subst he;simp only [ag] at hj;subst hj;obtain⟨u,Z,h3⟩:=t.fit.sr _ _ hc;refine⟨u,Z,?_⟩;simp only [VR] at h3 ⊢;rw [h3];rfl
   ·exact t.fit.sr j v hj
  ·exact vY h t
theorem SW (g:tf) (h:Hp):(gB g h).ns.length=g.ko/\(gB g h).bl=List.range g.eb.length/\(gB g h).sh= []:=by
 grind [gB,nk]
def nfs:List dG->Bool
 |[]=>true
 |o::l=>nf o&&nfs l
theorem H5: ∀{l:List dG},nfs l=true->∀{i:Nat} {o:dG},l[i]?=some o->nf o=true
 |[],_,_,_,h=>by simp at h
 |o0::l,hs,i,o,h=>by
  simp only [nfs,an] at hs
  cases i with
  |zero=>simp at h; rw [<- h]; exact hs.1
  |succ i=>exact H5 hs.2 (by simpa using h)
def mu (K:Nat):List dG->Bool
 |[]=>true
 |o::l=>nf o&&(wF K o&&mu K l)
theorem mr {K:Nat}: ∀{l:List dG},mu K l=true->∀{i:Nat} {o:dG},l[i]?=some o->nf o=true/\wF K o=true
 |[],_,_,_,h=>by simp at h
 |o0::l,hs,i,o,h=>by
  simp only [mu,an] at hs
  cases i with
  |zero=>simp at h; rw [<- h]; exact⟨hs.1,hs.2.1⟩
  |succ i=>exact mr hs.2.2 (by simpa using h)
theorem Cp {n m gU:Nat} {s:St} {ρ:Nat->Int} {lf:Lf}: ∀{l:List CS} {k:Nat},(Lo n m gU s l k).leaf ρ=some lf->∃i c,l[i-k]?=some c/\(c.fits d? s (qL gU (c.jb m s))=true/\Dx m (qL gU (c.jb m s))=true)/\n=c.bE.length/\lf= .out (.lit (i:Int)::(qL gU (c.jb m s)).ns)/\k<=i
 |[],k,h=>by simp [Lo,T.leaf] at h
 |c::l,k,h=>by
  simp only [Lo] at h;split at h
  ·obtain⟨i,c',q1,q2,q3,q4,q5⟩:=Cp h
   grind
  ·rename_i hq;simp only [an] at hq;split at h
   ·rename_i hf;have:=bC h;simp only [an] at hf;exact⟨k,c,ad,hf,aq hq.2,this.symm,au _⟩
   ·obtain⟨i,c',q1,q2,q3,q4,q5⟩:=Cp h
    grind
theorem Jr {E E':En} {h h':Array Obj} (kp:fh E h E' h'): ∀{xs:List W} {us:List Value} {i:Nat} {x:W},cA E h xs us->xs[i]?=some x->∃u,VR E h x u/\∀x',VR E' h' x' u->cA E' h' (xs.set i x') us
 |[],us,i,x,_,hx=>by simp at hx
 |y::ys,us,0,x,hv,hx=>by rw [bV] at hv;obtain⟨u,vs,rfl,a,b⟩:=hv;simp only [aG,ag] at hx;subst hx;refine⟨u,a,fun x' T7=>?_⟩;rw [amn,bV];exact⟨u,vs,rfl,T7,cA.bX kp _ _ b⟩
 |y::ys,us,i+1,x,hv,hx=>by rw [bV] at hv;obtain⟨u,vs,rfl,a,b⟩:=hv;rw [aH] at hx;obtain⟨u',U,Z⟩:=Jr kp b hx;refine⟨u',U,fun x' T7=>?_⟩;rw [amo,bV];exact⟨u,vs,rfl,VR.bX kp _ _ a,Z x' T7⟩
theorem IA [bI] {α:Type} {ρ:Nat->Int} {w:World} {us:List Value} {k:List W->St->T α} {x:α}: ∀{fz:List (Nat×Nat×Nat)} {vs:List W} {s:St} {E:En},E.ρ=ρ->bO E s.h w->bW ρ s.pc->cA E w.heap vs us->(K1 fz vs s k).leaf ρ=some x->
 ∃L3 h' dY E',bW ρ dY/\JE E w s.h E' h'/\cA E' w.heap L3 us/\(k L3 { s with h:=h',pc:=dY }).leaf ρ=some x
 |[],vs,s,E,hρ,r,hp,hv,h=> ⟨vs,s.h,s.pc,E,hp,JE.refl r,hv,h⟩
 |(i,f,t)::l,vs,s,E,hρ,r,hp,hv,h=>by
  simp only [K1] at h;split at h
  ·rename_i xs hi;split at h
   ·rename_i y hy;rw [di] at hi hy;obtain⟨y',U,fA,E1,fk,f1,q1,g1⟩:=Iz hρ r hp h;have kp:=f1.ek.keeps r;obtain⟨u,a,b⟩:=Jr kp hv hi;simp only [VR] at a;obtain⟨ws,rfl,a⟩:=a;obtain⟨u2,a2,b2⟩:=Jr kp a hy;split at g1
    ·rename_i e he;have hc:=kG (q1 _ a2) he
     have P9:cA E1 w.heap (vs.set i (.agg (xs.set f (.eo e t)))) us:=by refine b _ ?_;simp only [VR];exact⟨ws,rfl,b2 _ (by simp only [VR]; exact hc)⟩
     obtain⟨vs2,Z,jt,E2,jk,f2,q2,g2⟩:=IA (s:={ s with h:=U,pc:=fA }) (f1.ρ.trans hρ) f1.rel fk P9 g1;exact⟨vs2,Z,jt,E2,jk,f1.trans f2,q2,g2⟩
    grind [T.leaf]
   grind [T.leaf]
  grind [T.leaf]
theorem W_ [bI] {g:tf} {qi:Nat->List Oper->Bool} (hg:O8 P g qi) {fn:Func} (xp:g.res=fn.results.toList) (hm:g.eb.length=B.m) (nR:mu g.ko g.eb=true) (h_:g.ko<=900) {e:Ex} {s:St} {lf:Lf} {E:En} {a:Act} {w:World} {F:nP} {ys:List Int} (h:(X7 g e s).leaf E.ρ=some lf) (pE:LY F E.ρ ys lf)
 (t:kc B E s a w) (n9:bI.ok E.ρ E.ro w.heap) (hd:a.defers= []):bodyPost P fn (QX B g.kU g.eb g.ko g.n7 ys) (wZ e) a w:=by
 have fit:=t.fit.fit n9
 have key: ∀{x:T Lf},x=(match kA g.tt s g.res with
  |none=>T.fail
  |some vs=>match g.n7 with
   |[]=>match cellsOf g.kU vs with
    |none=> .fail
    |some cells=>wO cells s fun cells s=>match zT (gB g s.h) g.eb.length s.h g.eb 0 with
     |true=>outs (oh g.kU) cells s fun es _=> .ret (.out ((gB g s.h).ns++es))
     |false=> .fail
   |c::l=>K1 g.fz vs s fun vs s=>Lo vs.length g.eb.length g.gU ⟨cf vs 0 .nil,s.h,s.pc⟩ (c::l) 0)->x.leaf E.ρ=some lf->∃v,(results fn a.tmps).run P w= .ok v w/\QX B g.kU g.eb g.ko g.n7 ys (.returned v) w:=by
  intro x hx hl;subst hx;split at hl
  ·simp [T.leaf] at hl
  ·rename_i vs hr;rw [xp] at hr;obtain⟨us,g1,g2⟩:=sR hg.tt fit hr
   have kV:(results fn a.tmps).run P w= .ok (SD us) w:=by
    have hm:(fn.results.mapM (ub a)).run P w= .ok us.toArray w:=by rw [anC];simp_all
    have hr2:results fn a.tmps=(do let vs <- fn.results.mapM (ub a); pure (if h:vs.size=1 then vs[0] else .tuple vs)):=rfl;rw [hr2];simp only [Sem.run_bind,hm];rfl
   split at hl
   ·rename_i Ag;split at hl
    ·simp [T.leaf] at hl
    ·rename_i cells hc;rw [Ag];show ∃v,_/\QE B g.kU g.eb g.ko ys (.returned v) w;obtain⟨fl,sh,N?⟩:=nt g2 hc;obtain⟨afp,U,pcF,E1,O!,f,hfr,hl⟩:=pd rfl fit.rel fit.pc hl;have hv3:=hfr _ N?;have s1:=f.ek;have r1:=f.rel;split at hl
     ·rename_i Jw;have hρ:=f.ρ;rw [<- hρ] at hl pE O!;obtain⟨es,fA,fk,q1,q2⟩:=B3 (s:={ s with h:=U,pc:=pcF }) O! hv3 hl;have:=bC q2;subst this;simp only [LY] at pE;obtain⟨n1,n2,n3⟩:=SW g U
      have DC:ys.drop g.ko=es.map (V.den E1.ρ):=by
       grind
      have akC: ∀i,i<g.ko->low ys i=(gB g U).env E1.ρ i:=by
       intro i hi
       grind [gB,low,Ren.env,di]
      have alz: ∀i,i<B.m->E1.dm i/\E1.θ i=B.θ i/\E1.κ i=B.κ i:=by intro i hi;obtain⟨U,Z,h3⟩:=t.N' i hi;exact⟨s1.dm i U,by rw [s1.θ i U]; exact Z,by rw [s1.κ i U]; exact h3⟩
      have aky: ∀i,i<g.eb.length->(gB g U).id i=i:=by
       intro i hi
       grind [Ren.id,di]
      have S7: ∀i,(gB g U).tG i=0:=by intro i;unfold Ren.tG;rw [n3];rfl
      have yB: ∀i,i<B.m->¬E1.ro (B.θ i).1:=by
       intro i hi;have ff:i<g.eb.length:=J
       obtain⟨o',q3,_,_⟩:=iw Jw (aM ff);rw [ay,aky i ff] at q3;have:=(r1.live i o' q3).2.2
       grind
      refine⟨SD us,kV,_,rfl,t.Md,E1.ro,fun b Y=>s1.ro b (t.ro b Y),fun b Y=>?_,r1.pL,yB,fun i o hi=>?_,us,fl,sh,by rw [DC]; exact q1,rfl⟩
      ·have key:B.ro b\/B.w0.heap.size<=b\/B.fp b:=by
        rcases s1.qQ b Y with h|⟨id,o,U,Z⟩|h
        ·exact t.qQ b h
        ·rw [<- Z]; exact .inr (t.own id o U)
        ·exact .inr (.inl (bk t.Md.size h))
       rcases key with h|h|⟨i,hi,he⟩
       ·exact .inl h
       ·exact .inr h
       ·exact absurd Y (by rw [<- he]; exact yB i hi)
      ·have ei:=(aW.1 hi).1;obtain⟨o',q3,q4,q5⟩:=iw Jw hi;rw [ay] at q3 q5;have ho:=(r1.live _ o' q3).2.1;have ho2:=OR.gA (E:=E1) (r:=gB g U) J (id:=i) (by rw [n2,List.length_range]; exact q4) q5 ho
       have kp:fh (E1.gA (gB g U)) w.heap { ρ:=(gB g U).env E1.ρ,θ:=B.θ,κ:=B.κ,dm:=fun i=>i<B.m,ro:=E1.ro } w.heap:=by
        have hd: ∀id,(E1.gA (gB g U)).dm id->id<g.eb.length:=by
         intro id hh;have:=hh.1
         grind
        refine⟨rfl,fun id hh=>by have:=hd id hh; show id<B.m; omega,fun id hh=>?_,fun id hh=>?_,fun _ h=>h,fun _ _=>rfl⟩
        ·have:=hd id hh;show B.θ id=((E1.θ ((gB g U).id id)).1,(E1.θ ((gB g U).id id)).2+(gB g U).tG id)
         grind
        ·have:=hd id hh;show B.κ id=E1.κ ((gB g U).id id)-(gB g U).tG id
         grind
       have ail:(E1.gA (gB g U)).dm i:=by
        refine⟨by rw [n2,List.length_range]; exact ei,?_⟩
        grind
       have hθi:(E1.gA (gB g U)).θ i=B.θ i:=(kp.θ i ail).symm;have ho3:=OR.abr kp ail rfl (mr nR hi).1 ho2;exact OR.low (K:=g.ko) (E:={ ρ:=(gB g U).env E1.ρ,θ:=B.θ,κ:=B.κ,dm:=fun i=>i<B.m,ro:=E1.ro }) (E':=B.out ys E1.ro) akC rfl rfl rfl rfl (mr nR hi).2 ho3
     ·simp [T.leaf] at hl
   ·rename_i c0 l0 Ag
    have hq:QR B (c0::l0) ys (.returned (SD us)) w:=by
     obtain⟨UM,U,fA,E1,fk,f1,g2,hl⟩:=IA rfl fit.rel fit.pc g2 hl;have n9:=f1.rel.iT
     have t0:kc B E1 ⟨cf UM 0 .nil,U,fA⟩ { tmps:=us.toArray,defers:=[] } w:=by have sr1:=yx g2 0;exact t.step (s':=⟨cf UM 0 .nil,U,fA⟩) f1.ek ⟨f1.rel,by simpa using sr1,by rw [f1.ρ]; exact fk⟩
     rw [<- f1.ρ] at hl pE;obtain⟨i,c,q1,⟨q2,q2'⟩,q3,q4,_⟩:=Cp hl;rw [hm] at q2 q2' q4;obtain⟨hle,t1⟩:=t0.fits n9 q2 q2';rw [q4] at pE;simp only [LY,aw] at pE;subst pE
     have mX:(qL g.gU (c.jb B.m ⟨cf UM 0 .nil,U,fA⟩)).bl.length=c.dy.length:=by simp_all [CS.fits]
     have xH: ∀i,i<B.m->i<c.dy.length:=fun i hi=>by rw [<- mX]; exact (Dw q2' i hi).1
     have yB: ∀i,i<B.m->∃o,c.st.h.get i=some o:=by
      intro i hi;have Is:=xH i hi;refine⟨c.dy[i],?_⟩;show (nT c.dy 0 .nil).get i=_
      grind [ja]
     have hfp: ∀b,B.fp b->¬(E1.gA (qL g.gU (c.jb B.m ⟨cf UM 0 .nil,U,fA⟩))).ro b:=by
      rintro b ⟨i,hi,rfl⟩ Y;obtain⟨o,ho⟩:=yB i hi;have:=(t1.fit.live i o ho).2.2;rw [(t1.N' i hi).2.1] at this
      grind
     refine⟨us,i,c,E1.gA (qL g.gU (c.jb B.m ⟨cf UM 0 .nil,U,fA⟩)),rfl,t.Md,by simpa using q1,by simp [V.den],by simp [uR,sH],fun a x ha=>?_,by rw [<- q3,g2.length],t1.fit,t1.ro,fun b Y=>?_,fun i hi=> ⟨xH i hi,t1.N' i hi⟩,fun id o ho hid=>?_⟩
     ·simp only [aH,bn,aO] at ha;obtain⟨e,he,rfl⟩:=ha;show (qL g.gU (c.jb B.m ⟨cf UM 0 .nil,U,fA⟩)).env E1.ρ a=_
      grind [Ren.env,di]
     ·rcases t1.qQ b Y with h|h|h
      all_goals grind
     ·rcases t1.own id o ho with h|⟨i,hi,he⟩
      ·exact h
      ·obtain⟨o',Aj⟩:=yB i hi;rw [<- (t1.N' i hi).2.1] at he;have:=t1.fit.inj i id o' o Aj ho he;omega
    exact⟨SD us,kV,by rw [Ag]; exact hq⟩
 unfold X7 at h
 cases e with
 |exit id=>simp [T.leaf] at h
 |normal=>exact⟨hd,key rfl h⟩
 |ret=>exact⟨hd,key rfl h⟩
theorem EU {P:Program} {Q:Exit->Act->World->Prop} {e:Ex} {a:Act} {w:World} (h:Q (wZ e) a w):Exit.noGoto Q (wZ e) a w:=by cases e<;>exact h
theorem kc.view [bI] {E E':En} {s:St} {a:Act} {w:World} {h':Hp} {dY:List (SB×Bool)} (hm:B.m=0) (t:kc B E s a w) (v:View E s.h w E' h') (hp:bW E.ρ dY):kc B E' { s with h:=h',pc:=dY } a w:=by
 have hold: ∀b,aau E s.h b->B.w0.heap.size<=b:=by
  rintro b (⟨id,o,U,Z⟩|⟨x,U⟩)
  ·rcases t.own id o U with h|⟨i,hi,_⟩
   ·rw [Z] at h; exact h
   ·omega
  ·exact t.sE b x U
 refine⟨⟨v.rel.fresh,v.rel.res,v.rel.live,v.rel.inj,v.rel.pL,fun i x hi=>?_,by rw [v.kp.ρ]; exact hp,v.rel.hid⟩,fun b Y=>v.kp.ro b (t.ro b Y),fun b Y=>?_,t.Md,fun id o ho=> .inl (hold _ (v.hold _ (.inl ⟨id,o,ho,rfl⟩))),fun i hi=>by omega,fun b x Y=>hold _ (v.hold _ (.inr ⟨x,Y⟩))⟩
 ·obtain⟨u,U,Z⟩:=t.fit.sr i x hi;exact⟨u,U,VR.bX v.kp _ _ Z⟩
 ·rcases v.qQ b Y with h|h
  ·exact t.qQ b h
  ·exact .inr (.inl (hold b h))
def qk [bI] {α:Type} (B:lX) (a:Act) (w:World) (f:St->(St->T α)->T α):Prop:= ∀(k:St->T α) (E:En) (s:St) (x:α),kc B E s a w->bI.ok E.ρ E.ro w.heap->(f s k).leaf E.ρ=some x->∃E' s',E'.ρ=E.ρ/\kc B E' s' a w/\bI.ok E'.ρ E'.ro w.heap/\(k s').leaf E.ρ=some x
theorem Sj [bI] {α:Type} {a:Act} {w:World} (hm:B.m=0) (id:Nat) (y:V):qk (α:=α) B a w (T? id y):=by intro k E s x t hg h;obtain⟨h',dY,E',hp,v,g⟩:=T! rfl (t.fit.fit hg).rel t.fit.pc h;exact⟨E',_,v.kp.ρ,t.view hm v hp,v.rel.iT,g⟩
theorem Si [bI] {α:Type} {a:Act} {w:World} (hm:B.m=0) (id:Nat):qk (α:=α) B a w (G! id):=by intro k E s x t hg h;obtain⟨h',dY,E',hp,v,g⟩:=G' rfl (t.fit.fit hg).rel t.fit.pc h;exact⟨E',_,v.kp.ρ,t.view hm v hp,v.rel.iT,g⟩
theorem mc [bI] {α:Type} {a:Act} {w:World}:qk (α:=α) B a w (fun s k=>k s):=fun _ E s _ t hg h=> ⟨E,s,rfl,t,hg,h⟩
theorem qk.then [bI] {α:Type} {a:Act} {w:World} {f f':St->(St->T α)->T α} (U:qk B a w f) (Z:qk B a w f'):qk B a w (fun s k=>f s fun s=>f' s k):=by intro k E s x t hg h;obtain⟨E1,s1,e1,t1,g1,q1⟩:=U _ E s x t hg h;rw [<- e1] at q1;obtain⟨E2,s2,e2,t2,g2,q2⟩:=Z _ E1 s1 x t1 g1 q1;exact⟨E2,s2,e2.trans e1,t2,g2,by rw [<- e1]; exact q2⟩
theorem w4 [bI] {α:Type} {a:Act} {w:World} (hm:B.m=0) (y:V): ∀l:List Nat,qk (α:=α) B a w (IC y l)
 |[]=>mc
 |i::l=>(Sj hm i y).then (w4 hm y l)
theorem Cz [bI] {α:Type} {a:Act} {w:World} (hm:B.m=0): ∀l:List Nat,qk (α:=α) B a w (Nb l)
 |[]=>mc
 |i::l=>(Si hm i).then (Cz hm l)
theorem Fm [bI] {α:Type} {a:Act} {w:World} (i:Nat):qk (α:=α) B a w (S? i):=by
 intro k E s x t hg h;unfold S? at h;split at h
 ·rename_i v hv;have fit:=t.fit.fit hg;obtain⟨v',h',dY,E',hp,f,hfr,g⟩:=Iz rfl fit.rel fit.pc h
  have key: ∀v2:W,(∀u,VR E w.heap v u->VR E' w.heap v2 u)->(k { s with h:=h',pc:=dY,bE:=s.bE.put (i % 1000) (some v2) }).leaf E.ρ=some x->∃E' s',E'.ρ=E.ρ/\kc B E' s' a w/\bI.ok E'.ρ E'.ro w.heap/\(k s').leaf E.ρ=some x:=by
   intro v2 Z g;refine⟨E',_,f.ρ,t.step f.ek ⟨f.rel,fun j y hj=>?_,by rw [f.ρ]; exact hp⟩,f.rel.iT,g⟩;obtain⟨u,hu,hvu⟩:=fit.sr (i % 1000) v hv;simp only [Tr.bR] at hj;split at hj
   ·rename_i he;subst he;simp only [ag] at hj;subst hj;exact⟨u,hu,Z u hvu⟩
   ·exact SR.bX (f.ek.keeps fit.rel) fit.sr j y hj
  split at g
  ·split at g
   ·rename_i e he;exact key _ (fun u hu=>by simp only [VR]; exact kG (hfr u hu) he) g
   ·simp [T.leaf] at g
  ·exact key _ hfr g
 ·exact⟨E,s,rfl,t,hg,h⟩
theorem CC [bI] {α:Type} {a:Act} {w:World} (hm:B.m=0) (r:Nat): ∀l:List FH,qk (α:=α) B a w (E7 r l)
 |[]=>mc
 |h0::l=>by
  have ih:=CC (α:=α) (a:=a) (w:=w) hm r l;intro k E s x t hg h;simp only [E7] at h;split at h
  ·exact ih k E s x t hg h
  ·split at h
   ·split at h
    ·exact ((Fm _).then ih) k E s x t hg h
    ·exact ih k E s x t hg h
   ·split at h
    ·exact ((w4 hm _ _).then ih) k E s x t hg h
    ·split at h
     ·exact ih k E s x t hg h
     ·obtain⟨dY,fj,U⟩:=cH t.fit.pc h;split at U
      ·exact ((w4 hm _ _).then ih) k E _ x (t.pc fj) hg U
      ·exact ih k E _ x (t.pc fj) hg U
theorem DQ {g:tf} (h:GR g=true):g.eb= []/\g.n7= []:=by
 unfold GR at h;split at h
 ·simp at h
 ·split at h
  ·rename_i U;split at h
   ·rename_i Z;exact⟨U,Z⟩
   ·simp at h
  ·simp at h
theorem CB [bI] {α:Type} {a:Act} {w:World} (r:Nat): ∀l:List FH,qk (α:=α) B a w (To r l)
 |[]=>mc
 |h0::l=>by
  have ih:=CB (α:=α) (a:=a) (w:=w) r l;intro k E s x t hg h;simp only [To] at h;split at h
  ·exact ih k E s x t hg h
  ·split at h
   ·exact ((Fm _).then ih) k E s x t hg h
   ·exact ih k E s x t hg h
theorem Mn [bI] {α:Type} {a:Act} {w:World} {g:tf} (hm:g.eb.length=B.m) (c:Code):qk (α:=α) B a w (Tp g c):=by
 intro k E s x t hg h;unfold Tp at h;split at h
 ·rename_i he;rw [(DQ he).1] at hm;split at h
  ·exact CC hm.symm _ _ k E s x t hg h
  ·exact mc k E s x t hg h
 ·split at h
  ·split at h
   ·exact CB _ _ k E s x t hg h
   ·exact mc k E s x t hg h
  ·exact mc k E s x t hg h
theorem CA [bI] {α:Type} {a:Act} {w:World} {g:tf} {p:List Nat} (hm:g.eb.length=B.m):qk (α:=α) B a w (SP g p):=by
 intro k E s x t hg h;unfold SP at h;split at h
 ·rename_i he;rw [(DQ he).1] at hm;split at h
  ·exact mc k E s x t hg h
  ·exact Cz hm.symm _ k E s x t hg h
 ·exact mc k E s x t hg h
theorem Iw [bI] {g:tf} {qi:Nat->List Oper->Bool} (hg:O8 P g qi) {body:Code} {N:Nat} (hd:jG qi N body=true) {fn:Func} (xp:g.res=fn.results.toList) (hm:g.eb.length=B.m) (nR:mu g.ko g.eb=true) (h_:g.ko<=900) {F:nP} {ys:List Int} {eX:BQ}
 (hj:b_ P body N B (bodyPost P fn (QX B g.kU g.eb g.ko g.n7 ys)) F ys eX): ∀n:Nat,
 (∀p c fr s lf E a w,oq body p=some (c,fr)->(wv g eX n p c fr s).leaf E.ρ=some lf->LY F E.ρ ys lf->kc B E s a w->bI.ok E.ρ E.ro w.heap->N<=a.tmps.size->a.defers= []->c.wp P (KE P (bodyPost P fn (QX B g.kU g.eb g.ko g.n7 ys)) fr) a w)/\
 (∀fr e s lf E a w,EL body fr->(sJ g eX n fr e s).leaf E.ρ=some lf->LY F E.ρ ys lf->kc B E s a w->bI.ok E.ρ E.ro w.heap->N<=a.tmps.size->a.defers= []->KE P (bodyPost P fn (QX B g.kU g.eb g.ko g.n7 ys)) fr (wZ e) a w)
 |0=> ⟨fun _ _ _ _ _ _ _ _ _ h=>by simp [wv,T.leaf] at h,fun _ _ _ _ _ _ _ _ h=>by simp [sJ,T.leaf] at h⟩
 |n+1=>by
  obtain⟨L8,vI⟩:=Iw hg hd xp hm nR h_ hj n
  have leaf: ∀p c fr s lf E a w,oq body p=some (c,fr)->(Tp g c s fun s=>(g.ev c s).bind fun (e,s')=>sJ g eX n fr e s').leaf E.ρ=some lf->LY F E.ρ ys lf->kc B E s a w->bI.ok E.ρ E.ro w.heap->N<=a.tmps.size->a.defers= []->c.wp P (KE P (bodyPost P fn (QX B g.kU g.eb g.ko g.n7 ys)) fr) a w:=by intro p c fr s lf E0 a w hl h pE t n9 hN Ce;obtain⟨E,s,hE,t,n9,h⟩:=Mn hm c _ E0 s lf t n9 h;rw [<- hE] at h pE;obtain⟨⟨e,s'⟩,U,Z⟩:=T.eZ h;refine wp_mono (kB hg.tt hg.call hg.draw c (rI hd p hl) E s s' e a w hN (t.fit.fit n9) U) fun x a' w' ⟨hx,ht⟩=>?_;subst hx;obtain⟨E',t',hρ,hg'⟩:=t.then ht;exact vI fr e s' lf E' a' w' (vC p hl) (by rw [hρ]; exact Z) (by rw [hρ]; exact pE) t' hg' (by rw [ht.size]; exact hN) (by rw [ht.defers,Ce])
  constructor
  ·intro p c fr s lf E a w hl h pE t n9 hN Ce;simp only [wv] at h;split at h
   ·rename_i l T8;obtain⟨E1,s1,hE,t,n9,h⟩:=CA hm _ E s lf t n9 h;rw [<- hE] at h pE;obtain⟨b,XV,NI,_⟩:=hj p l T8;rw [hl] at NI;simp only [ag,ak] at NI;obtain⟨rfl,rfl⟩:=NI;obtain⟨s',t',h'⟩:=vY h t;exact Nn (vE hj T8 hl (fun _ hx=>hx) (by rw [<- hm]; exact h') pE t' n9 hN Ce)
   ·cases c with
    |seq x y=> simp only at h;refine wp_seq ?_;exact L8 (0::p) x (.seq (1::p) y::fr) s lf E a w (by simp only [oq,hl]) h pE t n9 hN Ce
    |block id b=> simp only at h;refine wp_block ?_;exact L8 (0::p) b (.block id::fr) s lf E a w (by simp only [oq,hl]) h pE t n9 hN Ce
    |scope b=> simp only at h;refine wp_scope_straight ?_;exact L8 (0::p) b (.scope::fr) s lf E a w (by simp only [oq,hl]) h pE t n9 hN Ce
    |cond v x y=>
     simp only at h;split at h
     ·rename_i c hv;obtain⟨dY,fj,U⟩:=cH t.fit.pc h;have hvr:=fS t.fit.sr hv;simp only [VR] at hvr;refine wp_cond hvr ?_
      cases QM:c.den E.ρ with
      |true=> rw [QM] at U;simp only at U;exact L8 (0::p) x fr _ lf E a w (by simp only [oq,hl]) U pE (t.pc fj) n9 hN Ce
      |false=> rw [QM] at U;simp only at U;exact L8 (1::p) y fr _ lf E a w (by simp only [oq,hl]) U pE (t.pc fj) n9 hN Ce
     grind [T.leaf]
    |_=>simp only at h; exact leaf p _ fr s lf E a w hl h pE t n9 hN Ce
  ·intro fr e s lf E a w hf h pE t n9 hN Ce
   cases fr with
   |nil=> simp only [sJ] at h;exact W_ hg xp hm nR h_ h pE t n9 Ce
   |cons f fr=>
    cases f with
    |seq p c=>
     simp only [sJ] at h;obtain⟨hl,NL⟩:=hf
     cases e with
     |normal=>exact L8 p c fr s lf E a w hl h pE t n9 hN Ce
     |exit id=>exact vI fr (.exit id) s lf E a w NL h pE t n9 hN Ce
     |ret=>exact vI fr .ret s lf E a w NL h pE t n9 hN Ce
    |block id=>
     simp only [sJ] at h;have NL:EL body fr:=hf
     cases e with
     |normal=>exact vI fr .normal s lf E a w NL h pE t n9 hN Ce
     |ret=>exact vI fr .ret s lf E a w NL h pE t n9 hN Ce
     |exit j=>
      simp only at h;show (if j=id then _ else _);split at h
      ·rename_i XE;rw [ah (aq XE)];exact vI fr .normal s lf E a w NL h pE t n9 hN Ce
      ·rename_i XE;rw [af (amy XE)];exact vI fr (.exit j) s lf E a w NL h pE t n9 hN Ce
    |loop p b=>
     simp only [sJ] at h;obtain⟨hl,NL⟩:=hf
     cases e with
     |normal=>
      simp only at h;split at h
      ·rename_i l T8;obtain⟨E1,s1,hE,t,n9,h⟩:=CA hm _ E s lf t n9 h;rw [<- hE] at h pE;obtain⟨s',t',h'⟩:=vY h t;exact vE hj T8 hl (fun _ hx=>hx) (by rw [<- hm]; exact h') pE t' n9 hN Ce
      grind [T.leaf]
     |exit id=>exact vI fr (.exit id) s lf E a w NL h pE t n9 hN Ce
     |ret=>exact vI fr .ret s lf E a w NL h pE t n9 hN Ce
    |scope=> simp only [sJ] at h;exact EU (P:=P) (vI fr e s lf E a w hf h pE t n9 hN Ce)
end
end Go.As
end
section
namespace Go.As
open Go.RowKit
def Ren.bL (r:Ren):List (W×W×Nat)->List (W×W×Nat)
 |[]=>[]
 |(k,v,n)::l=>(r.av k,r.av v,n)::r.bL l
theorem Ren.Bt (r:Ren): ∀es:List (W×W×Nat),(r.bL es).map (·.2.2)=es.map (·.2.2)
 |[]=>rfl
 |(k,v,n)::l=>by simp only [Ren.bL,aw,Ren.Bt r l]
def Ren.ovs (r:Ren):List (V×List W)->List (V×List W)
 |[]=>[]
 |(i,cs)::l=>(r.se i,r.BN cs)::r.ovs l
def Ren.ob (r:Ren):dG->dG
 | .cells cs e=> .cells (r.BN cs) e
 | .map es n=> .map (r.bL es) n
 | .jP s p=> .jP s p
 | .jh m s l z=> .jh (m.map r.id) s l z
 | .vec e t ty ov=> .vec (r.se e) t ty (r.ovs ov)
 | .jJ e t=> .jJ (r.se e) t
 | .qS e t eS ov=> .qS e t eS ov
noncomputable def jQ (r:Ren):List dG->Nat->Hp->Hp
 |[],_,h=>h
 |o::os,i,h=>jQ r os (i+1) (h.put (r.id i) (r.ob o))
def F7 (r:Ren):Bool:=r.sh.all fun i=>Nat.beq i 0
def Pq (r:V) (n:Nat):List V:=(List.range n).map (n6 r)
noncomputable def Xu (j:Nat) (c:CS) (kU:List RK) (eb:List dG) (ko:Nat):List W->St->T (W×St):=fun args s=>
 match Nat.beq args.length c.bE.length&&c.fits d? ⟨cf args 0 .nil,s.h,s.pc⟩ (c.kM ⟨cf args 0 .nil,s.h,s.pc⟩)&&F7 (c.kM ⟨cf args 0 .nil,s.h,s.pc⟩) with
 |true=>jx s (.eq (.ap (2*j) (fL (c.kM ⟨cf args 0 .nil,s.h,s.pc⟩).ns)) (.lit 1)) fun s' b=>match b with
  |true=> .ret (match oR kU (n6 (.ap (2*j+1) (fL (c.kM ⟨cf args 0 .nil,s.h,s.pc⟩).ns))) ko with |[v]=>v|vs=> .tuple vs,
   { s' with h:=jQ ⟨Pq (.ap (2*j+1) (fL (c.kM ⟨cf args 0 .nil,s.h,s.pc⟩).ns)) ko,(c.kM ⟨cf args 0 .nil,s.h,s.pc⟩).bl,[]⟩ eb 0 s'.h })
  |false=> .fail
 |false=> .fail
noncomputable def aiD (s:St) (t c:Nat):V:=match s.bE.get t with
 |some v=>match v with
  | .int _ e=>e
  | .agg cs=>match eT cs c with
    |some v=>match v with
     | .int _ e=>e
     |_=> .lit 0
    |none=> .lit 0
  |_=> .lit 0
 |none=> .lit 0
noncomputable def XR (s:St):List (Nat×Nat)->List V->List V
 |[],ns=>ns
 |_::_,[]=>[]
 |(t,c)::l,_::ns=>aiD s t c::XR s l ns
noncomputable def h! (s:St) (gh:List (Nat×Nat)) (r:Ren):Ren:={ r with ns:=XR s gh r.ns }
noncomputable def aiC (s:St) (gh:List (Nat×Nat)):Option V:=match gh with
 |(t,c)::_=>some (aiD s t c)
 |[]=>none
noncomputable def qN (q:V) (gU:Nat) (ns:List V) (c:CS) (bl:List Nat) (s:St):Ren:=⟨(List.range c.k).map fun a=>match Nat.blt a gU with |true=>(match eT ns a with |some e=>e|none=> .lit 0)|false=>n6 q (a+1),(List.range c.dy.length).map fun i=>match eT bl i with |some j=>j|none=>s.h.next+(i-bl.length),[]⟩
noncomputable def XQ (g n:V) (s:St) (k:St->T (W×St)):T (W×St):=jx s (gV g (.lit 0)) fun s b=>match b with
 |true=>k s
 |false=>jx s (gV g n) fun s b=>match b with
  |true=> .fail
  |false=>k s
noncomputable def ghT (q:V) (gU:Nat) (ns:List V) (g:Option V) (c:CS) (bl:List Nat) (s:St) (k:St->T (W×St)):T (W×St):=match g with
 |none=>k s
 |some g=>match c.m with
  | .du _=>k s
  |_=>match c.bE with
   |[]=>k s
   |(_,v)::_=>match v with
    | .oL _ n _=>XQ g ((qN q gU ns c bl s).se n) s k
    |_=>k s
noncomputable def ZR (q:V) (gU:Nat) (ns:List V) (g:Option V) (bl:List Nat):List CS->Nat->St->T (W×St)
 |[],_,_=> .fail
 |c::l,i,s=>jx s (qp (n6 q 0) (.lit (Int.ofNat i))) fun s b=>match b with
  |true=>ghT q gU ns g c bl s fun s=> .ret (zO ((qN q gU ns c bl s).BN (c.bE.map fun p=>p.2)),
   { s with h:=⟨(jQ (qN q gU ns c bl s) c.dy 0 s.h).m,s.h.next+(c.dy.length-bl.length),s.h.res⟩ })
  |false=>ZR q gU ns g bl l (i+1) s
noncomputable def QD (j gU:Nat) (c:CS) (gh:List (Nat×Nat)) (n7:List CS):List W->St->T (W×St):=fun args s=>
 match Nat.beq args.length c.bE.length&&c.fits d? ⟨cf args 0 .nil,s.h,s.pc⟩ (h! s gh (c.kM ⟨cf args 0 .nil,s.h,s.pc⟩))&&F7 (h! s gh (c.kM ⟨cf args 0 .nil,s.h,s.pc⟩)) with
 |true=>jx s (.eq (.ap (2*j) (fL (h! s gh (c.kM ⟨cf args 0 .nil,s.h,s.pc⟩)).ns)) (.lit 1)) fun s' b=>match b with
  |true=>ZR (.ap (2*j+1) (fL (h! s gh (c.kM ⟨cf args 0 .nil,s.h,s.pc⟩)).ns)) gU (h! s gh (c.kM ⟨cf args 0 .nil,s.h,s.pc⟩)).ns (aiC s gh) (h! s gh (c.kM ⟨cf args 0 .nil,s.h,s.pc⟩)).bl n7 0 s'
  |false=> .fail
 |false=> .fail
section
variable {Eo E2:En} {r:Ren} {h:Array Obj} (hl:r.ns.length<=900) (xo:r.sh= []) (hρ:Eo.ρ=r.env E2.ρ) (hid: ∀i,Eo.dm i->E2.dm (r.id i)/\E2.θ (r.id i)=Eo.θ i/\E2.κ (r.id i)=Eo.κ i) (kJ:Eo.ro=E2.ro)
include hl xo hρ hid kJ
theorem V6 (i:Nat):r.tG i=0:=by unfold Ren.tG; rw [xo]; rfl
theorem eF.back {id off len:Nat} {a:Addr} {cap:Nat} {c:L2} (hd:Eo.dm id) (hc:eF Eo id off len a cap c):eF E2 (r.id id) off len a cap c:=by simp_all [eF]
mutual
theorem VR.back: ∀(x:W) (u:Value),VR Eo h x u->VR E2 h (r.av x) u
 | .bool b,u,hv=>by simp only [VR,Ren.av] at *; rw [Ren.zH hl,<- hρ]; exact hv
 | .int _ e,u,hv=>by simp only [VR,Ren.av] at *; rw [Ren.ef hl,<- hρ]; exact hv
 | .str s,u,hv=>by simp only [VR,Ren.av] at *; exact hv
 | .ptr id off,u,hv=>by
   simp only [VR,Ren.av,V6 hl xo hρ hid kJ,ay] at *
   grind
 | .tI,u,hv=>by simp only [VR,Ren.av] at *; exact hv
 | .mU cs,u,hv=>by simp only [VR,Ren.av] at *;obtain⟨b,o,us,U,Z,h3,h4,h5⟩:=hv;exact⟨b,o,us,U,by rw [<- kJ]; exact Z,cA.back cs us h3,h4,h5⟩
 | .slice id off len c,u,hv=>by simp only [VR,Ren.av,V6 hl xo hρ hid kJ,ay] at *;obtain⟨U,a,cap,Z,h3,h4⟩:=hv;exact⟨(hid id U).1,a,cap,Z,h3,eF.back hl xo hρ hid kJ U h4⟩
 | .eg,u,hv=>by simp only [VR,Ren.av] at *; exact hv
 | .ro cs n full,u,hv=>by simp only [VR,Ren.av] at *;obtain⟨b,o,cap,us,U,Z,h3,h4,h5,h6,h7⟩:=hv;exact⟨b,o,cap,us,U,Z,h3,by rw [<- kJ]; exact h4,cA.back cs us h5,h6,h7⟩
 | .map id,u,hv=>by
   simp only [VR,Ren.av] at *
   grind
 | .rq,u,hv=>by simp only [VR,Ren.av] at *; exact hv
 | .func fn fs cs,u,hv=>by simp only [VR,Ren.av] at *;obtain⟨us,ws,U,Z,h3⟩:=hv;exact⟨us,ws,U,cA.back fs us Z,cA.back cs ws h3⟩
 | .we,u,hv=>by simp only [VR,Ren.av] at *; exact hv
 | .iface t x,u,hv=>by simp only [VR,Ren.av] at *;obtain⟨y,U,Z⟩:=hv;exact⟨y,U,VR.back x y Z⟩
 | .xe,u,hv=>by simp only [VR,Ren.av] at *; exact hv
 | .agg cs,u,hv=>by simp only [VR,Ren.av] at *;obtain⟨us,U,Z⟩:=hv;exact⟨us,U,cA.back cs us Z⟩
 | .tuple cs,u,hv=>by simp only [VR,Ren.av] at *;obtain⟨us,U,Z⟩:=hv;exact⟨us,U,cA.back cs us Z⟩
 | .Kh _,u,hv=>by simp only [VR] at hv
 | .wi k ks,u,hv=>by
   simp only [VR,Ren.av] at *;rw [hρ,Ren.lA hl J,kJ] at hv;rcases hv with hv|⟨b,o,n,cap,U,Z,h3,h4,h5⟩
   ·grind
   ·refine .inr ⟨b,o,n,cap,U,Z,h3,h4,fun i j kd hi hj=>?_⟩;have:=h5 i j kd hi hj
    first
     |exact this
     |(rw [Ren.lA hl J] at this; exact this)
     |(rw [hρ,Ren.lA hl J] at this; exact this)
 | .emp,u,hv=>by simp only [VR,Ren.av] at *; exact hv
 | .eo e t,u,hv=>by simp only [VR,Ren.av] at *; rw [Ren.ef hl,<- hρ,<- kJ]; exact hv
 | .jy e,u,hv=>by simp only [VR,Ren.av] at *; rw [Ren.ef hl,<- hρ,<- kJ]; exact hv
 | .oL id n t,u,hv=>by simp only [Ren.av,V6 hl xo hρ hid kJ];simp only [VR] at *;obtain⟨U,k,a,cap,Z,h3,h4,h5⟩:=hv;exact⟨(hid id U).1,k,a,cap,by rw [Ren.ef hl,<- hρ]; exact Z,h3,h4,eF.back hl xo hρ hid kJ U h5⟩
 | .zd id es i off,u,hv=>by simp only [Ren.av,V6 hl xo hρ hid kJ];simp only [VR] at *;obtain⟨U,k,Z,h3⟩:=hv;obtain⟨g1,g2,_⟩:=hid id U;exact⟨g1,k,by rw [Ren.ef hl,<- hρ]; exact Z,by rw [g2]; exact h3⟩
 | .any,u,_=>by simp only [VR,Ren.av]
 | .wR z t,u,hv=>by simp only [VR,Ren.av] at *; rw [Ren.ef hl,<- hρ,<- kJ]; exact hv
 | .tE id lo n t,u,hv=>by simp only [Ren.av,V6 hl xo hρ hid kJ];simp only [VR] at *;obtain⟨U,l,k,a,cap,Z,h3,h4,h5,h6⟩:=hv;exact⟨(hid id U).1,l,k,a,cap,by rw [Ren.ef hl,<- hρ]; exact Z,by rw [Ren.ef hl,<- hρ]; exact h3,h4,h5,eF.back hl xo hρ hid kJ U h6⟩
theorem cA.back: ∀(xs:List W) (us:List Value),cA Eo h xs us->cA E2 h (r.BN xs) us
 |[],us,hv=>by simp only [cA,Ren.BN] at *; exact hv
 |x::xs,us,hv=>by simp only [cA,Ren.BN] at *;obtain⟨u,vs,U,Z,h3⟩:=hv;exact⟨u,vs,U,VR.back x u Z,cA.back xs vs h3⟩
end
theorem eC.back: ∀{es:List (W×W×Nat)} {bL:List MapEntry},eC Eo h es bL->eC E2 h (r.bL es) bL
 |[],_,hv=>by simp only [eC,Ren.bL] at *; exact hv
 |(k,v,b)::es,bL,hv=>by simp only [eC,Ren.bL] at *;obtain⟨e,rr,U,Z,h3,h4,h5⟩:=hv;exact⟨e,rr,U,VR.back hl xo hρ hid kJ k _ Z,VR.back hl xo hρ hid kJ v _ h3,h4,eC.back h5⟩
theorem C8 {i:Nat}: ∀{ov:List (V×List W)},dW E2.ρ i (r.ovs ov)=(dW Eo.ρ i ov).map r.BN
 |[]=>rfl
 |(j,cs)::l=>by
  simp only [dW,Ren.ovs];rw [Ren.ef hl,<- hρ,C8]
  grind
theorem wT {row:Row} {ov:List (V×List W)}: ∀(ds:List D) (i:Nat) {us:List Value},cA Eo h (bG Eo.ρ row ov ds i) us->cA E2 h (bG E2.ρ row (r.ovs ov) ds i) us
 |[],_,us,hv=>by simp only [bG,cA] at *; exact hv
 |d::ds,i,us,hv=>by
  simp only [bG] at *;obtain⟨a,b,rfl,U,Z⟩:=hv.split;refine cA.append ?_ (wT ds (i+1) Z);rw [C8 hl xo hρ hid kJ]
  cases ho:dW Eo.ρ i ov with
  |none=> rw [ho] at U;simp only [Option.map_none];rw [fT] at U ⊢;rw [<- kJ];exact U
  |some cs=> rw [ho] at U;exact cA.back hl xo hρ hid kJ cs a U
theorem F2 {row:Row}: ∀{ov:List (V×List W)},sg row ov->sg row (r.ovs ov)
 |[],h=>h
 |(i,cs)::l,h=>by
  intro p hp;simp only [Ren.ovs] at hp;rcases ax.1 hp with rfl|hp
  ·simp only [pw]; exact h (i,cs) ad
  ·exact F2 (fun q hq=>h q (by simp [hq])) p hp
theorem OR.back {id:Nat} {o:dG} (hn:nf o=true) (hd:Eo.dm id) (ho:OR Eo h id o):OR E2 h (r.id id) (r.ob o):=by
 obtain⟨_,Z,h3⟩:=hid id hd
 cases o with
 |qS e t eS ov=>simp [nf] at hn
 |cells cs e=> simp only [OR,Ren.ob] at *;obtain⟨arr,lo,hi,us,q1,q2,q3,q4,q5,q6,q7⟩:=ho;rw [Z,h3];exact⟨arr,lo,hi,us,q1,cA.back hl xo hρ hid kJ cs us q2,q3,by rw [pw]; exact q4,q5,q6,q7⟩
 |map es c=>
  simp only [OR,Ren.ob] at *;obtain⟨bL,c',q1,q2,q3⟩:=ho;rw [Z];refine⟨bL,c',q1,eC.back hl xo hρ hid kJ q2,?_⟩
  cases c with
  |zero=>trivial
  |succ c=>exact⟨q3.1,by rw [q3.2,Ren.Bt]⟩
 |jP s p=>simp only [OR,Ren.ob] at *; rw [Z]; exact ho
 |jh m s l z=>
  cases m with
  |none=>simp only [OR,Ren.ob,Option.map] at *; rw [Z]; exact ho
  |some i=> simp only [OR,Ren.ob,Option.map] at *;obtain⟨q1,q2,q3⟩:=hid i ho.2.2;rw [Z,q2];exact⟨ho.1,ho.2.1,q1⟩
 |jJ e t=>
  grind [OR,Ren.ob,Ren.ef]
 |vec e t ty ov=>
  simp only [OR,Ren.ob] at *;obtain⟨⟨q0,qw⟩,arr,lo,hi,us,q1,q2,q3,q4,q5,q6,q7⟩:=ho;have he:(r.se e).den E2.ρ=e.den Eo.ρ:=by rw [Ren.ef hl,<- hρ]
  have q0':=F2 hl xo hρ hid kJ q0;rw [Z,h3,he];refine⟨⟨q0',qw⟩,arr,lo,hi,us,q1,wT hl xo hρ hid kJ _ _ q2,q3,?_,q5,q6,q7⟩
  grind [cD]
end
theorem w8 {r:Ren}: ∀{os:List dG} {i:Nat} {h:Hp},(∀a b,i<=a->a<i+os.length->i<=b->b<i+os.length->r.id a=r.id b->a=b)->
 (∀k o,os[k]?=some o->(jQ r os i h).get (r.id (i+k))=some (r.ob o))/\(∀id,(∀k,k<os.length->r.id (i+k)≠id)->(jQ r os i h).get id=h.get id)/\(jQ r os i h).next=h.next/\(jQ r os i h).res=h.res
 |[],i,h,_=> ⟨fun k o hk=>by simp at hk,fun _ _=>rfl,rfl,rfl⟩
 |o::os,i,h,KP=>by
  obtain⟨U,Z,h3,h4⟩:=w8 (r:=r) (os:=os) (i:=i+1) (h:=h.put (r.id i) (r.ob o)) fun a b U Z h3 h4=>KP a b J (by simp only [aK]; omega) J (by simp only [aK]; omega);refine⟨fun k x hk=>?_,fun id hn=>?_,h3,h4⟩
  ·cases k with
   |zero=>
    simp at hk;subst hk;simp only [jQ];show (jQ r os (i+1) (h.put (r.id i) (r.ob o))).get (r.id i)=some (r.ob o)
    grind [Hp.bR]
   |succ k=>
    grind [jQ]
  ·simp only [jQ];rw [Z id fun k hk=>?_,Hp.bR,af ?_]
   ·have:=hn 0 ad
    grind
   grind
theorem wK (c:CS) (s:St):(c.kM s).ns.length=c.k:=by
 grind [CS.kM,nk]
section
variable {P:Program}
def acL (P:Program) (GB:(Nat->Prop)->Array Obj->Prop) (g:FuncId) (c:CS) (kU:List RK) (eb:List dG) (ko:Nat) (f:List Int->Option (List Int)):Prop:=
 ∀xs ys,f xs=some ys->∀(E:En) (w:World) (vals:List Value),(∀i x,xs[i]?=some x->E.ρ i=x)->xs.length=c.k->vg E c.st { tmps:=vals.toArray,defers:=[] } w->GB E.ro w.heap->
  Calls P g vals.toArray w (QE ⟨w,E.ro,c.dy.length,E.θ,E.κ⟩ kU eb ko ys)
theorem Xt [bI] {GB:(Nat->Prop)->Array Obj->Prop} (KR: ∀ρ ro h,bI.ok ρ ro h->GB ro h) {F:nP} (KQ: ∀ρ ro h,bI.ok ρ ro h->Good F ρ) {g:FuncId} {j:Nat} {c:CS} {kU:List RK} {eb:List dG} {ko:Nat} (nR:mu ko eb=true) (h_:ko<=900) (hom:eb.length=c.dy.length)
 (hs:acL P GB g c kU eb ko (F j)) (kV: ∀(args:Array Value) (w:World),(callFunc g args).run P w= .ok (.enter g args) w):iE P g (Xu j c kU eb ko):=by
 intro alD s E w vals v s' r hv hp hl;unfold Xu at hl;split at hl
 ·rename_i iV;simp only [an] at iV;obtain⟨⟨_,NK⟩,Ir⟩:=iV;have hlen:=wK c ⟨cf alD 0 .nil,s.h,s.pc⟩;generalize hr:c.kM ⟨cf alD 0 .nil,s.h,s.pc⟩ = rn at hl NK Ir hlen
  have f0:Fit E ⟨cf alD 0 .nil,s.h,s.pc⟩ { tmps:=vals.toArray,defers:=[] } w:=by refine⟨r,?_,hp⟩;have:=yx hv 0;simpa using this
  obtain⟨hle,f1,ho⟩:=yM M7 f0 NK;obtain⟨fA,fk,q1⟩:=cH hp hl;split at q1
  ·rename_i ht;have hg:=KQ _ _ _ r.iT;have hg1:=(hg j (rn.ns.map (V.den E.ρ))).1;have hg2:=(hg j (rn.ns.map (V.den E.ρ))).2;simp only [SB.den,V.den,iU,hg1,beq_iff_eq] at ht
   have Be:(F j (rn.ns.map (V.den E.ρ))).isSome=true:=by
    cases hh:(F j (rn.ns.map (V.den E.ρ))).isSome with
    |true=>rfl
    |false=>rw [hh] at ht; simp at ht
   obtain⟨ys,Gt⟩:=al8.1 Be
   have S9:(V.ap (2*j+1) (fL rn.ns)).den E.ρ=lZ ys:=by show E.ρ _=_;rw [iU,hg2,Gt];rfl
   have:=bC q1;simp only [ak] at this;obtain⟨rfl,rfl⟩:=this;refine⟨rfl,fk,?_⟩;unfold kS mO;rw [kV]
   have mG: ∀i x,(rn.ns.map (V.den E.ρ))[i]?=some x->(E.gA rn).ρ i=x:=by intro i x hi;rw [bn,aO] at hi;obtain⟨e,he,rfl⟩:=hi;show rn.env E.ρ i=_;unfold Ren.env;rw [di,he]
   refine Calls.mono (hs _ ys Gt (E.gA rn) w vals mG (by simpa using hlen) f1.x (KR _ _ _ f1.rel.iT)) fun e w' ⟨u,he,Y,l8,k1,k2,k3,k4,k5,k6⟩=> ⟨u,he,?_⟩;have ss:=NK;unfold CS.fits at ss;simp only [an] at ss;obtain⟨⟨⟨⟨⟨_,mX⟩,aeC⟩,_⟩,aeu⟩,_⟩:=ss;have mX:=aq mX
   have S7: ∀i,rn.tG i=0:=by
    intro i;unfold Ren.tG;split
    ·rename_i x hx;rw [di] at hx;unfold F7 at Ir;rw [aR] at Ir;exact aq (Ir x (bw hx))
    ·rfl
   have sE: ∀i,i<c.dy.length->∃o,s.h.get (rn.id i)=some o:=by intro i hi;obtain⟨o',g1,_⟩:=iw aeu (aM hi);rw [ay] at g1;exact⟨o',g1⟩
   have KP: ∀a b,a<c.dy.length->b<c.dy.length->rn.id a=rn.id b->a=b:=by
    intro a b ha Y he;have P?:a<rn.bl.length:=J
    have hlb:b<rn.bl.length:=J
    unfold Ren.id at he;rw [di,di,aM P?,aM hlb] at he;simp only at he;exact ox aeC (i:=a) (j:=b) (x:=rn.bl[a]) (by rw [di,aM P?]) (by rw [di,aM hlb,he])
   generalize hR:(⟨Pq (.ap (2*j+1) (fL rn.ns)) ko,rn.bl,[]⟩ : Ren)=R;have Iv: ∀i,R.id i=rn.id i:=by intro i; rw [<- hR]; rfl
   have hRl:R.ns.length=ko:=by rw [<- hR]; simp [Pq]
   obtain⟨p1,p2,p3,p4⟩:=w8 (r:=R) (os:=eb) (i:=0) (h:=s.h) fun a b _ Z _ h4 he=>by rw [Iv,Iv] at he;exact KP a b J J he
   have hfp: ∀b,(lX.mk w (E.gA rn).ro c.dy.length (E.gA rn).θ (E.gA rn).κ).fp b->∃id o,s.h.get id=some o/\(E.θ id).1=b:=by rintro b ⟨i,hi,he⟩;obtain⟨o,U⟩:=sE i hi;exact⟨_,o,U,he⟩
   have O_: ∀b,E.ro b->w'.heap[b]?=w.heap[b]?:=by intro b Iu;refine Y.nZ b (r.pL b Iu) fun hf=>?_;obtain⟨id,o,U,Z⟩:=hfp b hf;exact (r.live id o U).2.2 (by rw [Z]; exact Iu)
   have tp:fh E w.heap { E with ro:=l8 } w'.heap:=⟨rfl,fun _ h=>h,fun _ _=>rfl,fun _ _=>rfl,k1,O_⟩
   have NC: ∀id o,(jQ R eb 0 s.h).get id=some o->∃o',s.h.get id=some o':=by
    intro id o hg;by_cases hex: ∃k,k<eb.length/\R.id (0+k)=id
    ·obtain⟨k,hk,rfl⟩:=hex;rw [ay,Iv];exact sE k J
    ·rw [p2 id fun k hk he=>hex ⟨k,hk,he⟩] at hg;exact⟨o,hg⟩
   have tF:eN E s.h w { E with ro:=l8 } (jQ R eb 0 s.h) w':=by
    refine⟨rfl,fun _ h=>h,fun _ _=>rfl,fun _ _=>rfl,k1,fun b Iu=>(k2 b Iu).imp id .inr,by rw [p3]; exact au _,by rw [p4]; exact .inr rfl,fun _ h=> .inl h,Y.os,Y.tape,Y.output,Y.size,fun b mX hn=>Y.nZ b mX fun hf=>?_,fun id o hg _=>?_,rfl⟩
    ·obtain⟨id,o,U,Z⟩:=hfp b hf;exact hn id o U Z
    ·obtain⟨o',U⟩:=NC id o hg;exact⟨id,o',U,rfl⟩
   have QP: ∀i,i<ko->R.env E.ρ i=low ys i:=by
    intro i hi;unfold Ren.env low
    have hn:eT R.ns i=some (n6 (.ap (2*j+1) (fL rn.ns)) i):=by rw [<- hR,di];simp [Pq,hi]
    rw [hn];simp only;rw [amW];simp only [n6,V.den,fc.den,bB];have ah9:(V.ap (2*j+1) (fL rn.ns)).den E.ρ=lZ ys:=S9;simp only [V.den] at ah9;rw [ah9];simp only [lZ,bB,D.hd,bM,bn];cases ys[i]?<;>rfl
   have r2:bO { E with ro:=l8 } (jQ R eb 0 s.h) w':=by
    refine⟨fun id hid=>r.fresh id (by rw [<- p3]; exact hid),fun q hq=>by rw [p3]; exact r.res q (by rw [<- p4]; exact hq),fun id o hg=>?_,fun i1 i2 o1 o2 U Z he=>?_,k3,bI.bX r.iT k1 O_,r.Tc tF.hd tF.size tF.qQ tF.own⟩
    ·by_cases hex: ∃k,k<eb.length/\R.id (0+k)=id
     ·obtain⟨k,hk,rfl⟩:=hex;rw [ay];have hx:=aM hk;have:=p1 k _ hx;rw [hg] at this;simp only [ag] at this;subst this;obtain⟨o',U⟩:=sE k J;obtain⟨d1,d2,d3⟩:=r.live _ _ U;refine⟨by rw [Iv]; exact d1,?_,?_⟩
      ·have ho2:=k5 k _ hx
       have ho3:=OR.low (K:=ko) (E:=(lX.mk w (E.gA rn).ro c.dy.length (E.gA rn).θ (E.gA rn).κ).out ys l8) (E':={ ρ:=R.env E.ρ,θ:=(E.gA rn).θ,κ:=(E.gA rn).κ,dm:=fun i=>i<c.dy.length,ro:=l8 })
        (fun i hi=>QP i hi) rfl rfl rfl rfl (mr nR hx).2 ho2
       refine OR.back (Eo:={ ρ:=R.env E.ρ,θ:=(E.gA rn).θ,κ:=(E.gA rn).κ,dm:=fun i=>i<c.dy.length,ro:=l8 }) (E2:={ E with ro:=l8 }) (r:=R) (by rw [hRl]; exact h_) (by rw [<- hR]) rfl (fun i hi=>?_) rfl (mr nR hx).1 (show k<c.dy.length by omega) ho3;obtain⟨o2,Z⟩:=sE i hi;refine⟨by rw [Iv]; exact (r.live _ _ Z).1,?_,?_⟩
       ·show E.θ (R.id i)=((E.θ (rn.id i)).1,(E.θ (rn.id i)).2+rn.tG i);rw [Iv,S7,bg]
       ·show E.κ (R.id i)=E.κ (rn.id i)-rn.tG i;rw [Iv,S7,ant]
      ·rw [Iv];exact k4 k (by show k<c.dy.length; omega)
     ·rw [p2 id fun k hk he=>hex ⟨k,hk,he⟩] at hg;obtain⟨d1,d2,d3⟩:=r.live id o hg
      have R_:w'.heap[(E.θ id).1]?=w.heap[(E.θ id).1]?:=by refine Y.nZ _ (fF r hg) ?_;rintro⟨i,hi,he⟩;obtain⟨o',U⟩:=sE i hi;have:=r.inj _ id o' o U hg he;exact hex ⟨i,by show i<eb.length; rw [hom]; exact hi,by rw [ay,Iv]; exact this⟩
      refine⟨d1,d2.bX tp d1 R_ (r.Ti rfl (fun x hx hn=>Y.nZ x hx fun hf=>by obtain⟨id,o,U,Z⟩:=hfp x hf; exact hn id o U Z) _),fun hr=>?_⟩;rcases k2 _ hr with hr|hr
      ·exact d3 hr
      ·have ff:(E.θ id).1<w.heap.size:=fF r hg;have NJ:w.heap.size<=(E.θ id).1:=hr;omega
    ·obtain⟨a1,b1⟩:=NC _ _ U;obtain⟨a2,b2⟩:=NC _ _ Z;exact r.inj _ _ _ _ b1 b2 he
   refine⟨{ E with ro:=l8 },tF,r2,?_⟩;obtain⟨us,fl',sh',c1,rfl⟩:=k6
   have hvr:cA { E with ro:=l8 } w'.heap (oR kU (n6 (.ap (2*j+1) (fL rn.ns))) ko) us:=by refine rv sh' c1 fun k n hk=>?_;rw [amd] at hk;exact vq (ys:=ys) S9 hk
   have:=BZ hvr;unfold zO at this;exact this
  ·simp [T.leaf] at q1
 ·simp [T.leaf] at hl
theorem Bj (s:St): ∀(gh:List (Nat×Nat)) (ns:List V),(XR s gh ns).length=ns.length
 |[],_=>rfl
 |_::_,[]=>rfl
 |(t,c)::l,_::ns=>by simp only [XR,aK,Bj s l ns]
theorem XP {g n:V} {ρ:Nat->Int} {s:St} {k:St->T (W×St)} {r:W×St} (hp:bW ρ s.pc) (h:(XQ g n s k).leaf ρ=some r): ∃pc,bW ρ pc/\(k { s with pc:=pc }).leaf ρ=some r:=by
 unfold XQ at h;obtain⟨fA,fk,U⟩:=cH hp h;split at U
 ·grind
 ·obtain⟨jt,jk,Z⟩:=cH (s:={ s with pc:=fA }) fk U
  grind [T.leaf]
theorem aeR {q:V} {gU:Nat} {ns:List V} {g:Option V} {c:CS} {bl:List Nat} {ρ:Nat->Int} {s:St} {k:St->T (W×St)} {r:W×St} (hp:bW ρ s.pc) (h:(ghT q gU ns g c bl s k).leaf ρ=some r): ∃pc,bW ρ pc/\(k { s with pc:=pc }).leaf ρ=some r:=by
 unfold ghT at h;split at h
 ·exact⟨s.pc,hp,h⟩
 ·split at h
  ·exact⟨s.pc,hp,h⟩
  ·split at h
   ·exact⟨s.pc,hp,h⟩
   ·split at h
    ·exact XP hp h
    ·exact⟨s.pc,hp,h⟩
theorem RL {q:V} {gU:Nat} {ns:List V} {g:Option V} {bl:List Nat} {ρ:Nat->Int} {v:W} {s':St}: ∀{l:List CS} {k:Nat} {s:St},bW ρ s.pc->(ZR q gU ns g bl l k s).leaf ρ=some (v,s')->
 ∃i c dY,l[i-k]?=some c/\k<=i/\(n6 q 0).den ρ=(i:Int)/\bW ρ dY/\v=zO ((qN q gU ns c bl s).BN (c.bE.map fun p=>p.2))/\s'= { s with h:=⟨(jQ (qN q gU ns c bl s) c.dy 0 s.h).m,s.h.next+(c.dy.length-bl.length),s.h.res⟩,pc:=dY }
 |[],k,s,_,h=>by simp [ZR,T.leaf] at h
 |c::l,k,s,hp,h=>by
  simp only [ZR] at h;obtain⟨dY,fj,U⟩:=cH hp h;split at U
  ·rename_i Y;rw [gv,beq_iff_eq] at Y;obtain⟨jt,jk,Z⟩:=aeR (s:={ s with pc:=dY }) fj U;have:=bC Z;simp only [ak] at this;exact⟨k,c,jt,ad,au _,Y,jk,this.1.symm,this.2.symm⟩
  ·obtain⟨i,c',jt,q1,q2,q3,q4,q5,q6⟩:=RL (s:={ s with pc:=dY }) fj U;refine⟨i,c',jt,?_,J,q3,q4,q5,q6⟩
   grind
def xl:List (Nat×W)->Nat->Bool
 |[],_=>true
 |(t,_)::l,i=>Nat.beq t i&&xl l (i+1)
theorem AR: ∀{l:List (Nat×W)} {i t:Nat} {tr:Tr W},xl l i=true->t<i->(ni l tr).get t=tr.get t
 |[],_,_,_,_,_=>rfl
 |(j,v)::l,i,t,tr,h,ht=>by simp only [xl,an] at h;have hj:=aq h.1;simp only [ni];rw [AR h.2 J,Tr.bR,af J]
theorem xP: ∀{l:List (Nat×W)} {i:Nat} {tr:Tr W},xl l i=true->∀k v,(l.map fun p=>p.2)[k]?=some v->(ni l tr).get (i+k)=some v
 |[],_,_,_,k,v,hk=>by simp at hk
 |(j,x)::l,i,tr,h,k,v,hk=>by
  simp only [xl,an] at h;have hj:=aq h.1;subst hj;simp only [ni]
  cases k with
  |zero=>
   grind [AR,Tr.bR]
  |succ k=>
   have:=xP (tr:=tr.put j (some x)) h.2 k v (by simpa using hk)
   grind
theorem cA.of {E:En} {h:Array Obj}: ∀{vs:List W} {us:List Value},us.length=vs.length->(∀(k:Nat) (v:W),vs[k]?=some v->∃u,us[k]?=some u/\VR E h v u)->cA E h vs us
 |[],us,hl,_=>by rw [gP]; exact alM hl
 |v::vs,[],hl,_=>by simp at hl
 |v::vs,u::us,hl,hh=>by
  rw [bV];refine⟨u,us,rfl,?_,cA.of (by simpa using hl) fun k x hk=>?_⟩
  ·obtain⟨y,U,Z⟩:=hh 0 v rfl
   grind
  ·exact hh (k+1) x (by simpa using hk)
def acK (P:Program) (GB:(Nat->Prop)->Array Obj->Prop) (g:FuncId) (c:CS) (n7:List CS) (f:List Int->Option (List Int)):Prop:=
 ∀xs ys,f xs=some ys->∀(E:En) (w:World) (vals:List Value),(∀i x,xs[i]?=some x->E.ρ i=x)->xs.length=c.k->vg E c.st { tmps:=vals.toArray,defers:=[] } w->GB E.ro w.heap->
  Calls P g vals.toArray w (QR ⟨w,E.ro,c.dy.length,E.θ,E.κ⟩ n7 ys)
def FM:List CS->Bool
 |[]=>true
 |c::l=>u4 c.k c&&xl c.bE 0&&Nat.ble c.k 900&&(nfs c.dy&&FM l)
theorem FL: ∀{l:List CS},FM l=true->∀{i:Nat} {c:CS},l[i]?=some c->u4 c.k c=true/\xl c.bE 0=true/\c.k<=900/\nfs c.dy=true
 |[],_,i,c,h=>by simp at h
 |c0::l,hs,i,c,h=>by
  simp only [FM,an] at hs
  cases i with
  |zero=>simp at h; subst h; exact⟨hs.1.1.1,hs.1.1.2,alO hs.1.2,hs.2.1⟩
  |succ i=>exact FL hs.2.2 (by simpa using h)
theorem KI [bI] {GB:(Nat->Prop)->Array Obj->Prop} (KR: ∀ρ ro h,bI.ok ρ ro h->GB ro h) {F:nP} (KQ: ∀ρ ro h,bI.ok ρ ro h->Good F ρ) {g:FuncId} {j:Nat} {c:CS} {gh:List (Nat×Nat)} {gU:Nat} {n7:List CS} (hrp:FM n7=true) (akB: ∀xs ys,F j xs=some ys->∀a y,a<gU->ys[a+1]?=some y->y=low xs a)
 (hs:acK P GB g c n7 (F j)) (kV: ∀(args:Array Value) (w:World),(callFunc g args).run P w= .ok (.enter g args) w):iE P g (QD j gU c gh n7):=by
 intro alD s E w vals v s' r hv hp hl;unfold QD at hl;split at hl
 ·rename_i iV;simp only [an] at iV;obtain⟨⟨_,NK⟩,Ir⟩:=iV;have hlen:=wK c ⟨cf alD 0 .nil,s.h,s.pc⟩
  have abD:(h! s gh (c.kM ⟨cf alD 0 .nil,s.h,s.pc⟩)).ns.length=c.k:=by show (XR s gh _).length=c.k;rw [Bj,hlen]
  generalize hr:h! s gh (c.kM ⟨cf alD 0 .nil,s.h,s.pc⟩)=rn at hl NK abD Ir
  have f0:Fit E ⟨cf alD 0 .nil,s.h,s.pc⟩ { tmps:=vals.toArray,defers:=[] } w:=by refine⟨r,?_,hp⟩;have:=yx hv 0;simpa using this
  obtain⟨hle,f1,ho⟩:=yM M7 f0 NK;obtain⟨fA,fk,q1⟩:=cH hp hl;split at q1
  ·rename_i ht;have hg:=KQ _ _ _ r.iT;have hg1:=(hg j (rn.ns.map (V.den E.ρ))).1;have hg2:=(hg j (rn.ns.map (V.den E.ρ))).2;simp only [SB.den,V.den,iU,hg1,beq_iff_eq] at ht
   have Be:(F j (rn.ns.map (V.den E.ρ))).isSome=true:=by
    cases hh:(F j (rn.ns.map (V.den E.ρ))).isSome with
    |true=>rfl
    |false=>rw [hh] at ht; simp at ht
   obtain⟨ys,Gt⟩:=al8.1 Be
   have S9:(V.ap (2*j+1) (fL rn.ns)).den E.ρ=lZ ys:=by show E.ρ _=_;rw [iU,hg2,Gt];rfl
   obtain⟨i,c',jt,a1,_,a3,a4,rfl,rfl⟩:=RL (s:={ s with pc:=fA }) fk q1;rw [ant] at a1;refine⟨rfl,a4,?_⟩;unfold kS mO;rw [kV]
   have mG: ∀i x,(rn.ns.map (V.den E.ρ))[i]?=some x->(E.gA rn).ρ i=x:=by intro i x hi;rw [bn,aO] at hi;obtain⟨e,he,rfl⟩:=hi;show rn.env E.ρ i=_;unfold Ren.env;rw [di,he]
   refine Calls.mono (hs _ ys Gt (E.gA rn) w vals mG (by simpa using abD) f1.x (KR _ _ _ f1.rel.iT)) fun e w' ⟨us,i2,c2,E',he,Y,b1,b2,b3,b4,b5,b6,b7,b8,aal,b9⟩=> ⟨SD us,he,?_⟩
   have hi:i2=i:=by have:=vq S9 b2;rw [a3] at this;omega
   subst hi;rw [b1] at a1;simp only [ag] at a1;subst a1;obtain⟨k1,k2,k3,k9⟩:=FL hrp b1;have ss:=NK;unfold CS.fits at ss;simp only [an] at ss;obtain⟨⟨⟨⟨⟨_,mX⟩,aeC⟩,_⟩,aeu⟩,_⟩:=ss;have mX:=aq mX
   have S7: ∀i,rn.tG i=0:=by
    intro i;unfold Ren.tG;split
    ·rename_i x hx;rw [di] at hx;unfold F7 at Ir;rw [aR] at Ir;exact aq (Ir x (bw hx))
    ·rfl
   have sE: ∀i,i<c.dy.length->∃o,s.h.get (rn.id i)=some o:=by intro i hi;obtain⟨o',g1,_⟩:=iw aeu (aM hi);rw [ay] at g1;exact⟨o',g1⟩
   have KP: ∀a b,a<c.dy.length->b<c.dy.length->rn.id a=rn.id b->a=b:=by
    intro a b ha Y he;have P?:a<rn.bl.length:=J
    have hlb:b<rn.bl.length:=J
    unfold Ren.id at he;rw [di,di,aM P?,aM hlb] at he;simp only at he;exact ox aeC (i:=a) (j:=b) (x:=rn.bl[a]) (by rw [di,aM P?]) (by rw [di,aM hlb,he])
   have DD: ∀id,E.dm id->id<s.h.next:=by
    intro id hd;rcases aQ id s.h.next with h|h
    ·exact h
    ·exact absurd hd (r.fresh id h)
   have Gy: ∀i,i<c.dy.length->rn.id i<s.h.next:=by intro i hi;obtain⟨o,U⟩:=sE i hi;exact DD _ (r.live _ _ U).1
   have hθr: ∀i,(E.gA rn).θ i=E.θ (rn.id i):=by intro i;show ((E.θ (rn.id i)).1,(E.θ (rn.id i)).2+rn.tG i)=_;rw [S7,bg]
   have hκr: ∀i,(E.gA rn).κ i=E.κ (rn.id i):=by intro i;show E.κ (rn.id i)-rn.tG i=_;rw [S7,ant]
   have hm2:c.dy.length<=c2.dy.length:=by
    rcases amj c.dy.length with h|h
    ·omega
    ·have:=(aal (c.dy.length-1) (by show c.dy.length-1<c.dy.length; omega)).1;omega
   have hfp: ∀b,(lX.mk w (E.gA rn).ro c.dy.length (E.gA rn).θ (E.gA rn).κ).fp b->∃id o,s.h.get id=some o/\(E.θ id).1=b:=by rintro b ⟨i,hi,he⟩;obtain⟨o,U⟩:=sE i hi;refine⟨_,o,U,?_⟩;have wq:((E.gA rn).θ i).1=b:=he;rw [hθr] at wq;exact wq
   have O_: ∀b,E.ro b->w'.heap[b]?=w.heap[b]?:=by intro b Iu;refine Y.nZ b (r.pL b Iu) fun hf=>?_;obtain⟨id,o,U,Z⟩:=hfp b hf;exact (r.live id o U).2.2 (by rw [Z]; exact Iu)
   generalize hR:qN (.ap (2*j+1) (fL rn.ns)) gU rn.ns c2 rn.bl { s with pc:=fA }=R
   have E6: ∀i,i<c.dy.length->R.id i=rn.id i:=by
    intro i hi;have P?:i<rn.bl.length:=J
    rw [<- hR];unfold qN Ren.id;simp only [di,bn,amJ (show i<c2.dy.length by omega),alE,aM P?]
   have NP: ∀i,i<c2.dy.length->c.dy.length<=i->R.id i=s.h.next+(i-c.dy.length):=by
    intro i hi NJ;have P?:rn.bl.length<=i:=J
    rw [<- hR];unfold qN Ren.id;simp only [di,bn,amJ hi,alE,amH P?];rw [mX]
   have aiw: ∀a b,a<c2.dy.length->b<c2.dy.length->R.id a=R.id b->a=b:=by
    intro a b ha Y he;rcases aQ a c.dy.length with U|U<;>rcases aQ b c.dy.length with Z|Z
    ·rw [E6 a U,E6 b Z] at he;exact KP a b U Z he
    ·rw [E6 a U,NP b Y Z] at he;have:=Gy a U;omega
    ·rw [NP a ha U,E6 b Z] at he;have:=Gy b Z;omega
    ·rw [NP a ha U,NP b Y Z] at he;omega
   have hRl:R.ns.length=c2.k:=by rw [<- hR]; simp [qN]
   have aiv:R.sh= []:=by rw [<- hR]; rfl
   have QP: ∀a,a<c2.k->R.env E.ρ a=E'.ρ a:=by
    intro a ha;unfold Ren.env
    have hn:eT R.ns a=some (match Nat.blt a gU with |true=>(match eT rn.ns a with |some e=>e|none=> .lit 0)|false=>n6 (.ap (2*j+1) (fL rn.ns)) (a+1)):=by rw [<- hR,di];simp [qN,ha]
    rw [hn];simp only;have hy:ys[a+1]?=some ys[a+1]:=aM J;rw [b4 a _ hy];split
    ·rename_i Y;have ff:a<gU:=Nat.lt_of_succ_le (by simpa [Nat.blt] using Y);rw [akB _ _ Gt a _ ff hy];unfold low;rw [amW,bn,di];cases rn.ns[a]?<;>rfl
    ·exact vq S9 hy
   have akA: ∀id o,c2.st.h.get id=some o->id<c2.dy.length/\c2.dy[id]?=some o:=by
    intro id o ho;have:(nT c2.dy 0 .nil).get id=some o:=ho;rw [ja] at this;split at this
    ·exact⟨J,this⟩
    ·simp [Tr.get] at this
   have DA: ∀id o,c2.dy[id]?=some o->c2.st.h.get id=some o:=by intro id o ho;show (nT c2.dy 0 .nil).get id=_;have ff:=(aW.1 ho).1;rw [ja,ah J];exact ho
   have aik: ∀i,E'.dm i->i<c2.dy.length:=by
    intro i hd;rcases aQ i c2.dy.length with h|h
    ·exact h
    ·exact absurd hd (b6.fresh i h)
   obtain⟨p1,p2,p3,p4⟩:=w8 (r:=R) (os:=c2.dy) (i:=0) (h:=s.h) fun a b _ Z _ h4 he=>aiw a b J J he;generalize hH2:(⟨(jQ R c2.dy 0 s.h).m,s.h.next+(c2.dy.length-rn.bl.length),s.h.res⟩ : Hp)=H2;have aiy: ∀id,H2.get id=(jQ R c2.dy 0 s.h).get id:=by intro id; rw [<- hH2]; rfl
   have R!:H2.next=s.h.next+(c2.dy.length-c.dy.length):=by rw [<- hH2,mX]
   have aix:H2.res=s.h.res:=by rw [<- hH2]
   have aew: ∀k o,c2.dy[k]?=some o->H2.get (R.id k)=some (R.ob o):=by intro k o hk;have:=p1 k o hk;rw [ay] at this;rw [aiy]; exact this
   have hold: ∀id,(∀k,k<c2.dy.length->R.id k≠id)->H2.get id=s.h.get id:=by intro id hid;rw [aiy];exact p2 id fun k hk he=>by rw [ay] at he; exact hid k hk he
   have nG: ∀id o,H2.get id=some o->(∃k o',id=R.id k/\c2.dy[k]?=some o'/\o=R.ob o')\/(s.h.get id=some o/\∀k,k<c2.dy.length->R.id k≠id):=by
    intro id o hg;by_cases hex: ∃k,k<c2.dy.length/\R.id k=id
    ·obtain⟨k,hk,rfl⟩:=hex;have hx:=aM hk;have:=aew k _ hx;rw [hg] at this;simp only [ag] at this;exact .inl ⟨k,_,rfl,hx,this⟩
    ·have fX: ∀k,k<c2.dy.length->R.id k≠id:=fun k hk he=>hex ⟨k,hk,he⟩;rw [hold id fX] at hg;exact .inr ⟨hg,fX⟩
   let E2:En:={ ρ:=E.ρ,θ:=fun id=>if id<s.h.next then E.θ id else E'.θ (id-s.h.next+c.dy.length),κ:=fun id=>if id<s.h.next then E.κ id else E'.κ (id-s.h.next+c.dy.length),dm:=fun id=>E.dm id\/(s.h.next<=id/\id<s.h.next+(c2.dy.length-c.dy.length)),ro:=E'.ro,hd:=E.hd };have hθo: ∀id,id<s.h.next->E2.θ id=E.θ id:=fun id h=>by show (if id<s.h.next then _ else _)=_; rw [ah h]
   have hκo: ∀id,id<s.h.next->E2.κ id=E.κ id:=fun id h=>by show (if id<s.h.next then _ else _)=_; rw [ah h]
   have hθn: ∀k,k<c2.dy.length->E2.θ (R.id k)=E'.θ k:=by
    intro k hk;rcases aQ k c.dy.length with h|h
    ·rw [E6 k h,hθo _ (Gy k h),<- hθr,(aal k h).2.2.1]
    ·rw [NP k hk h];show (if s.h.next+(k-c.dy.length)<s.h.next then _ else _)=_;rw [af J,ans,Nat.sub_add_cancel h]
   have hκn: ∀k,k<c2.dy.length->E2.κ (R.id k)=E'.κ k:=by
    intro k hk;rcases aQ k c.dy.length with h|h
    ·rw [E6 k h,hκo _ (Gy k h),<- hκr,(aal k h).2.2.2]
    ·rw [NP k hk h];show (if s.h.next+(k-c.dy.length)<s.h.next then _ else _)=_;rw [af J,ans,Nat.sub_add_cancel h]
   have aim: ∀k,k<c2.dy.length->E2.dm (R.id k):=by
    intro k hk;rcases aQ k c.dy.length with h|h
    ·obtain⟨o,U⟩:=sE k h;rw [E6 k h];exact .inl (r.live _ _ U).1
    ·rw [NP k hk h];exact .inr ⟨J,J⟩
   have tp:fh E w.heap E2 w'.heap:=⟨rfl,fun _ h=> .inl h,fun id h=>hθo id (DD id h),fun id h=>hκo id (DD id h),b7,O_⟩
   have Xy: ∀i,E'.dm i->E2.dm (R.id i)/\E2.θ (R.id i)=E'.θ i/\E2.κ (R.id i)=E'.κ i:=by intro i hd;have hi:=aik i hd;exact⟨aim i hi,hθn i hi,hκn i hi⟩
   unfold u4 at k1;simp only [an] at k1;obtain⟨⟨ks,ko⟩,_⟩:=k1
   have tF:eN E s.h w E2 H2 w':=by
    refine⟨rfl,fun _ h=> .inl h,fun id h=>hθo id (DD id h),fun id h=>hκo id (DD id h),b7,fun b Iu=>(b8 b Iu).imp id .inr,by rw [R!]; omega,by rw [aix]; exact .inr rfl,fun id h=>?_,Y.os,Y.tape,Y.output,Y.size,fun b aeE hn=>Y.nZ b aeE fun hf=>?_,fun id o hg ff=>?_,rfl⟩
    ·rcases h with h|h
     ·exact .inl h
     ·exact .inr (.inl ⟨h.1,by rw [R!]; exact h.2⟩)
    ·obtain⟨id,o,U,Z⟩:=hfp b hf;exact hn id o U Z
    ·rcases nG id o hg with ⟨k,o',rfl,hk,_⟩|⟨U,_⟩
     ·have Jx:=(aW.1 hk).1;rcases aQ k c.dy.length with h|h
      ·obtain⟨o2,Z⟩:=sE k h;exact⟨_,o2,Z,by rw [E6 k h,hθo _ (Gy k h)]⟩
      ·rw [hθn k Jx] at ff;have hh:w.heap.size<=(E'.θ k).1:=b9 k o' (DA k o' hk) h;omega
     ·exact⟨id,o,U,(by rw [hθo id (DD id (r.live _ _ U).1)])⟩
   have r2:bO E2 H2 w':=by
    refine⟨fun id hid=>?_,fun q hq=>?_,fun id o hg=>?_,fun i1 i2 o1 o2 U Z he=>?_,b6.pL,bI.bX r.iT b7 tp.AW,r.Tc tF.hd tF.size tF.qQ tF.own⟩
    ·rw [R!] at hid;rintro (h|h)
     ·exact r.fresh id J h
     ·omega
    ·rw [aix] at hq;obtain⟨g1,g2⟩:=r.res q hq;refine⟨by rw [R!]; omega,?_⟩;rintro (h|h)
     ·exact g2 h
     ·omega
    ·rcases nG id o hg with ⟨k,o',rfl,hk,rfl⟩|⟨Z,fX⟩
     ·have Jx:=(aW.1 hk).1;obtain⟨g1,g2,g3⟩:=b6.live k o' (DA k o' hk);refine⟨aim k Jx,?_,by rw [hθn k Jx]; exact g3⟩;have ho3:=OR.low (K:=c2.k) (E:=E') (E':={ E' with ρ:=R.env E.ρ }) (fun a ha=>QP a ha) rfl rfl rfl rfl (uh ko hk) g2;exact OR.back (Eo:={ E' with ρ:=R.env E.ρ }) (E2:=E2) (r:=R) (by rw [hRl]; exact k3) aiv rfl (fun i hd=>Xy i hd) rfl (id:=k) (H5 k9 hk) g1 ho3
     ·obtain⟨g1,g2,g3⟩:=r.live id o Z;have U:=DD id g1;refine⟨.inl g1,g2.bX tp g1 (Y.nZ _ (fF r Z) ?_) (r.Ti rfl (fun x hx hn=>Y.nZ x hx fun hf=>by obtain⟨id,o,U,Z⟩:=hfp x hf; exact hn id o U Z) _),?_⟩
      ·rintro⟨i,hi,he⟩;obtain⟨o',h3⟩:=sE i hi;have wq:((E.gA rn).θ i).1=(E.θ id).1:=he;rw [hθr] at wq;have:=r.inj _ id o' o h3 Z wq;have hi':i<c.dy.length:=hi;exact fX i J (by rw [E6 i hi']; exact this)
      ·rw [hθo id U];intro hr;rcases b8 _ hr with hr|hr
       ·exact g3 hr
       ·have ff:(E.θ id).1<w.heap.size:=fF r Z;have NJ:w.heap.size<=(E.θ id).1:=hr;omega
    ·have mix: ∀(k:Nat) (o':dG) (id:Nat) (o:dG),c2.dy[k]?=some o'->s.h.get id=some o->(∀k,k<c2.dy.length->R.id k≠id)->(E'.θ k).1=(E.θ id).1->False:=by
      intro k o' id o hk Z fX he;have Jx:=(aW.1 hk).1;rcases aQ k c.dy.length with h|h
      ·obtain⟨o3,h3⟩:=sE k h;have hb3:E'.θ k=(E.gA rn).θ k:=(aal k h).2.2.1;rw [hb3,hθr] at he;have:=r.inj _ id o3 o h3 Z he;exact fX k Jx (by rw [E6 k h]; exact this)
      ·have h3:=fF r Z;have h4:w.heap.size<=(E'.θ k).1:=b9 k o' (DA k o' hk) h;omega
     rcases nG i1 o1 U with ⟨m1,y1,rfl,z1,_⟩|⟨x2,x3⟩
     ·have hm1:=(aW.1 z1).1;rcases nG i2 o2 Z with ⟨m2,y2,rfl,z2,_⟩|⟨x4,x5⟩
      ·have hm2:=(aW.1 z2).1;rw [hθn m1 hm1,hθn m2 hm2] at he;have:=b6.inj _ _ _ _ (DA m1 y1 z1) (DA m2 y2 z2) he;rw [this]
      ·rw [hθn m1 hm1,hθo _ (DD _ (r.live _ _ x4).1)] at he;exact (mix m1 y1 i2 o2 z1 x4 x5 he).elim
     ·rcases nG i2 o2 Z with ⟨m2,y2,rfl,z2,_⟩|⟨x4,x5⟩
      ·have hm2:=(aW.1 z2).1;rw [hθn m2 hm2,hθo _ (DD _ (r.live _ _ x2).1)] at he;exact (mix m2 y2 i1 o1 z2 x2 x3 he.symm).elim
      ·rw [hθo _ (DD _ (r.live _ _ x2).1),hθo _ (DD _ (r.live _ _ x4).1)] at he;exact r.inj _ _ _ _ x2 x4 he
   refine⟨E2,tF,r2,?_⟩
   have Gu:cA E' w'.heap (c2.bE.map fun p=>p.2) us:=by refine cA.of (by rw [b5]; simp) fun k x hk=>?_;have:=xP (tr:=.nil) k2 k x hk;rw [ay] at this;obtain⟨u,U,Z⟩:=b6.sr k x this;exact⟨u,by simpa using U,Z⟩
   have aih:lO c2.k (c2.bE.map fun p=>p.2)=true:=by
    have: ∀{l:List (Nat×W)},ra c2.k l=true->lO c2.k (l.map fun p=>p.2)=true:=by
     intro l
     induction l with
     |nil=>intro _; rfl
     |cons p l ih=> intro h;simp only [ra,an] at h;simp only [aw,lO,an];exact⟨h.1,ih h.2⟩
    exact this ks
   have akd:=cA.low (K:=c2.k) (E:=E') (E':={ E' with ρ:=R.env E.ρ }) (fun a ha=>QP a ha) rfl rfl rfl rfl _ _ aih Gu;have akc:=cA.back (Eo:={ E' with ρ:=R.env E.ρ }) (E2:=E2) (r:=R) (by rw [hRl]; exact k3) aiv rfl (fun i hd=>Xy i hd) rfl _ _ akd;exact BZ akc
  ·simp [T.leaf] at q1
 ·simp [T.leaf] at hl
end
end Go.As
end
section
namespace Go.As
open Go.RowKit
structure LZ where
 ok:(Nat->Prop)->Array Obj->Prop
 bX: ∀{ro l8:Nat->Prop} {h h':Array Obj},ok ro h->(∀b,ro b->l8 b)->(∀b,ro b->h'[b]?=h[b]?)->ok l8 h'
@[reducible] def LZ.iT (G:LZ) (F:nP):bI where
 ok ρ ro h:=G.ok ro h/\Good F ρ
 bX U Z h3:=⟨G.bX U.1 Z h3,U.2⟩
 gA U Z:=⟨U.1,U.2.gA Z⟩
structure zx where
 g:Nat
 EG:List RK
 kU:List RK
 eX:BQ
 pos:Option (List Nat×CS)
 pat:Option (CS×List dG×Nat):=none
 n7:List CS:=[]
 gh:List (Nat×Nat):=[]
 wh:List Nat:=[]
 gU:Nat:=0
 tst:List (Nat×Nat):=[]
 fz:List (Nat×Nat×Nat):=[]
 NW:List FH:=[]
def zx.eb (e:zx):List dG:=match e.pat with
 |none=>[]
 |some (_,o,_)=>o
def zx.ko (e:zx):Nat:=match e.pat with
 |none=>0
 |some (_,_,k)=>k
structure Sys where
 P:Program
 G:LZ
 tt:TT
 ft:Nat->Option Func
 qi:Nat->Nat->List Oper->Bool
 draw:eh->Nat->Nat->List Oper->St->T St
 wI:Nat->Option (List W->St->T (W×St))
 lf:Nat
 depth:Nat
 BI:Nat->List Nat
 bL:Nat->Option zx
noncomputable section
def G? (c:CS) (args:List W) (s:St):Bool:=match quick (cf args 0 .nil) c.bE with
 |false=>false
 |true=>Nat.beq args.length c.bE.length&&c.fits d? ⟨cf args 0 .nil,s.h,s.pc⟩ (c.kM ⟨cf args 0 .nil,s.h,s.pc⟩)&&F7 (c.kM ⟨cf args 0 .nil,s.h,s.pc⟩)
def Pe (s:St):List Nat->Bool
 |[]=>true
 |t::l=>match Nat.ble 1000 t with
  |true=>match s.bE.get (t-1000) with
   |some _=>Pe s l
   |none=>false
  |false=>match s.bE.get t with
   |some _=>false
   |none=>Pe s l
def aiz (s:St):List (Nat×Nat)->Bool
 |[]=>true
 |(t,_)::l=>match s.bE.get t with
  |some _=>aiz s l
  |none=>false
def Kd (c:CS) (gh:List (Nat×Nat)) (wh:List Nat) (args:List W) (s:St):Bool:=match quick (cf args 0 .nil) c.bE with
 |false=>false
 |true=>Pe s wh&&aiz s gh&&Nat.beq args.length c.bE.length&&c.fits d? ⟨cf args 0 .nil,s.h,s.pc⟩ (h! s gh (c.kM ⟨cf args 0 .nil,s.h,s.pc⟩))&&F7 (h! s gh (c.kM ⟨cf args 0 .nil,s.h,s.pc⟩))
def Ix:Nat->List W->Nat->List (Nat×Nat×Nat)
 |_,[],_=>[]
 |i,v::l,f=>match v with
  | .eo _ t=>(i,f,t)::Ix i l (f+1)
  |_=>Ix i l (f+1)
def Ch:List (Nat×W)->List (Nat×Nat×Nat)
 |[]=>[]
 |(i,v)::l=>match v with
  | .agg cs=>Ix i cs 0++Ch l
  |_=>Ch l
def ajo (args:List W) (p:Nat×Nat×Nat):Bool:=match eT args p.1 with
 |some v=>match v with
  | .agg xs=>match eT xs p.2.1 with
    |some _=>true
    |none=>false
  |_=>false
 |none=>false
def NT (s:St):List (Nat×Nat)->Bool
 |[]=>true
 |(t,c)::l=>match s.bE.get t with
  |some v=>match v with
   | .int _ _=>NT s l
   | .agg cs=>match eT cs c with
     |some x=>match x with
      | .int _ _=>NT s l
      |_=>false
     |none=>false
   |_=>false
  |none=>false
def aiF (c:CS) (gh:List (Nat×Nat)) (wh:List Nat) (args:List W) (s:St):Bool:=match gh with
 |[]=>false
 |_=>Pe s wh&&NT s gh&&match Ch c.bE with
  |[]=>false
  |fz=>fz.all (ajo args)
def Sys.Bf (S:Sys):List Nat->List W->St->T (W×St)
 |[],_,_=> .fail
 |j::l,args,s=>match S.bL j with
  |none=> .fail
  |some e=>match e.pat with
   |none=>Xw j e.EG e.kU args s
   |some (c,eb,ko)=>match e.n7 with
    |[]=>match G? c args s with
     |true=>Xu j c e.kU eb ko args s
     |false=>S.Bf l args s
    |r::rs=>match Kd c e.gh e.wh args s with
     |true=>QD j e.gU c e.gh (r::rs) args s
     |false=>match aiF c e.gh e.wh args s with
      |true=>K1 (Ch c.bE) args s fun acI s'=>match Kd c e.gh e.wh acI s' with
       |true=>QD j e.gU c e.gh (r::rs) acI s'
       |false=>S.Bf l args s
      |false=>S.Bf l args s
def Sys.hook (S:Sys) (g:Nat):Option (List W->St->T (W×St)):=match S.BI g with
 |[]=>S.wI g
 |j::l=>some (match S.wI g with
  |none=>S.Bf (j::l)
  |some h=>orElse h (S.Bf (j::l)))
def Sys.call (S:Sys):eh:=D3 S.tt S.ft S.hook S.draw S.lf S.depth
def Sys.cfg (S:Sys) (e:zx) (fn:Func):tf:=⟨S.tt,S.call,S.draw S.call e.g,S.lf,fn.results.toList,e.kU,e.eb,e.ko,e.n7,e.gU,e.fz,e.NW⟩
def nr (S:Sys) (e:zx):T Lf:=match S.ft e.g with
 |none=> .fail
 |some fn=>match fn.body with
  |none=> .fail
  |some body=>match e.pos with
   |none=>match e.pat with
    |none=>wv (S.cfg e fn) e.eX 1000 [] body [] ⟨cf (oR e.EG .du 0) 0 .nil,Hp.zero,[]⟩
    |some (c,_,_)=>wv (S.cfg e fn) e.eX 1000 [] body [] c.st
   |some (p,c)=>match oq body p with
    |some (b,fr)=>match b with
     | .loop b=>Mm (fun s=>wv (S.cfg e fn) e.eX 1000 (0::p) b (.loop p b::fr) s) e.tst c.st
     |_=> .fail
    |none=> .fail
def Sys.tree (S:Sys) (j:Nat):T Lf:=match S.bL j with
 |none=> .fail
 |some e=>nr S e
end
def x! (S:Sys) (e:zx) (body:Code):Prop:= ∀p l,e.eX p=some l->(∃b fr,oq body p=some (.loop b,fr))/\∀j c,(j,c)∈l->S.bL j=some { e with pos:=some (p,c) }/\u4 c.k c=true/\c.k<=900/\e.gU<=c.k
structure EH (S:Sys):Prop where
 tt:ew S.P S.tt
 ft:T0 S.P S.qi S.ft
 draw: ∀(I:bI) call,@gX I S.P call->∀g,@vh I S.P (S.qi g) (S.draw call g)
 wI: ∀(I:bI),(∀ρ ro h,I.ok ρ ro h->S.G.ok ro h)->∀g h,S.wI g=some h->@iE I S.P g h
 run: ∀g j,j∈S.BI g->∀(args:Array Value) (w:World),(callFunc g args).run S.P w= .ok (.enter g args) w
 num: ∀g j e,j∈S.BI g->S.bL j=some e->e.g=g/\e.pos=none/\(match e.pat with
  |none=>(oh e.EG).length<=900/\e.n7= []
  |some (c,eb,_)=>u4 c.k c=true/\c.k<=900/\eb.length=c.dy.length/\(e.n7≠[]->FM e.n7=true)/\nfs c.dy=true)
 outs: ∀j e,S.bL j=some e->mu e.ko e.eb=true/\e.ko<=900/\e.gU<=900
 bL: ∀j e,S.bL j=some e->∀fn body,S.ft e.g=some fn->fn.body=some body->x! S e body
section
variable {S:Sys}
def acM (S:Sys) (n:Nat):Prop:= ∀g j e,j∈S.BI g->S.bL j=some e->match e.pat with
 |none=>ZT S.P S.G.ok g e.EG e.kU (eI S.tree n j)
 |some (c,eb,ko)=>match e.n7 with
  |[]=>acL S.P S.G.ok g c e.kU eb ko (eI S.tree n j)
  |r::rs=>acK S.P S.G.ok g c (r::rs) (eI S.tree n j)
def acO (S:Sys) (n:Nat):Prop:= ∀j e p c,S.bL j=some e->e.pos=some (p,c)->u4 c.k c=true->c.k<=900->∀fn body b fr,S.ft e.g=some fn->fn.body=some body->oq body p=some (.loop b,fr)->
 ∀(B:lX) (E:En) (a:Act) (w:World) (xs ys:List Int),e.eb.length=B.m->eI S.tree n j xs=some ys->(∀i x,xs[i]?=some x->E.ρ i=x)->xs.length=c.k->kc B E c.st a w->S.G.ok E.ro w.heap->fn.ntmps<=a.tmps.size->a.defers= []->
  EK S.P b (KE S.P (bodyPost S.P fn (QX B e.kU e.eb e.ko e.n7 ys)) fr) a w
def LfG (gU:Nat) (eX:BQ):Lf->Prop
 | .out es=> ∀a e,a<gU->es[a+1]?=some e->e= .du a
 | .jump j es=>(∃p l c,eX p=some l/\(j,c)∈l/\es.length=c.k)/\∀a e,a<gU->es[a]?=some e->e= .du a
theorem GN: ∀{n i:Nat} {ns:List V} {a:Nat} {e:V},a<n->(Bl n i ns)[a]?=some e->e= .du (i+a)
 |0,_,_,a,_,h,_=>by omega
 |n+1,i,[],a,e,_,h=>by simp [Bl] at h
 |n+1,i,x::ns,0,e,_,h=>by simp [Bl] at h; rw [<- h]; rfl
 |n+1,i,x::ns,a+1,e,ha,h=>by
  simp only [Bl,aH] at h;rw [GN (n:=n) J h]
  grind
theorem K6 {gU:Nat} {r:Ren} {a:Nat} {e:V} (ha:a<gU) (h:(qL gU r).ns[a]?=some e):e= .du a:=by
 unfold qL at h;split at h
 ·omega
 ·have:=GN ha h
  grind
theorem X5 {n m gU:Nat} {s:St} {ρ:Nat->Int} {lf:Lf} {eX:BQ} {l:List CS} {k:Nat} (h:(Lo n m gU s l k).leaf ρ=some lf):LfG gU eX lf:=by
 obtain⟨i,c,_,_,_,rfl,_⟩:=Cp h;intro a e ha he
 grind [K6]
theorem so {m gU:Nat} {s:St} {ρ:Nat->Int} {lf:Lf} {eX:BQ} {p:List Nat} {l0:List (Nat×CS)} (hp:eX p=some l0): ∀{l:List (Nat×CS)},(∀x∈l,x∈l0)->(qx m gU s l).leaf ρ=some lf->LfG gU eX lf
 |[],_,h=>by simp [qx,T.leaf] at h
 |(j,c)::l,lY,h=>by
  simp only [qx] at h;split at h
  ·exact so hp (fun x hx=>lY x (by simp [hx])) h
  ·split at h
   ·have:=bC h;subst this;exact⟨⟨p,l0,c,hp,lY _ ad,by rw [uR,sH]⟩,fun a e ha he=>K6 ha he⟩
   ·exact so hp (fun x hx=>lY x (by simp [hx])) h
theorem qj {α:Type} {k:St->T α} {ρ:Nat->Int} {x:α}: ∀{ts:List Nat} {s:St},(u9 k ts s).leaf ρ=some x->∃s',(k s').leaf ρ=some x
 |[],s,h=> ⟨s,h⟩
 |i::ts,s,h=>by
  simp only [u9] at h;split at h
  ·obtain⟨pc,b,U⟩:=ia h;exact qj U
  ·exact qj h
theorem zC {α:Type} {k:St->T α} {ρ:Nat->Int} {x:α}: ∀{ts:List (Nat×Nat)} {s:St},(Mm k ts s).leaf ρ=some x->∃s',(k s').leaf ρ=some x
 |[],s,h=> ⟨s,h⟩
 |(t,g)::ts,s,h=>by
  simp only [Mm] at h;split at h
  ·obtain⟨pc,b,U⟩:=ia h;exact zC U
  ·exact zC h
theorem GJ {α:Type} {ρ:Nat->Int} {v:W} {s:St} {k:W->St->T α} {x:α} (h:(NV v s k).leaf ρ=some x): ∃v s,(k v s).leaf ρ=some x:=by
 unfold NV at h;split at h
 ·split at h
  ·unfold xb at h;obtain⟨_,b1,h⟩:=ia h
   cases b1 with
   |true=>simp [T.leaf] at h
   |false=>
    obtain⟨_,b2,h⟩:=ia h
    cases b2 with
    |true=>simp [T.leaf] at h
    |false=>
     obtain⟨_,b3,h⟩:=ia h
     cases b3 with
     |true=>simp [T.leaf] at h
     |false=>exact⟨_,_,h⟩
  grind
 grind
theorem DM {α:Type} {ρ:Nat->Int} {x:α}: ∀{vs:List W} {s:St} {k:List W->St->T α},(GI vs s k).leaf ρ=some x->∃vs s,(k vs s).leaf ρ=some x
 |[],s,k,h=> ⟨_,_,h⟩
 |v::vs,s,k,h=>by
  simp only [GI] at h;obtain⟨_,_,h⟩:=GJ h;obtain⟨_,_,h⟩:=DM h
  grind
theorem C7 {α:Type} {ρ:Nat->Int} {x:α} {t:Nat}: ∀{ov:List (V×List W)} {e:V} {s:St} {k:V->St->T α},(FX t ov e s k).leaf ρ=some x->∃e s,(k e s).leaf ρ=some x
 |[],e,s,k,h=> ⟨_,_,h⟩
 |(j,cs)::ov,e,s,k,h=>by
  simp only [FX] at h;obtain⟨_,_,h⟩:=C7 h
  grind [DM,T.leaf]
theorem Tn {α:Type} {ρ:Nat->Int} {v:W} {s:St} {k:W->St->T α} {x:α} (h:(NU v s k).leaf ρ=some x): ∃v s,(k v s).leaf ρ=some x:=by
 grind [NU,C7,T.leaf,GJ]
theorem GH {α:Type} {ρ:Nat->Int} {x:α} {k:List W->St->T α}: ∀{fz:List (Nat×Nat×Nat)} {vs:List W} {s:St},(K1 fz vs s k).leaf ρ=some x->∃vs s,(k vs s).leaf ρ=some x
 |[],vs,s,h=> ⟨_,_,h⟩
 |(i,f,t)::l,vs,s,h=>by
  simp only [K1] at h;split at h
  ·split at h
   ·obtain⟨_,_,h⟩:=Tn h;split at h
    ·exact GH h
    grind [T.leaf]
   grind [T.leaf]
  grind [T.leaf]
theorem X6 {g:tf} {eX:BQ} {e:Ex} {s:St} {ρ:Nat->Int} {lf:Lf} (hr:g.n7≠[]) (h:(X7 g e s).leaf ρ=some lf):LfG g.gU eX lf:=by
 unfold X7 at h
 grind [T.leaf,GH,X5]
theorem QS {g:tf} {eX:BQ} {ρ:Nat->Int} (hr:g.n7≠[]): ∀n:Nat,
 (∀p c fr s lf,(wv g eX n p c fr s).leaf ρ=some lf->LfG g.gU eX lf)/\
 (∀fr e s lf,(sJ g eX n fr e s).leaf ρ=some lf->LfG g.gU eX lf)
 |0=> ⟨fun _ _ _ _ _ h=>by simp [wv,T.leaf] at h,fun _ _ _ _ h=>by simp [sJ,T.leaf] at h⟩
 |n+1=>by
  obtain⟨L8,vI⟩:=QS hr n
  have aib:GR g=false:=by
   cases ho:GR g with
   |false=>rfl
   |true=>exact absurd (DQ ho).2 hr
  have hfo: ∀(c:Code) (s:St) (k:St->T Lf),Tp g c s k=k s:=fun c s k=>by unfold Tp; rw [aib]; cases hq:g.n7 with |nil=>exact absurd hq hr|cons _ _=>rfl
  have hpo: ∀(p:List Nat) (s:St) (k:St->T Lf),SP g p s k=k s:=fun p s k=>by unfold SP; rw [aib]
  have lfc: ∀(c:Code) fr s lf,((g.ev c s).bind fun (e,s')=>sJ g eX n fr e s').leaf ρ=some lf->LfG g.gU eX lf:=by intro c fr s lf h;obtain⟨⟨e,s'⟩,_,Z⟩:=T.eZ h;exact vI _ _ _ _ Z
  constructor
  ·intro p c fr s lf h;unfold wv at h;split at h
   ·rename_i l hl;rw [hpo] at h;obtain⟨s',U⟩:=qj h;exact so hl (fun _ h=>h) U
   ·split at h
    ·grind
    ·grind
    ·grind
    ·split at h
     ·obtain⟨pc,b,U⟩:=ia h
      grind
     grind [T.leaf]
    ·rw [hfo] at h;exact lfc _ _ _ _ h
  ·intro fr e s lf h;unfold sJ at h;split at h
   ·exact X6 hr h
   ·grind
   ·grind
   ·split at h
    ·split at h
     ·rename_i l hl;rw [hpo] at h;obtain⟨s',U⟩:=qj h;exact so hl (fun _ h=>h) U
     grind [T.leaf]
    grind
   grind
theorem Bu {e:zx} {ρ:Nat->Int} {lf:Lf} (hr:e.n7≠[]) (h:(nr S e).leaf ρ=some lf): ∃fn body,S.ft e.g=some fn/\fn.body=some body/\LfG e.gU e.eX lf:=by
 unfold nr at h;split at h
 ·simp [T.leaf] at h
 ·rename_i fn tq;split at h
  ·simp [T.leaf] at h
  ·rename_i body Y;refine⟨fn,body,tq,Y,?_⟩;have key: ∀n p c fr s,(wv (S.cfg e fn) e.eX n p c fr s).leaf ρ=some lf->LfG e.gU e.eX lf:=fun n p c fr s h=>(QS (g:=S.cfg e fn) hr n).1 _ _ _ _ _ h;split at h
   ·grind
   ·split at h
    ·split at h
     ·obtain⟨s',U⟩:=zC h
      grind
     ·simp [T.leaf] at h
    ·simp [T.leaf] at h
theorem HO (hs:EH S): ∀(n j:Nat) (e:zx) (xs ys:List Int),S.bL j=some e->e.n7≠[]->eI S.tree n j xs=some ys->∀a y,a<e.gU->ys[a+1]?=some y->y=low xs a
 |0,_,_,_,_,_,_,h=>by simp [eI] at h
 |n+1,j,e,xs,ys,he,hr,h=>by
  intro a y ha hy;obtain⟨_,_,hg⟩:=hs.outs j e he;have Gw:S.tree j=nr S e:=by unfold Sys.tree; rw [he]
  simp only [eI,Gw] at h;split at h
  ·grind
  ·rename_i es hl;obtain⟨_,_,_,_,pE⟩:=Bu hr hl;simp only [ag] at h;subst h;rw [bn,aO] at hy;obtain⟨x,hx,rfl⟩:=hy;rw [pE a x ha hx];show cX _ _ a=_
   grind [rH]
  ·rename_i j' es hl;obtain⟨fn,body,tq,Y,⟨p,l,c,hp,hc,hlen⟩,pE⟩:=Bu hr hl;obtain⟨_,hh⟩:=hs.bL j e he fn body tq Y p l hp;obtain⟨q1,_,_,q4⟩:=hh j' c hc;have:=HO hs n j' _ _ ys q1 hr h a y ha hy;rw [this];have NN:a<es.length:=J
   have hx:=aM NN;unfold low;rw [amW,bn,hx];show (es[a]).den _=_;rw [pE a _ ha hx];show cX _ _ a=_
   grind [rH]
theorem kS.mono {P:Program} {g:FuncId} {vals:Array Value} {w:World} {R R':Value->World->Prop} (h:kS P g vals w R) (k: ∀u w',R u w'->R' u w'):kS P g vals w R':=by
 unfold kS at h ⊢;unfold mO at h ⊢;split at h
 ·grind
 ·exact Calls.mono h fun e w' ⟨u,he,hr⟩=> ⟨u,he,k _ _ hr⟩
 grind
theorem aaj (hs:EH S) {n:Nat} (h:acM S n):@gX (S.G.iT (eI S.tree n)) S.P S.call:=by
 letI I:=S.G.iT (eI S.tree n);have a1: ∀ρ ro h,I.ok ρ ro h->S.G.ok ro h:=fun _ _ _ h=>h.1;have a2: ∀ρ ro h,I.ok ρ ro h->Good (eI S.tree n) ρ:=fun _ _ _ h=>h.2;refine sS hs.tt hs.ft (hook:=S.hook) ?_ (fun call hc g=>hs.draw I call hc g) S.lf S.depth
 have hL: ∀g l,(∀j∈l,j∈S.BI g)->@iE I S.P g (S.Bf l):=by
  intro g l
  induction l with
  |nil=>
   intro _ alD s E w vals v s' r hv hp hl
   grind [Sys.Bf,T.leaf]
  |cons j l ih=>
   intro lY alD s E w vals v s' r hv hp hl;have hj:=lY j ad;simp only [Sys.Bf] at hl;split at hl
   ·grind [T.leaf]
   ·rename_i e he;have uA:=h g j e hj he;obtain⟨_,_,Dz⟩:=hs.num g j e hj he;obtain⟨ho1,ho2,_⟩:=hs.outs j e he
    cases su:e.pat with
    |none=> rw [su] at hl uA;exact @Xv S.P I S.G.ok a1 (eI S.tree n) a2 g j e.EG e.kU uA (hs.run g j hj) alD s E w vals v s' r hv hp hl
    |some q=>
     obtain⟨c,eb,ko⟩:=q;rw [su] at hl uA Dz;simp only at hl uA Dz;unfold zx.eb zx.ko at ho1;unfold zx.ko at ho2;rw [su] at ho1 ho2
     cases Ag:e.n7 with
     |nil=>
      rw [Ag] at hl uA;simp only at hl uA;split at hl
      ·exact @Xt S.P I S.G.ok a1 (eI S.tree n) a2 g j c e.kU eb ko ho1 ho2 Dz.2.2.1 uA (hs.run g j hj) alD s E w vals v s' r hv hp hl
      ·exact ih (fun j hj=>lY j (by simp [hj])) alD s E w vals v s' r hv hp hl
     |cons r0 rs=>
      rw [Ag] at hl uA;simp only at hl uA;have hrp:=Dz.2.2.2.1 (by rw [Ag]; simp);rw [Ag] at hrp;split at hl
      ·exact @KI S.P I S.G.ok a1 (eI S.tree n) a2 g j c e.gh e.gU (r0::rs) hrp (fun xs ys h=>HO hs n j e xs ys he (by rw [Ag]; simp) h) uA (hs.run g j hj) alD s E w vals v s' r hv hp hl
      ·split at hl
       ·obtain⟨as1,U,fA,E1,fk,f,P9,hl⟩:=IA rfl r hp hv hl;split at hl
        ·rw [<- f.ρ] at hl fk;have:=@KI S.P I S.G.ok a1 (eI S.tree n) a2 g j c e.gh e.gU (r0::rs) hrp (fun xs ys h=>HO hs n j e xs ys he (by rw [Ag]; simp) h) uA (hs.run g j hj) as1 { s with h:=U,pc:=fA } E1 w vals v s' f.rel P9 fk hl;obtain⟨k1,k2,k3⟩:=this;rw [f.ρ] at k2;exact⟨k1,k2,kS.mono k3 fun u w' ⟨E2,q1,q2,q3⟩=> ⟨E2,f.ek.trans q1,q2,q3⟩⟩
        ·exact ih (fun j hj=>lY j (by simp [hj])) alD s E w vals v s' r hv hp hl
       ·exact ih (fun j hj=>lY j (by simp [hj])) alD s E w vals v s' r hv hp hl
 intro g f hf;unfold Sys.hook at hf;split at hf
 ·exact hs.wI I a1 g f hf
 ·rename_i j l hj;simp only [ag] at hf;subst hf;have Z:=hL g (j::l) (by rw [hj]; exact fun _ h=>h);split
  ·exact Z
  ·rename_i h0 hh;exact mV (hs.wI I a1 g h0 hh) Z
theorem Nt (hs:EH S) {n:Nat} (h:acO S n) {j:Nat} {e:zx} (he:S.bL j=some e) {fn:Func} {body:Code} (tq:S.ft e.g=some fn) (Y:fn.body=some body) (B:lX) (hm:e.eb.length=B.m) (ys:List Int) :
 @b_ (S.G.iT (eI S.tree n)) S.P body fn.ntmps B (bodyPost S.P fn (QX B e.kU e.eb e.ko e.n7 ys)) (eI S.tree n) ys e.eX:=by
 intro p l hp;obtain⟨⟨b,fr,hl⟩,hh⟩:=hs.bL j e he fn body tq Y p l hp;refine⟨b,fr,hl,fun j' c hc E a w t hg ⟨xs,U,Z,h3,h4⟩ hN hd=>?_⟩;obtain⟨q1,q2,q3,_⟩:=hh j' c hc;exact h j' { e with pos:=some (p,c) } p c q1 rfl q2 q3 fn body b fr tq Y hl B E a w xs ys hm h4 U Z t hg.1 hN hd
theorem WX {F:nP} {E:En} {xs:List Int} {k:Nat} (h: ∀i x,xs[i]?=some x->E.ρ i=x) (hk:xs.length=k) (h9:k<=900): ∀i,i<k->cX F (low xs) i=E.ρ i:=by
 intro i hi
 grind [rH,low]
theorem Ig {tree:Nat->T Lf} {n j:Nat} {xs ys:List Int} (h:eI tree (n+1) j xs=some ys): ∃lf,(tree j).leaf (cX (eI tree n) (low xs))=some lf/\LY (eI tree n) (cX (eI tree n) (low xs)) ys lf:=by
 simp only [eI] at h;split at h
 ·grind
 ·rename_i es hl;simp only [ag] at h;exact⟨_,hl,h⟩
 ·rename_i j' es hl;exact⟨_,hl,h⟩
theorem QE.spec {w:World} {ro:Nat->Prop} {θ:Nat->Nat×Nat} {κ:Nat->Nat} {kU:List RK} {ys:List Int} {e:Ending} {w':World} (h:QE ⟨w,ro,0,θ,κ⟩ kU [] 0 ys e w') :
 ∃u,e= .returned u/\Below w.heap.size w w'/\∃l8:Nat->Prop,(∀b,ro b->l8 b)/\(∀b,l8 b->ro b\/w.heap.size<=b)/\(∀b,l8 b->b<w'.heap.size)/\aaw kU ys l8 w'.heap u:=by
 obtain⟨u,q1,q2,l8,q3,q4,q5,_,_,q6⟩:=h;exact⟨u,q1,⟨q2.os,q2.tape,q2.output,q2.size,fun k hk=>q2.nZ k hk fun⟨i,hi,_⟩=>absurd hi (by show ¬i<0; omega)⟩,l8,q3,q4,q5,q6⟩
theorem Bel.refl {B:lX}:Bel B B.w0:=⟨rfl,rfl,rfl,au _,fun _ _ _=>rfl⟩
theorem vg.grow {E:En} {s:St} {w:World} {vals:List Value} (f:vg E s { tmps:=vals.toArray,defers:=[] } w) (n:Nat):vg E s { tmps:=vals.toArray++Array.replicate n undef,defers:=[] } w:=by
 refine⟨f.fresh,f.res,f.live,f.inj,f.pL,fun t v ht=>?_,f.pc,f.hid⟩;obtain⟨u,U,Z⟩:=f.sr t v ht
 grind
theorem vg.hd0 {E:En} {s:St} {a:Act} {w:World} (f:vg E s a w) (hn: ∀id o,s.h.get id=some o->nf o=true):vg { E with hd:=fun _=>none } s a w:=by
 have k:fh E w.heap { E with hd:=fun _=>none } w.heap:=⟨rfl,fun _ h=>h,fun _ _=>rfl,fun _ _=>rfl,fun _ h=>h,fun _ _=>rfl⟩;refine⟨f.fresh,f.res,fun id o ho=>?_,f.inj,f.pL,fun t v ht=>?_,f.pc,fun b x Y=>by simp at Y⟩
 ·obtain⟨U,Z,h3⟩:=f.live id o ho;exact⟨U,Z.abr k U rfl (hn id o ho),h3⟩
 ·obtain⟨u,U,Z⟩:=f.sr t v ht;exact⟨u,U,VR.bX k _ _ Z⟩
theorem VV (hs:EH S): ∀n:Nat,acM S n/\acO S n
 |0=> ⟨fun g j e _ _=>by
  cases e.pat with
  |none=>exact fun xs ys h=>by simp [eI] at h
  |some q=>
   obtain⟨c,eb,ko⟩:=q
   cases e.n7 with
   |nil=>exact fun xs ys h=>by simp [eI] at h
   |cons r rs=>exact fun xs ys h=>by simp [eI] at h,fun j e p c _ _ _ _ fn body b fr _ _ _ B E a w xs ys _ h=>by simp [eI] at h⟩
 |n+1=>by
  obtain⟨L8,vI⟩:=VV hs n;letI I:=S.G.iT (eI S.tree n);have QN:=aaj hs L8;have ZD: ∀(e:zx) (fn:Func),O8 S.P (S.cfg e fn) (S.qi e.g):=fun e fn=> ⟨hs.tt,QN,hs.draw I S.call QN e.g⟩;constructor
  ·intro g j e hn he;obtain⟨hg,lr,Dz⟩:=hs.num g j e hn he;obtain⟨nR,h_,_⟩:=hs.outs j e he;have Gw:S.tree j=nr S e:=by unfold Sys.tree; rw [he]
   cases su:e.pat with
   |none=>
    rw [su] at Dz;simp only at Dz ⊢;intro xs ys hx ro w vals fl kJ KR sh hc;obtain⟨lf,U,Z⟩:=Ig hx;rw [Gw] at U;unfold nr at U
    cases tq:S.ft e.g with
    |none=>rw [tq] at U; simp [T.leaf] at U
    |some fn=>
     rw [tq] at U
     cases Y:fn.body with
     |none=>simp only [Y] at U; simp [T.leaf] at U
     |some body=>
      simp only [Y,lr,su] at U;obtain⟨hf,_,hd⟩:=hs.ft e.g fn tq;rw [hg] at hf;have mD:=hd body Y;have hlx:=hc.length.1;have Jw:e.eb= []:=by unfold zx.eb; rw [su]
      have XC:e.ko=0:=by unfold zx.ko; rw [su]
      have hvr:cA (En.zero (cX (eI S.tree n) (low xs)) ro) w.heap (oR e.EG .du 0) vals:=by
       refine rv sh hc fun k x hk=>?_;have Jx:=(aW.1 hk).1;rw [ay];show cX _ _ k=x
       grind [rH,low]
      have n9:I.ok (cX (eI S.tree n) (low xs)) ro w.heap:=⟨KR,kE _ _⟩;let B:lX:=⟨w,ro,0,fun _=>(0,0),fun _=>0⟩
      have t0:kc B (En.zero (cX (eI S.tree n) (low xs)) ro) ⟨cf (oR e.EG .du 0) 0 .nil,Hp.zero,[]⟩ { tmps:=vals.toArray++Array.replicate (fn.ntmps-vals.toArray.size) undef,defers:=[] } w:=by
       have fit:Fit (En.zero (cX (eI S.tree n) (low xs)) ro) ⟨cf (oR e.EG .du 0) 0 .nil,Hp.zero,[]⟩ { tmps:=vals.toArray++Array.replicate (fn.ntmps-vals.toArray.size) undef,defers:=[] } w:=
        ⟨Cv _ ro w kJ n9,yx hvr _,by intro c b h; simp at h⟩
       exact⟨fit.x,fun _ h=>h,fun _ h=> .inl h,Bel.refl,fun id o h=>by simp [Hp.zero,Hp.get,Tr.get] at h,fun i hi=>absurd hi (by show ¬i<0; omega),fun b x Y=>by simp [En.zero] at Y⟩
      refine Calls.mono (calls_of_wp (R:=QX B e.kU e.eb e.ko e.n7 ys) hf Y ?_) fun e' w' hq=>QE.spec (w:=w) (ro:=ro) (θ:=fun _=>(0,0)) (κ:=fun _=>0) (by rw [Jw,XC,Dz.2] at hq; exact hq);exact (Iw (B:=B) (ZD e fn) mD rfl (by show e.eb.length=0; rw [Jw]; rfl) nR h_ (Nt hs vI he tq Y B (by show e.eb.length=0; rw [Jw]; rfl) ys) 1000).1 [] body [] _ lf _ _ w rfl U Z t0 n9 (by simp; omega) rfl
   |some q=>
    obtain⟨c,eb,ko⟩:=q;rw [su] at Dz;simp only at Dz ⊢;obtain⟨aio,hc9,hom,hrp,hnf⟩:=Dz
    have main: ∀xs ys,eI S.tree (n+1) j xs=some ys->∀(E:En) (w:World) (vals:List Value),(∀i x,xs[i]?=some x->E.ρ i=x)->xs.length=c.k->vg E c.st { tmps:=vals.toArray,defers:=[] } w->S.G.ok E.ro w.heap->
     Calls S.P g vals.toArray w (QX ⟨w,E.ro,c.dy.length,E.θ,E.κ⟩ e.kU eb ko e.n7 ys):=?_
    ·cases Ag:e.n7 with
     |nil=> simp only;intro xs ys hx E w vals mG hlen fx KR;have:=main xs ys hx E w vals mG hlen fx KR;rw [Ag] at this;exact this
     |cons r0 rs=> simp only;intro xs ys hx E w vals mG hlen fx KR;have:=main xs ys hx E w vals mG hlen fx KR;rw [Ag] at this;exact this
    intro xs ys hx E0 w vals mG hlen fx0 KR
    have fx:=fx0.hd0 fun id o ho=>by
     have:(nT c.dy 0 .nil).get id=some o:=ho;rw [ja] at this;split at this
     ·exact H5 hnf this
     ·simp [Tr.get] at this
    have hE: ∃E:En,E= { E0 with hd:=fun _=>none }:=⟨_,rfl⟩;obtain⟨E,hE⟩:=hE;rw [<- hE] at fx;have mG: ∀i x,xs[i]?=some x->E.ρ i=x:=by rw [hE]; exact mG
    have KR:S.G.ok E.ro w.heap:=by rw [hE]; exact KR
    have hEd:E.hd=fun _=>none:=by rw [hE]
    suffices Calls S.P g vals.toArray w (QX ⟨w,E.ro,c.dy.length,E.θ,E.κ⟩ e.kU eb ko e.n7 ys) by rw [hE] at this; exact this
    obtain⟨lf,U,Z⟩:=Ig hx;rw [Gw] at U;unfold nr at U
    cases tq:S.ft e.g with
    |none=>rw [tq] at U; simp [T.leaf] at U
    |some fn=>
     rw [tq] at U
     cases Y:fn.body with
     |none=>simp only [Y] at U; simp [T.leaf] at U
     |some body=>
      simp only [Y,lr,su] at U;obtain⟨hf,_,hd⟩:=hs.ft e.g fn tq;rw [hg] at hf;have mD:=hd body Y;have Jw:e.eb=eb:=by unfold zx.eb; rw [su]
      have XC:e.ko=ko:=by unfold zx.ko; rw [su]
      let B:lX:=⟨w,E.ro,c.dy.length,E.θ,E.κ⟩
      have akz: ∀id o,c.st.h.get id=some o->id<c.dy.length:=by
       intro id o ho;have:(nT c.dy 0 .nil).get id=some o:=ho
       grind [ja,Tr.get]
      have akt: ∀id,id<c.dy.length->∃o,c.st.h.get id=some o:=by
       intro id hid;refine⟨c.dy[id],?_⟩;show (nT c.dy 0 .nil).get id=_
       grind [ja]
      have t1:kc B E c.st { tmps:=vals.toArray++Array.replicate (fn.ntmps-vals.toArray.size) undef,defers:=[] } w:=by refine⟨fx.grow _,fun _ h=>h,fun _ h=> .inl h,Bel.refl,fun id o h=> .inr ⟨id,akz id o h,rfl⟩,fun i hi=>?_,fun b x Y=>by rw [hEd] at Y; simp at Y⟩;obtain⟨o,ho⟩:=akt i hi;exact⟨(fx.live i o ho).1,rfl,rfl⟩
      have t0:=t1.low (ρ':=cX (eI S.tree n) (low xs)) aio (WX mG hlen hc9);have n9:I.ok (cX (eI S.tree n) (low xs)) E.ro w.heap:=⟨KR,kE _ _⟩;have hm:e.eb.length=B.m:=by rw [Jw]; exact hom
      have hw:=(Iw (B:=B) (ZD e fn) mD rfl hm nR h_ (Nt hs vI he tq Y B hm ys) 1000).1 [] body [] _ lf { E with ρ:=cX (eI S.tree n) (low xs) } _ w rfl U Z t0 n9 (by simp; omega) rfl;have hw':=calls_of_wp (R:=QX B e.kU e.eb e.ko e.n7 ys) hf Y hw
      grind
  ·intro j e p c he lr akq h9 fn body b fr tq Y hl B E a w xs ys hm hx mG hlen t KR hN Ce;obtain⟨nR,h_,_⟩:=hs.outs j e he;obtain⟨lf,U,Z⟩:=Ig hx;have Gw:S.tree j=nr S e:=by unfold Sys.tree; rw [he]
   rw [Gw] at U;unfold nr at U;simp only [tq,Y,lr,hl] at U;obtain⟨hf,_,hd⟩:=hs.ft e.g fn tq;have mD:=hd body Y;have t':=t.low (ρ':=cX (eI S.tree n) (low xs)) akq (WX mG hlen h9);have n9:I.ok (cX (eI S.tree n) (low xs)) E.ro w.heap:=⟨KR,kE _ _⟩;refine Nl ?_;obtain⟨s2,t2,Ua⟩:=Ht (E:={ E with ρ:=cX (eI S.tree n) (low xs) }) U t';exact (Iw (B:=B) (ZD e fn) mD rfl hm nR h_ (Nt hs vI he tq Y B hm ys) 1000).1 (0::p) b (.loop p b::fr) s2 lf { E with ρ:=cX (eI S.tree n) (low xs) } a w (by simp only [oq,hl]) Ua Z t2 n9 hN Ce
theorem VU (hs:EH S) {g j:Nat} {e:zx} (hn:j∈S.BI g) (he:S.bL j=some e) (hp:e.pat=none) (n:Nat):ZT S.P S.G.ok g e.EG e.kU (eI S.tree n j):=by
 have:=(VV hs n).1 g j e hn he
 grind
end
end Go.As
end
section
namespace Go.As
open Go.RowKit
def Bm:List (Nat×Nat)->Nat->Option Nat
 |[],_=>none
 |(t,k)::l,x=>match Nat.beq t x with
  |true=>some k
  |false=>Bm l x
def Kf (l:List (Nat×Nat)) (tt:TT):TT:=fun t=>match tt t with
 |some i=>some { i with own:=Bm l t }
 |none=>none
section
variable {P:Program}
theorem H_ {l:List (Nat×Nat)} {tt:TT} (h:ew P tt):ew P (Kf l tt):=by
 intro t i hi;unfold Kf at hi;split at hi
 ·rename_i j hj;simp only [ag] at hi;subst hi;obtain⟨U,Z⟩:=h t j hj;exact⟨U,Z⟩
 grind
theorem Nr (l:List (Nat×Nat)) (tt:TT):kindOf (Kf l tt)=kindOf tt:=by
 funext op;cases op
 case convert t u x=>
  simp only [kindOf,Kf]
  cases ht:tt t with
  |none=>rfl
  |some i=>
   grind
 all_goals rfl
theorem Gp (l:List (Nat×Nat)) (tt:TT) (all:List Oper) (ms:List Nat): ∀(os:List Oper) (i n:Nat),items (Kf l tt) all ms os i n=items tt all ms os i n
 |[],_,_=>rfl
 |o::os,i,n=>by simp only [items,Nr,Gp l tt all ms os]
theorem V1 (l:List (Nat×Nat)) (tt:TT) (all:List Oper):stat (Kf l tt) all=stat tt all:=by
 unfold stat
 simp only [Gp]
theorem ZC (l:List (Nat×Nat)) (tt:TT) (H:Nat->Nat->Option zq):Jk (Kf l tt) H=Jk tt H:=by funext g id all;unfold Jk;simp only [uD,V1]
end
structure FE where
 no:Nat
 g:Nat
 EG:List RK
 kU:List RK
 pat:Option (CS×List dG×Nat):=none
 n7:List CS:=[]
 gh:List (Nat×Nat):=[]
 wh:List Nat:=[]
 gU:Nat:=0
 tst:List (Nat×Nat):=[]
 fz:List (Nat×Nat×Nat):=[]
 NW:List FH:=[]
 loops:List (List Nat×CS):=[]
def idxs (p:List Nat):List (List Nat×CS)->Nat->List (Nat×CS)
 |[],_=>[]
 |(q,c)::l,j=>match gC q p with
  |true=>(j,c)::idxs p l (j+1)
  |false=>idxs p l (j+1)
def FE.eX (f:FE):BQ:=fun p=>match idxs p f.loops (f.no+1) with
 |[]=>none
 |x::l=>some (x::l)
def FE.ent (f:FE):zx:=⟨f.g,f.EG,f.kU,f.eX,none,f.pat,f.n7,f.gh,f.wh,f.gU,f.tst,f.fz,f.NW⟩
def tB (t:Nat->Option FE) (j:Nat):Option zx:=match t (j / 50) with
 |none=>none
 |some f=>match j % 50 with
  |0=>some f.ent
  |i+1=>match eT f.loops i with
   |some x=>some { f.ent with pos:=some x }
   |none=>none
def Xg:Option (Code×List FrE)->Bool
 |some (c,_)=>match c with
  | .loop _=>true
  |_=>false
 |none=>false
def Ia (gU:Nat) (body:Code) (x:List Nat×CS):Bool:=Xg (oq body x.1)&&u4 x.2.k x.2&&Nat.ble x.2.k 900&&Nat.ble gU x.2.k
def ahJ {α:Type}:List α->Bool
 |[]=>true
 |_=>false
def XW (ft:Nat->Option Func) (k:Nat) (f:FE):Bool:=Nat.beq f.no (50*k)&&Nat.blt f.loops.length 50&&Nat.ble f.gU 900&&
 (match f.pat with
  |none=>Nat.ble (oh f.EG).length 900&&ahJ f.n7
  |some (c,eb,ko)=>u4 c.k c&&Nat.ble c.k 900&&Nat.beq eb.length c.dy.length&&FM f.n7&&mu ko eb&&Nat.ble ko 900&&nfs c.dy)&&
 (match ft f.g with
  |some fn=>match fn.body with
   |some body=>f.loops.all (Ia f.gU body)
   |none=>false
  |none=>false)
def Kl (ft:Nat->Option Func) (t:Nat->Option FE) (g:Nat) (l:List Nat):Bool:=
 l.all fun j=>Nat.beq (j % 50) 0&&match t (j / 50) with
  |some f=>Nat.beq f.g g&&(match ft g with
   |some fn=>fn.body.isSome
   |none=>false)
  |none=>false
theorem D9: ∀{a b:List Nat},gC a b=true->a=b
 |[],[],_=>rfl
 |[],_::_,h=>by simp [gC] at h
 |_::_,[],h=>by simp [gC] at h
 |a::x,b::y,h=>by
  simp only [gC] at h;split at h
  ·rename_i U;rw [aq U,D9 h]
  grind
theorem yy {p:List Nat}: ∀{l:List (List Nat×CS)} {n j:Nat} {c:CS},(j,c)∈idxs p l n->∃i,l[i]?=some (p,c)/\j=n+i
 |[],n,j,c,h=>by simp [idxs] at h
 |(q,c0)::l,n,j,c,h=>by
  simp only [idxs] at h;split at h
  ·rename_i hq;rcases ax.1 h with h|h
   ·simp only [ak] at h;obtain⟨rfl,rfl⟩:=h;exact⟨0,by rw [D9 hq]; rfl,rfl⟩
   ·obtain⟨i,U,Z⟩:=yy h;exact⟨i+1,by simpa using U,J⟩
  ·obtain⟨i,U,Z⟩:=yy h;exact⟨i+1,by simpa using U,J⟩
structure TR where
 P:Program
 G:LZ
 tt:TT
 ft:Nat->Option Func
 qi:Nat->Nat->List Oper->Bool
 draw:eh->Nat->Nat->List Oper->St->T St
 wI:Nat->Option (List W->St->T (W×St))
 t:Nat->Option FE
 BI:Nat->List Nat
noncomputable def TR.sys (S:TR):Sys:=⟨S.P,S.G,S.tt,S.ft,S.qi,S.draw,S.wI,40,60,S.BI,tB S.t⟩
theorem Ea {t:Nat->Option FE} {j:Nat} {e:zx} (h:tB t j=some e): ∃f pos,t (j / 50)=some f/\e= { f.ent with pos:=pos }:=by
 unfold tB at h;split at h
 ·grind
 ·rename_i f hf;split at h
  ·simp only [ag] at h;exact⟨f,none,hf,h.symm⟩
  grind
theorem z! {S:TR} (U:ew S.P S.tt) (Z:T0 S.P S.qi S.ft) (h3: ∀(I:bI) call,@gX I S.P call->∀g,@vh I S.P (S.qi g) (S.draw call g)) (h4: ∀(I:bI),(∀ρ ro h,I.ok ρ ro h->S.G.ok ro h)->∀g h,S.wI g=some h->@iE I S.P g h)
 (h5: ∀k f,S.t k=some f->XW S.ft k f=true) (h6: ∀g,Kl S.ft S.t g (S.BI g)=true):EH S.sys where
 tt:=U
 ft:=Z
 draw:=h3
 wI:=h4
 run:=by
  intro g j hj args w;have hn:=h6 g;unfold Kl at hn;have:=aR.1 hn j hj;simp only [an] at this;obtain⟨_,h⟩:=this;split at h
  ·simp only [an] at h;obtain⟨_,h⟩:=h;split at h
   ·rename_i fn tq;obtain⟨q1,q2,_⟩:=Z g fn tq;obtain⟨c,Y⟩:=al8.1 h;unfold callFunc;simp [TR.sys,q1,Y,by simpa using q2]
   ·simp at h
  ·simp at h
 num:=by
  intro g j e hj he;have hn:=h6 g;unfold Kl at hn;have:=aR.1 hn j hj;simp only [an] at this;obtain⟨hm,h⟩:=this;have hm:=aq hm;have wq:tB S.t j=some e:=he;unfold tB at wq;split at h
  ·rename_i f hf;rw [hf,hm] at wq;simp only [ag] at wq;subst wq;simp only [an] at h;have oE:=h5 _ _ hf;unfold XW at oE;simp only [an] at oE;obtain⟨⟨_,hp⟩,_⟩:=oE;refine⟨aq h.1,rfl,?_⟩
   show (match f.pat with
    |none=>_
    |some (c,eb,_)=>_)
   cases su:f.pat with
   |none=>
    rw [su] at hp;simp only [an] at hp;refine⟨alO hp.1,?_⟩;show f.n7= []
    cases hr:f.n7 with
    |nil=>rfl
    |cons a l=>rw [hr] at hp; simp [ahJ] at hp
   |some q=> obtain⟨c,eb,ko⟩:=q;rw [su] at hp;simp only [an] at hp;obtain⟨⟨⟨⟨⟨⟨p1,p2⟩,p3⟩,p4⟩,_⟩,_⟩,p7⟩:=hp;exact⟨p1,alO p2,aq p3,fun _=>p4,p7⟩
  ·simp at h
 outs:=by
  intro j e he;obtain⟨f,pos,hf,rfl⟩:=Ea he;have oE:=h5 _ _ hf;unfold XW at oE;simp only [an] at oE;obtain⟨⟨⟨_,hg⟩,hp⟩,_⟩:=oE;refine⟨?_,?_,alO hg⟩
  ·unfold zx.eb zx.ko;show mu (match f.pat with |none=>0|some (_,_,k)=>k) (match f.pat with |none=>[]|some (_,o,_)=>o)=true
   cases su:f.pat with
   |none=>rfl
   |some q=> obtain⟨c,eb,ko⟩:=q;rw [su] at hp;simp only [an] at hp;exact hp.1.1.2
  ·unfold zx.ko;show (match f.pat with |none=>0|some (_,_,k)=>k)<=900
   cases su:f.pat with
   |none=>exact alT _
   |some q=> obtain⟨c,eb,ko⟩:=q;rw [su] at hp;simp only [an] at hp;exact alO hp.1.2
 bL:=by
  intro j e he fn body tq Y;obtain⟨f,pos,hf,rfl⟩:=Ea he;have oE:=h5 _ _ hf;unfold XW at oE;simp only [an] at oE;obtain⟨⟨⟨⟨Gx,hlen⟩,_⟩,_⟩,hl⟩:=oE;have Gx:=aq Gx;have hlen:f.loops.length<50:=Nat.lt_of_succ_le (by simpa [Nat.blt] using hlen);have akD:S.ft f.g=some fn:=tq;rw [akD] at hl;simp only [Y] at hl;intro p l hp;have fj:f.eX p=some l:=hp
  have hl0:l=idxs p f.loops (f.no+1)/\l≠[]:=by
   unfold FE.eX at fj;split at fj
   ·simp at fj
   ·rename_i x l' hx;simp only [ag] at fj;rw [hx,fj];exact⟨rfl,by rw [<- fj]; simp⟩
  have mB: ∀i c,f.loops[i]?=some (p,c)->Ia f.gU body (p,c)=true:=fun i c hi=>aR.1 hl _ (bw hi);constructor
  ·obtain⟨Ak,hl2⟩:=hl0
   cases hc:l with
   |nil=>exact absurd hc hl2
   |cons x l'=>
    obtain⟨j',c⟩:=x;have:(j',c)∈idxs p f.loops (f.no+1):=by rw [<- Ak,hc]; simp
    obtain⟨i,hi,_⟩:=yy this;have:=mB i c hi;unfold Ia at this;simp only [an] at this;have hi:=this.1.1.1;unfold Xg at hi;split at hi
    ·rename_i c' fr heq;split at hi
     ·rename_i b;exact⟨b,fr,heq⟩
     ·simp at hi
    ·simp at hi
  ·intro j' c hc;rw [hl0.1] at hc;obtain⟨i,hi,rfl⟩:=yy hc;have ei:=(aW.1 hi).1;have:=mB i c hi;unfold Ia at this;simp only [an] at this;obtain⟨⟨⟨_,q1⟩,q2⟩,q3⟩:=this;refine⟨?_,q1,alO q2,alO q3⟩;show tB S.t (f.no+1+i)=_;have hd:(f.no+1+i) / 50=j / 50:=by rw [Gx]; omega
   have hm:(f.no+1+i) % 50=i+1:=by rw [Gx]; omega
   unfold tB;rw [hd,hf,hm];simp only;rw [di,hi]
end Go.As
end
section
namespace Go.As
open Go.RowKit
def u8L (l:List Int):List W:=l.map fun n=> .int .u8 (.lit n)
noncomputable section
def a0 (j:Nat) (l:List V):V:=.ap (2*j) (fL l)
def a1 (j:Nat) (l:List V):V:=.ap (2*j+1) (fL l)
def rr (j:Nat) (l:List V) (i:Nat):V:=n6 (.ap (2*j+1) (fL l)) i
def nm (x:V):V:=.op .num x (.lit 0)
def mk (x:V):V:=.op .mk x (.lit 0)
def ln (x:V):V:=.op .len x (.lit 0)
def ce (j:Nat) (x:V):V:=.op (.cell j) x (.lit 0)
def el (x y:V):V:=.op .at x y
def cn (x y:V):V:=.op .cons x y
def wr (x:V):V:=.wrap .i64 x
def sp (c:SB) (a b:T Lf):T Lf:=.split c a b
def ou (l:List V):T Lf:=.ret (.out l)
def ju (j:Nat) (l:List V):T Lf:=.ret (.jump j l)
def fl:T Lf:=.fail
end
end Go.As
end

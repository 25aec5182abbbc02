import Derived.Lib.Bytealg
import Derived.Lib.IndexMore
import Derived.Deep.LoopGhost
import Derived.Test.YtbmkacliajebmaaGreatDoorAsZS1
set_option linter.unusedSectionVars false
set_option linter.unusedVariables false
set_option linter.unusedSimpArgs false
section
namespace Go.As
section
variable {P:Program}
theorem wa {tt:TT}: ∀{l:List Oper} {i:Nat} {o:Oper},l[i]?=some o->je tt (l.take (i+1))=je tt (l.take i)+(match kindOf tt o.op with | .e=>1|_=>0)
 |[],i,o,h=>by simp at h
 |x::xs,0,o,h=>by
  simp at h;subst h;simp only [ay,amw,List.take_zero,je]
  grind
 |x::xs,i+1,o,h=>by simp only [amw,je];rw [wa (l:=xs) (by simpa using h)];omega
theorem LX {tt:TT} {l:List Oper} {i:Nat} (h:l[i]?=none):je tt (l.take (i+1))=je tt (l.take i):=by have:=am2.1 h;rw [ann J,ann J]
theorem Hv {tt:TT} {l:List Oper} {i:Nat}: ∀{j:Nat},i<=j->je tt (l.take i)<=je tt (l.take j)
 |0,h=>by
  grind
 |j+1,h=>by
  by_cases e:i=j+1
  ·grind
  ·have:=Hv (tt:=tt) (l:=l) (i:=i) (j:=j) J
   cases ho:l[j]? with
   |none=>rw [LX ho]; exact this
   |some o=>rw [wa ho]; omega
theorem JB {tt:TT} {l:List Oper} {i j:Nat} {o:Oper} (ho:l[i]?=some o) (hk:kindOf tt o.op= .e) (h:i<j):je tt (l.take i)<je tt (l.take j):=by
 have U:=wa (tt:=tt) ho;rw [hk] at U;have Z:=Hv (tt:=tt) (l:=l) (i:=i+1) (j:=j) h
 grind
theorem v8 {tt:TT} {l:List Oper} {m:Nat}: ∀{j:Nat},m<je tt (l.take j)->∃i o,i<j/\l[i]?=some o/\kindOf tt o.op= .e/\je tt (l.take i)=m
 |0,h=>by simp [je] at h
 |j+1,h=>by
  cases ho:l[j]? with
  |none=>
   rw [LX ho] at h;obtain⟨i,o,U,Z⟩:=v8 h
   grind
  |some o=>
   rw [wa ho] at h;rcases aQ m (je tt (l.take j)) with h'|h'
   ·obtain⟨i,o,U,Z⟩:=v8 h'
    grind
   grind
def zH (tt:TT) (all:List Oper) (ms:List Nat) (j:Nat) (o:Oper):Item:=⟨j,o,ms.getD j 0,kindOf tt o.op,je tt (all.take j),reads all o⟩
theorem ig {tt:TT} {all:List Oper} {ms:List Nat} {j:Nat} {o:Oper} (h:all[j]?=some o):(items tt all ms all 0 0)[j]?=some (zH tt all ms j o):=by rw [jx,h];simp [zH]
theorem GF {tt:TT} {all:List Oper} {ms:List Nat} {x:Item} (h:x∈items tt all ms all 0 0): ∃j o,all[j]?=some o/\x=zH tt all ms j o:=by
 obtain⟨j,hj⟩:=ano h
 cases ho:all[j]? with
 |none=>rw [jx,ho] at hj; simp at hj
 |some o=>
  rw [ig ho] at hj
  grind
structure ac9 (tt:TT) (all:List Oper) (ms:List Nat):Prop where
 back: ∀(j:Nat) (o:Oper),all[j]?=some o->∀e∈o.after,Region.binds .any e=true->e.on<j
 mask: ∀(j:Nat) (o:Oper),all[j]?=some o->ms.getD j 0=nP ms o.after.toList
 rd: ∀(j:Nat) (o:Oper),all[j]?=some o->∀t∈reads all o,∀(i:Nat) (oi:Oper),all[i]?=some oi->oi.dst=some t->(ms.getD j 0).testBit i=true\/(kindOf tt o.op≠.r/\(ms.getD i 0).testBit j=true)
 dst: ∀(i j:Nat) (oi oj:Oper) (d:Nat),all[i]?=some oi->all[j]?=some oj->oi.dst=some d->oj.dst=some d->i=j
 tot: ∀(i j:Nat) (oi oj:Oper),all[i]?=some oi->all[j]?=some oj->kindOf tt oi.op= .e->kindOf tt oj.op= .e->i<j->(ms.getD j 0).testBit i=true
theorem J! {tt:TT} {all:List Oper} {q:Stat} (h:stat tt all=some q): ∃ms,q.is=items tt all ms all 0 0/\q.nE=je tt all/\q.rs=((q.is.filter (·.k.V')).map fun x=>(x,zR q.is q.nE x))/\ac9 tt all ms:=by
 unfold stat at h;simp only at h;split at h
 ·rename_i oL;simp at h;subst h;refine⟨pX all [],rfl,mB _ _ _,rfl,?_⟩;have key: ∀(j:Nat) (o:Oper),all[j]?=some o->xl (pX all []) (items tt all (pX all []) all 0 0) (zH tt all (pX all []) j o)=true:=fun j o ho=>aR.1 oL _ (bu (ig ho));have mem: ∀(j:Nat) (o:Oper),all[j]?=some o->zH tt all (pX all []) j o∈items tt all (pX all []) all 0 0:=fun j o ho=>bu (ig ho);refine⟨?_,?_,?_,?_,?_⟩
  ·intro j o ho e he Y;have:=key j o ho;simp only [xl,an,aR] at this;have:=this.1.1.1.1 e (by simpa [zH] using he);simpa [Y,zH] using this
  ·intro j o ho;have:=key j o ho;simp only [xl,an] at this;have:=this.1.1.1.2;simpa [zH] using this
  ·intro j o ho t ht i oi hoi hd;have:=key j o ho;simp only [xl,an,aR] at this;have:=this.1.1.2 t ht _ (mem i oi hoi);simp only [zH,hd,ne_eq,not_true_eq_false,decide_false,am5,amI,an,amk] at this;rcases this with h|⟨U,Z⟩
   ·grind
   ·refine .inr ⟨fun hk=>?_,Z⟩;rw [hk] at U;simp [Kind.V'] at U
  ·intro i j oi oj d hi hj hdi hdj;have:=key i oi hi;simp only [xl,an,aR] at this;have:=this.1.2 _ (mem j oj hj);simp [zH,hdi,hdj] at this
   grind
  ·intro i j oi oj hi hj Yb hkj fe;have:=key j oj hj;simp only [xl,an,aR] at this;have:=this.2;simp only [zH,hkj,Kind.isE,am4,am5,aR] at this;have:=this _ (mem i oi hi);simpa [zH,Yb,Kind.isE,fe] using this
 grind
theorem Dd [bI] {tt:TT} (cJ:ep P tt) {call:eh} (hc:gY P call) {ops:Array Oper} {base:Nat} {pc:List (SB×Bool)} {ρ:Nat->Int} (hp:bW ρ pc) {x:Item} (hk:kindOf tt x.o.op= .r) {v:W} {S:Tr W} {gQ:List (Nat×dG)} {lU:List (Hp×Nat)}: ∀(ks:List Nat),(Cf tt call ops.toList base pc x v S gQ lU ks).leaf ρ=some ()->
 ∀k∈ks,∃h mm,lU[k]?=some (h,mm)/\E5 P ρ ops x.o S (fm base x.m mm gQ h) v (fm base x.m mm gQ h)
 |[],_=>by simp
 |k::ks,h=>by
  simp only [Cf] at h;split at h
  ·rename_i h0 mm hn;obtain⟨⟨u,s'⟩,U,Z⟩:=T.eX h;simp only at Z;split at Z
   ·rename_i hs;have ha:=Jl cJ hc (s:=⟨S,fm base x.m mm gQ h0,pc⟩) hp U;have hr:=ai8 hk U;rw [hr,jt _ _ hs] at ha;intro k' Rq;rcases aw.1 Rq with rfl|Rq
    ·exact⟨h0,mm,by rw [<- di]; exact hn,ha⟩
    ·exact Dd cJ hc hp hk ks Z k' Rq
   ·simp [T.leaf] at Z
  ·simp [T.leaf] at h
theorem F1 [bI] {tt:TT} (cJ:ep P tt) {call:eh} (hc:gY P call) {ops:Array Oper} {base:Nat} {ρ:Nat->Int} {d:Ps} {lU:List (Hp×Nat)} {vs:List W}: ∀(rs:List (Item×List Nat)) {pc dZ:List (SB×Bool)},bW ρ pc->(∀r∈rs,kindOf tt r.1.o.op= .r)->(H8 tt call ops.toList base d lU vs rs pc).leaf ρ=some dZ->
 bW ρ dZ/\∀r∈rs,∃v,vs[r.1.i]?=some v/\∀k∈r.2,∃h mm,lU[k]?=some (h,mm)/\E5 P ρ ops r.1.o (only d.bD r.1.rd) (fm base r.1.m mm d.gQ h) v (fm base r.1.m mm d.gQ h)
 |[],pc,dZ,hp,_,h=>by
  have:=bC h
  grind
 |(x,ks)::rs,pc,dZ,hp,hk,h=>by
  simp only [H8] at h;split at h
  ·rename_i v hv;obtain⟨⟨⟩,fA,U,fj,Z⟩:=T.lO hp h;obtain⟨jl,ih⟩:=F1 cJ hc rs fj (fun r hr=>hk r (by simp [hr])) Z;refine⟨jl,fun r hr=>?_⟩;rcases aw.1 hr with rfl|hr
   ·exact⟨v,by rw [<- di]; exact hv,Dd cJ hc hp (hk _ ad) ks U⟩
   grind
  ·simp [T.leaf] at h
end
section
variable {P:Program}
theorem N_ {α:Type} {l pre:List α} {a b:α} {l0:List α} (h:l=pre++a::b::l0):l.reverse[l0.length]?=some b/\l.reverse[l0.length+1]?=some a:=by
 grind
theorem S3 {n b:Nat} (h:((1 <<<n)-1).testBit b=true):b<n:=by
 rw [Nat.shiftLeft_eq,amN,Nat.testBit_two_pow_sub_one] at h
 grind
theorem O? [bI] {tt:TT} {ops:Array Oper} {ms:List Nat} {ρ:Nat->Int} {oT:Tr W} {H0:Hp} {base N:Nat} {d:Ps} (sf:ac9 tt ops.toList ms) (Y:base=H0.next) (hN:base+ops.size<=N)
 (rf:ajS P ρ ops base N (items tt ops.toList ms ops.toList 0 0) ⟨oT,[(⟨H0.m,base+ops.size,none⟩,0)],[],[],[]⟩ d)
 (N4: ∀r∈((items tt ops.toList ms ops.toList 0 0).filter (·.k.V')).map fun x=>(x,zR (items tt ops.toList ms ops.toList 0 0) (je tt ops.toList) x),∃v,d.vs.reverse[r.1.i]?=some v/\∀k∈r.2,∃h mm,d.lU.reverse[k]?=some (h,mm)/\E5 P ρ ops r.1.o (only d.bD r.1.rd) (fm base r.1.m mm d.gQ h) v (fm base r.1.m mm d.gQ h))
 (hun:HH base d.gQ d.lU=true) :
 ∃p:EX P ρ ops oT H0,p.base=base/\p.nE=je tt ops.toList/\(∀i,p.val i=(d.vs.reverse[i]?).getD .tN)/\(∀k h mm,d.lU.reverse[k]?=some (h,mm)->p.hp k=h/\∀a,p.un k a=!mm.testBit a)/\(∀i,p.nW i=(d.Bi.reverse[i]?).getD none)/\
  (∀(m:Nat),m<p.nE->∃(j:Nat) (o:Oper),ops[j]?=some o/\p.kd j= .e/\p.st j=m):=by
 have gX: ∀(j:Nat),ops.toList[j]?=ops[j]?:=fun j=>br;have fe: ∀{j:Nat} {o:Oper},ops[j]?=some o->j<ops.size:=fun h=>(amc.1 h).1;have hci:jB (items tt ops.toList ms ops.toList 0 0)=je tt ops.toList:=mB _ _ _;have GO:je tt ops.toList=je tt (ops.toList.take ops.size):=by rw [ann ad]
 obtain⟨ps,s1,s2⟩:=rf.lU;rw [hci] at s2;have alU:d.lU.length=je tt ops.toList+1:=by rw [s1,a8,s2]; rfl
 have akH:d.lU.reverse[0]?=some (⟨H0.m,base+ops.size,none⟩,0):=by rw [s1]; simp
 have aiw: ∀k,k<=je tt ops.toList->∃h mm,d.lU.reverse[k]?=some (h,mm):=by
  intro k hk;have:k<d.lU.reverse.length:=by rw [anN]; omega
  exact⟨d.lU.reverse[k].1,d.lU.reverse[k].2,aM this⟩
 have hnx:=rf.nxt (by
  intro q hq;simp only [aw,amn,or_false] at hq;subst hq
  exact⟨hN,rfl⟩)
 have aeV: ∀(k:Nat) (h:Hp) (mm:Nat),d.lU.reverse[k]?=some (h,mm)->h.next<=N/\h.res=none:=by intro k h mm hh;exact hnx (h,mm) (by have:=bu hh; simpa using this)
 let hpf:Nat->Hp:=fun k=>((d.lU.reverse[k]?).map (·.1)).getD ⟨.nil,0,none⟩
 let unf:Nat->Nat->Bool:=fun k a=>match d.lU.reverse[k]? with |some q=>!q.2.testBit a|none=>false
 let bff:Nat->Nat->Bool:=fun i j=>match ops[j]? with |some _=>(ms.getD j 0).testBit i|none=>false
 let kdf:Nat->Kind:=fun i=>match ops[i]? with |some o=>kindOf tt o.op|none=> .pa
 let JD:Nat->Option dG:=fun i=>(d.Bi.reverse[i]?).getD none
 have hpe: ∀k h mm,d.lU.reverse[k]?=some (h,mm)->hpf k=h/\∀a,unf k a=!mm.testBit a:=by intro k h mm hh;refine⟨by simp only [hpf,hh]; rfl,fun a=>by simp only [unf,hh]⟩
 have e_: ∀{i j:Nat} {o:Oper},ops[j]?=some o->bff i j=(ms.getD j 0).testBit i:=by intro i j o ho;simp only [bff,ho]
 have XK: ∀{j:Nat} {o:Oper},ops[j]?=some o->kdf j=kindOf tt o.op:=by intro j o ho;simp only [kdf,ho]
 have kdE: ∀{j:Nat},kdf j= .e->∃o,ops[j]?=some o/\kindOf tt o.op= .e:=by
  intro j hj
  cases ho:ops[j]? with
  |none=>simp only [kdf,ho] at hj; simp at hj
  |some o=>exact⟨o,rfl,by rw [<- XK ho]; exact hj⟩
 have Yj: ∀(k:Nat),∀(o':Oper),ops[k]?=some o'->∀b,(ms.getD k 0).testBit b=true->b<k:=by
  intro k
  induction k using Nat.strongRecOn with
  |_ k ih=>
   intro o' Aw b Fj;rw [sf.mask k o' (by rw [gX]; exact Aw)] at Fj;obtain⟨e,e1,e2,e3⟩:=oC Fj;have e1':e∈o'.after:=by simpa using e1
   have aeY:=sf.back k o' (by rw [gX]; exact Aw) e e1' e2;rcases e3 with rfl|e3
   ·exact aeY
   ·have:=fe Aw;have:=ih e.on aeY (ops[e.on]'J) ad b e3;omega
 have ala: ∀(i:Nat),∃S:Tr W,∀(o:Oper),ops[i]?=some o->∃dp Ud v ob pre,dp.bD=S/\EW P ρ ops base N (zH tt ops.toList ms i o) dp v ob Ud/\d.vs.reverse[i]?=some v/\d.Bi.reverse[i]?=some ob/\d.lU=pre++Ud.lU/\dp.lU.length=1+je tt (ops.toList.take i)/\
  (∀q,q∈dp.gQ->q∈d.gQ)/\(∀t x,S.get t=some x->(∃p oj,p<i/\ops[p]?=some oj/\oj.dst=some t/\d.vs.reverse[p]?=some x)\/(oT.get t=some x/\∀(p:Nat) (oj:Oper),p<i->ops[p]?=some oj->oj.dst≠some t)):=by
  intro i
  cases hoi:ops[i]? with
  |none=>exact⟨.nil,fun o h=>by simp at h⟩
  |some o0=>
   have hx:(items tt ops.toList ms ops.toList 0 0)[i]?=some (zH tt ops.toList ms i o0):=ig (by rw [gX]; exact hoi);obtain⟨dp,Ud,v,ob,pre,g1,g2,g3,g4,g5,g6,g7,g8⟩:=rf.at_ i _ hx;refine⟨dp.bD,fun o ho=>?_⟩;simp only [ag] at ho;subst ho;refine⟨dp,Ud,v,ob,pre,rfl,g1,by simpa using g2,by simpa using g3,g4,?_,g6,?_⟩
   ·rw [g5];congr 1
    have:(items tt ops.toList ms ops.toList 0 0).take i=items tt ops.toList ms (ops.toList.take i) 0 0:=by
     apply am0;intro j;rw [amG,jx,jx,amG];split
     ·rename_i hj;rw [List.take_take,anO J]
     ·rfl
    rw [this,mB]
   ·intro t x ht;rcases g8 t x ht with ⟨p,y,q1,q2,q3,q4⟩|⟨q1,q2⟩
    ·cases oM:ops.toList[p]? with
     |none=>rw [jx,oM] at q2; simp at q2
     |some oj=> rw [ig oM] at q2;simp at q2;subst q2;exact .inl ⟨p,oj,q1,by rw [<- gX]; exact oM,q3,by simpa using q4⟩
    ·refine .inr ⟨q1,fun p oj hp oM=>?_⟩
     have hm:zH tt ops.toList ms p oj∈(items tt ops.toList ms ops.toList 0 0).take i:=by refine bu (i:=p) ?_;rw [amG,ah hp];exact ig (by rw [gX]; exact oM)
     exact q2 _ hm
 obtain⟨Sd,mE⟩:=Classical.skolem.1 ala
 let Sf:Nat->Tr W:=fun i=>match ops[i]? with
  |some o=>(match kindOf tt o.op with
   | .r=>only d.bD (reads ops.toList o)
   |_=>only (Sd i) (reads ops.toList o))
  |none=> .nil
 have SfR: ∀{i:Nat} {o:Oper},ops[i]?=some o->kindOf tt o.op= .r->Sf i=only d.bD (reads ops.toList o):=by intro i o ho hk;simp only [Sf,ho,hk]
 have SfN: ∀{i:Nat} {o:Oper},ops[i]?=some o->kindOf tt o.op≠.r->Sf i=only (Sd i) (reads ops.toList o):=by
  intro i o ho hk;have:Sf i=(match kindOf tt o.op with | .r=>only d.bD (reads ops.toList o)|_=>only (Sd i) (reads ops.toList o)):=by simp only [Sf,ho]
  rw [this]
  cases hh:kindOf tt o.op with
  |r=>exact absurd hh hk
  |pa=>rfl
  |e=>rfl
 have aaa: ∀a b,(a,b)∈d.gQ->JD a=some b:=by
  intro a b DR;rcases rf.nW a b DR with h|⟨p,x,g1,g2,g3⟩
  ·simp at h
  ·cases ho:ops.toList[p]? with
   |none=>rw [jx,ho] at g1; simp at g1
   |some o=> rw [ig ho] at g1;simp at g1;subst g1;have:p=a:=g2;subst this;simp only [aX,ay] at g3;simp only [JD,g3,az]
 have aiR: ∀a b,JD a=some b->(a,b)∈d.gQ:=by
  intro a b DR
  have JO:d.Bi.reverse[a]?=some (some b):=by
   simp only [JD] at DR
   cases hh:d.Bi.reverse[a]? with
   |none=>rw [hh] at DR; simp at DR
   |some x=>rw [hh] at DR; simp at DR; rw [DR]
  obtain⟨po,o1,o2⟩:=rf.Bi
  have Ob:a<ops.size:=by have U:=(aW.1 JO).1;rw [anN,o1,amm,o2,sE] at U;simpa using U
  have hx:(items tt ops.toList ms ops.toList 0 0)[a]?=some (zH tt ops.toList ms a ops[a]):=ig (by rw [gX]; simp [Ob]);exact rf.alr a _ b hx (by simpa using JO)
 refine⟨{
  base:=base,bf:=bff,kd:=kdf,S:=Sf,val:=fun i=>(d.vs.reverse[i]?).getD .tN,st:=fun i=>je tt (ops.toList.take i),nE:=je tt ops.toList,hp:=hpf,un:=unf,nW:=JD,
  gen:=?_,back:=?_,dst:=?_,bD:=?_,stl:=?_,inj:=?_,ahF:=?_,pa:=?_,ev:=?_,rd:=?_,unm:=?_,nob:=?_,first:=?_ },rfl,rfl,fun i=>rfl,hpe,fun i=>rfl,?_⟩
 ·intro i j h
  cases ho:ops[j]? with
  |none=>simp only [bff,ho] at h; simp at h
  |some o=>
   rw [e_ ho,sf.mask j o (by rw [gX]; exact ho)] at h;obtain⟨e,e1,e2,e3⟩:=oC h;have e1':e∈o.after:=by simpa using e1
   refine⟨o,e,rfl,e1',e2,e3.imp id fun h3=>?_⟩;have hl:=sf.back j o (by rw [gX]; exact ho) e e1' e2;have hj:=fe ho;rw [e_ (o:=ops[e.on]'J) ad];exact h3
 ·intro j o ho e he Fj;exact sf.back j o (by rw [gX]; exact ho) e he Fj
 ·intro i j oi oj dd hi hj U Z;exact sf.dst i j oi oj dd (by rw [gX]; exact hi) (by rw [gX]; exact hj) U Z
 ·intro i o ho t x ht
  cases hk:kindOf tt o.op with
  |r=>
   rw [SfR ho hk] at ht;obtain⟨U,Z⟩:=yu ht;rcases rf.slot t x Z with ⟨p,y,g1,g2,g3⟩|⟨g1,g2⟩
   ·cases oM:ops.toList[p]? with
    |none=>rw [jx,oM] at g1; simp at g1
    |some oj=>
     rw [ig oM] at g1;simp at g1;subst g1;have hp:ops[p]?=some oj:=by rw [<- gX]; exact oM
     refine .inl ⟨p,oj,?_,hp,g2,?_⟩
     ·rw [e_ ho];rcases sf.rd i o (by rw [gX]; exact ho) t U p oj oM g2 with h|⟨h,_⟩
      ·exact h
      ·exact absurd hk h
     ·simp only [aX,ay] at g3;simp only [g3,az]
   ·refine .inr ⟨g1,fun j oj oM hd=>?_⟩;exact absurd hd (g2 _ (bu (ig (by rw [gX]; exact oM))))
  |_=>
   rw [SfN ho (by rw [hk]; simp)] at ht;obtain⟨U,Z⟩:=yu ht;obtain⟨dp,Ud,v,ob,pre,_,_,_,_,_,_,_,g8⟩:=mE i o ho;rcases g8 t x Z with ⟨p,oj,q1,q2,q3,q4⟩|⟨q1,q2⟩
   ·refine .inl ⟨p,oj,?_,q2,q3,by rw [q4]; rfl⟩;rw [e_ ho];rcases sf.rd i o (by rw [gX]; exact ho) t U p oj (by rw [gX]; exact q2) q3 with h|⟨_,h⟩
    ·exact h
    ·have:=Yj p oj q2 i h;omega
   ·refine .inr ⟨q1,fun j oj oM hd=>?_⟩;rw [e_ oM];rcases sf.rd i o (by rw [gX]; exact ho) t U j oj (by rw [gX]; exact oM) hd with h|⟨_,h⟩
    ·exact absurd hd (q2 j oj (Yj i o ho j h) oM)
    ·exact h
 ·intro j o ho hk;rw [XK ho] at hk;rw [GO];exact JB (by rw [gX]; exact ho) hk (fe ho)
 ·intro i j hi hj he;obtain⟨oi,hoi,Yb⟩:=kdE hi;obtain⟨oj,oM,hkj⟩:=kdE hj;rcases anK i j with h|h|h
  ·have:=JB (tt:=tt) (l:=ops.toList) (by rw [gX]; exact hoi) Yb h;omega
  ·exact h
  ·have:=JB (tt:=tt) (l:=ops.toList) (by rw [gX]; exact oM) hkj h;omega
 ·intro j o ho hk m hm;obtain⟨i,oi,U,Z,h3,h4⟩:=v8 hm;rw [XK ho] at hk;have h2':ops[i]?=some oi:=by rw [<- gX]; exact Z
  refine⟨i,by rw [XK h2']; exact h3,h4,?_⟩;rw [e_ ho];exact sf.tot i j oi o Z (by rw [gX]; exact ho) h3 hk U
 ·intro i o ho hk;rw [XK ho] at hk;obtain⟨dp,Ud,v,ob,pre,hdp,hF,g2,g3,g4,g5,g6,g7⟩:=mE i o ho;obtain⟨h0,mm,rest,hs,hF⟩:=hF;simp only [zH,hk] at hF;obtain⟨_,HA,f1,f2,f3⟩:=hF;rw [hdp] at f1;refine⟨HA,N,?_,f2,?_,?_⟩
  ·rw [SfN ho (by rw [hk]; simp)];simp only [g2,az];exact f1
  ·simp only [JD,g3,az];exact f3
  ·intro k Cp;obtain⟨Z,mm2,hh⟩:=aiw k Cp;rw [(hpe _ _ _ hh).1];exact (aeV _ _ _ hh).1
 ·intro j o ho hk;rw [XK ho] at hk;obtain⟨dp,Ud,v,ob,pre,hdp,hF,g2,g3,g4,g5,g6,g7⟩:=mE j o ho;obtain⟨h0,mm,rest,hs,hF⟩:=hF;simp only [zH,hk] at hF;obtain⟨_,hn,f1,f2,f3,f4⟩:=hF;rw [hdp] at f4;rw [f1,hs] at g4;have hrl:rest.length=je tt (ops.toList.take j):=by rw [hs] at g5; simp at g5; omega
  obtain⟨r1,r2⟩:=N_ g4;rw [hrl] at r1 r2;obtain⟨p1,p2⟩:=hpe _ _ _ r1;obtain⟨p3,p4⟩:=hpe _ _ _ r2;refine⟨fm base (ms.getD j 0) mm dp.gQ h0,?_,?_,?_,?_,?_⟩
  ·rw [SfN ho (by rw [hk]; simp)];simp only [g2,az,p3];exact f4
  ·rw [(jf _ _).1,p1]
  ·rw [(jf _ _).2];exact (aeV _ _ _ r1).2
  ·intro id x hx;rcases nS hx with h|⟨a,a1,a2,a3,a4⟩
   ·left; rw [p1]; exact h
   ·right;exact⟨a,by rw [e_ ho]; exact a2,by rw [p2,a3]; rfl,a4,aaa a x (g6 _ a1)⟩
  ·intro a ha;rw [p4] at ha;simp only [Nat.testBit_or,Bool.not_or,an,amk] at ha;refine⟨by rw [p2,ha.1]; rfl,?_⟩;rw [e_ ho];exact ha.2
 ·intro i o ho hk k hkn U Z;rw [XK ho] at hk;have BX:zH tt ops.toList ms i o∈items tt ops.toList ms ops.toList 0 0:=bu (ig (by rw [gX]; exact ho))
  obtain⟨v,g1,g2⟩:=N4 (zH tt ops.toList ms i o,zR (items tt ops.toList ms ops.toList 0 0) (je tt ops.toList) (zH tt ops.toList ms i o)) (by
   rw [aT]
   exact⟨_,amA.2 ⟨BX,by simp [zH,hk,Kind.V']⟩,rfl⟩)
  have Lb:k∈zR (items tt ops.toList ms ops.toList 0 0) (je tt ops.toList) (zH tt ops.toList ms i o):=by
   unfold zR;rw [amA,ami];refine⟨J,aR.2 fun y hy=>?_⟩;obtain⟨j,oj,oM,rfl⟩:=GF hy;have Y_:ops[j]?=some oj:=by rw [<- gX]; exact oM
   cases hkj:kindOf tt oj.op with
   |pa=>simp [zH,hkj,Kind.isE]
   |r=>simp [zH,hkj,Kind.isE]
   |e=>
    simp only [zH,hkj,Kind.isE,am4,am5,an,amI,amk,decide_eq_true_eq];constructor
    ·cases ae5:(ms.getD i 0).testBit j with
     |false=>exact .inl rfl
     |true=>exact .inr (U j (by rw [XK Y_]; exact hkj) (by rw [e_ ho]; exact ae5))
    ·cases ae5:(ms.getD j 0).testBit i with
     |false=>exact .inl rfl
     |true=>exact .inr (Z j oj Y_ (by rw [XK Y_]; exact hkj) (by rw [e_ Y_]; exact ae5))
  obtain⟨h0,mm,g3,g4⟩:=g2 k Lb;obtain⟨p1,p2⟩:=hpe _ _ _ g3;refine⟨fm base (ms.getD i 0) mm d.gQ h0,?_,?_,?_,?_⟩
  ·have g1':d.vs.reverse[i]?=some v:=g1;rw [SfR ho hk];simp only [g1',az];exact g4
  ·rw [(jf _ _).1,p1]
  ·rw [(jf _ _).2];exact (aeV _ _ _ g3).2
  ·intro id x hx;rcases nS hx with h|⟨a,a1,a2,a3,a4⟩
   ·left; rw [p1]; exact h
   ·right;exact⟨a,by rw [e_ ho]; exact a2,by rw [p2,a3]; rfl,a4,aaa a x a1⟩
 ·intro k a x hk hx hu;obtain⟨h0,mm,hh⟩:=aiw k hk;obtain⟨p1,p2⟩:=hpe _ _ _ hh;rw [p1];rw [p2] at hu;unfold HH at hun;have:=aR.1 hun _ (aiR a x hx)
  have:=aR.1 this (h0,mm) (by
   have:=bu hh
   simpa using this)
  simp only [amI,Option.isNone_iff_eq_none] at this;simp only [amk] at hu;rcases this with h|h
  ·rw [hu] at h; simp at h
  ·exact h
 ·intro i hk
  cases ho:ops[i]? with
  |none=>
   obtain⟨po,o1,o2⟩:=rf.Bi
   have Ro:d.Bi.reverse[i]?=none:=by rw [am2,anN,o1,amm,o2,sE];have:=an4.1 ho;simpa using this
   simp only [JD,Ro,amB]
  |some o=>
   obtain⟨dp,Ud,v,ob,pre,hdp,hF,g2,g3,g4,g5,g6,g7⟩:=mE i o ho;obtain⟨h0,mm,rest,hs,hF⟩:=hF;rw [XK ho] at hk
   cases sK:kindOf tt o.op with
   |pa=>exact absurd sK hk
   |e=> simp only [zH,sK] at hF;simp only [JD,g3,az,hF.1]
   |r=> simp only [zH,sK] at hF;simp only [JD,g3,az,hF.1]
 ·have:=(hpe 0 _ _ akH).1;refine⟨Y,by rw [this]; exact au _,fun id x h=>?_⟩;rw [this] at h;exact h
 ·intro m hm;have hm':m<je tt (ops.toList.take ops.size):=by rw [<- GO]; exact hm
  obtain⟨i,oi,U,Z,h3,h4⟩:=v8 hm';have h2':ops[i]?=some oi:=by rw [<- gX]; exact Z
  exact⟨i,oi,h2',by show kdf i=_; rw [XK h2']; exact h3,h4⟩
end
section
variable {P:Program}
theorem Eu [bI] {tt:TT} (cJ:ep P tt) {call:eh} (hc:gY P call) {ops:Array Oper} {E:En} {s s':St} {a:Act} {w:World} {Q:Exit->Act->World->Prop}
 (hd: ∀o∈ops.toList,∀d,o.dst=some d->d<a.tmps.size) (fit:Fit E s a w) (h:(draw tt call ops.toList s).leaf E.ρ=some s') (hq: ∀a' w',mH E s a w s' a' w'->Q .normal a' w') :
 wpAny P .any ops Q ops.size (Array.replicate ops.size false) a { w with drawn:=w.drawn+1 }:=by
 unfold draw Ev at h;split at h
 ·simp [T.leaf] at h
 ·rename_i q hq0;split at h
  ·simp [T.leaf] at h
  ·rename_i xz;simp only at h;obtain⟨⟨fA,d⟩,U,Z⟩:=T.eX h;simp only at Z;obtain⟨ms,e1,e2,e3,sf⟩:=J! hq0;rw [e1,] at U;have rf:=RP cJ hc _ fit.pc U;have fj:=RO _ fit.pc U;split at Z
   ·simp [T.leaf] at Z
   ·rename_i h0 mm rest akG;obtain⟨jw,h3,h4⟩:=T.eX Z;split at h4
    ·rename_i hun;have:=bC h4;subst this
     have aiy:=F1 cJ hc q.rs fj (by
      intro r hr;rw [e3,aT] at hr;obtain⟨x,hx,rfl⟩:=hr;rw [amA,e1] at hx;obtain⟨j,o,ho,rfl⟩:=GF hx.1;have h5:(kindOf tt o.op).V'=true:=hx.2;show kindOf tt o.op= .r;revert h5
      cases kindOf tt o.op<;>simp [Kind.V']) h3
     have jl:=aiy.1;have N4:=aiy.2;rw [e3,e1,e2] at N4;obtain⟨p,p1,p2,p3,p4,p5,p6⟩:=O? sf (base:=s.h.next) (H0:=s.h) rfl (Nat.le_add_right _ _) rf N4 hun;have gX: ∀(j:Nat),ops.toList[j]?=ops[j]?:=fun j=>br;let w1:World:={ w with drawn:=w.drawn+1 };have alh:Fit E s a w1:=⟨⟨fit.rel.fresh,fit.rel.res,fit.rel.live,fit.rel.inj,fit.rel.pS,fit.rel.iT,fit.rel.hid⟩,fit.sr,fit.pc⟩
     have aiI: ∀(i:Nat),(Array.replicate ops.size false)[i]?≠some true:=by
      intro i hh
      grind
     refine p.any (E0:=E) (a0:=a) (w0:=w1) hd ?_ ops.size _ a w1 ad ?_ (p.start rfl rfl rfl alh _ aiI)
     ·intro a' w' inv;obtain⟨ps,s1,s2⟩:=rf.lU;rw [mB] at s2
      have hlen:rest.length=je tt ops.toList:=by
       have:d.lU.length=je tt ops.toList+1:=by rw [s1,a8,s2]; rfl
       grind
      have ab3:d.lU.reverse[je tt ops.toList]?=some (h0,mm):=by
       grind
      obtain⟨q1,q2⟩:=p4 _ _ _ ab3
      have hnx:=rf.nxt (by
       intro q hq;simp only [aw,amn,or_false] at hq;subst hq
       exact⟨Nat.le_add_right _ _,rfl⟩) (h0,mm) (by rw [akG]; simp)
      have ht:=p.finish (s0:=s) (s':=⟨d.bD,fm s.h.next ((1 <<<ops.toList.length)-1) mm d.gQ h0,jw⟩) (w0:=w1) rfl inv jl ?_ ?_ ?_ ?_ p6
      ·refine hq a' w' ⟨ht.defers,ht.size,?_⟩;obtain⟨E',st,f'⟩:=ht.step;exact⟨E',⟨st.ρ,st.dm,st.θ,st.κ,st.ro,st.qW,st.NK,st.rsm,st.ZW,st.os,st.tape,st.output,st.size,st.bX,st.own,st.hd⟩,f'⟩
      ·intro t x ht;rcases rf.slot t x ht with ⟨j,y,g1,g2,g3⟩|⟨g1,g2⟩
       ·cases oM:ops.toList[j]? with
        |none=>rw [jx,oM] at g1; simp at g1
        |some oj=>
         rw [ig oM] at g1;simp at g1;subst g1;refine .inl ⟨j,oj,by rw [<- gX]; exact oM,g2,?_⟩
         grind
       ·refine .inr ⟨g1,fun j oj oM=>?_⟩;exact g2 _ (bu (ig (by rw [gX]; exact oM)))
      ·intro id x hx;rw [p2,q1,p1];rcases nS hx with h|⟨b,b1,b2,b3,b4⟩
       ·grind
       ·right
        have fe:b<ops.size:=by
         have:=S3 b2
         grind
        refine⟨b,fe,by rw [q2,b3]; rfl,b4,?_⟩;rcases rf.nW b x b1 with h|⟨j,y,g1,g2,g3⟩
        ·grind
        ·cases oM:ops.toList[j]? with
         |none=>rw [jx,oM] at g1; simp at g1
         |some oj=>
          rw [ig oM] at g1;simp at g1;subst g1;have:j=b:=g2
          grind
      ·rw [p2,q1];exact (jf _ _).1.symm
      ·show (fm s.h.next ((1 <<<ops.toList.length)-1) mm d.gQ h0).res=none;rw [(jf _ _).2]
       grind
     ·have: ∀(l:Nat->Bool) (n:Nat),left l n<=n:=by
       intro l n
       induction n with
       |zero=>exact au _
       |succ n ih=>simp only [left]; split<;>omega
      grind
    ·simp [T.leaf] at h4
theorem aaz [bI] {tt:TT} (cJ:ep P tt) (hm:P.follows .mixedOrders=true) {call:eh} (hc:gY P call):aaW P (draw tt call):=by intro id ops E s s' a w Q hd fit h hq;exact wp_region_any hm (Eu cJ hc hd fit h hq)
end
end Go.As
end
section
namespace Go.As
noncomputable section
open Go.RowKit
section
variable {P:Program}
def En.zero (ρ:Nat->Int) (ro:Nat->Prop):En:={ ρ:=ρ,θ:=fun _=>(0,0),κ:=fun _=>0,dm:=fun _=>False,ro:=ro }
def Hp.zero:Hp:=⟨.nil,0,none⟩
theorem CH [bI] (ρ:Nat->Int) (ro:Nat->Prop) (w:World) (h: ∀b,ro b->b<w.heap.size) (hg:bI.ok ρ ro w.heap):bP (En.zero ρ ro) Hp.zero w:=
 ⟨fun _ _ h=>h,by simp [Hp.zero],fun id o h=>by simp [Hp.zero,Hp.get,Tr.get] at h,fun id _ o _ h=>by simp [Hp.zero,Hp.get,Tr.get] at h,h,hg,fun _ _ h=>by simp [En.zero] at h⟩
theorem eM.below {E E':En} {H':Hp} {w w':World} (s:eM E Hp.zero w E' H' w'):Below w.heap.size w w':=
 ⟨s.os,s.tape,s.output,s.size,fun k hk=>s.bX k hk fun id o h=>by simp [Hp.zero,Hp.get,Tr.get] at h⟩
theorem zw [bI] {g:FuncId} {f:List W->St->T (W×St)} (hf:iE P g f) {fn:Func} (tA:P.funcs[g]?=some fn) (j3:(fn.name == "runtime.NumGoroutine")=false) {c:Code} (Li:fn.body=some c)
 {ρ:Nat->Int} {ro:Nat->Prop} {w:World} (kO: ∀b,ro b->b<w.heap.size) (hg:bI.ok ρ ro w.heap) {args:List W} {vals:List Value} (hv:cB (En.zero ρ ro) w.heap args vals) {v:W} {s':St}
 (h:(f args ⟨.nil,Hp.zero,[]⟩).leaf ρ=some (v,s')):Calls P g vals.toArray w fun e w'=> ∃u E',e= .returned u/\VR E' w'.heap v u/\E'.ρ=ρ/\Below w.heap.size w w':=by
 obtain⟨_,_,h3⟩:=hf args ⟨.nil,Hp.zero,[]⟩ (En.zero ρ ro) w vals v s' (CH ρ ro w kO hg) hv (by simp [bW]) h
 have kZ:(callFunc g vals.toArray).run P w= .ok (.enter g vals.toArray) w:=by unfold callFunc;simp [tA,Li,by simpa using j3]
 unfold kV mR at h3;rw [kZ] at h3;exact Calls.mono h3 fun e w' ⟨u,he,E',st,_,hv⟩=> ⟨u,E',he,hv,st.ρ,st.below⟩
end
end
end Go.As
end
section
namespace Go.As
noncomputable section
open Go.RowKit
mutual
def gO:W->Bool
 | .bool (.lit _)=>true
 | .int _ (.lit _)=>true
 | .str _=>true
 | .tN=>true
 | .eg=>true
 | .rD=>true
 | .wv=>true
 | .xn=>true
 | .iface _ v=>gO v
 | .agg cs=>lF cs
 | .tuple cs=>lF cs
 | .func _ fs cs=>lF fs&&lF cs
 |_=>false
def lF:List W->Bool
 |[]=>true
 |x::xs=>gO x&&lF xs
end
section
variable {P:Program}
mutual
theorem wb {E E':En} {h h':Array Obj}: ∀(x:W) (u:Value),gO x=true->VR E h x u->VR E' h' x u
 | .bool b,u,hc,hv=>by cases b<;>simp [gO] at hc; simpa [VR,SB.den] using hv
 | .int k e,u,hc,hv=>by cases e<;>simp [gO] at hc; simpa [VR,V.den] using hv
 | .str s,u,_,hv=>by simp only [VR] at *; exact hv
 | .tN,u,_,hv=>by simp only [VR] at *; exact hv
 | .eg,u,_,hv=>by simp only [VR] at *; exact hv
 | .rD,u,_,hv=>by simp only [VR] at *; exact hv
 | .wv,u,_,hv=>by simp only [VR] at *; exact hv
 | .xn,u,_,hv=>by simp only [VR] at *; exact hv
 | .iface t x,u,hc,hv=>by simp only [VR,gO] at *;obtain⟨y,U,Z⟩:=hv;exact⟨y,U,wb x y hc Z⟩
 | .agg cs,u,hc,hv=>by simp only [VR,gO] at *;obtain⟨us,U,Z⟩:=hv;exact⟨us,U,lR cs us hc Z⟩
 | .tuple cs,u,hc,hv=>by simp only [VR,gO] at *;obtain⟨us,U,Z⟩:=hv;exact⟨us,U,lR cs us hc Z⟩
 | .func fn fs cs,u,hc,hv=>by simp only [VR,gO,an] at *;obtain⟨us,ws,U,Z,h3⟩:=hv;exact⟨us,ws,U,lR fs us hc.1 Z,lR cs ws hc.2 h3⟩
 | .ptr _ _,_,hc,_=>by simp [gO] at hc
 | .mY _,_,hc,_=>by simp [gO] at hc
 | .slice _ _ _ _,_,hc,_=>by simp [gO] at hc
 | .ro _ _ _,_,hc,_=>by simp [gO] at hc
 | .map _,_,hc,_=>by simp [gO] at hc
 | .KG _,_,hc,_=>by simp [gO] at hc
 | .wz _ _,_,hc,_=>by simp [gO] at hc
theorem lR {E E':En} {h h':Array Obj}: ∀(xs:List W) (us:List Value),lF xs=true->cB E h xs us->cB E' h' xs us
 |[],us,_,hv=>by simp only [cB] at *; exact hv
 |x::xs,us,hc,hv=>by simp only [cB,lF,an] at *;obtain⟨u,vs,U,Z,h3⟩:=hv;exact⟨u,vs,U,wb x u hc.1 Z,lR xs vs hc.2 h3⟩
end
theorem rU [bI] {E:En} {H:Hp} {w w':World} (r:bP E H w) (b:Below w.heap.size w w'):eM E H w E H w'/\bP E H w':=by have hk:fg E w.heap E w'.heap:=⟨rfl,fun _ h=>h,fun _ _=>rfl,fun _ _=>rfl,fun _ h=>h,fun x hx=>b.block x (r.pS x hx)⟩;refine⟨⟨rfl,fun _ h=>h,fun _ _=>rfl,fun _ _=>rfl,fun _ h=>h,fun _ h=> .inl h,au _,.inr rfl,fun _ h=> .inl h,b.os,b.tape,b.output,b.size,fun x hx _=>b.block x hx,fun id o h _=> ⟨id,o,h,rfl⟩,rfl⟩,r.fresh,r.res,fun id o h=>?_,r.inj,fun x hx=>amp (r.pS x hx) b.size,bI.bX r.iT hk.ro hk.Ba,r.TP rfl b.size (fun _ h=> .inl h) fun id o h _=> ⟨id,o,h,rfl⟩⟩;obtain⟨U,Z,h3⟩:=r.live id o h;exact⟨U,Z.bX hk U (b.block _ (fF r h)) (r.TU rfl (fun x hx _=>b.block x hx) _),h3⟩
def Fe (args:List W) (v:W):List W->St->T (W×St):=fun al5 s=>if ia al5 args then .ret (v,s) else .fail
def GR (args:List W) (v:W) (f:List W->St->T (W×St)):Bool:=
 lF args&&gO v&&(match f args ⟨.nil,Hp.zero,[]⟩ with | .ret (u,_)=>eC u v|_=>false)
theorem Cm [bI] {g:FuncId} {f:List W->St->T (W×St)} (hf:iE P g f) {fn:Func} (tA:P.funcs[g]?=some fn) (j3:(fn.name == "runtime.NumGoroutine")=false) {c:Code} (Y:fn.body=some c)
 {args:List W} {v:W} (h:GR args v f=true):iE P g (Fe args v):=by
 intro al5 s E w vals u s' r hv hp hl;unfold Fe at hl;split at hl
 ·rename_i hs;have:=bC hl;simp only [ak] at this;obtain⟨rfl,rfl⟩:=this;rw [fD _ _ hs] at hv;unfold GR at h;simp only [an] at h;obtain⟨⟨U,Z⟩,h3⟩:=h;split at h3
  ·rename_i u' s1 kZ;have hu:=jt _ _ h3;subst hu;have hc:=zw hf tA j3 Y (ρ:=E.ρ) (ro:=E.ro) (w:=w) r.pS r.iT (lR args vals U hv) (v:=u') (s':=s1) (by rw [kZ]; rfl);refine⟨rfl,hp,?_⟩
   have kZ:(callFunc g vals.toArray).run P w= .ok (.enter g vals.toArray) w:=by unfold callFunc;simp [tA,Y,by simpa using j3]
   unfold kV mR;rw [kZ];exact Calls.mono hc fun e w' ⟨x,E',he,hx,_,ng⟩=> ⟨x,he,E,(rU r ng).1,(rU r ng).2,wb u' x Z hx⟩
  grind
 ·simp [T.leaf] at hl
def orElse (f g:List W->St->T (W×St)):List W->St->T (W×St):=fun al5 s=>match f al5 s with | .fail=>g al5 s|x=>x
theorem mZ [bI] {id:FuncId} {f g:List W->St->T (W×St)} (hf:iE P id f) (hg:iE P id g):iE P id (orElse f g):=by
 intro al5 s E w vals u s' r hv hp hl;unfold orElse at hl;split at hl
 ·exact hg al5 s E w vals u s' r hv hp hl
 ·exact hf al5 s E w vals u s' r hv hp hl
end
end
end Go.As
end
section
namespace Go.As
noncomputable section
open Go.RowKit
section
variable {P:Program}
theorem vT {g:FuncId} {fn:Func} {e:Array Value->Sem Value} (hf:P.funcs[g]?=some fn) (j3:(fn.name == "runtime.NumGoroutine")=false) (Y:fn.body.isNone=true) (hn:Extern.findNext fn=none) (he:Extern.find fn=some e)
 {args:Array Value} {w:World} {u:Value} (hr:(e args).run P w= .ok u w):(callFunc g args).run P w= .ok (.value u) w:=by
 have Li:fn.body=none:=by simpa using Y
 unfold callFunc;simp [hf,Li,by simpa using j3,hn,he,hr]
def EG (c:Nat):List Nat->Nat
 |[]=>0
 |x::xs=>if x.beq c then EG c xs+1 else EG c xs
def Av:List W->St->T (W×St):=fun args s=>match args with
 |[.str b,.int .u8 (.lit (.ofNat c))]=>if c<256 then .ret (.int .i64 (.lit (Int.ofNat (EG c b))),s) else .fail
 |_=> .fail
theorem HK {a b:Nat} (ha:a<256) (Y:b<256):(UInt8.ofNat a == UInt8.ofNat b)=a.beq b:=by
 rw [amg];simp only [beq_iff_eq,Nat.beq_eq];constructor
 ·intro h;have:=congrArg UInt8.toNat h;simp only [amu] at this;omega
 grind
theorem Hn {c:Nat} (hc:c<256): ∀{s:List Nat},(∀b∈s,b<256)->Lib.countByte (s.map UInt8.ofNat) (UInt8.ofNat c)=EG c s
 |[],_=>rfl
 |x::xs,h=>by
  have ih:=Hn hc (s:=xs) fun b Y=>h b (by simp [Y]);unfold Lib.countByte at *;rw [ax,List.count_cons,ih,HK (h x ad) hc];simp only [EG]
  grind
theorem Z7 [bI] {g:FuncId} {fn:Func} (hf:P.funcs[g]?=some fn) (j3:(fn.name == "runtime.NumGoroutine")=false) (Y:fn.body.isNone=true) (hn:Extern.findNext fn=none) (he:Extern.find fn=some Extern.BytealgCount.count):iE P g Av:=by
 intro al5 s E w vals u s' r hv hp hl;unfold Av at hl;split at hl
 ·rename_i b c;split at hl
  ·rename_i hc;have:=bC hl;simp only [ak] at this;obtain⟨rfl,rfl⟩:=this;simp only [cB,VR,V.den] at hv;obtain⟨u1,r1,rfl,⟨rfl,My⟩,u2,r2,rfl,rfl,rfl⟩:=hv;refine⟨rfl,hp,?_⟩;unfold kV mR;rw [vT hf j3 Y hn he (Lib.run_countString (de b) (Int.ofNat c) w)];refine⟨E,eM.refl _ _ _,r,?_⟩;simp only [VR,V.den];have:(Int.ofNat c).toNat.toUInt8=UInt8.ofNat c:=rfl;rw [this];have Z:(de b).data.toList=b.map UInt8.ofNat:=by simp [de]
   rw [Z,Hn hc My];rfl
  ·simp [T.leaf] at hl
 ·simp [T.leaf] at hl
def DF (c:Nat):List Nat->Int
 |[]=> -1
 |x::xs=>if x.beq c then 0 else match DF c xs with
  | .ofNat n=> .ofNat (n+1)
  | .negSucc n=> .negSucc n
def Au:List W->St->T (W×St):=fun args s=>match args with
 |[.str b,.int .u8 (.lit (.ofNat c))]=>if c<256 then .ret (.int .i64 (.lit (DF c b)),s) else .fail
 |_=> .fail
theorem GH {c:Nat} (hc:c<256): ∀{s:List Nat},(∀b∈s,b<256)->Lib.indexByte (s.map UInt8.ofNat) (UInt8.ofNat c)=DF c s
 |[],_=>rfl
 |x::xs,h=>by
  have ih:=GH hc (s:=xs) fun b Y=>h b (by simp [Y]);have N8:=Lib.indexByte_ge (xs.map UInt8.ofNat) (UInt8.ofNat c);simp only [ax,Lib.indexByte,DF];rw [HK (h x ad) hc];cases x.beq c
  ·simp only [aL,if_false];rw [ih] at N8 ⊢
   cases hi:DF c xs with
   |ofNat n=>rw [hi] at N8; simp
   |negSucc n=>
    grind
  ·rfl
theorem XU [bI] {g:FuncId} {fn:Func} (hf:P.funcs[g]?=some fn) (j3:(fn.name == "runtime.NumGoroutine")=false) (Y:fn.body.isNone=true) (hn:Extern.findNext fn=none) (he:Extern.find fn=some Extern.BytealgIndexByte.indexByte):iE P g Au:=by
 intro al5 s E w vals u s' r hv hp hl;unfold Au at hl;split at hl
 ·rename_i b c;split at hl
  ·rename_i hc;have:=bC hl;simp only [ak] at this;obtain⟨rfl,rfl⟩:=this;simp only [cB,VR,V.den] at hv;obtain⟨u1,r1,rfl,⟨rfl,My⟩,u2,r2,rfl,rfl,rfl⟩:=hv;refine⟨rfl,hp,?_⟩;unfold kV mR;rw [vT hf j3 Y hn he (Lib.run_indexByteString (de b) (Int.ofNat c) w)];refine⟨E,eM.refl _ _ _,r,?_⟩;simp only [VR,V.den];have:(Int.ofNat c).toNat.toUInt8=UInt8.ofNat c:=rfl;rw [this];have Z:(de b).data.toList=b.map UInt8.ofNat:=by simp [de]
   rw [Z,GH hc My]
  ·simp [T.leaf] at hl
 ·simp [T.leaf] at hl
def Kv:List Nat->List Nat->Bool
 |[],_=>true
 |_::_,[]=>false
 |a::x,b::y=>if a.beq b then Kv x y else false
def xU (c:List Nat):List Nat->Bool
 |[]=>Kv c []
 |b::bs=>if Kv c (b::bs) then true else xU c bs
def sJ:List W->St->T (W×St):=fun args s=>match args with
 |[.str b,.str c]=>if b.length<4294967281 then .ret (.bool (.lit (xU c b)),s) else .fail
 |_=> .fail
theorem PX: ∀{c s:List Nat},(∀b∈c,b<256)->(∀b∈s,b<256)->(c.map UInt8.ofNat).isPrefixOf (s.map UInt8.ofNat)=Kv c s
 |[],_,_,_=>by simp [Kv]
 |_::_,[],_,_=>by simp [Kv]
 |a::x,b::y,hc,hs=>by
  have ih:=PX (c:=x) (s:=y) (fun z hz=>hc z (by simp [hz])) (fun z hz=>hs z (by simp [hz]));simp only [ax,List.isPrefixOf,Kv];rw [HK (hc a ad) (hs b ad),ih]
  grind
theorem index_ge (sub:List UInt8): ∀l:List UInt8,-1<=Lib.index l sub
 |[]=>by unfold Lib.index; split<;>omega
 |b::l=>by
  have ih:=index_ge sub l;unfold Lib.index
  grind
theorem CJ {c:List Nat} (hc: ∀b∈c,b<256): ∀{s:List Nat},(∀b∈s,b<256)->Lib.contains (s.map UInt8.ofNat) (c.map UInt8.ofNat)=xU c s
 |[],_=>by cases c<;>simp [Lib.contains,Lib.index,xU,Kv]
 |b::bs,h=>by
  have ih:=CJ hc (s:=bs) fun z hz=>h z (by simp [hz]);have hp:=PX hc h;simp only [ax] at hp;unfold Lib.contains at *;simp only [ax,Lib.index,xU]
  grind
theorem LV [bI] {g:FuncId} (hg: ∀(ρ:Nat->Int) (ro:Nat->Prop) (w:World),bI.ok ρ ro w.heap->∀s sub:ByteArray,s.size<4294967281->Calls P g #[.string s,.string sub] w fun e w'=>e= .returned (.bool (Lib.contains s.data.toList sub.data.toList))/\w'=w)
 (kZ: ∀(args:Array Value) (w:World),(callFunc g args).run P w= .ok (.enter g args) w):iE P g sJ:=by
 intro al5 s E w vals u s' r hv hp hl;unfold sJ at hl;split at hl
 ·rename_i b c;split at hl
  ·rename_i hlen;have:=bC hl;simp only [ak] at this;obtain⟨rfl,rfl⟩:=this;simp only [cB,VR] at hv;obtain⟨u1,r1,rfl,⟨rfl,My⟩,u2,r2,rfl,⟨rfl,UI⟩,rfl⟩:=hv;refine⟨rfl,hp,?_⟩;unfold kV mR;rw [kZ];refine Calls.mono (hg E.ρ E.ro w r.iT (de b) (de c) (by simpa [de,ByteArray.size] using hlen)) fun e w' ⟨he,hw⟩=>?_;subst hw;refine⟨_,he,E,eM.refl _ _ _,r,?_⟩;simp only [VR,SB.den];have Z: ∀l:List Nat,(de l).data.toList=l.map UInt8.ofNat:=by intro l; simp [de]
   rw [Z,Z,CJ UI My]
  ·simp [T.leaf] at hl
 ·simp [T.leaf] at hl
end
end
end Go.As
end
section
namespace Go.As
noncomputable section
structure BU where
 m:Nat
 k:Kind
 st:Nat
 rd:List Nat
structure Mn where
 is:List BU
 nE:Nat
 rs:List (Nat×List Nat)
def NT:Kind->Kind->Bool
 | .pa,.pa=>true
 | .e,.e=>true
 | .r,.r=>true
 |_,_=>false
def xm:List Nat->List Nat->Bool
 |[],[]=>true
 |a::x,b::y=>Nat.beq a b&&xm x y
 |_,_=>false
def z7:List Item->List BU->Bool
 |[],[]=>true
 |x::xs,d::ds=>Nat.beq x.m d.m&&NT x.k d.k&&Nat.beq x.st d.st&&xm x.rd d.rd&&z7 xs ds
 |_,_=>false
def zX:List (Item×List Nat)->List (Nat×List Nat)->Bool
 |[],[]=>true
 |(x,ks)::xs,(i,js)::ys=>Nat.beq x.i i&&xm ks js&&zX xs ys
 |_,_=>false
def zL:Nat->List Oper->List BU->List Item
 |i,o::os,d::ds=> ⟨i,o,d.m,d.k,d.st,d.rd⟩ ::zL (i+1) os ds
 |_,_,_=>[]
def Ta (is:List Item):List (Nat×List Nat)->List (Item×List Nat)
 |[]=>[]
 |(i,ks)::r=>match eS is i with
  |some x=>(x,ks)::Ta is r
  |none=>Ta is r
def statOf (all:List Oper) (H:Mn):Stat:=⟨zL 0 all H.is,H.nE,Ta (zL 0 all H.is) H.rs⟩
def uK (tt:TT) (all:List Oper) (H:Mn):Bool:=match stat tt all with
 |none=>false
 |some q=>z7 q.is H.is&&Nat.beq q.nE H.nE&&zX q.rs H.rs
theorem TD {a b:Kind} (h:NT a b=true):a=b:=by cases a<;>cases b<;>simp [NT] at h<;>rfl
theorem Ah: ∀{a b:List Nat},xm a b=true->a=b
 |[],[],_=>rfl
 |[],_::_,h=>by simp [xm] at h
 |_::_,[],h=>by simp [xm] at h
 |a::x,b::y,h=>by simp only [xm,an] at h;rw [aq h.1,Ah h.2]
theorem GC {tt:TT} {all:List Oper} {ms:List Nat}: ∀{os:List Oper} {i n:Nat} {ds:List BU},z7 (items tt all ms os i n) ds=true->items tt all ms os i n=zL i os ds
 |[],i,n,ds,h=>by cases ds<;>simp [items,z7,zL] at *
 |o::os,i,n,ds,h=>by
  cases ds with
  |nil=>simp [items,z7] at h
  |cons d ds=> simp only [items,z7,an] at h;obtain⟨⟨⟨⟨U,Z⟩,h3⟩,h4⟩,h5⟩:=h;have ih:=GC h5;simp only [items,zL];rw [ih,aq U,TD Z,aq h3,Ah h4]
theorem PV {is:List Item}: ∀{xs:List (Item×List Nat)} {ys:List (Nat×List Nat)},(∀p∈xs,eS is p.1.i=some p.1)->zX xs ys=true->Ta is ys=xs
 |[],[],_,_=>rfl
 |[],_::_,_,h=>by simp [zX] at h
 |_::_,[],_,h=>by simp [zX] at h
 |(x,ks)::xs,(i,js)::ys,hm,h=>by simp only [zX,an] at h;have U:=hm (x,ks) ad;simp only [Ta];rw [<- aq h.1.1,U,<- Ah h.1.2,PV (fun p hp=>hm p (by simp [hp])) h.2]
theorem JZ: ∀{i:Nat} {os:List Oper} {ds:List BU} {x:Item},x∈zL i os ds->i<=x.i/\eS (zL i os ds) (x.i-i)=some x
 |_,[],_,_,h=>by simp [zL] at h
 |_,_::_,[],_,h=>by simp [zL] at h
 |i,o::os,d::ds,x,h=>by
  simp only [zL,aw] at h ⊢;rcases h with rfl|h
  ·simp [eS]
  ·obtain⟨U,Z⟩:=JZ h;refine⟨J,?_⟩;have:x.i-i=(x.i-(i+1))+1:=J
   rw [this];exact Z
theorem Ay {tt:TT} {all:List Oper} {H:Mn} (h:uK tt all H=true):stat tt all=some (statOf all H):=by
 unfold uK at h;split at h
 ·grind
 ·rename_i q hq;rw [hq];simp only [an] at h;obtain⟨⟨U,Z⟩,h3⟩:=h;have hq':=hq;unfold stat at hq';simp only at hq';split at hq'
  ·simp only [ag] at hq';subst hq';have e1:=GC U;simp only at Z h3
   have e3:Ta (zL 0 all H.is) H.rs=_:=PV (is:=zL 0 all H.is) (by
    intro p hp;simp only [aT,amA] at hp;obtain⟨x,⟨hx,_⟩,rfl⟩:=hp;rw [e1] at hx;have:=(JZ hx).2
    simpa using this) h3
   unfold statOf;rw [e3,<- aq Z,<- e1]
  grind
end
end Go.As
end
section
namespace Go.As
noncomputable section
def wK (pos:Nat->Nat) (o:Oper):Oper:={ o with after:=o.after.map (fun e=>{ e with on:=pos e.on }),guard:=match o.guard with |none=>none|some (j,b)=>some (pos j,b) }
def posOf:List Nat->Nat->Nat
 |[],_=>0
 |x::xs,i=>match Nat.beq x i with
  |true=>0
  |false=>posOf xs i+1
def Bg (pos:Nat->Nat) (all:List Oper):List Nat->List Oper
 |[]=>[]
 |i::is=>match eS all i with
  |some o=>wK pos o::Bg pos all is
  |none=>[]
def fQ (ord:List Nat) (all:List Oper):List Oper:=Bg (posOf ord) all ord
def Ie (ord:List Nat) (n:Nat):Bool:=
 Nat.beq ord.length n&&(List.range n).all (fun i=>match eS ord (posOf ord i) with |some j=>Nat.beq i j|none=>false)&&
 (List.range n).all (fun j=>match eS ord j with |some i=>Nat.blt i n&&Nat.beq (posOf ord i) j|none=>false)
theorem Kw: ∀(ord:List Nat) (i:Nat),posOf ord i<=ord.length
 |[],_=>au _
 |x::xs,i=>by
  simp only [posOf,aK];split
  ·omega
  ·have:=Kw xs i; omega
theorem F3: ∀(ord:List Nat) (i:Nat),posOf ord i<ord.length->ord[posOf ord i]?=some i
 |[],_,h=>by simp [posOf] at h
 |x::xs,i,h=>by
  simp only [posOf,aK] at h ⊢;split
  ·rename_i he;simp_all
  ·rename_i he;rw [he] at h;simp only at h;simpa using F3 xs i J
structure Perm (n:Nat) (ord:List Nat):Prop where
 len:ord.length=n
 at': ∀i,i<n->ord[posOf ord i]?=some i
 back: ∀j,j<n->∃i,ord[j]?=some i/\i<n/\posOf ord i=j
theorem To {ord:List Nat} {n:Nat} (h:Ie ord n=true):Perm n ord:=by
 unfold Ie at h;simp only [an,aR,ami] at h;obtain⟨⟨U,Z⟩,h3⟩:=h;refine⟨aq U,fun i hi=>?_,fun j hj=>?_⟩
 ·have:=Z i hi;split at this
  all_goals simp_all [di]
 simp_all [di]
theorem Perm.lt {n:Nat} {ord:List Nat} (p:Perm n ord) {i:Nat} (hi:i<n):posOf ord i<n:=by
 have:=p.at' i hi;rw [<- p.len]
 grind
theorem Perm.ge {n:Nat} {ord:List Nat} (p:Perm n ord) {i:Nat} (hi: ¬i<n):posOf ord i=n:=by
 have U:=Kw ord i;rw [p.len] at U;rcases aQ (posOf ord i) n with h|h
 ·have Z:=F3 ord i (by rw [p.len]; exact h);obtain⟨k,h3,h4,_⟩:=p.back _ h
  grind
 ·omega
theorem Perm.inj {n:Nat} {ord:List Nat} (p:Perm n ord) {i j:Nat} (hi:i<n) (hj:j<n) (h:posOf ord i=posOf ord j):i=j:=by
 have U:=p.at' i hi;have Z:=p.at' j hj
 grind
theorem F5 {pos:Nat->Nat} {all:List Oper}: ∀{is:List Nat},(∀i∈is,i<all.length)->∀j:Nat,(Bg pos all is)[j]?=(is[j]?).bind fun i=>(all[i]?).map (wK pos)
 |[],_,j=>by simp [Bg]
 |i::is,h,j=>by
  have hi:=h i ad;have ih:=F5 (pos:=pos) (is:=is) fun k hk=>h k (by simp [hk])
  grind [Bg,di]
section
variable {P:Program}
theorem nH {ord:List Nat} {ops:Array Oper} (p:Perm ops.size ord) {i:Nat} (hi:i<ops.size):(fQ ord ops.toList)[posOf ord i]?=(ops[i]?).map (wK (posOf ord)):=by
 unfold fQ
 rw [F5 (by
  intro k hk;obtain⟨j,hj,rfl⟩:=amS hk;obtain⟨i',U,Z,_⟩:=p.back j (by rw [<- p.len]; exact hj);rw [aM hj] at U;simp only [ag] at U;rw [U]
  simpa using Z),p.at' i hi]
 simp
theorem ur {ord:List Nat} {ops:Array Oper} (p:Perm ops.size ord):(fQ ord ops.toList).length=ops.size:=by
 have h0: ∀j,j<ops.size->(fQ ord ops.toList)[j]?.isSome=true:=by
  intro j hj;obtain⟨i,_,Z,h3⟩:=p.back j hj
  grind [nH]
 have hle:(fQ ord ops.toList).length<=ops.size:=by
  have: ∀(is:List Nat),(Bg (posOf ord) ops.toList is).length<=is.length:=by
   intro is
   induction is with
   |nil=>simp [Bg]
   |cons i is ih=>simp only [Bg]; split<;>simp; omega
  have:=this ord;rw [p.len] at this;exact this
 rcases aQ (fQ ord ops.toList).length ops.size with h|h
 all_goals grind
theorem W2 (pos:Nat->Nat) (o:Oper) (a:Act) (w:World) (K:Act->World->Prop) (Q:Exit->Act->World->Prop):(wK pos o).wp P a w K Q=o.wp P a w K Q:=rfl
theorem Nv (pos:Nat->Nat) (o:Oper) (a:Act) (w:World):(wK pos o).asks P a w=o.asks P a w:=rfl
theorem HG {ord:List Nat} {ops:Array Oper} (p:Perm ops.size ord) (tmps:Array Value) (j:Nat):yielded (fQ ord ops.toList).toArray tmps (posOf ord j)=yielded ops tmps j:=by
 unfold yielded
 have:((fQ ord ops.toList).toArray[posOf ord j]?).bind (·.dst)=(ops[j]?).bind (·.dst):=by
  rw [anP];rcases aQ j ops.size with h|h
  ·rw [nH p h];cases ops[j]?<;>rfl
  ·rw [p.ge J,am6 (by rw [ur p]; exact au _),anQ h]
 grind
theorem J6 {ord:List Nat} {ops:Array Oper} (p:Perm ops.size ord) (tmps:Array Value) (o:Oper) :
 Region.wanted (wK (posOf ord) o) (yielded (fQ ord ops.toList).toArray tmps)=Region.wanted o (yielded ops tmps):=by
 unfold Region.wanted wK
 cases hg:o.guard with
 |none=>rfl
 |some g=> obtain⟨j,b⟩:=g;simp only;rw [HG p]
theorem jv {md:Region.Mode} {ops:Array Oper} {listed:Array Bool} {i:Nat}:i∈Region.ready md ops listed↔∃o,ops[i]?=some o/\listed.getD i true=false/\∀e∈o.after.toList,Region.binds md e=true->listed.getD e.on false=true:=by
 unfold Region.ready;simp only [amA,ami,an,amk];constructor
 ·rintro⟨U,Z,h3⟩;have e:=an5 U;refine⟨_,e,Z,?_⟩;rw [e] at h3;simp only [bw,az,Array.all_eq_true_iff_forall_mem] at h3;intro x hx Y
  grind
 grind
theorem xg {md:Region.Mode} {ord:List Nat} {ops:Array Oper} (p:Perm ops.size ord) {listed ic:Array Bool} (hz:listed.size=ops.size) (Fg:ic.size=ops.size) (hl: ∀i,i<ops.size->ic[posOf ord i]?=listed[i]?) {i:Nat} (hi:i<ops.size) :
 posOf ord i∈Region.ready md (fQ ord ops.toList).toArray ic↔i∈Region.ready md ops listed:=by
 have hg: ∀(k:Nat) (d:Bool),ic.getD (posOf ord k) d=listed.getD k d:=by
  intro k d;simp only [amH];rcases aQ k ops.size with h|h
  ·grind
  ·rw [p.ge J,anQ J,anQ J]
 rw [jv,jv,anP,nH p hi,hg];constructor
 ·rintro⟨o,U,Z,h3⟩;rw [aO] at U;obtain⟨o0,h0,rfl⟩:=U;refine⟨o0,h0,Z,fun e he Y=>?_⟩
  have:=h3 { e with on:=posOf ord e.on } (by
   simp only [wK,anB,aT]
   exact⟨e,he,rfl⟩) Y
  simp_all
 ·rintro⟨o,U,Z,h3⟩;refine⟨wK (posOf ord) o,by rw [U]; rfl,Z,fun e he Y=>?_⟩;simp only [wK,anB,aT] at he;obtain⟨e0,he0,rfl⟩:=he;show ic.getD (posOf ord e0.on) false=true;rw [hg];exact h3 e0 he0 Y
theorem MK {md:Region.Mode} {ord:List Nat} {ops:Array Oper} (p:Perm ops.size ord) {Q:Exit->Act->World->Prop}: ∀(fuel:Nat) (listed ic:Array Bool) (a:Act) (w:World),listed.size=ops.size->ic.size=ops.size->
 (∀i,i<ops.size->ic[posOf ord i]?=listed[i]?)->wpAny P md (fQ ord ops.toList).toArray Q fuel ic a w->wpAny P md ops Q fuel listed a w:=by
 have aia: ∀(listed ic:Array Bool),listed.size=ops.size->ic.size=ops.size->(∀i,i<ops.size->ic[posOf ord i]?=listed[i]?)->
  (Region.ready md (fQ ord ops.toList).toArray ic= []↔Region.ready md ops listed= []):=by
  intro listed ic hz Fg hl;constructor
  ·intro h;rw [anm] at h ⊢;intro i hm
   have hi:i<ops.size:=by
    grind [jv]
   exact h _ ((xg p hz Fg hl hi).2 hm)
  ·intro h;rw [anm] at h ⊢;intro j hm
   have hj:j<ops.size:=by
    grind [jv]
   obtain⟨i,_,Z,h3⟩:=p.back j hj;subst h3;exact h _ ((xg p hz Fg hl Z).1 hm)
 intro fuel
 induction fuel with
 |zero=> intro listed ic a w hz Fg hl h;exact⟨(aia _ _ hz Fg hl).1 h.1,h.2⟩
 |succ fuel ih=>
  intro listed ic a w hz Fg hl h;refine⟨fun h0=>h.1 ((aia _ _ hz Fg hl).2 h0),fun i hm=>?_⟩
  have hi:i<ops.size:=by
   grind [jv]
  have hh:=h.2 _ ((xg p hz Fg hl hi).2 hm)
  have Bq: ∀a w,wpAny P md (fQ ord ops.toList).toArray Q fuel (ic.setIfInBounds (posOf ord i) true) a w->wpAny P md ops Q fuel (listed.setIfInBounds i true) a w:=by
   intro a w hw;refine ih _ _ a w (by simp [hz]) (by simp [Fg]) (fun k hk=>?_) hw;rw [anR,anR];by_cases hik:i=k
   ·grind
   ·rw [af hik,af (fun h=>hik (p.inj hi hk h)),hl k hk]
  have Z:=wpOp_mono Bq hh;unfold wpOp at Z ⊢;rw [anP,nH p hi] at Z
  cases ho:ops[i]? with
  |none=>rw [ho] at Z; exact Z
  |some o=> rw [ho] at Z;simp only [bw] at Z ⊢;rw [J6 p,W2,Nv] at Z;exact Z
structure n? where
 ord:List Nat
 h:Mn
def ZV (tt:TT) (H:Nat->Nat->Option n?) (call:eh) (g id:Nat) (all:List Oper) (s:St):T St:=match H g id with
 |some p=>match p.ord with
  |[]=>Ev tt call all (statOf all p.h) s
  |o::os=>match fQ (o::os) all with
   |tm=>Ev tt call tm (statOf tm p.h) s
 |none=> .fail
def afN (tt:TT) (H:Nat->Nat->Option n?) (g id:Nat) (all:List Oper):Bool:=match H g id with
 |some p=>match p.ord with
  |[]=>uK tt all p.h
  |o::os=>Ie (o::os) all.length&&uK tt (fQ (o::os) all) p.h
 |none=>true
theorem ZU [bI] {tt:TT} (cJ:ep P tt) (hm:P.follows .mixedOrders=true) {H:Nat->Nat->Option n?} {call:eh} (hc:gY P call) (g:Nat):vq P (afN tt H g) (ZV tt H call g):=by
 intro id ops hk E s s' a w Q hd fit h hq;unfold afN at hk;unfold ZV at h;split at hk
 ·rename_i p hp;rw [hp] at h;simp only at h;split at hk
  ·rename_i he;rw [he] at h;have:=Ay hk;refine aaz cJ hm hc id ops E s s' a w Q hd fit ?_ hq
   grind [draw]
  ·rename_i o os he;rw [he] at h;simp only at h;simp only [an] at hk;have hp:=To hk.1;have hp:Perm ops.size (o::os):=by simpa using hp
   have:=Ay hk.2;refine wp_region_any hm ?_
   have DP: ∀x∈((fQ (o::os) ops.toList).toArray).toList,∀d,x.dst=some d->d<a.tmps.size:=by
    intro x hx d hxd;obtain⟨j,hj,rfl⟩:=amS hx;have Ye:j<ops.size:=by rw [<- ur hp]; exact hj
    obtain⟨i,_,Z,h3⟩:=hp.back j Ye;have hg:=nH hp Z;rw [h3] at hg
    have hx2:(fQ (o::os) ops.toList)[j]?=some ((fQ (o::os) ops.toList).toArray.toList[j]):=by
     grind
    rw [hx2] at hg;rw [an5 Z] at hg;simp only [bw,ag] at hg;rw [hg] at hxd;exact hd (ops[i]) ad d hxd
   have key:=Eu (ops:=(fQ (o::os) ops.toList).toArray) cJ hc DP fit (by
    unfold draw;rw [this]
    exact h) hq
   have gX:(fQ (o::os) ops.toList).toArray.size=ops.size:=by simpa using ur hp
   rw [gX] at key;refine MK hp _ _ _ _ _ ad ad (fun i hi=>?_) key;rw [amT,amT,ah hi,ah (hp.lt hi)]
 grind [T.leaf]
end
end
end Go.As
end
section
namespace Go.As
noncomputable section
def F7 (h:Hp):List Nat->Tr dG->Tr dG
 |[],t=>t
 |i::is,t=>match h.get i with
  |some o=>F7 h is (t.put i (some o))
  |none=>F7 h is t
theorem Ac {h:Hp}: ∀(is:List Nat) (t:Tr dG),(∀id o,t.get id=some o->h.get id=some o)->∀id o,(F7 h is t).get id=some o->h.get id=some o
 |[],_,ht,id,o,hg=>ht id o hg
 |i::is,t,ht,id,o,hg=>by
  simp only [F7] at hg;split at hg
  ·rename_i x hx;refine Ac is _ (fun j y hy=>?_) id o hg
   grind [Tr.bR]
  ·exact Ac is t ht id o hg
def zZ:List (V×List W)->List (V×List W)->Bool
 |[],[]=>true
 |(i,a)::x,(j,b)::y=>eQ i j&&ia a b&&zZ x y
 |_,_=>false
theorem FU: ∀{a b:List (V×List W)},zZ a b=true->a=b
 |[],[],_=>rfl
 |[],_::_,h=>by simp [zZ] at h
 |_::_,[],h=>by simp [zZ] at h
 |(i,a)::x,(j,b)::y,h=>by simp only [zZ,an] at h;rw [cO _ _ h.1.1,fD _ _ h.1.2,FU h.2]
def H5:dG->dG->Bool
 | .cells a e,.cells b f=>ia a b&&Nat.beq e f
 | .vec a t e x,.vec b u f y=>eQ a b&&Nat.beq t u&&Nat.beq e f&&zZ x y
 |_,_=>false
theorem Ns {a b:dG} (h:H5 a b=true):a=b:=by
 cases a<;>cases b<;>simp only [H5,aL,an] at h
 ·rw [fD _ _ h.1,aq h.2]
 ·rw [cO _ _ h.1.1.1,aq h.1.1.2,aq h.1.2,FU h.2]
def A8 {α:Type} (f:α->α->Bool):Tr α->Tr α->Bool
 | .nil,.nil=>true
 | .node v l r,.node u x y=>(match v,u with |some a,some b=>f a b|none,none=>true|_,_=>false)&&A8 f l x&&A8 f r y
 |_,_=>false
theorem yi {α:Type} {f:α->α->Bool} (hf: ∀a b,f a b=true->a=b): ∀(a b:Tr α),A8 f a b=true->a=b
 | .nil,b,h=>by cases b<;>simp [A8] at h; rfl
 | .node v l r,b,h=>by
   cases b with
   |nil=>simp [A8] at h
   |node u x y=>
    simp only [A8,an] at h;rw [yi hf l x h.1.2,yi hf r y h.2]
    grind
def inL (i:Nat):List Nat->Bool
 |[]=>false
 |j::l=>match Nat.beq i j with
  |true=>true
  |false=>inL i l
theorem IF {i:Nat}: ∀{l:List Nat},inL i l=true↔i∈l
 |[]=>by simp [inL]
 |j::l=>by
  simp only [inL,aw];split
  ·rename_i h; simp [aq h]
  ·rename_i h; rw [IF]; simp [amY h]
def r8 (i:Nat):List Nat->List Nat
 |[]=>[]
 |j::l=>match Nat.beq i j with
  |true=>r8 i l
  |false=>j::r8 i l
theorem pW {i k:Nat}: ∀{l:List Nat},k∈r8 i l↔k∈l/\k≠i
 |[]=>by simp [r8]
 |j::l=>by
  simp only [r8];split
  ·rename_i h;have:=aq h;subst this;rw [pW]
   grind
  ·rename_i h;have:=amY h;simp only [aw];rw [pW]
   grind
def Gq (all:List Oper) (rem:List Nat) (i:Nat):Bool:=match eS all i with
 |some o=>o.after.toList.all fun e=>!Region.binds .any e||(!inL e.on rem&&Nat.blt e.on all.length)
 |none=>false
def L9 (tt:TT) (call:eh) (all:List Oper) (pc:List (SB×Bool)) (tS:Tr W) (tH:Hp):Nat->List Nat->Tr W->Hp->Bool
 |0,rem,S,H=>match rem with
  |[]=>A8 eC S tS&&A8 H5 H.m tH.m&&Nat.beq H.next tH.next&&(match H.res with |none=>true|_=>false)
  |_=>false
 |n+1,rem,S,H=>match rem with
  |[]=>false
  |_=>rem.any (Gq all rem)&&rem.all fun i=>match Gq all rem i with
   |false=>true
   |true=>match eS all i with
    |some o=>match u? tt call all o ⟨S,H,pc⟩ with
     | .ret (v,s')=>L9 tt call all pc tS tH n (r8 i rem) (ub S o.dst v) s'.h
     |_=>false
    |none=>false
section
variable {P:Program}
theorem WE {E:En} {h:Array Obj} {S:Tr W} {a:Act} (sr:SR E h S a) {d:Option Nat} {v:W} {u:Value} (hd: ∀t,d=some t->t<a.tmps.size) (hv:VR E h v u):SR E h (ub S d v) (a.put d u):=by
 cases d with
 |none=>exact sr
 |some t=>exact sr.put (hd t rfl) hv
theorem h_ [bI] {tt:TT} (cJ:ep P tt) {call:eh} (hc:gY P call) {ops:Array Oper} {ρ:Nat->Int} {pc:List (SB×Bool)} (hpc:bW ρ pc) {tS:Tr W} {tH:Hp} (htr:tH.res=none) {Q:Exit->Act->World->Prop} {m:Nat} (hd: ∀o∈ops.toList,∀d,o.dst=some d->d<m) :
 ∀(n:Nat) (rem:List Nat) (S:Tr W) (H:Hp) (E:En) (a:Act) (w:World) (listed:Array Bool),L9 tt call ops.toList pc tS tH n rem S H=true->E.ρ=ρ->bP E H w->SR E w.heap S a->a.tmps.size=m->listed.size=ops.size->
  (∀i,i<ops.size->(listed[i]?=some true↔i∉rem))->(∀i∈rem,i<ops.size)->
  (∀(a':Act) (w':World) (E':En),eM E H w E' tH w'->bP E' tH w'->SR E' w'.heap tS a'->a'.tmps.size=m->a'.defers=a.defers->Q .normal a' w')->wpAny P .any ops Q n listed a w:=by
 intro n;have mE: ∀(i:Nat),eS ops.toList i=ops[i]?:=fun i=>by rw [di,br]
 have W3: ∀(rem:List Nat) (listed:Array Bool),listed.size=ops.size->(∀i,i<ops.size->(listed[i]?=some true↔i∉rem))->∀i,i∈Region.ready .any ops listed->i∈rem/\Gq ops.toList rem i=true/\i<ops.size:=by
  intro rem listed gX hl i hi;obtain⟨o,ho,U,Z⟩:=jv.1 hi;have xS:i<ops.size:=(amc.1 ho).1
  have hf:listed[i]?=some false:=by simp_all
  refine⟨?_,?_,xS⟩
  ·grind
  ·unfold Gq;rw [mE,ho];simp only [aR];intro e he
   cases Y:Region.binds .any e with
   |false=>rfl
   |true=>
    have:=Z e he Y
    have fe:e.on<ops.size:=by
     grind
    simp only [am4,am5,an,amk];refine⟨?_,by simpa [amU] using fe⟩
    cases akW:inL e.on rem with
    |false=>rfl
    |true=> exfalso;have hm:=IF.1 akW;simp_all
 have aej: ∀(rem:List Nat) (listed:Array Bool),listed.size=ops.size->(∀i,i<ops.size->(listed[i]?=some true↔i∉rem))->(∀i∈rem,i<ops.size)->rem.any (Gq ops.toList rem)=true->Region.ready .any ops listed≠[]:=by
  intro rem listed gX hl hr aiT nJ;rw [anS] at aiT;obtain⟨i,hi,hm⟩:=aiT;have xS:=hr i hi
  have:i∈Region.ready .any ops listed:=by
   rw [jv];unfold Gq at hm;rw [mE] at hm;split at hm
   ·rename_i o ho;refine⟨o,ho,?_,fun e he Y=>?_⟩
    ·have e1:listed[i]?=some (listed[i]'J):=by simp [gX,xS]
     simp only [amH,e1,az]
     grind
    ·rw [aR] at hm;have:=hm e he;rw [Y] at this;simp only [am4,am5,an,amk] at this;obtain⟨this,fe⟩:=this;have fe:e.on<ops.size:=by simpa [amU] using fe
     have aiD:e.on∉rem:=fun h=>by rw [IF.2 h] at this; simp at this
     simp_all
   grind
  grind
 induction n with
 |zero=>
  intro rem S H E a w listed h hρ r sr ha gX hl hr hq;simp only [L9] at h;split at h
  ·simp only [an] at h;obtain⟨⟨⟨U,Z⟩,h3⟩,h4⟩:=h;have e1:=yi jt _ _ U;have e2:=yi (fun _ _=>Ns) _ _ Z;have e3:=aq h3
   have e4:H.res=none:=by
    grind
   have eH:H=tH:=by
    obtain⟨m1,n1,r1⟩:=H;obtain⟨m2,n2,r2⟩:=tH
    grind
   subst e1 eH;refine⟨?_,hq a w E (eM.refl _ _ _) r sr ha rfl⟩;rw [anm];intro i hi;have:=(W3 [] listed gX hl i hi).1
   grind
  grind
 |succ n ih=>
  intro rem S H E a w listed h hρ r sr ha gX hl hr hq;simp only [L9] at h;split at h
  ·grind
  ·rename_i fZ;simp only [an] at h;refine⟨fun h0=>absurd h0 (aej rem listed gX hl hr h.1),fun i hi=>?_⟩;obtain⟨g1,g2,g3⟩:=W3 rem listed gX hl i hi;have II:=(aR.1 h.2) i g1;rw [g2] at II;simp only at II;split at II
   ·rename_i o ho;have Aw:ops[i]?=some o:=by rw [<- mE]; exact ho
    split at II
    ·rename_i v s' hev;have alb:=Jl cJ hc (ops:=ops) (o:=o) (s:=⟨S,H,pc⟩) (s':=s') (v:=v) (ρ:=ρ) hpc (by rw [hev]; rfl);refine alb.wpOp hρ r sr Aw fun u E' w' st r' hv=>?_
     have hdo: ∀t,o.dst=some t->t<a.tmps.size:=by intro t ht;rw [ha];exact hd o (Array.mem_toList_iff.2 (anM Aw)) t ht
     have sr':SR E' w'.heap (ub S o.dst v) (a.put o.dst u):=WE (sr.bX (st.keeps r)) hdo hv;refine ih (r8 i rem) _ _ E' (a.put o.dst u) w' (listed.setIfInBounds i true) II (st.ρ.trans hρ) r' sr' (by rw [Df]; exact ha) (by simpa using gX) ?_ ?_ ?_
     ·intro k hk;rw [anR,pW]
      grind
     ·intro k hk;exact hr k (pW.1 hk).1
     ·intro a' w2 E2 tL r2 sr2 hs2 jP;exact hq a' w2 E2 (st.trans tL) r2 sr2 hs2 (by rw [jP,As.put_defers])
    grind
   grind
end
end
end Go.As
end
section
namespace Go.As
noncomputable section
def Em (o:Oper) (j:Nat):Bool:=o.after.toList.any fun e=>Region.binds .any e&&Nat.beq e.on j
def H3 (n1:Nat) (all:List Oper):Bool:=
 Nat.blt 0 n1&&Nat.ble n1 all.length&&
 (List.range all.length).all (fun j=>match eS all j with
  |some o=>match Nat.blt j n1 with
   |true=>(o.after.toList.all fun e=>!Region.binds .any e||Nat.blt e.on j)&&(match o.guard with |some (k,_)=>Nat.blt k n1|none=>true)
   |false=>Em o (n1-1)
  |none=>false)&&
 (match eS all (n1-1) with
  |some o=>(List.range (n1-1)).all fun i=>Em o i
  |none=>false)
structure Pl (n1:Nat) (ops:Array Oper):Prop where
 pos:0<n1
 le:n1<=ops.size
 back: ∀(i:Nat) (o:Oper),i<n1->ops[i]?=some o->∀e∈o.after.toList,Region.binds .any e=true->e.on<i
 guard: ∀(i:Nat) (o:Oper),i<n1->ops[i]?=some o->∀k b,o.guard=some (k,b)->k<n1
 late: ∀(i:Nat) (o:Oper),n1<=i->ops[i]?=some o->∃e∈o.after.toList,Region.binds .any e=true/\e.on=n1-1
 last: ∀(o:Oper),ops[n1-1]?=some o->∀i,i<n1-1->∃e∈o.after.toList,Region.binds .any e=true/\e.on=i
theorem Hj {o:Oper} {j:Nat} (h:Em o j=true): ∃e∈o.after.toList,Region.binds .any e=true/\e.on=j:=by unfold Em at h;rw [anS] at h;simp_all
theorem Nn {n1:Nat} {ops:Array Oper} (h:H3 n1 ops.toList=true):Pl n1 ops:=by
 have mE: ∀(i:Nat),eS ops.toList i=ops[i]?:=fun i=>by rw [di,br]
 unfold H3 at h;simp only [an] at h;obtain⟨⟨⟨U,Z⟩,h3⟩,h4⟩:=h;have U:0<n1:=by simpa [amU] using U
 have Z:n1<=ops.size:=by simpa using amf Z
 rw [aR] at h3
 have h3: ∀(i:Nat) (o:Oper),ops[i]?=some o->(match Nat.blt i n1 with
  |true=>(o.after.toList.all fun e=>!Region.binds .any e||Nat.blt e.on i)&&(match o.guard with |some (k,_)=>Nat.blt k n1|none=>true)
  |false=>Em o (n1-1))=true:=by
  intro i o ho;have hi:i<ops.size:=(amc.1 ho).1;have:=h3 i (ami.2 (by simpa using hi));rw [mE,ho] at this;exact this
 refine⟨U,Z,?_,?_,?_,?_⟩
 ·intro i o hi ho e he Y;have:=h3 i o ho;rw [show Nat.blt i n1=true by simpa [amU] using hi] at this;simp only [an] at this;have:=(aR.1 this.1) e he;simp_all
 ·intro i o hi ho k b hg;have:=h3 i o ho;rw [show Nat.blt i n1=true by simpa [amU] using hi] at this;simp_all
 ·intro i o hi ho;have:=h3 i o ho
  rw [show Nat.blt i n1=false by
   cases Y:Nat.blt i n1 with
   |false=>rfl
   |true=>rw [amU] at Y; omega] at this
  exact Hj this
 ·intro o ho i hi;rw [mE,ho] at h4;exact Hj ((aR.1 h4) i (ami.2 hi))
section
variable {P:Program}
theorem wp_exit {o:Oper} {a:Act} {w:World} {K:Act->World->Prop} {Q1 Q:Exit->Act->World->Prop} (h: ∀e a w,e≠.normal->Q1 e a w->Q e a w) (hh:o.wp P a w K Q1):o.wp P a w K Q:=by
 have hl:LetsOut Q1->LetsOut Q:=fun⟨a,w,U⟩=> ⟨a,w,h _ _ _ ad U⟩;unfold Oper.wp at *;generalize (execOp a.eval o).run P w=r at *
 cases r with
 |ok n w'=>
  cases n<;>simp only [Oper.upon] at hh ⊢<;>
   first
    |exact hh
    |exact Calls.mono hh (fun e w'' he=>by cases e<;>first |exact he|exact h _ _ _ ad he|exact hl he)
 |halt x w'=>cases x<;>simp only [Oper.upon] at hh ⊢<;>first |exact hh|exact h _ _ _ ad hh
theorem KR {l l':Nat->Bool} {i:Nat} (U:l i=false) (Z:l' i=true) (h: ∀j,j≠i->l' j=l j): ∀n,i<n->left l' n+1=left l n
 |0,hi=>by omega
 |n+1,hi=>by
  simp only [left];by_cases xS:i=n
  ·subst xS
   have: ∀m,m<=i->left l' m=left l m:=by
    intro m
    induction m with
    |zero=>intro _; rfl
    |succ m ih=>
     intro hm
     grind [left]
   grind
  ·have:=KR U Z h n J
   grind
theorem KS {l:Nat->Bool}: ∀n,(∀i,i<n->l i=true)->left l n=0
 |0,_=>rfl
 |n+1,h=>by simp only [left];rw [KS n (fun i hi=>h i J),h n J];rfl
def uZ (n1 n:Nat):Array Bool:=(Array.range n).map fun i=>decide (i<n1)
theorem J4 {n1:Nat} {ops:Array Oper} (sf:Pl n1 ops) {Q Q1:Exit->Act->World->Prop} (hq: ∀e a w,e≠.normal->Q1 e a w->Q e a w) (hn: ∀a w,Q1 .normal a w->wpAny P .any ops Q (ops.size-n1) (uZ n1 ops.size) a w) :
 ∀(f:Nat) (l1 l:Array Bool) (a:Act) (w:World),l1.size=n1->l.size=ops.size->(∀i,i<n1->l[i]?=l1[i]?)->(∀i,n1<=i->i<ops.size->l[i]?=some false)->left (fun i=>l1.getD i true) n1=f->(l1[n1-1]?=some true->f=0)->
  wpAny P .any (ops.toList.take n1).toArray Q1 f l1 a w->wpAny P .any ops Q (f+(ops.size-n1)) l a w:=by
 have hR: ∀i,i<n1->(ops.toList.take n1).toArray[i]?=ops[i]?:=by
  intro i hi
  grind
 have hRs:(ops.toList.take n1).toArray.size=n1:=by
  have:=sf.le
  grind
 have pL:LetsOut Q1->LetsOut Q:=fun⟨a,w,U⟩=> ⟨a,w,hq _ _ _ ad U⟩
 have uL: ∀(l:Array Bool) (i:Nat),i<l.size->(l.getD i true=true↔l[i]?=some true)/\(l.getD i false=true↔l[i]?=some true):=by intro l i hi;simp_all
 intro f
 induction f with
 |zero=>
  intro l1 l a w U Z h3 h4 h5 h6 hw;have AA:=Ap n1 h5
  have:l=uZ n1 ops.size:=by
   grind [uZ]
  rw [this,ay];exact hn a w hw.2
 |succ f ih=>
  intro l1 l a w U Z h3 h4 h5 h6 hw;rw [show f+1+(ops.size-n1)=(f+(ops.size-n1))+1 by omega];have hle:=sf.le;have lA:=sf.pos;have ab3:l1[n1-1]?=some true->False:=fun h=>by have:=h6 h; omega
  refine⟨fun nJ=>?_,fun i hi=>?_⟩
  ·exfalso
   have AA: ∀i,i<n1->l[i]?=some true:=by
    intro i
    induction i using Nat.strongRecOn with
    |_ i vO=>
     intro hi;apply Classical.byContradiction;intro GM;have hio:ops[i]?=some (ops[i]'J):=ad
     have:i∈Region.ready .any ops l:=by
      rw [jv];refine⟨_,hio,?_,fun e he Y=>?_⟩
      ·grind
      ·have fe:=sf.back i _ hi hio e he Y
       grind
     grind
   grind
  ·obtain⟨o,ho,g1,g2⟩:=jv.1 hi;have xS:i<ops.size:=(amc.1 ho).1
   have hi1:i<n1:=by
    rcases aQ i n1 with h|h
    ·exact h
    ·exfalso;obtain⟨e,e1,e2,e3⟩:=sf.late i o h ho
     grind
   have Ax:l1.getD i true=false:=by
    grind
   have hed: ∀e∈o.after.toList,Region.binds .any e=true->l1.getD e.on false=true:=by
    intro e he Y
    grind
   have hr1:i∈Region.ready .any (ops.toList.take n1).toArray l1:=by
    rw [jv]
    grind
   have xA:=hw.2 i hr1
   have ab0: ∀a w,wpAny P .any (ops.toList.take n1).toArray Q1 f (l1.setIfInBounds i true) a w->wpAny P .any ops Q (f+(ops.size-n1)) (l.setIfInBounds i true) a w:=by
    intro a w hw2
    have Rp:left (fun j=>(l1.setIfInBounds i true).getD j true) n1=f:=by
     have:=KR (l:=fun j=>l1.getD j true) (l':=fun j=>(l1.setIfInBounds i true).getD j true) (i:=i) Ax (by
      simp only [amH,Array.getElem?_setIfInBounds_self]
      split<;>rfl) (fun j hj=>by
      simp only [amH]
      rw [Array.getElem?_setIfInBounds_ne (fun e=>hj e.symm)]) n1 hi1
     omega
    refine ih _ _ a w (by simpa using U) (by simpa using Z) (fun k hk=>?_) (fun k hk1 Cp=>?_) Rp (fun fe=>?_) hw2
    ·grind
    ·grind
    ·by_cases eu:i=n1-1
     ·rw [<- Rp];refine KS n1 fun k hk=>?_;by_cases Cp:k=i
      ·grind
      ·obtain⟨e,e1,e2,e3⟩:=sf.last o (by rw [<- eu]; exact ho) k J
       grind
     grind
   have xA:=wpOp_mono ab0 xA;unfold wpOp at xA ⊢;rw [hR i hi1,ho] at xA;rw [ho];simp only at xA ⊢
   have ais:Region.wanted o (yielded (ops.toList.take n1).toArray a.tmps)=Region.wanted o (yielded ops a.tmps):=by
    unfold Region.wanted
    cases hg:o.guard with
    |none=>rfl
    |some g=>
     obtain⟨k,b⟩:=g;simp only;have:=sf.guard i o hi1 ho k b hg;unfold yielded
     grind
   rw [ais] at xA;split
   ·rename_i hwt;rw [ah hwt] at xA;rcases xA with h|⟨h,h'⟩
    ·exact .inl (wp_exit hq h)
    grind
   grind
end
end
end Go.As
end
section
namespace Go.As
noncomputable section
def Db (n1 n:Nat):List Nat:=(List.range (n-n1)).map fun k=>k+n1
def ahW:W->List Nat
 | .ptr i _=>[i]
 | .slice i _ _ _=>[i]
 |_=>[]
def aeM (S:Tr W):List Nat->List Nat
 |[]=>[]
 |t::ts=>match S.get t with
  |some v=>ahW v++aeM S ts
  |none=>aeM S ts
def Rf (all:List Oper) (S:Tr W):List Nat->List Nat
 |[]=>[]
 |i::is=>match eS all i with
  |some o=>aeM S (Dn o.op)++Rf all S is
  |none=>Rf all S is
def WK (tt:TT) (call:eh) (all:List Oper) (pc:List (SB×Bool)):List Nat->Tr W->Hp->Option (Tr W×Hp)
 |[],S,H=>some (S,H)
 |i::is,S,H=>match eS all i with
  |some o=>match u? tt call all o ⟨S,H,pc⟩ with
   | .ret (v,s')=>WK tt call all pc is (ub S o.dst v) s'.h
   |_=>none
  |none=>none
def Ju (tt:TT) (call:eh) (all:List Oper) (n1:Nat) (s1:St):T St:=
 match s1.h.res with
 |some _=> .fail
 |none=>match (⟨F7 s1.h (Rf all s1.bD (Db n1 all.length)) .nil,s1.h.next,none⟩ : Hp) with
  |small=>match WK tt call all s1.pc (Db n1 all.length) s1.bD small with
   |some (S,H)=>match H.res with
    |none=>match Nat.beq H.next s1.h.next&&L9 tt call all s1.pc S H (all.length-n1) (Db n1 all.length) s1.bD small with
     |true=> .ret ⟨S,⟨Tr.over H.m (Tr.minus small.m s1.h.m),s1.h.next,none⟩,s1.pc⟩
     |false=> .fail
    |some _=> .fail
   |none=> .fail
structure zF where
 ord:List Nat
 n1:Nat
 h:Mn
def BK (tt:TT) (H:Nat->Nat->Option zF) (call:eh) (g id:Nat) (all:List Oper) (s:St):T St:=match H g id with
 |some p=>match p.n1 with
  |0=>match p.ord with
   |[]=>Ev tt call all (statOf all p.h) s
   |o::os=>match fQ (o::os) all with
    |tm=>Ev tt call tm (statOf tm p.h) s
  |n1=>(Ev tt call (all.take n1) (statOf (all.take n1) p.h) s).bind (Ju tt call all n1)
 |none=> .fail
def JC (tt:TT) (H:Nat->Nat->Option zF) (g id:Nat) (all:List Oper):Bool:=match H g id with
 |some p=>match p.n1 with
  |0=>match p.ord with
   |[]=>uK tt all p.h
   |o::os=>Ie (o::os) all.length&&uK tt (fQ (o::os) all) p.h
  |n1=>H3 n1 all&&uK tt (all.take n1) p.h
 |none=>true
section
variable {P:Program}
theorem Gp {n1 n i:Nat} (h:n1<=n):i∈Db n1 n↔n1<=i/\i<n:=by
 unfold Db;rw [aT];constructor
 ·rintro⟨k,hk,rfl⟩
  grind
 ·rintro⟨U,Z⟩;exact⟨i-n1,ami.2 J,J⟩
theorem TC (n:Nat): ∀m,m<=n->left (fun i=>(Array.replicate n false).getD i true) m=m:=by
 intro m
 induction m with
 |zero=>intro _; rfl
 |succ m ih=>
  intro hm;have fe:m<n:=J
  simp only [left];rw [ih J];simp [fe]
theorem O9 [bI] {tt:TT} (cJ:ep P tt) {call:eh} (hc:gY P call) {ops:Array Oper} {n1:Nat} (sf:Pl n1 ops) {E:En} {s s1 s':St} {a a1:Act} {w w1:World} {Q:Exit->Act->World->Prop}
 (hd: ∀o∈ops.toList,∀d,o.dst=some d->d<a.tmps.size) (ht:mH E s a w s1 a1 w1) (h:(Ju tt call ops.toList n1 s1).leaf E.ρ=some s') (hq: ∀a' w',mH E s a w s' a' w'->Q .normal a' w') :
 wpAny P .any ops Q (ops.size-n1) (uZ n1 ops.size) a1 w1:=by
 obtain⟨d1,z1,E1,C0,f1⟩:=ht;have hlen:ops.toList.length=ops.size:=bh;unfold Ju at h;split at h
 ·simp [T.leaf] at h
 ·rename_i xz;simp only at h;split at h
  ·rename_i S H alV;split at h
   ·rename_i hHr;split at h
    ·rename_i AA;simp only [an] at AA;have hnx:=aq AA.1;have:=bC h;subst this
     have l8: ∀id o,(⟨F7 s1.h (Rf ops.toList s1.bD (Db n1 ops.toList.length)) .nil,s1.h.next,none⟩ : Hp).get id=some o->s1.h.get id=some o:=
      fun id o hg=>Ac _ _ (fun _ _ hh=>by simp [Tr.get] at hh) id o hg
     have rs:=f1.rel.part l8 (au _) ad;have hpc:bW E1.ρ s1.pc:=f1.pc;have Ob:=AA.2;rw [hlen] at Ob;refine h_ cJ hc (ops:=ops) (ρ:=E1.ρ) (pc:=s1.pc) hpc hHr (m:=a.tmps.size) hd (ops.size-n1) (Db n1 ops.size) s1.bD _ E1 a1 w1 (uZ n1 ops.size) Ob rfl (by rw [hlen] at rs; exact rs) f1.sr z1 (by simp [uZ]) ?_ ?_ ?_
     ·intro i hi;rw [Gp sf.le];unfold uZ
      grind
     ·intro i hi;exact ((Gp sf.le).1 hi).2
     ·intro a2 w2 E2 tL r2 sr2 z2 d2;rw [hlen] at l8;obtain⟨Hc,e0,_,_,r3,Kf⟩:=Yx f1.rel l8 tL r2 s1.h.next (fun id hid=>r2.fresh id J)
      have ei:=Kf.Wy (by rw [e0]; exact au _) (by rw [e0]) (fun id tB=>by
       rcases tL.ZW id tB with U|U|U
       ·exact .inl U
       ·have UJ:s1.h.next<=id/\id<H.next:=U;omega
       ·simp at U)
      subst e0;refine hq a2 w2 ⟨d2.trans d1,z2,E2,C0.trans ?_,?_⟩
      ·grind
      ·refine⟨by rw [hlen]; exact r3,sr2,?_⟩;show bW E2.ρ s1.pc;rw [tL.ρ]
       grind
    ·simp [T.leaf] at h
   ·simp [T.leaf] at h
  ·simp [T.leaf] at h
theorem rQ [bI] {tt:TT} (cJ:ep P tt) (hm:P.follows .mixedOrders=true) {H:Nat->Nat->Option zF} {call:eh} (hc:gY P call) (g:Nat):vq P (JC tt H g) (BK tt H call g):=by
 intro id ops hk E s s' a w Q hd fit h hq;unfold JC at hk;unfold BK at h;split at hk
 ·rename_i p hp;rw [hp] at h;simp only at h;split at hk
  ·rename_i hn;rw [hn] at h;simp only at h
   have hP:=ZU (P:=P) cJ hm (H:=fun _ _=>some ⟨p.ord,p.h⟩) hc g id ops (by
    unfold afN
    exact hk) E s s' a w Q hd fit (by
    unfold ZV
    exact h) hq
   exact hP
  ·rename_i n1 hn;split at h
   ·rename_i h0
    grind
   ·rename_i n1' _;simp only [an] at hk;have sf:=Nn hk.1;have Br:=Ay hk.2;obtain⟨s1,U,Z⟩:=T.eX h;refine wp_region_any hm ?_;have hle:=sf.le;have hRs:(ops.toList.take p.n1).toArray.size=p.n1:=by simp; omega
    have xC: ∀o∈(ops.toList.take p.n1).toArray.toList,∀d,o.dst=some d->d<a.tmps.size:=by
     intro o ho
     grind
    have key:=Eu (P:=P) (ops:=(ops.toList.take p.n1).toArray) (Q:=fun e a' w'=>match e with | .normal=>wpAny P .any ops Q (ops.size-p.n1) (uZ p.n1 ops.size) a' w'|e=>Q e a' w') cJ hc xC fit (s':=s1) (by
     unfold draw;rw [List.toList_toArray,Br]
     exact U) (fun a' w' ht=>O9 cJ hc sf hd ht Z hq)
    rw [hRs] at key
    have:=J4 sf (Q:=Q) (fun e a w fZ hh=>by
     cases e with
     |normal=>exact absurd rfl fZ
     |_=>exact hh) (fun a w hh=>hh) p.n1 (Array.replicate p.n1 false) (Array.replicate ops.size false) a _ ad ad (fun i hi=>by
     rw [amT,amT,ah hi,ah J]) (fun i _ hi=>by
     rw [amT,ah hi]) (by
     exact TC p.n1 p.n1 (au _)) (fun hh=>by
     rw [amT,ah (by have:=sf.pos; omega)] at hh
     simp at hh) key
    grind
 ·rename_i hh;rw [hh] at h;simp [T.leaf] at h
end
end
end Go.As
end
section
namespace Go.As
noncomputable section
def Gx {α:Type} (n:Nat) (t:Tr α) (k:Nat):Option α:=match Nat.ble n k with
 |true=>none
 |false=>t.get k
theorem QL {α:Type} {n:Nat} {t:Tr α} {f:Nat->Option α} (h:(List.range n).map t.get=(List.range n).map f) {k:Nat} {x:α} (hk:Gx n t k=some x):f k=some x:=by
 unfold Gx at hk;split at hk
 ·grind
 ·rename_i hle
  have fe:k<n:=by
   have: ¬(n<=k):=by
    intro h;rw [am7 h] at hle
    grind
   omega
  have:=congrArg (fun l=>l[k]?) h
  grind
section
variable {P:Program}
theorem F_ {n:Nat} {tab:Tr TI} (h:(List.range n).map tab.get=(List.range n).map (G? P)):ep P (Gx n tab):=fun _ _ hk=>G! (QL h hk)
def aep (qu:Nat->List Oper->Bool) (f:Func):Bool:=!(f.name == "runtime.NumGoroutine")&&(match f.body with |some c=>jJ qu f.ntmps c|none=>true)
def hAt {α:Type} (t:Tr (Tr α)) (g id:Nat):Option α:=match t.get g with
 |some u=>u.get id
 |none=>none
theorem aad {n:Nat} {IQ:Tr Func} (h:(List.range n).map IQ.get=(List.range n).map (fun g=>P.funcs[g]?)) {qu:Nat->Nat->List Oper->Bool} (hc:(List.range n).all (fun g=>match IQ.get g with |some f=>aep (qu g) f|none=>true)=true):Ux P qu (Gx n IQ):=by
 intro g fn hk;have U:=QL h hk;refine⟨U,?_⟩
 have fe:g<n:=by
  unfold Gx at hk;split at hk
  ·grind
  ·rename_i hle;rcases aQ g n with h|h
   ·exact h
   ·rw [am7 h] at hle; simp at hle
 have uL:IQ.get g=some fn:=by
  unfold Gx at hk
  grind
 have:=aR.1 hc g (ami.2 fe);rw [uL] at this;simp only [aep,an,amk] at this
 grind
end
end
end Go.As
end
section
namespace Go.As
noncomputable section
structure Ren where
 ns:List V
 bl:List Nat
 sh:List Nat
def Ren.se (r:Ren):V->V
 | .lit n=> .lit n
 | .du i=>match eS r.ns i with |some e=>e|none=> .du i
 | .add a b=> .add (r.se a) (r.se b)
 | .sub a b=> .sub (r.se a) (r.se b)
 | .mul a b=> .mul (r.se a) (r.se b)
 | .quo a b=> .quo (r.se a) (r.se b)
 | .rem a b=> .rem (r.se a) (r.se b)
 | .wrap k a=> .wrap k (r.se a)
 | .wz b e=> .wz b (r.se e)
 | .ej d=> .ej d
 | .op o a b=>match o with
   | .len=>dO (r.se a)
   |o=> .op o (r.se a) (r.se b)
 | .ap f a=> .ap f (r.se a)
def Ren.sb (r:Ren):SB->SB
 | .lit b=> .lit b
 | .lt a b=>gV (r.se a) (r.se b)
 | .le a b=> .le (r.se a) (r.se b)
 | .eq a b=>qA (r.se a) (r.se b)
 | .not s=> .not (r.sb s)
 | .and a b=> .and (r.sb a) (r.sb b)
def Ren.id (r:Ren) (i:Nat):Nat:=match eS r.bl i with |some j=>j|none=>0
def Ren.tM (r:Ren) (i:Nat):Nat:=match eS r.sh i with |some j=>j|none=>0
mutual
def Ren.av (r:Ren):W->W
 | .bool b=> .bool (r.sb b)
 | .int k e=> .int k (r.se e)
 | .str s=> .str s
 | .ptr i o=> .ptr (r.id i) (r.tM i+o)
 | .tN=> .tN
 | .mY cs=> .mY (r.B1 cs)
 | .slice i o l c=> .slice (r.id i) (r.tM i+o) l c
 | .eg=> .eg
 | .ro cs n f=> .ro (r.B1 cs) n f
 | .map i=> .map (r.id i)
 | .rD=> .rD
 | .func f a b=> .func f (r.B1 a) (r.B1 b)
 | .wv=> .wv
 | .iface t v=> .iface t (r.av v)
 | .xn=> .xn
 | .agg cs=> .agg (r.B1 cs)
 | .tuple cs=> .tuple (r.B1 cs)
 | .KG i=> .KG i
 | .wz k ks=> .wz k ks
 | .emp=> .emp
 | .ej e t=> .ej (r.se e) t
 | .jA e=> .jA (r.se e)
 | .oS i n t=>match r.tM i with
   |0=> .oS (r.id i) (r.se n) t
   |_=> .KG 0
 | .zq i es x o=>match r.tM i with
   |0=> .zq (r.id i) es (r.se x) o
   |_=> .KG 0
 | .tK i lo n t=>match r.tM i with
   |0=> .tK (r.id i) (r.se lo) (r.se n) t
   |_=> .KG 0
 | .any=> .any
 | .wZ z t=> .wZ (r.se z) t
def Ren.B1 (r:Ren):List W->List W
 |[]=>[]
 |x::xs=>r.av x::r.B1 xs
end
mutual
def ly (n:Nat):W->Bool
 | .ptr i _=>Nat.blt i n
 | .slice i _ _ _=>Nat.blt i n
 | .map i=>Nat.blt i n
 | .oS i _ _=>Nat.blt i n
 | .zq i _ _ _=>Nat.blt i n
 | .tK i _ _ _=>Nat.blt i n
 | .mY cs=>nZ n cs
 | .ro cs _ _=>nZ n cs
 | .func _ a b=>nZ n a&&nZ n b
 | .iface _ v=>ly n v
 | .agg cs=>nZ n cs
 | .tuple cs=>nZ n cs
 |_=>true
def nZ (n:Nat):List W->Bool
 |[]=>true
 |x::xs=>ly n x&&nZ n xs
end
def Ren.env (r:Ren) (ρ:Nat->Int) (i:Nat):Int:=match eS r.ns i with |some e=>e.den ρ|none=>ρ i
theorem Gg {α:Type}: ∀{l:List α} {i:Nat},l.length<=i->eS l i=none
 |[],_,_=>rfl
 |_::_,0,h=>by simp at h
 |_::l,i+1,h=>by simp only [eS]; exact Gg (by simpa using h)
theorem Ren.lE {r:Ren} (h:r.ns.length<=900) {ρ:Nat->Int} {i:Nat} (hi:900<=i):r.env ρ i=ρ i:=by
 grind [Ren.env,Gg]
theorem Ren.ef {r:Ren} (h:r.ns.length<=900) (ρ:Nat->Int): ∀e:V,(r.se e).den ρ=e.den (r.env ρ)
 | .lit n=>rfl
 | .du i=>by simp only [Ren.se,V.den,Ren.env];split<;>rfl
 | .add a b=>by simp only [Ren.se,V.den,Ren.ef h ρ a,Ren.ef h ρ b]
 | .sub a b=>by simp only [Ren.se,V.den,Ren.ef h ρ a,Ren.ef h ρ b]
 | .mul a b=>by simp only [Ren.se,V.den,Ren.ef h ρ a,Ren.ef h ρ b]
 | .quo a b=>by simp only [Ren.se,V.den,Ren.ef h ρ a,Ren.ef h ρ b]
 | .rem a b=>by simp only [Ren.se,V.den,Ren.ef h ρ a,Ren.ef h ρ b]
 | .wrap k a=>by simp only [Ren.se,V.den,Ren.ef h ρ a]
 | .wz b e=>by simp only [Ren.se,V.den,Ren.ef h ρ e];rw [Ren.lE h J]
 | .ej d=>rfl
 | .op o a b=>by
   cases o with
   |len=> simp only [Ren.se,cC,Ren.ef h ρ a];simp [V.den,e9.den]
   |_=>simp only [Ren.se,V.den,Ren.ef h ρ a,Ren.ef h ρ b]
 | .ap f a=>by simp only [Ren.se,V.den,Ren.ef h ρ a];rw [Ren.lE h (by unfold iQ; omega)]
theorem Ren.zV {r:Ren} (h:r.ns.length<=900) (ρ:Nat->Int): ∀c:SB,(r.sb c).den ρ=c.den (r.env ρ)
 | .lit b=>rfl
 | .lt a b=>by simp only [Ren.sb,dR,SB.den,Ren.ef h]
 | .le a b=>by simp only [Ren.sb,SB.den,Ren.ef h]
 | .eq a b=>by simp only [Ren.sb,gw,SB.den,Ren.ef h]
 | .not s=>by simp only [Ren.sb,SB.den,Ren.zV h ρ s]
 | .and a b=>by simp only [Ren.sb,SB.den,Ren.zV h ρ a,Ren.zV h ρ b]
def En.gB (E:En) (r:Ren):En:={ ρ:=r.env E.ρ,θ:=fun i=>((E.θ (r.id i)).1,(E.θ (r.id i)).2+r.tM i),κ:=fun i=>E.κ (r.id i)-r.tM i,dm:=fun i=>i<r.bl.length/\E.dm (r.id i),ro:=E.ro,hd:=E.hd }
theorem xO {i n:Nat} (h:Nat.blt i n=true):i<n:=by simp_all
mutual
theorem VR.gB {E:En} {r:Ren} {h:Array Obj} (hl:r.ns.length<=900): ∀(x:W) (u:Value),ly r.bl.length x=true->VR E h (r.av x) u->VR (E.gB r) h x u
 | .bool b,u,_,hv=>by simp only [Ren.av,VR,En.gB,Ren.zV hl] at *; exact hv
 | .int k e,u,_,hv=>by simp only [Ren.av,VR,En.gB,Ren.ef hl] at *; exact hv
 | .str s,u,_,hv=>by simp only [Ren.av,VR] at *; exact hv
 | .ptr i o,u,hi,hv=>by simp only [Ren.av,VR,En.gB,ly] at *; exact⟨by rw [hv.1,al8],xO hi,hv.2⟩
 | .tN,u,_,hv=>by simp only [Ren.av,VR] at *; exact hv
 | .mY cs,u,hi,hv=>by simp only [Ren.av,VR,ly] at *;obtain⟨b,o,us,U,Z,h3,h4⟩:=hv;exact⟨b,o,us,U,Z,cB.gB hl cs us hi h3,h4⟩
 | .slice i o l c,u,hi,hv=>by
   simp only [Ren.av,VR,ly] at *;obtain⟨U,a,cap,Z,h3,h4⟩:=hv;refine⟨⟨xO hi,U⟩,a,cap,Z,h3,?_⟩
   cases c with
   |exact k=>
    simp only [eE,En.gB] at *
    grind
   |rest es=>
    simp only [eE,En.gB] at *
    grind
 | .eg,u,_,hv=>by simp only [Ren.av,VR] at *; exact hv
 | .ro cs n f,u,hi,hv=>by simp only [Ren.av,VR,ly] at *;obtain⟨b,o,cap,us,U,Z,h3,h4,h5,h6⟩:=hv;exact⟨b,o,cap,us,U,Z,h3,h4,cB.gB hl cs us hi h5,h6⟩
 | .map i,u,hi,hv=>by simp only [Ren.av,VR,En.gB,ly] at *; exact⟨hv.1,xO hi,hv.2⟩
 | .rD,u,_,hv=>by simp only [Ren.av,VR] at *; exact hv
 | .func f a b,u,hi,hv=>by simp only [Ren.av,VR,ly,an] at *;obtain⟨us,ws,U,Z,h3⟩:=hv;exact⟨us,ws,U,cB.gB hl a us hi.1 Z,cB.gB hl b ws hi.2 h3⟩
 | .wv,u,_,hv=>by simp only [Ren.av,VR] at *; exact hv
 | .iface t v,u,hi,hv=>by simp only [Ren.av,VR,ly] at *;obtain⟨y,U,Z⟩:=hv;exact⟨y,U,VR.gB hl v y hi Z⟩
 | .xn,u,_,hv=>by simp only [Ren.av,VR] at *; exact hv
 | .agg cs,u,hi,hv=>by simp only [Ren.av,VR,ly] at *;obtain⟨us,U,Z⟩:=hv;exact⟨us,U,cB.gB hl cs us hi Z⟩
 | .tuple cs,u,hi,hv=>by simp only [Ren.av,VR,ly] at *;obtain⟨us,U,Z⟩:=hv;exact⟨us,U,cB.gB hl cs us hi Z⟩
 | .KG i,u,_,hv=>by simp only [Ren.av,VR] at hv
 | .wz k ks,u,_,hv=>by
   simp only [Ren.av,VR,En.gB] at *;rw [Ren.lE hl J];rcases hv with hv|⟨b,o,n,cap,U,Z,h3,h4,h5⟩
   ·grind
   ·refine .inr ⟨b,o,n,cap,U,Z,h3,h4,fun i j kd hi hj=>?_⟩;rw [Ren.lE hl J]
    grind
 | .emp,u,_,hv=>by simp only [Ren.av,VR] at *; exact hv
 | .ej e t,u,_,hv=>by simp only [Ren.av,VR,En.gB,Ren.ef hl] at *; exact hv
 | .jA e,u,_,hv=>by simp only [Ren.av,VR,En.gB,Ren.ef hl] at *; exact hv
 | .oS i n t,u,hi,hv=>by
   simp only [Ren.av] at hv;split at hv
   ·rename_i hs;simp only [VR,En.gB,ly,Ren.ef hl] at *;obtain⟨U,k,a,cap,Z,h3,h4,h5⟩:=hv;refine⟨⟨xO hi,U⟩,k,a,cap,Z,h3,h4,?_⟩;simp only [eE,hs] at *
    grind
   ·simp [VR] at hv
 | .any,u,_,_=>by simp only [VR]
 | .wZ z t,u,_,hv=>by simp only [Ren.av,VR,En.gB,Ren.ef hl] at *; exact hv
 | .tK i lo n t,u,hi,hv=>by
   simp only [Ren.av] at hv;split at hv
   ·rename_i hs;simp only [VR,En.gB,ly,Ren.ef hl] at *;obtain⟨U,l,k,a,cap,Z,h3,h4,h5,h6⟩:=hv;refine⟨⟨xO hi,U⟩,l,k,a,cap,Z,h3,h4,h5,?_⟩;simp only [eE,hs] at *
    grind
   ·simp [VR] at hv
 | .zq i es x o,u,hi,hv=>by
   simp only [Ren.av] at hv;split at hv
   ·rename_i hs;simp only [VR,En.gB,ly,Ren.ef hl] at *;obtain⟨U,k,Z,h3⟩:=hv;exact⟨⟨xO hi,U⟩,k,Z,by rw [h3,hs,bd]⟩
   ·simp [VR] at hv
theorem cB.gB {E:En} {r:Ren} {h:Array Obj} (hl:r.ns.length<=900): ∀(xs:List W) (us:List Value),nZ r.bl.length xs=true->cB E h (r.B1 xs) us->cB (E.gB r) h xs us
 |[],us,_,hv=>by simp only [Ren.B1,cB] at *; exact hv
 |x::xs,us,hi,hv=>by simp only [Ren.B1,cB,nZ,an] at *;obtain⟨u,vs,U,Z,h3⟩:=hv;exact⟨u,vs,U,VR.gB hl x u hi.1 Z,cB.gB hl xs vs hi.2 h3⟩
end
theorem aaS {E:En} {r:Ren} {h:Array Obj} {xs ys:List W} {us:List Value} (hs:ia (r.B1 xs) ys=true) (hv:cB E h ys us):cB E h (r.B1 xs) us:=by
 grind [fD]
def ru (r:Ren):List (W×W×Nat)->List (W×W×Nat)->Bool
 |[],[]=>true
 |(k,v,_)::xs,(k',v',_)::ys=>match eC (r.av k) k' with
  |true=>match eC (r.av v) v' with
   |true=>ru r xs ys
   |false=>false
  |false=>false
 |_,_=>false
def Jm (n:Nat):List (W×W×Nat)->Bool
 |[]=>true
 |(k,v,_)::xs=>ly n k&&ly n v&&Jm n xs
def KF (n:Nat):List (V×List W)->Bool
 |[]=>true
 |(_,cs)::l=>nZ n cs&&KF n l
def mq (r:Ren):List (V×List W)->List (V×List W)->Bool
 |[],[]=>true
 |(i,a)::x,(j,b)::y=>eQ (r.se i) j&&ia (r.B1 a) b&&mq r x y
 |_,_=>false
def Lp (n:Nat):List (V×W)->Bool
 |[]=>true
 |(_,v)::l=>ly n v&&Lp n l
def mr (r:Ren):List (V×W)->List (V×W)->Bool
 |[],[]=>true
 |(i,a)::x,(j,b)::y=>eQ (r.se i) j&&eC (r.av a) b&&mr r x y
 |_,_=>false
def KI (n:Nat):dG->Bool
 | .qY _ _ _ ov=>Lp n ov
 | .vec _ _ _ ov=>KF n ov
 | .cells cs _=>nZ n cs
 | .map es _=>Jm n es
 | .jS _ _=>true
 | .ji _ _ _ _=>false
 | .jM _ _=>true
def dY (r:Ren) (k:Nat):dG->dG->Bool
 | .cells cs e,.cells ds f=>match Nat.beq e f with
   |true=>match eD k ds with
    |some ds=>ia (r.B1 cs) ds
    |none=>false
   |false=>false
 | .map es k,.map fs _=>ru r es fs&&Nat.beq k 0
 | .jS s p,.jS t q=>gD s t&&Nat.beq p q&&Nat.beq k 0
 | .jM e t,.jM e' t'=>eQ (r.se e) e'&&Nat.beq t t'&&Nat.beq k 0
 | .qY e t eR ov,.qY e' t' agX iD=>eQ (r.se e) e'&&Nat.beq t t'&&decide (eR=agX)&&mr r ov iD&&Nat.beq k 0
 | .vec e t ty ov,.vec e' t' Vr iD=>eQ (r.se e) e'&&Nat.beq t t'&&Nat.beq ty Vr&&mq r ov iD&&Nat.beq k 0
 |_,_=>false
theorem eB.gB {E:En} {r:Ren} {h:Array Obj} (hl:r.ns.length<=900): ∀{xs ys:List (W×W×Nat)} {es:List MapEntry},Jm r.bl.length xs=true->ru r xs ys=true->eB E h ys es->eB (E.gB r) h xs es
 |[],[],es,_,_,h=>by simp only [eB] at *; exact h
 |[],_::_,_,_,hs,_=>by simp [ru] at hs
 |(_,_,_)::_,[],_,_,hs,_=>by simp [ru] at hs
 |(k,v,b)::xs,(k',v',b')::ys,es,hi,hs,h=>by
  simp only [Jm,an] at hi;simp only [ru] at hs;simp only [eB] at *;obtain⟨e,rr,rfl,U,Z,_,h4⟩:=h;split at hs
  ·rename_i e1;split at hs
   ·rename_i e2;refine⟨e,rr,rfl,VR.gB hl k _ hi.1.1 (by rw [jt _ _ e1]; exact U),VR.gB hl v _ hi.1.2 (by rw [jt _ _ e2]; exact Z),trivial,eB.gB hl hi.2 hs h4⟩
   grind
  grind
theorem pD {r:Ren}: ∀xs:List W,(r.B1 xs).length=xs.length
 |[]=>rfl
 |_::xs=>by simp [Ren.B1,pD xs]
theorem Ga {r:Ren} (hl:r.ns.length<=900) {ρ:Nat->Int} {i:Nat}: ∀{ov iD:List (V×List W)},mq r ov iD=true->dX ρ i iD=(dX (r.env ρ) i ov).map r.B1
 |[],[],_=>rfl
 |[],_::_,h=>by simp [mq] at h
 |_::_,[],h=>by simp [mq] at h
 |(j,a)::x,(k,b)::y,h=>by
  simp only [mq,an] at h;have U:=cO _ _ h.1.1;have Z:=fD _ _ h.1.2;simp only [dX];rw [<- U,Ren.ef hl,<- Z,Ga hl h.2]
  grind
theorem F9 {n:Nat}: ∀{ov:List (V×List W)},KF n ov=true->∀p∈ov,nZ n p.2=true
 |[],_,p,hp=>by simp at hp
 |(j,a)::x,h,p,hp=>by
  simp only [KF,an] at h;rcases aw.1 hp with rfl|hp
  ·grind
  ·exact F9 h.2 p hp
theorem te {E:En} {r:Ren} {h:Array Obj} (hl:r.ns.length<=900) {row:Row} {ov iD:List (V×List W)} (hs:mq r ov iD=true) (hi:KF r.bl.length ov=true): ∀(ds:List D) (i:Nat) {us:List Value},
 cB E h (bF E.ρ row iD ds i) us->cB (E.gB r) h (bF (E.gB r).ρ row ov ds i) us
 |[],_,us,hv=>by simp only [bF,cB] at *; exact hv
 |d::ds,i,us,hv=>by
  simp only [bF] at *;obtain⟨a,b,rfl,U,Z⟩:=hv.split;refine cB.append ?_ (te hl hs hi ds (i+1) Z);rw [Ga hl hs] at U;show cB (E.gB r) h (match dX (r.env E.ρ) i ov with |some cs=>cs|none=>gz row (.ej d)) a
  cases ho:dX (r.env E.ρ) i ov with
  |none=> rw [ho] at U;simp only [Option.map_none] at U;exact (fV (E:=E.gB r)).2 (show wH E.ro h row (dec (enc d)) a from (fV (E:=E)).1 U)
  |some cs=> rw [ho] at U;simp only [bw] at U;obtain⟨p,p1,p2,_⟩:=kx ho;exact cB.gB hl cs a (by rw [<- p2]; exact F9 hi p p1) U
theorem C4 {r:Ren} {row:Row}: ∀{ov iD:List (V×List W)},mq r ov iD=true->sA row iD->sA row ov
 |[],[],_,h=>h
 |[],_::_,h,_=>by simp [mq] at h
 |_::_,[],h,_=>by simp [mq] at h
 |(j,a)::x,(k,b)::y,h,ho=>by
  simp only [mq,an] at h;intro p hp;rcases aw.1 hp with rfl|hp
  ·have:=congrArg List.length (fD _ _ h.1.2);rw [pD] at this;simp only;rw [this];exact ho (k,b) ad
  ·exact C4 h.2 (fun q hq=>ho q (by simp [hq])) p hp
theorem P9 {r:Ren} (hl:r.ns.length<=900) {ρ:Nat->Int} {n:Int}: ∀{ov iD:List (V×W)},mr r ov iD=true->lI ρ n iD=(lI (r.env ρ) n ov).map r.av
 |[],[],_=>rfl
 |[],_::_,h=>by simp [mr] at h
 |_::_,[],h=>by simp [mr] at h
 |(j,a)::x,(k,b)::y,h=>by simp only [mr,an] at h;have U:=cO _ _ h.1.1;have Z:=jt _ _ h.1.2;simp only [lI];rw [<- U,Ren.ef hl,<- Z,P9 hl h.2];split<;>simp
theorem yj {r:Ren} (hl:r.ns.length<=900) {ρ:Nat->Int}: ∀{ov iD:List (V×W)},mr r ov iD=true->(ov.map fun p=>p.1.den (r.env ρ))=iD.map fun p=>p.1.den ρ
 |[],[],_=>rfl
 |[],_::_,h=>by simp [mr] at h
 |_::_,[],h=>by simp [mr] at h
 |(j,a)::x,(k,b)::y,h=>by simp only [mr,an] at h;have U:=cO _ _ h.1.1;simp only [ax];rw [<- U,Ren.ef hl,yj hl h.2]
theorem zG.congr {ρ ρ':Nat->Int} {ds:List D} {ov iD:List (V×W)} (h:zG ρ ds ov) (hk:(iD.map fun p=>p.1.den ρ')=ov.map fun p=>p.1.den ρ):zG ρ' ds iD:=by refine⟨h.1,fun p hp=>?_,by rw [hk]; exact h.2.2⟩;have:p.1.den ρ'∈iD.map fun p=>p.1.den ρ':=aT.2 ⟨p,hp,rfl⟩;rw [hk] at this;obtain⟨q,hq,he⟩:=aT.1 this;rw [<- he];exact h.2.1 q hq
theorem GY {n:Nat} {ρ:Nat->Int} {m:Int} {v:W}: ∀{ov:List (V×W)},Lp n ov=true->lI ρ m ov=some v->ly n v=true
 |[],_,h=>by simp [lI] at h
 |(_,u)::l,hi,h=>by
  simp only [Lp,an] at hi;simp only [lI] at h;split at h
  ·simp only [ag] at h; subst h; exact hi.1
  ·exact GY hi.2 h
theorem oH.gB {E:En} {r:Ren} {h:Array Obj} (hl:r.ns.length<=900) {B:Nat} {key:D} {j ty:Nat} {c:FC} {d:D} {u:Value} (ho:oH E h B key j ty c d u):oH (E.gB r) h B key j ty c d u:=by
 cases c with
 |ck c=>exact ho
 |mp t=>exact ho
 |own t=>
  rcases ho with ho|⟨b,o,n,cap,a,arr,lo,hi,U,Z,h3,h4,h5,h6,h7⟩
  ·exact .inl ho
  ·refine .inr ⟨b,o,n,cap,a,arr,lo,hi,U,Z,h3,h4,h5,h6,?_⟩;rcases h7 with h7|⟨g1,g2,us,g3,g4⟩
   ·exact .inl h7
   ·exact .inr ⟨g1,g2,us,te hl (ov:=[]) (iD:=[]) rfl rfl _ _ g3,g4⟩
theorem pH.gB {E:En} {r:Ren} {h:Array Obj} (hl:r.ns.length<=900) {B t:Nat} {eR:List Nat} {key d:D} {v:Value} (ho:pH E h B t eR key d v):pH (E.gB r) h B t eR key d v:=by
 unfold pH at *;split at ho
 ·obtain⟨c,U,Z⟩:=ho;exact⟨c,U,Z.gB hl⟩
 ·obtain⟨b,o,arr,lo,hi,U,Z,h3,h4,h5,h6⟩:=ho;refine⟨b,o,arr,lo,hi,U,Z,h3,h4,h5,fun j c hc=>?_⟩;obtain⟨u,g1,g2,g3⟩:=h6 j c hc;exact⟨u,g1,g2,g3.gB hl⟩
theorem eI.gB {E:En} {r:Ren} {h:Array Obj} (hl:r.ns.length<=900) {B t:Nat} {eR:List Nat} {ov iD:List (V×W)} (hs:mr r ov iD=true) (hi:Lp r.bl.length ov=true): ∀{ds:List D} {es:List MapEntry},eI E h B t eR iD ds es->eI (E.gB r) h B t eR ov ds es
 |[],_,ho=>ho
 |d::ds,_,⟨e,rr,n,U,Z,h3,h4,h5⟩=>by
  refine⟨e,rr,n,U,Z,h3,?_,eI.gB hl hs hi h5⟩;have he:=P9 hl (ρ:=E.ρ) (n:=n) hs
  show match lI (r.env E.ρ) n ov with |some v=>VR (E.gB r) h v e.val|none=>pH (E.gB r) h B t eR (.i n) (Fm d) e.val
  cases hv:lI (r.env E.ρ) n ov with
  |none=> rw [hv] at he;rw [he] at h4;exact h4.gB hl
  |some v=> rw [hv] at he;rw [he] at h4;exact VR.gB hl v _ (GY hi hv) h4
theorem OR.gB {E:En} {r:Ren} {h:Array Obj} (hl:r.ns.length<=900) {id:Nat} {o o':dG} (hi:KI r.bl.length o=true) (hs:dY r (r.tM id) o o'=true) (ho:OR E h (r.id id) o'):OR (E.gB r) h id o:=by
 cases o with
 |cells cs e=>
  cases o' with
  |ji _ _ _ _=>simp [dY] at hs
  |cells ds f=>
   simp only [dY] at hs;simp only [KI] at hi;split at hs
   ·rename_i he;have he:=aq he;subst he;split at hs
    ·rename_i ds' Fi;simp only [OR] at *;obtain⟨arr,lo,hi',us,U,Z,h3,h4,h5,h6,h7⟩:=ho;obtain⟨g1,g2,g3⟩:=Z.eD Fi;have hlen:=congrArg List.length (fD _ _ hs);rw [pD] at hlen;refine⟨arr,lo,hi',us.drop (r.tM id),U,cB.gB hl cs _ hi (aaS hs g1),fun i u hu=>?_,?_,?_,h6,fun u hu=>h7 u (bq hu)⟩
     ·rw [amF] at hu;have:=h3 _ u hu;show arr[(E.θ (r.id id)).2+r.tM id+i]?=some u
      grind
     ·show cs.length<=E.κ (r.id id)-r.tM id;omega
     ·show (E.θ (r.id id)).2+r.tM id+(E.κ (r.id id)-r.tM id)=arr.size;omega
    grind
   grind
  |map _ _=>simp [dY] at hs
  |jS _ _=>simp [dY] at hs
  |vec _ _ _ _=>simp [dY] at hs
  |jM _ _=>simp [dY] at hs
  |qY _ _ _ _=>simp [dY] at hs
 |map es c=>
  cases o' with
  |ji _ _ _ _=>simp [dY] at hs
  |map fs d=> simp only [dY] at hs;simp only [KI] at hi;simp only [OR] at *;obtain⟨bL,c',U,Z,_⟩:=ho;simp only [an] at hs;have hz:=aq hs.2;exact⟨bL,c',U,eB.gB hl hi hs.1 Z,by rw [hz]; trivial⟩
  |cells _ _=>simp [dY] at hs
  |jS _ _=>simp [dY] at hs
  |vec _ _ _ _=>simp [dY] at hs
  |jM _ _=>simp [dY] at hs
  |qY _ _ _ _=>simp [dY] at hs
 |ji _ _ _ _=>simp [KI] at hi
 |jS s p=>
  cases o' with
  |ji _ _ _ _=>simp [dY] at hs
  |jS t q=> simp_all [dY,lQ,OR,En.gB]
  |cells _ _=>simp [dY] at hs
  |map _ _=>simp [dY] at hs
  |vec _ _ _ _=>simp [dY] at hs
  |jM _ _=>simp [dY] at hs
  |qY _ _ _ _=>simp [dY] at hs
 |jM e t=>
  cases o' with
  |ji _ _ _ _=>simp [dY] at hs
  |cells _ _=>simp [dY] at hs
  |map _ _=>simp [dY] at hs
  |jS _ _=>simp [dY] at hs
  |vec _ _ _ _=>simp [dY] at hs
  |qY _ _ _ _=>simp [dY] at hs
  |jM e' t'=> simp only [dY,an] at hs;have U:=cO _ _ hs.1.1;have Z:=aq hs.1.2;subst U Z;simp only [OR] at *;have pb:e.den (E.gB r).ρ=(r.se e).den E.ρ:=(Ren.ef hl E.ρ e).symm;rw [pb];exact ho
 |vec e t ty ov=>
  cases o' with
  |ji _ _ _ _=>simp [dY] at hs
  |cells _ _=>simp [dY] at hs
  |map _ _=>simp [dY] at hs
  |jS _ _=>simp [dY] at hs
  |jM _ _=>simp [dY] at hs
  |qY _ _ _ _=>simp [dY] at hs
  |vec e' t' Vr iD=>
   simp only [dY,an] at hs;simp only [KI] at hi;have U:=cO _ _ hs.1.1.1.1;have Z:=aq hs.1.1.1.2;have h3:=aq hs.1.1.2;have h4:=aq hs.2;have r7:=hs.1.2;subst U Z h3;simp only [OR] at *;obtain⟨h0,arr,lo,hi',us,q1,q2,q3,q4,q5,q6,q7⟩:=ho;have oL:=C4 r7 h0.1;have pb:e.den (E.gB r).ρ=(r.se e).den E.ρ:=(Ren.ef hl E.ρ e).symm;rw [pb];refine⟨⟨oL,h0.2⟩,arr,lo,hi',us,q1,te hl r7 hi _ _ q2,?_,?_,?_,q6,q7⟩
   ·intro i u hu;show arr[(E.θ (r.id id)).2+r.tM id+i]?=some u
    grind
   ·show _<=E.κ (r.id id)-r.tM id
    grind [cD]
   ·show (E.θ (r.id id)).2+r.tM id+(E.κ (r.id id)-r.tM id)=arr.size
    grind
 |qY e t eR ov=>
  cases o' with
  |ji _ _ _ _=>simp [dY] at hs
  |cells _ _=>simp [dY] at hs
  |map _ _=>simp [dY] at hs
  |jS _ _=>simp [dY] at hs
  |jM _ _=>simp [dY] at hs
  |vec _ _ _ _=>simp [dY] at hs
  |qY e' t' agX iD=> simp only [dY,an,decide_eq_true_eq] at hs;simp only [KI] at hi;have U:=cO _ _ hs.1.1.1.1;have Z:=aq hs.1.1.1.2;have h3:=hs.1.1.2;have r7:=hs.1.2;subst U Z h3;simp only [OR] at *;obtain⟨n0,bL,c',g1,g2⟩:=ho;have pb:e.den (E.gB r).ρ=(r.se e).den E.ρ:=(Ren.ef hl E.ρ e).symm;rw [pb];exact⟨n0.congr (yj hl r7),bL,c',g1,eI.gB hl r7 hi g2⟩
end
end Go.As
end
section
namespace Go.As
noncomputable section
open Go.RowKit
structure CS where
 k:Nat
 bD:List (Nat×W)
 dy:List dG
 pc:List (SB×Bool)
 m:V
def nq:List (Nat×W)->Tr W->Tr W
 |[],t=>t
 |(i,v)::l,t=>nq l (t.put i (some v))
def nY:List dG->Nat->Tr dG->Tr dG
 |[],_,t=>t
 |o::os,i,t=>nY os (i+1) (t.put i (some o))
def CS.st (c:CS):St:=⟨nq c.bD .nil,⟨nY c.dy 0 .nil,c.dy.length,none⟩,c.pc⟩
structure Gs where
 ns:Tr V
 bl:Tr (Nat×Nat)
def Gs.num (g:Gs) (i:Nat) (e:V):Gs:=match g.ns.get i with
 |some _=>g
 |none=> ⟨g.ns.put i (some e),g.bl⟩
def Gs.nW (g:Gs) (i j k:Nat):Gs:=match g.bl.get i with
 |some _=>g
 |none=> ⟨g.ns,g.bl.put i (some (j,k))⟩
def xD (x y:V) (g:Gs):Gs:=match x with
 | .du i=>g.num i y
 |_=>g
def ai0:SB->SB->Gs->Gs
 | .not a,.not b,g=>ai0 a b g
 | .eq a b,.eq c d,g=>xD b d (xD a c g)
 |_,_,g=>g
mutual
def TV:W->W->Gs->Gs
 | .bool a,.bool b,g=>ai0 a b g
 | .int _ e,.int _ f,g=>xD e f g
 | .ptr i o,.ptr j p,g=>g.nW i j (p-o)
 | .slice i o _ _,.slice j p _ _,g=>g.nW i j (p-o)
 | .map i,.map j,g=>g.nW i j 0
 | .agg a,.agg b,g=>yT a b g
 | .tuple a,.tuple b,g=>yT a b g
 | .iface _ a,.iface _ b,g=>TV a b g
 | .func _ a b,.func _ c d,g=>yT b d (yT a c g)
 | .mY a,.mY b,g=>yT a b g
 | .ro a _ _,.ro b _ _,g=>yT a b g
 | .ej a _,.ej b _,g=>xD a b g
 | .jA a,.jA b,g=>xD a b g
 | .oS i a _,.oS j b _,g=>(xD a b g).nW i j 0
 | .zq i _ a _,.zq j _ b _,g=>(xD a b g).nW i j 0
 | .wZ a _,.wZ b _,g=>xD a b g
 | .tK i l a _,.tK j k b _,g=>(xD l k (xD a b g)).nW i j 0
 |_,_,g=>g
def yT:List W->List W->Gs->Gs
 |x::xs,y::ys,g=>yT xs ys (TV x y g)
 |_,_,g=>g
end
def Yn:List (W×W×Nat)->List (W×W×Nat)->Gs->Gs
 |(k,v,_)::xs,(k',v',_)::ys,g=>Yn xs ys (TV v v' (TV k k' g))
 |_,_,g=>g
def ab6:List (V×List W)->List (V×List W)->Gs->Gs
 |(i,a)::x,(j,b)::y,g=>ab6 x y (yT a b (xD i j g))
 |_,_,g=>g
def ab7:List (V×W)->List (V×W)->Gs->Gs
 |(i,a)::x,(j,b)::y,g=>ab7 x y (TV a b (xD i j g))
 |_,_,g=>g
def ale (k:Nat) (o o':dG) (g:Gs):Gs:=match o,o' with
 | .cells a _,.cells b _=>match eD k b with
   |some b=>yT a b g
   |none=>g
 | .map a _,.map b _=>Yn a b g
 | .vec a _ _ ov,.vec b _ _ iD=>ab6 ov iD (xD a b g)
 | .jM a _,.jM b _=>xD a b g
 | .qY a _ _ ov,.qY b _ _ iD=>ab7 ov iD (xD a b g)
 |_,_=>g
def Cs (s:Tr W):List (Nat×W)->Gs->Gs
 |[],g=>g
 |(t,v)::l,g=>match s.get t with
  |some v'=>Cs s l (TV v v' g)
  |none=>Cs s l g
def AB (h:Hp):List dG->Nat->Gs->Gs
 |[],_,g=>g
 |o::os,i,g=>match g.bl.get i with
  |some (j,k)=>match h.get j with
   |some o'=>AB h os (i+1) (ale k o o' g)
   |none=>AB h os (i+1) g
  |none=>AB h os (i+1) g
def xt (g:Tr V):Nat->Nat->List V
 |0,_=>[]
 |n+1,i=>match g.get i with
  |some e=>e::xt g n (i+1)
  |none=> .lit 0::xt g n (i+1)
def Iv (g:Tr (Nat×Nat)):Nat->Nat->List Nat
 |0,_=>[]
 |n+1,i=>match g.get i with
  |some (e,_)=>e::Iv g n (i+1)
  |none=>0::Iv g n (i+1)
def Iu (g:Tr (Nat×Nat)):Nat->Nat->List Nat
 |0,_=>[]
 |n+1,i=>match g.get i with
  |some (_,e)=>e::Iu g n (i+1)
  |none=>0::Iu g n (i+1)
def CS.kP (c:CS) (s:St):Ren:=match AB s.h c.dy 0 (Cs s.bD c.bD ⟨.nil,.nil⟩) with
 |⟨ns,bl⟩=> ⟨xt ns c.k 0,Iv bl c.dy.length 0,Iu bl c.dy.length 0⟩
def QD (i:Nat):List Nat->Bool
 |[]=>true
 |j::l=>match Nat.beq i j with
  |true=>false
  |false=>QD i l
def v7:List Nat->Bool
 |[]=>true
 |i::l=>QD i l&&v7 l
def Cc (r:Ren) (n:Nat) (s:Tr W):List (Nat×W)->Bool
 |[]=>true
 |(t,v)::l=>match s.get t with
  |some v'=>ly n v&&eC (r.av v) v'&&Cc r n s l
  |none=>false
def Ag (r:Ren) (n:Nat) (h:Hp):List dG->Nat->Bool
 |[],_=>true
 |o::os,i=>match h.get (r.id i) with
  |some o'=>KI n o&&dY r (r.tM i) o o'&&Ag r n h os (i+1)
  |none=>false
def L4 (pc:List (SB×Bool)) (e:V):Option Int×Option Int:=match e with
 | .lit z=>(some z,some z)
 |e=>bounds e pc
def Re (a b:Int):Bool:=decide (-9223372036854775808<=a)&&decide (b<=9223372036854775807)
def EN (pc:List (SB×Bool)) (e:V):Option Int×Option Int:=match e with
 | .wrap .i64 (.add a b)=>match L4 pc a,L4 pc b with
   |(some la,some ha),(some lb,some Y)=>if Re (la+lb) (ha+Y) then (some (la+lb),some (ha+Y)) else bounds e pc
   |_,_=>bounds e pc
 | .wrap .i64 (.sub a b)=>match L4 pc a,L4 pc b with
   |(some la,some ha),(some lb,some Y)=>if Re (la-Y) (ha-lb) then (some (la-Y),some (ha-lb)) else bounds e pc
   |_,_=>bounds e pc
 |e=>L4 pc e
def EP (a b:Option Int):Bool:=match a,b with
 |some x,some y=>decide (x<y)
 |_,_=>false
def JF (a b:Option Int):Bool:=match a,b with
 |some x,some y=>decide (x<=y)
 |_,_=>false
def q? (pc:List (SB×Bool)) (c:SB) (v:Bool):Bool:=
 match jK pc c with
 |some b=>b == v
 |none=>match c with
  | .lt a b=>match v with
    |true=>EP (EN pc a).2 (EN pc b).1
    |false=>JF (EN pc b).2 (EN pc a).1
  | .eq a b=>match v with
    |true=>false
    |false=>EP (EN pc a).2 (EN pc b).1||EP (EN pc b).2 (EN pc a).1
  |_=>false
def Cu (pv:List (SB×Bool)->SB->Bool->Bool) (r:Ren) (pc:List (SB×Bool)):List (SB×Bool)->Bool
 |[]=>true
 |(c,v)::l=>pv pc (r.sb c) v&&Cu pv r pc l
def CS.fits (pv:List (SB×Bool)->SB->Bool->Bool) (c:CS) (s:St) (r:Ren):Bool:=
 Nat.ble r.ns.length 900&&Nat.beq r.bl.length c.dy.length&&v7 r.bl&&Cc r c.dy.length s.bD c.bD&&Ag r c.dy.length s.h c.dy 0&&Cu pv r s.pc c.pc
theorem ua: ∀{l:List (Nat×W)} {t:Tr W} {i:Nat} {v:W},(nq l t).get i=some v->(i,v)∈l\/t.get i=some v
 |[],t,i,v,h=> .inr h
 |(j,x)::l,t,i,v,h=>by
  simp only [nq] at h;rcases ua h with h|h
  all_goals grind [Tr.bR]
theorem jb: ∀{l:List dG} {i:Nat} {t:Tr dG} {j:Nat},(nY l i t).get j=if i<=j/\j<i+l.length then l[j-i]? else t.get j
 |[],i,t,j=>by rw [af ad];rfl
 |o::os,i,t,j=>by
  simp only [nY];rw [jb,Tr.bR]
  grind
theorem KL {i:Nat}: ∀{l:List Nat},QD i l=true->i∉l
 |[],_=>by simp
 |j::l,h=>by
  simp only [QD] at h;split at h
  ·grind
  ·rename_i Y;have:=amY Y;simp [this,KL h]
theorem oD: ∀{l:List Nat},v7 l=true->∀{i j x:Nat},eS l i=some x->eS l j=some x->i=j
 |[],_,i,_,_,h,_=>by simp [eS] at h
 |y::l,hd,i,j,x,U,Z=>by
  simp only [v7,an] at hd;have hn:=KL hd.1
  have hm: ∀{i:Nat} {l:List Nat} {x:Nat},eS l i=some x->x∈l:=by
   intro i l x h
   grind [di]
  cases i with
  |zero=>
   cases j with
   |zero=>rfl
   |succ j=>
    grind [eS]
  |succ i=>
   cases j with
   |zero=>
    grind [eS]
   |succ j=> simp only [eS] at U Z;rw [oD hd.2 U Z]
theorem A6 {r:Ren} {n:Nat} {s:Tr W}: ∀{l:List (Nat×W)},Cc r n s l=true->∀{t:Nat} {v:W},(t,v)∈l->∃v',s.get t=some v'/\ly n v=true/\r.av v=v'
 |[],_,_,_,h=>by simp at h
 |(t0,v0)::l,hs,t,v,h=>by
  simp only [Cc] at hs;split at hs
  ·rename_i v' hv;simp only [an] at hs;rcases aw.1 h with h|h
   ·grind [jt]
   ·exact A6 hs.2 h
  grind
theorem iw {r:Ren} {n:Nat} {h:Hp}: ∀{l:List dG} {i:Nat},Ag r n h l i=true->∀{j:Nat} {o:dG},l[j]?=some o->∃o',h.get (r.id (i+j))=some o'/\KI n o=true/\dY r (r.tM (i+j)) o o'=true
 |[],_,_,_,_,h=>by simp at h
 |o0::os,i,hs,j,o,hj=>by
  simp only [Ag] at hs;split at hs
  ·rename_i o' ho;simp only [an] at hs
   cases j with
   |zero=>
    grind
   |succ j=>
    have:=iw hs.2 (j:=j) (by simpa using hj)
    grind
  grind
def n! (pv:List (SB×Bool)->SB->Bool->Bool):Prop:= ∀(ρ:Nat->Int) (pc:List (SB×Bool)) (c:SB) (v:Bool),bW ρ pc->pv pc c v=true->c.den ρ=v
theorem zB {ρ:Nat->Int} {pc:List (SB×Bool)} (hp:bW ρ pc) (e:V):qV (L4 pc e).1 (L4 pc e).2 (e.den ρ):=by
 unfold L4
 grind [qV,V.den,lT]
theorem DG {a b x:Int} (h:Re a b=true) (U:a<=x) (Z:x<=b):IntKind.i64.wrap x=x:=by
 simp only [Re,an,decide_eq_true_eq] at h;rw [<- j9]
 grind [rM]
theorem Se {ρ:Nat->Int} {pc:List (SB×Bool)} (hp:bW ρ pc) (e:V):qV (EN pc e).1 (EN pc e).2 (e.den ρ):=by
 unfold EN;split
 ·rename_i a b;have ha:=zB hp a;have Y:=zB hp b;split
  ·rename_i la ha' lb Fj e1 e2;rw [e1] at ha;rw [e2] at Y;have a1:=ha.1 la rfl;have a2:=ha.2 ha' rfl;have b1:=Y.1 lb rfl;have b2:=Y.2 Fj rfl;split
   ·rename_i hi;simp only [V.den];rw [DG hi J J];constructor<;>intro l hl<;>simp at hl<;>omega
   ·exact lT hp
  ·exact lT hp
 ·rename_i a b;have ha:=zB hp a;have Y:=zB hp b;split
  ·rename_i la ha' lb Fj e1 e2;rw [e1] at ha;rw [e2] at Y;have a1:=ha.1 la rfl;have a2:=ha.2 ha' rfl;have b1:=Y.1 lb rfl;have b2:=Y.2 Fj rfl;split
   ·rename_i hi;simp only [V.den];rw [DG hi J J];constructor<;>intro l hl<;>simp at hl<;>omega
   ·exact lT hp
  ·exact lT hp
 grind [zB]
theorem AR {a b:Option Int} {x y:Int} (h:EP a b=true) (U: ∀z,a=some z->x<=z) (Z: ∀z,b=some z->z<=y):x<y:=by
 unfold EP at h
 grind
theorem Pj {a b:Option Int} {x y:Int} (h:JF a b=true) (U: ∀z,a=some z->x<=z) (Z: ∀z,b=some z->z<=y):x<=y:=by
 unfold JF at h
 grind
theorem NA:n! q?:=by
 intro ρ pc c v hp h;unfold q? at h;split at h
 ·rename_i b Y
  grind [gq]
 ·split at h
  ·have ha:=fun a=>Se hp a;split at h
   ·have:=AR h (ha _).2 (ha _).1
    grind [SB.den]
   ·have:=Pj h (ha _).2 (ha _).1
    grind [SB.den]
  ·have ha:=fun a=>Se hp a;split at h
   ·grind
   ·simp only [amI] at h;simp only [SB.den,beq_eq_false_iff_ne,ne_eq];rcases h with h|h
    ·have:=AR h (ha _).2 (ha _).1;omega
    ·have:=AR h (ha _).2 (ha _).1;omega
  grind
theorem D5 {pv:List (SB×Bool)->SB->Bool->Bool} (hpv:n! pv) {r:Ren} (hl:r.ns.length<=900) {ρ:Nat->Int} {pc:List (SB×Bool)} (hp:bW ρ pc): ∀{l:List (SB×Bool)},Cu pv r pc l=true->bW (r.env ρ) l
 |[],_=>by intro c b h; simp at h
 |(c0,v0)::l,h=>by
  simp only [Cu,an] at h;intro c b hm;rcases aw.1 hm with hm|hm
  ·simp only [ak] at hm;obtain⟨rfl,rfl⟩:=hm;rw [<- Ren.zV hl];exact hpv ρ pc _ _ hp h.1
  ·exact D5 hpv hl hp h.2 c b hm
theorem yY [bI] {pv:List (SB×Bool)->SB->Bool->Bool} (hpv:n! pv) {E:En} {c:CS} {s:St} {r:Ren} {a:Act} {w:World} (f:Fit E s a w) (h:c.fits pv s r=true):r.ns.length<=900/\Fit (E.gB r) c.st a w/\
 ∀id o,c.st.h.get id=some o->∃o',s.h.get (r.id id)=some o':=by
 unfold CS.fits at h;simp only [an] at h;obtain⟨⟨⟨⟨⟨U,Z⟩,h3⟩,h4⟩,h5⟩,h6⟩:=h;have hl:=amf U;have hn:=aq Z
 have uL: ∀id o,c.st.h.get id=some o->c.dy[id]?=some o:=by
  intro id o ho;have:(nY c.dy 0 .nil).get id=some o:=ho
  grind [jb,Tr.get]
 refine⟨hl,⟨⟨?_,?_,?_,?_,f.rel.pS,bI.gB f.rel.iT fun i hi=>Ren.lE hl hi,?_⟩,?_,D5 hpv hl f.pc h6⟩,?_⟩
 ·intro id hid hd;have:id<r.bl.length:=hd.1;have hid:c.dy.length<=id:=hid;omega
 ·intro x hx
  grind [CS.st]
 ·intro id o ho;obtain⟨o',g1,g2,g3⟩:=iw h5 (uL id o ho);rw [ay] at g1 g3;obtain⟨q1,q2,q3⟩:=f.rel.live _ _ g1;have fe:=(aW.1 (uL id o ho)).1;exact⟨⟨J,q1⟩,OR.gB hl (by rw [hn]; exact g2) g3 q2,q3⟩
 ·intro id NY o o' ho Aw he;obtain⟨p,g1,_⟩:=iw h5 (uL id o ho);obtain⟨p',g1',_⟩:=iw h5 (uL NY o' Aw);rw [ay] at g1 g1';have heq:=f.rel.inj _ _ _ _ g1 g1' he;have fe:=(aW.1 (uL id o ho)).1;have aeY:=(aW.1 (uL NY o' Aw)).1;unfold Ren.id at heq
  cases e1:eS r.bl id with
  |none=>rw [di,am2] at e1; omega
  |some x=>
   cases e2:eS r.bl NY with
   |none=>rw [di,am2] at e2; omega
   |some y=> rw [e1,e2] at heq;simp only at heq;subst heq;exact oD h3 e1 e2
 ·intro b x Y;obtain⟨q1,q2,q3⟩:=f.rel.hid b x Y;refine⟨q1,q2,fun id o ho=>?_⟩;obtain⟨o',g1,_⟩:=iw h5 (uL id o ho);rw [ay] at g1;exact q3 _ o' g1
 ·intro t v ht;have:(nq c.bD .nil).get t=some v:=ht;rcases ua this with h|h
  ·obtain⟨v',g1,g2,g3⟩:=A6 h4 h;obtain⟨u,q1,q2⟩:=f.sr t v' g1
   grind [VR.gB]
  grind [Tr.get]
 grind [iw]
end
end Go.As
end
section
namespace Go.As
noncomputable section
open Go.RowKit
structure p! where
 w0:World
 ro:Nat->Prop
 ρ0:Nat->Int
structure Top [bI] (B:p!) (E:En) (s:St) (a:Act) (w:World):Prop where
 fit:Fit E s a w
 hi: ∀i,900<=i->E.ρ i=B.ρ0 i
 ro: ∀b,B.ro b->E.ro b
 below:Below B.w0.heap.size B.w0 w
 own: ∀id o,s.h.get id=some o->B.w0.heap.size<=(E.θ id).1
theorem Top.then [bI] {B:p!} {E:En} {s s':St} {a a':Act} {w w':World} (t:Top B E s a w) (h:mH E s a w s' a' w'): ∃E',Top B E' s' a' w'/\E'.ρ=E.ρ:=by
 obtain⟨_,_,E',st,f'⟩:=h;refine⟨E',⟨f',fun i hi=>by rw [st.ρ]; exact t.hi i hi,fun b Y=>st.ro b (t.ro b Y),?_,?_⟩,st.ρ⟩
 ·refine t.below.trans ⟨st.os,st.tape,st.output,st.size,fun k hk=>?_⟩
  exact st.bX k (amp hk t.below.size) fun id o ho he=>by have:=t.own id o ho;omega
 ·intro id o ho;rcases aQ (E'.θ id).1 w.heap.size with h|h
  ·obtain⟨qX,o0,h0,he⟩:=st.own id o ho h;rw [<- he];exact t.own qX o0 h0
  ·exact bk t.below.size h
theorem Top.fits [bI] {pv:List (SB×Bool)->SB->Bool->Bool} (hpv:n! pv) {B:p!} {E:En} {c:CS} {s:St} {r:Ren} {a:Act} {w:World} (t:Top B E s a w) (h:c.fits pv s r=true):r.ns.length<=900/\Top B (E.gB r) c.st a w:=by
 obtain⟨hl,f,ho⟩:=yY hpv t.fit h;refine⟨hl,f,fun i hi=>?_,t.ro,t.below,fun id o hid=>?_⟩
 ·show r.env E.ρ i=_;rw [Ren.lE hl hi];exact t.hi i hi
 ·obtain⟨o',h'⟩:=ho id o hid;exact t.own _ _ h'
inductive Fr where
 |seq (p:List Nat) (c:Code)
 |block (id:Nat)
def Iy {α:Type}:T α->(α->Bool)->Bool
 | .fail,_=>false
 | .ret a,f=>f a
 | .split _ x y,f=>Iy x f&&Iy y f
structure Cfg where
 tt:TT
 call:eh
 draw:Nat->List Oper->St->T St
 lf:Nat
 pv:List (SB×Bool)->SB->Bool->Bool
 res:List ResultVar
def Cfg.ev (g:Cfg) (c:Code) (s:St):T (Ex×St):=iP g.tt g.call g.draw g.lf c s
def isTrue:Option (List W)->Bool
 |some [.bool (.lit b)]=>b
 |_=>false
def YI (g:Cfg) (e:Ex) (s:St):Bool:=match e with
 | .exit _=>false
 |_=>isTrue (kE g.tt s g.res)
def aek:W->W->Bool
 | .int _ (.lit a),.int _ (.lit b)=>a == b
 | .int _ (.lit _),.int _ _=>false
 | .slice _ _ n _,.slice _ _ m _=>Nat.beq n m
 | .slice _ _ _ _,_=>false
 | .eg,.eg=>true
 | .eg,_=>false
 |_,_=>true
def quick (s:Tr W):List (Nat×W)->Bool
 |[]=>true
 |(t,v)::l=>match s.get t with
  |some v'=>match aek v v' with
   |true=>quick s l
   |false=>false
  |none=>false
def JI (pv:List (SB×Bool)->SB->Bool->Bool) (s:St):List CS->Bool
 |[]=>false
 |c::cs=>match quick s.bD c.bD with
  |false=>JI pv s cs
  |true=>match c.fits pv s (c.kP s) with
   |true=>true
   |false=>JI pv s cs
abbrev ajQ:=List Nat->Option (List CS)
mutual
def go (g:Cfg) (eV:ajQ):Nat->List Nat->Code->List Fr->St->Bool
 |0,_,_,_,_=>false
 |n+1,p,c,fr,s=>match eV p with
  |some cs=>JI g.pv s cs
  |none=>match c with
   | .seq a b=>go g eV n (0::p) a (.seq (1::p) b::fr) s
   | .block id b=>go g eV n (0::p) b (.block id::fr) s
   |c=>Iy (g.ev c s) fun (e,s')=>cont g eV n fr e s'
def cont (g:Cfg) (eV:ajQ):Nat->List Fr->Ex->St->Bool
 |0,_,_,_=>false
 |n+1,fr,e,s=>match fr with
  |[]=>YI g e s
  | .seq p c::fr=>match e with
    | .normal=>go g eV n p c fr s
    |e=>cont g eV n fr e s
  | .block id::fr=>match e with
    | .exit j=>match Nat.beq j id with
      |true=>cont g eV n fr .normal s
      |false=>cont g eV n fr (.exit j) s
    |e=>cont g eV n fr e s
end
def apart (pc:List (SB×Bool)) (x:V):List V->Bool
 |[]=>true
 |y::l=>match decEq pc x y with
  |some false=>apart pc x l
  |_=>false
structure Hint where
 ts:List (SB×Bool):=[]
 xs:List V:=[]
 n:Nat:=0
section
variable {P:Program} {g:Cfg} {qu:Nat->List Oper->Bool} {N:Nat} {body:Code} {B:p!} {Q:Exit->Act->World->Prop}
structure alO [bI] (P:Program) (g:Cfg) (qu:Nat->List Oper->Bool):Prop where
 tt:ep P g.tt
 call:gY P g.call
 draw:vq P qu g.draw
 pv:n! g.pv
theorem Top.pc [bI] {B:p!} {E:En} {s:St} {a:Act} {w:World} {pc:List (SB×Bool)} (t:Top B E s a w) (hp:bW E.ρ pc):Top B E { s with pc:=pc } a w:=
 ⟨⟨t.fit.rel,t.fit.sr,hp⟩,t.hi,t.ro,t.below,t.own⟩
end
end
end Go.As
end
section
namespace Go.As
noncomputable section
def Ma (h:Hp) (o:dG):Hp:=⟨h.m.put h.next (some o),h.next+1,h.res⟩
def aai {α:Type} (c:FC) (x:V) (ty:Nat) (s:St) (k:W->St->T α):T α:=match c with
 | .ck c=>k (vf c x) s
 | .mp t=>k (.map s.h.next) { s with h:=Ma s.h (.jM x t) }
 | .own t=>jz s (pQ (dO x) (.lit 0)) fun s b=>match b with
   |false=>k (.oS s.h.next (dO x) t) { s with h:=Ma s.h (.vec x t ty []) }
   |true=>jz s (pQ (mn x) (.ej (.i 3))) fun s b=>match b with
    |true=>k (.slice s.h.next 0 0 (.rest (rowOf t).es)) { s with h:=Ma s.h (.cells [] ty) }
    |false=>k (.wZ x t) s
def RC {α:Type} (eR:List Nat) (x:V):List FC->Nat->St->(List W->St->T α)->T α
 |[],_,s,k=>k [] s
 |c::cs,j,s,k=>aai c (iu j x) (eR.getD (j+2) 0) s fun v s=>RC eR x cs (j+1) s fun vs s=>k (v::vs) s
def aao {α:Type} (t:Nat) (eR:List Nat) (x:V) (s:St) (k:W->St->T α):T α:=match (qj t).ptr with
 |false=>match (qj t).cs with
  |[c]=>aai c x (eR.getD 1 0) s k
  |_=> .fail
 |true=>RC eR x (qj t).cs 0 s fun vs s=>k (.ptr s.h.next 0) { s with h:=Ma s.h (.cells vs (eR.getD 0 0)) }
def aah {α:Type} (id:Nat) (x:V) (s:St) (k:St->T α):T α:=match s.h.get id with
 |some o=>match o with
  | .qY e t eR ov=>sY x ov s fun r s=>match r with
    |some _=>k s
    |none=>jz s (GP e (mW x)) fun s b=>match b with
     |true=>k s
     |false=>aao t eR (.op .Ds e (mW x)) { s with h:=s.h.drop id } fun v s=>k { s with h:=s.h.put id (.qY e t eR ((x,v)::ov)) }
  |_=>k s
 |none=>k s
def aaV (E:En) (H:Hp) (b:Nat):Prop:=(∃id o,H.get id=some o/\(E.θ id).1=b)\/∃x,E.hd b=some x
structure View [bI] (E:En) (H:Hp) (w:World) (E':En) (H':Hp):Prop where
 rel:bP E' H' w
 kp:fg E w.heap E' w.heap
 qW: ∀b,E'.ro b->E.ro b\/aaV E H b
 hold: ∀b,aaV E' H' b->aaV E H b
theorem View.refl [bI] {E:En} {H:Hp} {w:World} (r:bP E H w):View E H w E H:=
 ⟨r,⟨rfl,fun _ h=>h,fun _ _=>rfl,fun _ _=>rfl,fun _ h=>h,fun _ _=>rfl⟩,fun _ h=> .inl h,fun _ h=>h⟩
theorem View.trans [bI] {E E1 E2:En} {H H1 H2:Hp} {w:World} (a:View E H w E1 H1) (b:View E1 H1 w E2 H2):View E H w E2 H2:=
 ⟨b.rel,⟨b.kp.ρ.trans a.kp.ρ,fun id h=>b.kp.dm id (a.kp.dm id h),fun id h=>(b.kp.θ id (a.kp.dm id h)).trans (a.kp.θ id h),fun id h=>(b.kp.κ id (a.kp.dm id h)).trans (a.kp.κ id h),fun x h=>b.kp.ro x (a.kp.ro x h),fun _ _=>rfl⟩,
  fun x h=>(b.qW x h).elim (a.qW x) fun h=> .inr (a.hold x h),fun x h=>a.hold x (b.hold x h)⟩
theorem fg.trans {E E1 E2:En} {h:Array Obj} (a:fg E h E1 h) (b:fg E1 h E2 h):fg E h E2 h:=
 ⟨b.ρ.trans a.ρ,fun id h=>b.dm id (a.dm id h),fun id h=>(b.θ id (a.dm id h)).trans (a.θ id h),fun id h=>(b.κ id (a.dm id h)).trans (a.κ id h),fun x h=>b.ro x (a.ro x h),fun _ _=>rfl⟩
theorem View.aeq [bI] {E E':En} {H H':Hp} {w:World} (r:bP E H w) (s:eM E H w E' H' w) (r':bP E' H' w):View E H w E' H':=by
 refine⟨r',s.keeps r,fun b Y=>?_,fun b Y=>?_⟩
 ·rcases s.qW b Y with h|h|h
  ·exact .inl h
  ·exact .inr (.inl h)
  ·have:=r'.pS b Y;omega
 ·rcases Y with ⟨id,o,U,Z⟩|⟨x,U⟩
  ·obtain⟨qX,o0,g1,g2⟩:=s.own id o U (fF r' U);exact .inl ⟨qX,o0,g1,g2.trans Z⟩
  ·exact .inr ⟨x,by rw [<- s.hd]; exact U⟩
theorem uX (H:Hp) (o:dG) (j:Nat):(Ma H o).get j=if j=H.next then some o else H.get j:=by simp [Ma,Hp.get,Tr.bR]
def En.Ms (E:En) (b o c n:Nat):En:={ E.ext n (b,o) c with hd:=fun q=>if q=b then none else E.hd q }
theorem zS [bI] {E:En} {H:Hp} {w:World} (r:bP E H w) (b o c:Nat):fg E w.heap (E.Ms b o c H.next) w.heap:=by have hu: ∀{i:Nat},E.dm i->i≠H.next:=fun h e=>r.fresh _ (au _) (e▸h);exact⟨rfl,fun _ h=> .inr h,fun _ h=>En.ext_θ E H.next (b,o) c (hu h),fun _ h=>En.ext_κ E H.next (b,o) c (hu h),fun _ h=>h,fun _ _=>rfl⟩
theorem S2 [bI] {E:En} {H:Hp} {w:World} (r:bP E H w) {b o c:Nat} {x:Nat×D×Nat} (Y:E.hd b=some x) (hx: ∀id o,H.get id=some o->nf o=true\/(E.θ id).1≠x.1) (ao:dG)
 (ho:OR (E.Ms b o c H.next) w.heap H.next ao):View E H w (E.Ms b o c H.next) (Ma H ao):=by
 have hu: ∀{i:Nat},E.dm i->i≠H.next:=fun h e=>r.fresh _ (au _) (e▸h);obtain⟨q1,q2,q3⟩:=r.hid b x Y;have kp:=zS r b o c;have hθ: ∀{i:Nat},E.dm i->(E.Ms b o c H.next).θ i=E.θ i:=fun h=>kp.θ _ h;have hθn:(E.Ms b o c H.next).θ H.next=(b,o):=En.ext_θ_new E H.next (b,o) c;refine⟨⟨fun id hid hd=>?_,fun q hq=>?_,fun id o2 Z=>?_,fun i j o1 o2 U Z he=>?_,r.pS,r.iT,fun q y hq=>?_⟩,kp,fun _ h=> .inl h,fun q hq=>?_⟩
 ·have hid:H.next+1<=id:=hid;rcases hd with hd|hd
  ·have hd:id=H.next:=hd;omega
  ·exact r.fresh id J hd
 ·obtain⟨g1,g2⟩:=r.res q hq;refine⟨Nat.lt_succ_of_lt g1,?_⟩;rintro (hd|hd)
  ·have hd:q=H.next:=hd;omega
  ·exact g2 hd
 ·rw [uX] at Z;split at Z
  ·rename_i he;simp only [ag] at Z;subst Z he;exact⟨.inl rfl,ho,by rw [hθn]; exact q2⟩
  ·obtain⟨g1,g2,g3⟩:=r.live id o2 Z;refine⟨.inr g1,g2.XJ kp g1 rfl ?_,by rw [hθ g1]; exact g3⟩;rcases hx id o2 Z with h|h
   ·exact .inl h
   ·refine .inr fun key q j hq=> ⟨?_,rfl⟩;show (if q=b then none else E.hd q)=_;rw [af]
    ·exact hq
    ·rintro rfl;rw [Y] at hq;simp only [ag] at hq;rw [hq] at h;exact h rfl
 ·rw [uX] at U Z;split at U<;>split at Z
  ·omega
  ·rename_i e1 _;have g:=(r.live j o2 Z).1;rw [e1,hθn,hθ g] at he;exact absurd he.symm (q3 j o2 Z)
  ·rename_i _ e1;have g:=(r.live i o1 U).1;rw [e1,hθn,hθ g] at he;exact absurd he (q3 i o1 U)
  ·rw [hθ (r.live i o1 U).1,hθ (r.live j o2 Z).1] at he;exact r.inj i j o1 o2 U Z he
 ·have hq:(if q=b then none else E.hd q)=some y:=hq;split at hq
  ·simp at hq
  ·rename_i fZ;obtain⟨p1,p2,p3⟩:=r.hid q y hq;refine⟨p1,p2,fun id o2 Z=>?_⟩;rw [uX] at Z;split at Z
   ·rename_i he;rw [he,hθn];exact fun e=>fZ e.symm
   ·rw [hθ (r.live id o2 Z).1];exact p3 id o2 Z
 ·rcases hq with ⟨id,o2,Z,he⟩|⟨y,hq⟩
  ·rw [uX] at Z;split at Z
   ·rename_i e;rw [e,hθn] at he;have he:b=q:=he;exact .inr ⟨x,by rw [<- he]; exact Y⟩
   ·rw [hθ (r.live id o2 Z).1] at he;exact .inl ⟨id,o2,Z,he⟩
  ·have hq:(if q=b then none else E.hd q)=some y:=hq;split at hq
   ·simp at hq
   ·exact .inr ⟨y,hq⟩
theorem Ku [bI] {E:En} {H:Hp} {w:World} (r:bP E H w) {id:Nat} {ao:dG} (hd:E.dm id) (kO: ¬E.ro (E.θ id).1) (fZ: ∀j o,H.get j=some o->j≠id/\(E.θ j).1≠(E.θ id).1) (hh: ∀x,E.hd (E.θ id).1≠some x) (ho:OR E w.heap id ao):bP E (H.put id ao) w:=by
 have hg: ∀j o,(H.put id ao).get j=some o->(j=id/\o=ao)\/(j≠id/\H.get j=some o):=by
  intro j o h;rw [Hp.bR] at h;split at h
  ·rename_i e; simp only [ag] at h; exact .inl ⟨e,h.symm⟩
  ·rename_i e; exact .inr ⟨e,h⟩
 refine⟨r.fresh,r.res,fun j o h=>?_,fun i j o1 o2 U Z he=>?_,r.pS,r.iT,fun q y hq=>?_⟩
 ·rcases hg j o h with ⟨rfl,rfl⟩|⟨_,h⟩
  ·exact⟨hd,ho,kO⟩
  ·exact r.live j o h
 ·rcases hg i o1 U with ⟨e1,_⟩|⟨e1,g1⟩ <;>rcases hg j o2 Z with ⟨e2,_⟩|⟨e2,g2⟩
  ·omega
  ·rw [e1] at he;exact absurd he.symm (fZ j o2 g2).2
  ·rw [e2] at he;exact absurd he (fZ i o1 g1).2
  ·exact r.inj i j o1 o2 g1 g2 he
 ·obtain⟨p1,p2,p3⟩:=r.hid q y hq;refine⟨p1,p2,fun j o h=>?_⟩;rcases hg j o h with ⟨rfl,rfl⟩|⟨_,h⟩
  ·exact fun e=>hh y (by rw [e]; exact hq)
  ·exact p3 j o h
structure nU [bI] (B:Nat) (key:D) (Z?:Nat->Prop) (w:World) (E:En) (H:Hp) (E':En) (H':Hp):Prop where
 view:View E H w E' H'
 hd: ∀b x,E.hd b=some x->E'.hd b=some x\/∃j,Z? j/\x=(B,key,j)
 DP: ∀b x,E'.hd b=some x->E.hd b=some x
 new: ∀id o,H'.get id=some o->H.get id=some o\/(nf o=true/\H.next<=id)
 NK:H.next<=H'.next
 ro: ∀b,E'.ro b->E.ro b
theorem nU.refl [bI] {B:Nat} {key:D} {Z?:Nat->Prop} {w:World} {E:En} {H:Hp} (r:bP E H w):nU B key Z? w E H E H:=
 ⟨View.refl r,fun _ _ h=> .inl h,fun _ _ h=>h,fun _ _ h=> .inl h,au _,fun _ h=>h⟩
theorem nU.trans [bI] {B:Nat} {key:D} {Z? J1 J2:Nat->Prop} {w:World} {E E1 E2:En} {H H1 H2:Hp} (a:nU B key J1 w E H E1 H1) (b:nU B key J2 w E1 H1 E2 H2) (U: ∀j,J1 j->Z? j) (Z: ∀j,J2 j->Z? j):nU B key Z? w E H E2 H2:=by
 refine⟨a.view.trans b.view,fun q x h=>?_,fun q x h=>a.DP q x (b.DP q x h),fun id o h=>?_,bk a.NK b.NK,fun q h=>a.ro q (b.ro q h)⟩
 ·rcases a.hd q x h with h|⟨j,h,e⟩
  ·rcases b.hd q x h with h|⟨j,h,e⟩
   ·exact .inl h
   ·exact .inr ⟨j,Z j h,e⟩
  ·exact .inr ⟨j,U j h,e⟩
 ·rcases b.new id o h with h|⟨h,g⟩
  ·exact a.new id o h
  ·exact .inr ⟨h,bk a.NK g⟩
theorem nU.nf [bI] {B:Nat} {key:D} {Z?:Nat->Prop} {w:World} {E E':En} {H H':Hp} (a:nU B key Z? w E H E' H') (r:bP E H w) (hx: ∀id o,H.get id=some o->nf o=true\/(E.θ id).1≠B): ∀id o,H'.get id=some o->nf o=true\/(E'.θ id).1≠B:=by
 intro id o h;rcases a.new id o h with h|⟨h,_⟩
 ·rcases hx id o h with g|g
  ·exact .inl g
  ·exact .inr (by rw [a.view.kp.θ id (r.live id o h).1]; exact g)
 ·exact .inl h
theorem nU.own [bI] {B:Nat} {key:D} {Z?:Nat->Prop} {w:World} {E E':En} {H H':Hp} (a:nU B key Z? w E H E' H') {j ty:Nat} (hj: ¬Z? j) {c:FC} {d:D} {u:Value} (ho:oH E w.heap B key j ty c d u):oH E' w.heap B key j ty c d u:=
 ho.bX a.view.kp fun b Y=>by
  rcases a.hd b _ Y with h|⟨i,h,e⟩
  ·exact⟨h,rfl⟩
  ·simp only [ak,true_and] at e;exact absurd (e▸h) hj
theorem sq [bI] {E:En} {H:Hp} {w:World} (r:bP E H w) {b o c B j:Nat} {key:D} (Y:E.hd b=some (B,key,j)) (hx: ∀id o,H.get id=some o->nf o=true\/(E.θ id).1≠B) (ao:dG) (hn:nf ao=true)
 (ho:OR (E.Ms b o c H.next) w.heap H.next ao):nU B key (·= j) w E H (E.Ms b o c H.next) (Ma H ao):=by
 refine⟨S2 r Y hx ao ho,fun q x h=>?_,fun q x h=>?_,fun id o h=>?_,amt _,fun _ h=>h⟩
 ·show (if q=b then none else E.hd q)=some x\/_;split
  ·rename_i e;subst e;rw [Y] at h;simp only [ag] at h;exact .inr ⟨j,rfl,h.symm⟩
  ·exact .inl h
 ·have h:(if q=b then none else E.hd q)=some x:=h;split at h
  ·simp at h
  ·exact h
 ·rw [uX] at h;split at h
  ·rename_i e;simp only [ag] at h;exact .inr ⟨by rw [<- h]; exact hn,J⟩
  ·exact .inl h
theorem Rd.i3 {ro:Nat->Prop} {h:Array Obj} {t:Nat} {u:Value} (r:Rd ro h (.sl t) (.i 3) u):False:=by
 generalize hd:D.i 3=d at r
 cases r with
 |nil t=>simp at hd
 |vG t a cap=>simp at hd
 |one t c b o cap ds f hr hc Y U Z=>cases ds<;>simp [dL] at hd
 |many t cs b o cap rows f hr hc Y hl U Z=>cases rows<;>simp [dL] at hd
theorem Rd.akw {ro:Nat->Prop} {h:Array Obj} {t:Nat} {d:D} {x:Option Addr} {c:Nat} (r:Rd ro h (.sl t) d (.slice x 0 c)):d.l= []:=by
 generalize hu:Value.slice x 0 c=u at r
 cases r with
 |nil t=>rfl
 |vG t a cap=>rfl
 |one t c b o cap ds f hr hc Y U Z=> simp only [Value.slice.injEq] at hu;rw [bM];exact ame hu.2.1.symm
 |many t cs b o cap rows f hr hc Y hl U Z=> simp only [Value.slice.injEq] at hu;rw [bM,ame hu.2.1.symm];rfl
theorem RD [bI] {α:Type} {ρ:Nat->Int} {c:FC} {x:V} {ty:Nat} {s:St} {k:W->St->T α} {y:α} {E:En} {w:World} {B j:Nat} {key:D} {u:Value} (hρ:E.ρ=ρ) (r:bP E s.h w) (hp:bW ρ s.pc) (hx: ∀id o,s.h.get id=some o->nf o=true\/(E.θ id).1≠B)
 (ho:oH E w.heap B key j ty c (dec (x.den ρ)) u) (h:(aai c x ty s k).leaf ρ=some y) :
 ∃v h' dZ E',bW ρ dZ/\nU B key (·= j) w E s.h E' h'/\VR E' w.heap v u/\(k v { s with h:=h',pc:=dZ }).leaf ρ=some y:=by
 cases c with
 |ck c=> refine⟨_,s.h,s.pc,E,hp,nU.refl r,?_,h⟩;rw [np,hρ];exact Rd.cell ho
 |mp t=>
  obtain⟨b,bL,c,rfl,Z,h3,h4⟩:=ho;refine⟨_,_,s.pc,E.Ms b 0 0 s.h.next,hp,sq r Z hx (.jM x t) rfl ?_,?_,h⟩
  ·simp only [OR];have hθ:(E.Ms b 0 0 s.h.next).θ s.h.next=(b,0):=En.ext_θ_new E s.h.next (b,0) 0;rw [hθ];exact⟨bL,c,h3,by show jO E.ro w.heap t (dec (x.den E.ρ)).l bL.toList; rw [hρ]; exact h4⟩
  ·simp only [VR];have hθ:(E.Ms b 0 0 s.h.next).θ s.h.next=(b,0):=En.ext_θ_new E s.h.next (b,0) 0;rw [hθ];exact⟨rfl,.inl rfl⟩
 |own t=>
  simp only [aai] at h;obtain⟨fA,fj,U⟩:=cH hp h;rw [gZ,cC] at U;simp only [V.den] at U;rcases ho with ⟨⟨a,rfl⟩,Z⟩|⟨b,o,n,cap,a,arr,lo,hi,rfl,g2,g3,g4,g5,g6,g7⟩
  ·have hl:=Z.akw;rw [hl] at U;obtain⟨jw,jl,h3⟩:=cH (s:={ s with pc:=fA }) fj U;rw [gZ,lM] at h3;simp only [V.den] at h3
   have fZ:(enc (dec (x.den ρ)) == enc (.i 3))=false:=by rw [beq_eq_false_iff_ne];intro e;rw [fT e] at Z;exact Z.i3
   rw [fZ] at h3;refine⟨_,s.h,jw,E,jl,nU.refl r,?_,h3⟩;simp only [VR];rw [hρ];exact⟨⟨a,rfl⟩,Z⟩
  ·have hθ: ∀c,(E.Ms b o c s.h.next).θ s.h.next=(b,o):=fun c=>En.ext_θ_new E s.h.next (b,o) c;have hκ: ∀c,(E.Ms b o c s.h.next).κ s.h.next=c:=fun c=>En.ext_κ_new E s.h.next (b,o) c;rcases g7 with ⟨rfl,hd⟩|⟨q1,rfl,us,q3,q4,q5⟩
   ·rw [hd] at U;obtain⟨jw,jl,h3⟩:=cH (s:={ s with pc:=fA }) fj U;rw [gZ,lM] at h3;simp only [V.den,hd,beq_self_eq_true] at h3;refine⟨_,_,jw,E.Ms b o (cap*(rowOf t).es) s.h.next,jl,sq r g3 hx (.cells [] ty) rfl ?_,?_,h3⟩
    ·simp only [OR];rw [hθ,hκ];refine⟨arr,lo,hi,[],g4,by simp only [cB],fun i u hu=>by simp at hu,aml _,?_,g6,ad⟩;rcases g5 with ⟨_,g5⟩|⟨g5,_,g8⟩
     ·exact g5
     ·rw [g5,ama]; exact g8
    ·simp only [VR];refine⟨.inl rfl,a,cap,rfl,aml _,?_⟩;simp only [eE];rw [hθ,hκ];rcases g5 with ⟨g5,_⟩|⟨g5,_,_⟩
     ·exact .inl ⟨g5,ay _⟩
     ·exact .inr ⟨g5,trivial,by rw [g5,ama]⟩
   ·have lA:0<(dec (x.den ρ)).l.length:=by
     have:=q1.2.2;exact amq.2 this
    have fZ:(((dec (x.den ρ)).l.length:Int) == 0)=false:=by rw [beq_eq_false_iff_ne]; omega
    rw [fZ] at U
    have g5:a=⟨b,o,none⟩/\o+cap*(rowOf t).es=arr.size:=by
     rcases g5 with g5|⟨_,g5,_⟩
     ·exact g5
     ·omega
    have r7:sA (rowOf t) []:=fun p hp=>by simp at hp
    have hlen:(bF E.ρ (rowOf t) [] (dec (x.den ρ)).l 0).length<=cap*(rowOf t).es:=by rw [cD r7];exact amv _ g2
    have kp:=zS r b o (cap*(rowOf t).es);refine⟨_,_,fA,E.Ms b o (cap*(rowOf t).es) s.h.next,fj,sq r g3 hx (.vec x t ty []) rfl ?_,?_,U⟩
    ·simp only [OR];rw [hθ,hκ];show (sA (rowOf t) []/\rX (rowOf t) (dec (x.den E.ρ)))/\∃arr lo hi us,w.heap[b]?=some (.cells arr ty (lo,hi))/\cB _ w.heap (bF E.ρ (rowOf t) [] (dec (x.den E.ρ)).l 0) us/\_;rw [hρ];rw [hρ] at q3 hlen;exact⟨⟨r7,q1⟩,arr,lo,hi,us,g4,cB.bX kp _ _ q3,q4,(by show (bF E.ρ (rowOf t) [] (dec (x.den E.ρ)).l 0).length<=_; rw [hρ]; exact hlen),g5.2,g6,q5⟩
    ·simp only [VR];refine⟨.inl rfl,(dec (x.den ρ)).l.length,a,cap,?_,rfl,g2,?_⟩
     ·show (dO x).den E.ρ=_;rw [cC,hρ]
     ·simp only [eE];rw [hθ,hκ];exact .inl ⟨g5.1,ay _⟩
theorem Lr [bI] {α:Type} {ρ:Nat->Int} {eR:List Nat} {x:V} {y:α} {w:World} {B:Nat} {key:D}: ∀{cs:List FC} {j:Nat} {s:St} {k:List W->St->T α} {E:En} {us:List Value},E.ρ=ρ->bP E s.h w->bW ρ s.pc->(∀id o,s.h.get id=some o->nf o=true\/(E.θ id).1≠B)->
 us.length=cs.length->(∀i c u,cs[i]?=some c->us[i]?=some u->oH E w.heap B key (j+i+1) (eR.getD (j+i+2) 0) c ((dec (x.den ρ)).hd (j+i)) u)->(RC eR x cs j s k).leaf ρ=some y->
 ∃vs h' dZ E',bW ρ dZ/\nU B key (fun i=>j<i) w E s.h E' h'/\cB E' w.heap vs us/\(k vs { s with h:=h',pc:=dZ }).leaf ρ=some y
 |[],j,s,k,E,us,hρ,r,hp,hx,hl,ho,h=>by have:us= []:=ame hl;subst this;exact⟨[],s.h,s.pc,E,hp,nU.refl r,by simp only [cB],h⟩
 |c::cs,j,s,k,E,[],hρ,r,hp,hx,hl,ho,h=>by simp at hl
 |c::cs,j,s,k,E,u::us,hρ,r,hp,hx,hl,ho,h=>by
  simp only [RC] at h;have h0:=ho 0 c u rfl rfl;rw [bd,<- oU] at h0;obtain⟨v,U,fA,E1,fj,f1,v1,g1⟩:=RD hρ r hp hx h0 h;have hρ1:E1.ρ=ρ:=f1.view.kp.ρ.trans hρ
  obtain⟨vs,Z,jw,E2,jl,f2,v2,g2⟩:=Lr (s:={ s with h:=U,pc:=fA }) (us:=us) hρ1 f1.view.rel fj (f1.nf r hx) (by simpa using hl) (fun i c' u' hc hu=>by
   have:=ho (i+1) c' u' (by simpa using hc) (by simpa using hu);have e1:j+(i+1)=j+1+i:=J
   rw [e1] at this
   exact f1.own J this) g1
  refine⟨v::vs,Z,jw,E2,jl,f1.trans f2 (fun i hi=>by omega) (fun i hi=>by omega),?_,g2⟩;rw [bV];exact⟨u,us,rfl,VR.bX f2.view.kp _ _ v1,v2⟩
theorem aan [bI] {α:Type} {ρ:Nat->Int} {t:Nat} {eR:List Nat} {x:V} {y:α} {w:World} {B:Nat} {key:D} {s:St} {k:W->St->T α} {E:En} {u:Value} (hρ:E.ρ=ρ) (r:bP E s.h w) (hp:bW ρ s.pc) (hx: ∀id o,s.h.get id=some o->nf o=true\/(E.θ id).1≠B)
 (ho:pH E w.heap B t eR key (dec (x.den ρ)) u) (h:(aao t eR x s k).leaf ρ=some y) :
 ∃v h' dZ E',bW ρ dZ/\nU B key (fun _=>True) w E s.h E' h'/\VR E' w.heap v u/\(k v { s with h:=h',pc:=dZ }).leaf ρ=some y:=by
 unfold pH at ho;unfold aao at h;split at ho
 ·rename_i N5;rw [N5] at h;obtain⟨c,hc,ho⟩:=ho;rw [hc] at h;obtain⟨v,U,fA,E1,fj,f1,v1,g1⟩:=RD hρ r hp hx ho h;exact⟨v,U,fA,E1,fj,⟨f1.view,fun b x Y=>(f1.hd b x Y).imp id fun⟨j,_,e⟩=> ⟨j,trivial,e⟩,f1.DP,f1.new,f1.NK,f1.ro⟩,v1,g1⟩
 ·rename_i N5;rw [N5] at h;obtain⟨b,o,arr,lo,hi,rfl,Z,h3,h4,h5,h6⟩:=ho
  have AA: ∃us:List Value,us.length=(qj t).cs.length/\∀j u,us[j]?=some u->arr[o+j]?=some u:=by
   refine⟨(arr.toList.drop o).take (qj t).cs.length,?_,fun j u hu=>?_⟩
   ·rw [aZ,al6,bh]; omega
   ·rw [amG] at hu;split at hu
    ·rw [amF,br] at hu;exact hu
    ·simp at hu
  obtain⟨us,hl,GK⟩:=AA
  have jE: ∀i c u,(qj t).cs[i]?=some c->us[i]?=some u->u.oneCell'=true/\oH E w.heap B key (i+1) (eR.getD (i+2) 0) c ((dec (x.den ρ)).hd i) u:=by intro i c u hc hu;obtain⟨u',p1,p2,p3⟩:=h6 i c hc;rw [GK i u hu] at p1;simp only [ag] at p1;subst p1;exact⟨p2,p3⟩
  obtain⟨vs,U,fA,E1,fj,f1,v1,g1⟩:=Lr (j:=0) (us:=us) hρ r hp hx hl (fun i c u hc hu=>by
   rw [ay]
   exact (jE i c u hc hu).2) h
  have Rw:E1.hd b=some (B,key,0):=by
   rcases f1.hd b _ Z with q|⟨j,q1,q2⟩
   ·exact q
   ·simp only [ak,true_and] at q2;omega
  have hθ:(E1.Ms b o (arr.size-o) U.next).θ U.next=(b,o):=En.ext_θ_new E1 U.next (b,o) (arr.size-o);have hκ:(E1.Ms b o (arr.size-o) U.next).κ U.next=arr.size-o:=En.ext_κ_new E1 U.next (b,o) (arr.size-o);have kp:=zS f1.view.rel b o (arr.size-o);have hvl:=v1.length
  have f2:=sq (o:=o) (c:=arr.size-o) f1.view.rel Rw (f1.nf r hx) (.cells vs (eR.getD 0 0)) rfl (by
   simp only [OR];rw [hθ,hκ];refine⟨arr,lo,hi,us,h3,cB.bX kp _ _ v1,GK,J,J,h5,fun u hu=>?_⟩;obtain⟨i,hi'⟩:=ano hu;have eu:=(aW.1 hi').1;have akX:i<(qj t).cs.length:=J
   exact (jE i _ u (aM akX) hi').1)
  refine⟨_,_,fA,_,fj,f1.trans f2 (fun _ _=>trivial) (fun _ _=>trivial),?_,g1⟩;simp only [VR];rw [hθ];exact⟨by rw [bd],.inl rfl⟩
theorem eI.one {E:En} {h:Array Obj} {B t:Nat} {eR:List Nat} {ov:List (V×W)} {n:Int} {d:D} (r7:lI E.ρ n ov=none): ∀{ds:List D} {es:List MapEntry},(ds.map jd).Nodup->dH ds (.i n)=some d->eI E h B t eR ov ds es->
 ∃en:MapEntry,pH E h B t eR (.i n) d en.val/\∀e1∈es,e1.key= .int .i64 n->e1=en
 |[],_,_,hf,_=>by simp [dH] at hf
 |a::ds,_,Bv,hf,⟨e0,rr,m,h0,q1,q2,q3,q4⟩=>by
  subst h0;have hk:jd a= .i m:=by rw [q1]; rfl
  simp only [ax,ams] at Bv;simp only [dH] at hf;by_cases hm:m=n
  ·subst hm;rw [ah hk] at hf;simp only [ag] at hf;rw [r7,hf] at q3;refine⟨e0,q3,fun e1 U Z=>?_⟩;rcases aw.1 U with rfl|U
   ·rfl
   ·obtain⟨i,hi⟩:=ano U;exact absurd (eI.set.eI.Cn q4 hi Z) (by rw [<- hk]; exact Bv.1)
  ·rw [af (by rw [hk]; simpa using hm)] at hf;obtain⟨en,p1,p2⟩:=eI.one r7 Bv.2 hf q4;refine⟨en,p1,fun e1 U Z=>?_⟩;rcases aw.1 U with rfl|U
   ·rw [q2] at Z;simp only [Value.int.injEq,true_and] at Z;exact absurd Z hm
   ·exact p2 e1 U Z
theorem eI.Ok {E E3:En} {h:Array Obj} (kp:fg E h E3 h) {B t:Nat} {eR:List Nat} {ov:List (V×W)} {n:Int} {x:V} {v:W} (hx:x.den E.ρ=n) (r7:lI E.ρ n ov=none) (hd: ∀b m j,m≠n->E.hd b=some (B,.i m,j)->E3.hd b=some (B,.i m,j)) :
 ∀{ds:List D} {es:List MapEntry},(∀e1∈es,e1.key= .int .i64 n->VR E3 h v e1.val)->eI E h B t eR ov ds es->eI E3 h B t eR ((x,v)::ov) ds es
 |[],_,_,ho=>ho
 |a::ds,_,hv,⟨e0,rr,m,h0,q1,q2,q3,q4⟩=>by
  subst h0;refine⟨e0,rr,m,rfl,q1,q2,?_,eI.Ok kp hx r7 hd (fun e1 U Z=>hv e1 (by simp [U]) Z) q4⟩;simp only [lI,kp.ρ,hx];by_cases hm:n=m
  ·rw [ah hm];exact hv e0 ad (by rw [q2,hm])
  ·rw [af hm];split at q3
   ·exact VR.bX kp _ _ q3
   ·exact q3.bX kp fun b j Y=> ⟨hd b m j (fun e=>hm e.symm) Y,rfl⟩
theorem aag [bI] {α:Type} {ρ:Nat->Int} {id:Nat} {x:V} {y:α} {w:World} {s:St} {k:St->T α} {E:En} (hρ:E.ρ=ρ) (r:bP E s.h w) (hp:bW ρ s.pc) (h:(aah id x s k).leaf ρ=some y) :
 ∃h' dZ E',bW ρ dZ/\View E s.h w E' h'/\(k { s with h:=h',pc:=dZ }).leaf ρ=some y:=by
 unfold aah at h;split at h
 ·rename_i o hl;split at h
  ·rename_i e t eR ov;obtain⟨fA,fj,U⟩:=xF hp h
   cases r7:lI ρ (x.den ρ) ov with
   |some v=>rw [r7] at U; exact⟨s.h,fA,E,fj,View.refl r,U⟩
   |none=>
    rw [r7] at U;obtain⟨jw,jl,Z⟩:=cH (s:={ s with pc:=fA }) fj U;rw [vR] at Z;simp only [V.den,e9.den,rm] at Z;obtain⟨g0,bL,c',g1,g2⟩:=za r hl;rw [hρ] at g0 g2;have hm: ∀n,lI E.ρ n ov=lI ρ n ov:=fun n=>by rw [hρ]
    cases hf:dH (dec (e.den ρ)).l (.i (x.den ρ)) with
    |none=> rw [hf] at Z;exact⟨s.h,jw,E,jl,View.refl r,Z⟩
    |some d=>
     rw [hf] at Z;simp only [bo,if_true] at Z;have Z:(aao t eR (.op .Ds e (mW x)) { s with pc:=jw,h:=s.h.drop id } fun v s=>k { s with h:=s.h.put id (.qY e t eR ((x,v)::ov)) }).leaf ρ=some y:=Z
     have hdx:dec ((V.op .Ds e (mW x)).den ρ)=d:=by simp only [V.den,e9.den,bB,rm,hf,az]
     obtain⟨en,akK,huq⟩:=eI.one (by rw [hρ]; exact r7) g0.1 hf g2;obtain⟨dst,drl⟩:=vZ r id;have TQ:=(r.live id _ hl).1
     have GN:id<s.h.next:=by
      rcases aQ id s.h.next with q|q
      ·exact q
      ·exact absurd TQ (r.fresh id q)
     have Yi: ∀j o,(s.h.drop id).get j=some o->s.h.get j=some o/\j≠id:=by
      intro j o hj;rw [Hp.j8] at hj;split at hj
      ·simp at hj
      ·rename_i e; exact⟨hj,e⟩
     have hx0: ∀j o,(s.h.drop id).get j=some o->nf o=true\/(E.θ j).1≠(E.θ id).1:=by intro j o hj;obtain⟨q1,q2⟩:=Yi j o hj;exact .inr fun e=>q2 (r.inj j id _ _ q1 hl e)
     obtain⟨v,h3,UD,E3,IG,f3,v3,g3⟩:=aan (s:={ s with pc:=jw,h:=s.h.drop id }) (B:=(E.θ id).1) (key:=.i (x.den ρ)) hρ drl jl hx0 (by rw [hdx]; exact akK) Z;have hθ:=f3.view.kp.θ id TQ;have hρ3:E3.ρ=ρ:=f3.view.kp.ρ.trans hρ
     have hnn: ∀j o,h3.get j=some o->j≠id/\(E3.θ j).1≠(E3.θ id).1:=by
      intro j o hj;rcases f3.new j o hj with q|⟨_,q⟩
      ·obtain⟨q1,q2⟩:=Yi j o q;refine⟨q2,?_⟩;rw [hθ,f3.view.kp.θ j (r.live j o q1).1];exact fun e=>q2 (r.inj j id _ _ q1 hl e)
      ·have q:s.h.next<=j:=q;refine⟨J,fun e=>?_⟩;rw [hθ] at e;rcases f3.view.hold _ (.inl ⟨j,o,hj,rfl⟩) with ⟨i0,o0,q1,q2⟩|⟨y0,q1⟩
       ·obtain⟨q3,q4⟩:=Yi i0 o0 q1;exact q4 (r.inj i0 id _ _ q3 hl (q2.trans e))
       ·rw [e] at q1;exact (r.hid _ _ q1).2.2 id _ hl rfl
     have hr3:bP E3 (h3.put id (.qY e t eR ((x,v)::ov))) w:=by
      refine Ku f3.view.rel (f3.view.kp.dm id TQ) ?_ hnn ?_ ?_
      ·rw [hθ];exact fun hr=>(r.live id _ hl).2.2 (f3.ro _ hr)
      ·rw [hθ];intro q hq;exact (r.hid _ _ (f3.DP _ _ hq)).2.2 id _ hl rfl
      ·simp only [OR];rw [hρ3,hθ];refine⟨⟨g0.1,fun p hp=>?_,?_⟩,bL,c',g1,?_⟩
       ·rcases aw.1 hp with rfl|hp
        ·rcases yZ (E:=E) (i:=0) (dt:=.int .i64) ⟨_,rfl⟩ (x.den ρ) g2 with ⟨q1,_⟩|⟨_,_,_,_,q2,_⟩
         ·rw [hf] at q1; simp at q1
         ·exact q2
        ·exact g0.2.1 p hp
       ·simp only [ax,ams];exact⟨Ih r7,g0.2.2⟩
       ·exact eI.Ok f3.view.kp (x:=x) (by rw [hρ]) (by rw [hρ]; exact r7) (fun b m j hm Y=>by
         rcases f3.hd b _ Y with q|⟨j',_,q⟩
         ·exact q
         ·simp only [ak,D.i.injEq,true_and] at q
          exact absurd q.1 hm) (fun e1 U Z=>by rw [huq e1 U Z]; exact v3) g2
     refine⟨_,UD,E3,IG,⟨hr3,f3.view.kp,fun b Y=> .inl (f3.ro b Y),fun b Y=>by
      rcases Y with ⟨j,o,q1,q2⟩|q
      ·rw [Hp.bR] at q1;split at q1
       ·rename_i e;rw [e,hθ] at q2;exact .inl ⟨id,_,hl,q2⟩
       ·rcases f3.view.hold b (.inl ⟨j,o,q1,q2⟩) with ⟨i0,o0,p1,p2⟩|p
        ·exact .inl ⟨i0,o0,(Yi i0 o0 p1).1,p2⟩
        ·exact .inr p
      ·rcases f3.view.hold b (.inr q) with ⟨i0,o0,p1,p2⟩|p
       ·exact .inl ⟨i0,o0,(Yi i0 o0 p1).1,p2⟩
       ·exact .inr p⟩,g3⟩
  ·exact⟨s.h,s.pc,E,hp,View.refl r,h⟩
 ·exact⟨s.h,s.pc,E,hp,View.refl r,h⟩
end
end Go.As
end
section
namespace Go.As
noncomputable section
def Tq {α:Type} (c:FC) (v:W) (ty:Nat) (s:St) (k:V->St->T α):T α:=match c with
 | .ck c=>Oj v s fun v s=>match mC c v with
   |some x=>k x s
   |none=> .fail
 | .mp t=>match v with
   | .map i=>match s.h.get i with
     |some o=>match o with
      | .jM e t'=>match Nat.beq t t' with
        |true=>k e { s with h:=s.h.drop i }
        |false=> .fail
      |_=> .fail
     |none=> .fail
   |_=> .fail
 | .own t=>match v with
   | .eg=>k (.ej (.i 1)) s
   | .wZ z t'=>match Nat.beq t t' with
     |true=>k z s
     |false=> .fail
   | .slice i o n c=>match c with
     | .exact m=>match n with
       |0=>match m with
        |0=>k (.ej (.i 2)) s
        |_=> .fail
       |_=> .fail
     | .rest es=>match s.h.get i with
       |some ob=>match ob with
        | .cells cs Vr=>if es=(rowOf t).es/\Vr=ty/\o+n*es=cs.length then match n with
         |0=>k (.ej (.i 3)) { s with h:=s.h.drop i }
         |m+1=>match ke (rowOf t) (.ej (.i 0)) (m+1) (cs.drop o) with
          |some e=>k e { s with h:=s.h.drop i }
          |none=> .fail
         else .fail
        |_=> .fail
       |none=> .fail
   | .oS i n t'=>match Nat.beq t t' with
     |true=>match AY s.h i t with
      |some (e,Vr)=>match Nat.beq Vr ty&&eQ n (dO e) with
       |true=>k e { s with h:=s.h.drop i }
       |false=> .fail
      |none=> .fail
     |false=> .fail
   | .tK i lo n t'=>match Nat.beq t t' with
     |true=>match AY s.h i t with
      |some (e,Vr)=>match Nat.beq Vr ty with
       |true=>xj e lo n s fun s=>jz s (pQ n (.lit 0)) fun s b=>match b with
        |true=>k (.ej (.i 3)) { s with h:=s.h.drop i }
        |false=>k (Di e lo n) { s with h:=s.h.drop i }
       |false=> .fail
      |none=> .fail
     |false=> .fail
   |_=> .fail
def F6 {α:Type} (eR:List Nat):List FC->Nat->List W->St->(V->St->T α)->T α
 |[],_,[],s,k=>k (.ej (.i 0)) s
 |c::cs,j,v::vs,s,k=>Tq c v (eR.getD (j+2) 0) s fun a s=>F6 eR cs (j+1) vs s fun b s=>k (ew a b) s
 |_,_,_,_,_=> .fail
def aem {α:Type} (t:Nat) (eR:List Nat) (v:W) (s:St) (k:V->St->T α):T α:=match (qj t).ptr with
 |false=>match (qj t).cs with
  |[c]=>Tq c v (eR.getD 1 0) s k
  |_=> .fail
 |true=>match v with
  | .ptr i o=>match o with
    |0=>match s.h.get i with
     |some ob=>match ob with
      | .cells cs ty=>match Nat.beq ty (eR.getD 0 0) with
        |true=>F6 eR (qj t).cs 0 cs { s with h:=s.h.drop i } k
        |false=> .fail
      |_=> .fail
     |none=> .fail
    |_=> .fail
  |_=> .fail
def P3 {α:Type} (t:Nat) (eR:List Nat):List (V×W)->V->St->(V->St->T α)->T α
 |[],e,s,k=>k e s
 |(x,v)::l,e,s,k=>aem t eR v s fun d s=>P3 t eR l (.op .xo e (ew (mW x) d)) s k
def Q_ {α:Type} (id:Nat) (s:St) (k:St->T α):T α:=match s.h.get id with
 |some o=>match o with
  | .qY e t eR ov=>P3 t eR ov e { s with h:=s.h.drop id } fun e' s=>k { s with h:=s.h.put id (.qY e' t eR []) }
  |_=>k s
 |none=>k s
structure lH [bI] (w:World) (E:En) (H:Hp) (E':En) (H':Hp):Prop where
 view:View E H w E' H'
 mono: ∀b x,E.hd b=some x->E'.hd b=some x
 sub: ∀id o,H'.get id=some o->H.get id=some o
 hold: ∀b,E'.ro b\/(∃x,E'.hd b=some x)->E.ro b\/(∃x,E.hd b=some x)\/∃id o,H.get id=some o/\(E.θ id).1=b
theorem lH.refl [bI] {w:World} {E:En} {H:Hp} (r:bP E H w):lH w E H E H:=⟨View.refl r,fun _ _ h=>h,fun _ _ h=>h,fun _ h=>h.imp id .inl⟩
theorem lH.trans [bI] {w:World} {E E1 E2:En} {H H1 H2:Hp} (r:bP E H w) (a:lH w E H E1 H1) (b:lH w E1 H1 E2 H2):lH w E H E2 H2:=by
 refine⟨a.view.trans b.view,fun q x h=>b.mono q x (a.mono q x h),fun id o h=>a.sub id o (b.sub id o h),fun q h=>?_⟩;rcases b.hold q h with h|h|⟨id,o,U,Z⟩
 ·exact a.hold q (.inl h)
 ·exact a.hold q (.inr h)
 ·have h3:=a.sub id o U;rw [a.view.kp.θ id (r.live id o h3).1] at Z;exact .inr (.inr ⟨id,o,h3,Z⟩)
theorem lH.aer [bI] {w:World} {E E':En} {H H':Hp} (r:bP E H w) (f:JW E w H E' H'):lH w E H E' H':=by
 refine⟨View.aeq r f.ei f.rel,fun b x h=>by rw [f.ei.hd]; exact h,f.sub.get,fun b h=>?_⟩;rcases h with h|⟨x,h⟩
 ·rcases f.ei.qW b h with g|g|g
  ·exact .inl g
  ·exact .inr (.inr g)
  ·have:=f.rel.pS b h;omega
 ·exact .inr (.inl ⟨x,by rw [<- f.ei.hd]; exact h⟩)
theorem lH.own [bI] {w:World} {E E':En} {H H':Hp} (a:lH w E H E' H') {B:Nat} {key:D} {j ty:Nat} {c:FC} {d:D} {u:Value} (ho:oH E w.heap B key j ty c d u):oH E' w.heap B key j ty c d u:=
 ho.bX a.view.kp fun b Y=> ⟨a.mono b _ Y,rfl⟩
def En.TR (E:En) (b:Nat) (x:Nat×D×Nat):En:={ E with hd:=fun q=>if q=b then some x else E.hd q }
theorem rH [bI] {E:En} {H:Hp} {w:World} (r:bP E H w) {i:Nat} {o:dG} (hl:H.get i=some o) (x:Nat×D×Nat):lH w E H (E.TR (E.θ i).1 x) (H.drop i):=by
 have hg: ∀j o,(H.drop i).get j=some o->H.get j=some o/\j≠i:=by
  intro j o hj;rw [Hp.j8] at hj;split at hj
  ·simp at hj
  ·rename_i e; exact⟨hj,e⟩
 have kp:fg E w.heap (E.TR (E.θ i).1 x) w.heap:=⟨rfl,fun _ h=>h,fun _ _=>rfl,fun _ _=>rfl,fun _ h=>h,fun _ _=>rfl⟩
 have mono: ∀b y,E.hd b=some y->(E.TR (E.θ i).1 x).hd b=some y:=by
  intro b y Y;show (if b=(E.θ i).1 then some x else E.hd b)=_;rw [af]
  ·exact Y
  ·exact fun e=>(r.hid b y Y).2.2 i o hl e.symm
 have nK: ∀b y,(E.TR (E.θ i).1 x).hd b=some y->b=(E.θ i).1\/E.hd b=some y:=by
  intro b y Y;have Y:(if b=(E.θ i).1 then some x else E.hd b)=some y:=Y;split at Y
  ·rename_i e; exact .inl e
  ·exact .inr Y
 refine⟨⟨⟨r.fresh,r.res,fun j o2 Z=>?_,fun a b o1 o2 U Z he=>r.inj a b o1 o2 (hg _ _ U).1 (hg _ _ Z).1 he,r.pS,r.iT,fun b y Y=>?_⟩,kp,fun _ h=> .inl h,fun b Y=>?_⟩,mono,fun j o2 Z=>(hg j o2 Z).1,fun b Y=>?_⟩
 ·obtain⟨g1,g2,g3⟩:=r.live j o2 (hg j o2 Z).1;exact⟨g1,g2.bX kp g1 rfl fun key b q Y=> ⟨mono b _ Y,rfl⟩,g3⟩
 ·rcases nK b y Y with rfl|Y
  ·refine⟨fF r hl,(r.live i o hl).2.2,fun j o2 Z e=>?_⟩;obtain⟨q1,q2⟩:=hg j o2 Z;exact q2 (r.inj j i o2 o q1 hl e)
  ·obtain⟨q1,q2,q3⟩:=r.hid b y Y;exact⟨q1,q2,fun j o2 Z=>q3 j o2 (hg j o2 Z).1⟩
 ·rcases Y with ⟨j,o2,Z,he⟩|⟨y,Y⟩
  ·exact .inl ⟨j,o2,(hg j o2 Z).1,he⟩
  ·rcases nK b y Y with rfl|Y
   ·exact .inl ⟨i,o,hl,rfl⟩
   ·exact .inr ⟨y,Y⟩
 ·rcases Y with Y|⟨y,Y⟩
  ·exact .inl Y
  ·rcases nK b y Y with rfl|Y
   ·exact .inr (.inr ⟨i,o,hl,rfl⟩)
   ·exact .inr (.inl ⟨y,Y⟩)
theorem sM (E:En) (b:Nat) (x:Nat×D×Nat):(E.TR b x).hd b=some x:=by show (if b=b then some x else E.hd b)=_;rw [ah rfl]
theorem Py {E:En} {h:Array Obj} {i:Nat} {e:V} {t ty:Nat} (ho:OR E h i (.vec e t ty [])) {l k:Nat} (hk:l+k<=(dec (e.den E.ρ)).l.length) :
 ∃arr lo hi us,h[(E.θ i).1]?=some (.cells arr ty (lo,hi))/\(E.θ i).2+E.κ i=arr.size/\(∀q,lo<=q->q<hi->arr.size<=q)/\cB E h (bF E.ρ (rowOf t) [] (((dec (e.den E.ρ)).l.take (l+k)).drop l) 0) us/\
  (∀q u,us[q]?=some u->arr[(E.θ i).2+l*(rowOf t).es+q]?=some u)/\∀u∈us,u.oneCell'=true:=by
 simp only [OR] at ho;obtain⟨⟨r7,_⟩,arr,lo,hi,us,U,Z,h3,h4,h5,h6,h7⟩:=ho;generalize (dec (e.den E.ρ)).l=L at *
 have hL:L=L.take l++((L.take (l+k)).drop l++L.drop (l+k)):=by
  rw [List.drop_take,show l+k-l=k by omega]
  have e1:(L.drop l).take k++L.drop (l+k)=L.drop l:=by rw [<- anT,amr]
  rw [e1,amr]
 have h2':=Z;rw [hL,gF,gF] at h2';obtain⟨a,bc,rfl,a1,a2⟩:=h2'.split;obtain⟨b,c,rfl,b1,b2⟩:=a2.split
 have Ob:a.length=l*(rowOf t).es:=by rw [a1.length,cD r7,aZ,anO J]
 refine⟨arr,lo,hi,b,U,h5,h6,b1,fun q u hu=>?_,fun u hu=>h7 u (by simp [hu])⟩;have fe:=(aW.1 hu).1
 have:=h3 (l*(rowOf t).es+q) u (by
  rw [anE J,an0 J,Ob,anU]
  exact hu)
 rw [<- al8] at this;exact this
theorem Et {α:Type}: ∀{n:Nat} {l:List α},n<=l.length->As.eD n l=some (l.drop n)
 |0,_,_=>rfl
 |n+1,[],h=>by simp at h
 |n+1,_::l,h=>by simp only [As.eD,anD];exact Et (by simpa using h)
theorem P4 [bI] {α:Type} {ρ:Nat->Int} {c:FC} {v:W} {ty:Nat} {s:St} {k:V->St->T α} {y:α} {E:En} {w:World} {u:Value} (B:Nat) (key:D) (j:Nat) (hρ:E.ρ=ρ) (r:bP E s.h w) (hp:bW ρ s.pc) (hv:VR E w.heap v u) (h:(Tq c v ty s k).leaf ρ=some y) :
 ∃x h' dZ E',bW ρ dZ/\lH w E s.h E' h'/\oH E' w.heap B key j ty c (dec (x.den ρ)) u/\(k x { s with h:=h',pc:=dZ }).leaf ρ=some y:=by
 cases c with
 |ck c=>
  simp only [Tq] at h;obtain⟨v',U,fA,E1,fj,f,q,g⟩:=IU hρ r hp h;split at g
  ·rename_i x hx;refine⟨x,U,fA,E1,fj,lH.aer r f,?_,g⟩;have:=(kI (q u hv) hx).rd (oQ hx);rw [f.ρ,hρ] at this;exact this
  ·simp [T.leaf] at g
 |mp t=>
  simp only [Tq] at h;split at h
  ·rename_i i;split at h
   ·rename_i o hl;split at h
    ·rename_i e t';split at h
     ·rename_i ht;have ht:=aq ht;subst ht;have ho:=(r.live i _ hl).2.1;simp only [OR] at ho;obtain⟨bL,c',g1,g2⟩:=ho;simp only [VR] at hv;obtain⟨rfl,_⟩:=hv;rw [hρ] at g2;exact⟨e,_,s.pc,_,hp,rH r hl (B,key,j),⟨(E.θ i).1,bL,c',rfl,sM _ _ _,g1,g2⟩,h⟩
     ·simp [T.leaf] at h
    ·simp [T.leaf] at h
   ·simp [T.leaf] at h
  ·simp [T.leaf] at h
 |own t=>
  simp only [Tq] at h;split at h
  ·simp only [VR] at hv;subst hv;refine⟨_,s.h,s.pc,E,hp,lH.refl r,.inl ⟨⟨none,rfl⟩,?_⟩,h⟩;simp only [V.den,bB];exact .nil t
  ·rename_i z t';split at h
   ·rename_i ht;have ht:=aq ht;subst ht;simp only [VR] at hv;rw [hρ] at hv;exact⟨_,s.h,s.pc,E,hp,lH.refl r,.inl hv,h⟩
   ·simp [T.leaf] at h
  ·rename_i i o n c;split at h
   ·rename_i m;split at h
    ·split at h
     ·simp only [VR,eE] at hv;obtain⟨_,a,cap,rfl,_,rfl,_⟩:=hv;refine⟨_,s.h,s.pc,E,hp,lH.refl r,.inl ⟨⟨some a,rfl⟩,?_⟩,h⟩;simp only [V.den,bB];exact .vG t a 0
     ·simp [T.leaf] at h
    ·simp [T.leaf] at h
   ·rename_i es;split at h
    ·rename_i ob hl;split at h
     ·rename_i cs Vr;split at h
      ·rename_i hc;obtain⟨rfl,rfl,hlen⟩:=hc;have ho:=(r.live i _ hl).2.1;simp only [OR] at ho;obtain⟨arr,lo,hi,us,g1,g2,g3,g4,g5,g6,g7⟩:=ho;simp only [VR,eE] at hv;obtain⟨_,a,cap,rfl,q1,q2⟩:=hv
       have gJ:(a=⟨(E.θ i).1,(E.θ i).2+o,none⟩/\(E.θ i).2+o+cap*(rowOf t).es=arr.size)\/(cap=0/\n=0/\(E.θ i).2+o=arr.size):=by
        rcases q2 with ⟨q2,q3⟩|⟨q2,q3,q4⟩
        ·exact .inl ⟨q2,J⟩
        ·exact .inr ⟨q2,q3,J⟩
       have hs:=rH r hl (B,key,j);split at h
       ·refine⟨_,_,s.pc,_,hp,hs,.inr ⟨(E.θ i).1,(E.θ i).2+o,0,cap,a,arr,lo,hi,rfl,q1,sM _ _ _,g1,gJ,g6,.inl ⟨rfl,?_⟩⟩,h⟩;simp only [V.den,bB]
       ·rename_i m;split at h
        ·rename_i e he;obtain⟨ds,d1,d2,d3,d4,d5⟩:=qp (ρ:=ρ) _ he;have hz:(dec ((V.ej (.i 0)).den ρ))= .i 0:=by simp only [V.den,bB]
         rw [hz] at d2 d3;have d2:(dec (e.den ρ)).l=ds:=d2;have d3:=d3 rfl;refine⟨e,_,s.pc,_,hp,hs,.inr ⟨(E.θ i).1,(E.θ i).2+o,m+1,cap,a,arr,lo,hi,rfl,q1,sM _ _ _,g1,gJ,g6,.inr ⟨⟨d3,by rw [d2]; exact d4,?_⟩,by rw [d2]; exact d1,us.drop o,?_,?_,?_⟩⟩,h⟩
         ·rw [d2];intro e0;rw [e0] at d1;simp at d1
         ·rw [d2];show cB _ w.heap (bF E.ρ (rowOf t) [] ds 0) (us.drop o);rw [hρ];have Fi:As.eD o cs=some (cs.drop o):=Et J;exact d5 _ _ _ _ (by exact hρ) (cB.bX hs.view.kp _ _ (g2.eD Fi).1)
         ·intro q u hu;rw [amF] at hu;have:=g3 _ u hu;rw [<- al8] at this;exact this
         ·exact fun u hu=>g7 u (bq hu)
        ·simp [T.leaf] at h
      ·simp [T.leaf] at h
     ·simp [T.leaf] at h
    ·simp [T.leaf] at h
  ·rename_i i n t';split at h
   ·rename_i ht;have ht:=aq ht;subst ht;split at h
    ·rename_i e Vr W!;split at h
     ·rename_i hc;simp only [an] at hc;have N1:=aq hc.1;have hn:=cO _ _ hc.2;subst N1 hn;have hl:=mT W!;have ho:=(r.live i _ hl).2.1;have hw:=(OR.n9.1 ho).1.2;simp only [VR,eE] at hv;obtain⟨_,m,a,cap,q0,rfl,q1,q2⟩:=hv;rw [cC] at q0;have hm:(dec (e.den E.ρ)).l.length=m:=J
      have lA:0<m:=by rw [<- hm]; exact amq.2 hw.2.2
      obtain⟨arr,lo,hi,us,g1,g2,g3,g4,g5,g6⟩:=Py ho (l:=0) (k:=m) J;have hs:=rH r hl (B,key,j);rw [ay,amh,<- hm,amx] at g4
      have gJ:a=⟨(E.θ i).1,(E.θ i).2,none⟩/\(E.θ i).2+cap*(rowOf t).es=arr.size:=by
       rcases q2 with ⟨q2,q3⟩|⟨_,q3,_⟩
       ·exact⟨by rw [q2,bd],J⟩
       ·omega
      rw [hρ] at hw hm;refine⟨e,_,s.pc,_,hp,hs,.inr ⟨(E.θ i).1,(E.θ i).2,m,cap,a,arr,lo,hi,rfl,q1,sM _ _ _,g1,.inl gJ,g3,.inr ⟨hw,hm,us,?_,fun q u hu=>?_,g6⟩⟩,h⟩
      ·have:=cB.bX hs.view.kp _ _ g4;rw [hρ] at this;show cB _ w.heap (bF E.ρ (rowOf t) [] (dec (e.den ρ)).l 0) us;rw [hρ];exact this
      ·have:=g5 q u hu;rw [ama,bd] at this;exact this
     ·simp [T.leaf] at h
    ·simp [T.leaf] at h
   ·simp [T.leaf] at h
  ·rename_i i s_ n t';split at h
   ·rename_i ht;have ht:=aq ht;subst ht;split at h
    ·rename_i e Vr W!;split at h
     ·rename_i hc;have N1:=aq hc;subst N1;have hl:=mT W!;have ho:=(r.live i _ hl).2.1;have hw:=(OR.n9.1 ho).1.2;obtain⟨fA,fj,z1,z2,z3,U⟩:=vF hp h;obtain⟨jw,jl,Z⟩:=cH (s:={ s with pc:=fA }) fj U;rw [gZ] at Z;simp only [V.den] at Z;simp only [VR,eE] at hv;obtain⟨_,l,m,a,cap,q0,q00,rfl,q1,q2⟩:=hv;have q0':=q0;have akm:=q00;rw [hρ] at q0 q00;obtain⟨arr,lo,hi,us,g1,g2,g3,g4,g5,g6⟩:=Py ho (l:=l) (k:=m) (by rw [hρ]; omega);have hs:=rH r hl (B,key,j)
      have gJ:(a=⟨(E.θ i).1,(E.θ i).2+l*(rowOf t).es,none⟩/\(E.θ i).2+l*(rowOf t).es+cap*(rowOf t).es=arr.size)\/(cap=0/\m=0/\(E.θ i).2+l*(rowOf t).es=arr.size):=by
       rcases q2 with ⟨q2,q3⟩|⟨q2,q3,q4⟩
       ·exact .inl ⟨q2,J⟩
       ·exact .inr ⟨q2,q3,J⟩
      cases hm:m with
      |zero=>
       have:n.den ρ=0:=by rw [q00,hm]; rfl
       rw [this] at Z;subst hm;refine⟨_,_,jw,_,jl,hs,.inr ⟨(E.θ i).1,(E.θ i).2+l*(rowOf t).es,0,cap,a,arr,lo,hi,rfl,q1,sM _ _ _,g1,gJ,g3,.inl ⟨rfl,?_⟩⟩,Z⟩;simp only [V.den,bB]
      |succ m'=>
       have:(n.den ρ == 0)=false:=by rw [beq_eq_false_iff_ne]; omega
       rw [this] at Z;rw [<- hm];have pb:=xi (e:=e) q0' akm;rw [hρ] at pb g4 hw;generalize hpt:((dec (e.den ρ)).l.take (l+m)).drop l=pt at pb g4
       have aeT:pt.length=m:=by rw [<- hpt,al6,aZ,anO J];omega
       have fZ:pt≠[]:=by intro e0;rw [e0] at aeT;simp at aeT;omega
       rw [vc fZ] at pb;refine⟨_,_,jw,_,jl,hs,.inr ⟨(E.θ i).1,(E.θ i).2+l*(rowOf t).es,m,cap,a,arr,lo,hi,rfl,q1,sM _ _ _,g1,gJ,g3,.inr ⟨?_,?_,us,?_,g5,g6⟩⟩,Z⟩
       ·rw [pb];refine⟨by rw [bM],fun d hd=>?_,by rw [bM]; exact fZ⟩;rw [bM,<- hpt] at hd;exact hw.2.1 d (al9 (bq hd))
       ·rw [pb,bM]; exact aeT
       ·rw [pb,bM];have:=cB.bX hs.view.kp _ _ g4;show cB _ w.heap (bF E.ρ (rowOf t) [] pt 0) us;rw [hρ];exact this
     ·simp [T.leaf] at h
    ·simp [T.leaf] at h
   ·simp [T.leaf] at h
  ·simp [T.leaf] at h
theorem Kz [bI] {α:Type} {ρ:Nat->Int} {eR:List Nat} {y:α} {w:World} (B:Nat) (key:D): ∀{cs:List FC} {j:Nat} {vs:List W} {s:St} {k:V->St->T α} {E:En} {us:List Value},E.ρ=ρ->bP E s.h w->bW ρ s.pc->cB E w.heap vs us->(F6 eR cs j vs s k).leaf ρ=some y->
 ∃x h' dZ E',bW ρ dZ/\lH w E s.h E' h'/\us.length=cs.length/\(∀i c u,cs[i]?=some c->us[i]?=some u->oH E' w.heap B key (j+i+1) (eR.getD (j+i+2) 0) c ((dec (x.den ρ)).hd i) u)/\(k x { s with h:=h',pc:=dZ }).leaf ρ=some y
 |[],j,[],s,k,E,us,hρ,r,hp,hv,h=>by rw [gP] at hv;subst hv;exact⟨_,s.h,s.pc,E,hp,lH.refl r,rfl,fun i c u hc=>by simp at hc,h⟩
 |[],j,_::_,s,k,E,us,hρ,r,hp,hv,h=>by simp [F6,T.leaf] at h
 |_::_,j,[],s,k,E,us,hρ,r,hp,hv,h=>by simp [F6,T.leaf] at h
 |c::cs,j,v::vs,s,k,E,us,hρ,r,hp,hv,h=>by
  simp only [F6] at h;rw [bV] at hv;obtain⟨u,us,rfl,hv,GJ⟩:=hv;obtain⟨a,U,fA,E1,fj,f1,o1,g1⟩:=P4 B key (j+1) hρ r hp hv h;obtain⟨b,Z,jw,E2,jl,f2,hl,o2,g2⟩:=Kz (s:={ s with h:=U,pc:=fA }) B key (f1.view.kp.ρ.trans hρ) f1.view.rel fj (cB.bX f1.view.kp _ _ GJ) g1;refine⟨_,Z,jw,E2,jl,f1.trans r f2,by simp [hl],fun i c' u' hc hu=>?_,g2⟩;have hd0:dec ((ew a b).den ρ)= .p (dec (a.den ρ)) (dec (b.den ρ)):=by simp only [ew,V.den,e9.den,bB]
  cases i with
  |zero=> simp only [aG,ag] at hc hu;subst hc hu;rw [hd0];exact f2.own o1
  |succ i=>
   have:=o2 i c' u' (by simpa using hc) (by simpa using hu);have e1:j+(i+1)=j+1+i:=J
   rw [hd0,e1];exact this
theorem P! [bI] {α:Type} {ρ:Nat->Int} {t:Nat} {eR:List Nat} {v:W} {y:α} {w:World} (B:Nat) (key:D) {s:St} {k:V->St->T α} {E:En} {u:Value} (hρ:E.ρ=ρ) (r:bP E s.h w) (hp:bW ρ s.pc) (hv:VR E w.heap v u) (h:(aem t eR v s k).leaf ρ=some y) :
 ∃x h' dZ E',bW ρ dZ/\lH w E s.h E' h'/\pH E' w.heap B t eR key (dec (x.den ρ)) u/\(k x { s with h:=h',pc:=dZ }).leaf ρ=some y:=by
 unfold aem at h;unfold pH;split at h
 ·rename_i N5;rw [N5];split at h
  ·rename_i c hc;obtain⟨x,U,fA,E1,fj,f1,o1,g1⟩:=P4 B key 1 hρ r hp hv h;exact⟨x,U,fA,E1,fj,f1,⟨c,hc,o1⟩,g1⟩
  ·simp [T.leaf] at h
 ·rename_i N5;rw [N5];split at h
  ·rename_i i o;split at h
   ·split at h
    ·rename_i ob hl;split at h
     ·rename_i cs ty;split at h
      ·rename_i N1;have N1:=aq N1;subst N1;have ho:=(r.live i _ hl).2.1;simp only [OR] at ho;obtain⟨arr,lo,hi,us,g1,g2,g3,g4,g5,g6,g7⟩:=ho;simp only [VR] at hv;obtain⟨rfl,_⟩:=hv;have hs:=rH r hl (B,key,0);obtain⟨x,U,fA,E1,fj,f1,Ax,o1,q1⟩:=Kz (s:={ s with h:=s.h.drop i }) (E:=E.TR (E.θ i).1 (B,key,0)) B key hρ hs.view.rel hp (cB.bX hs.view.kp _ _ g2) h;have hvl:=g2.length;refine⟨x,U,fA,E1,fj,hs.trans r f1,⟨(E.θ i).1,(E.θ i).2,arr,lo,hi,by rw [bd],f1.mono _ _ (sM _ _ _),g1,J,g6,fun q c hc=>?_⟩,q1⟩;have hql:=(aW.1 hc).1;have hqu:q<us.length:=J
       have hu:=aM hqu;refine⟨us[q],g3 q _ hu,g7 _ (aA hqu),?_⟩;have:=o1 q c _ hc hu;rw [ay] at this;exact this
      ·simp [T.leaf] at h
     ·simp [T.leaf] at h
    ·simp [T.leaf] at h
   ·simp [T.leaf] at h
  ·simp [T.leaf] at h
theorem Gt {n:Int} {d:D}: ∀{ds:List D},D.i n∈ds.map jd->(gW ds (.i n) d).map jd=ds.map jd
 |[],h=>by simp at h
 |a::ds,h=>by
  simp only [gW];by_cases hk:jd a= .i n
  ·rw [ah hk];simp [jd,hk];exact hk.symm
  ·rw [af hk];simp only [ax,aw] at h;rcases h with h|h
   ·exact absurd h.symm hk
   ·simp only [ax,Gt h]
theorem eI.pck {E E':En} {h:Array Obj} (kp:fg E h E' h) (mono: ∀b x,E.hd b=some x->E'.hd b=some x) {B t:Nat} {eR:List Nat} {l:List (V×W)} {x:V} {v:W} {n:Int} {d:D} (hx:x.den E.ρ=n) (hl:lI E.ρ n l=none) :
 ∀{ds:List D} {es:List MapEntry},(ds.map jd).Nodup->(∀e1∈es,e1.key= .int .i64 n->pH E' h B t eR (.i n) d e1.val)->eI E h B t eR ((x,v)::l) ds es->eI E' h B t eR l (if D.i n∈ds.map jd then gW ds (.i n) d else ds) es
 |[],es,_,_,ho=>by simp only [anl,amn,if_false]; exact ho
 |a::ds,_,Bv,hv,⟨e0,rr,m,h0,q1,q2,q3,q4⟩=>by
  subst h0;have hk:jd a= .i m:=by rw [q1]; rfl
  simp only [ax,ams] at Bv;have ih:=eI.pck kp mono hx hl Bv.2 (fun e1 U Z=>hv e1 (by simp [U]) Z) q4;by_cases hm:m=n
  ·subst hm;rw [hk] at Bv;rw [af Bv.1] at ih;simp only [ax,aw,hk,true_or,if_true,gW];refine⟨e0,rr,m,rfl,rfl,q2,?_,ih⟩;rw [kp.ρ,hl];exact hv e0 ad q2
  ·have fZ: ¬D.i n=D.i m:=by simpa using fun e=>hm e.symm
   have akN: ¬jd a= .i n:=by rw [hk]; simpa using hm
   have hq:(match lI E'.ρ m l with |some v=>VR E' h v e0.val|none=>pH E' h B t eR (.i m) (Fm a) e0.val):=by
    simp only [lI,hx] at q3;rw [af (fun e=>hm e.symm)] at q3;rw [kp.ρ]
    cases ho:lI E.ρ m l with
    |some v=>rw [ho] at q3; exact VR.bX kp _ _ q3
    |none=>rw [ho] at q3; exact q3.bX kp fun b j Y=> ⟨mono b _ Y,rfl⟩
   simp only [ax,aw,hk,fZ,false_or];by_cases BX:D.i n∈ds.map jd
   ·rw [ah BX] at ih ⊢;simp only [gW,af akN];exact⟨e0,rr,m,rfl,q1,q2,hq,ih⟩
   ·rw [af BX] at ih ⊢;exact⟨e0,rr,m,rfl,q1,q2,hq,ih⟩
theorem eI.told {E:En} {h:Array Obj} {B t:Nat} {eR:List Nat} {ov:List (V×W)} {n:Int} {v:W} (r7:lI E.ρ n ov=some v): ∀{ds:List D} {es:List MapEntry},eI E h B t eR ov ds es->∀e1∈es,e1.key= .int .i64 n->VR E h v e1.val
 |[],es,he,e1,U,_=>by simp only [eI] at he; subst he; simp at U
 |a::ds,_,⟨e0,rr,m,h0,q1,q2,q3,q4⟩,e1,U,Z=>by
  subst h0;rcases aw.1 U with rfl|U
  ·rw [q2] at Z;simp only [Value.int.injEq,true_and] at Z;subst Z;rw [r7] at q3;exact q3
  ·exact eI.told r7 q4 e1 U Z
theorem eI.first {E:En} {h:Array Obj} {B t:Nat} {eR:List Nat} {ov:List (V×W)} {n:Int}: ∀{ds:List D} {es:List MapEntry},(ds.map jd).Nodup->D.i n∈ds.map jd->eI E h B t eR ov ds es->∃en∈es,en.key= .int .i64 n/\∀e1∈es,e1.key= .int .i64 n->e1=en
 |[],_,_,hf,_=>by simp at hf
 |a::ds,_,Bv,hf,⟨e0,rr,m,h0,q1,q2,q3,q4⟩=>by
  subst h0;have hk:jd a= .i m:=by rw [q1]; rfl
  simp only [ax,ams] at Bv;simp only [ax,aw,hk] at hf;by_cases hm:m=n
  ·subst hm;refine⟨e0,ad,q2,fun e1 U Z=>?_⟩;rcases aw.1 U with rfl|U
   ·rfl
   ·obtain⟨i,hi⟩:=ano U;exact absurd (eI.set.eI.Cn q4 hi Z) (by rw [<- hk]; exact Bv.1)
  ·rcases hf with hf|hf
   ·exact absurd (by simpa using hf:n=m).symm hm
   ·obtain⟨en,p1,p2,p3⟩:=eI.first Bv.2 hf q4;refine⟨en,by simp [p1],p2,fun e1 U Z=>?_⟩;rcases aw.1 U with rfl|U
    ·rw [q2] at Z;simp only [Value.int.injEq,true_and] at Z;exact absurd Z hm
    ·exact p3 e1 U Z
theorem Ky [bI] {α:Type} {ρ:Nat->Int} {t:Nat} {eR:List Nat} {y:α} {w:World} {B:Nat} {bL:List MapEntry}: ∀{ov:List (V×W)} {e:V} {s:St} {k:V->St->T α} {E:En},E.ρ=ρ->bP E s.h w->bW ρ s.pc->zG ρ (dec (e.den ρ)).l ov->eI E w.heap B t eR ov (dec (e.den ρ)).l bL->(P3 t eR ov e s k).leaf ρ=some y->
 ∃e' h' dZ E',bW ρ dZ/\lH w E s.h E' h'/\zG ρ (dec (e'.den ρ)).l []/\eI E' w.heap B t eR [] (dec (e'.den ρ)).l bL/\(k e' { s with h:=h',pc:=dZ }).leaf ρ=some y
 |[],e,s,k,E,hρ,r,hp,fo,en,h=> ⟨e,s.h,s.pc,E,hp,lH.refl r,fo,en,h⟩
 |(x,v)::l,e,s,k,E,hρ,r,hp,fo,en,h=>by
  simp only [P3] at h;have BX:=fo.2.1 (x,v) ad
  have GM:lI ρ (x.den ρ) l=none:=by
   cases ho:lI ρ (x.den ρ) l with
   |none=>rfl
   |some u=> have:=Ii ho;have h3:=fo.2.2;simp only [ax,ams] at h3;exact absurd this h3.1
  obtain⟨en0,p1,p2,p3⟩:=eI.first fo.1 BX en;have hv:=eI.told (E:=E) (n:=x.den ρ) (v:=v) (by simp only [lI]; rw [hρ,ah rfl]) en en0 p1 p2;obtain⟨d,U,fA,E1,fj,f1,o1,g1⟩:=P! B (.i (x.den ρ)) hρ r hp hv h
  have pb:dec ((V.op .xo e (ew (mW x) d)).den ρ)=dL (gW (dec (e.den ρ)).l (.i (x.den ρ)) (dec (d.den ρ))):=by simp only [ew,V.den,e9.den,bB,rm]
  have hk:=Gt (d:=dec (d.den ρ)) BX;have en1:=eI.pck f1.view.kp f1.mono (n:=x.den ρ) (d:=dec (d.den ρ)) (by rw [hρ]) (by rw [hρ]; exact GM) fo.1 (fun e1 U Z=>by rw [p3 e1 U Z]; exact o1) en;rw [ah BX] at en1
  obtain⟨e',Z,jw,E2,jl,f2,fo2,en2,g2⟩:=Ky (s:={ s with h:=U,pc:=fA }) (f1.view.kp.ρ.trans hρ) f1.view.rel fj (e:=.op .xo e (ew (mW x) d)) (by
   rw [pb,bM];refine⟨by rw [hk]; exact fo.1,fun p hp=>by rw [hk]; exact fo.2.1 p (by simp [hp]),?_⟩;have h3:=fo.2.2;simp only [ax,ams] at h3
   exact h3.2) (by rw [pb,bM]; exact en1) g1
  exact⟨e',Z,jw,E2,jl,f1.trans r f2,fo2,en2,g2⟩
theorem P? [bI] {α:Type} {ρ:Nat->Int} {id:Nat} {y:α} {w:World} {s:St} {k:St->T α} {E:En} (hρ:E.ρ=ρ) (r:bP E s.h w) (hp:bW ρ s.pc) (h:(Q_ id s k).leaf ρ=some y) :
 ∃h' dZ E',bW ρ dZ/\View E s.h w E' h'/\(k { s with h:=h',pc:=dZ }).leaf ρ=some y:=by
 unfold Q_ at h;split at h
 ·rename_i o hl;split at h
  ·rename_i e t eR ov;obtain⟨g0,bL,c',g1,g2⟩:=za r hl;rw [hρ] at g0 g2;obtain⟨dst,drl⟩:=vZ r id;obtain⟨e',U,fA,E1,fj,f1,fo1,en1,q1⟩:=Ky (s:={ s with h:=s.h.drop id }) hρ drl hp g0 g2 h;have TQ:=(r.live id _ hl).1;have hθ:=f1.view.kp.θ id TQ;have hρ1:E1.ρ=ρ:=f1.view.kp.ρ.trans hρ
   have Yi: ∀j o,(s.h.drop id).get j=some o->s.h.get j=some o/\j≠id:=by
    intro j o hj;rw [Hp.j8] at hj;split at hj
    ·simp at hj
    ·rename_i e; exact⟨hj,e⟩
   have ab4: ∀b,E1.ro b\/(∃x,E1.hd b=some x)->b≠(E.θ id).1:=by
    intro b Y e;subst e;rcases f1.hold _ Y with h|⟨x,h⟩|⟨j,o,U,Z⟩
    ·exact (r.live id _ hl).2.2 h
    ·exact (r.hid _ _ h).2.2 id _ hl rfl
    ·obtain⟨q1,q2⟩:=Yi j o U;exact q2 (r.inj j id _ _ q1 hl Z)
   have hr:bP E1 (U.put id (.qY e' t eR [])) w:=by
    refine Ku f1.view.rel (f1.view.kp.dm id TQ) ?_ (fun j o hj=>?_) ?_ ?_
    ·rw [hθ]; exact fun h=>ab4 _ (.inl h) rfl
    ·obtain⟨q1,q2⟩:=Yi j o (f1.sub j o hj);refine⟨q2,?_⟩;rw [hθ,f1.view.kp.θ j (r.live j o q1).1];exact fun e=>q2 (r.inj j id _ _ q1 hl e)
    ·rw [hθ]; exact fun x h=>ab4 _ (.inr ⟨x,h⟩) rfl
    ·simp only [OR];rw [hρ1,hθ];exact⟨fo1,bL,c',g1,en1⟩
   refine⟨_,fA,E1,fj,⟨hr,f1.view.kp,fun b Y=>?_,fun b Y=>?_⟩,q1⟩
   ·rcases f1.view.qW b Y with h|⟨i0,o0,p1,p2⟩|p
    ·exact .inl h
    ·exact .inr (.inl ⟨i0,o0,(Yi i0 o0 p1).1,p2⟩)
    ·exact .inr (.inr p)
   ·rcases Y with ⟨j,o,q1,q2⟩|q
    ·rw [Hp.bR] at q1;split at q1
     ·rename_i e;rw [e,hθ] at q2;exact .inl ⟨id,_,hl,q2⟩
     ·rcases f1.view.hold b (.inl ⟨j,o,q1,q2⟩) with ⟨i0,o0,p1,p2⟩|p
      ·exact .inl ⟨i0,o0,(Yi i0 o0 p1).1,p2⟩
      ·exact .inr p
    ·rcases f1.view.hold b (.inr q) with ⟨i0,o0,p1,p2⟩|p
     ·exact .inl ⟨i0,o0,(Yi i0 o0 p1).1,p2⟩
     ·exact .inr p
  ·exact⟨s.h,s.pc,E,hp,View.refl r,h⟩
 ·exact⟨s.h,s.pc,E,hp,View.refl r,h⟩
end
end Go.As
end
section
namespace Go.As
noncomputable section
open Go.RowKit
section
variable {P:Program} {c:Code} {Q:Exit->Act->World->Prop} {a:Act} {w:World}
def EY (P:Program) (c:Code) (Q:Exit->Act->World->Prop) (a:Act) (w:World):Prop:=
 ∀b k cs,∃e a' w',Q e a' w'/\Arrives P (lone (b.at a (.code c::.inLoop c::k)) cs w) b k cs e a' w'
theorem NP (h:c.wp P (Exit.then (EY P c Q) Q) a w):EY P c Q a w:=by
 intro b k cs;obtain⟨e,a₁,w₁,hq,Lj⟩:=h b (.inLoop c::k) cs
 cases e with
 |normal=> obtain⟨e₂,a₂,w₂,hq₂,harr₂⟩:=hq b k cs;exact⟨e₂,a₂,w₂,hq₂,.of_steps (Steps.trans Lj (.one step_inLoop)) harr₂⟩
 |exit id=>exact⟨_,a₁,w₁,hq,.pass (x:=.inLoop c) rfl (fun _ _=> .inl ad) Lj⟩
 |goto l=>exact⟨_,a₁,w₁,hq,.pass (x:=.inLoop c) rfl (fun _ _=> .inl ad) Lj⟩
 |ret=>exact⟨_,a₁,w₁,hq,.pass (x:=.inLoop c) rfl (fun _ _=> .inl ad) Lj⟩
 |panic ch=>exact⟨_,a₁,w₁,hq,.pass (x:=.inLoop c) rfl (fun _ _=> .inl ad) Lj⟩
 |outgrown=>exact⟨_,a₁,w₁,hq,.pass (x:=.inLoop c) rfl (fun _ _=> .inl ad) Lj⟩
theorem NQ (h:EY P c Q a w):(Code.loop c).wp P Q a w:=by intro b k cs;obtain⟨e,a',w',hq,Lj⟩:=h b k cs;exact⟨e,a',w',hq,.of_steps (.one step_loop) Lj⟩
end
inductive FrE where
 |seq (p:List Nat) (c:Code)
 |block (id:Nat)
 |loop (p:List Nat) (b:Code)
 |scope
def oA (body:Code):List Nat->Option (Code×List FrE)
 |[]=>some (body,[])
 |d::p=>match oA body p with
  |some (.seq a b,fr)=>match d with
   |0=>some (a,.seq (1::p) b::fr)
   |_=>some (b,fr)
  |some (.block id b,fr)=>some (b,.block id::fr)
  |some (.cond _ a b,fr)=>match d with
   |0=>some (a,fr)
   |_=>some (b,fr)
  |some (.loop b,fr)=>some (b,.loop p b::fr)
  |some (.scope b,fr)=>some (b,.scope::fr)
  |_=>none
def EZ (body:Code):List FrE->Prop
 |[]=>True
 | .seq p c::fr=>oA body p=some (c,fr)/\EZ body fr
 | .block _::fr=>EZ body fr
 | .loop p b::fr=>oA body p=some (.loop b,fr)/\EZ body fr
 | .scope::fr=>EZ body fr
def KE (P:Program) (Q:Exit->Act->World->Prop):List FrE->Exit->Act->World->Prop
 |[]=>Q
 | .seq _ c::fr=>Exit.then (fun a w=>c.wp P (KE P Q fr) a w) (KE P Q fr)
 | .block id::fr=>Exit.inBlock id (KE P Q fr)
 | .loop _ b::fr=>Exit.then (EY P b (KE P Q fr)) (KE P Q fr)
 | .scope::fr=>Exit.noGoto (KE P Q fr)
inductive RK where
 |one (c:CK)
 |agg (cs:List CK)
 deriving DecidableEq,Inhabited
def RK.flat:RK->List CK
 | .one c=>[c]
 | .agg cs=>cs
def oy:List RK->List CK
 |[]=>[]
 |r::rs=>r.flat++oy rs
def Sc (c:CK) (t:V):W:=match c with
 | .int k=> .int k t
 | .bool=> .bool (.not (.eq t (.lit 0)))
 | .str=> .jA t
 | .sl ty=> .ej t ty
def EL:List CK->(Nat->V)->Nat->List W
 |[],_,_=>[]
 |c::cs,f,i=>Sc c (f i)::EL cs f (i+1)
def oY:List RK->(Nat->V)->Nat->List W
 |[],_,_=>[]
 | .one c::r,f,i=>Sc c (f i)::oY r f (i+1)
 | .agg cs::r,f,i=> .agg (EL cs f i)::oY r f (i+cs.length)
def Xn (c:CK) (v:W):Option V:=match c with
 | .int k=>match v with
   | .int k' e=>if k=k' then some e else none
   |_=>none
 | .bool=>none
 | .str=>tq v
 | .sl t=>mC (.sl t) v
def aam:W->Bool
 | .agg _=>false
 | .tuple _=>false
 |_=>true
def cellsOf:List RK->List W->Option (List W)
 |[],[]=>some []
 | .one _::rs,v::vs=>match aam v with
   |true=>match cellsOf rs vs with
    |some l=>some (v::l)
    |none=>none
   |false=>none
 | .agg cs::rs,v::vs=>match v with
   | .agg xs=>match Nat.beq xs.length cs.length with
     |true=>match cellsOf rs vs with
      |some l=>some (xs++l)
      |none=>none
     |false=>none
   |_=>none
 |_,_=>none
def outs {α:Type}:List CK->List W->St->(List V->St->T α)->T α
 |[],[],s,k=>k [] s
 |c::cs,v::vs,s,k=>match c with
  | .bool=>match v with
    | .bool b=>jz s b fun s b=>outs cs vs s fun es s=>k (.lit (if b then 1 else 0)::es) s
    |_=> .fail
  |c=>match Xn c v with
   |some e=>outs cs vs s fun es s=>k (e::es) s
   |none=> .fail
 |_,_,_,_=> .fail
def fN:List V->V
 |[]=> .ej (.i 0)
 |e::es=>ew (mW e) (fN es)
def oe (r:V) (i:Nat):V:=.op .num (.op (.cell i) r (.lit 0)) (.lit 0)
inductive Lf where
 |out (es:List V)
 |jump (j:Nat) (es:List V)
 deriving Inhabited
inductive KX where
 |cell (t j:Nat)
 |row (t j:Nat) (k:KX) (q:Nat)
 |MA (t:Nat)
 deriving Inhabited
def KX.ev (s:St):KX->Option V
 | .MA _=>none
 | .cell t j=>match s.bD.get t with
   |some v=>match v with
    | .agg cs=>match eS cs j with
      |some w=>match w with
       | .int _ e=>some e
       |_=>none
      |none=>none
    | .int _ e=>some e
    | .ptr i o=>match s.h.get i with
      |some ob=>match ob with
       | .cells cs _=>match eS cs (o+j) with
         |some w=>match w with
          | .int _ e=>some e
          |_=>none
         |none=>none
       |_=>none
      |none=>none
    |_=>none
   |none=>none
 | .row t j k q=>match KX.ev s k with
   |none=>none
   |some x=>match s.bD.get t with
    |some v=>match v with
     | .agg cs=>match eS cs j with
       |some w=>match w with
        | .ej e _=>some (yg (iu q (.op .at e x)))
        |_=>none
       |none=>none
     | .ej e _=>some (yg (iu q (.op .at e x)))
     | .ptr i o=>match s.h.get i with
       |some ob=>match ob with
        | .cells cs _=>match eS cs (o+j) with
          |some w=>match w with
           | .ej e _=>some (yg (iu q (.op .at e x)))
           |_=>none
          |none=>none
        |_=>none
       |none=>none
     |_=>none
    |none=>none
structure FH where
 r:Nat
 gd:Option (KX×Int)
 k:KX
 deriving Inhabited
def D2:Tr dG->List Nat
 | .nil=>[]
 | .node v l r=>(match v with
   |some o=>match nf o with
    |true=>[]
    |false=>[0]
   |none=>[])++((D2 l).map fun i=>2*i+1)++((D2 r).map fun i=>2*i+2)
def IV {α:Type} (x:V):List Nat->St->(St->T α)->T α
 |[],s,k=>k s
 |i::l,s,k=>aah i x s fun s=>IV x l s k
def NF {α:Type}:List Nat->St->(St->T α)->T α
 |[],s,k=>k s
 |i::l,s,k=>Q_ i s fun s=>NF l s k
def aae {α:Type} (t:Nat) (s:St) (k:St->T α):T α:=match s.bD.get (t % 1000) with
 |some v=>Oi v s fun v s=>match Nat.ble 1000 t with
  |true=>match mC (.sl (t / 1000-1)) v with
   |some e=>k { s with bD:=s.bD.put (t % 1000) (some (.ej e (t / 1000-1))) }
   |none=> .fail
  |false=>k { s with bD:=s.bD.put (t % 1000) (some v) }
 |none=>k s
def Fl {α:Type} (r:Nat):List FH->St->(St->T α)->T α
 |[],s,k=>k s
 |h::hs,s,k=>match Nat.beq h.r r with
  |false=>Fl r hs s k
  |true=>match h.k.ev s with
   |none=>match h.k with
    | .MA t=>aae t s fun s=>Fl r hs s k
    |_=>Fl r hs s k
   |some x=>match h.gd with
    |none=>IV x (D2 s.h.m) s fun s=>Fl r hs s k
    |some (g,n)=>match g.ev s with
     |none=>Fl r hs s k
     |some y=>jz s (qA y (.lit n)) fun s b=>match b with
      |true=>IV x (D2 s.h.m) s fun s=>Fl r hs s k
      |false=>Fl r hs s k
def abK:Code->Option Nat
 | .region id _ _=>some id
 |_=>none
structure tp where
 tt:TT
 call:eh
 draw:Nat->List Oper->St->T St
 lf:Nat
 res:List ResultVar
 kY:List RK
 ec:List dG:=[]
 ko:Nat:=0
 og:List CS:=[]
 gU:Nat:=0
 fz:List (Nat×Nat×Nat):=[]
 Ok:List FH:=[]
def G7 (g:tp):Bool:=match g.Ok with
 |[]=>false
 |_::_=>match g.ec with
  |[]=>match g.og with
   |[]=>true
   |_=>false
  |_=>false
def TZ {α:Type} (r:Nat):List FH->St->(St->T α)->T α
 |[],s,k=>k s
 |h::hs,s,k=>match Nat.beq h.r r with
  |false=>TZ r hs s k
  |true=>match h.k with
   | .MA t=>aae t s fun s=>TZ r hs s k
   |_=>TZ r hs s k
def T0 {α:Type} (g:tp) (c:Code) (s:St) (k:St->T α):T α:=match G7 g with
 |true=>match abK c with
  |some r=>Fl r g.Ok s k
  |none=>k s
 |false=>match g.og with
  |[]=>match abK c with
   |some r=>TZ r g.Ok s k
   |none=>k s
  |_::_=>k s
def abN:List Nat->Nat
 |[]=>1000000
 |d::p=>1000000+2*(abN p-1000000)+d+1
def abQ (p:List Nat):List FH->Bool
 |[]=>false
 |h::hs=>match Nat.beq h.r (abN p) with
  |true=>true
  |false=>abQ p hs
def Tp {α:Type} (g:tp) (p:List Nat) (s:St) (k:St->T α):T α:=match G7 g with
 |true=>match abQ p g.Ok with
  |true=>k s
  |false=>NF (D2 s.h.m) s k
 |false=>k s
def tp.ev (g:tp) (c:Code) (s:St):T (Ex×St):=iP g.tt g.call g.draw g.lf c s
abbrev B4:=List Nat->Option (List (Nat×CS))
def aeN:Nat->Tr (Nat×Nat)
 |0=> .nil
 |n+1=>(aeN n).put n (some (n,0))
def gC (g:tp) (h:Hp):Ren:=match AB h g.ec 0 ⟨.nil,aeN g.ec.length⟩ with
 |⟨ns,_⟩=> ⟨xt ns g.ko 0,List.range g.ec.length,[]⟩
def CS.jc (m:Nat) (c:CS) (s:St):Ren:=match AB s.h c.dy 0 (Cs s.bD c.bD ⟨.nil,aeN m⟩) with
 |⟨ns,bl⟩=> ⟨xt ns c.k 0,Iv bl c.dy.length 0,Iu bl c.dy.length 0⟩
def DI (m:Nat) (r:Ren):Bool:=match m with
 |0=>true
 |n+1=>(match eS r.bl n with |some j=>Nat.beq j n|none=>false)&&Nat.beq (r.tM n) 0&&DI n r
def BA:Nat->Nat->List V->List V
 |0,_,ns=>ns
 |_+1,_,[]=>[]
 |n+1,i,_::ns=> .du i::BA n (i+1) ns
def qR (gU:Nat) (r:Ren):Ren:=match gU with
 |0=>r
 |n+1=>{ r with ns:=BA (n+1) 0 r.ns }
def LJ (n m gU:Nat) (s:St):List CS->Nat->T Lf
 |[],_=> .fail
 |c::l,i=>match quick s.bD c.bD&&Nat.beq n c.bD.length with
  |false=>LJ n m gU s l (i+1)
  |true=>match c.fits q? s (qR gU (c.jc m s))&&DI m (qR gU (c.jc m s)) with
   |true=> .ret (.out (.lit (Int.ofNat i)::(qR gU (c.jc m s)).ns))
   |false=>LJ n m gU s l (i+1)
def Ln {α:Type}:List (Nat×Nat×Nat)->List W->St->(List W->St->T α)->T α
 |[],vs,s,k=>k vs s
 |(r,f,t)::l,vs,s,k=>match eS vs r with
  |some (.agg xs)=>match eS xs f with
   |some x=>Oi x s fun x s=>match mC (.sl t) x with
    |some e=>Ln l (vs.set r (.agg (xs.set f (.ej e t)))) s k
    |none=> .fail
   |none=> .fail
  |_=> .fail
def YL (g:tp) (e:Ex) (s:St):T Lf:=match e with
 | .exit _=> .fail
 |_=>match kE g.tt s g.res with
  |none=> .fail
  |some vs=>match g.og with
   |[]=>match cellsOf g.kY vs with
    |none=> .fail
    |some cells=>wW cells s fun cells s=>match Ag (gC g s.h) g.ec.length s.h g.ec 0 with
     |true=>outs (oy g.kY) cells s fun es _=> .ret (.out ((gC g s.h).ns++es))
     |false=> .fail
   |c::l=>Ln g.fz vs s fun vs s=>LJ vs.length g.ec.length g.gU ⟨cf vs 0 .nil,s.h,s.pc⟩ (c::l) 0
def qE (m gU:Nat) (s:St):List (Nat×CS)->T Lf
 |[]=> .fail
 |(j,c)::l=>match quick s.bD c.bD with
  |false=>qE m gU s l
  |true=>match c.fits q? s (qR gU (c.jc m s))&&DI m (qR gU (c.jc m s)) with
   |true=> .ret (.jump j (qR gU (c.jc m s)).ns)
   |false=>qE m gU s l
def ML {α:Type} (k:St->T α):List (Nat×Nat)->St->T α
 |[],s=>k s
 |(t,g)::l,s=>match s.bD.get t with
  |some (.int _ e)=>jz s (.eq e (.du g)) fun s _=>ML k l s
  |_=>ML k l s
def vh {α:Type} (k:St->T α):List Nat->St->T α
 |[],s=>k s
 |t::ts,s=>match s.bD.get t with
  |some (.bool c)=>jz s c fun s b=>vh k ts { s with bD:=s.bD.put t (some (.bool (.lit b))) }
  |_=>vh k ts s
def d!:List (Nat×W)->List Nat->List Nat
 |[],acc=>acc
 |(t,.bool _)::l,acc=>d! l (t::acc)
 |_::l,acc=>d! l acc
def d?:List (Nat×CS)->List Nat->List Nat
 |[],acc=>acc
 |(_,c)::l,acc=>d? l (d! c.bD acc)
mutual
def wD (g:tp) (eV:B4):Nat->List Nat->Code->List FrE->St->T Lf
 |0,_,_,_,_=> .fail
 |n+1,p,c,fr,s=>match eV p with
  |some l=>Tp g p s fun s=>vh (fun s=>qE g.ec.length g.gU s l) (d? l []) s
  |none=>match c with
   | .seq a b=>wD g eV n (0::p) a (.seq (1::p) b::fr) s
   | .block id b=>wD g eV n (0::p) b (.block id::fr) s
   | .scope b=>wD g eV n (0::p) b (.scope::fr) s
   | .cond v a b=>match As.ev s v with
     |some (.bool c)=>jz s c fun s t=>match t with
      |true=>wD g eV n (0::p) a fr s
      |false=>wD g eV n (1::p) b fr s
     |_=> .fail
   |c=>T0 g c s fun s=>(g.ev c s).bind fun (e,s')=>sR g eV n fr e s'
def sR (g:tp) (eV:B4):Nat->List FrE->Ex->St->T Lf
 |0,_,_,_=> .fail
 |n+1,fr,e,s=>match fr with
  |[]=>YL g e s
  | .seq p c::fr=>match e with
    | .normal=>wD g eV n p c fr s
    |e=>sR g eV n fr e s
  | .block id::fr=>match e with
    | .exit j=>match Nat.beq j id with
      |true=>sR g eV n fr .normal s
      |false=>sR g eV n fr (.exit j) s
    |e=>sR g eV n fr e s
  | .loop p _::fr=>match e with
    | .normal=>match eV p with
      |some l=>Tp g p s fun s=>vh (fun s=>qE g.ec.length g.gU s l) (d? l []) s
      |none=> .fail
    |e=>sR g eV n fr e s
  | .scope::fr=>sR g eV n fr e s
end
abbrev nT:=Nat->List Int->Option (List Int)
def l9 (xs:List Int):Int:=enc (dL (xs.map .i))
def Good (F:nT) (ρ:Nat->Int):Prop:= ∀j xs,ρ (iQ (2*j) (l9 xs))=(if (F j xs).isSome then 1 else 0)/\ρ (iQ (2*j+1) (l9 xs))=l9 ((F j xs).getD [])
def low (xs:List Int) (i:Nat):Int:=xs.getD i 0
open Classical in
def cX (F:nT) (lo:Nat->Int) (i:Nat):Int:=if i<900 then lo i else
 if h: ∃p:Nat×List Int,i=iQ (2*p.1) (l9 p.2) then (if (F h.choose.1 h.choose.2).isSome then 1 else 0) else
 if h: ∃p:Nat×List Int,i=iQ (2*p.1+1) (l9 p.2) then l9 ((F h.choose.1 h.choose.2).getD []) else 0
theorem L6 {a b:List Int} (h:l9 a=l9 b):a=b:=by
 unfold l9 at h;have:=EE (fT h)
 have Ld: ∀{x y:List Int},x.map D.i=y.map D.i->x=y:=by
  intro x
  induction x with
  |nil=>intro y h; cases y with |nil=>rfl|cons z y=>simp at h
  |cons z x ih=>
   intro y h
   cases y with
   |nil=>simp at h
   |cons q y=>
    grind
 grind
theorem rV {f g:Nat} {a b:Int} (h:iQ f a=iQ g b):f=g/\a=b:=by
 unfold iQ at h;obtain⟨U,Z⟩:=Ai (a:=f) (b:=zN a) (a':=g) (b':=zN b) J
 grind [Vi]
theorem vm (f:Nat) (a:Int):1000<=iQ f a:=by unfold iQ; omega
theorem rO {F:nT} {lo:Nat->Int} {i:Nat} (h:i<900):cX F lo i=lo i:=by unfold cX; rw [ah h]
theorem kH (F:nT) (lo:Nat->Int):Good F (cX F lo):=by
 intro j xs;have U:=vm (2*j) (l9 xs);have Z:=vm (2*j+1) (l9 xs);constructor
 ·unfold cX;rw [af J];have h: ∃p:Nat×List Int,iQ (2*j) (l9 xs)=iQ (2*p.1) (l9 p.2):=⟨(j,xs),rfl⟩;rw [dif_pos h];obtain⟨q1,q2⟩:=rV h.choose_spec;have q2:=L6 q2
  grind
 ·unfold cX;rw [af J]
  have hn: ¬∃p:Nat×List Int,iQ (2*j+1) (l9 xs)=iQ (2*p.1) (l9 p.2):=by rintro⟨p,hp⟩;have:=(rV hp).1;omega
  rw [dif_neg hn];have h: ∃p:Nat×List Int,iQ (2*j+1) (l9 xs)=iQ (2*p.1+1) (l9 p.2):=⟨(j,xs),rfl⟩;rw [dif_pos h];obtain⟨q1,q2⟩:=rV h.choose_spec;have q2:=L6 q2
  grind
theorem Good.gB {F:nT} {ρ ρ':Nat->Int} (g:Good F ρ) (h: ∀i,900<=i->ρ' i=ρ i):Good F ρ':=by intro j xs;have U:=vm (2*j) (l9 xs);have Z:=vm (2*j+1) (l9 xs);rw [h _ J,h _ J];exact g j xs
def eG (tree:Nat->T Lf):Nat->nT
 |0,_,_=>none
 |n+1,j,xs=>match (tree j).leaf (cX (eG tree n) (low xs)) with
  |none=>none
  |some (.out es)=>some (es.map (V.den (cX (eG tree n) (low xs))))
  |some (.jump j' es)=>eG tree n j' (es.map (V.den (cX (eG tree n) (low xs))))
def FT:List CK->Bool
 |[]=>true
 |c::l=>match c with
  | .int _=>FT l
  | .bool=>FT l
  |_=>false
def X5 (j:Nat) (EU kY:List RK):List W->St->T (W×St):=fun args s=>match cellsOf EU args with
 |none=> .fail
 |some cells=>wW cells s fun cells s1=>outs (oy EU) cells s1 fun es s2=>
  jz s2 (.eq (.ap (2*j) (fN es)) (.lit 1)) fun s3 b=>match b with
   |true=> .ret (match oY kY (oe (.ap (2*j+1) (fN es))) 0 with |[v]=>v|vs=> .tuple vs,match FT (oy kY) with
    |true=>{ s3 with h:=s.h }
    |false=>s3)
   |false=> .fail
end
end Go.As
end
section
namespace Go.As
open Go.RowKit
def eY (K:Nat):V->Bool
 | .lit _=>true
 | .du i=>Nat.blt i K
 | .add a b=>eY K a&&eY K b
 | .sub a b=>eY K a&&eY K b
 | .mul a b=>eY K a&&eY K b
 | .quo a b=>eY K a&&eY K b
 | .rem a b=>eY K a&&eY K b
 | .wrap _ a=>eY K a
 | .wz _ _=>false
 | .ej _=>true
 | .op _ a b=>eY K a&&eY K b
 | .ap _ _=>false
def uf (K:Nat):SB->Bool
 | .lit _=>true
 | .lt a b=>eY K a&&eY K b
 | .le a b=>eY K a&&eY K b
 | .eq a b=>eY K a&&eY K b
 | .not s=>uf K s
 | .and a b=>uf K a&&uf K b
mutual
def jL (K:Nat):W->Bool
 | .bool b=>uf K b
 | .int _ e=>eY K e
 | .mY cs=>lS K cs
 | .ro cs _ _=>lS K cs
 | .func _ a b=>lS K a&&lS K b
 | .iface _ v=>jL K v
 | .agg cs=>lS K cs
 | .tuple cs=>lS K cs
 | .wz _ _=>false
 | .ej e _=>eY K e
 | .jA e=>eY K e
 | .oS _ n _=>eY K n
 | .zq _ _ i _=>eY K i
 | .tK _ l n _=>eY K l&&eY K n
 | .wZ z _=>eY K z
 |_=>true
def lS (K:Nat):List W->Bool
 |[]=>true
 |x::xs=>jL K x&&lS K xs
end
def CA (K:Nat):List (W×W×Nat)->Bool
 |[]=>true
 |(k,v,_)::l=>jL K k&&jL K v&&CA K l
def Dl (K:Nat):List (V×List W)->Bool
 |[]=>true
 |(i,cs)::l=>eY K i&&lS K cs&&Dl K l
def sU (K:Nat):List (V×W)->Bool
 |[]=>true
 |(x,v)::l=>eY K x&&jL K v&&sU K l
def wM (K:Nat):dG->Bool
 | .qY e _ _ ov=>eY K e&&sU K ov
 | .cells cs _=>lS K cs
 | .map es _=>CA K es
 | .jS _ _=>true
 | .ji _ _ _ _=>true
 | .vec e _ _ ov=>eY K e&&Dl K ov
 | .jM e _=>eY K e
def P5 (K:Nat):List (SB×Bool)->Bool
 |[]=>true
 |(c,_)::l=>uf K c&&P5 K l
def rk (K:Nat):List (Nat×W)->Bool
 |[]=>true
 |(_,v)::l=>jL K v&&rk K l
def Cj (K:Nat):List dG->Bool
 |[]=>true
 |o::l=>wM K o&&Cj K l
def ve (K:Nat) (c:CS):Bool:=rk K c.bD&&Cj K c.dy&&P5 K c.pc
section
variable {K:Nat} {ρ ρ':Nat->Int} (hρ: ∀i,i<K->ρ' i=ρ i)
include hρ
theorem dc: ∀e:V,eY K e=true->e.den ρ'=e.den ρ
 | .lit _,_=>rfl
 | .du i,h=>by simp only [eY] at h; exact hρ i (xO h)
 | .add a b,h=>by simp only [eY,an] at h; simp only [V.den,dc a h.1,dc b h.2]
 | .sub a b,h=>by simp only [eY,an] at h; simp only [V.den,dc a h.1,dc b h.2]
 | .mul a b,h=>by simp only [eY,an] at h; simp only [V.den,dc a h.1,dc b h.2]
 | .quo a b,h=>by simp only [eY,an] at h; simp only [V.den,dc a h.1,dc b h.2]
 | .rem a b,h=>by simp only [eY,an] at h; simp only [V.den,dc a h.1,dc b h.2]
 | .wrap _ a,h=>by simp only [eY] at h; simp only [V.den,dc a h]
 | .wz _ _,h=>by simp [eY] at h
 | .ej _,_=>rfl
 | .op _ a b,h=>by simp only [eY,an] at h; simp only [V.den,dc a h.1,dc b h.2]
 | .ap _ _,h=>by simp [eY] at h
theorem rq: ∀c:SB,uf K c=true->c.den ρ'=c.den ρ
 | .lit _,_=>rfl
 | .lt a b,h=>by simp only [uf,an] at h; simp only [SB.den,dc hρ a h.1,dc hρ b h.2]
 | .le a b,h=>by simp only [uf,an] at h; simp only [SB.den,dc hρ a h.1,dc hρ b h.2]
 | .eq a b,h=>by simp only [uf,an] at h; simp only [SB.den,dc hρ a h.1,dc hρ b h.2]
 | .not s,h=>by simp only [uf] at h; simp only [SB.den,rq s h]
 | .and a b,h=>by simp only [uf,an] at h; simp only [SB.den,rq a h.1,rq b h.2]
end
section
variable {K:Nat} {E E':En} (hρ: ∀i,i<K->E'.ρ i=E.ρ i) (hθ:E'.θ=E.θ) (hκ:E'.κ=E.κ) (tB:E'.dm=E.dm) (kO:E'.ro=E.ro) {h:Array Obj}
include hρ hθ hκ tB kO
theorem eE.low {id off len:Nat} {a:Addr} {cap:Nat} {c:Mq} (hc:eE E id off len a cap c):eE E' id off len a cap c:=by simp_all [eE]
mutual
theorem VR.low: ∀(x:W) (u:Value),jL K x=true->VR E h x u->VR E' h x u
 | .bool b,u,hl,hv=>by simp only [VR,jL] at *; rw [rq hρ b hl]; exact hv
 | .int _ e,u,hl,hv=>by simp only [VR,jL] at *; rw [dc hρ e hl]; exact hv
 | .str s,u,_,hv=>by simp only [VR] at *; exact hv
 | .ptr id off,u,_,hv=>by simp only [VR] at *; rw [hθ,tB]; exact hv
 | .tN,u,_,hv=>by simp only [VR] at *; exact hv
 | .mY cs,u,hl,hv=>by simp only [VR,jL] at *;obtain⟨b,o,us,U,Z,h3,h4,h5⟩:=hv;exact⟨b,o,us,U,by rw [kO]; exact Z,cB.low cs us hl h3,h4,h5⟩
 | .slice id off len c,u,_,hv=>by simp only [VR] at *;obtain⟨U,a,cap,Z,h3,h4⟩:=hv;exact⟨by rw [tB]; exact U,a,cap,Z,h3,eE.low hρ hθ hκ tB kO h4⟩
 | .eg,u,_,hv=>by simp only [VR] at *; exact hv
 | .ro cs n full,u,hl,hv=>by simp only [VR,jL] at *;obtain⟨b,o,cap,us,U,Z,h3,h4,h5,h6,h7⟩:=hv;exact⟨b,o,cap,us,U,Z,h3,by rw [kO]; exact h4,cB.low cs us hl h5,h6,h7⟩
 | .map id,u,_,hv=>by simp only [VR] at *; rw [hθ,tB]; exact hv
 | .rD,u,_,hv=>by simp only [VR] at *; exact hv
 | .func fn fs cs,u,hl,hv=>by simp only [VR,jL,an] at *;obtain⟨us,ws,U,Z,h3⟩:=hv;exact⟨us,ws,U,cB.low fs us hl.1 Z,cB.low cs ws hl.2 h3⟩
 | .wv,u,_,hv=>by simp only [VR] at *; exact hv
 | .iface t x,u,hl,hv=>by simp only [VR,jL] at *;obtain⟨y,U,Z⟩:=hv;exact⟨y,U,VR.low x y hl Z⟩
 | .xn,u,_,hv=>by simp only [VR] at *; exact hv
 | .agg cs,u,hl,hv=>by simp only [VR,jL] at *;obtain⟨us,U,Z⟩:=hv;exact⟨us,U,cB.low cs us hl Z⟩
 | .tuple cs,u,hl,hv=>by simp only [VR,jL] at *;obtain⟨us,U,Z⟩:=hv;exact⟨us,U,cB.low cs us hl Z⟩
 | .KG _,u,_,hv=>by simp only [VR] at hv
 | .wz _ _,u,hl,_=>by simp [jL] at hl
 | .emp,u,_,hv=>by simp only [VR] at *; exact hv
 | .ej e t,u,hl,hv=>by simp only [VR,jL] at *; rw [dc hρ e hl,kO]; exact hv
 | .jA e,u,hl,hv=>by simp only [VR,jL] at *; rw [dc hρ e hl,kO]; exact hv
 | .oS id n t,u,hl,hv=>by simp only [VR,jL] at *;obtain⟨U,k,a,cap,Z,h3,h4,h5⟩:=hv;exact⟨by rw [tB]; exact U,k,a,cap,by rw [dc hρ n hl]; exact Z,h3,h4,eE.low hρ hθ hκ tB kO h5⟩
 | .zq id es i off,u,hl,hv=>by simp only [VR,jL] at *;obtain⟨U,k,Z,h3⟩:=hv;exact⟨by rw [tB]; exact U,k,by rw [dc hρ i hl]; exact Z,by rw [hθ]; exact h3⟩
 | .any,u,_,_=>by simp only [VR]
 | .wZ z t,u,hl,hv=>by simp only [VR,jL] at *; rw [dc hρ z hl,kO]; exact hv
 | .tK id lo n t,u,hl,hv=>by simp only [VR,jL,an] at *;obtain⟨U,l,k,a,cap,Z,h3,h4,h5,h6⟩:=hv;exact⟨by rw [tB]; exact U,l,k,a,cap,by rw [dc hρ lo hl.1]; exact Z,by rw [dc hρ n hl.2]; exact h3,h4,h5,eE.low hρ hθ hκ tB kO h6⟩
theorem cB.low: ∀(xs:List W) (us:List Value),lS K xs=true->cB E h xs us->cB E' h xs us
 |[],us,_,hv=>by simp only [cB] at *; exact hv
 |x::xs,us,hl,hv=>by simp only [cB,lS,an] at *;obtain⟨u,vs,U,Z,h3⟩:=hv;exact⟨u,vs,U,VR.low x u hl.1 Z,cB.low xs vs hl.2 h3⟩
end
theorem eB.low: ∀{es:List (W×W×Nat)} {bL:List MapEntry},CA K es=true->eB E h es bL->eB E' h es bL
 |[],_,_,hv=>by simp only [eB] at *; exact hv
 |(k,v,b)::es,bL,hl,hv=>by simp only [eB,CA,an] at *;obtain⟨e,r,U,Z,h3,h4,h5⟩:=hv;exact⟨e,r,U,VR.low hρ hθ hκ tB kO k _ hl.1.1 Z,VR.low hρ hθ hκ tB kO v _ hl.1.2 h3,h4,eB.low hl.2 h5⟩
theorem Gb {i:Nat}: ∀{ov:List (V×List W)},Dl K ov=true->dX E'.ρ i ov=dX E.ρ i ov
 |[],_=>rfl
 |(j,cs)::l,hl=>by simp only [Dl,an] at hl;simp only [dX];rw [dc hρ j hl.1.1,Gb hl.2]
theorem Gd: ∀{ov:List (V×List W)},Dl K ov=true->∀p∈ov,lS K p.2=true
 |[],_,p,hp=>by simp at hp
 |(j,cs)::l,hl,p,hp=>by
  simp only [Dl,an] at hl;rcases aw.1 hp with rfl|hp
  ·grind
  ·exact Gd hl.2 p hp
theorem tf {r:Row} {ov:List (V×List W)} (hl:Dl K ov=true): ∀(ds:List D) (i:Nat) {us:List Value},cB E h (bF E.ρ r ov ds i) us->cB E' h (bF E'.ρ r ov ds i) us
 |[],_,us,hv=>by simp only [bF,cB] at *; exact hv
 |d::ds,i,us,hv=>by
  simp only [bF] at *;obtain⟨a,b,rfl,U,Z⟩:=hv.split;refine cB.append ?_ (tf hl ds (i+1) Z);rw [Gb hρ hθ hκ tB kO hl]
  cases ho:dX E.ρ i ov with
  |none=> rw [ho] at U;rw [fV] at U ⊢;rw [kO];exact U
  |some cs=> rw [ho] at U;obtain⟨p,p1,p2,_⟩:=kx ho;exact cB.low hρ hθ hκ tB kO cs a (by rw [<- p2]; exact Gd hρ hθ hκ tB kO hl p p1) U
theorem QA {n:Int}: ∀{ov:List (V×W)},sU K ov=true->lI E'.ρ n ov=lI E.ρ n ov
 |[],_=>rfl
 |(j,v)::l,hl=>by simp only [sU,an] at hl;simp only [lI];rw [dc hρ j hl.1.1,QA hl.2]
omit hρ hθ hκ tB kO in
theorem DY {n:Int} {ρ:Nat->Int} {v:W}: ∀{ov:List (V×W)},sU K ov=true->lI ρ n ov=some v->jL K v=true
 |[],_,h=>by simp [lI] at h
 |(j,u)::l,hl,h=>by
  simp only [sU,an] at hl;simp only [lI] at h;split at h
  ·simp only [ag] at h; subst h; exact hl.1.2
  ·exact DY hl.2 h
theorem Bz: ∀{ov:List (V×W)},sU K ov=true->(ov.map fun p=>p.1.den E'.ρ)=ov.map fun p=>p.1.den E.ρ
 |[],_=>rfl
 |(j,v)::l,hl=>by simp only [sU,an] at hl;simp only [ax];rw [dc hρ j hl.1.1,Bz hl.2]
theorem oH.low (Yf:E'.hd=E.hd) {B:Nat} {key:D} {j ty:Nat} {c:FC} {d:D} {u:Value} (ho:oH E h B key j ty c d u):oH E' h B key j ty c d u:=by
 cases c with
 |ck c=>simp only [oH] at *; rw [kO]; exact ho
 |mp t=>simp only [oH] at *; rw [kO,Yf]; exact ho
 |own t=>
  rcases ho with ho|⟨b,o,n,cap,a,arr,lo,hi,U,Z,h3,h4,h5,h6,h7⟩
  ·exact .inl (by rw [kO]; exact ho)
  ·refine .inr ⟨b,o,n,cap,a,arr,lo,hi,U,Z,by rw [Yf]; exact h3,h4,h5,h6,?_⟩;rcases h7 with h7|⟨g1,g2,us,g3,g4⟩
   ·exact .inl h7
   ·exact .inr ⟨g1,g2,us,tf hρ hθ hκ tB kO (ov:=[]) rfl _ _ g3,g4⟩
theorem pH.low (Yf:E'.hd=E.hd) {B t:Nat} {eR:List Nat} {key d:D} {v:Value} (ho:pH E h B t eR key d v):pH E' h B t eR key d v:=by
 unfold pH at *;split at ho
 ·obtain⟨c,U,Z⟩:=ho;exact⟨c,U,oH.low hρ hθ hκ tB kO Yf Z⟩
 ·obtain⟨b,o,arr,lo,hi,U,Z,h3,h4,h5,h6⟩:=ho;refine⟨b,o,arr,lo,hi,U,by rw [Yf]; exact Z,h3,h4,h5,fun j c hc=>?_⟩;obtain⟨u,g1,g2,g3⟩:=h6 j c hc;exact⟨u,g1,g2,oH.low hρ hθ hκ tB kO Yf g3⟩
theorem eI.low (Yf:E'.hd=E.hd) {B t:Nat} {eR:List Nat} {ov:List (V×W)} (hl:sU K ov=true): ∀{ds:List D} {es:List MapEntry},eI E h B t eR ov ds es->eI E' h B t eR ov ds es
 |[],_,ho=>ho
 |d::ds,_,⟨e,r,n,U,Z,h3,h4,h5⟩=>by
  refine⟨e,r,n,U,Z,h3,?_,eI.low Yf hl h5⟩;rw [QA hρ hθ hκ tB kO hl];split at h4
  ·rename_i v hv;exact VR.low hρ hθ hκ tB kO v _ (DY hl hv) h4
  ·exact pH.low hρ hθ hκ tB kO Yf h4
theorem OR.low {id:Nat} {o:dG} (hl:wM K o=true) (ho:OR E h id o) (Yf:E'.hd=E.hd:=by rfl):OR E' h id o:=by
 cases o with
 |qY e t eR ov=> simp only [OR,wM,an] at *;obtain⟨n0,bL,c,U,Z⟩:=ho;rw [hθ,dc hρ e hl.1];exact⟨n0.congr (Bz hρ hθ hκ tB kO hl.2),bL,c,U,eI.low hρ hθ hκ tB kO Yf hl.2 Z⟩
 |cells cs e=> simp only [OR,wM] at *;obtain⟨arr,lo,hi,us,U,Z,h3,h4,h5,h6,h7⟩:=ho;rw [hθ,hκ];exact⟨arr,lo,hi,us,U,cB.low hρ hθ hκ tB kO cs us hl Z,h3,h4,h5,h6,h7⟩
 |map es c=>
  grind [OR,wM,eB.low]
 |jS s p=>simp only [OR] at *; rw [hθ]; exact ho
 |ji m s l z=>cases m<;>(simp only [OR] at *; grind)
 |jM e t=>
  grind [OR,wM,dc]
 |vec e t ty ov=>
  grind [OR,wM,dc,tf,cD]
end
theorem KA {K:Nat} {ρ ρ':Nat->Int} (hρ: ∀i,i<K->ρ' i=ρ i): ∀{pc:List (SB×Bool)},P5 K pc=true->bW ρ pc->bW ρ' pc
 |[],_,_=>by intro c b h; simp at h
 |(c0,b0)::l,hl,hp=>by
  simp only [P5,an] at hl;intro c b hm;rcases aw.1 hm with hm|hm
  ·simp only [ak] at hm;obtain⟨rfl,rfl⟩:=hm;rw [rq hρ c hl.1];exact hp c b ad
  ·exact KA hρ hl.2 (fun c b h=>hp c b (by simp [h])) c b hm
theorem yc {K:Nat}: ∀{l:List (Nat×W)},rk K l=true->∀{t:Nat} {v:W},(t,v)∈l->jL K v=true
 |[],_,_,_,h=>by simp at h
 |(t0,v0)::l,hs,t,v,h=>by
  simp only [rk,an] at hs;rcases aw.1 h with h|h
  ·grind
  ·exact yc hs.2 h
theorem uA {K:Nat}: ∀{l:List dG},Cj K l=true->∀{i:Nat} {o:dG},l[i]?=some o->wM K o=true
 |[],_,_,_,h=>by simp at h
 |o0::l,hs,i,o,h=>by
  simp only [Cj,an] at hs
  cases i with
  |zero=>simp at h; rw [<- h]; exact hs.1
  |succ i=>exact uA hs.2 (by simpa using h)
structure vp (E:En) (s:St) (a:Act) (w:World):Prop where
 fresh: ∀id,s.h.next<=id->¬E.dm id
 res: ∀r,s.h.res=some r->r<s.h.next/\¬E.dm r
 live: ∀id o,s.h.get id=some o->E.dm id/\OR E w.heap id o/\¬E.ro (E.θ id).1
 inj: ∀id NY o o',s.h.get id=some o->s.h.get NY=some o'->(E.θ id).1=(E.θ NY).1->id=NY
 pS: ∀b,E.ro b->b<w.heap.size
 sr:SR E w.heap s.bD a
 pc:bW E.ρ s.pc
 hid: ∀b x,E.hd b=some x->b<w.heap.size/\¬E.ro b/\∀id o,s.h.get id=some o->(E.θ id).1≠b
theorem Fit.x [bI] {E:En} {s:St} {a:Act} {w:World} (f:Fit E s a w):vp E s a w:=⟨f.rel.fresh,f.rel.res,f.rel.live,f.rel.inj,f.rel.pS,f.sr,f.pc,f.rel.hid⟩
theorem vp.fit [bI] {E:En} {s:St} {a:Act} {w:World} (f:vp E s a w) (hg:bI.ok E.ρ E.ro w.heap):Fit E s a w:=⟨⟨f.fresh,f.res,f.live,f.inj,f.pS,hg,f.hid⟩,f.sr,f.pc⟩
theorem vp.low {K:Nat} {E:En} {c:CS} {a:Act} {w:World} {ρ':Nat->Int} (hc:ve K c=true) (hρ: ∀i,i<K->ρ' i=E.ρ i) (f:vp E c.st a w):vp { E with ρ:=ρ' } c.st a w:=by
 unfold ve at hc;simp only [an] at hc;obtain⟨⟨U,Z⟩,h3⟩:=hc;refine⟨f.fresh,f.res,fun id o ho=>?_,f.inj,f.pS,fun t v ht=>?_,KA hρ h3 f.pc,f.hid⟩
 ·obtain⟨q1,q2,q3⟩:=f.live id o ho;refine⟨q1,OR.low (E:=E) (E':={ E with ρ:=ρ' }) hρ rfl rfl rfl rfl ?_ q2,q3⟩;have:(nY c.dy 0 .nil).get id=some o:=ho
  grind [jb,uA,Tr.get]
 ·obtain⟨u,q1,q2⟩:=f.sr t v ht;refine⟨u,q1,VR.low (E:=E) (E':={ E with ρ:=ρ' }) hρ rfl rfl rfl rfl v u ?_ q2⟩;have:(nq c.bD .nil).get t=some v:=ht;rcases ua this with h|h
  all_goals grind [yc,Tr.get]
end Go.As
end
section
namespace Go.As
open Go.RowKit
def rY (ro:Nat->Prop) (h:Array Obj) (c:CK) (n:Int) (u:Value):Prop:=match c with
 | .int k=>u= .int k n
 | .bool=>u= .bool (!(n == 0))
 |c=>Rd ro h c (dec n) u
def gG (ro:Nat->Prop) (h:Array Obj):List CK->List Int->List Value->Prop
 |[],ns,us=>ns= []/\us= []
 |c::cs,ns,us=> ∃n r! u gr,ns=n::r!/\us=u::gr/\rY ro h c n u/\gG ro h cs r! gr
theorem L2 {E:En} {h:Array Obj} {c:CK} {t:V} {u:Value}:VR E h (Sc c t) u↔rY E.ro h c (t.den E.ρ) u:=by cases c<;>simp only [Sc,rY,VR,SB.den,V.den]
theorem Xm {E:En} {h:Array Obj} {c:CK} {v:W} {u:Value} {e:V} (hv:VR E h v u) (hn:Xn c v=some e):rY E.ro h c (e.den E.ρ) u:=by
 unfold Xn at hn;split at hn
 ·grind [rY,VR]
 ·grind
 ·obtain⟨s,rfl,hs⟩:=xY hv hn;simp only [rY,hs];exact .str s
 ·exact kI hv hn
theorem gG.length {ro:Nat->Prop} {h:Array Obj}: ∀{cs:List CK} {ns:List Int} {us:List Value},gG ro h cs ns us->ns.length=cs.length/\us.length=cs.length
 |[],ns,us,hh=>by simp only [gG] at hh; simp [hh.1,hh.2]
 |c::cs,ns,us,hh=>by
  obtain⟨n,r!,u,gr,rfl,rfl,_,Z⟩:=hh;have:=Z.length
  grind
theorem rY.bX {ro mb:Nat->Prop} {h h':Array Obj} (k1: ∀b,ro b->mb b) (k2: ∀b,ro b->h'[b]?=h[b]?) {c:CK} {n:Int} {u:Value} (r:rY ro h c n u):rY mb h' c n u:=by
 cases c with
 |int k=>exact r
 |bool=>exact r
 |str=>exact Rd.bX k1 k2 r
 |sl t=>exact Rd.bX k1 k2 r
theorem EK {E:En} {h:Array Obj} {f:Nat->V}: ∀{cs:List CK} {i:Nat} {ns:List Int} {us:List Value},gG E.ro h cs ns us->(∀k n,ns[k]?=some n->(f (i+k)).den E.ρ=n)->cB E h (EL cs f i) us
 |[],_,_,us,hh,_=>by simp only [gG] at hh; rw [hh.2]; simp [EL,cB]
 |c::cs,i,ns,us,hh,hf=>by
  obtain⟨n,r!,u,gr,rfl,rfl,U,Z⟩:=hh;simp only [EL,bV];refine⟨u,gr,rfl,?_,EK Z fun k m hk=>?_⟩
  ·rw [L2];have:=hf 0 n rfl
   grind
  ·have:=hf (k+1) m (by simpa using hk)
   grind
inductive Shape:List RK->List Value->List Value->Prop where
 |nil:Shape [] [] []
 |one (c:CK) {rs:List RK} {us fl:List Value} (u:Value):Shape rs us fl->Shape (.one c::rs) (u::us) (u::fl)
 |agg (cs:List CK) {rs:List RK} {us fl:List Value} (xs:List Value) (h:xs.length=cs.length):Shape rs us fl->Shape (.agg cs::rs) (.agg xs.toArray::us) (xs++fl)
theorem ny {E:En} {h:Array Obj}: ∀{kY:List RK} {vs cells:List W} {us:List Value},cB E h vs us->cellsOf kY vs=some cells->∃fl,Shape kY us fl/\cB E h cells fl
 |[],[],cells,us,hv,hc=>by simp only [cellsOf,ag] at hc;subst hc;simp only [cB] at hv;subst hv;exact⟨[],.nil,by simp [cB]⟩
 |[],_::_,cells,us,hv,hc=>by simp [cellsOf] at hc
 | .one _::_,[],cells,us,hv,hc=>by simp [cellsOf] at hc
 | .agg _::_,[],cells,us,hv,hc=>by simp [cellsOf] at hc
 | .one c::rs,v::vs,cells,us,hv,hc=>by
   rw [bV] at hv;obtain⟨u,gr,rfl,U,Z⟩:=hv;simp only [cellsOf] at hc;split at hc
   ·split at hc
    ·rename_i l hl;simp only [ag] at hc;subst hc;obtain⟨fl,s,v2⟩:=ny Z hl;exact⟨u::fl,.one c u s,by rw [bV]; exact⟨u,fl,rfl,U,v2⟩⟩
    grind
   grind
 | .agg cs::rs,v::vs,cells,us,hv,hc=>by
   rw [bV] at hv;obtain⟨u,gr,rfl,U,Z⟩:=hv;simp only [cellsOf] at hc;split at hc
   ·rename_i xs;split at hc
    ·rename_i hlen;have hlen:=aq hlen;split at hc
     ·rename_i l hl;simp only [ag] at hc;subst hc;obtain⟨fl,s,v2⟩:=ny Z hl;simp only [VR] at U;obtain⟨ws,rfl,h3⟩:=U;exact⟨ws++fl,.agg cs ws (by rw [h3.length,hlen]) s,h3.append v2⟩
     grind
    grind
   grind
theorem w8 {ro:Nat->Prop} {h:Array Obj}: ∀{cs ds:List CK} {ns:List Int} {us vs:List Value},us.length=cs.length->gG ro h (cs++ds) ns (us++vs)->∃a b,ns=a++b/\gG ro h cs a us/\gG ro h ds b vs
 |[],ds,ns,us,vs,hl,hh=>by have:us= []:=ame hl;subst this;exact⟨[],ns,rfl,by simp [gG],hh⟩
 |c::cs,ds,ns,us,vs,hl,hh=>by
  simp only [aP,gG] at hh;obtain⟨n,r!,u,gr,rfl,he,U,Z⟩:=hh
  cases us with
  |nil=>simp at hl
  |cons x us=> simp only [aP,List.cons.injEq] at he;obtain⟨rfl,rfl⟩:=he;obtain⟨a,b,rfl,h3,h4⟩:=w8 (by simpa using hl) Z;exact⟨n::a,b,rfl,⟨n,a,x,us,rfl,rfl,U,h3⟩,h4⟩
theorem rF {E:En} {h:Array Obj} {f:Nat->V}: ∀{kY:List RK} {us fl:List Value} {ns:List Int} {i:Nat},Shape kY us fl->gG E.ro h (oy kY) ns fl->(∀k n,ns[k]?=some n->(f (i+k)).den E.ρ=n)->cB E h (oY kY f i) us
 |[],us,fl,ns,i,s,_,_=>by cases s; simp [oY,cB]
 | .one c::rs,us,fl,ns,i,s,hc,hf=>by
   cases s with
   |one _ u s=>
    simp only [oy,RK.flat,aP,aF,gG] at hc;obtain⟨n,r!,u',gr,rfl,he,U,Z⟩:=hc;simp only [List.cons.injEq] at he;obtain⟨rfl,rfl⟩:=he;simp only [oY,bV];refine⟨_,_,rfl,?_,rF s Z fun k m hk=>?_⟩
    ·rw [L2];have:=hf 0 n rfl
     grind
    ·have:=hf (k+1) m (by simpa using hk)
     grind
 | .agg cs::rs,us,fl,ns,i,s,hc,hf=>by
   cases s with
   |agg _ xs hl s=>
    simp only [oy,RK.flat] at hc;obtain⟨a,b,rfl,U,Z⟩:=w8 hl hc;have Ob:=U.length.1;simp only [oY,bV,VR];refine⟨_,_,rfl,⟨xs,rfl,EK U fun k m hk=>hf k m ?_⟩,rF s Z fun k m hk=>?_⟩
    ·grind
    ·have:=hf (cs.length+k) m (by rw [anE J,show cs.length+k-a.length=k by omega]; exact hk)
     grind
section
variable {P:Program} {E:En} {w:World}
theorem Ci {α:Type} {r:α} {h:Array Obj}: ∀{cs:List CK} {vs:List W} {s:St} {k:List V->St->T α} {us:List Value},bW E.ρ s.pc->cB E h vs us->(outs cs vs s k).leaf E.ρ=some r->
 ∃es dZ,bW E.ρ dZ/\gG E.ro h cs (es.map (V.den E.ρ)) us/\(k es { s with pc:=dZ }).leaf E.ρ=some r
 |[],[],s,k,us,hp,hv,hl=>by simp only [outs] at hl;simp only [cB] at hv;exact⟨[],s.pc,hp,by simp [gG,hv],hl⟩
 |[],_::_,s,k,us,hp,hv,hl=>by simp [outs,T.leaf] at hl
 |_::_,[],s,k,us,hp,hv,hl=>by simp [outs,T.leaf] at hl
 |c::cs,v::vs,s,k,us,hp,hv,hl=>by
  rw [bV] at hv;obtain⟨u,gr,rfl,U,Z⟩:=hv;simp only [outs] at hl;split at hl
  ·split at hl
   ·rename_i b;obtain⟨fA,fj,Ax⟩:=cH hp hl;obtain⟨es,jw,jl,q1,q2⟩:=Ci (s:={ s with pc:=fA }) fj Z Ax;refine⟨_::es,jw,jl,?_,q2⟩;simp only [ax,gG];refine⟨_,_,u,gr,rfl,rfl,?_,q1⟩;simp only [VR] at U;subst U;simp only [rY,V.den];cases b.den E.ρ<;>rfl
   grind [T.leaf]
  ·split at hl
   ·rename_i e he;obtain⟨es,jw,jl,q1,q2⟩:=Ci hp Z hl
    grind [gG,Xm]
   grind [T.leaf]
theorem xe (ρ:Nat->Int): ∀es:List V,dec ((fN es).den ρ)=dL ((es.map (V.den ρ)).map .i)
 |[]=>by simp only [fN,V.den,bB]; rfl
 |e::es=>by simp only [fN,ew,V.den,e9.den,bB,lr,xe ρ es,ax,dL]
theorem iU (ρ:Nat->Int): ∀es:List V,(fN es).den ρ=l9 (es.map (V.den ρ))
 |[]=>rfl
 |e::es=>by have:=xe ρ (e::es);simp only [fN,ew,V.den,e9.den,bB,lr,xe ρ es,ax,l9,dL]
theorem vz {ρ:Nat->Int} {r:V} {ys:List Int} (h:r.den ρ=l9 ys) {i:Nat} {y:Int} (hi:ys[i]?=some y):(oe r i).den ρ=y:=by simp only [oe,V.den,e9.den,h,l9,bB,D.hd,bM,bn,hi,bw,az,D.n]
def aaX (kY:List RK) (ys:List Int) (ro:Nat->Prop) (h:Array Obj) (u:Value):Prop:= ∃us fl,Shape kY us fl/\gG ro h (oy kY) ys fl/\u=if hh:us.toArray.size=1 then us.toArray[0] else .tuple us.toArray
def i_ (P:Program) (GB:(Nat->Prop)->Array Obj->Prop) (g:FuncId) (EU kY:List RK) (f:List Int->Option (List Int)):Prop:=
 ∀xs ys,f xs=some ys->∀(ro:Nat->Prop) (w:World) (vals fl:List Value),(∀b,ro b->b<w.heap.size)->GB ro w.heap->Shape EU vals fl->gG ro w.heap (oy EU) xs fl->
  Calls P g vals.toArray w fun e w'=> ∃u,e= .returned u/\Below w.heap.size w w'/\∃mb:Nat->Prop,(∀b,ro b->mb b)/\(∀b,mb b->ro b\/w.heap.size<=b)/\(∀b,mb b->b<w'.heap.size)/\aaX kY ys mb w'.heap u
theorem gG.aee {ro mb:Nat->Prop} {h h':Array Obj}: ∀{cs:List CK} {ns:List Int} {us:List Value},gG ro h cs ns us->FT cs=true->gG mb h' cs ns us
 |[],ns,us,hh,_=>hh
 |c::cs,ns,us,hh,hs=>by
  obtain⟨n,r!,u,gr,rfl,rfl,U,Z⟩:=hh;simp only [FT] at hs;split at hs
  ·exact⟨n,r!,u,gr,rfl,rfl,U,Z.aee hs⟩
  ·exact⟨n,r!,u,gr,rfl,rfl,U,Z.aee hs⟩
  grind
theorem X4 [bI] {GB:(Nat->Prop)->Array Obj->Prop} (Lg: ∀ρ ro h,bI.ok ρ ro h->GB ro h) {F:nT} (Le: ∀ρ ro h,bI.ok ρ ro h->Good F ρ) {g:FuncId} {j:Nat} {EU kY:List RK} (hs:i_ P GB g EU kY (F j))
 (kZ: ∀(args:Array Value) (w:World),(callFunc g args).run P w= .ok (.enter g args) w):iE P g (X5 j EU kY):=by
 intro al5 s E w vals v s' r hv hp hl;unfold X5 at hl;split at hl
 ·grind [T.leaf]
 ·rename_i cells hc;obtain⟨fl,sh,W?⟩:=ny hv hc;obtain⟨afP,U,pcF,E1,X!,f,hfr,hl⟩:=pq rfl r hp hl;have hv3:=hfr _ W?;have s1:=f.ei;have r1:=f.rel;have hρ:=f.ρ;rw [<- hρ] at hl X!;obtain⟨es,fA,fj,q1,q2⟩:=Ci (s:={ s with h:=U,pc:=pcF }) X! hv3 hl;obtain⟨jw,jl,q3⟩:=cH (s:={ s with h:=U,pc:=fA }) fj q2;split at q3
  ·rename_i ht;have hg:=Le _ _ _ r1.iT;have hg1:=(hg j (es.map (V.den E1.ρ))).1;have hg2:=(hg j (es.map (V.den E1.ρ))).2;simp only [SB.den,V.den,iU,hg1,beq_iff_eq] at ht
   have Bt:(F j (es.map (V.den E1.ρ))).isSome=true:=by
    grind
   obtain⟨ys,GI⟩:=amy.1 Bt;have xz:=bC q3;simp only [ak] at xz;obtain⟨rfl,hs'⟩:=xz;have abX:=hs _ ys GI E1.ro w vals fl r1.pS (Lg _ _ _ r1.iT) sh q1
   have Fh: ∀(E2:En) (Z:Array Obj) (us fl':List Value),E2.ρ=E1.ρ->Shape kY us fl'->gG E2.ro Z (oy kY) ys fl'->
    VR E2 Z (match oY kY (oe (.ap (2*j+1) (fN es))) 0 with |[v]=>v|vs=> .tuple vs) (if hh:us.toArray.size=1 then us.toArray[0] else .tuple us.toArray):=by
    intro E2 Z us fl' hE2 sh' c1
    have hvr:cB E2 Z (oY kY (oe (.ap (2*j+1) (fN es))) 0) us:=by
     refine rF sh' c1 fun k n hk=>?_;rw [ay];refine vz (ys:=ys) ?_ hk;show E2.ρ _=_
     grind [iU]
    have:=Ce hvr;unfold Ab at this;exact this
   cases hsc:FT (oy kY) with
   |true=>
    rw [hsc] at hs';simp only at hs';subst hs';refine⟨rfl,by rw [<- hρ]; exact jl,?_⟩;unfold kV mR;rw [kZ];refine Calls.mono abX fun e w' ⟨u,he,Y,mb,k1,k2,k3,k4⟩=> ⟨u,he,?_⟩;have tz:fg E w.heap E w'.heap:=⟨rfl,fun _ h=>h,fun _ _=>rfl,fun _ _=>rfl,fun _ h=>h,fun b IK=>Y.block b (r.pS b IK)⟩
    have tL:eM E s.h w E s.h w':=
     ⟨rfl,fun _ h=>h,fun _ _=>rfl,fun _ _=>rfl,fun _ h=>h,fun b IK=> .inl IK,au _,.inr rfl,fun _ h=> .inl h,Y.os,Y.tape,Y.output,Y.size,fun b ng _=>Y.block b ng,fun id o h _=> ⟨id,o,h,rfl⟩,rfl⟩
    have r2:bP E s.h w':=by refine⟨r.fresh,r.res,fun id o h=>?_,r.inj,fun b IK=>amp (r.pS b IK) Y.size,bI.bX r.iT (fun _ h=>h) tz.Ba,r.TP tL.hd tL.size tL.qW tL.own⟩;obtain⟨g1,g2,g3⟩:=r.live id o h;exact⟨g1,g2.bX tz g1 (Y.block _ (fF r h)) (r.TU rfl (fun x hx _=>Y.block x hx) _),g3⟩
    obtain⟨us,fl',sh',c1,rfl⟩:=k4;exact⟨E,tL,r2,Fh E w'.heap us fl' hρ.symm sh' (c1.aee hsc)⟩
   |false=>
    rw [hsc] at hs';simp only at hs';subst hs';refine⟨rfl,by rw [<- hρ]; exact jl,?_⟩;unfold kV mR;rw [kZ];refine Calls.mono abX fun e w' ⟨u,he,Y,mb,k1,k2,k3,k4⟩=> ⟨u,he,?_⟩;have tz:fg E1 w.heap { E1 with ro:=mb } w'.heap:=⟨rfl,fun _ h=>h,fun _ _=>rfl,fun _ _=>rfl,k1,fun b IK=>Y.block b (r1.pS b IK)⟩
    have tL:eM E1 U w { E1 with ro:=mb } U w':=
     ⟨rfl,fun _ h=>h,fun _ _=>rfl,fun _ _=>rfl,k1,fun b IK=>(k2 b IK).imp id .inr,au _,.inr rfl,fun _ h=> .inl h,Y.os,Y.tape,Y.output,Y.size,fun b ng _=>Y.block b ng,fun id o h _=> ⟨id,o,h,rfl⟩,rfl⟩
    have r2:bP { E1 with ro:=mb } U w':=by
     refine⟨r1.fresh,r1.res,fun id o h=>?_,r1.inj,k3,bI.bX r1.iT k1 tz.Ba,r1.TP tL.hd tL.size tL.qW tL.own⟩;obtain⟨g1,g2,g3⟩:=r1.live id o h;refine⟨g1,g2.bX tz g1 (Y.block _ (fF r1 h)) (r1.TU rfl (fun x hx _=>Y.block x hx) _),fun hr=>?_⟩;rcases k2 _ hr with hr|hr
     ·grind
     ·have fe:(E1.θ id).1<w.heap.size:=fF r1 h
      grind
    obtain⟨us,fl',sh',c1,rfl⟩:=k4;exact⟨{ E1 with ro:=mb },s1.trans tL,r2,Fh { E1 with ro:=mb } w'.heap us fl' rfl sh' c1⟩
  grind [T.leaf]
end
structure l7 where
 w0:World
 ro:Nat->Prop
 m:Nat
 θ:Nat->Nat×Nat
 κ:Nat->Nat
def l7.fp (B:l7) (b:Nat):Prop:= ∃i,i<B.m/\(B.θ i).1=b
structure Bel (B:l7) (w:World):Prop where
 os:w.os=B.w0.os
 tape:w.tape=B.w0.tape
 output:w.output=B.w0.output
 size:B.w0.heap.size<=w.heap.size
 nW: ∀k,k<B.w0.heap.size->¬B.fp k->w.heap[k]?=B.w0.heap[k]?
structure kj (B:l7) (E:En) (s:St) (a:Act) (w:World):Prop where
 fit:vp E s a w
 ro: ∀b,B.ro b->E.ro b
 qW: ∀b,E.ro b->B.ro b\/B.w0.heap.size<=b\/B.fp b
 MC:Bel B w
 own: ∀id o,s.h.get id=some o->B.w0.heap.size<=(E.θ id).1\/B.fp (E.θ id).1
 W_: ∀i,i<B.m->E.dm i/\E.θ i=B.θ i/\E.κ i=B.κ i
 sL: ∀b x,E.hd b=some x->B.w0.heap.size<=b
section
variable {P:Program} {B:l7}
theorem kj.step [bI] {E E':En} {s s':St} {a a':Act} {w w':World} (t:kj B E s a w) (st:eM E s.h w E' s'.h w') (f':Fit E' s' a' w'):kj B E' s' a' w':=by
 have X?: ∀id o,s'.h.get id=some o->B.w0.heap.size<=(E'.θ id).1\/B.fp (E'.θ id).1:=by
  intro id o ho;rcases aQ (E'.θ id).1 w.heap.size with h|h
  ·obtain⟨qX,o0,h0,he⟩:=st.own id o ho h;rw [<- he];exact t.own qX o0 h0
  ·exact .inl (bk t.MC.size h)
 refine⟨f'.x,fun b Y=>st.ro b (t.ro b Y),fun b Y=>?_,⟨st.os.trans t.MC.os,st.tape.trans t.MC.tape,st.output.trans t.MC.output,bk t.MC.size st.size,fun k hk hn=>?_⟩,X?,fun i hi=>?_,fun b x Y=>t.sL b x (by rw [<- st.hd]; exact Y)⟩
 ·rcases st.qW b Y with h|⟨id,o,U,Z⟩|h
  ·exact t.qW b h
  ·rw [<- Z]; exact .inr (t.own id o U)
  ·exact .inr (.inl (bk t.MC.size h))
 ·rw [<- t.MC.nW k hk hn];refine st.bX k (amp hk t.MC.size) fun id o ho he=>?_;rcases t.own id o ho with h|h
  all_goals grind
 ·obtain⟨U,Z,h3⟩:=t.W_ i hi;exact⟨st.dm i U,by rw [st.θ i U]; exact Z,by rw [st.κ i U]; exact h3⟩
theorem kj.then [bI] {E:En} {s s':St} {a a':Act} {w w':World} (t:kj B E s a w) (h:mH E s a w s' a' w'): ∃E',kj B E' s' a' w'/\E'.ρ=E.ρ/\bI.ok E'.ρ E'.ro w'.heap:=by obtain⟨_,_,E',st,f'⟩:=h;exact⟨E',t.step st f',st.ρ,f'.rel.iT⟩
theorem kj.pc {E:En} {s:St} {a:Act} {w:World} {pc:List (SB×Bool)} (t:kj B E s a w) (hp:bW E.ρ pc):kj B E { s with pc:=pc } a w:=
 ⟨⟨t.fit.fresh,t.fit.res,t.fit.live,t.fit.inj,t.fit.pS,t.fit.sr,hp,t.fit.hid⟩,t.ro,t.qW,t.MC,t.own,t.W_,t.sL⟩
theorem DH {r:Ren}: ∀{m:Nat},DI m r=true->∀i,i<m->i<r.bl.length/\r.id i=i/\r.tM i=0
 |0,_,i,hi=>by omega
 |n+1,h,i,hi=>by
  simp only [DI,an] at h;obtain⟨⟨U,Z⟩,h3⟩:=h;by_cases he:i=n
  ·subst he;split at U
   ·rename_i j hj;have U:=aq U;subst U;refine⟨?_,?_,aq Z⟩
    all_goals grind [di,Ren.id]
   grind
  ·exact DH h3 i J
theorem kj.fits [bI] {E:En} {c:CS} {s:St} {r:Ren} {a:Act} {w:World} (t:kj B E s a w) (hg:bI.ok E.ρ E.ro w.heap) (h:c.fits q? s r=true) (hid:DI B.m r=true):r.ns.length<=900/\kj B (E.gB r) c.st a w:=by
 obtain⟨hl,f,ho⟩:=yY NA (t.fit.fit hg) h;refine⟨hl,f.x,t.ro,t.qW,t.MC,fun id o hid=>?_,fun i hi=>?_,t.sL⟩
 ·obtain⟨o',h'⟩:=ho id o hid;exact t.own _ _ h'
 ·obtain⟨q1,q2,q3⟩:=DH hid i hi;obtain⟨U,Z,h3⟩:=t.W_ i hi;refine⟨⟨q1,by rw [q2]; exact U⟩,?_,?_⟩
  ·show ((E.θ (r.id i)).1,(E.θ (r.id i)).2+r.tM i)=_
   grind
  ·show E.κ (r.id i)-r.tM i=_
   grind
theorem kj.low {K:Nat} {E:En} {c:CS} {a:Act} {w:World} {ρ':Nat->Int} (hc:ve K c=true) (hρ: ∀i,i<K->ρ' i=E.ρ i) (t:kj B E c.st a w):kj B { E with ρ:=ρ' } c.st a w:=
 ⟨t.fit.low hc hρ,t.ro,t.qW,t.MC,t.own,t.W_,t.sL⟩
def l7.out (B:l7) (ys:List Int) (ro:Nat->Prop):En:={ ρ:=low ys,θ:=B.θ,κ:=B.κ,dm:=fun i=>i<B.m,ro:=ro }
def QE (B:l7) (kY:List RK) (ec:List dG) (ko:Nat) (ys:List Int) (e:Ending) (w':World):Prop:=
 ∃u,e= .returned u/\Bel B w'/\∃mb:Nat->Prop,(∀b,B.ro b->mb b)/\(∀b,mb b->B.ro b\/B.w0.heap.size<=b)/\(∀b,mb b->b<w'.heap.size)/\(∀i,i<B.m->¬mb (B.θ i).1)/\
  (∀i o,ec[i]?=some o->OR (B.out ys mb) w'.heap i o)/\aaX kY (ys.drop ko) mb w'.heap u
def Tb (us:List Value):Value:=if h:us.toArray.size=1 then us.toArray[0] else .tuple us.toArray
def QR (B:l7) (og:List CS) (ys:List Int) (e:Ending) (w':World):Prop:=
 ∃(us:List Value) (i:Nat) (c:CS) (E':En),e= .returned (Tb us)/\Bel B w'/\og[i]?=some c/\ys[0]?=some (i:Int)/\ys.length=c.k+1/\(∀a x,ys[a+1]?=some x->E'.ρ a=x)/\us.length=c.bD.length/\
  vp E' c.st { tmps:=us.toArray,defers:=[] } w'/\(∀b,B.ro b->E'.ro b)/\(∀b,E'.ro b->B.ro b\/B.w0.heap.size<=b)/\(∀i,i<B.m->i<c.dy.length/\E'.dm i/\E'.θ i=B.θ i/\E'.κ i=B.κ i)/\(∀id o,c.st.h.get id=some o->B.m<=id->B.w0.heap.size<=(E'.θ id).1)
def QX (B:l7) (kY:List RK) (ec:List dG) (ko:Nat) (og:List CS) (ys:List Int):Ending->World->Prop:=match og with
 |[]=>QE B kY ec ko ys
 |c::l=>QR B (c::l) ys
structure Pt [bI] (P:Program) (g:tp) (qu:Nat->List Oper->Bool):Prop where
 tt:ep P g.tt
 call:gY P g.call
 draw:vq P qu g.draw
theorem rP {qu:Nat->List Oper->Bool} {N:Nat} {body:Code} (h:jJ qu N body=true): ∀(p:List Nat) {c:Code} {fr:List FrE},oA body p=some (c,fr)->jJ qu N c=true
 |[],c,fr,hl=>by
  grind [oA]
 |d::p,c,fr,hl=>by
  simp only [oA] at hl;split at hl
  ·rename_i a b Yy hp;have:=rP h p hp
   grind [jJ]
  ·rename_i id b Yy hp;have:=rP h p hp
   grind [jJ]
  ·rename_i v a b Yy hp;have:=rP h p hp
   grind [jJ]
  ·rename_i b Yy hp;have:=rP h p hp
   grind [jJ]
  ·rename_i b Yy hp;have:=rP h p hp
   grind [jJ]
  grind
theorem vI {body:Code}: ∀(p:List Nat) {c:Code} {fr:List FrE},oA body p=some (c,fr)->EZ body fr
 |[],c,fr,h=>by simp only [oA,ag,ak] at h;rw [<- h.2]; trivial
 |d::p,c,fr,h=>by
  have h0:=h;simp only [oA] at h;split at h
  ·rename_i a b Yy hp;have ih:=vI p hp;split at h
   ·simp only [ag,ak] at h;obtain⟨rfl,rfl⟩:=h;refine⟨?_,ih⟩;simp only [oA,hp]
   grind
  ·rename_i id b Yy hp;have ih:=vI p hp;simp only [ag,ak] at h;rw [<- h.2]; exact ih
  ·rename_i v a b Yy hp;have ih:=vI p hp
   grind
  ·rename_i b Yy hp;have ih:=vI p hp;simp only [ag,ak] at h;rw [<- h.2];exact⟨hp,ih⟩
  ·rename_i b Yy hp;have ih:=vI p hp;simp only [ag,ak] at h;rw [<- h.2]; exact ih
  grind
def Ml (F:nT) (ρ:Nat->Int) (ys:List Int):Lf->Prop
 | .out es=>es.map (V.den ρ)=ys
 | .jump j es=>F j (es.map (V.den ρ))=some ys
def o? [bI] (P:Program) (body:Code) (N:Nat) (B:l7) (Q:Exit->Act->World->Prop) (F:nT) (ys:List Int) (eV:B4):Prop:=
 ∀p l,eV p=some l->∃b fr,oA body p=some (.loop b,fr)/\∀j c,(j,c)∈l->∀E a w,kj B E c.st a w->bI.ok E.ρ E.ro w.heap->(∃xs:List Int,(∀i x,xs[i]?=some x->E.ρ i=x)/\xs.length=c.k/\c.k<=900/\F j xs=some ys)->N<=a.tmps.size->a.defers= []->EY P b (KE P Q fr) a w
theorem nt (g:Tr V): ∀(n i:Nat),(xt g n i).length=n
 |0,_=>rfl
 |n+1,i=>by simp only [xt];split<;>simp [nt g n (i+1)]
theorem sP (m:Nat) (c:CS) (s:St):(c.jc m s).ns.length=c.k:=by
 grind [CS.jc,nt]
theorem yX: ∀(n i:Nat) (ns:List V),(BA n i ns).length=ns.length
 |0,_,_=>rfl
 |_+1,_,[]=>rfl
 |n+1,i,_::ns=>by simp only [BA,aK,yX n (i+1) ns]
theorem uY (gU:Nat) (r:Ren):(qR gU r).ns.length=r.ns.length:=by
 unfold qR
 grind [yX]
theorem HI {α:Type} {k:St->T α} {E:En} {a:Act} {w:World} {x:α}: ∀{ts:List (Nat×Nat)} {s:St},(ML k ts s).leaf E.ρ=some x->kj B E s a w->∃s',kj B E s' a w/\(k s').leaf E.ρ=some x
 |[],s,h,t=> ⟨s,t,h⟩
 |(i,g)::ts,s,h,t=>by
  simp only [ML] at h;split at h
  ·obtain⟨dZ,fh,U⟩:=cH t.fit.pc h;exact HI U (t.pc fh)
  ·exact HI h t
theorem vK [bI] {gU:Nat} {F:nT} {ys:List Int} {body:Code} {N:Nat} {Q:Exit->Act->World->Prop} {eV:B4} (hj:o? P body N B Q F ys eV) {p:List Nat} {l0:List (Nat×CS)} (hp:eV p=some l0) {b:Code} {fr:List FrE} (hl:oA body p=some (.loop b,fr)) :
 ∀{l:List (Nat×CS)} {s:St} {lf:Lf} {E:En} {a:Act} {w:World},(∀x∈l,x∈l0)->(qE B.m gU s l).leaf E.ρ=some lf->Ml F E.ρ ys lf->kj B E s a w->bI.ok E.ρ E.ro w.heap->N<=a.tmps.size->a.defers= []->EY P b (KE P Q fr) a w
 |[],s,lf,E,a,w,_,h,_,_,_,_,_=>by simp [qE,T.leaf] at h
 |(j,c)::l,s,lf,E,a,w,l8,h,pL,t,hg,hN,hd=>by
  simp only [qE] at h;split at h
  ·exact vK hj hp hl (fun x hx=>l8 x (by simp [hx])) h pL t hg hN hd
  ·split at h
   ·rename_i hf;have:=bC h;subst this;simp only [an] at hf;obtain⟨hle,t'⟩:=t.fits hg hf.1 hf.2;obtain⟨b',Yy,N7,hh⟩:=hj p l0 hp;rw [hl] at N7;simp only [ag,ak,Code.loop.injEq] at N7;obtain⟨rfl,rfl⟩:=N7;have oo:(qR gU (c.jc B.m s)).ns.length=c.k:=by rw [uY,sP]
    refine hh j c (l8 _ ad) (E.gB (qR gU (c.jc B.m s))) a w t' (bI.gB hg fun i hi=>Ren.lE hle hi) ⟨(qR gU (c.jc B.m s)).ns.map (V.den E.ρ),fun i x hi=>?_,by simp [oo],by rw [<- oo]; exact hle,pL⟩ hN hd;rw [bn,aO] at hi;obtain⟨e,he,rfl⟩:=hi;show (qR gU (c.jc B.m s)).env E.ρ i=_
    grind [Ren.env,di]
   ·exact vK hj hp hl (fun x hx=>l8 x (by simp [hx])) h pL t hg hN hd
theorem wc {α:Type} {k:St->T α} {E:En} {a:Act} {w:World} {x:α}: ∀{ts:List Nat} {s:St},(vh k ts s).leaf E.ρ=some x->kj B E s a w->∃s',kj B E s' a w/\(k s').leaf E.ρ=some x
 |[],s,h,t=> ⟨s,t,h⟩
 |i::ts,s,h,t=>by
  simp only [vh] at h;split at h
  ·rename_i c hc;obtain⟨dZ,fh,U⟩:=cH t.fit.pc h;refine wc U ⟨⟨t.fit.fresh,t.fit.res,t.fit.live,t.fit.inj,t.fit.pS,fun j v hj=>?_,fh,t.fit.hid⟩,t.ro,t.qW,t.MC,t.own,t.W_,t.sL⟩;simp only at hj;rw [Tr.bR] at hj;split at hj
   ·rename_i he;subst he;simp only [ag] at hj;subst hj;obtain⟨u,Z,h3⟩:=t.fit.sr _ _ hc;refine⟨u,Z,?_⟩;simp only [VR] at h3 ⊢;rw [h3];rfl
   ·exact t.fit.sr j v hj
  ·exact wc h t
theorem Tv (g:tp) (h:Hp):(gC g h).ns.length=g.ko/\(gC g h).bl=List.range g.ec.length/\(gC g h).sh= []:=by
 grind [gC,nt]
def nfs:List dG->Bool
 |[]=>true
 |o::l=>nf o&&nfs l
theorem Io: ∀{l:List dG},nfs l=true->∀{i:Nat} {o:dG},l[i]?=some o->nf o=true
 |[],_,_,_,h=>by simp at h
 |o0::l,hs,i,o,h=>by
  simp only [nfs,an] at hs
  cases i with
  |zero=>simp at h; rw [<- h]; exact hs.1
  |succ i=>exact Io hs.2 (by simpa using h)
def mz (K:Nat):List dG->Bool
 |[]=>true
 |o::l=>nf o&&(wM K o&&mz K l)
theorem my {K:Nat}: ∀{l:List dG},mz K l=true->∀{i:Nat} {o:dG},l[i]?=some o->nf o=true/\wM K o=true
 |[],_,_,_,h=>by simp at h
 |o0::l,hs,i,o,h=>by
  simp only [mz,an] at hs
  cases i with
  |zero=>simp at h; rw [<- h]; exact⟨hs.1,hs.2.1⟩
  |succ i=>exact my hs.2.2 (by simpa using h)
theorem CB {n m gU:Nat} {s:St} {ρ:Nat->Int} {lf:Lf}: ∀{l:List CS} {k:Nat},(LJ n m gU s l k).leaf ρ=some lf->∃i c,l[i-k]?=some c/\(c.fits q? s (qR gU (c.jc m s))=true/\DI m (qR gU (c.jc m s))=true)/\n=c.bD.length/\lf= .out (.lit (i:Int)::(qR gU (c.jc m s)).ns)/\k<=i
 |[],k,h=>by simp [LJ,T.leaf] at h
 |c::l,k,h=>by
  simp only [LJ] at h;split at h
  ·obtain⟨i,c',q1,q2,q3,q4,q5⟩:=CB h
   grind
  ·rename_i hq;simp only [an] at hq;split at h
   ·rename_i hf;have:=bC h;simp only [an] at hf;exact⟨k,c,ad,hf,aq hq.2,this.symm,au _⟩
   ·obtain⟨i,c',q1,q2,q3,q4,q5⟩:=CB h
    grind
theorem JJ {E E':En} {h h':Array Obj} (kp:fg E h E' h'): ∀{xs:List W} {us:List Value} {i:Nat} {x:W},cB E h xs us->xs[i]?=some x->∃u,VR E h x u/\∀x',VR E' h' x' u->cB E' h' (xs.set i x') us
 |[],us,i,x,_,hx=>by simp at hx
 |y::ys,us,0,x,hv,hx=>by rw [bV] at hv;obtain⟨u,vs,rfl,a,b⟩:=hv;simp only [aG,ag] at hx;subst hx;refine⟨u,a,fun x' UF=>?_⟩;rw [amP,bV];exact⟨u,vs,rfl,UF,cB.bX kp _ _ b⟩
 |y::ys,us,i+1,x,hv,hx=>by rw [bV] at hv;obtain⟨u,vs,rfl,a,b⟩:=hv;rw [aH] at hx;obtain⟨u',U,Z⟩:=JJ kp b hx;refine⟨u',U,fun x' UF=>?_⟩;rw [amQ,bV];exact⟨u,vs,rfl,VR.bX kp _ _ a,Z x' UF⟩
theorem IT [bI] {α:Type} {ρ:Nat->Int} {w:World} {us:List Value} {k:List W->St->T α} {x:α}: ∀{fz:List (Nat×Nat×Nat)} {vs:List W} {s:St} {E:En},E.ρ=ρ->bP E s.h w->bW ρ s.pc->cB E w.heap vs us->(Ln fz vs s k).leaf ρ=some x->
 ∃Mr h' dZ E',bW ρ dZ/\JW E w s.h E' h'/\cB E' w.heap Mr us/\(k Mr { s with h:=h',pc:=dZ }).leaf ρ=some x
 |[],vs,s,E,hρ,r,hp,hv,h=> ⟨vs,s.h,s.pc,E,hp,JW.refl r,hv,h⟩
 |(i,f,t)::l,vs,s,E,hρ,r,hp,hv,h=>by
  simp only [Ln] at h;split at h
  ·rename_i xs hi;split at h
   ·rename_i y hy;rw [di] at hi hy;obtain⟨y',U,fA,E1,fj,f1,q1,g1⟩:=IS hρ r hp h;have kp:=f1.ei.keeps r;obtain⟨u,a,b⟩:=JJ kp hv hi;simp only [VR] at a;obtain⟨ws,rfl,a⟩:=a;obtain⟨u2,a2,b2⟩:=JJ kp a hy;split at g1
    ·rename_i e he;have hc:=kI (q1 _ a2) he
     have Rg:cB E1 w.heap (vs.set i (.agg (xs.set f (.ej e t)))) us:=by refine b _ ?_;simp only [VR];exact⟨ws,rfl,b2 _ (by simp only [VR]; exact hc)⟩
     obtain⟨vs2,Z,jw,E2,jl,f2,q2,g2⟩:=IT (s:={ s with h:=U,pc:=fA }) (f1.ρ.trans hρ) f1.rel fj Rg g1;exact⟨vs2,Z,jw,E2,jl,f1.trans f2,q2,g2⟩
    grind [T.leaf]
   grind [T.leaf]
  grind [T.leaf]
theorem aar [bI] {g:tp} {qu:Nat->List Oper->Bool} (hg:Pt P g qu) {fn:Func} (xz:g.res=fn.results.toList) (hm:g.ec.length=B.m) (nV:mz g.ko g.ec=true) (u_:g.ko<=900) {e:Ex} {s:St} {lf:Lf} {E:En} {a:Act} {w:World} {F:nT} {ys:List Int} (h:(YL g e s).leaf E.ρ=some lf) (pL:Ml F E.ρ ys lf)
 (t:kj B E s a w) (oo:bI.ok E.ρ E.ro w.heap) (hd:a.defers= []):bodyPost P fn (QX B g.kY g.ec g.ko g.og ys) (xc e) a w:=by
 have fit:=t.fit.fit oo
 have key: ∀{x:T Lf},x=(match kE g.tt s g.res with
  |none=>T.fail
  |some vs=>match g.og with
   |[]=>match cellsOf g.kY vs with
    |none=> .fail
    |some cells=>wW cells s fun cells s=>match Ag (gC g s.h) g.ec.length s.h g.ec 0 with
     |true=>outs (oy g.kY) cells s fun es _=> .ret (.out ((gC g s.h).ns++es))
     |false=> .fail
   |c::l=>Ln g.fz vs s fun vs s=>LJ vs.length g.ec.length g.gU ⟨cf vs 0 .nil,s.h,s.pc⟩ (c::l) 0)->x.leaf E.ρ=some lf->∃v,(results fn a.tmps).run P w= .ok v w/\QX B g.kY g.ec g.ko g.og ys (.returned v) w:=by
  intro x hx hl;subst hx;split at hl
  ·simp [T.leaf] at hl
  ·rename_i vs hr;rw [xz] at hr;obtain⟨us,g1,g2⟩:=sZ hg.tt fit hr
   have kZ:(results fn a.tmps).run P w= .ok (Tb us) w:=by
    have hm:(fn.results.mapM (uh a)).run P w= .ok us.toArray w:=by rw [an3];simp_all
    have hr2:results fn a.tmps=(do let vs <- fn.results.mapM (uh a); pure (if h:vs.size=1 then vs[0] else .tuple vs)):=rfl;rw [hr2];simp only [Sem.run_bind,hm];rfl
   split at hl
   ·rename_i At;split at hl
    ·simp [T.leaf] at hl
    ·rename_i cells hc;rw [At];show ∃v,_/\QE B g.kY g.ec g.ko ys (.returned v) w;obtain⟨fl,sh,W?⟩:=ny g2 hc;obtain⟨afP,U,pcF,E1,X!,f,hfr,hl⟩:=pq rfl fit.rel fit.pc hl;have hv3:=hfr _ W?;have s1:=f.ei;have r1:=f.rel;split at hl
     ·rename_i JO;have hρ:=f.ρ;rw [<- hρ] at hl pL X!;obtain⟨es,fA,fj,q1,q2⟩:=Ci (s:={ s with h:=U,pc:=pcF }) X! hv3 hl;have:=bC q2;subst this;simp only [Ml] at pL;obtain⟨n1,n2,n3⟩:=Tv g U
      have DN:ys.drop g.ko=es.map (V.den E1.ρ):=by
       grind
      have ak2: ∀i,i<g.ko->low ys i=(gC g U).env E1.ρ i:=by
       intro i hi
       grind [gC,low,Ren.env,di]
      have alZ: ∀i,i<B.m->E1.dm i/\E1.θ i=B.θ i/\E1.κ i=B.κ i:=by intro i hi;obtain⟨U,Z,h3⟩:=t.W_ i hi;exact⟨s1.dm i U,by rw [s1.θ i U]; exact Z,by rw [s1.κ i U]; exact h3⟩
      have akY: ∀i,i<g.ec.length->(gC g U).id i=i:=by
       intro i hi
       grind [Ren.id,di]
      have TJ: ∀i,(gC g U).tM i=0:=by intro i;unfold Ren.tM;rw [n3];rfl
      have yN: ∀i,i<B.m->¬E1.ro (B.θ i).1:=by
       intro i hi;have fe:i<g.ec.length:=J
       obtain⟨o',q3,_,_⟩:=iw JO (aM fe);rw [ay,akY i fe] at q3;have:=(r1.live i o' q3).2.2
       grind
      refine⟨Tb us,kZ,_,rfl,t.MC,E1.ro,fun b Y=>s1.ro b (t.ro b Y),fun b Y=>?_,r1.pS,yN,fun i o hi=>?_,us,fl,sh,by rw [DN]; exact q1,rfl⟩
      ·have key:B.ro b\/B.w0.heap.size<=b\/B.fp b:=by
        rcases s1.qW b Y with h|⟨id,o,U,Z⟩|h
        ·exact t.qW b h
        ·rw [<- Z]; exact .inr (t.own id o U)
        ·exact .inr (.inl (bk t.MC.size h))
       rcases key with h|h|⟨i,hi,he⟩
       ·exact .inl h
       ·exact .inr h
       ·exact absurd Y (by rw [<- he]; exact yN i hi)
      ·have eu:=(aW.1 hi).1;obtain⟨o',q3,q4,q5⟩:=iw JO hi;rw [ay] at q3 q5;have ho:=(r1.live _ o' q3).2.1;have ho2:=OR.gB (E:=E1) (r:=gC g U) J (id:=i) (by rw [n2,List.length_range]; exact q4) q5 ho
       have kp:fg (E1.gB (gC g U)) w.heap { ρ:=(gC g U).env E1.ρ,θ:=B.θ,κ:=B.κ,dm:=fun i=>i<B.m,ro:=E1.ro } w.heap:=by
        have hd: ∀id,(E1.gB (gC g U)).dm id->id<g.ec.length:=by
         intro id hh;have:=hh.1
         grind
        refine⟨rfl,fun id hh=>by have:=hd id hh; show id<B.m; omega,fun id hh=>?_,fun id hh=>?_,fun _ h=>h,fun _ _=>rfl⟩
        ·have:=hd id hh;show B.θ id=((E1.θ ((gC g U).id id)).1,(E1.θ ((gC g U).id id)).2+(gC g U).tM id)
         grind
        ·have:=hd id hh;show B.κ id=E1.κ ((gC g U).id id)-(gC g U).tM id
         grind
       have aiL:(E1.gB (gC g U)).dm i:=by
        refine⟨by rw [n2,List.length_range]; exact eu,?_⟩
        grind
       have hθi:(E1.gB (gC g U)).θ i=B.θ i:=(kp.θ i aiL).symm;have ho3:=OR.abR kp aiL rfl (my nV hi).1 ho2;exact OR.low (K:=g.ko) (E:={ ρ:=(gC g U).env E1.ρ,θ:=B.θ,κ:=B.κ,dm:=fun i=>i<B.m,ro:=E1.ro }) (E':=B.out ys E1.ro) ak2 rfl rfl rfl rfl (my nV hi).2 ho3
     ·simp [T.leaf] at hl
   ·rename_i c0 l0 At
    have hq:QR B (c0::l0) ys (.returned (Tb us)) w:=by
     obtain⟨Vl,U,fA,E1,fj,f1,g2,hl⟩:=IT rfl fit.rel fit.pc g2 hl;have oo:=f1.rel.iT
     have t0:kj B E1 ⟨cf Vl 0 .nil,U,fA⟩ { tmps:=us.toArray,defers:=[] } w:=by have sr1:=yJ g2 0;exact t.step (s':=⟨cf Vl 0 .nil,U,fA⟩) f1.ei ⟨f1.rel,by simpa using sr1,by rw [f1.ρ]; exact fj⟩
     rw [<- f1.ρ] at hl pL;obtain⟨i,c,q1,⟨q2,q2'⟩,q3,q4,_⟩:=CB hl;rw [hm] at q2 q2' q4;obtain⟨hle,t1⟩:=t0.fits oo q2 q2';rw [q4] at pL;simp only [Ml,ax] at pL;subst pL
     have ng:(qR g.gU (c.jc B.m ⟨cf Vl 0 .nil,U,fA⟩)).bl.length=c.dy.length:=by simp_all [CS.fits]
     have xS: ∀i,i<B.m->i<c.dy.length:=fun i hi=>by rw [<- ng]; exact (DH q2' i hi).1
     have yN: ∀i,i<B.m->∃o,c.st.h.get i=some o:=by
      intro i hi;have II:=xS i hi;refine⟨c.dy[i],?_⟩;show (nY c.dy 0 .nil).get i=_
      grind [jb]
     have hfp: ∀b,B.fp b->¬(E1.gB (qR g.gU (c.jc B.m ⟨cf Vl 0 .nil,U,fA⟩))).ro b:=by
      rintro b ⟨i,hi,rfl⟩ Y;obtain⟨o,ho⟩:=yN i hi;have:=(t1.fit.live i o ho).2.2;rw [(t1.W_ i hi).2.1] at this
      grind
     refine⟨us,i,c,E1.gB (qR g.gU (c.jc B.m ⟨cf Vl 0 .nil,U,fA⟩)),rfl,t.MC,by simpa using q1,by simp [V.den],by simp [uY,sP],fun a x ha=>?_,by rw [<- q3,g2.length],t1.fit,t1.ro,fun b Y=>?_,fun i hi=> ⟨xS i hi,t1.W_ i hi⟩,fun id o ho hid=>?_⟩
     ·simp only [aH,bn,aO] at ha;obtain⟨e,he,rfl⟩:=ha;show (qR g.gU (c.jc B.m ⟨cf Vl 0 .nil,U,fA⟩)).env E1.ρ a=_
      grind [Ren.env,di]
     ·rcases t1.qW b Y with h|h|h
      all_goals grind
     ·rcases t1.own id o ho with h|⟨i,hi,he⟩
      ·exact h
      ·obtain⟨o',Aw⟩:=yN i hi;rw [<- (t1.W_ i hi).2.1] at he;have:=t1.fit.inj i id o' o Aw ho he;omega
    exact⟨Tb us,kZ,by rw [At]; exact hq⟩
 unfold YL at h
 cases e with
 |exit id=>simp [T.leaf] at h
 |normal=>exact⟨hd,key rfl h⟩
 |ret=>exact⟨hd,key rfl h⟩
theorem Fa {P:Program} {Q:Exit->Act->World->Prop} {e:Ex} {a:Act} {w:World} (h:Q (xc e) a w):Exit.noGoto Q (xc e) a w:=by cases e<;>exact h
theorem kj.view [bI] {E E':En} {s:St} {a:Act} {w:World} {h':Hp} {dZ:List (SB×Bool)} (hm:B.m=0) (t:kj B E s a w) (v:View E s.h w E' h') (hp:bW E.ρ dZ):kj B E' { s with h:=h',pc:=dZ } a w:=by
 have hold: ∀b,aaV E s.h b->B.w0.heap.size<=b:=by
  rintro b (⟨id,o,U,Z⟩|⟨x,U⟩)
  ·rcases t.own id o U with h|⟨i,hi,_⟩
   ·rw [Z] at h; exact h
   ·omega
  ·exact t.sL b x U
 refine⟨⟨v.rel.fresh,v.rel.res,v.rel.live,v.rel.inj,v.rel.pS,fun i x hi=>?_,by rw [v.kp.ρ]; exact hp,v.rel.hid⟩,fun b Y=>v.kp.ro b (t.ro b Y),fun b Y=>?_,t.MC,fun id o ho=> .inl (hold _ (v.hold _ (.inl ⟨id,o,ho,rfl⟩))),fun i hi=>by omega,fun b x Y=>hold _ (v.hold _ (.inr ⟨x,Y⟩))⟩
 ·obtain⟨u,U,Z⟩:=t.fit.sr i x hi;exact⟨u,U,VR.bX v.kp _ _ Z⟩
 ·rcases v.qW b Y with h|h
  ·exact t.qW b h
  ·exact .inr (.inl (hold b h))
def qx [bI] {α:Type} (B:l7) (a:Act) (w:World) (f:St->(St->T α)->T α):Prop:= ∀(k:St->T α) (E:En) (s:St) (x:α),kj B E s a w->bI.ok E.ρ E.ro w.heap->(f s k).leaf E.ρ=some x->∃E' s',E'.ρ=E.ρ/\kj B E' s' a w/\bI.ok E'.ρ E'.ro w.heap/\(k s').leaf E.ρ=some x
theorem SU [bI] {α:Type} {a:Act} {w:World} (hm:B.m=0) (id:Nat) (y:V):qx (α:=α) B a w (aah id y):=by intro k E s x t hg h;obtain⟨h',dZ,E',hp,v,g⟩:=aag rfl (t.fit.fit hg).rel t.fit.pc h;exact⟨E',_,v.kp.ρ,t.view hm v hp,v.rel.iT,g⟩
theorem SS [bI] {α:Type} {a:Act} {w:World} (hm:B.m=0) (id:Nat):qx (α:=α) B a w (Q_ id):=by intro k E s x t hg h;obtain⟨h',dZ,E',hp,v,g⟩:=P? rfl (t.fit.fit hg).rel t.fit.pc h;exact⟨E',_,v.kp.ρ,t.view hm v hp,v.rel.iT,g⟩
theorem mg [bI] {α:Type} {a:Act} {w:World}:qx (α:=α) B a w (fun s k=>k s):=fun _ E s _ t hg h=> ⟨E,s,rfl,t,hg,h⟩
theorem qx.then [bI] {α:Type} {a:Act} {w:World} {f f':St->(St->T α)->T α} (U:qx B a w f) (Z:qx B a w f'):qx B a w (fun s k=>f s fun s=>f' s k):=by intro k E s x t hg h;obtain⟨E1,s1,e1,t1,g1,q1⟩:=U _ E s x t hg h;rw [<- e1] at q1;obtain⟨E2,s2,e2,t2,g2,q2⟩:=Z _ E1 s1 x t1 g1 q1;exact⟨E2,s2,e2.trans e1,t2,g2,by rw [<- e1]; exact q2⟩
theorem xd [bI] {α:Type} {a:Act} {w:World} (hm:B.m=0) (y:V): ∀l:List Nat,qx (α:=α) B a w (IV y l)
 |[]=>mg
 |i::l=>(SU hm i y).then (xd hm y l)
theorem CM [bI] {α:Type} {a:Act} {w:World} (hm:B.m=0): ∀l:List Nat,qx (α:=α) B a w (NF l)
 |[]=>mg
 |i::l=>(SS hm i).then (CM hm l)
theorem FA [bI] {α:Type} {a:Act} {w:World} (i:Nat):qx (α:=α) B a w (aae i):=by
 intro k E s x t hg h;unfold aae at h;split at h
 ·rename_i v hv;have fit:=t.fit.fit hg;obtain⟨v',h',dZ,E',hp,f,hfr,g⟩:=IS rfl fit.rel fit.pc h
  have key: ∀v2:W,(∀u,VR E w.heap v u->VR E' w.heap v2 u)->(k { s with h:=h',pc:=dZ,bD:=s.bD.put (i % 1000) (some v2) }).leaf E.ρ=some x->∃E' s',E'.ρ=E.ρ/\kj B E' s' a w/\bI.ok E'.ρ E'.ro w.heap/\(k s').leaf E.ρ=some x:=by
   intro v2 Z g;refine⟨E',_,f.ρ,t.step f.ei ⟨f.rel,fun j y hj=>?_,by rw [f.ρ]; exact hp⟩,f.rel.iT,g⟩;obtain⟨u,hu,hvu⟩:=fit.sr (i % 1000) v hv;simp only [Tr.bR] at hj;split at hj
   ·rename_i he;subst he;simp only [ag] at hj;subst hj;exact⟨u,hu,Z u hvu⟩
   ·exact SR.bX (f.ei.keeps fit.rel) fit.sr j y hj
  split at g
  ·split at g
   ·rename_i e he;exact key _ (fun u hu=>by simp only [VR]; exact kI (hfr u hu) he) g
   ·simp [T.leaf] at g
  ·exact key _ hfr g
 ·exact⟨E,s,rfl,t,hg,h⟩
theorem CP [bI] {α:Type} {a:Act} {w:World} (hm:B.m=0) (r:Nat): ∀l:List FH,qx (α:=α) B a w (Fl r l)
 |[]=>mg
 |h0::l=>by
  have ih:=CP (α:=α) (a:=a) (w:=w) hm r l;intro k E s x t hg h;simp only [Fl] at h;split at h
  ·exact ih k E s x t hg h
  ·split at h
   ·split at h
    ·exact ((FA _).then ih) k E s x t hg h
    ·exact ih k E s x t hg h
   ·split at h
    ·exact ((xd hm _ _).then ih) k E s x t hg h
    ·split at h
     ·exact ih k E s x t hg h
     ·obtain⟨dZ,fh,U⟩:=cH t.fit.pc h;split at U
      ·exact ((xd hm _ _).then ih) k E _ x (t.pc fh) hg U
      ·exact ih k E _ x (t.pc fh) hg U
theorem D1 {g:tp} (h:G7 g=true):g.ec= []/\g.og= []:=by
 unfold G7 at h;split at h
 ·simp at h
 ·split at h
  ·rename_i U;split at h
   ·rename_i Z;exact⟨U,Z⟩
   ·simp at h
  ·simp at h
theorem CO [bI] {α:Type} {a:Act} {w:World} (r:Nat): ∀l:List FH,qx (α:=α) B a w (TZ r l)
 |[]=>mg
 |h0::l=>by
  have ih:=CO (α:=α) (a:=a) (w:=w) r l;intro k E s x t hg h;simp only [TZ] at h;split at h
  ·exact ih k E s x t hg h
  ·split at h
   ·exact ((FA _).then ih) k E s x t hg h
   ·exact ih k E s x t hg h
theorem MN [bI] {α:Type} {a:Act} {w:World} {g:tp} (hm:g.ec.length=B.m) (c:Code):qx (α:=α) B a w (T0 g c):=by
 intro k E s x t hg h;unfold T0 at h;split at h
 ·rename_i he;rw [(D1 he).1] at hm;split at h
  ·exact CP hm.symm _ _ k E s x t hg h
  ·exact mg k E s x t hg h
 ·split at h
  ·split at h
   ·exact CO _ _ k E s x t hg h
   ·exact mg k E s x t hg h
  ·exact mg k E s x t hg h
theorem CN [bI] {α:Type} {a:Act} {w:World} {g:tp} {p:List Nat} (hm:g.ec.length=B.m):qx (α:=α) B a w (Tp g p):=by
 intro k E s x t hg h;unfold Tp at h;split at h
 ·rename_i he;rw [(D1 he).1] at hm;split at h
  ·exact mg k E s x t hg h
  ·exact CM hm.symm _ k E s x t hg h
 ·exact mg k E s x t hg h
theorem IN [bI] {g:tp} {qu:Nat->List Oper->Bool} (hg:Pt P g qu) {body:Code} {N:Nat} (hd:jJ qu N body=true) {fn:Func} (xz:g.res=fn.results.toList) (hm:g.ec.length=B.m) (nV:mz g.ko g.ec=true) (u_:g.ko<=900) {F:nT} {ys:List Int} {eV:B4}
 (hj:o? P body N B (bodyPost P fn (QX B g.kY g.ec g.ko g.og ys)) F ys eV): ∀n:Nat,
 (∀p c fr s lf E a w,oA body p=some (c,fr)->(wD g eV n p c fr s).leaf E.ρ=some lf->Ml F E.ρ ys lf->kj B E s a w->bI.ok E.ρ E.ro w.heap->N<=a.tmps.size->a.defers= []->c.wp P (KE P (bodyPost P fn (QX B g.kY g.ec g.ko g.og ys)) fr) a w)/\
 (∀fr e s lf E a w,EZ body fr->(sR g eV n fr e s).leaf E.ρ=some lf->Ml F E.ρ ys lf->kj B E s a w->bI.ok E.ρ E.ro w.heap->N<=a.tmps.size->a.defers= []->KE P (bodyPost P fn (QX B g.kY g.ec g.ko g.og ys)) fr (xc e) a w)
 |0=> ⟨fun _ _ _ _ _ _ _ _ _ h=>by simp [wD,T.leaf] at h,fun _ _ _ _ _ _ _ _ h=>by simp [sR,T.leaf] at h⟩
 |n+1=>by
  obtain⟨Mv,vO⟩:=IN hg hd xz hm nV u_ hj n
  have leaf: ∀p c fr s lf E a w,oA body p=some (c,fr)->(T0 g c s fun s=>(g.ev c s).bind fun (e,s')=>sR g eV n fr e s').leaf E.ρ=some lf->Ml F E.ρ ys lf->kj B E s a w->bI.ok E.ρ E.ro w.heap->N<=a.tmps.size->a.defers= []->c.wp P (KE P (bodyPost P fn (QX B g.kY g.ec g.ko g.og ys)) fr) a w:=by intro p c fr s lf E0 a w hl h pL t oo hN Cq;obtain⟨E,s,hE,t,oo,h⟩:=MN hm c _ E0 s lf t oo h;rw [<- hE] at h pL;obtain⟨⟨e,s'⟩,U,Z⟩:=T.eX h;refine wp_mono (kG hg.tt hg.call hg.draw c (rP hd p hl) E s s' e a w hN (t.fit.fit oo) U) fun x a' w' ⟨hx,ht⟩=>?_;subst hx;obtain⟨E',t',hρ,hg'⟩:=t.then ht;exact vO fr e s' lf E' a' w' (vI p hl) (by rw [hρ]; exact Z) (by rw [hρ]; exact pL) t' hg' (by rw [ht.size]; exact hN) (by rw [ht.defers,Cq])
  constructor
  ·intro p c fr s lf E a w hl h pL t oo hN Cq;simp only [wD] at h;split at h
   ·rename_i l UH;obtain⟨E1,s1,hE,t,oo,h⟩:=CN hm _ E s lf t oo h;rw [<- hE] at h pL;obtain⟨b,Yy,N7,_⟩:=hj p l UH;rw [hl] at N7;simp only [ag,ak] at N7;obtain⟨rfl,rfl⟩:=N7;obtain⟨s',t',h'⟩:=wc h t;exact NQ (vK hj UH hl (fun _ hx=>hx) (by rw [<- hm]; exact h') pL t' oo hN Cq)
   ·cases c with
    |seq x y=> simp only at h;refine wp_seq ?_;exact Mv (0::p) x (.seq (1::p) y::fr) s lf E a w (by simp only [oA,hl]) h pL t oo hN Cq
    |block id b=> simp only at h;refine wp_block ?_;exact Mv (0::p) b (.block id::fr) s lf E a w (by simp only [oA,hl]) h pL t oo hN Cq
    |scope b=> simp only at h;refine wp_scope_straight ?_;exact Mv (0::p) b (.scope::fr) s lf E a w (by simp only [oA,hl]) h pL t oo hN Cq
    |cond v x y=>
     simp only at h;split at h
     ·rename_i c hv;obtain⟨dZ,fh,U⟩:=cH t.fit.pc h;have hvr:=fU t.fit.sr hv;simp only [VR] at hvr;refine wp_cond hvr ?_
      cases Ru:c.den E.ρ with
      |true=> rw [Ru] at U;simp only at U;exact Mv (0::p) x fr _ lf E a w (by simp only [oA,hl]) U pL (t.pc fh) oo hN Cq
      |false=> rw [Ru] at U;simp only at U;exact Mv (1::p) y fr _ lf E a w (by simp only [oA,hl]) U pL (t.pc fh) oo hN Cq
     grind [T.leaf]
    |_=>simp only at h; exact leaf p _ fr s lf E a w hl h pL t oo hN Cq
  ·intro fr e s lf E a w hf h pL t oo hN Cq
   cases fr with
   |nil=> simp only [sR] at h;exact aar hg xz hm nV u_ h pL t oo Cq
   |cons f fr=>
    cases f with
    |seq p c=>
     simp only [sR] at h;obtain⟨hl,Oa⟩:=hf
     cases e with
     |normal=>exact Mv p c fr s lf E a w hl h pL t oo hN Cq
     |exit id=>exact vO fr (.exit id) s lf E a w Oa h pL t oo hN Cq
     |ret=>exact vO fr .ret s lf E a w Oa h pL t oo hN Cq
    |block id=>
     simp only [sR] at h;have Oa:EZ body fr:=hf
     cases e with
     |normal=>exact vO fr .normal s lf E a w Oa h pL t oo hN Cq
     |ret=>exact vO fr .ret s lf E a w Oa h pL t oo hN Cq
     |exit j=>
      simp only at h;show (if j=id then _ else _);split at h
      ·rename_i Ye;rw [ah (aq Ye)];exact vO fr .normal s lf E a w Oa h pL t oo hN Cq
      ·rename_i Ye;rw [af (amY Ye)];exact vO fr (.exit j) s lf E a w Oa h pL t oo hN Cq
    |loop p b=>
     simp only [sR] at h;obtain⟨hl,Oa⟩:=hf
     cases e with
     |normal=>
      simp only at h;split at h
      ·rename_i l UH;obtain⟨E1,s1,hE,t,oo,h⟩:=CN hm _ E s lf t oo h;rw [<- hE] at h pL;obtain⟨s',t',h'⟩:=wc h t;exact vK hj UH hl (fun _ hx=>hx) (by rw [<- hm]; exact h') pL t' oo hN Cq
      grind [T.leaf]
     |exit id=>exact vO fr (.exit id) s lf E a w Oa h pL t oo hN Cq
     |ret=>exact vO fr .ret s lf E a w Oa h pL t oo hN Cq
    |scope=> simp only [sR] at h;exact Fa (P:=P) (vO fr e s lf E a w hf h pL t oo hN Cq)
end
end Go.As
end
section
namespace Go.As
open Go.RowKit
def Ren.bL (r:Ren):List (W×W×Nat)->List (W×W×Nat)
 |[]=>[]
 |(k,v,n)::l=>(r.av k,r.av v,n)::r.bL l
theorem Ren.BH (r:Ren): ∀es:List (W×W×Nat),(r.bL es).map (·.2.2)=es.map (·.2.2)
 |[]=>rfl
 |(k,v,n)::l=>by simp only [Ren.bL,ax,Ren.BH r l]
def Ren.ovs (r:Ren):List (V×List W)->List (V×List W)
 |[]=>[]
 |(i,cs)::l=>(r.se i,r.B1 cs)::r.ovs l
def Ren.ob (r:Ren):dG->dG
 | .cells cs e=> .cells (r.B1 cs) e
 | .map es n=> .map (r.bL es) n
 | .jS s p=> .jS s p
 | .ji m s l z=> .ji (m.map r.id) s l z
 | .vec e t ty ov=> .vec (r.se e) t ty (r.ovs ov)
 | .jM e t=> .jM (r.se e) t
 | .qY e t eR ov=> .qY e t eR ov
noncomputable def jT (r:Ren):List dG->Nat->Hp->Hp
 |[],_,h=>h
 |o::os,i,h=>jT r os (i+1) (h.put (r.id i) (r.ob o))
def Gh (r:Ren):Bool:=r.sh.all fun i=>Nat.beq i 0
def PN (r:V) (n:Nat):List V:=(List.range n).map (oe r)
noncomputable def X3 (j:Nat) (c:CS) (kY:List RK) (ec:List dG) (ko:Nat):List W->St->T (W×St):=fun args s=>
 match Nat.beq args.length c.bD.length&&c.fits q? ⟨cf args 0 .nil,s.h,s.pc⟩ (c.kP ⟨cf args 0 .nil,s.h,s.pc⟩)&&Gh (c.kP ⟨cf args 0 .nil,s.h,s.pc⟩) with
 |true=>jz s (.eq (.ap (2*j) (fN (c.kP ⟨cf args 0 .nil,s.h,s.pc⟩).ns)) (.lit 1)) fun s' b=>match b with
  |true=> .ret (match oY kY (oe (.ap (2*j+1) (fN (c.kP ⟨cf args 0 .nil,s.h,s.pc⟩).ns))) ko with |[v]=>v|vs=> .tuple vs,
   { s' with h:=jT ⟨PN (.ap (2*j+1) (fN (c.kP ⟨cf args 0 .nil,s.h,s.pc⟩).ns)) ko,(c.kP ⟨cf args 0 .nil,s.h,s.pc⟩).bl,[]⟩ ec 0 s'.h })
  |false=> .fail
 |false=> .fail
noncomputable def ai3 (s:St) (t c:Nat):V:=match s.bD.get t with
 |some v=>match v with
  | .int _ e=>e
  | .agg cs=>match eS cs c with
    |some v=>match v with
     | .int _ e=>e
     |_=> .lit 0
    |none=> .lit 0
  |_=> .lit 0
 |none=> .lit 0
noncomputable def Yu (s:St):List (Nat×Nat)->List V->List V
 |[],ns=>ns
 |_::_,[]=>[]
 |(t,c)::l,_::ns=>ai3 s t c::Yu s l ns
noncomputable def u! (s:St) (gh:List (Nat×Nat)) (r:Ren):Ren:={ r with ns:=Yu s gh r.ns }
noncomputable def ai2 (s:St) (gh:List (Nat×Nat)):Option V:=match gh with
 |(t,c)::_=>some (ai3 s t c)
 |[]=>none
noncomputable def qT (q:V) (gU:Nat) (ns:List V) (c:CS) (bl:List Nat) (s:St):Ren:=⟨(List.range c.k).map fun a=>match Nat.blt a gU with |true=>(match eS ns a with |some e=>e|none=> .lit 0)|false=>oe q (a+1),(List.range c.dy.length).map fun i=>match eS bl i with |some j=>j|none=>s.h.next+(i-bl.length),[]⟩
noncomputable def Yt (g n:V) (s:St) (k:St->T (W×St)):T (W×St):=jz s (gV g (.lit 0)) fun s b=>match b with
 |true=>k s
 |false=>jz s (gV g n) fun s b=>match b with
  |true=> .fail
  |false=>k s
noncomputable def ghT (q:V) (gU:Nat) (ns:List V) (g:Option V) (c:CS) (bl:List Nat) (s:St) (k:St->T (W×St)):T (W×St):=match g with
 |none=>k s
 |some g=>match c.m with
  | .du _=>k s
  |_=>match c.bD with
   |[]=>k s
   |(_,v)::_=>match v with
    | .oS _ n _=>Yt g ((qT q gU ns c bl s).se n) s k
    |_=>k s
noncomputable def g! (q:V) (gU:Nat) (ns:List V) (g:Option V) (bl:List Nat):List CS->Nat->St->T (W×St)
 |[],_,_=> .fail
 |c::l,i,s=>jz s (qA (oe q 0) (.lit (Int.ofNat i))) fun s b=>match b with
  |true=>ghT q gU ns g c bl s fun s=> .ret (Ab ((qT q gU ns c bl s).B1 (c.bD.map fun p=>p.2)),
   { s with h:=⟨(jT (qT q gU ns c bl s) c.dy 0 s.h).m,s.h.next+(c.dy.length-bl.length),s.h.res⟩ })
  |false=>g! q gU ns g bl l (i+1) s
noncomputable def Rk (j gU:Nat) (c:CS) (gh:List (Nat×Nat)) (og:List CS):List W->St->T (W×St):=fun args s=>
 match Nat.beq args.length c.bD.length&&c.fits q? ⟨cf args 0 .nil,s.h,s.pc⟩ (u! s gh (c.kP ⟨cf args 0 .nil,s.h,s.pc⟩))&&Gh (u! s gh (c.kP ⟨cf args 0 .nil,s.h,s.pc⟩)) with
 |true=>jz s (.eq (.ap (2*j) (fN (u! s gh (c.kP ⟨cf args 0 .nil,s.h,s.pc⟩)).ns)) (.lit 1)) fun s' b=>match b with
  |true=>g! (.ap (2*j+1) (fN (u! s gh (c.kP ⟨cf args 0 .nil,s.h,s.pc⟩)).ns)) gU (u! s gh (c.kP ⟨cf args 0 .nil,s.h,s.pc⟩)).ns (ai2 s gh) (u! s gh (c.kP ⟨cf args 0 .nil,s.h,s.pc⟩)).bl og 0 s'
  |false=> .fail
 |false=> .fail
section
variable {Eo E2:En} {r:Ren} {h:Array Obj} (hl:r.ns.length<=900) (xy:r.sh= []) (hρ:Eo.ρ=r.env E2.ρ) (hid: ∀i,Eo.dm i->E2.dm (r.id i)/\E2.θ (r.id i)=Eo.θ i/\E2.κ (r.id i)=Eo.κ i) (kO:Eo.ro=E2.ro)
include hl xy hρ hid kO
theorem WH (i:Nat):r.tM i=0:=by unfold Ren.tM; rw [xy]; rfl
theorem eE.back {id off len:Nat} {a:Addr} {cap:Nat} {c:Mq} (hd:Eo.dm id) (hc:eE Eo id off len a cap c):eE E2 (r.id id) off len a cap c:=by simp_all [eE]
mutual
theorem VR.back: ∀(x:W) (u:Value),VR Eo h x u->VR E2 h (r.av x) u
 | .bool b,u,hv=>by simp only [VR,Ren.av] at *; rw [Ren.zV hl,<- hρ]; exact hv
 | .int _ e,u,hv=>by simp only [VR,Ren.av] at *; rw [Ren.ef hl,<- hρ]; exact hv
 | .str s,u,hv=>by simp only [VR,Ren.av] at *; exact hv
 | .ptr id off,u,hv=>by
   simp only [VR,Ren.av,WH hl xy hρ hid kO,ay] at *
   grind
 | .tN,u,hv=>by simp only [VR,Ren.av] at *; exact hv
 | .mY cs,u,hv=>by simp only [VR,Ren.av] at *;obtain⟨b,o,us,U,Z,h3,h4,h5⟩:=hv;exact⟨b,o,us,U,by rw [<- kO]; exact Z,cB.back cs us h3,h4,h5⟩
 | .slice id off len c,u,hv=>by simp only [VR,Ren.av,WH hl xy hρ hid kO,ay] at *;obtain⟨U,a,cap,Z,h3,h4⟩:=hv;exact⟨(hid id U).1,a,cap,Z,h3,eE.back hl xy hρ hid kO U h4⟩
 | .eg,u,hv=>by simp only [VR,Ren.av] at *; exact hv
 | .ro cs n full,u,hv=>by simp only [VR,Ren.av] at *;obtain⟨b,o,cap,us,U,Z,h3,h4,h5,h6,h7⟩:=hv;exact⟨b,o,cap,us,U,Z,h3,by rw [<- kO]; exact h4,cB.back cs us h5,h6,h7⟩
 | .map id,u,hv=>by
   simp only [VR,Ren.av] at *
   grind
 | .rD,u,hv=>by simp only [VR,Ren.av] at *; exact hv
 | .func fn fs cs,u,hv=>by simp only [VR,Ren.av] at *;obtain⟨us,ws,U,Z,h3⟩:=hv;exact⟨us,ws,U,cB.back fs us Z,cB.back cs ws h3⟩
 | .wv,u,hv=>by simp only [VR,Ren.av] at *; exact hv
 | .iface t x,u,hv=>by simp only [VR,Ren.av] at *;obtain⟨y,U,Z⟩:=hv;exact⟨y,U,VR.back x y Z⟩
 | .xn,u,hv=>by simp only [VR,Ren.av] at *; exact hv
 | .agg cs,u,hv=>by simp only [VR,Ren.av] at *;obtain⟨us,U,Z⟩:=hv;exact⟨us,U,cB.back cs us Z⟩
 | .tuple cs,u,hv=>by simp only [VR,Ren.av] at *;obtain⟨us,U,Z⟩:=hv;exact⟨us,U,cB.back cs us Z⟩
 | .KG _,u,hv=>by simp only [VR] at hv
 | .wz k ks,u,hv=>by
   simp only [VR,Ren.av] at *;rw [hρ,Ren.lE hl J,kO] at hv;rcases hv with hv|⟨b,o,n,cap,U,Z,h3,h4,h5⟩
   ·grind
   ·refine .inr ⟨b,o,n,cap,U,Z,h3,h4,fun i j kd hi hj=>?_⟩;have:=h5 i j kd hi hj
    first
     |exact this
     |(rw [Ren.lE hl J] at this; exact this)
     |(rw [hρ,Ren.lE hl J] at this; exact this)
 | .emp,u,hv=>by simp only [VR,Ren.av] at *; exact hv
 | .ej e t,u,hv=>by simp only [VR,Ren.av] at *; rw [Ren.ef hl,<- hρ,<- kO]; exact hv
 | .jA e,u,hv=>by simp only [VR,Ren.av] at *; rw [Ren.ef hl,<- hρ,<- kO]; exact hv
 | .oS id n t,u,hv=>by simp only [Ren.av,WH hl xy hρ hid kO];simp only [VR] at *;obtain⟨U,k,a,cap,Z,h3,h4,h5⟩:=hv;exact⟨(hid id U).1,k,a,cap,by rw [Ren.ef hl,<- hρ]; exact Z,h3,h4,eE.back hl xy hρ hid kO U h5⟩
 | .zq id es i off,u,hv=>by simp only [Ren.av,WH hl xy hρ hid kO];simp only [VR] at *;obtain⟨U,k,Z,h3⟩:=hv;obtain⟨g1,g2,_⟩:=hid id U;exact⟨g1,k,by rw [Ren.ef hl,<- hρ]; exact Z,by rw [g2]; exact h3⟩
 | .any,u,_=>by simp only [VR,Ren.av]
 | .wZ z t,u,hv=>by simp only [VR,Ren.av] at *; rw [Ren.ef hl,<- hρ,<- kO]; exact hv
 | .tK id lo n t,u,hv=>by simp only [Ren.av,WH hl xy hρ hid kO];simp only [VR] at *;obtain⟨U,l,k,a,cap,Z,h3,h4,h5,h6⟩:=hv;exact⟨(hid id U).1,l,k,a,cap,by rw [Ren.ef hl,<- hρ]; exact Z,by rw [Ren.ef hl,<- hρ]; exact h3,h4,h5,eE.back hl xy hρ hid kO U h6⟩
theorem cB.back: ∀(xs:List W) (us:List Value),cB Eo h xs us->cB E2 h (r.B1 xs) us
 |[],us,hv=>by simp only [cB,Ren.B1] at *; exact hv
 |x::xs,us,hv=>by simp only [cB,Ren.B1] at *;obtain⟨u,vs,U,Z,h3⟩:=hv;exact⟨u,vs,U,VR.back x u Z,cB.back xs vs h3⟩
end
theorem eB.back: ∀{es:List (W×W×Nat)} {bL:List MapEntry},eB Eo h es bL->eB E2 h (r.bL es) bL
 |[],_,hv=>by simp only [eB,Ren.bL] at *; exact hv
 |(k,v,b)::es,bL,hv=>by simp only [eB,Ren.bL] at *;obtain⟨e,rr,U,Z,h3,h4,h5⟩:=hv;exact⟨e,rr,U,VR.back hl xy hρ hid kO k _ Z,VR.back hl xy hρ hid kO v _ h3,h4,eB.back h5⟩
theorem Dk {i:Nat}: ∀{ov:List (V×List W)},dX E2.ρ i (r.ovs ov)=(dX Eo.ρ i ov).map r.B1
 |[]=>rfl
 |(j,cs)::l=>by
  simp only [dX,Ren.ovs];rw [Ren.ef hl,<- hρ,Dk]
  grind
theorem w6 {row:Row} {ov:List (V×List W)}: ∀(ds:List D) (i:Nat) {us:List Value},cB Eo h (bF Eo.ρ row ov ds i) us->cB E2 h (bF E2.ρ row (r.ovs ov) ds i) us
 |[],_,us,hv=>by simp only [bF,cB] at *; exact hv
 |d::ds,i,us,hv=>by
  simp only [bF] at *;obtain⟨a,b,rfl,U,Z⟩:=hv.split;refine cB.append ?_ (w6 ds (i+1) Z);rw [Dk hl xy hρ hid kO]
  cases ho:dX Eo.ρ i ov with
  |none=> rw [ho] at U;simp only [Option.map_none];rw [fV] at U ⊢;rw [<- kO];exact U
  |some cs=> rw [ho] at U;exact cB.back hl xy hρ hid kO cs a U
theorem Gc {row:Row}: ∀{ov:List (V×List W)},sA row ov->sA row (r.ovs ov)
 |[],h=>h
 |(i,cs)::l,h=>by
  intro p hp;simp only [Ren.ovs] at hp;rcases aw.1 hp with rfl|hp
  ·simp only [pD]; exact h (i,cs) ad
  ·exact Gc (fun q hq=>h q (by simp [hq])) p hp
theorem OR.back {id:Nat} {o:dG} (hn:nf o=true) (hd:Eo.dm id) (ho:OR Eo h id o):OR E2 h (r.id id) (r.ob o):=by
 obtain⟨_,Z,h3⟩:=hid id hd
 cases o with
 |qY e t eR ov=>simp [nf] at hn
 |cells cs e=> simp only [OR,Ren.ob] at *;obtain⟨arr,lo,hi,us,q1,q2,q3,q4,q5,q6,q7⟩:=ho;rw [Z,h3];exact⟨arr,lo,hi,us,q1,cB.back hl xy hρ hid kO cs us q2,q3,by rw [pD]; exact q4,q5,q6,q7⟩
 |map es c=>
  simp only [OR,Ren.ob] at *;obtain⟨bL,c',q1,q2,q3⟩:=ho;rw [Z];refine⟨bL,c',q1,eB.back hl xy hρ hid kO q2,?_⟩
  cases c with
  |zero=>trivial
  |succ c=>exact⟨q3.1,by rw [q3.2,Ren.BH]⟩
 |jS s p=>simp only [OR,Ren.ob] at *; rw [Z]; exact ho
 |ji m s l z=>
  cases m with
  |none=>simp only [OR,Ren.ob,Option.map] at *; rw [Z]; exact ho
  |some i=> simp only [OR,Ren.ob,Option.map] at *;obtain⟨q1,q2,q3⟩:=hid i ho.2.2;rw [Z,q2];exact⟨ho.1,ho.2.1,q1⟩
 |jM e t=>
  grind [OR,Ren.ob,Ren.ef]
 |vec e t ty ov=>
  simp only [OR,Ren.ob] at *;obtain⟨⟨q0,qw⟩,arr,lo,hi,us,q1,q2,q3,q4,q5,q6,q7⟩:=ho;have he:(r.se e).den E2.ρ=e.den Eo.ρ:=by rw [Ren.ef hl,<- hρ]
  have q0':=Gc hl xy hρ hid kO q0;rw [Z,h3,he];refine⟨⟨q0',qw⟩,arr,lo,hi,us,q1,w6 hl xy hρ hid kO _ _ q2,q3,?_,q5,q6,q7⟩
  grind [cD]
end
theorem xh {r:Ren}: ∀{os:List dG} {i:Nat} {h:Hp},(∀a b,i<=a->a<i+os.length->i<=b->b<i+os.length->r.id a=r.id b->a=b)->
 (∀k o,os[k]?=some o->(jT r os i h).get (r.id (i+k))=some (r.ob o))/\(∀id,(∀k,k<os.length->r.id (i+k)≠id)->(jT r os i h).get id=h.get id)/\(jT r os i h).next=h.next/\(jT r os i h).res=h.res
 |[],i,h,_=> ⟨fun k o hk=>by simp at hk,fun _ _=>rfl,rfl,rfl⟩
 |o::os,i,h,Ld=>by
  obtain⟨U,Z,h3,h4⟩:=xh (r:=r) (os:=os) (i:=i+1) (h:=h.put (r.id i) (r.ob o)) fun a b U Z h3 h4=>Ld a b J (by simp only [aK]; omega) J (by simp only [aK]; omega);refine⟨fun k x hk=>?_,fun id hn=>?_,h3,h4⟩
  ·cases k with
   |zero=>
    simp at hk;subst hk;simp only [jT];show (jT r os (i+1) (h.put (r.id i) (r.ob o))).get (r.id i)=some (r.ob o)
    grind [Hp.bR]
   |succ k=>
    grind [jT]
  ·simp only [jT];rw [Z id fun k hk=>?_,Hp.bR,af ?_]
   ·have:=hn 0 ad
    grind
   grind
theorem wS (c:CS) (s:St):(c.kP s).ns.length=c.k:=by
 grind [CS.kP,nt]
section
variable {P:Program}
def adb (P:Program) (GB:(Nat->Prop)->Array Obj->Prop) (g:FuncId) (c:CS) (kY:List RK) (ec:List dG) (ko:Nat) (f:List Int->Option (List Int)):Prop:=
 ∀xs ys,f xs=some ys->∀(E:En) (w:World) (vals:List Value),(∀i x,xs[i]?=some x->E.ρ i=x)->xs.length=c.k->vp E c.st { tmps:=vals.toArray,defers:=[] } w->GB E.ro w.heap->
  Calls P g vals.toArray w (QE ⟨w,E.ro,c.dy.length,E.θ,E.κ⟩ kY ec ko ys)
theorem X2 [bI] {GB:(Nat->Prop)->Array Obj->Prop} (Lg: ∀ρ ro h,bI.ok ρ ro h->GB ro h) {F:nT} (Le: ∀ρ ro h,bI.ok ρ ro h->Good F ρ) {g:FuncId} {j:Nat} {c:CS} {kY:List RK} {ec:List dG} {ko:Nat} (nV:mz ko ec=true) (u_:ko<=900) (hom:ec.length=c.dy.length)
 (hs:adb P GB g c kY ec ko (F j)) (kZ: ∀(args:Array Value) (w:World),(callFunc g args).run P w= .ok (.enter g args) w):iE P g (X3 j c kY ec ko):=by
 intro al5 s E w vals v s' r hv hp hl;unfold X3 at hl;split at hl
 ·rename_i iV;simp only [an] at iV;obtain⟨⟨_,N9⟩,IH⟩:=iV;have hlen:=wS c ⟨cf al5 0 .nil,s.h,s.pc⟩;generalize hr:c.kP ⟨cf al5 0 .nil,s.h,s.pc⟩ = rn at hl N9 IH hlen
  have f0:Fit E ⟨cf al5 0 .nil,s.h,s.pc⟩ { tmps:=vals.toArray,defers:=[] } w:=by refine⟨r,?_,hp⟩;have:=yJ hv 0;simpa using this
  obtain⟨hle,f1,ho⟩:=yY NA f0 N9;obtain⟨fA,fj,q1⟩:=cH hp hl;split at q1
  ·rename_i ht;have hg:=Le _ _ _ r.iT;have hg1:=(hg j (rn.ns.map (V.den E.ρ))).1;have hg2:=(hg j (rn.ns.map (V.den E.ρ))).2;simp only [SB.den,V.den,iU,hg1,beq_iff_eq] at ht
   have Bt:(F j (rn.ns.map (V.den E.ρ))).isSome=true:=by
    cases hh:(F j (rn.ns.map (V.den E.ρ))).isSome with
    |true=>rfl
    |false=>rw [hh] at ht; simp at ht
   obtain⟨ys,GI⟩:=amy.1 Bt
   have TM:(V.ap (2*j+1) (fN rn.ns)).den E.ρ=l9 ys:=by show E.ρ _=_;rw [iU,hg2,GI];rfl
   have:=bC q1;simp only [ak] at this;obtain⟨rfl,rfl⟩:=this;refine⟨rfl,fj,?_⟩;unfold kV mR;rw [kZ]
   have mJ: ∀i x,(rn.ns.map (V.den E.ρ))[i]?=some x->(E.gB rn).ρ i=x:=by intro i x hi;rw [bn,aO] at hi;obtain⟨e,he,rfl⟩:=hi;show rn.env E.ρ i=_;unfold Ren.env;rw [di,he]
   refine Calls.mono (hs _ ys GI (E.gB rn) w vals mJ (by simpa using hlen) f1.x (Lg _ _ _ f1.rel.iT)) fun e w' ⟨u,he,Y,mb,k1,k2,k3,k4,k5,k6⟩=> ⟨u,he,?_⟩;have sF:=N9;unfold CS.fits at sF;simp only [an] at sF;obtain⟨⟨⟨⟨⟨_,ng⟩,ae2⟩,_⟩,aeU⟩,_⟩:=sF;have ng:=aq ng
   have TJ: ∀i,rn.tM i=0:=by
    intro i;unfold Ren.tM;split
    ·rename_i x hx;rw [di] at hx;unfold Gh at IH;rw [aR] at IH;exact aq (IH x (bu hx))
    ·rfl
   have sL: ∀i,i<c.dy.length->∃o,s.h.get (rn.id i)=some o:=by intro i hi;obtain⟨o',g1,_⟩:=iw aeU (aM hi);rw [ay] at g1;exact⟨o',g1⟩
   have Ld: ∀a b,a<c.dy.length->b<c.dy.length->rn.id a=rn.id b->a=b:=by
    intro a b ha Y he;have hla:a<rn.bl.length:=J
    have hlb:b<rn.bl.length:=J
    unfold Ren.id at he;rw [di,di,aM hla,aM hlb] at he;simp only at he;exact oD ae2 (i:=a) (j:=b) (x:=rn.bl[a]) (by rw [di,aM hla]) (by rw [di,aM hlb,he])
   generalize hR:(⟨PN (.ap (2*j+1) (fN rn.ns)) ko,rn.bl,[]⟩ : Ren)=R;have IM: ∀i,R.id i=rn.id i:=by intro i; rw [<- hR]; rfl
   have hRl:R.ns.length=ko:=by rw [<- hR]; simp [PN]
   obtain⟨p1,p2,p3,p4⟩:=xh (r:=R) (os:=ec) (i:=0) (h:=s.h) fun a b _ Z _ h4 he=>by rw [IM,IM] at he;exact Ld a b J J he
   have hfp: ∀b,(l7.mk w (E.gB rn).ro c.dy.length (E.gB rn).θ (E.gB rn).κ).fp b->∃id o,s.h.get id=some o/\(E.θ id).1=b:=by rintro b ⟨i,hi,he⟩;obtain⟨o,U⟩:=sL i hi;exact⟨_,o,U,he⟩
   have X_: ∀b,E.ro b->w'.heap[b]?=w.heap[b]?:=by intro b IK;refine Y.nW b (r.pS b IK) fun hf=>?_;obtain⟨id,o,U,Z⟩:=hfp b hf;exact (r.live id o U).2.2 (by rw [Z]; exact IK)
   have tz:fg E w.heap { E with ro:=mb } w'.heap:=⟨rfl,fun _ h=>h,fun _ _=>rfl,fun _ _=>rfl,k1,X_⟩
   have N3: ∀id o,(jT R ec 0 s.h).get id=some o->∃o',s.h.get id=some o':=by
    intro id o hg;by_cases hex: ∃k,k<ec.length/\R.id (0+k)=id
    ·obtain⟨k,hk,rfl⟩:=hex;rw [ay,IM];exact sL k J
    ·rw [p2 id fun k hk he=>hex ⟨k,hk,he⟩] at hg;exact⟨o,hg⟩
   have tL:eM E s.h w { E with ro:=mb } (jT R ec 0 s.h) w':=by
    refine⟨rfl,fun _ h=>h,fun _ _=>rfl,fun _ _=>rfl,k1,fun b IK=>(k2 b IK).imp id .inr,by rw [p3]; exact au _,by rw [p4]; exact .inr rfl,fun _ h=> .inl h,Y.os,Y.tape,Y.output,Y.size,fun b ng hn=>Y.nW b ng fun hf=>?_,fun id o hg _=>?_,rfl⟩
    ·obtain⟨id,o,U,Z⟩:=hfp b hf;exact hn id o U Z
    ·obtain⟨o',U⟩:=N3 id o hg;exact⟨id,o',U,rfl⟩
   have Rx: ∀i,i<ko->R.env E.ρ i=low ys i:=by
    intro i hi;unfold Ren.env low
    have hn:eS R.ns i=some (oe (.ap (2*j+1) (fN rn.ns)) i):=by rw [<- hR,di];simp [PN,hi]
    rw [hn];simp only;rw [anp];simp only [oe,V.den,e9.den,bB];have aiA:(V.ap (2*j+1) (fN rn.ns)).den E.ρ=l9 ys:=TM;simp only [V.den] at aiA;rw [aiA];simp only [l9,bB,D.hd,bM,bn];cases ys[i]?<;>rfl
   have r2:bP { E with ro:=mb } (jT R ec 0 s.h) w':=by
    refine⟨fun id hid=>r.fresh id (by rw [<- p3]; exact hid),fun q hq=>by rw [p3]; exact r.res q (by rw [<- p4]; exact hq),fun id o hg=>?_,fun i1 i2 o1 o2 U Z he=>?_,k3,bI.bX r.iT k1 X_,r.TP tL.hd tL.size tL.qW tL.own⟩
    ·by_cases hex: ∃k,k<ec.length/\R.id (0+k)=id
     ·obtain⟨k,hk,rfl⟩:=hex;rw [ay];have hx:=aM hk;have:=p1 k _ hx;rw [hg] at this;simp only [ag] at this;subst this;obtain⟨o',U⟩:=sL k J;obtain⟨d1,d2,d3⟩:=r.live _ _ U;refine⟨by rw [IM]; exact d1,?_,?_⟩
      ·have ho2:=k5 k _ hx
       have ho3:=OR.low (K:=ko) (E:=(l7.mk w (E.gB rn).ro c.dy.length (E.gB rn).θ (E.gB rn).κ).out ys mb) (E':={ ρ:=R.env E.ρ,θ:=(E.gB rn).θ,κ:=(E.gB rn).κ,dm:=fun i=>i<c.dy.length,ro:=mb })
        (fun i hi=>Rx i hi) rfl rfl rfl rfl (my nV hx).2 ho2
       refine OR.back (Eo:={ ρ:=R.env E.ρ,θ:=(E.gB rn).θ,κ:=(E.gB rn).κ,dm:=fun i=>i<c.dy.length,ro:=mb }) (E2:={ E with ro:=mb }) (r:=R) (by rw [hRl]; exact u_) (by rw [<- hR]) rfl (fun i hi=>?_) rfl (my nV hx).1 (show k<c.dy.length by omega) ho3;obtain⟨o2,Z⟩:=sL i hi;refine⟨by rw [IM]; exact (r.live _ _ Z).1,?_,?_⟩
       ·show E.θ (R.id i)=((E.θ (rn.id i)).1,(E.θ (rn.id i)).2+rn.tM i);rw [IM,TJ,bd]
       ·show E.κ (R.id i)=E.κ (rn.id i)-rn.tM i;rw [IM,TJ,anV]
      ·rw [IM];exact k4 k (by show k<c.dy.length; omega)
     ·rw [p2 id fun k hk he=>hex ⟨k,hk,he⟩] at hg;obtain⟨d1,d2,d3⟩:=r.live id o hg
      have aaa:w'.heap[(E.θ id).1]?=w.heap[(E.θ id).1]?:=by refine Y.nW _ (fF r hg) ?_;rintro⟨i,hi,he⟩;obtain⟨o',U⟩:=sL i hi;have:=r.inj _ id o' o U hg he;exact hex ⟨i,by show i<ec.length; rw [hom]; exact hi,by rw [ay,IM]; exact this⟩
      refine⟨d1,d2.bX tz d1 aaa (r.TU rfl (fun x hx hn=>Y.nW x hx fun hf=>by obtain⟨id,o,U,Z⟩:=hfp x hf; exact hn id o U Z) _),fun hr=>?_⟩;rcases k2 _ hr with hr|hr
      ·exact d3 hr
      ·have fe:(E.θ id).1<w.heap.size:=fF r hg;have N8:w.heap.size<=(E.θ id).1:=hr;omega
    ·obtain⟨a1,b1⟩:=N3 _ _ U;obtain⟨a2,b2⟩:=N3 _ _ Z;exact r.inj _ _ _ _ b1 b2 he
   refine⟨{ E with ro:=mb },tL,r2,?_⟩;obtain⟨us,fl',sh',c1,rfl⟩:=k6
   have hvr:cB { E with ro:=mb } w'.heap (oY kY (oe (.ap (2*j+1) (fN rn.ns))) ko) us:=by refine rF sh' c1 fun k n hk=>?_;rw [amF] at hk;exact vz (ys:=ys) TM hk
   have:=Ce hvr;unfold Ab at this;exact this
  ·simp [T.leaf] at q1
 ·simp [T.leaf] at hl
theorem By (s:St): ∀(gh:List (Nat×Nat)) (ns:List V),(Yu s gh ns).length=ns.length
 |[],_=>rfl
 |_::_,[]=>rfl
 |(t,c)::l,_::ns=>by simp only [Yu,aK,By s l ns]
theorem Ys {g n:V} {ρ:Nat->Int} {s:St} {k:St->T (W×St)} {r:W×St} (hp:bW ρ s.pc) (h:(Yt g n s k).leaf ρ=some r): ∃pc,bW ρ pc/\(k { s with pc:=pc }).leaf ρ=some r:=by
 unfold Yt at h;obtain⟨fA,fj,U⟩:=cH hp h;split at U
 ·grind
 ·obtain⟨jw,jl,Z⟩:=cH (s:={ s with pc:=fA }) fj U
  grind [T.leaf]
theorem afh {q:V} {gU:Nat} {ns:List V} {g:Option V} {c:CS} {bl:List Nat} {ρ:Nat->Int} {s:St} {k:St->T (W×St)} {r:W×St} (hp:bW ρ s.pc) (h:(ghT q gU ns g c bl s k).leaf ρ=some r): ∃pc,bW ρ pc/\(k { s with pc:=pc }).leaf ρ=some r:=by
 unfold ghT at h;split at h
 ·exact⟨s.pc,hp,h⟩
 ·split at h
  ·exact⟨s.pc,hp,h⟩
  ·split at h
   ·exact⟨s.pc,hp,h⟩
   ·split at h
    ·exact Ys hp h
    ·exact⟨s.pc,hp,h⟩
theorem Sn {q:V} {gU:Nat} {ns:List V} {g:Option V} {bl:List Nat} {ρ:Nat->Int} {v:W} {s':St}: ∀{l:List CS} {k:Nat} {s:St},bW ρ s.pc->(g! q gU ns g bl l k s).leaf ρ=some (v,s')->
 ∃i c dZ,l[i-k]?=some c/\k<=i/\(oe q 0).den ρ=(i:Int)/\bW ρ dZ/\v=Ab ((qT q gU ns c bl s).B1 (c.bD.map fun p=>p.2))/\s'= { s with h:=⟨(jT (qT q gU ns c bl s) c.dy 0 s.h).m,s.h.next+(c.dy.length-bl.length),s.h.res⟩,pc:=dZ }
 |[],k,s,_,h=>by simp [g!,T.leaf] at h
 |c::l,k,s,hp,h=>by
  simp only [g!] at h;obtain⟨dZ,fh,U⟩:=cH hp h;split at U
  ·rename_i Y;rw [gw,beq_iff_eq] at Y;obtain⟨jw,jl,Z⟩:=afh (s:={ s with pc:=dZ }) fh U;have:=bC Z;simp only [ak] at this;exact⟨k,c,jw,ad,au _,Y,jl,this.1.symm,this.2.symm⟩
  ·obtain⟨i,c',jw,q1,q2,q3,q4,q5,q6⟩:=Sn (s:={ s with pc:=dZ }) fh U;refine⟨i,c',jw,?_,J,q3,q4,q5,q6⟩
   grind
def xu:List (Nat×W)->Nat->Bool
 |[],_=>true
 |(t,_)::l,i=>Nat.beq t i&&xu l (i+1)
theorem A5: ∀{l:List (Nat×W)} {i t:Nat} {tr:Tr W},xu l i=true->t<i->(nq l tr).get t=tr.get t
 |[],_,_,_,_,_=>rfl
 |(j,v)::l,i,t,tr,h,ht=>by simp only [xu,an] at h;have hj:=aq h.1;simp only [nq];rw [A5 h.2 J,Tr.bR,af J]
theorem yb: ∀{l:List (Nat×W)} {i:Nat} {tr:Tr W},xu l i=true->∀k v,(l.map fun p=>p.2)[k]?=some v->(nq l tr).get (i+k)=some v
 |[],_,_,_,k,v,hk=>by simp at hk
 |(j,x)::l,i,tr,h,k,v,hk=>by
  simp only [xu,an] at h;have hj:=aq h.1;subst hj;simp only [nq]
  cases k with
  |zero=>
   grind [A5,Tr.bR]
  |succ k=>
   have:=yb (tr:=tr.put j (some x)) h.2 k v (by simpa using hk)
   grind
theorem cB.of {E:En} {h:Array Obj}: ∀{vs:List W} {us:List Value},us.length=vs.length->(∀(k:Nat) (v:W),vs[k]?=some v->∃u,us[k]?=some u/\VR E h v u)->cB E h vs us
 |[],us,hl,_=>by rw [gP]; exact ame hl
 |v::vs,[],hl,_=>by simp at hl
 |v::vs,u::us,hl,hh=>by
  rw [bV];refine⟨u,us,rfl,?_,cB.of (by simpa using hl) fun k x hk=>?_⟩
  ·obtain⟨y,U,Z⟩:=hh 0 v rfl
   grind
  ·exact hh (k+1) x (by simpa using hk)
def ada (P:Program) (GB:(Nat->Prop)->Array Obj->Prop) (g:FuncId) (c:CS) (og:List CS) (f:List Int->Option (List Int)):Prop:=
 ∀xs ys,f xs=some ys->∀(E:En) (w:World) (vals:List Value),(∀i x,xs[i]?=some x->E.ρ i=x)->xs.length=c.k->vp E c.st { tmps:=vals.toArray,defers:=[] } w->GB E.ro w.heap->
  Calls P g vals.toArray w (QR ⟨w,E.ro,c.dy.length,E.θ,E.κ⟩ og ys)
def FY:List CS->Bool
 |[]=>true
 |c::l=>ve c.k c&&xu c.bD 0&&Nat.ble c.k 900&&(nfs c.dy&&FY l)
theorem FX: ∀{l:List CS},FY l=true->∀{i:Nat} {c:CS},l[i]?=some c->ve c.k c=true/\xu c.bD 0=true/\c.k<=900/\nfs c.dy=true
 |[],_,i,c,h=>by simp at h
 |c0::l,hs,i,c,h=>by
  simp only [FY,an] at hs
  cases i with
  |zero=>simp at h; subst h; exact⟨hs.1.1.1,hs.1.1.2,amf hs.1.2,hs.2.1⟩
  |succ i=>exact FX hs.2.2 (by simpa using h)
theorem K6 [bI] {GB:(Nat->Prop)->Array Obj->Prop} (Lg: ∀ρ ro h,bI.ok ρ ro h->GB ro h) {F:nT} (Le: ∀ρ ro h,bI.ok ρ ro h->Good F ρ) {g:FuncId} {j:Nat} {c:CS} {gh:List (Nat×Nat)} {gU:Nat} {og:List CS} (hrp:FY og=true) (ak1: ∀xs ys,F j xs=some ys->∀a y,a<gU->ys[a+1]?=some y->y=low xs a)
 (hs:ada P GB g c og (F j)) (kZ: ∀(args:Array Value) (w:World),(callFunc g args).run P w= .ok (.enter g args) w):iE P g (Rk j gU c gh og):=by
 intro al5 s E w vals v s' r hv hp hl;unfold Rk at hl;split at hl
 ·rename_i iV;simp only [an] at iV;obtain⟨⟨_,N9⟩,IH⟩:=iV;have hlen:=wS c ⟨cf al5 0 .nil,s.h,s.pc⟩
  have ab2:(u! s gh (c.kP ⟨cf al5 0 .nil,s.h,s.pc⟩)).ns.length=c.k:=by show (Yu s gh _).length=c.k;rw [By,hlen]
  generalize hr:u! s gh (c.kP ⟨cf al5 0 .nil,s.h,s.pc⟩)=rn at hl N9 ab2 IH
  have f0:Fit E ⟨cf al5 0 .nil,s.h,s.pc⟩ { tmps:=vals.toArray,defers:=[] } w:=by refine⟨r,?_,hp⟩;have:=yJ hv 0;simpa using this
  obtain⟨hle,f1,ho⟩:=yY NA f0 N9;obtain⟨fA,fj,q1⟩:=cH hp hl;split at q1
  ·rename_i ht;have hg:=Le _ _ _ r.iT;have hg1:=(hg j (rn.ns.map (V.den E.ρ))).1;have hg2:=(hg j (rn.ns.map (V.den E.ρ))).2;simp only [SB.den,V.den,iU,hg1,beq_iff_eq] at ht
   have Bt:(F j (rn.ns.map (V.den E.ρ))).isSome=true:=by
    cases hh:(F j (rn.ns.map (V.den E.ρ))).isSome with
    |true=>rfl
    |false=>rw [hh] at ht; simp at ht
   obtain⟨ys,GI⟩:=amy.1 Bt
   have TM:(V.ap (2*j+1) (fN rn.ns)).den E.ρ=l9 ys:=by show E.ρ _=_;rw [iU,hg2,GI];rfl
   obtain⟨i,c',jw,a1,_,a3,a4,rfl,rfl⟩:=Sn (s:={ s with pc:=fA }) fj q1;rw [anV] at a1;refine⟨rfl,a4,?_⟩;unfold kV mR;rw [kZ]
   have mJ: ∀i x,(rn.ns.map (V.den E.ρ))[i]?=some x->(E.gB rn).ρ i=x:=by intro i x hi;rw [bn,aO] at hi;obtain⟨e,he,rfl⟩:=hi;show rn.env E.ρ i=_;unfold Ren.env;rw [di,he]
   refine Calls.mono (hs _ ys GI (E.gB rn) w vals mJ (by simpa using ab2) f1.x (Lg _ _ _ f1.rel.iT)) fun e w' ⟨us,i2,c2,E',he,Y,b1,b2,b3,b4,b5,b6,b7,b8,aaM,b9⟩=> ⟨Tb us,he,?_⟩
   have hi:i2=i:=by have:=vz TM b2;rw [a3] at this;omega
   subst hi;rw [b1] at a1;simp only [ag] at a1;subst a1;obtain⟨k1,k2,k3,k9⟩:=FX hrp b1;have sF:=N9;unfold CS.fits at sF;simp only [an] at sF;obtain⟨⟨⟨⟨⟨_,ng⟩,ae2⟩,_⟩,aeU⟩,_⟩:=sF;have ng:=aq ng
   have TJ: ∀i,rn.tM i=0:=by
    intro i;unfold Ren.tM;split
    ·rename_i x hx;rw [di] at hx;unfold Gh at IH;rw [aR] at IH;exact aq (IH x (bu hx))
    ·rfl
   have sL: ∀i,i<c.dy.length->∃o,s.h.get (rn.id i)=some o:=by intro i hi;obtain⟨o',g1,_⟩:=iw aeU (aM hi);rw [ay] at g1;exact⟨o',g1⟩
   have Ld: ∀a b,a<c.dy.length->b<c.dy.length->rn.id a=rn.id b->a=b:=by
    intro a b ha Y he;have hla:a<rn.bl.length:=J
    have hlb:b<rn.bl.length:=J
    unfold Ren.id at he;rw [di,di,aM hla,aM hlb] at he;simp only at he;exact oD ae2 (i:=a) (j:=b) (x:=rn.bl[a]) (by rw [di,aM hla]) (by rw [di,aM hlb,he])
   have DO: ∀id,E.dm id->id<s.h.next:=by
    intro id hd;rcases aQ id s.h.next with h|h
    ·exact h
    ·exact absurd hd (r.fresh id h)
   have GN: ∀i,i<c.dy.length->rn.id i<s.h.next:=by intro i hi;obtain⟨o,U⟩:=sL i hi;exact DO _ (r.live _ _ U).1
   have hθr: ∀i,(E.gB rn).θ i=E.θ (rn.id i):=by intro i;show ((E.θ (rn.id i)).1,(E.θ (rn.id i)).2+rn.tM i)=_;rw [TJ,bd]
   have hκr: ∀i,(E.gB rn).κ i=E.κ (rn.id i):=by intro i;show E.κ (rn.id i)-rn.tM i=_;rw [TJ,anV]
   have Y!:c.dy.length<=c2.dy.length:=by
    rcases amL c.dy.length with h|h
    ·omega
    ·have:=(aaM (c.dy.length-1) (by show c.dy.length-1<c.dy.length; omega)).1;omega
   have hfp: ∀b,(l7.mk w (E.gB rn).ro c.dy.length (E.gB rn).θ (E.gB rn).κ).fp b->∃id o,s.h.get id=some o/\(E.θ id).1=b:=by rintro b ⟨i,hi,he⟩;obtain⟨o,U⟩:=sL i hi;refine⟨_,o,U,?_⟩;have wB:((E.gB rn).θ i).1=b:=he;rw [hθr] at wB;exact wB
   have X_: ∀b,E.ro b->w'.heap[b]?=w.heap[b]?:=by intro b IK;refine Y.nW b (r.pS b IK) fun hf=>?_;obtain⟨id,o,U,Z⟩:=hfp b hf;exact (r.live id o U).2.2 (by rw [Z]; exact IK)
   generalize hR:qT (.ap (2*j+1) (fN rn.ns)) gU rn.ns c2 rn.bl { s with pc:=fA }=R
   have Fk: ∀i,i<c.dy.length->R.id i=rn.id i:=by
    intro i hi;have hla:i<rn.bl.length:=J
    rw [<- hR];unfold qT Ren.id;simp only [di,bn,am8 (show i<c2.dy.length by omega),bw,aM hla]
   have Od: ∀i,i<c2.dy.length->c.dy.length<=i->R.id i=s.h.next+(i-c.dy.length):=by
    intro i hi N8;have hla:rn.bl.length<=i:=J
    rw [<- hR];unfold qT Ren.id;simp only [di,bn,am8 hi,bw,am6 hla];rw [ng]
   have aiW: ∀a b,a<c2.dy.length->b<c2.dy.length->R.id a=R.id b->a=b:=by
    intro a b ha Y he;rcases aQ a c.dy.length with U|U<;>rcases aQ b c.dy.length with Z|Z
    ·rw [Fk a U,Fk b Z] at he;exact Ld a b U Z he
    ·rw [Fk a U,Od b Y Z] at he;have:=GN a U;omega
    ·rw [Od a ha U,Fk b Z] at he;have:=GN b Z;omega
    ·rw [Od a ha U,Od b Y Z] at he;omega
   have hRl:R.ns.length=c2.k:=by rw [<- hR]; simp [qT]
   have aiV:R.sh= []:=by rw [<- hR]; rfl
   have Rx: ∀a,a<c2.k->R.env E.ρ a=E'.ρ a:=by
    intro a ha;unfold Ren.env
    have hn:eS R.ns a=some (match Nat.blt a gU with |true=>(match eS rn.ns a with |some e=>e|none=> .lit 0)|false=>oe (.ap (2*j+1) (fN rn.ns)) (a+1)):=by rw [<- hR,di];simp [qT,ha]
    rw [hn];simp only;have hy:ys[a+1]?=some ys[a+1]:=aM J;rw [b4 a _ hy];split
    ·rename_i Y;have fe:a<gU:=Nat.lt_of_succ_le (by simpa [Nat.blt] using Y);rw [ak1 _ _ GI a _ fe hy];unfold low;rw [anp,bn,di];cases rn.ns[a]?<;>rfl
    ·exact vz TM hy
   have ak0: ∀id o,c2.st.h.get id=some o->id<c2.dy.length/\c2.dy[id]?=some o:=by
    intro id o ho;have:(nY c2.dy 0 .nil).get id=some o:=ho;rw [jb] at this;split at this
    ·exact⟨J,this⟩
    ·simp [Tr.get] at this
   have DL: ∀id o,c2.dy[id]?=some o->c2.st.h.get id=some o:=by intro id o ho;show (nY c2.dy 0 .nil).get id=_;have fe:=(aW.1 ho).1;rw [jb,ah J];exact ho
   have aiK: ∀i,E'.dm i->i<c2.dy.length:=by
    intro i hd;rcases aQ i c2.dy.length with h|h
    ·exact h
    ·exact absurd hd (b6.fresh i h)
   obtain⟨p1,p2,p3,p4⟩:=xh (r:=R) (os:=c2.dy) (i:=0) (h:=s.h) fun a b _ Z _ h4 he=>aiW a b J J he;generalize hH2:(⟨(jT R c2.dy 0 s.h).m,s.h.next+(c2.dy.length-rn.bl.length),s.h.res⟩ : Hp)=H2;have aiY: ∀id,H2.get id=(jT R c2.dy 0 s.h).get id:=by intro id; rw [<- hH2]; rfl
   have aab:H2.next=s.h.next+(c2.dy.length-c.dy.length):=by rw [<- hH2,ng]
   have aiX:H2.res=s.h.res:=by rw [<- hH2]
   have aeW: ∀k o,c2.dy[k]?=some o->H2.get (R.id k)=some (R.ob o):=by intro k o hk;have:=p1 k o hk;rw [ay] at this;rw [aiY]; exact this
   have hold: ∀id,(∀k,k<c2.dy.length->R.id k≠id)->H2.get id=s.h.get id:=by intro id hid;rw [aiY];exact p2 id fun k hk he=>by rw [ay] at he; exact hid k hk he
   have nK: ∀id o,H2.get id=some o->(∃k o',id=R.id k/\c2.dy[k]?=some o'/\o=R.ob o')\/(s.h.get id=some o/\∀k,k<c2.dy.length->R.id k≠id):=by
    intro id o hg;by_cases hex: ∃k,k<c2.dy.length/\R.id k=id
    ·obtain⟨k,hk,rfl⟩:=hex;have hx:=aM hk;have:=aeW k _ hx;rw [hg] at this;simp only [ag] at this;exact .inl ⟨k,_,rfl,hx,this⟩
    ·have fZ: ∀k,k<c2.dy.length->R.id k≠id:=fun k hk he=>hex ⟨k,hk,he⟩;rw [hold id fZ] at hg;exact .inr ⟨hg,fZ⟩
   let E2:En:={ ρ:=E.ρ,θ:=fun id=>if id<s.h.next then E.θ id else E'.θ (id-s.h.next+c.dy.length),κ:=fun id=>if id<s.h.next then E.κ id else E'.κ (id-s.h.next+c.dy.length),dm:=fun id=>E.dm id\/(s.h.next<=id/\id<s.h.next+(c2.dy.length-c.dy.length)),ro:=E'.ro,hd:=E.hd };have hθo: ∀id,id<s.h.next->E2.θ id=E.θ id:=fun id h=>by show (if id<s.h.next then _ else _)=_; rw [ah h]
   have hκo: ∀id,id<s.h.next->E2.κ id=E.κ id:=fun id h=>by show (if id<s.h.next then _ else _)=_; rw [ah h]
   have hθn: ∀k,k<c2.dy.length->E2.θ (R.id k)=E'.θ k:=by
    intro k hk;rcases aQ k c.dy.length with h|h
    ·rw [Fk k h,hθo _ (GN k h),<- hθr,(aaM k h).2.2.1]
    ·rw [Od k hk h];show (if s.h.next+(k-c.dy.length)<s.h.next then _ else _)=_;rw [af J,anU,Nat.sub_add_cancel h]
   have hκn: ∀k,k<c2.dy.length->E2.κ (R.id k)=E'.κ k:=by
    intro k hk;rcases aQ k c.dy.length with h|h
    ·rw [Fk k h,hκo _ (GN k h),<- hκr,(aaM k h).2.2.2]
    ·rw [Od k hk h];show (if s.h.next+(k-c.dy.length)<s.h.next then _ else _)=_;rw [af J,anU,Nat.sub_add_cancel h]
   have aiM: ∀k,k<c2.dy.length->E2.dm (R.id k):=by
    intro k hk;rcases aQ k c.dy.length with h|h
    ·obtain⟨o,U⟩:=sL k h;rw [Fk k h];exact .inl (r.live _ _ U).1
    ·rw [Od k hk h];exact .inr ⟨J,J⟩
   have tz:fg E w.heap E2 w'.heap:=⟨rfl,fun _ h=> .inl h,fun id h=>hθo id (DO id h),fun id h=>hκo id (DO id h),b7,X_⟩
   have X7: ∀i,E'.dm i->E2.dm (R.id i)/\E2.θ (R.id i)=E'.θ i/\E2.κ (R.id i)=E'.κ i:=by intro i hd;have hi:=aiK i hd;exact⟨aiM i hi,hθn i hi,hκn i hi⟩
   unfold ve at k1;simp only [an] at k1;obtain⟨⟨ks,ko⟩,_⟩:=k1
   have tL:eM E s.h w E2 H2 w':=by
    refine⟨rfl,fun _ h=> .inl h,fun id h=>hθo id (DO id h),fun id h=>hκo id (DO id h),b7,fun b IK=>(b8 b IK).imp id .inr,by rw [aab]; omega,by rw [aiX]; exact .inr rfl,fun id h=>?_,Y.os,Y.tape,Y.output,Y.size,fun b ae4 hn=>Y.nW b ae4 fun hf=>?_,fun id o hg fe=>?_,rfl⟩
    ·rcases h with h|h
     ·exact .inl h
     ·exact .inr (.inl ⟨h.1,by rw [aab]; exact h.2⟩)
    ·obtain⟨id,o,U,Z⟩:=hfp b hf;exact hn id o U Z
    ·rcases nK id o hg with ⟨k,o',rfl,hk,_⟩|⟨U,_⟩
     ·have JP:=(aW.1 hk).1;rcases aQ k c.dy.length with h|h
      ·obtain⟨o2,Z⟩:=sL k h;exact⟨_,o2,Z,by rw [Fk k h,hθo _ (GN k h)]⟩
      ·rw [hθn k JP] at fe;have hh:w.heap.size<=(E'.θ k).1:=b9 k o' (DL k o' hk) h;omega
     ·exact⟨id,o,U,(by rw [hθo id (DO id (r.live _ _ U).1)])⟩
   have r2:bP E2 H2 w':=by
    refine⟨fun id hid=>?_,fun q hq=>?_,fun id o hg=>?_,fun i1 i2 o1 o2 U Z he=>?_,b6.pS,bI.bX r.iT b7 tz.Ba,r.TP tL.hd tL.size tL.qW tL.own⟩
    ·rw [aab] at hid;rintro (h|h)
     ·exact r.fresh id J h
     ·omega
    ·rw [aiX] at hq;obtain⟨g1,g2⟩:=r.res q hq;refine⟨by rw [aab]; omega,?_⟩;rintro (h|h)
     ·exact g2 h
     ·omega
    ·rcases nK id o hg with ⟨k,o',rfl,hk,rfl⟩|⟨Z,fZ⟩
     ·have JP:=(aW.1 hk).1;obtain⟨g1,g2,g3⟩:=b6.live k o' (DL k o' hk);refine⟨aiM k JP,?_,by rw [hθn k JP]; exact g3⟩;have ho3:=OR.low (K:=c2.k) (E:=E') (E':={ E' with ρ:=R.env E.ρ }) (fun a ha=>Rx a ha) rfl rfl rfl rfl (uA ko hk) g2;exact OR.back (Eo:={ E' with ρ:=R.env E.ρ }) (E2:=E2) (r:=R) (by rw [hRl]; exact k3) aiV rfl (fun i hd=>X7 i hd) rfl (id:=k) (Io k9 hk) g1 ho3
     ·obtain⟨g1,g2,g3⟩:=r.live id o Z;have U:=DO id g1;refine⟨.inl g1,g2.bX tz g1 (Y.nW _ (fF r Z) ?_) (r.TU rfl (fun x hx hn=>Y.nW x hx fun hf=>by obtain⟨id,o,U,Z⟩:=hfp x hf; exact hn id o U Z) _),?_⟩
      ·rintro⟨i,hi,he⟩;obtain⟨o',h3⟩:=sL i hi;have wB:((E.gB rn).θ i).1=(E.θ id).1:=he;rw [hθr] at wB;have:=r.inj _ id o' o h3 Z wB;have hi':i<c.dy.length:=hi;exact fZ i J (by rw [Fk i hi']; exact this)
      ·rw [hθo id U];intro hr;rcases b8 _ hr with hr|hr
       ·exact g3 hr
       ·have fe:(E.θ id).1<w.heap.size:=fF r Z;have N8:w.heap.size<=(E.θ id).1:=hr;omega
    ·have mix: ∀(k:Nat) (o':dG) (id:Nat) (o:dG),c2.dy[k]?=some o'->s.h.get id=some o->(∀k,k<c2.dy.length->R.id k≠id)->(E'.θ k).1=(E.θ id).1->False:=by
      intro k o' id o hk Z fZ he;have JP:=(aW.1 hk).1;rcases aQ k c.dy.length with h|h
      ·obtain⟨o3,h3⟩:=sL k h;have hb3:E'.θ k=(E.gB rn).θ k:=(aaM k h).2.2.1;rw [hb3,hθr] at he;have:=r.inj _ id o3 o h3 Z he;exact fZ k JP (by rw [Fk k h]; exact this)
      ·have h3:=fF r Z;have h4:w.heap.size<=(E'.θ k).1:=b9 k o' (DL k o' hk) h;omega
     rcases nK i1 o1 U with ⟨m1,y1,rfl,z1,_⟩|⟨x2,x3⟩
     ·have hm1:=(aW.1 z1).1;rcases nK i2 o2 Z with ⟨m2,y2,rfl,z2,_⟩|⟨x4,x5⟩
      ·have Y!:=(aW.1 z2).1;rw [hθn m1 hm1,hθn m2 Y!] at he;have:=b6.inj _ _ _ _ (DL m1 y1 z1) (DL m2 y2 z2) he;rw [this]
      ·rw [hθn m1 hm1,hθo _ (DO _ (r.live _ _ x4).1)] at he;exact (mix m1 y1 i2 o2 z1 x4 x5 he).elim
     ·rcases nK i2 o2 Z with ⟨m2,y2,rfl,z2,_⟩|⟨x4,x5⟩
      ·have Y!:=(aW.1 z2).1;rw [hθn m2 Y!,hθo _ (DO _ (r.live _ _ x2).1)] at he;exact (mix m2 y2 i1 o1 z2 x2 x3 he.symm).elim
      ·rw [hθo _ (DO _ (r.live _ _ x2).1),hθo _ (DO _ (r.live _ _ x4).1)] at he;exact r.inj _ _ _ _ x2 x4 he
   refine⟨E2,tL,r2,?_⟩
   have GJ:cB E' w'.heap (c2.bD.map fun p=>p.2) us:=by refine cB.of (by rw [b5]; simp) fun k x hk=>?_;have:=yb (tr:=.nil) k2 k x hk;rw [ay] at this;obtain⟨u,U,Z⟩:=b6.sr k x this;exact⟨u,by simpa using U,Z⟩
   have aiH:lS c2.k (c2.bD.map fun p=>p.2)=true:=by
    have: ∀{l:List (Nat×W)},rk c2.k l=true->lS c2.k (l.map fun p=>p.2)=true:=by
     intro l
     induction l with
     |nil=>intro _; rfl
     |cons p l ih=> intro h;simp only [rk,an] at h;simp only [ax,lS,an];exact⟨h.1,ih h.2⟩
    exact this ks
   have akE:=cB.low (K:=c2.k) (E:=E') (E':={ E' with ρ:=R.env E.ρ }) (fun a ha=>Rx a ha) rfl rfl rfl rfl _ _ aiH GJ;have akD:=cB.back (Eo:={ E' with ρ:=R.env E.ρ }) (E2:=E2) (r:=R) (by rw [hRl]; exact k3) aiV rfl (fun i hd=>X7 i hd) rfl _ _ akE;exact Ce akD
  ·simp [T.leaf] at q1
 ·simp [T.leaf] at hl
end
end Go.As
end
section
namespace Go.As
open Go.RowKit
structure Mm where
 ok:(Nat->Prop)->Array Obj->Prop
 bX: ∀{ro mb:Nat->Prop} {h h':Array Obj},ok ro h->(∀b,ro b->mb b)->(∀b,ro b->h'[b]?=h[b]?)->ok mb h'
@[reducible] def Mm.iT (G:Mm) (F:nT):bI where
 ok ρ ro h:=G.ok ro h/\Good F ρ
 bX U Z h3:=⟨G.bX U.1 Z h3,U.2⟩
 gB U Z:=⟨U.1,U.2.gB Z⟩
structure zK where
 g:Nat
 EU:List RK
 kY:List RK
 eV:B4
 pos:Option (List Nat×CS)
 pat:Option (CS×List dG×Nat):=none
 og:List CS:=[]
 gh:List (Nat×Nat):=[]
 wh:List Nat:=[]
 gU:Nat:=0
 tst:List (Nat×Nat):=[]
 fz:List (Nat×Nat×Nat):=[]
 Ok:List FH:=[]
def zK.ec (e:zK):List dG:=match e.pat with
 |none=>[]
 |some (_,o,_)=>o
def zK.ko (e:zK):Nat:=match e.pat with
 |none=>0
 |some (_,_,k)=>k
structure Sys where
 P:Program
 G:Mm
 tt:TT
 ft:Nat->Option Func
 qu:Nat->Nat->List Oper->Bool
 draw:eh->Nat->Nat->List Oper->St->T St
 wQ:Nat->Option (List W->St->T (W×St))
 lf:Nat
 depth:Nat
 BW:Nat->List Nat
 bL:Nat->Option zK
noncomputable section
def Q' (c:CS) (args:List W) (s:St):Bool:=match quick (cf args 0 .nil) c.bD with
 |false=>false
 |true=>Nat.beq args.length c.bD.length&&c.fits q? ⟨cf args 0 .nil,s.h,s.pc⟩ (c.kP ⟨cf args 0 .nil,s.h,s.pc⟩)&&Gh (c.kP ⟨cf args 0 .nil,s.h,s.pc⟩)
def Pz (s:St):List Nat->Bool
 |[]=>true
 |t::l=>match Nat.ble 1000 t with
  |true=>match s.bD.get (t-1000) with
   |some _=>Pz s l
   |none=>false
  |false=>match s.bD.get t with
   |some _=>false
   |none=>Pz s l
def aiZ (s:St):List (Nat×Nat)->Bool
 |[]=>true
 |(t,_)::l=>match s.bD.get t with
  |some _=>aiZ s l
  |none=>false
def KB (c:CS) (gh:List (Nat×Nat)) (wh:List Nat) (args:List W) (s:St):Bool:=match quick (cf args 0 .nil) c.bD with
 |false=>false
 |true=>Pz s wh&&aiZ s gh&&Nat.beq args.length c.bD.length&&c.fits q? ⟨cf args 0 .nil,s.h,s.pc⟩ (u! s gh (c.kP ⟨cf args 0 .nil,s.h,s.pc⟩))&&Gh (u! s gh (c.kP ⟨cf args 0 .nil,s.h,s.pc⟩))
def IP:Nat->List W->Nat->List (Nat×Nat×Nat)
 |_,[],_=>[]
 |i,v::l,f=>match v with
  | .ej _ t=>(i,f,t)::IP i l (f+1)
  |_=>IP i l (f+1)
def Ct:List (Nat×W)->List (Nat×Nat×Nat)
 |[]=>[]
 |(i,v)::l=>match v with
  | .agg cs=>IP i cs 0++Ct l
  |_=>Ct l
def ajO (args:List W) (p:Nat×Nat×Nat):Bool:=match eS args p.1 with
 |some v=>match v with
  | .agg xs=>match eS xs p.2.1 with
    |some _=>true
    |none=>false
  |_=>false
 |none=>false
def Oh (s:St):List (Nat×Nat)->Bool
 |[]=>true
 |(t,c)::l=>match s.bD.get t with
  |some v=>match v with
   | .int _ _=>Oh s l
   | .agg cs=>match eS cs c with
     |some x=>match x with
      | .int _ _=>Oh s l
      |_=>false
     |none=>false
   |_=>false
  |none=>false
def ai5 (c:CS) (gh:List (Nat×Nat)) (wh:List Nat) (args:List W) (s:St):Bool:=match gh with
 |[]=>false
 |_=>Pz s wh&&Oh s gh&&match Ct c.bD with
  |[]=>false
  |fz=>fz.all (ajO args)
def Sys.Bu (S:Sys):List Nat->List W->St->T (W×St)
 |[],_,_=> .fail
 |j::l,args,s=>match S.bL j with
  |none=> .fail
  |some e=>match e.pat with
   |none=>X5 j e.EU e.kY args s
   |some (c,ec,ko)=>match e.og with
    |[]=>match Q' c args s with
     |true=>X3 j c e.kY ec ko args s
     |false=>S.Bu l args s
    |r::rs=>match KB c e.gh e.wh args s with
     |true=>Rk j e.gU c e.gh (r::rs) args s
     |false=>match ai5 c e.gh e.wh args s with
      |true=>Ln (Ct c.bD) args s fun ac8 s'=>match KB c e.gh e.wh ac8 s' with
       |true=>Rk j e.gU c e.gh (r::rs) ac8 s'
       |false=>S.Bu l args s
      |false=>S.Bu l args s
def Sys.hook (S:Sys) (g:Nat):Option (List W->St->T (W×St)):=match S.BW g with
 |[]=>S.wQ g
 |j::l=>some (match S.wQ g with
  |none=>S.Bu (j::l)
  |some h=>orElse h (S.Bu (j::l)))
def Sys.call (S:Sys):eh:=Ee S.tt S.ft S.hook S.draw S.lf S.depth
def Sys.cfg (S:Sys) (e:zK) (fn:Func):tp:=⟨S.tt,S.call,S.draw S.call e.g,S.lf,fn.results.toList,e.kY,e.ec,e.ko,e.og,e.gU,e.fz,e.Ok⟩
def nw (S:Sys) (e:zK):T Lf:=match S.ft e.g with
 |none=> .fail
 |some fn=>match fn.body with
  |none=> .fail
  |some body=>match e.pos with
   |none=>match e.pat with
    |none=>wD (S.cfg e fn) e.eV 1000 [] body [] ⟨cf (oY e.EU .du 0) 0 .nil,Hp.zero,[]⟩
    |some (c,_,_)=>wD (S.cfg e fn) e.eV 1000 [] body [] c.st
   |some (p,c)=>match oA body p with
    |some (b,fr)=>match b with
     | .loop b=>ML (fun s=>wD (S.cfg e fn) e.eV 1000 (0::p) b (.loop p b::fr) s) e.tst c.st
     |_=> .fail
    |none=> .fail
def Sys.tree (S:Sys) (j:Nat):T Lf:=match S.bL j with
 |none=> .fail
 |some e=>nw S e
end
def H? (S:Sys) (e:zK) (body:Code):Prop:= ∀p l,e.eV p=some l->(∃b fr,oA body p=some (.loop b,fr))/\∀j c,(j,c)∈l->S.bL j=some { e with pos:=some (p,c) }/\ve c.k c=true/\c.k<=900/\e.gU<=c.k
structure EV (S:Sys):Prop where
 tt:ep S.P S.tt
 ft:Ux S.P S.qu S.ft
 draw: ∀(I:bI) call,@gY I S.P call->∀g,@vq I S.P (S.qu g) (S.draw call g)
 wQ: ∀(I:bI),(∀ρ ro h,I.ok ρ ro h->S.G.ok ro h)->∀g h,S.wQ g=some h->@iE I S.P g h
 run: ∀g j,j∈S.BW g->∀(args:Array Value) (w:World),(callFunc g args).run S.P w= .ok (.enter g args) w
 num: ∀g j e,j∈S.BW g->S.bL j=some e->e.g=g/\e.pos=none/\(match e.pat with
  |none=>(oy e.EU).length<=900/\e.og= []
  |some (c,ec,_)=>ve c.k c=true/\c.k<=900/\ec.length=c.dy.length/\(e.og≠[]->FY e.og=true)/\nfs c.dy=true)
 outs: ∀j e,S.bL j=some e->mz e.ko e.ec=true/\e.ko<=900/\e.gU<=900
 bL: ∀j e,S.bL j=some e->∀fn body,S.ft e.g=some fn->fn.body=some body->H? S e body
section
variable {S:Sys}
def ade (S:Sys) (n:Nat):Prop:= ∀g j e,j∈S.BW g->S.bL j=some e->match e.pat with
 |none=>i_ S.P S.G.ok g e.EU e.kY (eG S.tree n j)
 |some (c,ec,ko)=>match e.og with
  |[]=>adb S.P S.G.ok g c e.kY ec ko (eG S.tree n j)
  |r::rs=>ada S.P S.G.ok g c (r::rs) (eG S.tree n j)
def adg (S:Sys) (n:Nat):Prop:= ∀j e p c,S.bL j=some e->e.pos=some (p,c)->ve c.k c=true->c.k<=900->∀fn body b fr,S.ft e.g=some fn->fn.body=some body->oA body p=some (.loop b,fr)->
 ∀(B:l7) (E:En) (a:Act) (w:World) (xs ys:List Int),e.ec.length=B.m->eG S.tree n j xs=some ys->(∀i x,xs[i]?=some x->E.ρ i=x)->xs.length=c.k->kj B E c.st a w->S.G.ok E.ro w.heap->fn.ntmps<=a.tmps.size->a.defers= []->
  EY S.P b (KE S.P (bodyPost S.P fn (QX B e.kY e.ec e.ko e.og ys)) fr) a w
def LfG (gU:Nat) (eV:B4):Lf->Prop
 | .out es=> ∀a e,a<gU->es[a+1]?=some e->e= .du a
 | .jump j es=>(∃p l c,eV p=some l/\(j,c)∈l/\es.length=c.k)/\∀a e,a<gU->es[a]?=some e->e= .du a
theorem G3: ∀{n i:Nat} {ns:List V} {a:Nat} {e:V},a<n->(BA n i ns)[a]?=some e->e= .du (i+a)
 |0,_,_,a,_,h,_=>by omega
 |n+1,i,[],a,e,_,h=>by simp [BA] at h
 |n+1,i,x::ns,0,e,_,h=>by simp [BA] at h; rw [<- h]; rfl
 |n+1,i,x::ns,a+1,e,ha,h=>by
  simp only [BA,aH] at h;rw [G3 (n:=n) J h]
  grind
theorem Ls {gU:Nat} {r:Ren} {a:Nat} {e:V} (ha:a<gU) (h:(qR gU r).ns[a]?=some e):e= .du a:=by
 unfold qR at h;split at h
 ·omega
 ·have:=G3 ha h
  grind
theorem YJ {n m gU:Nat} {s:St} {ρ:Nat->Int} {lf:Lf} {eV:B4} {l:List CS} {k:Nat} (h:(LJ n m gU s l k).leaf ρ=some lf):LfG gU eV lf:=by
 obtain⟨i,c,_,_,_,rfl,_⟩:=CB h;intro a e ha he
 grind [Ls]
theorem sD {m gU:Nat} {s:St} {ρ:Nat->Int} {lf:Lf} {eV:B4} {p:List Nat} {l0:List (Nat×CS)} (hp:eV p=some l0): ∀{l:List (Nat×CS)},(∀x∈l,x∈l0)->(qE m gU s l).leaf ρ=some lf->LfG gU eV lf
 |[],_,h=>by simp [qE,T.leaf] at h
 |(j,c)::l,l8,h=>by
  simp only [qE] at h;split at h
  ·exact sD hp (fun x hx=>l8 x (by simp [hx])) h
  ·split at h
   ·have:=bC h;subst this;exact⟨⟨p,l0,c,hp,l8 _ ad,by rw [uY,sP]⟩,fun a e ha he=>Ls ha he⟩
   ·exact sD hp (fun x hx=>l8 x (by simp [hx])) h
theorem qv {α:Type} {k:St->T α} {ρ:Nat->Int} {x:α}: ∀{ts:List Nat} {s:St},(vh k ts s).leaf ρ=some x->∃s',(k s').leaf ρ=some x
 |[],s,h=> ⟨s,h⟩
 |i::ts,s,h=>by
  simp only [vh] at h;split at h
  ·obtain⟨pc,b,U⟩:=ib h;exact qv U
  ·exact qv h
theorem zP {α:Type} {k:St->T α} {ρ:Nat->Int} {x:α}: ∀{ts:List (Nat×Nat)} {s:St},(ML k ts s).leaf ρ=some x->∃s',(k s').leaf ρ=some x
 |[],s,h=> ⟨s,h⟩
 |(t,g)::ts,s,h=>by
  simp only [ML] at h;split at h
  ·obtain⟨pc,b,U⟩:=ib h;exact zP U
  ·exact zP h
theorem GX {α:Type} {ρ:Nat->Int} {v:W} {s:St} {k:W->St->T α} {x:α} (h:(Oj v s k).leaf ρ=some x): ∃v s,(k v s).leaf ρ=some x:=by
 unfold Oj at h;split at h
 ·split at h
  ·unfold xj at h;obtain⟨_,b1,h⟩:=ib h
   cases b1 with
   |true=>simp [T.leaf] at h
   |false=>
    obtain⟨_,b2,h⟩:=ib h
    cases b2 with
    |true=>simp [T.leaf] at h
    |false=>
     obtain⟨_,b3,h⟩:=ib h
     cases b3 with
     |true=>simp [T.leaf] at h
     |false=>exact⟨_,_,h⟩
  grind
 grind
theorem DX {α:Type} {ρ:Nat->Int} {x:α}: ∀{vs:List W} {s:St} {k:List W->St->T α},(GW vs s k).leaf ρ=some x->∃vs s,(k vs s).leaf ρ=some x
 |[],s,k,h=> ⟨_,_,h⟩
 |v::vs,s,k,h=>by
  simp only [GW] at h;obtain⟨_,_,h⟩:=GX h;obtain⟨_,_,h⟩:=DX h
  grind
theorem Dj {α:Type} {ρ:Nat->Int} {x:α} {t:Nat}: ∀{ov:List (V×List W)} {e:V} {s:St} {k:V->St->T α},(F8 t ov e s k).leaf ρ=some x->∃e s,(k e s).leaf ρ=some x
 |[],e,s,k,h=> ⟨_,_,h⟩
 |(j,cs)::ov,e,s,k,h=>by
  simp only [F8] at h;obtain⟨_,_,h⟩:=Dj h
  grind [DX,T.leaf]
theorem TY {α:Type} {ρ:Nat->Int} {v:W} {s:St} {k:W->St->T α} {x:α} (h:(Oi v s k).leaf ρ=some x): ∃v s,(k v s).leaf ρ=some x:=by
 grind [Oi,Dj,T.leaf,GX]
theorem GV {α:Type} {ρ:Nat->Int} {x:α} {k:List W->St->T α}: ∀{fz:List (Nat×Nat×Nat)} {vs:List W} {s:St},(Ln fz vs s k).leaf ρ=some x->∃vs s,(k vs s).leaf ρ=some x
 |[],vs,s,h=> ⟨_,_,h⟩
 |(i,f,t)::l,vs,s,h=>by
  simp only [Ln] at h;split at h
  ·split at h
   ·obtain⟨_,_,h⟩:=TY h;split at h
    ·exact GV h
    grind [T.leaf]
   grind [T.leaf]
  grind [T.leaf]
theorem YK {g:tp} {eV:B4} {e:Ex} {s:St} {ρ:Nat->Int} {lf:Lf} (hr:g.og≠[]) (h:(YL g e s).leaf ρ=some lf):LfG g.gU eV lf:=by
 unfold YL at h
 grind [T.leaf,GV,YJ]
theorem RA {g:tp} {eV:B4} {ρ:Nat->Int} (hr:g.og≠[]): ∀n:Nat,
 (∀p c fr s lf,(wD g eV n p c fr s).leaf ρ=some lf->LfG g.gU eV lf)/\
 (∀fr e s lf,(sR g eV n fr e s).leaf ρ=some lf->LfG g.gU eV lf)
 |0=> ⟨fun _ _ _ _ _ h=>by simp [wD,T.leaf] at h,fun _ _ _ _ h=>by simp [sR,T.leaf] at h⟩
 |n+1=>by
  obtain⟨Mv,vO⟩:=RA hr n
  have aiC:G7 g=false:=by
   cases ho:G7 g with
   |false=>rfl
   |true=>exact absurd (D1 ho).2 hr
  have hfo: ∀(c:Code) (s:St) (k:St->T Lf),T0 g c s k=k s:=fun c s k=>by unfold T0; rw [aiC]; cases hq:g.og with |nil=>exact absurd hq hr|cons _ _=>rfl
  have hpo: ∀(p:List Nat) (s:St) (k:St->T Lf),Tp g p s k=k s:=fun p s k=>by unfold Tp; rw [aiC]
  have lfc: ∀(c:Code) fr s lf,((g.ev c s).bind fun (e,s')=>sR g eV n fr e s').leaf ρ=some lf->LfG g.gU eV lf:=by intro c fr s lf h;obtain⟨⟨e,s'⟩,_,Z⟩:=T.eX h;exact vO _ _ _ _ Z
  constructor
  ·intro p c fr s lf h;unfold wD at h;split at h
   ·rename_i l hl;rw [hpo] at h;obtain⟨s',U⟩:=qv h;exact sD hl (fun _ h=>h) U
   ·split at h
    ·grind
    ·grind
    ·grind
    ·split at h
     ·obtain⟨pc,b,U⟩:=ib h
      grind
     grind [T.leaf]
    ·rw [hfo] at h;exact lfc _ _ _ _ h
  ·intro fr e s lf h;unfold sR at h;split at h
   ·exact YK hr h
   ·grind
   ·grind
   ·split at h
    ·split at h
     ·rename_i l hl;rw [hpo] at h;obtain⟨s',U⟩:=qv h;exact sD hl (fun _ h=>h) U
     grind [T.leaf]
    grind
   grind
theorem BI {e:zK} {ρ:Nat->Int} {lf:Lf} (hr:e.og≠[]) (h:(nw S e).leaf ρ=some lf): ∃fn body,S.ft e.g=some fn/\fn.body=some body/\LfG e.gU e.eV lf:=by
 unfold nw at h;split at h
 ·simp [T.leaf] at h
 ·rename_i fn tA;split at h
  ·simp [T.leaf] at h
  ·rename_i body Y;refine⟨fn,body,tA,Y,?_⟩;have key: ∀n p c fr s,(wD (S.cfg e fn) e.eV n p c fr s).leaf ρ=some lf->LfG e.gU e.eV lf:=fun n p c fr s h=>(RA (g:=S.cfg e fn) hr n).1 _ _ _ _ _ h;split at h
   ·grind
   ·split at h
    ·split at h
     ·obtain⟨s',U⟩:=zP h
      grind
     ·simp [T.leaf] at h
    ·simp [T.leaf] at h
theorem H6 (hs:EV S): ∀(n j:Nat) (e:zK) (xs ys:List Int),S.bL j=some e->e.og≠[]->eG S.tree n j xs=some ys->∀a y,a<e.gU->ys[a+1]?=some y->y=low xs a
 |0,_,_,_,_,_,_,h=>by simp [eG] at h
 |n+1,j,e,xs,ys,he,hr,h=>by
  intro a y ha hy;obtain⟨_,_,hg⟩:=hs.outs j e he;have GL:S.tree j=nw S e:=by unfold Sys.tree; rw [he]
  simp only [eG,GL] at h;split at h
  ·grind
  ·rename_i es hl;obtain⟨_,_,_,_,pL⟩:=BI hr hl;simp only [ag] at h;subst h;rw [bn,aO] at hy;obtain⟨x,hx,rfl⟩:=hy;rw [pL a x ha hx];show cX _ _ a=_
   grind [rO]
  ·rename_i j' es hl;obtain⟨fn,body,tA,Y,⟨p,l,c,hp,hc,hlen⟩,pL⟩:=BI hr hl;obtain⟨_,hh⟩:=hs.bL j e he fn body tA Y p l hp;obtain⟨q1,_,_,q4⟩:=hh j' c hc;have:=H6 hs n j' _ _ ys q1 hr h a y ha hy;rw [this];have Ob:a<es.length:=J
   have hx:=aM Ob;unfold low;rw [anp,bn,hx];show (es[a]).den _=_;rw [pL a _ ha hx];show cX _ _ a=_
   grind [rO]
theorem kV.mono {P:Program} {g:FuncId} {vals:Array Value} {w:World} {R R':Value->World->Prop} (h:kV P g vals w R) (k: ∀u w',R u w'->R' u w'):kV P g vals w R':=by
 unfold kV at h ⊢;unfold mR at h ⊢;split at h
 ·grind
 ·exact Calls.mono h fun e w' ⟨u,he,hr⟩=> ⟨u,he,k _ _ hr⟩
 grind
theorem aaK (hs:EV S) {n:Nat} (h:ade S n):@gY (S.G.iT (eG S.tree n)) S.P S.call:=by
 letI I:=S.G.iT (eG S.tree n);have a1: ∀ρ ro h,I.ok ρ ro h->S.G.ok ro h:=fun _ _ _ h=>h.1;have a2: ∀ρ ro h,I.ok ρ ro h->Good (eG S.tree n) ρ:=fun _ _ _ h=>h.2;refine s5 hs.tt hs.ft (hook:=S.hook) ?_ (fun call hc g=>hs.draw I call hc g) S.lf S.depth
 have hL: ∀g l,(∀j∈l,j∈S.BW g)->@iE I S.P g (S.Bu l):=by
  intro g l
  induction l with
  |nil=>
   intro _ al5 s E w vals v s' r hv hp hl
   grind [Sys.Bu,T.leaf]
  |cons j l ih=>
   intro l8 al5 s E w vals v s' r hv hp hl;have hj:=l8 j ad;simp only [Sys.Bu] at hl;split at hl
   ·grind [T.leaf]
   ·rename_i e he;have uH:=h g j e hj he;obtain⟨_,_,DK⟩:=hs.num g j e hj he;obtain⟨ho1,ho2,_⟩:=hs.outs j e he
    cases sG:e.pat with
    |none=> rw [sG] at hl uH;exact @X4 S.P I S.G.ok a1 (eG S.tree n) a2 g j e.EU e.kY uH (hs.run g j hj) al5 s E w vals v s' r hv hp hl
    |some q=>
     obtain⟨c,ec,ko⟩:=q;rw [sG] at hl uH DK;simp only at hl uH DK;unfold zK.ec zK.ko at ho1;unfold zK.ko at ho2;rw [sG] at ho1 ho2
     cases At:e.og with
     |nil=>
      rw [At] at hl uH;simp only at hl uH;split at hl
      ·exact @X2 S.P I S.G.ok a1 (eG S.tree n) a2 g j c e.kY ec ko ho1 ho2 DK.2.2.1 uH (hs.run g j hj) al5 s E w vals v s' r hv hp hl
      ·exact ih (fun j hj=>l8 j (by simp [hj])) al5 s E w vals v s' r hv hp hl
     |cons r0 rs=>
      rw [At] at hl uH;simp only at hl uH;have hrp:=DK.2.2.2.1 (by rw [At]; simp);rw [At] at hrp;split at hl
      ·exact @K6 S.P I S.G.ok a1 (eG S.tree n) a2 g j c e.gh e.gU (r0::rs) hrp (fun xs ys h=>H6 hs n j e xs ys he (by rw [At]; simp) h) uH (hs.run g j hj) al5 s E w vals v s' r hv hp hl
      ·split at hl
       ·obtain⟨as1,U,fA,E1,fj,f,Rg,hl⟩:=IT rfl r hp hv hl;split at hl
        ·rw [<- f.ρ] at hl fj;have:=@K6 S.P I S.G.ok a1 (eG S.tree n) a2 g j c e.gh e.gU (r0::rs) hrp (fun xs ys h=>H6 hs n j e xs ys he (by rw [At]; simp) h) uH (hs.run g j hj) as1 { s with h:=U,pc:=fA } E1 w vals v s' f.rel Rg fj hl;obtain⟨k1,k2,k3⟩:=this;rw [f.ρ] at k2;exact⟨k1,k2,kV.mono k3 fun u w' ⟨E2,q1,q2,q3⟩=> ⟨E2,f.ei.trans q1,q2,q3⟩⟩
        ·exact ih (fun j hj=>l8 j (by simp [hj])) al5 s E w vals v s' r hv hp hl
       ·exact ih (fun j hj=>l8 j (by simp [hj])) al5 s E w vals v s' r hv hp hl
 intro g f hf;unfold Sys.hook at hf;split at hf
 ·exact hs.wQ I a1 g f hf
 ·rename_i j l hj;simp only [ag] at hf;subst hf;have Z:=hL g (j::l) (by rw [hj]; exact fun _ h=>h);split
  ·exact Z
  ·rename_i h0 hh;exact mZ (hs.wQ I a1 g h0 hh) Z
theorem NU (hs:EV S) {n:Nat} (h:adg S n) {j:Nat} {e:zK} (he:S.bL j=some e) {fn:Func} {body:Code} (tA:S.ft e.g=some fn) (Y:fn.body=some body) (B:l7) (hm:e.ec.length=B.m) (ys:List Int) :
 @o? (S.G.iT (eG S.tree n)) S.P body fn.ntmps B (bodyPost S.P fn (QX B e.kY e.ec e.ko e.og ys)) (eG S.tree n) ys e.eV:=by
 intro p l hp;obtain⟨⟨b,fr,hl⟩,hh⟩:=hs.bL j e he fn body tA Y p l hp;refine⟨b,fr,hl,fun j' c hc E a w t hg ⟨xs,U,Z,h3,h4⟩ hN hd=>?_⟩;obtain⟨q1,q2,q3,_⟩:=hh j' c hc;exact h j' { e with pos:=some (p,c) } p c q1 rfl q2 q3 fn body b fr tA Y hl B E a w xs ys hm h4 U Z t hg.1 hN hd
theorem Xv {F:nT} {E:En} {xs:List Int} {k:Nat} (h: ∀i x,xs[i]?=some x->E.ρ i=x) (hk:xs.length=k) (h9:k<=900): ∀i,i<k->cX F (low xs) i=E.ρ i:=by
 intro i hi
 grind [rO,low]
theorem Ix {tree:Nat->T Lf} {n j:Nat} {xs ys:List Int} (h:eG tree (n+1) j xs=some ys): ∃lf,(tree j).leaf (cX (eG tree n) (low xs))=some lf/\Ml (eG tree n) (cX (eG tree n) (low xs)) ys lf:=by
 simp only [eG] at h;split at h
 ·grind
 ·rename_i es hl;simp only [ag] at h;exact⟨_,hl,h⟩
 ·rename_i j' es hl;exact⟨_,hl,h⟩
theorem QE.spec {w:World} {ro:Nat->Prop} {θ:Nat->Nat×Nat} {κ:Nat->Nat} {kY:List RK} {ys:List Int} {e:Ending} {w':World} (h:QE ⟨w,ro,0,θ,κ⟩ kY [] 0 ys e w') :
 ∃u,e= .returned u/\Below w.heap.size w w'/\∃mb:Nat->Prop,(∀b,ro b->mb b)/\(∀b,mb b->ro b\/w.heap.size<=b)/\(∀b,mb b->b<w'.heap.size)/\aaX kY ys mb w'.heap u:=by
 obtain⟨u,q1,q2,mb,q3,q4,q5,_,_,q6⟩:=h;exact⟨u,q1,⟨q2.os,q2.tape,q2.output,q2.size,fun k hk=>q2.nW k hk fun⟨i,hi,_⟩=>absurd hi (by show ¬i<0; omega)⟩,mb,q3,q4,q5,q6⟩
theorem Bel.refl {B:l7}:Bel B B.w0:=⟨rfl,rfl,rfl,au _,fun _ _ _=>rfl⟩
theorem vp.grow {E:En} {s:St} {w:World} {vals:List Value} (f:vp E s { tmps:=vals.toArray,defers:=[] } w) (n:Nat):vp E s { tmps:=vals.toArray++Array.replicate n undef,defers:=[] } w:=by
 refine⟨f.fresh,f.res,f.live,f.inj,f.pS,fun t v ht=>?_,f.pc,f.hid⟩;obtain⟨u,U,Z⟩:=f.sr t v ht
 grind
theorem vp.hd0 {E:En} {s:St} {a:Act} {w:World} (f:vp E s a w) (hn: ∀id o,s.h.get id=some o->nf o=true):vp { E with hd:=fun _=>none } s a w:=by
 have k:fg E w.heap { E with hd:=fun _=>none } w.heap:=⟨rfl,fun _ h=>h,fun _ _=>rfl,fun _ _=>rfl,fun _ h=>h,fun _ _=>rfl⟩;refine⟨f.fresh,f.res,fun id o ho=>?_,f.inj,f.pS,fun t v ht=>?_,f.pc,fun b x Y=>by simp at Y⟩
 ·obtain⟨U,Z,h3⟩:=f.live id o ho;exact⟨U,Z.abR k U rfl (hn id o ho),h3⟩
 ·obtain⟨u,U,Z⟩:=f.sr t v ht;exact⟨u,U,VR.bX k _ _ Z⟩
theorem Wv (hs:EV S): ∀n:Nat,ade S n/\adg S n
 |0=> ⟨fun g j e _ _=>by
  cases e.pat with
  |none=>exact fun xs ys h=>by simp [eG] at h
  |some q=>
   obtain⟨c,ec,ko⟩:=q
   cases e.og with
   |nil=>exact fun xs ys h=>by simp [eG] at h
   |cons r rs=>exact fun xs ys h=>by simp [eG] at h,fun j e p c _ _ _ _ fn body b fr _ _ _ B E a w xs ys _ h=>by simp [eG] at h⟩
 |n+1=>by
  obtain⟨Mv,vO⟩:=Wv hs n;letI I:=S.G.iT (eG S.tree n);have Rv:=aaK hs Mv;have b_: ∀(e:zK) (fn:Func),Pt S.P (S.cfg e fn) (S.qu e.g):=fun e fn=> ⟨hs.tt,Rv,hs.draw I S.call Rv e.g⟩;constructor
  ·intro g j e hn he;obtain⟨hg,lA,DK⟩:=hs.num g j e hn he;obtain⟨nV,u_,_⟩:=hs.outs j e he;have GL:S.tree j=nw S e:=by unfold Sys.tree; rw [he]
   cases sG:e.pat with
   |none=>
    rw [sG] at DK;simp only at DK ⊢;intro xs ys hx ro w vals fl kO Lg sh hc;obtain⟨lf,U,Z⟩:=Ix hx;rw [GL] at U;unfold nw at U
    cases tA:S.ft e.g with
    |none=>rw [tA] at U; simp [T.leaf] at U
    |some fn=>
     rw [tA] at U
     cases Y:fn.body with
     |none=>simp only [Y] at U; simp [T.leaf] at U
     |some body=>
      simp only [Y,lA,sG] at U;obtain⟨hf,_,hd⟩:=hs.ft e.g fn tA;rw [hg] at hf;have mG:=hd body Y;have hlx:=hc.length.1;have JO:e.ec= []:=by unfold zK.ec; rw [sG]
      have Yc:e.ko=0:=by unfold zK.ko; rw [sG]
      have hvr:cB (En.zero (cX (eG S.tree n) (low xs)) ro) w.heap (oY e.EU .du 0) vals:=by
       refine rF sh hc fun k x hk=>?_;have JP:=(aW.1 hk).1;rw [ay];show cX _ _ k=x
       grind [rO,low]
      have oo:I.ok (cX (eG S.tree n) (low xs)) ro w.heap:=⟨Lg,kH _ _⟩;let B:l7:=⟨w,ro,0,fun _=>(0,0),fun _=>0⟩
      have t0:kj B (En.zero (cX (eG S.tree n) (low xs)) ro) ⟨cf (oY e.EU .du 0) 0 .nil,Hp.zero,[]⟩ { tmps:=vals.toArray++Array.replicate (fn.ntmps-vals.toArray.size) undef,defers:=[] } w:=by
       have fit:Fit (En.zero (cX (eG S.tree n) (low xs)) ro) ⟨cf (oY e.EU .du 0) 0 .nil,Hp.zero,[]⟩ { tmps:=vals.toArray++Array.replicate (fn.ntmps-vals.toArray.size) undef,defers:=[] } w:=
        ⟨CH _ ro w kO oo,yJ hvr _,by intro c b h; simp at h⟩
       exact⟨fit.x,fun _ h=>h,fun _ h=> .inl h,Bel.refl,fun id o h=>by simp [Hp.zero,Hp.get,Tr.get] at h,fun i hi=>absurd hi (by show ¬i<0; omega),fun b x Y=>by simp [En.zero] at Y⟩
      refine Calls.mono (calls_of_wp (R:=QX B e.kY e.ec e.ko e.og ys) hf Y ?_) fun e' w' hq=>QE.spec (w:=w) (ro:=ro) (θ:=fun _=>(0,0)) (κ:=fun _=>0) (by rw [JO,Yc,DK.2] at hq; exact hq);exact (IN (B:=B) (b_ e fn) mG rfl (by show e.ec.length=0; rw [JO]; rfl) nV u_ (NU hs vO he tA Y B (by show e.ec.length=0; rw [JO]; rfl) ys) 1000).1 [] body [] _ lf _ _ w rfl U Z t0 oo (by simp; omega) rfl
   |some q=>
    obtain⟨c,ec,ko⟩:=q;rw [sG] at DK;simp only at DK ⊢;obtain⟨aiO,hc9,hom,hrp,hnf⟩:=DK
    have main: ∀xs ys,eG S.tree (n+1) j xs=some ys->∀(E:En) (w:World) (vals:List Value),(∀i x,xs[i]?=some x->E.ρ i=x)->xs.length=c.k->vp E c.st { tmps:=vals.toArray,defers:=[] } w->S.G.ok E.ro w.heap->
     Calls S.P g vals.toArray w (QX ⟨w,E.ro,c.dy.length,E.θ,E.κ⟩ e.kY ec ko e.og ys):=?_
    ·cases At:e.og with
     |nil=> simp only;intro xs ys hx E w vals mJ hlen fx Lg;have:=main xs ys hx E w vals mJ hlen fx Lg;rw [At] at this;exact this
     |cons r0 rs=> simp only;intro xs ys hx E w vals mJ hlen fx Lg;have:=main xs ys hx E w vals mJ hlen fx Lg;rw [At] at this;exact this
    intro xs ys hx E0 w vals mJ hlen fx0 Lg
    have fx:=fx0.hd0 fun id o ho=>by
     have:(nY c.dy 0 .nil).get id=some o:=ho;rw [jb] at this;split at this
     ·exact Io hnf this
     ·simp [Tr.get] at this
    have hE: ∃E:En,E= { E0 with hd:=fun _=>none }:=⟨_,rfl⟩;obtain⟨E,hE⟩:=hE;rw [<- hE] at fx;have mJ: ∀i x,xs[i]?=some x->E.ρ i=x:=by rw [hE]; exact mJ
    have Lg:S.G.ok E.ro w.heap:=by rw [hE]; exact Lg
    have hEd:E.hd=fun _=>none:=by rw [hE]
    suffices Calls S.P g vals.toArray w (QX ⟨w,E.ro,c.dy.length,E.θ,E.κ⟩ e.kY ec ko e.og ys) by rw [hE] at this; exact this
    obtain⟨lf,U,Z⟩:=Ix hx;rw [GL] at U;unfold nw at U
    cases tA:S.ft e.g with
    |none=>rw [tA] at U; simp [T.leaf] at U
    |some fn=>
     rw [tA] at U
     cases Y:fn.body with
     |none=>simp only [Y] at U; simp [T.leaf] at U
     |some body=>
      simp only [Y,lA,sG] at U;obtain⟨hf,_,hd⟩:=hs.ft e.g fn tA;rw [hg] at hf;have mG:=hd body Y;have JO:e.ec=ec:=by unfold zK.ec; rw [sG]
      have Yc:e.ko=ko:=by unfold zK.ko; rw [sG]
      let B:l7:=⟨w,E.ro,c.dy.length,E.θ,E.κ⟩
      have akZ: ∀id o,c.st.h.get id=some o->id<c.dy.length:=by
       intro id o ho;have:(nY c.dy 0 .nil).get id=some o:=ho
       grind [jb,Tr.get]
      have akT: ∀id,id<c.dy.length->∃o,c.st.h.get id=some o:=by
       intro id hid;refine⟨c.dy[id],?_⟩;show (nY c.dy 0 .nil).get id=_
       grind [jb]
      have t1:kj B E c.st { tmps:=vals.toArray++Array.replicate (fn.ntmps-vals.toArray.size) undef,defers:=[] } w:=by refine⟨fx.grow _,fun _ h=>h,fun _ h=> .inl h,Bel.refl,fun id o h=> .inr ⟨id,akZ id o h,rfl⟩,fun i hi=>?_,fun b x Y=>by rw [hEd] at Y; simp at Y⟩;obtain⟨o,ho⟩:=akT i hi;exact⟨(fx.live i o ho).1,rfl,rfl⟩
      have t0:=t1.low (ρ':=cX (eG S.tree n) (low xs)) aiO (Xv mJ hlen hc9);have oo:I.ok (cX (eG S.tree n) (low xs)) E.ro w.heap:=⟨Lg,kH _ _⟩;have hm:e.ec.length=B.m:=by rw [JO]; exact hom
      have hw:=(IN (B:=B) (b_ e fn) mG rfl hm nV u_ (NU hs vO he tA Y B hm ys) 1000).1 [] body [] _ lf { E with ρ:=cX (eG S.tree n) (low xs) } _ w rfl U Z t0 oo (by simp; omega) rfl;have hw':=calls_of_wp (R:=QX B e.kY e.ec e.ko e.og ys) hf Y hw
      grind
  ·intro j e p c he lA akR h9 fn body b fr tA Y hl B E a w xs ys hm hx mJ hlen t Lg hN Cq;obtain⟨nV,u_,_⟩:=hs.outs j e he;obtain⟨lf,U,Z⟩:=Ix hx;have GL:S.tree j=nw S e:=by unfold Sys.tree; rw [he]
   rw [GL] at U;unfold nw at U;simp only [tA,Y,lA,hl] at U;obtain⟨hf,_,hd⟩:=hs.ft e.g fn tA;have mG:=hd body Y;have t':=t.low (ρ':=cX (eG S.tree n) (low xs)) akR (Xv mJ hlen h9);have oo:I.ok (cX (eG S.tree n) (low xs)) E.ro w.heap:=⟨Lg,kH _ _⟩;refine NP ?_;obtain⟨s2,t2,UJ⟩:=HI (E:={ E with ρ:=cX (eG S.tree n) (low xs) }) U t';exact (IN (B:=B) (b_ e fn) mG rfl hm nV u_ (NU hs vO he tA Y B hm ys) 1000).1 (0::p) b (.loop p b::fr) s2 lf { E with ρ:=cX (eG S.tree n) (low xs) } a w (by simp only [oA,hl]) UJ Z t2 oo hN Cq
theorem Wu (hs:EV S) {g j:Nat} {e:zK} (hn:j∈S.BW g) (he:S.bL j=some e) (hp:e.pat=none) (n:Nat):i_ S.P S.G.ok g e.EU e.kY (eG S.tree n j):=by
 have:=(Wv hs n).1 g j e hn he
 grind
end
end Go.As
end
section
namespace Go.As
open Go.RowKit
def BB:List (Nat×Nat)->Nat->Option Nat
 |[],_=>none
 |(t,k)::l,x=>match Nat.beq t x with
  |true=>some k
  |false=>BB l x
def KD (l:List (Nat×Nat)) (tt:TT):TT:=fun t=>match tt t with
 |some i=>some { i with own:=BB l t }
 |none=>none
section
variable {P:Program}
theorem Q! {l:List (Nat×Nat)} {tt:TT} (h:ep P tt):ep P (KD l tt):=by
 intro t i hi;unfold KD at hi;split at hi
 ·rename_i j hj;simp only [ag] at hi;subst hi;obtain⟨U,Z⟩:=h t j hj;exact⟨U,Z⟩
 grind
theorem NS (l:List (Nat×Nat)) (tt:TT):kindOf (KD l tt)=kindOf tt:=by
 funext op;cases op
 case convert t u x=>
  simp only [kindOf,KD]
  cases ht:tt t with
  |none=>rfl
  |some i=>
   grind
 all_goals rfl
theorem GD (l:List (Nat×Nat)) (tt:TT) (all:List Oper) (ms:List Nat): ∀(os:List Oper) (i n:Nat),items (KD l tt) all ms os i n=items tt all ms os i n
 |[],_,_=>rfl
 |o::os,i,n=>by simp only [items,NS,GD l tt all ms os]
theorem WB (l:List (Nat×Nat)) (tt:TT) (all:List Oper):stat (KD l tt) all=stat tt all:=by
 unfold stat
 simp only [GD]
theorem a! (l:List (Nat×Nat)) (tt:TT) (H:Nat->Nat->Option zF):JC (KD l tt) H=JC tt H:=by funext g id all;unfold JC;simp only [uK,WB]
end
structure FE where
 no:Nat
 g:Nat
 EU:List RK
 kY:List RK
 pat:Option (CS×List dG×Nat):=none
 og:List CS:=[]
 gh:List (Nat×Nat):=[]
 wh:List Nat:=[]
 gU:Nat:=0
 tst:List (Nat×Nat):=[]
 fz:List (Nat×Nat×Nat):=[]
 Ok:List FH:=[]
 loops:List (List Nat×CS):=[]
def idxs (p:List Nat):List (List Nat×CS)->Nat->List (Nat×CS)
 |[],_=>[]
 |(q,c)::l,j=>match gD q p with
  |true=>(j,c)::idxs p l (j+1)
  |false=>idxs p l (j+1)
def FE.eV (f:FE):B4:=fun p=>match idxs p f.loops (f.no+1) with
 |[]=>none
 |x::l=>some (x::l)
def FE.ent (f:FE):zK:=⟨f.g,f.EU,f.kY,f.eV,none,f.pat,f.og,f.gh,f.wh,f.gU,f.tst,f.fz,f.Ok⟩
def tI (t:Nat->Option FE) (j:Nat):Option zK:=match t (j / 50) with
 |none=>none
 |some f=>match j % 50 with
  |0=>some f.ent
  |i+1=>match eS f.loops i with
   |some x=>some { f.ent with pos:=some x }
   |none=>none
def XP:Option (Code×List FrE)->Bool
 |some (c,_)=>match c with
  | .loop _=>true
  |_=>false
 |none=>false
def It (gU:Nat) (body:Code) (x:List Nat×CS):Bool:=XP (oA body x.1)&&ve x.2.k x.2&&Nat.ble x.2.k 900&&Nat.ble gU x.2.k
def ah9 {α:Type}:List α->Bool
 |[]=>true
 |_=>false
def Yz (ft:Nat->Option Func) (k:Nat) (f:FE):Bool:=Nat.beq f.no (50*k)&&Nat.blt f.loops.length 50&&Nat.ble f.gU 900&&
 (match f.pat with
  |none=>Nat.ble (oy f.EU).length 900&&ah9 f.og
  |some (c,ec,ko)=>ve c.k c&&Nat.ble c.k 900&&Nat.beq ec.length c.dy.length&&FY f.og&&mz ko ec&&Nat.ble ko 900&&nfs c.dy)&&
 (match ft f.g with
  |some fn=>match fn.body with
   |some body=>f.loops.all (It f.gU body)
   |none=>false
  |none=>false)
def KK (ft:Nat->Option Func) (t:Nat->Option FE) (g:Nat) (l:List Nat):Bool:=
 l.all fun j=>Nat.beq (j % 50) 0&&match t (j / 50) with
  |some f=>Nat.beq f.g g&&(match ft g with
   |some fn=>fn.body.isSome
   |none=>false)
  |none=>false
theorem Ek: ∀{a b:List Nat},gD a b=true->a=b
 |[],[],_=>rfl
 |[],_::_,h=>by simp [gD] at h
 |_::_,[],h=>by simp [gD] at h
 |a::x,b::y,h=>by
  simp only [gD] at h;split at h
  ·rename_i U;rw [aq U,Ek h]
  grind
theorem yK {p:List Nat}: ∀{l:List (List Nat×CS)} {n j:Nat} {c:CS},(j,c)∈idxs p l n->∃i,l[i]?=some (p,c)/\j=n+i
 |[],n,j,c,h=>by simp [idxs] at h
 |(q,c0)::l,n,j,c,h=>by
  simp only [idxs] at h;split at h
  ·rename_i hq;rcases aw.1 h with h|h
   ·simp only [ak] at h;obtain⟨rfl,rfl⟩:=h;exact⟨0,by rw [Ek hq]; rfl,rfl⟩
   ·obtain⟨i,U,Z⟩:=yK h;exact⟨i+1,by simpa using U,J⟩
  ·obtain⟨i,U,Z⟩:=yK h;exact⟨i+1,by simpa using U,J⟩
structure Up where
 P:Program
 G:Mm
 tt:TT
 ft:Nat->Option Func
 qu:Nat->Nat->List Oper->Bool
 draw:eh->Nat->Nat->List Oper->St->T St
 wQ:Nat->Option (List W->St->T (W×St))
 t:Nat->Option FE
 BW:Nat->List Nat
noncomputable def Up.sys (S:Up):Sys:=⟨S.P,S.G,S.tt,S.ft,S.qu,S.draw,S.wQ,40,60,S.BW,tI S.t⟩
theorem El {t:Nat->Option FE} {j:Nat} {e:zK} (h:tI t j=some e): ∃f pos,t (j / 50)=some f/\e= { f.ent with pos:=pos }:=by
 unfold tI at h;split at h
 ·grind
 ·rename_i f hf;split at h
  ·simp only [ag] at h;exact⟨f,none,hf,h.symm⟩
  grind
theorem J' {S:Up} (U:ep S.P S.tt) (Z:Ux S.P S.qu S.ft) (h3: ∀(I:bI) call,@gY I S.P call->∀g,@vq I S.P (S.qu g) (S.draw call g)) (h4: ∀(I:bI),(∀ρ ro h,I.ok ρ ro h->S.G.ok ro h)->∀g h,S.wQ g=some h->@iE I S.P g h)
 (h5: ∀k f,S.t k=some f->Yz S.ft k f=true) (h6: ∀g,KK S.ft S.t g (S.BW g)=true):EV S.sys where
 tt:=U
 ft:=Z
 draw:=h3
 wQ:=h4
 run:=by
  intro g j hj args w;have hn:=h6 g;unfold KK at hn;have:=aR.1 hn j hj;simp only [an] at this;obtain⟨_,h⟩:=this;split at h
  ·simp only [an] at h;obtain⟨_,h⟩:=h;split at h
   ·rename_i fn tA;obtain⟨q1,q2,_⟩:=Z g fn tA;obtain⟨c,Y⟩:=amy.1 h;unfold callFunc;simp [Up.sys,q1,Y,by simpa using q2]
   ·simp at h
  ·simp at h
 num:=by
  intro g j e hj he;have hn:=h6 g;unfold KK at hn;have:=aR.1 hn j hj;simp only [an] at this;obtain⟨hm,h⟩:=this;have hm:=aq hm;have wB:tI S.t j=some e:=he;unfold tI at wB;split at h
  ·rename_i f hf;rw [hf,hm] at wB;simp only [ag] at wB;subst wB;simp only [an] at h;have oL:=h5 _ _ hf;unfold Yz at oL;simp only [an] at oL;obtain⟨⟨_,hp⟩,_⟩:=oL;refine⟨aq h.1,rfl,?_⟩
   show (match f.pat with
    |none=>_
    |some (c,ec,_)=>_)
   cases sG:f.pat with
   |none=>
    rw [sG] at hp;simp only [an] at hp;refine⟨amf hp.1,?_⟩;show f.og= []
    cases hr:f.og with
    |nil=>rfl
    |cons a l=>rw [hr] at hp; simp [ah9] at hp
   |some q=> obtain⟨c,ec,ko⟩:=q;rw [sG] at hp;simp only [an] at hp;obtain⟨⟨⟨⟨⟨⟨p1,p2⟩,p3⟩,p4⟩,_⟩,_⟩,p7⟩:=hp;exact⟨p1,amf p2,aq p3,fun _=>p4,p7⟩
  ·simp at h
 outs:=by
  intro j e he;obtain⟨f,pos,hf,rfl⟩:=El he;have oL:=h5 _ _ hf;unfold Yz at oL;simp only [an] at oL;obtain⟨⟨⟨_,hg⟩,hp⟩,_⟩:=oL;refine⟨?_,?_,amf hg⟩
  ·unfold zK.ec zK.ko;show mz (match f.pat with |none=>0|some (_,_,k)=>k) (match f.pat with |none=>[]|some (_,o,_)=>o)=true
   cases sG:f.pat with
   |none=>rfl
   |some q=> obtain⟨c,ec,ko⟩:=q;rw [sG] at hp;simp only [an] at hp;exact hp.1.1.2
  ·unfold zK.ko;show (match f.pat with |none=>0|some (_,_,k)=>k)<=900
   cases sG:f.pat with
   |none=>exact aml _
   |some q=> obtain⟨c,ec,ko⟩:=q;rw [sG] at hp;simp only [an] at hp;exact amf hp.1.2
 bL:=by
  intro j e he fn body tA Y;obtain⟨f,pos,hf,rfl⟩:=El he;have oL:=h5 _ _ hf;unfold Yz at oL;simp only [an] at oL;obtain⟨⟨⟨⟨GM,hlen⟩,_⟩,_⟩,hl⟩:=oL;have GM:=aq GM;have hlen:f.loops.length<50:=Nat.lt_of_succ_le (by simpa [Nat.blt] using hlen);have ak3:S.ft f.g=some fn:=tA;rw [ak3] at hl;simp only [Y] at hl;intro p l hp;have fh:f.eV p=some l:=hp
  have hl0:l=idxs p f.loops (f.no+1)/\l≠[]:=by
   unfold FE.eV at fh;split at fh
   ·simp at fh
   ·rename_i x l' hx;simp only [ag] at fh;rw [hx,fh];exact⟨rfl,by rw [<- fh]; simp⟩
  have mE: ∀i c,f.loops[i]?=some (p,c)->It f.gU body (p,c)=true:=fun i c hi=>aR.1 hl _ (bu hi);constructor
  ·obtain⟨Ax,hl2⟩:=hl0
   cases hc:l with
   |nil=>exact absurd hc hl2
   |cons x l'=>
    obtain⟨j',c⟩:=x;have:(j',c)∈idxs p f.loops (f.no+1):=by rw [<- Ax,hc]; simp
    obtain⟨i,hi,_⟩:=yK this;have:=mE i c hi;unfold It at this;simp only [an] at this;have hi:=this.1.1.1;unfold XP at hi;split at hi
    ·rename_i c' fr heq;split at hi
     ·rename_i b;exact⟨b,fr,heq⟩
     ·simp at hi
    ·simp at hi
  ·intro j' c hc;rw [hl0.1] at hc;obtain⟨i,hi,rfl⟩:=yK hc;have eu:=(aW.1 hi).1;have:=mE i c hi;unfold It at this;simp only [an] at this;obtain⟨⟨⟨_,q1⟩,q2⟩,q3⟩:=this;refine⟨?_,q1,amf q2,amf q3⟩;show tI S.t (f.no+1+i)=_;have hd:(f.no+1+i) / 50=j / 50:=by rw [GM]; omega
   have hm:(f.no+1+i) % 50=i+1:=by rw [GM]; omega
   unfold tI;rw [hd,hf,hm];simp only;rw [di,hi]
end Go.As
end
section
namespace Go.As
open Go.RowKit
def u8L (l:List Int):List W:=l.map fun n=> .int .u8 (.lit n)
noncomputable section
def a0 (j:Nat) (l:List V):V:=.ap (2*j) (fN l)
def a1 (j:Nat) (l:List V):V:=.ap (2*j+1) (fN l)
def rr (j:Nat) (l:List V) (i:Nat):V:=oe (.ap (2*j+1) (fN l)) i
def nm (x:V):V:=.op .num x (.lit 0)
def mk (x:V):V:=.op .mk x (.lit 0)
def ln (x:V):V:=.op .len x (.lit 0)
def ce (j:Nat) (x:V):V:=.op (.cell j) x (.lit 0)
def el (x y:V):V:=.op .at x y
def cn (x y:V):V:=.op .cons x y
def wr (x:V):V:=.wrap .i64 x
def sp (c:SB) (a b:T Lf):T Lf:=.split c a b
def ou (l:List V):T Lf:=.ret (.out l)
def ju (j:Nat) (l:List V):T Lf:=.ret (.jump j l)
def fl:T Lf:=.fail
end
end Go.As
end

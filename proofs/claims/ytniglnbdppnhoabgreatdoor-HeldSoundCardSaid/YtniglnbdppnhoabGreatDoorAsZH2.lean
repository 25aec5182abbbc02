import Derived.Lib.Bytealg
import Derived.Lib.IndexMore
import Derived.Deep.LoopGhost
import Derived.Test.YtniglnbdppnhoabGreatDoorAsZH1
set_option linter.unusedSectionVars false
set_option linter.unusedVariables false
set_option linter.unusedSimpArgs false
section
namespace Go.As
section
variable {P:Program}
theorem wy {tt:TT}: ∀{l:List Oper} {i:Nat} {o:Oper},l[i]?=some o->jx tt (l.take (i+1))=jx tt (l.take i)+(match kindOf tt o.op with | .e=>1|_=>0)
 |[],i,o,h=>by simp at h
 |x::xs,0,o,h=>by
  simp at h;subst h;simp only [aA,amz,List.take_zero,jx]
  grind
 |x::xs,i+1,o,h=>by simp only [amz,jx];rw [wy (l:=xs) (by simpa using h)];omega
theorem Ml {tt:TT} {l:List Oper} {i:Nat} (h:l[i]?=none):jx tt (l.take (i+1))=jx tt (l.take i):=by have:=amN.1 h;rw [amR J,amR J]
theorem HJ {tt:TT} {l:List Oper} {i:Nat}: ∀{j:Nat},i<=j->jx tt (l.take i)<=jx tt (l.take j)
 |0,h=>by
  grind
 |j+1,h=>by
  by_cases e:i=j+1
  ·grind
  ·have:=HJ (tt:=tt) (l:=l) (i:=i) (j:=j) J
   cases ho:l[j]? with
   |none=>rw [Ml ho]; exact this
   |some o=>rw [wy ho]; omega
theorem JT {tt:TT} {l:List Oper} {i j:Nat} {o:Oper} (ho:l[i]?=some o) (hk:kindOf tt o.op= .e) (h:i<j):jx tt (l.take i)<jx tt (l.take j):=by
 have U:=wy (tt:=tt) ho;rw [hk] at U;have Z:=HJ (tt:=tt) (l:=l) (i:=i+1) (j:=j) h
 grind
theorem wx {tt:TT} {l:List Oper} {m:Nat}: ∀{j:Nat},m<jx tt (l.take j)->∃i o,i<j/\l[i]?=some o/\kindOf tt o.op= .e/\jx tt (l.take i)=m
 |0,h=>by simp [jx] at h
 |j+1,h=>by
  cases ho:l[j]? with
  |none=>
   rw [Ml ho] at h;obtain⟨i,o,U,Z⟩:=wx h
   grind
  |some o=>
   rw [wy ho] at h;rcases aT m (jx tt (l.take j)) with h'|h'
   ·obtain⟨i,o,U,Z⟩:=wx h'
    grind
   grind
def Ac (tt:TT) (all:List Oper) (ms:List Nat) (j:Nat) (o:Oper):Item:=⟨j,o,ms.getD j 0,kindOf tt o.op,jx tt (all.take j),reads all o⟩
theorem iH {tt:TT} {all:List Oper} {ms:List Nat} {j:Nat} {o:Oper} (h:all[j]?=some o):(items tt all ms all 0 0)[j]?=some (Ac tt all ms j o):=by rw [jL,h];simp [Ac]
theorem GR {tt:TT} {all:List Oper} {ms:List Nat} {x:Item} (h:x∈items tt all ms all 0 0): ∃j o,all[j]?=some o/\x=Ac tt all ms j o:=by
 obtain⟨j,hj⟩:=am8 h
 cases ho:all[j]? with
 |none=>rw [jL,ho] at hj; simp at hj
 |some o=>
  rw [iH ho] at hj
  grind
structure adq (tt:TT) (all:List Oper) (ms:List Nat):Prop where
 back: ∀(j:Nat) (o:Oper),all[j]?=some o->∀e∈o.after,Region.binds .any e=true->e.on<j
 mask: ∀(j:Nat) (o:Oper),all[j]?=some o->ms.getD j 0=nW ms o.after.toList
 rd: ∀(j:Nat) (o:Oper),all[j]?=some o->∀t∈reads all o,∀(i:Nat) (oi:Oper),all[i]?=some oi->oi.dst=some t->(ms.getD j 0).testBit i=true\/(kindOf tt o.op≠.r/\(ms.getD i 0).testBit j=true)
 dst: ∀(i j:Nat) (oi oj:Oper) (d:Nat),all[i]?=some oi->all[j]?=some oj->oi.dst=some d->oj.dst=some d->i=j
 tot: ∀(i j:Nat) (oi oj:Oper),all[i]?=some oi->all[j]?=some oj->kindOf tt oi.op= .e->kindOf tt oj.op= .e->i<j->(ms.getD j 0).testBit i=true
theorem J? {tt:TT} {all:List Oper} {q:Stat} (h:stat tt all=some q): ∃ms,q.is=items tt all ms all 0 0/\q.nE=jx tt all/\q.rs=((q.is.filter (·.k.X')).map fun x=>(x,Ak q.is q.nE x))/\adq tt all ms:=by
 unfold stat at h;simp only at h;split at h
 ·rename_i oI;simp at h;subst h;refine⟨qo all [],rfl,mO _ _ _,rfl,?_⟩;have key: ∀(j:Nat) (o:Oper),all[j]?=some o->xy (qo all []) (items tt all (qo all []) all 0 0) (Ac tt all (qo all []) j o)=true:=fun j o ho=>aW.1 oI _ (br (iH ho));have mem: ∀(j:Nat) (o:Oper),all[j]?=some o->Ac tt all (qo all []) j o∈items tt all (qo all []) all 0 0:=fun j o ho=>br (iH ho);refine⟨?_,?_,?_,?_,?_⟩
  ·intro j o ho e he hb;have:=key j o ho;simp only [xy,an,aW] at this;have:=this.1.1.1.1 e (by simpa [Ac] using he);simpa [hb,Ac] using this
  ·intro j o ho;have:=key j o ho;simp only [xy,an] at this;have:=this.1.1.1.2;simpa [Ac] using this
  ·intro j o ho t ht i oi hoi hd;have:=key j o ho;simp only [xy,an,aW] at this;have:=this.1.1.2 t ht _ (mem i oi hoi);simp only [Ac,hd,ne_eq,not_true_eq_false,decide_false,amS,amp,an,al5] at this;rcases this with h|⟨U,Z⟩
   ·grind
   ·refine .inr ⟨fun hk=>?_,Z⟩;rw [hk] at U;simp [Kind.X'] at U
  ·intro i j oi oj d hi hj hdi hdj;have:=key i oi hi;simp only [xy,an,aW] at this;have:=this.1.2 _ (mem j oj hj);simp [Ac,hdi,hdj] at this
   grind
  ·intro i j oi oj hi hj Yi hkj fW;have:=key j oj hj;simp only [xy,an,aW] at this;have:=this.2;simp only [Ac,hkj,Kind.isE,amQ,amS,aW] at this;have:=this _ (mem i oi hi);simpa [Ac,Yi,Kind.isE,fW] using this
 grind
theorem Dt [bI] {tt:TT} (cJ:eA P tt) {call:ei} (hc:iq P call) {ops:Array Oper} {base:Nat} {pc:List (SB×Bool)} {ρ:Nat->Int} (hp:bV ρ pc) {x:Item} (hk:kindOf tt x.o.op= .r) {v:W} {S:Tr W} {ib:List (Nat×dM)} {mb:List (Hp×Nat)}: ∀(ks:List Nat),(Cn tt call ops.toList base pc x v S ib mb ks).leaf ρ=some ()->
 ∀k∈ks,∃h mm,mb[k]?=some (h,mm)/\Fo P ρ ops x.o S (fF base x.m mm ib h) v (fF base x.m mm ib h)
 |[],_=>by simp
 |k::ks,h=>by
  simp only [Cn] at h;split at h
  ·rename_i h0 mm hn;obtain⟨⟨u,s'⟩,U,Z⟩:=T.fg h;simp only at Z;split at Z
   ·rename_i hs;have ha:=JG cJ hc (s:=⟨S,fF base x.m mm ib h0,pc⟩) hp U;have hr:=aja hk U;rw [hr,jI _ _ hs] at ha;intro k' CD;rcases ay.1 CD with rfl|CD
    ·exact⟨h0,mm,by rw [<- dq]; exact hn,ha⟩
    ·exact Dt cJ hc hp hk ks Z k' CD
   ·simp [T.leaf] at Z
  ·simp [T.leaf] at h
theorem Gb [bI] {tt:TT} (cJ:eA P tt) {call:ei} (hc:iq P call) {ops:Array Oper} {base:Nat} {ρ:Nat->Int} {d:PD} {mb:List (Hp×Nat)} {vs:List W}: ∀(rs:List (Item×List Nat)) {pc ef:List (SB×Bool)},bV ρ pc->(∀r∈rs,kindOf tt r.1.o.op= .r)->(Io tt call ops.toList base d mb vs rs pc).leaf ρ=some ef->
 bV ρ ef/\∀r∈rs,∃v,vs[r.1.i]?=some v/\∀k∈r.2,∃h mm,mb[k]?=some (h,mm)/\Fo P ρ ops r.1.o (only d.bD r.1.rd) (fF base r.1.m mm d.ib h) v (fF base r.1.m mm d.ib h)
 |[],pc,ef,hp,_,h=>by
  have:=bC h
  grind
 |(x,ks)::rs,pc,ef,hp,hk,h=>by
  simp only [Io] at h;split at h
  ·rename_i v hv;obtain⟨⟨⟩,fN,U,fA,Z⟩:=T.lX hp h;obtain⟨jD,ih⟩:=Gb cJ hc rs fA (fun r hr=>hk r (by simp [hr])) Z;refine⟨jD,fun r hr=>?_⟩;rcases ay.1 hr with rfl|hr
   ·exact⟨v,by rw [<- dq]; exact hv,Dt cJ hc hp (hk _ ad) ks U⟩
   grind
  ·simp [T.leaf] at h
end
section
variable {P:Program}
theorem O' {α:Type} {l pre:List α} {a b:α} {l0:List α} (h:l=pre++a::b::l0):l.reverse[l0.length]?=some b/\l.reverse[l0.length+1]?=some a:=by
 grind
theorem Tn {n b:Nat} (h:((1 <<<n)-1).testBit b=true):b<n:=by
 rw [Nat.shiftLeft_eq,amv,Nat.testBit_two_pow_sub_one] at h
 grind
theorem P? [bI] {tt:TT} {ops:Array Oper} {ms:List Nat} {ρ:Nat->Int} {pd:Tr W} {H0:Hp} {base N:Nat} {d:PD} (sf:adq tt ops.toList ms) (hb:base=H0.next) (hN:base+ops.size<=N)
 (rf:ajF P ρ ops base N (items tt ops.toList ms ops.toList 0 0) ⟨pd,[(⟨H0.m,base+ops.size,none⟩,0)],[],[],[]⟩ d)
 (Oi: ∀r∈((items tt ops.toList ms ops.toList 0 0).filter (·.k.X')).map fun x=>(x,Ak (items tt ops.toList ms ops.toList 0 0) (jx tt ops.toList) x),∃v,d.vs.reverse[r.1.i]?=some v/\∀k∈r.2,∃h mm,d.mb.reverse[k]?=some (h,mm)/\Fo P ρ ops r.1.o (only d.bD r.1.rd) (fF base r.1.m mm d.ib h) v (fF base r.1.m mm d.ib h))
 (hun:HX base d.ib d.mb=true) :
 ∃p:Fj P ρ ops pd H0,p.base=base/\p.nE=jx tt ops.toList/\(∀i,p.val i=(d.vs.reverse[i]?).getD .tY)/\(∀k h mm,d.mb.reverse[k]?=some (h,mm)->p.hp k=h/\∀a,p.un k a=!mm.testBit a)/\(∀i,p.nF i=(d.Bw.reverse[i]?).getD none)/\
  (∀(m:Nat),m<p.nE->∃(j:Nat) (o:Oper),ops[j]?=some o/\p.kd j= .e/\p.st j=m):=by
 have ik: ∀(j:Nat),ops.toList[j]?=ops[j]?:=fun j=>alM;have fW: ∀{j:Nat} {o:Oper},ops[j]?=some o->j<ops.size:=fun h=>(alW.1 h).1;have hci:jQ (items tt ops.toList ms ops.toList 0 0)=jx tt ops.toList:=mO _ _ _;have G3:jx tt ops.toList=jx tt (ops.toList.take ops.size):=by rw [amR ad]
 obtain⟨ps,s1,s2⟩:=rf.mb;rw [hci] at s2;have alB:d.mb.length=jx tt ops.toList+1:=by rw [s1,aZ,s2]; rfl
 have akm:d.mb.reverse[0]?=some (⟨H0.m,base+ops.size,none⟩,0):=by rw [s1]; simp
 have aiq: ∀k,k<=jx tt ops.toList->∃h mm,d.mb.reverse[k]?=some (h,mm):=by
  intro k hk;have:k<d.mb.reverse.length:=by rw [anw]; omega
  exact⟨d.mb.reverse[k].1,d.mb.reverse[k].2,aL this⟩
 have kP:=rf.nxt (by
  intro q hq;simp only [ay,alT,or_false] at hq;subst hq
  exact⟨hN,rfl⟩)
 have ae1: ∀(k:Nat) (h:Hp) (mm:Nat),d.mb.reverse[k]?=some (h,mm)->h.next<=N/\h.res=none:=by intro k h mm hh;exact kP (h,mm) (by have:=br hh; simpa using this)
 let hpf:Nat->Hp:=fun k=>((d.mb.reverse[k]?).map (·.1)).getD ⟨.nil,0,none⟩
 let unf:Nat->Nat->Bool:=fun k a=>match d.mb.reverse[k]? with |some q=>!q.2.testBit a|none=>false
 let bff:Nat->Nat->Bool:=fun i j=>match ops[j]? with |some _=>(ms.getD j 0).testBit i|none=>false
 let kdf:Nat->Kind:=fun i=>match ops[i]? with |some o=>kindOf tt o.op|none=> .pa
 let JV:Nat->Option dM:=fun i=>(d.Bw.reverse[i]?).getD none
 have hpe: ∀k h mm,d.mb.reverse[k]?=some (h,mm)->hpf k=h/\∀a,unf k a=!mm.testBit a:=by intro k h mm hh;refine⟨by simp only [hpf,hh]; rfl,fun a=>by simp only [unf,hh]⟩
 have e!: ∀{i j:Nat} {o:Oper},ops[j]?=some o->bff i j=(ms.getD j 0).testBit i:=by intro i j o ho;simp only [bff,ho]
 have XS: ∀{j:Nat} {o:Oper},ops[j]?=some o->kdf j=kindOf tt o.op:=by intro j o ho;simp only [kdf,ho]
 have kdE: ∀{j:Nat},kdf j= .e->∃o,ops[j]?=some o/\kindOf tt o.op= .e:=by
  intro j hj
  cases ho:ops[j]? with
  |none=>simp only [kdf,ho] at hj; simp at hj
  |some o=>exact⟨o,rfl,by rw [<- XS ho]; exact hj⟩
 have Yq: ∀(k:Nat),∀(o':Oper),ops[k]?=some o'->∀b,(ms.getD k 0).testBit b=true->b<k:=by
  intro k
  induction k using Nat.strongRecOn with
  |_ k ih=>
   intro o' yU b I4;rw [sf.mask k o' (by rw [ik]; exact yU)] at I4;obtain⟨e,e1,e2,e3⟩:=oJ I4;have e1':e∈o'.after:=by simpa using e1
   have ae2:=sf.back k o' (by rw [ik]; exact yU) e e1' e2;rcases e3 with rfl|e3
   ·exact ae2
   ·have:=fW yU;have:=ih e.on ae2 (ops[e.on]'J) ad b e3;omega
 have akQ: ∀(i:Nat),∃S:Tr W,∀(o:Oper),ops[i]?=some o->∃dp Ur v ob pre,dp.bD=S/\Fh P ρ ops base N (Ac tt ops.toList ms i o) dp v ob Ur/\d.vs.reverse[i]?=some v/\d.Bw.reverse[i]?=some ob/\d.mb=pre++Ur.mb/\dp.mb.length=1+jx tt (ops.toList.take i)/\
  (∀q,q∈dp.ib->q∈d.ib)/\(∀t x,S.get t=some x->(∃p oj,p<i/\ops[p]?=some oj/\oj.dst=some t/\d.vs.reverse[p]?=some x)\/(pd.get t=some x/\∀(p:Nat) (oj:Oper),p<i->ops[p]?=some oj->oj.dst≠some t)):=by
  intro i
  cases hoi:ops[i]? with
  |none=>exact⟨.nil,fun o h=>by simp at h⟩
  |some o0=>
   have hx:(items tt ops.toList ms ops.toList 0 0)[i]?=some (Ac tt ops.toList ms i o0):=iH (by rw [ik]; exact hoi);obtain⟨dp,Ur,v,ob,pre,g1,g2,g3,g4,g5,g6,g7,g8⟩:=rf.at_ i _ hx;refine⟨dp.bD,fun o ho=>?_⟩;simp only [ah] at ho;subst ho;refine⟨dp,Ur,v,ob,pre,rfl,g1,by simpa using g2,by simpa using g3,g4,?_,g6,?_⟩
   ·rw [g5];congr 1
    have:(items tt ops.toList ms ops.toList 0 0).take i=items tt ops.toList ms (ops.toList.take i) 0 0:=by
     apply amL;intro j;rw [amn,jL,jL,amn];split
     ·rename_i hj;rw [List.take_take,anx J]
     ·rfl
    rw [this,mO]
   ·intro t x ht;rcases g8 t x ht with ⟨p,y,q1,q2,q3,q4⟩|⟨q1,q2⟩
    ·cases oS:ops.toList[p]? with
     |none=>rw [jL,oS] at q2; simp at q2
     |some oj=> rw [iH oS] at q2;simp at q2;subst q2;exact .inl ⟨p,oj,q1,by rw [<- ik]; exact oS,q3,by simpa using q4⟩
    ·refine .inr ⟨q1,fun p oj hp oS=>?_⟩
     have hm:Ac tt ops.toList ms p oj∈(items tt ops.toList ms ops.toList 0 0).take i:=by refine br (i:=p) ?_;rw [amn,ag hp];exact iH (by rw [ik]; exact oS)
     exact q2 _ hm
 obtain⟨Sd,jt⟩:=Classical.skolem.1 akQ
 let Sf:Nat->Tr W:=fun i=>match ops[i]? with
  |some o=>(match kindOf tt o.op with
   | .r=>only d.bD (reads ops.toList o)
   |_=>only (Sd i) (reads ops.toList o))
  |none=> .nil
 have SfR: ∀{i:Nat} {o:Oper},ops[i]?=some o->kindOf tt o.op= .r->Sf i=only d.bD (reads ops.toList o):=by intro i o ho hk;simp only [Sf,ho,hk]
 have SfN: ∀{i:Nat} {o:Oper},ops[i]?=some o->kindOf tt o.op≠.r->Sf i=only (Sd i) (reads ops.toList o):=by
  intro i o ho hk;have:Sf i=(match kindOf tt o.op with | .r=>only d.bD (reads ops.toList o)|_=>only (Sd i) (reads ops.toList o)):=by simp only [Sf,ho]
  rw [this]
  cases hh:kindOf tt o.op with
  |r=>exact absurd hh hk
  |pa=>rfl
  |e=>rfl
 have aag: ∀a b,(a,b)∈d.ib->JV a=some b:=by
  intro a b MX;rcases rf.nF a b MX with h|⟨p,x,g1,g2,g3⟩
  ·simp at h
  ·cases ho:ops.toList[p]? with
   |none=>rw [jL,ho] at g1; simp at g1
   |some o=> rw [iH ho] at g1;simp at g1;subst g1;have:p=a:=g2;subst this;simp only [aR,aA] at g3;simp only [JV,g3,ax]
 have aiN: ∀a b,JV a=some b->(a,b)∈d.ib:=by
  intro a b MX
  have GY:d.Bw.reverse[a]?=some (some b):=by
   simp only [JV] at MX
   cases hh:d.Bw.reverse[a]? with
   |none=>rw [hh] at MX; simp at MX
   |some x=>rw [hh] at MX; simp at MX; rw [MX]
  obtain⟨po,o1,o2⟩:=rf.Bw
  have U3:a<ops.size:=by have U:=(aX.1 GY).1;rw [anw,o1,alV,o2,sP] at U;simpa using U
  have hx:(items tt ops.toList ms ops.toList 0 0)[a]?=some (Ac tt ops.toList ms a ops[a]):=iH (by rw [ik]; simp [U3]);exact rf.ak8 a _ b hx (by simpa using GY)
 refine⟨{
  base:=base,bf:=bff,kd:=kdf,S:=Sf,val:=fun i=>(d.vs.reverse[i]?).getD .tY,st:=fun i=>jx tt (ops.toList.take i),nE:=jx tt ops.toList,hp:=hpf,un:=unf,nF:=JV,
  gen:=?_,back:=?_,dst:=?_,bD:=?_,stl:=?_,inj:=?_,ahz:=?_,pa:=?_,ev:=?_,rd:=?_,unm:=?_,nob:=?_,first:=?_ },rfl,rfl,fun i=>rfl,hpe,fun i=>rfl,?_⟩
 ·intro i j h
  cases ho:ops[j]? with
  |none=>simp only [bff,ho] at h; simp at h
  |some o=>
   rw [e! ho,sf.mask j o (by rw [ik]; exact ho)] at h;obtain⟨e,e1,e2,e3⟩:=oJ h;have e1':e∈o.after:=by simpa using e1
   refine⟨o,e,rfl,e1',e2,e3.imp id fun h3=>?_⟩;have Y:=sf.back j o (by rw [ik]; exact ho) e e1' e2;have hj:=fW ho;rw [e! (o:=ops[e.on]'J) ad];exact h3
 ·intro j o ho e he I4;exact sf.back j o (by rw [ik]; exact ho) e he I4
 ·intro i j oi oj dd hi hj U Z;exact sf.dst i j oi oj dd (by rw [ik]; exact hi) (by rw [ik]; exact hj) U Z
 ·intro i o ho t x ht
  cases hk:kindOf tt o.op with
  |r=>
   rw [SfR ho hk] at ht;obtain⟨U,Z⟩:=yE ht;rcases rf.slot t x Z with ⟨p,y,g1,g2,g3⟩|⟨g1,g2⟩
   ·cases oS:ops.toList[p]? with
    |none=>rw [jL,oS] at g1; simp at g1
    |some oj=>
     rw [iH oS] at g1;simp at g1;subst g1;have hp:ops[p]?=some oj:=by rw [<- ik]; exact oS
     refine .inl ⟨p,oj,?_,hp,g2,?_⟩
     ·rw [e! ho];rcases sf.rd i o (by rw [ik]; exact ho) t U p oj oS g2 with h|⟨h,_⟩
      ·exact h
      ·exact absurd hk h
     ·simp only [aR,aA] at g3;simp only [g3,ax]
   ·refine .inr ⟨g1,fun j oj oS hd=>?_⟩;exact absurd hd (g2 _ (br (iH (by rw [ik]; exact oS))))
  |_=>
   rw [SfN ho (by rw [hk]; simp)] at ht;obtain⟨U,Z⟩:=yE ht;obtain⟨dp,Ur,v,ob,pre,_,_,_,_,_,_,_,g8⟩:=jt i o ho;rcases g8 t x Z with ⟨p,oj,q1,q2,q3,q4⟩|⟨q1,q2⟩
   ·refine .inl ⟨p,oj,?_,q2,q3,by rw [q4]; rfl⟩;rw [e! ho];rcases sf.rd i o (by rw [ik]; exact ho) t U p oj (by rw [ik]; exact q2) q3 with h|⟨_,h⟩
    ·exact h
    ·have:=Yq p oj q2 i h;omega
   ·refine .inr ⟨q1,fun j oj oS hd=>?_⟩;rw [e! oS];rcases sf.rd i o (by rw [ik]; exact ho) t U j oj (by rw [ik]; exact oS) hd with h|⟨_,h⟩
    ·exact absurd hd (q2 j oj (Yq i o ho j h) oS)
    ·exact h
 ·intro j o ho hk;rw [XS ho] at hk;rw [G3];exact JT (by rw [ik]; exact ho) hk (fW ho)
 ·intro i j hi hj he;obtain⟨oi,hoi,Yi⟩:=kdE hi;obtain⟨oj,oS,hkj⟩:=kdE hj;rcases ant i j with h|h|h
  ·have:=JT (tt:=tt) (l:=ops.toList) (by rw [ik]; exact hoi) Yi h;omega
  ·exact h
  ·have:=JT (tt:=tt) (l:=ops.toList) (by rw [ik]; exact oS) hkj h;omega
 ·intro j o ho hk m hm;obtain⟨i,oi,U,Z,h3,h4⟩:=wx hm;rw [XS ho] at hk;have h2':ops[i]?=some oi:=by rw [<- ik]; exact Z
  refine⟨i,by rw [XS h2']; exact h3,h4,?_⟩;rw [e! ho];exact sf.tot i j oi o Z (by rw [ik]; exact ho) h3 hk U
 ·intro i o ho hk;rw [XS ho] at hk;obtain⟨dp,Ur,v,ob,pre,hdp,hF,g2,g3,g4,g5,g6,g7⟩:=jt i o ho;obtain⟨h0,mm,rest,hs,hF⟩:=hF;simp only [Ac,hk] at hF;obtain⟨_,HA,f1,f2,f3⟩:=hF;rw [hdp] at f1;refine⟨HA,N,?_,f2,?_,?_⟩
  ·rw [SfN ho (by rw [hk]; simp)];simp only [g2,ax];exact f1
  ·simp only [JV,g3,ax];exact f3
  ·intro k CC;obtain⟨Z,mm2,hh⟩:=aiq k CC;rw [(hpe _ _ _ hh).1];exact (ae1 _ _ _ hh).1
 ·intro j o ho hk;rw [XS ho] at hk;obtain⟨dp,Ur,v,ob,pre,hdp,hF,g2,g3,g4,g5,g6,g7⟩:=jt j o ho;obtain⟨h0,mm,rest,hs,hF⟩:=hF;simp only [Ac,hk] at hF;obtain⟨_,hn,f1,f2,f3,f4⟩:=hF;rw [hdp] at f4;rw [f1,hs] at g4;have hrl:rest.length=jx tt (ops.toList.take j):=by rw [hs] at g5; simp at g5; omega
  obtain⟨r1,r2⟩:=O' g4;rw [hrl] at r1 r2;obtain⟨p1,p2⟩:=hpe _ _ _ r1;obtain⟨p3,p4⟩:=hpe _ _ _ r2;refine⟨fF base (ms.getD j 0) mm dp.ib h0,?_,?_,?_,?_,?_⟩
  ·rw [SfN ho (by rw [hk]; simp)];simp only [g2,ax,p3];exact f4
  ·rw [(jy _ _).1,p1]
  ·rw [(jy _ _).2];exact (ae1 _ _ _ r1).2
  ·intro id x hx;rcases n4 hx with h|⟨a,a1,a2,a3,a4⟩
   ·left; rw [p1]; exact h
   ·right;exact⟨a,by rw [e! ho]; exact a2,by rw [p2,a3]; rfl,a4,aag a x (g6 _ a1)⟩
  ·intro a ha;rw [p4] at ha;simp only [Nat.testBit_or,Bool.not_or,an,al5] at ha;refine⟨by rw [p2,ha.1]; rfl,?_⟩;rw [e! ho];exact ha.2
 ·intro i o ho hk k hkn U Z;rw [XS ho] at hk;have uR:Ac tt ops.toList ms i o∈items tt ops.toList ms ops.toList 0 0:=br (iH (by rw [ik]; exact ho))
  obtain⟨v,g1,g2⟩:=Oi (Ac tt ops.toList ms i o,Ak (items tt ops.toList ms ops.toList 0 0) (jx tt ops.toList) (Ac tt ops.toList ms i o)) (by
   rw [aQ]
   exact⟨_,al8.2 ⟨uR,by simp [Ac,hk,Kind.X']⟩,rfl⟩)
  have Lw:k∈Ak (items tt ops.toList ms ops.toList 0 0) (jx tt ops.toList) (Ac tt ops.toList ms i o):=by
   unfold Ak;rw [al8,alY];refine⟨J,aW.2 fun y hy=>?_⟩;obtain⟨j,oj,oS,rfl⟩:=GR hy;have aae:ops[j]?=some oj:=by rw [<- ik]; exact oS
   cases hkj:kindOf tt oj.op with
   |pa=>simp [Ac,hkj,Kind.isE]
   |r=>simp [Ac,hkj,Kind.isE]
   |e=>
    simp only [Ac,hkj,Kind.isE,amQ,amS,an,amp,al5,decide_eq_true_eq];constructor
    ·cases ae9:(ms.getD i 0).testBit j with
     |false=>exact .inl rfl
     |true=>exact .inr (U j (by rw [XS aae]; exact hkj) (by rw [e! ho]; exact ae9))
    ·cases ae9:(ms.getD j 0).testBit i with
     |false=>exact .inl rfl
     |true=>exact .inr (Z j oj aae (by rw [XS aae]; exact hkj) (by rw [e! aae]; exact ae9))
  obtain⟨h0,mm,g3,g4⟩:=g2 k Lw;obtain⟨p1,p2⟩:=hpe _ _ _ g3;refine⟨fF base (ms.getD i 0) mm d.ib h0,?_,?_,?_,?_⟩
  ·have g1':d.vs.reverse[i]?=some v:=g1;rw [SfR ho hk];simp only [g1',ax];exact g4
  ·rw [(jy _ _).1,p1]
  ·rw [(jy _ _).2];exact (ae1 _ _ _ g3).2
  ·intro id x hx;rcases n4 hx with h|⟨a,a1,a2,a3,a4⟩
   ·left; rw [p1]; exact h
   ·right;exact⟨a,by rw [e! ho]; exact a2,by rw [p2,a3]; rfl,a4,aag a x a1⟩
 ·intro k a x hk hx hu;obtain⟨h0,mm,hh⟩:=aiq k hk;obtain⟨p1,p2⟩:=hpe _ _ _ hh;rw [p1];rw [p2] at hu;unfold HX at hun;have:=aW.1 hun _ (aiN a x hx)
  have:=aW.1 this (h0,mm) (by
   have:=br hh
   simpa using this)
  simp only [amp,Option.isNone_iff_eq_none] at this;simp only [al5] at hu;rcases this with h|h
  ·rw [hu] at h; simp at h
  ·exact h
 ·intro i hk
  cases ho:ops[i]? with
  |none=>
   obtain⟨po,o1,o2⟩:=rf.Bw
   have Rr:d.Bw.reverse[i]?=none:=by rw [amN,anw,o1,alV,o2,sP];have:=anM.1 ho;simpa using this
   simp only [JV,Rr,amk]
  |some o=>
   obtain⟨dp,Ur,v,ob,pre,hdp,hF,g2,g3,g4,g5,g6,g7⟩:=jt i o ho;obtain⟨h0,mm,rest,hs,hF⟩:=hF;rw [XS ho] at hk
   cases sZ:kindOf tt o.op with
   |pa=>exact absurd sZ hk
   |e=> simp only [Ac,sZ] at hF;simp only [JV,g3,ax,hF.1]
   |r=> simp only [Ac,sZ] at hF;simp only [JV,g3,ax,hF.1]
 ·have:=(hpe 0 _ _ akm).1;refine⟨hb,by rw [this]; exact au _,fun id x h=>?_⟩;rw [this] at h;exact h
 ·intro m hm;have hm':m<jx tt (ops.toList.take ops.size):=by rw [<- G3]; exact hm
  obtain⟨i,oi,U,Z,h3,h4⟩:=wx hm';have h2':ops[i]?=some oi:=by rw [<- ik]; exact Z
  exact⟨i,oi,h2',by show kdf i=_; rw [XS h2']; exact h3,h4⟩
end
section
variable {P:Program}
theorem EJ [bI] {tt:TT} (cJ:eA P tt) {call:ei} (hc:iq P call) {ops:Array Oper} {E:En} {s s':St} {a:Act} {w:World} {Q:Exit->Act->World->Prop}
 (hd: ∀o∈ops.toList,∀d,o.dst=some d->d<a.tmps.size) (fit:Fit E s a w) (h:(draw tt call ops.toList s).leaf E.ρ=some s') (hq: ∀a' w',mQ E s a w s' a' w'->Q .normal a' w') :
 wpAny P .any ops Q ops.size (Array.replicate ops.size false) a { w with drawn:=w.drawn+1 }:=by
 unfold draw EK at h;split at h
 ·simp [T.leaf] at h
 ·rename_i q hq0;split at h
  ·simp [T.leaf] at h
  ·rename_i xL;simp only at h;obtain⟨⟨fN,d⟩,U,Z⟩:=T.fg h;simp only at Z;obtain⟨ms,e1,e2,e3,sf⟩:=J? hq0;rw [e1,] at U;have rf:=R7 cJ hc _ fit.pc U;have fA:=R6 _ fit.pc U;split at Z
   ·simp [T.leaf] at Z
   ·rename_i h0 mm rest akl;obtain⟨jK,h3,h4⟩:=T.fg Z;split at h4
    ·rename_i hun;have:=bC h4;subst this
     have ais:=Gb cJ hc q.rs fA (by
      intro r hr;rw [e3,aQ] at hr;obtain⟨x,hx,rfl⟩:=hr;rw [al8,e1] at hx;obtain⟨j,o,ho,rfl⟩:=GR hx.1;have h5:(kindOf tt o.op).X'=true:=hx.2;show kindOf tt o.op= .r;revert h5
      cases kindOf tt o.op<;>simp [Kind.X']) h3
     have jD:=ais.1;have Oi:=ais.2;rw [e3,e1,e2] at Oi;obtain⟨p,p1,p2,p3,p4,p5,p6⟩:=P? sf (base:=s.h.next) (H0:=s.h) rfl (Nat.le_add_right _ _) rf Oi hun;have ik: ∀(j:Nat),ops.toList[j]?=ops[j]?:=fun j=>alM;let w1:World:={ w with drawn:=w.drawn+1 };have akX:Fit E s a w1:=⟨⟨fit.rel.fresh,fit.rel.res,fit.rel.live,fit.rel.inj,fit.rel.rh,fit.rel.jG,fit.rel.hid⟩,fit.sr,fit.pc⟩
     have aiD: ∀(i:Nat),(Array.replicate ops.size false)[i]?≠some true:=by
      intro i hh
      grind
     refine p.any (E0:=E) (a0:=a) (w0:=w1) hd ?_ ops.size _ a w1 ad ?_ (p.start rfl rfl rfl akX _ aiD)
     ·intro a' w' inv;obtain⟨ps,s1,s2⟩:=rf.mb;rw [mO] at s2
      have hlen:rest.length=jx tt ops.toList:=by
       have:d.mb.length=jx tt ops.toList+1:=by rw [s1,aZ,s2]; rfl
       grind
      have aca:d.mb.reverse[jx tt ops.toList]?=some (h0,mm):=by
       grind
      obtain⟨q1,q2⟩:=p4 _ _ _ aca
      have kP:=rf.nxt (by
       intro q hq;simp only [ay,alT,or_false] at hq;subst hq
       exact⟨Nat.le_add_right _ _,rfl⟩) (h0,mm) (by rw [akl]; simp)
      have ht:=p.finish (s0:=s) (s':=⟨d.bD,fF s.h.next ((1 <<<ops.toList.length)-1) mm d.ib h0,jK⟩) (w0:=w1) rfl inv jD ?_ ?_ ?_ ?_ p6
      ·refine hq a' w' ⟨ht.defers,ht.size,?_⟩;obtain⟨E',st,f'⟩:=ht.step;exact⟨E',⟨st.ρ,st.dm,st.θ,st.κ,st.ro,st.rF,st.QI,st.rsm,st.w?,st.os,st.tape,st.output,st.size,st.cf,st.own,st.hd⟩,f'⟩
      ·intro t x ht;rcases rf.slot t x ht with ⟨j,y,g1,g2,g3⟩|⟨g1,g2⟩
       ·cases oS:ops.toList[j]? with
        |none=>rw [jL,oS] at g1; simp at g1
        |some oj=>
         rw [iH oS] at g1;simp at g1;subst g1;refine .inl ⟨j,oj,by rw [<- ik]; exact oS,g2,?_⟩
         grind
       ·refine .inr ⟨g1,fun j oj oS=>?_⟩;exact g2 _ (br (iH (by rw [ik]; exact oS)))
      ·intro id x hx;rw [p2,q1,p1];rcases n4 hx with h|⟨b,b1,b2,b3,b4⟩
       ·grind
       ·right
        have fW:b<ops.size:=by
         have:=Tn b2
         grind
        refine⟨b,fW,by rw [q2,b3]; rfl,b4,?_⟩;rcases rf.nF b x b1 with h|⟨j,y,g1,g2,g3⟩
        ·grind
        ·cases oS:ops.toList[j]? with
         |none=>rw [jL,oS] at g1; simp at g1
         |some oj=>
          rw [iH oS] at g1;simp at g1;subst g1;have:j=b:=g2
          grind
      ·rw [p2,q1];exact (jy _ _).1.symm
      ·show (fF s.h.next ((1 <<<ops.toList.length)-1) mm d.ib h0).res=none;rw [(jy _ _).2]
       grind
     ·have: ∀(l:Nat->Bool) (n:Nat),left l n<=n:=by
       intro l n
       induction n with
       |zero=>exact au _
       |succ n ih=>simp only [left]; split<;>omega
      grind
    ·simp [T.leaf] at h4
theorem aaI [bI] {tt:TT} (cJ:eA P tt) (hm:P.follows .mixedOrders=true) {call:ei} (hc:iq P call):aa5 P (draw tt call):=by intro id ops E s s' a w Q hd fit h hq;exact wp_region_any hm (EJ cJ hc hd fit h hq)
end
end Go.As
end
section
namespace Go.As
noncomputable section
open Go.RowKit
section
variable {P:Program}
def En.zero (ρ:Nat->Int) (ro:Nat->Prop):En:={ ρ:=ρ,θ:=fun _=>(0,0),κ:=fun _=>0,dm:=fun _=>False,ro:=ro }
def Hp.zero:Hp:=⟨.nil,0,none⟩
theorem Kk [bI] (ρ:Nat->Int) (ro:Nat->Prop) (w:World) (h: ∀b,ro b->b<w.heap.size) (hg:bI.ok ρ ro w.heap):bO (En.zero ρ ro) Hp.zero w:=
 ⟨fun _ _ h=>h,by simp [Hp.zero],fun id o h=>by simp [Hp.zero,Hp.get,Tr.get] at h,fun id _ o _ h=>by simp [Hp.zero,Hp.get,Tr.get] at h,h,hg,fun _ _ h=>by simp [En.zero] at h⟩
theorem eT.below {E E':En} {H':Hp} {w w':World} (s:eT E Hp.zero w E' H' w'):Below w.heap.size w w':=
 ⟨s.os,s.tape,s.output,s.size,fun k hk=>s.cf k hk fun id o h=>by simp [Hp.zero,Hp.get,Tr.get] at h⟩
theorem zO [bI] {g:FuncId} {f:List W->St->T (W×St)} (hf:j9 P g f) {fn:Func} (ue:P.funcs[g]?=some fn) (lL:(fn.name == "runtime.NumGoroutine")=false) {c:Code} (LB:fn.body=some c)
 {ρ:Nat->Int} {ro:Nat->Prop} {w:World} (lq: ∀b,ro b->b<w.heap.size) (hg:bI.ok ρ ro w.heap) {args:List W} {vals:List Value} (hv:cA (En.zero ρ ro) w.heap args vals) {v:W} {s':St}
 (h:(f args ⟨.nil,Hp.zero,[]⟩).leaf ρ=some (v,s')):Calls P g vals.toArray w fun e w'=> ∃u E',e= .returned u/\VR E' w'.heap v u/\E'.ρ=ρ/\Below w.heap.size w w':=by
 obtain⟨_,_,h3⟩:=hf args ⟨.nil,Hp.zero,[]⟩ (En.zero ρ ro) w vals v s' (Kk ρ ro w lq hg) hv (by simp [bV]) h
 have lY:(callFunc g vals.toArray).run P w= .ok (.enter g vals.toArray) w:=by unfold callFunc;simp [ue,LB,by simpa using lL]
 unfold lQ n6 at h3;rw [lY] at h3;exact Calls.mono h3 fun e w' ⟨u,he,E',st,_,hv⟩=> ⟨u,E',he,hv,st.ρ,st.below⟩
end
end
end Go.As
end
section
namespace Go.As
noncomputable section
open Go.RowKit
mutual
def hZ:W->Bool
 | .bool (.lit _)=>true
 | .int _ (.lit _)=>true
 | .str _=>true
 | .tY=>true
 | .fZ=>true
 | .rI=>true
 | .wG=>true
 | .xA=>true
 | .iface _ v=>hZ v
 | .agg cs=>nX cs
 | .tuple cs=>nX cs
 | .func _ fs cs=>nX fs&&nX cs
 |_=>false
def nX:List W->Bool
 |[]=>true
 |x::xs=>hZ x&&nX xs
end
section
variable {P:Program}
mutual
theorem wz {E E':En} {h h':Array Obj}: ∀(x:W) (u:Value),hZ x=true->VR E h x u->VR E' h' x u
 | .bool b,u,hc,hv=>by cases b<;>simp [hZ] at hc; simpa [VR,SB.den] using hv
 | .int k e,u,hc,hv=>by cases e<;>simp [hZ] at hc; simpa [VR,V.den] using hv
 | .str s,u,_,hv=>by simp only [VR] at *; exact hv
 | .tY,u,_,hv=>by simp only [VR] at *; exact hv
 | .fZ,u,_,hv=>by simp only [VR] at *; exact hv
 | .rI,u,_,hv=>by simp only [VR] at *; exact hv
 | .wG,u,_,hv=>by simp only [VR] at *; exact hv
 | .xA,u,_,hv=>by simp only [VR] at *; exact hv
 | .iface t x,u,hc,hv=>by simp only [VR,hZ] at *;obtain⟨y,U,Z⟩:=hv;exact⟨y,U,wz x y hc Z⟩
 | .agg cs,u,hc,hv=>by simp only [VR,hZ] at *;obtain⟨us,U,Z⟩:=hv;exact⟨us,U,nr cs us hc Z⟩
 | .tuple cs,u,hc,hv=>by simp only [VR,hZ] at *;obtain⟨us,U,Z⟩:=hv;exact⟨us,U,nr cs us hc Z⟩
 | .func fn fs cs,u,hc,hv=>by simp only [VR,hZ,an] at *;obtain⟨us,ws,U,Z,h3⟩:=hv;exact⟨us,ws,U,nr fs us hc.1 Z,nr cs ws hc.2 h3⟩
 | .ptr _ _,_,hc,_=>by simp [hZ] at hc
 | .mY _,_,hc,_=>by simp [hZ] at hc
 | .slice _ _ _ _,_,hc,_=>by simp [hZ] at hc
 | .ro _ _ _,_,hc,_=>by simp [hZ] at hc
 | .map _,_,hc,_=>by simp [hZ] at hc
 | .KY _,_,hc,_=>by simp [hZ] at hc
 | .wI _ _,_,hc,_=>by simp [hZ] at hc
theorem nr {E E':En} {h h':Array Obj}: ∀(xs:List W) (us:List Value),nX xs=true->cA E h xs us->cA E' h' xs us
 |[],us,_,hv=>by simp only [cA] at *; exact hv
 |x::xs,us,hc,hv=>by simp only [cA,nX,an] at *;obtain⟨u,vs,U,Z,h3⟩:=hv;exact⟨u,vs,U,wz x u hc.1 Z,nr xs vs hc.2 h3⟩
end
theorem wC [bI] {E:En} {H:Hp} {w w':World} (r:bO E H w) (b:Below w.heap.size w w'):eT E H w E H w'/\bO E H w':=by have hk:fC E w.heap E w'.heap:=⟨rfl,fun _ h=>h,fun _ _=>rfl,fun _ _=>rfl,fun _ h=>h,fun x hx=>b.block x (r.rh x hx)⟩;refine⟨⟨rfl,fun _ h=>h,fun _ _=>rfl,fun _ _=>rfl,fun _ h=>h,fun _ h=> .inl h,au _,.inr rfl,fun _ h=> .inl h,b.os,b.tape,b.output,b.size,fun x hx _=>b.block x hx,fun id o h _=> ⟨id,o,h,rfl⟩,rfl⟩,r.fresh,r.res,fun id o h=>?_,r.inj,fun x hx=>ama (r.rh x hx) b.size,bI.cf r.jG hk.ro hk.Bo,r.T4 rfl b.size (fun _ h=> .inl h) fun id o h _=> ⟨id,o,h,rfl⟩⟩;obtain⟨U,Z,h3⟩:=r.live id o h;exact⟨U,Z.cf hk U (b.block _ (gf r h)) (r.UZ rfl (fun x hx _=>b.block x hx) _),h3⟩
def Fv (args:List W) (v:W):List W->St->T (W×St):=fun alL s=>if iC alL args then .ret (v,s) else .fail
def G7 (args:List W) (v:W) (f:List W->St->T (W×St)):Bool:=
 nX args&&hZ v&&(match f args ⟨.nil,Hp.zero,[]⟩ with | .ret (u,_)=>eK u v|_=>false)
theorem Cu [bI] {g:FuncId} {f:List W->St->T (W×St)} (hf:j9 P g f) {fn:Func} (ue:P.funcs[g]?=some fn) (lL:(fn.name == "runtime.NumGoroutine")=false) {c:Code} (hb:fn.body=some c)
 {args:List W} {v:W} (h:G7 args v f=true):j9 P g (Fv args v):=by
 intro alL s E w vals u s' r hv hp Y;unfold Fv at Y;split at Y
 ·rename_i hs;have:=bC Y;simp only [ak] at this;obtain⟨rfl,rfl⟩:=this;rw [fR _ _ hs] at hv;unfold G7 at h;simp only [an] at h;obtain⟨⟨U,Z⟩,h3⟩:=h;split at h3
  ·rename_i u' s1 lY;have hu:=jI _ _ h3;subst hu;have hc:=zO hf ue lL hb (ρ:=E.ρ) (ro:=E.ro) (w:=w) r.rh r.jG (nr args vals U hv) (v:=u') (s':=s1) (by rw [lY]; rfl);refine⟨rfl,hp,?_⟩
   have lY:(callFunc g vals.toArray).run P w= .ok (.enter g vals.toArray) w:=by unfold callFunc;simp [ue,hb,by simpa using lL]
   unfold lQ n6;rw [lY];exact Calls.mono hc fun e w' ⟨x,E',he,hx,_,nh⟩=> ⟨x,he,E,(wC r nh).1,(wC r nh).2,wz u' x Z hx⟩
  grind
 ·simp [T.leaf] at Y
def orElse (f g:List W->St->T (W×St)):List W->St->T (W×St):=fun alL s=>match f alL s with | .fail=>g alL s|x=>x
theorem vL [bI] {id:FuncId} {f g:List W->St->T (W×St)} (hf:j9 P id f) (hg:j9 P id g):j9 P id (orElse f g):=by
 intro alL s E w vals u s' r hv hp Y;unfold orElse at Y;split at Y
 ·exact hg alL s E w vals u s' r hv hp Y
 ·exact hf alL s E w vals u s' r hv hp Y
end
end
end Go.As
end
section
namespace Go.As
noncomputable section
open Go.RowKit
section
variable {P:Program}
theorem we {g:FuncId} {fn:Func} {e:Array Value->Sem Value} (hf:P.funcs[g]?=some fn) (lL:(fn.name == "runtime.NumGoroutine")=false) (hb:fn.body.isNone=true) (hn:Extern.findNext fn=none) (he:Extern.find fn=some e)
 {args:Array Value} {w:World} {u:Value} (hr:(e args).run P w= .ok u w):(callFunc g args).run P w= .ok (.value u) w:=by
 have LB:fn.body=none:=by simpa using hb
 unfold callFunc;simp [hf,LB,by simpa using lL,hn,he,hr]
def EV (c:Nat):List Nat->Nat
 |[]=>0
 |x::xs=>if x.beq c then EV c xs+1 else EV c xs
def AL:List W->St->T (W×St):=fun args s=>match args with
 |[.str b,.int .u8 (.lit (.ofNat c))]=>if c<256 then .ret (.int .i64 (.lit (Int.ofNat (EV c b))),s) else .fail
 |_=> .fail
theorem H3 {a b:Nat} (ha:a<256) (hb:b<256):(UInt8.ofNat a == UInt8.ofNat b)=a.beq b:=by
 rw [alZ];simp only [beq_iff_eq,Nat.beq_eq];constructor
 ·intro h;have:=congrArg UInt8.toNat h;simp only [ame] at this;omega
 grind
theorem HC {c:Nat} (hc:c<256): ∀{s:List Nat},(∀b∈s,b<256)->Lib.countByte (s.map UInt8.ofNat) (UInt8.ofNat c)=EV c s
 |[],_=>rfl
 |x::xs,h=>by
  have ih:=HC hc (s:=xs) fun b hb=>h b (by simp [hb]);unfold Lib.countByte at *;rw [aw,List.count_cons,ih,H3 (h x ad) hc];simp only [EV]
  grind
theorem Z9 [bI] {g:FuncId} {fn:Func} (hf:P.funcs[g]?=some fn) (lL:(fn.name == "runtime.NumGoroutine")=false) (hb:fn.body.isNone=true) (hn:Extern.findNext fn=none) (he:Extern.find fn=some Extern.BytealgCount.count):j9 P g AL:=by
 intro alL s E w vals u s' r hv hp Y;unfold AL at Y;split at Y
 ·rename_i b c;split at Y
  ·rename_i hc;have:=bC Y;simp only [ak] at this;obtain⟨rfl,rfl⟩:=this;simp only [cA,VR,V.den] at hv;obtain⟨u1,r1,rfl,⟨rfl,MV⟩,u2,r2,rfl,rfl,rfl⟩:=hv;refine⟨rfl,hp,?_⟩;unfold lQ n6;rw [we hf lL hb hn he (Lib.run_countString (dh b) (Int.ofNat c) w)];refine⟨E,eT.refl _ _ _,r,?_⟩;simp only [VR,V.den];have:(Int.ofNat c).toNat.toUInt8=UInt8.ofNat c:=rfl;rw [this];have Z:(dh b).data.toList=b.map UInt8.ofNat:=by simp [dh]
   rw [Z,HC hc MV];rfl
  ·simp [T.leaf] at Y
 ·simp [T.leaf] at Y
def DW (c:Nat):List Nat->Int
 |[]=> -1
 |x::xs=>if x.beq c then 0 else match DW c xs with
  | .ofNat n=> .ofNat (n+1)
  | .negSucc n=> .negSucc n
def AK:List W->St->T (W×St):=fun args s=>match args with
 |[.str b,.int .u8 (.lit (.ofNat c))]=>if c<256 then .ret (.int .i64 (.lit (DW c b)),s) else .fail
 |_=> .fail
theorem GS {c:Nat} (hc:c<256): ∀{s:List Nat},(∀b∈s,b<256)->Lib.indexByte (s.map UInt8.ofNat) (UInt8.ofNat c)=DW c s
 |[],_=>rfl
 |x::xs,h=>by
  have ih:=GS hc (s:=xs) fun b hb=>h b (by simp [hb]);have T7:=Lib.indexByte_ge (xs.map UInt8.ofNat) (UInt8.ofNat c);simp only [aw,Lib.indexByte,DW];rw [H3 (h x ad) hc];cases x.beq c
  ·simp only [aK,if_false];rw [ih] at T7 ⊢
   cases hi:DW c xs with
   |ofNat n=>rw [hi] at T7; simp
   |negSucc n=>
    grind
  ·rfl
theorem X0 [bI] {g:FuncId} {fn:Func} (hf:P.funcs[g]?=some fn) (lL:(fn.name == "runtime.NumGoroutine")=false) (hb:fn.body.isNone=true) (hn:Extern.findNext fn=none) (he:Extern.find fn=some Extern.BytealgIndexByte.indexByte):j9 P g AK:=by
 intro alL s E w vals u s' r hv hp Y;unfold AK at Y;split at Y
 ·rename_i b c;split at Y
  ·rename_i hc;have:=bC Y;simp only [ak] at this;obtain⟨rfl,rfl⟩:=this;simp only [cA,VR,V.den] at hv;obtain⟨u1,r1,rfl,⟨rfl,MV⟩,u2,r2,rfl,rfl,rfl⟩:=hv;refine⟨rfl,hp,?_⟩;unfold lQ n6;rw [we hf lL hb hn he (Lib.run_indexByteString (dh b) (Int.ofNat c) w)];refine⟨E,eT.refl _ _ _,r,?_⟩;simp only [VR,V.den];have:(Int.ofNat c).toNat.toUInt8=UInt8.ofNat c:=rfl;rw [this];have Z:(dh b).data.toList=b.map UInt8.ofNat:=by simp [dh]
   rw [Z,GS hc MV]
  ·simp [T.leaf] at Y
 ·simp [T.leaf] at Y
def KN:List Nat->List Nat->Bool
 |[],_=>true
 |_::_,[]=>false
 |a::x,b::y=>if a.beq b then KN x y else false
def ye (c:List Nat):List Nat->Bool
 |[]=>KN c []
 |b::bs=>if KN c (b::bs) then true else ye c bs
def sY:List W->St->T (W×St):=fun args s=>match args with
 |[.str b,.str c]=>if b.length<4294967281 then .ret (.bool (.lit (ye c b)),s) else .fail
 |_=> .fail
theorem P6: ∀{c s:List Nat},(∀b∈c,b<256)->(∀b∈s,b<256)->(c.map UInt8.ofNat).isPrefixOf (s.map UInt8.ofNat)=KN c s
 |[],_,_,_=>by simp [KN]
 |_::_,[],_,_=>by simp [KN]
 |a::x,b::y,hc,hs=>by
  have ih:=P6 (c:=x) (s:=y) (fun z hz=>hc z (by simp [hz])) (fun z hz=>hs z (by simp [hz]));simp only [aw,List.isPrefixOf,KN];rw [H3 (hc a ad) (hs b ad),ih]
  grind
theorem index_ge (sub:List UInt8): ∀l:List UInt8,-1<=Lib.index l sub
 |[]=>by unfold Lib.index; split<;>omega
 |b::l=>by
  have ih:=index_ge sub l;unfold Lib.index
  grind
theorem CY {c:List Nat} (hc: ∀b∈c,b<256): ∀{s:List Nat},(∀b∈s,b<256)->Lib.contains (s.map UInt8.ofNat) (c.map UInt8.ofNat)=ye c s
 |[],_=>by cases c<;>simp [Lib.contains,Lib.index,ye,KN]
 |b::bs,h=>by
  have ih:=CY hc (s:=bs) fun z hz=>h z (by simp [hz]);have hp:=P6 hc h;simp only [aw] at hp;unfold Lib.contains at *;simp only [aw,Lib.index,ye]
  grind
theorem Mj [bI] {g:FuncId} (hg: ∀(ρ:Nat->Int) (ro:Nat->Prop) (w:World),bI.ok ρ ro w.heap->∀s sub:ByteArray,s.size<4294967281->Calls P g #[.string s,.string sub] w fun e w'=>e= .returned (.bool (Lib.contains s.data.toList sub.data.toList))/\w'=w)
 (lY: ∀(args:Array Value) (w:World),(callFunc g args).run P w= .ok (.enter g args) w):j9 P g sY:=by
 intro alL s E w vals u s' r hv hp Y;unfold sY at Y;split at Y
 ·rename_i b c;split at Y
  ·rename_i hlen;have:=bC Y;simp only [ak] at this;obtain⟨rfl,rfl⟩:=this;simp only [cA,VR] at hv;obtain⟨u1,r1,rfl,⟨rfl,MV⟩,u2,r2,rfl,⟨rfl,U0⟩,rfl⟩:=hv;refine⟨rfl,hp,?_⟩;unfold lQ n6;rw [lY];refine Calls.mono (hg E.ρ E.ro w r.jG (dh b) (dh c) (by simpa [dh,ByteArray.size] using hlen)) fun e w' ⟨he,hw⟩=>?_;subst hw;refine⟨_,he,E,eT.refl _ _ _,r,?_⟩;simp only [VR,SB.den];have Z: ∀l:List Nat,(dh l).data.toList=l.map UInt8.ofNat:=by intro l; simp [dh]
   rw [Z,Z,CY U0 MV]
  ·simp [T.leaf] at Y
 ·simp [T.leaf] at Y
end
end
end Go.As
end
section
namespace Go.As
noncomputable section
structure B3 where
 m:Nat
 k:Kind
 st:Nat
 rd:List Nat
structure ML where
 is:List B3
 nE:Nat
 rs:List (Nat×List Nat)
def N6:Kind->Kind->Bool
 | .pa,.pa=>true
 | .e,.e=>true
 | .r,.r=>true
 |_,_=>false
def xz:List Nat->List Nat->Bool
 |[],[]=>true
 |a::x,b::y=>Nat.beq a b&&xz x y
 |_,_=>false
def At:List Item->List B3->Bool
 |[],[]=>true
 |x::xs,d::ds=>Nat.beq x.m d.m&&N6 x.k d.k&&Nat.beq x.st d.st&&xz x.rd d.rd&&At xs ds
 |_,_=>false
def Aq:List (Item×List Nat)->List (Nat×List Nat)->Bool
 |[],[]=>true
 |(x,ks)::xs,(i,js)::ys=>Nat.beq x.i i&&xz ks js&&Aq xs ys
 |_,_=>false
def Af:Nat->List Oper->List B3->List Item
 |i,o::os,d::ds=> ⟨i,o,d.m,d.k,d.st,d.rd⟩ ::Af (i+1) os ds
 |_,_,_=>[]
def Tt (is:List Item):List (Nat×List Nat)->List (Item×List Nat)
 |[]=>[]
 |(i,ks)::r=>match eZ is i with
  |some x=>(x,ks)::Tt is r
  |none=>Tt is r
def statOf (all:List Oper) (H:ML):Stat:=⟨Af 0 all H.is,H.nE,Tt (Af 0 all H.is) H.rs⟩
def uS (tt:TT) (all:List Oper) (H:ML):Bool:=match stat tt all with
 |none=>false
 |some q=>At q.is H.is&&Nat.beq q.nE H.nE&&Aq q.rs H.rs
theorem TV {a b:Kind} (h:N6 a b=true):a=b:=by cases a<;>cases b<;>simp [N6] at h<;>rfl
theorem Az: ∀{a b:List Nat},xz a b=true->a=b
 |[],[],_=>rfl
 |[],_::_,h=>by simp [xz] at h
 |_::_,[],h=>by simp [xz] at h
 |a::x,b::y,h=>by simp only [xz,an] at h;rw [aq h.1,Az h.2]
theorem GP {tt:TT} {all:List Oper} {ms:List Nat}: ∀{os:List Oper} {i n:Nat} {ds:List B3},At (items tt all ms os i n) ds=true->items tt all ms os i n=Af i os ds
 |[],i,n,ds,h=>by cases ds<;>simp [items,At,Af] at *
 |o::os,i,n,ds,h=>by
  cases ds with
  |nil=>simp [items,At] at h
  |cons d ds=> simp only [items,At,an] at h;obtain⟨⟨⟨⟨U,Z⟩,h3⟩,h4⟩,h5⟩:=h;have ih:=GP h5;simp only [items,Af];rw [ih,aq U,TV Z,aq h3,Az h4]
theorem P4 {is:List Item}: ∀{xs:List (Item×List Nat)} {ys:List (Nat×List Nat)},(∀p∈xs,eZ is p.1.i=some p.1)->Aq xs ys=true->Tt is ys=xs
 |[],[],_,_=>rfl
 |[],_::_,_,h=>by simp [Aq] at h
 |_::_,[],_,h=>by simp [Aq] at h
 |(x,ks)::xs,(i,js)::ys,hm,h=>by simp only [Aq,an] at h;have U:=hm (x,ks) ad;simp only [Tt];rw [<- aq h.1.1,U,<- Az h.1.2,P4 (fun p hp=>hm p (by simp [hp])) h.2]
theorem Ki: ∀{i:Nat} {os:List Oper} {ds:List B3} {x:Item},x∈Af i os ds->i<=x.i/\eZ (Af i os ds) (x.i-i)=some x
 |_,[],_,_,h=>by simp [Af] at h
 |_,_::_,[],_,h=>by simp [Af] at h
 |i,o::os,d::ds,x,h=>by
  simp only [Af,ay] at h ⊢;rcases h with rfl|h
  ·simp [eZ]
  ·obtain⟨U,Z⟩:=Ki h;refine⟨J,?_⟩;have:x.i-i=(x.i-(i+1))+1:=J
   rw [this];exact Z
theorem AN {tt:TT} {all:List Oper} {H:ML} (h:uS tt all H=true):stat tt all=some (statOf all H):=by
 unfold uS at h;split at h
 ·grind
 ·rename_i q hq;rw [hq];simp only [an] at h;obtain⟨⟨U,Z⟩,h3⟩:=h;have Ok:=hq;unfold stat at Ok;simp only at Ok;split at Ok
  ·simp only [ah] at Ok;subst Ok;have e1:=GP U;simp only at Z h3
   have e3:Tt (Af 0 all H.is) H.rs=_:=P4 (is:=Af 0 all H.is) (by
    intro p hp;simp only [aQ,al8] at hp;obtain⟨x,⟨hx,_⟩,rfl⟩:=hp;rw [e1] at hx;have:=(Ki hx).2
    simpa using this) h3
   unfold statOf;rw [e3,<- aq Z,<- e1]
  grind
end
end Go.As
end
section
namespace Go.As
noncomputable section
def wV (pos:Nat->Nat) (o:Oper):Oper:={ o with after:=o.after.map (fun e=>{ e with on:=pos e.on }),guard:=match o.guard with |none=>none|some (j,b)=>some (pos j,b) }
def posOf:List Nat->Nat->Nat
 |[],_=>0
 |x::xs,i=>match Nat.beq x i with
  |true=>0
  |false=>posOf xs i+1
def Bu (pos:Nat->Nat) (all:List Oper):List Nat->List Oper
 |[]=>[]
 |i::is=>match eZ all i with
  |some o=>wV pos o::Bu pos all is
  |none=>[]
def gb (ord:List Nat) (all:List Oper):List Oper:=Bu (posOf ord) all ord
def Is (ord:List Nat) (n:Nat):Bool:=
 Nat.beq ord.length n&&(List.range n).all (fun i=>match eZ ord (posOf ord i) with |some j=>Nat.beq i j|none=>false)&&
 (List.range n).all (fun j=>match eZ ord j with |some i=>Nat.blt i n&&Nat.beq (posOf ord i) j|none=>false)
theorem KO: ∀(ord:List Nat) (i:Nat),posOf ord i<=ord.length
 |[],_=>au _
 |x::xs,i=>by
  simp only [posOf,aM];split
  ·omega
  ·have:=KO xs i; omega
theorem Gd: ∀(ord:List Nat) (i:Nat),posOf ord i<ord.length->ord[posOf ord i]?=some i
 |[],_,h=>by simp [posOf] at h
 |x::xs,i,h=>by
  simp only [posOf,aM] at h ⊢;split
  ·rename_i he;simp_all
  ·rename_i he;rw [he] at h;simp only at h;simpa using Gd xs i J
structure Perm (n:Nat) (ord:List Nat):Prop where
 len:ord.length=n
 at': ∀i,i<n->ord[posOf ord i]?=some i
 back: ∀j,j<n->∃i,ord[j]?=some i/\i<n/\posOf ord i=j
theorem TE {ord:List Nat} {n:Nat} (h:Is ord n=true):Perm n ord:=by
 unfold Is at h;simp only [an,aW,alY] at h;obtain⟨⟨U,Z⟩,h3⟩:=h;refine⟨aq U,fun i hi=>?_,fun j hj=>?_⟩
 ·have:=Z i hi;split at this
  all_goals simp_all [dq]
 simp_all [dq]
theorem Perm.lt {n:Nat} {ord:List Nat} (p:Perm n ord) {i:Nat} (hi:i<n):posOf ord i<n:=by
 have:=p.at' i hi;rw [<- p.len]
 grind
theorem Perm.ge {n:Nat} {ord:List Nat} (p:Perm n ord) {i:Nat} (hi: ¬i<n):posOf ord i=n:=by
 have U:=KO ord i;rw [p.len] at U;rcases aT (posOf ord i) n with h|h
 ·have Z:=Gd ord i (by rw [p.len]; exact h);obtain⟨k,h3,h4,_⟩:=p.back _ h
  grind
 ·omega
theorem Perm.inj {n:Nat} {ord:List Nat} (p:Perm n ord) {i j:Nat} (hi:i<n) (hj:j<n) (h:posOf ord i=posOf ord j):i=j:=by
 have U:=p.at' i hi;have Z:=p.at' j hj
 grind
theorem Gh {pos:Nat->Nat} {all:List Oper}: ∀{is:List Nat},(∀i∈is,i<all.length)->∀j:Nat,(Bu pos all is)[j]?=(is[j]?).bind fun i=>(all[i]?).map (wV pos)
 |[],_,j=>by simp [Bu]
 |i::is,h,j=>by
  have hi:=h i ad;have ih:=Gh (pos:=pos) (is:=is) fun k hk=>h k (by simp [hk])
  grind [Bu,dq]
section
variable {P:Program}
theorem nK {ord:List Nat} {ops:Array Oper} (p:Perm ops.size ord) {i:Nat} (hi:i<ops.size):(gb ord ops.toList)[posOf ord i]?=(ops[i]?).map (wV (posOf ord)):=by
 unfold gb
 rw [Gh (by
  intro k hk;obtain⟨j,hj,rfl⟩:=amu hk;obtain⟨i',U,Z,_⟩:=p.back j (by rw [<- p.len]; exact hj);rw [aL hj] at U;simp only [ah] at U;rw [U]
  simpa using Z),p.at' i hi]
 simp
theorem uG {ord:List Nat} {ops:Array Oper} (p:Perm ops.size ord):(gb ord ops.toList).length=ops.size:=by
 have h0: ∀j,j<ops.size->(gb ord ops.toList)[j]?.isSome=true:=by
  intro j hj;obtain⟨i,_,Z,h3⟩:=p.back j hj
  grind [nK]
 have hle:(gb ord ops.toList).length<=ops.size:=by
  have: ∀(is:List Nat),(Bu (posOf ord) ops.toList is).length<=is.length:=by
   intro is
   induction is with
   |nil=>simp [Bu]
   |cons i is ih=>simp only [Bu]; split<;>simp; omega
  have:=this ord;rw [p.len] at this;exact this
 rcases aT (gb ord ops.toList).length ops.size with h|h
 all_goals grind
theorem Xd (pos:Nat->Nat) (o:Oper) (a:Act) (w:World) (K:Act->World->Prop) (Q:Exit->Act->World->Prop):(wV pos o).wp P a w K Q=o.wp P a w K Q:=rfl
theorem NN (pos:Nat->Nat) (o:Oper) (a:Act) (w:World):(wV pos o).asks P a w=o.asks P a w:=rfl
theorem HW {ord:List Nat} {ops:Array Oper} (p:Perm ops.size ord) (tmps:Array Value) (j:Nat):yielded (gb ord ops.toList).toArray tmps (posOf ord j)=yielded ops tmps j:=by
 unfold yielded
 have:((gb ord ops.toList).toArray[posOf ord j]?).bind (·.dst)=(ops[j]?).bind (·.dst):=by
  rw [anz];rcases aT j ops.size with h|h
  ·rw [nK p h];cases ops[j]?<;>rfl
  ·rw [p.ge J,amD (by rw [uG p]; exact au _),anA h]
 grind
theorem Kp {ord:List Nat} {ops:Array Oper} (p:Perm ops.size ord) (tmps:Array Value) (o:Oper) :
 Region.wanted (wV (posOf ord) o) (yielded (gb ord ops.toList).toArray tmps)=Region.wanted o (yielded ops tmps):=by
 unfold Region.wanted wV
 cases hg:o.guard with
 |none=>rfl
 |some g=> obtain⟨j,b⟩:=g;simp only;rw [HW p]
theorem jJ {md:Region.Mode} {ops:Array Oper} {listed:Array Bool} {i:Nat}:i∈Region.ready md ops listed↔∃o,ops[i]?=some o/\listed.getD i true=false/\∀e∈o.after.toList,Region.binds md e=true->listed.getD e.on false=true:=by
 unfold Region.ready;simp only [al8,alY,an,al5];constructor
 ·rintro⟨U,Z,h3⟩;have e:=anN U;refine⟨_,e,Z,?_⟩;rw [e] at h3;simp only [alN,ax,Array.all_eq_true_iff_forall_mem] at h3;intro x hx hb
  grind
 grind
theorem xt {md:Region.Mode} {ord:List Nat} {ops:Array Oper} (p:Perm ops.size ord) {listed iF:Array Bool} (hz:listed.size=ops.size) (IW:iF.size=ops.size) (Y: ∀i,i<ops.size->iF[posOf ord i]?=listed[i]?) {i:Nat} (hi:i<ops.size) :
 posOf ord i∈Region.ready md (gb ord ops.toList).toArray iF↔i∈Region.ready md ops listed:=by
 have hg: ∀(k:Nat) (d:Bool),iF.getD (posOf ord k) d=listed.getD k d:=by
  intro k d;simp only [amo];rcases aT k ops.size with h|h
  ·grind
  ·rw [p.ge J,anA J,anA J]
 rw [jJ,jJ,anz,nK p hi,hg];constructor
 ·rintro⟨o,U,Z,h3⟩;rw [aP] at U;obtain⟨o0,h0,rfl⟩:=U;refine⟨o0,h0,Z,fun e he hb=>?_⟩
  have:=h3 { e with on:=posOf ord e.on } (by
   simp only [wV,anl,aQ]
   exact⟨e,he,rfl⟩) hb
  simp_all
 ·rintro⟨o,U,Z,h3⟩;refine⟨wV (posOf ord) o,by rw [U]; rfl,Z,fun e he hb=>?_⟩;simp only [wV,anl,aQ] at he;obtain⟨e0,he0,rfl⟩:=he;show iF.getD (posOf ord e0.on) false=true;rw [hg];exact h3 e0 he0 hb
theorem Nd {md:Region.Mode} {ord:List Nat} {ops:Array Oper} (p:Perm ops.size ord) {Q:Exit->Act->World->Prop}: ∀(fuel:Nat) (listed iF:Array Bool) (a:Act) (w:World),listed.size=ops.size->iF.size=ops.size->
 (∀i,i<ops.size->iF[posOf ord i]?=listed[i]?)->wpAny P md (gb ord ops.toList).toArray Q fuel iF a w->wpAny P md ops Q fuel listed a w:=by
 have ah4: ∀(listed iF:Array Bool),listed.size=ops.size->iF.size=ops.size->(∀i,i<ops.size->iF[posOf ord i]?=listed[i]?)->
  (Region.ready md (gb ord ops.toList).toArray iF= []↔Region.ready md ops listed= []):=by
  intro listed iF hz IW Y;constructor
  ·intro h;rw [am7] at h ⊢;intro i hm
   have hi:i<ops.size:=by
    grind [jJ]
   exact h _ ((xt p hz IW Y hi).2 hm)
  ·intro h;rw [am7] at h ⊢;intro j hm
   have hj:j<ops.size:=by
    grind [jJ]
   obtain⟨i,_,Z,h3⟩:=p.back j hj;subst h3;exact h _ ((xt p hz IW Y Z).1 hm)
 intro fuel
 induction fuel with
 |zero=> intro listed iF a w hz IW Y h;exact⟨(ah4 _ _ hz IW Y).1 h.1,h.2⟩
 |succ fuel ih=>
  intro listed iF a w hz IW Y h;refine⟨fun h0=>h.1 ((ah4 _ _ hz IW Y).2 h0),fun i hm=>?_⟩
  have hi:i<ops.size:=by
   grind [jJ]
  have hh:=h.2 _ ((xt p hz IW Y hi).2 hm)
  have BC: ∀a w,wpAny P md (gb ord ops.toList).toArray Q fuel (iF.setIfInBounds (posOf ord i) true) a w->wpAny P md ops Q fuel (listed.setIfInBounds i true) a w:=by
   intro a w hw;refine ih _ _ a w (by simp [hz]) (by simp [IW]) (fun k hk=>?_) hw;rw [anB,anB];by_cases hik:i=k
   ·grind
   ·rw [af hik,af (fun h=>hik (p.inj hi hk h)),Y k hk]
  have Z:=wpOp_mono BC hh;unfold wpOp at Z ⊢;rw [anz,nK p hi] at Z
  cases ho:ops[i]? with
  |none=>rw [ho] at Z; exact Z
  |some o=> rw [ho] at Z;simp only [alN] at Z ⊢;rw [Kp p,Xd,NN] at Z;exact Z
structure p! where
 ord:List Nat
 h:ML
def ZY (tt:TT) (H:Nat->Nat->Option p!) (call:ei) (g id:Nat) (all:List Oper) (s:St):T St:=match H g id with
 |some p=>match p.ord with
  |[]=>EK tt call all (statOf all p.h) s
  |o::os=>match gb (o::os) all with
   |i_=>EK tt call i_ (statOf i_ p.h) s
 |none=> .fail
def afW (tt:TT) (H:Nat->Nat->Option p!) (g id:Nat) (all:List Oper):Bool:=match H g id with
 |some p=>match p.ord with
  |[]=>uS tt all p.h
  |o::os=>Is (o::os) all.length&&uS tt (gb (o::os) all) p.h
 |none=>true
theorem ZX [bI] {tt:TT} (cJ:eA P tt) (hm:P.follows .mixedOrders=true) {H:Nat->Nat->Option p!} {call:ei} (hc:iq P call) (g:Nat):vv P (afW tt H g) (ZY tt H call g):=by
 intro id ops hk E s s' a w Q hd fit h hq;unfold afW at hk;unfold ZY at h;split at hk
 ·rename_i p hp;rw [hp] at h;simp only at h;split at hk
  ·rename_i he;rw [he] at h;have:=AN hk;refine aaI cJ hm hc id ops E s s' a w Q hd fit ?_ hq
   grind [draw]
  ·rename_i o os he;rw [he] at h;simp only at h;simp only [an] at hk;have hp:=TE hk.1;have hp:Perm ops.size (o::os):=by simpa using hp
   have:=AN hk.2;refine wp_region_any hm ?_
   have D6: ∀x∈((gb (o::os) ops.toList).toArray).toList,∀d,x.dst=some d->d<a.tmps.size:=by
    intro x hx d hxd;obtain⟨j,hj,rfl⟩:=amu hx;have GZ:j<ops.size:=by rw [<- uG hp]; exact hj
    obtain⟨i,_,Z,h3⟩:=hp.back j GZ;have hg:=nK hp Z;rw [h3] at hg
    have hx2:(gb (o::os) ops.toList)[j]?=some ((gb (o::os) ops.toList).toArray.toList[j]):=by
     grind
    rw [hx2] at hg;rw [anN Z] at hg;simp only [alN,ah] at hg;rw [hg] at hxd;exact hd (ops[i]) ad d hxd
   have key:=EJ (ops:=(gb (o::os) ops.toList).toArray) cJ hc D6 fit (by
    unfold draw;rw [this]
    exact h) hq
   have ik:(gb (o::os) ops.toList).toArray.size=ops.size:=by simpa using uG hp
   rw [ik] at key;refine Nd hp _ _ _ _ _ ad ad (fun i hi=>?_) key;rw [amE,amE,ag hi,ag (hp.lt hi)]
 grind [T.leaf]
end
end
end Go.As
end
section
namespace Go.As
noncomputable section
def Gj (h:Hp):List Nat->Tr dM->Tr dM
 |[],t=>t
 |i::is,t=>match h.get i with
  |some o=>Gj h is (t.put i (some o))
  |none=>Gj h is t
theorem Aw {h:Hp}: ∀(is:List Nat) (t:Tr dM),(∀id o,t.get id=some o->h.get id=some o)->∀id o,(Gj h is t).get id=some o->h.get id=some o
 |[],_,ht,id,o,hg=>ht id o hg
 |i::is,t,ht,id,o,hg=>by
  simp only [Gj] at hg;split at hg
  ·rename_i x hx;refine Aw is _ (fun j y hy=>?_) id o hg
   grind [Tr.bQ]
  ·exact Aw is t ht id o hg
def Ar:List (V×List W)->List (V×List W)->Bool
 |[],[]=>true
 |(i,a)::x,(j,b)::y=>eW i j&&iC a b&&Ar x y
 |_,_=>false
theorem F3: ∀{a b:List (V×List W)},Ar a b=true->a=b
 |[],[],_=>rfl
 |[],_::_,h=>by simp [Ar] at h
 |_::_,[],h=>by simp [Ar] at h
 |(i,a)::x,(j,b)::y,h=>by simp only [Ar,an] at h;rw [cM _ _ h.1.1,fR _ _ h.1.2,F3 h.2]
def Ii:dM->dM->Bool
 | .cells a e,.cells b f=>iC a b&&Nat.beq e f
 | .vec a t e x,.vec b u f y=>eW a b&&Nat.beq t u&&Nat.beq e f&&Ar x y
 |_,_=>false
theorem NH {a b:dM} (h:Ii a b=true):a=b:=by
 cases a<;>cases b<;>simp only [Ii,aK,an] at h
 ·rw [fR _ _ h.1,aq h.2]
 ·rw [cM _ _ h.1.1.1,aq h.1.1.2,aq h.1.2,F3 h.2]
def Bn {α:Type} (f:α->α->Bool):Tr α->Tr α->Bool
 | .nil,.nil=>true
 | .node v l r,.node u x y=>(match v,u with |some a,some b=>f a b|none,none=>true|_,_=>false)&&Bn f l x&&Bn f r y
 |_,_=>false
theorem yp {α:Type} {f:α->α->Bool} (hf: ∀a b,f a b=true->a=b): ∀(a b:Tr α),Bn f a b=true->a=b
 | .nil,b,h=>by cases b<;>simp [Bn] at h; rfl
 | .node v l r,b,h=>by
   cases b with
   |nil=>simp [Bn] at h
   |node u x y=>
    simp only [Bn,an] at h;rw [yp hf l x h.1.2,yp hf r y h.2]
    grind
def inL (i:Nat):List Nat->Bool
 |[]=>false
 |j::l=>match Nat.beq i j with
  |true=>true
  |false=>inL i l
theorem IV {i:Nat}: ∀{l:List Nat},inL i l=true↔i∈l
 |[]=>by simp [inL]
 |j::l=>by
  simp only [inL,ay];split
  ·rename_i h; simp [aq h]
  ·rename_i h; rw [IV]; simp [amJ h]
def su (i:Nat):List Nat->List Nat
 |[]=>[]
 |j::l=>match Nat.beq i j with
  |true=>su i l
  |false=>j::su i l
theorem qn {i k:Nat}: ∀{l:List Nat},k∈su i l↔k∈l/\k≠i
 |[]=>by simp [su]
 |j::l=>by
  simp only [su];split
  ·rename_i h;have:=aq h;subst this;rw [qn]
   grind
  ·rename_i h;have:=amJ h;simp only [ay];rw [qn]
   grind
def GD (all:List Oper) (rem:List Nat) (i:Nat):Bool:=match eZ all i with
 |some o=>o.after.toList.all fun e=>!Region.binds .any e||(!inL e.on rem&&Nat.blt e.on all.length)
 |none=>false
def My (tt:TT) (call:ei) (all:List Oper) (pc:List (SB×Bool)) (tS:Tr W) (tH:Hp):Nat->List Nat->Tr W->Hp->Bool
 |0,rem,S,H=>match rem with
  |[]=>Bn eK S tS&&Bn Ii H.m tH.m&&Nat.beq H.next tH.next&&(match H.res with |none=>true|_=>false)
  |_=>false
 |n+1,rem,S,H=>match rem with
  |[]=>false
  |_=>rem.any (GD all rem)&&rem.all fun i=>match GD all rem i with
   |false=>true
   |true=>match eZ all i with
    |some o=>match U6 tt call all o ⟨S,H,pc⟩ with
     | .ret (v,s')=>My tt call all pc tS tH n (su i rem) (uz S o.dst v) s'.h
     |_=>false
    |none=>false
section
variable {P:Program}
theorem WZ {E:En} {h:Array Obj} {S:Tr W} {a:Act} (sr:SR E h S a) {d:Option Nat} {v:W} {u:Value} (hd: ∀t,d=some t->t<a.tmps.size) (hv:VR E h v u):SR E h (uz S d v) (a.put d u):=by
 cases d with
 |none=>exact sr
 |some t=>exact sr.put (hd t rfl) hv
theorem h! [bI] {tt:TT} (cJ:eA P tt) {call:ei} (hc:iq P call) {ops:Array Oper} {ρ:Nat->Int} {pc:List (SB×Bool)} (hpc:bV ρ pc) {tS:Tr W} {tH:Hp} (Oe:tH.res=none) {Q:Exit->Act->World->Prop} {m:Nat} (hd: ∀o∈ops.toList,∀d,o.dst=some d->d<m) :
 ∀(n:Nat) (rem:List Nat) (S:Tr W) (H:Hp) (E:En) (a:Act) (w:World) (listed:Array Bool),My tt call ops.toList pc tS tH n rem S H=true->E.ρ=ρ->bO E H w->SR E w.heap S a->a.tmps.size=m->listed.size=ops.size->
  (∀i,i<ops.size->(listed[i]?=some true↔i∉rem))->(∀i∈rem,i<ops.size)->
  (∀(a':Act) (w':World) (E':En),eT E H w E' tH w'->bO E' tH w'->SR E' w'.heap tS a'->a'.tmps.size=m->a'.defers=a.defers->Q .normal a' w')->wpAny P .any ops Q n listed a w:=by
 intro n;have jt: ∀(i:Nat),eZ ops.toList i=ops[i]?:=fun i=>by rw [dq,alM]
 have Xe: ∀(rem:List Nat) (listed:Array Bool),listed.size=ops.size->(∀i,i<ops.size->(listed[i]?=some true↔i∉rem))->∀i,i∈Region.ready .any ops listed->i∈rem/\GD ops.toList rem i=true/\i<ops.size:=by
  intro rem listed ik Y i hi;obtain⟨o,ho,U,Z⟩:=jJ.1 hi;have wK:i<ops.size:=(alW.1 ho).1
  have hf:listed[i]?=some false:=by simp_all
  refine⟨?_,?_,wK⟩
  ·grind
  ·unfold GD;rw [jt,ho];simp only [aW];intro e he
   cases hb:Region.binds .any e with
   |false=>rfl
   |true=>
    have:=Z e he hb
    have fW:e.on<ops.size:=by
     grind
    simp only [amQ,amS,an,al5];refine⟨?_,by simpa [amF] using fW⟩
    cases akD:inL e.on rem with
    |false=>rfl
    |true=> exfalso;have hm:=IV.1 akD;simp_all
 have aes: ∀(rem:List Nat) (listed:Array Bool),listed.size=ops.size->(∀i,i<ops.size->(listed[i]?=some true↔i∉rem))->(∀i∈rem,i<ops.size)->rem.any (GD ops.toList rem)=true->Region.ready .any ops listed≠[]:=by
  intro rem listed ik Y hr aiP nO;rw [anC] at aiP;obtain⟨i,hi,hm⟩:=aiP;have wK:=hr i hi
  have:i∈Region.ready .any ops listed:=by
   rw [jJ];unfold GD at hm;rw [jt] at hm;split at hm
   ·rename_i o ho;refine⟨o,ho,?_,fun e he hb=>?_⟩
    ·have e1:listed[i]?=some (listed[i]'J):=by simp [ik,wK]
     simp only [amo,e1,ax]
     grind
    ·rw [aW] at hm;have:=hm e he;rw [hb] at this;simp only [amQ,amS,an,al5] at this;obtain⟨this,fW⟩:=this;have fW:e.on<ops.size:=by simpa [amF] using fW
     have aix:e.on∉rem:=fun h=>by rw [IV.2 h] at this; simp at this
     simp_all
   grind
  grind
 induction n with
 |zero=>
  intro rem S H E a w listed h hρ r sr ha ik Y hr hq;simp only [My] at h;split at h
  ·simp only [an] at h;obtain⟨⟨⟨U,Z⟩,h3⟩,h4⟩:=h;have e1:=yp jI _ _ U;have e2:=yp (fun _ _=>NH) _ _ Z;have e3:=aq h3
   have e4:H.res=none:=by
    grind
   have eH:H=tH:=by
    obtain⟨m1,n1,r1⟩:=H;obtain⟨m2,n2,r2⟩:=tH
    grind
   subst e1 eH;refine⟨?_,hq a w E (eT.refl _ _ _) r sr ha rfl⟩;rw [am7];intro i hi;have:=(Xe [] listed ik Y i hi).1
   grind
  grind
 |succ n ih=>
  intro rem S H E a w listed h hρ r sr ha ik Y hr hq;simp only [My] at h;split at h
  ·grind
  ·rename_i gp;simp only [an] at h;refine⟨fun h0=>absurd h0 (aes rem listed ik Y hr h.1),fun i hi=>?_⟩;obtain⟨g1,g2,g3⟩:=Xe rem listed ik Y i hi;have I1:=(aW.1 h.2) i g1;rw [g2] at I1;simp only at I1;split at I1
   ·rename_i o ho;have yU:ops[i]?=some o:=by rw [<- jt]; exact ho
    split at I1
    ·rename_i v s' hev;have akR:=JG cJ hc (ops:=ops) (o:=o) (s:=⟨S,H,pc⟩) (s':=s') (v:=v) (ρ:=ρ) hpc (by rw [hev]; rfl);refine akR.wpOp hρ r sr yU fun u E' w' st r' hv=>?_
     have hdo: ∀t,o.dst=some t->t<a.tmps.size:=by intro t ht;rw [ha];exact hd o (Array.mem_toList_iff.2 (anv yU)) t ht
     have sr':SR E' w'.heap (uz S o.dst v) (a.put o.dst u):=WZ (sr.cf (st.keeps r)) hdo hv;refine ih (su i rem) _ _ E' (a.put o.dst u) w' (listed.setIfInBounds i true) I1 (st.ρ.trans hρ) r' sr' (by rw [Dv]; exact ha) (by simpa using ik) ?_ ?_ ?_
     ·intro k hk;rw [anB,qn]
      grind
     ·intro k hk;exact hr k (qn.1 hk).1
     ·intro a' w2 E2 tW r2 sr2 hs2 kc;exact hq a' w2 E2 (st.trans tW) r2 sr2 hs2 (by rw [kc,As.put_defers])
    grind
   grind
end
end
end Go.As
end
section
namespace Go.As
noncomputable section
def EG (o:Oper) (j:Nat):Bool:=o.after.toList.any fun e=>Region.binds .any e&&Nat.beq e.on j
def Ig (n1:Nat) (all:List Oper):Bool:=
 Nat.blt 0 n1&&Nat.ble n1 all.length&&
 (List.range all.length).all (fun j=>match eZ all j with
  |some o=>match Nat.blt j n1 with
   |true=>(o.after.toList.all fun e=>!Region.binds .any e||Nat.blt e.on j)&&(match o.guard with |some (k,_)=>Nat.blt k n1|none=>true)
   |false=>EG o (n1-1)
  |none=>false)&&
 (match eZ all (n1-1) with
  |some o=>(List.range (n1-1)).all fun i=>EG o i
  |none=>false)
structure Pr (n1:Nat) (ops:Array Oper):Prop where
 pos:0<n1
 le:n1<=ops.size
 back: ∀(i:Nat) (o:Oper),i<n1->ops[i]?=some o->∀e∈o.after.toList,Region.binds .any e=true->e.on<i
 guard: ∀(i:Nat) (o:Oper),i<n1->ops[i]?=some o->∀k b,o.guard=some (k,b)->k<n1
 late: ∀(i:Nat) (o:Oper),n1<=i->ops[i]?=some o->∃e∈o.after.toList,Region.binds .any e=true/\e.on=n1-1
 last: ∀(o:Oper),ops[n1-1]?=some o->∀i,i<n1-1->∃e∈o.after.toList,Region.binds .any e=true/\e.on=i
theorem Hx {o:Oper} {j:Nat} (h:EG o j=true): ∃e∈o.after.toList,Region.binds .any e=true/\e.on=j:=by unfold EG at h;rw [anC] at h;simp_all
theorem NB {n1:Nat} {ops:Array Oper} (h:Ig n1 ops.toList=true):Pr n1 ops:=by
 have jt: ∀(i:Nat),eZ ops.toList i=ops[i]?:=fun i=>by rw [dq,alM]
 unfold Ig at h;simp only [an] at h;obtain⟨⟨⟨U,Z⟩,h3⟩,h4⟩:=h;have U:0<n1:=by simpa [amF] using U
 have Z:n1<=ops.size:=by simpa using al3 Z
 rw [aW] at h3
 have h3: ∀(i:Nat) (o:Oper),ops[i]?=some o->(match Nat.blt i n1 with
  |true=>(o.after.toList.all fun e=>!Region.binds .any e||Nat.blt e.on i)&&(match o.guard with |some (k,_)=>Nat.blt k n1|none=>true)
  |false=>EG o (n1-1))=true:=by
  intro i o ho;have hi:i<ops.size:=(alW.1 ho).1;have:=h3 i (alY.2 (by simpa using hi));rw [jt,ho] at this;exact this
 refine⟨U,Z,?_,?_,?_,?_⟩
 ·intro i o hi ho e he hb;have:=h3 i o ho;rw [show Nat.blt i n1=true by simpa [amF] using hi] at this;simp only [an] at this;have:=(aW.1 this.1) e he;simp_all
 ·intro i o hi ho k b hg;have:=h3 i o ho;rw [show Nat.blt i n1=true by simpa [amF] using hi] at this;simp_all
 ·intro i o hi ho;have:=h3 i o ho
  rw [show Nat.blt i n1=false by
   cases hb:Nat.blt i n1 with
   |false=>rfl
   |true=>rw [amF] at hb; omega] at this
  exact Hx this
 ·intro o ho i hi;rw [jt,ho] at h4;exact Hx ((aW.1 h4) i (alY.2 hi))
section
variable {P:Program}
theorem wp_exit {o:Oper} {a:Act} {w:World} {K:Act->World->Prop} {Q1 Q:Exit->Act->World->Prop} (h: ∀e a w,e≠.normal->Q1 e a w->Q e a w) (hh:o.wp P a w K Q1):o.wp P a w K Q:=by
 have Y:LetsOut Q1->LetsOut Q:=fun⟨a,w,U⟩=> ⟨a,w,h _ _ _ ad U⟩;unfold Oper.wp at *;generalize (execOp a.eval o).run P w=r at *
 cases r with
 |ok n w'=>
  cases n<;>simp only [Oper.upon] at hh ⊢<;>
   first
    |exact hh
    |exact Calls.mono hh (fun e w'' he=>by cases e<;>first |exact he|exact h _ _ _ ad he|exact Y he)
 |halt x w'=>cases x<;>simp only [Oper.upon] at hh ⊢<;>first |exact hh|exact h _ _ _ ad hh
theorem Lh {l l':Nat->Bool} {i:Nat} (U:l i=false) (Z:l' i=true) (h: ∀j,j≠i->l' j=l j): ∀n,i<n->left l' n+1=left l n
 |0,hi=>by omega
 |n+1,hi=>by
  simp only [left];by_cases wK:i=n
  ·subst wK
   have: ∀m,m<=i->left l' m=left l m:=by
    intro m
    induction m with
    |zero=>intro _; rfl
    |succ m ih=>
     intro hm
     grind [left]
   grind
  ·have:=Lh U Z h n J
   grind
theorem Li {l:Nat->Bool}: ∀n,(∀i,i<n->l i=true)->left l n=0
 |0,_=>rfl
 |n+1,h=>by simp only [left];rw [Li n (fun i hi=>h i J),h n J];rfl
def u9 (n1 n:Nat):Array Bool:=(Array.range n).map fun i=>decide (i<n1)
theorem Km {n1:Nat} {ops:Array Oper} (sf:Pr n1 ops) {Q Q1:Exit->Act->World->Prop} (hq: ∀e a w,e≠.normal->Q1 e a w->Q e a w) (hn: ∀a w,Q1 .normal a w->wpAny P .any ops Q (ops.size-n1) (u9 n1 ops.size) a w) :
 ∀(f:Nat) (l1 l:Array Bool) (a:Act) (w:World),l1.size=n1->l.size=ops.size->(∀i,i<n1->l[i]?=l1[i]?)->(∀i,n1<=i->i<ops.size->l[i]?=some false)->left (fun i=>l1.getD i true) n1=f->(l1[n1-1]?=some true->f=0)->
  wpAny P .any (ops.toList.take n1).toArray Q1 f l1 a w->wpAny P .any ops Q (f+(ops.size-n1)) l a w:=by
 have hR: ∀i,i<n1->(ops.toList.take n1).toArray[i]?=ops[i]?:=by
  intro i hi
  grind
 have hRs:(ops.toList.take n1).toArray.size=n1:=by
  have:=sf.le
  grind
 have qR:LetsOut Q1->LetsOut Q:=fun⟨a,w,U⟩=> ⟨a,w,hq _ _ _ ad U⟩
 have uT: ∀(l:Array Bool) (i:Nat),i<l.size->(l.getD i true=true↔l[i]?=some true)/\(l.getD i false=true↔l[i]?=some true):=by intro l i hi;simp_all
 intro f
 induction f with
 |zero=>
  intro l1 l a w U Z h3 h4 h5 h6 hw;have AQ:=AG n1 h5
  have:l=u9 n1 ops.size:=by
   grind [u9]
  rw [this,aA];exact hn a w hw.2
 |succ f ih=>
  intro l1 l a w U Z h3 h4 h5 h6 hw;rw [show f+1+(ops.size-n1)=(f+(ops.size-n1))+1 by omega];have hle:=sf.le;have lK:=sf.pos;have aca:l1[n1-1]?=some true->False:=fun h=>by have:=h6 h; omega
  refine⟨fun nO=>?_,fun i hi=>?_⟩
  ·exfalso
   have AQ: ∀i,i<n1->l[i]?=some true:=by
    intro i
    induction i using Nat.strongRecOn with
    |_ i px=>
     intro hi;apply Classical.byContradiction;intro Fw;have hio:ops[i]?=some (ops[i]'J):=ad
     have:i∈Region.ready .any ops l:=by
      rw [jJ];refine⟨_,hio,?_,fun e he hb=>?_⟩
      ·grind
      ·have fW:=sf.back i _ hi hio e he hb
       grind
     grind
   grind
  ·obtain⟨o,ho,g1,g2⟩:=jJ.1 hi;have wK:i<ops.size:=(alW.1 ho).1
   have hi1:i<n1:=by
    rcases aT i n1 with h|h
    ·exact h
    ·exfalso;obtain⟨e,e1,e2,e3⟩:=sf.late i o h ho
     grind
   have AM:l1.getD i true=false:=by
    grind
   have hed: ∀e∈o.after.toList,Region.binds .any e=true->l1.getD e.on false=true:=by
    intro e he hb
    grind
   have hr1:i∈Region.ready .any (ops.toList.take n1).toArray l1:=by
    rw [jJ]
    grind
   have py:=hw.2 i hr1
   have ab7: ∀a w,wpAny P .any (ops.toList.take n1).toArray Q1 f (l1.setIfInBounds i true) a w->wpAny P .any ops Q (f+(ops.size-n1)) (l.setIfInBounds i true) a w:=by
    intro a w hw2
    have Ru:left (fun j=>(l1.setIfInBounds i true).getD j true) n1=f:=by
     have:=Lh (l:=fun j=>l1.getD j true) (l':=fun j=>(l1.setIfInBounds i true).getD j true) (i:=i) AM (by
      simp only [amo,Array.getElem?_setIfInBounds_self]
      split<;>rfl) (fun j hj=>by
      simp only [amo]
      rw [Array.getElem?_setIfInBounds_ne (fun e=>hj e.symm)]) n1 hi1
     omega
    refine ih _ _ a w (by simpa using U) (by simpa using Z) (fun k hk=>?_) (fun k MS CC=>?_) Ru (fun fW=>?_) hw2
    ·grind
    ·grind
    ·by_cases dS:i=n1-1
     ·rw [<- Ru];refine Li n1 fun k hk=>?_;by_cases CC:k=i
      ·grind
      ·obtain⟨e,e1,e2,e3⟩:=sf.last o (by rw [<- dS]; exact ho) k J
       grind
     grind
   have py:=wpOp_mono ab7 py;unfold wpOp at py ⊢;rw [hR i hi1,ho] at py;rw [ho];simp only at py ⊢
   have ail:Region.wanted o (yielded (ops.toList.take n1).toArray a.tmps)=Region.wanted o (yielded ops a.tmps):=by
    unfold Region.wanted
    cases hg:o.guard with
    |none=>rfl
    |some g=>
     obtain⟨k,b⟩:=g;simp only;have:=sf.guard i o hi1 ho k b hg;unfold yielded
     grind
   rw [ail] at py;split
   ·rename_i hwt;rw [ag hwt] at py;rcases py with h|⟨h,h'⟩
    ·exact .inl (wp_exit hq h)
    grind
   grind
end
end
end Go.As
end
section
namespace Go.As
noncomputable section
def Dr (n1 n:Nat):List Nat:=(List.range (n-n1)).map fun k=>k+n1
def ahR:W->List Nat
 | .ptr i _=>[i]
 | .slice i _ _ _=>[i]
 |_=>[]
def aeT (S:Tr W):List Nat->List Nat
 |[]=>[]
 |t::ts=>match S.get t with
  |some v=>ahR v++aeT S ts
  |none=>aeT S ts
def Rj (all:List Oper) (S:Tr W):List Nat->List Nat
 |[]=>[]
 |i::is=>match eZ all i with
  |some o=>aeT S (DE o.op)++Rj all S is
  |none=>Rj all S is
def W2 (tt:TT) (call:ei) (all:List Oper) (pc:List (SB×Bool)):List Nat->Tr W->Hp->Option (Tr W×Hp)
 |[],S,H=>some (S,H)
 |i::is,S,H=>match eZ all i with
  |some o=>match U6 tt call all o ⟨S,H,pc⟩ with
   | .ret (v,s')=>W2 tt call all pc is (uz S o.dst v) s'.h
   |_=>none
  |none=>none
def JM (tt:TT) (call:ei) (all:List Oper) (n1:Nat) (s1:St):T St:=
 match s1.h.res with
 |some _=> .fail
 |none=>match (⟨Gj s1.h (Rj all s1.bD (Dr n1 all.length)) .nil,s1.h.next,none⟩ : Hp) with
  |small=>match W2 tt call all s1.pc (Dr n1 all.length) s1.bD small with
   |some (S,H)=>match H.res with
    |none=>match Nat.beq H.next s1.h.next&&My tt call all s1.pc S H (all.length-n1) (Dr n1 all.length) s1.bD small with
     |true=> .ret ⟨S,⟨Tr.over H.m (Tr.minus small.m s1.h.m),s1.h.next,none⟩,s1.pc⟩
     |false=> .fail
    |some _=> .fail
   |none=> .fail
structure z7 where
 ord:List Nat
 n1:Nat
 h:ML
def Hz (tt:TT) (H:Nat->Nat->Option z7) (call:ei) (g id:Nat) (all:List Oper) (s:St):T St:=match H g id with
 |some p=>match p.n1 with
  |0=>match p.ord with
   |[]=>EK tt call all (statOf all p.h) s
   |o::os=>match gb (o::os) all with
    |i_=>EK tt call i_ (statOf i_ p.h) s
  |n1=>(EK tt call (all.take n1) (statOf (all.take n1) p.h) s).bind (JM tt call all n1)
 |none=> .fail
def JU (tt:TT) (H:Nat->Nat->Option z7) (g id:Nat) (all:List Oper):Bool:=match H g id with
 |some p=>match p.n1 with
  |0=>match p.ord with
   |[]=>uS tt all p.h
   |o::os=>Is (o::os) all.length&&uS tt (gb (o::os) all) p.h
  |n1=>Ig n1 all&&uS tt (all.take n1) p.h
 |none=>true
section
variable {P:Program}
theorem Gz {n1 n i:Nat} (h:n1<=n):i∈Dr n1 n↔n1<=i/\i<n:=by
 unfold Dr;rw [aQ];constructor
 ·rintro⟨k,hk,rfl⟩
  grind
 ·rintro⟨U,Z⟩;exact⟨i-n1,alY.2 J,J⟩
theorem TU (n:Nat): ∀m,m<=n->left (fun i=>(Array.replicate n false).getD i true) m=m:=by
 intro m
 induction m with
 |zero=>intro _; rfl
 |succ m ih=>
  intro hm;have fW:m<n:=J
  simp only [left];rw [ih J];simp [fW]
theorem Pf [bI] {tt:TT} (cJ:eA P tt) {call:ei} (hc:iq P call) {ops:Array Oper} {n1:Nat} (sf:Pr n1 ops) {E:En} {s s1 s':St} {a a1:Act} {w w1:World} {Q:Exit->Act->World->Prop}
 (hd: ∀o∈ops.toList,∀d,o.dst=some d->d<a.tmps.size) (ht:mQ E s a w s1 a1 w1) (h:(JM tt call ops.toList n1 s1).leaf E.ρ=some s') (hq: ∀a' w',mQ E s a w s' a' w'->Q .normal a' w') :
 wpAny P .any ops Q (ops.size-n1) (u9 n1 ops.size) a1 w1:=by
 obtain⟨d1,z1,E1,Dg,f1⟩:=ht;have hlen:ops.toList.length=ops.size:=bn;unfold JM at h;split at h
 ·simp [T.leaf] at h
 ·rename_i xL;simp only at h;split at h
  ·rename_i S H alC;split at h
   ·rename_i hHr;split at h
    ·rename_i AQ;simp only [an] at AQ;have kP:=aq AQ.1;have:=bC h;subst this
     have nN: ∀id o,(⟨Gj s1.h (Rj ops.toList s1.bD (Dr n1 ops.toList.length)) .nil,s1.h.next,none⟩ : Hp).get id=some o->s1.h.get id=some o:=
      fun id o hg=>Aw _ _ (fun _ _ hh=>by simp [Tr.get] at hh) id o hg
     have rs:=f1.rel.part nN (au _) ad;have hpc:bV E1.ρ s1.pc:=f1.pc;have U3:=AQ.2;rw [hlen] at U3;refine h! cJ hc (ops:=ops) (ρ:=E1.ρ) (pc:=s1.pc) hpc hHr (m:=a.tmps.size) hd (ops.size-n1) (Dr n1 ops.size) s1.bD _ E1 a1 w1 (u9 n1 ops.size) U3 rfl (by rw [hlen] at rs; exact rs) f1.sr z1 (by simp [u9]) ?_ ?_ ?_
     ·intro i hi;rw [Gz sf.le];unfold u9
      grind
     ·intro i hi;exact ((Gz sf.le).1 hi).2
     ·intro a2 w2 E2 tW r2 sr2 z2 d2;rw [hlen] at nN;obtain⟨Hc,e0,_,_,r3,KA⟩:=YA f1.rel nN tW r2 s1.h.next (fun id hid=>r2.fresh id J)
      have dZ:=KA.WN (by rw [e0]; exact au _) (by rw [e0]) (fun id tK=>by
       rcases tW.w? id tK with U|U|U
       ·exact .inl U
       ·have RB:s1.h.next<=id/\id<H.next:=U;omega
       ·simp at U)
      subst e0;refine hq a2 w2 ⟨d2.trans d1,z2,E2,Dg.trans ?_,?_⟩
      ·grind
      ·refine⟨by rw [hlen]; exact r3,sr2,?_⟩;show bV E2.ρ s1.pc;rw [tW.ρ]
       grind
    ·simp [T.leaf] at h
   ·simp [T.leaf] at h
  ·simp [T.leaf] at h
theorem zK [bI] {tt:TT} (cJ:eA P tt) (hm:P.follows .mixedOrders=true) {H:Nat->Nat->Option z7} {call:ei} (hc:iq P call) (g:Nat):vv P (JU tt H g) (Hz tt H call g):=by
 intro id ops hk E s s' a w Q hd fit h hq;unfold JU at hk;unfold Hz at h;split at hk
 ·rename_i p hp;rw [hp] at h;simp only at h;split at hk
  ·rename_i hn;rw [hn] at h;simp only at h
   have hP:=ZX (P:=P) cJ hm (H:=fun _ _=>some ⟨p.ord,p.h⟩) hc g id ops (by
    unfold afW
    exact hk) E s s' a w Q hd fit (by
    unfold ZY
    exact h) hq
   exact hP
  ·rename_i n1 hn;split at h
   ·rename_i h0
    grind
   ·rename_i n1' _;simp only [an] at hk;have sf:=NB hk.1;have Cz:=AN hk.2;obtain⟨s1,U,Z⟩:=T.fg h;refine wp_region_any hm ?_;have hle:=sf.le;have hRs:(ops.toList.take p.n1).toArray.size=p.n1:=by simp; omega
    have xO: ∀o∈(ops.toList.take p.n1).toArray.toList,∀d,o.dst=some d->d<a.tmps.size:=by
     intro o ho
     grind
    have key:=EJ (P:=P) (ops:=(ops.toList.take p.n1).toArray) (Q:=fun e a' w'=>match e with | .normal=>wpAny P .any ops Q (ops.size-p.n1) (u9 p.n1 ops.size) a' w'|e=>Q e a' w') cJ hc xO fit (s':=s1) (by
     unfold draw;rw [List.toList_toArray,Cz]
     exact U) (fun a' w' ht=>Pf cJ hc sf hd ht Z hq)
    rw [hRs] at key
    have:=Km sf (Q:=Q) (fun e a w gp hh=>by
     cases e with
     |normal=>exact absurd rfl gp
     |_=>exact hh) (fun a w hh=>hh) p.n1 (Array.replicate p.n1 false) (Array.replicate ops.size false) a _ ad ad (fun i hi=>by
     rw [amE,amE,ag hi,ag J]) (fun i _ hi=>by
     rw [amE,ag hi]) (by
     exact TU p.n1 p.n1 (au _)) (fun hh=>by
     rw [amE,ag (by have:=sf.pos; omega)] at hh
     simp at hh) key
    grind
 ·rename_i hh;rw [hh] at h;simp [T.leaf] at h
end
end
end Go.As
end
section
namespace Go.As
noncomputable section
def GM {α:Type} (n:Nat) (t:Tr α) (k:Nat):Option α:=match Nat.ble n k with
 |true=>none
 |false=>t.get k
theorem QT {α:Type} {n:Nat} {t:Tr α} {f:Nat->Option α} (h:(List.range n).map t.get=(List.range n).map f) {k:Nat} {x:α} (hk:GM n t k=some x):f k=some x:=by
 unfold GM at hk;split at hk
 ·grind
 ·rename_i hle
  have fW:k<n:=by
   have: ¬(n<=k):=by
    intro h;rw [amT h] at hle
    grind
   omega
  have:=congrArg (fun l=>l[k]?) h
  grind
section
variable {P:Program}
theorem E! {n:Nat} {tab:Tr TI} (h:(List.range n).map tab.get=(List.range n).map (H_ P)):eA P (GM n tab):=fun _ _ hk=>G? (QT h hk)
def aew (qG:Nat->List Oper->Bool) (f:Func):Bool:=!(f.name == "runtime.NumGoroutine")&&(match f.body with |some c=>jX qG f.ntmps c|none=>true)
def hAt {α:Type} (t:Tr (Tr α)) (g id:Nat):Option α:=match t.get g with
 |some u=>u.get id
 |none=>none
theorem aaj {n:Nat} {Ja:Tr Func} (h:(List.range n).map Ja.get=(List.range n).map (fun g=>P.funcs[g]?)) {qG:Nat->Nat->List Oper->Bool} (hc:(List.range n).all (fun g=>match Ja.get g with |some f=>aew (qG g) f|none=>true)=true):UJ P qG (GM n Ja):=by
 intro g fn hk;have U:=QT h hk;refine⟨U,?_⟩
 have fW:g<n:=by
  unfold GM at hk;split at hk
  ·grind
  ·rename_i hle;rcases aT g n with h|h
   ·exact h
   ·rw [amT h] at hle; simp at hle
 have uT:Ja.get g=some fn:=by
  unfold GM at hk
  grind
 have:=aW.1 hc g (alY.2 fW);rw [uT] at this;simp only [aew,an,al5] at this
 grind
end
end
end Go.As
end
section
namespace Go.As
noncomputable section
structure Ren where
 ns:List V
 bl:List Nat
 sh:List Nat
def Ren.se (r:Ren):V->V
 | .lit n=> .lit n
 | .dD i=>match eZ r.ns i with |some e=>e|none=> .dD i
 | .add a b=> .add (r.se a) (r.se b)
 | .sub a b=> .sub (r.se a) (r.se b)
 | .mul a b=> .mul (r.se a) (r.se b)
 | .quo a b=> .quo (r.se a) (r.se b)
 | .rem a b=> .rem (r.se a) (r.se b)
 | .wrap k a=> .wrap k (r.se a)
 | .wI b e=> .wI b (r.se e)
 | .ep d=> .ep d
 | .op o a b=>match o with
   | .len=>dR (r.se a)
   |o=> .op o (r.se a) (r.se b)
 | .ap f a=> .ap f (r.se a)
def Ren.sb (r:Ren):SB->SB
 | .lit b=> .lit b
 | .lt a b=>ig (r.se a) (r.se b)
 | .le a b=> .le (r.se a) (r.se b)
 | .eq a b=>qM (r.se a) (r.se b)
 | .not s=> .not (r.sb s)
 | .and a b=> .and (r.sb a) (r.sb b)
def Ren.id (r:Ren) (i:Nat):Nat:=match eZ r.bl i with |some j=>j|none=>0
def Ren.tX (r:Ren) (i:Nat):Nat:=match eZ r.sh i with |some j=>j|none=>0
mutual
def Ren.av (r:Ren):W->W
 | .bool b=> .bool (r.sb b)
 | .int k e=> .int k (r.se e)
 | .str s=> .str s
 | .ptr i o=> .ptr (r.id i) (r.tX i+o)
 | .tY=> .tY
 | .mY cs=> .mY (r.Ca cs)
 | .slice i o l c=> .slice (r.id i) (r.tX i+o) l c
 | .fZ=> .fZ
 | .ro cs n f=> .ro (r.Ca cs) n f
 | .map i=> .map (r.id i)
 | .rI=> .rI
 | .func f a b=> .func f (r.Ca a) (r.Ca b)
 | .wG=> .wG
 | .iface t v=> .iface t (r.av v)
 | .xA=> .xA
 | .agg cs=> .agg (r.Ca cs)
 | .tuple cs=> .tuple (r.Ca cs)
 | .KY i=> .KY i
 | .wI k ks=> .wI k ks
 | .emp=> .emp
 | .ep e t=> .ep (r.se e) t
 | .jP e=> .jP (r.se e)
 | .pb i n t=>match r.tX i with
   |0=> .pb (r.id i) (r.se n) t
   |_=> .KY 0
 | .zG i es x o=>match r.tX i with
   |0=> .zG (r.id i) es (r.se x) o
   |_=> .KY 0
 | .tV i lo n t=>match r.tX i with
   |0=> .tV (r.id i) (r.se lo) (r.se n) t
   |_=> .KY 0
 | .any=> .any
 | .xg z t=> .xg (r.se z) t
def Ren.Ca (r:Ren):List W->List W
 |[]=>[]
 |x::xs=>r.av x::r.Ca xs
end
mutual
def lJ (n:Nat):W->Bool
 | .ptr i _=>Nat.blt i n
 | .slice i _ _ _=>Nat.blt i n
 | .map i=>Nat.blt i n
 | .pb i _ _=>Nat.blt i n
 | .zG i _ _ _=>Nat.blt i n
 | .tV i _ _ _=>Nat.blt i n
 | .mY cs=>oh n cs
 | .ro cs _ _=>oh n cs
 | .func _ a b=>oh n a&&oh n b
 | .iface _ v=>lJ n v
 | .agg cs=>oh n cs
 | .tuple cs=>oh n cs
 |_=>true
def oh (n:Nat):List W->Bool
 |[]=>true
 |x::xs=>lJ n x&&oh n xs
end
def Ren.env (r:Ren) (ρ:Nat->Int) (i:Nat):Int:=match eZ r.ns i with |some e=>e.den ρ|none=>ρ i
theorem Gv {α:Type}: ∀{l:List α} {i:Nat},l.length<=i->eZ l i=none
 |[],_,_=>rfl
 |_::_,0,h=>by simp at h
 |_::l,i+1,h=>by simp only [eZ]; exact Gv (by simpa using h)
theorem Ren.lN {r:Ren} (h:r.ns.length<=900) {ρ:Nat->Int} {i:Nat} (hi:900<=i):r.env ρ i=ρ i:=by
 grind [Ren.env,Gv]
theorem Ren.eh {r:Ren} (h:r.ns.length<=900) (ρ:Nat->Int): ∀e:V,(r.se e).den ρ=e.den (r.env ρ)
 | .lit n=>rfl
 | .dD i=>by simp only [Ren.se,V.den,Ren.env];split<;>rfl
 | .add a b=>by simp only [Ren.se,V.den,Ren.eh h ρ a,Ren.eh h ρ b]
 | .sub a b=>by simp only [Ren.se,V.den,Ren.eh h ρ a,Ren.eh h ρ b]
 | .mul a b=>by simp only [Ren.se,V.den,Ren.eh h ρ a,Ren.eh h ρ b]
 | .quo a b=>by simp only [Ren.se,V.den,Ren.eh h ρ a,Ren.eh h ρ b]
 | .rem a b=>by simp only [Ren.se,V.den,Ren.eh h ρ a,Ren.eh h ρ b]
 | .wrap k a=>by simp only [Ren.se,V.den,Ren.eh h ρ a]
 | .wI b e=>by simp only [Ren.se,V.den,Ren.eh h ρ e];rw [Ren.lN h J]
 | .ep d=>rfl
 | .op o a b=>by
   cases o with
   |len=> simp only [Ren.se,cE,Ren.eh h ρ a];simp [V.den,fu.den]
   |_=>simp only [Ren.se,V.den,Ren.eh h ρ a,Ren.eh h ρ b]
 | .ap f a=>by simp only [Ren.se,V.den,Ren.eh h ρ a];rw [Ren.lN h (by unfold jg; omega)]
theorem Ren.Ap {r:Ren} (h:r.ns.length<=900) (ρ:Nat->Int): ∀c:SB,(r.sb c).den ρ=c.den (r.env ρ)
 | .lit b=>rfl
 | .lt a b=>by simp only [Ren.sb,dY,SB.den,Ren.eh h]
 | .le a b=>by simp only [Ren.sb,SB.den,Ren.eh h]
 | .eq a b=>by simp only [Ren.sb,gH,SB.den,Ren.eh h]
 | .not s=>by simp only [Ren.sb,SB.den,Ren.Ap h ρ s]
 | .and a b=>by simp only [Ren.sb,SB.den,Ren.Ap h ρ a,Ren.Ap h ρ b]
def En.gN (E:En) (r:Ren):En:={ ρ:=r.env E.ρ,θ:=fun i=>((E.θ (r.id i)).1,(E.θ (r.id i)).2+r.tX i),κ:=fun i=>E.κ (r.id i)-r.tX i,dm:=fun i=>i<r.bl.length/\E.dm (r.id i),ro:=E.ro,hd:=E.hd }
theorem xY {i n:Nat} (h:Nat.blt i n=true):i<n:=by simp_all
mutual
theorem VR.gN {E:En} {r:Ren} {h:Array Obj} (Y:r.ns.length<=900): ∀(x:W) (u:Value),lJ r.bl.length x=true->VR E h (r.av x) u->VR (E.gN r) h x u
 | .bool b,u,_,hv=>by simp only [Ren.av,VR,En.gN,Ren.Ap Y] at *; exact hv
 | .int k e,u,_,hv=>by simp only [Ren.av,VR,En.gN,Ren.eh Y] at *; exact hv
 | .str s,u,_,hv=>by simp only [Ren.av,VR] at *; exact hv
 | .ptr i o,u,hi,hv=>by simp only [Ren.av,VR,En.gN,lJ] at *; exact⟨by rw [hv.1,alP],xY hi,hv.2⟩
 | .tY,u,_,hv=>by simp only [Ren.av,VR] at *; exact hv
 | .mY cs,u,hi,hv=>by simp only [Ren.av,VR,lJ] at *;obtain⟨b,o,us,U,Z,h3,h4⟩:=hv;exact⟨b,o,us,U,Z,cA.gN Y cs us hi h3,h4⟩
 | .slice i o l c,u,hi,hv=>by
   simp only [Ren.av,VR,lJ] at *;obtain⟨U,a,cap,Z,h3,h4⟩:=hv;refine⟨⟨xY hi,U⟩,a,cap,Z,h3,?_⟩
   cases c with
   |exact k=>
    simp only [eQ,En.gN] at *
    grind
   |rest es=>
    simp only [eQ,En.gN] at *
    grind
 | .fZ,u,_,hv=>by simp only [Ren.av,VR] at *; exact hv
 | .ro cs n f,u,hi,hv=>by simp only [Ren.av,VR,lJ] at *;obtain⟨b,o,cap,us,U,Z,h3,h4,h5,h6⟩:=hv;exact⟨b,o,cap,us,U,Z,h3,h4,cA.gN Y cs us hi h5,h6⟩
 | .map i,u,hi,hv=>by simp only [Ren.av,VR,En.gN,lJ] at *; exact⟨hv.1,xY hi,hv.2⟩
 | .rI,u,_,hv=>by simp only [Ren.av,VR] at *; exact hv
 | .func f a b,u,hi,hv=>by simp only [Ren.av,VR,lJ,an] at *;obtain⟨us,ws,U,Z,h3⟩:=hv;exact⟨us,ws,U,cA.gN Y a us hi.1 Z,cA.gN Y b ws hi.2 h3⟩
 | .wG,u,_,hv=>by simp only [Ren.av,VR] at *; exact hv
 | .iface t v,u,hi,hv=>by simp only [Ren.av,VR,lJ] at *;obtain⟨y,U,Z⟩:=hv;exact⟨y,U,VR.gN Y v y hi Z⟩
 | .xA,u,_,hv=>by simp only [Ren.av,VR] at *; exact hv
 | .agg cs,u,hi,hv=>by simp only [Ren.av,VR,lJ] at *;obtain⟨us,U,Z⟩:=hv;exact⟨us,U,cA.gN Y cs us hi Z⟩
 | .tuple cs,u,hi,hv=>by simp only [Ren.av,VR,lJ] at *;obtain⟨us,U,Z⟩:=hv;exact⟨us,U,cA.gN Y cs us hi Z⟩
 | .KY i,u,_,hv=>by simp only [Ren.av,VR] at hv
 | .wI k ks,u,_,hv=>by
   simp only [Ren.av,VR,En.gN] at *;rw [Ren.lN Y J];rcases hv with hv|⟨b,o,n,cap,U,Z,h3,h4,h5⟩
   ·grind
   ·refine .inr ⟨b,o,n,cap,U,Z,h3,h4,fun i j kd hi hj=>?_⟩;rw [Ren.lN Y J]
    grind
 | .emp,u,_,hv=>by simp only [Ren.av,VR] at *; exact hv
 | .ep e t,u,_,hv=>by simp only [Ren.av,VR,En.gN,Ren.eh Y] at *; exact hv
 | .jP e,u,_,hv=>by simp only [Ren.av,VR,En.gN,Ren.eh Y] at *; exact hv
 | .pb i n t,u,hi,hv=>by
   simp only [Ren.av] at hv;split at hv
   ·rename_i hs;simp only [VR,En.gN,lJ,Ren.eh Y] at *;obtain⟨U,k,a,cap,Z,h3,h4,h5⟩:=hv;refine⟨⟨xY hi,U⟩,k,a,cap,Z,h3,h4,?_⟩;simp only [eQ,hs] at *
    grind
   ·simp [VR] at hv
 | .any,u,_,_=>by simp only [VR]
 | .xg z t,u,_,hv=>by simp only [Ren.av,VR,En.gN,Ren.eh Y] at *; exact hv
 | .tV i lo n t,u,hi,hv=>by
   simp only [Ren.av] at hv;split at hv
   ·rename_i hs;simp only [VR,En.gN,lJ,Ren.eh Y] at *;obtain⟨U,l,k,a,cap,Z,h3,h4,h5,h6⟩:=hv;refine⟨⟨xY hi,U⟩,l,k,a,cap,Z,h3,h4,h5,?_⟩;simp only [eQ,hs] at *
    grind
   ·simp [VR] at hv
 | .zG i es x o,u,hi,hv=>by
   simp only [Ren.av] at hv;split at hv
   ·rename_i hs;simp only [VR,En.gN,lJ,Ren.eh Y] at *;obtain⟨U,k,Z,h3⟩:=hv;exact⟨⟨xY hi,U⟩,k,Z,by rw [h3,hs,a8]⟩
   ·simp [VR] at hv
theorem cA.gN {E:En} {r:Ren} {h:Array Obj} (Y:r.ns.length<=900): ∀(xs:List W) (us:List Value),oh r.bl.length xs=true->cA E h (r.Ca xs) us->cA (E.gN r) h xs us
 |[],us,_,hv=>by simp only [Ren.Ca,cA] at *; exact hv
 |x::xs,us,hi,hv=>by simp only [Ren.Ca,cA,oh,an] at *;obtain⟨u,vs,U,Z,h3⟩:=hv;exact⟨u,vs,U,VR.gN Y x u hi.1 Z,cA.gN Y xs vs hi.2 h3⟩
end
theorem aa2 {E:En} {r:Ren} {h:Array Obj} {xs ys:List W} {us:List Value} (hs:iC (r.Ca xs) ys=true) (hv:cA E h ys us):cA E h (r.Ca xs) us:=by
 grind [fR]
def rD (r:Ren):List (W×W×Nat)->List (W×W×Nat)->Bool
 |[],[]=>true
 |(k,v,_)::xs,(k',v',_)::ys=>match eK (r.av k) k' with
  |true=>match eK (r.av v) v' with
   |true=>rD r xs ys
   |false=>false
  |false=>false
 |_,_=>false
def JH (n:Nat):List (W×W×Nat)->Bool
 |[]=>true
 |(k,v,_)::xs=>lJ n k&&lJ n v&&JH n xs
def KW (n:Nat):List (V×List W)->Bool
 |[]=>true
 |(_,cs)::l=>oh n cs&&KW n l
def mG (r:Ren):List (V×List W)->List (V×List W)->Bool
 |[],[]=>true
 |(i,a)::x,(j,b)::y=>eW (r.se i) j&&iC (r.Ca a) b&&mG r x y
 |_,_=>false
def LL (n:Nat):List (V×W)->Bool
 |[]=>true
 |(_,v)::l=>lJ n v&&LL n l
def mH (r:Ren):List (V×W)->List (V×W)->Bool
 |[],[]=>true
 |(i,a)::x,(j,b)::y=>eW (r.se i) j&&eK (r.av a) b&&mH r x y
 |_,_=>false
def K3 (n:Nat):dM->Bool
 | .tT _ _ _ ov=>LL n ov
 | .vec _ _ _ ov=>KW n ov
 | .cells cs _=>oh n cs
 | .map es _=>JH n es
 | .kg _ _=>true
 | .jC _ _ _ _=>false
 | .j6 _ _=>true
def ee (r:Ren) (k:Nat):dM->dM->Bool
 | .cells cs e,.cells ds f=>match Nat.beq e f with
   |true=>match eL k ds with
    |some ds=>iC (r.Ca cs) ds
    |none=>false
   |false=>false
 | .map es k,.map fs _=>rD r es fs&&Nat.beq k 0
 | .kg s p,.kg t q=>gR s t&&Nat.beq p q&&Nat.beq k 0
 | .j6 e t,.j6 e' t'=>eW (r.se e) e'&&Nat.beq t t'&&Nat.beq k 0
 | .tT e t eX ov,.tT e' t' ag3 iY=>eW (r.se e) e'&&Nat.beq t t'&&decide (eX=ag3)&&mH r ov iY&&Nat.beq k 0
 | .vec e t ty ov,.vec e' t' VL iY=>eW (r.se e) e'&&Nat.beq t t'&&Nat.beq ty VL&&mG r ov iY&&Nat.beq k 0
 |_,_=>false
theorem eI.gN {E:En} {r:Ren} {h:Array Obj} (Y:r.ns.length<=900): ∀{xs ys:List (W×W×Nat)} {es:List MapEntry},JH r.bl.length xs=true->rD r xs ys=true->eI E h ys es->eI (E.gN r) h xs es
 |[],[],es,_,_,h=>by simp only [eI] at *; exact h
 |[],_::_,_,_,hs,_=>by simp [rD] at hs
 |(_,_,_)::_,[],_,_,hs,_=>by simp [rD] at hs
 |(k,v,b)::xs,(k',v',b')::ys,es,hi,hs,h=>by
  simp only [JH,an] at hi;simp only [rD] at hs;simp only [eI] at *;obtain⟨e,rr,rfl,U,Z,_,h4⟩:=h;split at hs
  ·rename_i e1;split at hs
   ·rename_i e2;refine⟨e,rr,rfl,VR.gN Y k _ hi.1.1 (by rw [jI _ _ e1]; exact U),VR.gN Y v _ hi.1.2 (by rw [jI _ _ e2]; exact Z),trivial,eI.gN Y hi.2 hs h4⟩
   grind
  grind
theorem pP {r:Ren}: ∀xs:List W,(r.Ca xs).length=xs.length
 |[]=>rfl
 |_::xs=>by simp [Ren.Ca,pP xs]
theorem Gp {r:Ren} (Y:r.ns.length<=900) {ρ:Nat->Int} {i:Nat}: ∀{ov iY:List (V×List W)},mG r ov iY=true->ed ρ i iY=(ed (r.env ρ) i ov).map r.Ca
 |[],[],_=>rfl
 |[],_::_,h=>by simp [mG] at h
 |_::_,[],h=>by simp [mG] at h
 |(j,a)::x,(k,b)::y,h=>by
  simp only [mG,an] at h;have U:=cM _ _ h.1.1;have Z:=fR _ _ h.1.2;simp only [ed];rw [<- U,Ren.eh Y,<- Z,Gp Y h.2]
  grind
theorem Gn {n:Nat}: ∀{ov:List (V×List W)},KW n ov=true->∀p∈ov,oh n p.2=true
 |[],_,p,hp=>by simp at hp
 |(j,a)::x,h,p,hp=>by
  simp only [KW,an] at h;rcases ay.1 hp with rfl|hp
  ·grind
  ·exact Gn h.2 p hp
theorem tu {E:En} {r:Ren} {h:Array Obj} (Y:r.ns.length<=900) {row:Row} {ov iY:List (V×List W)} (hs:mG r ov iY=true) (hi:KW r.bl.length ov=true): ∀(ds:List D) (i:Nat) {us:List Value},
 cA E h (bE E.ρ row iY ds i) us->cA (E.gN r) h (bE (E.gN r).ρ row ov ds i) us
 |[],_,us,hv=>by simp only [bE,cA] at *; exact hv
 |d::ds,i,us,hv=>by
  simp only [bE] at *;obtain⟨a,b,rfl,U,Z⟩:=hv.split;refine cA.append ?_ (tu Y hs hi ds (i+1) Z);rw [Gp Y hs] at U;show cA (E.gN r) h (match ed (r.env E.ρ) i ov with |some cs=>cs|none=>gL row (.ep d)) a
  cases ho:ed (r.env E.ρ) i ov with
  |none=> rw [ho] at U;simp only [Option.map_none] at U;exact (gm (E:=E.gN r)).2 (show wO E.ro h row (dec (enc d)) a from (gm (E:=E)).1 U)
  |some cs=> rw [ho] at U;simp only [alN] at U;obtain⟨p,p1,p2,_⟩:=kT ho;exact cA.gN Y cs a (by rw [<- p2]; exact Gn hi p p1) U
theorem Dj {r:Ren} {row:Row}: ∀{ov iY:List (V×List W)},mG r ov iY=true->sM row iY->sM row ov
 |[],[],_,h=>h
 |[],_::_,h,_=>by simp [mG] at h
 |_::_,[],h,_=>by simp [mG] at h
 |(j,a)::x,(k,b)::y,h,ho=>by
  simp only [mG,an] at h;intro p hp;rcases ay.1 hp with rfl|hp
  ·have:=congrArg List.length (fR _ _ h.1.2);rw [pP] at this;simp only;rw [this];exact ho (k,b) ad
  ·exact Dj h.2 (fun q hq=>ho q (by simp [hq])) p hp
theorem QG {r:Ren} (Y:r.ns.length<=900) {ρ:Nat->Int} {n:Int}: ∀{ov iY:List (V×W)},mH r ov iY=true->lR ρ n iY=(lR (r.env ρ) n ov).map r.av
 |[],[],_=>rfl
 |[],_::_,h=>by simp [mH] at h
 |_::_,[],h=>by simp [mH] at h
 |(j,a)::x,(k,b)::y,h=>by simp only [mH,an] at h;have U:=cM _ _ h.1.1;have Z:=jI _ _ h.1.2;simp only [lR];rw [<- U,Ren.eh Y,<- Z,QG Y h.2];split<;>simp
theorem yq {r:Ren} (Y:r.ns.length<=900) {ρ:Nat->Int}: ∀{ov iY:List (V×W)},mH r ov iY=true->(ov.map fun p=>p.1.den (r.env ρ))=iY.map fun p=>p.1.den ρ
 |[],[],_=>rfl
 |[],_::_,h=>by simp [mH] at h
 |_::_,[],h=>by simp [mH] at h
 |(j,a)::x,(k,b)::y,h=>by simp only [mH,an] at h;have U:=cM _ _ h.1.1;simp only [aw];rw [<- U,Ren.eh Y,yq Y h.2]
theorem Aa.congr {ρ ρ':Nat->Int} {ds:List D} {ov iY:List (V×W)} (h:Aa ρ ds ov) (hk:(iY.map fun p=>p.1.den ρ')=ov.map fun p=>p.1.den ρ):Aa ρ' ds iY:=by refine⟨h.1,fun p hp=>?_,by rw [hk]; exact h.2.2⟩;have:p.1.den ρ'∈iY.map fun p=>p.1.den ρ':=aQ.2 ⟨p,hp,rfl⟩;rw [hk] at this;obtain⟨q,hq,he⟩:=aQ.1 this;rw [<- he];exact h.2.1 q hq
theorem Hd {n:Nat} {ρ:Nat->Int} {m:Int} {v:W}: ∀{ov:List (V×W)},LL n ov=true->lR ρ m ov=some v->lJ n v=true
 |[],_,h=>by simp [lR] at h
 |(_,u)::l,hi,h=>by
  simp only [LL,an] at hi;simp only [lR] at h;split at h
  ·simp only [ah] at h; subst h; exact hi.1
  ·exact Hd hi.2 h
theorem oO.gN {E:En} {r:Ren} {h:Array Obj} (Y:r.ns.length<=900) {B:Nat} {key:D} {j ty:Nat} {c:FC} {d:D} {u:Value} (ho:oO E h B key j ty c d u):oO (E.gN r) h B key j ty c d u:=by
 cases c with
 |ck c=>exact ho
 |mp t=>exact ho
 |own t=>
  rcases ho with ho|⟨b,o,n,cap,a,arr,lo,hi,U,Z,h3,h4,h5,h6,h7⟩
  ·exact .inl ho
  ·refine .inr ⟨b,o,n,cap,a,arr,lo,hi,U,Z,h3,h4,h5,h6,?_⟩;rcases h7 with h7|⟨g1,g2,us,g3,g4⟩
   ·exact .inl h7
   ·exact .inr ⟨g1,g2,us,tu Y (ov:=[]) (iY:=[]) rfl rfl _ _ g3,g4⟩
theorem pU.gN {E:En} {r:Ren} {h:Array Obj} (Y:r.ns.length<=900) {B t:Nat} {eX:List Nat} {key d:D} {v:Value} (ho:pU E h B t eX key d v):pU (E.gN r) h B t eX key d v:=by
 unfold pU at *;split at ho
 ·obtain⟨c,U,Z⟩:=ho;exact⟨c,U,Z.gN Y⟩
 ·obtain⟨b,o,arr,lo,hi,U,Z,h3,h4,h5,h6⟩:=ho;refine⟨b,o,arr,lo,hi,U,Z,h3,h4,h5,fun j c hc=>?_⟩;obtain⟨u,g1,g2,g3⟩:=h6 j c hc;exact⟨u,g1,g2,g3.gN Y⟩
theorem eP.gN {E:En} {r:Ren} {h:Array Obj} (Y:r.ns.length<=900) {B t:Nat} {eX:List Nat} {ov iY:List (V×W)} (hs:mH r ov iY=true) (hi:LL r.bl.length ov=true): ∀{ds:List D} {es:List MapEntry},eP E h B t eX iY ds es->eP (E.gN r) h B t eX ov ds es
 |[],_,ho=>ho
 |d::ds,_,⟨e,rr,n,U,Z,h3,h4,h5⟩=>by
  refine⟨e,rr,n,U,Z,h3,?_,eP.gN Y hs hi h5⟩;have he:=QG Y (ρ:=E.ρ) (n:=n) hs
  show match lR (r.env E.ρ) n ov with |some v=>VR (E.gN r) h v e.val|none=>pU (E.gN r) h B t eX (.i n) (FA d) e.val
  cases hv:lR (r.env E.ρ) n ov with
  |none=> rw [hv] at he;rw [he] at h4;exact h4.gN Y
  |some v=> rw [hv] at he;rw [he] at h4;exact VR.gN Y v _ (Hd hi hv) h4
theorem OR.gN {E:En} {r:Ren} {h:Array Obj} (Y:r.ns.length<=900) {id:Nat} {o o':dM} (hi:K3 r.bl.length o=true) (hs:ee r (r.tX id) o o'=true) (ho:OR E h (r.id id) o'):OR (E.gN r) h id o:=by
 cases o with
 |cells cs e=>
  cases o' with
  |jC _ _ _ _=>simp [ee] at hs
  |cells ds f=>
   simp only [ee] at hs;simp only [K3] at hi;split at hs
   ·rename_i he;have he:=aq he;subst he;split at hs
    ·rename_i ds' AO;simp only [OR] at *;obtain⟨arr,lo,hi',us,U,Z,h3,h4,h5,h6,h7⟩:=ho;obtain⟨g1,g2,g3⟩:=Z.eL AO;have hlen:=congrArg List.length (fR _ _ hs);rw [pP] at hlen;refine⟨arr,lo,hi',us.drop (r.tX id),U,cA.gN Y cs _ hi (aa2 hs g1),fun i u hu=>?_,?_,?_,h6,fun u hu=>h7 u (bw hu)⟩
     ·rw [amm] at hu;have:=h3 _ u hu;show arr[(E.θ (r.id id)).2+r.tX id+i]?=some u
      grind
     ·show cs.length<=E.κ (r.id id)-r.tX id;omega
     ·show (E.θ (r.id id)).2+r.tX id+(E.κ (r.id id)-r.tX id)=arr.size;omega
    grind
   grind
  |map _ _=>simp [ee] at hs
  |kg _ _=>simp [ee] at hs
  |vec _ _ _ _=>simp [ee] at hs
  |j6 _ _=>simp [ee] at hs
  |tT _ _ _ _=>simp [ee] at hs
 |map es c=>
  cases o' with
  |jC _ _ _ _=>simp [ee] at hs
  |map fs d=> simp only [ee] at hs;simp only [K3] at hi;simp only [OR] at *;obtain⟨bK,c',U,Z,_⟩:=ho;simp only [an] at hs;have hz:=aq hs.2;exact⟨bK,c',U,eI.gN Y hi hs.1 Z,by rw [hz]; trivial⟩
  |cells _ _=>simp [ee] at hs
  |kg _ _=>simp [ee] at hs
  |vec _ _ _ _=>simp [ee] at hs
  |j6 _ _=>simp [ee] at hs
  |tT _ _ _ _=>simp [ee] at hs
 |jC _ _ _ _=>simp [K3] at hi
 |kg s p=>
  cases o' with
  |jC _ _ _ _=>simp [ee] at hs
  |kg t q=> simp_all [ee,l7,OR,En.gN]
  |cells _ _=>simp [ee] at hs
  |map _ _=>simp [ee] at hs
  |vec _ _ _ _=>simp [ee] at hs
  |j6 _ _=>simp [ee] at hs
  |tT _ _ _ _=>simp [ee] at hs
 |j6 e t=>
  cases o' with
  |jC _ _ _ _=>simp [ee] at hs
  |cells _ _=>simp [ee] at hs
  |map _ _=>simp [ee] at hs
  |kg _ _=>simp [ee] at hs
  |vec _ _ _ _=>simp [ee] at hs
  |tT _ _ _ _=>simp [ee] at hs
  |j6 e' t'=> simp only [ee,an] at hs;have U:=cM _ _ hs.1.1;have Z:=aq hs.1.2;subst U Z;simp only [OR] at *;have pz:e.den (E.gN r).ρ=(r.se e).den E.ρ:=(Ren.eh Y E.ρ e).symm;rw [pz];exact ho
 |vec e t ty ov=>
  cases o' with
  |jC _ _ _ _=>simp [ee] at hs
  |cells _ _=>simp [ee] at hs
  |map _ _=>simp [ee] at hs
  |kg _ _=>simp [ee] at hs
  |j6 _ _=>simp [ee] at hs
  |tT _ _ _ _=>simp [ee] at hs
  |vec e' t' VL iY=>
   simp only [ee,an] at hs;simp only [K3] at hi;have U:=cM _ _ hs.1.1.1.1;have Z:=aq hs.1.1.1.2;have h3:=aq hs.1.1.2;have h4:=aq hs.2;have ss:=hs.1.2;subst U Z h3;simp only [OR] at *;obtain⟨h0,arr,lo,hi',us,q1,q2,q3,q4,q5,q6,q7⟩:=ho;have oI:=Dj ss h0.1;have pz:e.den (E.gN r).ρ=(r.se e).den E.ρ:=(Ren.eh Y E.ρ e).symm;rw [pz];refine⟨⟨oI,h0.2⟩,arr,lo,hi',us,q1,tu Y ss hi _ _ q2,?_,?_,?_,q6,q7⟩
   ·intro i u hu;show arr[(E.θ (r.id id)).2+r.tX id+i]?=some u
    grind
   ·show _<=E.κ (r.id id)-r.tX id
    grind [cF]
   ·show (E.θ (r.id id)).2+r.tX id+(E.κ (r.id id)-r.tX id)=arr.size
    grind
 |tT e t eX ov=>
  cases o' with
  |jC _ _ _ _=>simp [ee] at hs
  |cells _ _=>simp [ee] at hs
  |map _ _=>simp [ee] at hs
  |kg _ _=>simp [ee] at hs
  |j6 _ _=>simp [ee] at hs
  |vec _ _ _ _=>simp [ee] at hs
  |tT e' t' ag3 iY=> simp only [ee,an,decide_eq_true_eq] at hs;simp only [K3] at hi;have U:=cM _ _ hs.1.1.1.1;have Z:=aq hs.1.1.1.2;have h3:=hs.1.1.2;have ss:=hs.1.2;subst U Z h3;simp only [OR] at *;obtain⟨n0,bK,c',g1,g2⟩:=ho;have pz:e.den (E.gN r).ρ=(r.se e).den E.ρ:=(Ren.eh Y E.ρ e).symm;rw [pz];exact⟨n0.congr (yq Y ss),bK,c',g1,eP.gN Y ss hi g2⟩
end
end Go.As
end
section
namespace Go.As
noncomputable section
open Go.RowKit
structure CS where
 k:Nat
 bD:List (Nat×W)
 dz:List dM
 pc:List (SB×Bool)
 m:V
def nu:List (Nat×W)->Tr W->Tr W
 |[],t=>t
 |(i,v)::l,t=>nu l (t.put i (some v))
def og:List dM->Nat->Tr dM->Tr dM
 |[],_,t=>t
 |o::os,i,t=>og os (i+1) (t.put i (some o))
def CS.st (c:CS):St:=⟨nu c.bD .nil,⟨og c.dz 0 .nil,c.dz.length,none⟩,c.pc⟩
structure Gs where
 ns:Tr V
 bl:Tr (Nat×Nat)
def Gs.num (g:Gs) (i:Nat) (e:V):Gs:=match g.ns.get i with
 |some _=>g
 |none=> ⟨g.ns.put i (some e),g.bl⟩
def Gs.nF (g:Gs) (i j k:Nat):Gs:=match g.bl.get i with
 |some _=>g
 |none=> ⟨g.ns,g.bl.put i (some (j,k))⟩
def xP (x y:V) (g:Gs):Gs:=match x with
 | .dD i=>g.num i y
 |_=>g
def aiW:SB->SB->Gs->Gs
 | .not a,.not b,g=>aiW a b g
 | .eq a b,.eq c d,g=>xP b d (xP a c g)
 |_,_,g=>g
mutual
def T8:W->W->Gs->Gs
 | .bool a,.bool b,g=>aiW a b g
 | .int _ e,.int _ f,g=>xP e f g
 | .ptr i o,.ptr j p,g=>g.nF i j (p-o)
 | .slice i o _ _,.slice j p _ _,g=>g.nF i j (p-o)
 | .map i,.map j,g=>g.nF i j 0
 | .agg a,.agg b,g=>za a b g
 | .tuple a,.tuple b,g=>za a b g
 | .iface _ a,.iface _ b,g=>T8 a b g
 | .func _ a b,.func _ c d,g=>za b d (za a c g)
 | .mY a,.mY b,g=>za a b g
 | .ro a _ _,.ro b _ _,g=>za a b g
 | .ep a _,.ep b _,g=>xP a b g
 | .jP a,.jP b,g=>xP a b g
 | .pb i a _,.pb j b _,g=>(xP a b g).nF i j 0
 | .zG i _ a _,.zG j _ b _,g=>(xP a b g).nF i j 0
 | .xg a _,.xg b _,g=>xP a b g
 | .tV i l a _,.tV j k b _,g=>(xP l k (xP a b g)).nF i j 0
 |_,_,g=>g
def za:List W->List W->Gs->Gs
 |x::xs,y::ys,g=>za xs ys (T8 x y g)
 |_,_,g=>g
end
def Yr:List (W×W×Nat)->List (W×W×Nat)->Gs->Gs
 |(k,v,_)::xs,(k',v',_)::ys,g=>Yr xs ys (T8 v v' (T8 k k' g))
 |_,_,g=>g
def acf:List (V×List W)->List (V×List W)->Gs->Gs
 |(i,a)::x,(j,b)::y,g=>acf x y (za a b (xP i j g))
 |_,_,g=>g
def acg:List (V×W)->List (V×W)->Gs->Gs
 |(i,a)::x,(j,b)::y,g=>acg x y (T8 a b (xP i j g))
 |_,_,g=>g
def akV (k:Nat) (o o':dM) (g:Gs):Gs:=match o,o' with
 | .cells a _,.cells b _=>match eL k b with
   |some b=>za a b g
   |none=>g
 | .map a _,.map b _=>Yr a b g
 | .vec a _ _ ov,.vec b _ _ iY=>acf ov iY (xP a b g)
 | .j6 a _,.j6 b _=>xP a b g
 | .tT a _ _ ov,.tT b _ _ iY=>acg ov iY (xP a b g)
 |_,_=>g
def CG (s:Tr W):List (Nat×W)->Gs->Gs
 |[],g=>g
 |(t,v)::l,g=>match s.get t with
  |some v'=>CG s l (T8 v v' g)
  |none=>CG s l g
def AR (h:Hp):List dM->Nat->Gs->Gs
 |[],_,g=>g
 |o::os,i,g=>match g.bl.get i with
  |some (j,k)=>match h.get j with
   |some o'=>AR h os (i+1) (akV k o o' g)
   |none=>AR h os (i+1) g
  |none=>AR h os (i+1) g
def xF (g:Tr V):Nat->Nat->List V
 |0,_=>[]
 |n+1,i=>match g.get i with
  |some e=>e::xF g n (i+1)
  |none=> .lit 0::xF g n (i+1)
def II (g:Tr (Nat×Nat)):Nat->Nat->List Nat
 |0,_=>[]
 |n+1,i=>match g.get i with
  |some (e,_)=>e::II g n (i+1)
  |none=>0::II g n (i+1)
def IH (g:Tr (Nat×Nat)):Nat->Nat->List Nat
 |0,_=>[]
 |n+1,i=>match g.get i with
  |some (_,e)=>e::IH g n (i+1)
  |none=>0::IH g n (i+1)
def CS.lr (c:CS) (s:St):Ren:=match AR s.h c.dz 0 (CG s.bD c.bD ⟨.nil,.nil⟩) with
 |⟨ns,bl⟩=> ⟨xF ns c.k 0,II bl c.dz.length 0,IH bl c.dz.length 0⟩
def QJ (i:Nat):List Nat->Bool
 |[]=>true
 |j::l=>match Nat.beq i j with
  |true=>false
  |false=>QJ i l
def wv:List Nat->Bool
 |[]=>true
 |i::l=>QJ i l&&wv l
def Cl (r:Ren) (n:Nat) (s:Tr W):List (Nat×W)->Bool
 |[]=>true
 |(t,v)::l=>match s.get t with
  |some v'=>lJ n v&&eK (r.av v) v'&&Cl r n s l
  |none=>false
def Ay (r:Ren) (n:Nat) (h:Hp):List dM->Nat->Bool
 |[],_=>true
 |o::os,i=>match h.get (r.id i) with
  |some o'=>K3 n o&&ee r (r.tX i) o o'&&Ay r n h os (i+1)
  |none=>false
def Ms (pc:List (SB×Bool)) (e:V):Option Int×Option Int:=match e with
 | .lit z=>(some z,some z)
 |e=>bounds e pc
def Ri (a b:Int):Bool:=decide (-9223372036854775808<=a)&&decide (b<=9223372036854775807)
def E6 (pc:List (SB×Bool)) (e:V):Option Int×Option Int:=match e with
 | .wrap .i64 (.add a b)=>match Ms pc a,Ms pc b with
   |(some la,some ha),(some lb,some hb)=>if Ri (la+lb) (ha+hb) then (some (la+lb),some (ha+hb)) else bounds e pc
   |_,_=>bounds e pc
 | .wrap .i64 (.sub a b)=>match Ms pc a,Ms pc b with
   |(some la,some ha),(some lb,some hb)=>if Ri (la-hb) (ha-lb) then (some (la-hb),some (ha-lb)) else bounds e pc
   |_,_=>bounds e pc
 |e=>Ms pc e
def E8 (a b:Option Int):Bool:=match a,b with
 |some x,some y=>decide (x<y)
 |_,_=>false
def JY (a b:Option Int):Bool:=match a,b with
 |some x,some y=>decide (x<=y)
 |_,_=>false
def t_ (pc:List (SB×Bool)) (c:SB) (v:Bool):Bool:=
 match jY pc c with
 |some b=>b == v
 |none=>match c with
  | .lt a b=>match v with
    |true=>E8 (E6 pc a).2 (E6 pc b).1
    |false=>JY (E6 pc b).2 (E6 pc a).1
  | .eq a b=>match v with
    |true=>false
    |false=>E8 (E6 pc a).2 (E6 pc b).1||E8 (E6 pc b).2 (E6 pc a).1
  |_=>false
def CI (pv:List (SB×Bool)->SB->Bool->Bool) (r:Ren) (pc:List (SB×Bool)):List (SB×Bool)->Bool
 |[]=>true
 |(c,v)::l=>pv pc (r.sb c) v&&CI pv r pc l
def CS.fits (pv:List (SB×Bool)->SB->Bool->Bool) (c:CS) (s:St) (r:Ren):Bool:=
 Nat.ble r.ns.length 900&&Nat.beq r.bl.length c.dz.length&&wv r.bl&&Cl r c.dz.length s.bD c.bD&&Ay r c.dz.length s.h c.dz 0&&CI pv r s.pc c.pc
theorem uw: ∀{l:List (Nat×W)} {t:Tr W} {i:Nat} {v:W},(nu l t).get i=some v->(i,v)∈l\/t.get i=some v
 |[],t,i,v,h=> .inr h
 |(j,x)::l,t,i,v,h=>by
  simp only [nu] at h;rcases uw h with h|h
  all_goals grind [Tr.bQ]
theorem jr: ∀{l:List dM} {i:Nat} {t:Tr dM} {j:Nat},(og l i t).get j=if i<=j/\j<i+l.length then l[j-i]? else t.get j
 |[],i,t,j=>by rw [af ad];rfl
 |o::os,i,t,j=>by
  simp only [og];rw [jr,Tr.bQ]
  grind
theorem K6 {i:Nat}: ∀{l:List Nat},QJ i l=true->i∉l
 |[],_=>by simp
 |j::l,h=>by
  simp only [QJ] at h;split at h
  ·grind
  ·rename_i hb;have:=amJ hb;simp [this,K6 h]
theorem oK: ∀{l:List Nat},wv l=true->∀{i j x:Nat},eZ l i=some x->eZ l j=some x->i=j
 |[],_,i,_,_,h,_=>by simp [eZ] at h
 |y::l,hd,i,j,x,U,Z=>by
  simp only [wv,an] at hd;have hn:=K6 hd.1
  have hm: ∀{i:Nat} {l:List Nat} {x:Nat},eZ l i=some x->x∈l:=by
   intro i l x h
   grind [dq]
  cases i with
  |zero=>
   cases j with
   |zero=>rfl
   |succ j=>
    grind [eZ]
  |succ i=>
   cases j with
   |zero=>
    grind [eZ]
   |succ j=> simp only [eZ] at U Z;rw [oK hd.2 U Z]
theorem Bl {r:Ren} {n:Nat} {s:Tr W}: ∀{l:List (Nat×W)},Cl r n s l=true->∀{t:Nat} {v:W},(t,v)∈l->∃v',s.get t=some v'/\lJ n v=true/\r.av v=v'
 |[],_,_,_,h=>by simp at h
 |(t0,v0)::l,hs,t,v,h=>by
  simp only [Cl] at hs;split at hs
  ·rename_i v' hv;simp only [an] at hs;rcases ay.1 h with h|h
   ·grind [jI]
   ·exact Bl hs.2 h
  grind
theorem iP {r:Ren} {n:Nat} {h:Hp}: ∀{l:List dM} {i:Nat},Ay r n h l i=true->∀{j:Nat} {o:dM},l[j]?=some o->∃o',h.get (r.id (i+j))=some o'/\K3 n o=true/\ee r (r.tX (i+j)) o o'=true
 |[],_,_,_,_,h=>by simp at h
 |o0::os,i,hs,j,o,hj=>by
  simp only [Ay] at hs;split at hs
  ·rename_i o' ho;simp only [an] at hs
   cases j with
   |zero=>
    grind
   |succ j=>
    have:=iP hs.2 (j:=j) (by simpa using hj)
    grind
  grind
def p_ (pv:List (SB×Bool)->SB->Bool->Bool):Prop:= ∀(ρ:Nat->Int) (pc:List (SB×Bool)) (c:SB) (v:Bool),bV ρ pc->pv pc c v=true->c.den ρ=v
theorem zS {ρ:Nat->Int} {pc:List (SB×Bool)} (hp:bV ρ pc) (e:V):rb (Ms pc e).1 (Ms pc e).2 (e.den ρ):=by
 unfold Ms
 grind [rb,V.den,l9]
theorem DX {a b x:Int} (h:Ri a b=true) (U:a<=x) (Z:x<=b):IntKind.i64.wrap x=x:=by
 simp only [Ri,an,decide_eq_true_eq] at h;rw [<- kH]
 grind [rY]
theorem SG {ρ:Nat->Int} {pc:List (SB×Bool)} (hp:bV ρ pc) (e:V):rb (E6 pc e).1 (E6 pc e).2 (e.den ρ):=by
 unfold E6;split
 ·rename_i a b;have ha:=zS hp a;have hb:=zS hp b;split
  ·rename_i la ha' lb I4 e1 e2;rw [e1] at ha;rw [e2] at hb;have a1:=ha.1 la rfl;have a2:=ha.2 ha' rfl;have b1:=hb.1 lb rfl;have b2:=hb.2 I4 rfl;split
   ·rename_i hi;simp only [V.den];rw [DX hi J J];constructor<;>intro l Y<;>simp at Y<;>omega
   ·exact l9 hp
  ·exact l9 hp
 ·rename_i a b;have ha:=zS hp a;have hb:=zS hp b;split
  ·rename_i la ha' lb I4 e1 e2;rw [e1] at ha;rw [e2] at hb;have a1:=ha.1 la rfl;have a2:=ha.2 ha' rfl;have b1:=hb.1 lb rfl;have b2:=hb.2 I4 rfl;split
   ·rename_i hi;simp only [V.den];rw [DX hi J J];constructor<;>intro l Y<;>simp at Y<;>omega
   ·exact l9 hp
  ·exact l9 hp
 grind [zS]
theorem Ba {a b:Option Int} {x y:Int} (h:E8 a b=true) (U: ∀z,a=some z->x<=z) (Z: ∀z,b=some z->z<=y):x<y:=by
 unfold E8 at h
 grind
theorem Pp {a b:Option Int} {x y:Int} (h:JY a b=true) (U: ∀z,a=some z->x<=z) (Z: ∀z,b=some z->z<=y):x<=y:=by
 unfold JY at h
 grind
theorem NQ:p_ t_:=by
 intro ρ pc c v hp h;unfold t_ at h;split at h
 ·rename_i b hb
  grind [gD]
 ·split at h
  ·have ha:=fun a=>SG hp a;split at h
   ·have:=Ba h (ha _).2 (ha _).1
    grind [SB.den]
   ·have:=Pp h (ha _).2 (ha _).1
    grind [SB.den]
  ·have ha:=fun a=>SG hp a;split at h
   ·grind
   ·simp only [amp] at h;simp only [SB.den,beq_eq_false_iff_ne,ne_eq];rcases h with h|h
    ·have:=Ba h (ha _).2 (ha _).1;omega
    ·have:=Ba h (ha _).2 (ha _).1;omega
  grind
theorem Ek {pv:List (SB×Bool)->SB->Bool->Bool} (hpv:p_ pv) {r:Ren} (Y:r.ns.length<=900) {ρ:Nat->Int} {pc:List (SB×Bool)} (hp:bV ρ pc): ∀{l:List (SB×Bool)},CI pv r pc l=true->bV (r.env ρ) l
 |[],_=>by intro c b h; simp at h
 |(c0,v0)::l,h=>by
  simp only [CI,an] at h;intro c b hm;rcases ay.1 hm with hm|hm
  ·simp only [ak] at hm;obtain⟨rfl,rfl⟩:=hm;rw [<- Ren.Ap Y];exact hpv ρ pc _ _ hp h.1
  ·exact Ek hpv Y hp h.2 c b hm
theorem zm [bI] {pv:List (SB×Bool)->SB->Bool->Bool} (hpv:p_ pv) {E:En} {c:CS} {s:St} {r:Ren} {a:Act} {w:World} (f:Fit E s a w) (h:c.fits pv s r=true):r.ns.length<=900/\Fit (E.gN r) c.st a w/\
 ∀id o,c.st.h.get id=some o->∃o',s.h.get (r.id id)=some o':=by
 unfold CS.fits at h;simp only [an] at h;obtain⟨⟨⟨⟨⟨U,Z⟩,h3⟩,h4⟩,h5⟩,h6⟩:=h;have Y:=al3 U;have hn:=aq Z
 have uT: ∀id o,c.st.h.get id=some o->c.dz[id]?=some o:=by
  intro id o ho;have:(og c.dz 0 .nil).get id=some o:=ho
  grind [jr,Tr.get]
 refine⟨Y,⟨⟨?_,?_,?_,?_,f.rel.rh,bI.gN f.rel.jG fun i hi=>Ren.lN Y hi,?_⟩,?_,Ek hpv Y f.pc h6⟩,?_⟩
 ·intro id hid hd;have:id<r.bl.length:=hd.1;have hid:c.dz.length<=id:=hid;omega
 ·intro x hx
  grind [CS.st]
 ·intro id o ho;obtain⟨o',g1,g2,g3⟩:=iP h5 (uT id o ho);rw [aA] at g1 g3;obtain⟨q1,q2,q3⟩:=f.rel.live _ _ g1;have fW:=(aX.1 (uT id o ho)).1;exact⟨⟨J,q1⟩,OR.gN Y (by rw [hn]; exact g2) g3 q2,q3⟩
 ·intro id Oa o o' ho yU he;obtain⟨p,g1,_⟩:=iP h5 (uT id o ho);obtain⟨p',g1',_⟩:=iP h5 (uT Oa o' yU);rw [aA] at g1 g1';have heq:=f.rel.inj _ _ _ _ g1 g1' he;have fW:=(aX.1 (uT id o ho)).1;have ae2:=(aX.1 (uT Oa o' yU)).1;unfold Ren.id at heq
  cases e1:eZ r.bl id with
  |none=>rw [dq,amN] at e1; omega
  |some x=>
   cases e2:eZ r.bl Oa with
   |none=>rw [dq,amN] at e2; omega
   |some y=> rw [e1,e2] at heq;simp only at heq;subst heq;exact oK h3 e1 e2
 ·intro b x hb;obtain⟨q1,q2,q3⟩:=f.rel.hid b x hb;refine⟨q1,q2,fun id o ho=>?_⟩;obtain⟨o',g1,_⟩:=iP h5 (uT id o ho);rw [aA] at g1;exact q3 _ o' g1
 ·intro t v ht;have:(nu c.bD .nil).get t=some v:=ht;rcases uw this with h|h
  ·obtain⟨v',g1,g2,g3⟩:=Bl h4 h;obtain⟨u,q1,q2⟩:=f.sr t v' g1
   grind [VR.gN]
  grind [Tr.get]
 grind [iP]
end
end Go.As
end
section
namespace Go.As
noncomputable section
open Go.RowKit
structure r_ where
 w0:World
 ro:Nat->Prop
 ρ0:Nat->Int
structure Top [bI] (B:r_) (E:En) (s:St) (a:Act) (w:World):Prop where
 fit:Fit E s a w
 hi: ∀i,900<=i->E.ρ i=B.ρ0 i
 ro: ∀b,B.ro b->E.ro b
 below:Below B.w0.heap.size B.w0 w
 own: ∀id o,s.h.get id=some o->B.w0.heap.size<=(E.θ id).1
theorem Top.then [bI] {B:r_} {E:En} {s s':St} {a a':Act} {w w':World} (t:Top B E s a w) (h:mQ E s a w s' a' w'): ∃E',Top B E' s' a' w'/\E'.ρ=E.ρ:=by
 obtain⟨_,_,E',st,f'⟩:=h;refine⟨E',⟨f',fun i hi=>by rw [st.ρ]; exact t.hi i hi,fun b hb=>st.ro b (t.ro b hb),?_,?_⟩,st.ρ⟩
 ·refine t.below.trans ⟨st.os,st.tape,st.output,st.size,fun k hk=>?_⟩
  exact st.cf k (ama hk t.below.size) fun id o ho he=>by have:=t.own id o ho;omega
 ·intro id o ho;rcases aT (E'.θ id).1 w.heap.size with h|h
  ·obtain⟨rO,o0,h0,he⟩:=st.own id o ho h;rw [<- he];exact t.own rO o0 h0
  ·exact bk t.below.size h
theorem Top.fits [bI] {pv:List (SB×Bool)->SB->Bool->Bool} (hpv:p_ pv) {B:r_} {E:En} {c:CS} {s:St} {r:Ren} {a:Act} {w:World} (t:Top B E s a w) (h:c.fits pv s r=true):r.ns.length<=900/\Top B (E.gN r) c.st a w:=by
 obtain⟨Y,f,ho⟩:=zm hpv t.fit h;refine⟨Y,f,fun i hi=>?_,t.ro,t.below,fun id o hid=>?_⟩
 ·show r.env E.ρ i=_;rw [Ren.lN Y hi];exact t.hi i hi
 ·obtain⟨o',h'⟩:=ho id o hid;exact t.own _ _ h'
inductive Fr where
 |seq (p:List Nat) (c:Code)
 |block (id:Nat)
def IL {α:Type}:T α->(α->Bool)->Bool
 | .fail,_=>false
 | .ret a,f=>f a
 | .split _ x y,f=>IL x f&&IL y f
structure Cfg where
 tt:TT
 call:ei
 draw:Nat->List Oper->St->T St
 lf:Nat
 pv:List (SB×Bool)->SB->Bool->Bool
 res:List ResultVar
def Cfg.ev (g:Cfg) (c:Code) (s:St):T (Ex×St):=jf g.tt g.call g.draw g.lf c s
def isTrue:Option (List W)->Bool
 |some [.bool (.lit b)]=>b
 |_=>false
def YQ (g:Cfg) (e:Ex) (s:St):Bool:=match e with
 | .exit _=>false
 |_=>isTrue (kZ g.tt s g.res)
def aet:W->W->Bool
 | .int _ (.lit a),.int _ (.lit b)=>a == b
 | .int _ (.lit _),.int _ _=>false
 | .slice _ _ n _,.slice _ _ m _=>Nat.beq n m
 | .slice _ _ _ _,_=>false
 | .fZ,.fZ=>true
 | .fZ,_=>false
 |_,_=>true
def quick (s:Tr W):List (Nat×W)->Bool
 |[]=>true
 |(t,v)::l=>match s.get t with
  |some v'=>match aet v v' with
   |true=>quick s l
   |false=>false
  |none=>false
def J3 (pv:List (SB×Bool)->SB->Bool->Bool) (s:St):List CS->Bool
 |[]=>false
 |c::cs=>match quick s.bD c.bD with
  |false=>J3 pv s cs
  |true=>match c.fits pv s (c.lr s) with
   |true=>true
   |false=>J3 pv s cs
abbrev ajD:=List Nat->Option (List CS)
mutual
def go (g:Cfg) (fe:ajD):Nat->List Nat->Code->List Fr->St->Bool
 |0,_,_,_,_=>false
 |n+1,p,c,fr,s=>match fe p with
  |some cs=>J3 g.pv s cs
  |none=>match c with
   | .seq a b=>go g fe n (0::p) a (.seq (1::p) b::fr) s
   | .block id b=>go g fe n (0::p) b (.block id::fr) s
   |c=>IL (g.ev c s) fun (e,s')=>cont g fe n fr e s'
def cont (g:Cfg) (fe:ajD):Nat->List Fr->Ex->St->Bool
 |0,_,_,_=>false
 |n+1,fr,e,s=>match fr with
  |[]=>YQ g e s
  | .seq p c::fr=>match e with
    | .normal=>go g fe n p c fr s
    |e=>cont g fe n fr e s
  | .block id::fr=>match e with
    | .exit j=>match Nat.beq j id with
      |true=>cont g fe n fr .normal s
      |false=>cont g fe n fr (.exit j) s
    |e=>cont g fe n fr e s
end
def apart (pc:List (SB×Bool)) (x:V):List V->Bool
 |[]=>true
 |y::l=>match decEq pc x y with
  |some false=>apart pc x l
  |_=>false
structure Hint where
 ts:List (SB×Bool):=[]
 xs:List V:=[]
 n:Nat:=0
section
variable {P:Program} {g:Cfg} {qG:Nat->List Oper->Bool} {N:Nat} {body:Code} {B:r_} {Q:Exit->Act->World->Prop}
structure alv [bI] (P:Program) (g:Cfg) (qG:Nat->List Oper->Bool):Prop where
 tt:eA P g.tt
 call:iq P g.call
 draw:vv P qG g.draw
 pv:p_ g.pv
theorem Top.pc [bI] {B:r_} {E:En} {s:St} {a:Act} {w:World} {pc:List (SB×Bool)} (t:Top B E s a w) (hp:bV E.ρ pc):Top B E { s with pc:=pc } a w:=
 ⟨⟨t.fit.rel,t.fit.sr,hp⟩,t.hi,t.ro,t.below,t.own⟩
end
end
end Go.As
end
section
namespace Go.As
noncomputable section
def MB (h:Hp) (o:dM):Hp:=⟨h.m.put h.next (some o),h.next+1,h.res⟩
def aao {α:Type} (c:FC) (x:V) (ty:Nat) (s:St) (k:W->St->T α):T α:=match c with
 | .ck c=>k (vk c x) s
 | .mp t=>k (.map s.h.next) { s with h:=MB s.h (.j6 x t) }
 | .own t=>jN s (qi (dR x) (.lit 0)) fun s b=>match b with
   |false=>k (.pb s.h.next (dR x) t) { s with h:=MB s.h (.vec x t ty []) }
   |true=>jN s (qi (mF x) (.ep (.i 3))) fun s b=>match b with
    |true=>k (.slice s.h.next 0 0 (.rest (rowOf t).es)) { s with h:=MB s.h (.cells [] ty) }
    |false=>k (.xg x t) s
def RL {α:Type} (eX:List Nat) (x:V):List FC->Nat->St->(List W->St->T α)->T α
 |[],_,s,k=>k [] s
 |c::cs,j,s,k=>aao c (iO j x) (eX.getD (j+2) 0) s fun v s=>RL eX x cs (j+1) s fun vs s=>k (v::vs) s
def aau {α:Type} (t:Nat) (eX:List Nat) (x:V) (s:St) (k:W->St->T α):T α:=match (qA t).ptr with
 |false=>match (qA t).cs with
  |[c]=>aao c x (eX.getD 1 0) s k
  |_=> .fail
 |true=>RL eX x (qA t).cs 0 s fun vs s=>k (.ptr s.h.next 0) { s with h:=MB s.h (.cells vs (eX.getD 0 0)) }
def aan {α:Type} (id:Nat) (x:V) (s:St) (k:St->T α):T α:=match s.h.get id with
 |some o=>match o with
  | .tT e t eX ov=>te x ov s fun r s=>match r with
    |some _=>k s
    |none=>jN s (G5 e (mW x)) fun s b=>match b with
     |true=>k s
     |false=>aau t eX (.op .DJ e (mW x)) { s with h:=s.h.drop id } fun v s=>k { s with h:=s.h.put id (.tT e t eX ((x,v)::ov)) }
  |_=>k s
 |none=>k s
def aa4 (E:En) (H:Hp) (b:Nat):Prop:=(∃id o,H.get id=some o/\(E.θ id).1=b)\/∃x,E.hd b=some x
structure View [bI] (E:En) (H:Hp) (w:World) (E':En) (H':Hp):Prop where
 rel:bO E' H' w
 kp:fC E w.heap E' w.heap
 rF: ∀b,E'.ro b->E.ro b\/aa4 E H b
 hold: ∀b,aa4 E' H' b->aa4 E H b
theorem View.refl [bI] {E:En} {H:Hp} {w:World} (r:bO E H w):View E H w E H:=
 ⟨r,⟨rfl,fun _ h=>h,fun _ _=>rfl,fun _ _=>rfl,fun _ h=>h,fun _ _=>rfl⟩,fun _ h=> .inl h,fun _ h=>h⟩
theorem View.trans [bI] {E E1 E2:En} {H H1 H2:Hp} {w:World} (a:View E H w E1 H1) (b:View E1 H1 w E2 H2):View E H w E2 H2:=
 ⟨b.rel,⟨b.kp.ρ.trans a.kp.ρ,fun id h=>b.kp.dm id (a.kp.dm id h),fun id h=>(b.kp.θ id (a.kp.dm id h)).trans (a.kp.θ id h),fun id h=>(b.kp.κ id (a.kp.dm id h)).trans (a.kp.κ id h),fun x h=>b.kp.ro x (a.kp.ro x h),fun _ _=>rfl⟩,
  fun x h=>(b.rF x h).elim (a.rF x) fun h=> .inr (a.hold x h),fun x h=>a.hold x (b.hold x h)⟩
theorem fC.trans {E E1 E2:En} {h:Array Obj} (a:fC E h E1 h) (b:fC E1 h E2 h):fC E h E2 h:=
 ⟨b.ρ.trans a.ρ,fun id h=>b.dm id (a.dm id h),fun id h=>(b.θ id (a.dm id h)).trans (a.θ id h),fun id h=>(b.κ id (a.dm id h)).trans (a.κ id h),fun x h=>b.ro x (a.ro x h),fun _ _=>rfl⟩
theorem View.aex [bI] {E E':En} {H H':Hp} {w:World} (r:bO E H w) (s:eT E H w E' H' w) (r':bO E' H' w):View E H w E' H':=by
 refine⟨r',s.keeps r,fun b hb=>?_,fun b hb=>?_⟩
 ·rcases s.rF b hb with h|h|h
  ·exact .inl h
  ·exact .inr (.inl h)
  ·have:=r'.rh b hb;omega
 ·rcases hb with ⟨id,o,U,Z⟩|⟨x,U⟩
  ·obtain⟨rO,o0,g1,g2⟩:=s.own id o U (gf r' U);exact .inl ⟨rO,o0,g1,g2.trans Z⟩
  ·exact .inr ⟨x,by rw [<- s.hd]; exact U⟩
theorem u6 (H:Hp) (o:dM) (j:Nat):(MB H o).get j=if j=H.next then some o else H.get j:=by simp [MB,Hp.get,Tr.bQ]
def En.MP (E:En) (b o c n:Nat):En:={ E.ext n (b,o) c with hd:=fun q=>if q=b then none else E.hd q }
theorem Al [bI] {E:En} {H:Hp} {w:World} (r:bO E H w) (b o c:Nat):fC E w.heap (E.MP b o c H.next) w.heap:=by have hu: ∀{i:Nat},E.dm i->i≠H.next:=fun h e=>r.fresh _ (au _) (e▸h);exact⟨rfl,fun _ h=> .inr h,fun _ h=>En.ext_θ E H.next (b,o) c (hu h),fun _ h=>En.ext_κ E H.next (b,o) c (hu h),fun _ h=>h,fun _ _=>rfl⟩
theorem Tm [bI] {E:En} {H:Hp} {w:World} (r:bO E H w) {b o c:Nat} {x:Nat×D×Nat} (hb:E.hd b=some x) (hx: ∀id o,H.get id=some o->nf o=true\/(E.θ id).1≠x.1) (ao:dM)
 (ho:OR (E.MP b o c H.next) w.heap H.next ao):View E H w (E.MP b o c H.next) (MB H ao):=by
 have hu: ∀{i:Nat},E.dm i->i≠H.next:=fun h e=>r.fresh _ (au _) (e▸h);obtain⟨q1,q2,q3⟩:=r.hid b x hb;have kp:=Al r b o c;have hθ: ∀{i:Nat},E.dm i->(E.MP b o c H.next).θ i=E.θ i:=fun h=>kp.θ _ h;have hθn:(E.MP b o c H.next).θ H.next=(b,o):=En.ext_θ_new E H.next (b,o) c;refine⟨⟨fun id hid hd=>?_,fun q hq=>?_,fun id o2 Z=>?_,fun i j o1 o2 U Z he=>?_,r.rh,r.jG,fun q y hq=>?_⟩,kp,fun _ h=> .inl h,fun q hq=>?_⟩
 ·have hid:H.next+1<=id:=hid;rcases hd with hd|hd
  ·have hd:id=H.next:=hd;omega
  ·exact r.fresh id J hd
 ·obtain⟨g1,g2⟩:=r.res q hq;refine⟨Nat.lt_succ_of_lt g1,?_⟩;rintro (hd|hd)
  ·have hd:q=H.next:=hd;omega
  ·exact g2 hd
 ·rw [u6] at Z;split at Z
  ·rename_i he;simp only [ah] at Z;subst Z he;exact⟨.inl rfl,ho,by rw [hθn]; exact q2⟩
  ·obtain⟨g1,g2,g3⟩:=r.live id o2 Z;refine⟨.inr g1,g2.XR kp g1 rfl ?_,by rw [hθ g1]; exact g3⟩;rcases hx id o2 Z with h|h
   ·exact .inl h
   ·refine .inr fun key q j hq=> ⟨?_,rfl⟩;show (if q=b then none else E.hd q)=_;rw [af]
    ·exact hq
    ·rintro rfl;rw [hb] at hq;simp only [ah] at hq;rw [hq] at h;exact h rfl
 ·rw [u6] at U Z;split at U<;>split at Z
  ·omega
  ·rename_i e1 _;have g:=(r.live j o2 Z).1;rw [e1,hθn,hθ g] at he;exact absurd he.symm (q3 j o2 Z)
  ·rename_i _ e1;have g:=(r.live i o1 U).1;rw [e1,hθn,hθ g] at he;exact absurd he (q3 i o1 U)
  ·rw [hθ (r.live i o1 U).1,hθ (r.live j o2 Z).1] at he;exact r.inj i j o1 o2 U Z he
 ·have hq:(if q=b then none else E.hd q)=some y:=hq;split at hq
  ·simp at hq
  ·rename_i gp;obtain⟨p1,p2,p3⟩:=r.hid q y hq;refine⟨p1,p2,fun id o2 Z=>?_⟩;rw [u6] at Z;split at Z
   ·rename_i he;rw [he,hθn];exact fun e=>gp e.symm
   ·rw [hθ (r.live id o2 Z).1];exact p3 id o2 Z
 ·rcases hq with ⟨id,o2,Z,he⟩|⟨y,hq⟩
  ·rw [u6] at Z;split at Z
   ·rename_i e;rw [e,hθn] at he;have he:b=q:=he;exact .inr ⟨x,by rw [<- he]; exact hb⟩
   ·rw [hθ (r.live id o2 Z).1] at he;exact .inl ⟨id,o2,Z,he⟩
  ·have hq:(if q=b then none else E.hd q)=some y:=hq;split at hq
   ·simp at hq
   ·exact .inr ⟨y,hq⟩
theorem KM [bI] {E:En} {H:Hp} {w:World} (r:bO E H w) {id:Nat} {ao:dM} (hd:E.dm id) (lq: ¬E.ro (E.θ id).1) (gp: ∀j o,H.get j=some o->j≠id/\(E.θ j).1≠(E.θ id).1) (hh: ∀x,E.hd (E.θ id).1≠some x) (ho:OR E w.heap id ao):bO E (H.put id ao) w:=by
 have hg: ∀j o,(H.put id ao).get j=some o->(j=id/\o=ao)\/(j≠id/\H.get j=some o):=by
  intro j o h;rw [Hp.bQ] at h;split at h
  ·rename_i e; simp only [ah] at h; exact .inl ⟨e,h.symm⟩
  ·rename_i e; exact .inr ⟨e,h⟩
 refine⟨r.fresh,r.res,fun j o h=>?_,fun i j o1 o2 U Z he=>?_,r.rh,r.jG,fun q y hq=>?_⟩
 ·rcases hg j o h with ⟨rfl,rfl⟩|⟨_,h⟩
  ·exact⟨hd,ho,lq⟩
  ·exact r.live j o h
 ·rcases hg i o1 U with ⟨e1,_⟩|⟨e1,g1⟩ <;>rcases hg j o2 Z with ⟨e2,_⟩|⟨e2,g2⟩
  ·omega
  ·rw [e1] at he;exact absurd he.symm (gp j o2 g2).2
  ·rw [e2] at he;exact absurd he (gp i o1 g1).2
  ·exact r.inj i j o1 o2 g1 g2 he
 ·obtain⟨p1,p2,p3⟩:=r.hid q y hq;refine⟨p1,p2,fun j o h=>?_⟩;rcases hg j o h with ⟨rfl,rfl⟩|⟨_,h⟩
  ·exact fun e=>hh y (by rw [e]; exact hq)
  ·exact p3 j o h
structure n8 [bI] (B:Nat) (key:D) (Z?:Nat->Prop) (w:World) (E:En) (H:Hp) (E':En) (H':Hp):Prop where
 view:View E H w E' H'
 hd: ∀b x,E.hd b=some x->E'.hd b=some x\/∃j,Z? j/\x=(B,key,j)
 D6: ∀b x,E'.hd b=some x->E.hd b=some x
 new: ∀id o,H'.get id=some o->H.get id=some o\/(nf o=true/\H.next<=id)
 QI:H.next<=H'.next
 ro: ∀b,E'.ro b->E.ro b
theorem n8.refl [bI] {B:Nat} {key:D} {Z?:Nat->Prop} {w:World} {E:En} {H:Hp} (r:bO E H w):n8 B key Z? w E H E H:=
 ⟨View.refl r,fun _ _ h=> .inl h,fun _ _ h=>h,fun _ _ h=> .inl h,au _,fun _ h=>h⟩
theorem n8.trans [bI] {B:Nat} {key:D} {Z? J1 J2:Nat->Prop} {w:World} {E E1 E2:En} {H H1 H2:Hp} (a:n8 B key J1 w E H E1 H1) (b:n8 B key J2 w E1 H1 E2 H2) (U: ∀j,J1 j->Z? j) (Z: ∀j,J2 j->Z? j):n8 B key Z? w E H E2 H2:=by
 refine⟨a.view.trans b.view,fun q x h=>?_,fun q x h=>a.D6 q x (b.D6 q x h),fun id o h=>?_,bk a.QI b.QI,fun q h=>a.ro q (b.ro q h)⟩
 ·rcases a.hd q x h with h|⟨j,h,e⟩
  ·rcases b.hd q x h with h|⟨j,h,e⟩
   ·exact .inl h
   ·exact .inr ⟨j,Z j h,e⟩
  ·exact .inr ⟨j,U j h,e⟩
 ·rcases b.new id o h with h|⟨h,g⟩
  ·exact a.new id o h
  ·exact .inr ⟨h,bk a.QI g⟩
theorem n8.nf [bI] {B:Nat} {key:D} {Z?:Nat->Prop} {w:World} {E E':En} {H H':Hp} (a:n8 B key Z? w E H E' H') (r:bO E H w) (hx: ∀id o,H.get id=some o->nf o=true\/(E.θ id).1≠B): ∀id o,H'.get id=some o->nf o=true\/(E'.θ id).1≠B:=by
 intro id o h;rcases a.new id o h with h|⟨h,_⟩
 ·rcases hx id o h with g|g
  ·exact .inl g
  ·exact .inr (by rw [a.view.kp.θ id (r.live id o h).1]; exact g)
 ·exact .inl h
theorem n8.own [bI] {B:Nat} {key:D} {Z?:Nat->Prop} {w:World} {E E':En} {H H':Hp} (a:n8 B key Z? w E H E' H') {j ty:Nat} (hj: ¬Z? j) {c:FC} {d:D} {u:Value} (ho:oO E w.heap B key j ty c d u):oO E' w.heap B key j ty c d u:=
 ho.cf a.view.kp fun b hb=>by
  rcases a.hd b _ hb with h|⟨i,h,e⟩
  ·exact⟨h,rfl⟩
  ·simp only [ak,true_and] at e;exact absurd (e▸h) hj
theorem sJ [bI] {E:En} {H:Hp} {w:World} (r:bO E H w) {b o c B j:Nat} {key:D} (hb:E.hd b=some (B,key,j)) (hx: ∀id o,H.get id=some o->nf o=true\/(E.θ id).1≠B) (ao:dM) (hn:nf ao=true)
 (ho:OR (E.MP b o c H.next) w.heap H.next ao):n8 B key (·= j) w E H (E.MP b o c H.next) (MB H ao):=by
 refine⟨Tm r hb hx ao ho,fun q x h=>?_,fun q x h=>?_,fun id o h=>?_,alU _,fun _ h=>h⟩
 ·show (if q=b then none else E.hd q)=some x\/_;split
  ·rename_i e;subst e;rw [hb] at h;simp only [ah] at h;exact .inr ⟨j,rfl,h.symm⟩
  ·exact .inl h
 ·have h:(if q=b then none else E.hd q)=some x:=h;split at h
  ·simp at h
  ·exact h
 ·rw [u6] at h;split at h
  ·rename_i e;simp only [ah] at h;exact .inr ⟨by rw [<- h]; exact hn,J⟩
  ·exact .inl h
theorem Rd.i3 {ro:Nat->Prop} {h:Array Obj} {t:Nat} {u:Value} (r:Rd ro h (.sl t) (.i 3) u):False:=by
 generalize hd:D.i 3=d at r
 cases r with
 |nil t=>simp at hd
 |vO t a cap=>simp at hd
 |one t c b o cap ds f hr hc hb U Z=>cases ds<;>simp [dL] at hd
 |many t cs b o cap rows f hr hc hb Y U Z=>cases rows<;>simp [dL] at hd
theorem Rd.akg {ro:Nat->Prop} {h:Array Obj} {t:Nat} {d:D} {x:Option Addr} {c:Nat} (r:Rd ro h (.sl t) d (.slice x 0 c)):d.l= []:=by
 generalize hu:Value.slice x 0 c=u at r
 cases r with
 |nil t=>rfl
 |vO t a cap=>rfl
 |one t c b o cap ds f hr hc hb U Z=> simp only [Value.slice.injEq] at hu;rw [bJ];exact alR hu.2.1.symm
 |many t cs b o cap rows f hr hc hb Y U Z=> simp only [Value.slice.injEq] at hu;rw [bJ,alR hu.2.1.symm];rfl
theorem RM [bI] {α:Type} {ρ:Nat->Int} {c:FC} {x:V} {ty:Nat} {s:St} {k:W->St->T α} {y:α} {E:En} {w:World} {B j:Nat} {key:D} {u:Value} (hρ:E.ρ=ρ) (r:bO E s.h w) (hp:bV ρ s.pc) (hx: ∀id o,s.h.get id=some o->nf o=true\/(E.θ id).1≠B)
 (ho:oO E w.heap B key j ty c (dec (x.den ρ)) u) (h:(aao c x ty s k).leaf ρ=some y) :
 ∃v h' ef E',bV ρ ef/\n8 B key (·= j) w E s.h E' h'/\VR E' w.heap v u/\(k v { s with h:=h',pc:=ef }).leaf ρ=some y:=by
 cases c with
 |ck c=> refine⟨_,s.h,s.pc,E,hp,n8.refl r,?_,h⟩;rw [nt,hρ];exact Rd.cell ho
 |mp t=>
  obtain⟨b,bK,c,rfl,Z,h3,h4⟩:=ho;refine⟨_,_,s.pc,E.MP b 0 0 s.h.next,hp,sJ r Z hx (.j6 x t) rfl ?_,?_,h⟩
  ·simp only [OR];have hθ:(E.MP b 0 0 s.h.next).θ s.h.next=(b,0):=En.ext_θ_new E s.h.next (b,0) 0;rw [hθ];exact⟨bK,c,h3,by show kb E.ro w.heap t (dec (x.den E.ρ)).l bK.toList; rw [hρ]; exact h4⟩
  ·simp only [VR];have hθ:(E.MP b 0 0 s.h.next).θ s.h.next=(b,0):=En.ext_θ_new E s.h.next (b,0) 0;rw [hθ];exact⟨rfl,.inl rfl⟩
 |own t=>
  simp only [aao] at h;obtain⟨fN,fA,U⟩:=cH hp h;rw [iw,cE] at U;simp only [V.den] at U;rcases ho with ⟨⟨a,rfl⟩,Z⟩|⟨b,o,n,cap,a,arr,lo,hi,rfl,g2,g3,g4,g5,g6,g7⟩
  ·have Y:=Z.akg;rw [Y] at U;obtain⟨jK,jD,h3⟩:=cH (s:={ s with pc:=fN }) fA U;rw [iw,lV] at h3;simp only [V.den] at h3
   have gp:(enc (dec (x.den ρ)) == enc (.i 3))=false:=by rw [beq_eq_false_iff_ne];intro e;rw [iJ e] at Z;exact Z.i3
   rw [gp] at h3;refine⟨_,s.h,jK,E,jD,n8.refl r,?_,h3⟩;simp only [VR];rw [hρ];exact⟨⟨a,rfl⟩,Z⟩
  ·have hθ: ∀c,(E.MP b o c s.h.next).θ s.h.next=(b,o):=fun c=>En.ext_θ_new E s.h.next (b,o) c;have hκ: ∀c,(E.MP b o c s.h.next).κ s.h.next=c:=fun c=>En.ext_κ_new E s.h.next (b,o) c;rcases g7 with ⟨rfl,hd⟩|⟨q1,rfl,us,q3,q4,q5⟩
   ·rw [hd] at U;obtain⟨jK,jD,h3⟩:=cH (s:={ s with pc:=fN }) fA U;rw [iw,lV] at h3;simp only [V.den,hd,beq_self_eq_true] at h3;refine⟨_,_,jK,E.MP b o (cap*(rowOf t).es) s.h.next,jD,sJ r g3 hx (.cells [] ty) rfl ?_,?_,h3⟩
    ·simp only [OR];rw [hθ,hκ];refine⟨arr,lo,hi,[],g4,by simp only [cA],fun i u hu=>by simp at hu,amh _,?_,g6,ad⟩;rcases g5 with ⟨_,g5⟩|⟨g5,_,g8⟩
     ·exact g5
     ·rw [g5,alQ]; exact g8
    ·simp only [VR];refine⟨.inl rfl,a,cap,rfl,amh _,?_⟩;simp only [eQ];rw [hθ,hκ];rcases g5 with ⟨g5,_⟩|⟨g5,_,_⟩
     ·exact .inl ⟨g5,aA _⟩
     ·exact .inr ⟨g5,trivial,by rw [g5,alQ]⟩
   ·have lK:0<(dec (x.den ρ)).l.length:=by
     have:=q1.2.2;exact amb.2 this
    have gp:(((dec (x.den ρ)).l.length:Int) == 0)=false:=by rw [beq_eq_false_iff_ne]; omega
    rw [gp] at U
    have g5:a=⟨b,o,none⟩/\o+cap*(rowOf t).es=arr.size:=by
     rcases g5 with g5|⟨_,g5,_⟩
     ·exact g5
     ·omega
    have ss:sM (rowOf t) []:=fun p hp=>by simp at hp
    have hlen:(bE E.ρ (rowOf t) [] (dec (x.den ρ)).l 0).length<=cap*(rowOf t).es:=by rw [cF ss];exact amg _ g2
    have kp:=Al r b o (cap*(rowOf t).es);refine⟨_,_,fN,E.MP b o (cap*(rowOf t).es) s.h.next,fA,sJ r g3 hx (.vec x t ty []) rfl ?_,?_,U⟩
    ·simp only [OR];rw [hθ,hκ];show (sM (rowOf t) []/\sg (rowOf t) (dec (x.den E.ρ)))/\∃arr lo hi us,w.heap[b]?=some (.cells arr ty (lo,hi))/\cA _ w.heap (bE E.ρ (rowOf t) [] (dec (x.den E.ρ)).l 0) us/\_;rw [hρ];rw [hρ] at q3 hlen;exact⟨⟨ss,q1⟩,arr,lo,hi,us,g4,cA.cf kp _ _ q3,q4,(by show (bE E.ρ (rowOf t) [] (dec (x.den E.ρ)).l 0).length<=_; rw [hρ]; exact hlen),g5.2,g6,q5⟩
    ·simp only [VR];refine⟨.inl rfl,(dec (x.den ρ)).l.length,a,cap,?_,rfl,g2,?_⟩
     ·show (dR x).den E.ρ=_;rw [cE,hρ]
     ·simp only [eQ];rw [hθ,hκ];exact .inl ⟨g5.1,aA _⟩
theorem LO [bI] {α:Type} {ρ:Nat->Int} {eX:List Nat} {x:V} {y:α} {w:World} {B:Nat} {key:D}: ∀{cs:List FC} {j:Nat} {s:St} {k:List W->St->T α} {E:En} {us:List Value},E.ρ=ρ->bO E s.h w->bV ρ s.pc->(∀id o,s.h.get id=some o->nf o=true\/(E.θ id).1≠B)->
 us.length=cs.length->(∀i c u,cs[i]?=some c->us[i]?=some u->oO E w.heap B key (j+i+1) (eX.getD (j+i+2) 0) c ((dec (x.den ρ)).hd (j+i)) u)->(RL eX x cs j s k).leaf ρ=some y->
 ∃vs h' ef E',bV ρ ef/\n8 B key (fun i=>j<i) w E s.h E' h'/\cA E' w.heap vs us/\(k vs { s with h:=h',pc:=ef }).leaf ρ=some y
 |[],j,s,k,E,us,hρ,r,hp,hx,Y,ho,h=>by have:us= []:=alR Y;subst this;exact⟨[],s.h,s.pc,E,hp,n8.refl r,by simp only [cA],h⟩
 |c::cs,j,s,k,E,[],hρ,r,hp,hx,Y,ho,h=>by simp at Y
 |c::cs,j,s,k,E,u::us,hρ,r,hp,hx,Y,ho,h=>by
  simp only [RL] at h;have h0:=ho 0 c u rfl rfl;rw [a8,<- pf] at h0;obtain⟨v,U,fN,E1,fA,f1,v1,g1⟩:=RM hρ r hp hx h0 h;have hρ1:E1.ρ=ρ:=f1.view.kp.ρ.trans hρ
  obtain⟨vs,Z,jK,E2,jD,f2,v2,g2⟩:=LO (s:={ s with h:=U,pc:=fN }) (us:=us) hρ1 f1.view.rel fA (f1.nf r hx) (by simpa using Y) (fun i c' u' hc hu=>by
   have:=ho (i+1) c' u' (by simpa using hc) (by simpa using hu);have e1:j+(i+1)=j+1+i:=J
   rw [e1] at this
   exact f1.own J this) g1
  refine⟨v::vs,Z,jK,E2,jD,f1.trans f2 (fun i hi=>by omega) (fun i hi=>by omega),?_,g2⟩;rw [bT];exact⟨u,us,rfl,VR.cf f2.view.kp _ _ v1,v2⟩
theorem aat [bI] {α:Type} {ρ:Nat->Int} {t:Nat} {eX:List Nat} {x:V} {y:α} {w:World} {B:Nat} {key:D} {s:St} {k:W->St->T α} {E:En} {u:Value} (hρ:E.ρ=ρ) (r:bO E s.h w) (hp:bV ρ s.pc) (hx: ∀id o,s.h.get id=some o->nf o=true\/(E.θ id).1≠B)
 (ho:pU E w.heap B t eX key (dec (x.den ρ)) u) (h:(aau t eX x s k).leaf ρ=some y) :
 ∃v h' ef E',bV ρ ef/\n8 B key (fun _=>True) w E s.h E' h'/\VR E' w.heap v u/\(k v { s with h:=h',pc:=ef }).leaf ρ=some y:=by
 unfold pU at ho;unfold aau at h;split at ho
 ·rename_i Ol;rw [Ol] at h;obtain⟨c,hc,ho⟩:=ho;rw [hc] at h;obtain⟨v,U,fN,E1,fA,f1,v1,g1⟩:=RM hρ r hp hx ho h;exact⟨v,U,fN,E1,fA,⟨f1.view,fun b x hb=>(f1.hd b x hb).imp id fun⟨j,_,e⟩=> ⟨j,trivial,e⟩,f1.D6,f1.new,f1.QI,f1.ro⟩,v1,g1⟩
 ·rename_i Ol;rw [Ol] at h;obtain⟨b,o,arr,lo,hi,rfl,Z,h3,h4,h5,h6⟩:=ho
  have AQ: ∃us:List Value,us.length=(qA t).cs.length/\∀j u,us[j]?=some u->arr[o+j]?=some u:=by
   refine⟨(arr.toList.drop o).take (qA t).cs.length,?_,fun j u hu=>?_⟩
   ·rw [bh,bq,bn]; omega
   ·rw [amn] at hu;split at hu
    ·rw [amm,alM] at hu;exact hu
    ·simp at hu
  obtain⟨us,Y,GW⟩:=AQ
  have jU: ∀i c u,(qA t).cs[i]?=some c->us[i]?=some u->u.oneCell'=true/\oO E w.heap B key (i+1) (eX.getD (i+2) 0) c ((dec (x.den ρ)).hd i) u:=by intro i c u hc hu;obtain⟨u',p1,p2,p3⟩:=h6 i c hc;rw [GW i u hu] at p1;simp only [ah] at p1;subst p1;exact⟨p2,p3⟩
  obtain⟨vs,U,fN,E1,fA,f1,v1,g1⟩:=LO (j:=0) (us:=us) hρ r hp hx Y (fun i c u hc hu=>by
   rw [aA]
   exact (jU i c u hc hu).2) h
  have Rz:E1.hd b=some (B,key,0):=by
   rcases f1.hd b _ Z with q|⟨j,q1,q2⟩
   ·exact q
   ·simp only [ak,true_and] at q2;omega
  have hθ:(E1.MP b o (arr.size-o) U.next).θ U.next=(b,o):=En.ext_θ_new E1 U.next (b,o) (arr.size-o);have hκ:(E1.MP b o (arr.size-o) U.next).κ U.next=arr.size-o:=En.ext_κ_new E1 U.next (b,o) (arr.size-o);have kp:=Al f1.view.rel b o (arr.size-o);have yR:=v1.length
  have f2:=sJ (o:=o) (c:=arr.size-o) f1.view.rel Rz (f1.nf r hx) (.cells vs (eX.getD 0 0)) rfl (by
   simp only [OR];rw [hθ,hκ];refine⟨arr,lo,hi,us,h3,cA.cf kp _ _ v1,GW,J,J,h5,fun u hu=>?_⟩;obtain⟨i,hi'⟩:=am8 hu;have dS:=(aX.1 hi').1;have akE:i<(qA t).cs.length:=J
   exact (jU i _ u (aL akE) hi').1)
  refine⟨_,_,fN,_,fA,f1.trans f2 (fun _ _=>trivial) (fun _ _=>trivial),?_,g1⟩;simp only [VR];rw [hθ];exact⟨by rw [a8],.inl rfl⟩
theorem eP.one {E:En} {h:Array Obj} {B t:Nat} {eX:List Nat} {ov:List (V×W)} {n:Int} {d:D} (ss:lR E.ρ n ov=none): ∀{ds:List D} {es:List MapEntry},(ds.map gw).Nodup->eN ds (.i n)=some d->eP E h B t eX ov ds es->
 ∃en:MapEntry,pU E h B t eX (.i n) d en.val/\∀e1∈es,e1.key= .int .i64 n->e1=en
 |[],_,_,hf,_=>by simp [eN] at hf
 |a::ds,_,lG,hf,⟨e0,rr,m,h0,q1,q2,q3,q4⟩=>by
  subst h0;have hk:gw a= .i m:=by rw [q1]; rfl
  simp only [aw,al0] at lG;simp only [eN] at hf;by_cases hm:m=n
  ·subst hm;rw [ag hk] at hf;simp only [ah] at hf;rw [ss,hf] at q3;refine⟨e0,q3,fun e1 U Z=>?_⟩;rcases ay.1 U with rfl|U
   ·rfl
   ·obtain⟨i,hi⟩:=am8 U;exact absurd (eP.set.eP.Cv q4 hi Z) (by rw [<- hk]; exact lG.1)
  ·rw [af (by rw [hk]; simpa using hm)] at hf;obtain⟨en,p1,p2⟩:=eP.one ss lG.2 hf q4;refine⟨en,p1,fun e1 U Z=>?_⟩;rcases ay.1 U with rfl|U
   ·rw [q2] at Z;simp only [Value.int.injEq,true_and] at Z;exact absurd Z hm
   ·exact p2 e1 U Z
theorem eP.foc {E E3:En} {h:Array Obj} (kp:fC E h E3 h) {B t:Nat} {eX:List Nat} {ov:List (V×W)} {n:Int} {x:V} {v:W} (hx:x.den E.ρ=n) (ss:lR E.ρ n ov=none) (hd: ∀b m j,m≠n->E.hd b=some (B,.i m,j)->E3.hd b=some (B,.i m,j)) :
 ∀{ds:List D} {es:List MapEntry},(∀e1∈es,e1.key= .int .i64 n->VR E3 h v e1.val)->eP E h B t eX ov ds es->eP E3 h B t eX ((x,v)::ov) ds es
 |[],_,_,ho=>ho
 |a::ds,_,hv,⟨e0,rr,m,h0,q1,q2,q3,q4⟩=>by
  subst h0;refine⟨e0,rr,m,rfl,q1,q2,?_,eP.foc kp hx ss hd (fun e1 U Z=>hv e1 (by simp [U]) Z) q4⟩;simp only [lR,kp.ρ,hx];by_cases hm:n=m
  ·rw [ag hm];exact hv e0 ad (by rw [q2,hm])
  ·rw [af hm];split at q3
   ·exact VR.cf kp _ _ q3
   ·exact q3.cf kp fun b j hb=> ⟨hd b m j (fun e=>hm e.symm) hb,rfl⟩
theorem aam [bI] {α:Type} {ρ:Nat->Int} {id:Nat} {x:V} {y:α} {w:World} {s:St} {k:St->T α} {E:En} (hρ:E.ρ=ρ) (r:bO E s.h w) (hp:bV ρ s.pc) (h:(aan id x s k).leaf ρ=some y) :
 ∃h' ef E',bV ρ ef/\View E s.h w E' h'/\(k { s with h:=h',pc:=ef }).leaf ρ=some y:=by
 unfold aan at h;split at h
 ·rename_i o Y;split at h
  ·rename_i e t eX ov;obtain⟨fN,fA,U⟩:=xR hp h
   cases ss:lR ρ (x.den ρ) ov with
   |some v=>rw [ss] at U; exact⟨s.h,fN,E,fA,View.refl r,U⟩
   |none=>
    rw [ss] at U;obtain⟨jK,jD,Z⟩:=cH (s:={ s with pc:=fN }) fA U;rw [wb] at Z;simp only [V.den,fu.den,rA] at Z;obtain⟨g0,bK,c',g1,g2⟩:=zo r Y;rw [hρ] at g0 g2;have hm: ∀n,lR E.ρ n ov=lR ρ n ov:=fun n=>by rw [hρ]
    cases hf:eN (dec (e.den ρ)).l (.i (x.den ρ)) with
    |none=> rw [hf] at Z;exact⟨s.h,jK,E,jD,View.refl r,Z⟩
    |some d=>
     rw [hf] at Z;simp only [bd,if_true] at Z;have Z:(aau t eX (.op .DJ e (mW x)) { s with pc:=jK,h:=s.h.drop id } fun v s=>k { s with h:=s.h.put id (.tT e t eX ((x,v)::ov)) }).leaf ρ=some y:=Z
     have hdx:dec ((V.op .DJ e (mW x)).den ρ)=d:=by simp only [V.den,fu.den,bB,rA,hf,ax]
     obtain⟨en,akp,huq⟩:=eP.one (by rw [hρ]; exact ss) g0.1 hf g2;obtain⟨dst,drl⟩:=wu r id;have T5:=(r.live id _ Y).1
     have G0:id<s.h.next:=by
      rcases aT id s.h.next with q|q
      ·exact q
      ·exact absurd T5 (r.fresh id q)
     have Yp: ∀j o,(s.h.drop id).get j=some o->s.h.get j=some o/\j≠id:=by
      intro j o hj;rw [Hp.kG] at hj;split at hj
      ·simp at hj
      ·rename_i e; exact⟨hj,e⟩
     have hx0: ∀j o,(s.h.drop id).get j=some o->nf o=true\/(E.θ j).1≠(E.θ id).1:=by intro j o hj;obtain⟨q1,q2⟩:=Yp j o hj;exact .inr fun e=>q2 (r.inj j id _ _ q1 Y e)
     obtain⟨v,h3,UR,E3,IZ,f3,v3,g3⟩:=aat (s:={ s with pc:=jK,h:=s.h.drop id }) (B:=(E.θ id).1) (key:=.i (x.den ρ)) hρ drl jD hx0 (by rw [hdx]; exact akp) Z;have hθ:=f3.view.kp.θ id T5;have hρ3:E3.ρ=ρ:=f3.view.kp.ρ.trans hρ
     have hnn: ∀j o,h3.get j=some o->j≠id/\(E3.θ j).1≠(E3.θ id).1:=by
      intro j o hj;rcases f3.new j o hj with q|⟨_,q⟩
      ·obtain⟨q1,q2⟩:=Yp j o q;refine⟨q2,?_⟩;rw [hθ,f3.view.kp.θ j (r.live j o q1).1];exact fun e=>q2 (r.inj j id _ _ q1 Y e)
      ·have q:s.h.next<=j:=q;refine⟨J,fun e=>?_⟩;rw [hθ] at e;rcases f3.view.hold _ (.inl ⟨j,o,hj,rfl⟩) with ⟨i0,o0,q1,q2⟩|⟨y0,q1⟩
       ·obtain⟨q3,q4⟩:=Yp i0 o0 q1;exact q4 (r.inj i0 id _ _ q3 Y (q2.trans e))
       ·rw [e] at q1;exact (r.hid _ _ q1).2.2 id _ Y rfl
     have hr3:bO E3 (h3.put id (.tT e t eX ((x,v)::ov))) w:=by
      refine KM f3.view.rel (f3.view.kp.dm id T5) ?_ hnn ?_ ?_
      ·rw [hθ];exact fun hr=>(r.live id _ Y).2.2 (f3.ro _ hr)
      ·rw [hθ];intro q hq;exact (r.hid _ _ (f3.D6 _ _ hq)).2.2 id _ Y rfl
      ·simp only [OR];rw [hρ3,hθ];refine⟨⟨g0.1,fun p hp=>?_,?_⟩,bK,c',g1,?_⟩
       ·rcases ay.1 hp with rfl|hp
        ·rcases zn (E:=E) (i:=0) (dt:=.int .i64) ⟨_,rfl⟩ (x.den ρ) g2 with ⟨q1,_⟩|⟨_,_,_,_,q2,_⟩
         ·rw [hf] at q1; simp at q1
         ·exact q2
        ·exact g0.2.1 p hp
       ·simp only [aw,al0];exact⟨Iw ss,g0.2.2⟩
       ·exact eP.foc f3.view.kp (x:=x) (by rw [hρ]) (by rw [hρ]; exact ss) (fun b m j hm hb=>by
         rcases f3.hd b _ hb with q|⟨j',_,q⟩
         ·exact q
         ·simp only [ak,D.i.injEq,true_and] at q
          exact absurd q.1 hm) (fun e1 U Z=>by rw [huq e1 U Z]; exact v3) g2
     refine⟨_,UR,E3,IZ,⟨hr3,f3.view.kp,fun b hb=> .inl (f3.ro b hb),fun b hb=>by
      rcases hb with ⟨j,o,q1,q2⟩|q
      ·rw [Hp.bQ] at q1;split at q1
       ·rename_i e;rw [e,hθ] at q2;exact .inl ⟨id,_,Y,q2⟩
       ·rcases f3.view.hold b (.inl ⟨j,o,q1,q2⟩) with ⟨i0,o0,p1,p2⟩|p
        ·exact .inl ⟨i0,o0,(Yp i0 o0 p1).1,p2⟩
        ·exact .inr p
      ·rcases f3.view.hold b (.inr q) with ⟨i0,o0,p1,p2⟩|p
       ·exact .inl ⟨i0,o0,(Yp i0 o0 p1).1,p2⟩
       ·exact .inr p⟩,g3⟩
  ·exact⟨s.h,s.pc,E,hp,View.refl r,h⟩
 ·exact⟨s.h,s.pc,E,hp,View.refl r,h⟩
end
end Go.As
end
section
namespace Go.As
noncomputable section
def TG {α:Type} (c:FC) (v:W) (ty:Nat) (s:St) (k:V->St->T α):T α:=match c with
 | .ck c=>OA v s fun v s=>match nq c v with
   |some x=>k x s
   |none=> .fail
 | .mp t=>match v with
   | .map i=>match s.h.get i with
     |some o=>match o with
      | .j6 e t'=>match Nat.beq t t' with
        |true=>k e { s with h:=s.h.drop i }
        |false=> .fail
      |_=> .fail
     |none=> .fail
   |_=> .fail
 | .own t=>match v with
   | .fZ=>k (.ep (.i 1)) s
   | .xg z t'=>match Nat.beq t t' with
     |true=>k z s
     |false=> .fail
   | .slice i o n c=>match c with
     | .exact m=>match n with
       |0=>match m with
        |0=>k (.ep (.i 2)) s
        |_=> .fail
       |_=> .fail
     | .rest es=>match s.h.get i with
       |some ob=>match ob with
        | .cells cs VL=>if es=(rowOf t).es/\VL=ty/\o+n*es=cs.length then match n with
         |0=>k (.ep (.i 3)) { s with h:=s.h.drop i }
         |m+1=>match kM (rowOf t) (.ep (.i 0)) (m+1) (cs.drop o) with
          |some e=>k e { s with h:=s.h.drop i }
          |none=> .fail
         else .fail
        |_=> .fail
       |none=> .fail
   | .pb i n t'=>match Nat.beq t t' with
     |true=>match Be s.h i t with
      |some (e,VL)=>match Nat.beq VL ty&&eW n (dR e) with
       |true=>k e { s with h:=s.h.drop i }
       |false=> .fail
      |none=> .fail
     |false=> .fail
   | .tV i lo n t'=>match Nat.beq t t' with
     |true=>match Be s.h i t with
      |some (e,VL)=>match Nat.beq VL ty with
       |true=>xx e lo n s fun s=>jN s (qi n (.lit 0)) fun s b=>match b with
        |true=>k (.ep (.i 3)) { s with h:=s.h.drop i }
        |false=>k (Dz e lo n) { s with h:=s.h.drop i }
       |false=> .fail
      |none=> .fail
     |false=> .fail
   |_=> .fail
def Gi {α:Type} (eX:List Nat):List FC->Nat->List W->St->(V->St->T α)->T α
 |[],_,[],s,k=>k (.ep (.i 0)) s
 |c::cs,j,v::vs,s,k=>TG c v (eX.getD (j+2) 0) s fun a s=>Gi eX cs (j+1) vs s fun b s=>k (eD a b) s
 |_,_,_,_,_=> .fail
def aeu {α:Type} (t:Nat) (eX:List Nat) (v:W) (s:St) (k:V->St->T α):T α:=match (qA t).ptr with
 |false=>match (qA t).cs with
  |[c]=>TG c v (eX.getD 1 0) s k
  |_=> .fail
 |true=>match v with
  | .ptr i o=>match o with
    |0=>match s.h.get i with
     |some ob=>match ob with
      | .cells cs ty=>match Nat.beq ty (eX.getD 0 0) with
        |true=>Gi eX (qA t).cs 0 cs { s with h:=s.h.drop i } k
        |false=> .fail
      |_=> .fail
     |none=> .fail
    |_=> .fail
  |_=> .fail
def P8 {α:Type} (t:Nat) (eX:List Nat):List (V×W)->V->St->(V->St->T α)->T α
 |[],e,s,k=>k e s
 |(x,v)::l,e,s,k=>aeu t eX v s fun d s=>P8 t eX l (.op .xB e (eD (mW x) d)) s k
def Q? {α:Type} (id:Nat) (s:St) (k:St->T α):T α:=match s.h.get id with
 |some o=>match o with
  | .tT e t eX ov=>P8 t eX ov e { s with h:=s.h.drop id } fun e' s=>k { s with h:=s.h.put id (.tT e' t eX []) }
  |_=>k s
 |none=>k s
structure lP [bI] (w:World) (E:En) (H:Hp) (E':En) (H':Hp):Prop where
 view:View E H w E' H'
 mono: ∀b x,E.hd b=some x->E'.hd b=some x
 sub: ∀id o,H'.get id=some o->H.get id=some o
 hold: ∀b,E'.ro b\/(∃x,E'.hd b=some x)->E.ro b\/(∃x,E.hd b=some x)\/∃id o,H.get id=some o/\(E.θ id).1=b
theorem lP.refl [bI] {w:World} {E:En} {H:Hp} (r:bO E H w):lP w E H E H:=⟨View.refl r,fun _ _ h=>h,fun _ _ h=>h,fun _ h=>h.imp id .inl⟩
theorem lP.trans [bI] {w:World} {E E1 E2:En} {H H1 H2:Hp} (r:bO E H w) (a:lP w E H E1 H1) (b:lP w E1 H1 E2 H2):lP w E H E2 H2:=by
 refine⟨a.view.trans b.view,fun q x h=>b.mono q x (a.mono q x h),fun id o h=>a.sub id o (b.sub id o h),fun q h=>?_⟩;rcases b.hold q h with h|h|⟨id,o,U,Z⟩
 ·exact a.hold q (.inl h)
 ·exact a.hold q (.inr h)
 ·have h3:=a.sub id o U;rw [a.view.kp.θ id (r.live id o h3).1] at Z;exact .inr (.inr ⟨id,o,h3,Z⟩)
theorem lP.aey [bI] {w:World} {E E':En} {H H':Hp} (r:bO E H w) (f:Kg E w H E' H'):lP w E H E' H':=by
 refine⟨View.aex r f.dZ f.rel,fun b x h=>by rw [f.dZ.hd]; exact h,f.sub.get,fun b h=>?_⟩;rcases h with h|⟨x,h⟩
 ·rcases f.dZ.rF b h with g|g|g
  ·exact .inl g
  ·exact .inr (.inr g)
  ·have:=f.rel.rh b h;omega
 ·exact .inr (.inl ⟨x,by rw [<- f.dZ.hd]; exact h⟩)
theorem lP.own [bI] {w:World} {E E':En} {H H':Hp} (a:lP w E H E' H') {B:Nat} {key:D} {j ty:Nat} {c:FC} {d:D} {u:Value} (ho:oO E w.heap B key j ty c d u):oO E' w.heap B key j ty c d u:=
 ho.cf a.view.kp fun b hb=> ⟨a.mono b _ hb,rfl⟩
def En.T6 (E:En) (b:Nat) (x:Nat×D×Nat):En:={ E with hd:=fun q=>if q=b then some x else E.hd q }
theorem rP [bI] {E:En} {H:Hp} {w:World} (r:bO E H w) {i:Nat} {o:dM} (Y:H.get i=some o) (x:Nat×D×Nat):lP w E H (E.T6 (E.θ i).1 x) (H.drop i):=by
 have hg: ∀j o,(H.drop i).get j=some o->H.get j=some o/\j≠i:=by
  intro j o hj;rw [Hp.kG] at hj;split at hj
  ·simp at hj
  ·rename_i e; exact⟨hj,e⟩
 have kp:fC E w.heap (E.T6 (E.θ i).1 x) w.heap:=⟨rfl,fun _ h=>h,fun _ _=>rfl,fun _ _=>rfl,fun _ h=>h,fun _ _=>rfl⟩
 have mono: ∀b y,E.hd b=some y->(E.T6 (E.θ i).1 x).hd b=some y:=by
  intro b y hb;show (if b=(E.θ i).1 then some x else E.hd b)=_;rw [af]
  ·exact hb
  ·exact fun e=>(r.hid b y hb).2.2 i o Y e.symm
 have lM: ∀b y,(E.T6 (E.θ i).1 x).hd b=some y->b=(E.θ i).1\/E.hd b=some y:=by
  intro b y hb;have hb:(if b=(E.θ i).1 then some x else E.hd b)=some y:=hb;split at hb
  ·rename_i e; exact .inl e
  ·exact .inr hb
 refine⟨⟨⟨r.fresh,r.res,fun j o2 Z=>?_,fun a b o1 o2 U Z he=>r.inj a b o1 o2 (hg _ _ U).1 (hg _ _ Z).1 he,r.rh,r.jG,fun b y hb=>?_⟩,kp,fun _ h=> .inl h,fun b hb=>?_⟩,mono,fun j o2 Z=>(hg j o2 Z).1,fun b hb=>?_⟩
 ·obtain⟨g1,g2,g3⟩:=r.live j o2 (hg j o2 Z).1;exact⟨g1,g2.cf kp g1 rfl fun key b q hb=> ⟨mono b _ hb,rfl⟩,g3⟩
 ·rcases lM b y hb with rfl|hb
  ·refine⟨gf r Y,(r.live i o Y).2.2,fun j o2 Z e=>?_⟩;obtain⟨q1,q2⟩:=hg j o2 Z;exact q2 (r.inj j i o2 o q1 Y e)
  ·obtain⟨q1,q2,q3⟩:=r.hid b y hb;exact⟨q1,q2,fun j o2 Z=>q3 j o2 (hg j o2 Z).1⟩
 ·rcases hb with ⟨j,o2,Z,he⟩|⟨y,hb⟩
  ·exact .inl ⟨j,o2,(hg j o2 Z).1,he⟩
  ·rcases lM b y hb with rfl|hb
   ·exact .inl ⟨i,o,Y,rfl⟩
   ·exact .inr ⟨y,hb⟩
 ·rcases hb with hb|⟨y,hb⟩
  ·exact .inl hb
  ·rcases lM b y hb with rfl|hb
   ·exact .inr (.inr ⟨i,o,Y,rfl⟩)
   ·exact .inr (.inl ⟨y,hb⟩)
theorem s6 (E:En) (b:Nat) (x:Nat×D×Nat):(E.T6 b x).hd b=some x:=by show (if b=b then some x else E.hd b)=_;rw [ag rfl]
theorem PJ {E:En} {h:Array Obj} {i:Nat} {e:V} {t ty:Nat} (ho:OR E h i (.vec e t ty [])) {l k:Nat} (hk:l+k<=(dec (e.den E.ρ)).l.length) :
 ∃arr lo hi us,h[(E.θ i).1]?=some (.cells arr ty (lo,hi))/\(E.θ i).2+E.κ i=arr.size/\(∀q,lo<=q->q<hi->arr.size<=q)/\cA E h (bE E.ρ (rowOf t) [] (((dec (e.den E.ρ)).l.take (l+k)).drop l) 0) us/\
  (∀q u,us[q]?=some u->arr[(E.θ i).2+l*(rowOf t).es+q]?=some u)/\∀u∈us,u.oneCell'=true:=by
 simp only [OR] at ho;obtain⟨⟨ss,_⟩,arr,lo,hi,us,U,Z,h3,h4,h5,h6,h7⟩:=ho;generalize (dec (e.den E.ρ)).l=L at *
 have hL:L=L.take l++((L.take (l+k)).drop l++L.drop (l+k)):=by
  rw [List.drop_take,show l+k-l=k by omega]
  have e1:(L.drop l).take k++L.drop (l+k)=L.drop l:=by rw [<- anD,al6]
  rw [e1,al6]
 have h2':=Z;rw [hL,gV,gV] at h2';obtain⟨a,bc,rfl,a1,a2⟩:=h2'.split;obtain⟨b,c,rfl,b1,b2⟩:=a2.split
 have U3:a.length=l*(rowOf t).es:=by rw [a1.length,cF ss,bh,anx J]
 refine⟨arr,lo,hi,b,U,h5,h6,b1,fun q u hu=>?_,fun u hu=>h7 u (by simp [hu])⟩;have fW:=(aX.1 hu).1
 have:=h3 (l*(rowOf t).es+q) u (by
  rw [am4 J,ano J,U3,anE]
  exact hu)
 rw [<- alP] at this;exact this
theorem EI {α:Type}: ∀{n:Nat} {l:List α},n<=l.length->As.eL n l=some (l.drop n)
 |0,_,_=>rfl
 |n+1,[],h=>by simp at h
 |n+1,_::l,h=>by simp only [As.eL,ann];exact EI (by simpa using h)
theorem P9 [bI] {α:Type} {ρ:Nat->Int} {c:FC} {v:W} {ty:Nat} {s:St} {k:V->St->T α} {y:α} {E:En} {w:World} {u:Value} (B:Nat) (key:D) (j:Nat) (hρ:E.ρ=ρ) (r:bO E s.h w) (hp:bV ρ s.pc) (hv:VR E w.heap v u) (h:(TG c v ty s k).leaf ρ=some y) :
 ∃x h' ef E',bV ρ ef/\lP w E s.h E' h'/\oO E' w.heap B key j ty c (dec (x.den ρ)) u/\(k x { s with h:=h',pc:=ef }).leaf ρ=some y:=by
 cases c with
 |ck c=>
  simp only [TG] at h;obtain⟨v',U,fN,E1,fA,f,q,g⟩:=Jd hρ r hp h;split at g
  ·rename_i x hx;refine⟨x,U,fN,E1,fA,lP.aey r f,?_,g⟩;have:=(mn (q u hv) hx).rd (oY hx);rw [f.ρ,hρ] at this;exact this
  ·simp [T.leaf] at g
 |mp t=>
  simp only [TG] at h;split at h
  ·rename_i i;split at h
   ·rename_i o Y;split at h
    ·rename_i e t';split at h
     ·rename_i ht;have ht:=aq ht;subst ht;have ho:=(r.live i _ Y).2.1;simp only [OR] at ho;obtain⟨bK,c',g1,g2⟩:=ho;simp only [VR] at hv;obtain⟨rfl,_⟩:=hv;rw [hρ] at g2;exact⟨e,_,s.pc,_,hp,rP r Y (B,key,j),⟨(E.θ i).1,bK,c',rfl,s6 _ _ _,g1,g2⟩,h⟩
     ·simp [T.leaf] at h
    ·simp [T.leaf] at h
   ·simp [T.leaf] at h
  ·simp [T.leaf] at h
 |own t=>
  simp only [TG] at h;split at h
  ·simp only [VR] at hv;subst hv;refine⟨_,s.h,s.pc,E,hp,lP.refl r,.inl ⟨⟨none,rfl⟩,?_⟩,h⟩;simp only [V.den,bB];exact .nil t
  ·rename_i z t';split at h
   ·rename_i ht;have ht:=aq ht;subst ht;simp only [VR] at hv;rw [hρ] at hv;exact⟨_,s.h,s.pc,E,hp,lP.refl r,.inl hv,h⟩
   ·simp [T.leaf] at h
  ·rename_i i o n c;split at h
   ·rename_i m;split at h
    ·split at h
     ·simp only [VR,eQ] at hv;obtain⟨_,a,cap,rfl,_,rfl,_⟩:=hv;refine⟨_,s.h,s.pc,E,hp,lP.refl r,.inl ⟨⟨some a,rfl⟩,?_⟩,h⟩;simp only [V.den,bB];exact .vO t a 0
     ·simp [T.leaf] at h
    ·simp [T.leaf] at h
   ·rename_i es;split at h
    ·rename_i ob Y;split at h
     ·rename_i cs VL;split at h
      ·rename_i hc;obtain⟨rfl,rfl,hlen⟩:=hc;have ho:=(r.live i _ Y).2.1;simp only [OR] at ho;obtain⟨arr,lo,hi,us,g1,g2,g3,g4,g5,g6,g7⟩:=ho;simp only [VR,eQ] at hv;obtain⟨_,a,cap,rfl,q1,q2⟩:=hv
       have iR:(a=⟨(E.θ i).1,(E.θ i).2+o,none⟩/\(E.θ i).2+o+cap*(rowOf t).es=arr.size)\/(cap=0/\n=0/\(E.θ i).2+o=arr.size):=by
        rcases q2 with ⟨q2,q3⟩|⟨q2,q3,q4⟩
        ·exact .inl ⟨q2,J⟩
        ·exact .inr ⟨q2,q3,J⟩
       have hs:=rP r Y (B,key,j);split at h
       ·refine⟨_,_,s.pc,_,hp,hs,.inr ⟨(E.θ i).1,(E.θ i).2+o,0,cap,a,arr,lo,hi,rfl,q1,s6 _ _ _,g1,iR,g6,.inl ⟨rfl,?_⟩⟩,h⟩;simp only [V.den,bB]
       ·rename_i m;split at h
        ·rename_i e he;obtain⟨ds,d1,d2,d3,d4,d5⟩:=qE (ρ:=ρ) _ he;have hz:(dec ((V.ep (.i 0)).den ρ))= .i 0:=by simp only [V.den,bB]
         rw [hz] at d2 d3;have d2:(dec (e.den ρ)).l=ds:=d2;have d3:=d3 rfl;refine⟨e,_,s.pc,_,hp,hs,.inr ⟨(E.θ i).1,(E.θ i).2+o,m+1,cap,a,arr,lo,hi,rfl,q1,s6 _ _ _,g1,iR,g6,.inr ⟨⟨d3,by rw [d2]; exact d4,?_⟩,by rw [d2]; exact d1,us.drop o,?_,?_,?_⟩⟩,h⟩
         ·rw [d2];intro e0;rw [e0] at d1;simp at d1
         ·rw [d2];show cA _ w.heap (bE E.ρ (rowOf t) [] ds 0) (us.drop o);rw [hρ];have AO:As.eL o cs=some (cs.drop o):=EI J;exact d5 _ _ _ _ (by exact hρ) (cA.cf hs.view.kp _ _ (g2.eL AO).1)
         ·intro q u hu;rw [amm] at hu;have:=g3 _ u hu;rw [<- alP] at this;exact this
         ·exact fun u hu=>g7 u (bw hu)
        ·simp [T.leaf] at h
      ·simp [T.leaf] at h
     ·simp [T.leaf] at h
    ·simp [T.leaf] at h
  ·rename_i i n t';split at h
   ·rename_i ht;have ht:=aq ht;subst ht;split at h
    ·rename_i e VL Y';split at h
     ·rename_i hc;simp only [an] at hc;have Od:=aq hc.1;have hn:=cM _ _ hc.2;subst Od hn;have Y:=mV Y';have ho:=(r.live i _ Y).2.1;have hw:=(OR.oo.1 ho).1.2;simp only [VR,eQ] at hv;obtain⟨_,m,a,cap,q0,rfl,q1,q2⟩:=hv;rw [cE] at q0;have hm:(dec (e.den E.ρ)).l.length=m:=J
      have lK:0<m:=by rw [<- hm]; exact amb.2 hw.2.2
      obtain⟨arr,lo,hi,us,g1,g2,g3,g4,g5,g6⟩:=PJ ho (l:=0) (k:=m) J;have hs:=rP r Y (B,key,j);rw [aA,amc,<- hm,amA] at g4
      have iR:a=⟨(E.θ i).1,(E.θ i).2,none⟩/\(E.θ i).2+cap*(rowOf t).es=arr.size:=by
       rcases q2 with ⟨q2,q3⟩|⟨_,q3,_⟩
       ·exact⟨by rw [q2,a8],J⟩
       ·omega
      rw [hρ] at hw hm;refine⟨e,_,s.pc,_,hp,hs,.inr ⟨(E.θ i).1,(E.θ i).2,m,cap,a,arr,lo,hi,rfl,q1,s6 _ _ _,g1,.inl iR,g3,.inr ⟨hw,hm,us,?_,fun q u hu=>?_,g6⟩⟩,h⟩
      ·have:=cA.cf hs.view.kp _ _ g4;rw [hρ] at this;show cA _ w.heap (bE E.ρ (rowOf t) [] (dec (e.den ρ)).l 0) us;rw [hρ];exact this
      ·have:=g5 q u hu;rw [alQ,a8] at this;exact this
     ·simp [T.leaf] at h
    ·simp [T.leaf] at h
   ·simp [T.leaf] at h
  ·rename_i i u_ n t';split at h
   ·rename_i ht;have ht:=aq ht;subst ht;split at h
    ·rename_i e VL Y';split at h
     ·rename_i hc;have Od:=aq hc;subst Od;have Y:=mV Y';have ho:=(r.live i _ Y).2.1;have hw:=(OR.oo.1 ho).1.2;obtain⟨fN,fA,z1,z2,z3,U⟩:=vN hp h;obtain⟨jK,jD,Z⟩:=cH (s:={ s with pc:=fN }) fA U;rw [iw] at Z;simp only [V.den] at Z;simp only [VR,eQ] at hv;obtain⟨_,l,m,a,cap,q0,q00,rfl,q1,q2⟩:=hv;have q0':=q0;have aj5:=q00;rw [hρ] at q0 q00;obtain⟨arr,lo,hi,us,g1,g2,g3,g4,g5,g6⟩:=PJ ho (l:=l) (k:=m) (by rw [hρ]; omega);have hs:=rP r Y (B,key,j)
      have iR:(a=⟨(E.θ i).1,(E.θ i).2+l*(rowOf t).es,none⟩/\(E.θ i).2+l*(rowOf t).es+cap*(rowOf t).es=arr.size)\/(cap=0/\m=0/\(E.θ i).2+l*(rowOf t).es=arr.size):=by
       rcases q2 with ⟨q2,q3⟩|⟨q2,q3,q4⟩
       ·exact .inl ⟨q2,J⟩
       ·exact .inr ⟨q2,q3,J⟩
      cases hm:m with
      |zero=>
       have:n.den ρ=0:=by rw [q00,hm]; rfl
       rw [this] at Z;subst hm;refine⟨_,_,jK,_,jD,hs,.inr ⟨(E.θ i).1,(E.θ i).2+l*(rowOf t).es,0,cap,a,arr,lo,hi,rfl,q1,s6 _ _ _,g1,iR,g3,.inl ⟨rfl,?_⟩⟩,Z⟩;simp only [V.den,bB]
      |succ m'=>
       have:(n.den ρ == 0)=false:=by rw [beq_eq_false_iff_ne]; omega
       rw [this] at Z;rw [<- hm];have pz:=xw (e:=e) q0' aj5;rw [hρ] at pz g4 hw;generalize hpt:((dec (e.den ρ)).l.take (l+m)).drop l=pt at pz g4
       have aeZ:pt.length=m:=by rw [<- hpt,bq,bh,anx J];omega
       have gp:pt≠[]:=by intro e0;rw [e0] at aeZ;simp at aeZ;omega
       rw [vh gp] at pz;refine⟨_,_,jK,_,jD,hs,.inr ⟨(E.θ i).1,(E.θ i).2+l*(rowOf t).es,m,cap,a,arr,lo,hi,rfl,q1,s6 _ _ _,g1,iR,g3,.inr ⟨?_,?_,us,?_,g5,g6⟩⟩,Z⟩
       ·rw [pz];refine⟨by rw [bJ],fun d hd=>?_,by rw [bJ]; exact gp⟩;rw [bJ,<- hpt] at hd;exact hw.2.1 d (alS (bw hd))
       ·rw [pz,bJ]; exact aeZ
       ·rw [pz,bJ];have:=cA.cf hs.view.kp _ _ g4;show cA _ w.heap (bE E.ρ (rowOf t) [] pt 0) us;rw [hρ];exact this
     ·simp [T.leaf] at h
    ·simp [T.leaf] at h
   ·simp [T.leaf] at h
  ·simp [T.leaf] at h
theorem KR [bI] {α:Type} {ρ:Nat->Int} {eX:List Nat} {y:α} {w:World} (B:Nat) (key:D): ∀{cs:List FC} {j:Nat} {vs:List W} {s:St} {k:V->St->T α} {E:En} {us:List Value},E.ρ=ρ->bO E s.h w->bV ρ s.pc->cA E w.heap vs us->(Gi eX cs j vs s k).leaf ρ=some y->
 ∃x h' ef E',bV ρ ef/\lP w E s.h E' h'/\us.length=cs.length/\(∀i c u,cs[i]?=some c->us[i]?=some u->oO E' w.heap B key (j+i+1) (eX.getD (j+i+2) 0) c ((dec (x.den ρ)).hd i) u)/\(k x { s with h:=h',pc:=ef }).leaf ρ=some y
 |[],j,[],s,k,E,us,hρ,r,hp,hv,h=>by rw [ia] at hv;subst hv;exact⟨_,s.h,s.pc,E,hp,lP.refl r,rfl,fun i c u hc=>by simp at hc,h⟩
 |[],j,_::_,s,k,E,us,hρ,r,hp,hv,h=>by simp [Gi,T.leaf] at h
 |_::_,j,[],s,k,E,us,hρ,r,hp,hv,h=>by simp [Gi,T.leaf] at h
 |c::cs,j,v::vs,s,k,E,us,hρ,r,hp,hv,h=>by
  simp only [Gi] at h;rw [bT] at hv;obtain⟨u,us,rfl,hv,GV⟩:=hv;obtain⟨a,U,fN,E1,fA,f1,o1,g1⟩:=P9 B key (j+1) hρ r hp hv h;obtain⟨b,Z,jK,E2,jD,f2,Y,o2,g2⟩:=KR (s:={ s with h:=U,pc:=fN }) B key (f1.view.kp.ρ.trans hρ) f1.view.rel fA (cA.cf f1.view.kp _ _ GV) g1;refine⟨_,Z,jK,E2,jD,f1.trans r f2,by simp [Y],fun i c' u' hc hu=>?_,g2⟩;have hd0:dec ((eD a b).den ρ)= .p (dec (a.den ρ)) (dec (b.den ρ)):=by simp only [eD,V.den,fu.den,bB]
  cases i with
  |zero=> simp only [aF,ah] at hc hu;subst hc hu;rw [hd0];exact f2.own o1
  |succ i=>
   have:=o2 i c' u' (by simpa using hc) (by simpa using hu);have e1:j+(i+1)=j+1+i:=J
   rw [hd0,e1];exact this
theorem Q' [bI] {α:Type} {ρ:Nat->Int} {t:Nat} {eX:List Nat} {v:W} {y:α} {w:World} (B:Nat) (key:D) {s:St} {k:V->St->T α} {E:En} {u:Value} (hρ:E.ρ=ρ) (r:bO E s.h w) (hp:bV ρ s.pc) (hv:VR E w.heap v u) (h:(aeu t eX v s k).leaf ρ=some y) :
 ∃x h' ef E',bV ρ ef/\lP w E s.h E' h'/\pU E' w.heap B t eX key (dec (x.den ρ)) u/\(k x { s with h:=h',pc:=ef }).leaf ρ=some y:=by
 unfold aeu at h;unfold pU;split at h
 ·rename_i Ol;rw [Ol];split at h
  ·rename_i c hc;obtain⟨x,U,fN,E1,fA,f1,o1,g1⟩:=P9 B key 1 hρ r hp hv h;exact⟨x,U,fN,E1,fA,f1,⟨c,hc,o1⟩,g1⟩
  ·simp [T.leaf] at h
 ·rename_i Ol;rw [Ol];split at h
  ·rename_i i o;split at h
   ·split at h
    ·rename_i ob Y;split at h
     ·rename_i cs ty;split at h
      ·rename_i Od;have Od:=aq Od;subst Od;have ho:=(r.live i _ Y).2.1;simp only [OR] at ho;obtain⟨arr,lo,hi,us,g1,g2,g3,g4,g5,g6,g7⟩:=ho;simp only [VR] at hv;obtain⟨rfl,_⟩:=hv;have hs:=rP r Y (B,key,0);obtain⟨x,U,fN,E1,fA,f1,AM,o1,q1⟩:=KR (s:={ s with h:=s.h.drop i }) (E:=E.T6 (E.θ i).1 (B,key,0)) B key hρ hs.view.rel hp (cA.cf hs.view.kp _ _ g2) h;have yR:=g2.length;refine⟨x,U,fN,E1,fA,hs.trans r f1,⟨(E.θ i).1,(E.θ i).2,arr,lo,hi,by rw [a8],f1.mono _ _ (s6 _ _ _),g1,J,g6,fun q c hc=>?_⟩,q1⟩;have hql:=(aX.1 hc).1;have hqu:q<us.length:=J
       have hu:=aL hqu;refine⟨us[q],g3 q _ hu,g7 _ (az hqu),?_⟩;have:=o1 q c _ hc hu;rw [aA] at this;exact this
      ·simp [T.leaf] at h
     ·simp [T.leaf] at h
    ·simp [T.leaf] at h
   ·simp [T.leaf] at h
  ·simp [T.leaf] at h
theorem GF {n:Int} {d:D}: ∀{ds:List D},D.i n∈ds.map gw->(jO ds (.i n) d).map gw=ds.map gw
 |[],h=>by simp at h
 |a::ds,h=>by
  simp only [jO];by_cases hk:gw a= .i n
  ·rw [ag hk];simp [gw,hk];exact hk.symm
  ·rw [af hk];simp only [aw,ay] at h;rcases h with h|h
   ·exact absurd h.symm hk
   ·simp only [aw,GF h]
theorem eP.pck {E E':En} {h:Array Obj} (kp:fC E h E' h) (mono: ∀b x,E.hd b=some x->E'.hd b=some x) {B t:Nat} {eX:List Nat} {l:List (V×W)} {x:V} {v:W} {n:Int} {d:D} (hx:x.den E.ρ=n) (Y:lR E.ρ n l=none) :
 ∀{ds:List D} {es:List MapEntry},(ds.map gw).Nodup->(∀e1∈es,e1.key= .int .i64 n->pU E' h B t eX (.i n) d e1.val)->eP E h B t eX ((x,v)::l) ds es->eP E' h B t eX l (if D.i n∈ds.map gw then jO ds (.i n) d else ds) es
 |[],es,_,_,ho=>by simp only [amt,alT,if_false]; exact ho
 |a::ds,_,lG,hv,⟨e0,rr,m,h0,q1,q2,q3,q4⟩=>by
  subst h0;have hk:gw a= .i m:=by rw [q1]; rfl
  simp only [aw,al0] at lG;have ih:=eP.pck kp mono hx Y lG.2 (fun e1 U Z=>hv e1 (by simp [U]) Z) q4;by_cases hm:m=n
  ·subst hm;rw [hk] at lG;rw [af lG.1] at ih;simp only [aw,ay,hk,true_or,if_true,jO];refine⟨e0,rr,m,rfl,rfl,q2,?_,ih⟩;rw [kp.ρ,Y];exact hv e0 ad q2
  ·have gp: ¬D.i n=D.i m:=by simpa using fun e=>hm e.symm
   have aku: ¬gw a= .i n:=by rw [hk]; simpa using hm
   have hq:(match lR E'.ρ m l with |some v=>VR E' h v e0.val|none=>pU E' h B t eX (.i m) (FA a) e0.val):=by
    simp only [lR,hx] at q3;rw [af (fun e=>hm e.symm)] at q3;rw [kp.ρ]
    cases ho:lR E.ρ m l with
    |some v=>rw [ho] at q3; exact VR.cf kp _ _ q3
    |none=>rw [ho] at q3; exact q3.cf kp fun b j hb=> ⟨mono b _ hb,rfl⟩
   simp only [aw,ay,hk,gp,false_or];by_cases uR:D.i n∈ds.map gw
   ·rw [ag uR] at ih ⊢;simp only [jO,af aku];exact⟨e0,rr,m,rfl,q1,q2,hq,ih⟩
   ·rw [af uR] at ih ⊢;exact⟨e0,rr,m,rfl,q1,q2,hq,ih⟩
theorem eP.told {E:En} {h:Array Obj} {B t:Nat} {eX:List Nat} {ov:List (V×W)} {n:Int} {v:W} (ss:lR E.ρ n ov=some v): ∀{ds:List D} {es:List MapEntry},eP E h B t eX ov ds es->∀e1∈es,e1.key= .int .i64 n->VR E h v e1.val
 |[],es,he,e1,U,_=>by simp only [eP] at he; subst he; simp at U
 |a::ds,_,⟨e0,rr,m,h0,q1,q2,q3,q4⟩,e1,U,Z=>by
  subst h0;rcases ay.1 U with rfl|U
  ·rw [q2] at Z;simp only [Value.int.injEq,true_and] at Z;subst Z;rw [ss] at q3;exact q3
  ·exact eP.told ss q4 e1 U Z
theorem eP.first {E:En} {h:Array Obj} {B t:Nat} {eX:List Nat} {ov:List (V×W)} {n:Int}: ∀{ds:List D} {es:List MapEntry},(ds.map gw).Nodup->D.i n∈ds.map gw->eP E h B t eX ov ds es->∃en∈es,en.key= .int .i64 n/\∀e1∈es,e1.key= .int .i64 n->e1=en
 |[],_,_,hf,_=>by simp at hf
 |a::ds,_,lG,hf,⟨e0,rr,m,h0,q1,q2,q3,q4⟩=>by
  subst h0;have hk:gw a= .i m:=by rw [q1]; rfl
  simp only [aw,al0] at lG;simp only [aw,ay,hk] at hf;by_cases hm:m=n
  ·subst hm;refine⟨e0,ad,q2,fun e1 U Z=>?_⟩;rcases ay.1 U with rfl|U
   ·rfl
   ·obtain⟨i,hi⟩:=am8 U;exact absurd (eP.set.eP.Cv q4 hi Z) (by rw [<- hk]; exact lG.1)
  ·rcases hf with hf|hf
   ·exact absurd (by simpa using hf:n=m).symm hm
   ·obtain⟨en,p1,p2,p3⟩:=eP.first lG.2 hf q4;refine⟨en,by simp [p1],p2,fun e1 U Z=>?_⟩;rcases ay.1 U with rfl|U
    ·rw [q2] at Z;simp only [Value.int.injEq,true_and] at Z;exact absurd Z hm
    ·exact p3 e1 U Z
theorem KQ [bI] {α:Type} {ρ:Nat->Int} {t:Nat} {eX:List Nat} {y:α} {w:World} {B:Nat} {bK:List MapEntry}: ∀{ov:List (V×W)} {e:V} {s:St} {k:V->St->T α} {E:En},E.ρ=ρ->bO E s.h w->bV ρ s.pc->Aa ρ (dec (e.den ρ)).l ov->eP E w.heap B t eX ov (dec (e.den ρ)).l bK->(P8 t eX ov e s k).leaf ρ=some y->
 ∃e' h' ef E',bV ρ ef/\lP w E s.h E' h'/\Aa ρ (dec (e'.den ρ)).l []/\eP E' w.heap B t eX [] (dec (e'.den ρ)).l bK/\(k e' { s with h:=h',pc:=ef }).leaf ρ=some y
 |[],e,s,k,E,hρ,r,hp,fo,en,h=> ⟨e,s.h,s.pc,E,hp,lP.refl r,fo,en,h⟩
 |(x,v)::l,e,s,k,E,hρ,r,hp,fo,en,h=>by
  simp only [P8] at h;have uR:=fo.2.1 (x,v) ad
  have Fw:lR ρ (x.den ρ) l=none:=by
   cases ho:lR ρ (x.den ρ) l with
   |none=>rfl
   |some u=> have:=Ix ho;have h3:=fo.2.2;simp only [aw,al0] at h3;exact absurd this h3.1
  obtain⟨en0,p1,p2,p3⟩:=eP.first fo.1 uR en;have hv:=eP.told (E:=E) (n:=x.den ρ) (v:=v) (by simp only [lR]; rw [hρ,ag rfl]) en en0 p1 p2;obtain⟨d,U,fN,E1,fA,f1,o1,g1⟩:=Q' B (.i (x.den ρ)) hρ r hp hv h
  have pz:dec ((V.op .xB e (eD (mW x) d)).den ρ)=dL (jO (dec (e.den ρ)).l (.i (x.den ρ)) (dec (d.den ρ))):=by simp only [eD,V.den,fu.den,bB,rA]
  have hk:=GF (d:=dec (d.den ρ)) uR;have en1:=eP.pck f1.view.kp f1.mono (n:=x.den ρ) (d:=dec (d.den ρ)) (by rw [hρ]) (by rw [hρ]; exact Fw) fo.1 (fun e1 U Z=>by rw [p3 e1 U Z]; exact o1) en;rw [ag uR] at en1
  obtain⟨e',Z,jK,E2,jD,f2,fo2,en2,g2⟩:=KQ (s:={ s with h:=U,pc:=fN }) (f1.view.kp.ρ.trans hρ) f1.view.rel fA (e:=.op .xB e (eD (mW x) d)) (by
   rw [pz,bJ];refine⟨by rw [hk]; exact fo.1,fun p hp=>by rw [hk]; exact fo.2.1 p (by simp [hp]),?_⟩;have h3:=fo.2.2;simp only [aw,al0] at h3
   exact h3.2) (by rw [pz,bJ]; exact en1) g1
  exact⟨e',Z,jK,E2,jD,f1.trans r f2,fo2,en2,g2⟩
theorem Q! [bI] {α:Type} {ρ:Nat->Int} {id:Nat} {y:α} {w:World} {s:St} {k:St->T α} {E:En} (hρ:E.ρ=ρ) (r:bO E s.h w) (hp:bV ρ s.pc) (h:(Q? id s k).leaf ρ=some y) :
 ∃h' ef E',bV ρ ef/\View E s.h w E' h'/\(k { s with h:=h',pc:=ef }).leaf ρ=some y:=by
 unfold Q? at h;split at h
 ·rename_i o Y;split at h
  ·rename_i e t eX ov;obtain⟨g0,bK,c',g1,g2⟩:=zo r Y;rw [hρ] at g0 g2;obtain⟨dst,drl⟩:=wu r id;obtain⟨e',U,fN,E1,fA,f1,fo1,en1,q1⟩:=KQ (s:={ s with h:=s.h.drop id }) hρ drl hp g0 g2 h;have T5:=(r.live id _ Y).1;have hθ:=f1.view.kp.θ id T5;have hρ1:E1.ρ=ρ:=f1.view.kp.ρ.trans hρ
   have Yp: ∀j o,(s.h.drop id).get j=some o->s.h.get j=some o/\j≠id:=by
    intro j o hj;rw [Hp.kG] at hj;split at hj
    ·simp at hj
    ·rename_i e; exact⟨hj,e⟩
   have acb: ∀b,E1.ro b\/(∃x,E1.hd b=some x)->b≠(E.θ id).1:=by
    intro b hb e;subst e;rcases f1.hold _ hb with h|⟨x,h⟩|⟨j,o,U,Z⟩
    ·exact (r.live id _ Y).2.2 h
    ·exact (r.hid _ _ h).2.2 id _ Y rfl
    ·obtain⟨q1,q2⟩:=Yp j o U;exact q2 (r.inj j id _ _ q1 Y Z)
   have hr:bO E1 (U.put id (.tT e' t eX [])) w:=by
    refine KM f1.view.rel (f1.view.kp.dm id T5) ?_ (fun j o hj=>?_) ?_ ?_
    ·rw [hθ]; exact fun h=>acb _ (.inl h) rfl
    ·obtain⟨q1,q2⟩:=Yp j o (f1.sub j o hj);refine⟨q2,?_⟩;rw [hθ,f1.view.kp.θ j (r.live j o q1).1];exact fun e=>q2 (r.inj j id _ _ q1 Y e)
    ·rw [hθ]; exact fun x h=>acb _ (.inr ⟨x,h⟩) rfl
    ·simp only [OR];rw [hρ1,hθ];exact⟨fo1,bK,c',g1,en1⟩
   refine⟨_,fN,E1,fA,⟨hr,f1.view.kp,fun b hb=>?_,fun b hb=>?_⟩,q1⟩
   ·rcases f1.view.rF b hb with h|⟨i0,o0,p1,p2⟩|p
    ·exact .inl h
    ·exact .inr (.inl ⟨i0,o0,(Yp i0 o0 p1).1,p2⟩)
    ·exact .inr (.inr p)
   ·rcases hb with ⟨j,o,q1,q2⟩|q
    ·rw [Hp.bQ] at q1;split at q1
     ·rename_i e;rw [e,hθ] at q2;exact .inl ⟨id,_,Y,q2⟩
     ·rcases f1.view.hold b (.inl ⟨j,o,q1,q2⟩) with ⟨i0,o0,p1,p2⟩|p
      ·exact .inl ⟨i0,o0,(Yp i0 o0 p1).1,p2⟩
      ·exact .inr p
    ·rcases f1.view.hold b (.inr q) with ⟨i0,o0,p1,p2⟩|p
     ·exact .inl ⟨i0,o0,(Yp i0 o0 p1).1,p2⟩
     ·exact .inr p
  ·exact⟨s.h,s.pc,E,hp,View.refl r,h⟩
 ·exact⟨s.h,s.pc,E,hp,View.refl r,h⟩
end
end Go.As
end
section
namespace Go.As
noncomputable section
open Go.RowKit
section
variable {P:Program} {c:Code} {Q:Exit->Act->World->Prop} {a:Act} {w:World}
def Fk (P:Program) (c:Code) (Q:Exit->Act->World->Prop) (a:Act) (w:World):Prop:=
 ∀b k cs,∃e a' w',Q e a' w'/\Arrives P (lone (b.at a (.code c::.inLoop c::k)) cs w) b k cs e a' w'
theorem NY (h:c.wp P (Exit.then (Fk P c Q) Q) a w):Fk P c Q a w:=by
 intro b k cs;obtain⟨e,a₁,w₁,hq,LC⟩:=h b (.inLoop c::k) cs
 cases e with
 |normal=> obtain⟨e₂,a₂,w₂,hq₂,harr₂⟩:=hq b k cs;exact⟨e₂,a₂,w₂,hq₂,.of_steps (Steps.trans LC (.one step_inLoop)) harr₂⟩
 |exit id=>exact⟨_,a₁,w₁,hq,.pass (x:=.inLoop c) rfl (fun _ _=> .inl ad) LC⟩
 |goto l=>exact⟨_,a₁,w₁,hq,.pass (x:=.inLoop c) rfl (fun _ _=> .inl ad) LC⟩
 |ret=>exact⟨_,a₁,w₁,hq,.pass (x:=.inLoop c) rfl (fun _ _=> .inl ad) LC⟩
 |panic ch=>exact⟨_,a₁,w₁,hq,.pass (x:=.inLoop c) rfl (fun _ _=> .inl ad) LC⟩
 |outgrown=>exact⟨_,a₁,w₁,hq,.pass (x:=.inLoop c) rfl (fun _ _=> .inl ad) LC⟩
theorem NZ (h:Fk P c Q a w):(Code.loop c).wp P Q a w:=by intro b k cs;obtain⟨e,a',w',hq,LC⟩:=h b k cs;exact⟨e,a',w',hq,.of_steps (.one step_loop) LC⟩
end
inductive FrE where
 |seq (p:List Nat) (c:Code)
 |block (id:Nat)
 |loop (p:List Nat) (b:Code)
 |scope
def oG (body:Code):List Nat->Option (Code×List FrE)
 |[]=>some (body,[])
 |d::p=>match oG body p with
  |some (.seq a b,fr)=>match d with
   |0=>some (a,.seq (1::p) b::fr)
   |_=>some (b,fr)
  |some (.block id b,fr)=>some (b,.block id::fr)
  |some (.cond _ a b,fr)=>match d with
   |0=>some (a,fr)
   |_=>some (b,fr)
  |some (.loop b,fr)=>some (b,.loop p b::fr)
  |some (.scope b,fr)=>some (b,.scope::fr)
  |_=>none
def Fl (body:Code):List FrE->Prop
 |[]=>True
 | .seq p c::fr=>oG body p=some (c,fr)/\Fl body fr
 | .block _::fr=>Fl body fr
 | .loop p b::fr=>oG body p=some (.loop b,fr)/\Fl body fr
 | .scope::fr=>Fl body fr
def KE (P:Program) (Q:Exit->Act->World->Prop):List FrE->Exit->Act->World->Prop
 |[]=>Q
 | .seq _ c::fr=>Exit.then (fun a w=>c.wp P (KE P Q fr) a w) (KE P Q fr)
 | .block id::fr=>Exit.inBlock id (KE P Q fr)
 | .loop _ b::fr=>Exit.then (Fk P b (KE P Q fr)) (KE P Q fr)
 | .scope::fr=>Exit.noGoto (KE P Q fr)
inductive RK where
 |one (c:CK)
 |agg (cs:List CK)
 deriving DecidableEq,Inhabited
def RK.flat:RK->List CK
 | .one c=>[c]
 | .agg cs=>cs
def oE:List RK->List CK
 |[]=>[]
 |r::rs=>r.flat++oE rs
def SD (c:CK) (t:V):W:=match c with
 | .int k=> .int k t
 | .bool=> .bool (.not (.eq t (.lit 0)))
 | .str=> .jP t
 | .sl ty=> .ep t ty
def E4:List CK->(Nat->V)->Nat->List W
 |[],_,_=>[]
 |c::cs,f,i=>SD c (f i)::E4 cs f (i+1)
def pq:List RK->(Nat->V)->Nat->List W
 |[],_,_=>[]
 | .one c::r,f,i=>SD c (f i)::pq r f (i+1)
 | .agg cs::r,f,i=> .agg (E4 cs f i)::pq r f (i+cs.length)
def Xy (c:CK) (v:W):Option V:=match c with
 | .int k=>match v with
   | .int k' e=>if k=k' then some e else none
   |_=>none
 | .bool=>none
 | .str=>tE v
 | .sl t=>nq (.sl t) v
def aar:W->Bool
 | .agg _=>false
 | .tuple _=>false
 |_=>true
def cellsOf:List RK->List W->Option (List W)
 |[],[]=>some []
 | .one _::rs,v::vs=>match aar v with
   |true=>match cellsOf rs vs with
    |some l=>some (v::l)
    |none=>none
   |false=>none
 | .agg cs::rs,v::vs=>match v with
   | .agg xs=>match Nat.beq xs.length cs.length with
     |true=>match cellsOf rs vs with
      |some l=>some (xs++l)
      |none=>none
     |false=>none
   |_=>none
 |_,_=>none
def outs {α:Type}:List CK->List W->St->(List V->St->T α)->T α
 |[],[],s,k=>k [] s
 |c::cs,v::vs,s,k=>match c with
  | .bool=>match v with
    | .bool b=>jN s b fun s b=>outs cs vs s fun es s=>k (.lit (if b then 1 else 0)::es) s
    |_=> .fail
  |c=>match Xy c v with
   |some e=>outs cs vs s fun es s=>k (e::es) s
   |none=> .fail
 |_,_,_,_=> .fail
def fY:List V->V
 |[]=> .ep (.i 0)
 |e::es=>eD (mW e) (fY es)
def ow (r:V) (i:Nat):V:=.op .num (.op (.cell i) r (.lit 0)) (.lit 0)
inductive Lf where
 |out (es:List V)
 |jump (j:Nat) (es:List V)
 deriving Inhabited
inductive KX where
 |cell (t j:Nat)
 |row (t j:Nat) (k:KX) (q:Nat)
 |w_ (t:Nat)
 deriving Inhabited
def KX.ev (s:St):KX->Option V
 | .w_ _=>none
 | .cell t j=>match s.bD.get t with
   |some v=>match v with
    | .agg cs=>match eZ cs j with
      |some w=>match w with
       | .int _ e=>some e
       |_=>none
      |none=>none
    | .int _ e=>some e
    | .ptr i o=>match s.h.get i with
      |some ob=>match ob with
       | .cells cs _=>match eZ cs (o+j) with
         |some w=>match w with
          | .int _ e=>some e
          |_=>none
         |none=>none
       |_=>none
      |none=>none
    |_=>none
   |none=>none
 | .row t j k q=>match KX.ev s k with
   |none=>none
   |some x=>match s.bD.get t with
    |some v=>match v with
     | .agg cs=>match eZ cs j with
       |some w=>match w with
        | .ep e _=>some (yo (iO q (.op .at e x)))
        |_=>none
       |none=>none
     | .ep e _=>some (yo (iO q (.op .at e x)))
     | .ptr i o=>match s.h.get i with
       |some ob=>match ob with
        | .cells cs _=>match eZ cs (o+j) with
          |some w=>match w with
           | .ep e _=>some (yo (iO q (.op .at e x)))
           |_=>none
          |none=>none
        |_=>none
       |none=>none
     |_=>none
    |none=>none
structure FH where
 r:Nat
 gd:Option (KX×Int)
 k:KX
 deriving Inhabited
def Eh:Tr dM->List Nat
 | .nil=>[]
 | .node v l r=>(match v with
   |some o=>match nf o with
    |true=>[]
    |false=>[0]
   |none=>[])++((Eh l).map fun i=>2*i+1)++((Eh r).map fun i=>2*i+2)
def Jf {α:Type} (x:V):List Nat->St->(St->T α)->T α
 |[],s,k=>k s
 |i::l,s,k=>aan i x s fun s=>Jf x l s k
def NS {α:Type}:List Nat->St->(St->T α)->T α
 |[],s,k=>k s
 |i::l,s,k=>Q? i s fun s=>NS l s k
def afx {α:Type} (t:Nat) (s:St) (k:St->T α):T α:=match s.bD.get t with
 |some v=>Oz v s fun v s=>k { s with bD:=s.bD.put t (some v) }
 |none=>k s
def Fz {α:Type} (r:Nat):List FH->St->(St->T α)->T α
 |[],s,k=>k s
 |h::hs,s,k=>match Nat.beq h.r r with
  |false=>Fz r hs s k
  |true=>match h.k.ev s with
   |none=>match h.k with
    | .w_ t=>afx t s fun s=>Fz r hs s k
    |_=>Fz r hs s k
   |some x=>match h.gd with
    |none=>Jf x (Eh s.h.m) s fun s=>Fz r hs s k
    |some (g,n)=>match g.ev s with
     |none=>Fz r hs s k
     |some y=>jN s (qM y (.lit n)) fun s b=>match b with
      |true=>Jf x (Eh s.h.m) s fun s=>Fz r hs s k
      |false=>Fz r hs s k
def ahQ:Code->Option Nat
 | .region id _ _=>some id
 |_=>none
structure tC where
 tt:TT
 call:ei
 draw:Nat->List Oper->St->T St
 lf:Nat
 res:List ResultVar
 lC:List RK
 eg:List dM:=[]
 ko:Nat:=0
 oQ:List CS:=[]
 ic:Nat:=0
 fz:List (Nat×Nat×Nat):=[]
 foc:List FH:=[]
def Hk (g:tC):Bool:=match g.foc with
 |[]=>false
 |_::_=>match g.eg with
  |[]=>match g.oQ with
   |[]=>true
   |_=>false
  |_=>false
def Ud {α:Type} (g:tC) (c:Code) (s:St) (k:St->T α):T α:=match Hk g with
 |true=>match ahQ c with
  |some r=>Fz r g.foc s k
  |none=>k s
 |false=>k s
def TF {α:Type} (g:tC) (s:St) (k:St->T α):T α:=match Hk g with
 |true=>NS (Eh s.h.m) s k
 |false=>k s
def tC.ev (g:tC) (c:Code) (s:St):T (Ex×St):=jf g.tt g.call g.draw g.lf c s
abbrev Ce:=List Nat->Option (List (Nat×CS))
def aeU:Nat->Tr (Nat×Nat)
 |0=> .nil
 |n+1=>(aeU n).put n (some (n,0))
def gO (g:tC) (h:Hp):Ren:=match AR h g.eg 0 ⟨.nil,aeU g.eg.length⟩ with
 |⟨ns,_⟩=> ⟨xF ns g.ko 0,List.range g.eg.length,[]⟩
def CS.jv (m:Nat) (c:CS) (s:St):Ren:=match AR s.h c.dz 0 (CG s.bD c.bD ⟨.nil,aeU m⟩) with
 |⟨ns,bl⟩=> ⟨xF ns c.k 0,II bl c.dz.length 0,IH bl c.dz.length 0⟩
def D0 (m:Nat) (r:Ren):Bool:=match m with
 |0=>true
 |n+1=>(match eZ r.bl n with |some j=>Nat.beq j n|none=>false)&&Nat.beq (r.tX n) 0&&D0 n r
def BJ:Nat->Nat->List V->List V
 |0,_,ns=>ns
 |_+1,_,[]=>[]
 |n+1,i,_::ns=> .dD i::BJ n (i+1) ns
def qW (ic:Nat) (r:Ren):Ren:=match ic with
 |0=>r
 |n+1=>{ r with ns:=BJ (n+1) 0 r.ns }
def L6 (n m ic:Nat) (s:St):List CS->Nat->T Lf
 |[],_=> .fail
 |c::l,i=>match quick s.bD c.bD&&Nat.beq n c.bD.length with
  |false=>L6 n m ic s l (i+1)
  |true=>match c.fits t_ s (qW ic (c.jv m s))&&D0 m (qW ic (c.jv m s)) with
   |true=> .ret (.out (.lit (Int.ofNat i)::(qW ic (c.jv m s)).ns))
   |false=>L6 n m ic s l (i+1)
def LJ {α:Type}:List (Nat×Nat×Nat)->List W->St->(List W->St->T α)->T α
 |[],vs,s,k=>k vs s
 |(r,f,t)::l,vs,s,k=>match eZ vs r with
  |some (.agg xs)=>match eZ xs f with
   |some x=>Oz x s fun x s=>match nq (.sl t) x with
    |some e=>LJ l (vs.set r (.agg (xs.set f (.ep e t)))) s k
    |none=> .fail
   |none=> .fail
  |_=> .fail
def YT (g:tC) (e:Ex) (s:St):T Lf:=match e with
 | .exit _=> .fail
 |_=>match kZ g.tt s g.res with
  |none=> .fail
  |some vs=>match g.oQ with
   |[]=>match cellsOf g.lC vs with
    |none=> .fail
    |some cells=>xe cells s fun cells s=>match Ay (gO g s.h) g.eg.length s.h g.eg 0 with
     |true=>outs (oE g.lC) cells s fun es _=> .ret (.out ((gO g s.h).ns++es))
     |false=> .fail
   |c::l=>LJ g.fz vs s fun vs s=>L6 vs.length g.eg.length g.ic ⟨cm vs 0 .nil,s.h,s.pc⟩ (c::l) 0
def qQ (m ic:Nat) (s:St):List (Nat×CS)->T Lf
 |[]=> .fail
 |(j,c)::l=>match quick s.bD c.bD with
  |false=>qQ m ic s l
  |true=>match c.fits t_ s (qW ic (c.jv m s))&&D0 m (qW ic (c.jv m s)) with
   |true=> .ret (.jump j (qW ic (c.jv m s)).ns)
   |false=>qQ m ic s l
def Nf {α:Type} (k:St->T α):List (Nat×Nat)->St->T α
 |[],s=>k s
 |(t,g)::l,s=>match s.bD.get t with
  |some (.int _ e)=>jN s (.eq e (.dD g)) fun s _=>Nf k l s
  |_=>Nf k l s
def vn {α:Type} (k:St->T α):List Nat->St->T α
 |[],s=>k s
 |t::ts,s=>match s.bD.get t with
  |some (.bool c)=>jN s c fun s b=>vn k ts { s with bD:=s.bD.put t (some (.bool (.lit b))) }
  |_=>vn k ts s
def d?:List (Nat×W)->List Nat->List Nat
 |[],acc=>acc
 |(t,.bool _)::l,acc=>d? l (t::acc)
 |_::l,acc=>d? l acc
def e_:List (Nat×CS)->List Nat->List Nat
 |[],acc=>acc
 |(_,c)::l,acc=>e_ l (d? c.bD acc)
mutual
def wL (g:tC) (fe:Ce):Nat->List Nat->Code->List FrE->St->T Lf
 |0,_,_,_,_=> .fail
 |n+1,p,c,fr,s=>match fe p with
  |some l=>TF g s fun s=>vn (fun s=>qQ g.eg.length g.ic s l) (e_ l []) s
  |none=>match c with
   | .seq a b=>wL g fe n (0::p) a (.seq (1::p) b::fr) s
   | .block id b=>wL g fe n (0::p) b (.block id::fr) s
   | .scope b=>wL g fe n (0::p) b (.scope::fr) s
   | .cond v a b=>match As.ev s v with
     |some (.bool c)=>jN s c fun s t=>match t with
      |true=>wL g fe n (0::p) a fr s
      |false=>wL g fe n (1::p) b fr s
     |_=> .fail
   |c=>Ud g c s fun s=>(g.ev c s).bind fun (e,s')=>s8 g fe n fr e s'
def s8 (g:tC) (fe:Ce):Nat->List FrE->Ex->St->T Lf
 |0,_,_,_=> .fail
 |n+1,fr,e,s=>match fr with
  |[]=>YT g e s
  | .seq p c::fr=>match e with
    | .normal=>wL g fe n p c fr s
    |e=>s8 g fe n fr e s
  | .block id::fr=>match e with
    | .exit j=>match Nat.beq j id with
      |true=>s8 g fe n fr .normal s
      |false=>s8 g fe n fr (.exit j) s
    |e=>s8 g fe n fr e s
  | .loop p _::fr=>match e with
    | .normal=>match fe p with
      |some l=>TF g s fun s=>vn (fun s=>qQ g.eg.length g.ic s l) (e_ l []) s
      |none=> .fail
    |e=>s8 g fe n fr e s
  | .scope::fr=>s8 g fe n fr e s
end
abbrev n7:=Nat->List Int->Option (List Int)
def mu (xs:List Int):Int:=enc (dL (xs.map .i))
def Good (F:n7) (ρ:Nat->Int):Prop:= ∀j xs,ρ (jg (2*j) (mu xs))=(if (F j xs).isSome then 1 else 0)/\ρ (jg (2*j+1) (mu xs))=mu ((F j xs).getD [])
def low (xs:List Int) (i:Nat):Int:=xs.getD i 0
open Classical in
def cU (F:n7) (lo:Nat->Int) (i:Nat):Int:=if i<900 then lo i else
 if h: ∃p:Nat×List Int,i=jg (2*p.1) (mu p.2) then (if (F h.choose.1 h.choose.2).isSome then 1 else 0) else
 if h: ∃p:Nat×List Int,i=jg (2*p.1+1) (mu p.2) then mu ((F h.choose.1 h.choose.2).getD []) else 0
theorem Mt {a b:List Int} (h:mu a=mu b):a=b:=by
 unfold mu at h;have:=ET (iJ h)
 have Lx: ∀{x y:List Int},x.map D.i=y.map D.i->x=y:=by
  intro x
  induction x with
  |nil=>intro y h; cases y with |nil=>rfl|cons z y=>simp at h
  |cons z x ih=>
   intro y h
   cases y with
   |nil=>simp at h
   |cons q y=>
    grind
 grind
theorem sa {f g:Nat} {a b:Int} (h:jg f a=jg g b):f=g/\a=b:=by
 unfold jg at h;obtain⟨U,Z⟩:=AA (a:=f) (b:=zN a) (a':=g) (b':=zN b) J
 grind [VA]
theorem vq (f:Nat) (a:Int):1000<=jg f a:=by unfold jg; omega
theorem rZ {F:n7} {lo:Nat->Int} {i:Nat} (h:i<900):cU F lo i=lo i:=by unfold cU; rw [ag h]
theorem k8 (F:n7) (lo:Nat->Int):Good F (cU F lo):=by
 intro j xs;have U:=vq (2*j) (mu xs);have Z:=vq (2*j+1) (mu xs);constructor
 ·unfold cU;rw [af J];have h: ∃p:Nat×List Int,jg (2*j) (mu xs)=jg (2*p.1) (mu p.2):=⟨(j,xs),rfl⟩;rw [dif_pos h];obtain⟨q1,q2⟩:=sa h.choose_spec;have q2:=Mt q2
  grind
 ·unfold cU;rw [af J]
  have hn: ¬∃p:Nat×List Int,jg (2*j+1) (mu xs)=jg (2*p.1) (mu p.2):=by rintro⟨p,hp⟩;have:=(sa hp).1;omega
  rw [dif_neg hn];have h: ∃p:Nat×List Int,jg (2*j+1) (mu xs)=jg (2*p.1+1) (mu p.2):=⟨(j,xs),rfl⟩;rw [dif_pos h];obtain⟨q1,q2⟩:=sa h.choose_spec;have q2:=Mt q2
  grind
theorem Good.gN {F:n7} {ρ ρ':Nat->Int} (g:Good F ρ) (h: ∀i,900<=i->ρ' i=ρ i):Good F ρ':=by intro j xs;have U:=vq (2*j) (mu xs);have Z:=vq (2*j+1) (mu xs);rw [h _ J,h _ J];exact g j xs
def eO (tree:Nat->T Lf):Nat->n7
 |0,_,_=>none
 |n+1,j,xs=>match (tree j).leaf (cU (eO tree n) (low xs)) with
  |none=>none
  |some (.out es)=>some (es.map (V.den (cU (eO tree n) (low xs))))
  |some (.jump j' es)=>eO tree n j' (es.map (V.den (cU (eO tree n) (low xs))))
def F1:List CK->Bool
 |[]=>true
 |c::l=>match c with
  | .int _=>F1 l
  | .bool=>F1 l
  |_=>false
def Yc (j:Nat) (Fe lC:List RK):List W->St->T (W×St):=fun args s=>match cellsOf Fe args with
 |none=> .fail
 |some cells=>xe cells s fun cells s1=>outs (oE Fe) cells s1 fun es s2=>
  jN s2 (.eq (.ap (2*j) (fY es)) (.lit 1)) fun s3 b=>match b with
   |true=> .ret (match pq lC (ow (.ap (2*j+1) (fY es))) 0 with |[v]=>v|vs=> .tuple vs,match F1 (oE lC) with
    |true=>{ s3 with h:=s.h }
    |false=>s3)
   |false=> .fail
end
end Go.As
end
section
namespace Go.As
open Go.RowKit
def fj (K:Nat):V->Bool
 | .lit _=>true
 | .dD i=>Nat.blt i K
 | .add a b=>fj K a&&fj K b
 | .sub a b=>fj K a&&fj K b
 | .mul a b=>fj K a&&fj K b
 | .quo a b=>fj K a&&fj K b
 | .rem a b=>fj K a&&fj K b
 | .wrap _ a=>fj K a
 | .wI _ _=>false
 | .ep _=>true
 | .op _ a b=>fj K a&&fj K b
 | .ap _ _=>false
def uB (K:Nat):SB->Bool
 | .lit _=>true
 | .lt a b=>fj K a&&fj K b
 | .le a b=>fj K a&&fj K b
 | .eq a b=>fj K a&&fj K b
 | .not s=>uB K s
 | .and a b=>uB K a&&uB K b
mutual
def jZ (K:Nat):W->Bool
 | .bool b=>uB K b
 | .int _ e=>fj K e
 | .mY cs=>l8 K cs
 | .ro cs _ _=>l8 K cs
 | .func _ a b=>l8 K a&&l8 K b
 | .iface _ v=>jZ K v
 | .agg cs=>l8 K cs
 | .tuple cs=>l8 K cs
 | .wI _ _=>false
 | .ep e _=>fj K e
 | .jP e=>fj K e
 | .pb _ n _=>fj K n
 | .zG _ _ i _=>fj K i
 | .tV _ l n _=>fj K l&&fj K n
 | .xg z _=>fj K z
 |_=>true
def l8 (K:Nat):List W->Bool
 |[]=>true
 |x::xs=>jZ K x&&l8 K xs
end
def CP (K:Nat):List (W×W×Nat)->Bool
 |[]=>true
 |(k,v,_)::l=>jZ K k&&jZ K v&&CP K l
def DC (K:Nat):List (V×List W)->Bool
 |[]=>true
 |(i,cs)::l=>fj K i&&l8 K cs&&DC K l
def ta (K:Nat):List (V×W)->Bool
 |[]=>true
 |(x,v)::l=>fj K x&&jZ K v&&ta K l
def wW (K:Nat):dM->Bool
 | .tT e _ _ ov=>fj K e&&ta K ov
 | .cells cs _=>l8 K cs
 | .map es _=>CP K es
 | .kg _ _=>true
 | .jC _ _ _ _=>true
 | .vec e _ _ ov=>fj K e&&DC K ov
 | .j6 e _=>fj K e
def QA (K:Nat):List (SB×Bool)->Bool
 |[]=>true
 |(c,_)::l=>uB K c&&QA K l
def ry (K:Nat):List (Nat×W)->Bool
 |[]=>true
 |(_,v)::l=>jZ K v&&ry K l
def Cr (K:Nat):List dM->Bool
 |[]=>true
 |o::l=>wW K o&&Cr K l
def vi (K:Nat) (c:CS):Bool:=ry K c.bD&&Cr K c.dz&&QA K c.pc
section
variable {K:Nat} {ρ ρ':Nat->Int} (hρ: ∀i,i<K->ρ' i=ρ i)
include hρ
theorem de: ∀e:V,fj K e=true->e.den ρ'=e.den ρ
 | .lit _,_=>rfl
 | .dD i,h=>by simp only [fj] at h; exact hρ i (xY h)
 | .add a b,h=>by simp only [fj,an] at h; simp only [V.den,de a h.1,de b h.2]
 | .sub a b,h=>by simp only [fj,an] at h; simp only [V.den,de a h.1,de b h.2]
 | .mul a b,h=>by simp only [fj,an] at h; simp only [V.den,de a h.1,de b h.2]
 | .quo a b,h=>by simp only [fj,an] at h; simp only [V.den,de a h.1,de b h.2]
 | .rem a b,h=>by simp only [fj,an] at h; simp only [V.den,de a h.1,de b h.2]
 | .wrap _ a,h=>by simp only [fj] at h; simp only [V.den,de a h]
 | .wI _ _,h=>by simp [fj] at h
 | .ep _,_=>rfl
 | .op _ a b,h=>by simp only [fj,an] at h; simp only [V.den,de a h.1,de b h.2]
 | .ap _ _,h=>by simp [fj] at h
theorem rC: ∀c:SB,uB K c=true->c.den ρ'=c.den ρ
 | .lit _,_=>rfl
 | .lt a b,h=>by simp only [uB,an] at h; simp only [SB.den,de hρ a h.1,de hρ b h.2]
 | .le a b,h=>by simp only [uB,an] at h; simp only [SB.den,de hρ a h.1,de hρ b h.2]
 | .eq a b,h=>by simp only [uB,an] at h; simp only [SB.den,de hρ a h.1,de hρ b h.2]
 | .not s,h=>by simp only [uB] at h; simp only [SB.den,rC s h]
 | .and a b,h=>by simp only [uB,an] at h; simp only [SB.den,rC a h.1,rC b h.2]
end
section
variable {K:Nat} {E E':En} (hρ: ∀i,i<K->E'.ρ i=E.ρ i) (hθ:E'.θ=E.θ) (hκ:E'.κ=E.κ) (tK:E'.dm=E.dm) (lq:E'.ro=E.ro) {h:Array Obj}
include hρ hθ hκ tK lq
theorem eQ.low {id off len:Nat} {a:Addr} {cap:Nat} {c:MN} (hc:eQ E id off len a cap c):eQ E' id off len a cap c:=by simp_all [eQ]
mutual
theorem VR.low: ∀(x:W) (u:Value),jZ K x=true->VR E h x u->VR E' h x u
 | .bool b,u,Y,hv=>by simp only [VR,jZ] at *; rw [rC hρ b Y]; exact hv
 | .int _ e,u,Y,hv=>by simp only [VR,jZ] at *; rw [de hρ e Y]; exact hv
 | .str s,u,_,hv=>by simp only [VR] at *; exact hv
 | .ptr id off,u,_,hv=>by simp only [VR] at *; rw [hθ,tK]; exact hv
 | .tY,u,_,hv=>by simp only [VR] at *; exact hv
 | .mY cs,u,Y,hv=>by simp only [VR,jZ] at *;obtain⟨b,o,us,U,Z,h3,h4,h5⟩:=hv;exact⟨b,o,us,U,by rw [lq]; exact Z,cA.low cs us Y h3,h4,h5⟩
 | .slice id off len c,u,_,hv=>by simp only [VR] at *;obtain⟨U,a,cap,Z,h3,h4⟩:=hv;exact⟨by rw [tK]; exact U,a,cap,Z,h3,eQ.low hρ hθ hκ tK lq h4⟩
 | .fZ,u,_,hv=>by simp only [VR] at *; exact hv
 | .ro cs n full,u,Y,hv=>by simp only [VR,jZ] at *;obtain⟨b,o,cap,us,U,Z,h3,h4,h5,h6,h7⟩:=hv;exact⟨b,o,cap,us,U,Z,h3,by rw [lq]; exact h4,cA.low cs us Y h5,h6,h7⟩
 | .map id,u,_,hv=>by simp only [VR] at *; rw [hθ,tK]; exact hv
 | .rI,u,_,hv=>by simp only [VR] at *; exact hv
 | .func fn fs cs,u,Y,hv=>by simp only [VR,jZ,an] at *;obtain⟨us,ws,U,Z,h3⟩:=hv;exact⟨us,ws,U,cA.low fs us Y.1 Z,cA.low cs ws Y.2 h3⟩
 | .wG,u,_,hv=>by simp only [VR] at *; exact hv
 | .iface t x,u,Y,hv=>by simp only [VR,jZ] at *;obtain⟨y,U,Z⟩:=hv;exact⟨y,U,VR.low x y Y Z⟩
 | .xA,u,_,hv=>by simp only [VR] at *; exact hv
 | .agg cs,u,Y,hv=>by simp only [VR,jZ] at *;obtain⟨us,U,Z⟩:=hv;exact⟨us,U,cA.low cs us Y Z⟩
 | .tuple cs,u,Y,hv=>by simp only [VR,jZ] at *;obtain⟨us,U,Z⟩:=hv;exact⟨us,U,cA.low cs us Y Z⟩
 | .KY _,u,_,hv=>by simp only [VR] at hv
 | .wI _ _,u,Y,_=>by simp [jZ] at Y
 | .emp,u,_,hv=>by simp only [VR] at *; exact hv
 | .ep e t,u,Y,hv=>by simp only [VR,jZ] at *; rw [de hρ e Y,lq]; exact hv
 | .jP e,u,Y,hv=>by simp only [VR,jZ] at *; rw [de hρ e Y,lq]; exact hv
 | .pb id n t,u,Y,hv=>by simp only [VR,jZ] at *;obtain⟨U,k,a,cap,Z,h3,h4,h5⟩:=hv;exact⟨by rw [tK]; exact U,k,a,cap,by rw [de hρ n Y]; exact Z,h3,h4,eQ.low hρ hθ hκ tK lq h5⟩
 | .zG id es i off,u,Y,hv=>by simp only [VR,jZ] at *;obtain⟨U,k,Z,h3⟩:=hv;exact⟨by rw [tK]; exact U,k,by rw [de hρ i Y]; exact Z,by rw [hθ]; exact h3⟩
 | .any,u,_,_=>by simp only [VR]
 | .xg z t,u,Y,hv=>by simp only [VR,jZ] at *; rw [de hρ z Y,lq]; exact hv
 | .tV id lo n t,u,Y,hv=>by simp only [VR,jZ,an] at *;obtain⟨U,l,k,a,cap,Z,h3,h4,h5,h6⟩:=hv;exact⟨by rw [tK]; exact U,l,k,a,cap,by rw [de hρ lo Y.1]; exact Z,by rw [de hρ n Y.2]; exact h3,h4,h5,eQ.low hρ hθ hκ tK lq h6⟩
theorem cA.low: ∀(xs:List W) (us:List Value),l8 K xs=true->cA E h xs us->cA E' h xs us
 |[],us,_,hv=>by simp only [cA] at *; exact hv
 |x::xs,us,Y,hv=>by simp only [cA,l8,an] at *;obtain⟨u,vs,U,Z,h3⟩:=hv;exact⟨u,vs,U,VR.low x u Y.1 Z,cA.low xs vs Y.2 h3⟩
end
theorem eI.low: ∀{es:List (W×W×Nat)} {bK:List MapEntry},CP K es=true->eI E h es bK->eI E' h es bK
 |[],_,_,hv=>by simp only [eI] at *; exact hv
 |(k,v,b)::es,bK,Y,hv=>by simp only [eI,CP,an] at *;obtain⟨e,r,U,Z,h3,h4,h5⟩:=hv;exact⟨e,r,U,VR.low hρ hθ hκ tK lq k _ Y.1.1 Z,VR.low hρ hθ hκ tK lq v _ Y.1.2 h3,h4,eI.low Y.2 h5⟩
theorem Gq {i:Nat}: ∀{ov:List (V×List W)},DC K ov=true->ed E'.ρ i ov=ed E.ρ i ov
 |[],_=>rfl
 |(j,cs)::l,Y=>by simp only [DC,an] at Y;simp only [ed];rw [de hρ j Y.1.1,Gq Y.2]
theorem Gt: ∀{ov:List (V×List W)},DC K ov=true->∀p∈ov,l8 K p.2=true
 |[],_,p,hp=>by simp at hp
 |(j,cs)::l,Y,p,hp=>by
  simp only [DC,an] at Y;rcases ay.1 hp with rfl|hp
  ·grind
  ·exact Gt Y.2 p hp
theorem tv {r:Row} {ov:List (V×List W)} (Y:DC K ov=true): ∀(ds:List D) (i:Nat) {us:List Value},cA E h (bE E.ρ r ov ds i) us->cA E' h (bE E'.ρ r ov ds i) us
 |[],_,us,hv=>by simp only [bE,cA] at *; exact hv
 |d::ds,i,us,hv=>by
  simp only [bE] at *;obtain⟨a,b,rfl,U,Z⟩:=hv.split;refine cA.append ?_ (tv Y ds (i+1) Z);rw [Gq hρ hθ hκ tK lq Y]
  cases ho:ed E.ρ i ov with
  |none=> rw [ho] at U;rw [gm] at U ⊢;rw [lq];exact U
  |some cs=> rw [ho] at U;obtain⟨p,p1,p2,_⟩:=kT ho;exact cA.low hρ hθ hκ tK lq cs a (by rw [<- p2]; exact Gt hρ hθ hκ tK lq Y p p1) U
theorem QH {n:Int}: ∀{ov:List (V×W)},ta K ov=true->lR E'.ρ n ov=lR E.ρ n ov
 |[],_=>rfl
 |(j,v)::l,Y=>by simp only [ta,an] at Y;simp only [lR];rw [de hρ j Y.1.1,QH Y.2]
omit hρ hθ hκ tK lq in
theorem Ed {n:Int} {ρ:Nat->Int} {v:W}: ∀{ov:List (V×W)},ta K ov=true->lR ρ n ov=some v->jZ K v=true
 |[],_,h=>by simp [lR] at h
 |(j,u)::l,Y,h=>by
  simp only [ta,an] at Y;simp only [lR] at h;split at h
  ·simp only [ah] at h; subst h; exact Y.1.2
  ·exact Ed Y.2 h
theorem BI: ∀{ov:List (V×W)},ta K ov=true->(ov.map fun p=>p.1.den E'.ρ)=ov.map fun p=>p.1.den E.ρ
 |[],_=>rfl
 |(j,v)::l,Y=>by simp only [ta,an] at Y;simp only [aw];rw [de hρ j Y.1.1,BI Y.2]
theorem oO.low (Yl:E'.hd=E.hd) {B:Nat} {key:D} {j ty:Nat} {c:FC} {d:D} {u:Value} (ho:oO E h B key j ty c d u):oO E' h B key j ty c d u:=by
 cases c with
 |ck c=>simp only [oO] at *; rw [lq]; exact ho
 |mp t=>simp only [oO] at *; rw [lq,Yl]; exact ho
 |own t=>
  rcases ho with ho|⟨b,o,n,cap,a,arr,lo,hi,U,Z,h3,h4,h5,h6,h7⟩
  ·exact .inl (by rw [lq]; exact ho)
  ·refine .inr ⟨b,o,n,cap,a,arr,lo,hi,U,Z,by rw [Yl]; exact h3,h4,h5,h6,?_⟩;rcases h7 with h7|⟨g1,g2,us,g3,g4⟩
   ·exact .inl h7
   ·exact .inr ⟨g1,g2,us,tv hρ hθ hκ tK lq (ov:=[]) rfl _ _ g3,g4⟩
theorem pU.low (Yl:E'.hd=E.hd) {B t:Nat} {eX:List Nat} {key d:D} {v:Value} (ho:pU E h B t eX key d v):pU E' h B t eX key d v:=by
 unfold pU at *;split at ho
 ·obtain⟨c,U,Z⟩:=ho;exact⟨c,U,oO.low hρ hθ hκ tK lq Yl Z⟩
 ·obtain⟨b,o,arr,lo,hi,U,Z,h3,h4,h5,h6⟩:=ho;refine⟨b,o,arr,lo,hi,U,by rw [Yl]; exact Z,h3,h4,h5,fun j c hc=>?_⟩;obtain⟨u,g1,g2,g3⟩:=h6 j c hc;exact⟨u,g1,g2,oO.low hρ hθ hκ tK lq Yl g3⟩
theorem eP.low (Yl:E'.hd=E.hd) {B t:Nat} {eX:List Nat} {ov:List (V×W)} (Y:ta K ov=true): ∀{ds:List D} {es:List MapEntry},eP E h B t eX ov ds es->eP E' h B t eX ov ds es
 |[],_,ho=>ho
 |d::ds,_,⟨e,r,n,U,Z,h3,h4,h5⟩=>by
  refine⟨e,r,n,U,Z,h3,?_,eP.low Yl Y h5⟩;rw [QH hρ hθ hκ tK lq Y];split at h4
  ·rename_i v hv;exact VR.low hρ hθ hκ tK lq v _ (Ed Y hv) h4
  ·exact pU.low hρ hθ hκ tK lq Yl h4
theorem OR.low {id:Nat} {o:dM} (Y:wW K o=true) (ho:OR E h id o) (Yl:E'.hd=E.hd:=by rfl):OR E' h id o:=by
 cases o with
 |tT e t eX ov=> simp only [OR,wW,an] at *;obtain⟨n0,bK,c,U,Z⟩:=ho;rw [hθ,de hρ e Y.1];exact⟨n0.congr (BI hρ hθ hκ tK lq Y.2),bK,c,U,eP.low hρ hθ hκ tK lq Yl Y.2 Z⟩
 |cells cs e=> simp only [OR,wW] at *;obtain⟨arr,lo,hi,us,U,Z,h3,h4,h5,h6,h7⟩:=ho;rw [hθ,hκ];exact⟨arr,lo,hi,us,U,cA.low hρ hθ hκ tK lq cs us Y Z,h3,h4,h5,h6,h7⟩
 |map es c=>
  grind [OR,wW,eI.low]
 |kg s p=>simp only [OR] at *; rw [hθ]; exact ho
 |jC m s l z=>cases m<;>(simp only [OR] at *; grind)
 |j6 e t=>
  grind [OR,wW,de]
 |vec e t ty ov=>
  grind [OR,wW,de,tv,cF]
end
theorem KS {K:Nat} {ρ ρ':Nat->Int} (hρ: ∀i,i<K->ρ' i=ρ i): ∀{pc:List (SB×Bool)},QA K pc=true->bV ρ pc->bV ρ' pc
 |[],_,_=>by intro c b h; simp at h
 |(c0,b0)::l,Y,hp=>by
  simp only [QA,an] at Y;intro c b hm;rcases ay.1 hm with hm|hm
  ·simp only [ak] at hm;obtain⟨rfl,rfl⟩:=hm;rw [rC hρ c Y.1];exact hp c b ad
  ·exact KS hρ Y.2 (fun c b h=>hp c b (by simp [h])) c b hm
theorem yl {K:Nat}: ∀{l:List (Nat×W)},ry K l=true->∀{t:Nat} {v:W},(t,v)∈l->jZ K v=true
 |[],_,_,_,h=>by simp at h
 |(t0,v0)::l,hs,t,v,h=>by
  simp only [ry,an] at hs;rcases ay.1 h with h|h
  ·grind
  ·exact yl hs.2 h
theorem uI {K:Nat}: ∀{l:List dM},Cr K l=true->∀{i:Nat} {o:dM},l[i]?=some o->wW K o=true
 |[],_,_,_,h=>by simp at h
 |o0::l,hs,i,o,h=>by
  simp only [Cr,an] at hs
  cases i with
  |zero=>simp at h; rw [<- h]; exact hs.1
  |succ i=>exact uI hs.2 (by simpa using h)
structure vu (E:En) (s:St) (a:Act) (w:World):Prop where
 fresh: ∀id,s.h.next<=id->¬E.dm id
 res: ∀r,s.h.res=some r->r<s.h.next/\¬E.dm r
 live: ∀id o,s.h.get id=some o->E.dm id/\OR E w.heap id o/\¬E.ro (E.θ id).1
 inj: ∀id Oa o o',s.h.get id=some o->s.h.get Oa=some o'->(E.θ id).1=(E.θ Oa).1->id=Oa
 rh: ∀b,E.ro b->b<w.heap.size
 sr:SR E w.heap s.bD a
 pc:bV E.ρ s.pc
 hid: ∀b x,E.hd b=some x->b<w.heap.size/\¬E.ro b/\∀id o,s.h.get id=some o->(E.θ id).1≠b
theorem Fit.x [bI] {E:En} {s:St} {a:Act} {w:World} (f:Fit E s a w):vu E s a w:=⟨f.rel.fresh,f.rel.res,f.rel.live,f.rel.inj,f.rel.rh,f.sr,f.pc,f.rel.hid⟩
theorem vu.fit [bI] {E:En} {s:St} {a:Act} {w:World} (f:vu E s a w) (hg:bI.ok E.ρ E.ro w.heap):Fit E s a w:=⟨⟨f.fresh,f.res,f.live,f.inj,f.rh,hg,f.hid⟩,f.sr,f.pc⟩
theorem vu.low {K:Nat} {E:En} {c:CS} {a:Act} {w:World} {ρ':Nat->Int} (hc:vi K c=true) (hρ: ∀i,i<K->ρ' i=E.ρ i) (f:vu E c.st a w):vu { E with ρ:=ρ' } c.st a w:=by
 unfold vi at hc;simp only [an] at hc;obtain⟨⟨U,Z⟩,h3⟩:=hc;refine⟨f.fresh,f.res,fun id o ho=>?_,f.inj,f.rh,fun t v ht=>?_,KS hρ h3 f.pc,f.hid⟩
 ·obtain⟨q1,q2,q3⟩:=f.live id o ho;refine⟨q1,OR.low (E:=E) (E':={ E with ρ:=ρ' }) hρ rfl rfl rfl rfl ?_ q2,q3⟩;have:(og c.dz 0 .nil).get id=some o:=ho
  grind [jr,uI,Tr.get]
 ·obtain⟨u,q1,q2⟩:=f.sr t v ht;refine⟨u,q1,VR.low (E:=E) (E':={ E with ρ:=ρ' }) hρ rfl rfl rfl rfl v u ?_ q2⟩;have:(nu c.bD .nil).get t=some v:=ht;rcases uw this with h|h
  all_goals grind [yl,Tr.get]
end Go.As
end
section
namespace Go.As
open Go.RowKit
def vw (ro:Nat->Prop) (h:Array Obj) (c:CK) (n:Int) (u:Value):Prop:=match c with
 | .int k=>u= .int k n
 | .bool=>u= .bool (!(n == 0))
 |c=>Rd ro h c (dec n) u
def gW (ro:Nat->Prop) (h:Array Obj):List CK->List Int->List Value->Prop
 |[],ns,us=>ns= []/\us= []
 |c::cs,ns,us=> ∃n t? u gF,ns=n::t?/\us=u::gF/\vw ro h c n u/\gW ro h cs t? gF
theorem Mq {E:En} {h:Array Obj} {c:CK} {t:V} {u:Value}:VR E h (SD c t) u↔vw E.ro h c (t.den E.ρ) u:=by cases c<;>simp only [SD,vw,VR,SB.den,V.den]
theorem Xx {E:En} {h:Array Obj} {c:CK} {v:W} {u:Value} {e:V} (hv:VR E h v u) (hn:Xy c v=some e):vw E.ro h c (e.den E.ρ) u:=by
 unfold Xy at hn;split at hn
 ·grind [vw,VR]
 ·grind
 ·obtain⟨s,rfl,hs⟩:=yi hv hn;simp only [vw,hs];exact .str s
 ·exact mn hv hn
theorem gW.length {ro:Nat->Prop} {h:Array Obj}: ∀{cs:List CK} {ns:List Int} {us:List Value},gW ro h cs ns us->ns.length=cs.length/\us.length=cs.length
 |[],ns,us,hh=>by simp only [gW] at hh; simp [hh.1,hh.2]
 |c::cs,ns,us,hh=>by
  obtain⟨n,t?,u,gF,rfl,rfl,_,Z⟩:=hh;have:=Z.length
  grind
theorem vw.cf {ro my:Nat->Prop} {h h':Array Obj} (k1: ∀b,ro b->my b) (k2: ∀b,ro b->h'[b]?=h[b]?) {c:CK} {n:Int} {u:Value} (r:vw ro h c n u):vw my h' c n u:=by
 cases c with
 |int k=>exact r
 |bool=>exact r
 |str=>exact Rd.cf k1 k2 r
 |sl t=>exact Rd.cf k1 k2 r
theorem EZ {E:En} {h:Array Obj} {f:Nat->V}: ∀{cs:List CK} {i:Nat} {ns:List Int} {us:List Value},gW E.ro h cs ns us->(∀k n,ns[k]?=some n->(f (i+k)).den E.ρ=n)->cA E h (E4 cs f i) us
 |[],_,_,us,hh,_=>by simp only [gW] at hh; rw [hh.2]; simp [E4,cA]
 |c::cs,i,ns,us,hh,hf=>by
  obtain⟨n,t?,u,gF,rfl,rfl,U,Z⟩:=hh;simp only [E4,bT];refine⟨u,gF,rfl,?_,EZ Z fun k m hk=>?_⟩
  ·rw [Mq];have:=hf 0 n rfl
   grind
  ·have:=hf (k+1) m (by simpa using hk)
   grind
inductive Shape:List RK->List Value->List Value->Prop where
 |nil:Shape [] [] []
 |one (c:CK) {rs:List RK} {us fl:List Value} (u:Value):Shape rs us fl->Shape (.one c::rs) (u::us) (u::fl)
 |agg (cs:List CK) {rs:List RK} {us fl:List Value} (xs:List Value) (h:xs.length=cs.length):Shape rs us fl->Shape (.agg cs::rs) (.agg xs.toArray::us) (xs++fl)
theorem nB {E:En} {h:Array Obj}: ∀{lC:List RK} {vs cells:List W} {us:List Value},cA E h vs us->cellsOf lC vs=some cells->∃fl,Shape lC us fl/\cA E h cells fl
 |[],[],cells,us,hv,hc=>by simp only [cellsOf,ah] at hc;subst hc;simp only [cA] at hv;subst hv;exact⟨[],.nil,by simp [cA]⟩
 |[],_::_,cells,us,hv,hc=>by simp [cellsOf] at hc
 | .one _::_,[],cells,us,hv,hc=>by simp [cellsOf] at hc
 | .agg _::_,[],cells,us,hv,hc=>by simp [cellsOf] at hc
 | .one c::rs,v::vs,cells,us,hv,hc=>by
   rw [bT] at hv;obtain⟨u,gF,rfl,U,Z⟩:=hv;simp only [cellsOf] at hc;split at hc
   ·split at hc
    ·rename_i l Y;simp only [ah] at hc;subst hc;obtain⟨fl,s,v2⟩:=nB Z Y;exact⟨u::fl,.one c u s,by rw [bT]; exact⟨u,fl,rfl,U,v2⟩⟩
    grind
   grind
 | .agg cs::rs,v::vs,cells,us,hv,hc=>by
   rw [bT] at hv;obtain⟨u,gF,rfl,U,Z⟩:=hv;simp only [cellsOf] at hc;split at hc
   ·rename_i xs;split at hc
    ·rename_i hlen;have hlen:=aq hlen;split at hc
     ·rename_i l Y;simp only [ah] at hc;subst hc;obtain⟨fl,s,v2⟩:=nB Z Y;simp only [VR] at U;obtain⟨ws,rfl,h3⟩:=U;exact⟨ws++fl,.agg cs ws (by rw [h3.length,hlen]) s,h3.append v2⟩
     grind
    grind
   grind
theorem xl {ro:Nat->Prop} {h:Array Obj}: ∀{cs ds:List CK} {ns:List Int} {us vs:List Value},us.length=cs.length->gW ro h (cs++ds) ns (us++vs)->∃a b,ns=a++b/\gW ro h cs a us/\gW ro h ds b vs
 |[],ds,ns,us,vs,Y,hh=>by have:us= []:=alR Y;subst this;exact⟨[],ns,rfl,by simp [gW],hh⟩
 |c::cs,ds,ns,us,vs,Y,hh=>by
  simp only [aO,gW] at hh;obtain⟨n,t?,u,gF,rfl,he,U,Z⟩:=hh
  cases us with
  |nil=>simp at Y
  |cons x us=> simp only [aO,List.cons.injEq] at he;obtain⟨rfl,rfl⟩:=he;obtain⟨a,b,rfl,h3,h4⟩:=xl (by simpa using Y) Z;exact⟨n::a,b,rfl,⟨n,a,x,us,rfl,rfl,U,h3⟩,h4⟩
theorem rK {E:En} {h:Array Obj} {f:Nat->V}: ∀{lC:List RK} {us fl:List Value} {ns:List Int} {i:Nat},Shape lC us fl->gW E.ro h (oE lC) ns fl->(∀k n,ns[k]?=some n->(f (i+k)).den E.ρ=n)->cA E h (pq lC f i) us
 |[],us,fl,ns,i,s,_,_=>by cases s; simp [pq,cA]
 | .one c::rs,us,fl,ns,i,s,hc,hf=>by
   cases s with
   |one _ u s=>
    simp only [oE,RK.flat,aO,aC,gW] at hc;obtain⟨n,t?,u',gF,rfl,he,U,Z⟩:=hc;simp only [List.cons.injEq] at he;obtain⟨rfl,rfl⟩:=he;simp only [pq,bT];refine⟨_,_,rfl,?_,rK s Z fun k m hk=>?_⟩
    ·rw [Mq];have:=hf 0 n rfl
     grind
    ·have:=hf (k+1) m (by simpa using hk)
     grind
 | .agg cs::rs,us,fl,ns,i,s,hc,hf=>by
   cases s with
   |agg _ xs Y s=>
    simp only [oE,RK.flat] at hc;obtain⟨a,b,rfl,U,Z⟩:=xl Y hc;have U3:=U.length.1;simp only [pq,bT,VR];refine⟨_,_,rfl,⟨xs,rfl,EZ U fun k m hk=>hf k m ?_⟩,rK s Z fun k m hk=>?_⟩
    ·grind
    ·have:=hf (cs.length+k) m (by rw [am4 J,show cs.length+k-a.length=k by omega]; exact hk)
     grind
section
variable {P:Program} {E:En} {w:World}
theorem Cp {α:Type} {r:α} {h:Array Obj}: ∀{cs:List CK} {vs:List W} {s:St} {k:List V->St->T α} {us:List Value},bV E.ρ s.pc->cA E h vs us->(outs cs vs s k).leaf E.ρ=some r->
 ∃es ef,bV E.ρ ef/\gW E.ro h cs (es.map (V.den E.ρ)) us/\(k es { s with pc:=ef }).leaf E.ρ=some r
 |[],[],s,k,us,hp,hv,Y=>by simp only [outs] at Y;simp only [cA] at hv;exact⟨[],s.pc,hp,by simp [gW,hv],Y⟩
 |[],_::_,s,k,us,hp,hv,Y=>by simp [outs,T.leaf] at Y
 |_::_,[],s,k,us,hp,hv,Y=>by simp [outs,T.leaf] at Y
 |c::cs,v::vs,s,k,us,hp,hv,Y=>by
  rw [bT] at hv;obtain⟨u,gF,rfl,U,Z⟩:=hv;simp only [outs] at Y;split at Y
  ·split at Y
   ·rename_i b;obtain⟨fN,fA,AM⟩:=cH hp Y;obtain⟨es,jK,jD,q1,q2⟩:=Cp (s:={ s with pc:=fN }) fA Z AM;refine⟨_::es,jK,jD,?_,q2⟩;simp only [aw,gW];refine⟨_,_,u,gF,rfl,rfl,?_,q1⟩;simp only [VR] at U;subst U;simp only [vw,V.den];cases b.den E.ρ<;>rfl
   grind [T.leaf]
  ·split at Y
   ·rename_i e he;obtain⟨es,jK,jD,q1,q2⟩:=Cp hp Z Y
    grind [gW,Xx]
   grind [T.leaf]
theorem xq (ρ:Nat->Int): ∀es:List V,dec ((fY es).den ρ)=dL ((es.map (V.den ρ)).map .i)
 |[]=>by simp only [fY,V.den,bB]; rfl
 |e::es=>by simp only [fY,eD,V.den,fu.den,bB,lI,xq ρ es,aw,dL]
theorem jk (ρ:Nat->Int): ∀es:List V,(fY es).den ρ=mu (es.map (V.den ρ))
 |[]=>rfl
 |e::es=>by have:=xq ρ (e::es);simp only [fY,eD,V.den,fu.den,bB,lI,xq ρ es,aw,mu,dL]
theorem vF {ρ:Nat->Int} {r:V} {ys:List Int} (h:r.den ρ=mu ys) {i:Nat} {y:Int} (hi:ys[i]?=some y):(ow r i).den ρ=y:=by simp only [ow,V.den,fu.den,h,mu,bB,D.hd,bJ,bg,hi,alN,ax,D.n]
def aa6 (lC:List RK) (ys:List Int) (ro:Nat->Prop) (h:Array Obj) (u:Value):Prop:= ∃us fl,Shape lC us fl/\gW ro h (oE lC) ys fl/\u=if hh:us.toArray.size=1 then us.toArray[0] else .tuple us.toArray
def j_ (P:Program) (GB:(Nat->Prop)->Array Obj->Prop) (g:FuncId) (Fe lC:List RK) (f:List Int->Option (List Int)):Prop:=
 ∀xs ys,f xs=some ys->∀(ro:Nat->Prop) (w:World) (vals fl:List Value),(∀b,ro b->b<w.heap.size)->GB ro w.heap->Shape Fe vals fl->gW ro w.heap (oE Fe) xs fl->
  Calls P g vals.toArray w fun e w'=> ∃u,e= .returned u/\Below w.heap.size w w'/\∃my:Nat->Prop,(∀b,ro b->my b)/\(∀b,my b->ro b\/w.heap.size<=b)/\(∀b,my b->b<w'.heap.size)/\aa6 lC ys my w'.heap u
theorem gW.aem {ro my:Nat->Prop} {h h':Array Obj}: ∀{cs:List CK} {ns:List Int} {us:List Value},gW ro h cs ns us->F1 cs=true->gW my h' cs ns us
 |[],ns,us,hh,_=>hh
 |c::cs,ns,us,hh,hs=>by
  obtain⟨n,t?,u,gF,rfl,rfl,U,Z⟩:=hh;simp only [F1] at hs;split at hs
  ·exact⟨n,t?,u,gF,rfl,rfl,U,Z.aem hs⟩
  ·exact⟨n,t?,u,gF,rfl,rfl,U,Z.aem hs⟩
  grind
theorem Yb [bI] {GB:(Nat->Prop)->Array Obj->Prop} (Lz: ∀ρ ro h,bI.ok ρ ro h->GB ro h) {F:n7} (Ly: ∀ρ ro h,bI.ok ρ ro h->Good F ρ) {g:FuncId} {j:Nat} {Fe lC:List RK} (hs:j_ P GB g Fe lC (F j))
 (lY: ∀(args:Array Value) (w:World),(callFunc g args).run P w= .ok (.enter g args) w):j9 P g (Yc j Fe lC):=by
 intro alL s E w vals v s' r hv hp Y;unfold Yc at Y;split at Y
 ·grind [T.leaf]
 ·rename_i cells hc;obtain⟨fl,sh,Y!⟩:=nB hv hc;obtain⟨afY,U,pcF,E1,hpF,f,hfr,Y⟩:=pF rfl r hp Y;have hv3:=hfr _ Y!;have s1:=f.dZ;have r1:=f.rel;have hρ:=f.ρ;rw [<- hρ] at Y hpF;obtain⟨es,fN,fA,q1,q2⟩:=Cp (s:={ s with h:=U,pc:=pcF }) hpF hv3 Y;obtain⟨jK,jD,q3⟩:=cH (s:={ s with h:=U,pc:=fN }) fA q2;split at q3
  ·rename_i ht;have hg:=Ly _ _ _ r1.jG;have hg1:=(hg j (es.map (V.den E1.ρ))).1;have hg2:=(hg j (es.map (V.den E1.ρ))).2;simp only [SB.den,V.den,jk,hg1,beq_iff_eq] at ht
   have BD:(F j (es.map (V.den E1.ρ))).isSome=true:=by
    grind
   obtain⟨ys,GU⟩:=ami.1 BD;have xL:=bC q3;simp only [ak] at xL;obtain⟨rfl,u?⟩:=xL;have ab4:=hs _ ys GU E1.ro w vals fl r1.rh (Lz _ _ _ r1.jG) sh q1
   have IX: ∀(E2:En) (Z:Array Obj) (us fl':List Value),E2.ρ=E1.ρ->Shape lC us fl'->gW E2.ro Z (oE lC) ys fl'->
    VR E2 Z (match pq lC (ow (.ap (2*j+1) (fY es))) 0 with |[v]=>v|vs=> .tuple vs) (if hh:us.toArray.size=1 then us.toArray[0] else .tuple us.toArray):=by
    intro E2 Z us fl' hE2 sh' c1
    have hvr:cA E2 Z (pq lC (ow (.ap (2*j+1) (fY es))) 0) us:=by
     refine rK sh' c1 fun k n hk=>?_;rw [aA];refine vF (ys:=ys) ?_ hk;show E2.ρ _=_
     grind [jk]
    have:=Cm hvr;unfold Av at this;exact this
   cases hsc:F1 (oE lC) with
   |true=>
    rw [hsc] at u?;simp only at u?;subst u?;refine⟨rfl,by rw [<- hρ]; exact jD,?_⟩;unfold lQ n6;rw [lY];refine Calls.mono ab4 fun e w' ⟨u,he,hb,my,k1,k2,k3,k4⟩=> ⟨u,he,?_⟩;have tJ:fC E w.heap E w'.heap:=⟨rfl,fun _ h=>h,fun _ _=>rfl,fun _ _=>rfl,fun _ h=>h,fun b I3=>hb.block b (r.rh b I3)⟩
    have tW:eT E s.h w E s.h w':=
     ⟨rfl,fun _ h=>h,fun _ _=>rfl,fun _ _=>rfl,fun _ h=>h,fun b I3=> .inl I3,au _,.inr rfl,fun _ h=> .inl h,hb.os,hb.tape,hb.output,hb.size,fun b nh _=>hb.block b nh,fun id o h _=> ⟨id,o,h,rfl⟩,rfl⟩
    have r2:bO E s.h w':=by refine⟨r.fresh,r.res,fun id o h=>?_,r.inj,fun b I3=>ama (r.rh b I3) hb.size,bI.cf r.jG (fun _ h=>h) tJ.Bo,r.T4 tW.hd tW.size tW.rF tW.own⟩;obtain⟨g1,g2,g3⟩:=r.live id o h;exact⟨g1,g2.cf tJ g1 (hb.block _ (gf r h)) (r.UZ rfl (fun x hx _=>hb.block x hx) _),g3⟩
    obtain⟨us,fl',sh',c1,rfl⟩:=k4;exact⟨E,tW,r2,IX E w'.heap us fl' hρ.symm sh' (c1.aem hsc)⟩
   |false=>
    rw [hsc] at u?;simp only at u?;subst u?;refine⟨rfl,by rw [<- hρ]; exact jD,?_⟩;unfold lQ n6;rw [lY];refine Calls.mono ab4 fun e w' ⟨u,he,hb,my,k1,k2,k3,k4⟩=> ⟨u,he,?_⟩;have tJ:fC E1 w.heap { E1 with ro:=my } w'.heap:=⟨rfl,fun _ h=>h,fun _ _=>rfl,fun _ _=>rfl,k1,fun b I3=>hb.block b (r1.rh b I3)⟩
    have tW:eT E1 U w { E1 with ro:=my } U w':=
     ⟨rfl,fun _ h=>h,fun _ _=>rfl,fun _ _=>rfl,k1,fun b I3=>(k2 b I3).imp id .inr,au _,.inr rfl,fun _ h=> .inl h,hb.os,hb.tape,hb.output,hb.size,fun b nh _=>hb.block b nh,fun id o h _=> ⟨id,o,h,rfl⟩,rfl⟩
    have r2:bO { E1 with ro:=my } U w':=by
     refine⟨r1.fresh,r1.res,fun id o h=>?_,r1.inj,k3,bI.cf r1.jG k1 tJ.Bo,r1.T4 tW.hd tW.size tW.rF tW.own⟩;obtain⟨g1,g2,g3⟩:=r1.live id o h;refine⟨g1,g2.cf tJ g1 (hb.block _ (gf r1 h)) (r1.UZ rfl (fun x hx _=>hb.block x hx) _),fun hr=>?_⟩;rcases k2 _ hr with hr|hr
     ·grind
     ·have fW:(E1.θ id).1<w.heap.size:=gf r1 h
      grind
    obtain⟨us,fl',sh',c1,rfl⟩:=k4;exact⟨{ E1 with ro:=my },s1.trans tW,r2,IX { E1 with ro:=my } w'.heap us fl' rfl sh' c1⟩
  grind [T.leaf]
end
structure mr where
 w0:World
 ro:Nat->Prop
 m:Nat
 θ:Nat->Nat×Nat
 κ:Nat->Nat
def mr.fp (B:mr) (b:Nat):Prop:= ∃i,i<B.m/\(B.θ i).1=b
structure Bel (B:mr) (w:World):Prop where
 os:w.os=B.w0.os
 tape:w.tape=B.w0.tape
 output:w.output=B.w0.output
 size:B.w0.heap.size<=w.heap.size
 nF: ∀k,k<B.w0.heap.size->¬B.fp k->w.heap[k]?=B.w0.heap[k]?
structure ld (B:mr) (E:En) (s:St) (a:Act) (w:World):Prop where
 fit:vu E s a w
 ro: ∀b,B.ro b->E.ro b
 rF: ∀b,E.ro b->B.ro b\/B.w0.heap.size<=b\/B.fp b
 MZ:Bel B w
 own: ∀id o,s.h.get id=some o->B.w0.heap.size<=(E.θ id).1\/B.fp (E.θ id).1
 Y_: ∀i,i<B.m->E.dm i/\E.θ i=B.θ i/\E.κ i=B.κ i
 s5: ∀b x,E.hd b=some x->B.w0.heap.size<=b
section
variable {P:Program} {B:mr}
theorem ld.step [bI] {E E':En} {s s':St} {a a':Act} {w w':World} (t:ld B E s a w) (st:eT E s.h w E' s'.h w') (f':Fit E' s' a' w'):ld B E' s' a' w':=by
 have aad: ∀id o,s'.h.get id=some o->B.w0.heap.size<=(E'.θ id).1\/B.fp (E'.θ id).1:=by
  intro id o ho;rcases aT (E'.θ id).1 w.heap.size with h|h
  ·obtain⟨rO,o0,h0,he⟩:=st.own id o ho h;rw [<- he];exact t.own rO o0 h0
  ·exact .inl (bk t.MZ.size h)
 refine⟨f'.x,fun b hb=>st.ro b (t.ro b hb),fun b hb=>?_,⟨st.os.trans t.MZ.os,st.tape.trans t.MZ.tape,st.output.trans t.MZ.output,bk t.MZ.size st.size,fun k hk hn=>?_⟩,aad,fun i hi=>?_,fun b x hb=>t.s5 b x (by rw [<- st.hd]; exact hb)⟩
 ·rcases st.rF b hb with h|⟨id,o,U,Z⟩|h
  ·exact t.rF b h
  ·rw [<- Z]; exact .inr (t.own id o U)
  ·exact .inr (.inl (bk t.MZ.size h))
 ·rw [<- t.MZ.nF k hk hn];refine st.cf k (ama hk t.MZ.size) fun id o ho he=>?_;rcases t.own id o ho with h|h
  all_goals grind
 ·obtain⟨U,Z,h3⟩:=t.Y_ i hi;exact⟨st.dm i U,by rw [st.θ i U]; exact Z,by rw [st.κ i U]; exact h3⟩
theorem ld.then [bI] {E:En} {s s':St} {a a':Act} {w w':World} (t:ld B E s a w) (h:mQ E s a w s' a' w'): ∃E',ld B E' s' a' w'/\E'.ρ=E.ρ/\bI.ok E'.ρ E'.ro w'.heap:=by obtain⟨_,_,E',st,f'⟩:=h;exact⟨E',t.step st f',st.ρ,f'.rel.jG⟩
theorem ld.pc {E:En} {s:St} {a:Act} {w:World} {pc:List (SB×Bool)} (t:ld B E s a w) (hp:bV E.ρ pc):ld B E { s with pc:=pc } a w:=
 ⟨⟨t.fit.fresh,t.fit.res,t.fit.live,t.fit.inj,t.fit.rh,t.fit.sr,hp,t.fit.hid⟩,t.ro,t.rF,t.MZ,t.own,t.Y_,t.s5⟩
theorem DZ {r:Ren}: ∀{m:Nat},D0 m r=true->∀i,i<m->i<r.bl.length/\r.id i=i/\r.tX i=0
 |0,_,i,hi=>by omega
 |n+1,h,i,hi=>by
  simp only [D0,an] at h;obtain⟨⟨U,Z⟩,h3⟩:=h;by_cases he:i=n
  ·subst he;split at U
   ·rename_i j hj;have U:=aq U;subst U;refine⟨?_,?_,aq Z⟩
    all_goals grind [dq,Ren.id]
   grind
  ·exact DZ h3 i J
theorem ld.fits [bI] {E:En} {c:CS} {s:St} {r:Ren} {a:Act} {w:World} (t:ld B E s a w) (hg:bI.ok E.ρ E.ro w.heap) (h:c.fits t_ s r=true) (hid:D0 B.m r=true):r.ns.length<=900/\ld B (E.gN r) c.st a w:=by
 obtain⟨Y,f,ho⟩:=zm NQ (t.fit.fit hg) h;refine⟨Y,f.x,t.ro,t.rF,t.MZ,fun id o hid=>?_,fun i hi=>?_,t.s5⟩
 ·obtain⟨o',h'⟩:=ho id o hid;exact t.own _ _ h'
 ·obtain⟨q1,q2,q3⟩:=DZ hid i hi;obtain⟨U,Z,h3⟩:=t.Y_ i hi;refine⟨⟨q1,by rw [q2]; exact U⟩,?_,?_⟩
  ·show ((E.θ (r.id i)).1,(E.θ (r.id i)).2+r.tX i)=_
   grind
  ·show E.κ (r.id i)-r.tX i=_
   grind
theorem ld.low {K:Nat} {E:En} {c:CS} {a:Act} {w:World} {ρ':Nat->Int} (hc:vi K c=true) (hρ: ∀i,i<K->ρ' i=E.ρ i) (t:ld B E c.st a w):ld B { E with ρ:=ρ' } c.st a w:=
 ⟨t.fit.low hc hρ,t.ro,t.rF,t.MZ,t.own,t.Y_,t.s5⟩
def mr.out (B:mr) (ys:List Int) (ro:Nat->Prop):En:={ ρ:=low ys,θ:=B.θ,κ:=B.κ,dm:=fun i=>i<B.m,ro:=ro }
def QE (B:mr) (lC:List RK) (eg:List dM) (ko:Nat) (ys:List Int) (e:Ending) (w':World):Prop:=
 ∃u,e= .returned u/\Bel B w'/\∃my:Nat->Prop,(∀b,B.ro b->my b)/\(∀b,my b->B.ro b\/B.w0.heap.size<=b)/\(∀b,my b->b<w'.heap.size)/\(∀i,i<B.m->¬my (B.θ i).1)/\
  (∀i o,eg[i]?=some o->OR (B.out ys my) w'.heap i o)/\aa6 lC (ys.drop ko) my w'.heap u
def Tv (us:List Value):Value:=if h:us.toArray.size=1 then us.toArray[0] else .tuple us.toArray
def QR (B:mr) (oQ:List CS) (ys:List Int) (e:Ending) (w':World):Prop:=
 ∃(us:List Value) (i:Nat) (c:CS) (E':En),e= .returned (Tv us)/\Bel B w'/\oQ[i]?=some c/\ys[0]?=some (i:Int)/\ys.length=c.k+1/\(∀a x,ys[a+1]?=some x->E'.ρ a=x)/\us.length=c.bD.length/\
  vu E' c.st { tmps:=us.toArray,defers:=[] } w'/\(∀b,B.ro b->E'.ro b)/\(∀b,E'.ro b->B.ro b\/B.w0.heap.size<=b)/\(∀i,i<B.m->i<c.dz.length/\E'.dm i/\E'.θ i=B.θ i/\E'.κ i=B.κ i)/\(∀id o,c.st.h.get id=some o->B.m<=id->B.w0.heap.size<=(E'.θ id).1)
def QX (B:mr) (lC:List RK) (eg:List dM) (ko:Nat) (oQ:List CS) (ys:List Int):Ending->World->Prop:=match oQ with
 |[]=>QE B lC eg ko ys
 |c::l=>QR B (c::l) ys
structure PE [bI] (P:Program) (g:tC) (qG:Nat->List Oper->Bool):Prop where
 tt:eA P g.tt
 call:iq P g.call
 draw:vv P qG g.draw
theorem r4 {qG:Nat->List Oper->Bool} {N:Nat} {body:Code} (h:jX qG N body=true): ∀(p:List Nat) {c:Code} {fr:List FrE},oG body p=some (c,fr)->jX qG N c=true
 |[],c,fr,Y=>by
  grind [oG]
 |d::p,c,fr,Y=>by
  simp only [oG] at Y;split at Y
  ·rename_i a b YC hp;have:=r4 h p hp
   grind [jX]
  ·rename_i id b YC hp;have:=r4 h p hp
   grind [jX]
  ·rename_i v a b YC hp;have:=r4 h p hp
   grind [jX]
  ·rename_i b YC hp;have:=r4 h p hp
   grind [jX]
  ·rename_i b YC hp;have:=r4 h p hp
   grind [jX]
  grind
theorem vS {body:Code}: ∀(p:List Nat) {c:Code} {fr:List FrE},oG body p=some (c,fr)->Fl body fr
 |[],c,fr,h=>by simp only [oG,ah,ak] at h;rw [<- h.2]; trivial
 |d::p,c,fr,h=>by
  have h0:=h;simp only [oG] at h;split at h
  ·rename_i a b YC hp;have ih:=vS p hp;split at h
   ·simp only [ah,ak] at h;obtain⟨rfl,rfl⟩:=h;refine⟨?_,ih⟩;simp only [oG,hp]
   grind
  ·rename_i id b YC hp;have ih:=vS p hp;simp only [ah,ak] at h;rw [<- h.2]; exact ih
  ·rename_i v a b YC hp;have ih:=vS p hp
   grind
  ·rename_i b YC hp;have ih:=vS p hp;simp only [ah,ak] at h;rw [<- h.2];exact⟨hp,ih⟩
  ·rename_i b YC hp;have ih:=vS p hp;simp only [ah,ak] at h;rw [<- h.2]; exact ih
  grind
def MJ (F:n7) (ρ:Nat->Int) (ys:List Int):Lf->Prop
 | .out es=>es.map (V.den ρ)=ys
 | .jump j es=>F j (es.map (V.den ρ))=some ys
def q! [bI] (P:Program) (body:Code) (N:Nat) (B:mr) (Q:Exit->Act->World->Prop) (F:n7) (ys:List Int) (fe:Ce):Prop:=
 ∀p l,fe p=some l->∃b fr,oG body p=some (.loop b,fr)/\∀j c,(j,c)∈l->∀E a w,ld B E c.st a w->bI.ok E.ρ E.ro w.heap->(∃xs:List Int,(∀i x,xs[i]?=some x->E.ρ i=x)/\xs.length=c.k/\c.k<=900/\F j xs=some ys)->N<=a.tmps.size->a.defers= []->Fk P b (KE P Q fr) a w
theorem ny (g:Tr V): ∀(n i:Nat),(xF g n i).length=n
 |0,_=>rfl
 |n+1,i=>by simp only [xF];split<;>simp [ny g n (i+1)]
theorem s7 (m:Nat) (c:CS) (s:St):(c.jv m s).ns.length=c.k:=by
 grind [CS.jv,ny]
theorem zl: ∀(n i:Nat) (ns:List V),(BJ n i ns).length=ns.length
 |0,_,_=>rfl
 |_+1,_,[]=>rfl
 |n+1,i,_::ns=>by simp only [BJ,aM,zl n (i+1) ns]
theorem u7 (ic:Nat) (r:Ren):(qW ic r).ns.length=r.ns.length:=by
 unfold qW
 grind [zl]
theorem HY {α:Type} {k:St->T α} {E:En} {a:Act} {w:World} {x:α}: ∀{ts:List (Nat×Nat)} {s:St},(Nf k ts s).leaf E.ρ=some x->ld B E s a w->∃s',ld B E s' a w/\(k s').leaf E.ρ=some x
 |[],s,h,t=> ⟨s,t,h⟩
 |(i,g)::ts,s,h,t=>by
  simp only [Nf] at h;split at h
  ·obtain⟨ef,fy,U⟩:=cH t.fit.pc h;exact HY U (t.pc fy)
  ·exact HY h t
theorem vU [bI] {ic:Nat} {F:n7} {ys:List Int} {body:Code} {N:Nat} {Q:Exit->Act->World->Prop} {fe:Ce} (hj:q! P body N B Q F ys fe) {p:List Nat} {l0:List (Nat×CS)} (hp:fe p=some l0) {b:Code} {fr:List FrE} (Y:oG body p=some (.loop b,fr)) :
 ∀{l:List (Nat×CS)} {s:St} {lf:Lf} {E:En} {a:Act} {w:World},(∀x∈l,x∈l0)->(qQ B.m ic s l).leaf E.ρ=some lf->MJ F E.ρ ys lf->ld B E s a w->bI.ok E.ρ E.ro w.heap->N<=a.tmps.size->a.defers= []->Fk P b (KE P Q fr) a w
 |[],s,lf,E,a,w,_,h,_,_,_,_,_=>by simp [qQ,T.leaf] at h
 |(j,c)::l,s,lf,E,a,w,nN,h,qR,t,hg,hN,hd=>by
  simp only [qQ] at h;split at h
  ·exact vU hj hp Y (fun x hx=>nN x (by simp [hx])) h qR t hg hN hd
  ·split at h
   ·rename_i hf;have:=bC h;subst this;simp only [an] at hf;obtain⟨hle,t'⟩:=t.fits hg hf.1 hf.2;obtain⟨b',YC,CB,hh⟩:=hj p l0 hp;rw [Y] at CB;simp only [ah,ak,Code.loop.injEq] at CB;obtain⟨rfl,rfl⟩:=CB;have oT:(qW ic (c.jv B.m s)).ns.length=c.k:=by rw [u7,s7]
    refine hh j c (nN _ ad) (E.gN (qW ic (c.jv B.m s))) a w t' (bI.gN hg fun i hi=>Ren.lN hle hi) ⟨(qW ic (c.jv B.m s)).ns.map (V.den E.ρ),fun i x hi=>?_,by simp [oT],by rw [<- oT]; exact hle,qR⟩ hN hd;rw [bg,aP] at hi;obtain⟨e,he,rfl⟩:=hi;show (qW ic (c.jv B.m s)).env E.ρ i=_
    grind [Ren.env,dq]
   ·exact vU hj hp Y (fun x hx=>nN x (by simp [hx])) h qR t hg hN hd
theorem wA {α:Type} {k:St->T α} {E:En} {a:Act} {w:World} {x:α}: ∀{ts:List Nat} {s:St},(vn k ts s).leaf E.ρ=some x->ld B E s a w->∃s',ld B E s' a w/\(k s').leaf E.ρ=some x
 |[],s,h,t=> ⟨s,t,h⟩
 |i::ts,s,h,t=>by
  simp only [vn] at h;split at h
  ·rename_i c hc;obtain⟨ef,fy,U⟩:=cH t.fit.pc h;refine wA U ⟨⟨t.fit.fresh,t.fit.res,t.fit.live,t.fit.inj,t.fit.rh,fun j v hj=>?_,fy,t.fit.hid⟩,t.ro,t.rF,t.MZ,t.own,t.Y_,t.s5⟩;simp only at hj;rw [Tr.bQ] at hj;split at hj
   ·rename_i he;subst he;simp only [ah] at hj;subst hj;obtain⟨u,Z,h3⟩:=t.fit.sr _ _ hc;refine⟨u,Z,?_⟩;simp only [VR] at h3 ⊢;rw [h3];rfl
   ·exact t.fit.sr j v hj
  ·exact wA h t
theorem TN (g:tC) (h:Hp):(gO g h).ns.length=g.ko/\(gO g h).bl=List.range g.eg.length/\(gO g h).sh= []:=by
 grind [gO,ny]
def nfs:List dM->Bool
 |[]=>true
 |o::l=>nf o&&nfs l
theorem IB: ∀{l:List dM},nfs l=true->∀{i:Nat} {o:dM},l[i]?=some o->nf o=true
 |[],_,_,_,h=>by simp at h
 |o0::l,hs,i,o,h=>by
  simp only [nfs,an] at hs
  cases i with
  |zero=>simp at h; rw [<- h]; exact hs.1
  |succ i=>exact IB hs.2 (by simpa using h)
def mM (K:Nat):List dM->Bool
 |[]=>true
 |o::l=>nf o&&(wW K o&&mM K l)
theorem mL {K:Nat}: ∀{l:List dM},mM K l=true->∀{i:Nat} {o:dM},l[i]?=some o->nf o=true/\wW K o=true
 |[],_,_,_,h=>by simp at h
 |o0::l,hs,i,o,h=>by
  simp only [mM,an] at hs
  cases i with
  |zero=>simp at h; rw [<- h]; exact⟨hs.1,hs.2.1⟩
  |succ i=>exact mL hs.2.2 (by simpa using h)
theorem CQ {n m ic:Nat} {s:St} {ρ:Nat->Int} {lf:Lf}: ∀{l:List CS} {k:Nat},(L6 n m ic s l k).leaf ρ=some lf->∃i c,l[i-k]?=some c/\(c.fits t_ s (qW ic (c.jv m s))=true/\D0 m (qW ic (c.jv m s))=true)/\n=c.bD.length/\lf= .out (.lit (i:Int)::(qW ic (c.jv m s)).ns)/\k<=i
 |[],k,h=>by simp [L6,T.leaf] at h
 |c::l,k,h=>by
  simp only [L6] at h;split at h
  ·obtain⟨i,c',q1,q2,q3,q4,q5⟩:=CQ h
   grind
  ·rename_i hq;simp only [an] at hq;split at h
   ·rename_i hf;have:=bC h;simp only [an] at hf;exact⟨k,c,ad,hf,aq hq.2,this.symm,au _⟩
   ·obtain⟨i,c',q1,q2,q3,q4,q5⟩:=CQ h
    grind
theorem J4 {E E':En} {h h':Array Obj} (kp:fC E h E' h'): ∀{xs:List W} {us:List Value} {i:Nat} {x:W},cA E h xs us->xs[i]?=some x->∃u,VR E h x u/\∀x',VR E' h' x' u->cA E' h' (xs.set i x') us
 |[],us,i,x,_,hx=>by simp at hx
 |y::ys,us,0,x,hv,hx=>by rw [bT] at hv;obtain⟨u,vs,rfl,a,b⟩:=hv;simp only [aF,ah] at hx;subst hx;refine⟨u,a,fun x' UT=>?_⟩;rw [amx,bT];exact⟨u,vs,rfl,UT,cA.cf kp _ _ b⟩
 |y::ys,us,i+1,x,hv,hx=>by rw [bT] at hv;obtain⟨u,vs,rfl,a,b⟩:=hv;rw [aG] at hx;obtain⟨u',U,Z⟩:=J4 kp b hx;refine⟨u',U,fun x' UT=>?_⟩;rw [amy,bT];exact⟨u,vs,rfl,VR.cf kp _ _ a,Z x' UT⟩
theorem Jc [bI] {α:Type} {ρ:Nat->Int} {w:World} {us:List Value} {k:List W->St->T α} {x:α}: ∀{fz:List (Nat×Nat×Nat)} {vs:List W} {s:St} {E:En},E.ρ=ρ->bO E s.h w->bV ρ s.pc->cA E w.heap vs us->(LJ fz vs s k).leaf ρ=some x->
 ∃MO h' ef E',bV ρ ef/\Kg E w s.h E' h'/\cA E' w.heap MO us/\(k MO { s with h:=h',pc:=ef }).leaf ρ=some x
 |[],vs,s,E,hρ,r,hp,hv,h=> ⟨vs,s.h,s.pc,E,hp,Kg.refl r,hv,h⟩
 |(i,f,t)::l,vs,s,E,hρ,r,hp,hv,h=>by
  simp only [LJ] at h;split at h
  ·rename_i xs hi;split at h
   ·rename_i y hy;rw [dq] at hi hy;obtain⟨y',U,fN,E1,fA,f1,q1,g1⟩:=Jb hρ r hp h;have kp:=f1.dZ.keeps r;obtain⟨u,a,b⟩:=J4 kp hv hi;simp only [VR] at a;obtain⟨ws,rfl,a⟩:=a;obtain⟨u2,a2,b2⟩:=J4 kp a hy;split at g1
    ·rename_i e he;have hc:=mn (q1 _ a2) he
     have Rk:cA E1 w.heap (vs.set i (.agg (xs.set f (.ep e t)))) us:=by refine b _ ?_;simp only [VR];exact⟨ws,rfl,b2 _ (by simp only [VR]; exact hc)⟩
     obtain⟨vs2,Z,jK,E2,jD,f2,q2,g2⟩:=Jc (s:={ s with h:=U,pc:=fN }) (f1.ρ.trans hρ) f1.rel fA Rk g1;exact⟨vs2,Z,jK,E2,jD,f1.trans f2,q2,g2⟩
    grind [T.leaf]
   grind [T.leaf]
  grind [T.leaf]
theorem aay [bI] {g:tC} {qG:Nat->List Oper->Bool} (hg:PE P g qG) {fn:Func} (xL:g.res=fn.results.toList) (hm:g.eg.length=B.m) (oa:mM g.ko g.eg=true) (v!:g.ko<=900) {e:Ex} {s:St} {lf:Lf} {E:En} {a:Act} {w:World} {F:n7} {ys:List Int} (h:(YT g e s).leaf E.ρ=some lf) (qR:MJ F E.ρ ys lf)
 (t:ld B E s a w) (oT:bI.ok E.ρ E.ro w.heap) (hd:a.defers= []):bodyPost P fn (QX B g.lC g.eg g.ko g.oQ ys) (xo e) a w:=by
 have fit:=t.fit.fit oT
 have key: ∀{x:T Lf},x=(match kZ g.tt s g.res with
  |none=>T.fail
  |some vs=>match g.oQ with
   |[]=>match cellsOf g.lC vs with
    |none=> .fail
    |some cells=>xe cells s fun cells s=>match Ay (gO g s.h) g.eg.length s.h g.eg 0 with
     |true=>outs (oE g.lC) cells s fun es _=> .ret (.out ((gO g s.h).ns++es))
     |false=> .fail
   |c::l=>LJ g.fz vs s fun vs s=>L6 vs.length g.eg.length g.ic ⟨cm vs 0 .nil,s.h,s.pc⟩ (c::l) 0)->x.leaf E.ρ=some lf->∃v,(results fn a.tmps).run P w= .ok v w/\QX B g.lC g.eg g.ko g.oQ ys (.returned v) w:=by
  intro x hx Y;subst hx;split at Y
  ·simp [T.leaf] at Y
  ·rename_i vs hr;rw [xL] at hr;obtain⟨us,g1,g2⟩:=tf hg.tt fit hr
   have lY:(results fn a.tmps).run P w= .ok (Tv us) w:=by
    have hm:(fn.results.mapM (uC a)).run P w= .ok us.toArray w:=by rw [anL];simp_all
    have hr2:results fn a.tmps=(do let vs <- fn.results.mapM (uC a); pure (if h:vs.size=1 then vs[0] else .tuple vs)):=rfl;rw [hr2];simp only [Sem.run_bind,hm];rfl
   split at Y
   ·rename_i AJ;split at Y
    ·simp [T.leaf] at Y
    ·rename_i cells hc;rw [AJ];show ∃v,_/\QE B g.lC g.eg g.ko ys (.returned v) w;obtain⟨fl,sh,Y!⟩:=nB g2 hc;obtain⟨afY,U,pcF,E1,hpF,f,hfr,Y⟩:=pF rfl fit.rel fit.pc Y;have hv3:=hfr _ Y!;have s1:=f.dZ;have r1:=f.rel;split at Y
     ·rename_i GY;have hρ:=f.ρ;rw [<- hρ] at Y qR hpF;obtain⟨es,fN,fA,q1,q2⟩:=Cp (s:={ s with h:=U,pc:=pcF }) hpF hv3 Y;have:=bC q2;subst this;simp only [MJ] at qR;obtain⟨n1,n2,n3⟩:=TN g U
      have D4:ys.drop g.ko=es.map (V.den E1.ρ):=by
       grind
      have akJ: ∀i,i<g.ko->low ys i=(gO g U).env E1.ρ i:=by
       intro i hi
       grind [gO,low,Ren.env,dq]
      have alH: ∀i,i<B.m->E1.dm i/\E1.θ i=B.θ i/\E1.κ i=B.κ i:=by intro i hi;obtain⟨U,Z,h3⟩:=t.Y_ i hi;exact⟨s1.dm i U,by rw [s1.θ i U]; exact Z,by rw [s1.κ i U]; exact h3⟩
      have akF: ∀i,i<g.eg.length->(gO g U).id i=i:=by
       intro i hi
       grind [Ren.id,dq]
      have TZ: ∀i,(gO g U).tX i=0:=by intro i;unfold Ren.tX;rw [n3];rfl
      have yV: ∀i,i<B.m->¬E1.ro (B.θ i).1:=by
       intro i hi;have fW:i<g.eg.length:=J
       obtain⟨o',q3,_,_⟩:=iP GY (aL fW);rw [aA,akF i fW] at q3;have:=(r1.live i o' q3).2.2
       grind
      refine⟨Tv us,lY,_,rfl,t.MZ,E1.ro,fun b hb=>s1.ro b (t.ro b hb),fun b hb=>?_,r1.rh,yV,fun i o hi=>?_,us,fl,sh,by rw [D4]; exact q1,rfl⟩
      ·have key:B.ro b\/B.w0.heap.size<=b\/B.fp b:=by
        rcases s1.rF b hb with h|⟨id,o,U,Z⟩|h
        ·exact t.rF b h
        ·rw [<- Z]; exact .inr (t.own id o U)
        ·exact .inr (.inl (bk t.MZ.size h))
       rcases key with h|h|⟨i,hi,he⟩
       ·exact .inl h
       ·exact .inr h
       ·exact absurd hb (by rw [<- he]; exact yV i hi)
      ·have dS:=(aX.1 hi).1;obtain⟨o',q3,q4,q5⟩:=iP GY hi;rw [aA] at q3 q5;have ho:=(r1.live _ o' q3).2.1;have ho2:=OR.gN (E:=E1) (r:=gO g U) J (id:=i) (by rw [n2,List.length_range]; exact q4) q5 ho
       have kp:fC (E1.gN (gO g U)) w.heap { ρ:=(gO g U).env E1.ρ,θ:=B.θ,κ:=B.κ,dm:=fun i=>i<B.m,ro:=E1.ro } w.heap:=by
        have hd: ∀id,(E1.gN (gO g U)).dm id->id<g.eg.length:=by
         intro id hh;have:=hh.1
         grind
        refine⟨rfl,fun id hh=>by have:=hd id hh; show id<B.m; omega,fun id hh=>?_,fun id hh=>?_,fun _ h=>h,fun _ _=>rfl⟩
        ·have:=hd id hh;show B.θ id=((E1.θ ((gO g U).id id)).1,(E1.θ ((gO g U).id id)).2+(gO g U).tX id)
         grind
        ·have:=hd id hh;show B.κ id=E1.κ ((gO g U).id id)-(gO g U).tX id
         grind
       have aiH:(E1.gN (gO g U)).dm i:=by
        refine⟨by rw [n2,List.length_range]; exact dS,?_⟩
        grind
       have hθi:(E1.gN (gO g U)).θ i=B.θ i:=(kp.θ i aiH).symm;have ho3:=OR.abY kp aiH rfl (mL oa hi).1 ho2;exact OR.low (K:=g.ko) (E:={ ρ:=(gO g U).env E1.ρ,θ:=B.θ,κ:=B.κ,dm:=fun i=>i<B.m,ro:=E1.ro }) (E':=B.out ys E1.ro) akJ rfl rfl rfl rfl (mL oa hi).2 ho3
     ·simp [T.leaf] at Y
   ·rename_i c0 l0 AJ
    have hq:QR B (c0::l0) ys (.returned (Tv us)) w:=by
     obtain⟨VE,U,fN,E1,fA,f1,g2,Y⟩:=Jc rfl fit.rel fit.pc g2 Y;have oT:=f1.rel.jG
     have t0:ld B E1 ⟨cm VE 0 .nil,U,fN⟩ { tmps:=us.toArray,defers:=[] } w:=by have sr1:=yP g2 0;exact t.step (s':=⟨cm VE 0 .nil,U,fN⟩) f1.dZ ⟨f1.rel,by simpa using sr1,by rw [f1.ρ]; exact fA⟩
     rw [<- f1.ρ] at Y qR;obtain⟨i,c,q1,⟨q2,q2'⟩,q3,q4,_⟩:=CQ Y;rw [hm] at q2 q2' q4;obtain⟨hle,t1⟩:=t0.fits oT q2 q2';rw [q4] at qR;simp only [MJ,aw] at qR;subst qR
     have nh:(qW g.ic (c.jv B.m ⟨cm VE 0 .nil,U,fN⟩)).bl.length=c.dz.length:=by simp_all [CS.fits]
     have wK: ∀i,i<B.m->i<c.dz.length:=fun i hi=>by rw [<- nh]; exact (DZ q2' i hi).1
     have yV: ∀i,i<B.m->∃o,c.st.h.get i=some o:=by
      intro i hi;have I1:=wK i hi;refine⟨c.dz[i],?_⟩;show (og c.dz 0 .nil).get i=_
      grind [jr]
     have hfp: ∀b,B.fp b->¬(E1.gN (qW g.ic (c.jv B.m ⟨cm VE 0 .nil,U,fN⟩))).ro b:=by
      rintro b ⟨i,hi,rfl⟩ hb;obtain⟨o,ho⟩:=yV i hi;have:=(t1.fit.live i o ho).2.2;rw [(t1.Y_ i hi).2.1] at this
      grind
     refine⟨us,i,c,E1.gN (qW g.ic (c.jv B.m ⟨cm VE 0 .nil,U,fN⟩)),rfl,t.MZ,by simpa using q1,by simp [V.den],by simp [u7,s7],fun a x ha=>?_,by rw [<- q3,g2.length],t1.fit,t1.ro,fun b hb=>?_,fun i hi=> ⟨wK i hi,t1.Y_ i hi⟩,fun id o ho hid=>?_⟩
     ·simp only [aG,bg,aP] at ha;obtain⟨e,he,rfl⟩:=ha;show (qW g.ic (c.jv B.m ⟨cm VE 0 .nil,U,fN⟩)).env E1.ρ a=_
      grind [Ren.env,dq]
     ·rcases t1.rF b hb with h|h|h
      all_goals grind
     ·rcases t1.own id o ho with h|⟨i,hi,he⟩
      ·exact h
      ·obtain⟨o',yU⟩:=yV i hi;rw [<- (t1.Y_ i hi).2.1] at he;have:=t1.fit.inj i id o' o yU ho he;omega
    exact⟨Tv us,lY,by rw [AJ]; exact hq⟩
 unfold YT at h
 cases e with
 |exit id=>simp [T.leaf] at h
 |normal=>exact⟨hd,key rfl h⟩
 |ret=>exact⟨hd,key rfl h⟩
theorem Ft {P:Program} {Q:Exit->Act->World->Prop} {e:Ex} {a:Act} {w:World} (h:Q (xo e) a w):Exit.noGoto Q (xo e) a w:=by cases e<;>exact h
theorem ld.view [bI] {E E':En} {s:St} {a:Act} {w:World} {h':Hp} {ef:List (SB×Bool)} (hm:B.m=0) (t:ld B E s a w) (v:View E s.h w E' h') (hp:bV E.ρ ef):ld B E' { s with h:=h',pc:=ef } a w:=by
 have hold: ∀b,aa4 E s.h b->B.w0.heap.size<=b:=by
  rintro b (⟨id,o,U,Z⟩|⟨x,U⟩)
  ·rcases t.own id o U with h|⟨i,hi,_⟩
   ·rw [Z] at h; exact h
   ·omega
  ·exact t.s5 b x U
 refine⟨⟨v.rel.fresh,v.rel.res,v.rel.live,v.rel.inj,v.rel.rh,fun i x hi=>?_,by rw [v.kp.ρ]; exact hp,v.rel.hid⟩,fun b hb=>v.kp.ro b (t.ro b hb),fun b hb=>?_,t.MZ,fun id o ho=> .inl (hold _ (v.hold _ (.inl ⟨id,o,ho,rfl⟩))),fun i hi=>by omega,fun b x hb=>hold _ (v.hold _ (.inr ⟨x,hb⟩))⟩
 ·obtain⟨u,U,Z⟩:=t.fit.sr i x hi;exact⟨u,U,VR.cf v.kp _ _ Z⟩
 ·rcases v.rF b hb with h|h
  ·exact t.rF b h
  ·exact .inr (.inl (hold b h))
def sk [bI] {α:Type} (B:mr) (a:Act) (w:World) (f:St->(St->T α)->T α):Prop:= ∀(k:St->T α) (E:En) (s:St) (x:α),ld B E s a w->bI.ok E.ρ E.ro w.heap->(f s k).leaf E.ρ=some x->∃E' s',E'.ρ=E.ρ/\ld B E' s' a w/\bI.ok E'.ρ E'.ro w.heap/\(k s').leaf E.ρ=some x
theorem Te [bI] {α:Type} {a:Act} {w:World} (hm:B.m=0) (id:Nat) (y:V):sk (α:=α) B a w (aan id y):=by intro k E s x t hg h;obtain⟨h',ef,E',hp,v,g⟩:=aam rfl (t.fit.fit hg).rel t.fit.pc h;exact⟨E',_,v.kp.ρ,t.view hm v hp,v.rel.jG,g⟩
theorem Tc [bI] {α:Type} {a:Act} {w:World} (hm:B.m=0) (id:Nat):sk (α:=α) B a w (Q? id):=by intro k E s x t hg h;obtain⟨h',ef,E',hp,v,g⟩:=Q! rfl (t.fit.fit hg).rel t.fit.pc h;exact⟨E',_,v.kp.ρ,t.view hm v hp,v.rel.jG,g⟩
theorem rm [bI] {α:Type} {a:Act} {w:World}:sk (α:=α) B a w (fun s k=>k s):=fun _ E s _ t hg h=> ⟨E,s,rfl,t,hg,h⟩
theorem sk.then [bI] {α:Type} {a:Act} {w:World} {f f':St->(St->T α)->T α} (U:sk B a w f) (Z:sk B a w f'):sk B a w (fun s k=>f s fun s=>f' s k):=by intro k E s x t hg h;obtain⟨E1,s1,e1,t1,g1,q1⟩:=U _ E s x t hg h;rw [<- e1] at q1;obtain⟨E2,s2,e2,t2,g2,q2⟩:=Z _ E1 s1 x t1 g1 q1;exact⟨E2,s2,e2.trans e1,t2,g2,by rw [<- e1]; exact q2⟩
theorem xp [bI] {α:Type} {a:Act} {w:World} (hm:B.m=0) (y:V): ∀l:List Nat,sk (α:=α) B a w (Jf y l)
 |[]=>rm
 |i::l=>(Te hm i y).then (xp hm y l)
theorem C4 [bI] {α:Type} {a:Act} {w:World} (hm:B.m=0): ∀l:List Nat,sk (α:=α) B a w (NS l)
 |[]=>rm
 |i::l=>(Tc hm i).then (C4 hm l)
theorem Td [bI] {α:Type} {a:Act} {w:World} (i:Nat):sk (α:=α) B a w (afx i):=by
 intro k E s x t hg h;unfold afx at h;split at h
 ·rename_i v hv;have fit:=t.fit.fit hg;obtain⟨v',h',ef,E',hp,f,hfr,g⟩:=Jb rfl fit.rel fit.pc h;refine⟨E',_,f.ρ,t.step f.dZ ⟨f.rel,fun j y hj=>?_,by rw [f.ρ]; exact hp⟩,f.rel.jG,g⟩;obtain⟨u,hu,hvu⟩:=fit.sr i v hv;simp only [Tr.bQ] at hj;split at hj
  ·rename_i he;subst he;simp only [ah] at hj;subst hj;exact⟨u,hu,hfr u hvu⟩
  ·exact SR.cf (f.dZ.keeps fit.rel) fit.sr j y hj
 ·exact⟨E,s,rfl,t,hg,h⟩
theorem C6 [bI] {α:Type} {a:Act} {w:World} (hm:B.m=0) (r:Nat): ∀l:List FH,sk (α:=α) B a w (Fz r l)
 |[]=>rm
 |h0::l=>by
  have ih:=C6 (α:=α) (a:=a) (w:=w) hm r l;intro k E s x t hg h;simp only [Fz] at h;split at h
  ·exact ih k E s x t hg h
  ·split at h
   ·split at h
    ·exact ((Td _).then ih) k E s x t hg h
    ·exact ih k E s x t hg h
   ·split at h
    ·exact ((xp hm _ _).then ih) k E s x t hg h
    ·split at h
     ·exact ih k E s x t hg h
     ·obtain⟨ef,fy,U⟩:=cH t.fit.pc h;split at U
      ·exact ((xp hm _ _).then ih) k E _ x (t.pc fy) hg U
      ·exact ih k E _ x (t.pc fy) hg U
theorem Eg {g:tC} (h:Hk g=true):g.eg= []/\g.oQ= []:=by
 unfold Hk at h;split at h
 ·simp at h
 ·split at h
  ·rename_i U;split at h
   ·rename_i Z;exact⟨U,Z⟩
   ·simp at h
  ·simp at h
theorem Nj [bI] {α:Type} {a:Act} {w:World} {g:tC} (hm:g.eg.length=B.m) (c:Code):sk (α:=α) B a w (Ud g c):=by
 intro k E s x t hg h;unfold Ud at h;split at h
 ·rename_i he;rw [(Eg he).1] at hm;split at h
  ·exact C6 hm.symm _ _ k E s x t hg h
  ·exact rm k E s x t hg h
 ·exact rm k E s x t hg h
theorem C5 [bI] {α:Type} {a:Act} {w:World} {g:tC} (hm:g.eg.length=B.m):sk (α:=α) B a w (TF g):=by
 intro k E s x t hg h;unfold TF at h;split at h
 ·rename_i he;rw [(Eg he).1] at hm;exact C4 hm.symm _ k E s x t hg h
 ·exact rm k E s x t hg h
theorem I8 [bI] {g:tC} {qG:Nat->List Oper->Bool} (hg:PE P g qG) {body:Code} {N:Nat} (hd:jX qG N body=true) {fn:Func} (xL:g.res=fn.results.toList) (hm:g.eg.length=B.m) (oa:mM g.ko g.eg=true) (v!:g.ko<=900) {F:n7} {ys:List Int} {fe:Ce}
 (hj:q! P body N B (bodyPost P fn (QX B g.lC g.eg g.ko g.oQ ys)) F ys fe): ∀n:Nat,
 (∀p c fr s lf E a w,oG body p=some (c,fr)->(wL g fe n p c fr s).leaf E.ρ=some lf->MJ F E.ρ ys lf->ld B E s a w->bI.ok E.ρ E.ro w.heap->N<=a.tmps.size->a.defers= []->c.wp P (KE P (bodyPost P fn (QX B g.lC g.eg g.ko g.oQ ys)) fr) a w)/\
 (∀fr e s lf E a w,Fl body fr->(s8 g fe n fr e s).leaf E.ρ=some lf->MJ F E.ρ ys lf->ld B E s a w->bI.ok E.ρ E.ro w.heap->N<=a.tmps.size->a.defers= []->KE P (bodyPost P fn (QX B g.lC g.eg g.ko g.oQ ys)) fr (xo e) a w)
 |0=> ⟨fun _ _ _ _ _ _ _ _ _ h=>by simp [wL,T.leaf] at h,fun _ _ _ _ _ _ _ _ h=>by simp [s8,T.leaf] at h⟩
 |n+1=>by
  obtain⟨DY,px⟩:=I8 hg hd xL hm oa v! hj n
  have leaf: ∀p c fr s lf E a w,oG body p=some (c,fr)->(Ud g c s fun s=>(g.ev c s).bind fun (e,s')=>s8 g fe n fr e s').leaf E.ρ=some lf->MJ F E.ρ ys lf->ld B E s a w->bI.ok E.ρ E.ro w.heap->N<=a.tmps.size->a.defers= []->c.wp P (KE P (bodyPost P fn (QX B g.lC g.eg g.ko g.oQ ys)) fr) a w:=by intro p c fr s lf E0 a w Y h qR t oT hN CE;obtain⟨E,s,hE,t,oT,h⟩:=Nj hm c _ E0 s lf t oT h;rw [<- hE] at h qR;obtain⟨⟨e,s'⟩,U,Z⟩:=T.fg h;refine wp_mono (k7 hg.tt hg.call hg.draw c (r4 hd p Y) E s s' e a w hN (t.fit.fit oT) U) fun x a' w' ⟨hx,ht⟩=>?_;subst hx;obtain⟨E',t',hρ,hg'⟩:=t.then ht;exact px fr e s' lf E' a' w' (vS p Y) (by rw [hρ]; exact Z) (by rw [hρ]; exact qR) t' hg' (by rw [ht.size]; exact hN) (by rw [ht.defers,CE])
  constructor
  ·intro p c fr s lf E a w Y h qR t oT hN CE;simp only [wL] at h;split at h
   ·rename_i l MU;obtain⟨E1,s1,hE,t,oT,h⟩:=C5 hm _ E s lf t oT h;rw [<- hE] at h qR;obtain⟨b,YC,CB,_⟩:=hj p l MU;rw [Y] at CB;simp only [ah,ak] at CB;obtain⟨rfl,rfl⟩:=CB;obtain⟨s',t',h'⟩:=wA h t;exact NZ (vU hj MU Y (fun _ hx=>hx) (by rw [<- hm]; exact h') qR t' oT hN CE)
   ·cases c with
    |seq x y=> simp only at h;refine wp_seq ?_;exact DY (0::p) x (.seq (1::p) y::fr) s lf E a w (by simp only [oG,Y]) h qR t oT hN CE
    |block id b=> simp only at h;refine wp_block ?_;exact DY (0::p) b (.block id::fr) s lf E a w (by simp only [oG,Y]) h qR t oT hN CE
    |scope b=> simp only at h;refine wp_scope_straight ?_;exact DY (0::p) b (.scope::fr) s lf E a w (by simp only [oG,Y]) h qR t oT hN CE
    |cond v x y=>
     simp only at h;split at h
     ·rename_i c hv;obtain⟨ef,fy,U⟩:=cH t.fit.pc h;have hvr:=gk t.fit.sr hv;simp only [VR] at hvr;refine wp_cond hvr ?_
      cases Ry:c.den E.ρ with
      |true=> rw [Ry] at U;simp only at U;exact DY (0::p) x fr _ lf E a w (by simp only [oG,Y]) U qR (t.pc fy) oT hN CE
      |false=> rw [Ry] at U;simp only at U;exact DY (1::p) y fr _ lf E a w (by simp only [oG,Y]) U qR (t.pc fy) oT hN CE
     grind [T.leaf]
    |_=>simp only at h; exact leaf p _ fr s lf E a w Y h qR t oT hN CE
  ·intro fr e s lf E a w hf h qR t oT hN CE
   cases fr with
   |nil=> simp only [s8] at h;exact aay hg xL hm oa v! h qR t oT CE
   |cons f fr=>
    cases f with
    |seq p c=>
     simp only [s8] at h;obtain⟨Y,Ot⟩:=hf
     cases e with
     |normal=>exact DY p c fr s lf E a w Y h qR t oT hN CE
     |exit id=>exact px fr (.exit id) s lf E a w Ot h qR t oT hN CE
     |ret=>exact px fr .ret s lf E a w Ot h qR t oT hN CE
    |block id=>
     simp only [s8] at h;have Ot:Fl body fr:=hf
     cases e with
     |normal=>exact px fr .normal s lf E a w Ot h qR t oT hN CE
     |ret=>exact px fr .ret s lf E a w Ot h qR t oT hN CE
     |exit j=>
      simp only at h;show (if j=id then _ else _);split at h
      ·rename_i GZ;rw [ag (aq GZ)];exact px fr .normal s lf E a w Ot h qR t oT hN CE
      ·rename_i GZ;rw [af (amJ GZ)];exact px fr (.exit j) s lf E a w Ot h qR t oT hN CE
    |loop p b=>
     simp only [s8] at h;obtain⟨Y,Ot⟩:=hf
     cases e with
     |normal=>
      simp only at h;split at h
      ·rename_i l MU;obtain⟨E1,s1,hE,t,oT,h⟩:=C5 hm _ E s lf t oT h;rw [<- hE] at h qR;obtain⟨s',t',h'⟩:=wA h t;exact vU hj MU Y (fun _ hx=>hx) (by rw [<- hm]; exact h') qR t' oT hN CE
      grind [T.leaf]
     |exit id=>exact px fr (.exit id) s lf E a w Ot h qR t oT hN CE
     |ret=>exact px fr .ret s lf E a w Ot h qR t oT hN CE
    |scope=> simp only [s8] at h;exact Ft (P:=P) (px fr e s lf E a w hf h qR t oT hN CE)
end
end Go.As
end
section
namespace Go.As
open Go.RowKit
def Ren.bK (r:Ren):List (W×W×Nat)->List (W×W×Nat)
 |[]=>[]
 |(k,v,n)::l=>(r.av k,r.av v,n)::r.bK l
theorem Ren.BQ (r:Ren): ∀es:List (W×W×Nat),(r.bK es).map (·.2.2)=es.map (·.2.2)
 |[]=>rfl
 |(k,v,n)::l=>by simp only [Ren.bK,aw,Ren.BQ r l]
def Ren.ovs (r:Ren):List (V×List W)->List (V×List W)
 |[]=>[]
 |(i,cs)::l=>(r.se i,r.Ca cs)::r.ovs l
def Ren.ob (r:Ren):dM->dM
 | .cells cs e=> .cells (r.Ca cs) e
 | .map es n=> .map (r.bK es) n
 | .kg s p=> .kg s p
 | .jC m s l z=> .jC (m.map r.id) s l z
 | .vec e t ty ov=> .vec (r.se e) t ty (r.ovs ov)
 | .j6 e t=> .j6 (r.se e) t
 | .tT e t eX ov=> .tT e t eX ov
noncomputable def kq (r:Ren):List dM->Nat->Hp->Hp
 |[],_,h=>h
 |o::os,i,h=>kq r os (i+1) (h.put (r.id i) (r.ob o))
def Gw (r:Ren):Bool:=r.sh.all fun i=>Nat.beq i 0
def P1 (r:V) (n:Nat):List V:=(List.range n).map (ow r)
noncomputable def X9 (j:Nat) (c:CS) (lC:List RK) (eg:List dM) (ko:Nat):List W->St->T (W×St):=fun args s=>
 match Nat.beq args.length c.bD.length&&c.fits t_ ⟨cm args 0 .nil,s.h,s.pc⟩ (c.lr ⟨cm args 0 .nil,s.h,s.pc⟩)&&Gw (c.lr ⟨cm args 0 .nil,s.h,s.pc⟩) with
 |true=>jN s (.eq (.ap (2*j) (fY (c.lr ⟨cm args 0 .nil,s.h,s.pc⟩).ns)) (.lit 1)) fun s' b=>match b with
  |true=> .ret (match pq lC (ow (.ap (2*j+1) (fY (c.lr ⟨cm args 0 .nil,s.h,s.pc⟩).ns))) ko with |[v]=>v|vs=> .tuple vs,
   { s' with h:=kq ⟨P1 (.ap (2*j+1) (fY (c.lr ⟨cm args 0 .nil,s.h,s.pc⟩).ns)) ko,(c.lr ⟨cm args 0 .nil,s.h,s.pc⟩).bl,[]⟩ eg 0 s'.h })
  |false=> .fail
 |false=> .fail
noncomputable def ai1 (s:St) (t c:Nat):V:=match s.bD.get t with
 |some v=>match v with
  | .int _ e=>e
  | .agg cs=>match eZ cs c with
    |some v=>match v with
     | .int _ e=>e
     |_=> .lit 0
    |none=> .lit 0
  |_=> .lit 0
 |none=> .lit 0
noncomputable def Yw (s:St):List (Nat×Nat)->List V->List V
 |[],ns=>ns
 |_::_,[]=>[]
 |(t,c)::l,_::ns=>ai1 s t c::Yw s l ns
noncomputable def v? (s:St) (gh:List (Nat×Nat)) (r:Ren):Ren:={ r with ns:=Yw s gh r.ns }
noncomputable def ai0 (s:St) (gh:List (Nat×Nat)):Option V:=match gh with
 |(t,c)::_=>some (ai1 s t c)
 |[]=>none
noncomputable def qZ (q:V) (ic:Nat) (ns:List V) (c:CS) (bl:List Nat) (s:St):Ren:=⟨(List.range c.k).map fun a=>match Nat.blt a ic with |true=>(match eZ ns a with |some e=>e|none=> .lit 0)|false=>ow q (a+1),(List.range c.dz.length).map fun i=>match eZ bl i with |some j=>j|none=>s.h.next+(i-bl.length),[]⟩
noncomputable def Yv (g n:V) (s:St) (k:St->T (W×St)):T (W×St):=jN s (ig g (.lit 0)) fun s b=>match b with
 |true=>k s
 |false=>jN s (ig g n) fun s b=>match b with
  |true=> .fail
  |false=>k s
noncomputable def ghT (q:V) (ic:Nat) (ns:List V) (g:Option V) (c:CS) (bl:List Nat) (s:St) (k:St->T (W×St)):T (W×St):=match g with
 |none=>k s
 |some g=>match c.m with
  | .dD _=>k s
  |_=>match c.bD with
   |[]=>k s
   |(_,v)::_=>match v with
    | .pb _ n _=>Yv g ((qZ q ic ns c bl s).se n) s k
    |_=>k s
noncomputable def h_ (q:V) (ic:Nat) (ns:List V) (g:Option V) (bl:List Nat):List CS->Nat->St->T (W×St)
 |[],_,_=> .fail
 |c::l,i,s=>jN s (qM (ow q 0) (.lit (Int.ofNat i))) fun s b=>match b with
  |true=>ghT q ic ns g c bl s fun s=> .ret (Av ((qZ q ic ns c bl s).Ca (c.bD.map fun p=>p.2)),
   { s with h:=⟨(kq (qZ q ic ns c bl s) c.dz 0 s.h).m,s.h.next+(c.dz.length-bl.length),s.h.res⟩ })
  |false=>h_ q ic ns g bl l (i+1) s
noncomputable def Ro (j ic:Nat) (c:CS) (gh:List (Nat×Nat)) (oQ:List CS):List W->St->T (W×St):=fun args s=>
 match Nat.beq args.length c.bD.length&&c.fits t_ ⟨cm args 0 .nil,s.h,s.pc⟩ (v? s gh (c.lr ⟨cm args 0 .nil,s.h,s.pc⟩))&&Gw (v? s gh (c.lr ⟨cm args 0 .nil,s.h,s.pc⟩)) with
 |true=>jN s (.eq (.ap (2*j) (fY (v? s gh (c.lr ⟨cm args 0 .nil,s.h,s.pc⟩)).ns)) (.lit 1)) fun s' b=>match b with
  |true=>h_ (.ap (2*j+1) (fY (v? s gh (c.lr ⟨cm args 0 .nil,s.h,s.pc⟩)).ns)) ic (v? s gh (c.lr ⟨cm args 0 .nil,s.h,s.pc⟩)).ns (ai0 s gh) (v? s gh (c.lr ⟨cm args 0 .nil,s.h,s.pc⟩)).bl oQ 0 s'
  |false=> .fail
 |false=> .fail
section
variable {Eo E2:En} {r:Ren} {h:Array Obj} (Y:r.ns.length<=900) (xK:r.sh= []) (hρ:Eo.ρ=r.env E2.ρ) (hid: ∀i,Eo.dm i->E2.dm (r.id i)/\E2.θ (r.id i)=Eo.θ i/\E2.κ (r.id i)=Eo.κ i) (lq:Eo.ro=E2.ro)
include Y xK hρ hid lq
theorem W0 (i:Nat):r.tX i=0:=by unfold Ren.tX; rw [xK]; rfl
theorem eQ.back {id off len:Nat} {a:Addr} {cap:Nat} {c:MN} (hd:Eo.dm id) (hc:eQ Eo id off len a cap c):eQ E2 (r.id id) off len a cap c:=by simp_all [eQ]
mutual
theorem VR.back: ∀(x:W) (u:Value),VR Eo h x u->VR E2 h (r.av x) u
 | .bool b,u,hv=>by simp only [VR,Ren.av] at *; rw [Ren.Ap Y,<- hρ]; exact hv
 | .int _ e,u,hv=>by simp only [VR,Ren.av] at *; rw [Ren.eh Y,<- hρ]; exact hv
 | .str s,u,hv=>by simp only [VR,Ren.av] at *; exact hv
 | .ptr id off,u,hv=>by
   simp only [VR,Ren.av,W0 Y xK hρ hid lq,aA] at *
   grind
 | .tY,u,hv=>by simp only [VR,Ren.av] at *; exact hv
 | .mY cs,u,hv=>by simp only [VR,Ren.av] at *;obtain⟨b,o,us,U,Z,h3,h4,h5⟩:=hv;exact⟨b,o,us,U,by rw [<- lq]; exact Z,cA.back cs us h3,h4,h5⟩
 | .slice id off len c,u,hv=>by simp only [VR,Ren.av,W0 Y xK hρ hid lq,aA] at *;obtain⟨U,a,cap,Z,h3,h4⟩:=hv;exact⟨(hid id U).1,a,cap,Z,h3,eQ.back Y xK hρ hid lq U h4⟩
 | .fZ,u,hv=>by simp only [VR,Ren.av] at *; exact hv
 | .ro cs n full,u,hv=>by simp only [VR,Ren.av] at *;obtain⟨b,o,cap,us,U,Z,h3,h4,h5,h6,h7⟩:=hv;exact⟨b,o,cap,us,U,Z,h3,by rw [<- lq]; exact h4,cA.back cs us h5,h6,h7⟩
 | .map id,u,hv=>by
   simp only [VR,Ren.av] at *
   grind
 | .rI,u,hv=>by simp only [VR,Ren.av] at *; exact hv
 | .func fn fs cs,u,hv=>by simp only [VR,Ren.av] at *;obtain⟨us,ws,U,Z,h3⟩:=hv;exact⟨us,ws,U,cA.back fs us Z,cA.back cs ws h3⟩
 | .wG,u,hv=>by simp only [VR,Ren.av] at *; exact hv
 | .iface t x,u,hv=>by simp only [VR,Ren.av] at *;obtain⟨y,U,Z⟩:=hv;exact⟨y,U,VR.back x y Z⟩
 | .xA,u,hv=>by simp only [VR,Ren.av] at *; exact hv
 | .agg cs,u,hv=>by simp only [VR,Ren.av] at *;obtain⟨us,U,Z⟩:=hv;exact⟨us,U,cA.back cs us Z⟩
 | .tuple cs,u,hv=>by simp only [VR,Ren.av] at *;obtain⟨us,U,Z⟩:=hv;exact⟨us,U,cA.back cs us Z⟩
 | .KY _,u,hv=>by simp only [VR] at hv
 | .wI k ks,u,hv=>by
   simp only [VR,Ren.av] at *;rw [hρ,Ren.lN Y J,lq] at hv;rcases hv with hv|⟨b,o,n,cap,U,Z,h3,h4,h5⟩
   ·grind
   ·refine .inr ⟨b,o,n,cap,U,Z,h3,h4,fun i j kd hi hj=>?_⟩;have:=h5 i j kd hi hj
    first
     |exact this
     |(rw [Ren.lN Y J] at this; exact this)
     |(rw [hρ,Ren.lN Y J] at this; exact this)
 | .emp,u,hv=>by simp only [VR,Ren.av] at *; exact hv
 | .ep e t,u,hv=>by simp only [VR,Ren.av] at *; rw [Ren.eh Y,<- hρ,<- lq]; exact hv
 | .jP e,u,hv=>by simp only [VR,Ren.av] at *; rw [Ren.eh Y,<- hρ,<- lq]; exact hv
 | .pb id n t,u,hv=>by simp only [Ren.av,W0 Y xK hρ hid lq];simp only [VR] at *;obtain⟨U,k,a,cap,Z,h3,h4,h5⟩:=hv;exact⟨(hid id U).1,k,a,cap,by rw [Ren.eh Y,<- hρ]; exact Z,h3,h4,eQ.back Y xK hρ hid lq U h5⟩
 | .zG id es i off,u,hv=>by simp only [Ren.av,W0 Y xK hρ hid lq];simp only [VR] at *;obtain⟨U,k,Z,h3⟩:=hv;obtain⟨g1,g2,_⟩:=hid id U;exact⟨g1,k,by rw [Ren.eh Y,<- hρ]; exact Z,by rw [g2]; exact h3⟩
 | .any,u,_=>by simp only [VR,Ren.av]
 | .xg z t,u,hv=>by simp only [VR,Ren.av] at *; rw [Ren.eh Y,<- hρ,<- lq]; exact hv
 | .tV id lo n t,u,hv=>by simp only [Ren.av,W0 Y xK hρ hid lq];simp only [VR] at *;obtain⟨U,l,k,a,cap,Z,h3,h4,h5,h6⟩:=hv;exact⟨(hid id U).1,l,k,a,cap,by rw [Ren.eh Y,<- hρ]; exact Z,by rw [Ren.eh Y,<- hρ]; exact h3,h4,h5,eQ.back Y xK hρ hid lq U h6⟩
theorem cA.back: ∀(xs:List W) (us:List Value),cA Eo h xs us->cA E2 h (r.Ca xs) us
 |[],us,hv=>by simp only [cA,Ren.Ca] at *; exact hv
 |x::xs,us,hv=>by simp only [cA,Ren.Ca] at *;obtain⟨u,vs,U,Z,h3⟩:=hv;exact⟨u,vs,U,VR.back x u Z,cA.back xs vs h3⟩
end
theorem eI.back: ∀{es:List (W×W×Nat)} {bK:List MapEntry},eI Eo h es bK->eI E2 h (r.bK es) bK
 |[],_,hv=>by simp only [eI,Ren.bK] at *; exact hv
 |(k,v,b)::es,bK,hv=>by simp only [eI,Ren.bK] at *;obtain⟨e,rr,U,Z,h3,h4,h5⟩:=hv;exact⟨e,rr,U,VR.back Y xK hρ hid lq k _ Z,VR.back Y xK hρ hid lq v _ h3,h4,eI.back h5⟩
theorem DB {i:Nat}: ∀{ov:List (V×List W)},ed E2.ρ i (r.ovs ov)=(ed Eo.ρ i ov).map r.Ca
 |[]=>rfl
 |(j,cs)::l=>by
  simp only [ed,Ren.ovs];rw [Ren.eh Y,<- hρ,DB]
  grind
theorem xi {row:Row} {ov:List (V×List W)}: ∀(ds:List D) (i:Nat) {us:List Value},cA Eo h (bE Eo.ρ row ov ds i) us->cA E2 h (bE E2.ρ row (r.ovs ov) ds i) us
 |[],_,us,hv=>by simp only [bE,cA] at *; exact hv
 |d::ds,i,us,hv=>by
  simp only [bE] at *;obtain⟨a,b,rfl,U,Z⟩:=hv.split;refine cA.append ?_ (xi ds (i+1) Z);rw [DB Y xK hρ hid lq]
  cases ho:ed Eo.ρ i ov with
  |none=> rw [ho] at U;simp only [Option.map_none];rw [gm] at U ⊢;rw [<- lq];exact U
  |some cs=> rw [ho] at U;exact cA.back Y xK hρ hid lq cs a U
theorem Gr {row:Row}: ∀{ov:List (V×List W)},sM row ov->sM row (r.ovs ov)
 |[],h=>h
 |(i,cs)::l,h=>by
  intro p hp;simp only [Ren.ovs] at hp;rcases ay.1 hp with rfl|hp
  ·simp only [pP]; exact h (i,cs) ad
  ·exact Gr (fun q hq=>h q (by simp [hq])) p hp
theorem OR.back {id:Nat} {o:dM} (hn:nf o=true) (hd:Eo.dm id) (ho:OR Eo h id o):OR E2 h (r.id id) (r.ob o):=by
 obtain⟨_,Z,h3⟩:=hid id hd
 cases o with
 |tT e t eX ov=>simp [nf] at hn
 |cells cs e=> simp only [OR,Ren.ob] at *;obtain⟨arr,lo,hi,us,q1,q2,q3,q4,q5,q6,q7⟩:=ho;rw [Z,h3];exact⟨arr,lo,hi,us,q1,cA.back Y xK hρ hid lq cs us q2,q3,by rw [pP]; exact q4,q5,q6,q7⟩
 |map es c=>
  simp only [OR,Ren.ob] at *;obtain⟨bK,c',q1,q2,q3⟩:=ho;rw [Z];refine⟨bK,c',q1,eI.back Y xK hρ hid lq q2,?_⟩
  cases c with
  |zero=>trivial
  |succ c=>exact⟨q3.1,by rw [q3.2,Ren.BQ]⟩
 |kg s p=>simp only [OR,Ren.ob] at *; rw [Z]; exact ho
 |jC m s l z=>
  cases m with
  |none=>simp only [OR,Ren.ob,Option.map] at *; rw [Z]; exact ho
  |some i=> simp only [OR,Ren.ob,Option.map] at *;obtain⟨q1,q2,q3⟩:=hid i ho.2.2;rw [Z,q2];exact⟨ho.1,ho.2.1,q1⟩
 |j6 e t=>
  grind [OR,Ren.ob,Ren.eh]
 |vec e t ty ov=>
  simp only [OR,Ren.ob] at *;obtain⟨⟨q0,qw⟩,arr,lo,hi,us,q1,q2,q3,q4,q5,q6,q7⟩:=ho;have he:(r.se e).den E2.ρ=e.den Eo.ρ:=by rw [Ren.eh Y,<- hρ]
  have q0':=Gr Y xK hρ hid lq q0;rw [Z,h3,he];refine⟨⟨q0',qw⟩,arr,lo,hi,us,q1,xi Y xK hρ hid lq _ _ q2,q3,?_,q5,q6,q7⟩
  grind [cF]
end
theorem xu {r:Ren}: ∀{os:List dM} {i:Nat} {h:Hp},(∀a b,i<=a->a<i+os.length->i<=b->b<i+os.length->r.id a=r.id b->a=b)->
 (∀k o,os[k]?=some o->(kq r os i h).get (r.id (i+k))=some (r.ob o))/\(∀id,(∀k,k<os.length->r.id (i+k)≠id)->(kq r os i h).get id=h.get id)/\(kq r os i h).next=h.next/\(kq r os i h).res=h.res
 |[],i,h,_=> ⟨fun k o hk=>by simp at hk,fun _ _=>rfl,rfl,rfl⟩
 |o::os,i,h,Lx=>by
  obtain⟨U,Z,h3,h4⟩:=xu (r:=r) (os:=os) (i:=i+1) (h:=h.put (r.id i) (r.ob o)) fun a b U Z h3 h4=>Lx a b J (by simp only [aM]; omega) J (by simp only [aM]; omega);refine⟨fun k x hk=>?_,fun id hn=>?_,h3,h4⟩
  ·cases k with
   |zero=>
    simp at hk;subst hk;simp only [kq];show (kq r os (i+1) (h.put (r.id i) (r.ob o))).get (r.id i)=some (r.ob o)
    grind [Hp.bQ]
   |succ k=>
    grind [kq]
  ·simp only [kq];rw [Z id fun k hk=>?_,Hp.bQ,af ?_]
   ·have:=hn 0 ad
    grind
   grind
theorem w6 (c:CS) (s:St):(c.lr s).ns.length=c.k:=by
 grind [CS.lr,ny]
section
variable {P:Program}
def ads (P:Program) (GB:(Nat->Prop)->Array Obj->Prop) (g:FuncId) (c:CS) (lC:List RK) (eg:List dM) (ko:Nat) (f:List Int->Option (List Int)):Prop:=
 ∀xs ys,f xs=some ys->∀(E:En) (w:World) (vals:List Value),(∀i x,xs[i]?=some x->E.ρ i=x)->xs.length=c.k->vu E c.st { tmps:=vals.toArray,defers:=[] } w->GB E.ro w.heap->
  Calls P g vals.toArray w (QE ⟨w,E.ro,c.dz.length,E.θ,E.κ⟩ lC eg ko ys)
theorem X8 [bI] {GB:(Nat->Prop)->Array Obj->Prop} (Lz: ∀ρ ro h,bI.ok ρ ro h->GB ro h) {F:n7} (Ly: ∀ρ ro h,bI.ok ρ ro h->Good F ρ) {g:FuncId} {j:Nat} {c:CS} {lC:List RK} {eg:List dM} {ko:Nat} (oa:mM ko eg=true) (v!:ko<=900) (hom:eg.length=c.dz.length)
 (hs:ads P GB g c lC eg ko (F j)) (lY: ∀(args:Array Value) (w:World),(callFunc g args).run P w= .ok (.enter g args) w):j9 P g (X9 j c lC eg ko):=by
 intro alL s E w vals v s' r hv hp Y;unfold X9 at Y;split at Y
 ·rename_i jl;simp only [an] at jl;obtain⟨⟨_,Oq⟩,I0⟩:=jl;have hlen:=w6 c ⟨cm alL 0 .nil,s.h,s.pc⟩;generalize hr:c.lr ⟨cm alL 0 .nil,s.h,s.pc⟩ = rn at Y Oq I0 hlen
  have f0:Fit E ⟨cm alL 0 .nil,s.h,s.pc⟩ { tmps:=vals.toArray,defers:=[] } w:=by refine⟨r,?_,hp⟩;have:=yP hv 0;simpa using this
  obtain⟨hle,f1,ho⟩:=zm NQ f0 Oq;obtain⟨fN,fA,q1⟩:=cH hp Y;split at q1
  ·rename_i ht;have hg:=Ly _ _ _ r.jG;have hg1:=(hg j (rn.ns.map (V.den E.ρ))).1;have hg2:=(hg j (rn.ns.map (V.den E.ρ))).2;simp only [SB.den,V.den,jk,hg1,beq_iff_eq] at ht
   have BD:(F j (rn.ns.map (V.den E.ρ))).isSome=true:=by
    cases hh:(F j (rn.ns.map (V.den E.ρ))).isSome with
    |true=>rfl
    |false=>rw [hh] at ht; simp at ht
   obtain⟨ys,GU⟩:=ami.1 BD
   have T1:(V.ap (2*j+1) (fY rn.ns)).den E.ρ=mu ys:=by show E.ρ _=_;rw [jk,hg2,GU];rfl
   have:=bC q1;simp only [ak] at this;obtain⟨rfl,rfl⟩:=this;refine⟨rfl,fA,?_⟩;unfold lQ n6;rw [lY]
   have mR: ∀i x,(rn.ns.map (V.den E.ρ))[i]?=some x->(E.gN rn).ρ i=x:=by intro i x hi;rw [bg,aP] at hi;obtain⟨e,he,rfl⟩:=hi;show rn.env E.ρ i=_;unfold Ren.env;rw [dq,he]
   refine Calls.mono (hs _ ys GU (E.gN rn) w vals mR (by simpa using hlen) f1.x (Lz _ _ _ f1.rel.jG)) fun e w' ⟨u,he,hb,my,k1,k2,k3,k4,k5,k6⟩=> ⟨u,he,?_⟩;have sU:=Oq;unfold CS.fits at sU;simp only [an] at sU;obtain⟨⟨⟨⟨⟨_,nh⟩,ae6⟩,_⟩,ae0⟩,_⟩:=sU;have nh:=aq nh
   have TZ: ∀i,rn.tX i=0:=by
    intro i;unfold Ren.tX;split
    ·rename_i x hx;rw [dq] at hx;unfold Gw at I0;rw [aW] at I0;exact aq (I0 x (br hx))
    ·rfl
   have s5: ∀i,i<c.dz.length->∃o,s.h.get (rn.id i)=some o:=by intro i hi;obtain⟨o',g1,_⟩:=iP ae0 (aL hi);rw [aA] at g1;exact⟨o',g1⟩
   have Lx: ∀a b,a<c.dz.length->b<c.dz.length->rn.id a=rn.id b->a=b:=by
    intro a b ha hb he;have hla:a<rn.bl.length:=J
    have hlb:b<rn.bl.length:=J
    unfold Ren.id at he;rw [dq,dq,aL hla,aL hlb] at he;simp only at he;exact oK ae6 (i:=a) (j:=b) (x:=rn.bl[a]) (by rw [dq,aL hla]) (by rw [dq,aL hlb,he])
   generalize hR:(⟨P1 (.ap (2*j+1) (fY rn.ns)) ko,rn.bl,[]⟩ : Ren)=R;have I5: ∀i,R.id i=rn.id i:=by intro i; rw [<- hR]; rfl
   have hRl:R.ns.length=ko:=by rw [<- hR]; simp [P1]
   obtain⟨p1,p2,p3,p4⟩:=xu (r:=R) (os:=eg) (i:=0) (h:=s.h) fun a b _ Z _ h4 he=>by rw [I5,I5] at he;exact Lx a b J J he
   have hfp: ∀b,(mr.mk w (E.gN rn).ro c.dz.length (E.gN rn).θ (E.gN rn).κ).fp b->∃id o,s.h.get id=some o/\(E.θ id).1=b:=by rintro b ⟨i,hi,he⟩;obtain⟨o,U⟩:=s5 i hi;exact⟨_,o,U,he⟩
   have aab: ∀b,E.ro b->w'.heap[b]?=w.heap[b]?:=by intro b I3;refine hb.nF b (r.rh b I3) fun hf=>?_;obtain⟨id,o,U,Z⟩:=hfp b hf;exact (r.live id o U).2.2 (by rw [Z]; exact I3)
   have tJ:fC E w.heap { E with ro:=my } w'.heap:=⟨rfl,fun _ h=>h,fun _ _=>rfl,fun _ _=>rfl,k1,aab⟩
   have Oh: ∀id o,(kq R eg 0 s.h).get id=some o->∃o',s.h.get id=some o':=by
    intro id o hg;by_cases hex: ∃k,k<eg.length/\R.id (0+k)=id
    ·obtain⟨k,hk,rfl⟩:=hex;rw [aA,I5];exact s5 k J
    ·rw [p2 id fun k hk he=>hex ⟨k,hk,he⟩] at hg;exact⟨o,hg⟩
   have tW:eT E s.h w { E with ro:=my } (kq R eg 0 s.h) w':=by
    refine⟨rfl,fun _ h=>h,fun _ _=>rfl,fun _ _=>rfl,k1,fun b I3=>(k2 b I3).imp id .inr,by rw [p3]; exact au _,by rw [p4]; exact .inr rfl,fun _ h=> .inl h,hb.os,hb.tape,hb.output,hb.size,fun b nh hn=>hb.nF b nh fun hf=>?_,fun id o hg _=>?_,rfl⟩
    ·obtain⟨id,o,U,Z⟩:=hfp b hf;exact hn id o U Z
    ·obtain⟨o',U⟩:=Oh id o hg;exact⟨id,o',U,rfl⟩
   have RA: ∀i,i<ko->R.env E.ρ i=low ys i:=by
    intro i hi;unfold Ren.env low
    have hn:eZ R.ns i=some (ow (.ap (2*j+1) (fY rn.ns)) i):=by rw [<- hR,dq];simp [P1,hi]
    rw [hn];simp only;rw [am9];simp only [ow,V.den,fu.den,bB];have aiu:(V.ap (2*j+1) (fY rn.ns)).den E.ρ=mu ys:=T1;simp only [V.den] at aiu;rw [aiu];simp only [mu,bB,D.hd,bJ,bg];cases ys[i]?<;>rfl
   have r2:bO { E with ro:=my } (kq R eg 0 s.h) w':=by
    refine⟨fun id hid=>r.fresh id (by rw [<- p3]; exact hid),fun q hq=>by rw [p3]; exact r.res q (by rw [<- p4]; exact hq),fun id o hg=>?_,fun i1 i2 o1 o2 U Z he=>?_,k3,bI.cf r.jG k1 aab,r.T4 tW.hd tW.size tW.rF tW.own⟩
    ·by_cases hex: ∃k,k<eg.length/\R.id (0+k)=id
     ·obtain⟨k,hk,rfl⟩:=hex;rw [aA];have hx:=aL hk;have:=p1 k _ hx;rw [hg] at this;simp only [ah] at this;subst this;obtain⟨o',U⟩:=s5 k J;obtain⟨d1,d2,d3⟩:=r.live _ _ U;refine⟨by rw [I5]; exact d1,?_,?_⟩
      ·have ho2:=k5 k _ hx
       have ho3:=OR.low (K:=ko) (E:=(mr.mk w (E.gN rn).ro c.dz.length (E.gN rn).θ (E.gN rn).κ).out ys my) (E':={ ρ:=R.env E.ρ,θ:=(E.gN rn).θ,κ:=(E.gN rn).κ,dm:=fun i=>i<c.dz.length,ro:=my })
        (fun i hi=>RA i hi) rfl rfl rfl rfl (mL oa hx).2 ho2
       refine OR.back (Eo:={ ρ:=R.env E.ρ,θ:=(E.gN rn).θ,κ:=(E.gN rn).κ,dm:=fun i=>i<c.dz.length,ro:=my }) (E2:={ E with ro:=my }) (r:=R) (by rw [hRl]; exact v!) (by rw [<- hR]) rfl (fun i hi=>?_) rfl (mL oa hx).1 (show k<c.dz.length by omega) ho3;obtain⟨o2,Z⟩:=s5 i hi;refine⟨by rw [I5]; exact (r.live _ _ Z).1,?_,?_⟩
       ·show E.θ (R.id i)=((E.θ (rn.id i)).1,(E.θ (rn.id i)).2+rn.tX i);rw [I5,TZ,a8]
       ·show E.κ (R.id i)=E.κ (rn.id i)-rn.tX i;rw [I5,TZ,anF]
      ·rw [I5];exact k4 k (by show k<c.dz.length; omega)
     ·rw [p2 id fun k hk he=>hex ⟨k,hk,he⟩] at hg;obtain⟨d1,d2,d3⟩:=r.live id o hg
      have aag:w'.heap[(E.θ id).1]?=w.heap[(E.θ id).1]?:=by refine hb.nF _ (gf r hg) ?_;rintro⟨i,hi,he⟩;obtain⟨o',U⟩:=s5 i hi;have:=r.inj _ id o' o U hg he;exact hex ⟨i,by show i<eg.length; rw [hom]; exact hi,by rw [aA,I5]; exact this⟩
      refine⟨d1,d2.cf tJ d1 aag (r.UZ rfl (fun x hx hn=>hb.nF x hx fun hf=>by obtain⟨id,o,U,Z⟩:=hfp x hf; exact hn id o U Z) _),fun hr=>?_⟩;rcases k2 _ hr with hr|hr
      ·exact d3 hr
      ·have fW:(E.θ id).1<w.heap.size:=gf r hg;have T7:w.heap.size<=(E.θ id).1:=hr;omega
    ·obtain⟨a1,b1⟩:=Oh _ _ U;obtain⟨a2,b2⟩:=Oh _ _ Z;exact r.inj _ _ _ _ b1 b2 he
   refine⟨{ E with ro:=my },tW,r2,?_⟩;obtain⟨us,fl',sh',c1,rfl⟩:=k6
   have hvr:cA { E with ro:=my } w'.heap (pq lC (ow (.ap (2*j+1) (fY rn.ns))) ko) us:=by refine rK sh' c1 fun k n hk=>?_;rw [amm] at hk;exact vF (ys:=ys) T1 hk
   have:=Cm hvr;unfold Av at this;exact this
  ·simp [T.leaf] at q1
 ·simp [T.leaf] at Y
theorem BH (s:St): ∀(gh:List (Nat×Nat)) (ns:List V),(Yw s gh ns).length=ns.length
 |[],_=>rfl
 |_::_,[]=>rfl
 |(t,c)::l,_::ns=>by simp only [Yw,aM,BH s l ns]
theorem Yu {g n:V} {ρ:Nat->Int} {s:St} {k:St->T (W×St)} {r:W×St} (hp:bV ρ s.pc) (h:(Yv g n s k).leaf ρ=some r): ∃pc,bV ρ pc/\(k { s with pc:=pc }).leaf ρ=some r:=by
 unfold Yv at h;obtain⟨fN,fA,U⟩:=cH hp h;split at U
 ·grind
 ·obtain⟨jK,jD,Z⟩:=cH (s:={ s with pc:=fN }) fA U
  grind [T.leaf]
theorem aft {q:V} {ic:Nat} {ns:List V} {g:Option V} {c:CS} {bl:List Nat} {ρ:Nat->Int} {s:St} {k:St->T (W×St)} {r:W×St} (hp:bV ρ s.pc) (h:(ghT q ic ns g c bl s k).leaf ρ=some r): ∃pc,bV ρ pc/\(k { s with pc:=pc }).leaf ρ=some r:=by
 unfold ghT at h;split at h
 ·exact⟨s.pc,hp,h⟩
 ·split at h
  ·exact⟨s.pc,hp,h⟩
  ·split at h
   ·exact⟨s.pc,hp,h⟩
   ·split at h
    ·exact Yu hp h
    ·exact⟨s.pc,hp,h⟩
theorem SK {q:V} {ic:Nat} {ns:List V} {g:Option V} {bl:List Nat} {ρ:Nat->Int} {v:W} {s':St}: ∀{l:List CS} {k:Nat} {s:St},bV ρ s.pc->(h_ q ic ns g bl l k s).leaf ρ=some (v,s')->
 ∃i c ef,l[i-k]?=some c/\k<=i/\(ow q 0).den ρ=(i:Int)/\bV ρ ef/\v=Av ((qZ q ic ns c bl s).Ca (c.bD.map fun p=>p.2))/\s'= { s with h:=⟨(kq (qZ q ic ns c bl s) c.dz 0 s.h).m,s.h.next+(c.dz.length-bl.length),s.h.res⟩,pc:=ef }
 |[],k,s,_,h=>by simp [h_,T.leaf] at h
 |c::l,k,s,hp,h=>by
  simp only [h_] at h;obtain⟨ef,fy,U⟩:=cH hp h;split at U
  ·rename_i hb;rw [gH,beq_iff_eq] at hb;obtain⟨jK,jD,Z⟩:=aft (s:={ s with pc:=ef }) fy U;have:=bC Z;simp only [ak] at this;exact⟨k,c,jK,ad,au _,hb,jD,this.1.symm,this.2.symm⟩
  ·obtain⟨i,c',jK,q1,q2,q3,q4,q5,q6⟩:=SK (s:={ s with pc:=ef }) fy U;refine⟨i,c',jK,?_,J,q3,q4,q5,q6⟩
   grind
def xG:List (Nat×W)->Nat->Bool
 |[],_=>true
 |(t,_)::l,i=>Nat.beq t i&&xG l (i+1)
theorem Bk: ∀{l:List (Nat×W)} {i t:Nat} {tr:Tr W},xG l i=true->t<i->(nu l tr).get t=tr.get t
 |[],_,_,_,_,_=>rfl
 |(j,v)::l,i,t,tr,h,ht=>by simp only [xG,an] at h;have hj:=aq h.1;simp only [nu];rw [Bk h.2 J,Tr.bQ,af J]
theorem yk: ∀{l:List (Nat×W)} {i:Nat} {tr:Tr W},xG l i=true->∀k v,(l.map fun p=>p.2)[k]?=some v->(nu l tr).get (i+k)=some v
 |[],_,_,_,k,v,hk=>by simp at hk
 |(j,x)::l,i,tr,h,k,v,hk=>by
  simp only [xG,an] at h;have hj:=aq h.1;subst hj;simp only [nu]
  cases k with
  |zero=>
   grind [Bk,Tr.bQ]
  |succ k=>
   have:=yk (tr:=tr.put j (some x)) h.2 k v (by simpa using hk)
   grind
theorem cA.of {E:En} {h:Array Obj}: ∀{vs:List W} {us:List Value},us.length=vs.length->(∀(k:Nat) (v:W),vs[k]?=some v->∃u,us[k]?=some u/\VR E h v u)->cA E h vs us
 |[],us,Y,_=>by rw [ia]; exact alR Y
 |v::vs,[],Y,_=>by simp at Y
 |v::vs,u::us,Y,hh=>by
  rw [bT];refine⟨u,us,rfl,?_,cA.of (by simpa using Y) fun k x hk=>?_⟩
  ·obtain⟨y,U,Z⟩:=hh 0 v rfl
   grind
  ·exact hh (k+1) x (by simpa using hk)
def adr (P:Program) (GB:(Nat->Prop)->Array Obj->Prop) (g:FuncId) (c:CS) (oQ:List CS) (f:List Int->Option (List Int)):Prop:=
 ∀xs ys,f xs=some ys->∀(E:En) (w:World) (vals:List Value),(∀i x,xs[i]?=some x->E.ρ i=x)->xs.length=c.k->vu E c.st { tmps:=vals.toArray,defers:=[] } w->GB E.ro w.heap->
  Calls P g vals.toArray w (QR ⟨w,E.ro,c.dz.length,E.θ,E.κ⟩ oQ ys)
def F7:List CS->Bool
 |[]=>true
 |c::l=>vi c.k c&&xG c.bD 0&&Nat.ble c.k 900&&(nfs c.dz&&F7 l)
theorem F6: ∀{l:List CS},F7 l=true->∀{i:Nat} {c:CS},l[i]?=some c->vi c.k c=true/\xG c.bD 0=true/\c.k<=900/\nfs c.dz=true
 |[],_,i,c,h=>by simp at h
 |c0::l,hs,i,c,h=>by
  simp only [F7,an] at hs
  cases i with
  |zero=>simp at h; subst h; exact⟨hs.1.1.1,hs.1.1.2,al3 hs.1.2,hs.2.1⟩
  |succ i=>exact F6 hs.2.2 (by simpa using h)
theorem Lt [bI] {GB:(Nat->Prop)->Array Obj->Prop} (Lz: ∀ρ ro h,bI.ok ρ ro h->GB ro h) {F:n7} (Ly: ∀ρ ro h,bI.ok ρ ro h->Good F ρ) {g:FuncId} {j:Nat} {c:CS} {gh:List (Nat×Nat)} {ic:Nat} {oQ:List CS} (hrp:F7 oQ=true) (akI: ∀xs ys,F j xs=some ys->∀a y,a<ic->ys[a+1]?=some y->y=low xs a)
 (hs:adr P GB g c oQ (F j)) (lY: ∀(args:Array Value) (w:World),(callFunc g args).run P w= .ok (.enter g args) w):j9 P g (Ro j ic c gh oQ):=by
 intro alL s E w vals v s' r hv hp Y;unfold Ro at Y;split at Y
 ·rename_i jl;simp only [an] at jl;obtain⟨⟨_,Oq⟩,I0⟩:=jl;have hlen:=w6 c ⟨cm alL 0 .nil,s.h,s.pc⟩
  have ab9:(v? s gh (c.lr ⟨cm alL 0 .nil,s.h,s.pc⟩)).ns.length=c.k:=by show (Yw s gh _).length=c.k;rw [BH,hlen]
  generalize hr:v? s gh (c.lr ⟨cm alL 0 .nil,s.h,s.pc⟩)=rn at Y Oq ab9 I0
  have f0:Fit E ⟨cm alL 0 .nil,s.h,s.pc⟩ { tmps:=vals.toArray,defers:=[] } w:=by refine⟨r,?_,hp⟩;have:=yP hv 0;simpa using this
  obtain⟨hle,f1,ho⟩:=zm NQ f0 Oq;obtain⟨fN,fA,q1⟩:=cH hp Y;split at q1
  ·rename_i ht;have hg:=Ly _ _ _ r.jG;have hg1:=(hg j (rn.ns.map (V.den E.ρ))).1;have hg2:=(hg j (rn.ns.map (V.den E.ρ))).2;simp only [SB.den,V.den,jk,hg1,beq_iff_eq] at ht
   have BD:(F j (rn.ns.map (V.den E.ρ))).isSome=true:=by
    cases hh:(F j (rn.ns.map (V.den E.ρ))).isSome with
    |true=>rfl
    |false=>rw [hh] at ht; simp at ht
   obtain⟨ys,GU⟩:=ami.1 BD
   have T1:(V.ap (2*j+1) (fY rn.ns)).den E.ρ=mu ys:=by show E.ρ _=_;rw [jk,hg2,GU];rfl
   obtain⟨i,c',jK,a1,_,a3,a4,rfl,rfl⟩:=SK (s:={ s with pc:=fN }) fA q1;rw [anF] at a1;refine⟨rfl,a4,?_⟩;unfold lQ n6;rw [lY]
   have mR: ∀i x,(rn.ns.map (V.den E.ρ))[i]?=some x->(E.gN rn).ρ i=x:=by intro i x hi;rw [bg,aP] at hi;obtain⟨e,he,rfl⟩:=hi;show rn.env E.ρ i=_;unfold Ren.env;rw [dq,he]
   refine Calls.mono (hs _ ys GU (E.gN rn) w vals mR (by simpa using ab9) f1.x (Lz _ _ _ f1.rel.jG)) fun e w' ⟨us,i2,c2,E',he,hb,b1,b2,b3,b4,b5,b6,b7,b8,aaV,b9⟩=> ⟨Tv us,he,?_⟩
   have hi:i2=i:=by have:=vF T1 b2;rw [a3] at this;omega
   subst hi;rw [b1] at a1;simp only [ah] at a1;subst a1;obtain⟨k1,k2,k3,k9⟩:=F6 hrp b1;have sU:=Oq;unfold CS.fits at sU;simp only [an] at sU;obtain⟨⟨⟨⟨⟨_,nh⟩,ae6⟩,_⟩,ae0⟩,_⟩:=sU;have nh:=aq nh
   have TZ: ∀i,rn.tX i=0:=by
    intro i;unfold Ren.tX;split
    ·rename_i x hx;rw [dq] at hx;unfold Gw at I0;rw [aW] at I0;exact aq (I0 x (br hx))
    ·rfl
   have s5: ∀i,i<c.dz.length->∃o,s.h.get (rn.id i)=some o:=by intro i hi;obtain⟨o',g1,_⟩:=iP ae0 (aL hi);rw [aA] at g1;exact⟨o',g1⟩
   have Lx: ∀a b,a<c.dz.length->b<c.dz.length->rn.id a=rn.id b->a=b:=by
    intro a b ha hb he;have hla:a<rn.bl.length:=J
    have hlb:b<rn.bl.length:=J
    unfold Ren.id at he;rw [dq,dq,aL hla,aL hlb] at he;simp only at he;exact oK ae6 (i:=a) (j:=b) (x:=rn.bl[a]) (by rw [dq,aL hla]) (by rw [dq,aL hlb,he])
   have D5: ∀id,E.dm id->id<s.h.next:=by
    intro id hd;rcases aT id s.h.next with h|h
    ·exact h
    ·exact absurd hd (r.fresh id h)
   have G0: ∀i,i<c.dz.length->rn.id i<s.h.next:=by intro i hi;obtain⟨o,U⟩:=s5 i hi;exact D5 _ (r.live _ _ U).1
   have hθr: ∀i,(E.gN rn).θ i=E.θ (rn.id i):=by intro i;show ((E.θ (rn.id i)).1,(E.θ (rn.id i)).2+rn.tX i)=_;rw [TZ,a8]
   have hκr: ∀i,(E.gN rn).κ i=E.κ (rn.id i):=by intro i;show E.κ (rn.id i)-rn.tX i=_;rw [TZ,anF]
   have hm2:c.dz.length<=c2.dz.length:=by
    rcases ams c.dz.length with h|h
    ·omega
    ·have:=(aaV (c.dz.length-1) (by show c.dz.length-1<c.dz.length; omega)).1;omega
   have hfp: ∀b,(mr.mk w (E.gN rn).ro c.dz.length (E.gN rn).θ (E.gN rn).κ).fp b->∃id o,s.h.get id=some o/\(E.θ id).1=b:=by rintro b ⟨i,hi,he⟩;obtain⟨o,U⟩:=s5 i hi;refine⟨_,o,U,?_⟩;have v7:((E.gN rn).θ i).1=b:=he;rw [hθr] at v7;exact v7
   have aab: ∀b,E.ro b->w'.heap[b]?=w.heap[b]?:=by intro b I3;refine hb.nF b (r.rh b I3) fun hf=>?_;obtain⟨id,o,U,Z⟩:=hfp b hf;exact (r.live id o U).2.2 (by rw [Z]; exact I3)
   generalize hR:qZ (.ap (2*j+1) (fY rn.ns)) ic rn.ns c2 rn.bl { s with pc:=fN }=R
   have Fy: ∀i,i<c.dz.length->R.id i=rn.id i:=by
    intro i hi;have hla:i<rn.bl.length:=J
    rw [<- hR];unfold qZ Ren.id;simp only [dq,bg,amU (show i<c2.dz.length by omega),alN,aL hla]
   have Ov: ∀i,i<c2.dz.length->c.dz.length<=i->R.id i=s.h.next+(i-c.dz.length):=by
    intro i hi T7;have hla:rn.bl.length<=i:=J
    rw [<- hR];unfold qZ Ren.id;simp only [dq,bg,amU hi,alN,amD hla];rw [nh]
   have aiS: ∀a b,a<c2.dz.length->b<c2.dz.length->R.id a=R.id b->a=b:=by
    intro a b ha hb he;rcases aT a c.dz.length with U|U<;>rcases aT b c.dz.length with Z|Z
    ·rw [Fy a U,Fy b Z] at he;exact Lx a b U Z he
    ·rw [Fy a U,Ov b hb Z] at he;have:=G0 a U;omega
    ·rw [Ov a ha U,Fy b Z] at he;have:=G0 b Z;omega
    ·rw [Ov a ha U,Ov b hb Z] at he;omega
   have hRl:R.ns.length=c2.k:=by rw [<- hR]; simp [qZ]
   have aiR:R.sh= []:=by rw [<- hR]; rfl
   have RA: ∀a,a<c2.k->R.env E.ρ a=E'.ρ a:=by
    intro a ha;unfold Ren.env
    have hn:eZ R.ns a=some (match Nat.blt a ic with |true=>(match eZ rn.ns a with |some e=>e|none=> .lit 0)|false=>ow (.ap (2*j+1) (fY rn.ns)) (a+1)):=by rw [<- hR,dq];simp [qZ,ha]
    rw [hn];simp only;have hy:ys[a+1]?=some ys[a+1]:=aL J;rw [b4 a _ hy];split
    ·rename_i hb;have fW:a<ic:=Nat.lt_of_succ_le (by simpa [Nat.blt] using hb);rw [akI _ _ GU a _ fW hy];unfold low;rw [am9,bg,dq];cases rn.ns[a]?<;>rfl
    ·exact vF T1 hy
   have akH: ∀id o,c2.st.h.get id=some o->id<c2.dz.length/\c2.dz[id]?=some o:=by
    intro id o ho;have:(og c2.dz 0 .nil).get id=some o:=ho;rw [jr] at this;split at this
    ·exact⟨J,this⟩
    ·simp [Tr.get] at this
   have D3: ∀id o,c2.dz[id]?=some o->c2.st.h.get id=some o:=by intro id o ho;show (og c2.dz 0 .nil).get id=_;have fW:=(aX.1 ho).1;rw [jr,ag J];exact ho
   have aiG: ∀i,E'.dm i->i<c2.dz.length:=by
    intro i hd;rcases aT i c2.dz.length with h|h
    ·exact h
    ·exact absurd hd (b6.fresh i h)
   obtain⟨p1,p2,p3,p4⟩:=xu (r:=R) (os:=c2.dz) (i:=0) (h:=s.h) fun a b _ Z _ h4 he=>aiS a b J J he;generalize hH2:(⟨(kq R c2.dz 0 s.h).m,s.h.next+(c2.dz.length-rn.bl.length),s.h.res⟩ : Hp)=H2;have aiU: ∀id,H2.get id=(kq R c2.dz 0 s.h).get id:=by intro id; rw [<- hH2]; rfl
   have aah:H2.next=s.h.next+(c2.dz.length-c.dz.length):=by rw [<- hH2,nh]
   have aiT:H2.res=s.h.res:=by rw [<- hH2]
   have akt: ∀k o,c2.dz[k]?=some o->H2.get (R.id k)=some (R.ob o):=by intro k o hk;have:=p1 k o hk;rw [aA] at this;rw [aiU]; exact this
   have hold: ∀id,(∀k,k<c2.dz.length->R.id k≠id)->H2.get id=s.h.get id:=by intro id hid;rw [aiU];exact p2 id fun k hk he=>by rw [aA] at he; exact hid k hk he
   have lM: ∀id o,H2.get id=some o->(∃k o',id=R.id k/\c2.dz[k]?=some o'/\o=R.ob o')\/(s.h.get id=some o/\∀k,k<c2.dz.length->R.id k≠id):=by
    intro id o hg;by_cases hex: ∃k,k<c2.dz.length/\R.id k=id
    ·obtain⟨k,hk,rfl⟩:=hex;have hx:=aL hk;have:=akt k _ hx;rw [hg] at this;simp only [ah] at this;exact .inl ⟨k,_,rfl,hx,this⟩
    ·have gp: ∀k,k<c2.dz.length->R.id k≠id:=fun k hk he=>hex ⟨k,hk,he⟩;rw [hold id gp] at hg;exact .inr ⟨hg,gp⟩
   let E2:En:={ ρ:=E.ρ,θ:=fun id=>if id<s.h.next then E.θ id else E'.θ (id-s.h.next+c.dz.length),κ:=fun id=>if id<s.h.next then E.κ id else E'.κ (id-s.h.next+c.dz.length),dm:=fun id=>E.dm id\/(s.h.next<=id/\id<s.h.next+(c2.dz.length-c.dz.length)),ro:=E'.ro,hd:=E.hd };have hθo: ∀id,id<s.h.next->E2.θ id=E.θ id:=fun id h=>by show (if id<s.h.next then _ else _)=_; rw [ag h]
   have hκo: ∀id,id<s.h.next->E2.κ id=E.κ id:=fun id h=>by show (if id<s.h.next then _ else _)=_; rw [ag h]
   have hθn: ∀k,k<c2.dz.length->E2.θ (R.id k)=E'.θ k:=by
    intro k hk;rcases aT k c.dz.length with h|h
    ·rw [Fy k h,hθo _ (G0 k h),<- hθr,(aaV k h).2.2.1]
    ·rw [Ov k hk h];show (if s.h.next+(k-c.dz.length)<s.h.next then _ else _)=_;rw [af J,anE,Nat.sub_add_cancel h]
   have hκn: ∀k,k<c2.dz.length->E2.κ (R.id k)=E'.κ k:=by
    intro k hk;rcases aT k c.dz.length with h|h
    ·rw [Fy k h,hκo _ (G0 k h),<- hκr,(aaV k h).2.2.2]
    ·rw [Ov k hk h];show (if s.h.next+(k-c.dz.length)<s.h.next then _ else _)=_;rw [af J,anE,Nat.sub_add_cancel h]
   have aiI: ∀k,k<c2.dz.length->E2.dm (R.id k):=by
    intro k hk;rcases aT k c.dz.length with h|h
    ·obtain⟨o,U⟩:=s5 k h;rw [Fy k h];exact .inl (r.live _ _ U).1
    ·rw [Ov k hk h];exact .inr ⟨J,J⟩
   have tJ:fC E w.heap E2 w'.heap:=⟨rfl,fun _ h=> .inl h,fun id h=>hθo id (D5 id h),fun id h=>hκo id (D5 id h),b7,aab⟩
   have Yg: ∀i,E'.dm i->E2.dm (R.id i)/\E2.θ (R.id i)=E'.θ i/\E2.κ (R.id i)=E'.κ i:=by intro i hd;have hi:=aiG i hd;exact⟨aiI i hi,hθn i hi,hκn i hi⟩
   unfold vi at k1;simp only [an] at k1;obtain⟨⟨ks,ko⟩,_⟩:=k1
   have tW:eT E s.h w E2 H2 w':=by
    refine⟨rfl,fun _ h=> .inl h,fun id h=>hθo id (D5 id h),fun id h=>hκo id (D5 id h),b7,fun b I3=>(b8 b I3).imp id .inr,by rw [aah]; omega,by rw [aiT]; exact .inr rfl,fun id h=>?_,hb.os,hb.tape,hb.output,hb.size,fun b ae8 hn=>hb.nF b ae8 fun hf=>?_,fun id o hg fW=>?_,rfl⟩
    ·rcases h with h|h
     ·exact .inl h
     ·exact .inr (.inl ⟨h.1,by rw [aah]; exact h.2⟩)
    ·obtain⟨id,o,U,Z⟩:=hfp b hf;exact hn id o U Z
    ·rcases lM id o hg with ⟨k,o',rfl,hk,_⟩|⟨U,_⟩
     ·have Oo:=(aX.1 hk).1;rcases aT k c.dz.length with h|h
      ·obtain⟨o2,Z⟩:=s5 k h;exact⟨_,o2,Z,by rw [Fy k h,hθo _ (G0 k h)]⟩
      ·rw [hθn k Oo] at fW;have hh:w.heap.size<=(E'.θ k).1:=b9 k o' (D3 k o' hk) h;omega
     ·exact⟨id,o,U,(by rw [hθo id (D5 id (r.live _ _ U).1)])⟩
   have r2:bO E2 H2 w':=by
    refine⟨fun id hid=>?_,fun q hq=>?_,fun id o hg=>?_,fun i1 i2 o1 o2 U Z he=>?_,b6.rh,bI.cf r.jG b7 tJ.Bo,r.T4 tW.hd tW.size tW.rF tW.own⟩
    ·rw [aah] at hid;rintro (h|h)
     ·exact r.fresh id J h
     ·omega
    ·rw [aiT] at hq;obtain⟨g1,g2⟩:=r.res q hq;refine⟨by rw [aah]; omega,?_⟩;rintro (h|h)
     ·exact g2 h
     ·omega
    ·rcases lM id o hg with ⟨k,o',rfl,hk,rfl⟩|⟨Z,gp⟩
     ·have Oo:=(aX.1 hk).1;obtain⟨g1,g2,g3⟩:=b6.live k o' (D3 k o' hk);refine⟨aiI k Oo,?_,by rw [hθn k Oo]; exact g3⟩;have ho3:=OR.low (K:=c2.k) (E:=E') (E':={ E' with ρ:=R.env E.ρ }) (fun a ha=>RA a ha) rfl rfl rfl rfl (uI ko hk) g2;exact OR.back (Eo:={ E' with ρ:=R.env E.ρ }) (E2:=E2) (r:=R) (by rw [hRl]; exact k3) aiR rfl (fun i hd=>Yg i hd) rfl (id:=k) (IB k9 hk) g1 ho3
     ·obtain⟨g1,g2,g3⟩:=r.live id o Z;have U:=D5 id g1;refine⟨.inl g1,g2.cf tJ g1 (hb.nF _ (gf r Z) ?_) (r.UZ rfl (fun x hx hn=>hb.nF x hx fun hf=>by obtain⟨id,o,U,Z⟩:=hfp x hf; exact hn id o U Z) _),?_⟩
      ·rintro⟨i,hi,he⟩;obtain⟨o',h3⟩:=s5 i hi;have v7:((E.gN rn).θ i).1=(E.θ id).1:=he;rw [hθr] at v7;have:=r.inj _ id o' o h3 Z v7;have hi':i<c.dz.length:=hi;exact gp i J (by rw [Fy i hi']; exact this)
      ·rw [hθo id U];intro hr;rcases b8 _ hr with hr|hr
       ·exact g3 hr
       ·have fW:(E.θ id).1<w.heap.size:=gf r Z;have T7:w.heap.size<=(E.θ id).1:=hr;omega
    ·have mix: ∀(k:Nat) (o':dM) (id:Nat) (o:dM),c2.dz[k]?=some o'->s.h.get id=some o->(∀k,k<c2.dz.length->R.id k≠id)->(E'.θ k).1=(E.θ id).1->False:=by
      intro k o' id o hk Z gp he;have Oo:=(aX.1 hk).1;rcases aT k c.dz.length with h|h
      ·obtain⟨o3,h3⟩:=s5 k h;have hb3:E'.θ k=(E.gN rn).θ k:=(aaV k h).2.2.1;rw [hb3,hθr] at he;have:=r.inj _ id o3 o h3 Z he;exact gp k Oo (by rw [Fy k h]; exact this)
      ·have h3:=gf r Z;have h4:w.heap.size<=(E'.θ k).1:=b9 k o' (D3 k o' hk) h;omega
     rcases lM i1 o1 U with ⟨m1,y1,rfl,z1,_⟩|⟨x2,x3⟩
     ·have hm1:=(aX.1 z1).1;rcases lM i2 o2 Z with ⟨m2,y2,rfl,z2,_⟩|⟨x4,x5⟩
      ·have hm2:=(aX.1 z2).1;rw [hθn m1 hm1,hθn m2 hm2] at he;have:=b6.inj _ _ _ _ (D3 m1 y1 z1) (D3 m2 y2 z2) he;rw [this]
      ·rw [hθn m1 hm1,hθo _ (D5 _ (r.live _ _ x4).1)] at he;exact (mix m1 y1 i2 o2 z1 x4 x5 he).elim
     ·rcases lM i2 o2 Z with ⟨m2,y2,rfl,z2,_⟩|⟨x4,x5⟩
      ·have hm2:=(aX.1 z2).1;rw [hθn m2 hm2,hθo _ (D5 _ (r.live _ _ x2).1)] at he;exact (mix m2 y2 i1 o1 z2 x2 x3 he.symm).elim
      ·rw [hθo _ (D5 _ (r.live _ _ x2).1),hθo _ (D5 _ (r.live _ _ x4).1)] at he;exact r.inj _ _ _ _ x2 x4 he
   refine⟨E2,tW,r2,?_⟩
   have GV:cA E' w'.heap (c2.bD.map fun p=>p.2) us:=by refine cA.of (by rw [b5]; simp) fun k x hk=>?_;have:=yk (tr:=.nil) k2 k x hk;rw [aA] at this;obtain⟨u,U,Z⟩:=b6.sr k x this;exact⟨u,by simpa using U,Z⟩
   have aiB:l8 c2.k (c2.bD.map fun p=>p.2)=true:=by
    have: ∀{l:List (Nat×W)},ry c2.k l=true->l8 c2.k (l.map fun p=>p.2)=true:=by
     intro l
     induction l with
     |nil=>intro _; rfl
     |cons p l ih=> intro h;simp only [ry,an] at h;simp only [aw,l8,an];exact⟨h.1,ih h.2⟩
    exact this ks
   have akj:=cA.low (K:=c2.k) (E:=E') (E':={ E' with ρ:=R.env E.ρ }) (fun a ha=>RA a ha) rfl rfl rfl rfl _ _ aiB GV;have aki:=cA.back (Eo:={ E' with ρ:=R.env E.ρ }) (E2:=E2) (r:=R) (by rw [hRl]; exact k3) aiR rfl (fun i hd=>Yg i hd) rfl _ _ akj;exact Cm aki
  ·simp [T.leaf] at q1
 ·simp [T.leaf] at Y
end
end Go.As
end
section
namespace Go.As
open Go.RowKit
structure MK where
 ok:(Nat->Prop)->Array Obj->Prop
 cf: ∀{ro my:Nat->Prop} {h h':Array Obj},ok ro h->(∀b,ro b->my b)->(∀b,ro b->h'[b]?=h[b]?)->ok my h'
@[reducible] def MK.jG (G:MK) (F:n7):bI where
 ok ρ ro h:=G.ok ro h/\Good F ρ
 cf U Z h3:=⟨G.cf U.1 Z h3,U.2⟩
 gN U Z:=⟨U.1,U.2.gN Z⟩
structure Ae where
 g:Nat
 Fe:List RK
 lC:List RK
 fe:Ce
 pos:Option (List Nat×CS)
 pat:Option (CS×List dM×Nat):=none
 oQ:List CS:=[]
 gh:List (Nat×Nat):=[]
 wh:List Nat:=[]
 ic:Nat:=0
 tst:List (Nat×Nat):=[]
 fz:List (Nat×Nat×Nat):=[]
 foc:List FH:=[]
def Ae.eg (e:Ae):List dM:=match e.pat with
 |none=>[]
 |some (_,o,_)=>o
def Ae.ko (e:Ae):Nat:=match e.pat with
 |none=>0
 |some (_,_,k)=>k
structure Sys where
 P:Program
 G:MK
 tt:TT
 ft:Nat->Option Func
 qG:Nat->Nat->List Oper->Bool
 draw:ei->Nat->Nat->List Oper->St->T St
 w4:Nat->Option (List W->St->T (W×St))
 lf:Nat
 depth:Nat
 B4:Nat->List Nat
 bK:Nat->Option Ae
noncomputable section
def R_ (c:CS) (args:List W) (s:St):Bool:=match quick (cm args 0 .nil) c.bD with
 |false=>false
 |true=>Nat.beq args.length c.bD.length&&c.fits t_ ⟨cm args 0 .nil,s.h,s.pc⟩ (c.lr ⟨cm args 0 .nil,s.h,s.pc⟩)&&Gw (c.lr ⟨cm args 0 .nil,s.h,s.pc⟩)
def PK (s:St):List Nat->Bool
 |[]=>true
 |t::l=>match Nat.ble 1000 t with
  |true=>match s.bD.get (t-1000) with
   |some _=>PK s l
   |none=>false
  |false=>match s.bD.get t with
   |some _=>false
   |none=>PK s l
def aiV (s:St):List (Nat×Nat)->Bool
 |[]=>true
 |(t,_)::l=>match s.bD.get t with
  |some _=>aiV s l
  |none=>false
def KU (c:CS) (gh:List (Nat×Nat)) (wh:List Nat) (args:List W) (s:St):Bool:=match quick (cm args 0 .nil) c.bD with
 |false=>false
 |true=>PK s wh&&aiV s gh&&Nat.beq args.length c.bD.length&&c.fits t_ ⟨cm args 0 .nil,s.h,s.pc⟩ (v? s gh (c.lr ⟨cm args 0 .nil,s.h,s.pc⟩))&&Gw (v? s gh (c.lr ⟨cm args 0 .nil,s.h,s.pc⟩))
def I9:Nat->List W->Nat->List (Nat×Nat×Nat)
 |_,[],_=>[]
 |i,v::l,f=>match v with
  | .ep _ t=>(i,f,t)::I9 i l (f+1)
  |_=>I9 i l (f+1)
def CH:List (Nat×W)->List (Nat×Nat×Nat)
 |[]=>[]
 |(i,v)::l=>match v with
  | .agg cs=>I9 i cs 0++CH l
  |_=>CH l
def ajz (args:List W) (p:Nat×Nat×Nat):Bool:=match eZ args p.1 with
 |some v=>match v with
  | .agg xs=>match eZ xs p.2.1 with
    |some _=>true
    |none=>false
  |_=>false
 |none=>false
def Oy (s:St):List (Nat×Nat)->Bool
 |[]=>true
 |(t,c)::l=>match s.bD.get t with
  |some v=>match v with
   | .int _ _=>Oy s l
   | .agg cs=>match eZ cs c with
     |some x=>match x with
      | .int _ _=>Oy s l
      |_=>false
     |none=>false
   |_=>false
  |none=>false
def ai3 (c:CS) (gh:List (Nat×Nat)) (wh:List Nat) (args:List W) (s:St):Bool:=match gh with
 |[]=>false
 |_=>PK s wh&&Oy s gh&&match CH c.bD with
  |[]=>false
  |fz=>fz.all (ajz args)
def Sys.BE (S:Sys):List Nat->List W->St->T (W×St)
 |[],_,_=> .fail
 |j::l,args,s=>match S.bK j with
  |none=> .fail
  |some e=>match e.pat with
   |none=>Yc j e.Fe e.lC args s
   |some (c,eg,ko)=>match e.oQ with
    |[]=>match R_ c args s with
     |true=>X9 j c e.lC eg ko args s
     |false=>S.BE l args s
    |r::rs=>match KU c e.gh e.wh args s with
     |true=>Ro j e.ic c e.gh (r::rs) args s
     |false=>match ai3 c e.gh e.wh args s with
      |true=>LJ (CH c.bD) args s fun adp s'=>match KU c e.gh e.wh adp s' with
       |true=>Ro j e.ic c e.gh (r::rs) adp s'
       |false=>S.BE l args s
      |false=>S.BE l args s
def Sys.hook (S:Sys) (g:Nat):Option (List W->St->T (W×St)):=match S.B4 g with
 |[]=>S.w4 g
 |j::l=>some (match S.w4 g with
  |none=>S.BE (j::l)
  |some h=>orElse h (S.BE (j::l)))
def Sys.call (S:Sys):ei:=Jt S.tt S.ft S.hook S.draw S.lf S.depth
def Sys.cfg (S:Sys) (e:Ae) (fn:Func):tC:=⟨S.tt,S.call,S.draw S.call e.g,S.lf,fn.results.toList,e.lC,e.eg,e.ko,e.oQ,e.ic,e.fz,e.foc⟩
def nA (S:Sys) (e:Ae):T Lf:=match S.ft e.g with
 |none=> .fail
 |some fn=>match fn.body with
  |none=> .fail
  |some body=>match e.pos with
   |none=>match e.pat with
    |none=>wL (S.cfg e fn) e.fe 1000 [] body [] ⟨cm (pq e.Fe .dD 0) 0 .nil,Hp.zero,[]⟩
    |some (c,_,_)=>wL (S.cfg e fn) e.fe 1000 [] body [] c.st
   |some (p,c)=>match oG body p with
    |some (b,fr)=>match b with
     | .loop b=>Nf (fun s=>wL (S.cfg e fn) e.fe 1000 (0::p) b (.loop p b::fr) s) e.tst c.st
     |_=> .fail
    |none=> .fail
def Sys.tree (S:Sys) (j:Nat):T Lf:=match S.bK j with
 |none=> .fail
 |some e=>nA S e
end
def I_ (S:Sys) (e:Ae) (body:Code):Prop:= ∀p l,e.fe p=some l->(∃b fr,oG body p=some (.loop b,fr))/\∀j c,(j,c)∈l->S.bK j=some { e with pos:=some (p,c) }/\vi c.k c=true/\c.k<=900/\e.ic<=c.k
structure Fg (S:Sys):Prop where
 tt:eA S.P S.tt
 ft:UJ S.P S.qG S.ft
 draw: ∀(I:bI) call,@iq I S.P call->∀g,@vv I S.P (S.qG g) (S.draw call g)
 w4: ∀(I:bI),(∀ρ ro h,I.ok ρ ro h->S.G.ok ro h)->∀g h,S.w4 g=some h->@j9 I S.P g h
 run: ∀g j,j∈S.B4 g->∀(args:Array Value) (w:World),(callFunc g args).run S.P w= .ok (.enter g args) w
 num: ∀g j e,j∈S.B4 g->S.bK j=some e->e.g=g/\e.pos=none/\(match e.pat with
  |none=>(oE e.Fe).length<=900/\e.oQ= []
  |some (c,eg,_)=>vi c.k c=true/\c.k<=900/\eg.length=c.dz.length/\(e.oQ≠[]->F7 e.oQ=true)/\nfs c.dz=true)
 outs: ∀j e,S.bK j=some e->mM e.ko e.eg=true/\e.ko<=900/\e.ic<=900
 bK: ∀j e,S.bK j=some e->∀fn body,S.ft e.g=some fn->fn.body=some body->I_ S e body
section
variable {S:Sys}
def adt (S:Sys) (n:Nat):Prop:= ∀g j e,j∈S.B4 g->S.bK j=some e->match e.pat with
 |none=>j_ S.P S.G.ok g e.Fe e.lC (eO S.tree n j)
 |some (c,eg,ko)=>match e.oQ with
  |[]=>ads S.P S.G.ok g c e.lC eg ko (eO S.tree n j)
  |r::rs=>adr S.P S.G.ok g c (r::rs) (eO S.tree n j)
def adv (S:Sys) (n:Nat):Prop:= ∀j e p c,S.bK j=some e->e.pos=some (p,c)->vi c.k c=true->c.k<=900->∀fn body b fr,S.ft e.g=some fn->fn.body=some body->oG body p=some (.loop b,fr)->
 ∀(B:mr) (E:En) (a:Act) (w:World) (xs ys:List Int),e.eg.length=B.m->eO S.tree n j xs=some ys->(∀i x,xs[i]?=some x->E.ρ i=x)->xs.length=c.k->ld B E c.st a w->S.G.ok E.ro w.heap->fn.ntmps<=a.tmps.size->a.defers= []->
  Fk S.P b (KE S.P (bodyPost S.P fn (QX B e.lC e.eg e.ko e.oQ ys)) fr) a w
def LfG (ic:Nat) (fe:Ce):Lf->Prop
 | .out es=> ∀a e,a<ic->es[a+1]?=some e->e= .dD a
 | .jump j es=>(∃p l c,fe p=some l/\(j,c)∈l/\es.length=c.k)/\∀a e,a<ic->es[a]?=some e->e= .dD a
theorem Hg: ∀{n i:Nat} {ns:List V} {a:Nat} {e:V},a<n->(BJ n i ns)[a]?=some e->e= .dD (i+a)
 |0,_,_,a,_,h,_=>by omega
 |n+1,i,[],a,e,_,h=>by simp [BJ] at h
 |n+1,i,x::ns,0,e,_,h=>by simp [BJ] at h; rw [<- h]; rfl
 |n+1,i,x::ns,a+1,e,ha,h=>by
  simp only [BJ,aG] at h;rw [Hg (n:=n) J h]
  grind
theorem LP {ic:Nat} {r:Ren} {a:Nat} {e:V} (ha:a<ic) (h:(qW ic r).ns[a]?=some e):e= .dD a:=by
 unfold qW at h;split at h
 ·omega
 ·have:=Hg ha h
  grind
theorem YR {n m ic:Nat} {s:St} {ρ:Nat->Int} {lf:Lf} {fe:Ce} {l:List CS} {k:Nat} (h:(L6 n m ic s l k).leaf ρ=some lf):LfG ic fe lf:=by
 obtain⟨i,c,_,_,_,rfl,_⟩:=CQ h;intro a e ha he
 grind [LP]
theorem sO {m ic:Nat} {s:St} {ρ:Nat->Int} {lf:Lf} {fe:Ce} {p:List Nat} {l0:List (Nat×CS)} (hp:fe p=some l0): ∀{l:List (Nat×CS)},(∀x∈l,x∈l0)->(qQ m ic s l).leaf ρ=some lf->LfG ic fe lf
 |[],_,h=>by simp [qQ,T.leaf] at h
 |(j,c)::l,nN,h=>by
  simp only [qQ] at h;split at h
  ·exact sO hp (fun x hx=>nN x (by simp [hx])) h
  ·split at h
   ·have:=bC h;subst this;exact⟨⟨p,l0,c,hp,nN _ ad,by rw [u7,s7]⟩,fun a e ha he=>LP ha he⟩
   ·exact sO hp (fun x hx=>nN x (by simp [hx])) h
theorem qH {α:Type} {k:St->T α} {ρ:Nat->Int} {x:α}: ∀{ts:List Nat} {s:St},(vn k ts s).leaf ρ=some x->∃s',(k s').leaf ρ=some x
 |[],s,h=> ⟨s,h⟩
 |i::ts,s,h=>by
  simp only [vn] at h;split at h
  ·obtain⟨pc,b,U⟩:=iD h;exact qH U
  ·exact qH h
theorem Ai {α:Type} {k:St->T α} {ρ:Nat->Int} {x:α}: ∀{ts:List (Nat×Nat)} {s:St},(Nf k ts s).leaf ρ=some x->∃s',(k s').leaf ρ=some x
 |[],s,h=> ⟨s,h⟩
 |(t,g)::ts,s,h=>by
  simp only [Nf] at h;split at h
  ·obtain⟨pc,b,U⟩:=iD h;exact Ai U
  ·exact Ai h
theorem Hb {α:Type} {ρ:Nat->Int} {v:W} {s:St} {k:W->St->T α} {x:α} (h:(OA v s k).leaf ρ=some x): ∃v s,(k v s).leaf ρ=some x:=by
 unfold OA at h;split at h
 ·split at h
  ·unfold xx at h;obtain⟨_,b1,h⟩:=iD h
   cases b1 with
   |true=>simp [T.leaf] at h
   |false=>
    obtain⟨_,b2,h⟩:=iD h
    cases b2 with
    |true=>simp [T.leaf] at h
    |false=>
     obtain⟨_,b3,h⟩:=iD h
     cases b3 with
     |true=>simp [T.leaf] at h
     |false=>exact⟨_,_,h⟩
  grind
 grind
theorem Ec {α:Type} {ρ:Nat->Int} {x:α}: ∀{vs:List W} {s:St} {k:List W->St->T α},(Ha vs s k).leaf ρ=some x->∃vs s,(k vs s).leaf ρ=some x
 |[],s,k,h=> ⟨_,_,h⟩
 |v::vs,s,k,h=>by
  simp only [Ha] at h;obtain⟨_,_,h⟩:=Hb h;obtain⟨_,_,h⟩:=Ec h
  grind
theorem DA {α:Type} {ρ:Nat->Int} {x:α} {t:Nat}: ∀{ov:List (V×List W)} {e:V} {s:St} {k:V->St->T α},(Gm t ov e s k).leaf ρ=some x->∃e s,(k e s).leaf ρ=some x
 |[],e,s,k,h=> ⟨_,_,h⟩
 |(j,cs)::ov,e,s,k,h=>by
  simp only [Gm] at h;obtain⟨_,_,h⟩:=DA h
  grind [Ec,T.leaf]
theorem Ub {α:Type} {ρ:Nat->Int} {v:W} {s:St} {k:W->St->T α} {x:α} (h:(Oz v s k).leaf ρ=some x): ∃v s,(k v s).leaf ρ=some x:=by
 grind [Oz,DA,T.leaf,Hb]
theorem G9 {α:Type} {ρ:Nat->Int} {x:α} {k:List W->St->T α}: ∀{fz:List (Nat×Nat×Nat)} {vs:List W} {s:St},(LJ fz vs s k).leaf ρ=some x->∃vs s,(k vs s).leaf ρ=some x
 |[],vs,s,h=> ⟨_,_,h⟩
 |(i,f,t)::l,vs,s,h=>by
  simp only [LJ] at h;split at h
  ·split at h
   ·obtain⟨_,_,h⟩:=Ub h;split at h
    ·exact G9 h
    grind [T.leaf]
   grind [T.leaf]
  grind [T.leaf]
theorem YS {g:tC} {fe:Ce} {e:Ex} {s:St} {ρ:Nat->Int} {lf:Lf} (hr:g.oQ≠[]) (h:(YT g e s).leaf ρ=some lf):LfG g.ic fe lf:=by
 unfold YT at h
 grind [T.leaf,G9,YR]
theorem RD {g:tC} {fe:Ce} {ρ:Nat->Int} (hr:g.oQ≠[]): ∀n:Nat,
 (∀p c fr s lf,(wL g fe n p c fr s).leaf ρ=some lf->LfG g.ic fe lf)/\
 (∀fr e s lf,(s8 g fe n fr e s).leaf ρ=some lf->LfG g.ic fe lf)
 |0=> ⟨fun _ _ _ _ _ h=>by simp [wL,T.leaf] at h,fun _ _ _ _ h=>by simp [s8,T.leaf] at h⟩
 |n+1=>by
  obtain⟨DY,px⟩:=RD hr n
  have aiw:Hk g=false:=by
   cases ho:Hk g with
   |false=>rfl
   |true=>exact absurd (Eg ho).2 hr
  have hfo: ∀(c:Code) (s:St) (k:St->T Lf),Ud g c s k=k s:=fun c s k=>by unfold Ud; rw [aiw]
  have hpo: ∀(s:St) (k:St->T Lf),TF g s k=k s:=fun s k=>by unfold TF; rw [aiw]
  have lfc: ∀(c:Code) fr s lf,((g.ev c s).bind fun (e,s')=>s8 g fe n fr e s').leaf ρ=some lf->LfG g.ic fe lf:=by intro c fr s lf h;obtain⟨⟨e,s'⟩,_,Z⟩:=T.fg h;exact px _ _ _ _ Z
  constructor
  ·intro p c fr s lf h;unfold wL at h;split at h
   ·rename_i l Y;rw [hpo] at h;obtain⟨s',U⟩:=qH h;exact sO Y (fun _ h=>h) U
   ·split at h
    ·grind
    ·grind
    ·grind
    ·split at h
     ·obtain⟨pc,b,U⟩:=iD h
      grind
     grind [T.leaf]
    ·rw [hfo] at h;exact lfc _ _ _ _ h
  ·intro fr e s lf h;unfold s8 at h;split at h
   ·exact YS hr h
   ·grind
   ·grind
   ·split at h
    ·split at h
     ·rename_i l Y;rw [hpo] at h;obtain⟨s',U⟩:=qH h;exact sO Y (fun _ h=>h) U
     grind [T.leaf]
    grind
   grind
theorem BR {e:Ae} {ρ:Nat->Int} {lf:Lf} (hr:e.oQ≠[]) (h:(nA S e).leaf ρ=some lf): ∃fn body,S.ft e.g=some fn/\fn.body=some body/\LfG e.ic e.fe lf:=by
 unfold nA at h;split at h
 ·simp [T.leaf] at h
 ·rename_i fn ue;split at h
  ·simp [T.leaf] at h
  ·rename_i body hb;refine⟨fn,body,ue,hb,?_⟩;have key: ∀n p c fr s,(wL (S.cfg e fn) e.fe n p c fr s).leaf ρ=some lf->LfG e.ic e.fe lf:=fun n p c fr s h=>(RD (g:=S.cfg e fn) hr n).1 _ _ _ _ _ h;split at h
   ·grind
   ·split at h
    ·split at h
     ·obtain⟨s',U⟩:=Ai h
      grind
     ·simp [T.leaf] at h
    ·simp [T.leaf] at h
theorem Ij (hs:Fg S): ∀(n j:Nat) (e:Ae) (xs ys:List Int),S.bK j=some e->e.oQ≠[]->eO S.tree n j xs=some ys->∀a y,a<e.ic->ys[a+1]?=some y->y=low xs a
 |0,_,_,_,_,_,_,h=>by simp [eO] at h
 |n+1,j,e,xs,ys,he,hr,h=>by
  intro a y ha hy;obtain⟨_,_,hg⟩:=hs.outs j e he;have GX:S.tree j=nA S e:=by unfold Sys.tree; rw [he]
  simp only [eO,GX] at h;split at h
  ·grind
  ·rename_i es Y;obtain⟨_,_,_,_,qR⟩:=BR hr Y;simp only [ah] at h;subst h;rw [bg,aP] at hy;obtain⟨x,hx,rfl⟩:=hy;rw [qR a x ha hx];show cU _ _ a=_
   grind [rZ]
  ·rename_i j' es Y;obtain⟨fn,body,ue,hb,⟨p,l,c,hp,hc,hlen⟩,qR⟩:=BR hr Y;obtain⟨_,hh⟩:=hs.bK j e he fn body ue hb p l hp;obtain⟨q1,_,_,q4⟩:=hh j' c hc;have:=Ij hs n j' _ _ ys q1 hr h a y ha hy;rw [this];have U3:a<es.length:=J
   have hx:=aL U3;unfold low;rw [am9,bg,hx];show (es[a]).den _=_;rw [qR a _ ha hx];show cU _ _ a=_
   grind [rZ]
theorem lQ.mono {P:Program} {g:FuncId} {vals:Array Value} {w:World} {R R':Value->World->Prop} (h:lQ P g vals w R) (k: ∀u w',R u w'->R' u w'):lQ P g vals w R':=by
 unfold lQ at h ⊢;unfold n6 at h ⊢;split at h
 ·grind
 ·exact Calls.mono h fun e w' ⟨u,he,hr⟩=> ⟨u,he,k _ _ hr⟩
 grind
theorem aaT (hs:Fg S) {n:Nat} (h:adt S n):@iq (S.G.jG (eO S.tree n)) S.P S.call:=by
 letI I:=S.G.jG (eO S.tree n);have a1: ∀ρ ro h,I.ok ρ ro h->S.G.ok ro h:=fun _ _ _ h=>h.1;have a2: ∀ρ ro h,I.ok ρ ro h->Good (eO S.tree n) ρ:=fun _ _ _ h=>h.2;refine zB hs.tt hs.ft (hook:=S.hook) ?_ (fun call hc g=>hs.draw I call hc g) S.lf S.depth
 have hL: ∀g l,(∀j∈l,j∈S.B4 g)->@j9 I S.P g (S.BE l):=by
  intro g l
  induction l with
  |nil=>
   intro _ alL s E w vals v s' r hv hp Y
   grind [Sys.BE,T.leaf]
  |cons j l ih=>
   intro nN alL s E w vals v s' r hv hp Y;have hj:=nN j ad;simp only [Sys.BE] at Y;split at Y
   ·grind [T.leaf]
   ·rename_i e he;have uO:=h g j e hj he;obtain⟨_,_,D2⟩:=hs.num g j e hj he;obtain⟨ho1,ho2,_⟩:=hs.outs j e he
    cases sV:e.pat with
    |none=> rw [sV] at Y uO;exact @Yb S.P I S.G.ok a1 (eO S.tree n) a2 g j e.Fe e.lC uO (hs.run g j hj) alL s E w vals v s' r hv hp Y
    |some q=>
     obtain⟨c,eg,ko⟩:=q;rw [sV] at Y uO D2;simp only at Y uO D2;unfold Ae.eg Ae.ko at ho1;unfold Ae.ko at ho2;rw [sV] at ho1 ho2
     cases AJ:e.oQ with
     |nil=>
      rw [AJ] at Y uO;simp only at Y uO;split at Y
      ·exact @X8 S.P I S.G.ok a1 (eO S.tree n) a2 g j c e.lC eg ko ho1 ho2 D2.2.2.1 uO (hs.run g j hj) alL s E w vals v s' r hv hp Y
      ·exact ih (fun j hj=>nN j (by simp [hj])) alL s E w vals v s' r hv hp Y
     |cons r0 rs=>
      rw [AJ] at Y uO;simp only at Y uO;have hrp:=D2.2.2.2.1 (by rw [AJ]; simp);rw [AJ] at hrp;split at Y
      ·exact @Lt S.P I S.G.ok a1 (eO S.tree n) a2 g j c e.gh e.ic (r0::rs) hrp (fun xs ys h=>Ij hs n j e xs ys he (by rw [AJ]; simp) h) uO (hs.run g j hj) alL s E w vals v s' r hv hp Y
      ·split at Y
       ·obtain⟨as1,U,fN,E1,fA,f,Rk,Y⟩:=Jc rfl r hp hv Y;split at Y
        ·rw [<- f.ρ] at Y fA;have:=@Lt S.P I S.G.ok a1 (eO S.tree n) a2 g j c e.gh e.ic (r0::rs) hrp (fun xs ys h=>Ij hs n j e xs ys he (by rw [AJ]; simp) h) uO (hs.run g j hj) as1 { s with h:=U,pc:=fN } E1 w vals v s' f.rel Rk fA Y;obtain⟨k1,k2,k3⟩:=this;rw [f.ρ] at k2;exact⟨k1,k2,lQ.mono k3 fun u w' ⟨E2,q1,q2,q3⟩=> ⟨E2,f.dZ.trans q1,q2,q3⟩⟩
        ·exact ih (fun j hj=>nN j (by simp [hj])) alL s E w vals v s' r hv hp Y
       ·exact ih (fun j hj=>nN j (by simp [hj])) alL s E w vals v s' r hv hp Y
 intro g f hf;unfold Sys.hook at hf;split at hf
 ·exact hs.w4 I a1 g f hf
 ·rename_i j l hj;simp only [ah] at hf;subst hf;have Z:=hL g (j::l) (by rw [hj]; exact fun _ h=>h);split
  ·exact Z
  ·rename_i h0 hh;exact vL (hs.w4 I a1 g h0 hh) Z
theorem N7 (hs:Fg S) {n:Nat} (h:adv S n) {j:Nat} {e:Ae} (he:S.bK j=some e) {fn:Func} {body:Code} (ue:S.ft e.g=some fn) (hb:fn.body=some body) (B:mr) (hm:e.eg.length=B.m) (ys:List Int) :
 @q! (S.G.jG (eO S.tree n)) S.P body fn.ntmps B (bodyPost S.P fn (QX B e.lC e.eg e.ko e.oQ ys)) (eO S.tree n) ys e.fe:=by
 intro p l hp;obtain⟨⟨b,fr,Y⟩,hh⟩:=hs.bK j e he fn body ue hb p l hp;refine⟨b,fr,Y,fun j' c hc E a w t hg ⟨xs,U,Z,h3,h4⟩ hN hd=>?_⟩;obtain⟨q1,q2,q3,_⟩:=hh j' c hc;exact h j' { e with pos:=some (p,c) } p c q1 rfl q2 q3 fn body b fr ue hb Y B E a w xs ys hm h4 U Z t hg.1 hN hd
theorem XH {F:n7} {E:En} {xs:List Int} {k:Nat} (h: ∀i x,xs[i]?=some x->E.ρ i=x) (hk:xs.length=k) (h9:k<=900): ∀i,i<k->cU F (low xs) i=E.ρ i:=by
 intro i hi
 grind [rZ,low]
theorem IK {tree:Nat->T Lf} {n j:Nat} {xs ys:List Int} (h:eO tree (n+1) j xs=some ys): ∃lf,(tree j).leaf (cU (eO tree n) (low xs))=some lf/\MJ (eO tree n) (cU (eO tree n) (low xs)) ys lf:=by
 simp only [eO] at h;split at h
 ·grind
 ·rename_i es Y;simp only [ah] at h;exact⟨_,Y,h⟩
 ·rename_i j' es Y;exact⟨_,Y,h⟩
theorem QE.spec {w:World} {ro:Nat->Prop} {θ:Nat->Nat×Nat} {κ:Nat->Nat} {lC:List RK} {ys:List Int} {e:Ending} {w':World} (h:QE ⟨w,ro,0,θ,κ⟩ lC [] 0 ys e w') :
 ∃u,e= .returned u/\Below w.heap.size w w'/\∃my:Nat->Prop,(∀b,ro b->my b)/\(∀b,my b->ro b\/w.heap.size<=b)/\(∀b,my b->b<w'.heap.size)/\aa6 lC ys my w'.heap u:=by
 obtain⟨u,q1,q2,my,q3,q4,q5,_,_,q6⟩:=h;exact⟨u,q1,⟨q2.os,q2.tape,q2.output,q2.size,fun k hk=>q2.nF k hk fun⟨i,hi,_⟩=>absurd hi (by show ¬i<0; omega)⟩,my,q3,q4,q5,q6⟩
theorem Bel.refl {B:mr}:Bel B B.w0:=⟨rfl,rfl,rfl,au _,fun _ _ _=>rfl⟩
theorem vu.grow {E:En} {s:St} {w:World} {vals:List Value} (f:vu E s { tmps:=vals.toArray,defers:=[] } w) (n:Nat):vu E s { tmps:=vals.toArray++Array.replicate n undef,defers:=[] } w:=by
 refine⟨f.fresh,f.res,f.live,f.inj,f.rh,fun t v ht=>?_,f.pc,f.hid⟩;obtain⟨u,U,Z⟩:=f.sr t v ht
 grind
theorem vu.hd0 {E:En} {s:St} {a:Act} {w:World} (f:vu E s a w) (hn: ∀id o,s.h.get id=some o->nf o=true):vu { E with hd:=fun _=>none } s a w:=by
 have k:fC E w.heap { E with hd:=fun _=>none } w.heap:=⟨rfl,fun _ h=>h,fun _ _=>rfl,fun _ _=>rfl,fun _ h=>h,fun _ _=>rfl⟩;refine⟨f.fresh,f.res,fun id o ho=>?_,f.inj,f.rh,fun t v ht=>?_,f.pc,fun b x hb=>by simp at hb⟩
 ·obtain⟨U,Z,h3⟩:=f.live id o ho;exact⟨U,Z.abY k U rfl (hn id o ho),h3⟩
 ·obtain⟨u,U,Z⟩:=f.sr t v ht;exact⟨u,U,VR.cf k _ _ Z⟩
theorem WM (hs:Fg S): ∀n:Nat,adt S n/\adv S n
 |0=> ⟨fun g j e _ _=>by
  cases e.pat with
  |none=>exact fun xs ys h=>by simp [eO] at h
  |some q=>
   obtain⟨c,eg,ko⟩:=q
   cases e.oQ with
   |nil=>exact fun xs ys h=>by simp [eO] at h
   |cons r rs=>exact fun xs ys h=>by simp [eO] at h,fun j e p c _ _ _ _ fn body b fr _ _ _ B E a w xs ys _ h=>by simp [eO] at h⟩
 |n+1=>by
  obtain⟨DY,px⟩:=WM hs n;letI I:=S.G.jG (eO S.tree n);have acd:=aaT hs DY;have b!: ∀(e:Ae) (fn:Func),PE S.P (S.cfg e fn) (S.qG e.g):=fun e fn=> ⟨hs.tt,acd,hs.draw I S.call acd e.g⟩;constructor
  ·intro g j e hn he;obtain⟨hg,lK,D2⟩:=hs.num g j e hn he;obtain⟨oa,v!,_⟩:=hs.outs j e he;have GX:S.tree j=nA S e:=by unfold Sys.tree; rw [he]
   cases sV:e.pat with
   |none=>
    rw [sV] at D2;simp only at D2 ⊢;intro xs ys hx ro w vals fl lq Lz sh hc;obtain⟨lf,U,Z⟩:=IK hx;rw [GX] at U;unfold nA at U
    cases ue:S.ft e.g with
    |none=>rw [ue] at U; simp [T.leaf] at U
    |some fn=>
     rw [ue] at U
     cases hb:fn.body with
     |none=>simp only [hb] at U; simp [T.leaf] at U
     |some body=>
      simp only [hb,lK,sV] at U;obtain⟨hf,_,hd⟩:=hs.ft e.g fn ue;rw [hg] at hf;have mP:=hd body hb;have hlx:=hc.length.1;have GY:e.eg= []:=by unfold Ae.eg; rw [sV]
      have Fx:e.ko=0:=by unfold Ae.ko; rw [sV]
      have hvr:cA (En.zero (cU (eO S.tree n) (low xs)) ro) w.heap (pq e.Fe .dD 0) vals:=by
       refine rK sh hc fun k x hk=>?_;have Oo:=(aX.1 hk).1;rw [aA];show cU _ _ k=x
       grind [rZ,low]
      have oT:I.ok (cU (eO S.tree n) (low xs)) ro w.heap:=⟨Lz,k8 _ _⟩;let B:mr:=⟨w,ro,0,fun _=>(0,0),fun _=>0⟩
      have t0:ld B (En.zero (cU (eO S.tree n) (low xs)) ro) ⟨cm (pq e.Fe .dD 0) 0 .nil,Hp.zero,[]⟩ { tmps:=vals.toArray++Array.replicate (fn.ntmps-vals.toArray.size) undef,defers:=[] } w:=by
       have fit:Fit (En.zero (cU (eO S.tree n) (low xs)) ro) ⟨cm (pq e.Fe .dD 0) 0 .nil,Hp.zero,[]⟩ { tmps:=vals.toArray++Array.replicate (fn.ntmps-vals.toArray.size) undef,defers:=[] } w:=
        ⟨Kk _ ro w lq oT,yP hvr _,by intro c b h; simp at h⟩
       exact⟨fit.x,fun _ h=>h,fun _ h=> .inl h,Bel.refl,fun id o h=>by simp [Hp.zero,Hp.get,Tr.get] at h,fun i hi=>absurd hi (by show ¬i<0; omega),fun b x hb=>by simp [En.zero] at hb⟩
      refine Calls.mono (calls_of_wp (R:=QX B e.lC e.eg e.ko e.oQ ys) hf hb ?_) fun e' w' hq=>QE.spec (w:=w) (ro:=ro) (θ:=fun _=>(0,0)) (κ:=fun _=>0) (by rw [GY,Fx,D2.2] at hq; exact hq);exact (I8 (B:=B) (b! e fn) mP rfl (by show e.eg.length=0; rw [GY]; rfl) oa v! (N7 hs px he ue hb B (by show e.eg.length=0; rw [GY]; rfl) ys) 1000).1 [] body [] _ lf _ _ w rfl U Z t0 oT (by simp; omega) rfl
   |some q=>
    obtain⟨c,eg,ko⟩:=q;rw [sV] at D2;simp only at D2 ⊢;obtain⟨aiK,hc9,hom,hrp,hnf⟩:=D2
    have main: ∀xs ys,eO S.tree (n+1) j xs=some ys->∀(E:En) (w:World) (vals:List Value),(∀i x,xs[i]?=some x->E.ρ i=x)->xs.length=c.k->vu E c.st { tmps:=vals.toArray,defers:=[] } w->S.G.ok E.ro w.heap->
     Calls S.P g vals.toArray w (QX ⟨w,E.ro,c.dz.length,E.θ,E.κ⟩ e.lC eg ko e.oQ ys):=?_
    ·cases AJ:e.oQ with
     |nil=> simp only;intro xs ys hx E w vals mR hlen fx Lz;have:=main xs ys hx E w vals mR hlen fx Lz;rw [AJ] at this;exact this
     |cons r0 rs=> simp only;intro xs ys hx E w vals mR hlen fx Lz;have:=main xs ys hx E w vals mR hlen fx Lz;rw [AJ] at this;exact this
    intro xs ys hx E0 w vals mR hlen fx0 Lz
    have fx:=fx0.hd0 fun id o ho=>by
     have:(og c.dz 0 .nil).get id=some o:=ho;rw [jr] at this;split at this
     ·exact IB hnf this
     ·simp [Tr.get] at this
    have hE: ∃E:En,E= { E0 with hd:=fun _=>none }:=⟨_,rfl⟩;obtain⟨E,hE⟩:=hE;rw [<- hE] at fx;have mR: ∀i x,xs[i]?=some x->E.ρ i=x:=by rw [hE]; exact mR
    have Lz:S.G.ok E.ro w.heap:=by rw [hE]; exact Lz
    have hEd:E.hd=fun _=>none:=by rw [hE]
    suffices Calls S.P g vals.toArray w (QX ⟨w,E.ro,c.dz.length,E.θ,E.κ⟩ e.lC eg ko e.oQ ys) by rw [hE] at this; exact this
    obtain⟨lf,U,Z⟩:=IK hx;rw [GX] at U;unfold nA at U
    cases ue:S.ft e.g with
    |none=>rw [ue] at U; simp [T.leaf] at U
    |some fn=>
     rw [ue] at U
     cases hb:fn.body with
     |none=>simp only [hb] at U; simp [T.leaf] at U
     |some body=>
      simp only [hb,lK,sV] at U;obtain⟨hf,_,hd⟩:=hs.ft e.g fn ue;rw [hg] at hf;have mP:=hd body hb;have GY:e.eg=eg:=by unfold Ae.eg; rw [sV]
      have Fx:e.ko=ko:=by unfold Ae.ko; rw [sV]
      let B:mr:=⟨w,E.ro,c.dz.length,E.θ,E.κ⟩
      have akG: ∀id o,c.st.h.get id=some o->id<c.dz.length:=by
       intro id o ho;have:(og c.dz 0 .nil).get id=some o:=ho
       grind [jr,Tr.get]
      have akA: ∀id,id<c.dz.length->∃o,c.st.h.get id=some o:=by
       intro id hid;refine⟨c.dz[id],?_⟩;show (og c.dz 0 .nil).get id=_
       grind [jr]
      have t1:ld B E c.st { tmps:=vals.toArray++Array.replicate (fn.ntmps-vals.toArray.size) undef,defers:=[] } w:=by refine⟨fx.grow _,fun _ h=>h,fun _ h=> .inl h,Bel.refl,fun id o h=> .inr ⟨id,akG id o h,rfl⟩,fun i hi=>?_,fun b x hb=>by rw [hEd] at hb; simp at hb⟩;obtain⟨o,ho⟩:=akA i hi;exact⟨(fx.live i o ho).1,rfl,rfl⟩
      have t0:=t1.low (ρ':=cU (eO S.tree n) (low xs)) aiK (XH mR hlen hc9);have oT:I.ok (cU (eO S.tree n) (low xs)) E.ro w.heap:=⟨Lz,k8 _ _⟩;have hm:e.eg.length=B.m:=by rw [GY]; exact hom
      have hw:=(I8 (B:=B) (b! e fn) mP rfl hm oa v! (N7 hs px he ue hb B hm ys) 1000).1 [] body [] _ lf { E with ρ:=cU (eO S.tree n) (low xs) } _ w rfl U Z t0 oT (by simp; omega) rfl;have hw':=calls_of_wp (R:=QX B e.lC e.eg e.ko e.oQ ys) hf hb hw
      grind
  ·intro j e p c he lK aky h9 fn body b fr ue hb Y B E a w xs ys hm hx mR hlen t Lz hN CE;obtain⟨oa,v!,_⟩:=hs.outs j e he;obtain⟨lf,U,Z⟩:=IK hx;have GX:S.tree j=nA S e:=by unfold Sys.tree; rw [he]
   rw [GX] at U;unfold nA at U;simp only [ue,hb,lK,Y] at U;obtain⟨hf,_,hd⟩:=hs.ft e.g fn ue;have mP:=hd body hb;have t':=t.low (ρ':=cU (eO S.tree n) (low xs)) aky (XH mR hlen h9);have oT:I.ok (cU (eO S.tree n) (low xs)) E.ro w.heap:=⟨Lz,k8 _ _⟩;refine NY ?_;obtain⟨s2,t2,RB⟩:=HY (E:={ E with ρ:=cU (eO S.tree n) (low xs) }) U t';exact (I8 (B:=B) (b! e fn) mP rfl hm oa v! (N7 hs px he ue hb B hm ys) 1000).1 (0::p) b (.loop p b::fr) s2 lf { E with ρ:=cU (eO S.tree n) (low xs) } a w (by simp only [oG,Y]) RB Z t2 oT hN CE
theorem WL (hs:Fg S) {g j:Nat} {e:Ae} (hn:j∈S.B4 g) (he:S.bK j=some e) (hp:e.pat=none) (n:Nat):j_ S.P S.G.ok g e.Fe e.lC (eO S.tree n j):=by
 have:=(WM hs n).1 g j e hn he
 grind
end
end Go.As
end
section
namespace Go.As
open Go.RowKit
def BK:List (Nat×Nat)->Nat->Option Nat
 |[],_=>none
 |(t,k)::l,x=>match Nat.beq t x with
  |true=>some k
  |false=>BK l x
def Iv (l:List (Nat×Nat)) (tt:TT):TT:=fun t=>match tt t with
 |some i=>some { i with own:=BK l t }
 |none=>none
section
variable {P:Program}
theorem QD {l:List (Nat×Nat)} {tt:TT} (h:eA P tt):eA P (Iv l tt):=by
 intro t i hi;unfold Iv at hi;split at hi
 ·rename_i j hj;simp only [ah] at hi;subst hi;obtain⟨U,Z⟩:=h t j hj;exact⟨U,Z⟩
 grind
theorem N5 (l:List (Nat×Nat)) (tt:TT):kindOf (Iv l tt)=kindOf tt:=by
 funext op;cases op
 case convert t u x=>
  simp only [kindOf,Iv]
  cases ht:tt t with
  |none=>rfl
  |some i=>
   grind
 all_goals rfl
theorem GQ (l:List (Nat×Nat)) (tt:TT) (all:List Oper) (ms:List Nat): ∀(os:List Oper) (i n:Nat),items (Iv l tt) all ms os i n=items tt all ms os i n
 |[],_,_=>rfl
 |o::os,i,n=>by simp only [items,N5,GQ l tt all ms os]
theorem WT (l:List (Nat×Nat)) (tt:TT) (all:List Oper):stat (Iv l tt) all=stat tt all:=by
 unfold stat
 simp only [GQ]
theorem Mn (l:List (Nat×Nat)) (tt:TT) (H:Nat->Nat->Option z7):JU (Iv l tt) H=JU tt H:=by funext g id all;unfold JU;simp only [uS,WT]
end
structure FE where
 no:Nat
 g:Nat
 Fe:List RK
 lC:List RK
 pat:Option (CS×List dM×Nat):=none
 oQ:List CS:=[]
 gh:List (Nat×Nat):=[]
 wh:List Nat:=[]
 ic:Nat:=0
 tst:List (Nat×Nat):=[]
 fz:List (Nat×Nat×Nat):=[]
 foc:List FH:=[]
 loops:List (List Nat×CS):=[]
def idxs (p:List Nat):List (List Nat×CS)->Nat->List (Nat×CS)
 |[],_=>[]
 |(q,c)::l,j=>match gR q p with
  |true=>(j,c)::idxs p l (j+1)
  |false=>idxs p l (j+1)
def FE.fe (f:FE):Ce:=fun p=>match idxs p f.loops (f.no+1) with
 |[]=>none
 |x::l=>some (x::l)
def FE.ent (f:FE):Ae:=⟨f.g,f.Fe,f.lC,f.fe,none,f.pat,f.oQ,f.gh,f.wh,f.ic,f.tst,f.fz,f.foc⟩
def tU (t:Nat->Option FE) (j:Nat):Option Ae:=match t (j / 50) with
 |none=>none
 |some f=>match j % 50 with
  |0=>some f.ent
  |i+1=>match eZ f.loops i with
   |some x=>some { f.ent with pos:=some x }
   |none=>none
def XX:Option (Code×List FrE)->Bool
 |some (c,_)=>match c with
  | .loop _=>true
  |_=>false
 |none=>false
def IG (ic:Nat) (body:Code) (x:List Nat×CS):Bool:=XX (oG body x.1)&&vi x.2.k x.2&&Nat.ble x.2.k 900&&Nat.ble ic x.2.k
def ah3 {α:Type}:List α->Bool
 |[]=>true
 |_=>false
def YH (ft:Nat->Option Func) (k:Nat) (f:FE):Bool:=Nat.beq f.no (50*k)&&Nat.blt f.loops.length 50&&Nat.ble f.ic 900&&
 (match f.pat with
  |none=>Nat.ble (oE f.Fe).length 900&&ah3 f.oQ
  |some (c,eg,ko)=>vi c.k c&&Nat.ble c.k 900&&Nat.beq eg.length c.dz.length&&F7 f.oQ&&mM ko eg&&Nat.ble ko 900&&nfs c.dz)&&
 (match ft f.g with
  |some fn=>match fn.body with
   |some body=>f.loops.all (IG f.ic body)
   |none=>false
  |none=>false)
def K5 (ft:Nat->Option Func) (t:Nat->Option FE) (g:Nat) (l:List Nat):Bool:=
 l.all fun j=>Nat.beq (j % 50) 0&&match t (j / 50) with
  |some f=>Nat.beq f.g g&&(match ft g with
   |some fn=>fn.body.isSome
   |none=>false)
  |none=>false
theorem EE: ∀{a b:List Nat},gR a b=true->a=b
 |[],[],_=>rfl
 |[],_::_,h=>by simp [gR] at h
 |_::_,[],h=>by simp [gR] at h
 |a::x,b::y,h=>by
  simp only [gR] at h;split at h
  ·rename_i U;rw [aq U,EE h]
  grind
theorem yQ {p:List Nat}: ∀{l:List (List Nat×CS)} {n j:Nat} {c:CS},(j,c)∈idxs p l n->∃i,l[i]?=some (p,c)/\j=n+i
 |[],n,j,c,h=>by simp [idxs] at h
 |(q,c0)::l,n,j,c,h=>by
  simp only [idxs] at h;split at h
  ·rename_i hq;rcases ay.1 h with h|h
   ·simp only [ak] at h;obtain⟨rfl,rfl⟩:=h;exact⟨0,by rw [EE hq]; rfl,rfl⟩
   ·obtain⟨i,U,Z⟩:=yQ h;exact⟨i+1,by simpa using U,J⟩
  ·obtain⟨i,U,Z⟩:=yQ h;exact⟨i+1,by simpa using U,J⟩
structure UB where
 P:Program
 G:MK
 tt:TT
 ft:Nat->Option Func
 qG:Nat->Nat->List Oper->Bool
 draw:ei->Nat->Nat->List Oper->St->T St
 w4:Nat->Option (List W->St->T (W×St))
 t:Nat->Option FE
 B4:Nat->List Nat
noncomputable def UB.sys (S:UB):Sys:=⟨S.P,S.G,S.tt,S.ft,S.qG,S.draw,S.w4,40,60,S.B4,tU S.t⟩
theorem EF {t:Nat->Option FE} {j:Nat} {e:Ae} (h:tU t j=some e): ∃f pos,t (j / 50)=some f/\e= { f.ent with pos:=pos }:=by
 unfold tU at h;split at h
 ·grind
 ·rename_i f hf;split at h
  ·simp only [ah] at h;exact⟨f,none,hf,h.symm⟩
  grind
theorem J! {S:UB} (U:eA S.P S.tt) (Z:UJ S.P S.qG S.ft) (h3: ∀(I:bI) call,@iq I S.P call->∀g,@vv I S.P (S.qG g) (S.draw call g)) (h4: ∀(I:bI),(∀ρ ro h,I.ok ρ ro h->S.G.ok ro h)->∀g h,S.w4 g=some h->@j9 I S.P g h)
 (h5: ∀k f,S.t k=some f->YH S.ft k f=true) (h6: ∀g,K5 S.ft S.t g (S.B4 g)=true):Fg S.sys where
 tt:=U
 ft:=Z
 draw:=h3
 w4:=h4
 run:=by
  intro g j hj args w;have hn:=h6 g;unfold K5 at hn;have:=aW.1 hn j hj;simp only [an] at this;obtain⟨_,h⟩:=this;split at h
  ·simp only [an] at h;obtain⟨_,h⟩:=h;split at h
   ·rename_i fn ue;obtain⟨q1,q2,_⟩:=Z g fn ue;obtain⟨c,hb⟩:=ami.1 h;unfold callFunc;simp [UB.sys,q1,hb,by simpa using q2]
   ·simp at h
  ·simp at h
 num:=by
  intro g j e hj he;have hn:=h6 g;unfold K5 at hn;have:=aW.1 hn j hj;simp only [an] at this;obtain⟨hm,h⟩:=this;have hm:=aq hm;have v7:tU S.t j=some e:=he;unfold tU at v7;split at h
  ·rename_i f hf;rw [hf,hm] at v7;simp only [ah] at v7;subst v7;simp only [an] at h;have oI:=h5 _ _ hf;unfold YH at oI;simp only [an] at oI;obtain⟨⟨_,hp⟩,_⟩:=oI;refine⟨aq h.1,rfl,?_⟩
   show (match f.pat with
    |none=>_
    |some (c,eg,_)=>_)
   cases sV:f.pat with
   |none=>
    rw [sV] at hp;simp only [an] at hp;refine⟨al3 hp.1,?_⟩;show f.oQ= []
    cases hr:f.oQ with
    |nil=>rfl
    |cons a l=>rw [hr] at hp; simp [ah3] at hp
   |some q=> obtain⟨c,eg,ko⟩:=q;rw [sV] at hp;simp only [an] at hp;obtain⟨⟨⟨⟨⟨⟨p1,p2⟩,p3⟩,p4⟩,_⟩,_⟩,p7⟩:=hp;exact⟨p1,al3 p2,aq p3,fun _=>p4,p7⟩
  ·simp at h
 outs:=by
  intro j e he;obtain⟨f,pos,hf,rfl⟩:=EF he;have oI:=h5 _ _ hf;unfold YH at oI;simp only [an] at oI;obtain⟨⟨⟨_,hg⟩,hp⟩,_⟩:=oI;refine⟨?_,?_,al3 hg⟩
  ·unfold Ae.eg Ae.ko;show mM (match f.pat with |none=>0|some (_,_,k)=>k) (match f.pat with |none=>[]|some (_,o,_)=>o)=true
   cases sV:f.pat with
   |none=>rfl
   |some q=> obtain⟨c,eg,ko⟩:=q;rw [sV] at hp;simp only [an] at hp;exact hp.1.1.2
  ·unfold Ae.ko;show (match f.pat with |none=>0|some (_,_,k)=>k)<=900
   cases sV:f.pat with
   |none=>exact amh _
   |some q=> obtain⟨c,eg,ko⟩:=q;rw [sV] at hp;simp only [an] at hp;exact al3 hp.1.2
 bK:=by
  intro j e he fn body ue hb;obtain⟨f,pos,hf,rfl⟩:=EF he;have oI:=h5 _ _ hf;unfold YH at oI;simp only [an] at oI;obtain⟨⟨⟨⟨Fw,hlen⟩,_⟩,_⟩,Y⟩:=oI;have Fw:=aq Fw;have hlen:f.loops.length<50:=Nat.lt_of_succ_le (by simpa [Nat.blt] using hlen);have akK:S.ft f.g=some fn:=ue;rw [akK] at Y;simp only [hb] at Y;intro p l hp;have fy:f.fe p=some l:=hp
  have hl0:l=idxs p f.loops (f.no+1)/\l≠[]:=by
   unfold FE.fe at fy;split at fy
   ·simp at fy
   ·rename_i x l' hx;simp only [ah] at fy;rw [hx,fy];exact⟨rfl,by rw [<- fy]; simp⟩
  have jt: ∀i c,f.loops[i]?=some (p,c)->IG f.ic body (p,c)=true:=fun i c hi=>aW.1 Y _ (br hi);constructor
  ·obtain⟨AM,hl2⟩:=hl0
   cases hc:l with
   |nil=>exact absurd hc hl2
   |cons x l'=>
    obtain⟨j',c⟩:=x;have:(j',c)∈idxs p f.loops (f.no+1):=by rw [<- AM,hc]; simp
    obtain⟨i,hi,_⟩:=yQ this;have:=jt i c hi;unfold IG at this;simp only [an] at this;have hi:=this.1.1.1;unfold XX at hi;split at hi
    ·rename_i c' fr heq;split at hi
     ·rename_i b;exact⟨b,fr,heq⟩
     ·simp at hi
    ·simp at hi
  ·intro j' c hc;rw [hl0.1] at hc;obtain⟨i,hi,rfl⟩:=yQ hc;have dS:=(aX.1 hi).1;have:=jt i c hi;unfold IG at this;simp only [an] at this;obtain⟨⟨⟨_,q1⟩,q2⟩,q3⟩:=this;refine⟨?_,q1,al3 q2,al3 q3⟩;show tU S.t (f.no+1+i)=_;have hd:(f.no+1+i) / 50=j / 50:=by rw [Fw]; omega
   have hm:(f.no+1+i) % 50=i+1:=by rw [Fw]; omega
   unfold tU;rw [hd,hf,hm];simp only;rw [dq,hi]
end Go.As
end
section
namespace Go.As
open Go.RowKit
def u8L (l:List Int):List W:=l.map fun n=> .int .u8 (.lit n)
noncomputable section
def a0 (j:Nat) (l:List V):V:=.ap (2*j) (fY l)
def a1 (j:Nat) (l:List V):V:=.ap (2*j+1) (fY l)
def rr (j:Nat) (l:List V) (i:Nat):V:=ow (.ap (2*j+1) (fY l)) i
def nm (x:V):V:=.op .num x (.lit 0)
def mk (x:V):V:=.op .mk x (.lit 0)
def ln (x:V):V:=.op .len x (.lit 0)
def ce (j:Nat) (x:V):V:=.op (.cell j) x (.lit 0)
def el (x y:V):V:=.op .at x y
def cn (x y:V):V:=.op .cons x y
def wr (x:V):V:=.wrap .i64 x
def sp (c:SB) (a b:T Lf):T Lf:=.split c a b
def ou (l:List V):T Lf:=.ret (.out l)
def ju (j:Nat) (l:List V):T Lf:=.ret (.jump j l)
def fl:T Lf:=.fail
end
end Go.As
end

import Derived.Lib.Bytealg
import Derived.Lib.IndexMore
import Derived.Deep.LoopGhost
import Derived.Test.YtlgfoolepdjmoaaGreatDoorAsZT1
set_option linter.unusedSectionVars false
set_option linter.unusedVariables false
set_option linter.unusedSimpArgs false
section
namespace Go.As
section
variable {P:Program}
theorem wB {tt:TT}: ∀{l:List Oper} {i:Nat} {o:Oper},l[i]?=some o->jl tt (l.take (i+1))=jl tt (l.take i)+(match kindOf tt o.op with | .e=>1|_=>0)
 |[],i,o,h=>by simp at h
 |x::xs,0,o,h=>by
  simp at h;subst h;simp only [aA,anC,List.take_zero,jl]
  grind
 |x::xs,i+1,o,h=>by simp only [anC,jl];rw [wB (l:=xs) (by simpa using h)];omega
theorem Mw {tt:TT} {l:List Oper} {i:Nat} (h:l[i]?=none):jl tt (l.take (i+1))=jl tt (l.take i):=by have:=anX.1 h;rw [anN J,anN J]
theorem HU {tt:TT} {l:List Oper} {i:Nat}: ∀{j:Nat},i<=j->jl tt (l.take i)<=jl tt (l.take j)
 |0,h=>by
  grind
 |j+1,h=>by
  by_cases e:i=j+1
  ·grind
  ·have:=HU (tt:=tt) (l:=l) (i:=i) (j:=j) J
   cases ho:l[j]? with
   |none=>rw [Mw ho]; exact this
   |some o=>rw [wB ho]; omega
theorem J0 {tt:TT} {l:List Oper} {i j:Nat} {o:Oper} (ho:l[i]?=some o) (hk:kindOf tt o.op= .e) (h:i<j):jl tt (l.take i)<jl tt (l.take j):=by
 have U:=wB (tt:=tt) ho;rw [hk] at U;have Z:=HU (tt:=tt) (l:=l) (i:=i+1) (j:=j) h
 grind
theorem wA {tt:TT} {l:List Oper} {m:Nat}: ∀{j:Nat},m<jl tt (l.take j)->∃i o,i<j/\l[i]?=some o/\kindOf tt o.op= .e/\jl tt (l.take i)=m
 |0,h=>by simp [jl] at h
 |j+1,h=>by
  cases ho:l[j]? with
  |none=>
   rw [Mw ho] at h;obtain⟨i,o,U,Z⟩:=wA h
   grind
  |some o=>
   rw [wB ho] at h;rcases aW m (jl tt (l.take j)) with h'|h'
   ·obtain⟨i,o,U,Z⟩:=wA h'
    grind
   grind
def Ai (tt:TT) (all:List Oper) (ms:List Nat) (j:Nat) (o:Oper):Item:=⟨j,o,ms.getD j 0,kindOf tt o.op,jl tt (all.take j),reads all o⟩
theorem iE {tt:TT} {all:List Oper} {ms:List Nat} {j:Nat} {o:Oper} (h:all[j]?=some o):(items tt all ms all 0 0)[j]?=some (Ai tt all ms j o):=by rw [jH,h];simp [Ai]
theorem G9 {tt:TT} {all:List Oper} {ms:List Nat} {x:Item} (h:x∈items tt all ms all 0 0): ∃j o,all[j]?=some o/\x=Ai tt all ms j o:=by
 obtain⟨j,hj⟩:=aoh h
 cases ho:all[j]? with
 |none=>rw [jH,ho] at hj; simp at hj
 |some o=>
  rw [iE ho] at hj
  grind
structure adK (tt:TT) (all:List Oper) (ms:List Nat):Prop where
 back: ∀(j:Nat) (o:Oper),all[j]?=some o->∀e∈o.after,Region.binds .any e=true->e.on<j
 mask: ∀(j:Nat) (o:Oper),all[j]?=some o->ms.getD j 0=n6 ms o.after.toList
 rd: ∀(j:Nat) (o:Oper),all[j]?=some o->∀t∈reads all o,∀(i:Nat) (oi:Oper),all[i]?=some oi->oi.dst=some t->(ms.getD j 0).testBit i=true\/(kindOf tt o.op≠.r/\(ms.getD i 0).testBit j=true)
 dst: ∀(i j:Nat) (oi oj:Oper) (d:Nat),all[i]?=some oi->all[j]?=some oj->oi.dst=some d->oj.dst=some d->i=j
 tot: ∀(i j:Nat) (oi oj:Oper),all[i]?=some oi->all[j]?=some oj->kindOf tt oi.op= .e->kindOf tt oj.op= .e->i<j->(ms.getD j 0).testBit i=true
theorem R_ {tt:TT} {all:List Oper} {q:Stat} (h:stat tt all=some q): ∃ms,q.is=items tt all ms all 0 0/\q.nE=jl tt all/\q.rs=((q.is.filter (·.k.isR)).map fun x=>(x,Aw q.is q.nE x))/\adK tt all ms:=by
 unfold stat at h;simp only at h;split at h
 ·rename_i oM;simp at h;subst h;refine⟨qx all [],rfl,mG _ _ _,rfl,?_⟩;have key: ∀(j:Nat) (o:Oper),all[j]?=some o->xy (qx all []) (items tt all (qx all []) all 0 0) (Ai tt all (qx all []) j o)=true:=fun j o ho=>aZ.1 oM _ (amQ (iE ho));have mem: ∀(j:Nat) (o:Oper),all[j]?=some o->Ai tt all (qx all []) j o∈items tt all (qx all []) all 0 0:=fun j o ho=>amQ (iE ho);refine⟨?_,?_,?_,?_,?_⟩
  ·intro j o ho e he hb;have:=key j o ho;simp only [xy,an,aZ] at this;have:=this.1.1.1.1 e (by simpa [Ai] using he);simpa [hb,Ai] using this
  ·intro j o ho;have:=key j o ho;simp only [xy,an] at this;have:=this.1.1.1.2;simpa [Ai] using this
  ·intro j o ho t ht i oi hoi hd;have:=key j o ho;simp only [xy,an,aZ] at this;have:=this.1.1.2 t ht _ (mem i oi hoi);simp only [Ai,hd,ne_eq,not_true_eq_false,decide_false,an0,anz,an,ana] at this;rcases this with h|⟨U,Z⟩
   ·grind
   ·refine .inr ⟨fun hk=>?_,Z⟩;rw [hk] at U;simp [Kind.isR] at U
  ·intro i j oi oj d hi hj hdi hdj;have:=key i oi hi;simp only [xy,an,aZ] at this;have:=this.1.2 _ (mem j oj hj);simp [Ai,hdi,hdj] at this
   grind
  ·intro i j oi oj hi hj YB hkj ff;have:=key j oj hj;simp only [xy,an,aZ] at this;have:=this.2;simp only [Ai,hkj,Kind.isE,anZ,an0,aZ] at this;have:=this _ (mem i oi hi);simpa [Ai,YB,Kind.isE,ff] using this
 grind
theorem DH [bH] {tt:TT} (cI:eC P tt) {call:eu} (hc:im P call) {ops:Array Oper} {base:Nat} {pc:List (SB×Bool)} {ρ:Nat->Int} (hp:bV ρ pc) {x:Item} (hk:kindOf tt x.o.op= .r) {v:W} {S:Tr W} {hZ:List (Nat×dN)} {lT:List (Hp×Nat)}: ∀(ks:List Nat),(CB tt call ops.toList base pc x v S hZ lT ks).leaf ρ=some ()->
 ∀k∈ks,∃h mm,lT[k]?=some (h,mm)/\FG P ρ ops x.o S (fF base x.m mm hZ h) v (fF base x.m mm hZ h)
 |[],_=>by simp
 |k::ks,h=>by
  simp only [CB] at h;split at h
  ·rename_i h0 mm hn;obtain⟨⟨u,s'⟩,U,Z⟩:=T.fh h;simp only at Z;split at Z
   ·rename_i hs;have ha:=JL cI hc (s:=⟨S,fF base x.m mm hZ h0,pc⟩) hp U;have hr:=aj2 hk U;rw [hr,jE _ _ hs] at ha;intro k' Ov;rcases ax.1 Ov with rfl|Ov
    ·exact⟨h0,mm,by rw [<- de]; exact hn,ha⟩
    ·exact DH cI hc hp hk ks Z k' Ov
   ·simp [T.leaf] at Z
  ·simp [T.leaf] at h
theorem Gz [bH] {tt:TT} (cI:eC P tt) {call:eu} (hc:im P call) {ops:Array Oper} {base:Nat} {ρ:Nat->Int} {d:PI} {lT:List (Hp×Nat)} {vs:List W}: ∀(rs:List (Item×List Nat)) {pc ec:List (SB×Bool)},bV ρ pc->(∀r∈rs,kindOf tt r.1.o.op= .r)->(IA tt call ops.toList base d lT vs rs pc).leaf ρ=some ec->
 bV ρ ec/\∀r∈rs,∃v,vs[r.1.i]?=some v/\∀k∈r.2,∃h mm,lT[k]?=some (h,mm)/\FG P ρ ops r.1.o (only d.bF r.1.rd) (fF base r.1.m mm d.hZ h) v (fF base r.1.m mm d.hZ h)
 |[],pc,ec,hp,_,h=>by
  have:=bD h
  grind
 |(x,ks)::rs,pc,ec,hp,hk,h=>by
  simp only [IA] at h;split at h
  ·rename_i v hv;obtain⟨⟨⟩,fI,U,fu,Z⟩:=T.lO hp h;obtain⟨jy,ih⟩:=Gz cI hc rs fu (fun r hr=>hk r (by simp [hr])) Z;refine⟨jy,fun r hr=>?_⟩;rcases ax.1 hr with rfl|hr
   ·exact⟨v,by rw [<- de]; exact hv,DH cI hc hp (hk _ ad) ks U⟩
   grind
  ·simp [T.leaf] at h
end
section
variable {P:Program}
theorem V! {α:Type} {l pre:List α} {a b:α} {l0:List α} (h:l=pre++a::b::l0):l.reverse[l0.length]?=some b/\l.reverse[l0.length+1]?=some a:=by
 grind
theorem Tn {n b:Nat} (h:((1 <<<n)-1).testBit b=true):b<n:=by
 rw [Nat.shiftLeft_eq,ann,Nat.testBit_two_pow_sub_one] at h
 grind
theorem X' [bH] {tt:TT} {ops:Array Oper} {ms:List Nat} {ρ:Nat->Int} {pd:Tr W} {H0:Hp} {base N:Nat} {d:PI} (sf:adK tt ops.toList ms) (hb:base=H0.next) (hN:base+ops.size<=N)
 (rf:akK P ρ ops base N (items tt ops.toList ms ops.toList 0 0) ⟨pd,[(⟨H0.m,base+ops.size,none⟩,0)],[],[],[]⟩ d)
 (Oq: ∀r∈((items tt ops.toList ms ops.toList 0 0).filter (·.k.isR)).map fun x=>(x,Aw (items tt ops.toList ms ops.toList 0 0) (jl tt ops.toList) x),∃v,d.vs.reverse[r.1.i]?=some v/\∀k∈r.2,∃h mm,d.lT.reverse[k]?=some (h,mm)/\FG P ρ ops r.1.o (only d.bF r.1.rd) (fF base r.1.m mm d.hZ h) v (fF base r.1.m mm d.hZ h))
 (hun:Ib base d.hZ d.lT=true) :
 ∃p:Fz P ρ ops pd H0,p.base=base/\p.nE=jl tt ops.toList/\(∀i,p.val i=(d.vs.reverse[i]?).getD .sL)/\(∀k h mm,d.lT.reverse[k]?=some (h,mm)->p.hp k=h/\∀a,p.un k a=!mm.testBit a)/\(∀i,p.jX i=(d.BE.reverse[i]?).getD none)/\
  (∀(m:Nat),m<p.nE->∃(j:Nat) (o:Oper),ops[j]?=some o/\p.kd j= .e/\p.st j=m):=by
 have gT: ∀(j:Nat),ops.toList[j]?=ops[j]?:=fun j=>bw;have ff: ∀{j:Nat} {o:Oper},ops[j]?=some o->j<ops.size:=fun h=>(amZ.1 h).1;have hci:jM (items tt ops.toList ms ops.toList 0 0)=jl tt ops.toList:=mG _ _ _;have Hi:jl tt ops.toList=jl tt (ops.toList.take ops.size):=by rw [anN ad]
 obtain⟨ps,s1,s2⟩:=rf.lT;rw [hci] at s2;have amE:d.lT.length=jl tt ops.toList+1:=by rw [s1,aT,s2]; rfl
 have alp:d.lT.reverse[0]?=some (⟨H0.m,base+ops.size,none⟩,0):=by rw [s1]; simp
 have ajm: ∀k,k<=jl tt ops.toList->∃h mm,d.lT.reverse[k]?=some (h,mm):=by
  intro k hk;have:k<d.lT.reverse.length:=by rw [aoD]; omega
  exact⟨d.lT.reverse[k].1,d.lT.reverse[k].2,aO this⟩
 have hnx:=rf.nxt (by
  intro q hq;simp only [ax,amY,or_false] at hq;subst hq
  exact⟨hN,rfl⟩)
 have afu: ∀(k:Nat) (h:Hp) (mm:Nat),d.lT.reverse[k]?=some (h,mm)->h.next<=N/\h.res=none:=by intro k h mm hh;exact hnx (h,mm) (by have:=amQ hh; simpa using this)
 let hpf:Nat->Hp:=fun k=>((d.lT.reverse[k]?).map (·.1)).getD ⟨.nil,0,none⟩
 let unf:Nat->Nat->Bool:=fun k a=>match d.lT.reverse[k]? with |some q=>!q.2.testBit a|none=>false
 let bff:Nat->Nat->Bool:=fun i j=>match ops[j]? with |some _=>(ms.getD j 0).testBit i|none=>false
 let kdf:Nat->Kind:=fun i=>match ops[i]? with |some o=>kindOf tt o.op|none=> .pa
 let J4:Nat->Option dN:=fun i=>(d.BE.reverse[i]?).getD none
 have hpe: ∀k h mm,d.lT.reverse[k]?=some (h,mm)->hpf k=h/\∀a,unf k a=!mm.testBit a:=by intro k h mm hh;refine⟨by simp only [hpf,hh]; rfl,fun a=>by simp only [unf,hh]⟩
 have p?: ∀{i j:Nat} {o:Oper},ops[j]?=some o->bff i j=(ms.getD j 0).testBit i:=by intro i j o ho;simp only [bff,ho]
 have X7: ∀{j:Nat} {o:Oper},ops[j]?=some o->kdf j=kindOf tt o.op:=by intro j o ho;simp only [kdf,ho]
 have kdE: ∀{j:Nat},kdf j= .e->∃o,ops[j]?=some o/\kindOf tt o.op= .e:=by
  intro j hj
  cases ho:ops[j]? with
  |none=>simp only [kdf,ho] at hj; simp at hj
  |some o=>exact⟨o,rfl,by rw [<- X7 ho]; exact hj⟩
 have YJ: ∀(k:Nat),∀(o':Oper),ops[k]?=some o'->∀b,(ms.getD k 0).testBit b=true->b<k:=by
  intro k
  induction k using Nat.strongRecOn with
  |_ k ih=>
   intro o' yf b Ci;rw [sf.mask k o' (by rw [gT]; exact yf)] at Ci;obtain⟨e,e1,e2,e3⟩:=oN Ci;have e1':e∈o'.after:=by simpa using e1
   have afx:=sf.back k o' (by rw [gT]; exact yf) e e1' e2;rcases e3 with rfl|e3
   ·exact afx
   ·have:=ff yf;have:=ih e.on afx (ops[e.on]'J) ad b e3;omega
 have alS: ∀(i:Nat),∃S:Tr W,∀(o:Oper),ops[i]?=some o->∃dp UF v ob pre,dp.bF=S/\Fx P ρ ops base N (Ai tt ops.toList ms i o) dp v ob UF/\d.vs.reverse[i]?=some v/\d.BE.reverse[i]?=some ob/\d.lT=pre++UF.lT/\dp.lT.length=1+jl tt (ops.toList.take i)/\
  (∀q,q∈dp.hZ->q∈d.hZ)/\(∀t x,S.get t=some x->(∃p oj,p<i/\ops[p]?=some oj/\oj.dst=some t/\d.vs.reverse[p]?=some x)\/(pd.get t=some x/\∀(p:Nat) (oj:Oper),p<i->ops[p]?=some oj->oj.dst≠some t)):=by
  intro i
  cases hoi:ops[i]? with
  |none=>exact⟨.nil,fun o h=>by simp at h⟩
  |some o0=>
   have hx:(items tt ops.toList ms ops.toList 0 0)[i]?=some (Ai tt ops.toList ms i o0):=iE (by rw [gT]; exact hoi);obtain⟨dp,UF,v,ob,pre,g1,g2,g3,g4,g5,g6,g7,g8⟩:=rf.at_ i _ hx;refine⟨dp.bF,fun o ho=>?_⟩;simp only [ah] at ho;subst ho;refine⟨dp,UF,v,ob,pre,rfl,g1,by simpa using g2,by simpa using g3,g4,?_,g6,?_⟩
   ·rw [g5];congr 1
    have:(items tt ops.toList ms ops.toList 0 0).take i=items tt ops.toList ms (ops.toList.take i) 0 0:=by
     apply anV;intro j;rw [anq,jH,jH,anq];split
     ·rename_i hj;rw [List.take_take,aoE J]
     ·rfl
    rw [this,mG]
   ·intro t x ht;rcases g8 t x ht with ⟨p,y,q1,q2,q3,q4⟩|⟨q1,q2⟩
    ·cases oU:ops.toList[p]? with
     |none=>rw [jH,oU] at q2; simp at q2
     |some oj=> rw [iE oU] at q2;simp at q2;subst q2;exact .inl ⟨p,oj,q1,by rw [<- gT]; exact oU,q3,by simpa using q4⟩
    ·refine .inr ⟨q1,fun p oj hp oU=>?_⟩
     have hm:Ai tt ops.toList ms p oj∈(items tt ops.toList ms ops.toList 0 0).take i:=by refine amQ (i:=p) ?_;rw [anq,ag hp];exact iE (by rw [gT]; exact oU)
     exact q2 _ hm
 obtain⟨Sd,mQ⟩:=Classical.skolem.1 alS
 let Sf:Nat->Tr W:=fun i=>match ops[i]? with
  |some o=>(match kindOf tt o.op with
   | .r=>only d.bF (reads ops.toList o)
   |_=>only (Sd i) (reads ops.toList o))
  |none=> .nil
 have SfR: ∀{i:Nat} {o:Oper},ops[i]?=some o->kindOf tt o.op= .r->Sf i=only d.bF (reads ops.toList o):=by intro i o ho hk;simp only [Sf,ho,hk]
 have SfN: ∀{i:Nat} {o:Oper},ops[i]?=some o->kindOf tt o.op≠.r->Sf i=only (Sd i) (reads ops.toList o):=by
  intro i o ho hk;have:Sf i=(match kindOf tt o.op with | .r=>only d.bF (reads ops.toList o)|_=>only (Sd i) (reads ops.toList o)):=by simp only [Sf,ho]
  rw [this]
  cases hh:kindOf tt o.op with
  |r=>exact absurd hh hk
  |pa=>rfl
  |e=>rfl
 have LL: ∀a b,(a,b)∈d.hZ->J4 a=some b:=by
  intro a b M1;rcases rf.jX a b M1 with h|⟨p,x,g1,g2,g3⟩
  ·simp at h
  ·cases ho:ops.toList[p]? with
   |none=>rw [jH,ho] at g1; simp at g1
   |some o=> rw [iE ho] at g1;simp at g1;subst g1;have:p=a:=g2;subst this;simp only [bg,aA] at g3;simp only [J4,g3,aC]
 have ajK: ∀a b,J4 a=some b->(a,b)∈d.hZ:=by
  intro a b M1
  have I9:d.BE.reverse[a]?=some (some b):=by
   simp only [J4] at M1
   cases hh:d.BE.reverse[a]? with
   |none=>rw [hh] at M1; simp at M1
   |some x=>rw [hh] at M1; simp at M1; rw [M1]
  obtain⟨po,o1,o2⟩:=rf.BE
  have U9:a<ops.size:=by have U:=(aX.1 I9).1;rw [aoD,o1,anc,o2,sP] at U;simpa using U
  have hx:(items tt ops.toList ms ops.toList 0 0)[a]?=some (Ai tt ops.toList ms a ops[a]):=iE (by rw [gT]; simp [U9]);exact rf.amc a _ b hx (by simpa using I9)
 refine⟨{
  base:=base,bf:=bff,kd:=kdf,S:=Sf,val:=fun i=>(d.vs.reverse[i]?).getD .sL,st:=fun i=>jl tt (ops.toList.take i),nE:=jl tt ops.toList,hp:=hpf,un:=unf,jX:=J4,
  gen:=?_,back:=?_,dst:=?_,bF:=?_,stl:=?_,inj:=?_,aii:=?_,pa:=?_,ev:=?_,rd:=?_,unm:=?_,nob:=?_,first:=?_ },rfl,rfl,fun i=>rfl,hpe,fun i=>rfl,?_⟩
 ·intro i j h
  cases ho:ops[j]? with
  |none=>simp only [bff,ho] at h; simp at h
  |some o=>
   rw [p? ho,sf.mask j o (by rw [gT]; exact ho)] at h;obtain⟨e,e1,e2,e3⟩:=oN h;have e1':e∈o.after:=by simpa using e1
   refine⟨o,e,rfl,e1',e2,e3.imp id fun h3=>?_⟩;have Y:=sf.back j o (by rw [gT]; exact ho) e e1' e2;have hj:=ff ho;rw [p? (o:=ops[e.on]'J) ad];exact h3
 ·intro j o ho e he Ci;exact sf.back j o (by rw [gT]; exact ho) e he Ci
 ·intro i j oi oj dd hi hj U Z;exact sf.dst i j oi oj dd (by rw [gT]; exact hi) (by rw [gT]; exact hj) U Z
 ·intro i o ho t x ht
  cases hk:kindOf tt o.op with
  |r=>
   rw [SfR ho hk] at ht;obtain⟨U,Z⟩:=yQ ht;rcases rf.slot t x Z with ⟨p,y,g1,g2,g3⟩|⟨g1,g2⟩
   ·cases oU:ops.toList[p]? with
    |none=>rw [jH,oU] at g1; simp at g1
    |some oj=>
     rw [iE oU] at g1;simp at g1;subst g1;have hp:ops[p]?=some oj:=by rw [<- gT]; exact oU
     refine .inl ⟨p,oj,?_,hp,g2,?_⟩
     ·rw [p? ho];rcases sf.rd i o (by rw [gT]; exact ho) t U p oj oU g2 with h|⟨h,_⟩
      ·exact h
      ·exact absurd hk h
     ·simp only [bg,aA] at g3;simp only [g3,aC]
   ·refine .inr ⟨g1,fun j oj oU hd=>?_⟩;exact absurd hd (g2 _ (amQ (iE (by rw [gT]; exact oU))))
  |_=>
   rw [SfN ho (by rw [hk]; simp)] at ht;obtain⟨U,Z⟩:=yQ ht;obtain⟨dp,UF,v,ob,pre,_,_,_,_,_,_,_,g8⟩:=mQ i o ho;rcases g8 t x Z with ⟨p,oj,q1,q2,q3,q4⟩|⟨q1,q2⟩
   ·refine .inl ⟨p,oj,?_,q2,q3,by rw [q4]; rfl⟩;rw [p? ho];rcases sf.rd i o (by rw [gT]; exact ho) t U p oj (by rw [gT]; exact q2) q3 with h|⟨_,h⟩
    ·exact h
    ·have:=YJ p oj q2 i h;omega
   ·refine .inr ⟨q1,fun j oj oU hd=>?_⟩;rw [p? oU];rcases sf.rd i o (by rw [gT]; exact ho) t U j oj (by rw [gT]; exact oU) hd with h|⟨_,h⟩
    ·exact absurd hd (q2 j oj (YJ i o ho j h) oU)
    ·exact h
 ·intro j o ho hk;rw [X7 ho] at hk;rw [Hi];exact J0 (by rw [gT]; exact ho) hk (ff ho)
 ·intro i j hi hj he;obtain⟨oi,hoi,YB⟩:=kdE hi;obtain⟨oj,oU,hkj⟩:=kdE hj;rcases aoA i j with h|h|h
  ·have:=J0 (tt:=tt) (l:=ops.toList) (by rw [gT]; exact hoi) YB h;omega
  ·exact h
  ·have:=J0 (tt:=tt) (l:=ops.toList) (by rw [gT]; exact oU) hkj h;omega
 ·intro j o ho hk m hm;obtain⟨i,oi,U,Z,h3,h4⟩:=wA hm;rw [X7 ho] at hk;have h2':ops[i]?=some oi:=by rw [<- gT]; exact Z
  refine⟨i,by rw [X7 h2']; exact h3,h4,?_⟩;rw [p? ho];exact sf.tot i j oi o Z (by rw [gT]; exact ho) h3 hk U
 ·intro i o ho hk;rw [X7 ho] at hk;obtain⟨dp,UF,v,ob,pre,hdp,hF,g2,g3,g4,g5,g6,g7⟩:=mQ i o ho;obtain⟨h0,mm,rest,hs,hF⟩:=hF;simp only [Ai,hk] at hF;obtain⟨_,HA,f1,f2,f3⟩:=hF;rw [hdp] at f1;refine⟨HA,N,?_,f2,?_,?_⟩
  ·rw [SfN ho (by rw [hk]; simp)];simp only [g2,aC];exact f1
  ·simp only [J4,g3,aC];exact f3
  ·intro k CP;obtain⟨Z,mm2,hh⟩:=ajm k CP;rw [(hpe _ _ _ hh).1];exact (afu _ _ _ hh).1
 ·intro j o ho hk;rw [X7 ho] at hk;obtain⟨dp,UF,v,ob,pre,hdp,hF,g2,g3,g4,g5,g6,g7⟩:=mQ j o ho;obtain⟨h0,mm,rest,hs,hF⟩:=hF;simp only [Ai,hk] at hF;obtain⟨_,hn,f1,f2,f3,f4⟩:=hF;rw [hdp] at f4;rw [f1,hs] at g4;have hrl:rest.length=jl tt (ops.toList.take j):=by rw [hs] at g5; simp at g5; omega
  obtain⟨r1,r2⟩:=V! g4;rw [hrl] at r1 r2;obtain⟨p1,p2⟩:=hpe _ _ _ r1;obtain⟨p3,p4⟩:=hpe _ _ _ r2;refine⟨fF base (ms.getD j 0) mm dp.hZ h0,?_,?_,?_,?_,?_⟩
  ·rw [SfN ho (by rw [hk]; simp)];simp only [g2,aC,p3];exact f4
  ·rw [(jm _ _).1,p1]
  ·rw [(jm _ _).2];exact (afu _ _ _ r1).2
  ·intro id x hx;rcases n9 hx with h|⟨a,a1,a2,a3,a4⟩
   ·left; rw [p1]; exact h
   ·right;exact⟨a,by rw [p? ho]; exact a2,by rw [p2,a3]; rfl,a4,LL a x (g6 _ a1)⟩
  ·intro a ha;rw [p4] at ha;simp only [Nat.testBit_or,Bool.not_or,an,ana] at ha;refine⟨by rw [p2,ha.1]; rfl,?_⟩;rw [p? ho];exact ha.2
 ·intro i o ho hk k hkn U Z;rw [X7 ho] at hk;have qZ:Ai tt ops.toList ms i o∈items tt ops.toList ms ops.toList 0 0:=amQ (iE (by rw [gT]; exact ho))
  obtain⟨v,g1,g2⟩:=Oq (Ai tt ops.toList ms i o,Aw (items tt ops.toList ms ops.toList 0 0) (jl tt ops.toList) (Ai tt ops.toList ms i o)) (by
   rw [aH]
   exact⟨_,am1.2 ⟨qZ,by simp [Ai,hk,Kind.isR]⟩,rfl⟩)
  have LF:k∈Aw (items tt ops.toList ms ops.toList 0 0) (jl tt ops.toList) (Ai tt ops.toList ms i o):=by
   unfold Aw;rw [am1,am2];refine⟨J,aZ.2 fun y hy=>?_⟩;obtain⟨j,oj,oU,rfl⟩:=G9 hy;have aaw:ops[j]?=some oj:=by rw [<- gT]; exact oU
   cases hkj:kindOf tt oj.op with
   |pa=>simp [Ai,hkj,Kind.isE]
   |r=>simp [Ai,hkj,Kind.isE]
   |e=>
    simp only [Ai,hkj,Kind.isE,anZ,an0,an,anz,ana,decide_eq_true_eq];constructor
    ·cases afE:(ms.getD i 0).testBit j with
     |false=>exact .inl rfl
     |true=>exact .inr (U j (by rw [X7 aaw]; exact hkj) (by rw [p? ho]; exact afE))
    ·cases afE:(ms.getD j 0).testBit i with
     |false=>exact .inl rfl
     |true=>exact .inr (Z j oj aaw (by rw [X7 aaw]; exact hkj) (by rw [p? aaw]; exact afE))
  obtain⟨h0,mm,g3,g4⟩:=g2 k LF;obtain⟨p1,p2⟩:=hpe _ _ _ g3;refine⟨fF base (ms.getD i 0) mm d.hZ h0,?_,?_,?_,?_⟩
  ·have g1':d.vs.reverse[i]?=some v:=g1;rw [SfR ho hk];simp only [g1',aC];exact g4
  ·rw [(jm _ _).1,p1]
  ·rw [(jm _ _).2];exact (afu _ _ _ g3).2
  ·intro id x hx;rcases n9 hx with h|⟨a,a1,a2,a3,a4⟩
   ·left; rw [p1]; exact h
   ·right;exact⟨a,by rw [p? ho]; exact a2,by rw [p2,a3]; rfl,a4,LL a x a1⟩
 ·intro k a x hk hx hu;obtain⟨h0,mm,hh⟩:=ajm k hk;obtain⟨p1,p2⟩:=hpe _ _ _ hh;rw [p1];rw [p2] at hu;unfold Ib at hun;have:=aZ.1 hun _ (ajK a x hx)
  have:=aZ.1 this (h0,mm) (by
   have:=amQ hh
   simpa using this)
  simp only [anz,Option.isNone_iff_eq_none] at this;simp only [ana] at hu;rcases this with h|h
  ·rw [hu] at h; simp at h
  ·exact h
 ·intro i hk
  cases ho:ops[i]? with
  |none=>
   obtain⟨po,o1,o2⟩:=rf.BE
   have RF:d.BE.reverse[i]?=none:=by rw [anX,aoD,o1,anc,o2,sP];have:=aoT.1 ho;simpa using this
   simp only [J4,RF,anv]
  |some o=>
   obtain⟨dp,UF,v,ob,pre,hdp,hF,g2,g3,g4,g5,g6,g7⟩:=mQ i o ho;obtain⟨h0,mm,rest,hs,hF⟩:=hF;rw [X7 ho] at hk
   cases sZ:kindOf tt o.op with
   |pa=>exact absurd sZ hk
   |e=> simp only [Ai,sZ] at hF;simp only [J4,g3,aC,hF.1]
   |r=> simp only [Ai,sZ] at hF;simp only [J4,g3,aC,hF.1]
 ·have:=(hpe 0 _ _ alp).1;refine⟨hb,by rw [this]; exact au _,fun id x h=>?_⟩;rw [this] at h;exact h
 ·intro m hm;have hm':m<jl tt (ops.toList.take ops.size):=by rw [<- Hi]; exact hm
  obtain⟨i,oi,U,Z,h3,h4⟩:=wA hm';have h2':ops[i]?=some oi:=by rw [<- gT]; exact Z
  exact⟨i,oi,h2',by show kdf i=_; rw [X7 h2']; exact h3,h4⟩
end
section
variable {P:Program}
theorem EX [bH] {tt:TT} (cI:eC P tt) {call:eu} (hc:im P call) {ops:Array Oper} {E:En} {s s':St} {a:Act} {w:World} {Q:Exit->Act->World->Prop}
 (hd: ∀o∈ops.toList,∀d,o.dst=some d->d<a.tmps.size) (fit:Fit E s a w) (h:(draw tt call ops.toList s).leaf E.ρ=some s') (hq: ∀a' w',mM E s a w s' a' w'->Q .normal a' w') :
 wpAny P .any ops Q ops.size (Array.replicate ops.size false) a { w with drawn:=w.drawn+1 }:=by
 unfold draw EZ at h;split at h
 ·simp [T.leaf] at h
 ·rename_i q hq0;split at h
  ·simp [T.leaf] at h
  ·rename_i xK;simp only at h;obtain⟨⟨fI,d⟩,U,Z⟩:=T.fh h;simp only at Z;obtain⟨ms,e1,e2,e3,sf⟩:=R_ hq0;rw [e1,] at U;have rf:=Sa cI hc _ fit.pc U;have fu:=R9 _ fit.pc U;split at Z
   ·simp [T.leaf] at Z
   ·rename_i h0 mm rest alo;obtain⟨jG,h3,h4⟩:=T.fh Z;split at h4
    ·rename_i hun;have:=bD h4;subst this
     have ajp:=Gz cI hc q.rs fu (by
      intro r hr;rw [e3,aH] at hr;obtain⟨x,hx,rfl⟩:=hr;rw [am1,e1] at hx;obtain⟨j,o,ho,rfl⟩:=G9 hx.1;have h5:(kindOf tt o.op).isR=true:=hx.2;show kindOf tt o.op= .r;revert h5
      cases kindOf tt o.op<;>simp [Kind.isR]) h3
     have jy:=ajp.1;have Oq:=ajp.2;rw [e3,e1,e2] at Oq;obtain⟨p,p1,p2,p3,p4,p5,p6⟩:=X' sf (base:=s.h.next) (H0:=s.h) rfl (Nat.le_add_right _ _) rf Oq hun;have gT: ∀(j:Nat),ops.toList[j]?=ops[j]?:=fun j=>bw;let w1:World:={ w with drawn:=w.drawn+1 };have alZ:Fit E s a w1:=⟨⟨fit.rel.fresh,fit.rel.res,fit.rel.live,fit.rel.inj,fit.rel.qt,fit.rel.iY,fit.rel.hid⟩,fit.sr,fit.pc⟩
     have ajB: ∀(i:Nat),(Array.replicate ops.size false)[i]?≠some true:=by
      intro i hh
      grind
     refine p.any (E0:=E) (a0:=a) (w0:=w1) hd ?_ ops.size _ a w1 ad ?_ (p.start rfl rfl rfl alZ _ ajB)
     ·intro a' w' inv;obtain⟨ps,s1,s2⟩:=rf.lT;rw [mG] at s2
      have hlen:rest.length=jl tt ops.toList:=by
       have:d.lT.length=jl tt ops.toList+1:=by rw [s1,aT,s2]; rfl
       grind
      have acz:d.lT.reverse[jl tt ops.toList]?=some (h0,mm):=by
       grind
      obtain⟨q1,q2⟩:=p4 _ _ _ acz
      have hnx:=rf.nxt (by
       intro q hq;simp only [ax,amY,or_false] at hq;subst hq
       exact⟨Nat.le_add_right _ _,rfl⟩) (h0,mm) (by rw [alo]; simp)
      have ht:=p.finish (s0:=s) (s':=⟨d.bF,fF s.h.next ((1 <<<ops.toList.length)-1) mm d.hZ h0,jG⟩) (w0:=w1) rfl inv jy ?_ ?_ ?_ ?_ p6
      ·refine hq a' w' ⟨ht.defers,ht.size,?_⟩;obtain⟨E',st,f'⟩:=ht.step;exact⟨E',⟨st.ρ,st.dm,st.θ,st.κ,st.ro,st.ru,st.N3,st.rsm,st.f_,st.os,st.tape,st.output,st.size,st.keep,st.own,st.hd⟩,f'⟩
      ·intro t x ht;rcases rf.slot t x ht with ⟨j,y,g1,g2,g3⟩|⟨g1,g2⟩
       ·cases oU:ops.toList[j]? with
        |none=>rw [jH,oU] at g1; simp at g1
        |some oj=>
         rw [iE oU] at g1;simp at g1;subst g1;refine .inl ⟨j,oj,by rw [<- gT]; exact oU,g2,?_⟩
         grind
       ·refine .inr ⟨g1,fun j oj oU=>?_⟩;exact g2 _ (amQ (iE (by rw [gT]; exact oU)))
      ·intro id x hx;rw [p2,q1,p1];rcases n9 hx with h|⟨b,b1,b2,b3,b4⟩
       ·grind
       ·right
        have ff:b<ops.size:=by
         have:=Tn b2
         grind
        refine⟨b,ff,by rw [q2,b3]; rfl,b4,?_⟩;rcases rf.jX b x b1 with h|⟨j,y,g1,g2,g3⟩
        ·grind
        ·cases oU:ops.toList[j]? with
         |none=>rw [jH,oU] at g1; simp at g1
         |some oj=>
          rw [iE oU] at g1;simp at g1;subst g1;have:j=b:=g2
          grind
      ·rw [p2,q1];exact (jm _ _).1.symm
      ·show (fF s.h.next ((1 <<<ops.toList.length)-1) mm d.hZ h0).res=none;rw [(jm _ _).2]
       grind
     ·have: ∀(l:Nat->Bool) (n:Nat),left l n<=n:=by
       intro l n
       induction n with
       |zero=>exact au _
       |succ n ih=>simp only [left]; split<;>omega
      grind
    ·simp [T.leaf] at h4
theorem aaX [bH] {tt:TT} (cI:eC P tt) (hm:P.follows .mixedOrders=true) {call:eu} (hc:im P call):abl P (draw tt call):=by intro id ops E s s' a w Q hd fit h hq;exact wp_region_any hm (EX cI hc hd fit h hq)
end
end Go.As
end
section
namespace Go.As
noncomputable section
open Go.RowKit
section
variable {P:Program}
def En.zero (ρ:Nat->Int) (ro:Nat->Prop):En:={ ρ:=ρ,θ:=fun _=>(0,0),κ:=fun _=>0,dm:=fun _=>False,ro:=ro }
def Hp.zero:Hp:=⟨.nil,0,none⟩
theorem C8 [bH] (ρ:Nat->Int) (ro:Nat->Prop) (w:World) (h: ∀b,ro b->b<w.heap.size) (hg:bH.ok ρ ro w.heap):bO (En.zero ρ ro) Hp.zero w:=
 ⟨fun _ _ h=>h,by simp [Hp.zero],fun id o h=>by simp [Hp.zero,Hp.get,Tr.get] at h,fun id _ o _ h=>by simp [Hp.zero,Hp.get,Tr.get] at h,h,hg,fun _ _ h=>by simp [En.zero] at h⟩
theorem eU.below {E E':En} {H':Hp} {w w':World} (s:eU E Hp.zero w E' H' w'):Below w.heap.size w w':=
 ⟨s.os,s.tape,s.output,s.size,fun k hk=>s.keep k hk fun id o h=>by simp [Hp.zero,Hp.get,Tr.get] at h⟩
theorem zZ [bH] {g:FuncId} {f:List W->St->T (W×St)} (hf:ik P g f) {fn:Func} (tR:P.funcs[g]?=some fn) (ke:(fn.name == "runtime.NumGoroutine")=false) {c:Code} (LM:fn.body=some c)
 {ρ:Nat->Int} {ro:Nat->Prop} {w:World} (jx: ∀b,ro b->b<w.heap.size) (hg:bH.ok ρ ro w.heap) {args:List W} {vals:List Value} (hv:ct (En.zero ρ ro) w.heap args vals) {v:W} {s':St}
 (h:(f args ⟨.nil,Hp.zero,[]⟩).leaf ρ=some (v,s')):Calls P g vals.toArray w fun e w'=> ∃u E',e= .returned u/\VR E' w'.heap v u/\E'.ρ=ρ/\Below w.heap.size w w':=by
 obtain⟨_,_,h3⟩:=hf args ⟨.nil,Hp.zero,[]⟩ (En.zero ρ ro) w vals v s' (C8 ρ ro w jx hg) hv (by simp [bV]) h
 have jw:(callFunc g vals.toArray).run P w= .ok (.enter g vals.toArray) w:=by unfold callFunc;simp [tR,LM,by simpa using ke]
 unfold jD lI at h3;rw [jw] at h3;exact Calls.mono h3 fun e w' ⟨u,he,E',st,_,hv⟩=> ⟨u,E',he,hv,st.ρ,st.below⟩
end
end
end Go.As
end
section
namespace Go.As
noncomputable section
open Go.RowKit
mutual
def hY:W->Bool
 | .bool (.lit _)=>true
 | .int _ (.lit _)=>true
 | .str _=>true
 | .sL=>true
 | .dq=>true
 | .qX=>true
 | .uR=>true
 | .wI=>true
 | .iface _ v=>hY v
 | .agg cs=>n7 cs
 | .tuple cs=>n7 cs
 | .func _ fs cs=>n7 fs&&n7 cs
 |_=>false
def n7:List W->Bool
 |[]=>true
 |x::xs=>hY x&&n7 xs
end
section
variable {P:Program}
mutual
theorem wC {E E':En} {h h':Array Obj}: ∀(x:W) (u:Value),hY x=true->VR E h x u->VR E' h' x u
 | .bool b,u,hc,hv=>by cases b<;>simp [hY] at hc; simpa [VR,SB.den] using hv
 | .int k e,u,hc,hv=>by cases e<;>simp [hY] at hc; simpa [VR,V.den] using hv
 | .str s,u,_,hv=>by simp only [VR] at *; exact hv
 | .sL,u,_,hv=>by simp only [VR] at *; exact hv
 | .dq,u,_,hv=>by simp only [VR] at *; exact hv
 | .qX,u,_,hv=>by simp only [VR] at *; exact hv
 | .uR,u,_,hv=>by simp only [VR] at *; exact hv
 | .wI,u,_,hv=>by simp only [VR] at *; exact hv
 | .iface t x,u,hc,hv=>by simp only [VR,hY] at *;obtain⟨y,U,Z⟩:=hv;exact⟨y,U,wC x y hc Z⟩
 | .agg cs,u,hc,hv=>by simp only [VR,hY] at *;obtain⟨us,U,Z⟩:=hv;exact⟨us,U,nt cs us hc Z⟩
 | .tuple cs,u,hc,hv=>by simp only [VR,hY] at *;obtain⟨us,U,Z⟩:=hv;exact⟨us,U,nt cs us hc Z⟩
 | .func fn fs cs,u,hc,hv=>by simp only [VR,hY,an] at *;obtain⟨us,ws,U,Z,h3⟩:=hv;exact⟨us,ws,U,nt fs us hc.1 Z,nt cs ws hc.2 h3⟩
 | .ptr _ _,_,hc,_=>by simp [hY] at hc
 | .mK _,_,hc,_=>by simp [hY] at hc
 | .slice _ _ _ _,_,hc,_=>by simp [hY] at hc
 | .ro _ _ _,_,hc,_=>by simp [hY] at hc
 | .map _,_,hc,_=>by simp [hY] at hc
 | .Kh _,_,hc,_=>by simp [hY] at hc
 | .v7 _ _,_,hc,_=>by simp [hY] at hc
theorem nt {E E':En} {h h':Array Obj}: ∀(xs:List W) (us:List Value),n7 xs=true->ct E h xs us->ct E' h' xs us
 |[],us,_,hv=>by simp only [ct] at *; exact hv
 |x::xs,us,hc,hv=>by simp only [ct,n7,an] at *;obtain⟨u,vs,U,Z,h3⟩:=hv;exact⟨u,vs,U,wC x u hc.1 Z,nt xs vs hc.2 h3⟩
end
theorem nv [bH] {E:En} {H:Hp} {w w':World} (r:bO E H w) (b:Below w.heap.size w w'):eU E H w E H w'/\bO E H w':=by have hk:fy E w.heap E w'.heap:=⟨rfl,fun _ h=>h,fun _ _=>rfl,fun _ _=>rfl,fun _ h=>h,fun x hx=>b.block x (r.qt x hx)⟩;refine⟨⟨rfl,fun _ h=>h,fun _ _=>rfl,fun _ _=>rfl,fun _ h=>h,fun _ h=> .inl h,au _,.inr rfl,fun _ h=> .inl h,b.os,b.tape,b.output,b.size,fun x hx _=>b.block x hx,fun id o h _=> ⟨id,o,h,rfl⟩,rfl⟩,r.fresh,r.res,fun id o h=>?_,r.inj,fun x hx=>anh (r.qt x hx) b.size,bH.keep r.iY hk.ro hk.Bx,r.Ug rfl b.size (fun _ h=> .inl h) fun id o h _=> ⟨id,o,h,rfl⟩⟩;obtain⟨U,Z,h3⟩:=r.live id o h;exact⟨U,Z.keep hk U (b.block _ (fq r h)) (r.Uj rfl (fun x hx _=>b.block x hx) _),h3⟩
def Ch (args:List W) (v:W):List W->St->T (W×St):=fun amP s=>if iA amP args then .ret (v,s) else .fail
def El (args:List W) (v:W) (f:List W->St->T (W×St)):Bool:=
 n7 args&&hY v&&(match f args ⟨.nil,Hp.zero,[]⟩ with | .ret (u,_)=>eM u v|_=>false)
theorem yW [bH] {g:FuncId} {f:List W->St->T (W×St)} (hf:ik P g f) {fn:Func} (tR:P.funcs[g]?=some fn) (ke:(fn.name == "runtime.NumGoroutine")=false) {c:Code} (hb:fn.body=some c)
 {args:List W} {v:W} (h:El args v f=true):ik P g (Ch args v):=by
 intro amP s E w vals u s' r hv hp Y;unfold Ch at Y;split at Y
 ·rename_i hs;have:=bD Y;simp only [ak] at this;obtain⟨rfl,rfl⟩:=this;rw [fL _ _ hs] at hv;unfold El at h;simp only [an] at h;obtain⟨⟨U,Z⟩,h3⟩:=h;split at h3
  ·rename_i u' s1 jw;have hu:=jE _ _ h3;subst hu;have hc:=zZ hf tR ke hb (ρ:=E.ρ) (ro:=E.ro) (w:=w) r.qt r.iY (nt args vals U hv) (v:=u') (s':=s1) (by rw [jw]; rfl);refine⟨rfl,hp,?_⟩
   have jw:(callFunc g vals.toArray).run P w= .ok (.enter g vals.toArray) w:=by unfold callFunc;simp [tR,hb,by simpa using ke]
   unfold jD lI;rw [jw];exact Calls.mono hc fun e w' ⟨x,E',he,hx,_,nk⟩=> ⟨x,he,E,(nv r nk).1,(nv r nk).2,wC u' x Z hx⟩
  grind
 ·simp [T.leaf] at Y
def orElse (f g:List W->St->T (W×St)):List W->St->T (W×St):=fun amP s=>match f amP s with | .fail=>g amP s|x=>x
theorem ni [bH] {id:FuncId} {f g:List W->St->T (W×St)} (hf:ik P id f) (hg:ik P id g):ik P id (orElse f g):=by
 intro amP s E w vals u s' r hv hp Y;unfold orElse at Y;split at Y
 ·exact hg amP s E w vals u s' r hv hp Y
 ·exact hf amP s E w vals u s' r hv hp Y
end
end
end Go.As
end
section
namespace Go.As
noncomputable section
open Go.RowKit
section
variable {P:Program}
theorem we {g:FuncId} {fn:Func} {e:Array Value->Sem Value} (hf:P.funcs[g]?=some fn) (ke:(fn.name == "runtime.NumGoroutine")=false) (hb:fn.body.isNone=true) (hn:Extern.findNext fn=none) (he:Extern.find fn=some e)
 {args:Array Value} {w:World} {u:Value} (hr:(e args).run P w= .ok u w):(callFunc g args).run P w= .ok (.value u) w:=by
 have LM:fn.body=none:=by simpa using hb
 unfold callFunc;simp [hf,LM,by simpa using ke,hn,he,hr]
def Ff (c:Nat):List Nat->Nat
 |[]=>0
 |x::xs=>if x.beq c then Ff c xs+1 else Ff c xs
def AX:List W->St->T (W×St):=fun args s=>match args with
 |[.str b,.int .u8 (.lit (.ofNat c))]=>if c<256 then .ret (.int .i64 (.lit (Int.ofNat (Ff c b))),s) else .fail
 |_=> .fail
theorem Ig {a b:Nat} (ha:a<256) (hb:b<256):(UInt8.ofNat a == UInt8.ofNat b)=a.beq b:=by
 rw [am6];simp only [beq_iff_eq,Nat.beq_eq];constructor
 ·intro h;have:=congrArg UInt8.toNat h;simp only [anr] at this;omega
 grind
theorem HM {c:Nat} (hc:c<256): ∀{s:List Nat},(∀b∈s,b<256)->Lib.countByte (s.map UInt8.ofNat) (UInt8.ofNat c)=Ff c s
 |[],_=>rfl
 |x::xs,h=>by
  have ih:=HM hc (s:=xs) fun b hb=>h b (by simp [hb]);unfold Lib.countByte at *;rw [aw,List.count_cons,ih,Ig (h x ad) hc];simp only [Ff]
  grind
theorem l_ [bH] {g:FuncId} {fn:Func} (hf:P.funcs[g]?=some fn) (ke:(fn.name == "runtime.NumGoroutine")=false) (hb:fn.body.isNone=true) (hn:Extern.findNext fn=none) (he:Extern.find fn=some Extern.BytealgCount.count):ik P g AX:=by
 intro amP s E w vals u s' r hv hp Y;unfold AX at Y;split at Y
 ·rename_i b c;split at Y
  ·rename_i hc;have:=bD Y;simp only [ak] at this;obtain⟨rfl,rfl⟩:=this;simp only [ct,VR,V.den] at hv;obtain⟨u1,r1,rfl,⟨rfl,MZ⟩,u2,r2,rfl,rfl,rfl⟩:=hv;refine⟨rfl,hp,?_⟩;unfold jD lI;rw [we hf ke hb hn he (Lib.run_countString (dc b) (Int.ofNat c) w)];refine⟨E,eU.refl _ _ _,r,?_⟩;simp only [VR,V.den];have:(Int.ofNat c).toNat.toUInt8=UInt8.ofNat c:=rfl;rw [this];have Z:(dc b).data.toList=b.map UInt8.ofNat:=by simp [dc]
   rw [Z,HM hc MZ];rfl
  ·simp [T.leaf] at Y
 ·simp [T.leaf] at Y
def D9 (c:Nat):List Nat->Int
 |[]=> -1
 |x::xs=>if x.beq c then 0 else match D9 c xs with
  | .ofNat n=> .ofNat (n+1)
  | .negSucc n=> .negSucc n
def AW:List W->St->T (W×St):=fun args s=>match args with
 |[.str b,.int .u8 (.lit (.ofNat c))]=>if c<256 then .ret (.int .i64 (.lit (D9 c b)),s) else .fail
 |_=> .fail
theorem Hb {c:Nat} (hc:c<256): ∀{s:List Nat},(∀b∈s,b<256)->Lib.indexByte (s.map UInt8.ofNat) (UInt8.ofNat c)=D9 c s
 |[],_=>rfl
 |x::xs,h=>by
  have ih:=Hb hc (s:=xs) fun b hb=>h b (by simp [hb]);have Ow:=Lib.indexByte_ge (xs.map UInt8.ofNat) (UInt8.ofNat c);simp only [aw,Lib.indexByte,D9];rw [Ig (h x ad) hc];cases x.beq c
  ·simp only [aP,if_false];rw [ih] at Ow ⊢
   cases hi:D9 c xs with
   |ofNat n=>rw [hi] at Ow; simp
   |negSucc n=>
    grind
  ·rfl
theorem Yi [bH] {g:FuncId} {fn:Func} (hf:P.funcs[g]?=some fn) (ke:(fn.name == "runtime.NumGoroutine")=false) (hb:fn.body.isNone=true) (hn:Extern.findNext fn=none) (he:Extern.find fn=some Extern.BytealgIndexByte.indexByte):ik P g AW:=by
 intro amP s E w vals u s' r hv hp Y;unfold AW at Y;split at Y
 ·rename_i b c;split at Y
  ·rename_i hc;have:=bD Y;simp only [ak] at this;obtain⟨rfl,rfl⟩:=this;simp only [ct,VR,V.den] at hv;obtain⟨u1,r1,rfl,⟨rfl,MZ⟩,u2,r2,rfl,rfl,rfl⟩:=hv;refine⟨rfl,hp,?_⟩;unfold jD lI;rw [we hf ke hb hn he (Lib.run_indexByteString (dc b) (Int.ofNat c) w)];refine⟨E,eU.refl _ _ _,r,?_⟩;simp only [VR,V.den];have:(Int.ofNat c).toNat.toUInt8=UInt8.ofNat c:=rfl;rw [this];have Z:(dc b).data.toList=b.map UInt8.ofNat:=by simp [dc]
   rw [Z,Hb hc MZ]
  ·simp [T.leaf] at Y
 ·simp [T.leaf] at Y
def KS:List Nat->List Nat->Bool
 |[],_=>true
 |_::_,[]=>false
 |a::x,b::y=>if a.beq b then KS x y else false
def yj (c:List Nat):List Nat->Bool
 |[]=>KS c []
 |b::bs=>if KS c (b::bs) then true else yj c bs
def sY:List W->St->T (W×St):=fun args s=>match args with
 |[.str b,.str c]=>if b.length<4294967281 then .ret (.bool (.lit (yj c b)),s) else .fail
 |_=> .fail
theorem QF: ∀{c s:List Nat},(∀b∈c,b<256)->(∀b∈s,b<256)->(c.map UInt8.ofNat).isPrefixOf (s.map UInt8.ofNat)=KS c s
 |[],_,_,_=>by simp [KS]
 |_::_,[],_,_=>by simp [KS]
 |a::x,b::y,hc,hs=>by
  have ih:=QF (c:=x) (s:=y) (fun z hz=>hc z (by simp [hz])) (fun z hz=>hs z (by simp [hz]));simp only [aw,List.isPrefixOf,KS];rw [Ig (hc a ad) (hs b ad),ih]
  grind
theorem index_ge (sub:List UInt8): ∀l:List UInt8,-1<=Lib.index l sub
 |[]=>by unfold Lib.index; split<;>omega
 |b::l=>by
  have ih:=index_ge sub l;unfold Lib.index
  grind
theorem Da {c:List Nat} (hc: ∀b∈c,b<256): ∀{s:List Nat},(∀b∈s,b<256)->Lib.contains (s.map UInt8.ofNat) (c.map UInt8.ofNat)=yj c s
 |[],_=>by cases c<;>simp [Lib.contains,Lib.index,yj,KS]
 |b::bs,h=>by
  have ih:=Da hc (s:=bs) fun z hz=>h z (by simp [hz]);have hp:=QF hc h;simp only [aw] at hp;unfold Lib.contains at *;simp only [aw,Lib.index,yj]
  grind
theorem Mu [bH] {g:FuncId} (hg: ∀(ρ:Nat->Int) (ro:Nat->Prop) (w:World),bH.ok ρ ro w.heap->∀s sub:ByteArray,s.size<4294967281->Calls P g #[.string s,.string sub] w fun e w'=>e= .returned (.bool (Lib.contains s.data.toList sub.data.toList))/\w'=w)
 (jw: ∀(args:Array Value) (w:World),(callFunc g args).run P w= .ok (.enter g args) w):ik P g sY:=by
 intro amP s E w vals u s' r hv hp Y;unfold sY at Y;split at Y
 ·rename_i b c;split at Y
  ·rename_i hlen;have:=bD Y;simp only [ak] at this;obtain⟨rfl,rfl⟩:=this;simp only [ct,VR] at hv;obtain⟨u1,r1,rfl,⟨rfl,MZ⟩,u2,r2,rfl,⟨rfl,U8⟩,rfl⟩:=hv;refine⟨rfl,hp,?_⟩;unfold jD lI;rw [jw];refine Calls.mono (hg E.ρ E.ro w r.iY (dc b) (dc c) (by simpa [dc,ByteArray.size] using hlen)) fun e w' ⟨he,hw⟩=>?_;subst hw;refine⟨_,he,E,eU.refl _ _ _,r,?_⟩;simp only [VR,SB.den];have Z: ∀l:List Nat,(dc l).data.toList=l.map UInt8.ofNat:=by intro l; simp [dc]
   rw [Z,Z,Da U8 MZ]
  ·simp [T.leaf] at Y
 ·simp [T.leaf] at Y
end
end
end Go.As
end
section
namespace Go.As
noncomputable section
structure Cf where
 m:Nat
 k:Kind
 st:Nat
 rd:List Nat
structure MP where
 is:List Cf
 nE:Nat
 rs:List (Nat×List Nat)
def Oe:Kind->Kind->Bool
 | .pa,.pa=>true
 | .e,.e=>true
 | .r,.r=>true
 |_,_=>false
def xz:List Nat->List Nat->Bool
 |[],[]=>true
 |a::x,b::y=>Nat.beq a b&&xz x y
 |_,_=>false
def AF:List Item->List Cf->Bool
 |[],[]=>true
 |x::xs,d::ds=>Nat.beq x.m d.m&&Oe x.k d.k&&Nat.beq x.st d.st&&xz x.rd d.rd&&AF xs ds
 |_,_=>false
def AD:List (Item×List Nat)->List (Nat×List Nat)->Bool
 |[],[]=>true
 |(x,ks)::xs,(i,js)::ys=>Nat.beq x.i i&&xz ks js&&AD xs ys
 |_,_=>false
def An:Nat->List Oper->List Cf->List Item
 |i,o::os,d::ds=> ⟨i,o,d.m,d.k,d.st,d.rd⟩ ::An (i+1) os ds
 |_,_,_=>[]
def Tt (is:List Item):List (Nat×List Nat)->List (Item×List Nat)
 |[]=>[]
 |(i,ks)::r=>match eZ is i with
  |some x=>(x,ks)::Tt is r
  |none=>Tt is r
def statOf (all:List Oper) (H:MP):Stat:=⟨An 0 all H.is,H.nE,Tt (An 0 all H.is) H.rs⟩
def u5 (tt:TT) (all:List Oper) (H:MP):Bool:=match stat tt all with
 |none=>false
 |some q=>AF q.is H.is&&Nat.beq q.nE H.nE&&AD q.rs H.rs
theorem T8 {a b:Kind} (h:Oe a b=true):a=b:=by cases a<;>cases b<;>simp [Oe] at h<;>rfl
theorem AL: ∀{a b:List Nat},xz a b=true->a=b
 |[],[],_=>rfl
 |[],_::_,h=>by simp [xz] at h
 |_::_,[],h=>by simp [xz] at h
 |a::x,b::y,h=>by simp only [xz,an] at h;rw [aq h.1,AL h.2]
theorem G7 {tt:TT} {all:List Oper} {ms:List Nat}: ∀{os:List Oper} {i n:Nat} {ds:List Cf},AF (items tt all ms os i n) ds=true->items tt all ms os i n=An i os ds
 |[],i,n,ds,h=>by cases ds<;>simp [items,AF,An] at *
 |o::os,i,n,ds,h=>by
  cases ds with
  |nil=>simp [items,AF] at h
  |cons d ds=> simp only [items,AF,an] at h;obtain⟨⟨⟨⟨U,Z⟩,h3⟩,h4⟩,h5⟩:=h;have ih:=G7 h5;simp only [items,An];rw [ih,aq U,T8 Z,aq h3,AL h4]
theorem QD {is:List Item}: ∀{xs:List (Item×List Nat)} {ys:List (Nat×List Nat)},(∀p∈xs,eZ is p.1.i=some p.1)->AD xs ys=true->Tt is ys=xs
 |[],[],_,_=>rfl
 |[],_::_,_,h=>by simp [AD] at h
 |_::_,[],_,h=>by simp [AD] at h
 |(x,ks)::xs,(i,js)::ys,hm,h=>by simp only [AD,an] at h;have U:=hm (x,ks) ad;simp only [Tt];rw [<- aq h.1.1,U,<- AL h.1.2,QD (fun p hp=>hm p (by simp [hp])) h.2]
theorem Ks: ∀{i:Nat} {os:List Oper} {ds:List Cf} {x:Item},x∈An i os ds->i<=x.i/\eZ (An i os ds) (x.i-i)=some x
 |_,[],_,_,h=>by simp [An] at h
 |_,_::_,[],_,h=>by simp [An] at h
 |i,o::os,d::ds,x,h=>by
  simp only [An,ax] at h ⊢;rcases h with rfl|h
  ·simp [eZ]
  ·obtain⟨U,Z⟩:=Ks h;refine⟨J,?_⟩;have:x.i-i=(x.i-(i+1))+1:=J
   rw [this];exact Z
theorem AZ {tt:TT} {all:List Oper} {H:MP} (h:u5 tt all H=true):stat tt all=some (statOf all H):=by
 unfold u5 at h;split at h
 ·grind
 ·rename_i q hq;rw [hq];simp only [an] at h;obtain⟨⟨U,Z⟩,h3⟩:=h;have Ue:=hq;unfold stat at Ue;simp only at Ue;split at Ue
  ·simp only [ah] at Ue;subst Ue;have e1:=G7 U;simp only at Z h3
   have e3:Tt (An 0 all H.is) H.rs=_:=QD (is:=An 0 all H.is) (by
    intro p hp;simp only [aH,am1] at hp;obtain⟨x,⟨hx,_⟩,rfl⟩:=hp;rw [e1] at hx;have:=(Ks hx).2
    simpa using this) h3
   unfold statOf;rw [e3,<- aq Z,<- e1]
  grind
end
end Go.As
end
section
namespace Go.As
noncomputable section
def wU (pos:Nat->Nat) (o:Oper):Oper:={ o with after:=o.after.map (fun e=>{ e with on:=pos e.on }),guard:=match o.guard with |none=>none|some (j,b)=>some (pos j,b) }
def posOf:List Nat->Nat->Nat
 |[],_=>0
 |x::xs,i=>match Nat.beq x i with
  |true=>0
  |false=>posOf xs i+1
def BC (pos:Nat->Nat) (all:List Oper):List Nat->List Oper
 |[]=>[]
 |i::is=>match eZ all i with
  |some o=>wU pos o::BC pos all is
  |none=>[]
def fY (ord:List Nat) (all:List Oper):List Oper:=BC (posOf ord) all ord
def IF (ord:List Nat) (n:Nat):Bool:=
 Nat.beq ord.length n&&(List.range n).all (fun i=>match eZ ord (posOf ord i) with |some j=>Nat.beq i j|none=>false)&&
 (List.range n).all (fun j=>match eZ ord j with |some i=>Nat.blt i n&&Nat.beq (posOf ord i) j|none=>false)
theorem KU: ∀(ord:List Nat) (i:Nat),posOf ord i<=ord.length
 |[],_=>au _
 |x::xs,i=>by
  simp only [posOf,aM];split
  ·omega
  ·have:=KU xs i; omega
theorem GC: ∀(ord:List Nat) (i:Nat),posOf ord i<ord.length->ord[posOf ord i]?=some i
 |[],_,h=>by simp [posOf] at h
 |x::xs,i,h=>by
  simp only [posOf,aM] at h ⊢;split
  ·rename_i he;simp_all
  ·rename_i he;rw [he] at h;simp only at h;simpa using GC xs i J
structure Perm (n:Nat) (ord:List Nat):Prop where
 len:ord.length=n
 at': ∀i,i<n->ord[posOf ord i]?=some i
 back: ∀j,j<n->∃i,ord[j]?=some i/\i<n/\posOf ord i=j
theorem TM {ord:List Nat} {n:Nat} (h:IF ord n=true):Perm n ord:=by
 unfold IF at h;simp only [an,aZ,am2] at h;obtain⟨⟨U,Z⟩,h3⟩:=h;refine⟨aq U,fun i hi=>?_,fun j hj=>?_⟩
 ·have:=Z i hi;split at this
  all_goals simp_all [de]
 simp_all [de]
theorem Perm.lt {n:Nat} {ord:List Nat} (p:Perm n ord) {i:Nat} (hi:i<n):posOf ord i<n:=by
 have:=p.at' i hi;rw [<- p.len]
 grind
theorem Perm.ge {n:Nat} {ord:List Nat} (p:Perm n ord) {i:Nat} (hi: ¬i<n):posOf ord i=n:=by
 have U:=KU ord i;rw [p.len] at U;rcases aW (posOf ord i) n with h|h
 ·have Z:=GC ord i (by rw [p.len]; exact h);obtain⟨k,h3,h4,_⟩:=p.back _ h
  grind
 ·omega
theorem Perm.inj {n:Nat} {ord:List Nat} (p:Perm n ord) {i j:Nat} (hi:i<n) (hj:j<n) (h:posOf ord i=posOf ord j):i=j:=by
 have U:=p.at' i hi;have Z:=p.at' j hj
 grind
theorem GF {pos:Nat->Nat} {all:List Oper}: ∀{is:List Nat},(∀i∈is,i<all.length)->∀j:Nat,(BC pos all is)[j]?=(is[j]?).bind fun i=>(all[i]?).map (wU pos)
 |[],_,j=>by simp [BC]
 |i::is,h,j=>by
  have hi:=h i ad;have ih:=GF (pos:=pos) (is:=is) fun k hk=>h k (by simp [hk])
  grind [BC,de]
section
variable {P:Program}
theorem nM {ord:List Nat} {ops:Array Oper} (p:Perm ops.size ord) {i:Nat} (hi:i<ops.size):(fY ord ops.toList)[posOf ord i]?=(ops[i]?).map (wU (posOf ord)):=by
 unfold fY
 rw [GF (by
  intro k hk;obtain⟨j,hj,rfl⟩:=ank hk;obtain⟨i',U,Z,_⟩:=p.back j (by rw [<- p.len]; exact hj);rw [aO hj] at U;simp only [ah] at U;rw [U]
  simpa using Z),p.at' i hi]
 simp
theorem uM {ord:List Nat} {ops:Array Oper} (p:Perm ops.size ord):(fY ord ops.toList).length=ops.size:=by
 have h0: ∀j,j<ops.size->(fY ord ops.toList)[j]?.isSome=true:=by
  intro j hj;obtain⟨i,_,Z,h3⟩:=p.back j hj
  grind [nM]
 have hle:(fY ord ops.toList).length<=ops.size:=by
  have: ∀(is:List Nat),(BC (posOf ord) ops.toList is).length<=is.length:=by
   intro is
   induction is with
   |nil=>simp [BC]
   |cons i is ih=>simp only [BC]; split<;>simp; omega
  have:=this ord;rw [p.len] at this;exact this
 rcases aW (fY ord ops.toList).length ops.size with h|h
 all_goals grind
theorem Xq (pos:Nat->Nat) (o:Oper) (a:Act) (w:World) (K:Act->World->Prop) (Q:Exit->Act->World->Prop):(wU pos o).wp P a w K Q=o.wp P a w K Q:=rfl
theorem NS (pos:Nat->Nat) (o:Oper) (a:Act) (w:World):(wU pos o).asks P a w=o.asks P a w:=rfl
theorem Ia {ord:List Nat} {ops:Array Oper} (p:Perm ops.size ord) (tmps:Array Value) (j:Nat):yielded (fY ord ops.toList).toArray tmps (posOf ord j)=yielded ops tmps j:=by
 unfold yielded
 have:((fY ord ops.toList).toArray[posOf ord j]?).bind (·.dst)=(ops[j]?).bind (·.dst):=by
  rw [aoF];rcases aW j ops.size with h|h
  ·rw [nM p h];cases ops[j]?<;>rfl
  ·rw [p.ge J,anF (by rw [uM p]; exact au _),aoG h]
 grind
theorem Ky {ord:List Nat} {ops:Array Oper} (p:Perm ops.size ord) (tmps:Array Value) (o:Oper) :
 Region.wanted (wU (posOf ord) o) (yielded (fY ord ops.toList).toArray tmps)=Region.wanted o (yielded ops tmps):=by
 unfold Region.wanted wU
 cases hg:o.guard with
 |none=>rfl
 |some g=> obtain⟨j,b⟩:=g;simp only;rw [Ia p]
theorem jF {md:Region.Mode} {ops:Array Oper} {listed:Array Bool} {i:Nat}:i∈Region.ready md ops listed↔∃o,ops[i]?=some o/\listed.getD i true=false/\∀e∈o.after.toList,Region.binds md e=true->listed.getD e.on false=true:=by
 unfold Region.ready;simp only [am1,am2,an,ana];constructor
 ·rintro⟨U,Z,h3⟩;have e:=aoi U;refine⟨_,e,Z,?_⟩;rw [e] at h3;simp only [br,aC,Array.all_eq_true_iff_forall_mem] at h3;intro x hx hb
  grind
 grind
theorem xt {md:Region.Mode} {ord:List Nat} {ops:Array Oper} (p:Perm ops.size ord) {listed iD:Array Bool} (hz:listed.size=ops.size) (I5:iD.size=ops.size) (Y: ∀i,i<ops.size->iD[posOf ord i]?=listed[i]?) {i:Nat} (hi:i<ops.size) :
 posOf ord i∈Region.ready md (fY ord ops.toList).toArray iD↔i∈Region.ready md ops listed:=by
 have hg: ∀(k:Nat) (d:Bool),iD.getD (posOf ord k) d=listed.getD k d:=by
  intro k d;simp only [anx];rcases aW k ops.size with h|h
  ·grind
  ·rw [p.ge J,aoG J,aoG J]
 rw [jF,jF,aoF,nM p hi,hg];constructor
 ·rintro⟨o,U,Z,h3⟩;rw [aQ] at U;obtain⟨o0,h0,rfl⟩:=U;refine⟨o0,h0,Z,fun e he hb=>?_⟩
  have:=h3 { e with on:=posOf ord e.on } (by
   simp only [wU,aou,aH]
   exact⟨e,he,rfl⟩) hb
  simp_all
 ·rintro⟨o,U,Z,h3⟩;refine⟨wU (posOf ord) o,by rw [U]; rfl,Z,fun e he hb=>?_⟩;simp only [wU,aou,aH] at he;obtain⟨e0,he0,rfl⟩:=he;show iD.getD (posOf ord e0.on) false=true;rw [hg];exact h3 e0 he0 hb
theorem Ni {md:Region.Mode} {ord:List Nat} {ops:Array Oper} (p:Perm ops.size ord) {Q:Exit->Act->World->Prop}: ∀(fuel:Nat) (listed iD:Array Bool) (a:Act) (w:World),listed.size=ops.size->iD.size=ops.size->
 (∀i,i<ops.size->iD[posOf ord i]?=listed[i]?)->wpAny P md (fY ord ops.toList).toArray Q fuel iD a w->wpAny P md ops Q fuel listed a w:=by
 have aiT: ∀(listed iD:Array Bool),listed.size=ops.size->iD.size=ops.size->(∀i,i<ops.size->iD[posOf ord i]?=listed[i]?)->
  (Region.ready md (fY ord ops.toList).toArray iD= []↔Region.ready md ops listed= []):=by
  intro listed iD hz I5 Y;constructor
  ·intro h;rw [aog] at h ⊢;intro i hm
   have hi:i<ops.size:=by
    grind [jF]
   exact h _ ((xt p hz I5 Y hi).2 hm)
  ·intro h;rw [aog] at h ⊢;intro j hm
   have hj:j<ops.size:=by
    grind [jF]
   obtain⟨i,_,Z,h3⟩:=p.back j hj;subst h3;exact h _ ((xt p hz I5 Y Z).1 hm)
 intro fuel
 induction fuel with
 |zero=> intro listed iD a w hz I5 Y h;exact⟨(aiT _ _ hz I5 Y).1 h.1,h.2⟩
 |succ fuel ih=>
  intro listed iD a w hz I5 Y h;refine⟨fun h0=>h.1 ((aiT _ _ hz I5 Y).2 h0),fun i hm=>?_⟩
  have hi:i<ops.size:=by
   grind [jF]
  have hh:=h.2 _ ((xt p hz I5 Y hi).2 hm)
  have BM: ∀a w,wpAny P md (fY ord ops.toList).toArray Q fuel (iD.setIfInBounds (posOf ord i) true) a w->wpAny P md ops Q fuel (listed.setIfInBounds i true) a w:=by
   intro a w hw;refine ih _ _ a w (by simp [hz]) (by simp [I5]) (fun k hk=>?_) hw;rw [an1,an1];by_cases hik:i=k
   ·grind
   ·rw [af hik,af (fun h=>hik (p.inj hi hk h)),Y k hk]
  have Z:=wpOp_mono BM hh;unfold wpOp at Z ⊢;rw [aoF,nM p hi] at Z
  cases ho:ops[i]? with
  |none=>rw [ho] at Z; exact Z
  |some o=> rw [ho] at Z;simp only [br] at Z ⊢;rw [Ky p,Xq,NS] at Z;exact Z
structure A' where
 ord:List Nat
 h:MP
def e? (tt:TT) (H:Nat->Nat->Option A') (call:eu) (g id:Nat) (all:List Oper) (s:St):T St:=match H g id with
 |some p=>match p.ord with
  |[]=>EZ tt call all (statOf all p.h) s
  |o::os=>match fY (o::os) all with
   |t_=>EZ tt call t_ (statOf t_ p.h) s
 |none=> .fail
def agw (tt:TT) (H:Nat->Nat->Option A') (g id:Nat) (all:List Oper):Bool:=match H g id with
 |some p=>match p.ord with
  |[]=>u5 tt all p.h
  |o::os=>IF (o::os) all.length&&u5 tt (fY (o::os) all) p.h
 |none=>true
theorem e! [bH] {tt:TT} (cI:eC P tt) (hm:P.follows .mixedOrders=true) {H:Nat->Nat->Option A'} {call:eu} (hc:im P call) (g:Nat):vF P (agw tt H g) (e? tt H call g):=by
 intro id ops hk E s s' a w Q hd fit h hq;unfold agw at hk;unfold e? at h;split at hk
 ·rename_i p hp;rw [hp] at h;simp only at h;split at hk
  ·rename_i he;rw [he] at h;have:=AZ hk;refine aaX cI hm hc id ops E s s' a w Q hd fit ?_ hq
   grind [draw]
  ·rename_i o os he;rw [he] at h;simp only at h;simp only [an] at hk;have hp:=TM hk.1;have hp:Perm ops.size (o::os):=by simpa using hp
   have:=AZ hk.2;refine wp_region_any hm ?_
   have uu: ∀x∈((fY (o::os) ops.toList).toArray).toList,∀d,x.dst=some d->d<a.tmps.size:=by
    intro x hx d hxd;obtain⟨j,hj,rfl⟩:=ank hx;have YD:j<ops.size:=by rw [<- uM hp]; exact hj
    obtain⟨i,_,Z,h3⟩:=hp.back j YD;have hg:=nM hp Z;rw [h3] at hg
    have hx2:(fY (o::os) ops.toList)[j]?=some ((fY (o::os) ops.toList).toArray.toList[j]):=by
     grind
    rw [hx2] at hg;rw [aoi Z] at hg;simp only [br,ah] at hg;rw [hg] at hxd;exact hd (ops[i]) ad d hxd
   have key:=EX (ops:=(fY (o::os) ops.toList).toArray) cI hc uu fit (by
    unfold draw;rw [this]
    exact h) hq
   have gT:(fY (o::os) ops.toList).toArray.size=ops.size:=by simpa using uM hp
   rw [gT] at key;refine Ni hp _ _ _ _ _ ad ad (fun i hi=>?_) key;rw [anO,anO,ag hi,ag (hp.lt hi)]
 grind [T.leaf]
end
end
end Go.As
end
section
namespace Go.As
noncomputable section
def GH (h:Hp):List Nat->Tr dN->Tr dN
 |[],t=>t
 |i::is,t=>match h.get i with
  |some o=>GH h is (t.put i (some o))
  |none=>GH h is t
theorem AI {h:Hp}: ∀(is:List Nat) (t:Tr dN),(∀id o,t.get id=some o->h.get id=some o)->∀id o,(GH h is t).get id=some o->h.get id=some o
 |[],_,ht,id,o,hg=>ht id o hg
 |i::is,t,ht,id,o,hg=>by
  simp only [GH] at hg;split at hg
  ·rename_i x hx;refine AI is _ (fun j y hy=>?_) id o hg
   grind [Tr.bQ]
  ·exact AI is t ht id o hg
def AE:List (V×List W)->List (V×List W)->Bool
 |[],[]=>true
 |(i,a)::x,(j,b)::y=>eV i j&&iA a b&&AE x y
 |_,_=>false
theorem Gp: ∀{a b:List (V×List W)},AE a b=true->a=b
 |[],[],_=>rfl
 |[],_::_,h=>by simp [AE] at h
 |_::_,[],h=>by simp [AE] at h
 |(i,a)::x,(j,b)::y,h=>by simp only [AE,an] at h;rw [cG _ _ h.1.1,fL _ _ h.1.2,Gp h.2]
def Iv:dN->dN->Bool
 | .cells a e,.cells b f=>iA a b&&Nat.beq e f
 | .vec a t e x,.vec b u f y=>eV a b&&Nat.beq t u&&Nat.beq e f&&AE x y
 |_,_=>false
theorem NL {a b:dN} (h:Iv a b=true):a=b:=by
 cases a<;>cases b<;>simp only [Iv,aP,an] at h
 ·rw [fL _ _ h.1,aq h.2]
 ·rw [cG _ _ h.1.1.1,aq h.1.1.2,aq h.1.2,Gp h.2]
def Bw {α:Type} (f:α->α->Bool):Tr α->Tr α->Bool
 | .nil,.nil=>true
 | .node v l r,.node u x y=>(match v,u with |some a,some b=>f a b|none,none=>true|_,_=>false)&&Bw f l x&&Bw f r y
 |_,_=>false
theorem yA {α:Type} {f:α->α->Bool} (hf: ∀a b,f a b=true->a=b): ∀(a b:Tr α),Bw f a b=true->a=b
 | .nil,b,h=>by cases b<;>simp [Bw] at h; rfl
 | .node v l r,b,h=>by
   cases b with
   |nil=>simp [Bw] at h
   |node u x y=>
    simp only [Bw,an] at h;rw [yA hf l x h.1.2,yA hf r y h.2]
    grind
def inL (i:Nat):List Nat->Bool
 |[]=>false
 |j::l=>match Nat.beq i j with
  |true=>true
  |false=>inL i l
theorem I4 {i:Nat}: ∀{l:List Nat},inL i l=true↔i∈l
 |[]=>by simp [inL]
 |j::l=>by
  simp only [inL,ax];split
  ·rename_i h; simp [aq h]
  ·rename_i h; rw [I4]; simp [anT h]
def ss (i:Nat):List Nat->List Nat
 |[]=>[]
 |j::l=>match Nat.beq i j with
  |true=>ss i l
  |false=>j::ss i l
theorem qv {i k:Nat}: ∀{l:List Nat},k∈ss i l↔k∈l/\k≠i
 |[]=>by simp [ss]
 |j::l=>by
  simp only [ss];split
  ·rename_i h;have:=aq h;subst this;rw [qv]
   grind
  ·rename_i h;have:=anT h;simp only [ax];rw [qv]
   grind
def GW (all:List Oper) (rem:List Nat) (i:Nat):Bool:=match eZ all i with
 |some o=>o.after.toList.all fun e=>!Region.binds .any e||(!inL e.on rem&&Nat.blt e.on all.length)
 |none=>false
def MI (tt:TT) (call:eu) (all:List Oper) (pc:List (SB×Bool)) (tS:Tr W) (tH:Hp):Nat->List Nat->Tr W->Hp->Bool
 |0,rem,S,H=>match rem with
  |[]=>Bw eM S tS&&Bw Iv H.m tH.m&&Nat.beq H.next tH.next&&(match H.res with |none=>true|_=>false)
  |_=>false
 |n+1,rem,S,H=>match rem with
  |[]=>false
  |_=>rem.any (GW all rem)&&rem.all fun i=>match GW all rem i with
   |false=>true
   |true=>match eZ all i with
    |some o=>match F! tt call all o ⟨S,H,pc⟩ with
     | .ret (v,s')=>MI tt call all pc tS tH n (ss i rem) (uE S o.dst v) s'.h
     |_=>false
    |none=>false
section
variable {P:Program}
theorem Xa {E:En} {h:Array Obj} {S:Tr W} {a:Act} (sr:SR E h S a) {d:Option Nat} {v:W} {u:Value} (hd: ∀t,d=some t->t<a.tmps.size) (hv:VR E h v u):SR E h (uE S d v) (a.put d u):=by
 cases d with
 |none=>exact sr
 |some t=>exact sr.put (hd t rfl) hv
theorem s? [bH] {tt:TT} (cI:eC P tt) {call:eu} (hc:im P call) {ops:Array Oper} {ρ:Nat->Int} {pc:List (SB×Bool)} (hpc:bV ρ pc) {tS:Tr W} {tH:Hp} (htr:tH.res=none) {Q:Exit->Act->World->Prop} {m:Nat} (hd: ∀o∈ops.toList,∀d,o.dst=some d->d<m) :
 ∀(n:Nat) (rem:List Nat) (S:Tr W) (H:Hp) (E:En) (a:Act) (w:World) (listed:Array Bool),MI tt call ops.toList pc tS tH n rem S H=true->E.ρ=ρ->bO E H w->SR E w.heap S a->a.tmps.size=m->listed.size=ops.size->
  (∀i,i<ops.size->(listed[i]?=some true↔i∉rem))->(∀i∈rem,i<ops.size)->
  (∀(a':Act) (w':World) (E':En),eU E H w E' tH w'->bO E' tH w'->SR E' w'.heap tS a'->a'.tmps.size=m->a'.defers=a.defers->Q .normal a' w')->wpAny P .any ops Q n listed a w:=by
 intro n;have mQ: ∀(i:Nat),eZ ops.toList i=ops[i]?:=fun i=>by rw [de,bw]
 have Xr: ∀(rem:List Nat) (listed:Array Bool),listed.size=ops.size->(∀i,i<ops.size->(listed[i]?=some true↔i∉rem))->∀i,i∈Region.ready .any ops listed->i∈rem/\GW ops.toList rem i=true/\i<ops.size:=by
  intro rem listed gT Y i hi;obtain⟨o,ho,U,Z⟩:=jF.1 hi;have u6:i<ops.size:=(amZ.1 ho).1
  have hf:listed[i]?=some false:=by simp_all
  refine⟨?_,?_,u6⟩
  ·grind
  ·unfold GW;rw [mQ,ho];simp only [aZ];intro e he
   cases hb:Region.binds .any e with
   |false=>rfl
   |true=>
    have:=Z e he hb
    have ff:e.on<ops.size:=by
     grind
    simp only [anZ,an0,an,ana];refine⟨?_,by simpa [anP] using ff⟩
    cases alE:inL e.on rem with
    |false=>rfl
    |true=> exfalso;have hm:=I4.1 alE;simp_all
 have aeX: ∀(rem:List Nat) (listed:Array Bool),listed.size=ops.size->(∀i,i<ops.size->(listed[i]?=some true↔i∉rem))->(∀i∈rem,i<ops.size)->rem.any (GW ops.toList rem)=true->Region.ready .any ops listed≠[]:=by
  intro rem listed gT Y hr ajM nP;rw [aoH] at ajM;obtain⟨i,hi,hm⟩:=ajM;have u6:=hr i hi
  have:i∈Region.ready .any ops listed:=by
   rw [jF];unfold GW at hm;rw [mQ] at hm;split at hm
   ·rename_i o ho;refine⟨o,ho,?_,fun e he hb=>?_⟩
    ·have e1:listed[i]?=some (listed[i]'J):=by simp [gT,u6]
     simp only [anx,e1,aC]
     grind
    ·rw [aZ] at hm;have:=hm e he;rw [hb] at this;simp only [anZ,an0,an,ana] at this;obtain⟨this,ff⟩:=this;have ff:e.on<ops.size:=by simpa [anP] using ff
     have ajv:e.on∉rem:=fun h=>by rw [I4.2 h] at this; simp at this
     simp_all
   grind
  grind
 induction n with
 |zero=>
  intro rem S H E a w listed h hρ r sr ha gT Y hr hq;simp only [MI] at h;split at h
  ·simp only [an] at h;obtain⟨⟨⟨U,Z⟩,h3⟩,h4⟩:=h;have e1:=yA jE _ _ U;have e2:=yA (fun _ _=>NL) _ _ Z;have e3:=aq h3
   have e4:H.res=none:=by
    grind
   have eH:H=tH:=by
    obtain⟨m1,n1,r1⟩:=H;obtain⟨m2,n2,r2⟩:=tH
    grind
   subst e1 eH;refine⟨?_,hq a w E (eU.refl _ _ _) r sr ha rfl⟩;rw [aog];intro i hi;have:=(Xr [] listed gT Y i hi).1
   grind
  grind
 |succ n ih=>
  intro rem S H E a w listed h hρ r sr ha gT Y hr hq;simp only [MI] at h;split at h
  ·grind
  ·rename_i fJ;simp only [an] at h;refine⟨fun h0=>absurd h0 (aeX rem listed gT Y hr h.1),fun i hi=>?_⟩;obtain⟨g1,g2,g3⟩:=Xr rem listed gT Y i hi;have Jb:=(aZ.1 h.2) i g1;rw [g2] at Jb;simp only at Jb;split at Jb
   ·rename_i o ho;have yf:ops[i]?=some o:=by rw [<- mQ]; exact ho
    split at Jb
    ·rename_i v s' hev;have alT:=JL cI hc (ops:=ops) (o:=o) (s:=⟨S,H,pc⟩) (s':=s') (v:=v) (ρ:=ρ) hpc (by rw [hev]; rfl);refine alT.wpOp hρ r sr yf fun u E' w' st r' hv=>?_
     have hdo: ∀t,o.dst=some t->t<a.tmps.size:=by intro t ht;rw [ha];exact hd o (Array.mem_toList_iff.2 (aoC yf)) t ht
     have sr':SR E' w'.heap (uE S o.dst v) (a.put o.dst u):=Xa (sr.keep (st.keeps r)) hdo hv;refine ih (ss i rem) _ _ E' (a.put o.dst u) w' (listed.setIfInBounds i true) Jb (st.ρ.trans hρ) r' sr' (by rw [DI]; exact ha) (by simpa using gT) ?_ ?_ ?_
     ·intro k hk;rw [an1,qv]
      grind
     ·intro k hk;exact hr k (qv.1 hk).1
     ·intro a' w2 E2 qR r2 sr2 hs2 jW;exact hq a' w2 E2 (st.trans qR) r2 sr2 hs2 (by rw [jW,As.put_defers])
    grind
   grind
end
end
end Go.As
end
section
namespace Go.As
noncomputable section
def EP (o:Oper) (j:Nat):Bool:=o.after.toList.any fun e=>Region.binds .any e&&Nat.beq e.on j
def Iu (n1:Nat) (all:List Oper):Bool:=
 Nat.blt 0 n1&&Nat.ble n1 all.length&&
 (List.range all.length).all (fun j=>match eZ all j with
  |some o=>match Nat.blt j n1 with
   |true=>(o.after.toList.all fun e=>!Region.binds .any e||Nat.blt e.on j)&&(match o.guard with |some (k,_)=>Nat.blt k n1|none=>true)
   |false=>EP o (n1-1)
  |none=>false)&&
 (match eZ all (n1-1) with
  |some o=>(List.range (n1-1)).all fun i=>EP o i
  |none=>false)
structure Py (n1:Nat) (ops:Array Oper):Prop where
 pos:0<n1
 le:n1<=ops.size
 back: ∀(i:Nat) (o:Oper),i<n1->ops[i]?=some o->∀e∈o.after.toList,Region.binds .any e=true->e.on<i
 guard: ∀(i:Nat) (o:Oper),i<n1->ops[i]?=some o->∀k b,o.guard=some (k,b)->k<n1
 late: ∀(i:Nat) (o:Oper),n1<=i->ops[i]?=some o->∃e∈o.after.toList,Region.binds .any e=true/\e.on=n1-1
 last: ∀(o:Oper),ops[n1-1]?=some o->∀i,i<n1-1->∃e∈o.after.toList,Region.binds .any e=true/\e.on=i
theorem HI {o:Oper} {j:Nat} (h:EP o j=true): ∃e∈o.after.toList,Region.binds .any e=true/\e.on=j:=by unfold EP at h;rw [aoH] at h;simp_all
theorem NF {n1:Nat} {ops:Array Oper} (h:Iu n1 ops.toList=true):Py n1 ops:=by
 have mQ: ∀(i:Nat),eZ ops.toList i=ops[i]?:=fun i=>by rw [de,bw]
 unfold Iu at h;simp only [an] at h;obtain⟨⟨⟨U,Z⟩,h3⟩,h4⟩:=h;have U:0<n1:=by simpa [anP] using U
 have Z:n1<=ops.size:=by simpa using am9 Z
 rw [aZ] at h3
 have h3: ∀(i:Nat) (o:Oper),ops[i]?=some o->(match Nat.blt i n1 with
  |true=>(o.after.toList.all fun e=>!Region.binds .any e||Nat.blt e.on i)&&(match o.guard with |some (k,_)=>Nat.blt k n1|none=>true)
  |false=>EP o (n1-1))=true:=by
  intro i o ho;have hi:i<ops.size:=(amZ.1 ho).1;have:=h3 i (am2.2 (by simpa using hi));rw [mQ,ho] at this;exact this
 refine⟨U,Z,?_,?_,?_,?_⟩
 ·intro i o hi ho e he hb;have:=h3 i o ho;rw [show Nat.blt i n1=true by simpa [anP] using hi] at this;simp only [an] at this;have:=(aZ.1 this.1) e he;simp_all
 ·intro i o hi ho k b hg;have:=h3 i o ho;rw [show Nat.blt i n1=true by simpa [anP] using hi] at this;simp_all
 ·intro i o hi ho;have:=h3 i o ho
  rw [show Nat.blt i n1=false by
   cases hb:Nat.blt i n1 with
   |false=>rfl
   |true=>rw [anP] at hb; omega] at this
  exact HI this
 ·intro o ho i hi;rw [mQ,ho] at h4;exact HI ((aZ.1 h4) i (am2.2 hi))
section
variable {P:Program}
theorem wp_exit {o:Oper} {a:Act} {w:World} {K:Act->World->Prop} {Q1 Q:Exit->Act->World->Prop} (h: ∀e a w,e≠.normal->Q1 e a w->Q e a w) (hh:o.wp P a w K Q1):o.wp P a w K Q:=by
 have Y:LetsOut Q1->LetsOut Q:=fun⟨a,w,U⟩=> ⟨a,w,h _ _ _ ad U⟩;unfold Oper.wp at *;generalize (execOp a.eval o).run P w=r at *
 cases r with
 |ok n w'=>
  cases n<;>simp only [Oper.upon] at hh ⊢<;>
   first
    |exact hh
    |exact Calls.mono hh (fun e w'' he=>by cases e<;>first |exact he|exact h _ _ _ ad he|exact Y he)
 |halt x w'=>cases x<;>simp only [Oper.upon] at hh ⊢<;>first |exact hh|exact h _ _ _ ad hh
theorem Lj {l l':Nat->Bool} {i:Nat} (U:l i=false) (Z:l' i=true) (h: ∀j,j≠i->l' j=l j): ∀n,i<n->left l' n+1=left l n
 |0,hi=>by omega
 |n+1,hi=>by
  simp only [left];by_cases u6:i=n
  ·subst u6
   have: ∀m,m<=i->left l' m=left l m:=by
    intro m
    induction m with
    |zero=>intro _; rfl
    |succ m ih=>
     intro hm
     grind [left]
   grind
  ·have:=Lj U Z h n J
   grind
theorem Lk {l:Nat->Bool}: ∀n,(∀i,i<n->l i=true)->left l n=0
 |0,_=>rfl
 |n+1,h=>by simp only [left];rw [Lk n (fun i hi=>h i J),h n J];rfl
def vi (n1 n:Nat):Array Bool:=(Array.range n).map fun i=>decide (i<n1)
theorem Kw {n1:Nat} {ops:Array Oper} (sf:Py n1 ops) {Q Q1:Exit->Act->World->Prop} (hq: ∀e a w,e≠.normal->Q1 e a w->Q e a w) (hn: ∀a w,Q1 .normal a w->wpAny P .any ops Q (ops.size-n1) (vi n1 ops.size) a w) :
 ∀(f:Nat) (l1 l:Array Bool) (a:Act) (w:World),l1.size=n1->l.size=ops.size->(∀i,i<n1->l[i]?=l1[i]?)->(∀i,n1<=i->i<ops.size->l[i]?=some false)->left (fun i=>l1.getD i true) n1=f->(l1[n1-1]?=some true->f=0)->
  wpAny P .any (ops.toList.take n1).toArray Q1 f l1 a w->wpAny P .any ops Q (f+(ops.size-n1)) l a w:=by
 have hR: ∀i,i<n1->(ops.toList.take n1).toArray[i]?=ops[i]?:=by
  intro i hi
  grind
 have hRs:(ops.toList.take n1).toArray.size=n1:=by
  have:=sf.le
  grind
 have ra:LetsOut Q1->LetsOut Q:=fun⟨a,w,U⟩=> ⟨a,w,hq _ _ _ ad U⟩
 have u7: ∀(l:Array Bool) (i:Nat),i<l.size->(l.getD i true=true↔l[i]?=some true)/\(l.getD i false=true↔l[i]?=some true):=by intro l i hi;simp_all
 intro f
 induction f with
 |zero=>
  intro l1 l a w U Z h3 h4 h5 h6 hw;have s8:=AQ n1 h5
  have:l=vi n1 ops.size:=by
   grind [vi]
  rw [this,aA];exact hn a w hw.2
 |succ f ih=>
  intro l1 l a w U Z h3 h4 h5 h6 hw;rw [show f+1+(ops.size-n1)=(f+(ops.size-n1))+1 by omega];have hle:=sf.le;have jT:=sf.pos;have acz:l1[n1-1]?=some true->False:=fun h=>by have:=h6 h; omega
  refine⟨fun nP=>?_,fun i hi=>?_⟩
  ·exfalso
   have s8: ∀i,i<n1->l[i]?=some true:=by
    intro i
    induction i using Nat.strongRecOn with
    |_ i tP=>
     intro hi;apply Classical.byContradiction;intro Aj;have hio:ops[i]?=some (ops[i]'J):=ad
     have:i∈Region.ready .any ops l:=by
      rw [jF];refine⟨_,hio,?_,fun e he hb=>?_⟩
      ·grind
      ·have ff:=sf.back i _ hi hio e he hb
       grind
     grind
   grind
  ·obtain⟨o,ho,g1,g2⟩:=jF.1 hi;have u6:i<ops.size:=(amZ.1 ho).1
   have hi1:i<n1:=by
    rcases aW i n1 with h|h
    ·exact h
    ·exfalso;obtain⟨e,e1,e2,e3⟩:=sf.late i o h ho
     grind
   have AY:l1.getD i true=false:=by
    grind
   have hed: ∀e∈o.after.toList,Region.binds .any e=true->l1.getD e.on false=true:=by
    intro e he hb
    grind
   have hr1:i∈Region.ready .any (ops.toList.take n1).toArray l1:=by
    rw [jF]
    grind
   have w6:=hw.2 i hr1
   have acx: ∀a w,wpAny P .any (ops.toList.take n1).toArray Q1 f (l1.setIfInBounds i true) a w->wpAny P .any ops Q (f+(ops.size-n1)) (l.setIfInBounds i true) a w:=by
    intro a w hw2
    have RG:left (fun j=>(l1.setIfInBounds i true).getD j true) n1=f:=by
     have:=Lj (l:=fun j=>l1.getD j true) (l':=fun j=>(l1.setIfInBounds i true).getD j true) (i:=i) AY (by
      simp only [anx,Array.getElem?_setIfInBounds_self]
      split<;>rfl) (fun j hj=>by
      simp only [anx]
      rw [Array.getElem?_setIfInBounds_ne (fun e=>hj e.symm)]) n1 hi1
     omega
    refine ih _ _ a w (by simpa using U) (by simpa using Z) (fun k hk=>?_) (fun k hk1 CP=>?_) RG (fun ff=>?_) hw2
    ·grind
    ·grind
    ·by_cases dX:i=n1-1
     ·rw [<- RG];refine Lk n1 fun k hk=>?_;by_cases CP:k=i
      ·grind
      ·obtain⟨e,e1,e2,e3⟩:=sf.last o (by rw [<- dX]; exact ho) k J
       grind
     grind
   have w6:=wpOp_mono acx w6;unfold wpOp at w6 ⊢;rw [hR i hi1,ho] at w6;rw [ho];simp only at w6 ⊢
   have ajh:Region.wanted o (yielded (ops.toList.take n1).toArray a.tmps)=Region.wanted o (yielded ops a.tmps):=by
    unfold Region.wanted
    cases hg:o.guard with
    |none=>rfl
    |some g=>
     obtain⟨k,b⟩:=g;simp only;have:=sf.guard i o hi1 ho k b hg;unfold yielded
     grind
   rw [ajh] at w6;split
   ·rename_i hwt;rw [ag hwt] at w6;rcases w6 with h|⟨h,h'⟩
    ·exact .inl (wp_exit hq h)
    grind
   grind
end
end
end Go.As
end
section
namespace Go.As
noncomputable section
def DF (n1 n:Nat):List Nat:=(List.range (n-n1)).map fun k=>k+n1
def aiB:W->List Nat
 | .ptr i _=>[i]
 | .slice i _ _ _=>[i]
 |_=>[]
def afl (S:Tr W):List Nat->List Nat
 |[]=>[]
 |t::ts=>match S.get t with
  |some v=>aiB v++afl S ts
  |none=>afl S ts
def Rv (all:List Oper) (S:Tr W):List Nat->List Nat
 |[]=>[]
 |i::is=>match eZ all i with
  |some o=>afl S (DR o.op)++Rv all S is
  |none=>Rv all S is
def Xe (tt:TT) (call:eu) (all:List Oper) (pc:List (SB×Bool)):List Nat->Tr W->Hp->Option (Tr W×Hp)
 |[],S,H=>some (S,H)
 |i::is,S,H=>match eZ all i with
  |some o=>match F! tt call all o ⟨S,H,pc⟩ with
   | .ret (v,s')=>Xe tt call all pc is (uE S o.dst v) s'.h
   |_=>none
  |none=>none
def JT (tt:TT) (call:eu) (all:List Oper) (n1:Nat) (s1:St):T St:=
 match s1.h.res with
 |some _=> .fail
 |none=>match (⟨GH s1.h (Rv all s1.bF (DF n1 all.length)) .nil,s1.h.next,none⟩ : Hp) with
  |small=>match Xe tt call all s1.pc (DF n1 all.length) s1.bF small with
   |some (S,H)=>match H.res with
    |none=>match Nat.beq H.next s1.h.next&&MI tt call all s1.pc S H (all.length-n1) (DF n1 all.length) s1.bF small with
     |true=> .ret ⟨S,⟨Tr.over H.m (Tr.minus small.m s1.h.m),s1.h.next,none⟩,s1.pc⟩
     |false=> .fail
    |some _=> .fail
   |none=> .fail
structure Ag where
 ord:List Nat
 n1:Nat
 h:MP
def EY (tt:TT) (H:Nat->Nat->Option Ag) (call:eu) (g id:Nat) (all:List Oper) (s:St):T St:=match H g id with
 |some p=>match p.n1 with
  |0=>match p.ord with
   |[]=>EZ tt call all (statOf all p.h) s
   |o::os=>match fY (o::os) all with
    |t_=>EZ tt call t_ (statOf t_ p.h) s
  |n1=>(EZ tt call (all.take n1) (statOf (all.take n1) p.h) s).bind (JT tt call all n1)
 |none=> .fail
def J3 (tt:TT) (H:Nat->Nat->Option Ag) (g id:Nat) (all:List Oper):Bool:=match H g id with
 |some p=>match p.n1 with
  |0=>match p.ord with
   |[]=>u5 tt all p.h
   |o::os=>IF (o::os) all.length&&u5 tt (fY (o::os) all) p.h
  |n1=>Iu n1 all&&u5 tt (all.take n1) p.h
 |none=>true
section
variable {P:Program}
theorem GV {n1 n i:Nat} (h:n1<=n):i∈DF n1 n↔n1<=i/\i<n:=by
 unfold DF;rw [aH];constructor
 ·rintro⟨k,hk,rfl⟩
  grind
 ·rintro⟨U,Z⟩;exact⟨i-n1,am2.2 J,J⟩
theorem T7 (n:Nat): ∀m,m<=n->left (fun i=>(Array.replicate n false).getD i true) m=m:=by
 intro m
 induction m with
 |zero=>intro _; rfl
 |succ m ih=>
  intro hm;have ff:m<n:=J
  simp only [left];rw [ih J];simp [ff]
theorem Pj [bH] {tt:TT} (cI:eC P tt) {call:eu} (hc:im P call) {ops:Array Oper} {n1:Nat} (sf:Py n1 ops) {E:En} {s s1 s':St} {a a1:Act} {w w1:World} {Q:Exit->Act->World->Prop}
 (hd: ∀o∈ops.toList,∀d,o.dst=some d->d<a.tmps.size) (ht:mM E s a w s1 a1 w1) (h:(JT tt call ops.toList n1 s1).leaf E.ρ=some s') (hq: ∀a' w',mM E s a w s' a' w'->Q .normal a' w') :
 wpAny P .any ops Q (ops.size-n1) (vi n1 ops.size) a1 w1:=by
 obtain⟨d1,z1,E1,Ax,f1⟩:=ht;have hlen:ops.toList.length=ops.size:=bo;unfold JT at h;split at h
 ·simp [T.leaf] at h
 ·rename_i xK;simp only at h;split at h
  ·rename_i S H amF;split at h
   ·rename_i hHr;split at h
    ·rename_i s8;simp only [an] at s8;have hnx:=aq s8.1;have:=bD h;subst this
     have nO: ∀id o,(⟨GH s1.h (Rv ops.toList s1.bF (DF n1 ops.toList.length)) .nil,s1.h.next,none⟩ : Hp).get id=some o->s1.h.get id=some o:=
      fun id o hg=>AI _ _ (fun _ _ hh=>by simp [Tr.get] at hh) id o hg
     have rs:=f1.rel.part nO (au _) ad;have hpc:bV E1.ρ s1.pc:=f1.pc;have U9:=s8.2;rw [hlen] at U9;refine s? cI hc (ops:=ops) (ρ:=E1.ρ) (pc:=s1.pc) hpc hHr (m:=a.tmps.size) hd (ops.size-n1) (DF n1 ops.size) s1.bF _ E1 a1 w1 (vi n1 ops.size) U9 rfl (by rw [hlen] at rs; exact rs) f1.sr z1 (by simp [vi]) ?_ ?_ ?_
     ·intro i hi;rw [GV sf.le];unfold vi
      grind
     ·intro i hi;exact ((GV sf.le).1 hi).2
     ·intro a2 w2 E2 qR r2 sr2 z2 d2;rw [hlen] at nO;obtain⟨Hc,e0,_,_,r3,KD⟩:=YV f1.rel nO qR r2 s1.h.next (fun id hid=>r2.fresh id J)
      have ew:=KD.WY (by rw [e0]; exact au _) (by rw [e0]) (fun id qA=>by
       rcases qR.f_ id qA with U|U|U
       ·exact .inl U
       ·have RO:s1.h.next<=id/\id<H.next:=U;omega
       ·simp at U)
      subst e0;refine hq a2 w2 ⟨d2.trans d1,z2,E2,Ax.trans ?_,?_⟩
      ·grind
      ·refine⟨by rw [hlen]; exact r3,sr2,?_⟩;show bV E2.ρ s1.pc;rw [qR.ρ]
       grind
    ·simp [T.leaf] at h
   ·simp [T.leaf] at h
  ·simp [T.leaf] at h
theorem vt [bH] {tt:TT} (cI:eC P tt) (hm:P.follows .mixedOrders=true) {H:Nat->Nat->Option Ag} {call:eu} (hc:im P call) (g:Nat):vF P (J3 tt H g) (EY tt H call g):=by
 intro id ops hk E s s' a w Q hd fit h hq;unfold J3 at hk;unfold EY at h;split at hk
 ·rename_i p hp;rw [hp] at h;simp only at h;split at hk
  ·rename_i hn;rw [hn] at h;simp only at h
   have hP:=e! (P:=P) cI hm (H:=fun _ _=>some ⟨p.ord,p.h⟩) hc g id ops (by
    unfold agw
    exact hk) E s s' a w Q hd fit (by
    unfold e?
    exact h) hq
   exact hP
  ·rename_i n1 hn;split at h
   ·rename_i h0
    grind
   ·rename_i n1' _;simp only [an] at hk;have sf:=NF hk.1;have AT:=AZ hk.2;obtain⟨s1,U,Z⟩:=T.fh h;refine wp_region_any hm ?_;have hle:=sf.le;have hRs:(ops.toList.take p.n1).toArray.size=p.n1:=by simp; omega
    have xM: ∀o∈(ops.toList.take p.n1).toArray.toList,∀d,o.dst=some d->d<a.tmps.size:=by
     intro o ho
     grind
    have key:=EX (P:=P) (ops:=(ops.toList.take p.n1).toArray) (Q:=fun e a' w'=>match e with | .normal=>wpAny P .any ops Q (ops.size-p.n1) (vi p.n1 ops.size) a' w'|e=>Q e a' w') cI hc xM fit (s':=s1) (by
     unfold draw;rw [List.toList_toArray,AT]
     exact U) (fun a' w' ht=>Pj cI hc sf hd ht Z hq)
    rw [hRs] at key
    have:=Kw sf (Q:=Q) (fun e a w fJ hh=>by
     cases e with
     |normal=>exact absurd rfl fJ
     |_=>exact hh) (fun a w hh=>hh) p.n1 (Array.replicate p.n1 false) (Array.replicate ops.size false) a _ ad ad (fun i hi=>by
     rw [anO,anO,ag hi,ag J]) (fun i _ hi=>by
     rw [anO,ag hi]) (by
     exact T7 p.n1 p.n1 (au _)) (fun hh=>by
     rw [anO,ag (by have:=sf.pos; omega)] at hh
     simp at hh) key
    grind
 ·rename_i hh;rw [hh] at h;simp [T.leaf] at h
end
end
end Go.As
end
section
namespace Go.As
noncomputable section
def lim {α:Type} (n:Nat) (t:Tr α) (k:Nat):Option α:=match Nat.ble n k with
 |true=>none
 |false=>t.get k
theorem QV {α:Type} {n:Nat} {t:Tr α} {f:Nat->Option α} (h:(List.range n).map t.get=(List.range n).map f) {k:Nat} {x:α} (hk:lim n t k=some x):f k=some x:=by
 unfold lim at hk;split at hk
 ·grind
 ·rename_i hle
  have ff:k<n:=by
   have: ¬(n<=k):=by
    intro h;rw [an2 h] at hle
    grind
   omega
  have:=congrArg (fun l=>l[k]?) h
  grind
section
variable {P:Program}
theorem L? {n:Nat} {tab:Tr TI} (h:(List.range n).map tab.get=(List.range n).map (N? P)):eC P (lim n tab):=fun _ _ hk=>N! (QV h hk)
def ae3 (qO:Nat->List Oper->Bool) (f:Func):Bool:=!(f.name == "runtime.NumGoroutine")&&(match f.body with |some c=>jP qO f.ntmps c|none=>true)
def hAt {α:Type} (t:Tr (Tr α)) (g id:Nat):Option α:=match t.get g with
 |some u=>u.get id
 |none=>none
theorem aaA {n:Nat} {Jh:Tr Func} (h:(List.range n).map Jh.get=(List.range n).map (fun g=>P.funcs[g]?)) {qO:Nat->Nat->List Oper->Bool} (hc:(List.range n).all (fun g=>match Jh.get g with |some f=>ae3 (qO g) f|none=>true)=true):UY P qO (lim n Jh):=by
 intro g fn hk;have U:=QV h hk;refine⟨U,?_⟩
 have ff:g<n:=by
  unfold lim at hk;split at hk
  ·grind
  ·rename_i hle;rcases aW g n with h|h
   ·exact h
   ·rw [an2 h] at hle; simp at hle
 have u7:Jh.get g=some fn:=by
  unfold lim at hk
  grind
 have:=aZ.1 hc g (am2.2 ff);rw [u7] at this;simp only [ae3,an,ana] at this
 grind
end
end
end Go.As
end
section
namespace Go.As
noncomputable section
structure Ren where
 ns:List V
 bl:List Nat
 sh:List Nat
def Ren.se (r:Ren):V->V
 | .lit n=> .lit n
 | .dG i=>match eZ r.ns i with |some e=>e|none=> .dG i
 | .add a b=> .add (r.se a) (r.se b)
 | .sub a b=> .sub (r.se a) (r.se b)
 | .mul a b=> .mul (r.se a) (r.se b)
 | .quo a b=> .quo (r.se a) (r.se b)
 | .rem a b=> .rem (r.se a) (r.se b)
 | .wrap k a=> .wrap k (r.se a)
 | .v7 b e=> .v7 b (r.se e)
 | .ei d=> .ei d
 | .op o a b=>match o with
   | .len=>dM (r.se a)
   |o=> .op o (r.se a) (r.se b)
 | .ap f a=> .ap f (r.se a)
def Ren.sb (r:Ren):SB->SB
 | .lit b=> .lit b
 | .lt a b=>gV (r.se a) (r.se b)
 | .le a b=> .le (r.se a) (r.se b)
 | .eq a b=>qS (r.se a) (r.se b)
 | .not s=> .not (r.sb s)
 | .and a b=> .and (r.sb a) (r.sb b)
def Ren.id (r:Ren) (i:Nat):Nat:=match eZ r.bl i with |some j=>j|none=>0
def Ren.uf (r:Ren) (i:Nat):Nat:=match eZ r.sh i with |some j=>j|none=>0
mutual
def Ren.av (r:Ren):W->W
 | .bool b=> .bool (r.sb b)
 | .int k e=> .int k (r.se e)
 | .str s=> .str s
 | .ptr i o=> .ptr (r.id i) (r.uf i+o)
 | .sL=> .sL
 | .mK cs=> .mK (r.Co cs)
 | .slice i o l c=> .slice (r.id i) (r.uf i+o) l c
 | .dq=> .dq
 | .ro cs n f=> .ro (r.Co cs) n f
 | .map i=> .map (r.id i)
 | .qX=> .qX
 | .func f a b=> .func f (r.Co a) (r.Co b)
 | .uR=> .uR
 | .iface t v=> .iface t (r.av v)
 | .wI=> .wI
 | .agg cs=> .agg (r.Co cs)
 | .tuple cs=> .tuple (r.Co cs)
 | .Kh i=> .Kh i
 | .v7 k ks=> .v7 k ks
 | .emp=> .emp
 | .ei e t=> .ei (r.se e) t
 | .jC e=> .jC (r.se e)
 | .ow i n t=>match r.uf i with
   |0=> .ow (r.id i) (r.se n) t
   |_=> .Kh 0
 | .yi i es x o=>match r.uf i with
   |0=> .yi (r.id i) es (r.se x) o
   |_=> .Kh 0
 | .sk i lo n t=>match r.uf i with
   |0=> .sk (r.id i) (r.se lo) (r.se n) t
   |_=> .Kh 0
 | .any=> .any
 | .wL z t=> .wL (r.se z) t
def Ren.Co (r:Ren):List W->List W
 |[]=>[]
 |x::xs=>r.av x::r.Co xs
end
mutual
def lB (n:Nat):W->Bool
 | .ptr i _=>Nat.blt i n
 | .slice i _ _ _=>Nat.blt i n
 | .map i=>Nat.blt i n
 | .ow i _ _=>Nat.blt i n
 | .yi i _ _ _=>Nat.blt i n
 | .sk i _ _ _=>Nat.blt i n
 | .mK cs=>oh n cs
 | .ro cs _ _=>oh n cs
 | .func _ a b=>oh n a&&oh n b
 | .iface _ v=>lB n v
 | .agg cs=>oh n cs
 | .tuple cs=>oh n cs
 |_=>true
def oh (n:Nat):List W->Bool
 |[]=>true
 |x::xs=>lB n x&&oh n xs
end
def Ren.env (r:Ren) (ρ:Nat->Int) (i:Nat):Int:=match eZ r.ns i with |some e=>e.den ρ|none=>ρ i
theorem GP {α:Type}: ∀{l:List α} {i:Nat},l.length<=i->eZ l i=none
 |[],_,_=>rfl
 |_::_,0,h=>by simp at h
 |_::l,i+1,h=>by simp only [eZ]; exact GP (by simpa using h)
theorem Ren.lD {r:Ren} (h:r.ns.length<=900) {ρ:Nat->Int} {i:Nat} (hi:900<=i):r.env ρ i=ρ i:=by
 grind [Ren.env,GP]
theorem Ren.ep {r:Ren} (h:r.ns.length<=900) (ρ:Nat->Int): ∀e:V,(r.se e).den ρ=e.den (r.env ρ)
 | .lit n=>rfl
 | .dG i=>by simp only [Ren.se,V.den,Ren.env];split<;>rfl
 | .add a b=>by simp only [Ren.se,V.den,Ren.ep h ρ a,Ren.ep h ρ b]
 | .sub a b=>by simp only [Ren.se,V.den,Ren.ep h ρ a,Ren.ep h ρ b]
 | .mul a b=>by simp only [Ren.se,V.den,Ren.ep h ρ a,Ren.ep h ρ b]
 | .quo a b=>by simp only [Ren.se,V.den,Ren.ep h ρ a,Ren.ep h ρ b]
 | .rem a b=>by simp only [Ren.se,V.den,Ren.ep h ρ a,Ren.ep h ρ b]
 | .wrap k a=>by simp only [Ren.se,V.den,Ren.ep h ρ a]
 | .v7 b e=>by simp only [Ren.se,V.den,Ren.ep h ρ e];rw [Ren.lD h J]
 | .ei d=>rfl
 | .op o a b=>by
   cases o with
   |len=> simp only [Ren.se,cm,Ren.ep h ρ a];simp [V.den,e9.den]
   |_=>simp only [Ren.se,V.den,Ren.ep h ρ a,Ren.ep h ρ b]
 | .ap f a=>by simp only [Ren.se,V.den,Ren.ep h ρ a];rw [Ren.lD h (by unfold ja; omega)]
theorem Ren.AB {r:Ren} (h:r.ns.length<=900) (ρ:Nat->Int): ∀c:SB,(r.sb c).den ρ=c.den (r.env ρ)
 | .lit b=>rfl
 | .lt a b=>by simp only [Ren.sb,dR,SB.den,Ren.ep h]
 | .le a b=>by simp only [Ren.sb,SB.den,Ren.ep h]
 | .eq a b=>by simp only [Ren.sb,gG,SB.den,Ren.ep h]
 | .not s=>by simp only [Ren.sb,SB.den,Ren.AB h ρ s]
 | .and a b=>by simp only [Ren.sb,SB.den,Ren.AB h ρ a,Ren.AB h ρ b]
def En.gL (E:En) (r:Ren):En:={ ρ:=r.env E.ρ,θ:=fun i=>((E.θ (r.id i)).1,(E.θ (r.id i)).2+r.uf i),κ:=fun i=>E.κ (r.id i)-r.uf i,dm:=fun i=>i<r.bl.length/\E.dm (r.id i),ro:=E.ro,hd:=E.hd }
theorem xY {i n:Nat} (h:Nat.blt i n=true):i<n:=by simp_all
mutual
theorem VR.gL {E:En} {r:Ren} {h:Array Obj} (Y:r.ns.length<=900): ∀(x:W) (u:Value),lB r.bl.length x=true->VR E h (r.av x) u->VR (E.gL r) h x u
 | .bool b,u,_,hv=>by simp only [Ren.av,VR,En.gL,Ren.AB Y] at *; exact hv
 | .int k e,u,_,hv=>by simp only [Ren.av,VR,En.gL,Ren.ep Y] at *; exact hv
 | .str s,u,_,hv=>by simp only [Ren.av,VR] at *; exact hv
 | .ptr i o,u,hi,hv=>by simp only [Ren.av,VR,En.gL,lB] at *; exact⟨by rw [hv.1,amR],xY hi,hv.2⟩
 | .sL,u,_,hv=>by simp only [Ren.av,VR] at *; exact hv
 | .mK cs,u,hi,hv=>by simp only [Ren.av,VR,lB] at *;obtain⟨b,o,us,U,Z,h3,h4⟩:=hv;exact⟨b,o,us,U,Z,ct.gL Y cs us hi h3,h4⟩
 | .slice i o l c,u,hi,hv=>by
   simp only [Ren.av,VR,lB] at *;obtain⟨U,a,cap,Z,h3,h4⟩:=hv;refine⟨⟨xY hi,U⟩,a,cap,Z,h3,?_⟩
   cases c with
   |exact k=>
    simp only [eD,En.gL] at *
    grind
   |rest es=>
    simp only [eD,En.gL] at *
    grind
 | .dq,u,_,hv=>by simp only [Ren.av,VR] at *; exact hv
 | .ro cs n f,u,hi,hv=>by simp only [Ren.av,VR,lB] at *;obtain⟨b,o,cap,us,U,Z,h3,h4,h5,h6⟩:=hv;exact⟨b,o,cap,us,U,Z,h3,h4,ct.gL Y cs us hi h5,h6⟩
 | .map i,u,hi,hv=>by simp only [Ren.av,VR,En.gL,lB] at *; exact⟨hv.1,xY hi,hv.2⟩
 | .qX,u,_,hv=>by simp only [Ren.av,VR] at *; exact hv
 | .func f a b,u,hi,hv=>by simp only [Ren.av,VR,lB,an] at *;obtain⟨us,ws,U,Z,h3⟩:=hv;exact⟨us,ws,U,ct.gL Y a us hi.1 Z,ct.gL Y b ws hi.2 h3⟩
 | .uR,u,_,hv=>by simp only [Ren.av,VR] at *; exact hv
 | .iface t v,u,hi,hv=>by simp only [Ren.av,VR,lB] at *;obtain⟨y,U,Z⟩:=hv;exact⟨y,U,VR.gL Y v y hi Z⟩
 | .wI,u,_,hv=>by simp only [Ren.av,VR] at *; exact hv
 | .agg cs,u,hi,hv=>by simp only [Ren.av,VR,lB] at *;obtain⟨us,U,Z⟩:=hv;exact⟨us,U,ct.gL Y cs us hi Z⟩
 | .tuple cs,u,hi,hv=>by simp only [Ren.av,VR,lB] at *;obtain⟨us,U,Z⟩:=hv;exact⟨us,U,ct.gL Y cs us hi Z⟩
 | .Kh i,u,_,hv=>by simp only [Ren.av,VR] at hv
 | .v7 k ks,u,_,hv=>by
   simp only [Ren.av,VR,En.gL] at *;rw [Ren.lD Y J];rcases hv with hv|⟨b,o,n,cap,U,Z,h3,h4,h5⟩
   ·grind
   ·refine .inr ⟨b,o,n,cap,U,Z,h3,h4,fun i j kd hi hj=>?_⟩;rw [Ren.lD Y J]
    grind
 | .emp,u,_,hv=>by simp only [Ren.av,VR] at *; exact hv
 | .ei e t,u,_,hv=>by simp only [Ren.av,VR,En.gL,Ren.ep Y] at *; exact hv
 | .jC e,u,_,hv=>by simp only [Ren.av,VR,En.gL,Ren.ep Y] at *; exact hv
 | .ow i n t,u,hi,hv=>by
   simp only [Ren.av] at hv;split at hv
   ·rename_i hs;simp only [VR,En.gL,lB,Ren.ep Y] at *;obtain⟨U,k,a,cap,Z,h3,h4,h5⟩:=hv;refine⟨⟨xY hi,U⟩,k,a,cap,Z,h3,h4,?_⟩;simp only [eD,hs] at *
    grind
   ·simp [VR] at hv
 | .any,u,_,_=>by simp only [VR]
 | .wL z t,u,_,hv=>by simp only [Ren.av,VR,En.gL,Ren.ep Y] at *; exact hv
 | .sk i lo n t,u,hi,hv=>by
   simp only [Ren.av] at hv;split at hv
   ·rename_i hs;simp only [VR,En.gL,lB,Ren.ep Y] at *;obtain⟨U,l,k,a,cap,Z,h3,h4,h5,h6⟩:=hv;refine⟨⟨xY hi,U⟩,l,k,a,cap,Z,h3,h4,h5,?_⟩;simp only [eD,hs] at *
    grind
   ·simp [VR] at hv
 | .yi i es x o,u,hi,hv=>by
   simp only [Ren.av] at hv;split at hv
   ·rename_i hs;simp only [VR,En.gL,lB,Ren.ep Y] at *;obtain⟨U,k,Z,h3⟩:=hv;exact⟨⟨xY hi,U⟩,k,Z,by rw [h3,hs,bj]⟩
   ·simp [VR] at hv
theorem ct.gL {E:En} {r:Ren} {h:Array Obj} (Y:r.ns.length<=900): ∀(xs:List W) (us:List Value),oh r.bl.length xs=true->ct E h (r.Co xs) us->ct (E.gL r) h xs us
 |[],us,_,hv=>by simp only [Ren.Co,ct] at *; exact hv
 |x::xs,us,hi,hv=>by simp only [Ren.Co,ct,oh,an] at *;obtain⟨u,vs,U,Z,h3⟩:=hv;exact⟨u,vs,U,VR.gL Y x u hi.1 Z,ct.gL Y xs vs hi.2 h3⟩
end
theorem abi {E:En} {r:Ren} {h:Array Obj} {xs ys:List W} {us:List Value} (hs:iA (r.Co xs) ys=true) (hv:ct E h ys us):ct E h (r.Co xs) us:=by
 grind [fL]
def rK (r:Ren):List (W×W×Nat)->List (W×W×Nat)->Bool
 |[],[]=>true
 |(k,v,_)::xs,(k',v',_)::ys=>match eM (r.av k) k' with
  |true=>match eM (r.av v) v' with
   |true=>rK r xs ys
   |false=>false
  |false=>false
 |_,_=>false
def JM (n:Nat):List (W×W×Nat)->Bool
 |[]=>true
 |(k,v,_)::xs=>lB n k&&lB n v&&JM n xs
def K4 (n:Nat):List (V×List W)->Bool
 |[]=>true
 |(_,cs)::l=>oh n cs&&K4 n l
def mz (r:Ren):List (V×List W)->List (V×List W)->Bool
 |[],[]=>true
 |(i,a)::x,(j,b)::y=>eV (r.se i) j&&iA (r.Co a) b&&mz r x y
 |_,_=>false
def LY (n:Nat):List (V×W)->Bool
 |[]=>true
 |(_,v)::l=>lB n v&&LY n l
def mA (r:Ren):List (V×W)->List (V×W)->Bool
 |[],[]=>true
 |(i,a)::x,(j,b)::y=>eV (r.se i) j&&eM (r.av a) b&&mA r x y
 |_,_=>false
def K6 (n:Nat):dN->Bool
 | .uc _ _ _ ov=>LY n ov
 | .vec _ _ _ ov=>K4 n ov
 | .cells cs _=>oh n cs
 | .map es _=>JM n es
 | .j4 _ _=>true
 | .jt _ _ _ _=>false
 | .jS _ _=>true
def ef (r:Ren) (k:Nat):dN->dN->Bool
 | .cells cs e,.cells ds f=>match Nat.beq e f with
   |true=>match eF k ds with
    |some ds=>iA (r.Co cs) ds
    |none=>false
   |false=>false
 | .map es k,.map fs _=>rK r es fs&&Nat.beq k 0
 | .j4 s p,.j4 t q=>gC s t&&Nat.beq p q&&Nat.beq k 0
 | .jS e t,.jS e' t'=>eV (r.se e) e'&&Nat.beq t t'&&Nat.beq k 0
 | .uc e t e8 ov,.uc e' t' ahB iQ=>eV (r.se e) e'&&Nat.beq t t'&&decide (e8=ahB)&&mA r ov iQ&&Nat.beq k 0
 | .vec e t ty ov,.vec e' t' VN iQ=>eV (r.se e) e'&&Nat.beq t t'&&Nat.beq ty VN&&mz r ov iQ&&Nat.beq k 0
 |_,_=>false
theorem eL.gL {E:En} {r:Ren} {h:Array Obj} (Y:r.ns.length<=900): ∀{xs ys:List (W×W×Nat)} {es:List MapEntry},JM r.bl.length xs=true->rK r xs ys=true->eL E h ys es->eL (E.gL r) h xs es
 |[],[],es,_,_,h=>by simp only [eL] at *; exact h
 |[],_::_,_,_,hs,_=>by simp [rK] at hs
 |(_,_,_)::_,[],_,_,hs,_=>by simp [rK] at hs
 |(k,v,b)::xs,(k',v',b')::ys,es,hi,hs,h=>by
  simp only [JM,an] at hi;simp only [rK] at hs;simp only [eL] at *;obtain⟨e,rr,rfl,U,Z,_,h4⟩:=h;split at hs
  ·rename_i e1;split at hs
   ·rename_i e2;refine⟨e,rr,rfl,VR.gL Y k _ hi.1.1 (by rw [jE _ _ e1]; exact U),VR.gL Y v _ hi.1.2 (by rw [jE _ _ e2]; exact Z),trivial,eL.gL Y hi.2 hs h4⟩
   grind
  grind
theorem pY {r:Ren}: ∀xs:List W,(r.Co xs).length=xs.length
 |[]=>rfl
 |_::xs=>by simp [Ren.Co,pY xs]
theorem GK {r:Ren} (Y:r.ns.length<=900) {ρ:Nat->Int} {i:Nat}: ∀{ov iQ:List (V×List W)},mz r ov iQ=true->dW ρ i iQ=(dW (r.env ρ) i ov).map r.Co
 |[],[],_=>rfl
 |[],_::_,h=>by simp [mz] at h
 |_::_,[],h=>by simp [mz] at h
 |(j,a)::x,(k,b)::y,h=>by
  simp only [mz,an] at h;have U:=cG _ _ h.1.1;have Z:=fL _ _ h.1.2;simp only [dW];rw [<- U,Ren.ep Y,<- Z,GK Y h.2]
  grind
theorem GJ {n:Nat}: ∀{ov:List (V×List W)},K4 n ov=true->∀p∈ov,oh n p.2=true
 |[],_,p,hp=>by simp at hp
 |(j,a)::x,h,p,hp=>by
  simp only [K4,an] at h;rcases ax.1 hp with rfl|hp
  ·grind
  ·exact GJ h.2 p hp
theorem tA {E:En} {r:Ren} {h:Array Obj} (Y:r.ns.length<=900) {row:Row} {ov iQ:List (V×List W)} (hs:mz r ov iQ=true) (hi:K4 r.bl.length ov=true): ∀(ds:List D) (i:Nat) {us:List Value},
 ct E h (bE E.ρ row iQ ds i) us->ct (E.gL r) h (bE (E.gL r).ρ row ov ds i) us
 |[],_,us,hv=>by simp only [bE,ct] at *; exact hv
 |d::ds,i,us,hv=>by
  simp only [bE] at *;obtain⟨a,b,rfl,U,Z⟩:=hv.split;refine ct.append ?_ (tA Y hs hi ds (i+1) Z);rw [GK Y hs] at U;show ct (E.gL r) h (match dW (r.env E.ρ) i ov with |some cs=>cs|none=>gz row (.ei d)) a
  cases ho:dW (r.env E.ρ) i ov with
  |none=> rw [ho] at U;simp only [Option.map_none] at U;exact (fA (E:=E.gL r)).2 (show uh E.ro h row (dec (enc d)) a from (fA (E:=E)).1 U)
  |some cs=> rw [ho] at U;simp only [br] at U;obtain⟨p,p1,p2,_⟩:=kI ho;exact ct.gL Y cs a (by rw [<- p2]; exact GJ hi p p1) U
theorem Dy {r:Ren} {row:Row}: ∀{ov iQ:List (V×List W)},mz r ov iQ=true->sK row iQ->sK row ov
 |[],[],_,h=>h
 |[],_::_,h,_=>by simp [mz] at h
 |_::_,[],h,_=>by simp [mz] at h
 |(j,a)::x,(k,b)::y,h,ho=>by
  simp only [mz,an] at h;intro p hp;rcases ax.1 hp with rfl|hp
  ·have:=congrArg List.length (fL _ _ h.1.2);rw [pY] at this;simp only;rw [this];exact ho (k,b) ad
  ·exact Dy h.2 (fun q hq=>ho q (by simp [hq])) p hp
theorem QK {r:Ren} (Y:r.ns.length<=900) {ρ:Nat->Int} {n:Int}: ∀{ov iQ:List (V×W)},mA r ov iQ=true->lJ ρ n iQ=(lJ (r.env ρ) n ov).map r.av
 |[],[],_=>rfl
 |[],_::_,h=>by simp [mA] at h
 |_::_,[],h=>by simp [mA] at h
 |(j,a)::x,(k,b)::y,h=>by simp only [mA,an] at h;have U:=cG _ _ h.1.1;have Z:=jE _ _ h.1.2;simp only [lJ];rw [<- U,Ren.ep Y,<- Z,QK Y h.2];split<;>simp
theorem yB {r:Ren} (Y:r.ns.length<=900) {ρ:Nat->Int}: ∀{ov iQ:List (V×W)},mA r ov iQ=true->(ov.map fun p=>p.1.den (r.env ρ))=iQ.map fun p=>p.1.den ρ
 |[],[],_=>rfl
 |[],_::_,h=>by simp [mA] at h
 |_::_,[],h=>by simp [mA] at h
 |(j,a)::x,(k,b)::y,h=>by simp only [mA,an] at h;have U:=cG _ _ h.1.1;simp only [aw];rw [<- U,Ren.ep Y,yB Y h.2]
theorem Ah.congr {ρ ρ':Nat->Int} {ds:List D} {ov iQ:List (V×W)} (h:Ah ρ ds ov) (hk:(iQ.map fun p=>p.1.den ρ')=ov.map fun p=>p.1.den ρ):Ah ρ' ds iQ:=by refine⟨h.1,fun p hp=>?_,by rw [hk]; exact h.2.2⟩;have:p.1.den ρ'∈iQ.map fun p=>p.1.den ρ':=aH.2 ⟨p,hp,rfl⟩;rw [hk] at this;obtain⟨q,hq,he⟩:=aH.1 this;rw [<- he];exact h.2.1 q hq
theorem Hq {n:Nat} {ρ:Nat->Int} {m:Int} {v:W}: ∀{ov:List (V×W)},LY n ov=true->lJ ρ m ov=some v->lB n v=true
 |[],_,h=>by simp [lJ] at h
 |(_,u)::l,hi,h=>by
  simp only [LY,an] at hi;simp only [lJ] at h;split at h
  ·simp only [ah] at h; subst h; exact hi.1
  ·exact Hq hi.2 h
theorem oR.gL {E:En} {r:Ren} {h:Array Obj} (Y:r.ns.length<=900) {B:Nat} {key:D} {j ty:Nat} {c:FC} {d:D} {u:Value} (ho:oR E h B key j ty c d u):oR (E.gL r) h B key j ty c d u:=by
 cases c with
 |ck c=>exact ho
 |mp t=>exact ho
 |own t=>
  rcases ho with ho|⟨b,o,n,cap,a,arr,lo,hi,U,Z,h3,h4,h5,h6,h7⟩
  ·exact .inl ho
  ·refine .inr ⟨b,o,n,cap,a,arr,lo,hi,U,Z,h3,h4,h5,h6,?_⟩;rcases h7 with h7|⟨g1,g2,us,g3,g4⟩
   ·exact .inl h7
   ·exact .inr ⟨g1,g2,us,tA Y (ov:=[]) (iQ:=[]) rfl rfl _ _ g3,g4⟩
theorem p9.gL {E:En} {r:Ren} {h:Array Obj} (Y:r.ns.length<=900) {B t:Nat} {e8:List Nat} {key d:D} {v:Value} (ho:p9 E h B t e8 key d v):p9 (E.gL r) h B t e8 key d v:=by
 unfold p9 at *;split at ho
 ·obtain⟨c,U,Z⟩:=ho;exact⟨c,U,Z.gL Y⟩
 ·obtain⟨b,o,arr,lo,hi,U,Z,h3,h4,h5,h6⟩:=ho;refine⟨b,o,arr,lo,hi,U,Z,h3,h4,h5,fun j c hc=>?_⟩;obtain⟨u,g1,g2,g3⟩:=h6 j c hc;exact⟨u,g1,g2,g3.gL Y⟩
theorem eR.gL {E:En} {r:Ren} {h:Array Obj} (Y:r.ns.length<=900) {B t:Nat} {e8:List Nat} {ov iQ:List (V×W)} (hs:mA r ov iQ=true) (hi:LY r.bl.length ov=true): ∀{ds:List D} {es:List MapEntry},eR E h B t e8 iQ ds es->eR (E.gL r) h B t e8 ov ds es
 |[],_,ho=>ho
 |d::ds,_,⟨e,rr,n,U,Z,h3,h4,h5⟩=>by
  refine⟨e,rr,n,U,Z,h3,?_,eR.gL Y hs hi h5⟩;have he:=QK Y (ρ:=E.ρ) (n:=n) hs
  show match lJ (r.env E.ρ) n ov with |some v=>VR (E.gL r) h v e.val|none=>p9 (E.gL r) h B t e8 (.i n) (FY d) e.val
  cases hv:lJ (r.env E.ρ) n ov with
  |none=> rw [hv] at he;rw [he] at h4;exact h4.gL Y
  |some v=> rw [hv] at he;rw [he] at h4;exact VR.gL Y v _ (Hq hi hv) h4
theorem OR.gL {E:En} {r:Ren} {h:Array Obj} (Y:r.ns.length<=900) {id:Nat} {o o':dN} (hi:K6 r.bl.length o=true) (hs:ef r (r.uf id) o o'=true) (ho:OR E h (r.id id) o'):OR (E.gL r) h id o:=by
 cases o with
 |cells cs e=>
  cases o' with
  |jt _ _ _ _=>simp [ef] at hs
  |cells ds f=>
   simp only [ef] at hs;simp only [K6] at hi;split at hs
   ·rename_i he;have he:=aq he;subst he;split at hs
    ·rename_i ds' FT;simp only [OR] at *;obtain⟨arr,lo,hi',us,U,Z,h3,h4,h5,h6,h7⟩:=ho;obtain⟨g1,g2,g3⟩:=Z.eF FT;have hlen:=congrArg List.length (fL _ _ hs);rw [pY] at hlen;refine⟨arr,lo,hi',us.drop (r.uf id),U,ct.gL Y cs _ hi (abi hs g1),fun i u hu=>?_,?_,?_,h6,fun u hu=>h7 u (bu hu)⟩
     ·rw [anp] at hu;have:=h3 _ u hu;show arr[(E.θ (r.id id)).2+r.uf id+i]?=some u
      grind
     ·show cs.length<=E.κ (r.id id)-r.uf id;omega
     ·show (E.θ (r.id id)).2+r.uf id+(E.κ (r.id id)-r.uf id)=arr.size;omega
    grind
   grind
  |map _ _=>simp [ef] at hs
  |j4 _ _=>simp [ef] at hs
  |vec _ _ _ _=>simp [ef] at hs
  |jS _ _=>simp [ef] at hs
  |uc _ _ _ _=>simp [ef] at hs
 |map es c=>
  cases o' with
  |jt _ _ _ _=>simp [ef] at hs
  |map fs d=> simp only [ef] at hs;simp only [K6] at hi;simp only [OR] at *;obtain⟨bK,c',U,Z,_⟩:=ho;simp only [an] at hs;have hz:=aq hs.2;exact⟨bK,c',U,eL.gL Y hi hs.1 Z,by rw [hz]; trivial⟩
  |cells _ _=>simp [ef] at hs
  |j4 _ _=>simp [ef] at hs
  |vec _ _ _ _=>simp [ef] at hs
  |jS _ _=>simp [ef] at hs
  |uc _ _ _ _=>simp [ef] at hs
 |jt _ _ _ _=>simp [K6] at hi
 |j4 s p=>
  cases o' with
  |jt _ _ _ _=>simp [ef] at hs
  |j4 t q=> simp_all [ef,ku,OR,En.gL]
  |cells _ _=>simp [ef] at hs
  |map _ _=>simp [ef] at hs
  |vec _ _ _ _=>simp [ef] at hs
  |jS _ _=>simp [ef] at hs
  |uc _ _ _ _=>simp [ef] at hs
 |jS e t=>
  cases o' with
  |jt _ _ _ _=>simp [ef] at hs
  |cells _ _=>simp [ef] at hs
  |map _ _=>simp [ef] at hs
  |j4 _ _=>simp [ef] at hs
  |vec _ _ _ _=>simp [ef] at hs
  |uc _ _ _ _=>simp [ef] at hs
  |jS e' t'=> simp only [ef,an] at hs;have U:=cG _ _ hs.1.1;have Z:=aq hs.1.2;subst U Z;simp only [OR] at *;have py:e.den (E.gL r).ρ=(r.se e).den E.ρ:=(Ren.ep Y E.ρ e).symm;rw [py];exact ho
 |vec e t ty ov=>
  cases o' with
  |jt _ _ _ _=>simp [ef] at hs
  |cells _ _=>simp [ef] at hs
  |map _ _=>simp [ef] at hs
  |j4 _ _=>simp [ef] at hs
  |jS _ _=>simp [ef] at hs
  |uc _ _ _ _=>simp [ef] at hs
  |vec e' t' VN iQ=>
   simp only [ef,an] at hs;simp only [K6] at hi;have U:=cG _ _ hs.1.1.1.1;have Z:=aq hs.1.1.1.2;have h3:=aq hs.1.1.2;have h4:=aq hs.2;have qz:=hs.1.2;subst U Z h3;simp only [OR] at *;obtain⟨h0,arr,lo,hi',us,q1,q2,q3,q4,q5,q6,q7⟩:=ho;have oM:=Dy qz h0.1;have py:e.den (E.gL r).ρ=(r.se e).den E.ρ:=(Ren.ep Y E.ρ e).symm;rw [py];refine⟨⟨oM,h0.2⟩,arr,lo,hi',us,q1,tA Y qz hi _ _ q2,?_,?_,?_,q6,q7⟩
   ·intro i u hu;show arr[(E.θ (r.id id)).2+r.uf id+i]?=some u
    grind
   ·show _<=E.κ (r.id id)-r.uf id
    grind [cD]
   ·show (E.θ (r.id id)).2+r.uf id+(E.κ (r.id id)-r.uf id)=arr.size
    grind
 |uc e t e8 ov=>
  cases o' with
  |jt _ _ _ _=>simp [ef] at hs
  |cells _ _=>simp [ef] at hs
  |map _ _=>simp [ef] at hs
  |j4 _ _=>simp [ef] at hs
  |jS _ _=>simp [ef] at hs
  |vec _ _ _ _=>simp [ef] at hs
  |uc e' t' ahB iQ=> simp only [ef,an,decide_eq_true_eq] at hs;simp only [K6] at hi;have U:=cG _ _ hs.1.1.1.1;have Z:=aq hs.1.1.1.2;have h3:=hs.1.1.2;have qz:=hs.1.2;subst U Z h3;simp only [OR] at *;obtain⟨n0,bK,c',g1,g2⟩:=ho;have py:e.den (E.gL r).ρ=(r.se e).den E.ρ:=(Ren.ep Y E.ρ e).symm;rw [py];exact⟨n0.congr (yB Y qz),bK,c',g1,eR.gL Y qz hi g2⟩
end
end Go.As
end
section
namespace Go.As
noncomputable section
open Go.RowKit
structure CS where
 k:Nat
 bF:List (Nat×W)
 dw:List dN
 pc:List (SB×Bool)
 m:V
def nw:List (Nat×W)->Tr W->Tr W
 |[],t=>t
 |(i,v)::l,t=>nw l (t.put i (some v))
def og:List dN->Nat->Tr dN->Tr dN
 |[],_,t=>t
 |o::os,i,t=>og os (i+1) (t.put i (some o))
def CS.st (c:CS):St:=⟨nw c.bF .nil,⟨og c.dw 0 .nil,c.dw.length,none⟩,c.pc⟩
structure Gs where
 ns:Tr V
 bl:Tr (Nat×Nat)
def Gs.num (g:Gs) (i:Nat) (e:V):Gs:=match g.ns.get i with
 |some _=>g
 |none=> ⟨g.ns.put i (some e),g.bl⟩
def Gs.jX (g:Gs) (i j k:Nat):Gs:=match g.bl.get i with
 |some _=>g
 |none=> ⟨g.ns,g.bl.put i (some (j,k))⟩
def xN (x y:V) (g:Gs):Gs:=match x with
 | .dG i=>g.num i y
 |_=>g
def ajU:SB->SB->Gs->Gs
 | .not a,.not b,g=>ajU a b g
 | .eq a b,.eq c d,g=>xN b d (xN a c g)
 |_,_,g=>g
mutual
def Um:W->W->Gs->Gs
 | .bool a,.bool b,g=>ajU a b g
 | .int _ e,.int _ f,g=>xN e f g
 | .ptr i o,.ptr j p,g=>g.jX i j (p-o)
 | .slice i o _ _,.slice j p _ _,g=>g.jX i j (p-o)
 | .map i,.map j,g=>g.jX i j 0
 | .agg a,.agg b,g=>zr a b g
 | .tuple a,.tuple b,g=>zr a b g
 | .iface _ a,.iface _ b,g=>Um a b g
 | .func _ a b,.func _ c d,g=>zr b d (zr a c g)
 | .mK a,.mK b,g=>zr a b g
 | .ro a _ _,.ro b _ _,g=>zr a b g
 | .ei a _,.ei b _,g=>xN a b g
 | .jC a,.jC b,g=>xN a b g
 | .ow i a _,.ow j b _,g=>(xN a b g).jX i j 0
 | .yi i _ a _,.yi j _ b _,g=>(xN a b g).jX i j 0
 | .wL a _,.wL b _,g=>xN a b g
 | .sk i l a _,.sk j k b _,g=>(xN l k (xN a b g)).jX i j 0
 |_,_,g=>g
def zr:List W->List W->Gs->Gs
 |x::xs,y::ys,g=>zr xs ys (Um x y g)
 |_,_,g=>g
end
def YK:List (W×W×Nat)->List (W×W×Nat)->Gs->Gs
 |(k,v,_)::xs,(k',v',_)::ys,g=>YK xs ys (Um v v' (Um k k' g))
 |_,_,g=>g
def acD:List (V×List W)->List (V×List W)->Gs->Gs
 |(i,a)::x,(j,b)::y,g=>acD x y (zr a b (xN i j g))
 |_,_,g=>g
def acE:List (V×W)->List (V×W)->Gs->Gs
 |(i,a)::x,(j,b)::y,g=>acE x y (Um a b (xN i j g))
 |_,_,g=>g
def alX (k:Nat) (o o':dN) (g:Gs):Gs:=match o,o' with
 | .cells a _,.cells b _=>match eF k b with
   |some b=>zr a b g
   |none=>g
 | .map a _,.map b _=>YK a b g
 | .vec a _ _ ov,.vec b _ _ iQ=>acD ov iQ (xN a b g)
 | .jS a _,.jS b _=>xN a b g
 | .uc a _ _ ov,.uc b _ _ iQ=>acE ov iQ (xN a b g)
 |_,_=>g
def CR (s:Tr W):List (Nat×W)->Gs->Gs
 |[],g=>g
 |(t,v)::l,g=>match s.get t with
  |some v'=>CR s l (Um v v' g)
  |none=>CR s l g
def A1 (h:Hp):List dN->Nat->Gs->Gs
 |[],_,g=>g
 |o::os,i,g=>match g.bl.get i with
  |some (j,k)=>match h.get j with
   |some o'=>A1 h os (i+1) (alX k o o' g)
   |none=>A1 h os (i+1) g
  |none=>A1 h os (i+1) g
def xE (g:Tr V):Nat->Nat->List V
 |0,_=>[]
 |n+1,i=>match g.get i with
  |some e=>e::xE g n (i+1)
  |none=> .lit 0::xE g n (i+1)
def IU (g:Tr (Nat×Nat)):Nat->Nat->List Nat
 |0,_=>[]
 |n+1,i=>match g.get i with
  |some (e,_)=>e::IU g n (i+1)
  |none=>0::IU g n (i+1)
def IT (g:Tr (Nat×Nat)):Nat->Nat->List Nat
 |0,_=>[]
 |n+1,i=>match g.get i with
  |some (_,e)=>e::IT g n (i+1)
  |none=>0::IT g n (i+1)
def CS.kX (c:CS) (s:St):Ren:=match A1 s.h c.dw 0 (CR s.bF c.bF ⟨.nil,.nil⟩) with
 |⟨ns,bl⟩=> ⟨xE ns c.k 0,IU bl c.dw.length 0,IT bl c.dw.length 0⟩
def QM (i:Nat):List Nat->Bool
 |[]=>true
 |j::l=>match Nat.beq i j with
  |true=>false
  |false=>QM i l
def wx:List Nat->Bool
 |[]=>true
 |i::l=>QM i l&&wx l
def Cz (r:Ren) (n:Nat) (s:Tr W):List (Nat×W)->Bool
 |[]=>true
 |(t,v)::l=>match s.get t with
  |some v'=>lB n v&&eM (r.av v) v'&&Cz r n s l
  |none=>false
def AK (r:Ren) (n:Nat) (h:Hp):List dN->Nat->Bool
 |[],_=>true
 |o::os,i=>match h.get (r.id i) with
  |some o'=>K6 n o&&ef r (r.uf i) o o'&&AK r n h os (i+1)
  |none=>false
def MD (pc:List (SB×Bool)) (e:V):Option Int×Option Int:=match e with
 | .lit z=>(some z,some z)
 |e=>bounds e pc
def Ru (a b:Int):Bool:=decide (-9223372036854775808<=a)&&decide (b<=9223372036854775807)
def Fo (pc:List (SB×Bool)) (e:V):Option Int×Option Int:=match e with
 | .wrap .i64 (.add a b)=>match MD pc a,MD pc b with
   |(some la,some ha),(some lb,some hb)=>if Ru (la+lb) (ha+hb) then (some (la+lb),some (ha+hb)) else bounds e pc
   |_,_=>bounds e pc
 | .wrap .i64 (.sub a b)=>match MD pc a,MD pc b with
   |(some la,some ha),(some lb,some hb)=>if Ru (la-hb) (ha-lb) then (some (la-hb),some (ha-lb)) else bounds e pc
   |_,_=>bounds e pc
 |e=>MD pc e
def Fq (a b:Option Int):Bool:=match a,b with
 |some x,some y=>decide (x<y)
 |_,_=>false
def J6 (a b:Option Int):Bool:=match a,b with
 |some x,some y=>decide (x<=y)
 |_,_=>false
def C! (pc:List (SB×Bool)) (c:SB) (v:Bool):Bool:=
 match jQ pc c with
 |some b=>b == v
 |none=>match c with
  | .lt a b=>match v with
    |true=>Fq (Fo pc a).2 (Fo pc b).1
    |false=>J6 (Fo pc b).2 (Fo pc a).1
  | .eq a b=>match v with
    |true=>false
    |false=>Fq (Fo pc a).2 (Fo pc b).1||Fq (Fo pc b).2 (Fo pc a).1
  |_=>false
def CV (pv:List (SB×Bool)->SB->Bool->Bool) (r:Ren) (pc:List (SB×Bool)):List (SB×Bool)->Bool
 |[]=>true
 |(c,v)::l=>pv pc (r.sb c) v&&CV pv r pc l
def CS.fits (pv:List (SB×Bool)->SB->Bool->Bool) (c:CS) (s:St) (r:Ren):Bool:=
 Nat.ble r.ns.length 900&&Nat.beq r.bl.length c.dw.length&&wx r.bl&&Cz r c.dw.length s.bF c.bF&&AK r c.dw.length s.h c.dw 0&&CV pv r s.pc c.pc
theorem uD: ∀{l:List (Nat×W)} {t:Tr W} {i:Nat} {v:W},(nw l t).get i=some v->(i,v)∈l\/t.get i=some v
 |[],t,i,v,h=> .inr h
 |(j,x)::l,t,i,v,h=>by
  simp only [nw] at h;rcases uD h with h|h
  all_goals grind [Tr.bQ]
theorem jh: ∀{l:List dN} {i:Nat} {t:Tr dN} {j:Nat},(og l i t).get j=if i<=j/\j<i+l.length then l[j-i]? else t.get j
 |[],i,t,j=>by rw [af ad];rfl
 |o::os,i,t,j=>by
  simp only [og];rw [jh,Tr.bQ]
  grind
theorem K9 {i:Nat}: ∀{l:List Nat},QM i l=true->i∉l
 |[],_=>by simp
 |j::l,h=>by
  simp only [QM] at h;split at h
  ·grind
  ·rename_i hb;have:=anT hb;simp [this,K9 h]
theorem oO: ∀{l:List Nat},wx l=true->∀{i j x:Nat},eZ l i=some x->eZ l j=some x->i=j
 |[],_,i,_,_,h,_=>by simp [eZ] at h
 |y::l,hd,i,j,x,U,Z=>by
  simp only [wx,an] at hd;have hn:=K9 hd.1
  have hm: ∀{i:Nat} {l:List Nat} {x:Nat},eZ l i=some x->x∈l:=by
   intro i l x h
   grind [de]
  cases i with
  |zero=>
   cases j with
   |zero=>rfl
   |succ j=>
    grind [eZ]
  |succ i=>
   cases j with
   |zero=>
    grind [eZ]
   |succ j=> simp only [eZ] at U Z;rw [oO hd.2 U Z]
theorem Bu {r:Ren} {n:Nat} {s:Tr W}: ∀{l:List (Nat×W)},Cz r n s l=true->∀{t:Nat} {v:W},(t,v)∈l->∃v',s.get t=some v'/\lB n v=true/\r.av v=v'
 |[],_,_,_,h=>by simp at h
 |(t0,v0)::l,hs,t,v,h=>by
  simp only [Cz] at hs;split at hs
  ·rename_i v' hv;simp only [an] at hs;rcases ax.1 h with h|h
   ·grind [jE]
   ·exact Bu hs.2 h
  grind
theorem iL {r:Ren} {n:Nat} {h:Hp}: ∀{l:List dN} {i:Nat},AK r n h l i=true->∀{j:Nat} {o:dN},l[j]?=some o->∃o',h.get (r.id (i+j))=some o'/\K6 n o=true/\ef r (r.uf (i+j)) o o'=true
 |[],_,_,_,_,h=>by simp at h
 |o0::os,i,hs,j,o,hj=>by
  simp only [AK] at hs;split at hs
  ·rename_i o' ho;simp only [an] at hs
   cases j with
   |zero=>
    grind
   |succ j=>
    have:=iL hs.2 (j:=j) (by simpa using hj)
    grind
  grind
def A_ (pv:List (SB×Bool)->SB->Bool->Bool):Prop:= ∀(ρ:Nat->Int) (pc:List (SB×Bool)) (c:SB) (v:Bool),bV ρ pc->pv pc c v=true->c.den ρ=v
theorem Ac {ρ:Nat->Int} {pc:List (SB×Bool)} (hp:bV ρ pc) (e:V):rk (MD pc e).1 (MD pc e).2 (e.den ρ):=by
 unfold MD
 grind [rk,V.den,lS]
theorem Ea {a b x:Int} (h:Ru a b=true) (U:a<=x) (Z:x<=b):IntKind.i64.wrap x=x:=by
 simp only [Ru,an,decide_eq_true_eq] at h;rw [<- kr]
 grind [rZ]
theorem SD {ρ:Nat->Int} {pc:List (SB×Bool)} (hp:bV ρ pc) (e:V):rk (Fo pc e).1 (Fo pc e).2 (e.den ρ):=by
 unfold Fo;split
 ·rename_i a b;have ha:=Ac hp a;have hb:=Ac hp b;split
  ·rename_i la ha' lb Ci e1 e2;rw [e1] at ha;rw [e2] at hb;have a1:=ha.1 la rfl;have a2:=ha.2 ha' rfl;have b1:=hb.1 lb rfl;have b2:=hb.2 Ci rfl;split
   ·rename_i hi;simp only [V.den];rw [Ea hi J J];constructor<;>intro l Y<;>simp at Y<;>omega
   ·exact lS hp
  ·exact lS hp
 ·rename_i a b;have ha:=Ac hp a;have hb:=Ac hp b;split
  ·rename_i la ha' lb Ci e1 e2;rw [e1] at ha;rw [e2] at hb;have a1:=ha.1 la rfl;have a2:=ha.2 ha' rfl;have b1:=hb.1 lb rfl;have b2:=hb.2 Ci rfl;split
   ·rename_i hi;simp only [V.den];rw [Ea hi J J];constructor<;>intro l Y<;>simp at Y<;>omega
   ·exact lS hp
  ·exact lS hp
 grind [Ac]
theorem Bg {a b:Option Int} {x y:Int} (h:Fq a b=true) (U: ∀z,a=some z->x<=z) (Z: ∀z,b=some z->z<=y):x<y:=by
 unfold Fq at h
 grind
theorem Pt {a b:Option Int} {x y:Int} (h:J6 a b=true) (U: ∀z,a=some z->x<=z) (Z: ∀z,b=some z->z<=y):x<=y:=by
 unfold J6 at h
 grind
theorem NW:A_ C!:=by
 intro ρ pc c v hp h;unfold C! at h;split at h
 ·rename_i b hb
  grind [gD]
 ·split at h
  ·have ha:=fun a=>SD hp a;split at h
   ·have:=Bg h (ha _).2 (ha _).1
    grind [SB.den]
   ·have:=Pt h (ha _).2 (ha _).1
    grind [SB.den]
  ·have ha:=fun a=>SD hp a;split at h
   ·grind
   ·simp only [anz] at h;simp only [SB.den,beq_eq_false_iff_ne,ne_eq];rcases h with h|h
    ·have:=Bg h (ha _).2 (ha _).1;omega
    ·have:=Bg h (ha _).2 (ha _).1;omega
  grind
theorem Ez {pv:List (SB×Bool)->SB->Bool->Bool} (hpv:A_ pv) {r:Ren} (Y:r.ns.length<=900) {ρ:Nat->Int} {pc:List (SB×Bool)} (hp:bV ρ pc): ∀{l:List (SB×Bool)},CV pv r pc l=true->bV (r.env ρ) l
 |[],_=>by intro c b h; simp at h
 |(c0,v0)::l,h=>by
  simp only [CV,an] at h;intro c b hm;rcases ax.1 hm with hm|hm
  ·simp only [ak] at hm;obtain⟨rfl,rfl⟩:=hm;rw [<- Ren.AB Y];exact hpv ρ pc _ _ hp h.1
  ·exact Ez hpv Y hp h.2 c b hm
theorem zA [bH] {pv:List (SB×Bool)->SB->Bool->Bool} (hpv:A_ pv) {E:En} {c:CS} {s:St} {r:Ren} {a:Act} {w:World} (f:Fit E s a w) (h:c.fits pv s r=true):r.ns.length<=900/\Fit (E.gL r) c.st a w/\
 ∀id o,c.st.h.get id=some o->∃o',s.h.get (r.id id)=some o':=by
 unfold CS.fits at h;simp only [an] at h;obtain⟨⟨⟨⟨⟨U,Z⟩,h3⟩,h4⟩,h5⟩,h6⟩:=h;have Y:=am9 U;have hn:=aq Z
 have u7: ∀id o,c.st.h.get id=some o->c.dw[id]?=some o:=by
  intro id o ho;have:(og c.dw 0 .nil).get id=some o:=ho
  grind [jh,Tr.get]
 refine⟨Y,⟨⟨?_,?_,?_,?_,f.rel.qt,bH.gL f.rel.iY fun i hi=>Ren.lD Y hi,?_⟩,?_,Ez hpv Y f.pc h6⟩,?_⟩
 ·intro id hid hd;have:id<r.bl.length:=hd.1;have hid:c.dw.length<=id:=hid;omega
 ·intro x hx
  grind [CS.st]
 ·intro id o ho;obtain⟨o',g1,g2,g3⟩:=iL h5 (u7 id o ho);rw [aA] at g1 g3;obtain⟨q1,q2,q3⟩:=f.rel.live _ _ g1;have ff:=(aX.1 (u7 id o ho)).1;exact⟨⟨J,q1⟩,OR.gL Y (by rw [hn]; exact g2) g3 q2,q3⟩
 ·intro id Oi o o' ho yf he;obtain⟨p,g1,_⟩:=iL h5 (u7 id o ho);obtain⟨p',g1',_⟩:=iL h5 (u7 Oi o' yf);rw [aA] at g1 g1';have heq:=f.rel.inj _ _ _ _ g1 g1' he;have ff:=(aX.1 (u7 id o ho)).1;have afx:=(aX.1 (u7 Oi o' yf)).1;unfold Ren.id at heq
  cases e1:eZ r.bl id with
  |none=>rw [de,anX] at e1; omega
  |some x=>
   cases e2:eZ r.bl Oi with
   |none=>rw [de,anX] at e2; omega
   |some y=> rw [e1,e2] at heq;simp only at heq;subst heq;exact oO h3 e1 e2
 ·intro b x hb;obtain⟨q1,q2,q3⟩:=f.rel.hid b x hb;refine⟨q1,q2,fun id o ho=>?_⟩;obtain⟨o',g1,_⟩:=iL h5 (u7 id o ho);rw [aA] at g1;exact q3 _ o' g1
 ·intro t v ht;have:(nw c.bF .nil).get t=some v:=ht;rcases uD this with h|h
  ·obtain⟨v',g1,g2,g3⟩:=Bu h4 h;obtain⟨u,q1,q2⟩:=f.sr t v' g1
   grind [VR.gL]
  grind [Tr.get]
 grind [iL]
end
end Go.As
end
section
namespace Go.As
noncomputable section
open Go.RowKit
structure B! where
 w0:World
 ro:Nat->Prop
 ρ0:Nat->Int
structure Top [bH] (B:B!) (E:En) (s:St) (a:Act) (w:World):Prop where
 fit:Fit E s a w
 hi: ∀i,900<=i->E.ρ i=B.ρ0 i
 ro: ∀b,B.ro b->E.ro b
 below:Below B.w0.heap.size B.w0 w
 own: ∀id o,s.h.get id=some o->B.w0.heap.size<=(E.θ id).1
theorem Top.then [bH] {B:B!} {E:En} {s s':St} {a a':Act} {w w':World} (t:Top B E s a w) (h:mM E s a w s' a' w'): ∃E',Top B E' s' a' w'/\E'.ρ=E.ρ:=by
 obtain⟨_,_,E',st,f'⟩:=h;refine⟨E',⟨f',fun i hi=>by rw [st.ρ]; exact t.hi i hi,fun b hb=>st.ro b (t.ro b hb),?_,?_⟩,st.ρ⟩
 ·refine t.below.trans ⟨st.os,st.tape,st.output,st.size,fun k hk=>?_⟩
  exact st.keep k (anh hk t.below.size) fun id o ho he=>by have:=t.own id o ho;omega
 ·intro id o ho;rcases aW (E'.θ id).1 w.heap.size with h|h
  ·obtain⟨rv,o0,h0,he⟩:=st.own id o ho h;rw [<- he];exact t.own rv o0 h0
  ·exact bn t.below.size h
theorem Top.fits [bH] {pv:List (SB×Bool)->SB->Bool->Bool} (hpv:A_ pv) {B:B!} {E:En} {c:CS} {s:St} {r:Ren} {a:Act} {w:World} (t:Top B E s a w) (h:c.fits pv s r=true):r.ns.length<=900/\Top B (E.gL r) c.st a w:=by
 obtain⟨Y,f,ho⟩:=zA hpv t.fit h;refine⟨Y,f,fun i hi=>?_,t.ro,t.below,fun id o hid=>?_⟩
 ·show r.env E.ρ i=_;rw [Ren.lD Y hi];exact t.hi i hi
 ·obtain⟨o',h'⟩:=ho id o hid;exact t.own _ _ h'
inductive Fr where
 |seq (p:List Nat) (c:Code)
 |block (id:Nat)
def IX {α:Type}:T α->(α->Bool)->Bool
 | .fail,_=>false
 | .ret a,f=>f a
 | .split _ x y,f=>IX x f&&IX y f
structure Cfg where
 tt:TT
 call:eu
 draw:Nat->List Oper->St->T St
 lf:Nat
 pv:List (SB×Bool)->SB->Bool->Bool
 res:List ResultVar
def Cfg.ev (g:Cfg) (c:Code) (s:St):T (Ex×St):=iZ g.tt g.call g.draw g.lf c s
def isTrue:Option (List W)->Bool
 |some [.bool (.lit b)]=>b
 |_=>false
def Y6 (g:Cfg) (e:Ex) (s:St):Bool:=match e with
 | .exit _=>false
 |_=>isTrue (kQ g.tt s g.res)
def aeY:W->W->Bool
 | .int _ (.lit a),.int _ (.lit b)=>a == b
 | .int _ (.lit _),.int _ _=>false
 | .slice _ _ n _,.slice _ _ m _=>Nat.beq n m
 | .slice _ _ _ _,_=>false
 | .dq,.dq=>true
 | .dq,_=>false
 |_,_=>true
def quick (s:Tr W):List (Nat×W)->Bool
 |[]=>true
 |(t,v)::l=>match s.get t with
  |some v'=>match aeY v v' with
   |true=>quick s l
   |false=>false
  |none=>false
def J9 (pv:List (SB×Bool)->SB->Bool->Bool) (s:St):List CS->Bool
 |[]=>false
 |c::cs=>match quick s.bF c.bF with
  |false=>J9 pv s cs
  |true=>match c.fits pv s (c.kX s) with
   |true=>true
   |false=>J9 pv s cs
abbrev akI:=List Nat->Option (List CS)
mutual
def go (g:Cfg) (fe:akI):Nat->List Nat->Code->List Fr->St->Bool
 |0,_,_,_,_=>false
 |n+1,p,c,fr,s=>match fe p with
  |some cs=>J9 g.pv s cs
  |none=>match c with
   | .seq a b=>go g fe n (0::p) a (.seq (1::p) b::fr) s
   | .block id b=>go g fe n (0::p) b (.block id::fr) s
   |c=>IX (g.ev c s) fun (e,s')=>cont g fe n fr e s'
def cont (g:Cfg) (fe:akI):Nat->List Fr->Ex->St->Bool
 |0,_,_,_=>false
 |n+1,fr,e,s=>match fr with
  |[]=>Y6 g e s
  | .seq p c::fr=>match e with
    | .normal=>go g fe n p c fr s
    |e=>cont g fe n fr e s
  | .block id::fr=>match e with
    | .exit j=>match Nat.beq j id with
      |true=>cont g fe n fr .normal s
      |false=>cont g fe n fr (.exit j) s
    |e=>cont g fe n fr e s
end
def apart (pc:List (SB×Bool)) (x:V):List V->Bool
 |[]=>true
 |y::l=>match decEq pc x y with
  |some false=>apart pc x l
  |_=>false
structure Hint where
 ts:List (SB×Bool):=[]
 xs:List V:=[]
 n:Nat:=0
section
variable {P:Program} {g:Cfg} {qO:Nat->List Oper->Bool} {N:Nat} {body:Code} {B:B!} {Q:Exit->Act->World->Prop}
structure amx [bH] (P:Program) (g:Cfg) (qO:Nat->List Oper->Bool):Prop where
 tt:eC P g.tt
 call:im P g.call
 draw:vF P qO g.draw
 pv:A_ g.pv
theorem Top.pc [bH] {B:B!} {E:En} {s:St} {a:Act} {w:World} {pc:List (SB×Bool)} (t:Top B E s a w) (hp:bV E.ρ pc):Top B E { s with pc:=pc } a w:=
 ⟨⟨t.fit.rel,t.fit.sr,hp⟩,t.hi,t.ro,t.below,t.own⟩
end
end
end Go.As
end
section
namespace Go.As
noncomputable section
def MJ (h:Hp) (o:dN):Hp:=⟨h.m.put h.next (some o),h.next+1,h.res⟩
def aaG {α:Type} (c:FC) (x:V) (ty:Nat) (s:St) (k:W->St->T α):T α:=match c with
 | .ck c=>k (vx c x) s
 | .mp t=>k (.map s.h.next) { s with h:=MJ s.h (.jS x t) }
 | .own t=>jo s (qp (dM x) (.lit 0)) fun s b=>match b with
   |false=>k (.ow s.h.next (dM x) t) { s with h:=MJ s.h (.vec x t ty []) }
   |true=>jo s (qp (my x) (.ei (.i 3))) fun s b=>match b with
    |true=>k (.slice s.h.next 0 0 (.rest (rowOf t).es)) { s with h:=MJ s.h (.cells [] ty) }
    |false=>k (.wL x t) s
def RV {α:Type} (e8:List Nat) (x:V):List FC->Nat->St->(List W->St->T α)->T α
 |[],_,s,k=>k [] s
 |c::cs,j,s,k=>aaG c (iK j x) (e8.getD (j+2) 0) s fun v s=>RV e8 x cs (j+1) s fun vs s=>k (v::vs) s
def aaL {α:Type} (t:Nat) (e8:List Nat) (x:V) (s:St) (k:W->St->T α):T α:=match (qI t).ptr with
 |false=>match (qI t).cs with
  |[c]=>aaG c x (e8.getD 1 0) s k
  |_=> .fail
 |true=>RV e8 x (qI t).cs 0 s fun vs s=>k (.ptr s.h.next 0) { s with h:=MJ s.h (.cells vs (e8.getD 0 0)) }
def aaF {α:Type} (id:Nat) (x:V) (s:St) (k:St->T α):T α:=match s.h.get id with
 |some o=>match o with
  | .uc e t e8 ov=>tk x ov s fun r s=>match r with
    |some _=>k s
    |none=>jo s (Hj e (ng x)) fun s b=>match b with
     |true=>k s
     |false=>aaL t e8 (.op .DV e (ng x)) { s with h:=s.h.drop id } fun v s=>k { s with h:=s.h.put id (.uc e t e8 ((x,v)::ov)) }
  |_=>k s
 |none=>k s
def abk (E:En) (H:Hp) (b:Nat):Prop:=(∃id o,H.get id=some o/\(E.θ id).1=b)\/∃x,E.hd b=some x
structure View [bH] (E:En) (H:Hp) (w:World) (E':En) (H':Hp):Prop where
 rel:bO E' H' w
 kp:fy E w.heap E' w.heap
 ru: ∀b,E'.ro b->E.ro b\/abk E H b
 hold: ∀b,abk E' H' b->abk E H b
theorem View.refl [bH] {E:En} {H:Hp} {w:World} (r:bO E H w):View E H w E H:=
 ⟨r,⟨rfl,fun _ h=>h,fun _ _=>rfl,fun _ _=>rfl,fun _ h=>h,fun _ _=>rfl⟩,fun _ h=> .inl h,fun _ h=>h⟩
theorem View.trans [bH] {E E1 E2:En} {H H1 H2:Hp} {w:World} (a:View E H w E1 H1) (b:View E1 H1 w E2 H2):View E H w E2 H2:=
 ⟨b.rel,⟨b.kp.ρ.trans a.kp.ρ,fun id h=>b.kp.dm id (a.kp.dm id h),fun id h=>(b.kp.θ id (a.kp.dm id h)).trans (a.kp.θ id h),fun id h=>(b.kp.κ id (a.kp.dm id h)).trans (a.kp.κ id h),fun x h=>b.kp.ro x (a.kp.ro x h),fun _ _=>rfl⟩,
  fun x h=>(b.ru x h).elim (a.ru x) fun h=> .inr (a.hold x h),fun x h=>a.hold x (b.hold x h)⟩
theorem fy.trans {E E1 E2:En} {h:Array Obj} (a:fy E h E1 h) (b:fy E1 h E2 h):fy E h E2 h:=
 ⟨b.ρ.trans a.ρ,fun id h=>b.dm id (a.dm id h),fun id h=>(b.θ id (a.dm id h)).trans (a.θ id h),fun id h=>(b.κ id (a.dm id h)).trans (a.κ id h),fun x h=>b.ro x (a.ro x h),fun _ _=>rfl⟩
theorem View.ae4 [bH] {E E':En} {H H':Hp} {w:World} (r:bO E H w) (s:eU E H w E' H' w) (r':bO E' H' w):View E H w E' H':=by
 refine⟨r',s.keeps r,fun b hb=>?_,fun b hb=>?_⟩
 ·rcases s.ru b hb with h|h|h
  ·exact .inl h
  ·exact .inr (.inl h)
  ·have:=r'.qt b hb;omega
 ·rcases hb with ⟨id,o,U,Z⟩|⟨x,U⟩
  ·obtain⟨rv,o0,g1,g2⟩:=s.own id o U (fq r' U);exact .inl ⟨rv,o0,g1,g2.trans Z⟩
  ·exact .inr ⟨x,by rw [<- s.hd]; exact U⟩
theorem vg (H:Hp) (o:dN) (j:Nat):(MJ H o).get j=if j=H.next then some o else H.get j:=by simp [MJ,Hp.get,Tr.bQ]
def En.MV (E:En) (b o c n:Nat):En:={ E.ext n (b,o) c with hd:=fun q=>if q=b then none else E.hd q }
theorem Az [bH] {E:En} {H:Hp} {w:World} (r:bO E H w) (b o c:Nat):fy E w.heap (E.MV b o c H.next) w.heap:=by have hu: ∀{i:Nat},E.dm i->i≠H.next:=fun h e=>r.fresh _ (au _) (e▸h);exact⟨rfl,fun _ h=> .inr h,fun _ h=>En.ext_θ E H.next (b,o) c (hu h),fun _ h=>En.ext_κ E H.next (b,o) c (hu h),fun _ h=>h,fun _ _=>rfl⟩
theorem Tm [bH] {E:En} {H:Hp} {w:World} (r:bO E H w) {b o c:Nat} {x:Nat×D×Nat} (hb:E.hd b=some x) (hx: ∀id o,H.get id=some o->nf o=true\/(E.θ id).1≠x.1) (ao:dN)
 (ho:OR (E.MV b o c H.next) w.heap H.next ao):View E H w (E.MV b o c H.next) (MJ H ao):=by
 have hu: ∀{i:Nat},E.dm i->i≠H.next:=fun h e=>r.fresh _ (au _) (e▸h);obtain⟨q1,q2,q3⟩:=r.hid b x hb;have kp:=Az r b o c;have hθ: ∀{i:Nat},E.dm i->(E.MV b o c H.next).θ i=E.θ i:=fun h=>kp.θ _ h;have hθn:(E.MV b o c H.next).θ H.next=(b,o):=En.ext_θ_new E H.next (b,o) c;refine⟨⟨fun id hid hd=>?_,fun q hq=>?_,fun id o2 Z=>?_,fun i j o1 o2 U Z he=>?_,r.qt,r.iY,fun q y hq=>?_⟩,kp,fun _ h=> .inl h,fun q hq=>?_⟩
 ·have hid:H.next+1<=id:=hid;rcases hd with hd|hd
  ·have hd:id=H.next:=hd;omega
  ·exact r.fresh id J hd
 ·obtain⟨g1,g2⟩:=r.res q hq;refine⟨Nat.lt_succ_of_lt g1,?_⟩;rintro (hd|hd)
  ·have hd:q=H.next:=hd;omega
  ·exact g2 hd
 ·rw [vg] at Z;split at Z
  ·rename_i he;simp only [ah] at Z;subst Z he;exact⟨.inl rfl,ho,by rw [hθn]; exact q2⟩
  ·obtain⟨g1,g2,g3⟩:=r.live id o2 Z;refine⟨.inr g1,g2.X6 kp g1 rfl ?_,by rw [hθ g1]; exact g3⟩;rcases hx id o2 Z with h|h
   ·exact .inl h
   ·refine .inr fun key q j hq=> ⟨?_,rfl⟩;show (if q=b then none else E.hd q)=_;rw [af]
    ·exact hq
    ·rintro rfl;rw [hb] at hq;simp only [ah] at hq;rw [hq] at h;exact h rfl
 ·rw [vg] at U Z;split at U<;>split at Z
  ·omega
  ·rename_i e1 _;have g:=(r.live j o2 Z).1;rw [e1,hθn,hθ g] at he;exact absurd he.symm (q3 j o2 Z)
  ·rename_i _ e1;have g:=(r.live i o1 U).1;rw [e1,hθn,hθ g] at he;exact absurd he (q3 i o1 U)
  ·rw [hθ (r.live i o1 U).1,hθ (r.live j o2 Z).1] at he;exact r.inj i j o1 o2 U Z he
 ·have hq:(if q=b then none else E.hd q)=some y:=hq;split at hq
  ·simp at hq
  ·rename_i fJ;obtain⟨p1,p2,p3⟩:=r.hid q y hq;refine⟨p1,p2,fun id o2 Z=>?_⟩;rw [vg] at Z;split at Z
   ·rename_i he;rw [he,hθn];exact fun e=>fJ e.symm
   ·rw [hθ (r.live id o2 Z).1];exact p3 id o2 Z
 ·rcases hq with ⟨id,o2,Z,he⟩|⟨y,hq⟩
  ·rw [vg] at Z;split at Z
   ·rename_i e;rw [e,hθn] at he;have he:b=q:=he;exact .inr ⟨x,by rw [<- he]; exact hb⟩
   ·rw [hθ (r.live id o2 Z).1] at he;exact .inl ⟨id,o2,Z,he⟩
  ·have hq:(if q=b then none else E.hd q)=some y:=hq;split at hq
   ·simp at hq
   ·exact .inr ⟨y,hq⟩
theorem KR [bH] {E:En} {H:Hp} {w:World} (r:bO E H w) {id:Nat} {ao:dN} (hd:E.dm id) (jx: ¬E.ro (E.θ id).1) (fJ: ∀j o,H.get j=some o->j≠id/\(E.θ j).1≠(E.θ id).1) (hh: ∀x,E.hd (E.θ id).1≠some x) (ho:OR E w.heap id ao):bO E (H.put id ao) w:=by
 have hg: ∀j o,(H.put id ao).get j=some o->(j=id/\o=ao)\/(j≠id/\H.get j=some o):=by
  intro j o h;rw [Hp.bQ] at h;split at h
  ·rename_i e; simp only [ah] at h; exact .inl ⟨e,h.symm⟩
  ·rename_i e; exact .inr ⟨e,h⟩
 refine⟨r.fresh,r.res,fun j o h=>?_,fun i j o1 o2 U Z he=>?_,r.qt,r.iY,fun q y hq=>?_⟩
 ·rcases hg j o h with ⟨rfl,rfl⟩|⟨_,h⟩
  ·exact⟨hd,ho,jx⟩
  ·exact r.live j o h
 ·rcases hg i o1 U with ⟨e1,_⟩|⟨e1,g1⟩ <;>rcases hg j o2 Z with ⟨e2,_⟩|⟨e2,g2⟩
  ·omega
  ·rw [e1] at he;exact absurd he.symm (fJ j o2 g2).2
  ·rw [e2] at he;exact absurd he (fJ i o1 g1).2
  ·exact r.inj i j o1 o2 g1 g2 he
 ·obtain⟨p1,p2,p3⟩:=r.hid q y hq;refine⟨p1,p2,fun j o h=>?_⟩;rcases hg j o h with ⟨rfl,rfl⟩|⟨_,h⟩
  ·exact fun e=>hh y (by rw [e]; exact hq)
  ·exact p3 j o h
structure od [bH] (B:Nat) (key:D) (Z?:Nat->Prop) (w:World) (E:En) (H:Hp) (E':En) (H':Hp):Prop where
 view:View E H w E' H'
 hd: ∀b x,E.hd b=some x->E'.hd b=some x\/∃j,Z? j/\x=(B,key,j)
 uu: ∀b x,E'.hd b=some x->E.hd b=some x
 new: ∀id o,H'.get id=some o->H.get id=some o\/(nf o=true/\H.next<=id)
 N3:H.next<=H'.next
 ro: ∀b,E'.ro b->E.ro b
theorem od.refl [bH] {B:Nat} {key:D} {Z?:Nat->Prop} {w:World} {E:En} {H:Hp} (r:bO E H w):od B key Z? w E H E H:=
 ⟨View.refl r,fun _ _ h=> .inl h,fun _ _ h=>h,fun _ _ h=> .inl h,au _,fun _ h=>h⟩
theorem od.trans [bH] {B:Nat} {key:D} {Z? J1 J2:Nat->Prop} {w:World} {E E1 E2:En} {H H1 H2:Hp} (a:od B key J1 w E H E1 H1) (b:od B key J2 w E1 H1 E2 H2) (U: ∀j,J1 j->Z? j) (Z: ∀j,J2 j->Z? j):od B key Z? w E H E2 H2:=by
 refine⟨a.view.trans b.view,fun q x h=>?_,fun q x h=>a.uu q x (b.uu q x h),fun id o h=>?_,bn a.N3 b.N3,fun q h=>a.ro q (b.ro q h)⟩
 ·rcases a.hd q x h with h|⟨j,h,e⟩
  ·rcases b.hd q x h with h|⟨j,h,e⟩
   ·exact .inl h
   ·exact .inr ⟨j,Z j h,e⟩
  ·exact .inr ⟨j,U j h,e⟩
 ·rcases b.new id o h with h|⟨h,g⟩
  ·exact a.new id o h
  ·exact .inr ⟨h,bn a.N3 g⟩
theorem od.nf [bH] {B:Nat} {key:D} {Z?:Nat->Prop} {w:World} {E E':En} {H H':Hp} (a:od B key Z? w E H E' H') (r:bO E H w) (hx: ∀id o,H.get id=some o->nf o=true\/(E.θ id).1≠B): ∀id o,H'.get id=some o->nf o=true\/(E'.θ id).1≠B:=by
 intro id o h;rcases a.new id o h with h|⟨h,_⟩
 ·rcases hx id o h with g|g
  ·exact .inl g
  ·exact .inr (by rw [a.view.kp.θ id (r.live id o h).1]; exact g)
 ·exact .inl h
theorem od.own [bH] {B:Nat} {key:D} {Z?:Nat->Prop} {w:World} {E E':En} {H H':Hp} (a:od B key Z? w E H E' H') {j ty:Nat} (hj: ¬Z? j) {c:FC} {d:D} {u:Value} (ho:oR E w.heap B key j ty c d u):oR E' w.heap B key j ty c d u:=
 ho.keep a.view.kp fun b hb=>by
  rcases a.hd b _ hb with h|⟨i,h,e⟩
  ·exact⟨h,rfl⟩
  ·simp only [ak,true_and] at e;exact absurd (e▸h) hj
theorem sH [bH] {E:En} {H:Hp} {w:World} (r:bO E H w) {b o c B j:Nat} {key:D} (hb:E.hd b=some (B,key,j)) (hx: ∀id o,H.get id=some o->nf o=true\/(E.θ id).1≠B) (ao:dN) (hn:nf ao=true)
 (ho:OR (E.MV b o c H.next) w.heap H.next ao):od B key (·= j) w E H (E.MV b o c H.next) (MJ H ao):=by
 refine⟨Tm r hb hx ao ho,fun q x h=>?_,fun q x h=>?_,fun id o h=>?_,anl _,fun _ h=>h⟩
 ·show (if q=b then none else E.hd q)=some x\/_;split
  ·rename_i e;subst e;rw [hb] at h;simp only [ah] at h;exact .inr ⟨j,rfl,h.symm⟩
  ·exact .inl h
 ·have h:(if q=b then none else E.hd q)=some x:=h;split at h
  ·simp at h
  ·exact h
 ·rw [vg] at h;split at h
  ·rename_i e;simp only [ah] at h;exact .inr ⟨by rw [<- h]; exact hn,J⟩
  ·exact .inl h
theorem Rd.i3 {ro:Nat->Prop} {h:Array Obj} {t:Nat} {u:Value} (r:Rd ro h (.sl t) (.i 3) u):False:=by
 generalize hd:D.i 3=d at r
 cases r with
 |nil t=>simp at hd
 |uQ t a cap=>simp at hd
 |one t c b o cap ds f hr hc hb U Z=>cases ds<;>simp [dL] at hd
 |many t cs b o cap rows f hr hc hb Y U Z=>cases rows<;>simp [dL] at hd
theorem Rd.alj {ro:Nat->Prop} {h:Array Obj} {t:Nat} {d:D} {x:Option Addr} {c:Nat} (r:Rd ro h (.sl t) d (.slice x 0 c)):d.l= []:=by
 generalize hu:Value.slice x 0 c=u at r
 cases r with
 |nil t=>rfl
 |uQ t a cap=>rfl
 |one t c b o cap ds f hr hc hb U Z=> simp only [Value.slice.injEq] at hu;rw [bJ];exact amT hu.2.1.symm
 |many t cs b o cap rows f hr hc hb Y U Z=> simp only [Value.slice.injEq] at hu;rw [bJ,amT hu.2.1.symm];rfl
theorem RW [bH] {α:Type} {ρ:Nat->Int} {c:FC} {x:V} {ty:Nat} {s:St} {k:W->St->T α} {y:α} {E:En} {w:World} {B j:Nat} {key:D} {u:Value} (hρ:E.ρ=ρ) (r:bO E s.h w) (hp:bV ρ s.pc) (hx: ∀id o,s.h.get id=some o->nf o=true\/(E.θ id).1≠B)
 (ho:oR E w.heap B key j ty c (dec (x.den ρ)) u) (h:(aaG c x ty s k).leaf ρ=some y) :
 ∃v h' ec E',bV ρ ec/\od B key (·= j) w E s.h E' h'/\VR E' w.heap v u/\(k v { s with h:=h',pc:=ec }).leaf ρ=some y:=by
 cases c with
 |ck c=> refine⟨_,s.h,s.pc,E,hp,od.refl r,?_,h⟩;rw [nu,hρ];exact Rd.cell ho
 |mp t=>
  obtain⟨b,bK,c,rfl,Z,h3,h4⟩:=ho;refine⟨_,_,s.pc,E.MV b 0 0 s.h.next,hp,sH r Z hx (.jS x t) rfl ?_,?_,h⟩
  ·simp only [OR];have hθ:(E.MV b 0 0 s.h.next).θ s.h.next=(b,0):=En.ext_θ_new E s.h.next (b,0) 0;rw [hθ];exact⟨bK,c,h3,by show jV E.ro w.heap t (dec (x.den E.ρ)).l bK.toList; rw [hρ]; exact h4⟩
  ·simp only [VR];have hθ:(E.MV b 0 0 s.h.next).θ s.h.next=(b,0):=En.ext_θ_new E s.h.next (b,0) 0;rw [hθ];exact⟨rfl,.inl rfl⟩
 |own t=>
  simp only [aaG] at h;obtain⟨fI,fu,U⟩:=cC hp h;rw [iq,cm] at U;simp only [V.den] at U;rcases ho with ⟨⟨a,rfl⟩,Z⟩|⟨b,o,n,cap,a,arr,lo,hi,rfl,g2,g3,g4,g5,g6,g7⟩
  ·have Y:=Z.alj;rw [Y] at U;obtain⟨jG,jy,h3⟩:=cC (s:={ s with pc:=fI }) fu U;rw [iq,lM] at h3;simp only [V.den] at h3
   have fJ:(enc (dec (x.den ρ)) == enc (.i 3))=false:=by rw [beq_eq_false_iff_ne];intro e;rw [hU e] at Z;exact Z.i3
   rw [fJ] at h3;refine⟨_,s.h,jG,E,jy,od.refl r,?_,h3⟩;simp only [VR];rw [hρ];exact⟨⟨a,rfl⟩,Z⟩
  ·have hθ: ∀c,(E.MV b o c s.h.next).θ s.h.next=(b,o):=fun c=>En.ext_θ_new E s.h.next (b,o) c;have hκ: ∀c,(E.MV b o c s.h.next).κ s.h.next=c:=fun c=>En.ext_κ_new E s.h.next (b,o) c;rcases g7 with ⟨rfl,hd⟩|⟨q1,rfl,us,q3,q4,q5⟩
   ·rw [hd] at U;obtain⟨jG,jy,h3⟩:=cC (s:={ s with pc:=fI }) fu U;rw [iq,lM] at h3;simp only [V.den,hd,beq_self_eq_true] at h3;refine⟨_,_,jG,E.MV b o (cap*(rowOf t).es) s.h.next,jy,sH r g3 hx (.cells [] ty) rfl ?_,?_,h3⟩
    ·simp only [OR];rw [hθ,hκ];refine⟨arr,lo,hi,[],g4,by simp only [ct],fun i u hu=>by simp at hu,am5 _,?_,g6,ad⟩;rcases g5 with ⟨_,g5⟩|⟨g5,_,g8⟩
     ·exact g5
     ·rw [g5,amS]; exact g8
    ·simp only [VR];refine⟨.inl rfl,a,cap,rfl,am5 _,?_⟩;simp only [eD];rw [hθ,hκ];rcases g5 with ⟨g5,_⟩|⟨g5,_,_⟩
     ·exact .inl ⟨g5,aA _⟩
     ·exact .inr ⟨g5,trivial,by rw [g5,amS]⟩
   ·have jT:0<(dec (x.den ρ)).l.length:=by
     have:=q1.2.2;exact am3.2 this
    have fJ:(((dec (x.den ρ)).l.length:Int) == 0)=false:=by rw [beq_eq_false_iff_ne]; omega
    rw [fJ] at U
    have g5:a=⟨b,o,none⟩/\o+cap*(rowOf t).es=arr.size:=by
     rcases g5 with g5|⟨_,g5,_⟩
     ·exact g5
     ·omega
    have qz:sK (rowOf t) []:=fun p hp=>by simp at hp
    have hlen:(bE E.ρ (rowOf t) [] (dec (x.den ρ)).l 0).length<=cap*(rowOf t).es:=by rw [cD qz];exact ans _ g2
    have kp:=Az r b o (cap*(rowOf t).es);refine⟨_,_,fI,E.MV b o (cap*(rowOf t).es) s.h.next,fu,sH r g3 hx (.vec x t ty []) rfl ?_,?_,U⟩
    ·simp only [OR];rw [hθ,hκ];show (sK (rowOf t) []/\sg (rowOf t) (dec (x.den E.ρ)))/\∃arr lo hi us,w.heap[b]?=some (.cells arr ty (lo,hi))/\ct _ w.heap (bE E.ρ (rowOf t) [] (dec (x.den E.ρ)).l 0) us/\_;rw [hρ];rw [hρ] at q3 hlen;exact⟨⟨qz,q1⟩,arr,lo,hi,us,g4,ct.keep kp _ _ q3,q4,(by show (bE E.ρ (rowOf t) [] (dec (x.den E.ρ)).l 0).length<=_; rw [hρ]; exact hlen),g5.2,g6,q5⟩
    ·simp only [VR];refine⟨.inl rfl,(dec (x.den ρ)).l.length,a,cap,?_,rfl,g2,?_⟩
     ·show (dM x).den E.ρ=_;rw [cm,hρ]
     ·simp only [eD];rw [hθ,hκ];exact .inl ⟨g5.1,aA _⟩
theorem L0 [bH] {α:Type} {ρ:Nat->Int} {e8:List Nat} {x:V} {y:α} {w:World} {B:Nat} {key:D}: ∀{cs:List FC} {j:Nat} {s:St} {k:List W->St->T α} {E:En} {us:List Value},E.ρ=ρ->bO E s.h w->bV ρ s.pc->(∀id o,s.h.get id=some o->nf o=true\/(E.θ id).1≠B)->
 us.length=cs.length->(∀i c u,cs[i]?=some c->us[i]?=some u->oR E w.heap B key (j+i+1) (e8.getD (j+i+2) 0) c ((dec (x.den ρ)).hd (j+i)) u)->(RV e8 x cs j s k).leaf ρ=some y->
 ∃vs h' ec E',bV ρ ec/\od B key (fun i=>j<i) w E s.h E' h'/\ct E' w.heap vs us/\(k vs { s with h:=h',pc:=ec }).leaf ρ=some y
 |[],j,s,k,E,us,hρ,r,hp,hx,Y,ho,h=>by have:us= []:=amT Y;subst this;exact⟨[],s.h,s.pc,E,hp,od.refl r,by simp only [ct],h⟩
 |c::cs,j,s,k,E,[],hρ,r,hp,hx,Y,ho,h=>by simp at Y
 |c::cs,j,s,k,E,u::us,hρ,r,hp,hx,Y,ho,h=>by
  simp only [RV] at h;have h0:=ho 0 c u rfl rfl;rw [bj,<- ph] at h0;obtain⟨v,U,fI,E1,fu,f1,v1,g1⟩:=RW hρ r hp hx h0 h;have hρ1:E1.ρ=ρ:=f1.view.kp.ρ.trans hρ
  obtain⟨vs,Z,jG,E2,jy,f2,v2,g2⟩:=L0 (s:={ s with h:=U,pc:=fI }) (us:=us) hρ1 f1.view.rel fu (f1.nf r hx) (by simpa using Y) (fun i c' u' hc hu=>by
   have:=ho (i+1) c' u' (by simpa using hc) (by simpa using hu);have e1:j+(i+1)=j+1+i:=J
   rw [e1] at this
   exact f1.own J this) g1
  refine⟨v::vs,Z,jG,E2,jy,f1.trans f2 (fun i hi=>by omega) (fun i hi=>by omega),?_,g2⟩;rw [bP];exact⟨u,us,rfl,VR.keep f2.view.kp _ _ v1,v2⟩
theorem aaK [bH] {α:Type} {ρ:Nat->Int} {t:Nat} {e8:List Nat} {x:V} {y:α} {w:World} {B:Nat} {key:D} {s:St} {k:W->St->T α} {E:En} {u:Value} (hρ:E.ρ=ρ) (r:bO E s.h w) (hp:bV ρ s.pc) (hx: ∀id o,s.h.get id=some o->nf o=true\/(E.θ id).1≠B)
 (ho:p9 E w.heap B t e8 key (dec (x.den ρ)) u) (h:(aaL t e8 x s k).leaf ρ=some y) :
 ∃v h' ec E',bV ρ ec/\od B key (fun _=>True) w E s.h E' h'/\VR E' w.heap v u/\(k v { s with h:=h',pc:=ec }).leaf ρ=some y:=by
 unfold p9 at ho;unfold aaL at h;split at ho
 ·rename_i Ot;rw [Ot] at h;obtain⟨c,hc,ho⟩:=ho;rw [hc] at h;obtain⟨v,U,fI,E1,fu,f1,v1,g1⟩:=RW hρ r hp hx ho h;exact⟨v,U,fI,E1,fu,⟨f1.view,fun b x hb=>(f1.hd b x hb).imp id fun⟨j,_,e⟩=> ⟨j,trivial,e⟩,f1.uu,f1.new,f1.N3,f1.ro⟩,v1,g1⟩
 ·rename_i Ot;rw [Ot] at h;obtain⟨b,o,arr,lo,hi,rfl,Z,h3,h4,h5,h6⟩:=ho
  have s8: ∃us:List Value,us.length=(qI t).cs.length/\∀j u,us[j]?=some u->arr[o+j]?=some u:=by
   refine⟨(arr.toList.drop o).take (qI t).cs.length,?_,fun j u hu=>?_⟩
   ·rw [a8,amU,bo]; omega
   ·rw [anq] at hu;split at hu
    ·rw [anp,bw] at hu;exact hu
    ·simp at hu
  obtain⟨us,Y,BL⟩:=s8
  have iX: ∀i c u,(qI t).cs[i]?=some c->us[i]?=some u->u.oneCell'=true/\oR E w.heap B key (i+1) (e8.getD (i+2) 0) c ((dec (x.den ρ)).hd i) u:=by intro i c u hc hu;obtain⟨u',p1,p2,p3⟩:=h6 i c hc;rw [BL i u hu] at p1;simp only [ah] at p1;subst p1;exact⟨p2,p3⟩
  obtain⟨vs,U,fI,E1,fu,f1,v1,g1⟩:=L0 (j:=0) (us:=us) hρ r hp hx Y (fun i c u hc hu=>by
   rw [aA]
   exact (iX i c u hc hu).2) h
  have RM:E1.hd b=some (B,key,0):=by
   rcases f1.hd b _ Z with q|⟨j,q1,q2⟩
   ·exact q
   ·simp only [ak,true_and] at q2;omega
  have hθ:(E1.MV b o (arr.size-o) U.next).θ U.next=(b,o):=En.ext_θ_new E1 U.next (b,o) (arr.size-o);have hκ:(E1.MV b o (arr.size-o) U.next).κ U.next=arr.size-o:=En.ext_κ_new E1 U.next (b,o) (arr.size-o);have kp:=Az f1.view.rel b o (arr.size-o);have hvl:=v1.length
  have f2:=sH (o:=o) (c:=arr.size-o) f1.view.rel RM (f1.nf r hx) (.cells vs (e8.getD 0 0)) rfl (by
   simp only [OR];rw [hθ,hκ];refine⟨arr,lo,hi,us,h3,ct.keep kp _ _ v1,BL,J,J,h5,fun u hu=>?_⟩;obtain⟨i,hi'⟩:=aoh hu;have dX:=(aX.1 hi').1;have alG:i<(qI t).cs.length:=J
   exact (iX i _ u (aO alG) hi').1)
  refine⟨_,_,fI,_,fu,f1.trans f2 (fun _ _=>trivial) (fun _ _=>trivial),?_,g1⟩;simp only [VR];rw [hθ];exact⟨by rw [bj],.inl rfl⟩
theorem eR.one {E:En} {h:Array Obj} {B t:Nat} {e8:List Nat} {ov:List (V×W)} {n:Int} {d:D} (qz:lJ E.ρ n ov=none): ∀{ds:List D} {es:List MapEntry},(ds.map jk).Nodup->gf ds (.i n)=some d->eR E h B t e8 ov ds es->
 ∃en:MapEntry,p9 E h B t e8 (.i n) d en.val/\∀e1∈es,e1.key= .int .i64 n->e1=en
 |[],_,_,hf,_=>by simp [gf] at hf
 |a::ds,_,BP,hf,⟨e0,rr,m,h0,q1,q2,q3,q4⟩=>by
  subst h0;have hk:jk a= .i m:=by rw [q1]; rfl
  simp only [aw,anf] at BP;simp only [gf] at hf;by_cases hm:m=n
  ·subst hm;rw [ag hk] at hf;simp only [ah] at hf;rw [qz,hf] at q3;refine⟨e0,q3,fun e1 U Z=>?_⟩;rcases ax.1 U with rfl|U
   ·rfl
   ·obtain⟨i,hi⟩:=aoh U;exact absurd (eR.set.eR.CM q4 hi Z) (by rw [<- hk]; exact BP.1)
  ·rw [af (by rw [hk]; simpa using hm)] at hf;obtain⟨en,p1,p2⟩:=eR.one qz BP.2 hf q4;refine⟨en,p1,fun e1 U Z=>?_⟩;rcases ax.1 U with rfl|U
   ·rw [q2] at Z;simp only [Value.int.injEq,true_and] at Z;exact absurd Z hm
   ·exact p2 e1 U Z
theorem eR.Va {E E3:En} {h:Array Obj} (kp:fy E h E3 h) {B t:Nat} {e8:List Nat} {ov:List (V×W)} {n:Int} {x:V} {v:W} (hx:x.den E.ρ=n) (qz:lJ E.ρ n ov=none) (hd: ∀b m j,m≠n->E.hd b=some (B,.i m,j)->E3.hd b=some (B,.i m,j)) :
 ∀{ds:List D} {es:List MapEntry},(∀e1∈es,e1.key= .int .i64 n->VR E3 h v e1.val)->eR E h B t e8 ov ds es->eR E3 h B t e8 ((x,v)::ov) ds es
 |[],_,_,ho=>ho
 |a::ds,_,hv,⟨e0,rr,m,h0,q1,q2,q3,q4⟩=>by
  subst h0;refine⟨e0,rr,m,rfl,q1,q2,?_,eR.Va kp hx qz hd (fun e1 U Z=>hv e1 (by simp [U]) Z) q4⟩;simp only [lJ,kp.ρ,hx];by_cases hm:n=m
  ·rw [ag hm];exact hv e0 ad (by rw [q2,hm])
  ·rw [af hm];split at q3
   ·exact VR.keep kp _ _ q3
   ·exact q3.keep kp fun b j hb=> ⟨hd b m j (fun e=>hm e.symm) hb,rfl⟩
theorem aaE [bH] {α:Type} {ρ:Nat->Int} {id:Nat} {x:V} {y:α} {w:World} {s:St} {k:St->T α} {E:En} (hρ:E.ρ=ρ) (r:bO E s.h w) (hp:bV ρ s.pc) (h:(aaF id x s k).leaf ρ=some y) :
 ∃h' ec E',bV ρ ec/\View E s.h w E' h'/\(k { s with h:=h',pc:=ec }).leaf ρ=some y:=by
 unfold aaF at h;split at h
 ·rename_i o Y;split at h
  ·rename_i e t e8 ov;obtain⟨fI,fu,U⟩:=xQ hp h
   cases qz:lJ ρ (x.den ρ) ov with
   |some v=>rw [qz] at U; exact⟨s.h,fI,E,fu,View.refl r,U⟩
   |none=>
    rw [qz] at U;obtain⟨jG,jy,Z⟩:=cC (s:={ s with pc:=fI }) fu U;rw [wb] at Z;simp only [V.den,e9.den,rH] at Z;obtain⟨g0,bK,c',g1,g2⟩:=zC r Y;rw [hρ] at g0 g2;have hm: ∀n,lJ E.ρ n ov=lJ ρ n ov:=fun n=>by rw [hρ]
    cases hf:gf (dec (e.den ρ)).l (.i (x.den ρ)) with
    |none=> rw [hf] at Z;exact⟨s.h,jG,E,jy,View.refl r,Z⟩
    |some d=>
     rw [hf] at Z;simp only [bq,if_true] at Z;have Z:(aaL t e8 (.op .DV e (ng x)) { s with pc:=jG,h:=s.h.drop id } fun v s=>k { s with h:=s.h.put id (.uc e t e8 ((x,v)::ov)) }).leaf ρ=some y:=Z
     have hdx:dec ((V.op .DV e (ng x)).den ρ)=d:=by simp only [V.den,e9.den,bB,rH,hf,aC]
     obtain⟨en,alr,huq⟩:=eR.one (by rw [hρ]; exact qz) g0.1 hf g2;obtain⟨dst,drl⟩:=wv r id;have Uh:=(r.live id _ Y).1
     have Hh:id<s.h.next:=by
      rcases aW id s.h.next with q|q
      ·exact q
      ·exact absurd Uh (r.fresh id q)
     have YI: ∀j o,(s.h.drop id).get j=some o->s.h.get j=some o/\j≠id:=by
      intro j o hj;rw [Hp.kq] at hj;split at hj
      ·simp at hj
      ·rename_i e; exact⟨hj,e⟩
     have hx0: ∀j o,(s.h.drop id).get j=some o->nf o=true\/(E.θ j).1≠(E.θ id).1:=by intro j o hj;obtain⟨q1,q2⟩:=YI j o hj;exact .inr fun e=>q2 (r.inj j id _ _ q1 Y e)
     obtain⟨v,h3,U4,E3,I8,f3,v3,g3⟩:=aaK (s:={ s with pc:=jG,h:=s.h.drop id }) (B:=(E.θ id).1) (key:=.i (x.den ρ)) hρ drl jy hx0 (by rw [hdx]; exact alr) Z;have hθ:=f3.view.kp.θ id Uh;have hρ3:E3.ρ=ρ:=f3.view.kp.ρ.trans hρ
     have hnn: ∀j o,h3.get j=some o->j≠id/\(E3.θ j).1≠(E3.θ id).1:=by
      intro j o hj;rcases f3.new j o hj with q|⟨_,q⟩
      ·obtain⟨q1,q2⟩:=YI j o q;refine⟨q2,?_⟩;rw [hθ,f3.view.kp.θ j (r.live j o q1).1];exact fun e=>q2 (r.inj j id _ _ q1 Y e)
      ·have q:s.h.next<=j:=q;refine⟨J,fun e=>?_⟩;rw [hθ] at e;rcases f3.view.hold _ (.inl ⟨j,o,hj,rfl⟩) with ⟨i0,o0,q1,q2⟩|⟨y0,q1⟩
       ·obtain⟨q3,q4⟩:=YI i0 o0 q1;exact q4 (r.inj i0 id _ _ q3 Y (q2.trans e))
       ·rw [e] at q1;exact (r.hid _ _ q1).2.2 id _ Y rfl
     have hr3:bO E3 (h3.put id (.uc e t e8 ((x,v)::ov))) w:=by
      refine KR f3.view.rel (f3.view.kp.dm id Uh) ?_ hnn ?_ ?_
      ·rw [hθ];exact fun hr=>(r.live id _ Y).2.2 (f3.ro _ hr)
      ·rw [hθ];intro q hq;exact (r.hid _ _ (f3.uu _ _ hq)).2.2 id _ Y rfl
      ·simp only [OR];rw [hρ3,hθ];refine⟨⟨g0.1,fun p hp=>?_,?_⟩,bK,c',g1,?_⟩
       ·rcases ax.1 hp with rfl|hp
        ·rcases zB (E:=E) (i:=0) (dt:=.int .i64) ⟨_,rfl⟩ (x.den ρ) g2 with ⟨q1,_⟩|⟨_,_,_,_,q2,_⟩
         ·rw [hf] at q1; simp at q1
         ·exact q2
        ·exact g0.2.1 p hp
       ·simp only [aw,anf];exact⟨IH qz,g0.2.2⟩
       ·exact eR.Va f3.view.kp (x:=x) (by rw [hρ]) (by rw [hρ]; exact qz) (fun b m j hm hb=>by
         rcases f3.hd b _ hb with q|⟨j',_,q⟩
         ·exact q
         ·simp only [ak,D.i.injEq,true_and] at q
          exact absurd q.1 hm) (fun e1 U Z=>by rw [huq e1 U Z]; exact v3) g2
     refine⟨_,U4,E3,I8,⟨hr3,f3.view.kp,fun b hb=> .inl (f3.ro b hb),fun b hb=>by
      rcases hb with ⟨j,o,q1,q2⟩|q
      ·rw [Hp.bQ] at q1;split at q1
       ·rename_i e;rw [e,hθ] at q2;exact .inl ⟨id,_,Y,q2⟩
       ·rcases f3.view.hold b (.inl ⟨j,o,q1,q2⟩) with ⟨i0,o0,p1,p2⟩|p
        ·exact .inl ⟨i0,o0,(YI i0 o0 p1).1,p2⟩
        ·exact .inr p
      ·rcases f3.view.hold b (.inr q) with ⟨i0,o0,p1,p2⟩|p
       ·exact .inl ⟨i0,o0,(YI i0 o0 p1).1,p2⟩
       ·exact .inr p⟩,g3⟩
  ·exact⟨s.h,s.pc,E,hp,View.refl r,h⟩
 ·exact⟨s.h,s.pc,E,hp,View.refl r,h⟩
end
end Go.As
end
section
namespace Go.As
noncomputable section
def TO {α:Type} (c:FC) (v:W) (ty:Nat) (s:St) (k:V->St->T α):T α:=match c with
 | .ck c=>OE v s fun v s=>match lQ c v with
   |some x=>k x s
   |none=> .fail
 | .mp t=>match v with
   | .map i=>match s.h.get i with
     |some o=>match o with
      | .jS e t'=>match Nat.beq t t' with
        |true=>k e { s with h:=s.h.drop i }
        |false=> .fail
      |_=> .fail
     |none=> .fail
   |_=> .fail
 | .own t=>match v with
   | .dq=>k (.ei (.i 1)) s
   | .wL z t'=>match Nat.beq t t' with
     |true=>k z s
     |false=> .fail
   | .slice i o n c=>match c with
     | .exact m=>match n with
       |0=>match m with
        |0=>k (.ei (.i 2)) s
        |_=> .fail
       |_=> .fail
     | .rest es=>match s.h.get i with
       |some ob=>match ob with
        | .cells cs VN=>if es=(rowOf t).es/\VN=ty/\o+n*es=cs.length then match n with
         |0=>k (.ei (.i 3)) { s with h:=s.h.drop i }
         |m+1=>match kz (rowOf t) (.ei (.i 0)) (m+1) (cs.drop o) with
          |some e=>k e { s with h:=s.h.drop i }
          |none=> .fail
         else .fail
        |_=> .fail
       |none=> .fail
   | .ow i n t'=>match Nat.beq t t' with
     |true=>match Bm s.h i t with
      |some (e,VN)=>match Nat.beq VN ty&&eV n (dM e) with
       |true=>k e { s with h:=s.h.drop i }
       |false=> .fail
      |none=> .fail
     |false=> .fail
   | .sk i lo n t'=>match Nat.beq t t' with
     |true=>match Bm s.h i t with
      |some (e,VN)=>match Nat.beq VN ty with
       |true=>xx e lo n s fun s=>jo s (qp n (.lit 0)) fun s b=>match b with
        |true=>k (.ei (.i 3)) { s with h:=s.h.drop i }
        |false=>k (DM e lo n) { s with h:=s.h.drop i }
       |false=> .fail
      |none=> .fail
     |false=> .fail
   |_=> .fail
def GG {α:Type} (e8:List Nat):List FC->Nat->List W->St->(V->St->T α)->T α
 |[],_,[],s,k=>k (.ei (.i 0)) s
 |c::cs,j,v::vs,s,k=>TO c v (e8.getD (j+2) 0) s fun a s=>GG e8 cs (j+1) vs s fun b s=>k (eE a b) s
 |_,_,_,_,_=> .fail
def ae1 {α:Type} (t:Nat) (e8:List Nat) (v:W) (s:St) (k:V->St->T α):T α:=match (qI t).ptr with
 |false=>match (qI t).cs with
  |[c]=>TO c v (e8.getD 1 0) s k
  |_=> .fail
 |true=>match v with
  | .ptr i o=>match o with
    |0=>match s.h.get i with
     |some ob=>match ob with
      | .cells cs ty=>match Nat.beq ty (e8.getD 0 0) with
        |true=>GG e8 (qI t).cs 0 cs { s with h:=s.h.drop i } k
        |false=> .fail
      |_=> .fail
     |none=> .fail
    |_=> .fail
  |_=> .fail
def QG {α:Type} (t:Nat) (e8:List Nat):List (V×W)->V->St->(V->St->T α)->T α
 |[],e,s,k=>k e s
 |(x,v)::l,e,s,k=>ae1 t e8 v s fun d s=>QG t e8 l (.op .uS e (eE (ng x) d)) s k
def Y' {α:Type} (id:Nat) (s:St) (k:St->T α):T α:=match s.h.get id with
 |some o=>match o with
  | .uc e t e8 ov=>QG t e8 ov e { s with h:=s.h.drop id } fun e' s=>k { s with h:=s.h.put id (.uc e' t e8 []) }
  |_=>k s
 |none=>k s
structure lH [bH] (w:World) (E:En) (H:Hp) (E':En) (H':Hp):Prop where
 view:View E H w E' H'
 mono: ∀b x,E.hd b=some x->E'.hd b=some x
 sub: ∀id o,H'.get id=some o->H.get id=some o
 hold: ∀b,E'.ro b\/(∃x,E'.hd b=some x)->E.ro b\/(∃x,E.hd b=some x)\/∃id o,H.get id=some o/\(E.θ id).1=b
theorem lH.refl [bH] {w:World} {E:En} {H:Hp} (r:bO E H w):lH w E H E H:=⟨View.refl r,fun _ _ h=>h,fun _ _ h=>h,fun _ h=>h.imp id .inl⟩
theorem lH.trans [bH] {w:World} {E E1 E2:En} {H H1 H2:Hp} (r:bO E H w) (a:lH w E H E1 H1) (b:lH w E1 H1 E2 H2):lH w E H E2 H2:=by
 refine⟨a.view.trans b.view,fun q x h=>b.mono q x (a.mono q x h),fun id o h=>a.sub id o (b.sub id o h),fun q h=>?_⟩;rcases b.hold q h with h|h|⟨id,o,U,Z⟩
 ·exact a.hold q (.inl h)
 ·exact a.hold q (.inr h)
 ·have h3:=a.sub id o U;rw [a.view.kp.θ id (r.live id o h3).1] at Z;exact .inr (.inr ⟨id,o,h3,Z⟩)
theorem lH.ae5 [bH] {w:World} {E E':En} {H H':Hp} (r:bO E H w) (f:Kq E w H E' H'):lH w E H E' H':=by
 refine⟨View.ae4 r f.ew f.rel,fun b x h=>by rw [f.ew.hd]; exact h,f.sub.get,fun b h=>?_⟩;rcases h with h|⟨x,h⟩
 ·rcases f.ew.ru b h with g|g|g
  ·exact .inl g
  ·exact .inr (.inr g)
  ·have:=f.rel.qt b h;omega
 ·exact .inr (.inl ⟨x,by rw [<- f.ew.hd]; exact h⟩)
theorem lH.own [bH] {w:World} {E E':En} {H H':Hp} (a:lH w E H E' H') {B:Nat} {key:D} {j ty:Nat} {c:FC} {d:D} {u:Value} (ho:oR E w.heap B key j ty c d u):oR E' w.heap B key j ty c d u:=
 ho.keep a.view.kp fun b hb=> ⟨a.mono b _ hb,rfl⟩
def En.Ui (E:En) (b:Nat) (x:Nat×D×Nat):En:={ E with hd:=fun q=>if q=b then some x else E.hd q }
theorem rT [bH] {E:En} {H:Hp} {w:World} (r:bO E H w) {i:Nat} {o:dN} (Y:H.get i=some o) (x:Nat×D×Nat):lH w E H (E.Ui (E.θ i).1 x) (H.drop i):=by
 have hg: ∀j o,(H.drop i).get j=some o->H.get j=some o/\j≠i:=by
  intro j o hj;rw [Hp.kq] at hj;split at hj
  ·simp at hj
  ·rename_i e; exact⟨hj,e⟩
 have kp:fy E w.heap (E.Ui (E.θ i).1 x) w.heap:=⟨rfl,fun _ h=>h,fun _ _=>rfl,fun _ _=>rfl,fun _ h=>h,fun _ _=>rfl⟩
 have mono: ∀b y,E.hd b=some y->(E.Ui (E.θ i).1 x).hd b=some y:=by
  intro b y hb;show (if b=(E.θ i).1 then some x else E.hd b)=_;rw [af]
  ·exact hb
  ·exact fun e=>(r.hid b y hb).2.2 i o Y e.symm
 have nQ: ∀b y,(E.Ui (E.θ i).1 x).hd b=some y->b=(E.θ i).1\/E.hd b=some y:=by
  intro b y hb;have hb:(if b=(E.θ i).1 then some x else E.hd b)=some y:=hb;split at hb
  ·rename_i e; exact .inl e
  ·exact .inr hb
 refine⟨⟨⟨r.fresh,r.res,fun j o2 Z=>?_,fun a b o1 o2 U Z he=>r.inj a b o1 o2 (hg _ _ U).1 (hg _ _ Z).1 he,r.qt,r.iY,fun b y hb=>?_⟩,kp,fun _ h=> .inl h,fun b hb=>?_⟩,mono,fun j o2 Z=>(hg j o2 Z).1,fun b hb=>?_⟩
 ·obtain⟨g1,g2,g3⟩:=r.live j o2 (hg j o2 Z).1;exact⟨g1,g2.keep kp g1 rfl fun key b q hb=> ⟨mono b _ hb,rfl⟩,g3⟩
 ·rcases nQ b y hb with rfl|hb
  ·refine⟨fq r Y,(r.live i o Y).2.2,fun j o2 Z e=>?_⟩;obtain⟨q1,q2⟩:=hg j o2 Z;exact q2 (r.inj j i o2 o q1 Y e)
  ·obtain⟨q1,q2,q3⟩:=r.hid b y hb;exact⟨q1,q2,fun j o2 Z=>q3 j o2 (hg j o2 Z).1⟩
 ·rcases hb with ⟨j,o2,Z,he⟩|⟨y,hb⟩
  ·exact .inl ⟨j,o2,(hg j o2 Z).1,he⟩
  ·rcases nQ b y hb with rfl|hb
   ·exact .inl ⟨i,o,Y,rfl⟩
   ·exact .inr ⟨y,hb⟩
 ·rcases hb with hb|⟨y,hb⟩
  ·exact .inl hb
  ·rcases nQ b y hb with rfl|hb
   ·exact .inr (.inr ⟨i,o,Y,rfl⟩)
   ·exact .inr (.inl ⟨y,hb⟩)
theorem s6 (E:En) (b:Nat) (x:Nat×D×Nat):(E.Ui b x).hd b=some x:=by show (if b=b then some x else E.hd b)=_;rw [ag rfl]
theorem PQ {E:En} {h:Array Obj} {i:Nat} {e:V} {t ty:Nat} (ho:OR E h i (.vec e t ty [])) {l k:Nat} (hk:l+k<=(dec (e.den E.ρ)).l.length) :
 ∃arr lo hi us,h[(E.θ i).1]?=some (.cells arr ty (lo,hi))/\(E.θ i).2+E.κ i=arr.size/\(∀q,lo<=q->q<hi->arr.size<=q)/\ct E h (bE E.ρ (rowOf t) [] (((dec (e.den E.ρ)).l.take (l+k)).drop l) 0) us/\
  (∀q u,us[q]?=some u->arr[(E.θ i).2+l*(rowOf t).es+q]?=some u)/\∀u∈us,u.oneCell'=true:=by
 simp only [OR] at ho;obtain⟨⟨qz,_⟩,arr,lo,hi,us,U,Z,h3,h4,h5,h6,h7⟩:=ho;generalize (dec (e.den E.ρ)).l=L at *
 have hL:L=L.take l++((L.take (l+k)).drop l++L.drop (l+k)):=by
  rw [List.drop_take,show l+k-l=k by omega]
  have e1:(L.drop l).take k++L.drop (l+k)=L.drop l:=by rw [<- aoI,anb]
  rw [e1,anb]
 have h2':=Z;rw [hL,gO,gO] at h2';obtain⟨a,bc,rfl,a1,a2⟩:=h2'.split;obtain⟨b,c,rfl,b1,b2⟩:=a2.split
 have U9:a.length=l*(rowOf t).es:=by rw [a1.length,cD qz,a8,aoE J]
 refine⟨arr,lo,hi,b,U,h5,h6,b1,fun q u hu=>?_,fun u hu=>h7 u (by simp [hu])⟩;have ff:=(aX.1 hu).1
 have:=h3 (l*(rowOf t).es+q) u (by
  rw [aox J,aoQ J,U9,an3]
  exact hu)
 rw [<- amR] at this;exact this
theorem EW {α:Type}: ∀{n:Nat} {l:List α},n<=l.length->As.eF n l=some (l.drop n)
 |0,_,_=>rfl
 |n+1,[],h=>by simp at h
 |n+1,_::l,h=>by simp only [As.eF,aow];exact EW (by simpa using h)
theorem QH [bH] {α:Type} {ρ:Nat->Int} {c:FC} {v:W} {ty:Nat} {s:St} {k:V->St->T α} {y:α} {E:En} {w:World} {u:Value} (B:Nat) (key:D) (j:Nat) (hρ:E.ρ=ρ) (r:bO E s.h w) (hp:bV ρ s.pc) (hv:VR E w.heap v u) (h:(TO c v ty s k).leaf ρ=some y) :
 ∃x h' ec E',bV ρ ec/\lH w E s.h E' h'/\oR E' w.heap B key j ty c (dec (x.den ρ)) u/\(k x { s with h:=h',pc:=ec }).leaf ρ=some y:=by
 cases c with
 |ck c=>
  simp only [TO] at h;obtain⟨v',U,fI,E1,fu,f,q,g⟩:=Jj hρ r hp h;split at g
  ·rename_i x hx;refine⟨x,U,fI,E1,fu,lH.ae5 r f,?_,g⟩;have:=(jI (q u hv) hx).rd (oY hx);rw [f.ρ,hρ] at this;exact this
  ·simp [T.leaf] at g
 |mp t=>
  simp only [TO] at h;split at h
  ·rename_i i;split at h
   ·rename_i o Y;split at h
    ·rename_i e t';split at h
     ·rename_i ht;have ht:=aq ht;subst ht;have ho:=(r.live i _ Y).2.1;simp only [OR] at ho;obtain⟨bK,c',g1,g2⟩:=ho;simp only [VR] at hv;obtain⟨rfl,_⟩:=hv;rw [hρ] at g2;exact⟨e,_,s.pc,_,hp,rT r Y (B,key,j),⟨(E.θ i).1,bK,c',rfl,s6 _ _ _,g1,g2⟩,h⟩
     ·simp [T.leaf] at h
    ·simp [T.leaf] at h
   ·simp [T.leaf] at h
  ·simp [T.leaf] at h
 |own t=>
  simp only [TO] at h;split at h
  ·simp only [VR] at hv;subst hv;refine⟨_,s.h,s.pc,E,hp,lH.refl r,.inl ⟨⟨none,rfl⟩,?_⟩,h⟩;simp only [V.den,bB];exact .nil t
  ·rename_i z t';split at h
   ·rename_i ht;have ht:=aq ht;subst ht;simp only [VR] at hv;rw [hρ] at hv;exact⟨_,s.h,s.pc,E,hp,lH.refl r,.inl hv,h⟩
   ·simp [T.leaf] at h
  ·rename_i i o n c;split at h
   ·rename_i m;split at h
    ·split at h
     ·simp only [VR,eD] at hv;obtain⟨_,a,cap,rfl,_,rfl,_⟩:=hv;refine⟨_,s.h,s.pc,E,hp,lH.refl r,.inl ⟨⟨some a,rfl⟩,?_⟩,h⟩;simp only [V.den,bB];exact .uQ t a 0
     ·simp [T.leaf] at h
    ·simp [T.leaf] at h
   ·rename_i es;split at h
    ·rename_i ob Y;split at h
     ·rename_i cs VN;split at h
      ·rename_i hc;obtain⟨rfl,rfl,hlen⟩:=hc;have ho:=(r.live i _ Y).2.1;simp only [OR] at ho;obtain⟨arr,lo,hi,us,g1,g2,g3,g4,g5,g6,g7⟩:=ho;simp only [VR,eD] at hv;obtain⟨_,a,cap,rfl,q1,q2⟩:=hv
       have fW:(a=⟨(E.θ i).1,(E.θ i).2+o,none⟩/\(E.θ i).2+o+cap*(rowOf t).es=arr.size)\/(cap=0/\n=0/\(E.θ i).2+o=arr.size):=by
        rcases q2 with ⟨q2,q3⟩|⟨q2,q3,q4⟩
        ·exact .inl ⟨q2,J⟩
        ·exact .inr ⟨q2,q3,J⟩
       have hs:=rT r Y (B,key,j);split at h
       ·refine⟨_,_,s.pc,_,hp,hs,.inr ⟨(E.θ i).1,(E.θ i).2+o,0,cap,a,arr,lo,hi,rfl,q1,s6 _ _ _,g1,fW,g6,.inl ⟨rfl,?_⟩⟩,h⟩;simp only [V.den,bB]
       ·rename_i m;split at h
        ·rename_i e he;obtain⟨ds,d1,d2,d3,d4,d5⟩:=qM (ρ:=ρ) _ he;have hz:(dec ((V.ei (.i 0)).den ρ))= .i 0:=by simp only [V.den,bB]
         rw [hz] at d2 d3;have d2:(dec (e.den ρ)).l=ds:=d2;have d3:=d3 rfl;refine⟨e,_,s.pc,_,hp,hs,.inr ⟨(E.θ i).1,(E.θ i).2+o,m+1,cap,a,arr,lo,hi,rfl,q1,s6 _ _ _,g1,fW,g6,.inr ⟨⟨d3,by rw [d2]; exact d4,?_⟩,by rw [d2]; exact d1,us.drop o,?_,?_,?_⟩⟩,h⟩
         ·rw [d2];intro e0;rw [e0] at d1;simp at d1
         ·rw [d2];show ct _ w.heap (bE E.ρ (rowOf t) [] ds 0) (us.drop o);rw [hρ];have FT:As.eF o cs=some (cs.drop o):=EW J;exact d5 _ _ _ _ (by exact hρ) (ct.keep hs.view.kp _ _ (g2.eF FT).1)
         ·intro q u hu;rw [anp] at hu;have:=g3 _ u hu;rw [<- amR] at this;exact this
         ·exact fun u hu=>g7 u (bu hu)
        ·simp [T.leaf] at h
      ·simp [T.leaf] at h
     ·simp [T.leaf] at h
    ·simp [T.leaf] at h
  ·rename_i i n t';split at h
   ·rename_i ht;have ht:=aq ht;subst ht;split at h
    ·rename_i e VN hva;split at h
     ·rename_i hc;simp only [an] at hc;have Om:=aq hc.1;have hn:=cG _ _ hc.2;subst Om hn;have Y:=mZ hva;have ho:=(r.live i _ Y).2.1;have hw:=(OR.om.1 ho).1.2;simp only [VR,eD] at hv;obtain⟨_,m,a,cap,q0,rfl,q1,q2⟩:=hv;rw [cm] at q0;have hm:(dec (e.den E.ρ)).l.length=m:=J
      have jT:0<m:=by rw [<- hm]; exact am3.2 hw.2.2
      obtain⟨arr,lo,hi,us,g1,g2,g3,g4,g5,g6⟩:=PQ ho (l:=0) (k:=m) J;have hs:=rT r Y (B,key,j);rw [aA,am4,<- hm,anE] at g4
      have fW:a=⟨(E.θ i).1,(E.θ i).2,none⟩/\(E.θ i).2+cap*(rowOf t).es=arr.size:=by
       rcases q2 with ⟨q2,q3⟩|⟨_,q3,_⟩
       ·exact⟨by rw [q2,bj],J⟩
       ·omega
      rw [hρ] at hw hm;refine⟨e,_,s.pc,_,hp,hs,.inr ⟨(E.θ i).1,(E.θ i).2,m,cap,a,arr,lo,hi,rfl,q1,s6 _ _ _,g1,.inl fW,g3,.inr ⟨hw,hm,us,?_,fun q u hu=>?_,g6⟩⟩,h⟩
      ·have:=ct.keep hs.view.kp _ _ g4;rw [hρ] at this;show ct _ w.heap (bE E.ρ (rowOf t) [] (dec (e.den ρ)).l 0) us;rw [hρ];exact this
      ·have:=g5 q u hu;rw [amS,bj] at this;exact this
     ·simp [T.leaf] at h
    ·simp [T.leaf] at h
   ·simp [T.leaf] at h
  ·rename_i i D! n t';split at h
   ·rename_i ht;have ht:=aq ht;subst ht;split at h
    ·rename_i e VN hva;split at h
     ·rename_i hc;have Om:=aq hc;subst Om;have Y:=mZ hva;have ho:=(r.live i _ Y).2.1;have hw:=(OR.om.1 ho).1.2;obtain⟨fI,fu,z1,z2,z3,U⟩:=vR hp h;obtain⟨jG,jy,Z⟩:=cC (s:={ s with pc:=fI }) fu U;rw [iq] at Z;simp only [V.den] at Z;simp only [VR,eD] at hv;obtain⟨_,l,m,a,cap,q0,q00,rfl,q1,q2⟩:=hv;have q0':=q0;have alb:=q00;rw [hρ] at q0 q00;obtain⟨arr,lo,hi,us,g1,g2,g3,g4,g5,g6⟩:=PQ ho (l:=l) (k:=m) (by rw [hρ]; omega);have hs:=rT r Y (B,key,j)
      have fW:(a=⟨(E.θ i).1,(E.θ i).2+l*(rowOf t).es,none⟩/\(E.θ i).2+l*(rowOf t).es+cap*(rowOf t).es=arr.size)\/(cap=0/\m=0/\(E.θ i).2+l*(rowOf t).es=arr.size):=by
       rcases q2 with ⟨q2,q3⟩|⟨q2,q3,q4⟩
       ·exact .inl ⟨q2,J⟩
       ·exact .inr ⟨q2,q3,J⟩
      cases hm:m with
      |zero=>
       have:n.den ρ=0:=by rw [q00,hm]; rfl
       rw [this] at Z;subst hm;refine⟨_,_,jG,_,jy,hs,.inr ⟨(E.θ i).1,(E.θ i).2+l*(rowOf t).es,0,cap,a,arr,lo,hi,rfl,q1,s6 _ _ _,g1,fW,g3,.inl ⟨rfl,?_⟩⟩,Z⟩;simp only [V.den,bB]
      |succ m'=>
       have:(n.den ρ == 0)=false:=by rw [beq_eq_false_iff_ne]; omega
       rw [this] at Z;rw [<- hm];have py:=xw (e:=e) q0' alb;rw [hρ] at py g4 hw;generalize hpt:((dec (e.den ρ)).l.take (l+m)).drop l=pt at py g4
       have afs:pt.length=m:=by rw [<- hpt,amU,a8,aoE J];omega
       have fJ:pt≠[]:=by intro e0;rw [e0] at afs;simp at afs;omega
       rw [vv fJ] at py;refine⟨_,_,jG,_,jy,hs,.inr ⟨(E.θ i).1,(E.θ i).2+l*(rowOf t).es,m,cap,a,arr,lo,hi,rfl,q1,s6 _ _ _,g1,fW,g3,.inr ⟨?_,?_,us,?_,g5,g6⟩⟩,Z⟩
       ·rw [py];refine⟨by rw [bJ],fun d hd=>?_,by rw [bJ]; exact fJ⟩;rw [bJ,<- hpt] at hd;exact hw.2.1 d (amV (bu hd))
       ·rw [py,bJ]; exact afs
       ·rw [py,bJ];have:=ct.keep hs.view.kp _ _ g4;show ct _ w.heap (bE E.ρ (rowOf t) [] pt 0) us;rw [hρ];exact this
     ·simp [T.leaf] at h
    ·simp [T.leaf] at h
   ·simp [T.leaf] at h
  ·simp [T.leaf] at h
theorem KZ [bH] {α:Type} {ρ:Nat->Int} {e8:List Nat} {y:α} {w:World} (B:Nat) (key:D): ∀{cs:List FC} {j:Nat} {vs:List W} {s:St} {k:V->St->T α} {E:En} {us:List Value},E.ρ=ρ->bO E s.h w->bV ρ s.pc->ct E w.heap vs us->(GG e8 cs j vs s k).leaf ρ=some y->
 ∃x h' ec E',bV ρ ec/\lH w E s.h E' h'/\us.length=cs.length/\(∀i c u,cs[i]?=some c->us[i]?=some u->oR E' w.heap B key (j+i+1) (e8.getD (j+i+2) 0) c ((dec (x.den ρ)).hd i) u)/\(k x { s with h:=h',pc:=ec }).leaf ρ=some y
 |[],j,[],s,k,E,us,hρ,r,hp,hv,h=>by rw [fQ] at hv;subst hv;exact⟨_,s.h,s.pc,E,hp,lH.refl r,rfl,fun i c u hc=>by simp at hc,h⟩
 |[],j,_::_,s,k,E,us,hρ,r,hp,hv,h=>by simp [GG,T.leaf] at h
 |_::_,j,[],s,k,E,us,hρ,r,hp,hv,h=>by simp [GG,T.leaf] at h
 |c::cs,j,v::vs,s,k,E,us,hρ,r,hp,hv,h=>by
  simp only [GG] at h;rw [bP] at hv;obtain⟨u,us,rfl,hv,He⟩:=hv;obtain⟨a,U,fI,E1,fu,f1,o1,g1⟩:=QH B key (j+1) hρ r hp hv h;obtain⟨b,Z,jG,E2,jy,f2,Y,o2,g2⟩:=KZ (s:={ s with h:=U,pc:=fI }) B key (f1.view.kp.ρ.trans hρ) f1.view.rel fu (ct.keep f1.view.kp _ _ He) g1;refine⟨_,Z,jG,E2,jy,f1.trans r f2,by simp [Y],fun i c' u' hc hu=>?_,g2⟩;have Uk:dec ((eE a b).den ρ)= .p (dec (a.den ρ)) (dec (b.den ρ)):=by simp only [eE,V.den,e9.den,bB]
  cases i with
  |zero=> simp only [aF,ah] at hc hu;subst hc hu;rw [Uk];exact f2.own o1
  |succ i=>
   have:=o2 i c' u' (by simpa using hc) (by simpa using hu);have e1:j+(i+1)=j+1+i:=J
   rw [Uk,e1];exact this
theorem X? [bH] {α:Type} {ρ:Nat->Int} {t:Nat} {e8:List Nat} {v:W} {y:α} {w:World} (B:Nat) (key:D) {s:St} {k:V->St->T α} {E:En} {u:Value} (hρ:E.ρ=ρ) (r:bO E s.h w) (hp:bV ρ s.pc) (hv:VR E w.heap v u) (h:(ae1 t e8 v s k).leaf ρ=some y) :
 ∃x h' ec E',bV ρ ec/\lH w E s.h E' h'/\p9 E' w.heap B t e8 key (dec (x.den ρ)) u/\(k x { s with h:=h',pc:=ec }).leaf ρ=some y:=by
 unfold ae1 at h;unfold p9;split at h
 ·rename_i Ot;rw [Ot];split at h
  ·rename_i c hc;obtain⟨x,U,fI,E1,fu,f1,o1,g1⟩:=QH B key 1 hρ r hp hv h;exact⟨x,U,fI,E1,fu,f1,⟨c,hc,o1⟩,g1⟩
  ·simp [T.leaf] at h
 ·rename_i Ot;rw [Ot];split at h
  ·rename_i i o;split at h
   ·split at h
    ·rename_i ob Y;split at h
     ·rename_i cs ty;split at h
      ·rename_i Om;have Om:=aq Om;subst Om;have ho:=(r.live i _ Y).2.1;simp only [OR] at ho;obtain⟨arr,lo,hi,us,g1,g2,g3,g4,g5,g6,g7⟩:=ho;simp only [VR] at hv;obtain⟨rfl,_⟩:=hv;have hs:=rT r Y (B,key,0);obtain⟨x,U,fI,E1,fu,f1,AY,o1,q1⟩:=KZ (s:={ s with h:=s.h.drop i }) (E:=E.Ui (E.θ i).1 (B,key,0)) B key hρ hs.view.rel hp (ct.keep hs.view.kp _ _ g2) h;have hvl:=g2.length;refine⟨x,U,fI,E1,fu,hs.trans r f1,⟨(E.θ i).1,(E.θ i).2,arr,lo,hi,by rw [bj],f1.mono _ _ (s6 _ _ _),g1,J,g6,fun q c hc=>?_⟩,q1⟩;have hql:=(aX.1 hc).1;have hqu:q<us.length:=J
       have hu:=aO hqu;refine⟨us[q],g3 q _ hu,g7 _ (az hqu),?_⟩;have:=o1 q c _ hc hu;rw [aA] at this;exact this
      ·simp [T.leaf] at h
     ·simp [T.leaf] at h
    ·simp [T.leaf] at h
   ·simp [T.leaf] at h
  ·simp [T.leaf] at h
theorem GY {n:Int} {d:D}: ∀{ds:List D},D.i n∈ds.map jk->(j8 ds (.i n) d).map jk=ds.map jk
 |[],h=>by simp at h
 |a::ds,h=>by
  simp only [j8];by_cases hk:jk a= .i n
  ·rw [ag hk];simp [jk,hk];exact hk.symm
  ·rw [af hk];simp only [aw,ax] at h;rcases h with h|h
   ·exact absurd h.symm hk
   ·simp only [aw,GY h]
theorem eR.pck {E E':En} {h:Array Obj} (kp:fy E h E' h) (mono: ∀b x,E.hd b=some x->E'.hd b=some x) {B t:Nat} {e8:List Nat} {l:List (V×W)} {x:V} {v:W} {n:Int} {d:D} (hx:x.den E.ρ=n) (Y:lJ E.ρ n l=none) :
 ∀{ds:List D} {es:List MapEntry},(ds.map jk).Nodup->(∀e1∈es,e1.key= .int .i64 n->p9 E' h B t e8 (.i n) d e1.val)->eR E h B t e8 ((x,v)::l) ds es->eR E' h B t e8 l (if D.i n∈ds.map jk then j8 ds (.i n) d else ds) es
 |[],es,_,_,ho=>by simp only [anj,amY,if_false]; exact ho
 |a::ds,_,BP,hv,⟨e0,rr,m,h0,q1,q2,q3,q4⟩=>by
  subst h0;have hk:jk a= .i m:=by rw [q1]; rfl
  simp only [aw,anf] at BP;have ih:=eR.pck kp mono hx Y BP.2 (fun e1 U Z=>hv e1 (by simp [U]) Z) q4;by_cases hm:m=n
  ·subst hm;rw [hk] at BP;rw [af BP.1] at ih;simp only [aw,ax,hk,true_or,if_true,j8];refine⟨e0,rr,m,rfl,rfl,q2,?_,ih⟩;rw [kp.ρ,Y];exact hv e0 ad q2
  ·have fJ: ¬D.i n=D.i m:=by simpa using fun e=>hm e.symm
   have alw: ¬jk a= .i n:=by rw [hk]; simpa using hm
   have hq:(match lJ E'.ρ m l with |some v=>VR E' h v e0.val|none=>p9 E' h B t e8 (.i m) (FY a) e0.val):=by
    simp only [lJ,hx] at q3;rw [af (fun e=>hm e.symm)] at q3;rw [kp.ρ]
    cases ho:lJ E.ρ m l with
    |some v=>rw [ho] at q3; exact VR.keep kp _ _ q3
    |none=>rw [ho] at q3; exact q3.keep kp fun b j hb=> ⟨mono b _ hb,rfl⟩
   simp only [aw,ax,hk,fJ,false_or];by_cases qZ:D.i n∈ds.map jk
   ·rw [ag qZ] at ih ⊢;simp only [j8,af alw];exact⟨e0,rr,m,rfl,q1,q2,hq,ih⟩
   ·rw [af qZ] at ih ⊢;exact⟨e0,rr,m,rfl,q1,q2,hq,ih⟩
theorem eR.told {E:En} {h:Array Obj} {B t:Nat} {e8:List Nat} {ov:List (V×W)} {n:Int} {v:W} (qz:lJ E.ρ n ov=some v): ∀{ds:List D} {es:List MapEntry},eR E h B t e8 ov ds es->∀e1∈es,e1.key= .int .i64 n->VR E h v e1.val
 |[],es,he,e1,U,_=>by simp only [eR] at he; subst he; simp at U
 |a::ds,_,⟨e0,rr,m,h0,q1,q2,q3,q4⟩,e1,U,Z=>by
  subst h0;rcases ax.1 U with rfl|U
  ·rw [q2] at Z;simp only [Value.int.injEq,true_and] at Z;subst Z;rw [qz] at q3;exact q3
  ·exact eR.told qz q4 e1 U Z
theorem eR.first {E:En} {h:Array Obj} {B t:Nat} {e8:List Nat} {ov:List (V×W)} {n:Int}: ∀{ds:List D} {es:List MapEntry},(ds.map jk).Nodup->D.i n∈ds.map jk->eR E h B t e8 ov ds es->∃en∈es,en.key= .int .i64 n/\∀e1∈es,e1.key= .int .i64 n->e1=en
 |[],_,_,hf,_=>by simp at hf
 |a::ds,_,BP,hf,⟨e0,rr,m,h0,q1,q2,q3,q4⟩=>by
  subst h0;have hk:jk a= .i m:=by rw [q1]; rfl
  simp only [aw,anf] at BP;simp only [aw,ax,hk] at hf;by_cases hm:m=n
  ·subst hm;refine⟨e0,ad,q2,fun e1 U Z=>?_⟩;rcases ax.1 U with rfl|U
   ·rfl
   ·obtain⟨i,hi⟩:=aoh U;exact absurd (eR.set.eR.CM q4 hi Z) (by rw [<- hk]; exact BP.1)
  ·rcases hf with hf|hf
   ·exact absurd (by simpa using hf:n=m).symm hm
   ·obtain⟨en,p1,p2,p3⟩:=eR.first BP.2 hf q4;refine⟨en,by simp [p1],p2,fun e1 U Z=>?_⟩;rcases ax.1 U with rfl|U
    ·rw [q2] at Z;simp only [Value.int.injEq,true_and] at Z;exact absurd Z hm
    ·exact p3 e1 U Z
theorem KY [bH] {α:Type} {ρ:Nat->Int} {t:Nat} {e8:List Nat} {y:α} {w:World} {B:Nat} {bK:List MapEntry}: ∀{ov:List (V×W)} {e:V} {s:St} {k:V->St->T α} {E:En},E.ρ=ρ->bO E s.h w->bV ρ s.pc->Ah ρ (dec (e.den ρ)).l ov->eR E w.heap B t e8 ov (dec (e.den ρ)).l bK->(QG t e8 ov e s k).leaf ρ=some y->
 ∃e' h' ec E',bV ρ ec/\lH w E s.h E' h'/\Ah ρ (dec (e'.den ρ)).l []/\eR E' w.heap B t e8 [] (dec (e'.den ρ)).l bK/\(k e' { s with h:=h',pc:=ec }).leaf ρ=some y
 |[],e,s,k,E,hρ,r,hp,fo,en,h=> ⟨e,s.h,s.pc,E,hp,lH.refl r,fo,en,h⟩
 |(x,v)::l,e,s,k,E,hρ,r,hp,fo,en,h=>by
  simp only [QG] at h;have qZ:=fo.2.1 (x,v) ad
  have Aj:lJ ρ (x.den ρ) l=none:=by
   cases ho:lJ ρ (x.den ρ) l with
   |none=>rfl
   |some u=> have:=II ho;have h3:=fo.2.2;simp only [aw,anf] at h3;exact absurd this h3.1
  obtain⟨en0,p1,p2,p3⟩:=eR.first fo.1 qZ en;have hv:=eR.told (E:=E) (n:=x.den ρ) (v:=v) (by simp only [lJ]; rw [hρ,ag rfl]) en en0 p1 p2;obtain⟨d,U,fI,E1,fu,f1,o1,g1⟩:=X? B (.i (x.den ρ)) hρ r hp hv h
  have py:dec ((V.op .uS e (eE (ng x) d)).den ρ)=dL (j8 (dec (e.den ρ)).l (.i (x.den ρ)) (dec (d.den ρ))):=by simp only [eE,V.den,e9.den,bB,rH]
  have hk:=GY (d:=dec (d.den ρ)) qZ;have en1:=eR.pck f1.view.kp f1.mono (n:=x.den ρ) (d:=dec (d.den ρ)) (by rw [hρ]) (by rw [hρ]; exact Aj) fo.1 (fun e1 U Z=>by rw [p3 e1 U Z]; exact o1) en;rw [ag qZ] at en1
  obtain⟨e',Z,jG,E2,jy,f2,fo2,en2,g2⟩:=KY (s:={ s with h:=U,pc:=fI }) (f1.view.kp.ρ.trans hρ) f1.view.rel fu (e:=.op .uS e (eE (ng x) d)) (by
   rw [py,bJ];refine⟨by rw [hk]; exact fo.1,fun p hp=>by rw [hk]; exact fo.2.1 p (by simp [hp]),?_⟩;have h3:=fo.2.2;simp only [aw,anf] at h3
   exact h3.2) (by rw [py,bJ]; exact en1) g1
  exact⟨e',Z,jG,E2,jy,f1.trans r f2,fo2,en2,g2⟩
theorem Y_ [bH] {α:Type} {ρ:Nat->Int} {id:Nat} {y:α} {w:World} {s:St} {k:St->T α} {E:En} (hρ:E.ρ=ρ) (r:bO E s.h w) (hp:bV ρ s.pc) (h:(Y' id s k).leaf ρ=some y) :
 ∃h' ec E',bV ρ ec/\View E s.h w E' h'/\(k { s with h:=h',pc:=ec }).leaf ρ=some y:=by
 unfold Y' at h;split at h
 ·rename_i o Y;split at h
  ·rename_i e t e8 ov;obtain⟨g0,bK,c',g1,g2⟩:=zC r Y;rw [hρ] at g0 g2;obtain⟨dst,drl⟩:=wv r id;obtain⟨e',U,fI,E1,fu,f1,fo1,en1,q1⟩:=KY (s:={ s with h:=s.h.drop id }) hρ drl hp g0 g2 h;have Uh:=(r.live id _ Y).1;have hθ:=f1.view.kp.θ id Uh;have hρ1:E1.ρ=ρ:=f1.view.kp.ρ.trans hρ
   have YI: ∀j o,(s.h.drop id).get j=some o->s.h.get j=some o/\j≠id:=by
    intro j o hj;rw [Hp.kq] at hj;split at hj
    ·simp at hj
    ·rename_i e; exact⟨hj,e⟩
   have acA: ∀b,E1.ro b\/(∃x,E1.hd b=some x)->b≠(E.θ id).1:=by
    intro b hb e;subst e;rcases f1.hold _ hb with h|⟨x,h⟩|⟨j,o,U,Z⟩
    ·exact (r.live id _ Y).2.2 h
    ·exact (r.hid _ _ h).2.2 id _ Y rfl
    ·obtain⟨q1,q2⟩:=YI j o U;exact q2 (r.inj j id _ _ q1 Y Z)
   have hr:bO E1 (U.put id (.uc e' t e8 [])) w:=by
    refine KR f1.view.rel (f1.view.kp.dm id Uh) ?_ (fun j o hj=>?_) ?_ ?_
    ·rw [hθ]; exact fun h=>acA _ (.inl h) rfl
    ·obtain⟨q1,q2⟩:=YI j o (f1.sub j o hj);refine⟨q2,?_⟩;rw [hθ,f1.view.kp.θ j (r.live j o q1).1];exact fun e=>q2 (r.inj j id _ _ q1 Y e)
    ·rw [hθ]; exact fun x h=>acA _ (.inr ⟨x,h⟩) rfl
    ·simp only [OR];rw [hρ1,hθ];exact⟨fo1,bK,c',g1,en1⟩
   refine⟨_,fI,E1,fu,⟨hr,f1.view.kp,fun b hb=>?_,fun b hb=>?_⟩,q1⟩
   ·rcases f1.view.ru b hb with h|⟨i0,o0,p1,p2⟩|p
    ·exact .inl h
    ·exact .inr (.inl ⟨i0,o0,(YI i0 o0 p1).1,p2⟩)
    ·exact .inr (.inr p)
   ·rcases hb with ⟨j,o,q1,q2⟩|q
    ·rw [Hp.bQ] at q1;split at q1
     ·rename_i e;rw [e,hθ] at q2;exact .inl ⟨id,_,Y,q2⟩
     ·rcases f1.view.hold b (.inl ⟨j,o,q1,q2⟩) with ⟨i0,o0,p1,p2⟩|p
      ·exact .inl ⟨i0,o0,(YI i0 o0 p1).1,p2⟩
      ·exact .inr p
    ·rcases f1.view.hold b (.inr q) with ⟨i0,o0,p1,p2⟩|p
     ·exact .inl ⟨i0,o0,(YI i0 o0 p1).1,p2⟩
     ·exact .inr p
  ·exact⟨s.h,s.pc,E,hp,View.refl r,h⟩
 ·exact⟨s.h,s.pc,E,hp,View.refl r,h⟩
end
end Go.As
end
section
namespace Go.As
noncomputable section
open Go.RowKit
section
variable {P:Program} {c:Code} {Q:Exit->Act->World->Prop} {a:Act} {w:World}
def FA (P:Program) (c:Code) (Q:Exit->Act->World->Prop) (a:Act) (w:World):Prop:=
 ∀b k cs,∃e a' w',Q e a' w'/\Arrives P (lone (b.at a (.code c::.inLoop c::k)) cs w) b k cs e a' w'
theorem N9 (h:c.wp P (Exit.then (FA P c Q) Q) a w):FA P c Q a w:=by
 intro b k cs;obtain⟨e,a₁,w₁,hq,LO⟩:=h b (.inLoop c::k) cs
 cases e with
 |normal=> obtain⟨e₂,a₂,w₂,hq₂,harr₂⟩:=hq b k cs;exact⟨e₂,a₂,w₂,hq₂,.of_steps (Steps.trans LO (.one step_inLoop)) harr₂⟩
 |exit id=>exact⟨_,a₁,w₁,hq,.pass (x:=.inLoop c) rfl (fun _ _=> .inl ad) LO⟩
 |goto l=>exact⟨_,a₁,w₁,hq,.pass (x:=.inLoop c) rfl (fun _ _=> .inl ad) LO⟩
 |ret=>exact⟨_,a₁,w₁,hq,.pass (x:=.inLoop c) rfl (fun _ _=> .inl ad) LO⟩
 |panic ch=>exact⟨_,a₁,w₁,hq,.pass (x:=.inLoop c) rfl (fun _ _=> .inl ad) LO⟩
 |outgrown=>exact⟨_,a₁,w₁,hq,.pass (x:=.inLoop c) rfl (fun _ _=> .inl ad) LO⟩
theorem Oa (h:FA P c Q a w):(Code.loop c).wp P Q a w:=by intro b k cs;obtain⟨e,a',w',hq,LO⟩:=h b k cs;exact⟨e,a',w',hq,.of_steps (.one step_loop) LO⟩
end
inductive FrE where
 |seq (p:List Nat) (c:Code)
 |block (id:Nat)
 |loop (p:List Nat) (b:Code)
 |scope
def oK (body:Code):List Nat->Option (Code×List FrE)
 |[]=>some (body,[])
 |d::p=>match oK body p with
  |some (.seq a b,fr)=>match d with
   |0=>some (a,.seq (1::p) b::fr)
   |_=>some (b,fr)
  |some (.block id b,fr)=>some (b,.block id::fr)
  |some (.cond _ a b,fr)=>match d with
   |0=>some (a,fr)
   |_=>some (b,fr)
  |some (.loop b,fr)=>some (b,.loop p b::fr)
  |some (.scope b,fr)=>some (b,.scope::fr)
  |_=>none
def FB (body:Code):List FrE->Prop
 |[]=>True
 | .seq p c::fr=>oK body p=some (c,fr)/\FB body fr
 | .block _::fr=>FB body fr
 | .loop p b::fr=>oK body p=some (.loop b,fr)/\FB body fr
 | .scope::fr=>FB body fr
def KE (P:Program) (Q:Exit->Act->World->Prop):List FrE->Exit->Act->World->Prop
 |[]=>Q
 | .seq _ c::fr=>Exit.then (fun a w=>c.wp P (KE P Q fr) a w) (KE P Q fr)
 | .block id::fr=>Exit.inBlock id (KE P Q fr)
 | .loop _ b::fr=>Exit.then (FA P b (KE P Q fr)) (KE P Q fr)
 | .scope::fr=>Exit.noGoto (KE P Q fr)
inductive RK where
 |one (c:CK)
 |agg (cs:List CK)
 deriving DecidableEq,Inhabited
def RK.flat:RK->List CK
 | .one c=>[c]
 | .agg cs=>cs
def oG:List RK->List CK
 |[]=>[]
 |r::rs=>r.flat++oG rs
def SC (c:CK) (t:V):W:=match c with
 | .int k=> .int k t
 | .bool=> .bool (.not (.eq t (.lit 0)))
 | .str=> .jC t
 | .sl ty=> .ei t ty
def Fk:List CK->(Nat->V)->Nat->List W
 |[],_,_=>[]
 |c::cs,f,i=>SC c (f i)::Fk cs f (i+1)
def px:List RK->(Nat->V)->Nat->List W
 |[],_,_=>[]
 | .one c::r,f,i=>SC c (f i)::px r f (i+1)
 | .agg cs::r,f,i=> .agg (Fk cs f i)::px r f (i+cs.length)
def XK (c:CK) (v:W):Option V:=match c with
 | .int k=>match v with
   | .int k' e=>if k=k' then some e else none
   |_=>none
 | .bool=>none
 | .str=>tJ v
 | .sl t=>lQ (.sl t) v
def aaJ:W->Bool
 | .agg _=>false
 | .tuple _=>false
 |_=>true
def cellsOf:List RK->List W->Option (List W)
 |[],[]=>some []
 | .one _::rs,v::vs=>match aaJ v with
   |true=>match cellsOf rs vs with
    |some l=>some (v::l)
    |none=>none
   |false=>none
 | .agg cs::rs,v::vs=>match v with
   | .agg xs=>match Nat.beq xs.length cs.length with
     |true=>match cellsOf rs vs with
      |some l=>some (xs++l)
      |none=>none
     |false=>none
   |_=>none
 |_,_=>none
def outs {α:Type}:List CK->List W->St->(List V->St->T α)->T α
 |[],[],s,k=>k [] s
 |c::cs,v::vs,s,k=>match c with
  | .bool=>match v with
    | .bool b=>jo s b fun s b=>outs cs vs s fun es s=>k (.lit (if b then 1 else 0)::es) s
    |_=> .fail
  |c=>match XK c v with
   |some e=>outs cs vs s fun es s=>k (e::es) s
   |none=> .fail
 |_,_,_,_=> .fail
def fV:List V->V
 |[]=> .ei (.i 0)
 |e::es=>eE (ng e) (fV es)
def ox (r:V) (i:Nat):V:=.op .num (.op (.cell i) r (.lit 0)) (.lit 0)
inductive Lf where
 |out (es:List V)
 |jump (j:Nat) (es:List V)
 deriving Inhabited
inductive KX where
 |cell (t j:Nat)
 |row (t j:Nat) (k:KX) (q:Nat)
 |Uq (t:Nat)
 deriving Inhabited
def KX.ev (s:St):KX->Option V
 | .Uq _=>none
 | .cell t j=>match s.bF.get t with
   |some v=>match v with
    | .agg cs=>match eZ cs j with
      |some w=>match w with
       | .int _ e=>some e
       |_=>none
      |none=>none
    | .int _ e=>some e
    | .ptr i o=>match s.h.get i with
      |some ob=>match ob with
       | .cells cs _=>match eZ cs (o+j) with
         |some w=>match w with
          | .int _ e=>some e
          |_=>none
         |none=>none
       |_=>none
      |none=>none
    |_=>none
   |none=>none
 | .row t j k q=>match KX.ev s k with
   |none=>none
   |some x=>match s.bF.get t with
    |some v=>match v with
     | .agg cs=>match eZ cs j with
       |some w=>match w with
        | .ei e _=>some (yz (iK q (.op .at e x)))
        |_=>none
       |none=>none
     | .ei e _=>some (yz (iK q (.op .at e x)))
     | .ptr i o=>match s.h.get i with
       |some ob=>match ob with
        | .cells cs _=>match eZ cs (o+j) with
          |some w=>match w with
           | .ei e _=>some (yz (iK q (.op .at e x)))
           |_=>none
          |none=>none
        |_=>none
       |none=>none
     |_=>none
    |none=>none
structure FH where
 r:Nat
 gd:Option (KX×Int)
 k:KX
 deriving Inhabited
def Ev:Tr dN->List Nat
 | .nil=>[]
 | .node v l r=>(match v with
   |some o=>match nf o with
    |true=>[]
    |false=>[0]
   |none=>[])++((Ev l).map fun i=>2*i+1)++((Ev r).map fun i=>2*i+2)
def Jk {α:Type} (x:V):List Nat->St->(St->T α)->T α
 |[],s,k=>k s
 |i::l,s,k=>aaF i x s fun s=>Jk x l s k
def NZ {α:Type}:List Nat->St->(St->T α)->T α
 |[],s,k=>k s
 |i::l,s,k=>Y' i s fun s=>NZ l s k
def afR {α:Type} (t j kd:Nat) (s:St) (k:St->T α):T α:=match s.bF.get t with
 |some p=>match p with
  | .ptr i o=>match s.h.get i with
    |some ob=>match ob with
     | .cells cs _=>match eZ cs (o+j) with
       |some v=>LU v s fun v s=>match s.h.get i with
        |some ob=>match ob with
         | .cells cs e=>match lQ (.sl kd) v with
           |some x=>k { s with h:=s.h.put i (.cells (cs.set (o+j) (.ei x kd)) e) }
           |none=> .fail
         |_=> .fail
        |none=> .fail
       |none=>k s
     |_=>k s
    |none=>k s
  |_=>k s
 |none=>k s
def aaB {α:Type} (t:Nat) (s:St) (k:St->T α):T α:=match Nat.ble 1000000 t with
 |true=>afR (t % 1000) (t / 1000000-1) (t / 1000 % 1000-1) s k
 |false=>match s.bF.get (t % 1000) with
 |some v=>LU v s fun v s=>match Nat.ble 1000 t with
  |true=>match lQ (.sl (t / 1000-1)) v with
   |some e=>k { s with bF:=s.bF.put (t % 1000) (some (.ei e (t / 1000-1))) }
   |none=> .fail
  |false=>k { s with bF:=s.bF.put (t % 1000) (some v) }
 |none=>k s
def FW {α:Type} (r:Nat):List FH->St->(St->T α)->T α
 |[],s,k=>k s
 |h::hs,s,k=>match Nat.beq h.r r with
  |false=>FW r hs s k
  |true=>match h.k.ev s with
   |none=>match h.k with
    | .Uq t=>aaB t s fun s=>FW r hs s k
    |_=>FW r hs s k
   |some x=>match h.gd with
    |none=>Jk x (Ev s.h.m) s fun s=>FW r hs s k
    |some (g,n)=>match g.ev s with
     |none=>FW r hs s k
     |some y=>jo s (qS y (.lit n)) fun s b=>match b with
      |true=>Jk x (Ev s.h.m) s fun s=>FW r hs s k
      |false=>FW r hs s k
def ace:Code->Option Nat
 | .region id _ _=>some id
 |_=>none
structure tI where
 tt:TT
 call:eu
 draw:Nat->List Oper->St->T St
 lf:Nat
 res:List ResultVar
 lj:List RK
 ej:List dN:=[]
 ko:Nat:=0
 oy:List CS:=[]
 ig:Nat:=0
 fz:List (Nat×Nat×Nat):=[]
 Va:List FH:=[]
def Hx (g:tI):Bool:=match g.Va with
 |[]=>false
 |_::_=>match g.ej with
  |[]=>match g.oy with
   |[]=>true
   |_=>false
  |_=>false
def Ur {α:Type} (r:Nat):List FH->St->(St->T α)->T α
 |[],s,k=>k s
 |h::hs,s,k=>match Nat.beq h.r r with
  |false=>Ur r hs s k
  |true=>match h.k with
   | .Uq t=>aaB t s fun s=>Ur r hs s k
   |_=>Ur r hs s k
def Us {α:Type} (g:tI) (c:Code) (s:St) (k:St->T α):T α:=match Hx g with
 |true=>match ace c with
  |some r=>FW r g.Va s k
  |none=>k s
 |false=>match g.oy with
  |[]=>match ace c with
   |some r=>Ur r g.Va s k
   |none=>k s
  |_::_=>k s
def ach:List Nat->Nat
 |[]=>1000000
 |d::p=>1000000+2*(ach p-1000000)+d+1
def acm (p:List Nat):List FH->Bool
 |[]=>false
 |h::hs=>match Nat.beq h.r (ach p) with
  |true=>true
  |false=>acm p hs
def TN {α:Type} (g:tI) (p:List Nat) (s:St) (k:St->T α):T α:=match Hx g with
 |true=>match acm p g.Va with
  |true=>k s
  |false=>NZ (Ev s.h.m) s k
 |false=>k s
def tI.ev (g:tI) (c:Code) (s:St):T (Ex×St):=iZ g.tt g.call g.draw g.lf c s
abbrev Cr:=List Nat->Option (List (Nat×CS))
def afm:Nat->Tr (Nat×Nat)
 |0=> .nil
 |n+1=>(afm n).put n (some (n,0))
def gM (g:tI) (h:Hp):Ren:=match A1 h g.ej 0 ⟨.nil,afm g.ej.length⟩ with
 |⟨ns,_⟩=> ⟨xE ns g.ko 0,List.range g.ej.length,[]⟩
def CS.ji (m:Nat) (c:CS) (s:St):Ren:=match A1 s.h c.dw 0 (CR s.bF c.bF ⟨.nil,afm m⟩) with
 |⟨ns,bl⟩=> ⟨xE ns c.k 0,IU bl c.dw.length 0,IT bl c.dw.length 0⟩
def Ec (m:Nat) (r:Ren):Bool:=match m with
 |0=>true
 |n+1=>(match eZ r.bl n with |some j=>Nat.beq j n|none=>false)&&Nat.beq (r.uf n) 0&&Ec n r
def BU:Nat->Nat->List V->List V
 |0,_,ns=>ns
 |_+1,_,[]=>[]
 |n+1,i,_::ns=> .dG i::BU n (i+1) ns
def re (ig:Nat) (r:Ren):Ren:=match ig with
 |0=>r
 |n+1=>{ r with ns:=BU (n+1) 0 r.ns }
def Mh (n m ig:Nat) (s:St):List CS->Nat->T Lf
 |[],_=> .fail
 |c::l,i=>match quick s.bF c.bF&&Nat.beq n c.bF.length with
  |false=>Mh n m ig s l (i+1)
  |true=>match c.fits C! s (re ig (c.ji m s))&&Ec m (re ig (c.ji m s)) with
   |true=> .ret (.out (.lit (Int.ofNat i)::(re ig (c.ji m s)).ns))
   |false=>Mh n m ig s l (i+1)
def LV {α:Type}:List (Nat×Nat×Nat)->List W->St->(List W->St->T α)->T α
 |[],vs,s,k=>k vs s
 |(r,f,t)::l,vs,s,k=>match eZ vs r with
  |some (.agg xs)=>match eZ xs f with
   |some x=>LU x s fun x s=>match lQ (.sl t) x with
    |some e=>LV l (vs.set r (.agg (xs.set f (.ei e t)))) s k
    |none=> .fail
   |none=> .fail
  |_=> .fail
def Y9 (g:tI) (e:Ex) (s:St):T Lf:=match e with
 | .exit _=> .fail
 |_=>match kQ g.tt s g.res with
  |none=> .fail
  |some vs=>match g.oy with
   |[]=>match cellsOf g.lj vs with
    |none=> .fail
    |some cells=>xe cells s fun cells s=>match AK (gM g s.h) g.ej.length s.h g.ej 0 with
     |true=>outs (oG g.lj) cells s fun es _=> .ret (.out ((gM g s.h).ns++es))
     |false=> .fail
   |c::l=>LV g.fz vs s fun vs s=>Mh vs.length g.ej.length g.ig ⟨cq vs 0 .nil,s.h,s.pc⟩ (c::l) 0
def qY (m ig:Nat) (s:St):List (Nat×CS)->T Lf
 |[]=> .fail
 |(j,c)::l=>match quick s.bF c.bF with
  |false=>qY m ig s l
  |true=>match c.fits C! s (re ig (c.ji m s))&&Ec m (re ig (c.ji m s)) with
   |true=> .ret (.jump j (re ig (c.ji m s)).ns)
   |false=>qY m ig s l
def Nj {α:Type} (k:St->T α):List (Nat×Nat)->St->T α
 |[],s=>k s
 |(t,g)::l,s=>match s.bF.get t with
  |some (.int _ e)=>jo s (.eq e (.dG g)) fun s _=>Nj k l s
  |_=>Nj k l s
def vz {α:Type} (k:St->T α):List Nat->St->T α
 |[],s=>k s
 |t::ts,s=>match s.bF.get t with
  |some (.bool c)=>jo s c fun s b=>vz k ts { s with bF:=s.bF.put t (some (.bool (.lit b))) }
  |_=>vz k ts s
def p_:List (Nat×W)->List Nat->List Nat
 |[],acc=>acc
 |(t,.bool _)::l,acc=>p_ l (t::acc)
 |_::l,acc=>p_ l acc
def p!:List (Nat×CS)->List Nat->List Nat
 |[],acc=>acc
 |(_,c)::l,acc=>p! l (p_ c.bF acc)
mutual
def wJ (g:tI) (fe:Cr):Nat->List Nat->Code->List FrE->St->T Lf
 |0,_,_,_,_=> .fail
 |n+1,p,c,fr,s=>match fe p with
  |some l=>TN g p s fun s=>vz (fun s=>qY g.ej.length g.ig s l) (p! l []) s
  |none=>match c with
   | .seq a b=>wJ g fe n (0::p) a (.seq (1::p) b::fr) s
   | .block id b=>wJ g fe n (0::p) b (.block id::fr) s
   | .scope b=>wJ g fe n (0::p) b (.scope::fr) s
   | .cond v a b=>match As.ev s v with
     |some (.bool c)=>jo s c fun s t=>match t with
      |true=>wJ g fe n (0::p) a fr s
      |false=>wJ g fe n (1::p) b fr s
     |_=> .fail
   |c=>Us g c s fun s=>(g.ev c s).bind fun (e,s')=>tc g fe n fr e s'
def tc (g:tI) (fe:Cr):Nat->List FrE->Ex->St->T Lf
 |0,_,_,_=> .fail
 |n+1,fr,e,s=>match fr with
  |[]=>Y9 g e s
  | .seq p c::fr=>match e with
    | .normal=>wJ g fe n p c fr s
    |e=>tc g fe n fr e s
  | .block id::fr=>match e with
    | .exit j=>match Nat.beq j id with
      |true=>tc g fe n fr .normal s
      |false=>tc g fe n fr (.exit j) s
    |e=>tc g fe n fr e s
  | .loop p _::fr=>match e with
    | .normal=>match fe p with
      |some l=>TN g p s fun s=>vz (fun s=>qY g.ej.length g.ig s l) (p! l []) s
      |none=> .fail
    |e=>tc g fe n fr e s
  | .scope::fr=>tc g fe n fr e s
end
abbrev oa:=Nat->List Int->Option (List Int)
def mb (xs:List Int):Int:=enc (dL (xs.map .i))
def Good (F:oa) (ρ:Nat->Int):Prop:= ∀j xs,ρ (ja (2*j) (mb xs))=(if (F j xs).isSome then 1 else 0)/\ρ (ja (2*j+1) (mb xs))=mb ((F j xs).getD [])
def low (xs:List Int) (i:Nat):Int:=xs.getD i 0
open Classical in
def cT (F:oa) (lo:Nat->Int) (i:Nat):Int:=if i<900 then lo i else
 if h: ∃p:Nat×List Int,i=ja (2*p.1) (mb p.2) then (if (F h.choose.1 h.choose.2).isSome then 1 else 0) else
 if h: ∃p:Nat×List Int,i=ja (2*p.1+1) (mb p.2) then mb ((F h.choose.1 h.choose.2).getD []) else 0
theorem MF {a b:List Int} (h:mb a=mb b):a=b:=by
 unfold mb at h;have:=Fc (hU h)
 have LG: ∀{x y:List Int},x.map D.i=y.map D.i->x=y:=by
  intro x
  induction x with
  |nil=>intro y h; cases y with |nil=>rfl|cons z y=>simp at h
  |cons z x ih=>
   intro y h
   cases y with
   |nil=>simp at h
   |cons q y=>
    grind
 grind
theorem sa {f g:Nat} {a b:Int} (h:ja f a=ja g b):f=g/\a=b:=by
 unfold ja at h;obtain⟨U,Z⟩:=AM (a:=f) (b:=zN a) (a':=g) (b':=zN b) J
 grind [VE]
theorem vC (f:Nat) (a:Int):1000<=ja f a:=by unfold ja; omega
theorem r4 {F:oa} {lo:Nat->Int} {i:Nat} (h:i<900):cT F lo i=lo i:=by unfold cT; rw [ag h]
theorem kS (F:oa) (lo:Nat->Int):Good F (cT F lo):=by
 intro j xs;have U:=vC (2*j) (mb xs);have Z:=vC (2*j+1) (mb xs);constructor
 ·unfold cT;rw [af J];have h: ∃p:Nat×List Int,ja (2*j) (mb xs)=ja (2*p.1) (mb p.2):=⟨(j,xs),rfl⟩;rw [dif_pos h];obtain⟨q1,q2⟩:=sa h.choose_spec;have q2:=MF q2
  grind
 ·unfold cT;rw [af J]
  have hn: ¬∃p:Nat×List Int,ja (2*j+1) (mb xs)=ja (2*p.1) (mb p.2):=by rintro⟨p,hp⟩;have:=(sa hp).1;omega
  rw [dif_neg hn];have h: ∃p:Nat×List Int,ja (2*j+1) (mb xs)=ja (2*p.1+1) (mb p.2):=⟨(j,xs),rfl⟩;rw [dif_pos h];obtain⟨q1,q2⟩:=sa h.choose_spec;have q2:=MF q2
  grind
theorem Good.gL {F:oa} {ρ ρ':Nat->Int} (g:Good F ρ) (h: ∀i,900<=i->ρ' i=ρ i):Good F ρ':=by intro j xs;have U:=vC (2*j) (mb xs);have Z:=vC (2*j+1) (mb xs);rw [h _ J,h _ J];exact g j xs
def eP (tree:Nat->T Lf):Nat->oa
 |0,_,_=>none
 |n+1,j,xs=>match (tree j).leaf (cT (eP tree n) (low xs)) with
  |none=>none
  |some (.out es)=>some (es.map (V.den (cT (eP tree n) (low xs))))
  |some (.jump j' es)=>eP tree n j' (es.map (V.den (cT (eP tree n) (low xs))))
def Gn:List CK->Bool
 |[]=>true
 |c::l=>match c with
  | .int _=>Gn l
  | .bool=>Gn l
  |_=>false
def Yw (j:Nat) (Fu lj:List RK):List W->St->T (W×St):=fun args s=>match cellsOf Fu args with
 |none=> .fail
 |some cells=>xe cells s fun cells s1=>outs (oG Fu) cells s1 fun es s2=>
  jo s2 (.eq (.ap (2*j) (fV es)) (.lit 1)) fun s3 b=>match b with
   |true=> .ret (match px lj (ox (.ap (2*j+1) (fV es))) 0 with |[v]=>v|vs=> .tuple vs,match Gn (oG lj) with
    |true=>{ s3 with h:=s.h }
    |false=>s3)
   |false=> .fail
end
end Go.As
end
section
namespace Go.As
open Go.RowKit
def fj (K:Nat):V->Bool
 | .lit _=>true
 | .dG i=>Nat.blt i K
 | .add a b=>fj K a&&fj K b
 | .sub a b=>fj K a&&fj K b
 | .mul a b=>fj K a&&fj K b
 | .quo a b=>fj K a&&fj K b
 | .rem a b=>fj K a&&fj K b
 | .wrap _ a=>fj K a
 | .v7 _ _=>false
 | .ei _=>true
 | .op _ a b=>fj K a&&fj K b
 | .ap _ _=>false
def uH (K:Nat):SB->Bool
 | .lit _=>true
 | .lt a b=>fj K a&&fj K b
 | .le a b=>fj K a&&fj K b
 | .eq a b=>fj K a&&fj K b
 | .not s=>uH K s
 | .and a b=>uH K a&&uH K b
mutual
def jR (K:Nat):W->Bool
 | .bool b=>uH K b
 | .int _ e=>fj K e
 | .mK cs=>lR K cs
 | .ro cs _ _=>lR K cs
 | .func _ a b=>lR K a&&lR K b
 | .iface _ v=>jR K v
 | .agg cs=>lR K cs
 | .tuple cs=>lR K cs
 | .v7 _ _=>false
 | .ei e _=>fj K e
 | .jC e=>fj K e
 | .ow _ n _=>fj K n
 | .yi _ _ i _=>fj K i
 | .sk _ l n _=>fj K l&&fj K n
 | .wL z _=>fj K z
 |_=>true
def lR (K:Nat):List W->Bool
 |[]=>true
 |x::xs=>jR K x&&lR K xs
end
def C1 (K:Nat):List (W×W×Nat)->Bool
 |[]=>true
 |(k,v,_)::l=>jR K k&&jR K v&&C1 K l
def DP (K:Nat):List (V×List W)->Bool
 |[]=>true
 |(i,cs)::l=>fj K i&&lR K cs&&DP K l
def te (K:Nat):List (V×W)->Bool
 |[]=>true
 |(x,v)::l=>fj K x&&jR K v&&te K l
def wX (K:Nat):dN->Bool
 | .uc e _ _ ov=>fj K e&&te K ov
 | .cells cs _=>lR K cs
 | .map es _=>C1 K es
 | .j4 _ _=>true
 | .jt _ _ _ _=>true
 | .vec e _ _ ov=>fj K e&&DP K ov
 | .jS e _=>fj K e
def QI (K:Nat):List (SB×Bool)->Bool
 |[]=>true
 |(c,_)::l=>uH K c&&QI K l
def rG (K:Nat):List (Nat×W)->Bool
 |[]=>true
 |(_,v)::l=>jR K v&&rG K l
def CI (K:Nat):List dN->Bool
 |[]=>true
 |o::l=>wX K o&&CI K l
def vw (K:Nat) (c:CS):Bool:=rG K c.bF&&CI K c.dw&&QI K c.pc
section
variable {K:Nat} {ρ ρ':Nat->Int} (hρ: ∀i,i<K->ρ' i=ρ i)
include hρ
theorem da: ∀e:V,fj K e=true->e.den ρ'=e.den ρ
 | .lit _,_=>rfl
 | .dG i,h=>by simp only [fj] at h; exact hρ i (xY h)
 | .add a b,h=>by simp only [fj,an] at h; simp only [V.den,da a h.1,da b h.2]
 | .sub a b,h=>by simp only [fj,an] at h; simp only [V.den,da a h.1,da b h.2]
 | .mul a b,h=>by simp only [fj,an] at h; simp only [V.den,da a h.1,da b h.2]
 | .quo a b,h=>by simp only [fj,an] at h; simp only [V.den,da a h.1,da b h.2]
 | .rem a b,h=>by simp only [fj,an] at h; simp only [V.den,da a h.1,da b h.2]
 | .wrap _ a,h=>by simp only [fj] at h; simp only [V.den,da a h]
 | .v7 _ _,h=>by simp [fj] at h
 | .ei _,_=>rfl
 | .op _ a b,h=>by simp only [fj,an] at h; simp only [V.den,da a h.1,da b h.2]
 | .ap _ _,h=>by simp [fj] at h
theorem rJ: ∀c:SB,uH K c=true->c.den ρ'=c.den ρ
 | .lit _,_=>rfl
 | .lt a b,h=>by simp only [uH,an] at h; simp only [SB.den,da hρ a h.1,da hρ b h.2]
 | .le a b,h=>by simp only [uH,an] at h; simp only [SB.den,da hρ a h.1,da hρ b h.2]
 | .eq a b,h=>by simp only [uH,an] at h; simp only [SB.den,da hρ a h.1,da hρ b h.2]
 | .not s,h=>by simp only [uH] at h; simp only [SB.den,rJ s h]
 | .and a b,h=>by simp only [uH,an] at h; simp only [SB.den,rJ a h.1,rJ b h.2]
end
section
variable {K:Nat} {E E':En} (hρ: ∀i,i<K->E'.ρ i=E.ρ i) (hθ:E'.θ=E.θ) (hκ:E'.κ=E.κ) (qA:E'.dm=E.dm) (jx:E'.ro=E.ro) {h:Array Obj}
include hρ hθ hκ qA jx
theorem eD.low {id off len:Nat} {a:Addr} {cap:Nat} {c:MS} (hc:eD E id off len a cap c):eD E' id off len a cap c:=by simp_all [eD]
mutual
theorem VR.low: ∀(x:W) (u:Value),jR K x=true->VR E h x u->VR E' h x u
 | .bool b,u,Y,hv=>by simp only [VR,jR] at *; rw [rJ hρ b Y]; exact hv
 | .int _ e,u,Y,hv=>by simp only [VR,jR] at *; rw [da hρ e Y]; exact hv
 | .str s,u,_,hv=>by simp only [VR] at *; exact hv
 | .ptr id off,u,_,hv=>by simp only [VR] at *; rw [hθ,qA]; exact hv
 | .sL,u,_,hv=>by simp only [VR] at *; exact hv
 | .mK cs,u,Y,hv=>by simp only [VR,jR] at *;obtain⟨b,o,us,U,Z,h3,h4,h5⟩:=hv;exact⟨b,o,us,U,by rw [jx]; exact Z,ct.low cs us Y h3,h4,h5⟩
 | .slice id off len c,u,_,hv=>by simp only [VR] at *;obtain⟨U,a,cap,Z,h3,h4⟩:=hv;exact⟨by rw [qA]; exact U,a,cap,Z,h3,eD.low hρ hθ hκ qA jx h4⟩
 | .dq,u,_,hv=>by simp only [VR] at *; exact hv
 | .ro cs n full,u,Y,hv=>by simp only [VR,jR] at *;obtain⟨b,o,cap,us,U,Z,h3,h4,h5,h6,h7⟩:=hv;exact⟨b,o,cap,us,U,Z,h3,by rw [jx]; exact h4,ct.low cs us Y h5,h6,h7⟩
 | .map id,u,_,hv=>by simp only [VR] at *; rw [hθ,qA]; exact hv
 | .qX,u,_,hv=>by simp only [VR] at *; exact hv
 | .func fn fs cs,u,Y,hv=>by simp only [VR,jR,an] at *;obtain⟨us,ws,U,Z,h3⟩:=hv;exact⟨us,ws,U,ct.low fs us Y.1 Z,ct.low cs ws Y.2 h3⟩
 | .uR,u,_,hv=>by simp only [VR] at *; exact hv
 | .iface t x,u,Y,hv=>by simp only [VR,jR] at *;obtain⟨y,U,Z⟩:=hv;exact⟨y,U,VR.low x y Y Z⟩
 | .wI,u,_,hv=>by simp only [VR] at *; exact hv
 | .agg cs,u,Y,hv=>by simp only [VR,jR] at *;obtain⟨us,U,Z⟩:=hv;exact⟨us,U,ct.low cs us Y Z⟩
 | .tuple cs,u,Y,hv=>by simp only [VR,jR] at *;obtain⟨us,U,Z⟩:=hv;exact⟨us,U,ct.low cs us Y Z⟩
 | .Kh _,u,_,hv=>by simp only [VR] at hv
 | .v7 _ _,u,Y,_=>by simp [jR] at Y
 | .emp,u,_,hv=>by simp only [VR] at *; exact hv
 | .ei e t,u,Y,hv=>by simp only [VR,jR] at *; rw [da hρ e Y,jx]; exact hv
 | .jC e,u,Y,hv=>by simp only [VR,jR] at *; rw [da hρ e Y,jx]; exact hv
 | .ow id n t,u,Y,hv=>by simp only [VR,jR] at *;obtain⟨U,k,a,cap,Z,h3,h4,h5⟩:=hv;exact⟨by rw [qA]; exact U,k,a,cap,by rw [da hρ n Y]; exact Z,h3,h4,eD.low hρ hθ hκ qA jx h5⟩
 | .yi id es i off,u,Y,hv=>by simp only [VR,jR] at *;obtain⟨U,k,Z,h3⟩:=hv;exact⟨by rw [qA]; exact U,k,by rw [da hρ i Y]; exact Z,by rw [hθ]; exact h3⟩
 | .any,u,_,_=>by simp only [VR]
 | .wL z t,u,Y,hv=>by simp only [VR,jR] at *; rw [da hρ z Y,jx]; exact hv
 | .sk id lo n t,u,Y,hv=>by simp only [VR,jR,an] at *;obtain⟨U,l,k,a,cap,Z,h3,h4,h5,h6⟩:=hv;exact⟨by rw [qA]; exact U,l,k,a,cap,by rw [da hρ lo Y.1]; exact Z,by rw [da hρ n Y.2]; exact h3,h4,h5,eD.low hρ hθ hκ qA jx h6⟩
theorem ct.low: ∀(xs:List W) (us:List Value),lR K xs=true->ct E h xs us->ct E' h xs us
 |[],us,_,hv=>by simp only [ct] at *; exact hv
 |x::xs,us,Y,hv=>by simp only [ct,lR,an] at *;obtain⟨u,vs,U,Z,h3⟩:=hv;exact⟨u,vs,U,VR.low x u Y.1 Z,ct.low xs vs Y.2 h3⟩
end
theorem eL.low: ∀{es:List (W×W×Nat)} {bK:List MapEntry},C1 K es=true->eL E h es bK->eL E' h es bK
 |[],_,_,hv=>by simp only [eL] at *; exact hv
 |(k,v,b)::es,bK,Y,hv=>by simp only [eL,C1,an] at *;obtain⟨e,r,U,Z,h3,h4,h5⟩:=hv;exact⟨e,r,U,VR.low hρ hθ hκ qA jx k _ Y.1.1 Z,VR.low hρ hθ hκ qA jx v _ Y.1.2 h3,h4,eL.low Y.2 h5⟩
theorem GL {i:Nat}: ∀{ov:List (V×List W)},DP K ov=true->dW E'.ρ i ov=dW E.ρ i ov
 |[],_=>rfl
 |(j,cs)::l,Y=>by simp only [DP,an] at Y;simp only [dW];rw [da hρ j Y.1.1,GL Y.2]
theorem GN: ∀{ov:List (V×List W)},DP K ov=true->∀p∈ov,lR K p.2=true
 |[],_,p,hp=>by simp at hp
 |(j,cs)::l,Y,p,hp=>by
  simp only [DP,an] at Y;rcases ax.1 hp with rfl|hp
  ·grind
  ·exact GN Y.2 p hp
theorem tB {r:Row} {ov:List (V×List W)} (Y:DP K ov=true): ∀(ds:List D) (i:Nat) {us:List Value},ct E h (bE E.ρ r ov ds i) us->ct E' h (bE E'.ρ r ov ds i) us
 |[],_,us,hv=>by simp only [bE,ct] at *; exact hv
 |d::ds,i,us,hv=>by
  simp only [bE] at *;obtain⟨a,b,rfl,U,Z⟩:=hv.split;refine ct.append ?_ (tB Y ds (i+1) Z);rw [GL hρ hθ hκ qA jx Y]
  cases ho:dW E.ρ i ov with
  |none=> rw [ho] at U;rw [fA] at U ⊢;rw [jx];exact U
  |some cs=> rw [ho] at U;obtain⟨p,p1,p2,_⟩:=kI ho;exact ct.low hρ hθ hκ qA jx cs a (by rw [<- p2]; exact GN hρ hθ hκ qA jx Y p p1) U
theorem QL {n:Int}: ∀{ov:List (V×W)},te K ov=true->lJ E'.ρ n ov=lJ E.ρ n ov
 |[],_=>rfl
 |(j,v)::l,Y=>by simp only [te,an] at Y;simp only [lJ];rw [da hρ j Y.1.1,QL Y.2]
omit hρ hθ hκ qA jx in
theorem Er {n:Int} {ρ:Nat->Int} {v:W}: ∀{ov:List (V×W)},te K ov=true->lJ ρ n ov=some v->jR K v=true
 |[],_,h=>by simp [lJ] at h
 |(j,u)::l,Y,h=>by
  simp only [te,an] at Y;simp only [lJ] at h;split at h
  ·simp only [ah] at h; subst h; exact Y.1.2
  ·exact Er Y.2 h
theorem BT: ∀{ov:List (V×W)},te K ov=true->(ov.map fun p=>p.1.den E'.ρ)=ov.map fun p=>p.1.den E.ρ
 |[],_=>rfl
 |(j,v)::l,Y=>by simp only [te,an] at Y;simp only [aw];rw [da hρ j Y.1.1,BT Y.2]
theorem oR.low (YE:E'.hd=E.hd) {B:Nat} {key:D} {j ty:Nat} {c:FC} {d:D} {u:Value} (ho:oR E h B key j ty c d u):oR E' h B key j ty c d u:=by
 cases c with
 |ck c=>simp only [oR] at *; rw [jx]; exact ho
 |mp t=>simp only [oR] at *; rw [jx,YE]; exact ho
 |own t=>
  rcases ho with ho|⟨b,o,n,cap,a,arr,lo,hi,U,Z,h3,h4,h5,h6,h7⟩
  ·exact .inl (by rw [jx]; exact ho)
  ·refine .inr ⟨b,o,n,cap,a,arr,lo,hi,U,Z,by rw [YE]; exact h3,h4,h5,h6,?_⟩;rcases h7 with h7|⟨g1,g2,us,g3,g4⟩
   ·exact .inl h7
   ·exact .inr ⟨g1,g2,us,tB hρ hθ hκ qA jx (ov:=[]) rfl _ _ g3,g4⟩
theorem p9.low (YE:E'.hd=E.hd) {B t:Nat} {e8:List Nat} {key d:D} {v:Value} (ho:p9 E h B t e8 key d v):p9 E' h B t e8 key d v:=by
 unfold p9 at *;split at ho
 ·obtain⟨c,U,Z⟩:=ho;exact⟨c,U,oR.low hρ hθ hκ qA jx YE Z⟩
 ·obtain⟨b,o,arr,lo,hi,U,Z,h3,h4,h5,h6⟩:=ho;refine⟨b,o,arr,lo,hi,U,by rw [YE]; exact Z,h3,h4,h5,fun j c hc=>?_⟩;obtain⟨u,g1,g2,g3⟩:=h6 j c hc;exact⟨u,g1,g2,oR.low hρ hθ hκ qA jx YE g3⟩
theorem eR.low (YE:E'.hd=E.hd) {B t:Nat} {e8:List Nat} {ov:List (V×W)} (Y:te K ov=true): ∀{ds:List D} {es:List MapEntry},eR E h B t e8 ov ds es->eR E' h B t e8 ov ds es
 |[],_,ho=>ho
 |d::ds,_,⟨e,r,n,U,Z,h3,h4,h5⟩=>by
  refine⟨e,r,n,U,Z,h3,?_,eR.low YE Y h5⟩;rw [QL hρ hθ hκ qA jx Y];split at h4
  ·rename_i v hv;exact VR.low hρ hθ hκ qA jx v _ (Er Y hv) h4
  ·exact p9.low hρ hθ hκ qA jx YE h4
theorem OR.low {id:Nat} {o:dN} (Y:wX K o=true) (ho:OR E h id o) (YE:E'.hd=E.hd:=by rfl):OR E' h id o:=by
 cases o with
 |uc e t e8 ov=> simp only [OR,wX,an] at *;obtain⟨n0,bK,c,U,Z⟩:=ho;rw [hθ,da hρ e Y.1];exact⟨n0.congr (BT hρ hθ hκ qA jx Y.2),bK,c,U,eR.low hρ hθ hκ qA jx YE Y.2 Z⟩
 |cells cs e=> simp only [OR,wX] at *;obtain⟨arr,lo,hi,us,U,Z,h3,h4,h5,h6,h7⟩:=ho;rw [hθ,hκ];exact⟨arr,lo,hi,us,U,ct.low hρ hθ hκ qA jx cs us Y Z,h3,h4,h5,h6,h7⟩
 |map es c=>
  grind [OR,wX,eL.low]
 |j4 s p=>simp only [OR] at *; rw [hθ]; exact ho
 |jt m s l z=>cases m<;>(simp only [OR] at *; grind)
 |jS e t=>
  grind [OR,wX,da]
 |vec e t ty ov=>
  grind [OR,wX,da,tB,cD]
end
theorem K0 {K:Nat} {ρ ρ':Nat->Int} (hρ: ∀i,i<K->ρ' i=ρ i): ∀{pc:List (SB×Bool)},QI K pc=true->bV ρ pc->bV ρ' pc
 |[],_,_=>by intro c b h; simp at h
 |(c0,b0)::l,Y,hp=>by
  simp only [QI,an] at Y;intro c b hm;rcases ax.1 hm with hm|hm
  ·simp only [ak] at hm;obtain⟨rfl,rfl⟩:=hm;rw [rJ hρ c Y.1];exact hp c b ad
  ·exact K0 hρ Y.2 (fun c b h=>hp c b (by simp [h])) c b hm
theorem yw {K:Nat}: ∀{l:List (Nat×W)},rG K l=true->∀{t:Nat} {v:W},(t,v)∈l->jR K v=true
 |[],_,_,_,h=>by simp at h
 |(t0,v0)::l,hs,t,v,h=>by
  simp only [rG,an] at hs;rcases ax.1 h with h|h
  ·grind
  ·exact yw hs.2 h
theorem uP {K:Nat}: ∀{l:List dN},CI K l=true->∀{i:Nat} {o:dN},l[i]?=some o->wX K o=true
 |[],_,_,_,h=>by simp at h
 |o0::l,hs,i,o,h=>by
  simp only [CI,an] at hs
  cases i with
  |zero=>simp at h; rw [<- h]; exact hs.1
  |succ i=>exact uP hs.2 (by simpa using h)
structure vE (E:En) (s:St) (a:Act) (w:World):Prop where
 fresh: ∀id,s.h.next<=id->¬E.dm id
 res: ∀r,s.h.res=some r->r<s.h.next/\¬E.dm r
 live: ∀id o,s.h.get id=some o->E.dm id/\OR E w.heap id o/\¬E.ro (E.θ id).1
 inj: ∀id Oi o o',s.h.get id=some o->s.h.get Oi=some o'->(E.θ id).1=(E.θ Oi).1->id=Oi
 qt: ∀b,E.ro b->b<w.heap.size
 sr:SR E w.heap s.bF a
 pc:bV E.ρ s.pc
 hid: ∀b x,E.hd b=some x->b<w.heap.size/\¬E.ro b/\∀id o,s.h.get id=some o->(E.θ id).1≠b
theorem Fit.x [bH] {E:En} {s:St} {a:Act} {w:World} (f:Fit E s a w):vE E s a w:=⟨f.rel.fresh,f.rel.res,f.rel.live,f.rel.inj,f.rel.qt,f.sr,f.pc,f.rel.hid⟩
theorem vE.fit [bH] {E:En} {s:St} {a:Act} {w:World} (f:vE E s a w) (hg:bH.ok E.ρ E.ro w.heap):Fit E s a w:=⟨⟨f.fresh,f.res,f.live,f.inj,f.qt,hg,f.hid⟩,f.sr,f.pc⟩
theorem vE.low {K:Nat} {E:En} {c:CS} {a:Act} {w:World} {ρ':Nat->Int} (hc:vw K c=true) (hρ: ∀i,i<K->ρ' i=E.ρ i) (f:vE E c.st a w):vE { E with ρ:=ρ' } c.st a w:=by
 unfold vw at hc;simp only [an] at hc;obtain⟨⟨U,Z⟩,h3⟩:=hc;refine⟨f.fresh,f.res,fun id o ho=>?_,f.inj,f.qt,fun t v ht=>?_,K0 hρ h3 f.pc,f.hid⟩
 ·obtain⟨q1,q2,q3⟩:=f.live id o ho;refine⟨q1,OR.low (E:=E) (E':={ E with ρ:=ρ' }) hρ rfl rfl rfl rfl ?_ q2,q3⟩;have:(og c.dw 0 .nil).get id=some o:=ho
  grind [jh,uP,Tr.get]
 ·obtain⟨u,q1,q2⟩:=f.sr t v ht;refine⟨u,q1,VR.low (E:=E) (E':={ E with ρ:=ρ' }) hρ rfl rfl rfl rfl v u ?_ q2⟩;have:(nw c.bF .nil).get t=some v:=ht;rcases uD this with h|h
  all_goals grind [yw,Tr.get]
end Go.As
end
section
namespace Go.As
open Go.RowKit
def vG (ro:Nat->Prop) (h:Array Obj) (c:CK) (n:Int) (u:Value):Prop:=match c with
 | .int k=>u= .int k n
 | .bool=>u= .bool (!(n == 0))
 |c=>Rd ro h c (dec n) u
def gP (ro:Nat->Prop) (h:Array Obj):List CK->List Int->List Value->Prop
 |[],ns,us=>ns= []/\us= []
 |c::cs,ns,us=> ∃n D_ u gx,ns=n::D_/\us=u::gx/\vG ro h c n u/\gP ro h cs D_ gx
theorem MB {E:En} {h:Array Obj} {c:CK} {t:V} {u:Value}:VR E h (SC c t) u↔vG E.ro h c (t.den E.ρ) u:=by cases c<;>simp only [SC,vG,VR,SB.den,V.den]
theorem XJ {E:En} {h:Array Obj} {c:CK} {v:W} {u:Value} {e:V} (hv:VR E h v u) (hn:XK c v=some e):vG E.ro h c (e.den E.ρ) u:=by
 unfold XK at hn;split at hn
 ·grind [vG,VR]
 ·grind
 ·obtain⟨s,rfl,hs⟩:=yp hv hn;simp only [vG,hs];exact .str s
 ·exact jI hv hn
theorem gP.length {ro:Nat->Prop} {h:Array Obj}: ∀{cs:List CK} {ns:List Int} {us:List Value},gP ro h cs ns us->ns.length=cs.length/\us.length=cs.length
 |[],ns,us,hh=>by simp only [gP] at hh; simp [hh.1,hh.2]
 |c::cs,ns,us,hh=>by
  obtain⟨n,D_,u,gx,rfl,rfl,_,Z⟩:=hh;have:=Z.length
  grind
theorem vG.keep {ro me:Nat->Prop} {h h':Array Obj} (k1: ∀b,ro b->me b) (k2: ∀b,ro b->h'[b]?=h[b]?) {c:CK} {n:Int} {u:Value} (r:vG ro h c n u):vG me h' c n u:=by
 cases c with
 |int k=>exact r
 |bool=>exact r
 |str=>exact Rd.keep k1 k2 r
 |sl t=>exact Rd.keep k1 k2 r
theorem Fj {E:En} {h:Array Obj} {f:Nat->V}: ∀{cs:List CK} {i:Nat} {ns:List Int} {us:List Value},gP E.ro h cs ns us->(∀k n,ns[k]?=some n->(f (i+k)).den E.ρ=n)->ct E h (Fk cs f i) us
 |[],_,_,us,hh,_=>by simp only [gP] at hh; rw [hh.2]; simp [Fk,ct]
 |c::cs,i,ns,us,hh,hf=>by
  obtain⟨n,D_,u,gx,rfl,rfl,U,Z⟩:=hh;simp only [Fk,bP];refine⟨u,gx,rfl,?_,Fj Z fun k m hk=>?_⟩
  ·rw [MB];have:=hf 0 n rfl
   grind
  ·have:=hf (k+1) m (by simpa using hk)
   grind
inductive Shape:List RK->List Value->List Value->Prop where
 |nil:Shape [] [] []
 |one (c:CK) {rs:List RK} {us fl:List Value} (u:Value):Shape rs us fl->Shape (.one c::rs) (u::us) (u::fl)
 |agg (cs:List CK) {rs:List RK} {us fl:List Value} (xs:List Value) (h:xs.length=cs.length):Shape rs us fl->Shape (.agg cs::rs) (.agg xs.toArray::us) (xs++fl)
theorem nD {E:En} {h:Array Obj}: ∀{lj:List RK} {vs cells:List W} {us:List Value},ct E h vs us->cellsOf lj vs=some cells->∃fl,Shape lj us fl/\ct E h cells fl
 |[],[],cells,us,hv,hc=>by simp only [cellsOf,ah] at hc;subst hc;simp only [ct] at hv;subst hv;exact⟨[],.nil,by simp [ct]⟩
 |[],_::_,cells,us,hv,hc=>by simp [cellsOf] at hc
 | .one _::_,[],cells,us,hv,hc=>by simp [cellsOf] at hc
 | .agg _::_,[],cells,us,hv,hc=>by simp [cellsOf] at hc
 | .one c::rs,v::vs,cells,us,hv,hc=>by
   rw [bP] at hv;obtain⟨u,gx,rfl,U,Z⟩:=hv;simp only [cellsOf] at hc;split at hc
   ·split at hc
    ·rename_i l Y;simp only [ah] at hc;subst hc;obtain⟨fl,s,v2⟩:=nD Z Y;exact⟨u::fl,.one c u s,by rw [bP]; exact⟨u,fl,rfl,U,v2⟩⟩
    grind
   grind
 | .agg cs::rs,v::vs,cells,us,hv,hc=>by
   rw [bP] at hv;obtain⟨u,gx,rfl,U,Z⟩:=hv;simp only [cellsOf] at hc;split at hc
   ·rename_i xs;split at hc
    ·rename_i hlen;have hlen:=aq hlen;split at hc
     ·rename_i l Y;simp only [ah] at hc;subst hc;obtain⟨fl,s,v2⟩:=nD Z Y;simp only [VR] at U;obtain⟨ws,rfl,h3⟩:=U;exact⟨ws++fl,.agg cs ws (by rw [h3.length,hlen]) s,h3.append v2⟩
     grind
    grind
   grind
theorem xj {ro:Nat->Prop} {h:Array Obj}: ∀{cs ds:List CK} {ns:List Int} {us vs:List Value},us.length=cs.length->gP ro h (cs++ds) ns (us++vs)->∃a b,ns=a++b/\gP ro h cs a us/\gP ro h ds b vs
 |[],ds,ns,us,vs,Y,hh=>by have:us= []:=amT Y;subst this;exact⟨[],ns,rfl,by simp [gP],hh⟩
 |c::cs,ds,ns,us,vs,Y,hh=>by
  simp only [aR,gP] at hh;obtain⟨n,D_,u,gx,rfl,he,U,Z⟩:=hh
  cases us with
  |nil=>simp at Y
  |cons x us=> simp only [aR,List.cons.injEq] at he;obtain⟨rfl,rfl⟩:=he;obtain⟨a,b,rfl,h3,h4⟩:=xj (by simpa using Y) Z;exact⟨n::a,b,rfl,⟨n,a,x,us,rfl,rfl,U,h3⟩,h4⟩
theorem rQ {E:En} {h:Array Obj} {f:Nat->V}: ∀{lj:List RK} {us fl:List Value} {ns:List Int} {i:Nat},Shape lj us fl->gP E.ro h (oG lj) ns fl->(∀k n,ns[k]?=some n->(f (i+k)).den E.ρ=n)->ct E h (px lj f i) us
 |[],us,fl,ns,i,s,_,_=>by cases s; simp [px,ct]
 | .one c::rs,us,fl,ns,i,s,hc,hf=>by
   cases s with
   |one _ u s=>
    simp only [oG,RK.flat,aR,ay,gP] at hc;obtain⟨n,D_,u',gx,rfl,he,U,Z⟩:=hc;simp only [List.cons.injEq] at he;obtain⟨rfl,rfl⟩:=he;simp only [px,bP];refine⟨_,_,rfl,?_,rQ s Z fun k m hk=>?_⟩
    ·rw [MB];have:=hf 0 n rfl
     grind
    ·have:=hf (k+1) m (by simpa using hk)
     grind
 | .agg cs::rs,us,fl,ns,i,s,hc,hf=>by
   cases s with
   |agg _ xs Y s=>
    simp only [oG,RK.flat] at hc;obtain⟨a,b,rfl,U,Z⟩:=xj Y hc;have U9:=U.length.1;simp only [px,bP,VR];refine⟨_,_,rfl,⟨xs,rfl,Fj U fun k m hk=>hf k m ?_⟩,rQ s Z fun k m hk=>?_⟩
    ·grind
    ·have:=hf (cs.length+k) m (by rw [aox J,show cs.length+k-a.length=k by omega]; exact hk)
     grind
section
variable {P:Program} {E:En} {w:World}
theorem CE {α:Type} {r:α} {h:Array Obj}: ∀{cs:List CK} {vs:List W} {s:St} {k:List V->St->T α} {us:List Value},bV E.ρ s.pc->ct E h vs us->(outs cs vs s k).leaf E.ρ=some r->
 ∃es ec,bV E.ρ ec/\gP E.ro h cs (es.map (V.den E.ρ)) us/\(k es { s with pc:=ec }).leaf E.ρ=some r
 |[],[],s,k,us,hp,hv,Y=>by simp only [outs] at Y;simp only [ct] at hv;exact⟨[],s.pc,hp,by simp [gP,hv],Y⟩
 |[],_::_,s,k,us,hp,hv,Y=>by simp [outs,T.leaf] at Y
 |_::_,[],s,k,us,hp,hv,Y=>by simp [outs,T.leaf] at Y
 |c::cs,v::vs,s,k,us,hp,hv,Y=>by
  rw [bP] at hv;obtain⟨u,gx,rfl,U,Z⟩:=hv;simp only [outs] at Y;split at Y
  ·split at Y
   ·rename_i b;obtain⟨fI,fu,AY⟩:=cC hp Y;obtain⟨es,jG,jy,q1,q2⟩:=CE (s:={ s with pc:=fI }) fu Z AY;refine⟨_::es,jG,jy,?_,q2⟩;simp only [aw,gP];refine⟨_,_,u,gx,rfl,rfl,?_,q1⟩;simp only [VR] at U;subst U;simp only [vG,V.den];cases b.den E.ρ<;>rfl
   grind [T.leaf]
  ·split at Y
   ·rename_i e he;obtain⟨es,jG,jy,q1,q2⟩:=CE hp Z Y
    grind [gP,XJ]
   grind [T.leaf]
theorem xq (ρ:Nat->Int): ∀es:List V,dec ((fV es).den ρ)=dL ((es.map (V.den ρ)).map .i)
 |[]=>by simp only [fV,V.den,bB]; rfl
 |e::es=>by simp only [fV,eE,V.den,e9.den,bB,lz,xq ρ es,aw,dL]
theorem je (ρ:Nat->Int): ∀es:List V,(fV es).den ρ=mb (es.map (V.den ρ))
 |[]=>rfl
 |e::es=>by have:=xq ρ (e::es);simp only [fV,eE,V.den,e9.den,bB,lz,xq ρ es,aw,mb,dL]
theorem vM {ρ:Nat->Int} {r:V} {ys:List Int} (h:r.den ρ=mb ys) {i:Nat} {y:Int} (hi:ys[i]?=some y):(ox r i).den ρ=y:=by simp only [ox,V.den,e9.den,h,mb,bB,D.hd,bJ,bp,hi,br,aC,D.n]
def abm (lj:List RK) (ys:List Int) (ro:Nat->Prop) (h:Array Obj) (u:Value):Prop:= ∃us fl,Shape lj us fl/\gP ro h (oG lj) ys fl/\u=if hh:us.toArray.size=1 then us.toArray[0] else .tuple us.toArray
def t? (P:Program) (GB:(Nat->Prop)->Array Obj->Prop) (g:FuncId) (Fu lj:List RK) (f:List Int->Option (List Int)):Prop:=
 ∀xs ys,f xs=some ys->∀(ro:Nat->Prop) (w:World) (vals fl:List Value),(∀b,ro b->b<w.heap.size)->GB ro w.heap->Shape Fu vals fl->gP ro w.heap (oG Fu) xs fl->
  Calls P g vals.toArray w fun e w'=> ∃u,e= .returned u/\Below w.heap.size w w'/\∃me:Nat->Prop,(∀b,ro b->me b)/\(∀b,me b->ro b\/w.heap.size<=b)/\(∀b,me b->b<w'.heap.size)/\abm lj ys me w'.heap u
theorem gP.aeT {ro me:Nat->Prop} {h h':Array Obj}: ∀{cs:List CK} {ns:List Int} {us:List Value},gP ro h cs ns us->Gn cs=true->gP me h' cs ns us
 |[],ns,us,hh,_=>hh
 |c::cs,ns,us,hh,hs=>by
  obtain⟨n,D_,u,gx,rfl,rfl,U,Z⟩:=hh;simp only [Gn] at hs;split at hs
  ·exact⟨n,D_,u,gx,rfl,rfl,U,Z.aeT hs⟩
  ·exact⟨n,D_,u,gx,rfl,rfl,U,Z.aeT hs⟩
  grind
theorem Yv [bH] {GB:(Nat->Prop)->Array Obj->Prop} (LI: ∀ρ ro h,bH.ok ρ ro h->GB ro h) {F:oa} (LH: ∀ρ ro h,bH.ok ρ ro h->Good F ρ) {g:FuncId} {j:Nat} {Fu lj:List RK} (hs:t? P GB g Fu lj (F j))
 (jw: ∀(args:Array Value) (w:World),(callFunc g args).run P w= .ok (.enter g args) w):ik P g (Yw j Fu lj):=by
 intro amP s E w vals v s' r hv hp Y;unfold Yw at Y;split at Y
 ·grind [T.leaf]
 ·rename_i cells hc;obtain⟨fl,sh,hv2⟩:=nD hv hc;obtain⟨agy,U,pcF,E1,hpF,f,RH,Y⟩:=pJ rfl r hp Y;have hv3:=RH _ hv2;have s1:=f.ew;have r1:=f.rel;have hρ:=f.ρ;rw [<- hρ] at Y hpF;obtain⟨es,fI,fu,q1,q2⟩:=CE (s:={ s with h:=U,pc:=pcF }) hpF hv3 Y;obtain⟨jG,jy,q3⟩:=cC (s:={ s with h:=U,pc:=fI }) fu q2;split at q3
  ·rename_i ht;have hg:=LH _ _ _ r1.iY;have hg1:=(hg j (es.map (V.den E1.ρ))).1;have hg2:=(hg j (es.map (V.den E1.ρ))).2;simp only [SB.den,V.den,je,hg1,beq_iff_eq] at ht
   have BN:(F j (es.map (V.den E1.ρ))).isSome=true:=by
    grind
   obtain⟨ys,Hd⟩:=ant.1 BN;have xK:=bD q3;simp only [ak] at xK;obtain⟨rfl,hs'⟩:=xK;have acu:=hs _ ys Hd E1.ro w vals fl r1.qt (LI _ _ _ r1.iY) sh q1
   have I7: ∀(E2:En) (Z:Array Obj) (us fl':List Value),E2.ρ=E1.ρ->Shape lj us fl'->gP E2.ro Z (oG lj) ys fl'->
    VR E2 Z (match px lj (ox (.ap (2*j+1) (fV es))) 0 with |[v]=>v|vs=> .tuple vs) (if hh:us.toArray.size=1 then us.toArray[0] else .tuple us.toArray):=by
    intro E2 Z us fl' hE2 sh' c1
    have Rw:ct E2 Z (px lj (ox (.ap (2*j+1) (fV es))) 0) us:=by
     refine rQ sh' c1 fun k n hk=>?_;rw [aA];refine vM (ys:=ys) ?_ hk;show E2.ρ _=_
     grind [je]
    have:=CA Rw;unfold AH at this;exact this
   cases hsc:Gn (oG lj) with
   |true=>
    rw [hsc] at hs';simp only at hs';subst hs';refine⟨rfl,by rw [<- hρ]; exact jy,?_⟩;unfold jD lI;rw [jw];refine Calls.mono acu fun e w' ⟨u,he,hb,me,k1,k2,k3,k4⟩=> ⟨u,he,?_⟩;have tQ:fy E w.heap E w'.heap:=⟨rfl,fun _ h=>h,fun _ _=>rfl,fun _ _=>rfl,fun _ h=>h,fun b Jd=>hb.block b (r.qt b Jd)⟩
    have qR:eU E s.h w E s.h w':=
     ⟨rfl,fun _ h=>h,fun _ _=>rfl,fun _ _=>rfl,fun _ h=>h,fun b Jd=> .inl Jd,au _,.inr rfl,fun _ h=> .inl h,hb.os,hb.tape,hb.output,hb.size,fun b nk _=>hb.block b nk,fun id o h _=> ⟨id,o,h,rfl⟩,rfl⟩
    have r2:bO E s.h w':=by refine⟨r.fresh,r.res,fun id o h=>?_,r.inj,fun b Jd=>anh (r.qt b Jd) hb.size,bH.keep r.iY (fun _ h=>h) tQ.Bx,r.Ug qR.hd qR.size qR.ru qR.own⟩;obtain⟨g1,g2,g3⟩:=r.live id o h;exact⟨g1,g2.keep tQ g1 (hb.block _ (fq r h)) (r.Uj rfl (fun x hx _=>hb.block x hx) _),g3⟩
    obtain⟨us,fl',sh',c1,rfl⟩:=k4;exact⟨E,qR,r2,I7 E w'.heap us fl' hρ.symm sh' (c1.aeT hsc)⟩
   |false=>
    rw [hsc] at hs';simp only at hs';subst hs';refine⟨rfl,by rw [<- hρ]; exact jy,?_⟩;unfold jD lI;rw [jw];refine Calls.mono acu fun e w' ⟨u,he,hb,me,k1,k2,k3,k4⟩=> ⟨u,he,?_⟩;have tQ:fy E1 w.heap { E1 with ro:=me } w'.heap:=⟨rfl,fun _ h=>h,fun _ _=>rfl,fun _ _=>rfl,k1,fun b Jd=>hb.block b (r1.qt b Jd)⟩
    have qR:eU E1 U w { E1 with ro:=me } U w':=
     ⟨rfl,fun _ h=>h,fun _ _=>rfl,fun _ _=>rfl,k1,fun b Jd=>(k2 b Jd).imp id .inr,au _,.inr rfl,fun _ h=> .inl h,hb.os,hb.tape,hb.output,hb.size,fun b nk _=>hb.block b nk,fun id o h _=> ⟨id,o,h,rfl⟩,rfl⟩
    have r2:bO { E1 with ro:=me } U w':=by
     refine⟨r1.fresh,r1.res,fun id o h=>?_,r1.inj,k3,bH.keep r1.iY k1 tQ.Bx,r1.Ug qR.hd qR.size qR.ru qR.own⟩;obtain⟨g1,g2,g3⟩:=r1.live id o h;refine⟨g1,g2.keep tQ g1 (hb.block _ (fq r1 h)) (r1.Uj rfl (fun x hx _=>hb.block x hx) _),fun hr=>?_⟩;rcases k2 _ hr with hr|hr
     ·grind
     ·have ff:(E1.θ id).1<w.heap.size:=fq r1 h
      grind
    obtain⟨us,fl',sh',c1,rfl⟩:=k4;exact⟨{ E1 with ro:=me },s1.trans qR,r2,I7 { E1 with ro:=me } w'.heap us fl' rfl sh' c1⟩
  grind [T.leaf]
end
structure ma where
 w0:World
 ro:Nat->Prop
 m:Nat
 θ:Nat->Nat×Nat
 κ:Nat->Nat
def ma.fp (B:ma) (b:Nat):Prop:= ∃i,i<B.m/\(B.θ i).1=b
structure Bel (B:ma) (w:World):Prop where
 os:w.os=B.w0.os
 tape:w.tape=B.w0.tape
 output:w.output=B.w0.output
 size:B.w0.heap.size<=w.heap.size
 jX: ∀k,k<B.w0.heap.size->¬B.fp k->w.heap[k]?=B.w0.heap[k]?
structure kB (B:ma) (E:En) (s:St) (a:Act) (w:World):Prop where
 fit:vE E s a w
 ro: ∀b,B.ro b->E.ro b
 ru: ∀b,E.ro b->B.ro b\/B.w0.heap.size<=b\/B.fp b
 M4:Bel B w
 own: ∀id o,s.h.get id=some o->B.w0.heap.size<=(E.θ id).1\/B.fp (E.θ id).1
 inx: ∀i,i<B.m->E.dm i/\E.θ i=B.θ i/\E.κ i=B.κ i
 s5: ∀b x,E.hd b=some x->B.w0.heap.size<=b
section
variable {P:Program} {B:ma}
theorem kB.step [bH] {E E':En} {s s':St} {a a':Act} {w w':World} (t:kB B E s a w) (st:eU E s.h w E' s'.h w') (f':Fit E' s' a' w'):kB B E' s' a' w':=by
 have aau: ∀id o,s'.h.get id=some o->B.w0.heap.size<=(E'.θ id).1\/B.fp (E'.θ id).1:=by
  intro id o ho;rcases aW (E'.θ id).1 w.heap.size with h|h
  ·obtain⟨rv,o0,h0,he⟩:=st.own id o ho h;rw [<- he];exact t.own rv o0 h0
  ·exact .inl (bn t.M4.size h)
 refine⟨f'.x,fun b hb=>st.ro b (t.ro b hb),fun b hb=>?_,⟨st.os.trans t.M4.os,st.tape.trans t.M4.tape,st.output.trans t.M4.output,bn t.M4.size st.size,fun k hk hn=>?_⟩,aau,fun i hi=>?_,fun b x hb=>t.s5 b x (by rw [<- st.hd]; exact hb)⟩
 ·rcases st.ru b hb with h|⟨id,o,U,Z⟩|h
  ·exact t.ru b h
  ·rw [<- Z]; exact .inr (t.own id o U)
  ·exact .inr (.inl (bn t.M4.size h))
 ·rw [<- t.M4.jX k hk hn];refine st.keep k (anh hk t.M4.size) fun id o ho he=>?_;rcases t.own id o ho with h|h
  all_goals grind
 ·obtain⟨U,Z,h3⟩:=t.inx i hi;exact⟨st.dm i U,by rw [st.θ i U]; exact Z,by rw [st.κ i U]; exact h3⟩
theorem kB.then [bH] {E:En} {s s':St} {a a':Act} {w w':World} (t:kB B E s a w) (h:mM E s a w s' a' w'): ∃E',kB B E' s' a' w'/\E'.ρ=E.ρ/\bH.ok E'.ρ E'.ro w'.heap:=by obtain⟨_,_,E',st,f'⟩:=h;exact⟨E',t.step st f',st.ρ,f'.rel.iY⟩
theorem kB.pc {E:En} {s:St} {a:Act} {w:World} {pc:List (SB×Bool)} (t:kB B E s a w) (hp:bV E.ρ pc):kB B E { s with pc:=pc } a w:=
 ⟨⟨t.fit.fresh,t.fit.res,t.fit.live,t.fit.inj,t.fit.qt,t.fit.sr,hp,t.fit.hid⟩,t.ro,t.ru,t.M4,t.own,t.inx,t.s5⟩
theorem Eb {r:Ren}: ∀{m:Nat},Ec m r=true->∀i,i<m->i<r.bl.length/\r.id i=i/\r.uf i=0
 |0,_,i,hi=>by omega
 |n+1,h,i,hi=>by
  simp only [Ec,an] at h;obtain⟨⟨U,Z⟩,h3⟩:=h;by_cases he:i=n
  ·subst he;split at U
   ·rename_i j hj;have U:=aq U;subst U;refine⟨?_,?_,aq Z⟩
    all_goals grind [de,Ren.id]
   grind
  ·exact Eb h3 i J
theorem kB.fits [bH] {E:En} {c:CS} {s:St} {r:Ren} {a:Act} {w:World} (t:kB B E s a w) (hg:bH.ok E.ρ E.ro w.heap) (h:c.fits C! s r=true) (hid:Ec B.m r=true):r.ns.length<=900/\kB B (E.gL r) c.st a w:=by
 obtain⟨Y,f,ho⟩:=zA NW (t.fit.fit hg) h;refine⟨Y,f.x,t.ro,t.ru,t.M4,fun id o hid=>?_,fun i hi=>?_,t.s5⟩
 ·obtain⟨o',h'⟩:=ho id o hid;exact t.own _ _ h'
 ·obtain⟨q1,q2,q3⟩:=Eb hid i hi;obtain⟨U,Z,h3⟩:=t.inx i hi;refine⟨⟨q1,by rw [q2]; exact U⟩,?_,?_⟩
  ·show ((E.θ (r.id i)).1,(E.θ (r.id i)).2+r.uf i)=_
   grind
  ·show E.κ (r.id i)-r.uf i=_
   grind
theorem kB.low {K:Nat} {E:En} {c:CS} {a:Act} {w:World} {ρ':Nat->Int} (hc:vw K c=true) (hρ: ∀i,i<K->ρ' i=E.ρ i) (t:kB B E c.st a w):kB B { E with ρ:=ρ' } c.st a w:=
 ⟨t.fit.low hc hρ,t.ro,t.ru,t.M4,t.own,t.inx,t.s5⟩
def ma.out (B:ma) (ys:List Int) (ro:Nat->Prop):En:={ ρ:=low ys,θ:=B.θ,κ:=B.κ,dm:=fun i=>i<B.m,ro:=ro }
def QE (B:ma) (lj:List RK) (ej:List dN) (ko:Nat) (ys:List Int) (e:Ending) (w':World):Prop:=
 ∃u,e= .returned u/\Bel B w'/\∃me:Nat->Prop,(∀b,B.ro b->me b)/\(∀b,me b->B.ro b\/B.w0.heap.size<=b)/\(∀b,me b->b<w'.heap.size)/\(∀i,i<B.m->¬me (B.θ i).1)/\
  (∀i o,ej[i]?=some o->OR (B.out ys me) w'.heap i o)/\abm lj (ys.drop ko) me w'.heap u
def Ty (us:List Value):Value:=if h:us.toArray.size=1 then us.toArray[0] else .tuple us.toArray
def QR (B:ma) (oy:List CS) (ys:List Int) (e:Ending) (w':World):Prop:=
 ∃(us:List Value) (i:Nat) (c:CS) (E':En),e= .returned (Ty us)/\Bel B w'/\oy[i]?=some c/\ys[0]?=some (i:Int)/\ys.length=c.k+1/\(∀a x,ys[a+1]?=some x->E'.ρ a=x)/\us.length=c.bF.length/\
  vE E' c.st { tmps:=us.toArray,defers:=[] } w'/\(∀b,B.ro b->E'.ro b)/\(∀b,E'.ro b->B.ro b\/B.w0.heap.size<=b)/\(∀i,i<B.m->i<c.dw.length/\E'.dm i/\E'.θ i=B.θ i/\E'.κ i=B.κ i)/\(∀id o,c.st.h.get id=some o->B.m<=id->B.w0.heap.size<=(E'.θ id).1)
def QX (B:ma) (lj:List RK) (ej:List dN) (ko:Nat) (oy:List CS) (ys:List Int):Ending->World->Prop:=match oy with
 |[]=>QE B lj ej ko ys
 |c::l=>QR B (c::l) ys
structure PJ [bH] (P:Program) (g:tI) (qO:Nat->List Oper->Bool):Prop where
 tt:eC P g.tt
 call:im P g.call
 draw:vF P qO g.draw
theorem r7 {qO:Nat->List Oper->Bool} {N:Nat} {body:Code} (h:jP qO N body=true): ∀(p:List Nat) {c:Code} {fr:List FrE},oK body p=some (c,fr)->jP qO N c=true
 |[],c,fr,Y=>by
  grind [oK]
 |d::p,c,fr,Y=>by
  simp only [oK] at Y;split at Y
  ·rename_i a b YW hp;have:=r7 h p hp
   grind [jP]
  ·rename_i id b YW hp;have:=r7 h p hp
   grind [jP]
  ·rename_i v a b YW hp;have:=r7 h p hp
   grind [jP]
  ·rename_i b YW hp;have:=r7 h p hp
   grind [jP]
  ·rename_i b YW hp;have:=r7 h p hp
   grind [jP]
  grind
theorem vV {body:Code}: ∀(p:List Nat) {c:Code} {fr:List FrE},oK body p=some (c,fr)->FB body fr
 |[],c,fr,h=>by simp only [oK,ah,ak] at h;rw [<- h.2]; trivial
 |d::p,c,fr,h=>by
  have h0:=h;simp only [oK] at h;split at h
  ·rename_i a b YW hp;have ih:=vV p hp;split at h
   ·simp only [ah,ak] at h;obtain⟨rfl,rfl⟩:=h;refine⟨?_,ih⟩;simp only [oK,hp]
   grind
  ·rename_i id b YW hp;have ih:=vV p hp;simp only [ah,ak] at h;rw [<- h.2]; exact ih
  ·rename_i v a b YW hp;have ih:=vV p hp
   grind
  ·rename_i b YW hp;have ih:=vV p hp;simp only [ah,ak] at h;rw [<- h.2];exact⟨hp,ih⟩
  ·rename_i b YW hp;have ih:=vV p hp;simp only [ah,ak] at h;rw [<- h.2]; exact ih
  grind
def MN (F:oa) (ρ:Nat->Int) (ys:List Int):Lf->Prop
 | .out es=>es.map (V.den ρ)=ys
 | .jump j es=>F j (es.map (V.den ρ))=some ys
def B_ [bH] (P:Program) (body:Code) (N:Nat) (B:ma) (Q:Exit->Act->World->Prop) (F:oa) (ys:List Int) (fe:Cr):Prop:=
 ∀p l,fe p=some l->∃b fr,oK body p=some (.loop b,fr)/\∀j c,(j,c)∈l->∀E a w,kB B E c.st a w->bH.ok E.ρ E.ro w.heap->(∃xs:List Int,(∀i x,xs[i]?=some x->E.ρ i=x)/\xs.length=c.k/\c.k<=900/\F j xs=some ys)->N<=a.tmps.size->a.defers= []->FA P b (KE P Q fr) a w
theorem nA (g:Tr V): ∀(n i:Nat),(xE g n i).length=n
 |0,_=>rfl
 |n+1,i=>by simp only [xE];split<;>simp [nA g n (i+1)]
theorem s9 (m:Nat) (c:CS) (s:St):(c.ji m s).ns.length=c.k:=by
 grind [CS.ji,nA]
theorem zy: ∀(n i:Nat) (ns:List V),(BU n i ns).length=ns.length
 |0,_,_=>rfl
 |_+1,_,[]=>rfl
 |n+1,i,_::ns=>by simp only [BU,aM,zy n (i+1) ns]
theorem vh (ig:Nat) (r:Ren):(re ig r).ns.length=r.ns.length:=by
 unfold re
 grind [zy]
theorem Ic {α:Type} {k:St->T α} {E:En} {a:Act} {w:World} {x:α}: ∀{ts:List (Nat×Nat)} {s:St},(Nj k ts s).leaf E.ρ=some x->kB B E s a w->∃s',kB B E s' a w/\(k s').leaf E.ρ=some x
 |[],s,h,t=> ⟨s,t,h⟩
 |(i,g)::ts,s,h,t=>by
  simp only [Nj] at h;split at h
  ·obtain⟨ec,fB,U⟩:=cC t.fit.pc h;exact Ic U (t.pc fB)
  ·exact Ic h t
theorem vX [bH] {ig:Nat} {F:oa} {ys:List Int} {body:Code} {N:Nat} {Q:Exit->Act->World->Prop} {fe:Cr} (hj:B_ P body N B Q F ys fe) {p:List Nat} {l0:List (Nat×CS)} (hp:fe p=some l0) {b:Code} {fr:List FrE} (Y:oK body p=some (.loop b,fr)) :
 ∀{l:List (Nat×CS)} {s:St} {lf:Lf} {E:En} {a:Act} {w:World},(∀x∈l,x∈l0)->(qY B.m ig s l).leaf E.ρ=some lf->MN F E.ρ ys lf->kB B E s a w->bH.ok E.ρ E.ro w.heap->N<=a.tmps.size->a.defers= []->FA P b (KE P Q fr) a w
 |[],s,lf,E,a,w,_,h,_,_,_,_,_=>by simp [qY,T.leaf] at h
 |(j,c)::l,s,lf,E,a,w,nO,h,ra,t,hg,hN,hd=>by
  simp only [qY] at h;split at h
  ·exact vX hj hp Y (fun x hx=>nO x (by simp [hx])) h ra t hg hN hd
  ·split at h
   ·rename_i hf;have:=bD h;subst this;simp only [an] at hf;obtain⟨hle,t'⟩:=t.fits hg hf.1 hf.2;obtain⟨b',YW,FR,hh⟩:=hj p l0 hp;rw [Y] at FR;simp only [ah,ak,Code.loop.injEq] at FR;obtain⟨rfl,rfl⟩:=FR;have oA:(re ig (c.ji B.m s)).ns.length=c.k:=by rw [vh,s9]
    refine hh j c (nO _ ad) (E.gL (re ig (c.ji B.m s))) a w t' (bH.gL hg fun i hi=>Ren.lD hle hi) ⟨(re ig (c.ji B.m s)).ns.map (V.den E.ρ),fun i x hi=>?_,by simp [oA],by rw [<- oA]; exact hle,ra⟩ hN hd;rw [bp,aQ] at hi;obtain⟨e,he,rfl⟩:=hi;show (re ig (c.ji B.m s)).env E.ρ i=_
    grind [Ren.env,de]
   ·exact vX hj hp Y (fun x hx=>nO x (by simp [hx])) h ra t hg hN hd
theorem wE {α:Type} {k:St->T α} {E:En} {a:Act} {w:World} {x:α}: ∀{ts:List Nat} {s:St},(vz k ts s).leaf E.ρ=some x->kB B E s a w->∃s',kB B E s' a w/\(k s').leaf E.ρ=some x
 |[],s,h,t=> ⟨s,t,h⟩
 |i::ts,s,h,t=>by
  simp only [vz] at h;split at h
  ·rename_i c hc;obtain⟨ec,fB,U⟩:=cC t.fit.pc h;refine wE U ⟨⟨t.fit.fresh,t.fit.res,t.fit.live,t.fit.inj,t.fit.qt,fun j v hj=>?_,fB,t.fit.hid⟩,t.ro,t.ru,t.M4,t.own,t.inx,t.s5⟩;simp only at hj;rw [Tr.bQ] at hj;split at hj
   ·rename_i he;subst he;simp only [ah] at hj;subst hj;obtain⟨u,Z,h3⟩:=t.fit.sr _ _ hc;refine⟨u,Z,?_⟩;simp only [VR] at h3 ⊢;rw [h3];rfl
   ·exact t.fit.sr j v hj
  ·exact wE h t
theorem TS (g:tI) (h:Hp):(gM g h).ns.length=g.ko/\(gM g h).bl=List.range g.ej.length/\(gM g h).sh= []:=by
 grind [gM,nA]
def nfs:List dN->Bool
 |[]=>true
 |o::l=>nf o&&nfs l
theorem IL: ∀{l:List dN},nfs l=true->∀{i:Nat} {o:dN},l[i]?=some o->nf o=true
 |[],_,_,_,h=>by simp at h
 |o0::l,hs,i,o,h=>by
  simp only [nfs,an] at hs
  cases i with
  |zero=>simp at h; rw [<- h]; exact hs.1
  |succ i=>exact IL hs.2 (by simpa using h)
def mF (K:Nat):List dN->Bool
 |[]=>true
 |o::l=>nf o&&(wX K o&&mF K l)
theorem mE {K:Nat}: ∀{l:List dN},mF K l=true->∀{i:Nat} {o:dN},l[i]?=some o->nf o=true/\wX K o=true
 |[],_,_,_,h=>by simp at h
 |o0::l,hs,i,o,h=>by
  simp only [mF,an] at hs
  cases i with
  |zero=>simp at h; rw [<- h]; exact⟨hs.1,hs.2.1⟩
  |succ i=>exact mE hs.2.2 (by simpa using h)
theorem C2 {n m ig:Nat} {s:St} {ρ:Nat->Int} {lf:Lf}: ∀{l:List CS} {k:Nat},(Mh n m ig s l k).leaf ρ=some lf->∃i c,l[i-k]?=some c/\(c.fits C! s (re ig (c.ji m s))=true/\Ec m (re ig (c.ji m s))=true)/\n=c.bF.length/\lf= .out (.lit (i:Int)::(re ig (c.ji m s)).ns)/\k<=i
 |[],k,h=>by simp [Mh,T.leaf] at h
 |c::l,k,h=>by
  simp only [Mh] at h;split at h
  ·obtain⟨i,c',q1,q2,q3,q4,q5⟩:=C2 h
   grind
  ·rename_i hq;simp only [an] at hq;split at h
   ·rename_i hf;have:=bD h;simp only [an] at hf;exact⟨k,c,ad,hf,aq hq.2,this.symm,au _⟩
   ·obtain⟨i,c',q1,q2,q3,q4,q5⟩:=C2 h
    grind
theorem C5 {E E':En} {h h':Array Obj} (kp:fy E h E' h'): ∀{xs:List W} {us:List Value} {i:Nat} {x:W},ct E h xs us->xs[i]?=some x->∃u,VR E h x u/\∀x',VR E' h' x' u->ct E' h' (xs.set i x') us
 |[],us,i,x,_,hx=>by simp at hx
 |y::ys,us,0,x,hv,hx=>by rw [bP] at hv;obtain⟨u,vs,rfl,a,b⟩:=hv;simp only [aF,ah] at hx;subst hx;refine⟨u,a,fun x' I6=>?_⟩;rw [anJ,bP];exact⟨u,vs,rfl,I6,ct.keep kp _ _ b⟩
 |y::ys,us,i+1,x,hv,hx=>by rw [bP] at hv;obtain⟨u,vs,rfl,a,b⟩:=hv;rw [aK] at hx;obtain⟨u',U,Z⟩:=C5 kp b hx;refine⟨u',U,fun x' I6=>?_⟩;rw [anK,bP];exact⟨u,vs,rfl,VR.keep kp _ _ a,Z x' I6⟩
theorem Ji [bH] {α:Type} {ρ:Nat->Int} {w:World} {us:List Value} {k:List W->St->T α} {x:α}: ∀{fz:List (Nat×Nat×Nat)} {vs:List W} {s:St} {E:En},E.ρ=ρ->bO E s.h w->bV ρ s.pc->ct E w.heap vs us->(LV fz vs s k).leaf ρ=some x->
 ∃MT h' ec E',bV ρ ec/\Kq E w s.h E' h'/\ct E' w.heap MT us/\(k MT { s with h:=h',pc:=ec }).leaf ρ=some x
 |[],vs,s,E,hρ,r,hp,hv,h=> ⟨vs,s.h,s.pc,E,hp,Kq.refl r,hv,h⟩
 |(i,f,t)::l,vs,s,E,hρ,r,hp,hv,h=>by
  simp only [LV] at h;split at h
  ·rename_i xs hi;split at h
   ·rename_i y hy;rw [de] at hi hy;obtain⟨y',U,fI,E1,fu,f1,q1,g1⟩:=CU hρ r hp h;have kp:=f1.ew.keeps r;obtain⟨u,a,b⟩:=C5 kp hv hi;simp only [VR] at a;obtain⟨ws,rfl,a⟩:=a;obtain⟨u2,a2,b2⟩:=C5 kp a hy;split at g1
    ·rename_i e he;have hc:=jI (q1 _ a2) he
     have Rx:ct E1 w.heap (vs.set i (.agg (xs.set f (.ei e t)))) us:=by refine b _ ?_;simp only [VR];exact⟨ws,rfl,b2 _ (by simp only [VR]; exact hc)⟩
     obtain⟨vs2,Z,jG,E2,jy,f2,q2,g2⟩:=Ji (s:={ s with h:=U,pc:=fI }) (f1.ρ.trans hρ) f1.rel fu Rx g1;exact⟨vs2,Z,jG,E2,jy,f1.trans f2,q2,g2⟩
    grind [T.leaf]
   grind [T.leaf]
  grind [T.leaf]
theorem aaP [bH] {g:tI} {qO:Nat->List Oper->Bool} (hg:PJ P g qO) {fn:Func} (xK:g.res=fn.results.toList) (hm:g.ej.length=B.m) (mJ:mF g.ko g.ej=true) (E?:g.ko<=900) {e:Ex} {s:St} {lf:Lf} {E:En} {a:Act} {w:World} {F:oa} {ys:List Int} (h:(Y9 g e s).leaf E.ρ=some lf) (ra:MN F E.ρ ys lf)
 (t:kB B E s a w) (oA:bH.ok E.ρ E.ro w.heap) (hd:a.defers= []):bodyPost P fn (QX B g.lj g.ej g.ko g.oy ys) (xn e) a w:=by
 have fit:=t.fit.fit oA
 have key: ∀{x:T Lf},x=(match kQ g.tt s g.res with
  |none=>T.fail
  |some vs=>match g.oy with
   |[]=>match cellsOf g.lj vs with
    |none=> .fail
    |some cells=>xe cells s fun cells s=>match AK (gM g s.h) g.ej.length s.h g.ej 0 with
     |true=>outs (oG g.lj) cells s fun es _=> .ret (.out ((gM g s.h).ns++es))
     |false=> .fail
   |c::l=>LV g.fz vs s fun vs s=>Mh vs.length g.ej.length g.ig ⟨cq vs 0 .nil,s.h,s.pc⟩ (c::l) 0)->x.leaf E.ρ=some lf->∃v,(results fn a.tmps).run P w= .ok v w/\QX B g.lj g.ej g.ko g.oy ys (.returned v) w:=by
  intro x hx Y;subst hx;split at Y
  ·simp [T.leaf] at Y
  ·rename_i vs hr;rw [xK] at hr;obtain⟨us,g1,g2⟩:=tl hg.tt fit hr
   have jw:(results fn a.tmps).run P w= .ok (Ty us) w:=by
    have hm:(fn.results.mapM (uJ a)).run P w= .ok us.toArray w:=by rw [aoS];simp_all
    have hr2:results fn a.tmps=(do let vs <- fn.results.mapM (uJ a); pure (if h:vs.size=1 then vs[0] else .tuple vs)):=rfl;rw [hr2];simp only [Sem.run_bind,hm];rfl
   split at Y
   ·rename_i AU;split at Y
    ·simp [T.leaf] at Y
    ·rename_i cells hc;rw [AU];show ∃v,_/\QE B g.lj g.ej g.ko ys (.returned v) w;obtain⟨fl,sh,hv2⟩:=nD g2 hc;obtain⟨agy,U,pcF,E1,hpF,f,RH,Y⟩:=pJ rfl fit.rel fit.pc Y;have hv3:=RH _ hv2;have s1:=f.ew;have r1:=f.rel;split at Y
     ·rename_i I9;have hρ:=f.ρ;rw [<- hρ] at Y ra hpF;obtain⟨es,fI,fu,q1,q2⟩:=CE (s:={ s with h:=U,pc:=pcF }) hpF hv3 Y;have:=bD q2;subst this;simp only [MN] at ra;obtain⟨n1,n2,n3⟩:=TS g U
      have Eg:ys.drop g.ko=es.map (V.den E1.ρ):=by
       grind
      have alL: ∀i,i<g.ko->low ys i=(gM g U).env E1.ρ i:=by
       intro i hi
       grind [gM,low,Ren.env,de]
      have amK: ∀i,i<B.m->E1.dm i/\E1.θ i=B.θ i/\E1.κ i=B.κ i:=by intro i hi;obtain⟨U,Z,h3⟩:=t.inx i hi;exact⟨s1.dm i U,by rw [s1.θ i U]; exact Z,by rw [s1.κ i U]; exact h3⟩
      have alH: ∀i,i<g.ej.length->(gM g U).id i=i:=by
       intro i hi
       grind [Ren.id,de]
      have Ub: ∀i,(gM g U).uf i=0:=by intro i;unfold Ren.uf;rw [n3];rfl
      have zl: ∀i,i<B.m->¬E1.ro (B.θ i).1:=by
       intro i hi;have ff:i<g.ej.length:=J
       obtain⟨o',q3,_,_⟩:=iL I9 (aO ff);rw [aA,alH i ff] at q3;have:=(r1.live i o' q3).2.2
       grind
      refine⟨Ty us,jw,_,rfl,t.M4,E1.ro,fun b hb=>s1.ro b (t.ro b hb),fun b hb=>?_,r1.qt,zl,fun i o hi=>?_,us,fl,sh,by rw [Eg]; exact q1,rfl⟩
      ·have key:B.ro b\/B.w0.heap.size<=b\/B.fp b:=by
        rcases s1.ru b hb with h|⟨id,o,U,Z⟩|h
        ·exact t.ru b h
        ·rw [<- Z]; exact .inr (t.own id o U)
        ·exact .inr (.inl (bn t.M4.size h))
       rcases key with h|h|⟨i,hi,he⟩
       ·exact .inl h
       ·exact .inr h
       ·exact absurd hb (by rw [<- he]; exact zl i hi)
      ·have dX:=(aX.1 hi).1;obtain⟨o',q3,q4,q5⟩:=iL I9 hi;rw [aA] at q3 q5;have ho:=(r1.live _ o' q3).2.1;have ho2:=OR.gL (E:=E1) (r:=gM g U) J (id:=i) (by rw [n2,List.length_range]; exact q4) q5 ho
       have kp:fy (E1.gL (gM g U)) w.heap { ρ:=(gM g U).env E1.ρ,θ:=B.θ,κ:=B.κ,dm:=fun i=>i<B.m,ro:=E1.ro } w.heap:=by
        have hd: ∀id,(E1.gL (gM g U)).dm id->id<g.ej.length:=by
         intro id hh;have:=hh.1
         grind
        refine⟨rfl,fun id hh=>by have:=hd id hh; show id<B.m; omega,fun id hh=>?_,fun id hh=>?_,fun _ h=>h,fun _ _=>rfl⟩
        ·have:=hd id hh;show B.θ id=((E1.θ ((gM g U).id id)).1,(E1.θ ((gM g U).id id)).2+(gM g U).uf id)
         grind
        ·have:=hd id hh;show B.κ id=E1.κ ((gM g U).id id)-(gM g U).uf id
         grind
       have ajE:(E1.gL (gM g U)).dm i:=by
        refine⟨by rw [n2,List.length_range]; exact dX,?_⟩
        grind
       have hθi:(E1.gL (gM g U)).θ i=B.θ i:=(kp.θ i ajE).symm;have ho3:=OR.acn kp ajE rfl (mE mJ hi).1 ho2;exact OR.low (K:=g.ko) (E:={ ρ:=(gM g U).env E1.ρ,θ:=B.θ,κ:=B.κ,dm:=fun i=>i<B.m,ro:=E1.ro }) (E':=B.out ys E1.ro) alL rfl rfl rfl rfl (mE mJ hi).2 ho3
     ·simp [T.leaf] at Y
   ·rename_i c0 l0 AU
    have hq:QR B (c0::l0) ys (.returned (Ty us)) w:=by
     obtain⟨VH,U,fI,E1,fu,f1,g2,Y⟩:=Ji rfl fit.rel fit.pc g2 Y;have oA:=f1.rel.iY
     have t0:kB B E1 ⟨cq VH 0 .nil,U,fI⟩ { tmps:=us.toArray,defers:=[] } w:=by have sr1:=ze g2 0;exact t.step (s':=⟨cq VH 0 .nil,U,fI⟩) f1.ew ⟨f1.rel,by simpa using sr1,by rw [f1.ρ]; exact fu⟩
     rw [<- f1.ρ] at Y ra;obtain⟨i,c,q1,⟨q2,q2'⟩,q3,q4,_⟩:=C2 Y;rw [hm] at q2 q2' q4;obtain⟨hle,t1⟩:=t0.fits oA q2 q2';rw [q4] at ra;simp only [MN,aw] at ra;subst ra
     have nk:(re g.ig (c.ji B.m ⟨cq VH 0 .nil,U,fI⟩)).bl.length=c.dw.length:=by simp_all [CS.fits]
     have u6: ∀i,i<B.m->i<c.dw.length:=fun i hi=>by rw [<- nk]; exact (Eb q2' i hi).1
     have zl: ∀i,i<B.m->∃o,c.st.h.get i=some o:=by
      intro i hi;have Jb:=u6 i hi;refine⟨c.dw[i],?_⟩;show (og c.dw 0 .nil).get i=_
      grind [jh]
     have hfp: ∀b,B.fp b->¬(E1.gL (re g.ig (c.ji B.m ⟨cq VH 0 .nil,U,fI⟩))).ro b:=by
      rintro b ⟨i,hi,rfl⟩ hb;obtain⟨o,ho⟩:=zl i hi;have:=(t1.fit.live i o ho).2.2;rw [(t1.inx i hi).2.1] at this
      grind
     refine⟨us,i,c,E1.gL (re g.ig (c.ji B.m ⟨cq VH 0 .nil,U,fI⟩)),rfl,t.M4,by simpa using q1,by simp [V.den],by simp [vh,s9],fun a x ha=>?_,by rw [<- q3,g2.length],t1.fit,t1.ro,fun b hb=>?_,fun i hi=> ⟨u6 i hi,t1.inx i hi⟩,fun id o ho hid=>?_⟩
     ·simp only [aK,bp,aQ] at ha;obtain⟨e,he,rfl⟩:=ha;show (re g.ig (c.ji B.m ⟨cq VH 0 .nil,U,fI⟩)).env E1.ρ a=_
      grind [Ren.env,de]
     ·rcases t1.ru b hb with h|h|h
      all_goals grind
     ·rcases t1.own id o ho with h|⟨i,hi,he⟩
      ·exact h
      ·obtain⟨o',yf⟩:=zl i hi;rw [<- (t1.inx i hi).2.1] at he;have:=t1.fit.inj i id o' o yf ho he;omega
    exact⟨Ty us,jw,by rw [AU]; exact hq⟩
 unfold Y9 at h
 cases e with
 |exit id=>simp [T.leaf] at h
 |normal=>exact⟨hd,key rfl h⟩
 |ret=>exact⟨hd,key rfl h⟩
theorem FM {P:Program} {Q:Exit->Act->World->Prop} {e:Ex} {a:Act} {w:World} (h:Q (xn e) a w):Exit.noGoto Q (xn e) a w:=by cases e<;>exact h
theorem kB.view [bH] {E E':En} {s:St} {a:Act} {w:World} {h':Hp} {ec:List (SB×Bool)} (hm:B.m=0) (t:kB B E s a w) (v:View E s.h w E' h') (hp:bV E.ρ ec):kB B E' { s with h:=h',pc:=ec } a w:=by
 have hold: ∀b,abk E s.h b->B.w0.heap.size<=b:=by
  rintro b (⟨id,o,U,Z⟩|⟨x,U⟩)
  ·rcases t.own id o U with h|⟨i,hi,_⟩
   ·rw [Z] at h; exact h
   ·omega
  ·exact t.s5 b x U
 refine⟨⟨v.rel.fresh,v.rel.res,v.rel.live,v.rel.inj,v.rel.qt,fun i x hi=>?_,by rw [v.kp.ρ]; exact hp,v.rel.hid⟩,fun b hb=>v.kp.ro b (t.ro b hb),fun b hb=>?_,t.M4,fun id o ho=> .inl (hold _ (v.hold _ (.inl ⟨id,o,ho,rfl⟩))),fun i hi=>by omega,fun b x hb=>hold _ (v.hold _ (.inr ⟨x,hb⟩))⟩
 ·obtain⟨u,U,Z⟩:=t.fit.sr i x hi;exact⟨u,U,VR.keep v.kp _ _ Z⟩
 ·rcases v.ru b hb with h|h
  ·exact t.ru b h
  ·exact .inr (.inl (hold b h))
def p8 [bH] {α:Type} (B:ma) (a:Act) (w:World) (f:St->(St->T α)->T α):Prop:= ∀(k:St->T α) (E:En) (s:St) (x:α),kB B E s a w->bH.ok E.ρ E.ro w.heap->(f s k).leaf E.ρ=some x->∃E' s',E'.ρ=E.ρ/\kB B E' s' a w/\bH.ok E'.ρ E'.ro w.heap/\(k s').leaf E.ρ=some x
theorem Td [bH] {α:Type} {a:Act} {w:World} (hm:B.m=0) (id:Nat) (y:V):p8 (α:=α) B a w (aaF id y):=by intro k E s x t hg h;obtain⟨h',ec,E',hp,v,g⟩:=aaE rfl (t.fit.fit hg).rel t.fit.pc h;exact⟨E',_,v.kp.ρ,t.view hm v hp,v.rel.iY,g⟩
theorem Tc [bH] {α:Type} {a:Act} {w:World} (hm:B.m=0) (id:Nat):p8 (α:=α) B a w (Y' id):=by intro k E s x t hg h;obtain⟨h',ec,E',hp,v,g⟩:=Y_ rfl (t.fit.fit hg).rel t.fit.pc h;exact⟨E',_,v.kp.ρ,t.view hm v hp,v.rel.iY,g⟩
theorem mn [bH] {α:Type} {a:Act} {w:World}:p8 (α:=α) B a w (fun s k=>k s):=fun _ E s _ t hg h=> ⟨E,s,rfl,t,hg,h⟩
theorem p8.then [bH] {α:Type} {a:Act} {w:World} {f f':St->(St->T α)->T α} (U:p8 B a w f) (Z:p8 B a w f'):p8 B a w (fun s k=>f s fun s=>f' s k):=by intro k E s x t hg h;obtain⟨E1,s1,e1,t1,g1,q1⟩:=U _ E s x t hg h;rw [<- e1] at q1;obtain⟨E2,s2,e2,t2,g2,q2⟩:=Z _ E1 s1 x t1 g1 q1;exact⟨E2,s2,e2.trans e1,t2,g2,by rw [<- e1]; exact q2⟩
theorem xo [bH] {α:Type} {a:Act} {w:World} (hm:B.m=0) (y:V): ∀l:List Nat,p8 (α:=α) B a w (Jk y l)
 |[]=>mn
 |i::l=>(Td hm i y).then (xo hm y l)
theorem Db [bH] {α:Type} {a:Act} {w:World} (hm:B.m=0): ∀l:List Nat,p8 (α:=α) B a w (NZ l)
 |[]=>mn
 |i::l=>(Tc hm i).then (Db hm l)
theorem Nn [bH] {α:Type} {a:Act} {w:World} (t j kd:Nat):p8 (α:=α) B a w (afR t j kd):=by
 intro k E s x tp hg h;unfold afR at h;split at h
 ·split at h
  ·rename_i i o hsl;split at h
   ·rename_i ob I9;split at h
    ·rename_i cs e0;split at h
     ·rename_i v hv;rw [de] at hv;have fit:=tp.fit.fit hg;obtain⟨v',h',ec,E',hp,f,RH,g⟩:=CU rfl fit.rel fit.pc h;split at g
      ·rename_i ob' aju;split at g
       ·rename_i lE e';have Yn:=f.sub.get _ _ aju;rw [I9] at Yn;simp only [ah,dN.cells.injEq] at Yn;obtain⟨rfl,rfl⟩:=Yn;split at g
        ·rename_i c hc;obtain⟨qA,RB,_⟩:=fit.rel.live i _ I9;have kp:=f.ew.keeps fit.rel
         have alu:OR E' w.heap i (.cells (cs.set (o+j) (.ei c kd)) e0):=by simp only [OR] at RB ⊢;obtain⟨arr,lo,hi,us,U,Z,h3,h4,h5,h6,h7⟩:=RB;obtain⟨u,hu,afq⟩:=C5 kp Z hv;rw [f.ew.θ i qA,f.ew.κ i qA];exact⟨arr,lo,hi,us,U,afq _ (by simp only [VR]; exact jI (RH u hu) hc),h3,by rw [anL]; exact h4,h5,h6,h7⟩
         obtain⟨qR,aiA⟩:=yI f.rel aju (.cells (cs.set (o+j) (.ei c kd)) e0) rfl (fun _ _=>rfl) ⟨rfl,rfl,rfl⟩ alu;have st:=f.ew.trans qR;exact⟨E',{ s with h:=h'.put i (.cells (cs.set (o+j) (.ei c kd)) e0),pc:=ec },f.ρ,tp.step st ⟨aiA,SR.keep (st.keeps fit.rel) fit.sr,by rw [f.ρ]; exact hp⟩,aiA.iY,g⟩
        ·simp [T.leaf] at g
       ·simp [T.leaf] at g
      ·simp [T.leaf] at g
     ·exact⟨E,s,rfl,tp,hg,h⟩
    ·exact⟨E,s,rfl,tp,hg,h⟩
   ·exact⟨E,s,rfl,tp,hg,h⟩
  ·exact⟨E,s,rfl,tp,hg,h⟩
 ·exact⟨E,s,rfl,tp,hg,h⟩
theorem F7 [bH] {α:Type} {a:Act} {w:World} (i:Nat):p8 (α:=α) B a w (aaB i):=by
 intro k E s x t hg h;unfold aaB at h;split at h
 ·exact Nn _ _ _ k E s x t hg h
 split at h
 ·rename_i v hv;have fit:=t.fit.fit hg;obtain⟨v',h',ec,E',hp,f,RH,g⟩:=CU rfl fit.rel fit.pc h
  have key: ∀v2:W,(∀u,VR E w.heap v u->VR E' w.heap v2 u)->(k { s with h:=h',pc:=ec,bF:=s.bF.put (i % 1000) (some v2) }).leaf E.ρ=some x->∃E' s',E'.ρ=E.ρ/\kB B E' s' a w/\bH.ok E'.ρ E'.ro w.heap/\(k s').leaf E.ρ=some x:=by
   intro v2 Z g;refine⟨E',_,f.ρ,t.step f.ew ⟨f.rel,fun j y hj=>?_,by rw [f.ρ]; exact hp⟩,f.rel.iY,g⟩;obtain⟨u,hu,hvu⟩:=fit.sr (i % 1000) v hv;simp only [Tr.bQ] at hj;split at hj
   ·rename_i he;subst he;simp only [ah] at hj;subst hj;exact⟨u,hu,Z u hvu⟩
   ·exact SR.keep (f.ew.keeps fit.rel) fit.sr j y hj
  split at g
  ·split at g
   ·rename_i e he;exact key _ (fun u hu=>by simp only [VR]; exact jI (RH u hu) he) g
   ·simp [T.leaf] at g
  ·exact key _ RH g
 ·exact⟨E,s,rfl,t,hg,h⟩
theorem De [bH] {α:Type} {a:Act} {w:World} (hm:B.m=0) (r:Nat): ∀l:List FH,p8 (α:=α) B a w (FW r l)
 |[]=>mn
 |h0::l=>by
  have ih:=De (α:=α) (a:=a) (w:=w) hm r l;intro k E s x t hg h;simp only [FW] at h;split at h
  ·exact ih k E s x t hg h
  ·split at h
   ·split at h
    ·exact ((F7 _).then ih) k E s x t hg h
    ·exact ih k E s x t hg h
   ·split at h
    ·exact ((xo hm _ _).then ih) k E s x t hg h
    ·split at h
     ·exact ih k E s x t hg h
     ·obtain⟨ec,fB,U⟩:=cC t.fit.pc h;split at U
      ·exact ((xo hm _ _).then ih) k E _ x (t.pc fB) hg U
      ·exact ih k E _ x (t.pc fB) hg U
theorem Eu {g:tI} (h:Hx g=true):g.ej= []/\g.oy= []:=by
 unfold Hx at h;split at h
 ·simp at h
 ·split at h
  ·rename_i U;split at h
   ·rename_i Z;exact⟨U,Z⟩
   ·simp at h
  ·simp at h
theorem Dd [bH] {α:Type} {a:Act} {w:World} (r:Nat): ∀l:List FH,p8 (α:=α) B a w (Ur r l)
 |[]=>mn
 |h0::l=>by
  have ih:=Dd (α:=α) (a:=a) (w:=w) r l;intro k E s x t hg h;simp only [Ur] at h;split at h
  ·exact ih k E s x t hg h
  ·split at h
   ·exact ((F7 _).then ih) k E s x t hg h
   ·exact ih k E s x t hg h
theorem Np [bH] {α:Type} {a:Act} {w:World} {g:tI} (hm:g.ej.length=B.m) (c:Code):p8 (α:=α) B a w (Us g c):=by
 intro k E s x t hg h;unfold Us at h;split at h
 ·rename_i he;rw [(Eu he).1] at hm;split at h
  ·exact De hm.symm _ _ k E s x t hg h
  ·exact mn k E s x t hg h
 ·split at h
  ·split at h
   ·exact Dd _ _ k E s x t hg h
   ·exact mn k E s x t hg h
  ·exact mn k E s x t hg h
theorem Dc [bH] {α:Type} {a:Act} {w:World} {g:tI} {p:List Nat} (hm:g.ej.length=B.m):p8 (α:=α) B a w (TN g p):=by
 intro k E s x t hg h;unfold TN at h;split at h
 ·rename_i he;rw [(Eu he).1] at hm;split at h
  ·exact mn k E s x t hg h
  ·exact Db hm.symm _ k E s x t hg h
 ·exact mn k E s x t hg h
theorem Jf [bH] {g:tI} {qO:Nat->List Oper->Bool} (hg:PJ P g qO) {body:Code} {N:Nat} (hd:jP qO N body=true) {fn:Func} (xK:g.res=fn.results.toList) (hm:g.ej.length=B.m) (mJ:mF g.ko g.ej=true) (E?:g.ko<=900) {F:oa} {ys:List Int} {fe:Cr}
 (hj:B_ P body N B (bodyPost P fn (QX B g.lj g.ej g.ko g.oy ys)) F ys fe): ∀n:Nat,
 (∀p c fr s lf E a w,oK body p=some (c,fr)->(wJ g fe n p c fr s).leaf E.ρ=some lf->MN F E.ρ ys lf->kB B E s a w->bH.ok E.ρ E.ro w.heap->N<=a.tmps.size->a.defers= []->c.wp P (KE P (bodyPost P fn (QX B g.lj g.ej g.ko g.oy ys)) fr) a w)/\
 (∀fr e s lf E a w,FB body fr->(tc g fe n fr e s).leaf E.ρ=some lf->MN F E.ρ ys lf->kB B E s a w->bH.ok E.ρ E.ro w.heap->N<=a.tmps.size->a.defers= []->KE P (bodyPost P fn (QX B g.lj g.ej g.ko g.oy ys)) fr (xn e) a w)
 |0=> ⟨fun _ _ _ _ _ _ _ _ _ h=>by simp [wJ,T.leaf] at h,fun _ _ _ _ _ _ _ _ h=>by simp [tc,T.leaf] at h⟩
 |n+1=>by
  obtain⟨Kj,tP⟩:=Jf hg hd xK hm mJ E? hj n
  have leaf: ∀p c fr s lf E a w,oK body p=some (c,fr)->(Us g c s fun s=>(g.ev c s).bind fun (e,s')=>tc g fe n fr e s').leaf E.ρ=some lf->MN F E.ρ ys lf->kB B E s a w->bH.ok E.ρ E.ro w.heap->N<=a.tmps.size->a.defers= []->c.wp P (KE P (bodyPost P fn (QX B g.lj g.ej g.ko g.oy ys)) fr) a w:=by intro p c fr s lf E0 a w Y h ra t oA hN CQ;obtain⟨E,s,hE,t,oA,h⟩:=Np hm c _ E0 s lf t oA h;rw [<- hE] at h ra;obtain⟨⟨e,s'⟩,U,Z⟩:=T.fh h;refine wp_mono (kR hg.tt hg.call hg.draw c (r7 hd p Y) E s s' e a w hN (t.fit.fit oA) U) fun x a' w' ⟨hx,ht⟩=>?_;subst hx;obtain⟨E',t',hρ,hg'⟩:=t.then ht;exact tP fr e s' lf E' a' w' (vV p Y) (by rw [hρ]; exact Z) (by rw [hρ]; exact ra) t' hg' (by rw [ht.size]; exact hN) (by rw [ht.defers,CQ])
  constructor
  ·intro p c fr s lf E a w Y h ra t oA hN CQ;simp only [wJ] at h;split at h
   ·rename_i l U7;obtain⟨E1,s1,hE,t,oA,h⟩:=Dc hm _ E s lf t oA h;rw [<- hE] at h ra;obtain⟨b,YW,FR,_⟩:=hj p l U7;rw [Y] at FR;simp only [ah,ak] at FR;obtain⟨rfl,rfl⟩:=FR;obtain⟨s',t',h'⟩:=wE h t;exact Oa (vX hj U7 Y (fun _ hx=>hx) (by rw [<- hm]; exact h') ra t' oA hN CQ)
   ·cases c with
    |seq x y=> simp only at h;refine wp_seq ?_;exact Kj (0::p) x (.seq (1::p) y::fr) s lf E a w (by simp only [oK,Y]) h ra t oA hN CQ
    |block id b=> simp only at h;refine wp_block ?_;exact Kj (0::p) b (.block id::fr) s lf E a w (by simp only [oK,Y]) h ra t oA hN CQ
    |scope b=> simp only at h;refine wp_scope_straight ?_;exact Kj (0::p) b (.scope::fr) s lf E a w (by simp only [oK,Y]) h ra t oA hN CQ
    |cond v x y=>
     simp only at h;split at h
     ·rename_i c hv;obtain⟨ec,fB,U⟩:=cC t.fit.pc h;have Rw:=gj t.fit.sr hv;simp only [VR] at Rw;refine wp_cond Rw ?_
      cases RJ:c.den E.ρ with
      |true=> rw [RJ] at U;simp only at U;exact Kj (0::p) x fr _ lf E a w (by simp only [oK,Y]) U ra (t.pc fB) oA hN CQ
      |false=> rw [RJ] at U;simp only at U;exact Kj (1::p) y fr _ lf E a w (by simp only [oK,Y]) U ra (t.pc fB) oA hN CQ
     grind [T.leaf]
    |_=>simp only at h; exact leaf p _ fr s lf E a w Y h ra t oA hN CQ
  ·intro fr e s lf E a w hf h ra t oA hN CQ
   cases fr with
   |nil=> simp only [tc] at h;exact aaP hg xK hm mJ E? h ra t oA CQ
   |cons f fr=>
    cases f with
    |seq p c=>
     simp only [tc] at h;obtain⟨Y,Oy⟩:=hf
     cases e with
     |normal=>exact Kj p c fr s lf E a w Y h ra t oA hN CQ
     |exit id=>exact tP fr (.exit id) s lf E a w Oy h ra t oA hN CQ
     |ret=>exact tP fr .ret s lf E a w Oy h ra t oA hN CQ
    |block id=>
     simp only [tc] at h;have Oy:FB body fr:=hf
     cases e with
     |normal=>exact tP fr .normal s lf E a w Oy h ra t oA hN CQ
     |ret=>exact tP fr .ret s lf E a w Oy h ra t oA hN CQ
     |exit j=>
      simp only at h;show (if j=id then _ else _);split at h
      ·rename_i YD;rw [ag (aq YD)];exact tP fr .normal s lf E a w Oy h ra t oA hN CQ
      ·rename_i YD;rw [af (anT YD)];exact tP fr (.exit j) s lf E a w Oy h ra t oA hN CQ
    |loop p b=>
     simp only [tc] at h;obtain⟨Y,Oy⟩:=hf
     cases e with
     |normal=>
      simp only at h;split at h
      ·rename_i l U7;obtain⟨E1,s1,hE,t,oA,h⟩:=Dc hm _ E s lf t oA h;rw [<- hE] at h ra;obtain⟨s',t',h'⟩:=wE h t;exact vX hj U7 Y (fun _ hx=>hx) (by rw [<- hm]; exact h') ra t' oA hN CQ
      grind [T.leaf]
     |exit id=>exact tP fr (.exit id) s lf E a w Oy h ra t oA hN CQ
     |ret=>exact tP fr .ret s lf E a w Oy h ra t oA hN CQ
    |scope=> simp only [tc] at h;exact FM (P:=P) (tP fr e s lf E a w hf h ra t oA hN CQ)
end
end Go.As
end
section
namespace Go.As
open Go.RowKit
def Ren.bK (r:Ren):List (W×W×Nat)->List (W×W×Nat)
 |[]=>[]
 |(k,v,n)::l=>(r.av k,r.av v,n)::r.bK l
theorem Ren.B1 (r:Ren): ∀es:List (W×W×Nat),(r.bK es).map (·.2.2)=es.map (·.2.2)
 |[]=>rfl
 |(k,v,n)::l=>by simp only [Ren.bK,aw,Ren.B1 r l]
def Ren.ovs (r:Ren):List (V×List W)->List (V×List W)
 |[]=>[]
 |(i,cs)::l=>(r.se i,r.Co cs)::r.ovs l
def Ren.ob (r:Ren):dN->dN
 | .cells cs e=> .cells (r.Co cs) e
 | .map es n=> .map (r.bK es) n
 | .j4 s p=> .j4 s p
 | .jt m s l z=> .jt (m.map r.id) s l z
 | .vec e t ty ov=> .vec (r.se e) t ty (r.ovs ov)
 | .jS e t=> .jS (r.se e) t
 | .uc e t e8 ov=> .uc e t e8 ov
noncomputable def j5 (r:Ren):List dN->Nat->Hp->Hp
 |[],_,h=>h
 |o::os,i,h=>j5 r os (i+1) (h.put (r.id i) (r.ob o))
def GQ (r:Ren):Bool:=r.sh.all fun i=>Nat.beq i 0
def QB (r:V) (n:Nat):List V:=(List.range n).map (ox r)
noncomputable def Yu (j:Nat) (c:CS) (lj:List RK) (ej:List dN) (ko:Nat):List W->St->T (W×St):=fun args s=>
 match Nat.beq args.length c.bF.length&&c.fits C! ⟨cq args 0 .nil,s.h,s.pc⟩ (c.kX ⟨cq args 0 .nil,s.h,s.pc⟩)&&GQ (c.kX ⟨cq args 0 .nil,s.h,s.pc⟩) with
 |true=>jo s (.eq (.ap (2*j) (fV (c.kX ⟨cq args 0 .nil,s.h,s.pc⟩).ns)) (.lit 1)) fun s' b=>match b with
  |true=> .ret (match px lj (ox (.ap (2*j+1) (fV (c.kX ⟨cq args 0 .nil,s.h,s.pc⟩).ns))) ko with |[v]=>v|vs=> .tuple vs,
   { s' with h:=j5 ⟨QB (.ap (2*j+1) (fV (c.kX ⟨cq args 0 .nil,s.h,s.pc⟩).ns)) ko,(c.kX ⟨cq args 0 .nil,s.h,s.pc⟩).bl,[]⟩ ej 0 s'.h })
  |false=> .fail
 |false=> .fail
noncomputable def ajX (s:St) (t c:Nat):V:=match s.bF.get t with
 |some v=>match v with
  | .int _ e=>e
  | .agg cs=>match eZ cs c with
    |some v=>match v with
     | .int _ e=>e
     |_=> .lit 0
    |none=> .lit 0
  |_=> .lit 0
 |none=> .lit 0
noncomputable def YR (s:St):List (Nat×Nat)->List V->List V
 |[],ns=>ns
 |_::_,[]=>[]
 |(t,c)::l,_::ns=>ajX s t c::YR s l ns
noncomputable def F_ (s:St) (gh:List (Nat×Nat)) (r:Ren):Ren:={ r with ns:=YR s gh r.ns }
noncomputable def ajW (s:St) (gh:List (Nat×Nat)):Option V:=match gh with
 |(t,c)::_=>some (ajX s t c)
 |[]=>none
noncomputable def ri (q:V) (ig:Nat) (ns:List V) (c:CS) (bl:List Nat) (s:St):Ren:=⟨(List.range c.k).map fun a=>match Nat.blt a ig with |true=>(match eZ ns a with |some e=>e|none=> .lit 0)|false=>ox q (a+1),(List.range c.dw.length).map fun i=>match eZ bl i with |some j=>j|none=>s.h.next+(i-bl.length),[]⟩
noncomputable def YQ (g n:V) (s:St) (k:St->T (W×St)):T (W×St):=jo s (gV g (.lit 0)) fun s b=>match b with
 |true=>k s
 |false=>jo s (gV g n) fun s b=>match b with
  |true=> .fail
  |false=>k s
noncomputable def ghT (q:V) (ig:Nat) (ns:List V) (g:Option V) (c:CS) (bl:List Nat) (s:St) (k:St->T (W×St)):T (W×St):=match g with
 |none=>k s
 |some g=>match c.m with
  | .dG _=>k s
  |_=>match c.bF with
   |[]=>k s
   |(_,v)::_=>match v with
    | .ow _ n _=>YQ g ((ri q ig ns c bl s).se n) s k
    |_=>k s
noncomputable def s_ (q:V) (ig:Nat) (ns:List V) (g:Option V) (bl:List Nat):List CS->Nat->St->T (W×St)
 |[],_,_=> .fail
 |c::l,i,s=>jo s (qS (ox q 0) (.lit (Int.ofNat i))) fun s b=>match b with
  |true=>ghT q ig ns g c bl s fun s=> .ret (AH ((ri q ig ns c bl s).Co (c.bF.map fun p=>p.2)),
   { s with h:=⟨(j5 (ri q ig ns c bl s) c.dw 0 s.h).m,s.h.next+(c.dw.length-bl.length),s.h.res⟩ })
  |false=>s_ q ig ns g bl l (i+1) s
noncomputable def RC (j ig:Nat) (c:CS) (gh:List (Nat×Nat)) (oy:List CS):List W->St->T (W×St):=fun args s=>
 match Nat.beq args.length c.bF.length&&c.fits C! ⟨cq args 0 .nil,s.h,s.pc⟩ (F_ s gh (c.kX ⟨cq args 0 .nil,s.h,s.pc⟩))&&GQ (F_ s gh (c.kX ⟨cq args 0 .nil,s.h,s.pc⟩)) with
 |true=>jo s (.eq (.ap (2*j) (fV (F_ s gh (c.kX ⟨cq args 0 .nil,s.h,s.pc⟩)).ns)) (.lit 1)) fun s' b=>match b with
  |true=>s_ (.ap (2*j+1) (fV (F_ s gh (c.kX ⟨cq args 0 .nil,s.h,s.pc⟩)).ns)) ig (F_ s gh (c.kX ⟨cq args 0 .nil,s.h,s.pc⟩)).ns (ajW s gh) (F_ s gh (c.kX ⟨cq args 0 .nil,s.h,s.pc⟩)).bl oy 0 s'
  |false=> .fail
 |false=> .fail
section
variable {Eo E2:En} {r:Ren} {h:Array Obj} (Y:r.ns.length<=900) (xJ:r.sh= []) (hρ:Eo.ρ=r.env E2.ρ) (hid: ∀i,Eo.dm i->E2.dm (r.id i)/\E2.θ (r.id i)=Eo.θ i/\E2.κ (r.id i)=Eo.κ i) (jx:Eo.ro=E2.ro)
include Y xJ hρ hid jx
theorem Xb (i:Nat):r.uf i=0:=by unfold Ren.uf; rw [xJ]; rfl
theorem eD.back {id off len:Nat} {a:Addr} {cap:Nat} {c:MS} (hd:Eo.dm id) (hc:eD Eo id off len a cap c):eD E2 (r.id id) off len a cap c:=by simp_all [eD]
mutual
theorem VR.back: ∀(x:W) (u:Value),VR Eo h x u->VR E2 h (r.av x) u
 | .bool b,u,hv=>by simp only [VR,Ren.av] at *; rw [Ren.AB Y,<- hρ]; exact hv
 | .int _ e,u,hv=>by simp only [VR,Ren.av] at *; rw [Ren.ep Y,<- hρ]; exact hv
 | .str s,u,hv=>by simp only [VR,Ren.av] at *; exact hv
 | .ptr id off,u,hv=>by
   simp only [VR,Ren.av,Xb Y xJ hρ hid jx,aA] at *
   grind
 | .sL,u,hv=>by simp only [VR,Ren.av] at *; exact hv
 | .mK cs,u,hv=>by simp only [VR,Ren.av] at *;obtain⟨b,o,us,U,Z,h3,h4,h5⟩:=hv;exact⟨b,o,us,U,by rw [<- jx]; exact Z,ct.back cs us h3,h4,h5⟩
 | .slice id off len c,u,hv=>by simp only [VR,Ren.av,Xb Y xJ hρ hid jx,aA] at *;obtain⟨U,a,cap,Z,h3,h4⟩:=hv;exact⟨(hid id U).1,a,cap,Z,h3,eD.back Y xJ hρ hid jx U h4⟩
 | .dq,u,hv=>by simp only [VR,Ren.av] at *; exact hv
 | .ro cs n full,u,hv=>by simp only [VR,Ren.av] at *;obtain⟨b,o,cap,us,U,Z,h3,h4,h5,h6,h7⟩:=hv;exact⟨b,o,cap,us,U,Z,h3,by rw [<- jx]; exact h4,ct.back cs us h5,h6,h7⟩
 | .map id,u,hv=>by
   simp only [VR,Ren.av] at *
   grind
 | .qX,u,hv=>by simp only [VR,Ren.av] at *; exact hv
 | .func fn fs cs,u,hv=>by simp only [VR,Ren.av] at *;obtain⟨us,ws,U,Z,h3⟩:=hv;exact⟨us,ws,U,ct.back fs us Z,ct.back cs ws h3⟩
 | .uR,u,hv=>by simp only [VR,Ren.av] at *; exact hv
 | .iface t x,u,hv=>by simp only [VR,Ren.av] at *;obtain⟨y,U,Z⟩:=hv;exact⟨y,U,VR.back x y Z⟩
 | .wI,u,hv=>by simp only [VR,Ren.av] at *; exact hv
 | .agg cs,u,hv=>by simp only [VR,Ren.av] at *;obtain⟨us,U,Z⟩:=hv;exact⟨us,U,ct.back cs us Z⟩
 | .tuple cs,u,hv=>by simp only [VR,Ren.av] at *;obtain⟨us,U,Z⟩:=hv;exact⟨us,U,ct.back cs us Z⟩
 | .Kh _,u,hv=>by simp only [VR] at hv
 | .v7 k ks,u,hv=>by
   simp only [VR,Ren.av] at *;rw [hρ,Ren.lD Y J,jx] at hv;rcases hv with hv|⟨b,o,n,cap,U,Z,h3,h4,h5⟩
   ·grind
   ·refine .inr ⟨b,o,n,cap,U,Z,h3,h4,fun i j kd hi hj=>?_⟩;have:=h5 i j kd hi hj
    first
     |exact this
     |(rw [Ren.lD Y J] at this; exact this)
     |(rw [hρ,Ren.lD Y J] at this; exact this)
 | .emp,u,hv=>by simp only [VR,Ren.av] at *; exact hv
 | .ei e t,u,hv=>by simp only [VR,Ren.av] at *; rw [Ren.ep Y,<- hρ,<- jx]; exact hv
 | .jC e,u,hv=>by simp only [VR,Ren.av] at *; rw [Ren.ep Y,<- hρ,<- jx]; exact hv
 | .ow id n t,u,hv=>by simp only [Ren.av,Xb Y xJ hρ hid jx];simp only [VR] at *;obtain⟨U,k,a,cap,Z,h3,h4,h5⟩:=hv;exact⟨(hid id U).1,k,a,cap,by rw [Ren.ep Y,<- hρ]; exact Z,h3,h4,eD.back Y xJ hρ hid jx U h5⟩
 | .yi id es i off,u,hv=>by simp only [Ren.av,Xb Y xJ hρ hid jx];simp only [VR] at *;obtain⟨U,k,Z,h3⟩:=hv;obtain⟨g1,g2,_⟩:=hid id U;exact⟨g1,k,by rw [Ren.ep Y,<- hρ]; exact Z,by rw [g2]; exact h3⟩
 | .any,u,_=>by simp only [VR,Ren.av]
 | .wL z t,u,hv=>by simp only [VR,Ren.av] at *; rw [Ren.ep Y,<- hρ,<- jx]; exact hv
 | .sk id lo n t,u,hv=>by simp only [Ren.av,Xb Y xJ hρ hid jx];simp only [VR] at *;obtain⟨U,l,k,a,cap,Z,h3,h4,h5,h6⟩:=hv;exact⟨(hid id U).1,l,k,a,cap,by rw [Ren.ep Y,<- hρ]; exact Z,by rw [Ren.ep Y,<- hρ]; exact h3,h4,h5,eD.back Y xJ hρ hid jx U h6⟩
theorem ct.back: ∀(xs:List W) (us:List Value),ct Eo h xs us->ct E2 h (r.Co xs) us
 |[],us,hv=>by simp only [ct,Ren.Co] at *; exact hv
 |x::xs,us,hv=>by simp only [ct,Ren.Co] at *;obtain⟨u,vs,U,Z,h3⟩:=hv;exact⟨u,vs,U,VR.back x u Z,ct.back xs vs h3⟩
end
theorem eL.back: ∀{es:List (W×W×Nat)} {bK:List MapEntry},eL Eo h es bK->eL E2 h (r.bK es) bK
 |[],_,hv=>by simp only [eL,Ren.bK] at *; exact hv
 |(k,v,b)::es,bK,hv=>by simp only [eL,Ren.bK] at *;obtain⟨e,rr,U,Z,h3,h4,h5⟩:=hv;exact⟨e,rr,U,VR.back Y xJ hρ hid jx k _ Z,VR.back Y xJ hρ hid jx v _ h3,h4,eL.back h5⟩
theorem DO {i:Nat}: ∀{ov:List (V×List W)},dW E2.ρ i (r.ovs ov)=(dW Eo.ρ i ov).map r.Co
 |[]=>rfl
 |(j,cs)::l=>by
  simp only [dW,Ren.ovs];rw [Ren.ep Y,<- hρ,DO]
  grind
theorem xh {row:Row} {ov:List (V×List W)}: ∀(ds:List D) (i:Nat) {us:List Value},ct Eo h (bE Eo.ρ row ov ds i) us->ct E2 h (bE E2.ρ row (r.ovs ov) ds i) us
 |[],_,us,hv=>by simp only [bE,ct] at *; exact hv
 |d::ds,i,us,hv=>by
  simp only [bE] at *;obtain⟨a,b,rfl,U,Z⟩:=hv.split;refine ct.append ?_ (xh ds (i+1) Z);rw [DO Y xJ hρ hid jx]
  cases ho:dW Eo.ρ i ov with
  |none=> rw [ho] at U;simp only [Option.map_none];rw [fA] at U ⊢;rw [<- jx];exact U
  |some cs=> rw [ho] at U;exact ct.back Y xJ hρ hid jx cs a U
theorem GM {row:Row}: ∀{ov:List (V×List W)},sK row ov->sK row (r.ovs ov)
 |[],h=>h
 |(i,cs)::l,h=>by
  intro p hp;simp only [Ren.ovs] at hp;rcases ax.1 hp with rfl|hp
  ·simp only [pY]; exact h (i,cs) ad
  ·exact GM (fun q hq=>h q (by simp [hq])) p hp
theorem OR.back {id:Nat} {o:dN} (hn:nf o=true) (hd:Eo.dm id) (ho:OR Eo h id o):OR E2 h (r.id id) (r.ob o):=by
 obtain⟨_,Z,h3⟩:=hid id hd
 cases o with
 |uc e t e8 ov=>simp [nf] at hn
 |cells cs e=> simp only [OR,Ren.ob] at *;obtain⟨arr,lo,hi,us,q1,q2,q3,q4,q5,q6,q7⟩:=ho;rw [Z,h3];exact⟨arr,lo,hi,us,q1,ct.back Y xJ hρ hid jx cs us q2,q3,by rw [pY]; exact q4,q5,q6,q7⟩
 |map es c=>
  simp only [OR,Ren.ob] at *;obtain⟨bK,c',q1,q2,q3⟩:=ho;rw [Z];refine⟨bK,c',q1,eL.back Y xJ hρ hid jx q2,?_⟩
  cases c with
  |zero=>trivial
  |succ c=>exact⟨q3.1,by rw [q3.2,Ren.B1]⟩
 |j4 s p=>simp only [OR,Ren.ob] at *; rw [Z]; exact ho
 |jt m s l z=>
  cases m with
  |none=>simp only [OR,Ren.ob,Option.map] at *; rw [Z]; exact ho
  |some i=> simp only [OR,Ren.ob,Option.map] at *;obtain⟨q1,q2,q3⟩:=hid i ho.2.2;rw [Z,q2];exact⟨ho.1,ho.2.1,q1⟩
 |jS e t=>
  grind [OR,Ren.ob,Ren.ep]
 |vec e t ty ov=>
  simp only [OR,Ren.ob] at *;obtain⟨⟨q0,qw⟩,arr,lo,hi,us,q1,q2,q3,q4,q5,q6,q7⟩:=ho;have he:(r.se e).den E2.ρ=e.den Eo.ρ:=by rw [Ren.ep Y,<- hρ]
  have q0':=GM Y xJ hρ hid jx q0;rw [Z,h3,he];refine⟨⟨q0',qw⟩,arr,lo,hi,us,q1,xh Y xJ hρ hid jx _ _ q2,q3,?_,q5,q6,q7⟩
  grind [cD]
end
theorem xu {r:Ren}: ∀{os:List dN} {i:Nat} {h:Hp},(∀a b,i<=a->a<i+os.length->i<=b->b<i+os.length->r.id a=r.id b->a=b)->
 (∀k o,os[k]?=some o->(j5 r os i h).get (r.id (i+k))=some (r.ob o))/\(∀id,(∀k,k<os.length->r.id (i+k)≠id)->(j5 r os i h).get id=h.get id)/\(j5 r os i h).next=h.next/\(j5 r os i h).res=h.res
 |[],i,h,_=> ⟨fun k o hk=>by simp at hk,fun _ _=>rfl,rfl,rfl⟩
 |o::os,i,h,LG=>by
  obtain⟨U,Z,h3,h4⟩:=xu (r:=r) (os:=os) (i:=i+1) (h:=h.put (r.id i) (r.ob o)) fun a b U Z h3 h4=>LG a b J (by simp only [aM]; omega) J (by simp only [aM]; omega);refine⟨fun k x hk=>?_,fun id hn=>?_,h3,h4⟩
  ·cases k with
   |zero=>
    simp at hk;subst hk;simp only [j5];show (j5 r os (i+1) (h.put (r.id i) (r.ob o))).get (r.id i)=some (r.ob o)
    grind [Hp.bQ]
   |succ k=>
    grind [j5]
  ·simp only [j5];rw [Z id fun k hk=>?_,Hp.bQ,af ?_]
   ·have:=hn 0 ad
    grind
   grind
theorem w9 (c:CS) (s:St):(c.kX s).ns.length=c.k:=by
 grind [CS.kX,nA]
section
variable {P:Program}
def adM (P:Program) (GB:(Nat->Prop)->Array Obj->Prop) (g:FuncId) (c:CS) (lj:List RK) (ej:List dN) (ko:Nat) (f:List Int->Option (List Int)):Prop:=
 ∀xs ys,f xs=some ys->∀(E:En) (w:World) (vals:List Value),(∀i x,xs[i]?=some x->E.ρ i=x)->xs.length=c.k->vE E c.st { tmps:=vals.toArray,defers:=[] } w->GB E.ro w.heap->
  Calls P g vals.toArray w (QE ⟨w,E.ro,c.dw.length,E.θ,E.κ⟩ lj ej ko ys)
theorem Yt [bH] {GB:(Nat->Prop)->Array Obj->Prop} (LI: ∀ρ ro h,bH.ok ρ ro h->GB ro h) {F:oa} (LH: ∀ρ ro h,bH.ok ρ ro h->Good F ρ) {g:FuncId} {j:Nat} {c:CS} {lj:List RK} {ej:List dN} {ko:Nat} (mJ:mF ko ej=true) (E?:ko<=900) (hom:ej.length=c.dw.length)
 (hs:adM P GB g c lj ej ko (F j)) (jw: ∀(args:Array Value) (w:World),(callFunc g args).run P w= .ok (.enter g args) w):ik P g (Yu j c lj ej ko):=by
 intro amP s E w vals v s' r hv hp Y;unfold Yu at Y;split at Y
 ·rename_i jf;simp only [an] at jf;obtain⟨⟨_,Ox⟩,ur⟩:=jf;have hlen:=w9 c ⟨cq amP 0 .nil,s.h,s.pc⟩;generalize hr:c.kX ⟨cq amP 0 .nil,s.h,s.pc⟩ = rn at Y Ox ur hlen
  have f0:Fit E ⟨cq amP 0 .nil,s.h,s.pc⟩ { tmps:=vals.toArray,defers:=[] } w:=by refine⟨r,?_,hp⟩;have:=ze hv 0;simpa using this
  obtain⟨hle,f1,ho⟩:=zA NW f0 Ox;obtain⟨fI,fu,q1⟩:=cC hp Y;split at q1
  ·rename_i ht;have hg:=LH _ _ _ r.iY;have hg1:=(hg j (rn.ns.map (V.den E.ρ))).1;have hg2:=(hg j (rn.ns.map (V.den E.ρ))).2;simp only [SB.den,V.den,je,hg1,beq_iff_eq] at ht
   have BN:(F j (rn.ns.map (V.den E.ρ))).isSome=true:=by
    cases hh:(F j (rn.ns.map (V.den E.ρ))).isSome with
    |true=>rfl
    |false=>rw [hh] at ht; simp at ht
   obtain⟨ys,Hd⟩:=ant.1 BN
   have Ud:(V.ap (2*j+1) (fV rn.ns)).den E.ρ=mb ys:=by show E.ρ _=_;rw [je,hg2,Hd];rfl
   have:=bD q1;simp only [ak] at this;obtain⟨rfl,rfl⟩:=this;refine⟨rfl,fu,?_⟩;unfold jD lI;rw [jw]
   have mP: ∀i x,(rn.ns.map (V.den E.ρ))[i]?=some x->(E.gL rn).ρ i=x:=by intro i x hi;rw [bp,aQ] at hi;obtain⟨e,he,rfl⟩:=hi;show rn.env E.ρ i=_;unfold Ren.env;rw [de,he]
   refine Calls.mono (hs _ ys Hd (E.gL rn) w vals mP (by simpa using hlen) f1.x (LI _ _ _ f1.rel.iY)) fun e w' ⟨u,he,hb,me,k1,k2,k3,k4,k5,k6⟩=> ⟨u,he,?_⟩;have sU:=Ox;unfold CS.fits at sU;simp only [an] at sU;obtain⟨⟨⟨⟨⟨_,nk⟩,afB⟩,_⟩,aft⟩,_⟩:=sU;have nk:=aq nk
   have Ub: ∀i,rn.uf i=0:=by
    intro i;unfold Ren.uf;split
    ·rename_i x hx;rw [de] at hx;unfold GQ at ur;rw [aZ] at ur;exact aq (ur x (amQ hx))
    ·rfl
   have s5: ∀i,i<c.dw.length->∃o,s.h.get (rn.id i)=some o:=by intro i hi;obtain⟨o',g1,_⟩:=iL aft (aO hi);rw [aA] at g1;exact⟨o',g1⟩
   have LG: ∀a b,a<c.dw.length->b<c.dw.length->rn.id a=rn.id b->a=b:=by
    intro a b ha hb he;have hla:a<rn.bl.length:=J
    have hlb:b<rn.bl.length:=J
    unfold Ren.id at he;rw [de,de,aO hla,aO hlb] at he;simp only at he;exact oO afB (i:=a) (j:=b) (x:=rn.bl[a]) (by rw [de,aO hla]) (by rw [de,aO hlb,he])
   generalize hR:(⟨QB (.ap (2*j+1) (fV rn.ns)) ko,rn.bl,[]⟩ : Ren)=R;have Je: ∀i,R.id i=rn.id i:=by intro i; rw [<- hR]; rfl
   have hRl:R.ns.length=ko:=by rw [<- hR]; simp [QB]
   obtain⟨p1,p2,p3,p4⟩:=xu (r:=R) (os:=ej) (i:=0) (h:=s.h) fun a b _ Z _ h4 he=>by rw [Je,Je] at he;exact LG a b J J he
   have hfp: ∀b,(ma.mk w (E.gL rn).ro c.dw.length (E.gL rn).θ (E.gL rn).κ).fp b->∃id o,s.h.get id=some o/\(E.θ id).1=b:=by rintro b ⟨i,hi,he⟩;obtain⟨o,U⟩:=s5 i hi;exact⟨_,o,U,he⟩
   have aas: ∀b,E.ro b->w'.heap[b]?=w.heap[b]?:=by intro b Jd;refine hb.jX b (r.qt b Jd) fun hf=>?_;obtain⟨id,o,U,Z⟩:=hfp b hf;exact (r.live id o U).2.2 (by rw [Z]; exact Jd)
   have tQ:fy E w.heap { E with ro:=me } w'.heap:=⟨rfl,fun _ h=>h,fun _ _=>rfl,fun _ _=>rfl,k1,aas⟩
   have Oo: ∀id o,(j5 R ej 0 s.h).get id=some o->∃o',s.h.get id=some o':=by
    intro id o hg;by_cases hex: ∃k,k<ej.length/\R.id (0+k)=id
    ·obtain⟨k,hk,rfl⟩:=hex;rw [aA,Je];exact s5 k J
    ·rw [p2 id fun k hk he=>hex ⟨k,hk,he⟩] at hg;exact⟨o,hg⟩
   have qR:eU E s.h w { E with ro:=me } (j5 R ej 0 s.h) w':=by
    refine⟨rfl,fun _ h=>h,fun _ _=>rfl,fun _ _=>rfl,k1,fun b Jd=>(k2 b Jd).imp id .inr,by rw [p3]; exact au _,by rw [p4]; exact .inr rfl,fun _ h=> .inl h,hb.os,hb.tape,hb.output,hb.size,fun b nk hn=>hb.jX b nk fun hf=>?_,fun id o hg _=>?_,rfl⟩
    ·obtain⟨id,o,U,Z⟩:=hfp b hf;exact hn id o U Z
    ·obtain⟨o',U⟩:=Oo id o hg;exact⟨id,o',U,rfl⟩
   have RN: ∀i,i<ko->R.env E.ρ i=low ys i:=by
    intro i hi;unfold Ren.env low
    have hn:eZ R.ns i=some (ox (.ap (2*j+1) (fV rn.ns)) i):=by rw [<- hR,de];simp [QB,hi]
    rw [hn];simp only;rw [aoj];simp only [ox,V.den,e9.den,bB];have ajr:(V.ap (2*j+1) (fV rn.ns)).den E.ρ=mb ys:=Ud;simp only [V.den] at ajr;rw [ajr];simp only [mb,bB,D.hd,bJ,bp];cases ys[i]?<;>rfl
   have r2:bO { E with ro:=me } (j5 R ej 0 s.h) w':=by
    refine⟨fun id hid=>r.fresh id (by rw [<- p3]; exact hid),fun q hq=>by rw [p3]; exact r.res q (by rw [<- p4]; exact hq),fun id o hg=>?_,fun i1 i2 o1 o2 U Z he=>?_,k3,bH.keep r.iY k1 aas,r.Ug qR.hd qR.size qR.ru qR.own⟩
    ·by_cases hex: ∃k,k<ej.length/\R.id (0+k)=id
     ·obtain⟨k,hk,rfl⟩:=hex;rw [aA];have hx:=aO hk;have:=p1 k _ hx;rw [hg] at this;simp only [ah] at this;subst this;obtain⟨o',U⟩:=s5 k J;obtain⟨d1,d2,d3⟩:=r.live _ _ U;refine⟨by rw [Je]; exact d1,?_,?_⟩
      ·have ho2:=k5 k _ hx
       have ho3:=OR.low (K:=ko) (E:=(ma.mk w (E.gL rn).ro c.dw.length (E.gL rn).θ (E.gL rn).κ).out ys me) (E':={ ρ:=R.env E.ρ,θ:=(E.gL rn).θ,κ:=(E.gL rn).κ,dm:=fun i=>i<c.dw.length,ro:=me })
        (fun i hi=>RN i hi) rfl rfl rfl rfl (mE mJ hx).2 ho2
       refine OR.back (Eo:={ ρ:=R.env E.ρ,θ:=(E.gL rn).θ,κ:=(E.gL rn).κ,dm:=fun i=>i<c.dw.length,ro:=me }) (E2:={ E with ro:=me }) (r:=R) (by rw [hRl]; exact E?) (by rw [<- hR]) rfl (fun i hi=>?_) rfl (mE mJ hx).1 (show k<c.dw.length by omega) ho3;obtain⟨o2,Z⟩:=s5 i hi;refine⟨by rw [Je]; exact (r.live _ _ Z).1,?_,?_⟩
       ·show E.θ (R.id i)=((E.θ (rn.id i)).1,(E.θ (rn.id i)).2+rn.uf i);rw [Je,Ub,bj]
       ·show E.κ (R.id i)=E.κ (rn.id i)-rn.uf i;rw [Je,Ub,aoJ]
      ·rw [Je];exact k4 k (by show k<c.dw.length; omega)
     ·rw [p2 id fun k hk he=>hex ⟨k,hk,he⟩] at hg;obtain⟨d1,d2,d3⟩:=r.live id o hg
      have LL:w'.heap[(E.θ id).1]?=w.heap[(E.θ id).1]?:=by refine hb.jX _ (fq r hg) ?_;rintro⟨i,hi,he⟩;obtain⟨o',U⟩:=s5 i hi;have:=r.inj _ id o' o U hg he;exact hex ⟨i,by show i<ej.length; rw [hom]; exact hi,by rw [aA,Je]; exact this⟩
      refine⟨d1,d2.keep tQ d1 LL (r.Uj rfl (fun x hx hn=>hb.jX x hx fun hf=>by obtain⟨id,o,U,Z⟩:=hfp x hf; exact hn id o U Z) _),fun hr=>?_⟩;rcases k2 _ hr with hr|hr
      ·exact d3 hr
      ·have ff:(E.θ id).1<w.heap.size:=fq r hg;have Ow:w.heap.size<=(E.θ id).1:=hr;omega
    ·obtain⟨a1,b1⟩:=Oo _ _ U;obtain⟨a2,b2⟩:=Oo _ _ Z;exact r.inj _ _ _ _ b1 b2 he
   refine⟨{ E with ro:=me },qR,r2,?_⟩;obtain⟨us,fl',sh',c1,rfl⟩:=k6
   have Rw:ct { E with ro:=me } w'.heap (px lj (ox (.ap (2*j+1) (fV rn.ns))) ko) us:=by refine rQ sh' c1 fun k n hk=>?_;rw [anp] at hk;exact vM (ys:=ys) Ud hk
   have:=CA Rw;unfold AH at this;exact this
  ·simp [T.leaf] at q1
 ·simp [T.leaf] at Y
theorem BS (s:St): ∀(gh:List (Nat×Nat)) (ns:List V),(YR s gh ns).length=ns.length
 |[],_=>rfl
 |_::_,[]=>rfl
 |(t,c)::l,_::ns=>by simp only [YR,aM,BS s l ns]
theorem YP {g n:V} {ρ:Nat->Int} {s:St} {k:St->T (W×St)} {r:W×St} (hp:bV ρ s.pc) (h:(YQ g n s k).leaf ρ=some r): ∃pc,bV ρ pc/\(k { s with pc:=pc }).leaf ρ=some r:=by
 unfold YQ at h;obtain⟨fI,fu,U⟩:=cC hp h;split at U
 ·grind
 ·obtain⟨jG,jy,Z⟩:=cC (s:={ s with pc:=fI }) fu U
  grind [T.leaf]
theorem afO {q:V} {ig:Nat} {ns:List V} {g:Option V} {c:CS} {bl:List Nat} {ρ:Nat->Int} {s:St} {k:St->T (W×St)} {r:W×St} (hp:bV ρ s.pc) (h:(ghT q ig ns g c bl s k).leaf ρ=some r): ∃pc,bV ρ pc/\(k { s with pc:=pc }).leaf ρ=some r:=by
 unfold ghT at h;split at h
 ·exact⟨s.pc,hp,h⟩
 ·split at h
  ·exact⟨s.pc,hp,h⟩
  ·split at h
   ·exact⟨s.pc,hp,h⟩
   ·split at h
    ·exact YP hp h
    ·exact⟨s.pc,hp,h⟩
theorem SJ {q:V} {ig:Nat} {ns:List V} {g:Option V} {bl:List Nat} {ρ:Nat->Int} {v:W} {s':St}: ∀{l:List CS} {k:Nat} {s:St},bV ρ s.pc->(s_ q ig ns g bl l k s).leaf ρ=some (v,s')->
 ∃i c ec,l[i-k]?=some c/\k<=i/\(ox q 0).den ρ=(i:Int)/\bV ρ ec/\v=AH ((ri q ig ns c bl s).Co (c.bF.map fun p=>p.2))/\s'= { s with h:=⟨(j5 (ri q ig ns c bl s) c.dw 0 s.h).m,s.h.next+(c.dw.length-bl.length),s.h.res⟩,pc:=ec }
 |[],k,s,_,h=>by simp [s_,T.leaf] at h
 |c::l,k,s,hp,h=>by
  simp only [s_] at h;obtain⟨ec,fB,U⟩:=cC hp h;split at U
  ·rename_i hb;rw [gG,beq_iff_eq] at hb;obtain⟨jG,jy,Z⟩:=afO (s:={ s with pc:=ec }) fB U;have:=bD Z;simp only [ak] at this;exact⟨k,c,jG,ad,au _,hb,jy,this.1.symm,this.2.symm⟩
  ·obtain⟨i,c',jG,q1,q2,q3,q4,q5,q6⟩:=SJ (s:={ s with pc:=ec }) fB U;refine⟨i,c',jG,?_,J,q3,q4,q5,q6⟩
   grind
def xF:List (Nat×W)->Nat->Bool
 |[],_=>true
 |(t,_)::l,i=>Nat.beq t i&&xF l (i+1)
theorem Bt: ∀{l:List (Nat×W)} {i t:Nat} {tr:Tr W},xF l i=true->t<i->(nw l tr).get t=tr.get t
 |[],_,_,_,_,_=>rfl
 |(j,v)::l,i,t,tr,h,ht=>by simp only [xF,an] at h;have hj:=aq h.1;simp only [nw];rw [Bt h.2 J,Tr.bQ,af J]
theorem yu: ∀{l:List (Nat×W)} {i:Nat} {tr:Tr W},xF l i=true->∀k v,(l.map fun p=>p.2)[k]?=some v->(nw l tr).get (i+k)=some v
 |[],_,_,_,k,v,hk=>by simp at hk
 |(j,x)::l,i,tr,h,k,v,hk=>by
  simp only [xF,an] at h;have hj:=aq h.1;subst hj;simp only [nw]
  cases k with
  |zero=>
   grind [Bt,Tr.bQ]
  |succ k=>
   have:=yu (tr:=tr.put j (some x)) h.2 k v (by simpa using hk)
   grind
theorem ct.of {E:En} {h:Array Obj}: ∀{vs:List W} {us:List Value},us.length=vs.length->(∀(k:Nat) (v:W),vs[k]?=some v->∃u,us[k]?=some u/\VR E h v u)->ct E h vs us
 |[],us,Y,_=>by rw [fQ]; exact amT Y
 |v::vs,[],Y,_=>by simp at Y
 |v::vs,u::us,Y,hh=>by
  rw [bP];refine⟨u,us,rfl,?_,ct.of (by simpa using Y) fun k x hk=>?_⟩
  ·obtain⟨y,U,Z⟩:=hh 0 v rfl
   grind
  ·exact hh (k+1) x (by simpa using hk)
def adL (P:Program) (GB:(Nat->Prop)->Array Obj->Prop) (g:FuncId) (c:CS) (oy:List CS) (f:List Int->Option (List Int)):Prop:=
 ∀xs ys,f xs=some ys->∀(E:En) (w:World) (vals:List Value),(∀i x,xs[i]?=some x->E.ρ i=x)->xs.length=c.k->vE E c.st { tmps:=vals.toArray,defers:=[] } w->GB E.ro w.heap->
  Calls P g vals.toArray w (QR ⟨w,E.ro,c.dw.length,E.θ,E.κ⟩ oy ys)
def Gv:List CS->Bool
 |[]=>true
 |c::l=>vw c.k c&&xF c.bF 0&&Nat.ble c.k 900&&(nfs c.dw&&Gv l)
theorem Gu: ∀{l:List CS},Gv l=true->∀{i:Nat} {c:CS},l[i]?=some c->vw c.k c=true/\xF c.bF 0=true/\c.k<=900/\nfs c.dw=true
 |[],_,i,c,h=>by simp at h
 |c0::l,hs,i,c,h=>by
  simp only [Gv,an] at hs
  cases i with
  |zero=>simp at h; subst h; exact⟨hs.1.1.1,hs.1.1.2,am9 hs.1.2,hs.2.1⟩
  |succ i=>exact Gu hs.2.2 (by simpa using h)
theorem Lz [bH] {GB:(Nat->Prop)->Array Obj->Prop} (LI: ∀ρ ro h,bH.ok ρ ro h->GB ro h) {F:oa} (LH: ∀ρ ro h,bH.ok ρ ro h->Good F ρ) {g:FuncId} {j:Nat} {c:CS} {gh:List (Nat×Nat)} {ig:Nat} {oy:List CS} (hrp:Gv oy=true) (alK: ∀xs ys,F j xs=some ys->∀a y,a<ig->ys[a+1]?=some y->y=low xs a)
 (hs:adL P GB g c oy (F j)) (jw: ∀(args:Array Value) (w:World),(callFunc g args).run P w= .ok (.enter g args) w):ik P g (RC j ig c gh oy):=by
 intro amP s E w vals v s' r hv hp Y;unfold RC at Y;split at Y
 ·rename_i jf;simp only [an] at jf;obtain⟨⟨_,Ox⟩,ur⟩:=jf;have hlen:=w9 c ⟨cq amP 0 .nil,s.h,s.pc⟩
  have Hg:(F_ s gh (c.kX ⟨cq amP 0 .nil,s.h,s.pc⟩)).ns.length=c.k:=by show (YR s gh _).length=c.k;rw [BS,hlen]
  generalize hr:F_ s gh (c.kX ⟨cq amP 0 .nil,s.h,s.pc⟩)=rn at Y Ox Hg ur
  have f0:Fit E ⟨cq amP 0 .nil,s.h,s.pc⟩ { tmps:=vals.toArray,defers:=[] } w:=by refine⟨r,?_,hp⟩;have:=ze hv 0;simpa using this
  obtain⟨hle,f1,ho⟩:=zA NW f0 Ox;obtain⟨fI,fu,q1⟩:=cC hp Y;split at q1
  ·rename_i ht;have hg:=LH _ _ _ r.iY;have hg1:=(hg j (rn.ns.map (V.den E.ρ))).1;have hg2:=(hg j (rn.ns.map (V.den E.ρ))).2;simp only [SB.den,V.den,je,hg1,beq_iff_eq] at ht
   have BN:(F j (rn.ns.map (V.den E.ρ))).isSome=true:=by
    cases hh:(F j (rn.ns.map (V.den E.ρ))).isSome with
    |true=>rfl
    |false=>rw [hh] at ht; simp at ht
   obtain⟨ys,Hd⟩:=ant.1 BN
   have Ud:(V.ap (2*j+1) (fV rn.ns)).den E.ρ=mb ys:=by show E.ρ _=_;rw [je,hg2,Hd];rfl
   obtain⟨i,c',jG,a1,_,a3,a4,rfl,rfl⟩:=SJ (s:={ s with pc:=fI }) fu q1;rw [aoJ] at a1;refine⟨rfl,a4,?_⟩;unfold jD lI;rw [jw]
   have mP: ∀i x,(rn.ns.map (V.den E.ρ))[i]?=some x->(E.gL rn).ρ i=x:=by intro i x hi;rw [bp,aQ] at hi;obtain⟨e,he,rfl⟩:=hi;show rn.env E.ρ i=_;unfold Ren.env;rw [de,he]
   refine Calls.mono (hs _ ys Hd (E.gL rn) w vals mP (by simpa using Hg) f1.x (LI _ _ _ f1.rel.iY)) fun e w' ⟨us,i2,c2,E',he,hb,b1,b2,b3,b4,b5,b6,b7,b8,abc,b9⟩=> ⟨Ty us,he,?_⟩
   have hi:i2=i:=by have:=vM Ud b2;rw [a3] at this;omega
   subst hi;rw [b1] at a1;simp only [ah] at a1;subst a1;obtain⟨k1,k2,k3,k9⟩:=Gu hrp b1;have sU:=Ox;unfold CS.fits at sU;simp only [an] at sU;obtain⟨⟨⟨⟨⟨_,nk⟩,afB⟩,_⟩,aft⟩,_⟩:=sU;have nk:=aq nk
   have Ub: ∀i,rn.uf i=0:=by
    intro i;unfold Ren.uf;split
    ·rename_i x hx;rw [de] at hx;unfold GQ at ur;rw [aZ] at ur;exact aq (ur x (amQ hx))
    ·rfl
   have s5: ∀i,i<c.dw.length->∃o,s.h.get (rn.id i)=some o:=by intro i hi;obtain⟨o',g1,_⟩:=iL aft (aO hi);rw [aA] at g1;exact⟨o',g1⟩
   have LG: ∀a b,a<c.dw.length->b<c.dw.length->rn.id a=rn.id b->a=b:=by
    intro a b ha hb he;have hla:a<rn.bl.length:=J
    have hlb:b<rn.bl.length:=J
    unfold Ren.id at he;rw [de,de,aO hla,aO hlb] at he;simp only at he;exact oO afB (i:=a) (j:=b) (x:=rn.bl[a]) (by rw [de,aO hla]) (by rw [de,aO hlb,he])
   have Eh: ∀id,E.dm id->id<s.h.next:=by
    intro id hd;rcases aW id s.h.next with h|h
    ·exact h
    ·exact absurd hd (r.fresh id h)
   have Hh: ∀i,i<c.dw.length->rn.id i<s.h.next:=by intro i hi;obtain⟨o,U⟩:=s5 i hi;exact Eh _ (r.live _ _ U).1
   have hθr: ∀i,(E.gL rn).θ i=E.θ (rn.id i):=by intro i;show ((E.θ (rn.id i)).1,(E.θ (rn.id i)).2+rn.uf i)=_;rw [Ub,bj]
   have hκr: ∀i,(E.gL rn).κ i=E.κ (rn.id i):=by intro i;show E.κ (rn.id i)-rn.uf i=_;rw [Ub,aoJ]
   have hm2:c.dw.length<=c2.dw.length:=by
    rcases anD c.dw.length with h|h
    ·omega
    ·have:=(abc (c.dw.length-1) (by show c.dw.length-1<c.dw.length; omega)).1;omega
   have hfp: ∀b,(ma.mk w (E.gL rn).ro c.dw.length (E.gL rn).θ (E.gL rn).κ).fp b->∃id o,s.h.get id=some o/\(E.θ id).1=b:=by rintro b ⟨i,hi,he⟩;obtain⟨o,U⟩:=s5 i hi;refine⟨_,o,U,?_⟩;have yh:((E.gL rn).θ i).1=b:=he;rw [hθr] at yh;exact yh
   have aas: ∀b,E.ro b->w'.heap[b]?=w.heap[b]?:=by intro b Jd;refine hb.jX b (r.qt b Jd) fun hf=>?_;obtain⟨id,o,U,Z⟩:=hfp b hf;exact (r.live id o U).2.2 (by rw [Z]; exact Jd)
   generalize hR:ri (.ap (2*j+1) (fV rn.ns)) ig rn.ns c2 rn.bl { s with pc:=fI }=R
   have FU: ∀i,i<c.dw.length->R.id i=rn.id i:=by
    intro i hi;have hla:i<rn.bl.length:=J
    rw [<- hR];unfold ri Ren.id;simp only [de,bp,an4 (show i<c2.dw.length by omega),br,aO hla]
   have OA: ∀i,i<c2.dw.length->c.dw.length<=i->R.id i=s.h.next+(i-c.dw.length):=by
    intro i hi Ow;have hla:rn.bl.length<=i:=J
    rw [<- hR];unfold ri Ren.id;simp only [de,bp,an4 hi,br,anF hla];rw [nk]
   have ajP: ∀a b,a<c2.dw.length->b<c2.dw.length->R.id a=R.id b->a=b:=by
    intro a b ha hb he;rcases aW a c.dw.length with U|U<;>rcases aW b c.dw.length with Z|Z
    ·rw [FU a U,FU b Z] at he;exact LG a b U Z he
    ·rw [FU a U,OA b hb Z] at he;have:=Hh a U;omega
    ·rw [OA a ha U,FU b Z] at he;have:=Hh b Z;omega
    ·rw [OA a ha U,OA b hb Z] at he;omega
   have hRl:R.ns.length=c2.k:=by rw [<- hR]; simp [ri]
   have ajO:R.sh= []:=by rw [<- hR]; rfl
   have RN: ∀a,a<c2.k->R.env E.ρ a=E'.ρ a:=by
    intro a ha;unfold Ren.env
    have hn:eZ R.ns a=some (match Nat.blt a ig with |true=>(match eZ rn.ns a with |some e=>e|none=> .lit 0)|false=>ox (.ap (2*j+1) (fV rn.ns)) (a+1)):=by rw [<- hR,de];simp [ri,ha]
    rw [hn];simp only;have hy:ys[a+1]?=some ys[a+1]:=aO J;rw [b4 a _ hy];split
    ·rename_i hb;have ff:a<ig:=Nat.lt_of_succ_le (by simpa [Nat.blt] using hb);rw [alK _ _ Hd a _ ff hy];unfold low;rw [aoj,bp,de];cases rn.ns[a]?<;>rfl
    ·exact vM Ud hy
   have alJ: ∀id o,c2.st.h.get id=some o->id<c2.dw.length/\c2.dw[id]?=some o:=by
    intro id o ho;have:(og c2.dw 0 .nil).get id=some o:=ho;rw [jh] at this;split at this
    ·exact⟨J,this⟩
    ·simp [Tr.get] at this
   have Ef: ∀id o,c2.dw[id]?=some o->c2.st.h.get id=some o:=by intro id o ho;show (og c2.dw 0 .nil).get id=_;have ff:=(aX.1 ho).1;rw [jh,ag J];exact ho
   have ajD: ∀i,E'.dm i->i<c2.dw.length:=by
    intro i hd;rcases aW i c2.dw.length with h|h
    ·exact h
    ·exact absurd hd (b6.fresh i h)
   obtain⟨p1,p2,p3,p4⟩:=xu (r:=R) (os:=c2.dw) (i:=0) (h:=s.h) fun a b _ Z _ h4 he=>ajP a b J J he;generalize hH2:(⟨(j5 R c2.dw 0 s.h).m,s.h.next+(c2.dw.length-rn.bl.length),s.h.res⟩ : Hp)=H2;have ajR: ∀id,H2.get id=(j5 R c2.dw 0 s.h).get id:=by intro id; rw [<- hH2]; rfl
   have aay:H2.next=s.h.next+(c2.dw.length-c.dw.length):=by rw [<- hH2,nk]
   have ajQ:H2.res=s.h.res:=by rw [<- hH2]
   have afv: ∀k o,c2.dw[k]?=some o->H2.get (R.id k)=some (R.ob o):=by intro k o hk;have:=p1 k o hk;rw [aA] at this;rw [ajR]; exact this
   have hold: ∀id,(∀k,k<c2.dw.length->R.id k≠id)->H2.get id=s.h.get id:=by intro id hid;rw [ajR];exact p2 id fun k hk he=>by rw [aA] at he; exact hid k hk he
   have nQ: ∀id o,H2.get id=some o->(∃k o',id=R.id k/\c2.dw[k]?=some o'/\o=R.ob o')\/(s.h.get id=some o/\∀k,k<c2.dw.length->R.id k≠id):=by
    intro id o hg;by_cases hex: ∃k,k<c2.dw.length/\R.id k=id
    ·obtain⟨k,hk,rfl⟩:=hex;have hx:=aO hk;have:=afv k _ hx;rw [hg] at this;simp only [ah] at this;exact .inl ⟨k,_,rfl,hx,this⟩
    ·have fJ: ∀k,k<c2.dw.length->R.id k≠id:=fun k hk he=>hex ⟨k,hk,he⟩;rw [hold id fJ] at hg;exact .inr ⟨hg,fJ⟩
   let E2:En:={ ρ:=E.ρ,θ:=fun id=>if id<s.h.next then E.θ id else E'.θ (id-s.h.next+c.dw.length),κ:=fun id=>if id<s.h.next then E.κ id else E'.κ (id-s.h.next+c.dw.length),dm:=fun id=>E.dm id\/(s.h.next<=id/\id<s.h.next+(c2.dw.length-c.dw.length)),ro:=E'.ro,hd:=E.hd };have hθo: ∀id,id<s.h.next->E2.θ id=E.θ id:=fun id h=>by show (if id<s.h.next then _ else _)=_; rw [ag h]
   have hκo: ∀id,id<s.h.next->E2.κ id=E.κ id:=fun id h=>by show (if id<s.h.next then _ else _)=_; rw [ag h]
   have hθn: ∀k,k<c2.dw.length->E2.θ (R.id k)=E'.θ k:=by
    intro k hk;rcases aW k c.dw.length with h|h
    ·rw [FU k h,hθo _ (Hh k h),<- hθr,(abc k h).2.2.1]
    ·rw [OA k hk h];show (if s.h.next+(k-c.dw.length)<s.h.next then _ else _)=_;rw [af J,an3,Nat.sub_add_cancel h]
   have hκn: ∀k,k<c2.dw.length->E2.κ (R.id k)=E'.κ k:=by
    intro k hk;rcases aW k c.dw.length with h|h
    ·rw [FU k h,hκo _ (Hh k h),<- hκr,(abc k h).2.2.2]
    ·rw [OA k hk h];show (if s.h.next+(k-c.dw.length)<s.h.next then _ else _)=_;rw [af J,an3,Nat.sub_add_cancel h]
   have ajF: ∀k,k<c2.dw.length->E2.dm (R.id k):=by
    intro k hk;rcases aW k c.dw.length with h|h
    ·obtain⟨o,U⟩:=s5 k h;rw [FU k h];exact .inl (r.live _ _ U).1
    ·rw [OA k hk h];exact .inr ⟨J,J⟩
   have tQ:fy E w.heap E2 w'.heap:=⟨rfl,fun _ h=> .inl h,fun id h=>hθo id (Eh id h),fun id h=>hκo id (Eh id h),b7,aas⟩
   have Yy: ∀i,E'.dm i->E2.dm (R.id i)/\E2.θ (R.id i)=E'.θ i/\E2.κ (R.id i)=E'.κ i:=by intro i hd;have hi:=ajD i hd;exact⟨ajF i hi,hθn i hi,hκn i hi⟩
   unfold vw at k1;simp only [an] at k1;obtain⟨⟨ks,ko⟩,_⟩:=k1
   have qR:eU E s.h w E2 H2 w':=by
    refine⟨rfl,fun _ h=> .inl h,fun id h=>hθo id (Eh id h),fun id h=>hκo id (Eh id h),b7,fun b Jd=>(b8 b Jd).imp id .inr,by rw [aay]; omega,by rw [ajQ]; exact .inr rfl,fun id h=>?_,hb.os,hb.tape,hb.output,hb.size,fun b afD hn=>hb.jX b afD fun hf=>?_,fun id o hg ff=>?_,rfl⟩
    ·rcases h with h|h
     ·exact .inl h
     ·exact .inr (.inl ⟨h.1,by rw [aay]; exact h.2⟩)
    ·obtain⟨id,o,U,Z⟩:=hfp b hf;exact hn id o U Z
    ·rcases nQ id o hg with ⟨k,o',rfl,hk,_⟩|⟨U,_⟩
     ·have Ja:=(aX.1 hk).1;rcases aW k c.dw.length with h|h
      ·obtain⟨o2,Z⟩:=s5 k h;exact⟨_,o2,Z,by rw [FU k h,hθo _ (Hh k h)]⟩
      ·rw [hθn k Ja] at ff;have hh:w.heap.size<=(E'.θ k).1:=b9 k o' (Ef k o' hk) h;omega
     ·exact⟨id,o,U,(by rw [hθo id (Eh id (r.live _ _ U).1)])⟩
   have r2:bO E2 H2 w':=by
    refine⟨fun id hid=>?_,fun q hq=>?_,fun id o hg=>?_,fun i1 i2 o1 o2 U Z he=>?_,b6.qt,bH.keep r.iY b7 tQ.Bx,r.Ug qR.hd qR.size qR.ru qR.own⟩
    ·rw [aay] at hid;rintro (h|h)
     ·exact r.fresh id J h
     ·omega
    ·rw [ajQ] at hq;obtain⟨g1,g2⟩:=r.res q hq;refine⟨by rw [aay]; omega,?_⟩;rintro (h|h)
     ·exact g2 h
     ·omega
    ·rcases nQ id o hg with ⟨k,o',rfl,hk,rfl⟩|⟨Z,fJ⟩
     ·have Ja:=(aX.1 hk).1;obtain⟨g1,g2,g3⟩:=b6.live k o' (Ef k o' hk);refine⟨ajF k Ja,?_,by rw [hθn k Ja]; exact g3⟩;have ho3:=OR.low (K:=c2.k) (E:=E') (E':={ E' with ρ:=R.env E.ρ }) (fun a ha=>RN a ha) rfl rfl rfl rfl (uP ko hk) g2;exact OR.back (Eo:={ E' with ρ:=R.env E.ρ }) (E2:=E2) (r:=R) (by rw [hRl]; exact k3) ajO rfl (fun i hd=>Yy i hd) rfl (id:=k) (IL k9 hk) g1 ho3
     ·obtain⟨g1,g2,g3⟩:=r.live id o Z;have U:=Eh id g1;refine⟨.inl g1,g2.keep tQ g1 (hb.jX _ (fq r Z) ?_) (r.Uj rfl (fun x hx hn=>hb.jX x hx fun hf=>by obtain⟨id,o,U,Z⟩:=hfp x hf; exact hn id o U Z) _),?_⟩
      ·rintro⟨i,hi,he⟩;obtain⟨o',h3⟩:=s5 i hi;have yh:((E.gL rn).θ i).1=(E.θ id).1:=he;rw [hθr] at yh;have:=r.inj _ id o' o h3 Z yh;have hi':i<c.dw.length:=hi;exact fJ i J (by rw [FU i hi']; exact this)
      ·rw [hθo id U];intro hr;rcases b8 _ hr with hr|hr
       ·exact g3 hr
       ·have ff:(E.θ id).1<w.heap.size:=fq r Z;have Ow:w.heap.size<=(E.θ id).1:=hr;omega
    ·have mix: ∀(k:Nat) (o':dN) (id:Nat) (o:dN),c2.dw[k]?=some o'->s.h.get id=some o->(∀k,k<c2.dw.length->R.id k≠id)->(E'.θ k).1=(E.θ id).1->False:=by
      intro k o' id o hk Z fJ he;have Ja:=(aX.1 hk).1;rcases aW k c.dw.length with h|h
      ·obtain⟨o3,h3⟩:=s5 k h;have hb3:E'.θ k=(E.gL rn).θ k:=(abc k h).2.2.1;rw [hb3,hθr] at he;have:=r.inj _ id o3 o h3 Z he;exact fJ k Ja (by rw [FU k h]; exact this)
      ·have h3:=fq r Z;have h4:w.heap.size<=(E'.θ k).1:=b9 k o' (Ef k o' hk) h;omega
     rcases nQ i1 o1 U with ⟨m1,y1,rfl,z1,_⟩|⟨x2,x3⟩
     ·have hm1:=(aX.1 z1).1;rcases nQ i2 o2 Z with ⟨m2,y2,rfl,z2,_⟩|⟨x4,x5⟩
      ·have hm2:=(aX.1 z2).1;rw [hθn m1 hm1,hθn m2 hm2] at he;have:=b6.inj _ _ _ _ (Ef m1 y1 z1) (Ef m2 y2 z2) he;rw [this]
      ·rw [hθn m1 hm1,hθo _ (Eh _ (r.live _ _ x4).1)] at he;exact (mix m1 y1 i2 o2 z1 x4 x5 he).elim
     ·rcases nQ i2 o2 Z with ⟨m2,y2,rfl,z2,_⟩|⟨x4,x5⟩
      ·have hm2:=(aX.1 z2).1;rw [hθn m2 hm2,hθo _ (Eh _ (r.live _ _ x2).1)] at he;exact (mix m2 y2 i1 o1 z2 x2 x3 he.symm).elim
      ·rw [hθo _ (Eh _ (r.live _ _ x2).1),hθo _ (Eh _ (r.live _ _ x4).1)] at he;exact r.inj _ _ _ _ x2 x4 he
   refine⟨E2,qR,r2,?_⟩
   have He:ct E' w'.heap (c2.bF.map fun p=>p.2) us:=by refine ct.of (by rw [b5]; simp) fun k x hk=>?_;have:=yu (tr:=.nil) k2 k x hk;rw [aA] at this;obtain⟨u,U,Z⟩:=b6.sr k x this;exact⟨u,by simpa using U,Z⟩
   have ajA:lR c2.k (c2.bF.map fun p=>p.2)=true:=by
    have: ∀{l:List (Nat×W)},rG c2.k l=true->lR c2.k (l.map fun p=>p.2)=true:=by
     intro l
     induction l with
     |nil=>intro _; rfl
     |cons p l ih=> intro h;simp only [rG,an] at h;simp only [aw,lR,an];exact⟨h.1,ih h.2⟩
    exact this ks
   have alm:=ct.low (K:=c2.k) (E:=E') (E':={ E' with ρ:=R.env E.ρ }) (fun a ha=>RN a ha) rfl rfl rfl rfl _ _ ajA He;have alk:=ct.back (Eo:={ E' with ρ:=R.env E.ρ }) (E2:=E2) (r:=R) (by rw [hRl]; exact k3) ajO rfl (fun i hd=>Yy i hd) rfl _ _ alm;exact CA alk
  ·simp [T.leaf] at q1
 ·simp [T.leaf] at Y
end
end Go.As
end
section
namespace Go.As
open Go.RowKit
structure MO where
 ok:(Nat->Prop)->Array Obj->Prop
 keep: ∀{ro me:Nat->Prop} {h h':Array Obj},ok ro h->(∀b,ro b->me b)->(∀b,ro b->h'[b]?=h[b]?)->ok me h'
@[reducible] def MO.iY (G:MO) (F:oa):bH where
 ok ρ ro h:=G.ok ro h/\Good F ρ
 keep U Z h3:=⟨G.keep U.1 Z h3,U.2⟩
 gL U Z:=⟨U.1,U.2.gL Z⟩
structure Am where
 g:Nat
 Fu:List RK
 lj:List RK
 fe:Cr
 pos:Option (List Nat×CS)
 pat:Option (CS×List dN×Nat):=none
 oy:List CS:=[]
 gh:List (Nat×Nat):=[]
 wh:List Nat:=[]
 ig:Nat:=0
 tst:List (Nat×Nat):=[]
 fz:List (Nat×Nat×Nat):=[]
 Va:List FH:=[]
def Am.ej (e:Am):List dN:=match e.pat with
 |none=>[]
 |some (_,o,_)=>o
def Am.ko (e:Am):Nat:=match e.pat with
 |none=>0
 |some (_,_,k)=>k
structure Sys where
 P:Program
 G:MO
 tt:TT
 ft:Nat->Option Func
 qO:Nat->Nat->List Oper->Bool
 draw:eu->Nat->Nat->List Oper->St->T St
 w7:Nat->Option (List W->St->T (W×St))
 lf:Nat
 depth:Nat
 Cg:Nat->List Nat
 bK:Nat->Option Am
noncomputable section
def Y! (c:CS) (args:List W) (s:St):Bool:=match quick (cq args 0 .nil) c.bF with
 |false=>false
 |true=>Nat.beq args.length c.bF.length&&c.fits C! ⟨cq args 0 .nil,s.h,s.pc⟩ (c.kX ⟨cq args 0 .nil,s.h,s.pc⟩)&&GQ (c.kX ⟨cq args 0 .nil,s.h,s.pc⟩)
def PR (s:St):List Nat->Bool
 |[]=>true
 |t::l=>match Nat.ble 1000 t with
  |true=>match s.bF.get (t-1000) with
   |some _=>PR s l
   |none=>false
  |false=>match s.bF.get t with
   |some _=>false
   |none=>PR s l
def ajT (s:St):List (Nat×Nat)->Bool
 |[]=>true
 |(t,_)::l=>match s.bF.get t with
  |some _=>ajT s l
  |none=>false
def K1 (c:CS) (gh:List (Nat×Nat)) (wh:List Nat) (args:List W) (s:St):Bool:=match quick (cq args 0 .nil) c.bF with
 |false=>false
 |true=>PR s wh&&ajT s gh&&Nat.beq args.length c.bF.length&&c.fits C! ⟨cq args 0 .nil,s.h,s.pc⟩ (F_ s gh (c.kX ⟨cq args 0 .nil,s.h,s.pc⟩))&&GQ (F_ s gh (c.kX ⟨cq args 0 .nil,s.h,s.pc⟩))
def Jg:Nat->List W->Nat->List (Nat×Nat×Nat)
 |_,[],_=>[]
 |i,v::l,f=>match v with
  | .ei _ t=>(i,f,t)::Jg i l (f+1)
  |_=>Jg i l (f+1)
def CT:List (Nat×W)->List (Nat×Nat×Nat)
 |[]=>[]
 |(i,v)::l=>match v with
  | .agg cs=>Jg i cs 0++CT l
  |_=>CT l
def akF (args:List W) (p:Nat×Nat×Nat):Bool:=match eZ args p.1 with
 |some v=>match v with
  | .agg xs=>match eZ xs p.2.1 with
    |some _=>true
    |none=>false
  |_=>false
 |none=>false
def OD (s:St):List (Nat×Nat)->Bool
 |[]=>true
 |(t,c)::l=>match s.bF.get t with
  |some v=>match v with
   | .int _ _=>OD s l
   | .agg cs=>match eZ cs c with
     |some x=>match x with
      | .int _ _=>OD s l
      |_=>false
     |none=>false
   |_=>false
  |none=>false
def ajZ (c:CS) (gh:List (Nat×Nat)) (wh:List Nat) (args:List W) (s:St):Bool:=match gh with
 |[]=>false
 |_=>PR s wh&&OD s gh&&match CT c.bF with
  |[]=>false
  |fz=>fz.all (akF args)
def Sys.BO (S:Sys):List Nat->List W->St->T (W×St)
 |[],_,_=> .fail
 |j::l,args,s=>match S.bK j with
  |none=> .fail
  |some e=>match e.pat with
   |none=>Yw j e.Fu e.lj args s
   |some (c,ej,ko)=>match e.oy with
    |[]=>match Y! c args s with
     |true=>Yu j c e.lj ej ko args s
     |false=>S.BO l args s
    |r::rs=>match K1 c e.gh e.wh args s with
     |true=>RC j e.ig c e.gh (r::rs) args s
     |false=>match ajZ c e.gh e.wh args s with
      |true=>LV (CT c.bF) args s fun adJ s'=>match K1 c e.gh e.wh adJ s' with
       |true=>RC j e.ig c e.gh (r::rs) adJ s'
       |false=>S.BO l args s
      |false=>S.BO l args s
def Sys.hook (S:Sys) (g:Nat):Option (List W->St->T (W×St)):=match S.Cg g with
 |[]=>S.w7 g
 |j::l=>some (match S.w7 g with
  |none=>S.BO (j::l)
  |some h=>orElse h (S.BO (j::l)))
def Sys.call (S:Sys):eu:=FX S.tt S.ft S.hook S.draw S.lf S.depth
def Sys.cfg (S:Sys) (e:Am) (fn:Func):tI:=⟨S.tt,S.call,S.draw S.call e.g,S.lf,fn.results.toList,e.lj,e.ej,e.ko,e.oy,e.ig,e.fz,e.Va⟩
def nC (S:Sys) (e:Am):T Lf:=match S.ft e.g with
 |none=> .fail
 |some fn=>match fn.body with
  |none=> .fail
  |some body=>match e.pos with
   |none=>match e.pat with
    |none=>wJ (S.cfg e fn) e.fe 1000 [] body [] ⟨cq (px e.Fu .dG 0) 0 .nil,Hp.zero,[]⟩
    |some (c,_,_)=>wJ (S.cfg e fn) e.fe 1000 [] body [] c.st
   |some (p,c)=>match oK body p with
    |some (b,fr)=>match b with
     | .loop b=>Nj (fun s=>wJ (S.cfg e fn) e.fe 1000 (0::p) b (.loop p b::fr) s) e.tst c.st
     |_=> .fail
    |none=> .fail
def Sys.tree (S:Sys) (j:Nat):T Lf:=match S.bK j with
 |none=> .fail
 |some e=>nC S e
end
def O? (S:Sys) (e:Am) (body:Code):Prop:= ∀p l,e.fe p=some l->(∃b fr,oK body p=some (.loop b,fr))/\∀j c,(j,c)∈l->S.bK j=some { e with pos:=some (p,c) }/\vw c.k c=true/\c.k<=900/\e.ig<=c.k
structure Fw (S:Sys):Prop where
 tt:eC S.P S.tt
 ft:UY S.P S.qO S.ft
 draw: ∀(I:bH) call,@im I S.P call->∀g,@vF I S.P (S.qO g) (S.draw call g)
 w7: ∀(I:bH),(∀ρ ro h,I.ok ρ ro h->S.G.ok ro h)->∀g h,S.w7 g=some h->@ik I S.P g h
 run: ∀g j,j∈S.Cg g->∀(args:Array Value) (w:World),(callFunc g args).run S.P w= .ok (.enter g args) w
 num: ∀g j e,j∈S.Cg g->S.bK j=some e->e.g=g/\e.pos=none/\(match e.pat with
  |none=>(oG e.Fu).length<=900/\e.oy= []
  |some (c,ej,_)=>vw c.k c=true/\c.k<=900/\ej.length=c.dw.length/\(e.oy≠[]->Gv e.oy=true)/\nfs c.dw=true)
 outs: ∀j e,S.bK j=some e->mF e.ko e.ej=true/\e.ko<=900/\e.ig<=900
 bK: ∀j e,S.bK j=some e->∀fn body,S.ft e.g=some fn->fn.body=some body->O? S e body
section
variable {S:Sys}
def adN (S:Sys) (n:Nat):Prop:= ∀g j e,j∈S.Cg g->S.bK j=some e->match e.pat with
 |none=>t? S.P S.G.ok g e.Fu e.lj (eP S.tree n j)
 |some (c,ej,ko)=>match e.oy with
  |[]=>adM S.P S.G.ok g c e.lj ej ko (eP S.tree n j)
  |r::rs=>adL S.P S.G.ok g c (r::rs) (eP S.tree n j)
def adQ (S:Sys) (n:Nat):Prop:= ∀j e p c,S.bK j=some e->e.pos=some (p,c)->vw c.k c=true->c.k<=900->∀fn body b fr,S.ft e.g=some fn->fn.body=some body->oK body p=some (.loop b,fr)->
 ∀(B:ma) (E:En) (a:Act) (w:World) (xs ys:List Int),e.ej.length=B.m->eP S.tree n j xs=some ys->(∀i x,xs[i]?=some x->E.ρ i=x)->xs.length=c.k->kB B E c.st a w->S.G.ok E.ro w.heap->fn.ntmps<=a.tmps.size->a.defers= []->
  FA S.P b (KE S.P (bodyPost S.P fn (QX B e.lj e.ej e.ko e.oy ys)) fr) a w
def LfG (ig:Nat) (fe:Cr):Lf->Prop
 | .out es=> ∀a e,a<ig->es[a+1]?=some e->e= .dG a
 | .jump j es=>(∃p l c,fe p=some l/\(j,c)∈l/\es.length=c.k)/\∀a e,a<ig->es[a]?=some e->e= .dG a
theorem Ht: ∀{n i:Nat} {ns:List V} {a:Nat} {e:V},a<n->(BU n i ns)[a]?=some e->e= .dG (i+a)
 |0,_,_,a,_,h,_=>by omega
 |n+1,i,[],a,e,_,h=>by simp [BU] at h
 |n+1,i,x::ns,0,e,_,h=>by simp [BU] at h; rw [<- h]; rfl
 |n+1,i,x::ns,a+1,e,ha,h=>by
  simp only [BU,aK] at h;rw [Ht (n:=n) J h]
  grind
theorem L1 {ig:Nat} {r:Ren} {a:Nat} {e:V} (ha:a<ig) (h:(re ig r).ns[a]?=some e):e= .dG a:=by
 unfold re at h;split at h
 ·omega
 ·have:=Ht ha h
  grind
theorem Y7 {n m ig:Nat} {s:St} {ρ:Nat->Int} {lf:Lf} {fe:Cr} {l:List CS} {k:Nat} (h:(Mh n m ig s l k).leaf ρ=some lf):LfG ig fe lf:=by
 obtain⟨i,c,_,_,_,rfl,_⟩:=C2 h;intro a e ha he
 grind [L1]
theorem sO {m ig:Nat} {s:St} {ρ:Nat->Int} {lf:Lf} {fe:Cr} {p:List Nat} {l0:List (Nat×CS)} (hp:fe p=some l0): ∀{l:List (Nat×CS)},(∀x∈l,x∈l0)->(qY m ig s l).leaf ρ=some lf->LfG ig fe lf
 |[],_,h=>by simp [qY,T.leaf] at h
 |(j,c)::l,nO,h=>by
  simp only [qY] at h;split at h
  ·exact sO hp (fun x hx=>nO x (by simp [hx])) h
  ·split at h
   ·have:=bD h;subst this;exact⟨⟨p,l0,c,hp,nO _ ad,by rw [vh,s9]⟩,fun a e ha he=>L1 ha he⟩
   ·exact sO hp (fun x hx=>nO x (by simp [hx])) h
theorem qP {α:Type} {k:St->T α} {ρ:Nat->Int} {x:α}: ∀{ts:List Nat} {s:St},(vz k ts s).leaf ρ=some x->∃s',(k s').leaf ρ=some x
 |[],s,h=> ⟨s,h⟩
 |i::ts,s,h=>by
  simp only [vz] at h;split at h
  ·obtain⟨pc,b,U⟩:=iC h;exact qP U
  ·exact qP h
theorem Au {α:Type} {k:St->T α} {ρ:Nat->Int} {x:α}: ∀{ts:List (Nat×Nat)} {s:St},(Nj k ts s).leaf ρ=some x->∃s',(k s').leaf ρ=some x
 |[],s,h=> ⟨s,h⟩
 |(t,g)::ts,s,h=>by
  simp only [Nj] at h;split at h
  ·obtain⟨pc,b,U⟩:=iC h;exact Au U
  ·exact Au h
theorem Ho {α:Type} {ρ:Nat->Int} {v:W} {s:St} {k:W->St->T α} {x:α} (h:(OE v s k).leaf ρ=some x): ∃v s,(k v s).leaf ρ=some x:=by
 unfold OE at h;split at h
 ·split at h
  ·unfold xx at h;obtain⟨_,b1,h⟩:=iC h
   cases b1 with
   |true=>simp [T.leaf] at h
   |false=>
    obtain⟨_,b2,h⟩:=iC h
    cases b2 with
    |true=>simp [T.leaf] at h
    |false=>
     obtain⟨_,b3,h⟩:=iC h
     cases b3 with
     |true=>simp [T.leaf] at h
     |false=>exact⟨_,_,h⟩
  grind
 grind
theorem Ep {α:Type} {ρ:Nat->Int} {x:α}: ∀{vs:List W} {s:St} {k:List W->St->T α},(Hn vs s k).leaf ρ=some x->∃vs s,(k vs s).leaf ρ=some x
 |[],s,k,h=> ⟨_,_,h⟩
 |v::vs,s,k,h=>by
  simp only [Hn] at h;obtain⟨_,_,h⟩:=Ho h;obtain⟨_,_,h⟩:=Ep h
  grind
theorem DN {α:Type} {ρ:Nat->Int} {x:α} {t:Nat}: ∀{ov:List (V×List W)} {e:V} {s:St} {k:V->St->T α},(GI t ov e s k).leaf ρ=some x->∃e s,(k e s).leaf ρ=some x
 |[],e,s,k,h=> ⟨_,_,h⟩
 |(j,cs)::ov,e,s,k,h=>by
  simp only [GI] at h;obtain⟨_,_,h⟩:=DN h
  grind [Ep,T.leaf]
theorem Up {α:Type} {ρ:Nat->Int} {v:W} {s:St} {k:W->St->T α} {x:α} (h:(LU v s k).leaf ρ=some x): ∃v s,(k v s).leaf ρ=some x:=by
 grind [LU,DN,T.leaf,Ho]
theorem Hm {α:Type} {ρ:Nat->Int} {x:α} {k:List W->St->T α}: ∀{fz:List (Nat×Nat×Nat)} {vs:List W} {s:St},(LV fz vs s k).leaf ρ=some x->∃vs s,(k vs s).leaf ρ=some x
 |[],vs,s,h=> ⟨_,_,h⟩
 |(i,f,t)::l,vs,s,h=>by
  simp only [LV] at h;split at h
  ·split at h
   ·obtain⟨_,_,h⟩:=Up h;split at h
    ·exact Hm h
    grind [T.leaf]
   grind [T.leaf]
  grind [T.leaf]
theorem Y8 {g:tI} {fe:Cr} {e:Ex} {s:St} {ρ:Nat->Int} {lf:Lf} (hr:g.oy≠[]) (h:(Y9 g e s).leaf ρ=some lf):LfG g.ig fe lf:=by
 unfold Y9 at h
 grind [T.leaf,Hm,Y7]
theorem RT {g:tI} {fe:Cr} {ρ:Nat->Int} (hr:g.oy≠[]): ∀n:Nat,
 (∀p c fr s lf,(wJ g fe n p c fr s).leaf ρ=some lf->LfG g.ig fe lf)/\
 (∀fr e s lf,(tc g fe n fr e s).leaf ρ=some lf->LfG g.ig fe lf)
 |0=> ⟨fun _ _ _ _ _ h=>by simp [wJ,T.leaf] at h,fun _ _ _ _ h=>by simp [tc,T.leaf] at h⟩
 |n+1=>by
  obtain⟨Kj,tP⟩:=RT hr n
  have ajt:Hx g=false:=by
   cases ho:Hx g with
   |false=>rfl
   |true=>exact absurd (Eu ho).2 hr
  have hfo: ∀(c:Code) (s:St) (k:St->T Lf),Us g c s k=k s:=fun c s k=>by unfold Us; rw [ajt]; cases hq:g.oy with |nil=>exact absurd hq hr|cons _ _=>rfl
  have hpo: ∀(p:List Nat) (s:St) (k:St->T Lf),TN g p s k=k s:=fun p s k=>by unfold TN; rw [ajt]
  have lfc: ∀(c:Code) fr s lf,((g.ev c s).bind fun (e,s')=>tc g fe n fr e s').leaf ρ=some lf->LfG g.ig fe lf:=by intro c fr s lf h;obtain⟨⟨e,s'⟩,_,Z⟩:=T.fh h;exact tP _ _ _ _ Z
  constructor
  ·intro p c fr s lf h;unfold wJ at h;split at h
   ·rename_i l Y;rw [hpo] at h;obtain⟨s',U⟩:=qP h;exact sO Y (fun _ h=>h) U
   ·split at h
    ·grind
    ·grind
    ·grind
    ·split at h
     ·obtain⟨pc,b,U⟩:=iC h
      grind
     grind [T.leaf]
    ·rw [hfo] at h;exact lfc _ _ _ _ h
  ·intro fr e s lf h;unfold tc at h;split at h
   ·exact Y8 hr h
   ·grind
   ·grind
   ·split at h
    ·split at h
     ·rename_i l Y;rw [hpo] at h;obtain⟨s',U⟩:=qP h;exact sO Y (fun _ h=>h) U
     grind [T.leaf]
    grind
   grind
theorem B2 {e:Am} {ρ:Nat->Int} {lf:Lf} (hr:e.oy≠[]) (h:(nC S e).leaf ρ=some lf): ∃fn body,S.ft e.g=some fn/\fn.body=some body/\LfG e.ig e.fe lf:=by
 unfold nC at h;split at h
 ·simp [T.leaf] at h
 ·rename_i fn tR;split at h
  ·simp [T.leaf] at h
  ·rename_i body hb;refine⟨fn,body,tR,hb,?_⟩;have key: ∀n p c fr s,(wJ (S.cfg e fn) e.fe n p c fr s).leaf ρ=some lf->LfG e.ig e.fe lf:=fun n p c fr s h=>(RT (g:=S.cfg e fn) hr n).1 _ _ _ _ _ h;split at h
   ·grind
   ·split at h
    ·split at h
     ·obtain⟨s',U⟩:=Au h
      grind
     ·simp [T.leaf] at h
    ·simp [T.leaf] at h
theorem Iw (hs:Fw S): ∀(n j:Nat) (e:Am) (xs ys:List Int),S.bK j=some e->e.oy≠[]->eP S.tree n j xs=some ys->∀a y,a<e.ig->ys[a+1]?=some y->y=low xs a
 |0,_,_,_,_,_,_,h=>by simp [eP] at h
 |n+1,j,e,xs,ys,he,hr,h=>by
  intro a y ha hy;obtain⟨_,_,hg⟩:=hs.outs j e he;have Hf:S.tree j=nC S e:=by unfold Sys.tree; rw [he]
  simp only [eP,Hf] at h;split at h
  ·grind
  ·rename_i es Y;obtain⟨_,_,_,_,ra⟩:=B2 hr Y;simp only [ah] at h;subst h;rw [bp,aQ] at hy;obtain⟨x,hx,rfl⟩:=hy;rw [ra a x ha hx];show cT _ _ a=_
   grind [r4]
  ·rename_i j' es Y;obtain⟨fn,body,tR,hb,⟨p,l,c,hp,hc,hlen⟩,ra⟩:=B2 hr Y;obtain⟨_,hh⟩:=hs.bK j e he fn body tR hb p l hp;obtain⟨q1,_,_,q4⟩:=hh j' c hc;have:=Iw hs n j' _ _ ys q1 hr h a y ha hy;rw [this];have U9:a<es.length:=J
   have hx:=aO U9;unfold low;rw [aoj,bp,hx];show (es[a]).den _=_;rw [ra a _ ha hx];show cT _ _ a=_
   grind [r4]
theorem jD.mono {P:Program} {g:FuncId} {vals:Array Value} {w:World} {R R':Value->World->Prop} (h:jD P g vals w R) (k: ∀u w',R u w'->R' u w'):jD P g vals w R':=by
 unfold jD at h ⊢;unfold lI at h ⊢;split at h
 ·grind
 ·exact Calls.mono h fun e w' ⟨u,he,hr⟩=> ⟨u,he,k _ _ hr⟩
 grind
theorem aba (hs:Fw S) {n:Nat} (h:adN S n):@im (S.G.iY (eP S.tree n)) S.P S.call:=by
 letI I:=S.G.iY (eP S.tree n);have a1: ∀ρ ro h,I.ok ρ ro h->S.G.ok ro h:=fun _ _ _ h=>h.1;have a2: ∀ρ ro h,I.ok ρ ro h->Good (eP S.tree n) ρ:=fun _ _ _ h=>h.2;refine wq hs.tt hs.ft (hook:=S.hook) ?_ (fun call hc g=>hs.draw I call hc g) S.lf S.depth
 have hL: ∀g l,(∀j∈l,j∈S.Cg g)->@ik I S.P g (S.BO l):=by
  intro g l
  induction l with
  |nil=>
   intro _ amP s E w vals v s' r hv hp Y
   grind [Sys.BO,T.leaf]
  |cons j l ih=>
   intro nO amP s E w vals v s' r hv hp Y;have hj:=nO j ad;simp only [Sys.BO] at Y;split at Y
   ·grind [T.leaf]
   ·rename_i e he;have uY:=h g j e hj he;obtain⟨_,_,Ee⟩:=hs.num g j e hj he;obtain⟨ho1,ho2,_⟩:=hs.outs j e he
    cases sV:e.pat with
    |none=> rw [sV] at Y uY;exact @Yv S.P I S.G.ok a1 (eP S.tree n) a2 g j e.Fu e.lj uY (hs.run g j hj) amP s E w vals v s' r hv hp Y
    |some q=>
     obtain⟨c,ej,ko⟩:=q;rw [sV] at Y uY Ee;simp only at Y uY Ee;unfold Am.ej Am.ko at ho1;unfold Am.ko at ho2;rw [sV] at ho1 ho2
     cases AU:e.oy with
     |nil=>
      rw [AU] at Y uY;simp only at Y uY;split at Y
      ·exact @Yt S.P I S.G.ok a1 (eP S.tree n) a2 g j c e.lj ej ko ho1 ho2 Ee.2.2.1 uY (hs.run g j hj) amP s E w vals v s' r hv hp Y
      ·exact ih (fun j hj=>nO j (by simp [hj])) amP s E w vals v s' r hv hp Y
     |cons r0 rs=>
      rw [AU] at Y uY;simp only at Y uY;have hrp:=Ee.2.2.2.1 (by rw [AU]; simp);rw [AU] at hrp;split at Y
      ·exact @Lz S.P I S.G.ok a1 (eP S.tree n) a2 g j c e.gh e.ig (r0::rs) hrp (fun xs ys h=>Iw hs n j e xs ys he (by rw [AU]; simp) h) uY (hs.run g j hj) amP s E w vals v s' r hv hp Y
      ·split at Y
       ·obtain⟨as1,U,fI,E1,fu,f,Rx,Y⟩:=Ji rfl r hp hv Y;split at Y
        ·rw [<- f.ρ] at Y fu;have:=@Lz S.P I S.G.ok a1 (eP S.tree n) a2 g j c e.gh e.ig (r0::rs) hrp (fun xs ys h=>Iw hs n j e xs ys he (by rw [AU]; simp) h) uY (hs.run g j hj) as1 { s with h:=U,pc:=fI } E1 w vals v s' f.rel Rx fu Y;obtain⟨k1,k2,k3⟩:=this;rw [f.ρ] at k2;exact⟨k1,k2,jD.mono k3 fun u w' ⟨E2,q1,q2,q3⟩=> ⟨E2,f.ew.trans q1,q2,q3⟩⟩
        ·exact ih (fun j hj=>nO j (by simp [hj])) amP s E w vals v s' r hv hp Y
       ·exact ih (fun j hj=>nO j (by simp [hj])) amP s E w vals v s' r hv hp Y
 intro g f hf;unfold Sys.hook at hf;split at hf
 ·exact hs.w7 I a1 g f hf
 ·rename_i j l hj;simp only [ah] at hf;subst hf;have Z:=hL g (j::l) (by rw [hj]; exact fun _ h=>h);split
  ·exact Z
  ·rename_i h0 hh;exact ni (hs.w7 I a1 g h0 hh) Z
theorem Of (hs:Fw S) {n:Nat} (h:adQ S n) {j:Nat} {e:Am} (he:S.bK j=some e) {fn:Func} {body:Code} (tR:S.ft e.g=some fn) (hb:fn.body=some body) (B:ma) (hm:e.ej.length=B.m) (ys:List Int) :
 @B_ (S.G.iY (eP S.tree n)) S.P body fn.ntmps B (bodyPost S.P fn (QX B e.lj e.ej e.ko e.oy ys)) (eP S.tree n) ys e.fe:=by
 intro p l hp;obtain⟨⟨b,fr,Y⟩,hh⟩:=hs.bK j e he fn body tR hb p l hp;refine⟨b,fr,Y,fun j' c hc E a w t hg ⟨xs,U,Z,h3,h4⟩ hN hd=>?_⟩;obtain⟨q1,q2,q3,_⟩:=hh j' c hc;exact h j' { e with pos:=some (p,c) } p c q1 rfl q2 q3 fn body b fr tR hb Y B E a w xs ys hm h4 U Z t hg.1 hN hd
theorem XU {F:oa} {E:En} {xs:List Int} {k:Nat} (h: ∀i x,xs[i]?=some x->E.ρ i=x) (hk:xs.length=k) (h9:k<=900): ∀i,i<k->cT F (low xs) i=E.ρ i:=by
 intro i hi
 grind [r4,low]
theorem IW {tree:Nat->T Lf} {n j:Nat} {xs ys:List Int} (h:eP tree (n+1) j xs=some ys): ∃lf,(tree j).leaf (cT (eP tree n) (low xs))=some lf/\MN (eP tree n) (cT (eP tree n) (low xs)) ys lf:=by
 simp only [eP] at h;split at h
 ·grind
 ·rename_i es Y;simp only [ah] at h;exact⟨_,Y,h⟩
 ·rename_i j' es Y;exact⟨_,Y,h⟩
theorem QE.spec {w:World} {ro:Nat->Prop} {θ:Nat->Nat×Nat} {κ:Nat->Nat} {lj:List RK} {ys:List Int} {e:Ending} {w':World} (h:QE ⟨w,ro,0,θ,κ⟩ lj [] 0 ys e w') :
 ∃u,e= .returned u/\Below w.heap.size w w'/\∃me:Nat->Prop,(∀b,ro b->me b)/\(∀b,me b->ro b\/w.heap.size<=b)/\(∀b,me b->b<w'.heap.size)/\abm lj ys me w'.heap u:=by
 obtain⟨u,q1,q2,me,q3,q4,q5,_,_,q6⟩:=h;exact⟨u,q1,⟨q2.os,q2.tape,q2.output,q2.size,fun k hk=>q2.jX k hk fun⟨i,hi,_⟩=>absurd hi (by show ¬i<0; omega)⟩,me,q3,q4,q5,q6⟩
theorem Bel.refl {B:ma}:Bel B B.w0:=⟨rfl,rfl,rfl,au _,fun _ _ _=>rfl⟩
theorem vE.grow {E:En} {s:St} {w:World} {vals:List Value} (f:vE E s { tmps:=vals.toArray,defers:=[] } w) (n:Nat):vE E s { tmps:=vals.toArray++Array.replicate n undef,defers:=[] } w:=by
 refine⟨f.fresh,f.res,f.live,f.inj,f.qt,fun t v ht=>?_,f.pc,f.hid⟩;obtain⟨u,U,Z⟩:=f.sr t v ht
 grind
theorem vE.Uk {E:En} {s:St} {a:Act} {w:World} (f:vE E s a w) (hn: ∀id o,s.h.get id=some o->nf o=true):vE { E with hd:=fun _=>none } s a w:=by
 have k:fy E w.heap { E with hd:=fun _=>none } w.heap:=⟨rfl,fun _ h=>h,fun _ _=>rfl,fun _ _=>rfl,fun _ h=>h,fun _ _=>rfl⟩;refine⟨f.fresh,f.res,fun id o ho=>?_,f.inj,f.qt,fun t v ht=>?_,f.pc,fun b x hb=>by simp at hb⟩
 ·obtain⟨U,Z,h3⟩:=f.live id o ho;exact⟨U,Z.acn k U rfl (hn id o ho),h3⟩
 ·obtain⟨u,U,Z⟩:=f.sr t v ht;exact⟨u,U,VR.keep k _ _ Z⟩
theorem WV (hs:Fw S): ∀n:Nat,adN S n/\adQ S n
 |0=> ⟨fun g j e _ _=>by
  cases e.pat with
  |none=>exact fun xs ys h=>by simp [eP] at h
  |some q=>
   obtain⟨c,ej,ko⟩:=q
   cases e.oy with
   |nil=>exact fun xs ys h=>by simp [eP] at h
   |cons r rs=>exact fun xs ys h=>by simp [eP] at h,fun j e p c _ _ _ _ fn body b fr _ _ _ B E a w xs ys _ h=>by simp [eP] at h⟩
 |n+1=>by
  obtain⟨Kj,tP⟩:=WV hs n;letI I:=S.G.iY (eP S.tree n);have RL:=aba hs Kj;have n_: ∀(e:Am) (fn:Func),PJ S.P (S.cfg e fn) (S.qO e.g):=fun e fn=> ⟨hs.tt,RL,hs.draw I S.call RL e.g⟩;constructor
  ·intro g j e hn he;obtain⟨hg,jT,Ee⟩:=hs.num g j e hn he;obtain⟨mJ,E?,_⟩:=hs.outs j e he;have Hf:S.tree j=nC S e:=by unfold Sys.tree; rw [he]
   cases sV:e.pat with
   |none=>
    rw [sV] at Ee;simp only at Ee ⊢;intro xs ys hx ro w vals fl jx LI sh hc;obtain⟨lf,U,Z⟩:=IW hx;rw [Hf] at U;unfold nC at U
    cases tR:S.ft e.g with
    |none=>rw [tR] at U; simp [T.leaf] at U
    |some fn=>
     rw [tR] at U
     cases hb:fn.body with
     |none=>simp only [hb] at U; simp [T.leaf] at U
     |some body=>
      simp only [hb,jT,sV] at U;obtain⟨hf,_,hd⟩:=hs.ft e.g fn tR;rw [hg] at hf;have mL:=hd body hb;have hlx:=hc.length.1;have I9:e.ej= []:=by unfold Am.ej; rw [sV]
      have YC:e.ko=0:=by unfold Am.ko; rw [sV]
      have Rw:ct (En.zero (cT (eP S.tree n) (low xs)) ro) w.heap (px e.Fu .dG 0) vals:=by
       refine rQ sh hc fun k x hk=>?_;have Ja:=(aX.1 hk).1;rw [aA];show cT _ _ k=x
       grind [r4,low]
      have oA:I.ok (cT (eP S.tree n) (low xs)) ro w.heap:=⟨LI,kS _ _⟩;let B:ma:=⟨w,ro,0,fun _=>(0,0),fun _=>0⟩
      have t0:kB B (En.zero (cT (eP S.tree n) (low xs)) ro) ⟨cq (px e.Fu .dG 0) 0 .nil,Hp.zero,[]⟩ { tmps:=vals.toArray++Array.replicate (fn.ntmps-vals.toArray.size) undef,defers:=[] } w:=by
       have fit:Fit (En.zero (cT (eP S.tree n) (low xs)) ro) ⟨cq (px e.Fu .dG 0) 0 .nil,Hp.zero,[]⟩ { tmps:=vals.toArray++Array.replicate (fn.ntmps-vals.toArray.size) undef,defers:=[] } w:=
        ⟨C8 _ ro w jx oA,ze Rw _,by intro c b h; simp at h⟩
       exact⟨fit.x,fun _ h=>h,fun _ h=> .inl h,Bel.refl,fun id o h=>by simp [Hp.zero,Hp.get,Tr.get] at h,fun i hi=>absurd hi (by show ¬i<0; omega),fun b x hb=>by simp [En.zero] at hb⟩
      refine Calls.mono (calls_of_wp (R:=QX B e.lj e.ej e.ko e.oy ys) hf hb ?_) fun e' w' hq=>QE.spec (w:=w) (ro:=ro) (θ:=fun _=>(0,0)) (κ:=fun _=>0) (by rw [I9,YC,Ee.2] at hq; exact hq);exact (Jf (B:=B) (n_ e fn) mL rfl (by show e.ej.length=0; rw [I9]; rfl) mJ E? (Of hs tP he tR hb B (by show e.ej.length=0; rw [I9]; rfl) ys) 1000).1 [] body [] _ lf _ _ w rfl U Z t0 oA (by simp; omega) rfl
   |some q=>
    obtain⟨c,ej,ko⟩:=q;rw [sV] at Ee;simp only at Ee ⊢;obtain⟨ajH,hc9,hom,hrp,hnf⟩:=Ee
    have main: ∀xs ys,eP S.tree (n+1) j xs=some ys->∀(E:En) (w:World) (vals:List Value),(∀i x,xs[i]?=some x->E.ρ i=x)->xs.length=c.k->vE E c.st { tmps:=vals.toArray,defers:=[] } w->S.G.ok E.ro w.heap->
     Calls S.P g vals.toArray w (QX ⟨w,E.ro,c.dw.length,E.θ,E.κ⟩ e.lj ej ko e.oy ys):=?_
    ·cases AU:e.oy with
     |nil=> simp only;intro xs ys hx E w vals mP hlen fx LI;have:=main xs ys hx E w vals mP hlen fx LI;rw [AU] at this;exact this
     |cons r0 rs=> simp only;intro xs ys hx E w vals mP hlen fx LI;have:=main xs ys hx E w vals mP hlen fx LI;rw [AU] at this;exact this
    intro xs ys hx E0 w vals mP hlen fx0 LI
    have fx:=fx0.Uk fun id o ho=>by
     have:(og c.dw 0 .nil).get id=some o:=ho;rw [jh] at this;split at this
     ·exact IL hnf this
     ·simp [Tr.get] at this
    have hE: ∃E:En,E= { E0 with hd:=fun _=>none }:=⟨_,rfl⟩;obtain⟨E,hE⟩:=hE;rw [<- hE] at fx;have mP: ∀i x,xs[i]?=some x->E.ρ i=x:=by rw [hE]; exact mP
    have LI:S.G.ok E.ro w.heap:=by rw [hE]; exact LI
    have hEd:E.hd=fun _=>none:=by rw [hE]
    suffices Calls S.P g vals.toArray w (QX ⟨w,E.ro,c.dw.length,E.θ,E.κ⟩ e.lj ej ko e.oy ys) by rw [hE] at this; exact this
    obtain⟨lf,U,Z⟩:=IW hx;rw [Hf] at U;unfold nC at U
    cases tR:S.ft e.g with
    |none=>rw [tR] at U; simp [T.leaf] at U
    |some fn=>
     rw [tR] at U
     cases hb:fn.body with
     |none=>simp only [hb] at U; simp [T.leaf] at U
     |some body=>
      simp only [hb,jT,sV] at U;obtain⟨hf,_,hd⟩:=hs.ft e.g fn tR;rw [hg] at hf;have mL:=hd body hb;have I9:e.ej=ej:=by unfold Am.ej; rw [sV]
      have YC:e.ko=ko:=by unfold Am.ko; rw [sV]
      let B:ma:=⟨w,E.ro,c.dw.length,E.θ,E.κ⟩
      have alI: ∀id o,c.st.h.get id=some o->id<c.dw.length:=by
       intro id o ho;have:(og c.dw 0 .nil).get id=some o:=ho
       grind [jh,Tr.get]
      have alB: ∀id,id<c.dw.length->∃o,c.st.h.get id=some o:=by
       intro id hid;refine⟨c.dw[id],?_⟩;show (og c.dw 0 .nil).get id=_
       grind [jh]
      have t1:kB B E c.st { tmps:=vals.toArray++Array.replicate (fn.ntmps-vals.toArray.size) undef,defers:=[] } w:=by refine⟨fx.grow _,fun _ h=>h,fun _ h=> .inl h,Bel.refl,fun id o h=> .inr ⟨id,alI id o h,rfl⟩,fun i hi=>?_,fun b x hb=>by rw [hEd] at hb; simp at hb⟩;obtain⟨o,ho⟩:=alB i hi;exact⟨(fx.live i o ho).1,rfl,rfl⟩
      have t0:=t1.low (ρ':=cT (eP S.tree n) (low xs)) ajH (XU mP hlen hc9);have oA:I.ok (cT (eP S.tree n) (low xs)) E.ro w.heap:=⟨LI,kS _ _⟩;have hm:e.ej.length=B.m:=by rw [I9]; exact hom
      have hw:=(Jf (B:=B) (n_ e fn) mL rfl hm mJ E? (Of hs tP he tR hb B hm ys) 1000).1 [] body [] _ lf { E with ρ:=cT (eP S.tree n) (low xs) } _ w rfl U Z t0 oA (by simp; omega) rfl;have hw':=calls_of_wp (R:=QX B e.lj e.ej e.ko e.oy ys) hf hb hw
      grind
  ·intro j e p c he jT alz h9 fn body b fr tR hb Y B E a w xs ys hm hx mP hlen t LI hN CQ;obtain⟨mJ,E?,_⟩:=hs.outs j e he;obtain⟨lf,U,Z⟩:=IW hx;have Hf:S.tree j=nC S e:=by unfold Sys.tree; rw [he]
   rw [Hf] at U;unfold nC at U;simp only [tR,hb,jT,Y] at U;obtain⟨hf,_,hd⟩:=hs.ft e.g fn tR;have mL:=hd body hb;have t':=t.low (ρ':=cT (eP S.tree n) (low xs)) alz (XU mP hlen h9);have oA:I.ok (cT (eP S.tree n) (low xs)) E.ro w.heap:=⟨LI,kS _ _⟩;refine N9 ?_;obtain⟨s2,t2,RO⟩:=Ic (E:={ E with ρ:=cT (eP S.tree n) (low xs) }) U t';exact (Jf (B:=B) (n_ e fn) mL rfl hm mJ E? (Of hs tP he tR hb B hm ys) 1000).1 (0::p) b (.loop p b::fr) s2 lf { E with ρ:=cT (eP S.tree n) (low xs) } a w (by simp only [oK,Y]) RO Z t2 oA hN CQ
theorem WU (hs:Fw S) {g j:Nat} {e:Am} (hn:j∈S.Cg g) (he:S.bK j=some e) (hp:e.pat=none) (n:Nat):t? S.P S.G.ok g e.Fu e.lj (eP S.tree n j):=by
 have:=(WV hs n).1 g j e hn he
 grind
end
end Go.As
end
section
namespace Go.As
open Go.RowKit
def BV:List (Nat×Nat)->Nat->Option Nat
 |[],_=>none
 |(t,k)::l,x=>match Nat.beq t x with
  |true=>some k
  |false=>BV l x
def K3 (l:List (Nat×Nat)) (tt:TT):TT:=fun t=>match tt t with
 |some i=>some { i with own:=BV l t }
 |none=>none
section
variable {P:Program}
theorem Y? {l:List (Nat×Nat)} {tt:TT} (h:eC P tt):eC P (K3 l tt):=by
 intro t i hi;unfold K3 at hi;split at hi
 ·rename_i j hj;simp only [ah] at hi;subst hi;obtain⟨U,Z⟩:=h t j hj;exact⟨U,Z⟩
 grind
theorem Od (l:List (Nat×Nat)) (tt:TT):kindOf (K3 l tt)=kindOf tt:=by
 funext op;cases op
 case convert t u x=>
  simp only [kindOf,K3]
  cases ht:tt t with
  |none=>rfl
  |some i=>
   grind
 all_goals rfl
theorem G8 (l:List (Nat×Nat)) (tt:TT) (all:List Oper) (ms:List Nat): ∀(os:List Oper) (i n:Nat),items (K3 l tt) all ms os i n=items tt all ms os i n
 |[],_,_=>rfl
 |o::os,i,n=>by simp only [items,Od,G8 l tt all ms os]
theorem W2 (l:List (Nat×Nat)) (tt:TT) (all:List Oper):stat (K3 l tt) all=stat tt all:=by
 unfold stat
 simp only [G8]
theorem m? (l:List (Nat×Nat)) (tt:TT) (H:Nat->Nat->Option Ag):J3 (K3 l tt) H=J3 tt H:=by funext g id all;unfold J3;simp only [u5,W2]
end
structure FE where
 no:Nat
 g:Nat
 Fu:List RK
 lj:List RK
 pat:Option (CS×List dN×Nat):=none
 oy:List CS:=[]
 gh:List (Nat×Nat):=[]
 wh:List Nat:=[]
 ig:Nat:=0
 tst:List (Nat×Nat):=[]
 fz:List (Nat×Nat×Nat):=[]
 Va:List FH:=[]
 loops:List (List Nat×CS):=[]
def idxs (p:List Nat):List (List Nat×CS)->Nat->List (Nat×CS)
 |[],_=>[]
 |(q,c)::l,j=>match gC q p with
  |true=>(j,c)::idxs p l (j+1)
  |false=>idxs p l (j+1)
def FE.fe (f:FE):Cr:=fun p=>match idxs p f.loops (f.no+1) with
 |[]=>none
 |x::l=>some (x::l)
def FE.ent (f:FE):Am:=⟨f.g,f.Fu,f.lj,f.fe,none,f.pat,f.oy,f.gh,f.wh,f.ig,f.tst,f.fz,f.Va⟩
def ud (t:Nat->Option FE) (j:Nat):Option Am:=match t (j / 50) with
 |none=>none
 |some f=>match j % 50 with
  |0=>some f.ent
  |i+1=>match eZ f.loops i with
   |some x=>some { f.ent with pos:=some x }
   |none=>none
def Yf:Option (Code×List FrE)->Bool
 |some (c,_)=>match c with
  | .loop _=>true
  |_=>false
 |none=>false
def IS (ig:Nat) (body:Code) (x:List Nat×CS):Bool:=Yf (oK body x.1)&&vw x.2.k x.2&&Nat.ble x.2.k 900&&Nat.ble ig x.2.k
def aiS {α:Type}:List α->Bool
 |[]=>true
 |_=>false
def YY (ft:Nat->Option Func) (k:Nat) (f:FE):Bool:=Nat.beq f.no (50*k)&&Nat.blt f.loops.length 50&&Nat.ble f.ig 900&&
 (match f.pat with
  |none=>Nat.ble (oG f.Fu).length 900&&aiS f.oy
  |some (c,ej,ko)=>vw c.k c&&Nat.ble c.k 900&&Nat.beq ej.length c.dw.length&&Gv f.oy&&mF ko ej&&Nat.ble ko 900&&nfs c.dw)&&
 (match ft f.g with
  |some fn=>match fn.body with
   |some body=>f.loops.all (IS f.ig body)
   |none=>false
  |none=>false)
def K8 (ft:Nat->Option Func) (t:Nat->Option FE) (g:Nat) (l:List Nat):Bool:=
 l.all fun j=>Nat.beq (j % 50) 0&&match t (j / 50) with
  |some f=>Nat.beq f.g g&&(match ft g with
   |some fn=>fn.body.isSome
   |none=>false)
  |none=>false
theorem EN: ∀{a b:List Nat},gC a b=true->a=b
 |[],[],_=>rfl
 |[],_::_,h=>by simp [gC] at h
 |_::_,[],h=>by simp [gC] at h
 |a::x,b::y,h=>by
  simp only [gC] at h;split at h
  ·rename_i U;rw [aq U,EN h]
  grind
theorem zf {p:List Nat}: ∀{l:List (List Nat×CS)} {n j:Nat} {c:CS},(j,c)∈idxs p l n->∃i,l[i]?=some (p,c)/\j=n+i
 |[],n,j,c,h=>by simp [idxs] at h
 |(q,c0)::l,n,j,c,h=>by
  simp only [idxs] at h;split at h
  ·rename_i hq;rcases ax.1 h with h|h
   ·simp only [ak] at h;obtain⟨rfl,rfl⟩:=h;exact⟨0,by rw [EN hq]; rfl,rfl⟩
   ·obtain⟨i,U,Z⟩:=zf h;exact⟨i+1,by simpa using U,J⟩
  ·obtain⟨i,U,Z⟩:=zf h;exact⟨i+1,by simpa using U,J⟩
structure UQ where
 P:Program
 G:MO
 tt:TT
 ft:Nat->Option Func
 qO:Nat->Nat->List Oper->Bool
 draw:eu->Nat->Nat->List Oper->St->T St
 w7:Nat->Option (List W->St->T (W×St))
 t:Nat->Option FE
 Cg:Nat->List Nat
noncomputable def UQ.sys (S:UQ):Sys:=⟨S.P,S.G,S.tt,S.ft,S.qO,S.draw,S.w7,40,60,S.Cg,ud S.t⟩
theorem EO {t:Nat->Option FE} {j:Nat} {e:Am} (h:ud t j=some e): ∃f pos,t (j / 50)=some f/\e= { f.ent with pos:=pos }:=by
 unfold ud at h;split at h
 ·grind
 ·rename_i f hf;split at h
  ·simp only [ah] at h;exact⟨f,none,hf,h.symm⟩
  grind
theorem Q? {S:UQ} (U:eC S.P S.tt) (Z:UY S.P S.qO S.ft) (h3: ∀(I:bH) call,@im I S.P call->∀g,@vF I S.P (S.qO g) (S.draw call g)) (h4: ∀(I:bH),(∀ρ ro h,I.ok ρ ro h->S.G.ok ro h)->∀g h,S.w7 g=some h->@ik I S.P g h)
 (h5: ∀k f,S.t k=some f->YY S.ft k f=true) (h6: ∀g,K8 S.ft S.t g (S.Cg g)=true):Fw S.sys where
 tt:=U
 ft:=Z
 draw:=h3
 w7:=h4
 run:=by
  intro g j hj args w;have hn:=h6 g;unfold K8 at hn;have:=aZ.1 hn j hj;simp only [an] at this;obtain⟨_,h⟩:=this;split at h
  ·simp only [an] at h;obtain⟨_,h⟩:=h;split at h
   ·rename_i fn tR;obtain⟨q1,q2,_⟩:=Z g fn tR;obtain⟨c,hb⟩:=ant.1 h;unfold callFunc;simp [UQ.sys,q1,hb,by simpa using q2]
   ·simp at h
  ·simp at h
 num:=by
  intro g j e hj he;have hn:=h6 g;unfold K8 at hn;have:=aZ.1 hn j hj;simp only [an] at this;obtain⟨hm,h⟩:=this;have hm:=aq hm;have yh:ud S.t j=some e:=he;unfold ud at yh;split at h
  ·rename_i f hf;rw [hf,hm] at yh;simp only [ah] at yh;subst yh;simp only [an] at h;have oM:=h5 _ _ hf;unfold YY at oM;simp only [an] at oM;obtain⟨⟨_,hp⟩,_⟩:=oM;refine⟨aq h.1,rfl,?_⟩
   show (match f.pat with
    |none=>_
    |some (c,ej,_)=>_)
   cases sV:f.pat with
   |none=>
    rw [sV] at hp;simp only [an] at hp;refine⟨am9 hp.1,?_⟩;show f.oy= []
    cases hr:f.oy with
    |nil=>rfl
    |cons a l=>rw [hr] at hp; simp [aiS] at hp
   |some q=> obtain⟨c,ej,ko⟩:=q;rw [sV] at hp;simp only [an] at hp;obtain⟨⟨⟨⟨⟨⟨p1,p2⟩,p3⟩,p4⟩,_⟩,_⟩,p7⟩:=hp;exact⟨p1,am9 p2,aq p3,fun _=>p4,p7⟩
  ·simp at h
 outs:=by
  intro j e he;obtain⟨f,pos,hf,rfl⟩:=EO he;have oM:=h5 _ _ hf;unfold YY at oM;simp only [an] at oM;obtain⟨⟨⟨_,hg⟩,hp⟩,_⟩:=oM;refine⟨?_,?_,am9 hg⟩
  ·unfold Am.ej Am.ko;show mF (match f.pat with |none=>0|some (_,_,k)=>k) (match f.pat with |none=>[]|some (_,o,_)=>o)=true
   cases sV:f.pat with
   |none=>rfl
   |some q=> obtain⟨c,ej,ko⟩:=q;rw [sV] at hp;simp only [an] at hp;exact hp.1.1.2
  ·unfold Am.ko;show (match f.pat with |none=>0|some (_,_,k)=>k)<=900
   cases sV:f.pat with
   |none=>exact am5 _
   |some q=> obtain⟨c,ej,ko⟩:=q;rw [sV] at hp;simp only [an] at hp;exact am9 hp.1.2
 bK:=by
  intro j e he fn body tR hb;obtain⟨f,pos,hf,rfl⟩:=EO he;have oM:=h5 _ _ hf;unfold YY at oM;simp only [an] at oM;obtain⟨⟨⟨⟨Aj,hlen⟩,_⟩,_⟩,Y⟩:=oM;have Aj:=aq Aj;have hlen:f.loops.length<50:=Nat.lt_of_succ_le (by simpa [Nat.blt] using hlen);have alM:S.ft f.g=some fn:=tR;rw [alM] at Y;simp only [hb] at Y;intro p l hp;have fB:f.fe p=some l:=hp
  have hl0:l=idxs p f.loops (f.no+1)/\l≠[]:=by
   unfold FE.fe at fB;split at fB
   ·simp at fB
   ·rename_i x l' hx;simp only [ah] at fB;rw [hx,fB];exact⟨rfl,by rw [<- fB]; simp⟩
  have mQ: ∀i c,f.loops[i]?=some (p,c)->IS f.ig body (p,c)=true:=fun i c hi=>aZ.1 Y _ (amQ hi);constructor
  ·obtain⟨AY,hl2⟩:=hl0
   cases hc:l with
   |nil=>exact absurd hc hl2
   |cons x l'=>
    obtain⟨j',c⟩:=x;have:(j',c)∈idxs p f.loops (f.no+1):=by rw [<- AY,hc]; simp
    obtain⟨i,hi,_⟩:=zf this;have:=mQ i c hi;unfold IS at this;simp only [an] at this;have hi:=this.1.1.1;unfold Yf at hi;split at hi
    ·rename_i c' fr heq;split at hi
     ·rename_i b;exact⟨b,fr,heq⟩
     ·simp at hi
    ·simp at hi
  ·intro j' c hc;rw [hl0.1] at hc;obtain⟨i,hi,rfl⟩:=zf hc;have dX:=(aX.1 hi).1;have:=mQ i c hi;unfold IS at this;simp only [an] at this;obtain⟨⟨⟨_,q1⟩,q2⟩,q3⟩:=this;refine⟨?_,q1,am9 q2,am9 q3⟩;show ud S.t (f.no+1+i)=_;have hd:(f.no+1+i) / 50=j / 50:=by rw [Aj]; omega
   have hm:(f.no+1+i) % 50=i+1:=by rw [Aj]; omega
   unfold ud;rw [hd,hf,hm];simp only;rw [de,hi]
end Go.As
end

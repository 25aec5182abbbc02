import Derived.Shelf.Sort.Plain
import Derived.Shelf.Slices.CompactI
import Derived.Sort.Row
import Derived.Sort.Grow
import Derived.Test.YtlgfoolepdjmoaaGreatDoorAsZT4
set_option linter.unusedSectionVars false
set_option linter.unusedVariables false
set_option linter.unusedSimpArgs false
section
namespace Go.As.Try
open Go Go.As Go.Proofs Go.RowKit
set_option maxRecDepth 100000
def Rp:List W:=[.str [109,117,116,101,120,32,109,59,32,109,117,116,101,120,32,110,59,32,116,104,114,101,97,100,32,97,32,123,32,108,111,99,107,32,109,59,32,108,111,99,107,32,110,59,32,125,32,116,104,114,101,97,100,32,98,32,123,32,108,111,99,107,32,110,59,32,108,111,99,107,32,109,59,32,125]]
theorem aiX:A2 Rp (.agg [.ro [.int .u8 (.lit 1),.str [109],.int .i64 (.lit 0),.str [],.int .i64 (.lit 1),.int .u8 (.lit 1),.str [110],.int .i64 (.lit 0),.str [],.int .i64 (.lit 1)] 2 false,.ro [.str [97],.dq,.ro [.int .u8 (.lit 1),.int .u8 (.lit 1),.int .i64 (.lit 0),.int .i64 (.lit (-1)),.int .i64 (.lit 0),.int .i64 (.lit 0),.dq,.int .u8 (.lit 1),.int .u8 (.lit 1),.int .i64 (.lit 1),.int .i64 (.lit (-1)),.int .i64 (.lit 0),.int .i64 (.lit 0),.dq] 2 false,.str [98],.dq,.ro [.int .u8 (.lit 1),.int .u8 (.lit 1),.int .i64 (.lit 1),.int .i64 (.lit (-1)),.int .i64 (.lit 0),.int .i64 (.lit 0),.dq,.int .u8 (.lit 1),.int .u8 (.lit 1),.int .i64 (.lit 0),.int .i64 (.lit (-1)),.int .i64 (.lit 0),.int .i64 (.lit 0),.dq] 2 false] 2 false]) (Xk 39)=true:=aa
def Ro:List W:=[.str [109,117,116,101,120,32,109,59,32,116,104,114,101,97,100,32,97,32,123,32,108,111,99,107,32,109,59,32,125,32,116,104,114,101,97,100,32,98,32,123,32,108,111,99,107,32,109,59,32,125]]
theorem aiW:A2 Ro (.agg [.ro [.int .u8 (.lit 1),.str [109],.int .i64 (.lit 0),.str [],.int .i64 (.lit 1)] 1 false,.ro [.str [97],.dq,.ro [.int .u8 (.lit 1),.int .u8 (.lit 1),.int .i64 (.lit 0),.int .i64 (.lit (-1)),.int .i64 (.lit 0),.int .i64 (.lit 0),.dq] 1 false,.str [98],.dq,.ro [.int .u8 (.lit 1),.int .u8 (.lit 1),.int .i64 (.lit 0),.int .i64 (.lit (-1)),.int .i64 (.lit 0),.int .i64 (.lit 0),.dq] 1 false] 2 false]) (Xk 39)=true:=aa
def Rn:List W:=[.str [109,117,116,101,120,32,109,59,32,116,104,114,101,97,100,32,97,32,123,32,108,111,99,107,32,109,59,32,125,32,116,104,114,101,97,100,32,98,32,123,32,108,111,99,107,102,111,114,32,109,32,51,32,45,62,32,120,59,32,125]]
theorem aiV:A2 Rn (.agg [.ro [.int .u8 (.lit 1),.str [109],.int .i64 (.lit 0),.str [],.int .i64 (.lit 1)] 1 false,.ro [.str [97],.dq,.ro [.int .u8 (.lit 1),.int .u8 (.lit 1),.int .i64 (.lit 0),.int .i64 (.lit (-1)),.int .i64 (.lit 0),.int .i64 (.lit 0),.dq] 1 false,.str [98],.ro [.str [120]] 1 false,.ro [.int .u8 (.lit 1),.int .u8 (.lit 4),.int .i64 (.lit 0),.int .i64 (.lit 0),.int .i64 (.lit 0),.int .i64 (.lit 0),.ro [.int .u8 (.lit 1),.str [],.int .i64 (.lit 3),.dq] 1 false] 1 false] 2 false]) (Xk 39)=true:=aa
def Rb:List (List W×W):=[(Rp,.agg [.ro [.int .u8 (.lit 1),.str [109],.int .i64 (.lit 0),.str [],.int .i64 (.lit 1),.int .u8 (.lit 1),.str [110],.int .i64 (.lit 0),.str [],.int .i64 (.lit 1)] 2 false,.ro [.str [97],.dq,.ro [.int .u8 (.lit 1),.int .u8 (.lit 1),.int .i64 (.lit 0),.int .i64 (.lit (-1)),.int .i64 (.lit 0),.int .i64 (.lit 0),.dq,.int .u8 (.lit 1),.int .u8 (.lit 1),.int .i64 (.lit 1),.int .i64 (.lit (-1)),.int .i64 (.lit 0),.int .i64 (.lit 0),.dq] 2 false,.str [98],.dq,.ro [.int .u8 (.lit 1),.int .u8 (.lit 1),.int .i64 (.lit 1),.int .i64 (.lit (-1)),.int .i64 (.lit 0),.int .i64 (.lit 0),.dq,.int .u8 (.lit 1),.int .u8 (.lit 1),.int .i64 (.lit 0),.int .i64 (.lit (-1)),.int .i64 (.lit 0),.int .i64 (.lit 0),.dq] 2 false] 2 false]),(Ro,.agg [.ro [.int .u8 (.lit 1),.str [109],.int .i64 (.lit 0),.str [],.int .i64 (.lit 1)] 1 false,.ro [.str [97],.dq,.ro [.int .u8 (.lit 1),.int .u8 (.lit 1),.int .i64 (.lit 0),.int .i64 (.lit (-1)),.int .i64 (.lit 0),.int .i64 (.lit 0),.dq] 1 false,.str [98],.dq,.ro [.int .u8 (.lit 1),.int .u8 (.lit 1),.int .i64 (.lit 0),.int .i64 (.lit (-1)),.int .i64 (.lit 0),.int .i64 (.lit 0),.dq] 1 false] 2 false]),(Rn,.agg [.ro [.int .u8 (.lit 1),.str [109],.int .i64 (.lit 0),.str [],.int .i64 (.lit 1)] 1 false,.ro [.str [97],.dq,.ro [.int .u8 (.lit 1),.int .u8 (.lit 1),.int .i64 (.lit 0),.int .i64 (.lit (-1)),.int .i64 (.lit 0),.int .i64 (.lit 0),.dq] 1 false,.str [98],.ro [.str [120]] 1 false,.ro [.int .u8 (.lit 1),.int .u8 (.lit 4),.int .i64 (.lit 0),.int .i64 (.lit 0),.int .i64 (.lit 0),.int .i64 (.lit 0),.ro [.int .u8 (.lit 1),.str [],.int .i64 (.lit 3),.dq] 1 false] 1 false] 2 false])]
noncomputable def Ys (g:Nat):Option (List W->St->T (W×St)):=
 match Nat.beq g 39 with
 |true=>some (orElse (BI Rb) (Xk 39))
 |false=>RD g
theorem Yr (I:bH) (hI: ∀ρ ro h,I.ok ρ ro h->base.ok ro h): ∀(g:Nat) (h:List W->St->T (W×St)),Ys g=some h->@ik I Tryz.prog g h:=by
 intro g h hh;letI:=I;unfold Ys at hh;split at hh
 ·rename_i hg;have:=aq hg;subst this;simp only [ah] at hh;subst hh;obtain⟨c,hb⟩:=oQ (f:=Tryz.f39) aa;refine ni (XR (QC I hI 39) (fn:=Tryz.f39) (qH aa ae) aa hb fun p hp=>?_) (QC I hI 39);simp only [Rb,ax,amY,or_false] at hp;rcases hp with rfl|rfl|rfl
  ·exact aiX
  ·exact aiW
  ·exact aiV
 ·skip;exact LB I hI g h hh
noncomputable def aiv (g:Nat):List W->St->T (W×St):=FX VP ft Ys (EY VP hints) 100000 60 g
theorem U! (I:bH) (hI: ∀ρ ro h,I.ok ρ ro h->base.ok ro h) (g:Nat):@ik I Tryz.prog g (aiv g):=@wq _ I _ yk _ _ LS _ (Yr I hI) _ (fun _ hc=>@vt _ I _ yk mixed _ _ hc) 100000 60 g
end Go.As.Try
end
section
namespace Go.Proofs
open Go.Shelf
set_option maxRecDepth 100000
def Tryz.lays189_ren:Go.Shelf.Ren:=⟨fun|189=>57|125=>72|257=>71|128=>136|129=>137|294=>127|295=>128|296=>129|297=>130|298=>131|299=>132|216=>133|300=>134|301=>135|328=>162|329=>163|330=>164|331=>165|332=>166|215=>167|343=>187|n=>n,fun|28=>26|3=>3|46=>142|0=>0|51=>197|53=>199|4=>4|183=>189|182=>188|131=>194|5=>5|9=>9|218=>233|222=>237|228=>259|229=>260|n=>n,fun|n=>n⟩
theorem Tryz.lays189:Go.Proofs.Lays.n189 Tryz.prog Tryz.lays189_ren:={
 mixed:=aa
 f125:=Tryz.func72.trans (congrArg some aa)
 f128:=Tryz.func136.trans (congrArg some aa)
 f129:=Tryz.func137.trans (congrArg some aa)
 f189:=Tryz.func57.trans (congrArg some aa)
 f215:=Tryz.func167.trans (congrArg some aa)
 f216:=Tryz.func133.trans (congrArg some aa)
 f257:=Tryz.func71.trans (congrArg some aa)
 f294:=Tryz.func127.trans (congrArg some aa)
 f295:=Tryz.func128.trans (congrArg some aa)
 f296:=Tryz.func129.trans (congrArg some aa)
 f297:=Tryz.func130.trans (congrArg some aa)
 f298:=Tryz.func131.trans (congrArg some aa)
 f299:=Tryz.func132.trans (congrArg some aa)
 f300:=Tryz.func134.trans (congrArg some aa)
 f301:=Tryz.func135.trans (congrArg some aa)
 f328:=Tryz.func162.trans (congrArg some aa)
 f329:=Tryz.func163.trans (congrArg some aa)
 f330:=Tryz.func164.trans (congrArg some aa)
 f331:=Tryz.func165.trans (congrArg some aa)
 f332:=Tryz.func166.trans (congrArg some aa)
 f343:=Tryz.func187.trans (congrArg some aa)
 t0:=Tryz.underlying0
 a0:=Tryz.isAgg0
 z0:=Tryz.sizeOf0
 v0:=Tryz.zeroValue0
 t3:=Tryz.underlying3
 a3:=Tryz.isAgg3
 z3:=Tryz.sizeOf3
 v3:=Tryz.zeroValue3
 t4:=Tryz.underlying4
 a4:=Tryz.isAgg4
 z4:=Tryz.sizeOf4
 v4:=Tryz.zeroValue4
 t5:=Tryz.underlying5
 a5:=Tryz.isAgg5
 z5:=Tryz.sizeOf5
 v5:=Tryz.zeroValue5
 t9:=Tryz.underlying9
 a9:=Tryz.isAgg9
 z9:=Tryz.sizeOf9
 v9:=Tryz.zeroValue9
 t28:=Tryz.underlying26
 a28:=Tryz.isAgg26
 z28:=Tryz.sizeOf26
 v28:=Tryz.zeroValue26
 t46:=Tryz.underlying142
 a46:=Tryz.isAgg142
 z46:=Tryz.sizeOf142
 v46:=Tryz.zeroValue142
 t51:=Tryz.underlying197
 a51:=Tryz.isAgg197
 z51:=Tryz.sizeOf197
 v51:=Tryz.zeroValue197
 t53:=Tryz.underlying199
 a53:=Tryz.isAgg199
 z53:=Tryz.sizeOf199
 v53:=Tryz.zeroValue199
 t131:=Tryz.underlying194
 a131:=Tryz.isAgg194
 z131:=Tryz.sizeOf194
 v131:=Tryz.zeroValue194
 t182:=Tryz.underlying188
 a182:=Tryz.isAgg188
 z182:=Tryz.sizeOf188
 v182:=Tryz.zeroValue188
 t183:=Tryz.underlying189
 a183:=Tryz.isAgg189
 z183:=Tryz.sizeOf189
 v183:=Tryz.zeroValue189
 t218:=Tryz.underlying233
 a218:=Tryz.isAgg233
 z218:=Tryz.sizeOf233
 v218:=Tryz.zeroValue233
 t222:=Tryz.underlying237
 a222:=Tryz.isAgg237
 z222:=Tryz.sizeOf237
 v222:=Tryz.zeroValue237
 t228:=Tryz.underlying259
 a228:=Tryz.isAgg259
 z228:=Tryz.sizeOf259
 v228:=Tryz.zeroValue259
 t229:=Tryz.underlying260
 a229:=Tryz.isAgg260
 z229:=Tryz.sizeOf260
 v229:=Tryz.zeroValue260 }
def Tryz.laysNm220_ren:Go.Shelf.Ren:=⟨fun|20=>58|n=>n,fun|22=>26|3=>3|4=>4|0=>0|n=>n,fun|n=>n⟩
theorem Tryz.laysNm220:Go.Proofs.Lays2.n20 Tryz.prog Tryz.laysNm220_ren:={
 mixed:=aa
 f20:=Tryz.func58.trans (congrArg some aa)
 t0:=Tryz.underlying0
 a0:=Tryz.isAgg0
 z0:=Tryz.sizeOf0
 v0:=Tryz.zeroValue0
 t3:=Tryz.underlying3
 a3:=Tryz.isAgg3
 z3:=Tryz.sizeOf3
 v3:=Tryz.zeroValue3
 t4:=Tryz.underlying4
 a4:=Tryz.isAgg4
 z4:=Tryz.sizeOf4
 v4:=Tryz.zeroValue4
 t22:=Tryz.underlying26
 a22:=Tryz.isAgg26
 z22:=Tryz.sizeOf26
 v22:=Tryz.zeroValue26
 i3:=by kernel_rfl }
end Go.Proofs
end
section
namespace Go.As
noncomputable section
open Go.RowKit Go.Sort
def QY (n e:V):Bool:=match eV n (dM e) with
 |true=>true
 |false=>match e with
  | .op o a _=>match o with
    | .sort=>eV n (dM a)
    |_=>false
  |_=>false
def zj:List W->St->T (W×St):=fun args s=>match args with
 |[v]=>match v with
  | .ow id n t=>match s.h.get id with
    |some o=>match o with
     | .vec e t' ty ov=>match ov with
       |[]=>match QY n e&&Nat.beq t' 0 with
        |true=>jo s (gV (dM e) (.lit 1000000)) fun s b=>match b with
         |true=> .ret (.tuple [],{ s with h:=s.h.put id (.vec (.op .sort e (.lit 0)) 0 ty []) })
         |false=> .fail
        |false=> .fail
       |_=> .fail
     |_=> .fail
    |none=> .fail
  |_=> .fail
 |_=> .fail
theorem I3 {E:En} {h:Array Obj}: ∀{ds:List D} {i:Nat} {us:List Value},(∀d∈ds,oH (rowOf 0) d)->ct E h (bE E.ρ (rowOf 0) [] ds i) us->us=ds.map fun d=>Value.int .i64 d.n
 |[],i,us,_,hv=>by simp only [bE,fQ] at hv; simp [hv]
 |d::ds,i,us,hw,hv=>by simp only [bE,dW] at hv;obtain⟨us1,us2,rfl,U,Z⟩:=hv.split;rw [fA] at U;simp only [rowOf,uh,V.den] at U;obtain⟨u,rfl,U⟩:=U;rw [I3 (fun x hx=>hw x (anG _ hx)) Z];simp only [bB,iI] at U;subst U;rfl
theorem yU {E:En} {h:Array Obj}: ∀{ds:List D} {i:Nat},ct E h (bE E.ρ (rowOf 0) [] ds i) (ds.map fun d=>Value.int .i64 d.n)
 |[],i=>by simp only [bE,anj,fQ]
 |d::ds,i=>by
  simp only [bE,dW,aw]
  have U:ct E h (gz (rowOf 0) (.ei d)) [Value.int .i64 d.n]:=by rw [fA];simp only [rowOf,uh,V.den,bB,iI];exact⟨_,rfl,rfl⟩
  exact U.append yU
theorem wy (l:List D):(eO l).length=l.length:=by simp [eO,aoU]
theorem Li {n e:V} (ρ:Nat->Int) (h:QY n e=true):n.den ρ=((dec (e.den ρ)).l.length:Int):=by
 unfold QY at h;split at h
 ·rename_i hq;rw [cG _ _ hq,cm]
 ·split at h
  ·split at h
   ·rw [cG _ _ h,cm];simp only [V.den,e9.den,bB,bJ,wy]
   ·simp at h
  ·simp at h
theorem Pk (l:List D):(eO l).map D.n=(l.map D.n).mergeSort fun x y=>decide (x<=y):=by unfold eO;rw [am7];exact ano _
def zk:List W->St->T (W×St):=fun args s=>match args with
 |[v]=>match v with
  | .ow id n t=>match s.h.get id with
    |some o=>match o with
     | .vec e t' ty ov=>match ov with
       |[]=>match QY n e&&Nat.beq t' 0 with
        |true=>jo s (gV (dM e) (.lit 1000000)) fun s b=>match b with
         |true=> .ret (.sk id (.lit 0) (.op .My e (.lit 0)) t,{ s with h:=s.h.put id (.vec (.op .comp e (.lit 0)) 0 ty []) })
         |false=> .fail
        |false=> .fail
       |_=> .fail
     |_=> .fail
    |none=> .fail
  | .dq=> .ret (.dq,s)
  |_=> .fail
 |_=> .fail
theorem Sy (l:List Int):(Lib.compact l).length<=l.length:=by unfold Lib.compact Lib.compactUpTo;rw [aL];exact bn (aoK ..) ad
def r8 (l:List D):List D:=gk l++List.replicate (l.length-(gk l).length) (.i 0)
theorem wz (l:List D):(r8 l).length=l.length:=by have:=Sy (l.map D.n);rw [aL] at this;simp only [r8,gk,aT,ani,aL];omega
theorem Pm (l:List D):(r8 l).map D.n=Lib.compact (l.map D.n)++List.replicate ((l.map D.n).length-(Lib.compact (l.map D.n)).length) 0:=by simp only [r8,gk,ane,am7,List.map_replicate,aL];congr 1;exact ano _
section
variable {P:Program}
theorem Ly [bH] {g:FuncId} (hg: ∀(jX off cap:Nat) (zs:List Int) (w:World),Holds (Value.int .i64) w jX off zs.toArray->jX<w.heap.size->zs.length<4611686018427387904->
 Calls P g #[.slice (some ⟨jX,off,none⟩) zs.length cap] w fun e w'=>e= .returned (.tuple #[])/\∃n os,w'=grow (putRow (Value.int .i64) (Sort.ahead w n) jX off (zs.mergeSort fun x y=>decide (x<=y)).toArray) os)
 (jw: ∀(args:Array Value) (w:World),(callFunc g args).run P w= .ok (.enter g args) w):ik P g zj:=by
 intro amP s E w vals v s' r hv hp Y;unfold zj at Y;split at Y<;>try (simp [T.leaf] at Y; done)
 split at Y<;>try (simp [T.leaf] at Y; done)
 rename_i id n t;split at Y<;>try (simp [T.leaf] at Y; done)
 rename_i o ho;split at Y<;>try (simp [T.leaf] at Y; done)
 rename_i e t' ty ov;split at Y<;>try (simp [T.leaf] at Y; done)
 split at Y<;>try (simp [T.leaf] at Y; done)
 rename_i hq;simp only [an] at hq;obtain⟨hq1,Yp⟩:=hq;have hn:=Li E.ρ hq1;have ht:=aq Yp;subst ht;obtain⟨fI,fu,Y⟩:=cC hp Y;split at Y<;>try (simp [T.leaf] at Y; done)
 rename_i ff;rw [dR] at ff;simp only [cm,V.den,decide_eq_true_eq] at ff;have:=bD Y;simp only [ak] at this;obtain⟨rfl,rfl⟩:=this;simp only [bP,fQ,VR] at hv;obtain⟨u1,r1,rfl,⟨hd,k,a,cap,hk,rfl,hle,fW⟩,rfl⟩:=hv;obtain⟨qA,RB,jx⟩:=r.live id _ ho;simp only [OR] at RB;obtain⟨⟨qz,ry⟩,arr,lo,hi,us,hb,Rw,BL,hκ,gT,RH,ug⟩:=RB;have jT:(dec (e.den E.ρ)).l.length≠0:=fun h=>ry.2.2 (aoV.1 h);have hu:=I3 ry.2.1 Rw;have hul:=Rw.length;rw [hn] at hk;generalize s7:(dec (e.den E.ρ)).l=ds at *;have Ja:k=ds.length:=J
 have ha:a=⟨(E.θ id).1,(E.θ id).2,none⟩:=by
  simp only [eD] at fW;rcases fW with ⟨h,_⟩|⟨_,h,_⟩
  ·simpa using h
  ·omega
 subst ha Ja
 have hκ':ds.length<=E.κ id:=by rw [hu,aL] at hul;omega
 have hH:Holds (Value.int .i64) w (E.θ id).1 (E.θ id).2 (ds.map D.n).toArray:=by
  intro j hj;have hj:j<ds.length:=by simpa using hj
  have U:arr[(E.θ id).2+j]?=some (.int .i64 (ds[j]).n):=by apply BL;rw [hu];simp [hj]
  constructor
  ·rw [lF];unfold iX;rw [hb];simp only;rw [U];simp [hj]
  ·unfold World.frozen?;simp only [hb];have:=(amZ.1 U).1;simp only [aoo,decide_eq_false_iff_not];by_cases mJ:lo<=(E.θ id).2+j
   ·right;intro hh;have:=RH _ mJ hh;omega
   ·left;exact mJ
 have LL:=fq r ho;refine⟨rfl,fu,?_⟩;unfold jD lI;rw [jw];have hc:=hg (E.θ id).1 (E.θ id).2 cap (ds.map D.n) w hH LL (by rw [aL]; omega);rw [aL] at hc;refine Calls.mono hc fun e' w' ⟨he,m,os,hw⟩=> ⟨_,he,E,?_⟩;have ajo:(eO ds).map D.n=(ds.map D.n).mergeSort fun x y=>decide (x<=y):=Pk ds;rw [<- ajo] at hw
 have hso:(dec ((V.op .sort e (.lit 0)).den E.ρ))=dL (eO ds):=by simp only [V.den,e9.den,bB,s7]
 obtain⟨Ax,rl1⟩:=fD r ho (.vec (.op .sort e (.lit 0)) 0 ty []) (.cells (putCells (Value.int .i64) (E.θ id).2 ((eO ds).map D.n).toArray arr) ty (lo,hi)) (by
  intro h' Ci _
  have Hg:(bE E.ρ (rowOf 0) [] (eO ds) 0).length=ds.length:=by have:=(yU (E:=E) (h:=h') (ds:=eO ds) (i:=0)).length;rw [aL,wy] at this;omega
  simp only [OR];rw [hso,bJ];refine⟨⟨qz,by rw [bJ],?_,?_⟩,_,lo,hi,(eO ds).map fun d=>Value.int .i64 d.n,Ci,yU,?_,by rw [Hg]; exact hκ',by simp [putCells]; omega,?_,?_⟩
  ·intro d uu;rw [bJ] at uu;unfold eO at uu;obtain⟨z,_,rfl⟩:=aH.1 uu;rfl
  ·rw [bJ];intro hn;have:=congrArg List.length hn;rw [wy] at this;exact jT this
  ·intro i u hi';obtain⟨dX,hiu⟩:=aX.1 hi';rw [aL] at dX;have alF:i<ds.length:=by rw [wy] at dX; exact dX
   have hai:(E.θ id).2+i<arr.size:=J
   unfold putCells;rw [aoW,aoi hai,br]
   have hc:(E.θ id).2<=(E.θ id).2+i/\(E.θ id).2+i<(E.θ id).2+((eO ds).map D.n).toArray.size:=by
    constructor
    ·omega
    ·simp; omega
   rw [ag hc,an3,<- hiu];simp [dX]
  ·intro o U Z;have:=RH o U Z;simpa [putCells] using this
  ·intro u hu';obtain⟨d,_,rfl⟩:=aH.1 hu'
   rfl)
 have hbw:Below ({ w with heap:=w.heap.setIfInBounds (E.θ id).1 (.cells (putCells (Value.int .i64) (E.θ id).2 ((eO ds).map D.n).toArray arr) ty (lo,hi)) }:World).heap.size { w with heap:=w.heap.setIfInBounds (E.θ id).1 (.cells (putCells (Value.int .i64) (E.θ id).2 ((eO ds).map D.n).toArray arr) ty (lo,hi)) } w':=by
  subst hw;refine⟨rfl,rfl,rfl,?_,fun x hx=>?_⟩
  ·simp [grow,putRow,mapBlock,Sort.ahead]
  ·simp only [aoX] at hx;simp only [grow,putRow,mapBlock,Sort.ahead];rw [aot (by simpa using hx),anR,an1];by_cases he:(E.θ id).1=x
   ·subst he;rw [ag rfl,ag rfl,ag hx,hb];rfl
   ·rw [af he,af he]
 obtain⟨qR,rl2⟩:=nv rl1 hbw;exact⟨Ax.trans qR,rl2,by simp only [VR,ct]; exact⟨[],rfl,rfl⟩⟩
theorem LA [bH] {g:FuncId} (hg: ∀(jX off cap:Nat) (zs:List Int) (w:World),Holds (Value.int .i64) w jX off zs.toArray->zs.length<=9223372036854775807->zs.length<=cap->
 Calls P g #[.slice (some ⟨jX,off,none⟩) zs.length cap] w fun e w'=>e= .returned (.slice (some ⟨jX,off,none⟩) (Lib.compact zs).length cap)/\∃q,w'=putRow (Value.int .i64) (Sort.ahead w q) jX off (Lib.compact zs++List.replicate (zs.length-(Lib.compact zs).length) 0).toArray)
 (hg0: ∀(a:Option Addr) (cap:Nat) (w:World),Calls P g #[.slice a 0 cap] w fun e w'=>e= .returned (.slice a 0 cap)/\w'=w)
 (jw: ∀(args:Array Value) (w:World),(callFunc g args).run P w= .ok (.enter g args) w):ik P g zk:=by
 intro amP s E w vals v s' r hv hp Y;unfold zk at Y;split at Y<;>try (simp [T.leaf] at Y; done)
 split at Y<;>try (simp [T.leaf] at Y; done)
 rotate_left
 ·have:=bD Y;simp only [ak] at this;obtain⟨rfl,rfl⟩:=this;simp only [bP,fQ,VR] at hv;obtain⟨u1,r1,rfl,rfl,rfl⟩:=hv;refine⟨rfl,hp,?_⟩;unfold jD lI;rw [jw];exact Calls.mono (hg0 none 0 w) fun e' w' ⟨he,hw⟩=> ⟨_,he,E,by subst hw; exact eU.refl _ _ _,by subst hw; exact r,by simp only [VR]⟩
 rename_i id n t;split at Y<;>try (simp [T.leaf] at Y; done)
 rename_i o ho;split at Y<;>try (simp [T.leaf] at Y; done)
 rename_i e t' ty ov;split at Y<;>try (simp [T.leaf] at Y; done)
 split at Y<;>try (simp [T.leaf] at Y; done)
 rename_i hq;simp only [an] at hq;obtain⟨hq1,Yp⟩:=hq;have hn:=Li E.ρ hq1;have ht:=aq Yp;subst ht;obtain⟨fI,fu,Y⟩:=cC hp Y;split at Y<;>try (simp [T.leaf] at Y; done)
 rename_i ff;rw [dR] at ff;simp only [cm,V.den,decide_eq_true_eq] at ff;have:=bD Y;simp only [ak] at this;obtain⟨rfl,rfl⟩:=this;simp only [bP,fQ,VR] at hv;obtain⟨u1,r1,rfl,⟨hd,k,a,cap,hk,rfl,hle,fW⟩,rfl⟩:=hv;obtain⟨qA,RB,jx⟩:=r.live id _ ho;simp only [OR] at RB;obtain⟨⟨qz,ry⟩,arr,lo,hi,us,hb,Rw,BL,hκ,gT,RH,ug⟩:=RB;have jT:(dec (e.den E.ρ)).l.length≠0:=fun h=>ry.2.2 (aoV.1 h);have hu:=I3 ry.2.1 Rw;have hul:=Rw.length;rw [hn] at hk;generalize s7:(dec (e.den E.ρ)).l=ds at *;have Ja:k=ds.length:=J
 have acB:=fW
 have ha:a=⟨(E.θ id).1,(E.θ id).2,none⟩:=by
  simp only [eD] at fW;rcases fW with ⟨h,_⟩|⟨_,h,_⟩
  ·simpa using h
  ·omega
 subst ha Ja
 have hκ':ds.length<=E.κ id:=by rw [hu,aL] at hul;omega
 have hH:Holds (Value.int .i64) w (E.θ id).1 (E.θ id).2 (ds.map D.n).toArray:=by
  intro j hj;have hj:j<ds.length:=by simpa using hj
  have U:arr[(E.θ id).2+j]?=some (.int .i64 (ds[j]).n):=by apply BL;rw [hu];simp [hj]
  constructor
  ·rw [lF];unfold iX;rw [hb];simp only;rw [U];simp [hj]
  ·unfold World.frozen?;simp only [hb];have:=(amZ.1 U).1;simp only [aoo,decide_eq_false_iff_not];by_cases mJ:lo<=(E.θ id).2+j
   ·right;intro hh;have:=RH _ mJ hh;omega
   ·left;exact mJ
 refine⟨rfl,fu,?_⟩;unfold jD lI;rw [jw];have hc:=hg (E.θ id).1 (E.θ id).2 cap (ds.map D.n) w hH (by rw [aL]; omega) (by rw [aL]; exact hle);rw [aL] at hc;refine Calls.mono hc fun e' w' ⟨he,m,hw⟩=> ⟨_,he,E,?_⟩;have BQ:=Sy (ds.map D.n);rw [aL] at BQ;have hfl:=wz ds;have hfi:=Pm ds;rw [aL] at hfi;rw [<- hfi] at hw
 have hso:(dec ((V.op .comp e (.lit 0)).den E.ρ))=dL (r8 ds):=by simp only [V.den,e9.den,bB,s7];rfl
 obtain⟨Ax,rl1⟩:=fD r ho (.vec (.op .comp e (.lit 0)) 0 ty []) (.cells (putCells (Value.int .i64) (E.θ id).2 ((r8 ds).map D.n).toArray arr) ty (lo,hi)) (by
  intro h' Ci _
  have Hg:(bE E.ρ (rowOf 0) [] (r8 ds) 0).length=ds.length:=by have:=(yU (E:=E) (h:=h') (ds:=r8 ds) (i:=0)).length;rw [aL,wz] at this;omega
  simp only [OR];rw [hso,bJ];refine⟨⟨qz,by rw [bJ],?_,?_⟩,_,lo,hi,(r8 ds).map fun d=>Value.int .i64 d.n,Ci,yU,?_,by rw [Hg]; exact hκ',by simp [putCells]; omega,?_,?_⟩
  ·intro d uu;rw [bJ] at uu;unfold r8 at uu;rcases amW.1 uu with uu|uu
   ·unfold gk at uu;obtain⟨z,_,rfl⟩:=aH.1 uu;rfl
   ·rw [(List.mem_replicate.1 uu).2];rfl
  ·rw [bJ];intro hn;have:=congrArg List.length hn;rw [wz] at this;exact jT this
  ·intro i u hi';obtain⟨dX,hiu⟩:=aX.1 hi';rw [aL] at dX;have alF:i<ds.length:=by rw [wz] at dX; exact dX
   have hai:(E.θ id).2+i<arr.size:=J
   unfold putCells;rw [aoW,aoi hai,br]
   have hc:(E.θ id).2<=(E.θ id).2+i/\(E.θ id).2+i<(E.θ id).2+((r8 ds).map D.n).toArray.size:=by
    constructor
    ·omega
    ·simp; omega
   rw [ag hc,an3,<- hiu];simp [dX]
  ·intro o U Z;have:=RH o U Z;simpa [putCells] using this
  ·intro u hu';obtain⟨d,_,rfl⟩:=aH.1 hu'
   rfl)
 have hbw:Below ({ w with heap:=w.heap.setIfInBounds (E.θ id).1 (.cells (putCells (Value.int .i64) (E.θ id).2 ((r8 ds).map D.n).toArray arr) ty (lo,hi)) }:World).heap.size { w with heap:=w.heap.setIfInBounds (E.θ id).1 (.cells (putCells (Value.int .i64) (E.θ id).2 ((r8 ds).map D.n).toArray arr) ty (lo,hi)) } w':=by
  subst hw;refine⟨rfl,rfl,rfl,?_,fun x hx=>?_⟩
  ·simp [putRow,mapBlock,Sort.ahead]
  ·simp only [aoX] at hx;simp only [putRow,mapBlock,Sort.ahead];rw [anR,an1];by_cases he:(E.θ id).1=x
   ·subst he;rw [ag rfl,ag rfl,ag hx,hb];rfl
   ·rw [af he,af he]
 obtain⟨qR,rl2⟩:=nv rl1 hbw;refine⟨Ax.trans qR,rl2,?_⟩;simp only [VR];refine⟨qA,0,(Lib.compact (ds.map D.n)).length,_,cap,rfl,?_,rfl,J,?_⟩
 ·simp only [V.den,e9.den,bB,s7,gk,aL]
 ·simp only [eD] at acB ⊢;rcases acB with ⟨_,h⟩|⟨_,h,_⟩
  ·left;exact⟨ad,by simpa using h⟩
  ·omega
end
end
end Go.As
end

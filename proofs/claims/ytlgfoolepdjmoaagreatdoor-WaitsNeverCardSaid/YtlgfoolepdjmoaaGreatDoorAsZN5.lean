import Derived.Shelf.Sort.Plain
import Derived.Shelf.Slices.CompactI
import Derived.Sort.Row
import Derived.Sort.Grow
import Derived.Test.YtlgfoolepdjmoaaGreatDoorAsZN4
set_option linter.unusedSectionVars false
set_option linter.unusedVariables false
set_option linter.unusedSimpArgs false
section
namespace Go.As.Try
open Go Go.As Go.Proofs Go.RowKit
set_option maxRecDepth 100000
def Re:List W:=[.str [109,117,116,101,120,32,109,59,32,109,117,116,101,120,32,110,59,32,116,104,114,101,97,100,32,97,32,123,32,108,111,99,107,32,109,59,32,108,111,99,107,32,110,59,32,125,32,116,104,114,101,97,100,32,98,32,123,32,108,111,99,107,32,110,59,32,108,111,99,107,32,109,59,32,125]]
theorem ait:Ba Re (.agg [.ro [.int .u8 (.lit 1),.str [109],.int .i64 (.lit 0),.str [],.int .i64 (.lit 1),.int .u8 (.lit 1),.str [110],.int .i64 (.lit 0),.str [],.int .i64 (.lit 1)] 2 false,.ro [.str [97],.dv,.ro [.int .u8 (.lit 1),.int .u8 (.lit 1),.int .i64 (.lit 0),.int .i64 (.lit (-1)),.int .i64 (.lit 0),.int .i64 (.lit 0),.dv,.int .u8 (.lit 1),.int .u8 (.lit 1),.int .i64 (.lit 1),.int .i64 (.lit (-1)),.int .i64 (.lit 0),.int .i64 (.lit 0),.dv] 2 false,.str [98],.dv,.ro [.int .u8 (.lit 1),.int .u8 (.lit 1),.int .i64 (.lit 1),.int .i64 (.lit (-1)),.int .i64 (.lit 0),.int .i64 (.lit 0),.dv,.int .u8 (.lit 1),.int .u8 (.lit 1),.int .i64 (.lit 0),.int .i64 (.lit (-1)),.int .i64 (.lit 0),.int .i64 (.lit 0),.dv] 2 false] 2 false]) (W4 39)=true:=aa
def Rc:List W:=[.str [109,117,116,101,120,32,109,59,32,116,104,114,101,97,100,32,97,32,123,32,108,111,99,107,32,109,59,32,125,32,116,104,114,101,97,100,32,98,32,123,32,108,111,99,107,32,109,59,32,125]]
theorem ais:Ba Rc (.agg [.ro [.int .u8 (.lit 1),.str [109],.int .i64 (.lit 0),.str [],.int .i64 (.lit 1)] 1 false,.ro [.str [97],.dv,.ro [.int .u8 (.lit 1),.int .u8 (.lit 1),.int .i64 (.lit 0),.int .i64 (.lit (-1)),.int .i64 (.lit 0),.int .i64 (.lit 0),.dv] 1 false,.str [98],.dv,.ro [.int .u8 (.lit 1),.int .u8 (.lit 1),.int .i64 (.lit 0),.int .i64 (.lit (-1)),.int .i64 (.lit 0),.int .i64 (.lit 0),.dv] 1 false] 2 false]) (W4 39)=true:=aa
def Rb:List W:=[.str [109,117,116,101,120,32,109,59,32,116,104,114,101,97,100,32,97,32,123,32,108,111,99,107,32,109,59,32,125,32,116,104,114,101,97,100,32,98,32,123,32,108,111,99,107,102,111,114,32,109,32,51,32,45,62,32,120,59,32,125]]
theorem air:Ba Rb (.agg [.ro [.int .u8 (.lit 1),.str [109],.int .i64 (.lit 0),.str [],.int .i64 (.lit 1)] 1 false,.ro [.str [97],.dv,.ro [.int .u8 (.lit 1),.int .u8 (.lit 1),.int .i64 (.lit 0),.int .i64 (.lit (-1)),.int .i64 (.lit 0),.int .i64 (.lit 0),.dv] 1 false,.str [98],.ro [.str [120]] 1 false,.ro [.int .u8 (.lit 1),.int .u8 (.lit 4),.int .i64 (.lit 0),.int .i64 (.lit 0),.int .i64 (.lit 0),.int .i64 (.lit 0),.ro [.int .u8 (.lit 1),.str [],.int .i64 (.lit 3),.dv] 1 false] 1 false] 2 false]) (W4 39)=true:=aa
def QO:List (List W×W):=[(Re,.agg [.ro [.int .u8 (.lit 1),.str [109],.int .i64 (.lit 0),.str [],.int .i64 (.lit 1),.int .u8 (.lit 1),.str [110],.int .i64 (.lit 0),.str [],.int .i64 (.lit 1)] 2 false,.ro [.str [97],.dv,.ro [.int .u8 (.lit 1),.int .u8 (.lit 1),.int .i64 (.lit 0),.int .i64 (.lit (-1)),.int .i64 (.lit 0),.int .i64 (.lit 0),.dv,.int .u8 (.lit 1),.int .u8 (.lit 1),.int .i64 (.lit 1),.int .i64 (.lit (-1)),.int .i64 (.lit 0),.int .i64 (.lit 0),.dv] 2 false,.str [98],.dv,.ro [.int .u8 (.lit 1),.int .u8 (.lit 1),.int .i64 (.lit 1),.int .i64 (.lit (-1)),.int .i64 (.lit 0),.int .i64 (.lit 0),.dv,.int .u8 (.lit 1),.int .u8 (.lit 1),.int .i64 (.lit 0),.int .i64 (.lit (-1)),.int .i64 (.lit 0),.int .i64 (.lit 0),.dv] 2 false] 2 false]),(Rc,.agg [.ro [.int .u8 (.lit 1),.str [109],.int .i64 (.lit 0),.str [],.int .i64 (.lit 1)] 1 false,.ro [.str [97],.dv,.ro [.int .u8 (.lit 1),.int .u8 (.lit 1),.int .i64 (.lit 0),.int .i64 (.lit (-1)),.int .i64 (.lit 0),.int .i64 (.lit 0),.dv] 1 false,.str [98],.dv,.ro [.int .u8 (.lit 1),.int .u8 (.lit 1),.int .i64 (.lit 0),.int .i64 (.lit (-1)),.int .i64 (.lit 0),.int .i64 (.lit 0),.dv] 1 false] 2 false]),(Rb,.agg [.ro [.int .u8 (.lit 1),.str [109],.int .i64 (.lit 0),.str [],.int .i64 (.lit 1)] 1 false,.ro [.str [97],.dv,.ro [.int .u8 (.lit 1),.int .u8 (.lit 1),.int .i64 (.lit 0),.int .i64 (.lit (-1)),.int .i64 (.lit 0),.int .i64 (.lit 0),.dv] 1 false,.str [98],.ro [.str [120]] 1 false,.ro [.int .u8 (.lit 1),.int .u8 (.lit 4),.int .i64 (.lit 0),.int .i64 (.lit 0),.int .i64 (.lit 0),.int .i64 (.lit 0),.ro [.int .u8 (.lit 1),.str [],.int .i64 (.lit 3),.dv] 1 false] 1 false] 2 false])]
noncomputable def X3 (g:Nat):Option (List W->St->T (W×St)):=
 match Nat.beq g 39 with
 |true=>some (orElse (BP QO) (W4 39))
 |false=>Rq g
theorem X2 (I:bG) (hI: ∀ρ ro h,I.ok ρ ro h->base.ok ro h): ∀(g:Nat) (h:List W->St->T (W×St)),X3 g=some h->@ik I Tryz.prog g h:=by
 intro g h hh;letI:=I;unfold X3 at hh;split at hh
 ·rename_i hg;have:=aq hg;subst this;simp only [ag] at hh;subst hh;obtain⟨c,hb⟩:=oT (f:=Tryz.f39) aa;refine ng (Xy (PZ I hI 39) (fn:=Tryz.f39) (qP aa ae) aa hb fun p hp=>?_) (PZ I hI 39);simp only [QO,aw,amI,or_false] at hp;rcases hp with rfl|rfl|rfl
  ·exact ait
  ·exact ais
  ·exact air
 ·skip;exact Lw I hI g h hh
noncomputable def ah0 (g:Nat):List W->St->T (W×St):=FV VG ft X3 (EX VG hints) 100000 60 g
theorem L! (I:bG) (hI: ∀ρ ro h,I.ok ρ ro h->base.ok ro h) (g:Nat):@ik I Tryz.prog g (ah0 g):=@wI _ I _ yx _ _ LN _ (X2 I hI) _ (fun _ hc=>@vF _ I _ yx mixed _ _ hc) 100000 60 g
end Go.As.Try
end
section
namespace Go.Proofs
open Go.Shelf
set_option maxRecDepth 100000
def Tryz.lays189_ren:Go.Shelf.Ren:=⟨fun|189=>57|125=>72|257=>71|128=>136|129=>137|294=>127|295=>128|296=>129|297=>130|298=>131|299=>132|216=>133|300=>134|301=>135|328=>162|329=>163|330=>164|331=>165|332=>166|215=>167|343=>187|n=>n,fun|28=>26|3=>3|46=>142|0=>0|51=>197|53=>199|4=>4|183=>189|182=>188|131=>194|5=>5|9=>9|218=>233|222=>237|228=>259|229=>260|n=>n,fun|n=>n⟩
theorem Tryz.lays189:Go.Proofs.Lays.n189 Tryz.prog Tryz.lays189_ren:={
 mixed:=aa
 f125:=Tryz.func72.trans (congrArg some aa)
 f128:=Tryz.func136.trans (congrArg some aa)
 f129:=Tryz.func137.trans (congrArg some aa)
 f189:=Tryz.func57.trans (congrArg some aa)
 f215:=Tryz.func167.trans (congrArg some aa)
 f216:=Tryz.func133.trans (congrArg some aa)
 f257:=Tryz.func71.trans (congrArg some aa)
 f294:=Tryz.func127.trans (congrArg some aa)
 f295:=Tryz.func128.trans (congrArg some aa)
 f296:=Tryz.func129.trans (congrArg some aa)
 f297:=Tryz.func130.trans (congrArg some aa)
 f298:=Tryz.func131.trans (congrArg some aa)
 f299:=Tryz.func132.trans (congrArg some aa)
 f300:=Tryz.func134.trans (congrArg some aa)
 f301:=Tryz.func135.trans (congrArg some aa)
 f328:=Tryz.func162.trans (congrArg some aa)
 f329:=Tryz.func163.trans (congrArg some aa)
 f330:=Tryz.func164.trans (congrArg some aa)
 f331:=Tryz.func165.trans (congrArg some aa)
 f332:=Tryz.func166.trans (congrArg some aa)
 f343:=Tryz.func187.trans (congrArg some aa)
 t0:=Tryz.underlying0
 a0:=Tryz.isAgg0
 z0:=Tryz.sizeOf0
 v0:=Tryz.zeroValue0
 t3:=Tryz.underlying3
 a3:=Tryz.isAgg3
 z3:=Tryz.sizeOf3
 v3:=Tryz.zeroValue3
 t4:=Tryz.underlying4
 a4:=Tryz.isAgg4
 z4:=Tryz.sizeOf4
 v4:=Tryz.zeroValue4
 t5:=Tryz.underlying5
 a5:=Tryz.isAgg5
 z5:=Tryz.sizeOf5
 v5:=Tryz.zeroValue5
 t9:=Tryz.underlying9
 a9:=Tryz.isAgg9
 z9:=Tryz.sizeOf9
 v9:=Tryz.zeroValue9
 t28:=Tryz.underlying26
 a28:=Tryz.isAgg26
 z28:=Tryz.sizeOf26
 v28:=Tryz.zeroValue26
 t46:=Tryz.underlying142
 a46:=Tryz.isAgg142
 z46:=Tryz.sizeOf142
 v46:=Tryz.zeroValue142
 t51:=Tryz.underlying197
 a51:=Tryz.isAgg197
 z51:=Tryz.sizeOf197
 v51:=Tryz.zeroValue197
 t53:=Tryz.underlying199
 a53:=Tryz.isAgg199
 z53:=Tryz.sizeOf199
 v53:=Tryz.zeroValue199
 t131:=Tryz.underlying194
 a131:=Tryz.isAgg194
 z131:=Tryz.sizeOf194
 v131:=Tryz.zeroValue194
 t182:=Tryz.underlying188
 a182:=Tryz.isAgg188
 z182:=Tryz.sizeOf188
 v182:=Tryz.zeroValue188
 t183:=Tryz.underlying189
 a183:=Tryz.isAgg189
 z183:=Tryz.sizeOf189
 v183:=Tryz.zeroValue189
 t218:=Tryz.underlying233
 a218:=Tryz.isAgg233
 z218:=Tryz.sizeOf233
 v218:=Tryz.zeroValue233
 t222:=Tryz.underlying237
 a222:=Tryz.isAgg237
 z222:=Tryz.sizeOf237
 v222:=Tryz.zeroValue237
 t228:=Tryz.underlying259
 a228:=Tryz.isAgg259
 z228:=Tryz.sizeOf259
 v228:=Tryz.zeroValue259
 t229:=Tryz.underlying260
 a229:=Tryz.isAgg260
 z229:=Tryz.sizeOf260
 v229:=Tryz.zeroValue260 }
def Tryz.laysNm220_ren:Go.Shelf.Ren:=⟨fun|20=>58|n=>n,fun|22=>26|3=>3|4=>4|0=>0|n=>n,fun|n=>n⟩
theorem Tryz.laysNm220:Go.Proofs.Lays2.n20 Tryz.prog Tryz.laysNm220_ren:={
 mixed:=aa
 f20:=Tryz.func58.trans (congrArg some aa)
 t0:=Tryz.underlying0
 a0:=Tryz.isAgg0
 z0:=Tryz.sizeOf0
 v0:=Tryz.zeroValue0
 t3:=Tryz.underlying3
 a3:=Tryz.isAgg3
 z3:=Tryz.sizeOf3
 v3:=Tryz.zeroValue3
 t4:=Tryz.underlying4
 a4:=Tryz.isAgg4
 z4:=Tryz.sizeOf4
 v4:=Tryz.zeroValue4
 t22:=Tryz.underlying26
 a22:=Tryz.isAgg26
 z22:=Tryz.sizeOf26
 v22:=Tryz.zeroValue26
 i3:=by kernel_rfl }
end Go.Proofs
end
section
namespace Go.As
noncomputable section
open Go.RowKit Go.Sort
def QL (n e:V):Bool:=match eT n (dO e) with
 |true=>true
 |false=>match e with
  | .op o a _=>match o with
    | .sort=>eT n (dO a)
    |_=>false
  |_=>false
def zr:List W->St->T (W×St):=fun args s=>match args with
 |[v]=>match v with
  | .oq id n t=>match s.h.get id with
    |some o=>match o with
     | .vec e t' ty ov=>match ov with
       |[]=>match QL n e&&Nat.beq t' 0 with
        |true=>jn s (gV (dO e) (.lit 1000000)) fun s b=>match b with
         |true=> .ret (.tuple [],{ s with h:=s.h.put id (.vec (.op .sort e (.lit 0)) 0 ty []) })
         |false=> .fail
        |false=> .fail
       |_=> .fail
     |_=> .fail
    |none=> .fail
  |_=> .fail
 |_=> .fail
theorem IY {E:En} {h:Array Obj}: ∀{ds:List D} {i:Nat} {us:List Value},(∀d∈ds,oI (rowOf 0) d)->cw E h (bD E.ρ (rowOf 0) [] ds i) us->us=ds.map fun d=>Value.int .i64 d.n
 |[],i,us,_,hv=>by simp only [bD,fP] at hv; simp [hv]
 |d::ds,i,us,hw,hv=>by simp only [bD,dY] at hv;obtain⟨us1,us2,rfl,U,Z⟩:=hv.split;rw [fy] at U;simp only [rowOf,uD,V.den] at U;obtain⟨u,rfl,U⟩:=U;rw [IY (fun x hx=>hw x (anv _ hx)) Z];simp only [bB,iJ] at U;subst U;rfl
theorem zd {E:En} {h:Array Obj}: ∀{ds:List D} {i:Nat},cw E h (bD E.ρ (rowOf 0) [] ds i) (ds.map fun d=>Value.int .i64 d.n)
 |[],i=>by simp only [bD,anr,fP]
 |d::ds,i=>by
  simp only [bD,dY,ax]
  have U:cw E h (gz (rowOf 0) (.eg d)) [Value.int .i64 d.n]:=by rw [fy];simp only [rowOf,uD,V.den,bB,iJ];exact⟨_,rfl,rfl⟩
  exact U.append zd
theorem wM (l:List D):(eN l).length=l.length:=by simp [eN,aoF]
theorem Lb {n e:V} (ρ:Nat->Int) (h:QL n e=true):n.den ρ=((dec (e.den ρ)).l.length:Int):=by
 unfold QL at h;split at h
 ·rename_i hq;rw [cH _ _ hq,cl]
 ·split at h
  ·split at h
   ·rw [cH _ _ h,cl];simp only [V.den,eZ.den,bB,bI,wM]
   ·simp at h
  ·simp at h
theorem Pc (l:List D):(eN l).map D.n=(l.map D.n).mergeSort fun x y=>decide (x<=y):=by unfold eN;rw [amQ];exact anb _
def zt:List W->St->T (W×St):=fun args s=>match args with
 |[v]=>match v with
  | .oq id n t=>match s.h.get id with
    |some o=>match o with
     | .vec e t' ty ov=>match ov with
       |[]=>match QL n e&&Nat.beq t' 0 with
        |true=>jn s (gV (dO e) (.lit 1000000)) fun s b=>match b with
         |true=> .ret (.sD id (.lit 0) (.op .Ms e (.lit 0)) t,{ s with h:=s.h.put id (.vec (.op .comp e (.lit 0)) 0 ty []) })
         |false=> .fail
        |false=> .fail
       |_=> .fail
     |_=> .fail
    |none=> .fail
  | .dv=> .ret (.dv,s)
  |_=> .fail
 |_=> .fail
theorem Sq (l:List Int):(Lib.compact l).length<=l.length:=by unfold Lib.compact Lib.compactUpTo;rw [aP];exact bk (aox ..) ad
def sq (l:List D):List D:=gg l++List.replicate (l.length-(gg l).length) (.i 0)
theorem wO (l:List D):(sq l).length=l.length:=by have:=Sq (l.map D.n);rw [aP] at this;simp only [sq,gg,aZ,am1,aP];omega
theorem Pe (l:List D):(sq l).map D.n=Lib.compact (l.map D.n)++List.replicate ((l.map D.n).length-(Lib.compact (l.map D.n)).length) 0:=by simp only [sq,gg,amT,amQ,List.map_replicate,aP];congr 1;exact anb _
section
variable {P:Program}
theorem Lt [bG] {g:FuncId} (hg: ∀(kE off cap:Nat) (zs:List Int) (w:World),Holds (Value.int .i64) w kE off zs.toArray->kE<w.heap.size->zs.length<4611686018427387904->
 Calls P g #[.slice (some ⟨kE,off,none⟩) zs.length cap] w fun e w'=>e= .returned (.tuple #[])/\∃n os,w'=grow (putRow (Value.int .i64) (Sort.ahead w n) kE off (zs.mergeSort fun x y=>decide (x<=y)).toArray) os)
 (jx: ∀(args:Array Value) (w:World),(callFunc g args).run P w= .ok (.enter g args) w):ik P g zr:=by
 intro amB s E w vals v s' r hv hp Y;unfold zr at Y;split at Y<;>try (simp [T.leaf] at Y; done)
 split at Y<;>try (simp [T.leaf] at Y; done)
 rename_i id n t;split at Y<;>try (simp [T.leaf] at Y; done)
 rename_i o ho;split at Y<;>try (simp [T.leaf] at Y; done)
 rename_i e t' ty ov;split at Y<;>try (simp [T.leaf] at Y; done)
 split at Y<;>try (simp [T.leaf] at Y; done)
 rename_i hq;simp only [an] at hq;obtain⟨hq1,X0⟩:=hq;have hn:=Lb E.ρ hq1;have ht:=aq X0;subst ht;obtain⟨fI,fq,Y⟩:=cE hp Y;split at Y<;>try (simp [T.leaf] at Y; done)
 rename_i fD;rw [dU] at fD;simp only [cl,V.den,decide_eq_true_eq] at fD;have:=bC Y;simp only [ak] at this;obtain⟨rfl,rfl⟩:=this;simp only [bO,fP,VR] at hv;obtain⟨u1,r1,rfl,⟨hd,k,a,cap,hk,rfl,hle,fV⟩,rfl⟩:=hv;obtain⟨qI,Ro,jy⟩:=r.live id _ ho;simp only [OR] at Ro;obtain⟨⟨qH,rH⟩,arr,lo,hi,us,hb,Rk,BS,hκ,gT,RA,uB⟩:=Ro;have jU:(dec (e.den E.ρ)).l.length≠0:=fun h=>rH.2.2 (aoG.1 h);have hu:=IY rH.2.1 Rk;have hul:=Rk.length;rw [hn] at hk;generalize tf:(dec (e.den E.ρ)).l=ds at *;have I5:k=ds.length:=J
 have ha:a=⟨(E.θ id).1,(E.θ id).2,none⟩:=by
  simp only [eC] at fV;rcases fV with ⟨h,_⟩|⟨_,h,_⟩
  ·simpa using h
  ·omega
 subst ha I5
 have hκ':ds.length<=E.κ id:=by rw [hu,aP] at hul;omega
 have hH:Holds (Value.int .i64) w (E.θ id).1 (E.θ id).2 (ds.map D.n).toArray:=by
  intro j hj;have hj:j<ds.length:=by simpa using hj
  have U:arr[(E.θ id).2+j]?=some (.int .i64 (ds[j]).n):=by apply BS;rw [hu];simp [hj]
  constructor
  ·rw [lF];unfold iW;rw [hb];simp only;rw [U];simp [hj]
  ·unfold World.frozen?;simp only [hb];have:=(amK.1 U).1;simp only [aob,decide_eq_false_iff_not];by_cases mH:lo<=(E.θ id).2+j
   ·right;intro hh;have:=RA _ mH hh;omega
   ·left;exact mH
 have LF:=fm r ho;refine⟨rfl,fq,?_⟩;unfold jE lI;rw [jx];have hc:=hg (E.θ id).1 (E.θ id).2 cap (ds.map D.n) w hH LF (by rw [aP]; omega);rw [aP] at hc;refine Calls.mono hc fun e' w' ⟨he,m,os,hw⟩=> ⟨_,he,E,?_⟩;have aiS:(eN ds).map D.n=(ds.map D.n).mergeSort fun x y=>decide (x<=y):=Pc ds;rw [<- aiS] at hw
 have hso:(dec ((V.op .sort e (.lit 0)).den E.ρ))=dL (eN ds):=by simp only [V.den,eZ.den,bB,tf]
 obtain⟨AF,rl1⟩:=fC r ho (.vec (.op .sort e (.lit 0)) 0 ty []) (.cells (putCells (Value.int .i64) (E.θ id).2 ((eN ds).map D.n).toArray arr) ty (lo,hi)) (by
  intro h' El _
  have G7:(bD E.ρ (rowOf 0) [] (eN ds) 0).length=ds.length:=by have:=(zd (E:=E) (h:=h') (ds:=eN ds) (i:=0)).length;rw [aP,wM] at this;omega
  simp only [OR];rw [hso,bI];refine⟨⟨qH,by rw [bI],?_,?_⟩,_,lo,hi,(eN ds).map fun d=>Value.int .i64 d.n,El,zd,?_,by rw [G7]; exact hκ',by simp [putCells]; omega,?_,?_⟩
  ·intro d uI;rw [bI] at uI;unfold eN at uI;obtain⟨z,_,rfl⟩:=aK.1 uI;rfl
  ·rw [bI];intro hn;have:=congrArg List.length hn;rw [wM] at this;exact jU this
  ·intro i u hi';obtain⟨ep,hiu⟩:=aW.1 hi';rw [aP] at ep;have alr:i<ds.length:=by rw [wM] at ep; exact ep
   have hai:(E.θ id).2+i<arr.size:=J
   unfold putCells;rw [aoH,an3 hai,bq]
   have hc:(E.θ id).2<=(E.θ id).2+i/\(E.θ id).2+i<(E.θ id).2+((eN ds).map D.n).toArray.size:=by
    constructor
    ·omega
    ·simp; omega
   rw [ah hc,anP,<- hiu];simp [ep]
  ·intro o U Z;have:=RA o U Z;simpa [putCells] using this
  ·intro u hu';obtain⟨d,_,rfl⟩:=aK.1 hu'
   rfl)
 have hbw:Below ({ w with heap:=w.heap.setIfInBounds (E.θ id).1 (.cells (putCells (Value.int .i64) (E.θ id).2 ((eN ds).map D.n).toArray arr) ty (lo,hi)) }:World).heap.size { w with heap:=w.heap.setIfInBounds (E.θ id).1 (.cells (putCells (Value.int .i64) (E.θ id).2 ((eN ds).map D.n).toArray arr) ty (lo,hi)) } w':=by
  subst hw;refine⟨rfl,rfl,rfl,?_,fun x hx=>?_⟩
  ·simp [grow,putRow,mapBlock,Sort.ahead]
  ·simp only [aoI] at hx;simp only [grow,putRow,mapBlock,Sort.ahead];rw [aog (by simpa using hx),anB,anN];by_cases he:(E.θ id).1=x
   ·subst he;rw [ah rfl,ah rfl,ah hx,hb];rfl
   ·rw [af he,af he]
 obtain⟨qZ,rl2⟩:=nt rl1 hbw;exact⟨AF.trans qZ,rl2,by simp only [VR,cw]; exact⟨[],rfl,rfl⟩⟩
theorem Lv [bG] {g:FuncId} (hg: ∀(kE off cap:Nat) (zs:List Int) (w:World),Holds (Value.int .i64) w kE off zs.toArray->zs.length<=9223372036854775807->zs.length<=cap->
 Calls P g #[.slice (some ⟨kE,off,none⟩) zs.length cap] w fun e w'=>e= .returned (.slice (some ⟨kE,off,none⟩) (Lib.compact zs).length cap)/\∃q,w'=putRow (Value.int .i64) (Sort.ahead w q) kE off (Lib.compact zs++List.replicate (zs.length-(Lib.compact zs).length) 0).toArray)
 (hg0: ∀(a:Option Addr) (cap:Nat) (w:World),Calls P g #[.slice a 0 cap] w fun e w'=>e= .returned (.slice a 0 cap)/\w'=w)
 (jx: ∀(args:Array Value) (w:World),(callFunc g args).run P w= .ok (.enter g args) w):ik P g zt:=by
 intro amB s E w vals v s' r hv hp Y;unfold zt at Y;split at Y<;>try (simp [T.leaf] at Y; done)
 split at Y<;>try (simp [T.leaf] at Y; done)
 rotate_left
 ·have:=bC Y;simp only [ak] at this;obtain⟨rfl,rfl⟩:=this;simp only [bO,fP,VR] at hv;obtain⟨u1,r1,rfl,rfl,rfl⟩:=hv;refine⟨rfl,hp,?_⟩;unfold jE lI;rw [jx];exact Calls.mono (hg0 none 0 w) fun e' w' ⟨he,hw⟩=> ⟨_,he,E,by subst hw; exact eS.refl _ _ _,by subst hw; exact r,by simp only [VR]⟩
 rename_i id n t;split at Y<;>try (simp [T.leaf] at Y; done)
 rename_i o ho;split at Y<;>try (simp [T.leaf] at Y; done)
 rename_i e t' ty ov;split at Y<;>try (simp [T.leaf] at Y; done)
 split at Y<;>try (simp [T.leaf] at Y; done)
 rename_i hq;simp only [an] at hq;obtain⟨hq1,X0⟩:=hq;have hn:=Lb E.ρ hq1;have ht:=aq X0;subst ht;obtain⟨fI,fq,Y⟩:=cE hp Y;split at Y<;>try (simp [T.leaf] at Y; done)
 rename_i fD;rw [dU] at fD;simp only [cl,V.den,decide_eq_true_eq] at fD;have:=bC Y;simp only [ak] at this;obtain⟨rfl,rfl⟩:=this;simp only [bO,fP,VR] at hv;obtain⟨u1,r1,rfl,⟨hd,k,a,cap,hk,rfl,hle,fV⟩,rfl⟩:=hv;obtain⟨qI,Ro,jy⟩:=r.live id _ ho;simp only [OR] at Ro;obtain⟨⟨qH,rH⟩,arr,lo,hi,us,hb,Rk,BS,hκ,gT,RA,uB⟩:=Ro;have jU:(dec (e.den E.ρ)).l.length≠0:=fun h=>rH.2.2 (aoG.1 h);have hu:=IY rH.2.1 Rk;have hul:=Rk.length;rw [hn] at hk;generalize tf:(dec (e.den E.ρ)).l=ds at *;have I5:k=ds.length:=J
 have ab0:=fV
 have ha:a=⟨(E.θ id).1,(E.θ id).2,none⟩:=by
  simp only [eC] at fV;rcases fV with ⟨h,_⟩|⟨_,h,_⟩
  ·simpa using h
  ·omega
 subst ha I5
 have hκ':ds.length<=E.κ id:=by rw [hu,aP] at hul;omega
 have hH:Holds (Value.int .i64) w (E.θ id).1 (E.θ id).2 (ds.map D.n).toArray:=by
  intro j hj;have hj:j<ds.length:=by simpa using hj
  have U:arr[(E.θ id).2+j]?=some (.int .i64 (ds[j]).n):=by apply BS;rw [hu];simp [hj]
  constructor
  ·rw [lF];unfold iW;rw [hb];simp only;rw [U];simp [hj]
  ·unfold World.frozen?;simp only [hb];have:=(amK.1 U).1;simp only [aob,decide_eq_false_iff_not];by_cases mH:lo<=(E.θ id).2+j
   ·right;intro hh;have:=RA _ mH hh;omega
   ·left;exact mH
 refine⟨rfl,fq,?_⟩;unfold jE lI;rw [jx];have hc:=hg (E.θ id).1 (E.θ id).2 cap (ds.map D.n) w hH (by rw [aP]; omega) (by rw [aP]; exact hle);rw [aP] at hc;refine Calls.mono hc fun e' w' ⟨he,m,hw⟩=> ⟨_,he,E,?_⟩;have BX:=Sq (ds.map D.n);rw [aP] at BX;have hfl:=wO ds;have hfi:=Pe ds;rw [aP] at hfi;rw [<- hfi] at hw
 have hso:(dec ((V.op .comp e (.lit 0)).den E.ρ))=dL (sq ds):=by simp only [V.den,eZ.den,bB,tf];rfl
 obtain⟨AF,rl1⟩:=fC r ho (.vec (.op .comp e (.lit 0)) 0 ty []) (.cells (putCells (Value.int .i64) (E.θ id).2 ((sq ds).map D.n).toArray arr) ty (lo,hi)) (by
  intro h' El _
  have G7:(bD E.ρ (rowOf 0) [] (sq ds) 0).length=ds.length:=by have:=(zd (E:=E) (h:=h') (ds:=sq ds) (i:=0)).length;rw [aP,wO] at this;omega
  simp only [OR];rw [hso,bI];refine⟨⟨qH,by rw [bI],?_,?_⟩,_,lo,hi,(sq ds).map fun d=>Value.int .i64 d.n,El,zd,?_,by rw [G7]; exact hκ',by simp [putCells]; omega,?_,?_⟩
  ·intro d uI;rw [bI] at uI;unfold sq at uI;rcases amC.1 uI with uI|uI
   ·unfold gg at uI;obtain⟨z,_,rfl⟩:=aK.1 uI;rfl
   ·rw [(List.mem_replicate.1 uI).2];rfl
  ·rw [bI];intro hn;have:=congrArg List.length hn;rw [wO] at this;exact jU this
  ·intro i u hi';obtain⟨ep,hiu⟩:=aW.1 hi';rw [aP] at ep;have alr:i<ds.length:=by rw [wO] at ep; exact ep
   have hai:(E.θ id).2+i<arr.size:=J
   unfold putCells;rw [aoH,an3 hai,bq]
   have hc:(E.θ id).2<=(E.θ id).2+i/\(E.θ id).2+i<(E.θ id).2+((sq ds).map D.n).toArray.size:=by
    constructor
    ·omega
    ·simp; omega
   rw [ah hc,anP,<- hiu];simp [ep]
  ·intro o U Z;have:=RA o U Z;simpa [putCells] using this
  ·intro u hu';obtain⟨d,_,rfl⟩:=aK.1 hu'
   rfl)
 have hbw:Below ({ w with heap:=w.heap.setIfInBounds (E.θ id).1 (.cells (putCells (Value.int .i64) (E.θ id).2 ((sq ds).map D.n).toArray arr) ty (lo,hi)) }:World).heap.size { w with heap:=w.heap.setIfInBounds (E.θ id).1 (.cells (putCells (Value.int .i64) (E.θ id).2 ((sq ds).map D.n).toArray arr) ty (lo,hi)) } w':=by
  subst hw;refine⟨rfl,rfl,rfl,?_,fun x hx=>?_⟩
  ·simp [putRow,mapBlock,Sort.ahead]
  ·simp only [aoI] at hx;simp only [putRow,mapBlock,Sort.ahead];rw [anB,anN];by_cases he:(E.θ id).1=x
   ·subst he;rw [ah rfl,ah rfl,ah hx,hb];rfl
   ·rw [af he,af he]
 obtain⟨qZ,rl2⟩:=nt rl1 hbw;refine⟨AF.trans qZ,rl2,?_⟩;simp only [VR];refine⟨qI,0,(Lib.compact (ds.map D.n)).length,_,cap,rfl,?_,rfl,J,?_⟩
 ·simp only [V.den,eZ.den,bB,tf,gg,aP]
 ·simp only [eC] at ab0 ⊢;rcases ab0 with ⟨_,h⟩|⟨_,h,_⟩
  ·left;exact⟨ad,by simpa using h⟩
  ·omega
end
end
end Go.As
end

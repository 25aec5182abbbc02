/-
  Proved: the given card of the law SystemGrows: whatever the input, the call returns true and each argument reads afterwards as it did. Conditions: those of the given row alone (its listed package-level variables start as the program's text lays them; each string, slice and map that is handed in lies within a process's addresses).
-/
import GoSem.Claim
import Derived.Orders
import Derived.Scope
import Derived.LoopN
import Derived.Below
import GoSem.Core.View
import GoSem.Core.Layout
import GoSem.Op.Equal
import Derived.WalkKit
import Derived.Lib.Strings
import Derived.Laws.IdiomStrings
import Derived.Laws.RangeString
import Derived.Laws.StructEq
import Derived.Lib.Bytealg
import Derived.Lib.IndexMore
import Derived.Deep.LoopGhost
import Derived.IntWalk
import Derived.ChangeArms
import Derived.DataReads
import GoSem.ClaimJoined
import Derived.KernelRfl
import Derived.Test.YtdcafdkkpdadbaaGreatDoorProg
import Derived.Shelf.Strings.Search3
import Derived.Shelf.LaysM
import Derived.Shelf.Strings.Shaped
import Derived.Test.YtdcafdkkpdadbaaGreatDoorCards
import Derived.Test.YtdcafdkkpdadbaaGreatDoorTie
import Derived.ProofKit
import Derived.OpenShut
import Derived.Deep.DeepHandedRow
import Derived.LaidLaws
import Derived.Test.YtdcafdkkpdadbaaGreatDoorAsZG9
set_option linter.unusedSectionVars false
set_option linter.unusedVariables false
set_option linter.unusedSimpArgs false
section
namespace Go.As.Try
open Go hiding Stat Spec shape
open Go.As
set_option maxRecDepth 100000
def oJ (x:D):D:=dL [.i 0,if (x.hd 1).l.length=0 then .i 2 else dL (List.replicate (x.hd 1).l.length (.i 0)),.i 0,.i 0,.i 0,.i 0]
def oU (d0:D):D:=if d0.l.length=0 then .i 1 else dL (d0.l.map mO)
def uV (d1:D):D:=if d1.l.length=0 then .i 1 else dL (d1.l.map oJ)
theorem Uu {l:List D} (h: ∀x∈l,∃a lc w o g tr,Kt x a lc w o g tr) (hn:l≠[]) (hl:l.length≤2199023255488):Wd (.sl 8) (dL l):=by
 have e:(l.map fun x=>x.l).map dL=l:=by
  rw [List.map_map]
  conv=>rhs; rw [← List.map_id l]
  apply List.map_congr_left
  intro x hx
  obtain⟨a,lc,w,o,g,tr,T⟩:=h x hx
  rw [T.is]
  rfl
 rw [← e]
 refine .many 8 [.int .i64,.sl 0,.int .u8,.int .i64,.int .i64,.int .i64] _ rfl (by simpa using hn) (by have:yI 8=64:=rfl; rw [this,List.length_map]; omega) (fun r hr=>?_) fun r hr j d c h1 h2=>?_
 ·obtain⟨x,hx,rfl⟩:=List.mem_map.1 hr
  obtain⟨a,lc,w,o,g,tr,T⟩:=h x hx
  rw [T.is]
  rfl
 ·obtain⟨x,hx,rfl⟩:=List.mem_map.1 hr
  obtain⟨a,lc,w,o,g,tr,T⟩:=h x hx
  rw [T.is,aZ] at h1
  match j with
  | 0=>simp at h1 h2; subst h1 h2; exact .int _ _ T.ha
  | 1=>simp at h1 h2; subst h1 h2; exact T.hl
  | 2=>simp at h1 h2; subst h1 h2; exact .int _ _ T.hw
  | 3=>simp at h1 h2; subst h1 h2; exact .int _ _ T.ho
  | 4=>simp at h1 h2; subst h1 h2; exact .int _ _ T.hg
  | 5=>simp at h1 h2; subst h1 h2; exact .int _ _ T.ht
  | j+6=>simp at h1
theorem aeV (x:D) (h:(x.hd 1).l.length≤17592186043904): ∃a lc w o g tr,Kt (oJ x) a lc w o g tr:=by
 have z:iR .i64 0:=⟨by omega,by omega⟩
 refine⟨0,_,0,0,0,0,rfl,z,?_,⟨by omega,by omega⟩,z,z,z⟩
 split
 ·exact .non 0
 ·rename_i hn
  refine Ce (fun y hy=> ⟨0,(List.mem_replicate.1 hy).2,z⟩) (fun he=>?_) (by simpa using h)
  have:=congrArg List.length he
  simp only [List.length_replicate,List.length_nil] at this
  omega
theorem Em {d1:D} (h1:Wd (.sl 4) d1): ∀x∈d1.l,(x.hd 1).l.length≤8796093021952:=by
 intro x hx
 obtain⟨i,hi,rfl⟩:=List.getElem_of_mem hx
 obtain⟨nm',lc,cd,he,_,hlc,_⟩:=EM h1 hi
 rw [he]
 simp only [dP,List.getElem?_cons_zero,List.getElem?_cons_succ,Option.getD_some]
 have:=hlc.room
 have h3:yI 2=16:=rfl
 rw [h3] at this
 omega
theorem agK {d0 d1:D} (h0:Wd (.sl 3) d0) (h1:Wd (.sl 4) d1) (ok:Hq d0 d1):Sx (oU d0) (uV d1) 0:=by
 refine⟨?_,?_,?_,?_⟩
 ·unfold oU
  split
  ·exact⟨.nil 7,fun x hx=>by simp [D.l] at hx⟩
  ·refine⟨Ol (fun x hx=>?_) (fun he=>?_) (by rw [List.length_map]; have:=ok.1; omega),fun x hx=>?_⟩
   ·obtain⟨y,hy,rfl⟩:=List.mem_map.1 hx
    obtain⟨kd,nm',ln,s1,s2,he,_,hnn,_⟩:=h0.decl y hy
    rw [he]
    refine⟨-1,_,0,0,.i 1,.i 1,rfl,⟨by omega,by omega⟩,?_,.inl rfl,⟨by omega,by omega⟩,.nil 0,.nil 0⟩
    split
    ·exact hnn
    ·exact⟨by omega,by omega⟩
   ·have:=congrArg List.length he
    simp only [List.length_map,List.length_nil] at this
    omega
   ·rw [aZ] at hx
    obtain⟨y,hy,rfl⟩:=List.mem_map.1 hx
    exact⟨Nat.le_refl 0,Nat.le_refl 0⟩
 ·unfold uV
  split
  ·exact .nil 8
  ·refine Uu (fun x hx=>?_) (fun he=>?_) (by rw [List.length_map]; have:=ok.2.1; omega)
   ·obtain⟨y,hy,rfl⟩:=List.mem_map.1 hx
    exact aeV y (by have:=Em h1 y hy; omega)
   ·have:=congrArg List.length he
    simp only [List.length_map,List.length_nil] at this
    omega
 ·unfold oU
  split
  ·intro h; cases h
  ·intro h
   have:=congrArg (fun d=>d.l.length) h
   simp only [aZ,List.length_map,Es,List.length_nil] at this
   omega
 ·unfold uV
  split
  ·intro h; cases h
  ·intro h
   have:=congrArg (fun d=>d.l.length) h
   simp only [aZ,List.length_map,Es,List.length_nil] at this
   omega
theorem IU (d1:D) (h1:Wd (.sl 4) d1) (hlen:d1.l.length≤16) (s:D): ∀(k i:Nat) (acc:List D),i+k=d1.l.length→acc.length=i→
 L 1452 [enc d1,(d1.l.length:Int),(i:Int),enc s,enc (dL acc)]=some [enc s,enc (dL (acc++(d1.l.drop i).map oJ)),0]
 | 0,i,acc,hi,ha=>by
   have c1: ¬(i:Int) < (d1.l.length:Int):=by omega
   rw [aX,alE,List.drop_of_length_le (by omega)]
   simp only [UE,zz,aH.den,Nat.reduceLT,c1,aT,List.map_nil,List.append_nil]
 | k+1,i,acc,hi,ha=>by
   have hil:i < d1.l.length:=by omega
   have hd:d1.l.drop i=d1.l[i] :: d1.l.drop (i+1):=List.drop_eq_getElem_cons hil
   have ih:=IU d1 h1 hlen s k (i+1) (acc++ [oJ d1.l[i]]) (by omega) (by simp [ha])
   have c1:(i:Int) < (d1.l.length:Int):=by omega
   have c2: ¬((i:Int) < 0):=by omega
   have w:=bD (n:=i) (by omega)
   have c3:(acc.length:Int) < 2199023255551:=by omega
   have hb:=Em h1 _ (List.getElem_mem hil)
   have c4:((((d1.l[i]).hd 1).l.length:Nat):Int) < 17592186044416:=by omega
   have e2:acc++(oJ d1.l[i] :: (d1.l.drop (i+1)).map oJ)=acc++ [oJ d1.l[i]]++(d1.l.drop (i+1)).map oJ:=by simp
   rw [hd,List.map_cons,e2,← ih,aX,alE]
   by_cases hz:((d1.l[i]).hd 1).l.length=0
   ·have hz':((((d1.l[i]).hd 1).l.length:Nat):Int)=0:=by omega
    have et:oJ d1.l[i]= .p (.i 0) (.p (.i 2) (.p (.i 0) (.p (.i 0) (.p (.i 0) (.p (.i 0) (.i 0)))))):=by unfold oJ; rw [if_pos hz]; rfl
    rw [et]
    simp only [UE,zz,aH.den,Nat.reduceLT,c1,c2,w,bM hil,hz',c3,aZ,bT]
   ·have hz': ¬((((d1.l[i]).hd 1).l.length:Nat):Int)=0:=by omega
    have et:oJ d1.l[i]= .p (.i 0) (.p (dL (List.replicate ((d1.l[i]).hd 1).l.length (.i 0))) (.p (.i 0) (.p (.i 0) (.p (.i 0) (.p (.i 0) (.i 0)))))):=by unfold oJ; rw [if_neg hz]; rfl
    rw [et]
    simp only [UE,zz,aH.den,Nat.reduceLT,c1,c2,w,bM hil,hz',c3,c4,aZ,Int.toNat_natCast,bT]
theorem U5 (d1:D) (h1:Wd (.sl 4) d1) (hlen:d1.l.length≤16) (s:D):L 1451 [enc d1,(d1.l.length:Int),enc s]=some [enc s,enc (uV d1),0]:=by
 by_cases hn:d1.l.length=0
 ·have c1: ¬(0:Int) < (d1.l.length:Int):=by omega
  have e:uV d1= .i 1:=by unfold uV; rw [if_pos hn]
  rw [aX,alF,e]
  simp only [UF,zz,aH.den,Nat.reduceLT,c1,aT]
 ·have hp:0 < d1.l.length:=by omega
  have c1:(0:Int) < (d1.l.length:Int):=by omega
  have e:uV d1=dL (d1.l.map oJ):=by unfold uV; rw [if_neg hn]
  have ih:=IU d1 h1 hlen s (d1.l.length - 1) 1 [oJ (d1.l[0]'hp)] (by omega) rfl
  have e1:[oJ (d1.l[0]'hp)]++(d1.l.drop 1).map oJ=d1.l.map oJ:=by
   conv=>rhs; rw [← List.drop_zero (l:=d1.l),List.drop_eq_getElem_cons hp]
   rfl
  rw [e1,← e] at ih
  have a0:d1.at 0=d1.l[0]'hp:=bM (i:=0) hp
  have hb:=Em h1 _ (List.getElem_mem hp)
  have c4:((((d1.l[0]'hp).hd 1).l.length:Nat):Int) < 17592186044416:=by omega
  rw [← ih,aX,alF]
  by_cases hz:((d1.l[0]'hp).hd 1).l.length=0
  ·have hz':((((d1.l[0]'hp).hd 1).l.length:Nat):Int)=0:=by omega
   have et:dL [oJ (d1.l[0]'hp)]= .p (.p (.i 0) (.p (.i 2) (.p (.i 0) (.p (.i 0) (.p (.i 0) (.p (.i 0) (.i 0))))))) (.i 0):=by unfold oJ; rw [if_pos hz]; rfl
   rw [et]
   simp only [UF,zz,aH.den,Nat.reduceLT,c1,a0,hz',Es,List.nil_append,kP,oC,bT,Int.natCast_one]
  ·have hz': ¬((((d1.l[0]'hp).hd 1).l.length:Nat):Int)=0:=by omega
   have et:dL [oJ (d1.l[0]'hp)]= .p (.p (.i 0) (.p (dL (List.replicate ((d1.l[0]'hp).hd 1).l.length (.i 0))) (.p (.i 0) (.p (.i 0) (.p (.i 0) (.p (.i 0) (.i 0))))))) (.i 0):=by unfold oJ; rw [if_neg hz]; rfl
   rw [et]
   simp only [UF,zz,aH.den,Nat.reduceLT,c1,a0,hz',c4,Es,List.nil_append,kP,oC,Int.toNat_natCast,bT,Int.natCast_one]
theorem acI {d0 d1:D} (h1:Wd (.sl 4) d1) (hc:L 450 [enc d0,enc d1]=some [0]) (ok:Hq d0 d1):L 1450 [enc d0,enc d1]=some [enc (oU d0),enc (uV d1),0]:=by
 have h3:L 300 [enc d0,enc d1]=some [enc (oU d0)]:=by
  by_cases hn:d0.l.length=0
  ·have e:oU d0= .i 1:=by unfold oU; rw [if_pos hn]
   rw [e]
   exact anE hc (.inr hn)
  ·have e:oU d0=dL (d0.l.map mO):=by unfold oU; rw [if_neg hn]
   rw [e]
   exact anF hc ok.1 (by omega)
 have K:dU (dB L (low [enc d0,enc d1])) Zi= .jump 1451 [enc d1,(d1.l.length:Int),enc (oU d0)]:=by
  refine aP [Qft,Qfu,.eq (a0 300 Du) Q0] [] (ju 1451 [Qb,Qc,rr 300 Du 0]) (by simp only [zz,aH.den,Nat.reduceLT,hc,h3] <;> omega) (by kernel_rfl) ?_
  simp only [zz,aH.den,Nat.reduceLT,h3]
 rw [aX,alH]
 exact (congrArg (fin L) K).trans (U5 d1 h1 ok.2.1 _)
theorem acH {d0 d1:D} {c:Int} (hc:L 450 [enc d0,enc d1]=some [c]) (h:c≠0):L 1450 [enc d0,enc d1]=some [enc (.i 1),enc (.i 1),c]:=by
 have K:dU (dB L (low [enc d0,enc d1])) Zi= .out [enc (.i 1),enc (.i 1),c]:=by
  refine aP [Qft] [Qfu] (ou [Qh,Qh,rr 450 Du 0]) (by simp only [zz,aH.den,Nat.reduceLT,hc] <;> omega) (by kernel_rfl) ?_
  simp only [zz,aH.den,Nat.reduceLT,hc]
 rw [aX,alH]
 exact congrArg (fin L) K
theorem rJ {k:D} {t:Int} (t0:0≤t) (ht:t < (k.l.length:Int)) (x:KT):(mP k t x).at t=x.d:=by
 obtain⟨i,rfl⟩ : ∃i:Nat,t=(i:Int):=⟨t.toNat,by omega⟩
 rw [YE,aZ,ajK (by omega)]
 rfl
theorem kR (k:D) (t:Int) (x:KT):(mP k t x).l.length=k.l.length:=by rw [aZ,iT]
theorem Pn {d1:D} {t:Int} {x:KT} (ho: ¬mW d1 t x=1) (h: ¬low (vH d1 t x) 4=0): ∃op obj arg tr,vH d1 t x= [op,obj,arg,tr,1]:=by
 unfold mW at ho
 unfold vH at h ⊢
 by_cases w0:x.w=0
 ·rw [if_pos w0] at ho h ⊢
  by_cases a0:x.a=(Nc d1 t:Int)
  ·rw [if_pos a0] at ho
   omega
  ·rw [if_neg a0] at h ⊢
   by_cases h1:((Ins d1 t x).hd 0).n=1
   ·rw [if_pos h1]
    exact⟨_,_,_,_,rfl⟩
   ·rw [if_neg h1] at h ⊢
    by_cases h2:((Ins d1 t x).hd 0).n=2
    ·rw [if_pos h2]
     exact⟨_,_,_,_,rfl⟩
    ·rw [if_neg h2] at h
     exact absurd rfl h
 ·rw [if_neg w0]
  exact⟨_,_,_,_,rfl⟩
theorem Zu (d1:D) (t:Int) (x:KT):mW d1 t x=0∨mW d1 t x=1:=by
 unfold mW
 split
 ·split
  ·exact .inr rfl
  ·exact .inl rfl
 ·exact .inl rfl
theorem Zw {d0 d1:D} {t:Int} {x:KT} (C:Cd d0 d1) (R:Rt d0 d1 t x) (hd0:d0.l.length≤64) {op obj arg tr b:Int} (hn:vH d1 t x= [op,obj,arg,tr,b]):iR .u8 op∧iR .i64 obj∧iR .i64 arg:=by
 have z8:iR .u8 0:=⟨by omega,by omega⟩
 have z:iR .i64 0:=⟨by omega,by omega⟩
 have ok:=R.ok
 unfold vH at hn
 by_cases w0:x.w=0
 ·rw [if_pos w0] at hn
  by_cases a0:x.a=(Nc d1 t:Int)
  ·rw [if_pos a0] at hn
   simp only [List.cons.injEq] at hn
   obtain⟨rfl,rfl,rfl,_⟩:=hn
   exact⟨z8,z,z⟩
  ·have hlt:x.a < (Nc d1 t:Int):=by have:=ok.2.1; unfold Nc at a0 ⊢; omega
   have F:=C.inf R hlt
   rw [if_neg a0] at hn
   by_cases h1:((Ins d1 t x).hd 0).n=1
   ·rw [if_pos h1] at hn
    simp only [List.cons.injEq] at hn
    obtain⟨rfl,rfl,rfl,_⟩:=hn
    exact⟨F.op,F.ob,asF F.ar R.ints⟩
   ·rw [if_neg h1] at hn
    by_cases h2:((Ins d1 t x).hd 0).n=2
    ·rw [if_pos h2] at hn
     simp only [List.cons.injEq] at hn
     obtain⟨rfl,rfl,rfl,_⟩:=hn
     exact⟨⟨by omega,by omega⟩,F.ob,z⟩
    ·rw [if_neg h2] at hn
     simp only [List.cons.injEq] at hn
     obtain⟨rfl,rfl,rfl,_⟩:=hn
     exact⟨z8,z,z⟩
 ·rw [if_neg w0] at hn
  simp only [List.cons.injEq] at hn
  obtain⟨rfl,rfl,rfl,_⟩:=hn
  obtain⟨_,_,_,_,_,hw⟩:=ok
  exact⟨⟨by omega,by omega⟩,⟨by omega,by omega⟩,R.hg⟩
noncomputable abbrev foE (d0 d1 s k:D) (t n qR tC ea eb:Int) (x:KT):Nat→Int:=dB L (low [t,n,enc d0,enc d1,enc s,enc k,qR,tC,ea,eb,enc s,enc k,x.a,enc x.lc,x.w,x.o,x.g,x.tr])
section
variable {d0 d1 s k:D} {t:Int} {n:Nat} {qR tC ea eb m:Int} {x:KT} (S:Sx s k n) (C:Cd d0 d1) (ht:t < (k.l.length:Int))
include S C ht
theorem adD (R:Rt d0 d1 t x) (hn:20000 < m):L 2004 [t,m,enc d0,enc d1,enc s,enc k,qR,tC,ea,eb,enc s,enc k,x.a,enc x.lc,x.w,x.o,x.g,x.tr]=some [enc s,enc k,0]:=by
 have hcp:=uP S.st
 have K:dU (foE d0 d1 s k t m qR tC ea eb x) Ov= .out [enc s,enc k,0]:=by
  refine aP [.lt (.lit 20000) Qb,.eq (a0 1900 [bC,bU]) Q0] [] (ou [rr 1900 [bC,bU] 0,rr 1900 [bC,bU] 1,Qa]) (by simp only [zz,aH.den,Nat.reduceLT,hcp,hn] <;> omega) (by kernel_rfl) ?_
  simp only [zz,aH.den,Nat.reduceLT,hcp]
 rw [aX,VQ]
 exact congrArg (fin L) K
theorem XZ (R:Rt d0 d1 t x) (hn: ¬20000 < m) (ho:mW d1 t x=1):L 2004 [t,m,enc d0,enc d1,enc s,enc k,qR,tC,ea,eb,enc s,enc k,x.a,enc x.lc,x.w,x.o,x.g,x.tr]=some [enc s,enc k,0]:=by
 have hcp:=uP S.st
 have hO:=yX (s:=s) (k:=mP k t x) (rJ R.t0 ht x) (by rw [kR]; exact ht) R
 rw [ho] at hO
 simp only [mP,KT.d,kP,oC] at hO
 have K:dU (foE d0 d1 s k t m qR tC ea eb x) Ov= .out [enc s,enc k,0]:=by
  refine aP [.eq (a0 1650 rV) Q0,.eq (a0 1900 [bC,bU]) Q0] [.lt (.lit 20000) Qb,J3] (ou [rr 1900 [bC,bU] 0,rr 1900 [bC,bU] 1,Qa]) (by simp only [zz,aH.den,Nat.reduceLT,hcp,hn,hO] <;> omega) (by kernel_rfl) ?_
  simp only [zz,aH.den,Nat.reduceLT,hcp]
 rw [aX,VQ]
 exact congrArg (fin L) K
theorem adC (R:Rt d0 d1 t x) (hn: ¬20000 < m) (ho:mW d1 t x=0) (ha:low (vH d1 t x) 4=0):L 2004 [t,m,enc d0,enc d1,enc s,enc k,qR,tC,ea,eb,enc s,enc k,x.a,enc x.lc,x.w,x.o,x.g,x.tr]=L 2004 [t,IntKind.i64.wrap (m+1),enc d0,enc d1,enc s,enc k,qR,tC,ea,eb,enc s,enc k,(jO (Ins d1 t x) x).a,enc (jO (Ins d1 t x) x).lc,(jO (Ins d1 t x) x).w,(jO (Ins d1 t x) x).o,(jO (Ins d1 t x) x).g,(jO (Ins d1 t x) x).tr]:=by
 have hO:=yX (s:=s) (k:=mP k t x) (rJ R.t0 ht x) (by rw [kR]; exact ht) R
 have hN:=JG (s:=s) (k:=mP k t x) C (rJ R.t0 ht x) (by rw [kR]; exact ht) R
 have Lc:=Sv R ho ha
 rw [ho] at hO
 simp only [mP,KT.d,kP,oC] at hO hN
 have hw:(jO (Ins d1 t x) x).w=x.w∧(jO (Ins d1 t x) x).o=x.o∧(jO (Ins d1 t x) x).g=x.g∧(jO (Ins d1 t x) x).tr=x.tr:=by
  unfold jO
  repeat' split
  all_goals exact⟨rfl,rfl,rfl,rfl⟩
 have hl:=aiD (s:=s) (k:=k) C ht R Lc
 have K:dU (foE d0 d1 s k t m qR tC ea eb x) Ov= .jump 2004 [t,IntKind.i64.wrap (m+1),enc d0,enc d1,enc s,enc k,qR,tC,ea,eb,enc s,enc k,(jO (Ins d1 t x) x).a,enc (jO (Ins d1 t x) x).lc,(jO (Ins d1 t x) x).w,(jO (Ins d1 t x) x).o,(jO (Ins d1 t x) x).g,(jO (Ins d1 t x) x).tr]:=by
  refine aP [.eq (a0 1650 rV) Q0,J3,.eq (a0 1750 rV) Q0,Oa,.eq (a0 14000 Qqq) Q0,.eq (rr 14000 Qqq 0) Qa] [.lt (.lit 20000) Qb] (ju 2004 [Qf,wO,Qo,Qm,bC,bU,dO,fE,fZ,gU,kJ,lN,rr 14000 Qqq 12,rr 14000 Qqq 13,qU,WS,Qfn,Qfh]) (by simp only [zz,aH.den,Nat.reduceLT,hn,hO,hN,ha,hl] <;> omega) (by kernel_rfl) ?_
  simp only [zz,aH.den,Nat.reduceLT,hl,hw]
 rw [aX,VQ]
 exact congrArg (fin L) K
theorem adB (R:Rt d0 d1 t x) (hn: ¬20000 < m) (ho:mW d1 t x=0) {op obj arg tr trs e1 e2 e3 e4 e5 oc:Int} {s':D} (ha:vH d1 t x= [op,obj,arg,tr,1]) (htr:trs=if qR=4∧ea=0 then 4611686018427387904 else 0)
 (A:Tried d0 d1 s t op obj arg trs n s' e1 e2 e3 e4 e5 oc):L 2004 [t,m,enc d0,enc d1,enc s,enc k,qR,tC,ea,eb,enc s,enc k,x.a,enc x.lc,x.w,x.o,x.g,x.tr]=some (if oc≠0∧e1=t∧e2=qR∧e3=tC∧e4=ea∧e5=eb then [enc s',enc (mP k t (wR (Ins d1 t x) x op e2 e3 e4 oc)),1] else [enc s,enc k,0]):=by
 have hcp:=uP S.st
 have hO:=yX (s:=s) (k:=mP k t x) (rJ R.t0 ht x) (by rw [kR]; exact ht) R
 have hN:=JG (s:=s) (k:=mP k t x) C (rJ R.t0 ht x) (by rw [kR]; exact ht) R
 rw [ho] at hO
 rw [ha] at hN
 simp only [mP,KT.d,kP,oC] at hO hN
 have hx:x.w=0→x.a < (Nc d1 t:Int):=fun w0=>by
  unfold mW at ho
  rw [if_pos w0] at ho
  have:=R.ok.2.1
  unfold Nc at ho ⊢
  split at ho <;> omega
 have hE:evT e1 e2 e3 e4 e5 oc= [e1,e2,e3,e4,e5]:=by
  unfold evT
  split
  ·rename_i h0
   obtain⟨_,rfl,rfl,rfl,rfl,rfl⟩:=A.no h0
   rfl
  ·rfl
 have hl:=aeP (k:=k) C ht R A.eq (fun h=>(A.no h).1) hx
 rw [hE] at hl
 simp only [List.cons_append,List.nil_append] at hl
 have K:dU (foE d0 d1 s k t m qR tC ea eb x) Ov= .out (if oc≠0∧e1=t∧e2=qR∧e3=tC∧e4=ea∧e5=eb then [enc s',enc (mP k t (wR (Ins d1 t x) x op e2 e3 e4 oc)),1] else [enc s,enc k,0]):=by
  by_cases q4:qR=4
  ·by_cases qa:ea=0
   ·have et:trs=4611686018427387904:=by rw [htr,if_pos ⟨q4,qa⟩]
    rw [et] at hl
    by_cases o0:oc=0
    ·rw [if_neg (fun h=>h.1 o0)]
     refine aP [.eq (a0 1650 rV) Q0,J3,.eq (a0 1750 rV) Q0,.eq dO wQ,Wv,.eq (a0 14500 lC) Q0,.eq (rr 14500 lC 0) Qa,.eq (rr 14500 lC 21) Qa,.eq (a0 1900 [bC,bU]) Q0] [.lt (.lit 20000) Qb,Oa] (ou [rr 1900 [bC,bU] 0,rr 1900 [bC,bU] 1,Qa]) (by simp only [zz,aH.den,Nat.reduceLT,hn,hO,hN,hl,q4,qa,o0,hcp] <;> omega) (by kernel_rfl) ?_
     simp only [zz,aH.den,Nat.reduceLT,hcp]
    ·by_cases qe:e1=t∧e2=qR∧e3=tC∧e4=ea∧e5=eb
     ·rw [if_pos ⟨o0,qe⟩]
      refine aP [.eq (a0 1650 rV) Q0,J3,.eq (a0 1750 rV) Q0,.eq dO wQ,Wv,.eq (a0 14500 lC) Q0,.eq (rr 14500 lC 0) Qa,.and (.eq (rr 14500 lC 16) Qf) (.and (.eq (rr 14500 lC 17) dO) (.and (.eq (rr 14500 lC 18) fE) (.and (.eq (rr 14500 lC 19) fZ) (.eq (rr 14500 lC 20) gU))))] [.lt (.lit 20000) Qb,Oa,.eq (rr 14500 lC 21) Qa] (ou [rr 14500 lC 22,.op .set lN (cn (mk Qf) (cn (mk (rr 14500 lC 23)) (cn (rr 14500 lC 24) (cn (mk (rr 14500 lC 25)) (cn (mk (rr 14500 lC 26)) (cn (mk (rr 14500 lC 27)) (cn (mk (rr 14500 lC 28)) lW))))))),Q0]) (by simp only [zz,aH.den,Nat.reduceLT,hn,hO,hN,hl,q4,qa,o0,tJ,qe,and_self,hcp] <;> omega) (by kernel_rfl) ?_
      simp only [zz,aH.den,Nat.reduceLT,hN,hl,mP,KT.d,kP,oC]
     ·rw [if_neg (fun h=>qe h.2)]
      refine aP [.eq (a0 1650 rV) Q0,J3,.eq (a0 1750 rV) Q0,.eq dO wQ,Wv,.eq (a0 14500 lC) Q0,.eq (rr 14500 lC 0) Qa,.eq (a0 1900 [bC,bU]) Q0] [.lt (.lit 20000) Qb,Oa,.eq (rr 14500 lC 21) Qa,.and (.eq (rr 14500 lC 16) Qf) (.and (.eq (rr 14500 lC 17) dO) (.and (.eq (rr 14500 lC 18) fE) (.and (.eq (rr 14500 lC 19) fZ) (.eq (rr 14500 lC 20) gU))))] (ou [rr 1900 [bC,bU] 0,rr 1900 [bC,bU] 1,Qa]) (by simp only [zz,aH.den,Nat.reduceLT,hn,hO,hN,hl,q4,qa,o0,tJ,qe,hcp] <;> omega) (by kernel_rfl) ?_
      simp only [zz,aH.den,Nat.reduceLT,hcp]
   ·have et:trs=0:=by rw [htr,if_neg (fun h=>qa h.2)]
    rw [et] at hl
    by_cases o0:oc=0
    ·rw [if_neg (fun h=>h.1 o0)]
     refine aP [.eq (a0 1650 rV) Q0,J3,.eq (a0 1750 rV) Q0,.eq dO wQ,.eq (a0 14500 fU) Q0,.eq (rr 14500 fU 0) Qa,.eq (rr 14500 fU 21) Qa,.eq (a0 1900 [bC,bU]) Q0] [.lt (.lit 20000) Qb,Oa,Wv] (ou [rr 1900 [bC,bU] 0,rr 1900 [bC,bU] 1,Qa]) (by simp only [zz,aH.den,Nat.reduceLT,hn,hO,hN,hl,q4,qa,o0,hcp] <;> omega) (by kernel_rfl) ?_
     simp only [zz,aH.den,Nat.reduceLT,hcp]
    ·by_cases qe:e1=t∧e2=qR∧e3=tC∧e4=ea∧e5=eb
     ·rw [if_pos ⟨o0,qe⟩]
      refine aP [.eq (a0 1650 rV) Q0,J3,.eq (a0 1750 rV) Q0,.eq dO wQ,.eq (a0 14500 fU) Q0,.eq (rr 14500 fU 0) Qa,.and (.eq (rr 14500 fU 16) Qf) (.and (.eq (rr 14500 fU 17) dO) (.and (.eq (rr 14500 fU 18) fE) (.and (.eq (rr 14500 fU 19) fZ) (.eq (rr 14500 fU 20) gU))))] [.lt (.lit 20000) Qb,Oa,Wv,.eq (rr 14500 fU 21) Qa] (ou [rr 14500 fU 22,.op .set lN (cn (mk Qf) (cn (mk (rr 14500 fU 23)) (cn (rr 14500 fU 24) (cn (mk (rr 14500 fU 25)) (cn (mk (rr 14500 fU 26)) (cn (mk (rr 14500 fU 27)) (cn (mk (rr 14500 fU 28)) lW))))))),Q0]) (by simp only [zz,aH.den,Nat.reduceLT,hn,hO,hN,hl,q4,qa,o0,tJ,qe,and_self,hcp] <;> omega) (by kernel_rfl) ?_
      simp only [zz,aH.den,Nat.reduceLT,hN,hl,mP,KT.d,kP,oC]
     ·rw [if_neg (fun h=>qe h.2)]
      refine aP [.eq (a0 1650 rV) Q0,J3,.eq (a0 1750 rV) Q0,.eq dO wQ,.eq (a0 14500 fU) Q0,.eq (rr 14500 fU 0) Qa,.eq (a0 1900 [bC,bU]) Q0] [.lt (.lit 20000) Qb,Oa,Wv,.eq (rr 14500 fU 21) Qa,.and (.eq (rr 14500 fU 16) Qf) (.and (.eq (rr 14500 fU 17) dO) (.and (.eq (rr 14500 fU 18) fE) (.and (.eq (rr 14500 fU 19) fZ) (.eq (rr 14500 fU 20) gU))))] (ou [rr 1900 [bC,bU] 0,rr 1900 [bC,bU] 1,Qa]) (by simp only [zz,aH.den,Nat.reduceLT,hn,hO,hN,hl,q4,qa,o0,tJ,qe,hcp] <;> omega) (by kernel_rfl) ?_
      simp only [zz,aH.den,Nat.reduceLT,hcp]
  ·have et:trs=0:=by rw [htr,if_neg (fun h=>q4 h.1)]
   rw [et] at hl
   by_cases o0:oc=0
   ·rw [if_neg (fun h=>h.1 o0)]
    refine aP [.eq (a0 1650 rV) Q0,J3,.eq (a0 1750 rV) Q0,.eq (a0 14500 fU) Q0,.eq (rr 14500 fU 0) Qa,.eq (rr 14500 fU 21) Qa,.eq (a0 1900 [bC,bU]) Q0] [.lt (.lit 20000) Qb,Oa,.eq dO wQ] (ou [rr 1900 [bC,bU] 0,rr 1900 [bC,bU] 1,Qa]) (by simp only [zz,aH.den,Nat.reduceLT,hn,hO,hN,hl,q4,o0,hcp] <;> omega) (by kernel_rfl) ?_
    simp only [zz,aH.den,Nat.reduceLT,hcp]
   ·by_cases qe:e1=t∧e2=qR∧e3=tC∧e4=ea∧e5=eb
    ·rw [if_pos ⟨o0,qe⟩]
     refine aP [.eq (a0 1650 rV) Q0,J3,.eq (a0 1750 rV) Q0,.eq (a0 14500 fU) Q0,.eq (rr 14500 fU 0) Qa,.and (.eq (rr 14500 fU 16) Qf) (.and (.eq (rr 14500 fU 17) dO) (.and (.eq (rr 14500 fU 18) fE) (.and (.eq (rr 14500 fU 19) fZ) (.eq (rr 14500 fU 20) gU))))] [.lt (.lit 20000) Qb,Oa,.eq dO wQ,.eq (rr 14500 fU 21) Qa] (ou [rr 14500 fU 22,.op .set lN (cn (mk Qf) (cn (mk (rr 14500 fU 23)) (cn (rr 14500 fU 24) (cn (mk (rr 14500 fU 25)) (cn (mk (rr 14500 fU 26)) (cn (mk (rr 14500 fU 27)) (cn (mk (rr 14500 fU 28)) lW))))))),Q0]) (by simp only [zz,aH.den,Nat.reduceLT,hn,hO,hN,hl,q4,o0,tJ,qe,and_self,hcp] <;> omega) (by kernel_rfl) ?_
     simp only [zz,aH.den,Nat.reduceLT,hN,hl,mP,KT.d,kP,oC]
    ·rw [if_neg (fun h=>qe h.2)]
     refine aP [.eq (a0 1650 rV) Q0,J3,.eq (a0 1750 rV) Q0,.eq (a0 14500 fU) Q0,.eq (rr 14500 fU 0) Qa,.eq (a0 1900 [bC,bU]) Q0] [.lt (.lit 20000) Qb,Oa,.eq dO wQ,.eq (rr 14500 fU 21) Qa,.and (.eq (rr 14500 fU 16) Qf) (.and (.eq (rr 14500 fU 17) dO) (.and (.eq (rr 14500 fU 18) fE) (.and (.eq (rr 14500 fU 19) fZ) (.eq (rr 14500 fU 20) gU))))] (ou [rr 1900 [bC,bU] 0,rr 1900 [bC,bU] 1,Qa]) (by simp only [zz,aH.den,Nat.reduceLT,hn,hO,hN,hl,q4,o0,tJ,qe,hcp] <;> omega) (by kernel_rfl) ?_
     simp only [zz,aH.den,Nat.reduceLT,hcp]
 rw [aX,VQ]
 exact congrArg (fin L) K
theorem adA (R:Rt d0 d1 t x) (hz:x.lc.l.length=0) (hn:20000 < m):L 2005 [t,m,enc d0,enc d1,enc s,enc k,qR,tC,ea,eb,enc s,enc k,x.a,enc x.lc,x.w,x.o,x.g,x.tr]=some [enc s,enc k,0]:=by
 have hcp:=uP S.st
 have K:dU (foE d0 d1 s k t m qR tC ea eb x) Ou= .out [enc s,enc k,0]:=by
  refine aP [.lt (.lit 20000) Qb,.eq (a0 1900 [bC,bU]) Q0] [] (ou [rr 1900 [bC,bU] 0,rr 1900 [bC,bU] 1,Qa]) (by simp only [zz,aH.den,Nat.reduceLT,hcp,hn] <;> omega) (by kernel_rfl) ?_
  simp only [zz,aH.den,Nat.reduceLT,hcp]
 rw [aX,VP]
 exact congrArg (fin L) K
theorem XY (R:Rt d0 d1 t x) (hz:x.lc.l.length=0) (hn: ¬20000 < m) (ho:mW d1 t x=1):L 2005 [t,m,enc d0,enc d1,enc s,enc k,qR,tC,ea,eb,enc s,enc k,x.a,enc x.lc,x.w,x.o,x.g,x.tr]=some [enc s,enc k,0]:=by
 have hcp:=uP S.st
 have hO:=yX (s:=s) (k:=mP k t x) (rJ R.t0 ht x) (by rw [kR]; exact ht) R
 rw [ho] at hO
 simp only [mP,KT.d,kP,oC] at hO
 have K:dU (foE d0 d1 s k t m qR tC ea eb x) Ou= .out [enc s,enc k,0]:=by
  refine aP [.eq (a0 1650 rV) Q0,.eq (a0 1900 [bC,bU]) Q0] [.lt (.lit 20000) Qb,J3] (ou [rr 1900 [bC,bU] 0,rr 1900 [bC,bU] 1,Qa]) (by simp only [zz,aH.den,Nat.reduceLT,hcp,hn,hO] <;> omega) (by kernel_rfl) ?_
  simp only [zz,aH.den,Nat.reduceLT,hcp]
 rw [aX,VP]
 exact congrArg (fin L) K
theorem acZ (R:Rt d0 d1 t x) (hz:x.lc.l.length=0) (hn: ¬20000 < m) (ho:mW d1 t x=0) (ha:low (vH d1 t x) 4=0):L 2005 [t,m,enc d0,enc d1,enc s,enc k,qR,tC,ea,eb,enc s,enc k,x.a,enc x.lc,x.w,x.o,x.g,x.tr]=L 2005 [t,IntKind.i64.wrap (m+1),enc d0,enc d1,enc s,enc k,qR,tC,ea,eb,enc s,enc k,(jO (Ins d1 t x) x).a,enc (jO (Ins d1 t x) x).lc,(jO (Ins d1 t x) x).w,(jO (Ins d1 t x) x).o,(jO (Ins d1 t x) x).g,(jO (Ins d1 t x) x).tr]:=by
 have hO:=yX (s:=s) (k:=mP k t x) (rJ R.t0 ht x) (by rw [kR]; exact ht) R
 have hN:=JG (s:=s) (k:=mP k t x) C (rJ R.t0 ht x) (by rw [kR]; exact ht) R
 have Lc:=Sv R ho ha
 rw [ho] at hO
 simp only [mP,KT.d,kP,oC] at hO hN
 have hw:(jO (Ins d1 t x) x).w=x.w∧(jO (Ins d1 t x) x).o=x.o∧(jO (Ins d1 t x) x).g=x.g∧(jO (Ins d1 t x) x).tr=x.tr:=by
  unfold jO
  repeat' split
  all_goals exact⟨rfl,rfl,rfl,rfl⟩
 obtain⟨hl,hc⟩:=aiC (s:=s) (k:=k) C ht R Lc hz
 have K:dU (foE d0 d1 s k t m qR tC ea eb x) Ou= .jump 2005 [t,IntKind.i64.wrap (m+1),enc d0,enc d1,enc s,enc k,qR,tC,ea,eb,enc s,enc k,(jO (Ins d1 t x) x).a,enc (jO (Ins d1 t x) x).lc,(jO (Ins d1 t x) x).w,(jO (Ins d1 t x) x).o,(jO (Ins d1 t x) x).g,(jO (Ins d1 t x) x).tr]:=by
  refine aP [.eq (a0 1650 rV) Q0,J3,.eq (a0 1750 rV) Q0,Oa,.eq (a0 14050 Qqq) Q0,.eq (rr 14050 Qqq 0) Qa] [.lt (.lit 20000) Qb] (ju 2005 [Qf,wO,Qo,Qm,bC,bU,dO,fE,fZ,gU,kJ,lN,rr 14050 Qqq 12,oQ,qU,WS,Qfn,Qfh]) (by simp only [zz,aH.den,Nat.reduceLT,hn,hO,hN,ha,hl] <;> omega) (by kernel_rfl) ?_
  simp only [zz,aH.den,Nat.reduceLT,hl,hw,hc]
 rw [aX,VP]
 exact congrArg (fin L) K
theorem acY (R:Rt d0 d1 t x) (hz:x.lc.l.length=0) (hn: ¬20000 < m) (ho:mW d1 t x=0) {op obj arg tr trs e1 e2 e3 e4 e5 oc:Int} {s':D} (ha:vH d1 t x= [op,obj,arg,tr,1]) (htr:trs=if qR=4∧ea=0 then 4611686018427387904 else 0)
 (A:Tried d0 d1 s t op obj arg trs n s' e1 e2 e3 e4 e5 oc):L 2005 [t,m,enc d0,enc d1,enc s,enc k,qR,tC,ea,eb,enc s,enc k,x.a,enc x.lc,x.w,x.o,x.g,x.tr]=some (if oc≠0∧e1=t∧e2=qR∧e3=tC∧e4=ea∧e5=eb then [enc s',enc (mP k t (wR (Ins d1 t x) x op e2 e3 e4 oc)),1] else [enc s,enc k,0]):=by
 have hcp:=uP S.st
 have hO:=yX (s:=s) (k:=mP k t x) (rJ R.t0 ht x) (by rw [kR]; exact ht) R
 have hN:=JG (s:=s) (k:=mP k t x) C (rJ R.t0 ht x) (by rw [kR]; exact ht) R
 rw [ho] at hO
 rw [ha] at hN
 simp only [mP,KT.d,kP,oC] at hO hN
 have hx:x.w=0→x.a < (Nc d1 t:Int):=fun w0=>by
  unfold mW at ho
  rw [if_pos w0] at ho
  have:=R.ok.2.1
  unfold Nc at ho ⊢
  split at ho <;> omega
 have hE:evT e1 e2 e3 e4 e5 oc= [e1,e2,e3,e4,e5]:=by
  unfold evT
  split
  ·rename_i h0
   obtain⟨_,rfl,rfl,rfl,rfl,rfl⟩:=A.no h0
   rfl
  ·rfl
 obtain⟨hl,hc⟩:=aeO (k:=k) C ht R A.eq (fun h=>(A.no h).1) hx hz
 rw [hE] at hl
 simp only [List.cons_append,List.nil_append] at hl
 have K:dU (foE d0 d1 s k t m qR tC ea eb x) Ou= .out (if oc≠0∧e1=t∧e2=qR∧e3=tC∧e4=ea∧e5=eb then [enc s',enc (mP k t (wR (Ins d1 t x) x op e2 e3 e4 oc)),1] else [enc s,enc k,0]):=by
  by_cases q4:qR=4
  ·by_cases qa:ea=0
   ·have et:trs=4611686018427387904:=by rw [htr,if_pos ⟨q4,qa⟩]
    rw [et] at hl
    by_cases o0:oc=0
    ·rw [if_neg (fun h=>h.1 o0)]
     refine aP [.eq (a0 1650 rV) Q0,J3,.eq (a0 1750 rV) Q0,.eq dO wQ,Wv,.eq (a0 14550 lC) Q0,.eq (rr 14550 lC 0) Qa,.eq (rr 14550 lC 21) Qa,.eq (a0 1900 [bC,bU]) Q0] [.lt (.lit 20000) Qb,Oa] (ou [rr 1900 [bC,bU] 0,rr 1900 [bC,bU] 1,Qa]) (by simp only [zz,aH.den,Nat.reduceLT,hn,hO,hN,hl,q4,qa,o0,hcp] <;> omega) (by kernel_rfl) ?_
     simp only [zz,aH.den,Nat.reduceLT,hcp]
    ·by_cases qe:e1=t∧e2=qR∧e3=tC∧e4=ea∧e5=eb
     ·rw [if_pos ⟨o0,qe⟩]
      refine aP [.eq (a0 1650 rV) Q0,J3,.eq (a0 1750 rV) Q0,.eq dO wQ,Wv,.eq (a0 14550 lC) Q0,.eq (rr 14550 lC 0) Qa,.and (.eq (rr 14550 lC 16) Qf) (.and (.eq (rr 14550 lC 17) dO) (.and (.eq (rr 14550 lC 18) fE) (.and (.eq (rr 14550 lC 19) fZ) (.eq (rr 14550 lC 20) gU))))] [.lt (.lit 20000) Qb,Oa,.eq (rr 14550 lC 21) Qa] (ou [rr 14550 lC 22,.op .set lN (cn (mk Qf) (cn (mk (rr 14550 lC 23)) (cn oQ (cn (mk (rr 14550 lC 24)) (cn (mk (rr 14550 lC 25)) (cn (mk (rr 14550 lC 26)) (cn (mk (rr 14550 lC 27)) lW))))))),Q0]) (by simp only [zz,aH.den,Nat.reduceLT,hn,hO,hN,hl,q4,qa,o0,tJ,qe,and_self,hcp] <;> omega) (by kernel_rfl) ?_
      simp only [zz,aH.den,Nat.reduceLT,hN,hl,mP,KT.d,kP,oC,hc]
     ·rw [if_neg (fun h=>qe h.2)]
      refine aP [.eq (a0 1650 rV) Q0,J3,.eq (a0 1750 rV) Q0,.eq dO wQ,Wv,.eq (a0 14550 lC) Q0,.eq (rr 14550 lC 0) Qa,.eq (a0 1900 [bC,bU]) Q0] [.lt (.lit 20000) Qb,Oa,.eq (rr 14550 lC 21) Qa,.and (.eq (rr 14550 lC 16) Qf) (.and (.eq (rr 14550 lC 17) dO) (.and (.eq (rr 14550 lC 18) fE) (.and (.eq (rr 14550 lC 19) fZ) (.eq (rr 14550 lC 20) gU))))] (ou [rr 1900 [bC,bU] 0,rr 1900 [bC,bU] 1,Qa]) (by simp only [zz,aH.den,Nat.reduceLT,hn,hO,hN,hl,q4,qa,o0,tJ,qe,hcp] <;> omega) (by kernel_rfl) ?_
      simp only [zz,aH.den,Nat.reduceLT,hcp]
   ·have et:trs=0:=by rw [htr,if_neg (fun h=>qa h.2)]
    rw [et] at hl
    by_cases o0:oc=0
    ·rw [if_neg (fun h=>h.1 o0)]
     refine aP [.eq (a0 1650 rV) Q0,J3,.eq (a0 1750 rV) Q0,.eq dO wQ,.eq (a0 14550 fU) Q0,.eq (rr 14550 fU 0) Qa,.eq (rr 14550 fU 21) Qa,.eq (a0 1900 [bC,bU]) Q0] [.lt (.lit 20000) Qb,Oa,Wv] (ou [rr 1900 [bC,bU] 0,rr 1900 [bC,bU] 1,Qa]) (by simp only [zz,aH.den,Nat.reduceLT,hn,hO,hN,hl,q4,qa,o0,hcp] <;> omega) (by kernel_rfl) ?_
     simp only [zz,aH.den,Nat.reduceLT,hcp]
    ·by_cases qe:e1=t∧e2=qR∧e3=tC∧e4=ea∧e5=eb
     ·rw [if_pos ⟨o0,qe⟩]
      refine aP [.eq (a0 1650 rV) Q0,J3,.eq (a0 1750 rV) Q0,.eq dO wQ,.eq (a0 14550 fU) Q0,.eq (rr 14550 fU 0) Qa,.and (.eq (rr 14550 fU 16) Qf) (.and (.eq (rr 14550 fU 17) dO) (.and (.eq (rr 14550 fU 18) fE) (.and (.eq (rr 14550 fU 19) fZ) (.eq (rr 14550 fU 20) gU))))] [.lt (.lit 20000) Qb,Oa,Wv,.eq (rr 14550 fU 21) Qa] (ou [rr 14550 fU 22,.op .set lN (cn (mk Qf) (cn (mk (rr 14550 fU 23)) (cn oQ (cn (mk (rr 14550 fU 24)) (cn (mk (rr 14550 fU 25)) (cn (mk (rr 14550 fU 26)) (cn (mk (rr 14550 fU 27)) lW))))))),Q0]) (by simp only [zz,aH.den,Nat.reduceLT,hn,hO,hN,hl,q4,qa,o0,tJ,qe,and_self,hcp] <;> omega) (by kernel_rfl) ?_
      simp only [zz,aH.den,Nat.reduceLT,hN,hl,mP,KT.d,kP,oC,hc]
     ·rw [if_neg (fun h=>qe h.2)]
      refine aP [.eq (a0 1650 rV) Q0,J3,.eq (a0 1750 rV) Q0,.eq dO wQ,.eq (a0 14550 fU) Q0,.eq (rr 14550 fU 0) Qa,.eq (a0 1900 [bC,bU]) Q0] [.lt (.lit 20000) Qb,Oa,Wv,.eq (rr 14550 fU 21) Qa,.and (.eq (rr 14550 fU 16) Qf) (.and (.eq (rr 14550 fU 17) dO) (.and (.eq (rr 14550 fU 18) fE) (.and (.eq (rr 14550 fU 19) fZ) (.eq (rr 14550 fU 20) gU))))] (ou [rr 1900 [bC,bU] 0,rr 1900 [bC,bU] 1,Qa]) (by simp only [zz,aH.den,Nat.reduceLT,hn,hO,hN,hl,q4,qa,o0,tJ,qe,hcp] <;> omega) (by kernel_rfl) ?_
      simp only [zz,aH.den,Nat.reduceLT,hcp]
  ·have et:trs=0:=by rw [htr,if_neg (fun h=>q4 h.1)]
   rw [et] at hl
   by_cases o0:oc=0
   ·rw [if_neg (fun h=>h.1 o0)]
    refine aP [.eq (a0 1650 rV) Q0,J3,.eq (a0 1750 rV) Q0,.eq (a0 14550 fU) Q0,.eq (rr 14550 fU 0) Qa,.eq (rr 14550 fU 21) Qa,.eq (a0 1900 [bC,bU]) Q0] [.lt (.lit 20000) Qb,Oa,.eq dO wQ] (ou [rr 1900 [bC,bU] 0,rr 1900 [bC,bU] 1,Qa]) (by simp only [zz,aH.den,Nat.reduceLT,hn,hO,hN,hl,q4,o0,hcp] <;> omega) (by kernel_rfl) ?_
    simp only [zz,aH.den,Nat.reduceLT,hcp]
   ·by_cases qe:e1=t∧e2=qR∧e3=tC∧e4=ea∧e5=eb
    ·rw [if_pos ⟨o0,qe⟩]
     refine aP [.eq (a0 1650 rV) Q0,J3,.eq (a0 1750 rV) Q0,.eq (a0 14550 fU) Q0,.eq (rr 14550 fU 0) Qa,.and (.eq (rr 14550 fU 16) Qf) (.and (.eq (rr 14550 fU 17) dO) (.and (.eq (rr 14550 fU 18) fE) (.and (.eq (rr 14550 fU 19) fZ) (.eq (rr 14550 fU 20) gU))))] [.lt (.lit 20000) Qb,Oa,.eq dO wQ,.eq (rr 14550 fU 21) Qa] (ou [rr 14550 fU 22,.op .set lN (cn (mk Qf) (cn (mk (rr 14550 fU 23)) (cn oQ (cn (mk (rr 14550 fU 24)) (cn (mk (rr 14550 fU 25)) (cn (mk (rr 14550 fU 26)) (cn (mk (rr 14550 fU 27)) lW))))))),Q0]) (by simp only [zz,aH.den,Nat.reduceLT,hn,hO,hN,hl,q4,o0,tJ,qe,and_self,hcp] <;> omega) (by kernel_rfl) ?_
     simp only [zz,aH.den,Nat.reduceLT,hN,hl,mP,KT.d,kP,oC,hc]
    ·rw [if_neg (fun h=>qe h.2)]
     refine aP [.eq (a0 1650 rV) Q0,J3,.eq (a0 1750 rV) Q0,.eq (a0 14550 fU) Q0,.eq (rr 14550 fU 0) Qa,.eq (a0 1900 [bC,bU]) Q0] [.lt (.lit 20000) Qb,Oa,.eq dO wQ,.eq (rr 14550 fU 21) Qa,.and (.eq (rr 14550 fU 16) Qf) (.and (.eq (rr 14550 fU 17) dO) (.and (.eq (rr 14550 fU 18) fE) (.and (.eq (rr 14550 fU 19) fZ) (.eq (rr 14550 fU 20) gU))))] (ou [rr 1900 [bC,bU] 0,rr 1900 [bC,bU] 1,Qa]) (by simp only [zz,aH.den,Nat.reduceLT,hn,hO,hN,hl,q4,o0,tJ,qe,hcp] <;> omega) (by kernel_rfl) ?_
     simp only [zz,aH.den,Nat.reduceLT,hcp]
 rw [aX,VP]
 exact congrArg (fin L) K
def ayE (s k:D) (n:Nat) (ys:List Int):Prop:=ys= [enc s,enc k,0]∨∃s' k',ys= [enc s',enc k',1]∧Sx s' k' (n+1)∧s'.l.length=s.l.length∧k'.l.length=k.l.length
end
end Go.As.Try
end
section
namespace Go.As.Try
open Go hiding Stat Spec shape
open Go.As
set_option maxRecDepth 100000
theorem anT {lc:D} (h:Wd (.sl 0) lc) {z v:Int} (h0:0≤z) (h1:z < (lc.l.length:Int)) (hv:iR .i64 v):Wd (.sl 0) (dL (iK lc.l z (.i v))):=by
 have:=h.room
 have h3:yI 0=8:=rfl
 rw [h3] at this
 have hs:=iT lc.l z (.i v)
 refine Ce (fun y hy=>?_) (fun he=>?_) (by rw [hs]; omega)
 ·rcases Bg hy with h' | rfl
  ·exact (h.el1 rfl y h').i
  ·exact⟨v,rfl,hv⟩
 ·rw [he] at hs
  simp only [List.length_nil] at hs
  omega
theorem anU {k:D} (hk:Wd (.sl 8) k) {t:Int} {x:KT} (h: ∃a lc w o g tr,Kt x.d a lc w o g tr) (hp:0 < k.l.length):Wd (.sl 8) (mP k t x):=by
 have hf:=hk.room
 have h3:yI 8=64:=rfl
 rw [h3] at hf
 have hs:=iT k.l t x.d
 refine Uu (fun y hy=>?_) (fun he=>?_) (by rw [hs]; omega)
 ·rcases Bg hy with h' | rfl
  ·exact mD hk y h'
  ·exact h
 ·rw [he] at hs
  simp only [List.length_nil] at hs
  omega
section
variable {d0 d1 s k:D} {t:Int} {n:Nat} {x:KT}
theorem U9 {x:KT} (ha:iR .i64 x.a) (hl:Wd (.sl 0) x.lc) (hw:iR .u8 x.w) (ho:iR .i64 x.o) (hg:iR .i64 x.g) (ht:iR .i64 x.tr): ∃a lc w o g tr,Kt x.d a lc w o g tr:=⟨_,_,_,_,_,_,rfl,ha,hl,hw,ho,hg,ht⟩
theorem Rt.kt (C:Cd d0 d1) (R:Rt d0 d1 t x): ∃a lc w o g tr,Kt x.d a lc w o g tr:=by
 obtain⟨a0,a1,_,t0,t1,hw⟩:=R.ok
 have hd:=C.ok.1
 have hnc:=(C.code R.t0 R.t1).len
 exact U9 ⟨by omega,by omega⟩ R.hl ⟨by omega,by omega⟩ ⟨by omega,by omega⟩ R.hg ⟨by omega,by omega⟩
theorem awW (C:Cd d0 d1) (R:Rt d0 d1 t x) (hx:x.w=0→x.a < (Nc d1 t:Int)) {op e2 e3 e4 oc:Int} (h3:iR .i64 e3) (h4:iR .i64 e4): ∃a lc w o g tr,Kt (wR (Ins d1 t x) x op e2 e3 e4 oc).d a lc w o g tr:=by
 obtain⟨a0,a1,hln,t0,t1,hw⟩:=R.ok
 have hd:=C.ok.1
 have hnc:=(C.code R.t0 R.t1).len
 have ka:iR .i64 x.a:=⟨by omega,by omega⟩
 have kw:iR .u8 x.w:=⟨by omega,by omega⟩
 have ko:iR .i64 x.o:=⟨by omega,by omega⟩
 have kt:iR .i64 x.tr:=⟨by omega,by omega⟩
 have z:iR .i64 0:=⟨by omega,by omega⟩
 have z8: ∀v:Int,v=0∨v=24∨v=25→iR .u8 v:=fun v h=> ⟨by omega,by omega⟩
 unfold wR
 split
 ·split
  ·exact U9 ka R.hl kw ko R.hg (by
    show iR .i64 (if 4611686018427387904 < x.tr+1 then 4611686018427387904 else x.tr+1)
    split <;> exact⟨by omega,by omega⟩)
  ·exact U9 ka R.hl kw ko R.hg kt
 ·split
  ·rename_i w0
   have F:=C.inf R (hx w0)
   have ok:=F.ok
   have h1:=hx w0
   unfold Nc at h1
   unfold OkI at ok
   have k1:iR .i64 (x.a+1):=⟨by omega,by omega⟩
   refine U9 ?_ ?_ ?_ ?_ ?_ z
   ·show iR .i64 (if _ then _ else _)
    split
    ·exact F.to
    ·exact k1
   ·show Wd (.sl 0) (if _ then _ else _)
    split
    ·rename_i hc
     refine anT R.hl (by omega) ?_ h4
     have:=hc.1
     omega
    ·exact R.hl
   ·show iR .u8 (if _ then _ else _)
    split
    ·split
     ·exact z8 _ (by omega)
     ·exact z8 _ (by omega)
    ·exact z8 _ (by omega)
   ·show iR .i64 (if _ then _ else _)
    split
    ·exact h3
    ·exact ko
   ·show iR .i64 (if _ then _ else _)
    split
    ·exact h4
    ·exact R.hg
  ·exact U9 ka R.hl (z8 _ (.inl rfl)) z z z
theorem apA {k:D} (hp:0 < k.l.length) (t:Int) (x:KT):mP k t x≠.i 2:=fun he=>by
 have:=kR k t x
 rw [he] at this
 have e:(D.i 2).l.length=0:=rfl
 omega
theorem aeR (S:Sx s k n) (C:Cd d0 d1) (R:Rt d0 d1 t x) (ht:t < (k.l.length:Int)) (hx:x.w=0→x.a < (Nc d1 t:Int)) {op obj arg tries e1 e2 e3 e4 e5 oc:Int} {s':D} (A:Tried d0 d1 s t op obj arg tries n s' e1 e2 e3 e4 e5 oc) :
 Sx s' (mP k t (wR (Ins d1 t x) x op e2 e3 e4 oc)) (n+1):=by
 have hp:0 < k.l.length:=by have:=R.t0; omega
 exact⟨A.gs,anU S.wk (awW C R hx A.e3 A.e4) hp,A.n2 S.n2s,apA hp _ _⟩
theorem awD (R:Rt d0 d1 t x) (ho:mW d1 t x=0):x.w=0→x.a < (Nc d1 t:Int):=fun w0=>by
 unfold mW at ho
 rw [if_pos w0] at ho
 have:=R.ok.2.1
 unfold Nc at ho ⊢
 split at ho <;> omega
end
section
variable {d0 d1 s k:D} {t:Int} {n:Nat} {qR tC ea eb:Int} (S:Sx s k n) (hn:n < 17592186043904) (C:Cd d0 d1) (ht:t < (k.l.length:Int))
include S hn C ht
theorem ajQ: ∀(j m:Nat) (x:KT),m+j=20001→Rt d0 d1 t x→Tot 2004 [t,(m:Int),enc d0,enc d1,enc s,enc k,qR,tC,ea,eb,enc s,enc k,x.a,enc x.lc,x.w,x.o,x.g,x.tr] (ayE s k n)
 | 0,m,x,hm,R=> ⟨_,adD S C ht R (by omega),.inl rfl⟩
 | j+1,m,x,hm,R=>by
   rcases Zu d1 t x with ho | ho
   ·by_cases ha:low (vH d1 t x) 4=0
    ·have Lc:=Sv R ho ha
     obtain⟨R',hl'⟩:=U7 C ht R Lc
     obtain⟨ys,hL,hy⟩:=ajQ j (m+1) (jO (Ins d1 t x) x) (by omega) R'
     refine⟨ys,?_,hy⟩
     rw [adC S C ht R (by omega) ho ha,bD (by omega)]
     exact hL
    ·obtain⟨op,obj,arg,tr,hq⟩:=Pn (by omega) ha
     obtain⟨k1,k2,k3⟩:=Zw C R C.ok.1 hq
     have hti:iR .i64 t:=by
      have:=R.t0
      have:=R.t1
      have:=C.h1.len
      exact⟨by omega,by omega⟩
     obtain⟨s',e1,e2,e3,e4,e5,oc,A⟩:=try_any (tries:=if qR=4∧ea=0 then 4611686018427387904 else 0) C.h0 C.h1 S.g hn hti k1 k2 k3
     refine⟨_,adB S C ht R (by omega) ho hq rfl A,?_⟩
     split
     ·exact .inr ⟨_,_,rfl,aeR S C R ht (awD R ho) A,A.len,kR _ _ _⟩
     ·exact .inl rfl
   ·exact⟨_,XZ S C ht R (by omega) ho,.inl rfl⟩
theorem ajP: ∀(j m:Nat) (x:KT),m+j=20001→Rt d0 d1 t x→x.lc.l.length=0→Tot 2005 [t,(m:Int),enc d0,enc d1,enc s,enc k,qR,tC,ea,eb,enc s,enc k,x.a,enc x.lc,x.w,x.o,x.g,x.tr] (ayE s k n)
 | 0,m,x,hm,R,hz=> ⟨_,adA S C ht R hz (by omega),.inl rfl⟩
 | j+1,m,x,hm,R,hz=>by
   rcases Zu d1 t x with ho | ho
   ·by_cases ha:low (vH d1 t x) 4=0
    ·have Lc:=Sv R ho ha
     obtain⟨R',hl'⟩:=U7 C ht R Lc
     obtain⟨ys,hL,hy⟩:=ajP j (m+1) (jO (Ins d1 t x) x) (by omega) R' (by rw [hl']; exact hz)
     refine⟨ys,?_,hy⟩
     rw [acZ S C ht R hz (by omega) ho ha,bD (by omega)]
     exact hL
    ·obtain⟨op,obj,arg,tr,hq⟩:=Pn (by omega) ha
     obtain⟨k1,k2,k3⟩:=Zw C R C.ok.1 hq
     have hti:iR .i64 t:=by
      have:=R.t0
      have:=R.t1
      have:=C.h1.len
      exact⟨by omega,by omega⟩
     obtain⟨s',e1,e2,e3,e4,e5,oc,A⟩:=try_any (tries:=if qR=4∧ea=0 then 4611686018427387904 else 0) C.h0 C.h1 S.g hn hti k1 k2 k3
     refine⟨_,acY S C ht R hz (by omega) ho hq rfl A,?_⟩
     split
     ·exact .inr ⟨_,_,rfl,aeR S C R ht (awD R ho) A,A.len,kR _ _ _⟩
     ·exact .inl rfl
   ·exact⟨_,XY S C ht R hz (by omega) ho,.inl rfl⟩
end
section
variable {d0 d1 s k:D} {t:Int} {n:Nat} {qR tC ea eb:Int} (S:Sx s k n) (hn:n < 17592186043904) (h0:Wd (.sl 3) d0) (h1:Wd (.sl 4) d1)
noncomputable abbrev fcE (d0 d1 s k:D) (t qR tC ea eb:Int):Nat→Int:=dB L (low [enc d0,enc d1,enc s,enc k,t,qR,tC,ea,eb])
include S
theorem ajO (hR:L 1550 [enc d0,enc d1,enc s,enc k,t]=some [0]):L 2000 [enc d0,enc d1,enc s,enc k,t,qR,tC,ea,eb]=some [enc s,enc k,0]:=by
 by_cases hr:t < 0∨(k.l.length:Int)≤t
 ·rcases adT S.st hr with h | ⟨h,he⟩
  ·have K:dU (fcE d0 d1 s k t qR tC ea eb) J9= .out [enc s,enc k,0]:=by
    refine aP [.eq (a0 9050 WM) Q0,.eq Jg Qa,Qok,Qol] [] (ou [QY,Qos,Qa]) (by simp only [zz,aH.den,Nat.reduceLT,h,hR] <;> omega) (by kernel_rfl) ?_
    simp only [zz,aH.den,Nat.reduceLT,h]
   rw [aX,QB]
   exact congrArg (fin L) K
  ·subst he
   have K:dU (fcE d0 d1 s (.i 1) t qR tC ea eb) J9= .out [enc s,enc (.i 1),0]:=by
    refine aP [.eq (a0 9050 WM) Q0,.eq Jg Q0,Qok,Qol] [.eq Jg Qa] (ou [QY,Qh,Qa]) (by simp only [zz,aH.den,Nat.reduceLT,h,hR] <;> omega) (by kernel_rfl) ?_
    simp only [zz,aH.den,Nat.reduceLT,h]
   rw [aX,QB]
   exact congrArg (fin L) K
 ·obtain⟨i,rfl⟩ : ∃i:Nat,t=(i:Int):=⟨t.toNat,by omega⟩
  have hi:i < k.l.length:=by omega
  obtain⟨a,lc,w,o,g,tr,T⟩:=mD S.wk _ (List.getElem_mem hi)
  have h:=QM S.st hi T
  have hs:mP k (i:Int) ⟨a,lc,w,o,g,tr⟩ = k:=axJ (Oo S.wk (by omega)).sh (by omega) (by omega) (by rw [bM hi,T.is])
  simp only [mP,KT.d,kP,oC] at hs
  have ha:Oi lc=3∨Oi lc=4:=by unfold Oi; split <;> simp
  have K:dU (fcE d0 d1 s k (i:Int) qR tC ea eb) J9= .out [enc s,enc k,0]:=by
   rcases ha with ha | ha
   ·rw [ha] at h
    refine aP [.eq (a0 9050 WM) Q0,.eq Jg Ar,Qok,Qol] [.eq Jg Qa,.eq Jg Q0,.eq Jg pI] (ou [QY,Qo3,Qa]) (by simp only [zz,aH.den,Nat.reduceLT,h,hR] <;> omega) (by kernel_rfl) ?_
    simp only [zz,aH.den,Nat.reduceLT,h,hs]
   ·rw [ha] at h
    refine aP [.eq (a0 9050 WM) Q0,.eq Jg wQ,Qok,Qol] [.eq Jg Qa,.eq Jg Q0,.eq Jg pI,.eq Jg Ar] (ou [QY,Qo3,Qa]) (by simp only [zz,aH.den,Nat.reduceLT,h,hR] <;> omega) (by kernel_rfl) ?_
    simp only [zz,aH.den,Nat.reduceLT,h,hs]
  rw [aX,QB]
  exact congrArg (fin L) K
include hn h0 h1
theorem acX:Tot 2000 [enc d0,enc d1,enc s,enc k,t,qR,tC,ea,eb] (ayE s k n):=by
 rcases aBG S hn h0 h1 (t:=t) with hR | ⟨x,R⟩
 ·exact⟨_,ajO S hR,.inl rfl⟩
 ·have h:=R.cp S
  have hR:=R.yes
  by_cases hp:0 < x.lc.l.length
  ·have ha:Oi x.lc=3:=if_pos hp
   rw [ha] at h
   obtain⟨ys,hL,hy⟩:=ajQ (qR:=qR) (tC:=tC) (ea:=ea) (eb:=eb) S hn R.c R.ht 20001 0 x (by omega) R.r
   refine⟨ys,?_,hy⟩
   have K:dU (fcE d0 d1 s k t qR tC ea eb) J9= .jump 2004 [t,0,enc d0,enc d1,enc s,enc k,qR,tC,ea,eb,enc s,enc k,x.a,enc x.lc,x.w,x.o,x.g,x.tr]:=by
    refine aP [.eq (a0 9050 WM) Q0,.eq Jg Ar,Qok] [.eq Jg Qa,.eq Jg Q0,.eq Jg pI,Qol] (ju 2004 Qqg) (by simp only [zz,aH.den,Nat.reduceLT,h,hR] <;> omega) (by kernel_rfl) ?_
    simp only [zz,aH.den,Nat.reduceLT,h]
   rw [aX,QB]
   exact (congrArg (fin L) K).trans hL
  ·have ha:Oi x.lc=4:=if_neg hp
   rw [ha] at h
   obtain⟨ys,hL,hy⟩:=ajP (qR:=qR) (tC:=tC) (ea:=ea) (eb:=eb) S hn R.c R.ht 20001 0 x (by omega) R.r (by omega)
   refine⟨ys,?_,hy⟩
   have K:dU (fcE d0 d1 s k t qR tC ea eb) J9= .jump 2005 [t,0,enc d0,enc d1,enc s,enc k,qR,tC,ea,eb,enc s,enc k,x.a,enc x.lc,x.w,x.o,x.g,x.tr]:=by
    refine aP [.eq (a0 9050 WM) Q0,.eq Jg wQ,Qok] [.eq Jg Qa,.eq Jg Q0,.eq Jg pI,.eq Jg Ar,Qol] (ju 2005 Qqg) (by simp only [zz,aH.den,Nat.reduceLT,h,hR] <;> omega) (by kernel_rfl) ?_
    simp only [zz,aH.den,Nat.reduceLT,h]
   rw [aX,QB]
   exact (congrArg (fin L) K).trans hL
end
noncomputable abbrev foA (d0 d1 s k e:D):Option (List Int):=L 2000 [enc d0,enc d1,enc s,enc k,(e.hd 0).n,(e.hd 1).n,(e.hd 2).n,(e.hd 3).n,(e.hd 4).n]
noncomputable def vY (d0 d1:D):D→D→List D→D×D×Nat
 | s,k,[]=>(s,k,0)
 | s,k,e :: l=>match foA d0 d1 s k e with
   | some [a,b,c]=>if c=0 then (s,k,0) else ((vY d0 d1 (dec a) (dec b) l).1,(vY d0 d1 (dec a) (dec b) l).2.1,(vY d0 d1 (dec a) (dec b) l).2.2+1)
   | _=>(s,k,0)
theorem Wq (d0 d1:D): ∀(l:List D) (s k:D) (m:Nat),(vY d0 d1 s k (l.take m)).2.2=min (vY d0 d1 s k l).2.2 m
 | [],s,k,m=>by simp [vY]
 | e :: l,s,k,0=>by simp [vY]
 | e :: l,s,k,m+1=>by
   rw [List.take_succ_cons]
   unfold vY
   split
   ·rename_i a b c _
    split
    ·simp
    ·have ih:=Wq d0 d1 l (dec a) (dec b) m
     show _+1=min (_+1) (m+1)
     omega
   ·simp
theorem anM (d0 d1:D): ∀(l:List D) (s k:D),(vY d0 d1 s k l).2.2≤l.length
 | [],s,k=>by simp [vY]
 | e :: l,s,k=>by
   unfold vY
   split
   ·rename_i a b c _
    split
    ·simp
    ·have:=anM d0 d1 l (dec a) (dec b)
     simpa using this
   ·simp
section
variable {d0 d1:D} (h0:Wd (.sl 3) d0) (h1:Wd (.sl 4) d1)
noncomputable abbrev afE (d d0 d1 s k:D) (len i:Int):Nat→Int:=dB L (low [enc d,len,i,enc d0,enc d1,enc s,enc k])
include h0 h1
theorem Ws (d:D) (hd:d.l.length≤17592186000000): ∀(j i:Nat) (s k:D),i+j=d.l.length→Sx s k i→L 2151 [enc d,(d.l.length:Int),(i:Int),enc d0,enc d1,enc s,enc k]=some [enc (vY d0 d1 s k (d.l.drop i)).1,enc (vY d0 d1 s k (d.l.drop i)).2.1,((i+(vY d0 d1 s k (d.l.drop i)).2.2:Nat):Int)]
 | 0,i,s,k,hi,S=>by
   have c1: ¬(i:Int) < (d.l.length:Int):=by omega
   have e:(d.l.length:Int)=((i+0:Nat):Int):=by omega
   rw [aX,Z8,List.drop_of_length_le (by omega)]
   simp only [UC,zz,aH.den,Nat.reduceLT,c1,aT,vY]
   rw [e]
 | j+1,i,s,k,hi,S=>by
   have hil:i < d.l.length:=by omega
   have hdr:d.l.drop i=d.l[i] :: d.l.drop (i+1):=List.drop_eq_getElem_cons hil
   have c1:(i:Int) < (d.l.length:Int):=by omega
   have c2: ¬((i:Int) < 0):=by omega
   have w:=bD (n:=i) (by omega)
   rw [hdr,vY]
   rcases acX (t:=(d.l[i].hd 0).n) (qR:=(d.l[i].hd 1).n) (tC:=(d.l[i].hd 2).n) (ea:=(d.l[i].hd 3).n) (eb:=(d.l[i].hd 4).n) S (by omega) h0 h1 with ⟨ys,hL,rfl | ⟨s',k',rfl,S',_⟩⟩
   ·have K:dU (afE d d0 d1 s k (d.l.length:Int) (i:Int)) UC= .out [enc s,enc k,(i:Int)]:=by
     refine aP [yL,Wy,.eq (a0 2000 Qqv) Q0,.eq (rr 2000 Qqv 2) Qa] [wP] (ou [bU,dO,Qo]) (by simp only [zz,aH.den,Nat.reduceLT,c1,c2,bM hil,hL] <;> omega) (by kernel_rfl) ?_
     simp only [zz,aH.den,Nat.reduceLT]
    rw [aX,Z8]
    refine (congrArg (fin L) K).trans ?_
    unfold foA
    rw [hL]
    rfl
   ·have ih:=Ws d hd j (i+1) s' k' (by omega) S'
    have K:dU (afE d d0 d1 s k (d.l.length:Int) (i:Int)) UC= .jump 2151 [enc d,(d.l.length:Int),((i+1:Nat):Int),enc d0,enc d1,enc s',enc k']:=by
     refine aP [yL,Wy,.eq (a0 2000 Qqv) Q0] [wP,.eq (rr 2000 Qqv 2) Qa] (ju 2151 [Qf,Qb,mJ,Qm,bC,rr 2000 Qqv 0,rr 2000 Qqv 1]) (by simp only [zz,aH.den,Nat.reduceLT,c1,c2,bM hil,hL] <;> omega) (by kernel_rfl) ?_
     simp only [zz,aH.den,Nat.reduceLT,bM hil,hL,w]
    rw [aX,Z8]
    refine (congrArg (fin L) K).trans (ih.trans ?_)
    unfold foA
    rw [hL]
    simp only [aG,aQ,if_false]
    rw [show i+1+(vY d0 d1 s' k' (d.l.drop (i+1))).2.2=i+((vY d0 d1 s' k' (d.l.drop (i+1))).2.2+1) by omega]
theorem anL:(∃s k,∀d:D,d.l.length≤17592186000000→L 2150 [enc d0,enc d1,enc d]=some [enc (vY d0 d1 s k d.l).1,enc (vY d0 d1 s k d.l).2.1,((vY d0 d1 s k d.l).2.2:Int)])∨∀d:D,L 2150 [enc d0,enc d1,enc d]=some [enc (.i 1),enc (.i 1),0]:=by
 obtain⟨ys,hC,c,rfl,_,hok⟩:=Dp h0 h1
 by_cases hc:c=0
 ·subst hc
  have ok:=(hok rfl).1
  have hB:=acI h1 hC ok
  refine .inl ⟨oU d0,uV d1,fun d hd=>?_⟩
  have ih:=Ws h0 h1 d hd d.l.length 0 _ _ (by omega) (agK h0 h1 ok)
  have K:dU (dB L (low [enc d0,enc d1,enc d])) Zb= .jump 2151 [enc d,(d.l.length:Int),((0:Nat):Int),enc d0,enc d1,enc (oU d0),enc (uV d1)]:=by
   refine aP [.eq (a0 1450 Du) Q0,.eq (rr 1450 Du 2) Qa] [] (ju 2151 [Qo,WA,Qa,Qf,Qb,rr 1450 Du 0,rr 1450 Du 1]) (by simp only [zz,aH.den,Nat.reduceLT,hB] <;> omega) (by kernel_rfl) ?_
   simp only [zz,aH.den,Nat.reduceLT,hB,Int.natCast_zero]
  rw [aX,akW]
  rw [List.drop_zero,Nat.zero_add] at ih
  exact (congrArg (fin L) K).trans ih
 ·have hB:=acH hC hc
  refine .inr fun d=>?_
  have K:dU (dB L (low [enc d0,enc d1,enc d])) Zb= .out [enc (.i 1),enc (.i 1),0]:=by
   refine aP [.eq (a0 1450 Du) Q0] [.eq (rr 1450 Du 2) Qa] (ou [Qh,Qh,Qa]) (by simp only [zz,aH.den,Nat.reduceLT,hB,hc] <;> omega) (by kernel_rfl) ?_
   simp only [zz,aH.den,Nat.reduceLT]
  rw [aX,akW]
  exact congrArg (fin L) K
theorem Wp (d:D) (hd:d.l.length≤80): ∃N:Nat,N≤d.l.length∧∀m:Nat,m≤d.l.length→∃a b,L 2150 [enc d0,enc d1,enc (fQ d (d.l.take m))]=some [a,b,((min N m:Nat):Int)]:=by
 rcases anL h0 h1 with ⟨s,k,h⟩ | h
 ·refine⟨(vY d0 d1 s k d.l).2.2,anM d0 d1 d.l s k,fun m hm=>?_⟩
  have:=h (fQ d (d.l.take m)) (by rw [gI,List.length_take]; omega)
  rw [gI,Wq] at this
  exact⟨_,_,this⟩
 ·exact⟨0,Nat.zero_le _,fun m _=> ⟨enc (.i 1),enc (.i 1),by rw [h]; simp⟩⟩
noncomputable abbrev grE (d d0 d1:D) (N len i:Int):Nat→Int:=dB L (low [enc d,N,len,i,enc d0,enc d1])
omit h0 h1 in
theorem L9 (d:D) (hd:d.l.length≤80) (N:Nat) (hN:N≤d.l.length) (hA: ∀m:Nat,m≤d.l.length→∃a b,L 2150 [enc d0,enc d1,enc (fQ d (d.l.take m))]=some [a,b,((min N m:Nat):Int)]) :
 ∀(j i:Nat),i+j=d.l.length+1→L 2201 [enc d,(N:Int),((d.l.length+1:Nat):Int),(i:Int),enc d0,enc d1]=some [1]
 | 0,i,hi=>by
   have K:dU (grE d d0 d1 (N:Int) ((d.l.length+1:Nat):Int) (i:Int)) Za= .out [1]:=by
    refine aP [] [Qp,.lt sZ Qb] (ou [Q0]) (by simp only [zz,aH.den,Nat.reduceLT] <;> omega) (by kernel_rfl) ?_
    simp only [zz,aH.den,Nat.reduceLT]
   rw [aX,akV]
   exact congrArg (fin L) K
 | j+1,i,hi=>by
   have ih:=L9 d hd N hN hA j (i+1) (by omega)
   obtain⟨a,b,hL⟩:=hA i (by omega)
   have w:=bD (n:=i) (by omega)
   have K:dU (grE d d0 d1 (N:Int) ((d.l.length+1:Nat):Int) (i:Int)) Za= .jump 2201 [enc d,(N:Int),((d.l.length+1:Nat):Int),((i+1:Nat):Int),enc d0,enc d1]:=by
    by_cases hl:i < N
    ·have e:min N i=i:=by omega
     rw [e] at hL
     refine aP [Qp,.eq (a0 2150 [bC,bU,.op .take Qf Qm]) Q0,.lt Qm Qb,.eq Qqy Qm] [.lt sZ Qm,Qq] (ju 2201 [Qf,Qb,Qo,Q1,bC,bU]) (by simp only [zz,aH.den,Nat.reduceLT,hL,Int.toNat_natCast] <;> omega) (by kernel_rfl) ?_
     simp only [zz,aH.den,Nat.reduceLT,w]
    ·have e:min N i=N:=by omega
     rw [e] at hL
     refine aP [Qp,.eq (a0 2150 [bC,bU,.op .take Qf Qm]) Q0,.eq Qqy Qb] [.lt sZ Qm,Qq,.lt Qm Qb] (ju 2201 [Qf,Qb,Qo,Q1,bC,bU]) (by simp only [zz,aH.den,Nat.reduceLT,hL,Int.toNat_natCast] <;> omega) (by kernel_rfl) ?_
     simp only [zz,aH.den,Nat.reduceLT,w]
   rw [aX,akV]
   exact (congrArg (fin L) K).trans ih
theorem acR (d:D) (hd:d.l.length≤140737488351232):L 2200 [enc d0,enc d1,enc d]=some [1]:=by
 obtain⟨ys,hG,b,rfl,hb⟩:=acS (d0:=d0) h1
 by_cases hb0:b=0
 ·subst hb0
  have go: ∀d':D,d'.l.length≤80→∃N:Nat,(∃a b,L 2150 [enc d0,enc d1,enc (fQ d' d'.l)]=some [a,b,(N:Int)])∧L 2201 [enc d',(N:Int),((d'.l.length+1:Nat):Int),((0:Nat):Int),enc d0,enc d1]=some [1]:=by
   intro d' hd'
   obtain⟨N,hN,hA⟩:=Wp h0 h1 d' hd'
   refine⟨N,?_,L9 d' hd' N hN hA (d'.l.length+1) 0 (by omega)⟩
   have:=hA d'.l.length (Nat.le_refl _)
   rw [List.take_length,show min N d'.l.length=N by omega] at this
   exact this
  by_cases h8:80 < d.l.length
  ·obtain⟨N,⟨a,b,hL⟩,hR⟩:=go (fQ d (d.l.take 80)) (by rw [gI,List.length_take]; omega)
   rw [vP (fun h=>by rw [h]; rfl),gI] at hL
   have hw:=bD (n:=(d.l.take 80).length) (by rw [List.length_take]; omega)
   rw [gI] at hR
   have c8:(80:Int) < (d.l.length:Int):=by omega
   have K:dU (dB L (low [enc d0,enc d1,enc d])) UA= .jump 2201 [enc (fQ d (d.l.take 80)),(N:Int),(((d.l.take 80).length+1:Nat):Int),((0:Nat):Int),enc d0,enc d1]:=by
    refine aP [.eq (a0 100 Du) Q0,.eq (rr 100 Du 0) Qa,.lt (.lit 80) WA,.eq (a0 2150 [Qf,Qb,Qqw]) Q0] [] (ju 2201 [Qqw,rr 2150 [Qf,Qb,Qqw] 2,wr (.add (ln Qqw) Q0),Qa,Qf,Qb]) (by simp only [zz,aH.den,Nat.reduceLT,hG,c8,show (80:Int).toNat=80 from rfl,hL] <;> omega) (by kernel_rfl) ?_
    simp only [zz,aH.den,Nat.reduceLT,show (80:Int).toNat=80 from rfl,hL,hw,gI,Int.natCast_zero]
   rw [aX,Z7]
   exact (congrArg (fin L) K).trans hR
  ·obtain⟨N,⟨a,b,hL⟩,hR⟩:=go (fQ d d.l) (by rw [gI]; omega)
   rw [vP (fun h=>by rw [h]; rfl),gI] at hL
   rw [gI] at hR
   have hw:=bD (n:=d.l.length) (by omega)
   have c8: ¬(80:Int) < (d.l.length:Int):=by omega
   have K:dU (dB L (low [enc d0,enc d1,enc d])) UA= .jump 2201 [enc (fQ d d.l),(N:Int),((d.l.length+1:Nat):Int),((0:Nat):Int),enc d0,enc d1]:=by
    refine aP [.eq (a0 100 Du) Q0,.eq (rr 100 Du 0) Qa,.eq (a0 2150 [Qf,Qb,Qqx]) Q0] [.lt (.lit 80) WA,.lt WA WA] (ju 2201 [Qqx,rr 2150 [Qf,Qb,Qqx] 2,wr (.add (ln Qqx) Q0),Qa,Qf,Qb]) (by simp only [zz,aH.den,Nat.reduceLT,hG,c8,Int.toNat_natCast,List.take_length,hL] <;> omega) (by kernel_rfl) ?_
    simp only [zz,aH.den,Nat.reduceLT,Int.toNat_natCast,List.take_length,hL,hw,gI,Int.natCast_zero]
   rw [aX,Z7]
   exact (congrArg (fin L) K).trans hR
 ·have K:dU (dB L (low [enc d0,enc d1,enc d])) UA= .out [1]:=by
   refine aP [.eq (a0 100 Du) Q0] [.eq (rr 100 Du 0) Qa] (ou [Q0]) (by simp only [zz,aH.den,Nat.reduceLT,hG,hb0] <;> omega) (by kernel_rfl) ?_
   simp only [zz,aH.den,Nat.reduceLT]
  rw [aX,Z7]
  exact congrArg (fin L) K
end
end Go.As.Try
end
section
namespace Go.Proofs.YtdcafdkkpdadbaaGreatDoor.fnSystemGrows
open Go hiding Stat
open Go.As Go.As.Try Go.Proofs Go.RowKit Go.ChangeShapes Go.WideShapes Go.ChangeAt
set_option maxRecDepth 100000
theorem ayZ:DV Tryz.prog apO 8 25=some [.sl 3,.sl 4]:=by kernel_rfl
theorem ayY:DV Tryz.prog apO 8 30=some [.sl 9]:=by kernel_rfl
theorem V5 {H:Type} {enc:TypeId×Value→H} {W:World} {t:TypeId} {v:Value} {d:DataW H} {p:List MemPlace} {Oh:List CK} (hf:DV Tryz.prog apO 8 t=some Oh) (h:DataW.Trod enc Tryz.prog W 0 (fun _=>true) true t v d p) (hw:(d.weights Tryz.prog t).all (·≤reachBytes)=true) :
 ∃ds,Rs (Zp W) W.heap Oh ds v.cells.toList:=by
 obtain⟨fuel,hx⟩:=h
 exact Xy apN fuel t 8 Oh v.cells.toList (d,p) hf hx hw
theorem aBQ:2200∈S.nums 5:=by
 have h:S.nums 5= [2200]:=by kernel_rfl
 rw [h]
 simp
theorem contract (H:Type) (enc:TypeId×Value→H) (W:World) (base:Nat) (args:Array Value) (ds gs:List (DataW H)) (before:List MemPlace)
 (hval: ∀(j:Nat) t v,Tryz.f5.params[j]?=some t→args[j]?=some v→Value.okWide Tryz.prog W .any base t v)
 (hW:DataW.Whole enc Tryz.prog Tryz.f5.params.toList Rows.systemGrowsSpec.vars false W args.toList ds gs before)
 (hsz:(DataW.weightsEach Tryz.prog (Tryz.f5.params.toList++ []) (ds++gs)).all (·≤reachBytes)=true) (hsh:W.ShapedOpen Tryz.prog) :
 Calls Tryz.prog 5 args W fun e W'=> ∃v,e= .returned v∧Rows.systemGrowsSpec.post enc Tryz.prog Tryz.f5 false true false false W args v W':=by
 have hW':=hW
 obtain⟨p,q,hA0,hV,rfl,hfz,hnd⟩:=hW
 have hA:DataW.TrodAll enc Tryz.prog W 0 (fun _=>true) true Tryz.f5.params.toList args.toList ds p:=hA0
 rw [Tryz.params5] at hA hval hsz
 obtain⟨v0,vs0,d0,ds0,p0,q0,hargs,rfl,rfl,h0,r0⟩:=trodAll_cons hA
 obtain⟨v1,vs1,d1,ds1,p1,q1,rfl,rfl,rfl,h1,r1⟩:=trodAll_cons r0
 obtain⟨rfl,rfl,rfl⟩:=trodAll_nil r1
 obtain rfl:args= #[v0,v1]:=by cases args; simp_all
 obtain⟨rfl,rfl⟩:=trodVars_none hV
 clear hA0
 simp only [List.append_nil] at hW'
 have hlt: ∀x∈p0++p1,x.block < W.heap.size:=fun x hx=>by simpa using hW'.lt x (by simpa using hx)
 have hlt0: ∀x∈p0,x.block < W.heap.size:=fun x hx=>hlt x (List.mem_append_left _ hx)
 have hlt1: ∀x∈p1,x.block < W.heap.size:=fun x hx=>hlt x (List.mem_append_right _ hx)
 have hsz':(d0.weights Tryz.prog 25).all (·≤reachBytes)=true∧(d1.weights Tryz.prog 30).all (·≤reachBytes)=true:=by
  have:(DataW.weightsEach Tryz.prog [25,30] [d0,d1]).all (·≤reachBytes)=true:=hsz
  simp only [DataW.weightsEach,List.all_append,Bool.and_eq_true] at this
  exact⟨this.1,this.2.1⟩
 obtain⟨es0,R0⟩:=V5 ayZ h0 hsz'.1
 obtain⟨es1,R1⟩:=V5 ayY h1 hsz'.2
 obtain⟨cs,rfl,_⟩:=okWide_struct Tryz.underlying25 (hval 0 25 v0 rfl rfl)
 obtain⟨a0,len,cap,rfl⟩:=okWide_slice Tryz.underlying30 (hval 1 30 v1 rfl rfl)
 have e0:(Value.agg cs).cells.toList=cs.toList:=rfl
 have e1:(Value.slice a0 len cap).cells.toList= [.slice a0 len cap]:=rfl
 rw [e0] at R0
 rw [e1] at R1
 match es0,hcs:cs.toList,R0 with
 | [x0,x1],[u0,u1],.cons r0 w0 (.cons r1 w1 .nil)=>
   match es1,R1 with
   | [x2],.cons r2 w2 .nil=>
     obtain rfl:cs= #[u0,u1]:=by rw [← Array.toArray_toList (xs:=cs),hcs]
     have hL:=acR w0 w1 x2 w2.len
     refine (amY (g:=5) (j:=2200) (e:=ajS.ent) aBQ (by kernel_rfl) rfl rfl hL hsh (vals:=[.agg [u0,u1].toArray,.slice a0 len cap]) (fl:=[u0,u1,.slice a0 len cap]) (.agg _ [u0,u1] rfl (.one _ _ .nil)) ⟨_,_,_,_,rfl,rfl,NK r0,_,_,_,_,rfl,rfl,NK r1,_,_,_,_,rfl,rfl,NK r2,rfl,rfl⟩).mono fun e W' ⟨he,hb⟩=>?_
     subst he
     exact⟨_,rfl,⟨_,_,_,[],_,[],hW',trodAll_mk1 (shut_bool Tryz.underlying4 _),trodAll_mk2 (Below.trod laidOut (by kernel_rfl) (of_decide_eq_true (by kernel_rfl)) h0 hb hlt0) (Below.trod laidOut (by kernel_rfl) (of_decide_eq_true (by kernel_rfl)) h1 hb hlt1),rfl,hb.frame _,fun h=>by cases h⟩⟩
abbrev YQ:Array Value:=#[.agg #[.slice none 0 0,.slice none 0 0],.slice none 0 0]
theorem laid_met (os:Os):laidMet Tryz.prog Rows.systemGrowsRow.laid ((laidWorld os).forCall (fun _ _=>0) ⟨#[],YQ,[]⟩).memory:=
 laidMet_of_run' 8 (by kernel_rfl) (by kernel_rfl)
theorem reads (os:Os) {H:Type} (enc:TypeId×Value→H): ∃places,DataW.whole enc Tryz.prog ((laidWorld os).forCall (fun _ _=>0) ⟨#[],YQ,[]⟩).memory Tryz.f5.params.toList [] false YQ.toList 8=some ([.agg [.nil,.nil],.nil],[],places):=
 ⟨[],by kernel_rfl⟩
set_option maxHeartbeats 400000 in
theorem lifted (os:Os) (started:os.Started) (H:Type) (enc:TypeId×Value→H) (F:Stop.Interp) :
 ReturnsInHanded {} Tryz.checked os 5 .any ((OpenSpec.ofChange Rows.systemGrowsSpec).preRow enc Tryz.prog Tryz.f5 Rows.systemGrowsRow.domain false Rows.systemGrowsRow.laid) (((OpenSpec.ofChange Rows.systemGrowsSpec).at F).post enc Tryz.prog Tryz.f5 false true false false):=by
 obtain⟨places,hx⟩:=reads os enc
 refine returnsInHanded_of_row (C:=Tryz.checked) (s:=OpenSpec.ofChange Rows.systemGrowsSpec) Try.own started (by kernel_rfl) Tryz.func5
  (witness_row_at (enc:=enc) (C:=Tryz.checked) false (laidWorld os) YQ rfl (by kernel_rfl) (by kernel_rfl) (by kernel_rfl)
   (OpenSpec.preRow_of_cond 8 hx (by kernel_rfl) (fun k hk=>by cases hk) (by kernel_rfl) (laid_met os))) ?_
 intro W base args ds gs before hval hW _ _ hsz _ hsh _
 exact contract H enc W base args ds gs before hval hW hsz hsh
theorem jJ {a b:Bool} (h1:a=true) (h2:b=true):(a && b)=true:=by rw [h1,h2]; rfl
theorem aCL:Rows.systemGrowsRow.wf (OpenSpec.ofChange (OpenSpec.ofChange Rows.systemGrowsSpec).bare)=true:=by kernel_rfl
theorem aCK:laidOutB Tryz.pinned.checked.prog=true:=by kernel_rfl
theorem aCJ:mapsRowed Tryz.pinned.checked.prog=true:=by kernel_rfl
theorem aCI:Tryz.f5.params.all (Tryz.pinned.checked.prog.readableRec ·)=true:=by kernel_rfl
theorem aCH:namedTie Tryz.pinned.checked.prog Rows.systemGrowsRow.named (OpenSpec.ofChange Rows.systemGrowsSpec).bare.vars=true:=by kernel_rfl
theorem aCG:(Rows.systemGrowsRow.stops == [])=true:=by kernel_rfl
theorem aCF:(Tryz.pinned.checked.prog.stops == [])=true:=by kernel_rfl
theorem aCE:(Rows.systemGrowsRow.knobs == [])=true:=by kernel_rfl
theorem aCD:(Tryz.pinned.checked.prog.stopKnobs == [])=true:=by kernel_rfl
theorem aCC:(Rows.systemGrowsRow.inPlace == Tryz.pinned.checked.prog.inPlace 5)=true:=by kernel_rfl
theorem aAD:(Rows.systemGrowsRow.unfollowed == Tryz.pinned.checked.prog.unfollowed 5)=true:=by kernel_rfl
theorem aAC:(Rows.systemGrowsRow.recurses == Tryz.pinned.checked.prog.recurses 5)=true:=by kernel_rfl
theorem aAB:(Rows.systemGrowsRow.named == Tryz.pinned.checked.prog.varsNamed 5)=true:=by kernel_rfl
theorem aAA:(Rows.systemGrowsRow.maps == (Tryz.f5.params.toList++(OpenSpec.ofChange Rows.systemGrowsSpec).bare.plain.varTypes Tryz.pinned.checked.prog).any (Tryz.pinned.checked.prog.mapsRec ·))=true:=by kernel_rfl
theorem aAz:(Rows.systemGrowsRow.ifaces == (Tryz.f5.params.toList++(OpenSpec.ofChange Rows.systemGrowsSpec).bare.plain.varTypes Tryz.pinned.checked.prog).any (Tryz.pinned.checked.prog.ifacesRec ·))=true:=by kernel_rfl
theorem aAy:(Rows.systemGrowsRow.mapsOut == Tryz.pinned.checked.prog.mapsAmong Tryz.f5.resultTypes.toList)=true:=by kernel_rfl
theorem aAx:(Rows.systemGrowsRow.loops == (Tryz.f5.params.toList++(OpenSpec.ofChange Rows.systemGrowsSpec).bare.plain.varTypes Tryz.pinned.checked.prog).any (Tryz.pinned.checked.prog.loopsFrom ·))=true:=by kernel_rfl
theorem aAw:(Rows.systemGrowsRow.wideKeys == (Tryz.f5.params.toList++(OpenSpec.ofChange Rows.systemGrowsSpec).bare.plain.varTypes Tryz.pinned.checked.prog++Tryz.f5.resultTypes.toList).any (Tryz.pinned.checked.prog.wideKeysFrom ·))=true:=by kernel_rfl
theorem aAv:(OpenSpec.ofChange Rows.systemGrowsSpec).bare.vars.all (Tryz.pinned.checked.prog.varReadable ·)=true:=by kernel_rfl
theorem aAu:Tryz.f5.resultTypes.all (fun t=>Tryz.pinned.checked.prog.readableRec t && decide (t < Tryz.pinned.checked.prog.types.size))=true:=by kernel_rfl
theorem aAt:(Rows.systemGrowsRow.ifacesOut == Tryz.f5.resultTypes.toList.any (Tryz.pinned.checked.prog.ifacesRec ·))=true:=by kernel_rfl
theorem aAs:(Rows.systemGrowsRow.loopsOut == Tryz.f5.resultTypes.toList.any (Tryz.pinned.checked.prog.loopsFrom ·))=true:=by kernel_rfl
theorem aAr:(Rows.systemGrowsRow.plainKeys == Tryz.pinned.checked.prog.plainKeys)=true:=by kernel_rfl
theorem aAq:Rows.systemGrowsRow.shortTexts.isNone=true:=by kernel_rfl
theorem aAp:Tryz.pinned.checked.prog.stopsHeard=true:=by kernel_rfl
theorem aAo:Tryz.pinned.checked.prog.mayEnter=true:=by kernel_rfl
theorem aAn:(Rows.systemGrowsRow.lifted == Tryz.pinned.checked.prog.liftsFinal)=true:=by kernel_rfl
theorem aAm:(Tryz.pinned.checked.prog.make == some Rows.systemGrowsRow.make)=true:=by kernel_rfl
theorem aAl:(Rows.systemGrowsRow.kinds == (if Rows.systemGrowsRow.domain.isEmpty then [] else Tryz.f5.params.toList.map fun t=>match Tryz.pinned.checked.prog.underlying t with | some (.int k)=>some k | _=>none))=true:=by kernel_rfl
theorem aAk:(Rows.systemGrowsRow.pinned == Rows.systemGrowsRow.pinnedBy)=true:=by kernel_rfl
theorem aAj:(Rows.systemGrowsRow.veiled == (Tryz.f5.params.toList++(OpenSpec.ofChange Rows.systemGrowsSpec).bare.plain.varTypes Tryz.pinned.checked.prog++Tryz.f5.resultTypes.toList).any (Tryz.pinned.checked.prog.veiledRec ·))=true:=by kernel_rfl
theorem aAi:Rows.systemGrowsRow.veiledFits Tryz.pinned.checked.prog Tryz.f5.params.toList (Tryz.f5.params.toList++(OpenSpec.ofChange Rows.systemGrowsSpec).bare.plain.varTypes Tryz.pinned.checked.prog++Tryz.f5.resultTypes.toList)=true:=by kernel_rfl
theorem closed:joinedFacts Tryz.pinned.checked.prog 5 Tryz.f5 (OpenSpec.ofChange Rows.systemGrowsSpec).bare Rows.systemGrowsRow=true:=(jJ (jJ (jJ (jJ (jJ (jJ (jJ (jJ (jJ (jJ (jJ (jJ (jJ (jJ (jJ (jJ (jJ (jJ (jJ (jJ (jJ (jJ (jJ (jJ (jJ (jJ (jJ (jJ (jJ (jJ (jJ aCL aCK) aCJ) aCI) aCH) aCG) aCF) aCE) aCD) aCC) aAD) aAC) aAB) aAA) aAz) aAy) aAx) aAw) aAv) aAu) aAt) aAs) aAr) aAq) aAp) aAo) aAn) aAm) aAl) aAk) aAj) aAi)
theorem said:Rows.SystemGrowsSaid:=
 OpenClaim.holds_of_cond 5 Tryz.f5 rfl rfl rfl rfl rfl rfl rfl ⟨rfl,rfl,rfl,rfl,rfl⟩ rfl rfl rfl rfl rfl (by kernel_rfl) Tryz.func5 closed
  (of_decide_eq_true (by kernel_rfl)) (by unfold Func.isWrapper; first | (rw [if_pos (by decide +kernel)]; kernel_rfl) | (rw [if_neg (by decide +kernel)]; exact⟨rfl,rfl⟩))
  (fun os started H enc _ F=>by rw [OpenClaim.pre_eq_preRow]; exact lifted os started H enc F)
theorem plain (f:FuncId) (fn:Func) (hf:Tryz.pinned.checked.prog.funcNamed "amanuensis/amanuensislaw14.SystemGrows" = some f) (hfn:Tryz.pinned.checked.prog.funcs[f]?=some fn) :
 false=Tryz.pinned.checked.prog.looks []∧∀(j:Nat) t,fn.params[j]?=some t→Tryz.pinned.checked.prog.wantsStandIn t=false:=by
 obtain rfl:f=5:=Option.some.inj ((show Tryz.prog.funcNamed "amanuensis/amanuensislaw14.SystemGrows" = some 5 by kernel_rfl).symm.trans hf) |>.symm
 obtain rfl:fn=Tryz.f5:=(Option.some.inj (Tryz.func5.symm.trans hfn)).symm
 refine⟨by kernel_rfl,fun j t ht=>?_⟩
 rw [Tryz.params5] at ht
 have hm:=Array.mem_of_getElem? ht
 simp only [List.mem_toArray,List.mem_cons,List.not_mem_nil,or_false] at hm
 rcases hm with rfl | rfl
 all_goals exact (by kernel_rfl:Tryz.prog.wantsStandIn _=false)
theorem card:Rows.SystemGrowsCardSaid:=
 Claim7.holds_tied_plain_at .later [] _ _ _ _ said (fun _ h=>by cases h) (by kernel_rfl) (fun _ h=>by cases h) systemGrows_row_tie rfl ⟨rfl,rfl⟩ (by kernel_rfl) rfl plain (by kernel_rfl)
end Go.Proofs.YtdcafdkkpdadbaaGreatDoor.fnSystemGrows
end

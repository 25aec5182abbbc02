import GoSem.Claim
import Derived.Orders
import Derived.Scope
import Derived.LoopN
import Derived.Below
import GoSem.Core.View
import GoSem.Core.Layout
import GoSem.Op.Equal
import Derived.WalkKit
import Derived.Lib.Strings
import Derived.Laws.IdiomStrings
import Derived.Laws.RangeString
import Derived.Laws.StructEq
import Derived.Lib.Bytealg
import Derived.Lib.IndexMore
import Derived.Deep.LoopGhost
import Derived.IntWalk
import Derived.ChangeArms
import Derived.DataReads
import GoSem.ClaimJoined
import Derived.KernelRfl
import Derived.Test.YtdcafdkkpdadbaaGreatDoorProg
import Derived.Shelf.Strings.Search3
import Derived.Shelf.LaysM
import Derived.Shelf.Strings.Shaped
import Derived.Test.YtdcafdkkpdadbaaGreatDoorCards
import Derived.Test.YtdcafdkkpdadbaaGreatDoorTie
import Derived.ProofKit
import Derived.OpenShut
import Derived.Deep.DeepHandedRow
import Derived.LaidLaws
import Derived.Test.YtdcafdkkpdadbaaGreatDoorAsZG7
set_option linter.unusedSectionVars false
set_option linter.unusedVariables false
set_option linter.unusedSimpArgs false
section
namespace Go.As.Try
open Go hiding Stat
open Go.As Go.Proofs Go.RowKit Go.ChangeShapes Go.WideShapes Go.ChangeAt
open Go.Proofs.YtdcafdkkpdadbaaGreatDoor
set_option maxRecDepth 100000
theorem own:ownKnob Tryz.prog.godebug=none:=by kernel_rfl
theorem laidOut:laidOutB Tryz.prog=true:=by kernel_rfl
def apO:TypeId→Option Nat:=IZ (owns.take 10)
def ownB (P:Program) (own:TypeId→Option Nat) (l:List (Nat×Nat)):Bool:=l.all fun p=>match P.underlying p.1 with
 | some (.slice e)=>decide (DV P own 8 e=some (nU p.2)) && Nat.beq (P.cellsOf e) (nU p.2).length && Nat.ble (yI p.2) (P.bytesOf e) && Nat.ble 1 (nU p.2).length
 | _=>false
theorem PW {t i:Nat}: ∀{l:List (Nat×Nat)},IZ l t=some i→(t,i)∈l
 | [],h=>by simp [IZ] at h
 | (a,k) :: l,h=>by
   unfold IZ at h
   split at h
   ·rename_i hb
    have:=Nat.eq_of_beq_eq_true hb
    simp only [Option.some.injEq] at h
    subst this h
    simp
   ·exact List.mem_cons_of_mem _ (PW h)
theorem apP {P:Program} {l:List (Nat×Nat)} (h:ownB P (IZ l) l=true):anQ P (IZ l):=by
 intro t i hti
 have:=List.all_eq_true.1 h _ (PW hti)
 simp only at this
 split at this
 ·rename_i e he
  simp only [Bool.and_eq_true,decide_eq_true_eq] at this
  exact⟨e,8,he,this.1.1.1,Nat.eq_of_beq_eq_true this.1.1.2,Nat.le_of_ble_eq_true this.1.2,Nat.le_of_ble_eq_true this.2⟩
 ·simp at this
theorem apN:anQ Tryz.prog apO:=apP (by kernel_rfl)
theorem aqG {W:World} (h:W.ShapedOpen Tryz.prog):base.ok (Zp W) W.heap:=by
 obtain⟨m,hm⟩:=LaysM.n144.s1_3 Tryz.laysM144 W h
 exact⟨aaU hm,m,by rw [← sU]; exact hm⟩
def ZA:DataW Unit→Value
 | .lit (.int k n)=> .int k n
 | _=>undef
def cellsD:DataW Unit→Array Value
 | .agg l=>(l.map ZA).toArray
 | d=> #[ZA d]
def aBU (d:DataW Unit):Obj→Obj
 | .cells _ t f=> .cells (cellsD d) t f
 | o=>o
noncomputable def ayB (h:Array Obj) (x:String×DataW Unit):Array Obj:=match Tryz.prog.globalNamed x.1 with
 | some g=>h.modify g (aBU x.2)
 | none=>h
noncomputable def laidWorld (os:Os):World:=
 { World.holding Tryz.prog os ⟨#[],#[],[]⟩ with heap:=Rows.systemGrowsRow.laid.foldl ayB (World.holding Tryz.prog os ⟨#[],#[],[]⟩).heap }
theorem NK {ro:Nat→Prop} {h:Array Obj} {i:Nat} {d:D} {v:Value} (r:Rd ro h (.sl i) d v):BZ ro h (.sl i) (enc d) v:=by
 show Rd ro h (.sl i) (dec (enc d)) v
 rw [aG]
 exact r
theorem anI {ro:Nat→Prop} {h:Array Obj} {u:Value} (a:asL [.one .bool] [1] ro h u):u= .bool true:=by
 obtain⟨us,fl,hs,hc,hu⟩:=a
 cases hs with
 | one c v hs=>
   cases hs
   simp only [tY,RK.flat,List.append_nil,List.cons_append,List.nil_append] at hc
   obtain⟨n,ns',u',us',h1,h2,h3,h4⟩:=hc
   simp only [List.cons.injEq] at h1 h2
   obtain⟨rfl,_⟩:=h1
   obtain⟨rfl,_⟩:=h2
   rw [hu]
   exact h3
theorem amY {g j:Nat} {e:GR} (hn:j∈S.nums g) (he:S.ents j=some e) (hp:e.pat=none) (hr:e.oI= [.one .bool]) {xs:List Int} (hL:L j xs=some [1]) {W:World} (hsh:W.ShapedOpen Tryz.prog) {vals fl:List Value} (h1:Shape e.NT vals fl) (h2:jE (Zp W) W.heap (tY e.NT) xs fl) :
 Calls Tryz.prog g vals.toArray W fun en W'=>en= .returned (.bool true)∧Below W.heap.size W W':=by
 obtain⟨n,hrun⟩:=SC hL
 refine (agI axH hn he hp n xs [1] hrun (Zp W) W vals fl (fun _ h=>h) (aqG hsh) h1 h2).mono fun en W' ⟨u,hu,hb,ro',_,_,_,ha⟩=>?_
 rw [hr] at ha
 rw [anI ha] at hu
 exact⟨hu,hb⟩
end Go.As.Try
end
section
namespace Go.As
def prune (Y N:List SB):T Lf→T Lf
 | .fail=> .fail
 | .ret l=> .ret l
 | .split c x y=>match Y.contains c with
   | true=>prune Y N x
   | false=>match N.contains c with
     | true=>prune Y N y
     | false=> .split c (prune Y N x) (prune Y N y)
def zY (ρ:Nat→Int):List SB→Prop
 | []=>True
 | c :: l=>c.den ρ=true∧zY ρ l
def zW (ρ:Nat→Int):List SB→Prop
 | []=>True
 | c :: l=> ¬c.den ρ=true∧zW ρ l
theorem aeB {ρ:Nat→Int}: ∀{l:List SB},zY ρ l→∀c∈l,c.den ρ=true
 | [],_,c,h=>by simp at h
 | a :: l,hz,c,h=>by
   rcases List.mem_cons.1 h with rfl | h
   ·exact hz.1
   ·exact aeB hz.2 c h
theorem aeE {ρ:Nat→Int}: ∀{l:List SB},zW ρ l→∀c∈l,c.den ρ=false
 | [],_,c,h=>by simp at h
 | a :: l,hz,c,h=>by
   rcases List.mem_cons.1 h with rfl | h
   ·simpa using hz.1
   ·exact aeE hz.2 c h
theorem aeC {ρ:Nat→Int}: ∀{a b:List SB},zY ρ a→zY ρ b→zY ρ (a++b)
 | [],_,_,h=>h
 | _ :: _,_,h,h'=> ⟨h.1,aeC h.2 h'⟩
theorem aeF {ρ:Nat→Int}: ∀{a b:List SB},zW ρ a→zW ρ b→zW ρ (a++b)
 | [],_,_,h=>h
 | _ :: _,_,h,h'=> ⟨h.1,aeF h.2 h'⟩
theorem dJ {ρ:Nat→Int} {Y N:List SB} (h:zY ρ Y∧zW ρ N): ∀t,dU ρ (prune Y N t)=dU ρ t
 | .fail=>rfl
 | .ret l=>rfl
 | .split c x y=>by
   simp only [prune,dU]
   split
   ·rename_i h'
    rw [aeB h.1 c (List.contains_iff_mem.1 h'),if_pos rfl]
    exact dJ h x
   ·split
    ·rename_i h'
     rw [aeE h.2 c (List.contains_iff_mem.1 h'),if_neg (by simp)]
     exact dJ h y
    ·simp only [dU,dJ h x,dJ h y]
theorem aP {ρ:Nat→Int} (Y N:List SB) {t:T Lf} {R:RS} (u:T Lf) (h:zY ρ Y∧zW ρ N) (k:prune Y N t=u) (h':dU ρ u=R):dU ρ t=R:=by rw [← dJ h t,k,h']
theorem zz :
 (∀{ρ:Nat→Int} (c:SB) (a b:T Lf),dU ρ (sp c a b)=if c.den ρ=true then dU ρ a else dU ρ b)∧
 (∀{ρ:Nat→Int} (l:List SE),dU ρ (ou l)= .out (l.map (SE.den ρ)))∧
 (∀{ρ:Nat→Int} (j:Nat) (l:List SE),dU ρ (ju j l)= .jump j (l.map (SE.den ρ)))∧
 (∀{ρ:Nat→Int},dU ρ fl= .no)∧
 (∀{ρ:Nat→Int} (a b:SE),((SB.lt a b).den ρ=true)=(a.den ρ < b.den ρ))∧
 (∀{ρ:Nat→Int} (a b:SE),((SB.eq a b).den ρ=true)=(a.den ρ=b.den ρ))∧
 (∀{F:GN} {lo:Nat→Int} {i:Nat},i < 900→(SE.aC i).den (dB F lo)=lo i)∧
 (∀{ρ:Nat→Int} (n:Int),(SE.lit n).den ρ=n)∧
 (∀{ρ:Nat→Int} (d:D),(SE.dat d).den ρ=enc d)∧
 (∀{ρ:Nat→Int} (a:SE),(ln a).den ρ=((dec (a.den ρ)).l.length:Int))∧
 (∀{ρ:Nat→Int} (a:SE),(nm a).den ρ=(dec (a.den ρ)).n)∧
 (∀{ρ:Nat→Int} (j:Nat) (a:SE),(ce j a).den ρ=enc ((dec (a.den ρ)).hd j))∧
 (∀{ρ:Nat→Int} (a b:SE),(el a b).den ρ=enc ((dec (a.den ρ)).at (b.den ρ)))∧
 (∀{ρ:Nat→Int} (a b:SE),(cn a b).den ρ=enc (.p (dec (a.den ρ)) (dec (b.den ρ))))∧
 (∀{ρ:Nat→Int} (a:SE),(mk a).den ρ=enc (.i (a.den ρ)))∧
 (∀{ρ:Nat→Int} (a:SE),(wr a).den ρ=IntKind.i64.wrap (a.den ρ))∧
 (∀{ρ:Nat→Int} (a b:SE),(SE.add a b).den ρ=a.den ρ+b.den ρ)∧
 (∀{ρ:Nat→Int} (a b:SE),(SE.sub a b).den ρ=a.den ρ - b.den ρ)∧
 (∀{ρ:Nat→Int} (o:aH) (a b:SE),(SE.op o a b).den ρ=o.den (a.den ρ) (b.den ρ))∧
 (∀{F:GN} {lo:Nat→Int} (j:Nat) (l:List SE),(a0 j l).den (dB F lo)=if (F j (l.map (SE.den (dB F lo)))).isSome=true then 1 else 0)∧
 (∀{F:GN} {lo:Nat→Int} (j:Nat) (l:List SE) (i:Nat),(rr j l i).den (dB F lo)=low ((F j (l.map (SE.den (dB F lo)))).getD []) i)∧
 (∀{x:Int} {xs:List Int},low (x :: xs) 0=x)∧
 (∀{x:Int} {xs:List Int} {i:Nat},low (x :: xs) (i+1)=low xs i)∧
 (∀{f:SE→Int},List.map f []= [])∧
 (∀{f:SE→Int} {a:SE} {l:List SE},List.map f (a :: l)=f a :: List.map f l)∧
 (∀d:D,dec (enc d)=d)∧
 (∀n:Int,(D.i n).n=n)∧
 (∀{α:Type} (a:α),(some a).isSome=true)∧
 (∀{α:Type} (a b:α),(some a).getD b=a)∧
 (∀{α:Type} {_:Decidable True} (a b:α),ite True a b=a)∧
 (∀{α:Type} {_:Decidable False} (a b:α),ite False a b=b)∧
 (∀{ρ:Nat→Int},zY ρ []=True)∧
 (∀{ρ:Nat→Int} (c:SB) (l:List SB),zY ρ (c :: l)=(c.den ρ=true∧zY ρ l))∧
 (∀{ρ:Nat→Int},zW ρ []=True)∧
 (∀{ρ:Nat→Int} (c:SB) (l:List SB),zW ρ (c :: l)=(¬c.den ρ=true∧zW ρ l))∧
 (∀p:Prop,(p∧True)=p)∧(∀p:Prop,(True∧p)=p)∧(¬False)=True:=
 ⟨eF,kQ,qH,yQ,oM,iU,bK,bW,kN,jD,Ii,amI,Ij,Nr,Nq,BJ,den_add,arX,Np,iI,gQ,aN _,aO _ _,rfl,rfl,aG,n_i,fun _=>rfl,fun _ _=>rfl,fun _ _=>if_pos trivial,fun _ _=>if_neg id,rfl,fun _ _=>rfl,rfl,fun _ _=>rfl,and_true,true_and,not_false_eq_true⟩
end Go.As
end
section
namespace Go.As.Try
open Go hiding Stat Spec shape
open Go.As
set_option maxRecDepth 100000
def Ends (p:List Int→Prop) (R:RS):Prop:= ∃ys,fin L R=some ys∧p ys
def Tot (j:Nat) (xs:List Int) (p:List Int→Prop):Prop:= ∃ys,L j xs=some ys∧p ys
theorem Tot.of {j:Nat} {xs:List Int} {p:List Int→Prop} (h:Ends p (dU (dB L (low xs)) (S.tree j))):Tot j xs p:=by
 obtain⟨ys,h1,h2⟩:=h
 exact⟨ys,by rw [aX]; exact h1,h2⟩
theorem Ends.ite {p:List Int→Prop} {c:Prop} [Decidable c] {a b:RS} (h1:c→Ends p a) (h2: ¬c→Ends p b):Ends p (if c then a else b):=by
 by_cases h:c
 ·rw [if_pos h]; exact h1 h
 ·rw [if_neg h]; exact h2 h
theorem Ends.out {p:List Int→Prop} {ys:List Int} (h:p ys):Ends p (.out ys):=⟨ys,rfl,h⟩
theorem Ends.jump {p:List Int→Prop} {j:Nat} {xs:List Int} (h:Tot j xs p):Ends p (.jump j xs):=h
def Ew (ys:List Int):Prop:= ∃c:Int,ys= [c]∧(c=0∨c=1)
def is3 (ys:List Int):Prop:= ∃a b c:Int,ys= [a,b,c]∧(c=0∨c=1)
theorem zF:Ew [0]:=⟨0,rfl,.inl rfl⟩
theorem zD:Ew [1]:=⟨1,rfl,.inr rfl⟩
theorem Ve {a b:Int}:is3 [a,b,0]:=⟨a,b,0,rfl,.inl rfl⟩
theorem auB {a b:Int}:is3 [a,b,1]:=⟨a,b,1,rfl,.inr rfl⟩
def mO (x:D):D:=dL [.i (-1),.i (if (x.hd 0).n=3∨(x.hd 0).n=9 then (x.hd 2).n else 0),.i 0,.i 0,.i 1,.i 1]
theorem NS (d0:D) (hlen:d0.l.length≤64): ∀(k i:Nat) (acc:List D),i+k=d0.l.length→acc.length=i→
 L 302 [enc (dL acc),enc d0,(d0.l.length:Int),(i:Int)]=some [enc (dL (acc++(d0.l.drop i).map mO))]
 | 0,i,acc,h1,h2=>by
   rw [aX,e302]
   simp only [aoS,eF,kQ,oM,bK,aN,aO,Nat.reduceLT,fin,List.map]
   rw [if_neg (by omega)]
   simp only [fin,bK,aN,Nat.reduceLT]
   rw [List.drop_of_length_le (by omega)]
   simp
 | k+1,i,acc,h1,h2=>by
   have hi:i < d0.l.length:=by omega
   have hd:d0.l.drop i=d0.l[i] :: d0.l.drop (i+1):=List.drop_eq_getElem_cons hi
   have ih:=fun x=>NS d0 hlen k (i+1) (acc++ [x]) (by omega) (by simp [h2])
   rw [aX,e302,hd]
   simp only [aoS,eF,kQ,qH,yQ,oM,iU,bK,jD,bW,Ii,amI,Ij,Np,Nr,Nq,kN,BJ,den_add,aN,aO,Nat.reduceLT,List.map,aG,aZ,bM hi]
   have w:=bD (n:=i) (by omega)
   have c1:(i:Int) < (d0.l.length:Int):=by omega
   have c2: ¬((i:Int) < 0):=by omega
   have c3:(acc.length:Int) < 1759218604440:=by omega
   simp only [c1,c2,c3,w,if_true,if_false,fin,aH.den,aG,aZ]
   by_cases h3:(d0.l[i].hd 0).n=3
   ·simp only [h3,if_true,fin]
    have:=ih (mO d0.l[i])
    simp only [mO,h3,true_or,if_true,dL] at this ⊢
    rw [this]
    simp
   ·by_cases h9:(d0.l[i].hd 0).n=9
    ·simp only [if_neg h3,if_pos h9,fin]
     have:=ih (mO d0.l[i])
     simp only [mO,if_pos (Or.inr h9:(d0.l[i].hd 0).n=3∨(d0.l[i].hd 0).n=9),dL] at this ⊢
     rw [this]
     simp
    ·simp only [if_neg h3,if_neg h9,fin]
     have:=ih (mO d0.l[i])
     simp only [mO,h3,h9,or_self,if_false,dL] at this ⊢
     rw [this]
     simp
end Go.As.Try
end
section
namespace Go.As.Try
open Go hiding Stat Spec shape
open Go.As
set_option maxRecDepth 100000
def Bs (d:D):Prop:=d=dL d.l∧∀(i:Nat) (h:i < d.l.length),0≤(d.l[i]).n∧(d.l[i]).n < 256
theorem aAZ (s:ByteArray):Bs (Af s):=by
 unfold Af vS
 refine⟨by rw [aZ],fun i h=>?_⟩
 simp only [aZ,List.length_map,List.getElem_map,D.n] at h ⊢
 have:=(s.data.toList[i]).toNat_lt
 omega
theorem IL (d:D) (hb:Bs d) (hlen:d.l.length≤1000000): ∀(k i:Nat) (n:Int),i+k=d.l.length→∃a b,L 1102 [n,enc d,(d.l.length:Int),(i:Int)]=some [a,b]
 | 0,i,n,h1=>by
   rw [aX,amF]
   simp only [Zj,eF,kQ,oM,bK,aN,aO,Nat.reduceLT,List.map,bW]
   rw [if_neg (by omega)]
   exact⟨_,_,rfl⟩
 | k+1,i,n,h1=>by
   have hi:i < d.l.length:=by omega
   have ih:=fun x=>IL d hb hlen k (i+1) x (by omega)
   rw [aX,amF]
   have w:=bD (n:=i) (by omega)
   have c1:(i:Int) < (d.l.length:Int):=by omega
   have c2: ¬((i:Int) < 0):=by omega
   simp only [Zj,eF,kQ,qH,yQ,oM,bK,aN,aO,Nat.reduceLT,List.map,bW,jD,aG,c1,c2,if_true,if_false,BJ,den_add,w]
   split
   ·exact⟨_,_,rfl⟩
   ·exact ih _
theorem XC (d:D) (hb:Bs d) (hlen:d.l.length≤1000000): ∃a b,L 1100 [enc d]=some [a,b]:=by
 rw [aX,avU]
 simp only [agG,eF,qH,iU,bK,aN,aO,Nat.reduceLT,List.map,bW,jD,aG]
 split
 ·show ∃a b,L 1101 []=some [a,b]
  rw [aX,avT]
  exact⟨_,_,rfl⟩
 ·exact IL d hb hlen d.l.length 0 _ (by omega)
theorem QF (z:Int): ∀(l:List D) (i:Nat),wK z l (i:Int)= -1∨((i:Int)≤wK z l i∧wK z l i < (i:Int)+l.length)
 | [],i=> .inl rfl
 | d :: l,i=>by
   have ih:=QF z l (i+1)
   have hc:((i+1:Nat):Int)=(i:Int)+1:=by omega
   rw [hc] at ih
   have hl:((d :: l).length:Int)=(l.length:Int)+1:=by simp
   cases d with
   | i n=>
     simp only [wK]
     split
     ·right; omega
     ·rcases ih with h | ⟨h1,h2⟩
      ·left; exact h
      ·right; omega
   | p a b=>
     simp only [wK]
     rcases ih with h | ⟨h1,h2⟩
     ·left; exact h
     ·right; omega
theorem amQ {z:Int} {d:D} {l:List D} (h:d≠.i z) (h0: ¬Og (d :: l) z < 0):1≤Og (d :: l) z∧Og (d :: l) z < (l.length:Int)+1:=by
 have h1:=QF z l 1
 have key:Og (d :: l) z=wK z l ((1:Nat):Int):=by
  unfold Og
  cases d with
  | i n=>
    simp only [wK]
    rw [if_neg (by intro q; exact h (by rw [q]))]
    rfl
  | p a b=>rfl
 rw [key] at h0 ⊢
 omega
theorem aDr:(b0.at 10).n=1:=by
 show (b0.at ((10:Nat):Int)).n=1
 kernel_rfl
theorem BO (d:D) (hb:Bs d) (hlen:d.l.length≤1000000) (x1:Int): ∀(k i:Nat),d.l.length - i≤k→i≤d.l.length→∃p:Nat,p≤d.l.length∧L 12801 [enc d,x1,(i:Int)]=some [0,enc d,x1,(p:Int)]
 | k,i,h1,h2=>by
   rw [aX,alN]
   have c2: ¬((i:Int) < 0):=by omega
   by_cases hi:i < d.l.length
   ·have c1:(i:Int) < (d.l.length:Int):=by omega
    have w:=bD (n:=i) (by omega)
    obtain⟨b1,b2⟩:=hb.2 i hi
    have b1: ¬(d.l[i]).n < 0:=by omega
    obtain⟨k,rfl⟩ : ∃k',k=k'+1:=⟨k - 1,by omega⟩
    have hdr:(d.l.take d.l.length).drop i=d.l[i] :: d.l.drop (i+1):=by rw [List.take_length,List.drop_eq_getElem_cons hi]
    simp only [Rq,eF,kQ,qH,yQ,oM,iU,bK,aN,aO,Nat.reduceLT,List.map,bW,kN,jD,aG,c1,c2,if_true,if_false,BJ,den_add,w,Ii,Ij,bM hi,b1,b2]
    by_cases q1:(b0.at (d.l[i]).n).n=1
    ·simp only [q1,if_true]
     exact BO d hb hlen x1 k (i+1) (by omega) (by omega)
    ·by_cases q2:(b0.at (d.l[i]).n).n=2
     ·simp only [if_neg q1,if_pos q2]
      have hne:d.l[i]≠.i 10:=by
       intro h
       rw [h] at q1
       exact q1 aDr
      simp only [Int.lt_irrefl,if_false,Np,aH.den,Nr,Nq,kN,jD,bK,bW,aN,aO,Nat.reduceLT,aG,D.hd,l_p,Es,n_i,List.getElem?_cons_zero,List.getElem?_cons_succ,Option.getD_some,Int.toNat_natCast,aZ,hdr]
      split
      ·exact⟨d.l.length,Nat.le_refl _,by simp [fin]⟩
      ·rename_i h0
       obtain⟨g1,g2⟩:=amQ hne h0
       rw [List.length_drop] at g2
       obtain⟨m,hm⟩ : ∃m:Nat,Og (d.l[i] :: d.l.drop (i+1)) 10=(m:Int):=⟨(Og (d.l[i] :: d.l.drop (i+1)) 10).toNat,by omega⟩
       have w2:IntKind.i64.wrap ((i:Int)+(m:Int))=((i+m:Nat):Int):=by rw [qV (by omega) (by omega)]; omega
       simp only [hm,w2,fin]
       exact BO d hb hlen x1 k (i+m) (by omega) (by omega)
     ·simp only [if_neg q1,if_neg q2]
      exact⟨i,by omega,rfl⟩
   ·have c1: ¬(i:Int) < (d.l.length:Int):=by omega
    simp only [Rq,eF,kQ,oM,bK,aN,aO,Nat.reduceLT,List.map,bW,jD,aG,c1,if_false]
    exact⟨i,by omega,rfl⟩
theorem YD (d:D) (hb:Bs d) (hlen:d.l.length≤1000000) (i:Nat) (hi:i≤d.l.length): ∃p:Nat,p≤d.l.length∧L 12800 [enc d,(i:Int)]=some [0,enc d,(i:Int),(p:Int)]:=by
 rw [aX,alO]
 simp only [Xb,qH,bK,aN,aO,Nat.reduceLT,List.map]
 exact BO d hb hlen _ _ i (Nat.le_refl _) hi
theorem P9 (d:D) (hb:Bs d) (hlen:d.l.length≤1000000) (x1 x2:Int): ∀(k i:Nat),d.l.length - i≤k→i≤d.l.length→∃p:Nat,i≤p∧p≤d.l.length∧L 12851 [enc d,x1,x2,(i:Int)]=some [0,enc d,x1,(p:Int)]
 | k,i,h1,h2=>by
   rw [aX,alL]
   have c2: ¬((i:Int) < 0):=by omega
   by_cases hi:i < d.l.length
   ·have c1:(i:Int) < (d.l.length:Int):=by omega
    have w:=bD (n:=i) (by omega)
    obtain⟨b1,b2⟩:=hb.2 i hi
    have b1: ¬(d.l[i]).n < 0:=by omega
    obtain⟨k,rfl⟩ : ∃k',k=k'+1:=⟨k - 1,by omega⟩
    have ih: ∃p:Nat,i≤p∧p≤d.l.length∧L 12851 [enc d,x1,x2,((i+1:Nat):Int)]=some [0,enc d,x1,(p:Int)]:=by
     obtain⟨p,q1,q2,q3⟩:=P9 d hb hlen x1 x2 k (i+1) (by omega) (by omega)
     exact⟨p,by omega,q2,q3⟩
    simp only [Ro,eF,kQ,qH,yQ,oM,iU,bK,aN,aO,Nat.reduceLT,List.map,bW,kN,jD,aG,c1,c2,if_true,if_false,BJ,den_add,w,Ii,Ij,bM hi,b1,b2]
    split
    ·exact ih
    ·split
     ·split
      ·exact ih
      ·exact⟨i,by omega,by omega,rfl⟩
     ·exact⟨i,by omega,by omega,rfl⟩
   ·have c1: ¬(i:Int) < (d.l.length:Int):=by omega
    simp only [Ro,eF,kQ,oM,bK,aN,aO,Nat.reduceLT,List.map,bW,jD,aG,c1,if_false]
    exact⟨i,by omega,by omega,rfl⟩
theorem ZC {l:List D} {a b:D} (h:enc (dL l)=enc (.p a (.p b (.i 0)))):l.length=2:=by
 have:=congrArg (fun d=>d.l.length) (qN h)
 simpa [D.l] using this
theorem ajZ (d:D) (hb:Bs d) (hlen:d.l.length≤1000000) (i:Nat) (hi:i < d.l.length): ∃p:Nat,i < p∧p≤d.l.length∧L 12850 [enc d,(i:Int)]=some [0,enc d,(i:Int),(p:Int)]:=by
 have c2: ¬((i:Int) < 0):=by omega
 have c1:(i:Int) < (d.l.length:Int):=by omega
 have w:=bD (n:=i) (by omega)
 have w1:=bD (n:=i+1) (by omega)
 have w2:IntKind.i64.wrap ((i:Int)+2)=((i+2:Nat):Int):=by rw [qV (by omega) (by omega)]; omega
 obtain⟨b1,b2⟩:=hb.2 i hi
 have b1: ¬(d.l[i]).n < 0:=by omega
 have c3: ¬(((i+2:Nat):Int) < (i:Int)):=by omega
 rw [aX,alM]
 simp only [Xa,eF,kQ,qH,yQ,oM,iU,bK,aN,aO,Nat.reduceLT,List.map,bW,jD,aG,c1,c2,c3,if_true,if_false,BJ,den_add,w,w1,w2,Ii,Ij,bM hi,b1,b2,Int.lt_irrefl,Np,aH.den,Nr,Nq,kN,D.hd,l_p,Es,n_i,List.getElem?_cons_zero,List.getElem?_cons_succ,Option.getD_some,Int.toNat_natCast]
 split
 ·split
  ·rename_i h5
   split
   ·rename_i h6
    have:=ZC h6
    simp only [List.length_drop,List.length_take] at this
    omega
   ·split
    ·rename_i h6
     have:=ZC h6
     simp only [List.length_drop,List.length_take] at this
     omega
    ·exact⟨i+1,by omega,by omega,rfl⟩
  ·rename_i h5
   split
   ·exact⟨i+1+1,by omega,by omega,rfl⟩
   ·split
    ·exact⟨i+1+1,by omega,by omega,rfl⟩
    ·exact⟨i+1,by omega,by omega,rfl⟩
 ·obtain⟨p,q1,q2,q3⟩:=P9 d hb hlen (i:Int) ((b0.at (d.l[i]).n).n) _ (i+1) (Nat.le_refl _) (by omega)
  exact⟨p,by omega,q2,q3⟩
theorem asC {d:D} (hb:Bs d) (a b:Nat):Bs (dL ((d.l.take b).drop a)):=by
 refine⟨by rw [aZ],fun i h=>?_⟩
 simp only [aZ] at h ⊢
 have hl:i < d.l.length - a:=by
  simp only [List.length_drop,List.length_take] at h
  omega
 have:((d.l.take b).drop a)[i]=d.l[a+i]:=by simp
 rw [this]
 exact hb.2 _ _
theorem ahU (d:D) (hb:Bs d): ∃k s n ln a e er el',L 1050 [enc d,0]=some [k,s,n,ln,a,e,er,el']:=by
 rw [aX,avV]
 by_cases hg:(16384:Int) < (d.l.length:Int)
 ·simp only [UG,eF,kQ,oM,bK,aN,aO,Nat.reduceLT,List.map,bW,jD,aG,hg,if_true]
  exact⟨_,_,_,_,_,_,_,_,rfl⟩
 ·obtain⟨p,hp,hB⟩:=YD d hb (by omega) 0 (by omega)
  have hB':L 12800 [enc d,0]=some [0,enc d,0,(p:Int)]:=hB
  have c0: ¬((0:Int) < 0):=by omega
  have c1: ¬((d.l.length:Int) < 0):=by omega
  have c2: ¬((p:Int) < 0):=by omega
  have c3: ¬((d.l.length:Int) < (p:Int)):=by omega
  by_cases he:(p:Int)=(d.l.length:Int)
  ·simp only [UG,eF,kQ,yQ,oM,iU,bK,aN,aO,Nat.reduceLT,List.map,bW,jD,aG,hg,if_false,c0,c1,iI,gQ,hB',Option.isSome_some,if_true,Option.getD_some,c2,c3,he,Int.lt_irrefl,fin]
   exact⟨_,_,_,_,_,_,_,_,rfl⟩
  ·obtain⟨e,h1,h2,hE⟩:=ajZ d hb (by omega) p (by omega)
   have c4: ¬((e:Int) < (p:Int)):=by omega
   have c5: ¬((d.l.length:Int) < (e:Int)):=by omega
   have hpart:=asC hb p e
   have hpl:((d.l.take e).drop p).length=e - p:=by simp only [List.length_drop,List.length_take]; omega
   have hp0:0 < ((d.l.take e).drop p).length:=by omega
   obtain⟨na,nb,hN⟩:=XC _ hpart (by rw [aZ]; omega)
   obtain⟨b1,b2⟩:=hpart.2 0 (by rw [aZ]; exact hp0)
   generalize hq:(d.l.take e).drop p=q at *
   simp only [aZ] at b1 b2
   have b1: ¬(q[0]).n < 0:=by omega
   have hat:(dL q).at 0=q[0]:=by
    have:=bM (d:=dL q) (i:=0) (by rw [aZ]; exact hp0)
    simpa using this
   have c6:(0:Int) < (q.length:Int):=by omega
   have c7:(q.length:Int) < 1000000000:=by omega
   have c8:((([D.i 32]++q:List D).length:Nat):Int) < 1000000000:=by simp only [List.length_append,List.length_cons,List.length_nil]; omega
   simp only [UG,eF,kQ,yQ,oM,iU,bK,aN,aO,Nat.reduceLT,List.map,bW,jD,aG,hg,if_false,c0,c1,iI,gQ,hB',hE,Option.isSome_some,if_true,Option.getD_some,c2,c3,c4,c5,if_neg he,Np,aH.den,Nr,Nq,kN,D.hd,l_p,Es,n_i,List.getElem?_cons_zero,List.getElem?_cons_succ,Int.toNat_natCast,hq,aZ,c6,c7,c8,Ii,Ij,hat,b1,b2,hN]
   repeat' first | exact⟨_,_,_,_,_,_,_,_,rfl⟩ | split
theorem mZ (d:D) (hb:Bs d): ∃b,(b=0∨b=1)∧L 1000 [enc d]=some [b]:=by
 obtain⟨k,s,n,ln',a,e,er,el',h⟩:=ahU d hb
 rw [aX,avW]
 simp only [agH,eF,kQ,yQ,iU,bK,aN,aO,Nat.reduceLT,List.map,bW,iI,gQ,h,Option.isSome_some,if_true,Option.getD_some]
 split
 ·split
  ·split
   ·exact⟨1,.inr rfl,rfl⟩
   ·exact⟨0,.inl rfl,rfl⟩
  ·exact⟨0,.inl rfl,rfl⟩
 ·exact⟨0,.inl rfl,rfl⟩
end Go.As.Try
end
section
namespace Go.As.Try
open Go hiding Stat Spec shape
open Go.As
set_option maxRecDepth 100000
theorem aBe {d:D} (h:Wd .str d):Bs d:=by
 obtain⟨s,rfl⟩:=h.s
 exact aAZ s
theorem Df {kids:D} (h:Wd (.sl 6) kids) {i:Nat} (hi:i < kids.l.length): ∃k s n ks,kids.l[i]=dL [.i k,s,.i n,ks]∧iR .u8 k∧Wd .str s∧iR .i64 n∧Wd (.sl 6) ks:=by
 obtain⟨r,h1,hl,hc⟩:=h.elN (cs:=[.int .u8,.str,.int .i64,.sl 6]) rfl _ (List.getElem_mem hi)
 match r,hl with
 | [a,b,c,d],_=>
   obtain⟨k,rfl,hk⟩:=(hc 0 _ _ rfl rfl).i
   obtain⟨n,rfl,hn⟩:=(hc 2 _ _ rfl rfl).i
   exact⟨k,b,n,d,h1,hk,hc 1 _ _ rfl rfl,hn,hc 3 _ _ rfl rfl⟩
theorem abE (d:D) (hb:Bs d): ∃b,(b=0∨b=1)∧L 12900 [enc d,0]=some [b,enc d,0]:=by
 obtain⟨b,hb1,h⟩:=mZ d hb
 rw [aX,alK]
 simp only [W9,zz,aH.den,Nat.reduceLT,h]
 rcases hb1 with rfl | rfl
 ·exact⟨_,.inl rfl,rfl⟩
 ·exact⟨_,.inr rfl,rfl⟩
theorem OQ: ∀(m deep:Nat),21 - deep≤m→∀(k n left loc:Int) (s kids:D),Wd .str s→Wd (.sl 6) kids→
 Tot 5050 [k,enc s,n,enc kids,(deep:Int),left,loc] is3
 | m,deep,hm,k,n,left,loc,s,kids,hs,hk=>by
   refine Tot.of ?_
   rw [avA]
   simp only [afR,zz,aH.den,Nat.reduceLT]
   refine .ite (fun _=> .out Ve) fun _=> .ite (fun _=> .out Ve) fun hd=> .jump ?_
   obtain⟨m,rfl⟩ : ∃m',m=m'+1:=⟨m - 1,by omega⟩
   have ih:=OQ m (deep+1) (by omega)
   have hlen:=hk.len
   have w0:=bD (n:=deep) (by omega)
   have loop: ∀(j i:Nat) (l' c':Int),i+j=kids.l.length→Tot 5051 [(deep:Int),enc kids,(kids.l.length:Int),(i:Int),l',c',k,enc s,n] is3:=by
    intro j
    induction j with
    | zero=>
      intro i l' c' hi
      have c1: ¬(i:Int) < (kids.l.length:Int):=by omega
      obtain⟨b,hb,hR⟩:=abE s (aBe hs)
      refine Tot.of ?_
      rw [akU]
      simp only [Y9,zz,aH.den,Nat.reduceLT,c1,hR]
      rcases hb with rfl | rfl
      ·simp only [Int.reduceEq,if_true,if_false]
       repeat' first | exact .out Ve | exact .out auB | refine .ite (fun _=>?_) (fun _=>?_)
      ·simp only [Int.reduceEq,if_true,if_false]
       repeat' first | exact .out Ve | exact .out auB | refine .ite (fun _=>?_) (fun _=>?_)
    | succ j ih2=>
      intro i l' c' hi
      have hil:i < kids.l.length:=by omega
      have c1:(i:Int) < (kids.l.length:Int):=by omega
      have c2: ¬((i:Int) < 0):=by omega
      have w:=bD (n:=i) (by omega)
      obtain⟨k',s',n',ks',he,_,h1,_,h2⟩:=Df hk hil
      obtain⟨ys,hR,a,b,c,rfl,hc⟩:=ih k' n' l' c' s' ks' h1 h2
      refine Tot.of ?_
      rw [akU]
      simp only [Y9,zz,aH.den,Nat.reduceLT,c1,c2,bM hil,he,dP,List.getElem?_cons_zero,List.getElem?_cons_succ,w0,w,hR]
      exact .ite (fun _=> .out Ve) fun _=> .jump (ih2 (i+1) _ _ (by omega))
   exact loop kids.l.length 0 _ _ (by omega)
theorem abJ (k n loc:Int) (s kids:D) (hs:Wd .str s) (hk:Wd (.sl 6) kids):Tot 800 [k,enc s,n,enc kids,loc] Ew:=by
 obtain⟨ys,hR,a,b,c,rfl,hc⟩:=OQ 20 1 (by omega) k n 1000 loc s kids hs hk
 have hR':L 5050 [k,enc s,n,enc kids,1,1000,loc]=some [a,b,c]:=hR
 refine Tot.of ?_
 rw [aC2]
 simp only [axA,zz,aH.den,Nat.reduceLT,hR']
 exact .ite (fun _=> .out zF) fun _=> .out zD
end Go.As.Try
end
section
namespace Go.As.Try
open Go hiding Stat Spec shape
open Go.As
set_option maxRecDepth 100000
def atZ (a b c:Int) (ys:List Int):Prop:= ∃i:Int,ys= [a,b,c,i]
def ayG (a b c:Int) (ys:List Int):Prop:= ∃i:Int,ys= [a,b,c,i]∧(i=0∨i=1)
theorem FU (kids loc:D) (nm' code:Int) (hk:Wd (.sl 6) kids): ∀(j i:Nat),i+j=kids.l.length→Tot 5401 [enc kids,(kids.l.length:Int),(i:Int),nm',enc loc,code] (atZ nm' (enc loc) code)
 | 0,i,hi=>by
   have c1: ¬(i:Int) < (kids.l.length:Int):=by omega
   refine Tot.of ?_
   rw [akQ]
   simp only [Y5,zz,aH.den,Nat.reduceLT,c1]
   exact .out ⟨_,rfl⟩
 | j+1,i,hi=>by
   have hlen:=hk.len
   have hil:i < kids.l.length:=by omega
   have c1:(i:Int) < (kids.l.length:Int):=by omega
   have c2: ¬((i:Int) < 0):=by omega
   have w:=bD (n:=i) (by omega)
   obtain⟨k',s',n',ks',he,_,h1,_,h2⟩:=Df hk hil
   obtain⟨ys,hR,b,rfl,hb⟩:=abJ k' n' (loc.l.length:Int) s' ks' h1 h2
   refine Tot.of ?_
   rw [akQ]
   simp only [Y5,zz,aH.den,Nat.reduceLT,c1,c2,bM hil,he,dP,List.getElem?_cons_zero,List.getElem?_cons_succ,w,hR]
   exact .ite (fun _=> .out ⟨_,rfl⟩) fun _=> .jump (FU kids loc nm' code hk j (i+1) (by omega))
theorem adE (kids loc:D) (nm' code:Int) (hk:Wd (.sl 6) kids):Tot 5000 [enc kids,nm',enc loc,code] (ayG nm' (enc loc) code):=by
 have h0:Tot 5400 [enc kids,nm',enc loc,code] (atZ nm' (enc loc) code):=by
  refine Tot.of ?_
  rw [auQ]
  simp only [afK,zz,aH.den,Nat.reduceLT]
  exact .jump (FU kids loc nm' code hk kids.l.length 0 (by omega))
 obtain⟨ys,hR,i,rfl⟩:=h0
 refine Tot.of ?_
 rw [avC]
 simp only [afS,zz,aH.den,Nat.reduceLT,hR]
 exact .ite (fun _=> .out ⟨_,rfl,.inl rfl⟩) fun _=> .out ⟨_,rfl,.inr rfl⟩
theorem RZ (o:Int):Tot 1200 [o] (fun ys=> ∃k,ys= [k]):=by
 refine Tot.of ?_
 rw [avR]
 simp only [agE,zz,aH.den,Nat.reduceLT]
 repeat' first | exact .out ⟨_,rfl⟩ | refine .ite (fun _=>?_) (fun _=>?_)
theorem sV (o:Int):Tot 1250 [o] Ew:=by
 refine Tot.of ?_
 rw [avQ]
 simp only [agD,zz,aH.den,Nat.reduceLT]
 repeat' first | exact .out zF | exact .out zD | refine .ite (fun _=>?_) (fun _=>?_)
theorem sJ (o:Int):Tot 1300 [o] Ew:=by
 refine Tot.of ?_
 rw [avP]
 simp only [agC,zz,aH.den,Nat.reduceLT]
 repeat' first | exact .out zF | exact .out zD | refine .ite (fun _=>?_) (fun _=>?_)
theorem VY (o:Int):Tot 1350 [o] Ew:=by
 refine Tot.of ?_
 rw [avO]
 simp only [agB,zz,aH.den,Nat.reduceLT]
 repeat' first | exact .out zF | exact .out zD | refine .ite (fun _=>?_) (fun _=>?_)
end Go.As.Try
end
section
namespace Go.As.Try
open Go hiding Stat Spec shape
open Go.As
set_option maxRecDepth 100000
def E1:D:=.p (.i 1) (.p (.i 0) (.p (.i 0) (.p (.i 1) (.i 0))))
theorem DF:Bs (.i 0):=⟨rfl,fun i h=>by simp [D.l] at h⟩
theorem DC {b:Int} (h1:0≤b) (h2:b < 256):Bs (.p (.i b) (.i 0)):=⟨rfl,fun i h=>by
 simp only [D.l,List.length_cons,List.length_nil] at h
 obtain rfl:i=0:=by omega
 exact⟨h1,h2⟩⟩
theorem iE (k n x5:Int) (s s':D) (hs:Bs s) (hs':Bs s'):Tot 1400 [k,enc s,n,enc s',x5] Ew:=by
 obtain⟨b,hb,hR⟩:=mZ s hs
 obtain⟨b',hb',hR'⟩:=mZ s' hs'
 obtain⟨ys,hC,c,rfl,hc⟩:=VY k
 refine Tot.of ?_
 rw [avN]
 simp only [agA,zz,aH.den,Nat.reduceLT,hR,hR',hC]
 repeat' first | exact .out zF | exact .out zD | refine .ite (fun _=>?_) (fun _=>?_)
theorem asG:L 1150 [1,enc (.i 0),0,enc (.i 1)]=some [1]:=by
 rw [aX,avS]
 simp only [agF,zz,aH.den,Nat.reduceLT,Es,List.length_nil,Int.reduceLT,Int.reduceEq]
 rfl
theorem adF (a b:Int):L 5450 [enc (.i 1),a,b]=some [b]:=by
 rw [aX,auP]
 simp only [afJ,zz,aH.den,Nat.reduceLT,Es,List.length_nil,fin]
 rw [aX,auO]
 simp only [afI,zz,aH.den,Nat.reduceLT]
 rfl
theorem Dc:L 5250 [enc (dL [E1]),2,1]=some [2,enc (dL [E1])]:=by
 have h1:=asG
 have h2:=adF 3 2
 have w1:IntKind.i64.wrap (1+1)=2:=qV (by omega) (by omega)
 have w2:IntKind.i64.wrap (2+1)=3:=qV (by omega) (by omega)
 have w3:IntKind.i64.wrap (0+1)=1:=qV (by omega) (by omega)
 have ha:(dL [E1]).at 0=E1:=rfl
 have g0:E1.hd 0= .i 1:=rfl
 have g1:E1.hd 1= .i 0:=rfl
 have g2:E1.hd 2= .i 0:=rfl
 have g3:E1.hd 3= .i 1:=rfl
 rw [aX,auT]
 simp only [afN,zz,aH.den,Nat.reduceLT,aZ,List.length_cons,List.length_nil,Nat.zero_add,fin]
 rw [aX,akT]
 simp only [Y8,zz,aH.den,Nat.reduceLT,aZ,List.length_cons,List.length_nil,Nat.zero_add,ha,g0,g1,g2,g3,w1,w2,w3,h1,h2,Int.reduceLT,Int.reduceEq,fin,Int.natCast_one,Int.lt_irrefl]
 rw [aX,akT]
 simp only [Y8,zz,aH.den,Nat.reduceLT,Int.lt_irrefl]
 rfl
theorem abH (k m:Int):L 5500 [enc (.i 1),k,m]=some [k,m,1]:=by
 rw [aX,auN]
 simp only [afG,zz,aH.den,Nat.reduceLT,Es,List.length_nil,fin]
 rw [aX,auM]
 simp only [afF,zz,aH.den,Nat.reduceLT]
 rfl
theorem abG (a k m:Int):L 5600 [enc (.i 1),a,k,m]=some [a,k,m,1]:=by
 rw [aX,auL]
 simp only [afD,zz,aH.den,Nat.reduceLT,Es,List.length_nil,fin]
 rw [aX,auK]
 simp only [afC,zz,aH.den,Nat.reduceLT]
 rfl
theorem aeT (k m:Int):L 5150 [k,m]=some [k,m,1]:=by
 rw [aX,auX]
 simp only [afP,zz,aH.den,Nat.reduceLT,fin]
 rw [aX,auW]
 rfl
theorem aeS (k m:Int):L 5200 [k,m]=some [1,k,m,1]:=by
 rw [aX,auV]
 simp only [afO,zz,aH.den,Nat.reduceLT,fin]
 rw [aX,auU]
 rfl
theorem JO (k m:Int):L 5100 [k,m]=some [m]:=by
 rw [aX,auZ]
 simp only [afQ,zz,aH.den,Nat.reduceLT,fin]
 rw [aX,auY]
 rfl
theorem nZ (k m:Int):L 5300 [1,enc (dL [E1]),k,m]=some [enc (dL [E1]),k,m,1]:=by
 have h2:=abH k m
 have w3:IntKind.i64.wrap (0+1)=1:=qV (by omega) (by omega)
 have ha:(dL [E1]).at 0=E1:=rfl
 have g0:E1.hd 0= .i 1:=rfl
 have g1:E1.hd 1= .i 0:=rfl
 have g3:E1.hd 3= .i 1:=rfl
 rw [aX,auS]
 simp only [afM,zz,aH.den,Nat.reduceLT,fin]
 rw [aX,akS]
 simp only [Y7,zz,aH.den,Nat.reduceLT,aZ,List.length_cons,List.length_nil,Nat.zero_add,ha,g0,g1,g3,w3,h2,Int.reduceLT,Int.reduceEq,fin,Int.natCast_one,Int.lt_irrefl]
 rw [aX,akS]
 simp only [Y7,zz,aH.den,Nat.reduceLT,Int.lt_irrefl]
 rfl
theorem Rk (k m:Int):L 5350 [1,enc (dL [E1]),k,m]=some [enc (dL [E1]),1,k,m,1]:=by
 have h2:=abG 1 k m
 have w3:IntKind.i64.wrap (0+1)=1:=qV (by omega) (by omega)
 have ha:(dL [E1]).at 0=E1:=rfl
 have g0:E1.hd 0= .i 1:=rfl
 have g1:E1.hd 1= .i 0:=rfl
 have g3:E1.hd 3= .i 1:=rfl
 rw [aX,auR]
 simp only [afL,zz,aH.den,Nat.reduceLT,fin]
 rw [aX,akR]
 simp only [Y6,zz,aH.den,Nat.reduceLT,aZ,List.length_cons,List.length_nil,Nat.zero_add,ha,g0,g1,g3,w3,h2,Int.reduceLT,Int.reduceEq,fin,Int.natCast_one,Int.lt_irrefl]
 rw [aX,akR]
 simp only [Y6,zz,aH.den,Nat.reduceLT,Int.lt_irrefl]
 rfl
def XL (ys:List Int):Prop:= ∃b l,ys=b :: l∧(b=0∨b=1)
theorem ZH {l:List Int}:XL (0 :: l):=⟨0,l,rfl,.inl rfl⟩
theorem ZG {l:List Int}:XL (1 :: l):=⟨1,l,rfl,.inr rfl⟩
theorem RP (a b c d e f g:Int):Tot 12400 [a,b,c,d,e,f,g] XL:=by
 obtain⟨ys,h1,o,rfl,_⟩:=iE a b c _ _ (DC (b:=97) (by omega) (by omega)) DF
 obtain⟨ys,h2,q,rfl,_⟩:=sV e
 obtain⟨ys,h3,r,rfl,_⟩:=sJ e
 obtain⟨n,_,h4⟩:=mZ _ DF
 refine Tot.of ?_
 rw [alW]
 simp only [Xf,zz,aH.den,Nat.reduceLT,h1,h2,h3,h4,JO]
 repeat' first | exact .out ZH | exact .out ZG | refine .ite (fun _=>?_) (fun _=>?_)
theorem RN (a b c d e f g:Int):Tot 12500 [a,b,c,d,e,f,g] XL:=by
 obtain⟨ys,h1,o,rfl,_⟩:=iE a b c _ _ (DC (b:=97) (by omega) (by omega)) DF
 obtain⟨ys,h2,q,rfl,_⟩:=sV e
 obtain⟨ys,h3,r,rfl,_⟩:=sJ e
 obtain⟨n,_,h4⟩:=mZ _ DF
 refine Tot.of ?_
 rw [alU]
 simp only [Xd,zz,aH.den,Nat.reduceLT,h1,h2,h3,h4,JO]
 repeat' first | exact .out ZH | exact .out ZG | refine .ite (fun _=>?_) (fun _=>?_)
theorem ahF (a b c d e f g h i:Int):Tot 12450 [a,b,c,d,e,f,g,h,i] XL:=by
 obtain⟨ys,h0,o,rfl,_⟩:=iE 1 a b _ _ (DC (b:=98) (by omega) (by omega)) DF
 obtain⟨ys,h1,o',rfl,_⟩:=iE c d e _ _ (DC (b:=97) (by omega) (by omega)) (DC (b:=98) (by omega) (by omega))
 obtain⟨ys,h2,q,rfl,_⟩:=sV g
 obtain⟨ys,h3,r,rfl,_⟩:=sJ g
 obtain⟨n,_,h4⟩:=mZ _ DF
 refine Tot.of ?_
 rw [alV]
 simp only [Xe,zz,aH.den,Nat.reduceLT,h0,h1,h2,h3,h4,JO]
 repeat' first | exact .out ZH | exact .out ZG | refine .ite (fun _=>?_) (fun _=>?_)
theorem ahE (a b c d e f g h i:Int):Tot 12550 [a,b,c,d,e,f,g,h,i] XL:=by
 obtain⟨ys,h0,o,rfl,_⟩:=iE 1 a b _ _ (DC (b:=98) (by omega) (by omega)) DF
 obtain⟨ys,h1,o',rfl,_⟩:=iE c d e _ _ (DC (b:=97) (by omega) (by omega)) (DC (b:=98) (by omega) (by omega))
 obtain⟨ys,h2,q,rfl,_⟩:=sV g
 obtain⟨ys,h3,r,rfl,_⟩:=sJ g
 obtain⟨n,_,h4⟩:=mZ _ DF
 refine Tot.of ?_
 rw [alT]
 simp only [Xc,zz,aH.den,Nat.reduceLT,h0,h1,h2,h3,h4,JO]
 repeat' first | exact .out ZH | exact .out ZG | refine .ite (fun _=>?_) (fun _=>?_)
def aiI (m k:Nat) (ys:List Int):Prop:=(∃l,ys=0 :: l)∨(m=1∧low ys 0=1∧low ys k=1∧low ys (k+1)=enc (dL [E1]))
theorem Bh {m k:Nat} {l:List Int}:aiI m k (0 :: l):=.inl ⟨l,rfl⟩
def wS (m:Nat):D:=dL (List.replicate m E1)
theorem xW (m:Nat):(wS m).l.length=m:=by unfold wS; rw [aZ,List.length_replicate]
theorem Bc (m:Nat) (hm:1≤m) (a b c d e f g:Int):Tot 12600 [a,b,c,d,e,f,enc (wS m),g] (aiI m 9):=by
 obtain⟨ys,h1,o,rfl,_⟩:=iE a b c _ _ (DC (b:=97) (by omega) (by omega)) DF
 obtain⟨ys,h2,q,rfl,hq⟩:=sV e
 obtain⟨ys,h3,r,rfl,_⟩:=sJ e
 obtain⟨n,_,h4⟩:=mZ _ DF
 refine Tot.of ?_
 rw [alS]
 by_cases h:m=1
 ·subst h
  have h5:=Dc
  simp only [Ry,zz,aH.den,Nat.reduceLT,h1,h2,h3,h4,wS,List.replicate,h5]
  repeat' first | exact .out Bh | exact .out (.inr ⟨rfl,rfl,rfl,rfl⟩) | refine .ite (fun _=>?_) (fun _=>?_)
 ·have c1: ¬((m:Int)=q):=by rcases hq with rfl | rfl <;> omega
  simp only [Ry,zz,aH.den,Nat.reduceLT,h1,h2,h3,h4,xW,c1]
  repeat' first | exact .out Bh | refine .ite (fun _=>?_) (fun _=>?_)
theorem Ba (m:Nat) (hm:1≤m) (a b c d e f g:Int):Tot 12700 [a,b,c,d,e,f,enc (wS m),g] (aiI m 9):=by
 obtain⟨ys,h1,o,rfl,_⟩:=iE a b c _ _ (DC (b:=97) (by omega) (by omega)) DF
 obtain⟨ys,h2,q,rfl,hq⟩:=sV e
 obtain⟨ys,h3,r,rfl,_⟩:=sJ e
 obtain⟨n,_,h4⟩:=mZ _ DF
 refine Tot.of ?_
 rw [alQ]
 by_cases h:m=1
 ·subst h
  have h5:=Dc
  simp only [Rw,zz,aH.den,Nat.reduceLT,h1,h2,h3,h4,wS,List.replicate,h5]
  repeat' first | exact .out Bh | exact .out (.inr ⟨rfl,rfl,rfl,rfl⟩) | refine .ite (fun _=>?_) (fun _=>?_)
 ·have c1: ¬((m:Int)=q):=by rcases hq with rfl | rfl <;> omega
  simp only [Rw,zz,aH.den,Nat.reduceLT,h1,h2,h3,h4,xW,c1]
  repeat' first | exact .out Bh | refine .ite (fun _=>?_) (fun _=>?_)
theorem ahD (m:Nat) (hm:1≤m) (a b c d e f g h' i:Int):Tot 12650 [a,b,c,d,e,f,g,h',enc (wS m),i] (aiI m 11):=by
 obtain⟨ys,h0,o,rfl,_⟩:=iE 1 a b _ _ (DC (b:=98) (by omega) (by omega)) DF
 obtain⟨ys,h1,o',rfl,_⟩:=iE c d e _ _ (DC (b:=97) (by omega) (by omega)) (DC (b:=98) (by omega) (by omega))
 obtain⟨ys,h2,q,rfl,hq⟩:=sV g
 obtain⟨ys,h3,r,rfl,_⟩:=sJ g
 obtain⟨n,_,h4⟩:=mZ _ DF
 refine Tot.of ?_
 rw [alR]
 by_cases h:m=1
 ·subst h
  have h5:=Dc
  simp only [Rx,zz,aH.den,Nat.reduceLT,h0,h1,h2,h3,h4,wS,List.replicate,h5]
  repeat' first | exact .out Bh | exact .out (.inr ⟨rfl,rfl,rfl,rfl⟩) | refine .ite (fun _=>?_) (fun _=>?_)
 ·have c1: ¬((m:Int)=q):=by rcases hq with rfl | rfl <;> omega
  simp only [Rx,zz,aH.den,Nat.reduceLT,h0,h1,h2,h3,h4,xW,c1]
  repeat' first | exact .out Bh | refine .ite (fun _=>?_) (fun _=>?_)
theorem ahC (m:Nat) (hm:1≤m) (a b c d e f g h' i:Int):Tot 12750 [a,b,c,d,e,f,g,h',enc (wS m),i] (aiI m 11):=by
 obtain⟨ys,h0,o,rfl,_⟩:=iE 1 a b _ _ (DC (b:=98) (by omega) (by omega)) DF
 obtain⟨ys,h1,o',rfl,_⟩:=iE c d e _ _ (DC (b:=97) (by omega) (by omega)) (DC (b:=98) (by omega) (by omega))
 obtain⟨ys,h2,q,rfl,hq⟩:=sV g
 obtain⟨ys,h3,r,rfl,_⟩:=sJ g
 obtain⟨n,_,h4⟩:=mZ _ DF
 refine Tot.of ?_
 rw [alP]
 by_cases h:m=1
 ·subst h
  have h5:=Dc
  simp only [Ru,zz,aH.den,Nat.reduceLT,h0,h1,h2,h3,h4,wS,List.replicate,h5]
  repeat' first | exact .out Bh | exact .out (.inr ⟨rfl,rfl,rfl,rfl⟩) | refine .ite (fun _=>?_) (fun _=>?_)
 ·have c1: ¬((m:Int)=q):=by rcases hq with rfl | rfl <;> omega
  simp only [Ru,zz,aH.den,Nat.reduceLT,h0,h1,h2,h3,h4,xW,c1]
  repeat' first | exact .out Bh | refine .ite (fun _=>?_) (fun _=>?_)
end Go.As.Try
end
section
namespace Go.As.Try
open Go hiding Stat Spec shape
open Go.As
set_option maxRecDepth 100000
def isD (a b:Int) (ys:List Int):Prop:= ∃c:Int,ys= [c]∧(c=0∨c=1)∧(c=1→a= -1∨b≠0)
theorem fV {a b:Int}:isD a b [0]:=⟨0,rfl,.inl rfl,fun h=>absurd h (by omega)⟩
theorem nV {a b:Int} (h:a= -1∨b≠0):isD a b [1]:=⟨1,rfl,.inr rfl,fun _=>h⟩
theorem Tot.mono {j:Nat} {xs:List Int} {p q:List Int→Prop} (h:Tot j xs p) (f: ∀ys,p ys→q ys):Tot j xs q:=by
 obtain⟨ys,a,b⟩:=h
 exact⟨ys,a,f ys b⟩
theorem arS (x0 x2 x3 x4 x5 x6 x7 x8:Int):Tot 951 [x0,0,x2,x3,x4,x5,x6,x7,x8] (isD x5 0):=by
 obtain⟨ys,a1,b1,l1,rfl,g1⟩:=RP x0 1 0 0 x3 0 0
 obtain⟨ys,a2,b2,l2,rfl,g2⟩:=RP x0 0 0 0 x3 0 0
 obtain⟨ys,a3,b3,l3,rfl,g3⟩:=ahF 0 0 x0 0 0 0 x3 0 0
 obtain⟨ys,a4,b4,l4,rfl,g4⟩:=RN x0 1 0 0 x3 0 0
 obtain⟨ys,a5,b5,l5,rfl,g5⟩:=RN x0 0 0 0 x3 0 0
 obtain⟨ys,a6,b6,l6,rfl,g6⟩:=ahE 0 0 x0 0 0 0 x3 0 0
 obtain⟨ys,a7,k,rfl⟩:=RZ x3
 refine Tot.of ?_
 rw [aAI]
 simp only [aoJ,zz,aH.den,Nat.reduceLT,Int.lt_irrefl,a1,a2,a3,a4,a5,a6,a7,aeT,aeS]
 repeat' first | exact .out fV | exact .out (nV (by omega)) | refine .ite (fun _=>?_) (fun _=>?_) | (exfalso; omega)
theorem arR (x0 x2 x3 x4 x5 x6 x7 x8:Int):Tot 952 [x0,0,x2,x3,x4,x5,x6,x7,x8] (isD x5 1):=by
 obtain⟨ys,a1,b1,l1,rfl,g1⟩:=RP x0 1 0 0 x3 0 0
 obtain⟨ys,a2,b2,l2,rfl,g2⟩:=RP x0 0 0 0 x3 0 0
 obtain⟨ys,a3,b3,l3,rfl,g3⟩:=ahF 0 0 x0 0 0 0 x3 0 0
 obtain⟨ys,a4,b4,l4,rfl,g4⟩:=RN x0 1 0 0 x3 0 0
 obtain⟨ys,a5,b5,l5,rfl,g5⟩:=RN x0 0 0 0 x3 0 0
 obtain⟨ys,a6,b6,l6,rfl,g6⟩:=ahE 0 0 x0 0 0 0 x3 0 0
 obtain⟨ys,a7,k,rfl⟩:=RZ x3
 refine Tot.of ?_
 rw [aAH]
 simp only [aoI,zz,aH.den,Nat.reduceLT,Int.lt_irrefl,a1,a2,a3,a4,a5,a6,a7,aeT,aeS]
 repeat' first | exact .out fV | exact .out (nV (by omega)) | refine .ite (fun _=>?_) (fun _=>?_) | (exfalso; omega)
theorem VW (m:Nat) (hm:1≤m) (x0 x3 x4 x5 x6 x7 x8 x9:Int):Tot 953 [x0,(m:Int),(m:Int),x3,x4,x5,x6,x7,x8,x9,enc (wS m)] (isD x6 0):=by
 obtain⟨ys,a7,k,rfl⟩:=RZ x4
 by_cases hn:x6= -1
 ·by_cases h3:x0=3
  ·subst h3
   obtain⟨ys,hR,hC⟩:=Bc m hm 3 1 0 0 x4 0 0
   refine Tot.of ?_
   rw [Jo]
   rcases hC with ⟨l,rfl⟩ | ⟨rfl,q1,q2,q3⟩
   ·simp only [uY,zz,aH.den,Nat.reduceLT,Int.lt_irrefl,hn,hR,Int.reduceEq]
    exact .out fV
   ·simp only [uY,zz,aH.den,Nat.reduceLT,Int.lt_irrefl,hn,hR,q1,q2,q3,a7,nZ,Int.reduceEq,Int.natCast_one]
    repeat' first | exact .out fV | exact .out (nV (by omega)) | refine .ite (fun _=>?_) (fun _=>?_) | (exfalso; omega)
  by_cases h8:x0=8
  ·subst h8
   obtain⟨ys,hR,hC⟩:=Bc m hm 8 1 0 0 x4 0 0
   refine Tot.of ?_
   rw [Jo]
   rcases hC with ⟨l,rfl⟩ | ⟨rfl,q1,q2,q3⟩
   ·simp only [uY,zz,aH.den,Nat.reduceLT,Int.lt_irrefl,hn,hR,Int.reduceEq]
    exact .out fV
   ·simp only [uY,zz,aH.den,Nat.reduceLT,Int.lt_irrefl,hn,hR,q1,q2,q3,a7,nZ,Int.reduceEq,Int.natCast_one]
    repeat' first | exact .out fV | exact .out (nV (by omega)) | refine .ite (fun _=>?_) (fun _=>?_) | (exfalso; omega)
  by_cases h5:x0=5
  ·subst h5
   obtain⟨ys,hR,hC⟩:=Bc m hm 5 1 0 0 x4 0 0
   refine Tot.of ?_
   rw [Jo]
   rcases hC with ⟨l,rfl⟩ | ⟨rfl,q1,q2,q3⟩
   ·simp only [uY,zz,aH.den,Nat.reduceLT,Int.lt_irrefl,hn,hR,Int.reduceEq]
    exact .out fV
   ·simp only [uY,zz,aH.den,Nat.reduceLT,Int.lt_irrefl,hn,hR,q1,q2,q3,a7,nZ,Int.reduceEq,Int.natCast_one]
    repeat' first | exact .out fV | exact .out (nV (by omega)) | refine .ite (fun _=>?_) (fun _=>?_) | (exfalso; omega)
  by_cases h4:x0=4
  ·subst h4
   obtain⟨ys,hR,hC⟩:=ahD m hm 0 0 4 0 0 0 x4 0 0
   refine Tot.of ?_
   rw [Jo]
   rcases hC with ⟨l,rfl⟩ | ⟨rfl,q1,q2,q3⟩
   ·simp only [uY,zz,aH.den,Nat.reduceLT,Int.lt_irrefl,hn,hR,Int.reduceEq]
    exact .out fV
   ·simp only [uY,zz,aH.den,Nat.reduceLT,Int.lt_irrefl,hn,hR,q1,q2,q3,a7,Rk,Int.reduceEq,Int.natCast_one]
    repeat' first | exact .out fV | exact .out (nV (by omega)) | refine .ite (fun _=>?_) (fun _=>?_) | (exfalso; omega)
  obtain⟨ys,hR,hC⟩:=Bc m hm x0 0 0 0 x4 0 0
  refine Tot.of ?_
  rw [Jo]
  rcases hC with ⟨l,rfl⟩ | ⟨rfl,q1,q2,q3⟩
  ·simp only [uY,zz,aH.den,Nat.reduceLT,Int.lt_irrefl,hn,h3,h8,h5,h4,hR,Int.reduceEq]
   exact .out fV
  ·simp only [uY,zz,aH.den,Nat.reduceLT,Int.lt_irrefl,hn,h3,h8,h5,h4,hR,q1,q2,q3,a7,nZ,Int.reduceEq,Int.natCast_one]
   repeat' first | exact .out fV | exact .out (nV (by omega)) | refine .ite (fun _=>?_) (fun _=>?_) | (exfalso; omega)
 ·by_cases h3:x0=3
  ·subst h3
   obtain⟨ys,hR,hC⟩:=Ba m hm 3 1 0 0 x4 0 0
   refine Tot.of ?_
   rw [Jo]
   rcases hC with ⟨l,rfl⟩ | ⟨rfl,q1,q2,q3⟩
   ·simp only [uY,zz,aH.den,Nat.reduceLT,Int.lt_irrefl,hn,hR,Int.reduceEq]
    exact .out fV
   ·simp only [uY,zz,aH.den,Nat.reduceLT,Int.lt_irrefl,hn,hR,q1,q2,q3,a7,nZ,Int.reduceEq,Int.natCast_one]
    repeat' first | exact .out fV | exact .out (nV (by omega)) | refine .ite (fun _=>?_) (fun _=>?_) | (exfalso; omega)
  by_cases h8:x0=8
  ·subst h8
   obtain⟨ys,hR,hC⟩:=Ba m hm 8 1 0 0 x4 0 0
   refine Tot.of ?_
   rw [Jo]
   rcases hC with ⟨l,rfl⟩ | ⟨rfl,q1,q2,q3⟩
   ·simp only [uY,zz,aH.den,Nat.reduceLT,Int.lt_irrefl,hn,hR,Int.reduceEq]
    exact .out fV
   ·simp only [uY,zz,aH.den,Nat.reduceLT,Int.lt_irrefl,hn,hR,q1,q2,q3,a7,nZ,Int.reduceEq,Int.natCast_one]
    repeat' first | exact .out fV | exact .out (nV (by omega)) | refine .ite (fun _=>?_) (fun _=>?_) | (exfalso; omega)
  by_cases h5:x0=5
  ·subst h5
   obtain⟨ys,hR,hC⟩:=Ba m hm 5 1 0 0 x4 0 0
   refine Tot.of ?_
   rw [Jo]
   rcases hC with ⟨l,rfl⟩ | ⟨rfl,q1,q2,q3⟩
   ·simp only [uY,zz,aH.den,Nat.reduceLT,Int.lt_irrefl,hn,hR,Int.reduceEq]
    exact .out fV
   ·simp only [uY,zz,aH.den,Nat.reduceLT,Int.lt_irrefl,hn,hR,q1,q2,q3,a7,nZ,Int.reduceEq,Int.natCast_one]
    repeat' first | exact .out fV | exact .out (nV (by omega)) | refine .ite (fun _=>?_) (fun _=>?_) | (exfalso; omega)
  by_cases h4:x0=4
  ·subst h4
   obtain⟨ys,hR,hC⟩:=ahC m hm 0 0 4 0 0 0 x4 0 0
   refine Tot.of ?_
   rw [Jo]
   rcases hC with ⟨l,rfl⟩ | ⟨rfl,q1,q2,q3⟩
   ·simp only [uY,zz,aH.den,Nat.reduceLT,Int.lt_irrefl,hn,hR,Int.reduceEq]
    exact .out fV
   ·simp only [uY,zz,aH.den,Nat.reduceLT,Int.lt_irrefl,hn,hR,q1,q2,q3,a7,Rk,Int.reduceEq,Int.natCast_one]
    repeat' first | exact .out fV | exact .out (nV (by omega)) | refine .ite (fun _=>?_) (fun _=>?_) | (exfalso; omega)
  obtain⟨ys,hR,hC⟩:=Ba m hm x0 0 0 0 x4 0 0
  refine Tot.of ?_
  rw [Jo]
  rcases hC with ⟨l,rfl⟩ | ⟨rfl,q1,q2,q3⟩
  ·simp only [uY,zz,aH.den,Nat.reduceLT,Int.lt_irrefl,hn,h3,h8,h5,h4,hR,Int.reduceEq]
   exact .out fV
  ·simp only [uY,zz,aH.den,Nat.reduceLT,Int.lt_irrefl,hn,h3,h8,h5,h4,hR,q1,q2,q3,a7,nZ,Int.reduceEq,Int.natCast_one]
   repeat' first | exact .out fV | exact .out (nV (by omega)) | refine .ite (fun _=>?_) (fun _=>?_) | (exfalso; omega)
theorem aaB (M:Nat) (hM:M≤2513169434915) (x0 x3 x4 x5 x6 x7 x8 x9:Int): ∀(j m:Nat),m+j=M→1≤m→Tot 953 [x0,(M:Int),(m:Int),x3,x4,x5,x6,x7,x8,x9,enc (wS m)] (isD x6 0)
 | 0,m,h1,h2=>by
   obtain rfl:M=m:=by omega
   exact VW M h2 x0 x3 x4 x5 x6 x7 x8 x9
 | j+1,m,h1,h2=>by
   have ih:=aaB M hM x0 x3 x4 x5 x6 x7 x8 x9 j (m+1) (by omega) (by omega)
   have c1:(m:Int) < (M:Int):=by omega
   have c2:((m:Nat):Int) < 2513169434915:=by omega
   have w:=bD (n:=m) (by omega)
   have hr:wS (m+1)=dL ((wS m).l++ [E1]):=by
    unfold wS
    rw [aZ,List.replicate_succ']
   rw [hr] at ih
   refine Tot.of ?_
   rw [Jo]
   simp only [uY,zz,aH.den,Nat.reduceLT,c1,c2,xW,w]
   exact .jump ih
theorem VU (m:Nat) (hm:1≤m) (x0 x3 x4 x5 x6 x7 x8 x9:Int):Tot 954 [x0,(m:Int),(m:Int),x3,x4,x5,x6,x7,x8,x9,enc (wS m)] (isD x6 1):=by
 obtain⟨ys,a7,k,rfl⟩:=RZ x4
 by_cases hn:x6= -1
 ·by_cases h3:x0=3
  ·subst h3
   obtain⟨ys,hR,hC⟩:=Bc m hm 3 1 0 0 x4 0 0
   refine Tot.of ?_
   rw [Jm]
   rcases hC with ⟨l,rfl⟩ | ⟨rfl,q1,q2,q3⟩
   ·simp only [uX,zz,aH.den,Nat.reduceLT,Int.lt_irrefl,hn,hR,Int.reduceEq]
    exact .out fV
   ·simp only [uX,zz,aH.den,Nat.reduceLT,Int.lt_irrefl,hn,hR,q1,q2,q3,a7,nZ,Int.reduceEq,Int.natCast_one]
    repeat' first | exact .out fV | exact .out (nV (by omega)) | refine .ite (fun _=>?_) (fun _=>?_) | (exfalso; omega)
  by_cases h8:x0=8
  ·subst h8
   obtain⟨ys,hR,hC⟩:=Bc m hm 8 1 0 0 x4 0 0
   refine Tot.of ?_
   rw [Jm]
   rcases hC with ⟨l,rfl⟩ | ⟨rfl,q1,q2,q3⟩
   ·simp only [uX,zz,aH.den,Nat.reduceLT,Int.lt_irrefl,hn,hR,Int.reduceEq]
    exact .out fV
   ·simp only [uX,zz,aH.den,Nat.reduceLT,Int.lt_irrefl,hn,hR,q1,q2,q3,a7,nZ,Int.reduceEq,Int.natCast_one]
    repeat' first | exact .out fV | exact .out (nV (by omega)) | refine .ite (fun _=>?_) (fun _=>?_) | (exfalso; omega)
  by_cases h5:x0=5
  ·subst h5
   obtain⟨ys,hR,hC⟩:=Bc m hm 5 1 0 0 x4 0 0
   refine Tot.of ?_
   rw [Jm]
   rcases hC with ⟨l,rfl⟩ | ⟨rfl,q1,q2,q3⟩
   ·simp only [uX,zz,aH.den,Nat.reduceLT,Int.lt_irrefl,hn,hR,Int.reduceEq]
    exact .out fV
   ·simp only [uX,zz,aH.den,Nat.reduceLT,Int.lt_irrefl,hn,hR,q1,q2,q3,a7,nZ,Int.reduceEq,Int.natCast_one]
    repeat' first | exact .out fV | exact .out (nV (by omega)) | refine .ite (fun _=>?_) (fun _=>?_) | (exfalso; omega)
  by_cases h4:x0=4
  ·subst h4
   obtain⟨ys,hR,hC⟩:=ahD m hm 0 0 4 0 0 0 x4 0 0
   refine Tot.of ?_
   rw [Jm]
   rcases hC with ⟨l,rfl⟩ | ⟨rfl,q1,q2,q3⟩
   ·simp only [uX,zz,aH.den,Nat.reduceLT,Int.lt_irrefl,hn,hR,Int.reduceEq]
    exact .out fV
   ·simp only [uX,zz,aH.den,Nat.reduceLT,Int.lt_irrefl,hn,hR,q1,q2,q3,a7,Rk,Int.reduceEq,Int.natCast_one]
    repeat' first | exact .out fV | exact .out (nV (by omega)) | refine .ite (fun _=>?_) (fun _=>?_) | (exfalso; omega)
  obtain⟨ys,hR,hC⟩:=Bc m hm x0 0 0 0 x4 0 0
  refine Tot.of ?_
  rw [Jm]
  rcases hC with ⟨l,rfl⟩ | ⟨rfl,q1,q2,q3⟩
  ·simp only [uX,zz,aH.den,Nat.reduceLT,Int.lt_irrefl,hn,h3,h8,h5,h4,hR,Int.reduceEq]
   exact .out fV
  ·simp only [uX,zz,aH.den,Nat.reduceLT,Int.lt_irrefl,hn,h3,h8,h5,h4,hR,q1,q2,q3,a7,nZ,Int.reduceEq,Int.natCast_one]
   repeat' first | exact .out fV | exact .out (nV (by omega)) | refine .ite (fun _=>?_) (fun _=>?_) | (exfalso; omega)
 ·by_cases h3:x0=3
  ·subst h3
   obtain⟨ys,hR,hC⟩:=Ba m hm 3 1 0 0 x4 0 0
   refine Tot.of ?_
   rw [Jm]
   rcases hC with ⟨l,rfl⟩ | ⟨rfl,q1,q2,q3⟩
   ·simp only [uX,zz,aH.den,Nat.reduceLT,Int.lt_irrefl,hn,hR,Int.reduceEq]
    exact .out fV
   ·simp only [uX,zz,aH.den,Nat.reduceLT,Int.lt_irrefl,hn,hR,q1,q2,q3,a7,nZ,Int.reduceEq,Int.natCast_one]
    repeat' first | exact .out fV | exact .out (nV (by omega)) | refine .ite (fun _=>?_) (fun _=>?_) | (exfalso; omega)
  by_cases h8:x0=8
  ·subst h8
   obtain⟨ys,hR,hC⟩:=Ba m hm 8 1 0 0 x4 0 0
   refine Tot.of ?_
   rw [Jm]
   rcases hC with ⟨l,rfl⟩ | ⟨rfl,q1,q2,q3⟩
   ·simp only [uX,zz,aH.den,Nat.reduceLT,Int.lt_irrefl,hn,hR,Int.reduceEq]
    exact .out fV
   ·simp only [uX,zz,aH.den,Nat.reduceLT,Int.lt_irrefl,hn,hR,q1,q2,q3,a7,nZ,Int.reduceEq,Int.natCast_one]
    repeat' first | exact .out fV | exact .out (nV (by omega)) | refine .ite (fun _=>?_) (fun _=>?_) | (exfalso; omega)
  by_cases h5:x0=5
  ·subst h5
   obtain⟨ys,hR,hC⟩:=Ba m hm 5 1 0 0 x4 0 0
   refine Tot.of ?_
   rw [Jm]
   rcases hC with ⟨l,rfl⟩ | ⟨rfl,q1,q2,q3⟩
   ·simp only [uX,zz,aH.den,Nat.reduceLT,Int.lt_irrefl,hn,hR,Int.reduceEq]
    exact .out fV
   ·simp only [uX,zz,aH.den,Nat.reduceLT,Int.lt_irrefl,hn,hR,q1,q2,q3,a7,nZ,Int.reduceEq,Int.natCast_one]
    repeat' first | exact .out fV | exact .out (nV (by omega)) | refine .ite (fun _=>?_) (fun _=>?_) | (exfalso; omega)
  by_cases h4:x0=4
  ·subst h4
   obtain⟨ys,hR,hC⟩:=ahC m hm 0 0 4 0 0 0 x4 0 0
   refine Tot.of ?_
   rw [Jm]
   rcases hC with ⟨l,rfl⟩ | ⟨rfl,q1,q2,q3⟩
   ·simp only [uX,zz,aH.den,Nat.reduceLT,Int.lt_irrefl,hn,hR,Int.reduceEq]
    exact .out fV
   ·simp only [uX,zz,aH.den,Nat.reduceLT,Int.lt_irrefl,hn,hR,q1,q2,q3,a7,Rk,Int.reduceEq,Int.natCast_one]
    repeat' first | exact .out fV | exact .out (nV (by omega)) | refine .ite (fun _=>?_) (fun _=>?_) | (exfalso; omega)
  obtain⟨ys,hR,hC⟩:=Ba m hm x0 0 0 0 x4 0 0
  refine Tot.of ?_
  rw [Jm]
  rcases hC with ⟨l,rfl⟩ | ⟨rfl,q1,q2,q3⟩
  ·simp only [uX,zz,aH.den,Nat.reduceLT,Int.lt_irrefl,hn,h3,h8,h5,h4,hR,Int.reduceEq]
   exact .out fV
  ·simp only [uX,zz,aH.den,Nat.reduceLT,Int.lt_irrefl,hn,h3,h8,h5,h4,hR,q1,q2,q3,a7,nZ,Int.reduceEq,Int.natCast_one]
   repeat' first | exact .out fV | exact .out (nV (by omega)) | refine .ite (fun _=>?_) (fun _=>?_) | (exfalso; omega)
theorem aaA (M:Nat) (hM:M≤2513169434915) (x0 x3 x4 x5 x6 x7 x8 x9:Int): ∀(j m:Nat),m+j=M→1≤m→Tot 954 [x0,(M:Int),(m:Int),x3,x4,x5,x6,x7,x8,x9,enc (wS m)] (isD x6 1)
 | 0,m,h1,h2=>by
   obtain rfl:M=m:=by omega
   exact VU M h2 x0 x3 x4 x5 x6 x7 x8 x9
 | j+1,m,h1,h2=>by
   have ih:=aaA M hM x0 x3 x4 x5 x6 x7 x8 x9 j (m+1) (by omega) (by omega)
   have c1:(m:Int) < (M:Int):=by omega
   have c2:((m:Nat):Int) < 2513169434915:=by omega
   have w:=bD (n:=m) (by omega)
   have hr:wS (m+1)=dL ((wS m).l++ [E1]):=by
    unfold wS
    rw [aZ,List.replicate_succ']
   rw [hr] at ih
   refine Tot.of ?_
   rw [Jm]
   simp only [uX,zz,aH.den,Nat.reduceLT,c1,c2,xW,w]
   exact .jump ih
theorem VT (x0 x1 x2 x3 x4 x5 x6 x8:Int) (d:D) (hd:d.l.length≤2513169434915):Tot 950 [x0,x1,x2,x3,x4,x5,x6,enc d,x8] (isD x4 x8):=by
 have key: ∀(t t2:Nat) (b:Int),(t=951∧t2=953∧b=0)∨(t=952∧t2=954∧b=1)→Tot t [x0,(d.l.length:Int),x1,x2,x3,x4,x5,x6,enc d] (isD x4 b):=by
  intro t t2 b ht
  by_cases h0:d.l.length=0
  ·rw [h0]
   rcases ht with ⟨rfl,rfl,rfl⟩ | ⟨rfl,rfl,rfl⟩
   ·exact arS x0 x1 x2 x3 x4 x5 x6 (enc d)
   ·exact arR x0 x1 x2 x3 x4 x5 x6 (enc d)
  ·have c1:(0:Int) < (d.l.length:Int):=by omega
   have hr:enc (wS 1)=enc (dL ([]++ [E1])):=rfl
   rcases ht with ⟨rfl,rfl,rfl⟩ | ⟨rfl,rfl,rfl⟩
   ·have:=aaB d.l.length hd x0 x1 x2 x3 x4 x5 x6 (enc d) (d.l.length - 1) 1 (by omega) (by omega)
    rw [hr] at this
    refine Tot.of ?_
    rw [aAI]
    simp only [aoJ,zz,aH.den,Nat.reduceLT,c1,Es]
    exact .jump this
   ·have:=aaA d.l.length hd x0 x1 x2 x3 x4 x5 x6 (enc d) (d.l.length - 1) 1 (by omega) (by omega)
    rw [hr] at this
    refine Tot.of ?_
    rw [aAH]
    simp only [aoI,zz,aH.den,Nat.reduceLT,c1,Es]
    exact .jump this
 refine Tot.of ?_
 rw [aCN]
 simp only [awX,zz,aH.den,Nat.reduceLT]
 exact .ite (fun h=> .jump ((key 951 953 0 (.inl ⟨rfl,rfl,rfl⟩)).mono fun ys ⟨c,a,b,e⟩=> ⟨c,a,b,fun q=>by have:=e q; omega⟩)) fun h=> .jump ((key 952 954 1 (.inr ⟨rfl,rfl,rfl⟩)).mono fun ys ⟨c,a,b,e⟩=> ⟨c,a,b,fun _=> .inr h⟩)
end Go.As.Try
end
section
namespace Go.As.Try
open Go hiding Stat Spec shape
open Go.As
set_option maxRecDepth 100000
def OkI (d0:D) (nl nc:Nat) (dx op ob into to:Int) (na:Nat):Prop:=
 (dx=1∧0≤ob∧ob < (d0.l.length:Int)∧(into= -1∨0≤into∧into < (nl:Int))∧(op=16→0≤to∧to≤(nc:Int)))∨
 (dx=2∧0≤ob∧ob < (d0.l.length:Int))∨(dx=3∧0≤into∧into < (nl:Int)∧(na:Int)=1)∨(dx=4∧0≤to∧to≤(nc:Int)∧(na:Int)=1)∨
 (dx=5∧0≤to∧to≤(nc:Int))∨(dx=6∧0≤into∧into < (nl:Int))∨(dx=7∧0≤into∧into < (nl:Int)∧0≤to∧to≤(nc:Int))
def isI (p:Prop) (ys:List Int):Prop:= ∃c:Int,ys= [c]∧(c=0∨c=1)∧(c=1→p)
theorem aBY {p:Prop}:isI p [0]:=⟨0,rfl,.inl rfl,fun h=>absurd h (by omega)⟩
theorem aBX {p:Prop} (h:p):isI p [1]:=⟨1,rfl,.inr rfl,fun _=>h⟩
set_option maxHeartbeats 2000000 in
theorem apX (d0 d1 d3 d4 d:D) (x2 x5 x6 x7 x8 x9 x10:Int) (hd:d.l.length≤2513169434915):Tot 750 [enc d0,enc d1,x2,enc d3,enc d4,x5,x6,x7,x8,x9,x10,enc d] (isI (OkI d0 d3.l.length d4.l.length x5 x6 x7 x8 x9 d.l.length)):=by
 unfold OkI
 obtain⟨ys,h0,b0,rfl,_,f0⟩:=VT ((d0.at x7).hd 0).n x5 x6 x7 x8 x9 x10 0 d hd
 obtain⟨ys,h1,b1,rfl,_,f1⟩:=VT ((d0.at x7).hd 0).n x5 x6 x7 x8 x9 x10 1 d hd
 refine Tot.of ?_
 rw [aC3]
 simp only [axB,zz,aH.den,Nat.reduceLT,h0,h1]
 repeat' first | exact .out aBY | exact .out (aBX (by omega)) | refine .ite (fun _=>?_) (fun _=>?_)
def OkO (d0:D) (k n:Int):Prop:=1≤k∧k≤9∧(k=1∨k=2∨k=6∨k=7→n=0)∧(k=3∨k=8→1≤n∧n≤1048576)∧(k=5→1≤n∧n≤16)∧(k=4→0≤n∧n < (d0.l.length:Int)∧((d0.at n).hd 0).n=1)
def ahI (d0:D) (x:D):Prop:=OkO d0 (x.hd 0).n (x.hd 2).n
def ayD (d0:D) (k n:Int) (ys:List Int):Prop:= ∃b:Int,ys= [b]∧(b=0∨b=1)∧(b≠0→OkO d0 k n)
theorem acB (d0:D) (x1 x2 x3 x4 x5 x6:Int):Tot 700 [enc d0,x1,x2,x3,x4,x5,x6] (ayD d0 x2 x4):=by
 refine Tot.of ?_
 rw [aC4]
 simp only [axC,zz,aH.den,Nat.reduceLT]
 repeat' first
  | exact .out ⟨0,rfl,.inl rfl,fun h=>absurd rfl h⟩
  | exact .out ⟨1,rfl,.inr rfl,fun _=> ⟨by omega,by omega,by omega,by omega,by omega,fun h4=>by first | omega | exact⟨by omega,by omega,by assumption⟩⟩⟩
  | refine .ite (fun _=>?_) (fun _=>?_)
def Hq (d0 d1:D):Prop:=d0.l.length≤64∧d1.l.length≤16∧∀x∈d0.l,ahI d0 x
def ZK (d0 x:D):Prop:= ∀y∈(x.hd 2).l,OkI d0 (x.hd 1).l.length (x.hd 2).l.length (y.hd 0).n (y.hd 1).n (y.hd 2).n (y.hd 3).n (y.hd 4).n (y.hd 6).l.length
def LP (d0 d1:D) (ys:List Int):Prop:= ∃b:Int,ys= [b]∧(b=0∨b=120)∧(b=0→Hq d0 d1∧∀x∈d1.l,ZK d0 x)
theorem EM {d:D} (h:Wd (.sl 4) d) {i:Nat} (hi:i < d.l.length): ∃nm' lc cd,d.l[i]=dL [nm',lc,cd]∧Wd .str nm'∧Wd (.sl 2) lc∧Wd (.sl 5) cd:=by
 obtain⟨r,h1,hl,hc⟩:=h.elN (cs:=[.str,.sl 2,.sl 5]) rfl _ (List.getElem_mem hi)
 match r,hl with
 | [a,b,c],_=>exact⟨a,b,c,h1,hc 0 _ _ rfl rfl,hc 1 _ _ rfl rfl,hc 2 _ _ rfl rfl⟩
theorem XO {d:D} (h:Wd (.sl 5) d) {i:Nat} (hi:i < d.l.length): ∃a b c e f g N9,d.l[i]=dL [.i a,.i b,.i c,.i e,.i f,.i g,N9]∧iR .u8 a∧iR .u8 b∧iR .i64 c∧iR .i64 e∧iR .i64 f∧iR .i64 g∧Wd (.sl 6) N9:=by
 obtain⟨r,h1,hl,hc⟩:=h.elN (cs:=[.int .u8,.int .u8,.int .i64,.int .i64,.int .i64,.int .i64,.sl 6]) rfl _ (List.getElem_mem hi)
 match r,hl with
 | [a,b,c,e,f,g,N9],_=>
   obtain⟨a,rfl,ha⟩:=(hc 0 _ _ rfl rfl).i
   obtain⟨b,rfl,hb⟩:=(hc 1 _ _ rfl rfl).i
   obtain⟨c,rfl,hc'⟩:=(hc 2 _ _ rfl rfl).i
   obtain⟨e,rfl,he⟩:=(hc 3 _ _ rfl rfl).i
   obtain⟨f,rfl,hf⟩:=(hc 4 _ _ rfl rfl).i
   obtain⟨g,rfl,hg⟩:=(hc 5 _ _ rfl rfl).i
   exact⟨a,b,c,e,f,g,N9,h1,ha,hb,hc',he,hf,hg,hc 6 _ _ rfl rfl⟩
section
variable {d0 d1:D} (h0:Wd (.sl 3) d0) (h1:Wd (.sl 4) d1)
include h1
theorem EL (hx: ∀x y:Int,x=y→True): ∀(j i:Nat),i+j=d1.l.length→Tot 453 [enc d1,(d1.l.length:Int),(i:Int),enc d0] (LP d0 d1)
 | 0,i,hi=>by
   have c1: ¬(i:Int) < (d1.l.length:Int):=by omega
   refine Tot.of ?_
   rw [aAP]
   simp only [aoP,zz,aH.den,Nat.reduceLT,c1]
   exact .out ⟨120,rfl,.inr rfl,fun h=>by omega⟩
 | j+1,i,hi=>by
   have hl:=h1.len
   have c1:(i:Int) < (d1.l.length:Int):=by omega
   have c2: ¬((i:Int) < 0):=by omega
   have w:=bD (n:=i) (by omega)
   refine Tot.of ?_
   rw [aAP]
   simp only [aoP,zz,aH.den,Nat.reduceLT,c1,c2]
   refine .jump (Tot.of ?_)
   rw [aAN]
   simp only [aoN,zz,aH.den,Nat.reduceLT,w]
   exact .ite (fun _=> .jump (EL hx j (i+1) (by omega))) fun _=> .jump (EL hx j (i+1) (by omega))
theorem Rn (i:Nat) (hi:i < d1.l.length) (j:Nat) (hj:i+1+j=d1.l.length) (x0 x5 x6 x7:Int):Tot 455 [x0,enc d1,(d1.l.length:Int),(i:Int),enc d0,x5,x6,x7] (LP d0 d1):=by
 have hl:=h1.len
 have w:=bD (n:=i) (by omega)
 refine Tot.of ?_
 rw [aAN]
 simp only [aoN,zz,aH.den,Nat.reduceLT,w]
 exact .ite (fun _=> .jump (EL h1 (fun _ _ _=>trivial) j (i+1) (by omega))) fun _=> .jump (EL h1 (fun _ _ _=>trivial) j (i+1) (by omega))
theorem Uy (hg:Hq d0 d1): ∀(j i:Nat),i+j=d1.l.length→(∀(n:Nat) (h:n < d1.l.length),n < i→ZK d0 d1.l[n])→Tot 454 [enc d1,(d1.l.length:Int),(i:Int),enc d0] (LP d0 d1)
 | 0,i,hi,hp=>by
   have c1: ¬(i:Int) < (d1.l.length:Int):=by omega
   refine Tot.of ?_
   rw [aAO]
   simp only [aoO,zz,aH.den,Nat.reduceLT,c1]
   refine .out ⟨0,rfl,.inl rfl,fun _=> ⟨hg,fun x hx=>?_⟩⟩
   obtain⟨n,hn,rfl⟩:=List.getElem_of_mem hx
   exact hp n hn (by omega)
 | j+1,i,hi,hp=>by
   have hl:=h1.len
   have hil:i < d1.l.length:=by omega
   have c1:(i:Int) < (d1.l.length:Int):=by omega
   have c2: ¬((i:Int) < 0):=by omega
   have w:=bD (n:=i) (by omega)
   obtain⟨nm',lc,cd,he,hn,hlc,hcd⟩:=EM h1 hil
   have hcl:=hcd.len
   have e1:(d1.l[i]).hd 1=lc:=by rw [he,dP]; rfl
   have e2:(d1.l[i]).hd 2=cd:=by rw [he,dP]; rfl
   have loop: ∀(m k:Nat),k+m=cd.l.length→(∀(n:Nat) (h:n < cd.l.length),n < k→OkI d0 lc.l.length cd.l.length ((cd.l[n]).hd 0).n ((cd.l[n]).hd 1).n ((cd.l[n]).hd 2).n ((cd.l[n]).hd 3).n ((cd.l[n]).hd 4).n ((cd.l[n]).hd 6).l.length)→Tot 456 [(k:Int),enc d1,(d1.l.length:Int),(i:Int),enc d0,enc nm',enc lc,enc cd] (LP d0 d1):=by
    intro m
    induction m with
    | zero=>
      intro k hk hq
      have c3: ¬(k:Int) < (cd.l.length:Int):=by omega
      have ih:=Uy hg j (i+1) (by omega) fun n hn hni=>by
       by_cases hne:n=i
       ·subst hne
        unfold ZK
        rw [e1,e2]
        intro y hy
        obtain⟨z,hz,rfl⟩:=List.getElem_of_mem hy
        exact hq z hz (by omega)
       ·exact hp n hn (by omega)
      refine Tot.of ?_
      rw [aAM]
      simp only [aoM,zz,aH.den,Nat.reduceLT,c3,w]
      exact .jump ih
    | succ m ihm=>
      intro k hk hq
      have hkl:k < cd.l.length:=by omega
      have c3:(k:Int) < (cd.l.length:Int):=by omega
      have c4: ¬((k:Int) < 0):=by omega
      have w2:=bD (n:=k) (by omega)
      obtain⟨a,b,c,e,f,g,N9,hin,_,_,_,_,_,_,has⟩:=XO hcd hkl
      have hroom:=has.room
      have hal:N9.l.length≤2513169434915:=by
       have:yI 6=56:=rfl
       rw [this] at hroom
       omega
      obtain⟨ys,hM,q,rfl,aEw,hqI⟩:=apX d0 d1 lc cd N9 (enc nm') a b c e f g hal
      obtain⟨ys,hX,r,rfl,_⟩:=adE N9 lc (enc nm') (enc cd) has
      refine Tot.of ?_
      rw [aAM]
      simp only [aoM,zz,aH.den,Nat.reduceLT,c3,c4,bM hkl,hin,dP,List.getElem?_cons_zero,List.getElem?_cons_succ,hM,hX,w2]
      refine .ite (fun _=> .jump (Rn h1 i hil j (by omega) _ _ _ _)) fun hq0=> .ite (fun _=> .jump (ihm (k+1) (by omega) fun n hn hnk=>?_)) fun _=> .jump (Rn h1 i hil j (by omega) _ _ _ _)
      by_cases hne:n=k
      ·subst hne
       simp only [hin,dP,List.getElem?_cons_zero,List.getElem?_cons_succ]
       exact hqI (by omega)
      ·exact hq n hn (by omega)
   refine Tot.of ?_
   rw [aAO]
   simp only [aoO,zz,aH.den,Nat.reduceLT,c1,c2,bM hil,he,dP,List.getElem?_cons_zero,List.getElem?_cons_succ]
   exact .ite (fun _=> .jump (Rn h1 i hil j (by omega) _ _ _ _)) fun _=> .ite (fun _=> .jump (Rn h1 i hil j (by omega) _ _ _ _)) fun _=> .jump (loop cd.l.length 0 (by omega) fun n hn h=>absurd h (by omega))
include h0
theorem JF: ∀(j i:Nat),i+j=d0.l.length→Tot 451 [enc d0,(d0.l.length:Int),(i:Int),enc d1] (LP d0 d1)
 | 0,i,hi=>by
   have c1: ¬(i:Int) < (d0.l.length:Int):=by omega
   refine Tot.of ?_
   rw [aAR]
   simp only [aoR,zz,aH.den,Nat.reduceLT,c1]
   exact .jump (EL h1 (fun _ _ _=>trivial) d1.l.length 0 (by omega))
 | j+1,i,hi=>by
   have hl:=h0.len
   have c1:(i:Int) < (d0.l.length:Int):=by omega
   have c2: ¬((i:Int) < 0):=by omega
   have w:=bD (n:=i) (by omega)
   refine Tot.of ?_
   rw [aAR]
   simp only [aoR,zz,aH.den,Nat.reduceLT,c1,c2,w]
   exact .jump (JF j (i+1) (by omega))
theorem U1 (hs:d0.l.length≤64) (ht:d1.l.length≤16): ∀(j i:Nat),i+j=d0.l.length→(∀(k:Nat) (h:k < d0.l.length),k < i→ahI d0 d0.l[k])→Tot 452 [enc d0,(d0.l.length:Int),(i:Int),enc d1] (LP d0 d1)
 | 0,i,hi,hp=>by
   have c1: ¬(i:Int) < (d0.l.length:Int):=by omega
   refine Tot.of ?_
   rw [aAQ]
   simp only [aoQ,zz,aH.den,Nat.reduceLT,c1]
   refine .jump (Uy h1 ⟨hs,ht,fun x hx=>?_⟩ d1.l.length 0 (by omega) fun n hn h=>absurd h (by omega))
   obtain⟨k,hk,rfl⟩:=List.getElem_of_mem hx
   exact hp k hk (by omega)
 | j+1,i,hi,hp=>by
   have hil:i < d0.l.length:=by omega
   have c1:(i:Int) < (d0.l.length:Int):=by omega
   have c2: ¬((i:Int) < 0):=by omega
   have w:=bD (n:=i) (by omega)
   obtain⟨ys,hO,b,rfl,_,hob⟩:=acB d0 (enc d1) ((d0.l[i]).hd 0).n (enc ((d0.l[i]).hd 1)) ((d0.l[i]).hd 2).n (enc ((d0.l[i]).hd 3)) ((d0.l[i]).hd 4).n
   refine Tot.of ?_
   rw [aAQ]
   simp only [aoQ,zz,aH.den,Nat.reduceLT,c1,c2,w,bM hil,hO]
   refine .ite (fun _=> .jump (JF h0 h1 j (i+1) (by omega))) fun hb=> .jump (U1 hs ht j (i+1) (by omega) fun k hk hki=>?_)
   by_cases hke:k=i
   ·subst hke
    exact hob hb
   ·exact hp k hk (by omega)
theorem Dp:Tot 450 [enc d0,enc d1] (LP d0 d1):=by
 refine Tot.of ?_
 rw [aDd]
 simp only [axG,zz,aH.den,Nat.reduceLT]
 exact .ite (fun _=> .jump (JF h0 h1 d0.l.length 0 (by omega))) fun ha=> .ite (fun _=> .jump (JF h0 h1 d0.l.length 0 (by omega))) fun hb=>
  .jump (U1 h0 h1 (by omega) (by omega) d0.l.length 0 (by omega) fun k hk hki=>by omega)
end
end Go.As.Try
end
section
namespace Go.As.Try
open Go hiding Stat Spec shape
open Go.As
set_option maxRecDepth 100000
def one (ys:List Int):Prop:= ∃k:Int,ys= [k]
theorem aBg {o:Int} (h:iR .u8 o):IntKind.i64.wrap o=o:=qV (by have:=h.1; omega) (by have:=h.2; omega)
theorem ahV (a b c d e:Int):Tot 650 [a,b,c,d,e] (fun ys=> ∃k l:Int,ys= [k,l]∧(l=0∨l=1)):=by
 refine Tot.of ?_
 rw [aC5]
 simp only [axD,zz,aH.den,Nat.reduceLT]
 repeat' first | exact .out ⟨_,_,rfl,.inl rfl⟩ | exact .out ⟨_,_,rfl,.inr rfl⟩ | refine .ite (fun _=>?_) (fun _=>?_)
theorem OD (r:D) (hl:r.l.length≤140737488351232) (x0 x4 x5 x6 x7 x8 x9 x10 x11 x12:Int) (v:D): ∀(j i:Nat) (x14:Int),i+j=r.l.length→
 Tot 501 [x0,enc r,(r.l.length:Int),(i:Int),x4,x5,x6,x7,x8,x9,x10,x11,x12,enc v,x14] Ew
 | 0,i,x14,hi=>by
   have c1: ¬(i:Int) < (r.l.length:Int):=by omega
   refine Tot.of ?_
   rw [aAL]
   simp only [aoL,zz,aH.den,Nat.reduceLT,c1]
   repeat' first | exact .out zF | exact .out zD | refine .ite (fun _=>?_) (fun _=>?_)
 | j+1,i,x14,hi=>by
   have c1:(i:Int) < (r.l.length:Int):=by omega
   have c2: ¬((i:Int) < 0):=by omega
   have w:=bD (n:=i) (by omega)
   have ih:=fun x=>OD r hl x0 x4 x5 x6 x7 x8 x9 x10 x11 x12 v j (i+1) x (by omega)
   refine Tot.of ?_
   rw [aAL]
   simp only [aoL,zz,aH.den,Nat.reduceLT,c1,c2,w]
   repeat' first | exact .out zF | exact .out zD | exact .jump (ih _) | refine .ite (fun _=>?_) (fun _=>?_)
theorem Xq (x0 x1 x2 x3 x4 x5 x6 x7 x8 x11:Int) (r v:D) (hl:r.l.length≤140737488351232):Tot 500 [x0,x1,x2,x3,x4,x5,x6,x7,x8,enc r,enc v,x11] Ew:=by
 obtain⟨ys,hM,a,b,rfl,hb⟩:=ahV x0 x1 x2 x3 x4
 have ih:=OD r hl x11 x0 x1 x2 x3 x4 x5 x6 x7 x8 v r.l.length 0 (enc (.i 0)) (by omega)
 refine Tot.of ?_
 rw [aDc]
 simp only [axF,zz,aH.den,Nat.reduceLT,hM]
 repeat' first | exact .out zF | exact .out zD | exact .jump ih | refine .ite (fun _=>?_) (fun _=>?_)
end Go.As.Try
end
section
namespace Go.As.Try
open Go hiding Stat Spec shape
open Go.As
set_option maxRecDepth 100000
theorem set_self {d:D} (hd:d=dL d.l) {i:Nat} (hi:i < d.l.length):dL (iK d.l (i:Int) d.l[i])=d:=by
 rw [xK,List.set_getElem_self,← hd]
theorem KH (a b c d e f x:D):iK [a,b,c,d,e,f] 4 x= [a,b,c,d,x,f]:=rfl
theorem KG (a b c d e f x:D):iK [a,b,c,d,e,f] 5 x= [a,b,c,d,e,x]:=rfl
theorem nO: ¬(enc (.i 2)=enc (.i 1)):=fun h=>by have:=qN h; simp at this
theorem len1:(((D.i 1).l.length:Nat):Int)=0:=rfl
theorem len2:(((D.i 2).l.length:Nat):Int)=0:=rfl
theorem uF: ¬((0:Int) < 0):=by omega
theorem bJ {r:D} (h:Wd (.sl 0) r):r= .i 1∨r= .i 2∨((0:Int) < (r.l.length:Int)∧(r.l.length:Int) < 17592186044416):=by
 rcases h.sh with h1 | h1 | ⟨h1,h2⟩
 ·exact .inl h1
 ·exact .inr (.inl h1)
 ·have hr:=h.room
  have h3:yI 0=8:=rfl
  rw [h3] at hr
  have:=List.length_pos_iff.2 h2
  exact .inr (.inr ⟨by omega,by omega⟩)
structure Th (d:D):Prop where
 wd:Wd (.sl 7) d
 sh:d=dL d.l
 few:d.l.length≤1759218604390
theorem DJ {d:D} (h:Wd (.sl 7) d) (hn:0 < d.l.length):Th d:=by
 refine⟨h,?_,?_⟩
 ·rcases h.sh with rfl | rfl | ⟨h1,_⟩
  ·simp [D.l] at hn
  ·simp [D.l] at hn
  ·exact h1
 ·have hr:=h.room
  have h3:yI 7=80:=rfl
  rw [h3] at hr
  omega
theorem QH (d:D) (h:Th d): ∀(j i:Nat),i+j=d.l.length→L 551 [enc d,(d.l.length:Int),(i:Int)]=some [enc d]
 | 0,i,hi=>by
   have c1: ¬(i:Int) < (d.l.length:Int):=by omega
   rw [aX,aAK]
   simp only [aoK,zz,aH.den,Nat.reduceLT,c1,fin]
 | j+1,i,hi=>by
   have hl:=h.few
   have hil:i < d.l.length:=by omega
   have c1:(i:Int) < (d.l.length:Int):=by omega
   have c2: ¬((i:Int) < 0):=by omega
   have w:=bD (n:=i) (by omega)
   have ih:=QH d h j (i+1) (by omega)
   obtain⟨o,c,dn,g,r,v,he,_,_,_,_,hr,hv⟩:=h.wd.thing _ (List.getElem_mem hil)
   have hs:=set_self h.sh hil
   rw [he] at hs
   rw [aX,aAK]
   rcases bJ hr with rfl | rfl | ⟨r1,r2⟩ <;> rcases bJ hv with rfl | rfl | ⟨v1,v2⟩
   all_goals
    simp only [aoK,zz,aH.den,Nat.reduceLT,c1,c2,w,bM hil,he,dP,aZ,List.getElem?_cons_zero,List.getElem?_cons_succ,KH,KG,hs,len1,len2,uF,nO]
    try simp only [r1,r2,zz]
    try simp only [v1,v2,zz]
    try simp only [fin]
    exact ih
theorem amT (d:D) (h:Wd (.sl 7) d):L 550 [enc d]=some [enc d]:=by
 rw [aX,aDb]
 rcases h.sh with rfl | rfl | ⟨h1,h2⟩
 ·simp only [afH,zz,aH.den,Nat.reduceLT,len1,uF,fin]
  rw [aX,aDa]
  rfl
 ·simp only [afH,zz,aH.den,Nat.reduceLT,len2,uF,nO,fin]
  rw [aX,aC9]
  rfl
 ·have hp:=List.length_pos_iff.2 h2
  have ht:=DJ h hp
  have hl:=ht.few
  have c1:(0:Int) < (d.l.length:Int):=by omega
  have c2:(d.l.length:Int) < 1759218604441:=by omega
  simp only [afH,zz,aH.den,Nat.reduceLT,c1,c2,fin]
  exact QH d ht d.l.length 0 (by omega)
theorem QL (d:D) (h:Th d) (gi:Nat) (x4 x5 x6 x7 x8 x9:Int): ∀(j i:Nat),gi < i→i+j=d.l.length→L 9004 [(gi:Int),enc d,(d.l.length:Int),(i:Int),x4,x5,x6,x7,x8,x9]=some [3,(gi:Int),enc d,x4,x5,x6,x7,x8,x9]
 | 0,i,hg,hi=>by
   have c1: ¬(i:Int) < (d.l.length:Int):=by omega
   have c0: ¬((i:Int)=(gi:Int)):=by omega
   rw [aX,akO]
   simp only [Y4,zz,aH.den,Nat.reduceLT,c0,c1,fin]
 | j+1,i,hg,hi=>by
   have hl:=h.few
   have hil:i < d.l.length:=by omega
   have c1:(i:Int) < (d.l.length:Int):=by omega
   have c2: ¬((i:Int) < 0):=by omega
   have c0: ¬((i:Int)=(gi:Int)):=by omega
   have w:=bD (n:=i) (by omega)
   have ih:=QL d h gi x4 x5 x6 x7 x8 x9 j (i+1) (by omega) (by omega)
   obtain⟨o,c,dn,g,r,v,he,_,_,_,_,hr,hv⟩:=h.wd.thing _ (List.getElem_mem hil)
   have hs:=set_self h.sh hil
   rw [he] at hs
   rw [aX,akO]
   rcases bJ hr with rfl | rfl | ⟨r1,r2⟩ <;> rcases bJ hv with rfl | rfl | ⟨v1,v2⟩
   all_goals
    simp only [Y4,zz,aH.den,Nat.reduceLT,c0,c1,c2,w,bM hil,he,dP,aZ,List.getElem?_cons_zero,List.getElem?_cons_succ,KH,KG,hs,len1,len2,uF,nO]
    try simp only [r1,r2,zz]
    try simp only [v1,v2,zz]
    try simp only [fin]
    exact ih
theorem QK (d:D) (h:Th d) (gi:Nat) (x4 x5 x6 x7 x8 x9:Int): ∀(j i:Nat),gi < i→i+j=d.l.length→L 9005 [(gi:Int),enc d,(d.l.length:Int),(i:Int),x4,x5,x6,x7,x8,x9]=some [4,(gi:Int),enc d,x4,x5,x6,x7,x8,x9]
 | 0,i,hg,hi=>by
   have c1: ¬(i:Int) < (d.l.length:Int):=by omega
   have c0: ¬((i:Int)=(gi:Int)):=by omega
   rw [aX,akN]
   simp only [Y3,zz,aH.den,Nat.reduceLT,c0,c1,fin]
 | j+1,i,hg,hi=>by
   have hl:=h.few
   have hil:i < d.l.length:=by omega
   have c1:(i:Int) < (d.l.length:Int):=by omega
   have c2: ¬((i:Int) < 0):=by omega
   have c0: ¬((i:Int)=(gi:Int)):=by omega
   have w:=bD (n:=i) (by omega)
   have ih:=QK d h gi x4 x5 x6 x7 x8 x9 j (i+1) (by omega) (by omega)
   obtain⟨o,c,dn,g,r,v,he,_,_,_,_,hr,hv⟩:=h.wd.thing _ (List.getElem_mem hil)
   have hs:=set_self h.sh hil
   rw [he] at hs
   rw [aX,akN]
   rcases bJ hr with rfl | rfl | ⟨r1,r2⟩ <;> rcases bJ hv with rfl | rfl | ⟨v1,v2⟩
   all_goals
    simp only [Y3,zz,aH.den,Nat.reduceLT,c0,c1,c2,w,bM hil,he,dP,aZ,List.getElem?_cons_zero,List.getElem?_cons_succ,KH,KG,hs,len1,len2,uF,nO]
    try simp only [r1,r2,zz]
    try simp only [v1,v2,zz]
    try simp only [fin]
    exact ih
theorem QJ (d:D) (h:Th d) (gi:Nat) (x4 x5 x6 x7 x8 x9:Int): ∀(j i:Nat),gi < i→i+j=d.l.length→L 9006 [(gi:Int),enc d,(d.l.length:Int),(i:Int),x4,x5,x6,x7,x8,x9]=some [5,(gi:Int),enc d,x4,x5,x6,x7,x8,x9]
 | 0,i,hg,hi=>by
   have c1: ¬(i:Int) < (d.l.length:Int):=by omega
   have c0: ¬((i:Int)=(gi:Int)):=by omega
   rw [aX,akM]
   simp only [Y2,zz,aH.den,Nat.reduceLT,c0,c1,fin]
 | j+1,i,hg,hi=>by
   have hl:=h.few
   have hil:i < d.l.length:=by omega
   have c1:(i:Int) < (d.l.length:Int):=by omega
   have c2: ¬((i:Int) < 0):=by omega
   have c0: ¬((i:Int)=(gi:Int)):=by omega
   have w:=bD (n:=i) (by omega)
   have ih:=QJ d h gi x4 x5 x6 x7 x8 x9 j (i+1) (by omega) (by omega)
   obtain⟨o,c,dn,g,r,v,he,_,_,_,_,hr,hv⟩:=h.wd.thing _ (List.getElem_mem hil)
   have hs:=set_self h.sh hil
   rw [he] at hs
   rw [aX,akM]
   rcases bJ hr with rfl | rfl | ⟨r1,r2⟩ <;> rcases bJ hv with rfl | rfl | ⟨v1,v2⟩
   all_goals
    simp only [Y2,zz,aH.den,Nat.reduceLT,c0,c1,c2,w,bM hil,he,dP,aZ,List.getElem?_cons_zero,List.getElem?_cons_succ,KH,KG,hs,len1,len2,uF,nO]
    try simp only [r1,r2,zz]
    try simp only [v1,v2,zz]
    try simp only [fin]
    exact ih
theorem QI (d:D) (h:Th d) (gi:Nat) (x4 x5 x6 x7 x8 x9:Int): ∀(j i:Nat),gi < i→i+j=d.l.length→L 9007 [(gi:Int),enc d,(d.l.length:Int),(i:Int),x4,x5,x6,x7,x8,x9]=some [6,(gi:Int),enc d,x4,x5,x6,x7,x8,x9]
 | 0,i,hg,hi=>by
   have c1: ¬(i:Int) < (d.l.length:Int):=by omega
   have c0: ¬((i:Int)=(gi:Int)):=by omega
   rw [aX,akL]
   simp only [Y1,zz,aH.den,Nat.reduceLT,c0,c1,fin]
 | j+1,i,hg,hi=>by
   have hl:=h.few
   have hil:i < d.l.length:=by omega
   have c1:(i:Int) < (d.l.length:Int):=by omega
   have c2: ¬((i:Int) < 0):=by omega
   have c0: ¬((i:Int)=(gi:Int)):=by omega
   have w:=bD (n:=i) (by omega)
   have ih:=QI d h gi x4 x5 x6 x7 x8 x9 j (i+1) (by omega) (by omega)
   obtain⟨o,c,dn,g,r,v,he,_,_,_,_,hr,hv⟩:=h.wd.thing _ (List.getElem_mem hil)
   have hs:=set_self h.sh hil
   rw [he] at hs
   rw [aX,akL]
   rcases bJ hr with rfl | rfl | ⟨r1,r2⟩ <;> rcases bJ hv with rfl | rfl | ⟨v1,v2⟩
   all_goals
    simp only [Y1,zz,aH.den,Nat.reduceLT,c0,c1,c2,w,bM hil,he,dP,aZ,List.getElem?_cons_zero,List.getElem?_cons_succ,KH,KG,hs,len1,len2,uF,nO]
    try simp only [r1,r2,zz]
    try simp only [v1,v2,zz]
    try simp only [fin]
    exact ih
def oP (r v:D):Int:=if 0 < r.l.length then (if 0 < v.l.length then 3 else 4) else (if 0 < v.l.length then 5 else 6)
theorem avZ (d:D) (h:Th d) (gi:Nat) (hgi:gi < d.l.length) (o c dn g:Int) (r v:D) (he':d.l[gi]=dL [.i o,.i c,.i dn,.i g,r,v]): ∀(j i:Nat),i≤gi→i+j=gi→
 L 9001 [(gi:Int),enc d,(d.l.length:Int),(i:Int)]=some [oP r v,(gi:Int),enc d,o,c,dn,g,enc r,enc v]
 | 0,i,hg,hi=>by
   obtain rfl:i=gi:=by omega
   have hl:=h.few
   have c1:(i:Int) < (d.l.length:Int):=by omega
   have c2: ¬((i:Int) < 0):=by omega
   have w:=bD (n:=i) (by omega)
   obtain⟨o',c',dn',g',r',v',he,_,_,_,_,hr,hv⟩:=h.wd.thing _ (List.getElem_mem hgi)
   rw [he'] at he
   have he:=Ny he
   simp only [List.cons.injEq,D.i.injEq,and_true] at he
   obtain⟨rfl,rfl,rfl,rfl,rfl,rfl⟩:=he
   have b4:=fun a b=>QL d h i o c dn g a b (d.l.length - (i+1)) (i+1) (by omega) (by omega)
   have b5:=fun a b=>QK d h i o c dn g a b (d.l.length - (i+1)) (i+1) (by omega) (by omega)
   have b6:=fun a b=>QJ d h i o c dn g a b (d.l.length - (i+1)) (i+1) (by omega) (by omega)
   have b7:=fun a b=>QI d h i o c dn g a b (d.l.length - (i+1)) (i+1) (by omega) (by omega)
   rw [aX,VO]
   rcases bJ hr with rfl | rfl | ⟨r1,r2⟩
   ·rcases bJ hv with rfl | rfl | ⟨v1,v2⟩
    ·simp only [uZ,zz,aH.den,Nat.reduceLT,c1,c2,w,bM hgi,he',dP,aZ,List.getElem?_cons_zero,List.getElem?_cons_succ,len1,uF,fin,b7]
     rw [oP,if_neg (by simp [D.l]),if_neg (by simp [D.l])]
    ·simp only [uZ,zz,aH.den,Nat.reduceLT,c1,c2,w,bM hgi,he',dP,aZ,List.getElem?_cons_zero,List.getElem?_cons_succ,len1,uF,len2,nO,fin,b7]
     rw [oP,if_neg (by simp [D.l]),if_neg (by simp [D.l])]
    ·simp only [uZ,zz,aH.den,Nat.reduceLT,c1,c2,w,bM hgi,he',dP,aZ,List.getElem?_cons_zero,List.getElem?_cons_succ,len1,uF,v1,v2,fin,b6]
     rw [oP,if_neg (by simp [D.l]),if_pos (by omega)]
   ·rcases bJ hv with rfl | rfl | ⟨v1,v2⟩
    ·simp only [uZ,zz,aH.den,Nat.reduceLT,c1,c2,w,bM hgi,he',dP,aZ,List.getElem?_cons_zero,List.getElem?_cons_succ,len2,uF,nO,len1,fin,b7]
     rw [oP,if_neg (by simp [D.l]),if_neg (by simp [D.l])]
    ·simp only [uZ,zz,aH.den,Nat.reduceLT,c1,c2,w,bM hgi,he',dP,aZ,List.getElem?_cons_zero,List.getElem?_cons_succ,len2,uF,nO,fin,b7]
     rw [oP,if_neg (by simp [D.l]),if_neg (by simp [D.l])]
    ·simp only [uZ,zz,aH.den,Nat.reduceLT,c1,c2,w,bM hgi,he',dP,aZ,List.getElem?_cons_zero,List.getElem?_cons_succ,len2,uF,nO,v1,v2,fin,b6]
     rw [oP,if_neg (by simp [D.l]),if_pos (by omega)]
   ·rcases bJ hv with rfl | rfl | ⟨v1,v2⟩
    ·simp only [uZ,zz,aH.den,Nat.reduceLT,c1,c2,w,bM hgi,he',dP,aZ,List.getElem?_cons_zero,List.getElem?_cons_succ,r1,r2,len1,uF,fin,b5]
     rw [oP,if_pos (by omega),if_neg (by simp [D.l])]
    ·simp only [uZ,zz,aH.den,Nat.reduceLT,c1,c2,w,bM hgi,he',dP,aZ,List.getElem?_cons_zero,List.getElem?_cons_succ,r1,r2,len2,uF,nO,fin,b5]
     rw [oP,if_pos (by omega),if_neg (by simp [D.l])]
    ·simp only [uZ,zz,aH.den,Nat.reduceLT,c1,c2,w,bM hgi,he',dP,aZ,List.getElem?_cons_zero,List.getElem?_cons_succ,r1,r2,v1,v2,fin,b4]
     rw [oP,if_pos (by omega),if_pos (by omega)]
 | j+1,i,hg,hi=>by
   have hl:=h.few
   have hil:i < d.l.length:=by omega
   have c1:(i:Int) < (d.l.length:Int):=by omega
   have c2: ¬((i:Int) < 0):=by omega
   have c0: ¬((i:Int)=(gi:Int)):=by omega
   have w:=bD (n:=i) (by omega)
   have ih:=avZ d h gi hgi o c dn g r v he' j (i+1) (by omega) (by omega)
   clear he'
   obtain⟨o2,c2',dn2,g2,r2',v2',he,_,_,_,_,hr,hv⟩:=h.wd.thing _ (List.getElem_mem hil)
   have hs:=set_self h.sh hil
   rw [he] at hs
   rw [aX,VO]
   rcases bJ hr with rfl | rfl | ⟨r1,r2⟩ <;> rcases bJ hv with rfl | rfl | ⟨v1,v2⟩
   all_goals
    simp only [uZ,zz,aH.den,Nat.reduceLT,c0,c1,c2,w,bM hil,he,dP,aZ,List.getElem?_cons_zero,List.getElem?_cons_succ,KH,KG,hs,len1,len2,uF,nO]
    try simp only [r1,r2,zz]
    try simp only [v1,v2,zz]
    try simp only [fin]
    exact ih
theorem avY (d:D) (h:Th d) (gi:Nat) (hgi:gi < d.l.length) (o c dn g:Int) (r v:D) (he':d.l[gi]=dL [.i o,.i c,.i dn,.i g,r,v]) :
 L 9000 [(gi:Int),enc d]=some [oP r v,(gi:Int),enc d,o,c,dn,g,enc r,enc v]:=by
 have hl:=h.few
 have c1:(0:Int) < (d.l.length:Int):=by omega
 have c2:(d.l.length:Int) < 1759218604441:=by omega
 rw [aX,akP]
 simp only [Ot,zz,aH.den,Nat.reduceLT,c1,c2,fin]
 exact avZ d h gi hgi o c dn g r v he' gi 0 (by omega) (by omega)
theorem NC (d:D) (h:Th d) (x:Int) (hx:x < 0∨(d.l.length:Int)≤x): ∀(j i:Nat),i+j=d.l.length→L 9001 [x,enc d,(d.l.length:Int),(i:Int)]=some [0,x,enc d]
 | 0,i,hi=>by
   have c1: ¬(i:Int) < (d.l.length:Int):=by omega
   rw [aX,VO]
   by_cases c0:(i:Int)=x
   ·simp only [uZ,zz,aH.den,Nat.reduceLT,c0,fin]
    have c1: ¬x < (d.l.length:Int):=by omega
    simp only [if_neg c1]
   ·simp only [uZ,zz,aH.den,Nat.reduceLT,c0,c1,fin]
 | j+1,i,hi=>by
   have hl:=h.few
   have hil:i < d.l.length:=by omega
   have c1:(i:Int) < (d.l.length:Int):=by omega
   have c2: ¬((i:Int) < 0):=by omega
   have c0: ¬((i:Int)=x):=by omega
   have w:=bD (n:=i) (by omega)
   have ih:=NC d h x hx j (i+1) (by omega)
   obtain⟨o,c,dn,g,r,v,he,_,_,_,_,hr,hv⟩:=h.wd.thing _ (List.getElem_mem hil)
   have hs:=set_self h.sh hil
   rw [he] at hs
   rw [aX,VO]
   rcases bJ hr with rfl | rfl | ⟨r1,r2⟩ <;> rcases bJ hv with rfl | rfl | ⟨v1,v2⟩
   all_goals
    simp only [uZ,zz,aH.den,Nat.reduceLT,c0,c1,c2,w,bM hil,he,dP,aZ,List.getElem?_cons_zero,List.getElem?_cons_succ,KH,KG,hs,len1,len2,uF,nO]
    try simp only [r1,r2,zz]
    try simp only [v1,v2,zz]
    try simp only [fin]
    exact ih
theorem copyN (d:D) (h:Wd (.sl 7) d) (x:Int) (hx:x < 0∨(d.l.length:Int)≤x):Tot 9000 [x,enc d] (fun ys=>ys= [0,x,enc d]∨(ys= [1,x]∧d= .i 1)∨(ys= [2,x]∧d= .i 2)):=by
 refine Tot.of ?_
 rw [akP]
 rcases h.sh with rfl | rfl | ⟨h1,h2⟩
 ·simp only [Ot,zz,aH.den,Nat.reduceLT,len1,uF]
  refine .jump (Tot.of ?_)
  rw [auJ]
  simp only [afA,zz,aH.den,Nat.reduceLT]
  exact .ite (fun _=> .out (.inr (.inl rfl))) fun _=> .out (.inr (.inl rfl))
 ·simp only [Ot,zz,aH.den,Nat.reduceLT,len2,uF,nO]
  refine .jump (Tot.of ?_)
  rw [auI]
  simp only [aeZ,zz,aH.den,Nat.reduceLT]
  exact .ite (fun _=> .out (.inr (.inr rfl))) fun _=> .out (.inr (.inr rfl))
 ·have hp:=List.length_pos_iff.2 h2
  have ht:=DJ h hp
  have hl:=ht.few
  have c1:(0:Int) < (d.l.length:Int):=by omega
  have c2:(d.l.length:Int) < 1759218604441:=by omega
  simp only [Ot,zz,aH.den,Nat.reduceLT,c1,c2]
  exact .jump ⟨_,NC d ht x hx d.l.length 0 (by omega),.inl rfl⟩
end Go.As.Try
end
section
namespace Go.As.Try
open Go hiding Stat Spec shape
open Go.As
set_option maxRecDepth 100000
def axI (d x:D) (m:Nat):List Int:=[(d.hd 0).n,enc (d.hd 1),(d.hd 2).n,enc (d.hd 3),(d.hd 4).n,(x.hd 0).n,(x.hd 1).n,(if (x.hd 2).n=0 then 0 else 1),(x.hd 3).n,enc (x.hd 4),enc (x.hd 5),(m:Int)]
def Snd (d x:D) (m:Nat):Prop:=L 500 (axI d x m)=some [1]
theorem aoV (d x:D) (m:Nat) (h:(x.hd 4).l.length≤140737488351232): ∃c,L 500 (axI d x m)=some [c]∧(c=0∨c=1):=by
 obtain⟨ys,h1,c,rfl,hc⟩:=Xq (d.hd 0).n (enc (d.hd 1)) (d.hd 2).n (enc (d.hd 3)) (d.hd 4).n (x.hd 0).n (x.hd 1).n (if (x.hd 2).n=0 then 0 else 1) (x.hd 3).n (m:Int) (x.hd 4) (x.hd 5) h
 exact⟨c,h1,hc⟩
theorem aQ:((1:Int)=0)=False:=by simp
def He (s:D):Prop:= ∀x∈s.l,(x.hd 4).l.length≤140737488351232
section
variable {d0 d1 s:D} (hr:He s) (hle:s.l.length=d0.l.length) (hlen:d0.l.length≤140737488351232)
include hr hle hlen
theorem KN: ∀(j i:Nat),i+j=s.l.length→∃b:Int,L 351 [enc s,(s.l.length:Int),(i:Int),enc d0,enc d1]=some [b]∧(b=0∨b=1)∧
 (b=1↔∀(k:Nat) (hk:k < s.l.length),i≤k→Snd (d0.l[k]'(hle▸hk)) s.l[k] d1.l.length)
 | 0,i,hi=>by
   have c1: ¬(i:Int) < (s.l.length:Int):=by omega
   refine⟨1,?_,.inr rfl,fun _ k hk h=>absurd hk (by omega),fun _=>rfl⟩
   rw [aX,arK]
   simp only [WY,zz,aH.den,Nat.reduceLT,c1,fin]
 | j+1,i,hi=>by
   have hil:i < s.l.length:=by omega
   have hid:i < d0.l.length:=by omega
   have c1:(i:Int) < (s.l.length:Int):=by omega
   have c2: ¬((i:Int) < 0):=by omega
   have c3:(i:Int) < (d0.l.length:Int):=by omega
   have w:=bD (n:=i) (by omega)
   obtain⟨c,hS,hc⟩:=aoV d0.l[i] s.l[i] d1.l.length (hr _ (List.getElem_mem hil))
   obtain⟨b,hb1,hb2,ih⟩:=KN j (i+1) (by omega)
   have hS':=hS
   unfold axI at hS
   by_cases hc0:c=0
   ·subst hc0
    refine⟨0,?_,.inl rfl,fun h=>absurd h (by omega),fun h=>?_⟩
    ·rw [aX,arK]
     by_cases hn:((s.l[i]).hd 2).n=0
     ·rw [if_pos hn] at hS
      simp only [WY,zz,aH.den,Nat.reduceLT,c1,c2,c3,w,bM hil,bM hid,hn,hS,fin]
     ·rw [if_neg hn] at hS
      simp only [WY,zz,aH.den,Nat.reduceLT,c1,c2,c3,w,bM hil,bM hid,hn,hS,fin]
    ·have:=h i hil (Nat.le_refl i)
     unfold Snd at this
     rw [hS'] at this
     simp at this
   ·have hc1:c=1:=by omega
    subst hc1
    refine⟨b,?_,hb2,fun h k hk hik=>?_,fun h=>ih.2 fun k hk hik=>h k hk (by omega)⟩
    ·rw [aX,arK]
     by_cases hn:((s.l[i]).hd 2).n=0
     ·rw [if_pos hn] at hS
      simp only [WY,zz,aH.den,Nat.reduceLT,c1,c2,c3,w,bM hil,bM hid,hn,hS,fin,aQ,hb1]
     ·rw [if_neg hn] at hS
      simp only [WY,zz,aH.den,Nat.reduceLT,c1,c2,c3,w,bM hil,bM hid,hn,hS,fin,aQ,hb1]
    ·by_cases hke:k=i
     ·subst hke
      exact hS'
     ·exact ih.1 h k hk (by omega)
end
theorem yU {d0 d1 s:D} (h0:Wd (.sl 3) d0) (h1:Wd (.sl 4) d1) (hr:He s): ∃b:Int,L 350 [enc d0,enc d1,enc s]=some [b]∧(b=0∨b=1)∧
 (b=1↔L 450 [enc d0,enc d1]=some [0]∧∃hle:s.l.length=d0.l.length,∀(k:Nat) (hk:k < s.l.length),Snd (d0.l[k]'(hle▸hk)) s.l[k] d1.l.length):=by
 obtain⟨ys,hC,c,rfl,hc,hok⟩:=Dp h0 h1
 by_cases hc0:c=0
 ·subst hc0
  by_cases hl:s.l.length=d0.l.length
  ·have hlen:=h0.len
   obtain⟨b,hb1,hb2,hb3⟩:=KN (d1:=d1) hr hl hlen s.l.length 0 (by omega)
   refine⟨b,?_,hb2,fun h=> ⟨hC,hl,fun k hk=>hb3.1 h k hk (by omega)⟩,fun⟨_,_,h⟩=>hb3.2 fun k hk _=>h k hk⟩
   have hl':(s.l.length:Int)=(d0.l.length:Int):=by omega
   rw [aX,arL,afT,eF,if_pos,eF,if_pos,eF,if_pos,qH]
   ·simp only [List.map,bW,jD,kN,bK,Nat.reduceLT,aN,aO,aG,fin]
    exact hb1
   ·simp only [iU,oM,bW,gQ,iI,jD,List.map,kN,bK,Nat.reduceLT,aN,aO,aG]
    exact hl'
   ·simp only [iU,oM,bW,gQ,iI,jD,List.map,kN,bK,Nat.reduceLT,aN,aO,aG]
    rw [hC]
    simp only [aN,aO,Option.isSome_some,Option.getD_some,if_true]
   ·simp only [iU,oM,bW,gQ,iI,jD,List.map,kN,bK,Nat.reduceLT,aN,aO,aG]
    rw [hC]
    simp only [aN,aO,Option.isSome_some,Option.getD_some,if_true]
  ·refine⟨0,?_,.inl rfl,fun h=>absurd h (by omega),fun⟨_,h,_⟩=>absurd h hl⟩
   have hl': ¬(s.l.length:Int)=(d0.l.length:Int):=by omega
   rw [aX,arL,afT,eF,if_pos,eF,if_pos,eF,if_neg]
   ·simp only [kQ,List.map,bW,fin]
   ·simp only [iU,oM,bW,gQ,iI,jD,List.map,kN,bK,Nat.reduceLT,aN,aO,aG]
    exact hl'
   ·simp only [iU,oM,bW,gQ,iI,jD,List.map,kN,bK,Nat.reduceLT,aN,aO,aG]
    rw [hC]
    simp only [aN,aO,Option.isSome_some,Option.getD_some,if_true]
   ·simp only [iU,oM,bW,gQ,iI,jD,List.map,kN,bK,Nat.reduceLT,aN,aO,aG]
    rw [hC]
    simp only [aN,aO,Option.isSome_some,Option.getD_some,if_true]
 ·refine⟨0,?_,.inl rfl,fun h=>absurd h (by omega),fun⟨h,_⟩=>?_⟩
  ·rw [aX,arL,afT,eF,if_pos,eF,if_neg]
   ·simp only [kQ,List.map,bW,fin]
   ·simp only [iU,oM,bW,gQ,iI,jD,List.map,kN,bK,Nat.reduceLT,aN,aO,aG]
    rw [hC]
    simp only [aN,aO,Option.isSome_some,Option.getD_some,if_true]
    exact hc0
   ·simp only [iU,oM,bW,gQ,iI,jD,List.map,kN,bK,Nat.reduceLT,aN,aO,aG]
    rw [hC]
    simp only [aN,aO,Option.isSome_some,Option.getD_some,if_true]
  ·rw [hC] at h
   simp at h
   exact absurd h hc0
end Go.As.Try
end
section
namespace Go.As.Try
open Go hiding Stat Spec shape
open Go.As
set_option maxRecDepth 100000
def OkT (d0:D) (nl nc:Nat) (a:Int) (ll:Nat) (w o g t:Int):Prop:=
 0≤a∧a≤(nc:Int)∧(ll:Int)=(nl:Int)∧0≤t∧t≤4611686018427387904∧
  (w=0∧o=0∧g=0∨w=24∧0≤o∧o < (d0.l.length:Int)∧((d0.at o).hd 0).n=4∨w=25∧0≤o∧o < (d0.l.length:Int)∧((d0.at o).hd 0).n=5)
def isB (p:Prop) (ys:List Int):Prop:= ∃b:Int,ys= [b]∧(b=0∧¬p∨b=1∧p)
theorem LQ {p:Prop} (h: ¬p):isB p [0]:=⟨0,rfl,.inl ⟨rfl,h⟩⟩
theorem aiO {p:Prop} (h:p):isB p [1]:=⟨1,rfl,.inr ⟨rfl,h⟩⟩
theorem aoE (d0 d3 d4 d6:D) (x1 x2 x5 x7 x8 x9 x10:Int):Tot 1600 [enc d0,x1,x2,enc d3,enc d4,x5,enc d6,x7,x8,x9,x10] (isB (OkT d0 d3.l.length d4.l.length x5 d6.l.length x7 x8 x9 x10)):=by
 unfold OkT
 refine Tot.of ?_
 rw [avK]
 simp only [afX,zz,aH.den,Nat.reduceLT]
 repeat' first
  | exact .out (LQ (by omega))
  | exact .out (aiO (by omega))
  | refine .ite (fun _=>?_) (fun _=>?_)
def OkK (d0 x k:D):Prop:=OkT d0 (x.hd 1).l.length (x.hd 2).l.length (k.hd 0).n (k.hd 1).l.length (k.hd 2).n (k.hd 3).n (k.hd 4).n (k.hd 5).n
section
variable {d0 d1 k:D} (hle:k.l.length=d1.l.length) (hlen:d1.l.length≤140737488351232)
include hle hlen
theorem IQ: ∀(j i:Nat),i+j=k.l.length→Tot 1501 [enc k,(k.l.length:Int),(i:Int),enc d0,enc d1] (isB (∀(n:Nat) (hn:n < k.l.length),i≤n→OkK d0 (d1.l[n]'(hle▸hn)) k.l[n]))
 | 0,i,hi=>by
   have c1: ¬(i:Int) < (k.l.length:Int):=by omega
   refine Tot.of ?_
   rw [alC]
   simp only [Zh,zz,aH.den,Nat.reduceLT,c1]
   exact .out (aiO fun n hn h=>by omega)
 | j+1,i,hi=>by
   have hil:i < k.l.length:=by omega
   have hid:i < d1.l.length:=by omega
   have c1:(i:Int) < (k.l.length:Int):=by omega
   have c2: ¬((i:Int) < 0):=by omega
   have c3:(i:Int) < (d1.l.length:Int):=by omega
   have w:=bD (n:=i) (by omega)
   obtain⟨ys,hT,b,rfl,hb⟩:=aoE d0 ((d1.l[i]).hd 1) ((d1.l[i]).hd 2) ((k.l[i]).hd 1) (enc d1) (enc ((d1.l[i]).hd 0)) ((k.l[i]).hd 0).n ((k.l[i]).hd 2).n ((k.l[i]).hd 3).n ((k.l[i]).hd 4).n ((k.l[i]).hd 5).n
   obtain⟨ys,ih,b',rfl,hb'⟩:=IQ j (i+1) (by omega)
   refine Tot.of ?_
   rw [alC]
   simp only [Zh,zz,aH.den,Nat.reduceLT,c1,c2,c3,bM hil,bM hid,w,hT]
   refine .ite (fun h0=> .out (LQ fun h=>?_)) (fun h0=> .jump ⟨_,ih,b',rfl,?_⟩)
   ·rcases hb with ⟨_,hb⟩ | ⟨hb,_⟩
    ·exact hb (h i hil (Nat.le_refl _))
    ·omega
   ·rcases hb with ⟨hb,_⟩ | ⟨_,hb⟩
    ·exact absurd hb h0
    ·rcases hb' with ⟨q,hb'⟩ | ⟨q,hb'⟩
     ·exact .inl ⟨q,fun h=>hb' fun n hn hni=>h n hn (by omega)⟩
     ·refine .inr ⟨q,fun n hn hni=>?_⟩
      by_cases he:n=i
      ·subst he; exact hb
      ·exact hb' n hn (by omega)
end
def MR (d0 d1 s k:D):Prop:=L 350 [enc d0,enc d1,enc s]=some [1]∧∃hle:k.l.length=d1.l.length,∀(n:Nat) (hn:n < k.l.length),OkK d0 (d1.l[n]'(hle▸hn)) k.l[n]
theorem acF {d0 d1 s k:D} (h0:Wd (.sl 3) d0) (h1:Wd (.sl 4) d1) (hr:He s) (hlen:d1.l.length≤140737488351232):Tot 1500 [enc d0,enc d1,enc s,enc k] (isB (MR d0 d1 s k)):=by
 obtain⟨b,hb,hb1,_⟩:=yU h0 h1 hr
 refine Tot.of ?_
 rw [avM]
 simp only [afZ,zz,aH.den,Nat.reduceLT,hb]
 refine .ite (fun h=> .out (LQ fun q=>?_)) (fun h=> .ite (fun hl=>?_) (fun hl=> .out (LQ fun q=>?_)))
 ·have:=q.1
  rw [hb] at this
  simp at this
  omega
 ·have hle:k.l.length=d1.l.length:=by omega
  obtain⟨ys,hL,b',rfl,hb'⟩:=IQ (d0:=d0) hle hlen k.l.length 0 (by omega)
  refine .jump ⟨_,hL,b',rfl,?_⟩
  have hone:b=1:=by omega
  subst hone
  rcases hb' with ⟨q,hb'⟩ | ⟨q,hb'⟩
  ·exact .inl ⟨q,fun h=>hb' fun n hn _=>h.2.2 n hn⟩
  ·exact .inr ⟨q,hb,hle,fun n hn=>hb' n hn (Nat.zero_le _)⟩
 ·have:=q.2.1
  omega
theorem agZ {d0 d1 s k:D} (h0:Wd (.sl 3) d0) (h1:Wd (.sl 4) d1) (hr:He s) (hlen:d1.l.length≤140737488351232) (t:Int):Tot 1550 [enc d0,enc d1,enc s,enc k,t] (isB (0≤t∧t < (d1.l.length:Int)∧MR d0 d1 s k)):=by
 obtain⟨ys,hM,b,rfl,hb⟩:=acF h0 h1 hr hlen (k:=k)
 refine Tot.of ?_
 rw [avL]
 simp only [afY,zz,aH.den,Nat.reduceLT,hM]
 refine .ite (fun h=> .out (LQ fun q=>by omega)) (fun h=> .ite (fun h2=> .ite (fun h3=> .out (LQ fun q=>?_)) (fun h3=> .out (aiO ?_))) (fun h2=> .out (LQ fun q=>by omega)))
 ·rcases hb with ⟨_,hb⟩ | ⟨hb,_⟩
  ·exact hb q.2.2
  ·omega
 ·rcases hb with ⟨hb,_⟩ | ⟨_,hb⟩
  ·exact absurd hb h3
  ·exact⟨by omega,h2,hb⟩
end Go.As.Try
end
section
namespace Go.As.Try
open Go hiding Stat Spec shape
open Go.As
set_option maxRecDepth 100000
def firstAt (t:Int):List D→Nat→Int
 | [],_=> -1
 | x :: l,i=>if x.n=t then (i:Int) else firstAt t l (i+1)
def place (r:D) (t:Int):Int:=firstAt t r.l 0
def wo (t:Int) (l:List D):List D:=l.filter fun x=>decide (x.n≠t)
theorem DW (t:Int): ∀(l:List D) (i:Nat),(firstAt t l i= -1∧∀x∈l,x.n≠t)∨∃(k:Nat) (h:k < l.length),firstAt t l i=((i+k:Nat):Int)∧(l[k]).n=t∧∀x∈l.take k,x.n≠t
 | [],_=> .inl ⟨rfl,fun x h=>absurd h (by simp)⟩
 | x :: l,i=>by
   unfold firstAt
   by_cases hx:x.n=t
   ·rw [if_pos hx]
    exact .inr ⟨0,by simp,by simp,hx,by simp⟩
   ·rw [if_neg hx]
    rcases DW t l (i+1) with ⟨h1,h2⟩ | ⟨k,hk,h1,h2,h3⟩
    ·exact .inl ⟨h1,fun y hy=>by rcases List.mem_cons.1 hy with rfl | hy; exact hx; exact h2 y hy⟩
    ·refine .inr ⟨k+1,by simp; omega,by rw [h1]; congr 1; omega,by simpa using h2,fun y hy=>?_⟩
     rw [List.take_succ_cons] at hy
     rcases List.mem_cons.1 hy with rfl | hy
     ·exact hx
     ·exact h3 y hy
theorem wC (r:D) (t:Int):(place r t= -1∧∀x∈r.l,x.n≠t)∨∃(k:Nat) (h:k < r.l.length),place r t=(k:Int)∧(r.l[k]).n=t∧∀x∈r.l.take k,x.n≠t:=by
 have:=DW t r.l 0
 simp only [Nat.zero_add] at this
 exact this
theorem iQ (r:D) (t:Int): -1≤place r t∧place r t < (r.l.length:Int):=by
 rcases wC r t with ⟨h,_⟩ | ⟨k,hk,h,_⟩ <;> rw [h] <;> omega
theorem Jt {t:Int} {l:List D} (h: ∀x∈l,x.n≠t):wo t l=l:=List.filter_eq_self.2 fun x hx=>by simpa using h x hx
theorem zQ {r:D} {t:Int} {i:Nat} (h:i < r.l.length):firstAt t (r.l.drop i) i=if (r.at (i:Int)).n=t then (i:Int) else firstAt t (r.l.drop (i+1)) (i+1):=by
 rw [List.drop_eq_getElem_cons h,bM h]
 rfl
theorem aiR (r:D) (t:Int) (hl:r.l.length≤140737488351232): ∀(j i:Nat),i+j=r.l.length→L 851 [enc r,t,(r.l.length:Int),(i:Int)]=some [firstAt t (r.l.drop i) i]
 | 0,i,hi=>by
   have c1: ¬(i:Int) < (r.l.length:Int):=by omega
   rw [List.drop_of_length_le (by omega),aX,aAJ]
   simp only [afB,zz,aH.den,Nat.reduceLT,c1,fin,firstAt]
 | j+1,i,hi=>by
   have c1:(i:Int) < (r.l.length:Int):=by omega
   have c2: ¬((i:Int) < 0):=by omega
   have w:=bD (n:=i) (by omega)
   have ih:=aiR r t hl j (i+1) (by omega)
   rw [zQ (by omega),aX,aAJ]
   by_cases he:(r.at (i:Int)).n=t
   ·simp only [afB,zz,aH.den,Nat.reduceLT,c1,c2,he,fin]
   ·have he': ¬t=(r.at (i:Int)).n:=fun h=>he h.symm
    simp only [afB,zz,aH.den,Nat.reduceLT,c1,c2,if_neg he,if_neg he',w,fin,ih]
theorem dM (r:D) (t:Int) (hl:r.l.length≤140737488351232):L 850 [enc r,t]=some [place r t]:=by
 have h:=aiR r t hl r.l.length 0 (by omega)
 rw [aX,aC1]
 simp only [awZ,zz,aH.den,Nat.reduceLT,fin]
 exact h
theorem has_is (r:D) (t:Int) (hl:r.l.length≤140737488351232):L 900 [enc r,t]=some [if place r t < 0 then 0 else 1]:=by
 rw [aX,aC0]
 simp only [awY,zz,aH.den,Nat.reduceLT,dM r t hl]
 split <;> rfl
theorem Fv (r:D) (t:Int) (hl:r.l.length≤140737488351232) (y2 y3 y4 y5 y6 y7 y8 y9 qG qF qE:Int): ∀(j i:Nat),i+j=r.l.length→
 L 12051 [enc r,t,y2,y3,y4,y5,y6,y7,y8,y9,qG,qF,qE,(r.l.length:Int),(i:Int)]=some [0,enc r,t,y2,y3,y4,y5,y6,y7,y8,y9,qG,qF,qE,firstAt t (r.l.drop i) i]
 | 0,i,hi=>by
   have c1: ¬(i:Int) < (r.l.length:Int):=by omega
   rw [List.drop_of_length_le (by omega),aX,Yv]
   simp only [Kv,zz,aH.den,Nat.reduceLT,c1,fin,firstAt]
 | j+1,i,hi=>by
   have c1:(i:Int) < (r.l.length:Int):=by omega
   have c2: ¬((i:Int) < 0):=by omega
   have w:=bD (n:=i) (by omega)
   have ih:=Fv r t hl y2 y3 y4 y5 y6 y7 y8 y9 qG qF qE j (i+1) (by omega)
   rw [zQ (by omega),aX,Yv]
   by_cases he:(r.at (i:Int)).n=t
   ·simp only [Kv,zz,aH.den,Nat.reduceLT,c1,c2,he,fin]
   ·simp only [Kv,zz,aH.den,Nat.reduceLT,c1,c2,if_neg he,w,fin,ih]
theorem apZ (r:D) (t:Int) (hl:r.l.length≤140737488351232) (y2 y3 y4 y5 y6 y7 y8 y9 qG qF qE:Int):L 12050 [enc r,t,y2,y3,y4,y5,y6,y7,y8,y9,qG,qF,qE]=some [0,enc r,t,y2,y3,y4,y5,y6,y7,y8,y9,qG,qF,qE,place r t]:=by
 have h:=Fv r t hl y2 y3 y4 y5 y6 y7 y8 y9 qG qF qE r.l.length 0 (by omega)
 rw [aX,amE]
 simp only [Xn,zz,aH.den,Nat.reduceLT,fin]
 exact h
theorem Fq (r:D) (t:Int) (hl:r.l.length≤140737488351232) (y2 y3 y4 y5 y6 y7 y8 y9 qG qF qE:Int): ∀(j i:Nat),i+j=r.l.length→
 L 12151 [enc r,t,y2,y3,y4,y5,y6,y7,y8,y9,qG,qF,qE,(r.l.length:Int),(i:Int)]=some [0,enc r,t,y2,y3,y4,y5,y6,y7,y8,y9,qG,qF,qE,firstAt t (r.l.drop i) i]
 | 0,i,hi=>by
   have c1: ¬(i:Int) < (r.l.length:Int):=by omega
   rw [List.drop_of_length_le (by omega),aX,Yt]
   simp only [Kr,zz,aH.den,Nat.reduceLT,c1,fin,firstAt]
 | j+1,i,hi=>by
   have c1:(i:Int) < (r.l.length:Int):=by omega
   have c2: ¬((i:Int) < 0):=by omega
   have w:=bD (n:=i) (by omega)
   have ih:=Fq r t hl y2 y3 y4 y5 y6 y7 y8 y9 qG qF qE j (i+1) (by omega)
   rw [zQ (by omega),aX,Yt]
   by_cases he:(r.at (i:Int)).n=t
   ·simp only [Kr,zz,aH.den,Nat.reduceLT,c1,c2,he,fin]
   ·simp only [Kr,zz,aH.den,Nat.reduceLT,c1,c2,if_neg he,w,fin,ih]
theorem apY (r:D) (t:Int) (hl:r.l.length≤140737488351232) (y2 y3 y4 y5 y6 y7 y8 y9 qG qF qE:Int):L 12150 [enc r,t,y2,y3,y4,y5,y6,y7,y8,y9,qG,qF,qE]=some [0,enc r,t,y2,y3,y4,y5,y6,y7,y8,y9,qG,qF,qE,place r t]:=by
 have h:=Fq r t hl y2 y3 y4 y5 y6 y7 y8 y9 qG qF qE r.l.length 0 (by omega)
 rw [aX,amD]
 simp only [Xm,zz,aH.den,Nat.reduceLT,fin]
 exact h
theorem Cb {t:Int} {l:List D} {j:Nat} (h:j < l.length):wo t (l.take (j+1))=if (l[j]).n=t then wo t (l.take j) else wo t (l.take j)++ [l[j]]:=by
 unfold wo
 rw [List.take_succ_eq_append_getElem h,List.filter_append]
 by_cases he:(l[j]).n=t
 ·simp [he]
 ·simp [he]
theorem aeH (t:Int) (l:List D):(wo t l).length≤l.length:=List.length_filter_le _ _
theorem Ac (r0:D) (t:Int) (l0:List D) (hl:l0.length≤140737488351232) (hn: ∀x∈l0,x= .i x.n) (y2 y3 y4 y5 y6 y7 y8 y9 qG qF qE:Int): ∀(m i j:Nat) (r:D),r.l.length=l0.length→i < j→j+m=l0.length→r.l.drop j=l0.drop j→r.l.take i=wo t (l0.take j)→
 ∃(n:Nat) (r':D),n < l0.length∧r'.l.length=l0.length∧r'.l.take n=wo t l0∧L 12001 [enc r0,t,y2,y3,y4,y5,y6,y7,y8,y9,qG,qF,qE,enc r,(i:Int),(j:Int)]=some [1,enc r0,t,y2,y3,y4,y5,y6,y7,y8,y9,qG,qF,qE,(n:Int),enc r',(l0.length:Int)]
 | 0,i,j,r,hr,h1,h2,h3,h4=>by
   have c1: ¬(j:Int) < (l0.length:Int):=by omega
   have c2: ¬((i:Int) < 0):=by omega
   have c3: ¬((l0.length:Int) < (i:Int)):=by omega
   have c4: ¬((l0.length:Int) - (i:Int) < 0):=by omega
   have c5:(i:Int)+((l0.length:Int) - (i:Int))=(l0.length:Int):=by omega
   refine⟨i,dL (r.l.take i++List.replicate (r.l.length - i) (.i 0)),by omega,by rw [aZ]; simp only [List.length_append,List.length_take,List.length_replicate]; omega,?_,?_⟩
   ·rw [aZ,List.take_append_of_le_length (by rw [List.length_take]; omega),List.take_take,Nat.min_self,h4,List.take_of_length_le (by omega)]
   ·rw [aX,TP]
    simp only [Kw,zz,aH.den,Nat.reduceLT,c1,c2,c3,c4,c5,Int.toNat_natCast,fin,hr]
 | m+1,i,j,r,hr,h1,h2,h3,h4=>by
   have c1:(j:Int) < (l0.length:Int):=by omega
   have c2: ¬((j:Int) < 0):=by omega
   have w:=bD (n:=j) (by omega)
   have hj:j < r.l.length:=by omega
   have hj0:j < l0.length:=by omega
   have hx:r.at (j:Int)=l0[j]:=by
    rw [bM hj]
    rw [List.drop_eq_getElem_cons hj,List.drop_eq_getElem_cons hj0] at h3
    exact (List.cons.inj h3).1
   have h3':r.l.drop (j+1)=l0.drop (j+1):=by
    rw [List.drop_eq_getElem_cons hj,List.drop_eq_getElem_cons hj0] at h3
    exact (List.cons.inj h3).2
   by_cases he:(r.at (j:Int)).n=t
   ·obtain⟨n,r',q1,q2,q3,ih⟩:=Ac r0 t l0 hl hn y2 y3 y4 y5 y6 y7 y8 y9 qG qF qE m i (j+1) r hr (by omega) (by omega) h3' (by rw [Cb hj0,← hx,if_pos he,h4])
    refine⟨n,r',q1,q2,q3,?_⟩
    rw [aX,TP]
    simp only [Kw,zz,aH.den,Nat.reduceLT,c1,c2,he,w,hr,fin,ih]
   ·have c3: ¬((i:Int) < 0):=by omega
    have c4:(i:Int) < (l0.length:Int):=by omega
    have w2:=bD (n:=i) (by omega)
    have hs:iK r.l (i:Int) (.i (r.at (j:Int)).n)=r.l.set i l0[j]:=by rw [xK,hx,← hn _ (List.getElem_mem hj0)]
    obtain⟨n,r',q1,q2,q3,ih⟩:=Ac r0 t l0 hl hn y2 y3 y4 y5 y6 y7 y8 y9 qG qF qE m (i+1) (j+1) (dL (iK r.l (i:Int) (.i (r.at (j:Int)).n))) (by rw [aZ,iT,hr]) (by omega) (by omega)
     (by rw [aZ,hs,List.drop_set_of_lt (by omega),h3'])
     (by rw [aZ,hs,List.take_succ_eq_append_getElem (by rw [List.length_set]; omega),List.take_set_of_le (Nat.le_refl _),List.getElem_set_self,h4,Cb hj0,← hx,if_neg he])
    refine⟨n,r',q1,q2,q3,?_⟩
    rw [aX,TP]
    simp only [Kw,zz,aH.den,Nat.reduceLT,c1,c2,c3,c4,if_neg he,w,w2,hr,fin,ih]
theorem arW (r:D) (t:Int) (hl:r.l.length≤140737488351232) (hn: ∀x∈r.l,x= .i x.n):(wo t r.l=r.l∧∀y2 y3 y4 y5 y6 y7 y8 y9 qG qF qE:Int,L 12000 [enc r,t,y2,y3,y4,y5,y6,y7,y8,y9,qG,qF,qE]=some [0,enc r,t,y2,y3,y4,y5,y6,y7,y8,y9,qG,qF,qE])∨
 ∀y2 y3 y4 y5 y6 y7 y8 y9 qG qF qE:Int,∃(n:Nat) (r':D),n < r.l.length∧r'.l.length=r.l.length∧r'.l.take n=wo t r.l∧L 12000 [enc r,t,y2,y3,y4,y5,y6,y7,y8,y9,qG,qF,qE]=some [1,enc r,t,y2,y3,y4,y5,y6,y7,y8,y9,qG,qF,qE,(n:Int),enc r',(r.l.length:Int)]:=by
 have h:=apZ r t hl
 rcases wC r t with ⟨hp,hno⟩ | ⟨i,hi,hp,hat,hno⟩
 ·refine .inl ⟨Jt hno,fun y2 y3 y4 y5 y6 y7 y8 y9 qG qF qE=>?_⟩
  have h':=h y2 y3 y4 y5 y6 y7 y8 y9 qG qF qE
  clear h
  rw [hp] at h'
  rw [aX,Yw,RD,eF,if_pos,eF,if_pos,eF,if_pos]
  ·simp only [kQ,List.map,bW,bK,aN,aO,Nat.reduceLT,fin]
  ·simp only [Qm3,iU,bW,gQ,iI,List.map,bK,Nat.reduceLT,aN,aO]
   rw [h']
   simp only [aN,aO,Option.isSome_some,Option.getD_some,if_true]
  ·simp only [iU,bW,gQ,iI,List.map,bK,Nat.reduceLT,aN,aO]
   rw [h']
   simp only [aN,aO,Option.isSome_some,Option.getD_some,if_true]
  ·simp only [iU,bW,gQ,iI,List.map,bK,Nat.reduceLT,aN,aO]
   rw [h']
   simp only [aN,aO,Option.isSome_some,Option.getD_some,if_true]
 ·refine .inr fun y2 y3 y4 y5 y6 y7 y8 y9 qG qF qE=>?_
  have h':=h y2 y3 y4 y5 y6 y7 y8 y9 qG qF qE
  clear h
  rw [hp] at h'
  have w:=bD (n:=i) (by omega)
  have h0:r.l.take i=wo t (r.l.take (i+1)):=by rw [Cb hi,if_pos hat,Jt hno]
  obtain⟨n,r',q1,q2,q3,ih⟩:=Ac r t r.l hl hn y2 y3 y4 y5 y6 y7 y8 y9 qG qF qE (r.l.length - (i+1)) i (i+1) r rfl (by omega) (by omega) rfl h0
  refine⟨n,r',q1,q2,q3,?_⟩
  rw [aX,Yw,RD,eF,if_pos,eF,if_pos,eF,if_neg]
  ·simp only [qH,List.map,Qm3,bW,gQ,BJ,den_add,bK,aN,aO,Nat.reduceLT]
   rw [h']
   simp only [aN,aO,Option.getD_some,w,fin]
   rw [ih]
  ·simp only [Qm3,iU,bW,gQ,iI,List.map,bK,Nat.reduceLT,aN,aO]
   rw [h']
   simp only [aN,aO,Option.isSome_some,Option.getD_some,if_true]
   omega
  ·simp only [iU,bW,gQ,iI,List.map,bK,Nat.reduceLT,aN,aO]
   rw [h']
   simp only [aN,aO,Option.isSome_some,Option.getD_some,if_true]
  ·simp only [iU,bW,gQ,iI,List.map,bK,Nat.reduceLT,aN,aO]
   rw [h']
   simp only [aN,aO,Option.isSome_some,Option.getD_some,if_true]
theorem Aa (r0:D) (t:Int) (l0:List D) (hl:l0.length≤140737488351232) (hn: ∀x∈l0,x= .i x.n) (y2 y3 y4 y5 y6 y7 y8 y9 qG qF qE:Int): ∀(m i j:Nat) (r:D),r.l.length=l0.length→i < j→j+m=l0.length→r.l.drop j=l0.drop j→r.l.take i=wo t (l0.take j)→
 ∃(n:Nat) (r':D),n < l0.length∧r'.l.length=l0.length∧r'.l.take n=wo t l0∧L 12101 [enc r0,t,y2,y3,y4,y5,y6,y7,y8,y9,qG,qF,qE,enc r,(i:Int),(j:Int)]=some [1,enc r0,t,y2,y3,y4,y5,y6,y7,y8,y9,qG,qF,qE,(n:Int),enc r',(l0.length:Int)]
 | 0,i,j,r,hr,h1,h2,h3,h4=>by
   have c1: ¬(j:Int) < (l0.length:Int):=by omega
   have c2: ¬((i:Int) < 0):=by omega
   have c3: ¬((l0.length:Int) < (i:Int)):=by omega
   have c4: ¬((l0.length:Int) - (i:Int) < 0):=by omega
   have c5:(i:Int)+((l0.length:Int) - (i:Int))=(l0.length:Int):=by omega
   refine⟨i,dL (r.l.take i++List.replicate (r.l.length - i) (.i 0)),by omega,by rw [aZ]; simp only [List.length_append,List.length_take,List.length_replicate]; omega,?_,?_⟩
   ·rw [aZ,List.take_append_of_le_length (by rw [List.length_take]; omega),List.take_take,Nat.min_self,h4,List.take_of_length_le (by omega)]
   ·rw [aX,TN]
    simp only [Ku,zz,aH.den,Nat.reduceLT,c1,c2,c3,c4,c5,Int.toNat_natCast,fin,hr]
 | m+1,i,j,r,hr,h1,h2,h3,h4=>by
   have c1:(j:Int) < (l0.length:Int):=by omega
   have c2: ¬((j:Int) < 0):=by omega
   have w:=bD (n:=j) (by omega)
   have hj:j < r.l.length:=by omega
   have hj0:j < l0.length:=by omega
   have hx:r.at (j:Int)=l0[j]:=by
    rw [bM hj]
    rw [List.drop_eq_getElem_cons hj,List.drop_eq_getElem_cons hj0] at h3
    exact (List.cons.inj h3).1
   have h3':r.l.drop (j+1)=l0.drop (j+1):=by
    rw [List.drop_eq_getElem_cons hj,List.drop_eq_getElem_cons hj0] at h3
    exact (List.cons.inj h3).2
   by_cases he:(r.at (j:Int)).n=t
   ·obtain⟨n,r',q1,q2,q3,ih⟩:=Aa r0 t l0 hl hn y2 y3 y4 y5 y6 y7 y8 y9 qG qF qE m i (j+1) r hr (by omega) (by omega) h3' (by rw [Cb hj0,← hx,if_pos he,h4])
    refine⟨n,r',q1,q2,q3,?_⟩
    rw [aX,TN]
    simp only [Ku,zz,aH.den,Nat.reduceLT,c1,c2,he,w,hr,fin,ih]
   ·have c3: ¬((i:Int) < 0):=by omega
    have c4:(i:Int) < (l0.length:Int):=by omega
    have w2:=bD (n:=i) (by omega)
    have hs:iK r.l (i:Int) (.i (r.at (j:Int)).n)=r.l.set i l0[j]:=by rw [xK,hx,← hn _ (List.getElem_mem hj0)]
    obtain⟨n,r',q1,q2,q3,ih⟩:=Aa r0 t l0 hl hn y2 y3 y4 y5 y6 y7 y8 y9 qG qF qE m (i+1) (j+1) (dL (iK r.l (i:Int) (.i (r.at (j:Int)).n))) (by rw [aZ,iT,hr]) (by omega) (by omega)
     (by rw [aZ,hs,List.drop_set_of_lt (by omega),h3'])
     (by rw [aZ,hs,List.take_succ_eq_append_getElem (by rw [List.length_set]; omega),List.take_set_of_le (Nat.le_refl _),List.getElem_set_self,h4,Cb hj0,← hx,if_neg he])
    refine⟨n,r',q1,q2,q3,?_⟩
    rw [aX,TN]
    simp only [Ku,zz,aH.den,Nat.reduceLT,c1,c2,c3,c4,if_neg he,w,w2,hr,fin,ih]
theorem arV (r:D) (t:Int) (hl:r.l.length≤140737488351232) (hn: ∀x∈r.l,x= .i x.n):(wo t r.l=r.l∧∀y2 y3 y4 y5 y6 y7 y8 y9 qG qF qE:Int,L 12100 [enc r,t,y2,y3,y4,y5,y6,y7,y8,y9,qG,qF,qE]=some [0,enc r,t,y2,y3,y4,y5,y6,y7,y8,y9,qG,qF,qE])∨
 ∀y2 y3 y4 y5 y6 y7 y8 y9 qG qF qE:Int,∃(n:Nat) (r':D),n < r.l.length∧r'.l.length=r.l.length∧r'.l.take n=wo t r.l∧L 12100 [enc r,t,y2,y3,y4,y5,y6,y7,y8,y9,qG,qF,qE]=some [1,enc r,t,y2,y3,y4,y5,y6,y7,y8,y9,qG,qF,qE,(n:Int),enc r',(r.l.length:Int)]:=by
 have h:=apY r t hl
 rcases wC r t with ⟨hp,hno⟩ | ⟨i,hi,hp,hat,hno⟩
 ·refine .inl ⟨Jt hno,fun y2 y3 y4 y5 y6 y7 y8 y9 qG qF qE=>?_⟩
  have h':=h y2 y3 y4 y5 y6 y7 y8 y9 qG qF qE
  clear h
  rw [hp] at h'
  rw [aX,Yu,Rz,eF,if_pos,eF,if_pos,eF,if_pos]
  ·simp only [kQ,List.map,bW,bK,aN,aO,Nat.reduceLT,fin]
  ·simp only [Qnf,iU,bW,gQ,iI,List.map,bK,Nat.reduceLT,aN,aO]
   rw [h']
   simp only [aN,aO,Option.isSome_some,Option.getD_some,if_true]
  ·simp only [iU,bW,gQ,iI,List.map,bK,Nat.reduceLT,aN,aO]
   rw [h']
   simp only [aN,aO,Option.isSome_some,Option.getD_some,if_true]
  ·simp only [iU,bW,gQ,iI,List.map,bK,Nat.reduceLT,aN,aO]
   rw [h']
   simp only [aN,aO,Option.isSome_some,Option.getD_some,if_true]
 ·refine .inr fun y2 y3 y4 y5 y6 y7 y8 y9 qG qF qE=>?_
  have h':=h y2 y3 y4 y5 y6 y7 y8 y9 qG qF qE
  clear h
  rw [hp] at h'
  have w:=bD (n:=i) (by omega)
  have h0:r.l.take i=wo t (r.l.take (i+1)):=by rw [Cb hi,if_pos hat,Jt hno]
  obtain⟨n,r',q1,q2,q3,ih⟩:=Aa r t r.l hl hn y2 y3 y4 y5 y6 y7 y8 y9 qG qF qE (r.l.length - (i+1)) i (i+1) r rfl (by omega) (by omega) rfl h0
  refine⟨n,r',q1,q2,q3,?_⟩
  rw [aX,Yu,Rz,eF,if_pos,eF,if_pos,eF,if_neg]
  ·simp only [qH,List.map,Qnf,bW,gQ,BJ,den_add,bK,aN,aO,Nat.reduceLT]
   rw [h']
   simp only [aN,aO,Option.getD_some,w,fin]
   rw [ih]
  ·simp only [Qnf,iU,bW,gQ,iI,List.map,bK,Nat.reduceLT,aN,aO]
   rw [h']
   simp only [aN,aO,Option.isSome_some,Option.getD_some,if_true]
   omega
  ·simp only [iU,bW,gQ,iI,List.map,bK,Nat.reduceLT,aN,aO]
   rw [h']
   simp only [aN,aO,Option.isSome_some,Option.getD_some,if_true]
  ·simp only [iU,bW,gQ,iI,List.map,bK,Nat.reduceLT,aN,aO]
   rw [h']
   simp only [aN,aO,Option.isSome_some,Option.getD_some,if_true]
theorem arU (r:D) (t:Int): ∀y2 y3 y4 y5 y6 y7 y8 y9 qG qF qE:Int,L 12200 [enc r,t,y2,y3,y4,y5,y6,y7,y8,y9,qG,qF,qE]=some [0,enc r,t,y2,y3,y4,y5,y6,y7,y8,y9,qG,qF,qE]:=by
 intro y2 y3 y4 y5 y6 y7 y8 y9 qG qF qE
 have h:L 12250 [enc r,t,y2,y3,y4,y5,y6,y7,y8,y9,qG,qF,qE]=some [0,enc r,t,y2,y3,y4,y5,y6,y7,y8,y9,qG,qF,qE]:=by
  rw [aX,amB]
  simp only [Xk,zz,aH.den,Nat.reduceLT,fin]
  rw [aX,amA]
  simp only [Xj,zz,aH.den,Nat.reduceLT,fin]
 have h':=h
 clear h
 rw [aX,amC,Xl,eF,if_pos,eF,if_pos]
 ·simp only [kQ,List.map,bW,bK,aN,aO,Nat.reduceLT,fin]
 ·simp only [iU,bW,gQ,iI,List.map,bK,Nat.reduceLT,aN,aO]
  rw [h']
  simp only [aN,aO,Option.isSome_some,Option.getD_some,if_true]
 ·simp only [iU,bW,gQ,iI,List.map,bK,Nat.reduceLT,aN,aO]
  rw [h']
  simp only [aN,aO,Option.isSome_some,Option.getD_some,if_true]
theorem arT (r:D) (t:Int): ∀y2 y3 y4 y5 y6 y7 y8 y9 qG qF qE:Int,L 12300 [enc r,t,y2,y3,y4,y5,y6,y7,y8,y9,qG,qF,qE]=some [0,enc r,t,y2,y3,y4,y5,y6,y7,y8,y9,qG,qF,qE]:=by
 intro y2 y3 y4 y5 y6 y7 y8 y9 qG qF qE
 have h:L 12350 [enc r,t,y2,y3,y4,y5,y6,y7,y8,y9,qG,qF,qE]=some [0,enc r,t,y2,y3,y4,y5,y6,y7,y8,y9,qG,qF,qE]:=by
  rw [aX,alY]
  simp only [Xh,zz,aH.den,Nat.reduceLT,fin]
  rw [aX,alX]
  simp only [Xg,zz,aH.den,Nat.reduceLT,fin]
 have h':=h
 clear h
 rw [aX,alZ,Xi,eF,if_pos,eF,if_pos]
 ·simp only [kQ,List.map,bW,bK,aN,aO,Nat.reduceLT,fin]
 ·simp only [iU,bW,gQ,iI,List.map,bK,Nat.reduceLT,aN,aO]
  rw [h']
  simp only [aN,aO,Option.isSome_some,Option.getD_some,if_true]
 ·simp only [iU,bW,gQ,iI,List.map,bK,Nat.reduceLT,aN,aO]
  rw [h']
  simp only [aN,aO,Option.isSome_some,Option.getD_some,if_true]
end Go.As.Try
end
section
namespace Go.As.Try
open Go hiding Stat Spec shape
open Go.As
set_option maxRecDepth 100000
abbrev Mx (d0:D) (obj:Int):Int:=((d0.at obj).hd 2).n
abbrev Mo (d0 s:D) (obj:Int):Int:=((s.at ((d0.at obj).hd 2).n).hd 0).n
inductive Act where
 | blk
 | mis
 | res (o c dn g:Int) (r v:D) (m:Option Int) (a oc:Int)
def act (M mo th op arg tries o c dn g:Int) (r v:D):Act:=
 if op=1 then (if o=th then .mis else if place r th < 0 then (if o < 0 then .res th c dn g r v none 0 2 else .blk) else .mis)
 else if op=2 then (if o=th then .res (-1) c dn g r v none 0 2 else .mis)
 else if op=8 then (if o=th then .res (-1) c dn g r v none 0 2 else .mis)
 else if op=3 then (if o < 0 then .res th c dn g r v none 1 2 else .res o c dn g r v none 0 2)
 else if op=4 then (if o < 0 then .res th c dn g r v none 1 2 else if tries < arg then .blk else .res o c dn g r v none 0 2)
 else if op=5 then (if o=th then .mis else if place r th < 0 then (if o < 0 then .res o c dn g (dL (r.l++ [.i th])) v none 0 2 else .blk) else .mis)
 else if op=6 then (if place r th < 0 then .mis else .res o c dn g (fQ (.i 2) (r.l.take (place r th).toNat++r.l.drop ((place r th).toNat+1))) v none 0 2)
 else if op=7 then (if o=th then .mis else if place r th < 0 then (if (r.l.length:Int)=0 then (if o < 0 then .res th c dn g r v none 0 2 else .blk) else .blk) else .mis)
 else if op=9 then (if 0 < c then .res o (IntKind.i64.wrap (c - 1)) dn g r v none 0 2 else .blk)
 else if op=11 then (if 0 < c then .res o (IntKind.i64.wrap (c - 1)) dn g r v none 1 2 else .res o c dn g r v none 0 2)
 else if op=10 then (if c < M then .res o (IntKind.i64.wrap (c+1)) dn g r v none 0 2 else .mis)
 else if op=17 then (if arg < IntKind.i64.wrap (0 - c) then .mis else if IntKind.i64.wrap (1099511627776 - c) < arg then .mis else .res o (IntKind.i64.wrap (c+arg)) dn g r v none (IntKind.i64.wrap (c+arg)) 2)
 else if op=18 then (if 0 < c then .res o (IntKind.i64.wrap (c - 1)) dn g r v none (IntKind.i64.wrap (c - 1)) 2 else .mis)
 else if op=19 then (if c=0 then .res o c dn g r v none 0 2 else .blk)
 else if op=22 then .res o c dn g r v none c 2
 else if op=23 then .res o arg dn g r v none arg 2
 else if op=20 then (if (v.l.length:Int) < M then .res o c dn g r (dL (v.l++ [.i arg])) none arg 2 else .blk)
 else if op=21 then (if (v.l.length:Int)=0 then .blk else .res o c dn g r (fQ v (v.l.drop 1)) none (v.at 0).n 2)
 else if op=12 then (if mo=th then .res o c dn g (dL (wo th r.l++ [.i th])) v (some (-1)) 0 3 else .mis)
 else if op=13 then (if (r.l.length:Int)=0 then .res o c dn g r v none 0 2 else .res o c dn g (fQ r (r.l.drop 1)) v none (IntKind.i64.wrap ((r.at 0).n+1)) 2)
 else if op=14 then .res o c dn g (.i 1) v none (r.l.length:Int) 2
 else if op=24 then (if place r th < 0 then (if mo < 0 then .res o c dn g r v (some th) 0 2 else .blk) else .blk)
 else if op=15 then (if g < 4611686018427387904 then (if IntKind.i64.wrap (c+1)=M then .res o 0 dn (IntKind.i64.wrap (g+1)) r v none g 3 else .res o (IntKind.i64.wrap (c+1)) dn g r v none g 3) else .mis)
 else if op=25 then (if arg < g then .res o c dn g r v none arg 2 else .blk)
 else if op=16 then (if dn=0 then (if o=th then .mis else if o < 0 then .res th c dn g r v none 1 2 else .blk) else .res o c dn g r v none 0 2)
 else (if o=th then .res (-1) c 1 g r v none 0 2 else .mis)
def abV (s:D) (obj M:Int):Act→D
 | .res o c dn g r v m _ _=>dL (iK (match m with | none=>s.l | some q=>iK s.l M (dL (iK (s.at M).l 0 (.i q)))) obj (dL [.i o,.i c,.i (if dn=0 then 0 else 1),.i g,r,v]))
 | _=>s
def outA (s:D) (th op obj M:Int):Act→List Int
 | .blk=>[enc s,0,0,0,0,0,0]
 | .mis=>[enc s,th,27,obj,IntKind.i64.wrap op,0,2]
 | .res o c dn g r v m a oc=>[enc (abV s obj M (.res o c dn g r v m a oc)),th,op,obj,a,0,oc]
structure TH (d0 d1 s:D) (th op obj arg tries o c dn g:Int) (r v:D):Prop where
 hcp:L 9000 [obj,enc s]=some [oP r v,obj,enc s,o,c,dn,g,enc r,enc v]
 iW:L 550 [enc s]=some [enc s]
 hR:L 350 [enc d0,enc d1,enc s]=some [1]
 FH:0≤th
 FD:th < (d1.l.length:Int)
 Bq:0≤obj
 Bo:obj < (s.l.length:Int)
 hlen:s.l.length=d0.l.length
 hk:L 600 [op]=some [((d0.at obj).hd 0).n]
 hr:(r.l.length:Int) < 17592186044415
 hv:(v.l.length:Int) < 17592186044415
 hn: ∀x∈r.l,x= .i x.n
 hM:op=12∨op=24→0≤((d0.at obj).hd 2).n∧((d0.at obj).hd 2).n < (s.l.length:Int)∧((d0.at obj).hd 2).n≠obj
noncomputable abbrev dH (d0 d1 s:D) (th op obj arg tries:Int):Nat→Int:=dB L (low [enc d0,enc d1,enc s,th,op,obj,arg,tries])
abbrev aY (k:Nat):SE:=rr 9000 [.aC 5,.aC 2] k
abbrev XE:SE:=nm (ce 2 (el (.aC 0) (.aC 5)))
abbrev kK:SE:=rr 850 [aY 7,.aC 3] 0
abbrev abL (q:SE):SE:=.op .set (aY 2) (cn (mk XE) (.op .set (el (aY 2) XE) (cn (.dat (.i 0)) q)))
abbrev xE:List SE:=[aY 7,.aC 3,.aC 5,XE,abL (.dat (.i (-1))),.aC 4,.aC 6,.aC 7,aY 3,aY 4,aY 5,aY 6,aY 8]
abbrev thg (o c d g r v:SE):SE:=cn (mk (.aC 5)) (cn o (cn c (cn d (cn g (cn r (cn v (.dat (.i 0))))))))
abbrev wU:T Lf:=ou [rr 550 [.aC 2] 0,.aC 3,.lit 27,.aC 5,wr (.aC 4),.lit 0,.lit 2]
abbrev Dx:T Lf:=ou [rr 550 [.aC 2] 0,.lit 0,.lit 0,.lit 0,.lit 0,.lit 0,.lit 0]
abbrev lT (z o c d g r v a:SE) (oc:Int):T Lf:=ou [.op .set z (thg o c d g r v),.aC 3,.aC 4,.aC 5,a,.lit 0,.lit oc]
theorem CO {r:D} (h:r.l= []) (t:Int):place r t= -1:=by unfold place; rw [h]; rfl
theorem awU {r:D} (h:r.l= []) (t:Int):wo t r.l= []:=by rw [h]; rfl
theorem alt3 {r v:D} (h:0 < r.l.length) (h':0 < v.l.length):oP r v=3:=by simp [oP,h,h']
theorem aEf {r v:D} (h:0 < r.l.length) (h':v.l= []):oP r v=4:=by simp [oP,h,h']
theorem aEe {r v:D} (h:r.l= []) (h':0 < v.l.length):oP r v=5:=by simp [oP,h,h']
theorem aEd {r v:D} (h:r.l= []) (h':v.l= []):oP r v=6:=by simp [oP,h,h']
abbrev Gl (d0 s:D) (th op obj arg tries o c dn g:Int) (r v:D):RS:=.out (outA s th op obj (Mx d0 obj) (act (Mx d0 obj) (Mo d0 s obj) th op arg tries o c dn g r v))
theorem dG (s:D) (th op obj M:Int):outA s th op obj M .blk= [enc s,0,0,0,0,0,0]:=rfl
theorem dF (s:D) (th op obj M:Int):outA s th op obj M .mis= [enc s,th,27,obj,IntKind.i64.wrap op,0,2]:=rfl
theorem bQ (s:D) (th op obj M o c dn g:Int) (r v:D) (a oc:Int):outA s th op obj M (.res o c dn g r v none a oc)= [enc (dL (iK s.l obj (dL [.i o,.i c,.i (if dn=0 then 0 else 1),.i g,r,v]))),th,op,obj,a,0,oc]:=rfl
theorem bP (s:D) (th op obj M o c dn g:Int) (r v:D) (q a oc:Int):outA s th op obj M (.res o c dn g r v (some q) a oc)= [enc (dL (iK (iK s.l M (dL (iK (s.at M).l 0 (.i q)))) obj (dL [.i o,.i c,.i (if dn=0 then 0 else 1),.i g,r,v]))),th,op,obj,a,0,oc]:=rfl
section
variable {s:D} {th op obj M:Int}
theorem fA {c:Prop} [Decidable c] {a b:Act}:RS.out (outA s th op obj M (if c then a else b))=if c then RS.out (outA s th op obj M a) else RS.out (outA s th op obj M b):=by split <;> rfl
end
theorem AA {p:Prop} [Decidable p]:((if p then (0:Int) else 1)=0)=p:=by by_cases h:p <;> simp [h]
theorem kS (l:List D):l= []∨0 < l.length:=by cases l <;> simp
theorem z2 {ρ:Nat→Int} {a b c d:List SB} (h:zY ρ a∧zW ρ b) (h':zY ρ c∧zW ρ d):zY ρ (a++c)∧zW ρ (b++d):=⟨aeC h.1 h'.1,aeF h.2 h'.2⟩
end Go.As.Try
end
section
namespace Go.As.Try
open Go hiding Stat Spec shape
open Go.As
set_option maxRecDepth 100000
abbrev bt:SE:=.op .bit (mk (aY 5)) (.lit 0)
abbrev kW:SE:=wr (.add kK (.lit 1))
abbrev kL:SE:=.sub (ln (aY 7)) kW
abbrev kD:SE:=.add kK kL
abbrev kC:SE:=.op .cat (.op .cat (.op .take (aY 7) kK) (.op .drop (.op .take (aY 7) (.add kW kL)) kW)) (.op .drop (aY 7) kD)
abbrev kF:SE:=.op .fill kC (cn (mk kD) (.dat (.i 0)))
section
variable {d0 d1 s r v:D} {th op obj arg tries o c dn g:Int}
abbrev YG:List SB:=[.eq (a0 9000 [.aC 5,.aC 2]) (.lit 1),.eq (a0 350 [.aC 0,.aC 1,.aC 2]) (.lit 1),.eq (a0 600 [.aC 4]) (.lit 1),.eq (a0 550 [.aC 2]) (.lit 1),.eq (a0 900 [aY 7,.aC 3]) (.lit 1),.eq (a0 850 [aY 7,.aC 3]) (.lit 1),.lt (.aC 3) (ln (.aC 1)),.lt (.aC 5) (ln (.aC 0)),.lt (.aC 5) (ln (aY 2)),.eq (rr 600 [.aC 4] 0) (nm (ce 0 (el (.aC 0) (.aC 5)))),.lt (ln (aY 7)) (.lit 17592186044415),.lt (ln (aY 8)) (.lit 17592186044415)]
abbrev NG:List SB:=[.lt (.aC 5) (.lit 0),.eq (rr 350 [.aC 0,.aC 1,.aC 2] 0) (.lit 0),.lt (.aC 3) (.lit 0),.lt (ln (aY 7)) (ln (aY 7)),.lt (ln (aY 8)) (.add (.lit 1) (.sub (ln (aY 8)) (.lit 1))),.lt (ln (aY 7)) (.add (.lit 1) (.sub (ln (aY 7)) (.lit 1)))]
theorem fG (H:TH d0 d1 s th op obj arg tries o c dn g r v):zY (dH d0 d1 s th op obj arg tries) YG∧zW (dH d0 d1 s th op obj arg tries) NG:=by
 have hb:r.l.length≤140737488351232:=by have:=H.hr; omega
 have h1:=H.FH; have h2:=H.FD; have h3:=H.Bq; have h4:=H.Bo; have h5:=H.hlen; have h6:=H.hr; have h7:=H.hv; have hp:=iQ r th
 simp only [zz,aH.den,Nat.reduceLT,H.hcp,H.iW,H.hR,H.hk,has_is r th hb,dM r th hb] <;> omega
abbrev YA3:List SB:=[.eq (aY 0) (.lit 3)]
abbrev NA3:List SB:=[.eq (aY 0) (.lit 0),.eq (aY 0) (.lit 1),.eq (aY 0) (.lit 2),.eq (aY 0) (.lit 4),.eq (aY 0) (.lit 5),.eq (aY 0) (.lit 6),.lt (.sub (ln (aY 7)) (.lit 1)) (.lit 0),.lt (.sub (ln (aY 8)) (.lit 1)) (.lit 0)]
theorem fA3 (H:TH d0 d1 s th op obj arg tries o c dn g r v) (hr:0 < r.l.length) (hv:0 < v.l.length):zY (dH d0 d1 s th op obj arg tries) YA3∧zW (dH d0 d1 s th op obj arg tries) NA3:=by
 have hb:r.l.length≤140737488351232:=by have:=H.hr; omega
 have h1:=H.FH; have h2:=H.FD; have h3:=H.Bq; have h4:=H.Bo; have h5:=H.hlen; have h6:=H.hr; have h7:=H.hv; have hp:=iQ r th
 simp only [zz,aH.den,Nat.reduceLT,H.hcp,H.iW,H.hR,H.hk,has_is r th hb,dM r th hb,alt3 hr hv] <;> omega
abbrev YA4:List SB:=[.eq (aY 0) (.lit 4)]
abbrev NA4:List SB:=[.eq (aY 0) (.lit 0),.eq (aY 0) (.lit 1),.eq (aY 0) (.lit 2),.eq (aY 0) (.lit 3),.eq (aY 0) (.lit 5),.eq (aY 0) (.lit 6),.lt (.sub (ln (aY 7)) (.lit 1)) (.lit 0)]
theorem fA4 (H:TH d0 d1 s th op obj arg tries o c dn g r v) (hr:0 < r.l.length) (hv:v.l= []):zY (dH d0 d1 s th op obj arg tries) YA4∧zW (dH d0 d1 s th op obj arg tries) NA4:=by
 have hb:r.l.length≤140737488351232:=by have:=H.hr; omega
 have h1:=H.FH; have h2:=H.FD; have h3:=H.Bq; have h4:=H.Bo; have h5:=H.hlen; have h6:=H.hr; have h7:=H.hv; have hp:=iQ r th
 simp only [zz,aH.den,Nat.reduceLT,H.hcp,H.iW,H.hR,H.hk,has_is r th hb,dM r th hb,aEf hr hv] <;> omega
abbrev YA5:List SB:=[.eq (aY 0) (.lit 5),.lt kK (.lit 0)]
abbrev NA5:List SB:=[.eq (aY 0) (.lit 0),.eq (aY 0) (.lit 1),.eq (aY 0) (.lit 2),.eq (aY 0) (.lit 3),.eq (aY 0) (.lit 4),.eq (aY 0) (.lit 6),.lt (.sub (ln (aY 8)) (.lit 1)) (.lit 0)]
theorem fA5 (H:TH d0 d1 s th op obj arg tries o c dn g r v) (hr:r.l= []) (hv:0 < v.l.length):zY (dH d0 d1 s th op obj arg tries) YA5∧zW (dH d0 d1 s th op obj arg tries) NA5:=by
 have hb:r.l.length≤140737488351232:=by have:=H.hr; omega
 have h1:=H.FH; have h2:=H.FD; have h3:=H.Bq; have h4:=H.Bo; have h5:=H.hlen; have h6:=H.hr; have h7:=H.hv; have hp:=iQ r th
 simp only [zz,aH.den,Nat.reduceLT,H.hcp,H.iW,H.hR,H.hk,has_is r th hb,dM r th hb,aEe hr hv,CO hr] <;> omega
abbrev YA6:List SB:=[.eq (aY 0) (.lit 6),.lt kK (.lit 0)]
abbrev NA6:List SB:=[.eq (aY 0) (.lit 0),.eq (aY 0) (.lit 1),.eq (aY 0) (.lit 2),.eq (aY 0) (.lit 3),.eq (aY 0) (.lit 4),.eq (aY 0) (.lit 5)]
theorem fA6 (H:TH d0 d1 s th op obj arg tries o c dn g r v) (hr:r.l= []) (hv:v.l= []):zY (dH d0 d1 s th op obj arg tries) YA6∧zW (dH d0 d1 s th op obj arg tries) NA6:=by
 have hb:r.l.length≤140737488351232:=by have:=H.hr; omega
 have h1:=H.FH; have h2:=H.FD; have h3:=H.Bq; have h4:=H.Bo; have h5:=H.hlen; have h6:=H.hr; have h7:=H.hv; have hp:=iQ r th
 simp only [zz,aH.den,Nat.reduceLT,H.hcp,H.iW,H.hR,H.hk,has_is r th hb,dM r th hb,aEd hr hv,CO hr] <;> omega
abbrev YM:List SB:=[.lt XE (ln (aY 2))]
abbrev NM:List SB:=[.lt XE (.lit 0),.eq XE (.aC 5)]
theorem fM (H:TH d0 d1 s th op obj arg tries o c dn g r v) (ho:op=12∨op=24):zY (dH d0 d1 s th op obj arg tries) YM∧zW (dH d0 d1 s th op obj arg tries) NM:=by
 have hb:r.l.length≤140737488351232:=by have:=H.hr; omega
 have h1:=H.FH; have h2:=H.FD; have h3:=H.Bq; have h4:=H.Bo; have h5:=H.hlen; have h6:=H.hr; have h7:=H.hv; have hp:=iQ r th; have hm:=H.hM ho
 simp only [zz,aH.den,Nat.reduceLT,H.hcp,H.iW,H.hR,H.hk,has_is r th hb,dM r th hb] <;> omega
abbrev YK0:List SB:=[.lt kK (.lit 0)]
abbrev NK0:List SB:=[]
theorem fK0 (H:TH d0 d1 s th op obj arg tries o c dn g r v) (hk:place r th < 0):zY (dH d0 d1 s th op obj arg tries) YK0∧zW (dH d0 d1 s th op obj arg tries) NK0:=by
 have hb:r.l.length≤140737488351232:=by have:=H.hr; omega
 have h1:=H.FH; have h2:=H.FD; have h3:=H.Bq; have h4:=H.Bo; have h5:=H.hlen; have h6:=H.hr; have h7:=H.hv; have hp:=iQ r th
 simp only [zz,aH.den,Nat.reduceLT,H.hcp,H.iW,H.hR,H.hk,has_is r th hb,dM r th hb] <;> omega
abbrev YK1:List SB:=[.lt kD (ln (aY 7)),.eq (.add kD (.sub (ln (aY 7)) kD)) (ln kC)]
abbrev NK1:List SB:=[.lt kK (.lit 0),.lt kW kK,.lt (ln (aY 7)) kW,.eq kK kW,.lt (ln (aY 7)) kK,.lt kW (.lit 0),.lt kL (.lit 0),.lt (ln (aY 7)) (.add kW kL),.lt (ln (aY 7)) kD,.lt kD (.lit 0),.lt (ln kC) (ln (aY 7)),.lt (.sub (ln (aY 7)) kD) (.lit 0),.lt (ln kF) kD]
theorem fK1 (H:TH d0 d1 s th op obj arg tries o c dn g r v) (hk: ¬place r th < 0):zY (dH d0 d1 s th op obj arg tries) YK1∧zW (dH d0 d1 s th op obj arg tries) NK1:=by
 have hb:r.l.length≤140737488351232:=by have:=H.hr; omega
 have h1:=H.FH; have h2:=H.FD; have h3:=H.Bq; have h4:=H.Bo; have h5:=H.hlen; have h6:=H.hr; have h7:=H.hv; have hp:=iQ r th; have hw:IntKind.i64.wrap (place r th+1)=place r th+1:=qV (by omega) (by omega)
 simp only [zz,aH.den,Nat.reduceLT,H.hcp,H.iW,H.hR,H.hk,has_is r th hb,dM r th hb,gI,aZ,List.length_append,List.length_take,List.length_drop,List.length_replicate,hw] <;> omega
abbrev dA (d0 s r v:D) (th op obj arg tries o c dn g:Int):List Int:=[enc r,th,obj,Mx d0 obj,enc (dL (iK s.l (Mx d0 obj) (dL (iK (s.at (Mx d0 obj)).l 0 (.i (-1)))))),op,arg,tries,o,c,dn,g,enc v]
abbrev aEk:List SB:=[.eq (a0 12000 xE) (.lit 1),.eq (rr 12000 xE 0) (.lit 0)]
abbrev aEq:List SB:=[]
theorem aEa (H:TH d0 d1 s th op obj arg tries o c dn g r v) (hd:L 12000 (dA d0 s r v th op obj arg tries o c dn g)=some (0 :: (dA d0 s r v th op obj arg tries o c dn g))):zY (dH d0 d1 s th op obj arg tries) aEk∧zW (dH d0 d1 s th op obj arg tries) aEq:=by
 have hb:r.l.length≤140737488351232:=by have:=H.hr; omega
 have h1:=H.FH; have h2:=H.FD; have h3:=H.Bq; have h4:=H.Bo; have h5:=H.hlen; have h6:=H.hr; have h7:=H.hv; have hp:=iQ r th
 simp only [zz,aH.den,Nat.reduceLT,H.hcp,H.iW,H.hR,H.hk,has_is r th hb,dM r th hb,hd] <;> omega
abbrev aEl:List SB:=[.eq (a0 12000 xE) (.lit 1),.eq (rr 12000 xE 0) (.lit 1)]
abbrev aEr:List SB:=[.eq (rr 12000 xE 0) (.lit 0),.lt (rr 12000 xE 14) (.lit 0),.lt (ln (rr 12000 xE 15)) (.add (rr 12000 xE 14) (.lit 1)),.lt (.add (rr 12000 xE 14) (.lit 1)) (.lit 0),.lt (ln (.op .cat (.op .cat (.op .take (rr 12000 xE 15) (rr 12000 xE 14)) (.op .snoc (.dat (.i 0)) (mk (.aC 3)))) (.op .drop (rr 12000 xE 15) (.add (rr 12000 xE 14) (.lit 1))))) (.add (rr 12000 xE 14) (.lit 1))]
theorem aEb (H:TH d0 d1 s th op obj arg tries o c dn g r v) {n:Nat} {r1:D} (hn:n < r.l.length) (hl:r1.l.length=r.l.length) (hd:L 12000 (dA d0 s r v th op obj arg tries o c dn g)=some (1 :: ((dA d0 s r v th op obj arg tries o c dn g)++ [(n:Int),enc r1,(r.l.length:Int)]))):zY (dH d0 d1 s th op obj arg tries) aEl∧zW (dH d0 d1 s th op obj arg tries) aEr:=by
 have hb:r.l.length≤140737488351232:=by have:=H.hr; omega
 have h1:=H.FH; have h2:=H.FD; have h3:=H.Bq; have h4:=H.Bo; have h5:=H.hlen; have h6:=H.hr; have h7:=H.hv; have hp:=iQ r th
 simp only [zz,aH.den,Nat.reduceLT,H.hcp,H.iW,H.hR,H.hk,has_is r th hb,dM r th hb,hd,gI,aZ,Es,List.cons_append,List.nil_append,List.length_append,List.length_take,List.length_drop,List.length_cons,List.length_nil] <;> omega
abbrev aEi:List SB:=[.eq (a0 12100 xE) (.lit 1),.eq (rr 12100 xE 0) (.lit 0)]
abbrev aEo:List SB:=[]
theorem aD8 (H:TH d0 d1 s th op obj arg tries o c dn g r v) (hd:L 12100 (dA d0 s r v th op obj arg tries o c dn g)=some (0 :: (dA d0 s r v th op obj arg tries o c dn g))):zY (dH d0 d1 s th op obj arg tries) aEi∧zW (dH d0 d1 s th op obj arg tries) aEo:=by
 have hb:r.l.length≤140737488351232:=by have:=H.hr; omega
 have h1:=H.FH; have h2:=H.FD; have h3:=H.Bq; have h4:=H.Bo; have h5:=H.hlen; have h6:=H.hr; have h7:=H.hv; have hp:=iQ r th
 simp only [zz,aH.den,Nat.reduceLT,H.hcp,H.iW,H.hR,H.hk,has_is r th hb,dM r th hb,hd] <;> omega
abbrev aEj:List SB:=[.eq (a0 12100 xE) (.lit 1),.eq (rr 12100 xE 0) (.lit 1)]
abbrev aEp:List SB:=[.eq (rr 12100 xE 0) (.lit 0),.lt (rr 12100 xE 14) (.lit 0),.lt (ln (rr 12100 xE 15)) (.add (rr 12100 xE 14) (.lit 1)),.lt (.add (rr 12100 xE 14) (.lit 1)) (.lit 0),.lt (ln (.op .cat (.op .cat (.op .take (rr 12100 xE 15) (rr 12100 xE 14)) (.op .snoc (.dat (.i 0)) (mk (.aC 3)))) (.op .drop (rr 12100 xE 15) (.add (rr 12100 xE 14) (.lit 1))))) (.add (rr 12100 xE 14) (.lit 1))]
theorem aD9 (H:TH d0 d1 s th op obj arg tries o c dn g r v) {n:Nat} {r1:D} (hn:n < r.l.length) (hl:r1.l.length=r.l.length) (hd:L 12100 (dA d0 s r v th op obj arg tries o c dn g)=some (1 :: ((dA d0 s r v th op obj arg tries o c dn g)++ [(n:Int),enc r1,(r.l.length:Int)]))):zY (dH d0 d1 s th op obj arg tries) aEj∧zW (dH d0 d1 s th op obj arg tries) aEp:=by
 have hb:r.l.length≤140737488351232:=by have:=H.hr; omega
 have h1:=H.FH; have h2:=H.FD; have h3:=H.Bq; have h4:=H.Bo; have h5:=H.hlen; have h6:=H.hr; have h7:=H.hv; have hp:=iQ r th
 simp only [zz,aH.den,Nat.reduceLT,H.hcp,H.iW,H.hR,H.hk,has_is r th hb,dM r th hb,hd,gI,aZ,Es,List.cons_append,List.nil_append,List.length_append,List.length_take,List.length_drop,List.length_cons,List.length_nil] <;> omega
abbrev aEh:List SB:=[.eq (a0 12200 xE) (.lit 1),.eq (rr 12200 xE 0) (.lit 0)]
abbrev aEn:List SB:=[]
theorem aD7 (H:TH d0 d1 s th op obj arg tries o c dn g r v) (hd:L 12200 (dA d0 s r v th op obj arg tries o c dn g)=some (0 :: (dA d0 s r v th op obj arg tries o c dn g))):zY (dH d0 d1 s th op obj arg tries) aEh∧zW (dH d0 d1 s th op obj arg tries) aEn:=by
 have hb:r.l.length≤140737488351232:=by have:=H.hr; omega
 have h1:=H.FH; have h2:=H.FD; have h3:=H.Bq; have h4:=H.Bo; have h5:=H.hlen; have h6:=H.hr; have h7:=H.hv; have hp:=iQ r th
 simp only [zz,aH.den,Nat.reduceLT,H.hcp,H.iW,H.hR,H.hk,has_is r th hb,dM r th hb,hd] <;> omega
abbrev aEg:List SB:=[.eq (a0 12300 xE) (.lit 1),.eq (rr 12300 xE 0) (.lit 0)]
abbrev aEm:List SB:=[]
theorem aD6 (H:TH d0 d1 s th op obj arg tries o c dn g r v) (hd:L 12300 (dA d0 s r v th op obj arg tries o c dn g)=some (0 :: (dA d0 s r v th op obj arg tries o c dn g))):zY (dH d0 d1 s th op obj arg tries) aEg∧zW (dH d0 d1 s th op obj arg tries) aEm:=by
 have hb:r.l.length≤140737488351232:=by have:=H.hr; omega
 have h1:=H.FH; have h2:=H.FD; have h3:=H.Bq; have h4:=H.Bo; have h5:=H.hlen; have h6:=H.hr; have h7:=H.hv; have hp:=iQ r th
 simp only [zz,aH.den,Nat.reduceLT,H.hcp,H.iW,H.hR,H.hk,has_is r th hb,dM r th hb,hd] <;> omega
end
end Go.As.Try
end
section
namespace Go.As.Try
open Go hiding Stat Spec shape
open Go.As
set_option maxRecDepth 100000
theorem Nv (l m:List D):fQ (dL l) m=fQ (.i 2) m:=by
 cases m with
 | cons a m=>rfl
 | nil=>cases l <;> rfl
theorem YT (d:D) (h:0 < d.l.length):fQ (fQ d (d.l.take (1+((d.l.length:Int) - 1)).toNat)) ((fQ d (d.l.take (1+((d.l.length:Int) - 1)).toNat)).l.drop (1:Int).toNat)=fQ d (d.l.drop 1):=by
 rw [vP (fun e=>by rw [e]; rfl),gI,List.take_of_length_le (by omega)]
 rfl
theorem aAW (l:List D) (k:Nat) (hk:k < l.length) (R B:List D):((l.take k++(l.take l.length).drop (k+1)++B).take (l.length - 1)++R).take (l.length - 1)=l.take k++l.drop (k+1)∨B.length=0:=by
 by_cases hB:B.length=0
 ·exact .inr hB
 ·left
  have e:(l.take k++(l.take l.length).drop (k+1)).length=l.length - 1:=by simp only [List.length_append,List.length_take,List.length_drop]; omega
  rw [List.take_append_of_le_length (by rw [List.length_take,List.length_append,e]; omega),List.take_take,Nat.min_self,List.take_append_of_le_length (by omega),List.take_of_length_le (by omega),List.take_length]
section
variable {d0 d1 s r v:D} {th op obj arg tries o c dn g:Int}
abbrev zt0:T Lf:=(sp (.eq (aY 3) (.aC 3)) wU (sp (.eq (rr 900 [aY 7,.aC 3] 0) (.lit 0)) (sp (.lt (aY 3) (.lit 0)) (lT (aY 2) (mk (.aC 3)) (mk (aY 4)) bt (mk (aY 6)) (aY 7) (aY 8) (.lit 0) 2) Dx) wU))
theorem sm0 (H:TH d0 d1 s th 1 obj arg tries o c dn g r v):dU (dH d0 d1 s th 1 obj arg tries) zt0=Gl d0 s th 1 obj arg tries o c dn g r v:=by
 have hb:r.l.length≤140737488351232:=by have:=H.hr; omega
 simp only [zz,aH.den,Nat.reduceLT,H.hcp,H.iW,H.hR,H.hk,has_is r th hb,dM r th hb,aQ,AA,fA,dG,dF,bQ,bP,dL,act,Int.reduceEq,Gl] <;> (repeat' split) <;> first | rfl | (exfalso; omega)
abbrev zt1:T Lf:=(sp (.eq (aY 3) (.aC 3)) (lT (aY 2) (.dat (.i (-1))) (mk (aY 4)) bt (mk (aY 6)) (aY 7) (aY 8) (.lit 0) 2) wU)
theorem sm1 (H:TH d0 d1 s th 2 obj arg tries o c dn g r v):dU (dH d0 d1 s th 2 obj arg tries) zt1=Gl d0 s th 2 obj arg tries o c dn g r v:=by
 have hb:r.l.length≤140737488351232:=by have:=H.hr; omega
 simp only [zz,aH.den,Nat.reduceLT,H.hcp,H.iW,H.hR,H.hk,has_is r th hb,dM r th hb,aQ,AA,fA,dG,dF,bQ,bP,dL,act,Int.reduceEq,Gl] <;> (repeat' split) <;> first | rfl | (exfalso; omega)
theorem sm2 (H:TH d0 d1 s th 8 obj arg tries o c dn g r v):dU (dH d0 d1 s th 8 obj arg tries) zt1=Gl d0 s th 8 obj arg tries o c dn g r v:=by
 have hb:r.l.length≤140737488351232:=by have:=H.hr; omega
 simp only [zz,aH.den,Nat.reduceLT,H.hcp,H.iW,H.hR,H.hk,has_is r th hb,dM r th hb,aQ,AA,fA,dG,dF,bQ,bP,dL,act,Int.reduceEq,Gl] <;> (repeat' split) <;> first | rfl | (exfalso; omega)
abbrev zt2:T Lf:=(sp (.lt (aY 3) (.lit 0)) (lT (aY 2) (mk (.aC 3)) (mk (aY 4)) bt (mk (aY 6)) (aY 7) (aY 8) (.lit 1) 2) (lT (aY 2) (mk (aY 3)) (mk (aY 4)) bt (mk (aY 6)) (aY 7) (aY 8) (.lit 0) 2))
theorem sm3 (H:TH d0 d1 s th 3 obj arg tries o c dn g r v):dU (dH d0 d1 s th 3 obj arg tries) zt2=Gl d0 s th 3 obj arg tries o c dn g r v:=by
 have hb:r.l.length≤140737488351232:=by have:=H.hr; omega
 simp only [zz,aH.den,Nat.reduceLT,H.hcp,H.iW,H.hR,H.hk,has_is r th hb,dM r th hb,aQ,AA,fA,dG,dF,bQ,bP,dL,act,Int.reduceEq,Gl] <;> (repeat' split) <;> first | rfl | (exfalso; omega)
abbrev zt3:T Lf:=(sp (.lt (aY 3) (.lit 0)) (lT (aY 2) (mk (.aC 3)) (mk (aY 4)) bt (mk (aY 6)) (aY 7) (aY 8) (.lit 1) 2) (sp (.lt (.aC 7) (.aC 6)) Dx (lT (aY 2) (mk (aY 3)) (mk (aY 4)) bt (mk (aY 6)) (aY 7) (aY 8) (.lit 0) 2)))
theorem sm4 (H:TH d0 d1 s th 4 obj arg tries o c dn g r v):dU (dH d0 d1 s th 4 obj arg tries) zt3=Gl d0 s th 4 obj arg tries o c dn g r v:=by
 have hb:r.l.length≤140737488351232:=by have:=H.hr; omega
 simp only [zz,aH.den,Nat.reduceLT,H.hcp,H.iW,H.hR,H.hk,has_is r th hb,dM r th hb,aQ,AA,fA,dG,dF,bQ,bP,dL,act,Int.reduceEq,Gl] <;> (repeat' split) <;> first | rfl | (exfalso; omega)
abbrev zt4:T Lf:=(sp (.eq (aY 3) (.aC 3)) wU (sp (.eq (rr 900 [aY 7,.aC 3] 0) (.lit 0)) (sp (.lt (aY 3) (.lit 0)) (lT (aY 2) (mk (aY 3)) (mk (aY 4)) bt (mk (aY 6)) (.op .snoc (aY 7) (mk (.aC 3))) (aY 8) (.lit 0) 2) Dx) wU))
theorem sm5 (H:TH d0 d1 s th 5 obj arg tries o c dn g r v) (hr:0 < r.l.length):dU (dH d0 d1 s th 5 obj arg tries) zt4=Gl d0 s th 5 obj arg tries o c dn g r v:=by
 have hb:r.l.length≤140737488351232:=by have:=H.hr; omega
 simp only [zz,aH.den,Nat.reduceLT,H.hcp,H.iW,H.hR,H.hk,has_is r th hb,dM r th hb,Es,List.nil_append,aQ,AA,fA,dG,dF,bQ,bP,dL,act,Int.reduceEq,Gl] <;> (repeat' split) <;> first | rfl | (exfalso; omega)
abbrev zt5:T Lf:=wU
theorem sm6 (H:TH d0 d1 s th 6 obj arg tries o c dn g r v) (hk:place r th < 0):dU (dH d0 d1 s th 6 obj arg tries) zt5=Gl d0 s th 6 obj arg tries o c dn g r v:=by
 have hb:r.l.length≤140737488351232:=by have:=H.hr; omega
 simp only [zz,aH.den,Nat.reduceLT,H.hcp,H.iW,H.hR,H.hk,has_is r th hb,dM r th hb,hk,aQ,AA,fA,dG,dF,bQ,bP,dL,act,Int.reduceEq,Gl] <;> (repeat' split) <;> first | rfl | (exfalso; omega)
abbrev zt6:T Lf:=(lT (aY 2) (mk (aY 3)) (mk (aY 4)) bt (mk (aY 6)) (.op .take kF kD) (aY 8) (.lit 0) 2)
theorem sm7 (H:TH d0 d1 s th 6 obj arg tries o c dn g r v) (hr:0 < r.l.length) (hk: ¬place r th < 0):dU (dH d0 d1 s th 6 obj arg tries) zt6=Gl d0 s th 6 obj arg tries o c dn g r v:=by
 have hb:r.l.length≤140737488351232:=by have:=H.hr; omega
 rcases wC r th with ⟨hp,_⟩ | ⟨k,hkl,hp,_⟩
 ·exact absurd hk (by rw [hp]; omega)
 have hw:IntKind.i64.wrap ((k:Int)+1)=(k:Int)+1:=qV (by omega) (by omega)
 have e1:((k:Int)+1+((r.l.length:Int) - ((k:Int)+1))).toNat=r.l.length:=by omega
 have e2:((k:Int)+((r.l.length:Int) - ((k:Int)+1))).toNat=r.l.length - 1:=by omega
 have e3:((k:Int)+1).toNat=k+1:=by omega
 have h0: ¬((k:Int) < 0):=by omega
 have hd:=fun R=>(aAW r.l k hkl R (r.l.drop (r.l.length - 1))).resolve_right (by rw [List.length_drop]; omega)
 simp only [zz,aH.den,Nat.reduceLT,H.hcp,H.iW,H.hR,H.hk,has_is r th hb,dM r th hb,hp,hw,e1,e2,e3,h0,gI,aZ,Int.toNat_natCast,hd,Nv,aQ,AA,fA,dG,dF,bQ,bP,dL,act,Int.reduceEq,Gl] <;> (repeat' split) <;> first | rfl | (exfalso; omega)
abbrev zt7:T Lf:=(sp (.eq (aY 3) (.aC 3)) wU (sp (.eq (rr 900 [aY 7,.aC 3] 0) (.lit 0)) (sp (.eq (ln (aY 7)) (.lit 0)) (sp (.lt (aY 3) (.lit 0)) (lT (aY 2) (mk (.aC 3)) (mk (aY 4)) bt (mk (aY 6)) (aY 7) (aY 8) (.lit 0) 2) Dx) Dx) wU))
theorem sm8 (H:TH d0 d1 s th 7 obj arg tries o c dn g r v) (hr:0 < r.l.length):dU (dH d0 d1 s th 7 obj arg tries) zt7=Gl d0 s th 7 obj arg tries o c dn g r v:=by
 have hb:r.l.length≤140737488351232:=by have:=H.hr; omega
 simp only [zz,aH.den,Nat.reduceLT,H.hcp,H.iW,H.hR,H.hk,has_is r th hb,dM r th hb,aQ,AA,fA,dG,dF,bQ,bP,dL,act,Int.reduceEq,Gl] <;> (repeat' split) <;> first | rfl | (exfalso; omega)
abbrev zt8:T Lf:=(sp (.lt (.lit 0) (aY 4)) (lT (aY 2) (mk (aY 3)) (mk (wr (.sub (aY 4) (.lit 1)))) bt (mk (aY 6)) (aY 7) (aY 8) (.lit 0) 2) Dx)
theorem sm9 (H:TH d0 d1 s th 9 obj arg tries o c dn g r v):dU (dH d0 d1 s th 9 obj arg tries) zt8=Gl d0 s th 9 obj arg tries o c dn g r v:=by
 have hb:r.l.length≤140737488351232:=by have:=H.hr; omega
 simp only [zz,aH.den,Nat.reduceLT,H.hcp,H.iW,H.hR,H.hk,has_is r th hb,dM r th hb,aQ,AA,fA,dG,dF,bQ,bP,dL,act,Int.reduceEq,Gl] <;> (repeat' split) <;> first | rfl | (exfalso; omega)
abbrev zt9:T Lf:=(sp (.lt (.lit 0) (aY 4)) (lT (aY 2) (mk (aY 3)) (mk (wr (.sub (aY 4) (.lit 1)))) bt (mk (aY 6)) (aY 7) (aY 8) (.lit 1) 2) (lT (aY 2) (mk (aY 3)) (mk (aY 4)) bt (mk (aY 6)) (aY 7) (aY 8) (.lit 0) 2))
theorem aDH (H:TH d0 d1 s th 11 obj arg tries o c dn g r v):dU (dH d0 d1 s th 11 obj arg tries) zt9=Gl d0 s th 11 obj arg tries o c dn g r v:=by
 have hb:r.l.length≤140737488351232:=by have:=H.hr; omega
 simp only [zz,aH.den,Nat.reduceLT,H.hcp,H.iW,H.hR,H.hk,has_is r th hb,dM r th hb,aQ,AA,fA,dG,dF,bQ,bP,dL,act,Int.reduceEq,Gl] <;> (repeat' split) <;> first | rfl | (exfalso; omega)
abbrev aBd:T Lf:=(sp (.lt (aY 4) XE) (lT (aY 2) (mk (aY 3)) (mk (wr (.add (aY 4) (.lit 1)))) bt (mk (aY 6)) (aY 7) (aY 8) (.lit 0) 2) wU)
theorem aDG (H:TH d0 d1 s th 10 obj arg tries o c dn g r v):dU (dH d0 d1 s th 10 obj arg tries) aBd=Gl d0 s th 10 obj arg tries o c dn g r v:=by
 have hb:r.l.length≤140737488351232:=by have:=H.hr; omega
 simp only [zz,aH.den,Nat.reduceLT,H.hcp,H.iW,H.hR,H.hk,has_is r th hb,dM r th hb,aQ,AA,fA,dG,dF,bQ,bP,dL,act,Int.reduceEq,Gl] <;> (repeat' split) <;> first | rfl | (exfalso; omega)
abbrev aBb:T Lf:=(sp (.lt (.aC 6) (wr (.sub (.lit 0) (aY 4)))) wU (sp (.lt (wr (.sub (.lit 1099511627776) (aY 4))) (.aC 6)) wU (lT (aY 2) (mk (aY 3)) (mk (wr (.add (aY 4) (.aC 6)))) bt (mk (aY 6)) (aY 7) (aY 8) (wr (.add (aY 4) (.aC 6))) 2)))
theorem aDF (H:TH d0 d1 s th 17 obj arg tries o c dn g r v):dU (dH d0 d1 s th 17 obj arg tries) aBb=Gl d0 s th 17 obj arg tries o c dn g r v:=by
 have hb:r.l.length≤140737488351232:=by have:=H.hr; omega
 simp only [zz,aH.den,Nat.reduceLT,H.hcp,H.iW,H.hR,H.hk,has_is r th hb,dM r th hb,aQ,AA,fA,dG,dF,bQ,bP,dL,act,Int.reduceEq,Gl] <;> (repeat' split) <;> first | rfl | (exfalso; omega)
abbrev aBa:T Lf:=(sp (.lt (.lit 0) (aY 4)) (lT (aY 2) (mk (aY 3)) (mk (wr (.sub (aY 4) (.lit 1)))) bt (mk (aY 6)) (aY 7) (aY 8) (wr (.sub (aY 4) (.lit 1))) 2) wU)
theorem aDE (H:TH d0 d1 s th 18 obj arg tries o c dn g r v):dU (dH d0 d1 s th 18 obj arg tries) aBa=Gl d0 s th 18 obj arg tries o c dn g r v:=by
 have hb:r.l.length≤140737488351232:=by have:=H.hr; omega
 simp only [zz,aH.den,Nat.reduceLT,H.hcp,H.iW,H.hR,H.hk,has_is r th hb,dM r th hb,aQ,AA,fA,dG,dF,bQ,bP,dL,act,Int.reduceEq,Gl] <;> (repeat' split) <;> first | rfl | (exfalso; omega)
abbrev aA9:T Lf:=(sp (.eq (aY 4) (.lit 0)) (lT (aY 2) (mk (aY 3)) (mk (aY 4)) bt (mk (aY 6)) (aY 7) (aY 8) (.lit 0) 2) Dx)
theorem aDD (H:TH d0 d1 s th 19 obj arg tries o c dn g r v):dU (dH d0 d1 s th 19 obj arg tries) aA9=Gl d0 s th 19 obj arg tries o c dn g r v:=by
 have hb:r.l.length≤140737488351232:=by have:=H.hr; omega
 simp only [zz,aH.den,Nat.reduceLT,H.hcp,H.iW,H.hR,H.hk,has_is r th hb,dM r th hb,aQ,AA,fA,dG,dF,bQ,bP,dL,act,Int.reduceEq,Gl] <;> (repeat' split) <;> first | rfl | (exfalso; omega)
abbrev aA8:T Lf:=(lT (aY 2) (mk (aY 3)) (mk (aY 4)) bt (mk (aY 6)) (aY 7) (aY 8) (aY 4) 2)
theorem aDC (H:TH d0 d1 s th 22 obj arg tries o c dn g r v):dU (dH d0 d1 s th 22 obj arg tries) aA8=Gl d0 s th 22 obj arg tries o c dn g r v:=by
 have hb:r.l.length≤140737488351232:=by have:=H.hr; omega
 simp only [zz,aH.den,Nat.reduceLT,H.hcp,H.iW,H.hR,H.hk,has_is r th hb,dM r th hb,aQ,AA,fA,dG,dF,bQ,bP,dL,act,Int.reduceEq,Gl] <;> (repeat' split) <;> first | rfl | (exfalso; omega)
abbrev aA7:T Lf:=(lT (aY 2) (mk (aY 3)) (mk (.aC 6)) bt (mk (aY 6)) (aY 7) (aY 8) (.aC 6) 2)
theorem aDB (H:TH d0 d1 s th 23 obj arg tries o c dn g r v):dU (dH d0 d1 s th 23 obj arg tries) aA7=Gl d0 s th 23 obj arg tries o c dn g r v:=by
 have hb:r.l.length≤140737488351232:=by have:=H.hr; omega
 simp only [zz,aH.den,Nat.reduceLT,H.hcp,H.iW,H.hR,H.hk,has_is r th hb,dM r th hb,aQ,AA,fA,dG,dF,bQ,bP,dL,act,Int.reduceEq,Gl] <;> (repeat' split) <;> first | rfl | (exfalso; omega)
abbrev awT:T Lf:=(sp (.lt (ln (aY 8)) XE) (lT (aY 2) (mk (aY 3)) (mk (aY 4)) bt (mk (aY 6)) (aY 7) (.op .snoc (aY 8) (mk (.aC 6))) (.aC 6) 2) Dx)
theorem aBD (H:TH d0 d1 s th 20 obj arg tries o c dn g r v) (hv:0 < v.l.length):dU (dH d0 d1 s th 20 obj arg tries) awT=Gl d0 s th 20 obj arg tries o c dn g r v:=by
 have hb:r.l.length≤140737488351232:=by have:=H.hr; omega
 simp only [zz,aH.den,Nat.reduceLT,H.hcp,H.iW,H.hR,H.hk,has_is r th hb,dM r th hb,Es,List.nil_append,aQ,AA,fA,dG,dF,bQ,bP,dL,act,Int.reduceEq,Gl] <;> (repeat' split) <;> first | rfl | (exfalso; omega)
abbrev awS:T Lf:=(sp (.eq (ln (aY 8)) (.lit 0)) Dx (lT (aY 2) (mk (aY 3)) (mk (aY 4)) bt (mk (aY 6)) (aY 7) (.op .drop (.op .take (aY 8) (.add (.lit 1) (.sub (ln (aY 8)) (.lit 1)))) (.lit 1)) (nm (el (aY 8) (.lit 0))) 2))
theorem aBC (H:TH d0 d1 s th 21 obj arg tries o c dn g r v) (hv:0 < v.l.length):dU (dH d0 d1 s th 21 obj arg tries) awS=Gl d0 s th 21 obj arg tries o c dn g r v:=by
 have hb:r.l.length≤140737488351232:=by have:=H.hr; omega
 simp only [zz,aH.den,Nat.reduceLT,H.hcp,H.iW,H.hR,H.hk,has_is r th hb,dM r th hb,YT v hv,aQ,AA,fA,dG,dF,bQ,bP,dL,act,Int.reduceEq,Gl] <;> (repeat' split) <;> first | rfl | (exfalso; omega)
abbrev awR:T Lf:=(sp (.eq (nm (ce 0 (el (aY 2) XE))) (.aC 3)) (lT (abL (.dat (.i (-1)))) (mk (aY 3)) (mk (aY 4)) bt (mk (aY 6)) (.op .snoc (aY 7) (mk (.aC 3))) (aY 8) (.lit 0) 3) wU)
theorem aBB (H:TH d0 d1 s th 12 obj arg tries o c dn g r v) (hr:0 < r.l.length) (hw:wo th r.l=r.l):dU (dH d0 d1 s th 12 obj arg tries) awR=Gl d0 s th 12 obj arg tries o c dn g r v:=by
 have hb:r.l.length≤140737488351232:=by have:=H.hr; omega
 simp only [zz,aH.den,Nat.reduceLT,H.hcp,H.iW,H.hR,H.hk,has_is r th hb,dM r th hb,hw,aZ,Es,List.nil_append,aQ,AA,fA,dG,dF,bQ,bP,dL,act,Int.reduceEq,Gl] <;> (repeat' split) <;> first | rfl | (exfalso; omega)
abbrev aA6:T Lf:=(sp (.eq (nm (ce 0 (el (aY 2) XE))) (.aC 3)) (lT (abL (.dat (.i (-1)))) (mk (aY 3)) (mk (aY 4)) bt (mk (aY 6)) (.op .take (.op .cat (.op .cat (.op .take (rr 12000 xE 15) (rr 12000 xE 14)) (.op .snoc (.dat (.i 0)) (mk (.aC 3)))) (.op .drop (rr 12000 xE 15) (.add (rr 12000 xE 14) (.lit 1)))) (.add (rr 12000 xE 14) (.lit 1))) (aY 8) (.lit 0) 3) wU)
theorem aDA (H:TH d0 d1 s th 12 obj arg tries o c dn g r v) (hr:0 < r.l.length) (hv:0 < v.l.length) {n:Nat} {r1:D} (hn:n < r.l.length) (hl:r1.l.length=r.l.length) (hw:r1.l.take n=wo th r.l) (hd:L 12000 (dA d0 s r v th 12 obj arg tries o c dn g)=some (1 :: ((dA d0 s r v th 12 obj arg tries o c dn g)++ [(n:Int),enc r1,(r.l.length:Int)]))):dU (dH d0 d1 s th 12 obj arg tries) aA6=Gl d0 s th 12 obj arg tries o c dn g r v:=by
 have hb:r.l.length≤140737488351232:=by have:=H.hr; omega
 have e3:((n:Int)+1).toNat=n+1:=by omega
 have hA: ∀B,(wo th r.l++ [D.i th]++B).take (n+1)=wo th r.l++ [.i th]:=fun B=>by
  have:(wo th r.l++ [D.i th]).length=n+1:=by rw [← hw]; simp only [List.length_append,List.length_take,List.length_cons,List.length_nil]; omega
  rw [List.take_append_of_le_length (by omega),List.take_of_length_le (by omega)]
 have hB:wo th r.l++ [D.i th]≠[]:=by simp
 simp only [zz,aH.den,Nat.reduceLT,H.hcp,H.iW,H.hR,H.hk,has_is r th hb,dM r th hb,hd,List.cons_append,e3,l_p,gI,aZ,Es,List.nil_append,Int.toNat_natCast,hw,hA,Nv,F8 hB,aQ,AA,fA,dG,dF,bQ,bP,dL,act,Int.reduceEq,Gl] <;> (repeat' split) <;> first | rfl | (exfalso; omega)
abbrev awQ:T Lf:=(sp (.eq (ln (aY 7)) (.lit 0)) (lT (aY 2) (mk (aY 3)) (mk (aY 4)) bt (mk (aY 6)) (aY 7) (aY 8) (.lit 0) 2) (lT (aY 2) (mk (aY 3)) (mk (aY 4)) bt (mk (aY 6)) (.op .drop (.op .take (aY 7) (.add (.lit 1) (.sub (ln (aY 7)) (.lit 1)))) (.lit 1)) (aY 8) (wr (.add (nm (el (aY 7) (.lit 0))) (.lit 1))) 2))
theorem aBA (H:TH d0 d1 s th 13 obj arg tries o c dn g r v) (hr:0 < r.l.length):dU (dH d0 d1 s th 13 obj arg tries) awQ=Gl d0 s th 13 obj arg tries o c dn g r v:=by
 have hb:r.l.length≤140737488351232:=by have:=H.hr; omega
 simp only [zz,aH.den,Nat.reduceLT,H.hcp,H.iW,H.hR,H.hk,has_is r th hb,dM r th hb,YT r hr,Es,List.nil_append,aQ,AA,fA,dG,dF,bQ,bP,dL,act,Int.reduceEq,Gl] <;> (repeat' split) <;> first | rfl | (exfalso; omega)
abbrev awP:T Lf:=(lT (aY 2) (mk (aY 3)) (mk (aY 4)) bt (mk (aY 6)) (.dat (.i 1)) (aY 8) (ln (aY 7)) 2)
theorem aBz (H:TH d0 d1 s th 14 obj arg tries o c dn g r v) (hr:0 < r.l.length):dU (dH d0 d1 s th 14 obj arg tries) awP=Gl d0 s th 14 obj arg tries o c dn g r v:=by
 have hb:r.l.length≤140737488351232:=by have:=H.hr; omega
 simp only [zz,aH.den,Nat.reduceLT,H.hcp,H.iW,H.hR,H.hk,has_is r th hb,dM r th hb,Es,List.nil_append,aQ,AA,fA,dG,dF,bQ,bP,dL,act,Int.reduceEq,Gl] <;> (repeat' split) <;> first | rfl | (exfalso; omega)
abbrev aeA:T Lf:=(sp (.eq (rr 900 [aY 7,.aC 3] 0) (.lit 0)) (sp (.lt (nm (ce 0 (el (aY 2) XE))) (.lit 0)) (lT (abL (mk (.aC 3))) (mk (aY 3)) (mk (aY 4)) bt (mk (aY 6)) (aY 7) (aY 8) (.lit 0) 2) Dx) Dx)
theorem aoW (H:TH d0 d1 s th 24 obj arg tries o c dn g r v):dU (dH d0 d1 s th 24 obj arg tries) aeA=Gl d0 s th 24 obj arg tries o c dn g r v:=by
 have hb:r.l.length≤140737488351232:=by have:=H.hr; omega
 simp only [zz,aH.den,Nat.reduceLT,H.hcp,H.iW,H.hR,H.hk,has_is r th hb,dM r th hb,aZ,Es,List.nil_append,aQ,AA,fA,dG,dF,bQ,bP,dL,act,Int.reduceEq,Gl] <;> (repeat' split) <;> first | rfl | (exfalso; omega)
abbrev aA5:T Lf:=(sp (.lt (aY 6) (.lit 4611686018427387904)) (sp (.eq (wr (.add (aY 4) (.lit 1))) XE) (lT (aY 2) (mk (aY 3)) (.dat (.i 0)) bt (mk (wr (.add (aY 6) (.lit 1)))) (aY 7) (aY 8) (aY 6) 3) (lT (aY 2) (mk (aY 3)) (mk (wr (.add (aY 4) (.lit 1)))) bt (mk (aY 6)) (aY 7) (aY 8) (aY 6) 3)) wU)
theorem aDz (H:TH d0 d1 s th 15 obj arg tries o c dn g r v):dU (dH d0 d1 s th 15 obj arg tries) aA5=Gl d0 s th 15 obj arg tries o c dn g r v:=by
 have hb:r.l.length≤140737488351232:=by have:=H.hr; omega
 simp only [zz,aH.den,Nat.reduceLT,H.hcp,H.iW,H.hR,H.hk,has_is r th hb,dM r th hb,aQ,AA,fA,dG,dF,bQ,bP,dL,act,Int.reduceEq,Gl] <;> (repeat' split) <;> first | rfl | (exfalso; omega)
abbrev aA4:T Lf:=(sp (.lt (.aC 6) (aY 6)) (lT (aY 2) (mk (aY 3)) (mk (aY 4)) bt (mk (aY 6)) (aY 7) (aY 8) (.aC 6) 2) Dx)
theorem aDy (H:TH d0 d1 s th 25 obj arg tries o c dn g r v):dU (dH d0 d1 s th 25 obj arg tries) aA4=Gl d0 s th 25 obj arg tries o c dn g r v:=by
 have hb:r.l.length≤140737488351232:=by have:=H.hr; omega
 simp only [zz,aH.den,Nat.reduceLT,H.hcp,H.iW,H.hR,H.hk,has_is r th hb,dM r th hb,aQ,AA,fA,dG,dF,bQ,bP,dL,act,Int.reduceEq,Gl] <;> (repeat' split) <;> first | rfl | (exfalso; omega)
abbrev aA3:T Lf:=(sp (.eq (aY 5) (.lit 0)) (sp (.eq (aY 3) (.aC 3)) wU (sp (.lt (aY 3) (.lit 0)) (lT (aY 2) (mk (.aC 3)) (mk (aY 4)) bt (mk (aY 6)) (aY 7) (aY 8) (.lit 1) 2) Dx)) (lT (aY 2) (mk (aY 3)) (mk (aY 4)) bt (mk (aY 6)) (aY 7) (aY 8) (.lit 0) 2))
theorem aDx (H:TH d0 d1 s th 16 obj arg tries o c dn g r v):dU (dH d0 d1 s th 16 obj arg tries) aA3=Gl d0 s th 16 obj arg tries o c dn g r v:=by
 have hb:r.l.length≤140737488351232:=by have:=H.hr; omega
 simp only [zz,aH.den,Nat.reduceLT,H.hcp,H.iW,H.hR,H.hk,has_is r th hb,dM r th hb,aQ,AA,fA,dG,dF,bQ,bP,dL,act,Int.reduceEq,Gl] <;> (repeat' split) <;> first | rfl | (exfalso; omega)
abbrev aA2:T Lf:=(sp (.eq (aY 3) (.aC 3)) (lT (aY 2) (.dat (.i (-1))) (mk (aY 4)) (.dat (.i 1)) (mk (aY 6)) (aY 7) (aY 8) (.lit 0) 2) wU)
theorem aDw (H:TH d0 d1 s th 26 obj arg tries o c dn g r v):dU (dH d0 d1 s th 26 obj arg tries) aA2=Gl d0 s th 26 obj arg tries o c dn g r v:=by
 have hb:r.l.length≤140737488351232:=by have:=H.hr; omega
 simp only [zz,aH.den,Nat.reduceLT,H.hcp,H.iW,H.hR,H.hk,has_is r th hb,dM r th hb,aQ,AA,fA,dG,dF,bQ,bP,dL,act,Int.reduceEq,Gl] <;> (repeat' split) <;> first | rfl | (exfalso; omega)
abbrev awO:T Lf:=(sp (.lt (.lit 0) XE) (lT (aY 2) (mk (aY 3)) (mk (aY 4)) bt (mk (aY 6)) (aY 7) (.op .snoc (.dat (.i 0)) (mk (.aC 6))) (.aC 6) 2) Dx)
theorem aBy (H:TH d0 d1 s th 20 obj arg tries o c dn g r v) (hv:v.l= []):dU (dH d0 d1 s th 20 obj arg tries) awO=Gl d0 s th 20 obj arg tries o c dn g r v:=by
 have hb:r.l.length≤140737488351232:=by have:=H.hr; omega
 have hz2:((0:Nat):Int)=0:=rfl
 simp only [zz,aH.den,Nat.reduceLT,H.hcp,H.iW,H.hR,H.hk,has_is r th hb,dM r th hb,hv,List.length_nil,List.nil_append,hz2,Es,aQ,AA,fA,dG,dF,bQ,bP,dL,act,Int.reduceEq,Gl] <;> (repeat' split) <;> first | rfl | (exfalso; omega)
abbrev awN:T Lf:=Dx
theorem aBx (H:TH d0 d1 s th 21 obj arg tries o c dn g r v) (hv:v.l= []):dU (dH d0 d1 s th 21 obj arg tries) awN=Gl d0 s th 21 obj arg tries o c dn g r v:=by
 have hb:r.l.length≤140737488351232:=by have:=H.hr; omega
 have hz2:((0:Nat):Int)=0:=rfl
 simp only [zz,aH.den,Nat.reduceLT,H.hcp,H.iW,H.hR,H.hk,has_is r th hb,dM r th hb,hv,List.length_nil,List.nil_append,hz2,aQ,AA,fA,dG,dF,bQ,bP,dL,act,Int.reduceEq,Gl] <;> (repeat' split) <;> first | rfl | (exfalso; omega)
abbrev aA1:T Lf:=(sp (.eq (nm (ce 0 (el (aY 2) XE))) (.aC 3)) (lT (abL (.dat (.i (-1)))) (mk (aY 3)) (mk (aY 4)) bt (mk (aY 6)) (.op .take (.op .cat (.op .cat (.op .take (rr 12100 xE 15) (rr 12100 xE 14)) (.op .snoc (.dat (.i 0)) (mk (.aC 3)))) (.op .drop (rr 12100 xE 15) (.add (rr 12100 xE 14) (.lit 1)))) (.add (rr 12100 xE 14) (.lit 1))) (aY 8) (.lit 0) 3) wU)
theorem aDv (H:TH d0 d1 s th 12 obj arg tries o c dn g r v) (hr:0 < r.l.length) (hv:v.l= []) {n:Nat} {r1:D} (hn:n < r.l.length) (hl:r1.l.length=r.l.length) (hw:r1.l.take n=wo th r.l) (hd:L 12100 (dA d0 s r v th 12 obj arg tries o c dn g)=some (1 :: ((dA d0 s r v th 12 obj arg tries o c dn g)++ [(n:Int),enc r1,(r.l.length:Int)]))):dU (dH d0 d1 s th 12 obj arg tries) aA1=Gl d0 s th 12 obj arg tries o c dn g r v:=by
 have hb:r.l.length≤140737488351232:=by have:=H.hr; omega
 have hz2:((0:Nat):Int)=0:=rfl
 have e3:((n:Int)+1).toNat=n+1:=by omega
 have hA: ∀B,(wo th r.l++ [D.i th]++B).take (n+1)=wo th r.l++ [.i th]:=fun B=>by
  have:(wo th r.l++ [D.i th]).length=n+1:=by rw [← hw]; simp only [List.length_append,List.length_take,List.length_cons,List.length_nil]; omega
  rw [List.take_append_of_le_length (by omega),List.take_of_length_le (by omega)]
 have hB:wo th r.l++ [D.i th]≠[]:=by simp
 simp only [zz,aH.den,Nat.reduceLT,H.hcp,H.iW,H.hR,H.hk,has_is r th hb,dM r th hb,hv,List.length_nil,List.nil_append,hz2,hd,List.cons_append,e3,l_p,gI,aZ,Es,Int.toNat_natCast,hw,hA,Nv,F8 hB,aQ,AA,fA,dG,dF,bQ,bP,dL,act,Int.reduceEq,Gl] <;> (repeat' split) <;> first | rfl | (exfalso; omega)
abbrev awM:T Lf:=(sp (.eq (aY 3) (.aC 3)) wU (sp (.eq (rr 900 [aY 7,.aC 3] 0) (.lit 0)) (sp (.lt (aY 3) (.lit 0)) (lT (aY 2) (mk (aY 3)) (mk (aY 4)) bt (mk (aY 6)) (.op .snoc (.dat (.i 0)) (mk (.aC 3))) (aY 8) (.lit 0) 2) Dx) wU))
theorem aBw (H:TH d0 d1 s th 5 obj arg tries o c dn g r v) (hr:r.l= []):dU (dH d0 d1 s th 5 obj arg tries) awM=Gl d0 s th 5 obj arg tries o c dn g r v:=by
 have hb:r.l.length≤140737488351232:=by have:=H.hr; omega
 have hz:((0:Nat):Int)=0:=rfl
 simp only [zz,aH.den,Nat.reduceLT,H.hcp,H.iW,H.hR,H.hk,has_is r th hb,dM r th hb,hr,List.length_nil,List.nil_append,hz,Es,aQ,AA,fA,dG,dF,bQ,bP,dL,act,Int.reduceEq,Gl] <;> (repeat' split) <;> first | rfl | (exfalso; omega)
theorem aBv (H:TH d0 d1 s th 7 obj arg tries o c dn g r v) (hr:r.l= []):dU (dH d0 d1 s th 7 obj arg tries) zt0=Gl d0 s th 7 obj arg tries o c dn g r v:=by
 have hb:r.l.length≤140737488351232:=by have:=H.hr; omega
 have hz:((0:Nat):Int)=0:=rfl
 simp only [zz,aH.den,Nat.reduceLT,H.hcp,H.iW,H.hR,H.hk,has_is r th hb,dM r th hb,hr,List.length_nil,List.nil_append,hz,aQ,AA,fA,dG,dF,bQ,bP,dL,act,Int.reduceEq,Gl] <;> (repeat' split) <;> first | rfl | (exfalso; omega)
abbrev awL:T Lf:=(sp (.eq (nm (ce 0 (el (aY 2) XE))) (.aC 3)) (lT (abL (.dat (.i (-1)))) (mk (aY 3)) (mk (aY 4)) bt (mk (aY 6)) (.op .snoc (.dat (.i 0)) (mk (.aC 3))) (aY 8) (.lit 0) 3) wU)
theorem aBu (H:TH d0 d1 s th 12 obj arg tries o c dn g r v) (hr:r.l= []):dU (dH d0 d1 s th 12 obj arg tries) awL=Gl d0 s th 12 obj arg tries o c dn g r v:=by
 have hb:r.l.length≤140737488351232:=by have:=H.hr; omega
 have hz:((0:Nat):Int)=0:=rfl
 simp only [zz,aH.den,Nat.reduceLT,H.hcp,H.iW,H.hR,H.hk,has_is r th hb,dM r th hb,hr,List.length_nil,List.nil_append,hz,awU hr,aZ,Es,aQ,AA,fA,dG,dF,bQ,bP,dL,act,Int.reduceEq,Gl] <;> (repeat' split) <;> first | rfl | (exfalso; omega)
abbrev awK:T Lf:=(lT (aY 2) (mk (aY 3)) (mk (aY 4)) bt (mk (aY 6)) (aY 7) (aY 8) (.lit 0) 2)
theorem aBt (H:TH d0 d1 s th 13 obj arg tries o c dn g r v) (hr:r.l= []):dU (dH d0 d1 s th 13 obj arg tries) awK=Gl d0 s th 13 obj arg tries o c dn g r v:=by
 have hb:r.l.length≤140737488351232:=by have:=H.hr; omega
 have hz:((0:Nat):Int)=0:=rfl
 simp only [zz,aH.den,Nat.reduceLT,H.hcp,H.iW,H.hR,H.hk,has_is r th hb,dM r th hb,hr,List.length_nil,List.nil_append,hz,Es,aQ,AA,fA,dG,dF,bQ,bP,dL,act,Int.reduceEq,Gl] <;> (repeat' split) <;> first | rfl | (exfalso; omega)
abbrev awJ:T Lf:=(lT (aY 2) (mk (aY 3)) (mk (aY 4)) bt (mk (aY 6)) (.dat (.i 1)) (aY 8) (.lit 0) 2)
theorem aBs (H:TH d0 d1 s th 14 obj arg tries o c dn g r v) (hr:r.l= []):dU (dH d0 d1 s th 14 obj arg tries) awJ=Gl d0 s th 14 obj arg tries o c dn g r v:=by
 have hb:r.l.length≤140737488351232:=by have:=H.hr; omega
 have hz:((0:Nat):Int)=0:=rfl
 simp only [zz,aH.den,Nat.reduceLT,H.hcp,H.iW,H.hR,H.hk,has_is r th hb,dM r th hb,hr,List.length_nil,List.nil_append,hz,Es,aQ,AA,fA,dG,dF,bQ,bP,dL,act,Int.reduceEq,Gl] <;> (repeat' split) <;> first | rfl | (exfalso; omega)
end
end Go.As.Try
end

import GoSem.Claim
import Derived.Orders
import Derived.Scope
import Derived.LoopN
import Derived.Below
import GoSem.Core.View
import GoSem.Core.Layout
import GoSem.Op.Equal
import Derived.WalkKit
set_option linter.unusedSectionVars false
set_option linter.unusedVariables false
set_option linter.unusedSimpArgs false
section
namespace Go.As
inductive Tr (α:Type) where
 | nil
 | node (v:Option α) (l r:Tr α)
 deriving Inhabited
noncomputable def Tr.get {α:Type} (t:Tr α) (k:Nat):Option α:=
 Tr.rec (motive:=fun _=>Nat→Option α) (fun _=>none)
  (fun v _ _ il ir k=>Nat.rec (motive:=fun _=>Option α) v (fun k' _=>Bool.rec (motive:=fun _=>Option α) (ir (Nat.div k' 2)) (il (Nat.div k' 2)) (Nat.beq (Nat.mod k' 2) 0)) k) t k
def Tr.val {α:Type}:Tr α→Option α
 | .nil=>none
 | .node v _ _=>v
def Tr.left {α:Type}:Tr α→Tr α
 | .nil=> .nil
 | .node _ l _=>l
def Tr.right {α:Type}:Tr α→Tr α
 | .nil=> .nil
 | .node _ _ r=>r
noncomputable def Tr.mkL {α:Type} (v:Option α) (x r:Tr α):Tr α:=Tr.rec (motive:=fun _=>Tr α) (.node v .nil r) (fun a b c _ _=> .node v (.node a b c) r) x
noncomputable def Tr.mkR {α:Type} (v:Option α) (l x:Tr α):Tr α:=Tr.rec (motive:=fun _=>Tr α) (.node v l .nil) (fun a b c _ _=> .node v l (.node a b c)) x
noncomputable def Tr.abU {α:Type} (f:Nat):Tr α→Nat→Option α→Tr α:=
 Nat.rec (motive:=fun _=>Tr α→Nat→Option α→Tr α) (fun t _ _=>t)
  (fun _ ih t k x=>Tr.rec (motive:=fun _=>Tr α)
   (Nat.rec (motive:=fun _=>Tr α) (.node x .nil .nil) (fun k' _=>Bool.rec (motive:=fun _=>Tr α) (Tr.mkR none .nil (ih .nil (Nat.div k' 2) x)) (Tr.mkL none (ih .nil (Nat.div k' 2) x) .nil) (Nat.beq (Nat.mod k' 2) 0)) k)
   (fun v l r _ _=>Nat.rec (motive:=fun _=>Tr α) (.node x l r) (fun k' _=>Bool.rec (motive:=fun _=>Tr α) (Tr.mkR v l (ih r (Nat.div k' 2) x)) (Tr.mkL v (ih l (Nat.div k' 2) x) r) (Nat.beq (Nat.mod k' 2) 0)) k) t) f
noncomputable def Tr.put {α:Type} (t:Tr α) (k:Nat) (v:Option α):Tr α:=Tr.abU (Nat.succ k) t k v
theorem asE (a b:Nat):Nat.beq a b=decide (a=b):=by
 rw [Bool.eq_iff_iff]
 simp
theorem Jc {β:Sort _} (a b:β) (c:Nat):Bool.rec (motive:=fun _=>β) a b (Nat.beq c 0)=if c=0 then b else a:=by
 by_cases h:c=0
 ·subst h; rfl
 ·rw [if_neg h]
  have:Nat.beq c 0=false:=by rw [asE]; simpa using h
  rw [this]
theorem Tr.sK {α:Type} (v:Option α) (l r:Tr α) (k:Nat) :
 (Tr.node v l r).get k=if k=0 then v else if (k - 1) % 2=0 then l.get ((k - 1) / 2) else r.get ((k - 1) / 2):=by
 cases k with
 | zero=>rfl
 | succ k=>
   simp only [Nat.add_sub_cancel,Nat.succ_ne_zero,if_false]
   exact Jc _ _ _
theorem Tr.CZ {α:Type} (t:Tr α) (k:Nat) :
 t.get k=if k=0 then t.val else if (k - 1) % 2=0 then t.left.get ((k - 1) / 2) else t.right.get ((k - 1) / 2):=by
 cases t with
 | nil=>
   have h: ∀j,(Tr.nil:Tr α).get j=none:=fun _=>rfl
   simp [h,Tr.val,Tr.left,Tr.right]
 | node v l r=>rw [Tr.sK]; rfl
theorem Tr.axY {α:Type} (v:Option α) (x r:Tr α):Tr.mkL v x r= .node v x r:=by cases x <;> rfl
theorem Tr.axX {α:Type} (v:Option α) (l x:Tr α):Tr.mkR v l x= .node v l x:=by cases x <;> rfl
theorem Tr.abS {α:Type} (f:Nat) (t:Tr α) (v:Option α):Tr.abU (f+1) t 0 v= .node v t.left t.right:=by cases t <;> rfl
theorem Tr.abT {α:Type} (f:Nat) (t:Tr α) (k:Nat) (v:Option α):Tr.abU (f+1) t (k+1) v=if k % 2=0 then .node t.val (Tr.abU f t.left (k / 2) v) t.right else .node t.val t.left (Tr.abU f t.right (k / 2) v):=by
 rw [← Tr.axY,← Tr.axX]
 cases t <;> exact Jc _ _ _
theorem Tr.ajL {α:Type}: ∀(f:Nat) (t:Tr α) (k:Nat) (v:Option α) (j:Nat),k < f→(Tr.abU f t k v).get j=if j=k then v else t.get j:=by
 intro f
 induction f with
 | zero=>intro t k v j hk; omega
 | succ f ih=>
   intro t k v j hk
   cases k with
   | zero=>
     rw [Tr.abS,Tr.sK,Tr.CZ t]
     split <;> simp_all
   | succ k=>
     rw [Tr.abT,Tr.CZ t j]
     split
     ·rename_i h
      rw [Tr.sK]
      by_cases hj:j=0
      ·subst hj; simp
      ·rw [if_neg hj,if_neg hj]
       by_cases h2:(j - 1) % 2=0
       ·rw [if_pos h2,if_pos h2,ih _ _ _ _ (by omega)]
        by_cases h3:j=k+1
        ·subst h3; simp
        ·rw [if_neg h3,if_neg (by omega)]
       ·rw [if_neg h2,if_neg h2,if_neg (by intro h3; subst h3; simp at h2; omega)]
     ·rename_i h
      rw [Tr.sK]
      by_cases hj:j=0
      ·subst hj; simp
      ·rw [if_neg hj,if_neg hj]
       by_cases h2:(j - 1) % 2=0
       ·rw [if_pos h2,if_pos h2,if_neg (by intro h3; subst h3; simp at h2; omega)]
       ·rw [if_neg h2,if_neg h2,ih _ _ _ _ (by omega)]
        by_cases h3:j=k+1
        ·subst h3; simp
        ·rw [if_neg h3,if_neg (by omega)]
theorem Tr.get_put {α:Type} (t:Tr α) (k:Nat) (v:Option α) (j:Nat):(t.put k v).get j=if j=k then v else t.get j:=
 Tr.ajL (Nat.succ k) t k v j (Nat.lt_succ_self _)
end Go.As
end
section
namespace Go.As
inductive D where
 | i (n:Int)
 | p (a b:D)
 deriving DecidableEq,Inhabited
def zN:Int→Nat
 | .ofNat n=>2*n
 | .negSucc n=>2*n+1
theorem aeG {a b:Int} (h:zN a=zN b):a=b:=by
 cases a <;> cases b <;> simp only [zN] at h
 ·congr 1; omega
 ·omega
 ·omega
 ·congr 1; omega
def tX (a b:Nat):Nat:=2 ^ a*(2*b+1)
theorem Hu: ∀{a a' b b':Nat},tX a b=tX a' b'→a=a'∧b=b'
 | 0,0,b,b',h=>by simp only [tX,Nat.pow_zero,Nat.one_mul] at h; omega
 | 0,a'+1,b,b',h=>by
   simp only [tX,Nat.pow_zero,Nat.one_mul,Nat.pow_succ] at h
   have:2 ^ a'*2*(2*b'+1)=2*(2 ^ a'*(2*b'+1)):=by rw [Nat.mul_comm (2 ^ a') 2,Nat.mul_assoc]
   omega
 | a+1,0,b,b',h=>by
   simp only [tX,Nat.pow_zero,Nat.one_mul,Nat.pow_succ] at h
   have:2 ^ a*2*(2*b+1)=2*(2 ^ a*(2*b+1)):=by rw [Nat.mul_comm (2 ^ a) 2,Nat.mul_assoc]
   omega
 | a+1,a'+1,b,b',h=>by
   have h1:2 ^ (a+1)*(2*b+1)=2*tX a b:=by unfold tX; rw [Nat.pow_succ,Nat.mul_comm (2 ^ a) 2,Nat.mul_assoc]
   have h2:2 ^ (a'+1)*(2*b'+1)=2*tX a' b':=by unfold tX; rw [Nat.pow_succ,Nat.mul_comm (2 ^ a') 2,Nat.mul_assoc]
   have h3:tX a b=tX a' b':=by
    have:tX (a+1) b=tX (a'+1) b':=h
    unfold tX at this
    rw [h1,h2] at this
    omega
   obtain⟨e1,e2⟩:=Hu h3
   exact⟨by omega,e2⟩
def D.enc:D→Nat
 | .i n=>2*zN n
 | .p a b=>2*tX a.enc b.enc+1
theorem D.qN: ∀{a b:D},a.enc=b.enc→a=b
 | .i n,.i m,h=>by
   simp only [D.enc] at h
   rw [aeG (a:=n) (b:=m) (by omega)]
 | .i n,.p a b,h=>by simp only [D.enc] at h; omega
 | .p a b,.i n,h=>by simp only [D.enc] at h; omega
 | .p a b,.p c d,h=>by
   simp only [D.enc] at h
   obtain⟨h1,h2⟩:=Hu (a:=a.enc) (b:=b.enc) (a':=c.enc) (b':=d.enc) (by omega)
   rw [D.qN h1,D.qN h2]
open Classical in
noncomputable def dec (z:Int):D:=if h: ∃d:D,(d.enc:Int)=z then h.choose else .i 0
def enc (d:D):Int:=(d.enc:Int)
theorem aG (d:D):dec (enc d)=d:=by
 unfold dec
 have h: ∃d':D,(d'.enc:Int)=enc d:=⟨d,rfl⟩
 rw [dif_pos h]
 have:=h.choose_spec
 apply D.qN
 unfold enc at this
 exact Int.ofNat.inj this
theorem qN {a b:D} (h:enc a=enc b):a=b:=by rw [← aG a,h,aG]
def D.n:D→Int
 | .i n=>n
 | .p _ _=>0
def D.l:D→List D
 | .i _=>[]
 | .p a b=>a :: b.l
def dL:List D→D
 | []=> .i 0
 | a :: l=> .p a (dL l)
@[simp] theorem aZ: ∀l:List D,(dL l).l=l
 | []=>rfl
 | a :: l=>by simp [dL,D.l,aZ l]
theorem Ny {a b:List D} (h:dL a=dL b):a=b:=by rw [← aZ a,h,aZ]
def D.at (d:D) (i:Int):D:=(d.l[i.toNat]?).getD (.i 0)
def D.hd (d:D) (j:Nat):D:=(d.l[j]?).getD (.i 0)
def vS (l:List UInt8):D:=dL (l.map fun b=> .i (b.toNat:Int))
def Af (s:ByteArray):D:=vS s.data.toList
def nX (l:List Nat):D:=dL (l.map fun b=> .i (Int.ofNat b))
theorem YA {a b:List UInt8} (h:vS a=vS b):a=b:=by
 have:=Ny h
 have hinj: ∀{x y:UInt8},(D.i (x.toNat:Int))= .i (y.toNat:Int)→x=y:=by
  intro x y h
  simp only [D.i.injEq,Int.ofNat_inj] at h
  exact UInt8.toNat_inj.1 h
 induction a generalizing b with
 | nil=>cases b with
   | nil=>rfl
   | cons y b=>simp at this
 | cons x a ih=>cases b with
   | nil=>simp at this
   | cons y b=>
     simp only [List.map_cons,List.cons.injEq] at this
     rw [hinj this.1,ih (by unfold vS; rw [this.2]) this.2]
theorem Nu {a b:ByteArray} (h:Af a=Af b):a=b:=by
 have:=YA h
 cases a with
 | mk x=>cases b with
   | mk y=>simp only [ByteArray.mk.injEq] at *; exact Array.toList_inj.1 this
theorem F9 (l:List Nat) (h: ∀b∈l,b < 256):nX l=vS (l.map UInt8.ofNat):=by
 unfold nX vS
 congr 1
 rw [List.map_map]
 apply List.map_congr_left
 intro b hb
 have:=h b hb
 simp [Nat.mod_eq_of_lt this]
theorem amM (s:ByteArray):(Af s).l.length=s.size:=by
 unfold Af vS
 rw [aZ,List.length_map]
 rfl
inductive aH where
 | len
 | at
 | cell (j:Nat)
 | num
 | mk
 | cons
 | snoc
 | cat
 | take
 | drop
 | set
 | bit
 | norm
 | sub
 | fill
 | idx
 | cnt
 | con
 | slt
 | Lm
 | Lp
 | Ei
 | acG
 | rep
 deriving DecidableEq,Inhabited
def fQ (d:D) (l:List D):D:=match l with
 | []=>if d= .i 1 then .i 1 else .i 2
 | l=>dL l
theorem gI (d:D) (l:List D):(fQ d l).l=l:=by
 cases l with
 | nil=>simp only [fQ]; split <;> rfl
 | cons a l=>simp [fQ]
theorem F8 {d:D} {l:List D} (h:l≠[]):fQ d l=dL l:=by
 cases l with
 | nil=>exact absurd rfl h
 | cons a l=>rfl
theorem uO {d:D} (h:d≠.i 1):fQ d []= .i 2:=by
 show (if d= .i 1 then D.i 1 else D.i 2)= .i 2
 rw [if_neg h]
theorem adP {d:D} (h:d≠.i 1) (l:List D):fQ d l≠.i 1:=by
 cases l with
 | nil=>rw [uO h]; simp
 | cons a l=>simp [fQ,dL]
theorem vP {d:D} {l m:List D} (h:d= .i 1→l= []):fQ (fQ d l) m=fQ d m:=by
 cases m with
 | cons a m=>rfl
 | nil=>
   by_cases h1:d= .i 1
   ·rw [h h1,h1]; rfl
   ·rw [uO h1,uO (adP h1 l)]
def wK (z:Int):List D→Int→Int
 | [],_=> -1
 | d :: l,i=>match d with
   | .i n=>if n=z then i else wK z l (i+1)
   | _=>wK z l (i+1)
def Og (l:List D) (z:Int):Int:=wK z l 0
def Yz:List D→List D→Bool
 | [],_=>true
 | _ :: _,[]=>false
 | a :: x,b :: y=>decide (a=b) && Yz x y
def amR (l x:List D):Bool:=match l with
 | []=>Yz x []
 | a :: l=>Yz x (a :: l) || amR l x
def asA (l:List D) (z:Int):Int:=match l with
 | []=>0
 | d :: l=>(if d= .i z then 1 else 0)+asA l z
def aaF:List D→List D→Bool
 | [],[]=>false
 | [],_ :: _=>true
 | _ :: _,[]=>false
 | a :: x,b :: y=>if a.n < b.n then true else if b.n < a.n then false else aaF x y
def iK (ds:List D) (z:Int) (x:D):List D:=if z < 0 then ds else ds.set z.toNat x
theorem iT (ds:List D) (z:Int) (x:D):(iK ds z x).length=ds.length:=by
 unfold iK; split
 ·rfl
 ·exact List.length_set
theorem xK (ds:List D) (k:Nat) (x:D):iK ds (k:Int) x=ds.set k x:=by
 unfold iK; rw [if_neg (by omega)]; rfl
def adR:D→D
 | .p k _=>k
 | d=>d
def amL:D→D
 | .p _ v=>v
 | d=>d
def yA:List D→D→Option D
 | [],_=>none
 | d :: l,k=>if adR d=k then some (amL d) else yA l k
def Ls:List D→D→D→List D
 | [],k,v=>[.p k v]
 | d :: l,k,v=>if adR d=k then .p k v :: l else d :: Ls l k v
def U6:List D→D→List D
 | [],_=>[]
 | d :: l,k=>if adR d=k then l else d :: U6 l k
noncomputable def aH.den (o:aH) (x y:Int):Int:=match o with
 | .len=>((dec x).l.length:Int)
 | .at=>enc ((dec x).at y)
 | .cell j=>enc ((dec x).hd j)
 | .num=>(dec x).n
 | .mk=>enc (.i x)
 | .cons=>enc (.p (dec x) (dec y))
 | .snoc=>enc (dL ((dec x).l++ [dec y]))
 | .cat=>enc (dL ((dec x).l++(dec y).l))
 | .take=>enc (fQ (dec x) ((dec x).l.take y.toNat))
 | .drop=>enc (fQ (dec x) ((dec x).l.drop y.toNat))
 | .set=>match dec y with
   | .p q v=>enc (dL (iK (dec x).l q.n v))
   | _=>x
 | .bit=>enc (.i (if (dec x).n=0 then 0 else 1))
 | .norm=>enc (dec x)
 | .sub=>enc (dL (((dec x).l.take ((dec y).hd 1).n.toNat).drop ((dec y).hd 0).n.toNat))
 | .fill=>match dec y with
   | .p q v=>enc (dL ((dec x).l.take q.n.toNat++List.replicate ((dec x).l.length - q.n.toNat) v))
   | _=>x
 | .idx=>Og (dec x).l y
 | .cnt=>asA (dec x).l y
 | .con=>if amR (dec x).l (dec y).l then 1 else 0
 | .slt=>if aaF (dec x).l (dec y).l then 1 else 0
 | .Lm=>if (yA (dec x).l (dec y)).isSome then 1 else 0
 | .Lp=>enc ((yA (dec x).l (dec y)).getD (.i 0))
 | .Ei=>match dec y with
   | .p k v=>enc (dL (Ls (dec x).l k v))
   | _=>x
 | .acG=>enc (dL (U6 (dec x).l (dec y)))
 | .rep=>enc (dL (List.replicate x.toNat (dec y)))
def aH.tag:aH→Nat
 | .len=>0
 | .at=>1
 | .cell j=>j+23
 | .num=>2
 | .mk=>3
 | .cons=>4
 | .snoc=>5
 | .cat=>6
 | .take=>7
 | .drop=>8
 | .set=>9
 | .bit=>10
 | .norm=>11
 | .sub=>12
 | .fill=>13
 | .idx=>14
 | .cnt=>15
 | .con=>16
 | .slt=>17
 | .Lm=>18
 | .Lp=>19
 | .Ei=>20
 | .acG=>21
 | .rep=>22
theorem aH.aoF {a b:aH} (h:a.tag=b.tag):a=b:=by
 cases a <;> cases b <;> simp only [aH.tag] at h <;> first | rfl | (congr 1; omega) | omega
inductive CK where
 | int (k:IntKind)
 | bool
 | str
 | sl (t:Nat)
 deriving DecidableEq,Inhabited
inductive Row where
 | one (c:CK)
 | many (cs:List CK)
 deriving DecidableEq,Inhabited
def Row.es:Row→Nat
 | .one _=>1
 | .many cs=>cs.length
def rowOf (t:Nat):Row:=match t with
 | 0=> .one (.int .i64)
 | 1=> .one (.int .i64)
 | 2=> .one .str
 | 3=> .many [.int .u8,.str,.int .i64,.str,.int .i64]
 | 4=> .many [.str,.sl 2,.sl 5]
 | 5=> .many [.int .u8,.int .u8,.int .i64,.int .i64,.int .i64,.int .i64,.sl 6]
 | 6=> .many [.int .u8,.str,.int .i64,.sl 6]
 | 7=> .many [.int .i64,.int .i64,.bool,.int .i64,.sl 0,.sl 0]
 | 8=> .many [.int .i64,.sl 0,.int .u8,.int .i64,.int .i64,.int .i64]
 | 9=> .many [.int .i64,.int .u8,.int .i64,.int .i64,.int .i64]
 | 10=> .one (.sl 0)
 | 11=> .many [.int .i64,.int .i64,.int .i64]
 | 12=> .many [.int .i64,.int .i64]
 | 13=> .many [.int .i64,.int .u8,.int .i64,.int .i64,.int .i64]
 | 14=> .one (.int .u8)
 | 15=> .one (.sl 0)
 | _=> .one .bool
def mapOf (t:Nat):CK×CK:=match t with
 | 0=>(.int .i64,.int .i64)
 | 1=>(.str,.int .i64)
 | 2=>(.int .i64,.sl 0)
 | _=>(.int .i64,.bool)
def vV (c:CK) (d:D):Prop:=match c with
 | .int _=>d= .i d.n
 | .bool=>d= .i 0∨d= .i 1
 | _=>True
def Ug (cs:List CK) (d:D):Prop:=d=dL d.l∧d.l.length=cs.length∧∀(j:Nat) (c:CK) (x:D),cs[j]?=some c→d.l[j]?=some x→vV c x
def wM (r:Row) (d:D):Prop:=match r with
 | .one c=>vV c d
 | .many cs=>Ug cs d
def Jf (r:Row) (d:D):Prop:=d=dL d.l∧(∀x∈d.l,wM r x)∧d.l≠[]
end Go.As
end
section
namespace Go.As
noncomputable section
inductive SE where
 | lit (n:Int)
 | aC (i:Nat)
 | add (a b:SE)
 | sub (a b:SE)
 | mul (a b:SE)
 | quo (a b:SE)
 | rem (a b:SE)
 | wrap (k:IntKind) (a:SE)
 | inp (b:Nat) (e:SE)
 | dat (d:D)
 | op (o:aH) (a b:SE)
 | ap (f:Nat) (a:SE)
 deriving DecidableEq,Inhabited
def jY (f:Nat) (z:Int):Nat:=1000+tX f (zN z)*64+63
noncomputable def SE.den (ρ:Nat→Int):SE→Int
 | .lit n=>n
 | .aC i=>ρ i
 | .add a b=>a.den ρ+b.den ρ
 | .sub a b=>a.den ρ - b.den ρ
 | .mul a b=>a.den ρ*b.den ρ
 | .quo a b=>(a.den ρ).tdiv (b.den ρ)
 | .rem a b=>(a.den ρ).tmod (b.den ρ)
 | .wrap k a=>k.wrap (a.den ρ)
 | .inp b e=>ρ (1000+(e.den ρ).toNat*64+b)
 | .dat d=>enc d
 | .op o a b=>o.den (a.den ρ) (b.den ρ)
 | .ap f a=>ρ (jY f (a.den ρ))
def Bj:Int→Int→Bool
 | .ofNat a,.ofNat b=>Nat.beq a b
 | .negSucc a,.negSucc b=>Nat.beq a b
 | _,_=>false
def D.eqb:D→D→Bool
 | .i a,.i b=>Bj a b
 | .p a b,.p c d=>match D.eqb a c with | true=>D.eqb b d | false=>false
 | _,_=>false
theorem CX {a b:Int} (h:Bj a b=true):a=b:=by
 cases a <;> cases b <;> simp [Bj] at h <;> rw [h]
theorem D.Yq: ∀{a b:D},D.eqb a b=true→a=b
 | .i a,.i b,h=>by simp only [D.eqb] at h; rw [CX h]
 | .p a b,.p c d,h=>by
   simp only [D.eqb] at h
   split at h
   ·rename_i h1; rw [D.Yq h1,D.Yq h]
   ·simp at h
 | .i _,.p _ _,h=>by simp [D.eqb] at h
 | .p _ _,.i _,h=>by simp [D.eqb] at h
def gG:SE→SE→Bool
 | .lit a,.lit b=>a == b
 | .aC i,.aC j=>Nat.beq i j
 | .add a b,.add c d=>match gG a c with | true=>gG b d | false=>false
 | .sub a b,.sub c d=>match gG a c with | true=>gG b d | false=>false
 | .mul a b,.mul c d=>match gG a c with | true=>gG b d | false=>false
 | .quo a b,.quo c d=>match gG a c with | true=>gG b d | false=>false
 | .rem a b,.rem c d=>match gG a c with | true=>gG b d | false=>false
 | .wrap k a,.wrap l b=>match gG a b with | true=>decide (k=l) | false=>false
 | .inp i a,.inp j b=>match Nat.beq i j with | true=>gG a b | false=>false
 | .dat a,.dat b=>D.eqb a b
 | .op o a b,.op q c d=>match Nat.beq o.tag q.tag with
   | true=>match gG a c with | true=>gG b d | false=>false
   | false=>false
 | .ap f a,.ap g b=>match Nat.beq f g with | true=>gG a b | false=>false
 | _,_=>false
theorem bY: ∀(a b:SE),gG a b=true→a=b
 | .lit a,b,h=>by cases b <;> simp [gG] at h; rw [h]
 | .aC i,b,h=>by cases b <;> simp [gG] at h; rw [h]
 | .add a b,c,h=>by cases c <;> simp only [gG,Bool.false_eq_true] at h; split at h <;> first | (rename_i h1; rw [bY _ _ h1,bY _ _ h]; done) | simp at h
 | .sub a b,c,h=>by cases c <;> simp only [gG,Bool.false_eq_true] at h; split at h <;> first | (rename_i h1; rw [bY _ _ h1,bY _ _ h]; done) | simp at h
 | .mul a b,c,h=>by cases c <;> simp only [gG,Bool.false_eq_true] at h; split at h <;> first | (rename_i h1; rw [bY _ _ h1,bY _ _ h]; done) | simp at h
 | .quo a b,c,h=>by cases c <;> simp only [gG,Bool.false_eq_true] at h; split at h <;> first | (rename_i h1; rw [bY _ _ h1,bY _ _ h]; done) | simp at h
 | .rem a b,c,h=>by cases c <;> simp only [gG,Bool.false_eq_true] at h; split at h <;> first | (rename_i h1; rw [bY _ _ h1,bY _ _ h]; done) | simp at h
 | .wrap k a,c,h=>by cases c <;> simp only [gG,Bool.false_eq_true] at h; split at h <;> first | (rename_i h1; rw [bY _ _ h1,of_decide_eq_true h]; done) | simp at h
 | .inp i a,c,h=>by cases c <;> simp only [gG,Bool.false_eq_true] at h; split at h <;> first | (rename_i h1; rw [Nat.eq_of_beq_eq_true h1,bY _ _ h]; done) | simp at h
 | .dat a,c,h=>by cases c <;> simp only [gG,Bool.false_eq_true] at h; rw [D.Yq h]
 | .op o a b,c,h=>by
   cases c <;> simp only [gG,Bool.false_eq_true] at h
   split at h
   ·rename_i h0
    split at h
    ·rename_i h1
     rw [aH.aoF (Nat.eq_of_beq_eq_true h0),bY _ _ h1,bY _ _ h]
    ·simp at h
   ·simp at h
 | .ap f a,c,h=>by cases c <;> simp only [gG,Bool.false_eq_true] at h; split at h <;> first | (rename_i h1; rw [Nat.eq_of_beq_eq_true h1,bY _ _ h]; done) | simp at h
inductive SB where
 | lit (b:Bool)
 | lt (a b:SE)
 | le (a b:SE)
 | eq (a b:SE)
 | not (s:SB)
 | and (a b:SB)
 deriving DecidableEq,Inhabited
noncomputable def SB.den (ρ:Nat→Int):SB→Bool
 | .lit b=>b
 | .lt a b=>decide (a.den ρ < b.den ρ)
 | .le a b=>decide (a.den ρ≤b.den ρ)
 | .eq a b=>a.den ρ == b.den ρ
 | .not s=>!(s.den ρ)
 | .and a b=>a.den ρ && b.den ρ
def Am (k:IntKind) (n:Int):Int:=
 match k with
 | .i64=>if -9223372036854775808≤n∧n≤9223372036854775807 then n else k.wrap n
 | .u8=>if 0≤n∧n≤255 then n else k.wrap n
 | _=>k.wrap n
inductive WI where
 | exact (c:Nat)
 | rest (es:Nat)
 deriving DecidableEq,Inhabited
inductive AV where
 | bool (b:SB)
 | int (k:IntKind) (e:SE)
 | str (s:List Nat)
 | ptr (id off:Nat)
 | jH
 | qZ (cells:List AV)
 | slice (id off len:Nat) (c:WI)
 | aA
 | ro (cells:List AV) (n:Nat) (full:Bool)
 | map (id:Nat)
 | lX
 | func (fn:Fn) (fs cs:List AV)
 | yZ
 | iface (t:Nat) (v:AV)
 | Eh
 | agg (cs:List AV)
 | tuple (vs:List AV)
 | opq (i:Nat)
 | inp (k:Nat) (ks:List IntKind)
 | dat (e:SE) (t:Nat)
 | lY (e:SE)
 | uU (id:Nat) (n:SE) (t:Nat)
 | qC (id es:Nat) (i:SE) (off:Nat)
 | emp
 | Au (id:Nat) (lo n:SE) (t:Nat)
 | any
 | GL (z:SE) (t:Nat)
 deriving Inhabited
def AV.undef:AV:=.tuple []
def AV.cells:AV→List AV
 | .agg cs=>cs
 | v=>[v]
def AV.one:AV→Bool
 | .agg _=>false
 | .tuple _=>false
 | .opq _=>false
 | .any=>false
 | _=>true
inductive dW where
 | cells (cs:List AV) (e:TypeId)
 | map (es:List (AV×AV×Nat)) (clock:Nat)
 | nT (s:List Nat) (pos:Nat)
 | vec (e:SE) (t:Nat) (ty:TypeId) (ov:List (SE×List AV))
 | iO (e:SE) (t:Nat)
 deriving Inhabited
structure Hp where
 m:Tr dW
 next:Nat
 res:Option Nat:=none
 deriving Inhabited
def Hp.get (h:Hp) (i:Nat):Option dW:=h.m.get i
def Hp.put (h:Hp) (i:Nat) (o:dW):Hp:=⟨h.m.put i (some o),h.next,h.res⟩
def Hp.drop (h:Hp) (i:Nat):Hp:=⟨h.m.put i none,h.next,h.res⟩
def Hp.fresh (h:Hp):Nat:=match h.res with
 | none=>h.next
 | some r=>r
def Hp.new (h:Hp) (o:dW):Hp:=match h.res with
 | none=> ⟨h.m.put h.next (some o),h.next+1,none⟩
 | some r=> ⟨h.m.put r (some o),h.next,none⟩
inductive T (α:Type) where
 | fail
 | ret (a:α)
 | split (c:SB) (t f:T α)
 deriving Inhabited
def T.bind {α β:Type}:T α→(α→T β)→T β
 | .fail,_=> .fail
 | .ret a,f=>f a
 | .split c x y,f=> .split c (x.bind f) (y.bind f)
def T.leaf {α:Type} (ρ:Nat→Int):T α→Option α
 | .fail=>none
 | .ret a=>some a
 | .split c x y=>match c.den ρ with
   | true=>x.leaf ρ
   | false=>y.leaf ρ
inductive TK where
 | bool
 | int (k:IntKind)
 | string
 | pointer (e:Nat)
 | slice (e:Nat)
 | array (n e:Nat)
 | map (k e:Nat)
 | struct (fs:List (Nat×Nat×Nat))
 | func
 | iface (plain:Bool)
 | tuple
 deriving DecidableEq,Inhabited
structure TI where
 kind:TK
 size:Nat
 bytes:Nat
 zero:List AV
 eqs:Bool
 own:Option Nat:=none
 deriving Inhabited
def TK.agg (k:TK):Bool:=match k with | .struct _=>true | .array _ _=>true | _=>false
def TI.agg (i:TI):Bool:=i.kind.agg
abbrev TT:=Nat→Option TI
def bytesOf (s:ByteArray):List Nat:=s.data.toList.map (·.toNat)
def iV:Value→Option AV
 | .bool b=>some (.bool (.lit b))
 | .int k n=>some (.int k (.lit n))
 | .string s=>some (.str (bytesOf s))
 | .pointer none=>some .jH
 | .slice none 0 0=>some .aA
 | .map none=>some .lX
 | .nilFunc=>some .yZ
 | .nilIface=>some .Eh
 | .func fn f c=>if f.isEmpty && c.isEmpty then some (.func fn [] []) else none
 | _=>none
def nN:List Value→Option (List AV)
 | []=>some []
 | v :: vs=>match iV v with
   | none=>none
   | some a=>match nN vs with
     | none=>none
     | some aEB=>some (a :: aEB)
def ofConst:Value→Option AV
 | .agg cs=>(nN cs.toList).map .agg
 | .tuple vs=>(nN vs.toList).map .tuple
 | v=>iV v
def AY (a b:SE):SB:=match gG a b with
 | true=> .lit true
 | false=>match a with
   | .dat _=> .eq b a
   | _=> .eq a b
def OG (x:SE):SE:=match x with
 | .op o a _=>match o with
   | .mk=>a
   | _=> .op .num x (.lit 0)
 | .dat d=>match d with
   | .i n=> .lit n
   | _=> .op .num x (.lit 0)
 | _=> .op .num x (.lit 0)
def G5 (x:SE):SE:=match x with
 | .lit n=> .dat (.i n)
 | x=> .op .mk x (.lit 0)
def mQ (j:Nat) (x:SE):SE:=match x with
 | .op o a b=>match o with
   | .cons=>match j with
     | 0=>a
     | j+1=>mQ j b
   | _=> .op (.cell j) x (.lit 0)
 | _=> .op (.cell j) x (.lit 0)
def eP (x:SE):SE:=match x with
 | .op o a _=>match o with
   | .set=>eP a
   | _=> .op .len x (.lit 0)
 | .dat d=> .lit (Int.ofNat d.l.length)
 | _=> .op .len x (.lit 0)
def gW (a b:SE):SE:=.op .cons a b
def XM (x:SE):Bool:=match x with
 | .dat d=>match d with
   | .i n=>Bj n 0
   | _=>false
 | _=>false
def Ai (c:CK) (x:SE):AV:=match c with
 | .int k=> .int k (OG x)
 | .bool=> .bool (.not (.eq (OG x) (.lit 0)))
 | .str=> .lY x
 | .sl t=> .dat x t
def kV:List CK→Nat→SE→List AV
 | [],_,_=>[]
 | c :: cs,j,x=>Ai c (mQ j x) :: kV cs (j+1) x
def iY (r:Row) (x:SE):List AV:=match r with
 | .one c=>[Ai c x]
 | .many cs=>kV cs 0 x
def qX (x:SE):SE:=match x with
 | .dat d=> .dat d
 | .op o a b=>match o with
   | .cell j=> .op (.cell j) a b
   | .at=> .op .at a b
   | o=> .op .norm (.op o a b) (.lit 0)
 | x=> .op .norm x (.lit 0)
def Ak:AV→Option SE
 | .str l=>some (.dat (nX l))
 | .lY e=>some e
 | _=>none
def strEq (x y:AV):Option SB:=match Ak x with
 | none=>none
 | some a=>match Ak y with
   | none=>none
   | some b=>some (AY (qX a) (qX b))
def rF (c:CK) (v:AV):Option SE:=match c with
 | .int k=>match v with
   | .int k' e=>if k=k' then some (G5 e) else none
   | _=>none
 | .bool=>match v with
   | .bool c=>match c with
     | .lit b=>some (.dat (.i (if b then 1 else 0)))
     | .not d=>match d with
       | .eq x z=>match z with
         | .lit n=>if n=0 then some (.op .bit (G5 x) (.lit 0)) else none
         | _=>none
       | _=>none
     | _=>none
   | _=>none
 | .str=>Ak v
 | .sl t=>match v with
   | .dat e t'=>if t=t' then some e else none
   | .aA=>some (.dat (.i 1))
   | .GL z t'=>if t=t' then some z else none
   | .slice _ _ n _=>match n with
     | 0=>some (.dat (.i 2))
     | _=>none
   | _=>none
def codeCells:List CK→List AV→Option SE
 | [],[]=>some (.dat (.i 0))
 | c :: cs,v :: vs=>match rF c v with
   | none=>none
   | some a=>match codeCells cs vs with
     | none=>none
     | some b=>some (gW a b)
 | _,_=>none
def codeRow (r:Row) (cs:List AV):Option SE:=match r with
 | .one c=>match cs with
   | [v]=>rF c v
   | _=>none
 | .many ks=>codeCells ks cs
def sQ (r:Row) (e:SE):Nat→List AV→Option SE
 | 0,[]=>some e
 | 0,_ :: _=>none
 | m+1,cs=>match codeRow r (cs.take r.es) with
   | none=>none
   | some x=>sQ r (.op .snoc e x) m (cs.drop r.es)
structure St where
 slots:Tr AV
 h:Hp
 pc:List (SB×Bool)
 deriving Inhabited
def St.set (s:St) (t:Nat) (v:AV):St:={ s with slots:=s.slots.put t (some v) }
def St.UM (s:St) (d:Option Nat) (v:AV):St:=match d with | some t=>s.set t v | none=>s
def ev (s:St):Operand→Option AV
 | .tmp t=>s.slots.get t
 | .const v=>ofConst v
 | .func f=>some (.func (.func f) [] [])
 | .global _=>none
def evs (s:St):List Operand→Option (List AV)
 | []=>some []
 | x :: xs=>match ev s x with
   | none=>none
   | some a=>match evs s xs with
     | none=>none
     | some aEB=>some (a :: aEB)
def tK:SB→SB→Bool
 | .lit a,.lit b=>a == b
 | .lt a b,.lt c d=>match gG a c with | true=>gG b d | false=>false
 | .le a b,.le c d=>match gG a c with | true=>gG b d | false=>false
 | .eq a b,.eq c d=>match gG a c with | true=>gG b d | false=>false
 | .not a,.not b=>tK a b
 | .and a b,.and c d=>match tK a c with | true=>tK b d | false=>false
 | _,_=>false
theorem xO: ∀(a b:SB),tK a b=true→a=b
 | .lit a,b,h=>by cases b <;> simp [tK] at h; rw [h]
 | .lt a b,c,h=>by cases c <;> simp only [tK,Bool.false_eq_true] at h; split at h <;> first | (rename_i h1; rw [bY _ _ h1,bY _ _ h]; done) | simp at h
 | .le a b,c,h=>by cases c <;> simp only [tK,Bool.false_eq_true] at h; split at h <;> first | (rename_i h1; rw [bY _ _ h1,bY _ _ h]; done) | simp at h
 | .eq a b,c,h=>by cases c <;> simp only [tK,Bool.false_eq_true] at h; split at h <;> first | (rename_i h1; rw [bY _ _ h1,bY _ _ h]; done) | simp at h
 | .not a,c,h=>by cases c <;> simp only [tK,Bool.false_eq_true] at h; rw [xO _ _ h]
 | .and a b,c,h=>by cases c <;> simp only [tK,Bool.false_eq_true] at h; split at h <;> first | (rename_i h1; rw [xO _ _ h1,xO _ _ h]; done) | simp at h
def rC (c:SB):List (SB×Bool)→Option Bool
 | []=>none
 | (d,b) :: l=>match tK c d with
   | true=>some b
   | false=>rC c l
def ahZ (a:Option Int) (z:Int):Option Int:=match a with
 | none=>some z
 | some y=>some (if y < z then z else y)
def ahW (a:Option Int) (z:Int):Option Int:=match a with
 | none=>some z
 | some y=>some (if z < y then z else y)
def ahL (a:Option Int) (z:Int):Option Int:=match a with
 | none=>none
 | some y=>some (if y=z then z+1 else y)
def ahN (a:Option Int) (z:Int):Option Int:=match a with
 | none=>none
 | some y=>some (if y=z then z - 1 else y)
def aaZ (e:SE):Option Int×Option Int:=match e with
 | .rem a c=>match c with
   | .lit k=>match a with
     | .add b d=>match d with
       | .lit m=>match b with
         | .rem _ f=>match f with
           | .lit n=>if 0 < n∧n=m∧m=k then (some 0,some (n - 1)) else (none,none)
           | _=>(none,none)
         | _=>(none,none)
       | _=>(none,none)
     | _=>(none,none)
   | _=>(none,none)
 | .op o _ _=>match o with
   | .len=>(some 0,none)
   | _=>(none,none)
 | _=>(none,none)
def bounds (e:SE):List (SB×Bool)→Option Int×Option Int
 | []=>aaZ e
 | (c,v) :: l=>match c with
   | .lt x y=>match x with
     | .lit z=>match gG y e with
       | false=>bounds e l
       | true=>match bounds e l with
         | (lo,hi)=>match v with
           | true=>(ahZ lo (z+1),hi)
           | false=>(lo,ahW hi z)
     | x=>match y with
       | .lit z=>match gG x e with
         | false=>bounds e l
         | true=>match bounds e l with
           | (lo,hi)=>match v with
             | true=>(lo,ahW hi (z - 1))
             | false=>(ahZ lo z,hi)
       | _=>bounds e l
   | .eq x y=>match y with
     | .lit z=>match v with
       | false=>match gG x e with
         | false=>bounds e l
         | true=>match bounds e l with
           | (lo,hi)=>(ahL lo z,ahN hi z)
       | true=>match gG x e with
         | false=>bounds e l
         | true=>(some z,some z)
     | _=>bounds e l
   | _=>bounds e l
def uJ (e:SE) (pc:List (SB×Bool)):Option Int×Option Int:=match e with
 | .wrap k s=>match k with
   | .i64=>match s with
     | .add b d=>match d with
       | .lit c=>match bounds b pc with
         | (some lo,some hi)=>if -9223372036854775808≤lo+c∧hi+c≤9223372036854775807 then (match bounds e pc with
           | (l2,h2)=>(ahZ l2 (lo+c),ahW h2 (hi+c))) else bounds e pc
         | _=>bounds e pc
       | _=>bounds e pc
     | _=>bounds e pc
   | _=>bounds e pc
 | _=>bounds e pc
def Zz (a b:SE) (pc:List (SB×Bool)):Option Bool:=match rC (.eq a b) pc with
 | some v=>some v
 | none=>rC (.eq b a) pc
def decLt (pc:List (SB×Bool)) (a b:SE):Option Bool:=match rC (.lt a b) pc with
 | some v=>some v
 | none=>match a with
   | .lit z=>match uJ b pc with
     | (lo,hi)=>match lo with
       | some l=>if z < l then some true else match hi with
         | some h=>if h≤z then some false else none
         | none=>none
       | none=>match hi with
         | some h=>if h≤z then some false else none
         | none=>none
   | a=>match b with
     | .lit z=>match uJ a pc with
       | (lo,hi)=>match hi with
         | some h=>if h < z then some true else match lo with
           | some l=>if z≤l then some false else none
           | none=>none
         | none=>match lo with
           | some l=>if z≤l then some false else none
           | none=>none
     | b=>match Zz a b pc with
       | some true=>some false
       | some false=>match rC (.lt b a) pc with
         | some v=>some !v
         | none=>none
       | none=>match rC (.lt b a) pc with
         | some true=>some false
         | _=>none
def decEq (pc:List (SB×Bool)) (a b:SE):Option Bool:=match Zz a b pc with
 | some v=>some v
 | none=>match b with
   | .lit z=>match uJ a pc with
     | (lo,hi)=>match lo with
       | some l=>if z < l then some false else match hi with
         | some h=>if h < z then some false else if l=z∧h=z then some true else none
         | none=>none
       | none=>match hi with
         | some h=>if h < z then some false else none
         | none=>none
   | b=>match rC (.lt a b) pc with
     | some true=>some false
     | some false=>match rC (.lt b a) pc with
       | some v=>some !v
       | none=>none
     | none=>match rC (.lt b a) pc with
       | some true=>some false
       | _=>none
def JY (pc:List (SB×Bool)) (c:SB):Option Bool:=
 match c with
 | .lit b=>some b
 | .lt a b=>decLt pc a b
 | .eq a b=>decEq pc a b
 | c=>rC c pc
def lI (pc:List (SB×Bool)) (c:SB):Option Bool:=
 match c with
 | .not s=>(JY pc s).map (!·)
 | c=>JY pc c
def pY {α:Type} (s:St) (c:SB) (f:St→Bool→T α):T α:=
 match lI s.pc c with
 | some b=>f s b
 | none=>match c with
   | .not d=> .split d (f { s with pc:=(d,true) :: s.pc } false) (f { s with pc:=(d,false) :: s.pc } true)
   | c=> .split c (f { s with pc:=(c,true) :: s.pc } true) (f { s with pc:=(c,false) :: s.pc } false)
def agS (k:IntKind):SE→SE→SE
 | .lit x,.lit y=> .lit (Am k (x+y))
 | a,b=> .wrap k (.add a b)
def Zl (k:IntKind):SE→SE→SE
 | .lit x,.lit y=> .lit (Am k (x - y))
 | a,b=> .wrap k (.sub a b)
def agR (k:IntKind):SE→SE→SE
 | .lit x,.lit y=> .lit (Am k (x*y))
 | a,b=> .wrap k (.mul a b)
def kG:SE→SE→SB
 | .lit x,.lit y=> .lit (decide (x < y))
 | a,b=> .lt a b
def apC:SE→SE→SB
 | .lit x,.lit y=> .lit (decide (x≤y))
 | a,b=> .not (.lt b a)
def Dv:SE→SE→SB
 | .lit x,.lit y=> .lit (x == y)
 | .lit x,b=> .eq b (.lit x)
 | a,b=>match gG a b with
   | true=> .lit true
   | false=> .eq a b
def DL:SB→SB
 | .lit b=> .lit !b
 | .not s=>s
 | s=> .not s
def agU:SB→SB→SB
 | .lit true,b=>b
 | .lit false,_=> .lit false
 | a,.lit true=>a
 | _,.lit false=> .lit false
 | a,b=> .and a b
def bytesLess:List Nat→List Nat→Bool
 | _,[]=>false
 | [],_ :: _=>true
 | a :: x,b :: y=>if a.blt b then true else if a.beq b then bytesLess x y else false
def jC:List Nat→List Nat→Bool
 | [],[]=>true
 | a :: x,b :: y=>if a.beq b then jC x y else false
 | _,_=>false
def UJ (op:BinOp) (x y:List Nat):Option AV:=
 match op with
 | .add=>if x.length+y.length≤1000000 then some (.str (x++y)) else none
 | .eql=>some (.bool (.lit (jC x y)))
 | .neq=>some (.bool (.lit !(jC x y)))
 | .lss=>some (.bool (.lit (bytesLess x y)))
 | .leq=>some (.bool (.lit (bytesLess x y || jC x y)))
 | .gtr=>some (.bool (.lit !(bytesLess x y || jC x y)))
 | .geq=>some (.bool (.lit !(bytesLess x y)))
 | _=>none
def ZJ (op:BinOp) (k:IntKind) (a b:SE):Option AV:=
 match op with
 | .add=>some (.int k (agS k a b))
 | .sub=>some (.int k (Zl k a b))
 | .mul=>some (.int k (agR k a b))
 | .quo=>match a,b with
   | .lit x,.lit y=>if y=0 then none else some (.int k (.lit (Am k (x.tdiv y))))
   | a,.lit y=>if y=0 then none else some (.int k (.wrap k (.quo a (.lit y))))
   | _,_=>none
 | .rem=>match a,b with
   | .lit x,.lit y=>if y=0 then none else some (.int k (.lit (x.tmod y)))
   | a,.lit y=>if y=0 then none else some (.int k (.rem a (.lit y)))
   | _,_=>none
 | .shr=>match a,b with
   | .lit x,.lit y=>if y < 0 then none else some (.int k (.lit (x.fdiv (2 ^ (min y.toNat k.bits)))))
   | _,_=>none
 | .eql=>some (.bool (Dv a b))
 | .neq=>some (.bool (DL (Dv a b)))
 | .lss=>some (.bool (kG a b))
 | .leq=>some (.bool (apC a b))
 | .gtr=>some (.bool (kG b a))
 | .geq=>some (.bool (apC b a))
 | _=>none
def gK {α:Type}:List α→Nat→Option α
 | [],_=>none
 | x :: _,0=>some x
 | _ :: xs,n+1=>gK xs n
def JV (a b:SB):Option SB:=
 match a,b with
 | .lit x,.lit y=>some (.lit (x == y))
 | .lit x,b=>some (if x then b else DL b)
 | a,.lit y=>some (if y then a else DL a)
 | a,b=>some (.not (.and (.not (.and a b)) (.not (.and (.not a) (.not b)))))
def Yr (k:TK) (x y:AV):Option SB:=
 match k with
 | .int _=>match x,y with
   | .int k a,.int k' b=>if k=k' then some (Dv a b) else none
   | _,_=>none
 | .string=>match x,y with
   | .str a,.str b=>some (.lit (jC a b))
   | x,y=>strEq x y
 | .bool=>match x,y with
   | .bool a,.bool b=>JV a b
   | _,_=>none
 | _=>none
def ajY (tt:TT) (xs ys:List AV):List (Nat×Nat×Nat)→Option SB
 | []=>some (.lit true)
 | (off,ft,_) :: fs=>match tt ft with
   | none=>none
   | some i=>match gK xs off,gK ys off with
     | some x,some y=>match Yr i.kind x y with
       | none=>none
       | some c=>match ajY tt xs ys fs with
         | none=>none
         | some d=>some (agU c d)
     | _,_=>none
def JR (tt:TT) (t:Nat) (xs ys:List AV):Option SB:=
 match tt t with
 | none=>none
 | some i=>match i.kind with
   | .struct fs=>if i.eqs then ajY tt xs ys fs else none
   | _=>none
def nC:AV→Option Int
 | .int _ (.lit n)=>some n
 | _=>none
def isNil (k:TK) (x:AV):Option Bool:=
 match k with
 | .slice _=>match x with
   | .aA=>some true
   | .slice _ _ _ _=>some false
   | .ro _ _ _=>some false
   | .uU _ _ _=>some false
   | _=>none
 | .pointer _=>match x with
   | .jH=>some true
   | .ptr _ _=>some false
   | .qZ _=>some false
   | _=>none
 | .map _ _=>match x with
   | .lX=>some true
   | .map _=>some false
   | _=>none
 | _=>none
def aAG (k:TK) (x y:AV):Option SB:=
 match k with
 | .bool=>match x,y with
   | .bool a,.bool b=>JV a b
   | _,_=>none
 | k=>match isNil k x,isNil k y with
   | some true,some b=>some (.lit b)
   | some false,some true=>some (.lit false)
   | _,_=>none
def RG (op:BinOp) (c:Option SB):Option AV:=match c with
 | none=>none
 | some c=>match op with
   | .eql=>some (.bool c)
   | .neq=>some (.bool (.not c))
   | _=>none
def ajW (tt:TT) (t:Nat) (op:BinOp) (x y:AV):Option AV:=
 match x with
 | .int k a=>match y with
   | .int k' b=>match op with
     | .shr=>ZJ op k a b
     | .shl=>none
     | _=>if k=k' then ZJ op k a b else none
   | _=>none
 | .str a=>match y with
   | .str b=>UJ op a b
   | .lY e=>RG op (strEq (.str a) (.lY e))
   | _=>none
 | .lY e=>RG op (strEq (.lY e) y)
 | _=>match tt t with
   | none=>none
   | some i=>match op,aAG i.kind x y with
     | .eql,some c=>some (.bool c)
     | .neq,some c=>some (.bool (DL c))
     | _,_=>none
def aAE (op:UnOp) (x:AV):Option AV:=
 match op,x with
 | .not,.bool b=>some (.bool (DL b))
 | .neg,.int k e=>some (.int k (Zl k (.lit 0) e))
 | _,_=>none
def jR {α:Type}:Nat→List α→Option (List α)
 | 0,_=>some []
 | _+1,[]=>none
 | n+1,x :: xs=>match jR n xs with
   | some l=>some (x :: l)
   | none=>none
def fC {α:Type}:Nat→List α→Option (List α)
 | 0,l=>some l
 | _+1,[]=>none
 | n+1,_ :: xs=>fC n xs
def splice:List AV→Nat→List AV→Option (List AV)
 | cs,0,[]=>some cs
 | [],0,_ :: _=>none
 | _ :: cs,0,v :: vs=>match splice cs 0 vs with
   | some l=>some (v :: l)
   | none=>none
 | [],_+1,_=>none
 | c :: cs,n+1,vs=>match splice cs n vs with
   | some l=>some (c :: l)
   | none=>none
def xB:List AV→Bool
 | []=>true
 | v :: vs=>v.one && xB vs
def qK (h:Hp) (p:AV) (n:Nat):Option (List AV):=
 match p with
 | .ptr id off=>match h.get id with
   | some (.cells cs _)=>match fC off cs with
     | some l=>jR n l
     | none=>none
   | _=>none
 | .qZ cs=>jR n cs
 | _=>none
def Ie (tt:TT) (t:Nat) (p:AV) (h:Hp):Option AV:=
 match tt t with
 | none=>none
 | some i=>match i.agg with
   | true=>(qK h p i.size).map .agg
   | false=>match qK h p 1 with
     | some (v :: _)=>some v
     | _=>none
def Tc (tt:TT) (t:Nat) (p v:AV) (h:Hp):Option Hp:=
 match tt t with
 | none=>none
 | some i=>
   if v.cells.length=i.size && xB v.cells then
    match p with
    | .ptr id off=>match h.get id with
      | some (.cells cs e)=>match splice cs off v.cells with
        | some cs'=>some (h.put id (.cells cs' e))
        | none=>none
      | _=>none
    | _=>none
   else none
def zS (place:Nat→Option (Nat×Nat)) (cs:List AV):List (Nat×AV)→Option (List AV)
 | []=>some cs
 | (i,v) :: rest=>match place i with
   | none=>none
   | some (off,size)=>
     if v.cells.length=size && xB v.cells then
      match splice cs off v.cells with
      | some cs'=>zS place cs' rest
      | none=>none
     else none
def jS (tt:TT) (t:Nat):Option Nat:=(tt t).map (·.size)
def TG (tt:TT) (t:Nat) (parts:List (Nat×AV)):Option AV:=
 match tt t with
 | some i=>match i.kind with
   | .struct fs=>(zS (fun j=>(gK fs j).map fun f=>(f.1,f.2.2)) i.zero parts).map .agg
   | .array _ e=>match jS tt e with
     | some s=>(zS (fun j=>some (j*s,s)) i.zero parts).map .agg
     | none=>none
   | _=>none
 | none=>none
def repeatL {α:Type} (l:List α):Nat→List α
 | 0=>[]
 | n+1=>l++repeatL l n
def zV (tt:TT) (t len:Nat) (parts:List (Nat×AV)) (h:Hp):Option (AV×Hp):=
 match tt t with
 | some i=>match i.kind with
   | .slice e=>match tt e with
     | some ie=>
       if len≤1000∧ie.size≤1000∧ie.zero.length=ie.size then
        match zS (fun j=>some (j*ie.size,ie.size)) (repeatL ie.zero len) parts with
        | some cs=>some (.slice h.fresh 0 len (.exact len),h.new (.cells cs e))
        | none=>none
       else none
     | none=>none
   | _=>none
 | none=>none
def wJ (tt:TT) (t:Nat) (l c:AV) (h:Hp):Option (AV×Hp):=
 match nC l with
 | some (.ofNat n)=>match nC c with
   | some (.ofNat m)=>match tt t with
     | some i=>match i.kind with
       | .slice e=>match tt e with
         | some ie=>
           if n≤m∧m≤1000∧ie.size≤1000∧ie.bytes≤1000000∧ie.zero.length=ie.size then
            some (.slice h.fresh 0 n (.exact m),h.new (.cells (repeatL ie.zero m) e))
           else none
         | none=>none
       | _=>none
     | none=>none
   | _=>none
 | _=>none
def Zx (off:Nat) (x:AV):Option AV:=match x with
 | .ptr id o=>some (.ptr id (o+off))
 | .qC id es i o=>some (.qC id es i (o+off))
 | .qZ cs=>(fC off cs).map .qZ
 | _=>none
def partOf (i:TI) (l:List AV):Option AV:=match i.agg with
 | true=>(jR i.size l).map .agg
 | false=>match l with
   | v :: _=>some v
   | []=>none
def BH (tt:TT) (t:Nat) (p:AV) (f:Nat):Option AV:=
 match tt t with
 | some i=>match i.kind with
   | .struct fs=>match gK fs f with
     | some (off,_,size)=>match size with
       | 0=>none
       | _=>Zx off p
     | none=>none
   | _=>none
 | none=>none
def Tt (tt:TT) (t:Nat) (x:AV) (f:Nat):Option AV:=
 match tt t with
 | some i=>match i.kind with
   | .struct fs=>match gK fs f with
     | some (off,ft,_)=>match tt ft,x with
       | some fi,.agg cs=>match fC off cs with
         | some l=>partOf fi l
         | none=>none
       | _,_=>none
     | none=>none
   | _=>none
 | none=>none
def sN (tt:TT) (t:Nat) (x ix:AV):Option AV:=
 match nC ix with
 | some (.ofNat i)=>match tt t with
   | some ti=>match ti.kind with
     | .array n e=>if i < n then match jS tt e with
      | some s=>Zx (i*s) x
      | none=>none
      else none
     | .slice e=>match jS tt e with
       | some s=>match x with
         | .slice id o len _=>if i < len then some (.ptr id (o+i*s)) else none
         | .ro cs n _=>if i < n then (fC (i*s) cs).map .qZ else none
         | _=>none
       | none=>none
     | _=>none
   | none=>none
 | _=>none
def Bl (k:Nat) (e:SE):List IntKind→Nat→List AV
 | [],_=>[]
 | kd :: ks,j=> .int kd (.inp (k*8+j) e) :: Bl k e ks (j+1)
def Tn (tt:TT) (pc:List (SB×Bool)) (t k:Nat) (ks:List IntKind) (ix:AV):Option AV:=
 match ix with
 | .int _ e=>match tt t with
   | some ti=>match ti.kind with
     | .slice el=>match jS tt el with
       | some s=>if s=ks.length∧k < 8∧s≤8 then match lI pc (kG e (.lit 0)),lI pc (kG e (.aC (900+k))) with
        | some false,some true=>some (.qZ (Bl k e ks 0))
        | _,_=>none
        else none
       | none=>none
     | _=>none
   | none=>none
 | _=>none
def FY (tt:TT) (t:Nat) (x ix:AV):Option AV:=
 match nC ix with
 | some (.ofNat i)=>match tt t with
   | some ti=>match ti.kind,x with
     | .string,.str s=>(gK s i).map fun b=> .int .u8 (.lit (Int.ofNat b))
     | .array n e,.agg cs=>if i < n then match tt e with
      | some ie=>match fC (i*ie.size) cs with
        | some l=>partOf ie l
        | none=>none
      | none=>none
      else none
     | _,_=>none
   | none=>none
 | _=>none
def bnd (x:Option AV) (d:Nat) (y:Nat):Option Nat:=
 match x with
 | none=>if d≤y then some d else none
 | some v=>match nC v with
   | some (.ofNat i)=>if i≤y then some i else none
   | _=>none
def Td (tt:TT) (t:Nat) (x:AV) (lo hi mx:Option AV):Option AV:=
 match tt t with
 | none=>none
 | some ti=>match ti.kind with
   | .string=>match x,mx with
     | .str s,none=>match bnd hi s.length s.length with
       | some h=>match bnd lo 0 h with
         | some l=>some (.str ((s.take h).drop l))
         | none=>none
       | none=>none
     | _,_=>none
   | .slice e=>match jS tt e with
     | none=>none
     | some s=>match x with
       | .aA=>if mx.isSome && hi.isNone then none else match bnd hi 0 0,bnd lo 0 0,bnd mx 0 0 with
         | some _,some _,some _=>some .aA
         | _,_,_=>none
       | .slice id o len (.exact c)=>if mx.isSome && hi.isNone then none else match bnd mx c c with
         | none=>none
         | some m=>match bnd hi len m with
           | none=>none
           | some h=>match bnd lo 0 h with
             | none=>none
             | some l=>some (.slice id (o+l*s) (h - l) (.exact (m - l)))
       | .slice id o len (.rest es)=>match mx with
         | none=>match bnd hi len len with
           | none=>none
           | some h=>match bnd lo 0 h with
             | none=>none
             | some l=>if es=s then some (.slice id (o+l*s) (h - l) (.rest es)) else none
         | some _=>match hi,bnd mx 0 len with
           | none,_=>none
           | _,none=>none
           | some _,some m=>match bnd hi 0 m with
             | none=>none
             | some h=>match bnd lo 0 h with
               | none=>none
               | some l=>some (.slice id (o+l*s) (h - l) (.exact (m - l)))
       | .ro cs n full=>match mx with
         | none=>match bnd hi n n with
           | none=>none
           | some h=>match bnd lo 0 h with
             | none=>none
             | some l=>match fC (l*s) cs with
               | none=>none
               | some d=>match jR ((h - l)*s) d with
                 | none=>none
                 | some d'=>some (.ro d' (h - l) (full && h == n))
         | some _=>match hi,bnd mx 0 n with
           | none,_=>none
           | _,none=>none
           | some _,some m=>match bnd hi 0 m with
             | none=>none
             | some h=>match bnd lo 0 h with
               | none=>none
               | some l=>match fC (l*s) cs with
                 | none=>none
                 | some d=>match jR ((h - l)*s) d with
                   | none=>none
                   | some d'=>some (.ro d' (h - l) (h == m))
       | _=>none
   | .array n e=>match jS tt e with
     | none=>none
     | some s=>match x with
       | .ptr id o=>if mx.isSome && hi.isNone then none else match bnd mx n n with
         | none=>none
         | some m=>match bnd hi n m with
           | none=>none
           | some h=>match bnd lo 0 h with
             | none=>none
             | some l=>some (.slice id (o+l*s) (h - l) (.exact (m - l)))
       | _=>none
   | _=>none
def MK (tt:TT) (t:Nat) (x:AV) (lo hi mx:Option AV) (h:Hp):Option AV:=
 match mx with
 | some _=>none
 | none=>match tt t with
   | none=>none
   | some ti=>match ti.kind with
     | .slice e=>match jS tt e with
       | none=>none
       | some s=>match x with
         | .slice id o len (.rest es)=>if es=s∧0 < s then match h.get id with
          | some (.cells cs _)=>match bnd hi len ((cs.length - o) / s) with
            | none=>none
            | some hh=>match bnd lo 0 hh with
              | none=>none
              | some l=>some (.slice id (o+l*s) (hh - l) (.rest es))
          | _=>none
          else none
         | _=>none
     | _=>none
def BM:List AV→Option (List Nat)
 | []=>some []
 | .int .u8 (.lit (.ofNat b)) :: xs=>if b < 256 then match BM xs with
  | some l=>some (b :: l)
  | none=>none
  else none
 | _ :: _=>none
def uN (tt:TT) (sT dT:Nat) (x:AV) (h:Hp):Option (AV×Hp):=
 match tt sT with
 | none=>none
 | some j=>match tt dT with
 | some i=>match i.kind with
   | .int k=>match x with
     | .int _ (.lit n)=>some (.int k (.lit (Am k n)),h)
     | .int _ e=>some (.int k (.wrap k e),h)
     | _=>none
   | .string=>match j.kind with
    | .string=>match x with
      | .str s=>some (.str s,h)
      | _=>none
    | .slice e=>match tt e with
      | none=>none
      | some ie=>if ie.kind= .int .u8∧ie.size=1 then match x with
       | .aA=>some (.str [],h)
       | .slice id o len _=>match qK h (.ptr id o) len with
         | some cs=>(BM cs).map fun l=>(.str l,h)
         | none=>none
       | _=>none
       else none
    | _=>none
   | .slice e=>match tt e with
     | none=>none
     | some ie=>if ie.kind= .int .u8∧j.kind= .string then match x with
      | .str s=>some (.slice h.fresh 0 s.length (.rest 1),h.new (.cells (s.map fun c=> .int .u8 (.lit (Int.ofNat c))) e))
      | _=>none
      else none
   | _=>none
 | none=>none
def ZF (pc:List (SB×Bool)) (kk:TK) (a b:AV):Option Bool:=
 match kk with
 | .int _=>match a,b with
   | .int k x,.int k' y=>if k=k' then lI pc (Dv x y) else none
   | _,_=>none
 | .string=>match a,b with
   | .str x,.str y=>some (jC x y)
   | x,y=>match strEq x y with
     | some c=>lI pc c
     | none=>none
 | .bool=>match a,b with
   | .bool (.lit x),.bool (.lit y)=>some (x == y)
   | _,_=>none
 | _=>none
def I4 (pc:List (SB×Bool)) (kk:TK) (k:AV):List (AV×AV×Nat)→Nat→Option (Option (Nat×AV))
 | [],_=>some none
 | (k',v,_) :: es,i=>match ZF pc kk k k' with
   | some true=>some (some (i,v))
   | some false=>I4 pc kk k es (i+1)
   | none=>none
def xM (k v:AV):List (AV×AV×Nat)→Nat→List (AV×AV×Nat)
 | [],_=>[]
 | (_,_,b) :: es,0=>(k,v,b) :: es
 | e :: es,n+1=>e :: xM k v es n
def vN {α:Type}:List α→Nat→List α
 | [],_=>[]
 | _ :: xs,0=>xs
 | x :: xs,n+1=>x :: vN xs n
def CU (tt:TT) (t:Nat):Option TK:=match tt t with
 | some i=>match i.kind with
   | .int k=>some (.int k)
   | .string=>some .string
   | .bool=>some .bool
   | _=>none
 | none=>none
def zeroOf (i:TI):Option AV:=
 match i.agg with
 | true=>some (.agg i.zero)
 | false=>match i.zero with
   | [v]=>some v
   | _=>none
def Sm (m:AV) (h:Hp):Option (List (AV×AV×Nat)):=match m with
 | .lX=>some []
 | .map id=>match h.get id with
   | some (.map es _)=>some es
   | _=>none
 | _=>none
def MO (tt:TT) (pc:List (SB×Bool)) (t:Nat) (m k:AV) (ok:Bool) (h:Hp):Option AV:=
 match tt t with
 | some ti=>match ti.kind with
   | .map kt et=>
     match CU tt kt with
     | none=>none
     | some kk=>
       match tt et with
       | none=>none
       | some ie=>
         match Sm m h with
         | none=>none
         | some es=>match I4 pc kk k es 0 with
           | none=>none
           | some (some (_,v))=>some (if ok then .tuple [v,.bool (.lit true)] else v)
           | some none=>match zeroOf ie with
             | none=>none
             | some z=>some (if ok then .tuple [z,.bool (.lit false)] else z)
   | _=>none
 | none=>none
def wI (tt:TT) (pc:List (SB×Bool)) (t:Nat) (m k v:AV) (h:Hp):Option Hp:=
 match tt t with
 | some ti=>match ti.kind with
   | .map kt _=>
     match CU tt kt with
     | none=>none
     | some kk=>match m with
       | .map id=>match h.get id with
         | some (.map es c)=>match I4 pc kk k es 0 with
           | none=>none
           | some (some (i,_))=>some (h.put id (.map (xM k v es i) c))
           | some none=>some (h.put id (.map (es++ [(k,v,c)]) (c+1)))
         | _=>none
       | _=>none
   | _=>none
 | none=>none
def MS (tt:TT) (pc:List (SB×Bool)) (t:Nat) (m k:AV) (h:Hp):Option Hp:=
 match tt t with
 | some ti=>match ti.kind with
   | .map kt _=>
     match CU tt kt with
     | none=>none
     | some kk=>match m with
       | .lX=>some h
       | .map id=>match h.get id with
         | some (.map es c)=>match I4 pc kk k es 0 with
           | none=>none
           | some (some (i,_))=>some (h.put id (.map (vN es i) c))
           | some none=>some (h.put id (.map es c))
         | _=>none
       | _=>none
   | _=>none
 | none=>none
def ajU (tt:TT) (t:Nat) (x:AV) (h:Hp):Option AV:=
 let n (k:Nat):Option AV:=some (.int .i64 (.lit (Int.ofNat k)))
 match tt t with
 | some ti=>match ti.kind with
   | .string=>match x with
     | .str s=>n s.length
     | .lY e=>some (.int .i64 (eP e))
     | _=>none
   | .slice _=>match x with
     | .aA=>n 0
     | .emp=>n 0
     | .GL _ _=>n 0
     | .slice _ _ len _=>n len
     | .ro _ k _=>n k
     | .dat e _=>some (.int .i64 (eP e))
     | .uU _ e _=>some (.int .i64 e)
     | .Au _ _ e _=>some (.int .i64 e)
     | .inp k _=>some (.int .i64 (.aC (900+k)))
     | _=>none
   | .array k _=>n k
   | .map _ _=>match x with
     | .lX=>n 0
     | .map id=>match h.get id with
       | some (.map es _)=>n es.length
       | some (.iO e _)=>some (.int .i64 (eP e))
       | _=>none
     | _=>none
   | _=>none
 | none=>none
def xH (s:Nat) (x:AV) (h:Hp):Option (Nat×List AV):=
 match x with
 | .aA=>some (0,[])
 | .slice id o len _=>(qK h (.ptr id o) (len*s)).map fun l=>(len,l)
 | .ro cs n _=>(jR (n*s) cs).map fun l=>(n,l)
 | .str b=>if s=1 then some (b.length,b.map fun c=> .int .u8 (.lit (Int.ofNat c))) else none
 | _=>none
def wW (ie:TI) (e len m:Nat) (cs:List AV) (h:Hp):Option (AV×Hp):=
 if (len+m)*ie.bytes≤140737488355328 then some (.slice h.fresh 0 (len+m) (.rest ie.size),h.new (.cells cs e)) else none
def BQ (ie:TI) (e m:Nat) (news:List AV) (x:AV) (h:Hp):Option (AV×Hp):=
 match x with
 | .aA=>if m=0 then some (.aA,h) else wW ie e 0 m news h
 | .slice id o len (.exact c)=>
   if len+m≤c then
    match h.get id with
    | some (.cells cs e')=>match splice cs (o+len*ie.size) news with
      | some cs'=>some (.slice id o (len+m) (.exact c),h.put id (.cells cs' e'))
      | none=>none
    | _=>none
   else match qK h (.ptr id o) (len*ie.size) with
    | some old=>wW ie e len m (old++news) h
    | none=>none
 | .slice id o len (.rest es)=>
   if es=ie.size then
    match h.get id with
    | some (.cells cs e')=>
      if o+(len+m)*ie.size≤cs.length then
       match splice cs (o+len*ie.size) news with
       | some cs'=>some (.slice id o (len+m) (.rest es),h.put id (.cells cs' e'))
       | none=>none
      else if o+len*ie.size=cs.length∧e'=e then
       match fC o cs with
       | some old=>wW ie e len m (old++news) (h.drop id)
       | none=>none
      else none
    | _=>none
   else none
 | .ro cs n full=>
   if m=0 then some (.ro cs n full,h)
   else if full then match jR (n*ie.size) cs with
    | some old=>wW ie e n m (old++news) h
    | none=>none
   else none
 | _=>none
def MV (tt:TT) (t t2:Nat) (x y:AV) (h:Hp):Option (AV×Hp):=
 match tt t with
 | some ti=>match ti.kind with
   | .slice e=>match tt e with
     | some ie=>match tt t2 with
       | none=>none
       | some ti2=>match ti2.kind with
         | .int _=>none
         | _=>
           if ie.size=0∨ie.bytes=0∨¬ie.zero.length=ie.size then none else
           match xH ie.size y h with
           | none=>none
           | some (m,news)=>BQ ie e m news x h
     | none=>none
   | _=>none
 | none=>none
def TB (tt:TT) (t:Nat) (x:AV) (h:Hp):Option Hp:=
 match tt t with
 | some ti=>match ti.kind with
   | .slice e=>match tt e with
     | some ie=>match x with
       | .aA=>some h
       | .GL _ _=>some h
       | .slice id o len _=>match len with
         | 0=>some h
         | _=>match ie.zero with
           | []=>none
           | _=>match h.get id with
             | some (.cells cs e')=>match splice cs o (repeatL ie.zero len) with
               | some cs'=>some (h.put id (.cells cs' e'))
               | none=>none
             | _=>none
       | _=>none
     | none=>none
   | _=>none
 | none=>none
def Tf (tt:TT) (t:Nat) (x:AV) (h:Hp):Option (AV×Hp):=
 match tt t with
 | some ti=>match ti.kind with
   | .string=>match x with
     | .str b=>some (.ptr h.fresh 0,h.new (.nT b 0))
     | _=>none
   | _=>none
 | none=>none
def Yc (x:AV) (isS:Bool) (h:Hp):Option (AV×Hp):=
 match isS with
 | false=>none
 | true=>match x with
   | .ptr id 0=>match h.get id with
     | some (.nT b p)=>match gK b p with
       | none=>some (.tuple [.bool (.lit false)],h)
       | some c=>if c < 128 then some (.tuple [.bool (.lit true),.int .i64 (.lit (Int.ofNat p)),.int .i32 (.lit (Int.ofNat c))],h.put id (.nT b (p+1))) else none
     | _=>none
   | _=>none
def zO (mx:Bool):List AV→SE→IntKind→St→T (AV×St)
 | [],a,k,s=> .ret (.int k a,s)
 | .int _ b :: xs,a,k,s=>pY s (if mx then kG a b else kG b a) fun s c=>if c then zO mx xs b k s else zO mx xs a k s
 | _,_,_,_=> .fail
def P8 (k:IntKind) (r:SE):Nat→Int→St→T (AV×St)
 | 0,j,s=> .ret (.int k (.lit j),s)
 | n+1,j,s=>pY s (Dv r (.lit j)) fun s b=>match b with
   | true=> .ret (.int k (.lit j),s)
   | false=>P8 k r n (j+1) s
def axN (s:St) (k:IntKind) (e:SE) (n:Nat):T (AV×St):=
 match lI s.pc (kG e (.lit 0)) with
 | some false=>P8 k (.rem e (.lit (Int.ofNat (n+1)))) n 0 s
 | _=>P8 k (.rem e (.lit (Int.ofNat (n+1)))) (n+n) (Int.negOfNat n) s
def Xx (op:BinOp) (a b:AV):Option (IntKind×SE×Nat):=
 match op with
 | .rem=>match a with
   | .int k e=>match b with
     | .int k' d=>match d with
       | .lit z=>match z with
         | .ofNat m=>match m with
           | 0=>none
           | n+1=>match e with
             | .lit _=>none
             | e=>if k=k'∧n < 64 then some (k,e,n) else none
         | _=>none
       | _=>none
     | _=>none
   | _=>none
 | _=>none
def xU (s:St) (v:Option AV):T (AV×St):=match v with | some v=> .ret (v,s) | none=> .fail
def Xu (s:St) (h:Option Hp):T (AV×St):=match h with | some h=> .ret (AV.undef,{ s with h:=h }) | none=> .fail
def IE (s:St) (r:Option (AV×Hp)):T (AV×St):=match r with | some (v,h)=> .ret (v,{ s with h:=h }) | none=> .fail
def P5 (s:St):Option Operand→Option (Option AV)
 | none=>some none
 | some x=>(ev s x).map some
def Dh (s:St):List (Nat×Operand)→Option (List (Nat×AV))
 | []=>some []
 | (i,x) :: xs=>match ev s x with
   | none=>none
   | some a=>match Dh s xs with
     | none=>none
     | some aEB=>some ((i,a) :: aEB)
def Fb {α:Type} (s:St) (i n:SE) (f:St→T α):T α:=
 pY s (kG i (.lit 0)) fun s b=>match b with
  | true=> .fail
  | false=>pY s (kG i n) fun s b=>match b with
    | true=>f s
    | false=> .fail
def XD (tt:TT) (t:Nat) (a b:AV):Option SE:=match a with
 | .dat e _=>match b with
   | .aA=>match tt t with
     | some ti=>match ti.kind with
       | .slice _=>some e
       | _=>none
     | none=>none
   | _=>none
 | _=>none
def ahT (s:St) (op:BinOp) (r:Bool):T (AV×St):=match op with
 | .eql=> .ret (.bool (.lit r),s)
 | .neq=> .ret (.bool (.lit (!r)),s)
 | _=> .fail
def axU (s:St) (e:SE) (op:BinOp):T (AV×St):=pY s (kG (.lit 0) (eP e)) fun s b=>match b with
 | true=>ahT s op false
 | false=>pY s (AY (qX e) (.dat (.i 1))) fun s b=>match b with
   | true=>ahT s op true
   | false=>pY s (AY (qX e) (.dat (.i 2))) fun s b=>match b with
     | true=>ahT s op false
     | false=> .fail
def aBV (kk:TK) (a b:AV):Option SB:=match kk with
 | .int _=>match a with
   | .int k x=>match b with
     | .int k' y=>if k=k' then some (Dv x y) else none
     | _=>none
   | _=>none
 | .string=>strEq a b
 | _=>none
def Ae {α:Type} (kk:TK) (k:AV):List (AV×AV×Nat)→St→(St→T α)→T α
 | [],s,f=>f s
 | (k',_,_) :: es,s,f=>match ZF s.pc kk k k' with
   | some b=>match b with
     | true=>f s
     | false=>Ae kk k es s f
   | none=>match aBV kk k k' with
     | some c=>pY s c fun s b=>match b with
       | true=>f s
       | false=>Ae kk k es s f
     | none=>f s
def rW {α:Type} (tt:TT) (t:Nat) (m k:AV) (s:St) (f:St→T α):T α:=match tt t with
 | some ti=>match ti.kind with
   | .map kt _=>match CU tt kt with
     | some kk=>match Sm m s.h with
       | some es=>Ae kk k es s f
       | none=>f s
     | none=>f s
   | _=>f s
 | none=>f s
def VJ (k:IntKind) (e:SE) (f:AV→St→T (AV×St)):Nat→Nat→St→T (AV×St)
 | 0,_,_=> .fail
 | n+1,j,s=>match n with
   | 0=>f (.int k (.lit (Int.ofNat j))) s
   | _=>pY s (Dv e (.lit (Int.ofNat j))) fun s b=>match b with
     | true=>f (.int k (.lit (Int.ofNat j))) s
     | false=>VJ k e f n (j+1) s
def aCk (tt:TT) (t:Nat) (x:AV):Option Nat:=match tt t with
 | some ti=>match ti.kind with
   | .array n _=>if n≤64 then some n else none
   | .slice _=>match x with
     | .slice _ _ len _=>if len≤64 then some len else none
     | _=>none
   | _=>none
 | none=>none
def QO (tt:TT) (t:Nat) (x ix:AV) (s:St) (f:AV→St→T (AV×St)):T (AV×St):=match nC ix with
 | some _=>f ix s
 | none=>match ix with
   | .int k e=>match aCk tt t x with
     | some n=>Fb s e (.lit (Int.ofNat n)) fun s=>VJ k e f n 0 s
     | none=> .fail
   | _=> .fail
def zX (tt:TT) (ty:Nat):Option Nat:=match tt ty with
 | some ti=>match ti.kind with
   | .slice el=>jS tt el
   | _=>none
 | none=>none
def TA (tt:TT) (s:St) (ty t:Nat) (e:SE) (ix:AV):T (AV×St):=match ix with
 | .int _ i=>match zX tt ty with
   | some z=>if z=(rowOf t).es then Fb s i (eP e) fun s=> .ret (.qZ (iY (rowOf t) (.op .at e i)),s) else .fail
   | none=> .fail
 | _=> .fail
def SX (tt:TT) (s:St) (ty id t:Nat) (n:SE) (ix:AV):T (AV×St):=match ix with
 | .int _ i=>match zX tt ty with
   | some z=>if z=(rowOf t).es then Fb s i n fun s=> .ret (.qC id z i 0,s) else .fail
   | none=> .fail
 | _=> .fail
def sF (pc:List (SB×Bool)) (dflt:List AV) (i:SE):List (SE×List AV)→Option (List AV)
 | []=>some dflt
 | (j,cs) :: l=>match gG i j with
   | true=>some cs
   | false=>match lI pc (Dv i j) with
     | some b=>match b with
       | true=>some cs
       | false=>sF pc dflt i l
     | none=>none
def OV (pc:List (SB×Bool)) (i:SE) (cs':List AV):List (SE×List AV)→Option (List (SE×List AV))
 | []=>none
 | (j,cs) :: l=>match gG i j with
   | true=>some ((j,cs') :: l)
   | false=>match lI pc (Dv i j) with
     | some b=>match b with
       | true=>some ((j,cs') :: l)
       | false=>match OV pc i cs' l with
         | some l'=>some ((j,cs) :: l')
         | none=>none
     | none=>none
def BU (pc:List (SB×Bool)) (i:SE):List (SE×List AV)→Bool
 | []=>true
 | (j,_) :: l=>match lI pc (Dv i j) with
   | some false=>BU pc i l
   | _=>false
def AL {α:Type} (i:SE):List (SE×List AV)→St→(St→T α)→T α
 | [],s,k=>k s
 | (j,_) :: l,s,k=>match gG i j with
   | true=>k s
   | false=>pY s (Dv i j) fun s b=>match b with
     | true=>k s
     | false=>AL i l s k
def LG (k:IntKind):List AV→Option (List D)
 | []=>some []
 | v :: vs=>match v with
   | .int k' e=>match e with
     | .lit n=>if k=k' then match LG k vs with
      | some ds=>some (.i n :: ds)
      | none=>none
      else none
     | _=>none
   | _=>none
def aoH:List AV→Option IntKind
 | v :: _=>match v with
   | .int k _=>some k
   | _=>none
 | []=>none
def aaX (tt:TT) (t:Nat) (ix:AV):Option (Nat×SE):=match nC ix with
 | some _=>none
 | none=>match ix with
   | .int _ e=>match tt t with
     | some ti=>match ti.kind with
       | .array n el=>if 64 < n then match tt el with
        | some ie=>if ie.size=1∧ie.agg=false then some (n,e) else none
        | none=>none
        else none
       | _=>none
     | none=>none
   | _=>none
def PY (s:St) (cs:List AV) (e:SE):T (AV×St):=match aoH cs with
 | none=> .fail
 | some k=>match LG k cs with
   | none=> .fail
   | some ds=>Fb s e (.lit (Int.ofNat ds.length)) fun s=> .ret (.int k (OG (.op .at (.dat (dL ds)) e)),s)
def FX (tt:TT) (s:St) (ty id es:Nat) (i:SE) (off:Nat):T (AV×St):=match s.h.get id with
 | some o=>match o with
   | .cells cs _=>match tt ty with
     | some ti=>match ti.agg || !(Nat.beq es 1) || !(Nat.beq off 0) with
       | true=> .fail
       | false=>PY s cs i
     | none=> .fail
   | .vec e t _ ov=>match tt ty with
     | some ti=>if (rowOf t).es=es then Fb s i (eP e) fun s=>AL i ov s fun s=>match sF s.pc (iY (rowOf t) (.op .at e i)) i ov with
      | some cs=>match fC off cs with
        | some l=>xU s (partOf ti l)
        | none=> .fail
      | none=> .fail
      else .fail
     | none=> .fail
   | _=> .fail
 | none=> .fail
def frz (v:AV) (h:Hp):AV×Hp:=match v with
 | .uU id n t=>match h.get id with
   | some o=>match o with
     | .vec e t' _ ov=>match ov with
       | []=>match Nat.beq t t' with
         | true=>match gG n (eP e) with
           | true=>(.dat e t,h.drop id)
           | false=>(v,h)
         | false=>(v,h)
       | _=>(v,h)
     | _=>(v,h)
   | none=>(v,h)
 | .GL z t=>(.dat z t,h)
 | v=>(v,h)
def isZ (e:SE):Bool:=match e with
 | .lit n=>Bj n 0
 | _=>false
def yK (a b:SE):SE:=match isZ a with
 | true=>b
 | false=> .add a b
def Ky (a b:SE):SE:=match isZ b with
 | true=>a
 | false=> .sub a b
def RX (e lo n:SE):SE:=match isZ lo with
 | true=> .op .take e n
 | false=> .op .drop (.op .take e (.add lo n)) lo
def Ho {α:Type} (e lo n:SE) (s:St) (k:St→T α):T α:=
 pY s (kG lo (.lit 0)) fun s b=>match b with
  | true=> .fail
  | false=>pY s (kG n (.lit 0)) fun s b=>match b with
    | true=> .fail
    | false=>pY s (kG (eP e) (yK lo n)) fun s b=>match b with
      | true=> .fail
      | false=>k s
def Om (h:Hp) (id t:Nat):Option (SE×TypeId):=match h.get id with
 | some o=>match o with
   | .vec e t' ty ov=>match ov with
     | []=>match Nat.beq t t' with
       | true=>some (e,ty)
       | false=>none
     | _=>none
   | _=>none
 | none=>none
def acW {α:Type} (v:AV) (s:St) (k:AV→St→T α):T α:=match v with
 | .Au id lo n t=>match Om s.h id t with
   | some (e,_)=>Ho e lo n s fun s=>k (.dat (RX e lo n) t) { s with h:=s.h.drop id }
   | none=>k v s
 | v=>match frz v s.h with
   | (v',h')=>k v' { s with h:=h' }
def PN {α:Type}:List AV→St→(List AV→St→T α)→T α
 | [],s,k=>k [] s
 | v :: vs,s,k=>acW v s fun v' s=>PN vs s fun vs' s=>k (v' :: vs') s
def O1 {α:Type} (t:Nat):List (SE×List AV)→SE→St→(SE→St→T α)→T α
 | [],e,s,k=>k e s
 | (j,cs) :: ov,e,s,k=>O1 t ov e s fun e s=>PN cs s fun cs s=>match codeRow (rowOf t) cs with
   | some x=>k (.op .set e (gW (G5 j) x)) s
   | none=> .fail
def axQ (v:AV) (h:Hp):Option (Nat×SE×Nat×List (SE×List AV)):=match v with
 | .uU id n t=>match h.get id with
   | some o=>match o with
     | .vec e t' _ ov=>match ov with
       | []=>none
       | _=>match Nat.beq t t' with
         | true=>match gG n (eP e) with
           | true=>some (id,e,t,ov)
           | false=>none
         | false=>none
     | _=>none
   | none=>none
 | _=>none
def acV {α:Type} (v:AV) (s:St) (k:AV→St→T α):T α:=match axQ v s.h with
 | some (id,e,t,ov)=>O1 t ov e s fun e' s=>match s.h.get id with
   | some _=>k (.dat e' t) { s with h:=s.h.drop id }
   | none=> .fail
 | none=>acW v s k
def FN {α:Type}:List AV→St→(List AV→St→T α)→T α
 | [],s,k=>k [] s
 | v :: vs,s,k=>acV v s fun v' s=>FN vs s fun vs' s=>k (v' :: vs') s
def setCells:List CK→Nat→List AV→SE→Option SE
 | _,_,[],x=>some x
 | ks,off,v :: vs,x=>match gK ks off with
   | some c=>match rF c v with
     | some a=>setCells ks (off+1) vs (.op .set x (gW (.dat (.i (Int.ofNat off))) a))
     | none=>none
   | none=>none
def TY (r:Row) (e i:SE) (off:Nat) (vs:List AV):Option SE:=match r with
 | .one c=>match off with
   | 0=>match vs with
     | [v]=>match rF c v with
       | some a=>some (.op .set e (gW (G5 i) a))
       | none=>none
     | _=>none
   | _=>none
 | .many ks=>match setCells ks off vs (.op .at e i) with
   | some x=>some (.op .set e (gW (G5 i) x))
   | none=>none
def MI (tt:TT) (s:St) (ty id es:Nat) (i:SE) (off:Nat) (one:Bool) (vs:List AV):T (AV×St):=
 match s.h.get id with
  | some o=>match o with
    | .vec e t GV ov=>match tt ty with
      | some ti=>if (rowOf t).es=es∧vs.length=ti.size∧one=true then Fb s i (eP e) fun s=>AL i ov s fun s=>match sF s.pc (iY (rowOf t) (.op .at e i)) i ov with
       | some cs=>match splice cs off vs with
         | some cs'=>match OV s.pc i cs' ov with
           | some vX=> .ret (AV.undef,{ s with h:=s.h.put id (.vec e t GV vX) })
           | none=>match BU s.pc i ov with
             | true=>match TY (rowOf t) e i off vs with
               | some e'=> .ret (AV.undef,{ s with h:=s.h.put id (.vec e' t GV ov) })
               | none=> .ret (AV.undef,{ s with h:=s.h.put id (.vec e t GV ((i,cs') :: ov)) })
             | false=> .fail
         | none=> .fail
       | none=> .fail
       else .fail
      | none=> .fail
    | _=> .fail
  | none=> .fail
def aBW:AV→Bool
 | .uU _ _ _=>true
 | .aA=>true
 | .GL _ _=>true
 | .slice _ _ n c=>match n with
   | 0=>match c with
     | .exact k=>match k with
       | 0=>true
       | _=>false
     | _=>false
   | _=>false
 | _=>false
def ayX (c:CK) (v:AV):AV:=match c with
 | .sl t=>match v with
   | .aA=> .GL (.dat (.i 1)) t
   | .slice i o n k=>match n with
     | 0=>match k with
       | .exact m=>match m with
         | 0=> .GL (.dat (.i 2)) t
         | m+1=> .slice i o 0 (.exact (m+1))
       | k=> .slice i o 0 k
     | n+1=> .slice i o (n+1) k
   | v=>v
 | _=>v
def Vr:List CK→List AV→List AV
 | [],vs=>vs
 | _ :: _,[]=>[]
 | c :: cs,v :: vs=>ayX c v :: Vr cs vs
def Xt (r:Row):List CK:=match r with
 | .one c=>[c]
 | .many cs=>cs
def ZW (i:SE):List (SB×Bool)→Option SE
 | []=>none
 | (c,b) :: l=>match c with
   | .eq x y=>match b with
     | true=>match gG x i with
       | true=>some y
       | false=>ZW i l
     | false=>ZW i l
   | _=>ZW i l
def MH (tt:TT) (s:St) (ty id es:Nat) (i j:SE) (off:Nat) (one:Bool) (vs:List AV):T (AV×St):=
 match s.h.get id with
  | some o=>match o with
    | .vec e t GV ov=>match tt ty with
      | some ti=>if (rowOf t).es=es∧vs.length=ti.size∧one=true then Fb s i (eP e) fun s=>AL j ov s fun s=>match lI s.pc (.eq i j) with
       | some true=>match sF s.pc (iY (rowOf t) (.op .at e j)) j ov with
         | some cs=>match splice cs off (Vr ((Xt (rowOf t)).drop off) vs) with
           | some cs'=>match OV s.pc j cs' ov with
             | some vX=> .ret (AV.undef,{ s with h:=s.h.put id (.vec e t GV vX) })
             | none=>match BU s.pc j ov with
               | true=> .ret (AV.undef,{ s with h:=s.h.put id (.vec e t GV ((j,cs') :: ov)) })
               | false=> .fail
           | none=> .fail
         | none=> .fail
       | _=> .fail
       else .fail
      | none=> .fail
    | _=> .fail
  | none=> .fail
def MJ (tt:TT) (s:St) (ty id es:Nat) (i:SE) (off:Nat) (v:AV):T (AV×St):=
 match (if aBW v then ZW i s.pc else none) with
 | some j=>MH tt s ty id es i j off (xB v.cells) v.cells
 | none=>FN v.cells s fun vs s=>MI tt s ty id es i off (xB v.cells) vs
def BP (e:Nat) (own:Option Nat) (x:AV) (h:Hp):Option (SE×Nat×Hp):=match x with
 | .uU id n t=>match h.get id with
   | some o=>match o with
     | .vec e0 t0 ty ov=>match ov with
       | []=>match Nat.beq t t0 with
         | true=>match Nat.beq ty e with
           | true=>match gG n (eP e0) with
             | true=>some (e0,t,h.drop id)
             | false=>none
           | false=>none
         | false=>none
       | _=>none
     | _=>none
   | none=>none
 | .aA=>match own with
   | some t=>some (.dat (.i 0),t,h)
   | none=>none
 | .emp=>match own with
   | some t=>some (.dat (.i 0),t,h)
   | none=>none
 | .GL _ _=>match own with
   | some t=>some (.dat (.i 0),t,h)
   | none=>none
 | .slice _ _ n c=>match n with
   | 0=>match c with
     | .exact k=>match k with
       | 0=>match own with
         | some t=>some (.dat (.i 0),t,h)
         | none=>none
       | _=>none
     | _=>none
   | _=>none
 | _=>none
def auA:AV→Bool
 | .dat _ _=>true
 | _=>false
def aiJ (own:Option Nat):AV→Bool
 | .uU _ _ _=>true
 | .Au _ _ _ _=>true
 | .aA=>own.isSome
 | .emp=>own.isSome
 | .GL _ _=>own.isSome
 | .slice _ _ n c=>match n with
   | 0=>match c with
     | .exact k=>match k with
       | 0=>own.isSome
       | _=>false
     | _=>false
   | _=>false
 | _=>false
def abA (id t:Nat) (ty:TypeId) (e0 n1 m sd:SE) (s:St):T (AV×St):=
 Ho e0 n1 m s fun s=> .ret (.Au id (.lit 0) (yK n1 m) t,{ s with h:=s.h.put id (.vec (.op .cat (.op .cat (.op .take e0 n1) sd) (.op .drop e0 (yK n1 m))) t ty []) })
def MW (tt:TT) (t t2 id:Nat) (n1:SE) (t':Nat) (y:AV) (s:St):T (AV×St):=
 match tt t with
 | some ti=>match ti.kind with
   | .slice e=>match tt e with
     | some ie=>match tt t2 with
       | none=> .fail
       | some ti2=>match ti2.kind with
         | .int _=> .fail
         | _=>
           if ie.size=0∨ie.bytes=0∨¬ie.zero.length=ie.size∨¬(rowOf t').es=ie.size then .fail else
           match Om s.h id t' with
           | none=> .fail
           | some (e0,ty)=>match y with
             | .Au id2 lo2 n2 t2'=>match Nat.beq id2 id with
               | true=>match Nat.beq t2' t' with
                 | true=>Ho e0 lo2 n2 s fun s=>abA id t' ty e0 n1 n2 (RX e0 lo2 n2) s
                 | false=> .fail
               | false=> .fail
             | y=>match xH ie.size y s.h with
               | none=> .fail
               | some (m,news)=>match m with
                 | 0=> .fail
                 | m+1=>if m < 1000 then match sQ (rowOf t') (.dat (.i 0)) (m+1) news with
                  | some sd=>abA id t' ty e0 n1 (.lit (Int.ofNat (m+1))) sd s
                  | none=> .fail
                  else .fail
     | none=> .fail
   | _=> .fail
 | none=> .fail
def F6 (tt:TT) (ty id:Nat) (lo n:SE) (t:Nat) (s:St):T (AV×St):=
 match tt ty with
 | some ti=>match ti.kind with
   | .slice e=>match tt e with
     | some ie=>if (rowOf t).es=ie.size∧0 < ie.size then match Om s.h id t with
      | none=> .fail
      | some (e0,GV)=>match codeRow (rowOf t) ie.zero with
        | none=> .fail
        | some z=>pY s (kG lo (.lit 0)) fun s b=>match b with
          | true=> .fail
          | false=>pY s (kG n (.lit 0)) fun s b=>match b with
            | true=> .fail
            | false=>pY s (Dv (yK lo n) (eP e0)) fun s b=>match b with
              | false=> .fail
              | true=> .ret (AV.undef,{ s with h:=s.h.put id (.vec (.op .fill e0 (gW (G5 lo) z)) t GV []) })
      else .fail
     | none=> .fail
   | _=> .fail
 | none=> .fail
def roomOf (bytes k:Nat):Int:=Int.ofNat (140737488355328 / bytes - k)
def agY (e0:SE) (bytes:Nat):Int:=match XM e0 with
 | true=>roomOf bytes 0
 | false=>roomOf bytes 1000000
def Ig (tt:TT) (t t2:Nat) (x y:AV) (s:St):T (AV×St):=
 match tt t with
 | some ti=>match ti.kind with
   | .slice e=>match tt e with
     | some ie=>match tt t2 with
       | none=> .fail
       | some ti2=>match ti2.kind with
         | .int _=> .fail
         | _=>
           if ie.size=0∨ie.bytes=0∨¬ie.zero.length=ie.size∨¬ie.bytes≤400 then .fail else
           match y with
           | .dat e2 ty2=>match BP e ti.own x s.h with
             | some (e0,t',h0)=>if (rowOf t').es=ie.size∧rowOf ty2=rowOf t' then
              pY s (AY (eP e2) (.lit 0)) fun s b=>match b with
               | true=> .ret (x,s)
               | false=>pY s (kG (eP e2) (.lit (agY e0 ie.bytes))) fun s b=>match b with
                 | true=>pY s (kG (eP e0) (.lit 1000000)) fun s b=>match b with
                   | true=>match XM e0 with
                     | true=> .ret (.uU h0.fresh (eP e2) t',{ s with h:=h0.new (.vec e2 t' e []) })
                     | false=> .ret (.uU h0.fresh (eP (.op .cat e0 e2)) t',{ s with h:=h0.new (.vec (.op .cat e0 e2) t' e []) })
                   | false=> .fail
                 | false=> .fail
              else .fail
             | none=> .fail
           | y=>match xH ie.size y s.h with
             | some (m,news)=>match m with
               | 0=> .ret (x,s)
               | m+1=>FN news s fun news' s=>match BP e ti.own x s.h with
                | some (e0,t',h0)=>if (rowOf t').es=ie.size∧m < 1000 then
                 pY s (kG (eP e0) (.lit (roomOf ie.bytes (m+1)))) fun s b=>match b with
                  | true=>match sQ (rowOf t') e0 (m+1) news' with
                    | some e1=> .ret (.uU h0.fresh (eP e1) t',{ s with h:=h0.new (.vec e1 t' e []) })
                    | none=> .fail
                  | false=> .fail
                 else .fail
                | none=> .fail
             | none=> .fail
     | none=> .fail
   | _=> .fail
 | none=> .fail
def Tm (tt:TT) (t:Nat) (l c:AV) (s:St):T (AV×St):=match l with
 | .int k n=>match c with
   | .int k2 n2=>match gG n n2 with
     | false=> .fail
     | true=>match tt t with
       | none=> .fail
       | some i=>match i.own with
         | none=> .fail
         | some o=>match i.kind with
           | .slice e=>match tt e with
             | none=> .fail
             | some ie=>match codeRow (rowOf o) ie.zero with
               | none=> .fail
               | some z=>if ie.size=(rowOf o).es∧0 < ie.size∧ie.bytes≠0∧ie.zero.length=ie.size then
                pY s (kG n (.lit 0)) fun s b=>match b with
                 | true=> .fail
                 | false=>pY s (AY n (.lit 0)) fun s b=>match b with
                   | true=>match wJ tt t (.int k (.lit 0)) (.int k2 (.lit 0)) s.h with
                     | some (v,h)=> .ret (v,{ s with h:=h })
                     | none=> .fail
                   | false=>pY s (kG n (.lit (roomOf ie.bytes 0))) fun s b=>match b with
                     | true=> .ret (.uU s.h.fresh (eP (.op .rep n z)) o,{ s with h:=s.h.new (.vec (.op .rep n z) o e []) })
                     | false=> .fail
                else .fail
           | _=> .fail
   | _=> .fail
 | _=> .fail
def Js (v:AV):Bool:=match nC v with
 | some n=>Bj n 0
 | none=>false
def Tz (tt:TT) (s:St) (ty t:Nat) (e:SE) (lo hi:Option AV) (mx:Option AV):T (AV×St):=match mx with
 | some m=>match Js m with
   | true=>match zX tt ty with
     | none=> .fail
     | some _=>match lo with
       | none=>match hi with
         | some hv=>match Js hv with
           | true=> .ret (.GL (.op .take e (.lit 0)) t,s)
           | false=> .fail
         | none=> .fail
       | some _=> .fail
   | false=> .fail
 | none=>match zX tt ty with
   | none=> .fail
   | some z=>if z=(rowOf t).es then
    (match hi with
    | none=>match lo with
      | some (.int _ l)=>pY s (kG l (.lit 0)) fun s b=>match b with
        | true=> .fail
        | false=>pY s (kG (eP e) l) fun s b=>match b with
          | true=> .fail
          | false=> .ret (.dat (.op .drop e l) t,s)
      | _=> .fail
    | some (.int _ h)=>pY s (kG (eP e) h) fun s b=>match b with
      | true=> .fail
      | false=>match lo with
        | none=>pY s (kG h (.lit 0)) fun s b=>match b with
          | true=> .fail
          | false=> .ret (.dat (.op .take e h) t,s)
        | some (.int _ l)=>pY s (kG l (.lit 0)) fun s b=>match b with
          | true=> .fail
          | false=>pY s (kG h l) fun s b=>match b with
            | true=> .fail
            | false=> .ret (.dat (.op .drop (.op .take e h) l) t,s)
        | _=> .fail
    | _=> .fail)
    else .fail
def loE (lo:Option AV):Option SE:=match lo with
 | none=>some (.lit 0)
 | some v=>match v with
   | .int _ l=>some l
   | _=>none
def JQ (tt:TT) (s:St) (ty id t:Nat) (lo0 n0:SE) (lo hi mx:Option AV):T (AV×St):=
 match zX tt ty with
 | none=> .fail
 | some z=>if z=(rowOf t).es∧z≠0 then match loE lo with
   | none=> .fail
   | some l=>pY s (kG l (.lit 0)) fun s b=>match b with
     | true=> .fail
     | false=>match hi with
       | none=>match mx with
         | some _=> .fail
         | none=>pY s (kG n0 l) fun s b=>match b with
           | true=> .fail
           | false=> .ret (.Au id (yK lo0 l) (Ky n0 l) t,s)
       | some hv=>match hv with
         | .int _ h=>pY s (kG h l) fun s b=>match b with
           | true=> .fail
           | false=>match mx with
             | some mv=>match mv with
               | .int _ m=>pY s (kG m h) fun s b=>match b with
                 | true=> .fail
                 | false=>pY s (kG n0 m) fun s b=>match b with
                   | true=> .fail
                   | false=> .ret (.any,s)
               | _=> .fail
             | none=>pY s (kG n0 h) fun s b=>match b with
               | false=> .ret (.Au id (yK lo0 l) (Ky h l) t,s)
               | true=>match isZ lo0 with
                 | false=> .fail
                 | true=>match Om s.h id t with
                   | none=> .fail
                   | some (e,_)=>pY s (kG (eP e) h) fun s b=>match b with
                     | true=> .fail
                     | false=> .ret (.Au id (yK lo0 l) (Ky h l) t,s)
         | _=> .fail
   else .fail
def Tv (tt:TT) (s:St) (ty:Nat) (z:SE) (t:Nat) (lo hi mx:Option AV):T (AV×St):=
 match mx with
 | some _=> .fail
 | none=>match zX tt ty with
   | none=> .fail
   | some _=>match bnd hi 0 0 with
     | some 0=>match bnd lo 0 0 with
       | some 0=> .ret (.GL z t,s)
       | _=> .fail
     | _=> .fail
def SV (tt:TT) (s:St) (ty id t:Nat) (lo n:SE) (ix:AV):T (AV×St):=match ix with
 | .int _ i=>match zX tt ty with
   | some z=>if z=(rowOf t).es then Fb s i n fun s=> .ret (.qC id z (yK lo i) 0,s) else .fail
   | none=> .fail
 | _=> .fail
def aiN:AV→Bool
 | .lY _=>true
 | _=>false
def S9 (tt:TT) (s:St) (ty:Nat) (e:SE) (ix:AV):T (AV×St):=match ix with
 | .int _ i=>match tt ty with
   | some ti=>match ti.kind with
     | .string=>Fb s i (eP e) fun s=> .ret (.int .u8 (OG (.op .at e i)),s)
     | _=> .fail
   | none=> .fail
 | _=> .fail
def hiE (e:SE) (hi:Option AV):Option SE:=match hi with
 | none=>some (eP e)
 | some v=>match v with
   | .int _ h=>some h
   | _=>none
def SY (tt:TT) (s:St) (ty:Nat) (e:SE) (lo hi mx:Option AV):T (AV×St):=match mx with
 | some _=> .fail
 | none=>match tt ty with
   | none=> .fail
   | some ti=>match ti.kind with
     | .string=>match loE lo with
       | none=> .fail
       | some l=>match hiE e hi with
         | none=> .fail
         | some h=>pY s (kG l (.lit 0)) fun s b=>match b with
           | true=> .fail
           | false=>pY s (kG h l) fun s b=>match b with
             | true=> .fail
             | false=>pY s (kG (eP e) h) fun s b=>match b with
               | true=> .fail
               | false=> .ret (.lY (.op .sub e (gW (G5 l) (gW (G5 h) (.dat (.i 0))))),s)
     | _=> .fail
def Jv (x y:AV):Option (SE×SE):=match aiN x || aiN y with
 | false=>none
 | true=>match Ak x with
   | none=>none
   | some a=>match Ak y with
     | none=>none
     | some b=>some (a,b)
def OB (a b:SE):SB:=.not (.eq (.op .slt a b) (.lit 0))
def X6 (op:BinOp) (a b:SE) (s:St):T (AV×St):=match op with
 | .add=>pY s (kG (eP a) (.lit 1000000000)) fun s c=>match c with
   | false=> .fail
   | true=>pY s (kG (eP b) (.lit 1000000000)) fun s c=>match c with
     | false=> .fail
     | true=> .ret (.lY (.op .cat a b),s)
 | .eql=> .ret (.bool (AY (qX a) (qX b)),s)
 | .neq=> .ret (.bool (.not (AY (qX a) (qX b))),s)
 | .lss=> .ret (.bool (OB a b),s)
 | .gtr=> .ret (.bool (OB b a),s)
 | .leq=> .ret (.bool (DL (OB b a)),s)
 | .geq=> .ret (.bool (DL (OB a b)),s)
 | _=> .fail
def JU (tt:TT) (sT dT:Nat) (e:SE) (s:St):T (AV×St):=match tt sT with
 | none=> .fail
 | some j=>match j.kind with
   | .string=>match tt dT with
     | none=> .fail
     | some i=>match i.kind with
       | .slice el=>match tt el with
         | some ie=>match ie.kind with
           | .int k=>match k with
             | .u8=>pY s (AY (eP e) (.lit 0)) fun s c=>match c with
               | true=> .ret (.slice s.h.fresh 0 0 (.rest 1),{ s with h:=s.h.new (.cells [] el) })
               | false=> .ret (.uU s.h.fresh (eP e) 14,{ s with h:=s.h.new (.vec e 14 el []) })
             | _=> .fail
           | _=> .fail
         | none=> .fail
       | _=> .fail
   | _=> .fail
def IV (c:CK):TK:=match c with
 | .int k=> .int k
 | _=> .string
def DR (m:AV) (h:Hp):Option (Nat×SE×Nat):=match m with
 | .map id=>match h.get id with
   | some o=>match o with
     | .iO e t=>some (id,e,t)
     | _=>none
   | none=>none
 | _=>none
def mapKey (tt:TT) (ty t:Nat) (k:AV):Option (SE×TI):=match tt ty with
 | none=>none
 | some ti=>match ti.kind with
   | .map kt et=>match tt kt with
     | none=>none
     | some ki=>if ki.kind=IV (mapOf t).1 then match tt et with
      | none=>none
      | some ie=>match rF (mapOf t).1 k with
        | none=>none
        | some a=>some (qX a,ie)
      else none
   | _=>none
def ajD (e a:SE):SB:=match e with
 | .dat d=>match a with
   | .dat k=> .lit (!(yA d.l k).isSome)
   | a=> .eq (.op .Lm (.dat d) a) (.lit 0)
 | e=> .eq (.op .Lm e a) (.lit 0)
def FW (tt:TT) (ty:Nat) (k:AV) (ok:Bool) (e:SE) (t:Nat) (s:St):T (AV×St):=match mapKey tt ty t k with
 | none=> .fail
 | some (a,ie)=>match zeroOf ie with
   | none=> .fail
   | some z=>pY s (ajD e a) fun s b=>match b with
     | true=> .ret (if ok then .tuple [z,.bool (.lit false)] else z,s)
     | false=> .ret (if ok then .tuple [Ai (mapOf t).2 (.op .Lp e a),.bool (.lit true)] else Ai (mapOf t).2 (.op .Lp e a),s)
def Yb (tt:TT) (ty id:Nat) (k x:AV) (e:SE) (t:Nat) (s:St):T (AV×St):=match mapKey tt ty t k with
 | none=> .fail
 | some (a,_)=>match rF (mapOf t).2 x with
   | none=> .fail
   | some b=> .ret (AV.undef,{ s with h:=s.h.put id (.iO (.op .Ei e (gW a b)) t) })
def Ti (tt:TT) (ty:Nat) (m k x:AV) (s:St):T (AV×St):=FN [x] s fun xs s=>match xs with
 | [x]=>match DR m s.h with
   | some (id,e,t)=>Yb tt ty id k x e t s
   | none=> .fail
 | _=> .fail
def Yj (tt:TT) (ty id:Nat) (k:AV) (e:SE) (t:Nat) (s:St):T (AV×St):=match mapKey tt ty t k with
 | none=> .fail
 | some (a,_)=> .ret (AV.undef,{ s with h:=s.h.put id (.iO (.op .acG e a) t) })
abbrev dV:=Nat→List AV→St→T (AV×St)
def GH (s:St) (x:Operand) (f:AV→T (AV×St)):T (AV×St):=match ev s x with | some v=>f v | none=> .fail
def atX (tt:TT) (t:Nat):Option Nat:=match tt t with
 | some ti=>ti.own
 | none=>none
def Di (tt:TT) (s:St) (b:Builtin) (ts:List Nat) (args:List AV):T (AV×St):=
 match b,ts,args with
 | .len,[t],[x]=>xU s (ajU tt t x s.h)
 | .append,[t,t2],[.Au id lo n t',y]=>match isZ lo with
   | true=>MW tt t t2 id n t' y s
   | false=> .fail
 | .append,[t,t2],[x,y]=>match aiJ (atX tt t) x || auA y with
   | true=>Ig tt t t2 x y s
   | false=>IE s (MV tt t t2 x y s.h)
 | .delete,[t,_],[m,k]=>match DR m s.h with
   | some (id,e,t')=>Yj tt t id k e t' s
   | none=>rW tt t m k s fun s=>Xu s (MS tt s.pc t m k s.h)
 | .clear,[t],[.uU id n t']=>F6 tt t id (.lit 0) n t' s
 | .clear,[t],[.Au id lo n t']=>F6 tt t id lo n t' s
 | .clear,[t],[x]=>Xu s (TB tt t x s.h)
 | .min,_,.int k a :: xs=>zO false xs a k s
 | .max,_,.int k a :: xs=>zO true xs a k s
 | _,_,_=> .fail
def TD (tt:TT) (call:dV) (s:St) (c:Call):T (AV×St):=
 match evs s c.args.toList with
 | none=> .fail
 | some args=>match c.callee with
   | .builtin b=>Di tt s b c.argTypes.toList args
   | .value f=>match ev s f with
     | some (.func (.func g) fs cs)=>call g (fs++args++cs) s
     | _=> .fail
   | .invoke _ _=> .fail
def aBi:SB→Bool
 | .lit _=>true
 | .not c=>match c with
   | .eq _ z=>match z with
     | .lit n=>Bj n 0
     | _=>false
   | _=>false
 | _=>false
def anB {α:Type} (v:AV) (s:St) (k:AV→St→T α):T α:=match v with
 | .bool c=>match aBi c with
   | true=>k (.bool c) s
   | false=>pY s c fun s b=>k (.bool (.lit b)) s
 | v=>k v s
def Tj (tt:TT) (call:dV) (s:St) (op:Op):T (AV×St):=
 match op with
 | .move x=>GH s x fun v=> .ret (v,s)
 | .assign x=>GH s x fun v=> .ret (v,s)
 | .pick c a b=>GH s c fun c=>match c with
   | .bool c=>pY s c fun s b'=>if b' then GH s a fun v=> .ret (v,s) else GH s b fun v=> .ret (v,s)
   | _=> .fail
 | .alloc t=>match tt t with
   | some i=> .ret (.ptr s.h.fresh 0,{ s with h:=s.h.new (.cells i.zero t) })
   | none=> .fail
 | .box t x=>GH s x fun v=>if xB v.cells then .ret (.ptr s.h.fresh 0,{ s with h:=s.h.new (.cells v.cells t) }) else .fail
 | .build t parts=>match Dh s parts.toList with
   | some ps=>xU s (TG tt t ps)
   | none=> .fail
 | .buildSlice t n parts=>match Dh s parts.toList with
   | some ps=>IE s (zV tt t n ps s.h)
   | none=> .fail
 | .makeSlice t l c=>GH s l fun lv=>match ev s c with
   | some cv=>match wJ tt t lv cv s.h with
     | some r=>IE s (some r)
     | none=>Tm tt t lv cv s
   | none=> .fail
 | .load t x=>GH s x fun p=>match p with
   | .qC id es i off=>FX tt s t id es i off
   | p=>xU s (Ie tt t p s.h)
 | .store t x y=>GH s x fun p=>match ev s y with
   | some v=>anB v s fun v s=>match p with
     | .qC id es i off=>MJ tt s t id es i off v
     | p=>Xu s (Tc tt t p v s.h)
   | none=> .fail
 | .nilCheck x=>GH s x fun v=>match v with
   | .ptr _ _=> .ret (v,s)
   | .qZ _=> .ret (v,s)
   | .qC _ _ _ _=> .ret (v,s)
   | _=> .fail
 | .binOp op t x y _=>GH s x fun a=>match ev s y with
   | some b=>match a with
     | .agg xs=>match b,op with
       | .agg ys,.eql=>match JR tt t xs ys with
         | some c=> .ret (.bool c,s)
         | none=> .fail
       | .agg ys,.neq=>match JR tt t xs ys with
         | some c=> .ret (.bool (DL c),s)
         | none=> .fail
       | _,_=> .fail
     | a=>match XD tt t a b with
       | some e=>axU s e op
       | none=>match Xx op a b with
         | some (k,e,n)=>axN s k e n
         | none=>match Jv a b with
           | some (x,y)=>X6 op x y s
           | none=>xU s (ajW tt t op a b)
   | none=> .fail
 | .unOp op _ x=>GH s x fun v=>xU s (aAE op v)
 | .convert sT dT x=>GH s x fun v=>match v with
   | .lY e=>JU tt sT dT e s
   | v=>IE s (uN tt sT dT v s.h)
 | .makeFunc fn fs cs=>match evs s fs.toList,evs s cs.toList with
   | some f,some c=> .ret (.func fn f c,s)
   | _,_=> .fail
 | .makeMap t r=>match r with
   | none=>match atX tt t with
     | some m=> .ret (.map s.h.fresh,{ s with h:=s.h.new (.iO (.dat (.i 0)) m) })
     | none=> .ret (.map s.h.fresh,{ s with h:=s.h.new (.map [] 0) })
   | some _=> .fail
 | .slice t x lo hi mx=>GH s x fun v=>match P5 s lo,P5 s hi,P5 s mx with
   | some l,some h,some m=>match v with
     | .dat e t'=>Tz tt s t t' e l h m
     | .uU id n t'=>JQ tt s t id t' (.lit 0) n l h m
     | .Au id lo n t'=>JQ tt s t id t' lo n l h m
     | .lY e=>SY tt s t e l h m
     | .GL z t'=>Tv tt s t z t' l h m
     | v=>match Td tt t v l h m with
     | some v=> .ret (v,s)
     | none=>xU s (MK tt t v l h m s.h)
   | _,_,_=> .fail
 | .fieldAddr t x f=>GH s x fun v=>xU s (BH tt t v f)
 | .field t x f=>GH s x fun v=>xU s (Tt tt t v f)
 | .indexAddr t x i=>GH s x fun v=>match ev s i with
   | some i=>match v with
     | .inp k ks=>xU s (Tn tt s.pc t k ks i)
     | .dat e t'=>TA tt s t t' e i
     | .uU id n t'=>SX tt s t id t' n i
     | .Au id lo n t'=>SV tt s t id t' lo n i
     | .ptr id o=>match aaX tt t i with
       | some (n,e)=>if o=0 then Fb s e (.lit (Int.ofNat n)) fun s=> .ret (.qC id 1 e 0,s) else .fail
       | none=>QO tt t (.ptr id o) i s fun i s=>xU s (sN tt t (.ptr id o) i)
     | v=>QO tt t v i s fun i s=>xU s (sN tt t v i)
   | none=> .fail
 | .index t x i=>GH s x fun v=>match ev s i with
   | some i=>match v with
     | .lY e=>S9 tt s t e i
     | .agg cs=>match aaX tt t i with
       | some (n,e)=>match Nat.beq cs.length n with
         | true=>PY s cs e
         | false=> .fail
       | none=>QO tt t (.agg cs) i s fun i s=>xU s (FY tt t (.agg cs) i)
     | v=>QO tt t v i s fun i s=>xU s (FY tt t v i)
   | none=> .fail
 | .lookup t m k ok=>GH s m fun v=>match ev s k with
   | some k=>match DR v s.h with
     | some (_,e,t')=>FW tt t k ok e t' s
     | none=>rW tt t v k s fun s=>xU s (MO tt s.pc t v k ok s.h)
   | none=> .fail
 | .mapUpdate t m k x=>GH s m fun v=>match ev s k,ev s x with
   | some k,some x=>match DR v s.h with
     | some _=>Ti tt t v k x s
     | none=>rW tt t v k s fun s=>Xu s (wI tt s.pc t v k x s.h)
   | _,_=> .fail
 | .insert t m k x=>GH s m fun v=>match ev s k,ev s x with
   | some k,some x=>match DR v s.h with
     | some _=>Ti tt t v k x s
     | none=>rW tt t v k s fun s=>Xu s (wI tt s.pc t v k x s.h)
   | _,_=> .fail
 | .range t x=>GH s x fun v=>IE s (Tf tt t v s.h)
 | .next x isS=>GH s x fun v=>IE s (Yc v isS s.h)
 | .extract x i=>GH s x fun v=>match v with
   | .tuple vs=>xU s (gK vs i)
   | _=> .fail
 | .call c=>TD tt call s c
 | _=> .fail
def CP {α:Type} (ops:List Oper) (s:St) (o:Oper) (f:St→Bool→T α):T α:=
 match o.guard with
 | none=>f s true
 | some (j,want)=>match gK ops j with
   | some oj=>match oj.dst with
     | some d=>match s.slots.get d with
       | some (.bool c)=>pY s c fun s b=>f s (b == want)
       | some (.tuple _)=>f s false
       | _=> .fail
     | none=> .fail
   | none=> .fail
def VD (tt:TT) (call:dV) (all:List Oper):List Oper→St→T St
 | [],s=> .ret s
 | o :: rest,s=>CP all s o fun s b=>
   if b then (Tj tt call s o.op).bind fun (v,s')=>VD tt call all rest (s'.UM o.dst v)
   else VD tt call all rest (s.UM o.dst AV.undef)
inductive Ex where
 | normal
 | exit (id:Nat)
 | ret
 deriving DecidableEq,Inhabited
def BG (body:St→T (Ex×St)):Nat→St→T (Ex×St)
 | 0,_=> .fail
 | n+1,s=>(body s).bind fun (e,s')=>match e with
   | .normal=>BG body n s'
   | e=> .ret (e,s')
def kU (tt:TT) (call:dV) (draw:Nat→List Oper→St→T St) (lf:Nat):Code→St→T (Ex×St)
 | .skip,s=> .ret (.normal,s)
 | .region id ops d,s=>
   if d then (draw id ops.toList s).bind fun s'=> .ret (.normal,s')
   else (VD tt call ops.toList ops.toList s).bind fun s'=> .ret (.normal,s')
 | .seq a b,s=>(kU tt call draw lf a s).bind fun (e,s')=>match e with
   | .normal=>kU tt call draw lf b s'
   | e=> .ret (e,s')
 | .cond c x y,s=>match ev s c with
   | some (.bool c)=>pY s c fun s b=>if b then kU tt call draw lf x s else kU tt call draw lf y s
   | _=> .fail
 | .block id b,s=>(kU tt call draw lf b s).bind fun (e,s')=>match e with
   | .exit j=> .ret (if j=id then .normal else .exit j,s')
   | e=> .ret (e,s')
 | .loop b,s=>BG (kU tt call draw lf b) lf s
 | .exit id,s=> .ret (.exit id,s)
 | .scope b,s=>kU tt call draw lf b s
 | .label _,s=> .ret (.normal,s)
 | .ret,s=> .ret (.ret,s)
 | _,_=> .fail
def bF:List AV→Nat→Tr AV→Tr AV
 | [],_,t=>t
 | v :: vs,i,t=>bF vs (i+1) (t.put i (some v))
def FV (tt:TT) (s:St):ResultVar→Option AV
 | .tmp t=>s.slots.get t
 | .cell a t=>match s.slots.get a with
   | some p=>Ie tt t p s.h
   | none=>none
def nP (tt:TT) (s:St):List ResultVar→Option (List AV)
 | []=>some []
 | r :: rs=>match FV tt s r with
   | none=>none
   | some v=>match nP tt s rs with
     | none=>none
     | some vs=>some (v :: vs)
def Tq (tt:TT) (ft:Nat→Option Func) (hook:Nat→Option (List AV→St→T (AV×St))) (draw:dV→Nat→Nat→List Oper→St→T St) (lf:Nat):Nat→dV
 | 0,_,_,_=> .fail
 | n+1,g,args,s=>
   match hook g with
   | some h=>h args s
   | none=>match ft g with
     | none=> .fail
     | some fn=>match fn.body with
       | none=> .fail
       | some c=>
         (kU tt (Tq tt ft hook draw lf n) (draw (Tq tt ft hook draw lf n) g) lf c { s with slots:=bF args 0 .nil }).bind fun (e,s')=>
          match e with
          | .exit _=> .fail
          | _=>match nP tt s' fn.results.toList with
            | some [v]=> .ret (v,{ s' with slots:=s.slots })
            | some vs=> .ret (.tuple vs,{ s' with slots:=s.slots })
            | none=> .fail
end
end Go.As
end
section
namespace Go.As
structure En where
 ρ:Nat→Int
 θ:Nat→Nat×Nat
 κ:Nat→Nat
 dm:Nat→Prop
 ro:Nat→Prop
def bZ (s:List Nat):ByteArray:=⟨(s.map UInt8.ofNat).toArray⟩
def hcell (h:Array Obj) (b o:Nat):Option Value:=
 match h[b]? with
 | some (.cells c _ _)=>c[o]?
 | _=>none
theorem sU (w:World) (b o:Nat):w.cell? ⟨b,o,none⟩ = hcell w.heap b o:=by
 unfold World.cell? hcell
 simp only [Option.isSome_none,Bool.false_eq_true,if_false]
 cases w.heap[b]? with
 | none=>rfl
 | some o=>cases o <;> rfl
def iC (h:Array Obj) (b o:Nat) (us:List Value):Prop:= ∀i u,us[i]?=some u→hcell h b (o+i)=some u
inductive Rd (ro:Nat→Prop) (h:Array Obj):CK→D→Value→Prop where
 | int (k:IntKind) (n:Int):Rd ro h (.int k) (.i n) (.int k n)
 | bool (b:Bool):Rd ro h .bool (.i (if b then 1 else 0)) (.bool b)
 | str (s:ByteArray):Rd ro h .str (Af s) (.string s)
 | nil (t:Nat):Rd ro h (.sl t) (.i 1) (.slice none 0 0)
 | non (t:Nat) (a:Addr) (cap:Nat):Rd ro h (.sl t) (.i 2) (.slice (some a) 0 cap)
 | one (t:Nat) (c:CK) (b o cap:Nat) (ds:List D) (f:Nat→Value) (hr:rowOf t= .one c) (hc:ds.length≤cap) (hb:ro b)
  (h1: ∀i d,ds[i]?=some d→hcell h b (o+i)=some (f i)) (h2: ∀i d,ds[i]?=some d→Rd ro h c d (f i)):Rd ro h (.sl t) (dL ds) (.slice (some ⟨b,o,none⟩) ds.length cap)
 | many (t:Nat) (cs:List CK) (b o cap:Nat) (rows:List (List D)) (f:Nat→Nat→Value) (hr:rowOf t= .many cs) (hc:rows.length≤cap) (hb:ro b) (hl: ∀r∈rows,r.length=cs.length)
  (h1: ∀i r j d,rows[i]?=some r→r[j]?=some d→hcell h b (o+i*cs.length+j)=some (f i j))
  (h2: ∀i r j d c,rows[i]?=some r→r[j]?=some d→cs[j]?=some c→Rd ro h c d (f i j)):Rd ro h (.sl t) (dL (rows.map dL)) (.slice (some ⟨b,o,none⟩) rows.length cap)
theorem Rd.one' {ro:Nat→Prop} {h:Array Obj} {c:CK} {d:D} {v:Value} (r:Rd ro h c d v):v.oneCell'=true:=by cases r <;> rfl
theorem Rd.keep {ro ro':Nat→Prop} {h h':Array Obj} (k1: ∀b,ro b→ro' b) (k2: ∀b,ro b→h'[b]?=h[b]?) {c:CK} {d:D} {v:Value} (r:Rd ro h c d v):Rd ro' h' c d v:=by
 have hk: ∀b o u,ro b→hcell h b o=some u→hcell h' b o=some u:=by
  intro b o u hb hu
  unfold hcell at *
  rw [k2 b hb]
  exact hu
 induction r with
 | int k n=>exact .int k n
 | bool b=>exact .bool b
 | str s=>exact .str s
 | nil t=>exact .nil t
 | non t a cap=>exact .non t a cap
 | one t c b o cap ds f hr hc hb h1 h2 ih=>exact .one t c b o cap ds f hr hc (k1 b hb) (fun i d hi=>hk _ _ _ hb (h1 i d hi)) ih
 | many t cs b o cap rows f hr hc hb hl h1 h2 ih=>exact .many t cs b o cap rows f hr hc (k1 b hb) hl (fun i r j d hi hj=>hk _ _ _ hb (h1 i r j d hi hj)) ih
def fH (E:En) (id off len:Nat) (a:Addr) (cap:Nat):WI→Prop
 | .exact c=>cap=c∧((a=⟨(E.θ id).1,(E.θ id).2+off,none⟩)∨c=0)
 | .rest es=>(a=⟨(E.θ id).1,(E.θ id).2+off,none⟩∧off+cap*es=E.κ id)∨(cap=0∧len=0∧off=E.κ id)
mutual
def VR (E:En) (h:Array Obj):AV→Value→Prop
 | .bool b,v=>v= .bool (b.den E.ρ)
 | .int k e,v=>v= .int k (e.den E.ρ)
 | .str s,v=>v= .string (bZ s)∧∀b∈s,b < 256
 | .ptr id off,v=>v= .pointer (some ⟨(E.θ id).1,(E.θ id).2+off,none⟩)∧E.dm id
 | .jH,v=>v= .pointer none
 | .qZ cs,v=> ∃b o us,v= .pointer (some ⟨b,o,none⟩)∧E.ro b∧bI E h cs us∧iC h b o us∧∀u∈us,u.oneCell'=true
 | .slice id off len c,v=>E.dm id∧∃a cap,v= .slice (some a) len cap∧len≤cap∧fH E id off len a cap c
 | .aA,v=>v= .slice none 0 0
 | .ro cs n full,v=> ∃b o cap us,v= .slice (some ⟨b,o,none⟩) n cap∧n≤cap∧(full=true→cap=n)∧E.ro b∧bI E h cs us∧iC h b o us∧∀u∈us,u.oneCell'=true
 | .map id,v=>v= .map (some (E.θ id).1)∧E.dm id
 | .lX,v=>v= .map none
 | .func fn fs cs,v=> ∃us ws,v= .func fn us.toArray ws.toArray∧bI E h fs us∧bI E h cs ws
 | .yZ,v=>v= .nilFunc
 | .iface t x,v=> ∃u,v= .iface t u∧VR E h x u
 | .Eh,v=>v= .nilIface
 | .agg cs,v=> ∃us,v= .agg us.toArray∧bI E h cs us
 | .tuple cs,v=> ∃us,v= .tuple us.toArray∧bI E h cs us
 | .opq _,_=>False
 | .emp,v=> ∃x,v= .slice x 0 0
 | .dat e t,v=>Rd E.ro h (.sl t) (dec (e.den E.ρ)) v
 | .lY e,v=>Rd E.ro h .str (dec (e.den E.ρ)) v
 | .uU id n t,v=>E.dm id∧∃(k:Nat) (a:Addr) (cap:Nat),n.den E.ρ=(k:Int)∧v= .slice (some a) k cap∧k≤cap∧fH E id 0 k a cap (.rest (rowOf t).es)
 | .qC id es i off,v=>E.dm id∧∃k:Nat,i.den E.ρ=(k:Int)∧v= .pointer (some ⟨(E.θ id).1,(E.θ id).2+(k*es+off),none⟩)
 | .any,_=>True
 | .GL z t,v=>(∃x,v= .slice x 0 0)∧Rd E.ro h (.sl t) (dec (z.den E.ρ)) v
 | .Au id lo n t,v=>E.dm id∧∃(l k:Nat) (a:Addr) (cap:Nat),lo.den E.ρ=(l:Int)∧n.den E.ρ=(k:Int)∧v= .slice (some a) k cap∧k≤cap∧fH E id (l*(rowOf t).es) k a cap (.rest (rowOf t).es)
 | .inp k ks,v=>((∃x cap,v= .slice x 0 cap)∧E.ρ (900+k)=0)∨∃b o n cap,v= .slice (some ⟨b,o,none⟩) n cap∧n≤cap∧E.ρ (900+k)=(n:Int)∧E.ro b∧
  ∀i j kd,i < n→ks[j]?=some kd→hcell h b (o+i*ks.length+j)=some (.int kd (E.ρ (1000+i*64+(k*8+j))))
def bI (E:En) (h:Array Obj):List AV→List Value→Prop
 | [],us=>us= []
 | x :: xs,us=> ∃u vs,us=u :: vs∧VR E h x u∧bI E h xs vs
end
theorem jZ {E:En} {h:Array Obj} {us:List Value}:bI E h [] us↔us= []:=by simp [bI]
theorem aW {E:En} {h:Array Obj} {x:AV} {xs:List AV} {us:List Value}:bI E h (x :: xs) us↔∃u vs,us=u :: vs∧VR E h x u∧bI E h xs vs:=by simp [bI]
theorem bI.length {E:En} {h:Array Obj}: ∀{xs:List AV} {us:List Value},bI E h xs us→us.length=xs.length
 | [],us,hh=>by rw [jZ] at hh; simp [hh]
 | x :: xs,us,hh=>by
   rw [aW] at hh
   obtain⟨u,vs,rfl,_,h2⟩:=hh
   simp [h2.length]
theorem bI.append {E:En} {h:Array Obj}: ∀{xs ys:List AV} {us vs:List Value},bI E h xs us→bI E h ys vs→bI E h (xs++ys) (us++vs)
 | [],_,us,vs,h1,h2=>by rw [jZ] at h1; subst h1; simpa using h2
 | x :: xs,ys,us,vs,h1,h2=>by
   rw [aW] at h1
   obtain⟨u,us',rfl,hx,hxs⟩:=h1
   simp only [List.cons_append]
   rw [aW]
   exact⟨u,us'++vs,rfl,hx,hxs.append h2⟩
theorem bI.jR {E:En} {h:Array Obj}: ∀{n:Nat} {xs ys:List AV} {us:List Value},bI E h xs us→As.jR n xs=some ys→bI E h ys (us.take n)∧n≤xs.length
 | 0,xs,ys,us,_,h2=>by simp [As.jR] at h2; subst h2; simp [bI]
 | n+1,[],ys,us,_,h2=>by simp [As.jR] at h2
 | n+1,x :: xs,ys,us,h1,h2=>by
   rw [aW] at h1
   obtain⟨u,vs,rfl,hx,hxs⟩:=h1
   simp only [As.jR] at h2
   split at h2
   ·rename_i l hl
    simp at h2
    subst h2
    have:=hxs.jR hl
    rw [List.take_succ_cons,aW]
    exact⟨⟨u,_,rfl,hx,this.1⟩,by simp; exact this.2⟩
   ·simp at h2
theorem bI.fC {E:En} {h:Array Obj}: ∀{n:Nat} {xs ys:List AV} {us:List Value},bI E h xs us→As.fC n xs=some ys→bI E h ys (us.drop n)∧n≤xs.length∧ys.length=xs.length - n
 | 0,xs,ys,us,h1,h2=>by simp [As.fC] at h2; subst h2; simpa using h1
 | n+1,[],ys,us,_,h2=>by simp [As.fC] at h2
 | n+1,x :: xs,ys,us,h1,h2=>by
   rw [aW] at h1
   obtain⟨u,vs,rfl,hx,hxs⟩:=h1
   simp only [As.fC] at h2
   have:=hxs.fC h2
   refine⟨by simpa using this.1,by simp; exact this.2.1,by simp; exact this.2.2⟩
theorem bI.nth {E:En} {h:Array Obj}: ∀{i:Nat} {xs:List AV} {x:AV} {us:List Value},bI E h xs us→gK xs i=some x→∃u,us[i]?=some u∧VR E h x u
 | _,[],_,us,_,h2=>by simp [gK] at h2
 | 0,x :: xs,y,us,h1,h2=>by
   rw [aW] at h1
   obtain⟨u,vs,rfl,hx,hxs⟩:=h1
   simp [gK] at h2
   subst h2
   exact⟨u,by simp,hx⟩
 | i+1,x :: xs,y,us,h1,h2=>by
   rw [aW] at h1
   obtain⟨u,vs,rfl,hx,hxs⟩:=h1
   simp only [gK] at h2
   obtain⟨v,h3,h4⟩:=hxs.nth h2
   exact⟨v,by simpa using h3,h4⟩
def eY (E:En) (h:Array Obj):List (AV×AV×Nat)→List MapEntry→Prop
 | [],es=>es= []
 | (k,v,b) :: xs,es=> ∃e r,es=e :: r∧VR E h k e.key∧VR E h v e.val∧b=b∧eY E h xs r
def oH (ro:Nat→Prop) (h:Array Obj) (t:Nat):List D→List MapEntry→Prop
 | [],es=>es= []
 | d :: ds,es=> ∃e r,es=e :: r∧d= .p (adR d) (amL d)∧Rd ro h (mapOf t).1 (adR d) e.key∧Rd ro h (mapOf t).2 (amL d) e.val∧oH ro h t ds r
theorem oH.keep {ro ro':Nat→Prop} {h h':Array Obj} (k1: ∀b,ro b→ro' b) (k2: ∀b,ro b→h'[b]?=h[b]?) {t:Nat}: ∀{ds:List D} {es:List MapEntry},oH ro h t ds es→oH ro' h' t ds es
 | [],_,hh=>hh
 | _ :: _,_,hh=>by
   obtain⟨e,r,h1,h2,h3,h4,h5⟩:=hh
   exact⟨e,r,h1,h2,h3.keep k1 k2,h4.keep k1 k2,oH.keep k1 k2 h5⟩
theorem oH.length {ro:Nat→Prop} {h:Array Obj} {t:Nat}: ∀{ds:List D} {es:List MapEntry},oH ro h t ds es→es.length=ds.length
 | [],_,hh=>by simp only [oH] at hh; rw [hh]; rfl
 | _ :: _,_,hh=>by
   obtain⟨e,r,h1,_,_,_,h5⟩:=hh
   rw [h1,List.length_cons,List.length_cons,oH.length h5]
noncomputable def dS (ρ:Nat→Int) (i:Nat):List (SE×List AV)→Option (List AV)
 | []=>none
 | (j,cs) :: l=>if j.den ρ=(i:Int) then some cs else dS ρ i l
noncomputable def aK (ρ:Nat→Int) (r:Row) (ov:List (SE×List AV)):List D→Nat→List AV
 | [],_=>[]
 | d :: ds,i=>(match dS ρ i ov with | some cs=>cs | none=>iY r (.dat d))++aK ρ r ov ds (i+1)
def E8 (r:Row) (ov:List (SE×List AV)):Prop:= ∀p∈ov,p.2.length=r.es
def OR (E:En) (h:Array Obj) (id:Nat):dW→Prop
 | .cells cs e=> ∃arr lo hi us,h[(E.θ id).1]?=some (.cells arr e (lo,hi))∧bI E h cs us∧(∀i u,us[i]?=some u→arr[(E.θ id).2+i]?=some u)∧
  cs.length≤E.κ id∧(E.θ id).2+E.κ id=arr.size∧(∀o,lo≤o→o < hi→arr.size≤o)∧(∀u∈us,u.oneCell'=true)
 | .map es _=> ∃ents c,h[(E.θ id).1]?=some (.map ents c)∧eY E h es ents.toList
 | .vec e t ty ov=>(E8 (rowOf t) ov∧Jf (rowOf t) (dec (e.den E.ρ)))∧∃arr lo hi us,h[(E.θ id).1]?=some (.cells arr ty (lo,hi))∧bI E h (aK E.ρ (rowOf t) ov (dec (e.den E.ρ)).l 0) us∧(∀i u,us[i]?=some u→arr[(E.θ id).2+i]?=some u)∧
  (aK E.ρ (rowOf t) ov (dec (e.den E.ρ)).l 0).length≤E.κ id∧(E.θ id).2+E.κ id=arr.size∧(∀o,lo≤o→o < hi→arr.size≤o)∧(∀u∈us,u.oneCell'=true)
 | .nT s p=>h[(E.θ id).1]?=some (.stringIter (bZ s) p)∧(E.θ id).2=0∧∀b∈s,b < 256
 | .iO e t=> ∃ents c,h[(E.θ id).1]?=some (.map ents c)∧oH E.ro h t (dec (e.den E.ρ)).l ents.toList
class Glob where
 ok:(Nat→Int)→(Nat→Prop)→Array Obj→Prop
 keep: ∀{ρ:Nat→Int} {ro ro':Nat→Prop} {h h':Array Obj},ok ρ ro h→(∀b,ro b→ro' b)→(∀b,ro b→h'[b]?=h[b]?)→ok ρ ro' h'
 ren: ∀{ρ ρ':Nat→Int} {ro:Nat→Prop} {h:Array Obj},ok ρ ro h→(∀i,900≤i→ρ' i=ρ i)→ok ρ' ro h
structure bG [Glob] (E:En) (H:Hp) (w:World):Prop where
 fresh: ∀id,H.next≤id→¬E.dm id
 res: ∀r,H.res=some r→r < H.next∧¬E.dm r
 live: ∀id o,H.get id=some o→E.dm id∧OR E w.heap id o∧¬E.ro (E.θ id).1
 inj: ∀id id' o o',H.get id=some o→H.get id'=some o'→(E.θ id).1=(E.θ id').1→id=id'
 AZ: ∀b,E.ro b→b < w.heap.size
 glob:Glob.ok E.ρ E.ro w.heap
structure Stp (E:En) (H:Hp) (w:World) (E':En) (H':Hp) (w':World):Prop where
 ρ:E'.ρ=E.ρ
 dm: ∀id,E.dm id→E'.dm id
 θ: ∀id,E.dm id→E'.θ id=E.θ id
 κ: ∀id,E.dm id→E'.κ id=E.κ id
 ro: ∀b,E.ro b→E'.ro b
 IC: ∀b,E'.ro b→E.ro b∨(∃id o,H.get id=some o∧(E.θ id).1=b)∨w.heap.size≤b
 nxm:H.next≤H'.next
 rsm:H'.res=none∨H'.res=H.res
 dmn: ∀id,E'.dm id→E.dm id∨(H.next≤id∧id < H'.next)∨H.res=some id
 os:w'.os=w.os
 tape:w'.tape=w.tape
 output:w'.output=w.output
 size:w.heap.size≤w'.heap.size
 keep: ∀b,b < w.heap.size→(∀id o,H.get id=some o→(E.θ id).1≠b)→w'.heap[b]?=w.heap[b]?
 own: ∀id o,H'.get id=some o→(E'.θ id).1 < w.heap.size→∃Dy o0,H.get Dy=some o0∧(E.θ Dy).1=(E'.θ id).1
theorem Stp.refl (E:En) (H:Hp) (w:World):Stp E H w E H w:=
 ⟨rfl,fun _ h=>h,fun _ _=>rfl,fun _ _=>rfl,fun _ h=>h,fun _ h=> .inl h,Nat.le_refl _,.inr rfl,fun _ h=> .inl h,rfl,rfl,rfl,Nat.le_refl _,fun _ _ _=>rfl,fun id o h _=> ⟨id,o,h,rfl⟩⟩
theorem Stp.trans {E E1 E2:En} {H H1 H2:Hp} {w w1 w2:World} (a:Stp E H w E1 H1 w1) (b:Stp E1 H1 w1 E2 H2 w2):Stp E H w E2 H2 w2 where
 ρ:=b.ρ.trans a.ρ
 dm:=fun id h=>b.dm id (a.dm id h)
 θ:=fun id h=>(b.θ id (a.dm id h)).trans (a.θ id h)
 κ:=fun id h=>(b.κ id (a.dm id h)).trans (a.κ id h)
 ro:=fun x h=>b.ro x (a.ro x h)
 IC:=fun x h=>by
  rcases b.IC x h with h | ⟨id,o,h1,h2⟩ | h
  ·exact a.IC x h
  ·rcases Nat.lt_or_ge x w.heap.size with hx | hx
   ·obtain⟨Dy,o0,h3,h4⟩:=a.own id o h1 (by rw [h2]; exact hx)
    exact .inr (.inl ⟨Dy,o0,h3,h4.trans h2⟩)
   ·exact .inr (.inr hx)
  ·exact .inr (.inr (Nat.le_trans a.size h))
 nxm:=Nat.le_trans a.nxm b.nxm
 rsm:=by
  rcases b.rsm with h | h
  ·exact .inl h
  ·rw [h]; exact a.rsm
 dmn:=fun id h=>by
  rcases b.dmn id h with h | h | h
  ·rcases a.dmn id h with h | h | h
   ·exact .inl h
   ·exact .inr (.inl ⟨h.1,Nat.lt_of_lt_of_le h.2 b.nxm⟩)
   ·exact .inr (.inr h)
  ·exact .inr (.inl ⟨Nat.le_trans a.nxm h.1,h.2⟩)
  ·rcases a.rsm with h' | h'
   ·rw [h'] at h; simp at h
   ·exact .inr (.inr (h'.symm.trans h))
 os:=b.os.trans a.os
 tape:=b.tape.trans a.tape
 output:=b.output.trans a.output
 size:=Nat.le_trans a.size b.size
 keep:=fun x hx hn=>by
  rw [b.keep x (Nat.lt_of_lt_of_le hx a.size) ?_,a.keep x hx hn]
  intro id o ho he
  obtain⟨Dy,o0,h0,he0⟩:=a.own id o ho (by rw [he]; exact hx)
  exact hn Dy o0 h0 (he0.trans he)
 own:=fun id o ho hlt=>by
  obtain⟨id1,o1,h1,he1⟩:=b.own id o ho (Nat.lt_of_lt_of_le hlt a.size)
  obtain⟨Dy,o0,h0,he0⟩:=a.own id1 o1 h1 (by rw [he1]; exact hlt)
  exact⟨Dy,o0,h0,he0.trans he1⟩
structure Keeps (E:En) (h:Array Obj) (E':En) (h':Array Obj):Prop where
 ρ:E'.ρ=E.ρ
 dm: ∀id,E.dm id→E'.dm id
 θ: ∀id,E.dm id→E'.θ id=E.θ id
 κ: ∀id,E.dm id→E'.κ id=E.κ id
 ro: ∀b,E.ro b→E'.ro b
 KL: ∀b,E.ro b→h'[b]?=h[b]?
theorem Stp.keeps [Glob] {E E':En} {H H':Hp} {w w':World} (s:Stp E H w E' H' w') (r:bG E H w):Keeps E w.heap E' w'.heap:=
 ⟨s.ρ,s.dm,s.θ,s.κ,s.ro,fun b hb=>s.keep b (r.AZ b hb) fun id o ho he=>(r.live id o ho).2.2 (by rw [he]; exact hb)⟩
theorem iC.keep {E E':En} {h h':Array Obj} (k:Keeps E h E' h') {b o:Nat} {us:List Value} (hb:E.ro b) (hc:iC h b o us):iC h' b o us:=by
 intro i u hu
 have:=hc i u hu
 unfold hcell at *
 rw [k.KL b hb]
 exact this
theorem fH.keep {E E':En} {h h':Array Obj} (k:Keeps E h E' h') {id off len:Nat} {a:Addr} {cap:Nat} {c:WI} (hid:E.dm id) (hc:fH E id off len a cap c):fH E' id off len a cap c:=by
 cases c <;> simp only [fH] at* <;> rw [k.θ id hid]
 ·exact hc
 ·rw [k.κ id hid]; exact hc
mutual
theorem VR.keep {E E':En} {h h':Array Obj} (k:Keeps E h E' h'): ∀(x:AV) (v:Value),VR E h x v→VR E' h' x v
 | .bool b,v,hv=>by simp only [VR] at *; rw [k.ρ]; exact hv
 | .int _ e,v,hv=>by simp only [VR] at *; rw [k.ρ]; exact hv
 | .str s,v,hv=>by simp only [VR] at *; exact hv
 | .ptr id off,v,hv=>by simp only [VR] at *; rw [k.θ id hv.2]; exact⟨hv.1,k.dm _ hv.2⟩
 | .jH,v,hv=>by simp only [VR] at *; exact hv
 | .qZ cs,v,hv=>by
   simp only [VR] at *
   obtain⟨b,o,us,h1,h2,h3,h4,h5⟩:=hv
   exact⟨b,o,us,h1,k.ro b h2,bI.keep k cs us h3,h4.keep k h2,h5⟩
 | .slice id off len c,v,hv=>by
   simp only [VR] at *
   obtain⟨h1,a,cap,h2,h3,h4⟩:=hv
   exact⟨k.dm _ h1,a,cap,h2,h3,h4.keep k h1⟩
 | .aA,v,hv=>by simp only [VR] at *; exact hv
 | .ro cs n full,v,hv=>by
   simp only [VR] at *
   obtain⟨b,o,cap,us,h1,h2,h3,h4,h5,h6,h7⟩:=hv
   exact⟨b,o,cap,us,h1,h2,h3,k.ro b h4,bI.keep k cs us h5,h6.keep k h4,h7⟩
 | .map id,v,hv=>by simp only [VR] at *; rw [k.θ id hv.2]; exact⟨hv.1,k.dm _ hv.2⟩
 | .lX,v,hv=>by simp only [VR] at *; exact hv
 | .func fn fs cs,v,hv=>by
   simp only [VR] at *
   obtain⟨us,ws,h1,h2,h3⟩:=hv
   exact⟨us,ws,h1,bI.keep k fs us h2,bI.keep k cs ws h3⟩
 | .yZ,v,hv=>by simp only [VR] at *; exact hv
 | .iface t x,v,hv=>by
   simp only [VR] at *
   obtain⟨u,h1,h2⟩:=hv
   exact⟨u,h1,VR.keep k x u h2⟩
 | .Eh,v,hv=>by simp only [VR] at *; exact hv
 | .agg cs,v,hv=>by
   simp only [VR] at *
   obtain⟨us,h1,h2⟩:=hv
   exact⟨us,h1,bI.keep k cs us h2⟩
 | .tuple cs,v,hv=>by
   simp only [VR] at *
   obtain⟨us,h1,h2⟩:=hv
   exact⟨us,h1,bI.keep k cs us h2⟩
 | .opq _,v,hv=>by simp only [VR] at hv
 | .emp,v,hv=>by simp only [VR] at *; exact hv
 | .dat e t,v,hv=>by simp only [VR] at *; rw [k.ρ]; exact hv.keep k.ro k.KL
 | .lY e,v,hv=>by simp only [VR] at *; rw [k.ρ]; exact hv.keep k.ro k.KL
 | .uU id n t,v,hv=>by
   simp only [VR] at *
   obtain⟨h1,m,a,cap,h2,h3,h4,h5⟩:=hv
   exact⟨k.dm _ h1,m,a,cap,by rw [k.ρ]; exact h2,h3,h4,h5.keep k h1⟩
 | .any,_,_=>by simp only [VR]
 | .GL z t,v,hv=>by simp only [VR] at *; rw [k.ρ]; exact⟨hv.1,hv.2.keep k.ro k.KL⟩
 | .Au id lo n t,v,hv=>by
   simp only [VR] at *
   obtain⟨h1,l,m,a,cap,h2,h3,h4,h5,h6⟩:=hv
   exact⟨k.dm _ h1,l,m,a,cap,by rw [k.ρ]; exact h2,by rw [k.ρ]; exact h3,h4,h5,h6.keep k h1⟩
 | .qC id es i off,v,hv=>by
   simp only [VR] at *
   obtain⟨h1,m,h2,h3⟩:=hv
   exact⟨k.dm _ h1,m,by rw [k.ρ]; exact h2,by rw [k.θ id h1]; exact h3⟩
 | .inp kk ks,v,hv=>by
   simp only [VR] at *
   rw [k.ρ]
   rcases hv with hv | ⟨b,o,n,cap,h1,h2,h3,h4,h5⟩
   ·exact .inl hv
   ·refine .inr ⟨b,o,n,cap,h1,h2,h3,k.ro b h4,fun i j kd hi hj=>?_⟩
    have:=h5 i j kd hi hj
    unfold hcell at *
    rw [k.KL b h4]
    exact this
theorem bI.keep {E E':En} {h h':Array Obj} (k:Keeps E h E' h'): ∀(xs:List AV) (us:List Value),bI E h xs us→bI E' h' xs us
 | [],us,hv=>by simp only [bI] at *; exact hv
 | x :: xs,us,hv=>by
   simp only [bI] at *
   obtain⟨u,vs,h1,h2,h3⟩:=hv
   exact⟨u,vs,h1,VR.keep k x u h2,bI.keep k xs vs h3⟩
end
theorem eY.keep {E E':En} {h h':Array Obj} (k:Keeps E h E' h'): ∀(xs:List (AV×AV×Nat)) (es:List MapEntry),eY E h xs es→eY E' h' xs es
 | [],es,hv=>by simp only [eY] at *; exact hv
 | (a,b,c) :: xs,es,hv=>by
   simp only [eY] at *
   obtain⟨e,r,h1,h2,h3,h4,h5⟩:=hv
   exact⟨e,r,h1,VR.keep k _ _ h2,VR.keep k _ _ h3,h4,eY.keep k xs r h5⟩
theorem OR.keep {E E':En} {h h':Array Obj} (k:Keeps E h E' h') {id:Nat} {o:dW} (hid:E.dm id) (hb:h'[(E.θ id).1]?=h[(E.θ id).1]?) (ho:OR E h id o):OR E' h' id o:=by
 cases o with
 | cells cs e=>
   simp only [OR] at *
   obtain⟨arr,lo,hi,us,h1,h2,h3,h4,h5,h6,h7⟩:=ho
   rw [k.θ id hid,k.κ id hid,hb]
   exact⟨arr,lo,hi,us,h1,bI.keep k cs us h2,h3,h4,h5,h6,h7⟩
 | map es c=>
   simp only [OR] at *
   obtain⟨ents,c,h1,h2⟩:=ho
   rw [k.θ id hid,hb]
   exact⟨ents,c,h1,eY.keep k es _ h2⟩
 | nT s p=>
   simp only [OR] at *
   rw [k.θ id hid,hb]
   exact ho
 | iO e t=>
   simp only [OR] at *
   obtain⟨ents,c,h1,h2⟩:=ho
   rw [k.θ id hid,hb,k.ρ]
   exact⟨ents,c,h1,h2.keep k.ro k.KL⟩
 | vec e t ty ov=>
   simp only [OR] at *
   obtain⟨h0,arr,lo,hi,us,h1,h2,h3,h4,h5,h6,h7⟩:=ho
   rw [k.θ id hid,k.κ id hid,hb,k.ρ]
   exact⟨h0,arr,lo,hi,us,h1,bI.keep k _ us h2,h3,h4,h5,h6,h7⟩
end Go.As
end
section
namespace Go.As
theorem Hp.get_put (h:Hp) (i:Nat) (o:dW) (j:Nat):(h.put i o).get j=if j=i then some o else h.get j:=by
 simp [Hp.get,Hp.put,Tr.get_put]
theorem Hp.mF (h:Hp) (o:dW) (j:Nat):(h.new o).get j=if j=h.fresh then some o else h.get j:=by
 unfold Hp.new Hp.fresh
 cases h.res <;> simp [Hp.get,Tr.get_put]
theorem bG.anW [Glob] {E:En} {H:Hp} {w:World} (r:bG E H w): ¬E.dm H.fresh:=by
 unfold Hp.fresh
 cases hr:H.res with
 | none=>exact r.fresh _ (Nat.le_refl _)
 | some x=>exact (r.res x hr).2
theorem bG.Aw [Glob] {E:En} {H:Hp} {w:World} (r:bG E H w) {i:Nat} (h:E.dm i):i≠H.fresh:=fun e=>r.anW (e▸h)
theorem Hp.yD (h:Hp) (i j:Nat):(h.drop i).get j=if j=i then none else h.get j:=by
 simp [Hp.get,Hp.drop,Tr.get_put]
def En.ext (E:En) (n:Nat) (p:Nat×Nat) (c:Nat):En:=
 { E with θ:=fun i=>if i=n then p else E.θ i,κ:=fun i=>if i=n then c else E.κ i,dm:=fun i=>i=n∨E.dm i }
theorem En.ext_θ_new (E:En) (n:Nat) (p:Nat×Nat) (c:Nat):(E.ext n p c).θ n=p:=by simp [En.ext]
theorem En.ext_κ_new (E:En) (n:Nat) (p:Nat×Nat) (c:Nat):(E.ext n p c).κ n=c:=by simp [En.ext]
theorem En.jI (E:En) (n:Nat) (p:Nat×Nat) (c:Nat):(E.ext n p c).dm n:=.inl rfl
theorem En.ext_θ (E:En) (n:Nat) (p:Nat×Nat) (c:Nat) {i:Nat} (h:i≠n):(E.ext n p c).θ i=E.θ i:=by simp [En.ext,h]
theorem En.ext_κ (E:En) (n:Nat) (p:Nat×Nat) (c:Nat) {i:Nat} (h:i≠n):(E.ext n p c).κ i=E.κ i:=by simp [En.ext,h]
theorem PX [Glob] {E:En} {H:Hp} {w:World} (r:bG E H w) (p:Nat×Nat) (c:Nat) (o:dW):(∀id,(H.new o).next≤id→¬(E.ext H.fresh p c).dm id)∧∀q,(H.new o).res=some q→q < (H.new o).next∧¬(E.ext H.fresh p c).dm q:=by
 have h1:=r.fresh
 have h2:=r.res
 unfold Hp.new Hp.fresh
 cases hr:H.res with
 | none=>
   refine⟨fun id hid hd=>?_,by simp⟩
   simp at hid
   rcases hd with hd | hd
   ·have hd:id=H.next:=hd
    omega
   ·exact h1 id (by omega) hd
 | some q=>
   refine⟨fun id hid hd=>?_,by simp⟩
   simp at hid
   have:=h2 q hr
   rcases hd with hd | hd
   ·have hd:id=q:=hd
    omega
   ·exact h1 id (by omega) hd
theorem xX (H:Hp) (o:dW):H.next≤(H.new o).next∧((H.new o).res=none∨(H.new o).res=H.res)∧∀id,id=H.fresh→(H.next≤id∧id < (H.new o).next)∨H.res=some id:=by
 unfold Hp.new Hp.fresh
 cases hr:H.res with
 | none=>exact⟨Nat.le_succ _,.inl rfl,fun id e=> .inl ⟨by have e:id=H.next:=e; omega,by have e:id=H.next:=e; show id < H.next+1; omega⟩⟩
 | some q=>exact⟨Nat.le_refl _,.inl rfl,fun id e=> .inr (by have e:id=q:=e; rw [e])⟩
structure Alike (w w':World):Prop where
 os:w'.os=w.os
 tape:w'.tape=w.tape
 output:w'.output=w.output
theorem KW {h:Array Obj} {o:Obj} {b:Nat} (hb:b < h.size):(h.push o)[b]?=h[b]?:=by
 rw [Array.getElem?_push,if_neg (by omega)]
theorem LK [Glob] {E:En} {H:Hp} {w:World} (r:bG E H w) (p:Nat×Nat) (c:Nat) (o:Obj):Keeps E w.heap (E.ext H.fresh p c) (w.heap.push o):=
 ⟨rfl,fun _ h=> .inr h,fun _ h=>En.ext_θ E _ p c (r.Aw h),fun _ h=>En.ext_κ E _ p c (r.Aw h),fun _ h=>h,fun b hb=>KW (r.AZ b hb)⟩
theorem jB [Glob] {E:En} {H:Hp} {w:World} (r:bG E H w) {id:Nat} {o:dW} (h:H.get id=some o):(E.θ id).1 < w.heap.size:=by
 have h2:=(r.live id o h).2.1
 cases o with
 | cells cs e=>
   obtain⟨arr,lo,hi,us,h1,_⟩:=h2
   exact (Array.getElem?_eq_some_iff.1 h1).1
 | map es c=>
   obtain⟨ents,c',h1,_⟩:=h2
   exact (Array.getElem?_eq_some_iff.1 h1).1
 | nT s p=>exact (Array.getElem?_eq_some_iff.1 h2.1).1
 | iO e t=>
   obtain⟨ents,c',h1,_⟩:=h2
   exact (Array.getElem?_eq_some_iff.1 h1).1
 | vec e t ty ov=>
   obtain⟨_,arr,lo,hi,us,h1,_⟩:=h2
   exact (Array.getElem?_eq_some_iff.1 h1).1
theorem Fj [Glob] {E:En} {H:Hp} {w w':World} (r:bG E H w) (o:Obj) (ao:dW) (c:Nat) (hw:w'.heap=w.heap.push o) (al:Alike w w')
 (ho:OR (E.ext H.fresh (w.heap.size,0) c) w'.heap H.fresh ao) :
 Stp E H w (E.ext H.fresh (w.heap.size,0) c) (H.new ao) w'∧bG (E.ext H.fresh (w.heap.size,0) c) (H.new ao) w':=by
 have k:=LK r (w.heap.size,0) c o
 rw [← hw] at k
 have hf:=PX r (w.heap.size,0) c ao
 refine⟨⟨k.ρ,k.dm,k.θ,k.κ,k.ro,fun _ h=> .inl h,(xX H ao).1,(xX H ao).2.1,fun id h=>h.elim (fun e=> .inr ((xX H ao).2.2 id e)) .inl,al.os,al.tape,al.output,by rw [hw]; simp,fun b hb _=>by rw [hw,KW hb],?_⟩,⟨hf.1,hf.2,?_,?_,?_,Glob.keep r.glob k.ro k.KL⟩⟩
 ·intro id o2 h2 hlt
  rw [Hp.mF] at h2
  split at h2
  ·rename_i he
   rw [he,En.ext_θ_new] at hlt
   simp at hlt
  ·have h3:=(r.live id o2 h2).1
   exact⟨id,o2,h2,by rw [En.ext_θ _ _ _ _ (r.Aw h3)]⟩
 ·intro id o2 h2
  rw [Hp.mF] at h2
  split at h2
  ·rename_i he
   simp at h2
   subst h2
   rw [he,En.ext_θ_new]
   refine⟨En.jI _ _ _ _,ho,fun hr=>?_⟩
   have:=r.AZ _ hr
   simp at this
  ·obtain⟨h3,h4,h5⟩:=r.live id o2 h2
   refine⟨.inr h3,h4.keep k h3 ?_,?_⟩
   ·rw [hw,KW (jB r h2)]
   ·rw [En.ext_θ _ _ _ _ (r.Aw h3)]; exact h5
 ·intro id id' o1 o2 h1 h2 he
  rw [Hp.mF] at h1 h2
  split at h1 <;> split at h2
  ·omega
  ·rename_i e1 _
   have h3:=(r.live id' o2 h2).1
   rw [e1,En.ext_θ_new,En.ext_θ _ _ _ _ (r.Aw h3)] at he
   have:=jB r h2
   simp only at he
   omega
  ·rename_i _ e1
   have h3:=(r.live id o1 h1).1
   rw [e1,En.ext_θ_new,En.ext_θ _ _ _ _ (r.Aw h3)] at he
   have:=jB r h1
   simp only at he
   omega
  ·have h3:=(r.live id o1 h1).1
   have h4:=(r.live id' o2 h2).1
   rw [En.ext_θ _ _ _ _ (r.Aw h3),En.ext_θ _ _ _ _ (r.Aw h4)] at he
   exact r.inj id id' o1 o2 h1 h2 he
 ·intro b hb
  have:=r.AZ b hb
  rw [hw]
  simp
  omega
theorem sH [Glob] {E:En} {H:Hp} {w w':World} (r:bG E H w) {id:Nat} {o:dW} (hl:H.get id=some o)
 (hother: ∀b,b≠(E.θ id).1→w'.heap[b]?=w.heap[b]?):Keeps E w.heap E w'.heap:=
 ⟨rfl,fun _ h=>h,fun _ _=>rfl,fun _ _=>rfl,fun _ h=>h,fun b hb=>hother b fun e=>(r.live id o hl).2.2 (by rw [← e]; exact hb)⟩
theorem UQ [Glob] {E:En} {H:Hp} {w w':World} (r:bG E H w) {id:Nat} {o:dW} (hl:H.get id=some o) (ao:dW)
 (hsize:w'.heap.size=w.heap.size) (hother: ∀b,b≠(E.θ id).1→w'.heap[b]?=w.heap[b]?) (al:Alike w w') (ho:OR E w'.heap id ao) :
 Stp E H w E (H.put id ao) w'∧bG E (H.put id ao) w':=by
 have k:=sH r hl hother
 refine⟨⟨rfl,fun _ h=>h,fun _ _=>rfl,fun _ _=>rfl,fun _ h=>h,fun _ h=> .inl h,Nat.le_refl _,.inr rfl,fun _ h=> .inl h,al.os,al.tape,al.output,by omega,?_,?_⟩,⟨r.fresh,r.res,?_,?_,?_,Glob.keep r.glob k.ro k.KL⟩⟩
 ·intro b _ hn
  exact hother b fun e=>hn id o hl e.symm
 ·intro j o2 h2 _
  rw [Hp.get_put] at h2
  split at h2
  ·rename_i e; subst e; exact⟨j,o,hl,rfl⟩
  ·exact⟨j,o2,h2,rfl⟩
 ·intro j o2 h2
  rw [Hp.get_put] at h2
  split at h2
  ·rename_i e
   subst e
   simp at h2
   subst h2
   exact⟨(r.live j o hl).1,ho,(r.live j o hl).2.2⟩
  ·rename_i e
   obtain⟨h3,h4,h5⟩:=r.live j o2 h2
   refine⟨h3,h4.keep k h3 (hother _ fun e2=>e (r.inj j id o2 o h2 hl e2)),h5⟩
 ·intro i j o1 o2 h1 h2 he
  rw [Hp.get_put] at h1 h2
  split at h1 <;> split at h2
  ·omega
  ·rename_i e1 _; subst e1; exact r.inj i j o o2 hl h2 he
  ·rename_i _ e1; subst e1; exact r.inj i j o1 o h1 hl he
  ·exact r.inj i j o1 o2 h1 h2 he
 ·intro b hb
  rw [hsize]
  exact r.AZ b hb
theorem drop_step [Glob] {E:En} {H:Hp} {w:World} (r:bG E H w) (id:Nat):Stp E H w E (H.drop id) w∧bG E (H.drop id) w:=by
 have hg: ∀j o,(H.drop id).get j=some o→H.get j=some o:=by
  intro j o h
  rw [Hp.yD] at h
  split at h
  ·simp at h
  ·exact h
 exact⟨⟨rfl,fun _ h=>h,fun _ _=>rfl,fun _ _=>rfl,fun _ h=>h,fun _ h=> .inl h,Nat.le_refl _,.inr rfl,fun _ h=> .inl h,rfl,rfl,rfl,Nat.le_refl _,fun _ _ _=>rfl,fun j o h _=> ⟨j,o,hg j o h,rfl⟩⟩,
  ⟨r.fresh,r.res,fun j o h=>r.live j o (hg j o h),fun i j o1 o2 h1 h2 he=>r.inj i j o1 o2 (hg _ _ h1) (hg _ _ h2) he,r.AZ,r.glob⟩⟩
theorem Xw [Glob] {E:En} {H:Hp} {w w':World} (r:bG E H w) {id:Nat} {o:dW} (hl:H.get id=some o) (ao:dW) (off c:Nat)
 (hsize:w'.heap.size=w.heap.size) (hother: ∀b,b≠(E.θ id).1→w'.heap[b]?=w.heap[b]?) (al:Alike w w')
 (ho:OR (E.ext H.fresh ((E.θ id).1,(E.θ id).2+off) c) w'.heap H.fresh ao) :
 Stp E H w (E.ext H.fresh ((E.θ id).1,(E.θ id).2+off) c) ((H.drop id).new ao) w'∧bG (E.ext H.fresh ((E.θ id).1,(E.θ id).2+off) c) ((H.drop id).new ao) w':=by
 have hdn:(H.drop id).fresh=H.fresh:=rfl
 have hf:=PX (drop_step r id).2 ((E.θ id).1,(E.θ id).2+off) c ao
 rw [hdn] at hf
 have k:Keeps E w.heap (E.ext H.fresh ((E.θ id).1,(E.θ id).2+off) c) w'.heap:=
  ⟨rfl,fun _ h=> .inr h,fun _ h=>En.ext_θ E _ _ c (r.Aw h),fun _ h=>En.ext_κ E _ _ c (r.Aw h),fun _ h=>h,(sH r hl hother).KL⟩
 have hg: ∀j o2,((H.drop id).new ao).get j=some o2→(j=H.fresh∧o2=ao)∨(j≠id∧H.get j=some o2):=by
  intro j o2 h
  rw [Hp.mF,hdn] at h
  split at h
  ·rename_i e; simp at h; exact .inl ⟨e,h.symm⟩
  ·rw [Hp.yD] at h
   split at h
   ·simp at h
   ·rename_i e; exact .inr ⟨e,h⟩
 refine⟨⟨rfl,k.dm,k.θ,k.κ,k.ro,fun _ h=> .inl h,(xX (H.drop id) ao).1,(xX (H.drop id) ao).2.1,fun j h=>h.elim (fun e=> .inr ((xX (H.drop id) ao).2.2 j e)) .inl,al.os,al.tape,al.output,by omega,?_,?_⟩,⟨hf.1,hf.2,?_,?_,?_,Glob.keep r.glob k.ro k.KL⟩⟩
 ·intro b _ hn
  exact hother b fun e=>hn id o hl e.symm
 ·intro j o2 h2 hlt
  rcases hg j o2 h2 with ⟨rfl,rfl⟩ | ⟨_,h3⟩
  ·exact⟨id,o,hl,by rw [En.ext_θ_new]⟩
  ·have:=(r.live j o2 h3).1
   exact⟨j,o2,h3,by rw [En.ext_θ _ _ _ _ (r.Aw this)]⟩
 ·intro j o2 h2
  rcases hg j o2 h2 with ⟨rfl,rfl⟩ | ⟨hne,h3⟩
  ·rw [En.ext_θ_new]
   exact⟨En.jI _ _ _ _,ho,(r.live id o hl).2.2⟩
  ·obtain⟨h4,h5,h6⟩:=r.live j o2 h3
   refine⟨.inr h4,h5.keep k h4 (hother _ fun e=>hne (r.inj j id o2 o h3 hl e)),?_⟩
   rw [En.ext_θ _ _ _ _ (r.Aw h4)]; exact h6
 ·intro i j o1 o2 h1 h2 he
  rcases hg i o1 h1 with ⟨e1,_⟩ | ⟨e1,h3⟩ <;> rcases hg j o2 h2 with ⟨e2,_⟩ | ⟨e2,h4⟩
  ·omega
  ·have:=(r.live j o2 h4).1
   rw [e1,En.ext_θ_new,En.ext_θ _ _ _ _ (r.Aw this)] at he
   exact absurd (r.inj id j o o2 hl h4 he).symm e2
  ·have:=(r.live i o1 h3).1
   rw [e2,En.ext_θ_new,En.ext_θ _ _ _ _ (r.Aw this)] at he
   exact absurd (r.inj i id o1 o h3 hl he) e1
  ·have h5:=(r.live i o1 h3).1
   have h6:=(r.live j o2 h4).1
   rw [En.ext_θ _ _ _ _ (r.Aw h5),En.ext_θ _ _ _ _ (r.Aw h6)] at he
   exact r.inj i j o1 o2 h3 h4 he
 ·intro b hb
  rw [hsize]
  exact r.AZ b hb
end Go.As
end
section
namespace Go.As
def SI:Value→Bool
 | .agg _=>true
 | _=>false
def aeU (P:Program):TypeDesc→Option TK
 | .bool=>some .bool
 | .int k=>some (.int k)
 | .string=>some .string
 | .pointer e=>some (.pointer e)
 | .slice e=>some (.slice e)
 | .array n e=>some (.array n e)
 | .map k e=>some (.map k e)
 | .struct fs=>(fs.toList.mapM fun f=>(P.info? f.type).map fun i=>(f.offset,f.type,i.size)).map .struct
 | .func _ _ _=>some .func
 | .interface ms=>some (.iface ms.isEmpty)
 | .tuple _=>some .tuple
 | _=>none
def ajX (P:Program) (t:Nat):Bool:=
 match P.underlying t with
 | some (.struct fs)=>!P.stoodInHeld t && !P.eqGuardType P.depth t && fs.toList.all fun f=>f.name != "_" && (match P.underlying f.type with | some .bool | some .string | some (.int _)=>true | _=>false)
 | _=>false
def aBh (i:TypeInfo) (z:Value) (k:TK) (q:Bool):Option TI:=
 match nN z.cells.toList with
 | some zs=>if SI z=k.agg then some { kind:=k,size:=i.size,bytes:=i.bytes,zero:=zs,eqs:=q } else none
 | none=>none
def aoD (P:Program) (t:Nat):Option TI:=
 match P.info? t with
 | none=>none
 | some i=>match P.underlying t with
   | none=>none
   | some d=>match aeU P d with
     | none=>none
     | some k=>match i.zero with
       | none=>none
       | some z=>aBh i z k (ajX P t)
end Go.As
end
section
namespace Go.As
theorem fF (b o n:Nat):(⟨b,o,none⟩ : Addr).add n=⟨b,o+n,none⟩:=by unfold Addr.add; split <;> simp_all
def Rf (P:Program):TypeDesc→TK→Prop
 | .bool,.bool=>True
 | .int k,.int k'=>k=k'
 | .string,.string=>True
 | .pointer e,.pointer e'=>e=e'
 | .slice e,.slice e'=>e=e'
 | .array n e,.array n' e'=>n=n'∧e=e'
 | .map k e,.map k' e'=>k=k'∧e=e'
 | .struct fs,.struct l=>(fs.toList.mapM fun f=>(P.info? f.type).map fun i=>(f.offset,f.type,i.size))=some l
 | .func _ _ _,.func=>True
 | .interface _,.iface _=>True
 | .tuple _,.tuple=>True
 | _,_=>False
structure uK (P:Program) (t:Nat) (i:TI):Prop where
 eqs:i.eqs=true→ajX P t=true
 all: ∃inf d z,P.info? t=some inf∧P.underlying t=some d∧inf.zero=some z∧nN z.cells.toList=some i.zero∧inf.size=i.size∧inf.bytes=i.bytes∧Rf P d i.kind∧SI z=i.agg
def eG (P:Program) (tt:TT):Prop:= ∀t i,tt t=some i→uK P t i
theorem aoB {P:Program} {d:TypeDesc} {k:TK} (h:aeU P d=some k):Rf P d k:=by
 cases d
 case struct fs=>
  simp only [aeU,Option.map_eq_some_iff] at h
  obtain⟨l,h1,rfl⟩:=h
  exact h1
 all_goals first
  | (simp only [aeU,Option.some.injEq] at h; subst h; simp [Rf]; done)
  | (simp [aeU] at h; done)
theorem aoC {P:Program} {t:Nat} {i:TI} (h:aoD P t=some i):uK P t i:=by
 unfold aoD at h
 split at h
 ·simp at h
 ·rename_i inf h1
  split at h
  ·simp at h
  ·rename_i d h2
   split at h
   ·simp at h
   ·rename_i k hk
    split at h
    ·simp at h
    ·rename_i z h3
     unfold aBh at h
     split at h
     ·rename_i zs h4
      split at h
      ·rename_i ha
       simp only [Option.some.injEq] at h
       subst h
       exact⟨fun hq=>hq,inf,d,z,h1,h2,h3,h4,rfl,rfl,aoB hk,ha⟩
      ·simp at h
     ·simp at h
theorem nJ (s:ByteArray):bZ (bytesOf s)=s:=by
 unfold bZ bytesOf
 have:(List.map UInt8.ofNat (List.map (fun x=>x.toNat) s.data.toList))=s.data.toList:=by
  rw [List.map_map]
  conv=>rhs; rw [← List.map_id s.data.toList]
  apply List.map_congr_left
  intro b _
  simp
 rw [this]
theorem ED (s:ByteArray): ∀b∈bytesOf s,b < 256:=by
 intro b hb
 unfold bytesOf at hb
 rw [List.mem_map] at hb
 obtain⟨c,_,rfl⟩:=hb
 exact c.toNat_lt
theorem IK {E:En} {h:Array Obj} {v:Value} {a:AV} (hv:iV v=some a):VR E h a v∧v.oneCell'=true:=by
 cases v with
 | bool b=>simp [iV] at hv; subst hv; simp [VR,SB.den,Value.oneCell']
 | int k n=>simp [iV] at hv; subst hv; simp [VR,SE.den,Value.oneCell']
 | string s=>simp [iV] at hv; subst hv; exact⟨by simp only [VR]; exact⟨by rw [nJ],ED s⟩,rfl⟩
 | pointer a=>cases a <;> simp [iV] at hv; subst hv; simp [VR,Value.oneCell']
 | slice a l c=>
   cases a with
   | some a=>simp [iV] at hv
   | none=>
     cases l with
     | succ l=>simp [iV] at hv
     | zero=>cases c with
       | succ c=>simp [iV] at hv
       | zero=>simp [iV] at hv; subst hv; simp [VR,Value.oneCell']
 | map r=>cases r <;> simp [iV] at hv; subst hv; simp [VR,Value.oneCell']
 | nilFunc=>simp [iV] at hv; subst hv; simp [VR,Value.oneCell']
 | nilIface=>simp [iV] at hv; subst hv; simp [VR,Value.oneCell']
 | func fn f c=>
   simp only [iV] at hv
   split at hv
   ·rename_i hx
    simp at hx hv
    subst hv
    obtain⟨rfl,rfl⟩:=hx
    exact⟨by simp only [VR]; exact⟨[],[],rfl,rfl,rfl⟩,rfl⟩
   ·simp at hv
 | _=>simp [iV] at hv
theorem fB {E:En} {h:Array Obj}: ∀{vs:List Value} {aEB:List AV},nN vs=some aEB→bI E h aEB vs∧∀v∈vs,v.oneCell'=true
 | [],aEB,hv=>by simp [nN] at hv; subst hv; simp [bI]
 | v :: vs,aEB,hv=>by
   simp only [nN] at hv
   split at hv
   ·simp at hv
   ·rename_i a ha
    split at hv
    ·simp at hv
    ·rename_i as' has
     simp at hv
     subst hv
     have h1:=IK (E:=E) (h:=h) ha
     have h2:=fB (E:=E) (h:=h) has
     refine⟨by rw [aW]; exact⟨v,vs,rfl,h1.1,h2.1⟩,?_⟩
     intro u hu
     rcases List.mem_cons.1 hu with rfl | hu
     ·exact h1.2
     ·exact h2.2 u hu
theorem XB {E:En} {h:Array Obj} {v:Value} {a:AV} (hv:ofConst v=some a):VR E h a v:=by
 cases v with
 | agg cs=>
   simp only [ofConst,Option.map_eq_some_iff] at hv
   obtain⟨l,h1,rfl⟩:=hv
   simp only [VR]
   exact⟨cs.toList,by simp,(fB h1).1⟩
 | tuple cs=>
   simp only [ofConst,Option.map_eq_some_iff] at hv
   obtain⟨l,h1,rfl⟩:=hv
   simp only [VR]
   exact⟨cs.toList,by simp,(fB h1).1⟩
 | _=>exact (IK (by simpa [ofConst] using hv)).1
theorem VR.one {E:En} {h:Array Obj} {x:AV} {v:Value} (hv:VR E h x v) (h1:x.one=true):v.oneCell'=true:=by
 cases x with
 | agg cs=>simp [AV.one] at h1
 | tuple cs=>simp [AV.one] at h1
 | opq i=>simp [AV.one] at h1
 | inp k ks=>simp only [VR] at hv; rcases hv with ⟨⟨x,cap,rfl⟩,_⟩ | ⟨b,o,n,cap,rfl,_⟩ <;> rfl
 | slice id off len c=>simp only [VR] at hv; obtain⟨_,a,cap,rfl,_⟩:=hv; rfl
 | ro cs n full=>simp only [VR] at hv; obtain⟨b,o,cap,us,rfl,_⟩:=hv; rfl
 | qZ cs=>simp only [VR] at hv; obtain⟨b,o,us,rfl,_⟩:=hv; rfl
 | func fn fs cs=>simp only [VR] at hv; obtain⟨us,ws,rfl,_⟩:=hv; rfl
 | iface t x=>simp only [VR] at hv; obtain⟨u,rfl,_⟩:=hv; rfl
 | str s=>simp only [VR] at hv; rw [hv.1]; rfl
 | ptr id off=>simp only [VR] at hv; rw [hv.1]; rfl
 | map id=>simp only [VR] at hv; rw [hv.1]; rfl
 | emp=>simp only [VR] at hv; obtain⟨x,rfl⟩:=hv; rfl
 | dat e t=>simp only [VR] at hv; exact hv.one'
 | lY e=>simp only [VR] at hv; exact hv.one'
 | uU id n t=>simp only [VR] at hv; obtain⟨_,k,a,cap,_,rfl,_⟩:=hv; rfl
 | Au id lo n t=>simp only [VR] at hv; obtain⟨_,l,k,a,cap,_,_,rfl,_⟩:=hv; rfl
 | any=>simp [AV.one] at h1
 | GL z t=>simp only [VR] at hv; obtain⟨⟨x,rfl⟩,_⟩:=hv; rfl
 | qC id es i off=>simp only [VR] at hv; obtain⟨_,k,_,rfl⟩:=hv; rfl
 | _=>simp only [VR] at hv; rw [hv]; rfl
theorem bI.ones {E:En} {h:Array Obj}: ∀{xs:List AV} {us:List Value},bI E h xs us→xB xs=true→∀u∈us,u.oneCell'=true
 | [],us,hv,_=>by rw [jZ] at hv; subst hv; simp
 | x :: xs,us,hv,h1=>by
   rw [aW] at hv
   obtain⟨u,vs,rfl,h2,h3⟩:=hv
   simp [xB] at h1
   intro y hy
   rcases List.mem_cons.1 hy with rfl | hy
   ·exact h2.one h1.1
   ·exact h3.ones h1.2 y hy
theorem VR.cells {E:En} {h:Array Obj} {x:AV} {v:Value} (hv:VR E h x v) (h1:xB x.cells=true):bI E h x.cells v.cells.toList:=by
 cases x with
 | agg cs=>
   simp only [VR] at hv
   obtain⟨us,rfl,h2⟩:=hv
   simpa [AV.cells,Value.cells] using h2
 | _=>
   all_goals
    simp only [AV.cells] at h1 ⊢
    have h2:=hv.one (by simpa [xB] using h1)
    rw [aW]
    refine⟨v,[],?_,hv,rfl⟩
    cases v <;> first | rfl | simp [Value.oneCell'] at h2
theorem xR {P:Program} {w:World} {b o n:Nat} {us:List Value} (hn:us.length=n) (h:iC w.heap b o us) :
 (loadCells ⟨b,o,none⟩ n).run P w= .ok us.toArray w:=by
 subst hn
 refine run_loadCells_list w _ us fun j v hj=>?_
 rw [fF,sU]
 exact h j v hj
theorem iC.drop {h:Array Obj} {b o:Nat} {us:List Value} (hc:iC h b o us) (k:Nat):iC h b (o+k) (us.drop k):=by
 intro i u hu
 rw [List.getElem?_drop] at hu
 have:=hc (k+i) u hu
 rwa [show o+k+i=o+(k+i) from by omega]
theorem iC.take {h:Array Obj} {b o:Nat} {us:List Value} (hc:iC h b o us) (k:Nat):iC h b o (us.take k):=by
 intro i u hu
 rw [List.getElem?_take] at hu
 split at hu
 ·exact hc i u hu
 ·simp at hu
theorem DZ {E:En} {h:Array Obj} {id:Nat} {cs:List AV} {e:TypeId} (ho:OR E h id (.cells cs e)) :
 ∃us,bI E h cs us∧iC h (E.θ id).1 (E.θ id).2 us∧∀u∈us,u.oneCell'=true:=by
 obtain⟨arr,lo,hi,us,h1,h2,h3,h4,h5,h6,h7⟩:=ho
 refine⟨us,h2,fun i u hu=>?_,h7⟩
 simp only [hcell,h1]
 exact h3 i u hu
theorem CJ [Glob] {E:En} {H:Hp} {w:World} (r:bG E H w) {p:AV} {u:Value} {n:Nat} {l:List AV} (hp:VR E w.heap p u) (h:qK H p n=some l) :
 ∃b o us,u= .pointer (some ⟨b,o,none⟩)∧us.length=n∧bI E w.heap l us∧iC w.heap b o us∧∀u∈us,u.oneCell'=true:=by
 cases p with
 | ptr id off=>
   simp only [qK] at h
   split at h
   ·rename_i cs e hl
    split at h
    ·rename_i l' hd
     obtain⟨us,h2,h3,h4⟩:=DZ (r.live id _ hl).2.1
     obtain⟨h5,h6,h7⟩:=h2.fC hd
     obtain⟨h8,h9⟩:=h5.jR h
     simp only [VR] at hp
     refine⟨_,_,_,hp.1,?_,h8,(h3.drop off).take n,fun x hx=>h4 x (List.mem_of_mem_drop (List.mem_of_mem_take hx))⟩
     have:=h5.length
     rw [List.length_take]
     omega
    ·simp at h
   ·simp at h
 | qZ cs=>
   simp only [qK] at h
   simp only [VR] at hp
   obtain⟨b,o,us,rfl,_,h2,h3,h4⟩:=hp
   obtain⟨h5,h6⟩:=h2.jR h
   refine⟨b,o,_,rfl,?_,h5,h3.take n,fun x hx=>h4 x (List.mem_of_mem_take hx)⟩
   have:=h2.length
   rw [List.length_take]
   omega
 | _=>simp [qK] at h
theorem Cj {E:En} {h:Array Obj}: ∀{cs:List AV} {o:Nat} {vs cs':List AV} {us ws:List Value},splice cs o vs=some cs'→bI E h cs us→bI E h vs ws→
 cs'.length=cs.length∧o+vs.length≤cs.length∧∃us',bI E h cs' us'∧∀i,us'[i]?=if o≤i∧i < o+ws.length then ws[i - o]? else us[i]?
 | cs,0,[],cs',us,ws,h1,h2,h3=>by
   cases cs <;> simp [splice] at h1 <;> subst h1 <;> rw [jZ] at h3 <;> subst h3 <;> exact⟨rfl,by simp,us,h2,fun i=>by simp⟩
 | [],0,_ :: _,cs',us,ws,h1,h2,h3=>by simp [splice] at h1
 | c :: cs,0,v :: vs,cs',us,ws,h1,h2,h3=>by
   simp only [splice] at h1
   split at h1
   ·rename_i l hl
    simp at h1
    subst h1
    rw [aW] at h2 h3
    obtain⟨u,us',rfl,ha,hb⟩:=h2
    obtain⟨x,ws',rfl,hc,hd⟩:=h3
    obtain⟨e1,e2,aeL,e3,e4⟩:=Cj hl hb hd
    refine⟨by simp [e1],by simp at e2 ⊢; omega,x :: aeL,by rw [aW]; exact⟨x,aeL,rfl,hc,e3⟩,?_⟩
    intro i
    cases i with
    | zero=>simp
    | succ i=>
      have:=e4 i
      simp only [Nat.zero_le,true_and,Nat.zero_add,Nat.sub_zero,List.getElem?_cons_succ,List.length_cons,Nat.add_lt_add_iff_right] at this ⊢
      exact this
   ·simp at h1
 | [],_+1,vs,cs',us,ws,h1,h2,h3=>by cases vs <;> simp [splice] at h1
 | c :: cs,o+1,vs,cs',us,ws,h1,h2,h3=>by
   have h1':(match splice cs o vs with | some l=>some (c :: l) | none=>none)=some cs':=by cases vs <;> exact h1
   split at h1'
   ·rename_i l hl
    simp at h1'
    subst h1'
    rw [aW] at h2
    obtain⟨u,us',rfl,ha,hb⟩:=h2
    obtain⟨e1,e2,aeL,e3,e4⟩:=Cj hl hb h3
    refine⟨by simp [e1],by simp; omega,u :: aeL,by rw [aW]; exact⟨u,aeL,rfl,ha,e3⟩,?_⟩
    intro i
    cases i with
    | zero=>simp
    | succ i=>
      have:=e4 i
      simp only [List.getElem?_cons_succ]
      rw [this]
      by_cases hh:o≤i∧i < o+ws.length
      ·rw [if_pos hh,if_pos (by omega)]
       congr 1
       omega
      ·rw [if_neg hh,if_neg (by omega)]
   ·simp at h1'
theorem qJ {P:Program} (b o:Nat) (e:TypeId) (lo hi:Nat): ∀(vs:List Value) (i:Nat) (arr:Array Value) (w:World),
 w.heap[b]?=some (.cells arr e (lo,hi))→(∀x,lo≤x→x < hi→arr.size≤x)→o+i+vs.length≤arr.size→(∀v∈vs,v.oneCell'=true)→
 ∃w' arr',(storeCells ⟨b,o,none⟩ vs i).run P w= .ok () w'∧Alike w w'∧w'.heap.size=w.heap.size∧(∀j,j≠b→w'.heap[j]?=w.heap[j]?)∧
  w'.heap[b]?=some (.cells arr' e (lo,hi))∧arr'.size=arr.size∧∀j,arr'[j]?=if o+i≤j∧j < o+i+vs.length then vs[j - (o+i)]? else arr[j]?
 | [],i,arr,w,hb,_,_,_=> ⟨w,arr,rfl,⟨rfl,rfl,rfl⟩,rfl,fun _ _=>rfl,hb,rfl,fun j=>by rw [if_neg (by simp)]⟩
 | v :: vs,i,arr,w,hb,hf,hl,h1=>by
   have hin:o+i < arr.size:=by simp at hl; omega
   have hcell:w.cell? ⟨b,o+i,none⟩ = some arr[o+i]:=by simp [World.cell?,hb,hin]
   have hfro:w.frozen? ⟨b,o+i,none⟩ = false:=by
    simp only [World.frozen?,hb,Bool.and_eq_false_iff,decide_eq_false_iff_not]
    by_cases hx:lo≤o+i
    ·right
     intro hy
     have:=hf _ hx hy
     omega
    ·left; exact hx
   have hst:(store ((⟨b,o,none⟩ : Addr).add i) v).run P w= .ok () (w.setCell ⟨b,o+i,none⟩ v):=by
    rw [fF,run_store P w _ v _ (h1 v (by simp)),hcell]
    simp [hfro]
   have hb2:(w.setCell ⟨b,o+i,none⟩ v).heap[b]?=some (.cells (arr.setIfInBounds (o+i) v) e (lo,hi)):=by
    simp [World.setCell,Array.getElem?_modify,hb]
   have hsz:(w.setCell ⟨b,o+i,none⟩ v).heap.size=w.heap.size:=by simp [World.setCell]
   have hot: ∀j,j≠b→(w.setCell ⟨b,o+i,none⟩ v).heap[j]?=w.heap[j]?:=by
    intro j hj
    simp only [World.setCell,Array.getElem?_modify]
    rw [if_neg (fun e=>hj e.symm)]
   obtain⟨w',arr',e1,e2,e3,e4,e5,e6,e7⟩:=qJ (P:=P) b o e lo hi vs (i+1) _ _ hb2 (by simpa using hf) (by simp at hl ⊢; omega) (fun x hx=>h1 x (by simp [hx]))
   refine⟨w',arr',?_,⟨e2.os,e2.tape,e2.output⟩,e3.trans hsz,fun j hj=>(e4 j hj).trans (hot j hj),e5,by simpa using e6,?_⟩
   ·simp only [storeCells,Sem.run_bind,hst,Result.andThen_ok]
    exact e1
   ·intro j
    rw [e7 j]
    simp only [List.length_cons]
    by_cases hj:o+i=j
    ·rw [if_neg (by omega),if_pos (by omega)]
     subst hj
     simp [hin]
    ·by_cases hj2:o+(i+1)≤j∧j < o+(i+1)+vs.length
     ·rw [if_pos hj2,if_pos (by omega)]
      rw [show j - (o+i)=(j - (o+(i+1)))+1 from by omega]
      simp
     ·rw [if_neg hj2,if_neg (by omega)]
      rw [Array.getElem?_setIfInBounds_ne hj]
theorem oV [Glob] {P:Program} {E:En} {H:Hp} {w:World} (r:bG E H w) {id off:Nat} {cs vs cs':List AV} {e:TypeId} {ws:List Value} (hl:H.get id=some (.cells cs e))
 (hs:splice cs off vs=some cs') (hv:bI E w.heap vs ws) (h1: ∀u∈ws,u.oneCell'=true) :
 ∃w',(storeCells ⟨(E.θ id).1,(E.θ id).2+off,none⟩ ws).run P w= .ok () w'∧Stp E H w E (H.put id (.cells cs' e)) w'∧bG E (H.put id (.cells cs' e)) w':=by
 obtain⟨arr,lo,hi,us,g1,g2,g3,g4,g5,g6,g7⟩:=(r.live id _ hl).2.1
 obtain⟨s1,s2,us',s3,s4⟩:=Cj hs g2 hv
 have hlen:=hv.length
 have hlu:=g2.length
 obtain⟨w',arr',e1,e2,e3,e4,e5,e6,e7⟩:=qJ (P:=P) (E.θ id).1 ((E.θ id).2+off) e lo hi ws 0 arr w g1 g6 (by omega) h1
 refine⟨w',e1,UQ r hl _ e3 e4 e2 ?_⟩
 have k:=sH r hl e4
 refine⟨arr',lo,hi,us',e5,bI.keep k _ _ s3,?_,by omega,by rw [e6]; exact g5,by rw [e6]; exact g6,?_⟩
 ·intro i u hu
  rw [s4 i] at hu
  rw [e7]
  split at hu
  ·rename_i hh
   rw [if_pos (by omega),show (E.θ id).2+i - ((E.θ id).2+off+0)=i - off from by omega]
   exact hu
  ·rename_i hh
   rw [if_neg (by omega)]
   exact g3 i u hu
 ·intro u hu
  rw [List.mem_iff_getElem?] at hu
  obtain⟨i,hi'⟩:=hu
  rw [s4 i] at hi'
  split at hi'
  ·exact h1 u (List.mem_of_getElem? hi')
  ·exact g7 u (List.mem_of_getElem? hi')
end Go.As
end
section
namespace Go.As
def bH (ρ:Nat→Int) (pc:List (SB×Bool)):Prop:= ∀c b,(c,b)∈pc→c.den ρ=b
def SR (E:En) (h:Array Obj) (slots:Tr AV) (a:Act):Prop:= ∀t v,slots.get t=some v→∃u,a.tmps[t]?=some u∧VR E h v u
def xC (P:Program) (o:Oper) (a:Act) (w:World) (R:Value→World→Prop):Prop:=
 ∀(K:Act→World→Prop) (Q:Exit→Act→World→Prop),(∀u w',R u w'→K (a.put o.dst u) w')→o.wp P a w K Q
theorem xC.value {P:Program} {o:Oper} {a:Act} {w w':World} {R:Value→World→Prop} {u:Value} (h:(execOp a.eval o).run P w= .ok (.value u) w') (hr:R u w'):xC P o a w R:=
 fun K Q hk=>by unfold Oper.wp; rw [h]; exact hk u w' hr
theorem xC.skip {P:Program} {o:Oper} {a:Act} {w w':World} {R:Value→World→Prop} (h:(execOp a.eval o).run P w= .ok .skip w') (hr:R undef w'):xC P o a w R:=
 fun K Q hk=>by unfold Oper.wp; rw [h]; exact hk _ w' hr
theorem jG {E:En} {w:World} {s:St} {a:Act} (sr:SR E w.heap s.slots a) {x:Operand} {v:AV} (h:ev s x=some v):VR E w.heap v (a.eval x):=by
 cases x with
 | tmp t=>
   obtain⟨u,h1,h2⟩:=sr t v h
   simp only [Act.eval,Array.getD_eq_getD_getElem?,h1,Option.getD_some]
   exact h2
 | const c=>exact XB h
 | func f=>
   simp [ev] at h
   subst h
   simp only [VR,Act.eval]
   exact⟨[],[],rfl,rfl,rfl⟩
 | global g=>simp [ev] at h
theorem SS {E:En} {w:World} {s:St} {a:Act} (sr:SR E w.heap s.slots a): ∀{xs:List Operand} {vs:List AV},evs s xs=some vs→bI E w.heap vs (xs.map a.eval)
 | [],vs,h=>by simp [evs] at h; subst h; simp [bI]
 | x :: xs,vs,h=>by
   simp only [evs] at h
   split at h
   ·simp at h
   ·rename_i b hb
    split at h
    ·simp at h
    ·rename_i bs hbs
     simp at h
     subst h
     rw [List.map_cons,aW]
     exact⟨_,_,rfl,jG sr hb,SS sr hbs⟩
section
variable {P:Program} {t:Nat} {i:TI}
theorem uM (h:uK P t i) (w:World):(isAgg t).run P w= .ok i.agg w:=by
 obtain⟨inf,d,z,h1,h2,h3,h4,h5,h6,h7,_⟩:=h.all
 unfold isAgg
 simp only [Sem.run_bind,run_underlying h2,Result.andThen_ok]
 cases d <;> cases hk:i.kind <;> simp only [hk,Rf] at h7 <;> simp [TI.agg,TK.agg,hk]
theorem dX (h:uK P t i) (w:World):(sizeOf t).run P w= .ok i.size w:=by
 obtain⟨inf,d,z,h1,h2,h3,h4,h5,h6,h7,_⟩:=h.all
 simp [sizeOf,typeInfo,h1,h5]
theorem fJ (h:uK P t i) {e:Nat} (hk:i.kind= .slice e):P.underlying t=some (.slice e):=by
 obtain⟨inf,d,z,h1,h2,h3,h4,h5,h6,h7,_⟩:=h.all
 rw [h2]
 cases d <;> simp [hk,Rf] at h7
 rw [h7]
theorem xG (h:uK P t i) {n e:Nat} (hk:i.kind= .array n e):P.underlying t=some (.array n e):=by
 obtain⟨inf,d,z,h1,h2,h3,h4,h5,h6,h7,_⟩:=h.all
 rw [h2]
 cases d <;> simp [hk,Rf] at h7
 rw [h7.1,h7.2]
theorem EK (h:uK P t i) {k e:Nat} (hk:i.kind= .map k e):P.underlying t=some (.map k e):=by
 obtain⟨inf,d,z,h1,h2,h3,h4,h5,h6,h7,_⟩:=h.all
 rw [h2]
 cases d <;> simp [hk,Rf] at h7
 rw [h7.1,h7.2]
theorem Ci (h:uK P t i) {k:IntKind} (hk:i.kind= .int k):P.underlying t=some (.int k):=by
 obtain⟨inf,d,z,h1,h2,h3,h4,h5,h6,h7,_⟩:=h.all
 rw [h2]
 cases d <;> simp [hk,Rf] at h7
 rw [h7]
theorem gV (h:uK P t i) (hk:i.kind= .string):P.underlying t=some .string:=by
 obtain⟨inf,d,z,h1,h2,h3,h4,h5,h6,h7,_⟩:=h.all
 rw [h2]
 cases d <;> simp [hk,Rf] at h7
 rfl
theorem Ux (h:uK P t i) (hk:i.kind= .bool):P.underlying t=some .bool:=by
 obtain⟨inf,d,z,h1,h2,h3,h4,h5,h6,h7,_⟩:=h.all
 rw [h2]
 cases d <;> simp [hk,Rf] at h7
 rfl
theorem D7 (h:uK P t i) {l:List (Nat×Nat×Nat)} (hk:i.kind= .struct l): ∃fs:Array Field,P.underlying t=some (.struct fs)∧(fs.toList.mapM fun f=>(P.info? f.type).map fun i=>(f.offset,f.type,i.size))=some l:=by
 obtain⟨inf,d,z,h1,h2,h3,h4,h5,h6,h7,_⟩:=h.all
 rw [h2]
 cases d <;> simp [hk,Rf] at h7
 exact⟨_,rfl,h7⟩
theorem CY (h:uK P t i): ∃inf z,P.info? t=some inf∧inf.size=i.size∧inf.bytes=i.bytes∧inf.zero=some z∧nN z.cells.toList=some i.zero:=by
 obtain⟨inf,d,z,h1,h2,h3,h4,h5,h6,h7,_⟩:=h.all
 exact⟨inf,z,h1,h5,h6,h3,h4⟩
end
theorem Ic [Glob] {P:Program} {tt:TT} (htt:eG P tt) {E:En} {H:Hp} {w:World} (r:bG E H w) {t:Nat} {p v:AV} {u:Value} (hp:VR E w.heap p u) (h:Ie tt t p H=some v) :
 ∃x b o,u= .pointer (some ⟨b,o,none⟩)∧(loadVar t ⟨b,o,none⟩).run P w= .ok x w∧VR E w.heap v x:=by
 unfold Ie at h
 split at h
 ·simp at h
 ·rename_i i hi
  have hti:=htt t i hi
  split at h
  ·rename_i hagg
   rw [Option.map_eq_some_iff] at h
   obtain⟨l,hl,rfl⟩:=h
   obtain⟨b,o,us,rfl,h2,h3,h4,_⟩:=CJ r hp hl
   refine⟨.agg us.toArray,b,o,rfl,?_,by simp only [VR]; exact⟨us,rfl,h3⟩⟩
   simp [loadVar,uM hti,hagg,dX hti,xR h2 h4]
  ·rename_i hagg
   split at h
   ·rename_i v' l hl
    simp at h
    subst h
    obtain⟨b,o,us,rfl,h2,h3,h4,_⟩:=CJ r hp hl
    rw [aW] at h3
    obtain⟨x,vs,rfl,h5,_⟩:=h3
    refine⟨x,b,o,rfl,?_,h5⟩
    have hc:w.cell? ⟨b,o,none⟩ = some x:=by rw [sU]; exact h4 0 x rfl
    simp [loadVar,uM hti,hagg,hc]
   ·simp at h
theorem oN (k:IntKind) (n:Int):Am k n=k.wrap n:=by
 unfold Am
 split
 ·split
  ·rename_i h; exact (IntWalk.i64_in n h).symm
  ·rfl
 ·split
  ·rename_i h; exact (IntWalk.u8_in n h).symm
  ·rfl
 ·rfl
theorem abN (ρ:Nat→Int) (k:IntKind) (a b:SE):(agS k a b).den ρ=k.wrap (a.den ρ+b.den ρ):=by
 unfold agS
 split <;> simp [SE.den,oN]
theorem OE (ρ:Nat→Int) (k:IntKind) (a b:SE):(Zl k a b).den ρ=k.wrap (a.den ρ - b.den ρ):=by
 unfold Zl
 split <;> simp [SE.den,oN]
theorem abM (ρ:Nat→Int) (k:IntKind) (a b:SE):(agR k a b).den ρ=k.wrap (a.den ρ*b.den ρ):=by
 unfold agR
 split <;> simp [SE.den,oN]
theorem dR (ρ:Nat→Int) (a b:SE):(kG a b).den ρ=decide (a.den ρ < b.den ρ):=by
 unfold kG
 split
 ·rfl
 ·simp [SB.den]
theorem agT (ρ:Nat→Int) (a b:SE):(apC a b).den ρ=decide (a.den ρ≤b.den ρ):=by
 unfold apC
 split
 ·rfl
 ·simp only [SB.den]
  rw [Bool.eq_iff_iff]
  simp
theorem lQ (ρ:Nat→Int) (a b:SE):(Dv a b).den ρ=(a.den ρ == b.den ρ):=by
 unfold Dv
 split
 ·simp [SB.den,SE.den]
 ·simp only [SB.den,SE.den]
  rw [Bool.eq_iff_iff]
  simp
  exact eq_comm
 ·split
  ·rename_i h; have h:=bY _ _ h; subst h; simp [SB.den]
  ·simp [SB.den]
theorem qY (ρ:Nat→Int) (s:SB):(DL s).den ρ=!(s.den ρ):=by
 unfold DL
 split <;> simp [SB.den]
theorem pF: ∀(x y:List Nat),jC x y=true↔x=y
 | [],[]=>by simp [jC]
 | [],_ :: _=>by simp [jC]
 | _ :: _,[]=>by simp [jC]
 | a :: x,b :: y=>by
   simp only [jC]
   cases h:a.beq b with
   | true=>have:=Nat.eq_of_beq_eq_true h; subst this; simp [pF x y]
   | false=>have:=Nat.ne_of_beq_eq_false h; simp [this]
theorem rY (s:List Nat):(bZ s).toList=s.map UInt8.ofNat:=by
 rw [Go.ByteArray.toList_eq]
 simp [bZ]
theorem nI (s:List Nat):(bZ s).size=s.length:=by
 show (List.map UInt8.ofNat s).toArray.size=_
 simp
theorem ofNat_inj {a b:Nat} (ha:a < 256) (hb:b < 256) (h:UInt8.ofNat a=UInt8.ofNat b):a=b:=by
 have:=congrArg UInt8.toNat h
 simpa [UInt8.toNat_ofNat',Nat.mod_eq_of_lt ha,Nat.mod_eq_of_lt hb] using this
theorem map_inj: ∀{x y:List Nat},(∀b∈x,b < 256)→(∀b∈y,b < 256)→x.map UInt8.ofNat=y.map UInt8.ofNat→x=y
 | [],[],_,_,_=>rfl
 | [],_ :: _,_,_,h=>by simp at h
 | _ :: _,[],_,_,h=>by simp at h
 | a :: x,b :: y,hx,hy,h=>by
   simp only [List.map_cons,List.cons.injEq] at h
   rw [ofNat_inj (hx a (by simp)) (hy b (by simp)) h.1,map_inj (fun c hc=>hx c (by simp [hc])) (fun c hc=>hy c (by simp [hc])) h.2]
theorem Zk {x y:List Nat} (hx: ∀b∈x,b < 256) (hy: ∀b∈y,b < 256):((bZ x).toList == (bZ y).toList)=jC x y:=by
 rw [rY,rY,Bool.eq_iff_iff,beq_iff_eq,pF]
 exact⟨map_inj hx hy,fun h=>by rw [h]⟩
theorem Oz: ∀{x y:List Nat},(∀b∈x,b < 256)→(∀b∈y,b < 256)→Op.bytesLess (x.map UInt8.ofNat) (y.map UInt8.ofNat)=bytesLess x y
 | [],[],_,_=>by simp [Op.bytesLess,bytesLess]
 | [],_ :: _,_,_=>by simp [Op.bytesLess,bytesLess]
 | _ :: _,[],_,_=>by simp [Op.bytesLess,bytesLess]
 | a :: x,b :: y,hx,hy=>by
   have ha:=hx a (by simp)
   have hb:=hy b (by simp)
   have ih:=Oz (x:=x) (y:=y) (fun c hc=>hx c (by simp [hc])) (fun c hc=>hy c (by simp [hc]))
   simp only [List.map_cons,Op.bytesLess,bytesLess,ih]
   have h1:decide (UInt8.ofNat a < UInt8.ofNat b)=a.blt b:=by
    rw [Bool.eq_iff_iff,decide_eq_true_iff,UInt8.lt_iff_toNat_lt,UInt8.toNat_ofNat',UInt8.toNat_ofNat',Nat.mod_eq_of_lt ha,Nat.mod_eq_of_lt hb]
    simp [Nat.blt]
    omega
   have h2:(UInt8.ofNat a == UInt8.ofNat b)=a.beq b:=by
    rw [Bool.eq_iff_iff,beq_iff_eq]
    exact⟨fun h=>by rw [ofNat_inj ha hb h]; simp,fun h=>by rw [Nat.eq_of_beq_eq_true h]⟩
   rw [h1,h2]
   cases a.blt b <;> cases a.beq b <;> simp
theorem UH {P:Program} {E:En} {w:World} {op:BinOp} {x y:List Nat} {v:AV} (hx: ∀b∈x,b < 256) (hy: ∀b∈y,b < 256) (h:UJ op x y=some v) :
 ∃u,(Op.stringOp op (bZ x) (bZ y)).run P w= .ok u w∧VR E w.heap v u:=by
 have he:=Zk hx hy
 have hl:Op.bytesLess (bZ x).toList (bZ y).toList=bytesLess x y:=by rw [rY,rY]; exact Oz hx hy
 unfold UJ at h
 cases op <;> simp only [Option.some.injEq,reduceCtorEq] at h
 case add=>
  split at h
  ·rename_i hh
   simp at h
   subst h
   have hm:IntKind.i64.max=9223372036854775807:=by decide
   refine⟨.string (bZ x++bZ y),?_,?_⟩
   ·simp only [Op.stringOp,nI,hm]
    rw [if_neg (by omega)]
    rfl
   ·simp only [VR]
    refine⟨?_,?_⟩
    ·congr 1
     apply ByteArray.ext
     simp [bZ]
    ·intro b hb
     rcases List.mem_append.1 hb with hb | hb
     ·exact hx b hb
     ·exact hy b hb
  ·simp at h
 all_goals
  subst h
  exact⟨_,rfl,by simp only [VR,SB.den,he,hl]⟩
end Go.As
end

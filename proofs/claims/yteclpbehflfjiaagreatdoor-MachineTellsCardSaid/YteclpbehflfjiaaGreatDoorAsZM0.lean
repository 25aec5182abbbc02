import Derived.KernelRfl
import GoSem.Claim
import Derived.Orders
import Derived.Scope
import Derived.LoopN
import Derived.Below
import GoSem.Core.View
import GoSem.Core.Layout
import GoSem.Op.Equal
import Derived.WalkKit
import Derived.Lib.Strings
import Derived.Laws.IdiomStrings
import Derived.Laws.RangeString
import Derived.Laws.StructEq
set_option linter.unusedSectionVars false
set_option linter.unusedVariables false
set_option linter.unusedSimpArgs false
abbrev af:=@if_neg
abbrev ag:=@if_pos
abbrev ah:=@Option.some.injEq
abbrev an:=@Prod.mk.injEq
abbrev aq:=@Bool.and_eq_true
abbrev au:=@List.getElem_mem
abbrev aw:=@Nat.le_refl
abbrev ax:=@List.nil_append
abbrev ay:=@Nat.eq_of_beq_eq_true
abbrev az:=@Option.getD_some
abbrev aA:=@List.getElem?_cons_zero
abbrev aC:=@List.getElem?_cons_succ
abbrev aF:=@List.map_cons
abbrev aG:=@List.cons_append
abbrev aH:=@List.mem_cons
abbrev aK:=@Nat.zero_add
abbrev aL:=@Int.lt_irrefl
abbrev aM:=@List.drop_eq_getElem_cons
abbrev aN:=@List.getElem?_eq_getElem
abbrev aO:=@Option.map_eq_some_iff
abbrev aP:=@List.all_eq_true
abbrev aQ:=@Int.toNat_natCast
abbrev aR:=@Bool.false_eq_true
abbrev aT:=@List.length_cons
abbrev aW:=@List.mem_map
abbrev aX:=@Nat.lt_or_ge
abbrev aY:=@List.drop_of_length_le
abbrev aZ:=@List.length_take
abbrev a8:=@List.getElem?_eq_some_iff
abbrev bc:=@List.length_map
abbrev bd:=@List.length_append
abbrev bg:=@List.getElem?_map
abbrev bh:=@Array.length_toList
abbrev bj:=@List.length_nil
abbrev bn:=@List.singleton_append
abbrev bo:=@Int.natCast_one
abbrev bp:=@List.length_drop
abbrev bq:=@List.mem_of_getElem?
abbrev br:=@Nat.le_trans
abbrev bu:=@List.mem_of_mem_drop
abbrev avT:=@List.append_assoc
abbrev avU:=@Nat.le_of_ble_eq_true
abbrev avV:=@List.mem_of_mem_take
abbrev avW:=@Array.getElem?_toList
abbrev avX:=@Nat.add_assoc
abbrev avY:=@Int.natCast_zero
abbrev avZ:=@Nat.add_zero
abbrev av0:=@Option.map_some
abbrev av1:=@Nat.zero_mul
abbrev av2:=@List.mem_range
abbrev av3:=@List.mem_cons_self
abbrev av4:=@List.append_nil
abbrev av5:=@List.mem_append
abbrev av6:=@List.getElem?_eq_none
abbrev av7:=@Nat.add_mul
abbrev av8:=@List.drop_zero
abbrev av9:=@List.length_eq_zero_iff
abbrev awa:=@List.not_mem_nil
abbrev awb:=@Bool.eq_iff_iff
abbrev awc:=@Array.getElem?_eq_some_iff
abbrev awd:=@Bool.or_eq_true
abbrev awe:=@Bool.not_eq_true'
abbrev awf:=@List.mem_cons_of_mem
abbrev awg:=@List.map_map
abbrev awh:=@Nat.mod_eq_of_lt
abbrev awi:=@Nat.lt_of_lt_of_le
abbrev awj:=@List.eq_nil_of_length_eq_zero
abbrev awk:=@List.mem_filter
abbrev awl:=@UInt8.toNat_ofNat'
abbrev awm:=@List.length_pos_iff
abbrev awn:=@Option.isSome_iff_exists
abbrev awo:=@List.take_of_length_le
abbrev awp:=@List.map_congr_left
abbrev awq:=@Array.getD_eq_getD_getElem?
abbrev awr:=@List.map_take
abbrev aws:=@Int.not_lt
abbrev awt:=@List.take_append_drop
abbrev awu:=@Nat.eq_zero_or_pos
abbrev awv:=@Nat.zero_le
abbrev aww:=@List.length_replicate
abbrev awx:=@List.map_nil
abbrev awy:=@List.getElem?_take
abbrev awz:=@List.map_drop
abbrev awA:=@List.take_succ_cons
abbrev awB:=@Bool.false_or
abbrev awC:=@Array.getElem?_replicate
abbrev awD:=@Nat.blt_eq
abbrev awE:=@Option.getD_none
abbrev awF:=@Nat.mul_le_mul_right
abbrev awG:=@Nat.one_mul
abbrev awH:=@Int.ofNat_inj
abbrev awI:=@List.getElem?_drop
abbrev awJ:=@List.mem_iff_getElem?
abbrev awK:=@Nat.ne_of_beq_eq_false
abbrev awL:=@List.ext_getElem?
abbrev awM:=@List.mapM_cons
abbrev awN:=@List.getElem?_eq_none_iff
abbrev awO:=@List.take_length
abbrev awP:=@Nat.mul_pos
abbrev awQ:=@Bool.not_true
abbrev awR:=@List.getElem_of_mem
abbrev awS:=@Nat.ble_eq_true_of_le
abbrev awT:=@List.getElem?_range
abbrev awU:=@Int.toNat_zero
abbrev awV:=@Option.isSome_some
abbrev awW:=@Bool.eq_false_iff
abbrev awX:=@List.map_id
abbrev awY:=@Option.bind_eq_some_iff
abbrev awZ:=@Bool.or_false
abbrev aw0:=@List.set_cons_zero
abbrev aw1:=@List.set_cons_succ
abbrev aw2:=@List.foldlM_cons
abbrev aw3:=@List.take_zero
abbrev aw4:=@Nat.mul_one
abbrev aw5:=@List.length_set
abbrev aw6:=@List.take_set_of_le
abbrev aw7:=@List.drop_set_of_lt
abbrev aw8:=@Int.ofNat_lt
abbrev aw9:=@List.map_append
abbrev axa:=@List.eq_nil_iff_forall_not_mem
abbrev axb:=@List.any_eq_true
abbrev axc:=@List.getD_eq_getElem?_getD
abbrev axd:=@List.all_append
abbrev axe:=@List.take_succ_eq_append_getElem
abbrev axf:=@List.getElem?_nil
abbrev axg:=@Nat.pow_succ
abbrev axh:=@Nat.mul_comm
abbrev axi:=@Int.tmod_lt_of_pos
abbrev axj:=@Option.bind_eq_bind
abbrev axk:=@List.getElem?_append
abbrev axl:=@Nat.mul_le_mul
abbrev axm:=@List.eraseIdx_cons_succ
abbrev axn:=@Array.toList_map
abbrev axo:=@Nat.le_of_mul_le_mul_right
abbrev axp:=@List.mem_singleton
abbrev axq:=@List.replicate_succ
abbrev axr:=@Nat.lt_trichotomy
abbrev axs:=@Array.mem_of_getElem?
abbrev axt:=@List.length_reverse
abbrev axu:=@List.getElem?_toArray
abbrev axv:=@Array.getElem?_eq_none
abbrev axw:=@Array.getElem?_setIfInBounds
abbrev axx:=@Nat.sub_zero
abbrev axy:=@List.mem_map_of_mem
abbrev axz:=@List.getElem_map
abbrev axA:=@Bool.true_or
abbrev axB:=@List.sum_cons
abbrev axC:=@Array.mapM_eq_mapM_toList
abbrev axD:=@Array.getElem?_modify
abbrev axE:=@Array.getElem?_append_left
abbrev axF:=@List.getElem?_append_right
abbrev axG:=@List.eq_of_mem_replicate
abbrev axH:=@Array.getElem?_eq_none_iff
abbrev axI:=@Array.getElem?_eq_getElem
abbrev axJ:=@Nat.add_sub_cancel_left
abbrev axK:=@List.contains_iff_mem
abbrev axL:=@List.set_getElem_self
abbrev axM:=@List.getElem_set_self
abbrev axN:=@List.mem_append_right
theorem J{P:Prop}(h:P:=by omega):P:=h
theorem aa{P:Prop}(h:P:=by kernel_rfl):P:=h
theorem ad{P:Prop}(h:P:=by simp):P:=h
theorem ae{P:Prop}(h:P:=by decide):P:=h
section
set_option linter.unusedVariables false
namespace Go.As
theorem zm0 {P:Prop} (h:P:=by
 unfold BB at g1;rw [VO] at g1;have a7:=zB x4;have k9:=pK x4;have Rq:=kE x4;have N1:=kf x4;refine bL.of ?_;rw [abX];rcases g1 with ⟨p1,l1,rfl⟩|⟨p1,m1,q1,r1,s1⟩
 ·simp only [OB,zz,aL,hn,a1,a7,qu,qt,mg,jC,bF,Int.reduceLT,Int.reduceEq,bo]
  repeat' first |exact .out (dW (by unfold dj; omega))|exact .out (e8 (by unfold dj; omega))|refine .ite (fun _=>?_) (fun _=>?_)|(exfalso; omega)
 ·subst m1;simp only [OB,zz,aL,hn,a1,a7,q1,r1,s1,qu,qt,mg,jC,bF,Int.reduceLT,Int.reduceEq,bo]
  repeat' first |exact .out (dW (by unfold dj; omega))|exact .out (e8 (by unfold dj; omega))|refine .ite (fun _=>?_) (fun _=>?_)|(exfalso; omega)):P:=h
theorem zm1 {P:Prop} (h:P:=by
 unfold BB at g1;rw [VO] at g1;have a7:=zB x4;have k9:=pK x4;have Rq:=kE x4;have N1:=kf x4;refine bL.of ?_;rw [abW];rcases g1 with ⟨p1,l1,rfl⟩|⟨p1,m1,q1,r1,s1⟩
 ·simp only [OA,zz,aL,hn,a1,a7,qu,qt,mg,jC,bF,Int.reduceLT,Int.reduceEq,bo]
  repeat' first |exact .out (dW (by unfold dj; omega))|exact .out (e8 (by unfold dj; omega))|refine .ite (fun _=>?_) (fun _=>?_)|(exfalso; omega)
 ·subst m1;simp only [OA,zz,aL,hn,a1,a7,q1,r1,s1,qu,qt,mg,jC,bF,Int.reduceLT,Int.reduceEq,bo]
  repeat' first |exact .out (dW (by unfold dj; omega))|exact .out (e8 (by unfold dj; omega))|refine .ite (fun _=>?_) (fun _=>?_)|(exfalso; omega)):P:=h
theorem NW {P:Prop} (h:P:=by
 have hb:=H.hb
 simp only [zz,H.dK,H.qY,H.hR,H.hk,iA r th hb,hZ r th hb,dP,Tu,mU,iK,iJ,gL,gK,dL,act,Int.reduceEq,Gl]<;>(repeat' split)<;>first |rfl|(exfalso; omega)):P:=h
theorem zm3 {P:Prop} (h:P:=by
 have a7:=zB x3;have k9:=pK x3;have Rq:=kE x3;have N1:=kf x3;refine bL.of ?_;rw [agb];simp only [aeW,zz,aL,hn,a1,a7,Lp,Lo,mg,jC,bF,Int.reduceLT,Int.reduceEq]
 repeat' first |exact .out (dW (by unfold dj; omega))|exact .out (e8 (by unfold dj; omega))|refine .ite (fun _=>?_) (fun _=>?_)|(exfalso; omega)):P:=h
theorem zm4 {P:Prop} (h:P:=by
 have a7:=zB x3;have k9:=pK x3;have Rq:=kE x3;have N1:=kf x3;refine bL.of ?_;rw [aga];simp only [aeV,zz,aL,hn,a1,a7,Lp,Lo,mg,jC,bF,Int.reduceLT,Int.reduceEq]
 repeat' first |exact .out (dW (by unfold dj; omega))|exact .out (e8 (by unfold dj; omega))|refine .ite (fun _=>?_) (fun _=>?_)|(exfalso; omega)):P:=h
theorem zm5 {P:Prop} (h:P:=by
 repeat' first |exact .out (dW id)|exact .out (dW (by omega))|exact .out (e8 (by omega))|refine .ite (fun _=>?_) (fun _=>?_)|(exfalso; omega)):P:=h
theorem zm6 {P:Prop} (h:P:=by
 repeat' first |(exfalso; omega)|(refine .out ?_; (repeat first |rw [ag (by omega)]|rw [af (by omega)]); first |exact⟨s2,Hq,rfl⟩|exact rI C mi _ (by first |rfl|simp [*]) (by (first |rfl|exact jg ic|exact jW ic|exact jg kR|exact jW kR|(rw [ic]; rfl)|(rw [kR]; rfl)|(rw [jr ic]; rfl)|(rw [hw]; rfl)|(rw [bQ,<- hx (by omega),hw]; rfl)|(rw [bQ,<- hx (by omega),bF])|(simp only [bF,bQ]; first |exact I0|exact EZ|rfl))) (by (first |rfl|exact jg ic|exact jW ic|exact jg kR|exact jW kR|(rw [ic]; rfl)|(rw [kR]; rfl)|(rw [jr ic]; rfl)|(rw [hw]; rfl)|(rw [bQ,<- hx (by omega),hw]; rfl)|(rw [bQ,<- hx (by omega),bF])|(simp only [bF,bQ]; first |exact I0|exact EZ|rfl))))|refine .ite (fun _=>?_) (fun _=>?_)|(exfalso; omega)):P:=h
theorem zm7 {P:Prop} (h:P:=by
 obtain⟨IP,Hq,C,hR,uH,mC,mi,mh,hlen,hk,hr,hv,hn,nd,ho,hc,hM,h7⟩:=H;have a1: ¬th<0:=by omega
 have a2: ¬obj<0:=by omega
 have a3:obj<(d0.l.length:Int):=by omega
 have a4:obj<(cs.l.length:Int):=by rw [C.len]; exact mh
 have p0:=lT ic th;have b0:(r.l.length:Int)=0:=by rw [ic]; rfl
 have n2:L 4400 [th,enc (.i 2)]=some [-1]:=xx (.i 2) th (by decide);obtain⟨m0,m1,m2,m3,m4⟩:=hM (by omega);have a5: ¬Mx d0 obj<0:=by omega
 have a6:Mx d0 obj<(cs.l.length:Int):=by rw [C.len]; exact m1
 refine bL.of ?_;rw [mK];simp only [my,zz,Int.reduceEq,Int.reduceLT,aL,a1,mC,a2,a3,a4,dK,hR,hk,IP,hr,hv,bF,n2,wW,a5,a6,m2,m3];simp only [act,Int.reduceEq,if_true,if_false,p0,b0]
 repeat' first |(exfalso; omega)|(refine .out ?_; (repeat first |rw [ag (by omega)]|rw [af (by omega)]); first |exact⟨s2,Hq,rfl⟩|exact rI C mi _ (by first |rfl|simp [*]) (by (first |rfl|exact jg ic|exact jW ic|exact jg kR|exact jW kR|(rw [ic]; rfl)|(rw [kR]; rfl)|(rw [jr ic]; rfl)|(rw [hw]; rfl)|(rw [bQ,<- hx (by omega),hw]; rfl)|(rw [bQ,<- hx (by omega),bF])|(simp only [bF,bQ]; first |exact I0|exact EZ|rfl))) (by (first |rfl|exact jg ic|exact jW ic|exact jg kR|exact jW kR|(rw [ic]; rfl)|(rw [kR]; rfl)|(rw [jr ic]; rfl)|(rw [hw]; rfl)|(rw [bQ,<- hx (by omega),hw]; rfl)|(rw [bQ,<- hx (by omega),bF])|(simp only [bF,bQ]; first |exact I0|exact EZ|rfl)))|exact GC C mi m0 m1 m2 (by (first |rfl|exact jg ic|exact jW ic|exact jg kR|exact jW kR|(rw [ic]; rfl)|(rw [kR]; rfl)|(rw [jr ic]; rfl)|(rw [hw]; rfl)|(rw [bQ,<- hx (by omega),hw]; rfl)|(rw [bQ,<- hx (by omega),bF])|(simp only [bF,bQ]; first |exact I0|exact EZ|rfl))) (by (first |rfl|exact jg ic|exact jW ic|exact jg kR|exact jW kR|(rw [ic]; rfl)|(rw [kR]; rfl)|(rw [jr ic]; rfl)|(rw [hw]; rfl)|(rw [bQ,<- hx (by omega),hw]; rfl)|(rw [bQ,<- hx (by omega),bF])|(simp only [bF,bQ]; first |exact I0|exact EZ|rfl))))|refine .ite (fun _=>?_) (fun _=>?_)|(exfalso; omega)):P:=h
theorem zm8 {P:Prop} (h:P:=by
 rw [VO] at g1
 exact zm3):P:=h
theorem zm9 {P:Prop} (h:P:=by
 rw [VO] at g1
 exact zm4):P:=h
theorem m_ {P:Prop} (h:P:=by
 repeat' first |(refine .out ?_; simp only [*,aG,ax,if_true,if_false,not_true_eq_false,not_false_eq_true,and_true,true_and,and_false,false_and,Int.reduceEq,Int.reduceLT]; done)|refine .ite (fun _=>?_) (fun _=>?_)|(exfalso; omega)):P:=h
theorem l? {P:Prop} (h:P:=by
 have w:=bB (n:=d4.l.length) (by omega);obtain⟨ys,g0,b0,rfl,c0,f0⟩:=lC x8 (d3.l.length:Int);obtain⟨ys,g1,b1,rfl,c1,f1⟩:=lC x9 ((d4.l.length+1:Nat):Int);refine bL.of ?_;rw [KP];simp only [Jp,zz,Int.reduceEq,w,g0,g1]
 exact zm5):P:=h
theorem ap3 {P:Prop} (h:P:=by
 simp only [act,Int.reduceEq,if_true,if_false]
 repeat' first |(exfalso; omega)|(refine .out ?_; (repeat first |rw [ag (by omega)]|rw [af (by omega)]); first |exact⟨s2,Hq,rfl⟩|exact rI C mi _ (by first |rfl|simp [*]) (by (first |rfl|exact jg ic|exact jW ic|exact jg kR|exact jW kR|(rw [ic]; rfl)|(rw [kR]; rfl)|(rw [jr ic]; rfl)|(rw [hw]; rfl)|(rw [bQ,<- hx (by omega),hw]; rfl)|(rw [bQ,<- hx (by omega),bF])|(simp only [bF,bQ]; first |exact I0|exact EZ|rfl))) (by (first |rfl|exact jg ic|exact jW ic|exact jg kR|exact jW kR|(rw [ic]; rfl)|(rw [kR]; rfl)|(rw [jr ic]; rfl)|(rw [hw]; rfl)|(rw [bQ,<- hx (by omega),hw]; rfl)|(rw [bQ,<- hx (by omega),bF])|(simp only [bF,bQ]; first |exact I0|exact EZ|rfl)))|exact GC C mi m0 m1 m2 (by (first |rfl|exact jg ic|exact jW ic|exact jg kR|exact jW kR|(rw [ic]; rfl)|(rw [kR]; rfl)|(rw [jr ic]; rfl)|(rw [hw]; rfl)|(rw [bQ,<- hx (by omega),hw]; rfl)|(rw [bQ,<- hx (by omega),bF])|(simp only [bF,bQ]; first |exact I0|exact EZ|rfl))) (by (first |rfl|exact jg ic|exact jW ic|exact jg kR|exact jW kR|(rw [ic]; rfl)|(rw [kR]; rfl)|(rw [jr ic]; rfl)|(rw [hw]; rfl)|(rw [bQ,<- hx (by omega),hw]; rfl)|(rw [bQ,<- hx (by omega),bF])|(simp only [bF,bQ]; first |exact I0|exact EZ|rfl))))|refine .ite (fun _=>?_) (fun _=>?_)|(exfalso; omega)):P:=h
theorem XT {P:Prop} (h:P:=by
 refine bL.of ?_;rw [aco];simp only [D_,zz,Int.reduceEq]
 exact zm5):P:=h
theorem aeF {P:Prop} (h:P:=by
 generalize ((((d1.at t).V 2).at x.a).V 3).n=i3 at *
 exact m_):P:=h
theorem ap2 {P:Prop} (h:P:=by
 simp only [act,Int.reduceEq,if_true,if_false,p0,b0]
 exact zm6):P:=h
theorem ap0 {P:Prop} (h:P:=by
 repeat' first |(exfalso; omega)|(refine .out ?_; (repeat first |rw [ag (by omega)]|rw [af (by omega)]); first |exact⟨s2,Hq,rfl⟩|exact rI C mi _ (by first |rfl|simp [*]) (by (first |rfl|exact jg ic|exact jW ic|exact jg kR|exact jW kR|(rw [ic]; rfl)|(rw [kR]; rfl)|(rw [jr ic]; rfl)|(rw [hw]; rfl)|(rw [bQ,<- hx (by omega),hw]; rfl)|(rw [bQ,<- hx (by omega),bF])|(simp only [bF,bQ]; first |exact I0|exact EZ|rfl))) (by (first |rfl|exact jg ic|exact jW ic|exact jg kR|exact jW kR|(rw [ic]; rfl)|(rw [kR]; rfl)|(rw [jr ic]; rfl)|(rw [hw]; rfl)|(rw [bQ,<- hx (by omega),hw]; rfl)|(rw [bQ,<- hx (by omega),bF])|(simp only [bF,bQ]; first |exact I0|exact EZ|rfl))))|refine .ite (fun _=>?_) (fun _=>?_)):P:=h
theorem apZ {P:Prop} (h:P:=by
 unfold BB at g1;rw [VP] at g1;have a7:=zB x4;have k9:=pK x4;have Rq:=kE x4;have N1:=kf x4;refine bL.of ?_;rw [abX];rcases g1 with ⟨p1,l1,rfl⟩|⟨p1,m1,q1,r1,s1⟩
 ·simp only [OB,zz,aL,hn,h3,h8,h5,h4,a1,a7,qu,qt,mg,jC,bF,Int.reduceLT,Int.reduceEq,bo]
  repeat' first |exact .out (dW (by unfold dj; omega))|exact .out (e8 (by unfold dj; omega))|refine .ite (fun _=>?_) (fun _=>?_)|(exfalso; omega)
 ·subst m1;simp only [OB,zz,aL,hn,h3,h8,h5,h4,a1,a7,q1,r1,s1,qu,qt,mg,jC,bF,Int.reduceLT,Int.reduceEq,bo]
  repeat' first |exact .out (dW (by unfold dj; omega))|exact .out (e8 (by unfold dj; omega))|refine .ite (fun _=>?_) (fun _=>?_)|(exfalso; omega)):P:=h
theorem apX {P:Prop} (h:P:=by
 unfold BB at g1;rw [VP] at g1;have a7:=zB x4;have k9:=pK x4;have Rq:=kE x4;have N1:=kf x4;refine bL.of ?_;rw [abW];rcases g1 with ⟨p1,l1,rfl⟩|⟨p1,m1,q1,r1,s1⟩
 ·simp only [OA,zz,aL,hn,h3,h8,h5,h4,a1,a7,qu,qt,mg,jC,bF,Int.reduceLT,Int.reduceEq,bo]
  repeat' first |exact .out (dW (by unfold dj; omega))|exact .out (e8 (by unfold dj; omega))|refine .ite (fun _=>?_) (fun _=>?_)|(exfalso; omega)
 ·subst m1;simp only [OA,zz,aL,hn,h3,h8,h5,h4,a1,a7,q1,r1,s1,qu,qt,mg,jC,bF,Int.reduceLT,Int.reduceEq,bo]
  repeat' first |exact .out (dW (by unfold dj; omega))|exact .out (e8 (by unfold dj; omega))|refine .ite (fun _=>?_) (fun _=>?_)|(exfalso; omega)):P:=h
theorem XS {P:Prop} (h:P:=by
 simp only [pV,e9,pD,sg,List.map,cC,Nat.reduceLT,cM,cV]
 exact al6):P:=h
theorem j7 {P:Prop} (h:P:=by
 exact congrArg (fin L) K):P:=h
theorem apW {P:Prop} (h:P:=by
 unfold BB at g1;have a7:=zB x4;have k9:=pK x4;have Rq:=kE x4;have N1:=kf x4;refine bL.of ?_;rw [abX];rcases g1 with ⟨p1,l1,rfl⟩|⟨p1,m1,q1,r1,s1⟩
 ·simp only [OB,zz,aL,hn,a1,a7,qu,qt,mg,jC,bF,Int.reduceLT,Int.reduceEq,bo]
  repeat' first |exact .out (dW (by unfold dj; omega))|exact .out (e8 (by unfold dj; omega))|refine .ite (fun _=>?_) (fun _=>?_)|(exfalso; omega)
 ·subst m1;simp only [OB,zz,aL,hn,a1,a7,q1,r1,s1,qu,qt,mg,jC,bF,Int.reduceLT,Int.reduceEq,bo]
  repeat' first |exact .out (dW (by unfold dj; omega))|exact .out (e8 (by unfold dj; omega))|refine .ite (fun _=>?_) (fun _=>?_)|(exfalso; omega)):P:=h
theorem apV {P:Prop} (h:P:=by
 unfold BB at g1;have a7:=zB x4;have k9:=pK x4;have Rq:=kE x4;have N1:=kf x4;refine bL.of ?_;rw [abW];rcases g1 with ⟨p1,l1,rfl⟩|⟨p1,m1,q1,r1,s1⟩
 ·simp only [OA,zz,aL,hn,a1,a7,qu,qt,mg,jC,bF,Int.reduceLT,Int.reduceEq,bo]
  repeat' first |exact .out (dW (by unfold dj; omega))|exact .out (e8 (by unfold dj; omega))|refine .ite (fun _=>?_) (fun _=>?_)|(exfalso; omega)
 ·subst m1;simp only [OA,zz,aL,hn,a1,a7,q1,r1,s1,qu,qt,mg,jC,bF,Int.reduceLT,Int.reduceEq,bo]
  repeat' first |exact .out (dW (by unfold dj; omega))|exact .out (e8 (by unfold dj; omega))|refine .ite (fun _=>?_) (fun _=>?_)|(exfalso; omega)):P:=h
theorem aeE {P:Prop} (h:P:=by
 have hb:=H.hb;have U:=H.uH; have Z:=H.mC; have h3:=H.mi; have h4:=H.mh; have h5:=H.hlen; have h6:=H.hr; have h7:=H.hv; have hp:=hJ r th
 simp only [zz,H.dK,H.qY,H.hR,H.hk,iA r th hb,hZ r th hb,V]<;>omega):P:=h
theorem atD {P:Prop} (h:P:=by
 repeat' first |exact .out Ay|exact .out tw|refine .ite (fun _=>?_) (fun _=>?_)):P:=h
theorem al7 {P:Prop} (h:P:=by
 have hb:=H.hb;have hz:((0:Nat):Int)=0:=rfl
 simp only [zz,H.dK,H.qY,H.hR,H.hk,iA r th hb,hZ r th hb,hr,bj,ax,hz,sK,dP,Tu,mU,iK,iJ,gL,gK,dL,act,Int.reduceEq,Gl]<;>(repeat' split)<;>first |rfl|(exfalso; omega)):P:=h
theorem tf {P:Prop} (h:P:=by
 obtain⟨ys,h,rfl⟩:=this
 exact h):P:=h
theorem apU {P:Prop} (h:P:=by
 generalize s.l[i]=x at *;have q4:((x.V 4).l.length:Int)<17592186044416:=by omega
 have q5:((x.V 5).l.length:Int)<17592186044416:=by omega
 by_cases r4:((x.V 4).l.length:Int)=0<;>by_cases r5:((x.V 5).l.length:Int)=0<;>
 ·have e:kH x=dL [.i (x.V 0).n,.i (x.V 1).n,.i (if (x.V 2).n=0 then 0 else 1),.i (x.V 3).n,mW (x.V 4),mW (x.V 5)]:=rfl;unfold mW at e;simp only [r4,r5,if_true,if_false] at e;rw [e] at ih
  try rw [e]
  simp only [Vm,zz,c0,c1,c2,c3,w,gD,bF,q4,q5,r4,r5]
  exact .jump ih):P:=h
theorem al6 {P:Prop} (h:P:=by
 rw [h']
 simp only [cM,cV,awV,az,if_true]):P:=h
theorem apT {P:Prop} (h:P:=by
 obtain⟨hC,ok,hle⟩:=Bf h0 U G (by omega) R;have hl:=h.len;refine aqY h0 U G' (by omega) hC (by omega) fun i hi=>?_;obtain⟨o,c,dn,g,r,v,T,_⟩:=HB G (i:=(i:Int)) (by omega) (by omega);obtain⟨o',c',E8,g',r',v',T',_⟩:=HB G' (i:=(i:Int)) (by omega) (by omega);obtain⟨rfl,rfl,rfl,rfl,q4,q5⟩:=Si T T' (h.zZ i);have P:=LO h0 U G (by omega) R (i:=(i:Int)) (by omega) (by omega) T;refine⟨_,_,_,_,_,_,T',?_⟩;unfold NP at P ⊢
 grind):P:=h
theorem al5 {P:Prop} (h:P:=by
 have hb:=H.hb
 simp only [zz,H.dK,H.qY,H.hR,H.hk,iA r th hb,hZ r th hb,sK,ax,dP,Tu,mU,iK,iJ,gL,gK,dL,act,Int.reduceEq,Gl]<;>(repeat' split)<;>first |rfl|(exfalso; omega)):P:=h
theorem i? {P:Prop} (h:P:=by
 simp only [pV,uo,e9,pD,sg,k7,List.map,mP,cC,Nat.reduceLT,cM,cV,bG]
 grind):P:=h
theorem aeD {P:Prop} (h:P:=by
 have kk:=(show ((d0.at (i:Int)).V 0).n=1 from tz.symm.trans rfl);have r1:=r0 (by omega) (by omega);have v1:=v0 (by omega)
 exact ZR (by omega) H r1 v1 (e1 r1 v1)):P:=h
theorem XR {P:Prop} (h:P:=by
 exact⟨_,by simp [Builtin.len_,run_underlying hu]; rfl,by simp [VR,Y.den,goInt]⟩):P:=h
theorem al4 {P:Prop} (h:P:=by
 simp only [I?,zz,Int.reduceEq]
 repeat' first
  |exact .out (dW fun h=>by have:=h.1; unfold Rz at this; omega)
  |exact .jump (ih.iff ⟨fun q=> ⟨by unfold Rz; omega,q⟩,fun q=>q.2⟩)
  |refine .ite (fun _=>?_) (fun _=>?_)):P:=h
theorem apS {P:Prop} (h:P:=by
 rw [VP] at g1;have a7:=zB x3;have k9:=pK x3;have Rq:=kE x3;have N1:=kf x3;refine bL.of ?_;rw [agb];simp only [aeW,zz,aL,hn,h3,h8,h5,h4,a1,a7,Lp,Lo,mg,jC,bF,Int.reduceLT,Int.reduceEq]
 repeat' first |exact .out (dW (by unfold dj; omega))|exact .out (e8 (by unfold dj; omega))|refine .ite (fun _=>?_) (fun _=>?_)|(exfalso; omega)):P:=h
theorem apR {P:Prop} (h:P:=by
 rw [VP] at g1;have a7:=zB x3;have k9:=pK x3;have Rq:=kE x3;have N1:=kf x3;refine bL.of ?_;rw [aga];simp only [aeV,zz,aL,hn,h3,h8,h5,h4,a1,a7,Lp,Lo,mg,jC,bF,Int.reduceLT,Int.reduceEq]
 repeat' first |exact .out (dW (by unfold dj; omega))|exact .out (e8 (by unfold dj; omega))|refine .ite (fun _=>?_) (fun _=>?_)|(exfalso; omega)):P:=h
theorem al3 {P:Prop} (h:P:=by
 simp only [evA,ah,List.cons.injEq,and_true] at hL;obtain⟨p,rfl,rfl,rfl,rfl,rfl,rfl⟩:=hL;obtain⟨s',q,rfl⟩:=wC
 exact⟨s',_,_,_,_,_,_,TT,hY,by rw [fY p]; exact q⟩):P:=h
theorem aeC {P:Prop} (h:P:=by
 repeat' first |exact .out (.inl ⟨by omega,_,rfl⟩)|exact .out (.inr ⟨by omega,rfl,rfl,rfl⟩)|refine .ite (fun _=>?_) (fun _=>?_)):P:=h
theorem apQ {P:Prop} (h:P:=by
 have hs:=eE h.sh dc;rw [he] at hs;rw [bK,WR];rcases cc hr with rfl|rfl|⟨r1,r2⟩ <;>rcases cc hv with rfl|rfl|⟨v1,v2⟩
 all_goals
  simp only [vX,zz,c0,c1,c2,w,bI dc,he,eh,bF,aA,aC,EV,EU,hs,jV,jU,ri,jT]
  try simp only [r1,r2,zz]
  try simp only [v1,v2,zz]
  try simp only [fin]
  exact ih):P:=h
theorem apP {P:Prop} (h:P:=by
 by_cases r4:((x.V 4).l.length:Int)=0<;>by_cases r5:((x.V 5).l.length:Int)=0<;>
 ·have e:kH x=dL [.i (x.V 0).n,.i (x.V 1).n,.i (if (x.V 2).n=0 then 0 else 1),.i (x.V 3).n,mW (x.V 4),mW (x.V 5)]:=rfl;unfold mW at e;simp only [r4,r5,if_true,if_false] at e;rw [e] at ih
  try rw [e]
  simp only [Vn,zz,c0,c1,gD,q4,q5,sK,ax,r4,r5]
  exact .jump ih):P:=h
theorem al0 {P:Prop} (h:P:=by
 have kk:=(show ((d0.at (i:Int)).V 0).n=2 from tz.symm.trans rfl);have v1:=v0 (by omega);rcases gA r.l with h|h
 ·exact ZR (by omega) H h v1 (e1 h v1)
 ·exact oG3 (by omega) H h v1 (e3 h v1)):P:=h
theorem alZ {P:Prop} (h:P:=by
 simp only [evA,ah,List.cons.injEq,and_true] at hL hL';obtain⟨p,rfl,rfl,rfl,rfl,rfl,rfl⟩:=hL;obtain⟨p',rfl,rfl,rfl,rfl,rfl,rfl⟩:=hL';rw [fY p,fY p']
 grind):P:=h
theorem apO {P:Prop} (h:P:=by
 have hb:=H.hb;have U:=H.uH; have Z:=H.mC; have h3:=H.mi; have h4:=H.mh; have h5:=H.hlen; have h6:=H.hr; have h7:=H.hv; have hp:=hJ r th
 simp only [zz,H.dK,H.qY,H.hR,H.hk,iA r th hb,hZ r th hb,V,bQ,bF,sK,aG,ax,bd,aZ,bp,aT,bj]<;>omega):P:=h
theorem aeB {P:Prop} (h:P:=by
 unfold da at hy ⊢;simp only [zz,hc,h,hw,c7,hE,hv,Int.reduceEq,if_true,if_false,ep,KT.d,dH,eC] at hy ⊢
 rw [hy]):P:=h
theorem aeA {P:Prop} (h:P:=by
 unfold da at hy ⊢;simp only [zz,hc,h,hw,c7,hE,hv,Int.reduceEq,if_true,if_false,ep,KT.d,dH,eC] at hy ⊢
 try rfl):P:=h
theorem apN {P:Prop} (h:P:=by
 obtain⟨d1,d2⟩:=hb _ (au h0);have hc:=(cls d1 d2).1.2 f1;have d1: ¬l[0]<0:=by omega
 have anX:((bD l).at 0).n=l[0]:=zX h0;have e1:(0:Int)<(l.length:Int):=by omega
 have w:IntKind.i64.wrap (0+1)=1:=fB (by omega) (by omega);rw [bK,Uv];simp only [Sq,zz,eK,e1,anX,d1,d2,hc,w,aL,Int.reduceEq,fin]
 exact p4):P:=h
theorem apM {P:Prop} (h:P:=by
 have ha:=NA hp a;have hb:=NA hp b;split
 ·rename_i la ha' lb zl e1 e2;rw [e1] at ha;rw [e2] at hb;have a1:=ha.1 la rfl;have a2:=ha.2 ha' rfl;have b1:=hb.1 lb rfl;have b2:=hb.2 zl rfl;split
  ·rename_i hi;simp only [Y.den];rw [Tt hi (by omega) (by omega)];constructor<;>intro l hl<;>simp at hl<;>omega
  ·exact rh hp
 ·exact rh hp):P:=h
theorem apL {P:Prop} (h:P:=by
 have hs:=Ri S (by omega);obtain⟨c1,c2⟩:=(S.cnd (by omega)).1;have t0:=R.r.t0;have ht:=R.ht;have hk:=R.hk;obtain⟨i,rfl⟩ : ∃i:Nat,t=(i:Int):=⟨t.toNat,by omega⟩;have hi:i<k.l.length:=by omega
 have hc:=aa1 c1 c2 i hi hs;rw [bI hi] at hk;rw [hk] at hc;unfold Mc By at hc;simp only [KT.d,zg,az,Br] at hc
 grind):P:=h
theorem IU {P:Prop} (h:P:=by
 exact .out (by rw [awx,av4])):P:=h
theorem XQ {P:Prop} (h:P:=by
 simp [Instr.sliceAt,run_underlying hu,Instr.slice,e1,jv]<;>split<;>rfl):P:=h
theorem apK {P:Prop} (h:P:=by
 have q:((x.V 1).l.length:Int)<17592186044416:=by omega
 unfold cK mW at ih;by_cases r1:((x.V 1).l.length:Int)=0
 ·simp only [r1,if_true] at ih;simp only [Jo,zz,c0,c1,gD,q,sK,ax,r1];exact .jump ih
 ·simp only [r1,if_false] at ih;simp only [Jo,zz,c0,c1,gD,q,sK,ax,r1]
  exact .jump ih):P:=h
theorem alY {P:Prop} (h:P:=by
 repeat' first |exact .out (anD (by omega))|exact .out (anC (by omega))|refine .ite (fun _=>?_) (fun _=>?_)):P:=h
theorem alX {P:Prop} (h:P:=by
 have kk:=(show ((d0.at (i:Int)).V 0).n=3 from tz.symm.trans rfl);have r1:=r0 (by omega) (by omega);have v1:=v0 (by omega)
 exact ZR (by omega) H r1 v1 (e1 r1 v1)):P:=h
theorem aez {P:Prop} (h:P:=by
 have:=bE Z;simp only [an] at this;obtain⟨rfl,rfl⟩:=this
 exact⟨rfl,ht⟩):P:=h
theorem aey {P:Prop} (h:P:=by
 simp only [pV,e9,pD,sg,List.map,cC,Nat.reduceLT,cM,cV]
 grind):P:=h
theorem aex {P:Prop} (h:P:=by
 repeat' first |exact .out (.inl ⟨by omega,_,rfl⟩)|refine .ite (fun _=>?_) (fun _=>?_)):P:=h
theorem aew {P:Prop} (h:P:=by
 simp only [pV,k7,cC,Nat.reduceLT,cM,cV,bG,mP]
 grind):P:=h
theorem alW {P:Prop} (h:P:=by
 repeat' first
  |exact .out (v7 (no (by omega)))
  |exact .jump ⟨_,hL,go (by omega)⟩
  |refine .ite (fun _=>?_) (fun _=>?_)):P:=h
theorem apJ {P:Prop} (h:P:=by
 by_cases q3:oc=3
 ·simp only [oY,zz,hA,c1,ht,c2,c3,c4,o0,w0,hw,n1,i0,JW,VD,GH,q3,z5]<;>exact⟨rfl,rfl⟩
 ·simp only [oY,zz,hA,c1,ht,c2,c3,c4,o0,w0,hw,n1,i0,JW,VD,GH,q3,z5]<;>exact⟨rfl,rfl⟩):P:=h
theorem apI {P:Prop} (h:P:=by
 by_cases hn:d0.l.length=0
 ·have e:sR d0= .i 1:=by unfold sR; rw [ag hn]
  rw [e];exact Iu hc (.inr hn)
 ·have e:sR d0=dL (d0.l.map fy):=by unfold sR; rw [af hn]
  rw [e]
  exact Rl hc ok.1 (by omega)):P:=h
theorem apH {P:Prop} (h:P:=by
 by_cases q3:oc=3
 ·simp only [oY,zz,hA,c1,ht,c2,c3,c4,o0,w0,hw,n1,i0,JW,VD,q4,q3,z5]<;>exact⟨rfl,rfl⟩
 ·simp only [oY,zz,hA,c1,ht,c2,c3,c4,o0,w0,hw,n1,i0,JW,VD,q4,q3,z5]<;>exact⟨rfl,rfl⟩):P:=h
theorem apG {P:Prop} (h:P:=by
 have hb:=H.hb;have U:=H.uH; have Z:=H.mC; have h3:=H.mi; have h4:=H.mh; have h5:=H.hlen; have h6:=H.hr; have h7:=H.hv; have hp:=hJ r th
 simp only [zz,H.dK,H.qY,H.hR,H.hk,iA r th hb,hZ r th hb]<;>omega):P:=h
theorem apF {P:Prop} (h:P:=by
 rw [<- hx];refine .ite (fun h=> .jump ?_) fun h=> .jump ?_
 ·have e:wo t (r.l[i]::r.l.drop (i+1))=wo t (r.l.drop (i+1)):=aiB h
  grind
 ·have e:wo t (r.l[i]::r.l.drop (i+1))=r.l[i]::wo t (r.l.drop (i+1)):=aiA h
  grind):P:=h
theorem apE {P:Prop} (h:P:=by
 by_cases q3:oc=3
 ·simp only [oY,zz,hA,c1,ht,c2,c3,c4,o0,w0,hw,n1,i0,JW,GH,q3,z5]<;>exact⟨rfl,rfl⟩
 ·simp only [oY,zz,hA,c1,ht,c2,c3,c4,o0,w0,hw,n1,i0,JW,GH,q3,z5]<;>exact⟨rfl,rfl⟩):P:=h
theorem apD {P:Prop} (h:P:=by
 refine⟨v1::vs1,Z,qU,E2,qp,f1.trans f2,fun us hu=>?_,g2⟩;rw [bS] at hu ⊢;obtain⟨u,iI,rfl,a,b⟩:=hu
 exact⟨u,iI,rfl,VR.du (f2.dV.keeps f1.rel) _ _ (q1 u a),q2 iI (cJ.du (f1.dV.keeps r) _ _ b)⟩):P:=h
theorem Oi {P:Prop} (h:P:=by
 have:=aM hi
 grind):P:=h
theorem alV {P:Prop} (h:P:=by
 repeat' first |exact .out (e8 (by omega))|exact .out (dW (by omega))|refine .ite (fun _=>?_) (fun _=>?_)):P:=h
theorem apC {P:Prop} (h:P:=by
 refine bA [.eq (a0 1650 qS) Q0,.eq (a0 1900 [bO,bP]) Q0] [.lt (.lit 20000) Qb,ID] (ou [rr 1900 [bO,bP] 0,rr 1900 [bO,bP] 1,W]) (by simp only [zz,dK,hn,hO]<;>omega) (by kernel_rfl) ?_
 simp only [zz,dK]):P:=h
theorem apB {P:Prop} (h:P:=by
 by_cases q3:oc=3
 ·simp only [oY,zz,hA,c1,ht,c2,c3,c4,o0,w0,hw,n1,GH,q3,z5]<;>exact⟨rfl,rfl⟩
 ·simp only [oY,zz,hA,c1,ht,c2,c3,c4,o0,w0,hw,n1,GH,q3,z5]<;>exact⟨rfl,rfl⟩):P:=h
theorem aev {P:Prop} (h:P:=by
 refine .ite (fun h=> .out (by rw [af (by omega)])) fun h=> .out ?_
 grind):P:=h
theorem apA {P:Prop} (h:P:=by
 by_cases q3:oc=3
 ·simp only [j9,zz,hA,c1,ht,c2,c3,c4,o0,w0,hw,n1,i0,i1,JW,VD,GH,q3,z5]
 ·simp only [j9,zz,hA,c1,ht,c2,c3,c4,o0,w0,hw,n1,i0,i1,JW,VD,GH,q3,z5]):P:=h
theorem apz {P:Prop} (h:P:=by
 simp only [pV,uo,e9,pD,sg,k7,List.map,mP,cC,Nat.reduceLT,cM,cV,bG];rw [hC]
 simp only [cM,cV,awV,az,if_true]):P:=h
theorem Oh {P:Prop} (h:P:=by
 obtain⟨ys,h,rfl⟩:=key
 exact h):P:=h
theorem apy {P:Prop} (h:P:=by
 by_cases q3:oc=3
 ·simp only [j9,zz,hA,c1,ht,c2,c3,c4,o0,w0,hw,n1,i0,i1,JW,VD,q4,q3,z5]
 ·simp only [j9,zz,hA,c1,ht,c2,c3,c4,o0,w0,hw,n1,i0,i1,JW,VD,q4,q3,z5]):P:=h
theorem alU {P:Prop} (h:P:=by
 rw [aM hj,aM hj0] at h3
 grind):P:=h
theorem alT {P:Prop} (h:P:=by
 obtain⟨inf,d,z,U,Z,h3,h4,h5,h6,h7,_⟩:=h.all;rw [Z];cases d<;>simp [hk,U2] at h7
 grind):P:=h
theorem apx {P:Prop} (h:P:=by
 have hb:=F5 (e:=a) hp;have hz: ∀z,(Y.lit z).den ρ=z:=fun _=>rfl;simp only [hz] at *;generalize PI:tb _ pc=p at h hb;obtain⟨lo,hi⟩:=p;simp only [vR] at h hb
 grind):P:=h
theorem apw {P:Prop} (h:P:=by
 by_cases q3:oc=3
 ·simp only [j9,zz,hA,c1,ht,c2,c3,c4,o0,w0,hw,n1,i0,JW,VD,GH,q3,z5]
 ·simp only [j9,zz,hA,c1,ht,c2,c3,c4,o0,w0,hw,n1,i0,JW,VD,GH,q3,z5]):P:=h
theorem apv {P:Prop} (h:P:=by
 by_cases q3:oc=3
 ·simp only [j9,zz,hA,c1,ht,c2,c3,c4,o0,w0,hw,n1,i0,JW,VD,q4,q3,z5]
 ·simp only [j9,zz,hA,c1,ht,c2,c3,c4,o0,w0,hw,n1,i0,JW,VD,q4,q3,z5]):P:=h
theorem apu {P:Prop} (h:P:=by
 by_cases q3:oc=3
 ·simp only [j9,zz,hA,c1,ht,c2,c3,c4,o0,w0,hw,n1,i0,i1,JW,GH,q3,z5]
 ·simp only [j9,zz,hA,c1,ht,c2,c3,c4,o0,w0,hw,n1,i0,i1,JW,GH,q3,z5]):P:=h
theorem R5 {P:Prop} (h:P:=by
 rw [bK,ak9]
 exact j7):P:=h
theorem apt {P:Prop} (h:P:=by
 refine bA [.lt (.lit 20000) Qb,.eq (a0 1900 [bO,bP]) Q0] [] (ou [rr 1900 [bO,bP] 0,rr 1900 [bO,bP] 1,W]) (by simp only [zz,dK,hn]<;>omega) (by kernel_rfl) ?_
 simp only [zz,dK]):P:=h
theorem atC {P:Prop} (h:P:=by
 refine bA [.eq (a0 9050 kT) Q0,.eq kS iQ,AZ] [.eq kS W,.eq kS Q0,.eq kS eg,.eq kS gW,AY] (ju 2005 Qvy) (by simp only [zz,h,hR]<;>omega) (by kernel_rfl) ?_
 simp only [zz,h]):P:=h
theorem aps {P:Prop} (h:P:=by
 by_cases w0:x.w=0
 ·simp only [w0,if_true];by_cases a0:x.a=(((d1.at t).V 2).l.length:Int)
  ·simp only [a0,if_true];rfl
  ·simp only [a0,if_false];rfl
 ·simp only [w0,if_false]
  rfl):P:=h
theorem apr {P:Prop} (h:P:=by
 by_cases q3:oc=3
 ·simp only [j9,zz,hA,c1,ht,c2,c3,c4,o0,w0,hw,n1,i0,JW,GH,q3,z5]
 ·simp only [j9,zz,hA,c1,ht,c2,c3,c4,o0,w0,hw,n1,i0,JW,GH,q3,z5]):P:=h
theorem apq {P:Prop} (h:P:=by
 simp only [Gg,zz,c1,c2,w',bI BI,T.is,eh,bF,aA,aC,axf,awE,jV,jU,ri,jT,bM]
 exact ih):P:=h
theorem apo {P:Prop} (h:P:=by
 simp only [Gf,zz,c1,c2,w',bI BI,T.is,eh,bF,aA,aC,axf,awE,jV,jU,ri,jT,bM]
 exact ih):P:=h
theorem apn {P:Prop} (h:P:=by
 simp only [Ge,zz,c1,c2,w',bI BI,T.is,eh,bF,aA,aC,axf,awE,jV,jU,ri,jT,bM]
 exact ih):P:=h
theorem alS {P:Prop} (h:P:=by
 rw [hk]
 simp [Instr.indexAt,asIntOf,run_underlying hu,fm (cX el ie nT),gB,gG]):P:=h
theorem atB {P:Prop} (h:P:=by
 refine bA [.eq (a0 9050 kT) Q0,.eq kS gW,AZ] [.eq kS W,.eq kS Q0,.eq kS eg,AY] (ju 2004 Qvy) (by simp only [zz,h,hR]<;>omega) (by kernel_rfl) ?_
 simp only [zz,h]):P:=h
theorem alR {P:Prop} (h:P:=by
 cases c with
 |exact c=>
  simp only [fS] at hc
  grind
 |rest es=>
  simp only [fS] at hc
  grind):P:=h
theorem FX {P:Prop} (h:P:=by
 simp only [VR] at hx
 grind):P:=h
theorem apm {P:Prop} (h:P:=by
 by_cases q3:oc=3
 ·simp only [j9,zz,hA,c1,ht,c2,c3,c4,o0,w0,hw,n1,GH,q3,z5]
 ·simp only [j9,zz,hA,c1,ht,c2,c3,c4,o0,w0,hw,n1,GH,q3,z5]):P:=h
theorem alQ {P:Prop} (h:P:=by
 unfold uR;split
 ·rename_i h0;obtain⟨_,rfl,rfl,rfl,rfl,rfl⟩:=A.no h0;rfl
 ·rfl):P:=h
theorem atA {P:Prop} (h:P:=by
 have hr2:results fn a.tmps=(do let vs <- fn.results.mapM (xm a); pure (if h:vs.size=1 then vs[0] else .tuple vs)):=rfl;rw [hr2];simp only [Sem.run_bind,hm]
 rfl):P:=h
theorem aiv {P:Prop} (h:P:=by
 rw [awb,decide_eq_true_eq];have e:(p == q)=(p.data == q.data):=rfl;rw [e,beq_iff_eq];constructor
 ·intro h; cases p; cases q; simp only at h; rw [h]
 grind):P:=h
theorem aiu {P:Prop} (h:P:=by
 have:=bE Z;simp only [an] at this;obtain⟨rfl,rfl⟩:=this;refine⟨by simp,wp_mono hw fun x a1 w1 ⟨hx,ht⟩=>?_⟩;subst hx
 exact hq a1 w1 ht):P:=h
theorem ait {P:Prop} (h:P:=by
 have kk:=(show ((d0.at (i:Int)).V 0).n=7 from tz.symm.trans rfl);have r1:=r0 (by omega) (by omega);have v1:=v0 (by omega)
 exact ZR (by omega) H r1 v1 (e1 r1 v1)):P:=h
theorem ais {P:Prop} (h:P:=by
 have kk:=(show ((d0.at (i:Int)).V 0).n=9 from tz.symm.trans rfl);have r1:=r0 (by omega) (by omega);have v1:=v0 (by omega)
 exact ZR (by omega) H r1 v1 (e1 r1 v1)):P:=h
theorem air {P:Prop} (h:P:=by
 have kk:=(show ((d0.at (i:Int)).V 0).n=5 from tz.symm.trans rfl);have r1:=r0 (by omega) (by omega);have v1:=v0 (by omega)
 exact ZR (by omega) H r1 v1 (e1 r1 v1)):P:=h
theorem aiq {P:Prop} (h:P:=by
 have kk:=(show ((d0.at (i:Int)).V 0).n=6 from tz.symm.trans rfl);have r1:=r0 (by omega) (by omega);have v1:=v0 (by omega)
 exact ZR (by omega) H r1 v1 (e1 r1 v1)):P:=h
theorem Jf {P:Prop} (h:P:=by
 rw [bK,akV]
 exact j7):P:=h
theorem aip {P:Prop} (h:P:=by
 refine⟨_,_,hA,hBB,?_⟩;split
 ·refine .inr ⟨s',b,_,rfl,?_,N4,S2⟩;have e:=amR C R (aec R ho) op e2 e3 e4 oc
  grind
 ·exact .inl ⟨rfl,rfl⟩):P:=h
theorem aio {P:Prop} (h:P:=by
 refine bA [IH,.eq (a0 22250 uS) Q0] [] (ou [rr 22250 uS 0,rr 22250 uS 1,W]) (by simp only [zz,dK,h]<;>omega) (by kernel_rfl) ?_
 simp only [zz,dK]):P:=h
theorem wN {P:Prop} (h:P:=by
 exact⟨s.pc,hp,h⟩):P:=h
theorem ain {P:Prop} (h:P:=by
 simp only [Ly,zz,ff,xf,hl,c2,c3,w,q1,q2,q3,iG,not_true_eq_false,and_self,and_false,false_and,not_false_eq_true]
 exact ih):P:=h
theorem aim {P:Prop} (h:P:=by
 cases lo with
 |none=> simp only [gZ] at rm;simp_all
 |some v=>
  obtain⟨u,rfl,hu⟩:=rm;obtain⟨k1,k2⟩:=key .sliceB v u rfl hu
  simp_all):P:=h
theorem ail {P:Prop} (h:P:=by
 have Z:a.blt b=false:=by rw [awW]; simp [Nat.blt]; omega
 have h3:a.beq b=false:=by rw [awW]; simp; omega
 grind):P:=h
theorem aik {P:Prop} (h:P:=by
 simp only [eB,aG] at h ⊢;split at h
 ·rename_i l' hl;simp only [ah] at h;subst h;rw [sV m hl];rfl
 grind):P:=h
theorem ap4 {P:Prop} (h:P:=by
 have:=R.r.t0;have:=R.r.t1;have:=U.len
 exact⟨by omega,by omega⟩):P:=h
theorem aij {P:Prop} (h:P:=by
 simp at h; subst h; simp only [VR] at hx; subst hx
 exact XR):P:=h
theorem l! {P:Prop} (h:P:=by
 split at h
 ·rename_i Z;have Z:=yF (lW hp Z)
  grind
 grind):P:=h
theorem aii {P:Prop} (h:P:=by
 unfold da at hy ⊢;simp only [zz,hc,h,hw,c8,c9,hv,Int.reduceEq,if_true,if_false,ep,KT.d,dH,eC] at hy ⊢
 rw [hy]):P:=h
theorem aih {P:Prop} (h:P:=by
 unfold da at hy ⊢;simp only [zz,hc,h,hw,c8,c9,hv,Int.reduceEq,if_true,if_false,ep,KT.d,dH,eC] at hy ⊢
 try rfl):P:=h
theorem l_ {P:Prop} (h:P:=by
 exact ih (fun j hj=>rM j (by simp [hj])) avS s E w vals v s' r hv hp hl):P:=h
theorem k? {P:Prop} (h:P:=by
 exact br (awF _ Z) (Nat.div_mul_le_self _ _)):P:=h
theorem aif {P:Prop} (h:P:=by
 unfold OkO
 repeat' first |exact .out (dW (by omega))|exact .out (e8 (by omega))|refine .ite (fun _=>?_) (fun _=>?_)):P:=h
theorem aie {P:Prop} (h:P:=by
 split
 ·simp
 ·rename_i hz;intro h;have:=congrArg (fun d=>d.l.length) h;simp only [bF,bc] at this
  exact hz this):P:=h
theorem aid {P:Prop} (h:P:=by
 cases mx with
 |none=>exact .inl ⟨rfl,(Iq I4).1,aw _⟩
 |some y=>exact .inr ⟨y,rfl,I4,aw _⟩):P:=h
theorem aic {P:Prop} (h:P:=by
 unfold obP
 exact alY):P:=h
theorem aib {P:Prop} (h:P:=by
 exact hq a' w' ⟨ht.defers.trans d1,ht.size.trans z1,by obtain⟨E2,NY,f2⟩:=ht.step; exact⟨E2,IX.trans NY,f2⟩⟩):P:=h
theorem aia {P:Prop} (h:P:=by
 unfold da at hy ⊢;simp only [zz,hc,h,hw,c1,Int.reduceEq,if_true,if_false,ep,KT.d,dH,eC] at hy ⊢
 rw [hy]):P:=h
theorem ah9 {P:Prop} (h:P:=by
 unfold da at hy ⊢;simp only [zz,hc,h,hw,c1,Int.reduceEq,if_true,if_false,ep,KT.d,dH,eC] at hy ⊢
 try rfl):P:=h
theorem ah8 {P:Prop} (h:P:=by
 exact⟨q1,q2,.tuple #[],w',by simp [builtin,U],E',Z,h3,by simp only [AV.undef,VR,cJ]; exact⟨[],rfl,rfl⟩⟩):P:=h
theorem zp {P:Prop} (h:P:=by
 simp only [zz,hc,hx]):P:=h
theorem ah7 {P:Prop} (h:P:=by
 simp only;intro xs ys hx E w vals qo hlen fx YR;have:=main xs ys hx E w vals qo hlen fx YR;rw [E3] at this
 exact this):P:=h
theorem ah6 {P:Prop} (h:P:=by
 simp only [eB] at h;split at h
 ·rename_i l' hl;simp only [ah] at h;subst h;simp [pF hl]
 grind):P:=h
theorem ah5 {P:Prop} (h:P:=by
 repeat' first |(refine .out (congrArg (fun x=>[x]) ?_); unfold Ov sMi; grind)|refine .ite (fun _=>?_) (fun _=>?_)):P:=h
theorem ah4 {P:Prop} (h:P:=by
 simp only [pV,e9,pD,sg,List.map,cC,Nat.reduceLT,cM,cV]
 grind [cM,cV]):P:=h
theorem ah3 {P:Prop} (h:P:=by
 first |exact .jump (t2 _ _ _ _)|exact .jump (t3 _ _ _ _ _)|exact .jump (t4 _ _ _ _ _)|exact .jump (t5 _ _ _ _ _ _)):P:=h
theorem ah2 {P:Prop} (h:P:=by
 refine .ite (fun _=> .out (by rw [awx,av4])) fun _=> .out (by rw [awx,av4])):P:=h
theorem ah1 {P:Prop} (h:P:=by
 refine .ite (fun _=> .out rfl) fun Hy=> .ite (fun _=> .out rfl) fun Z=> .ite (fun h3=>?_) fun _=> .out rfl
 grind):P:=h
theorem Ok {P:Prop} (h:P:=by
 have:=QU h p hp
 grind [nK]):P:=h
theorem ah0 {P:Prop} (h:P:=by
 repeat' first |(refine .out (congrArg (fun x=>[x]) ?_); unfold kOf; grind)|refine .ite (fun _=>?_) (fun _=>?_)):P:=h
theorem ahZ {P:Prop} (h:P:=by
 repeat' first |(refine .out (congrArg (fun x=>[x]) ?_); unfold Iz; grind)|refine .ite (fun _=>?_) (fun _=>?_)):P:=h
theorem ahY {P:Prop} (h:P:=by
 repeat' first |(refine .out (congrArg (fun x=>[x]) ?_); unfold Az; grind)|refine .ite (fun _=>?_) (fun _=>?_)):P:=h
theorem ahX {P:Prop} (h:P:=by
 obtain⟨a,lc,w,o,g,tr,T⟩:=fw S.wk _ (au hi);rw [bI hi,T.is,eh]
 exact T.hl.len):P:=h
theorem ahW {P:Prop} (h:P:=by
 simp only [ofConst,aO] at hv;obtain⟨l,U,rfl⟩:=hv;simp only [VR]
 grind [fK]):P:=h
theorem Va {P:Prop} (h:P:=by
 obtain⟨ys,h,rfl⟩:=key
 grind [cF]):P:=h
theorem ahV {P:Prop} (h:P:=by
 obtain⟨inf,d,z,U,Z,h3,h4,h5,h6,h7,_⟩:=h.all;rw [Z];cases d<;>simp [hk,U2] at h7
 rw [h7]):P:=h
theorem ahU {P:Prop} (h:P:=by
 repeat' first |exact .jump i1|exact .jump i2|exact .out Ay|refine .ite (fun _=>?_) (fun _=>?_)):P:=h
theorem U9 {P:Prop} (h:P:=by
 simp only [oZ,List.map,e9,fin]):P:=h
theorem ahT {P:Prop} (h:P:=by
 simp only [Ren.av,VR,oQ] at *;obtain⟨us,U,Z⟩:=hv
 exact⟨us,U,cJ.jI hl cs us hi Z⟩):P:=h
theorem k! {P:Prop} (h:P:=by
 simp only [r1,r2,zz,bM];rw [aej r1]
 exact ih):P:=h
theorem ahS {P:Prop} (h:P:=by
 simp only [Value.slice.injEq] at hv;obtain⟨rfl,_,_⟩:=hv;rw [uL (aoM _)]
 exact .Ap _ _ _):P:=h
theorem U8 {P:Prop} (h:P:=by
 rw [bK,akU]
 exact j7):P:=h
theorem U7 {P:Prop} (h:P:=by
 rw [bK,akT]
 exact j7):P:=h
theorem ahR {P:Prop} (h:P:=by
 cases h:s.l[i]? with
 |none=>exact .tn _
 |some x=>exact aoN (ht _ (bq h))):P:=h
theorem ap1 {P:Prop} (h:P:=by
 rw [bF] at hx;obtain⟨y,hy,rfl⟩:=aW.1 hx
 exact⟨aw 0,aw 0⟩):P:=h
theorem k_ {P:Prop} (h:P:=by
 simp only [zz,hN,hl,ep,KT.d,dH,eC,hc]):P:=h
theorem ahQ {P:Prop} (h:P:=by
 simp only [VR,jk] at *;obtain⟨us,U,Z⟩:=hv
 exact⟨us,U,sq cs us hc Z⟩):P:=h
theorem ahP {P:Prop} (h:P:=by
 simp only [fS] at *;refine⟨trivial,?_⟩;by_cases hml:m=l
 ·grind
 ·left
  grind [gG]):P:=h
theorem ahO {P:Prop} (h:P:=by
 have:=bE Z;subst this;refine⟨v,none,rfl,rfl,rfl,rfl,h0,mm,rest,hs,?_⟩
 grind):P:=h
theorem ahN {P:Prop} (h:P:=by
 subst hc;refine⟨by simp [Instr.sameNow],fun hh n=>?_⟩;simp at hh
 simp [Instr.sameBits,hh]):P:=h
theorem ahM {P:Prop} (h:P:=by
 rw [av8]
 exact⟨fun⟨a,b⟩=> ⟨by omega,by omega,a,b⟩,fun h=>h.2.2⟩):P:=h
theorem ahL {P:Prop} (h:P:=by
 simp only [VR,mM] at *;obtain⟨us,U,Z⟩:=hv
 exact⟨us,U,cJ.low cs us hl Z⟩):P:=h
theorem ahK {P:Prop} (h:P:=by
 have ih:=Bu p hp;simp only [ah,an] at h
 rw [<- h.2]; exact ih):P:=h
theorem ahJ {P:Prop} (h:P:=by
 simp only [VR,Ren.av] at *;obtain⟨us,U,Z⟩:=hv
 exact⟨us,U,cJ.back cs us Z⟩):P:=h
theorem ahI {P:Prop} (h:P:=by
 exact⟨_,run_build w t ps iI hb,by simp only [VR]; exact⟨iI.toList,by simp,e2⟩⟩):P:=h
theorem ahH {P:Prop} (h:P:=by
 exact⟨_,by simp [Builtin.len_,run_underlying hu]; rfl,by simp [VR,Y.den,goInt,h0]⟩):P:=h
theorem j? {P:Prop} (h:P:=by
 simp only [zz,hN,hl,ep,KT.d,dH,eC]):P:=h
theorem ahG {P:Prop} (h:P:=by
 rw [h'];simp only [cM,cV,awV,az,if_true]
 omega):P:=h
theorem ahF {P:Prop} (h:P:=by
 rw [dif_pos h];obtain⟨q1,q2⟩:=yZ h.choose_spec;have q2:=aeh q2
 grind):P:=h
theorem ahE {P:Prop} (h:P:=by
 simp [Instr.indexAt,asIntOf,run_underlying hu,fm (cX e ie nT),gB,gG]):P:=h
theorem ahD {P:Prop} (h:P:=by
 rw [bI hj]
 exact alU):P:=h
theorem ahC {P:Prop} (h:P:=by
 have hx':z.cells.size=0:=by have:=congrArg List.length hx; simpa using this
 grind):P:=h
theorem ahB {P:Prop} (h:P:=by
 simp only [ae0,zz,c1,c2,c3,w,bI dc,bI hid,hn,hS,fin,dP,Hy]):P:=h
theorem ahA {P:Prop} (h:P:=by
 simp only [VR] at *;obtain⟨us,U,Z⟩:=hv
 exact⟨us,U,cJ.du k cs us Z⟩):P:=h
theorem ahz {P:Prop} (h:P:=by
 exact⟨_,by simp [Builtin.len_,run_underlying hu]; rfl,by simp [VR,h0,goInt]⟩):P:=h
theorem apY {P:Prop} (h:P:=by
 rw [axC];rw [map_eq_pure_bind];simp only [Sem.run_bind,g1]
 rfl):P:=h
theorem ahy {P:Prop} (h:P:=by
 rw [<- oD]; simp only [xI]; rw [ag (by constructor<;>simp<;>omega)]):P:=h
theorem ahx {P:Prop} (h:P:=by
 simp only [oZ,List.map,e9,cC,cM,cV,Nat.reduceLT,fin]):P:=h
theorem ahw {P:Prop} (h:P:=by
 obtain⟨i,U,Z⟩:=Hl h
 exact⟨i+1,by simpa using U,by omega⟩):P:=h
theorem ahv {P:Prop} (h:P:=by
 obtain⟨AR,o0,h0,he⟩:=st.own id o ho h;rw [<- he]
 exact t.own AR o0 h0):P:=h
theorem ahu {P:Prop} (h:P:=by
 subst V;cases BG:XZ.kind<;>rw [BG] at IN<;>simp only [U2] at IN
 grind):P:=h
theorem aht {P:Prop} (h:P:=by
 rw [sm t fun y hy=>ht y (by simp [hy]),e1,CO,af (ht x (by simp))]):P:=h
theorem Oj {P:Prop} (h:P:=by
 simp only [Y.den,gX.den]):P:=h
theorem ahs {P:Prop} (h:P:=by
 rw [<- nu] at e1
 simp [Instr.sliceAt,run_underlying hu,Instr.slice,e1]):P:=h
theorem ahr {P:Prop} (h:P:=by
 rcases aH.1 gH with rfl|gH
 ·grind
 ·exact ho p (by simp [gH])):P:=h
theorem ahq {P:Prop} (h:P:=by
 have:=afI h6;simp only [bp,aZ] at this
 omega):P:=h
theorem ahp {P:Prop} (h:P:=by
 have:(tp c.ef 0 .nil).get id=some o:=ho
 grind [mV,Tr.get]):P:=h
theorem U6 {P:Prop} (h:P:=by
 refine fB (by omega) ?_
 grind):P:=h
theorem aho {P:Prop} (h:P:=by
 rw [h] at ho ⊢;rw [bK,ade];simp only [Q!,zz,hy,ho,iG]
 rfl):P:=h
theorem ahn {P:Prop} (h:P:=by
 exact Dh hj hp hl (fun x hx=>rM x (by simp [hx])) h wa t hg hN V):P:=h
theorem ahm {P:Prop} (h:P:=by
 exact⟨w,by simp [Builtin.clear_,run_underlying hu],fD.refl _ _ _,r⟩):P:=h
theorem ahl {P:Prop} (h:P:=by
 unfold cT;rw [hL]
 conv=>lhs; rw [hsp]
 rw [oG,oG]):P:=h
theorem ahk {P:Prop} (h:P:=by
 obtain⟨s',U⟩:=xW h
 exact Ax hl (fun _ h=>h) U):P:=h
theorem ahj {P:Prop} (h:P:=by
 simp only [CL,zz,c1,ht,c2,c3,c4,c5,c6,h,hw,hz,de,z6]):P:=h
theorem ahi {P:Prop} (h:P:=by
 obtain⟨inf,d,z,U,Z,h3,h4,h5,h6,h7,_⟩:=h.all
 grind [U2]):P:=h
theorem ahh {P:Prop} (h:P:=by
 exact key Mp (fun h=>absurd h.1 (by omega)) (fun _ _ h=>absurd h gl)):P:=h
theorem ahg {P:Prop} (h:P:=by
 simp only [Jn,zz,c0,c1,c2,c3,w,gD,bF,q,r1]
 exact .jump ih):P:=h
theorem ahf {P:Prop} (h:P:=by
 simp only [CL,zz,c1,ht,c2,c3,c4,c7,h,E,hw,hz,de,z6]):P:=h
theorem ahe {P:Prop} (h:P:=by
 simp only [Sp,zz,c1,ht,c2,c3,c4,c7,h,E,hw,hz,de,z6]):P:=h
theorem ahd {P:Prop} (h:P:=by
 simp only [gx,Y.den,gX.den,bG,nY,D.n,hi,rF]):P:=h
theorem ahc {P:Prop} (h:P:=by
 cases o<;>first |exact absurd rfl (hn _ _ _)|simp only [Sem.run,h]):P:=h
theorem ahb {P:Prop} (h:P:=by
 rw [h'];simp only [cM,cV,az,w,fin]
 rw [ih]):P:=h
theorem aha {P:Prop} (h:P:=by
 rw [<- all_cons (p:=Bk d0) (v8.1 (by omega):Bk d0 d0.l[i])]):P:=h
theorem ag9 {P:Prop} (h:P:=by
 obtain⟨ys,h,rfl⟩:=key;refine⟨h,?_⟩;unfold cF df
 grind):P:=h
theorem ag8 {P:Prop} (h:P:=by
 cases d with
 |none=>exact sr
 |some t=>exact sr.put (V t rfl) hv):P:=h
theorem ag7 {P:Prop} (h:P:=by
 simp only [Jn,zz,c0,c1,c2,c3,w,gD,bF,r1]
 exact .jump ih):P:=h
theorem ag6 {P:Prop} (h:P:=by
 simp only [ae0,zz,c1,c2,c3,w,bI dc,bI hid,hn,hS,fin]):P:=h
theorem ag5 {P:Prop} (h:P:=by
 simp only [rJ,Nat.pow_zero,awG,axg] at h
 grind):P:=h
theorem ag4 {P:Prop} (h:P:=by
 split
 ·rename_i h;rw [av9.1 h];rfl
 ·rw [bF]):P:=h
theorem ag3 {P:Prop} (h:P:=by
 rw [bB (n:=m) (by omega)] at hB;have e:=ant C R Lc
 grind):P:=h
theorem ag2 {P:Prop} (h:P:=by
 obtain⟨inf,d,z,U,Z,h3,h4,h5,h6,h7,_⟩:=h.all
 grind):P:=h
theorem ag1 {P:Prop} (h:P:=by
 by_cases Z:(m:Int)=20000
 ·grind
 ·exact .inr ⟨Z,ho⟩):P:=h
theorem j! {P:Prop} (h:P:=by
 exact⟨i,by omega,by omega,rfl⟩):P:=h
theorem ag0 {P:Prop} (h:P:=by
 unfold eU at ho;rw [ag w0] at ho;have:=Z'.R.r.ok.2.1
 grind):P:=h
theorem agZ {P:Prop} (h:P:=by
 exact .jump (ih.c ⟨fun h=> ⟨by simp,h⟩,fun h=>h.2⟩)):P:=h
theorem agY {P:Prop} (h:P:=by
 unfold eU at ho;rw [ag w0] at ho;have:=R.r.ok.2.1
 grind):P:=h
theorem agX {P:Prop} (h:P:=by
 exact⟨_,VJ hp hc,by simp only [SB.den,hc]; exact h⟩):P:=h
theorem agW {P:Prop} (h:P:=by
 exact⟨q1,q2,z,w',by simp [builtin,U],E',Z,h3,h4⟩):P:=h
theorem agV {P:Prop} (h:P:=by
 rcases te hh with U|⟨b,U,Z⟩
 all_goals grind):P:=h
theorem j_ {P:Prop} (h:P:=by
 simp only [Y.den,gX.den,bG]):P:=h
theorem agU {P:Prop} (h:P:=by
 unfold eU at ho;rw [ag w0] at ho;have:=R.ok.2.1
 grind):P:=h
theorem agT {P:Prop} (h:P:=by
 simp [Instr.sliceAt,run_underlying hu,Instr.slice,e1,jv]):P:=h
theorem agS {P:Prop} (h:P:=by
 simp_all [oZ,e9,cC,cM,cV,fin]):P:=h
theorem agR {P:Prop} (h:P:=by
 exact⟨d2.trans d1,z2.trans z1,E2,IX.trans NY,f2⟩):P:=h
theorem agQ {P:Prop} (h:P:=by
 show arr[(E.θ (r.id id)).2+r.wI id+i]?=some u
 grind):P:=h
end Go.As
end
section
namespace Go.As
inductive Tr (α:Type) where
 |nil
 |node (v:Option α) (l r:Tr α)
 deriving Inhabited
noncomputable def Tr.get {α:Type} (t:Tr α) (k:Nat):Option α:=
 Tr.rec (motive:=fun _=>Nat->Option α) (fun _=>none)
  (fun v _ _ il ir k=>Nat.rec (motive:=fun _=>Option α) v (fun k' _=>Bool.rec (motive:=fun _=>Option α) (ir (Nat.div k' 2)) (il (Nat.div k' 2)) (Nat.beq (Nat.mod k' 2) 0)) k) t k
def Tr.val {α:Type}:Tr α->Option α
 | .nil=>none
 | .node v _ _=>v
def Tr.left {α:Type}:Tr α->Tr α
 | .nil=> .nil
 | .node _ l _=>l
def Tr.right {α:Type}:Tr α->Tr α
 | .nil=> .nil
 | .node _ _ r=>r
noncomputable def Tr.mkL {α:Type} (v:Option α) (x r:Tr α):Tr α:=Tr.rec (motive:=fun _=>Tr α) (.node v .nil r) (fun a b c _ _=> .node v (.node a b c) r) x
noncomputable def Tr.mkR {α:Type} (v:Option α) (l x:Tr α):Tr α:=Tr.rec (motive:=fun _=>Tr α) (.node v l .nil) (fun a b c _ _=> .node v l (.node a b c)) x
noncomputable def Tr.Ym {α:Type} (f:Nat):Tr α->Nat->Option α->Tr α:=
 Nat.rec (motive:=fun _=>Tr α->Nat->Option α->Tr α) (fun t _ _=>t)
  (fun _ ih t k x=>Tr.rec (motive:=fun _=>Tr α)
   (Nat.rec (motive:=fun _=>Tr α) (.node x .nil .nil) (fun k' _=>Bool.rec (motive:=fun _=>Tr α) (Tr.mkR none .nil (ih .nil (Nat.div k' 2) x)) (Tr.mkL none (ih .nil (Nat.div k' 2) x) .nil) (Nat.beq (Nat.mod k' 2) 0)) k)
   (fun v l r _ _=>Nat.rec (motive:=fun _=>Tr α) (.node x l r) (fun k' _=>Bool.rec (motive:=fun _=>Tr α) (Tr.mkR v l (ih r (Nat.div k' 2) x)) (Tr.mkL v (ih l (Nat.div k' 2) x) r) (Nat.beq (Nat.mod k' 2) 0)) k) t) f
noncomputable def Tr.put {α:Type} (t:Tr α) (k:Nat) (v:Option α):Tr α:=Tr.Ym (Nat.succ k) t k v
theorem agC (a b:Nat):Nat.beq a b=decide (a=b):=by rw [awb];simp
theorem EH {β:Sort _} (a b:β) (c:Nat):Bool.rec (motive:=fun _=>β) a b (Nat.beq c 0)=if c=0 then b else a:=by
 by_cases h:c=0
 ·subst h; rfl
 ·rw [af h];have:Nat.beq c 0=false:=by rw [agC]; simpa using h
  rw [this]
theorem Tr.qc {α:Type} (v:Option α) (l r:Tr α) (k:Nat) :
 (Tr.node v l r).get k=if k=0 then v else if (k-1) % 2=0 then l.get ((k-1) / 2) else r.get ((k-1) / 2):=by
 cases k with
 |zero=>rfl
 |succ k=> simp only [Nat.add_sub_cancel,Nat.succ_ne_zero,if_false];exact EH _ _ _
theorem Tr.yM {α:Type} (t:Tr α) (k:Nat) :
 t.get k=if k=0 then t.val else if (k-1) % 2=0 then t.left.get ((k-1) / 2) else t.right.get ((k-1) / 2):=by
 cases t with
 |nil=> have h: ∀j,(Tr.nil:Tr α).get j=none:=fun _=>rfl;simp [h,Tr.val,Tr.left,Tr.right]
 |node v l r=>rw [Tr.qc]; rfl
theorem Tr.anq {α:Type} (v:Option α) (x r:Tr α):Tr.mkL v x r= .node v x r:=by cases x<;>rfl
theorem Tr.anp {α:Type} (v:Option α) (l x:Tr α):Tr.mkR v l x= .node v l x:=by cases x<;>rfl
theorem Tr.Yk {α:Type} (f:Nat) (t:Tr α) (v:Option α):Tr.Ym (f+1) t 0 v= .node v t.left t.right:=by cases t<;>rfl
theorem Tr.Yl {α:Type} (f:Nat) (t:Tr α) (k:Nat) (v:Option α):Tr.Ym (f+1) t (k+1) v=if k % 2=0 then .node t.val (Tr.Ym f t.left (k / 2) v) t.right else .node t.val t.left (Tr.Ym f t.right (k / 2) v):=by rw [<- Tr.anq,<- Tr.anp];cases t<;>exact EH _ _ _
theorem Tr.abD {α:Type}: ∀(f:Nat) (t:Tr α) (k:Nat) (v:Option α) (j:Nat),k<f->(Tr.Ym f t k v).get j=if j=k then v else t.get j:=by
 intro f
 induction f with
 |zero=>intro t k v j hk; omega
 |succ f ih=>
  intro t k v j hk
  cases k with
  |zero=> rw [Tr.Yk,Tr.qc,Tr.yM t];split<;>simp_all
  |succ k=>
   rw [Tr.Yl,Tr.yM t j];split
   ·rename_i h;rw [Tr.qc];by_cases hj:j=0
    ·subst hj; simp
    ·rw [af hj,af hj];by_cases Z:(j-1) % 2=0
     ·rw [ag Z,ag Z,ih _ _ _ _ J];by_cases h3:j=k+1
      ·subst h3; simp
      ·rw [af h3,af J]
     ·rw [af Z,af Z,af (by intro h3; subst h3; simp at Z; omega)]
   ·rename_i h;rw [Tr.qc];by_cases hj:j=0
    ·subst hj; simp
    ·rw [af hj,af hj];by_cases Z:(j-1) % 2=0
     ·rw [ag Z,ag Z,af (by intro h3; subst h3; simp at Z; omega)]
     ·rw [af Z,af Z,ih _ _ _ _ J];by_cases h3:j=k+1
      ·subst h3; simp
      ·rw [af h3,af J]
theorem Tr.bR {α:Type} (t:Tr α) (k:Nat) (v:Option α) (j:Nat):(t.put k v).get j=if j=k then v else t.get j:=
 Tr.abD (Nat.succ k) t k v j (Nat.lt_succ_self _)
inductive D where
 |i (n:Int)
 |p (a b:D)
 deriving DecidableEq,Inhabited
def zN:Int->Nat
 | .ofNat n=>2*n
 | .negSucc n=>2*n+1
theorem q? {a b:Int} (h:zN a=zN b):a=b:=by
 cases a<;>cases b<;>simp only [zN] at h
 all_goals grind
def rJ (a b:Nat):Nat:=2 ^ a*(2*b+1)
theorem C6: ∀{a a' b b':Nat},rJ a b=rJ a' b'->a=a'/\b=b'
 |0,0,b,b',h=>by simp only [rJ,Nat.pow_zero,awG] at h; omega
 |0,a'+1,b,b',h=>by exact ag5
 |a+1,0,b,b',h=>by exact ag5
 |a+1,a'+1,b,b',h=>by
  have U:2 ^ (a+1)*(2*b+1)=2*rJ a b:=by unfold rJ; rw [axg,axh (2 ^ a) 2,Nat.mul_assoc]
  have Z:2 ^ (a'+1)*(2*b'+1)=2*rJ a' b':=by unfold rJ; rw [axg,axh (2 ^ a') 2,Nat.mul_assoc]
  have h3:rJ a b=rJ a' b':=by
   have:rJ (a+1) b=rJ (a'+1) b':=h;unfold rJ at this
   grind
  obtain⟨e1,e2⟩:=C6 h3
  grind
def D.enc:D->Nat
 | .i n=>2*zN n
 | .p a b=>2*rJ a.enc b.enc+1
theorem D.fY: ∀{a b:D},a.enc=b.enc->a=b
 | .i n,.i m,h=>by simp only [D.enc] at h;rw [q? (a:=n) (b:=m) J]
 | .i n,.p a b,h=>by simp only [D.enc] at h; omega
 | .p a b,.i n,h=>by simp only [D.enc] at h; omega
 | .p a b,.p c d,h=>by simp only [D.enc] at h;obtain⟨U,Z⟩:=C6 (a:=a.enc) (b:=b.enc) (a':=c.enc) (b':=d.enc) J;rw [D.fY U,D.fY Z]
open Classical in
noncomputable def dec (z:Int):D:=if h: ∃d:D,(d.enc:Int)=z then h.choose else .i 0
def enc (d:D):Int:=(d.enc:Int)
theorem bG (d:D):dec (enc d)=d:=by unfold dec;have h: ∃d':D,(d'.enc:Int)=enc d:=⟨d,rfl⟩;rw [dif_pos h];have:=h.choose_spec;apply D.fY;unfold enc at this;exact Int.ofNat.inj this
theorem fY {a b:D} (h:enc a=enc b):a=b:=by rw [<- bG a,h,bG]
def D.n:D->Int
 | .i n=>n
 | .p _ _=>0
def D.l:D->List D
 | .i _=>[]
 | .p a b=>a::b.l
def dL:List D->D
 |[]=> .i 0
 |a::l=> .p a (dL l)
@[simp] theorem bF: ∀l:List D,(dL l).l=l
 |[]=>rfl
 |a::l=>by simp [dL,D.l,bF l]
theorem Ie {a b:List D} (h:dL a=dL b):a=b:=by rw [<- bF a,h,bF]
def D.at (d:D) (i:Int):D:=(d.l[i.toNat]?).getD (.i 0)
def D.V (d:D) (j:Nat):D:=(d.l[j]?).getD (.i 0)
section
variable {d:D}
def si (l:List UInt8):D:=dL (l.map fun b=> .i (b.toNat:Int))
def wF (s:ByteArray):D:=si s.data.toList
def mc (l:List Nat):D:=dL (l.map fun b=> .i (Int.ofNat b))
theorem UE {a b:List UInt8} (h:si a=si b):a=b:=by
 have:=Ie h
 have PE: ∀{x y:UInt8},(D.i (x.toNat:Int))= .i (y.toNat:Int)->x=y:=by intro x y h;simp only [D.i.injEq,awH] at h;exact UInt8.toNat_inj.1 h
 induction a generalizing b with
 |nil=>cases b with
  |nil=>rfl
  |cons y b=>simp at this
 |cons x a ih=>cases b with
  |nil=>simp at this
  |cons y b=> simp only [aF,List.cons.injEq] at this;rw [PE this.1,ih (by unfold si; rw [this.2]) this.2]
theorem Ia {a b:ByteArray} (h:wF a=wF b):a=b:=by
 have:=UE h
 cases a with
 |mk x=>cases b with
  |mk y=>simp only [ByteArray.mk.injEq] at *; exact Array.toList_inj.1 this
theorem Ca (l:List Nat) (h: ∀b∈l,b<256):mc l=si (l.map UInt8.ofNat):=by unfold mc si;congr 1;rw [awg];apply awp;intro b hb;have:=h b hb;simp [awh this]
theorem adM (s:ByteArray):(wF s).l.length=s.size:=by unfold wF si;rw [bF,bc];rfl
inductive gX where
 |len
 |at
 |cell (j:Nat)
 |num
 |mk
 |cons
 |snoc
 |cat
 |take
 |drop
 |set
 |bit
 |norm
 |sub
 |fill
 |idx
 |cnt
 |con
 |slt
 |EX
 |EY
 |zh
 |Tc
 |rep
 deriving DecidableEq,Inhabited
def gq (d:D) (l:List D):D:=match l with
 |[]=>if d= .i 1 then .i 1 else .i 2
 |l=>dL l
theorem bQ (d:D) (l:List D):(gq d l).l=l:=by
 cases l with
 |nil=>simp only [gq]; split<;>rfl
 |cons a l=>simp [gq]
theorem B9 {l:List D} (h:l≠[]):gq d l=dL l:=by
 cases l with
 |nil=>exact absurd rfl h
 |cons a l=>rfl
theorem uL (h:d≠.i 1):gq d []= .i 2:=by
 show (if d= .i 1 then D.i 1 else D.i 2)= .i 2
 grind
theorem Zg (h:d≠.i 1) (l:List D):gq d l≠.i 1:=by
 cases l with
 |nil=>rw [uL h]; simp
 |cons a l=>simp [gq,dL]
theorem AI {l m:List D} (h:d= .i 1->l= []):gq (gq d l) m=gq d m:=by
 cases m with
 |cons a m=>rfl
 |nil=>
  by_cases U:d= .i 1
  ·rw [h U,U]; rfl
  ·rw [uL U,uL (Zg U l)]
def s8 (z:Int):List D->Int->Int
 |[],_=> -1
 |d::l,i=>match d with
  | .i n=>if n=z then i else s8 z l (i+1)
  |_=>s8 z l (i+1)
def Ig (l:List D) (z:Int):Int:=s8 z l 0
def DC:List D->List D->Bool
 |[],_=>true
 |_::_,[]=>false
 |a::x,b::y=>decide (a=b)&&DC x y
def Cb (l x:List D):Bool:=match l with
 |[]=>DC x []
 |a::l=>DC x (a::l)||Cb l x
def adQ (l:List D) (z:Int):Int:=match l with
 |[]=>0
 |d::l=>(if d= .i z then 1 else 0)+adQ l z
def QV:List D->List D->Bool
 |[],[]=>false
 |[],_::_=>true
 |_::_,[]=>false
 |a::x,b::y=>if a.n<b.n then true else if b.n<a.n then false else QV x y
def dC (ds:List D) (z:Int) (x:D):List D:=if z<0 then ds else ds.set z.toNat x
theorem eF (ds:List D) (z:Int) (x:D):(dC ds z x).length=ds.length:=by
 unfold dC; split
 all_goals grind
theorem rF (ds:List D) (k:Nat) (x:D):dC ds (k:Int) x=ds.set k x:=by unfold dC; rw [af J]; rfl
def UD:D->D
 | .p k _=>k
 |d=>d
def adL:D->D
 | .p _ v=>v
 |d=>d
def lG:List D->D->Option D
 |[],_=>none
 |d::l,k=>if UD d=k then some (adL d) else lG l k
def wA:List D->D->D->List D
 |[],k,v=>[.p k v]
 |d::l,k,v=>if UD d=k then .p k v::l else d::wA l k v
def L3:List D->D->List D
 |[],_=>[]
 |d::l,k=>if UD d=k then l else d::L3 l k
noncomputable def gX.den (o:gX) (x y:Int):Int:=match o with
 | .len=>((dec x).l.length:Int)
 | .at=>enc ((dec x).at y)
 | .cell j=>enc ((dec x).V j)
 | .num=>(dec x).n
 | .mk=>enc (.i x)
 | .cons=>enc (.p (dec x) (dec y))
 | .snoc=>enc (dL ((dec x).l++ [dec y]))
 | .cat=>enc (dL ((dec x).l++(dec y).l))
 | .take=>enc (gq (dec x) ((dec x).l.take y.toNat))
 | .drop=>enc (gq (dec x) ((dec x).l.drop y.toNat))
 | .set=>match dec y with
   | .p q v=>enc (dL (dC (dec x).l q.n v))
   |_=>x
 | .bit=>enc (.i (if (dec x).n=0 then 0 else 1))
 | .norm=>enc (dec x)
 | .sub=>enc (dL (((dec x).l.take ((dec y).V 1).n.toNat).drop ((dec y).V 0).n.toNat))
 | .fill=>match dec y with
   | .p q v=>enc (dL ((dec x).l.take q.n.toNat++List.replicate ((dec x).l.length-q.n.toNat) v))
   |_=>x
 | .idx=>Ig (dec x).l y
 | .cnt=>adQ (dec x).l y
 | .con=>if Cb (dec x).l (dec y).l then 1 else 0
 | .slt=>if QV (dec x).l (dec y).l then 1 else 0
 | .EX=>if (lG (dec x).l (dec y)).isSome then 1 else 0
 | .EY=>enc ((lG (dec x).l (dec y)).getD (.i 0))
 | .zh=>match dec y with
   | .p k v=>enc (dL (wA (dec x).l k v))
   |_=>x
 | .Tc=>enc (dL (L3 (dec x).l (dec y)))
 | .rep=>enc (dL (List.replicate x.toNat (dec y)))
def gX.tag:gX->Nat
 | .len=>0
 | .at=>1
 | .cell j=>j+23
 | .num=>2
 | .mk=>3
 | .cons=>4
 | .snoc=>5
 | .cat=>6
 | .take=>7
 | .drop=>8
 | .set=>9
 | .bit=>10
 | .norm=>11
 | .sub=>12
 | .fill=>13
 | .idx=>14
 | .cnt=>15
 | .con=>16
 | .slt=>17
 | .EX=>18
 | .EY=>19
 | .zh=>20
 | .Tc=>21
 | .rep=>22
theorem gX.aeS {a b:gX} (h:a.tag=b.tag):a=b:=by
 cases a<;>cases b<;>simp only [gX.tag] at h<;>first |rfl|(congr 1; omega)|omega
inductive CK where
 |int (k:IntKind)
 |bool
 |str
 |sl (t:Nat)
 deriving DecidableEq,Inhabited
inductive Row where
 |one (c:CK)
 |many (cs:List CK)
 deriving DecidableEq,Inhabited
def Row.es:Row->Nat
 | .one _=>1
 | .many cs=>cs.length
def rowOf (t:Nat):Row:=match t with
 |0=> .one (.int .i64)
 |1=> .one (.int .i64)
 |2=> .one .str
 |3=> .many [.int .u8,.str,.int .i64,.str,.int .i64]
 |4=> .many [.str,.sl 2,.sl 5]
 |5=> .many [.int .u8,.int .u8,.int .i64,.int .i64,.int .i64,.int .i64,.sl 6]
 |6=> .many [.int .u8,.str,.int .i64,.sl 6]
 |7=> .many [.int .i64,.int .i64,.bool,.int .i64,.sl 0,.sl 0]
 |8=> .many [.int .i64,.sl 0,.int .u8,.int .i64,.int .i64,.int .i64]
 |9=> .many [.int .i64,.int .u8,.int .i64,.int .i64,.int .i64]
 |10=> .one (.sl 0)
 |11=> .many [.int .i64,.int .i64,.int .i64]
 |12=> .many [.int .i64,.int .i64]
 |13=> .many [.int .i64,.int .u8,.int .i64,.int .i64,.int .i64]
 |14=> .one (.int .u8)
 |15=> .one (.sl 0)
 |16=> .many [.sl 7,.sl 8]
 |_=> .one .bool
def mapOf (t:Nat):CK×CK:=match t with
 |0=>(.int .i64,.int .i64)
 |1=>(.str,.int .i64)
 |2=>(.int .i64,.sl 0)
 |_=>(.int .i64,.bool)
def sD (c:CK) (d:D):Prop:=match c with
 | .int _=>d= .i d.n
 | .bool=>d= .i 0\/d= .i 1
 |_=>True
def NN (cs:List CK) (d:D):Prop:=d=dL d.l/\d.l.length=cs.length/\∀(j:Nat) (c:CK) (x:D),cs[j]?=some c->d.l[j]?=some x->sD c x
def sC (r:Row) (d:D):Prop:=match r with
 | .one c=>sD c d
 | .many cs=>NN cs d
def yd (r:Row) (d:D):Prop:=d=dL d.l/\(∀x∈d.l,sC r x)/\d.l≠[]
end
end Go.As
end
section
namespace Go.As
noncomputable section
inductive Y where
 |lit (n:Int)
 |dN (i:Nat)
 |add (a b:Y)
 |sub (a b:Y)
 |mul (a b:Y)
 |quo (a b:Y)
 |rem (a b:Y)
 |wrap (k:IntKind) (a:Y)
 |zG (b:Nat) (e:Y)
 |eW (d:D)
 |op (o:gX) (a b:Y)
 |ap (f:Nat) (a:Y)
 deriving DecidableEq,Inhabited
def jQ (f:Nat) (z:Int):Nat:=1000+rJ f (zN z)*64+63
noncomputable def Y.den (ρ:Nat->Int):Y->Int
 | .lit n=>n
 | .dN i=>ρ i
 | .add a b=>a.den ρ+b.den ρ
 | .sub a b=>a.den ρ-b.den ρ
 | .mul a b=>a.den ρ*b.den ρ
 | .quo a b=>(a.den ρ).tdiv (b.den ρ)
 | .rem a b=>(a.den ρ).tmod (b.den ρ)
 | .wrap k a=>k.wrap (a.den ρ)
 | .zG b e=>ρ (1000+(e.den ρ).toNat*64+b)
 | .eW d=>enc d
 | .op o a b=>o.den (a.den ρ) (b.den ρ)
 | .ap f a=>ρ (jQ f (a.den ρ))
def xu:Int->Int->Bool
 | .ofNat a,.ofNat b=>Nat.beq a b
 | .negSucc a,.negSucc b=>Nat.beq a b
 |_,_=>false
def D.eqb:D->D->Bool
 | .i a,.i b=>xu a b
 | .p a b,.p c d=>match D.eqb a c with |true=>D.eqb b d|false=>false
 |_,_=>false
theorem yH {a b:Int} (h:xu a b=true):a=b:=by cases a<;>cases b<;>simp [xu] at h<;>rw [h]
theorem D.Uj: ∀{a b:D},D.eqb a b=true->a=b
 | .i a,.i b,h=>by simp only [D.eqb] at h; rw [yH h]
 | .p a b,.p c d,h=>by
   simp only [D.eqb] at h;split at h
   ·rename_i U; rw [D.Uj U,D.Uj h]
   grind
 | .i _,.p _ _,h=>by simp [D.eqb] at h
 | .p _ _,.i _,h=>by simp [D.eqb] at h
def fQ:Y->Y->Bool
 | .lit a,.lit b=>a == b
 | .dN i,.dN j=>Nat.beq i j
 | .add a b,.add c d=>match fQ a c with |true=>fQ b d|false=>false
 | .sub a b,.sub c d=>match fQ a c with |true=>fQ b d|false=>false
 | .mul a b,.mul c d=>match fQ a c with |true=>fQ b d|false=>false
 | .quo a b,.quo c d=>match fQ a c with |true=>fQ b d|false=>false
 | .rem a b,.rem c d=>match fQ a c with |true=>fQ b d|false=>false
 | .wrap k a,.wrap l b=>match fQ a b with |true=>decide (k=l)|false=>false
 | .zG i a,.zG j b=>match Nat.beq i j with |true=>fQ a b|false=>false
 | .eW a,.eW b=>D.eqb a b
 | .op o a b,.op q c d=>match Nat.beq o.tag q.tag with
   |true=>match fQ a c with |true=>fQ b d|false=>false
   |false=>false
 | .ap f a,.ap g b=>match Nat.beq f g with |true=>fQ a b|false=>false
 |_,_=>false
theorem dk: ∀(a b:Y),fQ a b=true->a=b
 | .lit a,b,h=>by cases b<;>simp [fQ] at h; rw [h]
 | .dN i,b,h=>by cases b<;>simp [fQ] at h; rw [h]
 | .add a b,c,h=>by cases c<;>simp only [fQ,aR] at h; split at h<;>first |(rename_i U; rw [dk _ _ U,dk _ _ h]; done)|simp at h
 | .sub a b,c,h=>by cases c<;>simp only [fQ,aR] at h; split at h<;>first |(rename_i U; rw [dk _ _ U,dk _ _ h]; done)|simp at h
 | .mul a b,c,h=>by cases c<;>simp only [fQ,aR] at h; split at h<;>first |(rename_i U; rw [dk _ _ U,dk _ _ h]; done)|simp at h
 | .quo a b,c,h=>by cases c<;>simp only [fQ,aR] at h; split at h<;>first |(rename_i U; rw [dk _ _ U,dk _ _ h]; done)|simp at h
 | .rem a b,c,h=>by cases c<;>simp only [fQ,aR] at h; split at h<;>first |(rename_i U; rw [dk _ _ U,dk _ _ h]; done)|simp at h
 | .wrap k a,c,h=>by cases c<;>simp only [fQ,aR] at h; split at h<;>first |(rename_i U; rw [dk _ _ U,of_decide_eq_true h]; done)|simp at h
 | .zG i a,c,h=>by cases c<;>simp only [fQ,aR] at h; split at h<;>first |(rename_i U; rw [ay U,dk _ _ h]; done)|simp at h
 | .eW a,c,h=>by cases c<;>simp only [fQ,aR] at h; rw [D.Uj h]
 | .op o a b,c,h=>by
   cases c<;>simp only [fQ,aR] at h;split at h
   ·rename_i h0;split at h
    ·rename_i U;rw [gX.aeS (ay h0),dk _ _ U,dk _ _ h]
    grind
   grind
 | .ap f a,c,h=>by cases c<;>simp only [fQ,aR] at h; split at h<;>first |(rename_i U; rw [ay U,dk _ _ h]; done)|simp at h
inductive SB where
 |lit (b:Bool)
 |lt (a b:Y)
 |le (a b:Y)
 |eq (a b:Y)
 |not (s:SB)
 |and (a b:SB)
 deriving DecidableEq,Inhabited
noncomputable def SB.den (ρ:Nat->Int):SB->Bool
 | .lit b=>b
 | .lt a b=>decide (a.den ρ<b.den ρ)
 | .le a b=>decide (a.den ρ<=b.den ρ)
 | .eq a b=>a.den ρ == b.den ρ
 | .not s=>!(s.den ρ)
 | .and a b=>a.den ρ&&b.den ρ
def xI (k:IntKind) (n:Int):Int:=
 match k with
 | .i64=>if -9223372036854775808<=n/\n<=9223372036854775807 then n else k.wrap n
 | .u8=>if 0<=n/\n<=255 then n else k.wrap n
 |_=>k.wrap n
inductive U5 where
 |exact (c:Nat)
 |rest (es:Nat)
 deriving DecidableEq,Inhabited
inductive AV where
 |bool (b:SB)
 |int (k:IntKind) (e:Y)
 |str (s:List Nat)
 |ptr (id off:Nat)
 |wz
 |pe (cells:List AV)
 |slice (id off len:Nat) (c:U5)
 |ij
 |ro (cells:List AV) (n:Nat) (full:Bool)
 |map (id:Nat)
 |vf
 |func (fn:Fn) (fs cs:List AV)
 |zf
 |iface (t:Nat) (v:AV)
 |Aq
 |agg (cs:List AV)
 |tuple (vs:List AV)
 |O8 (i:Nat)
 |zG (k:Nat) (ks:List IntKind)
 |eW (e:Y) (t:Nat)
 |kZ (e:Y)
 |sG (id:Nat) (n:Y) (t:Nat)
 |B6 (id es:Nat) (i:Y) (off:Nat)
 |emp
 |wH (id:Nat) (lo n:Y) (t:Nat)
 |any
 |AX (z:Y) (t:Nat)
 deriving Inhabited
def AV.undef:AV:=.tuple []
def AV.cells:AV->List AV
 | .agg cs=>cs
 |v=>[v]
def AV.one:AV->Bool
 | .agg _=>false
 | .tuple _=>false
 | .O8 _=>false
 | .any=>false
 |_=>true
inductive eN where
 |cells (cs:List AV) (e:TypeId)
 |map (es:List (AV×AV×Nat)) (clock:Nat)
 |l4 (s:List Nat) (pos:Nat)
 |vec (e:Y) (t:Nat) (ty:TypeId) (ov:List (Y×List AV))
 |mB (e:Y) (t:Nat)
 deriving Inhabited
structure Hp where
 m:Tr eN
 next:Nat
 res:Option Nat:=none
 deriving Inhabited
def Hp.get (h:Hp) (i:Nat):Option eN:=h.m.get i
def Hp.put (h:Hp) (i:Nat) (o:eN):Hp:=⟨h.m.put i (some o),h.next,h.res⟩
def Hp.drop (h:Hp) (i:Nat):Hp:=⟨h.m.put i none,h.next,h.res⟩
def Hp.fresh (h:Hp):Nat:=match h.res with
 |none=>h.next
 |some r=>r
def Hp.new (h:Hp) (o:eN):Hp:=match h.res with
 |none=> ⟨h.m.put h.next (some o),h.next+1,none⟩
 |some r=> ⟨h.m.put r (some o),h.next,none⟩
inductive T (α:Type) where
 |fail
 |ret (a:α)
 |split (c:SB) (t f:T α)
 deriving Inhabited
def T.bind {α β:Type}:T α->(α->T β)->T β
 | .fail,_=> .fail
 | .ret a,f=>f a
 | .split c x y,f=> .split c (x.bind f) (y.bind f)
def T.leaf {α:Type} (ρ:Nat->Int):T α->Option α
 | .fail=>none
 | .ret a=>some a
 | .split c x y=>match c.den ρ with
   |true=>x.leaf ρ
   |false=>y.leaf ρ
inductive TK where
 |bool
 |int (k:IntKind)
 |string
 |pointer (e:Nat)
 |slice (e:Nat)
 |array (n e:Nat)
 |map (k e:Nat)
 |struct (fs:List (Nat×Nat×Nat))
 |func
 |iface (plain:Bool)
 |tuple
 deriving DecidableEq,Inhabited
structure TI where
 kind:TK
 size:Nat
 bytes:Nat
 zero:List AV
 eqs:Bool
 own:Option Nat:=none
 deriving Inhabited
def TK.agg (k:TK):Bool:=match k with | .struct _=>true| .array _ _=>true|_=>false
def TI.agg (i:TI):Bool:=i.kind.agg
abbrev TT:=Nat->Option TI
def bytesOf (s:ByteArray):List Nat:=s.data.toList.map (·.toNat)
def ig:Value->Option AV
 | .bool b=>some (.bool (.lit b))
 | .int k n=>some (.int k (.lit n))
 | .string s=>some (.str (bytesOf s))
 | .pointer none=>some .wz
 | .slice none 0 0=>some .ij
 | .map none=>some .vf
 | .nilFunc=>some .zf
 | .nilIface=>some .Aq
 | .func fn f c=>if f.isEmpty&&c.isEmpty then some (.func fn [] []) else none
 |_=>none
def lV:List Value->Option (List AV)
 |[]=>some []
 |v::vs=>match ig v with
  |none=>none
  |some a=>match lV vs with
   |none=>none
   |some avS=>some (a::avS)
def ofConst:Value->Option AV
 | .agg cs=>(lV cs.toList).map .agg
 | .tuple vs=>(lV vs.toList).map .tuple
 |v=>ig v
def xh (a b:Y):SB:=match fQ a b with
 |true=> .lit true
 |false=>match a with
  | .eW _=> .eq b a
  |_=> .eq a b
def Jy (x:Y):Y:=match x with
 | .op o a _=>match o with
   | .mk=>a
   |_=> .op .num x (.lit 0)
 | .eW d=>match d with
   | .i n=> .lit n
   |_=> .op .num x (.lit 0)
 |_=> .op .num x (.lit 0)
def CR (x:Y):Y:=match x with
 | .lit n=> .eW (.i n)
 |x=> .op .mk x (.lit 0)
def lA (j:Nat) (x:Y):Y:=match x with
 | .op o a b=>match o with
   | .cons=>match j with
     |0=>a
     |j+1=>lA j b
   |_=> .op (.cell j) x (.lit 0)
 |_=> .op (.cell j) x (.lit 0)
def eD (x:Y):Y:=match x with
 | .op o a _=>match o with
   | .set=>eD a
   |_=> .op .len x (.lit 0)
 | .eW d=> .lit (Int.ofNat d.l.length)
 |_=> .op .len x (.lit 0)
def gx (a b:Y):Y:=.op .cons a b
def Tq (x:Y):Bool:=match x with
 | .eW d=>match d with
   | .i n=>xu n 0
   |_=>false
 |_=>false
def vQ (c:CK) (x:Y):AV:=match c with
 | .int k=> .int k (Jy x)
 | .bool=> .bool (.not (.eq (Jy x) (.lit 0)))
 | .str=> .kZ x
 | .sl t=> .eW x t
def jP:List CK->Nat->Y->List AV
 |[],_,_=>[]
 |c::cs,j,x=>vQ c (lA j x)::jP cs (j+1) x
def iu (r:Row) (x:Y):List AV:=match r with
 | .one c=>[vQ c x]
 | .many cs=>jP cs 0 x
def pb (x:Y):Y:=match x with
 | .eW d=> .eW d
 | .op o a b=>match o with
   | .cell j=> .op (.cell j) a b
   | .at=> .op .at a b
   |o=> .op .norm (.op o a b) (.lit 0)
 |x=> .op .norm x (.lit 0)
def vY:AV->Option Y
 | .str l=>some (.eW (mc l))
 | .kZ e=>some e
 |_=>none
def DV (x y:AV):Option SB:=match vY x with
 |none=>none
 |some a=>match vY y with
  |none=>none
  |some b=>some (xh (pb a) (pb b))
def pE (c:CK) (v:AV):Option Y:=match c with
 | .int k=>match v with
   | .int k' e=>if k=k' then some (CR e) else none
   |_=>none
 | .bool=>match v with
   | .bool c=>match c with
     | .lit b=>some (.eW (.i (if b then 1 else 0)))
     | .not d=>match d with
       | .eq x z=>match z with
         | .lit n=>if n=0 then some (.op .bit (CR x) (.lit 0)) else none
         |_=>none
       |_=>none
     |_=>none
   |_=>none
 | .str=>vY v
 | .sl t=>match v with
   | .eW e t'=>if t=t' then some e else none
   | .ij=>some (.eW (.i 1))
   | .AX z t'=>if t=t' then some z else none
   | .slice _ _ n _=>match n with
     |0=>some (.eW (.i 2))
     |_=>none
   |_=>none
def jO:List CK->List AV->Option Y
 |[],[]=>some (.eW (.i 0))
 |c::cs,v::vs=>match pE c v with
  |none=>none
  |some a=>match jO cs vs with
   |none=>none
   |some b=>some (gx a b)
 |_,_=>none
def s9 (r:Row) (cs:List AV):Option Y:=match r with
 | .one c=>match cs with
   |[v]=>pE c v
   |_=>none
 | .many ks=>jO ks cs
def mL (r:Row) (e:Y):Nat->List AV->Option Y
 |0,[]=>some e
 |0,_::_=>none
 |m+1,cs=>match s9 r (cs.take r.es) with
  |none=>none
  |some x=>mL r (.op .snoc e x) m (cs.drop r.es)
structure St where
 bC:Tr AV
 h:Hp
 pc:List (SB×Bool)
 deriving Inhabited
def St.set (s:St) (t:Nat) (v:AV):St:={ s with bC:=s.bC.put t (some v) }
def St.OM (s:St) (d:Option Nat) (v:AV):St:=match d with |some t=>s.set t v|none=>s
def ev (s:St):Operand->Option AV
 | .tmp t=>s.bC.get t
 | .const v=>ofConst v
 | .func f=>some (.func (.func f) [] [])
 | .global _=>none
def evs (s:St):List Operand->Option (List AV)
 |[]=>some []
 |x::xs=>match ev s x with
  |none=>none
  |some a=>match evs s xs with
   |none=>none
   |some avS=>some (a::avS)
def qv:SB->SB->Bool
 | .lit a,.lit b=>a == b
 | .lt a b,.lt c d=>match fQ a c with |true=>fQ b d|false=>false
 | .le a b,.le c d=>match fQ a c with |true=>fQ b d|false=>false
 | .eq a b,.eq c d=>match fQ a c with |true=>fQ b d|false=>false
 | .not a,.not b=>qv a b
 | .and a b,.and c d=>match qv a c with |true=>qv b d|false=>false
 |_,_=>false
theorem uq: ∀(a b:SB),qv a b=true->a=b
 | .lit a,b,h=>by cases b<;>simp [qv] at h; rw [h]
 | .lt a b,c,h=>by cases c<;>simp only [qv,aR] at h; split at h<;>first |(rename_i U; rw [dk _ _ U,dk _ _ h]; done)|simp at h
 | .le a b,c,h=>by cases c<;>simp only [qv,aR] at h; split at h<;>first |(rename_i U; rw [dk _ _ U,dk _ _ h]; done)|simp at h
 | .eq a b,c,h=>by cases c<;>simp only [qv,aR] at h; split at h<;>first |(rename_i U; rw [dk _ _ U,dk _ _ h]; done)|simp at h
 | .not a,c,h=>by cases c<;>simp only [qv,aR] at h; rw [uq _ _ h]
 | .and a b,c,h=>by cases c<;>simp only [qv,aR] at h; split at h<;>first |(rename_i U; rw [uq _ _ U,uq _ _ h]; done)|simp at h
def pg (c:SB):List (SB×Bool)->Option Bool
 |[]=>none
 |(d,b)::l=>match qv c d with
  |true=>some b
  |false=>pg c l
def aaM (a:Option Int) (z:Int):Option Int:=match a with
 |none=>some z
 |some y=>some (if y<z then z else y)
def aaK (a:Option Int) (z:Int):Option Int:=match a with
 |none=>some z
 |some y=>some (if z<y then z else y)
def aaw (a:Option Int) (z:Int):Option Int:=match a with
 |none=>none
 |some y=>some (if y=z then z+1 else y)
def aay (a:Option Int) (z:Int):Option Int:=match a with
 |none=>none
 |some y=>some (if y=z then z-1 else y)
def Xq (e:Y):Option Int×Option Int:=match e with
 | .rem a c=>match c with
   | .lit k=>match a with
     | .add b d=>match d with
       | .lit m=>match b with
         | .rem _ f=>match f with
           | .lit n=>if 0<n/\n=m/\m=k then (some 0,some (n-1)) else (none,none)
           |_=>(none,none)
         |_=>(none,none)
       |_=>(none,none)
     |_=>(none,none)
   |_=>(none,none)
 | .op o _ _=>match o with
   | .len=>(some 0,none)
   |_=>(none,none)
 |_=>(none,none)
def bounds (e:Y):List (SB×Bool)->Option Int×Option Int
 |[]=>Xq e
 |(c,v)::l=>match c with
  | .lt x y=>match x with
    | .lit z=>match fQ y e with
      |false=>bounds e l
      |true=>match bounds e l with
       |(lo,hi)=>match v with
        |true=>(aaM lo (z+1),hi)
        |false=>(lo,aaK hi z)
    |x=>match y with
     | .lit z=>match fQ x e with
       |false=>bounds e l
       |true=>match bounds e l with
        |(lo,hi)=>match v with
         |true=>(lo,aaK hi (z-1))
         |false=>(aaM lo z,hi)
     |_=>bounds e l
  | .eq x y=>match y with
    | .lit z=>match v with
      |false=>match fQ x e with
       |false=>bounds e l
       |true=>match bounds e l with
        |(lo,hi)=>(aaw lo z,aay hi z)
      |true=>match fQ x e with
       |false=>bounds e l
       |true=>(some z,some z)
    |_=>bounds e l
  |_=>bounds e l
def tb (e:Y) (pc:List (SB×Bool)):Option Int×Option Int:=match e with
 | .wrap k s=>match k with
   | .i64=>match s with
     | .add b d=>match d with
       | .lit c=>match bounds b pc with
         |(some lo,some hi)=>if -9223372036854775808<=lo+c/\hi+c<=9223372036854775807 then (match bounds e pc with
          |(l2,Z)=>(aaM l2 (lo+c),aaK Z (hi+c))) else bounds e pc
         |_=>bounds e pc
       |_=>bounds e pc
     |_=>bounds e pc
   |_=>bounds e pc
 |_=>bounds e pc
def VY (a b:Y) (pc:List (SB×Bool)):Option Bool:=match pg (.eq a b) pc with
 |some v=>some v
 |none=>pg (.eq b a) pc
def decLt (pc:List (SB×Bool)) (a b:Y):Option Bool:=match pg (.lt a b) pc with
 |some v=>some v
 |none=>match a with
  | .lit z=>match tb b pc with
    |(lo,hi)=>match lo with
     |some l=>if z<l then some true else match hi with
      |some h=>if h<=z then some false else none
      |none=>none
     |none=>match hi with
      |some h=>if h<=z then some false else none
      |none=>none
  |a=>match b with
   | .lit z=>match tb a pc with
     |(lo,hi)=>match hi with
      |some h=>if h<z then some true else match lo with
       |some l=>if z<=l then some false else none
       |none=>none
      |none=>match lo with
       |some l=>if z<=l then some false else none
       |none=>none
   |b=>match VY a b pc with
    |some true=>some false
    |some false=>match pg (.lt b a) pc with
     |some v=>some !v
     |none=>none
    |none=>match pg (.lt b a) pc with
     |some true=>some false
     |_=>none
def decEq (pc:List (SB×Bool)) (a b:Y):Option Bool:=match VY a b pc with
 |some v=>some v
 |none=>match b with
  | .lit z=>match tb a pc with
    |(lo,hi)=>match lo with
     |some l=>if z<l then some false else match hi with
      |some h=>if h<z then some false else if l=z/\h=z then some true else none
      |none=>none
     |none=>match hi with
      |some h=>if h<z then some false else none
      |none=>none
  |b=>match pg (.lt a b) pc with
   |some true=>some false
   |some false=>match pg (.lt b a) pc with
    |some v=>some !v
    |none=>none
   |none=>match pg (.lt b a) pc with
    |some true=>some false
    |_=>none
def FN (pc:List (SB×Bool)) (c:SB):Option Bool:=
 match c with
 | .lit b=>some b
 | .lt a b=>decLt pc a b
 | .eq a b=>decEq pc a b
 |c=>pg c pc
def lq (pc:List (SB×Bool)) (c:SB):Option Bool:=
 match c with
 | .not s=>(FN pc s).map (!·)
 |c=>FN pc c
def mA {α:Type} (s:St) (c:SB) (f:St->Bool->T α):T α:=
 match lq s.pc c with
 |some b=>f s b
 |none=>match c with
  | .not d=> .split d (f { s with pc:=(d,true)::s.pc } false) (f { s with pc:=(d,false)::s.pc } true)
  |c=> .split c (f { s with pc:=(c,true)::s.pc } true) (f { s with pc:=(c,false)::s.pc } false)
def Y? (k:IntKind):Y->Y->Y
 | .lit x,.lit y=> .lit (xI k (x+y))
 |a,b=> .wrap k (.add a b)
def Vy (k:IntKind):Y->Y->Y
 | .lit x,.lit y=> .lit (xI k (x-y))
 |a,b=> .wrap k (.sub a b)
def Y! (k:IntKind):Y->Y->Y
 | .lit x,.lit y=> .lit (xI k (x*y))
 |a,b=> .wrap k (.mul a b)
def iV:Y->Y->SB
 | .lit x,.lit y=> .lit (decide (x<y))
 |a,b=> .lt a b
def afe:Y->Y->SB
 | .lit x,.lit y=> .lit (decide (x<=y))
 |a,b=> .not (.lt b a)
def xi:Y->Y->SB
 | .lit x,.lit y=> .lit (x == y)
 | .lit x,b=> .eq b (.lit x)
 |a,b=>match fQ a b with
  |true=> .lit true
  |false=> .eq a b
def zx:SB->SB
 | .lit b=> .lit !b
 | .not s=>s
 |s=> .not s
def aaa:SB->SB->SB
 | .lit true,b=>b
 | .lit false,_=> .lit false
 |a,.lit true=>a
 |_,.lit false=> .lit false
 |a,b=> .and a b
def bytesLess:List Nat->List Nat->Bool
 |_,[]=>false
 |[],_::_=>true
 |a::x,b::y=>if a.blt b then true else if a.beq b then bytesLess x y else false
def iB:List Nat->List Nat->Bool
 |[],[]=>true
 |a::x,b::y=>if a.beq b then iB x y else false
 |_,_=>false
def OI (op:BinOp) (x y:List Nat):Option AV:=
 match op with
 | .add=>if x.length+y.length<=1000000 then some (.str (x++y)) else none
 | .eql=>some (.bool (.lit (iB x y)))
 | .neq=>some (.bool (.lit !(iB x y)))
 | .lss=>some (.bool (.lit (bytesLess x y)))
 | .leq=>some (.bool (.lit (bytesLess x y||iB x y)))
 | .gtr=>some (.bool (.lit !(bytesLess x y||iB x y)))
 | .geq=>some (.bool (.lit !(bytesLess x y)))
 |_=>none
def We (op:BinOp) (k:IntKind) (a b:Y):Option AV:=
 match op with
 | .add=>some (.int k (Y? k a b))
 | .sub=>some (.int k (Vy k a b))
 | .mul=>some (.int k (Y! k a b))
 | .quo=>match a,b with
   | .lit x,.lit y=>if y=0 then none else some (.int k (.lit (xI k (x.tdiv y))))
   |a,.lit y=>if y=0 then none else some (.int k (.wrap k (.quo a (.lit y))))
   |_,_=>none
 | .rem=>match a,b with
   | .lit x,.lit y=>if y=0 then none else some (.int k (.lit (x.tmod y)))
   |a,.lit y=>if y=0 then none else some (.int k (.rem a (.lit y)))
   |_,_=>none
 | .shr=>match a,b with
   | .lit x,.lit y=>if y<0 then none else some (.int k (.lit (x.fdiv (2 ^ (min y.toNat k.bits)))))
   |_,_=>none
 | .eql=>some (.bool (xi a b))
 | .neq=>some (.bool (zx (xi a b)))
 | .lss=>some (.bool (iV a b))
 | .leq=>some (.bool (afe a b))
 | .gtr=>some (.bool (iV b a))
 | .geq=>some (.bool (afe b a))
 |_=>none
def fR {α:Type}:List α->Nat->Option α
 |[],_=>none
 |x::_,0=>some x
 |_::xs,n+1=>fR xs n
def FK (a b:SB):Option SB:=
 match a,b with
 | .lit x,.lit y=>some (.lit (x == y))
 | .lit x,b=>some (if x then b else zx b)
 |a,.lit y=>some (if y then a else zx a)
 |a,b=>some (.not (.and (.not (.and a b)) (.not (.and (.not a) (.not b)))))
def Uk (k:TK) (x y:AV):Option SB:=
 match k with
 | .int _=>match x,y with
   | .int k a,.int k' b=>if k=k' then some (xi a b) else none
   |_,_=>none
 | .string=>match x,y with
   | .str a,.str b=>some (.lit (iB a b))
   |x,y=>DV x y
 | .bool=>match x,y with
   | .bool a,.bool b=>FK a b
   |_,_=>none
 |_=>none
def abQ (tt:TT) (xs ys:List AV):List (Nat×Nat×Nat)->Option SB
 |[]=>some (.lit true)
 |(off,ft,_)::fs=>match tt ft with
  |none=>none
  |some i=>match fR xs off,fR ys off with
   |some x,some y=>match Uk i.kind x y with
    |none=>none
    |some c=>match abQ tt xs ys fs with
     |none=>none
     |some d=>some (aaa c d)
   |_,_=>none
def FI (tt:TT) (t:Nat) (xs ys:List AV):Option SB:=
 match tt t with
 |none=>none
 |some i=>match i.kind with
  | .struct fs=>if i.eqs then abQ tt xs ys fs else none
  |_=>none
def lH:AV->Option Int
 | .int _ (.lit n)=>some n
 |_=>none
def isNil (k:TK) (x:AV):Option Bool:=
 match k with
 | .slice _=>match x with
   | .ij=>some true
   | .slice _ _ _ _=>some false
   | .ro _ _ _=>some false
   | .sG _ _ _=>some false
   |_=>none
 | .pointer _=>match x with
   | .wz=>some true
   | .ptr _ _=>some false
   | .pe _=>some false
   |_=>none
 | .map _ _=>match x with
   | .vf=>some true
   | .map _=>some false
   |_=>none
 |_=>none
def aop (k:TK) (x y:AV):Option SB:=
 match k with
 | .bool=>match x,y with
   | .bool a,.bool b=>FK a b
   |_,_=>none
 |k=>match isNil k x,isNil k y with
  |some true,some b=>some (.lit b)
  |some false,some true=>some (.lit false)
  |_,_=>none
def LI (op:BinOp) (c:Option SB):Option AV:=match c with
 |none=>none
 |some c=>match op with
  | .eql=>some (.bool c)
  | .neq=>some (.bool (.not c))
  |_=>none
def abN (tt:TT) (t:Nat) (op:BinOp) (x y:AV):Option AV:=
 match x with
 | .int k a=>match y with
   | .int k' b=>match op with
     | .shr=>We op k a b
     | .shl=>none
     |_=>if k=k' then We op k a b else none
   |_=>none
 | .str a=>match y with
   | .str b=>OI op a b
   | .kZ e=>LI op (DV (.str a) (.kZ e))
   |_=>none
 | .kZ e=>LI op (DV (.kZ e) y)
 |_=>match tt t with
  |none=>none
  |some i=>match op,aop i.kind x y with
   | .eql,some c=>some (.bool c)
   | .neq,some c=>some (.bool (zx c))
   |_,_=>none
def aon (op:UnOp) (x:AV):Option AV:=
 match op,x with
 | .not,.bool b=>some (.bool (zx b))
 | .neg,.int k e=>some (.int k (Vy k (.lit 0) e))
 |_,_=>none
def ja {α:Type}:Nat->List α->Option (List α)
 |0,_=>some []
 |_+1,[]=>none
 |n+1,x::xs=>match ja n xs with
  |some l=>some (x::l)
  |none=>none
def fq {α:Type}:Nat->List α->Option (List α)
 |0,l=>some l
 |_+1,[]=>none
 |n+1,_::xs=>fq n xs
def eB:List AV->Nat->List AV->Option (List AV)
 |cs,0,[]=>some cs
 |[],0,_::_=>none
 |_::cs,0,v::vs=>match eB cs 0 vs with
  |some l=>some (v::l)
  |none=>none
 |[],_+1,_=>none
 |c::cs,n+1,vs=>match eB cs n vs with
  |some l=>some (c::l)
  |none=>none
def tV:List AV->Bool
 |[]=>true
 |v::vs=>v.one&&tV vs
def n9 (h:Hp) (p:AV) (n:Nat):Option (List AV):=
 match p with
 | .ptr id off=>match h.get id with
   |some (.cells cs _)=>match fq off cs with
    |some l=>ja n l
    |none=>none
   |_=>none
 | .pe cs=>ja n cs
 |_=>none
def Dw (tt:TT) (t:Nat) (p:AV) (h:Hp):Option AV:=
 match tt t with
 |none=>none
 |some i=>match i.agg with
  |true=>(n9 h p i.size).map .agg
  |false=>match n9 h p 1 with
   |some (v::_)=>some v
   |_=>none
def MD (tt:TT) (t:Nat) (p v:AV) (h:Hp):Option Hp:=
 match tt t with
 |none=>none
 |some i=>
  if v.cells.length=i.size&&tV v.cells then
   match p with
   | .ptr id off=>match h.get id with
     |some (.cells cs e)=>match eB cs off v.cells with
      |some mQ=>some (h.put id (.cells mQ e))
      |none=>none
     |_=>none
   |_=>none
  else none
def vE (place:Nat->Option (Nat×Nat)) (cs:List AV):List (Nat×AV)->Option (List AV)
 |[]=>some cs
 |(i,v)::rest=>match place i with
  |none=>none
  |some (off,size)=>
   if v.cells.length=size&&tV v.cells then
    match eB cs off v.cells with
    |some mQ=>vE place mQ rest
    |none=>none
   else none
def jb (tt:TT) (t:Nat):Option Nat:=(tt t).map (·.size)
def MT (tt:TT) (t:Nat) (parts:List (Nat×AV)):Option AV:=
 match tt t with
 |some i=>match i.kind with
  | .struct fs=>(vE (fun j=>(fR fs j).map fun f=>(f.1,f.2.2)) i.zero parts).map .agg
  | .array _ e=>match jb tt e with
    |some s=>(vE (fun j=>some (j*s,s)) i.zero parts).map .agg
    |none=>none
  |_=>none
 |none=>none
def ed {α:Type} (l:List α):Nat->List α
 |0=>[]
 |n+1=>l++ed l n
def vG (tt:TT) (t len:Nat) (parts:List (Nat×AV)) (h:Hp):Option (AV×Hp):=
 match tt t with
 |some i=>match i.kind with
  | .slice e=>match tt e with
    |some ie=>
     if len<=1000/\ie.size<=1000/\ie.zero.length=ie.size then
      match vE (fun j=>some (j*ie.size,ie.size)) (ed ie.zero len) parts with
      |some cs=>some (.slice h.fresh 0 len (.exact len),h.new (.cells cs e))
      |none=>none
     else none
    |none=>none
  |_=>none
 |none=>none
def s7 (tt:TT) (t:Nat) (l c:AV) (h:Hp):Option (AV×Hp):=
 match lH l with
 |some (.ofNat n)=>match lH c with
  |some (.ofNat m)=>match tt t with
   |some i=>match i.kind with
    | .slice e=>match tt e with
      |some ie=>
       if n<=m/\m<=1000/\ie.size<=1000/\ie.bytes<=1000000/\ie.zero.length=ie.size then
        some (.slice h.fresh 0 n (.exact m),h.new (.cells (ed ie.zero m) e))
       else none
      |none=>none
    |_=>none
   |none=>none
  |_=>none
 |_=>none
def VV (off:Nat) (x:AV):Option AV:=match x with
 | .ptr id o=>some (.ptr id (o+off))
 | .B6 id es i o=>some (.B6 id es i (o+off))
 | .pe cs=>(fq off cs).map .pe
 |_=>none
def partOf (i:TI) (l:List AV):Option AV:=match i.agg with
 |true=>(ja i.size l).map .agg
 |false=>match l with
  |v::_=>some v
  |[]=>none
def xQ (tt:TT) (t:Nat) (p:AV) (f:Nat):Option AV:=
 match tt t with
 |some i=>match i.kind with
  | .struct fs=>match fR fs f with
    |some (off,_,size)=>match size with
     |0=>none
     |_=>VV off p
    |none=>none
  |_=>none
 |none=>none
def ML (tt:TT) (t:Nat) (x:AV) (f:Nat):Option AV:=
 match tt t with
 |some i=>match i.kind with
  | .struct fs=>match fR fs f with
    |some (off,ft,_)=>match tt ft,x with
     |some fi,.agg cs=>match fq off cs with
      |some l=>partOf fi l
      |none=>none
     |_,_=>none
    |none=>none
  |_=>none
 |none=>none
def qf (tt:TT) (t:Nat) (x ix:AV):Option AV:=
 match lH ix with
 |some (.ofNat i)=>match tt t with
  |some ti=>match ti.kind with
   | .array n e=>if i<n then match jb tt e with
    |some s=>VV (i*s) x
    |none=>none
    else none
   | .slice e=>match jb tt e with
     |some s=>match x with
      | .slice id o len _=>if i<len then some (.ptr id (o+i*s)) else none
      | .ro cs n _=>if i<n then (fq (i*s) cs).map .pe else none
      |_=>none
     |none=>none
   |_=>none
  |none=>none
 |_=>none
def xw (k:Nat) (e:Y):List IntKind->Nat->List AV
 |[],_=>[]
 |kd::ks,j=> .int kd (.zG (k*8+j) e)::xw k e ks (j+1)
def MJ (tt:TT) (pc:List (SB×Bool)) (t k:Nat) (ks:List IntKind) (ix:AV):Option AV:=
 match ix with
 | .int _ e=>match tt t with
   |some ti=>match ti.kind with
    | .slice el=>match jb tt el with
      |some s=>if s=ks.length/\k<8/\s<=8 then match lq pc (iV e (.lit 0)),lq pc (iV e (.dN (900+k))) with
       |some false,some true=>some (.pe (xw k e ks 0))
       |_,_=>none
       else none
      |none=>none
    |_=>none
   |none=>none
 |_=>none
def B1 (tt:TT) (t:Nat) (x ix:AV):Option AV:=
 match lH ix with
 |some (.ofNat i)=>match tt t with
  |some ti=>match ti.kind,x with
   | .string,.str s=>(fR s i).map fun b=> .int .u8 (.lit (Int.ofNat b))
   | .array n e,.agg cs=>if i<n then match tt e with
    |some ie=>match fq (i*ie.size) cs with
     |some l=>partOf ie l
     |none=>none
    |none=>none
    else none
   |_,_=>none
  |none=>none
 |_=>none
def pP (x:Option AV) (d:Nat) (y:Nat):Option Nat:=
 match x with
 |none=>if d<=y then some d else none
 |some v=>match lH v with
  |some (.ofNat i)=>if i<=y then some i else none
  |_=>none
def ME (tt:TT) (t:Nat) (x:AV) (lo hi mx:Option AV):Option AV:=
 match tt t with
 |none=>none
 |some ti=>match ti.kind with
  | .string=>match x,mx with
    | .str s,none=>match pP hi s.length s.length with
      |some h=>match pP lo 0 h with
       |some l=>some (.str ((s.take h).drop l))
       |none=>none
      |none=>none
    |_,_=>none
  | .slice e=>match jb tt e with
    |none=>none
    |some s=>match x with
     | .ij=>if mx.isSome&&hi.isNone then none else match pP hi 0 0,pP lo 0 0,pP mx 0 0 with
       |some _,some _,some _=>some .ij
       |_,_,_=>none
     | .slice id o len (.exact c)=>if mx.isSome&&hi.isNone then none else match pP mx c c with
       |none=>none
       |some m=>match pP hi len m with
        |none=>none
        |some h=>match pP lo 0 h with
         |none=>none
         |some l=>some (.slice id (o+l*s) (h-l) (.exact (m-l)))
     | .slice id o len (.rest es)=>match mx with
       |none=>match pP hi len len with
        |none=>none
        |some h=>match pP lo 0 h with
         |none=>none
         |some l=>if es=s then some (.slice id (o+l*s) (h-l) (.rest es)) else none
       |some _=>match hi,pP mx 0 len with
        |none,_=>none
        |_,none=>none
        |some _,some m=>match pP hi 0 m with
         |none=>none
         |some h=>match pP lo 0 h with
          |none=>none
          |some l=>some (.slice id (o+l*s) (h-l) (.exact (m-l)))
     | .ro cs n full=>match mx with
       |none=>match pP hi n n with
        |none=>none
        |some h=>match pP lo 0 h with
         |none=>none
         |some l=>match fq (l*s) cs with
          |none=>none
          |some d=>match ja ((h-l)*s) d with
           |none=>none
           |some d'=>some (.ro d' (h-l) (full&&h == n))
       |some _=>match hi,pP mx 0 n with
        |none,_=>none
        |_,none=>none
        |some _,some m=>match pP hi 0 m with
         |none=>none
         |some h=>match pP lo 0 h with
          |none=>none
          |some l=>match fq (l*s) cs with
           |none=>none
           |some d=>match ja ((h-l)*s) d with
            |none=>none
            |some d'=>some (.ro d' (h-l) (h == m))
     |_=>none
  | .array n e=>match jb tt e with
    |none=>none
    |some s=>match x with
     | .ptr id o=>if mx.isSome&&hi.isNone then none else match pP mx n n with
       |none=>none
       |some m=>match pP hi n m with
        |none=>none
        |some h=>match pP lo 0 h with
         |none=>none
         |some l=>some (.slice id (o+l*s) (h-l) (.exact (m-l)))
     |_=>none
  |_=>none
def HO (tt:TT) (t:Nat) (x:AV) (lo hi mx:Option AV) (h:Hp):Option AV:=
 match mx with
 |some _=>none
 |none=>match tt t with
  |none=>none
  |some ti=>match ti.kind with
   | .slice e=>match jb tt e with
     |none=>none
     |some s=>match x with
      | .slice id o len (.rest es)=>if es=s/\0<s then match h.get id with
       |some (.cells cs _)=>match pP hi len ((cs.length-o) / s) with
        |none=>none
        |some hh=>match pP lo 0 hh with
         |none=>none
         |some l=>some (.slice id (o+l*s) (hh-l) (.rest es))
       |_=>none
       else none
      |_=>none
   |_=>none
def xV:List AV->Option (List Nat)
 |[]=>some []
 | .int .u8 (.lit (.ofNat b))::xs=>if b<256 then match xV xs with
  |some l=>some (b::l)
  |none=>none
  else none
 |_::_=>none
def rq (tt:TT) (sT dT:Nat) (x:AV) (h:Hp):Option (AV×Hp):=
 match tt sT with
 |none=>none
 |some j=>match tt dT with
 |some i=>match i.kind with
  | .int k=>match x with
    | .int _ (.lit n)=>some (.int k (.lit (xI k n)),h)
    | .int _ e=>some (.int k (.wrap k e),h)
    |_=>none
  | .string=>match j.kind with
   | .string=>match x with
     | .str s=>some (.str s,h)
     |_=>none
   | .slice e=>match tt e with
     |none=>none
     |some ie=>if ie.kind= .int .u8/\ie.size=1 then match x with
      | .ij=>some (.str [],h)
      | .slice id o len _=>match n9 h (.ptr id o) len with
        |some cs=>(xV cs).map fun l=>(.str l,h)
        |none=>none
      |_=>none
      else none
   |_=>none
  | .slice e=>match tt e with
    |none=>none
    |some ie=>if ie.kind= .int .u8/\j.kind= .string then match x with
     | .str s=>some (.slice h.fresh 0 s.length (.rest 1),h.new (.cells (s.map fun c=> .int .u8 (.lit (Int.ofNat c))) e))
     |_=>none
     else none
  |_=>none
 |none=>none
def V8 (pc:List (SB×Bool)) (kk:TK) (a b:AV):Option Bool:=
 match kk with
 | .int _=>match a,b with
   | .int k x,.int k' y=>if k=k' then lq pc (xi x y) else none
   |_,_=>none
 | .string=>match a,b with
   | .str x,.str y=>some (iB x y)
   |x,y=>match DV x y with
    |some c=>lq pc c
    |none=>none
 | .bool=>match a,b with
   | .bool (.lit x),.bool (.lit y)=>some (x == y)
   |_,_=>none
 |_=>none
def Ew (pc:List (SB×Bool)) (kk:TK) (k:AV):List (AV×AV×Nat)->Nat->Option (Option (Nat×AV))
 |[],_=>some none
 |(k',v,_)::es,i=>match V8 pc kk k k' with
  |some true=>some (some (i,v))
  |some false=>Ew pc kk k es (i+1)
  |none=>none
def uh (k v:AV):List (AV×AV×Nat)->Nat->List (AV×AV×Nat)
 |[],_=>[]
 |(_,_,b)::es,0=>(k,v,b)::es
 |e::es,n+1=>e::uh k v es n
def sc {α:Type}:List α->Nat->List α
 |[],_=>[]
 |_::xs,0=>xs
 |x::xs,n+1=>x::sc xs n
def yG (tt:TT) (t:Nat):Option TK:=match tt t with
 |some i=>match i.kind with
  | .int k=>some (.int k)
  | .string=>some .string
  | .bool=>some .bool
  |_=>none
 |none=>none
def zeroOf (i:TI):Option AV:=
 match i.agg with
 |true=>some (.agg i.zero)
 |false=>match i.zero with
  |[v]=>some v
  |_=>none
def L2 (m:AV) (h:Hp):Option (List (AV×AV×Nat)):=match m with
 | .vf=>some []
 | .map id=>match h.get id with
   |some (.map es _)=>some es
   |_=>none
 |_=>none
def HR (tt:TT) (pc:List (SB×Bool)) (t:Nat) (m k:AV) (ok:Bool) (h:Hp):Option AV:=
 match tt t with
 |some ti=>match ti.kind with
  | .map kt et=>
    match yG tt kt with
    |none=>none
    |some kk=>
     match tt et with
     |none=>none
     |some ie=>
      match L2 m h with
      |none=>none
      |some es=>match Ew pc kk k es 0 with
       |none=>none
       |some (some (_,v))=>some (if ok then .tuple [v,.bool (.lit true)] else v)
       |some none=>match zeroOf ie with
        |none=>none
        |some z=>some (if ok then .tuple [z,.bool (.lit false)] else z)
  |_=>none
 |none=>none
def s6 (tt:TT) (pc:List (SB×Bool)) (t:Nat) (m k v:AV) (h:Hp):Option Hp:=
 match tt t with
 |some ti=>match ti.kind with
  | .map kt _=>
    match yG tt kt with
    |none=>none
    |some kk=>match m with
     | .map id=>match h.get id with
       |some (.map es c)=>match Ew pc kk k es 0 with
        |none=>none
        |some (some (i,_))=>some (h.put id (.map (uh k v es i) c))
        |some none=>some (h.put id (.map (es++ [(k,v,c)]) (c+1)))
       |_=>none
     |_=>none
  |_=>none
 |none=>none
def HU (tt:TT) (pc:List (SB×Bool)) (t:Nat) (m k:AV) (h:Hp):Option Hp:=
 match tt t with
 |some ti=>match ti.kind with
  | .map kt _=>
    match yG tt kt with
    |none=>none
    |some kk=>match m with
     | .vf=>some h
     | .map id=>match h.get id with
       |some (.map es c)=>match Ew pc kk k es 0 with
        |none=>none
        |some (some (i,_))=>some (h.put id (.map (sc es i) c))
        |some none=>some (h.put id (.map es c))
       |_=>none
     |_=>none
  |_=>none
 |none=>none
def abL (tt:TT) (t:Nat) (x:AV) (h:Hp):Option AV:=
 let n (k:Nat):Option AV:=some (.int .i64 (.lit (Int.ofNat k)))
 match tt t with
 |some ti=>match ti.kind with
  | .string=>match x with
    | .str s=>n s.length
    | .kZ e=>some (.int .i64 (eD e))
    |_=>none
  | .slice _=>match x with
    | .ij=>n 0
    | .emp=>n 0
    | .AX _ _=>n 0
    | .slice _ _ len _=>n len
    | .ro _ k _=>n k
    | .eW e _=>some (.int .i64 (eD e))
    | .sG _ e _=>some (.int .i64 e)
    | .wH _ _ e _=>some (.int .i64 e)
    | .zG k _=>some (.int .i64 (.dN (900+k)))
    |_=>none
  | .array k _=>n k
  | .map _ _=>match x with
    | .vf=>n 0
    | .map id=>match h.get id with
      |some (.map es _)=>n es.length
      |some (.mB e _)=>some (.int .i64 (eD e))
      |_=>none
    |_=>none
  |_=>none
 |none=>none
def ue (s:Nat) (x:AV) (h:Hp):Option (Nat×List AV):=
 match x with
 | .ij=>some (0,[])
 | .slice id o len _=>(n9 h (.ptr id o) (len*s)).map fun l=>(len,l)
 | .ro cs n _=>(ja (n*s) cs).map fun l=>(n,l)
 | .str b=>if s=1 then some (b.length,b.map fun c=> .int .u8 (.lit (Int.ofNat c))) else none
 |_=>none
def pj (ie:TI) (e len m:Nat) (cs:List AV) (h:Hp):Option (AV×Hp):=
 if (len+m)*ie.bytes<=140737488355328 then some (.slice h.fresh 0 (len+m) (.rest ie.size),h.new (.cells cs e)) else none
def sB (ie:TI) (e m:Nat) (news:List AV) (x:AV) (h:Hp):Option (AV×Hp):=
 match x with
 | .ij=>if m=0 then some (.ij,h) else pj ie e 0 m news h
 | .slice id o len (.exact c)=>
   if len+m<=c then
    match h.get id with
    |some (.cells cs e')=>match eB cs (o+len*ie.size) news with
     |some mQ=>some (.slice id o (len+m) (.exact c),h.put id (.cells mQ e'))
     |none=>none
    |_=>none
   else match n9 h (.ptr id o) (len*ie.size) with
    |some old=>pj ie e len m (old++news) h
    |none=>none
 | .slice id o len (.rest es)=>
   if es=ie.size then
    match h.get id with
    |some (.cells cs e')=>
     if o+(len+m)*ie.size<=cs.length then
      match eB cs (o+len*ie.size) news with
      |some mQ=>some (.slice id o (len+m) (.rest es),h.put id (.cells mQ e'))
      |none=>none
     else if o+len*ie.size=cs.length/\e'=e then
      match fq o cs with
      |some old=>pj ie e len m (old++news) (h.drop id)
      |none=>none
     else none
    |_=>none
   else none
 | .ro cs n full=>
   if m=0 then some (.ro cs n full,h)
   else if full then match ja (n*ie.size) cs with
    |some old=>pj ie e n m (old++news) h
    |none=>none
   else none
 |_=>none
def HV (tt:TT) (t t2:Nat) (x y:AV) (h:Hp):Option (AV×Hp):=
 match tt t with
 |some ti=>match ti.kind with
  | .slice e=>match tt e with
    |some ie=>match tt t2 with
     |none=>none
     |some XZ=>match XZ.kind with
      | .int _=>none
      |_=>
       if ie.size=0\/ie.bytes=0\/¬ie.zero.length=ie.size then none else
       match ue ie.size y h with
       |none=>none
       |some (m,news)=>sB ie e m news x h
    |none=>none
  |_=>none
 |none=>none
def MP (tt:TT) (t:Nat) (x:AV) (h:Hp):Option Hp:=
 match tt t with
 |some ti=>match ti.kind with
  | .slice e=>match tt e with
    |some ie=>match x with
     | .ij=>some h
     | .AX _ _=>some h
     | .slice id o len _=>match len with
       |0=>some h
       |_=>match ie.zero with
        |[]=>none
        |_=>match h.get id with
         |some (.cells cs e')=>match eB cs o (ed ie.zero len) with
          |some mQ=>some (h.put id (.cells mQ e'))
          |none=>none
         |_=>none
     |_=>none
    |none=>none
  |_=>none
 |none=>none
def MF (tt:TT) (t:Nat) (x:AV) (h:Hp):Option (AV×Hp):=
 match tt t with
 |some ti=>match ti.kind with
  | .string=>match x with
    | .str b=>some (.ptr h.fresh 0,h.new (.l4 b 0))
    |_=>none
  |_=>none
 |none=>none
def T6 (x:AV) (isS:Bool) (h:Hp):Option (AV×Hp):=
 match isS with
 |false=>none
 |true=>match x with
  | .ptr id 0=>match h.get id with
    |some (.l4 b p)=>match fR b p with
     |none=>some (.tuple [.bool (.lit false)],h)
     |some c=>if c<128 then some (.tuple [.bool (.lit true),.int .i64 (.lit (Int.ofNat p)),.int .i32 (.lit (Int.ofNat c))],h.put id (.l4 b (p+1))) else none
    |_=>none
  |_=>none
def vC (mx:Bool):List AV->Y->IntKind->St->T (AV×St)
 |[],a,k,s=> .ret (.int k a,s)
 | .int _ b::xs,a,k,s=>mA s (if mx then iV a b else iV b a) fun s c=>if c then vC mx xs b k s else vC mx xs a k s
 |_,_,_,_=> .fail
def anb (s:St) (k:IntKind) (e d:Y):T (AV×St):=mA s (xi d (.lit 0)) fun s c=>match c with
 |true=> .fail
 |false=> .ret (.int k (.rem e d),s)
def SW (op:BinOp) (a b:AV):Option (IntKind×Y×Y):=
 match op with
 | .rem=>match a with
   | .int k e=>match b with
     | .int k' d=>match d with
       | .lit _=>none
       |d=>if k=k' then some (k,e,d) else none
     |_=>none
   |_=>none
 |_=>none
def uA (s:St) (v:Option AV):T (AV×St):=match v with |some v=> .ret (v,s)|none=> .fail
def SS (s:St) (h:Option Hp):T (AV×St):=match h with |some h=> .ret (AV.undef,{ s with h:=h })|none=> .fail
def D2 (s:St) (r:Option (AV×Hp)):T (AV×St):=match r with |some (v,h)=> .ret (v,{ s with h:=h })|none=> .fail
def KK (s:St):Option Operand->Option (Option AV)
 |none=>some none
 |some x=>(ev s x).map some
def yQ (s:St):List (Nat×Operand)->Option (List (Nat×AV))
 |[]=>some []
 |(i,x)::xs=>match ev s x with
  |none=>none
  |some a=>match yQ s xs with
   |none=>none
   |some avS=>some ((i,a)::avS)
def Bl {α:Type} (s:St) (i n:Y) (f:St->T α):T α:=
 mA s (iV i (.lit 0)) fun s b=>match b with
  |true=> .fail
  |false=>mA s (iV i n) fun s b=>match b with
   |true=>f s
   |false=> .fail
def S9 (tt:TT) (t:Nat) (a b:AV):Option Y:=match a with
 | .eW e _=>match b with
   | .ij=>match tt t with
     |some ti=>match ti.kind with
      | .slice _=>some e
      |_=>none
     |none=>none
   |_=>none
 |_=>none
def aaF (s:St) (op:BinOp) (r:Bool):T (AV×St):=match op with
 | .eql=> .ret (.bool (.lit r),s)
 | .neq=> .ret (.bool (.lit (!r)),s)
 |_=> .fail
def anl (s:St) (e:Y) (op:BinOp):T (AV×St):=mA s (iV (.lit 0) (eD e)) fun s b=>match b with
 |true=>aaF s op false
 |false=>mA s (xh (pb e) (.eW (.i 1))) fun s b=>match b with
  |true=>aaF s op true
  |false=>mA s (xh (pb e) (.eW (.i 2))) fun s b=>match b with
   |true=>aaF s op false
   |false=> .fail
def arw (kk:TK) (a b:AV):Option SB:=match kk with
 | .int _=>match a with
   | .int k x=>match b with
     | .int k' y=>if k=k' then some (xi x y) else none
     |_=>none
   |_=>none
 | .string=>DV a b
 |_=>none
def vM {α:Type} (kk:TK) (k:AV):List (AV×AV×Nat)->St->(St->T α)->T α
 |[],s,f=>f s
 |(k',_,_)::es,s,f=>match V8 s.pc kk k k' with
  |some b=>match b with
   |true=>f s
   |false=>vM kk k es s f
  |none=>match arw kk k k' with
   |some c=>mA s c fun s b=>match b with
    |true=>f s
    |false=>vM kk k es s f
   |none=>f s
def pS {α:Type} (tt:TT) (t:Nat) (m k:AV) (s:St) (f:St->T α):T α:=match tt t with
 |some ti=>match ti.kind with
  | .map kt _=>match yG tt kt with
    |some kk=>match L2 m s.h with
     |some es=>vM kk k es s f
     |none=>f s
    |none=>f s
  |_=>f s
 |none=>f s
def QL (k:IntKind) (e:Y) (f:AV->St->T (AV×St)):Nat->Nat->St->T (AV×St)
 |0,_,_=> .fail
 |n+1,j,s=>match n with
  |0=>f (.int k (.lit (Int.ofNat j))) s
  |_=>mA s (xi e (.lit (Int.ofNat j))) fun s b=>match b with
   |true=>f (.int k (.lit (Int.ofNat j))) s
   |false=>QL k e f n (j+1) s
def asv (tt:TT) (t:Nat) (x:AV):Option Nat:=match tt t with
 |some ti=>match ti.kind with
  | .array n _=>if n<=64 then some n else none
  | .slice _=>match x with
    | .slice _ _ len _=>if len<=64 then some len else none
    |_=>none
  |_=>none
 |none=>none
def K4 (tt:TT) (t:Nat) (x ix:AV) (s:St) (f:AV->St->T (AV×St)):T (AV×St):=match lH ix with
 |some _=>f ix s
 |none=>match ix with
  | .int k e=>match asv tt t x with
    |some n=>Bl s e (.lit (Int.ofNat n)) fun s=>QL k e f n 0 s
    |none=> .fail
  |_=> .fail
def vH (tt:TT) (ty:Nat):Option Nat:=match tt ty with
 |some ti=>match ti.kind with
  | .slice el=>jb tt el
  |_=>none
 |none=>none
def MO (tt:TT) (s:St) (ty t:Nat) (e:Y) (ix:AV):T (AV×St):=match ix with
 | .int _ i=>match vH tt ty with
   |some z=>if z=(rowOf t).es then Bl s i (eD e) fun s=> .ret (.pe (iu (rowOf t) (.op .at e i)),s) else .fail
   |none=> .fail
 |_=> .fail
def MA (tt:TT) (s:St) (ty id t:Nat) (n:Y) (ix:AV):T (AV×St):=match ix with
 | .int _ i=>match vH tt ty with
   |some z=>if z=(rowOf t).es then Bl s i n fun s=> .ret (.B6 id z i 0,s) else .fail
   |none=> .fail
 |_=> .fail
def pX (pc:List (SB×Bool)) (adH:List AV) (i:Y):List (Y×List AV)->Option (List AV)
 |[]=>some adH
 |(j,cs)::l=>match fQ i j with
  |true=>some cs
  |false=>match lq pc (xi i j) with
   |some b=>match b with
    |true=>some cs
    |false=>pX pc adH i l
   |none=>none
def JO (pc:List (SB×Bool)) (i:Y) (mQ:List AV):List (Y×List AV)->Option (List (Y×List AV))
 |[]=>none
 |(j,cs)::l=>match fQ i j with
  |true=>some ((j,mQ)::l)
  |false=>match lq pc (xi i j) with
   |some b=>match b with
    |true=>some ((j,mQ)::l)
    |false=>match JO pc i mQ l with
     |some l'=>some ((j,cs)::l')
     |none=>none
   |none=>none
def yc (pc:List (SB×Bool)) (i:Y):List (Y×List AV)->Bool
 |[]=>true
 |(j,_)::l=>match lq pc (xi i j) with
  |some false=>yc pc i l
  |_=>false
def wX {α:Type} (i:Y):List (Y×List AV)->St->(St->T α)->T α
 |[],s,k=>k s
 |(j,_)::l,s,k=>match fQ i j with
  |true=>k s
  |false=>mA s (xi i j) fun s b=>match b with
   |true=>k s
   |false=>wX i l s k
def Hd (k:IntKind):List AV->Option (List D)
 |[]=>some []
 |v::vs=>match v with
  | .int k' e=>match e with
    | .lit n=>if k=k' then match Hd k vs with
     |some ds=>some (.i n::ds)
     |none=>none
     else none
    |_=>none
  |_=>none
def aeU:List AV->Option IntKind
 |v::_=>match v with
  | .int k _=>some k
  |_=>none
 |[]=>none
def Xp (tt:TT) (t:Nat) (ix:AV):Option (Nat×Y):=match lH ix with
 |some _=>none
 |none=>match ix with
  | .int _ e=>match tt t with
    |some ti=>match ti.kind with
     | .array n el=>if 64<n then match tt el with
      |some ie=>if ie.size=1/\ie.agg=false then some (n,e) else none
      |none=>none
      else none
     |_=>none
    |none=>none
  |_=>none
def KI (s:St) (cs:List AV) (e:Y):T (AV×St):=match aeU cs with
 |none=> .fail
 |some k=>match Hd k cs with
  |none=> .fail
  |some ds=>Bl s e (.lit (Int.ofNat ds.length)) fun s=> .ret (.int k (Jy (.op .at (.eW (dL ds)) e)),s)
def B0 (tt:TT) (s:St) (ty id es:Nat) (i:Y) (off:Nat):T (AV×St):=match s.h.get id with
 |some o=>match o with
  | .cells cs _=>match tt ty with
    |some ti=>match ti.agg||!(Nat.beq es 1)||!(Nat.beq off 0) with
     |true=> .fail
     |false=>KI s cs i
    |none=> .fail
  | .vec e t _ ov=>match tt ty with
    |some ti=>if (rowOf t).es=es then Bl s i (eD e) fun s=>wX i ov s fun s=>match pX s.pc (iu (rowOf t) (.op .at e i)) i ov with
     |some cs=>match fq off cs with
      |some l=>uA s (partOf ti l)
      |none=> .fail
     |none=> .fail
     else .fail
    |none=> .fail
  |_=> .fail
 |none=> .fail
def frz (v:AV) (h:Hp):AV×Hp:=match v with
 | .sG id n t=>match h.get id with
   |some o=>match o with
    | .vec e t' _ ov=>match ov with
      |[]=>match Nat.beq t t' with
       |true=>match fQ n (eD e) with
        |true=>(.eW e t,h.drop id)
        |false=>(v,h)
       |false=>(v,h)
      |_=>(v,h)
    |_=>(v,h)
   |none=>(v,h)
 | .AX z t=>(.eW z t,h)
 |v=>(v,h)
def isZ (e:Y):Bool:=match e with
 | .lit n=>xu n 0
 |_=>false
def uP (a b:Y):Y:=match isZ a with
 |true=>b
 |false=> .add a b
def Gk (a b:Y):Y:=match isZ b with
 |true=>a
 |false=> .sub a b
def LW (e lo n:Y):Y:=match isZ lo with
 |true=> .op .take e n
 |false=> .op .drop (.op .take e (.add lo n)) lo
def C3 {α:Type} (e lo n:Y) (s:St) (k:St->T α):T α:=
 mA s (iV lo (.lit 0)) fun s b=>match b with
  |true=> .fail
  |false=>mA s (iV n (.lit 0)) fun s b=>match b with
   |true=> .fail
   |false=>mA s (iV (eD e) (uP lo n)) fun s b=>match b with
    |true=> .fail
    |false=>k s
def Jk (h:Hp) (id t:Nat):Option (Y×TypeId):=match h.get id with
 |some o=>match o with
  | .vec e t' ty ov=>match ov with
    |[]=>match Nat.beq t t' with
     |true=>some (e,ty)
     |false=>none
    |_=>none
  |_=>none
 |none=>none
def YX {α:Type} (v:AV) (s:St) (k:AV->St->T α):T α:=match v with
 | .wH id lo n t=>match Jk s.h id t with
   |some (e,_)=>C3 e lo n s fun s=>k (.eW (LW e lo n) t) { s with h:=s.h.drop id }
   |none=>k v s
 |v=>match frz v s.h with
  |(v',h')=>k v' { s with h:=h' }
def Kx {α:Type}:List AV->St->(List AV->St->T α)->T α
 |[],s,k=>k [] s
 |v::vs,s,k=>YX v s fun v' s=>Kx vs s fun RI s=>k (v'::RI) s
def JV {α:Type} (t:Nat):List (Y×List AV)->Y->St->(Y->St->T α)->T α
 |[],e,s,k=>k e s
 |(j,cs)::ov,e,s,k=>JV t ov e s fun e s=>Kx cs s fun cs s=>match s9 (rowOf t) cs with
  |some x=>k (.op .set e (gx (CR j) x)) s
  |none=> .fail
def ang (v:AV) (h:Hp):Option (Nat×Y×Nat×List (Y×List AV)):=match v with
 | .sG id n t=>match h.get id with
   |some o=>match o with
    | .vec e t' _ ov=>match ov with
      |[]=>none
      |_=>match Nat.beq t t' with
       |true=>match fQ n (eD e) with
        |true=>some (id,e,t,ov)
        |false=>none
       |false=>none
    |_=>none
   |none=>none
 |_=>none
def YW {α:Type} (v:AV) (s:St) (k:AV->St->T α):T α:=match ang v s.h with
 |some (id,e,t,ov)=>JV t ov e s fun e' s=>match s.h.get id with
  |some _=>k (.eW e' t) { s with h:=s.h.drop id }
  |none=> .fail
 |none=>YX v s k
def zP {α:Type}:List AV->St->(List AV->St->T α)->T α
 |[],s,k=>k [] s
 |v::vs,s,k=>YW v s fun v' s=>zP vs s fun RI s=>k (v'::RI) s
def setCells:List CK->Nat->List AV->Y->Option Y
 |_,_,[],x=>some x
 |ks,off,v::vs,x=>match fR ks off with
  |some c=>match pE c v with
   |some a=>setCells ks (off+1) vs (.op .set x (gx (.eW (.i (Int.ofNat off))) a))
   |none=>none
  |none=>none
def Nv (r:Row) (e i:Y) (off:Nat) (vs:List AV):Option Y:=match r with
 | .one c=>match off with
   |0=>match vs with
    |[v]=>match pE c v with
     |some a=>some (.op .set e (gx (CR i) a))
     |none=>none
    |_=>none
   |_=>none
 | .many ks=>match setCells ks off vs (.op .at e i) with
   |some x=>some (.op .set e (gx (CR i) x))
   |none=>none
def HM (tt:TT) (s:St) (ty id es:Nat) (i:Y) (off:Nat) (one:Bool) (vs:List AV):T (AV×St):=
 match s.h.get id with
  |some o=>match o with
   | .vec e t CD ov=>match tt ty with
     |some ti=>if (rowOf t).es=es/\vs.length=ti.size/\one=true then Bl s i (eD e) fun s=>wX i ov s fun s=>match pX s.pc (iu (rowOf t) (.op .at e i)) i ov with
      |some cs=>match eB cs off vs with
       |some mQ=>match JO s.pc i mQ ov with
        |some sI=> .ret (AV.undef,{ s with h:=s.h.put id (.vec e t CD sI) })
        |none=>match yc s.pc i ov with
         |true=>match Nv (rowOf t) e i off vs with
          |some e'=> .ret (AV.undef,{ s with h:=s.h.put id (.vec e' t CD ov) })
          |none=> .ret (AV.undef,{ s with h:=s.h.put id (.vec e t CD ((i,mQ)::ov)) })
         |false=> .fail
       |none=> .fail
      |none=> .fail
      else .fail
     |none=> .fail
   |_=> .fail
  |none=> .fail
def arB:AV->Bool
 | .sG _ _ _=>true
 | .ij=>true
 | .AX _ _=>true
 | .slice _ _ n c=>match n with
   |0=>match c with
    | .exact k=>match k with
      |0=>true
      |_=>false
    |_=>false
   |_=>false
 |_=>false
def aol (c:CK) (v:AV):AV:=match c with
 | .sl t=>match v with
   | .ij=> .AX (.eW (.i 1)) t
   | .slice i o n k=>match n with
     |0=>match k with
      | .exact m=>match m with
        |0=> .AX (.eW (.i 2)) t
        |m+1=> .slice i o 0 (.exact (m+1))
      |k=> .slice i o 0 k
     |n+1=> .slice i o (n+1) k
   |v=>v
 |_=>v
def PS:List CK->List AV->List AV
 |[],vs=>vs
 |_::_,[]=>[]
 |c::cs,v::vs=>aol c v::PS cs vs
def SO (r:Row):List CK:=match r with
 | .one c=>[c]
 | .many cs=>cs
def WH (i:Y):List (SB×Bool)->Option Y
 |[]=>none
 |(c,b)::l=>match c with
  | .eq x y=>match b with
    |true=>match fQ x i with
     |true=>some y
     |false=>WH i l
    |false=>WH i l
  |_=>WH i l
def HL (tt:TT) (s:St) (ty id es:Nat) (i j:Y) (off:Nat) (one:Bool) (vs:List AV):T (AV×St):=
 match s.h.get id with
  |some o=>match o with
   | .vec e t CD ov=>match tt ty with
     |some ti=>if (rowOf t).es=es/\vs.length=ti.size/\one=true then Bl s i (eD e) fun s=>wX j ov s fun s=>match lq s.pc (.eq i j) with
      |some true=>match pX s.pc (iu (rowOf t) (.op .at e j)) j ov with
       |some cs=>match eB cs off (PS ((SO (rowOf t)).drop off) vs) with
        |some mQ=>match JO s.pc j mQ ov with
         |some sI=> .ret (AV.undef,{ s with h:=s.h.put id (.vec e t CD sI) })
         |none=>match yc s.pc j ov with
          |true=> .ret (AV.undef,{ s with h:=s.h.put id (.vec e t CD ((j,mQ)::ov)) })
          |false=> .fail
        |none=> .fail
       |none=> .fail
      |_=> .fail
      else .fail
     |none=> .fail
   |_=> .fail
  |none=> .fail
def HN (tt:TT) (s:St) (ty id es:Nat) (i:Y) (off:Nat) (v:AV):T (AV×St):=
 match (if arB v then WH i s.pc else none) with
 |some j=>HL tt s ty id es i j off (tV v.cells) v.cells
 |none=>zP v.cells s fun vs s=>HM tt s ty id es i off (tV v.cells) vs
def sv (e:Nat) (own:Option Nat) (x:AV) (h:Hp):Option (Y×Nat×Hp):=match x with
 | .sG id n t=>match h.get id with
   |some o=>match o with
    | .vec e0 t0 ty ov=>match ov with
      |[]=>match Nat.beq t t0 with
       |true=>match Nat.beq ty e with
        |true=>match fQ n (eD e0) with
         |true=>some (e0,t,h.drop id)
         |false=>none
        |false=>none
       |false=>none
      |_=>none
    |_=>none
   |none=>none
 | .ij=>match own with
   |some t=>some (.eW (.i 0),t,h)
   |none=>none
 | .emp=>match own with
   |some t=>some (.eW (.i 0),t,h)
   |none=>none
 | .AX _ _=>match own with
   |some t=>some (.eW (.i 0),t,h)
   |none=>none
 | .slice _ _ n c=>match n with
   |0=>match c with
    | .exact k=>match k with
      |0=>match own with
       |some t=>some (.eW (.i 0),t,h)
       |none=>none
      |_=>none
    |_=>none
   |_=>none
 |_=>none
def ajQ:AV->Bool
 | .eW _ _=>true
 |_=>false
def aa3 (own:Option Nat):AV->Bool
 | .sG _ _ _=>true
 | .wH _ _ _ _=>true
 | .ij=>own.isSome
 | .emp=>own.isSome
 | .AX _ _=>own.isSome
 | .slice _ _ n c=>match n with
   |0=>match c with
    | .exact k=>match k with
      |0=>own.isSome
      |_=>false
    |_=>false
   |_=>false
 |_=>false
def Xr (id t:Nat) (ty:TypeId) (e0 n1 m sd:Y) (s:St):T (AV×St):=
 C3 e0 n1 m s fun s=> .ret (.wH id (.lit 0) (uP n1 m) t,{ s with h:=s.h.put id (.vec (.op .cat (.op .cat (.op .take e0 n1) sd) (.op .drop e0 (uP n1 m))) t ty []) })
def HW (tt:TT) (t t2 id:Nat) (n1:Y) (t':Nat) (y:AV) (s:St):T (AV×St):=
 match tt t with
 |some ti=>match ti.kind with
  | .slice e=>match tt e with
    |some ie=>match tt t2 with
     |none=> .fail
     |some XZ=>match XZ.kind with
      | .int _=> .fail
      |_=>
       if ie.size=0\/ie.bytes=0\/¬ie.zero.length=ie.size\/¬(rowOf t').es=ie.size then .fail else
       match Jk s.h id t' with
       |none=> .fail
       |some (e0,ty)=>match y with
        | .wH id2 ZS n2 NX=>match Nat.beq id2 id with
          |true=>match Nat.beq NX t' with
           |true=>C3 e0 ZS n2 s fun s=>Xr id t' ty e0 n1 n2 (LW e0 ZS n2) s
           |false=> .fail
          |false=> .fail
        |y=>match ue ie.size y s.h with
         |none=> .fail
         |some (m,news)=>match m with
          |0=> .fail
          |m+1=>if m<1000 then match mL (rowOf t') (.eW (.i 0)) (m+1) news with
           |some sd=>Xr id t' ty e0 n1 (.lit (Int.ofNat (m+1))) sd s
           |none=> .fail
           else .fail
    |none=> .fail
  |_=> .fail
 |none=> .fail
def B4 (tt:TT) (ty id:Nat) (lo n:Y) (t:Nat) (s:St):T (AV×St):=
 match tt ty with
 |some ti=>match ti.kind with
  | .slice e=>match tt e with
    |some ie=>if (rowOf t).es=ie.size/\0<ie.size then match Jk s.h id t with
     |none=> .fail
     |some (e0,CD)=>match s9 (rowOf t) ie.zero with
      |none=> .fail
      |some z=>mA s (iV lo (.lit 0)) fun s b=>match b with
       |true=> .fail
       |false=>mA s (iV n (.lit 0)) fun s b=>match b with
        |true=> .fail
        |false=>mA s (xi (uP lo n) (eD e0)) fun s b=>match b with
         |false=> .fail
         |true=> .ret (AV.undef,{ s with h:=s.h.put id (.vec (.op .fill e0 (gx (CR lo) z)) t CD []) })
     else .fail
    |none=> .fail
  |_=> .fail
 |none=> .fail
def tm (bytes k:Nat):Int:=Int.ofNat (140737488355328 / bytes-k)
def aad (e0:Y) (bytes:Nat):Int:=match Tq e0 with
 |true=>tm bytes 0
 |false=>tm bytes 1000000
def afu:AV->Bool
 | .sG _ _ _=>true
 | .AX _ _=>true
 | .slice _ _ n _=>match n with
   |0=>true
   |_=>false
 |_=>false
def BS:List (SB×Bool)->Bool
 |[]=>false
 |(b,v)::l=>match b with
  | .eq _ x=>match x with
    | .dN i=>match i with
      |0=>match v with
       |true=>true
       |false=>BS l
      |_=>BS l
    |_=>BS l
  |_=>BS l
def aeN (m:Nat) (news:List AV) (pc:List (SB×Bool)):Bool:=match m with
 |0=>match news.any afu with
  |true=>BS pc
  |false=>false
 |_=>false
def C1 (e:Nat) (x:AV) (h:Hp):Option (Y×Nat×Y×List AV×Hp):=match x with
 | .sG id n t=>match h.get id with
   |some o=>match o with
    | .vec e0 t0 ty ov=>match ov with
      |[]=>none
      |p::l=>match l with
       |[]=>match Nat.beq t t0 with
        |true=>match Nat.beq ty e with
         |true=>match fQ n (eD e0) with
          |true=>some (e0,t,p.1,p.2,h.drop id)
          |false=>none
         |false=>none
        |false=>none
       |_=>none
    |_=>none
   |none=>none
 |_=>none
def B5 (e:Nat) (own:Option Nat) (x:AV) (ie:TI) (m:Nat) (news:List AV) (s:St):T (AV×St):=
 zP news s fun Ec s=>match sv e own x s.h with
  |some (e0,t',h0)=>if (rowOf t').es=ie.size/\m<1000 then
   mA s (iV (eD e0) (.lit (tm ie.bytes (m+1)))) fun s b=>match b with
    |true=>match mL (rowOf t') e0 (m+1) Ec with
     |some e1=> .ret (.sG h0.fresh (eD e1) t',{ s with h:=h0.new (.vec e1 t' e []) })
     |none=> .fail
    |false=> .fail
   else .fail
  |none=> .fail
def Dz (e:Nat) (x:AV) (ie:TI) (m:Nat) (news:List AV) (s:St):T (AV×St):=
 zP news s fun Ec s=>match C1 e x s.h with
  |some (e0,t',p,cs,h0)=>if (rowOf t').es=ie.size/\m<1000 then
   mA s (iV (eD e0) (.lit (tm ie.bytes (m+1)))) fun s b=>match b with
    |true=>mA s (iV p (eD e0)) fun s b=>match b with
     |true=>match mL (rowOf t') e0 (m+1) Ec with
      |some e1=> .ret (.sG h0.fresh (eD e1) t',{ s with h:=h0.new (.vec e1 t' e [(p,cs)]) })
      |none=> .fail
     |false=> .fail
    |false=> .fail
   else .fail
  |none=> .fail
def Dy (e:Nat) (own:Option Nat) (x:AV) (ie:TI) (m:Nat) (news:List AV) (s:St):T (AV×St):=
 match sv e own x s.h with
 |some (e0,t',h0)=>if (rowOf t').es=ie.size/\m=0 then
  mA s (xi (eD e0) (.dN 0)) fun s b=>match b with
   |true=>mA s (iV (eD e0) (.lit (tm ie.bytes 1))) fun s b=>match b with
    |true=>match mL (rowOf t') e0 1 ie.zero with
     |some e1=> .ret (.sG h0.fresh (eD e1) t',{ s with h:=h0.new (.vec e1 t' e [(.dN 0,news)]) })
     |none=> .fail
    |false=> .fail
   |false=>B5 e own x ie m news s
  else .fail
 |none=> .fail
def Dx (tt:TT) (t t2:Nat) (x y:AV) (s:St):T (AV×St):=
 match tt t with
 |some ti=>match ti.kind with
  | .slice e=>match tt e with
    |some ie=>match tt t2 with
     |none=> .fail
     |some XZ=>match XZ.kind with
      | .int _=> .fail
      |_=>
       if ie.size=0\/ie.bytes=0\/¬ie.zero.length=ie.size\/¬ie.bytes<=400 then .fail else
       match y with
       | .eW e2 ty2=>match sv e ti.own x s.h with
         |some (e0,t',h0)=>if (rowOf t').es=ie.size/\rowOf ty2=rowOf t' then
          mA s (xh (eD e2) (.lit 0)) fun s b=>match b with
           |true=> .ret (x,s)
           |false=>mA s (iV (eD e2) (.lit (aad e0 ie.bytes))) fun s b=>match b with
            |true=>mA s (iV (eD e0) (.lit 1000000)) fun s b=>match b with
             |true=>match Tq e0 with
              |true=> .ret (.sG h0.fresh (eD e2) t',{ s with h:=h0.new (.vec e2 t' e []) })
              |false=> .ret (.sG h0.fresh (eD (.op .cat e0 e2)) t',{ s with h:=h0.new (.vec (.op .cat e0 e2) t' e []) })
             |false=> .fail
            |false=> .fail
          else .fail
         |none=> .fail
       |y=>match ue ie.size y s.h with
        |some (m,news)=>match m with
         |0=> .ret (x,s)
         |m+1=>match C1 e x s.h with
          |some _=>Dz e x ie m news s
          |none=>match aeN m news s.pc with
           |true=>Dy e ti.own x ie m news s
           |false=>B5 e ti.own x ie m news s
        |none=> .fail
    |none=> .fail
  |_=> .fail
 |none=> .fail
def MI (tt:TT) (t:Nat) (l c:AV) (s:St):T (AV×St):=match l with
 | .int k n=>match c with
   | .int k2 n2=>match fQ n n2 with
     |false=> .fail
     |true=>match tt t with
      |none=> .fail
      |some i=>match i.own with
       |none=> .fail
       |some o=>match i.kind with
        | .slice e=>match tt e with
          |none=> .fail
          |some ie=>match s9 (rowOf o) ie.zero with
           |none=> .fail
           |some z=>if ie.size=(rowOf o).es/\0<ie.size/\ie.bytes≠0/\ie.zero.length=ie.size then
            mA s (iV n (.lit 0)) fun s b=>match b with
             |true=> .fail
             |false=>mA s (xh n (.lit 0)) fun s b=>match b with
              |true=>match s7 tt t (.int k (.lit 0)) (.int k2 (.lit 0)) s.h with
               |some (v,h)=> .ret (v,{ s with h:=h })
               |none=> .fail
              |false=>mA s (iV n (.lit (tm ie.bytes 0))) fun s b=>match b with
               |true=> .ret (.sG s.h.fresh (eD (.op .rep n z)) o,{ s with h:=s.h.new (.vec (.op .rep n z) o e []) })
               |false=> .fail
            else .fail
        |_=> .fail
   |_=> .fail
 |_=> .fail
def Fi (v:AV):Bool:=match lH v with
 |some n=>xu n 0
 |none=>false
def MN (tt:TT) (s:St) (ty t:Nat) (e:Y) (lo hi:Option AV) (mx:Option AV):T (AV×St):=match mx with
 |some m=>match Fi m with
  |true=>match vH tt ty with
   |none=> .fail
   |some _=>match lo with
    |none=>match hi with
     |some hv=>match Fi hv with
      |true=> .ret (.AX (.op .take e (.lit 0)) t,s)
      |false=> .fail
     |none=> .fail
    |some _=> .fail
  |false=> .fail
 |none=>match vH tt ty with
  |none=> .fail
  |some z=>if z=(rowOf t).es then
   (match hi with
   |none=>match lo with
    |some (.int _ l)=>mA s (iV l (.lit 0)) fun s b=>match b with
     |true=> .fail
     |false=>mA s (iV (eD e) l) fun s b=>match b with
      |true=> .fail
      |false=> .ret (.eW (.op .drop e l) t,s)
    |_=> .fail
   |some (.int _ h)=>mA s (iV (eD e) h) fun s b=>match b with
    |true=> .fail
    |false=>match lo with
     |none=>mA s (iV h (.lit 0)) fun s b=>match b with
      |true=> .fail
      |false=> .ret (.eW (.op .take e h) t,s)
     |some (.int _ l)=>mA s (iV l (.lit 0)) fun s b=>match b with
      |true=> .fail
      |false=>mA s (iV h l) fun s b=>match b with
       |true=> .fail
       |false=> .ret (.eW (.op .drop (.op .take e h) l) t,s)
     |_=> .fail
   |_=> .fail)
   else .fail
def loE (lo:Option AV):Option Y:=match lo with
 |none=>some (.lit 0)
 |some v=>match v with
  | .int _ l=>some l
  |_=>none
def FH (tt:TT) (s:St) (ty id t:Nat) (lo0 n0:Y) (lo hi mx:Option AV):T (AV×St):=
 match vH tt ty with
 |none=> .fail
 |some z=>if z=(rowOf t).es/\z≠0 then match loE lo with
  |none=> .fail
  |some l=>mA s (iV l (.lit 0)) fun s b=>match b with
   |true=> .fail
   |false=>match hi with
    |none=>match mx with
     |some _=> .fail
     |none=>mA s (iV n0 l) fun s b=>match b with
      |true=> .fail
      |false=> .ret (.wH id (uP lo0 l) (Gk n0 l) t,s)
    |some hv=>match hv with
     | .int _ h=>mA s (iV h l) fun s b=>match b with
       |true=> .fail
       |false=>match mx with
        |some mv=>match mv with
         | .int _ m=>mA s (iV m h) fun s b=>match b with
           |true=> .fail
           |false=>mA s (iV n0 m) fun s b=>match b with
            |true=> .fail
            |false=> .ret (.any,s)
         |_=> .fail
        |none=>mA s (iV n0 h) fun s b=>match b with
         |false=> .ret (.wH id (uP lo0 l) (Gk h l) t,s)
         |true=>match isZ lo0 with
          |false=> .fail
          |true=>match Jk s.h id t with
           |none=> .fail
           |some (e,_)=>mA s (iV (eD e) h) fun s b=>match b with
            |true=> .fail
            |false=> .ret (.wH id (uP lo0 l) (Gk h l) t,s)
     |_=> .fail
  else .fail
def MM (tt:TT) (s:St) (ty:Nat) (z:Y) (t:Nat) (lo hi mx:Option AV):T (AV×St):=
 match mx with
 |some _=> .fail
 |none=>match vH tt ty with
  |none=> .fail
  |some _=>match pP hi 0 0 with
   |some 0=>match pP lo 0 0 with
    |some 0=> .ret (.AX z t,s)
    |_=> .fail
   |_=> .fail
def Mz (tt:TT) (s:St) (ty id t:Nat) (lo n:Y) (ix:AV):T (AV×St):=match ix with
 | .int _ i=>match vH tt ty with
   |some z=>if z=(rowOf t).es then Bl s i n fun s=> .ret (.B6 id z (uP lo i) 0,s) else .fail
   |none=> .fail
 |_=> .fail
def aa7:AV->Bool
 | .kZ _=>true
 |_=>false
def MC (tt:TT) (s:St) (ty:Nat) (e:Y) (ix:AV):T (AV×St):=match ix with
 | .int _ i=>match tt ty with
   |some ti=>match ti.kind with
    | .string=>Bl s i (eD e) fun s=> .ret (.int .u8 (Jy (.op .at e i)),s)
    |_=> .fail
   |none=> .fail
 |_=> .fail
def hiE (e:Y) (hi:Option AV):Option Y:=match hi with
 |none=>some (eD e)
 |some v=>match v with
  | .int _ h=>some h
  |_=>none
def MB (tt:TT) (s:St) (ty:Nat) (e:Y) (lo hi mx:Option AV):T (AV×St):=match mx with
 |some _=> .fail
 |none=>match tt ty with
  |none=> .fail
  |some ti=>match ti.kind with
   | .string=>match loE lo with
     |none=> .fail
     |some l=>match hiE e hi with
      |none=> .fail
      |some h=>mA s (iV l (.lit 0)) fun s b=>match b with
       |true=> .fail
       |false=>mA s (iV h l) fun s b=>match b with
        |true=> .fail
        |false=>mA s (iV (eD e) h) fun s b=>match b with
         |true=> .fail
         |false=> .ret (.kZ (.op .sub e (gx (CR l) (gx (CR h) (.eW (.i 0))))),s)
   |_=> .fail
def Fl (x y:AV):Option (Y×Y):=match aa7 x||aa7 y with
 |false=>none
 |true=>match vY x with
  |none=>none
  |some a=>match vY y with
   |none=>none
   |some b=>some (a,b)
def Ju (a b:Y):SB:=.not (.eq (.op .slt a b) (.lit 0))
def T1 (op:BinOp) (a b:Y) (s:St):T (AV×St):=match op with
 | .add=>mA s (iV (eD a) (.lit 1000000000)) fun s c=>match c with
   |false=> .fail
   |true=>mA s (iV (eD b) (.lit 1000000000)) fun s c=>match c with
    |false=> .fail
    |true=> .ret (.kZ (.op .cat a b),s)
 | .eql=> .ret (.bool (xh (pb a) (pb b)),s)
 | .neq=> .ret (.bool (.not (xh (pb a) (pb b))),s)
 | .lss=> .ret (.bool (Ju a b),s)
 | .gtr=> .ret (.bool (Ju b a),s)
 | .leq=> .ret (.bool (zx (Ju b a)),s)
 | .geq=> .ret (.bool (zx (Ju a b)),s)
 |_=> .fail
def FJ (tt:TT) (sT dT:Nat) (e:Y) (s:St):T (AV×St):=match tt sT with
 |none=> .fail
 |some j=>match j.kind with
  | .string=>match tt dT with
    |none=> .fail
    |some i=>match i.kind with
     | .slice el=>match tt el with
       |some ie=>match ie.kind with
        | .int k=>match k with
          | .u8=>mA s (xh (eD e) (.lit 0)) fun s c=>match c with
            |true=> .ret (.slice s.h.fresh 0 0 (.rest 1),{ s with h:=s.h.new (.cells [] el) })
            |false=> .ret (.sG s.h.fresh (eD e) 14,{ s with h:=s.h.new (.vec e 14 el []) })
          |_=> .fail
        |_=> .fail
       |none=> .fail
     |_=> .fail
  |_=> .fail
def Ei (c:CK):TK:=match c with
 | .int k=> .int k
 |_=> .string
def zE (m:AV) (h:Hp):Option (Nat×Y×Nat):=match m with
 | .map id=>match h.get id with
   |some o=>match o with
    | .mB e t=>some (id,e,t)
    |_=>none
   |none=>none
 |_=>none
def mapKey (tt:TT) (ty t:Nat) (k:AV):Option (Y×TI):=match tt ty with
 |none=>none
 |some ti=>match ti.kind with
  | .map kt et=>match tt kt with
    |none=>none
    |some ki=>if ki.kind=Ei (mapOf t).1 then match tt et with
     |none=>none
     |some ie=>match pE (mapOf t).1 k with
      |none=>none
      |some a=>some (pb a,ie)
     else none
  |_=>none
def abv (e a:Y):SB:=match e with
 | .eW d=>match a with
   | .eW k=> .lit (!(lG d.l k).isSome)
   |a=> .eq (.op .EX (.eW d) a) (.lit 0)
 |e=> .eq (.op .EX e a) (.lit 0)
def BZ (tt:TT) (ty:Nat) (k:AV) (ok:Bool) (e:Y) (t:Nat) (s:St):T (AV×St):=match mapKey tt ty t k with
 |none=> .fail
 |some (a,ie)=>match zeroOf ie with
  |none=> .fail
  |some z=>mA s (abv e a) fun s b=>match b with
   |true=> .ret (if ok then .tuple [z,.bool (.lit false)] else z,s)
   |false=> .ret (if ok then .tuple [vQ (mapOf t).2 (.op .EY e a),.bool (.lit true)] else vQ (mapOf t).2 (.op .EY e a),s)
def T5 (tt:TT) (ty id:Nat) (k x:AV) (e:Y) (t:Nat) (s:St):T (AV×St):=match mapKey tt ty t k with
 |none=> .fail
 |some (a,_)=>match pE (mapOf t).2 x with
  |none=> .fail
  |some b=> .ret (AV.undef,{ s with h:=s.h.put id (.mB (.op .zh e (gx a b)) t) })
def MG (tt:TT) (ty:Nat) (m k x:AV) (s:St):T (AV×St):=zP [x] s fun xs s=>match xs with
 |[x]=>match zE m s.h with
  |some (id,e,t)=>T5 tt ty id k x e t s
  |none=> .fail
 |_=> .fail
def Ud (tt:TT) (ty id:Nat) (k:AV) (e:Y) (t:Nat) (s:St):T (AV×St):=match mapKey tt ty t k with
 |none=> .fail
 |some (a,_)=> .ret (AV.undef,{ s with h:=s.h.put id (.mB (.op .Tc e a) t) })
abbrev eT:=Nat->List AV->St->T (AV×St)
def Cq (s:St) (x:Operand) (f:AV->T (AV×St)):T (AV×St):=match ev s x with |some v=>f v|none=> .fail
def ajK (tt:TT) (t:Nat):Option Nat:=match tt t with
 |some ti=>ti.own
 |none=>none
def yR (tt:TT) (s:St) (b:Builtin) (ts:List Nat) (args:List AV):T (AV×St):=
 match b,ts,args with
 | .len,[t],[x]=>uA s (abL tt t x s.h)
 | .append,[t,t2],[.wH id lo n t',y]=>match isZ lo with
   |true=>HW tt t t2 id n t' y s
   |false=> .fail
 | .append,[t,t2],[x,y]=>match aa3 (ajK tt t) x||ajQ y with
   |true=>Dx tt t t2 x y s
   |false=>D2 s (HV tt t t2 x y s.h)
 | .delete,[t,_],[m,k]=>match zE m s.h with
   |some (id,e,t')=>Ud tt t id k e t' s
   |none=>pS tt t m k s fun s=>SS s (HU tt s.pc t m k s.h)
 | .clear,[t],[.sG id n t']=>B4 tt t id (.lit 0) n t' s
 | .clear,[t],[.wH id lo n t']=>B4 tt t id lo n t' s
 | .clear,[t],[x]=>SS s (MP tt t x s.h)
 | .min,_,.int k a::xs=>vC false xs a k s
 | .max,_,.int k a::xs=>vC true xs a k s
 |_,_,_=> .fail
def MQ (tt:TT) (call:eT) (s:St) (c:Call):T (AV×St):=
 match evs s c.args.toList with
 |none=> .fail
 |some args=>match c.callee with
  | .builtin b=>yR tt s b c.argTypes.toList args
  | .value f=>match ev s f with
    |some (.func (.func g) fs cs)=>call g (fs++args++cs) s
    |_=> .fail
  | .invoke _ _=> .fail
def aqi:SB->Bool
 | .lit _=>true
 | .not c=>match c with
   | .eq _ z=>match z with
     | .lit n=>xu n 0
     |_=>false
   |_=>false
 |_=>false
def ad4 {α:Type} (v:AV) (s:St) (k:AV->St->T α):T α:=match v with
 | .bool c=>match aqi c with
   |true=>k (.bool c) s
   |false=>mA s c fun s b=>k (.bool (.lit b)) s
 |v=>k v s
def MH (tt:TT) (call:eT) (s:St) (op:Op):T (AV×St):=
 match op with
 | .move x=>Cq s x fun v=> .ret (v,s)
 | .assign x=>Cq s x fun v=> .ret (v,s)
 | .pick c a b=>Cq s c fun c=>match c with
   | .bool c=>mA s c fun s b'=>if b' then Cq s a fun v=> .ret (v,s) else Cq s b fun v=> .ret (v,s)
   |_=> .fail
 | .alloc t=>match tt t with
   |some i=> .ret (.ptr s.h.fresh 0,{ s with h:=s.h.new (.cells i.zero t) })
   |none=> .fail
 | .box t x=>Cq s x fun v=>if tV v.cells then .ret (.ptr s.h.fresh 0,{ s with h:=s.h.new (.cells v.cells t) }) else .fail
 | .build t parts=>match yQ s parts.toList with
   |some ps=>uA s (MT tt t ps)
   |none=> .fail
 | .buildSlice t n parts=>match yQ s parts.toList with
   |some ps=>D2 s (vG tt t n ps s.h)
   |none=> .fail
 | .makeSlice t l c=>Cq s l fun lv=>match ev s c with
   |some cv=>match s7 tt t lv cv s.h with
    |some r=>D2 s (some r)
    |none=>MI tt t lv cv s
   |none=> .fail
 | .load t x=>Cq s x fun p=>match p with
   | .B6 id es i off=>B0 tt s t id es i off
   |p=>uA s (Dw tt t p s.h)
 | .store t x y=>Cq s x fun p=>match ev s y with
   |some v=>ad4 v s fun v s=>match p with
    | .B6 id es i off=>HN tt s t id es i off v
    |p=>SS s (MD tt t p v s.h)
   |none=> .fail
 | .nilCheck x=>Cq s x fun v=>match v with
   | .ptr _ _=> .ret (v,s)
   | .pe _=> .ret (v,s)
   | .B6 _ _ _ _=> .ret (v,s)
   |_=> .fail
 | .binOp op t x y _=>Cq s x fun a=>match ev s y with
   |some b=>match a with
    | .agg xs=>match b,op with
      | .agg ys,.eql=>match FI tt t xs ys with
        |some c=> .ret (.bool c,s)
        |none=> .fail
      | .agg ys,.neq=>match FI tt t xs ys with
        |some c=> .ret (.bool (zx c),s)
        |none=> .fail
      |_,_=> .fail
    |a=>match S9 tt t a b with
     |some e=>anl s e op
     |none=>match SW op a b with
      |some (k,e,d)=>anb s k e d
      |none=>match Fl a b with
       |some (x,y)=>T1 op x y s
       |none=>uA s (abN tt t op a b)
   |none=> .fail
 | .unOp op _ x=>Cq s x fun v=>uA s (aon op v)
 | .convert sT dT x=>Cq s x fun v=>match v with
   | .kZ e=>FJ tt sT dT e s
   |v=>D2 s (rq tt sT dT v s.h)
 | .makeFunc fn fs cs=>match evs s fs.toList,evs s cs.toList with
   |some f,some c=> .ret (.func fn f c,s)
   |_,_=> .fail
 | .makeMap t r=>match r with
   |none=>match ajK tt t with
    |some m=> .ret (.map s.h.fresh,{ s with h:=s.h.new (.mB (.eW (.i 0)) m) })
    |none=> .ret (.map s.h.fresh,{ s with h:=s.h.new (.map [] 0) })
   |some _=> .fail
 | .slice t x lo hi mx=>Cq s x fun v=>match KK s lo,KK s hi,KK s mx with
   |some l,some h,some m=>match v with
    | .eW e t'=>MN tt s t t' e l h m
    | .sG id n t'=>FH tt s t id t' (.lit 0) n l h m
    | .wH id lo n t'=>FH tt s t id t' lo n l h m
    | .kZ e=>MB tt s t e l h m
    | .AX z t'=>MM tt s t z t' l h m
    |v=>match ME tt t v l h m with
    |some v=> .ret (v,s)
    |none=>uA s (HO tt t v l h m s.h)
   |_,_,_=> .fail
 | .fieldAddr t x f=>Cq s x fun v=>uA s (xQ tt t v f)
 | .field t x f=>Cq s x fun v=>uA s (ML tt t v f)
 | .indexAddr t x i=>Cq s x fun v=>match ev s i with
   |some i=>match v with
    | .zG k ks=>uA s (MJ tt s.pc t k ks i)
    | .eW e t'=>MO tt s t t' e i
    | .sG id n t'=>MA tt s t id t' n i
    | .wH id lo n t'=>Mz tt s t id t' lo n i
    | .ptr id o=>match Xp tt t i with
      |some (n,e)=>if o=0 then Bl s e (.lit (Int.ofNat n)) fun s=> .ret (.B6 id 1 e 0,s) else .fail
      |none=>K4 tt t (.ptr id o) i s fun i s=>uA s (qf tt t (.ptr id o) i)
    |v=>K4 tt t v i s fun i s=>uA s (qf tt t v i)
   |none=> .fail
 | .index t x i=>Cq s x fun v=>match ev s i with
   |some i=>match v with
    | .kZ e=>MC tt s t e i
    | .agg cs=>match Xp tt t i with
      |some (n,e)=>match Nat.beq cs.length n with
       |true=>KI s cs e
       |false=> .fail
      |none=>K4 tt t (.agg cs) i s fun i s=>uA s (B1 tt t (.agg cs) i)
    |v=>K4 tt t v i s fun i s=>uA s (B1 tt t v i)
   |none=> .fail
 | .lookup t m k ok=>Cq s m fun v=>match ev s k with
   |some k=>match zE v s.h with
    |some (_,e,t')=>BZ tt t k ok e t' s
    |none=>pS tt t v k s fun s=>uA s (HR tt s.pc t v k ok s.h)
   |none=> .fail
 | .mapUpdate t m k x=>Cq s m fun v=>match ev s k,ev s x with
   |some k,some x=>match zE v s.h with
    |some _=>MG tt t v k x s
    |none=>pS tt t v k s fun s=>SS s (s6 tt s.pc t v k x s.h)
   |_,_=> .fail
 | .insert t m k x=>Cq s m fun v=>match ev s k,ev s x with
   |some k,some x=>match zE v s.h with
    |some _=>MG tt t v k x s
    |none=>pS tt t v k s fun s=>SS s (s6 tt s.pc t v k x s.h)
   |_,_=> .fail
 | .range t x=>Cq s x fun v=>D2 s (MF tt t v s.h)
 | .next x isS=>Cq s x fun v=>D2 s (T6 v isS s.h)
 | .extract x i=>Cq s x fun v=>match v with
   | .tuple vs=>uA s (fR vs i)
   |_=> .fail
 | .call c=>MQ tt call s c
 |_=> .fail
def yD {α:Type} (ops:List Oper) (s:St) (o:Oper) (f:St->Bool->T α):T α:=
 match o.guard with
 |none=>f s true
 |some (j,want)=>match fR ops j with
  |some oj=>match oj.dst with
   |some d=>match s.bC.get d with
    |some (.bool c)=>mA s c fun s b=>f s (b == want)
    |some (.tuple _)=>f s false
    |_=> .fail
   |none=> .fail
  |none=> .fail
def QF (tt:TT) (call:eT) (all:List Oper):List Oper->St->T St
 |[],s=> .ret s
 |o::rest,s=>yD all s o fun s b=>
  if b then (MH tt call s o.op).bind fun (v,s')=>QF tt call all rest (s'.OM o.dst v)
  else QF tt call all rest (s.OM o.dst AV.undef)
inductive Ex where
 |normal
 |exit (id:Nat)
 |ret
 deriving DecidableEq,Inhabited
def xP (body:St->T (Ex×St)):Nat->St->T (Ex×St)
 |0,_=> .fail
 |n+1,s=>(body s).bind fun (e,s')=>match e with
  | .normal=>xP body n s'
  |e=> .ret (e,s')
def jN (tt:TT) (call:eT) (draw:Nat->List Oper->St->T St) (lf:Nat):Code->St->T (Ex×St)
 | .skip,s=> .ret (.normal,s)
 | .region id ops d,s=>
   if d then (draw id ops.toList s).bind fun s'=> .ret (.normal,s')
   else (QF tt call ops.toList ops.toList s).bind fun s'=> .ret (.normal,s')
 | .seq a b,s=>(jN tt call draw lf a s).bind fun (e,s')=>match e with
   | .normal=>jN tt call draw lf b s'
   |e=> .ret (e,s')
 | .cond c x y,s=>match ev s c with
   |some (.bool c)=>mA s c fun s b=>if b then jN tt call draw lf x s else jN tt call draw lf y s
   |_=> .fail
 | .block id b,s=>(jN tt call draw lf b s).bind fun (e,s')=>match e with
   | .exit j=> .ret (if j=id then .normal else .exit j,s')
   |e=> .ret (e,s')
 | .loop b,s=>xP (jN tt call draw lf b) lf s
 | .exit id,s=> .ret (.exit id,s)
 | .scope b,s=>jN tt call draw lf b s
 | .label _,s=> .ret (.normal,s)
 | .ret,s=> .ret (.ret,s)
 |_,_=> .fail
def cf:List AV->Nat->Tr AV->Tr AV
 |[],_,t=>t
 |v::vs,i,t=>cf vs (i+1) (t.put i (some v))
def BY (tt:TT) (s:St):ResultVar->Option AV
 | .tmp t=>s.bC.get t
 | .cell a t=>match s.bC.get a with
   |some p=>Dw tt t p s.h
   |none=>none
def lY (tt:TT) (s:St):List ResultVar->Option (List AV)
 |[]=>some []
 |r::rs=>match BY tt s r with
  |none=>none
  |some v=>match lY tt s rs with
   |none=>none
   |some vs=>some (v::vs)
def MK (tt:TT) (ft:Nat->Option Func) (hook:Nat->Option (List AV->St->T (AV×St))) (draw:eT->Nat->Nat->List Oper->St->T St) (lf:Nat):Nat->eT
 |0,_,_,_=> .fail
 |n+1,g,args,s=>
  match hook g with
  |some h=>h args s
  |none=>match ft g with
   |none=> .fail
   |some fn=>match fn.body with
    |none=> .fail
    |some c=>
     (jN tt (MK tt ft hook draw lf n) (draw (MK tt ft hook draw lf n) g) lf c { s with bC:=cf args 0 .nil }).bind fun (e,s')=>
      match e with
      | .exit _=> .fail
      |_=>match lY tt s' fn.results.toList with
       |some [v]=> .ret (v,{ s' with bC:=s.bC })
       |some vs=> .ret (.tuple vs,{ s' with bC:=s.bC })
       |none=> .fail
end
end Go.As
end
section
namespace Go.As
section
variable {h h':Array Obj} {us:List Value} {ro:Nat->Prop} {c:CK} {d:D} {v:Value} {id:Nat}
structure En where
 ρ:Nat->Int
 θ:Nat->Nat×Nat
 κ:Nat->Nat
 dm:Nat->Prop
 ro:Nat->Prop
variable {E E':En}
def dB (s:List Nat):ByteArray:=⟨(s.map UInt8.ofNat).toArray⟩
def mE (h:Array Obj) (b o:Nat):Option Value:=
 match h[b]? with
 |some (.cells c _ _)=>c[o]?
 |_=>none
theorem qj (w:World) (b o:Nat):w.cell? ⟨b,o,none⟩ = mE w.heap b o:=by
 unfold World.cell? mE
 grind
def gr (h:Array Obj) (b o:Nat) (us:List Value):Prop:= ∀i u,us[i]?=some u->mE h b (o+i)=some u
inductive Rd (ro:Nat->Prop) (h:Array Obj):CK->D->Value->Prop where
 |int (k:IntKind) (n:Int):Rd ro h (.int k) (.i n) (.int k n)
 |bool (b:Bool):Rd ro h .bool (.i (if b then 1 else 0)) (.bool b)
 |str (s:ByteArray):Rd ro h .str (wF s) (.string s)
 |nil (t:Nat):Rd ro h (.sl t) (.i 1) (.slice none 0 0)
 |Ap (t:Nat) (a:Addr) (cap:Nat):Rd ro h (.sl t) (.i 2) (.slice (some a) 0 cap)
 |one (t:Nat) (c:CK) (b o cap:Nat) (ds:List D) (f:Nat->Value) (hr:rowOf t= .one c) (hc:ds.length<=cap) (hb:ro b)
  (U: ∀i d,ds[i]?=some d->mE h b (o+i)=some (f i)) (Z: ∀i d,ds[i]?=some d->Rd ro h c d (f i)):Rd ro h (.sl t) (dL ds) (.slice (some ⟨b,o,none⟩) ds.length cap)
 |many (t:Nat) (cs:List CK) (b o cap:Nat) (rows:List (List D)) (f:Nat->Nat->Value) (hr:rowOf t= .many cs) (hc:rows.length<=cap) (hb:ro b) (hl: ∀r∈rows,r.length=cs.length)
  (U: ∀i r j d,rows[i]?=some r->r[j]?=some d->mE h b (o+i*cs.length+j)=some (f i j))
  (Z: ∀i r j d c,rows[i]?=some r->r[j]?=some d->cs[j]?=some c->Rd ro h c d (f i j)):Rd ro h (.sl t) (dL (rows.map dL)) (.slice (some ⟨b,o,none⟩) rows.length cap)
theorem Rd.afA (r:Rd ro h c d v):v.oneCell'=true:=by cases r<;>rfl
theorem Rd.du {pH:Nat->Prop} (k1: ∀b,ro b->pH b) (k2: ∀b,ro b->h'[b]?=h[b]?) (r:Rd ro h c d v):Rd pH h' c d v:=by
 have hk: ∀b o u,ro b->mE h b o=some u->mE h' b o=some u:=by
  intro b o u hb hu
  grind [mE]
 induction r with
 |int k n=>exact .int k n
 |bool b=>exact .bool b
 |str s=>exact .str s
 |nil t=>exact .nil t
 |Ap t a cap=>exact .Ap t a cap
 |one t c b o cap ds f hr hc hb U Z ih=>exact .one t c b o cap ds f hr hc (k1 b hb) (fun i d hi=>hk _ _ _ hb (U i d hi)) ih
 |many t cs b o cap rows f hr hc hb hl U Z ih=>exact .many t cs b o cap rows f hr hc (k1 b hb) hl (fun i r j d hi hj=>hk _ _ _ hb (U i r j d hi hj)) ih
def fS (E:En) (id off len:Nat) (a:Addr) (cap:Nat):U5->Prop
 | .exact c=>cap=c/\((a=⟨(E.θ id).1,(E.θ id).2+off,none⟩)\/c=0)
 | .rest es=>(a=⟨(E.θ id).1,(E.θ id).2+off,none⟩/\off+cap*es=E.κ id)\/(cap=0/\len=0/\off=E.κ id)
mutual
def VR (E:En) (h:Array Obj):AV->Value->Prop
 | .bool b,v=>v= .bool (b.den E.ρ)
 | .int k e,v=>v= .int k (e.den E.ρ)
 | .str s,v=>v= .string (dB s)/\∀b∈s,b<256
 | .ptr id off,v=>v= .pointer (some ⟨(E.θ id).1,(E.θ id).2+off,none⟩)/\E.dm id
 | .wz,v=>v= .pointer none
 | .pe cs,v=> ∃b o us,v= .pointer (some ⟨b,o,none⟩)/\E.ro b/\cJ E h cs us/\gr h b o us/\∀u∈us,u.oneCell'=true
 | .slice id off len c,v=>E.dm id/\∃a cap,v= .slice (some a) len cap/\len<=cap/\fS E id off len a cap c
 | .ij,v=>v= .slice none 0 0
 | .ro cs n full,v=> ∃b o cap us,v= .slice (some ⟨b,o,none⟩) n cap/\n<=cap/\(full=true->cap=n)/\E.ro b/\cJ E h cs us/\gr h b o us/\∀u∈us,u.oneCell'=true
 | .map id,v=>v= .map (some (E.θ id).1)/\E.dm id
 | .vf,v=>v= .map none
 | .func fn fs cs,v=> ∃us ws,v= .func fn us.toArray ws.toArray/\cJ E h fs us/\cJ E h cs ws
 | .zf,v=>v= .nilFunc
 | .iface t x,v=> ∃u,v= .iface t u/\VR E h x u
 | .Aq,v=>v= .nilIface
 | .agg cs,v=> ∃us,v= .agg us.toArray/\cJ E h cs us
 | .tuple cs,v=> ∃us,v= .tuple us.toArray/\cJ E h cs us
 | .O8 _,_=>False
 | .emp,v=> ∃x,v= .slice x 0 0
 | .eW e t,v=>Rd E.ro h (.sl t) (dec (e.den E.ρ)) v
 | .kZ e,v=>Rd E.ro h .str (dec (e.den E.ρ)) v
 | .sG id n t,v=>E.dm id/\∃(k:Nat) (a:Addr) (cap:Nat),n.den E.ρ=(k:Int)/\v= .slice (some a) k cap/\k<=cap/\fS E id 0 k a cap (.rest (rowOf t).es)
 | .B6 id es i off,v=>E.dm id/\∃k:Nat,i.den E.ρ=(k:Int)/\v= .pointer (some ⟨(E.θ id).1,(E.θ id).2+(k*es+off),none⟩)
 | .any,_=>True
 | .AX z t,v=>(∃x,v= .slice x 0 0)/\Rd E.ro h (.sl t) (dec (z.den E.ρ)) v
 | .wH id lo n t,v=>E.dm id/\∃(l k:Nat) (a:Addr) (cap:Nat),lo.den E.ρ=(l:Int)/\n.den E.ρ=(k:Int)/\v= .slice (some a) k cap/\k<=cap/\fS E id (l*(rowOf t).es) k a cap (.rest (rowOf t).es)
 | .zG k ks,v=>((∃x cap,v= .slice x 0 cap)/\E.ρ (900+k)=0)\/∃b o n cap,v= .slice (some ⟨b,o,none⟩) n cap/\n<=cap/\E.ρ (900+k)=(n:Int)/\E.ro b/\
  ∀i j kd,i<n->ks[j]?=some kd->mE h b (o+i*ks.length+j)=some (.int kd (E.ρ (1000+i*64+(k*8+j))))
def cJ (E:En) (h:Array Obj):List AV->List Value->Prop
 |[],us=>us= []
 |x::xs,us=> ∃u vs,us=u::vs/\VR E h x u/\cJ E h xs vs
end
theorem jn:cJ E h [] us↔us= []:=by simp [cJ]
theorem bS {x:AV} {xs:List AV}:cJ E h (x::xs) us↔∃u vs,us=u::vs/\VR E h x u/\cJ E h xs vs:=by simp [cJ]
theorem cJ.length {E:En} {h:Array Obj}: ∀{xs:List AV} {us:List Value},cJ E h xs us->us.length=xs.length
 |[],us,hh=>by rw [jn] at hh; simp [hh]
 |x::xs,us,hh=>by rw [bS] at hh;obtain⟨u,vs,rfl,_,Z⟩:=hh;simp [Z.length]
theorem cJ.append {E:En} {h:Array Obj}: ∀{xs ys:List AV} {us vs:List Value},cJ E h xs us->cJ E h ys vs->cJ E h (xs++ys) (us++vs)
 |[],_,us,vs,U,Z=>by rw [jn] at U; subst U; simpa using Z
 |x::xs,ys,us,vs,U,Z=>by rw [bS] at U;obtain⟨u,iI,rfl,hx,qo⟩:=U;simp only [aG];rw [bS];exact⟨u,iI++vs,rfl,hx,qo.append Z⟩
theorem cJ.ja {E:En} {h:Array Obj}: ∀{n:Nat} {xs ys:List AV} {us:List Value},cJ E h xs us->As.ja n xs=some ys->cJ E h ys (us.take n)/\n<=xs.length
 |0,xs,ys,us,_,Z=>by simp [As.ja] at Z; subst Z; simp [cJ]
 |n+1,[],ys,us,_,Z=>by simp [As.ja] at Z
 |n+1,x::xs,ys,us,U,Z=>by
  rw [bS] at U;obtain⟨u,vs,rfl,hx,qo⟩:=U;simp only [As.ja] at Z;split at Z
  ·rename_i l hl;simp at Z;subst Z;have:=qo.ja hl
   grind [bS]
  grind
theorem cJ.fq {E:En} {h:Array Obj}: ∀{n:Nat} {xs ys:List AV} {us:List Value},cJ E h xs us->As.fq n xs=some ys->cJ E h ys (us.drop n)/\n<=xs.length/\ys.length=xs.length-n
 |0,xs,ys,us,U,Z=>by simp [As.fq] at Z; subst Z; simpa using U
 |n+1,[],ys,us,_,Z=>by simp [As.fq] at Z
 |n+1,x::xs,ys,us,U,Z=>by
  rw [bS] at U;obtain⟨u,vs,rfl,hx,qo⟩:=U;simp only [As.fq] at Z;have:=qo.fq Z
  grind
theorem cJ.nth {E:En} {h:Array Obj}: ∀{i:Nat} {xs:List AV} {x:AV} {us:List Value},cJ E h xs us->fR xs i=some x->∃u,us[i]?=some u/\VR E h x u
 |_,[],_,us,_,Z=>by simp [fR] at Z
 |0,x::xs,y,us,U,Z=>by
  rw [bS] at U;obtain⟨u,vs,rfl,hx,qo⟩:=U
  grind [fR]
 |i+1,x::xs,y,us,U,Z=>by
  rw [bS] at U;obtain⟨u,vs,rfl,hx,qo⟩:=U;simp only [fR] at Z;obtain⟨v,h3,h4⟩:=qo.nth Z
  grind
def fb (E:En) (h:Array Obj):List (AV×AV×Nat)->List MapEntry->Prop
 |[],es=>es= []
 |(k,v,b)::xs,es=> ∃e r,es=e::r/\VR E h k e.key/\VR E h v e.val/\b=b/\fb E h xs r
def mu (ro:Nat->Prop) (h:Array Obj) (t:Nat):List D->List MapEntry->Prop
 |[],es=>es= []
 |d::ds,es=> ∃e r,es=e::r/\d= .p (UD d) (adL d)/\Rd ro h (mapOf t).1 (UD d) e.key/\Rd ro h (mapOf t).2 (adL d) e.val/\mu ro h t ds r
theorem mu.du {ro pH:Nat->Prop} {h h':Array Obj} (k1: ∀b,ro b->pH b) (k2: ∀b,ro b->h'[b]?=h[b]?) {t:Nat}: ∀{ds:List D} {es:List MapEntry},mu ro h t ds es->mu pH h' t ds es
 |[],_,hh=>hh
 |_::_,_,hh=>by obtain⟨e,r,U,Z,h3,h4,h5⟩:=hh;exact⟨e,r,U,Z,h3.du k1 k2,h4.du k1 k2,mu.du k1 k2 h5⟩
theorem mu.length {ro:Nat->Prop} {h:Array Obj} {t:Nat}: ∀{ds:List D} {es:List MapEntry},mu ro h t ds es->es.length=ds.length
 |[],_,hh=>by simp only [mu] at hh; rw [hh]; rfl
 |_::_,_,hh=>by obtain⟨e,r,U,_,_,_,h5⟩:=hh;rw [U,aT,aT,mu.length h5]
noncomputable def eA (ρ:Nat->Int) (i:Nat):List (Y×List AV)->Option (List AV)
 |[]=>none
 |(j,cs)::l=>if j.den ρ=(i:Int) then some cs else eA ρ i l
noncomputable def bH (ρ:Nat->Int) (r:Row) (ov:List (Y×List AV)):List D->Nat->List AV
 |[],_=>[]
 |d::ds,i=>(match eA ρ i ov with |some cs=>cs|none=>iu r (.eW d))++bH ρ r ov ds (i+1)
def xo (r:Row) (ov:List (Y×List AV)):Prop:= ∀p∈ov,p.2.length=r.es
def OR (E:En) (h:Array Obj) (id:Nat):eN->Prop
 | .cells cs e=> ∃arr lo hi us,h[(E.θ id).1]?=some (.cells arr e (lo,hi))/\cJ E h cs us/\(∀i u,us[i]?=some u->arr[(E.θ id).2+i]?=some u)/\
  cs.length<=E.κ id/\(E.θ id).2+E.κ id=arr.size/\(∀o,lo<=o->o<hi->arr.size<=o)/\(∀u∈us,u.oneCell'=true)
 | .map es _=> ∃cG c,h[(E.θ id).1]?=some (.map cG c)/\fb E h es cG.toList
 | .vec e t ty ov=>(xo (rowOf t) ov/\yd (rowOf t) (dec (e.den E.ρ)))/\∃arr lo hi us,h[(E.θ id).1]?=some (.cells arr ty (lo,hi))/\cJ E h (bH E.ρ (rowOf t) ov (dec (e.den E.ρ)).l 0) us/\(∀i u,us[i]?=some u->arr[(E.θ id).2+i]?=some u)/\
  (bH E.ρ (rowOf t) ov (dec (e.den E.ρ)).l 0).length<=E.κ id/\(E.θ id).2+E.κ id=arr.size/\(∀o,lo<=o->o<hi->arr.size<=o)/\(∀u∈us,u.oneCell'=true)
 | .l4 s p=>h[(E.θ id).1]?=some (.stringIter (dB s) p)/\(E.θ id).2=0/\∀b∈s,b<256
 | .mB e t=> ∃cG c,h[(E.θ id).1]?=some (.map cG c)/\mu E.ro h t (dec (e.den E.ρ)).l cG.toList
class bN where
 ok:(Nat->Int)->(Nat->Prop)->Array Obj->Prop
 du: ∀{ρ:Nat->Int} {ro pH:Nat->Prop} {h h':Array Obj},ok ρ ro h->(∀b,ro b->pH b)->(∀b,ro b->h'[b]?=h[b]?)->ok ρ pH h'
 jI: ∀{ρ ρ':Nat->Int} {ro:Nat->Prop} {h:Array Obj},ok ρ ro h->(∀i,900<=i->ρ' i=ρ i)->ok ρ' ro h
structure bV [bN] (E:En) (H:Hp) (w:World):Prop where
 fresh: ∀id,H.next<=id->¬E.dm id
 res: ∀r,H.res=some r->r<H.next/\¬E.dm r
 live: ∀id o,H.get id=some o->E.dm id/\OR E w.heap id o/\¬E.ro (E.θ id).1
 inj: ∀id Tv o o',H.get id=some o->H.get Tv=some o'->(E.θ id).1=(E.θ Tv).1->id=Tv
 xl: ∀b,E.ro b->b<w.heap.size
 mI:bN.ok E.ρ E.ro w.heap
structure fD (E:En) (H:Hp) (w:World) (E':En) (H':Hp) (w':World):Prop where
 ρ:E'.ρ=E.ρ
 dm: ∀id,E.dm id->E'.dm id
 θ: ∀id,E.dm id->E'.θ id=E.θ id
 κ: ∀id,E.dm id->E'.κ id=E.κ id
 ro: ∀b,E.ro b->E'.ro b
 D0: ∀b,E'.ro b->E.ro b\/(∃id o,H.get id=some o/\(E.θ id).1=b)\/w.heap.size<=b
 nxm:H.next<=H'.next
 rsm:H'.res=none\/H'.res=H.res
 dmn: ∀id,E'.dm id->E.dm id\/(H.next<=id/\id<H'.next)\/H.res=some id
 os:w'.os=w.os
 tape:w'.tape=w.tape
 output:w'.output=w.output
 size:w.heap.size<=w'.heap.size
 du: ∀b,b<w.heap.size->(∀id o,H.get id=some o->(E.θ id).1≠b)->w'.heap[b]?=w.heap[b]?
 own: ∀id o,H'.get id=some o->(E'.θ id).1<w.heap.size->∃AR o0,H.get AR=some o0/\(E.θ AR).1=(E'.θ id).1
theorem fD.refl (E:En) (H:Hp) (w:World):fD E H w E H w:=
 ⟨rfl,fun _ h=>h,fun _ _=>rfl,fun _ _=>rfl,fun _ h=>h,fun _ h=> .inl h,aw _,.inr rfl,fun _ h=> .inl h,rfl,rfl,rfl,aw _,fun _ _ _=>rfl,fun id o h _=> ⟨id,o,h,rfl⟩⟩
theorem fD.trans {E1 E2:En} {H H1 H2:Hp} {w w1 w2:World} (a:fD E H w E1 H1 w1) (b:fD E1 H1 w1 E2 H2 w2):fD E H w E2 H2 w2 where
 ρ:=b.ρ.trans a.ρ
 dm:=fun id h=>b.dm id (a.dm id h)
 θ:=fun id h=>(b.θ id (a.dm id h)).trans (a.θ id h)
 κ:=fun id h=>(b.κ id (a.dm id h)).trans (a.κ id h)
 ro:=fun x h=>b.ro x (a.ro x h)
 D0:=fun x h=>by
  rcases b.D0 x h with h|⟨id,o,U,Z⟩|h
  ·exact a.D0 x h
  ·rcases aX x w.heap.size with hx|hx
   ·obtain⟨AR,o0,h3,h4⟩:=a.own id o U (by rw [Z]; exact hx);exact .inr (.inl ⟨AR,o0,h3,h4.trans Z⟩)
   ·exact .inr (.inr hx)
  ·exact .inr (.inr (br a.size h))
 nxm:=br a.nxm b.nxm
 rsm:=by
  rcases b.rsm with h|h
  ·exact .inl h
  ·rw [h]; exact a.rsm
 dmn:=fun id h=>by
  rcases b.dmn id h with h|h|h
  ·rcases a.dmn id h with h|h|h
   ·exact .inl h
   ·exact .inr (.inl ⟨h.1,awi h.2 b.nxm⟩)
   ·exact .inr (.inr h)
  ·exact .inr (.inl ⟨br a.nxm h.1,h.2⟩)
  ·rcases a.rsm with h'|h'
   ·rw [h'] at h; simp at h
   ·exact .inr (.inr (h'.symm.trans h))
 os:=b.os.trans a.os
 tape:=b.tape.trans a.tape
 output:=b.output.trans a.output
 size:=br a.size b.size
 du:=fun x hx hn=>by rw [b.du x (awi hx a.size) ?_,a.du x hx hn];intro id o ho he;obtain⟨AR,o0,h0,he0⟩:=a.own id o ho (by rw [he]; exact hx);exact hn AR o0 h0 (he0.trans he)
 own:=fun id o ho gB=>by obtain⟨id1,o1,U,TD⟩:=b.own id o ho (awi gB a.size);obtain⟨AR,o0,h0,he0⟩:=a.own id1 o1 U (by rw [TD]; exact gB);exact⟨AR,o0,h0,he0.trans TD⟩
structure lr (E:En) (h:Array Obj) (E':En) (h':Array Obj):Prop where
 ρ:E'.ρ=E.ρ
 dm: ∀id,E.dm id->E'.dm id
 θ: ∀id,E.dm id->E'.θ id=E.θ id
 κ: ∀id,E.dm id->E'.κ id=E.κ id
 ro: ∀b,E.ro b->E'.ro b
 Gx: ∀b,E.ro b->h'[b]?=h[b]?
theorem fD.keeps [bN] {H H':Hp} {w w':World} (s:fD E H w E' H' w') (r:bV E H w):lr E w.heap E' w'.heap:=
 ⟨s.ρ,s.dm,s.θ,s.κ,s.ro,fun b hb=>s.du b (r.xl b hb) fun id o ho he=>(r.live id o ho).2.2 (by rw [he]; exact hb)⟩
theorem gr.du (k:lr E h E' h') {b o:Nat} (hb:E.ro b) (hc:gr h b o us):gr h' b o us:=by
 intro i u hu;have:=hc i u hu;unfold mE at *;rw [k.Gx b hb]
 grind
theorem fS.du (k:lr E h E' h') {off len:Nat} {a:Addr} {cap:Nat} {c:U5} (hid:E.dm id) (hc:fS E id off len a cap c):fS E' id off len a cap c:=by
 cases c<;>simp only [fS] at*<;>rw [k.θ id hid]
 ·exact hc
 ·rw [k.κ id hid]; exact hc
mutual
theorem VR.du {E E':En} {h h':Array Obj} (k:lr E h E' h'): ∀(x:AV) (v:Value),VR E h x v->VR E' h' x v
 | .bool b,v,hv=>by simp only [VR] at *; rw [k.ρ]; exact hv
 | .int _ e,v,hv=>by simp only [VR] at *; rw [k.ρ]; exact hv
 | .str s,v,hv=>by simp only [VR] at *; exact hv
 | .ptr id off,v,hv=>by simp only [VR] at *; rw [k.θ id hv.2]; exact⟨hv.1,k.dm _ hv.2⟩
 | .wz,v,hv=>by simp only [VR] at *; exact hv
 | .pe cs,v,hv=>by simp only [VR] at *;obtain⟨b,o,us,U,Z,h3,h4,h5⟩:=hv;exact⟨b,o,us,U,k.ro b Z,cJ.du k cs us h3,h4.du k Z,h5⟩
 | .slice id off len c,v,hv=>by simp only [VR] at *;obtain⟨U,a,cap,Z,h3,h4⟩:=hv;exact⟨k.dm _ U,a,cap,Z,h3,h4.du k U⟩
 | .ij,v,hv=>by simp only [VR] at *; exact hv
 | .ro cs n full,v,hv=>by simp only [VR] at *;obtain⟨b,o,cap,us,U,Z,h3,h4,h5,h6,h7⟩:=hv;exact⟨b,o,cap,us,U,Z,h3,k.ro b h4,cJ.du k cs us h5,h6.du k h4,h7⟩
 | .map id,v,hv=>by simp only [VR] at *; rw [k.θ id hv.2]; exact⟨hv.1,k.dm _ hv.2⟩
 | .vf,v,hv=>by simp only [VR] at *; exact hv
 | .func fn fs cs,v,hv=>by simp only [VR] at *;obtain⟨us,ws,U,Z,h3⟩:=hv;exact⟨us,ws,U,cJ.du k fs us Z,cJ.du k cs ws h3⟩
 | .zf,v,hv=>by simp only [VR] at *; exact hv
 | .iface t x,v,hv=>by simp only [VR] at *;obtain⟨u,U,Z⟩:=hv;exact⟨u,U,VR.du k x u Z⟩
 | .Aq,v,hv=>by simp only [VR] at *; exact hv
 | .agg cs,v,hv=>by exact ahA
 | .tuple cs,v,hv=>by exact ahA
 | .O8 _,v,hv=>by simp only [VR] at hv
 | .emp,v,hv=>by simp only [VR] at *; exact hv
 | .eW e t,v,hv=>by simp only [VR] at *; rw [k.ρ]; exact hv.du k.ro k.Gx
 | .kZ e,v,hv=>by simp only [VR] at *; rw [k.ρ]; exact hv.du k.ro k.Gx
 | .sG id n t,v,hv=>by simp only [VR] at *;obtain⟨U,m,a,cap,Z,h3,h4,h5⟩:=hv;exact⟨k.dm _ U,m,a,cap,by rw [k.ρ]; exact Z,h3,h4,h5.du k U⟩
 | .any,_,_=>by simp only [VR]
 | .AX z t,v,hv=>by simp only [VR] at *; rw [k.ρ]; exact⟨hv.1,hv.2.du k.ro k.Gx⟩
 | .wH id lo n t,v,hv=>by simp only [VR] at *;obtain⟨U,l,m,a,cap,Z,h3,h4,h5,h6⟩:=hv;exact⟨k.dm _ U,l,m,a,cap,by rw [k.ρ]; exact Z,by rw [k.ρ]; exact h3,h4,h5,h6.du k U⟩
 | .B6 id es i off,v,hv=>by simp only [VR] at *;obtain⟨U,m,Z,h3⟩:=hv;exact⟨k.dm _ U,m,by rw [k.ρ]; exact Z,by rw [k.θ id U]; exact h3⟩
 | .zG kk ks,v,hv=>by
   simp only [VR] at *;rw [k.ρ];rcases hv with hv|⟨b,o,n,cap,U,Z,h3,h4,h5⟩
   ·grind
   ·refine .inr ⟨b,o,n,cap,U,Z,h3,k.ro b h4,fun i j kd hi hj=>?_⟩;have:=h5 i j kd hi hj;unfold mE at *;rw [k.Gx b h4]
    grind
theorem cJ.du {E E':En} {h h':Array Obj} (k:lr E h E' h'): ∀(xs:List AV) (us:List Value),cJ E h xs us->cJ E' h' xs us
 |[],us,hv=>by simp only [cJ] at *; exact hv
 |x::xs,us,hv=>by simp only [cJ] at *;obtain⟨u,vs,U,Z,h3⟩:=hv;exact⟨u,vs,U,VR.du k x u Z,cJ.du k xs vs h3⟩
end
theorem fb.du {E E':En} {h h':Array Obj} (k:lr E h E' h'): ∀(xs:List (AV×AV×Nat)) (es:List MapEntry),fb E h xs es->fb E' h' xs es
 |[],es,hv=>by simp only [fb] at *; exact hv
 |(a,b,c)::xs,es,hv=>by simp only [fb] at *;obtain⟨e,r,U,Z,h3,h4,h5⟩:=hv;exact⟨e,r,U,VR.du k _ _ Z,VR.du k _ _ h3,h4,fb.du k xs r h5⟩
theorem OR.du (k:lr E h E' h') {o:eN} (hid:E.dm id) (hb:h'[(E.θ id).1]?=h[(E.θ id).1]?) (ho:OR E h id o):OR E' h' id o:=by
 cases o with
 |cells cs e=> simp only [OR] at *;obtain⟨arr,lo,hi,us,U,Z,h3,h4,h5,h6,h7⟩:=ho;rw [k.θ id hid,k.κ id hid,hb];exact⟨arr,lo,hi,us,U,cJ.du k cs us Z,h3,h4,h5,h6,h7⟩
 |map es c=>
  simp only [OR] at *;obtain⟨cG,c,U,Z⟩:=ho;rw [k.θ id hid,hb]
  grind [fb.du]
 |l4 s p=> simp only [OR] at *;rw [k.θ id hid,hb];exact ho
 |mB e t=> simp only [OR] at *;obtain⟨cG,c,U,Z⟩:=ho;rw [k.θ id hid,hb,k.ρ];exact⟨cG,c,U,Z.du k.ro k.Gx⟩
 |vec e t ty ov=> simp only [OR] at *;obtain⟨h0,arr,lo,hi,us,U,Z,h3,h4,h5,h6,h7⟩:=ho;rw [k.θ id hid,k.κ id hid,hb,k.ρ];exact⟨h0,arr,lo,hi,us,U,cJ.du k _ us Z,h3,h4,h5,h6,h7⟩
end
end Go.As
end
section
namespace Go.As
section
variable {H:Hp} {w w':World} {id i:Nat} {o:eN}
theorem Hp.bR (h:Hp) (i:Nat) (o:eN) (j:Nat):(h.put i o).get j=if j=i then some o else h.get j:=by simp [Hp.get,Hp.put,Tr.bR]
theorem Hp.gP (h:Hp) (o:eN) (j:Nat):(h.new o).get j=if j=h.fresh then some o else h.get j:=by
 grind [Hp.new,Hp.fresh,Hp.get,Tr.bR]
theorem bV.aeI [bN] {E:En} (r:bV E H w): ¬E.dm H.fresh:=by
 unfold Hp.fresh
 cases hr:H.res with
 |none=>exact r.fresh _ (aw _)
 |some x=>exact (r.res x hr).2
theorem bV.wx [bN] {E:En} (r:bV E H w) (h:E.dm i):i≠H.fresh:=fun e=>r.aeI (e▸h)
theorem Hp.qd (h:Hp) (i j:Nat):(h.drop i).get j=if j=i then none else h.get j:=by simp [Hp.get,Hp.drop,Tr.bR]
def En.ext (E:En) (n:Nat) (p:Nat×Nat) (c:Nat):En:=
 { E with θ:=fun i=>if i=n then p else E.θ i,κ:=fun i=>if i=n then c else E.κ i,dm:=fun i=>i=n\/E.dm i }
variable {E:En}
theorem En.ext_θ_new (E:En) (n:Nat) (p:Nat×Nat) (c:Nat):(E.ext n p c).θ n=p:=by simp [En.ext]
theorem En.ext_κ_new (E:En) (n:Nat) (p:Nat×Nat) (c:Nat):(E.ext n p c).κ n=c:=by simp [En.ext]
theorem En.iL (E:En) (n:Nat) (p:Nat×Nat) (c:Nat):(E.ext n p c).dm n:=.inl rfl
theorem En.ext_θ (E:En) (n:Nat) (p:Nat×Nat) (c:Nat) (h:i≠n):(E.ext n p c).θ i=E.θ i:=by simp [En.ext,h]
theorem En.ext_κ (E:En) (n:Nat) (p:Nat×Nat) (c:Nat) (h:i≠n):(E.ext n p c).κ i=E.κ i:=by simp [En.ext,h]
theorem KH [bN] (r:bV E H w) (p:Nat×Nat) (c:Nat) (o:eN):(∀id,(H.new o).next<=id->¬(E.ext H.fresh p c).dm id)/\∀q,(H.new o).res=some q->q<(H.new o).next/\¬(E.ext H.fresh p c).dm q:=by
 have U:=r.fresh;have Z:=r.res;unfold Hp.new Hp.fresh
 cases hr:H.res with
 |none=>
  refine⟨fun id hid V=>?_,ad⟩;simp at hid;rcases V with V|V
  all_goals grind
 |some q=>
  refine⟨fun id hid V=>?_,ad⟩;simp at hid;have:=Z q hr;rcases V with V|V
  all_goals grind
theorem uD (H:Hp) (o:eN):H.next<=(H.new o).next/\((H.new o).res=none\/(H.new o).res=H.res)/\∀id,id=H.fresh->(H.next<=id/\id<(H.new o).next)\/H.res=some id:=by
 grind [Hp.new,Hp.fresh]
structure Alike (w w':World):Prop where
 os:w'.os=w.os
 tape:w'.tape=w.tape
 output:w'.output=w.output
theorem GM {h:Array Obj} {o:Obj} {b:Nat} (hb:b<h.size):(h.push o)[b]?=h[b]?:=by
 grind
theorem Hf [bN] (r:bV E H w) (p:Nat×Nat) (c:Nat) (o:Obj):lr E w.heap (E.ext H.fresh p c) (w.heap.push o):=
 ⟨rfl,fun _ h=> .inr h,fun _ h=>En.ext_θ E _ p c (r.wx h),fun _ h=>En.ext_κ E _ p c (r.wx h),fun _ h=>h,fun b hb=>GM (r.xl b hb)⟩
theorem iz [bN] (r:bV E H w) (h:H.get id=some o):(E.θ id).1<w.heap.size:=by
 have Z:=(r.live id o h).2.1
 cases o with
 |cells cs e=>
  obtain⟨arr,lo,hi,us,U,_⟩:=Z
  grind
 |map es c=>
  obtain⟨cG,c',U,_⟩:=Z
  grind
 |l4 s p=>exact (awc.1 Z.1).1
 |mB e t=>
  obtain⟨cG,c',U,_⟩:=Z
  grind
 |vec e t ty ov=>
  obtain⟨_,arr,lo,hi,us,U,_⟩:=Z
  grind
theorem Bq [bN] (r:bV E H w) (o:Obj) (ao:eN) (c:Nat) (hw:w'.heap=w.heap.push o) (al:Alike w w')
 (ho:OR (E.ext H.fresh (w.heap.size,0) c) w'.heap H.fresh ao) :
 fD E H w (E.ext H.fresh (w.heap.size,0) c) (H.new ao) w'/\bV (E.ext H.fresh (w.heap.size,0) c) (H.new ao) w':=by
 have k:=Hf r (w.heap.size,0) c o;rw [<- hw] at k;have hf:=KH r (w.heap.size,0) c ao;refine⟨⟨k.ρ,k.dm,k.θ,k.κ,k.ro,fun _ h=> .inl h,(uD H ao).1,(uD H ao).2.1,fun id h=>h.elim (fun e=> .inr ((uD H ao).2.2 id e)) .inl,al.os,al.tape,al.output,by rw [hw]; simp,fun b hb _=>by rw [hw,GM hb],?_⟩,⟨hf.1,hf.2,?_,?_,?_,bN.du r.mI k.ro k.Gx⟩⟩
 ·intro id o2 Z gB;rw [Hp.gP] at Z;split at Z
  ·rename_i he
   grind [En.ext_θ_new]
  ·have h3:=(r.live id o2 Z).1;exact⟨id,o2,Z,by rw [En.ext_θ _ _ _ _ (r.wx h3)]⟩
 ·intro id o2 Z;rw [Hp.gP] at Z;split at Z
  ·rename_i he;simp at Z;subst Z;rw [he,En.ext_θ_new];refine⟨En.iL _ _ _ _,ho,fun hr=>?_⟩;have:=r.xl _ hr
   grind
  ·obtain⟨h3,h4,h5⟩:=r.live id o2 Z;refine⟨.inr h3,h4.du k h3 ?_,?_⟩
   ·grind [GM,iz]
   ·rw [En.ext_θ _ _ _ _ (r.wx h3)]; exact h5
 ·intro id Tv o1 o2 U Z he;rw [Hp.gP] at U Z;split at U<;>split at Z
  ·omega
  ·rename_i e1 _;have h3:=(r.live Tv o2 Z).1;rw [e1,En.ext_θ_new,En.ext_θ _ _ _ _ (r.wx h3)] at he;have:=iz r Z
   grind
  ·rename_i _ e1;have h3:=(r.live id o1 U).1;rw [e1,En.ext_θ_new,En.ext_θ _ _ _ _ (r.wx h3)] at he;have:=iz r U
   grind
  ·have h3:=(r.live id o1 U).1;have h4:=(r.live Tv o2 Z).1;rw [En.ext_θ _ _ _ _ (r.wx h3),En.ext_θ _ _ _ _ (r.wx h4)] at he;exact r.inj id Tv o1 o2 U Z he
 ·intro b hb;have:=r.xl b hb
  grind
theorem pZ [bN] (r:bV E H w) (hl:H.get id=some o)
 (tx: ∀b,b≠(E.θ id).1->w'.heap[b]?=w.heap[b]?):lr E w.heap E w'.heap:=
 ⟨rfl,fun _ h=>h,fun _ _=>rfl,fun _ _=>rfl,fun _ h=>h,fun b hb=>tx b fun e=>(r.live id o hl).2.2 (by rw [<- e]; exact hb)⟩
theorem OV [bN] (r:bV E H w) (hl:H.get id=some o) (ao:eN)
 (abg:w'.heap.size=w.heap.size) (tx: ∀b,b≠(E.θ id).1->w'.heap[b]?=w.heap[b]?) (al:Alike w w') (ho:OR E w'.heap id ao) :
 fD E H w E (H.put id ao) w'/\bV E (H.put id ao) w':=by
 have k:=pZ r hl tx;refine⟨⟨rfl,fun _ h=>h,fun _ _=>rfl,fun _ _=>rfl,fun _ h=>h,fun _ h=> .inl h,aw _,.inr rfl,fun _ h=> .inl h,al.os,al.tape,al.output,J,?_,?_⟩,⟨r.fresh,r.res,?_,?_,?_,bN.du r.mI k.ro k.Gx⟩⟩
 ·intro b _ hn
  grind
 ·intro j o2 Z _
  grind [Hp.bR]
 ·intro j o2 Z;rw [Hp.bR] at Z;split at Z
  ·rename_i e;subst e;simp at Z;subst Z;exact⟨(r.live j o hl).1,ho,(r.live j o hl).2.2⟩
  ·rename_i e;obtain⟨h3,h4,h5⟩:=r.live j o2 Z;refine⟨h3,h4.du k h3 (tx _ fun e2=>e (r.inj j id o2 o Z hl e2)),h5⟩
 ·intro i j o1 o2 U Z he;rw [Hp.bR] at U Z;split at U<;>split at Z
  ·omega
  ·rename_i e1 _; subst e1; exact r.inj i j o o2 hl Z he
  ·rename_i _ e1; subst e1; exact r.inj i j o1 o U hl he
  ·exact r.inj i j o1 o2 U Z he
 ·intro b hb;rw [abg];exact r.xl b hb
theorem KQ [bN] (r:bV E H w) (id:Nat):fD E H w E (H.drop id) w/\bV E (H.drop id) w:=by
 have hg: ∀j o,(H.drop id).get j=some o->H.get j=some o:=by
  intro j o h
  grind [Hp.qd]
 exact⟨⟨rfl,fun _ h=>h,fun _ _=>rfl,fun _ _=>rfl,fun _ h=>h,fun _ h=> .inl h,aw _,.inr rfl,fun _ h=> .inl h,rfl,rfl,rfl,aw _,fun _ _ _=>rfl,fun j o h _=> ⟨j,o,hg j o h,rfl⟩⟩,
  ⟨r.fresh,r.res,fun j o h=>r.live j o (hg j o h),fun i j o1 o2 U Z he=>r.inj i j o1 o2 (hg _ _ U) (hg _ _ Z) he,r.xl,r.mI⟩⟩
theorem SV [bN] (r:bV E H w) (hl:H.get id=some o) (ao:eN) (off c:Nat)
 (abg:w'.heap.size=w.heap.size) (tx: ∀b,b≠(E.θ id).1->w'.heap[b]?=w.heap[b]?) (al:Alike w w')
 (ho:OR (E.ext H.fresh ((E.θ id).1,(E.θ id).2+off) c) w'.heap H.fresh ao) :
 fD E H w (E.ext H.fresh ((E.θ id).1,(E.θ id).2+off) c) ((H.drop id).new ao) w'/\bV (E.ext H.fresh ((E.θ id).1,(E.θ id).2+off) c) ((H.drop id).new ao) w':=by
 have hdn:(H.drop id).fresh=H.fresh:=rfl;have hf:=KH (KQ r id).2 ((E.θ id).1,(E.θ id).2+off) c ao;rw [hdn] at hf
 have k:lr E w.heap (E.ext H.fresh ((E.θ id).1,(E.θ id).2+off) c) w'.heap:=
  ⟨rfl,fun _ h=> .inr h,fun _ h=>En.ext_θ E _ _ c (r.wx h),fun _ h=>En.ext_κ E _ _ c (r.wx h),fun _ h=>h,(pZ r hl tx).Gx⟩
 have hg: ∀j o2,((H.drop id).new ao).get j=some o2->(j=H.fresh/\o2=ao)\/(j≠id/\H.get j=some o2):=by
  intro j o2 h
  grind [Hp.gP,Hp.qd]
 refine⟨⟨rfl,k.dm,k.θ,k.κ,k.ro,fun _ h=> .inl h,(uD (H.drop id) ao).1,(uD (H.drop id) ao).2.1,fun j h=>h.elim (fun e=> .inr ((uD (H.drop id) ao).2.2 j e)) .inl,al.os,al.tape,al.output,J,?_,?_⟩,⟨hf.1,hf.2,?_,?_,?_,bN.du r.mI k.ro k.Gx⟩⟩
 ·intro b _ hn
  grind
 ·intro j o2 Z gB;rcases hg j o2 Z with ⟨rfl,rfl⟩|⟨_,h3⟩
  ·grind [En.ext_θ_new]
  ·have:=(r.live j o2 h3).1;exact⟨j,o2,h3,by rw [En.ext_θ _ _ _ _ (r.wx this)]⟩
 ·intro j o2 Z;rcases hg j o2 Z with ⟨rfl,rfl⟩|⟨kg,h3⟩
  ·rw [En.ext_θ_new];exact⟨En.iL _ _ _ _,ho,(r.live id o hl).2.2⟩
  ·obtain⟨h4,h5,h6⟩:=r.live j o2 h3;refine⟨.inr h4,h5.du k h4 (tx _ fun e=>kg (r.inj j id o2 o h3 hl e)),?_⟩;rw [En.ext_θ _ _ _ _ (r.wx h4)]; exact h6
 ·intro i j o1 o2 U Z he;rcases hg i o1 U with ⟨e1,_⟩|⟨e1,h3⟩ <;>rcases hg j o2 Z with ⟨e2,_⟩|⟨e2,h4⟩
  ·omega
  ·have:=(r.live j o2 h4).1;rw [e1,En.ext_θ_new,En.ext_θ _ _ _ _ (r.wx this)] at he;exact absurd (r.inj id j o o2 hl h4 he).symm e2
  ·have:=(r.live i o1 h3).1;rw [e2,En.ext_θ_new,En.ext_θ _ _ _ _ (r.wx this)] at he;exact absurd (r.inj i id o1 o h3 hl he) e1
  ·have h5:=(r.live i o1 h3).1;have h6:=(r.live j o2 h4).1;rw [En.ext_θ _ _ _ _ (r.wx h5),En.ext_θ _ _ _ _ (r.wx h6)] at he;exact r.inj i j o1 o2 h3 h4 he
 ·intro b hb;rw [abg];exact r.xl b hb
end
def Me:Value->Bool
 | .agg _=>true
 |_=>false
def w? (P:Program):TypeDesc->Option TK
 | .bool=>some .bool
 | .int k=>some (.int k)
 | .string=>some .string
 | .pointer e=>some (.pointer e)
 | .slice e=>some (.slice e)
 | .array n e=>some (.array n e)
 | .map k e=>some (.map k e)
 | .struct fs=>(fs.toList.mapM fun f=>(P.info? f.type).map fun i=>(f.offset,f.type,i.size)).map .struct
 | .func _ _ _=>some .func
 | .interface ms=>some (.iface ms.isEmpty)
 | .tuple _=>some .tuple
 |_=>none
def abP (P:Program) (t:Nat):Bool:=
 match P.underlying t with
 |some (.struct fs)=>!P.stoodInHeld t&&!P.eqGuardType P.depth t&&fs.toList.all fun f=>f.name != "_"&&(match P.underlying f.type with |some .bool|some .string|some (.int _)=>true|_=>false)
 |_=>false
def aqh (i:TypeInfo) (z:Value) (k:TK) (q:Bool):Option TI:=
 match lV z.cells.toList with
 |some zs=>if Me z=k.agg then some { kind:=k,size:=i.size,bytes:=i.bytes,zero:=zs,eqs:=q } else none
 |none=>none
def aeQ (P:Program) (t:Nat):Option TI:=
 match P.info? t with
 |none=>none
 |some i=>match P.underlying t with
  |none=>none
  |some d=>match w? P d with
   |none=>none
   |some k=>match i.zero with
    |none=>none
    |some z=>aqh i z k (abP P t)
section
variable {E:En} {h:Array Obj} {v:Value} {P:Program} {w:World} {b o n id:Nat} {us:List Value} {a x:AV} {cs:List AV} {e:TypeId} {H:Hp}
theorem gG (b o n:Nat):(⟨b,o,none⟩ : Addr).add n=⟨b,o+n,none⟩:=by unfold Addr.add; split<;>simp_all
def U2 (P:Program):TypeDesc->TK->Prop
 | .bool,.bool=>True
 | .int k,.int k'=>k=k'
 | .string,.string=>True
 | .pointer e,.pointer e'=>e=e'
 | .slice e,.slice e'=>e=e'
 | .array n e,.array n' e'=>n=n'/\e=e'
 | .map k e,.map k' e'=>k=k'/\e=e'
 | .struct fs,.struct l=>(fs.toList.mapM fun f=>(P.info? f.type).map fun i=>(f.offset,f.type,i.size))=some l
 | .func _ _ _,.func=>True
 | .interface _,.iface _=>True
 | .tuple _,.tuple=>True
 |_,_=>False
structure oP (P:Program) (t:Nat) (i:TI):Prop where
 eqs:i.eqs=true->abP P t=true
 all: ∃inf d z,P.info? t=some inf/\P.underlying t=some d/\inf.zero=some z/\lV z.cells.toList=some i.zero/\inf.size=i.size/\inf.bytes=i.bytes/\U2 P d i.kind/\Me z=i.agg
def eS (P:Program) (tt:TT):Prop:= ∀t i,tt t=some i->oP P t i
theorem aeO {d:TypeDesc} {k:TK} (h:w? P d=some k):U2 P d k:=by
 cases d
 case struct fs=>
  simp only [w?,aO] at h;obtain⟨l,U,rfl⟩:=h;exact U
 all_goals first
  |(simp only [w?,ah] at h; subst h; simp [U2]; done)
  |(simp [w?] at h; done)
theorem aeP {t:Nat} {i:TI} (h:aeQ P t=some i):oP P t i:=by
 unfold aeQ at h;split at h
 ·grind
 ·rename_i inf U;split at h
  ·grind
  ·rename_i d Z;split at h
   ·grind
   ·rename_i k hk;split at h
    ·grind
    ·rename_i z h3;unfold aqh at h;split at h
     ·rename_i zs h4;split at h
      ·rename_i ha;simp only [ah] at h;subst h;exact⟨fun hq=>hq,inf,d,z,U,Z,h3,h4,rfl,rfl,aeO hk,ha⟩
      grind
     grind
theorem lQ (s:ByteArray):dB (bytesOf s)=s:=by
 unfold dB bytesOf
 have:(List.map UInt8.ofNat (List.map (fun x=>x.toNat) s.data.toList))=s.data.toList:=by
  rw [awg]
  conv=>rhs; rw [<- awX s.data.toList]
  apply awp;intro b _;simp
 rw [this]
theorem AL (s:ByteArray): ∀b∈bytesOf s,b<256:=by intro b hb;unfold bytesOf at hb;rw [aW] at hb;obtain⟨c,_,rfl⟩:=hb;exact c.toNat_lt
theorem D9 (hv:ig v=some a):VR E h a v/\v.oneCell'=true:=by
 cases v with
 |bool b=>simp [ig] at hv; subst hv; simp [VR,SB.den,Value.oneCell']
 |int k n=>simp [ig] at hv; subst hv; simp [VR,Y.den,Value.oneCell']
 |string s=>simp [ig] at hv; subst hv; exact⟨by simp only [VR]; exact⟨by rw [lQ],AL s⟩,rfl⟩
 |pointer a=>cases a<;>simp [ig] at hv; subst hv; simp [VR,Value.oneCell']
 |slice a l c=>
  cases a with
  |some a=>simp [ig] at hv
  |none=>
   cases l with
   |succ l=>simp [ig] at hv
   |zero=>cases c with
    |succ c=>simp [ig] at hv
    |zero=>simp [ig] at hv; subst hv; simp [VR,Value.oneCell']
 |map r=>cases r<;>simp [ig] at hv; subst hv; simp [VR,Value.oneCell']
 |nilFunc=>simp [ig] at hv; subst hv; simp [VR,Value.oneCell']
 |nilIface=>simp [ig] at hv; subst hv; simp [VR,Value.oneCell']
 |func fn f c=>
  simp only [ig] at hv;split at hv
  ·rename_i hx;simp at hx hv;subst hv;obtain⟨rfl,rfl⟩:=hx;exact⟨by simp only [VR]; exact⟨[],[],rfl,rfl,rfl⟩,rfl⟩
  grind
 |_=>simp [ig] at hv
theorem fK {E:En} {h:Array Obj}: ∀{vs:List Value} {avS:List AV},lV vs=some avS->cJ E h avS vs/\∀v∈vs,v.oneCell'=true
 |[],avS,hv=>by simp [lV] at hv; subst hv; simp [cJ]
 |v::vs,avS,hv=>by
  simp only [lV] at hv;split at hv
  ·grind
  ·rename_i a ha;split at hv
   ·grind
   ·rename_i as' has;simp at hv;subst hv;have U:=D9 (E:=E) (h:=h) ha;have Z:=fK (E:=E) (h:=h) has;refine⟨by rw [bS]; exact⟨v,vs,rfl,U.1,Z.1⟩,?_⟩;intro u hu
    grind
theorem S6 (hv:ofConst v=some a):VR E h a v:=by
 cases v with
 |agg cs=> exact ahW
 |tuple cs=> exact ahW
 |_=>exact (D9 (by simpa [ofConst] using hv)).1
theorem VR.one (hv:VR E h x v) (U:x.one=true):v.oneCell'=true:=by
 cases x with
 |agg cs=>simp [AV.one] at U
 |tuple cs=>simp [AV.one] at U
 |O8 i=>simp [AV.one] at U
 |zG k ks=>simp only [VR] at hv; rcases hv with ⟨⟨x,cap,rfl⟩,_⟩|⟨b,o,n,cap,rfl,_⟩ <;>rfl
 |slice id off len c=>simp only [VR] at hv; obtain⟨_,a,cap,rfl,_⟩:=hv; rfl
 |ro cs n full=>simp only [VR] at hv; obtain⟨b,o,cap,us,rfl,_⟩:=hv; rfl
 |pe cs=>simp only [VR] at hv; obtain⟨b,o,us,rfl,_⟩:=hv; rfl
 |func fn fs cs=>simp only [VR] at hv; obtain⟨us,ws,rfl,_⟩:=hv; rfl
 |iface t x=>simp only [VR] at hv; obtain⟨u,rfl,_⟩:=hv; rfl
 |str s=>simp only [VR] at hv; rw [hv.1]; rfl
 |ptr id off=>simp only [VR] at hv; rw [hv.1]; rfl
 |map id=>simp only [VR] at hv; rw [hv.1]; rfl
 |emp=>simp only [VR] at hv; obtain⟨x,rfl⟩:=hv; rfl
 |eW e t=>simp only [VR] at hv; exact hv.afA
 |kZ e=>simp only [VR] at hv; exact hv.afA
 |sG id n t=>simp only [VR] at hv; obtain⟨_,k,a,cap,_,rfl,_⟩:=hv; rfl
 |wH id lo n t=>simp only [VR] at hv; obtain⟨_,l,k,a,cap,_,_,rfl,_⟩:=hv; rfl
 |any=>simp [AV.one] at U
 |AX z t=>simp only [VR] at hv; obtain⟨⟨x,rfl⟩,_⟩:=hv; rfl
 |B6 id es i off=>simp only [VR] at hv; obtain⟨_,k,_,rfl⟩:=hv; rfl
 |_=>simp only [VR] at hv; rw [hv]; rfl
theorem cJ.uC {E:En} {h:Array Obj}: ∀{xs:List AV} {us:List Value},cJ E h xs us->tV xs=true->∀u∈us,u.oneCell'=true
 |[],us,hv,_=>by rw [jn] at hv; subst hv; simp
 |x::xs,us,hv,U=>by
  rw [bS] at hv;obtain⟨u,vs,rfl,Z,h3⟩:=hv;simp [tV] at U;intro y hy;rcases aH.1 hy with rfl|hy
  ·exact Z.one U.1
  ·exact h3.uC U.2 y hy
theorem VR.cells (hv:VR E h x v) (U:tV x.cells=true):cJ E h x.cells v.cells.toList:=by
 cases x with
 |agg cs=> simp only [VR] at hv;obtain⟨us,rfl,Z⟩:=hv;simpa [AV.cells,Value.cells] using Z
 |_=>
  all_goals
   simp only [AV.cells] at U ⊢;have Z:=hv.one (by simpa [tV] using U);rw [bS];refine⟨v,[],?_,hv,rfl⟩;cases v<;>first |rfl|simp [Value.oneCell'] at Z
theorem uz (hn:us.length=n) (h:gr w.heap b o us) :
 (loadCells ⟨b,o,none⟩ n).run P w= .ok us.toArray w:=by
 subst hn;refine run_loadCells_list w _ us fun j v hj=>?_;rw [gG,qj];exact h j v hj
theorem gr.drop (hc:gr h b o us) (k:Nat):gr h b (o+k) (us.drop k):=by
 intro i u hu;rw [awI] at hu;have:=hc (k+i) u hu
 grind
theorem gr.take (hc:gr h b o us) (k:Nat):gr h b o (us.take k):=by
 intro i u hu;rw [awy] at hu;split at hu
 ·exact hc i u hu
 grind
theorem zT (ho:OR E h id (.cells cs e)) :
 ∃us,cJ E h cs us/\gr h (E.θ id).1 (E.θ id).2 us/\∀u∈us,u.oneCell'=true:=by
 obtain⟨arr,lo,hi,us,U,Z,h3,h4,h5,h6,h7⟩:=ho;refine⟨us,Z,fun i u hu=>?_,h7⟩;simp only [mE,U]
 grind
theorem yB [bN] (r:bV E H w) {p:AV} {u:Value} {l:List AV} (hp:VR E w.heap p u) (h:n9 H p n=some l) :
 ∃b o us,u= .pointer (some ⟨b,o,none⟩)/\us.length=n/\cJ E w.heap l us/\gr w.heap b o us/\∀u∈us,u.oneCell'=true:=by
 cases p with
 |ptr id off=>
  simp only [n9] at h;split at h
  ·rename_i cs e hl;split at h
   ·rename_i l' V;obtain⟨us,Z,h3,h4⟩:=zT (r.live id _ hl).2.1;obtain⟨h5,h6,h7⟩:=Z.fq V;obtain⟨h8,h9⟩:=h5.ja h;simp only [VR] at hp;refine⟨_,_,_,hp.1,?_,h8,(h3.drop off).take n,fun x hx=>h4 x (bu (avV hx))⟩;have:=h5.length
    grind
   grind
  grind
 |pe cs=>
  simp only [n9] at h;simp only [VR] at hp;obtain⟨b,o,us,rfl,_,Z,h3,h4⟩:=hp;obtain⟨h5,h6⟩:=Z.ja h;refine⟨b,o,_,rfl,?_,h5,h3.take n,fun x hx=>h4 x (avV hx)⟩;have:=Z.length
  grind
 |_=>simp [n9] at h
theorem yx {E:En} {h:Array Obj}: ∀{cs:List AV} {o:Nat} {vs mQ:List AV} {us ws:List Value},eB cs o vs=some mQ->cJ E h cs us->cJ E h vs ws->
 mQ.length=cs.length/\o+vs.length<=cs.length/\∃iI,cJ E h mQ iI/\∀i,iI[i]?=if o<=i/\i<o+ws.length then ws[i-o]? else us[i]?
 |cs,0,[],mQ,us,ws,U,Z,h3=>by cases cs<;>simp [eB] at U<;>subst U<;>rw [jn] at h3<;>subst h3<;>exact⟨rfl,ad,us,Z,fun i=>by simp⟩
 |[],0,_::_,mQ,us,ws,U,Z,h3=>by simp [eB] at U
 |c::cs,0,v::vs,mQ,us,ws,U,Z,h3=>by
  simp only [eB] at U;split at U
  ·rename_i l hl;simp at U;subst U;rw [bS] at Z h3;obtain⟨u,iI,rfl,ha,hb⟩:=Z;obtain⟨x,ws',rfl,hc,V⟩:=h3;obtain⟨e1,e2,u_,e3,e4⟩:=yx hl hb V;refine⟨by simp [e1],by simp at e2 ⊢; omega,x::u_,by rw [bS]; exact⟨x,u_,rfl,hc,e3⟩,?_⟩;intro i
   grind
  grind
 |[],_+1,vs,mQ,us,ws,U,Z,h3=>by cases vs<;>simp [eB] at U
 |c::cs,o+1,vs,mQ,us,ws,U,Z,h3=>by
  have PK:(match eB cs o vs with |some l=>some (c::l)|none=>none)=some mQ:=by cases vs<;>exact U
  split at PK
  ·rename_i l hl;simp at PK;subst PK;rw [bS] at Z;obtain⟨u,iI,rfl,ha,hb⟩:=Z;obtain⟨e1,e2,u_,e3,e4⟩:=yx hl hb h3;refine⟨by simp [e1],by simp; omega,u::u_,by rw [bS]; exact⟨u,u_,rfl,ha,e3⟩,?_⟩;intro i
   grind
  grind
theorem n8 {P:Program} (b o:Nat) (e:TypeId) (lo hi:Nat): ∀(vs:List Value) (i:Nat) (arr:Array Value) (w:World),
 w.heap[b]?=some (.cells arr e (lo,hi))->(∀x,lo<=x->x<hi->arr.size<=x)->o+i+vs.length<=arr.size->(∀v∈vs,v.oneCell'=true)->
 ∃w' NH,(storeCells ⟨b,o,none⟩ vs i).run P w= .ok () w'/\Alike w w'/\w'.heap.size=w.heap.size/\(∀j,j≠b->w'.heap[j]?=w.heap[j]?)/\
  w'.heap[b]?=some (.cells NH e (lo,hi))/\NH.size=arr.size/\∀j,NH[j]?=if o+i<=j/\j<o+i+vs.length then vs[j-(o+i)]? else arr[j]?
 |[],i,arr,w,hb,_,_,_=> ⟨w,arr,rfl,⟨rfl,rfl,rfl⟩,rfl,fun _ _=>rfl,hb,rfl,fun j=>by rw [af ad]⟩
 |v::vs,i,arr,w,hb,hf,hl,U=>by
  have tZ:o+i<arr.size:=by simp at hl; omega
  have mE:w.cell? ⟨b,o+i,none⟩ = some arr[o+i]:=by simp [World.cell?,hb,tZ]
  have avO:w.frozen? ⟨b,o+i,none⟩ = false:=by
   simp only [World.frozen?,hb,Bool.and_eq_false_iff,decide_eq_false_iff_not]
   grind
  have FB:(store ((⟨b,o,none⟩ : Addr).add i) v).run P w= .ok () (w.setCell ⟨b,o+i,none⟩ v):=by
   rw [gG,run_store P w _ v _ (U v ad),mE]
   grind
  have Dq:(w.setCell ⟨b,o+i,none⟩ v).heap[b]?=some (.cells (arr.setIfInBounds (o+i) v) e (lo,hi)):=by simp [World.setCell,axD,hb]
  have jv:(w.setCell ⟨b,o+i,none⟩ v).heap.size=w.heap.size:=by simp [World.setCell]
  have hot: ∀j,j≠b->(w.setCell ⟨b,o+i,none⟩ v).heap[j]?=w.heap[j]?:=by
   intro j hj;simp only [World.setCell,axD]
   grind
  obtain⟨w',NH,e1,e2,e3,e4,e5,e6,e7⟩:=n8 (P:=P) b o e lo hi vs (i+1) _ _ Dq (by simpa using hf) (by simp at hl ⊢; omega) (fun x hx=>U x (by simp [hx]));refine⟨w',NH,?_,⟨e2.os,e2.tape,e2.output⟩,e3.trans jv,fun j hj=>(e4 j hj).trans (hot j hj),e5,by simpa using e6,?_⟩
  ·simp only [storeCells,Sem.run_bind,FB,Result.andThen_ok];exact e1
  grind
theorem mT [bN] (r:bV E H w) {off:Nat} {vs mQ:List AV} {ws:List Value} (hl:H.get id=some (.cells cs e))
 (hs:eB cs off vs=some mQ) (hv:cJ E w.heap vs ws) (U: ∀u∈ws,u.oneCell'=true) :
 ∃w',(storeCells ⟨(E.θ id).1,(E.θ id).2+off,none⟩ ws).run P w= .ok () w'/\fD E H w E (H.put id (.cells mQ e)) w'/\bV E (H.put id (.cells mQ e)) w':=by
 obtain⟨arr,lo,hi,us,g1,g2,g3,g4,g5,g6,g7⟩:=(r.live id _ hl).2.1;obtain⟨s1,s2,iI,s3,s4⟩:=yx hs g2 hv;have hlen:=hv.length;have hlu:=g2.length;obtain⟨w',NH,e1,e2,e3,e4,e5,e6,e7⟩:=n8 (P:=P) (E.θ id).1 ((E.θ id).2+off) e lo hi ws 0 arr w g1 g6 J U;refine⟨w',e1,OV r hl _ e3 e4 e2 ?_⟩;have k:=pZ r hl e4;refine⟨NH,lo,hi,iI,e5,cJ.du k _ _ s3,?_,J,by rw [e6]; exact g5,by rw [e6]; exact g6,?_⟩
 ·intro i u hu
  grind
 ·intro u hu;rw [awJ] at hu
  grind
end
section
variable {w w':World} {a:Act} {E:En} {v:AV} {e:Nat} {o:Oper} {R:Value->World->Prop} {u:Value} {x y:List Nat}
def cz (ρ:Nat->Int) (pc:List (SB×Bool)):Prop:= ∀c b,(c,b)∈pc->c.den ρ=b
def SR (E:En) (h:Array Obj) (bC:Tr AV) (a:Act):Prop:= ∀t v,bC.get t=some v->∃u,a.tmps[t]?=some u/\VR E h v u
def tY (P:Program) (o:Oper) (a:Act) (w:World) (R:Value->World->Prop):Prop:=
 ∀(K:Act->World->Prop) (Q:Exit->Act->World->Prop),(∀u w',R u w'->K (a.put o.dst u) w')->o.wp P a w K Q
theorem tY.value {P:Program} (h:(execOp a.eval o).run P w= .ok (.value u) w') (hr:R u w'):tY P o a w R:=
 fun K Q hk=>by unfold Oper.wp; rw [h]; exact hk u w' hr
theorem tY.skip {P:Program} (h:(execOp a.eval o).run P w= .ok .skip w') (hr:R undef w'):tY P o a w R:=
 fun K Q hk=>by unfold Oper.wp; rw [h]; exact hk _ w' hr
theorem iF {s:St} (sr:SR E w.heap s.bC a) {x:Operand} (h:ev s x=some v):VR E w.heap v (a.eval x):=by
 cases x with
 |tmp t=> obtain⟨u,U,Z⟩:=sr t v h;simp only [Act.eval,awq,U,az];exact Z
 |const c=>exact S6 h
 |func f=> simp [ev] at h;subst h;simp only [VR,Act.eval];exact⟨[],[],rfl,rfl,rfl⟩
 |global g=>simp [ev] at h
theorem Mw {E:En} {w:World} {s:St} {a:Act} (sr:SR E w.heap s.bC a): ∀{xs:List Operand} {vs:List AV},evs s xs=some vs->cJ E w.heap vs (xs.map a.eval)
 |[],vs,h=>by simp [evs] at h; subst h; simp [cJ]
 |x::xs,vs,h=>by
  simp only [evs] at h;split at h
  ·grind
  ·rename_i b hb;split at h
   ·grind
   ·rename_i bs hbs;simp at h;subst h;rw [aF,bS];exact⟨_,_,rfl,iF sr hb,Mw sr hbs⟩
section
variable {P:Program} {t:Nat} {i:TI}
theorem rj (h:oP P t i) (w:World):(isAgg t).run P w= .ok i.agg w:=by obtain⟨inf,d,z,U,Z,h3,h4,h5,h6,h7,_⟩:=h.all;unfold isAgg;simp only [Sem.run_bind,run_underlying Z,Result.andThen_ok];cases d<;>cases hk:i.kind<;>simp only [hk,U2] at h7<;>simp [TI.agg,TK.agg,hk]
theorem fm (h:oP P t i) (w:World):(sizeOf t).run P w= .ok i.size w:=by obtain⟨inf,d,z,U,Z,h3,h4,h5,h6,h7,_⟩:=h.all;simp [sizeOf,typeInfo,U,h5]
theorem fF (h:oP P t i) (hk:i.kind= .slice e):P.underlying t=some (.slice e):=by exact ahV
theorem uc (h:oP P t i) {n:Nat} (hk:i.kind= .array n e):P.underlying t=some (.array n e):=by exact alT
theorem A4 (h:oP P t i) {k:Nat} (hk:i.kind= .map k e):P.underlying t=some (.map k e):=by exact alT
theorem yr (h:oP P t i) {k:IntKind} (hk:i.kind= .int k):P.underlying t=some (.int k):=by exact ahV
theorem gj (h:oP P t i) (hk:i.kind= .string):P.underlying t=some .string:=by exact ahi
theorem Ow (h:oP P t i) (hk:i.kind= .bool):P.underlying t=some .bool:=by exact ahi
theorem Ab (h:oP P t i) {l:List (Nat×Nat×Nat)} (hk:i.kind= .struct l): ∃fs:Array Field,P.underlying t=some (.struct fs)/\(fs.toList.mapM fun f=>(P.info? f.type).map fun i=>(f.offset,f.type,i.size))=some l:=by exact alT
theorem yI (h:oP P t i): ∃inf z,P.info? t=some inf/\inf.size=i.size/\inf.bytes=i.bytes/\inf.zero=some z/\lV z.cells.toList=some i.zero:=by exact ag2
end
theorem Dv [bN] {P:Program} {tt:TT} (cX:eS P tt) {H:Hp} (r:bV E H w) {t:Nat} {p:AV} (hp:VR E w.heap p u) (h:Dw tt t p H=some v) :
 ∃x b o,u= .pointer (some ⟨b,o,none⟩)/\(loadVar t ⟨b,o,none⟩).run P w= .ok x w/\VR E w.heap v x:=by
 unfold Dw at h;split at h
 ·grind
 ·rename_i i hi;have iH:=cX t i hi;split at h
  ·rename_i TF;rw [aO] at h;obtain⟨l,hl,rfl⟩:=h;obtain⟨b,o,us,rfl,Z,h3,h4,_⟩:=yB r hp hl;refine⟨.agg us.toArray,b,o,rfl,?_,by simp only [VR]; exact⟨us,rfl,h3⟩⟩;simp [loadVar,rj iH,TF,fm iH,uz Z h4]
  ·rename_i TF;split at h
   ·rename_i v' l hl;simp at h;subst h;obtain⟨b,o,us,rfl,Z,h3,h4,_⟩:=yB r hp hl;rw [bS] at h3;obtain⟨x,vs,rfl,h5,_⟩:=h3;refine⟨x,b,o,rfl,?_,h5⟩;have hc:w.cell? ⟨b,o,none⟩ = some x:=by rw [qj]; exact h4 0 x rfl
    simp [loadVar,rj iH,TF,hc]
   grind
theorem oD (k:IntKind) (n:Int):xI k n=k.wrap n:=by
 unfold xI;split
 ·split
  ·rename_i h; exact (IntWalk.i64_in n h).symm
  ·rfl
 ·split
  ·rename_i h; exact (IntWalk.u8_in n h).symm
  ·rfl
 ·rfl
theorem X9 (ρ:Nat->Int) (k:IntKind) (a b:Y):(Y? k a b).den ρ=k.wrap (a.den ρ+b.den ρ):=by
 unfold Y?
 grind [Y.den,oD]
theorem Jx (ρ:Nat->Int) (k:IntKind) (a b:Y):(Vy k a b).den ρ=k.wrap (a.den ρ-b.den ρ):=by
 unfold Vy
 grind [Y.den,oD]
theorem X8 (ρ:Nat->Int) (k:IntKind) (a b:Y):(Y! k a b).den ρ=k.wrap (a.den ρ*b.den ρ):=by
 unfold Y!
 grind [Y.den,oD]
theorem eu (ρ:Nat->Int) (a b:Y):(iV a b).den ρ=decide (a.den ρ<b.den ρ):=by
 unfold iV;split
 ·rfl
 ·simp [SB.den]
theorem Z_ (ρ:Nat->Int) (a b:Y):(afe a b).den ρ=decide (a.den ρ<=b.den ρ):=by
 unfold afe;split
 ·rfl
 ·simp only [SB.den]
  grind
theorem jF (ρ:Nat->Int) (a b:Y):(xi a b).den ρ=(a.den ρ == b.den ρ):=by
 unfold xi;split
 ·simp [SB.den,Y.den]
 ·simp only [SB.den,Y.den]
  grind
 grind [dk,SB.den]
theorem pd (ρ:Nat->Int) (s:SB):(zx s).den ρ=!(s.den ρ):=by
 unfold zx
 grind [SB.den]
theorem nr: ∀(x y:List Nat),iB x y=true↔x=y
 |[],[]=>by simp [iB]
 |[],_::_=>by simp [iB]
 |_::_,[]=>by simp [iB]
 |a::x,b::y=>by
  simp only [iB]
  cases h:a.beq b with
  |true=>have:=ay h; subst this; simp [nr x y]
  |false=>have:=awK h; simp [this]
theorem sS (s:List Nat):(dB s).toList=s.map UInt8.ofNat:=by simp_all [dB]
theorem nu (s:List Nat):(dB s).size=s.length:=by show (List.map UInt8.ofNat s).toArray.size=_;simp
theorem ofNat_inj {a b:Nat} (ha:a<256) (hb:b<256) (h:UInt8.ofNat a=UInt8.ofNat b):a=b:=by have:=congrArg UInt8.toNat h;simpa [awl,awh ha,awh hb] using this
theorem map_inj: ∀{x y:List Nat},(∀b∈x,b<256)->(∀b∈y,b<256)->x.map UInt8.ofNat=y.map UInt8.ofNat->x=y
 |[],[],_,_,_=>rfl
 |[],_::_,_,_,h=>by simp at h
 |_::_,[],_,_,h=>by simp at h
 |a::x,b::y,hx,hy,h=>by simp only [aF,List.cons.injEq] at h;rw [ofNat_inj (hx a ad) (hy b ad) h.1,map_inj (fun c hc=>hx c (by simp [hc])) (fun c hc=>hy c (by simp [hc])) h.2]
theorem Vw (hx: ∀b∈x,b<256) (hy: ∀b∈y,b<256):((dB x).toList == (dB y).toList)=iB x y:=by
 grind [sS,nr,map_inj]
theorem Js: ∀{x y:List Nat},(∀b∈x,b<256)->(∀b∈y,b<256)->Op.bytesLess (x.map UInt8.ofNat) (y.map UInt8.ofNat)=bytesLess x y
 |[],[],_,_=>by simp [Op.bytesLess,bytesLess]
 |[],_::_,_,_=>by simp [Op.bytesLess,bytesLess]
 |_::_,[],_,_=>by simp [Op.bytesLess,bytesLess]
 |a::x,b::y,hx,hy=>by
  have ha:=hx a ad;have hb:=hy b ad;have ih:=Js (x:=x) (y:=y) (fun c hc=>hx c (by simp [hc])) (fun c hc=>hy c (by simp [hc]));simp only [aF,Op.bytesLess,bytesLess,ih]
  have U:decide (UInt8.ofNat a<UInt8.ofNat b)=a.blt b:=by rw [awb,decide_eq_true_iff,UInt8.lt_iff_toNat_lt,awl,awl,awh ha,awh hb];simp_all
  have Z:(UInt8.ofNat a == UInt8.ofNat b)=a.beq b:=by rw [awb,beq_iff_eq];exact⟨fun h=>by rw [ofNat_inj ha hb h]; simp,fun h=>by rw [ay h]⟩
  grind
theorem OH {P:Program} {op:BinOp} (hx: ∀b∈x,b<256) (hy: ∀b∈y,b<256) (h:OI op x y=some v) :
 ∃u,(Op.stringOp op (dB x) (dB y)).run P w= .ok u w/\VR E w.heap v u:=by
 have he:=Vw hx hy;have hl:Op.bytesLess (dB x).toList (dB y).toList=bytesLess x y:=by rw [sS,sS]; exact Js hx hy
 unfold OI at h;cases op<;>simp only [ah,reduceCtorEq] at h
 case add=>
  split at h
  ·rename_i hh;simp at h;subst h;have hm:IntKind.i64.max=9223372036854775807:=ae
   refine⟨.string (dB x++dB y),?_,?_⟩
   ·simp only [Op.stringOp,nu,hm];rw [af J];rfl
   ·simp only [VR];refine⟨?_,?_⟩
    ·congr 1;apply ByteArray.ext;simp [dB]
    ·intro b hb;rcases av5.1 hb with hb|hb
     ·exact hx b hb
     ·exact hy b hb
  ·simp at h
 all_goals
  subst h;exact⟨_,rfl,by simp only [VR,SB.den,he,hl]⟩
end
section
variable {ρ:Nat->Int} {pc:List (SB×Bool)} {v:Bool} {z x:Int} {a b y:Y} {lo hi:Option Int} {c:SB}
theorem lW {ρ:Nat->Int} {c:SB} {b:Bool}: ∀{pc:List (SB×Bool)},cz ρ pc->pg c pc=some b->c.den ρ=b
 |[],_,h=>by simp [pg] at h
 |(d,x)::l,hp,h=>by
  simp only [pg] at h;split at h
  ·rename_i he;have he:=uq _ _ he;simp at h;subst he h;exact hp _ _ ad
  ·exact lW (fun c b hm=>hp c b (by simp [hm])) h
def vR (lo hi:Option Int) (x:Int):Prop:=(∀l,lo=some l->l<=x)/\∀h,hi=some h->x<=h
theorem L1 (h: ∀l,lo=some l->l<=x) (hz:z<=x): ∀l,aaM lo z=some l->l<=x:=by
 intro l hl;unfold aaM at hl
 grind
theorem L0 (h: ∀l,hi=some l->x<=l) (hz:x<=z): ∀l,aaK hi z=some l->x<=l:=by
 intro l hl;unfold aaK at hl
 grind
theorem aav (h: ∀l,lo=some l->l<=x) (hz:x≠z): ∀l,aaw lo z=some l->l<=x:=by
 intro l hl;unfold aaw at hl
 grind
theorem aax (h: ∀l,hi=some l->x<=l) (hz:x≠z): ∀l,aay hi z=some l->x<=l:=by
 intro l hl;unfold aay at hl
 grind
theorem yF {x:Y} (h:(SB.lt x y).den ρ=v):(x.den ρ<y.den ρ)↔v=true:=by subst h; simp [SB.den]
theorem WM {x:Y} (h:(SB.eq x y).den ρ=v):(x.den ρ=y.den ρ)↔v=true:=by subst h; simp [SB.den]
theorem aea (e:Y):vR (Xq e).1 (Xq e).2 (e.den ρ):=by
 have h0:vR none none (e.den ρ):=⟨ad,ad⟩;unfold Xq;split
 ·split
  ·split
   ·split
    ·split
     ·split
      ·split
       ·rename_i k m x n hn;obtain⟨hn,rfl,rfl⟩:=hn;simp only [Y.den];have U:=axi (m.den ρ) (b:=n) J
        have Z: -n<(m.den ρ).tmod n:=by have U:=axi (-(m.den ρ)) (b:=n) J;rw [Int.neg_tmod] at U;omega
        have h3:=Int.tmod_nonneg n (a:=(m.den ρ).tmod n+n) J;have h4:=axi ((m.den ρ).tmod n+n) (b:=n) J;constructor<;>intro l hl<;>simp at hl<;>omega
       grind
      grind
     grind
    grind
   grind
  grind
 ·rename_i o a b
  cases o with
  |len=> refine⟨fun l hl=>?_,ad⟩;simp only [ah] at hl;subst hl;simp only [Y.den,gX.den];omega
  |_=>exact h0
 grind
theorem rh {ρ:Nat->Int} {e:Y}: ∀{pc:List (SB×Bool)},cz ρ pc->vR (bounds e pc).1 (bounds e pc).2 (e.den ρ)
 |[],_=>aea e
 |(c,v)::l,hp=>by
  have ih:=rh (e:=e) (pc:=l) (fun c b hm=>hp c b (by simp [hm]));have hc:=hp c v ad;unfold bounds;split
  ·have hc:=yF hc;split
   ·split
    ·exact ih
    ·rename_i he;have he:=dk _ _ he;subst he;revert ih;split;rename_i lo hi hb;rw [hb];intro ih;simp only [Y.den] at hc;cases v
     ·exact⟨ih.1,L0 ih.2 (by simp at hc; omega)⟩
     ·exact⟨L1 ih.1 (by simp at hc; omega),ih.2⟩
   ·split
    ·split
     ·exact ih
     ·rename_i he;have he:=dk _ _ he;subst he;revert ih;split;rename_i lo hi hb;rw [hb];intro ih;simp only [Y.den] at hc;cases v
      ·exact⟨L1 ih.1 (by simp at hc; omega),ih.2⟩
      ·exact⟨ih.1,L0 ih.2 (by simp at hc; omega)⟩
    grind
  ·split
   ·split
    ·split
     ·exact ih
     ·rename_i he;have he:=dk _ _ he;subst he;revert ih;split;rename_i lo hi hb;rw [hb];intro ih;simp only [SB.den,Y.den,beq_eq_false_iff_ne] at hc;exact⟨aav ih.1 hc,aax ih.2 hc⟩
    ·split
     ·exact ih
     ·rename_i he;have he:=dk _ _ he;subst he;simp only [SB.den,Y.den,beq_iff_eq] at hc;exact⟨fun l hl=>by simp at hl; omega,fun l hl=>by simp at hl; omega⟩
   grind
  grind
theorem F5 {e:Y} (hp:cz ρ pc):vR (tb e pc).1 (tb e pc).2 (e.den ρ):=by
 have h0:=rh (e:=e) hp;unfold tb;split
 ·split
  ·split
   ·split
    ·rename_i b _ c;have hb:=rh (e:=b) hp;split
     ·rename_i lo hi PI;rw [PI] at hb;have b1:=hb.1 lo rfl;have b2:=hb.2 hi rfl;split
      ·rename_i hr;revert h0;split;rename_i l2 Z hee;rw [hee];intro h0
       have hw:(Y.wrap .i64 (.add b (.lit c))).den ρ=b.den ρ+c:=by
        simp only [Y.den];rw [<- oD];simp only [xI]
        grind
       exact⟨L1 h0.1 (by rw [hw]; omega),L0 h0.2 (by rw [hw]; omega)⟩
      grind
     grind
    grind
   grind
  grind
 grind
theorem G8 (hp:cz ρ pc) (h:VY a b pc=some v):a.den ρ=b.den ρ↔v=true:=by
 unfold VY at h;split at h
 ·rename_i U;simp at h;subst h;exact WM (lW hp U)
 ·rw [<- WM (lW hp h)]
  grind
theorem adJ (hp:cz ρ pc) (h:decLt pc a b=some v):a.den ρ<b.den ρ↔v=true:=by
 unfold decLt at h;split at h
 ·rename_i U;simp at h;subst h;exact yF (lW hp U)
 ·split at h
  ·have hb:=F5 (e:=b) hp;have hz: ∀z,(Y.lit z).den ρ=z:=fun _=>rfl;simp only [hz] at *;generalize PI:tb _ pc=p at h hb;obtain⟨lo,hi⟩:=p;simp only [vR] at h hb
   grind
  ·split at h
   ·exact apx
   ·split at h
    ·rename_i U;have U:=G8 hp U
     grind
    ·rename_i U;have U:=G8 hp U;simp at U;exact l!
    ·exact l!
theorem adK (hp:cz ρ pc) (h:decEq pc a b=some v):a.den ρ=b.den ρ↔v=true:=by
 unfold decEq at h;split at h
 ·rename_i U;simp at h;subst h;exact G8 hp U
 ·split at h
  ·exact apx
  ·split at h
   ·rename_i Z;have Z:=yF (lW hp Z)
    grind
   ·rename_i Z;have Z:=yF (lW hp Z);simp at Z;split at h
    ·rename_i h3;have h3:=yF (lW hp h3)
     grind
    grind
   ·exact l!
theorem H9 (hp:cz ρ pc) {b:Bool} (h:FN pc c=some b):c.den ρ=b:=by
 unfold FN at h;split at h
 ·simp at h; simp [SB.den,h]
 ·have:=adJ hp h;simp only [SB.den]
  grind
 ·have:=adK hp h;simp only [SB.den]
  grind
 ·exact lW hp h
theorem ia (hp:cz ρ pc) {b:Bool} (h:lq pc c=some b):c.den ρ=b:=by
 unfold lq at h;split at h
 ·rw [aO] at h;obtain⟨x,U,rfl⟩:=h;simp only [SB.den,H9 hp U]
 ·exact H9 hp h
end
section
variable {t:Nat} {u u':Value} {x v y:AV} {op:BinOp} {c:SB} {i:TI} {h:Array Obj}
section
variable {P:Program} {E:En} {w:World}
theorem aa9 {k k':IntKind} {a b:Y} (hk:op= .shr\/k=k') (h:We op k a b=some v) :
 ∃u,(binOp op t (.int k (a.den E.ρ)) (.int k' (b.den E.ρ))).run P w= .ok u w/\VR E w.heap v u:=by
 unfold We at h;cases op<;>simp only [ah,reduceCtorEq] at h
 case add=>obtain rfl:k=k':=by simpa using hk
           subst h; exact⟨_,by simp [binOp,Op.intArith]; rfl,by simp only [VR,X9]⟩
 case sub=>obtain rfl:k=k':=by simpa using hk
           subst h; exact⟨_,by simp [binOp,Op.intArith]; rfl,by simp only [VR,Jx]⟩
 case mul=>obtain rfl:k=k':=by simpa using hk
           subst h; exact⟨_,by simp [binOp,Op.intArith]; rfl,by simp only [VR,X8]⟩
 case quo=>
  obtain rfl:k=k':=by simpa using hk
  split at h
  ·split at h
   ·simp at h
   ·rename_i hy;simp at h;subst h;exact⟨_,by simp [binOp,Op.intDiv,Y.den,hy]; rfl,by simp only [VR,Y.den,oD]⟩
  ·split at h
   ·simp at h
   ·rename_i hy;simp at h;subst h;exact⟨_,by simp [binOp,Op.intDiv,Y.den,hy]; rfl,by simp only [VR,Y.den]⟩
  ·simp at h
 case rem=>
  obtain rfl:k=k':=by simpa using hk
  split at h
  ·split at h
   ·simp at h
   ·rename_i hy;simp at h;subst h;exact⟨_,by simp [binOp,Op.intDiv,Y.den,hy]; rfl,by simp only [VR,Y.den]⟩
  ·split at h
   ·simp at h
   ·rename_i hy;simp at h;subst h;exact⟨_,by simp [binOp,Op.intDiv,Y.den,hy]; rfl,by simp only [VR,Y.den]⟩
  ·simp at h
 case shr=>
  split at h
  ·split at h
   ·simp at h
   ·rename_i hy;simp at h;subst h;exact⟨_,by simp [binOp,Op.shift,Y.den,hy]; rfl,by simp only [VR,Y.den]⟩
  ·simp at h
 all_goals
  obtain rfl:k=k':=by simpa using hk
  subst h;refine⟨_,by simp [binOp,Op.intCmp]; rfl,?_⟩;simp only [VR,jF,pd,eu,Z_]
  first |rfl|(congr 1; simp [bne]; done)|(congr 1; rw [awb]; simp; done)|skip
theorem xR {x y:Operand} {a b:Value} (U: ∀cs ds,¬(a= .agg cs/\b= .agg ds)) (Z: ¬(a= .nilIface/\b= .nilIface)) :
 (eqGuard op t x y a b).run P w= .ok () w:=by
 cases op
 case eql=>
  cases a<;>first
   |(cases b<;>first |(exact absurd ⟨rfl,rfl⟩ (U _ _))|(exact absurd ⟨rfl,rfl⟩ Z)|rfl)
   |rfl
 case neq=>
  cases a<;>first
   |(cases b<;>first |(exact absurd ⟨rfl,rfl⟩ (U _ _))|(exact absurd ⟨rfl,rfl⟩ Z)|rfl)
   |rfl
 all_goals rfl
theorem EA {ρ:Nat->Int} {a b:SB} (h:FK a b=some c):c.den ρ=(a.den ρ == b.den ρ):=by
 unfold FK at h;split at h<;>simp only [ah,reduceCtorEq] at h<;>subst h
 ·simp [SB.den]
 ·grind [SB.den,pd]
 ·grind [SB.den,pd]
 ·simp only [SB.den];cases a.den ρ<;>cases b.den ρ<;>rfl
theorem Bc {d:TypeDesc} (h:P.underlying t=some d) (w:World):(underlying t).run P w= .ok d w:=run_underlying h w
theorem uG (h:oP P t i): ∃d,P.underlying t=some d/\U2 P d i.kind:=by exact ag2
theorem WL (ht:oP P t i) (hx:VR E w.heap x u) (hy:VR E w.heap y u') (h:aop i.kind x y=some c) :
 (Op.equal t u u').run P w= .ok (c.den E.ρ) w/\(∀cs ds,¬(u= .agg cs/\u'= .agg ds))/\¬(u= .nilIface/\u'= .nilIface)/\(∀k n,u≠.int k n)/\(∀s,u≠.string s)/\(∀k n,u≠.float k n)/\(∀k n m,u≠.complex k n m):=by
 obtain⟨d,U,Z⟩:=uG ht;have hm: ∀a b,Op.equal t a b=Op.equalIn (9999+1) t a b:=fun _ _=>rfl;rw [hm];clear hm;generalize (9999:Nat)=n;unfold aop at h;split at h
 ·rename_i hk;rw [hk] at Z;cases d<;>simp only [U2] at Z;split at h
  ·simp only [VR] at hx hy;subst hx hy;refine⟨?_,ad,ad,ad,ad,ad,ad⟩;rw [EA h];simp [Op.equalIn,Bc U]
  grind
 ·rename_i k hk;cases BG:i.kind<;>rw [BG] at h Z<;>simp only [isNil,reduceCtorEq] at h
  case pointer e=>
   cases d<;>simp only [U2] at Z;cases x<;>simp only [reduceCtorEq] at h<;>cases y<;>simp only [reduceCtorEq,ah] at h<;>subst h<;>simp only [VR] at hx hy
   all_goals
    first |(obtain⟨b,o,us,rfl,_⟩:=hx)|(obtain⟨rfl,_⟩:=hx)|subst hx
    first |(obtain⟨b',o',iI,rfl,_⟩:=hy)|(obtain⟨rfl,_⟩:=hy)|subst hy
    exact⟨by simp [Op.equalIn,Bc U,SB.den],ad,ad,ad,ad,ad,ad⟩
  case slice e=>
   cases d<;>simp only [U2] at Z;cases x<;>simp only [reduceCtorEq] at h<;>cases y<;>simp only [reduceCtorEq,ah] at h<;>subst h<;>simp only [VR] at hx hy
   all_goals
    first |(obtain⟨b,o,cap,us,rfl,_⟩:=hx)|(obtain⟨_,b,cap,rfl,_⟩:=hx)|(obtain⟨_,k,b,cap,_,rfl,_⟩:=hx)|subst hx
    first |(obtain⟨b',o',su,iI,rfl,_⟩:=hy)|(obtain⟨_,b',su,rfl,_⟩:=hy)|(obtain⟨_,k',b',su,_,rfl,_⟩:=hy)|subst hy
    exact⟨by simp [Op.equalIn,Bc U,SB.den],ad,ad,ad,ad,ad,ad⟩
  case map k' e=>
   cases d<;>simp only [U2] at Z;cases x<;>simp only [reduceCtorEq] at h<;>cases y<;>simp only [reduceCtorEq,ah] at h<;>subst h<;>simp only [VR] at hx hy
   all_goals
    first |(obtain⟨rfl,_⟩:=hx)|subst hx
    first |(obtain⟨rfl,_⟩:=hy)|subst hy
    exact⟨by simp [Op.equalIn,Bc U,SB.den],ad,ad,ad,ad,ad,ad⟩
theorem binOp_eql {b:Bool} (h:(Op.equal t u u').run P w= .ok b w) (U: ∀k n,u≠.int k n) (Z: ∀s,u≠.string s) (h3: ∀k n,u≠.float k n) (h4: ∀k n m,u≠.complex k n m) :
 (binOp .eql t u u').run P w= .ok (.bool b) w/\(binOp .neq t u u').run P w= .ok (.bool (!b)) w:=by
 cases u<;>first
  |exact absurd rfl (U _ _)
  |exact absurd rfl (Z _)
  |exact absurd rfl (h3 _ _)
  |exact absurd rfl (h4 _ _ _)
  |(constructor<;>(cases u'<;>simp [binOp,h]))
theorem ny (ρ:Nat->Int) (a b:Y):(xh a b).den ρ=(a.den ρ == b.den ρ):=by
 unfold xh;split
 ·rename_i h
  grind [dk,SB.den]
 ·split
  ·simp only [SB.den]
   grind
  ·simp only [SB.den]
theorem rG (ρ:Nat->Int) (x:Y):(pb x).den ρ=enc (dec (x.den ρ)):=by
 unfold pb;split
 ·simp only [Y.den,bG]
 ·split
  ·exact j_
  ·exact j_
  ·exact Oj
 ·exact Oj
theorem A5 {E:En} {e:Y} (hx:VR E h x u) (hs:vY x=some e): ∃s,u= .string s/\dec (e.den E.ρ)=wF s:=by
 unfold vY at hs;split at hs
 ·simp only [ah] at hs;subst hs;simp only [VR] at hx;obtain⟨rfl,hb⟩:=hx;refine⟨_,rfl,?_⟩;simp only [Y.den,bG]
  grind [Ca,wF,dB]
 ·simp only [ah] at hs;subst hs;simp only [VR] at hx;generalize dec (Y.den E.ρ _)=d at hx ⊢
  cases hx with
  |str s=>exact⟨s,rfl,rfl⟩
 grind
theorem Gn {E:En} {v:Value} (hx:VR E h x u) (hy:VR E h y v) (hs:DV x y=some c): ∃a b:ByteArray,u= .string a/\v= .string b/\c.den E.ρ=decide (a=b):=by
 unfold DV at hs;split at hs
 ·grind
 ·rename_i e he;split at hs
  ·grind
  ·rename_i f hf;simp only [ah] at hs;subst hs;obtain⟨a,rfl,ha⟩:=A5 hx he;obtain⟨b,rfl,hb⟩:=A5 hy hf;refine⟨a,b,rfl,rfl,?_⟩
   grind [ny,rG,Ia,fY]
theorem Ad (a b:ByteArray):(a.toList == b.toList)=decide (a=b):=by
 rw [awb,beq_iff_eq,decide_eq_true_eq];constructor
 ·intro h;rw [<- lQ a,<- lQ b]
  have e: ∀x:ByteArray,x.toList=x.data.toList:=by
   intro x;have:=sS (bytesOf x);rw [lQ] at this;rw [this]
   have e2:(UInt8.ofNat ∘ fun b:UInt8=>b.toNat)=id:=by funext b;simp
   simp_all [bytesOf,e2]
  grind [bytesOf]
 grind
theorem Jr {E:En} (hx:VR E w.heap x u) (hy:VR E w.heap y u') (h:LI op (DV x y)=some v) :
 (∃r,(binOp op t u u').run P w= .ok r w/\VR E w.heap v r)/\(∀cs ds,¬(u= .agg cs/\u'= .agg ds))/\¬(u= .nilIface/\u'= .nilIface):=by
 unfold LI at h;split at h
 ·grind
 ·rename_i c hc;obtain⟨a,b,rfl,rfl,V⟩:=Gn hx hy hc;refine⟨?_,ad,ad⟩;split at h
  ·simp only [ah] at h;subst h;refine⟨.bool (decide (a=b)),?_,by simp only [VR,V]⟩;rw [<- Ad];rfl
  ·simp only [ah] at h;subst h;refine⟨.bool (!decide (a=b)),?_,by simp only [VR,SB.den,V]⟩;rw [<- Ad];rfl
  grind
theorem abM {tt:TT} (cX:eS P tt) (hx:VR E w.heap x u) (hy:VR E w.heap y u') (h:abN tt t op x y=some v) :
 (∃r,(binOp op t u u').run P w= .ok r w/\VR E w.heap v r)/\(∀cs ds,¬(u= .agg cs/\u'= .agg ds))/\¬(u= .nilIface/\u'= .nilIface):=by
 unfold abN at h;split at h
 ·split at h
  ·simp only [VR] at hx hy;subst hx hy;refine⟨?_,ad,ad⟩;split at h
   all_goals simp_all [aa9]
  grind
 ·split at h
  ·simp only [VR] at hx hy;obtain⟨rfl,hx⟩:=hx;obtain⟨rfl,hy⟩:=hy;refine⟨?_,ad,ad⟩;obtain⟨r,U,Z⟩:=OH (P:=P) (E:=E) (w:=w) hx hy h;refine⟨r,?_,Z⟩;cases op<;>first |(simp [OI] at h; done)|(simpa [binOp] using U)
  ·exact Jr hx hy h
  grind
 ·exact Jr hx hy h
 ·split at h
  ·grind
  ·rename_i i hi;split at h
   ·rename_i c hc;simp at h;subst h;obtain⟨e1,e2,e3,e4,e5,e6,e7⟩:=WL (w:=w) (cX t i hi) hx hy hc;exact⟨⟨_,(binOp_eql e1 e4 e5 e6 e7).1,by simp only [VR]⟩,e2,e3⟩
   ·rename_i c hc;simp at h;subst h;obtain⟨e1,e2,e3,e4,e5,e6,e7⟩:=WL (w:=w) (cX t i hi) hx hy hc;exact⟨⟨_,(binOp_eql e1 e4 e5 e6 e7).2,by simp only [VR,pd]⟩,e2,e3⟩
   grind
theorem af7 {op:UnOp} (hx:VR E w.heap x u) (h:aon op x=some v): ∃r,(Op.unary op u).run P w= .ok r w/\VR E w.heap v r:=by
 unfold aon at h;split at h
 ·simp at h; subst h;simp only [VR] at hx; subst hx;exact⟨_,rfl,by simp only [VR,pd]⟩
 ·simp at h; subst h;simp only [VR] at hx; subst hx;exact⟨_,rfl,by simp only [VR,Jx,Y.den]⟩
 grind
end
end
section
variable {H H':Hp} {v:AV} {tt:TT} {t:Nat} {u:Value} {parts:List (Nat×AV)} {ps:Array (Nat×Value)}
section
variable {P:Program} {E:En} {w:World}
theorem jt [bN] {w':World} (r:bV E H w) {cs:List AV} {us:List Value} (arr:Array Value) (lo hi:Nat) (e:TypeId) (hv:cJ E w.heap cs us) (U: ∀u∈us,u.oneCell'=true)
 (ha: ∀(i:Nat) (u:Value),us[i]?=some u->arr[i]?=some u) (hf: ∀o:Nat,lo<=o->o<hi->arr.size<=o) (hw:w'.heap=w.heap.push (.cells arr e (lo,hi))) (al:Alike w w') :
 fD E H w (E.ext H.fresh (w.heap.size,0) arr.size) (H.new (.cells cs e)) w'/\bV (E.ext H.fresh (w.heap.size,0) arr.size) (H.new (.cells cs e)) w':=by
 refine Bq r _ _ _ hw al ?_;have k:=Hf r (w.heap.size,0) arr.size (.cells arr e (lo,hi));rw [<- hw] at k;have hlen:=hv.length;simp only [OR,En.ext_θ_new,En.ext_κ_new];refine⟨arr,lo,hi,us,by rw [hw]; simp,cJ.du k _ _ hv,fun i u hu=>by rw [aK]; exact ha i u hu,?_,J,hf,U⟩;rw [<- hlen];rcases aX arr.size us.length with hh|hh
 ·have:=ha arr.size us[arr.size] (by simp [hh])
  grind
 grind
theorem LS [bN] (_:bV E H w) (c:Nat) (h:Array Obj) (off:Nat):VR (E.ext H.fresh (w.heap.size,0) c) h (.ptr H.fresh off) (.pointer (some ⟨w.heap.size,off,none⟩)):=by
 simp only [VR,En.ext_θ_new]
 grind [En.iL]
theorem T2 [bN] (cX:eS P tt) (r:bV E H w) {p:AV} {x:Value} (hp:VR E w.heap p u) (hx:VR E w.heap v x) (h:MD tt t p v H=some H') :
 ∃w',(Instr.storeAt t u x).run P w= .ok () w'/\fD E H w E H' w'/\bV E H' w':=by
 unfold MD at h;split at h
 ·grind
 ·rename_i i hi;split at h
  ·rename_i hc;simp only [aq,decide_eq_true_eq] at hc;split at h
   ·split at h
    ·rename_i id off cs e hl;split at h
     ·rename_i mQ hs;simp at h;subst h;simp only [VR] at hp;obtain⟨rfl,_⟩:=hp;have RQ:=hx.cells hc.2;have hlen:x.cells.size=i.size:=by have:=RQ.length; simp only [bh] at this; omega
      obtain⟨w',U,Z,h3⟩:=mT (P:=P) r hl hs RQ (RQ.uC hc.2);refine⟨w',?_,Z,h3⟩;simp [Instr.storeAt,Instr.sureAddr,storeVar,fm (cX t i hi),hlen,U]
     grind
    grind
   grind
  grind
theorem Kz: ∀(vs:List Value) (off k:Nat) (arr:Array Value),off+k+vs.length<=arr.size->
 ((vs.zipIdx k).foldl (fun cs p=>cs.setIfInBounds (off+p.2) p.1) arr).size=arr.size/\
 ∀i,((vs.zipIdx k).foldl (fun cs p=>cs.setIfInBounds (off+p.2) p.1) arr)[i]?=if off+k<=i/\i<off+k+vs.length then vs[i-(off+k)]? else arr[i]?
 |[],off,k,arr,_=> ⟨rfl,fun i=>by rw [af ad]; rfl⟩
 |v::vs,off,k,arr,h=>by
  simp only [List.zipIdx_cons,List.foldl_cons];obtain⟨U,Z⟩:=Kz vs off (k+1) (arr.setIfInBounds (off+k) v) (by simp at h ⊢; omega)
  grind
def vU (E:En) (h:Array Obj):List (Nat×AV)->List (Nat×Value)->Prop
 |[],ps=>ps= []
 |(i,v)::xs,ps=> ∃x r,ps=(i,x)::r/\VR E h v x/\vU E h xs r
theorem rZ {place:Nat->Option (Nat×Nat)} {h:Array Obj}: ∀{parts:List (Nat×AV)} {cs mQ:List AV} {us:Array Value} {ps:List (Nat×Value)},
 vE place cs parts=some mQ->cJ E h cs us.toList->vU E h parts ps->(∀u∈us.toList,u.oneCell'=true)->
 ∃iI:Array Value,Instr.fill place us ps=some iI/\cJ E h mQ iI.toList/\∀u∈iI.toList,u.oneCell'=true
 |[],cs,mQ,us,ps,U,Z,h3,h4=>by simp only [vU] at h3;subst h3;simp [vE] at U;subst U;exact⟨us,rfl,Z,h4⟩
 |(i,v)::parts,cs,mQ,us,ps,U,Z,h3,h4=>by
  simp only [vU] at h3;obtain⟨x,ps',rfl,hx,hb⟩:=h3;simp only [vE] at U;split at U
  ·simp at U
  ·rename_i off size hp;split at U
   ·rename_i hc;simp only [aq,decide_eq_true_eq] at hc;split at U
    ·rename_i cs2 hs;have RQ:=hx.cells hc.2;have hlen:=RQ.length;simp only [bh] at hlen;obtain⟨e1,e2,iI,e3,e4⟩:=yx hs Z RQ;have hul:=Z.length;simp only [bh] at hul;have ar2:=Kz x.cells.toList off 0 us (by simp; omega)
     have heq:(x.cells.zipIdx.foldl (fun cs (c,j)=>cs.setIfInBounds (off+j) c) us).toList=iI:=by apply awL;intro k;rw [e4 k];have h5:=ar2.2 k;simp only [avZ,bh] at h5;rw [avW,<- Array.foldl_toList,Array.toList_zipIdx];rw [h5];simp only [bh,avW]
     have h6: ∀u∈(x.cells.zipIdx.foldl (fun cs (c,j)=>cs.setIfInBounds (off+j) c) us).toList,u.oneCell'=true:=by
      rw [heq];intro u hu;rw [awJ] at hu;obtain⟨k,hk⟩:=hu;rw [e4 k] at hk;split at hk
      ·exact RQ.uC hc.2 u (bq hk)
      ·exact h4 u (bq hk)
     obtain⟨us2,g1,g2,g3⟩:=rZ (us:=x.cells.zipIdx.foldl (fun cs (c,j)=>cs.setIfInBounds (off+j) c) us) U (by rw [heq]; exact e3) hb h6;refine⟨us2,?_,g2,g3⟩;simp only [Instr.fill,hp];rw [af]
     ·exact g1
     ·simp only [awd,decide_eq_true_eq,not_or];constructor
      ·omega
      ·omega
    ·simp at U
   ·simp at U
theorem AE {s:St} {a:Act} (sr:SR E w.heap s.bC a): ∀{xs:List (Nat×Operand)} {ps:List (Nat×AV)},yQ s xs=some ps->vU E w.heap ps (xs.map fun p=>(p.1,a.eval p.2))
 |[],ps,h=>by simp [yQ] at h; subst h; simp [vU]
 |(i,x)::xs,ps,h=>by
  simp only [yQ] at h;split at h
  ·grind
  ·rename_i b hb;split at h
   ·grind
   ·rename_i bs hbs;simp at h;subst h;simp only [aF,vU];exact⟨_,_,rfl,iF sr hb,AE sr hbs⟩
theorem dG {α:Type}: ∀(l:List α) (i:Nat),fR l i=l[i]?
 |[],i=>by cases i<;>rfl
 |x::xs,0=>rfl
 |x::xs,i+1=>by simp [fR,dG xs i]
theorem G6 {α β:Type} {f:α->Option β}: ∀{l:List α} {r:List β},l.mapM f=some r->∀i:Nat,r[i]?=(l[i]?).bind f
 |[],r,h,i=>by simp at h; subst h; simp
 |x::xs,r,h,i=>by
  simp only [awM,axj,awY] at h;obtain⟨y,U,ys,Z,h3⟩:=h;simp only [pure,ah] at h3;subst h3
  cases i with
  |zero=>simp [U]
  |succ i=>simpa using G6 Z i
theorem VX {α β:Type} {f:α->Option β}: ∀{l:List α} {r:List β},r.length=l.length->(∀i:Nat,r[i]?=(l[i]?).bind f)->l.mapM f=some r
 |[],r,h,_=>by simp at h; subst h; simp
 |x::xs,[],h,_=>by simp at h
 |x::xs,y::ys,h,Z=>by have h0:=Z 0;simp at h0;have ih:=VX (l:=xs) (r:=ys) (by simpa using h) (fun i=>by simpa using Z (i+1));simp [awM,h0.symm,ih]
theorem Eg {α β:Type} {f:α->Option β}: ∀{l:List α} {r:List β},l.mapM f=some r->r.length=l.length
 |[],r,h=>by simp at h; subst h; simp
 |x::xs,r,h=>by simp only [awM,axj,awY] at h;obtain⟨y,U,ys,Z,h3⟩:=h;simp only [pure,ah] at h3;subst h3;simp [Eg Z]
theorem Ui (cX:eS P tt) (hp:vU E w.heap parts ps.toList) (h:MT tt t parts=some v) :
 ∃x,(Instr.build t ps).run P w= .ok x w/\VR E w.heap v x:=by
 unfold MT at h;split at h
 ·rename_i i hi;have iH:=cX t i hi;obtain⟨inf,z,g1,g2,g3,g4,g5⟩:=yI iH;have hz:=fK (E:=E) (h:=w.heap) g5;split at h
  ·rename_i fs hk;rw [aO] at h;obtain⟨mQ,U,rfl⟩:=h;obtain⟨iI,e1,e2,e3⟩:=rZ U hz.1 hp hz.2;obtain⟨zn,hu,hm⟩:=Ab iH hk
   have hb:P.built t ps.toList=some iI:=by
    unfold Program.built
    have hm2:(zn.toList.mapM fun f=>(P.info? f.type).map fun i=>(f.offset,i.size))=some (fs.map fun x=>(x.1,x.2.2)):=by
     refine VX (by simp [Eg hm]) fun i=>?_;have:=G6 hm i;rw [bg,this]
     cases zn.toList[i]? with
     |none=>rfl
     |some f=>simp only [Option.bind_some,Option.map_map]; rfl
    simp only [g1,hu,g4,hm2];simp_all [e1,dG]
   exact ahI
  ·rename_i n e hk;split at h
   ·rename_i s hs;rw [aO] at h;obtain⟨mQ,U,rfl⟩:=h;obtain⟨iI,e1,e2,e3⟩:=rZ U hz.1 hp hz.2;simp only [jb,aO] at hs;obtain⟨ie,nT,rfl⟩:=hs;obtain⟨avF,z',f1,f2,f3,f4,f5⟩:=yI (cX e ie nT)
    have hb:P.built t ps.toList=some iI:=by unfold Program.built;simp only [g1,uc iH hk,g4,f1];simp_all
    exact ahI
   grind
  grind
 grind
theorem D4 {α:Type} (l:List α) (hl:l≠[]): ∀(n i:Nat),i<n*l.length->(ed l n)[i]?=l[i % l.length]?
 |0,i,h=>by simp at h
 |n+1,i,h=>by
  have nQ:0<l.length:=awm.2 hl;simp only [ed];rw [axk];split
  ·rename_i Z; rw [awh Z]
  ·rename_i Z;rw [D4 l hl n (i-l.length) (by rw [av7] at h; omega)];congr 1;rw [<- Nat.mod_eq_sub_mod J]
theorem jH {α:Type} (l:List α): ∀n,(ed l n).length=n*l.length
 |0=>by simp [ed]
 |n+1=>by simp [ed,jH l n,av7]; omega
theorem nB {h:Array Obj} {cs:List AV} {us:List Value} (hv:cJ E h cs us): ∀n,cJ E h (ed cs n) (ed us n)
 |0=>by simp [ed,cJ]
 |n+1=>hv.append (nB hv n)
theorem nA {α:Type} {l:List α} {x:α}: ∀{n},x∈ed l n->x∈l
 |0,h=>by simp [ed] at h
 |n+1,h=>by
  simp only [ed,av5] at h;rcases h with h|h
  ·exact h
  ·exact nA h
theorem wO (z:Array Value) (hz:z.toList≠[]) (n:Nat):((Array.range (n*z.size)).map (z[·% z.size]!)).toList=ed z.toList n:=by
 apply awL;intro i
 grind [D4,jH]
theorem E7 [bN] (cX:eS P tt) (r:bV E H w) {len:Nat} (hp:vU E w.heap parts ps.toList) (h:vG tt t len parts H=some (v,H')) :
 ∃x w' E',(Instr.buildSlice t len ps).run P w= .ok x w'/\fD E H w E' H' w'/\bV E' H' w'/\VR E' w'.heap v x:=by
 unfold vG at h;split at h
 ·rename_i i hi;have iH:=cX t i hi;split at h
  ·rename_i e hk;split at h
   ·rename_i ie nT;have abe:=cX e ie nT;obtain⟨inf,z,g1,g2,g3,g4,g5⟩:=yI abe;have hz:=fK (E:=E) (h:=w.heap) g5;split at h
    ·rename_i hb;split at h
     ·rename_i cs U;simp only [ah,an] at h;obtain⟨rfl,rfl⟩:=h
      have jv:len*ie.size<=2 ^ 24:=by have:len*ie.size<=1000*1000:=axl hb.1 hb.2.1;omega
      have yJ:z.cells.size=ie.size:=by have:=hz.1.length; simp only [bh] at this; omega
      have key: ∃iI:Array Value,Instr.fill (fun i=>some (i*inf.size,inf.size)) ((Array.range (len*inf.size)).map ((if len*inf.size=0 then #[] else z.cells)[·% (if len*inf.size=0 then #[] else z.cells).size]!)) ps.toList=some iI/\cJ E w.heap cs iI.toList/\∀u∈iI.toList,u.oneCell'=true:=by
       rw [g2];by_cases h0:len*ie.size=0
       ·rw [ag h0,h0]
        have anM:ed ie.zero len= []:=by
         grind [jH]
        refine rZ U ?_ hp ?_
        all_goals grind [cJ]
       ·rw [af h0]
        have kg:z.cells.toList≠[]:=by intro hx;exact ahC
        have hzz:=wO z.cells kg len;rw [yJ] at hzz;refine rZ U ?_ hp ?_
        all_goals grind [nB,nA]
      obtain⟨iI,e1,e2,e3⟩:=key;refine⟨.slice (some ⟨w.heap.size,0,none⟩) len len,{ w with heap:=w.heap.push (.cells iI e) },E.ext H.fresh (w.heap.size,0) iI.size,?_,?_⟩
      ·by_cases h0:len*inf.size=0
       ·rw [ag h0] at e1;rw [h0] at e1;have e0: ∀f:Nat->Value,(Array.range 0).map f= #[]:=by intro f; simp
        rw [e0] at e1;simp [Instr.buildSlice,run_underlying (fF iH hk),sizeOf,typeInfo,g1,h0,e0,e1,newRow]
       ·rw [af h0] at e1;have h24: ¬(2 ^ 24<len*inf.size):=by rw [g2]; omega
        simp only [Instr.buildSlice,Sem.run_bind,run_underlying (fF iH hk),Result.andThen_ok,sizeOf,typeInfo,zeroValue,run_program,g1,g4,Sem.run_pure,newRow,gt_iff_lt,h24,h0,if_false,Sem.run_ite];rw [e1];rfl
      ·obtain⟨s1,s2⟩:=jt r iI 0 0 e e2 e3 (fun i u hu=>by rw [<- avW]; exact hu) J (w':={ w with heap:=w.heap.push (.cells iI e) }) rfl ⟨rfl,rfl,rfl⟩;refine⟨s1,s2,?_⟩;simp only [VR]
       grind [En.iL,fS,En.ext_θ_new]
     grind
    grind
   grind
  grind
 grind
theorem Kj {E:En} {h:Array Obj} {n:Int} (hv:VR E h v u) (hl:lH v=some n): ∃k,u= .int k n:=by
 unfold lH at hl;split at hl
 ·simp only [ah] at hl;subst hl;simp only [VR,Y.den] at hv
  grind
 grind
theorem xO [bN] (cX:eS P tt) (r:bV E H w) {l c:AV} {lu cu:Value} (hl:VR E w.heap l lu) (hc:VR E w.heap c cu) (h:s7 tt t l c H=some (v,H')) :
 ∃x w' E',(Instr.makeSlice t lu cu).run P w= .ok x w'/\fD E H w E' H' w'/\bV E' H' w'/\VR E' w'.heap v x:=by
 unfold s7 at h;split at h
 ·rename_i n Er;split at h
  ·rename_i m hcm;obtain⟨k1,rfl⟩:=Kj hl Er;obtain⟨k2,rfl⟩:=Kj hc hcm;split at h
   ·rename_i i hi;have iH:=cX t i hi;split at h
    ·rename_i e hk;split at h
     ·rename_i ie nT;have abe:=cX e ie nT;obtain⟨inf,z,g1,g2,g3,g4,g5⟩:=yI abe;have hz:=fK (E:=E) (h:=w.heap) g5;split at h
      ·rename_i hb;obtain⟨b1,b2,b3,b4,b5⟩:=hb;simp only [ah,an] at h;obtain⟨rfl,rfl⟩:=h;have yJ:z.cells.size=ie.size:=by have:=hz.1.length; simp only [bh] at this; omega
       have wn:IntKind.i64.wrap (Int.ofNat n)=Int.ofNat n:=by exact ahy
       have wm:IntKind.i64.wrap (Int.ofNat m)=Int.ofNat m:=by exact ahy
       have I4:inf.bytes*m<=1000000000:=by rw [g3]; exact axl b4 b2
       have ai: ∀(k:IntKind) (x:Int) (w:World),(asInt (Value.int k x)).run P w= .ok x w:=fun _ _ _=>rfl
       have key: ∃iI:Array Value,((Array.range (m*inf.size)).map ((if m*inf.size=0 then #[] else z.cells)[·% (if m*inf.size=0 then #[] else z.cells).size]!))=iI/\cJ E w.heap (ed ie.zero m) iI.toList/\∀u∈iI.toList,u.oneCell'=true:=by
        rw [g2];by_cases h0:m*ie.size=0
        ·grind [ed,jH,cJ]
        ·rw [af h0]
         have kg:z.cells.toList≠[]:=by intro hx;exact ahC
         grind [wO,nB,nA]
       obtain⟨iI,e1,e2,e3⟩:=key;refine⟨.slice (some ⟨w.heap.size,0,none⟩) n m,{ w with heap:=w.heap.push (.cells iI e) },E.ext H.fresh (w.heap.size,0) iI.size,?_,?_⟩
       ·have t1: ¬(Int.ofNat m<0):=ad
        have t2: ¬((inf.bytes:Int)*Int.ofNat m > 2 ^ 48):=by
         grind
        have t3: ¬(Int.ofNat n<0):=ad
        have t4: ¬(Int.ofNat n > Int.ofNat m):=by simp; omega
        have t5:(askRoom (m*inf.bytes)).run P w= .ok () w:=by simp_all
        have t6:(Int.ofNat m).toNat=m:=rfl;have t7:(Int.ofNat n).toNat=n:=rfl;by_cases h0:m*inf.size=0
        ·rw [ag h0] at e1;rw [h0] at e1;simp only [Instr.makeSlice,Sem.run_bind,run_underlying (fF iH hk),Result.andThen_ok,ai,sizeOf,typeInfo,zeroValue,run_program,g1,g4,Sem.run_pure,newRow,Sem.run_ite,wn,wm,t1,t2,t3,t4,t6,t7,h0,decide_false,awZ,aR,if_false,if_true];simp_all
        ·rw [af h0] at e1;simp only [Instr.makeSlice,Sem.run_bind,run_underlying (fF iH hk),Result.andThen_ok,ai,sizeOf,typeInfo,zeroValue,run_program,g1,g4,Sem.run_pure,newRow,Sem.run_ite,wn,wm,t1,t2,t3,t4,t6,t7,h0,decide_false,awZ,aR,if_false];simp_all
       ·obtain⟨s1,s2⟩:=jt r iI 0 0 e e2 e3 (fun i u hu=>by rw [<- avW]; exact hu) J (w':={ w with heap:=w.heap.push (.cells iI e) }) rfl ⟨rfl,rfl,rfl⟩;refine⟨s1,s2,?_⟩;simp only [VR];exact⟨En.iL _ _ _ _,⟨w.heap.size,0,none⟩,m,rfl,b1,by simp [fS,En.ext_θ_new]⟩
      grind
     grind
    grind
   grind
  grind
 grind
end
end
section
variable {t f off:Nat} {x v ix:AV} {u ui:Value} {tt:TT} {i:TI}
section
variable {P:Program} {E:En} {w:World}
theorem OZ (iH:oP P t i) {fs:List (Nat×Nat×Nat)} (hk:i.kind= .struct fs) {ft sz:Nat} (h:fR fs f=some (off,ft,sz)) :
 ∃(zn:Array Field) (fd:Field) (inf:TypeInfo),P.underlying t=some (.struct zn)/\zn[f]?=some fd/\fd.offset=off/\fd.type=ft/\P.info? ft=some inf/\inf.size=sz:=by
 obtain⟨zn,hu,hm⟩:=Ab iH hk;have U:=G6 hm f;rw [<- dG,h,avW] at U
 cases hf:zn[f]? with
 |none=>rw [hf] at U; simp at U
 |some fd=>
  rw [hf] at U;simp only [Option.bind_some] at U
  cases hi:P.info? fd.type with
  |none=>rw [hi] at U; simp at U
  |some inf=>
   grind
theorem JQ (hx:VR E w.heap x u) (h:VV off x=some v) :
 ∃b o,u= .pointer (some ⟨b,o,none⟩)/\VR E w.heap v (.pointer (some ⟨b,o+off,none⟩)):=by
 unfold VV at h;cases x<;>simp only [ah,reduceCtorEq,aO] at h
 case ptr id o=>
  subst h;simp only [VR] at hx ⊢;obtain⟨rfl,hid⟩:=hx;exact⟨_,_,rfl,by rw [avX],hid⟩
 case B6 id es i o=>
  subst h;simp only [VR] at hx ⊢;obtain⟨hid,k,U,rfl⟩:=hx;exact⟨_,_,rfl,hid,k,U,by rw [avX,avX]⟩
 case pe cs=>
  obtain⟨l,U,rfl⟩:=h;simp only [VR] at hx ⊢;obtain⟨b,o,us,rfl,Z,h3,h4,h5⟩:=hx;exact⟨b,o,rfl,b,o+off,us.drop off,rfl,Z,(h3.fq U).1,h4.drop off,fun u hu=>h5 u (bu hu)⟩
theorem HS (cX:eS P tt) (hx:VR E w.heap x u) (h:xQ tt t x f=some v) :
 ∃r,(Instr.fieldAt t u f).run P w= .ok r w/\VR E w.heap v r:=by
 unfold xQ at h;split at h
 ·rename_i i hi;split at h
  ·rename_i fs hk;split at h
   ·rename_i off ft sz hn;obtain⟨zn,fd,inf,hu,hf,U,Z,h3,h4⟩:=OZ (cX t i hi) hk hn;split at h
    ·grind
    ·rename_i jv;obtain⟨b,o,rfl,hv⟩:=JQ hx h;refine⟨_,?_,hv⟩;have kg: ¬inf.size=0:=by rw [h4]; exact jv
     simp [Instr.fieldAt,run_underlying hu,hf,Instr.sureAddr,fieldPlace,sizeOf,typeInfo,Z,h3,kg,gG,U]
   grind
  grind
 grind
theorem VL (iH:oP P t i) {cs l:List AV} {us:List Value} (hv:cJ E w.heap cs us) (V:fq off cs=some l)
 (h:partOf i l=some v) :
 ∃r,(part t us.toArray off).run P w= .ok r w/\VR E w.heap v r:=by
 obtain⟨U,Z,h3⟩:=hv.fq V;have hlen:=hv.length;unfold partOf at h;split at h
 ·rename_i TF;rw [aO] at h;obtain⟨l',h4,rfl⟩:=h;obtain⟨h5,h6⟩:=U.ja h4;refine⟨.agg (us.toArray.extract off (off+i.size)),?_,?_⟩
  ·simp [part,rj iH,TF,fm iH]
  ·simp only [VR]
   grind
 ·rename_i TF;split at h
  ·rename_i x l';simp at h;subst h;rw [bS] at U;obtain⟨u,vs,he,h5,_⟩:=U;refine⟨u,?_,h5⟩
   have hg:us[off]?=some u:=by
    have:=congrArg (·[0]?) he
    grind
   simp [part,rj iH,TF,hg]
  grind
theorem Ub (cX:eS P tt) (hx:VR E w.heap x u) (h:ML tt t x f=some v) :
 ∃r,(Instr.field t u f).run P w= .ok r w/\VR E w.heap v r:=by
 unfold ML at h;split at h
 ·rename_i i hi;split at h
  ·rename_i fs hk;split at h
   ·rename_i off ft sz hn;obtain⟨zn,fd,inf,hu,hf,U,Z,h3,h4⟩:=OZ (cX t i hi) hk hn;split at h
    ·rename_i fi cs hfi;split at h
     ·rename_i l hl;simp only [VR] at hx;obtain⟨us,rfl,hv⟩:=hx;obtain⟨r,e1,e2⟩:=VL (w:=w) (cX ft fi hfi) hv hl h;refine⟨r,?_,e2⟩;simp [Instr.field,run_underlying hu,hf,asAgg,U,Z,e1]
     grind
    grind
   grind
  grind
 grind
theorem De {n:Int} (hx:VR E w.heap x u) (h:lH x=some n): ∃k,u= .int k n:=by
 cases x<;>simp [lH] at h;rename_i k e;cases e<;>simp at h;subst h;simp only [VR,Y.den] at hx
 grind
theorem sa (cX:eS P tt) (hx:VR E w.heap x u) (BH:VR E w.heap ix ui) (h:qf tt t x ix=some v) :
 ∃r,(Instr.indexAt t u ui).run P w= .ok r w/\VR E w.heap v r:=by
 unfold qf at h;split at h
 ·rename_i i hi;obtain⟨k,rfl⟩:=De BH hi;split at h
  ·rename_i ti iH;have xy:=cX t ti iH;split at h
   ·rename_i n e hk;split at h
    ·rename_i gB;split at h
     ·rename_i s hs;simp only [jb,aO] at hs;obtain⟨ie,nT,rfl⟩:=hs;obtain⟨b,o,rfl,hv⟩:=JQ hx h;refine⟨_,?_,hv⟩;have hu:=uc xy hk;simp [Instr.indexAt,asIntOf,run_underlying hu,Instr.sureAddr,fm (cX e ie nT),gB,gG]
     grind
    grind
   ·rename_i e hk;have hu:=fF xy hk;split at h
    ·rename_i s hs;simp only [jb,aO] at hs;obtain⟨ie,nT,rfl⟩:=hs;split at h
     ·rename_i id o len c;split at h
      ·rename_i gB;simp at h;subst h;simp only [VR] at hx;obtain⟨hid,a,cap,rfl,lI,hc⟩:=hx
       have ha:a=⟨(E.θ id).1,(E.θ id).2+o,none⟩:=by exact alR
       subst ha;refine⟨.pointer (some ⟨(E.θ id).1,(E.θ id).2+o+i*ie.size,none⟩),?_,by simp only [VR]; exact⟨by rw [avX],hid⟩⟩;exact ahE
      grind
     ·rename_i cs n full;split at h
      ·rename_i gB;rw [aO] at h;obtain⟨l,U,rfl⟩:=h;simp only [VR] at hx;obtain⟨b,o,cap,us,rfl,Z,h3,h4,h5,h6,h7⟩:=hx;refine⟨.pointer (some ⟨b,o+i*ie.size,none⟩),?_,?_⟩
       ·exact ahE
       ·simp only [VR];exact⟨b,_,us.drop (i*ie.size),rfl,h4,(h5.fq U).1,h6.drop _,fun u hu=>h7 u (bu hu)⟩
      grind
     grind
    grind
   grind
  grind
 grind
theorem Gp (s:List Nat) (i:Nat):(dB s)[i]?=(s[i]?).map UInt8.ofNat:=by have U:(dB s)[i]?=(dB s).data[i]?:=rfl;rw [U];simp [dB]
theorem AF (cX:eS P tt) (hx:VR E w.heap x u) (BH:VR E w.heap ix ui) (h:B1 tt t x ix=some v) :
 ∃r,(Instr.index t u ui).run P w= .ok r w/\VR E w.heap v r:=by
 unfold B1 at h;split at h
 ·rename_i i hi;obtain⟨k,rfl⟩:=De BH hi;split at h
  ·rename_i ti iH;have xy:=cX t ti iH;split at h
   ·rename_i s hk;rw [aO] at h;obtain⟨b,hb,rfl⟩:=h;simp only [VR] at hx;obtain⟨rfl,gB⟩:=hx;rw [dG] at hb;have hg:(dB s)[i]?=some (UInt8.ofNat b):=by rw [Gp,hb]; rfl
    have au7:=gB b (bq hb);refine⟨_,by simp [Instr.index,asIntOf,run_underlying (gj xy hk),hg]; rfl,?_⟩;simp only [VR,Y.den]
    grind
   ·rename_i n e cs hk;split at h
    ·rename_i gB;split at h
     ·rename_i ie nT;split at h
      ·rename_i l hl;simp only [VR] at hx;obtain⟨us,rfl,hv⟩:=hx;obtain⟨r,e1,e2⟩:=VL (w:=w) (cX e ie nT) hv hl h;refine⟨r,?_,e2⟩;simp [Instr.index,asIntOf,run_underlying (uc xy hk),gB,fm (cX e ie nT),e1]
      grind
     grind
    grind
   grind
  grind
 grind
end
end
section
variable {d y k len cap m h l t:Nat} {x v:AV} {u:Value} {lo hi mx:Option AV} {Eh hi' mx':Option Value} {tt:TT}
section
variable {P:Program} {E:En} {w:World}
def gZ (E:En) (h:Array Obj):Option AV->Option Value->Prop
 |none,o=>o=none
 |some x,o=> ∃u,o=some u/\VR E h x u
theorem fL {s:St} {a:Act} (sr:SR E w.heap s.bC a) {x:Option Operand} {v:Option AV} (h:KK s x=some v):gZ E w.heap v (x.map a.eval):=by
 cases x with
 |none=>simp [KK] at h; subst h; simp [gZ]
 |some x=> simp only [KK,aO] at h;obtain⟨b,U,rfl⟩:=h;exact⟨_,rfl,iF sr U⟩
theorem Ck (hx:VR E w.heap x u) (h:pP (some x) d y=some k) {y':Nat} (hy:y<=y') (code:BoundsCode) :
 (Instr.sliceBound u y' code).run P w= .ok k w/\k<=y:=by
 unfold pP at h;simp only at h;split at h
 ·rename_i i hi;obtain⟨kk,rfl⟩:=De hx hi;split at h
  ·rename_i hle;simp at h;subst h;refine⟨?_,hle⟩;have:((i:Int)<=(y':Int)):=J
   simp [Instr.sliceBound,asIntOf];omega
  grind
 grind
theorem Iq (h:pP none d y=some k):k=d/\d<=y:=by
 grind [pP]
theorem gu {isSlice:Bool} {m0 h0:Nat} (rm:gZ E w.heap lo Eh) (AU:gZ E w.heap hi hi') (AA:gZ E w.heap mx mx')
 (hmh:mx.isSome=true->hi.isSome=true)
 (hm:(mx=none/\m=cap/\m0<=cap)\/(∃x,mx=some x/\pP mx d m0=some m/\m0<=cap))
 (hh:pP hi len h0=some h) (hh0:(mx=none->h0<=cap)/\(mx≠none->h0=m)) (hl:pP lo 0 h=some l) :
 (Instr.sliceBounds isSlice len cap Eh hi' mx').run P w= .ok (l,h,m) w/\l<=h:=by
 have key: ∀(c:BoundsCode) (v:AV) (u:Value),lo=some v->VR E w.heap v u->(Instr.sliceBound u h c).run P w= .ok l w/\l<=h:=by intro c v u hv hu;subst hv;exact Ck hu hl (aw _) c
 have avD:lo=none->l=0:=fun hv=>by subst hv; exact (Iq hl).1
 unfold Instr.sliceBounds;rcases hm with ⟨rfl,rfl,hm0⟩|⟨x,rfl,hm1,hm0⟩
 ·simp only [gZ] at AA;subst AA;have hb:=hh0.1 rfl
  cases hi with
  |none=> simp only [gZ] at AU;subst AU;obtain⟨rfl,_⟩:=Iq hh;exact aim
  |some y=> obtain⟨uy,rfl,huy⟩:=AU;have U:=fun c=>(Ck (P:=P) huy hh hb c).1;exact aim
 ·obtain⟨ux,rfl,hux⟩:=AA;have Z:=fun c=>(Ck (P:=P) hux hm1 hm0 c).1;have hb:=hh0.2 ad;subst hb
  cases hi with
  |none=>simp at hmh
  |some y=>
   obtain⟨uy,rfl,huy⟩:=AU;have U:=fun c=>(Ck (P:=P) huy hh (aw _) c).1
   cases lo with
   |none=> simp only [gZ] at rm;simp_all
   |some v=> obtain⟨u,rfl,hu⟩:=rm;obtain⟨k1,k2⟩:=key .slice3C v u rfl hu;simp_all
theorem u6 (s:List Nat) (l h:Nat):(dB s).extract l h=dB ((s.take h).drop l):=by apply ByteArray.ext;apply Array.ext';rw [Lib.extract_data];simp [dB,awr,awz,List.drop_take]
theorem ss {id o es:Nat} {a:Addr} {c c':U5} (hc:fS E id o len a cap c) (hlen:len<=cap) (hlh:l<=h) (hhm:h<=m) (hmc:m<=cap)
 (TE:(∃k,c= .exact k/\c'= .exact (m-l))\/(c= .rest es/\c'= .exact (m-l))\/(c= .rest es/\c'= .rest es/\m=cap)) (s:Nat) (mj:c'= .rest es->es=s) :
 fS E id (o+l*s) (h-l) (if m=l then a else a.add (l*s)) (m-l) c':=by
 rcases TE with ⟨k,rfl,rfl⟩|⟨rfl,rfl⟩|⟨rfl,rfl,rfl⟩
 ·exact ahP
 ·exact ahP
 ·simp only [fS] at *;obtain rfl:=mj trivial;by_cases hml:m=l
  ·grind
  ·left;rw [af hml];rcases hc with ha|ha
   ·refine⟨by rw [ha.1,gG,avX],?_⟩;rw [<- ha.2,avX,<- av7]
    grind
   ·omega
theorem mn {x:Option AV} (h:pP x d y=some k):k<=y:=by
 unfold pP at h;split at h
 ·grind
 ·split at h
  all_goals grind
theorem QC [bN] (cX:eS P tt) {H:Hp} (r:bV E H w) (hx:VR E w.heap x u)
 (rm:gZ E w.heap lo Eh) (AU:gZ E w.heap hi hi') (AA:gZ E w.heap mx mx') (h:HO tt t x lo hi mx H=some v) :
 ∃r,(Instr.sliceAt t u Eh hi' mx').run P w= .ok r w/\VR E w.heap v r:=by
 unfold HO at h;split at h
 ·grind
 ·split at h
  ·grind
  ·rename_i ti iH;have xy:=cX t ti iH;split at h
   ·rename_i e hk;have hu:=fF xy hk;split at h
    ·grind
    ·rename_i s hs;simp only [jb,aO] at hs;obtain⟨ie,nT,rfl⟩:=hs;have jv:=fm (w:=w) (cX e ie nT);split at h
     ·rename_i id o len es;split at h
      ·rename_i mj;split at h
       ·rename_i cs ty hl;split at h
        ·grind
        ·rename_i b Ct;split at h
         ·grind
         ·rename_i l oK;simp at h;subst h;obtain⟨mj,nQ⟩:=mj;subst mj;simp only [VR] at hx;obtain⟨hid,a,cap,rfl,hlen,hc⟩:=hx;have BF:=(r.live id _ hl).2.1;simp only [OR] at BF;obtain⟨arr,lo1,hi1,us,q1,q2,q3,q4,q5,q6,q7⟩:=BF
          have lI:(cs.length-o) / ie.size<=cap:=by
           simp only [fS] at hc;rcases hc with hc|hc
           ·have:cs.length-o<=cap*ie.size:=J
            exact Nat.div_le_of_le_mul (by rw [axh]; exact this)
           simp_all
          obtain⟨e1,e2⟩:=gu (P:=P) (w:=w) (isSlice:=true) (len:=len) (cap:=cap) (m0:=cap) (d:=0) (m:=cap) rm AU AA ad (.inl ⟨rfl,rfl,aw _⟩) Ct ⟨fun _=>lI,ad⟩ oK;have anU:=mn Ct;refine⟨.slice (some (if cap=l then a else a.add (l*ie.size))) (b-l) (cap-l),?_,?_⟩
          ·exact XQ
          ·simp only [VR];exact⟨hid,_,_,rfl,J,ss (es:=ie.size) hc hlen e2 J (aw _) (.inr (.inr ⟨rfl,rfl,rfl⟩)) _ (fun _=>rfl)⟩
       grind
      grind
     grind
   grind
theorem T3 (cX:eS P tt) (hx:VR E w.heap x u)
 (rm:gZ E w.heap lo Eh) (AU:gZ E w.heap hi hi') (AA:gZ E w.heap mx mx') (h:ME tt t x lo hi mx=some v) :
 ∃r,(Instr.sliceAt t u Eh hi' mx').run P w= .ok r w/\VR E w.heap v r:=by
 unfold ME at h;split at h
 ·grind
 ·rename_i ti iH;have xy:=cX t ti iH;split at h
  ·rename_i hk;have hu:=gj xy hk;split at h
   ·rename_i s;simp only [gZ] at AA;subst AA;split at h
    ·rename_i b hb;split at h
     ·rename_i l hl;simp at h;subst h;simp only [VR] at hx;obtain⟨rfl,gB⟩:=hx;obtain⟨e1,e2⟩:=gu (P:=P) (w:=w) (isSlice:=false) (len:=s.length) (cap:=s.length) (m0:=s.length) (d:=0) rm AU (mx:=none) (mx':=none) rfl ad (.inl ⟨rfl,rfl,aw _⟩) hb ⟨fun _=>aw _,ad⟩ hl;refine⟨.string ((dB s).extract l b),?_,?_⟩
      ·exact ahs
      ·simp only [VR,u6]
       grind
     grind
    grind
   grind
  ·rename_i e hk;have hu:=fF xy hk;split at h
   ·grind
   ·rename_i s hs;simp only [jb,aO] at hs;obtain⟨ie,nT,rfl⟩:=hs;have jv:=fun w'=>fm (cX e ie nT) w';split at h
    ·split at h
     ·grind
     ·rename_i hmh;split at h
      ·rename_i kh kl km Ct oK I4;simp at h;subst h;simp only [VR] at hx;subst hx;obtain rfl:kh=0:=by have:=mn Ct; omega
       obtain rfl:kl=0:=by have:=mn oK; omega
       obtain rfl:km=0:=by have:=mn I4; omega
       have hm:(mx=none/\0=0/\0<=0)\/(∃x,mx=some x/\pP mx 0 0=some 0/\0<=0):=by
        cases mx with
        |none=>exact .inl ⟨rfl,rfl,aw _⟩
        |some y=>exact .inr ⟨y,rfl,I4,aw _⟩
       obtain⟨e1,e2⟩:=gu (P:=P) (w:=w) (isSlice:=true) (len:=0) (cap:=0) (m0:=0) (d:=0) (m:=0) rm AU AA (by cases mx<;>cases hi<;>simp_all) hm Ct ⟨fun _=>aw _,fun _=>rfl⟩ oK;refine⟨.slice none 0 0,?_,by simp only [VR]⟩;exact agT
      grind
    ·rename_i id o len c;split at h
     ·grind
     ·rename_i hmh;split at h
      ·grind
      ·rename_i m I4;split at h
       ·grind
       ·rename_i b Ct;split at h
        ·grind
        ·rename_i l oK;simp at h;subst h;simp only [VR] at hx;obtain⟨hid,a,cap,rfl,hlen,hc⟩:=hx;have lI:cap=c:=by simp only [fS] at hc; exact hc.1
         subst lI
         have hm:(mx=none/\m=cap/\cap<=cap)\/(∃x,mx=some x/\pP mx cap cap=some m/\cap<=cap):=by exact aid
         obtain⟨e1,e2⟩:=gu (P:=P) (w:=w) (isSlice:=true) (len:=len) (cap:=cap) (m0:=cap) (d:=cap) (m:=m) rm AU AA (by cases mx<;>cases hi<;>simp_all) hm Ct ⟨fun _=>mn I4,fun _=>rfl⟩ oK;refine⟨.slice (some (if m=l then a else a.add (l*ie.size))) (b-l) (m-l),?_,?_⟩
         ·exact XQ
         ·simp only [VR];exact⟨hid,_,_,rfl,by have:=mn Ct; omega,ss (es:=0) hc hlen e2 (mn Ct) (mn I4) (.inl ⟨_,rfl,rfl⟩) _ ad⟩
    ·rename_i id o len es;split at h
     ·split at h
      ·grind
      ·rename_i b Ct;split at h
       ·grind
       ·rename_i l oK;split at h
        ·rename_i mj;simp at h;subst h;simp only [VR] at hx;obtain⟨hid,a,cap,rfl,hlen,hc⟩:=hx;obtain⟨e1,e2⟩:=gu (P:=P) (w:=w) (isSlice:=true) (len:=len) (cap:=cap) (m0:=cap) (d:=0) (m:=cap) rm AU AA ad (.inl ⟨rfl,rfl,aw _⟩) Ct ⟨fun _=>hlen,ad⟩ oK;have anU:=mn Ct;refine⟨.slice (some (if cap=l then a else a.add (l*ie.size))) (b-l) (cap-l),?_,?_⟩
         ·exact XQ
         ·simp only [VR];exact⟨hid,_,_,rfl,J,ss (es:=es) hc hlen e2 J (aw _) (.inr (.inr ⟨rfl,rfl,rfl⟩)) _ (fun _=>mj)⟩
        grind
     ·rename_i y;split at h
      ·grind
      ·grind
      ·rename_i b0 m I4;split at h
       ·grind
       ·rename_i b Ct;split at h
        ·grind
        ·rename_i l oK;simp at h;subst h;simp only [VR] at hx;obtain⟨hid,a,cap,rfl,hlen,hc⟩:=hx;obtain⟨e1,e2⟩:=gu (P:=P) (w:=w) (isSlice:=true) (len:=len) (cap:=cap) (m0:=len) (d:=0) (m:=m) rm AU AA ad (.inr ⟨y,rfl,I4,hlen⟩) Ct ⟨ad,fun _=>rfl⟩ oK;have Dq:=mn Ct;have hm2:=mn I4;refine⟨.slice (some (if m=l then a else a.add (l*ie.size))) (b-l) (m-l),?_,?_⟩
         ·exact XQ
         ·simp only [VR];exact⟨hid,_,_,rfl,J,ss (es:=es) hc hlen e2 Dq J (.inr (.inl ⟨rfl,rfl⟩)) _ ad⟩
    ·rename_i cs n full;split at h
     ·split at h
      ·grind
      ·rename_i b Ct;split at h
       ·grind
       ·rename_i l oK;split at h
        ·grind
        ·rename_i d V;split at h
         ·grind
         ·rename_i d' N3;simp at h;subst h;simp only [VR] at hx;obtain⟨bb,o,cap,us,rfl,hn,Ku,h4,h5,h6,h7⟩:=hx;obtain⟨e1,e2⟩:=gu (P:=P) (w:=w) (isSlice:=true) (len:=n) (cap:=cap) (m0:=cap) (d:=0) (m:=cap) rm AU AA ad (.inl ⟨rfl,rfl,aw _⟩) Ct ⟨fun _=>hn,ad⟩ oK;have Dq:=mn Ct;obtain⟨g1,g2,g3⟩:=h5.fq V;obtain⟨g4,g5⟩:=g1.ja N3;refine⟨.slice (some (if cap=l then⟨bb,o,none⟩ else (⟨bb,o,none⟩ : Addr).add (l*ie.size))) (b-l) (cap-l),?_,?_⟩
          ·exact XQ
          ·simp only [VR];by_cases hml:cap=l
           ·have h0:b-l=0:=J
            refine⟨bb,o,cap-l,(us.drop (l*ie.size)).take ((b-l)*ie.size),by rw [ag hml],J,fun _=>by omega,h4,g4,?_,fun u hu=>h7 u (bu (avV hu))⟩;rw [h0,av1];intro i u hu
            grind
           ·refine⟨bb,o+l*ie.size,cap-l,(us.drop (l*ie.size)).take ((b-l)*ie.size),by rw [af hml,gG],J,?_,h4,g4,(h6.drop _).take _,fun u hu=>h7 u (bu (avV hu))⟩;intro hf
            grind
     ·rename_i y;split at h
      ·grind
      ·grind
      ·rename_i b0 m I4;split at h
       ·grind
       ·rename_i b Ct;split at h
        ·grind
        ·rename_i l oK;split at h
         ·grind
         ·rename_i d V;split at h
          ·grind
          ·rename_i d' N3;simp at h;subst h;simp only [VR] at hx;obtain⟨bb,o,cap,us,rfl,hn,Ku,h4,h5,h6,h7⟩:=hx;obtain⟨e1,e2⟩:=gu (P:=P) (w:=w) (isSlice:=true) (len:=n) (cap:=cap) (m0:=n) (d:=0) (m:=m) rm AU AA ad (.inr ⟨y,rfl,I4,hn⟩) Ct ⟨ad,fun _=>rfl⟩ oK;have Dq:=mn Ct;obtain⟨g1,g2,g3⟩:=h5.fq V;obtain⟨g4,g5⟩:=g1.ja N3;refine⟨.slice (some (if m=l then⟨bb,o,none⟩ else (⟨bb,o,none⟩ : Addr).add (l*ie.size))) (b-l) (m-l),?_,?_⟩
           ·exact XQ
           ·simp only [VR];by_cases hml:m=l
            ·have h0:b-l=0:=J
             refine⟨bb,o,m-l,(us.drop (l*ie.size)).take ((b-l)*ie.size),by rw [ag hml],J,fun _=>by omega,h4,g4,?_,fun u hu=>h7 u (bu (avV hu))⟩;rw [h0,av1];intro i u hu
             grind
            ·refine⟨bb,o+l*ie.size,m-l,(us.drop (l*ie.size)).take ((b-l)*ie.size),by rw [af hml,gG],J,?_,h4,g4,(h6.drop _).take _,fun u hu=>h7 u (bu (avV hu))⟩;intro hf
             grind
    grind
  ·rename_i n e hk;have hu:=uc xy hk;split at h
   ·grind
   ·rename_i s hs;simp only [jb,aO] at hs;obtain⟨ie,nT,rfl⟩:=hs;have jv:=fun w'=>fm (cX e ie nT) w';split at h
    ·rename_i id o;split at h
     ·grind
     ·rename_i hmh;split at h
      ·grind
      ·rename_i m I4;split at h
       ·grind
       ·rename_i b Ct;split at h
        ·grind
        ·rename_i l oK;simp at h;subst h;simp only [VR] at hx;obtain⟨rfl,hid⟩:=hx
         have hm:(mx=none/\m=n/\n<=n)\/(∃x,mx=some x/\pP mx n n=some m/\n<=n):=by exact aid
         obtain⟨e1,e2⟩:=gu (P:=P) (w:=w) (isSlice:=false) (len:=n) (cap:=n) (m0:=n) (d:=n) (m:=m) rm AU AA (by cases mx<;>cases hi<;>simp_all) hm Ct ⟨fun _=>mn I4,fun _=>rfl⟩ oK;refine⟨.slice (some (if m=l then⟨(E.θ id).1,(E.θ id).2+o,none⟩ else (⟨(E.θ id).1,(E.θ id).2+o,none⟩ : Addr).add (l*ie.size))) (b-l) (m-l),?_,?_⟩
         ·simp [Instr.sliceAt,run_underlying hu,Instr.sureAddr,e1,jv]<;>split<;>rfl
         ·simp only [VR,fS];refine⟨hid,_,_,rfl,by have:=mn Ct; omega,rfl,?_⟩;by_cases hml:m=l
          ·grind
          ·left; rw [af hml,gG,avX]
    grind
  grind
end
end
section
variable {P:Program} {E:En} {w:World}
theorem EG {h:Array Obj}: ∀{cs:List AV} {us:List Value} {l:List Nat},xV cs=some l->cJ E h cs us->us=(l.map UInt8.ofNat).map (fun b=>Value.int .u8 (b.toNat:Int))/\∀b∈l,b<256
 |[],us,l,U,Z=>by
  simp [xV] at U;subst U;rw [jn] at Z
  grind
 |x::cs,us,l,U,Z=>by
  rw [bS] at Z;obtain⟨u,vs,rfl,h3,h4⟩:=Z;unfold xV at U;split at U
  ·rename_i he; simp at he
  ·rename_i b xs he;simp only [List.cons.injEq] at he;obtain⟨rfl,rfl⟩:=he;split at U
   ·rename_i hb;split at U
    ·rename_i l' hl;simp at U;subst U;obtain⟨e1,e2⟩:=EG hl h4;simp only [VR,Y.den] at h3;refine⟨?_,?_⟩
     ·rw [h3,e1];simp [awl,awh hb]
     grind
    grind
   grind
  grind
theorem B3 [bN] {tt:TT} (cX:eS P tt) {H H':Hp} (r:bV E H w) {sT dT:Nat} {x v:AV} {u:Value} (hx:VR E w.heap x u) (h:rq tt sT dT x H=some (v,H')) :
 ∃y w' E',(convert sT dT u).run P w= .ok y w'/\fD E H w E' H' w'/\bV E' H' w'/\VR E' w'.heap v y:=by
 unfold rq at h;split at h
 ·grind
 ·rename_i j hj;obtain⟨sd,hsd,hsk⟩:=uG (cX sT j hj);split at h
  ·rename_i i hi;have iH:=cX dT i hi;split at h
   ·rename_i k hk;have V:=yr iH hk;split at h
    ·rename_i kk n;simp only [ah,an] at h;obtain⟨rfl,rfl⟩:=h;simp only [VR] at hx;subst hx;refine⟨.int k (k.wrap n),w,E,?_,fD.refl _ _ _,r,by simp only [VR,Y.den,oD]⟩;simp [convert,run_underlying hsd,run_underlying V,Conv.intToInt,Y.den]
    ·rename_i kk e kg;simp only [ah,an] at h;obtain⟨rfl,rfl⟩:=h;simp only [VR] at hx;subst hx;refine⟨.int k (k.wrap (e.den E.ρ)),w,E,?_,fD.refl _ _ _,r,by simp only [VR,Y.den]⟩;simp [convert,run_underlying hsd,run_underlying V,Conv.intToInt]
    grind
   ·rename_i hk;have V:=gj iH hk;split at h
    ·rename_i hjk;split at h
     ·rename_i s;simp only [ah,an] at h;obtain⟨rfl,rfl⟩:=h;have hx':=hx;simp only [VR] at hx;obtain⟨rfl,_⟩:=hx;refine⟨_,w,E,?_,fD.refl _ _ _,r,hx'⟩;simp [convert,run_underlying (gj (cX sT j hj) hjk),run_underlying V]
     grind
    ·rename_i e hjk;have hs:=fF (cX sT j hj) hjk;split at h
     ·grind
     ·rename_i ie nT;split at h
      ·rename_i hu8;have he:=yr (cX e ie nT) hu8.1;split at h
       ·simp only [ah,an] at h;obtain⟨rfl,rfl⟩:=h;simp only [VR] at hx;subst hx;refine⟨.string .empty,w,E,?_,fD.refl _ _ _,r,?_⟩
        ·rw [run_convert_bytes_string w sT dT e none 0 0 hs he V];rfl
        ·simp only [VR];exact⟨rfl,ad⟩
       ·rename_i id o len c;split at h
        ·rename_i cs hcs;rw [aO] at h;obtain⟨l,hl,he2⟩:=h;simp only [an] at he2;obtain⟨rfl,rfl⟩:=he2;simp only [VR] at hx;obtain⟨hid,a,cap,rfl,lI,hc⟩:=hx;obtain⟨b,o',us,e1,e2,e3,e4,e5⟩:=yB r (p:=.ptr id o) (u:=.pointer (some ⟨(E.θ id).1,(E.θ id).2+o,none⟩)) (by simp only [VR]; exact⟨trivial,hid⟩) hcs;obtain⟨e6,e7⟩:=EG hl e3
         have hlen:len=(l.map UInt8.ofNat).length:=by
          grind
         have ha:a=⟨(E.θ id).1,(E.θ id).2+o,none⟩\/len=0:=by exact alR
         refine⟨.string (dB l),w,E,?_,fD.refl _ _ _,r,by simp only [VR]; exact⟨trivial,e7⟩⟩;rw [hlen];refine run_convert_bytes_back w sT dT e a cap (l.map UInt8.ofNat) hs he V fun k hk=>?_;rcases ha with ha|ha
         ·subst ha;rw [gG,qj];simp only [Value.pointer.injEq,ah,Addr.mk.injEq] at e1;obtain⟨e1a,e1b,_⟩:=e1;rw [e1a,e1b];refine e4 k _ ?_
          grind
         ·omega
        grind
       grind
      grind
    grind
   ·rename_i e hk;have V:=fF iH hk;split at h
    ·grind
    ·rename_i ie nT;split at h
     ·rename_i hu8;have he:=yr (cX e ie nT) hu8.1;split at h
      ·rename_i s;simp only [ah,an] at h;obtain⟨rfl,rfl⟩:=h;simp only [VR] at hx;obtain⟨rfl,gB⟩:=hx;have hs:=gj (cX sT j hj) hu8.2;have jv:(dB s).size=s.length:=nu s;have YQ:=grownCap_ge w (dB s).size 0 e
       have jh:(bytesRow (dB s) (grownCap w (dB s).size 0 e)).size=grownCap w (dB s).size 0 e:=by have U:(dB s).data.size=s.length:=jv;simp only [bytesRow,Array.size_append,Array.size_map,Array.size_replicate,U];omega
       have hv:cJ E w.heap (s.map fun c=>AV.int .u8 (.lit (Int.ofNat c))) ((s.map UInt8.ofNat).map (fun b=>Value.int .u8 (b.toNat:Int))):=by
        clear YQ jh jv
        induction s with
        |nil=>simp [cJ]
        |cons b s ih=> have hb:=gB b ad;rw [aF,aF,aF,bS];refine⟨_,_,rfl,?_,ih fun c hc=>gB c (by simp [hc])⟩;simp [VR,Y.den,awl,awh hb]
       obtain⟨s1,s2⟩:=jt r (bytesRow (dB s) (grownCap w (dB s).size 0 e)) (bytesRow (dB s) (grownCap w (dB s).size 0 e)).size ((bytesRow (dB s) (grownCap w (dB s).size 0 e)).size+1) e hv
        (by intro u hu; simp only [aW] at hu; obtain⟨b,_,rfl⟩:=hu; rfl)
        (by
         intro k u hu;have hk:=(a8.1 hu).1;simp only [bc] at hk;simp only [bytesRow];rw [axE (by have U:(dB s).data.size=s.length:=jv; simp only [Array.size_map,U]; exact hk)];rw [<- hu]
         simp [dB])
        (by intro o U Z; omega)
        (w':=w.drew.alloc (.cells (bytesRow (dB s) (grownCap w (dB s).size 0 e)) e ((bytesRow (dB s) (grownCap w (dB s).size 0 e)).size,(bytesRow (dB s) (grownCap w (dB s).size 0 e)).size+1))) rfl ⟨rfl,rfl,rfl⟩
       refine⟨_,_,_,run_bytes_of_string w sT dT e (dB s) hs V he,s1,s2,?_⟩;simp only [VR,jv];refine⟨En.iL _ _ _ _,⟨w.heap.size,0,none⟩,_,rfl,by rw [<- jv]; exact YQ,?_⟩;simp only [fS,En.ext_θ_new,En.ext_κ_new]
       grind
      grind
     grind
   grind
  grind
end
section
variable {t r:Nat} {kk:TK} {d:TypeDesc} {u:Value} {o:Obj}
section
variable {P:Program} {E:En} {w:World}
def DO (d:TypeDesc):TK->Prop
 | .int _=> ∃k,d= .int k
 | .string=>d= .string
 | .bool=>d= .bool
 |_=>False
theorem Av {tt:TT} (cX:eS P tt) (h:yG tt t=some kk): ∃d,P.underlying t=some d/\DO d kk:=by
 unfold yG at h;split at h
 ·rename_i i hi;split at h<;>simp only [ah,reduceCtorEq] at h<;>subst h
  ·rename_i k hk; exact⟨_,yr (cX t i hi) hk,k,rfl⟩
  ·rename_i hk; exact⟨_,gj (cX t i hi) hk,rfl⟩
  ·rename_i hk; exact⟨_,Ow (cX t i hi) hk,rfl⟩
 grind
theorem W! {x y:List Nat} (hx: ∀b∈x,b<256) (hy: ∀b∈y,b<256):(dB x == dB y)=iB x y:=by
 have e:(dB x == dB y)=((dB x).data == (dB y).data):=rfl;rw [e,awb,beq_iff_eq,nr];constructor
 ·intro h;have Z:=congrArg (fun b=>b.toList) h;simp only [dB] at Z
  grind [map_inj]
 grind
theorem Ps {h:Array Obj} {pc:List (SB×Bool)} (hp:cz E.ρ pc) (V:DO d kk) {a b:AV} {u':Value} (ha:VR E h a u) (hb:VR E h b u') {c:Bool} (hc:V8 pc kk a b=some c) :
 Instr.sameNow d u u'=some c/\(c=true->∀n,Instr.sameBits (n+1) u' u=true):=by
 unfold V8 at hc;split at hc
 ·obtain⟨k,rfl⟩:=V;split at hc
  ·simp only [VR] at ha hb;subst ha hb;split at hc
   ·rename_i hk;subst hk;have hc:=ia hp hc;rw [jF] at hc;exact ahN
   grind
  grind
 ·simp only [DO] at V;subst V;split at hc
  ·simp only [VR] at ha hb;obtain⟨rfl,ha⟩:=ha;obtain⟨rfl,hb⟩:=hb;simp at hc;subst hc;have he:=W! ha hb;refine⟨by simp only [Instr.sameNow,he],fun hh n=>?_⟩;simp only [Instr.sameBits]
   grind [nr]
  ·split at hc
   ·rename_i c0 h0;obtain⟨x,y,rfl,rfl,V⟩:=Gn ha hb h0;have hc:=ia hp hc;rw [V] at hc
    have hbe: ∀p q:ByteArray,(p == q)=decide (p=q):=by intro p q;exact aiv
    refine⟨by simp only [Instr.sameNow,hbe,hc],fun hh n=>?_⟩;simp only [Instr.sameBits,hbe]
    grind
   grind
 ·simp only [DO] at V;subst V;split at hc
  ·simp only [VR,SB.den] at ha hb;subst ha hb;simp at hc;exact ahN
  grind
 grind
theorem gQ (hu:P.underlying t=some d) (V:DO d kk) (b:Bool) (v:Value):(Instr.checkKey b 10000 t v).run P w= .ok () w:=by
 have h0:(10000:Nat)=9999+1:=rfl;rw [h0];generalize (9999:Nat)=n;cases kk<;>simp only [DO] at V
 ·subst V; simp [Instr.checkKey,run_underlying hu]
 ·obtain⟨k,rfl⟩:=V; simp [Instr.checkKey,run_underlying hu]
 ·subst V; simp [Instr.checkKey,run_underlying hu]
theorem rY {h:Array Obj} {pc:List (SB×Bool)} (hp:cz E.ρ pc) {kk:TK} {d:TypeDesc} (V:DO d kk) {k:AV} {u:Value} (hk:VR E h k u): ∀{es:List (AV×AV×Nat)} {cG:List MapEntry} {i:Nat} {res:Option (Nat×AV)},
 fb E h es cG->Ew pc kk k es i=some res->
 (res=none/\Instr.findNow d u cG i=some none)\/
 (∃j v e,res=some (i+j,v)/\cG[j]?=some e/\VR E h v e.val/\Instr.findNow d u cG i=some (some (i+j,e.val))/\∀n,Instr.sameBits (n+1) e.key u=true)
 |[],cG,i,res,he,hf=>by simp only [fb] at he;subst he;simp [Ew] at hf;exact .inl ⟨hf.symm,by simp [Instr.findNow]⟩
 |(k',v,b)::es,cG,i,res,he,hf=>by
  simp only [fb] at he;obtain⟨e,r,rfl,U,Z,h3,h4⟩:=he;simp only [Ew] at hf;split at hf
  ·rename_i hc;simp at hf;subst hf;obtain⟨g1,g2⟩:=Ps hp V hk U hc;exact .inr ⟨0,v,e,rfl,rfl,Z,by simp [Instr.findNow,g1],g2 rfl⟩
  ·rename_i hc;obtain⟨g1,g2⟩:=Ps hp V hk U hc;rcases rY hp V hk h4 hf with ⟨q1,q2⟩|⟨j,v',e',q1,q2,q3,q4,q5⟩
   ·exact .inl ⟨q1,by simp [Instr.findNow,g1,q2]⟩
   ·refine .inr ⟨j+1,v',e',?_,by simpa using q2,q3,?_,q5⟩
    ·grind
    ·simp only [Instr.findNow,g1,q4]; congr 3; omega
  grind
theorem gv (hu:P.underlying t=some d) {cG:List MapEntry} {r:Option (Nat×Value)} (h:Instr.findNow d u cG 0=some r):(Instr.findKey t u cG).run P w= .ok r w:=by simp [Instr.findKey,run_underlying hu,h]
theorem kx (h:w.heap[r]?=some o) (hn: ∀c e f,o≠.cells c e f):(getObj r).run P w= .ok o w:=by unfold getObj;exact ahc
theorem kb {o':Obj} (h:w.heap[r]?=some o) (hn: ∀c e f,o≠.cells c e f):(setObj r o').run P w= .ok () { w with heap:=w.heap.setIfInBounds r o' }:=by unfold setObj;exact ahc
theorem jc [bN] {H:Hp} (r:bV E H w) {id:Nat} {o:eN} (hl:H.get id=some o) (ao:eN) (o':Obj)
 (ho: ∀h',h'[(E.θ id).1]?=some o'->lr E w.heap E h'->OR E h' id ao) :
 fD E H w E (H.put id ao) { w with heap:=w.heap.setIfInBounds (E.θ id).1 o' }/\bV E (H.put id ao) { w with heap:=w.heap.setIfInBounds (E.θ id).1 o' }:=by
 have gB:=iz r hl
 have tx: ∀b,b≠(E.θ id).1->({ w with heap:=w.heap.setIfInBounds (E.θ id).1 o' }:World).heap[b]?=w.heap[b]?:=fun b hb=>by
  grind
 refine OV r hl ao ad tx ⟨rfl,rfl,rfl⟩ (ho _ ?_ (pZ r hl tx))
 grind
theorem fb.length {h:Array Obj}: ∀{es:List (AV×AV×Nat)} {cG:List MapEntry},fb E h es cG->cG.length=es.length
 |[],cG,he=>by simp only [fb] at he; simp [he]
 |(k,v,b)::es,cG,he=>by simp only [fb] at he;obtain⟨e,r,rfl,_,_,_,h4⟩:=he;simp [h4.length]
theorem fb.set {h:Array Obj} {k v:AV} {uk uv:Value} (hk:VR E h k uk) (hv:VR E h v uv): ∀{es:List (AV×AV×Nat)} {cG:List MapEntry} {i:Nat} {e:MapEntry},fb E h es cG->cG[i]?=some e->
 fb E h (uh k v es i) (cG.set i { e with key:=uk,val:=uv })
 |[],cG,i,e,he,hi=>by simp only [fb] at he; subst he; simp at hi
 |(k',v',b)::es,cG,0,e,he,hi=>by
  simp only [fb] at he;obtain⟨e0,r,rfl,U,Z,h3,h4⟩:=he;simp at hi;subst hi;simp only [uh,aw0,fb]
  grind
 |(k',v',b)::es,cG,i+1,e,he,hi=>by simp only [fb] at he;obtain⟨e0,r,rfl,U,Z,h3,h4⟩:=he;simp only [uh,aw1,fb];exact⟨e0,_,rfl,U,Z,h3,fb.set hk hv h4 (by simpa using hi)⟩
theorem fb.push {h:Array Obj} {k v:AV} {uk uv:Value} {c c':Nat} (hk:VR E h k uk) (hv:VR E h v uv): ∀{es:List (AV×AV×Nat)} {cG:List MapEntry},fb E h es cG->
 fb E h (es++ [(k,v,c)]) (cG++ [{ key:=uk,val:=uv,born:=c' }])
 |[],cG,he=>by
  simp only [fb] at he;subst he;simp only [ax,fb]
  grind
 |(k',v',b)::es,cG,he=>by simp only [fb] at he;obtain⟨e0,r,rfl,U,Z,h3,h4⟩:=he;simp only [aG,fb];exact⟨e0,_,rfl,U,Z,h3,fb.push hk hv h4⟩
theorem fb.erase {h:Array Obj}: ∀{es:List (AV×AV×Nat)} {cG:List MapEntry} {i:Nat},fb E h es cG->fb E h (sc es i) (cG.eraseIdx i)
 |[],cG,i,he=>by simp only [fb] at he; subst he; simp [sc,fb]
 |(k',v',b)::es,cG,0,he=>by
  simp only [fb] at he;obtain⟨e0,r,rfl,U,Z,h3,h4⟩:=he
  grind [sc]
 |(k',v',b)::es,cG,i+1,he=>by simp only [fb] at he;obtain⟨e0,r,rfl,U,Z,h3,h4⟩:=he;simp only [sc,axm,fb];exact⟨e0,_,rfl,U,Z,h3,fb.erase h4⟩
theorem Jg {i:TI} (iH:oP P t i) {z:AV} (h:zeroOf i=some z): ∃u,(zeroValue t).run P w= .ok u w/\VR E w.heap z u:=by
 obtain⟨inf,d,zv,U,Z,h3,h4,h5,h6,h7,h8⟩:=iH.all;have hz:=fK (E:=E) (h:=w.heap) h4;have hr:(zeroValue t).run P w= .ok zv w:=by simp [zeroValue,typeInfo,U,h3]
 refine⟨zv,hr,?_⟩;unfold zeroOf at h;split at h
 ·rename_i ha;simp at h;subst h;rw [ha] at h8;cases zv<;>simp only [Me,reduceCtorEq] at h8;rename_i cs;simp only [VR];exact⟨cs.toList,ad,hz.1⟩
 ·rename_i ha;split at h
  ·rename_i v hv;simp at h;subst h;rw [hv] at hz;obtain⟨u,vs,e1,e2,e3⟩:=bS.1 hz.1;rw [jn] at e3;subst e3;rw [ha] at h8;have:zv=u:=by cases zv<;>simp_all [Me,Value.cells]
   grind
  grind
end
end
section
variable {h:Array Obj} {ro:Nat->Prop} {d:D} {c:CK} {u v:Value} {E:En} {x:Y} {r:Row} {us:List Value}
theorem CQ (ρ:Nat->Int) (x:Y):(Jy x).den ρ=(dec (x.den ρ)).n:=by
 unfold Jy;split
 ·split
  ·simp only [Y.den,gX.den,bG,D.n]
  ·exact Oj
 ·split
  ·simp only [Y.den,bG,D.n]
  ·exact Oj
 ·exact Oj
theorem nY (ρ:Nat->Int) (x:Y):(CR x).den ρ=enc (.i (x.den ρ)):=by unfold CR;split<;>simp only [Y.den,gX.den]
theorem BK (a b:D):(D.p a b).V 0=a:=by simp [D.V,D.l]
theorem BL (a b:D) (j:Nat):(D.p a b).V (j+1)=b.V j:=by simp [D.V,D.l]
theorem va (ρ:Nat->Int): ∀(j:Nat) (x:Y),dec ((lA j x).den ρ)=(dec (x.den ρ)).V j
 |j,.op o a b=>by
  unfold lA
  cases o with
  |cons=>
   cases j with
   |zero=>simp only [Y.den,gX.den,bG,BK]
   |succ j=>simp only [va ρ j b,Y.den,gX.den,bG,BL]
  |_=>simp only [Y.den,gX.den,bG]
 |j,.lit n=>by simp only [lA,Y.den,gX.den,bG]
 |j,.dN n=>by simp only [lA,Y.den,gX.den,bG]
 |j,.add _ _=>by simp only [lA,Y.den,gX.den,bG]
 |j,.sub _ _=>by simp only [lA,Y.den,gX.den,bG]
 |j,.mul _ _=>by simp only [lA,Y.den,gX.den,bG]
 |j,.quo _ _=>by simp only [lA,Y.den,gX.den,bG]
 |j,.rem _ _=>by simp only [lA,Y.den,gX.den,bG]
 |j,.wrap _ _=>by simp only [lA,Y.den,gX.den,bG]
 |j,.zG _ _=>by simp only [lA,Y.den,gX.den,bG]
 |j,.eW _=>by simp only [lA,Y.den,gX.den,bG]
 |j,.ap _ _=>by simp only [lA,Y.den,gX.den,bG]
theorem cQ (ρ:Nat->Int): ∀x:Y,(eD x).den ρ=((dec (x.den ρ)).l.length:Int)
 | .op o a b=>by
   unfold eD
   cases o with
   |set=>
    simp only [cQ ρ a,Y.den,gX.den];split
    ·simp only [bG,bF,eF]
    ·rfl
   |_=>simp only [Y.den,gX.den]
 | .lit n=>by simp only [eD,Y.den,gX.den]
 | .dN n=>by simp only [eD,Y.den,gX.den]
 | .add _ _=>by simp only [eD,Y.den,gX.den]
 | .sub _ _=>by simp only [eD,Y.den,gX.den]
 | .mul _ _=>by simp only [eD,Y.den,gX.den]
 | .quo _ _=>by simp only [eD,Y.den,gX.den]
 | .rem _ _=>by simp only [eD,Y.den,gX.den]
 | .wrap _ _=>by simp only [eD,Y.den,gX.den]
 | .zG _ _=>by simp only [eD,Y.den,gX.den]
 | .eW d=>by simp only [eD,Y.den,bG]; rfl
 | .ap _ _=>by simp only [eD,Y.den,gX.den]
theorem Rd.slice {t:Nat} (r:Rd ro h (.sl t) d v): ∃x cap,v= .slice x d.l.length cap/\d.l.length<=cap:=by
 generalize hc:CK.sl t=c at r
 cases r with
 |int k n=>simp at hc
 |bool b=>simp at hc
 |str s=>simp at hc
 |nil t=>exact⟨none,0,rfl,by simp [D.l]⟩
 |Ap t a cap=>exact⟨some a,cap,rfl,by simp [D.l]⟩
 |one t c b o cap ds f hr dK hb U Z=>exact⟨_,cap,by rw [bF],by rw [bF]; exact dK⟩
 |many t cs b o cap rows f hr dK hb hl U Z=>exact⟨some ⟨b,o,none⟩,cap,ad,by simpa using dK⟩
theorem Rd.string (r:Rd ro h .str d v): ∃s,v= .string s/\d=wF s:=by
 cases r with
 |str s=>exact⟨s,rfl,rfl⟩
def jR (ro:Nat->Prop) (h:Array Obj) (c:CK) (d:D) (u:Value):Prop:=match c with
 | .int k=>u= .int k d.n
 | .bool=>u= .bool (!(d.n == 0))
 |c=>Rd ro h c d u
theorem ry:VR E h (vQ c x) u↔jR E.ro h c (dec (x.den E.ρ)) u:=by cases c<;>simp only [vQ,jR,VR,SB.den,CQ,Y.den]
theorem Rd.cell (r:Rd ro h c d u):jR ro h c d u:=by
 cases r with
 |int k n=>simp [jR,D.n]
 |bool b=>cases b<;>simp [jR,D.n]
 |str s=>exact .str s
 |nil t=>exact .nil t
 |Ap t a cap=>exact .Ap t a cap
 |one t c b o cap ds f hr hc hb U Z=>exact .one t c b o cap ds f hr hc hb U Z
 |many t cs b o cap rows f hr hc hb hl U Z=>exact .many t cs b o cap rows f hr hc hb hl U Z
theorem jR.one (r:jR ro h c d u):u.oneCell'=true:=by
 cases c with
 |int k=>simp only [jR] at r; subst r; rfl
 |bool=>simp only [jR] at r; subst r; rfl
 |str=>exact Rd.afA r
 |sl t=>exact Rd.afA r
def ez (ro:Nat->Prop) (h:Array Obj):List CK->Nat->D->List Value->Prop
 |[],_,_,us=>us= []
 |c::cs,j,d,us=> ∃u vs,us=u::vs/\jR ro h c (d.V j) u/\ez ro h cs (j+1) d vs
def zo (ro:Nat->Prop) (h:Array Obj) (r:Row) (d:D) (us:List Value):Prop:=match r with
 | .one c=> ∃u,us= [u]/\jR ro h c d u
 | .many cs=>ez ro h cs 0 d us
theorem tR {E:En} {h:Array Obj} {x:Y}: ∀{cs:List CK} {j:Nat} {us:List Value},cJ E h (jP cs j x) us↔ez E.ro h cs j (dec (x.den E.ρ)) us
 |[],j,us=>by simp only [jP,cJ,ez]
 |c::cs,j,us=>by
  simp only [jP,bS,ez];constructor
  ·rintro⟨u,vs,rfl,U,Z⟩;exact⟨u,vs,rfl,by rw [ry,va] at U; exact U,tR.1 Z⟩
  ·rintro⟨u,vs,rfl,U,Z⟩;exact⟨u,vs,rfl,by rw [ry,va]; exact U,tR.2 Z⟩
theorem gJ:cJ E h (iu r x) us↔zo E.ro h r (dec (x.den E.ρ)) us:=by
 cases r with
 |one c=>
  simp only [iu,bS,jn,zo];constructor
  ·rintro⟨u,vs,rfl,U,rfl⟩
   grind [ry]
  grind [ry]
 |many cs=>simp only [iu,zo,tR]
theorem uM (x:Y): ∀(cs:List CK) (j:Nat),(jP cs j x).length=cs.length
 |[],_=>rfl
 |_::cs,j=>by simp [jP,uM x cs]
theorem iD (r:Row) (x:Y):(iu r x).length=r.es:=by cases r<;>simp [iu,Row.es,uM]
theorem ez.uC {ro:Nat->Prop} {h:Array Obj} {d:D}: ∀{cs:List CK} {j:Nat} {us:List Value},ez ro h cs j d us->∀u∈us,u.oneCell'=true
 |[],_,_,hh,u,hu=>by simp only [ez] at hh; subst hh; simp at hu
 |c::cs,j,us,hh,u,hu=>by
  simp only [ez] at hh;obtain⟨x,vs,rfl,U,Z⟩:=hh;rcases aH.1 hu with rfl|hu
  ·exact U.one
  ·exact Z.uC u hu
theorem zo.uC (hh:zo ro h r d us): ∀u∈us,u.oneCell'=true:=by
 cases r with
 |one c=> obtain⟨u,rfl,U⟩:=hh;intro x hx;simp at hx;subst hx;exact U.one
 |many cs=>exact ez.uC hh
theorem cJ.split {E:En} {h:Array Obj}: ∀{xs ys:List AV} {us:List Value},cJ E h (xs++ys) us->∃a b,us=a++b/\cJ E h xs a/\cJ E h ys b
 |[],ys,us,hh=> ⟨[],us,rfl,by simp only [cJ],hh⟩
 |x::xs,ys,us,hh=>by rw [aG,bS] at hh;obtain⟨u,vs,rfl,U,Z⟩:=hh;obtain⟨a,b,rfl,h3,h4⟩:=Z.split;exact⟨u::a,b,rfl,by rw [bS]; exact⟨u,a,rfl,U,h3⟩,h4⟩
theorem lU {ρ:Nat->Int} {i:Nat} {cs:List AV}: ∀{ov:List (Y×List AV)},eA ρ i ov=some cs->∃p∈ov,p.2=cs/\p.1.den ρ=(i:Int)
 |[],h=>by simp [eA] at h
 |(j,c)::l,h=>by
  simp only [eA] at h;split at h
  ·rename_i hj;simp only [ah] at h;exact⟨(j,c),ad,h,hj⟩
  ·obtain⟨p,U,Z⟩:=lU h
   grind
theorem cR {ρ:Nat->Int} {r:Row} {ov:List (Y×List AV)} (ho:xo r ov): ∀(ds:List D) (i:Nat),(bH ρ r ov ds i).length=ds.length*r.es
 |[],i=>by simp [bH]
 |d::ds,i=>by
  simp only [bH,bd,cR ho ds (i+1),aT,av7,awG];split
  ·rename_i cs h;obtain⟨p,U,Z,_⟩:=lU h;rw [<- Z,ho p U]; omega
  grind [iD]
theorem mR {ρ:Nat->Int} {r:Row} {ov:List (Y×List AV)}: ∀(xs ys:List D) (i:Nat),bH ρ r ov (xs++ys) i=bH ρ r ov xs i++bH ρ r ov ys (i+xs.length)
 |[],ys,i=>by simp [bH]
 |d::ds,ys,i=>by
  simp only [aG,bH,mR ds ys (i+1),avT,aT]
  grind
end
section
variable {H H':Hp} {tt:TT} {t:Nat} {pc:List (SB×Bool)} {m k v:AV} {um uk:Value}
section
variable {P:Program} {E:En} {w:World}
theorem Bt [bN] (r:bV E H w) {id c:Nat} {es:List (AV×AV×Nat)} (hl:H.get id=some (.map es c)): ∃cG c',w.heap[(E.θ id).1]?=some (.map cG c')/\fb E w.heap es cG.toList:=
 (r.live id _ hl).2.1
theorem QG [bN] (cX:eS P tt) (hp:cz E.ρ pc) (r:bV E H w) {ok:Bool} (hm:VR E w.heap m um) (hk:VR E w.heap k uk) (h:HR tt pc t m k ok H=some v) :
 ∃x,(Instr.lookup t um uk ok).run P w= .ok x w/\VR E w.heap v x:=by
 unfold HR at h;split at h
 ·rename_i ti iH;split at h
  ·rename_i kt et Ht;have hu:=A4 (cX t ti iH) Ht;split at h
   ·grind
   ·rename_i kk BG;obtain⟨d,yL,kU⟩:=Av cX BG;split at h
    ·grind
    ·rename_i ie nT
     have key: ∀(es:List (AV×AV×Nat)) (cG:Array MapEntry),fb E w.heap es cG.toList->
      (match Ew pc kk k es 0 with
       |none=>none
       |some (some (_,v))=>some (if ok then .tuple [v,.bool (.lit true)] else v)
       |some none=>match zeroOf ie with
        |none=>none
        |some z=>some (if ok then .tuple [z,.bool (.lit false)] else z))=some v->
      ∃(o:Option (Nat×Value)) (x:Value),(Instr.findKey kt uk cG.toList).run P w= .ok o w/\
       (match o with
        |some (_,y)=>x=(if ok then .tuple #[y,.bool true] else y)
        |none=> ∃z,(zeroValue et).run P w= .ok z w/\x=(if ok then .tuple #[z,.bool false] else z))/\VR E w.heap v x:=by
      intro es cG he hh;split at hh
      ·simp at hh
      ·rename_i j v' hf;simp at hh;subst hh;rcases rY hp kU hk he hf with ⟨q1,_⟩|⟨jj,v2,e,q1,q2,q3,q4,q5⟩
       ·simp at q1
       ·simp only [ah,an] at q1;obtain⟨rfl,rfl⟩:=q1;refine⟨_,_,gv yL q4,rfl,?_⟩;cases ok
        ·exact q3
        ·simp only [if_true,VR,cJ];exact⟨[e.val,.bool true],rfl,_,_,rfl,q3,_,_,rfl,by simp [SB.den],rfl⟩
      ·rename_i hf;split at hh
       ·simp at hh
       ·rename_i z hz;simp at hh;subst hh;obtain⟨u,e1,e2⟩:=Jg (P:=P) (w:=w) (E:=E) (cX et ie nT) hz;rcases rY hp kU hk he hf with ⟨_,q2⟩|⟨jj,v2,e,q1,_⟩
        ·refine⟨none,_,gv yL q2,⟨u,e1,rfl⟩,?_⟩;cases ok
         ·exact e2
         ·simp only [if_true,VR,cJ];exact⟨[u,.bool false],rfl,_,_,rfl,e2,_,_,rfl,by simp [SB.den],rfl⟩
        ·simp at q1
     split at h
     ·grind
     ·rename_i es mj;unfold L2 at mj;split at mj
      ·simp at mj;subst mj;simp only [VR] at hm;subst hm;obtain⟨o,x,e1,e2,e3⟩:=key [] #[] (by simp [fb]) h;refine⟨x,?_,e3⟩
       cases o with
       |none=> obtain⟨z,e4,rfl⟩:=e2;cases ok<;>simp [Instr.lookup,run_underlying hu,gQ yL kU,e1,e4]
       |some p=> obtain⟨j,y⟩:=p;simp only at e2;subst e2;cases ok<;>simp [Instr.lookup,run_underlying hu,gQ yL kU,e1]
      ·rename_i id;split at mj
       ·rename_i es' c hl;simp at mj;subst mj;simp only [VR] at hm;obtain⟨rfl,hid⟩:=hm;obtain⟨cG,c',g1,g2⟩:=Bt r hl;have hg:=kx (P:=P) g1 ad;obtain⟨o,x,e1,e2,e3⟩:=key es' cG g2 h;refine⟨x,?_,e3⟩
        cases o with
        |none=> obtain⟨z,e4,rfl⟩:=e2;cases ok<;>simp [Instr.lookup,run_underlying hu,hg,gQ yL kU,e1,e4]
        |some p=> obtain⟨j,y⟩:=p;simp only at e2;subst e2;cases ok<;>simp [Instr.lookup,run_underlying hu,hg,gQ yL kU,e1]
       grind
      grind
  grind
 grind
theorem G5 {α:Type} (cG:Array α) (i:Nat) (e:α) (f:α->α) (h:cG.toList[i]?=some e):(cG.modify i f).toList=cG.toList.set i (f e):=by
 apply awL;intro j
 grind
theorem xN [bN] (cX:eS P tt) (hp:cz E.ρ pc) (r:bV E H w) {uv:Value} (hm:VR E w.heap m um) (hk:VR E w.heap k uk) (hv:VR E w.heap v uv) (h:s6 tt pc t m k v H=some H') :
 ∃w',(Instr.mapUpdate t um uk uv).run P w= .ok () w'/\fD E H w E H' w'/\bV E H' w':=by
 unfold s6 at h;split at h
 ·rename_i ti iH;split at h
  ·rename_i kt et Ht;have hu:=A4 (cX t ti iH) Ht;split at h
   ·grind
   ·rename_i kk BG;obtain⟨d,yL,kU⟩:=Av cX BG;split at h
    ·rename_i id;split at h
     ·rename_i es c hl;simp only [VR] at hm;obtain⟨rfl,hid⟩:=hm;obtain⟨cG,c',g1,g2⟩:=Bt r hl;have hg:=kx (P:=P) g1 ad;split at h
      ·grind
      ·rename_i i v' hf;simp at h;subst h;rcases rY hp kU hk g2 hf with ⟨q1,_⟩|⟨jj,v2,e,q1,q2,q3,q4,q5⟩
       ·grind
       ·simp only [ah,an,aK] at q1;obtain⟨rfl,rfl⟩:=q1;simp only [aK] at q4
        have hkt:(Instr.keyThatStays (((cG[i]?).map (·.key)).getD uk) uk).run P w= .ok uk w:=by rw [avW] at q2;simp only [q2,av0,az,Instr.keyThatStays];simp_all
        refine⟨_,?_,jc r hl (.map (uh k v es i) c) (.map (cG.modify i fun e=>{ e with key:=uk,val:=uv }) c') ?_⟩
        ·simp [Instr.mapUpdate,run_underlying hu,hg,gQ yL kU,gv yL q4,hkt,kb (P:=P) g1]
        ·intro h' hh kp;simp only [OR]
         grind [G5,fb.set,VR.du,fb.du]
      ·rename_i hf;simp at h;subst h;rcases rY hp kU hk g2 hf with ⟨_,q2⟩|⟨jj,v2,e,q1,_⟩
       ·refine⟨_,?_,jc r hl (.map (es++ [(k,v,c)]) (c+1)) (.map (cG.push { key:=uk,val:=uv,born:=c' }) (c'+1)) ?_⟩
        ·simp [Instr.mapUpdate,run_underlying hu,hg,gQ yL kU,gv yL q2,kb (P:=P) g1]
        ·intro h' hh kp;simp only [OR]
         grind [fb.push,VR.du,fb.du]
       grind
     grind
    grind
  grind
 grind
theorem QH [bN] (cX:eS P tt) (hp:cz E.ρ pc) (r:bV E H w) {ts:Nat} (hm:VR E w.heap m um) (hk:VR E w.heap k uk) (h:HU tt pc t m k H=some H') (ty:Nat) :
 ∃w',(Builtin.delete_ #[t,ts] ty #[um,uk]).run P w= .ok (.tuple #[]) w'/\fD E H w E H' w'/\bV E H' w':=by
 unfold HU at h;split at h
 ·rename_i ti iH;split at h
  ·rename_i kt et Ht;have hu:=A4 (cX t ti iH) Ht;split at h
   ·grind
   ·rename_i kk BG;obtain⟨d,yL,kU⟩:=Av cX BG;split at h
    ·simp at h;subst h;simp only [VR] at hm;subst hm;exact⟨w,by simp [Builtin.delete_,run_underlying hu,gQ yL kU],fD.refl _ _ _,r⟩
    ·rename_i id;split at h
     ·rename_i es c hl;simp only [VR] at hm;obtain⟨rfl,hid⟩:=hm;obtain⟨cG,c',g1,g2⟩:=Bt r hl;have hg:=kx (P:=P) g1 ad;split at h
      ·grind
      ·rename_i i v' hf;simp at h;subst h;rcases rY hp kU hk g2 hf with ⟨q1,_⟩|⟨jj,v2,e,q1,q2,q3,q4,q5⟩
       ·grind
       ·simp only [ah,an,aK] at q1;obtain⟨rfl,rfl⟩:=q1;simp only [aK] at q4;refine⟨_,?_,jc r hl (.map (sc es i) c) (.map (cG.eraseIdxIfInBounds i) c') ?_⟩
        ·simp [Builtin.delete_,run_underlying hu,hg,gQ yL kU,gv yL q4,kb (P:=P) g1]
        ·intro h' hh kp;simp only [OR];refine⟨_,_,hh,?_⟩;have dc:i<cG.size:=by have:=(a8.1 q2).1; simpa using this
         have:(cG.eraseIdxIfInBounds i).toList=cG.toList.eraseIdx i:=by simp_all
         grind [fb.erase,fb.du]
      ·rename_i hf;simp at h;subst h;rcases rY hp kU hk g2 hf with ⟨_,q2⟩|⟨jj,v2,e,q1,_⟩
       ·refine⟨_,?_,jc r hl (.map es c) (.map cG c') ?_⟩
        ·simp [Builtin.delete_,run_underlying hu,hg,gQ yL kU,gv yL q2,kb (P:=P) g1]
        ·intro h' hh kp;simp only [OR]
         grind [fb.du]
       grind
     grind
    grind
  grind
 grind
theorem abK [bN] (cX:eS P tt) (r:bV E H w) {ty:Nat} {x:AV} {u:Value} (hx:VR E w.heap x u) (h:abL tt t x H=some v) :
 ∃y,(Builtin.len_ #[t] ty #[u]).run P w= .ok y w/\VR E w.heap v y:=by
 unfold abL at h;simp only at h;split at h
 ·rename_i ti iH;have xy:=cX t ti iH;split at h
  ·rename_i hk;split at h
   ·rename_i s;simp at h;subst h;simp only [VR] at hx;obtain⟨rfl,_⟩:=hx;exact⟨_,by simp [Builtin.len_,run_underlying (gj xy hk)]; rfl,by simp [VR,Y.den,goInt,nu]⟩
   ·simp at h; subst h; simp only [VR] at hx;obtain⟨s,rfl,hs⟩:=hx.string;exact⟨_,by simp [Builtin.len_,run_underlying (gj xy hk)]; rfl,by simp only [VR,cQ,hs,adM]; rfl⟩
   grind
  ·rename_i e hk;have hu:=fF xy hk;split at h
   ·exact aij
   ·simp at h; subst h; simp only [VR] at hx; obtain⟨x,rfl⟩:=hx;exact XR
   ·simp at h; subst h; simp only [VR] at hx; obtain⟨⟨x,rfl⟩,_⟩:=hx;exact XR
   ·simp at h; subst h; simp only [VR] at hx; obtain⟨_,a,cap,rfl,_⟩:=hx;exact XR
   ·simp at h; subst h; simp only [VR] at hx; obtain⟨b,o,cap,us,rfl,_⟩:=hx;exact XR
   ·simp at h; subst h; simp only [VR] at hx; obtain⟨x,cap,rfl,_⟩:=hx.slice;exact⟨_,by simp [Builtin.len_,run_underlying hu]; rfl,by simp [VR,cQ,goInt]⟩
   ·simp at h; subst h; simp only [VR] at hx; obtain⟨_,k,a,cap,h0,rfl,_⟩:=hx;exact ahz
   ·simp at h; subst h; simp only [VR] at hx; obtain⟨_,l,k,a,cap,_,h0,rfl,_⟩:=hx;exact ahz
   ·simp at h; subst h; simp only [VR] at hx;rcases hx with ⟨⟨x,cap,rfl⟩,h0⟩|⟨b,o,n,cap,rfl,_,h0,_⟩
    ·exact ahH
    ·exact ahH
   grind
  ·rename_i k e hk;have hu:=uc xy hk;simp at h;subst h;exact XR
  ·rename_i kt et hk;have hu:=A4 xy hk;split at h
   ·exact aij
   ·rename_i id;split at h
    ·rename_i es c hl;simp at h;subst h;simp only [VR] at hx;obtain⟨rfl,hid⟩:=hx;obtain⟨cG,c',g1,g2⟩:=Bt r hl;have hg:=kx (P:=P) g1 ad;have hlen:=g2.length;simp only [bh] at hlen;exact⟨_,by simp [Builtin.len_,run_underlying hu,hg]; rfl,by simp [VR,Y.den,goInt,hlen]⟩
    ·rename_i e t' hl;simp at h;subst h;simp only [VR] at hx;obtain⟨rfl,hid⟩:=hx;obtain⟨_,ho,_⟩:=r.live _ _ hl;simp only [OR] at ho;obtain⟨cG,c',g1,g2⟩:=ho;have hg:=kx (P:=P) g1 ad;have hlen:=g2.length;simp only [bh] at hlen;exact⟨_,by simp [Builtin.len_,run_underlying hu,hg]; rfl,by simp [VR,cQ,goInt,hlen]⟩
    grind
   grind
  grind
 grind
end
end
section
variable {cap m t t2 ty n s e o id len:Nat} {H H':Hp} {news:List AV} {u2 u:Value} {d2:TypeDesc} {us olds:Array Value} {v y x:AV} {a:Addr} {c:U5} {inf:TypeInfo} {ie:TI}
section
variable {P:Program} {E:En} {w:World}
structure Src (P:Program) (E:En) (w:World) (s m:Nat) (news:List AV) (u:Value) (us:Array Value):Prop where
 len: ∀w2,(Builtin.lenOf u).run P w2= .ok m w2
 first: ∀w2:World,w2.heap=w.heap->(Builtin.firstCells s m u).run P w2= .ok us w2
 ZO:cJ E w.heap news us.toList
 size:us.size=m*s
 uC: ∀x∈us.toList,x.oneCell'=true
theorem gr.VZ {b:Nat} {us:List Value} (hn:us.length=n) (h:gr w.heap b o us) (w2:World) (hw:w2.heap=w.heap):(loadCells ⟨b,o,none⟩ n).run P w2= .ok us.toArray w2:=
 uz hn (by rw [hw]; exact h)
theorem u9 {off:Nat} (hc:fS E id off len a cap c):a=⟨(E.θ id).1,(E.θ id).2+off,none⟩\/cap=0:=by exact alR
theorem xe [bN] (r:bV E H w) {l:List AV} (hid:E.dm id) (hc:fS E id o len a cap c) (hlen:len<=cap) (h:n9 H (.ptr id o) (len*s)=some l) :
 ∃us:List Value,us.length=len*s/\cJ E w.heap l us/\(∀u∈us,u.oneCell'=true)/\∀w2:World,w2.heap=w.heap->(loadCells a (len*s)).run P w2= .ok us.toArray w2:=by
 obtain⟨b,o',us,e1,e2,e3,e4,e5⟩:=yB r (p:=.ptr id o) (u:=.pointer (some ⟨(E.θ id).1,(E.θ id).2+o,none⟩)) (by simp only [VR]; exact⟨trivial,hid⟩) h;simp only [Value.pointer.injEq,ah,Addr.mk.injEq] at e1;obtain⟨e1a,e1b,_⟩:=e1;refine⟨us,e2,e3,e5,fun w2 hw=>?_⟩;rcases u9 hc with ha|ha
 ·rw [ha,e1a,e1b];exact e4.VZ e2 w2 hw
 ·obtain rfl:len=0:=J
  rw [av1] at e2 ⊢;rw [awj e2];rfl
theorem sU [bN] (r:bV E H w) (hy:VR E w.heap y u) (h:ue s y H=some (m,news)): ∃us,Src P E w s m news u us:=by
 unfold ue at h;split at h
 ·simp only [ah,an] at h;obtain⟨rfl,rfl⟩:=h;simp only [VR] at hy;subst hy;exact⟨#[],fun _=>rfl,fun w2 _=>by simp [Builtin.firstCells],by simp [cJ],ad,ad⟩
 ·rename_i id o len c;rw [aO] at h;obtain⟨l,U,Z⟩:=h;simp only [an] at Z;obtain⟨rfl,rfl⟩:=Z;simp only [VR] at hy;obtain⟨hid,a,cap,rfl,hlen,hc⟩:=hy;obtain⟨us,e1,e2,e3,e4⟩:=xe (P:=P) r hid hc hlen U;exact⟨us.toArray,fun _=>rfl,fun w2 hw=>by simp only [Builtin.firstCells]; exact e4 w2 hw,by simpa using e2,by simpa using e1,by simpa using e3⟩
 ·rename_i cs n full;rw [aO] at h;obtain⟨l,U,Z⟩:=h;simp only [an] at Z;obtain⟨rfl,rfl⟩:=Z;simp only [VR] at hy;obtain⟨b,o,cap,us,rfl,hn,hf,h4,h5,h6,h7⟩:=hy;obtain⟨g1,g2⟩:=h5.ja U;have hl:=h5.length;have htl:(us.take (n*s)).length=n*s:=by rw [aZ]; omega
  exact⟨(us.take (n*s)).toArray,fun _=>rfl,fun w2 hw=>by simp only [Builtin.firstCells]; exact (h6.take (n*s)).VZ htl w2 hw,by simpa using g1,by simpa using htl,
   fun x hx=>h7 x (avV (by simpa using hx))⟩
 ·rename_i b;split at h
  ·rename_i hs;simp only [ah,an] at h;obtain⟨rfl,rfl⟩:=h;simp only [VR] at hy;obtain⟨rfl,gB⟩:=hy;have jv:(dB b).size=b.length:=nu b;have hex:(dB b).extract 0 b.length=dB b:=by rw [u6]; simp
   refine⟨(dB b).data.map fun c=>Value.int .u8 (c.toNat:Int),fun w2=>by simp [Builtin.lenOf,jv],fun w2 _=>by simp [Builtin.firstCells,hex],?_,?_,?_⟩
   ·have:((dB b).data.map fun c=>Value.int .u8 (c.toNat:Int)).toList=(b.map UInt8.ofNat).map fun c=>Value.int .u8 (c.toNat:Int):=by simp [dB]
    rw [this];clear hex jv this
    induction b with
    |nil=>simp [cJ]
    |cons x b ih=> have hx:=gB x ad;rw [aF,aF,aF,bS];refine⟨_,_,rfl,?_,ih fun c hc=>gB c (by simp [hc])⟩;simp [VR,Y.den,awl,awh hx]
   ·simp_all
   ·intro x hx;simp only [axn,aW] at hx;obtain⟨c,_,rfl⟩:=hx;rfl
  grind
 grind
theorem lP {a:Option Addr} {w':World} (ht:P.underlying t=some (.slice e)) (AS:P.underlying t2=some d2)
 (kU: ∀k,d2≠.int k) (hi:P.info? e=some inf) (hs:inf.size=s) (src:Src P E w s m news u2 us) (jw:n+m<=cap)
 (FB:match a with |some a=>(storeCells (a.add (n*s)) us.toList).run P w= .ok () w'|none=>w'=w) :
 (Builtin.append_ #[t,t2] ty #[.slice a n cap,u2]).run P w= .ok (.slice a (n+m) cap) w':=by
 have hf:=src.first w rfl;have hl:=src.len w
 cases a with
 |none=> simp only at FB;subst FB;simp [Builtin.append_,run_underlying ht,run_underlying AS,sizeOf,typeInfo,hi,hs,hl,jw,hf]
 |some a=> simp only at FB;simp [Builtin.append_,run_underlying ht,run_underlying AS,sizeOf,typeInfo,hi,hs,hl,jw,hf,FB]
theorem Rn {z:Value} (ht:P.underlying t=some (.slice e)) (AS:P.underlying t2=some d2)
 (kU: ∀k,d2≠.int k) (hi:P.info? e=some inf) (hs:inf.size=s) (hz:inf.zero=some z) (hb:inf.bytes≠0) (src:Src P E w s m news u2 us) (jw:cap<n+m) (hbound:(n+m)*inf.bytes<=140737488355328)
 (a:Option Addr) (hu:u= .slice a n cap) (hold: ∀w2:World,w2.heap=w.heap->(Builtin.firstCells s n u).run P w2= .ok olds w2) :
 (Builtin.append_ #[t,t2] ty #[u,u2]).run P w= .ok (.slice (some ⟨w.heap.size,0,none⟩) (n+m) (grownCap w (n+m) cap e))
  (w.drew.alloc (.cells (olds++us++Builtin.zeroCells z.cells (grownCap w (n+m) cap e-(n+m))) e)):=by
 subst hu;have hf:=src.first w.drew rfl;have ho:=hold w.drew rfl;have hl:=src.len w;have hn: ¬(n+m<=cap):=J
 have h48: ¬(281474976710656<Builtin.nextslicecap (n+m) cap*inf.bytes):=by
  have U:Builtin.nextslicecap (n+m) cap*inf.bytes<=2*(n+m)*inf.bytes:=awF _ (nextslicecap_le jw)
  grind
 have au6: ¬(2 ^ 48<Builtin.nextslicecap (n+m) cap*inf.bytes):=h48;simp [Builtin.append_,run_underlying ht,run_underlying AS,sizeOf,typeInfo,zeroValue,hi,hs,hz,hl,hn,hb,au6,Question.forced,ho,hf,newRow,grownCap]
theorem rp [bN] (r:bV E H w) {cs old:List AV} (xz:oP P e ie)
 (ht:P.underlying t=some (.slice e)) (AS:P.underlying t2=some d2) (kU: ∀k,d2≠.int k) (pM:ie.bytes≠0) (yJ:ie.zero.length=ie.size)
 (src:Src P E w ie.size m news u2 us) (jw:cap<n+m) (a:Option Addr) (hcs:cs=old++news)
 (RO:cJ E w.heap old olds.toList) (ho1: ∀x∈olds.toList,x.oneCell'=true) (hos:olds.size=n*ie.size)
 (hold: ∀w2:World,w2.heap=w.heap->(Builtin.firstCells ie.size n (.slice a n cap)).run P w2= .ok olds w2) (h:pj ie e n m cs H=some (v,H')) :
 ∃x w' E',(Builtin.append_ #[t,t2] ty #[.slice a n cap,u2]).run P w= .ok x w'/\fD E H w E' H' w'/\bV E' H' w'/\VR E' w'.heap v x:=by
 subst hcs;unfold pj at h;split at h
 ·rename_i hbound;simp only [ah,an] at h;obtain⟨rfl,rfl⟩:=h;obtain⟨inf,d,z,U,Z,h3,h4,h5,h6,h7,h8⟩:=xz.all;have hz:=fK (E:=E) (h:=w.heap) h4;have hzs:z.cells.size=ie.size:=by have:=hz.1.length; simp only [bh] at this; omega
  have YQ:=grownCap_ge w (n+m) cap e;have Tx:=src.size
  obtain⟨s1,s2⟩:=jt r (olds++us++Builtin.zeroCells z.cells (grownCap w (n+m) cap e-(n+m))) 0 0 e (RO.append src.ZO)
   (by intro x hx; rcases av5.1 hx with hx|hx; exact ho1 x hx; exact src.uC x hx)
   (by
    intro i x hx;have hi:=(a8.1 hx).1;rw [axE (by simpa using hi)];rw [<- avW,Array.toList_append]
    exact hx)
   J (w':=w.drew.alloc (.cells (olds++us++Builtin.zeroCells z.cells (grownCap w (n+m) cap e-(n+m))) e)) rfl ⟨rfl,rfl,rfl⟩
  refine⟨_,_,_,Rn (s:=ie.size) ht AS kU U h5 h3 (by rw [h6]; exact pM) src jw (by rw [h6]; exact hbound) a rfl hold,s1,s2,?_⟩;simp only [VR];refine⟨En.iL _ _ _ _,_,_,rfl,YQ,?_⟩;simp only [fS,En.ext_θ_new,En.ext_κ_new];left;refine⟨trivial,?_⟩;simp only [Array.size_append,size_zeroCells,hos,Tx,hzs,<- av7]
  grind
 grind
set_option maxHeartbeats 800000 in
theorem xZ [bN] (r:bV E H w) (xz:oP P e ie)
 (ht:P.underlying t=some (.slice e)) (AS:P.underlying t2=some d2) (kU: ∀k,d2≠.int k) (zH:ie.size≠0) (pM:ie.bytes≠0) (yJ:ie.zero.length=ie.size)
 (src:Src P E w ie.size m news u2 us) (hx:VR E w.heap x u) (h:sB ie e m news x H=some (v,H')) :
 ∃y w' E',(Builtin.append_ #[t,t2] ty #[u,u2]).run P w= .ok y w'/\fD E H w E' H' w'/\bV E' H' w'/\VR E' w'.heap v y:=by
 obtain⟨inf,d,z,U,Z,h3,h4,h5,h6,h7,h8⟩:=xz.all;have nQ:0<ie.size:=J
 have hnl:=src.ZO.length;have Mh:=src.size;simp only [bh] at hnl;unfold sB at h;split at h
 ·
  simp only [VR] at hx;subst hx;split at h
  ·rename_i hm;subst hm;simp only [ah,an] at h;obtain⟨rfl,rfl⟩:=h;exact⟨_,w,E,lP (s:=ie.size) ht AS kU U h5 src (aw _) (by simp only),fD.refl _ _ _,r,by simp [VR]⟩
  ·rename_i hm;exact rp (cap:=0) r xz ht AS kU pM yJ src J none (old:=[]) (olds:=#[]) ad (by simp [cJ]) ad ad (fun w2 _=>by simp [Builtin.firstCells]) h
 ·
  rename_i id o len c;have hx0:=hx;simp only [VR] at hx;obtain⟨hid,a,cap,rfl,hlen,hc⟩:=hx;have lI:cap=c:=by simp only [fS] at hc; exact hc.1
  subst lI;split at h
  ·rename_i jw;split at h
   ·rename_i cs e' hl;split at h
    ·rename_i mQ hs;simp only [ah,an] at h;obtain⟨rfl,rfl⟩:=h;obtain⟨w',g1,g2,g3⟩:=mT (P:=P) r hl hs src.ZO src.uC
     have FB:(storeCells (a.add (len*ie.size)) us.toList).run P w= .ok () w':=by
      rcases u9 hc with ha|ha
      ·rw [ha,gG,avX]; exact g1
      ·obtain rfl:m=0:=J
       have p8:us.toList= []:=awj (by rw [bh,Mh,av1]);rw [p8] at g1 ⊢;exact g1
     refine⟨_,w',E,lP (s:=ie.size) ht AS kU U h5 src jw FB,g2,g3,?_⟩;simp only [VR];refine⟨hid,a,cap,rfl,jw,?_⟩;simp only [fS] at hc ⊢;exact hc
    ·simp at h
   ·simp at h
  ·rename_i jw;split at h
   ·rename_i old hold;obtain⟨ols,f1,f2,f3,f4⟩:=xe (P:=P) r hid hc hlen hold
    exact rp (cap:=cap) r xz ht AS kU pM yJ src J (some a) (old:=old) (olds:=ols.toArray) rfl (by simpa using f2) (by simpa using f3) (by simpa using f1)
     (fun w2 hw=>by simp only [Builtin.firstCells]; exact f4 w2 hw) h
   ·simp at h
 ·
  rename_i id o len es;split at h
  ·rename_i mj;subst mj;simp only [VR] at hx;obtain⟨hid,a,cap,rfl,hlen,hc⟩:=hx;split at h
   ·rename_i cs e' hl;obtain⟨arr,lo,hi,cus,b1,b2,b3,b4,b5,b6,b7⟩:=(r.live id _ hl).2.1;split at h
    ·rename_i hle;split at h
     ·rename_i mQ hs;simp only [ah,an] at h;obtain⟨rfl,rfl⟩:=h;obtain⟨w',g1,g2,g3⟩:=mT (P:=P) r hl hs src.ZO src.uC
      have jw:len+m<=cap:=by
       simp only [fS] at hc;rcases hc with ⟨_,hc⟩|⟨rfl,rfl,hc⟩
       ·have:(len+m)*ie.size<=cap*ie.size:=J
        exact axo this nQ
       ·have:(0+m)*ie.size=0:=J
        rcases Nat.mul_eq_zero.1 this with hh|hh<;>omega
      have FB:(storeCells (a.add (len*ie.size)) us.toList).run P w= .ok () w':=by
       rcases u9 hc with ha|ha
       ·rw [ha,gG,avX]; exact g1
       ·obtain rfl:m=0:=J
        have p8:us.toList= []:=awj (by rw [bh,Mh,av1]);rw [p8] at g1 ⊢;exact g1
      refine⟨_,w',E,lP (s:=ie.size) ht AS kU U h5 src jw FB,g2,g3,?_⟩;simp only [VR];refine⟨hid,a,cap,rfl,jw,?_⟩;simp only [fS] at hc ⊢;rcases hc with hc|⟨rfl,rfl,hc⟩
      ·exact .inl hc
      ·exact .inr ⟨rfl,J,hc⟩
     ·simp at h
    ·rename_i auG;split at h
     ·rename_i abt;obtain⟨abt,rfl⟩:=abt;split at h
      ·rename_i old V;obtain⟨d1,d2',d3⟩:=b2.fq V;have Cs:=b2.length
       have hm0:m≠0:=by intro hm;subst hm;rw [avZ] at auG;omega
       by_cases jw:len+m<=cap
       ·
        have anR:a=⟨(E.θ id).1,(E.θ id).2+o,none⟩/\o+cap*ie.size=E.κ id:=by
         simp only [fS] at hc;rcases hc with hc|hc
         ·exact hc
         ·omega
        obtain⟨rfl,avK⟩:=anR;unfold pj at h;split at h
        ·simp only [ah,an] at h;obtain⟨rfl,rfl⟩:=h;have hml:len*ie.size+m*ie.size<=cap*ie.size:=by rw [<- av7]; exact awF _ jw
         have hul:us.toList.length=m*ie.size:=by simpa using Mh
         obtain⟨w',NH,e1,e2,e3,e4,e5,e6,e7⟩:=n8 (P:=P) (E.θ id).1 ((E.θ id).2+(o+len*ie.size)) e' lo hi us.toList 0 arr w b1 b6 J src.uC
         have FB:(storeCells ((⟨(E.θ id).1,(E.θ id).2+o,none⟩ : Addr).add (len*ie.size)) us.toList).run P w= .ok () w':=by rw [gG,avX]; exact e1
         have kp:lr E w.heap (E.ext H.fresh ((E.θ id).1,(E.θ id).2+o) (cap*ie.size)) w'.heap:=
          ⟨rfl,fun _ hh=> .inr hh,fun _ hh=>En.ext_θ E _ _ _ (r.wx hh),fun _ hh=>En.ext_κ E _ _ _ (r.wx hh),fun _ hh=>hh,(pZ r hl e4).Gx⟩
         have El:=SV r hl (.cells (old++news) e') o (cap*ie.size) e3 e4 e2 (by
          simp only [OR,En.ext_θ_new,En.ext_κ_new];refine⟨NH,lo,hi,cus.drop o++us.toList,e5,cJ.du kp _ _ (d1.append src.ZO),?_,?_,J,by rw [e6]; exact b6,?_⟩
          ·intro i y hy;rw [e7];have hdl:(cus.drop o).length=len*ie.size:=by rw [bp]; omega
           rw [axk] at hy;split at hy
           ·rename_i hi';rw [af J];rw [awI] at hy;rw [avX];exact b3 _ _ hy
           ·rename_i hi';have Mi:=(a8.1 hy).1;rw [ag J];rw [show (E.θ id).2+o+i-((E.θ id).2+(o+len*ie.size)+0)=i-(cus.drop o).length from by omega];exact hy
          ·rw [bd,d3]; omega
          ·intro y hy;rcases av5.1 hy with hy|hy
           ·exact b7 y (bu hy)
           ·exact src.uC y hy)
         refine⟨_,w',_,lP (s:=ie.size) ht AS kU U h5 src jw FB,El.1,El.2,?_⟩;simp only [VR,show (H.drop id).fresh=H.fresh from rfl];refine⟨En.iL _ _ _ _,_,_,rfl,jw,?_⟩;simp only [fS,En.ext_θ_new,En.ext_κ_new];left;exact⟨ad,J⟩
        ·simp at h
       ·
        have arS:n9 H (.ptr id o) (len*ie.size)=some old:=by
         simp only [n9,hl,V];have:len*ie.size=old.length:=J
         rw [this];clear h V d1 d3 this
         induction old with
         |nil=>rfl
         |cons y ys ih=>simp [As.ja,ih]
        obtain⟨ols,f1,f2,f3,f4⟩:=xe (P:=P) r hid hc hlen arS;obtain⟨q1,q2⟩:=KQ r id;have atL:Src P E w ie.size m news u2 us:=src
        obtain⟨y,w',E',p1,p2,p3,p4⟩:=rp (t:=t) (t2:=t2) (ty:=ty) (cap:=cap) q2 xz ht AS kU pM yJ atL J (some a) (old:=old) (olds:=ols.toArray) rfl (by simpa using f2) (by simpa using f3) (by simpa using f1)
         (fun w2 hw=>by simp only [Builtin.firstCells]; exact f4 w2 hw) h
        exact⟨y,w',E',p1,q1.trans p2,p3,p4⟩
      ·simp at h
     ·simp at h
   ·simp at h
  ·simp at h
 ·
  rename_i cs n full;have hx0:=hx;simp only [VR] at hx;obtain⟨b,o,cap,cus,rfl,hn,hf,g4,g5,g6,g7⟩:=hx;split at h
  ·rename_i hm;subst hm;simp only [ah,an] at h;obtain⟨rfl,rfl⟩:=h;have p8:us.toList= []:=awj (by rw [bh,Mh,av1]);exact⟨_,w,E,lP (s:=ie.size) ht AS kU U h5 src J (by simp only [p8]; rfl),fD.refl _ _ _,r,hx0⟩
  ·rename_i hm;split at h
   ·rename_i Ku;have lI:=hf Ku;subst lI;split at h
    ·rename_i old hold;obtain⟨j1,j2⟩:=g5.ja hold;have Cs:=g5.length;have htl:(cus.take (cap*ie.size)).length=cap*ie.size:=by rw [aZ]; omega
     exact rp (cap:=cap) r xz ht AS kU pM yJ src J (some ⟨b,o,none⟩) (old:=old) (olds:=(cus.take (cap*ie.size)).toArray) rfl (by simpa using j1)
      (fun x hx=>g7 x (avV (by simpa using hx))) (by simpa using htl)
      (fun w2 hw=>by simp only [Builtin.firstCells]; exact (g6.take _).VZ htl w2 hw) h
    ·simp at h
   ·simp at h
 ·simp at h
theorem QI [bN] {tt:TT} (cX:eS P tt) (r:bV E H w) (hx:VR E w.heap x u) (hy:VR E w.heap y u2) (h:HV tt t t2 x y H=some (v,H')) :
 ∃z w' E',(Builtin.append_ #[t,t2] ty #[u,u2]).run P w= .ok z w'/\fD E H w E' H' w'/\bV E' H' w'/\VR E' w'.heap v z:=by
 unfold HV at h;split at h
 ·rename_i ti iH;split at h
  ·rename_i e hk;split at h
   ·rename_i ie nT;split at h
    ·grind
    ·rename_i XZ abf;obtain⟨d2,kU,IN⟩:=uG (cX t2 XZ abf);split at h
     ·grind
     ·rename_i k2 kg;split at h
      ·grind
      ·rename_i jZ;simp only [not_or,Classical.not_not] at jZ;split at h
       ·grind
       ·rename_i m news Tx;obtain⟨us,src⟩:=sU (P:=P) r hy Tx;refine xZ r (cX e ie nT) (fF (cX t ti iH) hk) kU ?_ jZ.1 jZ.2.1 jZ.2.2 src hx h;intro k V;exact ahu
   grind
  grind
 grind
end
end
section
variable {H H':Hp} {x v:AV} {u:Value} {tt:TT} {t:Nat} {ρ:Nat->Int} {c:SB}
section
variable {P:Program} {E:En} {w:World}
theorem Ug [bN] (cX:eS P tt) (r:bV E H w) {ty:Nat} (hx:VR E w.heap x u) (h:MP tt t x H=some H') :
 ∃w',(Builtin.clear_ #[t] ty #[u]).run P w= .ok (.tuple #[]) w'/\fD E H w E H' w'/\bV E H' w':=by
 unfold MP at h;split at h
 ·rename_i ti iH;split at h
  ·rename_i e hk;have hu:=fF (cX t ti iH) hk;split at h
   ·rename_i ie nT;obtain⟨inf,d,z,U,Z,h3,h4,h5,h6,h7,h8⟩:=(cX e ie nT).all;have hz:=fK (E:=E) (h:=w.heap) h4;split at h
    ·simp at h;subst h;simp only [VR] at hx;subst hx;exact ahm
    ·simp at h;subst h;simp only [VR] at hx;obtain⟨⟨x,rfl⟩,_⟩:=hx;exact⟨w,by cases x<;>simp [Builtin.clear_,run_underlying hu],fD.refl _ _ _,r⟩
    ·rename_i id o len c;simp only [VR] at hx;obtain⟨hid,a,cap,rfl,hlen,hc⟩:=hx;split at h
     ·simp at h;subst h;exact ahm
     ·rename_i RP;split at h
      ·grind
      ·rename_i kg;split at h
       ·rename_i cs e' hl;split at h
        ·rename_i mQ hs;simp at h;subst h
         have ha:a=⟨(E.θ id).1,(E.θ id).2+o,none⟩:=by
          grind [u9]
         have anJ:z.cells.toList≠[]:=by
          intro hx;have:=hz.1.length
          grind
         have hzc:(Builtin.zeroCells z.cells len).toList=ed z.cells.toList len:=wO z.cells anJ len;obtain⟨w',g1,g2,g3⟩:=mT (P:=P) r hl hs (nB hz.1 len) (fun u hu=>hz.2 u (nA hu));refine⟨w',?_,g2,g3⟩;subst ha;obtain⟨l,rfl⟩ : ∃l,len=l+1:=⟨len-1,by have:len≠0:=fun hh=>RP hh; omega⟩;simp [Builtin.clear_,run_underlying hu,zeroValue,typeInfo,U,h3,hzc,g1]
        grind
       grind
    grind
   grind
  grind
 grind
theorem T4 [bN] (cX:eS P tt) (r:bV E H w) (hx:VR E w.heap x u) (h:MF tt t x H=some (v,H')) :
 ∃y w' E',(Instr.range t u).run P w= .ok y w'/\fD E H w E' H' w'/\bV E' H' w'/\VR E' w'.heap v y:=by
 unfold MF at h;split at h
 ·rename_i ti iH;split at h
  ·rename_i hk;split at h
   ·rename_i b;simp only [ah,an] at h;obtain⟨rfl,rfl⟩:=h;simp only [VR] at hx;obtain⟨rfl,gB⟩:=hx
    obtain⟨s1,s2⟩:=Bq r (.stringIter (dB b) 0) (.l4 b 0) 0 (w':=w.iter (dB b) 0) rfl ⟨rfl,rfl,rfl⟩ (by
     simp only [OR,En.ext_θ_new]
     exact⟨World.iter_heap _ _ _,trivial,gB⟩)
    exact⟨_,_,_,run_range_string w t (dB b) (gj (cX t ti iH) hk),s1,s2,LS r 0 _ 0⟩
   grind
  grind
 grind
theorem Y8 [bN] (r:bV E H w) {isS:Bool} (hx:VR E w.heap x u) (h:T6 x isS H=some (v,H')) (ty:Nat) :
 ∃y w',(Instr.next u isS ty).run P w= .ok y w'/\fD E H w E H' w'/\bV E H' w'/\VR E w'.heap v y:=by
 unfold T6 at h;split at h
 ·grind
 ·split at h
  ·rename_i id;split at h
   ·rename_i b p hl;obtain⟨g1,g2,g3⟩:=(r.live id _ hl).2.1;simp only [VR] at hx;obtain⟨rfl,hid⟩:=hx;rw [g2];have hg:=kx (P:=P) g1 ad;split at h
    ·rename_i hn;simp only [ah,an] at h;obtain⟨rfl,rfl⟩:=h;rw [dG,awN] at hn;have hp: ¬p<(dB b).size:=by rw [nu]; omega
     refine⟨.tuple #[.bool false],w,?_,fD.refl _ _ _,r,?_⟩
     ·simp [Instr.next,hg,hp]
     ·simp only [VR,cJ]; exact⟨[.bool false],rfl,_,_,rfl,by simp [SB.den],rfl⟩
    ·rename_i c hn;split at h
     ·rename_i hc;simp only [ah,an] at h;obtain⟨rfl,rfl⟩:=h;rw [dG] at hn;have hpl:=(a8.1 hn).1;have hp:p<(dB b).size:=by rw [nu]; exact hpl
      have hb:(dB b)[p]'hp=UInt8.ofNat c:=by
       have U:(dB b)[p]?=some ((dB b)[p]'hp):=getElem?_pos (dB b) p hp
       grind [Gp]
      have hbn:((dB b)[p]'hp).toNat=c:=by rw [hb]; simp; omega
      have auY:=decode_ascii (dB b) p hp (by rw [hbn]; exact hc)
      obtain⟨s1,s2⟩:=jc r hl (.l4 b (p+1)) (.stringIter (dB b) (p+1)) (by
       intro h' hh _
       exact⟨hh,g2,g3⟩)
      refine⟨.tuple #[.bool true,goInt p,.int .i32 ((dB b)[p]'hp).toNat],_,?_,s1,s2,?_⟩
      ·simp only [Instr.next,Sem.run_bind,hg,Result.andThen_ok,hp,if_true,auY,kb (P:=P) g1 ad,Sem.run_pure]
      ·simp only [VR,cJ,hbn];exact⟨_,rfl,_,_,rfl,by simp [SB.den],_,_,rfl,by simp [Y.den,goInt],_,_,rfl,by simp [Y.den],rfl⟩
     grind
   grind
  grind
theorem VJ {pc:List (SB×Bool)} (hp:cz ρ pc) {b:Bool} (h:c.den ρ=b):cz ρ ((c,b)::pc):=by
 intro d x hm;rcases aH.1 hm with hm|hm
 ·grind
 ·exact hp d x hm
theorem dh {α:Type} {s:St} (hp:cz ρ s.pc) {f:St->Bool->T α} {r:α} (h:(mA s c f).leaf ρ=some r) :
 ∃fH,cz ρ fH/\(f { s with pc:=fH } (c.den ρ)).leaf ρ=some r:=by
 unfold mA at h;split at h
 ·rename_i b hb;exact⟨s.pc,hp,by rw [ia hp hb]; exact h⟩
 ·split at h
  ·rename_i d;simp only [T.leaf] at h;split at h
   ·rename_i hc;exact agX
   ·rename_i hc;exact agX
  ·simp only [T.leaf] at h
   grind [VJ]
theorem T.fI {α β:Type} {ρ:Nat->Int} {f:α->T β} {r:β}: ∀{x:T α},(x.bind f).leaf ρ=some r->∃a,x.leaf ρ=some a/\(f a).leaf ρ=some r
 | .fail,h=>by simp [T.bind,T.leaf] at h
 | .ret a,h=> ⟨a,rfl,h⟩
 | .split c x y,h=>by simp only [T.bind,T.leaf] at h ⊢;split at h<;>exact T.fI h
theorem pB {mx:Bool}: ∀{xs:List AV} {a:Y} {k:IntKind} {s s':St} {us:List Value} {v:AV},cz E.ρ s.pc->cJ E w.heap xs us->(vC mx xs a k s).leaf E.ρ=some (v,s')->
 s'.h=s.h/\s'.bC=s.bC/\cz E.ρ s'.pc/\∃u,(us.foldlM (if mx then Builtin.max2 else Builtin.min2) (.int k (a.den E.ρ))).run P w= .ok u w/\VR E w.heap v u
 |[],a,k,s,s',us,v,hp,hv,h=>by simp only [vC,T.leaf,ah,an] at h;obtain⟨rfl,rfl⟩:=h;rw [jn] at hv;subst hv;exact⟨rfl,rfl,hp,_,rfl,by simp only [VR]⟩
 |x::xs,a,k,s,s',us,v,hp,hv,h=>by
  rw [bS] at hv;obtain⟨u,vs,rfl,hx,qo⟩:=hv;cases x<;>simp only [vC,T.leaf,reduceCtorEq] at h;rename_i k' b;simp only [VR] at hx;subst hx;obtain⟨fH,gH,U⟩:=dh hp h;cases mx
  ·simp only [aR,if_false,eu] at U ⊢;by_cases hc:b.den E.ρ<a.den E.ρ
   ·simp only [hc,decide_true,if_true] at U;obtain⟨q1,q2,q3,u,q4,q5⟩:=pB gH qo U;refine⟨q1,q2,q3,u,?_,q5⟩;simp only [aw2,Sem.run_bind,Builtin.min2,Sem.run_pure,Result.andThen_ok,hc,if_true]
    grind
   ·simp only [hc,decide_false,aR,if_false] at U;obtain⟨q1,q2,q3,u,q4,q5⟩:=pB gH qo U;refine⟨q1,q2,q3,u,?_,q5⟩;simp only [aw2,Sem.run_bind,Builtin.min2,Sem.run_pure,Result.andThen_ok,hc,if_false]
    grind
  ·simp only [if_true,eu] at U ⊢;by_cases hc:a.den E.ρ<b.den E.ρ
   ·simp only [hc,decide_true,if_true] at U;obtain⟨q1,q2,q3,u,q4,q5⟩:=pB gH qo U;refine⟨q1,q2,q3,u,?_,q5⟩;simp only [aw2,Sem.run_bind,Builtin.max2,Sem.run_pure,Result.andThen_ok,gt_iff_lt,hc,if_true]
    grind
   ·simp only [hc,decide_false,aR,if_false] at U;obtain⟨q1,q2,q3,u,q4,q5⟩:=pB gH qo U;refine⟨q1,q2,q3,u,?_,q5⟩;simp only [aw2,Sem.run_bind,Builtin.max2,Sem.run_pure,Result.andThen_ok,gt_iff_lt,hc,if_false]
    grind
end
end
section
variable {ρ:Nat->Int} {u:Value} {t:Nat} {c:SB} {H':Hp} {w':World}
section
variable {P:Program} {E:En} {w:World}
theorem Yb (ρ:Nat->Int) (a b:SB):(aaa a b).den ρ=(a.den ρ&&b.den ρ):=by unfold aaa;split<;>simp [SB.den]
theorem Zd {i:TI} (iH:oP P t i) {x y:AV} {v:Value} (hx:VR E w.heap x u) (hy:VR E w.heap y v) (h:Uk i.kind x y=some c) (d:Nat) :
 (Op.equalIn (d+1) t u v).run P w= .ok (c.den E.ρ) w/\u.oneCell'=true/\v.oneCell'=true/\i.agg=false:=by
 unfold Uk at h;split at h
 ·rename_i k hk;split at h
  ·split at h
   ·rename_i BG;subst BG;simp at h;subst h;simp only [VR] at hx hy;subst hx hy;exact⟨by rw [run_equalIn_int w d t _ _ _ _ (yr iH hk),jF],rfl,rfl,by simp [TI.agg,TK.agg,hk]⟩
   grind
  grind
 ·rename_i hk;split at h
  ·simp at h;subst h;simp only [VR] at hx hy;obtain⟨rfl,hx⟩:=hx;obtain⟨rfl,hy⟩:=hy;exact⟨by rw [run_equalIn_string w d t _ _ (gj iH hk),Vw hx hy]; rfl,rfl,rfl,by simp [TI.agg,TK.agg,hk]⟩
  ·obtain⟨a,b,rfl,rfl,V⟩:=Gn hx hy h;exact⟨by rw [run_equalIn_string w d t _ _ (gj iH hk),Ad,V],rfl,rfl,by simp [TI.agg,TK.agg,hk]⟩
 ·rename_i hk;split at h
  ·simp only [VR] at hx hy;subst hx hy;exact⟨by rw [run_equalIn_bool' w d t _ _ (Ow iH hk),EA h],rfl,rfl,by simp [TI.agg,TK.agg,hk]⟩
  grind
 grind
theorem WN {tt:TT} (cX:eS P tt) {xs ys:List AV} {us vs:List Value} (hx:cJ E w.heap xs us) (hy:cJ E w.heap ys vs) (d:Nat): ∀{zn:List Field} {l:List (Nat×Nat×Nat)} {c:SB},
 (zn.mapM fun f=>(P.info? f.type).map fun i=>(f.offset,f.type,i.size))=some l->(∀f∈zn,f.name≠ "_")->abQ tt xs ys l=some c->
 (Op.eqFields (d+1) us.toArray vs.toArray zn).run P w= .ok (c.den E.ρ) w
 |[],l,c,hm,_,h=>by simp at hm;subst hm;simp [abQ] at h;subst h;simp [Op.eqFields,SB.den]
 |f::zn,l,c,hm,hn,h=>by
  simp only [awM,axj,awY] at hm;obtain⟨p,U,ls,Z,h3⟩:=hm;simp only [pure,ah] at h3;subst h3;rw [aO] at U;obtain⟨inf,avM,rfl⟩:=U;simp only [abQ] at h;split at h
  ·grind
  ·rename_i i hi;split at h
   ·rename_i x y hxn hyn;split at h
    ·grind
    ·rename_i c1 PH;split at h
     ·grind
     ·rename_i c2 hc2;simp at h;subst h;obtain⟨u,hu1,hu2⟩:=hx.nth hxn;obtain⟨v,hv1,hv2⟩:=hy.nth hyn;obtain⟨e1,e2,e3,e4⟩:=Zd (w:=w) (cX f.type i hi) hu2 hv2 PH d;have ih:=WN cX hx hy d Z (fun g hg=>hn g (by simp [hg])) hc2;have p1:(part f.type us.toArray f.offset).run P w= .ok u w:=by simp [part,rj (cX f.type i hi),e4,hu1]
      have p2:(part f.type vs.toArray f.offset).run P w= .ok v w:=by simp [part,rj (cX f.type i hi),e4,hv1]
      simp only [Op.eqFields];rw [ag (hn f ad)];simp only [Sem.run_bind,p1,p2,e1,Result.andThen_ok,Yb];cases RR:c1.den E.ρ
      ·simp
      grind
   grind
theorem HT {tt:TT} (cX:eS P tt) {xs ys:List AV} {us vs:List Value} (hx:cJ E w.heap xs us) (hy:cJ E w.heap ys vs) (h:FI tt t xs ys=some c) (op:BinOp) (x y:Operand) :
 (eqGuard op t x y (.agg us.toArray) (.agg vs.toArray)).run P w= .ok () w/\(binOp .eql t (.agg us.toArray) (.agg vs.toArray)).run P w= .ok (.bool (c.den E.ρ)) w/\(binOp .neq t (.agg us.toArray) (.agg vs.toArray)).run P w= .ok (.bool (!(c.den E.ρ))) w:=by
 unfold FI at h;split at h
 ·grind
 ·rename_i i hi;split at h
  ·rename_i fs hk;split at h
   ·rename_i hq;have iH:=cX t i hi;have he:=iH.eqs hq;obtain⟨zn,hu,hm⟩:=Ab iH hk;unfold abP at he;rw [hu] at he;simp only [aq,awe,aP,bne_iff_ne,ne_eq] at he;obtain⟨⟨U,Z⟩,h3⟩:=he;have hf:P.fieldsOf t=zn:=by simp [Program.fieldsOf,hu]
    have h10:(10000:Nat)=9998+1+1:=rfl
    have key:(Op.equalIn 10000 t (.agg us.toArray) (.agg vs.toArray)).run P w= .ok (c.den E.ρ) w:=by rw [h10];generalize (9998:Nat)=n;rw [run_equalIn_struct w (n+1) t _ _ (by rw [hf]; exact hu) U,hf];exact WN cX hx hy n hm (fun f hf=>(h3 f hf).1) h
    refine⟨run_eqGuard_agg w op t x y _ _ Z,?_,?_⟩
    ·rw [run_eql_struct,key]; rfl
    ·rw [run_neq_struct,key]; rfl
   grind
  grind
def RG [bN] (E:En) (s:St) (w:World) (v:AV) (s':St) (u:Value) (w':World):Prop:= ∃E',fD E s.h w E' s'.h w'/\bV E' s'.h w'/\VR E' w'.heap v u
def mr [bN] (P:Program) (E:En) (s:St) (o:Oper) (a:Act) (w:World) (v:AV) (s':St):Prop:=
 s'.bC=s.bC/\cz E.ρ s'.pc/\tY P o a w (RG E s w v s')
theorem bE {α:Type} {a b:α} (h:(T.ret a).leaf ρ=some b):a=b:=by simpa [T.leaf] using h
theorem iy {s:St} {a:Act} {x:Operand} {f:AV->T (AV×St)} {r:AV×St} (sr:SR E w.heap s.bC a) (h:(Cq s x f).leaf E.ρ=some r): ∃v,VR E w.heap v (a.eval x)/\(f v).leaf E.ρ=some r:=by
 unfold Cq at h;split at h
 ·rename_i v hv; exact⟨v,iF sr hv,h⟩
 ·simp [T.leaf] at h
theorem jB {s s':St} {v:AV} {r:Option AV} (h:(uA s r).leaf ρ=some (v,s')):r=some v/\s'=s:=by
 unfold uA at h;split at h
 ·have:=bE h; simp only [an] at this; exact⟨by rw [this.1],this.2.symm⟩
 ·simp [T.leaf] at h
theorem Bg {s s':St} {v:AV} {r:Option Hp} (h:(SS s r).leaf ρ=some (v,s')): ∃H,r=some H/\v=AV.undef/\s'= { s with h:=H }:=by
 unfold SS at h;split at h
 ·rename_i H; have:=bE h; simp only [an] at this; exact⟨H,rfl,this.1.symm,this.2.symm⟩
 ·simp [T.leaf] at h
theorem rH {s s':St} {v:AV} {r:Option (AV×Hp)} (h:(D2 s r).leaf ρ=some (v,s')): ∃H,r=some (v,H)/\s'= { s with h:=H }:=by
 unfold D2 at h;split at h
 ·rename_i x H; have:=bE h; simp only [an] at this; obtain⟨rfl,rfl⟩:=this; exact⟨H,rfl,rfl⟩
 ·simp [T.leaf] at h
theorem pU {h:Array Obj}:VR E h AV.undef undef:=by simp only [AV.undef,VR,cJ]; exact⟨[],rfl,rfl⟩
variable {s s':St} {o:Oper} {a:Act} {v:AV}
theorem mr.pure [bN] (hp:cz E.ρ s.pc) (r:bV E s.h w) (h:(execOp a.eval o).run P w= .ok (.value u) w) (hv:VR E w.heap v u):mr P E s o a w v s:=
 ⟨rfl,hp,tY.value h ⟨E,fD.refl _ _ _,r,hv⟩⟩
theorem mr.heap [bN] {E':En} (hp:cz E.ρ s.pc) (h:(execOp a.eval o).run P w= .ok (.value u) w') (U:fD E s.h w E' H' w') (Z:bV E' H' w') (hv:VR E' w'.heap v u) :
 mr P E s o a w v { s with h:=H' }:=
 ⟨rfl,hp,tY.value h ⟨E',U,Z,hv⟩⟩
end
end
section
variable {t:Nat} {s s':St} {tt:TT} {ρ:Nat->Int} {E:En} {α:Type} {P:Program} {w:World} {u:Value} {op:BinOp} {v:AV}
theorem AH {α:Type} {ρ:Nat->Int} {kk:TK} {k:AV} {r:α} {f:St->T α}: ∀{es:List (AV×AV×Nat)} {s:St},cz ρ s.pc->(vM kk k es s f).leaf ρ=some r->∃fH,cz ρ fH/\(f { s with pc:=fH }).leaf ρ=some r
 |[],s,hp,h=> ⟨s.pc,hp,h⟩
 |(k',v,b)::es,s,hp,h=>by
  simp only [vM] at h;split at h
  ·split at h
   ·exact wN
   ·exact AH hp h
  ·split at h
   ·obtain⟨jS,jx,U⟩:=dh hp h;split at U
    ·grind
    ·obtain⟨qU,qp,Z⟩:=AH (s:={ s with pc:=jS }) jx U
     grind
   ·exact wN
theorem sQ {m k:AV} {r:α} {f:St->T α} (hp:cz ρ s.pc) (h:(pS tt t m k s f).leaf ρ=some r): ∃fH,cz ρ fH/\(f { s with pc:=fH }).leaf ρ=some r:=by
 unfold pS at h;split at h
 ·split at h
  ·split at h
   ·split at h
    ·exact AH hp h
    ·exact wN
   ·exact wN
  ·exact wN
 ·exact wN
theorem QK {ρ:Nat->Int} {k:IntKind} {e:Y} {f:AV->St->T (AV×St)} {r:AV×St}: ∀(n j:Nat) {s:St},cz ρ s.pc->(j:Int)<=e.den ρ->e.den ρ<(j:Int)+n->(QL k e f n j s).leaf ρ=some r->
 ∃(i:Nat) (fH:List (SB×Bool)),cz ρ fH/\e.den ρ=(i:Int)/\(f (.int k (.lit (Int.ofNat i))) { s with pc:=fH }).leaf ρ=some r
 |0,j,s,_,_,_,h=>by simp [QL,T.leaf] at h
 |n+1,j,s,hp,U,Z,h=>by
  simp only [QL] at h;split at h
  ·exact⟨j,s.pc,hp,J,h⟩
  ·obtain⟨jS,jx,h3⟩:=dh hp h;rw [jF] at h3;split at h3
   ·rename_i he;simp only [Y.den,beq_iff_eq] at he
    grind
   ·rename_i he;simp only [Y.den,beq_eq_false_iff_ne,ne_eq] at he;have hj:(Int.ofNat j)=(j:Int):=rfl;rw [hj] at he;obtain⟨i,qU,qp,q1,q2⟩:=QK n (j+1) (s:={ s with pc:=jS }) jx (by push_cast; omega) (by push_cast at Z ⊢; omega) h3
    grind
theorem pI (hp:cz ρ s.pc) {i n:Y} {f:St->T α} {r:α} (h:(Bl s i n f).leaf ρ=some r) :
 ∃fH,cz ρ fH/\0<=i.den ρ/\i.den ρ<n.den ρ/\(f { s with pc:=fH }).leaf ρ=some r:=by
 unfold Bl at h;obtain⟨jS,jx,U⟩:=dh hp h;split at U
 ·simp [T.leaf] at U
 ·rename_i e1;rw [eu,decide_eq_false_iff_not] at e1;obtain⟨qU,qp,Z⟩:=dh (s:={ s with pc:=jS }) jx U;split at Z
  ·rename_i e2;rw [eu,decide_eq_true_eq] at e2;simp only [Y.den,aws] at e1
   grind
  ·simp [T.leaf] at Z
theorem Cm {h0:Array Obj} {x ix:AV} {ui:Value} {f:AV->St->T (AV×St)} {r:AV×St} (hp:cz E.ρ s.pc) (BH:VR E h0 ix ui) (h:(K4 tt t x ix s f).leaf E.ρ=some r) :
 ∃ix' fH,cz E.ρ fH/\VR E h0 ix' ui/\(f ix' { s with pc:=fH }).leaf E.ρ=some r:=by
 unfold K4 at h;split at h
 ·exact⟨ix,s.pc,hp,BH,h⟩
 ·split at h
  ·rename_i k e _;split at h
   ·rename_i n hn;obtain⟨jS,jx,U,Z,h3⟩:=pI hp h;simp only [Y.den] at Z;obtain⟨i,qU,qp,q1,q2⟩:=QK n 0 (s:={ s with pc:=jS }) jx (by simpa using U) (by simpa using Z) h3;refine⟨_,qU,qp,?_,q2⟩;simp only [VR,Y.den] at BH ⊢
    grind
   ·simp [T.leaf] at h
  ·simp [T.leaf] at h
theorem J8 {ro:Nat->Prop} {h:Array Obj} {d:D} {v:Value} (r:Rd ro h (.sl t) d v):(0<d.l.length->∃a n cap,v= .slice (some a) n cap)/\(d= .i 1->v= .slice none 0 0)/\(d= .i 2->∃a n cap,v= .slice (some a) n cap):=by
 generalize hc:CK.sl t=c at r
 cases r with
 |int k n=>simp at hc
 |bool b=>simp at hc
 |str s=>simp at hc
 |nil t=>exact⟨by simp [D.l],fun _=>rfl,ad⟩
 |Ap t a cap=>exact⟨by simp [D.l],ad,fun _=> ⟨a,0,cap,rfl⟩⟩
 |one t c b o cap ds f hr dK hb U Z=>exact⟨fun _=> ⟨_,_,_,rfl⟩,fun q=>by cases ds<;>simp [dL] at q,fun q=>by cases ds<;>simp [dL] at q⟩
 |many t cs b o cap rows f hr dK hb hl U Z=>exact⟨fun _=> ⟨_,_,_,rfl⟩,fun q=>by cases rows<;>simp [dL] at q,fun q=>by cases rows<;>simp [dL] at q⟩
theorem LZ (cX:eS P tt) {e:Nat} {ti:TI} (iH:tt t=some ti) (hk:ti.kind= .slice e) {b:Bool} (hu:(b=true/\u= .slice none 0 0)\/(b=false/\∃a n cap,u= .slice (some a) n cap))
 (h:(aaF s op b).leaf ρ=some (v,s')):s'=s/\∃y,(binOp op t u (.slice none 0 0)).run P w= .ok y w/\VR E w.heap v y/\(∀cs ds,¬(u= .agg cs/\(Value.slice none 0 0)= .agg ds))/\¬(u= .nilIface/\(Value.slice none 0 0)= .nilIface):=by
 obtain⟨d,U,Z⟩:=uG (cX t ti iH);rw [hk] at Z
 have he:(Op.equal t u (.slice none 0 0)).run P w= .ok b w:=by have hm:Op.equal t u (.slice none 0 0)=Op.equalIn (9999+1) t u (.slice none 0 0):=rfl;rw [hm];generalize (9999:Nat)=n;cases d<;>simp only [U2] at Z;rcases hu with ⟨rfl,rfl⟩|⟨rfl,a,m,cap,rfl⟩ <;>simp [Op.equalIn,Bc U]
 have Mh:(∀k n,u≠.int k n)/\(∀s,u≠.string s)/\(∀k n,u≠.float k n)/\(∀k n m,u≠.complex k n m):=by
  grind
 obtain⟨q1,q2⟩:=binOp_eql he Mh.1 Mh.2.1 Mh.2.2.1 Mh.2.2.2;unfold aaF at h;split at h
 ·simp only [T.leaf,ah,an] at h;obtain⟨rfl,rfl⟩:=h;exact⟨rfl,_,q1,by simp only [VR,SB.den],ad,ad⟩
 ·simp only [T.leaf,ah,an] at h;obtain⟨rfl,rfl⟩:=h;exact⟨rfl,_,q2,by simp only [VR,SB.den],ad,ad⟩
 ·simp [T.leaf] at h
theorem afC (cX:eS P tt) {a b:AV} {e:Y} (hn:S9 tt t a b=some e) {u':Value} (ha:VR E w.heap a u) (hb:VR E w.heap b u') (hp:cz E.ρ s.pc) (h:(anl s e op).leaf E.ρ=some (v,s')) :
 s'.bC=s.bC/\s'.h=s.h/\cz E.ρ s'.pc/\∃y,(binOp op t u u').run P w= .ok y w/\VR E w.heap v y/\(∀cs ds,¬(u= .agg cs/\u'= .agg ds))/\¬(u= .nilIface/\u'= .nilIface):=by
 unfold S9 at hn;split at hn
 ·split at hn
  ·split at hn
   ·rename_i ti iH;split at hn
    ·rename_i el hk;simp only [ah] at hn;subst hn;simp only [VR] at ha hb;subst hb;obtain⟨k1,k2,k3⟩:=J8 ha;unfold anl at h;obtain⟨jS,jx,U⟩:=dh hp h;split at U
     ·rename_i t1;rw [eu,decide_eq_true_eq,cQ] at t1;simp only [Y.den] at t1;obtain⟨rfl,q⟩:=LZ (P:=P) (E:=E) (w:=w) cX iH hk (.inr ⟨rfl,k1 J⟩) U
      grind
     ·obtain⟨qU,qp,Z⟩:=dh (s:={ s with pc:=jS }) jx U;split at Z
      ·rename_i t2;rw [ny,rG,beq_iff_eq] at t2;simp only [Y.den] at t2;obtain⟨rfl,q⟩:=LZ (P:=P) (E:=E) (w:=w) cX iH hk (.inl ⟨rfl,k2 (fY t2)⟩) Z
       grind
      ·obtain⟨pc3,PA,h3⟩:=dh (s:={ s with pc:=qU }) qp Z;split at h3
       ·rename_i t3;rw [ny,rG,beq_iff_eq] at t3;simp only [Y.den] at t3;obtain⟨rfl,q⟩:=LZ (P:=P) (E:=E) (w:=w) cX iH hk (.inr ⟨rfl,k3 (fY t3)⟩) h3
        grind
       ·simp [T.leaf] at h3
    grind
   grind
  grind
 grind
end
end Go.As
end

import Derived.KernelRfl
import GoSem.Claim
import Derived.Orders
import Derived.Scope
import Derived.LoopN
import Derived.Below
import GoSem.Core.View
import GoSem.Core.Layout
import GoSem.Op.Equal
import Derived.WalkKit
import Derived.Lib.Strings
import Derived.Laws.IdiomStrings
import Derived.Laws.RangeString
import Derived.Laws.StructEq
set_option linter.unusedSectionVars false
set_option linter.unusedVariables false
set_option linter.unusedSimpArgs false
abbrev af:=@if_neg
abbrev ag:=@if_pos
abbrev ah:=@Option.some.injEq
abbrev ak:=@Prod.mk.injEq
abbrev an:=@Bool.and_eq_true
abbrev aq:=@List.getElem_mem
abbrev au:=@Nat.le_refl
abbrev aw:=@List.nil_append
abbrev ax:=@Option.getD_some
abbrev ay:=@Nat.eq_of_beq_eq_true
abbrev az:=@List.getElem?_cons_zero
abbrev aA:=@List.getElem?_cons_succ
abbrev aC:=@List.map_cons
abbrev aF:=@List.mem_cons
abbrev aG:=@List.drop_eq_getElem_cons
abbrev aH:=@Nat.zero_add
abbrev aK:=@List.cons_append
abbrev aL:=@Int.lt_irrefl
abbrev aM:=@List.getElem?_eq_getElem
abbrev aN:=@List.drop_of_length_le
abbrev aO:=@Option.map_eq_some_iff
abbrev aP:=@List.all_eq_true
abbrev aQ:=@List.mem_map
abbrev aR:=@Bool.false_eq_true
abbrev aT:=@List.length_cons
abbrev aW:=@Int.toNat_natCast
abbrev aX:=@Nat.lt_or_ge
abbrev aY:=@List.length_take
abbrev aZ:=@List.length_append
abbrev a8:=@List.length_map
abbrev bc:=@List.getElem?_eq_some_iff
abbrev bd:=@List.length_nil
abbrev bg:=@List.getElem?_map
abbrev bh:=@Array.length_toList
abbrev bj:=@Int.natCast_zero
abbrev bk:=@List.append_assoc
abbrev bn:=@List.singleton_append
abbrev bo:=@Int.natCast_one
abbrev bp:=@List.length_drop
abbrev bq:=@List.mem_of_getElem?
abbrev awO:=@List.mem_cons_self
abbrev awP:=@Nat.le_trans
abbrev awQ:=@List.drop_zero
abbrev awR:=@List.mem_of_mem_drop
abbrev awS:=@Nat.le_of_ble_eq_true
abbrev awT:=@List.mem_of_mem_take
abbrev awU:=@List.append_nil
abbrev awV:=@Array.getElem?_toList
abbrev awW:=@Nat.add_assoc
abbrev awX:=@Nat.add_zero
abbrev awY:=@Option.map_some
abbrev awZ:=@List.getElem?_eq_none
abbrev aw0:=@Nat.zero_mul
abbrev aw1:=@Nat.zero_le
abbrev aw2:=@List.mem_range
abbrev aw3:=@List.mem_cons_of_mem
abbrev aw4:=@List.length_eq_zero_iff
abbrev aw5:=@List.mem_append
abbrev aw6:=@Nat.add_mul
abbrev aw7:=@List.not_mem_nil
abbrev aw8:=@Nat.le_succ
abbrev aw9:=@Bool.eq_iff_iff
abbrev axa:=@Array.getElem?_eq_some_iff
abbrev axb:=@Bool.or_eq_true
abbrev axc:=@Bool.not_eq_true'
abbrev axd:=@List.map_map
abbrev axe:=@Nat.mod_eq_of_lt
abbrev axf:=@Nat.lt_of_lt_of_le
abbrev axg:=@List.eq_nil_of_length_eq_zero
abbrev axh:=@List.mem_filter
abbrev axi:=@List.getElem_of_mem
abbrev axj:=@UInt8.toNat_ofNat'
abbrev axk:=@List.length_pos_iff
abbrev axl:=@Option.isSome_iff_exists
abbrev axm:=@List.take_of_length_le
abbrev axn:=@List.map_congr_left
abbrev axo:=@Array.getD_eq_getD_getElem?
abbrev axp:=@Int.not_lt
abbrev axq:=@List.take_append_drop
abbrev axr:=@Nat.eq_zero_or_pos
abbrev axs:=@List.length_replicate
abbrev axt:=@List.map_nil
abbrev axu:=@List.getElem?_take
abbrev axv:=@List.ext_getElem?
abbrev axw:=@List.take_succ_cons
abbrev axx:=@List.length_set
abbrev axy:=@Bool.false_or
abbrev axz:=@Array.getElem?_replicate
abbrev axA:=@Nat.blt_eq
abbrev axB:=@Option.getD_none
abbrev axC:=@Nat.mul_le_mul_right
abbrev axD:=@Nat.one_mul
abbrev axE:=@Int.ofNat_inj
abbrev axF:=@List.getElem?_drop
abbrev axG:=@List.mem_iff_getElem?
abbrev axH:=@Nat.ne_of_beq_eq_false
abbrev axI:=@Int.tmod_lt_of_pos
abbrev axJ:=@List.mapM_cons
abbrev axK:=@List.map_take
abbrev axL:=@List.getElem?_eq_none_iff
abbrev axM:=@List.take_length
abbrev axN:=@Nat.mul_pos
abbrev axO:=@Bool.not_true
abbrev axP:=@Nat.ble_eq_true_of_le
abbrev axQ:=@List.getElem?_range
abbrev axR:=@List.getElem_map
abbrev axS:=@Int.toNat_zero
abbrev axT:=@Option.isSome_some
abbrev axU:=@Bool.eq_false_iff
abbrev axV:=@List.map_id
abbrev axW:=@Option.bind_eq_some_iff
abbrev axX:=@Bool.or_false
abbrev axY:=@List.map_drop
abbrev axZ:=@List.set_cons_zero
abbrev ax0:=@List.set_cons_succ
abbrev ax1:=@List.foldlM_cons
abbrev ax2:=@List.take_zero
abbrev ax3:=@Nat.mul_one
abbrev ax4:=@Int.ofNat_lt
abbrev ax5:=@List.map_append
abbrev ax6:=@List.eq_nil_iff_forall_not_mem
abbrev ax7:=@List.any_eq_true
abbrev ax8:=@List.getD_eq_getElem?_getD
abbrev ax9:=@Nat.sub_zero
abbrev aya:=@List.all_append
abbrev ayb:=@List.take_succ_eq_append_getElem
abbrev ayc:=@List.mem_append_right
abbrev ayd:=@List.getElem?_nil
abbrev aye:=@Nat.pow_succ
abbrev ayf:=@Nat.mul_comm
abbrev ayg:=@Option.bind_eq_bind
abbrev ayh:=@List.getElem?_append
abbrev ayi:=@Nat.mul_le_mul
abbrev ayj:=@List.eraseIdx_cons_succ
abbrev ayk:=@Array.toList_map
abbrev ayl:=@Nat.le_of_mul_le_mul_right
abbrev aym:=@List.take_set_of_le
abbrev ayn:=@List.drop_set_of_lt
abbrev ayo:=@List.mem_singleton
abbrev ayp:=@List.replicate_succ
abbrev ayq:=@Nat.lt_trichotomy
abbrev ayr:=@Array.mem_of_getElem?
abbrev ays:=@List.length_reverse
abbrev ayt:=@List.getElem?_toArray
abbrev ayu:=@Array.getElem?_eq_none
abbrev ayv:=@Array.getElem?_setIfInBounds
abbrev ayw:=@List.mem_map_of_mem
abbrev ayx:=@Bool.true_or
abbrev ayy:=@List.sum_cons
abbrev ayz:=@List.mem_append_left
abbrev ayA:=@Array.mapM_eq_mapM_toList
abbrev ayB:=@Array.getElem?_modify
abbrev ayC:=@Array.getElem?_append_left
abbrev ayD:=@List.getElem?_append_right
abbrev ayE:=@List.mem_or_eq_of_mem_set
abbrev ayF:=@List.getElem?_set_self
abbrev ayG:=@List.eq_of_mem_replicate
abbrev ayH:=@Array.getElem?_eq_none_iff
abbrev ayI:=@Array.getElem?_eq_getElem
abbrev ayJ:=@Nat.add_sub_cancel_left
abbrev ayK:=@List.contains_iff_mem
abbrev ayL:=@List.set_getElem_self
abbrev ayM:=@List.getElem_set_self
theorem J{P:Prop}(h:P:=by omega):P:=h
theorem aa{P:Prop}(h:P:=by kernel_rfl):P:=h
theorem ad{P:Prop}(h:P:=by simp):P:=h
theorem ae{P:Prop}(h:P:=by decide):P:=h
section
set_option linter.unusedVariables false
namespace Go.As
theorem zm0 {P:Prop} (h:P:=by
 unfold A5 at g1;rw [VQ] at g1;have a7:=yJ x4;have k9:=oZ x4;have KA:=j6 x4;have Ns:=jW x4;refine bK.of ?_;rw [ab5];rcases g1 with ⟨p1,l1,rfl⟩|⟨p1,m1,q1,r1,s1⟩
 ·simp only [NU,zz,aL,hn,a1,a7,pV,pU,lT,jw,bz,Int.reduceLT,Int.reduceEq,bo]
  repeat' first |exact .out (dP (by unfold di; omega))|exact .out (eX (by unfold di; omega))|refine .ite (fun _=>?_) (fun _=>?_)|(exfalso; omega)
 ·subst m1;simp only [NU,zz,aL,hn,a1,a7,q1,r1,s1,pV,pU,lT,jw,bz,Int.reduceLT,Int.reduceEq,bo]
  repeat' first |exact .out (dP (by unfold di; omega))|exact .out (eX (by unfold di; omega))|refine .ite (fun _=>?_) (fun _=>?_)|(exfalso; omega)):P:=h
theorem zm1 {P:Prop} (h:P:=by
 unfold A5 at g1;rw [VQ] at g1;have a7:=yJ x4;have k9:=oZ x4;have KA:=j6 x4;have Ns:=jW x4;refine bK.of ?_;rw [ab4];rcases g1 with ⟨p1,l1,rfl⟩|⟨p1,m1,q1,r1,s1⟩
 ·simp only [NT,zz,aL,hn,a1,a7,pV,pU,lT,jw,bz,Int.reduceLT,Int.reduceEq,bo]
  repeat' first |exact .out (dP (by unfold di; omega))|exact .out (eX (by unfold di; omega))|refine .ite (fun _=>?_) (fun _=>?_)|(exfalso; omega)
 ·subst m1;simp only [NT,zz,aL,hn,a1,a7,q1,r1,s1,pV,pU,lT,jw,bz,Int.reduceLT,Int.reduceEq,bo]
  repeat' first |exact .out (dP (by unfold di; omega))|exact .out (eX (by unfold di; omega))|refine .ite (fun _=>?_) (fun _=>?_)|(exfalso; omega)):P:=h
theorem Nn {P:Prop} (h:P:=by
 have hb:=H.hb
 simp only [zz,H.eR,H.qD,H.hR,H.hk,gV r th hb,gU r th hb,bM,Td,mH,iB,iA,gF,gE,dL,act,Int.reduceEq,Gl]<;>(repeat' split)<;>first |rfl|(exfalso; omega)):P:=h
theorem zm3 {P:Prop} (h:P:=by
 repeat' first |(exfalso; omega)|(refine .out ?_; (repeat first |rw [ag (by omega)]|rw [af (by omega)]); first |exact⟨s2,GJ,rfl⟩|exact qX C lV jm _ (by first |rfl|simp [*]) (by (first |rfl|exact iZ gY|exact jM gY|exact iZ kq|exact jM kq|(rw [gY]; rfl)|(rw [kq]; rfl)|(rw [jh gY]; rfl)|(rw [hw]; rfl)|(rw [bP,<- hx (by omega),hw]; rfl)|(rw [bP,<- hx (by omega),bz])|(simp only [bz,bP]; first |exact Iq|exact Ez|rfl))) (by (first |rfl|exact iZ gY|exact jM gY|exact iZ kq|exact jM kq|(rw [gY]; rfl)|(rw [kq]; rfl)|(rw [jh gY]; rfl)|(rw [hw]; rfl)|(rw [bP,<- hx (by omega),hw]; rfl)|(rw [bP,<- hx (by omega),bz])|(simp only [bz,bP]; first |exact Iq|exact Ez|rfl))) (by first |exact sr|exact sv|exact .inl rfl|exact .inr (.inl rfl)|exact fL _ _|exact eB hw|exact eB (by simp)) (by first |exact sr|exact sv|exact .inl rfl|exact .inr (.inl rfl)|exact fL _ _|exact eB hw|exact eB (by simp)))|refine .ite (fun _=>?_) (fun _=>?_)|(exfalso; omega)):P:=h
theorem zm4 {P:Prop} (h:P:=by
 obtain⟨Ic,GJ,C,hR,tQ,mi,lV,jm,hlen,hk,hr,hv,hn,nd,ho,hc,hM,h7,sr,sv⟩:=H;have a1: ¬th<0:=by omega
 have a2: ¬obj<0:=by omega
 have a3:obj<(d0.l.length:Int):=by omega
 have a4:obj<(cs.l.length:Int):=by rw [C.len]; exact jm
 have p0:=lz gY th;have b0:(r.l.length:Int)=0:=by rw [gY]; rfl
 have n2:L 4400 [th,enc (.i 2)]=some [-1]:=wR (.i 2) th (by decide);obtain⟨m0,m1,m2,m3,m4⟩:=hM (by omega);have a5: ¬Mx d0 obj<0:=by omega
 have a6:Mx d0 obj<(cs.l.length:Int):=by rw [C.len]; exact m1
 refine bK.of ?_;rw [mu];simp only [mf,zz,Int.reduceEq,Int.reduceLT,aL,a1,mi,a2,a3,a4,eR,hR,hk,Ic,hr,hv,bz,n2,vZ,a5,a6,m2,m3];simp only [act,Int.reduceEq,if_true,if_false,p0,b0]
 repeat' first |(exfalso; omega)|(refine .out ?_; (repeat first |rw [ag (by omega)]|rw [af (by omega)]); first |exact⟨s2,GJ,rfl⟩|exact qX C lV jm _ (by first |rfl|simp [*]) (by (first |rfl|exact iZ gY|exact jM gY|exact iZ kq|exact jM kq|(rw [gY]; rfl)|(rw [kq]; rfl)|(rw [jh gY]; rfl)|(rw [hw]; rfl)|(rw [bP,<- hx (by omega),hw]; rfl)|(rw [bP,<- hx (by omega),bz])|(simp only [bz,bP]; first |exact Iq|exact Ez|rfl))) (by (first |rfl|exact iZ gY|exact jM gY|exact iZ kq|exact jM kq|(rw [gY]; rfl)|(rw [kq]; rfl)|(rw [jh gY]; rfl)|(rw [hw]; rfl)|(rw [bP,<- hx (by omega),hw]; rfl)|(rw [bP,<- hx (by omega),bz])|(simp only [bz,bP]; first |exact Iq|exact Ez|rfl))) (by first |exact sr|exact sv|exact .inl rfl|exact .inr (.inl rfl)|exact fL _ _|exact eB hw|exact eB (by simp)) (by first |exact sr|exact sv|exact .inl rfl|exact .inr (.inl rfl)|exact fL _ _|exact eB hw|exact eB (by simp))|exact FZ C lV jm m0 m1 m2 (by (first |rfl|exact iZ gY|exact jM gY|exact iZ kq|exact jM kq|(rw [gY]; rfl)|(rw [kq]; rfl)|(rw [jh gY]; rfl)|(rw [hw]; rfl)|(rw [bP,<- hx (by omega),hw]; rfl)|(rw [bP,<- hx (by omega),bz])|(simp only [bz,bP]; first |exact Iq|exact Ez|rfl))) (by (first |rfl|exact iZ gY|exact jM gY|exact iZ kq|exact jM kq|(rw [gY]; rfl)|(rw [kq]; rfl)|(rw [jh gY]; rfl)|(rw [hw]; rfl)|(rw [bP,<- hx (by omega),hw]; rfl)|(rw [bP,<- hx (by omega),bz])|(simp only [bz,bP]; first |exact Iq|exact Ez|rfl))) (by first |exact sr|exact sv|exact .inl rfl|exact .inr (.inl rfl)|exact fL _ _|exact eB hw|exact eB (by simp)) (by first |exact sr|exact sv|exact .inl rfl|exact .inr (.inl rfl)|exact fL _ _|exact eB hw|exact eB (by simp)))|refine .ite (fun _=>?_) (fun _=>?_)|(exfalso; omega)):P:=h
theorem zm5 {P:Prop} (h:P:=by
 have a7:=yJ x3;have k9:=oZ x3;have KA:=j6 x3;have Ns:=jW x3;refine bK.of ?_;rw [agx];simp only [afj,zz,aL,hn,a1,a7,KN,KM,lT,jw,bz,Int.reduceLT,Int.reduceEq]
 repeat' first |exact .out (dP (by unfold di; omega))|exact .out (eX (by unfold di; omega))|refine .ite (fun _=>?_) (fun _=>?_)|(exfalso; omega)):P:=h
theorem zm6 {P:Prop} (h:P:=by
 have a7:=yJ x3;have k9:=oZ x3;have KA:=j6 x3;have Ns:=jW x3;refine bK.of ?_;rw [agw];simp only [afi,zz,aL,hn,a1,a7,KN,KM,lT,jw,bz,Int.reduceLT,Int.reduceEq]
 repeat' first |exact .out (dP (by unfold di; omega))|exact .out (eX (by unfold di; omega))|refine .ite (fun _=>?_) (fun _=>?_)|(exfalso; omega)):P:=h
theorem zm7 {P:Prop} (h:P:=by
 repeat' first |exact .out (dP id)|exact .out (dP (by omega))|exact .out (eX (by omega))|refine .ite (fun _=>?_) (fun _=>?_)|(exfalso; omega)):P:=h
theorem zm8 {P:Prop} (h:P:=by
 simp only [act,Int.reduceEq,if_true,if_false]
 repeat' first |(exfalso; omega)|(refine .out ?_; (repeat first |rw [ag (by omega)]|rw [af (by omega)]); first |exact⟨s2,GJ,rfl⟩|exact qX C lV jm _ (by first |rfl|simp [*]) (by (first |rfl|exact iZ gY|exact jM gY|exact iZ kq|exact jM kq|(rw [gY]; rfl)|(rw [kq]; rfl)|(rw [jh gY]; rfl)|(rw [hw]; rfl)|(rw [bP,<- hx (by omega),hw]; rfl)|(rw [bP,<- hx (by omega),bz])|(simp only [bz,bP]; first |exact Iq|exact Ez|rfl))) (by (first |rfl|exact iZ gY|exact jM gY|exact iZ kq|exact jM kq|(rw [gY]; rfl)|(rw [kq]; rfl)|(rw [jh gY]; rfl)|(rw [hw]; rfl)|(rw [bP,<- hx (by omega),hw]; rfl)|(rw [bP,<- hx (by omega),bz])|(simp only [bz,bP]; first |exact Iq|exact Ez|rfl))) (by first |exact sr|exact sv|exact .inl rfl|exact .inr (.inl rfl)|exact fL _ _|exact eB hw|exact eB (by simp)) (by first |exact sr|exact sv|exact .inl rfl|exact .inr (.inl rfl)|exact fL _ _|exact eB hw|exact eB (by simp))|exact FZ C lV jm m0 m1 m2 (by (first |rfl|exact iZ gY|exact jM gY|exact iZ kq|exact jM kq|(rw [gY]; rfl)|(rw [kq]; rfl)|(rw [jh gY]; rfl)|(rw [hw]; rfl)|(rw [bP,<- hx (by omega),hw]; rfl)|(rw [bP,<- hx (by omega),bz])|(simp only [bz,bP]; first |exact Iq|exact Ez|rfl))) (by (first |rfl|exact iZ gY|exact jM gY|exact iZ kq|exact jM kq|(rw [gY]; rfl)|(rw [kq]; rfl)|(rw [jh gY]; rfl)|(rw [hw]; rfl)|(rw [bP,<- hx (by omega),hw]; rfl)|(rw [bP,<- hx (by omega),bz])|(simp only [bz,bP]; first |exact Iq|exact Ez|rfl))) (by first |exact sr|exact sv|exact .inl rfl|exact .inr (.inl rfl)|exact fL _ _|exact eB hw|exact eB (by simp)) (by first |exact sr|exact sv|exact .inl rfl|exact .inr (.inl rfl)|exact fL _ _|exact eB hw|exact eB (by simp)))|refine .ite (fun _=>?_) (fun _=>?_)|(exfalso; omega)):P:=h
theorem zm9 {P:Prop} (h:P:=by
 rw [VQ] at g1
 exact zm5):P:=h
theorem XT {P:Prop} (h:P:=by
 rw [VQ] at g1
 exact zm6):P:=h
theorem m_ {P:Prop} (h:P:=by
 have w:=bx (n:=d4.l.length) (by omega);obtain⟨ys,g0,b0,rfl,c0,f0⟩:=kQ x8 (d3.l.length:Int);obtain⟨ys,g1,b1,rfl,c1,f1⟩:=kQ x9 ((d4.l.length+1:Nat):Int);refine bK.of ?_;rw [Kg];simp only [IN,zz,Int.reduceEq,w,g0,g1]
 exact zm7):P:=h
theorem aqR {P:Prop} (h:P:=by
 simp only [act,Int.reduceEq,if_true,if_false,p0,b0]
 exact zm3):P:=h
theorem aqQ {P:Prop} (h:P:=by
 repeat' first |(exfalso; omega)|(refine .out ?_; (repeat first |rw [ag (by omega)]|rw [af (by omega)]); first |exact⟨s2,GJ,rfl⟩|exact qX C lV jm _ (by first |rfl|simp [*]) (by (first |rfl|exact iZ gY|exact jM gY|exact iZ kq|exact jM kq|(rw [gY]; rfl)|(rw [kq]; rfl)|(rw [jh gY]; rfl)|(rw [hw]; rfl)|(rw [bP,<- hx (by omega),hw]; rfl)|(rw [bP,<- hx (by omega),bz])|(simp only [bz,bP]; first |exact Iq|exact Ez|rfl))) (by (first |rfl|exact iZ gY|exact jM gY|exact iZ kq|exact jM kq|(rw [gY]; rfl)|(rw [kq]; rfl)|(rw [jh gY]; rfl)|(rw [hw]; rfl)|(rw [bP,<- hx (by omega),hw]; rfl)|(rw [bP,<- hx (by omega),bz])|(simp only [bz,bP]; first |exact Iq|exact Ez|rfl))) (by first |exact sr|exact sv|exact .inl rfl|exact .inr (.inl rfl)|exact fL _ _|exact eB hw|exact eB (by simp)) (by first |exact sr|exact sv|exact .inl rfl|exact .inr (.inl rfl)|exact fL _ _|exact eB hw|exact eB (by simp)))|refine .ite (fun _=>?_) (fun _=>?_)):P:=h
theorem XS {P:Prop} (h:P:=by
 refine bK.of ?_;rw [acw];simp only [D!,zz,Int.reduceEq]
 exact zm7):P:=h
theorem aqP {P:Prop} (h:P:=by
 unfold A5 at g1;rw [VS] at g1;have a7:=yJ x4;have k9:=oZ x4;have KA:=j6 x4;have Ns:=jW x4;refine bK.of ?_;rw [ab5];rcases g1 with ⟨p1,l1,rfl⟩|⟨p1,m1,q1,r1,s1⟩
 ·simp only [NU,zz,aL,hn,h3,h8,h5,h4,a1,a7,pV,pU,lT,jw,bz,Int.reduceLT,Int.reduceEq,bo]
  repeat' first |exact .out (dP (by unfold di; omega))|exact .out (eX (by unfold di; omega))|refine .ite (fun _=>?_) (fun _=>?_)|(exfalso; omega)
 ·subst m1;simp only [NU,zz,aL,hn,h3,h8,h5,h4,a1,a7,q1,r1,s1,pV,pU,lT,jw,bz,Int.reduceLT,Int.reduceEq,bo]
  repeat' first |exact .out (dP (by unfold di; omega))|exact .out (eX (by unfold di; omega))|refine .ite (fun _=>?_) (fun _=>?_)|(exfalso; omega)):P:=h
theorem aqN {P:Prop} (h:P:=by
 unfold A5 at g1;rw [VS] at g1;have a7:=yJ x4;have k9:=oZ x4;have KA:=j6 x4;have Ns:=jW x4;refine bK.of ?_;rw [ab4];rcases g1 with ⟨p1,l1,rfl⟩|⟨p1,m1,q1,r1,s1⟩
 ·simp only [NT,zz,aL,hn,h3,h8,h5,h4,a1,a7,pV,pU,lT,jw,bz,Int.reduceLT,Int.reduceEq,bo]
  repeat' first |exact .out (dP (by unfold di; omega))|exact .out (eX (by unfold di; omega))|refine .ite (fun _=>?_) (fun _=>?_)|(exfalso; omega)
 ·subst m1;simp only [NT,zz,aL,hn,h3,h8,h5,h4,a1,a7,q1,r1,s1,pV,pU,lT,jw,bz,Int.reduceLT,Int.reduceEq,bo]
  repeat' first |exact .out (dP (by unfold di; omega))|exact .out (eX (by unfold di; omega))|refine .ite (fun _=>?_) (fun _=>?_)|(exfalso; omega)):P:=h
theorem XR {P:Prop} (h:P:=by
 simp only [pw,eY,oS,rG,List.map,cE,Nat.reduceLT,cT,cZ]
 exact amf):P:=h
theorem aqL {P:Prop} (h:P:=by
 unfold A5 at g1;have a7:=yJ x4;have k9:=oZ x4;have KA:=j6 x4;have Ns:=jW x4;refine bK.of ?_;rw [ab5];rcases g1 with ⟨p1,l1,rfl⟩|⟨p1,m1,q1,r1,s1⟩
 ·simp only [NU,zz,aL,hn,a1,a7,pV,pU,lT,jw,bz,Int.reduceLT,Int.reduceEq,bo]
  repeat' first |exact .out (dP (by unfold di; omega))|exact .out (eX (by unfold di; omega))|refine .ite (fun _=>?_) (fun _=>?_)|(exfalso; omega)
 ·subst m1;simp only [NU,zz,aL,hn,a1,a7,q1,r1,s1,pV,pU,lT,jw,bz,Int.reduceLT,Int.reduceEq,bo]
  repeat' first |exact .out (dP (by unfold di; omega))|exact .out (eX (by unfold di; omega))|refine .ite (fun _=>?_) (fun _=>?_)|(exfalso; omega)):P:=h
theorem aqK {P:Prop} (h:P:=by
 unfold A5 at g1;have a7:=yJ x4;have k9:=oZ x4;have KA:=j6 x4;have Ns:=jW x4;refine bK.of ?_;rw [ab4];rcases g1 with ⟨p1,l1,rfl⟩|⟨p1,m1,q1,r1,s1⟩
 ·simp only [NT,zz,aL,hn,a1,a7,pV,pU,lT,jw,bz,Int.reduceLT,Int.reduceEq,bo]
  repeat' first |exact .out (dP (by unfold di; omega))|exact .out (eX (by unfold di; omega))|refine .ite (fun _=>?_) (fun _=>?_)|(exfalso; omega)
 ·subst m1;simp only [NT,zz,aL,hn,a1,a7,q1,r1,s1,pV,pU,lT,jw,bz,Int.reduceLT,Int.reduceEq,bo]
  repeat' first |exact .out (dP (by unfold di; omega))|exact .out (eX (by unfold di; omega))|refine .ite (fun _=>?_) (fun _=>?_)|(exfalso; omega)):P:=h
theorem amh {P:Prop} (h:P:=by
 repeat' first |(refine .out ?_; simp only [*,aK,aw,if_true,if_false,not_true_eq_false,not_false_eq_true,and_true,true_and,and_false,false_and,Int.reduceEq,Int.reduceLT]; done)|refine .ite (fun _=>?_) (fun _=>?_)|(exfalso; omega)):P:=h
theorem ae0 {P:Prop} (h:P:=by
 have hb:=H.hb;have U:=H.tQ; have Z:=H.mi; have h3:=H.lV; have h4:=H.jm; have h5:=H.hlen; have h6:=H.hr; have h7:=H.hv; have hp:=gS r th
 simp only [zz,H.eR,H.qD,H.hR,H.hk,gV r th hb,gU r th hb,V]<;>omega):P:=h
theorem auB {P:Prop} (h:P:=by
 repeat' first |exact .out zD|exact .out sV|refine .ite (fun _=>?_) (fun _=>?_)):P:=h
theorem amg {P:Prop} (h:P:=by
 have hb:=H.hb;have hz:((0:Nat):Int)=0:=rfl
 simp only [zz,H.eR,H.qD,H.hR,H.hk,gV r th hb,gU r th hb,hr,bd,aw,hz,pQ,bM,Td,mH,iB,iA,gF,gE,dL,act,Int.reduceEq,Gl]<;>(repeat' split)<;>first |rfl|(exfalso; omega)):P:=h
theorem rX {P:Prop} (h:P:=by
 obtain⟨ys,h,rfl⟩:=this
 exact h):P:=h
theorem aqI {P:Prop} (h:P:=by
 generalize s.l[i]=x at *;have q4:((x.V 4).l.length:Int)<17592186044416:=by omega
 have q5:((x.V 5).l.length:Int)<17592186044416:=by omega
 by_cases r4:((x.V 4).l.length:Int)=0<;>by_cases r5:((x.V 5).l.length:Int)=0<;>
 ·have e:jL x=dL [.i (x.V 0).n,.i (x.V 1).n,.i (if (x.V 2).n=0 then 0 else 1),.i (x.V 3).n,mS (x.V 4),mS (x.V 5)]:=rfl;unfold mS at e;simp only [r4,r5,if_true,if_false] at e;rw [e] at ih
  try rw [e]
  simp only [Vi,zz,c0,c1,c2,c3,w,fU,bz,q4,q5,r4,r5]
  exact .jump ih):P:=h
theorem amf {P:Prop} (h:P:=by
 rw [h']
 simp only [cT,cZ,axT,ax,if_true]):P:=h
theorem tp {P:Prop} (h:P:=by
 exact congrArg (fin L) K):P:=h
theorem aqH {P:Prop} (h:P:=by
 obtain⟨hC,ok,hle⟩:=qz h0 U G (by omega) R;have Y:=h.len;refine ar7 h0 U G' (by omega) hC (by omega) fun i hi=>?_;obtain⟨o,c,dn,g,r,v,T,_⟩:=vz G (i:=(i:Int)) (by omega) (by omega);obtain⟨o',c',EE,g',r',v',T',_⟩:=vz G' (i:=(i:Int)) (by omega) (by omega);obtain⟨rfl,rfl,rfl,rfl,q4,q5⟩:=KQ T T' (h.vP i);have P:=FP h0 U G (by omega) R (i:=(i:Int)) (by omega) (by omega) T;refine⟨_,_,_,_,_,_,T',?_⟩;unfold Nf at P ⊢
 grind):P:=h
theorem ame {P:Prop} (h:P:=by
 have hb:=H.hb
 simp only [zz,H.eR,H.qD,H.hR,H.hk,gV r th hb,gU r th hb,pQ,aw,bM,Td,mH,iB,iA,gF,gE,dL,act,Int.reduceEq,Gl]<;>(repeat' split)<;>first |rfl|(exfalso; omega)):P:=h
theorem i? {P:Prop} (h:P:=by
 simp only [pw,tB,eY,oS,rG,ky,List.map,mC,cE,Nat.reduceLT,cT,cZ,bG]
 grind):P:=h
theorem aeZ {P:Prop} (h:P:=by
 have kk:=(show ((d0.at (i:Int)).V 0).n=1 from sY.symm.trans rfl);have r1:=r0 (by omega) (by omega);have v1:=v0 (by omega)
 exact ZR (by omega) H r1 v1 (e1 r1 v1)):P:=h
theorem XQ {P:Prop} (h:P:=by
 exact⟨_,by simp [Builtin.len_,run_underlying hu]; rfl,by simp [VR,W.den,goInt]⟩):P:=h
theorem amd {P:Prop} (h:P:=by
 simp only [J',zz,Int.reduceEq]
 repeat' first
  |exact .out (dP fun h=>by have:=h.1; unfold QK at this; omega)
  |exact .jump (ih.iff ⟨fun q=> ⟨by unfold QK; omega,q⟩,fun q=>q.2⟩)
  |refine .ite (fun _=>?_) (fun _=>?_)):P:=h
theorem aqG {P:Prop} (h:P:=by
 rw [VS] at g1;have a7:=yJ x3;have k9:=oZ x3;have KA:=j6 x3;have Ns:=jW x3;refine bK.of ?_;rw [agx];simp only [afj,zz,aL,hn,h3,h8,h5,h4,a1,a7,KN,KM,lT,jw,bz,Int.reduceLT,Int.reduceEq]
 repeat' first |exact .out (dP (by unfold di; omega))|exact .out (eX (by unfold di; omega))|refine .ite (fun _=>?_) (fun _=>?_)|(exfalso; omega)):P:=h
theorem aqF {P:Prop} (h:P:=by
 rw [VS] at g1;have a7:=yJ x3;have k9:=oZ x3;have KA:=j6 x3;have Ns:=jW x3;refine bK.of ?_;rw [agw];simp only [afi,zz,aL,hn,h3,h8,h5,h4,a1,a7,KN,KM,lT,jw,bz,Int.reduceLT,Int.reduceEq]
 repeat' first |exact .out (dP (by unfold di; omega))|exact .out (eX (by unfold di; omega))|refine .ite (fun _=>?_) (fun _=>?_)|(exfalso; omega)):P:=h
theorem amc {P:Prop} (h:P:=by
 simp only [evA,ah,List.cons.injEq,and_true] at hL;obtain⟨p,rfl,rfl,rfl,rfl,rfl,rfl⟩:=hL;obtain⟨s',q,rfl⟩:=vI
 exact⟨s',_,_,_,_,_,_,TT,hY,by rw [ff p]; exact q⟩):P:=h
theorem aeY {P:Prop} (h:P:=by
 repeat' first |exact .out (.inl ⟨by omega,_,rfl⟩)|exact .out (.inr ⟨by omega,rfl,rfl,rfl⟩)|refine .ite (fun _=>?_) (fun _=>?_)):P:=h
theorem aqE {P:Prop} (h:P:=by
 have hs:=fb h.sh cY;rw [he] at hs;rw [bB,WZ];rcases bV hr with rfl|rfl|⟨r1,r2⟩ <;>rcases bV hv with rfl|rfl|⟨v1,v2⟩
 all_goals
  simp only [vp,zz,c0,c1,c2,w,bF cY,he,dN,bz,az,aA,Lh,Lg,hs,gK,fY,nj,gJ]
  try simp only [r1,r2,zz]
  try simp only [v1,v2,zz]
  try simp only [fin]
  exact ih):P:=h
theorem aqD {P:Prop} (h:P:=by
 by_cases r4:((x.V 4).l.length:Int)=0<;>by_cases r5:((x.V 5).l.length:Int)=0<;>
 ·have e:jL x=dL [.i (x.V 0).n,.i (x.V 1).n,.i (if (x.V 2).n=0 then 0 else 1),.i (x.V 3).n,mS (x.V 4),mS (x.V 5)]:=rfl;unfold mS at e;simp only [r4,r5,if_true,if_false] at e;rw [e] at ih
  try rw [e]
  simp only [Vj,zz,c0,c1,fU,q4,q5,pQ,aw,r4,r5]
  exact .jump ih):P:=h
theorem amb {P:Prop} (h:P:=by
 have kk:=(show ((d0.at (i:Int)).V 0).n=2 from sY.symm.trans rfl);have v1:=v0 (by omega);rcases gv r.l with h|h
 ·exact ZR (by omega) H h v1 (e1 h v1)
 ·exact oG3 (by omega) H h v1 (e3 h v1)):P:=h
theorem ama {P:Prop} (h:P:=by
 simp only [evA,ah,List.cons.injEq,and_true] at hL hL';obtain⟨p,rfl,rfl,rfl,rfl,rfl,rfl⟩:=hL;obtain⟨p',rfl,rfl,rfl,rfl,rfl,rfl⟩:=hL';rw [ff p,ff p']
 grind):P:=h
theorem aqC {P:Prop} (h:P:=by
 have hb:=H.hb;have U:=H.tQ; have Z:=H.mi; have h3:=H.lV; have h4:=H.jm; have h5:=H.hlen; have h6:=H.hr; have h7:=H.hv; have hp:=gS r th
 simp only [zz,H.eR,H.qD,H.hR,H.hk,gV r th hb,gU r th hb,V,bP,bz,pQ,aK,aw,aZ,aY,bp,aT,bd]<;>omega):P:=h
theorem aeX {P:Prop} (h:P:=by
 unfold jk at hy ⊢;simp only [zz,hc,h,hw,c7,hE,hv,Int.reduceEq,if_true,if_false,gZ,KT.d,ee,eW] at hy ⊢
 rw [hy]):P:=h
theorem aqB {P:Prop} (h:P:=by
 obtain⟨d1,d2⟩:=hb _ (aq h0);have hc:=(cls d1 d2).1.2 f1;have d1: ¬l[0]<0:=by omega
 have aoJ:((bD l).at 0).n=l[0]:=y0 h0;have e1:(0:Int)<(l.length:Int):=by omega
 have w:IntKind.i64.wrap (0+1)=1:=fg (by omega) (by omega);rw [bB,Uq];simp only [RY,zz,eD,e1,aoJ,d1,d2,hc,w,aL,Int.reduceEq,fin]
 exact p4):P:=h
theorem aqA {P:Prop} (h:P:=by
 have ha:=MX hp a;have hb:=MX hp b;split
 ·rename_i la ha' lb tT e1 e2;rw [e1] at ha;rw [e2] at hb;have a1:=ha.1 la rfl;have a2:=ha.2 ha' rfl;have b1:=hb.1 lb rfl;have b2:=hb.2 tT rfl;split
  ·rename_i hi;simp only [W.den];rw [Tb hi (by omega) (by omega)];constructor<;>intro l Y<;>simp at Y<;>omega
  ·exact qJ hp
 ·exact qJ hp):P:=h
theorem Ii {P:Prop} (h:P:=by
 exact .out (by rw [axt,awU])):P:=h
theorem XP {P:Prop} (h:P:=by
 simp [Instr.sliceAt,run_underlying hu,Instr.slice,e1,jl]<;>split<;>rfl):P:=h
theorem aqz {P:Prop} (h:P:=by
 have q:((x.V 1).l.length:Int)<17592186044416:=by omega
 unfold cK mS at ih;by_cases r1:((x.V 1).l.length:Int)=0
 ·simp only [r1,if_true] at ih;simp only [IM,zz,c0,c1,fU,q,pQ,aw,r1];exact .jump ih
 ·simp only [r1,if_false] at ih;simp only [IM,zz,c0,c1,fU,q,pQ,aw,r1]
  exact .jump ih):P:=h
theorem al9 {P:Prop} (h:P:=by
 repeat' first |exact .out (aom (by omega))|exact .out (aol (by omega))|refine .ite (fun _=>?_) (fun _=>?_)):P:=h
theorem al8 {P:Prop} (h:P:=by
 have kk:=(show ((d0.at (i:Int)).V 0).n=3 from sY.symm.trans rfl);have r1:=r0 (by omega) (by omega);have v1:=v0 (by omega)
 exact ZR (by omega) H r1 v1 (e1 r1 v1)):P:=h
theorem aqy {P:Prop} (h:P:=by
 generalize ((((d1.at t).V 2).at x.a).V 3).n=i3 at *
 exact amh):P:=h
theorem aeW {P:Prop} (h:P:=by
 have:=bE Z;simp only [ak] at this;obtain⟨rfl,rfl⟩:=this
 exact⟨rfl,ht⟩):P:=h
theorem aeV {P:Prop} (h:P:=by
 simp only [pw,eY,oS,rG,List.map,cE,Nat.reduceLT,cT,cZ]
 grind):P:=h
theorem aeU {P:Prop} (h:P:=by
 repeat' first |exact .out (.inl ⟨by omega,_,rfl⟩)|refine .ite (fun _=>?_) (fun _=>?_)):P:=h
theorem aeT {P:Prop} (h:P:=by
 simp only [pw,ky,cE,Nat.reduceLT,cT,cZ,bG,mC]
 grind):P:=h
theorem al7 {P:Prop} (h:P:=by
 repeat' first
  |exact .out (kA (no (by omega)))
  |exact .jump ⟨_,hL,go (by omega)⟩
  |refine .ite (fun _=>?_) (fun _=>?_)):P:=h
theorem aqx {P:Prop} (h:P:=by
 by_cases q3:oc=3
 ·simp only [oy,zz,hA,c1,ht,c2,c3,c4,o0,w0,hw,n1,i0,Js,VG,F3,q3,z5]<;>exact⟨rfl,rfl⟩
 ·simp only [oy,zz,hA,c1,ht,c2,c3,c4,o0,w0,hw,n1,i0,Js,VG,F3,q3,z5]<;>exact⟨rfl,rfl⟩):P:=h
theorem aqw {P:Prop} (h:P:=by
 by_cases hn:d0.l.length=0
 ·have e:ss d0= .i 1:=by unfold ss; rw [ag hn]
  rw [e];exact HR hc (.inr hn)
 ·have e:ss d0=dL (d0.l.map fe):=by unfold ss; rw [af hn]
  rw [e]
  exact P5 hc ok.1 (by omega)):P:=h
theorem aqv {P:Prop} (h:P:=by
 by_cases q3:oc=3
 ·simp only [oy,zz,hA,c1,ht,c2,c3,c4,o0,w0,hw,n1,i0,Js,VG,q4,q3,z5]<;>exact⟨rfl,rfl⟩
 ·simp only [oy,zz,hA,c1,ht,c2,c3,c4,o0,w0,hw,n1,i0,Js,VG,q4,q3,z5]<;>exact⟨rfl,rfl⟩):P:=h
theorem aqu {P:Prop} (h:P:=by
 have hb:=H.hb;have U:=H.tQ; have Z:=H.mi; have h3:=H.lV; have h4:=H.jm; have h5:=H.hlen; have h6:=H.hr; have h7:=H.hv; have hp:=gS r th
 simp only [zz,H.eR,H.qD,H.hR,H.hk,gV r th hb,gU r th hb]<;>omega):P:=h
theorem aqt {P:Prop} (h:P:=by
 rw [<- hx];refine .ite (fun h=> .jump ?_) fun h=> .jump ?_
 ·have e:wo t (r.l[i]::r.l.drop (i+1))=wo t (r.l.drop (i+1)):=aiX h
  grind
 ·have e:wo t (r.l[i]::r.l.drop (i+1))=r.l[i]::wo t (r.l.drop (i+1)):=aiW h
  grind):P:=h
theorem aqs {P:Prop} (h:P:=by
 by_cases q3:oc=3
 ·simp only [oy,zz,hA,c1,ht,c2,c3,c4,o0,w0,hw,n1,i0,Js,F3,q3,z5]<;>exact⟨rfl,rfl⟩
 ·simp only [oy,zz,hA,c1,ht,c2,c3,c4,o0,w0,hw,n1,i0,Js,F3,q3,z5]<;>exact⟨rfl,rfl⟩):P:=h
theorem aqr {P:Prop} (h:P:=by
 refine⟨v1::vs1,Z,qA,E2,n9,f1.trans f2,fun us hu=>?_,g2⟩;rw [bU] at hu ⊢;obtain⟨u,iz,rfl,a,b⟩:=hu
 exact⟨u,iz,rfl,VR.dq (f2.eA.keeps f1.rel) _ _ (q1 u a),q2 iz (cP.dq (f1.eA.keeps r) _ _ b)⟩):P:=h
theorem NC {P:Prop} (h:P:=by
 have:=aG hi
 grind):P:=h
theorem al6 {P:Prop} (h:P:=by
 repeat' first |exact .out (eX (by omega))|exact .out (dP (by omega))|refine .ite (fun _=>?_) (fun _=>?_)):P:=h
theorem aqq {P:Prop} (h:P:=by
 refine⟨.i 1,.i 1,.i 1,.i 1,2,?_,?_,rfl,h3,h3,N⟩
 ·rw [bB,Kh];simp only [IV,zz,hB,gK,fY,nj,gJ,hK,bA]
 ·rw [bB,Df]
  simp only [Cl,zz,hB',gK,fY,nj,gJ,hR,bA]):P:=h
theorem aqp {P:Prop} (h:P:=by
 by_cases q3:oc=3
 ·simp only [oy,zz,hA,c1,ht,c2,c3,c4,o0,w0,hw,n1,F3,q3,z5]<;>exact⟨rfl,rfl⟩
 ·simp only [oy,zz,hA,c1,ht,c2,c3,c4,o0,w0,hw,n1,F3,q3,z5]<;>exact⟨rfl,rfl⟩):P:=h
theorem aqo {P:Prop} (h:P:=by
 by_cases Z:i+1<=u
 ·have e:u-i=(u-(i+1))+1:=by omega
  rw [e,aA];simp only [Z,true_and,(by omega:i<=u)]
 ·rw [af (fun h=>Z h.1),af (fun h=>by omega)]):P:=h
theorem aqn {P:Prop} (h:P:=by
 by_cases q3:oc=3
 ·simp only [jT,zz,hA,c1,ht,c2,c3,c4,o0,w0,hw,n1,i0,i1,Js,VG,F3,q3,z5]
 ·simp only [jT,zz,hA,c1,ht,c2,c3,c4,o0,w0,hw,n1,i0,i1,Js,VG,F3,q3,z5]):P:=h
theorem aqm {P:Prop} (h:P:=by
 simp only [pw,tB,eY,oS,rG,ky,List.map,mC,cE,Nat.reduceLT,cT,cZ,bG];rw [hC]
 simp only [cT,cZ,axT,ax,if_true]):P:=h
theorem aql {P:Prop} (h:P:=by
 by_cases q3:oc=3
 ·simp only [jT,zz,hA,c1,ht,c2,c3,c4,o0,w0,hw,n1,i0,i1,Js,VG,q4,q3,z5]
 ·simp only [jT,zz,hA,c1,ht,c2,c3,c4,o0,w0,hw,n1,i0,i1,Js,VG,q4,q3,z5]):P:=h
theorem al5 {P:Prop} (h:P:=by
 rw [aG hj,aG hj0] at h3
 grind):P:=h
theorem al4 {P:Prop} (h:P:=by
 obtain⟨inf,d,z,U,Z,h3,h4,h5,h6,h7,_⟩:=h.all;rw [Z];cases d<;>simp [hk,UZ] at h7
 grind):P:=h
theorem aqk {P:Prop} (h:P:=by
 have hb:=Fs (e:=a) hp;have hz: ∀z,(W.lit z).den ρ=z:=fun _=>rfl;simp only [hz] at *;generalize Tt:sL _ pc=p at h hb;obtain⟨lo,hi⟩:=p;simp only [vk] at h hb
 grind):P:=h
theorem aqj {P:Prop} (h:P:=by
 by_cases q3:oc=3
 ·simp only [jT,zz,hA,c1,ht,c2,c3,c4,o0,w0,hw,n1,i0,Js,VG,F3,q3,z5]
 ·simp only [jT,zz,hA,c1,ht,c2,c3,c4,o0,w0,hw,n1,i0,Js,VG,F3,q3,z5]):P:=h
theorem aqi {P:Prop} (h:P:=by
 have o0:0<=x.o/\x.o<(s.l.length:Int):=by omega
 obtain⟨o,c,dn,g,r,v,T,hr,_⟩:=vz S.g o0.1 o0.2;rw [T.is]
 exact⟨by simp only [zg,ax]; omega,by omega,o0.2⟩):P:=h
theorem aqh {P:Prop} (h:P:=by
 by_cases q3:oc=3
 ·simp only [jT,zz,hA,c1,ht,c2,c3,c4,o0,w0,hw,n1,i0,Js,VG,q4,q3,z5]
 ·simp only [jT,zz,hA,c1,ht,c2,c3,c4,o0,w0,hw,n1,i0,Js,VG,q4,q3,z5]):P:=h
theorem aqg {P:Prop} (h:P:=by
 by_cases q3:oc=3
 ·simp only [jT,zz,hA,c1,ht,c2,c3,c4,o0,w0,hw,n1,i0,i1,Js,F3,q3,z5]
 ·simp only [jT,zz,hA,c1,ht,c2,c3,c4,o0,w0,hw,n1,i0,i1,Js,F3,q3,z5]):P:=h
theorem Rv {P:Prop} (h:P:=by
 rw [bB,ali]
 exact tp):P:=h
theorem aqf {P:Prop} (h:P:=by
 by_cases w0:x.w=0
 ·simp only [w0,if_true];by_cases a0:x.a=(((d1.at t).V 2).l.length:Int)
  ·simp only [a0,if_true];rfl
  ·simp only [a0,if_false];rfl
 ·simp only [w0,if_false]
  rfl):P:=h
theorem aqe {P:Prop} (h:P:=by
 by_cases q3:oc=3
 ·simp only [jT,zz,hA,c1,ht,c2,c3,c4,o0,w0,hw,n1,i0,Js,F3,q3,z5]
 ·simp only [jT,zz,hA,c1,ht,c2,c3,c4,o0,w0,hw,n1,i0,Js,F3,q3,z5]):P:=h
theorem aqd {P:Prop} (h:P:=by
 simp only [FF,zz,c1,c2,w',bF Be,T.is,dN,bz,az,aA,ayd,axB,gK,fY,nj,gJ,bI]
 exact ih):P:=h
theorem aqc {P:Prop} (h:P:=by
 simp only [FD,zz,c1,c2,w',bF Be,T.is,dN,bz,az,aA,ayd,axB,gK,fY,nj,gJ,bI]
 exact ih):P:=h
theorem aqb {P:Prop} (h:P:=by
 simp only [FC,zz,c1,c2,w',bF Be,T.is,dN,bz,az,aA,ayd,axB,gK,fY,nj,gJ,bI]
 exact ih):P:=h
theorem aqa {P:Prop} (h:P:=by
 refine fg (by omega) ?_;unfold Nc at c4;simp only [nX] at c4
 omega):P:=h
theorem al3 {P:Prop} (h:P:=by
 rw [hk]
 simp [Instr.indexAt,asIntOf,run_underlying hu,e9 (da el ie np),gk,gA]):P:=h
theorem al0 {P:Prop} (h:P:=by
 cases c with
 |exact c=>
  simp only [fJ] at hc
  grind
 |rest es=>
  simp only [fJ] at hc
  grind):P:=h
theorem Fp {P:Prop} (h:P:=by
 simp only [VR] at hx
 grind):P:=h
theorem ap9 {P:Prop} (h:P:=by
 by_cases q3:oc=3
 ·simp only [jT,zz,hA,c1,ht,c2,c3,c4,o0,w0,hw,n1,F3,q3,z5]
 ·simp only [jT,zz,hA,c1,ht,c2,c3,c4,o0,w0,hw,n1,F3,q3,z5]):P:=h
theorem auA {P:Prop} (h:P:=by
 have hr2:results fn a.tmps=(do let vs <- fn.results.mapM (wF a); pure (if h:vs.size=1 then vs[0] else .tuple vs)):=rfl;rw [hr2];simp only [Sem.run_bind,hm]
 rfl):P:=h
theorem ap8 {P:Prop} (h:P:=by
 rw [aw9,decide_eq_true_eq];have e:(p == q)=(p.data == q.data):=rfl;rw [e,beq_iff_eq];constructor
 ·intro h; cases p; cases q; simp only at h; rw [h]
 grind):P:=h
theorem ap7 {P:Prop} (h:P:=by
 have:=bE Z;simp only [ak] at this;obtain⟨rfl,rfl⟩:=this;refine⟨by simp,wp_mono hw fun x a1 w1 ⟨hx,ht⟩=>?_⟩;subst hx
 exact hq a1 w1 ht):P:=h
theorem ap6 {P:Prop} (h:P:=by
 simp only [IS,zz,c1,c2,c4,w,bF cY,he,dN,bz,az,aA,ax,gK,fY,nj,gJ,bI]
 exact ih):P:=h
theorem ap5 {P:Prop} (h:P:=by
 simp only [IQ,zz,c1,c2,c4,w,bF cY,he,dN,bz,az,aA,ax,gK,fY,nj,gJ,bI]
 exact ih):P:=h
theorem aiR {P:Prop} (h:P:=by
 have kk:=(show ((d0.at (i:Int)).V 0).n=7 from sY.symm.trans rfl);have r1:=r0 (by omega) (by omega);have v1:=v0 (by omega)
 exact ZR (by omega) H r1 v1 (e1 r1 v1)):P:=h
theorem aiQ {P:Prop} (h:P:=by
 have kk:=(show ((d0.at (i:Int)).V 0).n=9 from sY.symm.trans rfl);have r1:=r0 (by omega) (by omega);have v1:=v0 (by omega)
 exact ZR (by omega) H r1 v1 (e1 r1 v1)):P:=h
theorem aiP {P:Prop} (h:P:=by
 have kk:=(show ((d0.at (i:Int)).V 0).n=5 from sY.symm.trans rfl);have r1:=r0 (by omega) (by omega);have v1:=v0 (by omega)
 exact ZR (by omega) H r1 v1 (e1 r1 v1)):P:=h
theorem aiO {P:Prop} (h:P:=by
 have kk:=(show ((d0.at (i:Int)).V 0).n=6 from sY.symm.trans rfl);have r1:=r0 (by omega) (by omega);have v1:=v0 (by omega)
 exact ZR (by omega) H r1 v1 (e1 r1 v1)):P:=h
theorem vS {P:Prop} (h:P:=by
 exact⟨s.pc,hp,h⟩):P:=h
theorem aiN {P:Prop} (h:P:=by
 simp only [IU,zz,c1,a0,he,dN,bz,pQ,aw,az,aA,gK,fY,nj,gJ,bI]
 exact ih):P:=h
theorem aiM {P:Prop} (h:P:=by
 simp only [IT,zz,c1,a0,he,dN,bz,pQ,aw,az,aA,gK,fY,nj,gJ,bI]
 exact ih):P:=h
theorem aiL {P:Prop} (h:P:=by
 cases lo with
 |none=> simp only [gR] at qM;simp_all
 |some v=>
  obtain⟨u,rfl,hu⟩:=qM;obtain⟨k1,k2⟩:=key .sliceB v u rfl hu
  simp_all):P:=h
theorem aiK {P:Prop} (h:P:=by
 have Z:a.blt b=false:=by rw [axU]; simp [Nat.blt]; omega
 have h3:a.beq b=false:=by rw [axU]; simp; omega
 grind):P:=h
theorem aiJ {P:Prop} (h:P:=by
 simp only [ep,aK] at h ⊢;split at h
 ·rename_i l' Y;simp only [ah] at h;subst h;rw [sB m Y];rfl
 grind):P:=h
theorem aqS {P:Prop} (h:P:=by
 have:=R.r.t0;have:=R.r.t1;have:=U.len
 exact⟨by omega,by omega⟩):P:=h
theorem aiI {P:Prop} (h:P:=by
 simp at h; subst h; simp only [VR] at hx; subst hx
 exact XQ):P:=h
theorem l? {P:Prop} (h:P:=by
 split at h
 ·rename_i Z;have Z:=xS (lC hp Z)
  grind
 grind):P:=h
theorem aiH {P:Prop} (h:P:=by
 unfold jk at hy ⊢;simp only [zz,hc,h,hw,c8,c9,hv,Int.reduceEq,if_true,if_false,gZ,KT.d,ee,eW] at hy ⊢
 rw [hy]):P:=h
theorem l! {P:Prop} (h:P:=by
 exact ih (fun j hj=>ra j (by simp [hj])) awN s E w vals v s' r hv hp Y):P:=h
theorem l_ {P:Prop} (h:P:=by
 exact awP (axC _ Z) (Nat.div_mul_le_self _ _)):P:=h
theorem aiG {P:Prop} (h:P:=by
 unfold OkO
 repeat' first |exact .out (dP (by omega))|exact .out (eX (by omega))|refine .ite (fun _=>?_) (fun _=>?_)):P:=h
theorem aiF {P:Prop} (h:P:=by
 split
 ·simp
 ·rename_i hz;intro h;have:=congrArg (fun d=>d.l.length) h;simp only [bz,a8] at this
  exact hz this):P:=h
theorem aiE {P:Prop} (h:P:=by
 cases mx with
 |none=>exact .inl ⟨rfl,(HN It).1,au _⟩
 |some y=>exact .inr ⟨y,rfl,It,au _⟩):P:=h
theorem aiD {P:Prop} (h:P:=by
 unfold obP
 exact al9):P:=h
theorem aiC {P:Prop} (h:P:=by
 exact hq a' w' ⟨ht.defers.trans d1,ht.size.trans z1,by obtain⟨E2,Nq,f2⟩:=ht.step; exact⟨E2,Il.trans Nq,f2⟩⟩):P:=h
theorem aiB {P:Prop} (h:P:=by
 unfold jk at hy ⊢;simp only [zz,hc,h,hw,c1,Int.reduceEq,if_true,if_false,gZ,KT.d,ee,eW] at hy ⊢
 rw [hy]):P:=h
theorem aiA {P:Prop} (h:P:=by
 refine .ite (fun _=> .ite (fun _=> .ite (fun _=> .out rfl) fun _=> .jump ⟨_,q5,rfl⟩) fun _=> .out rfl) fun _=> .out rfl):P:=h
theorem aiz {P:Prop} (h:P:=by
 exact⟨q1,q2,.tuple #[],w',by simp [builtin,U],E',Z,h3,by simp only [AV.undef,VR,cP]; exact⟨[],rfl,rfl⟩⟩):P:=h
theorem aiy {P:Prop} (h:P:=by
 simp only;intro xs ys hx E w vals pR hlen fx YW;have:=main xs ys hx E w vals pR hlen fx YW;rw [EA] at this
 exact this):P:=h
theorem aix {P:Prop} (h:P:=by
 simp only [ep] at h;split at h
 ·rename_i l' Y;simp only [ah] at h;subst h;simp [oU Y]
 grind):P:=h
theorem aiw {P:Prop} (h:P:=by
 repeat' first |(refine .out (congrArg (fun x=>[x]) ?_); unfold NP sMi; grind)|refine .ite (fun _=>?_) (fun _=>?_)):P:=h
theorem aiv {P:Prop} (h:P:=by
 simp only [pw,eY,oS,rG,List.map,cE,Nat.reduceLT,cT,cZ]
 grind [cT,cZ]):P:=h
theorem aiu {P:Prop} (h:P:=by
 first |exact .jump (t2 _ _ _ _)|exact .jump (t3 _ _ _ _ _)|exact .jump (t4 _ _ _ _ _)|exact .jump (t5 _ _ _ _ _ _)):P:=h
theorem ait {P:Prop} (h:P:=by
 refine .ite (fun _=> .out (by rw [axt,awU])) fun _=> .out (by rw [axt,awU])):P:=h
theorem ais {P:Prop} (h:P:=by
 refine .ite (fun _=> .out rfl) fun Iu=> .ite (fun _=> .out rfl) fun Z=> .ite (fun h3=>?_) fun _=> .out rfl
 grind):P:=h
theorem NF {P:Prop} (h:P:=by
 have:=PL h p hp
 grind [mZ]):P:=h
theorem air {P:Prop} (h:P:=by
 repeat' first |(refine .out (congrArg (fun x=>[x]) ?_); unfold kOf; grind)|refine .ite (fun _=>?_) (fun _=>?_)):P:=h
theorem aiq {P:Prop} (h:P:=by
 repeat' first |(refine .out (congrArg (fun x=>[x]) ?_); unfold HW; grind)|refine .ite (fun _=>?_) (fun _=>?_)):P:=h
theorem aip {P:Prop} (h:P:=by
 repeat' first |(refine .out (congrArg (fun x=>[x]) ?_); unfold zE; grind)|refine .ite (fun _=>?_) (fun _=>?_)):P:=h
theorem aio {P:Prop} (h:P:=by
 obtain⟨a,lc,w,o,g,tr,T⟩:=fq S.wk _ (aq hi);rw [bF hi,T.is,dN]
 exact T.Y.len):P:=h
theorem ain {P:Prop} (h:P:=by
 repeat' first
  |exact .jump (no (by omega))
  |exact .jump (yes (by omega))
  |refine .ite (fun _=>?_) (fun _=>?_)):P:=h
theorem aim {P:Prop} (h:P:=by
 simp only [ofConst,aO] at hv;obtain⟨l,U,rfl⟩:=hv;simp only [VR]
 grind [fC]):P:=h
theorem ail {P:Prop} (h:P:=by
 rw [h] at hA
 simp only [Vp,zz,hk,c1,c2,ht,zg,w0,a0,hA,h,bA,if_true,if_false,Int.reduceEq]):P:=h
theorem aik {P:Prop} (h:P:=by
 obtain⟨inf,d,z,U,Z,h3,h4,h5,h6,h7,_⟩:=h.all;rw [Z];cases d<;>simp [hk,UZ] at h7
 rw [h7]):P:=h
theorem aij {P:Prop} (h:P:=by
 repeat' first |exact .jump i1|exact .jump i2|exact .out zD|refine .ite (fun _=>?_) (fun _=>?_)):P:=h
theorem U4 {P:Prop} (h:P:=by
 simp only [oz,List.map,eY,fin]):P:=h
theorem aii {P:Prop} (h:P:=by
 simp only [Ren.av,VR,oh] at *;obtain⟨us,U,Z⟩:=hv
 exact⟨us,U,cP.jA Y cs us hi Z⟩):P:=h
theorem aih {P:Prop} (h:P:=by
 rw [h] at hA
 simp only [Vp,zz,hk,c1,c2,ht,zg,w0,hA,h,bA,if_true,if_false,Int.reduceEq]):P:=h
theorem k? {P:Prop} (h:P:=by
 simp only [r1,r2,zz,bI];rw [aeE r1]
 exact ih):P:=h
theorem aif {P:Prop} (h:P:=by
 simp only [Value.slice.injEq] at hv;obtain⟨rfl,_,_⟩:=hv;rw [tY (apr _)]
 exact .wL _ _ _):P:=h
theorem aie {P:Prop} (h:P:=by
 cases h:s.l[i]? with
 |none=>exact .pX _
 |some x=>exact aps (ht _ (bq h))):P:=h
theorem aqO {P:Prop} (h:P:=by
 rw [bz] at hx;obtain⟨y,hy,rfl⟩:=aQ.1 hx
 exact⟨au 0,au 0⟩):P:=h
theorem aid {P:Prop} (h:P:=by
 simp only [VR,jc] at *;obtain⟨us,U,Z⟩:=hv
 exact⟨us,U,rM cs us hc Z⟩):P:=h
theorem aic {P:Prop} (h:P:=by
 simp only [fJ] at *;refine⟨trivial,?_⟩;by_cases hml:m=l
 ·grind
 ·left
  grind [gA]):P:=h
theorem aib {P:Prop} (h:P:=by
 have:=bE Z;subst this;refine⟨v,none,rfl,rfl,rfl,rfl,h0,mm,rest,hs,?_⟩
 grind):P:=h
theorem aia {P:Prop} (h:P:=by
 subst hc;refine⟨by simp [Instr.sameNow],fun hh n=>?_⟩;simp at hh
 simp [Instr.sameBits,hh]):P:=h
theorem ah9 {P:Prop} (h:P:=by
 rw [awQ]
 exact⟨fun⟨a,b⟩=> ⟨by omega,by omega,a,b⟩,fun h=>h.2.2⟩):P:=h
theorem U3 {P:Prop} (h:P:=by
 obtain⟨ys,h,rfl⟩:=key
 exact h):P:=h
theorem ah8 {P:Prop} (h:P:=by
 simp only [VR,mz] at *;obtain⟨us,U,Z⟩:=hv
 exact⟨us,U,cP.low cs us Y Z⟩):P:=h
theorem ah7 {P:Prop} (h:P:=by
 have ih:=AT p hp;simp only [ah,ak] at h
 rw [<- h.2]; exact ih):P:=h
theorem ah6 {P:Prop} (h:P:=by
 simp only [VR,Ren.av] at *;obtain⟨us,U,Z⟩:=hv
 exact⟨us,U,cP.back cs us Z⟩):P:=h
theorem ah5 {P:Prop} (h:P:=by
 rw [bB,Df]
 simp only [Cl,zz,hB',gK,fY,nj,gJ,hR,bM,bA]):P:=h
theorem ah4 {P:Prop} (h:P:=by
 simp only [NZ,zz,hk,c1,ht,zg,w5,o0,o1,hp,bA,if_true,if_false,Int.reduceEq]):P:=h
theorem ah3 {P:Prop} (h:P:=by
 exact⟨_,run_build w t ps iz hb,by simp only [VR]; exact⟨iz.toList,by simp,e2⟩⟩):P:=h
theorem ah2 {P:Prop} (h:P:=by
 exact⟨_,by simp [Builtin.len_,run_underlying hu]; rfl,by simp [VR,W.den,goInt,h0]⟩):P:=h
theorem ah1 {P:Prop} (h:P:=by
 rw [bB,Kh]
 simp only [IV,zz,hB,gK,fY,nj,gJ,hK,bM,bA]):P:=h
theorem ah0 {P:Prop} (h:P:=by
 rw [h'];simp only [cT,cZ,axT,ax,if_true]
 omega):P:=h
theorem ahZ {P:Prop} (h:P:=by
 rw [dif_pos h];obtain⟨q1,q2⟩:=ym h.choose_spec;have q2:=aeC q2
 grind):P:=h
theorem ahY {P:Prop} (h:P:=by
 simp [Instr.indexAt,asIntOf,run_underlying hu,e9 (da e ie np),gk,gA]):P:=h
theorem ahX {P:Prop} (h:P:=by
 rw [bF hj]
 exact al5):P:=h
theorem ahW {P:Prop} (h:P:=by
 rw [h] at hA ⊢
 simp only [RJ,zz,hF,hA,bA,if_true,if_false,Int.reduceEq]):P:=h
theorem ahV {P:Prop} (h:P:=by
 have hx':z.cells.size=0:=by have:=congrArg List.length hx; simpa using this
 grind):P:=h
theorem ahU {P:Prop} (h:P:=by
 simp only [afn,zz,c1,c2,c3,w,bF cY,bF hid,hn,hS,fin,bM,Iu]):P:=h
theorem ahT {P:Prop} (h:P:=by
 simp only [VR] at *;obtain⟨us,U,Z⟩:=hv
 exact⟨us,U,cP.dq k cs us Z⟩):P:=h
theorem ahS {P:Prop} (h:P:=by
 obtain⟨q,rfl,rfl,rfl,rfl,rfl,rfl⟩:=hL;have q:=ff q;subst q
 exact .no):P:=h
theorem k! {P:Prop} (h:P:=by
 exact .ite (fun _=> .out rfl) fun _=> .out rfl):P:=h
theorem ahR {P:Prop} (h:P:=by
 exact⟨_,by simp [Builtin.len_,run_underlying hu]; rfl,by simp [VR,h0,goInt]⟩):P:=h
theorem aqM {P:Prop} (h:P:=by
 rw [ayA];rw [map_eq_pure_bind];simp only [Sem.run_bind,g1]
 rfl):P:=h
theorem ahQ {P:Prop} (h:P:=by
 rw [<- nQ]; simp only [w8]; rw [ag (by constructor<;>simp<;>omega)]):P:=h
theorem ahP {P:Prop} (h:P:=by
 simp only [oz,List.map,eY,cE,cT,cZ,Nat.reduceLT,fin]):P:=h
theorem ahO {P:Prop} (h:P:=by
 obtain⟨i,U,Z⟩:=GG h
 exact⟨i+1,by simpa using U,by omega⟩):P:=h
theorem ahN {P:Prop} (h:P:=by
 simp only [Cm,zz,c1,c2,c4,bF cY,Z,h3,h4,hz,w,bI]
 exact ih):P:=h
theorem ahM {P:Prop} (h:P:=by
 obtain⟨Ae,o0,h0,he⟩:=st.own id o ho h;rw [<- he]
 exact t.own Ae o0 h0):P:=h
theorem ahL {P:Prop} (h:P:=by
 subst V;cases Bc:X0.kind<;>rw [Bc] at GO<;>simp only [UZ] at GO
 grind):P:=h
theorem ahK {P:Prop} (h:P:=by
 rw [sm t fun y hy=>ht y (by simp [hy]),e1,Cs,af (ht x (by simp))]):P:=h
theorem ND {P:Prop} (h:P:=by
 simp only [W.den,gQ.den]):P:=h
theorem ahJ {P:Prop} (h:P:=by
 rw [<- mN] at e1
 simp [Instr.sliceAt,run_underlying hu,Instr.slice,e1]):P:=h
theorem ahI {P:Prop} (h:P:=by
 rcases aF.1 gC with rfl|gC
 ·grind
 ·exact ho p (by simp [gC])):P:=h
theorem ahH {P:Prop} (h:P:=by
 have:=af0 h6;simp only [bp,aY] at this
 omega):P:=h
theorem ahG {P:Prop} (h:P:=by
 have:(sR c.dW 0 .nil).get id=some o:=ho
 grind [mI,Tr.get]):P:=h
theorem ahF {P:Prop} (h:P:=by
 refine .ite (fun h=> .out (by rw [af (by omega)])) fun h=> .out ?_
 grind):P:=h
theorem ahE {P:Prop} (h:P:=by
 rw [h] at ho ⊢;rw [bB,adr];simp only [R_,zz,hy,ho,fP]
 rfl):P:=h
theorem ahD {P:Prop} (h:P:=by
 exact CY hj hp Y (fun x hx=>ra x (by simp [hx])) h vx t hg hN V):P:=h
theorem ahC {P:Prop} (h:P:=by
 exact⟨w,by simp [Builtin.clear_,run_underlying hu],fm.refl _ _ _,r⟩):P:=h
theorem ahB {P:Prop} (h:P:=by
 simp only [RW,zz,c1,c2,c3,c4,bF cY,hz,w,bI]
 exact ih):P:=h
theorem k_ {P:Prop} (h:P:=by
 simp only [qS,zz,h,hR,Int.reduceEq]):P:=h
theorem ahA {P:Prop} (h:P:=by
 unfold cX;rw [hL]
 conv=>lhs; rw [hsp]
 rw [nT,nT]):P:=h
theorem IF {P:Prop} (h:P:=by
 simp only [zz,hc,hx]):P:=h
theorem ahz {P:Prop} (h:P:=by
 obtain⟨s',U⟩:=xn h
 exact zC Y (fun _ h=>h) U):P:=h
theorem ahy {P:Prop} (h:P:=by
 simp only [Cn,zz,c1,ht,c2,c3,c4,c5,c6,h,hw,hz,bA,z6]):P:=h
theorem ahx {P:Prop} (h:P:=by
 obtain⟨inf,d,z,U,Z,h3,h4,h5,h6,h7,_⟩:=h.all
 grind [UZ]):P:=h
theorem ahw {P:Prop} (h:P:=by
 exact key Ib (fun h=>absurd h.1 (by omega)) (fun _ _ h=>absurd h gl)):P:=h
theorem ahv {P:Prop} (h:P:=by
 simp only [IL,zz,c0,c1,c2,c3,w,fU,bz,q,r1]
 exact .jump ih):P:=h
theorem ahu {P:Prop} (h:P:=by
 simp only [Cn,zz,c1,ht,c2,c3,c4,c7,h,E,hw,hz,bA,z6]):P:=h
theorem aht {P:Prop} (h:P:=by
 simp only [RX,zz,c1,ht,c2,c3,c4,c7,h,E,hw,hz,bA,z6]):P:=h
theorem ahs {P:Prop} (h:P:=by
 simp only [gq,W.den,gQ.den,bG,nu,D.n,hi,qU]):P:=h
theorem ahr {P:Prop} (h:P:=by
 cases o<;>first |exact absurd rfl (hn _ _ _)|simp only [Sem.run,h]):P:=h
theorem ahq {P:Prop} (h:P:=by
 rw [h'];simp only [cT,cZ,ax,w,fin]
 rw [ih]):P:=h
theorem ahp {P:Prop} (h:P:=by
 rw [<- all_cons (p:=AM d0) (vv.1 (by omega):AM d0 d0.l[i])]):P:=h
theorem j? {P:Prop} (h:P:=by
 exact⟨_,_,_,_,_,rfl,.inr rfl⟩):P:=h
theorem aho {P:Prop} (h:P:=by
 cases d with
 |none=>exact sr
 |some t=>exact sr.put (V t rfl) hv):P:=h
theorem ahn {P:Prop} (h:P:=by
 simp only [IL,zz,c0,c1,c2,c3,w,fU,bz,r1]
 exact .jump ih):P:=h
theorem ahm {P:Prop} (h:P:=by
 simp only [afn,zz,c1,c2,c3,w,bF cY,bF hid,hn,hS,fin]):P:=h
theorem ahl {P:Prop} (h:P:=by
 simp only [qY,Nat.pow_zero,axD,aye] at h
 grind):P:=h
theorem ahk {P:Prop} (h:P:=by
 split
 ·rename_i h;rw [aw4.1 h];rfl
 ·rw [bz]):P:=h
theorem ahj {P:Prop} (h:P:=by
 simp only [RF,zz,c1,c2,c4,w,hz,Int.reduceEq]
 exact .jump h):P:=h
theorem ahi {P:Prop} (h:P:=by
 obtain⟨inf,d,z,U,Z,h3,h4,h5,h6,h7,_⟩:=h.all
 grind):P:=h
theorem j! {P:Prop} (h:P:=by
 exact⟨i,by omega,by omega,rfl⟩):P:=h
theorem aqJ {P:Prop} (h:P:=by
 unfold jk
 repeat' split
 all_goals exact⟨rfl,rfl,rfl,rfl⟩):P:=h
theorem ahh {P:Prop} (h:P:=by
 simp only [NY,zz,t0,t1,hK,hL,bM]
 exact .out rfl):P:=h
theorem ahg {P:Prop} (h:P:=by
 exact .jump (ih.c ⟨fun h=> ⟨by simp,h⟩,fun h=>h.2⟩)):P:=h
theorem ahf {P:Prop} (h:P:=by
 exact⟨_,VL hp hc,by simp only [SB.den,hc]; exact h⟩):P:=h
theorem ahe {P:Prop} (h:P:=by
 exact⟨q1,q2,z,w',by simp [builtin,U],E',Z,h3,h4⟩):P:=h
theorem ahd {P:Prop} (h:P:=by
 rcases sO hh with U|⟨b,U,Z⟩
 all_goals grind):P:=h
theorem ahc {P:Prop} (h:P:=by
 rw [ha] at h
 simp only [qS,zz,h,hR,hs,hO,Int.reduceEq]):P:=h
theorem j_ {P:Prop} (h:P:=by
 simp only [W.den,gQ.den,bG]):P:=h
theorem ahb {P:Prop} (h:P:=by
 simp [Instr.sliceAt,run_underlying hu,Instr.slice,e1,jl]):P:=h
theorem aha {P:Prop} (h:P:=by
 simp_all [oz,eY,cE,cT,cZ,fin]):P:=h
theorem ag9 {P:Prop} (h:P:=by
 exact⟨d2.trans d1,z2.trans z1,E2,Il.trans Nq,f2⟩):P:=h
theorem ag8 {P:Prop} (h:P:=by
 show arr[(E.θ (r.id id)).2+r.vN id+i]?=some u
 grind):P:=h
theorem ag7 {P:Prop} (h:P:=by
 rw [ha] at h
 simp only [qS,zz,h,hR,hs,Int.reduceEq]):P:=h
end Go.As
end
section
namespace Go.As
inductive Tr (α:Type) where
 |nil
 |node (v:Option α) (l r:Tr α)
 deriving Inhabited
noncomputable def Tr.get {α:Type} (t:Tr α) (k:Nat):Option α:=
 Tr.rec (motive:=fun _=>Nat->Option α) (fun _=>none)
  (fun v _ _ il ir k=>Nat.rec (motive:=fun _=>Option α) v (fun k' _=>Bool.rec (motive:=fun _=>Option α) (ir (Nat.div k' 2)) (il (Nat.div k' 2)) (Nat.beq (Nat.mod k' 2) 0)) k) t k
def Tr.val {α:Type}:Tr α->Option α
 | .nil=>none
 | .node v _ _=>v
def Tr.left {α:Type}:Tr α->Tr α
 | .nil=> .nil
 | .node _ l _=>l
def Tr.right {α:Type}:Tr α->Tr α
 | .nil=> .nil
 | .node _ _ r=>r
noncomputable def Tr.mkL {α:Type} (v:Option α) (x r:Tr α):Tr α:=Tr.rec (motive:=fun _=>Tr α) (.node v .nil r) (fun a b c _ _=> .node v (.node a b c) r) x
noncomputable def Tr.mkR {α:Type} (v:Option α) (l x:Tr α):Tr α:=Tr.rec (motive:=fun _=>Tr α) (.node v l .nil) (fun a b c _ _=> .node v l (.node a b c)) x
noncomputable def Tr.Yn {α:Type} (f:Nat):Tr α->Nat->Option α->Tr α:=
 Nat.rec (motive:=fun _=>Tr α->Nat->Option α->Tr α) (fun t _ _=>t)
  (fun _ ih t k x=>Tr.rec (motive:=fun _=>Tr α)
   (Nat.rec (motive:=fun _=>Tr α) (.node x .nil .nil) (fun k' _=>Bool.rec (motive:=fun _=>Tr α) (Tr.mkR none .nil (ih .nil (Nat.div k' 2) x)) (Tr.mkL none (ih .nil (Nat.div k' 2) x) .nil) (Nat.beq (Nat.mod k' 2) 0)) k)
   (fun v l r _ _=>Nat.rec (motive:=fun _=>Tr α) (.node x l r) (fun k' _=>Bool.rec (motive:=fun _=>Tr α) (Tr.mkR v l (ih r (Nat.div k' 2) x)) (Tr.mkL v (ih l (Nat.div k' 2) x) r) (Nat.beq (Nat.mod k' 2) 0)) k) t) f
noncomputable def Tr.put {α:Type} (t:Tr α) (k:Nat) (v:Option α):Tr α:=Tr.Yn (Nat.succ k) t k v
theorem agV (a b:Nat):Nat.beq a b=decide (a=b):=by rw [aw9];simp
theorem Eh {β:Sort _} (a b:β) (c:Nat):Bool.rec (motive:=fun _=>β) a b (Nat.beq c 0)=if c=0 then b else a:=by
 by_cases h:c=0
 ·subst h; rfl
 ·rw [af h];have:Nat.beq c 0=false:=by rw [agV]; simpa using h
  rw [this]
theorem Tr.pJ {α:Type} (v:Option α) (l r:Tr α) (k:Nat) :
 (Tr.node v l r).get k=if k=0 then v else if (k-1) % 2=0 then l.get ((k-1) / 2) else r.get ((k-1) / 2):=by
 cases k with
 |zero=>rfl
 |succ k=> simp only [Nat.add_sub_cancel,Nat.succ_ne_zero,if_false];exact Eh _ _ _
theorem Tr.xY {α:Type} (t:Tr α) (k:Nat) :
 t.get k=if k=0 then t.val else if (k-1) % 2=0 then t.left.get ((k-1) / 2) else t.right.get ((k-1) / 2):=by
 cases t with
 |nil=> have h: ∀j,(Tr.nil:Tr α).get j=none:=fun _=>rfl;simp [h,Tr.val,Tr.left,Tr.right]
 |node v l r=>rw [Tr.pJ]; rfl
theorem Tr.an8 {α:Type} (v:Option α) (x r:Tr α):Tr.mkL v x r= .node v x r:=by cases x<;>rfl
theorem Tr.an7 {α:Type} (v:Option α) (l x:Tr α):Tr.mkR v l x= .node v l x:=by cases x<;>rfl
theorem Tr.Yl {α:Type} (f:Nat) (t:Tr α) (v:Option α):Tr.Yn (f+1) t 0 v= .node v t.left t.right:=by cases t<;>rfl
theorem Tr.Ym {α:Type} (f:Nat) (t:Tr α) (k:Nat) (v:Option α):Tr.Yn (f+1) t (k+1) v=if k % 2=0 then .node t.val (Tr.Yn f t.left (k / 2) v) t.right else .node t.val t.left (Tr.Yn f t.right (k / 2) v):=by rw [<- Tr.an8,<- Tr.an7];cases t<;>exact Eh _ _ _
theorem Tr.abN {α:Type}: ∀(f:Nat) (t:Tr α) (k:Nat) (v:Option α) (j:Nat),k<f->(Tr.Yn f t k v).get j=if j=k then v else t.get j:=by
 intro f
 induction f with
 |zero=>intro t k v j hk; omega
 |succ f ih=>
  intro t k v j hk
  cases k with
  |zero=> rw [Tr.Yl,Tr.pJ,Tr.xY t];split<;>simp_all
  |succ k=>
   rw [Tr.Ym,Tr.xY t j];split
   ·rename_i h;rw [Tr.pJ];by_cases hj:j=0
    ·subst hj; simp
    ·rw [af hj,af hj];by_cases Z:(j-1) % 2=0
     ·rw [ag Z,ag Z,ih _ _ _ _ J];by_cases h3:j=k+1
      ·subst h3; simp
      ·rw [af h3,af J]
     ·rw [af Z,af Z,af (by intro h3; subst h3; simp at Z; omega)]
   ·rename_i h;rw [Tr.pJ];by_cases hj:j=0
    ·subst hj; simp
    ·rw [af hj,af hj];by_cases Z:(j-1) % 2=0
     ·rw [ag Z,ag Z,af (by intro h3; subst h3; simp at Z; omega)]
     ·rw [af Z,af Z,ih _ _ _ _ J];by_cases h3:j=k+1
      ·subst h3; simp
      ·rw [af h3,af J]
theorem Tr.bS {α:Type} (t:Tr α) (k:Nat) (v:Option α) (j:Nat):(t.put k v).get j=if j=k then v else t.get j:=
 Tr.abN (Nat.succ k) t k v j (Nat.lt_succ_self _)
inductive D where
 |i (n:Int)
 |p (a b:D)
 deriving DecidableEq,Inhabited
def zN:Int->Nat
 | .ofNat n=>2*n
 | .negSucc n=>2*n+1
theorem o? {a b:Int} (h:zN a=zN b):a=b:=by
 cases a<;>cases b<;>simp only [zN] at h
 all_goals grind
def qY (a b:Nat):Nat:=2 ^ a*(2*b+1)
theorem CL: ∀{a a' b b':Nat},qY a b=qY a' b'->a=a'/\b=b'
 |0,0,b,b',h=>by simp only [qY,Nat.pow_zero,axD] at h; omega
 |0,a'+1,b,b',h=>by exact ahl
 |a+1,0,b,b',h=>by exact ahl
 |a+1,a'+1,b,b',h=>by
  have U:2 ^ (a+1)*(2*b+1)=2*qY a b:=by unfold qY; rw [aye,ayf (2 ^ a) 2,Nat.mul_assoc]
  have Z:2 ^ (a'+1)*(2*b'+1)=2*qY a' b':=by unfold qY; rw [aye,ayf (2 ^ a') 2,Nat.mul_assoc]
  have h3:qY a b=qY a' b':=by
   have:qY (a+1) b=qY (a'+1) b':=h;unfold qY at this
   grind
  obtain⟨e1,e2⟩:=CL h3
  grind
def D.enc:D->Nat
 | .i n=>2*zN n
 | .p a b=>2*qY a.enc b.enc+1
theorem D.ff: ∀{a b:D},a.enc=b.enc->a=b
 | .i n,.i m,h=>by simp only [D.enc] at h;rw [o? (a:=n) (b:=m) J]
 | .i n,.p a b,h=>by simp only [D.enc] at h; omega
 | .p a b,.i n,h=>by simp only [D.enc] at h; omega
 | .p a b,.p c d,h=>by simp only [D.enc] at h;obtain⟨U,Z⟩:=CL (a:=a.enc) (b:=b.enc) (a':=c.enc) (b':=d.enc) J;rw [D.ff U,D.ff Z]
open Classical in
noncomputable def dec (z:Int):D:=if h: ∃d:D,(d.enc:Int)=z then h.choose else .i 0
def enc (d:D):Int:=(d.enc:Int)
theorem bG (d:D):dec (enc d)=d:=by unfold dec;have h: ∃d':D,(d'.enc:Int)=enc d:=⟨d,rfl⟩;rw [dif_pos h];have:=h.choose_spec;apply D.ff;unfold enc at this;exact Int.ofNat.inj this
theorem ff {a b:D} (h:enc a=enc b):a=b:=by rw [<- bG a,h,bG]
def D.n:D->Int
 | .i n=>n
 | .p _ _=>0
def D.l:D->List D
 | .i _=>[]
 | .p a b=>a::b.l
def dL:List D->D
 |[]=> .i 0
 |a::l=> .p a (dL l)
@[simp] theorem bz: ∀l:List D,(dL l).l=l
 |[]=>rfl
 |a::l=>by simp [dL,D.l,bz l]
theorem HC {a b:List D} (h:dL a=dL b):a=b:=by rw [<- bz a,h,bz]
def D.at (d:D) (i:Int):D:=(d.l[i.toNat]?).getD (.i 0)
def D.V (d:D) (j:Nat):D:=(d.l[j]?).getD (.i 0)
section
variable {d:D}
def rH (l:List UInt8):D:=dL (l.map fun b=> .i (b.toNat:Int))
def vL (s:ByteArray):D:=rH s.data.toList
def lP (l:List Nat):D:=dL (l.map fun b=> .i (Int.ofNat b))
theorem Uz {a b:List UInt8} (h:rH a=rH b):a=b:=by
 have:=HC h
 have O3: ∀{x y:UInt8},(D.i (x.toNat:Int))= .i (y.toNat:Int)->x=y:=by intro x y h;simp only [D.i.injEq,axE] at h;exact UInt8.toNat_inj.1 h
 induction a generalizing b with
 |nil=>cases b with
  |nil=>rfl
  |cons y b=>simp at this
 |cons x a ih=>cases b with
  |nil=>simp at this
  |cons y b=> simp only [aC,List.cons.injEq] at this;rw [O3 this.1,ih (by unfold rH; rw [this.2]) this.2]
theorem Hy {a b:ByteArray} (h:vL a=vL b):a=b:=by
 have:=Uz h
 cases a with
 |mk x=>cases b with
  |mk y=>simp only [ByteArray.mk.injEq] at *; exact Array.toList_inj.1 this
theorem BN (l:List Nat) (h: ∀b∈l,b<256):lP l=rH (l.map UInt8.ofNat):=by unfold lP rH;congr 1;rw [axd];apply axn;intro b hb;have:=h b hb;simp [axe this]
theorem ad3 (s:ByteArray):(vL s).l.length=s.size:=by unfold vL rH;rw [bz,a8];rfl
inductive gQ where
 |len
 |at
 |cell (j:Nat)
 |num
 |mk
 |cons
 |snoc
 |cat
 |take
 |drop
 |set
 |bit
 |norm
 |sub
 |fill
 |idx
 |cnt
 |con
 |slt
 |Ev
 |Ew
 |OE
 |SS
 |rep
 deriving DecidableEq,Inhabited
def fu (d:D) (l:List D):D:=match l with
 |[]=>if d= .i 1 then .i 1 else .i 2
 |l=>dL l
theorem bP (d:D) (l:List D):(fu d l).l=l:=by
 cases l with
 |nil=>simp only [fu]; split<;>rfl
 |cons a l=>simp [fu]
theorem BM {l:List D} (h:l≠[]):fu d l=dL l:=by
 cases l with
 |nil=>exact absurd rfl h
 |cons a l=>rfl
theorem tY (h:d≠.i 1):fu d []= .i 2:=by
 show (if d= .i 1 then D.i 1 else D.i 2)= .i 2
 grind
theorem Zf (h:d≠.i 1) (l:List D):fu d l≠.i 1:=by
 cases l with
 |nil=>rw [tY h]; simp
 |cons a l=>simp [fu,dL]
theorem zQ {l m:List D} (h:d= .i 1->l= []):fu (fu d l) m=fu d m:=by
 cases m with
 |cons a m=>rfl
 |nil=>
  by_cases U:d= .i 1
  ·rw [h U,U]; rfl
  ·rw [tY U,tY (Zf U l)]
def sI (z:Int):List D->Int->Int
 |[],_=> -1
 |d::l,i=>match d with
  | .i n=>if n=z then i else sI z l (i+1)
  |_=>sI z l (i+1)
def HD (l:List D) (z:Int):Int:=sI z l 0
def Di:List D->List D->Bool
 |[],_=>true
 |_::_,[]=>false
 |a::x,b::y=>decide (a=b)&&Di x y
def BO (l x:List D):Bool:=match l with
 |[]=>Di x []
 |a::l=>Di x (a::l)||BO l x
def ad7 (l:List D) (z:Int):Int:=match l with
 |[]=>0
 |d::l=>(if d= .i z then 1 else 0)+ad7 l z
def PM:List D->List D->Bool
 |[],[]=>false
 |[],_::_=>true
 |_::_,[]=>false
 |a::x,b::y=>if a.n<b.n then true else if b.n<a.n then false else PM x y
def dg (ds:List D) (z:Int) (x:D):List D:=if z<0 then ds else ds.set z.toNat x
theorem dM (ds:List D) (z:Int) (x:D):(dg ds z x).length=ds.length:=by
 unfold dg; split
 all_goals grind
theorem qU (ds:List D) (k:Nat) (x:D):dg ds (k:Int) x=ds.set k x:=by unfold dg; rw [af J]; rfl
def Uy:D->D
 | .p k _=>k
 |d=>d
def ad1:D->D
 | .p _ v=>v
 |d=>d
def kU:List D->D->Option D
 |[],_=>none
 |d::l,k=>if Uy d=k then some (ad1 d) else kU l k
def vF:List D->D->D->List D
 |[],k,v=>[.p k v]
 |d::l,k,v=>if Uy d=k then .p k v::l else d::vF l k v
def LB:List D->D->List D
 |[],_=>[]
 |d::l,k=>if Uy d=k then l else d::LB l k
noncomputable def gQ.den (o:gQ) (x y:Int):Int:=match o with
 | .len=>((dec x).l.length:Int)
 | .at=>enc ((dec x).at y)
 | .cell j=>enc ((dec x).V j)
 | .num=>(dec x).n
 | .mk=>enc (.i x)
 | .cons=>enc (.p (dec x) (dec y))
 | .snoc=>enc (dL ((dec x).l++ [dec y]))
 | .cat=>enc (dL ((dec x).l++(dec y).l))
 | .take=>enc (fu (dec x) ((dec x).l.take y.toNat))
 | .drop=>enc (fu (dec x) ((dec x).l.drop y.toNat))
 | .set=>match dec y with
   | .p q v=>enc (dL (dg (dec x).l q.n v))
   |_=>x
 | .bit=>enc (.i (if (dec x).n=0 then 0 else 1))
 | .norm=>enc (dec x)
 | .sub=>enc (dL (((dec x).l.take ((dec y).V 1).n.toNat).drop ((dec y).V 0).n.toNat))
 | .fill=>match dec y with
   | .p q v=>enc (dL ((dec x).l.take q.n.toNat++List.replicate ((dec x).l.length-q.n.toNat) v))
   |_=>x
 | .idx=>HD (dec x).l y
 | .cnt=>ad7 (dec x).l y
 | .con=>if BO (dec x).l (dec y).l then 1 else 0
 | .slt=>if PM (dec x).l (dec y).l then 1 else 0
 | .Ev=>if (kU (dec x).l (dec y)).isSome then 1 else 0
 | .Ew=>enc ((kU (dec x).l (dec y)).getD (.i 0))
 | .OE=>match dec y with
   | .p k v=>enc (dL (vF (dec x).l k v))
   |_=>x
 | .SS=>enc (dL (LB (dec x).l (dec y)))
 | .rep=>enc (dL (List.replicate x.toNat (dec y)))
def gQ.tag:gQ->Nat
 | .len=>0
 | .at=>1
 | .cell j=>j+23
 | .num=>2
 | .mk=>3
 | .cons=>4
 | .snoc=>5
 | .cat=>6
 | .take=>7
 | .drop=>8
 | .set=>9
 | .bit=>10
 | .norm=>11
 | .sub=>12
 | .fill=>13
 | .idx=>14
 | .cnt=>15
 | .con=>16
 | .slt=>17
 | .Ev=>18
 | .Ew=>19
 | .OE=>20
 | .SS=>21
 | .rep=>22
theorem gQ.aff {a b:gQ} (h:a.tag=b.tag):a=b:=by
 cases a<;>cases b<;>simp only [gQ.tag] at h<;>first |rfl|(congr 1; omega)|omega
inductive CK where
 |int (k:IntKind)
 |bool
 |str
 |sl (t:Nat)
 deriving DecidableEq,Inhabited
inductive Row where
 |one (c:CK)
 |many (cs:List CK)
 deriving DecidableEq,Inhabited
def Row.es:Row->Nat
 | .one _=>1
 | .many cs=>cs.length
def rowOf (t:Nat):Row:=match t with
 |0=> .one (.int .i64)
 |1=> .one (.int .i64)
 |2=> .one .str
 |3=> .many [.int .u8,.str,.int .i64,.str,.int .i64]
 |4=> .many [.str,.sl 2,.sl 5]
 |5=> .many [.int .u8,.int .u8,.int .i64,.int .i64,.int .i64,.int .i64,.sl 6]
 |6=> .many [.int .u8,.str,.int .i64,.sl 6]
 |7=> .many [.int .i64,.int .i64,.bool,.int .i64,.sl 0,.sl 0]
 |8=> .many [.int .i64,.sl 0,.int .u8,.int .i64,.int .i64,.int .i64]
 |9=> .many [.int .i64,.int .u8,.int .i64,.int .i64,.int .i64]
 |10=> .one (.sl 0)
 |11=> .many [.int .i64,.int .i64,.int .i64]
 |12=> .many [.int .i64,.int .i64]
 |13=> .many [.int .i64,.int .u8,.int .i64,.int .i64,.int .i64]
 |14=> .one (.int .u8)
 |15=> .one (.sl 0)
 |16=> .many [.sl 7,.sl 8]
 |_=> .one .bool
def mapOf (t:Nat):CK×CK:=match t with
 |0=>(.int .i64,.int .i64)
 |1=>(.str,.int .i64)
 |2=>(.int .i64,.sl 0)
 |_=>(.int .i64,.bool)
def rU (c:CK) (d:D):Prop:=match c with
 | .int _=>d= .i d.n
 | .bool=>d= .i 0\/d= .i 1
 |_=>True
def Nb (cs:List CK) (d:D):Prop:=d=dL d.l/\d.l.length=cs.length/\∀(j:Nat) (c:CK) (x:D),cs[j]?=some c->d.l[j]?=some x->rU c x
def rT (r:Row) (d:D):Prop:=match r with
 | .one c=>rU c d
 | .many cs=>Nb cs d
def xw (r:Row) (d:D):Prop:=d=dL d.l/\(∀x∈d.l,rT r x)/\d.l≠[]
end
end Go.As
end
section
namespace Go.As
noncomputable section
inductive W where
 |lit (n:Int)
 |dH (i:Nat)
 |add (a b:W)
 |sub (a b:W)
 |mul (a b:W)
 |quo (a b:W)
 |rem (a b:W)
 |wrap (k:IntKind) (a:W)
 |yL (b:Nat) (e:W)
 |eS (d:D)
 |op (o:gQ) (a b:W)
 |ap (f:Nat) (a:W)
 deriving DecidableEq,Inhabited
def jG (f:Nat) (z:Int):Nat:=1000+qY f (zN z)*64+63
noncomputable def W.den (ρ:Nat->Int):W->Int
 | .lit n=>n
 | .dH i=>ρ i
 | .add a b=>a.den ρ+b.den ρ
 | .sub a b=>a.den ρ-b.den ρ
 | .mul a b=>a.den ρ*b.den ρ
 | .quo a b=>(a.den ρ).tdiv (b.den ρ)
 | .rem a b=>(a.den ρ).tmod (b.den ρ)
 | .wrap k a=>k.wrap (a.den ρ)
 | .yL b e=>ρ (1000+(e.den ρ).toNat*64+b)
 | .eS d=>enc d
 | .op o a b=>o.den (a.den ρ) (b.den ρ)
 | .ap f a=>ρ (jG f (a.den ρ))
def wP:Int->Int->Bool
 | .ofNat a,.ofNat b=>Nat.beq a b
 | .negSucc a,.negSucc b=>Nat.beq a b
 |_,_=>false
def D.eqb:D->D->Bool
 | .i a,.i b=>wP a b
 | .p a b,.p c d=>match D.eqb a c with |true=>D.eqb b d|false=>false
 |_,_=>false
theorem xU {a b:Int} (h:wP a b=true):a=b:=by cases a<;>cases b<;>simp [wP] at h<;>rw [h]
theorem D.T5: ∀{a b:D},D.eqb a b=true->a=b
 | .i a,.i b,h=>by simp only [D.eqb] at h; rw [xU h]
 | .p a b,.p c d,h=>by
   simp only [D.eqb] at h;split at h
   ·rename_i U; rw [D.T5 U,D.T5 h]
   grind
 | .i _,.p _ _,h=>by simp [D.eqb] at h
 | .p _ _,.i _,h=>by simp [D.eqb] at h
def fH:W->W->Bool
 | .lit a,.lit b=>a == b
 | .dH i,.dH j=>Nat.beq i j
 | .add a b,.add c d=>match fH a c with |true=>fH b d|false=>false
 | .sub a b,.sub c d=>match fH a c with |true=>fH b d|false=>false
 | .mul a b,.mul c d=>match fH a c with |true=>fH b d|false=>false
 | .quo a b,.quo c d=>match fH a c with |true=>fH b d|false=>false
 | .rem a b,.rem c d=>match fH a c with |true=>fH b d|false=>false
 | .wrap k a,.wrap l b=>match fH a b with |true=>decide (k=l)|false=>false
 | .yL i a,.yL j b=>match Nat.beq i j with |true=>fH a b|false=>false
 | .eS a,.eS b=>D.eqb a b
 | .op o a b,.op q c d=>match Nat.beq o.tag q.tag with
   |true=>match fH a c with |true=>fH b d|false=>false
   |false=>false
 | .ap f a,.ap g b=>match Nat.beq f g with |true=>fH a b|false=>false
 |_,_=>false
theorem dj: ∀(a b:W),fH a b=true->a=b
 | .lit a,b,h=>by cases b<;>simp [fH] at h; rw [h]
 | .dH i,b,h=>by cases b<;>simp [fH] at h; rw [h]
 | .add a b,c,h=>by cases c<;>simp only [fH,aR] at h; split at h<;>first |(rename_i U; rw [dj _ _ U,dj _ _ h]; done)|simp at h
 | .sub a b,c,h=>by cases c<;>simp only [fH,aR] at h; split at h<;>first |(rename_i U; rw [dj _ _ U,dj _ _ h]; done)|simp at h
 | .mul a b,c,h=>by cases c<;>simp only [fH,aR] at h; split at h<;>first |(rename_i U; rw [dj _ _ U,dj _ _ h]; done)|simp at h
 | .quo a b,c,h=>by cases c<;>simp only [fH,aR] at h; split at h<;>first |(rename_i U; rw [dj _ _ U,dj _ _ h]; done)|simp at h
 | .rem a b,c,h=>by cases c<;>simp only [fH,aR] at h; split at h<;>first |(rename_i U; rw [dj _ _ U,dj _ _ h]; done)|simp at h
 | .wrap k a,c,h=>by cases c<;>simp only [fH,aR] at h; split at h<;>first |(rename_i U; rw [dj _ _ U,of_decide_eq_true h]; done)|simp at h
 | .yL i a,c,h=>by cases c<;>simp only [fH,aR] at h; split at h<;>first |(rename_i U; rw [ay U,dj _ _ h]; done)|simp at h
 | .eS a,c,h=>by cases c<;>simp only [fH,aR] at h; rw [D.T5 h]
 | .op o a b,c,h=>by
   cases c<;>simp only [fH,aR] at h;split at h
   ·rename_i h0;split at h
    ·rename_i U;rw [gQ.aff (ay h0),dj _ _ U,dj _ _ h]
    grind
   grind
 | .ap f a,c,h=>by cases c<;>simp only [fH,aR] at h; split at h<;>first |(rename_i U; rw [ay U,dj _ _ h]; done)|simp at h
inductive SB where
 |lit (b:Bool)
 |lt (a b:W)
 |le (a b:W)
 |eq (a b:W)
 |not (s:SB)
 |and (a b:SB)
 deriving DecidableEq,Inhabited
noncomputable def SB.den (ρ:Nat->Int):SB->Bool
 | .lit b=>b
 | .lt a b=>decide (a.den ρ<b.den ρ)
 | .le a b=>decide (a.den ρ<=b.den ρ)
 | .eq a b=>a.den ρ == b.den ρ
 | .not s=>!(s.den ρ)
 | .and a b=>a.den ρ&&b.den ρ
def w8 (k:IntKind) (n:Int):Int:=
 match k with
 | .i64=>if -9223372036854775808<=n/\n<=9223372036854775807 then n else k.wrap n
 | .u8=>if 0<=n/\n<=255 then n else k.wrap n
 |_=>k.wrap n
inductive U2 where
 |exact (c:Nat)
 |rest (es:Nat)
 deriving DecidableEq,Inhabited
inductive AV where
 |bool (b:SB)
 |int (k:IntKind) (e:W)
 |str (s:List Nat)
 |ptr (id off:Nat)
 |vE
 |oC (cells:List AV)
 |slice (id off len:Nat) (c:U2)
 |iC
 |ro (cells:List AV) (n:Nat) (full:Bool)
 |map (id:Nat)
 |uC
 |func (fn:Fn) (fs cs:List AV)
 |yq
 |iface (t:Nat) (v:AV)
 |zu
 |agg (cs:List AV)
 |tuple (vs:List AV)
 |Ou (i:Nat)
 |yL (k:Nat) (ks:List IntKind)
 |eS (e:W) (t:Nat)
 |kx (e:W)
 |rY (id:Nat) (n:W) (t:Nat)
 |BJ (id es:Nat) (i:W) (off:Nat)
 |emp
 |vM (id:Nat) (lo n:W) (t:Nat)
 |any
 |Aj (z:W) (t:Nat)
 deriving Inhabited
def AV.undef:AV:=.tuple []
def AV.cells:AV->List AV
 | .agg cs=>cs
 |v=>[v]
def AV.one:AV->Bool
 | .agg _=>false
 | .tuple _=>false
 | .Ou _=>false
 | .any=>false
 |_=>true
inductive eL where
 |cells (cs:List AV) (e:TypeId)
 |map (es:List (AV×AV×Nat)) (clock:Nat)
 |lH (s:List Nat) (pos:Nat)
 |vec (e:W) (t:Nat) (ty:TypeId) (ov:List (W×List AV))
 |mh (e:W) (t:Nat)
 deriving Inhabited
structure Hp where
 m:Tr eL
 next:Nat
 res:Option Nat:=none
 deriving Inhabited
def Hp.get (h:Hp) (i:Nat):Option eL:=h.m.get i
def Hp.put (h:Hp) (i:Nat) (o:eL):Hp:=⟨h.m.put i (some o),h.next,h.res⟩
def Hp.drop (h:Hp) (i:Nat):Hp:=⟨h.m.put i none,h.next,h.res⟩
def Hp.fresh (h:Hp):Nat:=match h.res with
 |none=>h.next
 |some r=>r
def Hp.new (h:Hp) (o:eL):Hp:=match h.res with
 |none=> ⟨h.m.put h.next (some o),h.next+1,none⟩
 |some r=> ⟨h.m.put r (some o),h.next,none⟩
inductive T (α:Type) where
 |fail
 |ret (a:α)
 |split (c:SB) (t f:T α)
 deriving Inhabited
def T.bind {α β:Type}:T α->(α->T β)->T β
 | .fail,_=> .fail
 | .ret a,f=>f a
 | .split c x y,f=> .split c (x.bind f) (y.bind f)
def T.leaf {α:Type} (ρ:Nat->Int):T α->Option α
 | .fail=>none
 | .ret a=>some a
 | .split c x y=>match c.den ρ with
   |true=>x.leaf ρ
   |false=>y.leaf ρ
inductive TK where
 |bool
 |int (k:IntKind)
 |string
 |pointer (e:Nat)
 |slice (e:Nat)
 |array (n e:Nat)
 |map (k e:Nat)
 |struct (fs:List (Nat×Nat×Nat))
 |func
 |iface (plain:Bool)
 |tuple
 deriving DecidableEq,Inhabited
structure TI where
 kind:TK
 size:Nat
 bytes:Nat
 zero:List AV
 eqs:Bool
 own:Option Nat:=none
 deriving Inhabited
def TK.agg (k:TK):Bool:=match k with | .struct _=>true| .array _ _=>true|_=>false
def TI.agg (i:TI):Bool:=i.kind.agg
abbrev TT:=Nat->Option TI
def bytesOf (s:ByteArray):List Nat:=s.data.toList.map (·.toNat)
def hJ:Value->Option AV
 | .bool b=>some (.bool (.lit b))
 | .int k n=>some (.int k (.lit n))
 | .string s=>some (.str (bytesOf s))
 | .pointer none=>some .vE
 | .slice none 0 0=>some .iC
 | .map none=>some .uC
 | .nilFunc=>some .yq
 | .nilIface=>some .zu
 | .func fn f c=>if f.isEmpty&&c.isEmpty then some (.func fn [] []) else none
 |_=>none
def lB:List Value->Option (List AV)
 |[]=>some []
 |v::vs=>match hJ v with
  |none=>none
  |some a=>match lB vs with
   |none=>none
   |some awN=>some (a::awN)
def ofConst:Value->Option AV
 | .agg cs=>(lB cs.toList).map .agg
 | .tuple vs=>(lB vs.toList).map .tuple
 |v=>hJ v
def wB (a b:W):SB:=match fH a b with
 |true=> .lit true
 |false=>match a with
  | .eS _=> .eq b a
  |_=> .eq a b
def I4 (x:W):W:=match x with
 | .op o a _=>match o with
   | .mk=>a
   |_=> .op .num x (.lit 0)
 | .eS d=>match d with
   | .i n=> .lit n
   |_=> .op .num x (.lit 0)
 |_=> .op .num x (.lit 0)
def Cv (x:W):W:=match x with
 | .lit n=> .eS (.i n)
 |x=> .op .mk x (.lit 0)
def kO (j:Nat) (x:W):W:=match x with
 | .op o a b=>match o with
   | .cons=>match j with
     |0=>a
     |j+1=>kO j b
   |_=> .op (.cell j) x (.lit 0)
 |_=> .op (.cell j) x (.lit 0)
def ey (x:W):W:=match x with
 | .op o a _=>match o with
   | .set=>ey a
   |_=> .op .len x (.lit 0)
 | .eS d=> .lit (Int.ofNat d.l.length)
 |_=> .op .len x (.lit 0)
def gq (a b:W):W:=.op .cons a b
def S9 (x:W):Bool:=match x with
 | .eS d=>match d with
   | .i n=>wP n 0
   |_=>false
 |_=>false
def vh (c:CK) (x:W):AV:=match c with
 | .int k=> .int k (I4 x)
 | .bool=> .bool (.not (.eq (I4 x) (.lit 0)))
 | .str=> .kx x
 | .sl t=> .eS x t
def jF:List CK->Nat->W->List AV
 |[],_,_=>[]
 |c::cs,j,x=>vh c (kO j x)::jF cs (j+1) x
def hZ (r:Row) (x:W):List AV:=match r with
 | .one c=>[vh c x]
 | .many cs=>jF cs 0 x
def oA (x:W):W:=match x with
 | .eS d=> .eS d
 | .op o a b=>match o with
   | .cell j=> .op (.cell j) a b
   | .at=> .op .at a b
   |o=> .op .norm (.op o a b) (.lit 0)
 |x=> .op .norm x (.lit 0)
def vq:AV->Option W
 | .str l=>some (.eS (lP l))
 | .kx e=>some e
 |_=>none
def DA (x y:AV):Option SB:=match vq x with
 |none=>none
 |some a=>match vq y with
  |none=>none
  |some b=>some (wB (oA a) (oA b))
def oT (c:CK) (v:AV):Option W:=match c with
 | .int k=>match v with
   | .int k' e=>if k=k' then some (Cv e) else none
   |_=>none
 | .bool=>match v with
   | .bool c=>match c with
     | .lit b=>some (.eS (.i (if b then 1 else 0)))
     | .not d=>match d with
       | .eq x z=>match z with
         | .lit n=>if n=0 then some (.op .bit (Cv x) (.lit 0)) else none
         |_=>none
       |_=>none
     |_=>none
   |_=>none
 | .str=>vq v
 | .sl t=>match v with
   | .eS e t'=>if t=t' then some e else none
   | .iC=>some (.eS (.i 1))
   | .Aj z t'=>if t=t' then some z else none
   | .slice _ _ n _=>match n with
     |0=>some (.eS (.i 2))
     |_=>none
   |_=>none
def jE:List CK->List AV->Option W
 |[],[]=>some (.eS (.i 0))
 |c::cs,v::vs=>match oT c v with
  |none=>none
  |some a=>match jE cs vs with
   |none=>none
   |some b=>some (gq a b)
 |_,_=>none
def sJ (r:Row) (cs:List AV):Option W:=match r with
 | .one c=>match cs with
   |[v]=>oT c v
   |_=>none
 | .many ks=>jE ks cs
def mw (r:Row) (e:W):Nat->List AV->Option W
 |0,[]=>some e
 |0,_::_=>none
 |m+1,cs=>match sJ r (cs.take r.es) with
  |none=>none
  |some x=>mw r (.op .snoc e x) m (cs.drop r.es)
structure St where
 bC:Tr AV
 h:Hp
 pc:List (SB×Bool)
 deriving Inhabited
def St.set (s:St) (t:Nat) (v:AV):St:={ s with bC:=s.bC.put t (some v) }
def St.N6 (s:St) (d:Option Nat) (v:AV):St:=match d with |some t=>s.set t v|none=>s
def ev (s:St):Operand->Option AV
 | .tmp t=>s.bC.get t
 | .const v=>ofConst v
 | .func f=>some (.func (.func f) [] [])
 | .global _=>none
def evs (s:St):List Operand->Option (List AV)
 |[]=>some []
 |x::xs=>match ev s x with
  |none=>none
  |some a=>match evs s xs with
   |none=>none
   |some awN=>some (a::awN)
def pW:SB->SB->Bool
 | .lit a,.lit b=>a == b
 | .lt a b,.lt c d=>match fH a c with |true=>fH b d|false=>false
 | .le a b,.le c d=>match fH a c with |true=>fH b d|false=>false
 | .eq a b,.eq c d=>match fH a c with |true=>fH b d|false=>false
 | .not a,.not b=>pW a b
 | .and a b,.and c d=>match pW a c with |true=>pW b d|false=>false
 |_,_=>false
theorem tC: ∀(a b:SB),pW a b=true->a=b
 | .lit a,b,h=>by cases b<;>simp [pW] at h; rw [h]
 | .lt a b,c,h=>by cases c<;>simp only [pW,aR] at h; split at h<;>first |(rename_i U; rw [dj _ _ U,dj _ _ h]; done)|simp at h
 | .le a b,c,h=>by cases c<;>simp only [pW,aR] at h; split at h<;>first |(rename_i U; rw [dj _ _ U,dj _ _ h]; done)|simp at h
 | .eq a b,c,h=>by cases c<;>simp only [pW,aR] at h; split at h<;>first |(rename_i U; rw [dj _ _ U,dj _ _ h]; done)|simp at h
 | .not a,c,h=>by cases c<;>simp only [pW,aR] at h; rw [tC _ _ h]
 | .and a b,c,h=>by cases c<;>simp only [pW,aR] at h; split at h<;>first |(rename_i U; rw [tC _ _ U,tC _ _ h]; done)|simp at h
def oE (c:SB):List (SB×Bool)->Option Bool
 |[]=>none
 |(d,b)::l=>match pW c d with
  |true=>some b
  |false=>oE c l
def aaR (a:Option Int) (z:Int):Option Int:=match a with
 |none=>some z
 |some y=>some (if y<z then z else y)
def aaQ (a:Option Int) (z:Int):Option Int:=match a with
 |none=>some z
 |some y=>some (if z<y then z else y)
def aaC (a:Option Int) (z:Int):Option Int:=match a with
 |none=>none
 |some y=>some (if y=z then z+1 else y)
def aaE (a:Option Int) (z:Int):Option Int:=match a with
 |none=>none
 |some y=>some (if y=z then z-1 else y)
def Xy (e:W):Option Int×Option Int:=match e with
 | .rem a c=>match c with
   | .lit k=>match a with
     | .add b d=>match d with
       | .lit m=>match b with
         | .rem _ f=>match f with
           | .lit n=>if 0<n/\n=m/\m=k then (some 0,some (n-1)) else (none,none)
           |_=>(none,none)
         |_=>(none,none)
       |_=>(none,none)
     |_=>(none,none)
   |_=>(none,none)
 | .op o _ _=>match o with
   | .len=>(some 0,none)
   |_=>(none,none)
 |_=>(none,none)
def bounds (e:W):List (SB×Bool)->Option Int×Option Int
 |[]=>Xy e
 |(c,v)::l=>match c with
  | .lt x y=>match x with
    | .lit z=>match fH y e with
      |false=>bounds e l
      |true=>match bounds e l with
       |(lo,hi)=>match v with
        |true=>(aaR lo (z+1),hi)
        |false=>(lo,aaQ hi z)
    |x=>match y with
     | .lit z=>match fH x e with
       |false=>bounds e l
       |true=>match bounds e l with
        |(lo,hi)=>match v with
         |true=>(lo,aaQ hi (z-1))
         |false=>(aaR lo z,hi)
     |_=>bounds e l
  | .eq x y=>match y with
    | .lit z=>match v with
      |false=>match fH x e with
       |false=>bounds e l
       |true=>match bounds e l with
        |(lo,hi)=>(aaC lo z,aaE hi z)
      |true=>match fH x e with
       |false=>bounds e l
       |true=>(some z,some z)
    |_=>bounds e l
  |_=>bounds e l
def sL (e:W) (pc:List (SB×Bool)):Option Int×Option Int:=match e with
 | .wrap k s=>match k with
   | .i64=>match s with
     | .add b d=>match d with
       | .lit c=>match bounds b pc with
         |(some lo,some hi)=>if -9223372036854775808<=lo+c/\hi+c<=9223372036854775807 then (match bounds e pc with
          |(l2,Z)=>(aaR l2 (lo+c),aaQ Z (hi+c))) else bounds e pc
         |_=>bounds e pc
       |_=>bounds e pc
     |_=>bounds e pc
   |_=>bounds e pc
 |_=>bounds e pc
def V0 (a b:W) (pc:List (SB×Bool)):Option Bool:=match oE (.eq a b) pc with
 |some v=>some v
 |none=>oE (.eq b a) pc
def decLt (pc:List (SB×Bool)) (a b:W):Option Bool:=match oE (.lt a b) pc with
 |some v=>some v
 |none=>match a with
  | .lit z=>match sL b pc with
    |(lo,hi)=>match lo with
     |some l=>if z<l then some true else match hi with
      |some h=>if h<=z then some false else none
      |none=>none
     |none=>match hi with
      |some h=>if h<=z then some false else none
      |none=>none
  |a=>match b with
   | .lit z=>match sL a pc with
     |(lo,hi)=>match hi with
      |some h=>if h<z then some true else match lo with
       |some l=>if z<=l then some false else none
       |none=>none
      |none=>match lo with
       |some l=>if z<=l then some false else none
       |none=>none
   |b=>match V0 a b pc with
    |some true=>some false
    |some false=>match oE (.lt b a) pc with
     |some v=>some !v
     |none=>none
    |none=>match oE (.lt b a) pc with
     |some true=>some false
     |_=>none
def decEq (pc:List (SB×Bool)) (a b:W):Option Bool:=match V0 a b pc with
 |some v=>some v
 |none=>match b with
  | .lit z=>match sL a pc with
    |(lo,hi)=>match lo with
     |some l=>if z<l then some false else match hi with
      |some h=>if h<z then some false else if l=z/\h=z then some true else none
      |none=>none
     |none=>match hi with
      |some h=>if h<z then some false else none
      |none=>none
  |b=>match oE (.lt a b) pc with
   |some true=>some false
   |some false=>match oE (.lt b a) pc with
    |some v=>some !v
    |none=>none
   |none=>match oE (.lt b a) pc with
    |some true=>some false
    |_=>none
def Fk (pc:List (SB×Bool)) (c:SB):Option Bool:=
 match c with
 | .lit b=>some b
 | .lt a b=>decLt pc a b
 | .eq a b=>decEq pc a b
 |c=>oE c pc
def kI (pc:List (SB×Bool)) (c:SB):Option Bool:=
 match c with
 | .not s=>(Fk pc s).map (!·)
 |c=>Fk pc c
def mg {α:Type} (s:St) (c:SB) (f:St->Bool->T α):T α:=
 match kI s.pc c with
 |some b=>f s b
 |none=>match c with
  | .not d=> .split d (f { s with pc:=(d,true)::s.pc } false) (f { s with pc:=(d,false)::s.pc } true)
  |c=> .split c (f { s with pc:=(c,true)::s.pc } true) (f { s with pc:=(c,false)::s.pc } false)
def aad (k:IntKind):W->W->W
 | .lit x,.lit y=> .lit (w8 k (x+y))
 |a,b=> .wrap k (.add a b)
def Vy (k:IntKind):W->W->W
 | .lit x,.lit y=> .lit (w8 k (x-y))
 |a,b=> .wrap k (.sub a b)
def aac (k:IntKind):W->W->W
 | .lit x,.lit y=> .lit (w8 k (x*y))
 |a,b=> .wrap k (.mul a b)
def iM:W->W->SB
 | .lit x,.lit y=> .lit (decide (x<y))
 |a,b=> .lt a b
def afA:W->W->SB
 | .lit x,.lit y=> .lit (decide (x<=y))
 |a,b=> .not (.lt b a)
def wC:W->W->SB
 | .lit x,.lit y=> .lit (x == y)
 | .lit x,b=> .eq b (.lit x)
 |a,b=>match fH a b with
  |true=> .lit true
  |false=> .eq a b
def yH:SB->SB
 | .lit b=> .lit !b
 | .not s=>s
 |s=> .not s
def aaf:SB->SB->SB
 | .lit true,b=>b
 | .lit false,_=> .lit false
 |a,.lit true=>a
 |_,.lit false=> .lit false
 |a,b=> .and a b
def bytesLess:List Nat->List Nat->Bool
 |_,[]=>false
 |[],_::_=>true
 |a::x,b::y=>if a.blt b then true else if a.beq b then bytesLess x y else false
def ij:List Nat->List Nat->Bool
 |[],[]=>true
 |a::x,b::y=>if a.beq b then ij x y else false
 |_,_=>false
def N1 (op:BinOp) (x y:List Nat):Option AV:=
 match op with
 | .add=>if x.length+y.length<=1000000 then some (.str (x++y)) else none
 | .eql=>some (.bool (.lit (ij x y)))
 | .neq=>some (.bool (.lit !(ij x y)))
 | .lss=>some (.bool (.lit (bytesLess x y)))
 | .leq=>some (.bool (.lit (bytesLess x y||ij x y)))
 | .gtr=>some (.bool (.lit !(bytesLess x y||ij x y)))
 | .geq=>some (.bool (.lit !(bytesLess x y)))
 |_=>none
def Wj (op:BinOp) (k:IntKind) (a b:W):Option AV:=
 match op with
 | .add=>some (.int k (aad k a b))
 | .sub=>some (.int k (Vy k a b))
 | .mul=>some (.int k (aac k a b))
 | .quo=>match a,b with
   | .lit x,.lit y=>if y=0 then none else some (.int k (.lit (w8 k (x.tdiv y))))
   |a,.lit y=>if y=0 then none else some (.int k (.wrap k (.quo a (.lit y))))
   |_,_=>none
 | .rem=>match a,b with
   | .lit x,.lit y=>if y=0 then none else some (.int k (.lit (x.tmod y)))
   |a,.lit y=>if y=0 then none else some (.int k (.rem a (.lit y)))
   |_,_=>none
 | .shr=>match a,b with
   | .lit x,.lit y=>if y<0 then none else some (.int k (.lit (x.fdiv (2 ^ (min y.toNat k.bits)))))
   |_,_=>none
 | .eql=>some (.bool (wC a b))
 | .neq=>some (.bool (yH (wC a b)))
 | .lss=>some (.bool (iM a b))
 | .leq=>some (.bool (afA a b))
 | .gtr=>some (.bool (iM b a))
 | .geq=>some (.bool (afA b a))
 |_=>none
def fI {α:Type}:List α->Nat->Option α
 |[],_=>none
 |x::_,0=>some x
 |_::xs,n+1=>fI xs n
def Fh (a b:SB):Option SB:=
 match a,b with
 | .lit x,.lit y=>some (.lit (x == y))
 | .lit x,b=>some (if x then b else yH b)
 |a,.lit y=>some (if y then a else yH a)
 |a,b=>some (.not (.and (.not (.and a b)) (.not (.and (.not a) (.not b)))))
def T6 (k:TK) (x y:AV):Option SB:=
 match k with
 | .int _=>match x,y with
   | .int k a,.int k' b=>if k=k' then some (wC a b) else none
   |_,_=>none
 | .string=>match x,y with
   | .str a,.str b=>some (.lit (ij a b))
   |x,y=>DA x y
 | .bool=>match x,y with
   | .bool a,.bool b=>Fh a b
   |_,_=>none
 |_=>none
def abY (tt:TT) (xs ys:List AV):List (Nat×Nat×Nat)->Option SB
 |[]=>some (.lit true)
 |(off,ft,_)::fs=>match tt ft with
  |none=>none
  |some i=>match fI xs off,fI ys off with
   |some x,some y=>match T6 i.kind x y with
    |none=>none
    |some c=>match abY tt xs ys fs with
     |none=>none
     |some d=>some (aaf c d)
   |_,_=>none
def Ff (tt:TT) (t:Nat) (xs ys:List AV):Option SB:=
 match tt t with
 |none=>none
 |some i=>match i.kind with
  | .struct fs=>if i.eqs then abY tt xs ys fs else none
  |_=>none
def kV:AV->Option Int
 | .int _ (.lit n)=>some n
 |_=>none
def isNil (k:TK) (x:AV):Option Bool:=
 match k with
 | .slice _=>match x with
   | .iC=>some true
   | .slice _ _ _ _=>some false
   | .ro _ _ _=>some false
   | .rY _ _ _=>some false
   |_=>none
 | .pointer _=>match x with
   | .vE=>some true
   | .ptr _ _=>some false
   | .oC _=>some false
   |_=>none
 | .map _ _=>match x with
   | .uC=>some true
   | .map _=>some false
   |_=>none
 |_=>none
def ao4 (k:TK) (x y:AV):Option SB:=
 match k with
 | .bool=>match x,y with
   | .bool a,.bool b=>Fh a b
   |_,_=>none
 |k=>match isNil k x,isNil k y with
  |some true,some b=>some (.lit b)
  |some false,some true=>some (.lit false)
  |_,_=>none
def K8 (op:BinOp) (c:Option SB):Option AV:=match c with
 |none=>none
 |some c=>match op with
  | .eql=>some (.bool c)
  | .neq=>some (.bool (.not c))
  |_=>none
def abW (tt:TT) (t:Nat) (op:BinOp) (x y:AV):Option AV:=
 match x with
 | .int k a=>match y with
   | .int k' b=>match op with
     | .shr=>Wj op k a b
     | .shl=>none
     |_=>if k=k' then Wj op k a b else none
   |_=>none
 | .str a=>match y with
   | .str b=>N1 op a b
   | .kx e=>K8 op (DA (.str a) (.kx e))
   |_=>none
 | .kx e=>K8 op (DA (.kx e) y)
 |_=>match tt t with
  |none=>none
  |some i=>match op,ao4 i.kind x y with
   | .eql,some c=>some (.bool c)
   | .neq,some c=>some (.bool (yH c))
   |_,_=>none
def ao2 (op:UnOp) (x:AV):Option AV:=
 match op,x with
 | .not,.bool b=>some (.bool (yH b))
 | .neg,.int k e=>some (.int k (Vy k (.lit 0) e))
 |_,_=>none
def iS {α:Type}:Nat->List α->Option (List α)
 |0,_=>some []
 |_+1,[]=>none
 |n+1,x::xs=>match iS n xs with
  |some l=>some (x::l)
  |none=>none
def fc {α:Type}:Nat->List α->Option (List α)
 |0,l=>some l
 |_+1,[]=>none
 |n+1,_::xs=>fc n xs
def ep:List AV->Nat->List AV->Option (List AV)
 |cs,0,[]=>some cs
 |[],0,_::_=>none
 |_::cs,0,v::vs=>match ep cs 0 vs with
  |some l=>some (v::l)
  |none=>none
 |[],_+1,_=>none
 |c::cs,n+1,vs=>match ep cs n vs with
  |some l=>some (c::l)
  |none=>none
def tl:List AV->Bool
 |[]=>true
 |v::vs=>v.one&&tl vs
def nz (h:Hp) (p:AV) (n:Nat):Option (List AV):=
 match p with
 | .ptr id off=>match h.get id with
   |some (.cells cs _)=>match fc off cs with
    |some l=>iS n l
    |none=>none
   |_=>none
 | .oC cs=>iS n cs
 |_=>none
def Db (tt:TT) (t:Nat) (p:AV) (h:Hp):Option AV:=
 match tt t with
 |none=>none
 |some i=>match i.agg with
  |true=>(nz h p i.size).map .agg
  |false=>match nz h p 1 with
   |some (v::_)=>some v
   |_=>none
def Ma (tt:TT) (t:Nat) (p v:AV) (h:Hp):Option Hp:=
 match tt t with
 |none=>none
 |some i=>
  if v.cells.length=i.size&&tl v.cells then
   match p with
   | .ptr id off=>match h.get id with
     |some (.cells cs e)=>match ep cs off v.cells with
      |some mD=>some (h.put id (.cells mD e))
      |none=>none
     |_=>none
   |_=>none
  else none
def uZ (place:Nat->Option (Nat×Nat)) (cs:List AV):List (Nat×AV)->Option (List AV)
 |[]=>some cs
 |(i,v)::rest=>match place i with
  |none=>none
  |some (off,size)=>
   if v.cells.length=size&&tl v.cells then
    match ep cs off v.cells with
    |some mD=>uZ place mD rest
    |none=>none
   else none
def iT (tt:TT) (t:Nat):Option Nat:=(tt t).map (·.size)
def Mq (tt:TT) (t:Nat) (parts:List (Nat×AV)):Option AV:=
 match tt t with
 |some i=>match i.kind with
  | .struct fs=>(uZ (fun j=>(fI fs j).map fun f=>(f.1,f.2.2)) i.zero parts).map .agg
  | .array _ e=>match iT tt e with
    |some s=>(uZ (fun j=>some (j*s,s)) i.zero parts).map .agg
    |none=>none
  |_=>none
 |none=>none
def dR {α:Type} (l:List α):Nat->List α
 |0=>[]
 |n+1=>l++dR l n
def u6 (tt:TT) (t len:Nat) (parts:List (Nat×AV)) (h:Hp):Option (AV×Hp):=
 match tt t with
 |some i=>match i.kind with
  | .slice e=>match tt e with
    |some ie=>
     if len<=1000/\ie.size<=1000/\ie.zero.length=ie.size then
      match uZ (fun j=>some (j*ie.size,ie.size)) (dR ie.zero len) parts with
      |some cs=>some (.slice h.fresh 0 len (.exact len),h.new (.cells cs e))
      |none=>none
     else none
    |none=>none
  |_=>none
 |none=>none
def sH (tt:TT) (t:Nat) (l c:AV) (h:Hp):Option (AV×Hp):=
 match kV l with
 |some (.ofNat n)=>match kV c with
  |some (.ofNat m)=>match tt t with
   |some i=>match i.kind with
    | .slice e=>match tt e with
      |some ie=>
       if n<=m/\m<=1000/\ie.size<=1000/\ie.bytes<=1000000/\ie.zero.length=ie.size then
        some (.slice h.fresh 0 n (.exact m),h.new (.cells (dR ie.zero m) e))
       else none
      |none=>none
    |_=>none
   |none=>none
  |_=>none
 |_=>none
def VW (off:Nat) (x:AV):Option AV:=match x with
 | .ptr id o=>some (.ptr id (o+off))
 | .BJ id es i o=>some (.BJ id es i (o+off))
 | .oC cs=>(fc off cs).map .oC
 |_=>none
def partOf (i:TI) (l:List AV):Option AV:=match i.agg with
 |true=>(iS i.size l).map .agg
 |false=>match l with
  |v::_=>some v
  |[]=>none
def xg (tt:TT) (t:Nat) (p:AV) (f:Nat):Option AV:=
 match tt t with
 |some i=>match i.kind with
  | .struct fs=>match fI fs f with
    |some (off,_,size)=>match size with
     |0=>none
     |_=>VW off p
    |none=>none
  |_=>none
 |none=>none
def Mi (tt:TT) (t:Nat) (x:AV) (f:Nat):Option AV:=
 match tt t with
 |some i=>match i.kind with
  | .struct fs=>match fI fs f with
    |some (off,ft,_)=>match tt ft,x with
     |some fi,.agg cs=>match fc off cs with
      |some l=>partOf fi l
      |none=>none
     |_,_=>none
    |none=>none
  |_=>none
 |none=>none
def pL (tt:TT) (t:Nat) (x ix:AV):Option AV:=
 match kV ix with
 |some (.ofNat i)=>match tt t with
  |some ti=>match ti.kind with
   | .array n e=>if i<n then match iT tt e with
    |some s=>VW (i*s) x
    |none=>none
    else none
   | .slice e=>match iT tt e with
     |some s=>match x with
      | .slice id o len _=>if i<len then some (.ptr id (o+i*s)) else none
      | .ro cs n _=>if i<n then (fc (i*s) cs).map .oC else none
      |_=>none
     |none=>none
   |_=>none
  |none=>none
 |_=>none
def wQ (k:Nat) (e:W):List IntKind->Nat->List AV
 |[],_=>[]
 |kd::ks,j=> .int kd (.yL (k*8+j) e)::wQ k e ks (j+1)
def Mg (tt:TT) (pc:List (SB×Bool)) (t k:Nat) (ks:List IntKind) (ix:AV):Option AV:=
 match ix with
 | .int _ e=>match tt t with
   |some ti=>match ti.kind with
    | .slice el=>match iT tt el with
      |some s=>if s=ks.length/\k<8/\s<=8 then match kI pc (iM e (.lit 0)),kI pc (iM e (.dH (900+k))) with
       |some false,some true=>some (.oC (wQ k e ks 0))
       |_,_=>none
       else none
      |none=>none
    |_=>none
   |none=>none
 |_=>none
def BE (tt:TT) (t:Nat) (x ix:AV):Option AV:=
 match kV ix with
 |some (.ofNat i)=>match tt t with
  |some ti=>match ti.kind,x with
   | .string,.str s=>(fI s i).map fun b=> .int .u8 (.lit (Int.ofNat b))
   | .array n e,.agg cs=>if i<n then match tt e with
    |some ie=>match fc (i*ie.size) cs with
     |some l=>partOf ie l
     |none=>none
    |none=>none
    else none
   |_,_=>none
  |none=>none
 |_=>none
def pg (x:Option AV) (d:Nat) (y:Nat):Option Nat:=
 match x with
 |none=>if d<=y then some d else none
 |some v=>match kV v with
  |some (.ofNat i)=>if i<=y then some i else none
  |_=>none
def Mb (tt:TT) (t:Nat) (x:AV) (lo hi mx:Option AV):Option AV:=
 match tt t with
 |none=>none
 |some ti=>match ti.kind with
  | .string=>match x,mx with
    | .str s,none=>match pg hi s.length s.length with
      |some h=>match pg lo 0 h with
       |some l=>some (.str ((s.take h).drop l))
       |none=>none
      |none=>none
    |_,_=>none
  | .slice e=>match iT tt e with
    |none=>none
    |some s=>match x with
     | .iC=>if mx.isSome&&hi.isNone then none else match pg hi 0 0,pg lo 0 0,pg mx 0 0 with
       |some _,some _,some _=>some .iC
       |_,_,_=>none
     | .slice id o len (.exact c)=>if mx.isSome&&hi.isNone then none else match pg mx c c with
       |none=>none
       |some m=>match pg hi len m with
        |none=>none
        |some h=>match pg lo 0 h with
         |none=>none
         |some l=>some (.slice id (o+l*s) (h-l) (.exact (m-l)))
     | .slice id o len (.rest es)=>match mx with
       |none=>match pg hi len len with
        |none=>none
        |some h=>match pg lo 0 h with
         |none=>none
         |some l=>if es=s then some (.slice id (o+l*s) (h-l) (.rest es)) else none
       |some _=>match hi,pg mx 0 len with
        |none,_=>none
        |_,none=>none
        |some _,some m=>match pg hi 0 m with
         |none=>none
         |some h=>match pg lo 0 h with
          |none=>none
          |some l=>some (.slice id (o+l*s) (h-l) (.exact (m-l)))
     | .ro cs n full=>match mx with
       |none=>match pg hi n n with
        |none=>none
        |some h=>match pg lo 0 h with
         |none=>none
         |some l=>match fc (l*s) cs with
          |none=>none
          |some d=>match iS ((h-l)*s) d with
           |none=>none
           |some d'=>some (.ro d' (h-l) (full&&h == n))
       |some _=>match hi,pg mx 0 n with
        |none,_=>none
        |_,none=>none
        |some _,some m=>match pg hi 0 m with
         |none=>none
         |some h=>match pg lo 0 h with
          |none=>none
          |some l=>match fc (l*s) cs with
           |none=>none
           |some d=>match iS ((h-l)*s) d with
            |none=>none
            |some d'=>some (.ro d' (h-l) (h == m))
     |_=>none
  | .array n e=>match iT tt e with
    |none=>none
    |some s=>match x with
     | .ptr id o=>if mx.isSome&&hi.isNone then none else match pg mx n n with
       |none=>none
       |some m=>match pg hi n m with
        |none=>none
        |some h=>match pg lo 0 h with
         |none=>none
         |some l=>some (.slice id (o+l*s) (h-l) (.exact (m-l)))
     |_=>none
  |_=>none
def Hb (tt:TT) (t:Nat) (x:AV) (lo hi mx:Option AV) (h:Hp):Option AV:=
 match mx with
 |some _=>none
 |none=>match tt t with
  |none=>none
  |some ti=>match ti.kind with
   | .slice e=>match iT tt e with
     |none=>none
     |some s=>match x with
      | .slice id o len (.rest es)=>if es=s/\0<s then match h.get id with
       |some (.cells cs _)=>match pg hi len ((cs.length-o) / s) with
        |none=>none
        |some hh=>match pg lo 0 hh with
         |none=>none
         |some l=>some (.slice id (o+l*s) (hh-l) (.rest es))
       |_=>none
       else none
      |_=>none
   |_=>none
def xm:List AV->Option (List Nat)
 |[]=>some []
 | .int .u8 (.lit (.ofNat b))::xs=>if b<256 then match xm xs with
  |some l=>some (b::l)
  |none=>none
  else none
 |_::_=>none
def qO (tt:TT) (sT dT:Nat) (x:AV) (h:Hp):Option (AV×Hp):=
 match tt sT with
 |none=>none
 |some j=>match tt dT with
 |some i=>match i.kind with
  | .int k=>match x with
    | .int _ (.lit n)=>some (.int k (.lit (w8 k n)),h)
    | .int _ e=>some (.int k (.wrap k e),h)
    |_=>none
  | .string=>match j.kind with
   | .string=>match x with
     | .str s=>some (.str s,h)
     |_=>none
   | .slice e=>match tt e with
     |none=>none
     |some ie=>if ie.kind= .int .u8/\ie.size=1 then match x with
      | .iC=>some (.str [],h)
      | .slice id o len _=>match nz h (.ptr id o) len with
        |some cs=>(xm cs).map fun l=>(.str l,h)
        |none=>none
      |_=>none
      else none
   |_=>none
  | .slice e=>match tt e with
    |none=>none
    |some ie=>if ie.kind= .int .u8/\j.kind= .string then match x with
     | .str s=>some (.slice h.fresh 0 s.length (.rest 1),h.new (.cells (s.map fun c=> .int .u8 (.lit (Int.ofNat c))) e))
     |_=>none
     else none
  |_=>none
 |none=>none
def Wb (pc:List (SB×Bool)) (kk:TK) (a b:AV):Option Bool:=
 match kk with
 | .int _=>match a,b with
   | .int k x,.int k' y=>if k=k' then kI pc (wC x y) else none
   |_,_=>none
 | .string=>match a,b with
   | .str x,.str y=>some (ij x y)
   |x,y=>match DA x y with
    |some c=>kI pc c
    |none=>none
 | .bool=>match a,b with
   | .bool (.lit x),.bool (.lit y)=>some (x == y)
   |_,_=>none
 |_=>none
def D6 (pc:List (SB×Bool)) (kk:TK) (k:AV):List (AV×AV×Nat)->Nat->Option (Option (Nat×AV))
 |[],_=>some none
 |(k',v,_)::es,i=>match Wb pc kk k k' with
  |some true=>some (some (i,v))
  |some false=>D6 pc kk k es (i+1)
  |none=>none
def tA (k v:AV):List (AV×AV×Nat)->Nat->List (AV×AV×Nat)
 |[],_=>[]
 |(_,_,b)::es,0=>(k,v,b)::es
 |e::es,n+1=>e::tA k v es n
def rF {α:Type}:List α->Nat->List α
 |[],_=>[]
 |_::xs,0=>xs
 |x::xs,n+1=>x::rF xs n
def xT (tt:TT) (t:Nat):Option TK:=match tt t with
 |some i=>match i.kind with
  | .int k=>some (.int k)
  | .string=>some .string
  | .bool=>some .bool
  |_=>none
 |none=>none
def zeroOf (i:TI):Option AV:=
 match i.agg with
 |true=>some (.agg i.zero)
 |false=>match i.zero with
  |[v]=>some v
  |_=>none
def LA (m:AV) (h:Hp):Option (List (AV×AV×Nat)):=match m with
 | .uC=>some []
 | .map id=>match h.get id with
   |some (.map es _)=>some es
   |_=>none
 |_=>none
def Hf (tt:TT) (pc:List (SB×Bool)) (t:Nat) (m k:AV) (ok:Bool) (h:Hp):Option AV:=
 match tt t with
 |some ti=>match ti.kind with
  | .map kt et=>
    match xT tt kt with
    |none=>none
    |some kk=>
     match tt et with
     |none=>none
     |some ie=>
      match LA m h with
      |none=>none
      |some es=>match D6 pc kk k es 0 with
       |none=>none
       |some (some (_,v))=>some (if ok then .tuple [v,.bool (.lit true)] else v)
       |some none=>match zeroOf ie with
        |none=>none
        |some z=>some (if ok then .tuple [z,.bool (.lit false)] else z)
  |_=>none
 |none=>none
def sG (tt:TT) (pc:List (SB×Bool)) (t:Nat) (m k v:AV) (h:Hp):Option Hp:=
 match tt t with
 |some ti=>match ti.kind with
  | .map kt _=>
    match xT tt kt with
    |none=>none
    |some kk=>match m with
     | .map id=>match h.get id with
       |some (.map es c)=>match D6 pc kk k es 0 with
        |none=>none
        |some (some (i,_))=>some (h.put id (.map (tA k v es i) c))
        |some none=>some (h.put id (.map (es++ [(k,v,c)]) (c+1)))
       |_=>none
     |_=>none
  |_=>none
 |none=>none
def Hi (tt:TT) (pc:List (SB×Bool)) (t:Nat) (m k:AV) (h:Hp):Option Hp:=
 match tt t with
 |some ti=>match ti.kind with
  | .map kt _=>
    match xT tt kt with
    |none=>none
    |some kk=>match m with
     | .uC=>some h
     | .map id=>match h.get id with
       |some (.map es c)=>match D6 pc kk k es 0 with
        |none=>none
        |some (some (i,_))=>some (h.put id (.map (rF es i) c))
        |some none=>some (h.put id (.map es c))
       |_=>none
     |_=>none
  |_=>none
 |none=>none
def abU (tt:TT) (t:Nat) (x:AV) (h:Hp):Option AV:=
 let n (k:Nat):Option AV:=some (.int .i64 (.lit (Int.ofNat k)))
 match tt t with
 |some ti=>match ti.kind with
  | .string=>match x with
    | .str s=>n s.length
    | .kx e=>some (.int .i64 (ey e))
    |_=>none
  | .slice _=>match x with
    | .iC=>n 0
    | .emp=>n 0
    | .Aj _ _=>n 0
    | .slice _ _ len _=>n len
    | .ro _ k _=>n k
    | .eS e _=>some (.int .i64 (ey e))
    | .rY _ e _=>some (.int .i64 e)
    | .vM _ _ e _=>some (.int .i64 e)
    | .yL k _=>some (.int .i64 (.dH (900+k)))
    |_=>none
  | .array k _=>n k
  | .map _ _=>match x with
    | .uC=>n 0
    | .map id=>match h.get id with
      |some (.map es _)=>n es.length
      |some (.mh e _)=>some (.int .i64 (ey e))
      |_=>none
    |_=>none
  |_=>none
 |none=>none
def tw (s:Nat) (x:AV) (h:Hp):Option (Nat×List AV):=
 match x with
 | .iC=>some (0,[])
 | .slice id o len _=>(nz h (.ptr id o) (len*s)).map fun l=>(len,l)
 | .ro cs n _=>(iS (n*s) cs).map fun l=>(n,l)
 | .str b=>if s=1 then some (b.length,b.map fun c=> .int .u8 (.lit (Int.ofNat c))) else none
 |_=>none
def oF (ie:TI) (e len m:Nat) (cs:List AV) (h:Hp):Option (AV×Hp):=
 if (len+m)*ie.bytes<=140737488355328 then some (.slice h.fresh 0 (len+m) (.rest ie.size),h.new (.cells cs e)) else none
def rS (ie:TI) (e m:Nat) (news:List AV) (x:AV) (h:Hp):Option (AV×Hp):=
 match x with
 | .iC=>if m=0 then some (.iC,h) else oF ie e 0 m news h
 | .slice id o len (.exact c)=>
   if len+m<=c then
    match h.get id with
    |some (.cells cs e')=>match ep cs (o+len*ie.size) news with
     |some mD=>some (.slice id o (len+m) (.exact c),h.put id (.cells mD e'))
     |none=>none
    |_=>none
   else match nz h (.ptr id o) (len*ie.size) with
    |some old=>oF ie e len m (old++news) h
    |none=>none
 | .slice id o len (.rest es)=>
   if es=ie.size then
    match h.get id with
    |some (.cells cs e')=>
     if o+(len+m)*ie.size<=cs.length then
      match ep cs (o+len*ie.size) news with
      |some mD=>some (.slice id o (len+m) (.rest es),h.put id (.cells mD e'))
      |none=>none
     else if o+len*ie.size=cs.length/\e'=e then
      match fc o cs with
      |some old=>oF ie e len m (old++news) (h.drop id)
      |none=>none
     else none
    |_=>none
   else none
 | .ro cs n full=>
   if m=0 then some (.ro cs n full,h)
   else if full then match iS (n*ie.size) cs with
    |some old=>oF ie e n m (old++news) h
    |none=>none
   else none
 |_=>none
def Hj (tt:TT) (t t2:Nat) (x y:AV) (h:Hp):Option (AV×Hp):=
 match tt t with
 |some ti=>match ti.kind with
  | .slice e=>match tt e with
    |some ie=>match tt t2 with
     |none=>none
     |some X0=>match X0.kind with
      | .int _=>none
      |_=>
       if ie.size=0\/ie.bytes=0\/¬ie.zero.length=ie.size then none else
       match tw ie.size y h with
       |none=>none
       |some (m,news)=>rS ie e m news x h
    |none=>none
  |_=>none
 |none=>none
def Mm (tt:TT) (t:Nat) (x:AV) (h:Hp):Option Hp:=
 match tt t with
 |some ti=>match ti.kind with
  | .slice e=>match tt e with
    |some ie=>match x with
     | .iC=>some h
     | .Aj _ _=>some h
     | .slice id o len _=>match len with
       |0=>some h
       |_=>match ie.zero with
        |[]=>none
        |_=>match h.get id with
         |some (.cells cs e')=>match ep cs o (dR ie.zero len) with
          |some mD=>some (h.put id (.cells mD e'))
          |none=>none
         |_=>none
     |_=>none
    |none=>none
  |_=>none
 |none=>none
def Mc (tt:TT) (t:Nat) (x:AV) (h:Hp):Option (AV×Hp):=
 match tt t with
 |some ti=>match ti.kind with
  | .string=>match x with
    | .str b=>some (.ptr h.fresh 0,h.new (.lH b 0))
    |_=>none
  |_=>none
 |none=>none
def TO (x:AV) (isS:Bool) (h:Hp):Option (AV×Hp):=
 match isS with
 |false=>none
 |true=>match x with
  | .ptr id 0=>match h.get id with
    |some (.lH b p)=>match fI b p with
     |none=>some (.tuple [.bool (.lit false)],h)
     |some c=>if c<128 then some (.tuple [.bool (.lit true),.int .i64 (.lit (Int.ofNat p)),.int .i32 (.lit (Int.ofNat c))],h.put id (.lH b (p+1))) else none
    |_=>none
  |_=>none
def uX (mx:Bool):List AV->W->IntKind->St->T (AV×St)
 |[],a,k,s=> .ret (.int k a,s)
 | .int _ b::xs,a,k,s=>mg s (if mx then iM a b else iM b a) fun s c=>if c then uX mx xs b k s else uX mx xs a k s
 |_,_,_,_=> .fail
def anQ (s:St) (k:IntKind) (e d:W):T (AV×St):=mg s (wC d (.lit 0)) fun s c=>match c with
 |true=> .fail
 |false=> .ret (.int k (.rem e d),s)
def Sy (op:BinOp) (a b:AV):Option (IntKind×W×W):=
 match op with
 | .rem=>match a with
   | .int k e=>match b with
     | .int k' d=>match d with
       | .lit _=>none
       |d=>if k=k' then some (k,e,d) else none
     |_=>none
   |_=>none
 |_=>none
def tI (s:St) (v:Option AV):T (AV×St):=match v with |some v=> .ret (v,s)|none=> .fail
def Ss (s:St) (h:Option Hp):T (AV×St):=match h with |some h=> .ret (AV.undef,{ s with h:=h })|none=> .fail
def DH (s:St) (r:Option (AV×Hp)):T (AV×St):=match r with |some (v,h)=> .ret (v,{ s with h:=h })|none=> .fail
def Kb (s:St):Option Operand->Option (Option AV)
 |none=>some none
 |some x=>(ev s x).map some
def yb (s:St):List (Nat×Operand)->Option (List (Nat×AV))
 |[]=>some []
 |(i,x)::xs=>match ev s x with
  |none=>none
  |some a=>match yb s xs with
   |none=>none
   |some awN=>some ((i,a)::awN)
def AN {α:Type} (s:St) (i n:W) (f:St->T α):T α:=
 mg s (iM i (.lit 0)) fun s b=>match b with
  |true=> .fail
  |false=>mg s (iM i n) fun s b=>match b with
   |true=>f s
   |false=> .fail
def SL (tt:TT) (t:Nat) (a b:AV):Option W:=match a with
 | .eS e _=>match b with
   | .iC=>match tt t with
     |some ti=>match ti.kind with
      | .slice _=>some e
      |_=>none
     |none=>none
   |_=>none
 |_=>none
def aaM (s:St) (op:BinOp) (r:Bool):T (AV×St):=match op with
 | .eql=> .ret (.bool (.lit r),s)
 | .neq=> .ret (.bool (.lit (!r)),s)
 |_=> .fail
def an1 (s:St) (e:W) (op:BinOp):T (AV×St):=mg s (iM (.lit 0) (ey e)) fun s b=>match b with
 |true=>aaM s op false
 |false=>mg s (wB (oA e) (.eS (.i 1))) fun s b=>match b with
  |true=>aaM s op true
  |false=>mg s (wB (oA e) (.eS (.i 2))) fun s b=>match b with
   |true=>aaM s op false
   |false=> .fail
def asC (kk:TK) (a b:AV):Option SB:=match kk with
 | .int _=>match a with
   | .int k x=>match b with
     | .int k' y=>if k=k' then some (wC x y) else none
     |_=>none
   |_=>none
 | .string=>DA a b
 |_=>none
def ve {α:Type} (kk:TK) (k:AV):List (AV×AV×Nat)->St->(St->T α)->T α
 |[],s,f=>f s
 |(k',_,_)::es,s,f=>match Wb s.pc kk k k' with
  |some b=>match b with
   |true=>f s
   |false=>ve kk k es s f
  |none=>match asC kk k k' with
   |some c=>mg s c fun s b=>match b with
    |true=>f s
    |false=>ve kk k es s f
   |none=>f s
def pq {α:Type} (tt:TT) (t:Nat) (m k:AV) (s:St) (f:St->T α):T α:=match tt t with
 |some ti=>match ti.kind with
  | .map kt _=>match xT tt kt with
    |some kk=>match LA m s.h with
     |some es=>ve kk k es s f
     |none=>f s
    |none=>f s
  |_=>f s
 |none=>f s
def PB (k:IntKind) (e:W) (f:AV->St->T (AV×St)):Nat->Nat->St->T (AV×St)
 |0,_,_=> .fail
 |n+1,j,s=>match n with
  |0=>f (.int k (.lit (Int.ofNat j))) s
  |_=>mg s (wC e (.lit (Int.ofNat j))) fun s b=>match b with
   |true=>f (.int k (.lit (Int.ofNat j))) s
   |false=>PB k e f n (j+1) s
def atJ (tt:TT) (t:Nat) (x:AV):Option Nat:=match tt t with
 |some ti=>match ti.kind with
  | .array n _=>if n<=64 then some n else none
  | .slice _=>match x with
    | .slice _ _ len _=>if len<=64 then some len else none
    |_=>none
  |_=>none
 |none=>none
def Kx (tt:TT) (t:Nat) (x ix:AV) (s:St) (f:AV->St->T (AV×St)):T (AV×St):=match kV ix with
 |some _=>f ix s
 |none=>match ix with
  | .int k e=>match atJ tt t x with
    |some n=>AN s e (.lit (Int.ofNat n)) fun s=>PB k e f n 0 s
    |none=> .fail
  |_=> .fail
def u7 (tt:TT) (ty:Nat):Option Nat:=match tt ty with
 |some ti=>match ti.kind with
  | .slice el=>iT tt el
  |_=>none
 |none=>none
def Ml (tt:TT) (s:St) (ty t:Nat) (e:W) (ix:AV):T (AV×St):=match ix with
 | .int _ i=>match u7 tt ty with
   |some z=>if z=(rowOf t).es then AN s i (ey e) fun s=> .ret (.oC (hZ (rowOf t) (.op .at e i)),s) else .fail
   |none=> .fail
 |_=> .fail
def L7 (tt:TT) (s:St) (ty id t:Nat) (n:W) (ix:AV):T (AV×St):=match ix with
 | .int _ i=>match u7 tt ty with
   |some z=>if z=(rowOf t).es then AN s i n fun s=> .ret (.BJ id z i 0,s) else .fail
   |none=> .fail
 |_=> .fail
def py (pc:List (SB×Bool)) (adX:List AV) (i:W):List (W×List AV)->Option (List AV)
 |[]=>some adX
 |(j,cs)::l=>match fH i j with
  |true=>some cs
  |false=>match kI pc (wC i j) with
   |some b=>match b with
    |true=>some cs
    |false=>py pc adX i l
   |none=>none
def Ji (pc:List (SB×Bool)) (i:W) (mD:List AV):List (W×List AV)->Option (List (W×List AV))
 |[]=>none
 |(j,cs)::l=>match fH i j with
  |true=>some ((j,mD)::l)
  |false=>match kI pc (wC i j) with
   |some b=>match b with
    |true=>some ((j,mD)::l)
    |false=>match Ji pc i mD l with
     |some l'=>some ((j,cs)::l')
     |none=>none
   |none=>none
def xu (pc:List (SB×Bool)) (i:W):List (W×List AV)->Bool
 |[]=>true
 |(j,_)::l=>match kI pc (wC i j) with
  |some false=>xu pc i l
  |_=>false
def v7 {α:Type} (i:W):List (W×List AV)->St->(St->T α)->T α
 |[],s,k=>k s
 |(j,_)::l,s,k=>match fH i j with
  |true=>k s
  |false=>mg s (wC i j) fun s b=>match b with
   |true=>k s
   |false=>v7 i l s k
def Gr (k:IntKind):List AV->Option (List D)
 |[]=>some []
 |v::vs=>match v with
  | .int k' e=>match e with
    | .lit n=>if k=k' then match Gr k vs with
     |some ds=>some (.i n::ds)
     |none=>none
     else none
    |_=>none
  |_=>none
def afh:List AV->Option IntKind
 |v::_=>match v with
  | .int k _=>some k
  |_=>none
 |[]=>none
def Xx (tt:TT) (t:Nat) (ix:AV):Option (Nat×W):=match kV ix with
 |some _=>none
 |none=>match ix with
  | .int _ e=>match tt t with
    |some ti=>match ti.kind with
     | .array n el=>if 64<n then match tt el with
      |some ie=>if ie.size=1/\ie.agg=false then some (n,e) else none
      |none=>none
      else none
     |_=>none
    |none=>none
  |_=>none
def J9 (s:St) (cs:List AV) (e:W):T (AV×St):=match afh cs with
 |none=> .fail
 |some k=>match Gr k cs with
  |none=> .fail
  |some ds=>AN s e (.lit (Int.ofNat ds.length)) fun s=> .ret (.int k (I4 (.op .at (.eS (dL ds)) e)),s)
def BD (tt:TT) (s:St) (ty id es:Nat) (i:W) (off:Nat):T (AV×St):=match s.h.get id with
 |some o=>match o with
  | .cells cs _=>match tt ty with
    |some ti=>match ti.agg||!(Nat.beq es 1)||!(Nat.beq off 0) with
     |true=> .fail
     |false=>J9 s cs i
    |none=> .fail
  | .vec e t _ ov=>match tt ty with
    |some ti=>if (rowOf t).es=es then AN s i (ey e) fun s=>v7 i ov s fun s=>match py s.pc (hZ (rowOf t) (.op .at e i)) i ov with
     |some cs=>match fc off cs with
      |some l=>tI s (partOf ti l)
      |none=> .fail
     |none=> .fail
     else .fail
    |none=> .fail
  |_=> .fail
 |none=> .fail
def frz (v:AV) (h:Hp):AV×Hp:=match v with
 | .rY id n t=>match h.get id with
   |some o=>match o with
    | .vec e t' _ ov=>match ov with
      |[]=>match Nat.beq t t' with
       |true=>match fH n (ey e) with
        |true=>(.eS e t,h.drop id)
        |false=>(v,h)
       |false=>(v,h)
      |_=>(v,h)
    |_=>(v,h)
   |none=>(v,h)
 | .Aj z t=>(.eS z t,h)
 |v=>(v,h)
def isZ (e:W):Bool:=match e with
 | .lit n=>wP n 0
 |_=>false
def uc (a b:W):W:=match isZ a with
 |true=>b
 |false=> .add a b
def FI (a b:W):W:=match isZ b with
 |true=>a
 |false=> .sub a b
def Ls (e lo n:W):W:=match isZ lo with
 |true=> .op .take e n
 |false=> .op .drop (.op .take e (.add lo n)) lo
def CH {α:Type} (e lo n:W) (s:St) (k:St->T α):T α:=
 mg s (iM lo (.lit 0)) fun s b=>match b with
  |true=> .fail
  |false=>mg s (iM n (.lit 0)) fun s b=>match b with
   |true=> .fail
   |false=>mg s (iM (ey e) (uc lo n)) fun s b=>match b with
    |true=> .fail
    |false=>k s
def IH (h:Hp) (id t:Nat):Option (W×TypeId):=match h.get id with
 |some o=>match o with
  | .vec e t' ty ov=>match ov with
    |[]=>match Nat.beq t t' with
     |true=>some (e,ty)
     |false=>none
    |_=>none
  |_=>none
 |none=>none
def Y2 {α:Type} (v:AV) (s:St) (k:AV->St->T α):T α:=match v with
 | .vM id lo n t=>match IH s.h id t with
   |some (e,_)=>CH e lo n s fun s=>k (.eS (Ls e lo n) t) { s with h:=s.h.drop id }
   |none=>k v s
 |v=>match frz v s.h with
  |(v',h')=>k v' { s with h:=h' }
def J1 {α:Type}:List AV->St->(List AV->St->T α)->T α
 |[],s,k=>k [] s
 |v::vs,s,k=>Y2 v s fun v' s=>J1 vs s fun QT s=>k (v'::QT) s
def Jr {α:Type} (t:Nat):List (W×List AV)->W->St->(W->St->T α)->T α
 |[],e,s,k=>k e s
 |(j,cs)::ov,e,s,k=>Jr t ov e s fun e s=>J1 cs s fun cs s=>match sJ (rowOf t) cs with
  |some x=>k (.op .set e (gq (Cv j) x)) s
  |none=> .fail
def anW (v:AV) (h:Hp):Option (Nat×W×Nat×List (W×List AV)):=match v with
 | .rY id n t=>match h.get id with
   |some o=>match o with
    | .vec e t' _ ov=>match ov with
      |[]=>none
      |_=>match Nat.beq t t' with
       |true=>match fH n (ey e) with
        |true=>some (id,e,t,ov)
        |false=>none
       |false=>none
    |_=>none
   |none=>none
 |_=>none
def Y1 {α:Type} (v:AV) (s:St) (k:AV->St->T α):T α:=match anW v s.h with
 |some (id,e,t,ov)=>Jr t ov e s fun e' s=>match s.h.get id with
  |some _=>k (.eS e' t) { s with h:=s.h.drop id }
  |none=> .fail
 |none=>Y2 v s k
def yT {α:Type}:List AV->St->(List AV->St->T α)->T α
 |[],s,k=>k [] s
 |v::vs,s,k=>Y1 v s fun v' s=>yT vs s fun QT s=>k (v'::QT) s
def setCells:List CK->Nat->List AV->W->Option W
 |_,_,[],x=>some x
 |ks,off,v::vs,x=>match fI ks off with
  |some c=>match oT c v with
   |some a=>setCells ks (off+1) vs (.op .set x (gq (.eS (.i (Int.ofNat off))) a))
   |none=>none
  |none=>none
def MS (r:Row) (e i:W) (off:Nat) (vs:List AV):Option W:=match r with
 | .one c=>match off with
   |0=>match vs with
    |[v]=>match oT c v with
     |some a=>some (.op .set e (gq (Cv i) a))
     |none=>none
    |_=>none
   |_=>none
 | .many ks=>match setCells ks off vs (.op .at e i) with
   |some x=>some (.op .set e (gq (Cv i) x))
   |none=>none
def G9 (tt:TT) (s:St) (ty id es:Nat) (i:W) (off:Nat) (one:Bool) (vs:List AV):T (AV×St):=
 match s.h.get id with
  |some o=>match o with
   | .vec e t Cf ov=>match tt ty with
     |some ti=>if (rowOf t).es=es/\vs.length=ti.size/\one=true then AN s i (ey e) fun s=>v7 i ov s fun s=>match py s.pc (hZ (rowOf t) (.op .at e i)) i ov with
      |some cs=>match ep cs off vs with
       |some mD=>match Ji s.pc i mD ov with
        |some sa=> .ret (AV.undef,{ s with h:=s.h.put id (.vec e t Cf sa) })
        |none=>match xu s.pc i ov with
         |true=>match MS (rowOf t) e i off vs with
          |some e'=> .ret (AV.undef,{ s with h:=s.h.put id (.vec e' t Cf ov) })
          |none=> .ret (AV.undef,{ s with h:=s.h.put id (.vec e t Cf ((i,mD)::ov)) })
         |false=> .fail
       |none=> .fail
      |none=> .fail
      else .fail
     |none=> .fail
   |_=> .fail
  |none=> .fail
def asK:AV->Bool
 | .rY _ _ _=>true
 | .iC=>true
 | .Aj _ _=>true
 | .slice _ _ n c=>match n with
   |0=>match c with
    | .exact k=>match k with
      |0=>true
      |_=>false
    |_=>false
   |_=>false
 |_=>false
def ao0 (c:CK) (v:AV):AV:=match c with
 | .sl t=>match v with
   | .iC=> .Aj (.eS (.i 1)) t
   | .slice i o n k=>match n with
     |0=>match k with
      | .exact m=>match m with
        |0=> .Aj (.eS (.i 2)) t
        |m+1=> .slice i o 0 (.exact (m+1))
      |k=> .slice i o 0 k
     |n+1=> .slice i o (n+1) k
   |v=>v
 |_=>v
def Ph:List CK->List AV->List AV
 |[],vs=>vs
 |_::_,[]=>[]
 |c::cs,v::vs=>ao0 c v::Ph cs vs
def Sp (r:Row):List CK:=match r with
 | .one c=>[c]
 | .many cs=>cs
def WQ (i:W):List (SB×Bool)->Option W
 |[]=>none
 |(c,b)::l=>match c with
  | .eq x y=>match b with
    |true=>match fH x i with
     |true=>some y
     |false=>WQ i l
    |false=>WQ i l
  |_=>WQ i l
def G8 (tt:TT) (s:St) (ty id es:Nat) (i j:W) (off:Nat) (one:Bool) (vs:List AV):T (AV×St):=
 match s.h.get id with
  |some o=>match o with
   | .vec e t Cf ov=>match tt ty with
     |some ti=>if (rowOf t).es=es/\vs.length=ti.size/\one=true then AN s i (ey e) fun s=>v7 j ov s fun s=>match kI s.pc (.eq i j) with
      |some true=>match py s.pc (hZ (rowOf t) (.op .at e j)) j ov with
       |some cs=>match ep cs off (Ph ((Sp (rowOf t)).drop off) vs) with
        |some mD=>match Ji s.pc j mD ov with
         |some sa=> .ret (AV.undef,{ s with h:=s.h.put id (.vec e t Cf sa) })
         |none=>match xu s.pc j ov with
          |true=> .ret (AV.undef,{ s with h:=s.h.put id (.vec e t Cf ((j,mD)::ov)) })
          |false=> .fail
        |none=> .fail
       |none=> .fail
      |_=> .fail
      else .fail
     |none=> .fail
   |_=> .fail
  |none=> .fail
def Ha (tt:TT) (s:St) (ty id es:Nat) (i:W) (off:Nat) (v:AV):T (AV×St):=
 match (if asK v then WQ i s.pc else none) with
 |some j=>G8 tt s ty id es i j off (tl v.cells) v.cells
 |none=>yT v.cells s fun vs s=>G9 tt s ty id es i off (tl v.cells) vs
def rQ (e:Nat) (own:Option Nat) (x:AV) (h:Hp):Option (W×Nat×Hp):=match x with
 | .rY id n t=>match h.get id with
   |some o=>match o with
    | .vec e0 t0 ty ov=>match ov with
      |[]=>match Nat.beq t t0 with
       |true=>match Nat.beq ty e with
        |true=>match fH n (ey e0) with
         |true=>some (e0,t,h.drop id)
         |false=>none
        |false=>none
       |false=>none
      |_=>none
    |_=>none
   |none=>none
 | .iC=>match own with
   |some t=>some (.eS (.i 0),t,h)
   |none=>none
 | .emp=>match own with
   |some t=>some (.eS (.i 0),t,h)
   |none=>none
 | .Aj _ _=>match own with
   |some t=>some (.eS (.i 0),t,h)
   |none=>none
 | .slice _ _ n c=>match n with
   |0=>match c with
    | .exact k=>match k with
      |0=>match own with
       |some t=>some (.eS (.i 0),t,h)
       |none=>none
      |_=>none
    |_=>none
   |_=>none
 |_=>none
def aj7:AV->Bool
 | .eS _ _=>true
 |_=>false
def aa9 (own:Option Nat):AV->Bool
 | .rY _ _ _=>true
 | .vM _ _ _ _=>true
 | .iC=>own.isSome
 | .emp=>own.isSome
 | .Aj _ _=>own.isSome
 | .slice _ _ n c=>match n with
   |0=>match c with
    | .exact k=>match k with
      |0=>own.isSome
      |_=>false
    |_=>false
   |_=>false
 |_=>false
def Xz (id t:Nat) (ty:TypeId) (e0 n1 m sd:W) (s:St):T (AV×St):=
 CH e0 n1 m s fun s=> .ret (.vM id (.lit 0) (uc n1 m) t,{ s with h:=s.h.put id (.vec (.op .cat (.op .cat (.op .take e0 n1) sd) (.op .drop e0 (uc n1 m))) t ty []) })
def Hk (tt:TT) (t t2 id:Nat) (n1:W) (t':Nat) (y:AV) (s:St):T (AV×St):=
 match tt t with
 |some ti=>match ti.kind with
  | .slice e=>match tt e with
    |some ie=>match tt t2 with
     |none=> .fail
     |some X0=>match X0.kind with
      | .int _=> .fail
      |_=>
       if ie.size=0\/ie.bytes=0\/¬ie.zero.length=ie.size\/¬(rowOf t').es=ie.size then .fail else
       match IH s.h id t' with
       |none=> .fail
       |some (e0,ty)=>match y with
        | .vM id2 ZS n2 Np=>match Nat.beq id2 id with
          |true=>match Nat.beq Np t' with
           |true=>CH e0 ZS n2 s fun s=>Xz id t' ty e0 n1 n2 (Ls e0 ZS n2) s
           |false=> .fail
          |false=> .fail
        |y=>match tw ie.size y s.h with
         |none=> .fail
         |some (m,news)=>match m with
          |0=> .fail
          |m+1=>if m<1000 then match mw (rowOf t') (.eS (.i 0)) (m+1) news with
           |some sd=>Xz id t' ty e0 n1 (.lit (Int.ofNat (m+1))) sd s
           |none=> .fail
           else .fail
    |none=> .fail
  |_=> .fail
 |none=> .fail
def BH (tt:TT) (ty id:Nat) (lo n:W) (t:Nat) (s:St):T (AV×St):=
 match tt ty with
 |some ti=>match ti.kind with
  | .slice e=>match tt e with
    |some ie=>if (rowOf t).es=ie.size/\0<ie.size then match IH s.h id t with
     |none=> .fail
     |some (e0,Cf)=>match sJ (rowOf t) ie.zero with
      |none=> .fail
      |some z=>mg s (iM lo (.lit 0)) fun s b=>match b with
       |true=> .fail
       |false=>mg s (iM n (.lit 0)) fun s b=>match b with
        |true=> .fail
        |false=>mg s (wC (uc lo n) (ey e0)) fun s b=>match b with
         |false=> .fail
         |true=> .ret (AV.undef,{ s with h:=s.h.put id (.vec (.op .fill e0 (gq (Cv lo) z)) t Cf []) })
     else .fail
    |none=> .fail
  |_=> .fail
 |none=> .fail
def sQ (bytes k:Nat):Int:=Int.ofNat (140737488355328 / bytes-k)
def aah (e0:W) (bytes:Nat):Int:=match S9 e0 with
 |true=>sQ bytes 0
 |false=>sQ bytes 1000000
def afP:AV->Bool
 | .rY _ _ _=>true
 | .Aj _ _=>true
 | .slice _ _ n _=>match n with
   |0=>true
   |_=>false
 |_=>false
def Bv:List (SB×Bool)->Bool
 |[]=>false
 |(b,v)::l=>match b with
  | .eq _ x=>match x with
    | .dH i=>match i with
      |0=>match v with
       |true=>true
       |false=>Bv l
      |_=>Bv l
    |_=>Bv l
  |_=>Bv l
def afa (m:Nat) (news:List AV) (pc:List (SB×Bool)):Bool:=match m with
 |0=>match news.any afP with
  |true=>Bv pc
  |false=>false
 |_=>false
def CF (e:Nat) (x:AV) (h:Hp):Option (W×Nat×W×List AV×Hp):=match x with
 | .rY id n t=>match h.get id with
   |some o=>match o with
    | .vec e0 t0 ty ov=>match ov with
      |[]=>none
      |p::l=>match l with
       |[]=>match Nat.beq t t0 with
        |true=>match Nat.beq ty e with
         |true=>match fH n (ey e0) with
          |true=>some (e0,t,p.1,p.2,h.drop id)
          |false=>none
         |false=>none
        |false=>none
       |_=>none
    |_=>none
   |none=>none
 |_=>none
def BI (e:Nat) (own:Option Nat) (x:AV) (ie:TI) (m:Nat) (news:List AV) (s:St):T (AV×St):=
 yT news s fun DS s=>match rQ e own x s.h with
  |some (e0,t',h0)=>if (rowOf t').es=ie.size/\m<1000 then
   mg s (iM (ey e0) (.lit (sQ ie.bytes (m+1)))) fun s b=>match b with
    |true=>match mw (rowOf t') e0 (m+1) DS with
     |some e1=> .ret (.rY h0.fresh (ey e1) t',{ s with h:=h0.new (.vec e1 t' e []) })
     |none=> .fail
    |false=> .fail
   else .fail
  |none=> .fail
def De (e:Nat) (x:AV) (ie:TI) (m:Nat) (news:List AV) (s:St):T (AV×St):=
 yT news s fun DS s=>match CF e x s.h with
  |some (e0,t',p,cs,h0)=>if (rowOf t').es=ie.size/\m<1000 then
   mg s (iM (ey e0) (.lit (sQ ie.bytes (m+1)))) fun s b=>match b with
    |true=>mg s (iM p (ey e0)) fun s b=>match b with
     |true=>match mw (rowOf t') e0 (m+1) DS with
      |some e1=> .ret (.rY h0.fresh (ey e1) t',{ s with h:=h0.new (.vec e1 t' e [(p,cs)]) })
      |none=> .fail
     |false=> .fail
    |false=> .fail
   else .fail
  |none=> .fail
def Dd (e:Nat) (own:Option Nat) (x:AV) (ie:TI) (m:Nat) (news:List AV) (s:St):T (AV×St):=
 match rQ e own x s.h with
 |some (e0,t',h0)=>if (rowOf t').es=ie.size/\m=0 then
  mg s (wC (ey e0) (.dH 0)) fun s b=>match b with
   |true=>mg s (iM (ey e0) (.lit (sQ ie.bytes 1))) fun s b=>match b with
    |true=>match mw (rowOf t') e0 1 ie.zero with
     |some e1=> .ret (.rY h0.fresh (ey e1) t',{ s with h:=h0.new (.vec e1 t' e [(.dH 0,news)]) })
     |none=> .fail
    |false=> .fail
   |false=>BI e own x ie m news s
  else .fail
 |none=> .fail
def Dc (tt:TT) (t t2:Nat) (x y:AV) (s:St):T (AV×St):=
 match tt t with
 |some ti=>match ti.kind with
  | .slice e=>match tt e with
    |some ie=>match tt t2 with
     |none=> .fail
     |some X0=>match X0.kind with
      | .int _=> .fail
      |_=>
       if ie.size=0\/ie.bytes=0\/¬ie.zero.length=ie.size\/¬ie.bytes<=400 then .fail else
       match y with
       | .eS e2 ty2=>match rQ e ti.own x s.h with
         |some (e0,t',h0)=>if (rowOf t').es=ie.size/\rowOf ty2=rowOf t' then
          mg s (wB (ey e2) (.lit 0)) fun s b=>match b with
           |true=> .ret (x,s)
           |false=>mg s (iM (ey e2) (.lit (aah e0 ie.bytes))) fun s b=>match b with
            |true=>mg s (iM (ey e0) (.lit 1000000)) fun s b=>match b with
             |true=>match S9 e0 with
              |true=> .ret (.rY h0.fresh (ey e2) t',{ s with h:=h0.new (.vec e2 t' e []) })
              |false=> .ret (.rY h0.fresh (ey (.op .cat e0 e2)) t',{ s with h:=h0.new (.vec (.op .cat e0 e2) t' e []) })
             |false=> .fail
            |false=> .fail
          else .fail
         |none=> .fail
       |y=>match tw ie.size y s.h with
        |some (m,news)=>match m with
         |0=> .ret (x,s)
         |m+1=>match CF e x s.h with
          |some _=>De e x ie m news s
          |none=>match afa m news s.pc with
           |true=>Dd e ti.own x ie m news s
           |false=>BI e ti.own x ie m news s
        |none=> .fail
    |none=> .fail
  |_=> .fail
 |none=> .fail
def Mf (tt:TT) (t:Nat) (l c:AV) (s:St):T (AV×St):=match l with
 | .int k n=>match c with
   | .int k2 n2=>match fH n n2 with
     |false=> .fail
     |true=>match tt t with
      |none=> .fail
      |some i=>match i.own with
       |none=> .fail
       |some o=>match i.kind with
        | .slice e=>match tt e with
          |none=> .fail
          |some ie=>match sJ (rowOf o) ie.zero with
           |none=> .fail
           |some z=>if ie.size=(rowOf o).es/\0<ie.size/\ie.bytes≠0/\ie.zero.length=ie.size then
            mg s (iM n (.lit 0)) fun s b=>match b with
             |true=> .fail
             |false=>mg s (wB n (.lit 0)) fun s b=>match b with
              |true=>match sH tt t (.int k (.lit 0)) (.int k2 (.lit 0)) s.h with
               |some (v,h)=> .ret (v,{ s with h:=h })
               |none=> .fail
              |false=>mg s (iM n (.lit (sQ ie.bytes 0))) fun s b=>match b with
               |true=> .ret (.rY s.h.fresh (ey (.op .rep n z)) o,{ s with h:=s.h.new (.vec (.op .rep n z) o e []) })
               |false=> .fail
            else .fail
        |_=> .fail
   |_=> .fail
 |_=> .fail
def EL (v:AV):Bool:=match kV v with
 |some n=>wP n 0
 |none=>false
def Mk (tt:TT) (s:St) (ty t:Nat) (e:W) (lo hi:Option AV) (mx:Option AV):T (AV×St):=match mx with
 |some m=>match EL m with
  |true=>match u7 tt ty with
   |none=> .fail
   |some _=>match lo with
    |none=>match hi with
     |some hv=>match EL hv with
      |true=> .ret (.Aj (.op .take e (.lit 0)) t,s)
      |false=> .fail
     |none=> .fail
    |some _=> .fail
  |false=> .fail
 |none=>match u7 tt ty with
  |none=> .fail
  |some z=>if z=(rowOf t).es then
   (match hi with
   |none=>match lo with
    |some (.int _ l)=>mg s (iM l (.lit 0)) fun s b=>match b with
     |true=> .fail
     |false=>mg s (iM (ey e) l) fun s b=>match b with
      |true=> .fail
      |false=> .ret (.eS (.op .drop e l) t,s)
    |_=> .fail
   |some (.int _ h)=>mg s (iM (ey e) h) fun s b=>match b with
    |true=> .fail
    |false=>match lo with
     |none=>mg s (iM h (.lit 0)) fun s b=>match b with
      |true=> .fail
      |false=> .ret (.eS (.op .take e h) t,s)
     |some (.int _ l)=>mg s (iM l (.lit 0)) fun s b=>match b with
      |true=> .fail
      |false=>mg s (iM h l) fun s b=>match b with
       |true=> .fail
       |false=> .ret (.eS (.op .drop (.op .take e h) l) t,s)
     |_=> .fail
   |_=> .fail)
   else .fail
def loE (lo:Option AV):Option W:=match lo with
 |none=>some (.lit 0)
 |some v=>match v with
  | .int _ l=>some l
  |_=>none
def Fe (tt:TT) (s:St) (ty id t:Nat) (lo0 n0:W) (lo hi mx:Option AV):T (AV×St):=
 match u7 tt ty with
 |none=> .fail
 |some z=>if z=(rowOf t).es/\z≠0 then match loE lo with
  |none=> .fail
  |some l=>mg s (iM l (.lit 0)) fun s b=>match b with
   |true=> .fail
   |false=>match hi with
    |none=>match mx with
     |some _=> .fail
     |none=>mg s (iM n0 l) fun s b=>match b with
      |true=> .fail
      |false=> .ret (.vM id (uc lo0 l) (FI n0 l) t,s)
    |some hv=>match hv with
     | .int _ h=>mg s (iM h l) fun s b=>match b with
       |true=> .fail
       |false=>match mx with
        |some mv=>match mv with
         | .int _ m=>mg s (iM m h) fun s b=>match b with
           |true=> .fail
           |false=>mg s (iM n0 m) fun s b=>match b with
            |true=> .fail
            |false=> .ret (.any,s)
         |_=> .fail
        |none=>mg s (iM n0 h) fun s b=>match b with
         |false=> .ret (.vM id (uc lo0 l) (FI h l) t,s)
         |true=>match isZ lo0 with
          |false=> .fail
          |true=>match IH s.h id t with
           |none=> .fail
           |some (e,_)=>mg s (iM (ey e) h) fun s b=>match b with
            |true=> .fail
            |false=> .ret (.vM id (uc lo0 l) (FI h l) t,s)
     |_=> .fail
  else .fail
def Mj (tt:TT) (s:St) (ty:Nat) (z:W) (t:Nat) (lo hi mx:Option AV):T (AV×St):=
 match mx with
 |some _=> .fail
 |none=>match u7 tt ty with
  |none=> .fail
  |some _=>match pg hi 0 0 with
   |some 0=>match pg lo 0 0 with
    |some 0=> .ret (.Aj z t,s)
    |_=> .fail
   |_=> .fail
def L6 (tt:TT) (s:St) (ty id t:Nat) (lo n:W) (ix:AV):T (AV×St):=match ix with
 | .int _ i=>match u7 tt ty with
   |some z=>if z=(rowOf t).es then AN s i n fun s=> .ret (.BJ id z (uc lo i) 0,s) else .fail
   |none=> .fail
 |_=> .fail
def abd:AV->Bool
 | .kx _=>true
 |_=>false
def L9 (tt:TT) (s:St) (ty:Nat) (e:W) (ix:AV):T (AV×St):=match ix with
 | .int _ i=>match tt ty with
   |some ti=>match ti.kind with
    | .string=>AN s i (ey e) fun s=> .ret (.int .u8 (I4 (.op .at e i)),s)
    |_=> .fail
   |none=> .fail
 |_=> .fail
def hiE (e:W) (hi:Option AV):Option W:=match hi with
 |none=>some (ey e)
 |some v=>match v with
  | .int _ h=>some h
  |_=>none
def L8 (tt:TT) (s:St) (ty:Nat) (e:W) (lo hi mx:Option AV):T (AV×St):=match mx with
 |some _=> .fail
 |none=>match tt ty with
  |none=> .fail
  |some ti=>match ti.kind with
   | .string=>match loE lo with
     |none=> .fail
     |some l=>match hiE e hi with
      |none=> .fail
      |some h=>mg s (iM l (.lit 0)) fun s b=>match b with
       |true=> .fail
       |false=>mg s (iM h l) fun s b=>match b with
        |true=> .fail
        |false=>mg s (iM (ey e) h) fun s b=>match b with
         |true=> .fail
         |false=> .ret (.kx (.op .sub e (gq (Cv l) (gq (Cv h) (.eS (.i 0))))),s)
   |_=> .fail
def EO (x y:AV):Option (W×W):=match abd x||abd y with
 |false=>none
 |true=>match vq x with
  |none=>none
  |some a=>match vq y with
   |none=>none
   |some b=>some (a,b)
def I0 (a b:W):SB:=.not (.eq (.op .slt a b) (.lit 0))
def TG (op:BinOp) (a b:W) (s:St):T (AV×St):=match op with
 | .add=>mg s (iM (ey a) (.lit 1000000000)) fun s c=>match c with
   |false=> .fail
   |true=>mg s (iM (ey b) (.lit 1000000000)) fun s c=>match c with
    |false=> .fail
    |true=> .ret (.kx (.op .cat a b),s)
 | .eql=> .ret (.bool (wB (oA a) (oA b)),s)
 | .neq=> .ret (.bool (.not (wB (oA a) (oA b))),s)
 | .lss=> .ret (.bool (I0 a b),s)
 | .gtr=> .ret (.bool (I0 b a),s)
 | .leq=> .ret (.bool (yH (I0 b a)),s)
 | .geq=> .ret (.bool (yH (I0 a b)),s)
 |_=> .fail
def Fg (tt:TT) (sT dT:Nat) (e:W) (s:St):T (AV×St):=match tt sT with
 |none=> .fail
 |some j=>match j.kind with
  | .string=>match tt dT with
    |none=> .fail
    |some i=>match i.kind with
     | .slice el=>match tt el with
       |some ie=>match ie.kind with
        | .int k=>match k with
          | .u8=>mg s (wB (ey e) (.lit 0)) fun s c=>match c with
            |true=> .ret (.slice s.h.fresh 0 0 (.rest 1),{ s with h:=s.h.new (.cells [] el) })
            |false=> .ret (.rY s.h.fresh (ey e) 14,{ s with h:=s.h.new (.vec e 14 el []) })
          |_=> .fail
        |_=> .fail
       |none=> .fail
     |_=> .fail
  |_=> .fail
def DY (c:CK):TK:=match c with
 | .int k=> .int k
 |_=> .string
def yK (m:AV) (h:Hp):Option (Nat×W×Nat):=match m with
 | .map id=>match h.get id with
   |some o=>match o with
    | .mh e t=>some (id,e,t)
    |_=>none
   |none=>none
 |_=>none
def mapKey (tt:TT) (ty t:Nat) (k:AV):Option (W×TI):=match tt ty with
 |none=>none
 |some ti=>match ti.kind with
  | .map kt et=>match tt kt with
    |none=>none
    |some ki=>if ki.kind=DY (mapOf t).1 then match tt et with
     |none=>none
     |some ie=>match oT (mapOf t).1 k with
      |none=>none
      |some a=>some (oA a,ie)
     else none
  |_=>none
def abC (e a:W):SB:=match e with
 | .eS d=>match a with
   | .eS k=> .lit (!(kU d.l k).isSome)
   |a=> .eq (.op .Ev (.eS d) a) (.lit 0)
 |e=> .eq (.op .Ev e a) (.lit 0)
def BC (tt:TT) (ty:Nat) (k:AV) (ok:Bool) (e:W) (t:Nat) (s:St):T (AV×St):=match mapKey tt ty t k with
 |none=> .fail
 |some (a,ie)=>match zeroOf ie with
  |none=> .fail
  |some z=>mg s (abC e a) fun s b=>match b with
   |true=> .ret (if ok then .tuple [z,.bool (.lit false)] else z,s)
   |false=> .ret (if ok then .tuple [vh (mapOf t).2 (.op .Ew e a),.bool (.lit true)] else vh (mapOf t).2 (.op .Ew e a),s)
def TN (tt:TT) (ty id:Nat) (k x:AV) (e:W) (t:Nat) (s:St):T (AV×St):=match mapKey tt ty t k with
 |none=> .fail
 |some (a,_)=>match oT (mapOf t).2 x with
  |none=> .fail
  |some b=> .ret (AV.undef,{ s with h:=s.h.put id (.mh (.op .OE e (gq a b)) t) })
def Md (tt:TT) (ty:Nat) (m k x:AV) (s:St):T (AV×St):=yT [x] s fun xs s=>match xs with
 |[x]=>match yK m s.h with
  |some (id,e,t)=>TN tt ty id k x e t s
  |none=> .fail
 |_=> .fail
def TW (tt:TT) (ty id:Nat) (k:AV) (e:W) (t:Nat) (s:St):T (AV×St):=match mapKey tt ty t k with
 |none=> .fail
 |some (a,_)=> .ret (AV.undef,{ s with h:=s.h.put id (.mh (.op .SS e a) t) })
abbrev eQ:=Nat->List AV->St->T (AV×St)
def B5 (s:St) (x:Operand) (f:AV->T (AV×St)):T (AV×St):=match ev s x with |some v=>f v|none=> .fail
def aj1 (tt:TT) (t:Nat):Option Nat:=match tt t with
 |some ti=>ti.own
 |none=>none
def yc (tt:TT) (s:St) (b:Builtin) (ts:List Nat) (args:List AV):T (AV×St):=
 match b,ts,args with
 | .len,[t],[x]=>tI s (abU tt t x s.h)
 | .append,[t,t2],[.vM id lo n t',y]=>match isZ lo with
   |true=>Hk tt t t2 id n t' y s
   |false=> .fail
 | .append,[t,t2],[x,y]=>match aa9 (aj1 tt t) x||aj7 y with
   |true=>Dc tt t t2 x y s
   |false=>DH s (Hj tt t t2 x y s.h)
 | .delete,[t,_],[m,k]=>match yK m s.h with
   |some (id,e,t')=>TW tt t id k e t' s
   |none=>pq tt t m k s fun s=>Ss s (Hi tt s.pc t m k s.h)
 | .clear,[t],[.rY id n t']=>BH tt t id (.lit 0) n t' s
 | .clear,[t],[.vM id lo n t']=>BH tt t id lo n t' s
 | .clear,[t],[x]=>Ss s (Mm tt t x s.h)
 | .min,_,.int k a::xs=>uX false xs a k s
 | .max,_,.int k a::xs=>uX true xs a k s
 |_,_,_=> .fail
def Mn (tt:TT) (call:eQ) (s:St) (c:Call):T (AV×St):=
 match evs s c.args.toList with
 |none=> .fail
 |some args=>match c.callee with
  | .builtin b=>yc tt s b c.argTypes.toList args
  | .value f=>match ev s f with
    |some (.func (.func g) fs cs)=>call g (fs++args++cs) s
    |_=> .fail
  | .invoke _ _=> .fail
def arA:SB->Bool
 | .lit _=>true
 | .not c=>match c with
   | .eq _ z=>match z with
     | .lit n=>wP n 0
     |_=>false
   |_=>false
 |_=>false
def aer {α:Type} (v:AV) (s:St) (k:AV->St->T α):T α:=match v with
 | .bool c=>match arA c with
   |true=>k (.bool c) s
   |false=>mg s c fun s b=>k (.bool (.lit b)) s
 |v=>k v s
def Me (tt:TT) (call:eQ) (s:St) (op:Op):T (AV×St):=
 match op with
 | .move x=>B5 s x fun v=> .ret (v,s)
 | .assign x=>B5 s x fun v=> .ret (v,s)
 | .pick c a b=>B5 s c fun c=>match c with
   | .bool c=>mg s c fun s b'=>if b' then B5 s a fun v=> .ret (v,s) else B5 s b fun v=> .ret (v,s)
   |_=> .fail
 | .alloc t=>match tt t with
   |some i=> .ret (.ptr s.h.fresh 0,{ s with h:=s.h.new (.cells i.zero t) })
   |none=> .fail
 | .box t x=>B5 s x fun v=>if tl v.cells then .ret (.ptr s.h.fresh 0,{ s with h:=s.h.new (.cells v.cells t) }) else .fail
 | .build t parts=>match yb s parts.toList with
   |some ps=>tI s (Mq tt t ps)
   |none=> .fail
 | .buildSlice t n parts=>match yb s parts.toList with
   |some ps=>DH s (u6 tt t n ps s.h)
   |none=> .fail
 | .makeSlice t l c=>B5 s l fun lv=>match ev s c with
   |some cv=>match sH tt t lv cv s.h with
    |some r=>DH s (some r)
    |none=>Mf tt t lv cv s
   |none=> .fail
 | .load t x=>B5 s x fun p=>match p with
   | .BJ id es i off=>BD tt s t id es i off
   |p=>tI s (Db tt t p s.h)
 | .store t x y=>B5 s x fun p=>match ev s y with
   |some v=>aer v s fun v s=>match p with
    | .BJ id es i off=>Ha tt s t id es i off v
    |p=>Ss s (Ma tt t p v s.h)
   |none=> .fail
 | .nilCheck x=>B5 s x fun v=>match v with
   | .ptr _ _=> .ret (v,s)
   | .oC _=> .ret (v,s)
   | .BJ _ _ _ _=> .ret (v,s)
   |_=> .fail
 | .binOp op t x y _=>B5 s x fun a=>match ev s y with
   |some b=>match a with
    | .agg xs=>match b,op with
      | .agg ys,.eql=>match Ff tt t xs ys with
        |some c=> .ret (.bool c,s)
        |none=> .fail
      | .agg ys,.neq=>match Ff tt t xs ys with
        |some c=> .ret (.bool (yH c),s)
        |none=> .fail
      |_,_=> .fail
    |a=>match SL tt t a b with
     |some e=>an1 s e op
     |none=>match Sy op a b with
      |some (k,e,d)=>anQ s k e d
      |none=>match EO a b with
       |some (x,y)=>TG op x y s
       |none=>tI s (abW tt t op a b)
   |none=> .fail
 | .unOp op _ x=>B5 s x fun v=>tI s (ao2 op v)
 | .convert sT dT x=>B5 s x fun v=>match v with
   | .kx e=>Fg tt sT dT e s
   |v=>DH s (qO tt sT dT v s.h)
 | .makeFunc fn fs cs=>match evs s fs.toList,evs s cs.toList with
   |some f,some c=> .ret (.func fn f c,s)
   |_,_=> .fail
 | .makeMap t r=>match r with
   |none=>match aj1 tt t with
    |some m=> .ret (.map s.h.fresh,{ s with h:=s.h.new (.mh (.eS (.i 0)) m) })
    |none=> .ret (.map s.h.fresh,{ s with h:=s.h.new (.map [] 0) })
   |some _=> .fail
 | .slice t x lo hi mx=>B5 s x fun v=>match Kb s lo,Kb s hi,Kb s mx with
   |some l,some h,some m=>match v with
    | .eS e t'=>Mk tt s t t' e l h m
    | .rY id n t'=>Fe tt s t id t' (.lit 0) n l h m
    | .vM id lo n t'=>Fe tt s t id t' lo n l h m
    | .kx e=>L8 tt s t e l h m
    | .Aj z t'=>Mj tt s t z t' l h m
    |v=>match Mb tt t v l h m with
    |some v=> .ret (v,s)
    |none=>tI s (Hb tt t v l h m s.h)
   |_,_,_=> .fail
 | .fieldAddr t x f=>B5 s x fun v=>tI s (xg tt t v f)
 | .field t x f=>B5 s x fun v=>tI s (Mi tt t v f)
 | .indexAddr t x i=>B5 s x fun v=>match ev s i with
   |some i=>match v with
    | .yL k ks=>tI s (Mg tt s.pc t k ks i)
    | .eS e t'=>Ml tt s t t' e i
    | .rY id n t'=>L7 tt s t id t' n i
    | .vM id lo n t'=>L6 tt s t id t' lo n i
    | .ptr id o=>match Xx tt t i with
      |some (n,e)=>if o=0 then AN s e (.lit (Int.ofNat n)) fun s=> .ret (.BJ id 1 e 0,s) else .fail
      |none=>Kx tt t (.ptr id o) i s fun i s=>tI s (pL tt t (.ptr id o) i)
    |v=>Kx tt t v i s fun i s=>tI s (pL tt t v i)
   |none=> .fail
 | .index t x i=>B5 s x fun v=>match ev s i with
   |some i=>match v with
    | .kx e=>L9 tt s t e i
    | .agg cs=>match Xx tt t i with
      |some (n,e)=>match Nat.beq cs.length n with
       |true=>J9 s cs e
       |false=> .fail
      |none=>Kx tt t (.agg cs) i s fun i s=>tI s (BE tt t (.agg cs) i)
    |v=>Kx tt t v i s fun i s=>tI s (BE tt t v i)
   |none=> .fail
 | .lookup t m k ok=>B5 s m fun v=>match ev s k with
   |some k=>match yK v s.h with
    |some (_,e,t')=>BC tt t k ok e t' s
    |none=>pq tt t v k s fun s=>tI s (Hf tt s.pc t v k ok s.h)
   |none=> .fail
 | .mapUpdate t m k x=>B5 s m fun v=>match ev s k,ev s x with
   |some k,some x=>match yK v s.h with
    |some _=>Md tt t v k x s
    |none=>pq tt t v k s fun s=>Ss s (sG tt s.pc t v k x s.h)
   |_,_=> .fail
 | .insert t m k x=>B5 s m fun v=>match ev s k,ev s x with
   |some k,some x=>match yK v s.h with
    |some _=>Md tt t v k x s
    |none=>pq tt t v k s fun s=>Ss s (sG tt s.pc t v k x s.h)
   |_,_=> .fail
 | .range t x=>B5 s x fun v=>DH s (Mc tt t v s.h)
 | .next x isS=>B5 s x fun v=>DH s (TO v isS s.h)
 | .extract x i=>B5 s x fun v=>match v with
   | .tuple vs=>tI s (fI vs i)
   |_=> .fail
 | .call c=>Mn tt call s c
 |_=> .fail
def xQ {α:Type} (ops:List Oper) (s:St) (o:Oper) (f:St->Bool->T α):T α:=
 match o.guard with
 |none=>f s true
 |some (j,want)=>match fI ops j with
  |some oj=>match oj.dst with
   |some d=>match s.bC.get d with
    |some (.bool c)=>mg s c fun s b=>f s (b == want)
    |some (.tuple _)=>f s false
    |_=> .fail
   |none=> .fail
  |none=> .fail
def Pv (tt:TT) (call:eQ) (all:List Oper):List Oper->St->T St
 |[],s=> .ret s
 |o::rest,s=>xQ all s o fun s b=>
  if b then (Me tt call s o.op).bind fun (v,s')=>Pv tt call all rest (s'.N6 o.dst v)
  else Pv tt call all rest (s.N6 o.dst AV.undef)
inductive Ex where
 |normal
 |exit (id:Nat)
 |ret
 deriving DecidableEq,Inhabited
def xf (body:St->T (Ex×St)):Nat->St->T (Ex×St)
 |0,_=> .fail
 |n+1,s=>(body s).bind fun (e,s')=>match e with
  | .normal=>xf body n s'
  |e=> .ret (e,s')
def jD (tt:TT) (call:eQ) (draw:Nat->List Oper->St->T St) (lf:Nat):Code->St->T (Ex×St)
 | .skip,s=> .ret (.normal,s)
 | .region id ops d,s=>
   if d then (draw id ops.toList s).bind fun s'=> .ret (.normal,s')
   else (Pv tt call ops.toList ops.toList s).bind fun s'=> .ret (.normal,s')
 | .seq a b,s=>(jD tt call draw lf a s).bind fun (e,s')=>match e with
   | .normal=>jD tt call draw lf b s'
   |e=> .ret (e,s')
 | .cond c x y,s=>match ev s c with
   |some (.bool c)=>mg s c fun s b=>if b then jD tt call draw lf x s else jD tt call draw lf y s
   |_=> .fail
 | .block id b,s=>(jD tt call draw lf b s).bind fun (e,s')=>match e with
   | .exit j=> .ret (if j=id then .normal else .exit j,s')
   |e=> .ret (e,s')
 | .loop b,s=>xf (jD tt call draw lf b) lf s
 | .exit id,s=> .ret (.exit id,s)
 | .scope b,s=>jD tt call draw lf b s
 | .label _,s=> .ret (.normal,s)
 | .ret,s=> .ret (.ret,s)
 |_,_=> .fail
def cj:List AV->Nat->Tr AV->Tr AV
 |[],_,t=>t
 |v::vs,i,t=>cj vs (i+1) (t.put i (some v))
def BB (tt:TT) (s:St):ResultVar->Option AV
 | .tmp t=>s.bC.get t
 | .cell a t=>match s.bC.get a with
   |some p=>Db tt t p s.h
   |none=>none
def lE (tt:TT) (s:St):List ResultVar->Option (List AV)
 |[]=>some []
 |r::rs=>match BB tt s r with
  |none=>none
  |some v=>match lE tt s rs with
   |none=>none
   |some vs=>some (v::vs)
def Mh (tt:TT) (ft:Nat->Option Func) (hook:Nat->Option (List AV->St->T (AV×St))) (draw:eQ->Nat->Nat->List Oper->St->T St) (lf:Nat):Nat->eQ
 |0,_,_,_=> .fail
 |n+1,g,args,s=>
  match hook g with
  |some h=>h args s
  |none=>match ft g with
   |none=> .fail
   |some fn=>match fn.body with
    |none=> .fail
    |some c=>
     (jD tt (Mh tt ft hook draw lf n) (draw (Mh tt ft hook draw lf n) g) lf c { s with bC:=cj args 0 .nil }).bind fun (e,s')=>
      match e with
      | .exit _=> .fail
      |_=>match lE tt s' fn.results.toList with
       |some [v]=> .ret (v,{ s' with bC:=s.bC })
       |some vs=> .ret (.tuple vs,{ s' with bC:=s.bC })
       |none=> .fail
end
end Go.As
end
section
namespace Go.As
section
variable {h h':Array Obj} {us:List Value} {ro:Nat->Prop} {c:CK} {d:D} {v:Value} {id:Nat}
structure En where
 ρ:Nat->Int
 θ:Nat->Nat×Nat
 κ:Nat->Nat
 dm:Nat->Prop
 ro:Nat->Prop
variable {E E':En}
def dv (s:List Nat):ByteArray:=⟨(s.map UInt8.ofNat).toArray⟩
def ml (h:Array Obj) (b o:Nat):Option Value:=
 match h[b]? with
 |some (.cells c _ _)=>c[o]?
 |_=>none
theorem pO (w:World) (b o:Nat):w.cell? ⟨b,o,none⟩ = ml w.heap b o:=by
 unfold World.cell? ml
 grind
def gb (h:Array Obj) (b o:Nat) (us:List Value):Prop:= ∀i u,us[i]?=some u->ml h b (o+i)=some u
inductive Rd (ro:Nat->Prop) (h:Array Obj):CK->D->Value->Prop where
 |int (k:IntKind) (n:Int):Rd ro h (.int k) (.i n) (.int k n)
 |bool (b:Bool):Rd ro h .bool (.i (if b then 1 else 0)) (.bool b)
 |str (s:ByteArray):Rd ro h .str (vL s) (.string s)
 |nil (t:Nat):Rd ro h (.sl t) (.i 1) (.slice none 0 0)
 |wL (t:Nat) (a:Addr) (cap:Nat):Rd ro h (.sl t) (.i 2) (.slice (some a) 0 cap)
 |one (t:Nat) (c:CK) (b o cap:Nat) (ds:List D) (f:Nat->Value) (hr:rowOf t= .one c) (hc:ds.length<=cap) (hb:ro b)
  (U: ∀i d,ds[i]?=some d->ml h b (o+i)=some (f i)) (Z: ∀i d,ds[i]?=some d->Rd ro h c d (f i)):Rd ro h (.sl t) (dL ds) (.slice (some ⟨b,o,none⟩) ds.length cap)
 |many (t:Nat) (cs:List CK) (b o cap:Nat) (rows:List (List D)) (f:Nat->Nat->Value) (hr:rowOf t= .many cs) (hc:rows.length<=cap) (hb:ro b) (Y: ∀r∈rows,r.length=cs.length)
  (U: ∀i r j d,rows[i]?=some r->r[j]?=some d->ml h b (o+i*cs.length+j)=some (f i j))
  (Z: ∀i r j d c,rows[i]?=some r->r[j]?=some d->cs[j]?=some c->Rd ro h c d (f i j)):Rd ro h (.sl t) (dL (rows.map dL)) (.slice (some ⟨b,o,none⟩) rows.length cap)
theorem Rd.afT (r:Rd ro h c d v):v.oneCell'=true:=by cases r<;>rfl
theorem Rd.dq {oW:Nat->Prop} (k1: ∀b,ro b->oW b) (k2: ∀b,ro b->h'[b]?=h[b]?) (r:Rd ro h c d v):Rd oW h' c d v:=by
 have hk: ∀b o u,ro b->ml h b o=some u->ml h' b o=some u:=by
  intro b o u hb hu
  grind [ml]
 induction r with
 |int k n=>exact .int k n
 |bool b=>exact .bool b
 |str s=>exact .str s
 |nil t=>exact .nil t
 |wL t a cap=>exact .wL t a cap
 |one t c b o cap ds f hr hc hb U Z ih=>exact .one t c b o cap ds f hr hc (k1 b hb) (fun i d hi=>hk _ _ _ hb (U i d hi)) ih
 |many t cs b o cap rows f hr hc hb Y U Z ih=>exact .many t cs b o cap rows f hr hc (k1 b hb) Y (fun i r j d hi hj=>hk _ _ _ hb (U i r j d hi hj)) ih
def fJ (E:En) (id off len:Nat) (a:Addr) (cap:Nat):U2->Prop
 | .exact c=>cap=c/\((a=⟨(E.θ id).1,(E.θ id).2+off,none⟩)\/c=0)
 | .rest es=>(a=⟨(E.θ id).1,(E.θ id).2+off,none⟩/\off+cap*es=E.κ id)\/(cap=0/\len=0/\off=E.κ id)
mutual
def VR (E:En) (h:Array Obj):AV->Value->Prop
 | .bool b,v=>v= .bool (b.den E.ρ)
 | .int k e,v=>v= .int k (e.den E.ρ)
 | .str s,v=>v= .string (dv s)/\∀b∈s,b<256
 | .ptr id off,v=>v= .pointer (some ⟨(E.θ id).1,(E.θ id).2+off,none⟩)/\E.dm id
 | .vE,v=>v= .pointer none
 | .oC cs,v=> ∃b o us,v= .pointer (some ⟨b,o,none⟩)/\E.ro b/\cP E h cs us/\gb h b o us/\∀u∈us,u.oneCell'=true
 | .slice id off len c,v=>E.dm id/\∃a cap,v= .slice (some a) len cap/\len<=cap/\fJ E id off len a cap c
 | .iC,v=>v= .slice none 0 0
 | .ro cs n full,v=> ∃b o cap us,v= .slice (some ⟨b,o,none⟩) n cap/\n<=cap/\(full=true->cap=n)/\E.ro b/\cP E h cs us/\gb h b o us/\∀u∈us,u.oneCell'=true
 | .map id,v=>v= .map (some (E.θ id).1)/\E.dm id
 | .uC,v=>v= .map none
 | .func fn fs cs,v=> ∃us ws,v= .func fn us.toArray ws.toArray/\cP E h fs us/\cP E h cs ws
 | .yq,v=>v= .nilFunc
 | .iface t x,v=> ∃u,v= .iface t u/\VR E h x u
 | .zu,v=>v= .nilIface
 | .agg cs,v=> ∃us,v= .agg us.toArray/\cP E h cs us
 | .tuple cs,v=> ∃us,v= .tuple us.toArray/\cP E h cs us
 | .Ou _,_=>False
 | .emp,v=> ∃x,v= .slice x 0 0
 | .eS e t,v=>Rd E.ro h (.sl t) (dec (e.den E.ρ)) v
 | .kx e,v=>Rd E.ro h .str (dec (e.den E.ρ)) v
 | .rY id n t,v=>E.dm id/\∃(k:Nat) (a:Addr) (cap:Nat),n.den E.ρ=(k:Int)/\v= .slice (some a) k cap/\k<=cap/\fJ E id 0 k a cap (.rest (rowOf t).es)
 | .BJ id es i off,v=>E.dm id/\∃k:Nat,i.den E.ρ=(k:Int)/\v= .pointer (some ⟨(E.θ id).1,(E.θ id).2+(k*es+off),none⟩)
 | .any,_=>True
 | .Aj z t,v=>(∃x,v= .slice x 0 0)/\Rd E.ro h (.sl t) (dec (z.den E.ρ)) v
 | .vM id lo n t,v=>E.dm id/\∃(l k:Nat) (a:Addr) (cap:Nat),lo.den E.ρ=(l:Int)/\n.den E.ρ=(k:Int)/\v= .slice (some a) k cap/\k<=cap/\fJ E id (l*(rowOf t).es) k a cap (.rest (rowOf t).es)
 | .yL k ks,v=>((∃x cap,v= .slice x 0 cap)/\E.ρ (900+k)=0)\/∃b o n cap,v= .slice (some ⟨b,o,none⟩) n cap/\n<=cap/\E.ρ (900+k)=(n:Int)/\E.ro b/\
  ∀i j kd,i<n->ks[j]?=some kd->ml h b (o+i*ks.length+j)=some (.int kd (E.ρ (1000+i*64+(k*8+j))))
def cP (E:En) (h:Array Obj):List AV->List Value->Prop
 |[],us=>us= []
 |x::xs,us=> ∃u vs,us=u::vs/\VR E h x u/\cP E h xs vs
end
theorem jf:cP E h [] us↔us= []:=by simp [cP]
theorem bU {x:AV} {xs:List AV}:cP E h (x::xs) us↔∃u vs,us=u::vs/\VR E h x u/\cP E h xs vs:=by simp [cP]
theorem cP.length {E:En} {h:Array Obj}: ∀{xs:List AV} {us:List Value},cP E h xs us->us.length=xs.length
 |[],us,hh=>by rw [jf] at hh; simp [hh]
 |x::xs,us,hh=>by rw [bU] at hh;obtain⟨u,vs,rfl,_,Z⟩:=hh;simp [Z.length]
theorem cP.append {E:En} {h:Array Obj}: ∀{xs ys:List AV} {us vs:List Value},cP E h xs us->cP E h ys vs->cP E h (xs++ys) (us++vs)
 |[],_,us,vs,U,Z=>by rw [jf] at U; subst U; simpa using Z
 |x::xs,ys,us,vs,U,Z=>by rw [bU] at U;obtain⟨u,iz,rfl,hx,pR⟩:=U;simp only [aK];rw [bU];exact⟨u,iz++vs,rfl,hx,pR.append Z⟩
theorem cP.iS {E:En} {h:Array Obj}: ∀{n:Nat} {xs ys:List AV} {us:List Value},cP E h xs us->As.iS n xs=some ys->cP E h ys (us.take n)/\n<=xs.length
 |0,xs,ys,us,_,Z=>by simp [As.iS] at Z; subst Z; simp [cP]
 |n+1,[],ys,us,_,Z=>by simp [As.iS] at Z
 |n+1,x::xs,ys,us,U,Z=>by
  rw [bU] at U;obtain⟨u,vs,rfl,hx,pR⟩:=U;simp only [As.iS] at Z;split at Z
  ·rename_i l Y;simp at Z;subst Z;have:=pR.iS Y
   grind [bU]
  grind
theorem cP.fc {E:En} {h:Array Obj}: ∀{n:Nat} {xs ys:List AV} {us:List Value},cP E h xs us->As.fc n xs=some ys->cP E h ys (us.drop n)/\n<=xs.length/\ys.length=xs.length-n
 |0,xs,ys,us,U,Z=>by simp [As.fc] at Z; subst Z; simpa using U
 |n+1,[],ys,us,_,Z=>by simp [As.fc] at Z
 |n+1,x::xs,ys,us,U,Z=>by
  rw [bU] at U;obtain⟨u,vs,rfl,hx,pR⟩:=U;simp only [As.fc] at Z;have:=pR.fc Z
  grind
theorem cP.nth {E:En} {h:Array Obj}: ∀{i:Nat} {xs:List AV} {x:AV} {us:List Value},cP E h xs us->fI xs i=some x->∃u,us[i]?=some u/\VR E h x u
 |_,[],_,us,_,Z=>by simp [fI] at Z
 |0,x::xs,y,us,U,Z=>by
  rw [bU] at U;obtain⟨u,vs,rfl,hx,pR⟩:=U
  grind [fI]
 |i+1,x::xs,y,us,U,Z=>by
  rw [bU] at U;obtain⟨u,vs,rfl,hx,pR⟩:=U;simp only [fI] at Z;obtain⟨v,h3,h4⟩:=pR.nth Z
  grind
def eZ (E:En) (h:Array Obj):List (AV×AV×Nat)->List MapEntry->Prop
 |[],es=>es= []
 |(k,v,b)::xs,es=> ∃e r,es=e::r/\VR E h k e.key/\VR E h v e.val/\b=b/\eZ E h xs r
def l9 (ro:Nat->Prop) (h:Array Obj) (t:Nat):List D->List MapEntry->Prop
 |[],es=>es= []
 |d::ds,es=> ∃e r,es=e::r/\d= .p (Uy d) (ad1 d)/\Rd ro h (mapOf t).1 (Uy d) e.key/\Rd ro h (mapOf t).2 (ad1 d) e.val/\l9 ro h t ds r
theorem l9.dq {ro oW:Nat->Prop} {h h':Array Obj} (k1: ∀b,ro b->oW b) (k2: ∀b,ro b->h'[b]?=h[b]?) {t:Nat}: ∀{ds:List D} {es:List MapEntry},l9 ro h t ds es->l9 oW h' t ds es
 |[],_,hh=>hh
 |_::_,_,hh=>by obtain⟨e,r,U,Z,h3,h4,h5⟩:=hh;exact⟨e,r,U,Z,h3.dq k1 k2,h4.dq k1 k2,l9.dq k1 k2 h5⟩
theorem l9.length {ro:Nat->Prop} {h:Array Obj} {t:Nat}: ∀{ds:List D} {es:List MapEntry},l9 ro h t ds es->es.length=ds.length
 |[],_,hh=>by simp only [l9] at hh; rw [hh]; rfl
 |_::_,_,hh=>by obtain⟨e,r,U,_,_,_,h5⟩:=hh;rw [U,aT,aT,l9.length h5]
noncomputable def ek (ρ:Nat->Int) (i:Nat):List (W×List AV)->Option (List AV)
 |[]=>none
 |(j,cs)::l=>if j.den ρ=(i:Int) then some cs else ek ρ i l
noncomputable def bH (ρ:Nat->Int) (r:Row) (ov:List (W×List AV)):List D->Nat->List AV
 |[],_=>[]
 |d::ds,i=>(match ek ρ i ov with |some cs=>cs|none=>hZ r (.eS d))++bH ρ r ov ds (i+1)
def wI (r:Row) (ov:List (W×List AV)):Prop:= ∀p∈ov,p.2.length=r.es
def OR (E:En) (h:Array Obj) (id:Nat):eL->Prop
 | .cells cs e=> ∃arr lo hi us,h[(E.θ id).1]?=some (.cells arr e (lo,hi))/\cP E h cs us/\(∀i u,us[i]?=some u->arr[(E.θ id).2+i]?=some u)/\
  cs.length<=E.κ id/\(E.θ id).2+E.κ id=arr.size/\(∀o,lo<=o->o<hi->arr.size<=o)/\(∀u∈us,u.oneCell'=true)
 | .map es _=> ∃cN c,h[(E.θ id).1]?=some (.map cN c)/\eZ E h es cN.toList
 | .vec e t ty ov=>(wI (rowOf t) ov/\xw (rowOf t) (dec (e.den E.ρ)))/\∃arr lo hi us,h[(E.θ id).1]?=some (.cells arr ty (lo,hi))/\cP E h (bH E.ρ (rowOf t) ov (dec (e.den E.ρ)).l 0) us/\(∀i u,us[i]?=some u->arr[(E.θ id).2+i]?=some u)/\
  (bH E.ρ (rowOf t) ov (dec (e.den E.ρ)).l 0).length<=E.κ id/\(E.θ id).2+E.κ id=arr.size/\(∀o,lo<=o->o<hi->arr.size<=o)/\(∀u∈us,u.oneCell'=true)
 | .lH s p=>h[(E.θ id).1]?=some (.stringIter (dv s) p)/\(E.θ id).2=0/\∀b∈s,b<256
 | .mh e t=> ∃cN c,h[(E.θ id).1]?=some (.map cN c)/\l9 E.ro h t (dec (e.den E.ρ)).l cN.toList
class bN where
 ok:(Nat->Int)->(Nat->Prop)->Array Obj->Prop
 dq: ∀{ρ:Nat->Int} {ro oW:Nat->Prop} {h h':Array Obj},ok ρ ro h->(∀b,ro b->oW b)->(∀b,ro b->h'[b]?=h[b]?)->ok ρ oW h'
 jA: ∀{ρ ρ':Nat->Int} {ro:Nat->Prop} {h:Array Obj},ok ρ ro h->(∀i,900<=i->ρ' i=ρ i)->ok ρ' ro h
structure bX [bN] (E:En) (H:Hp) (w:World):Prop where
 fresh: ∀id,H.next<=id->¬E.dm id
 res: ∀r,H.res=some r->r<H.next/\¬E.dm r
 live: ∀id o,H.get id=some o->E.dm id/\OR E w.heap id o/\¬E.ro (E.θ id).1
 inj: ∀id Te o o',H.get id=some o->H.get Te=some o'->(E.θ id).1=(E.θ Te).1->id=Te
 wE: ∀b,E.ro b->b<w.heap.size
 mq:bN.ok E.ρ E.ro w.heap
structure fm (E:En) (H:Hp) (w:World) (E':En) (H':Hp) (w':World):Prop where
 ρ:E'.ρ=E.ρ
 dm: ∀id,E.dm id->E'.dm id
 θ: ∀id,E.dm id->E'.θ id=E.θ id
 κ: ∀id,E.dm id->E'.κ id=E.κ id
 ro: ∀b,E.ro b->E'.ro b
 DF: ∀b,E'.ro b->E.ro b\/(∃id o,H.get id=some o/\(E.θ id).1=b)\/w.heap.size<=b
 nxm:H.next<=H'.next
 rsm:H'.res=none\/H'.res=H.res
 dmn: ∀id,E'.dm id->E.dm id\/(H.next<=id/\id<H'.next)\/H.res=some id
 os:w'.os=w.os
 tape:w'.tape=w.tape
 output:w'.output=w.output
 size:w.heap.size<=w'.heap.size
 dq: ∀b,b<w.heap.size->(∀id o,H.get id=some o->(E.θ id).1≠b)->w'.heap[b]?=w.heap[b]?
 own: ∀id o,H'.get id=some o->(E'.θ id).1<w.heap.size->∃Ae o0,H.get Ae=some o0/\(E.θ Ae).1=(E'.θ id).1
theorem fm.refl (E:En) (H:Hp) (w:World):fm E H w E H w:=
 ⟨rfl,fun _ h=>h,fun _ _=>rfl,fun _ _=>rfl,fun _ h=>h,fun _ h=> .inl h,au _,.inr rfl,fun _ h=> .inl h,rfl,rfl,rfl,au _,fun _ _ _=>rfl,fun id o h _=> ⟨id,o,h,rfl⟩⟩
theorem fm.trans {E1 E2:En} {H H1 H2:Hp} {w w1 w2:World} (a:fm E H w E1 H1 w1) (b:fm E1 H1 w1 E2 H2 w2):fm E H w E2 H2 w2 where
 ρ:=b.ρ.trans a.ρ
 dm:=fun id h=>b.dm id (a.dm id h)
 θ:=fun id h=>(b.θ id (a.dm id h)).trans (a.θ id h)
 κ:=fun id h=>(b.κ id (a.dm id h)).trans (a.κ id h)
 ro:=fun x h=>b.ro x (a.ro x h)
 DF:=fun x h=>by
  rcases b.DF x h with h|⟨id,o,U,Z⟩|h
  ·exact a.DF x h
  ·rcases aX x w.heap.size with hx|hx
   ·obtain⟨Ae,o0,h3,h4⟩:=a.own id o U (by rw [Z]; exact hx);exact .inr (.inl ⟨Ae,o0,h3,h4.trans Z⟩)
   ·exact .inr (.inr hx)
  ·exact .inr (.inr (awP a.size h))
 nxm:=awP a.nxm b.nxm
 rsm:=by
  rcases b.rsm with h|h
  ·exact .inl h
  ·rw [h]; exact a.rsm
 dmn:=fun id h=>by
  rcases b.dmn id h with h|h|h
  ·rcases a.dmn id h with h|h|h
   ·exact .inl h
   ·exact .inr (.inl ⟨h.1,axf h.2 b.nxm⟩)
   ·exact .inr (.inr h)
  ·exact .inr (.inl ⟨awP a.nxm h.1,h.2⟩)
  ·rcases a.rsm with h'|h'
   ·rw [h'] at h; simp at h
   ·exact .inr (.inr (h'.symm.trans h))
 os:=b.os.trans a.os
 tape:=b.tape.trans a.tape
 output:=b.output.trans a.output
 size:=awP a.size b.size
 dq:=fun x hx hn=>by rw [b.dq x (axf hx a.size) ?_,a.dq x hx hn];intro id o ho he;obtain⟨Ae,o0,h0,he0⟩:=a.own id o ho (by rw [he]; exact hx);exact hn Ae o0 h0 (he0.trans he)
 own:=fun id o ho gk=>by obtain⟨id1,o1,U,Ts⟩:=b.own id o ho (axf gk a.size);obtain⟨Ae,o0,h0,he0⟩:=a.own id1 o1 U (by rw [Ts]; exact gk);exact⟨Ae,o0,h0,he0.trans Ts⟩
structure kJ (E:En) (h:Array Obj) (E':En) (h':Array Obj):Prop where
 ρ:E'.ρ=E.ρ
 dm: ∀id,E.dm id->E'.dm id
 θ: ∀id,E.dm id->E'.θ id=E.θ id
 κ: ∀id,E.dm id->E'.κ id=E.κ id
 ro: ∀b,E.ro b->E'.ro b
 FU: ∀b,E.ro b->h'[b]?=h[b]?
theorem fm.keeps [bN] {H H':Hp} {w w':World} (s:fm E H w E' H' w') (r:bX E H w):kJ E w.heap E' w'.heap:=
 ⟨s.ρ,s.dm,s.θ,s.κ,s.ro,fun b hb=>s.dq b (r.wE b hb) fun id o ho he=>(r.live id o ho).2.2 (by rw [he]; exact hb)⟩
theorem gb.dq (k:kJ E h E' h') {b o:Nat} (hb:E.ro b) (hc:gb h b o us):gb h' b o us:=by
 intro i u hu;have:=hc i u hu;unfold ml at *;rw [k.FU b hb]
 grind
theorem fJ.dq (k:kJ E h E' h') {off len:Nat} {a:Addr} {cap:Nat} {c:U2} (hid:E.dm id) (hc:fJ E id off len a cap c):fJ E' id off len a cap c:=by
 cases c<;>simp only [fJ] at*<;>rw [k.θ id hid]
 ·exact hc
 ·rw [k.κ id hid]; exact hc
mutual
theorem VR.dq {E E':En} {h h':Array Obj} (k:kJ E h E' h'): ∀(x:AV) (v:Value),VR E h x v->VR E' h' x v
 | .bool b,v,hv=>by simp only [VR] at *; rw [k.ρ]; exact hv
 | .int _ e,v,hv=>by simp only [VR] at *; rw [k.ρ]; exact hv
 | .str s,v,hv=>by simp only [VR] at *; exact hv
 | .ptr id off,v,hv=>by simp only [VR] at *; rw [k.θ id hv.2]; exact⟨hv.1,k.dm _ hv.2⟩
 | .vE,v,hv=>by simp only [VR] at *; exact hv
 | .oC cs,v,hv=>by simp only [VR] at *;obtain⟨b,o,us,U,Z,h3,h4,h5⟩:=hv;exact⟨b,o,us,U,k.ro b Z,cP.dq k cs us h3,h4.dq k Z,h5⟩
 | .slice id off len c,v,hv=>by simp only [VR] at *;obtain⟨U,a,cap,Z,h3,h4⟩:=hv;exact⟨k.dm _ U,a,cap,Z,h3,h4.dq k U⟩
 | .iC,v,hv=>by simp only [VR] at *; exact hv
 | .ro cs n full,v,hv=>by simp only [VR] at *;obtain⟨b,o,cap,us,U,Z,h3,h4,h5,h6,h7⟩:=hv;exact⟨b,o,cap,us,U,Z,h3,k.ro b h4,cP.dq k cs us h5,h6.dq k h4,h7⟩
 | .map id,v,hv=>by simp only [VR] at *; rw [k.θ id hv.2]; exact⟨hv.1,k.dm _ hv.2⟩
 | .uC,v,hv=>by simp only [VR] at *; exact hv
 | .func fn fs cs,v,hv=>by simp only [VR] at *;obtain⟨us,ws,U,Z,h3⟩:=hv;exact⟨us,ws,U,cP.dq k fs us Z,cP.dq k cs ws h3⟩
 | .yq,v,hv=>by simp only [VR] at *; exact hv
 | .iface t x,v,hv=>by simp only [VR] at *;obtain⟨u,U,Z⟩:=hv;exact⟨u,U,VR.dq k x u Z⟩
 | .zu,v,hv=>by simp only [VR] at *; exact hv
 | .agg cs,v,hv=>by exact ahT
 | .tuple cs,v,hv=>by exact ahT
 | .Ou _,v,hv=>by simp only [VR] at hv
 | .emp,v,hv=>by simp only [VR] at *; exact hv
 | .eS e t,v,hv=>by simp only [VR] at *; rw [k.ρ]; exact hv.dq k.ro k.FU
 | .kx e,v,hv=>by simp only [VR] at *; rw [k.ρ]; exact hv.dq k.ro k.FU
 | .rY id n t,v,hv=>by simp only [VR] at *;obtain⟨U,m,a,cap,Z,h3,h4,h5⟩:=hv;exact⟨k.dm _ U,m,a,cap,by rw [k.ρ]; exact Z,h3,h4,h5.dq k U⟩
 | .any,_,_=>by simp only [VR]
 | .Aj z t,v,hv=>by simp only [VR] at *; rw [k.ρ]; exact⟨hv.1,hv.2.dq k.ro k.FU⟩
 | .vM id lo n t,v,hv=>by simp only [VR] at *;obtain⟨U,l,m,a,cap,Z,h3,h4,h5,h6⟩:=hv;exact⟨k.dm _ U,l,m,a,cap,by rw [k.ρ]; exact Z,by rw [k.ρ]; exact h3,h4,h5,h6.dq k U⟩
 | .BJ id es i off,v,hv=>by simp only [VR] at *;obtain⟨U,m,Z,h3⟩:=hv;exact⟨k.dm _ U,m,by rw [k.ρ]; exact Z,by rw [k.θ id U]; exact h3⟩
 | .yL kk ks,v,hv=>by
   simp only [VR] at *;rw [k.ρ];rcases hv with hv|⟨b,o,n,cap,U,Z,h3,h4,h5⟩
   ·grind
   ·refine .inr ⟨b,o,n,cap,U,Z,h3,k.ro b h4,fun i j kd hi hj=>?_⟩;have:=h5 i j kd hi hj;unfold ml at *;rw [k.FU b h4]
    grind
theorem cP.dq {E E':En} {h h':Array Obj} (k:kJ E h E' h'): ∀(xs:List AV) (us:List Value),cP E h xs us->cP E' h' xs us
 |[],us,hv=>by simp only [cP] at *; exact hv
 |x::xs,us,hv=>by simp only [cP] at *;obtain⟨u,vs,U,Z,h3⟩:=hv;exact⟨u,vs,U,VR.dq k x u Z,cP.dq k xs vs h3⟩
end
theorem eZ.dq {E E':En} {h h':Array Obj} (k:kJ E h E' h'): ∀(xs:List (AV×AV×Nat)) (es:List MapEntry),eZ E h xs es->eZ E' h' xs es
 |[],es,hv=>by simp only [eZ] at *; exact hv
 |(a,b,c)::xs,es,hv=>by simp only [eZ] at *;obtain⟨e,r,U,Z,h3,h4,h5⟩:=hv;exact⟨e,r,U,VR.dq k _ _ Z,VR.dq k _ _ h3,h4,eZ.dq k xs r h5⟩
theorem OR.dq (k:kJ E h E' h') {o:eL} (hid:E.dm id) (hb:h'[(E.θ id).1]?=h[(E.θ id).1]?) (ho:OR E h id o):OR E' h' id o:=by
 cases o with
 |cells cs e=> simp only [OR] at *;obtain⟨arr,lo,hi,us,U,Z,h3,h4,h5,h6,h7⟩:=ho;rw [k.θ id hid,k.κ id hid,hb];exact⟨arr,lo,hi,us,U,cP.dq k cs us Z,h3,h4,h5,h6,h7⟩
 |map es c=>
  simp only [OR] at *;obtain⟨cN,c,U,Z⟩:=ho;rw [k.θ id hid,hb]
  grind [eZ.dq]
 |lH s p=> simp only [OR] at *;rw [k.θ id hid,hb];exact ho
 |mh e t=> simp only [OR] at *;obtain⟨cN,c,U,Z⟩:=ho;rw [k.θ id hid,hb,k.ρ];exact⟨cN,c,U,Z.dq k.ro k.FU⟩
 |vec e t ty ov=> simp only [OR] at *;obtain⟨h0,arr,lo,hi,us,U,Z,h3,h4,h5,h6,h7⟩:=ho;rw [k.θ id hid,k.κ id hid,hb,k.ρ];exact⟨h0,arr,lo,hi,us,U,cP.dq k _ us Z,h3,h4,h5,h6,h7⟩
end
end Go.As
end
section
namespace Go.As
section
variable {H:Hp} {w w':World} {id i:Nat} {o:eL}
theorem Hp.bS (h:Hp) (i:Nat) (o:eL) (j:Nat):(h.put i o).get j=if j=i then some o else h.get j:=by simp [Hp.get,Hp.put,Tr.bS]
theorem Hp.gL (h:Hp) (o:eL) (j:Nat):(h.new o).get j=if j=h.fresh then some o else h.get j:=by
 grind [Hp.new,Hp.fresh,Hp.get,Tr.bS]
theorem bX.ae3 [bN] {E:En} (r:bX E H w): ¬E.dm H.fresh:=by
 unfold Hp.fresh
 cases hr:H.res with
 |none=>exact r.fresh _ (au _)
 |some x=>exact (r.res x hr).2
theorem bX.vD [bN] {E:En} (r:bX E H w) (h:E.dm i):i≠H.fresh:=fun e=>r.ae3 (e▸h)
theorem Hp.pK (h:Hp) (i j:Nat):(h.drop i).get j=if j=i then none else h.get j:=by simp [Hp.get,Hp.drop,Tr.bS]
def En.ext (E:En) (n:Nat) (p:Nat×Nat) (c:Nat):En:=
 { E with θ:=fun i=>if i=n then p else E.θ i,κ:=fun i=>if i=n then c else E.κ i,dm:=fun i=>i=n\/E.dm i }
variable {E:En}
theorem En.ext_θ_new (E:En) (n:Nat) (p:Nat×Nat) (c:Nat):(E.ext n p c).θ n=p:=by simp [En.ext]
theorem En.ext_κ_new (E:En) (n:Nat) (p:Nat×Nat) (c:Nat):(E.ext n p c).κ n=c:=by simp [En.ext]
theorem En.iH (E:En) (n:Nat) (p:Nat×Nat) (c:Nat):(E.ext n p c).dm n:=.inl rfl
theorem En.ext_θ (E:En) (n:Nat) (p:Nat×Nat) (c:Nat) (h:i≠n):(E.ext n p c).θ i=E.θ i:=by simp [En.ext,h]
theorem En.ext_κ (E:En) (n:Nat) (p:Nat×Nat) (c:Nat) (h:i≠n):(E.ext n p c).κ i=E.κ i:=by simp [En.ext,h]
theorem J8 [bN] (r:bX E H w) (p:Nat×Nat) (c:Nat) (o:eL):(∀id,(H.new o).next<=id->¬(E.ext H.fresh p c).dm id)/\∀q,(H.new o).res=some q->q<(H.new o).next/\¬(E.ext H.fresh p c).dm q:=by
 have U:=r.fresh;have Z:=r.res;unfold Hp.new Hp.fresh
 cases hr:H.res with
 |none=>
  refine⟨fun id hid V=>?_,ad⟩;simp at hid;rcases V with V|V
  all_goals grind
 |some q=>
  refine⟨fun id hid V=>?_,ad⟩;simp at hid;have:=Z q hr;rcases V with V|V
  all_goals grind
theorem tM (H:Hp) (o:eL):H.next<=(H.new o).next/\((H.new o).res=none\/(H.new o).res=H.res)/\∀id,id=H.fresh->(H.next<=id/\id<(H.new o).next)\/H.res=some id:=by
 grind [Hp.new,Hp.fresh]
structure Alike (w w':World):Prop where
 os:w'.os=w.os
 tape:w'.tape=w.tape
 output:w'.output=w.output
theorem F8 {h:Array Obj} {o:Obj} {b:Nat} (hb:b<h.size):(h.push o)[b]?=h[b]?:=by
 grind
theorem Gx [bN] (r:bX E H w) (p:Nat×Nat) (c:Nat) (o:Obj):kJ E w.heap (E.ext H.fresh p c) (w.heap.push o):=
 ⟨rfl,fun _ h=> .inr h,fun _ h=>En.ext_θ E _ p c (r.vD h),fun _ h=>En.ext_κ E _ p c (r.vD h),fun _ h=>h,fun b hb=>F8 (r.wE b hb)⟩
theorem ic [bN] (r:bX E H w) (h:H.get id=some o):(E.θ id).1<w.heap.size:=by
 have Z:=(r.live id o h).2.1
 cases o with
 |cells cs e=>
  obtain⟨arr,lo,hi,us,U,_⟩:=Z
  grind
 |map es c=>
  obtain⟨cN,c',U,_⟩:=Z
  grind
 |lH s p=>exact (axa.1 Z.1).1
 |mh e t=>
  obtain⟨cN,c',U,_⟩:=Z
  grind
 |vec e t ty ov=>
  obtain⟨_,arr,lo,hi,us,U,_⟩:=Z
  grind
theorem AR [bN] (r:bX E H w) (o:Obj) (ao:eL) (c:Nat) (hw:w'.heap=w.heap.push o) (al:Alike w w')
 (ho:OR (E.ext H.fresh (w.heap.size,0) c) w'.heap H.fresh ao) :
 fm E H w (E.ext H.fresh (w.heap.size,0) c) (H.new ao) w'/\bX (E.ext H.fresh (w.heap.size,0) c) (H.new ao) w':=by
 have k:=Gx r (w.heap.size,0) c o;rw [<- hw] at k;have hf:=J8 r (w.heap.size,0) c ao;refine⟨⟨k.ρ,k.dm,k.θ,k.κ,k.ro,fun _ h=> .inl h,(tM H ao).1,(tM H ao).2.1,fun id h=>h.elim (fun e=> .inr ((tM H ao).2.2 id e)) .inl,al.os,al.tape,al.output,by rw [hw]; simp,fun b hb _=>by rw [hw,F8 hb],?_⟩,⟨hf.1,hf.2,?_,?_,?_,bN.dq r.mq k.ro k.FU⟩⟩
 ·intro id o2 Z gk;rw [Hp.gL] at Z;split at Z
  ·rename_i he
   grind [En.ext_θ_new]
  ·have h3:=(r.live id o2 Z).1;exact⟨id,o2,Z,by rw [En.ext_θ _ _ _ _ (r.vD h3)]⟩
 ·intro id o2 Z;rw [Hp.gL] at Z;split at Z
  ·rename_i he;simp at Z;subst Z;rw [he,En.ext_θ_new];refine⟨En.iH _ _ _ _,ho,fun hr=>?_⟩;have:=r.wE _ hr
   grind
  ·obtain⟨h3,h4,h5⟩:=r.live id o2 Z;refine⟨.inr h3,h4.dq k h3 ?_,?_⟩
   ·grind [F8,ic]
   ·rw [En.ext_θ _ _ _ _ (r.vD h3)]; exact h5
 ·intro id Te o1 o2 U Z he;rw [Hp.gL] at U Z;split at U<;>split at Z
  ·omega
  ·rename_i e1 _;have h3:=(r.live Te o2 Z).1;rw [e1,En.ext_θ_new,En.ext_θ _ _ _ _ (r.vD h3)] at he;have:=ic r Z
   grind
  ·rename_i _ e1;have h3:=(r.live id o1 U).1;rw [e1,En.ext_θ_new,En.ext_θ _ _ _ _ (r.vD h3)] at he;have:=ic r U
   grind
  ·have h3:=(r.live id o1 U).1;have h4:=(r.live Te o2 Z).1;rw [En.ext_θ _ _ _ _ (r.vD h3),En.ext_θ _ _ _ _ (r.vD h4)] at he;exact r.inj id Te o1 o2 U Z he
 ·intro b hb;have:=r.wE b hb
  grind
theorem pA [bN] (r:bX E H w) (Y:H.get id=some o)
 (sW: ∀b,b≠(E.θ id).1->w'.heap[b]?=w.heap[b]?):kJ E w.heap E w'.heap:=
 ⟨rfl,fun _ h=>h,fun _ _=>rfl,fun _ _=>rfl,fun _ h=>h,fun b hb=>sW b fun e=>(r.live id o Y).2.2 (by rw [<- e]; exact hb)⟩
theorem Oe [bN] (r:bX E H w) (Y:H.get id=some o) (ao:eL)
 (abm:w'.heap.size=w.heap.size) (sW: ∀b,b≠(E.θ id).1->w'.heap[b]?=w.heap[b]?) (al:Alike w w') (ho:OR E w'.heap id ao) :
 fm E H w E (H.put id ao) w'/\bX E (H.put id ao) w':=by
 have k:=pA r Y sW;refine⟨⟨rfl,fun _ h=>h,fun _ _=>rfl,fun _ _=>rfl,fun _ h=>h,fun _ h=> .inl h,au _,.inr rfl,fun _ h=> .inl h,al.os,al.tape,al.output,J,?_,?_⟩,⟨r.fresh,r.res,?_,?_,?_,bN.dq r.mq k.ro k.FU⟩⟩
 ·intro b _ hn
  grind
 ·intro j o2 Z _
  grind [Hp.bS]
 ·intro j o2 Z;rw [Hp.bS] at Z;split at Z
  ·rename_i e;subst e;simp at Z;subst Z;exact⟨(r.live j o Y).1,ho,(r.live j o Y).2.2⟩
  ·rename_i e;obtain⟨h3,h4,h5⟩:=r.live j o2 Z;refine⟨h3,h4.dq k h3 (sW _ fun e2=>e (r.inj j id o2 o Z Y e2)),h5⟩
 ·intro i j o1 o2 U Z he;rw [Hp.bS] at U Z;split at U<;>split at Z
  ·omega
  ·rename_i e1 _; subst e1; exact r.inj i j o o2 Y Z he
  ·rename_i _ e1; subst e1; exact r.inj i j o1 o U Y he
  ·exact r.inj i j o1 o2 U Z he
 ·intro b hb;rw [abm];exact r.wE b hb
theorem Ki [bN] (r:bX E H w) (id:Nat):fm E H w E (H.drop id) w/\bX E (H.drop id) w:=by
 have hg: ∀j o,(H.drop id).get j=some o->H.get j=some o:=by
  intro j o h
  grind [Hp.pK]
 exact⟨⟨rfl,fun _ h=>h,fun _ _=>rfl,fun _ _=>rfl,fun _ h=>h,fun _ h=> .inl h,au _,.inr rfl,fun _ h=> .inl h,rfl,rfl,rfl,au _,fun _ _ _=>rfl,fun j o h _=> ⟨j,o,hg j o h,rfl⟩⟩,
  ⟨r.fresh,r.res,fun j o h=>r.live j o (hg j o h),fun i j o1 o2 U Z he=>r.inj i j o1 o2 (hg _ _ U) (hg _ _ Z) he,r.wE,r.mq⟩⟩
theorem Sv [bN] (r:bX E H w) (Y:H.get id=some o) (ao:eL) (off c:Nat)
 (abm:w'.heap.size=w.heap.size) (sW: ∀b,b≠(E.θ id).1->w'.heap[b]?=w.heap[b]?) (al:Alike w w')
 (ho:OR (E.ext H.fresh ((E.θ id).1,(E.θ id).2+off) c) w'.heap H.fresh ao) :
 fm E H w (E.ext H.fresh ((E.θ id).1,(E.θ id).2+off) c) ((H.drop id).new ao) w'/\bX (E.ext H.fresh ((E.θ id).1,(E.θ id).2+off) c) ((H.drop id).new ao) w':=by
 have hdn:(H.drop id).fresh=H.fresh:=rfl;have hf:=J8 (Ki r id).2 ((E.θ id).1,(E.θ id).2+off) c ao;rw [hdn] at hf
 have k:kJ E w.heap (E.ext H.fresh ((E.θ id).1,(E.θ id).2+off) c) w'.heap:=
  ⟨rfl,fun _ h=> .inr h,fun _ h=>En.ext_θ E _ _ c (r.vD h),fun _ h=>En.ext_κ E _ _ c (r.vD h),fun _ h=>h,(pA r Y sW).FU⟩
 have hg: ∀j o2,((H.drop id).new ao).get j=some o2->(j=H.fresh/\o2=ao)\/(j≠id/\H.get j=some o2):=by
  intro j o2 h
  grind [Hp.gL,Hp.pK]
 refine⟨⟨rfl,k.dm,k.θ,k.κ,k.ro,fun _ h=> .inl h,(tM (H.drop id) ao).1,(tM (H.drop id) ao).2.1,fun j h=>h.elim (fun e=> .inr ((tM (H.drop id) ao).2.2 j e)) .inl,al.os,al.tape,al.output,J,?_,?_⟩,⟨hf.1,hf.2,?_,?_,?_,bN.dq r.mq k.ro k.FU⟩⟩
 ·intro b _ hn
  grind
 ·intro j o2 Z gk;rcases hg j o2 Z with ⟨rfl,rfl⟩|⟨_,h3⟩
  ·grind [En.ext_θ_new]
  ·have:=(r.live j o2 h3).1;exact⟨j,o2,h3,by rw [En.ext_θ _ _ _ _ (r.vD this)]⟩
 ·intro j o2 Z;rcases hg j o2 Z with ⟨rfl,rfl⟩|⟨jK,h3⟩
  ·rw [En.ext_θ_new];exact⟨En.iH _ _ _ _,ho,(r.live id o Y).2.2⟩
  ·obtain⟨h4,h5,h6⟩:=r.live j o2 h3;refine⟨.inr h4,h5.dq k h4 (sW _ fun e=>jK (r.inj j id o2 o h3 Y e)),?_⟩;rw [En.ext_θ _ _ _ _ (r.vD h4)]; exact h6
 ·intro i j o1 o2 U Z he;rcases hg i o1 U with ⟨e1,_⟩|⟨e1,h3⟩ <;>rcases hg j o2 Z with ⟨e2,_⟩|⟨e2,h4⟩
  ·omega
  ·have:=(r.live j o2 h4).1;rw [e1,En.ext_θ_new,En.ext_θ _ _ _ _ (r.vD this)] at he;exact absurd (r.inj id j o o2 Y h4 he).symm e2
  ·have:=(r.live i o1 h3).1;rw [e2,En.ext_θ_new,En.ext_θ _ _ _ _ (r.vD this)] at he;exact absurd (r.inj i id o1 o h3 Y he) e1
  ·have h5:=(r.live i o1 h3).1;have h6:=(r.live j o2 h4).1;rw [En.ext_θ _ _ _ _ (r.vD h5),En.ext_θ _ _ _ _ (r.vD h6)] at he;exact r.inj i j o1 o2 h3 h4 he
 ·intro b hb;rw [abm];exact r.wE b hb
end
def LO:Value->Bool
 | .agg _=>true
 |_=>false
def x! (P:Program):TypeDesc->Option TK
 | .bool=>some .bool
 | .int k=>some (.int k)
 | .string=>some .string
 | .pointer e=>some (.pointer e)
 | .slice e=>some (.slice e)
 | .array n e=>some (.array n e)
 | .map k e=>some (.map k e)
 | .struct fs=>(fs.toList.mapM fun f=>(P.info? f.type).map fun i=>(f.offset,f.type,i.size)).map .struct
 | .func _ _ _=>some .func
 | .interface ms=>some (.iface ms.isEmpty)
 | .tuple _=>some .tuple
 |_=>none
def abX (P:Program) (t:Nat):Bool:=
 match P.underlying t with
 |some (.struct fs)=>!P.stoodInHeld t&&!P.eqGuardType P.depth t&&fs.toList.all fun f=>f.name != "_"&&(match P.underlying f.type with |some .bool|some .string|some (.int _)=>true|_=>false)
 |_=>false
def arz (i:TypeInfo) (z:Value) (k:TK) (q:Bool):Option TI:=
 match lB z.cells.toList with
 |some zs=>if LO z=k.agg then some { kind:=k,size:=i.size,bytes:=i.bytes,zero:=zs,eqs:=q } else none
 |none=>none
def afd (P:Program) (t:Nat):Option TI:=
 match P.info? t with
 |none=>none
 |some i=>match P.underlying t with
  |none=>none
  |some d=>match x! P d with
   |none=>none
   |some k=>match i.zero with
    |none=>none
    |some z=>arz i z k (abX P t)
section
variable {E:En} {h:Array Obj} {v:Value} {P:Program} {w:World} {b o n id:Nat} {us:List Value} {a x:AV} {cs:List AV} {e:TypeId} {H:Hp}
theorem gA (b o n:Nat):(⟨b,o,none⟩ : Addr).add n=⟨b,o+n,none⟩:=by unfold Addr.add; split<;>simp_all
def UZ (P:Program):TypeDesc->TK->Prop
 | .bool,.bool=>True
 | .int k,.int k'=>k=k'
 | .string,.string=>True
 | .pointer e,.pointer e'=>e=e'
 | .slice e,.slice e'=>e=e'
 | .array n e,.array n' e'=>n=n'/\e=e'
 | .map k e,.map k' e'=>k=k'/\e=e'
 | .struct fs,.struct l=>(fs.toList.mapM fun f=>(P.info? f.type).map fun i=>(f.offset,f.type,i.size))=some l
 | .func _ _ _,.func=>True
 | .interface _,.iface _=>True
 | .tuple _,.tuple=>True
 |_,_=>False
structure oe (P:Program) (t:Nat) (i:TI):Prop where
 eqs:i.eqs=true->abX P t=true
 all: ∃inf d z,P.info? t=some inf/\P.underlying t=some d/\inf.zero=some z/\lB z.cells.toList=some i.zero/\inf.size=i.size/\inf.bytes=i.bytes/\UZ P d i.kind/\LO z=i.agg
def eP (P:Program) (tt:TT):Prop:= ∀t i,tt t=some i->oe P t i
theorem afb {d:TypeDesc} {k:TK} (h:x! P d=some k):UZ P d k:=by
 cases d
 case struct fs=>
  simp only [x!,aO] at h;obtain⟨l,U,rfl⟩:=h;exact U
 all_goals first
  |(simp only [x!,ah] at h; subst h; simp [UZ]; done)
  |(simp [x!] at h; done)
theorem afc {t:Nat} {i:TI} (h:afd P t=some i):oe P t i:=by
 unfold afd at h;split at h
 ·grind
 ·rename_i inf U;split at h
  ·grind
  ·rename_i d Z;split at h
   ·grind
   ·rename_i k hk;split at h
    ·grind
    ·rename_i z h3;unfold arz at h;split at h
     ·rename_i zs h4;split at h
      ·rename_i ha;simp only [ah] at h;subst h;exact⟨fun hq=>hq,inf,d,z,U,Z,h3,h4,rfl,rfl,afb hk,ha⟩
      grind
     grind
theorem lx (s:ByteArray):dv (bytesOf s)=s:=by
 unfold dv bytesOf
 have:(List.map UInt8.ofNat (List.map (fun x=>x.toNat) s.data.toList))=s.data.toList:=by
  rw [axd]
  conv=>rhs; rw [<- axV s.data.toList]
  apply axn;intro b _;simp
 rw [this]
theorem zT (s:ByteArray): ∀b∈bytesOf s,b<256:=by intro b hb;unfold bytesOf at hb;rw [aQ] at hb;obtain⟨c,_,rfl⟩:=hb;exact c.toNat_lt
theorem DP (hv:hJ v=some a):VR E h a v/\v.oneCell'=true:=by
 cases v with
 |bool b=>simp [hJ] at hv; subst hv; simp [VR,SB.den,Value.oneCell']
 |int k n=>simp [hJ] at hv; subst hv; simp [VR,W.den,Value.oneCell']
 |string s=>simp [hJ] at hv; subst hv; exact⟨by simp only [VR]; exact⟨by rw [lx],zT s⟩,rfl⟩
 |pointer a=>cases a<;>simp [hJ] at hv; subst hv; simp [VR,Value.oneCell']
 |slice a l c=>
  cases a with
  |some a=>simp [hJ] at hv
  |none=>
   cases l with
   |succ l=>simp [hJ] at hv
   |zero=>cases c with
    |succ c=>simp [hJ] at hv
    |zero=>simp [hJ] at hv; subst hv; simp [VR,Value.oneCell']
 |map r=>cases r<;>simp [hJ] at hv; subst hv; simp [VR,Value.oneCell']
 |nilFunc=>simp [hJ] at hv; subst hv; simp [VR,Value.oneCell']
 |nilIface=>simp [hJ] at hv; subst hv; simp [VR,Value.oneCell']
 |func fn f c=>
  simp only [hJ] at hv;split at hv
  ·rename_i hx;simp at hx hv;subst hv;obtain⟨rfl,rfl⟩:=hx;exact⟨by simp only [VR]; exact⟨[],[],rfl,rfl,rfl⟩,rfl⟩
  grind
 |_=>simp [hJ] at hv
theorem fC {E:En} {h:Array Obj}: ∀{vs:List Value} {awN:List AV},lB vs=some awN->cP E h awN vs/\∀v∈vs,v.oneCell'=true
 |[],awN,hv=>by simp [lB] at hv; subst hv; simp [cP]
 |v::vs,awN,hv=>by
  simp only [lB] at hv;split at hv
  ·grind
  ·rename_i a ha;split at hv
   ·grind
   ·rename_i as' has;simp at hv;subst hv;have U:=DP (E:=E) (h:=h) ha;have Z:=fC (E:=E) (h:=h) has;refine⟨by rw [bU]; exact⟨v,vs,rfl,U.1,Z.1⟩,?_⟩;intro u hu
    grind
theorem SI (hv:ofConst v=some a):VR E h a v:=by
 cases v with
 |agg cs=> exact aim
 |tuple cs=> exact aim
 |_=>exact (DP (by simpa [ofConst] using hv)).1
theorem VR.one (hv:VR E h x v) (U:x.one=true):v.oneCell'=true:=by
 cases x with
 |agg cs=>simp [AV.one] at U
 |tuple cs=>simp [AV.one] at U
 |Ou i=>simp [AV.one] at U
 |yL k ks=>simp only [VR] at hv; rcases hv with ⟨⟨x,cap,rfl⟩,_⟩|⟨b,o,n,cap,rfl,_⟩ <;>rfl
 |slice id off len c=>simp only [VR] at hv; obtain⟨_,a,cap,rfl,_⟩:=hv; rfl
 |ro cs n full=>simp only [VR] at hv; obtain⟨b,o,cap,us,rfl,_⟩:=hv; rfl
 |oC cs=>simp only [VR] at hv; obtain⟨b,o,us,rfl,_⟩:=hv; rfl
 |func fn fs cs=>simp only [VR] at hv; obtain⟨us,ws,rfl,_⟩:=hv; rfl
 |iface t x=>simp only [VR] at hv; obtain⟨u,rfl,_⟩:=hv; rfl
 |str s=>simp only [VR] at hv; rw [hv.1]; rfl
 |ptr id off=>simp only [VR] at hv; rw [hv.1]; rfl
 |map id=>simp only [VR] at hv; rw [hv.1]; rfl
 |emp=>simp only [VR] at hv; obtain⟨x,rfl⟩:=hv; rfl
 |eS e t=>simp only [VR] at hv; exact hv.afT
 |kx e=>simp only [VR] at hv; exact hv.afT
 |rY id n t=>simp only [VR] at hv; obtain⟨_,k,a,cap,_,rfl,_⟩:=hv; rfl
 |vM id lo n t=>simp only [VR] at hv; obtain⟨_,l,k,a,cap,_,_,rfl,_⟩:=hv; rfl
 |any=>simp [AV.one] at U
 |Aj z t=>simp only [VR] at hv; obtain⟨⟨x,rfl⟩,_⟩:=hv; rfl
 |BJ id es i off=>simp only [VR] at hv; obtain⟨_,k,_,rfl⟩:=hv; rfl
 |_=>simp only [VR] at hv; rw [hv]; rfl
theorem cP.tK {E:En} {h:Array Obj}: ∀{xs:List AV} {us:List Value},cP E h xs us->tl xs=true->∀u∈us,u.oneCell'=true
 |[],us,hv,_=>by rw [jf] at hv; subst hv; simp
 |x::xs,us,hv,U=>by
  rw [bU] at hv;obtain⟨u,vs,rfl,Z,h3⟩:=hv;simp [tl] at U;intro y hy;rcases aF.1 hy with rfl|hy
  ·exact Z.one U.1
  ·exact h3.tK U.2 y hy
theorem VR.cells (hv:VR E h x v) (U:tl x.cells=true):cP E h x.cells v.cells.toList:=by
 cases x with
 |agg cs=> simp only [VR] at hv;obtain⟨us,rfl,Z⟩:=hv;simpa [AV.cells,Value.cells] using Z
 |_=>
  all_goals
   simp only [AV.cells] at U ⊢;have Z:=hv.one (by simpa [tl] using U);rw [bU];refine⟨v,[],?_,hv,rfl⟩;cases v<;>first |rfl|simp [Value.oneCell'] at Z
theorem tF (hn:us.length=n) (h:gb w.heap b o us) :
 (loadCells ⟨b,o,none⟩ n).run P w= .ok us.toArray w:=by
 subst hn;refine run_loadCells_list w _ us fun j v hj=>?_;rw [gA,pO];exact h j v hj
theorem gb.drop (hc:gb h b o us) (k:Nat):gb h b (o+k) (us.drop k):=by
 intro i u hu;rw [axF] at hu;have:=hc (k+i) u hu
 grind
theorem gb.take (hc:gb h b o us) (k:Nat):gb h b o (us.take k):=by
 intro i u hu;rw [axu] at hu;split at hu
 ·exact hc i u hu
 grind
theorem yY (ho:OR E h id (.cells cs e)) :
 ∃us,cP E h cs us/\gb h (E.θ id).1 (E.θ id).2 us/\∀u∈us,u.oneCell'=true:=by
 obtain⟨arr,lo,hi,us,U,Z,h3,h4,h5,h6,h7⟩:=ho;refine⟨us,Z,fun i u hu=>?_,h7⟩;simp only [ml,U]
 grind
theorem xO [bN] (r:bX E H w) {p:AV} {u:Value} {l:List AV} (hp:VR E w.heap p u) (h:nz H p n=some l) :
 ∃b o us,u= .pointer (some ⟨b,o,none⟩)/\us.length=n/\cP E w.heap l us/\gb w.heap b o us/\∀u∈us,u.oneCell'=true:=by
 cases p with
 |ptr id off=>
  simp only [nz] at h;split at h
  ·rename_i cs e Y;split at h
   ·rename_i l' V;obtain⟨us,Z,h3,h4⟩:=yY (r.live id _ Y).2.1;obtain⟨h5,h6,h7⟩:=Z.fc V;obtain⟨h8,h9⟩:=h5.iS h;simp only [VR] at hp;refine⟨_,_,_,hp.1,?_,h8,(h3.drop off).take n,fun x hx=>h4 x (awR (awT hx))⟩;have:=h5.length
    grind
   grind
  grind
 |oC cs=>
  simp only [nz] at h;simp only [VR] at hp;obtain⟨b,o,us,rfl,_,Z,h3,h4⟩:=hp;obtain⟨h5,h6⟩:=Z.iS h;refine⟨b,o,_,rfl,?_,h5,h3.take n,fun x hx=>h4 x (awT hx)⟩;have:=Z.length
  grind
 |_=>simp [nz] at h
theorem xK {E:En} {h:Array Obj}: ∀{cs:List AV} {o:Nat} {vs mD:List AV} {us ws:List Value},ep cs o vs=some mD->cP E h cs us->cP E h vs ws->
 mD.length=cs.length/\o+vs.length<=cs.length/\∃iz,cP E h mD iz/\∀i,iz[i]?=if o<=i/\i<o+ws.length then ws[i-o]? else us[i]?
 |cs,0,[],mD,us,ws,U,Z,h3=>by cases cs<;>simp [ep] at U<;>subst U<;>rw [jf] at h3<;>subst h3<;>exact⟨rfl,ad,us,Z,fun i=>by simp⟩
 |[],0,_::_,mD,us,ws,U,Z,h3=>by simp [ep] at U
 |c::cs,0,v::vs,mD,us,ws,U,Z,h3=>by
  simp only [ep] at U;split at U
  ·rename_i l Y;simp at U;subst U;rw [bU] at Z h3;obtain⟨u,iz,rfl,ha,hb⟩:=Z;obtain⟨x,ws',rfl,hc,V⟩:=h3;obtain⟨e1,e2,u_,e3,e4⟩:=xK Y hb V;refine⟨by simp [e1],by simp at e2 ⊢; omega,x::u_,by rw [bU]; exact⟨x,u_,rfl,hc,e3⟩,?_⟩;intro i
   grind
  grind
 |[],_+1,vs,mD,us,ws,U,Z,h3=>by cases vs<;>simp [ep] at U
 |c::cs,o+1,vs,mD,us,ws,U,Z,h3=>by
  have Iw:(match ep cs o vs with |some l=>some (c::l)|none=>none)=some mD:=by cases vs<;>exact U
  split at Iw
  ·rename_i l Y;simp at Iw;subst Iw;rw [bU] at Z;obtain⟨u,iz,rfl,ha,hb⟩:=Z;obtain⟨e1,e2,u_,e3,e4⟩:=xK Y hb h3;refine⟨by simp [e1],by simp; omega,u::u_,by rw [bU]; exact⟨u,u_,rfl,ha,e3⟩,?_⟩;intro i
   grind
  grind
theorem ny {P:Program} (b o:Nat) (e:TypeId) (lo hi:Nat): ∀(vs:List Value) (i:Nat) (arr:Array Value) (w:World),
 w.heap[b]?=some (.cells arr e (lo,hi))->(∀x,lo<=x->x<hi->arr.size<=x)->o+i+vs.length<=arr.size->(∀v∈vs,v.oneCell'=true)->
 ∃w' M4,(storeCells ⟨b,o,none⟩ vs i).run P w= .ok () w'/\Alike w w'/\w'.heap.size=w.heap.size/\(∀j,j≠b->w'.heap[j]?=w.heap[j]?)/\
  w'.heap[b]?=some (.cells M4 e (lo,hi))/\M4.size=arr.size/\∀j,M4[j]?=if o+i<=j/\j<o+i+vs.length then vs[j-(o+i)]? else arr[j]?
 |[],i,arr,w,hb,_,_,_=> ⟨w,arr,rfl,⟨rfl,rfl,rfl⟩,rfl,fun _ _=>rfl,hb,rfl,fun j=>by rw [af ad]⟩
 |v::vs,i,arr,w,hb,hf,Y,U=>by
  have sj:o+i<arr.size:=by simp at Y; omega
  have ml:w.cell? ⟨b,o+i,none⟩ = some arr[o+i]:=by simp [World.cell?,hb,sj]
  have awJ:w.frozen? ⟨b,o+i,none⟩ = false:=by
   simp only [World.frozen?,hb,Bool.and_eq_false_iff,decide_eq_false_iff_not]
   grind
  have E7:(store ((⟨b,o,none⟩ : Addr).add i) v).run P w= .ok () (w.setCell ⟨b,o+i,none⟩ v):=by
   rw [gA,run_store P w _ v _ (U v ad),ml]
   grind
  have yQ:(w.setCell ⟨b,o+i,none⟩ v).heap[b]?=some (.cells (arr.setIfInBounds (o+i) v) e (lo,hi)):=by simp [World.setCell,ayB,hb]
  have jl:(w.setCell ⟨b,o+i,none⟩ v).heap.size=w.heap.size:=by simp [World.setCell]
  have hot: ∀j,j≠b->(w.setCell ⟨b,o+i,none⟩ v).heap[j]?=w.heap[j]?:=by
   intro j hj;simp only [World.setCell,ayB]
   grind
  obtain⟨w',M4,e1,e2,e3,e4,e5,e6,e7⟩:=ny (P:=P) b o e lo hi vs (i+1) _ _ yQ (by simpa using hf) (by simp at Y ⊢; omega) (fun x hx=>U x (by simp [hx]));refine⟨w',M4,?_,⟨e2.os,e2.tape,e2.output⟩,e3.trans jl,fun j hj=>(e4 j hj).trans (hot j hj),e5,by simpa using e6,?_⟩
  ·simp only [storeCells,Sem.run_bind,E7,Result.andThen_ok];exact e1
  grind
theorem mG [bN] (r:bX E H w) {off:Nat} {vs mD:List AV} {ws:List Value} (Y:H.get id=some (.cells cs e))
 (hs:ep cs off vs=some mD) (hv:cP E w.heap vs ws) (U: ∀u∈ws,u.oneCell'=true) :
 ∃w',(storeCells ⟨(E.θ id).1,(E.θ id).2+off,none⟩ ws).run P w= .ok () w'/\fm E H w E (H.put id (.cells mD e)) w'/\bX E (H.put id (.cells mD e)) w':=by
 obtain⟨arr,lo,hi,us,g1,g2,g3,g4,g5,g6,g7⟩:=(r.live id _ Y).2.1;obtain⟨s1,s2,iz,s3,s4⟩:=xK hs g2 hv;have hlen:=hv.length;have hlu:=g2.length;obtain⟨w',M4,e1,e2,e3,e4,e5,e6,e7⟩:=ny (P:=P) (E.θ id).1 ((E.θ id).2+off) e lo hi ws 0 arr w g1 g6 J U;refine⟨w',e1,Oe r Y _ e3 e4 e2 ?_⟩;have k:=pA r Y e4;refine⟨M4,lo,hi,iz,e5,cP.dq k _ _ s3,?_,J,by rw [e6]; exact g5,by rw [e6]; exact g6,?_⟩
 ·intro i u hu
  grind
 ·intro u hu;rw [axG] at hu
  grind
end
section
variable {w w':World} {a:Act} {E:En} {v:AV} {e:Nat} {o:Oper} {R:Value->World->Prop} {u:Value} {x y:List Nat}
def cA (ρ:Nat->Int) (pc:List (SB×Bool)):Prop:= ∀c b,(c,b)∈pc->c.den ρ=b
def SR (E:En) (h:Array Obj) (bC:Tr AV) (a:Act):Prop:= ∀t v,bC.get t=some v->∃u,a.tmps[t]?=some u/\VR E h v u
def tm (P:Program) (o:Oper) (a:Act) (w:World) (R:Value->World->Prop):Prop:=
 ∀(K:Act->World->Prop) (Q:Exit->Act->World->Prop),(∀u w',R u w'->K (a.put o.dst u) w')->o.wp P a w K Q
theorem tm.value {P:Program} (h:(execOp a.eval o).run P w= .ok (.value u) w') (hr:R u w'):tm P o a w R:=
 fun K Q hk=>by unfold Oper.wp; rw [h]; exact hk u w' hr
theorem tm.skip {P:Program} (h:(execOp a.eval o).run P w= .ok .skip w') (hr:R undef w'):tm P o a w R:=
 fun K Q hk=>by unfold Oper.wp; rw [h]; exact hk _ w' hr
theorem iw {s:St} (sr:SR E w.heap s.bC a) {x:Operand} (h:ev s x=some v):VR E w.heap v (a.eval x):=by
 cases x with
 |tmp t=> obtain⟨u,U,Z⟩:=sr t v h;simp only [Act.eval,axo,U,ax];exact Z
 |const c=>exact SI h
 |func f=> simp [ev] at h;subst h;simp only [VR,Act.eval];exact⟨[],[],rfl,rfl,rfl⟩
 |global g=>simp [ev] at h
theorem L5 {E:En} {w:World} {s:St} {a:Act} (sr:SR E w.heap s.bC a): ∀{xs:List Operand} {vs:List AV},evs s xs=some vs->cP E w.heap vs (xs.map a.eval)
 |[],vs,h=>by simp [evs] at h; subst h; simp [cP]
 |x::xs,vs,h=>by
  simp only [evs] at h;split at h
  ·grind
  ·rename_i b hb;split at h
   ·grind
   ·rename_i bs hbs;simp at h;subst h;rw [aC,bU];exact⟨_,_,rfl,iw sr hb,L5 sr hbs⟩
section
variable {P:Program} {t:Nat} {i:TI}
theorem qK (h:oe P t i) (w:World):(isAgg t).run P w= .ok i.agg w:=by obtain⟨inf,d,z,U,Z,h3,h4,h5,h6,h7,_⟩:=h.all;unfold isAgg;simp only [Sem.run_bind,run_underlying Z,Result.andThen_ok];cases d<;>cases hk:i.kind<;>simp only [hk,UZ] at h7<;>simp [TI.agg,TK.agg,hk]
theorem e9 (h:oe P t i) (w:World):(sizeOf t).run P w= .ok i.size w:=by obtain⟨inf,d,z,U,Z,h3,h4,h5,h6,h7,_⟩:=h.all;simp [sizeOf,typeInfo,U,h5]
theorem fw (h:oe P t i) (hk:i.kind= .slice e):P.underlying t=some (.slice e):=by exact aik
theorem tq (h:oe P t i) {n:Nat} (hk:i.kind= .array n e):P.underlying t=some (.array n e):=by exact al4
theorem Ap (h:oe P t i) {k:Nat} (hk:i.kind= .map k e):P.underlying t=some (.map k e):=by exact al4
theorem xJ (h:oe P t i) {k:IntKind} (hk:i.kind= .int k):P.underlying t=some (.int k):=by exact aik
theorem fV (h:oe P t i) (hk:i.kind= .string):P.underlying t=some .string:=by exact ahx
theorem NQ (h:oe P t i) (hk:i.kind= .bool):P.underlying t=some .bool:=by exact ahx
theorem za (h:oe P t i) {l:List (Nat×Nat×Nat)} (hk:i.kind= .struct l): ∃fs:Array Field,P.underlying t=some (.struct fs)/\(fs.toList.mapM fun f=>(P.info? f.type).map fun i=>(f.offset,f.type,i.size))=some l:=by exact al4
theorem xV (h:oe P t i): ∃inf z,P.info? t=some inf/\inf.size=i.size/\inf.bytes=i.bytes/\inf.zero=some z/\lB z.cells.toList=some i.zero:=by exact ahi
end
theorem Da [bN] {P:Program} {tt:TT} (da:eP P tt) {H:Hp} (r:bX E H w) {t:Nat} {p:AV} (hp:VR E w.heap p u) (h:Db tt t p H=some v) :
 ∃x b o,u= .pointer (some ⟨b,o,none⟩)/\(loadVar t ⟨b,o,none⟩).run P w= .ok x w/\VR E w.heap v x:=by
 unfold Db at h;split at h
 ·grind
 ·rename_i i hi;have hU:=da t i hi;split at h
  ·rename_i Tu;rw [aO] at h;obtain⟨l,Y,rfl⟩:=h;obtain⟨b,o,us,rfl,Z,h3,h4,_⟩:=xO r hp Y;refine⟨.agg us.toArray,b,o,rfl,?_,by simp only [VR]; exact⟨us,rfl,h3⟩⟩;simp [loadVar,qK hU,Tu,e9 hU,tF Z h4]
  ·rename_i Tu;split at h
   ·rename_i v' l Y;simp at h;subst h;obtain⟨b,o,us,rfl,Z,h3,h4,_⟩:=xO r hp Y;rw [bU] at h3;obtain⟨x,vs,rfl,h5,_⟩:=h3;refine⟨x,b,o,rfl,?_,h5⟩;have hc:w.cell? ⟨b,o,none⟩ = some x:=by rw [pO]; exact h4 0 x rfl
    simp [loadVar,qK hU,Tu,hc]
   grind
theorem nQ (k:IntKind) (n:Int):w8 k n=k.wrap n:=by
 unfold w8;split
 ·split
  ·rename_i h; exact (IntWalk.i64_in n h).symm
  ·rfl
 ·split
  ·rename_i h; exact (IntWalk.u8_in n h).symm
  ·rfl
 ·rfl
theorem X9 (ρ:Nat->Int) (k:IntKind) (a b:W):(aad k a b).den ρ=k.wrap (a.den ρ+b.den ρ):=by
 unfold aad
 grind [W.den,nQ]
theorem I3 (ρ:Nat->Int) (k:IntKind) (a b:W):(Vy k a b).den ρ=k.wrap (a.den ρ-b.den ρ):=by
 unfold Vy
 grind [W.den,nQ]
theorem X8 (ρ:Nat->Int) (k:IntKind) (a b:W):(aac k a b).den ρ=k.wrap (a.den ρ*b.den ρ):=by
 unfold aac
 grind [W.den,nQ]
theorem ef (ρ:Nat->Int) (a b:W):(iM a b).den ρ=decide (a.den ρ<b.den ρ):=by
 unfold iM;split
 ·rfl
 ·simp [SB.den]
theorem aae (ρ:Nat->Int) (a b:W):(afA a b).den ρ=decide (a.den ρ<=b.den ρ):=by
 unfold afA;split
 ·rfl
 ·simp only [SB.den]
  grind
theorem jx (ρ:Nat->Int) (a b:W):(wC a b).den ρ=(a.den ρ == b.den ρ):=by
 unfold wC;split
 ·simp [SB.den,W.den]
 ·simp only [SB.den,W.den]
  grind
 grind [dj,SB.den]
theorem oB (ρ:Nat->Int) (s:SB):(yH s).den ρ=!(s.den ρ):=by
 unfold yH
 grind [SB.den]
theorem mL: ∀(x y:List Nat),ij x y=true↔x=y
 |[],[]=>by simp [ij]
 |[],_::_=>by simp [ij]
 |_::_,[]=>by simp [ij]
 |a::x,b::y=>by
  simp only [ij]
  cases h:a.beq b with
  |true=>have:=ay h; subst this; simp [mL x y]
  |false=>have:=axH h; simp [this]
theorem su (s:List Nat):(dv s).toList=s.map UInt8.ofNat:=by simp_all [dv]
theorem mN (s:List Nat):(dv s).size=s.length:=by show (List.map UInt8.ofNat s).toArray.size=_;simp
theorem ofNat_inj {a b:Nat} (ha:a<256) (hb:b<256) (h:UInt8.ofNat a=UInt8.ofNat b):a=b:=by have:=congrArg UInt8.toNat h;simpa [axj,axe ha,axe hb] using this
theorem map_inj: ∀{x y:List Nat},(∀b∈x,b<256)->(∀b∈y,b<256)->x.map UInt8.ofNat=y.map UInt8.ofNat->x=y
 |[],[],_,_,_=>rfl
 |[],_::_,_,_,h=>by simp at h
 |_::_,[],_,_,h=>by simp at h
 |a::x,b::y,hx,hy,h=>by simp only [aC,List.cons.injEq] at h;rw [ofNat_inj (hx a ad) (hy b ad) h.1,map_inj (fun c hc=>hx c (by simp [hc])) (fun c hc=>hy c (by simp [hc])) h.2]
theorem Vv (hx: ∀b∈x,b<256) (hy: ∀b∈y,b<256):((dv x).toList == (dv y).toList)=ij x y:=by
 grind [su,mL,map_inj]
theorem IY: ∀{x y:List Nat},(∀b∈x,b<256)->(∀b∈y,b<256)->Op.bytesLess (x.map UInt8.ofNat) (y.map UInt8.ofNat)=bytesLess x y
 |[],[],_,_=>by simp [Op.bytesLess,bytesLess]
 |[],_::_,_,_=>by simp [Op.bytesLess,bytesLess]
 |_::_,[],_,_=>by simp [Op.bytesLess,bytesLess]
 |a::x,b::y,hx,hy=>by
  have ha:=hx a ad;have hb:=hy b ad;have ih:=IY (x:=x) (y:=y) (fun c hc=>hx c (by simp [hc])) (fun c hc=>hy c (by simp [hc]));simp only [aC,Op.bytesLess,bytesLess,ih]
  have U:decide (UInt8.ofNat a<UInt8.ofNat b)=a.blt b:=by rw [aw9,decide_eq_true_iff,UInt8.lt_iff_toNat_lt,axj,axj,axe ha,axe hb];simp_all
  have Z:(UInt8.ofNat a == UInt8.ofNat b)=a.beq b:=by rw [aw9,beq_iff_eq];exact⟨fun h=>by rw [ofNat_inj ha hb h]; simp,fun h=>by rw [ay h]⟩
  grind
theorem N0 {P:Program} {op:BinOp} (hx: ∀b∈x,b<256) (hy: ∀b∈y,b<256) (h:N1 op x y=some v) :
 ∃u,(Op.stringOp op (dv x) (dv y)).run P w= .ok u w/\VR E w.heap v u:=by
 have he:=Vv hx hy;have Y:Op.bytesLess (dv x).toList (dv y).toList=bytesLess x y:=by rw [su,su]; exact IY hx hy
 unfold N1 at h;cases op<;>simp only [ah,reduceCtorEq] at h
 case add=>
  split at h
  ·rename_i hh;simp at h;subst h;have hm:IntKind.i64.max=9223372036854775807:=ae
   refine⟨.string (dv x++dv y),?_,?_⟩
   ·simp only [Op.stringOp,mN,hm];rw [af J];rfl
   ·simp only [VR];refine⟨?_,?_⟩
    ·congr 1;apply ByteArray.ext;simp [dv]
    ·intro b hb;rcases aw5.1 hb with hb|hb
     ·exact hx b hb
     ·exact hy b hb
  ·simp at h
 all_goals
  subst h;exact⟨_,rfl,by simp only [VR,SB.den,he,Y]⟩
end
section
variable {ρ:Nat->Int} {pc:List (SB×Bool)} {v:Bool} {z x:Int} {a b y:W} {lo hi:Option Int} {c:SB}
theorem lC {ρ:Nat->Int} {c:SB} {b:Bool}: ∀{pc:List (SB×Bool)},cA ρ pc->oE c pc=some b->c.den ρ=b
 |[],_,h=>by simp [oE] at h
 |(d,x)::l,hp,h=>by
  simp only [oE] at h;split at h
  ·rename_i he;have he:=tC _ _ he;simp at h;subst he h;exact hp _ _ ad
  ·exact lC (fun c b hm=>hp c b (by simp [hm])) h
def vk (lo hi:Option Int) (x:Int):Prop:=(∀l,lo=some l->l<=x)/\∀h,hi=some h->x<=h
theorem Lz (h: ∀l,lo=some l->l<=x) (hz:z<=x): ∀l,aaR lo z=some l->l<=x:=by
 intro l Y;unfold aaR at Y
 grind
theorem Ly (h: ∀l,hi=some l->x<=l) (hz:x<=z): ∀l,aaQ hi z=some l->x<=l:=by
 intro l Y;unfold aaQ at Y
 grind
theorem aaB (h: ∀l,lo=some l->l<=x) (hz:x≠z): ∀l,aaC lo z=some l->l<=x:=by
 intro l Y;unfold aaC at Y
 grind
theorem aaD (h: ∀l,hi=some l->x<=l) (hz:x≠z): ∀l,aaE hi z=some l->x<=l:=by
 intro l Y;unfold aaE at Y
 grind
theorem xS {x:W} (h:(SB.lt x y).den ρ=v):(x.den ρ<y.den ρ)↔v=true:=by subst h; simp [SB.den]
theorem WV {x:W} (h:(SB.eq x y).den ρ=v):(x.den ρ=y.den ρ)↔v=true:=by subst h; simp [SB.den]
theorem aex (e:W):vk (Xy e).1 (Xy e).2 (e.den ρ):=by
 have h0:vk none none (e.den ρ):=⟨ad,ad⟩;unfold Xy;split
 ·split
  ·split
   ·split
    ·split
     ·split
      ·split
       ·rename_i k m x n hn;obtain⟨hn,rfl,rfl⟩:=hn;simp only [W.den];have U:=axI (m.den ρ) (b:=n) J
        have Z: -n<(m.den ρ).tmod n:=by have U:=axI (-(m.den ρ)) (b:=n) J;rw [Int.neg_tmod] at U;omega
        have h3:=Int.tmod_nonneg n (a:=(m.den ρ).tmod n+n) J;have h4:=axI ((m.den ρ).tmod n+n) (b:=n) J;constructor<;>intro l Y<;>simp at Y<;>omega
       grind
      grind
     grind
    grind
   grind
  grind
 ·rename_i o a b
  cases o with
  |len=> refine⟨fun l Y=>?_,ad⟩;simp only [ah] at Y;subst Y;simp only [W.den,gQ.den];omega
  |_=>exact h0
 grind
theorem qJ {ρ:Nat->Int} {e:W}: ∀{pc:List (SB×Bool)},cA ρ pc->vk (bounds e pc).1 (bounds e pc).2 (e.den ρ)
 |[],_=>aex e
 |(c,v)::l,hp=>by
  have ih:=qJ (e:=e) (pc:=l) (fun c b hm=>hp c b (by simp [hm]));have hc:=hp c v ad;unfold bounds;split
  ·have hc:=xS hc;split
   ·split
    ·exact ih
    ·rename_i he;have he:=dj _ _ he;subst he;revert ih;split;rename_i lo hi hb;rw [hb];intro ih;simp only [W.den] at hc;cases v
     ·exact⟨ih.1,Ly ih.2 (by simp at hc; omega)⟩
     ·exact⟨Lz ih.1 (by simp at hc; omega),ih.2⟩
   ·split
    ·split
     ·exact ih
     ·rename_i he;have he:=dj _ _ he;subst he;revert ih;split;rename_i lo hi hb;rw [hb];intro ih;simp only [W.den] at hc;cases v
      ·exact⟨Lz ih.1 (by simp at hc; omega),ih.2⟩
      ·exact⟨ih.1,Ly ih.2 (by simp at hc; omega)⟩
    grind
  ·split
   ·split
    ·split
     ·exact ih
     ·rename_i he;have he:=dj _ _ he;subst he;revert ih;split;rename_i lo hi hb;rw [hb];intro ih;simp only [SB.den,W.den,beq_eq_false_iff_ne] at hc;exact⟨aaB ih.1 hc,aaD ih.2 hc⟩
    ·split
     ·exact ih
     ·rename_i he;have he:=dj _ _ he;subst he;simp only [SB.den,W.den,beq_iff_eq] at hc;exact⟨fun l Y=>by simp at Y; omega,fun l Y=>by simp at Y; omega⟩
   grind
  grind
theorem Fs {e:W} (hp:cA ρ pc):vk (sL e pc).1 (sL e pc).2 (e.den ρ):=by
 have h0:=qJ (e:=e) hp;unfold sL;split
 ·split
  ·split
   ·split
    ·rename_i b _ c;have hb:=qJ (e:=b) hp;split
     ·rename_i lo hi Tt;rw [Tt] at hb;have b1:=hb.1 lo rfl;have b2:=hb.2 hi rfl;split
      ·rename_i hr;revert h0;split;rename_i l2 Z hee;rw [hee];intro h0
       have hw:(W.wrap .i64 (.add b (.lit c))).den ρ=b.den ρ+c:=by
        simp only [W.den];rw [<- nQ];simp only [w8]
        grind
       exact⟨Lz h0.1 (by rw [hw]; omega),Ly h0.2 (by rw [hw]; omega)⟩
      grind
     grind
    grind
   grind
  grind
 grind
theorem Gn (hp:cA ρ pc) (h:V0 a b pc=some v):a.den ρ=b.den ρ↔v=true:=by
 unfold V0 at h;split at h
 ·rename_i U;simp at h;subst h;exact WV (lC hp U)
 ·rw [<- WV (lC hp h)]
  grind
theorem adZ (hp:cA ρ pc) (h:decLt pc a b=some v):a.den ρ<b.den ρ↔v=true:=by
 unfold decLt at h;split at h
 ·rename_i U;simp at h;subst h;exact xS (lC hp U)
 ·split at h
  ·have hb:=Fs (e:=b) hp;have hz: ∀z,(W.lit z).den ρ=z:=fun _=>rfl;simp only [hz] at *;generalize Tt:sL _ pc=p at h hb;obtain⟨lo,hi⟩:=p;simp only [vk] at h hb
   grind
  ·split at h
   ·exact aqk
   ·split at h
    ·rename_i U;have U:=Gn hp U
     grind
    ·rename_i U;have U:=Gn hp U;simp at U;exact l?
    ·exact l?
theorem ad0 (hp:cA ρ pc) (h:decEq pc a b=some v):a.den ρ=b.den ρ↔v=true:=by
 unfold decEq at h;split at h
 ·rename_i U;simp at h;subst h;exact Gn hp U
 ·split at h
  ·exact aqk
  ·split at h
   ·rename_i Z;have Z:=xS (lC hp Z)
    grind
   ·rename_i Z;have Z:=xS (lC hp Z);simp at Z;split at h
    ·rename_i h3;have h3:=xS (lC hp h3)
     grind
    grind
   ·exact l?
theorem Hx (hp:cA ρ pc) {b:Bool} (h:Fk pc c=some b):c.den ρ=b:=by
 unfold Fk at h;split at h
 ·simp at h; simp [SB.den,h]
 ·have:=adZ hp h;simp only [SB.den]
  grind
 ·have:=ad0 hp h;simp only [SB.den]
  grind
 ·exact lC hp h
theorem gW (hp:cA ρ pc) {b:Bool} (h:kI pc c=some b):c.den ρ=b:=by
 unfold kI at h;split at h
 ·rw [aO] at h;obtain⟨x,U,rfl⟩:=h;simp only [SB.den,Hx hp U]
 ·exact Hx hp h
end
section
variable {t:Nat} {u u':Value} {x v y:AV} {op:BinOp} {c:SB} {i:TI} {h:Array Obj}
section
variable {P:Program} {E:En} {w:World}
theorem abf {k k':IntKind} {a b:W} (hk:op= .shr\/k=k') (h:Wj op k a b=some v) :
 ∃u,(binOp op t (.int k (a.den E.ρ)) (.int k' (b.den E.ρ))).run P w= .ok u w/\VR E w.heap v u:=by
 unfold Wj at h;cases op<;>simp only [ah,reduceCtorEq] at h
 case add=>obtain rfl:k=k':=by simpa using hk
           subst h; exact⟨_,by simp [binOp,Op.intArith]; rfl,by simp only [VR,X9]⟩
 case sub=>obtain rfl:k=k':=by simpa using hk
           subst h; exact⟨_,by simp [binOp,Op.intArith]; rfl,by simp only [VR,I3]⟩
 case mul=>obtain rfl:k=k':=by simpa using hk
           subst h; exact⟨_,by simp [binOp,Op.intArith]; rfl,by simp only [VR,X8]⟩
 case quo=>
  obtain rfl:k=k':=by simpa using hk
  split at h
  ·split at h
   ·simp at h
   ·rename_i hy;simp at h;subst h;exact⟨_,by simp [binOp,Op.intDiv,W.den,hy]; rfl,by simp only [VR,W.den,nQ]⟩
  ·split at h
   ·simp at h
   ·rename_i hy;simp at h;subst h;exact⟨_,by simp [binOp,Op.intDiv,W.den,hy]; rfl,by simp only [VR,W.den]⟩
  ·simp at h
 case rem=>
  obtain rfl:k=k':=by simpa using hk
  split at h
  ·split at h
   ·simp at h
   ·rename_i hy;simp at h;subst h;exact⟨_,by simp [binOp,Op.intDiv,W.den,hy]; rfl,by simp only [VR,W.den]⟩
  ·split at h
   ·simp at h
   ·rename_i hy;simp at h;subst h;exact⟨_,by simp [binOp,Op.intDiv,W.den,hy]; rfl,by simp only [VR,W.den]⟩
  ·simp at h
 case shr=>
  split at h
  ·split at h
   ·simp at h
   ·rename_i hy;simp at h;subst h;exact⟨_,by simp [binOp,Op.shift,W.den,hy]; rfl,by simp only [VR,W.den]⟩
  ·simp at h
 all_goals
  obtain rfl:k=k':=by simpa using hk
  subst h;refine⟨_,by simp [binOp,Op.intCmp]; rfl,?_⟩;simp only [VR,jx,oB,ef,aae]
  first |rfl|(congr 1; simp [bne]; done)|(congr 1; rw [aw9]; simp; done)|skip
theorem xh {x y:Operand} {a b:Value} (U: ∀cs ds,¬(a= .agg cs/\b= .agg ds)) (Z: ¬(a= .nilIface/\b= .nilIface)) :
 (eqGuard op t x y a b).run P w= .ok () w:=by
 cases op
 case eql=>
  cases a<;>first
   |(cases b<;>first |(exact absurd ⟨rfl,rfl⟩ (U _ _))|(exact absurd ⟨rfl,rfl⟩ Z)|rfl)
   |rfl
 case neq=>
  cases a<;>first
   |(cases b<;>first |(exact absurd ⟨rfl,rfl⟩ (U _ _))|(exact absurd ⟨rfl,rfl⟩ Z)|rfl)
   |rfl
 all_goals rfl
theorem D9 {ρ:Nat->Int} {a b:SB} (h:Fh a b=some c):c.den ρ=(a.den ρ == b.den ρ):=by
 unfold Fh at h;split at h<;>simp only [ah,reduceCtorEq] at h<;>subst h
 ·simp [SB.den]
 ·grind [SB.den,oB]
 ·grind [SB.den,oB]
 ·simp only [SB.den];cases a.den ρ<;>cases b.den ρ<;>rfl
theorem Az {d:TypeDesc} (h:P.underlying t=some d) (w:World):(underlying t).run P w= .ok d w:=run_underlying h w
theorem tP (h:oe P t i): ∃d,P.underlying t=some d/\UZ P d i.kind:=by exact ahi
theorem WU (ht:oe P t i) (hx:VR E w.heap x u) (hy:VR E w.heap y u') (h:ao4 i.kind x y=some c) :
 (Op.equal t u u').run P w= .ok (c.den E.ρ) w/\(∀cs ds,¬(u= .agg cs/\u'= .agg ds))/\¬(u= .nilIface/\u'= .nilIface)/\(∀k n,u≠.int k n)/\(∀s,u≠.string s)/\(∀k n,u≠.float k n)/\(∀k n m,u≠.complex k n m):=by
 obtain⟨d,U,Z⟩:=tP ht;have hm: ∀a b,Op.equal t a b=Op.equalIn (9999+1) t a b:=fun _ _=>rfl;rw [hm];clear hm;generalize (9999:Nat)=n;unfold ao4 at h;split at h
 ·rename_i hk;rw [hk] at Z;cases d<;>simp only [UZ] at Z;split at h
  ·simp only [VR] at hx hy;subst hx hy;refine⟨?_,ad,ad,ad,ad,ad,ad⟩;rw [D9 h];simp [Op.equalIn,Az U]
  grind
 ·rename_i k hk;cases Bc:i.kind<;>rw [Bc] at h Z<;>simp only [isNil,reduceCtorEq] at h
  case pointer e=>
   cases d<;>simp only [UZ] at Z;cases x<;>simp only [reduceCtorEq] at h<;>cases y<;>simp only [reduceCtorEq,ah] at h<;>subst h<;>simp only [VR] at hx hy
   all_goals
    first |(obtain⟨b,o,us,rfl,_⟩:=hx)|(obtain⟨rfl,_⟩:=hx)|subst hx
    first |(obtain⟨b',o',iz,rfl,_⟩:=hy)|(obtain⟨rfl,_⟩:=hy)|subst hy
    exact⟨by simp [Op.equalIn,Az U,SB.den],ad,ad,ad,ad,ad,ad⟩
  case slice e=>
   cases d<;>simp only [UZ] at Z;cases x<;>simp only [reduceCtorEq] at h<;>cases y<;>simp only [reduceCtorEq,ah] at h<;>subst h<;>simp only [VR] at hx hy
   all_goals
    first |(obtain⟨b,o,cap,us,rfl,_⟩:=hx)|(obtain⟨_,b,cap,rfl,_⟩:=hx)|(obtain⟨_,k,b,cap,_,rfl,_⟩:=hx)|subst hx
    first |(obtain⟨b',o',rO,iz,rfl,_⟩:=hy)|(obtain⟨_,b',rO,rfl,_⟩:=hy)|(obtain⟨_,k',b',rO,_,rfl,_⟩:=hy)|subst hy
    exact⟨by simp [Op.equalIn,Az U,SB.den],ad,ad,ad,ad,ad,ad⟩
  case map k' e=>
   cases d<;>simp only [UZ] at Z;cases x<;>simp only [reduceCtorEq] at h<;>cases y<;>simp only [reduceCtorEq,ah] at h<;>subst h<;>simp only [VR] at hx hy
   all_goals
    first |(obtain⟨rfl,_⟩:=hx)|subst hx
    first |(obtain⟨rfl,_⟩:=hy)|subst hy
    exact⟨by simp [Op.equalIn,Az U,SB.den],ad,ad,ad,ad,ad,ad⟩
theorem binOp_eql {b:Bool} (h:(Op.equal t u u').run P w= .ok b w) (U: ∀k n,u≠.int k n) (Z: ∀s,u≠.string s) (h3: ∀k n,u≠.float k n) (h4: ∀k n m,u≠.complex k n m) :
 (binOp .eql t u u').run P w= .ok (.bool b) w/\(binOp .neq t u u').run P w= .ok (.bool (!b)) w:=by
 cases u<;>first
  |exact absurd rfl (U _ _)
  |exact absurd rfl (Z _)
  |exact absurd rfl (h3 _ _)
  |exact absurd rfl (h4 _ _ _)
  |(constructor<;>(cases u'<;>simp [binOp,h]))
theorem mP (ρ:Nat->Int) (a b:W):(wB a b).den ρ=(a.den ρ == b.den ρ):=by
 unfold wB;split
 ·rename_i h
  grind [dj,SB.den]
 ·split
  ·simp only [SB.den]
   grind
  ·simp only [SB.den]
theorem qV (ρ:Nat->Int) (x:W):(oA x).den ρ=enc (dec (x.den ρ)):=by
 unfold oA;split
 ·simp only [W.den,bG]
 ·split
  ·exact j_
  ·exact j_
  ·exact ND
 ·exact ND
theorem Ar {E:En} {e:W} (hx:VR E h x u) (hs:vq x=some e): ∃s,u= .string s/\dec (e.den E.ρ)=vL s:=by
 unfold vq at hs;split at hs
 ·simp only [ah] at hs;subst hs;simp only [VR] at hx;obtain⟨rfl,hb⟩:=hx;refine⟨_,rfl,?_⟩;simp only [W.den,bG]
  grind [BN,vL,dv]
 ·simp only [ah] at hs;subst hs;simp only [VR] at hx;generalize dec (W.den E.ρ _)=d at hx ⊢
  cases hx with
  |str s=>exact⟨s,rfl,rfl⟩
 grind
theorem FK {E:En} {v:Value} (hx:VR E h x u) (hy:VR E h y v) (hs:DA x y=some c): ∃a b:ByteArray,u= .string a/\v= .string b/\c.den E.ρ=decide (a=b):=by
 unfold DA at hs;split at hs
 ·grind
 ·rename_i e he;split at hs
  ·grind
  ·rename_i f hf;simp only [ah] at hs;subst hs;obtain⟨a,rfl,ha⟩:=Ar hx he;obtain⟨b,rfl,hb⟩:=Ar hy hf;refine⟨a,b,rfl,rfl,?_⟩
   grind [mP,qV,Hy,ff]
theorem zd (a b:ByteArray):(a.toList == b.toList)=decide (a=b):=by
 rw [aw9,beq_iff_eq,decide_eq_true_eq];constructor
 ·intro h;rw [<- lx a,<- lx b]
  have e: ∀x:ByteArray,x.toList=x.data.toList:=by
   intro x;have:=su (bytesOf x);rw [lx] at this;rw [this]
   have e2:(UInt8.ofNat ∘ fun b:UInt8=>b.toNat)=id:=by funext b;simp
   simp_all [bytesOf,e2]
  grind [bytesOf]
 grind
theorem IX {E:En} (hx:VR E w.heap x u) (hy:VR E w.heap y u') (h:K8 op (DA x y)=some v) :
 (∃r,(binOp op t u u').run P w= .ok r w/\VR E w.heap v r)/\(∀cs ds,¬(u= .agg cs/\u'= .agg ds))/\¬(u= .nilIface/\u'= .nilIface):=by
 unfold K8 at h;split at h
 ·grind
 ·rename_i c hc;obtain⟨a,b,rfl,rfl,V⟩:=FK hx hy hc;refine⟨?_,ad,ad⟩;split at h
  ·simp only [ah] at h;subst h;refine⟨.bool (decide (a=b)),?_,by simp only [VR,V]⟩;rw [<- zd];rfl
  ·simp only [ah] at h;subst h;refine⟨.bool (!decide (a=b)),?_,by simp only [VR,SB.den,V]⟩;rw [<- zd];rfl
  grind
theorem abV {tt:TT} (da:eP P tt) (hx:VR E w.heap x u) (hy:VR E w.heap y u') (h:abW tt t op x y=some v) :
 (∃r,(binOp op t u u').run P w= .ok r w/\VR E w.heap v r)/\(∀cs ds,¬(u= .agg cs/\u'= .agg ds))/\¬(u= .nilIface/\u'= .nilIface):=by
 unfold abW at h;split at h
 ·split at h
  ·simp only [VR] at hx hy;subst hx hy;refine⟨?_,ad,ad⟩;split at h
   all_goals simp_all [abf]
  grind
 ·split at h
  ·simp only [VR] at hx hy;obtain⟨rfl,hx⟩:=hx;obtain⟨rfl,hy⟩:=hy;refine⟨?_,ad,ad⟩;obtain⟨r,U,Z⟩:=N0 (P:=P) (E:=E) (w:=w) hx hy h;refine⟨r,?_,Z⟩;cases op<;>first |(simp [N1] at h; done)|(simpa [binOp] using U)
  ·exact IX hx hy h
  grind
 ·exact IX hx hy h
 ·split at h
  ·grind
  ·rename_i i hi;split at h
   ·rename_i c hc;simp at h;subst h;obtain⟨e1,e2,e3,e4,e5,e6,e7⟩:=WU (w:=w) (da t i hi) hx hy hc;exact⟨⟨_,(binOp_eql e1 e4 e5 e6 e7).1,by simp only [VR]⟩,e2,e3⟩
   ·rename_i c hc;simp at h;subst h;obtain⟨e1,e2,e3,e4,e5,e6,e7⟩:=WU (w:=w) (da t i hi) hx hy hc;exact⟨⟨_,(binOp_eql e1 e4 e5 e6 e7).2,by simp only [VR,oB]⟩,e2,e3⟩
   grind
theorem agt {op:UnOp} (hx:VR E w.heap x u) (h:ao2 op x=some v): ∃r,(Op.unary op u).run P w= .ok r w/\VR E w.heap v r:=by
 unfold ao2 at h;split at h
 ·simp at h; subst h;simp only [VR] at hx; subst hx;exact⟨_,rfl,by simp only [VR,oB]⟩
 ·simp at h; subst h;simp only [VR] at hx; subst hx;exact⟨_,rfl,by simp only [VR,I3,W.den]⟩
 grind
end
end
section
variable {H H':Hp} {v:AV} {tt:TT} {t:Nat} {u:Value} {parts:List (Nat×AV)} {ps:Array (Nat×Value)}
section
variable {P:Program} {E:En} {w:World}
theorem ji [bN] {w':World} (r:bX E H w) {cs:List AV} {us:List Value} (arr:Array Value) (lo hi:Nat) (e:TypeId) (hv:cP E w.heap cs us) (U: ∀u∈us,u.oneCell'=true)
 (ha: ∀(i:Nat) (u:Value),us[i]?=some u->arr[i]?=some u) (hf: ∀o:Nat,lo<=o->o<hi->arr.size<=o) (hw:w'.heap=w.heap.push (.cells arr e (lo,hi))) (al:Alike w w') :
 fm E H w (E.ext H.fresh (w.heap.size,0) arr.size) (H.new (.cells cs e)) w'/\bX (E.ext H.fresh (w.heap.size,0) arr.size) (H.new (.cells cs e)) w':=by
 refine AR r _ _ _ hw al ?_;have k:=Gx r (w.heap.size,0) arr.size (.cells arr e (lo,hi));rw [<- hw] at k;have hlen:=hv.length;simp only [OR,En.ext_θ_new,En.ext_κ_new];refine⟨arr,lo,hi,us,by rw [hw]; simp,cP.dq k _ _ hv,fun i u hu=>by rw [aH]; exact ha i u hu,?_,J,hf,U⟩;rw [<- hlen];rcases aX arr.size us.length with hh|hh
 ·have:=ha arr.size us[arr.size] (by simp [hh])
  grind
 grind
theorem Lq [bN] (_:bX E H w) (c:Nat) (h:Array Obj) (off:Nat):VR (E.ext H.fresh (w.heap.size,0) c) h (.ptr H.fresh off) (.pointer (some ⟨w.heap.size,off,none⟩)):=by
 simp only [VR,En.ext_θ_new]
 grind [En.iH]
theorem TJ [bN] (da:eP P tt) (r:bX E H w) {p:AV} {x:Value} (hp:VR E w.heap p u) (hx:VR E w.heap v x) (h:Ma tt t p v H=some H') :
 ∃w',(Instr.storeAt t u x).run P w= .ok () w'/\fm E H w E H' w'/\bX E H' w':=by
 unfold Ma at h;split at h
 ·grind
 ·rename_i i hi;split at h
  ·rename_i hc;simp only [an,decide_eq_true_eq] at hc;split at h
   ·split at h
    ·rename_i id off cs e Y;split at h
     ·rename_i mD hs;simp at h;subst h;simp only [VR] at hp;obtain⟨rfl,_⟩:=hp;have Rb:=hx.cells hc.2;have hlen:x.cells.size=i.size:=by have:=Rb.length; simp only [bh] at this; omega
      obtain⟨w',U,Z,h3⟩:=mG (P:=P) r Y hs Rb (Rb.tK hc.2);refine⟨w',?_,Z,h3⟩;simp [Instr.storeAt,Instr.sureAddr,storeVar,e9 (da t i hi),hlen,U]
     grind
    grind
   grind
  grind
theorem J3: ∀(vs:List Value) (off k:Nat) (arr:Array Value),off+k+vs.length<=arr.size->
 ((vs.zipIdx k).foldl (fun cs p=>cs.setIfInBounds (off+p.2) p.1) arr).size=arr.size/\
 ∀i,((vs.zipIdx k).foldl (fun cs p=>cs.setIfInBounds (off+p.2) p.1) arr)[i]?=if off+k<=i/\i<off+k+vs.length then vs[i-(off+k)]? else arr[i]?
 |[],off,k,arr,_=> ⟨rfl,fun i=>by rw [af ad]; rfl⟩
 |v::vs,off,k,arr,h=>by
  simp only [List.zipIdx_cons,List.foldl_cons];obtain⟨U,Z⟩:=J3 vs off (k+1) (arr.setIfInBounds (off+k) v) (by simp at h ⊢; omega)
  grind
def vn (E:En) (h:Array Obj):List (Nat×AV)->List (Nat×Value)->Prop
 |[],ps=>ps= []
 |(i,v)::xs,ps=> ∃x r,ps=(i,x)::r/\VR E h v x/\vn E h xs r
theorem rC {place:Nat->Option (Nat×Nat)} {h:Array Obj}: ∀{parts:List (Nat×AV)} {cs mD:List AV} {us:Array Value} {ps:List (Nat×Value)},
 uZ place cs parts=some mD->cP E h cs us.toList->vn E h parts ps->(∀u∈us.toList,u.oneCell'=true)->
 ∃iz:Array Value,Instr.fill place us ps=some iz/\cP E h mD iz.toList/\∀u∈iz.toList,u.oneCell'=true
 |[],cs,mD,us,ps,U,Z,h3,h4=>by simp only [vn] at h3;subst h3;simp [uZ] at U;subst U;exact⟨us,rfl,Z,h4⟩
 |(i,v)::parts,cs,mD,us,ps,U,Z,h3,h4=>by
  simp only [vn] at h3;obtain⟨x,ps',rfl,hx,hb⟩:=h3;simp only [uZ] at U;split at U
  ·simp at U
  ·rename_i off size hp;split at U
   ·rename_i hc;simp only [an,decide_eq_true_eq] at hc;split at U
    ·rename_i cs2 hs;have Rb:=hx.cells hc.2;have hlen:=Rb.length;simp only [bh] at hlen;obtain⟨e1,e2,iz,e3,e4⟩:=xK hs Z Rb;have hul:=Z.length;simp only [bh] at hul;have atd:=J3 x.cells.toList off 0 us (by simp; omega)
     have heq:(x.cells.zipIdx.foldl (fun cs (c,j)=>cs.setIfInBounds (off+j) c) us).toList=iz:=by apply axv;intro k;rw [e4 k];have h5:=atd.2 k;simp only [awX,bh] at h5;rw [awV,<- Array.foldl_toList,Array.toList_zipIdx];rw [h5];simp only [bh,awV]
     have h6: ∀u∈(x.cells.zipIdx.foldl (fun cs (c,j)=>cs.setIfInBounds (off+j) c) us).toList,u.oneCell'=true:=by
      rw [heq];intro u hu;rw [axG] at hu;obtain⟨k,hk⟩:=hu;rw [e4 k] at hk;split at hk
      ·exact Rb.tK hc.2 u (bq hk)
      ·exact h4 u (bq hk)
     obtain⟨us2,g1,g2,g3⟩:=rC (us:=x.cells.zipIdx.foldl (fun cs (c,j)=>cs.setIfInBounds (off+j) c) us) U (by rw [heq]; exact e3) hb h6;refine⟨us2,?_,g2,g3⟩;simp only [Instr.fill,hp];rw [af]
     ·exact g1
     ·simp only [axb,decide_eq_true_eq,not_or];constructor
      ·omega
      ·omega
    ·simp at U
   ·simp at U
theorem zL {s:St} {a:Act} (sr:SR E w.heap s.bC a): ∀{xs:List (Nat×Operand)} {ps:List (Nat×AV)},yb s xs=some ps->vn E w.heap ps (xs.map fun p=>(p.1,a.eval p.2))
 |[],ps,h=>by simp [yb] at h; subst h; simp [vn]
 |(i,x)::xs,ps,h=>by
  simp only [yb] at h;split at h
  ·grind
  ·rename_i b hb;split at h
   ·grind
   ·rename_i bs hbs;simp at h;subst h;simp only [aC,vn];exact⟨_,_,rfl,iw sr hb,zL sr hbs⟩
theorem dy {α:Type}: ∀(l:List α) (i:Nat),fI l i=l[i]?
 |[],i=>by cases i<;>rfl
 |x::xs,0=>rfl
 |x::xs,i+1=>by simp [fI,dy xs i]
theorem Gk {α β:Type} {f:α->Option β}: ∀{l:List α} {r:List β},l.mapM f=some r->∀i:Nat,r[i]?=(l[i]?).bind f
 |[],r,h,i=>by simp at h; subst h; simp
 |x::xs,r,h,i=>by
  simp only [axJ,ayg,axW] at h;obtain⟨y,U,ys,Z,h3⟩:=h;simp only [pure,ah] at h3;subst h3
  cases i with
  |zero=>simp [U]
  |succ i=>simpa using Gk Z i
theorem VZ {α β:Type} {f:α->Option β}: ∀{l:List α} {r:List β},r.length=l.length->(∀i:Nat,r[i]?=(l[i]?).bind f)->l.mapM f=some r
 |[],r,h,_=>by simp at h; subst h; simp
 |x::xs,[],h,_=>by simp at h
 |x::xs,y::ys,h,Z=>by have h0:=Z 0;simp at h0;have ih:=VZ (l:=xs) (r:=ys) (by simpa using h) (fun i=>by simpa using Z (i+1));simp [axJ,h0.symm,ih]
theorem DW {α β:Type} {f:α->Option β}: ∀{l:List α} {r:List β},l.mapM f=some r->r.length=l.length
 |[],r,h=>by simp at h; subst h; simp
 |x::xs,r,h=>by simp only [axJ,ayg,axW] at h;obtain⟨y,U,ys,Z,h3⟩:=h;simp only [pure,ah] at h3;subst h3;simp [DW Z]
theorem T4 (da:eP P tt) (hp:vn E w.heap parts ps.toList) (h:Mq tt t parts=some v) :
 ∃x,(Instr.build t ps).run P w= .ok x w/\VR E w.heap v x:=by
 unfold Mq at h;split at h
 ·rename_i i hi;have hU:=da t i hi;obtain⟨inf,z,g1,g2,g3,g4,g5⟩:=xV hU;have hz:=fC (E:=E) (h:=w.heap) g5;split at h
  ·rename_i fs hk;rw [aO] at h;obtain⟨mD,U,rfl⟩:=h;obtain⟨iz,e1,e2,e3⟩:=rC U hz.1 hp hz.2;obtain⟨yA,hu,hm⟩:=za hU hk
   have hb:P.built t ps.toList=some iz:=by
    unfold Program.built
    have hm2:(yA.toList.mapM fun f=>(P.info? f.type).map fun i=>(f.offset,i.size))=some (fs.map fun x=>(x.1,x.2.2)):=by
     refine VZ (by simp [DW hm]) fun i=>?_;have:=Gk hm i;rw [bg,this]
     cases yA.toList[i]? with
     |none=>rfl
     |some f=>simp only [Option.bind_some,Option.map_map]; rfl
    simp only [g1,hu,g4,hm2];simp_all [e1,dy]
   exact ah3
  ·rename_i n e hk;split at h
   ·rename_i s hs;rw [aO] at h;obtain⟨mD,U,rfl⟩:=h;obtain⟨iz,e1,e2,e3⟩:=rC U hz.1 hp hz.2;simp only [iT,aO] at hs;obtain⟨ie,np,rfl⟩:=hs;obtain⟨awz,z',f1,f2,f3,f4,f5⟩:=xV (da e ie np)
    have hb:P.built t ps.toList=some iz:=by unfold Program.built;simp only [g1,tq hU hk,g4,f1];simp_all
    exact ah3
   grind
  grind
 grind
theorem DJ {α:Type} (l:List α) (Y:l≠[]): ∀(n i:Nat),i<n*l.length->(dR l n)[i]?=l[i % l.length]?
 |0,i,h=>by simp at h
 |n+1,i,h=>by
  have lU:0<l.length:=axk.2 Y;simp only [dR];rw [ayh];split
  ·rename_i Z; rw [axe Z]
  ·rename_i Z;rw [DJ l Y n (i-l.length) (by rw [aw6] at h; omega)];congr 1;rw [<- Nat.mod_eq_sub_mod J]
theorem jz {α:Type} (l:List α): ∀n,(dR l n).length=n*l.length
 |0=>by simp [dR]
 |n+1=>by simp [dR,jz l n,aw6]; omega
theorem mR {h:Array Obj} {cs:List AV} {us:List Value} (hv:cP E h cs us): ∀n,cP E h (dR cs n) (dR us n)
 |0=>by simp [dR,cP]
 |n+1=>hv.append (mR hv n)
theorem mQ {α:Type} {l:List α} {x:α}: ∀{n},x∈dR l n->x∈l
 |0,h=>by simp [dR] at h
 |n+1,h=>by
  simp only [dR,aw5] at h;rcases h with h|h
  ·exact h
  ·exact mQ h
theorem vT (z:Array Value) (hz:z.toList≠[]) (n:Nat):((Array.range (n*z.size)).map (z[·% z.size]!)).toList=dR z.toList n:=by
 apply axv;intro i
 grind [DJ,jz]
theorem ED [bN] (da:eP P tt) (r:bX E H w) {len:Nat} (hp:vn E w.heap parts ps.toList) (h:u6 tt t len parts H=some (v,H')) :
 ∃x w' E',(Instr.buildSlice t len ps).run P w= .ok x w'/\fm E H w E' H' w'/\bX E' H' w'/\VR E' w'.heap v x:=by
 unfold u6 at h;split at h
 ·rename_i i hi;have hU:=da t i hi;split at h
  ·rename_i e hk;split at h
   ·rename_i ie np;have abk:=da e ie np;obtain⟨inf,z,g1,g2,g3,g4,g5⟩:=xV abk;have hz:=fC (E:=E) (h:=w.heap) g5;split at h
    ·rename_i hb;split at h
     ·rename_i cs U;simp only [ah,ak] at h;obtain⟨rfl,rfl⟩:=h
      have jl:len*ie.size<=2 ^ 24:=by have:len*ie.size<=1000*1000:=ayi hb.1 hb.2.1;omega
      have uG:z.cells.size=ie.size:=by have:=hz.1.length; simp only [bh] at this; omega
      have key: ∃iz:Array Value,Instr.fill (fun i=>some (i*inf.size,inf.size)) ((Array.range (len*inf.size)).map ((if len*inf.size=0 then #[] else z.cells)[·% (if len*inf.size=0 then #[] else z.cells).size]!)) ps.toList=some iz/\cP E w.heap cs iz.toList/\∀u∈iz.toList,u.oneCell'=true:=by
       rw [g2];by_cases h0:len*ie.size=0
       ·rw [ag h0,h0]
        have aoy:dR ie.zero len= []:=by
         grind [jz]
        refine rC U ?_ hp ?_
        all_goals grind [cP]
       ·rw [af h0]
        have jK:z.cells.toList≠[]:=by intro hx;exact ahV
        have hzz:=vT z.cells jK len;rw [uG] at hzz;refine rC U ?_ hp ?_
        all_goals grind [mR,mQ]
      obtain⟨iz,e1,e2,e3⟩:=key;refine⟨.slice (some ⟨w.heap.size,0,none⟩) len len,{ w with heap:=w.heap.push (.cells iz e) },E.ext H.fresh (w.heap.size,0) iz.size,?_,?_⟩
      ·by_cases h0:len*inf.size=0
       ·rw [ag h0] at e1;rw [h0] at e1;have e0: ∀f:Nat->Value,(Array.range 0).map f= #[]:=by intro f; simp
        rw [e0] at e1;simp [Instr.buildSlice,run_underlying (fw hU hk),sizeOf,typeInfo,g1,h0,e0,e1,newRow]
       ·rw [af h0] at e1;have h24: ¬(2 ^ 24<len*inf.size):=by rw [g2]; omega
        simp only [Instr.buildSlice,Sem.run_bind,run_underlying (fw hU hk),Result.andThen_ok,sizeOf,typeInfo,zeroValue,run_program,g1,g4,Sem.run_pure,newRow,gt_iff_lt,h24,h0,if_false,Sem.run_ite];rw [e1];rfl
      ·obtain⟨s1,s2⟩:=ji r iz 0 0 e e2 e3 (fun i u hu=>by rw [<- awV]; exact hu) J (w':={ w with heap:=w.heap.push (.cells iz e) }) rfl ⟨rfl,rfl,rfl⟩;refine⟨s1,s2,?_⟩;simp only [VR]
       grind [En.iH,fJ,En.ext_θ_new]
     grind
    grind
   grind
  grind
 grind
theorem JP {E:En} {h:Array Obj} {n:Int} (hv:VR E h v u) (Y:kV v=some n): ∃k,u= .int k n:=by
 unfold kV at Y;split at Y
 ·simp only [ah] at Y;subst Y;simp only [VR,W.den] at hv
  grind
 grind
theorem xe [bN] (da:eP P tt) (r:bX E H w) {l c:AV} {lu cu:Value} (Y:VR E w.heap l lu) (hc:VR E w.heap c cu) (h:sH tt t l c H=some (v,H')) :
 ∃x w' E',(Instr.makeSlice t lu cu).run P w= .ok x w'/\fm E H w E' H' w'/\bX E' H' w'/\VR E' w'.heap v x:=by
 unfold sH at h;split at h
 ·rename_i n Is;split at h
  ·rename_i m hcm;obtain⟨k1,rfl⟩:=JP Y Is;obtain⟨k2,rfl⟩:=JP hc hcm;split at h
   ·rename_i i hi;have hU:=da t i hi;split at h
    ·rename_i e hk;split at h
     ·rename_i ie np;have abk:=da e ie np;obtain⟨inf,z,g1,g2,g3,g4,g5⟩:=xV abk;have hz:=fC (E:=E) (h:=w.heap) g5;split at h
      ·rename_i hb;obtain⟨b1,b2,b3,b4,b5⟩:=hb;simp only [ah,ak] at h;obtain⟨rfl,rfl⟩:=h;have uG:z.cells.size=ie.size:=by have:=hz.1.length; simp only [bh] at this; omega
       have wn:IntKind.i64.wrap (Int.ofNat n)=Int.ofNat n:=by exact ahQ
       have wm:IntKind.i64.wrap (Int.ofNat m)=Int.ofNat m:=by exact ahQ
       have It:inf.bytes*m<=1000000000:=by rw [g3]; exact ayi b4 b2
       have ai: ∀(k:IntKind) (x:Int) (w:World),(asInt (Value.int k x)).run P w= .ok x w:=fun _ _ _=>rfl
       have key: ∃iz:Array Value,((Array.range (m*inf.size)).map ((if m*inf.size=0 then #[] else z.cells)[·% (if m*inf.size=0 then #[] else z.cells).size]!))=iz/\cP E w.heap (dR ie.zero m) iz.toList/\∀u∈iz.toList,u.oneCell'=true:=by
        rw [g2];by_cases h0:m*ie.size=0
        ·grind [dR,jz,cP]
        ·rw [af h0]
         have jK:z.cells.toList≠[]:=by intro hx;exact ahV
         grind [vT,mR,mQ]
       obtain⟨iz,e1,e2,e3⟩:=key;refine⟨.slice (some ⟨w.heap.size,0,none⟩) n m,{ w with heap:=w.heap.push (.cells iz e) },E.ext H.fresh (w.heap.size,0) iz.size,?_,?_⟩
       ·have t1: ¬(Int.ofNat m<0):=ad
        have t2: ¬((inf.bytes:Int)*Int.ofNat m > 2 ^ 48):=by
         grind
        have t3: ¬(Int.ofNat n<0):=ad
        have t4: ¬(Int.ofNat n > Int.ofNat m):=by simp; omega
        have t5:(askRoom (m*inf.bytes)).run P w= .ok () w:=by simp_all
        have t6:(Int.ofNat m).toNat=m:=rfl;have t7:(Int.ofNat n).toNat=n:=rfl;by_cases h0:m*inf.size=0
        ·rw [ag h0] at e1;rw [h0] at e1;simp only [Instr.makeSlice,Sem.run_bind,run_underlying (fw hU hk),Result.andThen_ok,ai,sizeOf,typeInfo,zeroValue,run_program,g1,g4,Sem.run_pure,newRow,Sem.run_ite,wn,wm,t1,t2,t3,t4,t6,t7,h0,decide_false,axX,aR,if_false,if_true];simp_all
        ·rw [af h0] at e1;simp only [Instr.makeSlice,Sem.run_bind,run_underlying (fw hU hk),Result.andThen_ok,ai,sizeOf,typeInfo,zeroValue,run_program,g1,g4,Sem.run_pure,newRow,Sem.run_ite,wn,wm,t1,t2,t3,t4,t6,t7,h0,decide_false,axX,aR,if_false];simp_all
       ·obtain⟨s1,s2⟩:=ji r iz 0 0 e e2 e3 (fun i u hu=>by rw [<- awV]; exact hu) J (w':={ w with heap:=w.heap.push (.cells iz e) }) rfl ⟨rfl,rfl,rfl⟩;refine⟨s1,s2,?_⟩;simp only [VR];exact⟨En.iH _ _ _ _,⟨w.heap.size,0,none⟩,m,rfl,b1,by simp [fJ,En.ext_θ_new]⟩
      grind
     grind
    grind
   grind
  grind
 grind
end
end
section
variable {t f off:Nat} {x v ix:AV} {u ui:Value} {tt:TT} {i:TI}
section
variable {P:Program} {E:En} {w:World}
theorem Oi (hU:oe P t i) {fs:List (Nat×Nat×Nat)} (hk:i.kind= .struct fs) {ft sz:Nat} (h:fI fs f=some (off,ft,sz)) :
 ∃(yA:Array Field) (fd:Field) (inf:TypeInfo),P.underlying t=some (.struct yA)/\yA[f]?=some fd/\fd.offset=off/\fd.type=ft/\P.info? ft=some inf/\inf.size=sz:=by
 obtain⟨yA,hu,hm⟩:=za hU hk;have U:=Gk hm f;rw [<- dy,h,awV] at U
 cases hf:yA[f]? with
 |none=>rw [hf] at U; simp at U
 |some fd=>
  rw [hf] at U;simp only [Option.bind_some] at U
  cases hi:P.info? fd.type with
  |none=>rw [hi] at U; simp at U
  |some inf=>
   grind
theorem Jl (hx:VR E w.heap x u) (h:VW off x=some v) :
 ∃b o,u= .pointer (some ⟨b,o,none⟩)/\VR E w.heap v (.pointer (some ⟨b,o+off,none⟩)):=by
 unfold VW at h;cases x<;>simp only [ah,reduceCtorEq,aO] at h
 case ptr id o=>
  subst h;simp only [VR] at hx ⊢;obtain⟨rfl,hid⟩:=hx;exact⟨_,_,rfl,by rw [awW],hid⟩
 case BJ id es i o=>
  subst h;simp only [VR] at hx ⊢;obtain⟨hid,k,U,rfl⟩:=hx;exact⟨_,_,rfl,hid,k,U,by rw [awW,awW]⟩
 case oC cs=>
  obtain⟨l,U,rfl⟩:=h;simp only [VR] at hx ⊢;obtain⟨b,o,us,rfl,Z,h3,h4,h5⟩:=hx;exact⟨b,o,rfl,b,o+off,us.drop off,rfl,Z,(h3.fc U).1,h4.drop off,fun u hu=>h5 u (awR hu)⟩
theorem Hg (da:eP P tt) (hx:VR E w.heap x u) (h:xg tt t x f=some v) :
 ∃r,(Instr.fieldAt t u f).run P w= .ok r w/\VR E w.heap v r:=by
 unfold xg at h;split at h
 ·rename_i i hi;split at h
  ·rename_i fs hk;split at h
   ·rename_i off ft sz hn;obtain⟨yA,fd,inf,hu,hf,U,Z,h3,h4⟩:=Oi (da t i hi) hk hn;split at h
    ·grind
    ·rename_i jl;obtain⟨b,o,rfl,hv⟩:=Jl hx h;refine⟨_,?_,hv⟩;have jK: ¬inf.size=0:=by rw [h4]; exact jl
     simp [Instr.fieldAt,run_underlying hu,hf,Instr.sureAddr,fieldPlace,sizeOf,typeInfo,Z,h3,jK,gA,U]
   grind
  grind
 grind
theorem VN (hU:oe P t i) {cs l:List AV} {us:List Value} (hv:cP E w.heap cs us) (V:fc off cs=some l)
 (h:partOf i l=some v) :
 ∃r,(part t us.toArray off).run P w= .ok r w/\VR E w.heap v r:=by
 obtain⟨U,Z,h3⟩:=hv.fc V;have hlen:=hv.length;unfold partOf at h;split at h
 ·rename_i Tu;rw [aO] at h;obtain⟨l',h4,rfl⟩:=h;obtain⟨h5,h6⟩:=U.iS h4;refine⟨.agg (us.toArray.extract off (off+i.size)),?_,?_⟩
  ·simp [part,qK hU,Tu,e9 hU]
  ·simp only [VR]
   grind
 ·rename_i Tu;split at h
  ·rename_i x l';simp at h;subst h;rw [bU] at U;obtain⟨u,vs,he,h5,_⟩:=U;refine⟨u,?_,h5⟩
   have hg:us[off]?=some u:=by
    have:=congrArg (·[0]?) he
    grind
   simp [part,qK hU,Tu,hg]
  grind
theorem TU (da:eP P tt) (hx:VR E w.heap x u) (h:Mi tt t x f=some v) :
 ∃r,(Instr.field t u f).run P w= .ok r w/\VR E w.heap v r:=by
 unfold Mi at h;split at h
 ·rename_i i hi;split at h
  ·rename_i fs hk;split at h
   ·rename_i off ft sz hn;obtain⟨yA,fd,inf,hu,hf,U,Z,h3,h4⟩:=Oi (da t i hi) hk hn;split at h
    ·rename_i fi cs hfi;split at h
     ·rename_i l Y;simp only [VR] at hx;obtain⟨us,rfl,hv⟩:=hx;obtain⟨r,e1,e2⟩:=VN (w:=w) (da ft fi hfi) hv Y h;refine⟨r,?_,e2⟩;simp [Instr.field,run_underlying hu,hf,asAgg,U,Z,e1]
     grind
    grind
   grind
  grind
 grind
theorem CU {n:Int} (hx:VR E w.heap x u) (h:kV x=some n): ∃k,u= .int k n:=by
 cases x<;>simp [kV] at h;rename_i k e;cases e<;>simp at h;subst h;simp only [VR,W.den] at hx
 grind
theorem rE (da:eP P tt) (hx:VR E w.heap x u) (Bd:VR E w.heap ix ui) (h:pL tt t x ix=some v) :
 ∃r,(Instr.indexAt t u ui).run P w= .ok r w/\VR E w.heap v r:=by
 unfold pL at h;split at h
 ·rename_i i hi;obtain⟨k,rfl⟩:=CU Bd hi;split at h
  ·rename_i ti hU;have wS:=da t ti hU;split at h
   ·rename_i n e hk;split at h
    ·rename_i gk;split at h
     ·rename_i s hs;simp only [iT,aO] at hs;obtain⟨ie,np,rfl⟩:=hs;obtain⟨b,o,rfl,hv⟩:=Jl hx h;refine⟨_,?_,hv⟩;have hu:=tq wS hk;simp [Instr.indexAt,asIntOf,run_underlying hu,Instr.sureAddr,e9 (da e ie np),gk,gA]
     grind
    grind
   ·rename_i e hk;have hu:=fw wS hk;split at h
    ·rename_i s hs;simp only [iT,aO] at hs;obtain⟨ie,np,rfl⟩:=hs;split at h
     ·rename_i id o len c;split at h
      ·rename_i gk;simp at h;subst h;simp only [VR] at hx;obtain⟨hid,a,cap,rfl,kX,hc⟩:=hx
       have ha:a=⟨(E.θ id).1,(E.θ id).2+o,none⟩:=by exact al0
       subst ha;refine⟨.pointer (some ⟨(E.θ id).1,(E.θ id).2+o+i*ie.size,none⟩),?_,by simp only [VR]; exact⟨by rw [awW],hid⟩⟩;exact ahY
      grind
     ·rename_i cs n full;split at h
      ·rename_i gk;rw [aO] at h;obtain⟨l,U,rfl⟩:=h;simp only [VR] at hx;obtain⟨b,o,cap,us,rfl,Z,h3,h4,h5,h6,h7⟩:=hx;refine⟨.pointer (some ⟨b,o+i*ie.size,none⟩),?_,?_⟩
       ·exact ahY
       ·simp only [VR];exact⟨b,_,us.drop (i*ie.size),rfl,h4,(h5.fc U).1,h6.drop _,fun u hu=>h7 u (awR hu)⟩
      grind
     grind
    grind
   grind
  grind
 grind
theorem FL (s:List Nat) (i:Nat):(dv s)[i]?=(s[i]?).map UInt8.ofNat:=by have U:(dv s)[i]?=(dv s).data[i]?:=rfl;rw [U];simp [dv]
theorem zM (da:eP P tt) (hx:VR E w.heap x u) (Bd:VR E w.heap ix ui) (h:BE tt t x ix=some v) :
 ∃r,(Instr.index t u ui).run P w= .ok r w/\VR E w.heap v r:=by
 unfold BE at h;split at h
 ·rename_i i hi;obtain⟨k,rfl⟩:=CU Bd hi;split at h
  ·rename_i ti hU;have wS:=da t ti hU;split at h
   ·rename_i s hk;rw [aO] at h;obtain⟨b,hb,rfl⟩:=h;simp only [VR] at hx;obtain⟨rfl,gk⟩:=hx;rw [dy] at hb;have hg:(dv s)[i]?=some (UInt8.ofNat b):=by rw [FL,hb]; rfl
    have av3:=gk b (bq hb);refine⟨_,by simp [Instr.index,asIntOf,run_underlying (fV wS hk),hg]; rfl,?_⟩;simp only [VR,W.den]
    grind
   ·rename_i n e cs hk;split at h
    ·rename_i gk;split at h
     ·rename_i ie np;split at h
      ·rename_i l Y;simp only [VR] at hx;obtain⟨us,rfl,hv⟩:=hx;obtain⟨r,e1,e2⟩:=VN (w:=w) (da e ie np) hv Y h;refine⟨r,?_,e2⟩;simp [Instr.index,asIntOf,run_underlying (tq wS hk),gk,e9 (da e ie np),e1]
      grind
     grind
    grind
   grind
  grind
 grind
end
end
section
variable {d y k len cap m h l t:Nat} {x v:AV} {u:Value} {lo hi mx:Option AV} {DX hi' mx':Option Value} {tt:TT}
section
variable {P:Program} {E:En} {w:World}
def gR (E:En) (h:Array Obj):Option AV->Option Value->Prop
 |none,o=>o=none
 |some x,o=> ∃u,o=some u/\VR E h x u
theorem fF {s:St} {a:Act} (sr:SR E w.heap s.bC a) {x:Option Operand} {v:Option AV} (h:Kb s x=some v):gR E w.heap v (x.map a.eval):=by
 cases x with
 |none=>simp [Kb] at h; subst h; simp [gR]
 |some x=> simp only [Kb,aO] at h;obtain⟨b,U,rfl⟩:=h;exact⟨_,rfl,iw sr U⟩
theorem BY (hx:VR E w.heap x u) (h:pg (some x) d y=some k) {y':Nat} (hy:y<=y') (code:BoundsCode) :
 (Instr.sliceBound u y' code).run P w= .ok k w/\k<=y:=by
 unfold pg at h;simp only at h;split at h
 ·rename_i i hi;obtain⟨kk,rfl⟩:=CU hx hi;split at h
  ·rename_i hle;simp at h;subst h;refine⟨?_,hle⟩;have:((i:Int)<=(y':Int)):=J
   simp [Instr.sliceBound,asIntOf];omega
  grind
 grind
theorem HN (h:pg none d y=some k):k=d/\d<=y:=by
 grind [pg]
theorem gf {isSlice:Bool} {m0 h0:Nat} (qM:gR E w.heap lo DX) (Ah:gR E w.heap hi hi') (vw:gR E w.heap mx mx')
 (hmh:mx.isSome=true->hi.isSome=true)
 (hm:(mx=none/\m=cap/\m0<=cap)\/(∃x,mx=some x/\pg mx d m0=some m/\m0<=cap))
 (hh:pg hi len h0=some h) (hh0:(mx=none->h0<=cap)/\(mx≠none->h0=m)) (Y:pg lo 0 h=some l) :
 (Instr.sliceBounds isSlice len cap DX hi' mx').run P w= .ok (l,h,m) w/\l<=h:=by
 have key: ∀(c:BoundsCode) (v:AV) (u:Value),lo=some v->VR E w.heap v u->(Instr.sliceBound u h c).run P w= .ok l w/\l<=h:=by intro c v u hv hu;subst hv;exact BY hu Y (au _) c
 have awx:lo=none->l=0:=fun hv=>by subst hv; exact (HN Y).1
 unfold Instr.sliceBounds;rcases hm with ⟨rfl,rfl,hm0⟩|⟨x,rfl,hm1,hm0⟩
 ·simp only [gR] at vw;subst vw;have hb:=hh0.1 rfl
  cases hi with
  |none=> simp only [gR] at Ah;subst Ah;obtain⟨rfl,_⟩:=HN hh;exact aiL
  |some y=> obtain⟨uy,rfl,huy⟩:=Ah;have U:=fun c=>(BY (P:=P) huy hh hb c).1;exact aiL
 ·obtain⟨ux,rfl,hux⟩:=vw;have Z:=fun c=>(BY (P:=P) hux hm1 hm0 c).1;have hb:=hh0.2 ad;subst hb
  cases hi with
  |none=>simp at hmh
  |some y=>
   obtain⟨uy,rfl,huy⟩:=Ah;have U:=fun c=>(BY (P:=P) huy hh (au _) c).1
   cases lo with
   |none=> simp only [gR] at qM;simp_all
   |some v=> obtain⟨u,rfl,hu⟩:=qM;obtain⟨k1,k2⟩:=key .slice3C v u rfl hu;simp_all
theorem uq (s:List Nat) (l h:Nat):(dv s).extract l h=dv ((s.take h).drop l):=by apply ByteArray.ext;apply Array.ext';rw [Lib.extract_data];simp [dv,axK,axY,List.drop_take]
theorem rN {id o es:Nat} {a:Addr} {c c':U2} (hc:fJ E id o len a cap c) (hlen:len<=cap) (hlh:l<=h) (hhm:h<=m) (hmc:m<=cap)
 (O7:(∃k,c= .exact k/\c'= .exact (m-l))\/(c= .rest es/\c'= .exact (m-l))\/(c= .rest es/\c'= .rest es/\m=cap)) (s:Nat) (lW:c'= .rest es->es=s) :
 fJ E id (o+l*s) (h-l) (if m=l then a else a.add (l*s)) (m-l) c':=by
 rcases O7 with ⟨k,rfl,rfl⟩|⟨rfl,rfl⟩|⟨rfl,rfl,rfl⟩
 ·exact aic
 ·exact aic
 ·simp only [fJ] at *;obtain rfl:=lW trivial;by_cases hml:m=l
  ·grind
  ·left;rw [af hml];rcases hc with ha|ha
   ·refine⟨by rw [ha.1,gA,awW],?_⟩;rw [<- ha.2,awW,<- aw6]
    grind
   ·omega
theorem l7 {x:Option AV} (h:pg x d y=some k):k<=y:=by
 unfold pg at h;split at h
 ·grind
 ·split at h
  all_goals grind
theorem Pt [bN] (da:eP P tt) {H:Hp} (r:bX E H w) (hx:VR E w.heap x u)
 (qM:gR E w.heap lo DX) (Ah:gR E w.heap hi hi') (vw:gR E w.heap mx mx') (h:Hb tt t x lo hi mx H=some v) :
 ∃r,(Instr.sliceAt t u DX hi' mx').run P w= .ok r w/\VR E w.heap v r:=by
 unfold Hb at h;split at h
 ·grind
 ·split at h
  ·grind
  ·rename_i ti hU;have wS:=da t ti hU;split at h
   ·rename_i e hk;have hu:=fw wS hk;split at h
    ·grind
    ·rename_i s hs;simp only [iT,aO] at hs;obtain⟨ie,np,rfl⟩:=hs;have jl:=e9 (w:=w) (da e ie np);split at h
     ·rename_i id o len es;split at h
      ·rename_i lW;split at h
       ·rename_i cs ty Y;split at h
        ·grind
        ·rename_i b B7;split at h
         ·grind
         ·rename_i l nZ;simp at h;subst h;obtain⟨lW,lU⟩:=lW;subst lW;simp only [VR] at hx;obtain⟨hid,a,cap,rfl,hlen,hc⟩:=hx;have Ba:=(r.live id _ Y).2.1;simp only [OR] at Ba;obtain⟨arr,lo1,hi1,us,q1,q2,q3,q4,q5,q6,q7⟩:=Ba
          have kX:(cs.length-o) / ie.size<=cap:=by
           simp only [fJ] at hc;rcases hc with hc|hc
           ·have:cs.length-o<=cap*ie.size:=J
            exact Nat.div_le_of_le_mul (by rw [ayf]; exact this)
           simp_all
          obtain⟨e1,e2⟩:=gf (P:=P) (w:=w) (isSlice:=true) (len:=len) (cap:=cap) (m0:=cap) (d:=0) (m:=cap) qM Ah vw ad (.inl ⟨rfl,rfl,au _⟩) B7 ⟨fun _=>kX,ad⟩ nZ;have aoG:=l7 B7;refine⟨.slice (some (if cap=l then a else a.add (l*ie.size))) (b-l) (cap-l),?_,?_⟩
          ·exact XP
          ·simp only [VR];exact⟨hid,_,_,rfl,J,rN (es:=ie.size) hc hlen e2 J (au _) (.inr (.inr ⟨rfl,rfl,rfl⟩)) _ (fun _=>rfl)⟩
       grind
      grind
     grind
   grind
theorem TL (da:eP P tt) (hx:VR E w.heap x u)
 (qM:gR E w.heap lo DX) (Ah:gR E w.heap hi hi') (vw:gR E w.heap mx mx') (h:Mb tt t x lo hi mx=some v) :
 ∃r,(Instr.sliceAt t u DX hi' mx').run P w= .ok r w/\VR E w.heap v r:=by
 unfold Mb at h;split at h
 ·grind
 ·rename_i ti hU;have wS:=da t ti hU;split at h
  ·rename_i hk;have hu:=fV wS hk;split at h
   ·rename_i s;simp only [gR] at vw;subst vw;split at h
    ·rename_i b hb;split at h
     ·rename_i l Y;simp at h;subst h;simp only [VR] at hx;obtain⟨rfl,gk⟩:=hx;obtain⟨e1,e2⟩:=gf (P:=P) (w:=w) (isSlice:=false) (len:=s.length) (cap:=s.length) (m0:=s.length) (d:=0) qM Ah (mx:=none) (mx':=none) rfl ad (.inl ⟨rfl,rfl,au _⟩) hb ⟨fun _=>au _,ad⟩ Y;refine⟨.string ((dv s).extract l b),?_,?_⟩
      ·exact ahJ
      ·simp only [VR,uq]
       grind
     grind
    grind
   grind
  ·rename_i e hk;have hu:=fw wS hk;split at h
   ·grind
   ·rename_i s hs;simp only [iT,aO] at hs;obtain⟨ie,np,rfl⟩:=hs;have jl:=fun w'=>e9 (da e ie np) w';split at h
    ·split at h
     ·grind
     ·rename_i hmh;split at h
      ·rename_i kh kl km B7 nZ It;simp at h;subst h;simp only [VR] at hx;subst hx;obtain rfl:kh=0:=by have:=l7 B7; omega
       obtain rfl:kl=0:=by have:=l7 nZ; omega
       obtain rfl:km=0:=by have:=l7 It; omega
       have hm:(mx=none/\0=0/\0<=0)\/(∃x,mx=some x/\pg mx 0 0=some 0/\0<=0):=by
        cases mx with
        |none=>exact .inl ⟨rfl,rfl,au _⟩
        |some y=>exact .inr ⟨y,rfl,It,au _⟩
       obtain⟨e1,e2⟩:=gf (P:=P) (w:=w) (isSlice:=true) (len:=0) (cap:=0) (m0:=0) (d:=0) (m:=0) qM Ah vw (by cases mx<;>cases hi<;>simp_all) hm B7 ⟨fun _=>au _,fun _=>rfl⟩ nZ;refine⟨.slice none 0 0,?_,by simp only [VR]⟩;exact ahb
      grind
    ·rename_i id o len c;split at h
     ·grind
     ·rename_i hmh;split at h
      ·grind
      ·rename_i m It;split at h
       ·grind
       ·rename_i b B7;split at h
        ·grind
        ·rename_i l nZ;simp at h;subst h;simp only [VR] at hx;obtain⟨hid,a,cap,rfl,hlen,hc⟩:=hx;have kX:cap=c:=by simp only [fJ] at hc; exact hc.1
         subst kX
         have hm:(mx=none/\m=cap/\cap<=cap)\/(∃x,mx=some x/\pg mx cap cap=some m/\cap<=cap):=by exact aiE
         obtain⟨e1,e2⟩:=gf (P:=P) (w:=w) (isSlice:=true) (len:=len) (cap:=cap) (m0:=cap) (d:=cap) (m:=m) qM Ah vw (by cases mx<;>cases hi<;>simp_all) hm B7 ⟨fun _=>l7 It,fun _=>rfl⟩ nZ;refine⟨.slice (some (if m=l then a else a.add (l*ie.size))) (b-l) (m-l),?_,?_⟩
         ·exact XP
         ·simp only [VR];exact⟨hid,_,_,rfl,by have:=l7 B7; omega,rN (es:=0) hc hlen e2 (l7 B7) (l7 It) (.inl ⟨_,rfl,rfl⟩) _ ad⟩
    ·rename_i id o len es;split at h
     ·split at h
      ·grind
      ·rename_i b B7;split at h
       ·grind
       ·rename_i l nZ;split at h
        ·rename_i lW;simp at h;subst h;simp only [VR] at hx;obtain⟨hid,a,cap,rfl,hlen,hc⟩:=hx;obtain⟨e1,e2⟩:=gf (P:=P) (w:=w) (isSlice:=true) (len:=len) (cap:=cap) (m0:=cap) (d:=0) (m:=cap) qM Ah vw ad (.inl ⟨rfl,rfl,au _⟩) B7 ⟨fun _=>hlen,ad⟩ nZ;have aoG:=l7 B7;refine⟨.slice (some (if cap=l then a else a.add (l*ie.size))) (b-l) (cap-l),?_,?_⟩
         ·exact XP
         ·simp only [VR];exact⟨hid,_,_,rfl,J,rN (es:=es) hc hlen e2 J (au _) (.inr (.inr ⟨rfl,rfl,rfl⟩)) _ (fun _=>lW)⟩
        grind
     ·rename_i y;split at h
      ·grind
      ·grind
      ·rename_i b0 m It;split at h
       ·grind
       ·rename_i b B7;split at h
        ·grind
        ·rename_i l nZ;simp at h;subst h;simp only [VR] at hx;obtain⟨hid,a,cap,rfl,hlen,hc⟩:=hx;obtain⟨e1,e2⟩:=gf (P:=P) (w:=w) (isSlice:=true) (len:=len) (cap:=cap) (m0:=len) (d:=0) (m:=m) qM Ah vw ad (.inr ⟨y,rfl,It,hlen⟩) B7 ⟨ad,fun _=>rfl⟩ nZ;have yQ:=l7 B7;have hm2:=l7 It;refine⟨.slice (some (if m=l then a else a.add (l*ie.size))) (b-l) (m-l),?_,?_⟩
         ·exact XP
         ·simp only [VR];exact⟨hid,_,_,rfl,J,rN (es:=es) hc hlen e2 yQ J (.inr (.inl ⟨rfl,rfl⟩)) _ ad⟩
    ·rename_i cs n full;split at h
     ·split at h
      ·grind
      ·rename_i b B7;split at h
       ·grind
       ·rename_i l nZ;split at h
        ·grind
        ·rename_i d V;split at h
         ·grind
         ·rename_i d' Nv;simp at h;subst h;simp only [VR] at hx;obtain⟨bb,o,cap,us,rfl,hn,JY,h4,h5,h6,h7⟩:=hx;obtain⟨e1,e2⟩:=gf (P:=P) (w:=w) (isSlice:=true) (len:=n) (cap:=cap) (m0:=cap) (d:=0) (m:=cap) qM Ah vw ad (.inl ⟨rfl,rfl,au _⟩) B7 ⟨fun _=>hn,ad⟩ nZ;have yQ:=l7 B7;obtain⟨g1,g2,g3⟩:=h5.fc V;obtain⟨g4,g5⟩:=g1.iS Nv;refine⟨.slice (some (if cap=l then⟨bb,o,none⟩ else (⟨bb,o,none⟩ : Addr).add (l*ie.size))) (b-l) (cap-l),?_,?_⟩
          ·exact XP
          ·simp only [VR];by_cases hml:cap=l
           ·have h0:b-l=0:=J
            refine⟨bb,o,cap-l,(us.drop (l*ie.size)).take ((b-l)*ie.size),by rw [ag hml],J,fun _=>by omega,h4,g4,?_,fun u hu=>h7 u (awR (awT hu))⟩;rw [h0,aw0];intro i u hu
            grind
           ·refine⟨bb,o+l*ie.size,cap-l,(us.drop (l*ie.size)).take ((b-l)*ie.size),by rw [af hml,gA],J,?_,h4,g4,(h6.drop _).take _,fun u hu=>h7 u (awR (awT hu))⟩;intro hf
            grind
     ·rename_i y;split at h
      ·grind
      ·grind
      ·rename_i b0 m It;split at h
       ·grind
       ·rename_i b B7;split at h
        ·grind
        ·rename_i l nZ;split at h
         ·grind
         ·rename_i d V;split at h
          ·grind
          ·rename_i d' Nv;simp at h;subst h;simp only [VR] at hx;obtain⟨bb,o,cap,us,rfl,hn,JY,h4,h5,h6,h7⟩:=hx;obtain⟨e1,e2⟩:=gf (P:=P) (w:=w) (isSlice:=true) (len:=n) (cap:=cap) (m0:=n) (d:=0) (m:=m) qM Ah vw ad (.inr ⟨y,rfl,It,hn⟩) B7 ⟨ad,fun _=>rfl⟩ nZ;have yQ:=l7 B7;obtain⟨g1,g2,g3⟩:=h5.fc V;obtain⟨g4,g5⟩:=g1.iS Nv;refine⟨.slice (some (if m=l then⟨bb,o,none⟩ else (⟨bb,o,none⟩ : Addr).add (l*ie.size))) (b-l) (m-l),?_,?_⟩
           ·exact XP
           ·simp only [VR];by_cases hml:m=l
            ·have h0:b-l=0:=J
             refine⟨bb,o,m-l,(us.drop (l*ie.size)).take ((b-l)*ie.size),by rw [ag hml],J,fun _=>by omega,h4,g4,?_,fun u hu=>h7 u (awR (awT hu))⟩;rw [h0,aw0];intro i u hu
             grind
            ·refine⟨bb,o+l*ie.size,m-l,(us.drop (l*ie.size)).take ((b-l)*ie.size),by rw [af hml,gA],J,?_,h4,g4,(h6.drop _).take _,fun u hu=>h7 u (awR (awT hu))⟩;intro hf
             grind
    grind
  ·rename_i n e hk;have hu:=tq wS hk;split at h
   ·grind
   ·rename_i s hs;simp only [iT,aO] at hs;obtain⟨ie,np,rfl⟩:=hs;have jl:=fun w'=>e9 (da e ie np) w';split at h
    ·rename_i id o;split at h
     ·grind
     ·rename_i hmh;split at h
      ·grind
      ·rename_i m It;split at h
       ·grind
       ·rename_i b B7;split at h
        ·grind
        ·rename_i l nZ;simp at h;subst h;simp only [VR] at hx;obtain⟨rfl,hid⟩:=hx
         have hm:(mx=none/\m=n/\n<=n)\/(∃x,mx=some x/\pg mx n n=some m/\n<=n):=by exact aiE
         obtain⟨e1,e2⟩:=gf (P:=P) (w:=w) (isSlice:=false) (len:=n) (cap:=n) (m0:=n) (d:=n) (m:=m) qM Ah vw (by cases mx<;>cases hi<;>simp_all) hm B7 ⟨fun _=>l7 It,fun _=>rfl⟩ nZ;refine⟨.slice (some (if m=l then⟨(E.θ id).1,(E.θ id).2+o,none⟩ else (⟨(E.θ id).1,(E.θ id).2+o,none⟩ : Addr).add (l*ie.size))) (b-l) (m-l),?_,?_⟩
         ·simp [Instr.sliceAt,run_underlying hu,Instr.sureAddr,e1,jl]<;>split<;>rfl
         ·simp only [VR,fJ];refine⟨hid,_,_,rfl,by have:=l7 B7; omega,rfl,?_⟩;by_cases hml:m=l
          ·grind
          ·left; rw [af hml,gA,awW]
    grind
  grind
end
end
section
variable {P:Program} {E:En} {w:World}
theorem Eg {h:Array Obj}: ∀{cs:List AV} {us:List Value} {l:List Nat},xm cs=some l->cP E h cs us->us=(l.map UInt8.ofNat).map (fun b=>Value.int .u8 (b.toNat:Int))/\∀b∈l,b<256
 |[],us,l,U,Z=>by
  simp [xm] at U;subst U;rw [jf] at Z
  grind
 |x::cs,us,l,U,Z=>by
  rw [bU] at Z;obtain⟨u,vs,rfl,h3,h4⟩:=Z;unfold xm at U;split at U
  ·rename_i he; simp at he
  ·rename_i b xs he;simp only [List.cons.injEq] at he;obtain⟨rfl,rfl⟩:=he;split at U
   ·rename_i hb;split at U
    ·rename_i l' Y;simp at U;subst U;obtain⟨e1,e2⟩:=Eg Y h4;simp only [VR,W.den] at h3;refine⟨?_,?_⟩
     ·rw [h3,e1];simp [axj,axe hb]
     grind
    grind
   grind
  grind
theorem BG [bN] {tt:TT} (da:eP P tt) {H H':Hp} (r:bX E H w) {sT dT:Nat} {x v:AV} {u:Value} (hx:VR E w.heap x u) (h:qO tt sT dT x H=some (v,H')) :
 ∃y w' E',(convert sT dT u).run P w= .ok y w'/\fm E H w E' H' w'/\bX E' H' w'/\VR E' w'.heap v y:=by
 unfold qO at h;split at h
 ·grind
 ·rename_i j hj;obtain⟨sd,hsd,hsk⟩:=tP (da sT j hj);split at h
  ·rename_i i hi;have hU:=da dT i hi;split at h
   ·rename_i k hk;have V:=xJ hU hk;split at h
    ·rename_i kk n;simp only [ah,ak] at h;obtain⟨rfl,rfl⟩:=h;simp only [VR] at hx;subst hx;refine⟨.int k (k.wrap n),w,E,?_,fm.refl _ _ _,r,by simp only [VR,W.den,nQ]⟩;simp [convert,run_underlying hsd,run_underlying V,Conv.intToInt,W.den]
    ·rename_i kk e jK;simp only [ah,ak] at h;obtain⟨rfl,rfl⟩:=h;simp only [VR] at hx;subst hx;refine⟨.int k (k.wrap (e.den E.ρ)),w,E,?_,fm.refl _ _ _,r,by simp only [VR,W.den]⟩;simp [convert,run_underlying hsd,run_underlying V,Conv.intToInt]
    grind
   ·rename_i hk;have V:=fV hU hk;split at h
    ·rename_i hjk;split at h
     ·rename_i s;simp only [ah,ak] at h;obtain⟨rfl,rfl⟩:=h;have hx':=hx;simp only [VR] at hx;obtain⟨rfl,_⟩:=hx;refine⟨_,w,E,?_,fm.refl _ _ _,r,hx'⟩;simp [convert,run_underlying (fV (da sT j hj) hjk),run_underlying V]
     grind
    ·rename_i e hjk;have hs:=fw (da sT j hj) hjk;split at h
     ·grind
     ·rename_i ie np;split at h
      ·rename_i hu8;have he:=xJ (da e ie np) hu8.1;split at h
       ·simp only [ah,ak] at h;obtain⟨rfl,rfl⟩:=h;simp only [VR] at hx;subst hx;refine⟨.string .empty,w,E,?_,fm.refl _ _ _,r,?_⟩
        ·rw [run_convert_bytes_string w sT dT e none 0 0 hs he V];rfl
        ·simp only [VR];exact⟨rfl,ad⟩
       ·rename_i id o len c;split at h
        ·rename_i cs hcs;rw [aO] at h;obtain⟨l,Y,he2⟩:=h;simp only [ak] at he2;obtain⟨rfl,rfl⟩:=he2;simp only [VR] at hx;obtain⟨hid,a,cap,rfl,kX,hc⟩:=hx;obtain⟨b,o',us,e1,e2,e3,e4,e5⟩:=xO r (p:=.ptr id o) (u:=.pointer (some ⟨(E.θ id).1,(E.θ id).2+o,none⟩)) (by simp only [VR]; exact⟨trivial,hid⟩) hcs;obtain⟨e6,e7⟩:=Eg Y e3
         have hlen:len=(l.map UInt8.ofNat).length:=by
          grind
         have ha:a=⟨(E.θ id).1,(E.θ id).2+o,none⟩\/len=0:=by exact al0
         refine⟨.string (dv l),w,E,?_,fm.refl _ _ _,r,by simp only [VR]; exact⟨trivial,e7⟩⟩;rw [hlen];refine run_convert_bytes_back w sT dT e a cap (l.map UInt8.ofNat) hs he V fun k hk=>?_;rcases ha with ha|ha
         ·subst ha;rw [gA,pO];simp only [Value.pointer.injEq,ah,Addr.mk.injEq] at e1;obtain⟨e1a,e1b,_⟩:=e1;rw [e1a,e1b];refine e4 k _ ?_
          grind
         ·omega
        grind
       grind
      grind
    grind
   ·rename_i e hk;have V:=fw hU hk;split at h
    ·grind
    ·rename_i ie np;split at h
     ·rename_i hu8;have he:=xJ (da e ie np) hu8.1;split at h
      ·rename_i s;simp only [ah,ak] at h;obtain⟨rfl,rfl⟩:=h;simp only [VR] at hx;obtain⟨rfl,gk⟩:=hx;have hs:=fV (da sT j hj) hu8.2;have jl:(dv s).size=s.length:=mN s;have YV:=grownCap_ge w (dv s).size 0 e
       have ig:(bytesRow (dv s) (grownCap w (dv s).size 0 e)).size=grownCap w (dv s).size 0 e:=by have U:(dv s).data.size=s.length:=jl;simp only [bytesRow,Array.size_append,Array.size_map,Array.size_replicate,U];omega
       have hv:cP E w.heap (s.map fun c=>AV.int .u8 (.lit (Int.ofNat c))) ((s.map UInt8.ofNat).map (fun b=>Value.int .u8 (b.toNat:Int))):=by
        clear YV ig jl
        induction s with
        |nil=>simp [cP]
        |cons b s ih=> have hb:=gk b ad;rw [aC,aC,aC,bU];refine⟨_,_,rfl,?_,ih fun c hc=>gk c (by simp [hc])⟩;simp [VR,W.den,axj,axe hb]
       obtain⟨s1,s2⟩:=ji r (bytesRow (dv s) (grownCap w (dv s).size 0 e)) (bytesRow (dv s) (grownCap w (dv s).size 0 e)).size ((bytesRow (dv s) (grownCap w (dv s).size 0 e)).size+1) e hv
        (by intro u hu; simp only [aQ] at hu; obtain⟨b,_,rfl⟩:=hu; rfl)
        (by
         intro k u hu;have hk:=(bc.1 hu).1;simp only [a8] at hk;simp only [bytesRow];rw [ayC (by have U:(dv s).data.size=s.length:=jl; simp only [Array.size_map,U]; exact hk)];rw [<- hu]
         simp [dv])
        (by intro o U Z; omega)
        (w':=w.drew.alloc (.cells (bytesRow (dv s) (grownCap w (dv s).size 0 e)) e ((bytesRow (dv s) (grownCap w (dv s).size 0 e)).size,(bytesRow (dv s) (grownCap w (dv s).size 0 e)).size+1))) rfl ⟨rfl,rfl,rfl⟩
       refine⟨_,_,_,run_bytes_of_string w sT dT e (dv s) hs V he,s1,s2,?_⟩;simp only [VR,jl];refine⟨En.iH _ _ _ _,⟨w.heap.size,0,none⟩,_,rfl,by rw [<- jl]; exact YV,?_⟩;simp only [fJ,En.ext_θ_new,En.ext_κ_new]
       grind
      grind
     grind
   grind
  grind
end
section
variable {t r:Nat} {kk:TK} {d:TypeDesc} {u:Value} {o:Obj}
section
variable {P:Program} {E:En} {w:World}
def Dt (d:TypeDesc):TK->Prop
 | .int _=> ∃k,d= .int k
 | .string=>d= .string
 | .bool=>d= .bool
 |_=>False
theorem zB {tt:TT} (da:eP P tt) (h:xT tt t=some kk): ∃d,P.underlying t=some d/\Dt d kk:=by
 unfold xT at h;split at h
 ·rename_i i hi;split at h<;>simp only [ah,reduceCtorEq] at h<;>subst h
  ·rename_i k hk; exact⟨_,xJ (da t i hi) hk,k,rfl⟩
  ·rename_i hk; exact⟨_,fV (da t i hi) hk,rfl⟩
  ·rename_i hk; exact⟨_,NQ (da t i hi) hk,rfl⟩
 grind
theorem X! {x y:List Nat} (hx: ∀b∈x,b<256) (hy: ∀b∈y,b<256):(dv x == dv y)=ij x y:=by
 have e:(dv x == dv y)=((dv x).data == (dv y).data):=rfl;rw [e,aw9,beq_iff_eq,mL];constructor
 ·intro h;have Z:=congrArg (fun b=>b.toList) h;simp only [dv] at Z
  grind [map_inj]
 grind
theorem OQ {h:Array Obj} {pc:List (SB×Bool)} (hp:cA E.ρ pc) (V:Dt d kk) {a b:AV} {u':Value} (ha:VR E h a u) (hb:VR E h b u') {c:Bool} (hc:Wb pc kk a b=some c) :
 Instr.sameNow d u u'=some c/\(c=true->∀n,Instr.sameBits (n+1) u' u=true):=by
 unfold Wb at hc;split at hc
 ·obtain⟨k,rfl⟩:=V;split at hc
  ·simp only [VR] at ha hb;subst ha hb;split at hc
   ·rename_i hk;subst hk;have hc:=gW hp hc;rw [jx] at hc;exact aia
   grind
  grind
 ·simp only [Dt] at V;subst V;split at hc
  ·simp only [VR] at ha hb;obtain⟨rfl,ha⟩:=ha;obtain⟨rfl,hb⟩:=hb;simp at hc;subst hc;have he:=X! ha hb;refine⟨by simp only [Instr.sameNow,he],fun hh n=>?_⟩;simp only [Instr.sameBits]
   grind [mL]
  ·split at hc
   ·rename_i c0 h0;obtain⟨x,y,rfl,rfl,V⟩:=FK ha hb h0;have hc:=gW hp hc;rw [V] at hc
    have hbe: ∀p q:ByteArray,(p == q)=decide (p=q):=by intro p q;exact ap8
    refine⟨by simp only [Instr.sameNow,hbe,hc],fun hh n=>?_⟩;simp only [Instr.sameBits,hbe]
    grind
   grind
 ·simp only [Dt] at V;subst V;split at hc
  ·simp only [VR,SB.den] at ha hb;subst ha hb;simp at hc;exact aia
  grind
 grind
theorem gM (hu:P.underlying t=some d) (V:Dt d kk) (b:Bool) (v:Value):(Instr.checkKey b 10000 t v).run P w= .ok () w:=by
 have h0:(10000:Nat)=9999+1:=rfl;rw [h0];generalize (9999:Nat)=n;cases kk<;>simp only [Dt] at V
 ·subst V; simp [Instr.checkKey,run_underlying hu]
 ·obtain⟨k,rfl⟩:=V; simp [Instr.checkKey,run_underlying hu]
 ·subst V; simp [Instr.checkKey,run_underlying hu]
theorem rA {h:Array Obj} {pc:List (SB×Bool)} (hp:cA E.ρ pc) {kk:TK} {d:TypeDesc} (V:Dt d kk) {k:AV} {u:Value} (hk:VR E h k u): ∀{es:List (AV×AV×Nat)} {cN:List MapEntry} {i:Nat} {res:Option (Nat×AV)},
 eZ E h es cN->D6 pc kk k es i=some res->
 (res=none/\Instr.findNow d u cN i=some none)\/
 (∃j v e,res=some (i+j,v)/\cN[j]?=some e/\VR E h v e.val/\Instr.findNow d u cN i=some (some (i+j,e.val))/\∀n,Instr.sameBits (n+1) e.key u=true)
 |[],cN,i,res,he,hf=>by simp only [eZ] at he;subst he;simp [D6] at hf;exact .inl ⟨hf.symm,by simp [Instr.findNow]⟩
 |(k',v,b)::es,cN,i,res,he,hf=>by
  simp only [eZ] at he;obtain⟨e,r,rfl,U,Z,h3,h4⟩:=he;simp only [D6] at hf;split at hf
  ·rename_i hc;simp at hf;subst hf;obtain⟨g1,g2⟩:=OQ hp V hk U hc;exact .inr ⟨0,v,e,rfl,rfl,Z,by simp [Instr.findNow,g1],g2 rfl⟩
  ·rename_i hc;obtain⟨g1,g2⟩:=OQ hp V hk U hc;rcases rA hp V hk h4 hf with ⟨q1,q2⟩|⟨j,v',e',q1,q2,q3,q4,q5⟩
   ·exact .inl ⟨q1,by simp [Instr.findNow,g1,q2]⟩
   ·refine .inr ⟨j+1,v',e',?_,by simpa using q2,q3,?_,q5⟩
    ·grind
    ·simp only [Instr.findNow,g1,q4]; congr 3; omega
  grind
theorem gp (hu:P.underlying t=some d) {cN:List MapEntry} {r:Option (Nat×Value)} (h:Instr.findNow d u cN 0=some r):(Instr.findKey t u cN).run P w= .ok r w:=by simp [Instr.findKey,run_underlying hu,h]
theorem jZ (h:w.heap[r]?=some o) (hn: ∀c e f,o≠.cells c e f):(getObj r).run P w= .ok o w:=by unfold getObj;exact ahr
theorem jU {o':Obj} (h:w.heap[r]?=some o) (hn: ∀c e f,o≠.cells c e f):(setObj r o').run P w= .ok () { w with heap:=w.heap.setIfInBounds r o' }:=by unfold setObj;exact ahr
theorem iU [bN] {H:Hp} (r:bX E H w) {id:Nat} {o:eL} (Y:H.get id=some o) (ao:eL) (o':Obj)
 (ho: ∀h',h'[(E.θ id).1]?=some o'->kJ E w.heap E h'->OR E h' id ao) :
 fm E H w E (H.put id ao) { w with heap:=w.heap.setIfInBounds (E.θ id).1 o' }/\bX E (H.put id ao) { w with heap:=w.heap.setIfInBounds (E.θ id).1 o' }:=by
 have gk:=ic r Y
 have sW: ∀b,b≠(E.θ id).1->({ w with heap:=w.heap.setIfInBounds (E.θ id).1 o' }:World).heap[b]?=w.heap[b]?:=fun b hb=>by
  grind
 refine Oe r Y ao ad sW ⟨rfl,rfl,rfl⟩ (ho _ ?_ (pA r Y sW))
 grind
theorem eZ.length {h:Array Obj}: ∀{es:List (AV×AV×Nat)} {cN:List MapEntry},eZ E h es cN->cN.length=es.length
 |[],cN,he=>by simp only [eZ] at he; simp [he]
 |(k,v,b)::es,cN,he=>by simp only [eZ] at he;obtain⟨e,r,rfl,_,_,_,h4⟩:=he;simp [h4.length]
theorem eZ.set {h:Array Obj} {k v:AV} {uk uv:Value} (hk:VR E h k uk) (hv:VR E h v uv): ∀{es:List (AV×AV×Nat)} {cN:List MapEntry} {i:Nat} {e:MapEntry},eZ E h es cN->cN[i]?=some e->
 eZ E h (tA k v es i) (cN.set i { e with key:=uk,val:=uv })
 |[],cN,i,e,he,hi=>by simp only [eZ] at he; subst he; simp at hi
 |(k',v',b)::es,cN,0,e,he,hi=>by
  simp only [eZ] at he;obtain⟨e0,r,rfl,U,Z,h3,h4⟩:=he;simp at hi;subst hi;simp only [tA,axZ,eZ]
  grind
 |(k',v',b)::es,cN,i+1,e,he,hi=>by simp only [eZ] at he;obtain⟨e0,r,rfl,U,Z,h3,h4⟩:=he;simp only [tA,ax0,eZ];exact⟨e0,_,rfl,U,Z,h3,eZ.set hk hv h4 (by simpa using hi)⟩
theorem eZ.push {h:Array Obj} {k v:AV} {uk uv:Value} {c c':Nat} (hk:VR E h k uk) (hv:VR E h v uv): ∀{es:List (AV×AV×Nat)} {cN:List MapEntry},eZ E h es cN->
 eZ E h (es++ [(k,v,c)]) (cN++ [{ key:=uk,val:=uv,born:=c' }])
 |[],cN,he=>by
  simp only [eZ] at he;subst he;simp only [aw,eZ]
  grind
 |(k',v',b)::es,cN,he=>by simp only [eZ] at he;obtain⟨e0,r,rfl,U,Z,h3,h4⟩:=he;simp only [aK,eZ];exact⟨e0,_,rfl,U,Z,h3,eZ.push hk hv h4⟩
theorem eZ.erase {h:Array Obj}: ∀{es:List (AV×AV×Nat)} {cN:List MapEntry} {i:Nat},eZ E h es cN->eZ E h (rF es i) (cN.eraseIdx i)
 |[],cN,i,he=>by simp only [eZ] at he; subst he; simp [rF,eZ]
 |(k',v',b)::es,cN,0,he=>by
  simp only [eZ] at he;obtain⟨e0,r,rfl,U,Z,h3,h4⟩:=he
  grind [rF]
 |(k',v',b)::es,cN,i+1,he=>by simp only [eZ] at he;obtain⟨e0,r,rfl,U,Z,h3,h4⟩:=he;simp only [rF,ayj,eZ];exact⟨e0,_,rfl,U,Z,h3,eZ.erase h4⟩
theorem IG {i:TI} (hU:oe P t i) {z:AV} (h:zeroOf i=some z): ∃u,(zeroValue t).run P w= .ok u w/\VR E w.heap z u:=by
 obtain⟨inf,d,zv,U,Z,h3,h4,h5,h6,h7,h8⟩:=hU.all;have hz:=fC (E:=E) (h:=w.heap) h4;have hr:(zeroValue t).run P w= .ok zv w:=by simp [zeroValue,typeInfo,U,h3]
 refine⟨zv,hr,?_⟩;unfold zeroOf at h;split at h
 ·rename_i ha;simp at h;subst h;rw [ha] at h8;cases zv<;>simp only [LO,reduceCtorEq] at h8;rename_i cs;simp only [VR];exact⟨cs.toList,ad,hz.1⟩
 ·rename_i ha;split at h
  ·rename_i v hv;simp at h;subst h;rw [hv] at hz;obtain⟨u,vs,e1,e2,e3⟩:=bU.1 hz.1;rw [jf] at e3;subst e3;rw [ha] at h8;have:zv=u:=by cases zv<;>simp_all [LO,Value.cells]
   grind
  grind
end
end
section
variable {h:Array Obj} {ro:Nat->Prop} {d:D} {c:CK} {u v:Value} {E:En} {x:W} {r:Row} {us:List Value}
theorem Cu (ρ:Nat->Int) (x:W):(I4 x).den ρ=(dec (x.den ρ)).n:=by
 unfold I4;split
 ·split
  ·simp only [W.den,gQ.den,bG,D.n]
  ·exact ND
 ·split
  ·simp only [W.den,bG,D.n]
  ·exact ND
 ·exact ND
theorem nu (ρ:Nat->Int) (x:W):(Cv x).den ρ=enc (.i (x.den ρ)):=by unfold Cv;split<;>simp only [W.den,gQ.den]
theorem Bg (a b:D):(D.p a b).V 0=a:=by simp [D.V,D.l]
theorem Bh (a b:D) (j:Nat):(D.p a b).V (j+1)=b.V j:=by simp [D.V,D.l]
theorem uw (ρ:Nat->Int): ∀(j:Nat) (x:W),dec ((kO j x).den ρ)=(dec (x.den ρ)).V j
 |j,.op o a b=>by
  unfold kO
  cases o with
  |cons=>
   cases j with
   |zero=>simp only [W.den,gQ.den,bG,Bg]
   |succ j=>simp only [uw ρ j b,W.den,gQ.den,bG,Bh]
  |_=>simp only [W.den,gQ.den,bG]
 |j,.lit n=>by simp only [kO,W.den,gQ.den,bG]
 |j,.dH n=>by simp only [kO,W.den,gQ.den,bG]
 |j,.add _ _=>by simp only [kO,W.den,gQ.den,bG]
 |j,.sub _ _=>by simp only [kO,W.den,gQ.den,bG]
 |j,.mul _ _=>by simp only [kO,W.den,gQ.den,bG]
 |j,.quo _ _=>by simp only [kO,W.den,gQ.den,bG]
 |j,.rem _ _=>by simp only [kO,W.den,gQ.den,bG]
 |j,.wrap _ _=>by simp only [kO,W.den,gQ.den,bG]
 |j,.yL _ _=>by simp only [kO,W.den,gQ.den,bG]
 |j,.eS _=>by simp only [kO,W.den,gQ.den,bG]
 |j,.ap _ _=>by simp only [kO,W.den,gQ.den,bG]
theorem cV (ρ:Nat->Int): ∀x:W,(ey x).den ρ=((dec (x.den ρ)).l.length:Int)
 | .op o a b=>by
   unfold ey
   cases o with
   |set=>
    simp only [cV ρ a,W.den,gQ.den];split
    ·simp only [bG,bz,dM]
    ·rfl
   |_=>simp only [W.den,gQ.den]
 | .lit n=>by simp only [ey,W.den,gQ.den]
 | .dH n=>by simp only [ey,W.den,gQ.den]
 | .add _ _=>by simp only [ey,W.den,gQ.den]
 | .sub _ _=>by simp only [ey,W.den,gQ.den]
 | .mul _ _=>by simp only [ey,W.den,gQ.den]
 | .quo _ _=>by simp only [ey,W.den,gQ.den]
 | .rem _ _=>by simp only [ey,W.den,gQ.den]
 | .wrap _ _=>by simp only [ey,W.den,gQ.den]
 | .yL _ _=>by simp only [ey,W.den,gQ.den]
 | .eS d=>by simp only [ey,W.den,bG]; rfl
 | .ap _ _=>by simp only [ey,W.den,gQ.den]
theorem Rd.slice {t:Nat} (r:Rd ro h (.sl t) d v): ∃x cap,v= .slice x d.l.length cap/\d.l.length<=cap:=by
 generalize hc:CK.sl t=c at r
 cases r with
 |int k n=>simp at hc
 |bool b=>simp at hc
 |str s=>simp at hc
 |nil t=>exact⟨none,0,rfl,by simp [D.l]⟩
 |wL t a cap=>exact⟨some a,cap,rfl,by simp [D.l]⟩
 |one t c b o cap ds f hr eR hb U Z=>exact⟨_,cap,by rw [bz],by rw [bz]; exact eR⟩
 |many t cs b o cap rows f hr eR hb Y U Z=>exact⟨some ⟨b,o,none⟩,cap,ad,by simpa using eR⟩
theorem Rd.string (r:Rd ro h .str d v): ∃s,v= .string s/\d=vL s:=by
 cases r with
 |str s=>exact⟨s,rfl,rfl⟩
def jI (ro:Nat->Prop) (h:Array Obj) (c:CK) (d:D) (u:Value):Prop:=match c with
 | .int k=>u= .int k d.n
 | .bool=>u= .bool (!(d.n == 0))
 |c=>Rd ro h c d u
theorem qQ:VR E h (vh c x) u↔jI E.ro h c (dec (x.den E.ρ)) u:=by cases c<;>simp only [vh,jI,VR,SB.den,Cu,W.den]
theorem Rd.cell (r:Rd ro h c d u):jI ro h c d u:=by
 cases r with
 |int k n=>simp [jI,D.n]
 |bool b=>cases b<;>simp [jI,D.n]
 |str s=>exact .str s
 |nil t=>exact .nil t
 |wL t a cap=>exact .wL t a cap
 |one t c b o cap ds f hr hc hb U Z=>exact .one t c b o cap ds f hr hc hb U Z
 |many t cs b o cap rows f hr hc hb Y U Z=>exact .many t cs b o cap rows f hr hc hb Y U Z
theorem jI.one (r:jI ro h c d u):u.oneCell'=true:=by
 cases c with
 |int k=>simp only [jI] at r; subst r; rfl
 |bool=>simp only [jI] at r; subst r; rfl
 |str=>exact Rd.afT r
 |sl t=>exact Rd.afT r
def ej (ro:Nat->Prop) (h:Array Obj):List CK->Nat->D->List Value->Prop
 |[],_,_,us=>us= []
 |c::cs,j,d,us=> ∃u vs,us=u::vs/\jI ro h c (d.V j) u/\ej ro h cs (j+1) d vs
def yC (ro:Nat->Prop) (h:Array Obj) (r:Row) (d:D) (us:List Value):Prop:=match r with
 | .one c=> ∃u,us= [u]/\jI ro h c d u
 | .many cs=>ej ro h cs 0 d us
theorem tj {E:En} {h:Array Obj} {x:W}: ∀{cs:List CK} {j:Nat} {us:List Value},cP E h (jF cs j x) us↔ej E.ro h cs j (dec (x.den E.ρ)) us
 |[],j,us=>by simp only [jF,cP,ej]
 |c::cs,j,us=>by
  simp only [jF,bU,ej];constructor
  ·rintro⟨u,vs,rfl,U,Z⟩;exact⟨u,vs,rfl,by rw [qQ,uw] at U; exact U,tj.1 Z⟩
  ·rintro⟨u,vs,rfl,U,Z⟩;exact⟨u,vs,rfl,by rw [qQ,uw]; exact U,tj.2 Z⟩
theorem gD:cP E h (hZ r x) us↔yC E.ro h r (dec (x.den E.ρ)) us:=by
 cases r with
 |one c=>
  simp only [hZ,bU,jf,yC];constructor
  ·rintro⟨u,vs,rfl,U,rfl⟩
   grind [qQ]
  grind [qQ]
 |many cs=>simp only [hZ,yC,tj]
theorem tZ (x:W): ∀(cs:List CK) (j:Nat),(jF cs j x).length=cs.length
 |[],_=>rfl
 |_::cs,j=>by simp [jF,tZ x cs]
theorem im (r:Row) (x:W):(hZ r x).length=r.es:=by cases r<;>simp [hZ,Row.es,tZ]
theorem ej.tK {ro:Nat->Prop} {h:Array Obj} {d:D}: ∀{cs:List CK} {j:Nat} {us:List Value},ej ro h cs j d us->∀u∈us,u.oneCell'=true
 |[],_,_,hh,u,hu=>by simp only [ej] at hh; subst hh; simp at hu
 |c::cs,j,us,hh,u,hu=>by
  simp only [ej] at hh;obtain⟨x,vs,rfl,U,Z⟩:=hh;rcases aF.1 hu with rfl|hu
  ·exact U.one
  ·exact Z.tK u hu
theorem yC.tK (hh:yC ro h r d us): ∀u∈us,u.oneCell'=true:=by
 cases r with
 |one c=> obtain⟨u,rfl,U⟩:=hh;intro x hx;simp at hx;subst hx;exact U.one
 |many cs=>exact ej.tK hh
theorem cP.split {E:En} {h:Array Obj}: ∀{xs ys:List AV} {us:List Value},cP E h (xs++ys) us->∃a b,us=a++b/\cP E h xs a/\cP E h ys b
 |[],ys,us,hh=> ⟨[],us,rfl,by simp only [cP],hh⟩
 |x::xs,ys,us,hh=>by rw [aK,bU] at hh;obtain⟨u,vs,rfl,U,Z⟩:=hh;obtain⟨a,b,rfl,h3,h4⟩:=Z.split;exact⟨u::a,b,rfl,by rw [bU]; exact⟨u,a,rfl,U,h3⟩,h4⟩
theorem lA {ρ:Nat->Int} {i:Nat} {cs:List AV}: ∀{ov:List (W×List AV)},ek ρ i ov=some cs->∃p∈ov,p.2=cs/\p.1.den ρ=(i:Int)
 |[],h=>by simp [ek] at h
 |(j,c)::l,h=>by
  simp only [ek] at h;split at h
  ·rename_i hj;simp only [ah] at h;exact⟨(j,c),ad,h,hj⟩
  ·obtain⟨p,U,Z⟩:=lA h
   grind
theorem cW {ρ:Nat->Int} {r:Row} {ov:List (W×List AV)} (ho:wI r ov): ∀(ds:List D) (i:Nat),(bH ρ r ov ds i).length=ds.length*r.es
 |[],i=>by simp [bH]
 |d::ds,i=>by
  simp only [bH,aZ,cW ho ds (i+1),aT,aw6,axD];split
  ·rename_i cs h;obtain⟨p,U,Z,_⟩:=lA h;rw [<- Z,ho p U]; omega
  grind [im]
theorem mE {ρ:Nat->Int} {r:Row} {ov:List (W×List AV)}: ∀(xs ys:List D) (i:Nat),bH ρ r ov (xs++ys) i=bH ρ r ov xs i++bH ρ r ov ys (i+xs.length)
 |[],ys,i=>by simp [bH]
 |d::ds,ys,i=>by
  simp only [aK,bH,mE ds ys (i+1),bk,aT]
  grind
end
section
variable {H H':Hp} {tt:TT} {t:Nat} {pc:List (SB×Bool)} {m k v:AV} {um uk:Value}
section
variable {P:Program} {E:En} {w:World}
theorem AS [bN] (r:bX E H w) {id c:Nat} {es:List (AV×AV×Nat)} (Y:H.get id=some (.map es c)): ∃cN c',w.heap[(E.θ id).1]?=some (.map cN c')/\eZ E w.heap es cN.toList:=
 (r.live id _ Y).2.1
theorem Pw [bN] (da:eP P tt) (hp:cA E.ρ pc) (r:bX E H w) {ok:Bool} (hm:VR E w.heap m um) (hk:VR E w.heap k uk) (h:Hf tt pc t m k ok H=some v) :
 ∃x,(Instr.lookup t um uk ok).run P w= .ok x w/\VR E w.heap v x:=by
 unfold Hf at h;split at h
 ·rename_i ti hU;split at h
  ·rename_i kt et GN;have hu:=Ap (da t ti hU) GN;split at h
   ·grind
   ·rename_i kk Bc;obtain⟨d,xX,ku⟩:=zB da Bc;split at h
    ·grind
    ·rename_i ie np
     have key: ∀(es:List (AV×AV×Nat)) (cN:Array MapEntry),eZ E w.heap es cN.toList->
      (match D6 pc kk k es 0 with
       |none=>none
       |some (some (_,v))=>some (if ok then .tuple [v,.bool (.lit true)] else v)
       |some none=>match zeroOf ie with
        |none=>none
        |some z=>some (if ok then .tuple [z,.bool (.lit false)] else z))=some v->
      ∃(o:Option (Nat×Value)) (x:Value),(Instr.findKey kt uk cN.toList).run P w= .ok o w/\
       (match o with
        |some (_,y)=>x=(if ok then .tuple #[y,.bool true] else y)
        |none=> ∃z,(zeroValue et).run P w= .ok z w/\x=(if ok then .tuple #[z,.bool false] else z))/\VR E w.heap v x:=by
      intro es cN he hh;split at hh
      ·simp at hh
      ·rename_i j v' hf;simp at hh;subst hh;rcases rA hp ku hk he hf with ⟨q1,_⟩|⟨jj,v2,e,q1,q2,q3,q4,q5⟩
       ·simp at q1
       ·simp only [ah,ak] at q1;obtain⟨rfl,rfl⟩:=q1;refine⟨_,_,gp xX q4,rfl,?_⟩;cases ok
        ·exact q3
        ·simp only [if_true,VR,cP];exact⟨[e.val,.bool true],rfl,_,_,rfl,q3,_,_,rfl,by simp [SB.den],rfl⟩
      ·rename_i hf;split at hh
       ·simp at hh
       ·rename_i z hz;simp at hh;subst hh;obtain⟨u,e1,e2⟩:=IG (P:=P) (w:=w) (E:=E) (da et ie np) hz;rcases rA hp ku hk he hf with ⟨_,q2⟩|⟨jj,v2,e,q1,_⟩
        ·refine⟨none,_,gp xX q2,⟨u,e1,rfl⟩,?_⟩;cases ok
         ·exact e2
         ·simp only [if_true,VR,cP];exact⟨[u,.bool false],rfl,_,_,rfl,e2,_,_,rfl,by simp [SB.den],rfl⟩
        ·simp at q1
     split at h
     ·grind
     ·rename_i es lW;unfold LA at lW;split at lW
      ·simp at lW;subst lW;simp only [VR] at hm;subst hm;obtain⟨o,x,e1,e2,e3⟩:=key [] #[] (by simp [eZ]) h;refine⟨x,?_,e3⟩
       cases o with
       |none=> obtain⟨z,e4,rfl⟩:=e2;cases ok<;>simp [Instr.lookup,run_underlying hu,gM xX ku,e1,e4]
       |some p=> obtain⟨j,y⟩:=p;simp only at e2;subst e2;cases ok<;>simp [Instr.lookup,run_underlying hu,gM xX ku,e1]
      ·rename_i id;split at lW
       ·rename_i es' c Y;simp at lW;subst lW;simp only [VR] at hm;obtain⟨rfl,hid⟩:=hm;obtain⟨cN,c',g1,g2⟩:=AS r Y;have hg:=jZ (P:=P) g1 ad;obtain⟨o,x,e1,e2,e3⟩:=key es' cN g2 h;refine⟨x,?_,e3⟩
        cases o with
        |none=> obtain⟨z,e4,rfl⟩:=e2;cases ok<;>simp [Instr.lookup,run_underlying hu,hg,gM xX ku,e1,e4]
        |some p=> obtain⟨j,y⟩:=p;simp only at e2;subst e2;cases ok<;>simp [Instr.lookup,run_underlying hu,hg,gM xX ku,e1]
       grind
      grind
  grind
 grind
theorem Gj {α:Type} (cN:Array α) (i:Nat) (e:α) (f:α->α) (h:cN.toList[i]?=some e):(cN.modify i f).toList=cN.toList.set i (f e):=by
 apply axv;intro j
 grind
theorem xd [bN] (da:eP P tt) (hp:cA E.ρ pc) (r:bX E H w) {uv:Value} (hm:VR E w.heap m um) (hk:VR E w.heap k uk) (hv:VR E w.heap v uv) (h:sG tt pc t m k v H=some H') :
 ∃w',(Instr.mapUpdate t um uk uv).run P w= .ok () w'/\fm E H w E H' w'/\bX E H' w':=by
 unfold sG at h;split at h
 ·rename_i ti hU;split at h
  ·rename_i kt et GN;have hu:=Ap (da t ti hU) GN;split at h
   ·grind
   ·rename_i kk Bc;obtain⟨d,xX,ku⟩:=zB da Bc;split at h
    ·rename_i id;split at h
     ·rename_i es c Y;simp only [VR] at hm;obtain⟨rfl,hid⟩:=hm;obtain⟨cN,c',g1,g2⟩:=AS r Y;have hg:=jZ (P:=P) g1 ad;split at h
      ·grind
      ·rename_i i v' hf;simp at h;subst h;rcases rA hp ku hk g2 hf with ⟨q1,_⟩|⟨jj,v2,e,q1,q2,q3,q4,q5⟩
       ·grind
       ·simp only [ah,ak,aH] at q1;obtain⟨rfl,rfl⟩:=q1;simp only [aH] at q4
        have hkt:(Instr.keyThatStays (((cN[i]?).map (·.key)).getD uk) uk).run P w= .ok uk w:=by rw [awV] at q2;simp only [q2,awY,ax,Instr.keyThatStays];simp_all
        refine⟨_,?_,iU r Y (.map (tA k v es i) c) (.map (cN.modify i fun e=>{ e with key:=uk,val:=uv }) c') ?_⟩
        ·simp [Instr.mapUpdate,run_underlying hu,hg,gM xX ku,gp xX q4,hkt,jU (P:=P) g1]
        ·intro h' hh kp;simp only [OR]
         grind [Gj,eZ.set,VR.dq,eZ.dq]
      ·rename_i hf;simp at h;subst h;rcases rA hp ku hk g2 hf with ⟨_,q2⟩|⟨jj,v2,e,q1,_⟩
       ·refine⟨_,?_,iU r Y (.map (es++ [(k,v,c)]) (c+1)) (.map (cN.push { key:=uk,val:=uv,born:=c' }) (c'+1)) ?_⟩
        ·simp [Instr.mapUpdate,run_underlying hu,hg,gM xX ku,gp xX q2,jU (P:=P) g1]
        ·intro h' hh kp;simp only [OR]
         grind [eZ.push,VR.dq,eZ.dq]
       grind
     grind
    grind
  grind
 grind
theorem Px [bN] (da:eP P tt) (hp:cA E.ρ pc) (r:bX E H w) {ts:Nat} (hm:VR E w.heap m um) (hk:VR E w.heap k uk) (h:Hi tt pc t m k H=some H') (ty:Nat) :
 ∃w',(Builtin.delete_ #[t,ts] ty #[um,uk]).run P w= .ok (.tuple #[]) w'/\fm E H w E H' w'/\bX E H' w':=by
 unfold Hi at h;split at h
 ·rename_i ti hU;split at h
  ·rename_i kt et GN;have hu:=Ap (da t ti hU) GN;split at h
   ·grind
   ·rename_i kk Bc;obtain⟨d,xX,ku⟩:=zB da Bc;split at h
    ·simp at h;subst h;simp only [VR] at hm;subst hm;exact⟨w,by simp [Builtin.delete_,run_underlying hu,gM xX ku],fm.refl _ _ _,r⟩
    ·rename_i id;split at h
     ·rename_i es c Y;simp only [VR] at hm;obtain⟨rfl,hid⟩:=hm;obtain⟨cN,c',g1,g2⟩:=AS r Y;have hg:=jZ (P:=P) g1 ad;split at h
      ·grind
      ·rename_i i v' hf;simp at h;subst h;rcases rA hp ku hk g2 hf with ⟨q1,_⟩|⟨jj,v2,e,q1,q2,q3,q4,q5⟩
       ·grind
       ·simp only [ah,ak,aH] at q1;obtain⟨rfl,rfl⟩:=q1;simp only [aH] at q4;refine⟨_,?_,iU r Y (.map (rF es i) c) (.map (cN.eraseIdxIfInBounds i) c') ?_⟩
        ·simp [Builtin.delete_,run_underlying hu,hg,gM xX ku,gp xX q4,jU (P:=P) g1]
        ·intro h' hh kp;simp only [OR];refine⟨_,_,hh,?_⟩;have cY:i<cN.size:=by have:=(bc.1 q2).1; simpa using this
         have:(cN.eraseIdxIfInBounds i).toList=cN.toList.eraseIdx i:=by simp_all
         grind [eZ.erase,eZ.dq]
      ·rename_i hf;simp at h;subst h;rcases rA hp ku hk g2 hf with ⟨_,q2⟩|⟨jj,v2,e,q1,_⟩
       ·refine⟨_,?_,iU r Y (.map es c) (.map cN c') ?_⟩
        ·simp [Builtin.delete_,run_underlying hu,hg,gM xX ku,gp xX q2,jU (P:=P) g1]
        ·intro h' hh kp;simp only [OR]
         grind [eZ.dq]
       grind
     grind
    grind
  grind
 grind
theorem abT [bN] (da:eP P tt) (r:bX E H w) {ty:Nat} {x:AV} {u:Value} (hx:VR E w.heap x u) (h:abU tt t x H=some v) :
 ∃y,(Builtin.len_ #[t] ty #[u]).run P w= .ok y w/\VR E w.heap v y:=by
 unfold abU at h;simp only at h;split at h
 ·rename_i ti hU;have wS:=da t ti hU;split at h
  ·rename_i hk;split at h
   ·rename_i s;simp at h;subst h;simp only [VR] at hx;obtain⟨rfl,_⟩:=hx;exact⟨_,by simp [Builtin.len_,run_underlying (fV wS hk)]; rfl,by simp [VR,W.den,goInt,mN]⟩
   ·simp at h; subst h; simp only [VR] at hx;obtain⟨s,rfl,hs⟩:=hx.string;exact⟨_,by simp [Builtin.len_,run_underlying (fV wS hk)]; rfl,by simp only [VR,cV,hs,ad3]; rfl⟩
   grind
  ·rename_i e hk;have hu:=fw wS hk;split at h
   ·exact aiI
   ·simp at h; subst h; simp only [VR] at hx; obtain⟨x,rfl⟩:=hx;exact XQ
   ·simp at h; subst h; simp only [VR] at hx; obtain⟨⟨x,rfl⟩,_⟩:=hx;exact XQ
   ·simp at h; subst h; simp only [VR] at hx; obtain⟨_,a,cap,rfl,_⟩:=hx;exact XQ
   ·simp at h; subst h; simp only [VR] at hx; obtain⟨b,o,cap,us,rfl,_⟩:=hx;exact XQ
   ·simp at h; subst h; simp only [VR] at hx; obtain⟨x,cap,rfl,_⟩:=hx.slice;exact⟨_,by simp [Builtin.len_,run_underlying hu]; rfl,by simp [VR,cV,goInt]⟩
   ·simp at h; subst h; simp only [VR] at hx; obtain⟨_,k,a,cap,h0,rfl,_⟩:=hx;exact ahR
   ·simp at h; subst h; simp only [VR] at hx; obtain⟨_,l,k,a,cap,_,h0,rfl,_⟩:=hx;exact ahR
   ·simp at h; subst h; simp only [VR] at hx;rcases hx with ⟨⟨x,cap,rfl⟩,h0⟩|⟨b,o,n,cap,rfl,_,h0,_⟩
    ·exact ah2
    ·exact ah2
   grind
  ·rename_i k e hk;have hu:=tq wS hk;simp at h;subst h;exact XQ
  ·rename_i kt et hk;have hu:=Ap wS hk;split at h
   ·exact aiI
   ·rename_i id;split at h
    ·rename_i es c Y;simp at h;subst h;simp only [VR] at hx;obtain⟨rfl,hid⟩:=hx;obtain⟨cN,c',g1,g2⟩:=AS r Y;have hg:=jZ (P:=P) g1 ad;have hlen:=g2.length;simp only [bh] at hlen;exact⟨_,by simp [Builtin.len_,run_underlying hu,hg]; rfl,by simp [VR,W.den,goInt,hlen]⟩
    ·rename_i e t' Y;simp at h;subst h;simp only [VR] at hx;obtain⟨rfl,hid⟩:=hx;obtain⟨_,ho,_⟩:=r.live _ _ Y;simp only [OR] at ho;obtain⟨cN,c',g1,g2⟩:=ho;have hg:=jZ (P:=P) g1 ad;have hlen:=g2.length;simp only [bh] at hlen;exact⟨_,by simp [Builtin.len_,run_underlying hu,hg]; rfl,by simp [VR,cV,goInt,hlen]⟩
    grind
   grind
  grind
 grind
end
end
section
variable {cap m t t2 ty n s e o id len:Nat} {H H':Hp} {news:List AV} {u2 u:Value} {d2:TypeDesc} {us olds:Array Value} {v y x:AV} {a:Addr} {c:U2} {inf:TypeInfo} {ie:TI}
section
variable {P:Program} {E:En} {w:World}
structure Src (P:Program) (E:En) (w:World) (s m:Nat) (news:List AV) (u:Value) (us:Array Value):Prop where
 len: ∀w2,(Builtin.lenOf u).run P w2= .ok m w2
 first: ∀w2:World,w2.heap=w.heap->(Builtin.firstCells s m u).run P w2= .ok us w2
 ZO:cP E w.heap news us.toList
 size:us.size=m*s
 tK: ∀x∈us.toList,x.oneCell'=true
theorem gb.V1 {b:Nat} {us:List Value} (hn:us.length=n) (h:gb w.heap b o us) (w2:World) (hw:w2.heap=w.heap):(loadCells ⟨b,o,none⟩ n).run P w2= .ok us.toArray w2:=
 tF hn (by rw [hw]; exact h)
theorem uu {off:Nat} (hc:fJ E id off len a cap c):a=⟨(E.θ id).1,(E.θ id).2+off,none⟩\/cap=0:=by exact al0
theorem wx [bN] (r:bX E H w) {l:List AV} (hid:E.dm id) (hc:fJ E id o len a cap c) (hlen:len<=cap) (h:nz H (.ptr id o) (len*s)=some l) :
 ∃us:List Value,us.length=len*s/\cP E w.heap l us/\(∀u∈us,u.oneCell'=true)/\∀w2:World,w2.heap=w.heap->(loadCells a (len*s)).run P w2= .ok us.toArray w2:=by
 obtain⟨b,o',us,e1,e2,e3,e4,e5⟩:=xO r (p:=.ptr id o) (u:=.pointer (some ⟨(E.θ id).1,(E.θ id).2+o,none⟩)) (by simp only [VR]; exact⟨trivial,hid⟩) h;simp only [Value.pointer.injEq,ah,Addr.mk.injEq] at e1;obtain⟨e1a,e1b,_⟩:=e1;refine⟨us,e2,e3,e5,fun w2 hw=>?_⟩;rcases uu hc with ha|ha
 ·rw [ha,e1a,e1b];exact e4.V1 e2 w2 hw
 ·obtain rfl:len=0:=J
  rw [aw0] at e2 ⊢;rw [axg e2];rfl
theorem sA [bN] (r:bX E H w) (hy:VR E w.heap y u) (h:tw s y H=some (m,news)): ∃us,Src P E w s m news u us:=by
 unfold tw at h;split at h
 ·simp only [ah,ak] at h;obtain⟨rfl,rfl⟩:=h;simp only [VR] at hy;subst hy;exact⟨#[],fun _=>rfl,fun w2 _=>by simp [Builtin.firstCells],by simp [cP],ad,ad⟩
 ·rename_i id o len c;rw [aO] at h;obtain⟨l,U,Z⟩:=h;simp only [ak] at Z;obtain⟨rfl,rfl⟩:=Z;simp only [VR] at hy;obtain⟨hid,a,cap,rfl,hlen,hc⟩:=hy;obtain⟨us,e1,e2,e3,e4⟩:=wx (P:=P) r hid hc hlen U;exact⟨us.toArray,fun _=>rfl,fun w2 hw=>by simp only [Builtin.firstCells]; exact e4 w2 hw,by simpa using e2,by simpa using e1,by simpa using e3⟩
 ·rename_i cs n full;rw [aO] at h;obtain⟨l,U,Z⟩:=h;simp only [ak] at Z;obtain⟨rfl,rfl⟩:=Z;simp only [VR] at hy;obtain⟨b,o,cap,us,rfl,hn,hf,h4,h5,h6,h7⟩:=hy;obtain⟨g1,g2⟩:=h5.iS U;have Y:=h5.length;have Ww:(us.take (n*s)).length=n*s:=by rw [aY]; omega
  exact⟨(us.take (n*s)).toArray,fun _=>rfl,fun w2 hw=>by simp only [Builtin.firstCells]; exact (h6.take (n*s)).V1 Ww w2 hw,by simpa using g1,by simpa using Ww,
   fun x hx=>h7 x (awT (by simpa using hx))⟩
 ·rename_i b;split at h
  ·rename_i hs;simp only [ah,ak] at h;obtain⟨rfl,rfl⟩:=h;simp only [VR] at hy;obtain⟨rfl,gk⟩:=hy;have jl:(dv b).size=b.length:=mN b;have hex:(dv b).extract 0 b.length=dv b:=by rw [uq]; simp
   refine⟨(dv b).data.map fun c=>Value.int .u8 (c.toNat:Int),fun w2=>by simp [Builtin.lenOf,jl],fun w2 _=>by simp [Builtin.firstCells,hex],?_,?_,?_⟩
   ·have:((dv b).data.map fun c=>Value.int .u8 (c.toNat:Int)).toList=(b.map UInt8.ofNat).map fun c=>Value.int .u8 (c.toNat:Int):=by simp [dv]
    rw [this];clear hex jl this
    induction b with
    |nil=>simp [cP]
    |cons x b ih=> have hx:=gk x ad;rw [aC,aC,aC,bU];refine⟨_,_,rfl,?_,ih fun c hc=>gk c (by simp [hc])⟩;simp [VR,W.den,axj,axe hx]
   ·simp_all
   ·intro x hx;simp only [ayk,aQ] at hx;obtain⟨c,_,rfl⟩:=hx;rfl
  grind
 grind
theorem lq {a:Option Addr} {w':World} (ht:P.underlying t=some (.slice e)) (Af:P.underlying t2=some d2)
 (ku: ∀k,d2≠.int k) (hi:P.info? e=some inf) (hs:inf.size=s) (src:Src P E w s m news u2 us) (jn:n+m<=cap)
 (E7:match a with |some a=>(storeCells (a.add (n*s)) us.toList).run P w= .ok () w'|none=>w'=w) :
 (Builtin.append_ #[t,t2] ty #[.slice a n cap,u2]).run P w= .ok (.slice a (n+m) cap) w':=by
 have hf:=src.first w rfl;have Y:=src.len w
 cases a with
 |none=> simp only at E7;subst E7;simp [Builtin.append_,run_underlying ht,run_underlying Af,sizeOf,typeInfo,hi,hs,Y,jn,hf]
 |some a=> simp only at E7;simp [Builtin.append_,run_underlying ht,run_underlying Af,sizeOf,typeInfo,hi,hs,Y,jn,hf,E7]
theorem QA {z:Value} (ht:P.underlying t=some (.slice e)) (Af:P.underlying t2=some d2)
 (ku: ∀k,d2≠.int k) (hi:P.info? e=some inf) (hs:inf.size=s) (hz:inf.zero=some z) (hb:inf.bytes≠0) (src:Src P E w s m news u2 us) (jn:cap<n+m) (hbound:(n+m)*inf.bytes<=140737488355328)
 (a:Option Addr) (hu:u= .slice a n cap) (hold: ∀w2:World,w2.heap=w.heap->(Builtin.firstCells s n u).run P w2= .ok olds w2) :
 (Builtin.append_ #[t,t2] ty #[u,u2]).run P w= .ok (.slice (some ⟨w.heap.size,0,none⟩) (n+m) (grownCap w (n+m) cap e))
  (w.drew.alloc (.cells (olds++us++Builtin.zeroCells z.cells (grownCap w (n+m) cap e-(n+m))) e)):=by
 subst hu;have hf:=src.first w.drew rfl;have ho:=hold w.drew rfl;have Y:=src.len w;have hn: ¬(n+m<=cap):=J
 have h48: ¬(281474976710656<Builtin.nextslicecap (n+m) cap*inf.bytes):=by
  have U:Builtin.nextslicecap (n+m) cap*inf.bytes<=2*(n+m)*inf.bytes:=axC _ (nextslicecap_le jn)
  grind
 have av2: ¬(2 ^ 48<Builtin.nextslicecap (n+m) cap*inf.bytes):=h48;simp [Builtin.append_,run_underlying ht,run_underlying Af,sizeOf,typeInfo,zeroValue,hi,hs,hz,Y,hn,hb,av2,Question.forced,ho,hf,newRow,grownCap]
theorem qN [bN] (r:bX E H w) {cs old:List AV} (wT:oe P e ie)
 (ht:P.underlying t=some (.slice e)) (Af:P.underlying t2=some d2) (ku: ∀k,d2≠.int k) (mT:ie.bytes≠0) (uG:ie.zero.length=ie.size)
 (src:Src P E w ie.size m news u2 us) (jn:cap<n+m) (a:Option Addr) (hcs:cs=old++news)
 (Nt:cP E w.heap old olds.toList) (YS: ∀x∈olds.toList,x.oneCell'=true) (hos:olds.size=n*ie.size)
 (hold: ∀w2:World,w2.heap=w.heap->(Builtin.firstCells ie.size n (.slice a n cap)).run P w2= .ok olds w2) (h:oF ie e n m cs H=some (v,H')) :
 ∃x w' E',(Builtin.append_ #[t,t2] ty #[.slice a n cap,u2]).run P w= .ok x w'/\fm E H w E' H' w'/\bX E' H' w'/\VR E' w'.heap v x:=by
 subst hcs;unfold oF at h;split at h
 ·rename_i hbound;simp only [ah,ak] at h;obtain⟨rfl,rfl⟩:=h;obtain⟨inf,d,z,U,Z,h3,h4,h5,h6,h7,h8⟩:=wT.all;have hz:=fC (E:=E) (h:=w.heap) h4;have hzs:z.cells.size=ie.size:=by have:=hz.1.length; simp only [bh] at this; omega
  have YV:=grownCap_ge w (n+m) cap e;have Ti:=src.size
  obtain⟨s1,s2⟩:=ji r (olds++us++Builtin.zeroCells z.cells (grownCap w (n+m) cap e-(n+m))) 0 0 e (Nt.append src.ZO)
   (by intro x hx; rcases aw5.1 hx with hx|hx; exact YS x hx; exact src.tK x hx)
   (by
    intro i x hx;have hi:=(bc.1 hx).1;rw [ayC (by simpa using hi)];rw [<- awV,Array.toList_append]
    exact hx)
   J (w':=w.drew.alloc (.cells (olds++us++Builtin.zeroCells z.cells (grownCap w (n+m) cap e-(n+m))) e)) rfl ⟨rfl,rfl,rfl⟩
  refine⟨_,_,_,QA (s:=ie.size) ht Af ku U h5 h3 (by rw [h6]; exact mT) src jn (by rw [h6]; exact hbound) a rfl hold,s1,s2,?_⟩;simp only [VR];refine⟨En.iH _ _ _ _,_,_,rfl,YV,?_⟩;simp only [fJ,En.ext_θ_new,En.ext_κ_new];left;refine⟨trivial,?_⟩;simp only [Array.size_append,size_zeroCells,hos,Ti,hzs,<- aw6]
  grind
 grind
set_option maxHeartbeats 800000 in
theorem xq [bN] (r:bX E H w) (wT:oe P e ie)
 (ht:P.underlying t=some (.slice e)) (Af:P.underlying t2=some d2) (ku: ∀k,d2≠.int k) (yM:ie.size≠0) (mT:ie.bytes≠0) (uG:ie.zero.length=ie.size)
 (src:Src P E w ie.size m news u2 us) (hx:VR E w.heap x u) (h:rS ie e m news x H=some (v,H')) :
 ∃y w' E',(Builtin.append_ #[t,t2] ty #[u,u2]).run P w= .ok y w'/\fm E H w E' H' w'/\bX E' H' w'/\VR E' w'.heap v y:=by
 obtain⟨inf,d,z,U,Z,h3,h4,h5,h6,h7,h8⟩:=wT.all;have lU:0<ie.size:=J
 have hnl:=src.ZO.length;have LQ:=src.size;simp only [bh] at hnl;unfold rS at h;split at h
 ·
  simp only [VR] at hx;subst hx;split at h
  ·rename_i hm;subst hm;simp only [ah,ak] at h;obtain⟨rfl,rfl⟩:=h;exact⟨_,w,E,lq (s:=ie.size) ht Af ku U h5 src (au _) (by simp only),fm.refl _ _ _,r,by simp [VR]⟩
  ·rename_i hm;exact qN (cap:=0) r wT ht Af ku mT uG src J none (old:=[]) (olds:=#[]) ad (by simp [cP]) ad ad (fun w2 _=>by simp [Builtin.firstCells]) h
 ·
  rename_i id o len c;have hx0:=hx;simp only [VR] at hx;obtain⟨hid,a,cap,rfl,hlen,hc⟩:=hx;have kX:cap=c:=by simp only [fJ] at hc; exact hc.1
  subst kX;split at h
  ·rename_i jn;split at h
   ·rename_i cs e' Y;split at h
    ·rename_i mD hs;simp only [ah,ak] at h;obtain⟨rfl,rfl⟩:=h;obtain⟨w',g1,g2,g3⟩:=mG (P:=P) r Y hs src.ZO src.tK
     have E7:(storeCells (a.add (len*ie.size)) us.toList).run P w= .ok () w':=by
      rcases uu hc with ha|ha
      ·rw [ha,gA,awW]; exact g1
      ·obtain rfl:m=0:=J
       have pC:us.toList= []:=axg (by rw [bh,LQ,aw0]);rw [pC] at g1 ⊢;exact g1
     refine⟨_,w',E,lq (s:=ie.size) ht Af ku U h5 src jn E7,g2,g3,?_⟩;simp only [VR];refine⟨hid,a,cap,rfl,jn,?_⟩;simp only [fJ] at hc ⊢;exact hc
    ·simp at h
   ·simp at h
  ·rename_i jn;split at h
   ·rename_i old hold;obtain⟨ols,f1,f2,f3,f4⟩:=wx (P:=P) r hid hc hlen hold
    exact qN (cap:=cap) r wT ht Af ku mT uG src J (some a) (old:=old) (olds:=ols.toArray) rfl (by simpa using f2) (by simpa using f3) (by simpa using f1)
     (fun w2 hw=>by simp only [Builtin.firstCells]; exact f4 w2 hw) h
   ·simp at h
 ·
  rename_i id o len es;split at h
  ·rename_i lW;subst lW;simp only [VR] at hx;obtain⟨hid,a,cap,rfl,hlen,hc⟩:=hx;split at h
   ·rename_i cs e' Y;obtain⟨arr,lo,hi,cus,b1,b2,b3,b4,b5,b6,b7⟩:=(r.live id _ Y).2.1;split at h
    ·rename_i hle;split at h
     ·rename_i mD hs;simp only [ah,ak] at h;obtain⟨rfl,rfl⟩:=h;obtain⟨w',g1,g2,g3⟩:=mG (P:=P) r Y hs src.ZO src.tK
      have jn:len+m<=cap:=by
       simp only [fJ] at hc;rcases hc with ⟨_,hc⟩|⟨rfl,rfl,hc⟩
       ·have:(len+m)*ie.size<=cap*ie.size:=J
        exact ayl this lU
       ·have:(0+m)*ie.size=0:=J
        rcases Nat.mul_eq_zero.1 this with hh|hh<;>omega
      have E7:(storeCells (a.add (len*ie.size)) us.toList).run P w= .ok () w':=by
       rcases uu hc with ha|ha
       ·rw [ha,gA,awW]; exact g1
       ·obtain rfl:m=0:=J
        have pC:us.toList= []:=axg (by rw [bh,LQ,aw0]);rw [pC] at g1 ⊢;exact g1
      refine⟨_,w',E,lq (s:=ie.size) ht Af ku U h5 src jn E7,g2,g3,?_⟩;simp only [VR];refine⟨hid,a,cap,rfl,jn,?_⟩;simp only [fJ] at hc ⊢;rcases hc with hc|⟨rfl,rfl,hc⟩
      ·exact .inl hc
      ·exact .inr ⟨rfl,J,hc⟩
     ·simp at h
    ·rename_i avB;split at h
     ·rename_i abA;obtain⟨abA,rfl⟩:=abA;split at h
      ·rename_i old V;obtain⟨d1,d2',d3⟩:=b2.fc V;have vK:=b2.length
       have hm0:m≠0:=by intro hm;subst hm;rw [awX] at avB;omega
       by_cases jn:len+m<=cap
       ·
        have aoD:a=⟨(E.θ id).1,(E.θ id).2+o,none⟩/\o+cap*ie.size=E.κ id:=by
         simp only [fJ] at hc;rcases hc with hc|hc
         ·exact hc
         ·omega
        obtain⟨rfl,awF⟩:=aoD;unfold oF at h;split at h
        ·simp only [ah,ak] at h;obtain⟨rfl,rfl⟩:=h;have hml:len*ie.size+m*ie.size<=cap*ie.size:=by rw [<- aw6]; exact axC _ jn
         have hul:us.toList.length=m*ie.size:=by simpa using LQ
         obtain⟨w',M4,e1,e2,e3,e4,e5,e6,e7⟩:=ny (P:=P) (E.θ id).1 ((E.θ id).2+(o+len*ie.size)) e' lo hi us.toList 0 arr w b1 b6 J src.tK
         have E7:(storeCells ((⟨(E.θ id).1,(E.θ id).2+o,none⟩ : Addr).add (len*ie.size)) us.toList).run P w= .ok () w':=by rw [gA,awW]; exact e1
         have kp:kJ E w.heap (E.ext H.fresh ((E.θ id).1,(E.θ id).2+o) (cap*ie.size)) w'.heap:=
          ⟨rfl,fun _ hh=> .inr hh,fun _ hh=>En.ext_θ E _ _ _ (r.vD hh),fun _ hh=>En.ext_κ E _ _ _ (r.vD hh),fun _ hh=>hh,(pA r Y e4).FU⟩
         have DZ:=Sv r Y (.cells (old++news) e') o (cap*ie.size) e3 e4 e2 (by
          simp only [OR,En.ext_θ_new,En.ext_κ_new];refine⟨M4,lo,hi,cus.drop o++us.toList,e5,cP.dq kp _ _ (d1.append src.ZO),?_,?_,J,by rw [e6]; exact b6,?_⟩
          ·intro i y hy;rw [e7];have hdl:(cus.drop o).length=len*ie.size:=by rw [bp]; omega
           rw [ayh] at hy;split at hy
           ·rename_i hi';rw [af J];rw [axF] at hy;rw [awW];exact b3 _ _ hy
           ·rename_i hi';have LR:=(bc.1 hy).1;rw [ag J];rw [show (E.θ id).2+o+i-((E.θ id).2+(o+len*ie.size)+0)=i-(cus.drop o).length from by omega];exact hy
          ·rw [aZ,d3]; omega
          ·intro y hy;rcases aw5.1 hy with hy|hy
           ·exact b7 y (awR hy)
           ·exact src.tK y hy)
         refine⟨_,w',_,lq (s:=ie.size) ht Af ku U h5 src jn E7,DZ.1,DZ.2,?_⟩;simp only [VR,show (H.drop id).fresh=H.fresh from rfl];refine⟨En.iH _ _ _ _,_,_,rfl,jn,?_⟩;simp only [fJ,En.ext_θ_new,En.ext_κ_new];left;exact⟨ad,J⟩
        ·simp at h
       ·
        have as2:nz H (.ptr id o) (len*ie.size)=some old:=by
         simp only [nz,Y,V];have:len*ie.size=old.length:=J
         rw [this];clear h V d1 d3 this
         induction old with
         |nil=>rfl
         |cons y ys ih=>simp [As.iS,ih]
        obtain⟨ols,f1,f2,f3,f4⟩:=wx (P:=P) r hid hc hlen as2;obtain⟨q1,q2⟩:=Ki r id;have auK:Src P E w ie.size m news u2 us:=src
        obtain⟨y,w',E',p1,p2,p3,p4⟩:=qN (t:=t) (t2:=t2) (ty:=ty) (cap:=cap) q2 wT ht Af ku mT uG auK J (some a) (old:=old) (olds:=ols.toArray) rfl (by simpa using f2) (by simpa using f3) (by simpa using f1)
         (fun w2 hw=>by simp only [Builtin.firstCells]; exact f4 w2 hw) h
        exact⟨y,w',E',p1,q1.trans p2,p3,p4⟩
      ·simp at h
     ·simp at h
   ·simp at h
  ·simp at h
 ·
  rename_i cs n full;have hx0:=hx;simp only [VR] at hx;obtain⟨b,o,cap,cus,rfl,hn,hf,g4,g5,g6,g7⟩:=hx;split at h
  ·rename_i hm;subst hm;simp only [ah,ak] at h;obtain⟨rfl,rfl⟩:=h;have pC:us.toList= []:=axg (by rw [bh,LQ,aw0]);exact⟨_,w,E,lq (s:=ie.size) ht Af ku U h5 src J (by simp only [pC]; rfl),fm.refl _ _ _,r,hx0⟩
  ·rename_i hm;split at h
   ·rename_i JY;have kX:=hf JY;subst kX;split at h
    ·rename_i old hold;obtain⟨j1,j2⟩:=g5.iS hold;have vK:=g5.length;have Ww:(cus.take (cap*ie.size)).length=cap*ie.size:=by rw [aY]; omega
     exact qN (cap:=cap) r wT ht Af ku mT uG src J (some ⟨b,o,none⟩) (old:=old) (olds:=(cus.take (cap*ie.size)).toArray) rfl (by simpa using j1)
      (fun x hx=>g7 x (awT (by simpa using hx))) (by simpa using Ww)
      (fun w2 hw=>by simp only [Builtin.firstCells]; exact (g6.take _).V1 Ww w2 hw) h
    ·simp at h
   ·simp at h
 ·simp at h
theorem Py [bN] {tt:TT} (da:eP P tt) (r:bX E H w) (hx:VR E w.heap x u) (hy:VR E w.heap y u2) (h:Hj tt t t2 x y H=some (v,H')) :
 ∃z w' E',(Builtin.append_ #[t,t2] ty #[u,u2]).run P w= .ok z w'/\fm E H w E' H' w'/\bX E' H' w'/\VR E' w'.heap v z:=by
 unfold Hj at h;split at h
 ·rename_i ti hU;split at h
  ·rename_i e hk;split at h
   ·rename_i ie np;split at h
    ·grind
    ·rename_i X0 abl;obtain⟨d2,ku,GO⟩:=tP (da t2 X0 abl);split at h
     ·grind
     ·rename_i k2 jK;split at h
      ·grind
      ·rename_i jP;simp only [not_or,Classical.not_not] at jP;split at h
       ·grind
       ·rename_i m news Ti;obtain⟨us,src⟩:=sA (P:=P) r hy Ti;refine xq r (da e ie np) (fw (da t ti hU) hk) ku ?_ jP.1 jP.2.1 jP.2.2 src hx h;intro k V;exact ahL
   grind
  grind
 grind
end
end
section
variable {H H':Hp} {x v:AV} {u:Value} {tt:TT} {t:Nat} {ρ:Nat->Int} {c:SB}
section
variable {P:Program} {E:En} {w:World}
theorem TZ [bN] (da:eP P tt) (r:bX E H w) {ty:Nat} (hx:VR E w.heap x u) (h:Mm tt t x H=some H') :
 ∃w',(Builtin.clear_ #[t] ty #[u]).run P w= .ok (.tuple #[]) w'/\fm E H w E H' w'/\bX E H' w':=by
 unfold Mm at h;split at h
 ·rename_i ti hU;split at h
  ·rename_i e hk;have hu:=fw (da t ti hU) hk;split at h
   ·rename_i ie np;obtain⟨inf,d,z,U,Z,h3,h4,h5,h6,h7,h8⟩:=(da e ie np).all;have hz:=fC (E:=E) (h:=w.heap) h4;split at h
    ·simp at h;subst h;simp only [VR] at hx;subst hx;exact ahC
    ·simp at h;subst h;simp only [VR] at hx;obtain⟨⟨x,rfl⟩,_⟩:=hx;exact⟨w,by cases x<;>simp [Builtin.clear_,run_underlying hu],fm.refl _ _ _,r⟩
    ·rename_i id o len c;simp only [VR] at hx;obtain⟨hid,a,cap,rfl,hlen,hc⟩:=hx;split at h
     ·simp at h;subst h;exact ahC
     ·rename_i QZ;split at h
      ·grind
      ·rename_i jK;split at h
       ·rename_i cs e' Y;split at h
        ·rename_i mD hs;simp at h;subst h
         have ha:a=⟨(E.θ id).1,(E.θ id).2+o,none⟩:=by
          grind [uu]
         have aou:z.cells.toList≠[]:=by
          intro hx;have:=hz.1.length
          grind
         have hzc:(Builtin.zeroCells z.cells len).toList=dR z.cells.toList len:=vT z.cells aou len;obtain⟨w',g1,g2,g3⟩:=mG (P:=P) r Y hs (mR hz.1 len) (fun u hu=>hz.2 u (mQ hu));refine⟨w',?_,g2,g3⟩;subst ha;obtain⟨l,rfl⟩ : ∃l,len=l+1:=⟨len-1,by have:len≠0:=fun hh=>QZ hh; omega⟩;simp [Builtin.clear_,run_underlying hu,zeroValue,typeInfo,U,h3,hzc,g1]
        grind
       grind
    grind
   grind
  grind
 grind
theorem TM [bN] (da:eP P tt) (r:bX E H w) (hx:VR E w.heap x u) (h:Mc tt t x H=some (v,H')) :
 ∃y w' E',(Instr.range t u).run P w= .ok y w'/\fm E H w E' H' w'/\bX E' H' w'/\VR E' w'.heap v y:=by
 unfold Mc at h;split at h
 ·rename_i ti hU;split at h
  ·rename_i hk;split at h
   ·rename_i b;simp only [ah,ak] at h;obtain⟨rfl,rfl⟩:=h;simp only [VR] at hx;obtain⟨rfl,gk⟩:=hx
    obtain⟨s1,s2⟩:=AR r (.stringIter (dv b) 0) (.lH b 0) 0 (w':=w.iter (dv b) 0) rfl ⟨rfl,rfl,rfl⟩ (by
     simp only [OR,En.ext_θ_new]
     exact⟨World.iter_heap _ _ _,trivial,gk⟩)
    exact⟨_,_,_,run_range_string w t (dv b) (fV (da t ti hU) hk),s1,s2,Lq r 0 _ 0⟩
   grind
  grind
 grind
theorem Y7 [bN] (r:bX E H w) {isS:Bool} (hx:VR E w.heap x u) (h:TO x isS H=some (v,H')) (ty:Nat) :
 ∃y w',(Instr.next u isS ty).run P w= .ok y w'/\fm E H w E H' w'/\bX E H' w'/\VR E w'.heap v y:=by
 unfold TO at h;split at h
 ·grind
 ·split at h
  ·rename_i id;split at h
   ·rename_i b p Y;obtain⟨g1,g2,g3⟩:=(r.live id _ Y).2.1;simp only [VR] at hx;obtain⟨rfl,hid⟩:=hx;rw [g2];have hg:=jZ (P:=P) g1 ad;split at h
    ·rename_i hn;simp only [ah,ak] at h;obtain⟨rfl,rfl⟩:=h;rw [dy,axL] at hn;have hp: ¬p<(dv b).size:=by rw [mN]; omega
     refine⟨.tuple #[.bool false],w,?_,fm.refl _ _ _,r,?_⟩
     ·simp [Instr.next,hg,hp]
     ·simp only [VR,cP]; exact⟨[.bool false],rfl,_,_,rfl,by simp [SB.den],rfl⟩
    ·rename_i c hn;split at h
     ·rename_i hc;simp only [ah,ak] at h;obtain⟨rfl,rfl⟩:=h;rw [dy] at hn;have hpl:=(bc.1 hn).1;have hp:p<(dv b).size:=by rw [mN]; exact hpl
      have hb:(dv b)[p]'hp=UInt8.ofNat c:=by
       have U:(dv b)[p]?=some ((dv b)[p]'hp):=getElem?_pos (dv b) p hp
       grind [FL]
      have hbn:((dv b)[p]'hp).toNat=c:=by rw [hb]; simp; omega
      have avU:=decode_ascii (dv b) p hp (by rw [hbn]; exact hc)
      obtain⟨s1,s2⟩:=iU r Y (.lH b (p+1)) (.stringIter (dv b) (p+1)) (by
       intro h' hh _
       exact⟨hh,g2,g3⟩)
      refine⟨.tuple #[.bool true,goInt p,.int .i32 ((dv b)[p]'hp).toNat],_,?_,s1,s2,?_⟩
      ·simp only [Instr.next,Sem.run_bind,hg,Result.andThen_ok,hp,if_true,avU,jU (P:=P) g1 ad,Sem.run_pure]
      ·simp only [VR,cP,hbn];exact⟨_,rfl,_,_,rfl,by simp [SB.den],_,_,rfl,by simp [W.den,goInt],_,_,rfl,by simp [W.den],rfl⟩
     grind
   grind
  grind
theorem VL {pc:List (SB×Bool)} (hp:cA ρ pc) {b:Bool} (h:c.den ρ=b):cA ρ ((c,b)::pc):=by
 intro d x hm;rcases aF.1 hm with hm|hm
 ·grind
 ·exact hp d x hm
theorem dh {α:Type} {s:St} (hp:cA ρ s.pc) {f:St->Bool->T α} {r:α} (h:(mg s c f).leaf ρ=some r) :
 ∃fy,cA ρ fy/\(f { s with pc:=fy } (c.den ρ)).leaf ρ=some r:=by
 unfold mg at h;split at h
 ·rename_i b hb;exact⟨s.pc,hp,by rw [gW hp hb]; exact h⟩
 ·split at h
  ·rename_i d;simp only [T.leaf] at h;split at h
   ·rename_i hc;exact ahf
   ·rename_i hc;exact ahf
  ·simp only [T.leaf] at h
   grind [VL]
theorem T.fA {α β:Type} {ρ:Nat->Int} {f:α->T β} {r:β}: ∀{x:T α},(x.bind f).leaf ρ=some r->∃a,x.leaf ρ=some a/\(f a).leaf ρ=some r
 | .fail,h=>by simp [T.bind,T.leaf] at h
 | .ret a,h=> ⟨a,rfl,h⟩
 | .split c x y,h=>by simp only [T.bind,T.leaf] at h ⊢;split at h<;>exact T.fA h
theorem oQ {mx:Bool}: ∀{xs:List AV} {a:W} {k:IntKind} {s s':St} {us:List Value} {v:AV},cA E.ρ s.pc->cP E w.heap xs us->(uX mx xs a k s).leaf E.ρ=some (v,s')->
 s'.h=s.h/\s'.bC=s.bC/\cA E.ρ s'.pc/\∃u,(us.foldlM (if mx then Builtin.max2 else Builtin.min2) (.int k (a.den E.ρ))).run P w= .ok u w/\VR E w.heap v u
 |[],a,k,s,s',us,v,hp,hv,h=>by simp only [uX,T.leaf,ah,ak] at h;obtain⟨rfl,rfl⟩:=h;rw [jf] at hv;subst hv;exact⟨rfl,rfl,hp,_,rfl,by simp only [VR]⟩
 |x::xs,a,k,s,s',us,v,hp,hv,h=>by
  rw [bU] at hv;obtain⟨u,vs,rfl,hx,pR⟩:=hv;cases x<;>simp only [uX,T.leaf,reduceCtorEq] at h;rename_i k' b;simp only [VR] at hx;subst hx;obtain⟨fy,gC,U⟩:=dh hp h;cases mx
  ·simp only [aR,if_false,ef] at U ⊢;by_cases hc:b.den E.ρ<a.den E.ρ
   ·simp only [hc,decide_true,if_true] at U;obtain⟨q1,q2,q3,u,q4,q5⟩:=oQ gC pR U;refine⟨q1,q2,q3,u,?_,q5⟩;simp only [ax1,Sem.run_bind,Builtin.min2,Sem.run_pure,Result.andThen_ok,hc,if_true]
    grind
   ·simp only [hc,decide_false,aR,if_false] at U;obtain⟨q1,q2,q3,u,q4,q5⟩:=oQ gC pR U;refine⟨q1,q2,q3,u,?_,q5⟩;simp only [ax1,Sem.run_bind,Builtin.min2,Sem.run_pure,Result.andThen_ok,hc,if_false]
    grind
  ·simp only [if_true,ef] at U ⊢;by_cases hc:a.den E.ρ<b.den E.ρ
   ·simp only [hc,decide_true,if_true] at U;obtain⟨q1,q2,q3,u,q4,q5⟩:=oQ gC pR U;refine⟨q1,q2,q3,u,?_,q5⟩;simp only [ax1,Sem.run_bind,Builtin.max2,Sem.run_pure,Result.andThen_ok,gt_iff_lt,hc,if_true]
    grind
   ·simp only [hc,decide_false,aR,if_false] at U;obtain⟨q1,q2,q3,u,q4,q5⟩:=oQ gC pR U;refine⟨q1,q2,q3,u,?_,q5⟩;simp only [ax1,Sem.run_bind,Builtin.max2,Sem.run_pure,Result.andThen_ok,gt_iff_lt,hc,if_false]
    grind
end
end
section
variable {ρ:Nat->Int} {u:Value} {t:Nat} {c:SB} {H':Hp} {w':World}
section
variable {P:Program} {E:En} {w:World}
theorem Yb (ρ:Nat->Int) (a b:SB):(aaf a b).den ρ=(a.den ρ&&b.den ρ):=by unfold aaf;split<;>simp [SB.den]
theorem Zc {i:TI} (hU:oe P t i) {x y:AV} {v:Value} (hx:VR E w.heap x u) (hy:VR E w.heap y v) (h:T6 i.kind x y=some c) (d:Nat) :
 (Op.equalIn (d+1) t u v).run P w= .ok (c.den E.ρ) w/\u.oneCell'=true/\v.oneCell'=true/\i.agg=false:=by
 unfold T6 at h;split at h
 ·rename_i k hk;split at h
  ·split at h
   ·rename_i Bc;subst Bc;simp at h;subst h;simp only [VR] at hx hy;subst hx hy;exact⟨by rw [run_equalIn_int w d t _ _ _ _ (xJ hU hk),jx],rfl,rfl,by simp [TI.agg,TK.agg,hk]⟩
   grind
  grind
 ·rename_i hk;split at h
  ·simp at h;subst h;simp only [VR] at hx hy;obtain⟨rfl,hx⟩:=hx;obtain⟨rfl,hy⟩:=hy;exact⟨by rw [run_equalIn_string w d t _ _ (fV hU hk),Vv hx hy]; rfl,rfl,rfl,by simp [TI.agg,TK.agg,hk]⟩
  ·obtain⟨a,b,rfl,rfl,V⟩:=FK hx hy h;exact⟨by rw [run_equalIn_string w d t _ _ (fV hU hk),zd,V],rfl,rfl,by simp [TI.agg,TK.agg,hk]⟩
 ·rename_i hk;split at h
  ·simp only [VR] at hx hy;subst hx hy;exact⟨by rw [run_equalIn_bool' w d t _ _ (NQ hU hk),D9 h],rfl,rfl,by simp [TI.agg,TK.agg,hk]⟩
  grind
 grind
theorem WW {tt:TT} (da:eP P tt) {xs ys:List AV} {us vs:List Value} (hx:cP E w.heap xs us) (hy:cP E w.heap ys vs) (d:Nat): ∀{yA:List Field} {l:List (Nat×Nat×Nat)} {c:SB},
 (yA.mapM fun f=>(P.info? f.type).map fun i=>(f.offset,f.type,i.size))=some l->(∀f∈yA,f.name≠ "_")->abY tt xs ys l=some c->
 (Op.eqFields (d+1) us.toArray vs.toArray yA).run P w= .ok (c.den E.ρ) w
 |[],l,c,hm,_,h=>by simp at hm;subst hm;simp [abY] at h;subst h;simp [Op.eqFields,SB.den]
 |f::yA,l,c,hm,hn,h=>by
  simp only [axJ,ayg,axW] at hm;obtain⟨p,U,ls,Z,h3⟩:=hm;simp only [pure,ah] at h3;subst h3;rw [aO] at U;obtain⟨inf,awH,rfl⟩:=U;simp only [abY] at h;split at h
  ·grind
  ·rename_i i hi;split at h
   ·rename_i x y hxn hyn;split at h
    ·grind
    ·rename_i c1 O8;split at h
     ·grind
     ·rename_i c2 hc2;simp at h;subst h;obtain⟨u,hu1,hu2⟩:=hx.nth hxn;obtain⟨v,hv1,hv2⟩:=hy.nth hyn;obtain⟨e1,e2,e3,e4⟩:=Zc (w:=w) (da f.type i hi) hu2 hv2 O8 d;have ih:=WW da hx hy d Z (fun g hg=>hn g (by simp [hg])) hc2;have p1:(part f.type us.toArray f.offset).run P w= .ok u w:=by simp [part,qK (da f.type i hi),e4,hu1]
      have p2:(part f.type vs.toArray f.offset).run P w= .ok v w:=by simp [part,qK (da f.type i hi),e4,hv1]
      simp only [Op.eqFields];rw [ag (hn f ad)];simp only [Sem.run_bind,p1,p2,e1,Result.andThen_ok,Yb];cases Rc:c1.den E.ρ
      ·simp
      grind
   grind
theorem Hh {tt:TT} (da:eP P tt) {xs ys:List AV} {us vs:List Value} (hx:cP E w.heap xs us) (hy:cP E w.heap ys vs) (h:Ff tt t xs ys=some c) (op:BinOp) (x y:Operand) :
 (eqGuard op t x y (.agg us.toArray) (.agg vs.toArray)).run P w= .ok () w/\(binOp .eql t (.agg us.toArray) (.agg vs.toArray)).run P w= .ok (.bool (c.den E.ρ)) w/\(binOp .neq t (.agg us.toArray) (.agg vs.toArray)).run P w= .ok (.bool (!(c.den E.ρ))) w:=by
 unfold Ff at h;split at h
 ·grind
 ·rename_i i hi;split at h
  ·rename_i fs hk;split at h
   ·rename_i hq;have hU:=da t i hi;have he:=hU.eqs hq;obtain⟨yA,hu,hm⟩:=za hU hk;unfold abX at he;rw [hu] at he;simp only [an,axc,aP,bne_iff_ne,ne_eq] at he;obtain⟨⟨U,Z⟩,h3⟩:=he;have hf:P.fieldsOf t=yA:=by simp [Program.fieldsOf,hu]
    have h10:(10000:Nat)=9998+1+1:=rfl
    have key:(Op.equalIn 10000 t (.agg us.toArray) (.agg vs.toArray)).run P w= .ok (c.den E.ρ) w:=by rw [h10];generalize (9998:Nat)=n;rw [run_equalIn_struct w (n+1) t _ _ (by rw [hf]; exact hu) U,hf];exact WW da hx hy n hm (fun f hf=>(h3 f hf).1) h
    refine⟨run_eqGuard_agg w op t x y _ _ Z,?_,?_⟩
    ·rw [run_eql_struct,key]; rfl
    ·rw [run_neq_struct,key]; rfl
   grind
  grind
def QS [bN] (E:En) (s:St) (w:World) (v:AV) (s':St) (u:Value) (w':World):Prop:= ∃E',fm E s.h w E' s'.h w'/\bX E' s'.h w'/\VR E' w'.heap v u
def l8 [bN] (P:Program) (E:En) (s:St) (o:Oper) (a:Act) (w:World) (v:AV) (s':St):Prop:=
 s'.bC=s.bC/\cA E.ρ s'.pc/\tm P o a w (QS E s w v s')
theorem bE {α:Type} {a b:α} (h:(T.ret a).leaf ρ=some b):a=b:=by simpa [T.leaf] using h
theorem ib {s:St} {a:Act} {x:Operand} {f:AV->T (AV×St)} {r:AV×St} (sr:SR E w.heap s.bC a) (h:(B5 s x f).leaf E.ρ=some r): ∃v,VR E w.heap v (a.eval x)/\(f v).leaf E.ρ=some r:=by
 unfold B5 at h;split at h
 ·rename_i v hv; exact⟨v,iw sr hv,h⟩
 ·simp [T.leaf] at h
theorem jv {s s':St} {v:AV} {r:Option AV} (h:(tI s r).leaf ρ=some (v,s')):r=some v/\s'=s:=by
 unfold tI at h;split at h
 ·have:=bE h; simp only [ak] at this; exact⟨by rw [this.1],this.2.symm⟩
 ·simp [T.leaf] at h
theorem AD {s s':St} {v:AV} {r:Option Hp} (h:(Ss s r).leaf ρ=some (v,s')): ∃H,r=some H/\v=AV.undef/\s'= { s with h:=H }:=by
 unfold Ss at h;split at h
 ·rename_i H; have:=bE h; simp only [ak] at this; exact⟨H,rfl,this.1.symm,this.2.symm⟩
 ·simp [T.leaf] at h
theorem qW {s s':St} {v:AV} {r:Option (AV×Hp)} (h:(DH s r).leaf ρ=some (v,s')): ∃H,r=some (v,H)/\s'= { s with h:=H }:=by
 unfold DH at h;split at h
 ·rename_i x H; have:=bE h; simp only [ak] at this; obtain⟨rfl,rfl⟩:=this; exact⟨H,rfl,rfl⟩
 ·simp [T.leaf] at h
theorem pr {h:Array Obj}:VR E h AV.undef undef:=by simp only [AV.undef,VR,cP]; exact⟨[],rfl,rfl⟩
variable {s s':St} {o:Oper} {a:Act} {v:AV}
theorem l8.pure [bN] (hp:cA E.ρ s.pc) (r:bX E s.h w) (h:(execOp a.eval o).run P w= .ok (.value u) w) (hv:VR E w.heap v u):l8 P E s o a w v s:=
 ⟨rfl,hp,tm.value h ⟨E,fm.refl _ _ _,r,hv⟩⟩
theorem l8.heap [bN] {E':En} (hp:cA E.ρ s.pc) (h:(execOp a.eval o).run P w= .ok (.value u) w') (U:fm E s.h w E' H' w') (Z:bX E' H' w') (hv:VR E' w'.heap v u) :
 l8 P E s o a w v { s with h:=H' }:=
 ⟨rfl,hp,tm.value h ⟨E',U,Z,hv⟩⟩
end
end
section
variable {t:Nat} {s s':St} {tt:TT} {ρ:Nat->Int} {E:En} {α:Type} {P:Program} {w:World} {u:Value} {op:BinOp} {v:AV}
theorem zP {α:Type} {ρ:Nat->Int} {kk:TK} {k:AV} {r:α} {f:St->T α}: ∀{es:List (AV×AV×Nat)} {s:St},cA ρ s.pc->(ve kk k es s f).leaf ρ=some r->∃fy,cA ρ fy/\(f { s with pc:=fy }).leaf ρ=some r
 |[],s,hp,h=> ⟨s.pc,hp,h⟩
 |(k',v,b)::es,s,hp,h=>by
  simp only [ve] at h;split at h
  ·split at h
   ·exact vS
   ·exact zP hp h
  ·split at h
   ·obtain⟨jJ,jo,U⟩:=dh hp h;split at U
    ·grind
    ·obtain⟨qA,n9,Z⟩:=zP (s:={ s with pc:=jJ }) jo U
     grind
   ·exact vS
theorem sq {m k:AV} {r:α} {f:St->T α} (hp:cA ρ s.pc) (h:(pq tt t m k s f).leaf ρ=some r): ∃fy,cA ρ fy/\(f { s with pc:=fy }).leaf ρ=some r:=by
 unfold pq at h;split at h
 ·split at h
  ·split at h
   ·split at h
    ·exact zP hp h
    ·exact vS
   ·exact vS
  ·exact vS
 ·exact vS
theorem PA {ρ:Nat->Int} {k:IntKind} {e:W} {f:AV->St->T (AV×St)} {r:AV×St}: ∀(n j:Nat) {s:St},cA ρ s.pc->(j:Int)<=e.den ρ->e.den ρ<(j:Int)+n->(PB k e f n j s).leaf ρ=some r->
 ∃(i:Nat) (fy:List (SB×Bool)),cA ρ fy/\e.den ρ=(i:Int)/\(f (.int k (.lit (Int.ofNat i))) { s with pc:=fy }).leaf ρ=some r
 |0,j,s,_,_,_,h=>by simp [PB,T.leaf] at h
 |n+1,j,s,hp,U,Z,h=>by
  simp only [PB] at h;split at h
  ·exact⟨j,s.pc,hp,J,h⟩
  ·obtain⟨jJ,jo,h3⟩:=dh hp h;rw [jx] at h3;split at h3
   ·rename_i he;simp only [W.den,beq_iff_eq] at he
    grind
   ·rename_i he;simp only [W.den,beq_eq_false_iff_ne,ne_eq] at he;have hj:(Int.ofNat j)=(j:Int):=rfl;rw [hj] at he;obtain⟨i,qA,n9,q1,q2⟩:=PA n (j+1) (s:={ s with pc:=jJ }) jo (by push_cast; omega) (by push_cast at Z ⊢; omega) h3
    grind
theorem oX (hp:cA ρ s.pc) {i n:W} {f:St->T α} {r:α} (h:(AN s i n f).leaf ρ=some r) :
 ∃fy,cA ρ fy/\0<=i.den ρ/\i.den ρ<n.den ρ/\(f { s with pc:=fy }).leaf ρ=some r:=by
 unfold AN at h;obtain⟨jJ,jo,U⟩:=dh hp h;split at U
 ·simp [T.leaf] at U
 ·rename_i e1;rw [ef,decide_eq_false_iff_not] at e1;obtain⟨qA,n9,Z⟩:=dh (s:={ s with pc:=jJ }) jo U;split at Z
  ·rename_i e2;rw [ef,decide_eq_true_eq] at e2;simp only [W.den,axp] at e1
   grind
  ·simp [T.leaf] at Z
theorem B0 {h0:Array Obj} {x ix:AV} {ui:Value} {f:AV->St->T (AV×St)} {r:AV×St} (hp:cA E.ρ s.pc) (Bd:VR E h0 ix ui) (h:(Kx tt t x ix s f).leaf E.ρ=some r) :
 ∃ix' fy,cA E.ρ fy/\VR E h0 ix' ui/\(f ix' { s with pc:=fy }).leaf E.ρ=some r:=by
 unfold Kx at h;split at h
 ·exact⟨ix,s.pc,hp,Bd,h⟩
 ·split at h
  ·rename_i k e _;split at h
   ·rename_i n hn;obtain⟨jJ,jo,U,Z,h3⟩:=oX hp h;simp only [W.den] at Z;obtain⟨i,qA,n9,q1,q2⟩:=PA n 0 (s:={ s with pc:=jJ }) jo (by simpa using U) (by simpa using Z) h3;refine⟨_,qA,n9,?_,q2⟩;simp only [VR,W.den] at Bd ⊢
    grind
   ·simp [T.leaf] at h
  ·simp [T.leaf] at h
theorem JE {ro:Nat->Prop} {h:Array Obj} {d:D} {v:Value} (r:Rd ro h (.sl t) d v):(0<d.l.length->∃a n cap,v= .slice (some a) n cap)/\(d= .i 1->v= .slice none 0 0)/\(d= .i 2->∃a n cap,v= .slice (some a) n cap):=by
 generalize hc:CK.sl t=c at r
 cases r with
 |int k n=>simp at hc
 |bool b=>simp at hc
 |str s=>simp at hc
 |nil t=>exact⟨by simp [D.l],fun _=>rfl,ad⟩
 |wL t a cap=>exact⟨by simp [D.l],ad,fun _=> ⟨a,0,cap,rfl⟩⟩
 |one t c b o cap ds f hr eR hb U Z=>exact⟨fun _=> ⟨_,_,_,rfl⟩,fun q=>by cases ds<;>simp [dL] at q,fun q=>by cases ds<;>simp [dL] at q⟩
 |many t cs b o cap rows f hr eR hb Y U Z=>exact⟨fun _=> ⟨_,_,_,rfl⟩,fun q=>by cases rows<;>simp [dL] at q,fun q=>by cases rows<;>simp [dL] at q⟩
theorem Lw (da:eP P tt) {e:Nat} {ti:TI} (hU:tt t=some ti) (hk:ti.kind= .slice e) {b:Bool} (hu:(b=true/\u= .slice none 0 0)\/(b=false/\∃a n cap,u= .slice (some a) n cap))
 (h:(aaM s op b).leaf ρ=some (v,s')):s'=s/\∃y,(binOp op t u (.slice none 0 0)).run P w= .ok y w/\VR E w.heap v y/\(∀cs ds,¬(u= .agg cs/\(Value.slice none 0 0)= .agg ds))/\¬(u= .nilIface/\(Value.slice none 0 0)= .nilIface):=by
 obtain⟨d,U,Z⟩:=tP (da t ti hU);rw [hk] at Z
 have he:(Op.equal t u (.slice none 0 0)).run P w= .ok b w:=by have hm:Op.equal t u (.slice none 0 0)=Op.equalIn (9999+1) t u (.slice none 0 0):=rfl;rw [hm];generalize (9999:Nat)=n;cases d<;>simp only [UZ] at Z;rcases hu with ⟨rfl,rfl⟩|⟨rfl,a,m,cap,rfl⟩ <;>simp [Op.equalIn,Az U]
 have LQ:(∀k n,u≠.int k n)/\(∀s,u≠.string s)/\(∀k n,u≠.float k n)/\(∀k n m,u≠.complex k n m):=by
  grind
 obtain⟨q1,q2⟩:=binOp_eql he LQ.1 LQ.2.1 LQ.2.2.1 LQ.2.2.2;unfold aaM at h;split at h
 ·simp only [T.leaf,ah,ak] at h;obtain⟨rfl,rfl⟩:=h;exact⟨rfl,_,q1,by simp only [VR,SB.den],ad,ad⟩
 ·simp only [T.leaf,ah,ak] at h;obtain⟨rfl,rfl⟩:=h;exact⟨rfl,_,q2,by simp only [VR,SB.den],ad,ad⟩
 ·simp [T.leaf] at h
theorem afV (da:eP P tt) {a b:AV} {e:W} (hn:SL tt t a b=some e) {u':Value} (ha:VR E w.heap a u) (hb:VR E w.heap b u') (hp:cA E.ρ s.pc) (h:(an1 s e op).leaf E.ρ=some (v,s')) :
 s'.bC=s.bC/\s'.h=s.h/\cA E.ρ s'.pc/\∃y,(binOp op t u u').run P w= .ok y w/\VR E w.heap v y/\(∀cs ds,¬(u= .agg cs/\u'= .agg ds))/\¬(u= .nilIface/\u'= .nilIface):=by
 unfold SL at hn;split at hn
 ·split at hn
  ·split at hn
   ·rename_i ti hU;split at hn
    ·rename_i el hk;simp only [ah] at hn;subst hn;simp only [VR] at ha hb;subst hb;obtain⟨k1,k2,k3⟩:=JE ha;unfold an1 at h;obtain⟨jJ,jo,U⟩:=dh hp h;split at U
     ·rename_i t1;rw [ef,decide_eq_true_eq,cV] at t1;simp only [W.den] at t1;obtain⟨rfl,q⟩:=Lw (P:=P) (E:=E) (w:=w) da hU hk (.inr ⟨rfl,k1 J⟩) U
      grind
     ·obtain⟨qA,n9,Z⟩:=dh (s:={ s with pc:=jJ }) jo U;split at Z
      ·rename_i t2;rw [mP,qV,beq_iff_eq] at t2;simp only [W.den] at t2;obtain⟨rfl,q⟩:=Lw (P:=P) (E:=E) (w:=w) da hU hk (.inl ⟨rfl,k2 (ff t2)⟩) Z
       grind
      ·obtain⟨pc3,OZ,h3⟩:=dh (s:={ s with pc:=qA }) n9 Z;split at h3
       ·rename_i t3;rw [mP,qV,beq_iff_eq] at t3;simp only [W.den] at t3;obtain⟨rfl,q⟩:=Lw (P:=P) (E:=E) (w:=w) da hU hk (.inr ⟨rfl,k3 (ff t3)⟩) h3
        grind
       ·simp [T.leaf] at h3
    grind
   grind
  grind
 grind
end
end Go.As
end

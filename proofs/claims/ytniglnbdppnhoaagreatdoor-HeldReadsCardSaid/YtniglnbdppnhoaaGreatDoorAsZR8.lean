/-
  Proved: the given card of the law HeldReads: whatever the input, the call returns true and each argument reads afterwards as it did. Conditions: those of the given row alone (its listed package-level variables start as the program's text lays them; each string, slice and map that is handed in lies within a process's addresses).
-/
import Derived.Test.YtniglnbdppnhoaaGreatDoorAsZR7
set_option linter.unusedSectionVars false
set_option linter.unusedVariables false
set_option linter.unusedSimpArgs false
section
namespace Go.As.Try
open Go hiding Stat
open Go.As Go.Proofs Go.RowKit
set_option maxRecDepth 100000
theorem A5: ∀a b c d,runs a b c d
 |true,true,true,true=>Gr
 |true,true,true,false=>Gt
 |true,true,false,true=>Gu
 |true,true,false,false=>Gv
 |true,false,true,true=>Gw
 |true,false,true,false=>Gx
 |true,false,false,true=>Gy
 |true,false,false,false=>Gz
 |false,true,true,true=>GA
 |false,true,true,false=>GB
 |false,true,false,true=>GC
 |false,true,false,false=>GD
 |false,false,true,true=>GF
 |false,false,true,false=>GG
 |false,false,false,true=>GH
 |false,false,false,false=>GI
theorem AP {E:En} {h:Array Obj} (a b:Bool):V E h (two a b) (.agg #[.bool a,.bool b]):=by simp only [two,V,bC];exact⟨[.bool a,.bool b],rfl,_,_,rfl,by simp [SB.den],_,_,rfl,by simp [SB.den],rfl⟩
theorem vi (a b c d:Bool) {Z':World} (lG:Z'.ShapedOpen Tryz.prog) :
 Calls Tryz.prog 3 #[.agg #[.bool a,.bool b],.agg #[.bool c,.bool d]] Z' fun en W'=>en= .returned (.bool true)/\Below Z'.heap.size Z' W':=by
 letI Y?:=base.jM (fun _ _=>none);have hI: ∀ρ ro h,Y?.ok ρ ro h->base.ok ro h:=fun _ _ _ h=>h.1;have h:=A5 a b c d;unfold runs sM at h;simp only [an] at h;obtain⟨_,N⟩:=h;split at N
 ·rename_i u s1 iu;have hu:=dx _ _ N;subst hu;obtain⟨cd,K⟩:=mY (f:=Tryz.f3) aa
  have W:bC (En.zero (BW (fun _ _=>none) (fun _=>0)) (w5 Z')) Z'.heap [two a b,two c d] [.agg #[.bool a,.bool b],.agg #[.bool c,.bool d]]:=
   bt.2 ⟨_,_,rfl,AP a b,bt.2 ⟨_,_,rfl,AP c d,cZ.2 rfl⟩⟩
  have B:=jE (CR Y? hI 3) (fn:=Tryz.f3) (oL aa ae) aa K (ρ:=BW (fun _ _=>none) (fun _=>0)) (ro:=w5 Z') (w:=Z') (fun _ h=>h) ⟨Ds lG,At _ _⟩ W (v:=.bool (.lit true)) (s':=s1) (by rw [iu]; rfl);refine B.mono fun e w' ⟨x,E',he,M,_,iN⟩=>?_;simp only [V,SB.den] at M;subst M;exact⟨he,iN⟩
 ·simp at N
end Go.As.Try
end
section
namespace Go.Proofs.YtniglnbdppnhoaaGreatDoor.fnHeldReads
open Go hiding Stat
open Go.As Go.As.Try Go.Proofs Go.RowKit Go.ChangeShapes Go.WideShapes Go.ChangeAt
set_option maxRecDepth 100000
theorem ze:ke Tryz.prog EI 8 22=some [.bool,.bool]:=aa
theorem wD {H:Type} {enc:TypeId×Value->H} {Z':World} {t:TypeId} {v:Value} {d:DataW H} {p:List MemPlace} {rP:List CK} (hf:ke Tryz.prog EI 8 t=some rP) (h:DataW.Trod enc Tryz.prog Z' 0 (fun _=>true) true t v d p) (hw:(d.weights Tryz.prog t).all (·<=reachBytes)=true) :
 ∃ds,Rs (w5 Z') Z'.heap rP ds v.cells.toList:=by
 obtain⟨fuel,M⟩:=h;exact tz C4 fuel t 8 rP v.cells.toList (d,p) hf M hw
theorem Ca (H:Type) (enc:TypeId×Value->H) (Z':World) (base:Nat) (args:Array Value) (ds gs:List (DataW H)) (before:List MemPlace)
 (Ac: ∀(j:Nat) t v,Tryz.f3.params[j]?=some t->args[j]?=some v->Value.okWide Tryz.prog Z' .any base t v)
 (hW:DataW.Whole enc Tryz.prog Tryz.f3.params.toList Rows.heldReadsSpec.vars false Z' args.toList ds gs before)
 (dc:(DataW.weightsEach Tryz.prog (Tryz.f3.params.toList++ []) (ds++gs)).all (·<=reachBytes)=true) (lG:Z'.ShapedOpen Tryz.prog) :
 Calls Tryz.prog 3 args Z' fun e W'=> ∃v,e= .returned v/\Rows.heldReadsSpec.post enc Tryz.prog Tryz.f3 false true false false Z' args v W':=by
 have J4:=hW;obtain⟨p,q,K2,hV,rfl,MN,rM⟩:=hW;have hA:DataW.TrodAll enc Tryz.prog Z' 0 (fun _=>true) true Tryz.f3.params.toList args.toList ds p:=K2;rw [Tryz.params3] at hA Ac dc;obtain⟨v0,My,d0,MT,p0,q0,Eg,rfl,rfl,h0,r0⟩:=trodAll_cons hA;obtain⟨v1,Ip,d1,MS,p1,q1,rfl,rfl,rfl,O,r1⟩:=trodAll_cons r0;obtain⟨rfl,rfl,rfl⟩:=trodAll_nil r1;obtain rfl:args= #[v0,v1]:=by cases args; simp_all
 obtain⟨rfl,rfl⟩:=trodVars_none hV;clear K2;simp only [aaE] at J4;have c6: ∀x∈p0++p1,x.block<Z'.heap.size:=fun x M=>by simpa using J4.lt x (by simpa using M)
 have JE: ∀x∈p0,x.block<Z'.heap.size:=fun x M=>c6 x (List.mem_append_left _ M);have JD: ∀x∈p1,x.block<Z'.heap.size:=fun x M=>c6 x (List.mem_append_right _ M)
 have Hi:(d0.weights Tryz.prog 22).all (·<=reachBytes)=true/\(d1.weights Tryz.prog 22).all (·<=reachBytes)=true:=by have:(DataW.weightsEach Tryz.prog [22,22] [d0,d1]).all (·<=reachBytes)=true:=dc;simp only [DataW.weightsEach,aa0,an] at this;exact⟨this.1,this.2.1⟩
 obtain⟨Mr,R0⟩:=wD ze h0 Hi.1;obtain⟨Mq,R1⟩:=wD ze O Hi.2;obtain⟨FT,rfl,_⟩:=mi Tryz.underlying22 (Ac 0 22 v0 rfl rfl);have e0:(Value.agg FT).cells.toList=FT.toList:=rfl;obtain⟨Ic,rfl,_⟩:=mi Tryz.underlying22 (Ac 1 22 v1 rfl rfl);have e1:(Value.agg Ic).cells.toList=Ic.toList:=rfl;rw [e0] at R0;rw [e1] at R1
 match Mr,JV:FT.toList,R0 with
 |[x0,x1],[u0,u1],.cons Lh w0 (.cons Lg w1 .nil)=>
  obtain rfl:FT= #[u0,u1]:=by rw [<- Array.toArray_toList (xs:=FT),JV]
  match Mq,JU:Ic.toList,R1 with
  |[x2,x3],[u2,u3],.cons Le w2 (.cons Ld w3 .nil)=>
   obtain rfl:Ic= #[u2,u3]:=by rw [<- Array.toArray_toList (xs:=Ic),JU]
   cases Lh;cases Lg;cases Le;cases Ld;rename_i b0 b1 b2 b3;refine (vi _ _ _ _ lG).mono fun e W' ⟨he,K⟩=>?_;subst he;exact⟨_,rfl,⟨_,_,_,[],_,[],J4,trodAll_mk1 (shut_bool Tryz.underlying4 _),trodAll_mk2 (Below.trod laidOut aa (of_decide_eq_true aa) h0 K JE) (Below.trod laidOut aa (of_decide_eq_true aa) O K JD),rfl,K.frame _,fun h=>by cases h⟩⟩
abbrev yj:Array Value:=#[.agg #[.bool false,.bool false],.agg #[.bool false,.bool false]]
theorem Bo (os:Os):laidMet Tryz.prog Rows.heldReadsRow.laid ((nM os).forCall (fun _ _=>0) ⟨#[],yj,[]⟩).memory:=
 laidMet_of_run' 8 aa aa
theorem reads (os:Os) {H:Type} (enc:TypeId×Value->H): ∃places,DataW.whole enc Tryz.prog ((nM os).forCall (fun _ _=>0) ⟨#[],yj,[]⟩).memory Tryz.f3.params.toList [] false yj.toList 8=some ([.agg [.lit (.bool false),.lit (.bool false)],.agg [.lit (.bool false),.lit (.bool false)]],[],places):=
 ⟨[],aa⟩
set_option maxHeartbeats 400000 in
theorem lifted (os:Os) (started:os.Started) (H:Type) (enc:TypeId×Value->H) (X?:Stop.Interp) :
 ReturnsInHanded {} Tryz.checked os 3 .any ((OpenSpec.ofChange Rows.heldReadsSpec).preRow enc Tryz.prog Tryz.f3 Rows.heldReadsRow.domain false Rows.heldReadsRow.laid) (((OpenSpec.ofChange Rows.heldReadsSpec).at X?).post enc Tryz.prog Tryz.f3 false true false false):=by
 obtain⟨places,M⟩:=reads os enc
 refine returnsInHanded_of_row (C:=Tryz.checked) (s:=OpenSpec.ofChange Rows.heldReadsSpec) Try.own started aa Tryz.func3
  (witness_row_at (enc:=enc) (C:=Tryz.checked) false (nM os) yj rfl aa aa aa
   (OpenSpec.preRow_of_cond 8 M aa (fun k R=>by cases R) aa (Bo os))) ?_
 intro Z' base args ds gs before Ac hW _ _ dc _ lG _;exact Ca H enc Z' base args ds gs before Ac hW dc lG
theorem cX {a b:Bool} (O:a=true) (U:b=true):(a&&b)=true:=by rw [O,U]; rfl
theorem closed:joinedFacts Tryz.pinned.checked.prog 3 Tryz.f3 (OpenSpec.ofChange Rows.heldReadsSpec).bare Rows.heldReadsRow=true:=(cX (cX (cX (cX (cX (cX (cX (cX (cX (cX (cX (cX (cX (cX (cX (cX (cX (cX (cX (cX (cX (cX (cX (cX (cX (cX (cX (cX (cX (cX (cX aa aa) aa) aa) aa) aa) aa) aa) aa) aa) aa) aa) aa) aa) aa) aa) aa) aa) aa) aa) aa) aa) aa) aa) aa) aa) aa) aa) aa) aa) aa) aa)
theorem said:Rows.HeldReadsSaid:=
 OpenClaim.holds_of_cond 3 Tryz.f3 rfl rfl rfl rfl rfl rfl rfl ⟨rfl,rfl,rfl,rfl,rfl⟩ rfl rfl rfl rfl rfl aa Tryz.func3 closed
  (of_decide_eq_true aa) (by unfold Func.isWrapper; first |(rw [ak (by decide +kernel)]; kernel_rfl)|(rw [ah (by decide +kernel)]; exact⟨rfl,rfl⟩))
  (fun os started H enc _ X?=>by rw [OpenClaim.pre_eq_preRow]; exact lifted os started H enc X?)
theorem plain (f:FuncId) (fn:Func) (hf:Tryz.pinned.checked.prog.funcNamed "amanuensis/amanuensislaw25.HeldReads" = some f) (BG:Tryz.pinned.checked.prog.funcs[f]?=some fn) :
 false=Tryz.pinned.checked.prog.looks []/\∀(j:Nat) t,fn.params[j]?=some t->Tryz.pinned.checked.prog.wantsStandIn t=false:=by
 obtain rfl:f=3:=Option.some.inj ((show Tryz.prog.funcNamed "amanuensis/amanuensislaw25.HeldReads" = some 3 by kernel_rfl).symm.trans hf) |>.symm;obtain rfl:fn=Tryz.f3:=(Option.some.inj (Tryz.func3.symm.trans BG)).symm;refine⟨aa,fun j t ht=>?_⟩;rw [Tryz.params3] at ht;have hm:=abl ht;simp only [List.mem_toArray,aw,aaJ,or_false] at hm;rcases hm with rfl|rfl
 all_goals exact (by kernel_rfl:Tryz.prog.wantsStandIn _=false)
theorem card:Rows.HeldReadsCardSaid:=
 Claim7.holds_tied_plain_at .later [] _ _ _ _ said (fun _ h=>by cases h) aa (fun _ h=>by cases h) heldReads_row_tie rfl ⟨rfl,rfl⟩ aa rfl plain aa
end Go.Proofs.YtniglnbdppnhoaaGreatDoor.fnHeldReads
end

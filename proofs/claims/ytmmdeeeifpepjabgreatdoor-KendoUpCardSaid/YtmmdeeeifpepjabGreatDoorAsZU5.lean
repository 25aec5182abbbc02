/-
  Proved: the given card of the law KendoUp: whatever the input, the call returns true and each argument reads afterwards as it did. Conditions: those of the given row alone (its listed package-level variables start as the program's text lays them; each string, slice and map that is handed in lies within a process's addresses).
-/
import Derived.Test.YtmmdeeeifpepjabGreatDoorAsZU4
set_option linter.unusedSectionVars false
set_option linter.unusedVariables false
set_option linter.unusedSimpArgs false
section
namespace Go.Proofs.YtmmdeeeifpepjabGreatDoor.fnKendoUp
open Go hiding Stat
open Go.As Go.As.Try Go.Proofs Go.RowKit Go.ChangeShapes Go.WideShapes Go.ChangeAt
set_option maxRecDepth 100000
theorem avC:yD Tryz.prog alD 8 25=some [.sl 3,.sl 4]:=by kernel_rfl
theorem avA:yD Tryz.prog alD 8 26=some [.sl 0]:=by kernel_rfl
theorem auZ:yD Tryz.prog alD 8 27=some [.sl 0]:=by kernel_rfl
theorem OB {H:Type} {enc:TypeId×Value→H} {W:World} {t:TypeId} {v:Value} {d:DataW H} {p:List MemPlace} {O6:List CK} (hf:yD Tryz.prog alD 8 t=some O6) (h:DataW.Trod enc Tryz.prog W 0 (fun _=>true) true t v d p) (hw:(d.weights Tryz.prog t).all (·≤reachBytes)=true) :
 ∃ds,Rs (YN W) W.heap O6 ds v.cells.toList:=by
 obtain⟨fuel,hx⟩:=h;exact TQ auA fuel t 8 O6 v.cells.toList (d,p) hf hx hw
theorem aDD:3350∈S.nums 4:=by
 have h:S.nums 4= [3350]:=by kernel_rfl
 rw [h];simp
theorem contract (H:Type) (enc:TypeId×Value→H) (W:World) (base:Nat) (args:Array Value) (ds gs:List (DataW H)) (before:List MemPlace)
 (hval: ∀(j:Nat) t v,Tryz.f4.params[j]?=some t→args[j]?=some v→Value.okWide Tryz.prog W .any base t v)
 (hW:DataW.Whole enc Tryz.prog Tryz.f4.params.toList Rows.kendoUpSpec.vars false W args.toList ds gs before)
 (hsz:(DataW.weightsEach Tryz.prog (Tryz.f4.params.toList++ []) (ds++gs)).all (·≤reachBytes)=true) (hsh:W.ShapedOpen Tryz.prog) :
 Calls Tryz.prog 4 args W fun e W'=> ∃v,e= .returned v∧Rows.kendoUpSpec.post enc Tryz.prog Tryz.f4 false true false false W args v W':=by
 have hW':=hW;obtain⟨p,q,hA0,hV,rfl,hfz,hnd⟩:=hW;have hA:DataW.TrodAll enc Tryz.prog W 0 (fun _=>true) true Tryz.f4.params.toList args.toList ds p:=hA0;rw [Tryz.params4] at hA hval hsz;obtain⟨v0,vs0,d0,ds0,p0,q0,hargs,rfl,rfl,h0,r0⟩:=trodAll_cons hA;obtain⟨v1,vs1,d1,ds1,p1,q1,rfl,rfl,rfl,h1,r1⟩:=trodAll_cons r0;obtain⟨v2,vs2,d2,ds2,p2,q2,rfl,rfl,rfl,h2,r2⟩:=trodAll_cons r1;obtain⟨rfl,rfl,rfl⟩:=trodAll_nil r2;obtain rfl:args= #[v0,v1,v2]:=by cases args; simp_all
 obtain⟨rfl,rfl⟩:=trodVars_none hV;clear hA0;simp only [List.append_nil] at hW';have hlt: ∀x∈p0++(p1++p2),x.block < W.heap.size:=fun x hx=>by simpa using hW'.lt x (by simpa using hx)
 have hlt0: ∀x∈p0,x.block < W.heap.size:=fun x hx=>hlt x (List.mem_append_left _ hx);have hlt1: ∀x∈p1,x.block < W.heap.size:=fun x hx=>hlt x (List.mem_append_right _ (List.mem_append_left _ hx));have hlt2: ∀x∈p2,x.block < W.heap.size:=fun x hx=>hlt x (List.mem_append_right _ (List.mem_append_right _ hx))
 have hsz':(d0.weights Tryz.prog 25).all (·≤reachBytes)=true∧(d1.weights Tryz.prog 26).all (·≤reachBytes)=true∧(d2.weights Tryz.prog 27).all (·≤reachBytes)=true:=by have:(DataW.weightsEach Tryz.prog [25,26,27] [d0,d1,d2]).all (·≤reachBytes)=true:=hsz;simp only [DataW.weightsEach,List.all_append,Bool.and_eq_true] at this;exact⟨this.1,this.2.1,this.2.2.1⟩
 obtain⟨es0,R0⟩:=OB avC h0 hsz'.1;obtain⟨es1,R1⟩:=OB avA h1 hsz'.2.1;obtain⟨es2,R2⟩:=OB auZ h2 hsz'.2.2;obtain⟨cs0,rfl,_⟩:=okWide_struct Tryz.underlying25 (hval 0 25 v0 rfl rfl);have e0:(Value.agg cs0).cells.toList=cs0.toList:=rfl;obtain⟨ad1,len1,cap1,rfl⟩:=okWide_slice Tryz.underlying26 (hval 1 26 v1 rfl rfl);have e1:(Value.slice ad1 len1 cap1).cells.toList= [.slice ad1 len1 cap1]:=rfl;obtain⟨ad2,len2,cap2,rfl⟩:=okWide_slice Tryz.underlying27 (hval 2 27 v2 rfl rfl);have e2:(Value.slice ad2 len2 cap2).cells.toList= [.slice ad2 len2 cap2]:=rfl;rw [e0] at R0;rw [e1] at R1;rw [e2] at R2
 match es0,hcs0:cs0.toList,R0 with
 | [x0,x1],[u0,u1],.cons r0_ w0 (.cons r1_ w1 .nil)=>
   obtain rfl:cs0= #[u0,u1]:=by rw [← Array.toArray_toList (xs:=cs0),hcs0]
   match es1,R1 with
   | [x2],.cons r2_ w2 .nil=>
     match es2,R2 with
     | [x3],.cons r3_ w3 .nil=> have hL:=aAM w0 w1 w2 x3;refine (arF (g:=4) (j:=3350) (e:=anM.ent) aDD (by kernel_rfl) rfl rfl hL hsh (vals:=[.agg [u0,u1].toArray,.slice ad1 len1 cap1,.slice ad2 len2 cap2]) (fl:=[u0,u1,.slice ad1 len1 cap1,.slice ad2 len2 cap2]) (.agg _ [u0,u1] rfl (.one _ _ (.one _ _ .nil))) ⟨_,_,_,_,rfl,rfl,GX r0_,_,_,_,_,rfl,rfl,GX r1_,_,_,_,_,rfl,rfl,GX r2_,_,_,_,_,rfl,rfl,GX r3_,rfl,rfl⟩).mono fun e W' ⟨he,hb⟩=>?_;subst he;exact⟨_,rfl,⟨_,_,_,[],_,[],hW',trodAll_mk1 (shut_bool Tryz.underlying4 _),trodAll_mk3 (Below.trod laidOut (by kernel_rfl) (of_decide_eq_true (by kernel_rfl)) h0 hb hlt0) (Below.trod laidOut (by kernel_rfl) (of_decide_eq_true (by kernel_rfl)) h1 hb hlt1) (Below.trod laidOut (by kernel_rfl) (of_decide_eq_true (by kernel_rfl)) h2 hb hlt2),rfl,hb.frame _,fun h=>by cases h⟩⟩
abbrev aaC:Array Value:=#[.agg #[.slice none 0 0,.slice none 0 0],.slice none 0 0,.slice none 0 0]
theorem laid_met (os:Os):laidMet Tryz.prog Rows.kendoUpRow.laid ((laidWorld os).forCall (fun _ _=>0) ⟨#[],aaC,[]⟩).memory:=
 laidMet_of_run' 8 (by kernel_rfl) (by kernel_rfl)
theorem reads (os:Os) {H:Type} (enc:TypeId×Value→H): ∃places,DataW.whole enc Tryz.prog ((laidWorld os).forCall (fun _ _=>0) ⟨#[],aaC,[]⟩).memory Tryz.f4.params.toList [] false aaC.toList 8=some ([.agg [.nil,.nil],.nil,.nil],[],places):=
 ⟨[],by kernel_rfl⟩
set_option maxHeartbeats 400000 in
theorem lifted (os:Os) (started:os.Started) (H:Type) (enc:TypeId×Value→H) (F:Stop.Interp) :
 ReturnsInHanded {} Tryz.checked os 4 .any ((OpenSpec.ofChange Rows.kendoUpSpec).preRow enc Tryz.prog Tryz.f4 Rows.kendoUpRow.domain false Rows.kendoUpRow.laid) (((OpenSpec.ofChange Rows.kendoUpSpec).at F).post enc Tryz.prog Tryz.f4 false true false false):=by
 obtain⟨places,hx⟩:=reads os enc
 refine returnsInHanded_of_row (C:=Tryz.checked) (s:=OpenSpec.ofChange Rows.kendoUpSpec) Try.own started (by kernel_rfl) Tryz.func4
  (witness_row_at (enc:=enc) (C:=Tryz.checked) false (laidWorld os) aaC rfl (by kernel_rfl) (by kernel_rfl) (by kernel_rfl)
   (OpenSpec.preRow_of_cond 8 hx (by kernel_rfl) (fun k hk=>by cases hk) (by kernel_rfl) (laid_met os))) ?_
 intro W base args ds gs before hval hW _ _ hsz _ hsh _;exact contract H enc W base args ds gs before hval hW hsz hsh
theorem jK {a b:Bool} (h1:a=true) (h2:b=true):(a && b)=true:=by rw [h1,h2]; rfl
theorem closed:joinedFacts Tryz.pinned.checked.prog 4 Tryz.f4 (OpenSpec.ofChange Rows.kendoUpSpec).bare Rows.kendoUpRow=true:=(jK (jK (jK (jK (jK (jK (jK (jK (jK (jK (jK (jK (jK (jK (jK (jK (jK (jK (jK (jK (jK (jK (jK (jK (jK (jK (jK (jK (jK (jK (jK (by kernel_rfl) (by kernel_rfl)) (by kernel_rfl)) (by kernel_rfl)) (by kernel_rfl)) (by kernel_rfl)) (by kernel_rfl)) (by kernel_rfl)) (by kernel_rfl)) (by kernel_rfl)) (by kernel_rfl)) (by kernel_rfl)) (by kernel_rfl)) (by kernel_rfl)) (by kernel_rfl)) (by kernel_rfl)) (by kernel_rfl)) (by kernel_rfl)) (by kernel_rfl)) (by kernel_rfl)) (by kernel_rfl)) (by kernel_rfl)) (by kernel_rfl)) (by kernel_rfl)) (by kernel_rfl)) (by kernel_rfl)) (by kernel_rfl)) (by kernel_rfl)) (by kernel_rfl)) (by kernel_rfl)) (by kernel_rfl)) (by kernel_rfl))
theorem said:Rows.KendoUpSaid:=
 OpenClaim.holds_of_cond 4 Tryz.f4 rfl rfl rfl rfl rfl rfl rfl ⟨rfl,rfl,rfl,rfl,rfl⟩ rfl rfl rfl rfl rfl (by kernel_rfl) Tryz.func4 closed
  (of_decide_eq_true (by kernel_rfl)) (by unfold Func.isWrapper; first | (rw [if_pos (by decide +kernel)]; kernel_rfl) | (rw [if_neg (by decide +kernel)]; exact⟨rfl,rfl⟩))
  (fun os started H enc _ F=>by rw [OpenClaim.pre_eq_preRow]; exact lifted os started H enc F)
theorem plain (f:FuncId) (fn:Func) (hf:Tryz.pinned.checked.prog.funcNamed "amanuensis/amanuensislaw18.KendoUp" = some f) (hfn:Tryz.pinned.checked.prog.funcs[f]?=some fn) :
 false=Tryz.pinned.checked.prog.looks []∧∀(j:Nat) t,fn.params[j]?=some t→Tryz.pinned.checked.prog.wantsStandIn t=false:=by
 obtain rfl:f=4:=Option.some.inj ((show Tryz.prog.funcNamed "amanuensis/amanuensislaw18.KendoUp" = some 4 by kernel_rfl).symm.trans hf) |>.symm;obtain rfl:fn=Tryz.f4:=(Option.some.inj (Tryz.func4.symm.trans hfn)).symm;refine⟨by kernel_rfl,fun j t ht=>?_⟩;rw [Tryz.params4] at ht;have hm:=Array.mem_of_getElem? ht;simp only [List.mem_toArray,List.mem_cons,List.not_mem_nil,or_false] at hm;rcases hm with rfl | rfl | rfl
 all_goals exact (by kernel_rfl:Tryz.prog.wantsStandIn _=false)
theorem card:Rows.KendoUpCardSaid:=
 Claim7.holds_tied_plain_at .later [] _ _ _ _ said (fun _ h=>by cases h) (by kernel_rfl) (fun _ h=>by cases h) kendoUp_row_tie rfl ⟨rfl,rfl⟩ (by kernel_rfl) rfl plain (by kernel_rfl)
end Go.Proofs.YtmmdeeeifpepjabGreatDoor.fnKendoUp
end

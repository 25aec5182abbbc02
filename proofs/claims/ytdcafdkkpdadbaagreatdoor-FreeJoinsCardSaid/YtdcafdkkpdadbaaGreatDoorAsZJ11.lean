/-
  Proved: the given card of the law FreeJoins: whatever the input, the call returns true and each argument reads afterwards as it did. Conditions: those of the given row alone (its listed package-level variables start as the program's text lays them; each string, slice and map that is handed in lies within a process's addresses).
-/
import Derived.Test.YtdcafdkkpdadbaaGreatDoorAsZJ10
set_option linter.unusedSectionVars false
set_option linter.unusedVariables false
set_option linter.unusedSimpArgs false
section
namespace Go.Proofs.YtdcafdkkpdadbaaGreatDoor.fnFreeJoins
open Go hiding Stat
open Go.As Go.As.Try Go.Proofs Go.RowKit Go.ChangeShapes Go.WideShapes Go.ChangeAt
set_option maxRecDepth 100000
theorem atG:xY Tryz.prog ajZ 8 25=some [.sl 3,.sl 4]:=by kernel_rfl
theorem atF:xY Tryz.prog ajZ 8 27=some [.sl 0,.sl 0]:=by kernel_rfl
theorem aAO:xY Tryz.prog ajZ 8 5=some [.int .u8]:=by kernel_rfl
theorem Oi {H:Type} {enc:TypeId×Value→H} {W:World} {t:TypeId} {v:Value} {d:DataW H} {p:List MemPlace} {OQ:List CK} (hf:xY Tryz.prog ajZ 8 t=some OQ) (h:DataW.Trod enc Tryz.prog W 0 (fun _=>true) true t v d p) (hw:(d.weights Tryz.prog t).all (·≤reachBytes)=true) :
 ∃ds,Rs (Xx W) W.heap OQ ds v.cells.toList:=by
 obtain⟨fuel,hx⟩:=h
 exact Tj asH fuel t 8 OQ v.cells.toList (d,p) hf hx hw
theorem aCX:2500∈S.nums 3:=by
 have h:S.nums 3= [2500]:=by kernel_rfl
 rw [h]
 simp
theorem contract (H:Type) (enc:TypeId×Value→H) (W:World) (base:Nat) (args:Array Value) (ds gs:List (DataW H)) (before:List MemPlace)
 (hval: ∀(j:Nat) t v,Tryz.f3.params[j]?=some t→args[j]?=some v→Value.okWide Tryz.prog W .any base t v)
 (hW:DataW.Whole enc Tryz.prog Tryz.f3.params.toList Rows.freeJoinsSpec.vars false W args.toList ds gs before)
 (hsz:(DataW.weightsEach Tryz.prog (Tryz.f3.params.toList++ []) (ds++gs)).all (·≤reachBytes)=true) (hsh:W.ShapedOpen Tryz.prog) :
 Calls Tryz.prog 3 args W fun e W'=> ∃v,e= .returned v∧Rows.freeJoinsSpec.post enc Tryz.prog Tryz.f3 false true false false W args v W':=by
 have hW':=hW
 obtain⟨p,q,hA0,hV,rfl,hfz,hnd⟩:=hW
 have hA:DataW.TrodAll enc Tryz.prog W 0 (fun _=>true) true Tryz.f3.params.toList args.toList ds p:=hA0
 rw [Tryz.params3] at hA hval hsz
 obtain⟨v0,vs0,d0,ds0,p0,q0,hargs,rfl,rfl,h0,r0⟩:=trodAll_cons hA
 obtain⟨v1,vs1,d1,ds1,p1,q1,rfl,rfl,rfl,h1,r1⟩:=trodAll_cons r0
 obtain⟨v2,vs2,d2,ds2,p2,q2,rfl,rfl,rfl,h2,r2⟩:=trodAll_cons r1
 obtain⟨rfl,rfl,rfl⟩:=trodAll_nil r2
 obtain rfl:args= #[v0,v1,v2]:=by cases args; simp_all
 obtain⟨rfl,rfl⟩:=trodVars_none hV
 clear hA0
 simp only [List.append_nil] at hW'
 have hlt: ∀x∈p0++(p1++p2),x.block < W.heap.size:=fun x hx=>by simpa using hW'.lt x (by simpa using hx)
 have hlt0: ∀x∈p0,x.block < W.heap.size:=fun x hx=>hlt x (List.mem_append_left _ hx)
 have hlt1: ∀x∈p1,x.block < W.heap.size:=fun x hx=>hlt x (List.mem_append_right _ (List.mem_append_left _ hx))
 have hlt2: ∀x∈p2,x.block < W.heap.size:=fun x hx=>hlt x (List.mem_append_right _ (List.mem_append_right _ hx))
 have hsz':(d0.weights Tryz.prog 25).all (·≤reachBytes)=true∧(d1.weights Tryz.prog 27).all (·≤reachBytes)=true∧(d2.weights Tryz.prog 5).all (·≤reachBytes)=true:=by
  have:(DataW.weightsEach Tryz.prog [25,27,5] [d0,d1,d2]).all (·≤reachBytes)=true:=hsz
  simp only [DataW.weightsEach,List.all_append,Bool.and_eq_true] at this
  exact⟨this.1,this.2.1,this.2.2.1⟩
 obtain⟨es0,R0⟩:=Oi atG h0 hsz'.1
 obtain⟨es1,R1⟩:=Oi atF h1 hsz'.2.1
 obtain⟨es2,R2⟩:=Oi aAO h2 hsz'.2.2
 obtain⟨cs0,rfl,_⟩:=okWide_struct Tryz.underlying25 (hval 0 25 v0 rfl rfl)
 have e0:(Value.agg cs0).cells.toList=cs0.toList:=rfl
 obtain⟨cs1,rfl,_⟩:=TD Tryz.underlying27 (hval 1 27 v1 rfl rfl)
 have e1:(Value.agg cs1).cells.toList=cs1.toList:=rfl
 obtain⟨z2,rfl⟩:=okWide_int Tryz.underlying5 (hval 2 5 v2 rfl rfl)
 have e2:(Value.int .u8 z2).cells.toList= [.int .u8 z2]:=rfl
 rw [e0] at R0
 rw [e1] at R1
 rw [e2] at R2
 match es0,hcs0:cs0.toList,R0 with
 | [x0,x1],[u0,u1],.cons r0_ w0 (.cons r1_ w1 .nil)=>
   obtain rfl:cs0= #[u0,u1]:=by rw [← Array.toArray_toList (xs:=cs0),hcs0]
   match es1,hcs1:cs1.toList,R1 with
   | [x2,x3],[u2,u3],.cons r2_ w2 (.cons r3_ w3 .nil)=>
     obtain rfl:cs1= #[u2,u3]:=by rw [← Array.toArray_toList (xs:=cs1),hcs1]
     match es2,R2 with
     | [x4],.cons r4_ w4 .nil=>
       obtain⟨n4,rfl,h4_⟩:=w4.i
       have q4:Am (Xx W) W.heap (.int .u8) n4 (.int .u8 z2):=by cases r4_; rfl
       have hL:=afE w0 w1 h4_ x2 x3
       refine (apV (g:=3) (j:=2500) (e:=amI.ent) aCX (by kernel_rfl) rfl rfl hL hsh (vals:=[.agg [u0,u1].toArray,.agg [u2,u3].toArray,.int .u8 z2]) (fl:=[u0,u1,u2,u3,.int .u8 z2]) (.agg _ [u0,u1] rfl (.agg _ [u2,u3] rfl (.one _ _ .nil))) ⟨_,_,_,_,rfl,rfl,GH r0_,_,_,_,_,rfl,rfl,GH r1_,_,_,_,_,rfl,rfl,GH r2_,_,_,_,_,rfl,rfl,GH r3_,_,_,_,_,rfl,rfl,q4,rfl,rfl⟩).mono fun e W' ⟨he,hb⟩=>?_
       subst he
       exact⟨_,rfl,⟨_,_,_,[],_,[],hW',trodAll_mk1 (shut_bool Tryz.underlying4 _),trodAll_mk3 (Below.trod laidOut (by kernel_rfl) (of_decide_eq_true (by kernel_rfl)) h0 hb hlt0) (Below.trod laidOut (by kernel_rfl) (of_decide_eq_true (by kernel_rfl)) h1 hb hlt1) (Below.trod laidOut (by kernel_rfl) (of_decide_eq_true (by kernel_rfl)) h2 hb hlt2),rfl,hb.frame _,fun h=>by cases h⟩⟩
abbrev ZR:Array Value:=#[.agg #[.slice none 0 0,.slice none 0 0],.agg #[.slice none 0 0,.slice none 0 0],.int .u8 0]
theorem laid_met (os:Os):laidMet Tryz.prog Rows.freeJoinsRow.laid ((laidWorld os).forCall (fun _ _=>0) ⟨#[],ZR,[]⟩).memory:=
 laidMet_of_run' 8 (by kernel_rfl) (by kernel_rfl)
theorem reads (os:Os) {H:Type} (enc:TypeId×Value→H): ∃places,DataW.whole enc Tryz.prog ((laidWorld os).forCall (fun _ _=>0) ⟨#[],ZR,[]⟩).memory Tryz.f3.params.toList [] false ZR.toList 8=some ([.agg [.nil,.nil],.agg [.nil,.nil],.lit (.int .u8 0)],[],places):=
 ⟨[],by kernel_rfl⟩
set_option maxHeartbeats 400000 in
theorem lifted (os:Os) (started:os.Started) (H:Type) (enc:TypeId×Value→H) (F:Stop.Interp) :
 ReturnsInHanded {} Tryz.checked os 3 .any ((OpenSpec.ofChange Rows.freeJoinsSpec).preRow enc Tryz.prog Tryz.f3 Rows.freeJoinsRow.domain false Rows.freeJoinsRow.laid) (((OpenSpec.ofChange Rows.freeJoinsSpec).at F).post enc Tryz.prog Tryz.f3 false true false false):=by
 obtain⟨places,hx⟩:=reads os enc
 refine returnsInHanded_of_row (C:=Tryz.checked) (s:=OpenSpec.ofChange Rows.freeJoinsSpec) Try.own started (by kernel_rfl) Tryz.func3
  (witness_row_at (enc:=enc) (C:=Tryz.checked) false (laidWorld os) ZR rfl (by kernel_rfl) (by kernel_rfl) (by kernel_rfl)
   (OpenSpec.preRow_of_cond 8 hx (by kernel_rfl) (fun k hk=>by cases hk) (by kernel_rfl) (laid_met os))) ?_
 intro W base args ds gs before hval hW _ _ hsz _ hsh _
 exact contract H enc W base args ds gs before hval hW hsz hsh
theorem jL {a b:Bool} (h1:a=true) (h2:b=true):(a && b)=true:=by rw [h1,h2]; rfl
theorem aDZ:Rows.freeJoinsRow.wf (OpenSpec.ofChange (OpenSpec.ofChange Rows.freeJoinsSpec).bare)=true:=by kernel_rfl
theorem aDY:laidOutB Tryz.pinned.checked.prog=true:=by kernel_rfl
theorem aDX:mapsRowed Tryz.pinned.checked.prog=true:=by kernel_rfl
theorem aDW:Tryz.f3.params.all (Tryz.pinned.checked.prog.readableRec ·)=true:=by kernel_rfl
theorem aDV:namedTie Tryz.pinned.checked.prog Rows.freeJoinsRow.named (OpenSpec.ofChange Rows.freeJoinsSpec).bare.vars=true:=by kernel_rfl
theorem aDU:(Rows.freeJoinsRow.stops == [])=true:=by kernel_rfl
theorem aDT:(Tryz.pinned.checked.prog.stops == [])=true:=by kernel_rfl
theorem aDS:(Rows.freeJoinsRow.knobs == [])=true:=by kernel_rfl
theorem aDR:(Tryz.pinned.checked.prog.stopKnobs == [])=true:=by kernel_rfl
theorem aDQ:(Rows.freeJoinsRow.inPlace == Tryz.pinned.checked.prog.inPlace 3)=true:=by kernel_rfl
theorem aBK:(Rows.freeJoinsRow.unfollowed == Tryz.pinned.checked.prog.unfollowed 3)=true:=by kernel_rfl
theorem aBJ:(Rows.freeJoinsRow.recurses == Tryz.pinned.checked.prog.recurses 3)=true:=by kernel_rfl
theorem aBI:(Rows.freeJoinsRow.named == Tryz.pinned.checked.prog.varsNamed 3)=true:=by kernel_rfl
theorem aBH:(Rows.freeJoinsRow.maps == (Tryz.f3.params.toList++(OpenSpec.ofChange Rows.freeJoinsSpec).bare.plain.varTypes Tryz.pinned.checked.prog).any (Tryz.pinned.checked.prog.mapsRec ·))=true:=by kernel_rfl
theorem aBG:(Rows.freeJoinsRow.ifaces == (Tryz.f3.params.toList++(OpenSpec.ofChange Rows.freeJoinsSpec).bare.plain.varTypes Tryz.pinned.checked.prog).any (Tryz.pinned.checked.prog.ifacesRec ·))=true:=by kernel_rfl
theorem aBF:(Rows.freeJoinsRow.mapsOut == Tryz.pinned.checked.prog.mapsAmong Tryz.f3.resultTypes.toList)=true:=by kernel_rfl
theorem aBE:(Rows.freeJoinsRow.loops == (Tryz.f3.params.toList++(OpenSpec.ofChange Rows.freeJoinsSpec).bare.plain.varTypes Tryz.pinned.checked.prog).any (Tryz.pinned.checked.prog.loopsFrom ·))=true:=by kernel_rfl
theorem aBD:(Rows.freeJoinsRow.wideKeys == (Tryz.f3.params.toList++(OpenSpec.ofChange Rows.freeJoinsSpec).bare.plain.varTypes Tryz.pinned.checked.prog++Tryz.f3.resultTypes.toList).any (Tryz.pinned.checked.prog.wideKeysFrom ·))=true:=by kernel_rfl
theorem aBC:(OpenSpec.ofChange Rows.freeJoinsSpec).bare.vars.all (Tryz.pinned.checked.prog.varReadable ·)=true:=by kernel_rfl
theorem aBB:Tryz.f3.resultTypes.all (fun t=>Tryz.pinned.checked.prog.readableRec t && decide (t < Tryz.pinned.checked.prog.types.size))=true:=by kernel_rfl
theorem aBA:(Rows.freeJoinsRow.ifacesOut == Tryz.f3.resultTypes.toList.any (Tryz.pinned.checked.prog.ifacesRec ·))=true:=by kernel_rfl
theorem aBz:(Rows.freeJoinsRow.loopsOut == Tryz.f3.resultTypes.toList.any (Tryz.pinned.checked.prog.loopsFrom ·))=true:=by kernel_rfl
theorem aBy:(Rows.freeJoinsRow.plainKeys == Tryz.pinned.checked.prog.plainKeys)=true:=by kernel_rfl
theorem aBx:Rows.freeJoinsRow.shortTexts.isNone=true:=by kernel_rfl
theorem aBw:Tryz.pinned.checked.prog.stopsHeard=true:=by kernel_rfl
theorem aBv:Tryz.pinned.checked.prog.mayEnter=true:=by kernel_rfl
theorem aBu:(Rows.freeJoinsRow.lifted == Tryz.pinned.checked.prog.liftsFinal)=true:=by kernel_rfl
theorem aBt:(Tryz.pinned.checked.prog.make == some Rows.freeJoinsRow.make)=true:=by kernel_rfl
theorem aBs:(Rows.freeJoinsRow.kinds == (if Rows.freeJoinsRow.domain.isEmpty then [] else Tryz.f3.params.toList.map fun t=>match Tryz.pinned.checked.prog.underlying t with | some (.int k)=>some k | _=>none))=true:=by kernel_rfl
theorem aBr:(Rows.freeJoinsRow.pinned == Rows.freeJoinsRow.pinnedBy)=true:=by kernel_rfl
theorem aBq:(Rows.freeJoinsRow.veiled == (Tryz.f3.params.toList++(OpenSpec.ofChange Rows.freeJoinsSpec).bare.plain.varTypes Tryz.pinned.checked.prog++Tryz.f3.resultTypes.toList).any (Tryz.pinned.checked.prog.veiledRec ·))=true:=by kernel_rfl
theorem aBp:Rows.freeJoinsRow.veiledFits Tryz.pinned.checked.prog Tryz.f3.params.toList (Tryz.f3.params.toList++(OpenSpec.ofChange Rows.freeJoinsSpec).bare.plain.varTypes Tryz.pinned.checked.prog++Tryz.f3.resultTypes.toList)=true:=by kernel_rfl
theorem closed:joinedFacts Tryz.pinned.checked.prog 3 Tryz.f3 (OpenSpec.ofChange Rows.freeJoinsSpec).bare Rows.freeJoinsRow=true:=(jL (jL (jL (jL (jL (jL (jL (jL (jL (jL (jL (jL (jL (jL (jL (jL (jL (jL (jL (jL (jL (jL (jL (jL (jL (jL (jL (jL (jL (jL (jL aDZ aDY) aDX) aDW) aDV) aDU) aDT) aDS) aDR) aDQ) aBK) aBJ) aBI) aBH) aBG) aBF) aBE) aBD) aBC) aBB) aBA) aBz) aBy) aBx) aBw) aBv) aBu) aBt) aBs) aBr) aBq) aBp)
theorem said:Rows.FreeJoinsSaid:=
 OpenClaim.holds_of_cond 3 Tryz.f3 rfl rfl rfl rfl rfl rfl rfl ⟨rfl,rfl,rfl,rfl,rfl⟩ rfl rfl rfl rfl rfl (by kernel_rfl) Tryz.func3 closed
  (of_decide_eq_true (by kernel_rfl)) (by unfold Func.isWrapper; first | (rw [if_pos (by decide +kernel)]; kernel_rfl) | (rw [if_neg (by decide +kernel)]; exact⟨rfl,rfl⟩))
  (fun os started H enc _ F=>by rw [OpenClaim.pre_eq_preRow]; exact lifted os started H enc F)
theorem plain (f:FuncId) (fn:Func) (hf:Tryz.pinned.checked.prog.funcNamed "amanuensis/amanuensislaw17.FreeJoins" = some f) (hfn:Tryz.pinned.checked.prog.funcs[f]?=some fn) :
 false=Tryz.pinned.checked.prog.looks []∧∀(j:Nat) t,fn.params[j]?=some t→Tryz.pinned.checked.prog.wantsStandIn t=false:=by
 obtain rfl:f=3:=Option.some.inj ((show Tryz.prog.funcNamed "amanuensis/amanuensislaw17.FreeJoins" = some 3 by kernel_rfl).symm.trans hf) |>.symm
 obtain rfl:fn=Tryz.f3:=(Option.some.inj (Tryz.func3.symm.trans hfn)).symm
 refine⟨by kernel_rfl,fun j t ht=>?_⟩
 rw [Tryz.params3] at ht
 have hm:=Array.mem_of_getElem? ht
 simp only [List.mem_toArray,List.mem_cons,List.not_mem_nil,or_false] at hm
 rcases hm with rfl | rfl | rfl
 all_goals exact (by kernel_rfl:Tryz.prog.wantsStandIn _=false)
theorem card:Rows.FreeJoinsCardSaid:=
 Claim7.holds_tied_plain_at .later [] _ _ _ _ said (fun _ h=>by cases h) (by kernel_rfl) (fun _ h=>by cases h) freeJoins_row_tie rfl ⟨rfl,rfl⟩ (by kernel_rfl) rfl plain (by kernel_rfl)
end Go.Proofs.YtdcafdkkpdadbaaGreatDoor.fnFreeJoins
end

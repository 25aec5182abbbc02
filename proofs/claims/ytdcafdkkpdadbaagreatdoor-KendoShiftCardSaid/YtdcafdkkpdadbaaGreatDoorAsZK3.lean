import Derived.KernelRfl
import Derived.Test.YtdcafdkkpdadbaaGreatDoorProg
import Derived.Shelf.Strings.Search3
import Derived.Shelf.LaysM
import Derived.Shelf.Strings.Shaped
import Derived.Test.YtdcafdkkpdadbaaGreatDoorCards
import Derived.Test.YtdcafdkkpdadbaaGreatDoorTie
import Derived.ProofKit
import Derived.Deep.DeepHandedRow
import Derived.LaidLaws
import Derived.Test.YtdcafdkkpdadbaaGreatDoorAsZK2
set_option linter.unusedSectionVars false
set_option linter.unusedVariables false
set_option linter.unusedSimpArgs false
section
namespace Go.As
open Go Go.RowKit
theorem add_add (a:Addr) (m n:Nat):(a.add m).add n=a.add (m+n):=by
 unfold Addr.add
 by_cases h1:m=0
 ·subst h1; simp
 ·by_cases h2:n=0
  ·subst h2; simp
  ·simp [h1,h2,Nat.add_assoc]
def nZ (i:Nat):List CK:=match rowOf i with
 | .one c=>[c]
 | .many cs=>cs
def NP (F:TypeId→Option (List CK)) (P:Program):List Field→Nat→Nat→Option (List CK)
 | [],o,tot=>if o=tot then some [] else none
 | f :: fs,o,tot=>match F f.type with
   | none=>none
   | some cs=>if f.offset=o∧P.cellsOf f.type=cs.length then (match NP F P fs (o+cs.length) tot with
     | none=>none
     | some l=>some (cs++l)) else none
def yG (P:Program) (own:TypeId→Option Nat):Nat→TypeId→Option (List CK)
 | 0,_=>none
 | n+1,t=>match P.underlying t with
   | some .bool=>some [.bool]
   | some (.int k)=>some [.int k]
   | some .string=>some [.str]
   | some (.slice _)=>match own t with
     | some i=>some [.sl i]
     | none=>none
   | some (.struct fs)=>NP (yG P own n) P fs.toList 0 (P.cellsOf t)
   | some (.array m e)=>match yG P own n e with
     | some cs=>if P.cellsOf e=cs.length∧P.cellsOf t=m*cs.length then some (List.replicate m cs).flatten else none
     | none=>none
   | _=>none
def arZ (P:Program) (own:TypeId→Option Nat):Prop:= ∀t i,own t=some i→∃e n,P.underlying t=some (.slice e)∧yG P own n e=some (nZ i)∧P.cellsOf e=(nZ i).length∧vU i≤P.bytesOf e∧0 < (nZ i).length
inductive Rs (ro:Nat→Prop) (h:Array Obj):List CK→List D→List Value→Prop where
 | nil:Rs ro h [] [] []
 | cons {c:CK} {d:D} {v:Value} {cs:List CK} {ds:List D} {vs:List Value} (r:Rd ro h c d v) (w:Wd c d) (t:Rs ro h cs ds vs):Rs ro h (c :: cs) (d :: ds) (v :: vs)
section
variable {ro:Nat→Prop} {h:Array Obj}
theorem Rs.append {cs cs':List CK} {ds ds':List D} {vs vs':List Value} (a:Rs ro h cs ds vs) (b:Rs ro h cs' ds' vs'):Rs ro h (cs++cs') (ds++ds') (vs++vs'):=by
 induction a with
 | nil=>exact b
 | cons r w _ ih=>exact .cons r w ih
theorem Rs.len {cs:List CK} {ds:List D} {vs:List Value} (a:Rs ro h cs ds vs):ds.length=cs.length∧vs.length=cs.length:=by
 induction a with
 | nil=>exact⟨rfl,rfl⟩
 | cons r w _ ih=>exact⟨by simp [ih.1],by simp [ih.2]⟩
theorem Rs.at {cs:List CK} {ds:List D} {vs:List Value} (a:Rs ro h cs ds vs): ∀{j:Nat} {d:D} {c:CK},ds[j]?=some d→cs[j]?=some c→∃v,vs[j]?=some v∧Rd ro h c d v∧Wd c d:=by
 induction a with
 | nil=>intro j d c h1 _; simp at h1
 | cons r w _ ih=>
   intro j d c h1 h2
   cases j with
   | zero=>
     simp only [List.getElem?_cons_zero,Option.some.injEq] at h1 h2
     subst h1 h2
     exact⟨_,rfl,r,w⟩
   | succ j=>
     simp only [List.getElem?_cons_succ] at h1 h2
     obtain⟨v,h3,h4⟩:=ih h1 h2
     exact⟨v,by simpa using h3,h4⟩
end
theorem axJ {l:List Nat} {m:Nat} (h:l.all (·≤m)=true): ∀x∈l,x≤m:=fun x hx=>by simpa using List.all_eq_true.1 h x hx
theorem Y4 {l:List Nat} {m:Nat} (h: ∀x∈l,x≤m):l.all (·≤m)=true:=List.all_eq_true.2 fun x hx=>by simpa using h x hx
theorem axI {l l':List Nat} {m:Nat} (h:l.all (·≤m)=true) (s: ∀x∈l',x∈l):l'.all (·≤m)=true:=Y4 fun x hx=>axJ h x (s x hx)
theorem weightsAll_mem {H:Type} {P:Program} {e:TypeId}: ∀{l:List (DataW H)} {d:DataW H},d∈l→∀x∈d.weights P e,x∈DataW.weightsAll P e l
 | [],_,h,_,_=>by simp at h
 | d' :: l,d,h,x,hx=>by
   simp only [DataW.weightsAll,List.mem_append]
   rcases List.mem_cons.1 h with rfl | h
   ·exact .inl hx
   ·exact .inr (weightsAll_mem h x hx)
section
variable {P:Program} {own:TypeId→Option Nat} (ok:arZ P own) {H:Type} {en:TypeId×Value→H} {W:World}
abbrev X7 (W:World):Nat→Prop:=fun b=>b < W.heap.size
theorem aeD {b o:Nat} {v:Value} (h:W.cell? ⟨b,o,none⟩ = some v):b < W.heap.size:=by
 rw [sU] at h
 unfold hcell at h
 split at h
 ·rename_i hb
  exact (Array.getElem?_eq_some_iff.1 hb).1
 ·simp at h
def Reads (P:Program) (own:TypeId→Option Nat) (en:TypeId×Value→H) (W:World) (fuel:Nat):Prop:=
 ∀(t:TypeId) (n:Nat) (Pg:List CK) (cs:List Value) (x:DataW H×List MemPlace),yG P own n t=some Pg→DataW.trod en P W 0 (fun _=>true) true fuel t cs=some x→(x.1.weights P t).all (·≤reachBytes)=true→∃ds,Rs (X7 W) W.heap Pg ds cs
theorem Jl {fuel:Nat} (ih:Reads P own en W fuel) {n:Nat} {cs:List Value} {tot:Nat} (hl:cs.length=tot): ∀(fs:List Field) (o:Nat) (Pg:List CK) (xs:List (DataW H×List MemPlace)),NP (yG P own n) P fs o tot=some Pg→xs.length=fs.length→
 (∀(i:Nat) (f:Field),fs[i]?=some f→DataW.trod en P W 0 (fun _=>true) true fuel f.type ((cs.drop f.offset).take (P.cellsOf f.type))=xs[i]?)→
 (DataW.weightsEach P (fs.map (·.type)) (xs.map (·.1))).all (·≤reachBytes)=true→∃ds,Rs (X7 W) W.heap Pg ds (cs.drop o)
 | [],o,Pg,xs,hf,_,_,_=>by
   simp only [NP] at hf
   split at hf
   ·rename_i ho
    simp only [Option.some.injEq] at hf
    subst hf
    rw [List.drop_of_length_le (by omega)]
    exact⟨[],.nil⟩
   ·simp at hf
 | f :: fs,o,Pg,[],_,hx,_,_=>by simp at hx
 | f :: fs,o,Pg,x :: xs,hf,hx,ht,hw=>by
   simp only [NP] at hf
   split at hf
   ·simp at hf
   ·rename_i c1 h1
    split at hf
    ·rename_i ho
     split at hf
     ·simp at hf
     ·rename_i l hl2
      simp only [Option.some.injEq] at hf
      subst hf
      have h0:=ht 0 f rfl
      rw [ho.1,ho.2] at h0
      simp only [List.map_cons,DataW.weightsEach,List.all_append,Bool.and_eq_true] at hw
      obtain⟨ds,r1⟩:=ih f.type n c1 _ x h1 h0 hw.1
      obtain⟨ds',r2⟩:=Jl ih hl fs (o+c1.length) l xs hl2 (by simpa using hx) (fun i g hg=>ht (i+1) g (by simpa using hg)) hw.2
      refine⟨ds++ds',?_⟩
      have e:cs.drop o=(cs.drop o).take c1.length++cs.drop (o+c1.length):=by
       rw [← List.drop_drop,List.take_append_drop]
      rw [e]
      exact r1.append r2
    ·simp at hf
include ok in
theorem V7 {fuel:Nat} (ih:Reads P own en W fuel) {t e:TypeId} {i:Nat} (ht:P.underlying t=some (.slice e)) (ho:own t=some i) {cs:List Value} {x:DataW H×List MemPlace} (hx:DataW.trod en P W 0 (fun _=>true) true (fuel+1) t cs=some x) (hw:(x.1.weights P t).all (·≤reachBytes)=true) :
 ∃d v,cs= [v]∧Rd (X7 W) W.heap (.sl i) d v∧Wd (.sl i) d:=by
 obtain⟨e',nf,ht',hfl,hce,hby,hpos⟩:=ok t i ho
 rw [ht] at ht'
 simp only [Option.some.injEq,TypeDesc.slice.injEq] at ht'
 subst ht'
 rcases DataW.trod_slice ht hx with ⟨rfl,rfl⟩ | ⟨a,len,cap,elems,rest,n,hn,rfl,rfl,_,hlc,_,hlen,hel,_,_⟩
 ·exact⟨.i 1,_,rfl,.nil i,.nil i⟩
 ·simp only [Nat.succ.injEq] at hn
  subst hn
  rcases Nat.eq_zero_or_pos len with h0 | h0
  ·subst h0
   exact⟨.i 2,_,rfl,.non i a cap,.non i⟩
  ·simp only [DataW.weights,ht,List.all_cons,List.all_append,Bool.and_eq_true,decide_eq_true_eq,List.length_map] at hw
   have row: ∀k,k < len→∃cs ds,W.cells? 0 (a.add (k*(nZ i).length)) (nZ i).length=some cs∧Rs (X7 W) W.heap (nZ i) ds cs:=by
    intro k hk
    have he:=hel k hk
    rw [List.getElem?_eq_getElem (by omega),hce,Option.bind_eq_some_iff] at he
    obtain⟨cs,h1,h2⟩:=he
    obtain⟨ds,hr⟩:=ih e nf (nZ i) cs _ hfl h2 (axI hw.2.1 (weightsAll_mem (List.mem_map_of_mem (List.getElem_mem _))))
    exact⟨cs,ds,h1,hr⟩
   obtain⟨b,o,spot⟩:=a
   have hspot:spot=none:=by
    obtain⟨cs,ds,h1,hr⟩:=row 0 h0
    obtain⟨_,h4,h5⟩:=World.cells?_some h1
    have:=h5 0 hpos
    rw [List.getElem?_eq_getElem (by omega)] at this
    simpa [Addr.add] using World.cell?_spot this
   subst hspot
   have cell: ∀k,k < len→∃ds vs,Rs (X7 W) W.heap (nZ i) ds vs∧∀j,j < (nZ i).length→hcell W.heap b (o+k*(nZ i).length+j)=vs[j]?:=by
    intro k hk
    obtain⟨cs,ds,h1,hr⟩:=row k hk
    obtain⟨_,h4,h5⟩:=World.cells?_some h1
    refine⟨ds,cs,hr,fun j hj=>?_⟩
    have:=h5 j hj
    rw [add_add] at this
    have e2:(Addr.mk b o none).add (k*(nZ i).length+j)=⟨b,o+k*(nZ i).length+j,none⟩:=by simp [Addr.add,Nat.add_assoc]
    rw [e2,sU] at this
    exact this
   have hb:b < W.heap.size:=by
    obtain⟨ds,vs,hr,hc⟩:=cell 0 h0
    have:=hc 0 hpos
    rw [List.getElem?_eq_getElem (by rw [hr.len.2]; exact hpos),← sU] at this
    exact aeD this
   have ayR:len*vU i≤140737488351232:=by
    have h1:(elems.length+rest.length)*P.bytesOf e≤reachBytes:=hw.1
    have h2:len*vU i≤(elems.length+rest.length)*P.bytesOf e:=Nat.mul_le_mul (by omega) hby
    have h3:reachBytes=140737488351232:=rfl
    omega
   classical
   let ds:Nat→List D:=fun k=>if h:k < len then (cell k h).choose else []
   let vs:Nat→List Value:=fun k=>if h:k < len then (cell k h).choose_spec.choose else []
   have spec: ∀k,k < len→Rs (X7 W) W.heap (nZ i) (ds k) (vs k)∧∀j,j < (nZ i).length→hcell W.heap b (o+k*(nZ i).length+j)=(vs k)[j]?:=by
    intro k hk
    have e1:ds k=(cell k hk).choose:=dif_pos hk
    have e2:vs k=(cell k hk).choose_spec.choose:=dif_pos hk
    rw [e1,e2]
    exact (cell k hk).choose_spec.choose_spec
   have get: ∀{k:Nat} {r:List D},((List.range len).map ds)[k]?=some r→k < len∧r=ds k:=by
    intro k r hk
    rw [List.getElem?_map] at hk
    have hk':k < len:=by
     rcases Nat.lt_or_ge k len with h | h
     ·exact h
     ·rw [List.getElem?_eq_none (by simpa using h)] at hk; simp at hk
    rw [List.getElem?_range hk'] at hk
    simp only [Option.map_some,Option.some.injEq] at hk
    exact⟨hk',hk.symm⟩
   cases hrow:rowOf i with
   | one c=>
     have hks:nZ i= [c]:=by unfold nZ; rw [hrow]
     have aD5: ∀{k:Nat} {d:D},((List.range len).map fun k=>(ds k).headD (.i 0))[k]?=some d→k < len∧d=(ds k).headD (.i 0):=by
      intro k d hk
      rw [List.getElem?_map] at hk
      have hk':k < len:=by
       rcases Nat.lt_or_ge k len with h | h
       ·exact h
       ·rw [List.getElem?_eq_none (by simpa using h)] at hk; simp at hk
      rw [List.getElem?_range hk'] at hk
      simp only [Option.map_some,Option.some.injEq] at hk
      exact⟨hk',hk.symm⟩
     have sp1: ∀k,k < len→∃d v,ds k= [d]∧hcell W.heap b (o+k)=some v∧Rd (X7 W) W.heap c d v∧Wd c d:=by
      intro k hk
      obtain⟨hr,hc⟩:=spec k hk
      rw [hks] at hr hc
      match hdk:ds k,hvk:vs k,hr with
      | [d],[v],.cons r w .nil=>
        have:=hc 0 (by simp)
        rw [hvk] at this
        exact⟨d,v,rfl,by simpa using this,r,w⟩
     have e:len=((List.range len).map fun k=>(ds k).headD (.i 0)).length:=by simp
     have r:=Rd.one (ro:=X7 W) (h:=W.heap) i c b o cap ((List.range len).map fun k=>(ds k).headD (.i 0)) (fun k=>(vs k).headD undef) hrow (by rw [← e]; exact hlc) hb
      (fun k d hd=>by
       obtain⟨hk,rfl⟩:=aD5 hd
       obtain⟨hr,hc⟩:=spec k hk
       rw [hks] at hr hc
       have:=hc 0 (by simp)
       match hdk:ds k,hvk:vs k,hr with
       | [d],[v],.cons r w .nil=>
         rw [hvk] at this
         simpa using this)
      (fun k d hd=>by
       obtain⟨hk,rfl⟩:=aD5 hd
       obtain⟨hr,hc⟩:=spec k hk
       rw [hks] at hr
       match hdk:ds k,hvk:vs k,hr with
       | [d],[v],.cons r w .nil=>exact r)
     rw [← e] at r
     refine⟨_,_,rfl,r,.one i c _ hrow (fun h=>by have:=congrArg List.length h; simp at this; omega) (by rw [← e]; exact ayR) fun d hd=>?_⟩
     obtain⟨k,hk,rfl⟩:=List.mem_map.1 hd
     obtain⟨d,v,h1,_,_,w⟩:=sp1 k (by simpa using hk)
     rw [h1]
     exact w
   | many Pg=>
     have hks:nZ i=Pg:=by unfold nZ; rw [hrow]
     have e:len=((List.range len).map ds).length:=by simp
     have hlr: ∀r∈(List.range len).map ds,r.length=Pg.length:=by
      intro r hr
      obtain⟨k,hk,rfl⟩:=List.mem_map.1 hr
      have:=(spec k (by simpa using hk)).1.len.1
      rw [hks] at this
      exact this
     have r:=Rd.many (ro:=X7 W) (h:=W.heap) i Pg b o cap ((List.range len).map ds) (fun k j=>((vs k)[j]?).getD undef) hrow (by rw [← e]; exact hlc) hb hlr
      (fun k r j d hr hj=>by
       obtain⟨hk,rfl⟩:=get hr
       obtain⟨hrs,hc⟩:=spec k hk
       rw [hks] at hrs hc
       have hj':j < Pg.length:=by
        have:=(List.getElem?_eq_some_iff.1 hj).1
        rw [hrs.len.1] at this
        exact this
       rw [hc j hj',List.getElem?_eq_getElem (by rw [hrs.len.2]; exact hj')]
       rfl)
      (fun k r j d c hr hj hcj=>by
       obtain⟨hk,rfl⟩:=get hr
       obtain⟨hrs,hc⟩:=spec k hk
       rw [hks] at hrs
       obtain⟨v,h1,h2,_⟩:=hrs.at hj hcj
       show Rd (X7 W) W.heap c d (((vs k)[j]?).getD undef)
       rw [h1]
       exact h2)
     rw [← e] at r
     refine⟨_,_,rfl,r,.many i Pg _ hrow (fun h=>by have:=congrArg List.length h; simp at this; omega) (by rw [← e]; exact ayR) hlr fun r hr j d c hj hcj=>?_⟩
     obtain⟨k,hk,rfl⟩:=List.mem_map.1 hr
     have hrs:=(spec k (by simpa using hk)).1
     rw [hks] at hrs
     obtain⟨v,_,_,h3⟩:=hrs.at hj hcj
     exact h3
theorem MF {fuel:Nat} (ih:Reads P own en W fuel) {n:Nat} {cs:List Value} {e:TypeId} {c1:List CK} (h1:yG P own n e=some c1): ∀(xs:List (DataW H×List MemPlace)) (i:Nat),cs.length=(i+xs.length)*c1.length→
 (∀(j:Nat),j < xs.length→DataW.trod en P W 0 (fun _=>true) true fuel e ((cs.drop ((i+j)*c1.length)).take c1.length)=xs[j]?)→
 (DataW.weightsAll P e (xs.map (·.1))).all (·≤reachBytes)=true→∃ds,Rs (X7 W) W.heap (List.replicate xs.length c1).flatten ds (cs.drop (i*c1.length))
 | [],i,hl,_,_=>by
   rw [List.drop_of_length_le (by rw [hl]; simp)]
   exact⟨[],.nil⟩
 | x :: xs,i,hl,ht,hw=>by
   have h0:=ht 0 (by simp)
   rw [Nat.add_zero] at h0
   simp only [List.map_cons,DataW.weightsAll,List.all_append,Bool.and_eq_true] at hw
   obtain⟨ds,r1⟩:=ih e n c1 _ x h1 h0 hw.1
   obtain⟨ds',r2⟩:=MF ih h1 xs (i+1) (by rw [hl,List.length_cons]; congr 1; omega) (fun j hj=>by
    have:=ht (j+1) (by simpa using hj)
    rw [show i+1+j=i+(j+1) by omega]
    simpa using this) hw.2
   refine⟨ds++ds',?_⟩
   have e1:cs.drop (i*c1.length)=(cs.drop (i*c1.length)).take c1.length++cs.drop ((i+1)*c1.length):=by
    rw [Nat.succ_mul,← List.drop_drop,List.take_append_drop]
   rw [e1,List.length_cons,List.replicate_succ,List.flatten_cons]
   exact r1.append r2
include ok in
theorem TW: ∀fuel:Nat,Reads P own en W fuel
 | 0=>fun t n Pg cs x _ hx _=>by simp [DataW.trod] at hx
 | fuel+1=>fun t n Pg cs x hf hx hw=>by
   cases n with
   | zero=>simp [yG] at hf
   | succ n=>
     unfold yG at hf
     split at hf
     ·rename_i ht
      simp only [Option.some.injEq] at hf
      subst hf
      obtain⟨b,rfl,_⟩:=DataW.trod_bool ht hx
      exact⟨_,.cons (.bool b) (.bool b) .nil⟩
     ·rename_i k ht
      simp only [Option.some.injEq] at hf
      subst hf
      obtain⟨z,rfl,_,hwf⟩:=DataW.trod_int ht hx
      refine⟨_,.cons (.int k z) (.int k z ?_) .nil⟩
      simp only [Lit.wf,Bool.and_eq_true,decide_eq_true_eq] at hwf
      cases k <;> first | exact hwf | trivial
     ·rename_i ht
      simp only [Option.some.injEq] at hf
      subst hf
      obtain⟨s,rfl,rfl,_⟩:=DataW.trod_string ht hx
      refine⟨_,.cons (.str s) (.str s ?_) .nil⟩
      simp only [DataW.weights,List.all_cons,List.all_nil,Bool.and_true,decide_eq_true_eq] at hw
      exact hw
     ·rename_i e ht
      split at hf
      ·rename_i i ho
       simp only [Option.some.injEq] at hf
       subst hf
       obtain⟨d,v,rfl,r,w⟩:=V7 ok (TW fuel) ht ho hx hw
       exact⟨_,.cons r w .nil⟩
      ·simp at hf
     ·rename_i fs ht
      obtain⟨xs,m,hm,rfl,hl,hxl,hxs⟩:=DataW.trod_struct ht hx
      simp only [Nat.succ.injEq] at hm
      subst hm
      have hw':(DataW.weightsEach P (fs.toList.map (·.type)) (xs.map (·.1))).all (·≤reachBytes)=true:=by
       simp only [DataW.weights,ht] at hw
       exact hw
      have:=Jl (TW fuel) hl fs.toList 0 Pg xs hf (by simpa using hxl) (fun i f hi=>hxs i f (by simpa using hi)) hw'
      simpa using this
     ·rename_i m e ht
      split at hf
      ·rename_i c1 h1
       split at hf
       ·rename_i hce
        simp only [Option.some.injEq] at hf
        subst hf
        obtain⟨xs,m',hm,rfl,hl,hxl,hxs⟩:=DataW.trod_array ht hx
        simp only [Nat.succ.injEq] at hm
        subst hm
        subst hxl
        have hw':(DataW.weightsAll P e (xs.map (·.1))).all (·≤reachBytes)=true:=by
         simp only [DataW.weights,ht] at hw
         exact hw
        rw [hce.2] at hl
        have:=MF (TW fuel) h1 xs 0 (by rw [hl,Nat.zero_add]) (fun j hj=>by
         rw [Nat.zero_add]
         have:=hxs j hj
         rw [hce.1] at this
         exact this) hw'
        simpa using this
       ·simp at hf
      ·simp at hf
     ·simp at hf
end
end Go.As
end
section
namespace Go.As.Try
open Go hiding Stat
open Go.As Go.Proofs
set_option maxRecDepth 100000
abbrev nO {α:Type} (l r:Tr α):Tr α:=.node none l r
abbrev nS {α:Type} (v:α) (l r:Tr α):Tr α:=.node (some v) l r
abbrev nL {α:Type} (v:α):Tr α:=.node (some v) .nil .nil
abbrev hP (m n:Nat) (l:List Nat):JQ:=⟨m,.pa,n,l⟩
abbrev hR (m n:Nat) (l:List Nat):JQ:=⟨m,.r,n,l⟩
abbrev hE (m n:Nat) (l:List Nat):JQ:=⟨m,.e,n,l⟩
abbrev tF:TI:=⟨.func,1,8,[.yZ],false,none⟩
abbrev zI:AV:=.int .i64 (.lit 0)
abbrev zU:AV:=.int .u8 (.lit 0)
def tab:Tr TI:=(nO (nS tF (nS ⟨.int .i64,1,8,[zI],false,none⟩ (nS ⟨.struct [(0,2,1),(1,3,1),(2,4,1),(3,6,1)],4,24,[zI,zI,.bool (.lit false),zU],true,none⟩ (nS ⟨.pointer 295,1,8,[.jJ],false,none⟩ (nS ⟨.slice 114,1,24,[.aC],false,none⟩ (nS ⟨.int .u8,1,1,[zU],false,none⟩ (nS tF (nL tF) .nil) (nL tF)) (nO (nS tF (nL ⟨.array 65 5,65,65,(repeatL [zU] 65),false,none⟩) .nil) (nL tF))) (nS ⟨.slice 2,1,24,[.aC],false,none⟩ (nS ⟨.struct [(0,25,2),(2,34,2),(4,77,1)],5,104,[.aC,.aC,.aC,.aC,.yZ],false,none⟩ (nS tF (nL tF) .nil) (nL ⟨.struct [(0,206,1),(1,37,1),(2,9,1),(3,9,1),(4,2,1),(5,64,1),(6,154,1),(7,154,1),(8,3,1)],9,128,[zU,zU,.str [],.str [],zI,.aC,.aC,.aC,zI],false,none⟩)) (nS tF (nS tF (nL ⟨.int .i32,1,4,[.int .i32 (.lit (0))],false,none⟩) .nil) (nL tF)))) (nS ⟨.slice 62,1,24,[.aC],false,none⟩ (nS ⟨.struct [(0,3,1),(1,37,1),(2,3,1),(3,2,1),(4,2,1)],5,40,[zI,zU,zI,zI,zI],true,none⟩ (nS tF (nS tF (nL tF) .nil) (nL tF)) (nS ⟨.struct [(0,22,1),(1,101,1)],2,48,[.aC,.aC],false,none⟩ (nS ⟨.struct [(0,165,1),(1,62,3),(4,3,1)],5,80,[.mD,.str [],.aC,.aC,zI],false,none⟩ (nL ⟨.struct [(0,17,1),(1,17,1),(2,17,1),(3,9,1)],4,40,[.jJ,.jJ,.jJ,.str []],false,none⟩) .nil) (nL ⟨.struct [(0,4,1)],1,1,[.bool (.lit false)],true,none⟩))) (nS tF (nS ⟨.pointer 34,1,8,[.jJ],false,none⟩ (nS tF (nL tF) .nil) (nL ⟨.struct [(0,214,1),(1,165,1)],2,16,[.mD,.mD],false,none⟩)) (nS tF .nil (nL tF))))) (nS ⟨.string,1,16,[.str []],false,none⟩ (nS ⟨.struct [(0,17,1)],1,8,[.jJ],false,none⟩ (nO (nS ⟨.int .u8,1,1,[zU],false,none⟩ (nS ⟨.map 3 142,1,8,[.mD],false,none⟩ (nL tF) .nil) (nL ⟨.struct [(0,3,1),(1,193,1),(2,2,1),(3,2,1),(4,4,1),(5,47,1)],6,64,[zI,.mD,zI,zI,.bool (.lit false),.aC],false,none⟩)) (nO (nS tF (nL tF) .nil) (nL tF))) (nS ⟨.struct [(0,34,2),(2,47,1)],3,72,[.aC,.aC,.aC],false,none⟩ (nS ⟨.struct [(0,37,1),(1,3,1),(2,2,1),(3,2,1)],4,32,[zU,zI,zI,zI],true,none⟩ (nS ⟨.struct [(0,145,1),(1,9,1),(2,2,1),(3,3,1),(4,3,1),(5,3,1)],6,56,[zU,.str [],zI,zI,zI,zI],true,none⟩ (nL ⟨.array 2 59,2,48,[.aC,.aC],false,none⟩) .nil) (nL tF)) (nS tF (nL ⟨.pointer 181,1,8,[.jJ],false,none⟩) (nL tF)))) (nS ⟨.array 2 26,2,48,[.aC,.aC],false,none⟩ (nS tF (nS tF (nO (nL tF) .nil) .nil) (nS tF (nS tF (nL ⟨.int .u8,1,1,[zU],false,none⟩) .nil) (nL tF))) (nS ⟨.slice 9,1,24,[.aC],false,none⟩ (nS ⟨.struct [(0,3,1),(1,47,1),(2,37,1),(3,3,1),(4,2,1),(5,2,1)],6,64,[zI,.aC,zU,zI,zI,zI],false,none⟩ (nS ⟨.struct [(0,9,1),(1,154,1),(2,3,1)],3,48,[.str [],.aC,zI],false,none⟩ (nL ⟨.int .u64,1,8,[.int .u64 (.lit (0))],false,none⟩) .nil) (nL tF)) (nS tF .nil (nL tF)))))) (nS ⟨.int .u8,1,1,[zU],false,none⟩ (nS ⟨.string,1,16,[.str []],false,none⟩ (nS ⟨.pointer 306,1,8,[.jJ],false,none⟩ (nS ⟨.struct [(0,31,1),(1,32,1)],2,48,[.aC,.aC],false,none⟩ (nS ⟨.struct [(0,63,1),(1,37,1),(2,3,1),(3,3,1),(4,3,1),(5,2,1),(6,64,1)],7,64,[zU,zU,zI,zI,zI,zI,.aC],false,none⟩ (nS tF (nL tF) .nil) (nL ⟨.map 3 3,1,8,[.mD],false,none⟩)) (nS tF (nL ⟨.struct [(0,3,1),(1,4,1),(2,4,1)],3,16,[zI,.bool (.lit false),.bool (.lit false)],true,none⟩) (nL tF))) (nS ⟨.struct [(0,26,1),(1,2,1)],2,32,[.aC,zI],false,none⟩ (nS tF (nS ⟨.int .u8,1,1,[zU],false,none⟩ (nL tF) .nil) (nL tF)) (nS ⟨.struct [(0,3,1),(1,2,1),(2,4,1),(3,2,1),(4,26,1),(5,47,1)],6,80,[zI,zI,.bool (.lit false),zI,.aC,.aC],false,none⟩ (nS tF (nL ⟨.struct [(0,12,1),(1,12,1),(2,286,1),(3,299,1),(4,5,1),(5,5,1),(6,300,1),(7,301,1),(8,302,1),(9,303,1),(10,304,1)],11,48,[.int .u64 (.lit (0)),.int .u64 (.lit (0)),.int .u32 (.lit (0)),zU,zU,zU,zU,.yZ,.jJ,.int .i32 (.lit (0)),.int .i32 (.lit (0))],false,none⟩) .nil) (nL ⟨.array 256 5,256,256,(repeatL [zU] 256),false,none⟩)))) (nS ⟨.struct [(0,22,1),(1,23,1)],2,48,[.aC,.aC],false,none⟩ (nO (nS tF (nS ⟨.struct [(0,134,1),(1,9,1),(2,2,1),(3,9,1),(4,3,1)],5,56,[zU,.str [],zI,.str [],zI],true,none⟩ (nL tF) .nil) (nL tF)) (nS ⟨.struct [(0,52,1),(1,3,1)],2,16,[zI,zI],true,none⟩ (nS tF (nL ⟨.struct [(0,296,0)],0,0,[],false,none⟩) .nil) (nL ⟨.map 9 2,1,8,[.mD],false,none⟩))) (nS tF (nS tF (nS tF (nL tF) .nil) (nL tF)) (nS ⟨.map 63 1,1,8,[.mD],false,none⟩ (nL tF) (nL tF))))) (nS ⟨.struct [(0,9,1),(1,12,1)],2,24,[.str [],.int .u64 (.lit (0))],false,none⟩ (nS ⟨.int .i32,1,4,[.int .i32 (.lit (0))],false,none⟩ (nS ⟨.int .u8,1,1,[zU],false,none⟩ (nS ⟨.struct [(0,67,1),(1,9,1),(2,2,1),(3,64,1)],4,56,[zU,.str [],zI,.aC],false,none⟩ (nS ⟨.struct [(0,25,2),(2,131,1)],3,56,[.aC,.aC,.mD],false,none⟩ (nL ⟨.array 2 154,2,48,[.aC,.aC],false,none⟩) .nil) .nil) (nS ⟨.slice 156,1,24,[.aC],false,none⟩ (nS ⟨.map 9 3,1,8,[.mD],false,none⟩ (nL ⟨.array 64 5,64,64,(repeatL [zU] 64),false,none⟩) .nil) (nL ⟨.struct [(0,3,1),(1,3,1)],2,16,[zI,zI],true,none⟩))) (nO (nS tF (nS ⟨.struct [(0,9,1),(1,147,6),(7,105,2),(9,3,1)],10,96,[.str [],zU,.str [],zI,zI,zI,zI,zI,zI,zI],false,none⟩ (nL ⟨.int .u64,1,8,[.int .u64 (.lit (0))],false,none⟩) .nil) (nL ⟨.pointer 216,1,8,[.jJ],false,none⟩)) (nS tF (nL ⟨.struct [(0,3,1),(1,116,1),(2,2,1),(3,31,1),(4,83,4)],8,80,[zI,.jJ,zI,.aC,zU,zI,zI,zI],false,none⟩) (nL tF)))) (nS tF (nS tF (nS tF (nS tF (nL tF) .nil) (nL tF)) (nS tF (nS tF (nL tF) .nil) (nL tF))) (nS ⟨.struct [(0,9,1),(1,59,1),(2,60,1)],3,64,[.str [],.aC,.aC],false,none⟩ (nO (nS tF (nL ⟨.array 20 277,20,160,(repeatL [.int .u64 (.lit (0))] 20),false,none⟩) .nil) (nL tF)) (nS tF (nL tF) (nL ⟨.pointer 208,1,8,[.jJ],false,none⟩))))))) (nS ⟨.int .i64,1,8,[zI],false,none⟩ (nS ⟨.bool,1,1,[.bool (.lit false)],false,none⟩ (nS ⟨.struct [(0,2,1),(1,3,1),(2,4,1),(3,6,1)],4,24,[zI,zI,.bool (.lit false),zU],true,none⟩ (nS ⟨.pointer 298,1,8,[.jJ],false,none⟩ (nS ⟨.slice 92,1,24,[.aC],false,none⟩ (nS ⟨.slice 69,1,24,[.aC],false,none⟩ (nS tF (nL tF) .nil) (nL tF)) (nS tF (nS ⟨.pointer 162,1,8,[.jJ],false,none⟩ (nL tF) .nil) (nL tF))) (nS ⟨.struct [(0,26,1),(1,2,1)],2,32,[.aC,zI],false,none⟩ (nS tF (nS ⟨.pointer 149,1,8,[.jJ],false,none⟩ (nL tF) .nil) (nL ⟨.struct [(0,206,1),(1,37,1),(2,9,1),(3,9,1),(4,2,1),(5,64,1),(6,154,1),(7,154,1),(8,3,1)],9,128,[zU,zU,.str [],.str [],zI,.aC,.aC,.aC,zI],false,none⟩)) (nS tF (nS tF (nL ⟨.int .i32,1,4,[.int .i32 (.lit (0))],false,none⟩) .nil) (nL tF)))) (nS ⟨.struct [(0,22,1),(1,23,1)],2,48,[.aC,.aC],false,none⟩ (nS ⟨.int .u8,1,1,[zU],false,none⟩ (nS tF (nS ⟨.struct [(0,134,1),(1,9,1),(2,2,1),(3,9,1),(4,3,1)],5,56,[zU,.str [],zI,.str [],zI],true,none⟩ (nL tF) .nil) (nL tF)) (nS ⟨.struct [(0,52,1),(1,3,1)],2,16,[zI,zI],true,none⟩ (nS ⟨.struct [(0,165,1),(1,62,3),(4,3,1)],5,80,[.mD,.str [],.aC,.aC,zI],false,none⟩ (nL ⟨.array 0 16,0,0,[],false,none⟩) .nil) (nL ⟨.map 9 231,1,8,[.mD],false,none⟩))) (nO (nO (nL tF) (nL ⟨.struct [(0,214,1),(1,165,1)],2,16,[.mD,.mD],false,none⟩)) (nS ⟨.pointer 92,1,8,[.jJ],false,none⟩ (nL ⟨.map 37 182,1,8,[.mD],false,none⟩) (nL tF))))) (nS ⟨.int .u64,1,8,[.int .u64 (.lit (0))],false,none⟩ (nS ⟨.iface true,1,16,[.Ey],false,none⟩ (nS tF (nS ⟨.struct [(0,67,1),(1,9,1),(2,2,1),(3,64,1)],4,56,[zU,.str [],zI,.aC],false,none⟩ (nS ⟨.struct [(0,25,2),(2,131,1)],3,56,[.aC,.aC,.mD],false,none⟩ (nL tF) .nil) .nil) (nS tF (nS tF (nL ⟨.array 32 5,32,32,(repeatL [zU] 32),false,none⟩) .nil) (nL ⟨.pointer 230,1,8,[.jJ],false,none⟩))) (nS ⟨.int .i64,1,8,[zI],false,none⟩ (nO (nS ⟨.struct [(0,9,1),(1,147,6),(7,105,2),(9,3,1)],10,96,[.str [],zU,.str [],zI,zI,zI,zI,zI,zI,zI],false,none⟩ (nL ⟨.array 24 5,24,24,(repeatL [zU] 24),false,none⟩) .nil) (nL tF)) (nS ⟨.pointer 114,1,8,[.jJ],false,none⟩ (nL ⟨.struct [(0,3,1),(1,116,1),(2,2,1),(3,31,1),(4,83,4)],8,80,[zI,.jJ,zI,.aC,zU,zI,zI,zI],false,none⟩) (nL ⟨.pointer 241,1,8,[.jJ],false,none⟩)))) (nS tF (nS tF (nS ⟨.pointer 79,1,8,[.jJ],false,none⟩ (nS ⟨.map 37 138,1,8,[.mD],false,none⟩ (nL ⟨.slice 5,1,24,[.aC],false,none⟩) .nil) (nL tF)) (nO (nS tF (nL ⟨.int .u8,1,1,[zU],false,none⟩) .nil) (nL tF))) (nS ⟨.slice 66,1,24,[.aC],false,none⟩ (nS ⟨.struct [(0,3,1),(1,47,1),(2,37,1),(3,3,1),(4,2,1),(5,2,1)],6,64,[zI,.aC,zU,zI,zI,zI],false,none⟩ (nS ⟨.struct [(0,9,1),(1,154,1),(2,3,1)],3,48,[.str [],.aC,zI],false,none⟩ (nL tF) .nil) (nL tF)) (nS tF (nL tF) (nL tF)))))) (nS ⟨.int .u8,1,1,[zU],false,none⟩ (nS ⟨.string,1,16,[.str []],false,none⟩ (nS ⟨.struct [(0,17,1)],1,8,[.jJ],false,none⟩ (nS ⟨.struct [(0,31,1),(1,32,1)],2,48,[.aC,.aC],false,none⟩ (nS ⟨.struct [(0,63,1),(1,37,1),(2,3,1),(3,3,1),(4,3,1),(5,2,1),(6,64,1)],7,64,[zU,zU,zI,zI,zI,zI,.aC],false,none⟩ (nL ⟨.pointer 133,1,8,[.jJ],false,none⟩) (nL ⟨.struct [(0,3,1),(1,193,1),(2,2,1),(3,2,1),(4,4,1),(5,47,1)],6,64,[zI,.mD,zI,zI,.bool (.lit false),.aC],false,none⟩)) (nS tF (nS ⟨.struct [(0,3,1),(1,4,1),(2,4,1)],3,16,[zI,.bool (.lit false),.bool (.lit false)],true,none⟩ (nL tF) .nil) (nL tF))) (nS ⟨.struct [(0,34,2),(2,47,1)],3,72,[.aC,.aC,.aC],false,none⟩ (nS ⟨.struct [(0,37,1),(1,3,1),(2,2,1),(3,2,1)],4,32,[zU,zI,zI,zI],true,none⟩ (nS ⟨.struct [(0,145,1),(1,9,1),(2,2,1),(3,3,1),(4,3,1),(5,3,1)],6,56,[zU,.str [],zI,zI,zI,zI],true,none⟩ (nL tF) .nil) (nL tF)) (nS ⟨.struct [(0,3,1),(1,2,1),(2,4,1),(3,2,1),(4,26,1),(5,47,1)],6,80,[zI,zI,.bool (.lit false),zI,.aC,.aC],false,none⟩ (nS tF (nL ⟨.struct [(0,12,1),(1,12,1),(2,286,1),(3,299,1),(4,5,1),(5,5,1),(6,300,1),(7,301,1),(8,302,1),(9,303,1),(10,304,1)],11,48,[.int .u64 (.lit (0)),.int .u64 (.lit (0)),.int .u32 (.lit (0)),zU,zU,zU,zU,.yZ,.jJ,.int .i32 (.lit (0)),.int .i32 (.lit (0))],false,none⟩) .nil) (nL tF)))) (nS ⟨.slice 3,1,24,[.aC],false,none⟩ (nS tF (nO (nS tF (nL tF) .nil) (nL tF)) (nO (nS tF (nL ⟨.struct [(0,296,0)],0,0,[],false,none⟩) .nil) (nL ⟨.array 27 134,27,27,(repeatL [zU] 27),false,none⟩))) (nS tF (nS tF (nS ⟨.slice 208,1,24,[.aC],false,none⟩ (nL tF) .nil) (nL tF)) (nO (nL ⟨.int .u8,1,1,[zU],false,none⟩) (nL ⟨.array 23 9,23,368,(repeatL [.str []] 23),false,none⟩))))) (nS ⟨.struct [(0,9,1),(1,12,1)],2,24,[.str [],.int .u64 (.lit (0))],false,none⟩ (nS ⟨.slice 137,1,24,[.aC],false,none⟩ (nS ⟨.struct [(0,3,1),(1,37,1),(2,3,1),(3,2,1),(4,2,1)],5,40,[zI,zU,zI,zI,zI],true,none⟩ (nS tF (nS ⟨.int .u8,1,1,[zU],false,none⟩ (nL ⟨.slice 134,1,24,[.aC],false,none⟩) .nil) (nL tF)) (nS ⟨.struct [(0,22,1),(1,101,1)],2,48,[.aC,.aC],false,none⟩ (nS ⟨.pointer 168,1,8,[.jJ],false,none⟩ (nL ⟨.struct [(0,17,1),(1,17,1),(2,17,1),(3,9,1)],4,40,[.jJ,.jJ,.jJ,.str []],false,none⟩) .nil) (nL ⟨.struct [(0,3,1),(1,3,1)],2,16,[zI,zI],true,none⟩))) (nS tF (nS tF (nS ⟨.array 9 9,9,144,[.str [],.str [],.str [],.str [],.str [],.str [],.str [],.str [],.str []],false,none⟩ (nL tF) .nil) (nL ⟨.map 9 134,1,8,[.mD],false,none⟩)) (nS tF (nL tF) .nil))) (nS ⟨.slice 39,1,24,[.aC],false,none⟩ (nS tF (nS ⟨.struct [(0,25,2),(2,34,2),(4,77,1)],5,104,[.aC,.aC,.aC,.aC,.yZ],false,none⟩ (nS ⟨.pointer 195,1,8,[.jJ],false,none⟩ (nL tF) .nil) (nL ⟨.int .u8,1,1,[zU],false,none⟩)) (nS tF (nS tF (nL ⟨.pointer 5,1,8,[.jJ],false,none⟩) .nil) (nL tF))) (nS ⟨.struct [(0,9,1),(1,59,1),(2,60,1)],3,64,[.str [],.aC,.aC],false,none⟩ (nS tF (nS tF (nL ⟨.int .u32,1,4,[.int .u32 (.lit (0))],false,none⟩) .nil) (nL tF)) (nS tF (nL tF) (nL tF))))))))
noncomputable def UC:Tr Func:=(nS Tryz.f0 (nS Tryz.f1 (nS Tryz.f3 (nS Tryz.f7 (nS Tryz.f15 (nS Tryz.f31 (nS Tryz.f63 (nS Tryz.f127 (nL Tryz.f255) .nil) (nL Tryz.f191)) (nS Tryz.f95 (nL Tryz.f159) (nL Tryz.f223))) (nS Tryz.f47 (nS Tryz.f79 (nL Tryz.f143) (nL Tryz.f207)) (nS Tryz.f111 (nL Tryz.f175) (nL Tryz.f239)))) (nS Tryz.f23 (nS Tryz.f39 (nS Tryz.f71 (nL Tryz.f135) (nL Tryz.f199)) (nS Tryz.f103 (nL Tryz.f167) (nL Tryz.f231))) (nS Tryz.f55 (nS Tryz.f87 (nL Tryz.f151) (nL Tryz.f215)) (nS Tryz.f119 (nL Tryz.f183) (nL Tryz.f247))))) (nS Tryz.f11 (nS Tryz.f19 (nS Tryz.f35 (nS Tryz.f67 (nS Tryz.f131 (nL Tryz.f259) .nil) (nL Tryz.f195)) (nS Tryz.f99 (nL Tryz.f163) (nL Tryz.f227))) (nS Tryz.f51 (nS Tryz.f83 (nL Tryz.f147) (nL Tryz.f211)) (nS Tryz.f115 (nL Tryz.f179) (nL Tryz.f243)))) (nS Tryz.f27 (nS Tryz.f43 (nS Tryz.f75 (nL Tryz.f139) (nL Tryz.f203)) (nS Tryz.f107 (nL Tryz.f171) (nL Tryz.f235))) (nS Tryz.f59 (nS Tryz.f91 (nL Tryz.f155) (nL Tryz.f219)) (nS Tryz.f123 (nL Tryz.f187) (nL Tryz.f251)))))) (nS Tryz.f5 (nS Tryz.f9 (nS Tryz.f17 (nS Tryz.f33 (nS Tryz.f65 (nS Tryz.f129 (nL Tryz.f257) .nil) (nL Tryz.f193)) (nS Tryz.f97 (nL Tryz.f161) (nL Tryz.f225))) (nS Tryz.f49 (nS Tryz.f81 (nL Tryz.f145) (nL Tryz.f209)) (nS Tryz.f113 (nL Tryz.f177) (nL Tryz.f241)))) (nS Tryz.f25 (nS Tryz.f41 (nS Tryz.f73 (nL Tryz.f137) (nL Tryz.f201)) (nS Tryz.f105 (nL Tryz.f169) (nL Tryz.f233))) (nS Tryz.f57 (nS Tryz.f89 (nL Tryz.f153) (nL Tryz.f217)) (nS Tryz.f121 (nL Tryz.f185) (nL Tryz.f249))))) (nS Tryz.f13 (nS Tryz.f21 (nS Tryz.f37 (nS Tryz.f69 (nS Tryz.f133 (nL Tryz.f261) .nil) (nL Tryz.f197)) (nS Tryz.f101 (nL Tryz.f165) (nL Tryz.f229))) (nS Tryz.f53 (nS Tryz.f85 (nL Tryz.f149) (nL Tryz.f213)) (nS Tryz.f117 (nL Tryz.f181) (nL Tryz.f245)))) (nS Tryz.f29 (nS Tryz.f45 (nS Tryz.f77 (nL Tryz.f141) (nL Tryz.f205)) (nS Tryz.f109 (nL Tryz.f173) (nL Tryz.f237))) (nS Tryz.f61 (nS Tryz.f93 (nL Tryz.f157) (nL Tryz.f221)) (nS Tryz.f125 (nL Tryz.f189) (nL Tryz.f253))))))) (nS Tryz.f2 (nS Tryz.f4 (nS Tryz.f8 (nS Tryz.f16 (nS Tryz.f32 (nS Tryz.f64 (nS Tryz.f128 (nL Tryz.f256) .nil) (nL Tryz.f192)) (nS Tryz.f96 (nL Tryz.f160) (nL Tryz.f224))) (nS Tryz.f48 (nS Tryz.f80 (nL Tryz.f144) (nL Tryz.f208)) (nS Tryz.f112 (nL Tryz.f176) (nL Tryz.f240)))) (nS Tryz.f24 (nS Tryz.f40 (nS Tryz.f72 (nL Tryz.f136) (nL Tryz.f200)) (nS Tryz.f104 (nL Tryz.f168) (nL Tryz.f232))) (nS Tryz.f56 (nS Tryz.f88 (nL Tryz.f152) (nL Tryz.f216)) (nS Tryz.f120 (nL Tryz.f184) (nL Tryz.f248))))) (nS Tryz.f12 (nS Tryz.f20 (nS Tryz.f36 (nS Tryz.f68 (nS Tryz.f132 (nL Tryz.f260) .nil) (nL Tryz.f196)) (nS Tryz.f100 (nL Tryz.f164) (nL Tryz.f228))) (nS Tryz.f52 (nS Tryz.f84 (nL Tryz.f148) (nL Tryz.f212)) (nS Tryz.f116 (nL Tryz.f180) (nL Tryz.f244)))) (nS Tryz.f28 (nS Tryz.f44 (nS Tryz.f76 (nL Tryz.f140) (nL Tryz.f204)) (nS Tryz.f108 (nL Tryz.f172) (nL Tryz.f236))) (nS Tryz.f60 (nS Tryz.f92 (nL Tryz.f156) (nL Tryz.f220)) (nS Tryz.f124 (nL Tryz.f188) (nL Tryz.f252)))))) (nS Tryz.f6 (nS Tryz.f10 (nS Tryz.f18 (nS Tryz.f34 (nS Tryz.f66 (nS Tryz.f130 (nL Tryz.f258) .nil) (nL Tryz.f194)) (nS Tryz.f98 (nL Tryz.f162) (nL Tryz.f226))) (nS Tryz.f50 (nS Tryz.f82 (nL Tryz.f146) (nL Tryz.f210)) (nS Tryz.f114 (nL Tryz.f178) (nL Tryz.f242)))) (nS Tryz.f26 (nS Tryz.f42 (nS Tryz.f74 (nL Tryz.f138) (nL Tryz.f202)) (nS Tryz.f106 (nL Tryz.f170) (nL Tryz.f234))) (nS Tryz.f58 (nS Tryz.f90 (nL Tryz.f154) (nL Tryz.f218)) (nS Tryz.f122 (nL Tryz.f186) (nL Tryz.f250))))) (nS Tryz.f14 (nS Tryz.f22 (nS Tryz.f38 (nS Tryz.f70 (nS Tryz.f134 (nL Tryz.f262) .nil) (nL Tryz.f198)) (nS Tryz.f102 (nL Tryz.f166) (nL Tryz.f230))) (nS Tryz.f54 (nS Tryz.f86 (nL Tryz.f150) (nL Tryz.f214)) (nS Tryz.f118 (nL Tryz.f182) (nL Tryz.f246)))) (nS Tryz.f30 (nS Tryz.f46 (nS Tryz.f78 (nL Tryz.f142) (nL Tryz.f206)) (nS Tryz.f110 (nL Tryz.f174) (nL Tryz.f238))) (nS Tryz.f62 (nS Tryz.f94 (nL Tryz.f158) (nL Tryz.f222)) (nS Tryz.f126 (nL Tryz.f190) (nL Tryz.f254))))))))
def htab:Tr (Tr Td):=(nO (nO (nS (nO (nO (nL ⟨[],0,⟨[hP 0 0 [4],hR 1 0 [30],hP 0 0 [4],hR 4 0 [32],hR 12 0 [33],hP 28 0 [34],hP 63 0 [31,35],hP 0 0 [4],hR 128 0 [37],hP 0 0 [4],hR 512 0 [39],hR 1536 0 [40],hP 3584 0 [41],hP 8064 0 [38,42],hP 127 0 [36],hP 32767 0 [43]],0,[(1,[0]),(3,[0]),(4,[0]),(8,[0]),(10,[0]),(11,[0])]⟩⟩) (nO (nO (nL ⟨[],0,⟨[hP 0 0 [16],hP 0 0 [18],hP 0 0 [3],hR 4 0 [92],hR 12 0 [93],hE 30 0 [91,94],hP 0 1 [3],hR 64 1 [96],hR 192 1 [97],hP 0 1 [2],hP 512 1 [99],hP 1536 1 [100],hP 4032 1 [98,101],hP 8190 1 [95,102],hP 16382 1 [103],hE 32767 1 [90,104],hP 65535 2 [105]],2,[(3,[0]),(4,[0]),(7,[0,1]),(8,[0,1])]⟩⟩) .nil) .nil)) (nO (nO (nL ⟨[],0,⟨[hR 0 0 [3],hR 0 0 [10],hP 0 0 [12],hP 0 0 [3],hR 8 0 [60],hR 24 0 [61],hE 60 0 [59,62],hE 127 1 [57,58,63],hP 255 2 [64],hP 511 2 [56],hP 511 2 [56],hP 511 2 [56],hP 0 2 [],hP 0 2 [],hE 13311 2 [13,65],hE 30719 3 [14,66],hP 65535 4 [67]],4,[(0,[0,1]),(1,[0,1]),(4,[0]),(5,[0])]⟩⟩) .nil) .nil)) (nO (nS (nO .nil (nO .nil (nL ⟨[],0,⟨[hR 0 0 [1],hP 0 0 [2],hP 2 0 [32],hE 7 0 [31,33],hP 15 1 [34],hP 31 1 [30],hP 31 1 [30],hP 0 1 [],hE 191 1 [8,35],hP 511 2 [36]],2,[(0,[0])]⟩⟩))) (nS (nO .nil (nO (nL ⟨[],0,⟨[hR 0 0 [6],hP 0 0 [1],hE 2 0 [19],hP 7 1 [18,20],hP 0 1 [],hE 31 1 [8,21]],2,[(0,[0,1])]⟩⟩) .nil)) (nS (nO (nL ⟨[],0,⟨[hP 0 0 [0],hP 1 0 [6],hP 3 0 [7],hP 7 0 [8],hR 15 0 [9],hP 0 0 [3],hR 32 0 [11],hP 127 0 [10,12],hP 255 0 [13],hR 511 0 [14],hP 0 0 [],hE 2047 0 [5,15]],1,[(4,[0]),(6,[0]),(9,[0])]⟩⟩) .nil) .nil (nL (nO (nL ⟨[],0,⟨[hR 0 0 [0],hP 0 0 [2],hE 3 0 [8,9]],1,[(0,[0])]⟩⟩) (nL ⟨[],0,⟨[hP 0 0 [2],hR 0 0 [0],hP 2 0 [12],hP 6 0 [13],hP 14 0 [14],hR 30 0 [15],hE 63 0 [11,16],hP 127 1 [17],hP 255 1 [18],hP 127 1 [1],hE 639 1 [20],hP 2047 2 [1],hE 4095 2 [21,19]],3,[(1,[0]),(5,[0])]⟩⟩)))) (nO .nil (nL (nO (nO .nil (nL ⟨[],0,⟨[hP 0 0 [6],hR 0 0 [5],hR 0 0 [0],hE 4 0 [21],hP 14 1 [20,22],hP 31 1 [19,23],hE 63 1 [5,24]],2,[(1,[0,1]),(2,[0])]⟩⟩)) .nil)))) (nS (nO .nil (nO .nil (nO .nil (nL ⟨[],0,⟨[hP 0 0 [2],hR 1 0 [47],hP 0 0 [2],hR 4 0 [49],hP 12 0 [50],hR 28 0 [51],hP 0 0 [1],hE 124 0 [52,53],hP 0 1 [2],hR 256 1 [55],hP 768 1 [56],hR 1792 1 [57],hP 0 1 [1],hE 8188 1 [58,59],hE 16383 2 [48,54,60],hP 32767 3 [61]],3,[(1,[0,1,2]),(3,[0]),(5,[0]),(9,[0,1]),(11,[0,1])]⟩⟩)))) .nil (nL (nO (nL ⟨[],0,⟨[hP 0 0 [1],hR 1 0 [6],hP 0 0 [0],hP 4 0 [8],hP 12 0 [9],hR 28 0 [10],hR 0 0 [2],hP 124 0 [11,12],hP 255 0 [7,13],hP 511 0 [14]],0,[(1,[0]),(5,[0]),(6,[0])]⟩⟩) .nil)))) (nS (nO (nO (nO (nL ⟨[],0,⟨[hP 0 0 [0],hP 1 0 [40],hP 3 0 [41],hR 7 0 [42],hR 0 0 [7],hE 31 0 [43,44]],1,[(3,[0]),(4,[0])]⟩⟩) .nil) .nil) (nL ⟨[],0,⟨[hP 0 0 [0],hP 1 0 [19],hP 3 0 [20],hR 7 0 [21],hP 0 0 [0],hP 16 0 [23],hP 48 0 [24],hR 112 0 [25],hP 0 0 [1],hE 511 0 [22,26,27],hP 1023 1 [28],hP 2047 1 [18],hP 2047 1 [18],hP 2047 1 [18],hP 0 1 [],hP 0 1 [],hE 53247 1 [6,29],hE 122879 2 [7,30],hP 262143 3 [31]],3,[(3,[0]),(7,[0])]⟩⟩)) (nS (nO .nil (nO .nil (nL ⟨[],0,⟨[hR 0 0 [2],hP 0 0 [2],hR 2 0 [30],hP 0 0 [5],hP 14 0 [31,32],hR 30 0 [33],hR 0 0 [6],hE 127 0 [29,34,35],hP 255 1 [36]],1,[(0,[0]),(2,[0]),(5,[0]),(6,[0])]⟩⟩))) .nil (nS (nO (nL ⟨[],0,⟨[hP 0 0 [0],hP 1 0 [5],hP 3 0 [6],hR 7 0 [7],hP 0 0 [1],hR 16 0 [9],hR 63 0 [8,10],hP 127 0 [11],hP 255 0 [12]],0,[(3,[0]),(5,[0]),(6,[0])]⟩⟩) (nL ⟨[],0,⟨[hP 0 0 [0],hP 1 0 [13],hP 3 0 [14],hR 7 0 [15],hP 0 0 [1],hR 16 0 [17],hE 63 0 [16,18]],1,[(3,[0]),(5,[0])]⟩⟩)) (nL (nO .nil (nL ⟨[],0,⟨[hR 0 0 [0],hP 1 0 [6],hP 3 0 [7],hR 7 0 [8],hP 15 0 [9],hP 31 0 [10],hR 63 0 [11],hP 0 0 [3],hE 128 0 [13],hP 511 1 [12],hP 1023 1 [14]],1,[(0,[0,1]),(3,[0,1]),(6,[0,1])]⟩⟩))) .nil)) (nO .nil (nL (nO (nL ⟨[],0,⟨[hP 0 0 [0],hP 1 0 [4],hP 3 0 [5],hR 7 0 [6],hR 15 0 [7],hP 31 0 [8],hP 63 0 [9],hP 127 0 [10,0],hP 255 0 [10,11],hP 511 0 [10,12],hR 1023 0 [10,13],hP 2047 0 [10,14],hR 4095 0 [10,15],hP 127 0 [10,1],hR 8319 0 [10,17],hP 32767 0 [10,16,18],hP 65535 0 [10,19]],0,[(3,[0]),(4,[0]),(10,[0]),(12,[0]),(14,[0])]⟩⟩) .nil))))) (nS (nO .nil (nO .nil (nL ⟨[],0,⟨[hP 0 0 [0],hP 0 0 [5],hP 3 0 [16,17],hR 7 0 [18],hP 0 0 [1],hP 0 0 [5],hP 48 0 [20,21],hR 112 0 [22],hP 255 0 [19,23]],0,[(3,[0]),(7,[0])]⟩⟩))) (nO (nL (nO .nil (nO (nO .nil (nL ⟨[],0,⟨[hP 0 0 [5],hR 0 0 [7],hE 3 0 [62,63],hP 0 1 [7],hR 8 1 [65],hR 31 1 [64,66],hP 63 1 [67],hP 127 1 [61],hP 127 1 [61],hP 255 1 [68],hP 1023 1 [69]],1,[(1,[0]),(4,[0,1]),(5,[1])]⟩⟩)) (nO (nL ⟨[],0,⟨[hP 0 0 [7],hR 1 0 [50],hE 3 0 [51],hP 0 1 [2],hR 8 1 [53],hP 0 1 [7],hR 32 1 [55],hP 120 1 [54,56],hP 248 1 [57],hR 504 1 [58],hP 1023 1 [52,59]],1,[(1,[0]),(4,[0,1]),(6,[0,1]),(9,[0,1])]⟩⟩) (nL ⟨[],0,⟨[hP 0 0 [5],hR 0 0 [7],hE 3 0 [72,73],hP 0 1 [7],hR 8 1 [75],hR 31 1 [74,76],hP 63 1 [77]],1,[(1,[0]),(4,[0,1]),(5,[1])]⟩⟩))))) (nS (nL ⟨[],0,⟨[hR 0 0 [1],hP 1 0 [2],hP 3 0 [3],hR 7 0 [4],hP 0 0 [0],hR 16 0 [6],hP 0 0 [0],hR 64 0 [8],hP 255 0 [5,7],hE 511 0 [10,9]],1,[(0,[0]),(3,[0]),(5,[0]),(7,[0])]⟩⟩) .nil (nO (nL (nO (nO .nil (nL ⟨[],0,⟨[hR 0 0 [0],hP 1 0 [23],hP 3 0 [24],hR 7 0 [25],hP 15 0 [26],hP 31 0 [27],hR 63 0 [28],hR 0 0 [0],hP 128 0 [30],hP 384 0 [31],hR 896 0 [32],hP 2047 0 [29,33]],0,[(0,[0]),(3,[0]),(6,[0]),(7,[0]),(10,[0])]⟩⟩)) (nO .nil (nL ⟨[],0,⟨[hR 0 0 [0],hP 1 0 [35],hP 3 0 [36],hR 7 0 [37],hR 0 0 [0],hP 16 0 [39],hP 48 0 [40],hR 112 0 [41],hP 0 0 [3],hP 256 0 [43],hP 255 0 [38],hP 1279 0 [45],hE 3327 0 [46],hP 8191 1 [42],hP 16383 1 [47],hE 32767 1 [48,44]],2,[(0,[0]),(3,[0]),(4,[0]),(7,[0])]⟩⟩)))) .nil))) (nS (nO .nil (nO .nil (nL ⟨[],0,⟨[hP 0 0 [3],hR 1 0 [33],hP 0 0 [2],hP 7 0 [34,35],hP 15 0 [36],hR 31 0 [37],hP 0 0 [8],hR 64 0 [39],hP 255 0 [38,40],hR 511 0 [41],hP 0 0 [],hE 2047 0 [9,42]],1,[(1,[0]),(5,[0]),(7,[0]),(9,[0])]⟩⟩))) (nO .nil (nO (nL (nO (nS ⟨[],0,⟨[hR 0 0 [0],hP 1 0 [3],hP 3 0 [4],hR 7 0 [5],hP 15 0 [6],hP 31 0 [7],hR 63 0 [8],hR 127 0 [9],hR 0 0 [0],hP 256 0 [11],hP 768 0 [12],hR 1792 0 [13],hP 4095 0 [10,14]],0,[(0,[0]),(3,[0]),(6,[0]),(7,[0]),(8,[0]),(11,[0])]⟩⟩ (nL ⟨[],0,⟨[hR 0 0 [0],hP 1 0 [16],hP 3 0 [17],hR 7 0 [18],hR 0 0 [0],hP 16 0 [20],hP 48 0 [21],hR 112 0 [22],hP 240 0 [23],hP 496 0 [24],hR 1008 0 [25],hR 0 0 [0],hP 2048 0 [27],hP 6144 0 [28],hP 14336 0 [29],hR 30720 0 [30],hP 63488 0 [31],hE 131056 0 [26,32],hP 262143 1 [19],hP 524287 1 [34],hE 1048575 1 [35,33]],2,[(0,[0,1]),(3,[0,1]),(4,[0]),(7,[0]),(10,[0]),(11,[0]),(15,[0])]⟩⟩) .nil) .nil)) .nil)) (nS (nO .nil (nO (nO .nil (nL ⟨[],0,⟨[hP 0 0 [5],hR 1 0 [44],hP 0 0 [6],hR 4 0 [46],hP 15 0 [45,47],hP 31 0 [48],hR 63 0 [49],hP 0 0 [6],hR 128 0 [51],hP 511 0 [50,52]],0,[(1,[0]),(3,[0]),(6,[0]),(8,[0])]⟩⟩)) .nil)) .nil (nO (nL (nO (nL ⟨[],0,⟨[hP 0 0 [0],hP 0 0 [1],hP 0 0 [2],hP 6 0 [11,12],hP 1 0 [10],hP 31 0 [14,13],hR 63 0 [15],hP 127 0 [16]],0,[(6,[0])]⟩⟩) (nO (nO (nL ⟨[],0,⟨[hP 0 0 [8],hP 0 0 [1],hR 2 0 [39],hP 7 0 [38,40],hP 15 0 [41],hP 31 0 [42,0],hP 31 0 [42,1],hP 31 0 [42,8],hP 223 0 [42,44,45],hP 63 0 [42,43],hP 1023 0 [42,47,46],hR 2047 0 [42,48],hP 4095 0 [42,49],hP 8191 0 [42,50],hP 16383 0 [51,0],hP 16383 0 [51,1],hP 16383 0 [51,8],hP 114687 0 [51,53,54],hP 32767 0 [51,52],hP 524287 0 [51,56,55],hR 1048575 0 [51,57],hP 2097151 0 [51,58],hP 4194303 0 [51,59],hP 8388607 0 [60,7],hP 16777215 0 [60,61],hP 33554431 0 [51,60,62],hP 67108863 0 [42,51,63],hP 134217727 0 [42,64]],0,[(2,[0]),(11,[0]),(20,[0])]⟩⟩) .nil) .nil))) .nil))))) (nS (nO .nil (nO (nO (nL ⟨[],0,⟨[hR 0 0 [2],hP 0 0 [1],hP 0 0 [7],hP 6 0 [32,33],hE 15 0 [31,34],hP 31 1 [35],hP 63 1 [30],hP 63 1 [30],hP 0 1 [],hE 383 1 [8,36],hP 1023 2 [37]],2,[(0,[0])]⟩⟩) .nil) .nil)) (nS (nO (nO (nO .nil (nL ⟨[],0,⟨[hR 0 0 [9],hR 0 0 [12],hP 0 0 [13],hE 1 0 [6,52],hE 11 1 [7,53],hP 31 2 [54]],2,[(0,[0]),(1,[0,1])]⟩⟩)) .nil) .nil) (nO (nS (nO .nil (nO .nil (nL ⟨[],0,⟨[hP 0 0 [0],hP 0 0 [5],hP 3 0 [16,17],hR 7 0 [18],hP 0 0 [1],hP 0 0 [5],hP 48 0 [20,21],hR 112 0 [22],hP 255 0 [19,23]],0,[(3,[0]),(7,[0])]⟩⟩))) (nO .nil (nL (nO .nil (nO (nL ⟨[],9,⟨[hP 0 0 [1],hP 1 0 [23],hP 3 0 [24],hR 7 0 [25],hP 0 0 [0],hE 16 0 [27],hR 15 1 [26],hP 0 1 [],hE 255 1 [26,30]],2,[(3,[0,1]),(6,[0,1])]⟩⟩) .nil)))) .nil) (nL (nL ⟨[],0,⟨[hP 0 0 [0],hR 1 0 [2],hP 3 0 [3],hR 7 0 [4],hR 0 0 [1],hP 16 0 [6],hP 48 0 [7],hR 112 0 [8],hE 255 0 [5,9],hP 511 1 [10]],1,[(1,[0]),(3,[0]),(4,[0]),(7,[0])]⟩⟩))) (nO (nS (nO .nil (nO .nil (nO .nil (nL ⟨[],0,⟨[hR 0 0 [1],hR 0 0 [7],hP 0 0 [7],hR 4 0 [67],hP 0 0 [8],hP 28 0 [68,69],hR 60 0 [70],hE 127 0 [65,66,71],hP 255 1 [72],hP 511 1 [73],hP 1023 1 [74,7],hR 2047 1 [74,75],hP 1023 1 [74,8],hP 8191 1 [74,76,77],hP 16383 1 [74,78],hR 32767 1 [74,79],hP 1023 1 [74,7],hE 131071 1 [74,80,81],hP 262143 2 [74,82],hP 524287 2 [83]],2,[(0,[0]),(1,[0]),(3,[0]),(6,[0]),(11,[1]),(15,[1])]⟩⟩)))) (nO (nL (nO (nL ⟨[],0,⟨[hP 0 0 [3],hR 1 0 [6],hP 0 0 [0],hP 4 0 [8],hP 12 0 [9],hR 28 0 [10],hP 0 0 [3],hR 64 0 [12],hR 252 0 [11,13],hP 0 0 [0],hP 0 0 [3],hR 1024 0 [16],hE 3584 0 [15,17],hP 8191 1 [7,14,18],hP 0 1 [],hE 32767 1 [4,19]],2,[(1,[0,1]),(5,[0,1]),(7,[0,1]),(8,[0,1]),(11,[0])]⟩⟩) .nil)) (nL (nL ⟨[],0,⟨[hR 0 0 [0],hP 1 0 [2],hP 3 0 [3],hP 7 0 [4],hR 15 0 [5],hR 0 0 [1],hR 0 0 [0],hE 64 0 [8],hP 255 1 [6,7],hP 511 1 [10],hE 1023 1 [11,9]],2,[(0,[0,1]),(4,[0,1]),(5,[0,1]),(6,[0])]⟩⟩))) .nil) (nS (nO .nil (nO .nil (nL ⟨[],0,⟨[hP 0 0 [2],hR 1 0 [26],hP 0 0 [5],hR 4 0 [28],hP 15 0 [27,29],hP 31 0 [30],hR 63 0 [31],hP 0 0 [5],hR 128 0 [33],hP 511 0 [32,34],hP 1023 0 [35]],0,[(1,[0]),(3,[0]),(6,[0]),(8,[0])]⟩⟩))) .nil (nO (nL (nO .nil (nL ⟨[],0,⟨[hP 0 0 [0],hP 0 0 [1],hP 0 0 [2],hP 6 0 [13,14],hP 1 0 [12],hP 31 0 [16,15],hR 63 0 [17]],0,[(6,[0])]⟩⟩))) .nil)))) (nO (nS (nO .nil (nO (nO (nL ⟨[],0,⟨[hP 0 0 [5],hR 1 0 [24],hP 0 0 [7],hR 4 0 [26],hR 12 0 [27],hP 28 0 [28,28],hP 60 0 [29],hP 124 0 [30],hE 255 0 [25,31],hP 511 1 [5],hE 1023 1 [33,32]],2,[(1,[0]),(3,[0]),(4,[0])]⟩⟩) .nil) .nil)) (nS (nO (nO (nO (nL ⟨[],0,⟨[hP 0 0 [5],hR 1 0 [27],hP 0 0 [4],hE 4 0 [29],hP 12 1 [30],hE 31 1 [28,31],hP 63 2 [5],hE 127 2 [33,32]],3,[(1,[0,1])]⟩⟩) .nil) .nil) (nO .nil (nO .nil (nL ⟨[],0,⟨[hP 0 0 [],hP 0 0 [4],hP 2 0 [58],hP 6 0 [59],hR 14 0 [60],hE 1 0 [2,57],hE 63 1 [3,61]],2,[(4,[0,1])]⟩⟩)))) (nS (nO .nil (nL ⟨[],0,⟨[hP 0 0 [0],hP 1 0 [6],hP 3 0 [7],hP 7 0 [8],hR 15 0 [9],hP 0 0 [3],hP 0 0 [0],hP 64 0 [12],hP 192 0 [13],hP 448 0 [14],hR 960 0 [15],hE 2016 0 [11,16],hP 4064 1 [17],hP 8160 1 [18],hP 16383 1 [10,19],hP 0 1 [],hE 65535 1 [4,20]],2,[(4,[0,1]),(10,[0])]⟩⟩)) .nil (nL (nO .nil (nO (nL ⟨[],0,⟨[hP 0 0 [1],hR 1 0 [15],hP 3 0 [16],hP 7 0 [17],hP 15 0 [18,1],hR 31 0 [18,19],hP 63 0 [18,20],hP 127 0 [18,21],hP 255 0 [22],hP 511 0 [23,1],hR 1023 0 [23,24],hE 2047 0 [23,25],hP 4095 1 [23,26],hP 8191 1 [23,27],hP 16383 1 [28],hP 32767 1 [29,1],hR 65535 1 [29,30],hP 131071 1 [29,31],hP 262143 1 [29,32],hP 524287 1 [33],hP 1048575 1 [34,1],hR 2097151 1 [34,35],hR 4194303 1 [34,36],hP 1048575 1 [34,1],hR 9437183 1 [34,38],hE 26214399 1 [34,39],hP 67108863 2 [34,37,40],hP 134217727 2 [34,41],hP 268435455 2 [42],hP 536870911 2 [43,1],hR 1073741823 2 [43,44],hR 2147483647 2 [43,45],hP 4294967295 2 [43,46],hP 8589934591 2 [43,47],hP 17179869183 2 [48],hP 34359738367 2 [49,3],hP 68719476735 2 [49,50],hP 137438953471 2 [49,51],hP 274877906943 2 [52,1],hR 549755813887 2 [52,53],hP 1099511627775 2 [52,54],hP 2199023255551 2 [49,52,55],hP 4398046511103 2 [49,56]],2,[(1,[0]),(5,[0]),(10,[0]),(16,[1]),(21,[1,2]),(22,[1,2]),(24,[1]),(30,[2]),(31,[2]),(39,[2])]⟩⟩) .nil)))) (nS (nO (nL ⟨[],0,⟨[hR 0 0 [1],hE 1 0 [5],hP 0 1 [2],hR 4 1 [7],hE 15 1 [6,8],hP 31 2 [9]],2,[(0,[0]),(3,[0,1])]⟩⟩) .nil) (nL (nO (nL ⟨[],0,⟨[hR 0 0 [0],hP 1 0 [3],hP 3 0 [4],hR 7 0 [5],hP 15 0 [6],hP 31 0 [7],hR 63 0 [8],hR 0 0 [0],hP 128 0 [10],hP 384 0 [11],hR 896 0 [12],hP 2047 0 [9,13]],0,[(0,[0]),(3,[0]),(6,[0]),(7,[0]),(10,[0])]⟩⟩) .nil)) .nil)) (nS (nO (nO (nO (nL ⟨[],0,⟨[hP 0 0 [12],hE 1 0 [89],hP 0 1 [7],hR 4 1 [91],hR 15 1 [90,92],hP 31 1 [93],hP 63 1 [88],hP 63 1 [88],hP 127 1 [94],hP 511 1 [95]],1,[(3,[0,1]),(4,[1])]⟩⟩) (nO (nL ⟨[],0,⟨[hP 0 0 [11],hR 0 0 [17],hP 1 0 [136],hE 7 0 [9,137],hP 15 1 []],1,[(1,[0])]⟩⟩) .nil)) (nS ⟨[],0,⟨[hP 0 0 [12],hE 1 0 [79],hP 0 1 [7],hR 4 1 [81],hR 15 1 [80,82],hP 31 1 [83],hP 63 1 [78],hP 63 1 [78],hP 127 1 [84],hP 511 1 [85]],1,[(3,[0,1]),(4,[1])]⟩⟩ (nL ⟨[],0,⟨[hP 0 0 [12],hE 1 0 [98],hP 0 1 [7],hR 4 1 [100],hR 15 1 [99,101],hP 31 1 [102]],1,[(3,[0,1]),(4,[1])]⟩⟩) .nil)) (nS ⟨[],0,⟨[hR 0 0 [4],hP 0 0 [1],hE 3 0 [20,21],hP 7 1 [22],hP 15 1 [23],hP 31 1 [24,2],hP 63 1 [24,25],hP 127 1 [24,26],hP 255 1 [27],hP 511 1 [28,2],hP 511 1 [28,4],hR 1535 1 [28,30],hR 3583 1 [28,31],hP 8191 1 [28,29,32],hP 16383 1 [28,33],hP 32767 1 [34],hP 65535 1 [35,7],hR 131071 1 [35,36],hP 262143 1 [35,37],hP 524287 1 [35,38],hP 1048575 1 [39],hP 2097151 1 [40,7],hR 4194303 1 [40,41],hP 2097151 1 [40,11],hR 10485759 1 [40,43],hP 33554431 1 [40,42,44],hP 67108863 1 [40,45],hP 134217727 1 [46],hP 268435455 1 [47,7],hR 536870911 1 [47,48],hE 1073741823 1 [47,49],hP 268435455 2 [47,4],hR 2415919103 2 [47,51],hP 268435455 2 [47,7],hR 8858370047 2 [47,53],hP 32480690175 2 [47,52,54],hP 66840428543 2 [47,55],hR 135559905279 2 [47,56],hP 274877906943 2 [47,50,57],hP 549755813887 2 [47,58]],2,[(0,[0]),(11,[1]),(12,[1]),(17,[1]),(22,[1]),(24,[1]),(29,[1]),(32,[1,2]),(34,[1,2]),(37,[1,2])]⟩⟩ (nS ⟨[],0,⟨[hP 0 0 [2],hP 0 0 [11],hP 0 0 [7],hR 4 0 [64],hP 14 0 [63,65],hP 0 0 [4],hR 32 0 [67],hP 0 0 [7],hR 128 0 [69],hP 480 0 [68,70],hP 992 0 [71],hR 2016 0 [72],hP 0 0 [11],hR 0 0 [7],hP 16383 0 [62,66,73,74,75],hP 32767 0 [76],hP 65535 0 [77]],0,[(3,[0]),(6,[0]),(8,[0]),(11,[0]),(13,[0])]⟩⟩ (nO (nL ⟨[],0,⟨[hP 0 0 [1],hE 1 0 [123],hP 0 1 [2],hP 0 1 [7],hR 8 1 [126],hP 0 1 [7],hR 32 1 [128],hP 96 1 [129],hP 252 1 [125,127,130],hP 3 1 [124],hE 1023 1 [9,131],hP 2047 2 []],2,[(4,[0,1]),(6,[0,1])]⟩⟩) .nil) .nil) (nO (nO (nL ⟨[],0,⟨[hP 0 0 [11],hR 0 0 [17],hP 1 0 [134],hE 7 0 [9,135],hP 15 1 []],1,[(1,[0])]⟩⟩) .nil) .nil))) (nL (nO (nO .nil (nL ⟨[],0,⟨[hP 0 0 [0],hP 0 0 [3],hP 0 0 [0],hP 0 0 [3],hP 0 0 [0],hP 0 0 [3],hP 48 0 [15,16],hP 112 0 [17],hR 240 0 [18],hE 496 0 [19],hP 0 1 [0],hP 0 1 [3],hP 3072 1 [21,22],hP 7168 1 [23],hR 15360 1 [24],hE 32752 1 [25],hP 65523 2 [11,12],hP 131059 2 [27],hE 262131 2 [28,20],hP 524287 3 [13,14],hP 1048575 3 [29],hE 2097151 3 [30,26]],4,[(8,[0]),(14,[0,1])]⟩⟩)) .nil)) (nO (nL (nO (nO (nL ⟨[],0,⟨[hR 0 0 [0],hP 1 0 [12],hP 3 0 [13],hR 7 0 [14],hP 15 0 [15],hP 31 0 [16],hR 63 0 [17],hR 0 0 [0],hP 128 0 [19],hP 384 0 [20],hR 896 0 [21],hP 2047 0 [18,22],hP 4095 0 [23]],0,[(0,[0]),(3,[0]),(6,[0]),(7,[0]),(10,[0])]⟩⟩) .nil) .nil)) .nil))) (nS (nO (nS ⟨[],0,⟨[hR 0 0 [4],hP 0 0 [1],hP 2 0 [17],hP 6 0 [18],hR 14 0 [19],hP 0 0 [2],hR 0 0 [7],hE 127 0 [16,20,21,22],hP 255 1 [23],hP 511 1 [15],hP 511 1 [15],hP 511 1 [15],hP 0 1 [],hP 5119 1 [24],hE 14335 1 [11,25],hP 32767 2 [26]],2,[(0,[0]),(4,[0]),(6,[0])]⟩⟩ (nO .nil (nS ⟨[],0,⟨[hP 0 0 [4],hR 1 0 [72],hP 0 0 [2],hP 7 0 [73,74],hP 15 0 [75],hR 31 0 [76],hP 0 0 [13],hP 64 0 [78],hP 192 0 [79],hR 448 0 [80],hP 1023 0 [77,81],hR 2047 0 [82],hP 0 0 [],hE 8191 0 [14,83]],1,[(1,[0]),(5,[0]),(9,[0]),(11,[0])]⟩⟩ (nL ⟨[],0,⟨[hP 0 0 [13],hP 0 0 [13],hP 0 0 [13],hP 0 0 [11],hR 8 0 [135],hP 0 0 [11],hR 32 0 [137],hP 1 0 [132],hP 129 0 [139],hE 385 0 [140],hP 923 1 [133],hP 1947 1 [141],hE 3995 1 [142,136],hP 8191 2 [134],hP 16383 2 [143],hE 32767 2 [144,138]],3,[(4,[0,1]),(6,[0,1,2])]⟩⟩) .nil)) (nO (nO (nL ⟨[],0,⟨[hP 0 0 [13],hP 1 0 [115],hP 3 0 [116],hR 7 0 [117],hP 0 0 [14],hR 16 0 [119],hP 0 0 [11],hR 64 0 [121],hP 255 0 [118,120],hE 511 0 [123,122]],1,[(3,[0]),(5,[0]),(7,[0])]⟩⟩) .nil) (nO (nL ⟨[],0,⟨[hP 0 0 [13],hP 0 0 [13],hP 0 0 [11],hR 4 0 [150],hP 1 0 [148],hP 17 0 [152],hE 49 0 [153],hP 127 1 [149],hP 255 1 [154],hE 511 1 [155,151]],2,[(3,[0,1])]⟩⟩) .nil))) .nil) (nO (nL (nO .nil (nO .nil (nL ⟨[],0,⟨[hP 0 0 [2],hR 1 0 [25],hP 0 0 [5],hP 7 0 [26,27],hR 15 0 [28],hR 0 0 [6],hP 0 0 [2],hR 64 0 [31],hR 192 0 [32],hE 511 0 [29,30,33],hP 1023 1 [34]],1,[(1,[0]),(4,[0]),(5,[0]),(7,[0]),(8,[0])]⟩⟩)))) (nO (nL (nO (nS ⟨[],0,⟨[hR 0 0 [0],hP 1 0 [4],hP 3 0 [5],hR 7 0 [6],hR 0 0 [0],hP 16 0 [8],hP 48 0 [9],hR 112 0 [10],hP 255 0 [7,11],hP 511 0 [12]],0,[(0,[0]),(3,[0]),(4,[0]),(7,[0])]⟩⟩ .nil (nL ⟨[],0,⟨[hR 0 0 [0],hP 1 0 [25],hP 3 0 [26],hR 7 0 [27],hR 0 0 [0],hP 16 0 [29],hP 48 0 [30],hR 112 0 [31],hP 240 0 [32],hP 496 0 [33],hR 1008 0 [34],hP 0 0 [0],hE 4080 0 [35,36],hR 0 1 [0],hP 8192 1 [38],hP 24576 1 [39],hR 57344 1 [40],hP 122880 1 [41],hE 262128 1 [37,42],hP 524287 2 [28],hP 1048575 2 [44],hE 2097151 2 [45,43]],3,[(0,[0,1,2]),(3,[0,1,2]),(4,[0]),(7,[0]),(10,[0]),(13,[0,1]),(16,[0,1])]⟩⟩)) (nL ⟨[],0,⟨[hP 0 0 [3],hP 1 0 [13],hP 3 0 [14],hR 7 0 [15],hR 0 0 [0],hP 16 0 [17],hP 48 0 [18],hR 112 0 [19],hP 255 0 [16,20]],0,[(3,[0]),(4,[0]),(7,[0])]⟩⟩))) .nil)) (nO (nS (nO (nL ⟨[],0,⟨[hP 0 0 [4],hR 1 0 [8],hP 0 0 [2],hP 7 0 [9,10],hP 15 0 [11],hR 31 0 [12],hP 63 0 [13],hP 127 0 [14],hP 255 0 [15,4],hR 511 0 [15,16],hP 255 0 [15,2],hP 2047 0 [15,17,18],hP 4095 0 [15,19],hR 8191 0 [15,20],hP 255 0 [15,3],hR 16639 0 [15,22],hP 255 0 [15,2],hP 114943 0 [15,23,24],hP 246015 0 [15,25],hR 508159 0 [15,26],hR 1032447 0 [15,27],hP 2097151 0 [15,21,28],hP 4194303 0 [15,29],hP 8388607 0 [30]],0,[(1,[0]),(5,[0]),(9,[0]),(13,[0]),(15,[0]),(19,[0]),(20,[0])]⟩⟩) .nil) (nL (nO (nO .nil (nL ⟨[],0,⟨[hR 0 0 [0],hP 1 0 [15],hP 3 0 [16],hR 7 0 [17],hR 0 0 [0],hP 16 0 [19],hP 48 0 [20],hR 112 0 [21],hP 240 0 [22],hP 496 0 [23],hR 1008 0 [24],hR 0 0 [0],hP 2048 0 [26],hP 6144 0 [27],hR 14336 0 [28],hP 30720 0 [29],hE 65520 0 [25,30],hP 131071 1 [18],hP 262143 1 [32],hE 524287 1 [33,31]],2,[(0,[0,1]),(3,[0,1]),(4,[0]),(7,[0]),(10,[0]),(11,[0]),(14,[0])]⟩⟩)) .nil)) .nil) .nil))))) (nO (nS (nO (nO (nO .nil (nO (nL ⟨[],0,⟨[hP 0 0 [15],hR 1 0 [112],hP 0 0 [17],hP 7 0 [113,114],hR 15 0 [115],hP 0 0 [12],hR 32 0 [117],hP 0 0 [17],hP 224 0 [118,119],hR 480 0 [120],hP 0 0 [5],hR 1024 0 [122],hP 4064 0 [121,123],hP 8191 0 [116,124]],0,[(1,[0]),(4,[0]),(6,[0]),(9,[0]),(11,[0])]⟩⟩) .nil)) .nil) .nil) (nS (nO (nO (nO .nil (nL ⟨[],0,⟨[hR 0 0 [8],hP 0 0 [9],hP 2 0 [51],hP 6 0 [52],hR 14 0 [53],hP 1 0 [50],hE 63 0 [5,54]],1,[(0,[0]),(4,[0])]⟩⟩)) .nil) .nil) (nO (nS (nO .nil (nO (nO (nO (nL ⟨[],0,⟨[hR 0 0 [16],hR 0 0 [14],hP 0 0 [15],hE 1 0 [6,116],hE 11 1 [7,117],hP 31 2 [118],hP 63 2 []],2,[(0,[0]),(1,[0,1])]⟩⟩) .nil) (nL ⟨[],0,⟨[hR 0 0 [13],hP 0 0 [4],hR 2 0 [94],hE 6 0 [95],hP 15 1 [93,96],hP 0 1 [],hE 63 1 [16,97]],2,[(0,[0,1]),(2,[0])]⟩⟩)) .nil)) .nil (nO (nL (nO (nO .nil (nL ⟨[],0,⟨[hP 0 0 [0],hP 0 0 [1],hP 3 0 [20,21],hP 0 0 [0],hP 0 0 [2],hP 24 0 [23,24],hE 63 0 [22,25],hP 127 1 [26]],1,[]⟩⟩)) .nil)) .nil)) (nS (nL ⟨[],0,⟨[hR 0 0 [1],hP 1 0 [2],hP 3 0 [3],hR 7 0 [4],hP 0 0 [0],hR 16 0 [6],hP 0 0 [0],hR 64 0 [8],hP 192 0 [9],hR 448 0 [10],hR 0 0 [1],hP 1024 0 [12],hP 3072 0 [13],hR 7168 0 [14],hE 16320 0 [11,15],hP 32767 1 [5,7],hE 65535 1 [17,16]],2,[(0,[0,1]),(3,[0,1]),(5,[0,1]),(7,[0]),(9,[0]),(10,[0]),(13,[0])]⟩⟩) (nL (nO .nil (nO .nil (nL ⟨[],0,⟨[hP 0 0 [9],hP 1 0 [47],hP 3 0 [48,3],hR 7 0 [48,49],hP 3 0 [48,5],hR 19 0 [48,51],hP 63 0 [48,50,52],hP 127 0 [48,53],hR 255 0 [48,54],hR 3 0 [48,5],hP 3 0 [48,7],hE 2047 0 [48,55,56,57],hP 4095 1 [48,58],hP 8191 1 [59],hP 16383 1 [60,5],hR 32767 1 [60,61],hP 65535 1 [60,62],hP 131071 1 [60,63],hP 262143 1 [64,8],hP 524287 1 [60,64,65],hP 1048575 1 [60,66],hP 2097151 1 [67]],1,[(3,[0]),(5,[0]),(8,[0]),(9,[0]),(15,[1])]⟩⟩)))) (nS (nO (nL ⟨[],0,⟨[hP 0 0 [1],hR 1 0 [5],hP 3 0 [6],hP 7 0 [7],hP 15 0 [8,1],hR 31 0 [8,9],hP 15 0 [8,0],hP 79 0 [8,11],hP 207 0 [8,12],hR 463 0 [8,13],hR 15 0 [8,2],hP 1999 0 [8,14,15],hP 4095 0 [8,10,16],hP 8191 0 [8,17],hP 16383 0 [18]],0,[(1,[0]),(5,[0]),(9,[0]),(10,[0])]⟩⟩) .nil) (nL (nO .nil (nO (nL ⟨[],0,⟨[hR 0 0 [0],hP 1 0 [22],hP 3 0 [23],hR 7 0 [24],hR 0 0 [0],hP 16 0 [26],hP 48 0 [27],hR 112 0 [28],hP 240 0 [29],hP 496 0 [30],hR 1008 0 [31],hP 2032 0 [32],hP 4095 0 [25],hP 8191 0 [34],hE 16383 0 [35,33]],1,[(0,[0]),(3,[0]),(4,[0]),(7,[0]),(10,[0])]⟩⟩) .nil))) .nil))) (nS (nO (nS ⟨[],0,⟨[hP 0 0 [1],hR 1 0 [6],hE 3 0 [7],hP 0 1 [1],hR 8 1 [9],hE 31 1 [10],hP 31 2 [1],hE 127 2 [12,8],hP 255 3 [1],hE 511 3 [13,11]],4,[(1,[0]),(4,[0,1])]⟩⟩ (nO .nil (nL ⟨[],0,⟨[hP 0 0 [1],hR 1 0 [47],hP 0 0 [5],hP 0 0 [1],hR 8 0 [50],hP 0 0 [5],hP 56 0 [51,52],hP 120 0 [53],hR 248 0 [54],hE 504 0 [55],hP 1023 1 [48,49],hP 2047 1 [57],hE 4095 1 [58,56]],2,[(1,[0,1]),(4,[0]),(8,[0])]⟩⟩)) .nil) (nO .nil (nL ⟨[],0,⟨[hP 0 0 [4],hP 0 0 [4],hP 0 0 [4],hP 4 0 [26],hP 12 0 [27],hR 28 0 [28],hE 60 0 [29],hP 0 1 [4],hP 128 1 [31],hP 384 1 [32],hR 896 1 [33],hE 2044 1 [34],hP 4093 2 [24],hP 8189 2 [36],hE 16381 2 [37,30],hP 32767 3 [25],hP 65535 3 [38],hE 131071 3 [39,35]],4,[(5,[0]),(10,[0,1])]⟩⟩))) (nO (nO (nL (nO (nO .nil (nL ⟨[],0,⟨[hP 0 0 [5],hR 1 0 [13],hE 3 0 [14],hP 0 1 [5],hR 8 1 [16],hE 31 1 [17],hP 63 2 [15,18],hP 127 2 [19]],2,[(1,[0]),(4,[0,1])]⟩⟩)) .nil)) (nL (nO .nil (nS ⟨[],0,⟨[hP 0 0 [0],hP 0 0 [3],hR 2 0 [10],hP 0 0 [3],hR 8 0 [12],hE 24 0 [13],hE 63 1 [9,11,14],hP 127 2 [15]],2,[(2,[0,1]),(4,[0])]⟩⟩ (nO (nL ⟨[],0,⟨[hP 0 0 [0],hP 1 0 [27],hP 3 0 [28],hR 7 0 [29],hP 0 0 [3],hR 16 0 [31],hE 63 0 [30,32]],1,[(3,[0]),(5,[0])]⟩⟩) .nil) .nil)))) .nil) (nS (nO (nO .nil (nL ⟨[],0,⟨[hP 0 0 [5],hR 1 0 [16],hE 3 0 [17],hP 0 1 [5],hR 8 1 [19],hE 31 1 [20],hP 31 2 [5],hE 127 2 [22,18],hP 255 3 [5],hE 511 3 [23,21]],4,[(1,[0]),(4,[0,1])]⟩⟩)) (nO .nil (nO .nil (nL ⟨[],0,⟨[hR 0 0 [3],hP 0 0 [1],hR 2 0 [51],hE 6 0 [52],hP 15 1 [50,53],hE 31 1 [2,54]],2,[(0,[0,1]),(2,[0])]⟩⟩)))) (nO (nL (nO (nL ⟨[],0,⟨[hP 0 0 [0],hP 1 0 [3],hP 3 0 [4],hR 7 0 [5],hP 15 0 [6],hP 31 0 [7],hR 63 0 [8],hP 0 0 [0],hP 128 0 [10],hP 384 0 [11],hR 896 0 [12],hP 2047 0 [9,13]],0,[(3,[0]),(6,[0]),(10,[0])]⟩⟩) .nil)) (nL (nO (nO .nil (nO (nL ⟨[],0,⟨[hP 0 0 [1],hR 1 0 [43],hP 3 0 [44],hP 7 0 [45],hP 15 0 [46,3],hP 31 0 [46,47],hP 63 0 [46,48],hP 127 0 [49],hP 255 0 [50,3],hP 511 0 [50,51],hP 1023 0 [50,52],hP 2047 0 [53],hP 4095 0 [54,3],hP 8191 0 [54,55],hP 16383 0 [54,4,56],hR 32767 0 [54,57],hP 4095 0 [54,1],hR 69631 0 [54,59],hE 262143 0 [54,58,60],hP 524287 1 [54,61],hP 1048575 1 [62]],1,[(1,[0]),(15,[0]),(17,[0])]⟩⟩) .nil)) .nil))) (nL (nO (nL ⟨[],0,⟨[hP 0 0 [0],hP 1 0 [4],hP 3 0 [5],hR 7 0 [6],hP 0 0 [1],hR 16 0 [8],hP 63 0 [7,9],hP 127 0 [10]],0,[(3,[0]),(5,[0])]⟩⟩) .nil))))) (nS (nO .nil (nO (nO .nil (nL ⟨[],0,⟨[hP 0 0 [6],hR 1 0 [88],hP 0 0 [8],hP 7 0 [89,90],hR 15 0 [91],hP 0 0 [7],hR 32 0 [93],hP 0 0 [8],hP 224 0 [94,95],hR 480 0 [96],hP 1023 0 [92,97]],0,[(1,[0]),(4,[0]),(6,[0]),(9,[0])]⟩⟩)) (nL ⟨[],0,⟨[hP 0 0 [2],hR 1 0 [30],hP 0 0 [5],hP 7 0 [31,32],hR 15 0 [33],hP 0 0 [3],hR 32 0 [35],hP 0 0 [5],hP 224 0 [36,37],hR 480 0 [38],hP 0 0 [],hP 0 0 [],hE 3103 0 [6,34],hE 8191 1 [7,39]],2,[(1,[0]),(4,[0]),(6,[0,1]),(9,[0,1])]⟩⟩))) (nO (nO .nil (nL (nO (nL ⟨[],0,⟨[hR 0 0 [1],hE 1 0 [5],hP 0 1 [2],hR 4 1 [7],hE 15 1 [6,8],hP 31 2 [9]],2,[(0,[0]),(3,[0,1])]⟩⟩) .nil))) (nS (nS ⟨[],0,⟨[hR 0 0 [0],hP 1 0 [2],hP 3 0 [3],hR 7 0 [4],hP 0 0 [1],hR 16 0 [6],hP 63 0 [5,7],hR 127 0 [8],hP 255 0 [9]],0,[(0,[0]),(3,[0]),(5,[0]),(7,[0])]⟩⟩ .nil (nL ⟨[],0,⟨[hR 0 0 [0],hP 1 0 [16],hP 3 0 [17],hR 7 0 [18],hP 0 0 [1],hR 16 0 [20],hP 63 0 [19,21],hR 127 0 [22],hP 255 0 [23],hP 511 0 [19,21],hE 1023 0 [25,24]],1,[(0,[0]),(3,[0]),(5,[0]),(7,[0])]⟩⟩)) (nO (nL (nO (nL ⟨[],0,⟨[hP 0 0 [0],hP 1 0 [3],hP 3 0 [4],hR 7 0 [5],hP 15 0 [6],hP 31 0 [7],hR 63 0 [8],hP 0 0 [0],hP 128 0 [10],hP 384 0 [11],hR 896 0 [12],hP 2047 0 [9,13],hP 4095 0 [14],hP 8191 0 [15,0],hP 16383 0 [15,16],hP 32767 0 [15,17],hR 65535 0 [15,18],hP 131071 0 [15,19],hP 262143 0 [15,20],hR 524287 0 [15,21],hP 8191 0 [15,0],hP 1056767 0 [15,23],hP 3153919 0 [15,24],hR 7348223 0 [15,25],hE 16777215 0 [15,22,26],hP 33554431 1 [15,27],hP 67108863 1 [28]],1,[(3,[0]),(6,[0]),(10,[0]),(16,[0]),(19,[0]),(23,[0])]⟩⟩) .nil)) .nil) (nS (nO (nL ⟨[],0,⟨[hP 0 0 [0],hE 1 0 [4],hP 3 1 [5],hP 7 1 [6,0],hP 15 1 [6,7],hP 31 1 [6,8],hR 63 1 [6,9],hP 7 1 [6,1],hR 135 1 [6,11],hP 511 1 [6,10,12],hP 1023 1 [6,13],hP 2047 1 [14]],1,[(6,[1]),(8,[1])]⟩⟩) .nil) (nL (nO (nL ⟨[],0,⟨[hR 0 0 [0],hP 1 0 [3],hP 3 0 [4],hP 7 0 [5],hR 15 0 [6],hR 0 0 [0],hP 32 0 [8],hP 96 0 [9],hR 224 0 [10],hP 480 0 [11],hP 992 0 [12],hR 2016 0 [13],hR 0 0 [0],hP 4096 0 [15],hP 12288 0 [16],hP 28672 0 [17],hR 61440 0 [18],hP 131040 0 [14,19],hE 262112 0 [20],hP 524287 1 [7],hP 1048575 1 [21]],1,[(0,[0,1]),(4,[0,1]),(5,[0]),(8,[0]),(11,[0]),(12,[0]),(16,[0])]⟩⟩) .nil)) .nil))) (nS (nO .nil (nL ⟨[],0,⟨[hP 0 0 [3],hR 1 0 [15],hP 0 0 [2],hP 7 0 [16,17],hP 15 0 [18],hR 31 0 [19],hR 0 0 [6],hP 64 0 [21],hP 192 0 [22],hR 448 0 [23],hP 1023 0 [20,24],hR 2047 0 [25],hP 0 0 [],hE 8191 0 [7,26]],1,[(1,[0]),(5,[0]),(6,[0]),(9,[0]),(11,[0])]⟩⟩)) (nO (nO (nL (nO .nil (nL ⟨[],0,⟨[hR 0 0 [2],hR 0 0 [2],hP 2 0 [9],hP 6 0 [10],hP 14 0 [11],hR 30 0 [12],hR 0 0 [3],hP 64 0 [14],hE 254 0 [13,15],hP 511 1 [8],hP 1023 1 [17],hP 2047 1 [18],hE 4095 1 [19,16]],2,[(0,[0,1]),(1,[0]),(5,[0]),(6,[0])]⟩⟩))) .nil) (nO (nL (nO .nil (nO (nL ⟨[],0,⟨[hR 0 0 [0],hP 1 0 [22],hP 3 0 [23],hR 7 0 [24],hR 0 0 [0],hP 16 0 [26],hP 48 0 [27],hR 112 0 [28],hP 240 0 [29],hP 496 0 [30],hR 1008 0 [31],hP 2032 0 [32],hP 4095 0 [25],hP 8191 0 [34],hE 16383 0 [35,33]],1,[(0,[0]),(3,[0]),(4,[0]),(7,[0]),(10,[0])]⟩⟩) .nil))) .nil)) (nS (nL ⟨[],0,⟨[hP 0 0 [1],hR 1 0 [4],hP 0 0 [0],hP 0 0 [1],hR 8 0 [7],hP 0 0 [0],hP 56 0 [8,9],hR 120 0 [10],hR 0 0 [2],hP 504 0 [11,12],hP 1023 0 [5,6],hE 2047 0 [14,13]],1,[(1,[0]),(4,[0]),(7,[0]),(8,[0])]⟩⟩) (nO (nL (nO (nO (nL ⟨[],0,⟨[hR 0 0 [0],hP 1 0 [5],hP 3 0 [6],hP 7 0 [7],hR 15 0 [8],hR 0 0 [0],hP 32 0 [10],hP 96 0 [11],hP 224 0 [12],hR 480 0 [13],hP 1023 0 [9,14],hE 2047 0 [15],hP 4095 1 [],hP 8191 1 [16]],1,[(0,[0]),(4,[0]),(5,[0]),(9,[0])]⟩⟩) .nil) .nil)) .nil) .nil)))) (nS (nO (nO .nil (nL ⟨[],0,⟨[hP 0 0 [3],hP 0 0 [1],hR 2 0 [22],hP 0 0 [4],hP 14 0 [23,24],hP 30 0 [25],hR 62 0 [26],hR 126 0 [27],hP 0 0 [1],hR 256 0 [29],hP 0 0 [4],hP 1792 0 [30,31],hP 3840 0 [32],hR 7936 0 [33],hR 16128 0 [34],hP 32766 0 [28,35],hP 65535 0 [21,36],hP 131071 0 [37]],0,[(2,[0]),(6,[0]),(7,[0]),(9,[0]),(13,[0]),(14,[0])]⟩⟩)) .nil) (nO (nO .nil (nO (nO (nL (nO (nO (nO (nO (nL ⟨[],0,⟨[hP 0 0 [9],hP 1 0 [61],hP 3 0 [62],hP 7 0 [63,4],hR 15 0 [63,64],hP 31 0 [63,65],hP 63 0 [63,66],hP 127 0 [67],hP 255 0 [68,4],hR 511 0 [68,69],hP 255 0 [68,0],hP 1279 0 [68,71],hP 3327 0 [68,72],hR 7423 0 [68,73],hP 16383 0 [68,70,74],hP 32767 0 [68,75],hP 65535 0 [76],hP 131071 0 [77,4],hR 262143 0 [77,78],hP 524287 0 [77,79],hP 1048575 0 [77,80],hP 2097151 0 [77,81],hE 4194303 0 [77,82],hP 8388607 1 [77,83],hP 16777215 1 [84]],1,[(4,[0]),(9,[0]),(13,[0]),(18,[0])]⟩⟩) .nil) .nil) .nil) .nil)) .nil) (nO (nL (nO (nL ⟨[],0,⟨[hR 0 0 [0],hP 1 0 [4],hP 3 0 [5],hR 7 0 [6],hR 0 0 [0],hP 16 0 [8],hP 48 0 [9],hR 112 0 [10],hP 255 0 [7,11],hP 511 0 [12]],0,[(0,[0]),(3,[0]),(4,[0]),(7,[0])]⟩⟩) (nL ⟨[],0,⟨[hR 0 0 [0],hP 1 0 [13],hP 3 0 [14],hR 7 0 [15],hP 15 0 [16],hP 31 0 [17],hR 63 0 [18],hR 0 0 [0],hP 128 0 [20],hP 384 0 [21],hR 896 0 [22],hE 2047 0 [19,23],hP 4095 1 [24],hP 8191 1 [25,3],hP 16383 1 [25,26],hP 32767 1 [25,27],hR 65535 1 [25,28],hP 131071 1 [25,29],hP 262143 1 [25,30]],1,[(0,[0]),(3,[0]),(6,[0]),(7,[0]),(10,[0]),(16,[1])]⟩⟩))) .nil))) (nS (nO (nL ⟨[],0,⟨[hP 0 0 [4],hR 1 0 [7],hP 0 0 [2],hP 7 0 [8,9],hP 15 0 [10],hR 31 0 [11],hP 63 0 [12],hP 127 0 [13],hP 255 0 [14,4],hR 511 0 [14,15],hP 255 0 [14,2],hP 2047 0 [14,16,17],hP 4095 0 [14,18],hR 8191 0 [14,19],hP 255 0 [14,3],hR 16639 0 [14,21],hP 255 0 [14,2],hP 114943 0 [14,22,23],hP 246015 0 [14,24],hR 508159 0 [14,25],hR 1032447 0 [14,26],hP 2097151 0 [14,20,27],hP 4194303 0 [14,28],hP 8388607 0 [29]],0,[(1,[0]),(5,[0]),(9,[0]),(13,[0]),(15,[0]),(19,[0]),(20,[0])]⟩⟩) .nil) (nO (nL (nO .nil (nO .nil (nO (nL ⟨[],0,⟨[hP 0 0 [3],hP 1 0 [34],hP 3 0 [35],hR 7 0 [36],hP 0 0 [5],hR 16 0 [38],hP 0 0 [5],hR 64 0 [40],hE 255 0 [37,39,41]],1,[(3,[0]),(5,[0]),(7,[0])]⟩⟩) .nil)))) (nO (nL (nO (nL ⟨[],0,⟨[hR 0 0 [0],hP 1 0 [3],hP 3 0 [4],hR 7 0 [5],hR 0 0 [0],hP 16 0 [7],hP 48 0 [8],hP 112 0 [9],hR 240 0 [10],hP 511 0 [6],hP 1023 0 [12],hE 2047 0 [13,11]],1,[(0,[0]),(3,[0]),(4,[0]),(8,[0])]⟩⟩) .nil)) .nil)) (nO (nO .nil (nL (nO .nil (nO (nL ⟨[],0,⟨[hP 0 0 [6],hR 1 0 [13],hP 3 0 [14],hP 7 0 [15],hP 15 0 [16,0],hP 31 0 [16,17],hP 63 0 [16,18],hR 127 0 [16,19],hP 15 0 [16,6],hR 271 0 [16,21],hR 1023 0 [16,20,22],hP 2047 0 [16,23],hP 4095 0 [16,24],hP 8191 0 [25],hP 16383 0 [26,0],hP 16383 0 [26,6],hR 49151 0 [26,28],hE 131071 0 [26,27,29],hP 262143 1 [26,30],hP 524287 1 [26,31]],1,[(1,[0]),(7,[0]),(9,[0]),(10,[0]),(16,[0])]⟩⟩) .nil)))) (nL (nO (nO .nil (nO (nO .nil (nL ⟨[],0,⟨[hP 0 0 [],hP 0 0 [7],hR 2 0 [87],hP 6 0 [88],hE 1 0 [4,86],hE 31 1 [5,89]],2,[(2,[0,1])]⟩⟩)) .nil)) .nil))))) (nS (nO (nO (nO (nO (nL ⟨[],0,⟨[hP 0 0 [11],hR 0 0 [9],hP 1 0 [75],hE 7 0 [7,76],hP 15 1 []],1,[(1,[0])]⟩⟩) .nil) (nL ⟨[],0,⟨[hP 0 0 [11],hR 0 0 [9],hP 0 0 [17],hP 1 0 [61],hE 11 0 [7,62],hP 31 1 [63]],1,[(1,[0])]⟩⟩)) (nO (nL ⟨[],0,⟨[hR 0 0 [3],hR 0 0 [9],hP 0 0 [2],hP 0 0 [13],hP 12 0 [44,45],hR 28 0 [46],hP 0 0 [12],hP 124 0 [47,48],hP 0 0 [12],hP 508 0 [49,50],hP 0 0 [12],hP 2044 0 [51,52],hE 4095 0 [42,43,53],hP 8191 1 [54],hP 16383 1 [41],hP 16383 1 [41],hP 16383 1 [41],hP 16383 1 [41],hP 0 1 [],hP 0 1 [],hE 819199 1 [14,55],hE 1900543 2 [15,56],hP 4063231 3 [57],hP 8388607 3 [58]],3,[(0,[0]),(1,[0]),(5,[0])]⟩⟩) .nil)) .nil) (nO (nS (nO (nO (nL ⟨[],0,⟨[hP 0 0 [],hR 0 0 [4],hE 1 0 [2,17],hE 7 1 [3,18]],2,[(1,[0,1])]⟩⟩) (nO .nil (nO (nL ⟨[],0,⟨[hP 0 0 [5],hR 1 0 [78],hP 0 0 [11],hP 4 0 [80],hP 12 0 [81],hR 28 0 [82],hP 60 0 [83],hE 127 0 [79,84],hP 255 1 [5],hE 511 1 [86,85]],2,[(1,[0]),(5,[0])]⟩⟩) .nil))) .nil) (nO (nL (nO (nL ⟨[],0,⟨[hP 0 0 [0],hP 1 0 [9],hP 3 0 [10],hR 7 0 [11],hP 0 0 [3],hR 16 0 [13],hR 63 0 [12,14],hP 127 0 [15],hP 255 0 [8],hP 255 0 [8],hP 511 0 [16],hP 2047 0 [17]],0,[(3,[0]),(5,[0]),(6,[0])]⟩⟩) .nil)) .nil) (nS (nO (nL ⟨[],0,⟨[hP 0 0 [0],hP 1 0 [5],hP 3 0 [6],hR 7 0 [7],hP 15 0 [8],hP 31 0 [9],hP 63 0 [10,0],hP 127 0 [10,11],hP 255 0 [10,12],hR 511 0 [10,13],hP 63 0 [10,1],hR 1087 0 [10,15],hR 4095 0 [10,14,16],hP 8191 0 [10,17],hP 16383 0 [10,18],hP 32767 0 [19]],0,[(3,[0]),(9,[0]),(11,[0]),(12,[0])]⟩⟩) (nL ⟨[],0,⟨[hP 0 0 [0],hP 1 0 [20],hP 3 0 [21],hR 7 0 [22],hP 0 0 [1],hR 16 0 [24],hE 63 0 [23,25]],1,[(3,[0]),(5,[0])]⟩⟩)) (nL (nO (nS ⟨[],0,⟨[hR 0 0 [0],hP 1 0 [3],hP 3 0 [4],hP 7 0 [5],hR 15 0 [6],hR 0 0 [0],hP 32 0 [8],hP 96 0 [9],hR 224 0 [10],hP 480 0 [11],hP 992 0 [12],hR 2016 0 [13],hP 4064 0 [14],hP 8191 0 [7,15],hP 16383 0 [16],hR 32767 0 [17,0],hP 65535 0 [17,18],hP 131071 0 [17,19],hP 262143 0 [17,20],hR 524287 0 [17,21],hR 32767 0 [17,0],hP 1081343 0 [17,23],hP 3178495 0 [17,24],hR 7372799 0 [17,25],hP 15761407 0 [17,26],hP 32538623 0 [17,27],hR 66093055 0 [17,28],hP 133201919 0 [17,29],hP 268435455 0 [17,22,30],hP 536870911 0 [17,31]],0,[(0,[0]),(4,[0]),(5,[0]),(8,[0]),(11,[0]),(15,[0]),(19,[0]),(20,[0]),(23,[0]),(26,[0])]⟩⟩ (nL ⟨[],0,⟨[hR 0 0 [0],hP 1 0 [33],hP 3 0 [34],hR 7 0 [35],hP 15 0 [36],hP 31 0 [37],hR 63 0 [38],hR 0 0 [0],hP 128 0 [40],hP 384 0 [41],hP 896 0 [42],hR 1920 0 [43],hP 4095 0 [39,44],hP 8191 0 [36],hP 16383 0 [46],hE 32767 0 [47,45]],1,[(0,[0]),(3,[0]),(6,[0]),(7,[0]),(11,[0])]⟩⟩) .nil) .nil)) .nil)) (nS (nO .nil (nO .nil (nL ⟨[],0,⟨[hP 0 0 [0],hP 0 0 [5],hP 3 0 [17,18],hR 7 0 [19],hP 0 0 [1],hP 0 0 [5],hP 48 0 [21,22],hR 112 0 [23],hP 255 0 [20,24]],0,[(3,[0]),(7,[0])]⟩⟩))) (nO (nL (nO (nO (nL ⟨[],0,⟨[hP 0 0 [0],hP 1 0 [11],hP 3 0 [12],hR 7 0 [13],hP 0 0 [0],hP 16 0 [15],hP 48 0 [16],hR 112 0 [17],hP 255 0 [14],hP 511 0 [19],hE 1023 0 [20,18]],1,[(3,[0]),(7,[0])]⟩⟩) .nil) .nil)) .nil) (nL (nO (nL ⟨[],0,⟨[hP 0 0 [0],hP 0 0 [0],hP 2 0 [6],hP 6 0 [7],hR 14 0 [8],hP 0 0 [1],hR 32 0 [10],hP 96 0 [11],hE 254 0 [9,12],hP 511 1 [5],hP 1023 1 [14],hE 2047 1 [15,13]],2,[(4,[0]),(6,[0])]⟩⟩) (nL ⟨[],0,⟨[hP 0 0 [0],hP 1 0 [16],hP 3 0 [17],hR 7 0 [18],hR 15 0 [19],hR 0 0 [2],hP 63 0 [20,21],hP 127 0 [22]],0,[(3,[0]),(4,[0]),(5,[0])]⟩⟩))))) (nS (nO .nil (nO (nO .nil (nL ⟨[],0,⟨[hP 0 0 [6],hR 1 0 [76],hP 0 0 [8],hP 7 0 [77,78],hR 15 0 [79],hP 0 0 [7],hR 32 0 [81],hP 0 0 [8],hP 224 0 [82,83],hR 480 0 [84],hP 1023 0 [80,85]],0,[(1,[0]),(4,[0]),(6,[0]),(9,[0])]⟩⟩)) (nL ⟨[],0,⟨[hP 0 0 [0],hP 0 0 [5],hP 3 0 [19,20],hR 7 0 [21],hP 0 0 [1],hP 0 0 [5],hP 48 0 [23,24],hR 112 0 [25],hP 0 0 [],hP 0 0 [],hE 783 0 [6,22],hE 2047 1 [7,26]],2,[(3,[0]),(7,[0,1])]⟩⟩))) (nO .nil (nL (nO .nil (nL ⟨[],0,⟨[hP 0 0 [0],hP 1 0 [11],hP 3 0 [12],hR 7 0 [13],hR 0 0 [1],hP 31 0 [14,15],hP 63 0 [16]],0,[(3,[0]),(4,[0])]⟩⟩)))) (nO (nS (nO (nL ⟨[],0,⟨[hR 0 0 [0],hR 0 0 [0],hP 2 0 [4],hP 6 0 [5],hP 14 0 [6],hR 30 0 [7],hP 0 0 [1],hR 64 0 [9],hP 254 0 [8,10],hP 510 0 [11],hR 1022 0 [12],hE 2047 0 [3,13],hP 4095 1 [14]],1,[(0,[0]),(1,[0]),(5,[0]),(7,[0]),(10,[0])]⟩⟩) .nil) (nL (nO (nL ⟨[],0,⟨[hR 0 0 [0],hP 1 0 [4],hP 3 0 [5],hR 7 0 [6],hP 15 0 [7],hP 31 0 [8],hR 63 0 [9],hR 0 0 [0],hP 128 0 [11],hP 384 0 [12],hR 896 0 [13],hE 2047 0 [10,14],hP 4095 1 [15]],1,[(0,[0]),(3,[0]),(6,[0]),(7,[0]),(10,[0])]⟩⟩) (nO (nL ⟨[],0,⟨[hR 0 0 [0],hP 1 0 [18],hP 3 0 [19],hR 7 0 [20],hR 0 0 [0],hP 16 0 [22],hP 48 0 [23],hR 112 0 [24],hP 240 0 [25],hP 496 0 [26],hR 1008 0 [27],hP 0 0 [3],hP 0 0 [3],hP 4096 0 [30],hE 16368 0 [28,29,31],hP 32767 1 [21],hP 65535 1 [33],hE 131071 1 [34,32]],2,[(0,[0,1]),(3,[0,1]),(4,[0]),(7,[0]),(10,[0])]⟩⟩) .nil))) .nil) .nil))))))
end Go.As.Try
end
section
namespace Go.As.Try
open Go Go.As Go.Proofs
set_option maxRecDepth 100000
theorem ahY:(List.range 308).map tab.get=(List.range 308).map (asP Tryz.prog):=by kernel_rfl
theorem WW:(List.range 263).map UC.get=(List.range 263).map (fun g=>Tryz.prog.funcs[g]?):=by kernel_rfl
theorem anK:(List.range 263).all (fun g=>match UC.get g with | some f=>aA8 (Vl (lim 308 tab) (hAt htab) g) f | none=>true)=true:=by kernel_rfl
theorem mixed:Tryz.prog.follows .mixedOrders=true:=by kernel_rfl
end Go.As.Try
namespace Go.Proofs
open Go.Shelf
def Tryz.laysM144_ren:Go.Shelf.Ren:=⟨fun | 144=>189 | 143=>210 | 219=>222 | 217=>221 | 225=>230 | 224=>231 | 267=>232 | 266=>229 | 314=>238 | n=>n,fun | 9=>9 | 4=>4 | 3=>3 | 5=>5 | 46=>283 | 146=>289 | 51=>286 | n=>n,fun | 1=>0 | n=>n⟩
theorem Tryz.laysM144:Go.Proofs.LaysM.n144 Tryz.prog Tryz.laysM144_ren where
 mixed:=by kernel_rfl
 f143:=Tryz.func210.trans (congrArg some (by kernel_rfl))
 f144:=Tryz.func189.trans (congrArg some (by kernel_rfl))
 f217:=Tryz.func221.trans (congrArg some (by kernel_rfl))
 f219:=Tryz.func222.trans (congrArg some (by kernel_rfl))
 f224:=Tryz.func231.trans (congrArg some (by kernel_rfl))
 f225:=Tryz.func230.trans (congrArg some (by kernel_rfl))
 f266:=Tryz.func229.trans (congrArg some (by kernel_rfl))
 f267:=Tryz.func232.trans (congrArg some (by kernel_rfl))
 f314:=Tryz.func238.trans (congrArg some (by kernel_rfl))
 t3:=Tryz.underlying3
 a3:=Tryz.isAgg3
 z3:=Tryz.sizeOf3
 v3:=Tryz.zeroValue3
 t4:=Tryz.underlying4
 a4:=Tryz.isAgg4
 z4:=Tryz.sizeOf4
 v4:=Tryz.zeroValue4
 t5:=Tryz.underlying5
 a5:=Tryz.isAgg5
 z5:=Tryz.sizeOf5
 v5:=Tryz.zeroValue5
 t9:=Tryz.underlying9
 a9:=Tryz.isAgg9
 z9:=Tryz.sizeOf9
 v9:=Tryz.zeroValue9
 t46:=Tryz.underlying283
 a46:=Tryz.isAgg283
 z46:=Tryz.sizeOf283
 v46:=Tryz.zeroValue283
 t51:=Tryz.underlying286
 a51:=Tryz.isAgg286
 z51:=Tryz.sizeOf286
 v51:=Tryz.zeroValue286
 t146:=Tryz.underlying289
 a146:=Tryz.isAgg289
 z146:=Tryz.sizeOf289
 v146:=Tryz.zeroValue289
 g1:=by kernel_rfl
 i3:=by kernel_rfl
 i4:=by kernel_rfl
 i5:=by kernel_rfl
 i9:=by kernel_rfl
 i46:=by kernel_rfl
 i51:=by kernel_rfl
 i146:=by kernel_rfl
 m1:=by kernel_rfl
 s1_3:=fun w h=>Go.Proofs.cell_of_shapedOpen_int (zero:=#[.int .i64 0]) (t:=3) h (of_decide_eq_true (by kernel_rfl)) (by kernel_rfl) rfl (by kernel_rfl) (by kernel_rfl) Tryz.underlying3
end Go.Proofs
end
section
namespace Go.As
noncomputable section
open Go.RowKit
def zK:List AV→St→T (AV×St):=fun args s=>match args with
 | [.mF e,.int .u8 (.lit (.ofNat c))]=>if c < 256 then .ret (.int .i64 (.op .cnt e (.lit (Int.ofNat c))),s) else .fail
 | args=>Ir args s
def zJ:List AV→St→T (AV×St):=fun args s=>match args with
 | [.mF e,.int .u8 (.lit (.ofNat c))]=>if c < 256 then .ret (.int .i64 (.op .idx e (.lit (Int.ofNat c))),s) else .fail
 | args=>Iq args s
def rQ:List AV→St→T (AV×St):=fun args s=>match args with
 | [.str b,.mF e]=>if b.length < 4294967281 then .ret (.bool (.not (.eq (.op .con (.dat (oG b)) e) (.lit 0))),s) else .fail
 | args=>zL args s
theorem adT {x:UInt8} {c:Nat} (hc:c < 256):(D.i (x.toNat:Int)= .i (c:Int))↔x=UInt8.ofNat c:=by
 simp only [D.i.injEq,Int.ofNat_inj]
 constructor
 ·intro h
  rw [← h]
  simp
 ·intro h
  rw [h,UInt8.toNat_ofNat']
  omega
theorem adV {c:Nat} (hc:c < 256): ∀l:List UInt8,(Lib.countByte l (UInt8.ofNat c):Int)=aqZ (l.map fun b=> .i (b.toNat:Int)) (c:Int)
 | []=>rfl
 | x :: xs=>by
   have ih:=adV hc xs
   unfold Lib.countByte at *
   rw [List.count_cons,List.map_cons]
   simp only [aqZ]
   rw [← ih]
   by_cases h:x=UInt8.ofNat c
   ·rw [if_pos ((adT hc).2 h),if_pos (by simpa using h)]
    omega
   ·rw [if_neg (fun q=>h ((adT hc).1 q)),if_neg (by simpa using h)]
    omega
theorem Xz {c:Nat} (hc:c < 256): ∀(l:List UInt8) (i:Nat),(Lib.indexByte l (UInt8.ofNat c)= -1→wH (c:Int) (l.map fun b=> .i (b.toNat:Int)) (i:Int)= -1)∧(Lib.indexByte l (UInt8.ofNat c)≠-1→wH (c:Int) (l.map fun b=> .i (b.toNat:Int)) (i:Int)=(i:Int)+Lib.indexByte l (UInt8.ofNat c))
 | [],i=> ⟨fun _=>rfl,fun h=>absurd rfl h⟩
 | x :: xs,i=>by
   obtain⟨ih1,ih2⟩:=Xz hc xs (i+1)
   have hge:=Lib.indexByte_ge xs (UInt8.ofNat c)
   have hcast:(((i+1:Nat):Int))=(i:Int)+1:=by omega
   rw [hcast] at ih1 ih2
   have key:Lib.indexByte (x :: xs) (UInt8.ofNat c)=if x=UInt8.ofNat c then 0 else if Lib.indexByte xs (UInt8.ofNat c)= -1 then -1 else Lib.indexByte xs (UInt8.ofNat c)+1:=by
    simp only [Lib.indexByte,beq_iff_eq]
   have key2:wH (c:Int) ((x :: xs).map fun b=> .i (b.toNat:Int)) (i:Int)=if (x.toNat:Int)=(c:Int) then (i:Int) else wH (c:Int) (xs.map fun b=> .i (b.toNat:Int)) ((i:Int)+1):=rfl
   by_cases h:x=UInt8.ofNat c
   ·have h':=(adT hc).2 h
    simp only [D.i.injEq] at h'
    rw [key,key2,if_pos h,if_pos h']
    exact⟨fun q=>by omega,fun _=>by omega⟩
   ·have h': ¬(x.toNat:Int)=(c:Int):=fun q=>h ((adT hc).1 (by rw [q]))
    rw [key,key2,if_neg h,if_neg h']
    by_cases hi:Lib.indexByte xs (UInt8.ofNat c)= -1
    ·rw [if_pos hi]
     exact⟨fun _=>ih1 hi,fun q=>absurd rfl q⟩
    ·rw [if_neg hi]
     exact⟨fun q=>by omega,fun _=>by rw [ih2 hi]; omega⟩
theorem axB {c:Nat} (hc:c < 256) (l:List UInt8):OA (l.map fun b=> .i (b.toNat:Int)) (c:Int)=Lib.indexByte l (UInt8.ofNat c):=by
 obtain⟨h1,h2⟩:=Xz hc l 0
 unfold OA
 by_cases h:Lib.indexByte l (UInt8.ofNat c)= -1
 ·have:=h1 h
  rw [h]; exact this
 ·have:=h2 h
  rw [show ((0:Nat):Int)=0 from rfl,Int.zero_add] at this
  exact this
theorem adS: ∀(c s:List UInt8),Z7 (c.map fun b=> .i (b.toNat:Int)) (s.map fun b=> .i (b.toNat:Int))=c.isPrefixOf s
 | [],s=>by simp [Z7]
 | _ :: _,[]=>rfl
 | a :: x,b :: y=>by
   simp only [List.map_cons,Z7,List.isPrefixOf,adS x y]
   congr 1
   rw [Bool.eq_iff_iff,decide_eq_true_eq,beq_iff_eq]
   simp only [D.i.injEq,Int.ofNat_inj]
   exact UInt8.toNat_inj
theorem adU (c:List UInt8): ∀s:List UInt8,agZ (s.map fun b=> .i (b.toNat:Int)) (c.map fun b=> .i (b.toNat:Int))=Lib.contains s c
 | []=>by
   cases c <;> simp [agZ,Z7,Lib.contains,Lib.index]
 | b :: bs=>by
   have ih:=adU c bs
   have hp:=adS c (b :: bs)
   simp only [List.map_cons] at hp
   unfold Lib.contains at *
   simp only [List.map_cons,Lib.index,agZ]
   rw [hp,ih]
   have hge:=index_ge c bs
   have key:(0≤(if c.isPrefixOf (b :: bs)=true then (0:Int) else if (Lib.index bs c == -1)=true then -1 else Lib.index bs c+1))↔(c.isPrefixOf (b :: bs)=true∨0≤Lib.index bs c):=by
    by_cases hq:c.isPrefixOf (b :: bs)=true
    ·simp [hq]
    ·by_cases h1:Lib.index bs c= -1
     ·simp [hq,h1]
     ·simp only [beq_iff_eq,hq,h1,if_false,false_or,Bool.false_eq_true]
      omega
   rw [Bool.eq_iff_iff,Bool.or_eq_true,decide_eq_true_eq]
   exact key.symm.trans decide_eq_true_iff.symm
section
variable {P:Program}
theorem ahB [Glob] {g:FuncId} {fn:Func} (hf:P.funcs[g]?=some fn) (hname:(fn.name == "runtime.NumGoroutine")=false) (hb:fn.body.isNone=true) (hn:Extern.findNext fn=none) (he:Extern.find fn=some Extern.BytealgCount.count):mQ P g zK:=by
 intro aF7 s E w vals u s' r hv hp hl
 unfold zK at hl
 split at hl
 ·rename_i e c
  split at hl
  ·rename_i hc
   have:=aG hl
   simp only [Prod.mk.injEq] at this
   obtain⟨rfl,rfl⟩:=this
   simp only [bK,VR,SE.den] at hv
   obtain⟨u1,r1,rfl,hrd,u2,r2,rfl,rfl,rfl⟩:=hv
   obtain⟨st,rfl,hd⟩:=hrd.string
   refine⟨rfl,hp,?_⟩
   unfold uD tZ
   rw [Dl hf hname hb hn he (Lib.run_countString st (Int.ofNat c) w)]
   refine⟨E,Stp.refl _ _ _,r,?_⟩
   simp only [VR,SE.den,iJ.den]
   have:(Int.ofNat c).toNat.toUInt8=UInt8.ofNat c:=rfl
   rw [this,adV hc,hd]
   unfold Ag vM
   rw [aX]
   rfl
  ·simp [T.leaf] at hl
 ·exact arA hf hname hb hn he _ _ _ _ _ _ _ r hv hp hl
theorem agE [Glob] {g:FuncId} {fn:Func} (hf:P.funcs[g]?=some fn) (hname:(fn.name == "runtime.NumGoroutine")=false) (hb:fn.body.isNone=true) (hn:Extern.findNext fn=none) (he:Extern.find fn=some Extern.BytealgIndexByte.indexByte):mQ P g zJ:=by
 intro aF7 s E w vals u s' r hv hp hl
 unfold zJ at hl
 split at hl
 ·rename_i e c
  split at hl
  ·rename_i hc
   have:=aG hl
   simp only [Prod.mk.injEq] at this
   obtain⟨rfl,rfl⟩:=this
   simp only [bK,VR,SE.den] at hv
   obtain⟨u1,r1,rfl,hrd,u2,r2,rfl,rfl,rfl⟩:=hv
   obtain⟨st,rfl,hd⟩:=hrd.string
   refine⟨rfl,hp,?_⟩
   unfold uD tZ
   rw [Dl hf hname hb hn he (Lib.run_indexByteString st (Int.ofNat c) w)]
   refine⟨E,Stp.refl _ _ _,r,?_⟩
   simp only [VR,SE.den,iJ.den]
   have:(Int.ofNat c).toNat.toUInt8=UInt8.ofNat c:=rfl
   rw [this,← axB hc,hd]
   unfold Ag vM
   rw [aX]
   rfl
  ·simp [T.leaf] at hl
 ·exact amO hf hname hb hn he _ _ _ _ _ _ _ r hv hp hl
theorem Vh [Glob] {g:FuncId} (hg: ∀(ρ:Nat→Int) (ro:Nat→Prop) (w:World),Glob.ok ρ ro w.heap→∀s sub:ByteArray,s.size < 4294967281→Calls P g #[.string s,.string sub] w fun e w'=>e= .returned (.bool (Lib.contains s.data.toList sub.data.toList))∧w'=w)
 (hrun: ∀(args:Array Value) (w:World),(callFunc g args).run P w= .ok (.enter g args) w):mQ P g rQ:=by
 intro aF7 s E w vals u s' r hv hp hl
 unfold rQ at hl
 split at hl
 ·rename_i b e
  split at hl
  ·rename_i hlen
   have:=aG hl
   simp only [Prod.mk.injEq] at this
   obtain⟨rfl,rfl⟩:=this
   simp only [bK,VR] at hv
   obtain⟨u1,r1,rfl,⟨rfl,hbb⟩,u2,r2,rfl,hrd,rfl⟩:=hv
   obtain⟨st,rfl,hd⟩:=hrd.string
   refine⟨rfl,hp,?_⟩
   unfold uD tZ
   rw [hrun]
   refine Calls.mono (hg E.ρ E.ro w r.glob (cO b) st (by simpa [cO,ByteArray.size] using hlen)) fun e' w' ⟨he,hw⟩=>?_
   subst hw
   refine⟨_,he,E,Stp.refl _ _ _,r,?_⟩
   simp only [VR,SB.den,SE.den,iJ.den,aF]
   have h2:(cO b).data.toList=b.map UInt8.ofNat:=by simp [cO]
   rw [h2,hd,Gz b hbb]
   unfold Ag vM
   rw [aX,aX,adU]
   cases Lib.contains (b.map UInt8.ofNat) st.data.toList <;> rfl
  ·simp [T.leaf] at hl
 ·exact XB hg hrun _ _ _ _ _ _ _ r hv hp hl
end
end
end Go.As
end
section
namespace Go.As
noncomputable section
open Go.RowKit
mutual
def jU (h:Hp):AV→AV→Bool
 | .bool (.lit a),v=>match v with
   | .bool (.lit b)=>a == b
   | _=>false
 | .int k (.lit a),v=>match v with
   | .int k' (.lit b)=>decide (k=k') && decide (a=b)
   | _=>false
 | .str s,v=>match v with
   | .str t=>jF s t
   | _=>false
 | .aC,v=>match v with
   | .aC=>true
   | _=>false
 | .agg ks,v=>match v with
   | .agg cs=>Nat.beq ks.length cs.length && zA h ks cs
   | _=>false
 | .ro ks n false,v=>match v with
   | .slice id off len _=>match Nat.beq n len with
     | true=>match n with
       | 0=>false
       | _=>match h.get id with
         | some (.cells cs _)=>match fE off cs with
           | some l=>zA h ks l
           | none=>false
         | _=>false
     | false=>false
   | .ro cs m _=>Nat.beq n m && zA h ks cs
   | _=>false
 | _,_=>false
def zA (h:Hp):List AV→List AV→Bool
 | [],_=>true
 | k :: ks,l=>match l with
   | v :: vs=>match jU h k v with
     | true=>zA h ks vs
     | false=>false
   | []=>false
end
def Rf (h:Hp) (aF7:List AV):List (List AV×AV)→Option AV
 | []=>none
 | (k,v) :: l=>match Nat.beq k.length aF7.length with
   | true=>match zA h k aF7 with
     | true=>some v
     | false=>Rf h aF7 l
   | false=>Rf h aF7 l
def alT (tbl:List (List AV×AV)):List AV→St→T (AV×St):=fun aF7 s=>match Rf s.h aF7 tbl with
 | some v=> .ret (v,s)
 | none=> .fail
def Zq (key:List AV) (v:AV) (f:List AV→St→T (AV×St)):Bool:=
 jO v && (match f key ⟨.nil,Hp.zero,[]⟩ with | .ret (u,_)=>eP u v | _=>false)
section
variable {P:Program}
mutual
theorem afY [Glob] {E:En} {H:Hp} {w:World} (r:bI E H w) (ρ:Nat→Int): ∀(key v:AV) (u:Value),jU H key v=true→VR E w.heap v u→VR (En.zero ρ (fun b=>b < w.heap.size)) w.heap key u
 | .bool b,v,u,hm,hv=>by
   cases b <;> simp only [jU,Bool.false_eq_true] at hm
   split at hm
   ·simp only [beq_iff_eq] at hm
    subst hm
    simpa [VR,SB.den] using hv
   ·simp at hm
 | .int k e,v,u,hm,hv=>by
   cases e <;> simp only [jU,Bool.false_eq_true] at hm
   split at hm
   ·simp only [Bool.and_eq_true,decide_eq_true_eq] at hm
    obtain⟨rfl,rfl⟩:=hm
    simpa [VR,SE.den] using hv
   ·simp at hm
 | .str s,v,u,hm,hv=>by
   simp only [jU] at hm
   split at hm
   ·have:=(pO _ _).1 hm
    subst this
    simpa only [VR] using hv
   ·simp at hm
 | .aC,v,u,hm,hv=>by
   simp only [jU] at hm
   split at hm
   ·simpa only [VR] using hv
   ·simp at hm
 | .agg ks,v,u,hm,hv=>by
   simp only [jU] at hm
   split at hm
   ·rename_i cs
    simp only [Bool.and_eq_true] at hm
    simp only [VR] at hv ⊢
    obtain⟨us,rfl,h2⟩:=hv
    obtain⟨h3,h4⟩:=yA r ρ ks cs us hm.2 h2
    have e:=Nat.eq_of_beq_eq_true hm.1
    rw [e,← h2.length,List.take_length] at h3
    exact⟨us,rfl,h3⟩
   ·simp at hm
 | .ro ks n true,v,u,hm,hv=>by simp [jU] at hm
 | .ro ks n false,v,u,hm,hv=>by
   simp only [jU] at hm
   split at hm
   ·rename_i id off len c
    split at hm
    ·rename_i hn
     have hn:=Nat.eq_of_beq_eq_true hn
     subst hn
     split at hm
     ·simp at hm
     ·rename_i hn0
      split at hm
      ·rename_i cs e hg
       split at hm
       ·rename_i l hl
        simp only [VR] at hv ⊢
        obtain⟨hd,a,cap,rfl,hle,hcap⟩:=hv
        obtain⟨_,ho,_⟩:=r.live id _ hg
        simp only [OR] at ho
        obtain⟨arr,lo,hi,us,hb,h2,h3,_,_,_,h7⟩:=ho
        obtain⟨q1,q2,q3⟩:=h2.fE hl
        obtain⟨p1,p2⟩:=yA r ρ ks l _ hm q1
        have ha:a=⟨(E.θ id).1,(E.θ id).2+off,none⟩:=by
         cases c with
         | exact c=>
           simp only [fJ] at hcap
           rcases hcap.2 with h | h
           ·exact h
           ·exact absurd (by omega) hn0
         | rest es=>
           simp only [fJ] at hcap
           rcases hcap with h | h
           ·exact h.1
           ·exact absurd (by omega) hn0
        subst ha
        have hlt:(E.θ id).1 < w.heap.size:=(Array.getElem?_eq_some_iff.1 hb).1
        refine⟨_,_,cap,_,rfl,hle,by simp,hlt,p1,?_,?_⟩
        ·intro i x hx
         have hx':us[off+i]?=some x:=by
          rw [List.getElem?_take] at hx
          split at hx
          ·rw [List.getElem?_drop] at hx; exact hx
          ·simp at hx
         have:=h3 _ _ hx'
         unfold hcell
         rw [hb]
         simp only
         rw [← this]
         congr 1
         omega
        ·intro x hx
         exact h7 x (List.mem_of_mem_drop (List.mem_of_mem_take hx))
       ·simp at hm
      ·simp at hm
    ·simp at hm
   ·rename_i cs m f
    simp only [Bool.and_eq_true] at hm
    have hn:=Nat.eq_of_beq_eq_true hm.1
    subst hn
    simp only [VR] at hv ⊢
    obtain⟨b,o,cap,us,rfl,h2,h3,h4,h5,h6,h7⟩:=hv
    obtain⟨p1,p2⟩:=yA r ρ ks cs _ hm.2 h5
    refine⟨b,o,cap,_,rfl,h2,by simp,r.Bg b h4,p1,?_,fun x hx=>h7 x (List.mem_of_mem_take hx)⟩
    intro i x hx
    rw [List.getElem?_take] at hx
    split at hx
    ·exact h6 i x hx
    ·simp at hx
   ·simp at hm
 | .ptr _ _,v,u,hm,_=>by simp [jU] at hm
 | .jJ,v,u,hm,_=>by simp [jU] at hm
 | .qZ _,v,u,hm,_=>by simp [jU] at hm
 | .slice _ _ _ _,v,u,hm,_=>by simp [jU] at hm
 | .map _,v,u,hm,_=>by simp [jU] at hm
 | .mD,v,u,hm,_=>by simp [jU] at hm
 | .func _ _ _,v,u,hm,_=>by simp [jU] at hm
 | .yZ,v,u,hm,_=>by simp [jU] at hm
 | .iface _ _,v,u,hm,_=>by simp [jU] at hm
 | .Ey,v,u,hm,_=>by simp [jU] at hm
 | .tuple _,v,u,hm,_=>by simp [jU] at hm
 | .opq _,v,u,hm,_=>by simp [jU] at hm
 | .inp _ _,v,u,hm,_=>by simp [jU] at hm
theorem yA [Glob] {E:En} {H:Hp} {w:World} (r:bI E H w) (ρ:Nat→Int): ∀(ks vs:List AV) (us:List Value),zA H ks vs=true→bK E w.heap vs us→
 bK (En.zero ρ (fun b=>b < w.heap.size)) w.heap ks (us.take ks.length)∧ks.length≤us.length
 | [],vs,us,_,_=>by simp [bK]
 | k :: ks,[],us,hm,_=>by simp [zA] at hm
 | k :: ks,v :: vs,us,hm,hv=>by
   simp only [zA] at hm
   split at hm
   ·rename_i h1
    rw [aZ] at hv
    obtain⟨u,us',rfl,hu,hus⟩:=hv
    obtain⟨p1,p2⟩:=yA r ρ ks vs us' hm hus
    rw [List.length_cons,List.take_succ_cons,aZ]
    exact⟨⟨u,_,rfl,afY r ρ k v u h1 hu,p1⟩,by simp; exact p2⟩
   ·simp at hm
end
theorem MZ {h:Hp} {aF7:List AV} {v:AV}: ∀{tbl:List (List AV×AV)},Rf h aF7 tbl=some v→∃k,(k,v)∈tbl∧k.length=aF7.length∧zA h k aF7=true
 | [],hl=>by simp [Rf] at hl
 | (k,x) :: l,hl=>by
   simp only [Rf] at hl
   split at hl
   ·rename_i h1
    split at hl
    ·rename_i h2
     simp only [Option.some.injEq] at hl
     subst hl
     exact⟨k,by simp,Nat.eq_of_beq_eq_true h1,h2⟩
    ·obtain⟨k',h1,h2⟩:=MZ hl
     exact⟨k',by simp [h1],h2⟩
   ·obtain⟨k',h1,h2⟩:=MZ hl
    exact⟨k',by simp [h1],h2⟩
theorem alS [Glob] {g:FuncId} {f:List AV→St→T (AV×St)} (hf:mQ P g f) {fn:Func} (hfn:P.funcs[g]?=some fn) (hname:(fn.name == "runtime.NumGoroutine")=false) {c:Code} (hb:fn.body=some c)
 {tbl:List (List AV×AV)} (h: ∀p∈tbl,Zq p.1 p.2 f=true):mQ P g (alT tbl):=by
 intro aF7 s E w vals u s' r hv hp hl
 unfold alT at hl
 split at hl
 ·rename_i v hlook
  have:=aG hl
  simp only [Prod.mk.injEq] at this
  obtain⟨rfl,rfl⟩:=this
  obtain⟨k,hmem,hlen,aFq⟩:=MZ hlook
  have hk:=h _ hmem
  unfold Zq at hk
  simp only [Bool.and_eq_true] at hk
  obtain⟨h2,h3⟩:=hk
  split at h3
  ·rename_i u' s1 hrun
   have hu:=nP _ _ h3
   subst hu
   obtain⟨p1,_⟩:=yA r E.ρ k aF7 vals aFq hv
   rw [hlen,← hv.length,List.take_length] at p1
   have hgl:Glob.ok E.ρ (fun b=>b < w.heap.size) w.heap:=Glob.keep r.glob r.Bg fun _ _=>rfl
   have hc:=GV hf hfn hname hb (ρ:=E.ρ) (ro:=fun b=>b < w.heap.size) (w:=w) (fun _ h=>h) hgl p1 (v:=u') (s':=s1) (by rw [hrun]; rfl)
   refine⟨rfl,hp,?_⟩
   have hrun:(callFunc g vals.toArray).run P w= .ok (.enter g vals.toArray) w:=by
    unfold callFunc
    simp [hfn,hb,by simpa using hname]
   unfold uD tZ
   rw [hrun]
   exact Calls.mono hc fun e w' ⟨x,E',he,hx,_,hbl⟩=> ⟨x,he,E,(DC r hbl).1,(DC r hbl).2,Dx u' x h2 hx⟩
  ·simp at h3
 ·simp [T.leaf] at hl
end
end
end Go.As
end
section
namespace Go.As.Try
open Go Go.As Go.Proofs Go.RowKit
set_option maxRecDepth 100000
def maxLen:Nat:=Tryz.laysM144_ren.g 1
def base:X0 where
 ok ro h:=ro maxLen∧∃m,hcell h maxLen 0=some (.int .i64 m)
 keep:=by
  intro ro ro' h h' hk h1 h2
  obtain⟨a,m,hm⟩:=hk
  refine⟨h1 _ a,m,?_⟩
  unfold hcell at *
  rw [h2 _ a]
  exact hm
noncomputable def tt0:TT:=lim 308 tab
noncomputable def ft:Nat→Option Func:=lim 263 UC
def owns:List (Nat×Nat):=[(22,3),(23,4),(26,0),(30,9),(31,7),(32,8),(47,0),(59,2),(60,5),(64,6),(262,14),(268,14),(165,1),(193,0),(233,1)]
noncomputable def ttE:TT:=Wn owns tt0
noncomputable def hints:Nat→Nat→Option Td:=hAt htab
theorem Le:dZ Tryz.prog tt0:=asJ ahY
theorem ahZ:dZ Tryz.prog ttE:=auC Le
theorem adC:ahG Tryz.prog (Vl tt0 hints) ft:=auZ WW anK
theorem aBB:ahG Tryz.prog (Vl ttE hints) ft:=by unfold ttE; rw [arD]; exact adC
def b (n:Nat):AV:=.int .u8 (.lit (.ofNat n))
def OE:AV:=.agg [b 0,b 0,b 0,b 0,b 0,b 0,b 0,b 0,b 0,b 1,b 1,b 0,b 0,b 1,b 0,b 0,b 0,b 0,b 0,b 0,b 0,b 0,b 0,b 0,b 0,b 0,b 0,b 0,b 0,b 0,b 0,b 0,b 1,b 0,b 0,b 2,b 0,b 0,b 0,b 0,b 5,b 5,b 5,b 5,b 0,b 5,b 0,b 0,b 3,b 3,b 3,b 3,b 3,b 3,b 3,b 3,b 3,b 3,b 0,b 5,b 5,b 5,b 0,b 0,b 0,b 4,b 4,b 4,b 4,b 4,b 4,b 4,b 4,b 4,b 4,b 4,b 4,b 4,b 4,b 4,b 4,b 4,b 4,b 4,b 4,b 4,b 4,b 4,b 4,b 4,b 4,b 0,b 0,b 0,b 0,b 4,b 0,b 4,b 4,b 4,b 4,b 4,b 4,b 4,b 4,b 4,b 4,b 4,b 4,b 4,b 4,b 4,b 4,b 4,b 4,b 4,b 4,b 4,b 4,b 4,b 4,b 4,b 4,b 5,b 0,b 5,b 0,b 0,b 0,b 0,b 0,b 0,b 0,b 0,b 0,b 0,b 0,b 0,b 0,b 0,b 0,b 0,b 0,b 0,b 0,b 0,b 0,b 0,b 0,b 0,b 0,b 0,b 0,b 0,b 0,b 0,b 0,b 0,b 0,b 0,b 0,b 0,b 0,b 0,b 0,b 0,b 0,b 0,b 0,b 0,b 0,b 0,b 0,b 0,b 0,b 0,b 0,b 0,b 0,b 0,b 0,b 0,b 0,b 0,b 0,b 0,b 0,b 0,b 0,b 0,b 0,b 0,b 0,b 0,b 0,b 0,b 0,b 0,b 0,b 0,b 0,b 0,b 0,b 0,b 0,b 0,b 0,b 0,b 0,b 0,b 0,b 0,b 0,b 0,b 0,b 0,b 0,b 0,b 0,b 0,b 0,b 0,b 0,b 0,b 0,b 0,b 0,b 0,b 0,b 0,b 0,b 0,b 0,b 0,b 0,b 0,b 0,b 0,b 0,b 0,b 0,b 0,b 0,b 0,b 0,b 0,b 0,b 0,b 0,b 0,b 0,b 0,b 0,b 0,b 0,b 0]
theorem Jv {g:Nat} {f:Func} (h:UC.get g=some f) (hg:g < 263):Tryz.prog.funcs[g]?=some f:=by
 have:=congrArg (fun l=>l[g]?) WW
 simp only [List.getElem?_map,List.getElem?_range hg,Option.map_some,Option.some.injEq] at this
 rw [← this]
 exact h
theorem aA0 {g:Nat} {f:Func} (hf:Tryz.prog.funcs[g]?=some f) (hn:(f.name == "runtime.NumGoroutine")=false) (hb:f.body.isNone=false): ∀(args:Array Value) (w:World),(callFunc g args).run Tryz.prog w= .ok (.enter g args) w:=by
 intro args w
 unfold callFunc
 simp only [Sem.run_bind,run_program,Result.andThen_ok,hf]
 rw [hn,hb]
 simp
def acY (g:Nat):Option (List AV→St→T (AV×St)):=
 match Nat.beq g 209 with
 | true=>some zK
 | false=>match Nat.beq g 229 with
   | true=>some zJ
   | false=>match Nat.beq g 189 with
     | true=>some rQ
     | false=>none
theorem aA3:Tryz.laysM144_ren.f 144=189:=by kernel_rfl
section
variable (I:Glob) (hI: ∀ρ ro h,I.ok ρ ro h→base.ok ro h)
theorem f209:@mQ I Tryz.prog 209 zK:=@ahB _ I 209 Tryz.f209 (Jv (by kernel_rfl) (by decide)) (by kernel_rfl) (by kernel_rfl) (by kernel_rfl) (by kernel_rfl)
theorem f229:@mQ I Tryz.prog 229 zJ:=@agE _ I 229 Tryz.f229 (Jv (by kernel_rfl) (by decide)) (by kernel_rfl) (by kernel_rfl) (by kernel_rfl) (by kernel_rfl)
include hI in
theorem f189:@mQ I Tryz.prog 189 rQ:=by
 letI:=I
 refine Vh ?_ (aA0 (f:=Tryz.f189) (Jv (by kernel_rfl) (by decide)) (by kernel_rfl) (by kernel_rfl))
 intro ρ ro w hw s sub hs
 obtain⟨_,m,hm⟩:=hI _ _ _ hw
 have:=Any.strings_Contains { Tryz.laysM144 with } s sub m w hs (by rw [sU]; exact hm)
 rw [aA3] at this
 exact this
include hI in
theorem WR: ∀(g:Nat) (h:List AV→St→T (AV×St)),acY g=some h→@mQ I Tryz.prog g h:=by
 intro g h hh
 unfold acY at hh
 split at hh
 ·rename_i hg
  have:=Nat.eq_of_beq_eq_true hg
  subst this
  simp at hh
  subst hh
  exact f209 I
 ·split at hh
  ·rename_i hg
   have:=Nat.eq_of_beq_eq_true hg
   subst this
   simp at hh
   subst hh
   exact f229 I
  ·split at hh
   ·rename_i hg
    have:=Nat.eq_of_beq_eq_true hg
    subst this
    simp at hh
    subst hh
    exact f189 I hI
   ·simp at hh
end
noncomputable def aDp (g:Nat):List AV→St→T (AV×St):=UR tt0 ft acY (Sl tt0 hints) 100000 60 g
theorem atV (I:Glob) (hI: ∀ρ ro h,I.ok ρ ro h→base.ok ro h) (g:Nat):@mQ I Tryz.prog g (aDp g):=@Gu _ I _ Le _ _ adC _ (WR I hI) _ (fun _ hc=>@Gx _ I _ Le mixed _ _ hc) 100000 60 g
theorem XD:gives [] OE (aDp 184)=true:=by kernel_rfl
theorem GY {f:Func} (h:f.body.isSome=true): ∃c,f.body=some c:=Option.isSome_iff_exists.1 h
theorem aaA (I:Glob) (hI: ∀ρ ro h,I.ok ρ ro h→base.ok ro h):@mQ I Tryz.prog 184 (memo [] OE):=by
 letI:=I
 obtain⟨c,hb⟩:=GY (f:=Tryz.f184) (by kernel_rfl)
 exact KF (atV I hI 184) (fn:=Tryz.f184) (Jv (by kernel_rfl) (by decide)) (by kernel_rfl) hb XD
def WQ (g:Nat):Option (List AV→St→T (AV×St)):=
 match Nat.beq g 184 with
 | true=>some (memo [] OE)
 | false=>acY g
theorem Nz (I:Glob) (hI: ∀ρ ro h,I.ok ρ ro h→base.ok ro h): ∀(g:Nat) (h:List AV→St→T (AV×St)),WQ g=some h→@mQ I Tryz.prog g h:=by
 intro g h hh
 unfold WQ at hh
 split at hh
 ·rename_i hg
  have:=Nat.eq_of_beq_eq_true hg
  subst this
  simp at hh
  subst hh
  exact aaA I hI
 ·exact WR I hI g h hh
noncomputable def akP (g:Nat):List AV→St→T (AV×St):=UR tt0 ft WQ (Sl tt0 hints) 100000 60 g
theorem Kq (I:Glob) (hI: ∀ρ ro h,I.ok ρ ro h→base.ok ro h) (g:Nat):@mQ I Tryz.prog g (akP g):=@Gu _ I _ Le _ _ adC _ (Nz I hI) _ (fun _ hc=>@Gx _ I _ Le mixed _ _ hc) 100000 60 g
abbrev wN (t:List Nat) (n:Int):List AV:=[.str t,.int .i64 (.lit n)]
abbrev wV (k:Int) (s:List Nat) (a b c d:Int):AV:=.tuple [.agg [.int .u8 (.lit k),.str s,.int .i64 (.lit a),.int .i64 (.lit b),.int .i64 (.lit c),.int .i64 (.lit d)],.agg [.int .i64 (.lit 0),.int .i64 (.lit 0)]]
theorem aBe:gives [.str [97]] (.bool (.lit true)) (akP 131)=true:=by kernel_rfl
theorem aBd:gives [.str [98]] (.bool (.lit true)) (akP 131)=true:=by kernel_rfl
def acO:List AV:=[.agg [.ro [.int .u8 (.lit 1),.str [109],.int .i64 (.lit 0),.str [],.int .i64 (.lit 1)] 1 false,.ro [.str [97],.aC,.ro [.int .u8 (.lit 1),.int .u8 (.lit 1),.int .i64 (.lit 0),.int .i64 (.lit (-1)),.int .i64 (.lit 0),.int .i64 (.lit 0),.aC] 1 false,.str [98],.aC,.ro [.int .u8 (.lit 1),.int .u8 (.lit 1),.int .i64 (.lit 0),.int .i64 (.lit (-1)),.int .i64 (.lit 0),.int .i64 (.lit 0),.aC] 1 false] 2 false]]
theorem aDH:Zq acO (.int .i64 (.lit 0)) (akP 41)=true:=by kernel_rfl
def acM:List (List AV×AV):=[(acO,.int .i64 (.lit 0))]
noncomputable def amZ (g:Nat):Option (List AV→St→T (AV×St)):=
 match Nat.beq g 41 with
 | true=>some (orElse (alT acM) (akP 41))
 | false=>WQ g
theorem amY (I:Glob) (hI: ∀ρ ro h,I.ok ρ ro h→base.ok ro h): ∀(g:Nat) (h:List AV→St→T (AV×St)),amZ g=some h→@mQ I Tryz.prog g h:=by
 intro g h hh
 letI:=I
 unfold amZ at hh
 split at hh
 ·rename_i hg
  have:=Nat.eq_of_beq_eq_true hg
  subst this
  simp only [Option.some.injEq] at hh
  subst hh
  obtain⟨c,hb⟩:=GY (f:=Tryz.f41) (by kernel_rfl)
  refine Ic (alS (Kq I hI 41) (fn:=Tryz.f41) (Jv (by kernel_rfl) (by decide)) (by kernel_rfl) hb fun p hp=>?_) (Kq I hI 41)
  simp only [acM,List.mem_cons,List.not_mem_nil,or_false] at hp
  rcases hp with rfl
  ·exact aDH
 ·skip
  exact Nz I hI g h hh
noncomputable def aDo (g:Nat):List AV→St→T (AV×St):=UR tt0 ft amZ (Sl tt0 hints) 100000 60 g
theorem atU (I:Glob) (hI: ∀ρ ro h,I.ok ρ ro h→base.ok ro h) (g:Nat):@mQ I Tryz.prog g (aDo g):=@Gu _ I _ Le _ _ adC _ (amY I hI) _ (fun _ hc=>@Gx _ I _ Le mixed _ _ hc) 100000 60 g
theorem XG:gives [] (.bool (.lit true)) (aDo 13)=true:=by kernel_rfl
section
variable (I:Glob) (hI: ∀ρ ro h,I.ok ρ ro h→base.ok ro h)
include hI
theorem afV:@mQ I Tryz.prog 131 (memo [.str [97]] (.bool (.lit true))):=by
 letI:=I
 obtain⟨c,hb⟩:=GY (f:=Tryz.f131) (by kernel_rfl)
 exact KF (Kq I hI 131) (fn:=Tryz.f131) (Jv (by kernel_rfl) (by decide)) (by kernel_rfl) hb aBe
theorem afU:@mQ I Tryz.prog 131 (memo [.str [98]] (.bool (.lit true))):=by
 letI:=I
 obtain⟨c,hb⟩:=GY (f:=Tryz.f131) (by kernel_rfl)
 exact KF (Kq I hI 131) (fn:=Tryz.f131) (Jv (by kernel_rfl) (by decide)) (by kernel_rfl) hb aBd
theorem aaC:@mQ I Tryz.prog 13 (memo [] (.bool (.lit true))):=by
 letI:=I
 obtain⟨c,hb⟩:=GY (f:=Tryz.f13) (by kernel_rfl)
 exact KF (atU I hI 13) (fn:=Tryz.f13) (Jv (by kernel_rfl) (by decide)) (by kernel_rfl) hb XG
end
def Zm (g:Nat):Option (List AV→St→T (AV×St)):=
 match Nat.beq g 13 with
  | true=>some (memo [] (.bool (.lit true)))
  | false=>match Nat.beq g 131 with
  | true=>some (orElse (memo [.str [97]] (.bool (.lit true))) (memo [.str [98]] (.bool (.lit true))))
  | false=>WQ g
theorem agF (I:Glob) (hI: ∀ρ ro h,I.ok ρ ro h→base.ok ro h): ∀(g:Nat) (h:List AV→St→T (AV×St)),Zm g=some h→@mQ I Tryz.prog g h:=by
 intro g h hh
 unfold Zm at hh
 split at hh
 ·rename_i hg
  have:=Nat.eq_of_beq_eq_true hg
  subst this
  simp at hh
  subst hh
  exact aaC I hI
 ·skip
  split at hh
  ·rename_i hg
   have:=Nat.eq_of_beq_eq_true hg
   subst this
   simp at hh
   subst hh
   letI:=I
   exact Ic (afV I hI) (afU I hI)
  ·exact Nz I hI g h hh
end Go.As.Try
end
section
namespace Go.As.Try
open Go hiding Stat Spec shape
open Go.As Go.Proofs
set_option maxRecDepth 100000
abbrev aI (n:Nat):AV:=.int .i64 (.aP n)
abbrev aJ (n:Int):AV:=.int .i64 (.lit n)
abbrev aU (n:Nat):AV:=.int .u8 (.aP n)
abbrev aD (n t:Nat):AV:=.dat (.aP n) t
abbrev aS (n:Nat):AV:=.mF (.aP n)
abbrev aB (n:Nat):AV:=.bool (.not (.eq (.aP n) (.lit 0)))
abbrev aV (b n t:Nat):AV:=.uS b (.op .len (.aP n) (.lit 0)) t
abbrev aE (n t:Nat):AV:=.Hq (.aP n) t
def cT0:List Int:=[0,0,0,0,0,0,0,0,0,1,1,0,0,1,0,0,0,0,0,0,0,0,0,0,0,0,0,0,0,0,0,0,1,0,0,2,0,0,0,0,5,5,5,5,0,5,0,0,3,3,3,3,3,3,3,3,3,3,0,5,5,5,0,0,0,4,4,4,4,4,4,4,4,4,4,4,4,4,4,4,4,4,4,4,4,4,4,4,4,4,4,0,0,0,0,4,0,4,4,4,4,4,4,4,4,4,4,4,4,4,4,4,4,4,4,4,4,4,4,4,4,4,4,5,0,5,0,0,0,0,0,0,0,0,0,0,0,0,0,0,0,0,0,0,0,0,0,0,0,0,0,0,0,0,0,0,0,0,0,0,0,0,0,0,0,0,0,0,0,0,0,0,0,0,0,0,0,0,0,0,0,0,0,0,0,0,0,0,0,0,0,0,0,0,0,0,0,0,0,0,0,0,0,0,0,0,0,0,0,0,0,0,0,0,0,0,0,0,0,0,0,0,0,0,0,0,0,0,0,0,0,0,0,0,0,0,0,0,0,0,0,0,0,0,0,0,0,0,0,0,0,0,0,0,0,0]
def aBF:FE:=⟨9000,85,[],[],some (⟨2,[(0,aD 1 7) ],[],[],.lit 0⟩,[],0),[⟨2,[(0,aV 0 1 7)],[.vec (.aP 1) 7 114 []],[],.lit 0⟩,⟨1,[(0,.aC) ],[],[],.lit 0⟩,⟨1,[(0,.slice 0 0 0 (.exact 0))],[.cells [] 114 ],[],.lit 0⟩,⟨8,[(0,aV 0 1 7)],[.vec (.aP 1) 7 114 [(.aP 0,[aI 2,aI 3,aB 4,aI 5,aV 1 6 0,aV 2 7 0])],
 .vec (.aP 6) 0 3 [],
 .vec (.aP 7) 0 2 []],[],.aP 0⟩,⟨8,[(0,aV 0 1 7)],[.vec (.aP 1) 7 114 [(.aP 0,[aI 2,aI 3,aB 4,aI 5,aV 1 6 0,aE 7 0])],
 .vec (.aP 6) 0 3 []],[],.aP 0⟩,⟨8,[(0,aV 0 1 7)],[.vec (.aP 1) 7 114 [(.aP 0,[aI 2,aI 3,aB 4,aI 5,aE 6 0,aV 1 7 0])],
 .vec (.aP 7) 0 2 []],[],.aP 0⟩,⟨8,[(0,aV 0 1 7)],[.vec (.aP 1) 7 114 [(.aP 0,[aI 2,aI 3,aB 4,aI 5,aE 6 0,aE 7 0])]],[],.aP 0⟩],[(3,1)],[11],1,[(8,0)],[],
 [([0,1,0,1,1],⟨4,[(0,aV 0 1 7),(7,aI 2),(8,aI 3)],[.vec (.aP 1) 7 114 []],[],.lit 0⟩),([0,1,0,1,1],⟨1,[(0,.aC),(7,aJ 0),(8,aJ 0) ],[],[],.lit 0⟩),([0,1,0,1,1],⟨1,[(0,.slice 0 0 0 (.exact 0)),(7,aJ 0),(8,aJ 0)],[.cells [] 114 ],[],.lit 0⟩),([0,1,0,1,1],⟨10,[(0,aV 0 1 7),(7,aI 2),(8,aI 3)],[.vec (.aP 1) 7 114 [(.aP 0,[aI 4,aI 5,aB 6,aI 7,aV 1 8 0,aV 2 9 0])],
  .vec (.aP 8) 0 3 [],
  .vec (.aP 9) 0 2 []],[],.lit 0⟩),([0,1,0,1,1],⟨10,[(0,aV 0 1 7),(7,aI 2),(8,aI 3)],[.vec (.aP 1) 7 114 [(.aP 0,[aI 4,aI 5,aB 6,aI 7,aV 1 8 0,aE 9 0])],
  .vec (.aP 8) 0 3 []],[],.lit 0⟩),([0,1,0,1,1],⟨10,[(0,aV 0 1 7),(7,aI 2),(8,aI 3)],[.vec (.aP 1) 7 114 [(.aP 0,[aI 4,aI 5,aB 6,aI 7,aE 8 0,aV 1 9 0])],
  .vec (.aP 9) 0 2 []],[],.lit 0⟩),([0,1,0,1,1],⟨10,[(0,aV 0 1 7),(7,aI 2),(8,aI 3)],[.vec (.aP 1) 7 114 [(.aP 0,[aI 4,aI 5,aB 6,aI 7,aE 8 0,aE 9 0])]],[],.lit 0⟩)]⟩
def aBE:FE:=⟨9050,24,[],[],some (⟨3,[(0,.agg [aD 1 7,aD 2 8]) ],[],[],.lit 0⟩,[],0),[⟨3,[(0,.agg [aD 1 7,aV 0 2 8])],[.vec (.aP 2) 8 92 []],[],.lit 0⟩,⟨2,[(0,.agg [aD 1 7,.aC]) ],[],[],.lit 0⟩,⟨2,[(0,.agg [aD 1 7,.slice 0 0 0 (.exact 0)])],[.cells [] 92 ],[],.lit 0⟩,⟨9,[(0,.agg [aD 1 7,aV 0 2 8])],[.vec (.aP 2) 8 92 [(.aP 0,[aI 3,aV 1 4 0,aU 5,aI 6,aI 7,aI 8])],
 .vec (.aP 4) 0 2 []],[],.aP 0⟩,⟨9,[(0,.agg [aD 1 7,aV 0 2 8])],[.vec (.aP 2) 8 92 [(.aP 0,[aI 3,aE 4 0,aU 5,aI 6,aI 7,aI 8])]],[],.aP 0⟩],[(2,0)],[10],1,[(44,0)],[(0,0,7)],
 [([0,1,0,1,1],⟨5,[(1,.ptr 0 0),(2,.ptr 1 0),(16,aI 1),(17,aI 2)],[.cells [aV 2 3 7,aV 3 4 8] 34,
  .cells [.aC,.aC] 34,
  .vec (.aP 3) 7 114 [],
  .vec (.aP 4) 8 92 []],[],.lit 0⟩),([0,1,0,1,1],⟨4,[(1,.ptr 0 0),(2,.ptr 1 0),(16,aI 1),(17,aI 2)],[.cells [aV 2 3 7,.aC] 34,
  .cells [.aC,.aC] 34,
  .vec (.aP 3) 7 114 []],[],.lit 0⟩),([0,1,0,1,1],⟨4,[(1,.ptr 0 0),(2,.ptr 1 0),(16,aI 1),(17,aI 2)],[.cells [aV 2 3 7,.slice 3 0 0 (.exact 0)] 34,
  .cells [.aC,.aC] 34,
  .vec (.aP 3) 7 114 [],
  .cells [] 92 ],[],.lit 0⟩),([0,1,0,1,1],⟨2,[(1,.ptr 0 0),(2,.ptr 1 0),(16,aJ 0),(17,aJ 0)],[.cells [.aC,aV 2 1 8] 34,
  .cells [.aC,.aC] 34,
  .vec (.aP 1) 8 92 []],[],.lit 0⟩),([0,1,0,1,1],⟨1,[(1,.ptr 0 0),(2,.ptr 1 0),(16,aJ 0),(17,aJ 0)],[.cells [.aC,.aC] 34,
  .cells [.aC,.aC] 34 ],[],.lit 0⟩),([0,1,0,1,1],⟨1,[(1,.ptr 0 0),(2,.ptr 1 0),(16,aJ 0),(17,aJ 0)],[.cells [.aC,.slice 2 0 0 (.exact 0)] 34,
  .cells [.aC,.aC] 34,
  .cells [] 92 ],[],.lit 0⟩),([0,1,0,1,1],⟨2,[(1,.ptr 0 0),(2,.ptr 1 0),(16,aJ 0),(17,aJ 0)],[.cells [.slice 2 0 0 (.exact 0),aV 3 1 8] 34,
  .cells [.aC,.aC] 34,
  .cells [] 114,
  .vec (.aP 1) 8 92 []],[],.lit 0⟩),([0,1,0,1,1],⟨1,[(1,.ptr 0 0),(2,.ptr 1 0),(16,aJ 0),(17,aJ 0)],[.cells [.slice 2 0 0 (.exact 0),.aC] 34,
  .cells [.aC,.aC] 34,
  .cells [] 114 ],[],.lit 0⟩),([0,1,0,1,1],⟨1,[(1,.ptr 0 0),(2,.ptr 1 0),(16,aJ 0),(17,aJ 0)],[.cells [.slice 2 0 0 (.exact 0),.slice 3 0 0 (.exact 0)] 34,
  .cells [.aC,.aC] 34,
  .cells [] 114,
  .cells [] 92 ],[],.lit 0⟩),([0,1,0,1,1,1],⟨5,[(1,.ptr 0 0),(2,.ptr 1 0),(43,aI 1),(44,aI 2)],[.cells [aV 2 3 7,aV 3 4 8] 34,
  .cells [.aC,.aC] 34,
  .vec (.aP 3) 7 114 [],
  .vec (.aP 4) 8 92 []],[],.lit 0⟩),([0,1,0,1,1,1],⟨2,[(1,.ptr 0 0),(2,.ptr 1 0),(43,aJ 0),(44,aJ 0)],[.cells [aV 2 1 7,.aC] 34,
  .cells [.aC,.aC] 34,
  .vec (.aP 1) 7 114 []],[],.lit 0⟩),([0,1,0,1,1,1],⟨2,[(1,.ptr 0 0),(2,.ptr 1 0),(43,aJ 0),(44,aJ 0)],[.cells [aV 2 1 7,.slice 3 0 0 (.exact 0)] 34,
  .cells [.aC,.aC] 34,
  .vec (.aP 1) 7 114 [],
  .cells [] 92 ],[],.lit 0⟩),([0,1,0,1,1,1],⟨4,[(1,.ptr 0 0),(2,.ptr 1 0),(43,aI 1),(44,aI 2)],[.cells [.aC,aV 2 3 8] 34,
  .cells [.aC,.aC] 34,
  .vec (.aP 3) 8 92 []],[],.lit 0⟩),([0,1,0,1,1,1],⟨1,[(1,.ptr 0 0),(2,.ptr 1 0),(43,aJ 0),(44,aJ 0)],[.cells [.aC,.aC] 34,
  .cells [.aC,.aC] 34 ],[],.lit 0⟩),([0,1,0,1,1,1],⟨1,[(1,.ptr 0 0),(2,.ptr 1 0),(43,aJ 0),(44,aJ 0)],[.cells [.aC,.slice 2 0 0 (.exact 0)] 34,
  .cells [.aC,.aC] 34,
  .cells [] 92 ],[],.lit 0⟩),([0,1,0,1,1,1],⟨4,[(1,.ptr 0 0),(2,.ptr 1 0),(43,aI 1),(44,aI 2)],[.cells [.slice 2 0 0 (.exact 0),aV 3 3 8] 34,
  .cells [.aC,.aC] 34,
  .cells [] 114,
  .vec (.aP 3) 8 92 []],[],.lit 0⟩),([0,1,0,1,1,1],⟨1,[(1,.ptr 0 0),(2,.ptr 1 0),(43,aJ 0),(44,aJ 0)],[.cells [.slice 2 0 0 (.exact 0),.aC] 34,
  .cells [.aC,.aC] 34,
  .cells [] 114 ],[],.lit 0⟩),([0,1,0,1,1,1],⟨1,[(1,.ptr 0 0),(2,.ptr 1 0),(43,aJ 0),(44,aJ 0)],[.cells [.slice 2 0 0 (.exact 0),.slice 3 0 0 (.exact 0)] 34,
  .cells [.aC,.aC] 34,
  .cells [] 114,
  .cells [] 92 ],[],.lit 0⟩),([0,1,0,1,1,1],⟨11,[(1,.ptr 0 0),(2,.ptr 1 0),(43,aI 1),(44,aI 2)],[.cells [aV 2 3 7,aV 3 4 8] 34,
  .cells [.aC,.aC] 34,
  .vec (.aP 3) 7 114 [],
  .vec (.aP 4) 8 92 [(.aP 0,[aI 5,aV 4 6 0,aU 7,aI 8,aI 9,aI 10])],
  .vec (.aP 6) 0 2 []],[],.lit 0⟩),([0,1,0,1,1,1],⟨11,[(1,.ptr 0 0),(2,.ptr 1 0),(43,aI 1),(44,aI 2)],[.cells [aV 2 3 7,aV 3 4 8] 34,
  .cells [.aC,.aC] 34,
  .vec (.aP 3) 7 114 [],
  .vec (.aP 4) 8 92 [(.aP 0,[aI 5,aE 6 0,aU 7,aI 8,aI 9,aI 10])]],[],.lit 0⟩),([0,1,0,1,1,1],⟨10,[(1,.ptr 0 0),(2,.ptr 1 0),(43,aI 1),(44,aI 2)],[.cells [.aC,aV 2 3 8] 34,
  .cells [.aC,.aC] 34,
  .vec (.aP 3) 8 92 [(.aP 0,[aI 4,aV 3 5 0,aU 6,aI 7,aI 8,aI 9])],
  .vec (.aP 5) 0 2 []],[],.lit 0⟩),([0,1,0,1,1,1],⟨10,[(1,.ptr 0 0),(2,.ptr 1 0),(43,aI 1),(44,aI 2)],[.cells [.aC,aV 2 3 8] 34,
  .cells [.aC,.aC] 34,
  .vec (.aP 3) 8 92 [(.aP 0,[aI 4,aE 5 0,aU 6,aI 7,aI 8,aI 9])]],[],.lit 0⟩),([0,1,0,1,1,1],⟨10,[(1,.ptr 0 0),(2,.ptr 1 0),(43,aI 1),(44,aI 2)],[.cells [.slice 2 0 0 (.exact 0),aV 3 3 8] 34,
  .cells [.aC,.aC] 34,
  .cells [] 114,
  .vec (.aP 3) 8 92 [(.aP 0,[aI 4,aV 4 5 0,aU 6,aI 7,aI 8,aI 9])],
  .vec (.aP 5) 0 2 []],[],.lit 0⟩),([0,1,0,1,1,1],⟨10,[(1,.ptr 0 0),(2,.ptr 1 0),(43,aI 1),(44,aI 2)],[.cells [.slice 2 0 0 (.exact 0),aV 3 3 8] 34,
  .cells [.aC,.aC] 34,
  .cells [] 114,
  .vec (.aP 3) 8 92 [(.aP 0,[aI 4,aE 5 0,aU 6,aI 7,aI 8,aI 9])]],[],.lit 0⟩)]⟩
def aEp:FE:=⟨100,6,[.agg [(.sl 3),(.sl 4)]],[.one .bool],none,[],[],[],0,[],[],
 [([0,1,0,1,1],⟨5,[(1,.ptr 0 0),(3,aI 0),(17,aI 1),(18,aI 2)],[.cells [aD 3 3,aD 4 4] 25 ],[],.lit 0⟩),([0,1,1,1,0,0,1,1,0,0,1,0,1,1],⟨6,[(1,.ptr 0 0),(3,aI 0),(4,aI 1),(5,aI 2),(17,aI 3),(18,aI 1)],[.cells [aD 4 3,aD 5 4] 25 ],[],.lit 0⟩),([0,1,0,0,1,0,0,1,1,1,0,0,1,1,0,0,1,0,1,1],⟨9,[(1,.ptr 0 0),(3,aI 0),(4,aI 1),(5,aI 2),(17,aI 3),(18,aI 1),(62,aD 4 6),(63,aI 5),(64,aI 6)],[.cells [aD 7 3,aD 8 4] 25 ],[],.lit 0⟩)]⟩
def aEo:FE:=⟨150,17,[.agg [(.int .u8),.str,(.int .i64),(.sl 6)],.one (.int .i64)],[.one (.int .i64)],none,[],[],[],0,[],[],
 [([0,1,0,1,1,1],⟨7,[(1,aI 0),(2,.ptr 0 0),(5,aI 1),(6,aI 2)],[.cells [aU 3,aS 4,aI 5,aD 6 6] 69 ],[],.lit 0⟩)]⟩
def aEn:FE:=⟨200,30,[.one (.sl 7),.one (.sl 7)],[.one .bool],none,[],[],[],0,[],[],
 [([0,1,0,1,1],⟨4,[(0,aD 0 7),(1,aD 1 7),(15,aI 2),(16,aI 3) ],[],[],.lit 0⟩),([0,1,1,1,1,0,0,1,1,0,0,1,0,1,1],⟨18,[(0,aD 0 7),(1,aD 1 7),(6,.ptr 0 0),(7,.ptr 1 0),(15,aI 2),(16,aI 3),(72,aI 4),(73,aI 5)],[.cells [aI 6,aI 7,aB 8,aI 9,aD 10 0,aD 11 0] 114,
  .cells [aI 12,aI 13,aB 14,aI 15,aD 16 0,aD 17 0] 114 ],[],.lit 0⟩)]⟩
def aEm:FE:=⟨250,54,[.one (.sl 0),.one (.sl 0)],[.one .bool],none,[],[],[],0,[],[],
 [([0,1,0,1,1],⟨3,[(0,aD 0 0),(1,aD 1 0),(5,aI 2) ],[],[],.lit 0⟩)]⟩
def aEl:FE:=⟨300,42,[.agg [(.sl 3),(.sl 4)]],[.one (.sl 7)],none,[],[],[],0,[],[],
 [([0,1,0,1,0,1,1],⟨2,[(3,.aC),(11,aD 0 3),(12,aI 1),(13,aJ 0) ],[],[],.lit 0⟩),([0,1,0,1,0,1,1],⟨4,[(3,aV 0 0 7),(11,aD 1 3),(12,aI 2),(13,aI 3)],[.vec (.aP 0) 7 114 []],[],.lit 0⟩)]⟩
def aEk:FE:=⟨350,77,[.agg [(.sl 3),(.sl 4)],.one (.sl 7)],[.one .bool],none,[],[],[],0,[],[],
 [([0,1,0,1,1],⟨5,[(2,.ptr 0 0),(18,aD 0 7),(19,aI 1),(20,aI 2)],[.cells [aD 3 3,aD 4 4] 25 ],[],.lit 0⟩)]⟩
def aEj:FE:=⟨400,53,[.agg [(.sl 3),(.sl 4)],.one (.sl 7),.one (.int .i64),.agg [(.int .u8),(.int .i64),(.int .i64),(.int .i64)]],[.one (.sl 7),.agg [(.int .i64),(.int .u8),(.int .i64),(.int .i64),(.int .i64)],.one (.int .u8)],none,[],[],[],0,[],[],
 []⟩
def aEi:FE:=⟨450,41,[.agg [(.sl 3),(.sl 4)]],[.one (.int .i64)],none,[],[],[],0,[],[],
 [([0,1,0,1,1],⟨4,[(1,.ptr 0 0),(3,.bool (.lit true)),(20,aD 0 3),(21,aI 1),(22,aI 2)],[.cells [aD 0 3,aD 3 4] 25 ],[],.lit 0⟩),([0,1,0,1,1],⟨4,[(1,.ptr 0 0),(3,.bool (.lit false)),(20,aD 0 3),(21,aI 1),(22,aI 2)],[.cells [aD 0 3,aD 3 4] 25 ],[],.lit 0⟩),([0,1,0,1,1,1],⟨4,[(1,.ptr 0 0),(3,.bool (.lit true)),(35,aD 0 4),(36,aI 1),(37,aI 2)],[.cells [aD 3 3,aD 0 4] 25 ],[],.lit 0⟩),([0,1,0,1,1,1],⟨4,[(1,.ptr 0 0),(3,.bool (.lit false)),(35,aD 0 4),(36,aI 1),(37,aI 2)],[.cells [aD 3 3,aD 0 4] 25 ],[],.lit 0⟩),([0,1,1,1,0,0,1,1,0,0,1,0,1,1,1],⟨8,[(1,.ptr 0 0),(3,.bool (.lit true)),(7,.ptr 1 0),(8,aI 0),(35,aD 1 4),(36,aI 2),(37,aI 3)],[.cells [aD 4 3,aD 1 4] 25,
  .cells [aS 5,aD 6 2,aD 7 5] 62 ],[],.lit 0⟩),([0,1,1,1,0,0,1,1,0,0,1,0,1,1,1],⟨8,[(1,.ptr 0 0),(3,.bool (.lit false)),(7,.ptr 1 0),(8,aI 0),(35,aD 1 4),(36,aI 2),(37,aI 3)],[.cells [aD 4 3,aD 1 4] 25,
  .cells [aS 5,aD 6 2,aD 7 5] 62 ],[],.lit 0⟩)]⟩
def aEh:FE:=⟨500,142,[.agg [(.int .u8),.str,(.int .i64),.str,(.int .i64)],.agg [(.int .i64),(.int .i64),.bool,(.int .i64),(.sl 0),(.sl 0)],.one (.int .i64)],[.one .bool],none,[],[],[],0,[],[],
 [([0,1,0,1,1,1,1,1,1],⟨15,[(2,aI 0),(3,.ptr 0 0),(4,.ptr 1 0),(10,.map 2),(98,aD 1 0),(99,aI 2),(100,aI 3)],[.cells [aU 4,aS 5,aI 6,aS 7,aI 8] 137,
  .cells [aI 9,aI 10,aB 11,aI 12,aD 1 0,aD 13 0] 114,
  .iT (.aP 14) 0 ],[],.lit 0⟩)]⟩
def aEg:FE:=⟨550,85,[.one (.sl 7)],[.one (.sl 7)],none,[],[],[],0,[],[],
 [([0,1,0,1,1],⟨3,[(0,aV 0 0 7),(7,aI 1),(8,aI 2)],[.vec (.aP 0) 7 114 []],[],.lit 0⟩),([0,1,0,1,1],⟨0,[(0,.aC),(7,aJ 0),(8,aJ 0) ],[],[],.lit 0⟩),([0,1,0,1,1],⟨0,[(0,.slice 0 0 0 (.exact 0)),(7,aJ 0),(8,aJ 0)],[.cells [] 114 ],[],.lit 0⟩)]⟩
def aEf:FE:=⟨600,86,[.one (.int .u8)],[.one (.int .u8)],none,[],[],[],0,[],[],
 []⟩
def aEe:FE:=⟨650,205,[.agg [(.int .u8),.str,(.int .i64),.str,(.int .i64)]],[.one (.int .i64),.one .bool],none,[],[],[],0,[],[],
 []⟩
def aEd:FE:=⟨700,79,[.agg [(.sl 3),(.sl 4)],.agg [(.int .u8),.str,(.int .i64),.str,(.int .i64)]],[.one .bool],none,[],[],[],0,[],[],
 []⟩
def aEc:FE:=⟨750,80,[.agg [(.sl 3),(.sl 4)],.agg [.str,(.sl 2),(.sl 5)],.agg [(.int .u8),(.int .u8),(.int .i64),(.int .i64),(.int .i64),(.int .i64),(.sl 6)]],[.one .bool],none,[],[],[],0,[],[],
 []⟩
def aEb:FE:=⟨800,83,[.agg [(.int .u8),.str,(.int .i64),(.sl 6)],.one (.int .i64)],[.one .bool],none,[],[],[],0,[],[],
 []⟩
def aEa:FE:=⟨850,159,[.one (.sl 0),.one (.int .i64)],[.one (.int .i64)],none,[],[],[],0,[],[],
 [([0,1,0,1],⟨4,[(0,aD 0 0),(1,aI 1),(7,aI 2),(8,aI 3) ],[],[],.lit 0⟩)]⟩
def aD9:FE:=⟨900,92,[.one (.sl 0),.one (.int .i64)],[.one .bool],none,[],[],[],0,[],[],
 []⟩
def aD8:FE:=⟨950,144,[.one (.int .u8),.agg [(.int .u8),(.int .u8),(.int .i64),(.int .i64),(.int .i64),(.int .i64),(.sl 6)],.one .bool],[.one .bool],none,[],[],[],0,[],[],
 [([0,1,0,1,1],⟨9,[(0,aU 0),(2,.bool (.lit false)),(4,.ptr 0 0),(7,.ptr 1 0),(16,aI 1),(17,aJ 0)],[.cells [aU 2,aU 3,aI 4,aI 5,aI 6,aI 7,aD 8 6] 66,
  .cells [.int .u8 (.lit 1),aU 3,.str [97],.str [],aJ 0,.aC,.aC,.aC,aJ 0] 208 ],[],.lit 0⟩),([0,1,0,1,1],⟨9,[(0,aU 0),(2,.bool (.lit true)),(4,.ptr 0 0),(7,.ptr 1 0),(16,aI 1),(17,aJ 0)],[.cells [aU 2,aU 3,aI 4,aI 5,aI 6,aI 7,aD 8 6] 66,
  .cells [.int .u8 (.lit 1),aU 3,.str [97],.str [],aJ 0,.aC,.aC,.aC,aJ 0] 208 ],[],.lit 0⟩),([0,1,0,1,1],⟨11,[(0,aU 0),(2,.bool (.lit false)),(4,.ptr 0 0),(7,.ptr 1 0),(16,aI 1),(17,aI 2)],[.cells [aU 3,aU 4,aI 5,aI 6,aI 7,aI 8,aD 9 6] 66,
  .cells [.int .u8 (.lit 1),aU 4,.str [97],.str [],aJ 0,aV 2 10 6,.aC,.aC,aJ 0] 208,
  .vec (.aP 10) 6 69 []],[],.lit 0⟩),([0,1,0,1,1],⟨11,[(0,aU 0),(2,.bool (.lit true)),(4,.ptr 0 0),(7,.ptr 1 0),(16,aI 1),(17,aI 2)],[.cells [aU 3,aU 4,aI 5,aI 6,aI 7,aI 8,aD 9 6] 66,
  .cells [.int .u8 (.lit 1),aU 4,.str [97],.str [],aJ 0,aV 2 10 6,.aC,.aC,aJ 0] 208,
  .vec (.aP 10) 6 69 []],[],.lit 0⟩)]⟩
def aCl:FE:=⟨1000,131,[.one .str],[.one .bool],none,[],[],[],0,[],[],
 []⟩
def aCk:FE:=⟨1050,122,[.one .str,.one (.int .i64)],[.agg [(.int .u8),.str,(.int .i64),(.int .i64),(.int .i64),(.int .i64)],.agg [(.int .i64),(.int .i64)]],none,[],[],[],0,[],[],
 []⟩
def aCj:FE:=⟨1100,188,[.one .str],[.one (.int .i64),.one .bool],none,[],[],[],0,[],[],
 [([0,1,0,1,1],⟨0,[(4,aJ 0),(9,.slice 0 0 0 (.rest 1)),(10,aJ 0),(11,aJ 0)],[.cells [] 5 ],[],.lit 0⟩),([0,1,0,1,1],⟨4,[(4,aI 0),(9,aV 0 1 14),(10,aI 2),(11,aI 3)],[.vec (.aP 1) 14 5 []],[],.lit 0⟩)]⟩
def aCi:FE:=⟨1150,216,[.agg [(.int .u8),.str,(.int .i64),(.sl 6)]],[.one .bool],none,[],[],[],0,[],[],
 []⟩
def aCh:FE:=⟨1200,217,[.one (.int .u8)],[.one (.int .u8)],none,[],[],[],0,[],[],
 []⟩
def aCg:FE:=⟨1250,211,[.one (.int .u8)],[.one (.int .i64)],none,[],[],[],0,[],[],
 []⟩
def aCf:FE:=⟨1300,212,[.one (.int .u8)],[.one .bool],none,[],[],[],0,[],[],
 []⟩
def aCe:FE:=⟨1350,125,[.one (.int .u8)],[.one .bool],none,[],[],[],0,[],[],
 []⟩
def aCd:FE:=⟨1400,130,[.agg [(.int .u8),.str,(.int .i64),.str,(.int .i64)]],[.one .bool],none,[],[],[],0,[],[],
 []⟩
def aCc:FE:=⟨1450,21,[.agg [(.sl 3),(.sl 4)]],[.agg [(.sl 7),(.sl 8)],.one (.int .i64)],none,[],[],[],0,[],[],
 [([0,1,0,1,1,1],⟨3,[(2,.ptr 0 0),(5,.ptr 1 0),(18,aD 0 4),(19,aI 1),(20,aJ 0)],[.cells [.aC,.aC] 34,
  .cells [aD 2 7,.aC] 34 ],[],.lit 0⟩),([0,1,0,1,1,1],⟨5,[(2,.ptr 0 0),(5,.ptr 1 0),(18,aD 0 4),(19,aI 1),(20,aI 2)],[.cells [.aC,.aC] 34,
  .cells [aD 3 7,aV 2 4 8] 34,
  .vec (.aP 4) 8 92 []],[],.lit 0⟩)]⟩
def aCb:FE:=⟨1500,39,[.agg [(.sl 3),(.sl 4)],.agg [(.sl 7),(.sl 8)]],[.one .bool],none,[],[],[],0,[],[],
 [([0,1,0,1,1],⟨5,[(2,.ptr 0 0),(22,aD 0 8),(23,aI 1),(24,aI 2)],[.cells [aD 3 3,aD 4 4] 25 ],[],.lit 0⟩)]⟩
def aCa:FE:=⟨1550,25,[.agg [(.sl 3),(.sl 4)],.agg [(.sl 7),(.sl 8)],.one (.int .i64)],[.one .bool],none,[],[],[],0,[],[],
 []⟩
def aB9:FE:=⟨1600,78,[.agg [(.sl 3),(.sl 4)],.agg [.str,(.sl 2),(.sl 5)],.agg [(.int .i64),(.sl 0),(.int .u8),(.int .i64),(.int .i64),(.int .i64)]],[.one .bool],none,[],[],[],0,[],[],
 []⟩
def aB8:FE:=⟨1650,26,[.agg [(.sl 3),(.sl 4)],.agg [(.sl 7),(.sl 8)],.one (.int .i64)],[.one .bool],none,[],[],[],0,[],[],
 []⟩
def aB7:FE:=⟨1700,20,[.agg [(.sl 3),(.sl 4)],.agg [(.sl 7),(.sl 8)],.one (.int .i64)],[.one .bool],none,[],[],[],0,[],[],
 []⟩
def aB6:FE:=⟨1750,27,[.agg [(.sl 3),(.sl 4)],.agg [(.sl 7),(.sl 8)],.one (.int .i64)],[.agg [(.int .u8),(.int .i64),(.int .i64),(.int .i64)],.one .bool],none,[],[],[],0,[],[],
 [([0,1,0,1,0,1,0,1,1,0,1,1,1,1],⟨12,[(6,.ptr 0 0),(8,.ptr 1 0),(10,.ptr 2 0),(55,aD 0 6),(56,aI 1),(57,aI 2)],[.cells [.int .u8 (.lit 0),aJ 0,aJ 0,aJ 0] 83,
  .cells [aI 3,aD 4 0,aU 5,aI 6,aI 7,aI 8] 92,
  .cells [aU 9,aI 10,aI 11,aI 8] 83 ],[],.lit 0⟩)]⟩
def aB5:FE:=⟨1800,40,[.agg [(.sl 3),(.sl 4)],.agg [(.sl 7),(.sl 8)],.one (.int .i64)],[.agg [(.int .u8),(.int .i64),(.int .i64),(.int .i64)],.one .bool],none,[],[],[],0,[],[],
 []⟩
def aB4:FE:=⟨1850,9,[.agg [(.sl 3),(.sl 4)],.agg [(.sl 7),(.sl 8)],.one (.int .i64)],[.agg [(.sl 7),(.sl 8)],.agg [(.int .i64),(.int .u8),(.int .i64),(.int .i64),(.int .i64)],.one (.int .u8)],none,[],[],[],0,[],[],
 []⟩
def aB3:FE:=⟨1950,47,[.agg [(.int .u8),.str,(.int .i64),(.sl 6)],.one (.sl 0)],[.one (.int .i64)],none,[],[],[],0,[],[],
 []⟩
def aB2:FE:=⟨2050,12,[.agg [(.sl 7),(.sl 8)],.agg [(.sl 7),(.sl 8)]],[.one .bool],none,[],[],[],0,[],[],
 [([0,1,0,1,1],⟨6,[(2,.ptr 0 0),(3,.ptr 1 0),(26,aI 0),(27,aI 1)],[.cells [aD 2 7,aD 3 8] 34,
  .cells [aD 4 7,aD 5 8] 34 ],[],.lit 0⟩),([0,1,1,1,1,0,0,1,1,0,0,1,0,1,1],⟨20,[(2,.ptr 0 0),(3,.ptr 1 0),(6,.ptr 2 0),(7,.ptr 3 0),(26,aI 0),(27,aI 1),(84,aI 2),(85,aI 3)],[.cells [aD 4 7,aD 5 8] 34,
  .cells [aD 6 7,aD 7 8] 34,
  .cells [aI 8,aD 9 0,aU 10,aI 11,aI 12,aI 13] 92,
  .cells [aI 14,aD 15 0,aU 16,aI 17,aI 18,aI 19] 92 ],[],.lit 0⟩)]⟩
def aB1:FE:=⟨2450,11,[.one (.sl 9),.one (.sl 9)],[.one .bool],none,[],[],[],0,[],[],
 [([0,1,0,1,1],⟨4,[(0,aD 0 9),(1,aD 1 9),(12,aI 2),(13,aI 3) ],[],[],.lit 0⟩)]⟩
def aB0:FE:=⟨2750,55,[.agg [(.sl 3),(.sl 4)],.agg [(.sl 7),(.sl 8),(.sl 0)]],[.one .bool],none,[],[],[],0,[],[],
 []⟩
def aBZ:FE:=⟨2800,31,[.agg [(.sl 3),(.sl 4)],.one (.sl 0)],[.agg [(.sl 7),(.sl 8),(.sl 0)],.one (.int .i64)],none,[],[],[],0,[],[],
 []⟩
def aBY:FE:=⟨2850,57,[.agg [(.sl 7),(.sl 8)],.one (.int .i64)],[.one .bool],none,[],[],[],0,[],[],
 []⟩
def aBX:FE:=⟨2900,93,[.agg [(.sl 3),(.sl 4)],.agg [(.sl 7),(.sl 8)],.one (.int .i64)],[.one .bool],none,[],[],[],0,[],[],
 []⟩
def aBW:FE:=⟨2950,58,[.agg [(.sl 3),(.sl 4)],.agg [(.sl 7),(.sl 8),(.sl 0)],.one (.int .i64)],[.one .bool],none,[],[],[],0,[],[],
 [([0,1,0,1,1],⟨8,[(2,aI 0),(3,.ptr 0 0),(4,.ptr 1 0),(17,aD 1 0),(18,aI 2),(19,aI 3)],[.cells [aD 4 3,aD 5 4] 25,
  .cells [aD 6 7,aD 7 8,aD 1 0] 51 ],[],.lit 0⟩)]⟩
def aBV:FE:=⟨3050,56,[.agg [(.sl 7),(.sl 8),(.sl 0)]],[.agg [(.sl 7),(.sl 8),(.sl 0)]],none,[],[],[],0,[],[],
 [([0,1,0,1,1],⟨4,[(1,.ptr 0 0),(2,.ptr 1 0),(3,.ptr 2 0),(10,aD 0 7),(11,aI 1),(12,aJ 0)],[.cells [aD 0 7,aD 2 8,aD 3 0] 51,
  .cells [.aC,.aC,.aC] 51,
  .cells [.aC,.aC] 34 ],[],.lit 0⟩),([0,1,0,1,1],⟨6,[(1,.ptr 0 0),(2,.ptr 1 0),(3,.ptr 2 0),(10,aD 0 7),(11,aI 1),(12,aI 2)],[.cells [aD 0 7,aD 3 8,aD 4 0] 51,
  .cells [.aC,.aC,.aC] 51,
  .cells [aV 3 5 7,.aC] 34,
  .vec (.aP 5) 7 114 []],[],.lit 0⟩),([0,1,0,1,1,1],⟨4,[(1,.ptr 0 0),(2,.ptr 1 0),(3,.ptr 2 0),(33,aD 0 8),(34,aI 1),(35,aJ 0)],[.cells [aD 2 7,aD 0 8,aD 3 0] 51,
  .cells [.aC,.aC,.aC] 51,
  .cells [.aC,.aC] 34 ],[],.lit 0⟩),([0,1,0,1,1,1],⟨5,[(1,.ptr 0 0),(2,.ptr 1 0),(3,.ptr 2 0),(33,aD 0 8),(34,aI 1),(35,aJ 0)],[.cells [aD 2 7,aD 0 8,aD 3 0] 51,
  .cells [.aC,.aC,.aC] 51,
  .cells [aV 3 4 7,.aC] 34,
  .vec (.aP 4) 7 114 []],[],.lit 0⟩),([0,1,0,1,1,1],⟨6,[(1,.ptr 0 0),(2,.ptr 1 0),(3,.ptr 2 0),(33,aD 0 8),(34,aI 1),(35,aI 2)],[.cells [aD 3 7,aD 0 8,aD 4 0] 51,
  .cells [.aC,.aC,.aC] 51,
  .cells [.aC,aV 3 5 8] 34,
  .vec (.aP 5) 8 92 []],[],.lit 0⟩),([0,1,0,1,1,1],⟨7,[(1,.ptr 0 0),(2,.ptr 1 0),(3,.ptr 2 0),(33,aD 0 8),(34,aI 1),(35,aI 2)],[.cells [aD 3 7,aD 0 8,aD 4 0] 51,
  .cells [.aC,.aC,.aC] 51,
  .cells [aV 3 5 7,aV 4 6 8] 34,
  .vec (.aP 5) 7 114 [],
  .vec (.aP 6) 8 92 []],[],.lit 0⟩)]⟩
def aBU:FE:=⟨3100,32,[.agg [(.sl 3),(.sl 4)],.agg [(.sl 7),(.sl 8),(.sl 0)],.one (.int .i64)],[.agg [(.sl 7),(.sl 8),(.sl 0)],.agg [(.int .i64),(.int .u8),(.int .i64),(.int .i64),(.int .i64)],.one (.int .u8),.one (.int .i64)],none,[],[],[],0,[],[],
 []⟩
def aBT:FE:=⟨3150,14,[.agg [(.sl 3),(.sl 4)],.one (.sl 0),.one (.sl 0)],[.one (.sl 9),.agg [(.sl 7),(.sl 8),(.sl 0)],.one (.int .i64)],none,[],[],[],0,[],[],
 [([0,1,0,1,1,1,1,1],⟨8,[(2,aD 0 0),(3,.ptr 0 0),(7,.ptr 1 0),(9,.ptr 2 0),(11,.aC),(12,aI 1),(13,aI 2)],[.cells [aD 3 3,aD 4 4] 25,
  .cells [.aC,.aC,.aC] 51,
  .cells [aD 5 7,aD 6 8,aD 7 0] 51 ],[],.lit 0⟩),([0,1,0,1,1,1,1,1],⟨9,[(2,aD 0 0),(3,.ptr 0 0),(7,.ptr 1 0),(9,.ptr 2 0),(11,aV 3 1 9),(12,aI 2),(13,aI 3)],[.cells [aD 4 3,aD 5 4] 25,
  .cells [.aC,.aC,.aC] 51,
  .cells [aD 6 7,aD 7 8,aD 8 0] 51,
  .vec (.aP 1) 9 39 []],[],.lit 0⟩)]⟩
def anN:FE:=⟨3400,4,[.agg [(.sl 3),(.sl 4)],.one (.sl 0),.agg [(.sl 0),(.int .i64)]],[.one .bool],none,[],[],[],0,[],[],
 [([0,1,0,1,1,1],⟨6,[(1,aD 0 0),(3,.ptr 0 0),(5,.ptr 1 0),(7,.aC),(36,aD 0 0),(37,aI 1),(38,aJ 0)],[.cells [aD 2 3,aD 3 4] 25,
  .cells [aD 4 0,aI 5] 49 ],[],.lit 0⟩),([0,1,0,1,1,1],⟨8,[(1,aD 0 0),(3,.ptr 0 0),(5,.ptr 1 0),(7,aV 2 1 0),(36,aD 0 0),(37,aI 2),(38,aI 3)],[.cells [aD 4 3,aD 5 4] 25,
  .cells [aD 6 0,aI 7] 49,
  .vec (.aP 1) 0 2 []],[],.lit 0⟩),([0,1,0,1,1,1,1,1,1,1,1],⟨10,[(5,.ptr 0 0),(12,.ptr 1 0),(15,.ptr 2 0),(108,aI 0),(109,aI 1)],[.cells [aD 2 0,aI 3] 49,
  .cells [aD 4 7,aD 5 8,aD 6 0] 51,
  .cells [aD 7 7,aD 8 8,aD 9 0] 51 ],[],.lit 0⟩)]⟩
def aBS:FE:=⟨5000,81,[],[.one .bool],some (⟨4,[(0,aD 0 6),(1,.func (.func 82) [] [.ptr 0 0])],[.cells [aS 1,aD 2 2,aD 3 5] 62 ],[],.lit 0⟩,[.cells [aS 0,aD 1 2,aD 2 5] 62],3),[],[],[],0,[],[],
 []⟩
def aBR:FE:=⟨5050,146,[],[.one .bool],some (⟨7,[(0,.ptr 0 0),(1,.agg [aU 0,aS 1,aI 2,aD 3 6]),(2,aI 4)],[.cells [aI 5,aI 6] 230 ],[],.lit 0⟩,[.cells [aI 0,aI 1] 230],2),[],[],[],0,[],[],
 [([0,1,0,1,1,1],⟨9,[(0,.ptr 0 0),(2,aI 0),(4,.ptr 1 0),(27,aD 1 6),(28,aI 2),(29,aI 3)],[.cells [aI 4,aI 5] 230,
  .cells [aU 6,aS 7,aI 8,aD 1 6] 69 ],[],.lit 0⟩)]⟩
def aBQ:FE:=⟨5100,198,[],[],some (⟨2,[(0,.ptr 0 0),(1,.aC),(2,aI 0)],[.cells [aI 1,.bool (.lit true),.bool (.lit false)] 162 ],[],.lit 0⟩,[.cells [aI 0,.bool (.lit true),.bool (.lit false)] 162],1),[],[],[],0,[],[],
 [([0,1],⟨2,[(0,.ptr 0 0),(2,aI 0),(8,.aC),(9,aJ 0),(10,aJ 0)],[.cells [aI 1,.bool (.lit true),.bool (.lit false)] 162 ],[],.lit 0⟩)]⟩
def aBP:FE:=⟨5150,218,[],[.one .bool],some (⟨2,[(0,.ptr 0 0),(1,.aC)],[.cells [.map 1,.map 2] 216,
 .map [(.str [97],aU 0,0)] 0,
 .iT (.aP 1) 1 ],[],.lit 0⟩,[.cells [.map 1,.map 2] 216,.map [(.str [97],aU 0,0)] 0,.iT (.aP 1) 1],2),[],[],[],0,[],[],
 [([0,1,0,1],⟨2,[(0,.ptr 0 0),(7,.aC),(8,aJ 0),(9,aJ 0)],[.cells [.map 1,.map 2] 216,
  .map [(.str [97],aU 0,0)] 0,
  .iT (.aP 1) 1 ],[],.lit 0⟩)]⟩
def aBO:FE:=⟨5200,218,[],[.one .bool],some (⟨2,[(0,.ptr 0 0),(1,.aC)],[.cells [.map 1,.map 2] 216,
 .map [(.str [98],.int .u8 (.lit 1),0),(.str [97],aU 0,0)] 0,
 .iT (.aP 1) 1 ],[],.lit 0⟩,[.cells [.map 1,.map 2] 216,.map [(.str [98],aU 0,0),(.str [97],aU 1,0)] 0,.iT (.aP 2) 1],3),[],[],[],0,[],[],
 [([0,1,0,1],⟨2,[(0,.ptr 0 0),(7,.aC),(8,aJ 0),(9,aJ 0)],[.cells [.map 1,.map 2] 216,
  .map [(.str [98],.int .u8 (.lit 1),0),(.str [97],aU 0,0)] 0,
  .iT (.aP 1) 1 ],[],.lit 0⟩)]⟩
def aBN:FE:=⟨5250,198,[],[],some (⟨3,[(0,.ptr 0 0),(1,aV 1 0 6),(2,aI 1)],[.cells [aI 2,.bool (.lit true),.bool (.lit false)] 162,
 .vec (.aP 0) 6 69 []],[],.lit 0⟩,[.cells [aI 0,.bool (.lit true),.bool (.lit false)] 162,.vec (.aP 1) 6 69 []],2),[],[],[],0,[],[],
 [([0,1],⟨5,[(0,.ptr 0 0),(2,aI 0),(8,aV 1 1 6),(9,aI 2),(10,aI 3)],[.cells [aI 4,.bool (.lit true),.bool (.lit false)] 162,
  .vec (.aP 1) 6 69 []],[],.lit 0⟩)]⟩
def aBM:FE:=⟨5300,218,[],[.one .bool],some (⟨4,[(0,.ptr 0 0),(1,.uS 1 (.aP 0) 6)],[.cells [.map 2,.map 3] 216,
 .vec (.aP 1) 6 69 [],
 .map [(.str [97],aU 2,0)] 0,
 .iT (.aP 3) 1 ],[],.lit 0⟩,[.cells [.map 2,.map 3] 216,.vec (.aP 0) 6 69 [],.map [(.str [97],aU 1,0)] 0,.iT (.aP 2) 1],3),[],[],[],0,[],[],
 [([0,1,0,1],⟨5,[(0,.ptr 0 0),(7,.uS 1 (.aP 0) 6),(8,aI 0),(9,aI 1)],[.cells [.map 2,.map 3] 216,
  .vec (.aP 2) 6 69 [],
  .map [(.str [97],aU 3,0)] 0,
  .iT (.aP 4) 1 ],[],.lit 0⟩)]⟩
def aBL:FE:=⟨5350,218,[],[.one .bool],some (⟨4,[(0,.ptr 0 0),(1,.uS 1 (.aP 0) 6)],[.cells [.map 2,.map 3] 216,
 .vec (.aP 1) 6 69 [],
 .map [(.str [98],.int .u8 (.lit 1),0),(.str [97],aU 2,0)] 0,
 .iT (.aP 3) 1 ],[],.lit 0⟩,[.cells [.map 2,.map 3] 216,.vec (.aP 0) 6 69 [],.map [(.str [98],aU 1,0),(.str [97],aU 2,0)] 0,.iT (.aP 3) 1],4),[],[],[],0,[],[],
 [([0,1,0,1],⟨6,[(0,.ptr 0 0),(7,.uS 1 (.aP 0) 6),(8,aI 0),(9,aI 1)],[.cells [.map 2,.map 3] 216,
  .vec (.aP 2) 6 69 [],
  .map [(.str [98],aU 3,0),(.str [97],aU 4,0)] 0,
  .iT (.aP 5) 1 ],[],.lit 0⟩)]⟩
def avH:FE:=⟨16000,90,[],[.one .bool],some (⟨1,[(0,aD 0 0),(1,.func (.func 91) [] []) ],[],[],.lit 0⟩,[],0),[],[],[],0,[],[],
 []⟩
def aBK:FE:=⟨5400,145,[],[.one (.int .i64)],some (⟨4,[(0,aD 0 6),(1,.func (.func 82) [] [.ptr 0 0])],[.cells [aS 1,aD 2 2,aD 3 5] 62 ],[],.lit 0⟩,[.cells [aS 0,aD 1 2,aD 2 5] 62],3),[],[],[],0,[],[],
 [([0,1,0,1],⟨6,[(0,aD 0 6),(1,.func (.func 82) [] [.ptr 0 0]),(7,aI 1),(8,aI 2)],[.cells [aS 3,aD 4 2,aD 5 5] 62 ],[],.lit 0⟩)]⟩
def aBJ:FE:=⟨5450,198,[],[],some (⟨3,[(0,.ptr 0 0),(1,aD 0 6),(2,aI 1)],[.cells [aI 2,.bool (.lit true),.bool (.lit false)] 162 ],[],.lit 0⟩,[.cells [aI 0,.bool (.lit true),.bool (.lit false)] 162],1),[],[],[],0,[],[],
 [([0,1],⟨5,[(0,.ptr 0 0),(2,aI 0),(8,aD 1 6),(9,aI 2),(10,aI 3)],[.cells [aI 4,.bool (.lit true),.bool (.lit false)] 162 ],[],.lit 0⟩)]⟩
def aBI:FE:=⟨5500,218,[],[.one .bool],some (⟨3,[(0,.ptr 0 0),(1,aD 0 6)],[.cells [.map 1,.map 2] 216,
 .map [(.str [97],aU 1,0)] 0,
 .iT (.aP 2) 1 ],[],.lit 0⟩,[.cells [.map 1,.map 2] 216,.map [(.str [97],aU 0,0)] 0,.iT (.aP 1) 1],2),[],[],[],0,[],[],
 [([0,1,0,1],⟨5,[(0,.ptr 0 0),(7,aD 0 6),(8,aI 1),(9,aI 2)],[.cells [.map 1,.map 2] 216,
  .map [(.str [97],aU 3,0)] 0,
  .iT (.aP 4) 1 ],[],.lit 0⟩)]⟩
def aBH:FE:=⟨5550,218,[],[.one .bool],some (⟨3,[(0,.ptr 0 0),(1,aD 0 6)],[.cells [.map 1,.map 2] 216,
 .map [(.str [98],.int .u8 (.lit 1),0),(.str [97],aU 1,0)] 0,
 .iT (.aP 2) 1 ],[],.lit 0⟩,[.cells [.map 1,.map 2] 216,.map [(.str [98],aU 0,0),(.str [97],aU 1,0)] 0,.iT (.aP 2) 1],3),[],[],[],0,[],[],
 [([0,1,0,1],⟨6,[(0,.ptr 0 0),(7,aD 0 6),(8,aI 1),(9,aI 2)],[.cells [.map 1,.map 2] 216,
  .map [(.str [98],aU 3,0),(.str [97],aU 4,0)] 0,
  .iT (.aP 5) 1 ],[],.lit 0⟩)]⟩
def aBG:FE:=⟨5600,218,[],[.one .bool],some (⟨4,[(0,.ptr 0 0),(1,aD 0 6)],[.cells [.map 1,.map 2] 216,
 .map [(.str [98],aU 1,0),(.str [97],aU 2,0)] 0,
 .iT (.aP 3) 1 ],[],.lit 0⟩,[.cells [.map 1,.map 2] 216,.map [(.str [98],aU 0,0),(.str [97],aU 1,0)] 0,.iT (.aP 2) 1],3),[],[],[],0,[],[],
 [([0,1,0,1],⟨6,[(0,.ptr 0 0),(7,aD 0 6),(8,aI 1),(9,aI 2)],[.cells [.map 1,.map 2] 216,
  .map [(.str [98],aU 3,0),(.str [97],aU 4,0)] 0,
  .iT (.aP 5) 1 ],[],.lit 0⟩)]⟩
def avG:FE:=⟨16050,183,[],[.one (.int .i64)],some (⟨1,[(0,aD 0 0),(1,.func (.func 91) [] []) ],[],[],.lit 0⟩,[],0),[],[],[],0,[],[],
 [([0,1,0,1],⟨3,[(0,aD 0 0),(1,.func (.func 91) [] []),(7,aI 1),(8,aI 2) ],[],[],.lit 0⟩)]⟩
def awH:FE:=⟨12000,174,[],[],some (⟨13,[(0,aV 0 0 0),(1,.func (.func 175) [] [.ptr 1 0])],[.vec (.aP 0) 0 3 [],
 .cells [.ptr 2 0] 179,
 .cells [aI 1,.qH 3 6 (.aP 2) 0,aI 3,aV 3 4 7,aU 5,aI 2,aI 6,aI 7] 181,
 .vec (.aP 4) 7 114 [(.aP 2,[aI 8,aI 9,aB 10,aI 11,aV 0 0 0,aV 4 12 0])],
 .vec (.aP 12) 0 2 []],[],.lit 0⟩,[.vec (.aP 0) 0 3 [],.cells [.ptr 2 0] 179,.cells [aI 1,.qH 3 6 (.aP 2) 0,aI 3,aV 3 4 7,aU 5,aI 2,aI 6,aI 7] 181,.vec (.aP 4) 7 114 [(.aP 2,[aI 8,aI 9,aB 10,aI 11,aV 0 0 0,aV 4 12 0])],.vec (.aP 12) 0 2 []],13),[⟨13,[(0,aV 0 0 0)],[.vec (.aP 0) 0 3 [],
 .cells [.ptr 2 0] 179,
 .cells [aI 1,.qH 3 6 (.aP 2) 0,aI 3,aV 3 4 7,aU 5,aI 2,aI 6,aI 7] 181,
 .vec (.aP 4) 7 114 [(.aP 2,[aI 8,aI 9,aB 10,aI 11,aV 0 0 0,aV 4 12 0])],
 .vec (.aP 12) 0 2 []],[],.lit 0⟩,⟨16,[(0,.AA 0 (.lit 0) (.aP 13) 0)],[.vec (.aP 14) 0 3 [],
 .cells [.ptr 2 0] 179,
 .cells [aI 1,.qH 3 6 (.aP 2) 0,aI 3,aV 3 4 7,aU 5,aI 2,aI 6,aI 7] 181,
 .vec (.aP 4) 7 114 [(.aP 2,[aI 8,aI 9,aB 10,aI 11,.uS 0 (.aP 15) 0,aV 4 12 0])],
 .vec (.aP 12) 0 2 []],[],.lit 0⟩],[],[],13,[],[],
 [([0,1,0,1,1,1],⟨16,[(0,aV 0 13 0),(1,.func (.func 175) [] [.ptr 1 0]),(5,aI 14),(6,aI 15)],[.vec (.aP 13) 0 3 [],
  .cells [.ptr 2 0] 179,
  .cells [aI 1,.qH 3 6 (.aP 2) 0,aI 3,aV 3 4 7,aU 5,aI 2,aI 6,aI 7] 181,
  .vec (.aP 4) 7 114 [(.aP 2,[aI 8,aI 9,aB 10,aI 11,aV 0 13 0,aV 4 12 0])],
  .vec (.aP 12) 0 2 []],[],.lit 0⟩)]⟩
def awG:FE:=⟨12050,206,[],[],some (⟨13,[(0,aV 0 0 0),(1,.func (.func 175) [] [.ptr 1 0])],[.vec (.aP 0) 0 3 [],
 .cells [.ptr 2 0] 179,
 .cells [aI 1,.qH 3 6 (.aP 2) 0,aI 3,aV 3 4 7,aU 5,aI 2,aI 6,aI 7] 181,
 .vec (.aP 4) 7 114 [(.aP 2,[aI 8,aI 9,aB 10,aI 11,aV 0 0 0,aV 4 12 0])],
 .vec (.aP 12) 0 2 []],[],.lit 0⟩,[.vec (.aP 0) 0 3 [],.cells [.ptr 2 0] 179,.cells [aI 1,.qH 3 6 (.aP 2) 0,aI 3,aV 3 4 7,aU 5,aI 2,aI 6,aI 7] 181,.vec (.aP 4) 7 114 [(.aP 2,[aI 8,aI 9,aB 10,aI 11,aV 0 0 0,aV 4 12 0])],.vec (.aP 12) 0 2 []],13),[⟨14,[(0,aI 13)],[.vec (.aP 0) 0 3 [],
 .cells [.ptr 2 0] 179,
 .cells [aI 1,.qH 3 6 (.aP 2) 0,aI 3,aV 3 4 7,aU 5,aI 2,aI 6,aI 7] 181,
 .vec (.aP 4) 7 114 [(.aP 2,[aI 8,aI 9,aB 10,aI 11,aV 0 0 0,aV 4 12 0])],
 .vec (.aP 12) 0 2 []],[],.lit 0⟩],[],[],13,[],[],
 [([0,1,0,1],⟨15,[(0,aV 0 0 0),(1,.func (.func 175) [] [.ptr 1 0]),(7,aI 13),(8,aI 14)],[.vec (.aP 0) 0 3 [],
  .cells [.ptr 2 0] 179,
  .cells [aI 1,.qH 3 6 (.aP 2) 0,aI 3,aV 3 4 7,aU 5,aI 2,aI 6,aI 7] 181,
  .vec (.aP 4) 7 114 [(.aP 2,[aI 8,aI 9,aB 10,aI 11,aV 0 0 0,aV 4 12 0])],
  .vec (.aP 12) 0 2 []],[],.lit 0⟩)]⟩
def awF:FE:=⟨12100,174,[],[],some (⟨13,[(0,aV 0 0 0),(1,.func (.func 175) [] [.ptr 1 0])],[.vec (.aP 0) 0 3 [],
 .cells [.ptr 2 0] 179,
 .cells [aI 1,.qH 3 6 (.aP 2) 0,aI 3,aV 3 4 7,aU 5,aI 2,aI 6,aI 7] 181,
 .vec (.aP 4) 7 114 [(.aP 2,[aI 8,aI 9,aB 10,aI 11,aV 0 0 0,aE 12 0])]],[],.lit 0⟩,[.vec (.aP 0) 0 3 [],.cells [.ptr 2 0] 179,.cells [aI 1,.qH 3 6 (.aP 2) 0,aI 3,aV 3 4 7,aU 5,aI 2,aI 6,aI 7] 181,.vec (.aP 4) 7 114 [(.aP 2,[aI 8,aI 9,aB 10,aI 11,aV 0 0 0,aE 12 0])]],13),[⟨13,[(0,aV 0 0 0)],[.vec (.aP 0) 0 3 [],
 .cells [.ptr 2 0] 179,
 .cells [aI 1,.qH 3 6 (.aP 2) 0,aI 3,aV 3 4 7,aU 5,aI 2,aI 6,aI 7] 181,
 .vec (.aP 4) 7 114 [(.aP 2,[aI 8,aI 9,aB 10,aI 11,aV 0 0 0,aE 12 0])]],[],.lit 0⟩,⟨16,[(0,.AA 0 (.lit 0) (.aP 13) 0)],[.vec (.aP 14) 0 3 [],
 .cells [.ptr 2 0] 179,
 .cells [aI 1,.qH 3 6 (.aP 2) 0,aI 3,aV 3 4 7,aU 5,aI 2,aI 6,aI 7] 181,
 .vec (.aP 4) 7 114 [(.aP 2,[aI 8,aI 9,aB 10,aI 11,.uS 0 (.aP 15) 0,aE 12 0])]],[],.lit 0⟩],[],[],13,[],[],
 [([0,1,0,1,1,1],⟨16,[(0,aV 0 13 0),(1,.func (.func 175) [] [.ptr 1 0]),(5,aI 14),(6,aI 15)],[.vec (.aP 13) 0 3 [],
  .cells [.ptr 2 0] 179,
  .cells [aI 1,.qH 3 6 (.aP 2) 0,aI 3,aV 3 4 7,aU 5,aI 2,aI 6,aI 7] 181,
  .vec (.aP 4) 7 114 [(.aP 2,[aI 8,aI 9,aB 10,aI 11,aV 0 13 0,aE 12 0])]],[],.lit 0⟩)]⟩
def awE:FE:=⟨12150,206,[],[],some (⟨13,[(0,aV 0 0 0),(1,.func (.func 175) [] [.ptr 1 0])],[.vec (.aP 0) 0 3 [],
 .cells [.ptr 2 0] 179,
 .cells [aI 1,.qH 3 6 (.aP 2) 0,aI 3,aV 3 4 7,aU 5,aI 2,aI 6,aI 7] 181,
 .vec (.aP 4) 7 114 [(.aP 2,[aI 8,aI 9,aB 10,aI 11,aV 0 0 0,aE 12 0])]],[],.lit 0⟩,[.vec (.aP 0) 0 3 [],.cells [.ptr 2 0] 179,.cells [aI 1,.qH 3 6 (.aP 2) 0,aI 3,aV 3 4 7,aU 5,aI 2,aI 6,aI 7] 181,.vec (.aP 4) 7 114 [(.aP 2,[aI 8,aI 9,aB 10,aI 11,aV 0 0 0,aE 12 0])]],13),[⟨14,[(0,aI 13)],[.vec (.aP 0) 0 3 [],
 .cells [.ptr 2 0] 179,
 .cells [aI 1,.qH 3 6 (.aP 2) 0,aI 3,aV 3 4 7,aU 5,aI 2,aI 6,aI 7] 181,
 .vec (.aP 4) 7 114 [(.aP 2,[aI 8,aI 9,aB 10,aI 11,aV 0 0 0,aE 12 0])]],[],.lit 0⟩],[],[],13,[],[],
 [([0,1,0,1],⟨15,[(0,aV 0 0 0),(1,.func (.func 175) [] [.ptr 1 0]),(7,aI 13),(8,aI 14)],[.vec (.aP 0) 0 3 [],
  .cells [.ptr 2 0] 179,
  .cells [aI 1,.qH 3 6 (.aP 2) 0,aI 3,aV 3 4 7,aU 5,aI 2,aI 6,aI 7] 181,
  .vec (.aP 4) 7 114 [(.aP 2,[aI 8,aI 9,aB 10,aI 11,aV 0 0 0,aE 12 0])]],[],.lit 0⟩)]⟩
def awD:FE:=⟨12200,174,[],[],some (⟨13,[(0,aE 0 0),(1,.func (.func 175) [] [.ptr 0 0])],[.cells [.ptr 1 0] 179,
 .cells [aI 1,.qH 2 6 (.aP 2) 0,aI 3,aV 2 4 7,aU 5,aI 2,aI 6,aI 7] 181,
 .vec (.aP 4) 7 114 [(.aP 2,[aI 8,aI 9,aB 10,aI 11,aE 0 0,aV 3 12 0])],
 .vec (.aP 12) 0 2 []],[],.lit 0⟩,[.cells [.ptr 1 0] 179,.cells [aI 1,.qH 2 6 (.aP 2) 0,aI 3,aV 2 4 7,aU 5,aI 2,aI 6,aI 7] 181,.vec (.aP 4) 7 114 [(.aP 2,[aI 8,aI 9,aB 10,aI 11,aE 0 0,aV 3 12 0])],.vec (.aP 12) 0 2 []],13),[⟨13,[(0,aE 0 0)],[.cells [.ptr 1 0] 179,
 .cells [aI 1,.qH 2 6 (.aP 2) 0,aI 3,aV 2 4 7,aU 5,aI 2,aI 6,aI 7] 181,
 .vec (.aP 4) 7 114 [(.aP 2,[aI 8,aI 9,aB 10,aI 11,aE 0 0,aV 3 12 0])],
 .vec (.aP 12) 0 2 []],[],.lit 0⟩],[],[],13,[],[],
 []⟩
def awC:FE:=⟨12250,206,[],[],some (⟨13,[(0,aE 0 0),(1,.func (.func 175) [] [.ptr 0 0])],[.cells [.ptr 1 0] 179,
 .cells [aI 1,.qH 2 6 (.aP 2) 0,aI 3,aV 2 4 7,aU 5,aI 2,aI 6,aI 7] 181,
 .vec (.aP 4) 7 114 [(.aP 2,[aI 8,aI 9,aB 10,aI 11,aE 0 0,aV 3 12 0])],
 .vec (.aP 12) 0 2 []],[],.lit 0⟩,[.cells [.ptr 1 0] 179,.cells [aI 1,.qH 2 6 (.aP 2) 0,aI 3,aV 2 4 7,aU 5,aI 2,aI 6,aI 7] 181,.vec (.aP 4) 7 114 [(.aP 2,[aI 8,aI 9,aB 10,aI 11,aE 0 0,aV 3 12 0])],.vec (.aP 12) 0 2 []],13),[⟨13,[(0,aJ (-1))],[.cells [.ptr 1 0] 179,
 .cells [aI 1,.qH 2 6 (.aP 2) 0,aI 3,aV 2 4 7,aU 5,aI 2,aI 6,aI 7] 181,
 .vec (.aP 4) 7 114 [(.aP 2,[aI 8,aI 9,aB 10,aI 11,aE 0 0,aV 3 12 0])],
 .vec (.aP 12) 0 2 []],[],.lit 0⟩],[],[],13,[],[],
 [([0,1,0,1],⟨13,[(0,aE 0 0),(1,.func (.func 175) [] [.ptr 0 0]),(7,aJ 0),(8,aJ 0)],[.cells [.ptr 1 0] 179,
  .cells [aI 1,.qH 2 6 (.aP 2) 0,aI 3,aV 2 4 7,aU 5,aI 2,aI 6,aI 7] 181,
  .vec (.aP 4) 7 114 [(.aP 2,[aI 8,aI 9,aB 10,aI 11,aE 0 0,aV 3 12 0])],
  .vec (.aP 12) 0 2 []],[],.lit 0⟩)]⟩
def avZ:FE:=⟨12300,174,[],[],some (⟨13,[(0,aE 0 0),(1,.func (.func 175) [] [.ptr 0 0])],[.cells [.ptr 1 0] 179,
 .cells [aI 1,.qH 2 6 (.aP 2) 0,aI 3,aV 2 4 7,aU 5,aI 2,aI 6,aI 7] 181,
 .vec (.aP 4) 7 114 [(.aP 2,[aI 8,aI 9,aB 10,aI 11,aE 0 0,aE 12 0])]],[],.lit 0⟩,[.cells [.ptr 1 0] 179,.cells [aI 1,.qH 2 6 (.aP 2) 0,aI 3,aV 2 4 7,aU 5,aI 2,aI 6,aI 7] 181,.vec (.aP 4) 7 114 [(.aP 2,[aI 8,aI 9,aB 10,aI 11,aE 0 0,aE 12 0])]],13),[⟨13,[(0,aE 0 0)],[.cells [.ptr 1 0] 179,
 .cells [aI 1,.qH 2 6 (.aP 2) 0,aI 3,aV 2 4 7,aU 5,aI 2,aI 6,aI 7] 181,
 .vec (.aP 4) 7 114 [(.aP 2,[aI 8,aI 9,aB 10,aI 11,aE 0 0,aE 12 0])]],[],.lit 0⟩],[],[],13,[],[],
 []⟩
def avY:FE:=⟨12350,206,[],[],some (⟨13,[(0,aE 0 0),(1,.func (.func 175) [] [.ptr 0 0])],[.cells [.ptr 1 0] 179,
 .cells [aI 1,.qH 2 6 (.aP 2) 0,aI 3,aV 2 4 7,aU 5,aI 2,aI 6,aI 7] 181,
 .vec (.aP 4) 7 114 [(.aP 2,[aI 8,aI 9,aB 10,aI 11,aE 0 0,aE 12 0])]],[],.lit 0⟩,[.cells [.ptr 1 0] 179,.cells [aI 1,.qH 2 6 (.aP 2) 0,aI 3,aV 2 4 7,aU 5,aI 2,aI 6,aI 7] 181,.vec (.aP 4) 7 114 [(.aP 2,[aI 8,aI 9,aB 10,aI 11,aE 0 0,aE 12 0])]],13),[⟨13,[(0,aJ (-1))],[.cells [.ptr 1 0] 179,
 .cells [aI 1,.qH 2 6 (.aP 2) 0,aI 3,aV 2 4 7,aU 5,aI 2,aI 6,aI 7] 181,
 .vec (.aP 4) 7 114 [(.aP 2,[aI 8,aI 9,aB 10,aI 11,aE 0 0,aE 12 0])]],[],.lit 0⟩],[],[],13,[],[],
 [([0,1,0,1],⟨13,[(0,aE 0 0),(1,.func (.func 175) [] [.ptr 0 0]),(7,aJ 0),(8,aJ 0)],[.cells [.ptr 1 0] 179,
  .cells [aI 1,.qH 2 6 (.aP 2) 0,aI 3,aV 2 4 7,aU 5,aI 2,aI 6,aI 7] 181,
  .vec (.aP 4) 7 114 [(.aP 2,[aI 8,aI 9,aB 10,aI 11,aE 0 0,aE 12 0])]],[],.lit 0⟩)]⟩
def avX:FE:=⟨12400,133,[],[],some (⟨7,[(0,.agg [.slice 0 0 1 (.exact 1),.slice 1 0 1 (.exact 1)])],[.cells [aU 0,.str [97],aI 1,.str [],aI 2] 137,
 .cells [.str [97],.slice 2 0 1 (.exact 1),aI 3] 156,
 .cells [.int .u8 (.lit 1),aU 4,.str [97],.str [],aI 5,.aC,.aC,.aC,aI 6] 208 ],[],.lit 0⟩,[.cells [aU 0,.str [97],aI 1,.str [],aI 2] 137,.cells [.str [97],.slice 2 0 1 (.exact 1),aI 3] 156,.cells [.int .u8 (.lit 1),aU 4,.str [97],.str [],aI 5,.aC,.aC,.aC,aI 6] 208],7),[⟨7,[(0,.bool (.lit false))],[.cells [aU 0,.str [97],aI 1,.str [],aI 2] 137,
 .cells [.str [97],.slice 2 0 1 (.exact 1),aI 3] 156,
 .cells [.int .u8 (.lit 1),aU 4,.str [97],.str [],aI 5,.aC,.aC,.aC,aI 6] 208 ],[],.lit 0⟩,⟨7,[(0,.bool (.lit true))],[.cells [aU 0,.str [97],aI 1,.str [],aI 2] 137,
 .cells [.str [97],.slice 2 0 1 (.exact 1),aI 3] 156,
 .cells [.int .u8 (.lit 1),aU 4,.str [97],.str [],aI 5,.aC,.aC,.aC,aI 6] 208 ],[],.lit 0⟩],[],[],7,[],[],
 []⟩
def avW:FE:=⟨12450,133,[],[],some (⟨9,[(0,.agg [.slice 0 0 2 (.exact 2),.slice 1 0 1 (.exact 1)])],[.cells [.int .u8 (.lit 1),.str [98],aI 0,.str [],aI 1,aU 2,.str [97],aI 3,.str [98],aI 4] 137,
 .cells [.str [97],.slice 2 0 1 (.exact 1),aI 5] 156,
 .cells [.int .u8 (.lit 1),aU 6,.str [97],.str [],aI 7,.aC,.aC,.aC,aI 8] 208 ],[],.lit 0⟩,[.cells [.int .u8 (.lit 1),.str [98],aI 0,.str [],aI 1,aU 2,.str [97],aI 3,.str [98],aI 4] 137,.cells [.str [97],.slice 2 0 1 (.exact 1),aI 5] 156,.cells [.int .u8 (.lit 1),aU 6,.str [97],.str [],aI 7,.aC,.aC,.aC,aI 8] 208],9),[⟨9,[(0,.bool (.lit false))],[.cells [.int .u8 (.lit 1),.str [98],aI 0,.str [],aI 1,aU 2,.str [97],aI 3,.str [98],aI 4] 137,
 .cells [.str [97],.slice 2 0 1 (.exact 1),aI 5] 156,
 .cells [.int .u8 (.lit 1),aU 6,.str [97],.str [],aI 7,.aC,.aC,.aC,aI 8] 208 ],[],.lit 0⟩,⟨9,[(0,.bool (.lit true))],[.cells [.int .u8 (.lit 1),.str [98],aI 0,.str [],aI 1,aU 2,.str [97],aI 3,.str [98],aI 4] 137,
 .cells [.str [97],.slice 2 0 1 (.exact 1),aI 5] 156,
 .cells [.int .u8 (.lit 1),aU 6,.str [97],.str [],aI 7,.aC,.aC,.aC,aI 8] 208 ],[],.lit 0⟩],[],[],9,[],[],
 []⟩
def avV:FE:=⟨12500,133,[],[],some (⟨7,[(0,.agg [.slice 0 0 1 (.exact 1),.slice 1 0 1 (.exact 1)])],[.cells [aU 0,.str [97],aI 1,.str [],aI 2] 137,
 .cells [.str [97],.slice 2 0 1 (.exact 1),aI 3] 156,
 .cells [.int .u8 (.lit 1),aU 4,.str [97],.str [97],aI 5,.aC,.aC,.aC,aI 6] 208 ],[],.lit 0⟩,[.cells [aU 0,.str [97],aI 1,.str [],aI 2] 137,.cells [.str [97],.slice 2 0 1 (.exact 1),aI 3] 156,.cells [.int .u8 (.lit 1),aU 4,.str [97],.str [97],aI 5,.aC,.aC,.aC,aI 6] 208],7),[⟨7,[(0,.bool (.lit false))],[.cells [aU 0,.str [97],aI 1,.str [],aI 2] 137,
 .cells [.str [97],.slice 2 0 1 (.exact 1),aI 3] 156,
 .cells [.int .u8 (.lit 1),aU 4,.str [97],.str [97],aI 5,.aC,.aC,.aC,aI 6] 208 ],[],.lit 0⟩,⟨7,[(0,.bool (.lit true))],[.cells [aU 0,.str [97],aI 1,.str [],aI 2] 137,
 .cells [.str [97],.slice 2 0 1 (.exact 1),aI 3] 156,
 .cells [.int .u8 (.lit 1),aU 4,.str [97],.str [97],aI 5,.aC,.aC,.aC,aI 6] 208 ],[],.lit 0⟩],[],[],7,[],[],
 []⟩
def avU:FE:=⟨12550,133,[],[],some (⟨9,[(0,.agg [.slice 0 0 2 (.exact 2),.slice 1 0 1 (.exact 1)])],[.cells [.int .u8 (.lit 1),.str [98],aI 0,.str [],aI 1,aU 2,.str [97],aI 3,.str [98],aI 4] 137,
 .cells [.str [97],.slice 2 0 1 (.exact 1),aI 5] 156,
 .cells [.int .u8 (.lit 1),aU 6,.str [97],.str [97],aI 7,.aC,.aC,.aC,aI 8] 208 ],[],.lit 0⟩,[.cells [.int .u8 (.lit 1),.str [98],aI 0,.str [],aI 1,aU 2,.str [97],aI 3,.str [98],aI 4] 137,.cells [.str [97],.slice 2 0 1 (.exact 1),aI 5] 156,.cells [.int .u8 (.lit 1),aU 6,.str [97],.str [97],aI 7,.aC,.aC,.aC,aI 8] 208],9),[⟨9,[(0,.bool (.lit false))],[.cells [.int .u8 (.lit 1),.str [98],aI 0,.str [],aI 1,aU 2,.str [97],aI 3,.str [98],aI 4] 137,
 .cells [.str [97],.slice 2 0 1 (.exact 1),aI 5] 156,
 .cells [.int .u8 (.lit 1),aU 6,.str [97],.str [97],aI 7,.aC,.aC,.aC,aI 8] 208 ],[],.lit 0⟩,⟨9,[(0,.bool (.lit true))],[.cells [.int .u8 (.lit 1),.str [98],aI 0,.str [],aI 1,aU 2,.str [97],aI 3,.str [98],aI 4] 137,
 .cells [.str [97],.slice 2 0 1 (.exact 1),aI 5] 156,
 .cells [.int .u8 (.lit 1),aU 6,.str [97],.str [97],aI 7,.aC,.aC,.aC,aI 8] 208 ],[],.lit 0⟩],[],[],9,[],[],
 []⟩
def avT:FE:=⟨12600,133,[],[],some (⟨8,[(0,.agg [.slice 0 0 1 (.exact 1),.slice 1 0 1 (.exact 1)])],[.cells [aU 0,.str [97],aI 1,.str [],aI 2] 137,
 .cells [.str [97],.slice 2 0 1 (.exact 1),aI 3] 156,
 .cells [.int .u8 (.lit 1),aU 4,.str [97],.str [],aI 5,aV 3 6 6,.aC,.aC,aI 7] 208,
 .vec (.aP 6) 6 69 []],[],.lit 0⟩,[.cells [aU 0,.str [97],aI 1,.str [],aI 2] 137,.cells [.str [97],.slice 2 0 1 (.exact 1),aI 3] 156,.cells [.int .u8 (.lit 1),aU 4,.str [97],.str [],aI 5,aV 3 6 6,.aC,.aC,aI 7] 208,.vec (.aP 6) 6 69 []],8),[⟨8,[(0,.bool (.lit false))],[.cells [aU 0,.str [97],aI 1,.str [],aI 2] 137,
 .cells [.str [97],.slice 2 0 1 (.exact 1),aI 3] 156,
 .cells [.int .u8 (.lit 1),aU 4,.str [97],.str [],aI 5,aV 3 6 6,.aC,.aC,aI 7] 208,
 .vec (.aP 6) 6 69 []],[],.lit 0⟩,⟨10,[(0,.bool (.lit true))],[.cells [aU 0,.str [97],aI 1,.str [],aI 2] 137,
 .cells [.str [97],.slice 2 0 1 (.exact 1),aI 3] 156,
 .cells [.int .u8 (.lit 1),aU 4,.str [97],.str [],aI 5,.uS 3 (.aP 8) 6,.aC,.aC,aI 7] 208,
 .vec (.aP 9) 6 69 []],[],.lit 0⟩],[],[],8,[],[],
 []⟩
def avS:FE:=⟨12650,133,[],[],some (⟨10,[(0,.agg [.slice 0 0 2 (.exact 2),.slice 1 0 1 (.exact 1)])],[.cells [.int .u8 (.lit 1),.str [98],aI 0,.str [],aI 1,aU 2,.str [97],aI 3,.str [98],aI 4] 137,
 .cells [.str [97],.slice 2 0 1 (.exact 1),aI 5] 156,
 .cells [.int .u8 (.lit 1),aU 6,.str [97],.str [],aI 7,aV 3 8 6,.aC,.aC,aI 9] 208,
 .vec (.aP 8) 6 69 []],[],.lit 0⟩,[.cells [.int .u8 (.lit 1),.str [98],aI 0,.str [],aI 1,aU 2,.str [97],aI 3,.str [98],aI 4] 137,.cells [.str [97],.slice 2 0 1 (.exact 1),aI 5] 156,.cells [.int .u8 (.lit 1),aU 6,.str [97],.str [],aI 7,aV 3 8 6,.aC,.aC,aI 9] 208,.vec (.aP 8) 6 69 []],10),[⟨10,[(0,.bool (.lit false))],[.cells [.int .u8 (.lit 1),.str [98],aI 0,.str [],aI 1,aU 2,.str [97],aI 3,.str [98],aI 4] 137,
 .cells [.str [97],.slice 2 0 1 (.exact 1),aI 5] 156,
 .cells [.int .u8 (.lit 1),aU 6,.str [97],.str [],aI 7,aV 3 8 6,.aC,.aC,aI 9] 208,
 .vec (.aP 8) 6 69 []],[],.lit 0⟩,⟨12,[(0,.bool (.lit true))],[.cells [.int .u8 (.lit 1),.str [98],aI 0,.str [],aI 1,aU 2,.str [97],aI 3,.str [98],aI 4] 137,
 .cells [.str [97],.slice 2 0 1 (.exact 1),aI 5] 156,
 .cells [.int .u8 (.lit 1),aU 6,.str [97],.str [],aI 7,.uS 3 (.aP 10) 6,.aC,.aC,aI 9] 208,
 .vec (.aP 11) 6 69 []],[],.lit 0⟩],[],[],10,[],[],
 []⟩
def avR:FE:=⟨12700,133,[],[],some (⟨8,[(0,.agg [.slice 0 0 1 (.exact 1),.slice 1 0 1 (.exact 1)])],[.cells [aU 0,.str [97],aI 1,.str [],aI 2] 137,
 .cells [.str [97],.slice 2 0 1 (.exact 1),aI 3] 156,
 .cells [.int .u8 (.lit 1),aU 4,.str [97],.str [97],aI 5,aV 3 6 6,.aC,.aC,aI 7] 208,
 .vec (.aP 6) 6 69 []],[],.lit 0⟩,[.cells [aU 0,.str [97],aI 1,.str [],aI 2] 137,.cells [.str [97],.slice 2 0 1 (.exact 1),aI 3] 156,.cells [.int .u8 (.lit 1),aU 4,.str [97],.str [97],aI 5,aV 3 6 6,.aC,.aC,aI 7] 208,.vec (.aP 6) 6 69 []],8),[⟨8,[(0,.bool (.lit false))],[.cells [aU 0,.str [97],aI 1,.str [],aI 2] 137,
 .cells [.str [97],.slice 2 0 1 (.exact 1),aI 3] 156,
 .cells [.int .u8 (.lit 1),aU 4,.str [97],.str [97],aI 5,aV 3 6 6,.aC,.aC,aI 7] 208,
 .vec (.aP 6) 6 69 []],[],.lit 0⟩,⟨10,[(0,.bool (.lit true))],[.cells [aU 0,.str [97],aI 1,.str [],aI 2] 137,
 .cells [.str [97],.slice 2 0 1 (.exact 1),aI 3] 156,
 .cells [.int .u8 (.lit 1),aU 4,.str [97],.str [97],aI 5,.uS 3 (.aP 8) 6,.aC,.aC,aI 7] 208,
 .vec (.aP 9) 6 69 []],[],.lit 0⟩],[],[],8,[],[],
 []⟩
def avQ:FE:=⟨12750,133,[],[],some (⟨10,[(0,.agg [.slice 0 0 2 (.exact 2),.slice 1 0 1 (.exact 1)])],[.cells [.int .u8 (.lit 1),.str [98],aI 0,.str [],aI 1,aU 2,.str [97],aI 3,.str [98],aI 4] 137,
 .cells [.str [97],.slice 2 0 1 (.exact 1),aI 5] 156,
 .cells [.int .u8 (.lit 1),aU 6,.str [97],.str [97],aI 7,aV 3 8 6,.aC,.aC,aI 9] 208,
 .vec (.aP 8) 6 69 []],[],.lit 0⟩,[.cells [.int .u8 (.lit 1),.str [98],aI 0,.str [],aI 1,aU 2,.str [97],aI 3,.str [98],aI 4] 137,.cells [.str [97],.slice 2 0 1 (.exact 1),aI 5] 156,.cells [.int .u8 (.lit 1),aU 6,.str [97],.str [97],aI 7,aV 3 8 6,.aC,.aC,aI 9] 208,.vec (.aP 8) 6 69 []],10),[⟨10,[(0,.bool (.lit false))],[.cells [.int .u8 (.lit 1),.str [98],aI 0,.str [],aI 1,aU 2,.str [97],aI 3,.str [98],aI 4] 137,
 .cells [.str [97],.slice 2 0 1 (.exact 1),aI 5] 156,
 .cells [.int .u8 (.lit 1),aU 6,.str [97],.str [97],aI 7,aV 3 8 6,.aC,.aC,aI 9] 208,
 .vec (.aP 8) 6 69 []],[],.lit 0⟩,⟨12,[(0,.bool (.lit true))],[.cells [.int .u8 (.lit 1),.str [98],aI 0,.str [],aI 1,aU 2,.str [97],aI 3,.str [98],aI 4] 137,
 .cells [.str [97],.slice 2 0 1 (.exact 1),aI 5] 156,
 .cells [.int .u8 (.lit 1),aU 6,.str [97],.str [97],aI 7,.uS 3 (.aP 10) 6,.aC,.aC,aI 9] 208,
 .vec (.aP 11) 6 69 []],[],.lit 0⟩],[],[],10,[],[],
 []⟩
def avP:FE:=⟨12800,185,[],[],some (⟨2,[(0,.ptr 0 0),(1,aS 0),(2,aI 1)],[.cells (u8L cT0) 241 ],[],.lit 0⟩,[.cells (u8L cT0) 241],2),[⟨3,[(0,aI 2)],[.cells (u8L cT0) 241 ],[],.lit 0⟩],[],[],2,[],[],
 [([0,0,1,0,1],⟨3,[(0,.ptr 0 0),(1,aS 0),(2,aI 2)],[.cells (u8L cT0) 241 ],[],.lit 0⟩)]⟩
def avO:FE:=⟨12850,187,[],[],some (⟨2,[(0,.ptr 0 0),(1,aS 0),(2,aI 1)],[.cells (u8L cT0) 241 ],[],.lit 0⟩,[.cells (u8L cT0) 241],2),[⟨3,[(0,aI 2)],[.cells (u8L cT0) 241 ],[],.lit 0⟩],[],[],2,[],[],
 [([0,0,1,1,1,1],⟨4,[(0,.ptr 0 0),(1,aS 0),(7,aU 2),(8,aI 3)],[.cells (u8L cT0) 241 ],[],.lit 0⟩)]⟩
def avM:FE:=⟨14000,28,[],[],some (⟨11,[(0,.agg [aD 0 3,aD 1 4]),(1,.ptr 0 0),(2,aI 2)],[.cells [aD 3 7,aV 1 4 8] 34,
 .vec (.aP 4) 8 92 [(.aP 2,[aI 5,aV 2 6 0,aU 7,aI 8,aI 9,aI 10])],
 .vec (.aP 6) 0 2 []],[],.lit 0⟩,[.cells [aD 3 7,aV 1 4 8] 34,.vec (.aP 4) 8 92 [(.aP 2,[aI 5,aV 2 6 0,aU 7,aI 8,aI 9,aI 10])],.vec (.aP 6) 0 2 []],11),[⟨13,[],[.cells [aD 3 7,aV 1 4 8] 34,
 .vec (.aP 4) 8 92 [(.aP 2,[aI 11,aV 2 12 0,aU 7,aI 8,aI 9,aI 10])],
 .vec (.aP 12) 0 2 []],[],.lit 0⟩],[],[],11,[],[],
 []⟩
def avK:FE:=⟨14500,29,[],[],some (⟨15,[(0,.agg [aD 0 3,aD 1 4]),(1,.ptr 0 0),(2,aI 2),(3,.agg [aU 3,aI 4,aI 5,aI 6])],[.cells [aD 7 7,aV 1 8 8] 34,
 .vec (.aP 8) 8 92 [(.aP 2,[aI 9,aV 2 10 0,aU 11,aI 12,aI 13,aI 14])],
 .vec (.aP 10) 0 2 []],[],.lit 0⟩,[.cells [aD 7 7,aV 1 8 8] 34,.vec (.aP 8) 8 92 [(.aP 2,[aI 9,aV 2 10 0,aU 11,aI 12,aI 13,aI 14])],.vec (.aP 10) 0 2 []],15),[⟨28,[(0,.agg [aI 15,aU 16,aI 17,aI 18,aI 19]),(1,aU 20)],[.cells [aD 21 7,aV 1 8 8] 34,
 .vec (.aP 8) 8 92 [(.aP 2,[aI 22,aV 2 23 0,aU 24,aI 25,aI 26,aI 27])],
 .vec (.aP 23) 0 2 []],[],.lit 0⟩],[],[],15,[],[],
 []⟩
def avL:FE:=⟨14050,28,[],[],some (⟨11,[(0,.agg [aD 0 3,aD 1 4]),(1,.ptr 0 0),(2,aI 2)],[.cells [aD 3 7,aV 1 4 8] 34,
 .vec (.aP 4) 8 92 [(.aP 2,[aI 5,aE 6 0,aU 7,aI 8,aI 9,aI 10])]],[],.lit 0⟩,[.cells [aD 3 7,aV 1 4 8] 34,.vec (.aP 4) 8 92 [(.aP 2,[aI 5,aE 6 0,aU 7,aI 8,aI 9,aI 10])]],11),[⟨12,[],[.cells [aD 3 7,aV 1 4 8] 34,
 .vec (.aP 4) 8 92 [(.aP 2,[aI 11,aE 6 0,aU 7,aI 8,aI 9,aI 10])]],[],.lit 0⟩],[],[],11,[],[],
 []⟩
def avJ:FE:=⟨14550,29,[],[],some (⟨15,[(0,.agg [aD 0 3,aD 1 4]),(1,.ptr 0 0),(2,aI 2),(3,.agg [aU 3,aI 4,aI 5,aI 6])],[.cells [aD 7 7,aV 1 8 8] 34,
 .vec (.aP 8) 8 92 [(.aP 2,[aI 9,aE 10 0,aU 11,aI 12,aI 13,aI 14])]],[],.lit 0⟩,[.cells [aD 7 7,aV 1 8 8] 34,.vec (.aP 8) 8 92 [(.aP 2,[aI 9,aE 10 0,aU 11,aI 12,aI 13,aI 14])]],15),[⟨27,[(0,.agg [aI 15,aU 16,aI 17,aI 18,aI 19]),(1,aU 20)],[.cells [aD 21 7,aV 1 8 8] 34,
 .vec (.aP 8) 8 92 [(.aP 2,[aI 22,aE 10 0,aU 23,aI 24,aI 25,aI 26])]],[],.lit 0⟩],[],[],15,[],[],
 []⟩
def avI:FE:=⟨15000,59,[],[],some (⟨11,[(0,.agg [aD 0 7,aD 1 8]),(1,.agg [aD 2 7,aD 3 8]),(2,.agg [aI 4,aU 5,aI 6,aI 7,aI 8]),(3,.func (.func 60) [] [.ptr 0 0,.ptr 1 0])],[.cells [aD 2 7,aD 3 8,aV 2 9 0] 51,
 .cells [aI 10] 2,
 .vec (.aP 9) 0 2 []],[],.lit 0⟩,[.cells [aD 2 7,aD 3 8,aV 2 9 0] 51,.cells [aI 10] 2,.vec (.aP 9) 0 2 []],11),[⟨12,[],[.cells [aD 2 7,aD 3 8,aV 2 11 0] 51,
 .cells [aI 10] 2,
 .vec (.aP 11) 0 2 []],[],.lit 0⟩],[],[],11,[],[],
 [([0,1,0,1,1,1,0,1,1],⟨15,[(3,.func (.func 60) [] [.ptr 0 0,.ptr 1 0]),(32,aD 11 0),(33,aI 12),(34,aI 13)],[.cells [aD 2 7,aD 3 8,aV 2 14 0] 51,
  .cells [aI 10] 2,
  .vec (.aP 14) 0 2 []],[],.lit 0⟩),([0,1,1,0,1,1,1,1,1,0,1,1],⟨14,[(3,.func (.func 60) [] [.ptr 0 0,.ptr 1 0]),(6,.ptr 3 0),(55,aD 3 8),(56,aI 11),(57,aI 12)],[.cells [aD 2 7,aD 3 8,aV 2 13 0] 51,
  .cells [aI 10] 2,
  .vec (.aP 13) 0 2 [],
  .cells [aI 4,aU 5,aI 6,aI 7,aI 8] 39 ],[],.lit 0⟩)]⟩
def avN:FE:=⟨12900,133,[],[],some (⟨2,[(0,.agg [.aC,.slice 0 0 1 (.exact 1)])],[.cells [aS 0,.aC,aI 1] 156 ],[],.lit 0⟩,[.cells [aS 0,.aC,aI 1] 156],2),[⟨2,[(0,.bool (.lit false))],[.cells [aS 0,.aC,aI 1] 156 ],[],.lit 0⟩,⟨2,[(0,.bool (.lit true))],[.cells [aS 0,.aC,aI 1] 156 ],[],.lit 0⟩],[],[],2,[],[],
 []⟩
def feT:Tr FE:=(nO (nO (nS aEo (nS aEk (nS aEc (nS aCa (nS aBT (nO (nL avQ) .nil) .nil) .nil) (nO .nil (nL aBH))) (nS aCi (nS aB3 (nO .nil .nil) (nL aBP)) (nS aB0 .nil (nO (nO (nO .nil .nil) .nil) (nL avY))))) (nS aEg (nS aD8 (nS aB6 .nil (nO (nO (nL avJ) .nil) .nil)) (nO .nil (nO .nil (nL awE)))) (nS aCe (nO .nil (nL aBL)) (nS aBW .nil (nO .nil (nL avU)))))) (nS aEm (nS aEi (nS aEa (nS aB8 (nO (nO (nL avO) .nil) (nO (nL avG) .nil)) .nil) (nS aB1 .nil (nO .nil (nL awG)))) (nS aCg (nS aB2 .nil (nL aBN)) (nS aBY (nO (nO (nL avL) .nil) .nil) (nO .nil (nL avW))))) (nS aEe (nS aCk (nS aB4 .nil (nL aBR)) (nO .nil (nO (nL aBE) (nL awC)))) (nS aCc (nO .nil (nL aBJ)) (nS aBV .nil (nO .nil (nL avS))))))) (nS aEp (nS aEn (nS aEj (nS aEb (nS aB9 (nO (nO (nL avP) .nil) (nO (nL avH) .nil)) .nil) (nO .nil (nS aBG .nil (nL awH)))) (nS aCh (nO .nil (nL aBO)) (nS aBZ (nO (nO (nL avM) .nil) .nil) (nO (nO (nO .nil .nil) .nil) (nL avX))))) (nS aEf (nS aCl (nS aB5 (nL anN) (nL aBS)) (nO .nil (nO (nL aBF) (nL awD)))) (nS aCd (nO .nil (nS aBK (nO (nL avI) .nil) .nil)) (nO .nil (nO .nil (nL avT)))))) (nS aEl (nS aEh (nS aD9 (nS aB7 (nO (nO (nL avN) .nil) .nil) (nO (nO (nL avK) .nil) .nil)) (nO .nil (nO .nil (nL awF)))) (nS aCf (nO .nil (nL aBM)) (nS aBX .nil (nO .nil (nL avV))))) (nS aEd (nS aCj (nO .nil (nL aBQ)) (nO .nil (nO (nO (nO .nil .nil) .nil) (nL avZ)))) (nS aCb (nO .nil (nL aBI)) (nS aBU .nil (nO .nil (nL avR))))))))
def aBa:Tr (List Nat):=(nO (nO (nO (nO (nO (nS [2800] .nil (nO (nL [850]) .nil)) (nS [1950] (nL [700]) .nil)) (nO (nL [1500]) (nS [2750] .nil (nO (nL [16050]) .nil)))) (nS [2450] (nO (nO (nO (nL [1000]) .nil) .nil) (nO (nS [800] .nil (nL [1250])) .nil)) (nS [1750] .nil (nS [15000] .nil (nO (nL [12850]) .nil))))) (nO (nS [1850] (nS [150] (nO .nil .nil) (nO (nS [5000] (nL [5400]) .nil) .nil)) (nS [1550] (nL [450]) (nS [2850] (nO .nil (nL [1200])) (nO (nL [12800]) .nil)))) (nO (nS [1450] (nO (nO (nL [12400,12450,12500,12550,12600,12650,12700,12750,12900]) .nil) .nil) (nS [400] (nL [9000,550]) .nil)) (nS [14500,14550] (nO (nS [350] .nil (nL [650])) .nil) (nO (nL [2900]) (nL [1350])))))) (nO (nS [3400] (nO (nO (nL [3100]) (nO (nS [750] (nL [950]) .nil) .nil)) (nS [9050] (nL [1800]) (nS [3050] (nO .nil (nL [1150])) .nil))) (nS [2050] (nS [1700] (nO .nil .nil) (nO (nO .nil (nL [1300])) .nil)) (nS [14000,14050] .nil (nO (nL [900]) (nO (nL [1100]) .nil))))) (nS [100] (nO (nO (nO (nO (nL [1400]) .nil) .nil) (nO (nO (nL [5050]) .nil) .nil)) (nS [1650] (nL [300]) (nS [2950] (nS [16000] .nil (nL [5150,5200,5300,5350,5500,5550,5600])) (nL [1050])))) (nS [3150] (nO (nO (nO .nil (nL [5100,5250,5450])) .nil) (nS [250] (nL [600]) .nil)) (nS [200] (nO (nS [1600] (nL [500]) (nL [12050,12150,12250,12350])) (nO (nL [12000,12100,12200,12300]) .nil)) .nil)))))
noncomputable def St:ahF:=⟨Tryz.prog,base,ttE,ft,Vl ttE hints,Sl ttE hints,Zm,lim 322 feT,fun g=>(lim 219 aBa g).getD []⟩
noncomputable def S:Sys:=St.sys
theorem aD7:(List.range 322).all (fun k=>match feT.get k with | some f=>anM ft k f | none=>true)=true:=by kernel_rfl
theorem aA9:(List.range 219).all (fun g=>Wu ft (lim 322 feT) g ((aBa.get g).getD []))=true:=by kernel_rfl
theorem aAW:OU S:=by
 refine atI ahZ aBB (fun I call hc=>@Gx _ I _ ahZ mixed _ _ hc) agF (fun k f hf=>?_) fun g=>?_
 ·have hf':lim 322 feT k=some f:=hf
  unfold lim at hf'
  split at hf'
  ·simp at hf'
  ·rename_i hle
   have hlt:k < 322:=by
    rcases Nat.lt_or_ge k 322 with h | h
    ·exact h
    ·rw [Nat.ble_eq_true_of_le h] at hle; simp at hle
   have:=List.all_eq_true.1 aD7 k (List.mem_range.2 hlt)
   rw [hf'] at this
   exact this
 ·show Wu ft (lim 322 feT) g ((lim 219 aBa g).getD [])=true
  unfold lim
  split
  ·rfl
  ·rename_i hle
   have hlt:g < 219:=by
    rcases Nat.lt_or_ge g 219 with h | h
    ·exact h
    ·rw [Nat.ble_eq_true_of_le h] at hle; simp at hle
   exact List.all_eq_true.1 aA9 g (List.mem_range.2 hlt)
end Go.As.Try
end
section
namespace Go.As.Try
open Go hiding Stat Spec shape
open Go.As Go.Proofs
set_option maxRecDepth 100000
noncomputable section
def b0:D:=.p (.i 0) (.p (.i 0) (.p (.i 0) (.p (.i 0) (.p (.i 0) (.p (.i 0) (.p (.i 0) (.p (.i 0) (.p (.i 0) (.p (.i 1) (.p (.i 1) (.p (.i 0) (.p (.i 0) (.p (.i 1) (.p (.i 0) (.p (.i 0) (.p (.i 0) (.p (.i 0) (.p (.i 0) (.p (.i 0) (.p (.i 0) (.p (.i 0) (.p (.i 0) (.p (.i 0) (.p (.i 0) (.p (.i 0) (.p (.i 0) (.p (.i 0) (.p (.i 0) (.p (.i 0) (.p (.i 0) (.p (.i 0) (.p (.i 1) (.p (.i 0) (.p (.i 0) (.p (.i 2) (.p (.i 0) (.p (.i 0) (.p (.i 0) (.p (.i 0) (.p (.i 5) (.p (.i 5) (.p (.i 5) (.p (.i 5) (.p (.i 0) (.p (.i 5) (.p (.i 0) (.p (.i 0) (.p (.i 3) (.p (.i 3) (.p (.i 3) (.p (.i 3) (.p (.i 3) (.p (.i 3) (.p (.i 3) (.p (.i 3) (.p (.i 3) (.p (.i 3) (.p (.i 0) (.p (.i 5) (.p (.i 5) (.p (.i 5) (.p (.i 0) (.p (.i 0) (.p (.i 0) (.p (.i 4) (.p (.i 4) (.p (.i 4) (.p (.i 4) (.p (.i 4) (.p (.i 4) (.p (.i 4) (.p (.i 4) (.p (.i 4) (.p (.i 4) (.p (.i 4) (.p (.i 4) (.p (.i 4) (.p (.i 4) (.p (.i 4) (.p (.i 4) (.p (.i 4) (.p (.i 4) (.p (.i 4) (.p (.i 4) (.p (.i 4) (.p (.i 4) (.p (.i 4) (.p (.i 4) (.p (.i 4) (.p (.i 4) (.p (.i 0) (.p (.i 0) (.p (.i 0) (.p (.i 0) (.p (.i 4) (.p (.i 0) (.p (.i 4) (.p (.i 4) (.p (.i 4) (.p (.i 4) (.p (.i 4) (.p (.i 4) (.p (.i 4) (.p (.i 4) (.p (.i 4) (.p (.i 4) (.p (.i 4) (.p (.i 4) (.p (.i 4) (.p (.i 4) (.p (.i 4) (.p (.i 4) (.p (.i 4) (.p (.i 4) (.p (.i 4) (.p (.i 4) (.p (.i 4) (.p (.i 4) (.p (.i 4) (.p (.i 4) (.p (.i 4) (.p (.i 4) (.p (.i 5) (.p (.i 0) (.p (.i 5) (.p (.i 0) (.p (.i 0) (.p (.i 0) (.p (.i 0) (.p (.i 0) (.p (.i 0) (.p (.i 0) (.p (.i 0) (.p (.i 0) (.p (.i 0) (.p (.i 0) (.p (.i 0) (.p (.i 0) (.p (.i 0) (.p (.i 0) (.p (.i 0) (.p (.i 0) (.p (.i 0) (.p (.i 0) (.p (.i 0) (.p (.i 0) (.p (.i 0) (.p (.i 0) (.p (.i 0) (.p (.i 0) (.p (.i 0) (.p (.i 0) (.p (.i 0) (.p (.i 0) (.p (.i 0) (.p (.i 0) (.p (.i 0) (.p (.i 0) (.p (.i 0) (.p (.i 0) (.p (.i 0) (.p (.i 0) (.p (.i 0) (.p (.i 0) (.p (.i 0) (.p (.i 0) (.p (.i 0) (.p (.i 0) (.p (.i 0) (.p (.i 0) (.p (.i 0) (.p (.i 0) (.p (.i 0) (.p (.i 0) (.p (.i 0) (.p (.i 0) (.p (.i 0) (.p (.i 0) (.p (.i 0) (.p (.i 0) (.p (.i 0) (.p (.i 0) (.p (.i 0) (.p (.i 0) (.p (.i 0) (.p (.i 0) (.p (.i 0) (.p (.i 0) (.p (.i 0) (.p (.i 0) (.p (.i 0) (.p (.i 0) (.p (.i 0) (.p (.i 0) (.p (.i 0) (.p (.i 0) (.p (.i 0) (.p (.i 0) (.p (.i 0) (.p (.i 0) (.p (.i 0) (.p (.i 0) (.p (.i 0) (.p (.i 0) (.p (.i 0) (.p (.i 0) (.p (.i 0) (.p (.i 0) (.p (.i 0) (.p (.i 0) (.p (.i 0) (.p (.i 0) (.p (.i 0) (.p (.i 0) (.p (.i 0) (.p (.i 0) (.p (.i 0) (.p (.i 0) (.p (.i 0) (.p (.i 0) (.p (.i 0) (.p (.i 0) (.p (.i 0) (.p (.i 0) (.p (.i 0) (.p (.i 0) (.p (.i 0) (.p (.i 0) (.p (.i 0) (.p (.i 0) (.p (.i 0) (.p (.i 0) (.p (.i 0) (.p (.i 0) (.p (.i 0) (.p (.i 0) (.p (.i 0) (.p (.i 0) (.p (.i 0) (.p (.i 0) (.p (.i 0) (.p (.i 0) (.p (.i 0) (.p (.i 0) (.p (.i 0) (.p (.i 0) (.p (.i 0) (.p (.i 0) (.p (.i 0) (.p (.i 0) (.p (.i 0) (.p (.i 0) (.p (.i 0) (.p (.i 0) (.p (.i 0) (.i 0))))))))))))))))))))))))))))))))))))))))))))))))))))))))))))))))))))))))))))))))))))))))))))))))))))))))))))))))))))))))))))))))))))))))))))))))))))))))))))))))))))))))))))))))))))))))))))))))))))))))))))))))))))))))))))))))))))))))))))))))))))))))))))))))
def b1:D:=.p (.i 32) (.p (.i 97) (.p (.i 99) (.p (.i 113) (.p (.i 117) (.p (.i 105) (.p (.i 114) (.p (.i 101) (.p (.i 32) (.p (.i 97) (.p (.i 100) (.p (.i 100) (.p (.i 32) (.p (.i 97) (.p (.i 114) (.p (.i 114) (.p (.i 105) (.p (.i 118) (.p (.i 101) (.p (.i 32) (.p (.i 98) (.p (.i 97) (.p (.i 114) (.p (.i 114) (.p (.i 105) (.p (.i 101) (.p (.i 114) (.p (.i 32) (.p (.i 98) (.p (.i 114) (.p (.i 111) (.p (.i 97) (.p (.i 100) (.p (.i 99) (.p (.i 97) (.p (.i 115) (.p (.i 116) (.p (.i 32) (.p (.i 99) (.p (.i 111) (.p (.i 110) (.p (.i 100) (.p (.i 32) (.p (.i 100) (.p (.i 111) (.p (.i 32) (.p (.i 100) (.p (.i 111) (.p (.i 110) (.p (.i 101) (.p (.i 32) (.p (.i 101) (.p (.i 108) (.p (.i 115) (.p (.i 101) (.p (.i 32) (.p (.i 105) (.p (.i 102) (.p (.i 32) (.p (.i 108) (.p (.i 111) (.p (.i 99) (.p (.i 107) (.p (.i 32) (.p (.i 108) (.p (.i 111) (.p (.i 99) (.p (.i 107) (.p (.i 102) (.p (.i 111) (.p (.i 114) (.p (.i 32) (.p (.i 108) (.p (.i 111) (.p (.i 111) (.p (.i 112) (.p (.i 32) (.p (.i 109) (.p (.i 117) (.p (.i 116) (.p (.i 101) (.p (.i 120) (.p (.i 32) (.p (.i 111) (.p (.i 110) (.p (.i 99) (.p (.i 101) (.p (.i 32) (.p (.i 112) (.p (.i 117) (.p (.i 116) (.p (.i 32) (.p (.i 113) (.p (.i 117) (.p (.i 101) (.p (.i 117) (.p (.i 101) (.p (.i 32) (.p (.i 114) (.p (.i 101) (.p (.i 97) (.p (.i 100) (.p (.i 32) (.p (.i 114) (.p (.i 101) (.p (.i 108) (.p (.i 101) (.p (.i 97) (.p (.i 115) (.p (.i 101) (.p (.i 32) (.p (.i 114) (.p (.i 108) (.p (.i 111) (.p (.i 99) (.p (.i 107) (.p (.i 32) (.p (.i 114) (.p (.i 117) (.p (.i 110) (.p (.i 108) (.p (.i 111) (.p (.i 99) (.p (.i 107) (.p (.i 32) (.p (.i 114) (.p (.i 119) (.p (.i 108) (.p (.i 111) (.p (.i 99) (.p (.i 107) (.p (.i 32) (.p (.i 115) (.p (.i 101) (.p (.i 109) (.p (.i 32) (.p (.i 115) (.p (.i 101) (.p (.i 116) (.p (.i 32) (.p (.i 115) (.p (.i 105) (.p (.i 103) (.p (.i 110) (.p (.i 97) (.p (.i 108) (.p (.i 32) (.p (.i 116) (.p (.i 97) (.p (.i 107) (.p (.i 101) (.p (.i 32) (.p (.i 116) (.p (.i 104) (.p (.i 114) (.p (.i 101) (.p (.i 97) (.p (.i 100) (.p (.i 32) (.p (.i 116) (.p (.i 114) (.p (.i 121) (.p (.i 97) (.p (.i 99) (.p (.i 113) (.p (.i 117) (.p (.i 105) (.p (.i 114) (.p (.i 101) (.p (.i 32) (.p (.i 116) (.p (.i 114) (.p (.i 121) (.p (.i 108) (.p (.i 111) (.p (.i 99) (.p (.i 107) (.p (.i 32) (.p (.i 117) (.p (.i 110) (.p (.i 108) (.p (.i 111) (.p (.i 99) (.p (.i 107) (.p (.i 32) (.p (.i 118) (.p (.i 97) (.p (.i 114) (.p (.i 32) (.p (.i 119) (.p (.i 97) (.p (.i 105) (.p (.i 116) (.p (.i 32) (.p (.i 119) (.p (.i 97) (.p (.i 105) (.p (.i 116) (.p (.i 102) (.p (.i 111) (.p (.i 114) (.p (.i 32) (.p (.i 119) (.p (.i 97) (.p (.i 105) (.p (.i 116) (.p (.i 111) (.p (.i 110) (.p (.i 32) (.p (.i 119) (.p (.i 108) (.p (.i 111) (.p (.i 99) (.p (.i 107) (.p (.i 32) (.p (.i 119) (.p (.i 114) (.p (.i 105) (.p (.i 116) (.p (.i 101) (.p (.i 32) (.p (.i 119) (.p (.i 117) (.p (.i 110) (.p (.i 108) (.p (.i 111) (.p (.i 99) (.p (.i 107) (.p (.i 32) (.i 0)))))))))))))))))))))))))))))))))))))))))))))))))))))))))))))))))))))))))))))))))))))))))))))))))))))))))))))))))))))))))))))))))))))))))))))))))))))))))))))))))))))))))))))))))))))))))))))))))))))))))))))))))))))))))))))))))))))
abbrev Qa:SE:=.lit 0
abbrev Qb:SE:=.aP 1
abbrev Qc:SE:=ln Qb
abbrev Qd:SB:=.lt Qa Qc
abbrev Qe:SB:=.lt Qc (.lit 1759218604441)
abbrev Qf:SE:=.aP 0
abbrev Qg:SE:=.op .norm Qb Qa
abbrev Qh:SE:=.dat (.i 1)
abbrev Qi:SB:=.eq Qg Qh
abbrev Qj:List SE:=[Qf]
abbrev Qk:SE:=.dat (.i 2)
abbrev Ql:SB:=.eq Qg Qk
def Pz:T Lf:=sp Qd (sp Qe (ju 9001 [Qf,Qb,Qc,Qa]) fl) (sp Qi (ju 9002 Qj) (sp Ql (ju 9003 Qj) fl))
abbrev Qm:SE:=.aP 3
abbrev Qn:SB:=.eq Qm Qf
abbrev Qo:SE:=.aP 2
abbrev Qp:SB:=.lt Qm Qo
abbrev Qq:SB:=.lt Qm Qa
abbrev Qr:SB:=.lt Qm Qc
abbrev Qs:SE:=el Qb Qm
abbrev Qt:SE:=ce 4 Qs
abbrev Qu:SB:=.lt Qa (ln Qt)
abbrev Qv:SE:=.lit 17592186044416
abbrev Qw:SB:=.lt (ln Qt) Qv
abbrev Qx:SE:=ce 5 Qs
abbrev Qy:SB:=.lt Qa (ln Qx)
abbrev Qz:SB:=.lt (ln Qx) Qv
abbrev Q0:SE:=.lit 1
abbrev Q1:SE:=wr (.add Qm Q0)
abbrev Q2:SE:=el Qb Qf
abbrev Q3:SE:=nm (ce 0 Q2)
abbrev Q4:SE:=nm (ce 1 Q2)
abbrev Q5:SE:=nm (ce 2 Q2)
abbrev Q6:SE:=nm (ce 3 Q2)
abbrev Q7:SB:=.eq Qx Qh
abbrev Q8:SB:=.eq Qx Qk
abbrev Q9:SB:=.eq Qt Qh
abbrev Qba:SB:=.eq Qt Qk
abbrev Qbb:T Lf:=ou [Qa,Qf,Qb]
abbrev Yi:SE:=mk Qm
abbrev Qbd:SE:=.dat (.i 4)
abbrev Qbe:SE:=.op .set Qb (cn Yi (.op .set Qs (cn Qbd Qt)))
abbrev Qbf:SE:=.dat (.i 5)
abbrev Qbg:SE:=.op .set Qbe (cn Yi (.op .set (el Qbe Qm) (cn Qbf Qx)))
abbrev Qbh:SE:=cn Qbf Qh
abbrev Qbi:SE:=.op .set Qbe (cn Yi (.op .set (el Qbe Qm) Qbh))
abbrev Qbj:SE:=cn Qbf Qk
abbrev Qbk:SE:=.op .set Qbe (cn Yi (.op .set (el Qbe Qm) Qbj))
abbrev Qbl:SE:=cn Qbd Qh
abbrev Qbm:SE:=.op .set Qb (cn Yi (.op .set Qs Qbl))
abbrev Qbn:SE:=.op .set Qbm (cn Yi (.op .set (el Qbm Qm) (cn Qbf Qx)))
abbrev Qbo:SE:=.op .set Qbm (cn Yi (.op .set (el Qbm Qm) Qbh))
abbrev Qbp:SE:=.op .set Qbm (cn Yi (.op .set (el Qbm Qm) Qbj))
abbrev Qbq:SE:=cn Qbd Qk
abbrev Qbr:SE:=.op .set Qb (cn Yi (.op .set Qs Qbq))
abbrev Qbs:SE:=.op .set Qbr (cn Yi (.op .set (el Qbr Qm) (cn Qbf Qx)))
abbrev Qbt:SE:=.op .set Qbr (cn Yi (.op .set (el Qbr Qm) Qbh))
abbrev Qbu:SE:=.op .set Qbr (cn Yi (.op .set (el Qbr Qm) Qbj))
def uX:T Lf:=sp Qn (sp Qp (sp Qq fl (sp Qr (sp Qu (sp Qw (sp Qy (sp Qz (ju 9004 [Qf,Qb,Qo,Q1,Q3,Q4,Q5,Q6,Qt,Qx]) fl) (sp Q7 (ju 9005 [Qf,Qb,Qo,Q1,Q3,Q4,Q5,Q6,Qt,Qh]) (sp Q8 (ju 9005 [Qf,Qb,Qo,Q1,Q3,Q4,Q5,Q6,Qt,Qk]) fl))) fl) (sp Q9 (sp Qy (sp Qz (ju 9006 [Qf,Qb,Qo,Q1,Q3,Q4,Q5,Q6,Qh,Qx]) fl) (sp Q7 (ju 9007 [Qf,Qb,Qo,Q1,Q3,Q4,Q5,Q6,Qh,Qh]) (sp Q8 (ju 9007 [Qf,Qb,Qo,Q1,Q3,Q4,Q5,Q6,Qh,Qk]) fl))) (sp Qba (sp Qy (sp Qz (ju 9006 [Qf,Qb,Qo,Q1,Q3,Q4,Q5,Q6,Qk,Qx]) fl) (sp Q7 (ju 9007 [Qf,Qb,Qo,Q1,Q3,Q4,Q5,Q6,Qk,Qh]) (sp Q8 (ju 9007 [Qf,Qb,Qo,Q1,Q3,Q4,Q5,Q6,Qk,Qk]) fl))) fl))) fl)) Qbb) (sp Qp (sp Qq fl (sp Qr (sp Qu (sp Qw (sp Qy (sp Qz (ju 9001 [Qf,Qbg,Qo,Q1]) fl) (sp Q7 (ju 9001 [Qf,Qbi,Qo,Q1]) (sp Q8 (ju 9001 [Qf,Qbk,Qo,Q1]) fl))) fl) (sp Q9 (sp Qy (sp Qz (ju 9001 [Qf,Qbn,Qo,Q1]) fl) (sp Q7 (ju 9001 [Qf,Qbo,Qo,Q1]) (sp Q8 (ju 9001 [Qf,Qbp,Qo,Q1]) fl))) (sp Qba (sp Qy (sp Qz (ju 9001 [Qf,Qbs,Qo,Q1]) fl) (sp Q7 (ju 9001 [Qf,Qbt,Qo,Q1]) (sp Q8 (ju 9001 [Qf,Qbu,Qo,Q1]) fl))) fl))) fl)) Qbb)
abbrev Qbv:SB:=.eq Qa Qf
def aiN:T Lf:=sp Qbv (ou [Q0,Qf]) (ou [Q0,Qf])
abbrev nK:SE:=.lit 2
def aiM:T Lf:=sp Qbv (ou [nK,Qf]) (ou [nK,Qf])
abbrev Qbx:T Lf:=sp Qq fl (sp Qr fl fl)
abbrev wM:SE:=.lit 3
abbrev bD:SE:=.aP 4
abbrev bM:SE:=.aP 5
abbrev dN:SE:=.aP 6
abbrev eY:SE:=.aP 7
abbrev gJ:SE:=.aP 8
abbrev gG:SE:=.aP 9
abbrev Qb5:T Lf:=ou [wM,Qf,Qb,bD,bM,dN,eY,gJ,gG]
abbrev Qb6:List SE:=[Qf,Qbg,Qo,Q1,bD,bM,dN,eY,gJ,gG]
abbrev Qb7:List SE:=[Qf,Qbi,Qo,Q1,bD,bM,dN,eY,gJ,gG]
abbrev Qb8:List SE:=[Qf,Qbk,Qo,Q1,bD,bM,dN,eY,gJ,gG]
abbrev Qb9:List SE:=[Qf,Qbn,Qo,Q1,bD,bM,dN,eY,gJ,gG]
abbrev Qca:List SE:=[Qf,Qbo,Qo,Q1,bD,bM,dN,eY,gJ,gG]
abbrev Qcb:List SE:=[Qf,Qbp,Qo,Q1,bD,bM,dN,eY,gJ,gG]
abbrev Qcc:List SE:=[Qf,Qbs,Qo,Q1,bD,bM,dN,eY,gJ,gG]
abbrev Qcd:List SE:=[Qf,Qbt,Qo,Q1,bD,bM,dN,eY,gJ,gG]
abbrev Qce:List SE:=[Qf,Qbu,Qo,Q1,bD,bM,dN,eY,gJ,gG]
def aaX:T Lf:=sp Qn (sp Qp Qbx Qb5) (sp Qp (sp Qq fl (sp Qr (sp Qu (sp Qw (sp Qy (sp Qz (ju 9004 Qb6) fl) (sp Q7 (ju 9004 Qb7) (sp Q8 (ju 9004 Qb8) fl))) fl) (sp Q9 (sp Qy (sp Qz (ju 9004 Qb9) fl) (sp Q7 (ju 9004 Qca) (sp Q8 (ju 9004 Qcb) fl))) (sp Qba (sp Qy (sp Qz (ju 9004 Qcc) fl) (sp Q7 (ju 9004 Qcd) (sp Q8 (ju 9004 Qce) fl))) fl))) fl)) Qb5)
abbrev Ec:SE:=.lit 4
abbrev Qcg:T Lf:=ou [Ec,Qf,Qb,bD,bM,dN,eY,gJ,gG]
def aaW:T Lf:=sp Qn (sp Qp Qbx Qcg) (sp Qp (sp Qq fl (sp Qr (sp Qu (sp Qw (sp Qy (sp Qz (ju 9005 Qb6) fl) (sp Q7 (ju 9005 Qb7) (sp Q8 (ju 9005 Qb8) fl))) fl) (sp Q9 (sp Qy (sp Qz (ju 9005 Qb9) fl) (sp Q7 (ju 9005 Qca) (sp Q8 (ju 9005 Qcb) fl))) (sp Qba (sp Qy (sp Qz (ju 9005 Qcc) fl) (sp Q7 (ju 9005 Qcd) (sp Q8 (ju 9005 Qce) fl))) fl))) fl)) Qcg)
abbrev Qch:SE:=.lit 5
abbrev Qci:T Lf:=ou [Qch,Qf,Qb,bD,bM,dN,eY,gJ,gG]
def aaV:T Lf:=sp Qn (sp Qp Qbx Qci) (sp Qp (sp Qq fl (sp Qr (sp Qu (sp Qw (sp Qy (sp Qz (ju 9006 Qb6) fl) (sp Q7 (ju 9006 Qb7) (sp Q8 (ju 9006 Qb8) fl))) fl) (sp Q9 (sp Qy (sp Qz (ju 9006 Qb9) fl) (sp Q7 (ju 9006 Qca) (sp Q8 (ju 9006 Qcb) fl))) (sp Qba (sp Qy (sp Qz (ju 9006 Qcc) fl) (sp Q7 (ju 9006 Qcd) (sp Q8 (ju 9006 Qce) fl))) fl))) fl)) Qci)
abbrev Yh:SE:=.lit 6
abbrev Qck:T Lf:=ou [Yh,Qf,Qb,bD,bM,dN,eY,gJ,gG]
def aaU:T Lf:=sp Qn (sp Qp Qbx Qck) (sp Qp (sp Qq fl (sp Qr (sp Qu (sp Qw (sp Qy (sp Qz (ju 9007 Qb6) fl) (sp Q7 (ju 9007 Qb7) (sp Q8 (ju 9007 Qb8) fl))) fl) (sp Q9 (sp Qy (sp Qz (ju 9007 Qb9) fl) (sp Q7 (ju 9007 Qca) (sp Q8 (ju 9007 Qcb) fl))) (sp Qba (sp Qy (sp Qz (ju 9007 Qcc) fl) (sp Q7 (ju 9007 Qcd) (sp Q8 (ju 9007 Qce) fl))) fl))) fl)) Qck)
abbrev Qcl:SE:=ln Qo
abbrev Qcm:SB:=.lt Qa Qcl
abbrev Qcn:SB:=.lt Qcl (.lit 2199023255552)
abbrev Qco:SB:=.eq (.op .norm Qo Qa) Qh
abbrev Qcp:List SE:=[Qf,Qc,Qa,Qb]
abbrev Qcq:SB:=.eq (.op .norm Qo Qa) Qk
def I4:T Lf:=sp Qd (sp Qe (sp Qcm (sp Qcn (ju 9051 [Qf,Qc,Qa,Qb,Qo]) fl) (sp Qco (ju 9052 Qcp) (sp Qcq (ju 9053 Qcp) fl))) fl) (sp Qi (sp Qcm (sp Qcn (ju 9054 [Qf,Qo]) fl) (sp Qco (ju 9055 Qj) (sp Qcq (ju 9056 Qj) fl))) (sp Ql (sp Qcm (sp Qcn (ju 9057 [Qf,Qo]) fl) (sp Qco (ju 9058 Qj) (sp Qcq (ju 9059 Qj) fl))) fl))
abbrev wL:SB:=.lt Qo Qb
abbrev tN:SB:=.lt Qo Qa
abbrev IW:SE:=ln Qm
abbrev Qcu:SB:=.lt Qo IW
abbrev Qcv:SE:=el Qm Qo
abbrev Qcw:SE:=ce 4 Qcv
abbrev Qcx:SB:=.lt Qa (ln Qcw)
abbrev Qcy:SB:=.lt (ln Qcw) Qv
abbrev Qcz:SE:=ce 5 Qcv
abbrev Qc0:SB:=.lt Qa (ln Qcz)
abbrev Qc1:SB:=.lt (ln Qcz) Qv
abbrev jR:SE:=wr (.add Qo Q0)
abbrev ER:SE:=mk Qo
abbrev Qc4:SE:=.op .set Qm (cn ER (.op .set Qcv (cn Qbd Qcw)))
abbrev Qc5:SE:=.op .set Qc4 (cn ER (.op .set (el Qc4 Qo) (cn Qbf Qcz)))
abbrev Qc6:SB:=.eq Qcz Qh
abbrev Qc7:SE:=.op .set Qc4 (cn ER (.op .set (el Qc4 Qo) Qbh))
abbrev Qc8:SB:=.eq Qcz Qk
abbrev Qc9:SE:=.op .set Qc4 (cn ER (.op .set (el Qc4 Qo) Qbj))
abbrev Qda:SE:=.op .set Qm (cn ER (.op .set Qcv Qbl))
abbrev Qdb:SE:=.op .set Qda (cn ER (.op .set (el Qda Qo) (cn Qbf Qcz)))
abbrev Qdc:SE:=.op .set Qda (cn ER (.op .set (el Qda Qo) Qbh))
abbrev Qdd:SE:=.op .set Qda (cn ER (.op .set (el Qda Qo) Qbj))
abbrev Qde:SE:=.op .set Qm (cn ER (.op .set Qcv Qbq))
abbrev Qdf:SE:=.op .set Qde (cn ER (.op .set (el Qde Qo) (cn Qbf Qcz)))
abbrev Qdg:SE:=.op .set Qde (cn ER (.op .set (el Qde Qo) Qbh))
abbrev Qdh:SE:=.op .set Qde (cn ER (.op .set (el Qde Qo) Qbj))
abbrev IV:SE:=ln bD
def aaT:T Lf:=sp wL (sp tN fl (sp Qcu (sp Qcx (sp Qcy (sp Qc0 (sp Qc1 (ju 9051 [Qf,Qb,jR,Qc5,bD]) fl) (sp Qc6 (ju 9051 [Qf,Qb,jR,Qc7,bD]) (sp Qc8 (ju 9051 [Qf,Qb,jR,Qc9,bD]) fl))) fl) (sp (.eq Qcw Qh) (sp Qc0 (sp Qc1 (ju 9051 [Qf,Qb,jR,Qdb,bD]) fl) (sp Qc6 (ju 9051 [Qf,Qb,jR,Qdc,bD]) (sp Qc8 (ju 9051 [Qf,Qb,jR,Qdd,bD]) fl))) (sp (.eq Qcw Qk) (sp Qc0 (sp Qc1 (ju 9051 [Qf,Qb,jR,Qdf,bD]) fl) (sp Qc6 (ju 9051 [Qf,Qb,jR,Qdg,bD]) (sp Qc8 (ju 9051 [Qf,Qb,jR,Qdh,bD]) fl))) fl))) fl)) (ju 9060 [Qf,IV,Qa,Qm,bD])
def aaS:T Lf:=sp wL (sp tN fl (sp Qcu (sp Qcx (sp Qcy (sp Qc0 (sp Qc1 (ju 9052 [Qf,Qb,jR,Qc5]) fl) (sp Qc6 (ju 9052 [Qf,Qb,jR,Qc7]) (sp Qc8 (ju 9052 [Qf,Qb,jR,Qc9]) fl))) fl) (sp (.eq Qcw Qh) (sp Qc0 (sp Qc1 (ju 9052 [Qf,Qb,jR,Qdb]) fl) (sp Qc6 (ju 9052 [Qf,Qb,jR,Qdc]) (sp Qc8 (ju 9052 [Qf,Qb,jR,Qdd]) fl))) (sp (.eq Qcw Qk) (sp Qc0 (sp Qc1 (ju 9052 [Qf,Qb,jR,Qdf]) fl) (sp Qc6 (ju 9052 [Qf,Qb,jR,Qdg]) (sp Qc8 (ju 9052 [Qf,Qb,jR,Qdh]) fl))) fl))) fl)) (ju 9061 [Qf,Qm])
def ayE:T Lf:=sp wL (sp tN fl (sp Qcu (sp Qcx (sp Qcy (sp Qc0 (sp Qc1 (ju 9053 [Qf,Qb,jR,Qc5]) fl) (sp Qc6 (ju 9053 [Qf,Qb,jR,Qc7]) (sp Qc8 (ju 9053 [Qf,Qb,jR,Qc9]) fl))) fl) (sp (.eq Qcw Qh) (sp Qc0 (sp Qc1 (ju 9053 [Qf,Qb,jR,Qdb]) fl) (sp Qc6 (ju 9053 [Qf,Qb,jR,Qdc]) (sp Qc8 (ju 9053 [Qf,Qb,jR,Qdd]) fl))) (sp (.eq Qcw Qk) (sp Qc0 (sp Qc1 (ju 9053 [Qf,Qb,jR,Qdf]) fl) (sp Qc6 (ju 9053 [Qf,Qb,jR,Qdg]) (sp Qc8 (ju 9053 [Qf,Qb,jR,Qdh]) fl))) fl))) fl)) (ju 9062 [Qf,Qm])
def aiL:T Lf:=ju 9063 Qcp
def ayD:T Lf:=ju 9064 Qj
def ayC:T Lf:=ju 9065 Qj
def ayB:T Lf:=ju 9066 Qcp
def ayA:T Lf:=ju 9067 Qj
def axZ:T Lf:=ju 9068 Qj
abbrev Qdj:SB:=.eq Qo Qf
abbrev Qdk:SB:=.lt Qo IV
abbrev Qdl:SE:=el bD Qo
abbrev Qdm:SE:=ce 1 Qdl
abbrev Qdn:SB:=.lt Qa (ln Qdm)
abbrev Qdo:SB:=.lt (ln Qdm) Qv
abbrev Qdp:SE:=el bD Qf
abbrev Qdq:SE:=nm (ce 0 Qdp)
abbrev Qdr:SE:=nm (ce 2 Qdp)
abbrev Qds:SE:=nm (ce 3 Qdp)
abbrev Qdt:SE:=nm (ce 4 Qdp)
abbrev Qdu:SE:=nm (ce 5 Qdp)
abbrev Qdv:SB:=.eq Qdm Qh
abbrev Qdw:SB:=.eq Qdm Qk
abbrev Qdx:SE:=.op .set bD (cn ER (.op .set Qdl (cn Qh Qdm)))
abbrev Qdy:SE:=cn Qh Qh
abbrev Qdz:SE:=.op .set bD (cn ER (.op .set Qdl Qdy))
abbrev Qd0:SE:=cn Qh Qk
abbrev Qd1:SE:=.op .set bD (cn ER (.op .set Qdl Qd0))
def Fa:T Lf:=sp Qdj (sp wL (sp tN fl (sp Qdk (sp Qdn (sp Qdo (ju 9069 [Qf,Qb,jR,Qm,bD,Qdq,Qdm,Qdr,Qds,Qdt,Qdu]) fl) (sp Qdv (ju 9070 [Qf,Qb,jR,Qm,bD,Qdq,Qh,Qdr,Qds,Qdt,Qdu]) (sp Qdw (ju 9070 [Qf,Qb,jR,Qm,bD,Qdq,Qk,Qdr,Qds,Qdt,Qdu]) fl))) fl)) (ou [Qa,Qf,Qm,bD])) (sp wL (sp tN fl (sp Qdk (sp Qdn (sp Qdo (ju 9060 [Qf,Qb,jR,Qm,Qdx]) fl) (sp Qdv (ju 9060 [Qf,Qb,jR,Qm,Qdz]) (sp Qdw (ju 9060 [Qf,Qb,jR,Qm,Qd1]) fl))) fl)) (ou [Qa,Qf,Qm,bD]))
abbrev Qd2:T Lf:=ou [Q0,Qf,Qb]
def aiK:T Lf:=sp Qbv Qd2 Qd2
def axY:T Lf:=sp Qbv (ou [nK,Qf,Qb]) (ou [nK,Qf,Qb])
abbrev Qd3:SE:=ce 1 Qcv
abbrev Qd4:SB:=.lt Qa (ln Qd3)
abbrev Qd5:SB:=.lt (ln Qd3) Qv
abbrev Qd6:SE:=el Qm Qf
abbrev Qd7:SE:=nm (ce 0 Qd6)
abbrev Qd8:SE:=nm (ce 2 Qd6)
abbrev Qd9:SE:=nm (ce 3 Qd6)
abbrev Qea:SE:=nm (ce 4 Qd6)
abbrev Qeb:SE:=nm (ce 5 Qd6)
abbrev Qec:List SE:=[Qf,Qb,jR,Qm,Qd7,Qd3,Qd8,Qd9,Qea,Qeb]
abbrev Qed:SB:=.eq Qd3 Qh
abbrev Qee:List SE:=[Qf,Qb,jR,Qm,Qd7,Qh,Qd8,Qd9,Qea,Qeb]
abbrev Qef:SB:=.eq Qd3 Qk
abbrev Qeg:List SE:=[Qf,Qb,jR,Qm,Qd7,Qk,Qd8,Qd9,Qea,Qeb]
abbrev Qeh:SE:=.op .set Qm (cn ER (.op .set Qcv (cn Qh Qd3)))
abbrev Qei:SE:=.op .set Qm (cn ER (.op .set Qcv Qdy))
abbrev Qej:SE:=.op .set Qm (cn ER (.op .set Qcv Qd0))
def E8:T Lf:=sp Qdj (sp wL (sp tN fl (sp Qcu (sp Qd4 (sp Qd5 (ju 9071 Qec) fl) (sp Qed (ju 9072 Qee) (sp Qef (ju 9072 Qeg) fl))) fl)) (ou [Qa,Qf,Qh,Qm])) (sp wL (sp tN fl (sp Qcu (sp Qd4 (sp Qd5 (ju 9063 [Qf,Qb,jR,Qeh]) fl) (sp Qed (ju 9063 [Qf,Qb,jR,Qei]) (sp Qef (ju 9063 [Qf,Qb,jR,Qej]) fl))) fl)) (ou [Qa,Qf,Qh,Qm]))
def aiJ:T Lf:=sp Qbv (ou [Q0,Qf,Qh]) (ou [Q0,Qf,Qh])
def axX:T Lf:=sp Qbv (ou [nK,Qf,Qh]) (ou [nK,Qf,Qh])
def axW:T Lf:=sp Qdj (sp wL (sp tN fl (sp Qcu (sp Qd4 (sp Qd5 (ju 9073 Qec) fl) (sp Qed (ju 9074 Qee) (sp Qef (ju 9074 Qeg) fl))) fl)) (ou [Qa,Qf,Qk,Qm])) (sp wL (sp tN fl (sp Qcu (sp Qd4 (sp Qd5 (ju 9066 [Qf,Qb,jR,Qeh]) fl) (sp Qed (ju 9066 [Qf,Qb,jR,Qei]) (sp Qef (ju 9066 [Qf,Qb,jR,Qej]) fl))) fl)) (ou [Qa,Qf,Qk,Qm]))
def axV:T Lf:=sp Qbv (ou [Q0,Qf,Qk]) (ou [Q0,Qf,Qk])
def axU:T Lf:=sp Qbv (ou [nK,Qf,Qk]) (ou [nK,Qf,Qk])
abbrev Qek:T Lf:=sp tN fl (sp Qdk fl fl)
abbrev jA:SE:=.aP 10
abbrev Qem:T Lf:=ou [wM,Qf,Qm,bD,bM,dN,eY,gJ,gG,jA]
abbrev Qen:List SE:=[Qf,Qb,jR,Qm,Qdx,bM,dN,eY,gJ,gG,jA]
abbrev Qeo:List SE:=[Qf,Qb,jR,Qm,Qdz,bM,dN,eY,gJ,gG,jA]
abbrev Qep:List SE:=[Qf,Qb,jR,Qm,Qd1,bM,dN,eY,gJ,gG,jA]
def aaR:T Lf:=sp Qdj (sp wL Qek Qem) (sp wL (sp tN fl (sp Qdk (sp Qdn (sp Qdo (ju 9069 Qen) fl) (sp Qdv (ju 9069 Qeo) (sp Qdw (ju 9069 Qep) fl))) fl)) Qem)
abbrev Qeq:T Lf:=ou [Ec,Qf,Qm,bD,bM,dN,eY,gJ,gG,jA]
def aaQ:T Lf:=sp Qdj (sp wL Qek Qeq) (sp wL (sp tN fl (sp Qdk (sp Qdn (sp Qdo (ju 9070 Qen) fl) (sp Qdv (ju 9070 Qeo) (sp Qdw (ju 9070 Qep) fl))) fl)) Qeq)
abbrev Qer:T Lf:=sp tN fl (sp Qcu fl fl)
abbrev Qes:T Lf:=ou [wM,Qf,Qh,Qm,bD,bM,dN,eY,gJ,gG]
abbrev Qet:List SE:=[Qf,Qb,jR,Qeh,bD,bM,dN,eY,gJ,gG]
abbrev Qeu:List SE:=[Qf,Qb,jR,Qei,bD,bM,dN,eY,gJ,gG]
abbrev Qev:List SE:=[Qf,Qb,jR,Qej,bD,bM,dN,eY,gJ,gG]
def aaP:T Lf:=sp Qdj (sp wL Qer Qes) (sp wL (sp tN fl (sp Qcu (sp Qd4 (sp Qd5 (ju 9071 Qet) fl) (sp Qed (ju 9071 Qeu) (sp Qef (ju 9071 Qev) fl))) fl)) Qes)
abbrev Qew:T Lf:=ou [Ec,Qf,Qh,Qm,bD,bM,dN,eY,gJ,gG]
def aaO:T Lf:=sp Qdj (sp wL Qer Qew) (sp wL (sp tN fl (sp Qcu (sp Qd4 (sp Qd5 (ju 9072 Qet) fl) (sp Qed (ju 9072 Qeu) (sp Qef (ju 9072 Qev) fl))) fl)) Qew)
abbrev Qex:T Lf:=ou [wM,Qf,Qk,Qm,bD,bM,dN,eY,gJ,gG]
def axT:T Lf:=sp Qdj (sp wL Qer Qex) (sp wL (sp tN fl (sp Qcu (sp Qd4 (sp Qd5 (ju 9073 Qet) fl) (sp Qed (ju 9073 Qeu) (sp Qef (ju 9073 Qev) fl))) fl)) Qex)
abbrev Qey:T Lf:=ou [Ec,Qf,Qk,Qm,bD,bM,dN,eY,gJ,gG]
def axS:T Lf:=sp Qdj (sp wL Qer Qey) (sp wL (sp tN fl (sp Qcu (sp Qd4 (sp Qd5 (ju 9074 Qet) fl) (sp Qed (ju 9074 Qeu) (sp Qef (ju 9074 Qev) fl))) fl)) Qey)
abbrev tK:SE:=ln Qf
def aDa:T Lf:=ju 101 [wr (.add tK Qc),Qc,Qa,Qf,Qb]
abbrev lS:T Lf:=ou [Q0]
abbrev bV:T Lf:=ou [Qa]
def aC9:T Lf:=sp wL (sp tN fl (sp Qdk (ju 102 [wr (.add Qf (wr (.add (ln Qdm) (ln (ce 2 Qdl))))),Qo,Qa,Qb,Qm,bD]) fl)) (sp (.lt (.lit 6000) Qf) lS bV)
abbrev Qe2:SB:=.lt Qb Qa
abbrev Qe3:SE:=ln bM
abbrev XV:SE:=el bM Qb
abbrev Qe5:SE:=wr (.add Qb Q0)
abbrev Qe6:T Lf:=ju 101 [Qf,Qm,Qe5,bD,bM]
abbrev Qe7:SE:=ce 6 (el (ce 2 XV) Qo)
def aC8:T Lf:=sp Qe2 fl (sp (.lt Qb Qe3) (sp (.lt Qo (ln (ce 2 XV))) (sp (.lt (.lit 6000) Qf) Qe6 (sp tN fl (ju 103 [Qf,Qb,Qo,Qm,Qe7,ln Qe7,Qa,bD,bM]))) Qe6) fl)
abbrev Qe8:SB:=.lt dN Qa
abbrev Qe9:SE:=el bD dN
abbrev Qfa:SE:=.lit 60
abbrev Qfb:List SE:=[nm (ce 0 Qe9),ce 1 Qe9,nm (ce 2 Qe9),ce 3 Qe9,Qfa]
def aC7:T Lf:=sp (.lt dN bM) (sp Qe8 fl (sp (.lt dN IV) (sp (.eq (a0 150 Qfb) Q0) (ju 103 [wr (.add Qf (rr 150 Qfb 0)),Qb,Qo,Qm,bD,bM,wr (.add dN Q0),eY,gJ]) fl) fl)) (ju 102 [Qf,Qb,jR,Qm,eY,gJ])
abbrev Qfc:SB:=.lt bD Q0
def aC6:T Lf:=sp Qfc (ou [.lit 10000]) (ju 151 [bD,wr (.add Q0 (wr (.quo Qc (.lit 100)))),Qa,Qf,Qb,Qo,Qm])
abbrev Vy:SE:=ln dN
abbrev Qfe:SE:=el dN Qo
abbrev Qff:List SE:=[nm (ce 0 Qfe),ce 1 Qfe,nm (ce 2 Qfe),ce 3 Qfe,wr (.sub Qf Q0)]
def aC5:T Lf:=sp (.lt Qo Vy) (sp (.lt (.lit 10000) Qb) (ou [Qb]) (sp tN fl (sp (.eq (a0 150 Qff) Q0) (ju 151 [Qf,wr (.add Qb (rr 150 Qff 0)),jR,Qm,bD,bM,dN]) fl))) (ou [Qb])
abbrev Qfg:SB:=.eq tK Qc
abbrev Qfh:List SE:=[Qf,Qb,tK,Qa]
def atH:T Lf:=sp Qfg (ju 201 Qfh) bV
abbrev Qfi:SB:=.lt Qm tK
abbrev Qfj:SE:=el Qf Qm
abbrev Qfk:SE:=nm (ce 0 Qs)
abbrev Qfl:SB:=.eq (nm (ce 0 Qfj)) Qfk
abbrev Qfm:SB:=.eq (nm (ce 1 Qfj)) (nm (ce 1 Qs))
abbrev Qfn:SE:=nm (ce 2 Qfj)
abbrev Qfo:SE:=nm (ce 2 Qs)
abbrev Qfp:SB:=.eq (nm (ce 3 Qfj)) (nm (ce 3 Qs))
def t201:T Lf:=sp Qp (sp Qq fl (sp Qfi (sp Qr (sp Qfl (sp Qfm (sp (.and (.not (.and (.not (.eq Qfn Qa)) (.not (.eq Qfo Qa)))) (.not (.and (.not (.not (.eq Qfn Qa))) (.not (.not (.eq Qfo Qa)))))) bV (sp Qfp (sp (.eq (a0 250 [ce 4 Qfj,Qt]) Q0) (sp (.eq (rr 250 [ce 4 Qfj,Qt] 0) Qa) bV (sp (.eq (ln (ce 5 Qfj)) (ln Qx)) (ju 202 [Qf,Qb,Qo,Qm,ln (ce 5 Qfj),Qa,nm (ce 0 Qfj),nm (ce 1 Qfj),Qfn,nm (ce 3 Qfj),ce 4 Qfj,ce 5 Qfj,Qfk,nm (ce 1 Qs),Qfo,nm (ce 3 Qs),Qt,Qx]) bV)) fl) bV)) bV) bV) fl) fl)) lS
abbrev Qfq:SB:=.lt bM Qa
abbrev lX:SE:=.aP 11
abbrev Qfs:SE:=.aP 17
abbrev Qft:SE:=wr (.add bM Q0)
abbrev mP:SE:=.aP 12
abbrev mV:SE:=.aP 13
abbrev qG:SE:=.aP 14
abbrev Yg:SE:=.aP 15
abbrev Qfy:SE:=.aP 16
abbrev Qfz:List SE:=[Qf,Qb,Qo,Q1]
def ajM:T Lf:=sp (.lt bM bD) (sp Qfq fl (sp (.lt bM (ln lX)) (sp (.lt bM (ln Qfs)) (sp (.eq (nm (el lX bM)) (nm (el Qfs bM))) (ju 202 [Qf,Qb,Qo,Qm,bD,Qft,dN,eY,gJ,gG,jA,lX,mP,mV,qG,Yg,Qfy,Qfs]) bV) fl) fl)) (ju 201 Qfz)
def atG:T Lf:=sp Qfg (ju 251 [Qf,Qb,Qa]) bV
abbrev Tc:SB:=.lt Qo tK
abbrev Qf1:SB:=.lt Qo Qc
abbrev VD:SE:=el Qf Qo
abbrev Qf3:SE:=el Qb Qo
def ajJ:T Lf:=sp Tc (sp tN fl (sp Qf1 (sp (.eq (nm VD) (nm Qf3)) (ju 251 [Qf,Qb,jR]) bV) fl)) lS
abbrev OX:List SE:=[Qf,Qb]
abbrev Qf5:SB:=.eq (a0 450 OX) Q0
abbrev Qf6:SB:=.eq (rr 450 OX 0) Qa
def ajI:T Lf:=sp Qf5 (sp Qf6 (ju 301 [Qf,tK]) (ou [Qh])) fl
abbrev Qf7:SB:=.lt Qa Qb
abbrev Qf8:SB:=.lt Qa tK
abbrev Qf9:SE:=el Qf Qa
abbrev Qga:SE:=nm (ce 0 Qf9)
abbrev jP:SE:=.dat (.i 0)
abbrev Qgc:SE:=.dat (.i (-1))
abbrev Qgd:SE:=mk (nm (ce 2 Qf9))
abbrev Qge:SE:=cn Qh jP
abbrev Qgf:SE:=cn jP (cn jP (cn Qh Qge))
abbrev Qgg:T Lf:=ju 302 [.op .snoc jP (cn Qgc (cn Qgd Qgf)),Qf,Qb,Q0]
abbrev Qgh:SE:=.lit 9
def Yu:T Lf:=sp Qf7 (sp Qf8 (sp (.eq Qga wM) Qgg (sp (.eq Qga Qgh) Qgg (ju 302 [.op .snoc jP (cn Qgc (cn jP Qgf)),Qf,Qb,Q0]))) fl) (ou [Qh])
abbrev Qgi:SB:=.lt tK (.lit 1759218604440)
abbrev Qgj:T Lf:=sp Qgi (ju 302 [.op .snoc Qf (cn Qgc (cn (mk Qfo) Qgf)),Qb,Qo,Q1]) fl
def atF:T Lf:=sp Qp (sp Qq fl (sp Qr (sp (.eq Qfk wM) Qgj (sp (.eq Qfk Qgh) Qgj (sp Qgi (ju 302 [.op .snoc Qf (cn Qgc (cn jP Qgf)),Qb,Qo,Q1]) fl))) fl)) (ou Qj)
def ajG:T Lf:=sp Qf5 (sp Qf6 (sp (.eq Qcl tK) (ju 351 [Qo,Qcl,Qa,Qf,Qb]) bV) bV) fl
abbrev Qgk:SE:=nm (ce 2 VD)
abbrev Qgl:SE:=nm (ce 0 VD)
abbrev IU:SE:=ce 1 VD
abbrev Qgn:SE:=ce 3 VD
abbrev VA:SE:=ce 4 VD
abbrev Qgp:SE:=ce 5 VD
abbrev Qgq:List SE:=[nm (ce 0 Qcv),Qd3,nm (ce 2 Qcv),ce 3 Qcv,nm Qcw,Qgl,nm IU,Qa,nm Qgn,VA,Qgp,IV]
abbrev Qgr:T Lf:=ju 351 [Qf,Qb,jR,Qm,bD]
abbrev Qgs:List SE:=[nm (ce 0 Qcv),Qd3,nm (ce 2 Qcv),ce 3 Qcv,nm Qcw,Qgl,nm IU,Q0,nm Qgn,VA,Qgp,IV]
def Yt:T Lf:=sp wL (sp tN fl (sp Tc (sp Qcu (sp (.eq Qgk Qa) (sp (.eq (a0 500 Qgq) Q0) (sp (.eq (rr 500 Qgq 0) Qa) bV Qgr) fl) (sp (.eq (a0 500 Qgs) Q0) (sp (.eq (rr 500 Qgs 0) Qa) bV Qgr) fl)) fl) fl)) lS
abbrev Qgt:List SE:=[bM,Qo]
abbrev Qgu:SE:=rr 9000 Qgt 0
abbrev Qgv:List SE:=[Qf,Qb,Qo]
abbrev Qgw:SB:=.eq (a0 350 Qgv) Q0
abbrev Qgx:SB:=.eq (rr 350 Qgv 0) Qa
abbrev ET:SE:=rr 9000 Qgt 2
abbrev Qgz:T Lf:=ou [ET,Qa,Qa,Qa,Qa,Qa,Qa]
abbrev Qg0:T Lf:=sp Qgw (sp Qgx Qgz (sp Qq Qgz (sp Qr Qgz Qgz))) fl
abbrev Qg1:SB:=.lt bM (ln ET)
abbrev Qg2:T Lf:=ou [Qh,Qa,Qa,Qa,Qa,Qa,Qa]
abbrev Qg3:T Lf:=ou [Qk,Qa,Qa,Qa,Qa,Qa,Qa]
abbrev JO:SE:=mk bM
abbrev Qg5:SE:=rr 9000 Qgt 3
abbrev VB:SE:=mk Qg5
abbrev XU:SE:=rr 9000 Qgt 4
abbrev Yf:SE:=mk XU
abbrev Qg9:SE:=rr 9000 Qgt 5
abbrev Qha:SE:=.op .bit (mk Qg9) Qa
abbrev Qhb:SE:=rr 9000 Qgt 6
abbrev Qhc:SE:=mk Qhb
abbrev Vx:SE:=rr 9000 Qgt 7
abbrev Qhe:SE:=rr 9000 Qgt 8
abbrev Qhf:SE:=cn Qhe jP
abbrev Qhg:SE:=cn Qha (cn Qhc (cn Vx Qhf))
abbrev Qhh:SE:=cn JO (cn VB (cn Yf Qhg))
abbrev Qhi:SE:=.op .set ET Qhh
abbrev KZ:T Lf:=ou [Qhi,Qa,Qa,Qa,Qa,Qa,Qa]
abbrev Qhk:SB:=.eq (a0 600 [bD]) Q0
abbrev Qhl:SB:=.lt bM tK
abbrev Qhm:SB:=.eq (rr 600 [bD] 0) (nm (ce 0 (el Qf bM)))
abbrev Qhn:SB:=.eq bD Q0
abbrev Qho:SB:=.eq Qg5 Qm
abbrev JM:T Lf:=sp (.eq (a0 550 [Qo]) Q0) (ou [rr 550 [Qo] 0,Qm,.lit 27,bM,wr bD,Qa,nK]) fl
abbrev Qhq:SB:=.eq (a0 900 [Vx,Qm]) Q0
abbrev Qhr:SB:=.eq (rr 900 [Vx,Qm] 0) Qa
abbrev Qhs:SB:=.lt Qg5 Qa
abbrev Qht:SE:=.op .set ET (cn JO (cn Yi (cn Yf Qhg)))
abbrev Ye:T Lf:=sp (.eq (a0 550 [Qo]) Q0) (ou [rr 550 [Qo] 0,Qa,Qa,Qa,Qa,Qa,Qa]) fl
abbrev Qhv:T Lf:=sp Qhs (ou [Qht,Qm,bD,bM,Qa,Qa,nK]) Ye
abbrev Qhw:T Lf:=sp Qho JM (sp Qhq (sp Qhr Qhv JM) fl)
abbrev Qhx:SB:=.eq bD nK
abbrev Qhy:T Lf:=sp Qho (ou [.op .set ET (cn JO (cn Qgc (cn Yf Qhg))),Qm,bD,bM,Qa,Qa,nK]) JM
abbrev Qhz:SB:=.eq bD (.lit 8)
abbrev Qh0:SB:=.eq bD wM
abbrev Qh1:T Lf:=ou [Qht,Qm,bD,bM,Q0,Qa,nK]
abbrev Qh2:T Lf:=ou [Qhi,Qm,bD,bM,Qa,Qa,nK]
abbrev Qh3:T Lf:=sp Qhs Qh1 Qh2
abbrev Qh4:SB:=.eq bD Ec
abbrev Qh5:T Lf:=sp Qhs Qh1 (sp (.lt eY dN) Ye Qh2)
abbrev Qh6:SB:=.eq bD Qch
abbrev Ph:SE:=ln Vx
abbrev Qh8:SE:=.lit 17592186044415
abbrev Qh9:SE:=cn Yf (cn Qha (cn Qhc (cn (.op .snoc Vx Yi) Qhf)))
abbrev Qia:T Lf:=sp Qho JM (sp Qhq (sp Qhr (sp Qhs (sp (.lt Ph Qh8) (ou [.op .set ET (cn JO (cn VB Qh9)),Qm,bD,bM,Qa,Qa,nK]) fl) Ye) JM) fl)
abbrev Qib:SB:=.eq bD Yh
abbrev Qic:SB:=.eq (a0 850 [Vx,Qm]) Q0
abbrev Qid:SE:=rr 850 [Vx,Qm] 0
abbrev Qie:SE:=wr (.add Qid Q0)
abbrev Qif:SE:=.sub Ph Qie
abbrev Qig:SE:=.add Qid Qif
abbrev Qih:SE:=.op .cat (.op .cat (.op .take Vx Qid) (.op .drop (.op .take Vx (.add Qie Qif)) Qie)) (.op .drop Vx Qig)
abbrev Qii:SE:=.op .fill Qih (cn (mk Qig) jP)
abbrev Qij:T Lf:=sp (.lt (.sub Ph Qig) Qa) fl (sp (.eq (.add Qig (.sub Ph Qig)) (ln Qih)) (sp (.lt (ln Qii) Qig) fl (ou [.op .set ET (cn JO (cn VB (cn Yf (cn Qha (cn Qhc (cn (.op .take Qii Qig) Qhf)))))),Qm,bD,bM,Qa,Qa,nK])) fl)
abbrev Qik:T Lf:=sp Qic (sp (.lt Qid Qa) JM (sp (.lt Qie Qid) fl (sp (.lt Ph Qie) fl (sp (.lt Ph Ph) fl (sp (.eq Qid Qie) Qh2 (sp (.lt Ph Qid) fl (sp (.lt Qie Qa) fl (sp (.lt Qif Qa) fl (sp (.lt Ph (.add Qie Qif)) fl (sp (.lt Ph Qig) fl (sp (.lt Qig Qa) fl (sp (.lt Qig Ph) (sp (.lt (ln Qih) Ph) fl Qij) Qij)))))))))))) fl
abbrev Qil:SE:=.lit 7
abbrev Qim:SB:=.eq bD Qil
abbrev Qin:T Lf:=sp Qho JM (sp Qhq (sp Qhr (sp (.eq Ph Qa) Qhv Ye) JM) fl)
abbrev Qio:SB:=.eq bD Qgh
abbrev Qip:SE:=.op .set ET (cn JO (cn VB (cn (mk (wr (.sub XU Q0))) Qhg)))
abbrev Qiq:T Lf:=sp (.lt Qa XU) (ou [Qip,Qm,bD,bM,Qa,Qa,nK]) Ye
abbrev Qir:SB:=.eq bD (.lit 11)
abbrev Qis:T Lf:=sp (.lt Qa XU) (ou [Qip,Qm,bD,bM,Q0,Qa,nK]) Qh2
abbrev Qit:SE:=.lit 10
abbrev Qiu:SB:=.eq bD Qit
abbrev Qiv:SE:=nm (ce 2 (el Qf bM))
abbrev Qiw:SE:=.op .set ET (cn JO (cn VB (cn (mk (wr (.add XU Q0))) Qhg)))
abbrev Qix:T Lf:=sp (.lt XU Qiv) (ou [Qiw,Qm,bD,bM,Qa,Qa,nK]) JM
abbrev Qiy:SB:=.eq bD (.lit 17)
abbrev Qiz:SE:=.lit 1099511627776
abbrev Qi0:T Lf:=sp (.lt dN (wr (.sub Qa XU))) JM (sp (.lt (wr (.sub Qiz XU)) dN) JM (ou [.op .set ET (cn JO (cn VB (cn (mk (wr (.add XU dN))) Qhg))),Qm,bD,bM,wr (.add XU dN),Qa,nK]))
abbrev Qi1:SB:=.eq bD (.lit 18)
abbrev Qi2:T Lf:=sp (.lt Qa XU) (ou [Qip,Qm,bD,bM,wr (.sub XU Q0),Qa,nK]) JM
abbrev Qi3:SB:=.eq bD (.lit 19)
abbrev Qi4:T Lf:=sp (.eq XU Qa) Qh2 Ye
abbrev Qi5:SB:=.eq bD (.lit 22)
abbrev Qi6:T Lf:=ou [Qhi,Qm,bD,bM,XU,Qa,nK]
abbrev Qi7:SB:=.eq bD (.lit 23)
abbrev Qi8:T Lf:=ou [.op .set ET (cn JO (cn VB (cn (mk dN) Qhg))),Qm,bD,bM,dN,Qa,nK]
abbrev Yd:SE:=.lit 20
abbrev Qja:SB:=.eq bD Yd
abbrev Qjb:T Lf:=sp (.lt (ln Qhe) Qiv) (sp (.lt (ln Qhe) Qh8) (ou [.op .set ET (cn JO (cn VB (cn Yf (cn Qha (cn Qhc (cn Vx (cn (.op .snoc Qhe (mk dN)) jP))))))),Qm,bD,bM,dN,Qa,nK]) fl) Ye
abbrev Qjc:SB:=.eq bD (.lit 21)
abbrev Qjd:SE:=.add Q0 (.sub (ln Qhe) Q0)
abbrev Qje:T Lf:=sp (.eq (ln Qhe) Qa) Ye (sp (.lt (.sub (ln Qhe) Q0) Qa) fl (sp (.lt (ln Qhe) Qjd) fl (ou [.op .set ET (cn JO (cn VB (cn Yf (cn Qha (cn Qhc (cn Vx (cn (.op .drop (.op .take Qhe Qjd) Q0) jP))))))),Qm,bD,bM,nm (el Qhe Qa),Qa,nK])))
abbrev Qjf:SB:=.eq bD (.lit 12)
abbrev Qjg:SB:=.lt Qiv Qa
abbrev Qjh:SB:=.lt Qiv (ln ET)
abbrev Qji:SB:=.eq Qiv bM
abbrev Qjj:SE:=.lit (-1)
abbrev Qjk:List SE:=[Vx,Qm,bM,Qiv,ET,bD,dN,eY,Qjj,XU,Qg9,Qhb,Qhe]
abbrev Qjl:T Lf:=sp (.lt Ph Qh8) (ou [.op .set ET (cn JO (cn Qgc Qh9)),Qm,bD,bM,Qa,Qa,wM]) fl
abbrev Qjm:SE:=rr 12000 Qjk 14
abbrev Qjn:SE:=rr 12000 Qjk 15
abbrev Qjo:SE:=.add Qjm Q0
abbrev Qjp:SE:=.op .snoc jP Yi
abbrev Qjq:SE:=.op .cat (.op .cat (.op .take Qjn Qjm) Qjp) (.op .drop Qjn Qjo)
abbrev Qjr:SE:=nm (ce 0 (el ET Qiv))
abbrev Qjs:SB:=.eq Qjr Qm
abbrev Qjt:SE:=.op .set ET (cn (mk Qiv) (.op .set (el ET Qiv) (cn jP Qgc)))
abbrev Qju:List SE:=[Vx,Qm,bM,Qiv,Qjt,bD,dN,eY,Qg5,XU,Qg9,Qhb,Qhe]
abbrev Qjv:T Lf:=sp (.lt Ph Qh8) (ou [.op .set Qjt (cn JO (cn VB Qh9)),Qm,bD,bM,Qa,Qa,wM]) fl
abbrev Qjw:SE:=rr 12000 Qju 14
abbrev Qjx:SE:=rr 12000 Qju 15
abbrev Qjy:SE:=.add Qjw Q0
abbrev Qjz:SE:=.op .cat (.op .cat (.op .take Qjx Qjw) Qjp) (.op .drop Qjx Qjy)
abbrev Qj0:SE:=.op .set ET (cn JO (cn VB (cn Yf (cn Qha (cn Qhc (cn Qh Qhf))))))
abbrev Qj1:SE:=.lit 24
abbrev Qj2:SE:=.lit 4611686018427387904
abbrev Qj3:SE:=.lit 25
abbrev Qj4:SE:=.lit 16
abbrev Qj5:T Lf:=sp (.eq bD Qj1) (sp Qjg fl (sp Qjh (sp Qhq (sp Qhr (sp Qji Qhv (sp (.lt Qjr Qa) (ou [.op .set (.op .set ET (cn (mk Qiv) (.op .set (el ET Qiv) (cn jP Yi)))) Qhh,Qm,bD,bM,Qa,Qa,nK]) Ye)) Ye) fl) fl)) (sp (.eq bD (.lit 15)) (sp (.lt Qhb Qj2) (sp (.eq (wr (.add XU Q0)) Qiv) (ou [.op .set ET (cn JO (cn VB (cn jP (cn Qha (cn (mk (wr (.add Qhb Q0))) (cn Vx Qhf)))))),Qm,bD,bM,Qhb,Qa,wM]) (ou [Qiw,Qm,bD,bM,Qhb,Qa,wM])) JM) (sp (.eq bD Qj3) (sp (.lt dN Qhb) (ou [Qhi,Qm,bD,bM,dN,Qa,nK]) Ye) (sp (.eq bD Qj4) (sp (.eq Qg9 Qa) (sp Qho JM (sp Qhs Qh1 Ye)) Qh2) (sp (.eq bD (.lit 26)) (sp Qho (ou [.op .set ET (cn JO (cn Qgc (cn Yf (cn Qh (cn Qhc (cn Vx Qhf)))))),Qm,bD,bM,Qa,Qa,nK]) JM) fl))))
abbrev Qj6:T Lf:=sp (.eq bD (.lit 13)) (sp (.eq Ph Qa) Qh2 (sp (.lt (.sub Ph Q0) Qa) fl (sp (.lt Ph (.add Q0 (.sub Ph Q0))) fl (ou [.op .set ET (cn JO (cn VB (cn Yf (cn Qha (cn Qhc (cn (.op .drop (.op .take Vx (.add Q0 (.sub Ph Q0))) Q0) Qhf)))))),Qm,bD,bM,wr (.add (nm (el Vx Qa)) Q0),Qa,nK])))) (sp (.eq bD (.lit 14)) (ou [Qj0,Qm,bD,bM,Ph,Qa,nK]) Qj5)
abbrev Qj7:T Lf:=sp (.lt Qa Qiv) (ou [.op .set ET (cn JO (cn VB (cn Yf (cn Qha (cn Qhc (cn Vx (cn (.op .snoc jP (mk dN)) jP))))))),Qm,bD,bM,dN,Qa,nK]) Ye
abbrev Qj8:SE:=rr 12100 Qjk 14
abbrev Qj9:SE:=rr 12100 Qjk 15
abbrev Qka:SE:=.add Qj8 Q0
abbrev Qkb:SE:=.op .cat (.op .cat (.op .take Qj9 Qj8) Qjp) (.op .drop Qj9 Qka)
abbrev Qkc:SE:=rr 12100 Qju 14
abbrev Qkd:SE:=rr 12100 Qju 15
abbrev Qke:SE:=.add Qkc Q0
abbrev Qkf:SE:=.op .cat (.op .cat (.op .take Qkd Qkc) Qjp) (.op .drop Qkd Qke)
abbrev Qkg:SE:=cn Yf (cn Qha (cn Qhc (cn Qjp Qhf)))
abbrev Qkh:T Lf:=sp Qho JM (sp Qhq (sp Qhr (sp Qhs (ou [.op .set ET (cn JO (cn VB Qkg)),Qm,bD,bM,Qa,Qa,nK]) Ye) JM) fl)
abbrev Qki:T Lf:=sp Qic (sp (.lt Qid Qa) JM fl) fl
abbrev Qkj:T Lf:=ou [.op .set ET (cn JO (cn Qgc Qkg)),Qm,bD,bM,Qa,Qa,wM]
abbrev Qkk:T Lf:=ou [.op .set Qjt (cn JO (cn VB Qkg)),Qm,bD,bM,Qa,Qa,wM]
abbrev Qkl:T Lf:=sp (.eq bD (.lit 13)) Qh2 (sp (.eq bD (.lit 14)) (ou [Qj0,Qm,bD,bM,Qa,Qa,nK]) Qj5)
def kR:T Lf:=sp (.eq (a0 9000 Qgt) Q0) (sp (.eq Qgu Qa) (sp Qfq Qg0 (sp Qg1 fl Qg0)) (sp (.eq Qgu Q0) (sp Qgw (sp Qgx Qg2 (sp Qq Qg2 (sp Qr (sp Qfq Qg2 Qg2) Qg2))) fl) (sp (.eq Qgu nK) (sp Qgw (sp Qgx Qg3 (sp Qq Qg3 (sp Qr (sp Qfq Qg3 Qg3) Qg3))) fl) (sp (.eq Qgu wM) (sp Qgw (sp Qgx KZ (sp Qq KZ (sp Qr (sp Qfq KZ (sp Qg1 (sp Qhk (sp Qhl (sp Qhm (sp Qhn Qhw (sp Qhx Qhy (sp Qhz Qhy (sp Qh0 Qh3 (sp Qh4 Qh5 (sp Qh6 Qia (sp Qib Qik (sp Qim Qin (sp Qio Qiq (sp Qir Qis (sp Qiu Qix (sp Qiy Qi0 (sp Qi1 Qi2 (sp Qi3 Qi4 (sp Qi5 Qi6 (sp Qi7 Qi8 (sp Qja Qjb (sp Qjc Qje (sp Qjf (sp Qjg fl (sp Qjh (sp Qji (sp Qho (sp (.eq (a0 12000 Qjk) Q0) (sp (.eq (rr 12000 Qjk 0) Qa) Qjl (sp (.eq (rr 12000 Qjk 0) Q0) (sp (.lt Qjm Qa) fl (sp (.lt (ln Qjn) Qjo) fl (sp (.lt Qjo Qa) fl (sp (.lt (ln Qjq) Qjo) fl (ou [.op .set ET (cn JO (cn Qgc (cn Yf (cn Qha (cn Qhc (cn (.op .take Qjq Qjo) Qhf)))))),Qm,bD,bM,Qa,Qa,wM]))))) fl)) fl) JM) (sp Qjs (sp (.eq (a0 12000 Qju) Q0) (sp (.eq (rr 12000 Qju 0) Qa) Qjv (sp (.eq (rr 12000 Qju 0) Q0) (sp (.lt Qjw Qa) fl (sp (.lt (ln Qjx) Qjy) fl (sp (.lt Qjy Qa) fl (sp (.lt (ln Qjz) Qjy) fl (ou [.op .set Qjt (cn JO (cn VB (cn Yf (cn Qha (cn Qhc (cn (.op .take Qjz Qjy) Qhf)))))),Qm,bD,bM,Qa,Qa,wM]))))) fl)) fl) JM)) fl)) Qj6))))))))))))))))))) KZ) fl) fl) KZ)) KZ))) fl) (sp (.eq Qgu Ec) (sp Qgw (sp Qgx KZ (sp Qq KZ (sp Qr (sp Qfq KZ (sp Qg1 (sp Qhk (sp Qhl (sp Qhm (sp Qhn Qhw (sp Qhx Qhy (sp Qhz Qhy (sp Qh0 Qh3 (sp Qh4 Qh5 (sp Qh6 Qia (sp Qib Qik (sp Qim Qin (sp Qio Qiq (sp Qir Qis (sp Qiu Qix (sp Qiy Qi0 (sp Qi1 Qi2 (sp Qi3 Qi4 (sp Qi5 Qi6 (sp Qi7 Qi8 (sp Qja Qj7 (sp Qjc Ye (sp Qjf (sp Qjg fl (sp Qjh (sp Qji (sp Qho (sp (.eq (a0 12100 Qjk) Q0) (sp (.eq (rr 12100 Qjk 0) Qa) Qjl (sp (.eq (rr 12100 Qjk 0) Q0) (sp (.lt Qj8 Qa) fl (sp (.lt (ln Qj9) Qka) fl (sp (.lt Qka Qa) fl (sp (.lt (ln Qkb) Qka) fl (ou [.op .set ET (cn JO (cn Qgc (cn Yf (cn Qha (cn Qhc (cn (.op .take Qkb Qka) Qhf)))))),Qm,bD,bM,Qa,Qa,wM]))))) fl)) fl) JM) (sp Qjs (sp (.eq (a0 12100 Qju) Q0) (sp (.eq (rr 12100 Qju 0) Qa) Qjv (sp (.eq (rr 12100 Qju 0) Q0) (sp (.lt Qkc Qa) fl (sp (.lt (ln Qkd) Qke) fl (sp (.lt Qke Qa) fl (sp (.lt (ln Qkf) Qke) fl (ou [.op .set Qjt (cn JO (cn VB (cn Yf (cn Qha (cn Qhc (cn (.op .take Qkf Qke) Qhf)))))),Qm,bD,bM,Qa,Qa,wM]))))) fl)) fl) JM)) fl)) Qj6))))))))))))))))))) KZ) fl) fl) KZ)) KZ))) fl) (sp (.eq Qgu Qch) (sp Qgw (sp Qgx KZ (sp Qq KZ (sp Qr (sp Qfq KZ (sp Qg1 (sp Qhk (sp Qhl (sp Qhm (sp Qhn Qhw (sp Qhx Qhy (sp Qhz Qhy (sp Qh0 Qh3 (sp Qh4 Qh5 (sp Qh6 Qkh (sp Qib Qki (sp Qim Qhw (sp Qio Qiq (sp Qir Qis (sp Qiu Qix (sp Qiy Qi0 (sp Qi1 Qi2 (sp Qi3 Qi4 (sp Qi5 Qi6 (sp Qi7 Qi8 (sp Qja Qjb (sp Qjc Qje (sp Qjf (sp Qjg fl (sp Qjh (sp Qji (sp Qho (sp (.eq (a0 12200 Qjk) Q0) (sp (.eq (rr 12200 Qjk 0) Qa) Qkj fl) fl) JM) (sp Qjs (sp (.eq (a0 12200 Qju) Q0) (sp (.eq (rr 12200 Qju 0) Qa) Qkk fl) fl) JM)) fl)) Qkl))))))))))))))))))) KZ) fl) fl) KZ)) KZ))) fl) (sp (.eq Qgu Yh) (sp Qgw (sp Qgx KZ (sp Qq KZ (sp Qr (sp Qfq KZ (sp Qg1 (sp Qhk (sp Qhl (sp Qhm (sp Qhn Qhw (sp Qhx Qhy (sp Qhz Qhy (sp Qh0 Qh3 (sp Qh4 Qh5 (sp Qh6 Qkh (sp Qib Qki (sp Qim Qhw (sp Qio Qiq (sp Qir Qis (sp Qiu Qix (sp Qiy Qi0 (sp Qi1 Qi2 (sp Qi3 Qi4 (sp Qi5 Qi6 (sp Qi7 Qi8 (sp Qja Qj7 (sp Qjc Ye (sp Qjf (sp Qjg fl (sp Qjh (sp Qji (sp Qho (sp (.eq (a0 12300 Qjk) Q0) (sp (.eq (rr 12300 Qjk 0) Qa) Qkj fl) fl) JM) (sp Qjs (sp (.eq (a0 12300 Qju) Q0) (sp (.eq (rr 12300 Qju 0) Qa) Qkk fl) fl) JM)) fl)) Qkl))))))))))))))))))) KZ) fl) fl) KZ)) KZ))) fl) fl))))))) fl
abbrev Qkm:T Lf:=ju 451 [Qf,tK,Qa,Qb]
def aAV:T Lf:=sp (.lt (.lit 64) tK) Qkm (sp (.lt Qj4 Qc) Qkm (ju 452 [Qf,tK,Qa,Qb]))
abbrev Qkn:T Lf:=ju 451 [Qf,Qb,jR,Qm]
def atE:T Lf:=sp wL (sp tN fl (sp Tc Qkn fl)) (ju 453 [Qm,IW,Qa,Qf])
abbrev Qko:List SE:=[Qf,Qm,Qgl,IU,Qgk,Qgn,nm VA]
def atD:T Lf:=sp wL (sp tN fl (sp Tc (sp (.eq (a0 700 Qko) Q0) (sp (.eq (rr 700 Qko 0) Qa) Qkn (ju 452 [Qf,Qb,jR,Qm])) fl) fl)) (ju 454 [Qm,IW,Qa,Qf])
abbrev Qkp:List SE:=[Qa,Qf,Qb,Qo,Qm,ce 0 VD,IU,ce 2 VD]
def atC:T Lf:=sp wL (sp tN fl (sp Tc (ju 455 Qkp) fl)) (ou [.lit 120])
def atB:T Lf:=sp wL (sp tN fl (sp Tc (sp (.lt (.lit 120) (ln IU)) (ju 455 Qkp) (sp (.lt (.lit 4000) (ln (ce 2 VD))) (ju 455 Qkp) (ju 456 Qkp))) fl)) bV
abbrev Qkq:SE:=ln eY
abbrev Qkr:T Lf:=ju 453 [Qb,Qo,Q1,bD]
def atA:T Lf:=sp (.lt Qf Qkq) Qkr Qkr
abbrev Qks:SE:=el eY Qf
abbrev Qkt:List SE:=[bD,Qb,bM,dN,eY,nm (ce 0 Qks),nm (ce 1 Qks),nm (ce 2 Qks),nm (ce 3 Qks),nm (ce 4 Qks),nm (ce 5 Qks),ce 6 Qks]
abbrev Qku:SE:=wr (.add Qf Q0)
abbrev Qkv:List SE:=[ce 6 Qks,bM,dN,eY]
abbrev Qkw:List SE:=[Qku,Qb,Qo,Qm,bD,rr 5000 Qkv 0,rr 5000 Qkv 1,rr 5000 Qkv 2]
def asZ:T Lf:=sp (.lt Qf Qkq) (sp (.lt Qf Qa) fl (sp (.eq (a0 750 Qkt) Q0) (sp (.eq (rr 750 Qkt 0) Qa) (ju 455 [Qku,Qb,Qo,Qm,bD,bM,dN,eY]) (sp (.eq (a0 5000 Qkv) Q0) (sp (.eq (rr 5000 Qkv 3) Qa) (ju 456 Qkw) (ju 455 Qkw)) fl)) fl)) (ju 454 [Qb,Qo,Q1,bD])
abbrev S9:List SE:=[Qf,Qb,Qo,Qm,bD]
abbrev Qky:SB:=.lt gJ Qa
abbrev Qkz:SB:=.lt Qa (ln gG)
abbrev Qk0:SB:=.eq Qf Ec
abbrev Qk1:SB:=.lt Qa (ln jA)
abbrev Qk2:SB:=.eq eY Qa
abbrev Qk3:T Lf:=ju 501 [lX,gG,ln gG,Qa,Qf,Qb,Qo,Qm,bD,bM,dN,eY,gJ,jA,jP]
abbrev Qk4:T Lf:=sp (.lt Qa gJ) bV Qk3
abbrev Qk5:T Lf:=sp Qk1 bV (sp Qk2 Qk4 bV)
abbrev Qk6:SB:=.eq Qf nK
abbrev Qk7:SB:=.eq Qf (.lit 8)
abbrev Qk8:SB:=.eq Qf Qch
abbrev Qk9:SB:=.eq Qf Q0
abbrev Qla:T Lf:=sp (.lt bM Qjj) bV (sp (.lt bM lX) (sp Qky bV (sp (.lt Qj2 gJ) bV (sp Qfq (sp Qkz (sp Qk0 Qk5 (sp Qk6 Qk5 bV)) (sp Qk1 (sp Qk7 (sp Qk2 Qk4 bV) bV) (sp Qk2 (sp (.lt Qa gJ) (sp Qk8 Qk3 bV) Qk3) (sp (.eq Qf Yh) Qk4 bV)))) (sp Qk9 (sp Qkz bV Qk5) (sp Qk6 (sp Qkz Qk5 Qk5) (sp (.eq Qf Yh) (sp Qkz bV (sp Qk1 bV (sp Qk2 Qk4 Qk4))) bV)))))) bV)
def ajF:T Lf:=sp (.eq (a0 650 S9) Q0) (sp (.eq (rr 650 S9 1) Qa) Qla (sp Qe8 bV (sp (.lt (rr 650 S9 0) dN) bV Qla))) fl
abbrev Qlb:SE:=nm Qs
abbrev Qlc:SE:=.op .norm (mk Qlb) Qa
abbrev Qld:T Lf:=ju 501 [Qf,Qb,Qo,Q1,bD,bM,dN,eY,gJ,gG,jA,lX,mP,mV,.op .DK qG (cn Qlc Qh)]
abbrev Qle:SE:=ln mV
abbrev Qlf:SB:=.lt gG Qa
abbrev Qlg:SB:=.eq Qc Qa
abbrev Qlh:T Lf:=sp Qlf lS (sp Qlg (sp (.eq lX Qa) lS bV) bV)
def Yr:T Lf:=sp Qp (sp Qq fl (sp Qr (sp (.lt Qlb Qa) bV (sp (.lt Qlb Qf) (sp (.eq (.op .JR qG Qlc) Qa) Qld (sp (.eq (nm (.op .JU qG Qlc)) Q0) bV Qld)) bV)) fl)) (sp Qe8 (sp (.lt Qa Qle) bV Qlh) (sp (.lt dN Qle) bV Qlh))
abbrev Qli:SB:=.lt tK (.lit 1759218604441)
abbrev Qlj:SB:=.eq (.op .norm Qf Qa) Qh
abbrev Qlk:SB:=.eq (.op .norm Qf Qa) Qk
def aiT:T Lf:=sp Qf8 (sp Qli (ju 551 [Qf,tK,Qa]) fl) (sp Qlj (ju 552 []) (sp Qlk (ju 553 []) fl))
abbrev Qll:SB:=.lt Qa (ln Qgp)
abbrev Qlm:SB:=.lt (ln Qgp) Qv
abbrev Qln:SE:=.op .set Qf (cn ER (.op .set VD (cn Qbd VA)))
abbrev Qlo:SB:=.eq Qgp Qh
abbrev Qlp:SB:=.eq Qgp Qk
abbrev Qlq:SE:=.op .set Qf (cn ER (.op .set VD Qbl))
abbrev Qlr:SE:=.op .set Qf (cn ER (.op .set VD Qbq))
def asY:T Lf:=sp wL (sp tN fl (sp Tc (sp (.lt Qa (ln VA)) (sp (.lt (ln VA) Qv) (sp Qll (sp Qlm (ju 551 [.op .set Qln (cn ER (.op .set (el Qln Qo) (cn Qbf Qgp))),Qb,jR]) fl) (sp Qlo (ju 551 [.op .set Qln (cn ER (.op .set (el Qln Qo) Qbh)),Qb,jR]) (sp Qlp (ju 551 [.op .set Qln (cn ER (.op .set (el Qln Qo) Qbj)),Qb,jR]) fl))) fl) (sp (.eq VA Qh) (sp Qll (sp Qlm (ju 551 [.op .set Qlq (cn ER (.op .set (el Qlq Qo) (cn Qbf Qgp))),Qb,jR]) fl) (sp Qlo (ju 551 [.op .set Qlq (cn ER (.op .set (el Qlq Qo) Qbh)),Qb,jR]) (sp Qlp (ju 551 [.op .set Qlq (cn ER (.op .set (el Qlq Qo) Qbj)),Qb,jR]) fl))) (sp (.eq VA Qk) (sp Qll (sp Qlm (ju 551 [.op .set Qlr (cn ER (.op .set (el Qlr Qo) (cn Qbf Qgp))),Qb,jR]) fl) (sp Qlo (ju 551 [.op .set Qlr (cn ER (.op .set (el Qlr Qo) Qbh)),Qb,jR]) (sp Qlp (ju 551 [.op .set Qlr (cn ER (.op .set (el Qlr Qo) Qbj)),Qb,jR]) fl))) fl))) fl)) (ou Qj)
def aC4:T Lf:=ou [Qh]
def aC3:T Lf:=ou [Qk]
abbrev Qls:SB:=.eq Qf wM
abbrev Qlt:T Lf:=ou [nK]
abbrev Qlu:T Lf:=ou [Ec]
def aAU:T Lf:=sp (.lt (wr Qf) (.lit 27)) (sp (.lt Qf Qa) fl (sp (.lt Qf (.lit 27)) (sp (.eq Qf Qa) bV (sp Qk9 lS (sp Qk6 lS (sp Qls lS (sp Qk0 lS (sp Qk8 Qlt (sp (.eq Qf Yh) Qlt (sp (.eq Qf Qil) Qlt (sp Qk7 Qlt (sp (.eq Qf Qgh) (ou [wM]) (sp (.eq Qf Qit) (ou [wM]) (sp (.eq Qf (.lit 11)) (ou [wM]) (sp (.eq Qf (.lit 12)) Qlu (sp (.eq Qf (.lit 13)) Qlu (sp (.eq Qf (.lit 14)) Qlu (sp (.eq Qf (.lit 15)) (ou [Qch]) (sp (.eq Qf Qj4) (ou [Yh]) (sp (.eq Qf (.lit 17)) (ou [Qil]) (sp (.eq Qf (.lit 18)) (ou [Qil]) (sp (.eq Qf (.lit 19)) (ou [Qil]) (sp (.eq Qf Yd) (ou [.lit 8]) (sp (.eq Qf (.lit 21)) (ou [.lit 8]) (sp (.eq Qf (.lit 22)) (ou [Qgh]) (sp (.eq Qf (.lit 23)) (ou [Qgh]) (sp (.eq Qf Qj1) Qlu (sp (.eq Qf Qj3) (ou [Qch]) (ou [Yh]))))))))))))))))))))))))))) fl)) bV
def asX:T Lf:=sp Qls (ou [Qo,Q0]) (sp Qk8 (ou [wr (.sub Qo Q0),Q0]) (sp (.eq Qf Qil) (ou [Qiz,Q0]) (sp (.eq Qf Qgh) (ou [Qa,Qa]) (ou [Qa,Q0]))))
abbrev Qlv:T Lf:=sp (.eq bD Qa) lS bV
abbrev Qlw:T Lf:=sp Qfc bV (sp (.lt (.lit 1048576) bD) bV lS)
abbrev Qlx:SB:=.lt bD Qa
def aAT:T Lf:=sp (.eq Qo Q0) Qlv (sp (.eq Qo nK) Qlv (sp (.eq Qo Yh) Qlv (sp (.eq Qo Qil) Qlv (sp (.eq Qo wM) Qlw (sp (.eq Qo (.lit 8)) Qlw (sp (.eq Qo Qch) (sp Qfc bV (sp (.lt Qj4 bD) bV lS)) (sp (.eq Qo Ec) (sp Qlx bV (sp (.lt bD tK) (sp (.eq (nm (ce 0 (el Qf bD))) Q0) lS bV) bV)) (sp (.eq Qo Qgh) lS bV))))))))
abbrev Qly:SB:=.lt eY Qa
abbrev Qlz:SB:=.eq bM Q0
abbrev Ql0:SB:=.eq bM nK
abbrev Ql1:SB:=.eq bM wM
abbrev Ql2:SB:=.eq bM Ec
abbrev Ql3:SB:=.eq bM Qch
abbrev Ql4:T Lf:=sp (.eq bM Yh) bV (sp (.eq bM Qil) bV bV)
abbrev Ql5:T Lf:=sp Ql1 bV (sp Ql2 bV (sp Ql3 bV Ql4))
abbrev Ql6:SB:=.lt eY tK
abbrev Ql7:SE:=nm (ce 0 (el Qf eY))
abbrev Ql8:List SE:=[Ql7,bM,dN,eY,gJ,gG,jA,lX,Qa]
abbrev Ql9:T Lf:=sp (.eq dN Qj4) bV lS
abbrev Qma:T Lf:=sp (.eq (a0 950 Ql8) Q0) (sp (.eq (rr 950 Ql8 0) Qa) bV Ql9) fl
abbrev Qmb:T Lf:=sp Ql6 (sp (.eq Ql7 Yh) lS bV) bV
abbrev Qmc:T Lf:=sp (.eq (ln lX) Q0) lS bV
abbrev Qmd:T Lf:=sp (.lt IV gG) bV Qmc
abbrev Qme:T Lf:=sp (.lt IV gG) bV lS
abbrev Qmf:T Lf:=sp Ql1 bV (sp Ql2 Qmd (sp Ql3 Qme Ql4))
abbrev Qmg:T Lf:=sp (.eq dN Qj4) Qme lS
abbrev Qmh:T Lf:=sp (.eq (a0 950 Ql8) Q0) (sp (.eq (rr 950 Ql8 0) Qa) bV Qmg) fl
abbrev Qmi:SB:=.lt gJ IW
abbrev Qmj:T Lf:=sp Ql1 (sp Qmi Qmc bV) (sp Ql2 bV (sp Ql3 bV (sp (.eq bM Yh) (sp Qmi lS bV) (sp (.eq bM Qil) (sp Qmi bV bV) bV))))
abbrev Qmk:List SE:=[Ql7,bM,dN,eY,gJ,gG,jA,lX,Q0]
abbrev Qml:T Lf:=sp Ql1 (sp Qmi Qmc bV) (sp Ql2 Qmd (sp Ql3 Qme (sp (.eq bM Yh) (sp Qmi lS bV) (sp (.eq bM Qil) (sp Qmi Qme bV) bV))))
def aAS:T Lf:=sp Qky (sp Qlf (sp Qly (sp Qlz bV (sp Ql0 bV Ql5)) (sp Qlz (sp Ql6 Qma bV) (sp Ql0 Qmb Ql5))) (sp Qly (sp Qlz bV (sp Ql0 bV Qmf)) (sp Qlz (sp Ql6 Qmh bV) (sp Ql0 Qmb Qmf)))) (sp Qlf (sp Qly (sp Qlz bV (sp Ql0 bV Qmj)) (sp Qlz (sp Ql6 (sp Qmi (sp (.eq (a0 950 Qmk) Q0) (sp (.eq (rr 950 Qmk 0) Qa) bV Ql9) fl) Qma) bV) (sp Ql0 Qmb Qmj))) (sp Qly (sp Qlz bV (sp Ql0 bV Qml)) (sp Qlz (sp Ql6 (sp Qmi (sp (.eq (a0 950 Qmk) Q0) (sp (.eq (rr 950 Qmk 0) Qa) bV Qmg) fl) Qmh) bV) (sp Ql0 Qmb Qml))))
abbrev Qmm:List SE:=[Qf,Qb,Qo,Qm,Q0,.lit 1000,bD]
def aAR:T Lf:=sp (.eq (a0 5050 Qmm) Q0) (sp (.eq (rr 5050 Qmm 2) Qa) bV lS) fl
def aAQ:T Lf:=ju 851 Qfh
abbrev Qmn:SE:=nm Qfj
def aiO:T Lf:=sp Qp (sp Qq fl (sp Qfi (sp (.eq Qb Qmn) (ou [Qm]) (ju 851 Qfz)) fl)) (ou [Qjj])
def aAP:T Lf:=sp (.eq (a0 850 OX) Q0) (sp (.lt (rr 850 OX 0) Qa) bV lS) fl
abbrev Qmo:SB:=.eq gJ Qa
abbrev Qmp:List SE:=[Qf,Qkq,Qb,Qo,Qm,bD,bM,dN,eY]
def aAO:T Lf:=sp Qmo (ju 951 Qmp) (ju 952 Qmp)
abbrev Qmq:SE:=cn Qh (cn jP (cn jP Qge))
abbrev Qmr:List SE:=[Qf,Qb,Q0,Qo,Qm,bD,bM,dN,eY,gJ,.op .snoc jP Qmq]
abbrev Qms:List SE:=[Qf,Q0,Qa,Qa,Qm,Qa,Qa]
abbrev Qmt:SB:=.eq (a0 1200 [Qm]) Q0
abbrev Qmu:SB:=.eq Qf (rr 1200 [Qm] 0)
abbrev Qmv:List SE:=[Qf,jP]
abbrev Qmw:SB:=.eq (a0 5150 Qmv) Q0
abbrev Qmx:SB:=.eq (rr 5150 Qmv 2) Qa
abbrev Qmy:T Lf:=sp (.eq Qm Qj4) lS lS
abbrev Qmz:T Lf:=sp Qmt (sp Qmu (sp Qmw (sp Qmx bV (sp (.lt Yd (ln (rr 5150 Qmv 1))) bV Qmy)) fl) bV) fl
abbrev Qm0:T Lf:=sp (.eq (a0 12400 Qms) Q0) (sp (.eq (rr 12400 Qms 0) Qa) bV (sp (.eq (rr 12400 Qms 0) Q0) Qmz fl)) fl
abbrev Qm1:List SE:=[Qa,Qa,Qf,Qa,Qa,Qa,Qm,Qa,Qa]
abbrev Qm2:SB:=.eq (a0 5200 Qmv) Q0
abbrev Qm3:SB:=.eq (rr 5200 Qmv 3) Qa
abbrev Qm4:List SE:=[Qf,Qa,Qa,Qa,Qm,Qa,Qa]
abbrev Qm5:T Lf:=sp Qls Qm0 (sp Qk7 Qm0 (sp Qk8 Qm0 (sp Qk0 (sp (.eq (a0 12450 Qm1) Q0) (sp (.eq (rr 12450 Qm1 0) Qa) bV (sp (.eq (rr 12450 Qm1 0) Q0) (sp Qmt (sp Qmu (sp Qm2 (sp Qm3 bV (sp (.lt Yd (ln (rr 5200 Qmv 2))) bV Qmy)) fl) bV) fl) fl)) fl) (sp (.eq (a0 12400 Qm4) Q0) (sp (.eq (rr 12400 Qm4 0) Qa) bV (sp (.eq (rr 12400 Qm4 0) Q0) Qmz fl)) fl))))
abbrev Qm6:SB:=.eq (rr 12500 Qms 0) Qa
abbrev Qm7:SB:=.eq (rr 12500 Qms 0) Q0
abbrev Qm8:SE:=.dat (.p (.i 97) (.i 0))
abbrev Qm9:SE:=cn Qm8 Qh
abbrev Qna:SB:=.lt Yd (ln (.op .DK (rr 5150 Qmv 1) Qm9))
abbrev Qnb:T Lf:=sp Qmt (sp Qmu (sp Qmw (sp Qmx bV (sp Qna bV (sp (.eq Qm Qj4) bV bV))) fl) bV) fl
abbrev Qnc:T Lf:=sp (.eq (a0 12500 Qms) Q0) (sp Qm6 bV (sp Qm7 Qnb fl)) fl
abbrev Qnd:SB:=.eq (rr 12550 Qm1 0) Qa
abbrev Qne:SB:=.eq (rr 12550 Qm1 0) Q0
abbrev Qnf:SB:=.lt Yd (ln (.op .DK (rr 5200 Qmv 2) Qm9))
abbrev Qng:SB:=.eq (rr 12500 Qm4 0) Qa
abbrev Qnh:SB:=.eq (rr 12500 Qm4 0) Q0
def asW:T Lf:=sp Qf7 (ju 953 Qmr) (sp (.eq bM Qjj) Qm5 (sp Qls Qnc (sp Qk7 Qnc (sp Qk8 Qnc (sp Qk0 (sp (.eq (a0 12550 Qm1) Q0) (sp Qnd bV (sp Qne (sp Qmt (sp Qmu (sp Qm2 (sp Qm3 bV (sp Qnf bV (sp (.eq Qm Qj4) bV bV))) fl) bV) fl) fl)) fl) (sp (.eq (a0 12500 Qm4) Q0) (sp Qng bV (sp Qnh Qnb fl)) fl))))))
abbrev Qni:T Lf:=sp Qmt (sp Qmu (sp Qmw (sp Qmx bV (sp Qna bV Qmy)) fl) bV) fl
abbrev Qnj:T Lf:=sp (.eq (a0 12500 Qms) Q0) (sp Qm6 bV (sp Qm7 Qni fl)) fl
def asV:T Lf:=sp Qf7 (ju 954 Qmr) (sp (.eq bM Qjj) Qm5 (sp Qls Qnj (sp Qk7 Qnj (sp Qk8 Qnj (sp Qk0 (sp (.eq (a0 12550 Qm1) Q0) (sp Qnd bV (sp Qne (sp Qmt (sp Qmu (sp Qm2 (sp Qm3 bV (sp Qnf bV Qmy)) fl) bV) fl) fl)) fl) (sp (.eq (a0 12500 Qm4) Q0) (sp Qng bV (sp Qnh Qni fl)) fl))))))
abbrev Qnk:SB:=.lt (ln jA) (.lit 2513169434915)
abbrev Qnl:List SE:=[Qf,Qb,jR,Qm,bD,bM,dN,eY,gJ,gG,.op .snoc jA Qmq]
abbrev Qnm:List SE:=[Qf,Q0,Qa,Qa,bD,Qa,jA,Qa]
abbrev Qnn:SB:=.eq (a0 1200 [bD]) Q0
abbrev Qno:SB:=.eq Qf (rr 1200 [bD] 0)
abbrev Qnp:List SE:=[rr 12600 Qnm 9,rr 12600 Qnm 10,Qf,jP]
abbrev Qnq:T Lf:=sp (.eq bD Qj4) lS lS
abbrev Qnr:T Lf:=sp (.eq (a0 12600 Qnm) Q0) (sp (.eq (rr 12600 Qnm 0) Qa) bV (sp (.eq (rr 12600 Qnm 0) Q0) (sp Qnn (sp Qno (sp (.eq (a0 5300 Qnp) Q0) (sp (.eq (rr 5300 Qnp 3) Qa) bV (sp (.lt Yd (ln (rr 5300 Qnp 2))) bV Qnq)) fl) bV) fl) fl)) fl
abbrev Qns:List SE:=[Qa,Qa,Qf,Qa,Qa,Qa,bD,Qa,jA,Qa]
abbrev Qnt:List SE:=[rr 12650 Qns 11,rr 12650 Qns 12,Qf,jP]
abbrev Qnu:List SE:=[Qf,Qa,Qa,Qa,bD,Qa,jA,Qa]
abbrev Qnv:List SE:=[rr 12600 Qnu 9,rr 12600 Qnu 10,Qf,jP]
abbrev Qnw:T Lf:=sp Qls Qnr (sp Qk7 Qnr (sp Qk8 Qnr (sp Qk0 (sp (.eq (a0 12650 Qns) Q0) (sp (.eq (rr 12650 Qns 0) Qa) bV (sp (.eq (rr 12650 Qns 0) Q0) (sp Qnn (sp Qno (sp (.eq (a0 5350 Qnt) Q0) (sp (.eq (rr 5350 Qnt 4) Qa) bV (sp (.lt Yd (ln (rr 5350 Qnt 3))) bV Qnq)) fl) bV) fl) fl)) fl) (sp (.eq (a0 12600 Qnu) Q0) (sp (.eq (rr 12600 Qnu 0) Qa) bV (sp (.eq (rr 12600 Qnu 0) Q0) (sp Qnn (sp Qno (sp (.eq (a0 5300 Qnv) Q0) (sp (.eq (rr 5300 Qnv 3) Qa) bV (sp (.lt Yd (ln (rr 5300 Qnv 2))) bV Qnq)) fl) bV) fl) fl)) fl))))
abbrev Qnx:SB:=.eq (rr 12700 Qnm 0) Qa
abbrev Qny:SB:=.eq (rr 12700 Qnm 0) Q0
abbrev Qnz:List SE:=[rr 12700 Qnm 9,rr 12700 Qnm 10,Qf,jP]
abbrev Qn0:SB:=.eq (rr 5300 Qnz 3) Qa
abbrev Qn1:SB:=.lt Yd (ln (.op .DK (rr 5300 Qnz 2) Qm9))
abbrev Qn2:T Lf:=sp (.eq bD Qj4) bV bV
abbrev Qn3:T Lf:=sp (.eq (a0 12700 Qnm) Q0) (sp Qnx bV (sp Qny (sp Qnn (sp Qno (sp (.eq (a0 5300 Qnz) Q0) (sp Qn0 bV (sp Qn1 bV Qn2)) fl) bV) fl) fl)) fl
abbrev Qn4:SB:=.eq (rr 12750 Qns 0) Qa
abbrev Qn5:SB:=.eq (rr 12750 Qns 0) Q0
abbrev Qn6:List SE:=[rr 12750 Qns 11,rr 12750 Qns 12,Qf,jP]
abbrev Qn7:SB:=.eq (rr 5350 Qn6 4) Qa
abbrev Qn8:SB:=.lt Yd (ln (.op .DK (rr 5350 Qn6 3) Qm9))
abbrev Qn9:SB:=.eq (rr 12700 Qnu 0) Qa
abbrev Qoa:SB:=.eq (rr 12700 Qnu 0) Q0
abbrev Qob:List SE:=[rr 12700 Qnu 9,rr 12700 Qnu 10,Qf,jP]
abbrev Qoc:SB:=.eq (rr 5300 Qob 3) Qa
abbrev Qod:SB:=.lt Yd (ln (.op .DK (rr 5300 Qob 2) Qm9))
def uV:T Lf:=sp wL (sp Qnk (ju 953 Qnl) fl) (sp (.eq dN Qjj) Qnw (sp Qls Qn3 (sp Qk7 Qn3 (sp Qk8 Qn3 (sp Qk0 (sp (.eq (a0 12750 Qns) Q0) (sp Qn4 bV (sp Qn5 (sp Qnn (sp Qno (sp (.eq (a0 5350 Qn6) Q0) (sp Qn7 bV (sp Qn8 bV Qn2)) fl) bV) fl) fl)) fl) (sp (.eq (a0 12700 Qnu) Q0) (sp Qn9 bV (sp Qoa (sp Qnn (sp Qno (sp (.eq (a0 5300 Qob) Q0) (sp Qoc bV (sp Qod bV Qn2)) fl) bV) fl) fl)) fl))))))
abbrev Qoe:T Lf:=sp (.eq (a0 12700 Qnm) Q0) (sp Qnx bV (sp Qny (sp Qnn (sp Qno (sp (.eq (a0 5300 Qnz) Q0) (sp Qn0 bV (sp Qn1 bV Qnq)) fl) bV) fl) fl)) fl
def uU:T Lf:=sp wL (sp Qnk (ju 954 Qnl) fl) (sp (.eq dN Qjj) Qnw (sp Qls Qoe (sp Qk7 Qoe (sp Qk8 Qoe (sp Qk0 (sp (.eq (a0 12750 Qns) Q0) (sp Qn4 bV (sp Qn5 (sp Qnn (sp Qno (sp (.eq (a0 5350 Qn6) Q0) (sp Qn7 bV (sp Qn8 bV Qnq)) fl) bV) fl) fl)) fl) (sp (.eq (a0 12700 Qnu) Q0) (sp Qn9 bV (sp Qoa (sp Qnn (sp Qno (sp (.eq (a0 5300 Qob) Q0) (sp Qoc bV (sp Qod bV Qnq)) fl) bV) fl) fl)) fl))))))
def ajY:T Lf:=sp (.eq (a0 1050 [Qf,Qa]) Q0) (sp (.eq (rr 1050 [Qf,Qa] 6) Qa) (sp (.eq (rr 1050 [Qf,Qa] 0) nK) (sp (.eq (wr (.sub (rr 1050 [Qf,Qa] 5) (rr 1050 [Qf,Qa] 4))) tK) lS bV) bV) bV) fl
abbrev Qof:T Lf:=ou [Qa,jP,Qa,Qa,Qa,Qa,nK,Qa]
abbrev Qog:SE:=rr 12800 OX 3
abbrev Qoh:SE:=wr (.add (.op .cnt (.op .sub Qf (cn jP (cn (mk Qog) jP))) Qit) Q0)
abbrev Qoi:SE:=rr 12850 [Qf,Qog] 3
abbrev Qoj:SE:=.op .sub Qf (cn (mk Qog) (cn (mk Qoi) jP))
abbrev Qok:SE:=nm (el Qoj Qa)
abbrev Qol:SE:=.lit 256
abbrev Qom:SE:=nm (el (.dat b0) Qok)
abbrev Qon:T Lf:=ou [Qa,jP,Qa,Qa,Qa,Qa,.lit 100,Qoh]
abbrev Qoo:SE:=.dat (.p (.i 32) (.i 0))
abbrev Qop:SB:=.eq (.op .norm Qoj Qa) (.dat (.p (.i 61) (.i 0)))
def VU:T Lf:=sp (.lt (.lit 16384) tK) (ou [Qa,jP,Qa,Qa,Qa,Qa,wM,Qa]) (sp Qe2 Qof (sp (.lt tK Qb) Qof (sp (.eq (a0 12800 OX) Q0) (sp (.eq (rr 12800 OX 0) Qa) (sp (.lt Qog Qa) fl (sp (.lt tK Qog) fl (sp (.eq Qog tK) (ou [Qch,jP,Qa,Qoh,Qog,Qog,Qa,Qa]) (sp (.eq (a0 12850 [Qf,Qog]) Q0) (sp (.eq (rr 12850 [Qf,Qog] 0) Qa) (sp (.lt Qoi Qog) fl (sp (.lt tK Qoi) fl (sp (.lt Qa (ln Qoj)) (sp (.lt Qok Qa) fl (sp (.lt Qok Qol) (sp (.eq Qom wM) (sp (.eq (a0 1100 [Qoj]) Q0) (sp (.eq (rr 1100 [Qoj] 1) Qa) Qon (ou [Q0,jP,rr 1100 [Qoj] 0,Qoh,Qog,Qoi,Qa,Qa])) fl) (sp (.eq Qom Ec) (sp (.lt (ln Qoj) (.lit 1000000000)) (sp (.lt (ln (.op .cat Qoo Qoj)) (.lit 1000000000)) (sp (.eq (.op .con (.dat b1) (.op .cat (.op .cat Qoo Qoj) Qoo)) Qa) (sp Qop Qon (ou [nK,Qoj,Qa,Qoh,Qog,Qoi,Qa,Qa])) (sp Qop Qon (ou [wM,Qoj,Qa,Qoh,Qog,Qoi,Qa,Qa]))) fl) fl) (sp (.eq Qom Qch) (sp Qop Qon (ou [Ec,Qoj,Qa,Qoh,Qog,Qoi,Qa,Qa])) Qon))) fl)) fl))) fl) fl)))) fl) fl)))
def ajX:T Lf:=sp (.eq tK Qa) (ju 1101 []) (ju 1102 [Qa,Qf,tK,Qa])
def ayK:T Lf:=ou [Qa,Q0]
abbrev Qoq:SE:=.lit 9223372036854775807
abbrev Qor:SE:=wr (.wrap .u8 (.sub Qlb (.lit 48)))
def abQ:T Lf:=sp Qp (sp Qq fl (sp Qr (sp (.lt (wr (.quo (wr (.sub Qoq Qor)) Qit)) Qf) (ou [Qa,Qa]) (ju 1102 [wr (.add (wr (.mul Qf Qit)) Qor),Qb,Qo,Q1])) fl)) (ou [Qf,Q0])
abbrev Qos:SB:=.eq (rr 1000 [Qb] 0) Qa
abbrev Qot:SE:=wr (.sub IW Q0)
abbrev Qou:SE:=.dat (.p (.i 45) (.i 0))
abbrev Qov:SE:=.dat (.p (.i 43) (.i 0))
abbrev Qow:SE:=.dat (.p (.i 42) (.i 0))
abbrev Qox:SE:=.dat (.p (.i 61) (.p (.i 61) (.i 0)))
abbrev Qoy:SE:=.dat (.p (.i 60) (.i 0))
def ajW:T Lf:=sp Qk9 (sp tN bV (sp (.eq Qg jP) (sp (.eq IW Qa) lS bV) bV)) (sp Qk6 (sp (.eq Qo Qa) (sp (.eq IW Qa) (sp (.eq (a0 1000 [Qb]) Q0) (sp Qos bV lS) fl) bV) bV) (sp Qls (sp (.eq Qo Qa) (sp (.lt IW Q0) bV (sp (.lt nK IW) bV (sp (.lt Qot Qa) fl (sp (.lt Qot nK) (sp (.eq Qot Qa) (sp (.eq Qg Qou) lS bV) (sp (.eq Qg Qov) lS (sp (.eq Qg Qou) lS (sp (.eq Qg Qow) lS (sp (.eq Qg Qox) lS (sp (.eq Qg Qoy) lS bV)))))) fl)))) bV) bV))
def ajV:T Lf:=sp (.lt Ec Qf) (sp (.lt (.lit 8) Qf) (sp (.lt (.lit 11) Qf) (sp (.lt (.lit 14) Qf) (sp (.eq Qf (.lit 15)) (ou [Qch]) (sp (.eq Qf Qj4) (ou [Yh]) (sp (.lt (.lit 19) Qf) (sp (.lt (.lit 21) Qf) (ou [Qgh]) (ou [.lit 8])) (ou [Qil])))) Qlu) (ou [wM])) Qlt) lS
def ajU:T Lf:=sp Qk0 lS (sp (.eq Qf (.lit 17)) lS (sp (.eq Qf Yd) lS (sp (.eq Qf (.lit 23)) lS bV)))
def ajT:T Lf:=sp Qls lS (sp Qk0 lS (sp (.eq Qf (.lit 11)) lS (sp (.eq Qf (.lit 21)) lS (sp (.eq Qf (.lit 22)) lS bV))))
def ajS:T Lf:=sp Qls lS (sp Qk8 lS (sp Qk7 lS (sp (.eq Qf Qgh) lS bV)))
abbrev Qoz:SB:=.lt Qa Qo
abbrev Qo0:SE:=.op .norm Qm Qa
abbrev Qo1:T Lf:=sp Qk0 (sp (.eq (a0 1000 [Qm]) Q0) (sp (.eq (rr 1000 [Qm] 0) Qa) bV lS) fl) (sp (.eq Qo0 jP) lS bV)
def ajR:T Lf:=sp (.lt Qf Q0) bV (sp (.lt Qgh Qf) bV (sp (.eq (a0 1000 [Qb]) Q0) (sp Qos bV (sp tN bV (sp Qoz (sp (.eq (a0 1350 Qj) Q0) (sp (.eq (rr 1350 Qj 0) Qa) bV Qo1) fl) Qo1))) fl))
def abP:T Lf:=sp Qf5 (sp Qf6 (sp (.eq (a0 300 OX) Q0) (ju 1451 [Qb,Qc,rr 300 OX 0]) fl) (ou [Qh,Qh,rr 450 OX 0])) fl
abbrev Qo2:SE:=ce 1 Qf9
abbrev Qo3:SE:=cn jP (cn jP (cn jP (cn jP jP)))
abbrev Qo4:SB:=.lt (ln Qo2) Qv
def VT:T Lf:=sp Qf7 (sp Qf8 (sp (.eq (ln Qo2) Qa) (ju 1452 [Qf,Qb,Q0,Qo,.op .snoc jP (cn jP (cn Qk Qo3))]) (sp Qo4 (ju 1452 [Qf,Qb,Q0,Qo,.op .snoc jP (cn jP (cn (.op .rep (ln Qo2) jP) Qo3))]) fl)) fl) (ou [Qo,Qh,Qa])
abbrev Qo5:SE:=.lit 2199023255551
abbrev Qo6:SB:=.lt (ln IU) Qv
abbrev Qo7:T Lf:=ou [Qm,bD,Qa]
def VQ:T Lf:=sp wL (sp tN fl (sp Tc (sp (.eq (ln IU) Qa) (sp (.lt IV Qo5) (ju 1452 [Qf,Qb,jR,Qm,.op .snoc bD (cn jP (cn Qk Qo3))]) fl) (sp Qo6 (sp (.lt IV Qo5) (ju 1452 [Qf,Qb,jR,Qm,.op .snoc bD (cn jP (cn (.op .rep (ln IU) jP) Qo3))]) fl) fl)) fl)) Qo7
def ajQ:T Lf:=sp Qgw (sp Qgx bV (sp (.eq IW Qc) (ju 1501 [Qm,IW,Qa,Qf,Qb]) bV)) fl
abbrev Qo8:List SE:=[Qm,bD,ce 0 Qdl,Qdm,ce 2 Qdl,Qgl,IU,Qgk,nm Qgn,nm VA,nm Qgp]
def abO:T Lf:=sp wL (sp tN fl (sp Tc (sp Qdk (sp (.eq (a0 1600 Qo8) Q0) (sp (.eq (rr 1600 Qo8 0) Qa) bV (ju 1501 [Qf,Qb,jR,Qm,bD])) fl) fl) fl)) lS
abbrev Qo9:SB:=.lt bD Qc
abbrev Qpa:List SE:=[Qf,Qb,Qo,Qm]
abbrev Qpb:SB:=.eq (rr 1500 Qpa 0) Qa
abbrev Qpc:T Lf:=sp (.eq (a0 1500 Qpa) Q0) (sp Qpb bV lS) fl
def ajP:T Lf:=sp Qlx bV (sp Qo9 Qpc bV)
def ajO:T Lf:=sp Qfq bV (sp (.lt IV bM) bV (sp (.eq Vy IW) (sp (.lt jA Qa) bV (sp (.lt Qj2 jA) bV (sp Qk2 (sp Qmo (sp (.eq gG Qa) lS bV) bV) (sp (.eq eY Qj1) (sp Qky bV (sp (.lt gJ tK) (sp (.eq (nm (ce 0 (el Qf gJ))) Ec) lS bV) bV)) (sp (.eq eY Qj3) (sp Qky bV (sp (.lt gJ tK) (sp (.eq (nm (ce 0 (el Qf gJ))) Qch) lS bV) bV)) bV))))) bV))
abbrev Qpd:SE:=el Qm bD
abbrev Qpe:SE:=nm (ce 2 Qpd)
abbrev Qpf:SE:=nm (ce 0 Qpd)
abbrev Qpg:SB:=.eq Qpf (ln (ce 2 (el Qb bD)))
def ajN:T Lf:=sp Qlx fl (sp (.lt bD IW) (sp (.eq Qpe Qa) (sp Qo9 (sp Qpg lS bV) fl) bV) fl)
abbrev XT:SB:=.eq (a0 1550 S9) Q0
abbrev XR:SB:=.eq (rr 1550 S9 0) Qa
abbrev Qpj:SB:=.eq (rr 1650 S9 0) Qa
def abN:T Lf:=sp XT (sp XR bV (sp (.eq (a0 1650 S9) Q0) (sp Qpj bV lS) fl)) fl
abbrev Qpk:SE:=el (ce 2 (el Qb bD)) Qpf
abbrev Qpl:T Lf:=ou [Qa,Qa,Qa,Qa,Qa]
def Lu:T Lf:=sp Qlx fl (sp (.lt bD IW) (sp (.eq Qpe Qa) (sp (.eq (a0 1650 S9) Q0) (sp Qpj (sp Qo9 (sp (.lt Qpf Qa) fl (sp (.lt Qpf (ln (ce 2 (el Qb bD)))) (sp (.eq (nm (ce 0 Qpk)) Q0) (ju 1751 [ce 6 Qpk,ln (ce 6 Qpk),Qa,Qpf,ce 1 Qpd,Qpe,nm (ce 3 Qpd),nm (ce 4 Qpd),nm (ce 5 Qpd),nm (ce 1 Qpk),nm (ce 2 Qpk),Qa]) (sp (.eq (nm (ce 0 Qpk)) nK) (ou [.lit 26,nm (ce 2 Qpk),Qa,Qa,Q0]) Qpl)) fl)) fl) Qpl) fl) (ou [Qpe,nm (ce 3 Qpd),nm (ce 4 Qpd),Qa,Q0])) fl)
def abM:T Lf:=sp wL (sp tN fl (sp Tc (sp (.eq (a0 1950 [Qgl,IU,Qgk,Qgn,bD]) Q0) (ju 1751 [Qf,Qb,jR,Qm,bD,bM,dN,eY,gJ,gG,jA,rr 1950 [Qgl,IU,Qgk,Qgn,bD] 0]) fl) fl)) (ou [gG,jA,lX,gJ,Q0])
def abL:T Lf:=sp XT (sp XR Qpl (sp (.eq (a0 1750 S9) Q0) (sp (.eq (rr 1750 S9 4) Qa) (ou [rr 1750 S9 0,rr 1750 S9 1,rr 1750 S9 2,rr 1750 S9 3,Qa]) (ou [rr 1750 S9 0,rr 1750 S9 1,rr 1750 S9 2,rr 1750 S9 3,Q0])) fl)) fl
abbrev SX:List SE:=[bD,Qo,Qm]
abbrev wK:SE:=rr 9050 SX 0
abbrev J5:SE:=rr 9050 SX 2
abbrev Yc:SE:=rr 9050 SX 3
abbrev Qpq:List SE:=[Qf,Qb,J5,Yc,bD]
abbrev Qpr:List SE:=[Qf,Qb,J5,Qh,bD]
abbrev Qps:List SE:=[Qf,Qb,J5,Qk,bD]
abbrev Qpt:SE:=rr 9050 SX 4
abbrev Qpu:SE:=rr 9050 SX 5
abbrev Qpv:SE:=rr 9050 SX 6
abbrev Qpw:SE:=rr 9050 SX 7
abbrev Qpx:SE:=rr 9050 SX 8
abbrev Qpy:SE:=rr 9050 SX 9
abbrev Qpz:SE:=cn (mk Qpv) (cn (mk Qpw) (cn (mk Qpx) (cn (mk Qpy) jP)))
abbrev Qp0:SE:=.op .set Yc (cn (mk bD) (cn (mk Qpt) (cn Qpu Qpz)))
abbrev Qp1:T Lf:=ou [J5,Qp0,Qa,Qa,Qa,Qa,Qa,Qa]
abbrev SY:List SE:=[Qf,Qb,J5,Qp0,bD]
abbrev Qp3:SB:=.eq (rr 1650 SY 0) Qa
abbrev Qp4:SB:=.eq (rr 1750 SY 4) Qa
abbrev Qp5:List SE:=[Qf,Qb,bD,J5,Yc,Qpt,Qpu,Qpv,Qpw,Qpx,Qpy]
abbrev qW:List SE:=[Qf,Qb,bD,rr 1750 SY 0,rr 1750 SY 1,rr 1750 SY 2,rr 1750 SY 3,J5,Yc,Qpt,Qpu,Qpv,Qpw,Qpx,Qpy]
abbrev Qp7:T Lf:=ou [J5,Qp0,Qa,Qa,Qa,Qa,Qa,Ec]
def Jc:T Lf:=sp (.eq (a0 9050 SX) Q0) (sp (.eq wK Qa) (sp XT (sp XR (ou [J5,Yc,Qa,Qa,Qa,Qa,Qa,Qa]) (sp (.eq (a0 1650 Qpq) Q0) (sp (.eq (rr 1650 Qpq 0) Qa) (sp (.eq (a0 1750 Qpq) Q0) (sp (.eq (rr 1750 Qpq 4) Qa) fl fl) fl) (ou [J5,Yc,Qa,Qa,Qa,Qa,Qa,Ec])) fl)) fl) (sp (.eq wK Q0) (sp XT (sp XR (ou [J5,Qh,Qa,Qa,Qa,Qa,Qa,Qa]) (sp (.eq (a0 1650 Qpr) Q0) (sp (.eq (rr 1650 Qpr 0) Qa) (sp (.eq (a0 1750 Qpr) Q0) (sp (.eq (rr 1750 Qpr 4) Qa) fl fl) fl) (ou [J5,Qh,Qa,Qa,Qa,Qa,Qa,Ec])) fl)) fl) (sp (.eq wK nK) (sp XT (sp XR (ou [J5,Qk,Qa,Qa,Qa,Qa,Qa,Qa]) (sp (.eq (a0 1650 Qps) Q0) (sp (.eq (rr 1650 Qps 0) Qa) (sp (.eq (a0 1750 Qps) Q0) (sp (.eq (rr 1750 Qps 4) Qa) fl fl) fl) (ou [J5,Qk,Qa,Qa,Qa,Qa,Qa,Ec])) fl)) fl) (sp (.eq wK wM) (sp XT (sp XR Qp1 (sp (.eq (a0 1650 SY) Q0) (sp Qp3 (sp (.eq (a0 1750 SY) Q0) (sp Qp4 (sp (.eq (a0 14000 Qp5) Q0) (sp (.eq (rr 14000 Qp5 0) Qa) (ou [J5,.op .set Yc (cn (mk bD) (cn (mk (rr 14000 Qp5 12)) (cn (rr 14000 Qp5 13) Qpz))),Qa,Qa,Qa,Qa,Qa,Q0]) fl) fl) (sp (.eq (a0 14500 qW) Q0) (sp (.eq (rr 14500 qW 0) Qa) (ou [rr 14500 qW 22,.op .set Yc (cn (mk bD) (cn (mk (rr 14500 qW 23)) (cn (rr 14500 qW 24) (cn (mk (rr 14500 qW 25)) (cn (mk (rr 14500 qW 26)) (cn (mk (rr 14500 qW 27)) (cn (mk (rr 14500 qW 28)) jP))))))),rr 14500 qW 16,rr 14500 qW 17,rr 14500 qW 18,rr 14500 qW 19,rr 14500 qW 20,rr 14500 qW 21]) fl) fl)) fl) Qp7) fl)) fl) (sp (.eq wK Ec) (sp XT (sp XR Qp1 (sp (.eq (a0 1650 SY) Q0) (sp Qp3 (sp (.eq (a0 1750 SY) Q0) (sp Qp4 (sp (.eq (a0 14050 Qp5) Q0) (sp (.eq (rr 14050 Qp5 0) Qa) (ou [J5,.op .set Yc (cn (mk bD) (cn (mk (rr 14050 Qp5 12)) (cn Qpu Qpz))),Qa,Qa,Qa,Qa,Qa,Q0]) fl) fl) (sp (.eq (a0 14550 qW) Q0) (sp (.eq (rr 14550 qW 0) Qa) (ou [rr 14550 qW 22,.op .set Yc (cn (mk bD) (cn (mk (rr 14550 qW 23)) (cn Qpu (cn (mk (rr 14550 qW 24)) (cn (mk (rr 14550 qW 25)) (cn (mk (rr 14550 qW 26)) (cn (mk (rr 14550 qW 27)) jP))))))),rr 14550 qW 16,rr 14550 qW 17,rr 14550 qW 18,rr 14550 qW 19,rr 14550 qW 20,rr 14550 qW 21]) fl) fl)) fl) Qp7) fl)) fl) fl))))) fl
abbrev Qqa:SB:=.lt Qb Qf
abbrev Qqb:SB:=.lt Qb Qcl
abbrev Qqc:SE:=el Qo Qb
abbrev Qqj:SE:=mk Qb
abbrev Qqy:SE:=el Qm Qb
abbrev Qqz:SE:=ce 1 Qqy
abbrev Qq0:SE:=ce 1 Qqc
abbrev Qq4:SE:=el Qm Qa
abbrev Qq5:List SE:=[nm (ce 0 Qq4),ce 1 Qq4,nm (ce 2 Qq4),ce 3 Qq4,bD]
abbrev Qq6:SE:=rr 1950 Qq5 0
abbrev Qq7:SE:=el Qm Q0
abbrev Qq8:List SE:=[nm (ce 0 Qq7),ce 1 Qq7,nm (ce 2 Qq7),ce 3 Qq7,bD]
abbrev Qq9:SE:=rr 1950 Qq8 0
abbrev Qra:SE:=.op .DK (.op .DK (.op .DK jP (cn Qov (mk (wr (.add Qq6 Qq9))))) (cn Qou (mk (wr (.sub Qq6 Qq9))))) (cn Qow (mk (wr (.mul Qq6 Qq9))))
abbrev Qrb:T Lf:=sp (.eq (.op .JR Qra Qg) Qa) bV (ou [nm (.op .JU Qra Qg)])
def VP:T Lf:=sp Qk9 (ou [Qo]) (sp Qk6 (sp tN bV (sp Qdk (ou [nm Qdl]) bV)) (sp Qls (sp (.eq IW Q0) (sp (.eq Qg Qou) (sp (.eq (a0 1950 Qq5) Q0) (ou [wr (.sub Qa Qq6)]) fl) bV) (sp (.eq IW nK) (sp (.eq (a0 1950 Qq5) Q0) (sp (.eq (a0 1950 Qq8) Q0) (sp (.eq Qg Qox) (sp (.eq Qq6 Qq9) lS Qrb) (sp (.eq Qg Qoy) (sp (.lt Qq6 Qq9) lS Qrb) Qrb)) fl) fl) bV)) bV))
abbrev Qrd:List SE:=[bD,Qa,Qf,Qb,Qo,Qm,bM,dN,eY,gJ,J5,Yc,Qpt,Qpu,Qpv,Qpw,Qpx,Qpy]
abbrev Qrk:List SE:=[bD,bM]
abbrev Qrm:List SE:=[Qo,Qm,jA,.op .set lX (cn (mk Qf) (cn (mk mP) (cn mV (cn (mk qG) (cn (mk Yg) (cn (mk Qfy) (cn (mk Qfs) jP))))))),Qf]
abbrev Qrn:SB:=.eq (rr 1650 Qrm 0) Qa
abbrev Qro:SB:=.eq (rr 1750 Qrm 4) Qa
abbrev Qrp:List SE:=[Qo,Qm,Qf,jA,lX,mP,mV,qG,Yg,Qfy,Qfs]
abbrev Qrq:List SE:=[Qo,Qm,Qf,rr 1750 Qrm 0,rr 1750 Qrm 1,rr 1750 Qrm 2,Qj2,jA,lX,mP,mV,qG,Yg,Qfy,Qfs]
abbrev Qrr:List SE:=[Qo,Qm,Qf,rr 1750 Qrm 0,rr 1750 Qrm 1,rr 1750 Qrm 2,Qa,jA,lX,mP,mV,qG,Yg,Qfy,Qfs]
def ajL:T Lf:=sp (.eq (a0 200 [Qf,Qo]) Q0) (sp (.eq (rr 200 [Qf,Qo] 0) Qa) bV (sp (.eq Qc IW) (ju 2051 [Qc,Qa,Qf,Qb,Qo,Qm]) bV)) fl
def abK:T Lf:=sp Qqa (sp Qe2 fl (sp (.lt Qb IW) (sp (.lt Qb Qe3) (sp (.eq (nm (ce 0 Qqy)) (nm (ce 0 XV))) (sp (.eq (nm (ce 2 Qqy)) (nm (ce 2 XV))) (sp (.eq (nm (ce 3 Qqy)) (nm (ce 3 XV))) (sp (.eq (nm (ce 4 Qqy)) (nm (ce 4 XV))) (sp (.eq (nm (ce 5 Qqy)) (nm (ce 5 XV))) (sp (.eq (ln Qqz) (ln (ce 1 XV))) (ju 2052 [Qf,Qb,ln Qqz,Qa,Qo,Qm,bD,bM,nm (ce 0 Qqy),Qqz,nm (ce 2 Qqy),nm (ce 3 Qqy),nm (ce 4 Qqy),nm (ce 5 Qqy),nm (ce 0 XV),ce 1 XV,nm (ce 2 XV),nm (ce 3 XV),nm (ce 4 XV),nm (ce 5 XV)]) bV) bV) bV) bV) bV) bV) fl) fl)) lS
def abJ:T Lf:=sp Qp (sp Qq fl (sp (.lt Qm (ln gG)) (sp (.lt Qm (ln Yg)) (sp (.eq (nm (el gG Qm)) (nm (el Yg Qm))) (ju 2052 [Qf,Qb,Qo,Q1,bD,bM,dN,eY,gJ,gG,jA,lX,mP,mV,qG,Yg,Qfy,Qfs,.aP 18,.aP 19]) bV) fl) fl)) (ju 2051 [Qf,Qe5,bD,bM,dN,eY])
abbrev Qru:SB:=.eq (a0 1450 OX) Q0
abbrev Qrv:SB:=.eq (rr 1450 OX 2) Qa
abbrev Qrw:SE:=rr 1450 OX 0
abbrev Qrx:SE:=rr 1450 OX 1
abbrev Qry:List SE:=[Qm,bD,bM,dN,Qgl,nm IU,Qgk,nm Qgn,nm VA]
abbrev Qrz:SB:=.eq (a0 100 OX) Q0
abbrev Qr0:SB:=.eq (rr 100 OX 0) Qa
abbrev Qr1:SE:=.op .take Qo (.lit 80)
abbrev Qr2:SE:=.op .take Qo Qcl
abbrev Qr3:List SE:=[Qf,Qb,Qr2]
abbrev Qr4:SE:=rr 2150 [bD,bM,.op .take Qf Qm] 2
def ajK:T Lf:=sp Qfg (ju 2451 Qfh) bV
def abI:T Lf:=sp Qp (sp Qq fl (sp Qfi (sp Qr (sp (.and Qfl (.and Qfm (.and (.eq Qfn Qfo) (.and Qfp (.eq (nm (ce 4 Qfj)) (nm Qt)))))) (ju 2451 Qfz) bV) fl) fl)) lS
abbrev Qso:SB:=.lt Qcl Qv
abbrev Qsw:SE:=wr (.add bD Q0)
abbrev Qsz:SE:=.lit 3518437208882
def VO:T Lf:=sp (.eq IV Qc) (sp (.eq (a0 16000 [bD]) Q0) (sp (.eq (rr 16000 [bD] 0) Qa) Qpc bV) fl) bV
abbrev Qt0:T Lf:=ou [Qh,Qh,Qh,nK]
def Fe:T Lf:=sp Qru (sp Qrv (sp Qcm (sp Qso (sp (.eq (a0 2750 [Qf,Qb,Qrw,Qrx,Qo]) Q0) (sp (.eq (rr 2750 [Qf,Qb,Qrw,Qrx,Qo] 0) Qa) Qt0 (ou [Qrw,Qrx,Qo,Qa])) fl) fl) (sp Qco (sp (.eq (a0 2750 [Qf,Qb,Qrw,Qrx,Qh]) Q0) (sp (.eq (rr 2750 [Qf,Qb,Qrw,Qrx,Qh] 0) Qa) Qt0 (ou [Qrw,Qrx,Qh,Qa])) fl) (sp Qcq (sp (.eq (a0 2750 [Qf,Qb,Qrw,Qrx,Qk]) Q0) (sp (.eq (rr 2750 [Qf,Qb,Qrw,Qrx,Qk] 0) Qa) Qt0 (ou [Qrw,Qrx,Qk,Qa])) fl) fl))) (ou [Qh,Qh,Qh,rr 1450 OX 2])) fl
abbrev Qt1:SE:=ce 2 Qf3
abbrev Qt2:SE:=nm (ce 3 Qf3)
def Ls:T Lf:=sp tN fl (sp Qf1 (sp (.eq (nm Qt1) Qj1) (sp (.lt Qt2 Qa) fl (sp (.lt Qt2 tK) (sp (.eq (a0 900 [ce 4 (el Qf Qt2),Qo]) Q0) (sp (.eq (rr 900 [ce 4 (el Qf Qt2),Qo] 0) Qa) bV lS) fl) fl)) (sp (.eq (nm Qt1) Qj3) (sp (.lt Qt2 Qa) fl (sp (.lt Qt2 tK) (sp (.lt (nm (ce 4 Qf3)) (nm (ce 3 (el Qf Qt2)))) bV lS) fl)) bV)) fl)
abbrev Qt3:List SE:=[Qo,Qm,bD]
abbrev Qt4:T Lf:=sp (.eq (a0 2850 Qt3) Q0) (sp (.eq (rr 2850 Qt3 0) Qa) lS bV) fl
def Lr:T Lf:=sp Qlx fl (sp (.lt bD IW) (sp (.eq Qpe Qa) (sp Qo9 (sp Qpg bV Qt4) fl) Qt4) fl)
abbrev O6:List SE:=[Qf,Qb,Qo,Qm,bM]
def abH:T Lf:=sp (.eq (a0 2900 O6) Q0) (sp (.eq (rr 2900 O6 0) Qa) bV (ju 2951 [bM,bD,IV,Qa,Qf,Qb,Qo,Qm])) fl
abbrev Qt6:T Lf:=ju 2951 [Qf,Qb,Qo,Q1,bD,bM,dN,eY]
abbrev Qt7:T Lf:=sp (.eq (a0 2900 [bD,bM,dN,eY,Qm]) Q0) (sp (.eq (rr 2900 [bD,bM,dN,eY,Qm] 0) Qa) Qt6 bV) fl
def Fb:T Lf:=sp Qp (sp Qq fl (sp Qr (sp (.lt Qf Qa) fl (sp (.lt Qf Qc) (sp (.lt Qlb (nm Q2)) Qt7 (sp (.eq Qlb (nm Q2)) (sp (.lt Qm Qf) Qt7 Qt6) Qt6)) fl)) fl)) lS
abbrev Qt8:SB:=.eq (rr 2750 S9 0) Qa
abbrev Qt9:SB:=.eq (a0 2950 [Qf,Qb,Qo,Qm,bD,bM]) Q0
abbrev Qua:SB:=.eq (rr 2950 [Qf,Qb,Qo,Qm,bD,bM] 0) Qa
def ajH:T Lf:=ju 3051 [Qf,tK,Qb,Qo]
abbrev Qub:SE:=ce 4 Qf9
abbrev Quc:SE:=ce 5 Qf9
abbrev Qud:SB:=.lt Qa (ln Quc)
abbrev Que:SB:=.lt (ln Quc) Qv
abbrev Quf:SE:=mk Qga
abbrev Qug:SE:=mk (nm Qo2)
abbrev Quh:SE:=.op .bit Qgd Qa
abbrev Qui:SE:=mk (nm (ce 3 Qf9))
abbrev Quj:SE:=cn Qk jP
def abG:T Lf:=sp Qf7 (sp Qf8 (sp (.lt Qa (ln Qub)) (sp (.lt (ln Qub) Qv) (sp Qud (sp Que (ju 3052 [Qf,Qb,Q0,Qo,Qm,.op .snoc jP (cn Quf (cn Qug (cn Quh (cn Qui (cn Qub (cn Quc jP))))))]) fl) (sp (.eq Quc Qh) (ju 3052 [Qf,Qb,Q0,Qo,Qm,.op .snoc jP (cn Quf (cn Qug (cn Quh (cn Qui (cn Qub Qge)))))]) (sp (.eq Quc Qk) (ju 3052 [Qf,Qb,Q0,Qo,Qm,.op .snoc jP (cn Quf (cn Qug (cn Quh (cn Qui (cn Qub Quj)))))]) fl))) fl) (sp (.eq Qub Qh) (sp Qud (sp Que (ju 3052 [Qf,Qb,Q0,Qo,Qm,.op .snoc jP (cn Quf (cn Qug (cn Quh (cn Qui (cn Qh (cn Quc jP))))))]) fl) (sp (.eq Quc Qh) (ju 3052 [Qf,Qb,Q0,Qo,Qm,.op .snoc jP (cn Quf (cn Qug (cn Quh (cn Qui (cn Qh Qge)))))]) (sp (.eq Quc Qk) (ju 3052 [Qf,Qb,Q0,Qo,Qm,.op .snoc jP (cn Quf (cn Qug (cn Quh (cn Qui (cn Qh Quj)))))]) fl))) (sp (.eq Qub Qk) (sp Qud (sp Que (ju 3052 [Qf,Qb,Q0,Qo,Qm,.op .snoc jP (cn Quf (cn Qug (cn Quh (cn Qui (cn Qk (cn Quc jP))))))]) fl) (sp (.eq Quc Qh) (ju 3052 [Qf,Qb,Q0,Qo,Qm,.op .snoc jP (cn Quf (cn Qug (cn Quh (cn Qui (cn Qk Qge)))))]) (sp (.eq Quc Qk) (ju 3052 [Qf,Qb,Q0,Qo,Qm,.op .snoc jP (cn Quf (cn Qug (cn Quh (cn Qui (cn Qk Quj)))))]) fl))) fl))) fl) (ju 3053 [Qo,Qcl,Qf,Qm])
abbrev Quk:SB:=.lt Qe3 (.lit 1759218604440)
abbrev Qul:SE:=mk Qgl
abbrev Qum:SE:=mk (nm IU)
abbrev Qun:SE:=.op .bit (mk Qgk) Qa
abbrev Quo:SE:=mk (nm Qgn)
def abE:T Lf:=sp wL (sp tN fl (sp Tc (sp (.lt Qa (ln VA)) (sp (.lt (ln VA) Qv) (sp Qll (sp Qlm (sp Quk (ju 3052 [Qf,Qb,jR,Qm,bD,.op .snoc bM (cn Qul (cn Qum (cn Qun (cn Quo (cn VA (cn Qgp jP))))))]) fl) fl) (sp Qlo (sp Quk (ju 3052 [Qf,Qb,jR,Qm,bD,.op .snoc bM (cn Qul (cn Qum (cn Qun (cn Quo (cn VA Qge)))))]) fl) (sp Qlp (sp Quk (ju 3052 [Qf,Qb,jR,Qm,bD,.op .snoc bM (cn Qul (cn Qum (cn Qun (cn Quo (cn VA Quj)))))]) fl) fl))) fl) (sp (.eq VA Qh) (sp Qll (sp Qlm (sp Quk (ju 3052 [Qf,Qb,jR,Qm,bD,.op .snoc bM (cn Qul (cn Qum (cn Qun (cn Quo (cn Qh (cn Qgp jP))))))]) fl) fl) (sp Qlo (sp Quk (ju 3052 [Qf,Qb,jR,Qm,bD,.op .snoc bM (cn Qul (cn Qum (cn Qun (cn Quo (cn Qh Qge)))))]) fl) (sp Qlp (sp Quk (ju 3052 [Qf,Qb,jR,Qm,bD,.op .snoc bM (cn Qul (cn Qum (cn Qun (cn Quo (cn Qh Quj)))))]) fl) fl))) (sp (.eq VA Qk) (sp Qll (sp Qlm (sp Quk (ju 3052 [Qf,Qb,jR,Qm,bD,.op .snoc bM (cn Qul (cn Qum (cn Qun (cn Quo (cn Qk (cn Qgp jP))))))]) fl) fl) (sp Qlo (sp Quk (ju 3052 [Qf,Qb,jR,Qm,bD,.op .snoc bM (cn Qul (cn Qum (cn Qun (cn Quo (cn Qk Qge)))))]) fl) (sp Qlp (sp Quk (ju 3052 [Qf,Qb,jR,Qm,bD,.op .snoc bM (cn Qul (cn Qum (cn Qun (cn Quo (cn Qk Quj)))))]) fl) fl))) fl))) fl)) (ju 3054 [Qm,IW,Qf,bD,bM])
abbrev Qup:SE:=cn Qgd (cn Qui (cn (mk (nm Qub)) (cn (mk (nm Quc)) jP)))
abbrev Quq:SE:=.op .snoc jP (cn Quf (cn Qo2 Qup))
abbrev Qur:SE:=.op .snoc jP (cn Quf (cn Qh Qup))
abbrev Qus:SE:=.op .snoc jP (cn Quf (cn Qk Qup))
def Jb:T Lf:=sp Qf7 (sp Qf8 (sp (.lt Qa (ln Qo2)) (sp Qo4 (ju 3055 [Qf,Qb,Q0,Qo,Qm,Quq]) fl) (sp (.eq Qo2 Qh) (ju 3055 [Qf,Qb,Q0,Qo,Qm,Qur]) (sp (.eq Qo2 Qk) (ju 3055 [Qf,Qb,Q0,Qo,Qm,Qus]) fl))) fl) (sp (.lt Qa IW) (sp (.lt IW Qv) (ou [Qh,Qh,Qm]) fl) (sp (.eq Qo0 Qh) (ou [Qh,Qh,Qh]) (sp (.eq Qo0 Qk) (ou [Qh,Qh,Qk]) fl)))
def Ja:T Lf:=sp Qf7 (sp Qf8 (sp (.lt Qa (ln Qo2)) (sp Qo4 (ju 3056 [Qf,Qb,Q0,Qo,Qm,bD,Quq]) fl) (sp (.eq Qo2 Qh) (ju 3056 [Qf,Qb,Q0,Qo,Qm,bD,Qur]) (sp (.eq Qo2 Qk) (ju 3056 [Qf,Qb,Q0,Qo,Qm,bD,Qus]) fl))) fl) (sp (.lt Qa IW) (sp (.lt IW Qv) (ou [bD,Qh,Qm]) fl) (sp (.eq Qo0 Qh) (ou [bD,Qh,Qh]) (sp (.eq Qo0 Qk) (ou [bD,Qh,Qk]) fl)))
abbrev Qut:SE:=cn (mk Qgk) (cn Quo (cn (mk (nm VA)) (cn (mk (nm Qgp)) jP)))
abbrev Quu:SB:=.eq (.op .norm bD Qa) Qh
abbrev Quv:SB:=.eq (.op .norm bD Qa) Qk
def I9:T Lf:=sp wL (sp tN fl (sp Tc (sp (.lt Qa (ln IU)) (sp Qo6 (sp (.lt Qe3 Qo5) (ju 3055 [Qf,Qb,jR,Qm,bD,.op .snoc bM (cn Qul (cn IU Qut))]) fl) fl) (sp (.eq IU Qh) (sp (.lt Qe3 Qo5) (ju 3055 [Qf,Qb,jR,Qm,bD,.op .snoc bM (cn Qul (cn Qh Qut))]) fl) (sp (.eq IU Qk) (sp (.lt Qe3 Qo5) (ju 3055 [Qf,Qb,jR,Qm,bD,.op .snoc bM (cn Qul (cn Qk Qut))]) fl) fl))) fl)) (sp (.lt Qa IV) (sp (.lt IV Qv) (ou [Qh,bM,bD]) fl) (sp Quu (ou [Qh,bM,Qh]) (sp Quv (ou [Qh,bM,Qk]) fl)))
def I8:T Lf:=sp wL (sp tN fl (sp Tc (sp (.lt Qa (ln IU)) (sp Qo6 (sp (.lt Vy Qo5) (ju 3056 [Qf,Qb,jR,Qm,bD,bM,.op .snoc dN (cn Qul (cn IU Qut))]) fl) fl) (sp (.eq IU Qh) (sp (.lt Vy Qo5) (ju 3056 [Qf,Qb,jR,Qm,bD,bM,.op .snoc dN (cn Qul (cn Qh Qut))]) fl) (sp (.eq IU Qk) (sp (.lt Vy Qo5) (ju 3056 [Qf,Qb,jR,Qm,bD,bM,.op .snoc dN (cn Qul (cn Qk Qut))]) fl) fl))) fl)) (sp (.lt Qa IV) (sp (.lt IV Qv) (ou [bM,dN,bD]) fl) (sp Quu (ou [bM,dN,Qh]) (sp Quv (ou [bM,dN,Qk]) fl)))
abbrev Quw:SB:=.eq (a0 3050 Qt3) Q0
abbrev Qux:SE:=rr 3050 Qt3 0
abbrev Quy:SE:=rr 3050 Qt3 1
abbrev Quz:SE:=rr 3050 Qt3 2
abbrev Qu0:T Lf:=sp Quw (ou [Qux,Quy,Quz,Qa,Qa,Qa,Qa,Qa,Qa,Qa]) fl
abbrev Qu1:SB:=.eq (nm (el bD bM)) Qoq
abbrev Qu2:T Lf:=sp Quw (ou [Qux,Quy,Quz,Qa,Qa,Qa,Qa,Qa,Qa,.lit 131]) fl
abbrev Qu3:SE:=.op .set bD (cn JO (mk (wr (.add (nm (el bD bM)) Q0))))
abbrev Qu4:List SE:=[Qo,Qm,rr 1850 O6 0,rr 1850 O6 1,rr 1850 O6 2,rr 1850 O6 3,rr 1850 O6 4,rr 1850 O6 5,rr 1850 O6 6,Qu3,nm (el Qu3 bM)]
abbrev Qu5:T Lf:=sp (.eq (a0 1850 O6) Q0) (sp (.lt Qa IV) (sp (.lt IV Qv) (sp (.eq (a0 15000 Qu4) Q0) (sp (.eq (rr 15000 Qu4 0) Qa) (ou [rr 1850 O6 0,rr 1850 O6 1,rr 15000 Qu4 12,rr 1850 O6 2,rr 1850 O6 3,rr 1850 O6 4,rr 1850 O6 5,rr 1850 O6 6,rr 1850 O6 7,Qa]) fl) fl) fl) (sp Quu fl (sp Quv fl fl))) fl
def xG:T Lf:=sp Qfq Qu0 (sp (.lt bM Qc) (sp (.eq (a0 2750 S9) Q0) (sp Qt8 Qu0 (sp (.eq (a0 1700 O6) Q0) (sp (.eq (rr 1700 O6 0) Qa) (sp (.eq (a0 1800 O6) Q0) (sp (.lt bM IV) (sp (.eq (a0 2850 [Qo,Qm,bM]) Q0) (sp (.eq (rr 2850 [Qo,Qm,bM] 0) Qa) (sp (.eq (rr 1800 O6 4) Qa) (sp Qu1 (sp Qt9 (sp Qua Qu0 Qu2) fl) Qu5) (sp Qt9 (sp Qua Qu0 (sp Qu1 Qu2 Qu5)) fl)) Qu0) fl) fl) fl) (sp Quw (ou [Qux,Quy,Quz,Qa,Qa,Qa,Qa,Qa,Ec,Qa]) fl)) fl)) fl) Qu0)
def I7:T Lf:=sp (.eq (a0 2800 Qgv) Q0) (sp (.eq (rr 2800 Qgv 3) Qa) (ju 3151 [Qm,Qc,Qa,Qf,Qb,rr 2800 Qgv 0,rr 2800 Qgv 1,rr 2800 Qgv 2]) (ou [Qh,Qh,Qh,Qh,rr 2800 Qgv 3])) fl
abbrev Yb:List SE:=[Qm,bD,bM,dN,eY,.rem (wr (.add (.rem (nm VD) Qb) Qb)) Qb]
abbrev Qu7:T Lf:=ju 3152 [Qf,.op .snoc jP (cn (mk (rr 3100 Yb 3)) (cn (mk (rr 3100 Yb 4)) (cn (mk (rr 3100 Yb 5)) (cn (mk (rr 3100 Yb 6)) (cn (mk (rr 3100 Yb 7)) jP))))),Qb,jR,Qm,bD,rr 3100 Yb 0,rr 3100 Yb 1,rr 3100 Yb 2]
abbrev Qu8:T Lf:=ou [Qh,bM,dN,eY,Qa]
def I5:T Lf:=sp Tc (sp Qf7 (sp tN fl (sp (.eq (a0 3100 Yb) Q0) (sp (.eq (rr 3100 Yb 9) Qa) (sp (.eq (rr 3100 Yb 8) nK) Qu7 (sp (.eq (rr 3100 Yb 8) wM) Qu7 (ju 3151 [Qf,Qb,jR,Qm,bD,rr 3100 Yb 0,rr 3100 Yb 1,rr 3100 Yb 2]))) (ou [Qh,bM,dN,eY,rr 3100 Yb 9])) fl)) Qu8) Qu8
abbrev X9:List SE:=[bD,bM,dN,eY,gJ,.rem (wr (.add (.rem Qmn Qo) Qo)) Qo]
abbrev Qva:T Lf:=sp (.lt Qc Qsz) (ju 3152 [Qf,.op .snoc Qb (cn (mk (rr 3100 X9 3)) (cn (mk (rr 3100 X9 4)) (cn (mk (rr 3100 X9 5)) (cn (mk (rr 3100 X9 6)) (cn (mk (rr 3100 X9 7)) jP))))),Qo,Q1,bD,bM,rr 3100 X9 0,rr 3100 X9 1,rr 3100 X9 2]) fl
abbrev Qvb:T Lf:=ou [Qb,dN,eY,gJ,Qa]
def PD:T Lf:=sp Qfi (sp Qoz (sp Qq fl (sp (.eq (a0 3100 X9) Q0) (sp (.eq (rr 3100 X9 9) Qa) (sp (.eq (rr 3100 X9 8) nK) Qva (sp (.eq (rr 3100 X9 8) wM) Qva (ju 3152 [Qf,Qb,Qo,Q1,bD,bM,rr 3100 X9 0,rr 3100 X9 1,rr 3100 X9 2]))) (ou [Qb,dN,eY,gJ,rr 3100 X9 9])) fl)) Qvb) Qvb
def Lp:T Lf:=sp Qrz (sp Qr0 (sp (.lt (.lit 100) Qcl) lS (sp Qlx lS (sp (.lt Qiz bD) lS (ju 3401 [Qo,Qcl,Qf,Qb,Qm,bD])))) lS) fl
abbrev Qvc:SE:=.lit 150
abbrev Qvd:List SE:=[Qo,Qm,Qf,.op .take bD Qvc]
abbrev Qve:List SE:=[Qo,Qm,Qh,.op .take bD Qvc]
abbrev Qvf:List SE:=[rr 3150 Qvd 0,rr 3150 Qve 0]
abbrev Qvg:List SE:=[rr 3150 Qvd 1,rr 3150 Qvd 2,rr 3150 Qve 1,rr 3150 Qve 2]
abbrev Qvh:List SE:=[Qo,Qm,Qf,.op .take bD IV]
abbrev Qvi:List SE:=[Qo,Qm,Qh,.op .take bD IV]
abbrev Qvj:List SE:=[rr 3150 Qvh 0,rr 3150 Qvi 0]
abbrev Qvk:List SE:=[rr 3150 Qvh 1,rr 3150 Qvh 2,rr 3150 Qvi 1,rr 3150 Qvi 2]
def Lm:T Lf:=sp Qf7 (sp Qf8 (sp (.lt (nm Qf9) Qa) lS (sp (.lt Qiz (nm Qf9)) lS (ju 3402 [Qf,.op .snoc jP (mk (wr (.add (nm Qf9) bM))),Qb,Q0,Qo,Qm,bD,bM]))) fl) (sp (.lt Qvc IV) (sp (.eq (a0 3150 Qvd) Q0) (sp (.eq (a0 3150 Qve) Q0) (sp (.eq (rr 3150 Qvd 4) (rr 3150 Qve 4)) (sp (.eq (a0 2450 Qvf) Q0) (sp (.eq (rr 2450 Qvf 0) Qa) bV (sp (.eq (a0 2050 Qvg) Q0) (sp (.eq (rr 2050 Qvg 0) Qa) bV (sp (.eq (ln (rr 3150 Qvd 3)) (ln (rr 3150 Qve 3))) (ju 3403 [ln (rr 3150 Qvd 3),Qa,bD,bM,rr 3150 Qvd 1,rr 3150 Qvd 2,rr 3150 Qvd 3,rr 3150 Qve 1,rr 3150 Qve 2,rr 3150 Qve 3]) bV)) fl)) fl) bV) fl) fl) (sp (.lt IV IV) fl (sp (.eq (a0 3150 Qvh) Q0) (sp (.eq (a0 3150 Qvi) Q0) (sp (.eq (rr 3150 Qvh 4) (rr 3150 Qvi 4)) (sp (.eq (a0 2450 Qvj) Q0) (sp (.eq (rr 2450 Qvj 0) Qa) bV (sp (.eq (a0 2050 Qvk) Q0) (sp (.eq (rr 2050 Qvk 0) Qa) bV (sp (.eq (ln (rr 3150 Qvh 3)) (ln (rr 3150 Qvi 3))) (ju 3403 [ln (rr 3150 Qvh 3),Qa,bD,bM,rr 3150 Qvh 1,rr 3150 Qvh 2,rr 3150 Qvh 3,rr 3150 Qvi 1,rr 3150 Qvi 2,rr 3150 Qvi 3]) bV)) fl)) fl) bV) fl) fl)))
abbrev Qvl:List SE:=[bD,bM,Qf,.op .take dN Qvc]
abbrev Qvm:List SE:=[bD,bM,Qb,.op .take dN Qvc]
abbrev Qvn:List SE:=[rr 3150 Qvl 0,rr 3150 Qvm 0]
abbrev Qvo:List SE:=[rr 3150 Qvl 1,rr 3150 Qvl 2,rr 3150 Qvm 1,rr 3150 Qvm 2]
abbrev Qvp:List SE:=[bD,bM,Qf,.op .take dN Vy]
abbrev Qvq:List SE:=[bD,bM,Qb,.op .take dN Vy]
abbrev Qvr:List SE:=[rr 3150 Qvp 0,rr 3150 Qvq 0]
abbrev Qvs:List SE:=[rr 3150 Qvp 1,rr 3150 Qvp 2,rr 3150 Qvq 1,rr 3150 Qvq 2]
def Ll:T Lf:=sp Qp (sp Qq fl (sp Qfi (sp (.lt Qmn Qa) lS (sp (.lt Qiz Qmn) lS (sp (.lt Qc Qh8) (ju 3402 [Qf,.op .snoc Qb (mk (wr (.add Qmn eY))),Qo,Q1,bD,bM,dN,eY]) fl))) fl)) (sp (.lt Qvc Vy) (sp (.eq (a0 3150 Qvl) Q0) (sp (.eq (a0 3150 Qvm) Q0) (sp (.eq (rr 3150 Qvl 4) (rr 3150 Qvm 4)) (sp (.eq (a0 2450 Qvn) Q0) (sp (.eq (rr 2450 Qvn 0) Qa) bV (sp (.eq (a0 2050 Qvo) Q0) (sp (.eq (rr 2050 Qvo 0) Qa) bV (sp (.eq (ln (rr 3150 Qvl 3)) (ln (rr 3150 Qvm 3))) (ju 3403 [ln (rr 3150 Qvl 3),Qa,dN,eY,rr 3150 Qvl 1,rr 3150 Qvl 2,rr 3150 Qvl 3,rr 3150 Qvm 1,rr 3150 Qvm 2,rr 3150 Qvm 3]) bV)) fl)) fl) bV) fl) fl) (sp (.lt Vy Vy) fl (sp (.eq (a0 3150 Qvp) Q0) (sp (.eq (a0 3150 Qvq) Q0) (sp (.eq (rr 3150 Qvp 4) (rr 3150 Qvq 4)) (sp (.eq (a0 2450 Qvr) Q0) (sp (.eq (rr 2450 Qvr 0) Qa) bV (sp (.eq (a0 2050 Qvs) Q0) (sp (.eq (rr 2050 Qvs 0) Qa) bV (sp (.eq (ln (rr 3150 Qvp 3)) (ln (rr 3150 Qvq 3))) (ju 3403 [ln (rr 3150 Qvp 3),Qa,dN,eY,rr 3150 Qvp 1,rr 3150 Qvp 2,rr 3150 Qvp 3,rr 3150 Qvq 1,rr 3150 Qvq 2,rr 3150 Qvq 3]) bV)) fl)) fl) bV) fl) fl)))
def abD:T Lf:=sp Qqa (sp Qe2 fl (sp (.lt Qb (ln gG)) (sp (.lt Qb Vy) (sp (.eq (nm (el gG Qb)) (wr (.add (nm (el dN Qb)) Qm))) (ju 3403 [Qf,Qe5,Qo,Qm,bD,bM,dN,eY,gJ,gG]) bV) fl) fl)) lS
def ajE:T Lf:=sp (.eq (a0 5400 Qpa) Q0) (sp (.lt (rr 5400 Qpa 3) Qa) (ou [rr 5400 Qpa 0,rr 5400 Qpa 1,rr 5400 Qpa 2,Qa]) (ou [rr 5400 Qpa 0,rr 5400 Qpa 1,rr 5400 Qpa 2,Q0])) fl
abbrev Qvt:SE:=wr (.sub bM Q0)
def ajD:T Lf:=sp (.lt Qvt Qa) (ou [Qvt,dN,Qa]) (sp (.lt Yd bD) (ou [Qvt,dN,Qa]) (ju 5051 [bD,Qm,IW,Qa,Qvt,dN,Qf,Qb,Qo]))
abbrev Qvu:List SE:=[Qfk,ce 1 Qs,Qfo,ce 3 Qs,Qku,bD,bM]
abbrev Qvv:SE:=.op .norm eY Qa
abbrev Qvw:T Lf:=ou [bD,bM,Qa]
abbrev Qvx:T Lf:=ou [bD,bM,Q0]
def abC:T Lf:=sp Qp (sp Qq fl (sp Qr (sp (.eq (a0 5050 Qvu) Q0) (sp (.eq (rr 5050 Qvu 2) Qa) (ou [rr 5050 Qvu 0,rr 5050 Qvu 1,Qa]) (ju 5051 [Qf,Qb,Qo,Q1,rr 5050 Qvu 0,rr 5050 Qvu 1,dN,eY,gJ])) fl) fl)) (sp (.eq dN Q0) (sp Qlg (sp (.eq Qvv jP) (sp Qky Qvw Qvx) Qvw) Qvw) (sp (.eq dN nK) (sp Qlg (sp Qky Qvw (sp (.lt gJ bM) (sp (.eq (a0 12900 [eY,Qa]) Q0) (sp (.eq (rr 12900 [eY,Qa] 0) Qa) Qvw (sp (.eq (rr 12900 [eY,Qa] 0) Q0) Qvx fl)) fl) Qvw)) Qvw) (sp (.eq dN wM) (sp Qmo (sp (.eq Qc Q0) (sp (.eq Qvv Qou) Qvx Qvw) (sp (.eq Qc nK) (sp (.eq Qvv Qov) Qvx (sp (.eq Qvv Qou) Qvx (sp (.eq Qvv Qow) Qvx (sp (.eq Qvv Qox) Qvx (sp (.eq Qvv Qoy) Qvx Qvw))))) Qvw)) Qvw) Qvw)))
def ajC:T Lf:=ju 5101 OX
def ayJ:T Lf:=ou [Qb]
def ajB:T Lf:=ju 5151 OX
def ayI:T Lf:=ou [Qf,Qb,Q0]
def ajA:T Lf:=ju 5201 OX
def ayH:T Lf:=ou [Q0,Qf,Qb,Q0]
def aiZ:T Lf:=ju 5251 [Qb,Qf,tK,Qa,Qo]
abbrev Qvy:SB:=.eq (a0 1150 [Qfk,ce 1 Qs,Qfo,ce 3 Qs]) Q0
abbrev Qvz:SB:=.eq (rr 1150 [Qfk,ce 1 Qs,Qfo,ce 3 Qs] 0) Qa
abbrev Qv0:SB:=.eq (a0 5450 [ce 3 Qs,Qku,Qsw]) Q0
abbrev Qv1:List SE:=[Qf,Qb,Qo,Q1,rr 5450 [ce 3 Qs,Qku,Qsw] 0]
def abB:T Lf:=sp Qp (sp Qq fl (sp Qr (sp (.lt (.lit 1000) Qsw) fl (sp (.lt Yd Qf) fl (sp Qvy (sp Qvz fl (sp Qv0 (ju 5251 Qv1) fl)) fl))) fl)) (ou [bD,Qb])
def aiY:T Lf:=ju 5301 [Qf,Qa,Qb,Qo,Qm]
abbrev Qv2:SB:=.eq (nm (ce 0 Qqc)) nK
abbrev Qv3:List SE:=[ce 3 Qqc,Qm,bD]
abbrev Qv4:T Lf:=sp (.eq (a0 5500 Qv3) Q0) (sp (.eq (rr 5500 Qv3 2) Qa) (ou [Qo,rr 5500 Qv3 0,rr 5500 Qv3 1,Qa]) (ju 5301 [Qf,Qe5,Qo,rr 5500 Qv3 0,rr 5500 Qv3 1])) fl
def abA:T Lf:=sp Qqa (sp Qe2 fl (sp Qqb (sp Qv2 (sp (.eq (.op .JR bD Qq0) Qa) (ou [Qo,Qm,bD,Qa]) (sp (.eq (nm (.op .JU bD Qq0)) Qa) (ou [Qo,Qm,bD,Qa]) Qv4)) Qv4) fl)) (ou [Qo,Qm,bD,Q0])
def aiX:T Lf:=ju 5351 [Qf,Qa,Qb,Q0,Qo,Qm]
abbrev Qv5:T Lf:=ou [Qo,Qm,bD,bM,Qa]
abbrev Qv6:List SE:=[ce 3 Qqc,Qm,bD,bM]
abbrev Qv7:T Lf:=sp (.eq (a0 5600 Qv6) Q0) (sp (.eq (rr 5600 Qv6 3) Qa) (ou [Qo,rr 5600 Qv6 0,rr 5600 Qv6 1,rr 5600 Qv6 2,Qa]) (ju 5351 [Qf,Qe5,Qo,rr 5600 Qv6 0,rr 5600 Qv6 1,rr 5600 Qv6 2])) fl
def aaZ:T Lf:=sp Qqa (sp Qe2 fl (sp Qqb (sp Qv2 (sp (.eq (.op .JR bM Qq0) Qa) Qv5 (sp (.eq (nm (.op .JU bM Qq0)) Qa) Qv5 Qv7)) Qv7) fl)) (ou [Qo,Qm,bD,bM,Q0])
def Tv:T Lf:=sp (.eq (a0 16050 Qj) Q0) (sp (.lt (rr 16050 Qj 0) Qa) bV lS) fl
def aiW:T Lf:=ju 5401 [Qf,tK,Qa,Qb,Qo,Qm]
def aaY:T Lf:=sp wL (sp tN fl (sp Tc (sp (.eq (a0 800 [Qgl,IU,Qgk,Qgn,IV]) Q0) (sp (.eq (rr 800 [Qgl,IU,Qgk,Qgn,IV] 0) Qa) (ou [Qm,bD,bM,Qo]) (ju 5401 [Qf,Qb,jR,Qm,bD,bM])) fl) fl)) (ou [Qm,bD,bM,Qjj])
def aiV:T Lf:=ju 5451 [Qb,Qf,tK,Qa,Qo]
def aiU:T Lf:=sp Qp (sp Qq fl (sp Qr (sp (.lt (.lit 1000) Qsw) fl (sp (.lt Yd Qf) fl (sp Qvy (sp Qvz fl (sp Qv0 (ju 5451 Qv1) fl)) fl))) fl)) (ou [bD])
def aiS:T Lf:=ju 5501 [Qf,tK,Qa,Qb,Qo]
abbrev Qv8:List SE:=[Qgn,Qm,bD]
abbrev Qv9:T Lf:=sp (.eq (a0 5500 Qv8) Q0) (sp (.eq (rr 5500 Qv8 2) Qa) (ou [rr 5500 Qv8 0,rr 5500 Qv8 1,Qa]) (ju 5501 [Qf,Qb,jR,rr 5500 Qv8 0,rr 5500 Qv8 1])) fl
def aiR:T Lf:=sp wL (sp tN fl (sp Tc (sp (.eq Qgl nK) (sp (.eq (.op .JR bD IU) Qa) Qo7 (sp (.eq (nm (.op .JU bD IU)) Qa) Qo7 Qv9)) Qv9) fl)) (ou [Qm,bD,Q0])
def ayG:T Lf:=ju 5551 [Qf,tK,Qa,Q0,Qb,Qo]
abbrev Qwa:SB:=.eq (.op .JR bM IU) Qa
abbrev Qwb:T Lf:=ou [Qm,bD,bM,Qa]
abbrev Qwc:SB:=.eq (nm (.op .JU bM IU)) Qa
abbrev Qwd:List SE:=[Qgn,Qm,bD,bM]
abbrev Qwe:SB:=.eq (rr 5600 Qwd 3) Qa
abbrev Qwf:T Lf:=ou [rr 5600 Qwd 0,rr 5600 Qwd 1,rr 5600 Qwd 2,Qa]
abbrev Qwg:List SE:=[Qf,Qb,jR,rr 5600 Qwd 0,rr 5600 Qwd 1,rr 5600 Qwd 2]
abbrev Qwh:T Lf:=sp (.eq (a0 5600 Qwd) Q0) (sp Qwe Qwf (ju 5551 Qwg)) fl
def ayF:T Lf:=sp wL (sp tN fl (sp Tc (sp (.eq Qgl nK) (sp Qwa Qwb (sp Qwc Qwb Qwh)) Qwh) fl)) (ou [Qm,bD,bM,Q0])
def aiQ:T Lf:=ju 5601 [Qf,tK,Qa,Qb,Qo,Qm]
abbrev Qwi:T Lf:=sp (.eq (a0 5600 Qwd) Q0) (sp Qwe Qwf (ju 5601 Qwg)) fl
def aiP:T Lf:=sp wL (sp tN fl (sp Tc (sp (.eq Qgl nK) (sp Qwa Qwb (sp Qwc Qwb Qwi)) Qwi) fl)) (ou [Qm,bD,bM,Q0])
def Yv:T Lf:=ju 16051 [Qf,tK,Qa]
def LC:T Lf:=sp wL (sp tN fl (sp Tc (sp (.lt (nm VD) Qa) (ou [Qo]) (ju 16051 [Qf,Qb,jR])) fl)) (ou [Qjj])
abbrev Qwj:List SE:=[Qf,Qb,Qo,Qm,bD,bM,dN,eY,gJ,gG,jA,lX,mP]
abbrev Qwk:SE:=rr 12050 Qwj 14
abbrev Qwl:T Lf:=ou [Qa,Qf,Qb,Qo,Qm,bD,bM,dN,eY,gJ,gG,jA,lX,mP]
def TL:T Lf:=sp (.eq (a0 12050 Qwj) Q0) (sp (.eq (rr 12050 Qwj 0) Qa) (sp (.eq Qwk Qjj) Qwl (ju 12001 [Qf,Qb,Qo,Qm,bD,bM,dN,eY,gJ,gG,jA,lX,mP,Qf,Qwk,wr (.add Qwk Q0)])) fl) fl
abbrev Qwm:SB:=.eq (nm (el mV Yg)) Qb
abbrev Qwn:List SE:=[Qf,Qb,Qo,Qm,bD,bM,dN,eY,gJ,gG,jA,lX,mP,mV,qG,wr (.add Yg Q0)]
abbrev Qwo:SB:=.lt qG Qa
abbrev Qwp:SE:=wr (.add qG Q0)
abbrev Qwq:List SE:=[Qf,Qb,Qo,Qm,bD,bM,dN,eY,gJ,gG,jA,lX,mP,.op .set mV (cn (mk qG) (mk (nm (el mV Yg)))),Qwp,wr (.add Yg Q0)]
abbrev Qwr:T Lf:=sp Qwo fl (sp (.lt Qle qG) fl (sp (.lt (.sub Qle qG) Qa) fl (sp (.eq (.add qG (.sub Qle qG)) Qle) (ou [Q0,Qf,Qb,Qo,Qm,bD,bM,dN,eY,gJ,gG,jA,lX,mP,qG,.op .fill mV (cn (mk qG) jP),Qle]) fl)))
def LM:T Lf:=sp (.lt Yg Qle) (sp (.lt Yg Qa) fl (sp Qwm (ju 12001 Qwn) (sp Qwo fl (sp (.lt qG Qle) (ju 12001 Qwq) fl)))) Qwr
abbrev Qws:List SE:=[Qf,Qb,Qo,Qm,bD,bM,dN,eY,gJ,gG,jA,lX,mP,tK,Qa]
def YL:T Lf:=ju 12051 Qws
abbrev Qwt:SB:=.eq (nm (el Qf qG)) Qb
abbrev Qwu:T Lf:=ou [Qa,Qf,Qb,Qo,Qm,bD,bM,dN,eY,gJ,gG,jA,lX,mP,qG]
abbrev Qwv:List SE:=[Qf,Qb,Qo,Qm,bD,bM,dN,eY,gJ,gG,jA,lX,mP,mV,Qwp]
abbrev Qww:T Lf:=ou [Qa,Qf,Qb,Qo,Qm,bD,bM,dN,eY,gJ,gG,jA,lX,mP,Qjj]
def LK:T Lf:=sp (.lt qG mV) (sp Qwo fl (sp (.lt qG tK) (sp Qwt Qwu (ju 12051 Qwv)) fl)) Qww
abbrev Qwx:SE:=rr 12150 Qwj 14
def TJ:T Lf:=sp (.eq (a0 12150 Qwj) Q0) (sp (.eq (rr 12150 Qwj 0) Qa) (sp (.eq Qwx Qjj) Qwl (ju 12101 [Qf,Qb,Qo,Qm,bD,bM,dN,eY,gJ,gG,jA,lX,mP,Qf,Qwx,wr (.add Qwx Q0)])) fl) fl
def LJ:T Lf:=sp (.lt Yg Qle) (sp (.lt Yg Qa) fl (sp Qwm (ju 12101 Qwn) (sp Qwo fl (sp (.lt qG Qle) (ju 12101 Qwq) fl)))) Qwr
def YK:T Lf:=ju 12151 Qws
def LH:T Lf:=sp (.lt qG mV) (sp Qwo fl (sp (.lt qG tK) (sp Qwt Qwu (ju 12151 Qwv)) fl)) Qww
def YJ:T Lf:=sp (.eq (a0 12250 Qwj) Q0) (sp (.eq (rr 12250 Qwj 0) Qa) Qwl fl) fl
def YI:T Lf:=ju 12251 Qwj
def YH:T Lf:=ou [Qa,Qf,Qb,Qo,Qm,bD,bM,dN,eY,gJ,gG,jA,lX,mP]
def YF:T Lf:=sp (.eq (a0 12350 Qwj) Q0) (sp (.eq (rr 12350 Qwj 0) Qa) Qwl fl) fl
def YE:T Lf:=ju 12351 Qwj
def YD:T Lf:=ou [Qa,Qf,Qb,Qo,Qm,bD,bM,dN,eY,gJ,gG,jA,lX,mP]
abbrev Qwy:SB:=.eq (a0 1400 [Qf,Qm8,Qb,jP,Qo]) Q0
abbrev Qwz:SB:=.eq (rr 1400 [Qf,Qm8,Qb,jP,Qo] 0) Qa
abbrev Qw0:T Lf:=ou [Qa,Qf,Qb,Qo,Qm,bD,bM,dN]
abbrev Qw1:SB:=.lt (.lit 23) bD
abbrev Qw2:SB:=.eq bM Qa
abbrev Qw3:SB:=.eq (a0 1250 [bD]) Q0
abbrev Qw4:SB:=.eq (rr 1250 [bD] 0) Qa
abbrev Qw5:SB:=.eq (a0 1300 [bD]) Q0
abbrev Qw6:SB:=.eq (rr 1300 [bD] 0) Qa
abbrev Qw7:SB:=.eq (a0 5100 [nK,Q0]) Q0
abbrev Qw8:T Lf:=sp Qw7 (ou [Q0,Qf,Qb,Qo,Qm,bD,bM,dN]) fl
abbrev Qw9:SB:=.eq (a0 1000 [jP]) Q0
abbrev Qxa:SB:=.eq (rr 1000 [jP] 0) Qa
def YC:T Lf:=sp Qwy (sp Qwz Qw0 (sp Qfc Qw0 (sp Qw1 Qw0 (sp Qw2 (sp Qw3 (sp Qw4 (sp Qw5 (sp Qw6 Qw8 (sp Qw9 (sp Qxa Qw0 Qw8) fl)) fl) Qw0) fl) Qw0)))) fl
abbrev Qxb:SE:=.dat (.p (.i 98) (.i 0))
abbrev Qxc:SB:=.eq (a0 1400 [Q0,Qxb,Qf,jP,Qb]) Q0
abbrev Qxd:SB:=.eq (rr 1400 [Q0,Qxb,Qf,jP,Qb] 0) Qa
abbrev Qxe:T Lf:=ou [Qa,Qf,Qb,Qo,Qm,bD,bM,dN,eY,gJ]
abbrev Qxf:SB:=.eq (a0 1400 [Qo,Qm8,Qm,Qxb,bD]) Q0
abbrev Qxg:SB:=.eq (rr 1400 [Qo,Qm8,Qm,Qxb,bD] 0) Qa
abbrev Qxh:SB:=.lt dN Q0
abbrev Qxi:SB:=.lt (.lit 23) dN
abbrev Qxj:SB:=.eq (a0 1250 [dN]) Q0
abbrev Qxk:SB:=.eq (rr 1250 [dN] 0) Qa
abbrev Qxl:SB:=.eq (a0 1300 [dN]) Q0
abbrev Qxm:SB:=.eq (rr 1300 [dN] 0) Qa
abbrev Qxn:T Lf:=sp Qw7 (ou [Q0,Qf,Qb,Qo,Qm,bD,bM,dN,eY,gJ]) fl
def YB:T Lf:=sp Qxc (sp Qxd Qxe (sp Qxf (sp Qxg Qxe (sp Qxh Qxe (sp Qxi Qxe (sp Qk2 (sp Qxj (sp Qxk (sp Qxl (sp Qxm Qxn (sp Qw9 (sp Qxa Qxe Qxn) fl)) fl) Qxe) fl) Qxe)))) fl)) fl
def YA:T Lf:=sp Qwy (sp Qwz Qw0 (sp Qfc Qw0 (sp Qw1 Qw0 (sp Qw2 (sp Qw3 (sp Qw4 (sp Qw5 (sp Qw6 Qw0 Qw8) fl) Qw0) fl) Qw0)))) fl
def Yz:T Lf:=sp Qxc (sp Qxd Qxe (sp Qxf (sp Qxg Qxe (sp Qxh Qxe (sp Qxi Qxe (sp Qk2 (sp Qxj (sp Qxk (sp Qxl (sp Qxm Qxe Qxn) fl) Qxe) fl) Qxe)))) fl)) fl
abbrev Qxo:T Lf:=ou [Qa,Qf,Qb,Qo,Qm,bD,bM,dN,eY]
abbrev Qxp:SB:=.eq Vy (rr 1250 [bD] 0)
abbrev Qxq:T Lf:=sp (.eq (a0 5250 [dN,nK,Q0]) Q0) (ou [Q0,Qf,Qb,Qo,Qm,bD,bM,dN,eY,Vy,rr 5250 [dN,nK,Q0] 1]) fl
def TG:T Lf:=sp Qwy (sp Qwz Qxo (sp Qfc Qxo (sp Qw1 Qxo (sp Qw2 (sp Qw3 (sp Qxp (sp Qw5 (sp Qw6 Qxq (sp Qw9 (sp Qxa Qxo Qxq) fl)) fl) Qxo) fl) Qxo)))) fl
abbrev Qxr:T Lf:=ou [Qa,Qf,Qb,Qo,Qm,bD,bM,dN,eY,gJ,gG]
abbrev Qxs:SB:=.eq (ln gJ) (rr 1250 [dN] 0)
abbrev Qxt:T Lf:=sp (.eq (a0 5250 [gJ,nK,Q0]) Q0) (ou [Q0,Qf,Qb,Qo,Qm,bD,bM,dN,eY,gJ,gG,ln gJ,rr 5250 [gJ,nK,Q0] 1]) fl
def TF:T Lf:=sp Qxc (sp Qxd Qxr (sp Qxf (sp Qxg Qxr (sp Qxh Qxr (sp Qxi Qxr (sp Qk2 (sp Qxj (sp Qxs (sp Qxl (sp Qxm Qxt (sp Qw9 (sp Qxa Qxr Qxt) fl)) fl) Qxr) fl) Qxr)))) fl)) fl
def TD:T Lf:=sp Qwy (sp Qwz Qxo (sp Qfc Qxo (sp Qw1 Qxo (sp Qw2 (sp Qw3 (sp Qxp (sp Qw5 (sp Qw6 Qxo Qxq) fl) Qxo) fl) Qxo)))) fl
def TB:T Lf:=sp Qxc (sp Qxd Qxr (sp Qxf (sp Qxg Qxr (sp Qxh Qxr (sp Qxi Qxr (sp Qk2 (sp Qxj (sp Qxs (sp Qxl (sp Qxm Qxr Qxt) fl) Qxr) fl) Qxr)))) fl)) fl
def Yy:T Lf:=ju 12801 [Qf,Qb,Qb]
abbrev Qxu:SE:=nm (el (.dat b0) (nm VD))
abbrev Qxv:SE:=.op .idx (.op .sub Qf (cn ER (cn (mk tK) jP))) Qit
abbrev Qxw:T Lf:=ou [Qa,Qf,Qb,Qo]
def TA:T Lf:=sp Tc (sp tN fl (sp (.lt (nm VD) Qa) fl (sp (.lt (nm VD) Qol) (sp (.eq Qxu Q0) (ju 12801 [Qf,Qb,jR]) (sp (.eq Qxu nK) (sp (.lt tK tK) fl (sp (.lt Qxv Qa) (ou [Qa,Qf,Qb,tK]) (ju 12801 [Qf,Qb,wr (.add Qo Qxv)]))) Qxw)) fl))) Qxw
abbrev Qxx:SE:=nm (el Qf Qb)
abbrev Qxy:SE:=wr (.add Qb nK)
abbrev Qxz:SE:=.op .norm (.op .sub Qf (cn Qqj (cn (mk tK) jP))) Qa
abbrev Qx0:SE:=.dat (.p (.i 45) (.p (.i 62) (.i 0)))
abbrev Qx1:T Lf:=ou [Qa,Qf,Qb,wr (.add Qe5 Q0)]
abbrev Qx2:SE:=.op .norm (.op .sub Qf (cn Qqj (cn (mk Qxy) jP))) Qa
def Yx:T Lf:=sp Qe2 fl (sp (.lt Qb tK) (sp (.lt Qxx Qa) fl (sp (.lt Qxx Qol) (sp (.eq (nm (el (.dat b0) Qxx)) Qch) (sp (.lt tK Qxy) (sp (.lt tK tK) fl (sp (.eq Qxz Qx0) Qx1 (sp (.eq Qxz Qox) Qx1 (ou [Qa,Qf,Qb,Qe5])))) (sp (.lt Qxy Qb) fl (sp (.eq Qx2 Qx0) Qx1 (sp (.eq Qx2 Qox) Qx1 (ou [Qa,Qf,Qb,Qe5]))))) (ju 12851 [Qf,Qb,nm (el (.dat b0) Qxx),Qe5])) fl)) fl)
abbrev Qx3:T Lf:=ou [Qa,Qf,Qb,Qm]
def Tz:T Lf:=sp Qfi (sp Qq fl (sp (.lt Qmn Qa) fl (sp (.lt Qmn Qol) (sp (.eq (nm (el (.dat b0) Qmn)) wM) (ju 12851 Qfz) (sp (.eq (nm (el (.dat b0) Qmn)) Ec) (sp (.eq Qo Ec) (ju 12851 Qfz) Qx3) Qx3)) fl))) Qx3
abbrev Qx4:SE:=el Qt1 bM
abbrev Qx5:SE:=nm (ce 0 Qx4)
abbrev Qx6:SB:=.lt Qa (ln (ce 6 Qx4))
abbrev Qx7:SE:=el (ce 6 Qx4) Qa
abbrev Qx8:List SE:=[nm (ce 0 Qx7),ce 1 Qx7,nm (ce 2 Qx7),ce 3 Qx7,dN]
abbrev Qx9:SB:=.eq (a0 1950 Qx8) Q0
abbrev Qya:SE:=nm (ce 3 Qx4)
abbrev Qyb:SB:=.eq (rr 1950 Qx8 0) Qa
abbrev Qyc:T Lf:=ou [Qa,Qf,Qb,Qo,Qm,bD,bM,dN,eY,gJ,gG,jA,nm (ce 4 Qx4),dN]
def yP:T Lf:=sp tN fl (sp Qdk (sp Qf1 (sp Qfq fl (sp (.lt bM (ln Qt1)) (sp (.eq Qx5 wM) (sp Qx6 (sp Qx9 (sp (.lt Qya Qa) fl (sp (.lt Qya Vy) (ou [Qa,Qf,Qb,Qo,Qm,bD,bM,dN,eY,gJ,gG,jA,Qft,.op .set dN (cn (mk Qya) (mk (rr 1950 Qx8 0)))]) fl)) fl) fl) (sp (.eq Qx5 Ec) (sp Qx6 (sp Qx9 (sp Qyb Qyc (ou [Qa,Qf,Qb,Qo,Qm,bD,bM,dN,eY,gJ,gG,jA,Qft,dN])) fl) fl) (sp (.eq Qx5 Qch) Qyc (sp (.eq Qx5 Yh) (sp (.lt Qya Qa) fl (sp (.lt Qya Vy) (ou [Qa,Qf,Qb,Qo,Qm,bD,bM,dN,eY,gJ,gG,jA,Qft,.op .set dN (cn (mk Qya) (mk (nm (ce 5 Qx4))))]) fl)) (sp (.eq Qx5 Qil) (sp (.lt Qya Qa) fl (sp (.lt Qya Vy) (sp (.lt Qa (nm (el dN Qya))) (ou [Qa,Qf,Qb,Qo,Qm,bD,bM,dN,eY,gJ,gG,jA,Qft,.op .set dN (cn (mk Qya) (mk (wr (.sub (nm (el dN Qya)) Q0))))]) Qyc) fl)) fl))))) fl)) fl) fl)
abbrev Qyd:List SE:=[Qf,Qb,eY,Qo,Qm,bD,bM,dN]
abbrev He:SE:=rr 400 Qyd 6
abbrev Qyf:SE:=el Qt1 gG
abbrev Qyg:SB:=.eq (nm (ce 0 Qyf)) Q0
abbrev Qyh:SB:=.eq (nm (ce 1 Qyf)) Qj4
abbrev OW:SE:=rr 400 Qyd 2
abbrev G9:SE:=rr 400 Qyd 4
abbrev Qyk:SE:=nm (ce 3 Qyf)
abbrev Qyl:SB:=.lt Qyk Qa
abbrev Qym:SB:=.eq He wM
abbrev SV:SE:=rr 400 Qyd 1
abbrev Eb:SE:=rr 400 Qyd 3
abbrev SS:SE:=rr 400 Qyd 5
abbrev SQ:SE:=rr 400 Qyd 0
abbrev Qyr:SE:=wr (.add gG Q0)
abbrev Qys:T Lf:=ou [Qa,Qf,Qb,Qo,Qm,bD,bM,dN,eY,gJ,gG,jA,lX,mP,mV,qG,SV,OW,Eb,G9,SS,He,SQ,Qyr,jA,Qj1,Eb,mV,Qa]
abbrev Qyt:T Lf:=ou [Qa,Qf,Qb,Qo,Qm,bD,bM,dN,eY,gJ,gG,jA,lX,mP,mV,qG,SV,OW,Eb,G9,SS,He,SQ,Qyr,jA,lX,mP,mV,Qa]
abbrev Qyu:SB:=.lt Qyk (ln jA)
abbrev Qyv:SE:=.op .set jA (cn (mk Qyk) (mk G9))
abbrev Qyw:T Lf:=ou [Qa,Qf,Qb,Qo,Qm,bD,bM,dN,eY,gJ,gG,jA,lX,mP,mV,qG,SV,OW,Eb,G9,SS,He,SQ,Qyr,Qyv,Qj1,Eb,mV,Qa]
abbrev Qyx:T Lf:=ou [Qa,Qf,Qb,Qo,Qm,bD,bM,dN,eY,gJ,gG,jA,lX,mP,mV,qG,SV,OW,Eb,G9,SS,He,SQ,Qyr,Qyv,lX,mP,mV,Qa]
abbrev Qyy:SE:=nm (ce 4 Qyf)
abbrev Qyz:T Lf:=ou [Qa,Qf,Qb,Qo,Qm,bD,bM,dN,eY,gJ,gG,jA,lX,mP,mV,qG,SV,OW,Eb,G9,SS,He,SQ,Qyy,jA,Qj1,Eb,mV,Qa]
abbrev Qy0:T Lf:=ou [Qa,Qf,Qb,Qo,Qm,bD,bM,dN,eY,gJ,gG,jA,lX,mP,mV,qG,SV,OW,Eb,G9,SS,He,SQ,Qyy,jA,lX,mP,mV,Qa]
abbrev Qy1:T Lf:=ou [Qa,Qf,Qb,Qo,Qm,bD,bM,dN,eY,gJ,gG,jA,lX,mP,mV,qG,SV,OW,Eb,G9,SS,He,SQ,Qyy,Qyv,Qj1,Eb,mV,Qa]
abbrev Qy2:T Lf:=ou [Qa,Qf,Qb,Qo,Qm,bD,bM,dN,eY,gJ,gG,jA,lX,mP,mV,qG,SV,OW,Eb,G9,SS,He,SQ,Qyy,Qyv,lX,mP,mV,Qa]
abbrev Qy3:SB:=.eq OW (.lit 15)
abbrev Qy4:T Lf:=sp Qym (sp Qy3 (ou [Qa,Qf,Qb,Qo,Qm,bD,bM,dN,eY,gJ,gG,jA,lX,mP,mV,qG,SV,OW,Eb,G9,SS,He,SQ,Qyr,jA,Qj3,Eb,G9,Qa]) Qys) Qyt
def fF:T Lf:=sp (.eq (a0 400 Qyd) Q0) (sp tN fl (sp (.lt Qo (ln gJ)) (sp (.eq He Qa) (sp (.eq Qm Ec) (sp (.lt Qj2 Qwp) (ou [Qa,Qf,Qb,Qo,Qm,bD,bM,dN,eY,gJ,gG,jA,lX,mP,mV,qG,Qa,Qa,Qa,Qa,Qa,He,eY,gG,jA,lX,mP,mV,Qj2]) (ou [Qa,Qf,Qb,Qo,Qm,bD,bM,dN,eY,gJ,gG,jA,lX,mP,mV,qG,Qa,Qa,Qa,Qa,Qa,He,eY,gG,jA,lX,mP,mV,Qwp])) (ou [Qa,Qf,Qb,Qo,Qm,bD,bM,dN,eY,gJ,gG,jA,lX,mP,mV,qG,Qa,Qa,Qa,Qa,Qa,He,eY,gG,jA,lX,mP,mV,qG])) (sp (.eq lX Qa) (sp Qf1 (sp Qlf fl (sp (.lt gG (ln Qt1)) (sp Qyg (sp Qyh (sp (.eq OW Qj4) (sp (.eq G9 Q0) (sp Qyl (sp Qym Qys Qyt) (sp Qyu (sp Qym Qyw Qyx) fl)) (sp Qyl (sp Qym Qyz Qy0) (sp Qyu (sp Qym Qy1 Qy2) fl))) (sp Qyl (sp Qym (sp Qy3 (ou [Qa,Qf,Qb,Qo,Qm,bD,bM,dN,eY,gJ,gG,jA,lX,mP,mV,qG,SV,OW,Eb,G9,SS,He,SQ,Qyy,jA,Qj3,Eb,G9,Qa]) Qyz) Qy0) (sp Qyu (sp Qym (sp Qy3 (ou [Qa,Qf,Qb,Qo,Qm,bD,bM,dN,eY,gJ,gG,jA,lX,mP,mV,qG,SV,OW,Eb,G9,SS,He,SQ,Qyy,Qyv,Qj3,Eb,G9,Qa]) Qy1) Qy2) fl))) (sp Qyl Qy4 (sp Qyu (sp Qym (sp Qy3 (ou [Qa,Qf,Qb,Qo,Qm,bD,bM,dN,eY,gJ,gG,jA,lX,mP,mV,qG,SV,OW,Eb,G9,SS,He,SQ,Qyr,Qyv,Qj3,Eb,G9,Qa]) Qyw) Qyx) fl))) Qy4) fl)) fl) (ou [Qa,Qf,Qb,Qo,Qm,bD,bM,dN,eY,gJ,gG,jA,lX,mP,mV,qG,SV,OW,Eb,G9,SS,He,SQ,gG,jA,Qa,Qa,Qa,Qa]))) fl)) fl
abbrev Qy5:T Lf:=ou [Qa,Qf,Qb,Qo,Qm,bD,bM,dN,eY,gJ,gG,jA,nm (ce 4 Qx4)]
def LG:T Lf:=sp tN fl (sp Qdk (sp Qf1 (sp Qfq fl (sp (.lt bM (ln Qt1)) (sp (.eq Qx5 wM) (sp Qx6 (sp Qx9 fl fl) fl) (sp (.eq Qx5 Ec) (sp Qx6 (sp Qx9 (sp Qyb Qy5 (ou [Qa,Qf,Qb,Qo,Qm,bD,bM,dN,eY,gJ,gG,jA,Qft])) fl) fl) (sp (.eq Qx5 Qch) Qy5 (sp (.eq Qx5 Yh) fl (sp (.eq Qx5 Qil) fl fl))))) fl)) fl) fl)
abbrev Qy6:T Lf:=ou [Qa,Qf,Qb,Qo,Qm,bD,bM,dN,eY,gJ,gG,jA,lX,mP,mV,qG,SV,OW,Eb,G9,SS,He,SQ,Qyr,Qj1,Eb,mV,Qa]
abbrev Qy7:T Lf:=ou [Qa,Qf,Qb,Qo,Qm,bD,bM,dN,eY,gJ,gG,jA,lX,mP,mV,qG,SV,OW,Eb,G9,SS,He,SQ,Qyr,lX,mP,mV,Qa]
abbrev Qy8:T Lf:=ou [Qa,Qf,Qb,Qo,Qm,bD,bM,dN,eY,gJ,gG,jA,lX,mP,mV,qG,SV,OW,Eb,G9,SS,He,SQ,Qyy,Qj1,Eb,mV,Qa]
abbrev Qy9:T Lf:=ou [Qa,Qf,Qb,Qo,Qm,bD,bM,dN,eY,gJ,gG,jA,lX,mP,mV,qG,SV,OW,Eb,G9,SS,He,SQ,Qyy,lX,mP,mV,Qa]
abbrev Qza:T Lf:=sp Qym (sp Qy3 (ou [Qa,Qf,Qb,Qo,Qm,bD,bM,dN,eY,gJ,gG,jA,lX,mP,mV,qG,SV,OW,Eb,G9,SS,He,SQ,Qyr,Qj3,Eb,G9,Qa]) Qy6) Qy7
def jS:T Lf:=sp (.eq (a0 400 Qyd) Q0) (sp tN fl (sp (.lt Qo (ln gJ)) (sp (.eq He Qa) (sp (.eq Qm Ec) (sp (.lt Qj2 Qwp) (ou [Qa,Qf,Qb,Qo,Qm,bD,bM,dN,eY,gJ,gG,jA,lX,mP,mV,qG,Qa,Qa,Qa,Qa,Qa,He,eY,gG,lX,mP,mV,Qj2]) (ou [Qa,Qf,Qb,Qo,Qm,bD,bM,dN,eY,gJ,gG,jA,lX,mP,mV,qG,Qa,Qa,Qa,Qa,Qa,He,eY,gG,lX,mP,mV,Qwp])) (ou [Qa,Qf,Qb,Qo,Qm,bD,bM,dN,eY,gJ,gG,jA,lX,mP,mV,qG,Qa,Qa,Qa,Qa,Qa,He,eY,gG,lX,mP,mV,qG])) (sp (.eq lX Qa) (sp Qf1 (sp Qlf fl (sp (.lt gG (ln Qt1)) (sp Qyg (sp Qyh (sp (.eq OW Qj4) (sp (.eq G9 Q0) (sp Qyl (sp Qym Qy6 Qy7) fl) (sp Qyl (sp Qym Qy8 Qy9) fl)) (sp Qyl (sp Qym (sp Qy3 (ou [Qa,Qf,Qb,Qo,Qm,bD,bM,dN,eY,gJ,gG,jA,lX,mP,mV,qG,SV,OW,Eb,G9,SS,He,SQ,Qyy,Qj3,Eb,G9,Qa]) Qy8) Qy9) fl)) (sp Qyl Qza fl)) Qza) fl)) fl) (ou [Qa,Qf,Qb,Qo,Qm,bD,bM,dN,eY,gJ,gG,jA,lX,mP,mV,qG,SV,OW,Eb,G9,SS,He,SQ,gG,Qa,Qa,Qa,Qa]))) fl)) fl
abbrev Qzs:SE:=wr (.sub eY Q0)
abbrev Qzt:T Lf:=ou [Qa,Qf,Qb,Qo,Qm,bD,bM,dN,eY,gJ,gG,jA,gG]
def yO:T Lf:=sp (.eq bM (.lit 13)) (sp (.lt Qa eY) (sp (.lt Qzs Qa) fl (sp (.lt Qzs (ln gG)) (sp (.lt (nm (el gG Qzs)) jA) (ou [Qa,Qf,Qb,Qo,Qm,bD,bM,dN,eY,gJ,gG,jA,.op .set gG (cn (mk Qzs) (mk jA))]) (ou [Qa,Qf,Qb,Qo,Qm,bD,bM,dN,eY,gJ,gG,jA,.op .set gG (cn (mk Qzs) (mk (nm (el gG Qzs))))])) fl)) Qzt) (sp (.eq bM (.lit 14)) (sp Qe8 fl (sp (.lt dN tK) (ju 15001 [Qf,Qb,Qo,Qm,bD,bM,dN,eY,gJ,gG,jA,ce 4 (el Qf dN),ln (ce 4 (el Qf dN)),Qa,gG]) fl)) (sp (.eq bM (.lit 15)) (sp Qe8 fl (sp (.lt dN Qcl) (sp (.lt eY (nm (ce 3 (el Qo dN)))) (ju 15002 [Qf,Qb,Qo,Qm,bD,bM,dN,eY,gJ,gG,jA,IW,Qa,gG]) Qzt) fl)) Qzt))
abbrev Qzu:SE:=nm (el lX mV)
def LD:T Lf:=sp (.lt mV mP) (sp (.lt mV Qa) fl (sp (.lt mV (ln lX)) (sp (.lt Qzu Qa) fl (sp (.lt Qzu (ln qG)) (sp (.lt (nm (el qG Qzu)) jA) (ju 15001 [Qf,Qb,Qo,Qm,bD,bM,dN,eY,gJ,gG,jA,lX,mP,wr (.add mV Q0),.op .set qG (cn (mk Qzu) (mk jA))]) (ju 15001 [Qf,Qb,Qo,Qm,bD,bM,dN,eY,gJ,gG,jA,lX,mP,wr (.add mV Q0),.op .set qG (cn (mk Qzu) (mk (nm (el qG Qzu))))])) fl)) fl)) (ou [Qa,Qf,Qb,Qo,Qm,bD,bM,dN,eY,gJ,gG,jA,qG])
abbrev Qzv:SE:=wr (.add mP Q0)
abbrev Qzw:T Lf:=ju 15002 [Qf,Qb,Qo,Qm,bD,bM,dN,eY,gJ,gG,jA,lX,Qzv,mV]
def AY:T Lf:=sp (.lt mP lX) (sp (.lt mP Qa) fl (sp (.lt mP IW) (sp (.eq (nm (ce 2 (el Qm mP))) Qj3) (sp (.eq (nm (ce 3 (el Qm mP))) dN) (sp (.eq (nm (ce 4 (el Qm mP))) eY) (sp (.lt mP Qle) (sp (.lt (nm (el mV mP)) jA) (ju 15002 [Qf,Qb,Qo,Qm,bD,bM,dN,eY,gJ,gG,jA,lX,Qzv,.op .set mV (cn (mk mP) (mk jA))]) (ju 15002 [Qf,Qb,Qo,Qm,bD,bM,dN,eY,gJ,gG,jA,lX,Qzv,.op .set mV (cn (mk mP) (mk (nm (el mV mP))))])) fl) Qzw) Qzw) Qzw) fl)) (ou [Qa,Qf,Qb,Qo,Qm,bD,bM,dN,eY,gJ,gG,jA,mV])
def Yw:T Lf:=sp (.eq (a0 1000 Qj) Q0) (sp (.eq (rr 1000 Qj 0) Qa) Qbb Qd2) fl
end
theorem aoL:S.tree 9000=Pz:=by kernel_rfl
theorem Xt:S.tree 9001=uX:=by kernel_rfl
theorem ayZ:S.tree 9002=aiN:=by kernel_rfl
theorem ayY:S.tree 9003=aiM:=by kernel_rfl
theorem aoK:S.tree 9004=aaX:=by kernel_rfl
theorem aoJ:S.tree 9005=aaW:=by kernel_rfl
theorem aoI:S.tree 9006=aaV:=by kernel_rfl
theorem aoH:S.tree 9007=aaU:=by kernel_rfl
theorem aoG:S.tree 9050=I4:=by kernel_rfl
theorem aoF:S.tree 9051=aaT:=by kernel_rfl
theorem aoE:S.tree 9052=aaS:=by kernel_rfl
theorem aED:S.tree 9053=ayE:=by kernel_rfl
theorem ayX:S.tree 9054=aiL:=by kernel_rfl
theorem ayW:S.tree 9055=ayD:=by kernel_rfl
theorem aEC:S.tree 9056=ayC:=by kernel_rfl
theorem aEB:S.tree 9057=ayB:=by kernel_rfl
theorem aEA:S.tree 9058=ayA:=by kernel_rfl
theorem aEz:S.tree 9059=axZ:=by kernel_rfl
theorem Xr:S.tree 9060=Fa:=by kernel_rfl
theorem ayV:S.tree 9061=aiK:=by kernel_rfl
theorem aEy:S.tree 9062=axY:=by kernel_rfl
theorem Xq:S.tree 9063=E8:=by kernel_rfl
theorem ayU:S.tree 9064=aiJ:=by kernel_rfl
theorem aEx:S.tree 9065=axX:=by kernel_rfl
theorem aEw:S.tree 9066=axW:=by kernel_rfl
theorem aEv:S.tree 9067=axV:=by kernel_rfl
theorem aEu:S.tree 9068=axU:=by kernel_rfl
theorem aoD:S.tree 9069=aaR:=by kernel_rfl
theorem aoC:S.tree 9070=aaQ:=by kernel_rfl
theorem aoB:S.tree 9071=aaP:=by kernel_rfl
theorem aoA:S.tree 9072=aaO:=by kernel_rfl
theorem aEt:S.tree 9073=axT:=by kernel_rfl
theorem aEs:S.tree 9074=axS:=by kernel_rfl
theorem e100:S.tree 100=aDa:=by kernel_rfl
theorem awQ:S.tree 101=aC9:=by kernel_rfl
theorem awP:S.tree 102=aC8:=by kernel_rfl
theorem aCE:S.tree 103=aC7:=by kernel_rfl
theorem aCD:S.tree 150=aC6:=by kernel_rfl
theorem awO:S.tree 151=aC5:=by kernel_rfl
theorem aCC:S.tree 200=atH:=by kernel_rfl
theorem U7:S.tree 201=t201:=by kernel_rfl
theorem awN:S.tree 202=ajM:=by kernel_rfl
theorem e250:S.tree 250=atG:=by kernel_rfl
theorem e251:S.tree 251=ajJ:=by kernel_rfl
theorem e300:S.tree 300=ajI:=by kernel_rfl
theorem e301:S.tree 301=Yu:=by kernel_rfl
theorem e302:S.tree 302=atF:=by kernel_rfl
theorem awM:S.tree 350=ajG:=by kernel_rfl
theorem awL:S.tree 351=Yt:=by kernel_rfl
theorem aCB:S.tree 400=kR:=by kernel_rfl
theorem aEP:S.tree 450=aAV:=by kernel_rfl
theorem aCA:S.tree 451=atE:=by kernel_rfl
theorem aCz:S.tree 452=atD:=by kernel_rfl
theorem aCy:S.tree 453=atC:=by kernel_rfl
theorem aCx:S.tree 454=atB:=by kernel_rfl
theorem aCw:S.tree 455=atA:=by kernel_rfl
theorem aCv:S.tree 456=asZ:=by kernel_rfl
theorem aCu:S.tree 500=ajF:=by kernel_rfl
theorem aoR:S.tree 501=Yr:=by kernel_rfl
theorem aEO:S.tree 550=aiT:=by kernel_rfl
theorem aCt:S.tree 551=asY:=by kernel_rfl
theorem aEN:S.tree 552=aC4:=by kernel_rfl
theorem aEM:S.tree 553=aC3:=by kernel_rfl
theorem aEJ:S.tree 600=aAU:=by kernel_rfl
theorem aCs:S.tree 650=asX:=by kernel_rfl
theorem aEI:S.tree 700=aAT:=by kernel_rfl
theorem aEH:S.tree 750=aAS:=by kernel_rfl
theorem aEG:S.tree 800=aAR:=by kernel_rfl
theorem aEF:S.tree 850=aAQ:=by kernel_rfl
theorem aCr:S.tree 851=aiO:=by kernel_rfl
theorem aEE:S.tree 900=aAP:=by kernel_rfl
theorem aEr:S.tree 950=aAO:=by kernel_rfl
theorem aCq:S.tree 951=asW:=by kernel_rfl
theorem aCp:S.tree 952=asV:=by kernel_rfl
theorem JZ:S.tree 953=uV:=by kernel_rfl
theorem JY:S.tree 954=uU:=by kernel_rfl
theorem aAp:S.tree 1000=ajY:=by kernel_rfl
theorem aAo:S.tree 1050=VU:=by kernel_rfl
theorem aAn:S.tree 1100=ajX:=by kernel_rfl
theorem aAm:S.tree 1101=ayK:=by kernel_rfl
theorem aqN:S.tree 1102=abQ:=by kernel_rfl
theorem aAl:S.tree 1150=ajW:=by kernel_rfl
theorem aAk:S.tree 1200=ajV:=by kernel_rfl
theorem aAj:S.tree 1250=ajU:=by kernel_rfl
theorem aAi:S.tree 1300=ajT:=by kernel_rfl
theorem aAh:S.tree 1350=ajS:=by kernel_rfl
theorem aAg:S.tree 1400=ajR:=by kernel_rfl
theorem apP:S.tree 1450=abP:=by kernel_rfl
theorem apN:S.tree 1451=VT:=by kernel_rfl
theorem apM:S.tree 1452=VQ:=by kernel_rfl
theorem aAf:S.tree 1500=ajQ:=by kernel_rfl
theorem apJ:S.tree 1501=abO:=by kernel_rfl
theorem aAe:S.tree 1550=ajP:=by kernel_rfl
theorem aAd:S.tree 1600=ajO:=by kernel_rfl
theorem aAc:S.tree 1650=ajN:=by kernel_rfl
theorem apG:S.tree 1700=abN:=by kernel_rfl
theorem aAb:S.tree 1750=Lu:=by kernel_rfl
theorem apF:S.tree 1751=abM:=by kernel_rfl
theorem aAa:S.tree 1800=abL:=by kernel_rfl
theorem Oi:S.tree 1850=Jc:=by kernel_rfl
theorem adN:S.tree 1950=VP:=by kernel_rfl
theorem azZ:S.tree 2050=ajL:=by kernel_rfl
theorem apE:S.tree 2051=abK:=by kernel_rfl
theorem apD:S.tree 2052=abJ:=by kernel_rfl
theorem azY:S.tree 2450=ajK:=by kernel_rfl
theorem apC:S.tree 2451=abI:=by kernel_rfl
theorem azX:S.tree 2750=VO:=by kernel_rfl
theorem adM:S.tree 2800=Fe:=by kernel_rfl
theorem azW:S.tree 2850=Ls:=by kernel_rfl
theorem azV:S.tree 2900=Lr:=by kernel_rfl
theorem apB:S.tree 2950=abH:=by kernel_rfl
theorem JD:S.tree 2951=Fb:=by kernel_rfl
theorem azU:S.tree 3050=ajH:=by kernel_rfl
theorem apA:S.tree 3051=abG:=by kernel_rfl
theorem aoZ:S.tree 3052=abE:=by kernel_rfl
theorem aoY:S.tree 3053=Jb:=by kernel_rfl
theorem aoX:S.tree 3054=Ja:=by kernel_rfl
theorem aoW:S.tree 3055=I9:=by kernel_rfl
theorem aoV:S.tree 3056=I8:=by kernel_rfl
theorem Au:S.tree 3100=xG:=by kernel_rfl
theorem Oh:S.tree 3150=I7:=by kernel_rfl
theorem adL:S.tree 3151=I5:=by kernel_rfl
theorem aoU:S.tree 3152=PD:=by kernel_rfl
theorem azT:S.tree 3400=Lp:=by kernel_rfl
theorem azS:S.tree 3401=Lm:=by kernel_rfl
theorem aoT:S.tree 3402=Ll:=by kernel_rfl
theorem aoS:S.tree 3403=abD:=by kernel_rfl
theorem azR:S.tree 5000=ajE:=by kernel_rfl
theorem azQ:S.tree 5050=ajD:=by kernel_rfl
theorem aoQ:S.tree 5051=abC:=by kernel_rfl
theorem azP:S.tree 5100=ajC:=by kernel_rfl
theorem azO:S.tree 5101=ayJ:=by kernel_rfl
theorem azN:S.tree 5150=ajB:=by kernel_rfl
theorem azM:S.tree 5151=ayI:=by kernel_rfl
theorem azL:S.tree 5200=ajA:=by kernel_rfl
theorem azK:S.tree 5201=ayH:=by kernel_rfl
theorem azJ:S.tree 5250=aiZ:=by kernel_rfl
theorem aoP:S.tree 5251=abB:=by kernel_rfl
theorem azI:S.tree 5300=aiY:=by kernel_rfl
theorem aoO:S.tree 5301=abA:=by kernel_rfl
theorem azH:S.tree 5350=aiX:=by kernel_rfl
theorem aoN:S.tree 5351=aaZ:=by kernel_rfl
theorem apI:S.tree 16000=Tv:=by kernel_rfl
theorem azG:S.tree 5400=aiW:=by kernel_rfl
theorem aoM:S.tree 5401=aaY:=by kernel_rfl
theorem azF:S.tree 5450=aiV:=by kernel_rfl
theorem azE:S.tree 5451=aiU:=by kernel_rfl
theorem azD:S.tree 5500=aiS:=by kernel_rfl
theorem azC:S.tree 5501=aiR:=by kernel_rfl
theorem aEL:S.tree 5550=ayG:=by kernel_rfl
theorem aEK:S.tree 5551=ayF:=by kernel_rfl
theorem azB:S.tree 5600=aiQ:=by kernel_rfl
theorem azA:S.tree 5601=aiP:=by kernel_rfl
theorem apH:S.tree 16050=Yv:=by kernel_rfl
theorem U8:S.tree 16051=LC:=by kernel_rfl
theorem ZY:S.tree 12000=TL:=by kernel_rfl
theorem Va:S.tree 12001=LM:=by kernel_rfl
theorem aqM:S.tree 12050=YL:=by kernel_rfl
theorem ZX:S.tree 12051=LK:=by kernel_rfl
theorem ZW:S.tree 12100=TJ:=by kernel_rfl
theorem U9:S.tree 12101=LJ:=by kernel_rfl
theorem aqL:S.tree 12150=YK:=by kernel_rfl
theorem ZV:S.tree 12151=LH:=by kernel_rfl
theorem aqK:S.tree 12200=YJ:=by kernel_rfl
theorem aqJ:S.tree 12250=YI:=by kernel_rfl
theorem aqI:S.tree 12251=YH:=by kernel_rfl
theorem aqH:S.tree 12300=YF:=by kernel_rfl
theorem aqG:S.tree 12350=YE:=by kernel_rfl
theorem aqF:S.tree 12351=YD:=by kernel_rfl
theorem aqE:S.tree 12400=YC:=by kernel_rfl
theorem aqD:S.tree 12450=YB:=by kernel_rfl
theorem aqC:S.tree 12500=YA:=by kernel_rfl
theorem aqB:S.tree 12550=Yz:=by kernel_rfl
theorem aqA:S.tree 12600=TG:=by kernel_rfl
theorem apZ:S.tree 12650=TF:=by kernel_rfl
theorem apY:S.tree 12700=TD:=by kernel_rfl
theorem apX:S.tree 12750=TB:=by kernel_rfl
theorem apW:S.tree 12800=Yy:=by kernel_rfl
theorem apV:S.tree 12801=TA:=by kernel_rfl
theorem apU:S.tree 12850=Yx:=by kernel_rfl
theorem apT:S.tree 12851=Tz:=by kernel_rfl
theorem apR:S.tree 14000=yP:=by kernel_rfl
theorem apO:S.tree 14500=fF:=by kernel_rfl
theorem apQ:S.tree 14050=LG:=by kernel_rfl
theorem apL:S.tree 14550=jS:=by kernel_rfl
theorem apK:S.tree 15000=yO:=by kernel_rfl
theorem ZU:S.tree 15001=LD:=by kernel_rfl
theorem ZT:S.tree 15002=AY:=by kernel_rfl
theorem apS:S.tree 12900=Yw:=by kernel_rfl
end Go.As.Try
end
section
namespace Go.As.Try
open Go hiding Stat Spec shape
open Go.As Go.Proofs
set_option maxRecDepth 100000
def listed:List Nat:=[9000,9001,9002,9003,9004,9005,9006,9007,9050,9051,9052,9053,9054,9055,9056,9057,9058,9059,9060,9061,9062,9063,9064,9065,9066,9067,9068,9069,9070,9071,9072,9073,9074,100,101,102,103,150,151,200,201,202,250,251,300,301,302,350,351,400,450,451,452,453,454,455,456,500,501,550,551,552,553,600,650,700,750,800,850,851,900,950,951,952,953,954,1000,1050,1100,1101,1102,1150,1200,1250,1300,1350,1400,1450,1451,1452,1500,1501,1550,1600,1650,1700,1750,1751,1800,1850,1950,2050,2051,2052,2450,2451,2750,2800,2850,2900,2950,2951,3050,3051,3052,3053,3054,3055,3056,3100,3150,3151,3152,3400,3401,3402,3403,5000,5050,5051,5100,5101,5150,5151,5200,5201,5250,5251,5300,5301,5350,5351,16000,5400,5401,5450,5451,5500,5501,5550,5551,5600,5601,16050,16051,12000,12001,12050,12051,12100,12101,12150,12151,12200,12250,12251,12300,12350,12351,12400,12450,12500,12550,12600,12650,12700,12750,12800,12801,12850,12851,14000,14500,14050,14550,15000,15001,15002,12900]
noncomputable def trees:List (T Lf):=[Pz,uX,aiN,aiM,aaX,aaW,aaV,aaU,I4,aaT,aaS,ayE,aiL,ayD,ayC,ayB,ayA,axZ,Fa,aiK,axY,E8,aiJ,axX,axW,axV,axU,aaR,aaQ,aaP,aaO,axT,axS,aDa,aC9,aC8,aC7,aC6,aC5,atH,t201,ajM,atG,ajJ,ajI,Yu,atF,ajG,Yt,kR,aAV,atE,atD,atC,atB,atA,asZ,ajF,Yr,aiT,asY,aC4,aC3,aAU,asX,aAT,aAS,aAR,aAQ,aiO,aAP,aAO,asW,asV,uV,uU,ajY,VU,ajX,ayK,abQ,ajW,ajV,ajU,ajT,ajS,ajR,abP,VT,VQ,ajQ,abO,ajP,ajO,ajN,abN,Lu,abM,abL,Jc,VP,ajL,abK,abJ,ajK,abI,VO,Fe,Ls,Lr,abH,Fb,ajH,abG,abE,Jb,Ja,I9,I8,xG,I7,I5,PD,Lp,Lm,Ll,abD,ajE,ajD,abC,ajC,ayJ,ajB,ayI,ajA,ayH,aiZ,abB,aiY,abA,aiX,aaZ,Tv,aiW,aaY,aiV,aiU,aiS,aiR,ayG,ayF,aiQ,aiP,Yv,LC,TL,LM,YL,LK,TJ,LJ,YK,LH,YJ,YI,YH,YF,YE,YD,YC,YB,YA,Yz,TG,TF,TD,TB,Yy,TA,Yx,Tz,yP,fF,LG,jS,yO,LD,AY,Yw]
theorem afZ:listed.map S.tree=trees:=by simp only [listed,trees,List.map,aoL,Xt,ayZ,ayY,aoK,aoJ,aoI,aoH,aoG,aoF,aoE,aED,ayX,ayW,aEC,aEB,aEA,aEz,Xr,ayV,aEy,Xq,ayU,aEx,aEw,aEv,aEu,aoD,aoC,aoB,aoA,aEt,aEs,e100,awQ,awP,aCE,aCD,awO,aCC,U7,awN,e250,e251,e300,e301,e302,awM,awL,aCB,aEP,aCA,aCz,aCy,aCx,aCw,aCv,aCu,aoR,aEO,aCt,aEN,aEM,aEJ,aCs,aEI,aEH,aEG,aEF,aCr,aEE,aEr,aCq,aCp,JZ,JY,aAp,aAo,aAn,aAm,aqN,aAl,aAk,aAj,aAi,aAh,aAg,apP,apN,apM,aAf,apJ,aAe,aAd,aAc,apG,aAb,apF,aAa,Oi,adN,azZ,apE,apD,azY,apC,azX,adM,azW,azV,apB,JD,azU,apA,aoZ,aoY,aoX,aoW,aoV,Au,Oh,adL,aoU,azT,azS,aoT,aoS,azR,azQ,aoQ,azP,azO,azN,azM,azL,azK,azJ,aoP,azI,aoO,azH,aoN,apI,azG,aoM,azF,azE,azD,azC,aEL,aEK,azB,azA,apH,U8,ZY,Va,aqM,ZX,ZW,U9,aqL,ZV,aqK,aqJ,aqI,aqH,aqG,aqF,aqE,aqD,aqC,aqB,aqA,apZ,apY,apX,apW,apV,apU,apT,apR,apO,apQ,apL,apK,ZU,ZT,apS]
theorem aiD:trees.all (X8 [])=true:=by kernel_rfl
theorem aCH:aAq (lim 322 feT) 322 listed=true:=by kernel_rfl
theorem asL (j:Nat):X8 [] (S.tree j)=true:=by
 cases h:Ar St.t j with
 | none=>exact aeN (S:=St) h
 | some e=>
   have hm:S.tree j∈trees:=by
    rw [← afZ]
    exact List.mem_map_of_mem (cov aCH (fun k hk=>amE hk) h)
   exact List.all_eq_true.1 aiD _ hm
noncomputable def L:sZ:=lim' S.tree
theorem aT (j:Nat) (xs:List Int):L j xs=fin L (dY (bQ L (low xs)) (S.tree j)):=aBi asL j xs
end Go.As.Try
end
section
namespace Go.As.Try
open Go hiding Stat
open Go.As Go.Proofs Go.RowKit Go.ChangeShapes Go.WideShapes Go.ChangeAt
open Go.Proofs.YtdcafdkkpdadbaaGreatDoor
set_option maxRecDepth 100000
theorem own:ownKnob Tryz.prog.godebug=none:=by kernel_rfl
theorem laidOut:laidOutB Tryz.prog=true:=by kernel_rfl
def alC:TypeId→Option Nat:=Jy (owns.take 10)
def ownB (P:Program) (own:TypeId→Option Nat) (l:List (Nat×Nat)):Bool:=l.all fun p=>match P.underlying p.1 with
 | some (.slice e)=>decide (yG P own 8 e=some (nZ p.2)) && Nat.beq (P.cellsOf e) (nZ p.2).length && Nat.ble (vU p.2) (P.bytesOf e) && Nat.ble 1 (nZ p.2).length
 | _=>false
theorem RN {t i:Nat}: ∀{l:List (Nat×Nat)},Jy l t=some i→(t,i)∈l
 | [],h=>by simp [Jy] at h
 | (a,k) :: l,h=>by
   unfold Jy at h
   split at h
   ·rename_i hb
    have:=Nat.eq_of_beq_eq_true hb
    simp only [Option.some.injEq] at h
    subst this h
    simp
   ·exact List.mem_cons_of_mem _ (RN h)
theorem auE {P:Program} {l:List (Nat×Nat)} (h:ownB P (Jy l) l=true):arZ P (Jy l):=by
 intro t i hti
 have:=List.all_eq_true.1 h _ (RN hti)
 simp only at this
 split at this
 ·rename_i e he
  simp only [Bool.and_eq_true,decide_eq_true_eq] at this
  exact⟨e,8,he,this.1.1.1,Nat.eq_of_beq_eq_true this.1.1.2,Nat.le_of_ble_eq_true this.1.2,Nat.le_of_ble_eq_true this.2⟩
 ·simp at this
theorem auD:arZ Tryz.prog alC:=auE (by kernel_rfl)
theorem auY {W:World} (h:W.ShapedOpen Tryz.prog):base.ok (X7 W) W.heap:=by
 obtain⟨m,hm⟩:=LaysM.n144.s1_3 Tryz.laysM144 W h
 exact⟨aeD hm,m,by rw [← sU]; exact hm⟩
def acI:DataW Unit→Value
 | .lit (.int k n)=> .int k n
 | _=>undef
def cellsD:DataW Unit→Array Value
 | .agg l=>(l.map acI).toArray
 | d=> #[acI d]
def aDE (d:DataW Unit):Obj→Obj
 | .cells _ t f=> .cells (cellsD d) t f
 | o=>o
noncomputable def aBj (h:Array Obj) (x:String×DataW Unit):Array Obj:=match Tryz.prog.globalNamed x.1 with
 | some g=>h.modify g (aDE x.2)
 | none=>h
noncomputable def laidWorld (os:Os):World:=
 { World.holding Tryz.prog os ⟨#[],#[],[]⟩ with heap:=Rows.kendoShiftRow.laid.foldl aBj (World.holding Tryz.prog os ⟨#[],#[],[]⟩).heap }
theorem GU {ro:Nat→Prop} {h:Array Obj} {i:Nat} {d:D} {v:Value} (r:Rd ro h (.sl i) d v):Az ro h (.sl i) (enc d) v:=by
 show Rd ro h (.sl i) (dec (enc d)) v
 rw [aF]
 exact r
theorem arQ {ro:Nat→Prop} {h:Array Obj} {u:Value} (a:axN [.one .bool] [1] ro h u):u= .bool true:=by
 obtain⟨us,fl,hs,hc,hu⟩:=a
 cases hs with
 | one c v hs=>
   cases hs
   simp only [tY,RK.flat,List.append_nil,List.cons_append,List.nil_append] at hc
   obtain⟨n,ns',u',us',h1,h2,h3,h4⟩:=hc
   simp only [List.cons.injEq] at h1 h2
   obtain⟨rfl,_⟩:=h1
   obtain⟨rfl,_⟩:=h2
   rw [hu]
   exact h3
theorem arG {g j:Nat} {e:Hr} (hn:j∈S.nums g) (he:S.ents j=some e) (hp:e.pat=none) (hr:e.oO= [.one .bool]) {xs:List Int} (hL:L j xs=some [1]) {W:World} (hsh:W.ShapedOpen Tryz.prog) {vals fl:List Value} (h1:Shape e.OT vals fl) (h2:jG (X7 W) W.heap (tY e.OT) xs fl) :
 Calls Tryz.prog g vals.toArray W fun en W'=>en= .returned (.bool true)∧Below W.heap.size W W':=by
 obtain⟨n,hrun⟩:=Ut hL
 refine (ajZ aAW hn he hp n xs [1] hrun (X7 W) W vals fl (fun _ h=>h) (auY hsh) h1 h2).mono fun en W' ⟨u,hu,hb,ro',_,_,_,ha⟩=>?_
 rw [hr] at ha
 rw [arQ ha] at hu
 exact⟨hu,hb⟩
end Go.As.Try
end
section
namespace Go.As
def prune (Y N:List SB):T Lf→T Lf
 | .fail=> .fail
 | .ret l=> .ret l
 | .split c x y=>match Y.contains c with
   | true=>prune Y N x
   | false=>match N.contains c with
     | true=>prune Y N y
     | false=> .split c (prune Y N x) (prune Y N y)
def zY (ρ:Nat→Int):List SB→Prop
 | []=>True
 | c :: l=>c.den ρ=true∧zY ρ l
def zW (ρ:Nat→Int):List SB→Prop
 | []=>True
 | c :: l=> ¬c.den ρ=true∧zW ρ l
theorem ahJ {ρ:Nat→Int}: ∀{l:List SB},zY ρ l→∀c∈l,c.den ρ=true
 | [],_,c,h=>by simp at h
 | a :: l,hz,c,h=>by
   rcases List.mem_cons.1 h with rfl | h
   ·exact hz.1
   ·exact ahJ hz.2 c h
theorem ahM {ρ:Nat→Int}: ∀{l:List SB},zW ρ l→∀c∈l,c.den ρ=false
 | [],_,c,h=>by simp at h
 | a :: l,hz,c,h=>by
   rcases List.mem_cons.1 h with rfl | h
   ·simpa using hz.1
   ·exact ahM hz.2 c h
theorem ahK {ρ:Nat→Int}: ∀{a b:List SB},zY ρ a→zY ρ b→zY ρ (a++b)
 | [],_,_,h=>h
 | _ :: _,_,h,h'=> ⟨h.1,ahK h.2 h'⟩
theorem ahN {ρ:Nat→Int}: ∀{a b:List SB},zW ρ a→zW ρ b→zW ρ (a++b)
 | [],_,_,h=>h
 | _ :: _,_,h,h'=> ⟨h.1,ahN h.2 h'⟩
theorem dJ {ρ:Nat→Int} {Y N:List SB} (h:zY ρ Y∧zW ρ N): ∀t,dY ρ (prune Y N t)=dY ρ t
 | .fail=>rfl
 | .ret l=>rfl
 | .split c x y=>by
   simp only [prune,dY]
   split
   ·rename_i h'
    rw [ahJ h.1 c (List.contains_iff_mem.1 h'),if_pos rfl]
    exact dJ h x
   ·split
    ·rename_i h'
     rw [ahM h.2 c (List.contains_iff_mem.1 h'),if_neg (by simp)]
     exact dJ h y
    ·simp only [dY,dJ h x,dJ h y]
theorem bY {ρ:Nat→Int} (Y N:List SB) {t:T Lf} {R:RS} (u:T Lf) (h:zY ρ Y∧zW ρ N) (k:prune Y N t=u) (h':dY ρ u=R):dY ρ t=R:=by rw [← dJ h t,k,h']
theorem zz :
 (∀{ρ:Nat→Int} (c:SB) (a b:T Lf),dY ρ (sp c a b)=if c.den ρ=true then dY ρ a else dY ρ b)∧
 (∀{ρ:Nat→Int} (l:List SE),dY ρ (ou l)= .out (l.map (SE.den ρ)))∧
 (∀{ρ:Nat→Int} (j:Nat) (l:List SE),dY ρ (ju j l)= .jump j (l.map (SE.den ρ)))∧
 (∀{ρ:Nat→Int},dY ρ fl= .no)∧
 (∀{ρ:Nat→Int} (a b:SE),((SB.lt a b).den ρ=true)=(a.den ρ < b.den ρ))∧
 (∀{ρ:Nat→Int} (a b:SE),((SB.eq a b).den ρ=true)=(a.den ρ=b.den ρ))∧
 (∀(F:sZ) (lo:Nat→Int),(SE.aP 0).den (bQ F lo)=lo 0)∧
 (∀(F:sZ) (lo:Nat→Int),(SE.aP 1).den (bQ F lo)=lo 1)∧
 (∀(F:sZ) (lo:Nat→Int),(SE.aP 2).den (bQ F lo)=lo 2)∧
 (∀(F:sZ) (lo:Nat→Int),(SE.aP 3).den (bQ F lo)=lo 3)∧
 (∀(F:sZ) (lo:Nat→Int),(SE.aP 4).den (bQ F lo)=lo 4)∧
 (∀(F:sZ) (lo:Nat→Int),(SE.aP 5).den (bQ F lo)=lo 5)∧
 (∀(F:sZ) (lo:Nat→Int),(SE.aP 6).den (bQ F lo)=lo 6)∧
 (∀(F:sZ) (lo:Nat→Int),(SE.aP 7).den (bQ F lo)=lo 7)∧
 (∀(F:sZ) (lo:Nat→Int),(SE.aP 8).den (bQ F lo)=lo 8)∧
 (∀(F:sZ) (lo:Nat→Int),(SE.aP 9).den (bQ F lo)=lo 9)∧
 (∀(F:sZ) (lo:Nat→Int),(SE.aP 10).den (bQ F lo)=lo 10)∧
 (∀(F:sZ) (lo:Nat→Int),(SE.aP 11).den (bQ F lo)=lo 11)∧
 (∀(F:sZ) (lo:Nat→Int),(SE.aP 12).den (bQ F lo)=lo 12)∧
 (∀(F:sZ) (lo:Nat→Int),(SE.aP 13).den (bQ F lo)=lo 13)∧
 (∀(F:sZ) (lo:Nat→Int),(SE.aP 14).den (bQ F lo)=lo 14)∧
 (∀(F:sZ) (lo:Nat→Int),(SE.aP 15).den (bQ F lo)=lo 15)∧
 (∀(F:sZ) (lo:Nat→Int),(SE.aP 16).den (bQ F lo)=lo 16)∧
 (∀(F:sZ) (lo:Nat→Int),(SE.aP 17).den (bQ F lo)=lo 17)∧
 (∀(F:sZ) (lo:Nat→Int),(SE.aP 18).den (bQ F lo)=lo 18)∧
 (∀(F:sZ) (lo:Nat→Int),(SE.aP 19).den (bQ F lo)=lo 19)∧
 (∀(F:sZ) (lo:Nat→Int),(SE.aP 20).den (bQ F lo)=lo 20)∧
 (∀(F:sZ) (lo:Nat→Int),(SE.aP 21).den (bQ F lo)=lo 21)∧
 (∀(F:sZ) (lo:Nat→Int),(SE.aP 22).den (bQ F lo)=lo 22)∧
 (∀(F:sZ) (lo:Nat→Int),(SE.aP 23).den (bQ F lo)=lo 23)∧
 (∀(F:sZ) (lo:Nat→Int),(SE.aP 24).den (bQ F lo)=lo 24)∧
 (∀(F:sZ) (lo:Nat→Int),(SE.aP 25).den (bQ F lo)=lo 25)∧
 (∀{ρ:Nat→Int} (n:Int),(SE.lit n).den ρ=n)∧
 (∀{ρ:Nat→Int} (d:D),(SE.dat d).den ρ=enc d)∧
 (∀{ρ:Nat→Int} (a:SE),(ln a).den ρ=((dec (a.den ρ)).l.length:Int))∧
 (∀{ρ:Nat→Int} (a:SE),(nm a).den ρ=(dec (a.den ρ)).n)∧
 (∀{ρ:Nat→Int} (j:Nat) (a:SE),(ce j a).den ρ=enc ((dec (a.den ρ)).hd j))∧
 (∀{ρ:Nat→Int} (a b:SE),(el a b).den ρ=enc ((dec (a.den ρ)).at (b.den ρ)))∧
 (∀{ρ:Nat→Int} (a b:SE),(cn a b).den ρ=enc (.p (dec (a.den ρ)) (dec (b.den ρ))))∧
 (∀{ρ:Nat→Int} (a:SE),(mk a).den ρ=enc (.i (a.den ρ)))∧
 (∀{ρ:Nat→Int} (a:SE),(wr a).den ρ=IntKind.i64.wrap (a.den ρ))∧
 (∀{ρ:Nat→Int} (a b:SE),(SE.add a b).den ρ=a.den ρ+b.den ρ)∧
 (∀{ρ:Nat→Int} (a b:SE),(SE.sub a b).den ρ=a.den ρ - b.den ρ)∧
 (∀{ρ:Nat→Int} (o:iJ) (a b:SE),(SE.op o a b).den ρ=o.den (a.den ρ) (b.den ρ))∧
 (∀{F:sZ} {lo:Nat→Int} (j:Nat) (l:List SE),(a0 j l).den (bQ F lo)=if (F j (l.map (SE.den (bQ F lo)))).isSome=true then 1 else 0)∧
 (∀{F:sZ} {lo:Nat→Int} (j:Nat) (l:List SE) (i:Nat),(rr j l i).den (bQ F lo)=low ((F j (l.map (SE.den (bQ F lo)))).getD []) i)∧
 (∀{x:Int} {xs:List Int},low (x :: xs) 0=x)∧
 (∀{x:Int} {xs:List Int} {i:Nat},low (x :: xs) (i+1)=low xs i)∧
 (∀{f:SE→Int},List.map f []= [])∧
 (∀{f:SE→Int} {a:SE} {l:List SE},List.map f (a :: l)=f a :: List.map f l)∧
 (∀d:D,dec (enc d)=d)∧
 (∀n:Int,(D.i n).n=n)∧
 (∀{α:Type} (a:α),(some a).isSome=true)∧
 (∀{α:Type} (a b:α),(some a).getD b=a)∧
 (∀{α:Type} {_:Decidable True} (a b:α),ite True a b=a)∧
 (∀{α:Type} {_:Decidable False} (a b:α),ite False a b=b)∧
 (∀{ρ:Nat→Int},zY ρ []=True)∧
 (∀{ρ:Nat→Int} (c:SB) (l:List SB),zY ρ (c :: l)=(c.den ρ=true∧zY ρ l))∧
 (∀{ρ:Nat→Int},zW ρ []=True)∧
 (∀{ρ:Nat→Int} (c:SB) (l:List SB),zW ρ (c :: l)=(¬c.den ρ=true∧zW ρ l))∧
 (∀x y:Int,iJ.den .len x y=((dec x).l.length:Int))∧
 (∀x y:Int,iJ.den .at x y=enc ((dec x).at y))∧
 (∀(x y:Int) (j:Nat),iJ.den (.cell j) x y=enc ((dec x).hd j))∧
 (∀x y:Int,iJ.den .num x y=(dec x).n)∧
 (∀x y:Int,iJ.den .mk x y=enc (.i x))∧
 (∀x y:Int,iJ.den .cons x y=enc (.p (dec x) (dec y)))∧
 (∀x y:Int,iJ.den .snoc x y=enc (dL ((dec x).l++ [dec y])))∧
 (∀x y:Int,iJ.den .cat x y=enc (dL ((dec x).l++(dec y).l)))∧
 (∀x y:Int,iJ.den .take x y=enc (fV (dec x) ((dec x).l.take y.toNat)))∧
 (∀x y:Int,iJ.den .drop x y=enc (fV (dec x) ((dec x).l.drop y.toNat)))∧
 (∀(x:Int) (q v:D),iJ.den .set x (enc (.p q v))=enc (dL (fD (dec x).l q.n v)))∧
 (∀x y:Int,iJ.den .bit x y=enc (.i (if (dec x).n=0 then 0 else 1)))∧
 (∀x y:Int,iJ.den .norm x y=enc (dec x))∧
 (∀x y:Int,iJ.den .JR x y=if (oC (dec x).l (dec y)).isSome then 1 else 0)∧
 (∀x y:Int,iJ.den .JU x y=enc ((oC (dec x).l (dec y)).getD (.i 0)))∧
 (∀(x:Int) (k v:D),iJ.den .DK x (enc (.p k v))=enc (dL (Bv (dec x).l k v)))∧
 (∀x y:Int,iJ.den .rep x y=enc (dL (List.replicate x.toNat (dec y))))∧
 (∀(x:Int) (q v:D),iJ.den .fill x (enc (.p q v))=enc (dL ((dec x).l.take q.n.toNat++List.replicate ((dec x).l.length - q.n.toNat) v)))∧
 (∀x y:Int,iJ.den .sub x y=enc (dL (((dec x).l.take ((dec y).hd 1).n.toNat).drop ((dec y).hd 0).n.toNat)))∧
 (∀x y:Int,iJ.den .idx x y=OA (dec x).l y)∧
 (∀x y:Int,iJ.den .cnt x y=aqZ (dec x).l y)∧
 (∀x y:Int,iJ.den .con x y=if agZ (dec x).l (dec y).l then 1 else 0)∧
 (∀x y:Int,iJ.den .slt x y=if Xx (dec x).l (dec y).l then 1 else 0)∧
 (∀x y:Int,iJ.den .Y9 x y=enc (dL (Un (dec x).l (dec y))))∧
 (∀p:Prop,(p∧True)=p)∧(∀p:Prop,(True∧p)=p)∧(¬False)=True:=
 ⟨dQ,jT,oJ,yR,oV,iL,fun _ _=>aW (by decide),fun _ _=>aW (by decide),fun _ _=>aW (by decide),fun _ _=>aW (by decide),fun _ _=>aW (by decide),fun _ _=>aW (by decide),fun _ _=>aW (by decide),fun _ _=>aW (by decide),fun _ _=>aW (by decide),fun _ _=>aW (by decide),fun _ _=>aW (by decide),fun _ _=>aW (by decide),fun _ _=>aW (by decide),fun _ _=>aW (by decide),fun _ _=>aW (by decide),fun _ _=>aW (by decide),fun _ _=>aW (by decide),fun _ _=>aW (by decide),fun _ _=>aW (by decide),fun _ _=>aW (by decide),fun _ _=>aW (by decide),fun _ _=>aW (by decide),fun _ _=>aW (by decide),fun _ _=>aW (by decide),fun _ _=>aW (by decide),fun _ _=>aW (by decide),bP,iP,gZ,II,aqQ,IJ,Ot,Oq,BP,den_add,awZ,Oo,iI,gQ,aO _,aQ _ _,rfl,rfl,aF,n_i,fun _=>rfl,fun _ _=>rfl,fun _ _=>if_pos trivial,fun _ _=>if_neg id,rfl,fun _ _=>rfl,rfl,fun _ _=>rfl,fun _ _=>rfl,fun _ _=>rfl,fun _ _ _=>rfl,fun _ _=>rfl,fun _ _=>rfl,fun _ _=>rfl,fun _ _=>rfl,fun _ _=>rfl,fun _ _=>rfl,fun _ _=>rfl,fun _ _ _=>by show (match dec (enc _) with | .p q v=>_ | _=>_)=_; rw [aF],fun _ _=>rfl,fun _ _=>rfl,fun _ _=>rfl,fun _ _=>rfl,fun _ _ _=>by show (match dec (enc _) with | .p q v=>_ | _=>_)=_; rw [aF],fun _ _=>rfl,fun _ _ _=>by show (match dec (enc _) with | .p q v=>_ | _=>_)=_; rw [aF],fun _ _=>rfl,fun _ _=>rfl,fun _ _=>rfl,fun _ _=>rfl,fun _ _=>rfl,fun _ _=>rfl,and_true,true_and,not_false_eq_true⟩
theorem zg:(∀(l:List D) (j:Nat),(dL l).hd j=(l[j]?).getD (.i 0))∧(∀(a:D) (l:List D),(a :: l)[0]?=some a)∧(∀(a:D) (l:List D) (i:Nat),(a :: l)[i+1]?=l[i]?):=⟨eG,fun _ _=>rfl,fun _ _ _=>rfl⟩
end Go.As
end
section
namespace Go.As.Try
open Go hiding Stat Spec shape
open Go.As
set_option maxRecDepth 100000
def Ends (p:List Int→Prop) (R:RS):Prop:= ∃ys,fin L R=some ys∧p ys
def Tot (j:Nat) (xs:List Int) (p:List Int→Prop):Prop:= ∃ys,L j xs=some ys∧p ys
theorem Tot.of {j:Nat} {xs:List Int} {p:List Int→Prop} (h:Ends p (dY (bQ L (low xs)) (S.tree j))):Tot j xs p:=by
 obtain⟨ys,h1,h2⟩:=h
 exact⟨ys,by rw [aT]; exact h1,h2⟩
theorem Ends.ite {p:List Int→Prop} {c:Prop} [Decidable c] {a b:RS} (h1:c→Ends p a) (h2: ¬c→Ends p b):Ends p (if c then a else b):=by
 by_cases h:c
 ·rw [if_pos h]; exact h1 h
 ·rw [if_neg h]; exact h2 h
theorem Ends.out {p:List Int→Prop} {ys:List Int} (h:p ys):Ends p (.out ys):=⟨ys,rfl,h⟩
theorem Ends.jump {p:List Int→Prop} {j:Nat} {xs:List Int} (h:Tot j xs p):Ends p (.jump j xs):=h
def EH (ys:List Int):Prop:= ∃c:Int,ys= [c]∧(c=0∨c=1)
def is3 (ys:List Int):Prop:= ∃a b c:Int,ys= [a,b,c]∧(c=0∨c=1)
theorem zG:EH [0]:=⟨0,rfl,.inl rfl⟩
theorem zF:EH [1]:=⟨1,rfl,.inr rfl⟩
theorem WI {a b:Int}:is3 [a,b,0]:=⟨a,b,0,rfl,.inl rfl⟩
theorem ayQ {a b:Int}:is3 [a,b,1]:=⟨a,b,1,rfl,.inr rfl⟩
def mW (x:D):D:=dL [.i (-1),.i (if (x.hd 0).n=3∨(x.hd 0).n=9 then (x.hd 2).n else 0),.i 0,.i 0,.i 1,.i 1]
theorem OO (d0:D) (hlen:d0.l.length≤64): ∀(k i:Nat) (acc:List D),i+k=d0.l.length→acc.length=i→
 L 302 [enc (dL acc),enc d0,(d0.l.length:Int),(i:Int)]=some [enc (dL (acc++(d0.l.drop i).map mW))]
 | 0,i,acc,h1,h2=>by
   rw [aT,e302]
   simp only [atF,dQ,jT,oV,aW,aO,aQ,Nat.reduceLT,fin,List.map]
   rw [if_neg (by omega)]
   simp only [fin,aW,aO,Nat.reduceLT]
   rw [List.drop_of_length_le (by omega)]
   simp
 | k+1,i,acc,h1,h2=>by
   have hi:i < d0.l.length:=by omega
   have hd:d0.l.drop i=d0.l[i] :: d0.l.drop (i+1):=List.drop_eq_getElem_cons hi
   have ih:=fun x=>OO d0 hlen k (i+1) (acc++ [x]) (by omega) (by simp [h2])
   rw [aT,e302,hd]
   simp only [atF,dQ,jT,oJ,yR,oV,iL,aW,gZ,bP,II,aqQ,IJ,Oo,Ot,Oq,iP,BP,den_add,aO,aQ,Nat.reduceLT,List.map,aF,aX,aY hi]
   have w:=bC (n:=i) (by omega)
   have c1:(i:Int) < (d0.l.length:Int):=by omega
   have c2: ¬((i:Int) < 0):=by omega
   have c3:(acc.length:Int) < 1759218604440:=by omega
   simp only [c1,c2,c3,w,if_true,if_false,fin,iJ.den,aF,aX]
   by_cases h3:(d0.l[i].hd 0).n=3
   ·simp only [h3,if_true,fin]
    have:=ih (mW d0.l[i])
    simp only [mW,h3,true_or,if_true,dL] at this ⊢
    rw [this]
    simp
   ·by_cases h9:(d0.l[i].hd 0).n=9
    ·simp only [if_neg h3,if_pos h9,fin]
     have:=ih (mW d0.l[i])
     simp only [mW,if_pos (Or.inr h9:(d0.l[i].hd 0).n=3∨(d0.l[i].hd 0).n=9),dL] at this ⊢
     rw [this]
     simp
    ·simp only [if_neg h3,if_neg h9,fin]
     have:=ih (mW d0.l[i])
     simp only [mW,h3,h9,or_self,if_false,dL] at this ⊢
     rw [this]
     simp
end Go.As.Try
end
section
namespace Go.As.Try
open Go hiding Stat Spec shape
open Go.As
set_option maxRecDepth 100000
def Bs (d:D):Prop:=d=dL d.l∧∀(i:Nat) (h:i < d.l.length),0≤(d.l[i]).n∧(d.l[i]).n < 256
theorem aCJ (s:ByteArray):Bs (Ag s):=by
 unfold Ag vM
 refine⟨by rw [aX],fun i h=>?_⟩
 simp only [aX,List.length_map,List.getElem_map,D.n] at h ⊢
 have:=(s.data.toList[i]).toNat_lt
 omega
theorem Jp (d:D) (hb:Bs d) (hlen:d.l.length≤1000000): ∀(k i:Nat) (n:Int),i+k=d.l.length→∃a b,L 1102 [n,enc d,(d.l.length:Int),(i:Int)]=some [a,b]
 | 0,i,n,h1=>by
   rw [aT,aqN]
   simp only [abQ,dQ,jT,oV,aW,aO,aQ,Nat.reduceLT,List.map,bP]
   rw [if_neg (by omega)]
   exact⟨_,_,rfl⟩
 | k+1,i,n,h1=>by
   have hi:i < d.l.length:=by omega
   have ih:=fun x=>Jp d hb hlen k (i+1) x (by omega)
   rw [aT,aqN]
   have w:=bC (n:=i) (by omega)
   have c1:(i:Int) < (d.l.length:Int):=by omega
   have c2: ¬((i:Int) < 0):=by omega
   simp only [abQ,dQ,jT,oJ,yR,oV,aW,aO,aQ,Nat.reduceLT,List.map,bP,gZ,aF,c1,c2,if_true,if_false,BP,den_add,w]
   split
   ·exact⟨_,_,rfl⟩
   ·exact ih _
theorem Y6 (d:D) (hb:Bs d) (hlen:d.l.length≤1000000): ∃a b,L 1100 [enc d]=some [a,b]:=by
 rw [aT,aAn]
 simp only [ajX,dQ,oJ,iL,aW,aO,aQ,Nat.reduceLT,List.map,bP,gZ,aF]
 split
 ·show ∃a b,L 1101 []=some [a,b]
  rw [aT,aAm]
  exact⟨_,_,rfl⟩
 ·exact Jp d hb hlen d.l.length 0 _ (by omega)
theorem Sm (z:Int): ∀(l:List D) (i:Nat),wH z l (i:Int)= -1∨((i:Int)≤wH z l i∧wH z l i < (i:Int)+l.length)
 | [],i=> .inl rfl
 | d :: l,i=>by
   have ih:=Sm z l (i+1)
   have hc:((i+1:Nat):Int)=(i:Int)+1:=by omega
   rw [hc] at ih
   have hl:((d :: l).length:Int)=(l.length:Int)+1:=by simp
   cases d with
   | i n=>
     simp only [wH]
     split
     ·right; omega
     ·rcases ih with h | ⟨h1,h2⟩
      ·left; exact h
      ·right; omega
   | p a b=>
     simp only [wH]
     rcases ih with h | ⟨h1,h2⟩
     ·left; exact h
     ·right; omega
theorem aqY {z:Int} {d:D} {l:List D} (h:d≠.i z) (h0: ¬OA (d :: l) z < 0):1≤OA (d :: l) z∧OA (d :: l) z < (l.length:Int)+1:=by
 have h1:=Sm z l 1
 have key:OA (d :: l) z=wH z l ((1:Nat):Int):=by
  unfold OA
  cases d with
  | i n=>
    simp only [wH]
    rw [if_neg (by intro q; exact h (by rw [q]))]
    rfl
  | p a b=>rfl
 rw [key] at h0 ⊢
 omega
theorem aER:(b0.at 10).n=1:=by
 show (b0.at ((10:Nat):Int)).n=1
 kernel_rfl
theorem Cb (d:D) (hb:Bs d) (hlen:d.l.length≤1000000) (x1:Int): ∀(k i:Nat),d.l.length - i≤k→i≤d.l.length→∃p:Nat,p≤d.l.length∧L 12801 [enc d,x1,(i:Int)]=some [0,enc d,x1,(p:Int)]
 | k,i,h1,h2=>by
   rw [aT,apV]
   have c2: ¬((i:Int) < 0):=by omega
   by_cases hi:i < d.l.length
   ·have c1:(i:Int) < (d.l.length:Int):=by omega
    have w:=bC (n:=i) (by omega)
    obtain⟨b1,b2⟩:=hb.2 i hi
    have b1: ¬(d.l[i]).n < 0:=by omega
    obtain⟨k,rfl⟩ : ∃k',k=k'+1:=⟨k - 1,by omega⟩
    have hdr:(d.l.take d.l.length).drop i=d.l[i] :: d.l.drop (i+1):=by rw [List.take_length,List.drop_eq_getElem_cons hi]
    simp only [TA,dQ,jT,oJ,yR,oV,iL,aW,aO,aQ,Nat.reduceLT,List.map,bP,iP,gZ,aF,c1,c2,if_true,if_false,BP,den_add,w,II,IJ,aY hi,b1,b2]
    by_cases q1:(b0.at (d.l[i]).n).n=1
    ·simp only [q1,if_true]
     exact Cb d hb hlen x1 k (i+1) (by omega) (by omega)
    ·by_cases q2:(b0.at (d.l[i]).n).n=2
     ·simp only [if_neg q1,if_pos q2]
      have hne:d.l[i]≠.i 10:=by
       intro h
       rw [h] at q1
       exact q1 aER
      simp only [Int.lt_irrefl,if_false,Oo,iJ.den,Ot,Oq,iP,gZ,aW,bP,aO,aQ,Nat.reduceLT,aF,D.hd,l_p,yB,n_i,List.getElem?_cons_zero,List.getElem?_cons_succ,Option.getD_some,Int.toNat_natCast,aX,hdr]
      split
      ·exact⟨d.l.length,Nat.le_refl _,by simp [fin]⟩
      ·rename_i h0
       obtain⟨g1,g2⟩:=aqY hne h0
       rw [List.length_drop] at g2
       obtain⟨m,hm⟩ : ∃m:Nat,OA (d.l[i] :: d.l.drop (i+1)) 10=(m:Int):=⟨(OA (d.l[i] :: d.l.drop (i+1)) 10).toNat,by omega⟩
       have w2:IntKind.i64.wrap ((i:Int)+(m:Int))=((i+m:Nat):Int):=by rw [lT (by omega) (by omega)]; omega
       simp only [hm,w2,fin]
       exact Cb d hb hlen x1 k (i+m) (by omega) (by omega)
     ·simp only [if_neg q1,if_neg q2]
      exact⟨i,by omega,rfl⟩
   ·have c1: ¬(i:Int) < (d.l.length:Int):=by omega
    simp only [TA,dQ,jT,oV,aW,aO,aQ,Nat.reduceLT,List.map,bP,gZ,aF,c1,if_false]
    exact⟨i,by omega,rfl⟩
theorem aaB (d:D) (hb:Bs d) (hlen:d.l.length≤1000000) (i:Nat) (hi:i≤d.l.length): ∃p:Nat,p≤d.l.length∧L 12800 [enc d,(i:Int)]=some [0,enc d,(i:Int),(p:Int)]:=by
 rw [aT,apW]
 simp only [Yy,oJ,aW,aO,aQ,Nat.reduceLT,List.map]
 exact Cb d hb hlen _ _ i (Nat.le_refl _) hi
theorem RZ (d:D) (hb:Bs d) (hlen:d.l.length≤1000000) (x1 x2:Int): ∀(k i:Nat),d.l.length - i≤k→i≤d.l.length→∃p:Nat,i≤p∧p≤d.l.length∧L 12851 [enc d,x1,x2,(i:Int)]=some [0,enc d,x1,(p:Int)]
 | k,i,h1,h2=>by
   rw [aT,apT]
   have c2: ¬((i:Int) < 0):=by omega
   by_cases hi:i < d.l.length
   ·have c1:(i:Int) < (d.l.length:Int):=by omega
    have w:=bC (n:=i) (by omega)
    obtain⟨b1,b2⟩:=hb.2 i hi
    have b1: ¬(d.l[i]).n < 0:=by omega
    obtain⟨k,rfl⟩ : ∃k',k=k'+1:=⟨k - 1,by omega⟩
    have ih: ∃p:Nat,i≤p∧p≤d.l.length∧L 12851 [enc d,x1,x2,((i+1:Nat):Int)]=some [0,enc d,x1,(p:Int)]:=by
     obtain⟨p,q1,q2,q3⟩:=RZ d hb hlen x1 x2 k (i+1) (by omega) (by omega)
     exact⟨p,by omega,q2,q3⟩
    simp only [Tz,dQ,jT,oJ,yR,oV,iL,aW,aO,aQ,Nat.reduceLT,List.map,bP,iP,gZ,aF,c1,c2,if_true,if_false,BP,den_add,w,II,IJ,aY hi,b1,b2]
    split
    ·exact ih
    ·split
     ·split
      ·exact ih
      ·exact⟨i,by omega,by omega,rfl⟩
     ·exact⟨i,by omega,by omega,rfl⟩
   ·have c1: ¬(i:Int) < (d.l.length:Int):=by omega
    simp only [Tz,dQ,jT,oV,aW,aO,aQ,Nat.reduceLT,List.map,bP,gZ,aF,c1,if_false]
    exact⟨i,by omega,by omega,rfl⟩
theorem acK {l:List D} {a b:D} (h:enc (dL l)=enc (.p a (.p b (.i 0)))):l.length=2:=by
 have:=congrArg (fun d=>d.l.length) (kJ h)
 simpa [D.l] using this
theorem anV (d:D) (hb:Bs d) (hlen:d.l.length≤1000000) (i:Nat) (hi:i < d.l.length): ∃p:Nat,i < p∧p≤d.l.length∧L 12850 [enc d,(i:Int)]=some [0,enc d,(i:Int),(p:Int)]:=by
 have c2: ¬((i:Int) < 0):=by omega
 have c1:(i:Int) < (d.l.length:Int):=by omega
 have w:=bC (n:=i) (by omega)
 have w1:=bC (n:=i+1) (by omega)
 have w2:IntKind.i64.wrap ((i:Int)+2)=((i+2:Nat):Int):=by rw [lT (by omega) (by omega)]; omega
 obtain⟨b1,b2⟩:=hb.2 i hi
 have b1: ¬(d.l[i]).n < 0:=by omega
 have c3: ¬(((i+2:Nat):Int) < (i:Int)):=by omega
 rw [aT,apU]
 simp only [Yx,dQ,jT,oJ,yR,oV,iL,aW,aO,aQ,Nat.reduceLT,List.map,bP,gZ,aF,c1,c2,c3,if_true,if_false,BP,den_add,w,w1,w2,II,IJ,aY hi,b1,b2,Int.lt_irrefl,Oo,iJ.den,Ot,Oq,iP,D.hd,l_p,yB,n_i,List.getElem?_cons_zero,List.getElem?_cons_succ,Option.getD_some,Int.toNat_natCast]
 split
 ·split
  ·rename_i h5
   split
   ·rename_i h6
    have:=acK h6
    simp only [List.length_drop,List.length_take] at this
    omega
   ·split
    ·rename_i h6
     have:=acK h6
     simp only [List.length_drop,List.length_take] at this
     omega
    ·exact⟨i+1,by omega,by omega,rfl⟩
  ·rename_i h5
   split
   ·exact⟨i+1+1,by omega,by omega,rfl⟩
   ·split
    ·exact⟨i+1+1,by omega,by omega,rfl⟩
    ·exact⟨i+1,by omega,by omega,rfl⟩
 ·obtain⟨p,q1,q2,q3⟩:=RZ d hb hlen (i:Int) ((b0.at (d.l[i]).n).n) _ (i+1) (Nat.le_refl _) (by omega)
  exact⟨p,by omega,q2,q3⟩
theorem axD {d:D} (hb:Bs d) (a b:Nat):Bs (dL ((d.l.take b).drop a)):=by
 refine⟨by rw [aX],fun i h=>?_⟩
 simp only [aX] at h ⊢
 have hl:i < d.l.length - a:=by
  simp only [List.length_drop,List.length_take] at h
  omega
 have:((d.l.take b).drop a)[i]=d.l[a+i]:=by simp
 rw [this]
 exact hb.2 _ _
theorem alP (d:D) (hb:Bs d): ∃k s n ln a e er el',L 1050 [enc d,0]=some [k,s,n,ln,a,e,er,el']:=by
 rw [aT,aAo]
 by_cases hg:(16384:Int) < (d.l.length:Int)
 ·simp only [VU,dQ,jT,oV,aW,aO,aQ,Nat.reduceLT,List.map,bP,gZ,aF,hg,if_true]
  exact⟨_,_,_,_,_,_,_,_,rfl⟩
 ·obtain⟨p,hp,hB⟩:=aaB d hb (by omega) 0 (by omega)
  have hB':L 12800 [enc d,0]=some [0,enc d,0,(p:Int)]:=hB
  have c0: ¬((0:Int) < 0):=by omega
  have c1: ¬((d.l.length:Int) < 0):=by omega
  have c2: ¬((p:Int) < 0):=by omega
  have c3: ¬((d.l.length:Int) < (p:Int)):=by omega
  by_cases he:(p:Int)=(d.l.length:Int)
  ·simp only [VU,dQ,jT,yR,oV,iL,aW,aO,aQ,Nat.reduceLT,List.map,bP,gZ,aF,hg,if_false,c0,c1,iI,gQ,hB',Option.isSome_some,if_true,Option.getD_some,c2,c3,he,Int.lt_irrefl,fin]
   exact⟨_,_,_,_,_,_,_,_,rfl⟩
  ·obtain⟨e,h1,h2,hE⟩:=anV d hb (by omega) p (by omega)
   have c4: ¬((e:Int) < (p:Int)):=by omega
   have c5: ¬((d.l.length:Int) < (e:Int)):=by omega
   have hpart:=axD hb p e
   have hpl:((d.l.take e).drop p).length=e - p:=by simp only [List.length_drop,List.length_take]; omega
   have hp0:0 < ((d.l.take e).drop p).length:=by omega
   obtain⟨na,nb,hN⟩:=Y6 _ hpart (by rw [aX]; omega)
   obtain⟨b1,b2⟩:=hpart.2 0 (by rw [aX]; exact hp0)
   generalize hq:(d.l.take e).drop p=q at *
   simp only [aX] at b1 b2
   have b1: ¬(q[0]).n < 0:=by omega
   have hat:(dL q).at 0=q[0]:=by
    have:=aY (d:=dL q) (i:=0) (by rw [aX]; exact hp0)
    simpa using this
   have c6:(0:Int) < (q.length:Int):=by omega
   have c7:(q.length:Int) < 1000000000:=by omega
   have c8:((([D.i 32]++q:List D).length:Nat):Int) < 1000000000:=by simp only [List.length_append,List.length_cons,List.length_nil]; omega
   simp only [VU,dQ,jT,yR,oV,iL,aW,aO,aQ,Nat.reduceLT,List.map,bP,gZ,aF,hg,if_false,c0,c1,iI,gQ,hB',hE,Option.isSome_some,if_true,Option.getD_some,c2,c3,c4,c5,if_neg he,Oo,iJ.den,Ot,Oq,iP,D.hd,l_p,yB,n_i,List.getElem?_cons_zero,List.getElem?_cons_succ,Int.toNat_natCast,hq,aX,c6,c7,c8,II,IJ,hat,b1,b2,hN]
   repeat' first | exact⟨_,_,_,_,_,_,_,_,rfl⟩ | split
theorem nD (d:D) (hb:Bs d): ∃b,(b=0∨b=1)∧L 1000 [enc d]=some [b]:=by
 obtain⟨k,s,n,ln',a,e,er,el',h⟩:=alP d hb
 rw [aT,aAp]
 simp only [ajY,dQ,jT,yR,iL,aW,aO,aQ,Nat.reduceLT,List.map,bP,iI,gQ,h,Option.isSome_some,if_true,Option.getD_some]
 split
 ·split
  ·split
   ·exact⟨1,.inr rfl,rfl⟩
   ·exact⟨0,.inl rfl,rfl⟩
  ·exact⟨0,.inl rfl,rfl⟩
 ·exact⟨0,.inl rfl,rfl⟩
end Go.As.Try
end
section
namespace Go.As.Try
open Go hiding Stat Spec shape
open Go.As
set_option maxRecDepth 100000
theorem aCZ {d:D} (h:Wd .str d):Bs d:=by
 obtain⟨s,rfl⟩:=h.s
 exact aCJ s
theorem Dp {kids:D} (h:Wd (.sl 6) kids) {i:Nat} (hi:i < kids.l.length): ∃k s n ks,kids.l[i]=dL [.i k,s,.i n,ks]∧iM .u8 k∧Wd .str s∧iM .i64 n∧Wd (.sl 6) ks:=by
 obtain⟨r,h1,hl,hc⟩:=h.elN (cs:=[.int .u8,.str,.int .i64,.sl 6]) rfl _ (List.getElem_mem hi)
 match r,hl with
 | [a,b,c,d],_=>
   obtain⟨k,rfl,hk⟩:=(hc 0 _ _ rfl rfl).i
   obtain⟨n,rfl,hn⟩:=(hc 2 _ _ rfl rfl).i
   exact⟨k,b,n,d,h1,hk,hc 1 _ _ rfl rfl,hn,hc 3 _ _ rfl rfl⟩
theorem aeO (d:D) (hb:Bs d): ∃b,(b=0∨b=1)∧L 12900 [enc d,0]=some [b,enc d,0]:=by
 obtain⟨b,hb1,h⟩:=nD d hb
 rw [aT,apS]
 simp only [Yw,zz,h]
 rcases hb1 with rfl | rfl
 ·exact⟨_,.inl rfl,rfl⟩
 ·exact⟨_,.inr rfl,rfl⟩
theorem P7: ∀(m deep:Nat),21 - deep≤m→∀(k n left loc:Int) (s kids:D),Wd .str s→Wd (.sl 6) kids→
 Tot 5050 [k,enc s,n,enc kids,(deep:Int),left,loc] is3
 | m,deep,hm,k,n,left,loc,s,kids,hs,hk=>by
   refine Tot.of ?_
   rw [azQ]
   simp only [ajD,zz]
   refine .ite (fun _=> .out WI) fun _=> .ite (fun _=> .out WI) fun hd=> .jump ?_
   obtain⟨m,rfl⟩ : ∃m',m=m'+1:=⟨m - 1,by omega⟩
   have ih:=P7 m (deep+1) (by omega)
   have hlen:=hk.len
   have w0:=bC (n:=deep) (by omega)
   have loop: ∀(j i:Nat) (l' c':Int),i+j=kids.l.length→Tot 5051 [(deep:Int),enc kids,(kids.l.length:Int),(i:Int),l',c',k,enc s,n] is3:=by
    intro j
    induction j with
    | zero=>
      intro i l' c' hi
      have c1: ¬(i:Int) < (kids.l.length:Int):=by omega
      obtain⟨b,hb,hR⟩:=aeO s (aCZ hs)
      refine Tot.of ?_
      rw [aoQ]
      simp only [abC,zz,c1,hR]
      rcases hb with rfl | rfl
      ·simp only [Int.reduceEq,if_true,if_false]
       repeat' first | exact .out WI | exact .out ayQ | refine .ite (fun _=>?_) (fun _=>?_)
      ·simp only [Int.reduceEq,if_true,if_false]
       repeat' first | exact .out WI | exact .out ayQ | refine .ite (fun _=>?_) (fun _=>?_)
    | succ j ih2=>
      intro i l' c' hi
      have hil:i < kids.l.length:=by omega
      have c1:(i:Int) < (kids.l.length:Int):=by omega
      have c2: ¬((i:Int) < 0):=by omega
      have w:=bC (n:=i) (by omega)
      obtain⟨k',s',n',ks',he,_,h1,_,h2⟩:=Dp hk hil
      obtain⟨ys,hR,a,b,c,rfl,hc⟩:=ih k' n' l' c' s' ks' h1 h2
      refine Tot.of ?_
      rw [aoQ]
      simp only [abC,zz,c1,c2,aY hil,he,zg,w0,w,hR]
      exact .ite (fun _=> .out WI) fun _=> .jump (ih2 (i+1) _ _ (by omega))
   exact loop kids.l.length 0 _ _ (by omega)
theorem aeT (k n loc:Int) (s kids:D) (hs:Wd .str s) (hk:Wd (.sl 6) kids):Tot 800 [k,enc s,n,enc kids,loc] EH:=by
 obtain⟨ys,hR,a,b,c,rfl,hc⟩:=P7 20 1 (by omega) k n 1000 loc s kids hs hk
 have hR':L 5050 [k,enc s,n,enc kids,1,1000,loc]=some [a,b,c]:=hR
 refine Tot.of ?_
 rw [aEG]
 simp only [aAR,zz,hR']
 exact .ite (fun _=> .out zG) fun _=> .out zF
end Go.As.Try
end
section
namespace Go.As.Try
open Go hiding Stat Spec shape
open Go.As
set_option maxRecDepth 100000
def ayO (a b c:Int) (ys:List Int):Prop:= ∃i:Int,ys= [a,b,c,i]
def aBo (a b c:Int) (ys:List Int):Prop:= ∃i:Int,ys= [a,b,c,i]∧(i=0∨i=1)
theorem Gm (kids loc:D) (nm' code:Int) (hk:Wd (.sl 6) kids): ∀(j i:Nat),i+j=kids.l.length→Tot 5401 [enc kids,(kids.l.length:Int),(i:Int),nm',enc loc,code] (ayO nm' (enc loc) code)
 | 0,i,hi=>by
   have c1: ¬(i:Int) < (kids.l.length:Int):=by omega
   refine Tot.of ?_
   rw [aoM]
   simp only [aaY,zz,c1]
   exact .out ⟨_,rfl⟩
 | j+1,i,hi=>by
   have hlen:=hk.len
   have hil:i < kids.l.length:=by omega
   have c1:(i:Int) < (kids.l.length:Int):=by omega
   have c2: ¬((i:Int) < 0):=by omega
   have w:=bC (n:=i) (by omega)
   obtain⟨k',s',n',ks',he,_,h1,_,h2⟩:=Dp hk hil
   obtain⟨ys,hR,b,rfl,hb⟩:=aeT k' n' (loc.l.length:Int) s' ks' h1 h2
   refine Tot.of ?_
   rw [aoM]
   simp only [aaY,zz,c1,c2,aY hil,he,zg,w,hR]
   exact .ite (fun _=> .out ⟨_,rfl⟩) fun _=> .jump (Gm kids loc nm' code hk j (i+1) (by omega))
theorem agM (kids loc:D) (nm' code:Int) (hk:Wd (.sl 6) kids):Tot 5000 [enc kids,nm',enc loc,code] (aBo nm' (enc loc) code):=by
 have h0:Tot 5400 [enc kids,nm',enc loc,code] (ayO nm' (enc loc) code):=by
  refine Tot.of ?_
  rw [azG]
  simp only [aiW,zz]
  exact .jump (Gm kids loc nm' code hk kids.l.length 0 (by omega))
 obtain⟨ys,hR,i,rfl⟩:=h0
 refine Tot.of ?_
 rw [azR]
 simp only [ajE,zz,hR]
 exact .ite (fun _=> .out ⟨_,rfl,.inl rfl⟩) fun _=> .out ⟨_,rfl,.inr rfl⟩
theorem Uh (o:Int):Tot 1200 [o] (fun ys=> ∃k,ys= [k]):=by
 refine Tot.of ?_
 rw [aAk]
 simp only [ajV,zz]
 repeat' first | exact .out ⟨_,rfl⟩ | refine .ite (fun _=>?_) (fun _=>?_)
theorem sV (o:Int):Tot 1250 [o] EH:=by
 refine Tot.of ?_
 rw [aAj]
 simp only [ajU,zz]
 repeat' first | exact .out zG | exact .out zF | refine .ite (fun _=>?_) (fun _=>?_)
theorem sJ (o:Int):Tot 1300 [o] EH:=by
 refine Tot.of ?_
 rw [aAi]
 simp only [ajT,zz]
 repeat' first | exact .out zG | exact .out zF | refine .ite (fun _=>?_) (fun _=>?_)
theorem XA (o:Int):Tot 1350 [o] EH:=by
 refine Tot.of ?_
 rw [aAh]
 simp only [ajS,zz]
 repeat' first | exact .out zG | exact .out zF | refine .ite (fun _=>?_) (fun _=>?_)
end Go.As.Try
end
section
namespace Go.As.Try
open Go hiding Stat Spec shape
open Go.As
set_option maxRecDepth 100000
def E1:D:=.p (.i 1) (.p (.i 0) (.p (.i 0) (.p (.i 1) (.i 0))))
theorem DT:Bs (.i 0):=⟨rfl,fun i h=>by simp [D.l] at h⟩
theorem DR {b:Int} (h1:0≤b) (h2:b < 256):Bs (.p (.i b) (.i 0)):=⟨rfl,fun i h=>by
 simp only [D.l,List.length_cons,List.length_nil] at h
 obtain rfl:i=0:=by omega
 exact⟨h1,h2⟩⟩
theorem iE (k n x5:Int) (s s':D) (hs:Bs s) (hs':Bs s'):Tot 1400 [k,enc s,n,enc s',x5] EH:=by
 obtain⟨b,hb,hR⟩:=nD s hs
 obtain⟨b',hb',hR'⟩:=nD s' hs'
 obtain⟨ys,hC,c,rfl,hc⟩:=XA k
 refine Tot.of ?_
 rw [aAg]
 simp only [ajR,zz,hR,hR',hC]
 repeat' first | exact .out zG | exact .out zF | refine .ite (fun _=>?_) (fun _=>?_)
theorem axH:L 1150 [1,enc (.i 0),0,enc (.i 1)]=some [1]:=by
 rw [aT,aAl]
 simp only [ajW,zz,yB,List.length_nil,Int.reduceLT,Int.reduceEq]
 rfl
theorem agN (a b:Int):L 5450 [enc (.i 1),a,b]=some [b]:=by
 rw [aT,azF]
 simp only [aiV,zz,yB,List.length_nil,fin]
 rw [aT,azE]
 simp only [aiU,zz]
 rfl
theorem Dn:L 5250 [enc (dL [E1]),2,1]=some [2,enc (dL [E1])]:=by
 have h1:=axH
 have h2:=agN 3 2
 have w1:IntKind.i64.wrap (1+1)=2:=lT (by omega) (by omega)
 have w2:IntKind.i64.wrap (2+1)=3:=lT (by omega) (by omega)
 have w3:IntKind.i64.wrap (0+1)=1:=lT (by omega) (by omega)
 have ha:(dL [E1]).at 0=E1:=rfl
 have g0:E1.hd 0= .i 1:=rfl
 have g1:E1.hd 1= .i 0:=rfl
 have g2:E1.hd 2= .i 0:=rfl
 have g3:E1.hd 3= .i 1:=rfl
 rw [aT,azJ]
 simp only [aiZ,zz,aX,List.length_cons,List.length_nil,Nat.zero_add,fin]
 rw [aT,aoP]
 simp only [abB,zz,aX,List.length_cons,List.length_nil,Nat.zero_add,ha,g0,g1,g2,g3,w1,w2,w3,h1,h2,Int.reduceLT,Int.reduceEq,fin,Int.natCast_one,Int.lt_irrefl]
 rw [aT,aoP]
 simp only [abB,zz,Int.lt_irrefl]
 rfl
theorem aeQ (k m:Int):L 5500 [enc (.i 1),k,m]=some [k,m,1]:=by
 rw [aT,azD]
 simp only [aiS,zz,yB,List.length_nil,fin]
 rw [aT,azC]
 simp only [aiR,zz]
 rfl
theorem aeP (a k m:Int):L 5600 [enc (.i 1),a,k,m]=some [a,k,m,1]:=by
 rw [aT,azB]
 simp only [aiQ,zz,yB,List.length_nil,fin]
 rw [aT,azA]
 simp only [aiP,zz]
 rfl
theorem aiF (k m:Int):L 5150 [k,m]=some [k,m,1]:=by
 rw [aT,azN]
 simp only [ajB,zz,fin]
 rw [aT,azM]
 rfl
theorem aiE (k m:Int):L 5200 [k,m]=some [1,k,m,1]:=by
 rw [aT,azL]
 simp only [ajA,zz,fin]
 rw [aT,azK]
 rfl
theorem KL (k m:Int):L 5100 [k,m]=some [m]:=by
 rw [aT,azP]
 simp only [ajC,zz,fin]
 rw [aT,azO]
 rfl
theorem oI (k m:Int):L 5300 [1,enc (dL [E1]),k,m]=some [enc (dL [E1]),k,m,1]:=by
 have h2:=aeQ k m
 have w3:IntKind.i64.wrap (0+1)=1:=lT (by omega) (by omega)
 have ha:(dL [E1]).at 0=E1:=rfl
 have g0:E1.hd 0= .i 1:=rfl
 have g1:E1.hd 1= .i 0:=rfl
 have g3:E1.hd 3= .i 1:=rfl
 rw [aT,azI]
 simp only [aiY,zz,fin]
 rw [aT,aoO]
 simp only [abA,zz,aX,List.length_cons,List.length_nil,Nat.zero_add,ha,g0,g1,g3,w3,h2,Int.reduceLT,Int.reduceEq,fin,Int.natCast_one,Int.lt_irrefl]
 rw [aT,aoO]
 simp only [abA,zz,Int.lt_irrefl]
 rfl
theorem Tn (k m:Int):L 5350 [1,enc (dL [E1]),k,m]=some [enc (dL [E1]),1,k,m,1]:=by
 have h2:=aeP 1 k m
 have w3:IntKind.i64.wrap (0+1)=1:=lT (by omega) (by omega)
 have ha:(dL [E1]).at 0=E1:=rfl
 have g0:E1.hd 0= .i 1:=rfl
 have g1:E1.hd 1= .i 0:=rfl
 have g3:E1.hd 3= .i 1:=rfl
 rw [aT,azH]
 simp only [aiX,zz,fin]
 rw [aT,aoN]
 simp only [aaZ,zz,aX,List.length_cons,List.length_nil,Nat.zero_add,ha,g0,g1,g3,w3,h2,Int.reduceLT,Int.reduceEq,fin,Int.natCast_one,Int.lt_irrefl]
 rw [aT,aoN]
 simp only [aaZ,zz,Int.lt_irrefl]
 rfl
def Zi (ys:List Int):Prop:= ∃b l,ys=b :: l∧(b=0∨b=1)
theorem acS {l:List Int}:Zi (0 :: l):=⟨0,l,rfl,.inl rfl⟩
theorem acR {l:List Int}:Zi (1 :: l):=⟨1,l,rfl,.inr rfl⟩
theorem Ub (a b c d e f g:Int):Tot 12400 [a,b,c,d,e,f,g] Zi:=by
 obtain⟨ys,h1,o,rfl,_⟩:=iE a b c _ _ (DR (b:=97) (by omega) (by omega)) DT
 obtain⟨ys,h2,q,rfl,_⟩:=sV e
 obtain⟨ys,h3,r,rfl,_⟩:=sJ e
 obtain⟨n,_,h4⟩:=nD _ DT
 refine Tot.of ?_
 rw [aqE]
 simp only [YC,zz,h1,h2,h3,h4,KL]
 repeat' first | exact .out acS | exact .out acR | refine .ite (fun _=>?_) (fun _=>?_)
theorem Ua (a b c d e f g:Int):Tot 12500 [a,b,c,d,e,f,g] Zi:=by
 obtain⟨ys,h1,o,rfl,_⟩:=iE a b c _ _ (DR (b:=97) (by omega) (by omega)) DT
 obtain⟨ys,h2,q,rfl,_⟩:=sV e
 obtain⟨ys,h3,r,rfl,_⟩:=sJ e
 obtain⟨n,_,h4⟩:=nD _ DT
 refine Tot.of ?_
 rw [aqC]
 simp only [YA,zz,h1,h2,h3,h4,KL]
 repeat' first | exact .out acS | exact .out acR | refine .ite (fun _=>?_) (fun _=>?_)
theorem akY (a b c d e f g h i:Int):Tot 12450 [a,b,c,d,e,f,g,h,i] Zi:=by
 obtain⟨ys,h0,o,rfl,_⟩:=iE 1 a b _ _ (DR (b:=98) (by omega) (by omega)) DT
 obtain⟨ys,h1,o',rfl,_⟩:=iE c d e _ _ (DR (b:=97) (by omega) (by omega)) (DR (b:=98) (by omega) (by omega))
 obtain⟨ys,h2,q,rfl,_⟩:=sV g
 obtain⟨ys,h3,r,rfl,_⟩:=sJ g
 obtain⟨n,_,h4⟩:=nD _ DT
 refine Tot.of ?_
 rw [aqD]
 simp only [YB,zz,h0,h1,h2,h3,h4,KL]
 repeat' first | exact .out acS | exact .out acR | refine .ite (fun _=>?_) (fun _=>?_)
theorem akX (a b c d e f g h i:Int):Tot 12550 [a,b,c,d,e,f,g,h,i] Zi:=by
 obtain⟨ys,h0,o,rfl,_⟩:=iE 1 a b _ _ (DR (b:=98) (by omega) (by omega)) DT
 obtain⟨ys,h1,o',rfl,_⟩:=iE c d e _ _ (DR (b:=97) (by omega) (by omega)) (DR (b:=98) (by omega) (by omega))
 obtain⟨ys,h2,q,rfl,_⟩:=sV g
 obtain⟨ys,h3,r,rfl,_⟩:=sJ g
 obtain⟨n,_,h4⟩:=nD _ DT
 refine Tot.of ?_
 rw [aqB]
 simp only [Yz,zz,h0,h1,h2,h3,h4,KL]
 repeat' first | exact .out acS | exact .out acR | refine .ite (fun _=>?_) (fun _=>?_)
def amI (m k:Nat) (ys:List Int):Prop:=(∃l,ys=0 :: l)∨(m=1∧low ys 0=1∧low ys k=1∧low ys (k+1)=enc (dL [E1]))
theorem Bz {m k:Nat} {l:List Int}:amI m k (0 :: l):=.inl ⟨l,rfl⟩
def wO (m:Nat):D:=dL (List.replicate m E1)
theorem xW (m:Nat):(wO m).l.length=m:=by unfold wO; rw [aX,List.length_replicate]
theorem Bl (m:Nat) (hm:1≤m) (a b c d e f g:Int):Tot 12600 [a,b,c,d,e,f,enc (wO m),g] (amI m 9):=by
 obtain⟨ys,h1,o,rfl,_⟩:=iE a b c _ _ (DR (b:=97) (by omega) (by omega)) DT
 obtain⟨ys,h2,q,rfl,hq⟩:=sV e
 obtain⟨ys,h3,r,rfl,_⟩:=sJ e
 obtain⟨n,_,h4⟩:=nD _ DT
 refine Tot.of ?_
 rw [aqA]
 by_cases h:m=1
 ·subst h
  have h5:=Dn
  simp only [TG,zz,h1,h2,h3,h4,wO,List.replicate,h5]
  repeat' first | exact .out Bz | exact .out (.inr ⟨rfl,rfl,rfl,rfl⟩) | refine .ite (fun _=>?_) (fun _=>?_)
 ·have c1: ¬((m:Int)=q):=by rcases hq with rfl | rfl <;> omega
  simp only [TG,zz,h1,h2,h3,h4,xW,c1]
  repeat' first | exact .out Bz | refine .ite (fun _=>?_) (fun _=>?_)
theorem Bj (m:Nat) (hm:1≤m) (a b c d e f g:Int):Tot 12700 [a,b,c,d,e,f,enc (wO m),g] (amI m 9):=by
 obtain⟨ys,h1,o,rfl,_⟩:=iE a b c _ _ (DR (b:=97) (by omega) (by omega)) DT
 obtain⟨ys,h2,q,rfl,hq⟩:=sV e
 obtain⟨ys,h3,r,rfl,_⟩:=sJ e
 obtain⟨n,_,h4⟩:=nD _ DT
 refine Tot.of ?_
 rw [apY]
 by_cases h:m=1
 ·subst h
  have h5:=Dn
  simp only [TD,zz,h1,h2,h3,h4,wO,List.replicate,h5]
  repeat' first | exact .out Bz | exact .out (.inr ⟨rfl,rfl,rfl,rfl⟩) | refine .ite (fun _=>?_) (fun _=>?_)
 ·have c1: ¬((m:Int)=q):=by rcases hq with rfl | rfl <;> omega
  simp only [TD,zz,h1,h2,h3,h4,xW,c1]
  repeat' first | exact .out Bz | refine .ite (fun _=>?_) (fun _=>?_)
theorem akW (m:Nat) (hm:1≤m) (a b c d e f g h' i:Int):Tot 12650 [a,b,c,d,e,f,g,h',enc (wO m),i] (amI m 11):=by
 obtain⟨ys,h0,o,rfl,_⟩:=iE 1 a b _ _ (DR (b:=98) (by omega) (by omega)) DT
 obtain⟨ys,h1,o',rfl,_⟩:=iE c d e _ _ (DR (b:=97) (by omega) (by omega)) (DR (b:=98) (by omega) (by omega))
 obtain⟨ys,h2,q,rfl,hq⟩:=sV g
 obtain⟨ys,h3,r,rfl,_⟩:=sJ g
 obtain⟨n,_,h4⟩:=nD _ DT
 refine Tot.of ?_
 rw [apZ]
 by_cases h:m=1
 ·subst h
  have h5:=Dn
  simp only [TF,zz,h0,h1,h2,h3,h4,wO,List.replicate,h5]
  repeat' first | exact .out Bz | exact .out (.inr ⟨rfl,rfl,rfl,rfl⟩) | refine .ite (fun _=>?_) (fun _=>?_)
 ·have c1: ¬((m:Int)=q):=by rcases hq with rfl | rfl <;> omega
  simp only [TF,zz,h0,h1,h2,h3,h4,xW,c1]
  repeat' first | exact .out Bz | refine .ite (fun _=>?_) (fun _=>?_)
theorem akV (m:Nat) (hm:1≤m) (a b c d e f g h' i:Int):Tot 12750 [a,b,c,d,e,f,g,h',enc (wO m),i] (amI m 11):=by
 obtain⟨ys,h0,o,rfl,_⟩:=iE 1 a b _ _ (DR (b:=98) (by omega) (by omega)) DT
 obtain⟨ys,h1,o',rfl,_⟩:=iE c d e _ _ (DR (b:=97) (by omega) (by omega)) (DR (b:=98) (by omega) (by omega))
 obtain⟨ys,h2,q,rfl,hq⟩:=sV g
 obtain⟨ys,h3,r,rfl,_⟩:=sJ g
 obtain⟨n,_,h4⟩:=nD _ DT
 refine Tot.of ?_
 rw [apX]
 by_cases h:m=1
 ·subst h
  have h5:=Dn
  simp only [TB,zz,h0,h1,h2,h3,h4,wO,List.replicate,h5]
  repeat' first | exact .out Bz | exact .out (.inr ⟨rfl,rfl,rfl,rfl⟩) | refine .ite (fun _=>?_) (fun _=>?_)
 ·have c1: ¬((m:Int)=q):=by rcases hq with rfl | rfl <;> omega
  simp only [TB,zz,h0,h1,h2,h3,h4,xW,c1]
  repeat' first | exact .out Bz | refine .ite (fun _=>?_) (fun _=>?_)
end Go.As.Try
end

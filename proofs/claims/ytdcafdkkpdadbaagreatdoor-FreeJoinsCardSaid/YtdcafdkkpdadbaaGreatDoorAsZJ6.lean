import Derived.KernelRfl
import Derived.Test.YtdcafdkkpdadbaaGreatDoorProg
import Derived.Shelf.Strings.Search3
import Derived.Shelf.LaysM
import Derived.Shelf.Strings.Shaped
import Derived.Test.YtdcafdkkpdadbaaGreatDoorAsZJ5
set_option linter.unusedSectionVars false
set_option linter.unusedVariables false
set_option linter.unusedSimpArgs false
section
namespace Go.As
open Go Go.RowKit
theorem add_add (a:Addr) (m n:Nat):(a.add m).add n=a.add (m+n):=by
 unfold Addr.add
 by_cases h1:m=0
 ·subst h1; simp
 ·by_cases h2:n=0
  ·subst h2; simp
  ·simp [h1,h2,Nat.add_assoc]
def nT (i:Nat):List CK:=match rowOf i with
 | .one c=>[c]
 | .many cs=>cs
def Nl (F:TypeId→Option (List CK)) (P:Program):List Field→Nat→Nat→Option (List CK)
 | [],o,tot=>if o=tot then some [] else none
 | f :: fs,o,tot=>match F f.type with
   | none=>none
   | some cs=>if f.offset=o∧P.cellsOf f.type=cs.length then (match Nl F P fs (o+cs.length) tot with
     | none=>none
     | some l=>some (cs++l)) else none
def xY (P:Program) (own:TypeId→Option Nat):Nat→TypeId→Option (List CK)
 | 0,_=>none
 | n+1,t=>match P.underlying t with
   | some .bool=>some [.bool]
   | some (.int k)=>some [.int k]
   | some .string=>some [.str]
   | some (.slice _)=>match own t with
     | some i=>some [.sl i]
     | none=>none
   | some (.struct fs)=>Nl (xY P own n) P fs.toList 0 (P.cellsOf t)
   | some (.array m e)=>match xY P own n e with
     | some cs=>if P.cellsOf e=cs.length∧P.cellsOf t=m*cs.length then some (List.replicate m cs).flatten else none
     | none=>none
   | _=>none
def aqL (P:Program) (own:TypeId→Option Nat):Prop:= ∀t i,own t=some i→∃e n,P.underlying t=some (.slice e)∧xY P own n e=some (nT i)∧P.cellsOf e=(nT i).length∧yD i≤P.bytesOf e∧0 < (nT i).length
inductive Rs (ro:Nat→Prop) (h:Array Obj):List CK→List D→List Value→Prop where
 | nil:Rs ro h [] [] []
 | cons {c:CK} {d:D} {v:Value} {cs:List CK} {ds:List D} {vs:List Value} (r:Rd ro h c d v) (w:Wd c d) (t:Rs ro h cs ds vs):Rs ro h (c :: cs) (d :: ds) (v :: vs)
section
variable {ro:Nat→Prop} {h:Array Obj}
theorem Rs.append {cs cs':List CK} {ds ds':List D} {vs vs':List Value} (a:Rs ro h cs ds vs) (b:Rs ro h cs' ds' vs'):Rs ro h (cs++cs') (ds++ds') (vs++vs'):=by
 induction a with
 | nil=>exact b
 | cons r w _ ih=>exact .cons r w ih
theorem Rs.len {cs:List CK} {ds:List D} {vs:List Value} (a:Rs ro h cs ds vs):ds.length=cs.length∧vs.length=cs.length:=by
 induction a with
 | nil=>exact⟨rfl,rfl⟩
 | cons r w _ ih=>exact⟨by simp [ih.1],by simp [ih.2]⟩
theorem Rs.at {cs:List CK} {ds:List D} {vs:List Value} (a:Rs ro h cs ds vs): ∀{j:Nat} {d:D} {c:CK},ds[j]?=some d→cs[j]?=some c→∃v,vs[j]?=some v∧Rd ro h c d v∧Wd c d:=by
 induction a with
 | nil=>intro j d c h1 _; simp at h1
 | cons r w _ ih=>
   intro j d c h1 h2
   cases j with
   | zero=>
     simp only [List.getElem?_cons_zero,Option.some.injEq] at h1 h2
     subst h1 h2
     exact⟨_,rfl,r,w⟩
   | succ j=>
     simp only [List.getElem?_cons_succ] at h1 h2
     obtain⟨v,h3,h4⟩:=ih h1 h2
     exact⟨v,by simpa using h3,h4⟩
end
theorem avM {l:List Nat} {m:Nat} (h:l.all (·≤m)=true): ∀x∈l,x≤m:=fun x hx=>by simpa using List.all_eq_true.1 h x hx
theorem Yv {l:List Nat} {m:Nat} (h: ∀x∈l,x≤m):l.all (·≤m)=true:=List.all_eq_true.2 fun x hx=>by simpa using h x hx
theorem avL {l l':List Nat} {m:Nat} (h:l.all (·≤m)=true) (s: ∀x∈l',x∈l):l'.all (·≤m)=true:=Yv fun x hx=>avM h x (s x hx)
theorem weightsAll_mem {H:Type} {P:Program} {e:TypeId}: ∀{l:List (DataW H)} {d:DataW H},d∈l→∀x∈d.weights P e,x∈DataW.weightsAll P e l
 | [],_,h,_,_=>by simp at h
 | d' :: l,d,h,x,hx=>by
   simp only [DataW.weightsAll,List.mem_append]
   rcases List.mem_cons.1 h with rfl | h
   ·exact .inl hx
   ·exact .inr (weightsAll_mem h x hx)
section
variable {P:Program} {own:TypeId→Option Nat} (ok:aqL P own) {H:Type} {en:TypeId×Value→H} {W:World}
abbrev Xx (W:World):Nat→Prop:=fun b=>b < W.heap.size
theorem adF {b o:Nat} {v:Value} (h:W.cell? ⟨b,o,none⟩ = some v):b < W.heap.size:=by
 rw [sK] at h
 unfold hcell at h
 split at h
 ·rename_i hb
  exact (Array.getElem?_eq_some_iff.1 hb).1
 ·simp at h
def Reads (P:Program) (own:TypeId→Option Nat) (en:TypeId×Value→H) (W:World) (fuel:Nat):Prop:=
 ∀(t:TypeId) (n:Nat) (OQ:List CK) (cs:List Value) (x:DataW H×List MemPlace),xY P own n t=some OQ→DataW.trod en P W 0 (fun _=>true) true fuel t cs=some x→(x.1.weights P t).all (·≤reachBytes)=true→∃ds,Rs (Xx W) W.heap OQ ds cs
theorem Jd {fuel:Nat} (ih:Reads P own en W fuel) {n:Nat} {cs:List Value} {tot:Nat} (hl:cs.length=tot): ∀(fs:List Field) (o:Nat) (OQ:List CK) (xs:List (DataW H×List MemPlace)),Nl (xY P own n) P fs o tot=some OQ→xs.length=fs.length→
 (∀(i:Nat) (f:Field),fs[i]?=some f→DataW.trod en P W 0 (fun _=>true) true fuel f.type ((cs.drop f.offset).take (P.cellsOf f.type))=xs[i]?)→
 (DataW.weightsEach P (fs.map (·.type)) (xs.map (·.1))).all (·≤reachBytes)=true→∃ds,Rs (Xx W) W.heap OQ ds (cs.drop o)
 | [],o,OQ,xs,hf,_,_,_=>by
   simp only [Nl] at hf
   split at hf
   ·rename_i ho
    simp only [Option.some.injEq] at hf
    subst hf
    rw [List.drop_of_length_le (by omega)]
    exact⟨[],.nil⟩
   ·simp at hf
 | f :: fs,o,OQ,[],_,hx,_,_=>by simp at hx
 | f :: fs,o,OQ,x :: xs,hf,hx,ht,hw=>by
   simp only [Nl] at hf
   split at hf
   ·simp at hf
   ·rename_i c1 h1
    split at hf
    ·rename_i ho
     split at hf
     ·simp at hf
     ·rename_i l hl2
      simp only [Option.some.injEq] at hf
      subst hf
      have h0:=ht 0 f rfl
      rw [ho.1,ho.2] at h0
      simp only [List.map_cons,DataW.weightsEach,List.all_append,Bool.and_eq_true] at hw
      obtain⟨ds,r1⟩:=ih f.type n c1 _ x h1 h0 hw.1
      obtain⟨ds',r2⟩:=Jd ih hl fs (o+c1.length) l xs hl2 (by simpa using hx) (fun i g hg=>ht (i+1) g (by simpa using hg)) hw.2
      refine⟨ds++ds',?_⟩
      have e:cs.drop o=(cs.drop o).take c1.length++cs.drop (o+c1.length):=by
       rw [← List.drop_drop,List.take_append_drop]
      rw [e]
      exact r1.append r2
    ·simp at hf
include ok in
theorem Vx {fuel:Nat} (ih:Reads P own en W fuel) {t e:TypeId} {i:Nat} (ht:P.underlying t=some (.slice e)) (ho:own t=some i) {cs:List Value} {x:DataW H×List MemPlace} (hx:DataW.trod en P W 0 (fun _=>true) true (fuel+1) t cs=some x) (hw:(x.1.weights P t).all (·≤reachBytes)=true) :
 ∃d v,cs= [v]∧Rd (Xx W) W.heap (.sl i) d v∧Wd (.sl i) d:=by
 obtain⟨e',nf,ht',hfl,hce,hby,hpos⟩:=ok t i ho
 rw [ht] at ht'
 simp only [Option.some.injEq,TypeDesc.slice.injEq] at ht'
 subst ht'
 rcases DataW.trod_slice ht hx with ⟨rfl,rfl⟩ | ⟨a,len,cap,elems,rest,n,hn,rfl,rfl,_,hlc,_,hlen,hel,_,_⟩
 ·exact⟨.i 1,_,rfl,.nil i,.nil i⟩
 ·simp only [Nat.succ.injEq] at hn
  subst hn
  rcases Nat.eq_zero_or_pos len with h0 | h0
  ·subst h0
   exact⟨.i 2,_,rfl,.non i a cap,.non i⟩
  ·simp only [DataW.weights,ht,List.all_cons,List.all_append,Bool.and_eq_true,decide_eq_true_eq,List.length_map] at hw
   have row: ∀k,k < len→∃cs ds,W.cells? 0 (a.add (k*(nT i).length)) (nT i).length=some cs∧Rs (Xx W) W.heap (nT i) ds cs:=by
    intro k hk
    have he:=hel k hk
    rw [List.getElem?_eq_getElem (by omega),hce,Option.bind_eq_some_iff] at he
    obtain⟨cs,h1,h2⟩:=he
    obtain⟨ds,hr⟩:=ih e nf (nT i) cs _ hfl h2 (avL hw.2.1 (weightsAll_mem (List.mem_map_of_mem (List.getElem_mem _))))
    exact⟨cs,ds,h1,hr⟩
   obtain⟨b,o,spot⟩:=a
   have hspot:spot=none:=by
    obtain⟨cs,ds,h1,hr⟩:=row 0 h0
    obtain⟨_,h4,h5⟩:=World.cells?_some h1
    have:=h5 0 hpos
    rw [List.getElem?_eq_getElem (by omega)] at this
    simpa [Addr.add] using World.cell?_spot this
   subst hspot
   have cell: ∀k,k < len→∃ds vs,Rs (Xx W) W.heap (nT i) ds vs∧∀j,j < (nT i).length→hcell W.heap b (o+k*(nT i).length+j)=vs[j]?:=by
    intro k hk
    obtain⟨cs,ds,h1,hr⟩:=row k hk
    obtain⟨_,h4,h5⟩:=World.cells?_some h1
    refine⟨ds,cs,hr,fun j hj=>?_⟩
    have:=h5 j hj
    rw [add_add] at this
    have e2:(Addr.mk b o none).add (k*(nT i).length+j)=⟨b,o+k*(nT i).length+j,none⟩:=by simp [Addr.add,Nat.add_assoc]
    rw [e2,sK] at this
    exact this
   have hb:b < W.heap.size:=by
    obtain⟨ds,vs,hr,hc⟩:=cell 0 h0
    have:=hc 0 hpos
    rw [List.getElem?_eq_getElem (by rw [hr.len.2]; exact hpos),← sK] at this
    exact adF this
   have awS:len*yD i≤140737488351232:=by
    have h1:(elems.length+rest.length)*P.bytesOf e≤reachBytes:=hw.1
    have h2:len*yD i≤(elems.length+rest.length)*P.bytesOf e:=Nat.mul_le_mul (by omega) hby
    have h3:reachBytes=140737488351232:=rfl
    omega
   classical
   let ds:Nat→List D:=fun k=>if h:k < len then (cell k h).choose else []
   let vs:Nat→List Value:=fun k=>if h:k < len then (cell k h).choose_spec.choose else []
   have spec: ∀k,k < len→Rs (Xx W) W.heap (nT i) (ds k) (vs k)∧∀j,j < (nT i).length→hcell W.heap b (o+k*(nT i).length+j)=(vs k)[j]?:=by
    intro k hk
    have e1:ds k=(cell k hk).choose:=dif_pos hk
    have e2:vs k=(cell k hk).choose_spec.choose:=dif_pos hk
    rw [e1,e2]
    exact (cell k hk).choose_spec.choose_spec
   have get: ∀{k:Nat} {r:List D},((List.range len).map ds)[k]?=some r→k < len∧r=ds k:=by
    intro k r hk
    rw [List.getElem?_map] at hk
    have hk':k < len:=by
     rcases Nat.lt_or_ge k len with h | h
     ·exact h
     ·rw [List.getElem?_eq_none (by simpa using h)] at hk; simp at hk
    rw [List.getElem?_range hk'] at hk
    simp only [Option.map_some,Option.some.injEq] at hk
    exact⟨hk',hk.symm⟩
   cases hrow:rowOf i with
   | one c=>
     have hks:nT i= [c]:=by unfold nT; rw [hrow]
     have aDv: ∀{k:Nat} {d:D},((List.range len).map fun k=>(ds k).headD (.i 0))[k]?=some d→k < len∧d=(ds k).headD (.i 0):=by
      intro k d hk
      rw [List.getElem?_map] at hk
      have hk':k < len:=by
       rcases Nat.lt_or_ge k len with h | h
       ·exact h
       ·rw [List.getElem?_eq_none (by simpa using h)] at hk; simp at hk
      rw [List.getElem?_range hk'] at hk
      simp only [Option.map_some,Option.some.injEq] at hk
      exact⟨hk',hk.symm⟩
     have sp1: ∀k,k < len→∃d v,ds k= [d]∧hcell W.heap b (o+k)=some v∧Rd (Xx W) W.heap c d v∧Wd c d:=by
      intro k hk
      obtain⟨hr,hc⟩:=spec k hk
      rw [hks] at hr hc
      match hdk:ds k,hvk:vs k,hr with
      | [d],[v],.cons r w .nil=>
        have:=hc 0 (by simp)
        rw [hvk] at this
        exact⟨d,v,rfl,by simpa using this,r,w⟩
     have e:len=((List.range len).map fun k=>(ds k).headD (.i 0)).length:=by simp
     have r:=Rd.one (ro:=Xx W) (h:=W.heap) i c b o cap ((List.range len).map fun k=>(ds k).headD (.i 0)) (fun k=>(vs k).headD undef) hrow (by rw [← e]; exact hlc) hb
      (fun k d hd=>by
       obtain⟨hk,rfl⟩:=aDv hd
       obtain⟨hr,hc⟩:=spec k hk
       rw [hks] at hr hc
       have:=hc 0 (by simp)
       match hdk:ds k,hvk:vs k,hr with
       | [d],[v],.cons r w .nil=>
         rw [hvk] at this
         simpa using this)
      (fun k d hd=>by
       obtain⟨hk,rfl⟩:=aDv hd
       obtain⟨hr,hc⟩:=spec k hk
       rw [hks] at hr
       match hdk:ds k,hvk:vs k,hr with
       | [d],[v],.cons r w .nil=>exact r)
     rw [← e] at r
     refine⟨_,_,rfl,r,.one i c _ hrow (fun h=>by have:=congrArg List.length h; simp at this; omega) (by rw [← e]; exact awS) fun d hd=>?_⟩
     obtain⟨k,hk,rfl⟩:=List.mem_map.1 hd
     obtain⟨d,v,h1,_,_,w⟩:=sp1 k (by simpa using hk)
     rw [h1]
     exact w
   | many OQ=>
     have hks:nT i=OQ:=by unfold nT; rw [hrow]
     have e:len=((List.range len).map ds).length:=by simp
     have hlr: ∀r∈(List.range len).map ds,r.length=OQ.length:=by
      intro r hr
      obtain⟨k,hk,rfl⟩:=List.mem_map.1 hr
      have:=(spec k (by simpa using hk)).1.len.1
      rw [hks] at this
      exact this
     have r:=Rd.many (ro:=Xx W) (h:=W.heap) i OQ b o cap ((List.range len).map ds) (fun k j=>((vs k)[j]?).getD undef) hrow (by rw [← e]; exact hlc) hb hlr
      (fun k r j d hr hj=>by
       obtain⟨hk,rfl⟩:=get hr
       obtain⟨hrs,hc⟩:=spec k hk
       rw [hks] at hrs hc
       have hj':j < OQ.length:=by
        have:=(List.getElem?_eq_some_iff.1 hj).1
        rw [hrs.len.1] at this
        exact this
       rw [hc j hj',List.getElem?_eq_getElem (by rw [hrs.len.2]; exact hj')]
       rfl)
      (fun k r j d c hr hj hcj=>by
       obtain⟨hk,rfl⟩:=get hr
       obtain⟨hrs,hc⟩:=spec k hk
       rw [hks] at hrs
       obtain⟨v,h1,h2,_⟩:=hrs.at hj hcj
       show Rd (Xx W) W.heap c d (((vs k)[j]?).getD undef)
       rw [h1]
       exact h2)
     rw [← e] at r
     refine⟨_,_,rfl,r,.many i OQ _ hrow (fun h=>by have:=congrArg List.length h; simp at this; omega) (by rw [← e]; exact awS) hlr fun r hr j d c hj hcj=>?_⟩
     obtain⟨k,hk,rfl⟩:=List.mem_map.1 hr
     have hrs:=(spec k (by simpa using hk)).1
     rw [hks] at hrs
     obtain⟨v,_,_,h3⟩:=hrs.at hj hcj
     exact h3
theorem LG {fuel:Nat} (ih:Reads P own en W fuel) {n:Nat} {cs:List Value} {e:TypeId} {c1:List CK} (h1:xY P own n e=some c1): ∀(xs:List (DataW H×List MemPlace)) (i:Nat),cs.length=(i+xs.length)*c1.length→
 (∀(j:Nat),j < xs.length→DataW.trod en P W 0 (fun _=>true) true fuel e ((cs.drop ((i+j)*c1.length)).take c1.length)=xs[j]?)→
 (DataW.weightsAll P e (xs.map (·.1))).all (·≤reachBytes)=true→∃ds,Rs (Xx W) W.heap (List.replicate xs.length c1).flatten ds (cs.drop (i*c1.length))
 | [],i,hl,_,_=>by
   rw [List.drop_of_length_le (by rw [hl]; simp)]
   exact⟨[],.nil⟩
 | x :: xs,i,hl,ht,hw=>by
   have h0:=ht 0 (by simp)
   rw [Nat.add_zero] at h0
   simp only [List.map_cons,DataW.weightsAll,List.all_append,Bool.and_eq_true] at hw
   obtain⟨ds,r1⟩:=ih e n c1 _ x h1 h0 hw.1
   obtain⟨ds',r2⟩:=LG ih h1 xs (i+1) (by rw [hl,List.length_cons]; congr 1; omega) (fun j hj=>by
    have:=ht (j+1) (by simpa using hj)
    rw [show i+1+j=i+(j+1) by omega]
    simpa using this) hw.2
   refine⟨ds++ds',?_⟩
   have e1:cs.drop (i*c1.length)=(cs.drop (i*c1.length)).take c1.length++cs.drop ((i+1)*c1.length):=by
    rw [Nat.succ_mul,← List.drop_drop,List.take_append_drop]
   rw [e1,List.length_cons,List.replicate_succ,List.flatten_cons]
   exact r1.append r2
include ok in
theorem Tj: ∀fuel:Nat,Reads P own en W fuel
 | 0=>fun t n OQ cs x _ hx _=>by simp [DataW.trod] at hx
 | fuel+1=>fun t n OQ cs x hf hx hw=>by
   cases n with
   | zero=>simp [xY] at hf
   | succ n=>
     unfold xY at hf
     split at hf
     ·rename_i ht
      simp only [Option.some.injEq] at hf
      subst hf
      obtain⟨b,rfl,_⟩:=DataW.trod_bool ht hx
      exact⟨_,.cons (.bool b) (.bool b) .nil⟩
     ·rename_i k ht
      simp only [Option.some.injEq] at hf
      subst hf
      obtain⟨z,rfl,_,hwf⟩:=DataW.trod_int ht hx
      refine⟨_,.cons (.int k z) (.int k z ?_) .nil⟩
      simp only [Lit.wf,Bool.and_eq_true,decide_eq_true_eq] at hwf
      cases k <;> first | exact hwf | trivial
     ·rename_i ht
      simp only [Option.some.injEq] at hf
      subst hf
      obtain⟨s,rfl,rfl,_⟩:=DataW.trod_string ht hx
      refine⟨_,.cons (.str s) (.str s ?_) .nil⟩
      simp only [DataW.weights,List.all_cons,List.all_nil,Bool.and_true,decide_eq_true_eq] at hw
      exact hw
     ·rename_i e ht
      split at hf
      ·rename_i i ho
       simp only [Option.some.injEq] at hf
       subst hf
       obtain⟨d,v,rfl,r,w⟩:=Vx ok (Tj fuel) ht ho hx hw
       exact⟨_,.cons r w .nil⟩
      ·simp at hf
     ·rename_i fs ht
      obtain⟨xs,m,hm,rfl,hl,hxl,hxs⟩:=DataW.trod_struct ht hx
      simp only [Nat.succ.injEq] at hm
      subst hm
      have hw':(DataW.weightsEach P (fs.toList.map (·.type)) (xs.map (·.1))).all (·≤reachBytes)=true:=by
       simp only [DataW.weights,ht] at hw
       exact hw
      have:=Jd (Tj fuel) hl fs.toList 0 OQ xs hf (by simpa using hxl) (fun i f hi=>hxs i f (by simpa using hi)) hw'
      simpa using this
     ·rename_i m e ht
      split at hf
      ·rename_i c1 h1
       split at hf
       ·rename_i hce
        simp only [Option.some.injEq] at hf
        subst hf
        obtain⟨xs,m',hm,rfl,hl,hxl,hxs⟩:=DataW.trod_array ht hx
        simp only [Nat.succ.injEq] at hm
        subst hm
        subst hxl
        have hw':(DataW.weightsAll P e (xs.map (·.1))).all (·≤reachBytes)=true:=by
         simp only [DataW.weights,ht] at hw
         exact hw
        rw [hce.2] at hl
        have:=LG (Tj fuel) h1 xs 0 (by rw [hl,Nat.zero_add]) (fun j hj=>by
         rw [Nat.zero_add]
         have:=hxs j hj
         rw [hce.1] at this
         exact this) hw'
        simpa using this
       ·simp at hf
      ·simp at hf
     ·simp at hf
end
theorem TD {P:Program} {w:World} {r:Reach} {base:Nat} {t:TypeId} {v:Value} {n:Nat} {e:TypeId} (ht:P.underlying t=some (.array n e)) (h:Value.okWide P w r base t v): ∃cs,v= .agg cs∧cs.size=P.cellsOf t:=by
 simp only [Value.okWide,ht] at h
 obtain⟨cs,h1,h2,_⟩:=h
 exact⟨cs,h1,h2⟩
end Go.As
end
section
namespace Go.As.Try
open Go hiding Stat
open Go.As Go.Proofs
set_option maxRecDepth 100000
abbrev hP (m n:Nat) (l:List Nat):JB:=⟨m,.pa,n,l⟩
abbrev hR (m n:Nat) (l:List Nat):JB:=⟨m,.r,n,l⟩
abbrev hE (m n:Nat) (l:List Nat):JB:=⟨m,.e,n,l⟩
abbrev tF:TI:=⟨.func,1,8,[.yU],false,none⟩
abbrev zI:AV:=.int .i64 (.lit 0)
abbrev zU:AV:=.int .u8 (.lit 0)
def tab:Tr TI:=(.node none (.node (some tF)
 (.node (some ⟨.int .i64,1,8,[zI],false,none⟩)
 (.node (some ⟨.struct [(0,2,1),(1,3,1),(2,4,1),(3,6,1)],4,24,[zI,zI,.bool (.lit false),zU],true,none⟩)
 (.node (some ⟨.pointer 295,1,8,[.jJ],false,none⟩)
 (.node (some ⟨.slice 114,1,24,[.aA],false,none⟩)
 (.node (some ⟨.int .u8,1,1,[zU],false,none⟩)
 (.node (some tF)
 (.node (some tF) .nil .nil) .nil) (.node (some tF) .nil .nil)) (.node none (.node (some tF)
 (.node (some ⟨.array 65 5,65,65,(repeatL [zU] 65),false,none⟩) .nil .nil) .nil) (.node (some tF) .nil .nil))) (.node (some ⟨.slice 2,1,24,[.aA],false,none⟩)
 (.node (some ⟨.struct [(0,25,2),(2,34,2),(4,77,1)],5,104,[.aA,.aA,.aA,.aA,.yU],false,none⟩)
 (.node (some tF)
 (.node (some tF) .nil .nil) .nil) (.node (some ⟨.struct [(0,206,1),(1,37,1),(2,9,1),(3,9,1),(4,2,1),(5,64,1),(6,154,1),(7,154,1),(8,3,1)],9,128,[zU,zU,.str [],.str [],zI,.aA,.aA,.aA,zI],false,none⟩) .nil .nil)) (.node (some tF)
 (.node (some tF)
 (.node (some ⟨.int .i32,1,4,[.int .i32 (.lit (0))],false,none⟩) .nil .nil) .nil) (.node (some tF) .nil .nil)))) (.node (some ⟨.slice 62,1,24,[.aA],false,none⟩)
 (.node (some ⟨.struct [(0,3,1),(1,37,1),(2,3,1),(3,2,1),(4,2,1)],5,40,[zI,zU,zI,zI,zI],true,none⟩)
 (.node (some tF)
 (.node (some tF)
 (.node (some tF) .nil .nil) .nil) (.node (some tF) .nil .nil)) (.node (some ⟨.struct [(0,22,1),(1,101,1)],2,48,[.aA,.aA],false,none⟩)
 (.node (some ⟨.struct [(0,165,1),(1,62,3),(4,3,1)],5,80,[.lW,.str [],.aA,.aA,zI],false,none⟩)
 (.node (some ⟨.struct [(0,17,1),(1,17,1),(2,17,1),(3,9,1)],4,40,[.jJ,.jJ,.jJ,.str []],false,none⟩) .nil .nil) .nil) (.node (some ⟨.struct [(0,4,1)],1,1,[.bool (.lit false)],true,none⟩) .nil .nil))) (.node (some tF)
 (.node (some ⟨.pointer 34,1,8,[.jJ],false,none⟩)
 (.node (some tF)
 (.node (some tF) .nil .nil) .nil) (.node (some ⟨.struct [(0,214,1),(1,165,1)],2,16,[.lW,.lW],false,none⟩) .nil .nil)) (.node (some tF)
 .nil (.node (some tF) .nil .nil))))) (.node (some ⟨.string,1,16,[.str []],false,none⟩)
 (.node (some ⟨.struct [(0,17,1)],1,8,[.jJ],false,none⟩)
 (.node none (.node (some ⟨.int .u8,1,1,[zU],false,none⟩)
 (.node (some ⟨.map 3 142,1,8,[.lW],false,none⟩)
 (.node (some tF) .nil .nil) .nil) (.node (some ⟨.struct [(0,3,1),(1,193,1),(2,2,1),(3,2,1),(4,4,1),(5,47,1)],6,64,[zI,.lW,zI,zI,.bool (.lit false),.aA],false,none⟩) .nil .nil)) (.node none (.node (some tF)
 (.node (some tF) .nil .nil) .nil) (.node (some tF) .nil .nil))) (.node (some ⟨.struct [(0,34,2),(2,47,1)],3,72,[.aA,.aA,.aA],false,none⟩)
 (.node (some ⟨.struct [(0,37,1),(1,3,1),(2,2,1),(3,2,1)],4,32,[zU,zI,zI,zI],true,none⟩)
 (.node (some ⟨.struct [(0,145,1),(1,9,1),(2,2,1),(3,3,1),(4,3,1),(5,3,1)],6,56,[zU,.str [],zI,zI,zI,zI],true,none⟩)
 (.node (some ⟨.array 2 59,2,48,[.aA,.aA],false,none⟩) .nil .nil) .nil) (.node (some tF) .nil .nil)) (.node (some tF)
 (.node (some ⟨.pointer 181,1,8,[.jJ],false,none⟩) .nil .nil) (.node (some tF) .nil .nil)))) (.node (some ⟨.array 2 26,2,48,[.aA,.aA],false,none⟩)
 (.node (some tF)
 (.node (some tF)
 (.node none (.node (some tF) .nil .nil) .nil) .nil) (.node (some tF)
 (.node (some tF)
 (.node (some ⟨.int .u8,1,1,[zU],false,none⟩) .nil .nil) .nil) (.node (some tF) .nil .nil))) (.node (some ⟨.slice 9,1,24,[.aA],false,none⟩)
 (.node (some ⟨.struct [(0,3,1),(1,47,1),(2,37,1),(3,3,1),(4,2,1),(5,2,1)],6,64,[zI,.aA,zU,zI,zI,zI],false,none⟩)
 (.node (some ⟨.struct [(0,9,1),(1,154,1),(2,3,1)],3,48,[.str [],.aA,zI],false,none⟩)
 (.node (some ⟨.int .u64,1,8,[.int .u64 (.lit (0))],false,none⟩) .nil .nil) .nil) (.node (some tF) .nil .nil)) (.node (some tF)
 .nil (.node (some tF) .nil .nil)))))) (.node (some ⟨.int .u8,1,1,[zU],false,none⟩)
 (.node (some ⟨.string,1,16,[.str []],false,none⟩)
 (.node (some ⟨.pointer 306,1,8,[.jJ],false,none⟩)
 (.node (some ⟨.struct [(0,31,1),(1,32,1)],2,48,[.aA,.aA],false,none⟩)
 (.node (some ⟨.struct [(0,63,1),(1,37,1),(2,3,1),(3,3,1),(4,3,1),(5,2,1),(6,64,1)],7,64,[zU,zU,zI,zI,zI,zI,.aA],false,none⟩)
 (.node (some tF)
 (.node (some tF) .nil .nil) .nil) (.node (some ⟨.map 3 3,1,8,[.lW],false,none⟩) .nil .nil)) (.node (some tF)
 (.node (some ⟨.struct [(0,3,1),(1,4,1),(2,4,1)],3,16,[zI,.bool (.lit false),.bool (.lit false)],true,none⟩) .nil .nil) (.node (some tF) .nil .nil))) (.node (some ⟨.struct [(0,26,1),(1,2,1)],2,32,[.aA,zI],false,none⟩)
 (.node (some tF)
 (.node (some ⟨.int .u8,1,1,[zU],false,none⟩)
 (.node (some tF) .nil .nil) .nil) (.node (some tF) .nil .nil)) (.node (some ⟨.struct [(0,3,1),(1,2,1),(2,4,1),(3,2,1),(4,26,1),(5,47,1)],6,80,[zI,zI,.bool (.lit false),zI,.aA,.aA],false,none⟩)
 (.node (some tF)
 (.node (some ⟨.struct [(0,12,1),(1,12,1),(2,286,1),(3,299,1),(4,5,1),(5,5,1),(6,300,1),(7,301,1),(8,302,1),(9,303,1),(10,304,1)],11,48,[.int .u64 (.lit (0)),.int .u64 (.lit (0)),.int .u32 (.lit (0)),zU,zU,zU,zU,.yU,.jJ,.int .i32 (.lit (0)),.int .i32 (.lit (0))],false,none⟩) .nil .nil) .nil) (.node (some ⟨.array 256 5,256,256,(repeatL [zU] 256),false,none⟩) .nil .nil)))) (.node (some ⟨.struct [(0,22,1),(1,23,1)],2,48,[.aA,.aA],false,none⟩)
 (.node none (.node (some tF)
 (.node (some ⟨.struct [(0,134,1),(1,9,1),(2,2,1),(3,9,1),(4,3,1)],5,56,[zU,.str [],zI,.str [],zI],true,none⟩)
 (.node (some tF) .nil .nil) .nil) (.node (some tF) .nil .nil)) (.node (some ⟨.struct [(0,52,1),(1,3,1)],2,16,[zI,zI],true,none⟩)
 (.node (some tF)
 (.node (some ⟨.struct [(0,296,0)],0,0,[],false,none⟩) .nil .nil) .nil) (.node (some ⟨.map 9 2,1,8,[.lW],false,none⟩) .nil .nil))) (.node (some tF)
 (.node (some tF)
 (.node (some tF)
 (.node (some tF) .nil .nil) .nil) (.node (some tF) .nil .nil)) (.node (some ⟨.map 63 1,1,8,[.lW],false,none⟩)
 (.node (some tF) .nil .nil) (.node (some tF) .nil .nil))))) (.node (some ⟨.struct [(0,9,1),(1,12,1)],2,24,[.str [],.int .u64 (.lit (0))],false,none⟩)
 (.node (some ⟨.int .i32,1,4,[.int .i32 (.lit (0))],false,none⟩)
 (.node (some ⟨.int .u8,1,1,[zU],false,none⟩)
 (.node (some ⟨.struct [(0,67,1),(1,9,1),(2,2,1),(3,64,1)],4,56,[zU,.str [],zI,.aA],false,none⟩)
 (.node (some ⟨.struct [(0,25,2),(2,131,1)],3,56,[.aA,.aA,.lW],false,none⟩)
 (.node (some ⟨.array 2 154,2,48,[.aA,.aA],false,none⟩) .nil .nil) .nil) .nil) (.node (some ⟨.slice 156,1,24,[.aA],false,none⟩)
 (.node (some ⟨.map 9 3,1,8,[.lW],false,none⟩)
 (.node (some ⟨.array 64 5,64,64,(repeatL [zU] 64),false,none⟩) .nil .nil) .nil) (.node (some ⟨.struct [(0,3,1),(1,3,1)],2,16,[zI,zI],true,none⟩) .nil .nil))) (.node none (.node (some tF)
 (.node (some ⟨.struct [(0,9,1),(1,147,6),(7,105,2),(9,3,1)],10,96,[.str [],zU,.str [],zI,zI,zI,zI,zI,zI,zI],false,none⟩)
 (.node (some ⟨.int .u64,1,8,[.int .u64 (.lit (0))],false,none⟩) .nil .nil) .nil) (.node (some ⟨.pointer 216,1,8,[.jJ],false,none⟩) .nil .nil)) (.node (some tF)
 (.node (some ⟨.struct [(0,3,1),(1,116,1),(2,2,1),(3,31,1),(4,83,4)],8,80,[zI,.jJ,zI,.aA,zU,zI,zI,zI],false,none⟩) .nil .nil) (.node (some tF) .nil .nil)))) (.node (some tF)
 (.node (some tF)
 (.node (some tF)
 (.node (some tF)
 (.node (some tF) .nil .nil) .nil) (.node (some tF) .nil .nil)) (.node (some tF)
 (.node (some tF)
 (.node (some tF) .nil .nil) .nil) (.node (some tF) .nil .nil))) (.node (some ⟨.struct [(0,9,1),(1,59,1),(2,60,1)],3,64,[.str [],.aA,.aA],false,none⟩)
 (.node none (.node (some tF)
 (.node (some ⟨.array 20 277,20,160,(repeatL [.int .u64 (.lit (0))] 20),false,none⟩) .nil .nil) .nil) (.node (some tF) .nil .nil)) (.node (some tF)
 (.node (some tF) .nil .nil) (.node (some ⟨.pointer 208,1,8,[.jJ],false,none⟩) .nil .nil))))))) (.node (some ⟨.int .i64,1,8,[zI],false,none⟩)
 (.node (some ⟨.bool,1,1,[.bool (.lit false)],false,none⟩)
 (.node (some ⟨.struct [(0,2,1),(1,3,1),(2,4,1),(3,6,1)],4,24,[zI,zI,.bool (.lit false),zU],true,none⟩)
 (.node (some ⟨.pointer 298,1,8,[.jJ],false,none⟩)
 (.node (some ⟨.slice 92,1,24,[.aA],false,none⟩)
 (.node (some ⟨.slice 69,1,24,[.aA],false,none⟩)
 (.node (some tF)
 (.node (some tF) .nil .nil) .nil) (.node (some tF) .nil .nil)) (.node (some tF)
 (.node (some ⟨.pointer 162,1,8,[.jJ],false,none⟩)
 (.node (some tF) .nil .nil) .nil) (.node (some tF) .nil .nil))) (.node (some ⟨.struct [(0,26,1),(1,2,1)],2,32,[.aA,zI],false,none⟩)
 (.node (some tF)
 (.node (some ⟨.pointer 149,1,8,[.jJ],false,none⟩)
 (.node (some tF) .nil .nil) .nil) (.node (some ⟨.struct [(0,206,1),(1,37,1),(2,9,1),(3,9,1),(4,2,1),(5,64,1),(6,154,1),(7,154,1),(8,3,1)],9,128,[zU,zU,.str [],.str [],zI,.aA,.aA,.aA,zI],false,none⟩) .nil .nil)) (.node (some tF)
 (.node (some tF)
 (.node (some ⟨.int .i32,1,4,[.int .i32 (.lit (0))],false,none⟩) .nil .nil) .nil) (.node (some tF) .nil .nil)))) (.node (some ⟨.struct [(0,22,1),(1,23,1)],2,48,[.aA,.aA],false,none⟩)
 (.node (some ⟨.int .u8,1,1,[zU],false,none⟩)
 (.node (some tF)
 (.node (some ⟨.struct [(0,134,1),(1,9,1),(2,2,1),(3,9,1),(4,3,1)],5,56,[zU,.str [],zI,.str [],zI],true,none⟩)
 (.node (some tF) .nil .nil) .nil) (.node (some tF) .nil .nil)) (.node (some ⟨.struct [(0,52,1),(1,3,1)],2,16,[zI,zI],true,none⟩)
 (.node (some ⟨.struct [(0,165,1),(1,62,3),(4,3,1)],5,80,[.lW,.str [],.aA,.aA,zI],false,none⟩)
 (.node (some ⟨.array 0 16,0,0,[],false,none⟩) .nil .nil) .nil) (.node (some ⟨.map 9 231,1,8,[.lW],false,none⟩) .nil .nil))) (.node none (.node none (.node (some tF) .nil .nil) (.node (some ⟨.struct [(0,214,1),(1,165,1)],2,16,[.lW,.lW],false,none⟩) .nil .nil)) (.node (some ⟨.pointer 92,1,8,[.jJ],false,none⟩)
 (.node (some ⟨.map 37 182,1,8,[.lW],false,none⟩) .nil .nil) (.node (some tF) .nil .nil))))) (.node (some ⟨.int .u64,1,8,[.int .u64 (.lit (0))],false,none⟩)
 (.node (some ⟨.iface true,1,16,[.Es],false,none⟩)
 (.node (some tF)
 (.node (some ⟨.struct [(0,67,1),(1,9,1),(2,2,1),(3,64,1)],4,56,[zU,.str [],zI,.aA],false,none⟩)
 (.node (some ⟨.struct [(0,25,2),(2,131,1)],3,56,[.aA,.aA,.lW],false,none⟩)
 (.node (some tF) .nil .nil) .nil) .nil) (.node (some tF)
 (.node (some tF)
 (.node (some ⟨.array 32 5,32,32,(repeatL [zU] 32),false,none⟩) .nil .nil) .nil) (.node (some ⟨.pointer 230,1,8,[.jJ],false,none⟩) .nil .nil))) (.node (some ⟨.int .i64,1,8,[zI],false,none⟩)
 (.node none (.node (some ⟨.struct [(0,9,1),(1,147,6),(7,105,2),(9,3,1)],10,96,[.str [],zU,.str [],zI,zI,zI,zI,zI,zI,zI],false,none⟩)
 (.node (some ⟨.array 24 5,24,24,(repeatL [zU] 24),false,none⟩) .nil .nil) .nil) (.node (some tF) .nil .nil)) (.node (some ⟨.pointer 114,1,8,[.jJ],false,none⟩)
 (.node (some ⟨.struct [(0,3,1),(1,116,1),(2,2,1),(3,31,1),(4,83,4)],8,80,[zI,.jJ,zI,.aA,zU,zI,zI,zI],false,none⟩) .nil .nil) (.node (some ⟨.pointer 241,1,8,[.jJ],false,none⟩) .nil .nil)))) (.node (some tF)
 (.node (some tF)
 (.node (some ⟨.pointer 79,1,8,[.jJ],false,none⟩)
 (.node (some ⟨.map 37 138,1,8,[.lW],false,none⟩)
 (.node (some ⟨.slice 5,1,24,[.aA],false,none⟩) .nil .nil) .nil) (.node (some tF) .nil .nil)) (.node none (.node (some tF)
 (.node (some ⟨.int .u8,1,1,[zU],false,none⟩) .nil .nil) .nil) (.node (some tF) .nil .nil))) (.node (some ⟨.slice 66,1,24,[.aA],false,none⟩)
 (.node (some ⟨.struct [(0,3,1),(1,47,1),(2,37,1),(3,3,1),(4,2,1),(5,2,1)],6,64,[zI,.aA,zU,zI,zI,zI],false,none⟩)
 (.node (some ⟨.struct [(0,9,1),(1,154,1),(2,3,1)],3,48,[.str [],.aA,zI],false,none⟩)
 (.node (some tF) .nil .nil) .nil) (.node (some tF) .nil .nil)) (.node (some tF)
 (.node (some tF) .nil .nil) (.node (some tF) .nil .nil)))))) (.node (some ⟨.int .u8,1,1,[zU],false,none⟩)
 (.node (some ⟨.string,1,16,[.str []],false,none⟩)
 (.node (some ⟨.struct [(0,17,1)],1,8,[.jJ],false,none⟩)
 (.node (some ⟨.struct [(0,31,1),(1,32,1)],2,48,[.aA,.aA],false,none⟩)
 (.node (some ⟨.struct [(0,63,1),(1,37,1),(2,3,1),(3,3,1),(4,3,1),(5,2,1),(6,64,1)],7,64,[zU,zU,zI,zI,zI,zI,.aA],false,none⟩)
 (.node (some ⟨.pointer 133,1,8,[.jJ],false,none⟩) .nil .nil) (.node (some ⟨.struct [(0,3,1),(1,193,1),(2,2,1),(3,2,1),(4,4,1),(5,47,1)],6,64,[zI,.lW,zI,zI,.bool (.lit false),.aA],false,none⟩) .nil .nil)) (.node (some tF)
 (.node (some ⟨.struct [(0,3,1),(1,4,1),(2,4,1)],3,16,[zI,.bool (.lit false),.bool (.lit false)],true,none⟩)
 (.node (some tF) .nil .nil) .nil) (.node (some tF) .nil .nil))) (.node (some ⟨.struct [(0,34,2),(2,47,1)],3,72,[.aA,.aA,.aA],false,none⟩)
 (.node (some ⟨.struct [(0,37,1),(1,3,1),(2,2,1),(3,2,1)],4,32,[zU,zI,zI,zI],true,none⟩)
 (.node (some ⟨.struct [(0,145,1),(1,9,1),(2,2,1),(3,3,1),(4,3,1),(5,3,1)],6,56,[zU,.str [],zI,zI,zI,zI],true,none⟩)
 (.node (some tF) .nil .nil) .nil) (.node (some tF) .nil .nil)) (.node (some ⟨.struct [(0,3,1),(1,2,1),(2,4,1),(3,2,1),(4,26,1),(5,47,1)],6,80,[zI,zI,.bool (.lit false),zI,.aA,.aA],false,none⟩)
 (.node (some tF)
 (.node (some ⟨.struct [(0,12,1),(1,12,1),(2,286,1),(3,299,1),(4,5,1),(5,5,1),(6,300,1),(7,301,1),(8,302,1),(9,303,1),(10,304,1)],11,48,[.int .u64 (.lit (0)),.int .u64 (.lit (0)),.int .u32 (.lit (0)),zU,zU,zU,zU,.yU,.jJ,.int .i32 (.lit (0)),.int .i32 (.lit (0))],false,none⟩) .nil .nil) .nil) (.node (some tF) .nil .nil)))) (.node (some ⟨.slice 3,1,24,[.aA],false,none⟩)
 (.node (some tF)
 (.node none (.node (some tF)
 (.node (some tF) .nil .nil) .nil) (.node (some tF) .nil .nil)) (.node none (.node (some tF)
 (.node (some ⟨.struct [(0,296,0)],0,0,[],false,none⟩) .nil .nil) .nil) (.node (some ⟨.array 27 134,27,27,(repeatL [zU] 27),false,none⟩) .nil .nil))) (.node (some tF)
 (.node (some tF)
 (.node (some ⟨.slice 208,1,24,[.aA],false,none⟩)
 (.node (some tF) .nil .nil) .nil) (.node (some tF) .nil .nil)) (.node none (.node (some ⟨.int .u8,1,1,[zU],false,none⟩) .nil .nil) (.node (some ⟨.array 23 9,23,368,(repeatL [.str []] 23),false,none⟩) .nil .nil))))) (.node (some ⟨.struct [(0,9,1),(1,12,1)],2,24,[.str [],.int .u64 (.lit (0))],false,none⟩)
 (.node (some ⟨.slice 137,1,24,[.aA],false,none⟩)
 (.node (some ⟨.struct [(0,3,1),(1,37,1),(2,3,1),(3,2,1),(4,2,1)],5,40,[zI,zU,zI,zI,zI],true,none⟩)
 (.node (some tF)
 (.node (some ⟨.int .u8,1,1,[zU],false,none⟩)
 (.node (some ⟨.slice 134,1,24,[.aA],false,none⟩) .nil .nil) .nil) (.node (some tF) .nil .nil)) (.node (some ⟨.struct [(0,22,1),(1,101,1)],2,48,[.aA,.aA],false,none⟩)
 (.node (some ⟨.pointer 168,1,8,[.jJ],false,none⟩)
 (.node (some ⟨.struct [(0,17,1),(1,17,1),(2,17,1),(3,9,1)],4,40,[.jJ,.jJ,.jJ,.str []],false,none⟩) .nil .nil) .nil) (.node (some ⟨.struct [(0,3,1),(1,3,1)],2,16,[zI,zI],true,none⟩) .nil .nil))) (.node (some tF)
 (.node (some tF)
 (.node (some ⟨.array 9 9,9,144,[.str [],.str [],.str [],.str [],.str [],.str [],.str [],.str [],.str []],false,none⟩)
 (.node (some tF) .nil .nil) .nil) (.node (some ⟨.map 9 134,1,8,[.lW],false,none⟩) .nil .nil)) (.node (some tF)
 (.node (some tF) .nil .nil) .nil))) (.node (some ⟨.slice 39,1,24,[.aA],false,none⟩)
 (.node (some tF)
 (.node (some ⟨.struct [(0,25,2),(2,34,2),(4,77,1)],5,104,[.aA,.aA,.aA,.aA,.yU],false,none⟩)
 (.node (some ⟨.pointer 195,1,8,[.jJ],false,none⟩)
 (.node (some tF) .nil .nil) .nil) (.node (some ⟨.int .u8,1,1,[zU],false,none⟩) .nil .nil)) (.node (some tF)
 (.node (some tF)
 (.node (some ⟨.pointer 5,1,8,[.jJ],false,none⟩) .nil .nil) .nil) (.node (some tF) .nil .nil))) (.node (some ⟨.struct [(0,9,1),(1,59,1),(2,60,1)],3,64,[.str [],.aA,.aA],false,none⟩)
 (.node (some tF)
 (.node (some tF)
 (.node (some ⟨.int .u32,1,4,[.int .u32 (.lit (0))],false,none⟩) .nil .nil) .nil) (.node (some tF) .nil .nil)) (.node (some tF)
 (.node (some tF) .nil .nil) (.node (some tF) .nil .nil))))))))
noncomputable def Uc:Tr Func:=(.node (some Tryz.f0)
 (.node (some Tryz.f1)
 (.node (some Tryz.f3)
 (.node (some Tryz.f7)
 (.node (some Tryz.f15)
 (.node (some Tryz.f31)
 (.node (some Tryz.f63)
 (.node (some Tryz.f127)
 (.node (some Tryz.f255) .nil .nil) .nil) (.node (some Tryz.f191) .nil .nil)) (.node (some Tryz.f95)
 (.node (some Tryz.f159) .nil .nil) (.node (some Tryz.f223) .nil .nil))) (.node (some Tryz.f47)
 (.node (some Tryz.f79)
 (.node (some Tryz.f143) .nil .nil) (.node (some Tryz.f207) .nil .nil)) (.node (some Tryz.f111)
 (.node (some Tryz.f175) .nil .nil) (.node (some Tryz.f239) .nil .nil)))) (.node (some Tryz.f23)
 (.node (some Tryz.f39)
 (.node (some Tryz.f71)
 (.node (some Tryz.f135) .nil .nil) (.node (some Tryz.f199) .nil .nil)) (.node (some Tryz.f103)
 (.node (some Tryz.f167) .nil .nil) (.node (some Tryz.f231) .nil .nil))) (.node (some Tryz.f55)
 (.node (some Tryz.f87)
 (.node (some Tryz.f151) .nil .nil) (.node (some Tryz.f215) .nil .nil)) (.node (some Tryz.f119)
 (.node (some Tryz.f183) .nil .nil) (.node (some Tryz.f247) .nil .nil))))) (.node (some Tryz.f11)
 (.node (some Tryz.f19)
 (.node (some Tryz.f35)
 (.node (some Tryz.f67)
 (.node (some Tryz.f131)
 (.node (some Tryz.f259) .nil .nil) .nil) (.node (some Tryz.f195) .nil .nil)) (.node (some Tryz.f99)
 (.node (some Tryz.f163) .nil .nil) (.node (some Tryz.f227) .nil .nil))) (.node (some Tryz.f51)
 (.node (some Tryz.f83)
 (.node (some Tryz.f147) .nil .nil) (.node (some Tryz.f211) .nil .nil)) (.node (some Tryz.f115)
 (.node (some Tryz.f179) .nil .nil) (.node (some Tryz.f243) .nil .nil)))) (.node (some Tryz.f27)
 (.node (some Tryz.f43)
 (.node (some Tryz.f75)
 (.node (some Tryz.f139) .nil .nil) (.node (some Tryz.f203) .nil .nil)) (.node (some Tryz.f107)
 (.node (some Tryz.f171) .nil .nil) (.node (some Tryz.f235) .nil .nil))) (.node (some Tryz.f59)
 (.node (some Tryz.f91)
 (.node (some Tryz.f155) .nil .nil) (.node (some Tryz.f219) .nil .nil)) (.node (some Tryz.f123)
 (.node (some Tryz.f187) .nil .nil) (.node (some Tryz.f251) .nil .nil)))))) (.node (some Tryz.f5)
 (.node (some Tryz.f9)
 (.node (some Tryz.f17)
 (.node (some Tryz.f33)
 (.node (some Tryz.f65)
 (.node (some Tryz.f129)
 (.node (some Tryz.f257) .nil .nil) .nil) (.node (some Tryz.f193) .nil .nil)) (.node (some Tryz.f97)
 (.node (some Tryz.f161) .nil .nil) (.node (some Tryz.f225) .nil .nil))) (.node (some Tryz.f49)
 (.node (some Tryz.f81)
 (.node (some Tryz.f145) .nil .nil) (.node (some Tryz.f209) .nil .nil)) (.node (some Tryz.f113)
 (.node (some Tryz.f177) .nil .nil) (.node (some Tryz.f241) .nil .nil)))) (.node (some Tryz.f25)
 (.node (some Tryz.f41)
 (.node (some Tryz.f73)
 (.node (some Tryz.f137) .nil .nil) (.node (some Tryz.f201) .nil .nil)) (.node (some Tryz.f105)
 (.node (some Tryz.f169) .nil .nil) (.node (some Tryz.f233) .nil .nil))) (.node (some Tryz.f57)
 (.node (some Tryz.f89)
 (.node (some Tryz.f153) .nil .nil) (.node (some Tryz.f217) .nil .nil)) (.node (some Tryz.f121)
 (.node (some Tryz.f185) .nil .nil) (.node (some Tryz.f249) .nil .nil))))) (.node (some Tryz.f13)
 (.node (some Tryz.f21)
 (.node (some Tryz.f37)
 (.node (some Tryz.f69)
 (.node (some Tryz.f133)
 (.node (some Tryz.f261) .nil .nil) .nil) (.node (some Tryz.f197) .nil .nil)) (.node (some Tryz.f101)
 (.node (some Tryz.f165) .nil .nil) (.node (some Tryz.f229) .nil .nil))) (.node (some Tryz.f53)
 (.node (some Tryz.f85)
 (.node (some Tryz.f149) .nil .nil) (.node (some Tryz.f213) .nil .nil)) (.node (some Tryz.f117)
 (.node (some Tryz.f181) .nil .nil) (.node (some Tryz.f245) .nil .nil)))) (.node (some Tryz.f29)
 (.node (some Tryz.f45)
 (.node (some Tryz.f77)
 (.node (some Tryz.f141) .nil .nil) (.node (some Tryz.f205) .nil .nil)) (.node (some Tryz.f109)
 (.node (some Tryz.f173) .nil .nil) (.node (some Tryz.f237) .nil .nil))) (.node (some Tryz.f61)
 (.node (some Tryz.f93)
 (.node (some Tryz.f157) .nil .nil) (.node (some Tryz.f221) .nil .nil)) (.node (some Tryz.f125)
 (.node (some Tryz.f189) .nil .nil) (.node (some Tryz.f253) .nil .nil))))))) (.node (some Tryz.f2)
 (.node (some Tryz.f4)
 (.node (some Tryz.f8)
 (.node (some Tryz.f16)
 (.node (some Tryz.f32)
 (.node (some Tryz.f64)
 (.node (some Tryz.f128)
 (.node (some Tryz.f256) .nil .nil) .nil) (.node (some Tryz.f192) .nil .nil)) (.node (some Tryz.f96)
 (.node (some Tryz.f160) .nil .nil) (.node (some Tryz.f224) .nil .nil))) (.node (some Tryz.f48)
 (.node (some Tryz.f80)
 (.node (some Tryz.f144) .nil .nil) (.node (some Tryz.f208) .nil .nil)) (.node (some Tryz.f112)
 (.node (some Tryz.f176) .nil .nil) (.node (some Tryz.f240) .nil .nil)))) (.node (some Tryz.f24)
 (.node (some Tryz.f40)
 (.node (some Tryz.f72)
 (.node (some Tryz.f136) .nil .nil) (.node (some Tryz.f200) .nil .nil)) (.node (some Tryz.f104)
 (.node (some Tryz.f168) .nil .nil) (.node (some Tryz.f232) .nil .nil))) (.node (some Tryz.f56)
 (.node (some Tryz.f88)
 (.node (some Tryz.f152) .nil .nil) (.node (some Tryz.f216) .nil .nil)) (.node (some Tryz.f120)
 (.node (some Tryz.f184) .nil .nil) (.node (some Tryz.f248) .nil .nil))))) (.node (some Tryz.f12)
 (.node (some Tryz.f20)
 (.node (some Tryz.f36)
 (.node (some Tryz.f68)
 (.node (some Tryz.f132)
 (.node (some Tryz.f260) .nil .nil) .nil) (.node (some Tryz.f196) .nil .nil)) (.node (some Tryz.f100)
 (.node (some Tryz.f164) .nil .nil) (.node (some Tryz.f228) .nil .nil))) (.node (some Tryz.f52)
 (.node (some Tryz.f84)
 (.node (some Tryz.f148) .nil .nil) (.node (some Tryz.f212) .nil .nil)) (.node (some Tryz.f116)
 (.node (some Tryz.f180) .nil .nil) (.node (some Tryz.f244) .nil .nil)))) (.node (some Tryz.f28)
 (.node (some Tryz.f44)
 (.node (some Tryz.f76)
 (.node (some Tryz.f140) .nil .nil) (.node (some Tryz.f204) .nil .nil)) (.node (some Tryz.f108)
 (.node (some Tryz.f172) .nil .nil) (.node (some Tryz.f236) .nil .nil))) (.node (some Tryz.f60)
 (.node (some Tryz.f92)
 (.node (some Tryz.f156) .nil .nil) (.node (some Tryz.f220) .nil .nil)) (.node (some Tryz.f124)
 (.node (some Tryz.f188) .nil .nil) (.node (some Tryz.f252) .nil .nil)))))) (.node (some Tryz.f6)
 (.node (some Tryz.f10)
 (.node (some Tryz.f18)
 (.node (some Tryz.f34)
 (.node (some Tryz.f66)
 (.node (some Tryz.f130)
 (.node (some Tryz.f258) .nil .nil) .nil) (.node (some Tryz.f194) .nil .nil)) (.node (some Tryz.f98)
 (.node (some Tryz.f162) .nil .nil) (.node (some Tryz.f226) .nil .nil))) (.node (some Tryz.f50)
 (.node (some Tryz.f82)
 (.node (some Tryz.f146) .nil .nil) (.node (some Tryz.f210) .nil .nil)) (.node (some Tryz.f114)
 (.node (some Tryz.f178) .nil .nil) (.node (some Tryz.f242) .nil .nil)))) (.node (some Tryz.f26)
 (.node (some Tryz.f42)
 (.node (some Tryz.f74)
 (.node (some Tryz.f138) .nil .nil) (.node (some Tryz.f202) .nil .nil)) (.node (some Tryz.f106)
 (.node (some Tryz.f170) .nil .nil) (.node (some Tryz.f234) .nil .nil))) (.node (some Tryz.f58)
 (.node (some Tryz.f90)
 (.node (some Tryz.f154) .nil .nil) (.node (some Tryz.f218) .nil .nil)) (.node (some Tryz.f122)
 (.node (some Tryz.f186) .nil .nil) (.node (some Tryz.f250) .nil .nil))))) (.node (some Tryz.f14)
 (.node (some Tryz.f22)
 (.node (some Tryz.f38)
 (.node (some Tryz.f70)
 (.node (some Tryz.f134)
 (.node (some Tryz.f262) .nil .nil) .nil) (.node (some Tryz.f198) .nil .nil)) (.node (some Tryz.f102)
 (.node (some Tryz.f166) .nil .nil) (.node (some Tryz.f230) .nil .nil))) (.node (some Tryz.f54)
 (.node (some Tryz.f86)
 (.node (some Tryz.f150) .nil .nil) (.node (some Tryz.f214) .nil .nil)) (.node (some Tryz.f118)
 (.node (some Tryz.f182) .nil .nil) (.node (some Tryz.f246) .nil .nil)))) (.node (some Tryz.f30)
 (.node (some Tryz.f46)
 (.node (some Tryz.f78)
 (.node (some Tryz.f142) .nil .nil) (.node (some Tryz.f206) .nil .nil)) (.node (some Tryz.f110)
 (.node (some Tryz.f174) .nil .nil) (.node (some Tryz.f238) .nil .nil))) (.node (some Tryz.f62)
 (.node (some Tryz.f94)
 (.node (some Tryz.f158) .nil .nil) (.node (some Tryz.f222) .nil .nil)) (.node (some Tryz.f126)
 (.node (some Tryz.f190) .nil .nil) (.node (some Tryz.f254) .nil .nil))))))))
def htab:Tr (Tr RY):=(.node none (.node none (.node (some (.node none (.node none (.node (some ⟨[],0,⟨[hP 0 0 [4],hR 1 0 [30],hP 0 0 [4],hR 4 0 [32],hR 12 0 [33],hP 28 0 [34],hP 63 0 [31,35],hP 0 0 [4],hR 128 0 [37],hP 0 0 [4],hR 512 0 [39],hR 1536 0 [40],hP 3584 0 [41],hP 8064 0 [38,42],hP 127 0 [36],hP 32767 0 [43]],0,[(1,[0]),(3,[0]),(4,[0]),(8,[0]),(10,[0]),(11,[0])]⟩⟩) .nil .nil) (.node none (.node none (.node (some ⟨[],0,⟨[hP 0 0 [16],hP 0 0 [18],hP 0 0 [3],hR 4 0 [92],hR 12 0 [93],hE 30 0 [91,94],hP 0 1 [3],hR 64 1 [96],hR 192 1 [97],hP 0 1 [2],hP 512 1 [99],hP 1536 1 [100],hP 4032 1 [98,101],hP 8190 1 [95,102],hP 16382 1 [103],hE 32767 1 [90,104],hP 65535 2 [105]],2,[(3,[0]),(4,[0]),(7,[0,1]),(8,[0,1])]⟩⟩) .nil .nil) .nil) .nil)) (.node none (.node none (.node (some ⟨[],0,⟨[hR 0 0 [3],hR 0 0 [10],hP 0 0 [12],hP 0 0 [3],hR 8 0 [60],hR 24 0 [61],hE 60 0 [59,62],hE 127 1 [57,58,63],hP 255 2 [64],hP 511 2 [56],hP 511 2 [56],hP 511 2 [56],hP 0 2 [],hP 0 2 [],hE 13311 2 [13,65],hE 30719 3 [14,66],hP 65535 4 [67]],4,[(0,[0,1]),(1,[0,1]),(4,[0]),(5,[0])]⟩⟩) .nil .nil) .nil) .nil)))
 (.node none (.node (some (.node none .nil (.node none .nil (.node (some ⟨[],0,⟨[hR 0 0 [1],hP 0 0 [2],hP 2 0 [32],hE 7 0 [31,33],hP 15 1 [34],hP 31 1 [30],hP 31 1 [30],hP 0 1 [],hE 191 1 [8,35],hP 511 2 [36]],2,[(0,[0])]⟩⟩) .nil .nil))))
 (.node (some (.node none .nil (.node none (.node (some ⟨[],0,⟨[hR 0 0 [6],hP 0 0 [1],hE 2 0 [19],hP 7 1 [18,20],hP 0 1 [],hE 31 1 [8,21]],2,[(0,[0,1])]⟩⟩) .nil .nil) .nil)))
 (.node (some (.node none (.node (some ⟨[],0,⟨[hP 0 0 [0],hP 1 0 [6],hP 3 0 [7],hP 7 0 [8],hR 15 0 [9],hP 0 0 [3],hR 32 0 [11],hP 127 0 [10,12],hP 255 0 [13],hR 511 0 [14],hP 0 0 [],hE 2047 0 [5,15]],1,[(4,[0]),(6,[0]),(9,[0])]⟩⟩) .nil .nil) .nil))
 .nil (.node (some (.node none (.node (some ⟨[],0,⟨[hR 0 0 [0],hP 0 0 [2],hE 3 0 [8,9]],1,[(0,[0])]⟩⟩) .nil .nil) (.node (some ⟨[],0,⟨[hP 0 0 [2],hR 0 0 [0],hP 2 0 [12],hP 6 0 [13],hP 14 0 [14],hR 30 0 [15],hE 63 0 [11,16],hP 127 1 [17],hP 255 1 [18],hP 127 1 [1],hE 639 1 [20],hP 2047 2 [1],hE 4095 2 [21,19]],3,[(1,[0]),(5,[0])]⟩⟩) .nil .nil))) .nil .nil)) (.node none .nil (.node (some (.node none (.node none .nil (.node (some ⟨[],0,⟨[hP 0 0 [6],hR 0 0 [5],hR 0 0 [0],hE 4 0 [21],hP 14 1 [20,22],hP 31 1 [19,23],hE 63 1 [5,24]],2,[(1,[0,1]),(2,[0])]⟩⟩) .nil .nil)) .nil)) .nil .nil))) (.node (some (.node none .nil (.node none .nil (.node none .nil (.node (some ⟨[],0,⟨[hP 0 0 [2],hR 1 0 [47],hP 0 0 [2],hR 4 0 [49],hP 12 0 [50],hR 28 0 [51],hP 0 0 [1],hE 124 0 [52,53],hP 0 1 [2],hR 256 1 [55],hP 768 1 [56],hR 1792 1 [57],hP 0 1 [1],hE 8188 1 [58,59],hE 16383 2 [48,54,60],hP 32767 3 [61]],3,[(1,[0,1,2]),(3,[0]),(5,[0]),(9,[0,1]),(11,[0,1])]⟩⟩) .nil .nil)))))
 .nil (.node (some (.node none (.node (some ⟨[],0,⟨[hP 0 0 [1],hR 1 0 [6],hP 0 0 [0],hP 4 0 [8],hP 12 0 [9],hR 28 0 [10],hR 0 0 [2],hP 124 0 [11,12],hP 255 0 [7,13],hP 511 0 [14]],0,[(1,[0]),(5,[0]),(6,[0])]⟩⟩) .nil .nil) .nil)) .nil .nil))) (.node (some (.node none (.node none (.node none (.node (some ⟨[],0,⟨[hP 0 0 [0],hP 1 0 [40],hP 3 0 [41],hR 7 0 [42],hR 0 0 [7],hE 31 0 [43,44]],1,[(3,[0]),(4,[0])]⟩⟩) .nil .nil) .nil) .nil) (.node (some ⟨[],0,⟨[hP 0 0 [0],hP 1 0 [19],hP 3 0 [20],hR 7 0 [21],hP 0 0 [0],hP 16 0 [23],hP 48 0 [24],hR 112 0 [25],hP 0 0 [1],hE 511 0 [22,26,27],hP 1023 1 [28],hP 2047 1 [18],hP 2047 1 [18],hP 2047 1 [18],hP 0 1 [],hP 0 1 [],hE 53247 1 [6,29],hE 122879 2 [7,30],hP 262143 3 [31]],3,[(3,[0]),(7,[0])]⟩⟩) .nil .nil)))
 (.node (some (.node none .nil (.node none .nil (.node (some ⟨[],0,⟨[hR 0 0 [2],hP 0 0 [2],hR 2 0 [30],hP 0 0 [5],hP 14 0 [31,32],hR 30 0 [33],hR 0 0 [6],hE 127 0 [29,34,35],hP 255 1 [36]],1,[(0,[0]),(2,[0]),(5,[0]),(6,[0])]⟩⟩) .nil .nil))))
 .nil (.node (some (.node none (.node (some ⟨[],0,⟨[hP 0 0 [0],hP 1 0 [5],hP 3 0 [6],hR 7 0 [7],hP 0 0 [1],hR 16 0 [9],hR 63 0 [8,10],hP 127 0 [11],hP 255 0 [12]],0,[(3,[0]),(5,[0]),(6,[0])]⟩⟩) .nil .nil) (.node (some ⟨[],0,⟨[hP 0 0 [0],hP 1 0 [13],hP 3 0 [14],hR 7 0 [15],hP 0 0 [1],hR 16 0 [17],hE 63 0 [16,18]],1,[(3,[0]),(5,[0])]⟩⟩) .nil .nil)))
 (.node (some (.node none .nil (.node (some ⟨[],0,⟨[hR 0 0 [0],hP 1 0 [6],hP 3 0 [7],hR 7 0 [8],hP 15 0 [9],hP 31 0 [10],hR 63 0 [11],hP 0 0 [3],hE 128 0 [13],hP 511 1 [12],hP 1023 1 [14]],1,[(0,[0,1]),(3,[0,1]),(6,[0,1])]⟩⟩) .nil .nil))) .nil .nil) .nil)) (.node none .nil (.node (some (.node none (.node (some ⟨[],0,⟨[hP 0 0 [0],hP 1 0 [4],hP 3 0 [5],hR 7 0 [6],hR 15 0 [7],hP 31 0 [8],hP 63 0 [9],hP 127 0 [10,0],hP 255 0 [10,11],hP 511 0 [10,12],hR 1023 0 [10,13],hP 2047 0 [10,14],hR 4095 0 [10,15],hP 127 0 [10,1],hR 8319 0 [10,17],hP 32767 0 [10,16,18],hP 65535 0 [10,19]],0,[(3,[0]),(4,[0]),(10,[0]),(12,[0]),(14,[0])]⟩⟩) .nil .nil) .nil)) .nil .nil)))) (.node (some (.node none .nil (.node none .nil (.node (some ⟨[],0,⟨[hP 0 0 [0],hP 0 0 [5],hP 3 0 [16,17],hR 7 0 [18],hP 0 0 [1],hP 0 0 [5],hP 48 0 [20,21],hR 112 0 [22],hP 255 0 [19,23]],0,[(3,[0]),(7,[0])]⟩⟩) .nil .nil))))
 (.node none (.node (some (.node none .nil (.node none (.node none .nil (.node (some ⟨[],0,⟨[hP 0 0 [5],hR 0 0 [7],hE 3 0 [62,63],hP 0 1 [7],hR 8 1 [65],hR 31 1 [64,66],hP 63 1 [67],hP 127 1 [61],hP 127 1 [61],hP 255 1 [68],hP 1023 1 [69]],1,[(1,[0]),(4,[0,1]),(5,[1])]⟩⟩) .nil .nil)) (.node none (.node (some ⟨[],0,⟨[hP 0 0 [7],hR 1 0 [50],hE 3 0 [51],hP 0 1 [2],hR 8 1 [53],hP 0 1 [7],hR 32 1 [55],hP 120 1 [54,56],hP 248 1 [57],hR 504 1 [58],hP 1023 1 [52,59]],1,[(1,[0]),(4,[0,1]),(6,[0,1]),(9,[0,1])]⟩⟩) .nil .nil) (.node (some ⟨[],0,⟨[hP 0 0 [5],hR 0 0 [7],hE 3 0 [72,73],hP 0 1 [7],hR 8 1 [75],hR 31 1 [74,76],hP 63 1 [77]],1,[(1,[0]),(4,[0,1]),(5,[1])]⟩⟩) .nil .nil))))) .nil .nil) (.node (some (.node (some ⟨[],0,⟨[hR 0 0 [1],hP 1 0 [2],hP 3 0 [3],hR 7 0 [4],hP 0 0 [0],hR 16 0 [6],hP 0 0 [0],hR 64 0 [8],hP 255 0 [5,7],hE 511 0 [10,9]],1,[(0,[0]),(3,[0]),(5,[0]),(7,[0])]⟩⟩) .nil .nil))
 .nil (.node none (.node (some (.node none (.node none .nil (.node (some ⟨[],0,⟨[hR 0 0 [0],hP 1 0 [23],hP 3 0 [24],hR 7 0 [25],hP 15 0 [26],hP 31 0 [27],hR 63 0 [28],hR 0 0 [0],hP 128 0 [30],hP 384 0 [31],hR 896 0 [32],hP 2047 0 [29,33]],0,[(0,[0]),(3,[0]),(6,[0]),(7,[0]),(10,[0])]⟩⟩) .nil .nil)) (.node none .nil (.node (some ⟨[],0,⟨[hR 0 0 [0],hP 1 0 [35],hP 3 0 [36],hR 7 0 [37],hR 0 0 [0],hP 16 0 [39],hP 48 0 [40],hR 112 0 [41],hP 0 0 [3],hP 256 0 [43],hP 255 0 [38],hP 1279 0 [45],hE 3327 0 [46],hP 8191 1 [42],hP 16383 1 [47],hE 32767 1 [48,44]],2,[(0,[0]),(3,[0]),(4,[0]),(7,[0])]⟩⟩) .nil .nil)))) .nil .nil) .nil))) (.node (some (.node none .nil (.node none .nil (.node (some ⟨[],0,⟨[hP 0 0 [3],hR 1 0 [33],hP 0 0 [2],hP 7 0 [34,35],hP 15 0 [36],hR 31 0 [37],hP 0 0 [8],hR 64 0 [39],hP 255 0 [38,40],hR 511 0 [41],hP 0 0 [],hE 2047 0 [9,42]],1,[(1,[0]),(5,[0]),(7,[0]),(9,[0])]⟩⟩) .nil .nil))))
 (.node none .nil (.node none (.node (some (.node none (.node (some ⟨[],0,⟨[hR 0 0 [0],hP 1 0 [3],hP 3 0 [4],hR 7 0 [5],hP 15 0 [6],hP 31 0 [7],hR 63 0 [8],hR 127 0 [9],hR 0 0 [0],hP 256 0 [11],hP 768 0 [12],hR 1792 0 [13],hP 4095 0 [10,14]],0,[(0,[0]),(3,[0]),(6,[0]),(7,[0]),(8,[0]),(11,[0])]⟩⟩)
 (.node (some ⟨[],0,⟨[hR 0 0 [0],hP 1 0 [16],hP 3 0 [17],hR 7 0 [18],hR 0 0 [0],hP 16 0 [20],hP 48 0 [21],hR 112 0 [22],hP 240 0 [23],hP 496 0 [24],hR 1008 0 [25],hR 0 0 [0],hP 2048 0 [27],hP 6144 0 [28],hP 14336 0 [29],hR 30720 0 [30],hP 63488 0 [31],hE 131056 0 [26,32],hP 262143 1 [19],hP 524287 1 [34],hE 1048575 1 [35,33]],2,[(0,[0,1]),(3,[0,1]),(4,[0]),(7,[0]),(10,[0]),(11,[0]),(15,[0])]⟩⟩) .nil .nil) .nil) .nil)) .nil .nil) .nil)) (.node (some (.node none .nil (.node none (.node none .nil (.node (some ⟨[],0,⟨[hP 0 0 [5],hR 1 0 [44],hP 0 0 [6],hR 4 0 [46],hP 15 0 [45,47],hP 31 0 [48],hR 63 0 [49],hP 0 0 [6],hR 128 0 [51],hP 511 0 [50,52]],0,[(1,[0]),(3,[0]),(6,[0]),(8,[0])]⟩⟩) .nil .nil)) .nil)))
 .nil (.node none (.node (some (.node none (.node (some ⟨[],0,⟨[hP 0 0 [0],hP 0 0 [1],hP 0 0 [2],hP 6 0 [11,12],hP 1 0 [10],hP 31 0 [14,13],hR 63 0 [15],hP 127 0 [16]],0,[(6,[0])]⟩⟩) .nil .nil) (.node none (.node none (.node (some ⟨[],0,⟨[hP 0 0 [8],hP 0 0 [1],hR 2 0 [39],hP 7 0 [38,40],hP 15 0 [41],hP 31 0 [42,0],hP 31 0 [42,1],hP 31 0 [42,8],hP 223 0 [42,44,45],hP 63 0 [42,43],hP 1023 0 [42,47,46],hR 2047 0 [42,48],hP 4095 0 [42,49],hP 8191 0 [42,50],hP 16383 0 [51,0],hP 16383 0 [51,1],hP 16383 0 [51,8],hP 114687 0 [51,53,54],hP 32767 0 [51,52],hP 524287 0 [51,56,55],hR 1048575 0 [51,57],hP 2097151 0 [51,58],hP 4194303 0 [51,59],hP 8388607 0 [60,7],hP 16777215 0 [60,61],hP 33554431 0 [51,60,62],hP 67108863 0 [42,51,63],hP 134217727 0 [42,64]],0,[(2,[0]),(11,[0]),(20,[0])]⟩⟩) .nil .nil) .nil) .nil))) .nil .nil) .nil))))) (.node (some (.node none .nil (.node none (.node none (.node (some ⟨[],0,⟨[hR 0 0 [2],hP 0 0 [1],hP 0 0 [7],hP 6 0 [32,33],hE 15 0 [31,34],hP 31 1 [35],hP 63 1 [30],hP 63 1 [30],hP 0 1 [],hE 383 1 [8,36],hP 1023 2 [37]],2,[(0,[0])]⟩⟩) .nil .nil) .nil) .nil)))
 (.node (some (.node none (.node none (.node none .nil (.node (some ⟨[],0,⟨[hR 0 0 [9],hR 0 0 [12],hP 0 0 [13],hE 1 0 [6,52],hE 11 1 [7,53],hP 31 2 [54]],2,[(0,[0]),(1,[0,1])]⟩⟩) .nil .nil)) .nil) .nil))
 (.node none (.node (some (.node none .nil (.node none .nil (.node (some ⟨[],0,⟨[hP 0 0 [0],hP 0 0 [5],hP 3 0 [16,17],hR 7 0 [18],hP 0 0 [1],hP 0 0 [5],hP 48 0 [20,21],hR 112 0 [22],hP 255 0 [19,23]],0,[(3,[0]),(7,[0])]⟩⟩) .nil .nil))))
 (.node none .nil (.node (some (.node none .nil (.node none (.node (some ⟨[],9,⟨[hP 0 0 [1],hP 1 0 [23],hP 3 0 [24],hR 7 0 [25],hP 0 0 [0],hE 16 0 [27],hR 15 1 [26],hP 0 1 [],hE 255 1 [26,30]],2,[(3,[0,1]),(6,[0,1])]⟩⟩) .nil .nil) .nil))) .nil .nil)) .nil) (.node (some (.node (some ⟨[],0,⟨[hP 0 0 [0],hR 1 0 [2],hP 3 0 [3],hR 7 0 [4],hR 0 0 [1],hP 16 0 [6],hP 48 0 [7],hR 112 0 [8],hE 255 0 [5,9],hP 511 1 [10]],1,[(1,[0]),(3,[0]),(4,[0]),(7,[0])]⟩⟩) .nil .nil)) .nil .nil)) (.node none (.node (some (.node none .nil (.node none .nil (.node none .nil (.node (some ⟨[],0,⟨[hR 0 0 [1],hR 0 0 [7],hP 0 0 [7],hR 4 0 [67],hP 0 0 [8],hP 28 0 [68,69],hR 60 0 [70],hE 127 0 [65,66,71],hP 255 1 [72],hP 511 1 [73],hP 1023 1 [74,7],hR 2047 1 [74,75],hP 1023 1 [74,8],hP 8191 1 [74,76,77],hP 16383 1 [74,78],hR 32767 1 [74,79],hP 1023 1 [74,7],hE 131071 1 [74,80,81],hP 262143 2 [74,82],hP 524287 2 [83]],2,[(0,[0]),(1,[0]),(3,[0]),(6,[0]),(11,[1]),(15,[1])]⟩⟩) .nil .nil)))))
 (.node none (.node (some (.node none (.node (some ⟨[],0,⟨[hP 0 0 [3],hR 1 0 [6],hP 0 0 [0],hP 4 0 [8],hP 12 0 [9],hR 28 0 [10],hP 0 0 [3],hR 64 0 [12],hR 252 0 [11,13],hP 0 0 [0],hP 0 0 [3],hR 1024 0 [16],hE 3584 0 [15,17],hP 8191 1 [7,14,18],hP 0 1 [],hE 32767 1 [4,19]],2,[(1,[0,1]),(5,[0,1]),(7,[0,1]),(8,[0,1]),(11,[0])]⟩⟩) .nil .nil) .nil)) .nil .nil) (.node (some (.node (some ⟨[],0,⟨[hR 0 0 [0],hP 1 0 [2],hP 3 0 [3],hP 7 0 [4],hR 15 0 [5],hR 0 0 [1],hR 0 0 [0],hE 64 0 [8],hP 255 1 [6,7],hP 511 1 [10],hE 1023 1 [11,9]],2,[(0,[0,1]),(4,[0,1]),(5,[0,1]),(6,[0])]⟩⟩) .nil .nil)) .nil .nil)) .nil) (.node (some (.node none .nil (.node none .nil (.node (some ⟨[],0,⟨[hP 0 0 [2],hR 1 0 [26],hP 0 0 [5],hR 4 0 [28],hP 15 0 [27,29],hP 31 0 [30],hR 63 0 [31],hP 0 0 [5],hR 128 0 [33],hP 511 0 [32,34],hP 1023 0 [35]],0,[(1,[0]),(3,[0]),(6,[0]),(8,[0])]⟩⟩) .nil .nil))))
 .nil (.node none (.node (some (.node none .nil (.node (some ⟨[],0,⟨[hP 0 0 [0],hP 0 0 [1],hP 0 0 [2],hP 6 0 [13,14],hP 1 0 [12],hP 31 0 [16,15],hR 63 0 [17]],0,[(6,[0])]⟩⟩) .nil .nil))) .nil .nil) .nil)))) (.node none (.node (some (.node none .nil (.node none (.node none (.node (some ⟨[],0,⟨[hP 0 0 [5],hR 1 0 [24],hP 0 0 [7],hR 4 0 [26],hR 12 0 [27],hP 28 0 [28,28],hP 60 0 [29],hP 124 0 [30],hE 255 0 [25,31],hP 511 1 [5],hE 1023 1 [33,32]],2,[(1,[0]),(3,[0]),(4,[0])]⟩⟩) .nil .nil) .nil) .nil)))
 (.node (some (.node none (.node none (.node none (.node (some ⟨[],0,⟨[hP 0 0 [5],hR 1 0 [27],hP 0 0 [4],hE 4 0 [29],hP 12 1 [30],hE 31 1 [28,31],hP 63 2 [5],hE 127 2 [33,32]],3,[(1,[0,1])]⟩⟩) .nil .nil) .nil) .nil) (.node none .nil (.node none .nil (.node (some ⟨[],0,⟨[hP 0 0 [],hP 0 0 [4],hP 2 0 [58],hP 6 0 [59],hR 14 0 [60],hE 1 0 [2,57],hE 63 1 [3,61]],2,[(4,[0,1])]⟩⟩) .nil .nil)))))
 (.node (some (.node none .nil (.node (some ⟨[],0,⟨[hP 0 0 [0],hP 1 0 [6],hP 3 0 [7],hP 7 0 [8],hR 15 0 [9],hP 0 0 [3],hP 0 0 [0],hP 64 0 [12],hP 192 0 [13],hP 448 0 [14],hR 960 0 [15],hE 2016 0 [11,16],hP 4064 1 [17],hP 8160 1 [18],hP 16383 1 [10,19],hP 0 1 [],hE 65535 1 [4,20]],2,[(4,[0,1]),(10,[0])]⟩⟩) .nil .nil)))
 .nil (.node (some (.node none .nil (.node none (.node (some ⟨[],0,⟨[hP 0 0 [1],hR 1 0 [15],hP 3 0 [16],hP 7 0 [17],hP 15 0 [18,1],hR 31 0 [18,19],hP 63 0 [18,20],hP 127 0 [18,21],hP 255 0 [22],hP 511 0 [23,1],hR 1023 0 [23,24],hE 2047 0 [23,25],hP 4095 1 [23,26],hP 8191 1 [23,27],hP 16383 1 [28],hP 32767 1 [29,1],hR 65535 1 [29,30],hP 131071 1 [29,31],hP 262143 1 [29,32],hP 524287 1 [33],hP 1048575 1 [34,1],hR 2097151 1 [34,35],hR 4194303 1 [34,36],hP 1048575 1 [34,1],hR 9437183 1 [34,38],hE 26214399 1 [34,39],hP 67108863 2 [34,37,40],hP 134217727 2 [34,41],hP 268435455 2 [42],hP 536870911 2 [43,1],hR 1073741823 2 [43,44],hR 2147483647 2 [43,45],hP 4294967295 2 [43,46],hP 8589934591 2 [43,47],hP 17179869183 2 [48],hP 34359738367 2 [49,3],hP 68719476735 2 [49,50],hP 137438953471 2 [49,51],hP 274877906943 2 [52,1],hR 549755813887 2 [52,53],hP 1099511627775 2 [52,54],hP 2199023255551 2 [49,52,55],hP 4398046511103 2 [49,56]],2,[(1,[0]),(5,[0]),(10,[0]),(16,[1]),(21,[1,2]),(22,[1,2]),(24,[1]),(30,[2]),(31,[2]),(39,[2])]⟩⟩) .nil .nil) .nil))) .nil .nil)) (.node (some (.node none (.node (some ⟨[],0,⟨[hR 0 0 [1],hE 1 0 [5],hP 0 1 [2],hR 4 1 [7],hE 15 1 [6,8],hP 31 2 [9]],2,[(0,[0]),(3,[0,1])]⟩⟩) .nil .nil) .nil))
 (.node (some (.node none (.node (some ⟨[],0,⟨[hR 0 0 [0],hP 1 0 [3],hP 3 0 [4],hR 7 0 [5],hP 15 0 [6],hP 31 0 [7],hR 63 0 [8],hR 0 0 [0],hP 128 0 [10],hP 384 0 [11],hR 896 0 [12],hP 2047 0 [9,13]],0,[(0,[0]),(3,[0]),(6,[0]),(7,[0]),(10,[0])]⟩⟩) .nil .nil) .nil)) .nil .nil) .nil)) (.node (some (.node none (.node none (.node none (.node (some ⟨[],0,⟨[hP 0 0 [12],hE 1 0 [89],hP 0 1 [7],hR 4 1 [91],hR 15 1 [90,92],hP 31 1 [93],hP 63 1 [88],hP 63 1 [88],hP 127 1 [94],hP 511 1 [95]],1,[(3,[0,1]),(4,[1])]⟩⟩) .nil .nil) (.node none (.node (some ⟨[],0,⟨[hP 0 0 [11],hR 0 0 [17],hP 1 0 [136],hE 7 0 [9,137],hP 15 1 []],1,[(1,[0])]⟩⟩) .nil .nil) .nil)) (.node (some ⟨[],0,⟨[hP 0 0 [12],hE 1 0 [79],hP 0 1 [7],hR 4 1 [81],hR 15 1 [80,82],hP 31 1 [83],hP 63 1 [78],hP 63 1 [78],hP 127 1 [84],hP 511 1 [85]],1,[(3,[0,1]),(4,[1])]⟩⟩)
 (.node (some ⟨[],0,⟨[hP 0 0 [12],hE 1 0 [98],hP 0 1 [7],hR 4 1 [100],hR 15 1 [99,101],hP 31 1 [102]],1,[(3,[0,1]),(4,[1])]⟩⟩) .nil .nil) .nil)) (.node (some ⟨[],0,⟨[hR 0 0 [4],hP 0 0 [1],hE 3 0 [20,21],hP 7 1 [22],hP 15 1 [23],hP 31 1 [24,2],hP 63 1 [24,25],hP 127 1 [24,26],hP 255 1 [27],hP 511 1 [28,2],hP 511 1 [28,4],hR 1535 1 [28,30],hR 3583 1 [28,31],hP 8191 1 [28,29,32],hP 16383 1 [28,33],hP 32767 1 [34],hP 65535 1 [35,7],hR 131071 1 [35,36],hP 262143 1 [35,37],hP 524287 1 [35,38],hP 1048575 1 [39],hP 2097151 1 [40,7],hR 4194303 1 [40,41],hP 2097151 1 [40,11],hR 10485759 1 [40,43],hP 33554431 1 [40,42,44],hP 67108863 1 [40,45],hP 134217727 1 [46],hP 268435455 1 [47,7],hR 536870911 1 [47,48],hE 1073741823 1 [47,49],hP 268435455 2 [47,4],hR 2415919103 2 [47,51],hP 268435455 2 [47,7],hR 8858370047 2 [47,53],hP 32480690175 2 [47,52,54],hP 66840428543 2 [47,55],hR 135559905279 2 [47,56],hP 274877906943 2 [47,50,57],hP 549755813887 2 [47,58]],2,[(0,[0]),(11,[1]),(12,[1]),(17,[1]),(22,[1]),(24,[1]),(29,[1]),(32,[1,2]),(34,[1,2]),(37,[1,2])]⟩⟩)
 (.node (some ⟨[],0,⟨[hP 0 0 [2],hP 0 0 [11],hP 0 0 [7],hR 4 0 [64],hP 14 0 [63,65],hP 0 0 [4],hR 32 0 [67],hP 0 0 [7],hR 128 0 [69],hP 480 0 [68,70],hP 992 0 [71],hR 2016 0 [72],hP 0 0 [11],hR 0 0 [7],hP 16383 0 [62,66,73,74,75],hP 32767 0 [76],hP 65535 0 [77]],0,[(3,[0]),(6,[0]),(8,[0]),(11,[0]),(13,[0])]⟩⟩)
 (.node none (.node (some ⟨[],0,⟨[hP 0 0 [1],hE 1 0 [123],hP 0 1 [2],hP 0 1 [7],hR 8 1 [126],hP 0 1 [7],hR 32 1 [128],hP 96 1 [129],hP 252 1 [125,127,130],hP 3 1 [124],hE 1023 1 [9,131],hP 2047 2 []],2,[(4,[0,1]),(6,[0,1])]⟩⟩) .nil .nil) .nil) .nil) (.node none (.node none (.node (some ⟨[],0,⟨[hP 0 0 [11],hR 0 0 [17],hP 1 0 [134],hE 7 0 [9,135],hP 15 1 []],1,[(1,[0])]⟩⟩) .nil .nil) .nil) .nil))))
 (.node (some (.node none (.node none .nil (.node (some ⟨[],0,⟨[hP 0 0 [0],hP 0 0 [3],hP 0 0 [0],hP 0 0 [3],hP 0 0 [0],hP 0 0 [3],hP 48 0 [15,16],hP 112 0 [17],hR 240 0 [18],hE 496 0 [19],hP 0 1 [0],hP 0 1 [3],hP 3072 1 [21,22],hP 7168 1 [23],hR 15360 1 [24],hE 32752 1 [25],hP 65523 2 [11,12],hP 131059 2 [27],hE 262131 2 [28,20],hP 524287 3 [13,14],hP 1048575 3 [29],hE 2097151 3 [30,26]],4,[(8,[0]),(14,[0,1])]⟩⟩) .nil .nil)) .nil)) .nil .nil) (.node none (.node (some (.node none (.node none (.node (some ⟨[],0,⟨[hR 0 0 [0],hP 1 0 [12],hP 3 0 [13],hR 7 0 [14],hP 15 0 [15],hP 31 0 [16],hR 63 0 [17],hR 0 0 [0],hP 128 0 [19],hP 384 0 [20],hR 896 0 [21],hP 2047 0 [18,22],hP 4095 0 [23]],0,[(0,[0]),(3,[0]),(6,[0]),(7,[0]),(10,[0])]⟩⟩) .nil .nil) .nil) .nil)) .nil .nil) .nil))) (.node (some (.node none (.node (some ⟨[],0,⟨[hR 0 0 [4],hP 0 0 [1],hP 2 0 [17],hP 6 0 [18],hR 14 0 [19],hP 0 0 [2],hR 0 0 [7],hE 127 0 [16,20,21,22],hP 255 1 [23],hP 511 1 [15],hP 511 1 [15],hP 511 1 [15],hP 0 1 [],hP 5119 1 [24],hE 14335 1 [11,25],hP 32767 2 [26]],2,[(0,[0]),(4,[0]),(6,[0])]⟩⟩)
 (.node none .nil (.node (some ⟨[],0,⟨[hP 0 0 [4],hR 1 0 [72],hP 0 0 [2],hP 7 0 [73,74],hP 15 0 [75],hR 31 0 [76],hP 0 0 [13],hP 64 0 [78],hP 192 0 [79],hR 448 0 [80],hP 1023 0 [77,81],hR 2047 0 [82],hP 0 0 [],hE 8191 0 [14,83]],1,[(1,[0]),(5,[0]),(9,[0]),(11,[0])]⟩⟩)
 (.node (some ⟨[],0,⟨[hP 0 0 [13],hP 0 0 [13],hP 0 0 [13],hP 0 0 [11],hR 8 0 [135],hP 0 0 [11],hR 32 0 [137],hP 1 0 [132],hP 129 0 [139],hE 385 0 [140],hP 923 1 [133],hP 1947 1 [141],hE 3995 1 [142,136],hP 8191 2 [134],hP 16383 2 [143],hE 32767 2 [144,138]],3,[(4,[0,1]),(6,[0,1,2])]⟩⟩) .nil .nil) .nil)) (.node none (.node none (.node (some ⟨[],0,⟨[hP 0 0 [13],hP 1 0 [115],hP 3 0 [116],hR 7 0 [117],hP 0 0 [14],hR 16 0 [119],hP 0 0 [11],hR 64 0 [121],hP 255 0 [118,120],hE 511 0 [123,122]],1,[(3,[0]),(5,[0]),(7,[0])]⟩⟩) .nil .nil) .nil) (.node none (.node (some ⟨[],0,⟨[hP 0 0 [13],hP 0 0 [13],hP 0 0 [11],hR 4 0 [150],hP 1 0 [148],hP 17 0 [152],hE 49 0 [153],hP 127 1 [149],hP 255 1 [154],hE 511 1 [155,151]],2,[(3,[0,1])]⟩⟩) .nil .nil) .nil))) .nil))
 (.node none (.node (some (.node none .nil (.node none .nil (.node (some ⟨[],0,⟨[hP 0 0 [2],hR 1 0 [25],hP 0 0 [5],hP 7 0 [26,27],hR 15 0 [28],hR 0 0 [6],hP 0 0 [2],hR 64 0 [31],hR 192 0 [32],hE 511 0 [29,30,33],hP 1023 1 [34]],1,[(1,[0]),(4,[0]),(5,[0]),(7,[0]),(8,[0])]⟩⟩) .nil .nil)))) .nil .nil) (.node none (.node (some (.node none (.node (some ⟨[],0,⟨[hR 0 0 [0],hP 1 0 [4],hP 3 0 [5],hR 7 0 [6],hR 0 0 [0],hP 16 0 [8],hP 48 0 [9],hR 112 0 [10],hP 255 0 [7,11],hP 511 0 [12]],0,[(0,[0]),(3,[0]),(4,[0]),(7,[0])]⟩⟩)
 .nil (.node (some ⟨[],0,⟨[hR 0 0 [0],hP 1 0 [25],hP 3 0 [26],hR 7 0 [27],hR 0 0 [0],hP 16 0 [29],hP 48 0 [30],hR 112 0 [31],hP 240 0 [32],hP 496 0 [33],hR 1008 0 [34],hP 0 0 [0],hE 4080 0 [35,36],hR 0 1 [0],hP 8192 1 [38],hP 24576 1 [39],hR 57344 1 [40],hP 122880 1 [41],hE 262128 1 [37,42],hP 524287 2 [28],hP 1048575 2 [44],hE 2097151 2 [45,43]],3,[(0,[0,1,2]),(3,[0,1,2]),(4,[0]),(7,[0]),(10,[0]),(13,[0,1]),(16,[0,1])]⟩⟩) .nil .nil)) (.node (some ⟨[],0,⟨[hP 0 0 [3],hP 1 0 [13],hP 3 0 [14],hR 7 0 [15],hR 0 0 [0],hP 16 0 [17],hP 48 0 [18],hR 112 0 [19],hP 255 0 [16,20]],0,[(3,[0]),(4,[0]),(7,[0])]⟩⟩) .nil .nil))) .nil .nil) .nil)) (.node none (.node (some (.node none (.node (some ⟨[],0,⟨[hP 0 0 [4],hR 1 0 [8],hP 0 0 [2],hP 7 0 [9,10],hP 15 0 [11],hR 31 0 [12],hP 63 0 [13],hP 127 0 [14],hP 255 0 [15,4],hR 511 0 [15,16],hP 255 0 [15,2],hP 2047 0 [15,17,18],hP 4095 0 [15,19],hR 8191 0 [15,20],hP 255 0 [15,3],hR 16639 0 [15,22],hP 255 0 [15,2],hP 114943 0 [15,23,24],hP 246015 0 [15,25],hR 508159 0 [15,26],hR 1032447 0 [15,27],hP 2097151 0 [15,21,28],hP 4194303 0 [15,29],hP 8388607 0 [30]],0,[(1,[0]),(5,[0]),(9,[0]),(13,[0]),(15,[0]),(19,[0]),(20,[0])]⟩⟩) .nil .nil) .nil))
 (.node (some (.node none (.node none .nil (.node (some ⟨[],0,⟨[hR 0 0 [0],hP 1 0 [15],hP 3 0 [16],hR 7 0 [17],hR 0 0 [0],hP 16 0 [19],hP 48 0 [20],hR 112 0 [21],hP 240 0 [22],hP 496 0 [23],hR 1008 0 [24],hR 0 0 [0],hP 2048 0 [26],hP 6144 0 [27],hR 14336 0 [28],hP 30720 0 [29],hE 65520 0 [25,30],hP 131071 1 [18],hP 262143 1 [32],hE 524287 1 [33,31]],2,[(0,[0,1]),(3,[0,1]),(4,[0]),(7,[0]),(10,[0]),(11,[0]),(14,[0])]⟩⟩) .nil .nil)) .nil)) .nil .nil) .nil) .nil))))) (.node none (.node (some (.node none (.node none (.node none .nil (.node none (.node (some ⟨[],0,⟨[hP 0 0 [15],hR 1 0 [112],hP 0 0 [17],hP 7 0 [113,114],hR 15 0 [115],hP 0 0 [12],hR 32 0 [117],hP 0 0 [17],hP 224 0 [118,119],hR 480 0 [120],hP 0 0 [5],hR 1024 0 [122],hP 4064 0 [121,123],hP 8191 0 [116,124]],0,[(1,[0]),(4,[0]),(6,[0]),(9,[0]),(11,[0])]⟩⟩) .nil .nil) .nil)) .nil) .nil))
 (.node (some (.node none (.node none (.node none .nil (.node (some ⟨[],0,⟨[hR 0 0 [8],hP 0 0 [9],hP 2 0 [51],hP 6 0 [52],hR 14 0 [53],hP 1 0 [50],hE 63 0 [5,54]],1,[(0,[0]),(4,[0])]⟩⟩) .nil .nil)) .nil) .nil))
 (.node none (.node (some (.node none .nil (.node none (.node none (.node none (.node (some ⟨[],0,⟨[hR 0 0 [16],hR 0 0 [14],hP 0 0 [15],hE 1 0 [6,116],hE 11 1 [7,117],hP 31 2 [118],hP 63 2 []],2,[(0,[0]),(1,[0,1])]⟩⟩) .nil .nil) .nil) (.node (some ⟨[],0,⟨[hR 0 0 [13],hP 0 0 [4],hR 2 0 [94],hE 6 0 [95],hP 15 1 [93,96],hP 0 1 [],hE 63 1 [16,97]],2,[(0,[0,1]),(2,[0])]⟩⟩) .nil .nil)) .nil)))
 .nil (.node none (.node (some (.node none (.node none .nil (.node (some ⟨[],0,⟨[hP 0 0 [0],hP 0 0 [1],hP 3 0 [20,21],hP 0 0 [0],hP 0 0 [2],hP 24 0 [23,24],hE 63 0 [22,25],hP 127 1 [26]],1,[]⟩⟩) .nil .nil)) .nil)) .nil .nil) .nil)) (.node (some (.node (some ⟨[],0,⟨[hR 0 0 [1],hP 1 0 [2],hP 3 0 [3],hR 7 0 [4],hP 0 0 [0],hR 16 0 [6],hP 0 0 [0],hR 64 0 [8],hP 192 0 [9],hR 448 0 [10],hR 0 0 [1],hP 1024 0 [12],hP 3072 0 [13],hR 7168 0 [14],hE 16320 0 [11,15],hP 32767 1 [5,7],hE 65535 1 [17,16]],2,[(0,[0,1]),(3,[0,1]),(5,[0,1]),(7,[0]),(9,[0]),(10,[0]),(13,[0])]⟩⟩) .nil .nil))
 (.node (some (.node none .nil (.node none .nil (.node (some ⟨[],0,⟨[hP 0 0 [9],hP 1 0 [47],hP 3 0 [48,3],hR 7 0 [48,49],hP 3 0 [48,5],hR 19 0 [48,51],hP 63 0 [48,50,52],hP 127 0 [48,53],hR 255 0 [48,54],hR 3 0 [48,5],hP 3 0 [48,7],hE 2047 0 [48,55,56,57],hP 4095 1 [48,58],hP 8191 1 [59],hP 16383 1 [60,5],hR 32767 1 [60,61],hP 65535 1 [60,62],hP 131071 1 [60,63],hP 262143 1 [64,8],hP 524287 1 [60,64,65],hP 1048575 1 [60,66],hP 2097151 1 [67]],1,[(3,[0]),(5,[0]),(8,[0]),(9,[0]),(15,[1])]⟩⟩) .nil .nil)))) .nil .nil) (.node (some (.node none (.node (some ⟨[],0,⟨[hP 0 0 [1],hR 1 0 [5],hP 3 0 [6],hP 7 0 [7],hP 15 0 [8,1],hR 31 0 [8,9],hP 15 0 [8,0],hP 79 0 [8,11],hP 207 0 [8,12],hR 463 0 [8,13],hR 15 0 [8,2],hP 1999 0 [8,14,15],hP 4095 0 [8,10,16],hP 8191 0 [8,17],hP 16383 0 [18]],0,[(1,[0]),(5,[0]),(9,[0]),(10,[0])]⟩⟩) .nil .nil) .nil))
 (.node (some (.node none .nil (.node none (.node (some ⟨[],0,⟨[hR 0 0 [0],hP 1 0 [22],hP 3 0 [23],hR 7 0 [24],hR 0 0 [0],hP 16 0 [26],hP 48 0 [27],hR 112 0 [28],hP 240 0 [29],hP 496 0 [30],hR 1008 0 [31],hP 2032 0 [32],hP 4095 0 [25],hP 8191 0 [34],hE 16383 0 [35,33]],1,[(0,[0]),(3,[0]),(4,[0]),(7,[0]),(10,[0])]⟩⟩) .nil .nil) .nil))) .nil .nil) .nil))) (.node (some (.node none (.node (some ⟨[],0,⟨[hP 0 0 [1],hR 1 0 [6],hE 3 0 [7],hP 0 1 [1],hR 8 1 [9],hE 31 1 [10],hP 31 2 [1],hE 127 2 [12,8],hP 255 3 [1],hE 511 3 [13,11]],4,[(1,[0]),(4,[0,1])]⟩⟩)
 (.node none .nil (.node (some ⟨[],0,⟨[hP 0 0 [1],hR 1 0 [47],hP 0 0 [5],hP 0 0 [1],hR 8 0 [50],hP 0 0 [5],hP 56 0 [51,52],hP 120 0 [53],hR 248 0 [54],hE 504 0 [55],hP 1023 1 [48,49],hP 2047 1 [57],hE 4095 1 [58,56]],2,[(1,[0,1]),(4,[0]),(8,[0])]⟩⟩) .nil .nil)) .nil) (.node none .nil (.node (some ⟨[],0,⟨[hP 0 0 [4],hP 0 0 [4],hP 0 0 [4],hP 4 0 [26],hP 12 0 [27],hR 28 0 [28],hE 60 0 [29],hP 0 1 [4],hP 128 1 [31],hP 384 1 [32],hR 896 1 [33],hE 2044 1 [34],hP 4093 2 [24],hP 8189 2 [36],hE 16381 2 [37,30],hP 32767 3 [25],hP 65535 3 [38],hE 131071 3 [39,35]],4,[(5,[0]),(10,[0,1])]⟩⟩) .nil .nil))))
 (.node none (.node none (.node (some (.node none (.node none .nil (.node (some ⟨[],0,⟨[hP 0 0 [5],hR 1 0 [13],hE 3 0 [14],hP 0 1 [5],hR 8 1 [16],hE 31 1 [17],hP 63 2 [15,18],hP 127 2 [19]],2,[(1,[0]),(4,[0,1])]⟩⟩) .nil .nil)) .nil)) .nil .nil) (.node (some (.node none .nil (.node (some ⟨[],0,⟨[hP 0 0 [0],hP 0 0 [3],hR 2 0 [10],hP 0 0 [3],hR 8 0 [12],hE 24 0 [13],hE 63 1 [9,11,14],hP 127 2 [15]],2,[(2,[0,1]),(4,[0])]⟩⟩)
 (.node none (.node (some ⟨[],0,⟨[hP 0 0 [0],hP 1 0 [27],hP 3 0 [28],hR 7 0 [29],hP 0 0 [3],hR 16 0 [31],hE 63 0 [30,32]],1,[(3,[0]),(5,[0])]⟩⟩) .nil .nil) .nil) .nil))) .nil .nil)) .nil) (.node (some (.node none (.node none .nil (.node (some ⟨[],0,⟨[hP 0 0 [5],hR 1 0 [16],hE 3 0 [17],hP 0 1 [5],hR 8 1 [19],hE 31 1 [20],hP 31 2 [5],hE 127 2 [22,18],hP 255 3 [5],hE 511 3 [23,21]],4,[(1,[0]),(4,[0,1])]⟩⟩) .nil .nil)) (.node none .nil (.node none .nil (.node (some ⟨[],0,⟨[hR 0 0 [3],hP 0 0 [1],hR 2 0 [51],hE 6 0 [52],hP 15 1 [50,53],hE 31 1 [2,54]],2,[(0,[0,1]),(2,[0])]⟩⟩) .nil .nil)))))
 (.node none (.node (some (.node none (.node (some ⟨[],0,⟨[hP 0 0 [0],hP 1 0 [3],hP 3 0 [4],hR 7 0 [5],hP 15 0 [6],hP 31 0 [7],hR 63 0 [8],hP 0 0 [0],hP 128 0 [10],hP 384 0 [11],hR 896 0 [12],hP 2047 0 [9,13]],0,[(3,[0]),(6,[0]),(10,[0])]⟩⟩) .nil .nil) .nil)) .nil .nil) (.node (some (.node none (.node none .nil (.node none (.node (some ⟨[],0,⟨[hP 0 0 [1],hR 1 0 [43],hP 3 0 [44],hP 7 0 [45],hP 15 0 [46,3],hP 31 0 [46,47],hP 63 0 [46,48],hP 127 0 [49],hP 255 0 [50,3],hP 511 0 [50,51],hP 1023 0 [50,52],hP 2047 0 [53],hP 4095 0 [54,3],hP 8191 0 [54,55],hP 16383 0 [54,4,56],hR 32767 0 [54,57],hP 4095 0 [54,1],hR 69631 0 [54,59],hE 262143 0 [54,58,60],hP 524287 1 [54,61],hP 1048575 1 [62]],1,[(1,[0]),(15,[0]),(17,[0])]⟩⟩) .nil .nil) .nil)) .nil)) .nil .nil)) (.node (some (.node none (.node (some ⟨[],0,⟨[hP 0 0 [0],hP 1 0 [4],hP 3 0 [5],hR 7 0 [6],hP 0 0 [1],hR 16 0 [8],hP 63 0 [7,9],hP 127 0 [10]],0,[(3,[0]),(5,[0])]⟩⟩) .nil .nil) .nil)) .nil .nil)))) (.node (some (.node none .nil (.node none (.node none .nil (.node (some ⟨[],0,⟨[hP 0 0 [6],hR 1 0 [88],hP 0 0 [8],hP 7 0 [89,90],hR 15 0 [91],hP 0 0 [7],hR 32 0 [93],hP 0 0 [8],hP 224 0 [94,95],hR 480 0 [96],hP 1023 0 [92,97]],0,[(1,[0]),(4,[0]),(6,[0]),(9,[0])]⟩⟩) .nil .nil)) (.node (some ⟨[],0,⟨[hP 0 0 [2],hR 1 0 [30],hP 0 0 [5],hP 7 0 [31,32],hR 15 0 [33],hP 0 0 [3],hR 32 0 [35],hP 0 0 [5],hP 224 0 [36,37],hR 480 0 [38],hP 0 0 [],hP 0 0 [],hE 3103 0 [6,34],hE 8191 1 [7,39]],2,[(1,[0]),(4,[0]),(6,[0,1]),(9,[0,1])]⟩⟩) .nil .nil))))
 (.node none (.node none .nil (.node (some (.node none (.node (some ⟨[],0,⟨[hR 0 0 [1],hE 1 0 [5],hP 0 1 [2],hR 4 1 [7],hE 15 1 [6,8],hP 31 2 [9]],2,[(0,[0]),(3,[0,1])]⟩⟩) .nil .nil) .nil)) .nil .nil)) (.node (some (.node (some ⟨[],0,⟨[hR 0 0 [0],hP 1 0 [2],hP 3 0 [3],hR 7 0 [4],hP 0 0 [1],hR 16 0 [6],hP 63 0 [5,7],hR 127 0 [8],hP 255 0 [9]],0,[(0,[0]),(3,[0]),(5,[0]),(7,[0])]⟩⟩)
 .nil (.node (some ⟨[],0,⟨[hR 0 0 [0],hP 1 0 [16],hP 3 0 [17],hR 7 0 [18],hP 0 0 [1],hR 16 0 [20],hP 63 0 [19,21],hR 127 0 [22],hP 255 0 [23],hP 511 0 [19,21],hE 1023 0 [25,24]],1,[(0,[0]),(3,[0]),(5,[0]),(7,[0])]⟩⟩) .nil .nil)))
 (.node none (.node (some (.node none (.node (some ⟨[],0,⟨[hP 0 0 [0],hP 1 0 [3],hP 3 0 [4],hR 7 0 [5],hP 15 0 [6],hP 31 0 [7],hR 63 0 [8],hP 0 0 [0],hP 128 0 [10],hP 384 0 [11],hR 896 0 [12],hP 2047 0 [9,13],hP 4095 0 [14],hP 8191 0 [15,0],hP 16383 0 [15,16],hP 32767 0 [15,17],hR 65535 0 [15,18],hP 131071 0 [15,19],hP 262143 0 [15,20],hR 524287 0 [15,21],hP 8191 0 [15,0],hP 1056767 0 [15,23],hP 3153919 0 [15,24],hR 7348223 0 [15,25],hE 16777215 0 [15,22,26],hP 33554431 1 [15,27],hP 67108863 1 [28]],1,[(3,[0]),(6,[0]),(10,[0]),(16,[0]),(19,[0]),(23,[0])]⟩⟩) .nil .nil) .nil)) .nil .nil) .nil) (.node (some (.node none (.node (some ⟨[],0,⟨[hP 0 0 [0],hE 1 0 [4],hP 3 1 [5],hP 7 1 [6,0],hP 15 1 [6,7],hP 31 1 [6,8],hR 63 1 [6,9],hP 7 1 [6,1],hR 135 1 [6,11],hP 511 1 [6,10,12],hP 1023 1 [6,13],hP 2047 1 [14]],1,[(6,[1]),(8,[1])]⟩⟩) .nil .nil) .nil))
 (.node (some (.node none (.node (some ⟨[],0,⟨[hR 0 0 [0],hP 1 0 [3],hP 3 0 [4],hP 7 0 [5],hR 15 0 [6],hR 0 0 [0],hP 32 0 [8],hP 96 0 [9],hR 224 0 [10],hP 480 0 [11],hP 992 0 [12],hR 2016 0 [13],hR 0 0 [0],hP 4096 0 [15],hP 12288 0 [16],hP 28672 0 [17],hR 61440 0 [18],hP 131040 0 [14,19],hE 262112 0 [20],hP 524287 1 [7],hP 1048575 1 [21]],1,[(0,[0,1]),(4,[0,1]),(5,[0]),(8,[0]),(11,[0]),(12,[0]),(16,[0])]⟩⟩) .nil .nil) .nil)) .nil .nil) .nil))) (.node (some (.node none .nil (.node (some ⟨[],0,⟨[hP 0 0 [3],hR 1 0 [15],hP 0 0 [2],hP 7 0 [16,17],hP 15 0 [18],hR 31 0 [19],hR 0 0 [6],hP 64 0 [21],hP 192 0 [22],hR 448 0 [23],hP 1023 0 [20,24],hR 2047 0 [25],hP 0 0 [],hE 8191 0 [7,26]],1,[(1,[0]),(5,[0]),(6,[0]),(9,[0]),(11,[0])]⟩⟩) .nil .nil)))
 (.node none (.node none (.node (some (.node none .nil (.node (some ⟨[],0,⟨[hR 0 0 [2],hR 0 0 [2],hP 2 0 [9],hP 6 0 [10],hP 14 0 [11],hR 30 0 [12],hR 0 0 [3],hP 64 0 [14],hE 254 0 [13,15],hP 511 1 [8],hP 1023 1 [17],hP 2047 1 [18],hE 4095 1 [19,16]],2,[(0,[0,1]),(1,[0]),(5,[0]),(6,[0])]⟩⟩) .nil .nil))) .nil .nil) .nil) (.node none (.node (some (.node none .nil (.node none (.node (some ⟨[],0,⟨[hR 0 0 [0],hP 1 0 [22],hP 3 0 [23],hR 7 0 [24],hR 0 0 [0],hP 16 0 [26],hP 48 0 [27],hR 112 0 [28],hP 240 0 [29],hP 496 0 [30],hR 1008 0 [31],hP 2032 0 [32],hP 4095 0 [25],hP 8191 0 [34],hE 16383 0 [35,33]],1,[(0,[0]),(3,[0]),(4,[0]),(7,[0]),(10,[0])]⟩⟩) .nil .nil) .nil))) .nil .nil) .nil)) (.node (some (.node (some ⟨[],0,⟨[hP 0 0 [1],hR 1 0 [4],hP 0 0 [0],hP 0 0 [1],hR 8 0 [7],hP 0 0 [0],hP 56 0 [8,9],hR 120 0 [10],hR 0 0 [2],hP 504 0 [11,12],hP 1023 0 [5,6],hE 2047 0 [14,13]],1,[(1,[0]),(4,[0]),(7,[0]),(8,[0])]⟩⟩) .nil .nil))
 (.node none (.node (some (.node none (.node none (.node (some ⟨[],0,⟨[hR 0 0 [0],hP 1 0 [5],hP 3 0 [6],hP 7 0 [7],hR 15 0 [8],hR 0 0 [0],hP 32 0 [10],hP 96 0 [11],hP 224 0 [12],hR 480 0 [13],hP 1023 0 [9,14],hE 2047 0 [15],hP 4095 1 [],hP 8191 1 [16]],1,[(0,[0]),(4,[0]),(5,[0]),(9,[0])]⟩⟩) .nil .nil) .nil) .nil)) .nil .nil) .nil) .nil)))) (.node (some (.node none (.node none .nil (.node (some ⟨[],0,⟨[hP 0 0 [3],hP 0 0 [1],hR 2 0 [22],hP 0 0 [4],hP 14 0 [23,24],hP 30 0 [25],hR 62 0 [26],hR 126 0 [27],hP 0 0 [1],hR 256 0 [29],hP 0 0 [4],hP 1792 0 [30,31],hP 3840 0 [32],hR 7936 0 [33],hR 16128 0 [34],hP 32766 0 [28,35],hP 65535 0 [21,36],hP 131071 0 [37]],0,[(2,[0]),(6,[0]),(7,[0]),(9,[0]),(13,[0]),(14,[0])]⟩⟩) .nil .nil)) .nil))
 (.node none (.node none .nil (.node none (.node none (.node (some (.node none (.node none (.node none (.node none (.node (some ⟨[],0,⟨[hP 0 0 [9],hP 1 0 [61],hP 3 0 [62],hP 7 0 [63,4],hR 15 0 [63,64],hP 31 0 [63,65],hP 63 0 [63,66],hP 127 0 [67],hP 255 0 [68,4],hR 511 0 [68,69],hP 255 0 [68,0],hP 1279 0 [68,71],hP 3327 0 [68,72],hR 7423 0 [68,73],hP 16383 0 [68,70,74],hP 32767 0 [68,75],hP 65535 0 [76],hP 131071 0 [77,4],hR 262143 0 [77,78],hP 524287 0 [77,79],hP 1048575 0 [77,80],hP 2097151 0 [77,81],hE 4194303 0 [77,82],hP 8388607 1 [77,83],hP 16777215 1 [84]],1,[(4,[0]),(9,[0]),(13,[0]),(18,[0])]⟩⟩) .nil .nil) .nil) .nil) .nil) .nil)) .nil .nil) .nil) (.node none (.node (some (.node none (.node (some ⟨[],0,⟨[hR 0 0 [0],hP 1 0 [4],hP 3 0 [5],hR 7 0 [6],hR 0 0 [0],hP 16 0 [8],hP 48 0 [9],hR 112 0 [10],hP 255 0 [7,11],hP 511 0 [12]],0,[(0,[0]),(3,[0]),(4,[0]),(7,[0])]⟩⟩) .nil .nil) (.node (some ⟨[],0,⟨[hR 0 0 [0],hP 1 0 [13],hP 3 0 [14],hR 7 0 [15],hP 15 0 [16],hP 31 0 [17],hR 63 0 [18],hR 0 0 [0],hP 128 0 [20],hP 384 0 [21],hR 896 0 [22],hE 2047 0 [19,23],hP 4095 1 [24],hP 8191 1 [25,3],hP 16383 1 [25,26],hP 32767 1 [25,27],hR 65535 1 [25,28],hP 131071 1 [25,29],hP 262143 1 [25,30]],1,[(0,[0]),(3,[0]),(6,[0]),(7,[0]),(10,[0]),(16,[1])]⟩⟩) .nil .nil))) .nil .nil) .nil))) (.node (some (.node none (.node (some ⟨[],0,⟨[hP 0 0 [4],hR 1 0 [7],hP 0 0 [2],hP 7 0 [8,9],hP 15 0 [10],hR 31 0 [11],hP 63 0 [12],hP 127 0 [13],hP 255 0 [14,4],hR 511 0 [14,15],hP 255 0 [14,2],hP 2047 0 [14,16,17],hP 4095 0 [14,18],hR 8191 0 [14,19],hP 255 0 [14,3],hR 16639 0 [14,21],hP 255 0 [14,2],hP 114943 0 [14,22,23],hP 246015 0 [14,24],hR 508159 0 [14,25],hR 1032447 0 [14,26],hP 2097151 0 [14,20,27],hP 4194303 0 [14,28],hP 8388607 0 [29]],0,[(1,[0]),(5,[0]),(9,[0]),(13,[0]),(15,[0]),(19,[0]),(20,[0])]⟩⟩) .nil .nil) .nil))
 (.node none (.node (some (.node none .nil (.node none .nil (.node none (.node (some ⟨[],0,⟨[hP 0 0 [3],hP 1 0 [34],hP 3 0 [35],hR 7 0 [36],hP 0 0 [5],hR 16 0 [38],hP 0 0 [5],hR 64 0 [40],hE 255 0 [37,39,41]],1,[(3,[0]),(5,[0]),(7,[0])]⟩⟩) .nil .nil) .nil)))) .nil .nil) (.node none (.node (some (.node none (.node (some ⟨[],0,⟨[hR 0 0 [0],hP 1 0 [3],hP 3 0 [4],hR 7 0 [5],hR 0 0 [0],hP 16 0 [7],hP 48 0 [8],hP 112 0 [9],hR 240 0 [10],hP 511 0 [6],hP 1023 0 [12],hE 2047 0 [13,11]],1,[(0,[0]),(3,[0]),(4,[0]),(8,[0])]⟩⟩) .nil .nil) .nil)) .nil .nil) .nil)) (.node none (.node none .nil (.node (some (.node none .nil (.node none (.node (some ⟨[],0,⟨[hP 0 0 [6],hR 1 0 [13],hP 3 0 [14],hP 7 0 [15],hP 15 0 [16,0],hP 31 0 [16,17],hP 63 0 [16,18],hR 127 0 [16,19],hP 15 0 [16,6],hR 271 0 [16,21],hR 1023 0 [16,20,22],hP 2047 0 [16,23],hP 4095 0 [16,24],hP 8191 0 [25],hP 16383 0 [26,0],hP 16383 0 [26,6],hR 49151 0 [26,28],hE 131071 0 [26,27,29],hP 262143 1 [26,30],hP 524287 1 [26,31]],1,[(1,[0]),(7,[0]),(9,[0]),(10,[0]),(16,[0])]⟩⟩) .nil .nil) .nil))) .nil .nil)) (.node (some (.node none (.node none .nil (.node none (.node none .nil (.node (some ⟨[],0,⟨[hP 0 0 [],hP 0 0 [7],hR 2 0 [87],hP 6 0 [88],hE 1 0 [4,86],hE 31 1 [5,89]],2,[(2,[0,1])]⟩⟩) .nil .nil)) .nil)) .nil)) .nil .nil)))) (.node (some (.node none (.node none (.node none (.node none (.node (some ⟨[],0,⟨[hP 0 0 [11],hR 0 0 [9],hP 1 0 [75],hE 7 0 [7,76],hP 15 1 []],1,[(1,[0])]⟩⟩) .nil .nil) .nil) (.node (some ⟨[],0,⟨[hP 0 0 [11],hR 0 0 [9],hP 0 0 [17],hP 1 0 [61],hE 11 0 [7,62],hP 31 1 [63]],1,[(1,[0])]⟩⟩) .nil .nil)) (.node none (.node (some ⟨[],0,⟨[hR 0 0 [3],hR 0 0 [9],hP 0 0 [2],hP 0 0 [13],hP 12 0 [44,45],hR 28 0 [46],hP 0 0 [12],hP 124 0 [47,48],hP 0 0 [12],hP 508 0 [49,50],hP 0 0 [12],hP 2044 0 [51,52],hE 4095 0 [42,43,53],hP 8191 1 [54],hP 16383 1 [41],hP 16383 1 [41],hP 16383 1 [41],hP 16383 1 [41],hP 0 1 [],hP 0 1 [],hE 819199 1 [14,55],hE 1900543 2 [15,56],hP 4063231 3 [57],hP 8388607 3 [58]],3,[(0,[0]),(1,[0]),(5,[0])]⟩⟩) .nil .nil) .nil)) .nil))
 (.node none (.node (some (.node none (.node none (.node (some ⟨[],0,⟨[hP 0 0 [],hR 0 0 [4],hE 1 0 [2,17],hE 7 1 [3,18]],2,[(1,[0,1])]⟩⟩) .nil .nil) (.node none .nil (.node none (.node (some ⟨[],0,⟨[hP 0 0 [5],hR 1 0 [78],hP 0 0 [11],hP 4 0 [80],hP 12 0 [81],hR 28 0 [82],hP 60 0 [83],hE 127 0 [79,84],hP 255 1 [5],hE 511 1 [86,85]],2,[(1,[0]),(5,[0])]⟩⟩) .nil .nil) .nil))) .nil))
 (.node none (.node (some (.node none (.node (some ⟨[],0,⟨[hP 0 0 [0],hP 1 0 [9],hP 3 0 [10],hR 7 0 [11],hP 0 0 [3],hR 16 0 [13],hR 63 0 [12,14],hP 127 0 [15],hP 255 0 [8],hP 255 0 [8],hP 511 0 [16],hP 2047 0 [17]],0,[(3,[0]),(5,[0]),(6,[0])]⟩⟩) .nil .nil) .nil)) .nil .nil) .nil) (.node (some (.node none (.node (some ⟨[],0,⟨[hP 0 0 [0],hP 1 0 [5],hP 3 0 [6],hR 7 0 [7],hP 15 0 [8],hP 31 0 [9],hP 63 0 [10,0],hP 127 0 [10,11],hP 255 0 [10,12],hR 511 0 [10,13],hP 63 0 [10,1],hR 1087 0 [10,15],hR 4095 0 [10,14,16],hP 8191 0 [10,17],hP 16383 0 [10,18],hP 32767 0 [19]],0,[(3,[0]),(9,[0]),(11,[0]),(12,[0])]⟩⟩) .nil .nil) (.node (some ⟨[],0,⟨[hP 0 0 [0],hP 1 0 [20],hP 3 0 [21],hR 7 0 [22],hP 0 0 [1],hR 16 0 [24],hE 63 0 [23,25]],1,[(3,[0]),(5,[0])]⟩⟩) .nil .nil)))
 (.node (some (.node none (.node (some ⟨[],0,⟨[hR 0 0 [0],hP 1 0 [3],hP 3 0 [4],hP 7 0 [5],hR 15 0 [6],hR 0 0 [0],hP 32 0 [8],hP 96 0 [9],hR 224 0 [10],hP 480 0 [11],hP 992 0 [12],hR 2016 0 [13],hP 4064 0 [14],hP 8191 0 [7,15],hP 16383 0 [16],hR 32767 0 [17,0],hP 65535 0 [17,18],hP 131071 0 [17,19],hP 262143 0 [17,20],hR 524287 0 [17,21],hR 32767 0 [17,0],hP 1081343 0 [17,23],hP 3178495 0 [17,24],hR 7372799 0 [17,25],hP 15761407 0 [17,26],hP 32538623 0 [17,27],hR 66093055 0 [17,28],hP 133201919 0 [17,29],hP 268435455 0 [17,22,30],hP 536870911 0 [17,31]],0,[(0,[0]),(4,[0]),(5,[0]),(8,[0]),(11,[0]),(15,[0]),(19,[0]),(20,[0]),(23,[0]),(26,[0])]⟩⟩)
 (.node (some ⟨[],0,⟨[hR 0 0 [0],hP 1 0 [33],hP 3 0 [34],hR 7 0 [35],hP 15 0 [36],hP 31 0 [37],hR 63 0 [38],hR 0 0 [0],hP 128 0 [40],hP 384 0 [41],hP 896 0 [42],hR 1920 0 [43],hP 4095 0 [39,44],hP 8191 0 [36],hP 16383 0 [46],hE 32767 0 [47,45]],1,[(0,[0]),(3,[0]),(6,[0]),(7,[0]),(11,[0])]⟩⟩) .nil .nil) .nil) .nil)) .nil .nil) .nil)) (.node (some (.node none .nil (.node none .nil (.node (some ⟨[],0,⟨[hP 0 0 [0],hP 0 0 [5],hP 3 0 [17,18],hR 7 0 [19],hP 0 0 [1],hP 0 0 [5],hP 48 0 [21,22],hR 112 0 [23],hP 255 0 [20,24]],0,[(3,[0]),(7,[0])]⟩⟩) .nil .nil))))
 (.node none (.node (some (.node none (.node none (.node (some ⟨[],0,⟨[hP 0 0 [0],hP 1 0 [11],hP 3 0 [12],hR 7 0 [13],hP 0 0 [0],hP 16 0 [15],hP 48 0 [16],hR 112 0 [17],hP 255 0 [14],hP 511 0 [19],hE 1023 0 [20,18]],1,[(3,[0]),(7,[0])]⟩⟩) .nil .nil) .nil) .nil)) .nil .nil) .nil) (.node (some (.node none (.node (some ⟨[],0,⟨[hP 0 0 [0],hP 0 0 [0],hP 2 0 [6],hP 6 0 [7],hR 14 0 [8],hP 0 0 [1],hR 32 0 [10],hP 96 0 [11],hE 254 0 [9,12],hP 511 1 [5],hP 1023 1 [14],hE 2047 1 [15,13]],2,[(4,[0]),(6,[0])]⟩⟩) .nil .nil) (.node (some ⟨[],0,⟨[hP 0 0 [0],hP 1 0 [16],hP 3 0 [17],hR 7 0 [18],hR 15 0 [19],hR 0 0 [2],hP 63 0 [20,21],hP 127 0 [22]],0,[(3,[0]),(4,[0]),(5,[0])]⟩⟩) .nil .nil))) .nil .nil))) (.node (some (.node none .nil (.node none (.node none .nil (.node (some ⟨[],0,⟨[hP 0 0 [6],hR 1 0 [76],hP 0 0 [8],hP 7 0 [77,78],hR 15 0 [79],hP 0 0 [7],hR 32 0 [81],hP 0 0 [8],hP 224 0 [82,83],hR 480 0 [84],hP 1023 0 [80,85]],0,[(1,[0]),(4,[0]),(6,[0]),(9,[0])]⟩⟩) .nil .nil)) (.node (some ⟨[],0,⟨[hP 0 0 [0],hP 0 0 [5],hP 3 0 [19,20],hR 7 0 [21],hP 0 0 [1],hP 0 0 [5],hP 48 0 [23,24],hR 112 0 [25],hP 0 0 [],hP 0 0 [],hE 783 0 [6,22],hE 2047 1 [7,26]],2,[(3,[0]),(7,[0,1])]⟩⟩) .nil .nil))))
 (.node none .nil (.node (some (.node none .nil (.node (some ⟨[],0,⟨[hP 0 0 [0],hP 1 0 [11],hP 3 0 [12],hR 7 0 [13],hR 0 0 [1],hP 31 0 [14,15],hP 63 0 [16]],0,[(3,[0]),(4,[0])]⟩⟩) .nil .nil))) .nil .nil)) (.node none (.node (some (.node none (.node (some ⟨[],0,⟨[hR 0 0 [0],hR 0 0 [0],hP 2 0 [4],hP 6 0 [5],hP 14 0 [6],hR 30 0 [7],hP 0 0 [1],hR 64 0 [9],hP 254 0 [8,10],hP 510 0 [11],hR 1022 0 [12],hE 2047 0 [3,13],hP 4095 1 [14]],1,[(0,[0]),(1,[0]),(5,[0]),(7,[0]),(10,[0])]⟩⟩) .nil .nil) .nil))
 (.node (some (.node none (.node (some ⟨[],0,⟨[hR 0 0 [0],hP 1 0 [4],hP 3 0 [5],hR 7 0 [6],hP 15 0 [7],hP 31 0 [8],hR 63 0 [9],hR 0 0 [0],hP 128 0 [11],hP 384 0 [12],hR 896 0 [13],hE 2047 0 [10,14],hP 4095 1 [15]],1,[(0,[0]),(3,[0]),(6,[0]),(7,[0]),(10,[0])]⟩⟩) .nil .nil) (.node none (.node (some ⟨[],0,⟨[hR 0 0 [0],hP 1 0 [18],hP 3 0 [19],hR 7 0 [20],hR 0 0 [0],hP 16 0 [22],hP 48 0 [23],hR 112 0 [24],hP 240 0 [25],hP 496 0 [26],hR 1008 0 [27],hP 0 0 [3],hP 0 0 [3],hP 4096 0 [30],hE 16368 0 [28,29,31],hP 32767 1 [21],hP 65535 1 [33],hE 131071 1 [34,32]],2,[(0,[0,1]),(3,[0,1]),(4,[0]),(7,[0]),(10,[0])]⟩⟩) .nil .nil) .nil))) .nil .nil) .nil) .nil))))))
end Go.As.Try
end
section
namespace Go.As.Try
open Go Go.As Go.Proofs
set_option maxRecDepth 100000
theorem agX:(List.range 308).map tab.get=(List.range 308).map (aqX Tryz.prog):=by kernel_rfl
theorem Wj:(List.range 263).map Uc.get=(List.range 263).map (fun g=>Tryz.prog.funcs[g]?):=by kernel_rfl
theorem amF:(List.range 263).all (fun g=>match Uc.get g with | some f=>aAg (UU (lim 308 tab) (hAt htab) g) f | none=>true)=true:=by kernel_rfl
theorem mixed:Tryz.prog.follows .mixedOrders=true:=by kernel_rfl
end Go.As.Try
namespace Go.Proofs
open Go.Shelf
def Tryz.laysM144_ren:Go.Shelf.Ren:=⟨fun | 144=>189 | 143=>210 | 219=>222 | 217=>221 | 225=>230 | 224=>231 | 267=>232 | 266=>229 | 314=>238 | n=>n,fun | 9=>9 | 4=>4 | 3=>3 | 5=>5 | 46=>283 | 146=>289 | 51=>286 | n=>n,fun | 1=>0 | n=>n⟩
theorem Tryz.laysM144:Go.Proofs.LaysM.n144 Tryz.prog Tryz.laysM144_ren where
 mixed:=by kernel_rfl
 f143:=Tryz.func210.trans (congrArg some (by kernel_rfl))
 f144:=Tryz.func189.trans (congrArg some (by kernel_rfl))
 f217:=Tryz.func221.trans (congrArg some (by kernel_rfl))
 f219:=Tryz.func222.trans (congrArg some (by kernel_rfl))
 f224:=Tryz.func231.trans (congrArg some (by kernel_rfl))
 f225:=Tryz.func230.trans (congrArg some (by kernel_rfl))
 f266:=Tryz.func229.trans (congrArg some (by kernel_rfl))
 f267:=Tryz.func232.trans (congrArg some (by kernel_rfl))
 f314:=Tryz.func238.trans (congrArg some (by kernel_rfl))
 t3:=Tryz.underlying3
 a3:=Tryz.isAgg3
 z3:=Tryz.sizeOf3
 v3:=Tryz.zeroValue3
 t4:=Tryz.underlying4
 a4:=Tryz.isAgg4
 z4:=Tryz.sizeOf4
 v4:=Tryz.zeroValue4
 t5:=Tryz.underlying5
 a5:=Tryz.isAgg5
 z5:=Tryz.sizeOf5
 v5:=Tryz.zeroValue5
 t9:=Tryz.underlying9
 a9:=Tryz.isAgg9
 z9:=Tryz.sizeOf9
 v9:=Tryz.zeroValue9
 t46:=Tryz.underlying283
 a46:=Tryz.isAgg283
 z46:=Tryz.sizeOf283
 v46:=Tryz.zeroValue283
 t51:=Tryz.underlying286
 a51:=Tryz.isAgg286
 z51:=Tryz.sizeOf286
 v51:=Tryz.zeroValue286
 t146:=Tryz.underlying289
 a146:=Tryz.isAgg289
 z146:=Tryz.sizeOf289
 v146:=Tryz.zeroValue289
 g1:=by kernel_rfl
 i3:=by kernel_rfl
 i4:=by kernel_rfl
 i5:=by kernel_rfl
 i9:=by kernel_rfl
 i46:=by kernel_rfl
 i51:=by kernel_rfl
 i146:=by kernel_rfl
 m1:=by kernel_rfl
 s1_3:=fun w h=>Go.Proofs.cell_of_shapedOpen_int (zero:=#[.int .i64 0]) (t:=3) h (of_decide_eq_true (by kernel_rfl)) (by kernel_rfl) rfl (by kernel_rfl) (by kernel_rfl) Tryz.underlying3
end Go.Proofs
end
section
namespace Go.As
noncomputable section
open Go.RowKit
def zD:List AV→St→T (AV×St):=fun args s=>match args with
 | [.lX e,.int .u8 (.lit (.ofNat c))]=>if c < 256 then .ret (.int .i64 (.op .cnt e (.lit (Int.ofNat c))),s) else .fail
 | args=>Ip args s
def zC:List AV→St→T (AV×St):=fun args s=>match args with
 | [.lX e,.int .u8 (.lit (.ofNat c))]=>if c < 256 then .ret (.int .i64 (.op .idx e (.lit (Int.ofNat c))),s) else .fail
 | args=>Io args s
def rH:List AV→St→T (AV×St):=fun args s=>match args with
 | [.str b,.lX e]=>if b.length < 4294967281 then .ret (.bool (.not (.eq (.op .con (.dat (nV b)) e) (.lit 0))),s) else .fail
 | args=>zF args s
theorem acV {x:UInt8} {c:Nat} (hc:c < 256):(D.i (x.toNat:Int)= .i (c:Int))↔x=UInt8.ofNat c:=by
 simp only [D.i.injEq,Int.ofNat_inj]
 constructor
 ·intro h
  rw [← h]
  simp
 ·intro h
  rw [h,UInt8.toNat_ofNat']
  omega
theorem acX {c:Nat} (hc:c < 256): ∀l:List UInt8,(Lib.countByte l (UInt8.ofNat c):Int)=avE (l.map fun b=> .i (b.toNat:Int)) (c:Int)
 | []=>rfl
 | x :: xs=>by
   have ih:=acX hc xs
   unfold Lib.countByte at *
   rw [List.count_cons,List.map_cons]
   simp only [avE]
   rw [← ih]
   by_cases h:x=UInt8.ofNat c
   ·rw [if_pos ((acV hc).2 h),if_pos (by simpa using h)]
    omega
   ·rw [if_neg (fun q=>h ((acV hc).1 q)),if_neg (by simpa using h)]
    omega
theorem WZ {c:Nat} (hc:c < 256): ∀(l:List UInt8) (i:Nat),(Lib.indexByte l (UInt8.ofNat c)= -1→wC (c:Int) (l.map fun b=> .i (b.toNat:Int)) (i:Int)= -1)∧(Lib.indexByte l (UInt8.ofNat c)≠-1→wC (c:Int) (l.map fun b=> .i (b.toNat:Int)) (i:Int)=(i:Int)+Lib.indexByte l (UInt8.ofNat c))
 | [],i=> ⟨fun _=>rfl,fun h=>absurd rfl h⟩
 | x :: xs,i=>by
   obtain⟨ih1,ih2⟩:=WZ hc xs (i+1)
   have hge:=Lib.indexByte_ge xs (UInt8.ofNat c)
   have hcast:(((i+1:Nat):Int))=(i:Int)+1:=by omega
   rw [hcast] at ih1 ih2
   have key:Lib.indexByte (x :: xs) (UInt8.ofNat c)=if x=UInt8.ofNat c then 0 else if Lib.indexByte xs (UInt8.ofNat c)= -1 then -1 else Lib.indexByte xs (UInt8.ofNat c)+1:=by
    simp only [Lib.indexByte,beq_iff_eq]
   have key2:wC (c:Int) ((x :: xs).map fun b=> .i (b.toNat:Int)) (i:Int)=if (x.toNat:Int)=(c:Int) then (i:Int) else wC (c:Int) (xs.map fun b=> .i (b.toNat:Int)) ((i:Int)+1):=rfl
   by_cases h:x=UInt8.ofNat c
   ·have h':=(acV hc).2 h
    simp only [D.i.injEq] at h'
    rw [key,key2,if_pos h,if_pos h']
    exact⟨fun q=>by omega,fun _=>by omega⟩
   ·have h': ¬(x.toNat:Int)=(c:Int):=fun q=>h ((acV hc).1 (by rw [q]))
    rw [key,key2,if_neg h,if_neg h']
    by_cases hi:Lib.indexByte xs (UInt8.ofNat c)= -1
    ·rw [if_pos hi]
     exact⟨fun _=>ih1 hi,fun q=>absurd rfl q⟩
    ·rw [if_neg hi]
     exact⟨fun q=>by omega,fun _=>by rw [ih2 hi]; omega⟩
theorem avD {c:Nat} (hc:c < 256) (l:List UInt8):OO (l.map fun b=> .i (b.toNat:Int)) (c:Int)=Lib.indexByte l (UInt8.ofNat c):=by
 obtain⟨h1,h2⟩:=WZ hc l 0
 unfold OO
 by_cases h:Lib.indexByte l (UInt8.ofNat c)= -1
 ·have:=h1 h
  rw [h]; exact this
 ·have:=h2 h
  rw [show ((0:Nat):Int)=0 from rfl,Int.zero_add] at this
  exact this
theorem acT: ∀(c s:List UInt8),Zv (c.map fun b=> .i (b.toNat:Int)) (s.map fun b=> .i (b.toNat:Int))=c.isPrefixOf s
 | [],s=>by simp [Zv]
 | _ :: _,[]=>rfl
 | a :: x,b :: y=>by
   simp only [List.map_cons,Zv,List.isPrefixOf,acT x y]
   congr 1
   rw [Bool.eq_iff_iff,decide_eq_true_eq,beq_iff_eq]
   simp only [D.i.injEq,Int.ofNat_inj]
   exact UInt8.toNat_inj
theorem acW (c:List UInt8): ∀s:List UInt8,apO (s.map fun b=> .i (b.toNat:Int)) (c.map fun b=> .i (b.toNat:Int))=Lib.contains s c
 | []=>by
   cases c <;> simp [apO,Zv,Lib.contains,Lib.index]
 | b :: bs=>by
   have ih:=acW c bs
   have hp:=acT c (b :: bs)
   simp only [List.map_cons] at hp
   unfold Lib.contains at *
   simp only [List.map_cons,Lib.index,apO]
   rw [hp,ih]
   have hge:=index_ge c bs
   have key:(0≤(if c.isPrefixOf (b :: bs)=true then (0:Int) else if (Lib.index bs c == -1)=true then -1 else Lib.index bs c+1))↔(c.isPrefixOf (b :: bs)=true∨0≤Lib.index bs c):=by
    by_cases hq:c.isPrefixOf (b :: bs)=true
    ·simp [hq]
    ·by_cases h1:Lib.index bs c= -1
     ·simp [hq,h1]
     ·simp only [beq_iff_eq,hq,h1,if_false,false_or,Bool.false_eq_true]
      omega
   rw [Bool.eq_iff_iff,Bool.or_eq_true,decide_eq_true_eq]
   exact key.symm.trans decide_eq_true_iff.symm
section
variable {P:Program}
theorem agC [Glob] {g:FuncId} {fn:Func} (hf:P.funcs[g]?=some fn) (hname:(fn.name == "runtime.NumGoroutine")=false) (hb:fn.body.isNone=true) (hn:Extern.findNext fn=none) (he:Extern.find fn=some Extern.BytealgCount.count):mJ P g zD:=by
 intro aFG s E w vals u s' r hv hp hl
 unfold zD at hl
 split at hl
 ·rename_i e c
  split at hl
  ·rename_i hc
   have:=aF hl
   simp only [Prod.mk.injEq] at this
   obtain⟨rfl,rfl⟩:=this
   simp only [bJ,VR,SE.den] at hv
   obtain⟨u1,r1,rfl,hrd,u2,r2,rfl,rfl,rfl⟩:=hv
   obtain⟨st,rfl,hd⟩:=hrd.string
   refine⟨rfl,hp,?_⟩
   unfold tC sZ
   rw [Dc hf hname hb hn he (Lib.run_countString st (Int.ofNat c) w)]
   refine⟨E,Stp.refl _ _ _,r,?_⟩
   simp only [VR,SE.den,aG.den]
   have:(Int.ofNat c).toNat.toUInt8=UInt8.ofNat c:=rfl
   rw [this,acX hc,hd]
   unfold Aa vF
   rw [aX]
   rfl
  ·simp [T.leaf] at hl
 ·exact apP hf hname hb hn he _ _ _ _ _ _ _ r hv hp hl
theorem afG [Glob] {g:FuncId} {fn:Func} (hf:P.funcs[g]?=some fn) (hname:(fn.name == "runtime.NumGoroutine")=false) (hb:fn.body.isNone=true) (hn:Extern.findNext fn=none) (he:Extern.find fn=some Extern.BytealgIndexByte.indexByte):mJ P g zC:=by
 intro aFG s E w vals u s' r hv hp hl
 unfold zC at hl
 split at hl
 ·rename_i e c
  split at hl
  ·rename_i hc
   have:=aF hl
   simp only [Prod.mk.injEq] at this
   obtain⟨rfl,rfl⟩:=this
   simp only [bJ,VR,SE.den] at hv
   obtain⟨u1,r1,rfl,hrd,u2,r2,rfl,rfl,rfl⟩:=hv
   obtain⟨st,rfl,hd⟩:=hrd.string
   refine⟨rfl,hp,?_⟩
   unfold tC sZ
   rw [Dc hf hname hb hn he (Lib.run_indexByteString st (Int.ofNat c) w)]
   refine⟨E,Stp.refl _ _ _,r,?_⟩
   simp only [VR,SE.den,aG.den]
   have:(Int.ofNat c).toNat.toUInt8=UInt8.ofNat c:=rfl
   rw [this,← avD hc,hd]
   unfold Aa vF
   rw [aX]
   rfl
  ·simp [T.leaf] at hl
 ·exact alJ hf hname hb hn he _ _ _ _ _ _ _ r hv hp hl
theorem UO [Glob] {g:FuncId} (hg: ∀(ρ:Nat→Int) (ro:Nat→Prop) (w:World),Glob.ok ρ ro w.heap→∀s sub:ByteArray,s.size < 4294967281→Calls P g #[.string s,.string sub] w fun e w'=>e= .returned (.bool (Lib.contains s.data.toList sub.data.toList))∧w'=w)
 (hrun: ∀(args:Array Value) (w:World),(callFunc g args).run P w= .ok (.enter g args) w):mJ P g rH:=by
 intro aFG s E w vals u s' r hv hp hl
 unfold rH at hl
 split at hl
 ·rename_i b e
  split at hl
  ·rename_i hlen
   have:=aF hl
   simp only [Prod.mk.injEq] at this
   obtain⟨rfl,rfl⟩:=this
   simp only [bJ,VR] at hv
   obtain⟨u1,r1,rfl,⟨rfl,hbb⟩,u2,r2,rfl,hrd,rfl⟩:=hv
   obtain⟨st,rfl,hd⟩:=hrd.string
   refine⟨rfl,hp,?_⟩
   unfold tC sZ
   rw [hrun]
   refine Calls.mono (hg E.ρ E.ro w r.glob (bZ b) st (by simpa [bZ,ByteArray.size] using hlen)) fun e' w' ⟨he,hw⟩=>?_
   subst hw
   refine⟨_,he,E,Stp.refl _ _ _,r,?_⟩
   simp only [VR,SB.den,SE.den,aG.den,aC]
   have h2:(bZ b).data.toList=b.map UInt8.ofNat:=by simp [bZ]
   rw [h2,hd,Gu b hbb]
   unfold Aa vF
   rw [aX,aX,acW]
   cases Lib.contains (b.map UInt8.ofNat) st.data.toList <;> rfl
  ·simp [T.leaf] at hl
 ·exact Xa hg hrun _ _ _ _ _ _ _ r hv hp hl
end
end
end Go.As
end
section
namespace Go.As
noncomputable section
open Go.RowKit
mutual
def jQ (h:Hp):AV→AV→Bool
 | .bool (.lit a),v=>match v with
   | .bool (.lit b)=>a == b
   | _=>false
 | .int k (.lit a),v=>match v with
   | .int k' (.lit b)=>decide (k=k') && decide (a=b)
   | _=>false
 | .str s,v=>match v with
   | .str t=>jF s t
   | _=>false
 | .aA,v=>match v with
   | .aA=>true
   | _=>false
 | .agg ks,v=>match v with
   | .agg cs=>Nat.beq ks.length cs.length && yV h ks cs
   | _=>false
 | .ro ks n false,v=>match v with
   | .slice id off len _=>match Nat.beq n len with
     | true=>match n with
       | 0=>false
       | _=>match h.get id with
         | some (.cells cs _)=>match fE off cs with
           | some l=>yV h ks l
           | none=>false
         | _=>false
     | false=>false
   | .ro cs m _=>Nat.beq n m && yV h ks cs
   | _=>false
 | _,_=>false
def yV (h:Hp):List AV→List AV→Bool
 | [],_=>true
 | k :: ks,l=>match l with
   | v :: vs=>match jQ h k v with
     | true=>yV h ks vs
     | false=>false
   | []=>false
end
def QG (h:Hp) (aFG:List AV):List (List AV×AV)→Option AV
 | []=>none
 | (k,v) :: l=>match Nat.beq k.length aFG.length with
   | true=>match yV h k aFG with
     | true=>some v
     | false=>QG h aFG l
   | false=>QG h aFG l
def VO (tbl:List (List AV×AV)):List AV→St→T (AV×St):=fun aFG s=>match QG s.h aFG tbl with
 | some v=> .ret (v,s)
 | none=> .fail
def EF (key:List AV) (v:AV) (f:List AV→St→T (AV×St)):Bool:=
 jM v && (match f key ⟨.nil,Hp.zero,[]⟩ with | .ret (u,_)=>eU u v | _=>false)
section
variable {P:Program}
mutual
theorem afA [Glob] {E:En} {H:Hp} {w:World} (r:bG E H w) (ρ:Nat→Int): ∀(key v:AV) (u:Value),jQ H key v=true→VR E w.heap v u→VR (En.zero ρ (fun b=>b < w.heap.size)) w.heap key u
 | .bool b,v,u,hm,hv=>by
   cases b <;> simp only [jQ,Bool.false_eq_true] at hm
   split at hm
   ·simp only [beq_iff_eq] at hm
    subst hm
    simpa [VR,SB.den] using hv
   ·simp at hm
 | .int k e,v,u,hm,hv=>by
   cases e <;> simp only [jQ,Bool.false_eq_true] at hm
   split at hm
   ·simp only [Bool.and_eq_true,decide_eq_true_eq] at hm
    obtain⟨rfl,rfl⟩:=hm
    simpa [VR,SE.den] using hv
   ·simp at hm
 | .str s,v,u,hm,hv=>by
   simp only [jQ] at hm
   split at hm
   ·have:=(oV _ _).1 hm
    subst this
    simpa only [VR] using hv
   ·simp at hm
 | .aA,v,u,hm,hv=>by
   simp only [jQ] at hm
   split at hm
   ·simpa only [VR] using hv
   ·simp at hm
 | .agg ks,v,u,hm,hv=>by
   simp only [jQ] at hm
   split at hm
   ·rename_i cs
    simp only [Bool.and_eq_true] at hm
    simp only [VR] at hv ⊢
    obtain⟨us,rfl,h2⟩:=hv
    obtain⟨h3,h4⟩:=xP r ρ ks cs us hm.2 h2
    have e:=Nat.eq_of_beq_eq_true hm.1
    rw [e,← h2.length,List.take_length] at h3
    exact⟨us,rfl,h3⟩
   ·simp at hm
 | .ro ks n true,v,u,hm,hv=>by simp [jQ] at hm
 | .ro ks n false,v,u,hm,hv=>by
   simp only [jQ] at hm
   split at hm
   ·rename_i id off len c
    split at hm
    ·rename_i hn
     have hn:=Nat.eq_of_beq_eq_true hn
     subst hn
     split at hm
     ·simp at hm
     ·rename_i hn0
      split at hm
      ·rename_i cs e hg
       split at hm
       ·rename_i l hl
        simp only [VR] at hv ⊢
        obtain⟨hd,a,cap,rfl,hle,hcap⟩:=hv
        obtain⟨_,ho,_⟩:=r.live id _ hg
        simp only [OR] at ho
        obtain⟨arr,lo,hi,us,hb,h2,h3,_,_,_,h7⟩:=ho
        obtain⟨q1,q2,q3⟩:=h2.fE hl
        obtain⟨p1,p2⟩:=xP r ρ ks l _ hm q1
        have ha:a=⟨(E.θ id).1,(E.θ id).2+off,none⟩:=by
         cases c with
         | exact c=>
           simp only [fJ] at hcap
           rcases hcap.2 with h | h
           ·exact h
           ·exact absurd (by omega) hn0
         | rest es=>
           simp only [fJ] at hcap
           rcases hcap with h | h
           ·exact h.1
           ·exact absurd (by omega) hn0
        subst ha
        have hlt:(E.θ id).1 < w.heap.size:=(Array.getElem?_eq_some_iff.1 hb).1
        refine⟨_,_,cap,_,rfl,hle,by simp,hlt,p1,?_,?_⟩
        ·intro i x hx
         have hx':us[off+i]?=some x:=by
          rw [List.getElem?_take] at hx
          split at hx
          ·rw [List.getElem?_drop] at hx; exact hx
          ·simp at hx
         have:=h3 _ _ hx'
         unfold hcell
         rw [hb]
         simp only
         rw [← this]
         congr 1
         omega
        ·intro x hx
         exact h7 x (List.mem_of_mem_drop (List.mem_of_mem_take hx))
       ·simp at hm
      ·simp at hm
    ·simp at hm
   ·rename_i cs m f
    simp only [Bool.and_eq_true] at hm
    have hn:=Nat.eq_of_beq_eq_true hm.1
    subst hn
    simp only [VR] at hv ⊢
    obtain⟨b,o,cap,us,rfl,h2,h3,h4,h5,h6,h7⟩:=hv
    obtain⟨p1,p2⟩:=xP r ρ ks cs _ hm.2 h5
    refine⟨b,o,cap,_,rfl,h2,by simp,r.AZ b h4,p1,?_,fun x hx=>h7 x (List.mem_of_mem_take hx)⟩
    intro i x hx
    rw [List.getElem?_take] at hx
    split at hx
    ·exact h6 i x hx
    ·simp at hx
   ·simp at hm
 | .ptr _ _,v,u,hm,_=>by simp [jQ] at hm
 | .jJ,v,u,hm,_=>by simp [jQ] at hm
 | .qU _,v,u,hm,_=>by simp [jQ] at hm
 | .slice _ _ _ _,v,u,hm,_=>by simp [jQ] at hm
 | .map _,v,u,hm,_=>by simp [jQ] at hm
 | .lW,v,u,hm,_=>by simp [jQ] at hm
 | .func _ _ _,v,u,hm,_=>by simp [jQ] at hm
 | .yU,v,u,hm,_=>by simp [jQ] at hm
 | .iface _ _,v,u,hm,_=>by simp [jQ] at hm
 | .Es,v,u,hm,_=>by simp [jQ] at hm
 | .tuple _,v,u,hm,_=>by simp [jQ] at hm
 | .opq _,v,u,hm,_=>by simp [jQ] at hm
 | .inp _ _,v,u,hm,_=>by simp [jQ] at hm
theorem xP [Glob] {E:En} {H:Hp} {w:World} (r:bG E H w) (ρ:Nat→Int): ∀(ks vs:List AV) (us:List Value),yV H ks vs=true→bJ E w.heap vs us→
 bJ (En.zero ρ (fun b=>b < w.heap.size)) w.heap ks (us.take ks.length)∧ks.length≤us.length
 | [],vs,us,_,_=>by simp [bJ]
 | k :: ks,[],us,hm,_=>by simp [yV] at hm
 | k :: ks,v :: vs,us,hm,hv=>by
   simp only [yV] at hm
   split at hm
   ·rename_i h1
    rw [aW] at hv
    obtain⟨u,us',rfl,hu,hus⟩:=hv
    obtain⟨p1,p2⟩:=xP r ρ ks vs us' hm hus
    rw [List.length_cons,List.take_succ_cons,aW]
    exact⟨⟨u,_,rfl,afA r ρ k v u h1 hu,p1⟩,by simp; exact p2⟩
   ·simp at hm
end
theorem MB {h:Hp} {aFG:List AV} {v:AV}: ∀{tbl:List (List AV×AV)},QG h aFG tbl=some v→∃k,(k,v)∈tbl∧k.length=aFG.length∧yV h k aFG=true
 | [],hl=>by simp [QG] at hl
 | (k,x) :: l,hl=>by
   simp only [QG] at hl
   split at hl
   ·rename_i h1
    split at hl
    ·rename_i h2
     simp only [Option.some.injEq] at hl
     subst hl
     exact⟨k,by simp,Nat.eq_of_beq_eq_true h1,h2⟩
    ·obtain⟨k',h1,h2⟩:=MB hl
     exact⟨k',by simp [h1],h2⟩
   ·obtain⟨k',h1,h2⟩:=MB hl
    exact⟨k',by simp [h1],h2⟩
theorem Mc [Glob] {g:FuncId} {f:List AV→St→T (AV×St)} (hf:mJ P g f) {fn:Func} (hfn:P.funcs[g]?=some fn) (hname:(fn.name == "runtime.NumGoroutine")=false) {c:Code} (hb:fn.body=some c)
 {tbl:List (List AV×AV)} (h: ∀p∈tbl,EF p.1 p.2 f=true):mJ P g (VO tbl):=by
 intro aFG s E w vals u s' r hv hp hl
 unfold VO at hl
 split at hl
 ·rename_i v hlook
  have:=aF hl
  simp only [Prod.mk.injEq] at this
  obtain⟨rfl,rfl⟩:=this
  obtain⟨k,hmem,hlen,aE0⟩:=MB hlook
  have hk:=h _ hmem
  unfold EF at hk
  simp only [Bool.and_eq_true] at hk
  obtain⟨h2,h3⟩:=hk
  split at h3
  ·rename_i u' s1 hrun
   have hu:=nJ _ _ h3
   subst hu
   obtain⟨p1,_⟩:=xP r E.ρ k aFG vals aE0 hv
   rw [hlen,← hv.length,List.take_length] at p1
   have hgl:Glob.ok E.ρ (fun b=>b < w.heap.size) w.heap:=Glob.keep r.glob r.AZ fun _ _=>rfl
   have hc:=GI hf hfn hname hb (ρ:=E.ρ) (ro:=fun b=>b < w.heap.size) (w:=w) (fun _ h=>h) hgl p1 (v:=u') (s':=s1) (by rw [hrun]; rfl)
   refine⟨rfl,hp,?_⟩
   have hrun:(callFunc g vals.toArray).run P w= .ok (.enter g vals.toArray) w:=by
    unfold callFunc
    simp [hfn,hb,by simpa using hname]
   unfold tC sZ
   rw [hrun]
   exact Calls.mono hc fun e w' ⟨x,E',he,hx,_,hbl⟩=> ⟨x,he,E,(Du r hbl).1,(Du r hbl).2,Dp u' x h2 hx⟩
  ·simp at h3
 ·simp [T.leaf] at hl
end
end
end Go.As
end
section
namespace Go.As.Try
open Go Go.As Go.Proofs Go.RowKit
set_option maxRecDepth 100000
def maxLen:Nat:=Tryz.laysM144_ren.g 1
def base:Xr where
 ok ro h:=ro maxLen∧∃m,hcell h maxLen 0=some (.int .i64 m)
 keep:=by
  intro ro ro' h h' hk h1 h2
  obtain⟨a,m,hm⟩:=hk
  refine⟨h1 _ a,m,?_⟩
  unfold hcell at *
  rw [h2 _ a]
  exact hm
noncomputable def tt0:TT:=lim 308 tab
noncomputable def ft:Nat→Option Func:=lim 263 Uc
def owns:List (Nat×Nat):=[(22,3),(23,4),(26,0),(30,9),(31,7),(32,8),(47,0),(59,2),(60,5),(64,6),(262,14),(268,14),(165,1),(193,0),(233,1)]
noncomputable def ttE:TT:=VF owns tt0
noncomputable def hints:Nat→Nat→Option RY:=hAt htab
theorem KI:eG Tryz.prog tt0:=aqR agX
theorem agY:eG Tryz.prog ttE:=asG KI
theorem acE:agI Tryz.prog (UU tt0 hints) ft:=atD Wj amF
theorem aAL:agI Tryz.prog (UU ttE hints) ft:=by unfold ttE; rw [apS]; exact acE
def b (n:Nat):AV:=.int .u8 (.lit (.ofNat n))
def Oh:AV:=.agg [b 0,b 0,b 0,b 0,b 0,b 0,b 0,b 0,b 0,b 1,b 1,b 0,b 0,b 1,b 0,b 0,b 0,b 0,b 0,b 0,b 0,b 0,b 0,b 0,b 0,b 0,b 0,b 0,b 0,b 0,b 0,b 0,b 1,b 0,b 0,b 2,b 0,b 0,b 0,b 0,b 5,b 5,b 5,b 5,b 0,b 5,b 0,b 0,b 3,b 3,b 3,b 3,b 3,b 3,b 3,b 3,b 3,b 3,b 0,b 5,b 5,b 5,b 0,b 0,b 0,b 4,b 4,b 4,b 4,b 4,b 4,b 4,b 4,b 4,b 4,b 4,b 4,b 4,b 4,b 4,b 4,b 4,b 4,b 4,b 4,b 4,b 4,b 4,b 4,b 4,b 4,b 0,b 0,b 0,b 0,b 4,b 0,b 4,b 4,b 4,b 4,b 4,b 4,b 4,b 4,b 4,b 4,b 4,b 4,b 4,b 4,b 4,b 4,b 4,b 4,b 4,b 4,b 4,b 4,b 4,b 4,b 4,b 4,b 5,b 0,b 5,b 0,b 0,b 0,b 0,b 0,b 0,b 0,b 0,b 0,b 0,b 0,b 0,b 0,b 0,b 0,b 0,b 0,b 0,b 0,b 0,b 0,b 0,b 0,b 0,b 0,b 0,b 0,b 0,b 0,b 0,b 0,b 0,b 0,b 0,b 0,b 0,b 0,b 0,b 0,b 0,b 0,b 0,b 0,b 0,b 0,b 0,b 0,b 0,b 0,b 0,b 0,b 0,b 0,b 0,b 0,b 0,b 0,b 0,b 0,b 0,b 0,b 0,b 0,b 0,b 0,b 0,b 0,b 0,b 0,b 0,b 0,b 0,b 0,b 0,b 0,b 0,b 0,b 0,b 0,b 0,b 0,b 0,b 0,b 0,b 0,b 0,b 0,b 0,b 0,b 0,b 0,b 0,b 0,b 0,b 0,b 0,b 0,b 0,b 0,b 0,b 0,b 0,b 0,b 0,b 0,b 0,b 0,b 0,b 0,b 0,b 0,b 0,b 0,b 0,b 0,b 0,b 0,b 0,b 0,b 0,b 0,b 0,b 0,b 0,b 0,b 0,b 0,b 0,b 0,b 0]
theorem DU {g:Nat} {f:Func} (h:Uc.get g=some f) (hg:g < 263):Tryz.prog.funcs[g]?=some f:=by
 have:=congrArg (fun l=>l[g]?) Wj
 simp only [List.getElem?_map,List.getElem?_range hg,Option.map_some,Option.some.injEq] at this
 rw [← this]
 exact h
theorem azZ {g:Nat} {f:Func} (hf:Tryz.prog.funcs[g]?=some f) (hn:(f.name == "runtime.NumGoroutine")=false) (hb:f.body.isNone=false): ∀(args:Array Value) (w:World),(callFunc g args).run Tryz.prog w= .ok (.enter g args) w:=by
 intro args w
 unfold callFunc
 simp only [Sem.run_bind,run_program,Result.andThen_ok,hf]
 rw [hn,hb]
 simp
def acA (g:Nat):Option (List AV→St→T (AV×St)):=
 match Nat.beq g 209 with
 | true=>some zD
 | false=>match Nat.beq g 229 with
   | true=>some zC
   | false=>match Nat.beq g 189 with
     | true=>some rH
     | false=>none
theorem aAa:Tryz.laysM144_ren.f 144=189:=by kernel_rfl
section
variable (I:Glob) (hI: ∀ρ ro h,I.ok ρ ro h→base.ok ro h)
theorem f209:@mJ I Tryz.prog 209 zD:=@agC _ I 209 Tryz.f209 (DU (by kernel_rfl) (by decide)) (by kernel_rfl) (by kernel_rfl) (by kernel_rfl) (by kernel_rfl)
theorem f229:@mJ I Tryz.prog 229 zC:=@afG _ I 229 Tryz.f229 (DU (by kernel_rfl) (by decide)) (by kernel_rfl) (by kernel_rfl) (by kernel_rfl) (by kernel_rfl)
include hI in
theorem f189:@mJ I Tryz.prog 189 rH:=by
 letI:=I
 refine UO ?_ (azZ (f:=Tryz.f189) (DU (by kernel_rfl) (by decide)) (by kernel_rfl) (by kernel_rfl))
 intro ρ ro w hw s sub hs
 obtain⟨_,m,hm⟩:=hI _ _ _ hw
 have:=Any.strings_Contains { Tryz.laysM144 with } s sub m w hs (by rw [sK]; exact hm)
 rw [aAa] at this
 exact this
include hI in
theorem V9: ∀(g:Nat) (h:List AV→St→T (AV×St)),acA g=some h→@mJ I Tryz.prog g h:=by
 intro g h hh
 unfold acA at hh
 split at hh
 ·rename_i hg
  have:=Nat.eq_of_beq_eq_true hg
  subst this
  simp at hh
  subst hh
  exact f209 I
 ·split at hh
  ·rename_i hg
   have:=Nat.eq_of_beq_eq_true hg
   subst this
   simp at hh
   subst hh
   exact f229 I
  ·split at hh
   ·rename_i hg
    have:=Nat.eq_of_beq_eq_true hg
    subst this
    simp at hh
    subst hh
    exact f189 I hI
   ·simp at hh
end
noncomputable def aCN (g:Nat):List AV→St→T (AV×St):=Ur tt0 ft acA (Ru tt0 hints) 100000 60 g
theorem arZ (I:Glob) (hI: ∀ρ ro h,I.ok ρ ro h→base.ok ro h) (g:Nat):@mJ I Tryz.prog g (aCN g):=@Gm _ I _ KI _ _ acE _ (V9 I hI) _ (fun _ hc=>@Gq _ I _ KI mixed _ _ hc) 100000 60 g
theorem Xc:gives [] Oh (aCN 184)=true:=by kernel_rfl
theorem Af {f:Func} (h:f.body.isSome=true): ∃c,f.body=some c:=Option.isSome_iff_exists.1 h
theorem Zy (I:Glob) (hI: ∀ρ ro h,I.ok ρ ro h→base.ok ro h):@mJ I Tryz.prog 184 (memo [] Oh):=by
 letI:=I
 obtain⟨c,hb⟩:=Af (f:=Tryz.f184) (by kernel_rfl)
 exact J8 (arZ I hI 184) (fn:=Tryz.f184) (DU (by kernel_rfl) (by decide)) (by kernel_rfl) hb Xc
def V8 (g:Nat):Option (List AV→St→T (AV×St)):=
 match Nat.beq g 184 with
 | true=>some (memo [] Oh)
 | false=>acA g
theorem MW (I:Glob) (hI: ∀ρ ro h,I.ok ρ ro h→base.ok ro h): ∀(g:Nat) (h:List AV→St→T (AV×St)),V8 g=some h→@mJ I Tryz.prog g h:=by
 intro g h hh
 unfold V8 at hh
 split at hh
 ·rename_i hg
  have:=Nat.eq_of_beq_eq_true hg
  subst this
  simp at hh
  subst hh
  exact Zy I hI
 ·exact V9 I hI g h hh
noncomputable def Lr (g:Nat):List AV→St→T (AV×St):=Ur tt0 ft V8 (Ru tt0 hints) 100000 60 g
theorem vS (I:Glob) (hI: ∀ρ ro h,I.ok ρ ro h→base.ok ro h) (g:Nat):@mJ I Tryz.prog g (Lr g):=@Gm _ I _ KI _ _ acE _ (MW I hI) _ (fun _ hc=>@Gq _ I _ KI mixed _ _ hc) 100000 60 g
def JQ:List Nat:=[109,117,116,101,120,32,109,59,32,116,104,114,101,97,100,32,97,32,123,32,108,111,99,107,32,109,59,32,117,110,108,111,99,107,32,109,59,32,125,32,116,104,114,101,97,100,32,98,32,123,32,108,111,99,107,32,109,59,32,117,110,108,111,99,107,32,109,59,32,125]
def Hr:List Nat:=[109,117,116,101,120,32,109,59,32,109,117,116,101,120,32,110,59,32,116,104,114,101,97,100,32,97,32,123,32,108,111,99,107,32,109,59,32,108,111,99,107,32,110,59,32,125,32,116,104,114,101,97,100,32,98,32,123,32,108,111,99,107,32,110,59,32,108,111,99,107,32,109,59,32,125]
abbrev wN (t:List Nat) (n:Int):List AV:=[.str t,.int .i64 (.lit n)]
abbrev wV (k:Int) (s:List Nat) (a b c d:Int):AV:=.tuple [.agg [.int .u8 (.lit k),.str s,.int .i64 (.lit a),.int .i64 (.lit b),.int .i64 (.lit c),.int .i64 (.lit d)],.agg [.int .i64 (.lit 0),.int .i64 (.lit 0)]]
theorem aAl:gives [.str [97]] (.bool (.lit true)) (Lr 131)=true:=by kernel_rfl
theorem aAk:gives [.str [98]] (.bool (.lit true)) (Lr 131)=true:=by kernel_rfl
def VX:List (List AV×AV):=[(wN JQ 0,wV 3 [109,117,116,101,120] 0 1 0 5),(wN JQ 5,wV 2 [109] 0 1 6 7),(wN JQ 7,wV 4 [59] 0 1 7 8),(wN JQ 8,wV 3 [116,104,114,101,97,100] 0 1 9 15),(wN JQ 15,wV 2 [97] 0 1 16 17),(wN JQ 17,wV 4 [123] 0 1 18 19),(wN JQ 19,wV 3 [108,111,99,107] 0 1 20 24),(wN JQ 24,wV 2 [109] 0 1 25 26),(wN JQ 26,wV 4 [59] 0 1 26 27),(wN JQ 27,wV 3 [117,110,108,111,99,107] 0 1 28 34),(wN JQ 34,wV 2 [109] 0 1 35 36),(wN JQ 36,wV 4 [59] 0 1 36 37),(wN JQ 37,wV 4 [125] 0 1 38 39),(wN JQ 39,wV 3 [116,104,114,101,97,100] 0 1 40 46),(wN JQ 46,wV 2 [98] 0 1 47 48),(wN JQ 48,wV 4 [123] 0 1 49 50),(wN JQ 50,wV 3 [108,111,99,107] 0 1 51 55),(wN JQ 55,wV 2 [109] 0 1 56 57),(wN JQ 57,wV 4 [59] 0 1 57 58),(wN JQ 58,wV 3 [117,110,108,111,99,107] 0 1 59 65),(wN JQ 65,wV 2 [109] 0 1 66 67),(wN JQ 67,wV 4 [59] 0 1 67 68),(wN JQ 68,wV 4 [125] 0 1 69 70),(wN JQ 70,wV 5 [] 0 1 70 70),(wN Hr 0,wV 3 [109,117,116,101,120] 0 1 0 5),(wN Hr 5,wV 2 [109] 0 1 6 7),(wN Hr 7,wV 4 [59] 0 1 7 8),(wN Hr 8,wV 3 [109,117,116,101,120] 0 1 9 14),(wN Hr 14,wV 2 [110] 0 1 15 16),(wN Hr 16,wV 4 [59] 0 1 16 17),(wN Hr 17,wV 3 [116,104,114,101,97,100] 0 1 18 24),(wN Hr 24,wV 2 [97] 0 1 25 26),(wN Hr 26,wV 4 [123] 0 1 27 28),(wN Hr 28,wV 3 [108,111,99,107] 0 1 29 33),(wN Hr 33,wV 2 [109] 0 1 34 35),(wN Hr 35,wV 4 [59] 0 1 35 36),(wN Hr 36,wV 3 [108,111,99,107] 0 1 37 41),(wN Hr 41,wV 2 [110] 0 1 42 43),(wN Hr 43,wV 4 [59] 0 1 43 44),(wN Hr 44,wV 4 [125] 0 1 45 46),(wN Hr 46,wV 3 [116,104,114,101,97,100] 0 1 47 53),(wN Hr 53,wV 2 [98] 0 1 54 55),(wN Hr 55,wV 4 [123] 0 1 56 57),(wN Hr 57,wV 3 [108,111,99,107] 0 1 58 62),(wN Hr 62,wV 2 [110] 0 1 63 64),(wN Hr 64,wV 4 [59] 0 1 64 65),(wN Hr 65,wV 3 [108,111,99,107] 0 1 66 70),(wN Hr 70,wV 2 [109] 0 1 71 72),(wN Hr 72,wV 4 [59] 0 1 72 73),(wN Hr 73,wV 4 [125] 0 1 74 75),(wN Hr 75,wV 5 [] 0 1 75 75)]
theorem aC3:VX.all (fun p=>EF p.1 p.2 (Lr 122))=true:=by kernel_rfl
def abQ:List AV:=[.agg [.ro [.int .u8 (.lit 1),.str [109],.int .i64 (.lit 0),.str [],.int .i64 (.lit 1)] 1 false,.ro [.str [97],.ro [.int .u8 (.lit 1),.int .u8 (.lit 1),.str [109],.str [],.int .i64 (.lit 0),.aA,.aA,.aA,.int .i64 (.lit 1),.int .u8 (.lit 1),.int .u8 (.lit 2),.str [109],.str [],.int .i64 (.lit 0),.aA,.aA,.aA,.int .i64 (.lit 1)] 2 false,.int .i64 (.lit 1),.str [98],.ro [.int .u8 (.lit 1),.int .u8 (.lit 1),.str [109],.str [],.int .i64 (.lit 0),.aA,.aA,.aA,.int .i64 (.lit 1),.int .u8 (.lit 1),.int .u8 (.lit 2),.str [109],.str [],.int .i64 (.lit 0),.aA,.aA,.aA,.int .i64 (.lit 1)] 2 false,.int .i64 (.lit 1)] 2 false]]
theorem aC5:EF abQ (.agg [.int .i64 (.lit 0),.int .i64 (.lit 0)]) (Lr 74)=true:=by kernel_rfl
def abP:List AV:=[.agg [.ro [.int .u8 (.lit 1),.str [109],.int .i64 (.lit 0),.str [],.int .i64 (.lit 1),.int .u8 (.lit 1),.str [110],.int .i64 (.lit 0),.str [],.int .i64 (.lit 1)] 2 false,.ro [.str [97],.ro [.int .u8 (.lit 1),.int .u8 (.lit 1),.str [109],.str [],.int .i64 (.lit 0),.aA,.aA,.aA,.int .i64 (.lit 1),.int .u8 (.lit 1),.int .u8 (.lit 1),.str [110],.str [],.int .i64 (.lit 0),.aA,.aA,.aA,.int .i64 (.lit 1)] 2 false,.int .i64 (.lit 1),.str [98],.ro [.int .u8 (.lit 1),.int .u8 (.lit 1),.str [110],.str [],.int .i64 (.lit 0),.aA,.aA,.aA,.int .i64 (.lit 1),.int .u8 (.lit 1),.int .u8 (.lit 1),.str [109],.str [],.int .i64 (.lit 0),.aA,.aA,.aA,.int .i64 (.lit 1)] 2 false,.int .i64 (.lit 1)] 2 false]]
theorem aC4:EF abP (.agg [.int .i64 (.lit 0),.int .i64 (.lit 0)]) (Lr 74)=true:=by kernel_rfl
def abM:List (List AV×AV):=[(abQ,.agg [.int .i64 (.lit 0),.int .i64 (.lit 0)]),(abP,.agg [.int .i64 (.lit 0),.int .i64 (.lit 0)])]
def abS:List AV:=[.agg [.ro [.int .u8 (.lit 1),.str [109],.int .i64 (.lit 0),.str [],.int .i64 (.lit 1)] 1 false,.ro [.str [97],.aA,.ro [.int .u8 (.lit 1),.int .u8 (.lit 1),.int .i64 (.lit 0),.int .i64 (.lit (-1)),.int .i64 (.lit 0),.int .i64 (.lit 0),.aA,.int .u8 (.lit 1),.int .u8 (.lit 2),.int .i64 (.lit 0),.int .i64 (.lit (-1)),.int .i64 (.lit 0),.int .i64 (.lit 0),.aA] 2 false,.str [98],.aA,.ro [.int .u8 (.lit 1),.int .u8 (.lit 1),.int .i64 (.lit 0),.int .i64 (.lit (-1)),.int .i64 (.lit 0),.int .i64 (.lit 0),.aA,.int .u8 (.lit 1),.int .u8 (.lit 2),.int .i64 (.lit 0),.int .i64 (.lit (-1)),.int .i64 (.lit 0),.int .i64 (.lit 0),.aA] 2 false] 2 false]]
theorem aC7:EF abS (.int .i64 (.lit 0)) (Lr 41)=true:=by kernel_rfl
def abR:List AV:=[.agg [.ro [.int .u8 (.lit 1),.str [109],.int .i64 (.lit 0),.str [],.int .i64 (.lit 1),.int .u8 (.lit 1),.str [110],.int .i64 (.lit 0),.str [],.int .i64 (.lit 1)] 2 false,.ro [.str [97],.aA,.ro [.int .u8 (.lit 1),.int .u8 (.lit 1),.int .i64 (.lit 0),.int .i64 (.lit (-1)),.int .i64 (.lit 0),.int .i64 (.lit 0),.aA,.int .u8 (.lit 1),.int .u8 (.lit 1),.int .i64 (.lit 1),.int .i64 (.lit (-1)),.int .i64 (.lit 0),.int .i64 (.lit 0),.aA] 2 false,.str [98],.aA,.ro [.int .u8 (.lit 1),.int .u8 (.lit 1),.int .i64 (.lit 1),.int .i64 (.lit (-1)),.int .i64 (.lit 0),.int .i64 (.lit 0),.aA,.int .u8 (.lit 1),.int .u8 (.lit 1),.int .i64 (.lit 0),.int .i64 (.lit (-1)),.int .i64 (.lit 0),.int .i64 (.lit 0),.aA] 2 false] 2 false]]
theorem aC6:EF abR (.int .i64 (.lit 0)) (Lr 41)=true:=by kernel_rfl
def abN:List (List AV×AV):=[(abS,.int .i64 (.lit 0)),(abR,.int .i64 (.lit 0))]
noncomputable def alU (g:Nat):Option (List AV→St→T (AV×St)):=
 match Nat.beq g 122 with
 | true=>some (orElse (VO VX) (Lr 122))
 | false=>match Nat.beq g 74 with
 | true=>some (orElse (VO abM) (Lr 74))
 | false=>match Nat.beq g 41 with
 | true=>some (orElse (VO abN) (Lr 41))
 | false=>V8 g
theorem alT (I:Glob) (hI: ∀ρ ro h,I.ok ρ ro h→base.ok ro h): ∀(g:Nat) (h:List AV→St→T (AV×St)),alU g=some h→@mJ I Tryz.prog g h:=by
 intro g h hh
 letI:=I
 unfold alU at hh
 split at hh
 ·rename_i hg
  have:=Nat.eq_of_beq_eq_true hg
  subst this
  simp only [Option.some.injEq] at hh
  subst hh
  obtain⟨c,hb⟩:=Af (f:=Tryz.f122) (by kernel_rfl)
  refine xI (Mc (vS I hI 122) (fn:=Tryz.f122) (DU (by kernel_rfl) (by decide)) (by kernel_rfl) hb fun p hp=>?_) (vS I hI 122)
  exact List.all_eq_true.1 aC3 p hp
 ·skip
  split at hh
  ·rename_i hg
   have:=Nat.eq_of_beq_eq_true hg
   subst this
   simp only [Option.some.injEq] at hh
   subst hh
   obtain⟨c,hb⟩:=Af (f:=Tryz.f74) (by kernel_rfl)
   refine xI (Mc (vS I hI 74) (fn:=Tryz.f74) (DU (by kernel_rfl) (by decide)) (by kernel_rfl) hb fun p hp=>?_) (vS I hI 74)
   simp only [abM,List.mem_cons,List.not_mem_nil,or_false] at hp
   rcases hp with rfl | rfl
   ·exact aC5
   ·exact aC4
  ·skip
   split at hh
   ·rename_i hg
    have:=Nat.eq_of_beq_eq_true hg
    subst this
    simp only [Option.some.injEq] at hh
    subst hh
    obtain⟨c,hb⟩:=Af (f:=Tryz.f41) (by kernel_rfl)
    refine xI (Mc (vS I hI 41) (fn:=Tryz.f41) (DU (by kernel_rfl) (by decide)) (by kernel_rfl) hb fun p hp=>?_) (vS I hI 41)
    simp only [abN,List.mem_cons,List.not_mem_nil,or_false] at hp
    rcases hp with rfl | rfl
    ·exact aC7
    ·exact aC6
   ·skip
    exact MW I hI g h hh
noncomputable def aCM (g:Nat):List AV→St→T (AV×St):=Ur tt0 ft alU (Ru tt0 hints) 100000 60 g
theorem arY (I:Glob) (hI: ∀ρ ro h,I.ok ρ ro h→base.ok ro h) (g:Nat):@mJ I Tryz.prog g (aCM g):=@Gm _ I _ KI _ _ acE _ (alT I hI) _ (fun _ hc=>@Gq _ I _ KI mixed _ _ hc) 100000 60 g
theorem ZA:gives [] (.bool (.lit true)) (aCM 7)=true:=by kernel_rfl
section
variable (I:Glob) (hI: ∀ρ ro h,I.ok ρ ro h→base.ok ro h)
include hI
theorem aeV:@mJ I Tryz.prog 131 (memo [.str [97]] (.bool (.lit true))):=by
 letI:=I
 obtain⟨c,hb⟩:=Af (f:=Tryz.f131) (by kernel_rfl)
 exact J8 (vS I hI 131) (fn:=Tryz.f131) (DU (by kernel_rfl) (by decide)) (by kernel_rfl) hb aAl
theorem aeU:@mJ I Tryz.prog 131 (memo [.str [98]] (.bool (.lit true))):=by
 letI:=I
 obtain⟨c,hb⟩:=Af (f:=Tryz.f131) (by kernel_rfl)
 exact J8 (vS I hI 131) (fn:=Tryz.f131) (DU (by kernel_rfl) (by decide)) (by kernel_rfl) hb aAk
theorem agF:@mJ I Tryz.prog 7 (memo [] (.bool (.lit true))):=by
 letI:=I
 obtain⟨c,hb⟩:=Af (f:=Tryz.f7) (by kernel_rfl)
 exact J8 (arY I hI 7) (fn:=Tryz.f7) (DU (by kernel_rfl) (by decide)) (by kernel_rfl) hb ZA
end
def YL (g:Nat):Option (List AV→St→T (AV×St)):=
 match Nat.beq g 7 with
  | true=>some (memo [] (.bool (.lit true)))
  | false=>match Nat.beq g 131 with
  | true=>some (orElse (memo [.str [97]] (.bool (.lit true))) (memo [.str [98]] (.bool (.lit true))))
  | false=>V8 g
theorem afH (I:Glob) (hI: ∀ρ ro h,I.ok ρ ro h→base.ok ro h): ∀(g:Nat) (h:List AV→St→T (AV×St)),YL g=some h→@mJ I Tryz.prog g h:=by
 intro g h hh
 unfold YL at hh
 split at hh
 ·rename_i hg
  have:=Nat.eq_of_beq_eq_true hg
  subst this
  simp at hh
  subst hh
  exact agF I hI
 ·skip
  split at hh
  ·rename_i hg
   have:=Nat.eq_of_beq_eq_true hg
   subst this
   simp at hh
   subst hh
   letI:=I
   exact xI (aeV I hI) (aeU I hI)
  ·exact MW I hI g h hh
end Go.As.Try
end

import Derived.KernelRfl
import Derived.Test.YtaahpkjohjnjmaaGreatDoorProg
import Derived.Shelf.Strings.Search3
import Derived.Shelf.LaysM
import Derived.Shelf.Strings.Shaped
import Derived.Test.YtaahpkjohjnjmaaGreatDoorAsZP2
set_option linter.unusedSectionVars false
set_option linter.unusedVariables false
set_option linter.unusedSimpArgs false
section
namespace Go.As
open Go Go.RowKit
theorem add_add (a:Addr) (m n:Nat):(a.add m).add n=a.add (m+n):=by
 unfold Addr.add;by_cases h1:m=0
 ·subst h1; simp
 ·by_cases h2:n=0
  ·subst h2; simp
  ·simp [h1,h2,aDl]
def nM (i:Nat):List CK:=match rowOf i with
 | .one c=>[c]
 | .many cs=>cs
def MP (F:TypeId->Option (List CK)) (P:Program):List Field->Nat->Nat->Option (List CK)
 |[],o,tot=>if o=tot then some [] else none
 |f::fs,o,tot=>match F f.type with
  |none=>none
  |some cs=>if f.offset=o/\P.cellsOf f.type=cs.length then (match MP F P fs (o+cs.length) tot with
   |none=>none
   |some l=>some (cs++l)) else none
def AQ (P:Program) (own:TypeId->Option Nat):Nat->TypeId->Option (List CK)
 |0,_=>none
 |n+1,t=>match P.underlying t with
  |some .bool=>some [.bool]
  |some (.int k)=>some [.int k]
  |some .string=>some [.str]
  |some (.slice _)=>match own t with
   |some i=>some [.sl i]
   |none=>none
  |some (.struct fs)=>MP (AQ P own n) P fs.toList 0 (P.cellsOf t)
  |some (.array m e)=>match AQ P own n e with
   |some cs=>if P.cellsOf e=cs.length/\P.cellsOf t=m*cs.length then some (List.replicate m cs).flatten else none
   |none=>none
  |_=>none
def alH (P:Program) (own:TypeId->Option Nat):Prop:= ∀t i,own t=some i->∃e n,P.underlying t=some (.slice e)/\AQ P own n e=some (nM i)/\P.cellsOf e=(nM i).length/\G7 i<=P.bytesOf e/\0<(nM i).length
inductive Rs (ro:Nat->Prop) (h:Array Obj):List CK->List D->List Value->Prop where
 |nil:Rs ro h [] [] []
 |cons {c:CK} {d:D} {v:Value} {cs:List CK} {ds:List D} {vs:List Value} (r:Rd ro h c d v) (w:Wd c d) (t:Rs ro h cs ds vs):Rs ro h (c::cs) (d::ds) (v::vs)
section
variable {ro:Nat->Prop} {h:Array Obj}
theorem Rs.append {cs cs':List CK} {ds ds':List D} {vs vs':List Value} (a:Rs ro h cs ds vs) (b:Rs ro h cs' ds' vs'):Rs ro h (cs++cs') (ds++ds') (vs++vs'):=by
 induction a with
 |nil=>exact b
 |cons r w _ ih=>exact .cons r w ih
theorem Rs.len {cs:List CK} {ds:List D} {vs:List Value} (a:Rs ro h cs ds vs):ds.length=cs.length/\vs.length=cs.length:=by
 induction a with
 |nil=>exact⟨rfl,rfl⟩
 |cons r w _ ih=>exact⟨by simp [ih.1],by simp [ih.2]⟩
theorem Rs.at {cs:List CK} {ds:List D} {vs:List Value} (a:Rs ro h cs ds vs): ∀{j:Nat} {d:D} {c:CK},ds[j]?=some d->cs[j]?=some c->∃v,vs[j]?=some v/\Rd ro h c d v/\Wd c d:=by
 induction a with
 |nil=>intro j d c h1 _; simp at h1
 |cons r w _ ih=>
  intro j d c h1 h2
  cases j with
  |zero=> simp only [aC6,aCJ] at h1 h2;subst h1 h2;exact⟨_,rfl,r,w⟩
  |succ j=> simp only [aC7] at h1 h2;obtain⟨v,h3,h4⟩:=ih h1 h2;exact⟨v,by simpa using h3,h4⟩
end
theorem apT {l:List Nat} {m:Nat} (h:l.all (·<=m)=true): ∀x∈l,x<=m:=fun x hx=>by simpa using aC0.1 h x hx
theorem XJ {l:List Nat} {m:Nat} (h: ∀x∈l,x<=m):l.all (·<=m)=true:=aC0.2 fun x hx=>by simpa using h x hx
theorem apS {l l':List Nat} {m:Nat} (h:l.all (·<=m)=true) (s: ∀x∈l',x∈l):l'.all (·<=m)=true:=XJ fun x hx=>apT h x (s x hx)
theorem weightsAll_mem {H:Type} {P:Program} {e:TypeId}: ∀{l:List (DataW H)} {d:DataW H},d∈l->∀x∈d.weights P e,x∈DataW.weightsAll P e l
 |[],_,h,_,_=>by simp at h
 |d'::l,d,h,x,hx=>by
  simp only [DataW.weightsAll,aDp];rcases aCP.1 h with rfl|h
  ·exact .inl hx
  ·exact .inr (weightsAll_mem h x hx)
section
variable {P:Program} {own:TypeId->Option Nat} (ok:alH P own) {H:Type} {en:TypeId×Value->H} {W:World}
abbrev XA (W:World):Nat->Prop:=fun b=>b<W.heap.size
theorem aaI {b o:Nat} {v:Value} (h:W.cell? ⟨b,o,none⟩ = some v):b<W.heap.size:=by
 rw [sO] at h;unfold hcell at h;split at h
 ·rename_i hb;exact (aDx.1 hb).1
 ·simp at h
def Reads (P:Program) (own:TypeId->Option Nat) (en:TypeId×Value->H) (W:World) (fuel:Nat):Prop:=
 ∀(t:TypeId) (n:Nat) (Oz:List CK) (cs:List Value) (x:DataW H×List MemPlace),AQ P own n t=some Oz->DataW.trod en P W 0 (fun _=>true) true fuel t cs=some x->(x.1.weights P t).all (·<=reachBytes)=true->∃ds,Rs (XA W) W.heap Oz ds cs
theorem Jg {fuel:Nat} (ih:Reads P own en W fuel) {n:Nat} {cs:List Value} {tot:Nat} (hl:cs.length=tot): ∀(fs:List Field) (o:Nat) (Oz:List CK) (xs:List (DataW H×List MemPlace)),MP (AQ P own n) P fs o tot=some Oz->xs.length=fs.length->
 (∀(i:Nat) (f:Field),fs[i]?=some f->DataW.trod en P W 0 (fun _=>true) true fuel f.type ((cs.drop f.offset).take (P.cellsOf f.type))=xs[i]?)->
 (DataW.weightsEach P (fs.map (·.type)) (xs.map (·.1))).all (·<=reachBytes)=true->∃ds,Rs (XA W) W.heap Oz ds (cs.drop o)
 |[],o,Oz,xs,hf,_,_,_=>by
  simp only [MP] at hf;split at hf
  ·rename_i ho;simp only [aCJ] at hf;subst hf;rw [aE9 (by omega)];exact⟨[],.nil⟩
  ·simp at hf
 |f::fs,o,Oz,[],_,hx,_,_=>by simp at hx
 |f::fs,o,Oz,x::xs,hf,hx,ht,hw=>by
  simp only [MP] at hf;split at hf
  ·simp at hf
  ·rename_i c1 h1;split at hf
   ·rename_i ho;split at hf
    ·simp at hf
    ·rename_i l hl2;simp only [aCJ] at hf;subst hf;have h0:=ht 0 f rfl;rw [ho.1,ho.2] at h0;simp only [aCQ,DataW.weightsEach,aEw,aCM] at hw;obtain⟨ds,r1⟩:=ih f.type n c1 _ x h1 h0 hw.1;obtain⟨ds',r2⟩:=Jg ih hl fs (o+c1.length) l xs hl2 (by simpa using hx) (fun i g hg=>ht (i+1) g (by simpa using hg)) hw.2;refine⟨ds++ds',?_⟩
     have e:cs.drop o=(cs.drop o).take c1.length++cs.drop (o+c1.length):=by rw [<- aEW,aDD]
     rw [e];exact r1.append r2
   ·simp at hf
include ok in
theorem Vb {fuel:Nat} (ih:Reads P own en W fuel) {t e:TypeId} {i:Nat} (ht:P.underlying t=some (.slice e)) (ho:own t=some i) {cs:List Value} {x:DataW H×List MemPlace} (hx:DataW.trod en P W 0 (fun _=>true) true (fuel+1) t cs=some x) (hw:(x.1.weights P t).all (·<=reachBytes)=true) :
 ∃d v,cs= [v]/\Rd (XA W) W.heap (.sl i) d v/\Wd (.sl i) d:=by
 obtain⟨e',nf,ht',hfl,hce,hby,hpos⟩:=ok t i ho;rw [ht] at ht';simp only [aCJ,TypeDesc.slice.injEq] at ht';subst ht';rcases DataW.trod_slice ht hx with ⟨rfl,rfl⟩|⟨a,len,cap,elems,rest,n,hn,rfl,rfl,_,hlc,_,hlen,hel,_,_⟩
 ·exact⟨.i 1,_,rfl,.nil i,.nil i⟩
 ·simp only [Nat.succ.injEq] at hn;subst hn;rcases aDO len with h0|h0
  ·subst h0;exact⟨.i 2,_,rfl,.non i a cap,.non i⟩
  ·simp only [DataW.weights,ht,List.all_cons,aEw,aCM,decide_eq_true_eq,aDz] at hw
   have row: ∀k,k<len->∃cs ds,W.cells? 0 (a.add (k*(nM i).length)) (nM i).length=some cs/\Rs (XA W) W.heap (nM i) ds cs:=by intro k hk;have he:=hel k hk;rw [aCV (by omega),hce,aEl] at he;obtain⟨cs,h1,h2⟩:=he;obtain⟨ds,hr⟩:=ih e nf (nM i) cs _ hfl h2 (apS hw.2.1 (weightsAll_mem (List.mem_map_of_mem (aCY _))));exact⟨cs,ds,h1,hr⟩
   obtain⟨b,o,spot⟩:=a
   have hspot:spot=none:=by obtain⟨cs,ds,h1,hr⟩:=row 0 h0;obtain⟨_,h4,h5⟩:=World.cells?_some h1;have:=h5 0 hpos;rw [aCV (by omega)] at this;simpa [Addr.add] using World.cell?_spot this
   subst hspot
   have cell: ∀k,k<len->∃ds vs,Rs (XA W) W.heap (nM i) ds vs/\∀j,j<(nM i).length->hcell W.heap b (o+k*(nM i).length+j)=vs[j]?:=by
    intro k hk;obtain⟨cs,ds,h1,hr⟩:=row k hk;obtain⟨_,h4,h5⟩:=World.cells?_some h1;refine⟨ds,cs,hr,fun j hj=>?_⟩;have:=h5 j hj;rw [add_add] at this;have e2:(Addr.mk b o none).add (k*(nM i).length+j)=⟨b,o+k*(nM i).length+j,none⟩:=by simp [Addr.add,aDl]
    rw [e2,sO] at this;exact this
   have hb:b<W.heap.size:=by obtain⟨ds,vs,hr,hc⟩:=cell 0 h0;have:=hc 0 hpos;rw [aCV (by rw [hr.len.2]; exact hpos),<- sO] at this;exact aaI this
   have arF:len*G7 i<=140737488351232:=by
    have h1:(elems.length+rest.length)*P.bytesOf e<=reachBytes:=hw.1
    have h2:len*G7 i<=(elems.length+rest.length)*P.bytesOf e:=aEC (by omega) hby
    have h3:reachBytes=140737488351232:=rfl;omega
   classical
   let ds:Nat->List D:=fun k=>if h:k<len then (cell k h).choose else [];let vs:Nat->List Value:=fun k=>if h:k<len then (cell k h).choose_spec.choose else []
   have spec: ∀k,k<len->Rs (XA W) W.heap (nM i) (ds k) (vs k)/\∀j,j<(nM i).length->hcell W.heap b (o+k*(nM i).length+j)=(vs k)[j]?:=by intro k hk;have e1:ds k=(cell k hk).choose:=dif_pos hk;have e2:vs k=(cell k hk).choose_spec.choose:=dif_pos hk;rw [e1,e2];exact (cell k hk).choose_spec.choose_spec
   have get: ∀{k:Nat} {r:List D},((List.range len).map ds)[k]?=some r->k<len/\r=ds k:=by
    intro k r hk;rw [aDd] at hk
    have hk':k<len:=by
     rcases aCZ k len with h|h
     ·exact h
     ·rw [aEe (by simpa using h)] at hk; simp at hk
    rw [aEg hk'] at hk;simp only [aDo,aCJ] at hk;exact⟨hk',hk.symm⟩
   cases hrow:rowOf i with
   |one c=>
    have hks:nM i= [c]:=by unfold nM; rw [hrow]
    have aAy: ∀{k:Nat} {d:D},((List.range len).map fun k=>(ds k).headD (.i 0))[k]?=some d->k<len/\d=(ds k).headD (.i 0):=by
     intro k d hk;rw [aDd] at hk
     have hk':k<len:=by
      rcases aCZ k len with h|h
      ·exact h
      ·rw [aEe (by simpa using h)] at hk; simp at hk
     rw [aEg hk'] at hk;simp only [aDo,aCJ] at hk;exact⟨hk',hk.symm⟩
    have sp1: ∀k,k<len->∃d v,ds k= [d]/\hcell W.heap b (o+k)=some v/\Rd (XA W) W.heap c d v/\Wd c d:=by
     intro k hk;obtain⟨hr,hc⟩:=spec k hk;rw [hks] at hr hc
     match hdk:ds k,hvk:vs k,hr with
     |[d],[v],.cons r w .nil=> have:=hc 0 (by simp);rw [hvk] at this;exact⟨d,v,rfl,by simpa using this,r,w⟩
    have e:len=((List.range len).map fun k=>(ds k).headD (.i 0)).length:=by simp
    have r:=Rd.one (ro:=XA W) (h:=W.heap) i c b o cap ((List.range len).map fun k=>(ds k).headD (.i 0)) (fun k=>(vs k).headD undef) hrow (by rw [<- e]; exact hlc) hb
     (fun k d hd=>by
      obtain⟨hk,rfl⟩:=aAy hd;obtain⟨hr,hc⟩:=spec k hk;rw [hks] at hr hc;have:=hc 0 (by simp)
      match hdk:ds k,hvk:vs k,hr with
      |[d],[v],.cons r w .nil=>
       rw [hvk] at this
       simpa using this)
     (fun k d hd=>by
      obtain⟨hk,rfl⟩:=aAy hd;obtain⟨hr,hc⟩:=spec k hk;rw [hks] at hr
      match hdk:ds k,hvk:vs k,hr with
      |[d],[v],.cons r w .nil=>exact r)
    rw [<- e] at r;refine⟨_,_,rfl,r,.one i c _ hrow (fun h=>by have:=congrArg List.length h; simp at this; omega) (by rw [<- e]; exact arF) fun d hd=>?_⟩;obtain⟨k,hk,rfl⟩:=aC4.1 hd;obtain⟨d,v,h1,_,_,w⟩:=sp1 k (by simpa using hk);rw [h1];exact w
   |many Oz=>
    have hks:nM i=Oz:=by unfold nM; rw [hrow]
    have e:len=((List.range len).map ds).length:=by simp
    have hlr: ∀r∈(List.range len).map ds,r.length=Oz.length:=by intro r hr;obtain⟨k,hk,rfl⟩:=aC4.1 hr;have:=(spec k (by simpa using hk)).1.len.1;rw [hks] at this;exact this
    have r:=Rd.many (ro:=XA W) (h:=W.heap) i Oz b o cap ((List.range len).map ds) (fun k j=>((vs k)[j]?).getD undef) hrow (by rw [<- e]; exact hlc) hb hlr
     (fun k r j d hr hj=>by
      obtain⟨hk,rfl⟩:=get hr;obtain⟨hrs,hc⟩:=spec k hk;rw [hks] at hrs hc
      have hj':j<Oz.length:=by have:=(aC1.1 hj).1;rw [hrs.len.1] at this;exact this
      rw [hc j hj',aCV (by rw [hrs.len.2]; exact hj')]
      rfl)
     (fun k r j d c hr hj hcj=>by
      obtain⟨hk,rfl⟩:=get hr;obtain⟨hrs,hc⟩:=spec k hk;rw [hks] at hrs;obtain⟨v,h1,h2,_⟩:=hrs.at hj hcj;show Rd (XA W) W.heap c d (((vs k)[j]?).getD undef);rw [h1]
      exact h2)
    rw [<- e] at r;refine⟨_,_,rfl,r,.many i Oz _ hrow (fun h=>by have:=congrArg List.length h; simp at this; omega) (by rw [<- e]; exact arF) hlr fun r hr j d c hj hcj=>?_⟩;obtain⟨k,hk,rfl⟩:=aC4.1 hr;have hrs:=(spec k (by simpa using hk)).1;rw [hks] at hrs;obtain⟨v,_,_,h3⟩:=hrs.at hj hcj;exact h3
theorem Lm {fuel:Nat} (ih:Reads P own en W fuel) {n:Nat} {cs:List Value} {e:TypeId} {c1:List CK} (h1:AQ P own n e=some c1): ∀(xs:List (DataW H×List MemPlace)) (i:Nat),cs.length=(i+xs.length)*c1.length->
 (∀(j:Nat),j<xs.length->DataW.trod en P W 0 (fun _=>true) true fuel e ((cs.drop ((i+j)*c1.length)).take c1.length)=xs[j]?)->
 (DataW.weightsAll P e (xs.map (·.1))).all (·<=reachBytes)=true->∃ds,Rs (XA W) W.heap (List.replicate xs.length c1).flatten ds (cs.drop (i*c1.length))
 |[],i,hl,_,_=>by rw [aE9 (by rw [hl]; simp)];exact⟨[],.nil⟩
 |x::xs,i,hl,ht,hw=>by
  have h0:=ht 0 (by simp);rw [aDf] at h0;simp only [aCQ,DataW.weightsAll,aEw,aCM] at hw;obtain⟨ds,r1⟩:=ih e n c1 _ x h1 h0 hw.1
  obtain⟨ds',r2⟩:=Lm ih h1 xs (i+1) (by rw [hl,aCW]; congr 1; omega) (fun j hj=>by
   have:=ht (j+1) (by simpa using hj);rw [show i+1+j=i+(j+1) by omega]
   simpa using this) hw.2
  refine⟨ds++ds',?_⟩
  have e1:cs.drop (i*c1.length)=(cs.drop (i*c1.length)).take c1.length++cs.drop ((i+1)*c1.length):=by rw [Nat.succ_mul,<- aEW,aDD]
  rw [e1,aCW,aEN,List.flatten_cons];exact r1.append r2
include ok in
theorem Sj: ∀fuel:Nat,Reads P own en W fuel
 |0=>fun t n Oz cs x _ hx _=>by simp [DataW.trod] at hx
 |fuel+1=>fun t n Oz cs x hf hx hw=>by
  cases n with
  |zero=>simp [AQ] at hf
  |succ n=>
   unfold AQ at hf;split at hf
   ·rename_i ht;simp only [aCJ] at hf;subst hf;obtain⟨b,rfl,_⟩:=DataW.trod_bool ht hx;exact⟨_,.cons (.bool b) (.bool b) .nil⟩
   ·rename_i k ht;simp only [aCJ] at hf;subst hf;obtain⟨z,rfl,_,hwf⟩:=DataW.trod_int ht hx;refine⟨_,.cons (.int k z) (.int k z ?_) .nil⟩;simp only [Lit.wf,aCM,decide_eq_true_eq] at hwf;cases k<;>first |exact hwf|trivial
   ·rename_i ht;simp only [aCJ] at hf;subst hf;obtain⟨s,rfl,rfl,_⟩:=DataW.trod_string ht hx;refine⟨_,.cons (.str s) (.str s ?_) .nil⟩;simp only [DataW.weights,List.all_cons,List.all_nil,Bool.and_true,decide_eq_true_eq] at hw;exact hw
   ·rename_i e ht;split at hf
    ·rename_i i ho;simp only [aCJ] at hf;subst hf;obtain⟨d,v,rfl,r,w⟩:=Vb ok (Sj fuel) ht ho hx hw;exact⟨_,.cons r w .nil⟩
    ·simp at hf
   ·rename_i fs ht;obtain⟨xs,m,hm,rfl,hl,hxl,hxs⟩:=DataW.trod_struct ht hx;simp only [Nat.succ.injEq] at hm;subst hm
    have hw':(DataW.weightsEach P (fs.toList.map (·.type)) (xs.map (·.1))).all (·<=reachBytes)=true:=by simp only [DataW.weights,ht] at hw;exact hw
    have:=Jg (Sj fuel) hl fs.toList 0 Oz xs hf (by simpa using hxl) (fun i f hi=>hxs i f (by simpa using hi)) hw';simpa using this
   ·rename_i m e ht;split at hf
    ·rename_i c1 h1;split at hf
     ·rename_i hce;simp only [aCJ] at hf;subst hf;obtain⟨xs,m',hm,rfl,hl,hxl,hxs⟩:=DataW.trod_array ht hx;simp only [Nat.succ.injEq] at hm;subst hm;subst hxl
      have hw':(DataW.weightsAll P e (xs.map (·.1))).all (·<=reachBytes)=true:=by simp only [DataW.weights,ht] at hw;exact hw
      rw [hce.2] at hl
      have:=Lm (Sj fuel) h1 xs 0 (by rw [hl,aCR]) (fun j hj=>by
       rw [aCR];have:=hxs j hj;rw [hce.1] at this
       exact this) hw'
      simpa using this
     ·simp at hf
    ·simp at hf
   ·simp at hf
end
end Go.As
end
section
namespace Go.As.Try
open Go hiding Stat
open Go.As Go.Proofs
set_option maxRecDepth 100000
abbrev nO {α:Type} (l r:Tr α):Tr α:=.node none l r
abbrev nS {α:Type} (v:α) (l r:Tr α):Tr α:=.node (some v) l r
abbrev nL {α:Type} (v:α):Tr α:=.node (some v) .nil .nil
abbrev hP (m n:Nat) (l:List Nat):JF:=⟨m,.pa,n,l⟩
abbrev hR (m n:Nat) (l:List Nat):JF:=⟨m,.r,n,l⟩
abbrev hE (m n:Nat) (l:List Nat):JF:=⟨m,.e,n,l⟩
abbrev tF:TI:=⟨.func,1,8,[.BA],false,none⟩
abbrev zI:AV:=.int .i64 (.lit 0)
abbrev zU:AV:=.int .u8 (.lit 0)
def tab:Tr TI:=(nO (nS tF (nS ⟨.int .i64,1,8,[zI],false,none⟩ (nS ⟨.struct [(0,2,1),(1,3,1),(2,4,1),(3,6,1)],4,24,[zI,zI,.bool (.lit false),zU],true,none⟩ (nS ⟨.pointer 222,1,8,[.kM],false,none⟩ (nS ⟨.map 3 44,1,8,[.qK],false,none⟩ (nS ⟨.int .i64,1,8,[zI],false,none⟩ (nL tF) .nil) (nS tF (nL tF) (nL ⟨.array 0 16,0,0,[],false,none⟩))) (nS ⟨.struct [(0,3,1),(1,2,1),(2,4,1),(3,2,1),(4,45,1),(5,44,1)],6,80,[zI,zI,.bool (.lit false),zI,.aQ,.aQ],false,none⟩ (nO (nL ⟨.struct [(0,3,1),(1,3,1)],2,16,[zI,zI],true,none⟩) .nil) (nS ⟨.map 3 3,1,8,[.qK],false,none⟩ (nL ⟨.array 256 5,256,256,(repeatL [zU] 256),false,none⟩) .nil))) (nS ⟨.slice 52,1,24,[.aQ],false,none⟩ (nS ⟨.struct [(0,32,1),(1,3,1),(2,2,1),(3,2,1)],4,32,[zU,zI,zI,zI],true,none⟩ (nS ⟨.pointer 47,1,8,[.kM],false,none⟩ (nL ⟨.pointer 137,1,8,[.kM],false,none⟩) (nL tF)) (nS tF (nL tF) (nL ⟨.int .i32,1,4,[.int .i32 (.lit (0))],false,none⟩))) (nS ⟨.struct [(0,53,1),(1,32,1),(2,3,1),(3,3,1),(4,3,1),(5,2,1),(6,54,1)],7,64,[zU,zU,zI,zI,zI,zI,.aQ],false,none⟩ (nO (nL tF) (nL tF)) (nS ⟨.array 9 9,9,144,[.str [],.str [],.str [],.str [],.str [],.str [],.str [],.str [],.str []],false,none⟩ (nL ⟨.array 23 9,23,368,(repeatL [.str []] 23),false,none⟩) .nil)))) (nS ⟨.string,1,16,[.str []],false,none⟩ (nS ⟨.struct [(0,17,1)],1,8,[.kM],false,none⟩ (nS ⟨.int .u8,1,1,[zU],false,none⟩ (nS ⟨.struct [(0,65,1),(1,9,1),(2,2,1),(3,9,1),(4,3,1)],5,56,[zU,.str [],zI,.str [],zI],true,none⟩ (nL ⟨.struct [(0,3,1),(1,4,1),(2,4,1)],3,16,[zI,.bool (.lit false),.bool (.lit false)],true,none⟩) (nL tF)) (nS tF (nL ⟨.pointer 166,1,8,[.kM],false,none⟩) (nL ⟨.int .u8,1,1,[zU],false,none⟩))) (nS ⟨.struct [(0,9,1),(1,49,1),(2,50,1)],3,64,[.str [],.aQ,.aQ],false,none⟩ (nS ⟨.struct [(0,22,1),(1,82,1)],2,48,[.aQ,.aQ],false,none⟩ .nil (nL tF)) (nS ⟨.struct [(0,113,1),(1,9,1),(2,2,1),(3,3,1),(4,3,1),(5,3,1)],6,56,[zU,.str [],zI,zI,zI,zI],true,none⟩ (nL tF) .nil))) (nS tF (nS tF (nO (nL tF) (nL ⟨.array 24 5,24,24,(repeatL [zU] 24),false,none⟩)) (nS tF (nL tF) .nil)) (nS ⟨.struct [(0,57,1),(1,9,1),(2,2,1),(3,54,1)],4,56,[zU,.str [],zI,.aQ],false,none⟩ (nS tF (nL tF) (nL ⟨.array 32 5,32,32,(repeatL [zU] 32),false,none⟩)) (nS ⟨.slice 158,1,24,[.aQ],false,none⟩ (nL tF) .nil))))) (nS ⟨.int .u8,1,1,[zU],false,none⟩ (nS ⟨.string,1,16,[.str []],false,none⟩ (nS ⟨.pointer 233,1,8,[.kM],false,none⟩ (nS ⟨.struct [(0,3,1),(1,32,1),(2,3,1),(3,2,1),(4,2,1)],5,40,[zI,zU,zI,zI,zI],true,none⟩ (nS ⟨.int .u8,1,1,[zU],false,none⟩ (nL ⟨.pointer 131,1,8,[.kM],false,none⟩) (nL tF)) (nS tF (nL tF) (nL ⟨.struct [(0,223,0)],0,0,[],false,none⟩))) (nS ⟨.slice 9,1,24,[.aQ],false,none⟩ (nS tF (nL tF) (nL tF)) (nS ⟨.int .u8,1,1,[zU],false,none⟩ (nL tF) .nil))) (nS ⟨.struct [(0,22,1),(1,23,1)],2,48,[.aQ,.aQ],false,none⟩ (nS ⟨.struct [(0,3,1),(1,39,4)],5,40,[zI,zU,zI,zI,zI],false,none⟩ (nS ⟨.struct [(0,3,1),(1,71,1),(2,2,1),(3,29,1),(4,39,4)],8,80,[zI,.kM,zI,.aQ,zU,zI,zI,zI],false,none⟩ (nL ⟨.struct [(0,134,1),(1,52,3),(4,3,1)],5,80,[.qK,.str [],.aQ,.aQ,zI],false,none⟩) (nL tF)) (nS tF (nL tF) (nL ⟨.struct [(0,12,1),(1,12,1),(2,213,1),(3,226,1),(4,5,1),(5,5,1),(6,227,1),(7,228,1),(8,229,1),(9,230,1),(10,231,1)],11,48,[.int .u64 (.lit (0)),.int .u64 (.lit (0)),.int .u32 (.lit (0)),zU,zU,zU,zU,.BA,.kM,.int .i32 (.lit (0)),.int .i32 (.lit (0))],false,none⟩))) (nS ⟨.int .u8,1,1,[zU],false,none⟩ (nO .nil (nL tF)) (nS tF (nL tF) .nil)))) (nS ⟨.struct [(0,9,1),(1,12,1)],2,24,[.str [],.int .u64 (.lit (0))],false,none⟩ (nS ⟨.int .i32,1,4,[.int .i32 (.lit (0))],false,none⟩ (nS tF (nS tF (nL tF) (nL tF)) (nS tF (nL ⟨.struct [(0,164,1),(1,134,1)],2,16,[.qK,.qK],false,none⟩) (nL ⟨.pointer 5,1,8,[.kM],false,none⟩))) (nS ⟨.int .u8,1,1,[zU],false,none⟩ (nS ⟨.struct [(0,63,1),(1,3,1)],2,16,[zI,zI],true,none⟩ (nL tF) (nL ⟨.int .u32,1,4,[.int .u32 (.lit (0))],false,none⟩)) (nS ⟨.struct [(0,9,1),(1,115,6),(7,86,2),(9,3,1)],10,96,[.str [],zU,.str [],zI,zI,zI,zI,zI,zI,zI],false,none⟩ (nL tF) .nil))) (nS ⟨.slice 47,1,24,[.aQ],false,none⟩ (nS ⟨.slice 3,1,24,[.aQ],false,none⟩ (nS tF (nL tF) (nL tF)) (nO (nL tF) .nil)) (nS tF (nS tF (nL ⟨.struct [(0,156,1),(1,32,1),(2,9,1),(3,9,1),(4,2,1),(5,54,1),(6,123,1),(7,123,1),(8,3,1)],9,128,[zU,zU,.str [],.str [],zI,.aQ,.aQ,.aQ,zI],false,none⟩) (nL ⟨.struct [(0,17,1),(1,17,1),(2,17,1),(3,9,1)],4,40,[.kM,.kM,.kM,.str []],false,none⟩)) (nS ⟨.struct [(0,9,1),(1,123,1),(2,3,1)],3,48,[.str [],.aQ,zI],false,none⟩ (nL tF) .nil)))))) (nS ⟨.int .i64,1,8,[zI],false,none⟩ (nS ⟨.bool,1,1,[.bool (.lit false)],false,none⟩ (nS ⟨.struct [(0,2,1),(1,3,1),(2,4,1),(3,6,1)],4,24,[zI,zI,.bool (.lit false),zU],true,none⟩ (nS ⟨.pointer 225,1,8,[.kM],false,none⟩ (nS ⟨.int .u8,1,1,[zU],false,none⟩ (nS tF (nL tF) (nL tF)) (nS tF (nL tF) (nL ⟨.struct [(0,223,0)],0,0,[],false,none⟩))) (nS tF (nS tF (nL ⟨.struct [(0,3,1),(1,3,1)],2,16,[zI,zI],true,none⟩) (nL tF)) (nS ⟨.pointer 117,1,8,[.kM],false,none⟩ (nL tF) .nil))) (nS ⟨.struct [(0,22,1),(1,23,1)],2,48,[.aQ,.aQ],false,none⟩ (nS ⟨.struct [(0,3,1),(1,39,4)],5,40,[zI,zU,zI,zI,zI],false,none⟩ (nS ⟨.struct [(0,3,1),(1,71,1),(2,2,1),(3,29,1),(4,39,4)],8,80,[zI,.kM,zI,.aQ,zU,zI,zI,zI],false,none⟩ (nL ⟨.struct [(0,134,1),(1,52,3),(4,3,1)],5,80,[.qK,.str [],.aQ,.aQ,zI],false,none⟩) (nL tF)) (nS tF (nL tF) (nL ⟨.struct [(0,12,1),(1,12,1),(2,213,1),(3,226,1),(4,5,1),(5,5,1),(6,227,1),(7,228,1),(8,229,1),(9,230,1),(10,231,1)],11,48,[.int .u64 (.lit (0)),.int .u64 (.lit (0)),.int .u32 (.lit (0)),zU,zU,zU,zU,.BA,.kM,.int .i32 (.lit (0)),.int .i32 (.lit (0))],false,none⟩))) (nS ⟨.struct [(0,53,1),(1,32,1),(2,3,1),(3,3,1),(4,3,1),(5,2,1),(6,54,1)],7,64,[zU,zU,zI,zI,zI,zI,.aQ],false,none⟩ (nS tF (nL tF) .nil) (nS tF (nL tF) .nil)))) (nS ⟨.int .u64,1,8,[.int .u64 (.lit (0))],false,none⟩ (nS ⟨.iface true,1,16,[.EG],false,none⟩ (nO (nS tF (nL tF) (nL ⟨.slice 5,1,24,[.aQ],false,none⟩)) (nS tF (nL ⟨.map 9 65,1,8,[.qK],false,none⟩) (nL tF))) (nS ⟨.struct [(0,9,1),(1,49,1),(2,50,1)],3,64,[.str [],.aQ,.aQ],false,none⟩ (nS ⟨.struct [(0,22,1),(1,82,1)],2,48,[.aQ,.aQ],false,none⟩ (nL tF) (nL ⟨.array 20 204,20,160,(repeatL [.int .u64 (.lit (0))] 20),false,none⟩)) (nS ⟨.struct [(0,9,1),(1,115,6),(7,86,2),(9,3,1)],10,96,[.str [],zU,.str [],zI,zI,zI,zI,zI,zI,zI],false,none⟩ (nL tF) .nil))) (nS tF (nS ⟨.slice 2,1,24,[.aQ],false,none⟩ (nS ⟨.map 32 74,1,8,[.qK],false,none⟩ (nL tF) (nL ⟨.int .u64,1,8,[.int .u64 (.lit (0))],false,none⟩)) (nS tF (nL tF) .nil)) (nS tF (nS tF (nL ⟨.int .u8,1,1,[zU],false,none⟩) (nL ⟨.array 64 5,64,64,(repeatL [zU] 64),false,none⟩)) (nS ⟨.struct [(0,9,1),(1,123,1),(2,3,1)],3,48,[.str [],.aQ,zI],false,none⟩ (nL tF) .nil))))) (nS ⟨.int .u8,1,1,[zU],false,none⟩ (nS ⟨.string,1,16,[.str []],false,none⟩ (nS ⟨.struct [(0,17,1)],1,8,[.kM],false,none⟩ (nS ⟨.struct [(0,3,1),(1,32,1),(2,3,1),(3,2,1),(4,2,1)],5,40,[zI,zU,zI,zI,zI],true,none⟩ (nS ⟨.struct [(0,65,1),(1,9,1),(2,2,1),(3,9,1),(4,3,1)],5,56,[zU,.str [],zI,.str [],zI],true,none⟩ (nL ⟨.struct [(0,3,1),(1,4,1),(2,4,1)],3,16,[zI,.bool (.lit false),.bool (.lit false)],true,none⟩) (nL ⟨.array 2 123,2,48,[.aQ,.aQ],false,none⟩)) (nS ⟨.array 27 65,27,27,(repeatL [zU] 27),false,none⟩ (nL tF) (nL ⟨.int .u8,1,1,[zU],false,none⟩))) (nS ⟨.slice 56,1,24,[.aQ],false,none⟩ (nS ⟨.slice 125,1,24,[.aQ],false,none⟩ (nL tF) (nL ⟨.int .u64,1,8,[.int .u64 (.lit (0))],false,none⟩)) (nS ⟨.struct [(0,113,1),(1,9,1),(2,2,1),(3,3,1),(4,3,1),(5,3,1)],6,56,[zU,.str [],zI,zI,zI,zI],true,none⟩ (nL ⟨.pointer 175,1,8,[.kM],false,none⟩) .nil))) (nS ⟨.slice 41,1,24,[.aQ],false,none⟩ (nS tF (nS tF (nL tF) (nL ⟨.array 2 49,2,48,[.aQ,.aQ],false,none⟩)) (nS ⟨.slice 65,1,24,[.aQ],false,none⟩ (nL tF) .nil)) (nS ⟨.struct [(0,57,1),(1,9,1),(2,2,1),(3,54,1)],4,56,[zU,.str [],zI,.aQ],false,none⟩ (nS tF (nL tF) (nL tF)) (nS tF (nL ⟨.pointer 158,1,8,[.kM],false,none⟩) .nil)))) (nS ⟨.struct [(0,9,1),(1,12,1)],2,24,[.str [],.int .u64 (.lit (0))],false,none⟩ (nS ⟨.slice 67,1,24,[.aQ],false,none⟩ (nS ⟨.struct [(0,32,1),(1,3,1),(2,2,1),(3,2,1)],4,32,[zU,zI,zI,zI],true,none⟩ (nS ⟨.pointer 73,1,8,[.kM],false,none⟩ (nL ⟨.map 9 3,1,8,[.qK],false,none⟩) (nL tF)) (nS tF (nL ⟨.struct [(0,164,1),(1,134,1)],2,16,[.qK,.qK],false,none⟩) (nL ⟨.int .i32,1,4,[.int .i32 (.lit (0))],false,none⟩))) (nS ⟨.slice 59,1,24,[.aQ],false,none⟩ (nS ⟨.struct [(0,63,1),(1,3,1)],2,16,[zI,zI],true,none⟩ (nL tF) (nL ⟨.array 65 5,65,65,(repeatL [zU] 65),false,none⟩)) (nS tF (nL tF) .nil))) (nS tF (nS ⟨.struct [(0,3,1),(1,2,1),(2,4,1),(3,2,1),(4,45,1),(5,44,1)],6,80,[zI,zI,.bool (.lit false),zI,.aQ,.aQ],false,none⟩ (nS ⟨.int .u8,1,1,[zU],false,none⟩ (nL ⟨.pointer 144,1,8,[.kM],false,none⟩) (nL tF)) (nS tF (nL tF) .nil)) (nS tF (nS tF (nL ⟨.struct [(0,156,1),(1,32,1),(2,9,1),(3,9,1),(4,2,1),(5,54,1),(6,123,1),(7,123,1),(8,3,1)],9,128,[zU,zU,.str [],.str [],zI,.aQ,.aQ,.aQ,zI],false,none⟩) (nL ⟨.struct [(0,17,1),(1,17,1),(2,17,1),(3,9,1)],4,40,[.kM,.kM,.kM,.str []],false,none⟩)) (nS tF (nL tF) .nil)))))))
noncomputable def Tz:Tr Func:=(nS Tryz.f0 (nS Tryz.f1 (nS Tryz.f3 (nS Tryz.f7 (nS Tryz.f15 (nS Tryz.f31 (nS Tryz.f63 (nL Tryz.f127) .nil) (nS Tryz.f95 (nL Tryz.f159) .nil)) (nS Tryz.f47 (nS Tryz.f79 (nL Tryz.f143) .nil) (nS Tryz.f111 (nL Tryz.f175) .nil))) (nS Tryz.f23 (nS Tryz.f39 (nS Tryz.f71 (nL Tryz.f135) .nil) (nS Tryz.f103 (nL Tryz.f167) .nil)) (nS Tryz.f55 (nS Tryz.f87 (nL Tryz.f151) .nil) (nL Tryz.f119)))) (nS Tryz.f11 (nS Tryz.f19 (nS Tryz.f35 (nS Tryz.f67 (nL Tryz.f131) .nil) (nS Tryz.f99 (nL Tryz.f163) .nil)) (nS Tryz.f51 (nS Tryz.f83 (nL Tryz.f147) .nil) (nS Tryz.f115 (nL Tryz.f179) .nil))) (nS Tryz.f27 (nS Tryz.f43 (nS Tryz.f75 (nL Tryz.f139) .nil) (nS Tryz.f107 (nL Tryz.f171) .nil)) (nS Tryz.f59 (nS Tryz.f91 (nL Tryz.f155) .nil) (nL Tryz.f123))))) (nS Tryz.f5 (nS Tryz.f9 (nS Tryz.f17 (nS Tryz.f33 (nS Tryz.f65 (nL Tryz.f129) .nil) (nS Tryz.f97 (nL Tryz.f161) .nil)) (nS Tryz.f49 (nS Tryz.f81 (nL Tryz.f145) .nil) (nS Tryz.f113 (nL Tryz.f177) .nil))) (nS Tryz.f25 (nS Tryz.f41 (nS Tryz.f73 (nL Tryz.f137) .nil) (nS Tryz.f105 (nL Tryz.f169) .nil)) (nS Tryz.f57 (nS Tryz.f89 (nL Tryz.f153) .nil) (nL Tryz.f121)))) (nS Tryz.f13 (nS Tryz.f21 (nS Tryz.f37 (nS Tryz.f69 (nL Tryz.f133) .nil) (nS Tryz.f101 (nL Tryz.f165) .nil)) (nS Tryz.f53 (nS Tryz.f85 (nL Tryz.f149) .nil) (nS Tryz.f117 (nL Tryz.f181) .nil))) (nS Tryz.f29 (nS Tryz.f45 (nS Tryz.f77 (nL Tryz.f141) .nil) (nS Tryz.f109 (nL Tryz.f173) .nil)) (nS Tryz.f61 (nS Tryz.f93 (nL Tryz.f157) .nil) (nL Tryz.f125)))))) (nS Tryz.f2 (nS Tryz.f4 (nS Tryz.f8 (nS Tryz.f16 (nS Tryz.f32 (nS Tryz.f64 (nL Tryz.f128) .nil) (nS Tryz.f96 (nL Tryz.f160) .nil)) (nS Tryz.f48 (nS Tryz.f80 (nL Tryz.f144) .nil) (nS Tryz.f112 (nL Tryz.f176) .nil))) (nS Tryz.f24 (nS Tryz.f40 (nS Tryz.f72 (nL Tryz.f136) .nil) (nS Tryz.f104 (nL Tryz.f168) .nil)) (nS Tryz.f56 (nS Tryz.f88 (nL Tryz.f152) .nil) (nL Tryz.f120)))) (nS Tryz.f12 (nS Tryz.f20 (nS Tryz.f36 (nS Tryz.f68 (nL Tryz.f132) .nil) (nS Tryz.f100 (nL Tryz.f164) .nil)) (nS Tryz.f52 (nS Tryz.f84 (nL Tryz.f148) .nil) (nS Tryz.f116 (nL Tryz.f180) .nil))) (nS Tryz.f28 (nS Tryz.f44 (nS Tryz.f76 (nL Tryz.f140) .nil) (nS Tryz.f108 (nL Tryz.f172) .nil)) (nS Tryz.f60 (nS Tryz.f92 (nL Tryz.f156) .nil) (nL Tryz.f124))))) (nS Tryz.f6 (nS Tryz.f10 (nS Tryz.f18 (nS Tryz.f34 (nS Tryz.f66 (nL Tryz.f130) .nil) (nS Tryz.f98 (nL Tryz.f162) .nil)) (nS Tryz.f50 (nS Tryz.f82 (nL Tryz.f146) .nil) (nS Tryz.f114 (nL Tryz.f178) .nil))) (nS Tryz.f26 (nS Tryz.f42 (nS Tryz.f74 (nL Tryz.f138) .nil) (nS Tryz.f106 (nL Tryz.f170) .nil)) (nS Tryz.f58 (nS Tryz.f90 (nL Tryz.f154) .nil) (nL Tryz.f122)))) (nS Tryz.f14 (nS Tryz.f22 (nS Tryz.f38 (nS Tryz.f70 (nL Tryz.f134) .nil) (nS Tryz.f102 (nL Tryz.f166) .nil)) (nS Tryz.f54 (nS Tryz.f86 (nL Tryz.f150) .nil) (nL Tryz.f118))) (nS Tryz.f30 (nS Tryz.f46 (nS Tryz.f78 (nL Tryz.f142) .nil) (nS Tryz.f110 (nL Tryz.f174) .nil)) (nS Tryz.f62 (nS Tryz.f94 (nL Tryz.f158) .nil) (nL Tryz.f126)))))))
def htab:Tr (Tr Ru):=(nO (nO (nS (nO (nO (nO .nil (nS ⟨[],0,⟨[hP 0 0 [10],hP 1 0 [77],hP 3 0 [78],hP 7 0 [79,9],hR 15 0 [79,80],hP 7 0 [79,1],hP 7 0 [79,7],hP 103 0 [79,82,83],hP 231 0 [79,84],hR 487 0 [79,85],hP 1023 0 [79,81,86],hP 2047 0 [79,87],hP 4095 0 [88,9],hR 8191 0 [88,89],hP 4095 0 [88,1],hP 4095 0 [88,7],hP 53247 0 [88,91,92],hP 118783 0 [88,93],hP 249855 0 [88,94],hR 511999 0 [88,95],hP 1048575 0 [88,90,96],hP 2097151 0 [79,88,97],hP 4194303 0 [79,98],hP 8388607 0 [99,9],hR 16777215 0 [99,100],hP 33554431 0 [99,101],hP 67108863 0 [79,99,102],hP 134217727 0 [79,103],hP 268435455 0 [104,9],hR 536870911 0 [104,105],hP 268435455 0 [104,1],hP 268435455 0 [104,7],hP 3489660927 0 [104,107,108],hP 7784628223 0 [104,109],hP 16374562815 0 [104,110],hR 33554431999 0 [104,111],hP 68719476735 0 [104,106,112],hP 137438953471 0 [104,113],hP 274877906943 0 [114,9],hR 549755813887 0 [114,115],hP 1099511627775 0 [114,116],hP 2199023255551 0 [114,117],hP 4398046511103 0 [118,9],hR 8796093022207 0 [118,119],hP 4398046511103 0 [118,1],hP 4398046511103 0 [118,7],hP 57174604644351 0 [118,121,122],hP 127543348822015 0 [118,123],hP 268280837177343 0 [118,124],hR 549755813887999 0 [118,125],hP 1112705767309311 0 [118,126],hP 2251799813685247 0 [118,120,127],hP 4503599627370495 0 [114,118,128],hP 9007199254740991 0 [104,114,129],hP 18014398509481983 0 [79,104,130],hP 36028797018963967 0 [79,131]],0,[(4,[0]),(9,[0]),(13,[0]),(19,[0]),(24,[0]),(29,[0]),(35,[0]),(39,[0]),(43,[0]),(49,[0])]⟩⟩ (nL ⟨[],0,⟨[hP 0 0 [9],hR 1 0 [178],hP 3 0 [179],hP 7 0 [180],hP 15 0 [181,8],hP 15 0 [181,9],hR 47 0 [181,183],hP 127 0 [181,182,184],hP 255 0 [181,185],hR 511 0 [181,186],hP 15 0 [181,9],hR 1039 0 [181,188],hP 4095 0 [181,187,189],hP 8191 0 [181,190],hP 16383 0 [191,8],hP 16383 0 [191,9],hR 49151 0 [191,193],hP 131071 0 [191,192,194],hP 262143 0 [191,195],hR 524287 0 [191,196],hR 1048575 0 [191,197],hP 2097151 0 [191,198],hP 4194303 0 [181,191,199],hP 8388607 0 [181,200],hP 16777215 0 [201]],0,[(1,[0]),(6,[0]),(9,[0]),(11,[0]),(16,[0]),(19,[0]),(20,[0])]⟩⟩) .nil)) .nil) (nO (nO (nS ⟨[],0,⟨[hR 0 0 [2],hP 0 0 [5],hP 0 0 [1],hP 0 0 [7],hP 12 0 [30,31],hP 28 0 [32],hR 60 0 [33],hP 0 0 [1],hP 0 0 [7],hP 384 0 [35,36],hP 896 0 [37],hR 1920 0 [38],hE 4095 0 [28,29,34,39],hP 8191 1 [40],hP 16383 1 [27],hP 16383 1 [27],hP 16383 1 [27],hP 0 1 [],hP 163839 1 [41],hE 458751 1 [9,42],hP 1048575 2 [43]],2,[(0,[0]),(6,[0]),(11,[0])]⟩⟩ (nL ⟨[],0,⟨[hP 0 0 [6],hP 0 0 [9],hR 2 0 [153],hR 7 0 [152,154],hR 15 0 [155],hP 31 0 [156],hP 63 0 [157],hP 127 0 [158,6],hP 127 0 [158,9],hR 383 0 [158,160],hR 1023 0 [158,159,161],hP 2047 0 [158,162],hR 4095 0 [158,163],hP 127 0 [158,9],hR 8319 0 [158,165],hP 32767 0 [158,164,166],hP 65535 0 [158,167]],0,[(2,[0]),(3,[0]),(4,[0]),(9,[0]),(10,[0]),(12,[0]),(14,[0])]⟩⟩) .nil) .nil) (nO (nO (nL ⟨[],0,⟨[hP 0 0 [6],hP 0 0 [9],hR 2 0 [170],hP 0 0 [6],hP 0 0 [9],hR 16 0 [173],hR 56 0 [172,174],hP 120 0 [175],hE 255 0 [169,171,176]],1,[(2,[0]),(5,[0]),(6,[0])]⟩⟩) .nil) (nL ⟨[],0,⟨[hP 0 0 [6],hP 0 0 [9],hR 2 0 [138],hP 0 0 [6],hP 0 0 [9],hR 16 0 [141],hR 56 0 [140,142],hP 0 0 [9],hR 128 0 [144],hP 384 0 [145],hE 1016 0 [143,146],hE 2047 1 [137,139,147]],2,[(2,[0,1]),(5,[0]),(6,[0]),(8,[0])]⟩⟩)))) (nS (nO (nO (nO (nL ⟨[],0,⟨[hP 0 0 [12],hE 1 0 [89],hP 0 1 [7],hR 4 1 [91],hR 15 1 [90,92],hP 31 1 [93],hP 63 1 [88],hP 63 1 [88],hP 127 1 [94],hP 511 1 [95]],1,[(3,[0,1]),(4,[1])]⟩⟩) (nO (nL ⟨[],0,⟨[hP 0 0 [11],hR 0 0 [17],hP 1 0 [136],hE 7 0 [9,137],hP 15 1 []],1,[(1,[0])]⟩⟩) .nil)) (nS ⟨[],0,⟨[hP 0 0 [12],hE 1 0 [79],hP 0 1 [7],hR 4 1 [81],hR 15 1 [80,82],hP 31 1 [83],hP 63 1 [78],hP 63 1 [78],hP 127 1 [84],hP 511 1 [85]],1,[(3,[0,1]),(4,[1])]⟩⟩ (nL ⟨[],0,⟨[hP 0 0 [12],hE 1 0 [98],hP 0 1 [7],hR 4 1 [100],hR 15 1 [99,101],hP 31 1 [102]],1,[(3,[0,1]),(4,[1])]⟩⟩) .nil)) (nS ⟨[],0,⟨[hR 0 0 [4],hP 0 0 [1],hE 3 0 [20,21],hP 7 1 [22],hP 15 1 [23],hP 31 1 [24,2],hP 63 1 [24,25],hP 127 1 [24,26],hP 255 1 [27],hP 511 1 [28,2],hP 511 1 [28,4],hR 1535 1 [28,30],hR 3583 1 [28,31],hP 8191 1 [28,29,32],hP 16383 1 [28,33],hP 32767 1 [34],hP 65535 1 [35,7],hR 131071 1 [35,36],hP 262143 1 [35,37],hP 524287 1 [35,38],hP 1048575 1 [39],hP 2097151 1 [40,7],hR 4194303 1 [40,41],hP 2097151 1 [40,11],hR 10485759 1 [40,43],hP 33554431 1 [40,42,44],hP 67108863 1 [40,45],hP 134217727 1 [46],hP 268435455 1 [47,7],hR 536870911 1 [47,48],hE 1073741823 1 [47,49],hP 268435455 2 [47,4],hR 2415919103 2 [47,51],hP 268435455 2 [47,7],hR 8858370047 2 [47,53],hP 32480690175 2 [47,52,54],hP 66840428543 2 [47,55],hR 135559905279 2 [47,56],hP 274877906943 2 [47,50,57],hP 549755813887 2 [47,58]],2,[(0,[0]),(11,[1]),(12,[1]),(17,[1]),(22,[1]),(24,[1]),(29,[1]),(32,[1,2]),(34,[1,2]),(37,[1,2])]⟩⟩ (nS ⟨[],0,⟨[hP 0 0 [2],hP 0 0 [11],hP 0 0 [7],hR 4 0 [64],hP 14 0 [63,65],hP 0 0 [4],hR 32 0 [67],hP 0 0 [7],hR 128 0 [69],hP 480 0 [68,70],hP 992 0 [71],hR 2016 0 [72],hP 0 0 [11],hR 0 0 [7],hP 16383 0 [62,66,73,74,75],hP 32767 0 [76],hP 65535 0 [77]],0,[(3,[0]),(6,[0]),(8,[0]),(11,[0]),(13,[0])]⟩⟩ (nO (nL ⟨[],0,⟨[hP 0 0 [1],hE 1 0 [123],hP 0 1 [2],hP 0 1 [7],hR 8 1 [126],hP 0 1 [7],hR 32 1 [128],hP 96 1 [129],hP 252 1 [125,127,130],hP 3 1 [124],hE 1023 1 [9,131],hP 2047 2 []],2,[(4,[0,1]),(6,[0,1])]⟩⟩) .nil) .nil) (nO (nO (nL ⟨[],0,⟨[hP 0 0 [11],hR 0 0 [17],hP 1 0 [134],hE 7 0 [9,135],hP 15 1 []],1,[(1,[0])]⟩⟩) .nil) .nil))) (nO .nil (nO .nil (nL (nO (nL ⟨[],0,⟨[hP 0 0 [0],hP 0 0 [1],hP 0 0 [2],hP 6 0 [11,12],hP 1 0 [10],hP 31 0 [14,13],hR 63 0 [15],hP 127 0 [16]],0,[(6,[0])]⟩⟩) (nO (nO (nL ⟨[],0,⟨[hP 0 0 [8],hP 0 0 [1],hR 2 0 [39],hP 7 0 [38,40],hP 15 0 [41],hP 31 0 [42,0],hP 31 0 [42,1],hP 31 0 [42,8],hP 223 0 [42,44,45],hP 63 0 [42,43],hP 1023 0 [42,47,46],hR 2047 0 [42,48],hP 4095 0 [42,49],hP 8191 0 [42,50],hP 16383 0 [51,0],hP 16383 0 [51,1],hP 16383 0 [51,8],hP 114687 0 [51,53,54],hP 32767 0 [51,52],hP 524287 0 [51,56,55],hR 1048575 0 [51,57],hP 2097151 0 [51,58],hP 4194303 0 [51,59],hP 8388607 0 [60,7],hP 16777215 0 [60,61],hP 33554431 0 [51,60,62],hP 67108863 0 [42,51,63],hP 134217727 0 [42,64]],0,[(2,[0]),(11,[0]),(20,[0])]⟩⟩) .nil) .nil))))) (nO (nO .nil (nL (nO (nL ⟨[],0,⟨[hP 0 0 [3],hR 1 0 [6],hP 0 0 [0],hP 4 0 [8],hP 12 0 [9],hR 28 0 [10],hP 0 0 [3],hR 64 0 [12],hR 252 0 [11,13],hP 0 0 [0],hP 0 0 [3],hR 1024 0 [16],hE 3584 0 [15,17],hP 8191 1 [7,14,18],hP 0 1 [],hE 32767 1 [4,19]],2,[(1,[0,1]),(5,[0,1]),(7,[0,1]),(8,[0,1]),(11,[0])]⟩⟩) .nil))) (nL (nO (nS ⟨[],0,⟨[hR 0 0 [0],hP 1 0 [3],hP 3 0 [4],hR 7 0 [5],hP 15 0 [6],hP 31 0 [7],hR 63 0 [8],hR 127 0 [9],hR 0 0 [0],hP 256 0 [11],hP 768 0 [12],hR 1792 0 [13],hP 4095 0 [10,14]],0,[(0,[0]),(3,[0]),(6,[0]),(7,[0]),(8,[0]),(11,[0])]⟩⟩ (nL ⟨[],0,⟨[hR 0 0 [0],hP 1 0 [16],hP 3 0 [17],hR 7 0 [18],hR 0 0 [0],hP 16 0 [20],hP 48 0 [21],hR 112 0 [22],hP 240 0 [23],hP 496 0 [24],hR 1008 0 [25],hR 0 0 [0],hP 2048 0 [27],hP 6144 0 [28],hP 14336 0 [29],hR 30720 0 [30],hP 63488 0 [31],hE 131056 0 [26,32],hP 262143 1 [19],hP 524287 1 [34],hE 1048575 1 [35,33]],2,[(0,[0,1]),(3,[0,1]),(4,[0]),(7,[0]),(10,[0]),(11,[0]),(15,[0])]⟩⟩) .nil) .nil)))) (nO (nO .nil (nS (nO .nil (nL ⟨[],0,⟨[hR 0 0 [0],hP 1 0 [6],hP 3 0 [7],hR 7 0 [8],hP 15 0 [9],hP 31 0 [10],hR 63 0 [11],hP 0 0 [3],hE 128 0 [13],hP 511 1 [12],hP 1023 1 [14]],1,[(0,[0,1]),(3,[0,1]),(6,[0,1])]⟩⟩)) .nil (nL (nO (nL ⟨[],0,⟨[hR 0 0 [0],hP 0 0 [2],hE 3 0 [8,9]],1,[(0,[0])]⟩⟩) (nL ⟨[],0,⟨[hP 0 0 [2],hR 0 0 [0],hP 2 0 [12],hP 6 0 [13],hP 14 0 [14],hR 30 0 [15],hE 63 0 [11,16],hP 127 1 [17],hP 255 1 [18],hP 127 1 [1],hE 639 1 [20],hP 2047 2 [1],hE 4095 2 [21,19]],3,[(1,[0]),(5,[0])]⟩⟩))))) (nO (nO (nL (nO .nil (nL ⟨[],0,⟨[hP 0 0 [0],hP 1 0 [6],hP 3 0 [7],hP 7 0 [8],hR 15 0 [9],hP 0 0 [3],hP 0 0 [0],hP 64 0 [12],hP 192 0 [13],hP 448 0 [14],hR 960 0 [15],hE 2016 0 [11,16],hP 4064 1 [17],hP 8160 1 [18],hP 16383 1 [10,19],hP 0 1 [],hE 65535 1 [4,20]],2,[(4,[0,1]),(10,[0])]⟩⟩))) .nil) .nil))) (nO (nS (nO .nil (nO (nO .nil (nL ⟨[],0,⟨[hP 0 0 [6],hR 1 0 [76],hP 0 0 [8],hP 7 0 [77,78],hR 15 0 [79],hP 0 0 [7],hR 32 0 [81],hP 0 0 [8],hP 224 0 [82,83],hR 480 0 [84],hP 1023 0 [80,85]],0,[(1,[0]),(4,[0]),(6,[0]),(9,[0])]⟩⟩)) (nL ⟨[],0,⟨[hP 0 0 [0],hP 0 0 [5],hP 3 0 [19,20],hR 7 0 [21],hP 0 0 [1],hP 0 0 [5],hP 48 0 [23,24],hR 112 0 [25],hP 0 0 [],hP 0 0 [],hE 783 0 [6,22],hE 2047 1 [7,26]],2,[(3,[0]),(7,[0,1])]⟩⟩))) (nO (nO (nL (nO (nL ⟨[],0,⟨[hR 0 0 [0],hP 1 0 [3],hP 3 0 [4],hP 7 0 [5],hR 15 0 [6],hR 0 0 [0],hP 32 0 [8],hP 96 0 [9],hR 224 0 [10],hP 480 0 [11],hP 992 0 [12],hR 2016 0 [13],hR 0 0 [0],hP 4096 0 [15],hP 12288 0 [16],hP 28672 0 [17],hR 61440 0 [18],hP 131040 0 [14,19],hE 262112 0 [20],hP 524287 1 [7],hP 1048575 1 [21]],1,[(0,[0,1]),(4,[0,1]),(5,[0]),(8,[0]),(11,[0]),(12,[0]),(16,[0])]⟩⟩) .nil)) .nil) (nL (nO (nL ⟨[],0,⟨[hR 0 0 [0],hP 1 0 [3],hP 3 0 [4],hR 7 0 [5],hP 15 0 [6],hP 31 0 [7],hR 63 0 [8],hR 0 0 [0],hP 128 0 [10],hP 384 0 [11],hR 896 0 [12],hP 2047 0 [9,13]],0,[(0,[0]),(3,[0]),(6,[0]),(7,[0]),(10,[0])]⟩⟩) .nil))) (nO (nL (nO (nO .nil (nL ⟨[],0,⟨[hR 0 0 [0],hP 1 0 [15],hP 3 0 [16],hR 7 0 [17],hR 0 0 [0],hP 16 0 [19],hP 48 0 [20],hR 112 0 [21],hP 240 0 [22],hP 496 0 [23],hR 1008 0 [24],hR 0 0 [0],hP 2048 0 [26],hP 6144 0 [27],hR 14336 0 [28],hP 30720 0 [29],hE 65520 0 [25,30],hP 131071 1 [18],hP 262143 1 [32],hE 524287 1 [33,31]],2,[(0,[0,1]),(3,[0,1]),(4,[0]),(7,[0]),(10,[0]),(11,[0]),(14,[0])]⟩⟩)) .nil)) (nS (nO (nS ⟨[],0,⟨[hR 0 0 [0],hP 1 0 [4],hP 3 0 [5],hR 7 0 [6],hR 0 0 [0],hP 16 0 [8],hP 48 0 [9],hR 112 0 [10],hP 255 0 [7,11],hP 511 0 [12]],0,[(0,[0]),(3,[0]),(4,[0]),(7,[0])]⟩⟩ .nil (nL ⟨[],0,⟨[hR 0 0 [0],hP 1 0 [25],hP 3 0 [26],hR 7 0 [27],hR 0 0 [0],hP 16 0 [29],hP 48 0 [30],hR 112 0 [31],hP 240 0 [32],hP 496 0 [33],hR 1008 0 [34],hP 0 0 [0],hE 4080 0 [35,36],hR 0 1 [0],hP 8192 1 [38],hP 24576 1 [39],hR 57344 1 [40],hP 122880 1 [41],hE 262128 1 [37,42],hP 524287 2 [28],hP 1048575 2 [44],hE 2097151 2 [45,43]],3,[(0,[0,1,2]),(3,[0,1,2]),(4,[0]),(7,[0]),(10,[0]),(13,[0,1]),(16,[0,1])]⟩⟩)) (nL ⟨[],0,⟨[hP 0 0 [3],hP 1 0 [13],hP 3 0 [14],hR 7 0 [15],hR 0 0 [0],hP 16 0 [17],hP 48 0 [18],hR 112 0 [19],hP 255 0 [16,20]],0,[(3,[0]),(4,[0]),(7,[0])]⟩⟩)) .nil (nL (nO .nil (nO (nL ⟨[],0,⟨[hP 0 0 [1],hR 1 0 [15],hP 3 0 [16],hP 7 0 [17],hP 15 0 [18,1],hR 31 0 [18,19],hP 63 0 [18,20],hP 127 0 [18,21],hP 255 0 [22],hP 511 0 [23,1],hR 1023 0 [23,24],hE 2047 0 [23,25],hP 4095 1 [23,26],hP 8191 1 [23,27],hP 16383 1 [28],hP 32767 1 [29,1],hR 65535 1 [29,30],hP 131071 1 [29,31],hP 262143 1 [29,32],hP 524287 1 [33],hP 1048575 1 [34,1],hR 2097151 1 [34,35],hR 4194303 1 [34,36],hP 1048575 1 [34,1],hR 9437183 1 [34,38],hE 26214399 1 [34,39],hP 67108863 2 [34,37,40],hP 134217727 2 [34,41],hP 268435455 2 [42],hP 536870911 2 [43,1],hR 1073741823 2 [43,44],hR 2147483647 2 [43,45],hP 4294967295 2 [43,46],hP 8589934591 2 [43,47],hP 17179869183 2 [48],hP 34359738367 2 [49,3],hP 68719476735 2 [49,50],hP 137438953471 2 [49,51],hP 274877906943 2 [52,1],hR 549755813887 2 [52,53],hP 1099511627775 2 [52,54],hP 2199023255551 2 [49,52,55],hP 4398046511103 2 [49,56]],2,[(1,[0]),(5,[0]),(10,[0]),(16,[1]),(21,[1,2]),(22,[1,2]),(24,[1]),(30,[2]),(31,[2]),(39,[2])]⟩⟩) .nil)))))) (nS (nO .nil (nO .nil (nO .nil (nL ⟨[],0,⟨[hR 0 0 [1],hR 0 0 [7],hP 0 0 [7],hR 4 0 [67],hP 0 0 [8],hP 28 0 [68,69],hR 60 0 [70],hE 127 0 [65,66,71],hP 255 1 [72],hP 511 1 [73],hP 1023 1 [74,7],hR 2047 1 [74,75],hP 1023 1 [74,8],hP 8191 1 [74,76,77],hP 16383 1 [74,78],hR 32767 1 [74,79],hP 1023 1 [74,7],hE 131071 1 [74,80,81],hP 262143 2 [74,82],hP 524287 2 [83]],2,[(0,[0]),(1,[0]),(3,[0]),(6,[0]),(11,[1]),(15,[1])]⟩⟩)))) (nS (nO (nO (nO (nL ⟨[],0,⟨[hP 0 0 [5],hR 1 0 [27],hP 0 0 [4],hE 4 0 [29],hP 12 1 [30],hE 31 1 [28,31],hP 63 2 [5],hE 127 2 [33,32]],3,[(1,[0,1])]⟩⟩) .nil) .nil) (nO .nil (nO .nil (nL ⟨[],0,⟨[hP 0 0 [],hP 0 0 [4],hP 2 0 [58],hP 6 0 [59],hR 14 0 [60],hE 1 0 [2,57],hE 63 1 [3,61]],2,[(4,[0,1])]⟩⟩)))) .nil (nO (nL (nO (nO (nO (nO (nL ⟨[],0,⟨[hP 0 0 [9],hP 1 0 [61],hP 3 0 [62],hP 7 0 [63,4],hR 15 0 [63,64],hP 31 0 [63,65],hP 63 0 [63,66],hP 127 0 [67],hP 255 0 [68,4],hR 511 0 [68,69],hP 255 0 [68,0],hP 1279 0 [68,71],hP 3327 0 [68,72],hR 7423 0 [68,73],hP 16383 0 [68,70,74],hP 32767 0 [68,75],hP 65535 0 [76],hP 131071 0 [77,4],hR 262143 0 [77,78],hP 524287 0 [77,79],hP 1048575 0 [77,80],hP 2097151 0 [77,81],hE 4194303 0 [77,82],hP 8388607 1 [77,83],hP 16777215 1 [84]],1,[(4,[0]),(9,[0]),(13,[0]),(18,[0])]⟩⟩) .nil) .nil) .nil) .nil)) (nL (nO .nil (nO (nL ⟨[],9,⟨[hP 0 0 [1],hP 1 0 [23],hP 3 0 [24],hR 7 0 [25],hP 0 0 [0],hE 16 0 [27],hR 15 1 [26],hP 0 1 [],hE 255 1 [26,30]],2,[(3,[0,1]),(6,[0,1])]⟩⟩) .nil))))) (nO (nO .nil (nL (nO .nil (nL ⟨[],0,⟨[hP 0 0 [0],hP 0 0 [1],hP 0 0 [2],hP 6 0 [13,14],hP 1 0 [12],hP 31 0 [16,15],hR 63 0 [17]],0,[(6,[0])]⟩⟩)))) (nO .nil (nL (nL ⟨[],0,⟨[hR 0 0 [0],hP 1 0 [2],hP 3 0 [3],hP 7 0 [4],hR 15 0 [5],hR 0 0 [1],hR 0 0 [0],hE 64 0 [8],hP 255 1 [6,7],hP 511 1 [10],hE 1023 1 [11,9]],2,[(0,[0,1]),(4,[0,1]),(5,[0,1]),(6,[0])]⟩⟩))))))) (nO (nS (nO (nO .nil (nL ⟨[],0,⟨[hP 0 0 [3],hP 0 0 [1],hR 2 0 [22],hP 0 0 [4],hP 14 0 [23,24],hP 30 0 [25],hR 62 0 [26],hR 126 0 [27],hP 0 0 [1],hR 256 0 [29],hP 0 0 [4],hP 1792 0 [30,31],hP 3840 0 [32],hR 7936 0 [33],hR 16128 0 [34],hP 32766 0 [28,35],hP 65535 0 [21,36],hP 131071 0 [37]],0,[(2,[0]),(6,[0]),(7,[0]),(9,[0]),(13,[0]),(14,[0])]⟩⟩)) .nil) (nS (nO .nil (nO .nil (nL ⟨[],0,⟨[hP 0 0 [2],hR 1 0 [25],hP 0 0 [5],hP 7 0 [26,27],hR 15 0 [28],hR 0 0 [6],hP 0 0 [2],hR 64 0 [31],hR 192 0 [32],hE 511 0 [29,30,33],hP 1023 1 [34]],1,[(1,[0]),(4,[0]),(5,[0]),(7,[0]),(8,[0])]⟩⟩))) (nO (nS (nO (nL ⟨[],0,⟨[hP 0 0 [0],hP 1 0 [3],hP 3 0 [4],hR 7 0 [5],hP 15 0 [6],hP 31 0 [7],hR 63 0 [8],hP 0 0 [0],hP 128 0 [10],hP 384 0 [11],hR 896 0 [12],hP 2047 0 [9,13],hP 4095 0 [14],hP 8191 0 [15,0],hP 16383 0 [15,16],hP 32767 0 [15,17],hR 65535 0 [15,18],hP 131071 0 [15,19],hP 262143 0 [15,20],hR 524287 0 [15,21],hP 8191 0 [15,0],hP 1056767 0 [15,23],hP 3153919 0 [15,24],hR 7348223 0 [15,25],hE 16777215 0 [15,22,26],hP 33554431 1 [15,27],hP 67108863 1 [28]],1,[(3,[0]),(6,[0]),(10,[0]),(16,[0]),(19,[0]),(23,[0])]⟩⟩) .nil) (nL (nO (nO .nil (nL ⟨[],0,⟨[hR 0 0 [0],hP 1 0 [23],hP 3 0 [24],hR 7 0 [25],hP 15 0 [26],hP 31 0 [27],hR 63 0 [28],hR 0 0 [0],hP 128 0 [30],hP 384 0 [31],hR 896 0 [32],hP 2047 0 [29,33]],0,[(0,[0]),(3,[0]),(6,[0]),(7,[0]),(10,[0])]⟩⟩)) (nO .nil (nL ⟨[],0,⟨[hR 0 0 [0],hP 1 0 [35],hP 3 0 [36],hR 7 0 [37],hR 0 0 [0],hP 16 0 [39],hP 48 0 [40],hR 112 0 [41],hP 0 0 [3],hP 256 0 [43],hP 255 0 [38],hP 1279 0 [45],hE 3327 0 [46],hP 8191 1 [42],hP 16383 1 [47],hE 32767 1 [48,44]],2,[(0,[0]),(3,[0]),(4,[0]),(7,[0])]⟩⟩)))) .nil) (nO (nL (nO .nil (nO .nil (nO (nL ⟨[],0,⟨[hP 0 0 [3],hP 1 0 [34],hP 3 0 [35],hR 7 0 [36],hP 0 0 [5],hR 16 0 [38],hP 0 0 [5],hR 64 0 [40],hE 255 0 [37,39,41]],1,[(3,[0]),(5,[0]),(7,[0])]⟩⟩) .nil)))) .nil)) (nS (nO .nil (nO .nil (nL ⟨[],0,⟨[hP 0 0 [9],hP 1 0 [47],hP 3 0 [48,3],hR 7 0 [48,49],hP 3 0 [48,5],hR 19 0 [48,51],hP 63 0 [48,50,52],hP 127 0 [48,53],hR 255 0 [48,54],hR 3 0 [48,5],hP 3 0 [48,7],hE 2047 0 [48,55,56,57],hP 4095 1 [48,58],hP 8191 1 [59],hP 16383 1 [60,5],hR 32767 1 [60,61],hP 65535 1 [60,62],hP 131071 1 [60,63],hP 262143 1 [64,8],hP 524287 1 [60,64,65],hP 1048575 1 [60,66],hP 2097151 1 [67]],1,[(3,[0]),(5,[0]),(8,[0]),(9,[0]),(15,[1])]⟩⟩))) (nS (nO (nO (nL ⟨[],0,⟨[hR 0 0 [0],hP 1 0 [5],hP 3 0 [6],hP 7 0 [7],hR 15 0 [8],hR 0 0 [0],hP 32 0 [10],hP 96 0 [11],hP 224 0 [12],hR 480 0 [13],hP 1023 0 [9,14],hE 2047 0 [15],hP 4095 1 [],hP 8191 1 [16]],1,[(0,[0]),(4,[0]),(5,[0]),(9,[0])]⟩⟩) .nil) .nil) (nO (nL (nO (nO .nil (nO (nL ⟨[],0,⟨[hP 0 0 [1],hR 1 0 [43],hP 3 0 [44],hP 7 0 [45],hP 15 0 [46,3],hP 31 0 [46,47],hP 63 0 [46,48],hP 127 0 [49],hP 255 0 [50,3],hP 511 0 [50,51],hP 1023 0 [50,52],hP 2047 0 [53],hP 4095 0 [54,3],hP 8191 0 [54,55],hP 16383 0 [54,4,56],hR 32767 0 [54,57],hP 4095 0 [54,1],hR 69631 0 [54,59],hE 262143 0 [54,58,60],hP 524287 1 [54,61],hP 1048575 1 [62]],1,[(1,[0]),(15,[0]),(17,[0])]⟩⟩) .nil)) .nil)) .nil) .nil) (nS (nO .nil (nO (nL ⟨[],0,⟨[hR 0 0 [0],hP 1 0 [22],hP 3 0 [23],hR 7 0 [24],hR 0 0 [0],hP 16 0 [26],hP 48 0 [27],hR 112 0 [28],hP 240 0 [29],hP 496 0 [30],hR 1008 0 [31],hP 2032 0 [32],hP 4095 0 [25],hP 8191 0 [34],hE 16383 0 [35,33]],1,[(0,[0]),(3,[0]),(4,[0]),(7,[0]),(10,[0])]⟩⟩) .nil)) (nL (nO (nO .nil (nO (nO .nil (nL ⟨[],0,⟨[hP 0 0 [],hP 0 0 [7],hR 2 0 [87],hP 6 0 [88],hE 1 0 [4,86],hE 31 1 [5,89]],2,[(2,[0,1])]⟩⟩)) .nil)) .nil)) .nil))) (nO (nS (nO .nil (nO .nil (nL ⟨[],0,⟨[hP 0 0 [0],hP 0 0 [5],hP 3 0 [17,18],hR 7 0 [19],hP 0 0 [1],hP 0 0 [5],hP 48 0 [21,22],hR 112 0 [23],hP 255 0 [20,24]],0,[(3,[0]),(7,[0])]⟩⟩))) (nS (nO (nL ⟨[],0,⟨[hP 0 0 [0],hP 1 0 [3],hP 3 0 [4],hR 7 0 [5],hP 15 0 [6],hP 31 0 [7],hR 63 0 [8],hP 0 0 [0],hP 128 0 [10],hP 384 0 [11],hR 896 0 [12],hP 2047 0 [9,13]],0,[(3,[0]),(6,[0]),(10,[0])]⟩⟩) .nil) .nil (nL (nO (nL ⟨[],0,⟨[hP 0 0 [0],hP 1 0 [9],hP 3 0 [10],hR 7 0 [11],hP 0 0 [3],hR 16 0 [13],hR 63 0 [12,14],hP 127 0 [15],hP 255 0 [8],hP 255 0 [8],hP 511 0 [16],hP 2047 0 [17]],0,[(3,[0]),(5,[0]),(6,[0])]⟩⟩) .nil))) .nil) (nO (nL (nO (nO .nil (nL ⟨[],0,⟨[hP 0 0 [0],hP 0 0 [1],hP 3 0 [20,21],hP 0 0 [0],hP 0 0 [2],hP 24 0 [23,24],hE 63 0 [22,25],hP 127 1 [26]],1,[]⟩⟩)) .nil)) (nS (nO .nil (nO (nL ⟨[],0,⟨[hR 0 0 [0],hP 1 0 [22],hP 3 0 [23],hR 7 0 [24],hR 0 0 [0],hP 16 0 [26],hP 48 0 [27],hR 112 0 [28],hP 240 0 [29],hP 496 0 [30],hR 1008 0 [31],hP 2032 0 [32],hP 4095 0 [25],hP 8191 0 [34],hE 16383 0 [35,33]],1,[(0,[0]),(3,[0]),(4,[0]),(7,[0]),(10,[0])]⟩⟩) .nil)) .nil (nL (nO .nil (nS ⟨[],0,⟨[hP 0 0 [0],hP 0 0 [3],hR 2 0 [10],hP 0 0 [3],hR 8 0 [12],hE 24 0 [13],hE 63 1 [9,11,14],hP 127 2 [15]],2,[(2,[0,1]),(4,[0])]⟩⟩ (nO (nL ⟨[],0,⟨[hP 0 0 [0],hP 1 0 [27],hP 3 0 [28],hR 7 0 [29],hP 0 0 [3],hR 16 0 [31],hE 63 0 [30,32]],1,[(3,[0]),(5,[0])]⟩⟩) .nil) .nil))))))) (nO (nO (nO (nS (nO (nO (nL ⟨[],0,⟨[hP 0 0 [0],hP 1 0 [11],hP 3 0 [12],hR 7 0 [13],hP 0 0 [0],hP 16 0 [15],hP 48 0 [16],hR 112 0 [17],hP 255 0 [14],hP 511 0 [19],hE 1023 0 [20,18]],1,[(3,[0]),(7,[0])]⟩⟩) .nil) .nil) (nL (nO (nO (nL ⟨[],0,⟨[hR 0 0 [0],hP 1 0 [12],hP 3 0 [13],hR 7 0 [14],hP 15 0 [15],hP 31 0 [16],hR 63 0 [17],hR 0 0 [0],hP 128 0 [19],hP 384 0 [20],hR 896 0 [21],hP 2047 0 [18,22],hP 4095 0 [23]],0,[(0,[0]),(3,[0]),(6,[0]),(7,[0]),(10,[0])]⟩⟩) .nil) .nil)) .nil) (nL (nO (nS ⟨[],0,⟨[hR 0 0 [0],hP 1 0 [3],hP 3 0 [4],hP 7 0 [5],hR 15 0 [6],hR 0 0 [0],hP 32 0 [8],hP 96 0 [9],hR 224 0 [10],hP 480 0 [11],hP 992 0 [12],hR 2016 0 [13],hP 4064 0 [14],hP 8191 0 [7,15],hP 16383 0 [16],hR 32767 0 [17,0],hP 65535 0 [17,18],hP 131071 0 [17,19],hP 262143 0 [17,20],hR 524287 0 [17,21],hR 32767 0 [17,0],hP 1081343 0 [17,23],hP 3178495 0 [17,24],hR 7372799 0 [17,25],hP 15761407 0 [17,26],hP 32538623 0 [17,27],hR 66093055 0 [17,28],hP 133201919 0 [17,29],hP 268435455 0 [17,22,30],hP 536870911 0 [17,31]],0,[(0,[0]),(4,[0]),(5,[0]),(8,[0]),(11,[0]),(15,[0]),(19,[0]),(20,[0]),(23,[0]),(26,[0])]⟩⟩ (nL ⟨[],0,⟨[hR 0 0 [0],hP 1 0 [33],hP 3 0 [34],hR 7 0 [35],hP 15 0 [36],hP 31 0 [37],hR 63 0 [38],hR 0 0 [0],hP 128 0 [40],hP 384 0 [41],hP 896 0 [42],hR 1920 0 [43],hP 4095 0 [39,44],hP 8191 0 [36],hP 16383 0 [46],hE 32767 0 [47,45]],1,[(0,[0]),(3,[0]),(6,[0]),(7,[0]),(11,[0])]⟩⟩) .nil) .nil))) (nO (nS (nO (nL ⟨[],0,⟨[hR 0 0 [0],hP 1 0 [4],hP 3 0 [5],hR 7 0 [6],hP 15 0 [7],hP 31 0 [8],hR 63 0 [9],hR 0 0 [0],hP 128 0 [11],hP 384 0 [12],hR 896 0 [13],hE 2047 0 [10,14],hP 4095 1 [15]],1,[(0,[0]),(3,[0]),(6,[0]),(7,[0]),(10,[0])]⟩⟩) (nO (nL ⟨[],0,⟨[hR 0 0 [0],hP 1 0 [18],hP 3 0 [19],hR 7 0 [20],hR 0 0 [0],hP 16 0 [22],hP 48 0 [23],hR 112 0 [24],hP 240 0 [25],hP 496 0 [26],hR 1008 0 [27],hP 0 0 [3],hP 0 0 [3],hP 4096 0 [30],hE 16368 0 [28,29,31],hP 32767 1 [21],hP 65535 1 [33],hE 131071 1 [34,32]],2,[(0,[0,1]),(3,[0,1]),(4,[0]),(7,[0]),(10,[0])]⟩⟩) .nil)) (nO (nL (nO .nil (nO (nL ⟨[],0,⟨[hP 0 0 [6],hR 1 0 [13],hP 3 0 [14],hP 7 0 [15],hP 15 0 [16,0],hP 31 0 [16,17],hP 63 0 [16,18],hR 127 0 [16,19],hP 15 0 [16,6],hR 271 0 [16,21],hR 1023 0 [16,20,22],hP 2047 0 [16,23],hP 4095 0 [16,24],hP 8191 0 [25],hP 16383 0 [26,0],hP 16383 0 [26,6],hR 49151 0 [26,28],hE 131071 0 [26,27,29],hP 262143 1 [26,30],hP 524287 1 [26,31]],1,[(1,[0]),(7,[0]),(9,[0]),(10,[0]),(16,[0])]⟩⟩) .nil))) .nil) (nL (nO .nil (nL ⟨[],0,⟨[hR 0 0 [2],hR 0 0 [2],hP 2 0 [9],hP 6 0 [10],hP 14 0 [11],hR 30 0 [12],hR 0 0 [3],hP 64 0 [14],hE 254 0 [13,15],hP 511 1 [8],hP 1023 1 [17],hP 2047 1 [18],hE 4095 1 [19,16]],2,[(0,[0,1]),(1,[0]),(5,[0]),(6,[0])]⟩⟩)))) .nil)) (nS (nO (nO .nil (nL ⟨[],0,⟨[hP 0 0 [0],hP 0 0 [3],hP 0 0 [0],hP 0 0 [3],hP 0 0 [0],hP 0 0 [3],hP 48 0 [15,16],hP 112 0 [17],hR 240 0 [18],hE 496 0 [19],hP 0 1 [0],hP 0 1 [3],hP 3072 1 [21,22],hP 7168 1 [23],hR 15360 1 [24],hE 32752 1 [25],hP 65523 2 [11,12],hP 131059 2 [27],hE 262131 2 [28,20],hP 524287 3 [13,14],hP 1048575 3 [29],hE 2097151 3 [30,26]],4,[(8,[0]),(14,[0,1])]⟩⟩)) .nil) (nS (nO (nO (nL ⟨[],0,⟨[hP 0 0 [],hR 0 0 [4],hE 1 0 [2,17],hE 7 1 [3,18]],2,[(1,[0,1])]⟩⟩) (nO .nil (nO (nL ⟨[],0,⟨[hP 0 0 [5],hR 1 0 [78],hP 0 0 [11],hP 4 0 [80],hP 12 0 [81],hR 28 0 [82],hP 60 0 [83],hE 127 0 [79,84],hP 255 1 [5],hE 511 1 [86,85]],2,[(1,[0]),(5,[0])]⟩⟩) .nil))) .nil) (nO .nil (nL (nO (nO .nil (nL ⟨[],0,⟨[hP 0 0 [5],hR 1 0 [13],hE 3 0 [14],hP 0 1 [5],hR 8 1 [16],hE 31 1 [17],hP 63 2 [15,18],hP 127 2 [19]],2,[(1,[0]),(4,[0,1])]⟩⟩)) .nil))) (nL (nO (nL ⟨[],0,⟨[hR 0 0 [0],hP 1 0 [3],hP 3 0 [4],hR 7 0 [5],hR 0 0 [0],hP 16 0 [7],hP 48 0 [8],hP 112 0 [9],hR 240 0 [10],hP 511 0 [6],hP 1023 0 [12],hE 2047 0 [13,11]],1,[(0,[0]),(3,[0]),(4,[0]),(8,[0])]⟩⟩) .nil))) (nO (nO (nO (nL (nO (nO .nil (nL ⟨[],0,⟨[hP 0 0 [6],hR 0 0 [5],hR 0 0 [0],hE 4 0 [21],hP 14 1 [20,22],hP 31 1 [19,23],hE 63 1 [5,24]],2,[(1,[0,1]),(2,[0])]⟩⟩)) .nil)) .nil) .nil) (nL (nO (nL ⟨[],0,⟨[hR 0 0 [0],hP 1 0 [4],hP 3 0 [5],hR 7 0 [6],hR 0 0 [0],hP 16 0 [8],hP 48 0 [9],hR 112 0 [10],hP 255 0 [7,11],hP 511 0 [12]],0,[(0,[0]),(3,[0]),(4,[0]),(7,[0])]⟩⟩) (nL ⟨[],0,⟨[hR 0 0 [0],hP 1 0 [13],hP 3 0 [14],hR 7 0 [15],hP 15 0 [16],hP 31 0 [17],hR 63 0 [18],hR 0 0 [0],hP 128 0 [20],hP 384 0 [21],hR 896 0 [22],hE 2047 0 [19,23],hP 4095 1 [24],hP 8191 1 [25,3],hP 16383 1 [25,26],hP 32767 1 [25,27],hR 65535 1 [25,28],hP 131071 1 [25,29],hP 262143 1 [25,30]],1,[(0,[0]),(3,[0]),(6,[0]),(7,[0]),(10,[0]),(16,[1])]⟩⟩))))))))
end Go.As.Try
end
section
namespace Go.As.Try
open Go Go.As Go.Proofs
set_option maxRecDepth 100000
theorem aeD:(List.range 235).map tab.get=(List.range 235).map (alS Tryz.prog):=by kernel_rfl
theorem VN:(List.range 182).map Tz.get=(List.range 182).map (fun g=>Tryz.prog.funcs[g]?):=by kernel_rfl
theorem aiD:(List.range 182).all (fun g=>match Tz.get g with |some f=>auF (UC (lim 235 tab) (hAt htab) g) f|none=>true)=true:=by kernel_rfl
theorem mixed:Tryz.prog.follows .mixedOrders=true:=by kernel_rfl
end Go.As.Try
namespace Go.Proofs
open Go.Shelf
def Tryz.laysM144_ren:Go.Shelf.Ren:=⟨fun|144=>113|143=>130|219=>141|217=>140|225=>149|224=>150|267=>151|266=>148|314=>157|n=>n,fun|9=>9|4=>4|3=>3|5=>5|46=>210|146=>216|51=>213|n=>n,fun|1=>0|n=>n⟩
theorem Tryz.laysM144:Go.Proofs.LaysM.n144 Tryz.prog Tryz.laysM144_ren where
 mixed:=by kernel_rfl
 f143:=Tryz.func130.trans (congrArg some (by kernel_rfl))
 f144:=Tryz.func113.trans (congrArg some (by kernel_rfl))
 f217:=Tryz.func140.trans (congrArg some (by kernel_rfl))
 f219:=Tryz.func141.trans (congrArg some (by kernel_rfl))
 f224:=Tryz.func150.trans (congrArg some (by kernel_rfl))
 f225:=Tryz.func149.trans (congrArg some (by kernel_rfl))
 f266:=Tryz.func148.trans (congrArg some (by kernel_rfl))
 f267:=Tryz.func151.trans (congrArg some (by kernel_rfl))
 f314:=Tryz.func157.trans (congrArg some (by kernel_rfl))
 t3:=Tryz.underlying3
 a3:=Tryz.isAgg3
 z3:=Tryz.sizeOf3
 v3:=Tryz.zeroValue3
 t4:=Tryz.underlying4
 a4:=Tryz.isAgg4
 z4:=Tryz.sizeOf4
 v4:=Tryz.zeroValue4
 t5:=Tryz.underlying5
 a5:=Tryz.isAgg5
 z5:=Tryz.sizeOf5
 v5:=Tryz.zeroValue5
 t9:=Tryz.underlying9
 a9:=Tryz.isAgg9
 z9:=Tryz.sizeOf9
 v9:=Tryz.zeroValue9
 t46:=Tryz.underlying210
 a46:=Tryz.isAgg210
 z46:=Tryz.sizeOf210
 v46:=Tryz.zeroValue210
 t51:=Tryz.underlying213
 a51:=Tryz.isAgg213
 z51:=Tryz.sizeOf213
 v51:=Tryz.zeroValue213
 t146:=Tryz.underlying216
 a146:=Tryz.isAgg216
 z146:=Tryz.sizeOf216
 v146:=Tryz.zeroValue216
 g1:=by kernel_rfl
 i3:=by kernel_rfl
 i4:=by kernel_rfl
 i5:=by kernel_rfl
 i9:=by kernel_rfl
 i46:=by kernel_rfl
 i51:=by kernel_rfl
 i146:=by kernel_rfl
 m1:=by kernel_rfl
 s1_3:=fun w h=>Go.Proofs.cell_of_shapedOpen_int (zero:=#[.int .i64 0]) (t:=3) h (of_decide_eq_true (by kernel_rfl)) (by kernel_rfl) rfl (by kernel_rfl) (by kernel_rfl) Tryz.underlying3
end Go.Proofs
end
section
namespace Go.As
noncomputable section
open Go.RowKit
def zL:List AV->St->T (AV×St):=fun args s=>match args with
 |[.lQ e,.int .u8 (.lit (.ofNat c))]=>if c<256 then .ret (.int .i64 (.op .cnt e (.lit (Int.ofNat c))),s) else .fail
 |args=>Iy args s
def zK:List AV->St->T (AV×St):=fun args s=>match args with
 |[.lQ e,.int .u8 (.lit (.ofNat c))]=>if c<256 then .ret (.int .i64 (.op .idx e (.lit (Int.ofNat c))),s) else .fail
 |args=>Iw args s
def rP:List AV->St->T (AV×St):=fun args s=>match args with
 |[.str b,.lQ e]=>if b.length<4294967281 then .ret (.bool (.not (.eq (.op .con (.dat (nP b)) e) (.lit 0))),s) else .fail
 |args=>zM args s
theorem aaF {x:UInt8} {c:Nat} (hc:c<256):(D.i (x.toNat:Int)= .i (c:Int))↔x=UInt8.ofNat c:=by
 simp only [D.i.injEq,aEi];constructor
 ·intro h;rw [<- h];simp
 ·intro h;rw [h,aDG];omega
theorem aaH {c:Nat} (hc:c<256): ∀l:List UInt8,(Lib.countByte l (UInt8.ofNat c):Int)=akJ (l.map fun b=> .i (b.toNat:Int)) (c:Int)
 |[]=>rfl
 |x::xs=>by
  have ih:=aaH hc xs;unfold Lib.countByte at *;rw [List.count_cons,aCQ];simp only [akJ];rw [<- ih];by_cases h:x=UInt8.ofNat c
  ·rw [aCL ((aaF hc).2 h),aCL (by simpa using h)];omega
  ·rw [aCI (fun q=>h ((aaF hc).1 q)),aCI (by simpa using h)];omega
theorem Wx {c:Nat} (hc:c<256): ∀(l:List UInt8) (i:Nat),(Lib.indexByte l (UInt8.ofNat c)= -1->wO (c:Int) (l.map fun b=> .i (b.toNat:Int)) (i:Int)= -1)/\(Lib.indexByte l (UInt8.ofNat c)≠-1->wO (c:Int) (l.map fun b=> .i (b.toNat:Int)) (i:Int)=(i:Int)+Lib.indexByte l (UInt8.ofNat c))
 |[],i=> ⟨fun _=>rfl,fun h=>absurd rfl h⟩
 |x::xs,i=>by
  obtain⟨ih1,ih2⟩:=Wx hc xs (i+1);have hge:=Lib.indexByte_ge xs (UInt8.ofNat c);have hcast:(((i+1:Nat):Int))=(i:Int)+1:=by omega
  rw [hcast] at ih1 ih2
  have key:Lib.indexByte (x::xs) (UInt8.ofNat c)=if x=UInt8.ofNat c then 0 else if Lib.indexByte xs (UInt8.ofNat c)= -1 then -1 else Lib.indexByte xs (UInt8.ofNat c)+1:=by simp only [Lib.indexByte,beq_iff_eq]
  have key2:wO (c:Int) ((x::xs).map fun b=> .i (b.toNat:Int)) (i:Int)=if (x.toNat:Int)=(c:Int) then (i:Int) else wO (c:Int) (xs.map fun b=> .i (b.toNat:Int)) ((i:Int)+1):=rfl;by_cases h:x=UInt8.ofNat c
  ·have h':=(aaF hc).2 h;simp only [D.i.injEq] at h';rw [key,key2,aCL h,aCL h'];exact⟨fun q=>by omega,fun _=>by omega⟩
  ·have h': ¬(x.toNat:Int)=(c:Int):=fun q=>h ((aaF hc).1 (by rw [q]));rw [key,key2,aCI h,aCI h'];by_cases hi:Lib.indexByte xs (UInt8.ofNat c)= -1
   ·rw [aCL hi];exact⟨fun _=>ih1 hi,fun q=>absurd rfl q⟩
   ·rw [aCI hi];exact⟨fun q=>by omega,fun _=>by rw [ih2 hi]; omega⟩
theorem apM {c:Nat} (hc:c<256) (l:List UInt8):NU (l.map fun b=> .i (b.toNat:Int)) (c:Int)=Lib.indexByte l (UInt8.ofNat c):=by
 obtain⟨h1,h2⟩:=Wx hc l 0;unfold NU;by_cases h:Lib.indexByte l (UInt8.ofNat c)= -1
 ·have:=h1 h;rw [h]; exact this
 ·have:=h2 h;rw [show ((0:Nat):Int)=0 from rfl,Int.zero_add] at this;exact this
theorem aaE: ∀(c s:List UInt8),YK (c.map fun b=> .i (b.toNat:Int)) (s.map fun b=> .i (b.toNat:Int))=c.isPrefixOf s
 |[],s=>by simp [YK]
 |_::_,[]=>rfl
 |a::x,b::y=>by simp only [aCQ,YK,List.isPrefixOf,aaE x y];congr 1;rw [aDu,decide_eq_true_eq,beq_iff_eq];simp only [D.i.injEq,aEi];exact UInt8.toNat_inj
theorem aaG (c:List UInt8): ∀s:List UInt8,adG (s.map fun b=> .i (b.toNat:Int)) (c.map fun b=> .i (b.toNat:Int))=Lib.contains s c
 |[]=>by cases c<;>simp [adG,YK,Lib.contains,Lib.index]
 |b::bs=>by
  have ih:=aaG c bs;have hp:=aaE c (b::bs);simp only [aCQ] at hp;unfold Lib.contains at *;simp only [aCQ,Lib.index,adG];rw [hp,ih];have hge:=index_ge c bs
  have key:(0<=(if c.isPrefixOf (b::bs)=true then (0:Int) else if (Lib.index bs c == -1)=true then -1 else Lib.index bs c+1))↔(c.isPrefixOf (b::bs)=true\/0<=Lib.index bs c):=by
   by_cases hq:c.isPrefixOf (b::bs)=true
   ·simp [hq]
   ·by_cases h1:Lib.index bs c= -1
    ·simp [hq,h1]
    ·simp only [beq_iff_eq,hq,h1,if_false,false_or,aCU];omega
  rw [aDu,aDM,decide_eq_true_eq];exact key.symm.trans decide_eq_true_iff.symm
section
variable {P:Program}
theorem adH [Glob] {g:FuncId} {fn:Func} (hf:P.funcs[g]?=some fn) (hname:(fn.name == "runtime.NumGoroutine")=false) (hb:fn.body.isNone=true) (hn:Extern.findNext fn=none) (he:Extern.find fn=some Extern.BytealgCount.count):lX P g zL:=by
 intro aCH s E w vals u s' r hv hp hl;unfold zL at hl;split at hl
 ·rename_i e c;split at hl
  ·rename_i hc;have:=aC hl;simp only [aCK] at this;obtain⟨rfl,rfl⟩:=this;simp only [bC,VR,SE.den] at hv;obtain⟨u1,r1,rfl,hrd,u2,r2,rfl,rfl,rfl⟩:=hv;obtain⟨st,rfl,hd⟩:=hrd.string;refine⟨rfl,hp,?_⟩;unfold oK sV;rw [Dw hf hname hb hn he (Lib.run_countString st (Int.ofNat c) w)];refine⟨E,Stp.refl _ _ _,r,?_⟩;simp only [VR,SE.den,gB.den];have:(Int.ofNat c).toNat.toUInt8=UInt8.ofNat c:=rfl;rw [this,aaH hc,hd];unfold Am vJ;rw [aY];rfl
  ·simp [T.leaf] at hl
 ·exact akK hf hname hb hn he _ _ _ _ _ _ _ r hv hp hl
theorem acH [Glob] {g:FuncId} {fn:Func} (hf:P.funcs[g]?=some fn) (hname:(fn.name == "runtime.NumGoroutine")=false) (hb:fn.body.isNone=true) (hn:Extern.findNext fn=none) (he:Extern.find fn=some Extern.BytealgIndexByte.indexByte):lX P g zK:=by
 intro aCH s E w vals u s' r hv hp hl;unfold zK at hl;split at hl
 ·rename_i e c;split at hl
  ·rename_i hc;have:=aC hl;simp only [aCK] at this;obtain⟨rfl,rfl⟩:=this;simp only [bC,VR,SE.den] at hv;obtain⟨u1,r1,rfl,hrd,u2,r2,rfl,rfl,rfl⟩:=hv;obtain⟨st,rfl,hd⟩:=hrd.string;refine⟨rfl,hp,?_⟩;unfold oK sV;rw [Dw hf hname hb hn he (Lib.run_indexByteString st (Int.ofNat c) w)];refine⟨E,Stp.refl _ _ _,r,?_⟩;simp only [VR,SE.den,gB.den];have:(Int.ofNat c).toNat.toUInt8=UInt8.ofNat c:=rfl;rw [this,<- apM hc,hd];unfold Am vJ;rw [aY];rfl
  ·simp [T.leaf] at hl
 ·exact ahK hf hname hb hn he _ _ _ _ _ _ _ r hv hp hl
theorem Uy [Glob] {g:FuncId} (hg: ∀(ρ:Nat->Int) (ro:Nat->Prop) (w:World),Glob.ok ρ ro w.heap->∀s sub:ByteArray,s.size<4294967281->Calls P g #[.string s,.string sub] w fun e w'=>e= .returned (.bool (Lib.contains s.data.toList sub.data.toList))/\w'=w)
 (hrun: ∀(args:Array Value) (w:World),(callFunc g args).run P w= .ok (.enter g args) w):lX P g rP:=by
 intro aCH s E w vals u s' r hv hp hl;unfold rP at hl;split at hl
 ·rename_i b e;split at hl
  ·rename_i hlen;have:=aC hl;simp only [aCK] at this;obtain⟨rfl,rfl⟩:=this;simp only [bC,VR] at hv;obtain⟨u1,r1,rfl,⟨rfl,hbb⟩,u2,r2,rfl,hrd,rfl⟩:=hv;obtain⟨st,rfl,hd⟩:=hrd.string;refine⟨rfl,hp,?_⟩;unfold oK sV;rw [hrun];refine Calls.mono (hg E.ρ E.ro w r.glob (bU b) st (by simpa [bU,ByteArray.size] using hlen)) fun e' w' ⟨he,hw⟩=>?_;subst hw;refine⟨_,he,E,Stp.refl _ _ _,r,?_⟩;simp only [VR,SB.den,SE.den,gB.den,aA];have h2:(bU b).data.toList=b.map UInt8.ofNat:=by simp [bU]
   rw [h2,hd,GV b hbb];unfold Am vJ;rw [aY,aY,aaG];cases Lib.contains (b.map UInt8.ofNat) st.data.toList<;>rfl
  ·simp [T.leaf] at hl
 ·exact WA hg hrun _ _ _ _ _ _ _ r hv hp hl
end
end
end Go.As
end
section
namespace Go.As
noncomputable section
open Go.RowKit
mutual
def jM (h:Hp):AV->AV->Bool
 | .bool (.lit a),v=>match v with
   | .bool (.lit b)=>a == b
   |_=>false
 | .int k (.lit a),v=>match v with
   | .int k' (.lit b)=>decide (k=k')&&decide (a=b)
   |_=>false
 | .str s,v=>match v with
   | .str t=>iZ s t
   |_=>false
 | .aQ,v=>match v with
   | .aQ=>true
   |_=>false
 | .agg ks,v=>match v with
   | .agg cs=>Nat.beq ks.length cs.length&&zA h ks cs
   |_=>false
 | .ro ks n false,v=>match v with
   | .slice id off len _=>match Nat.beq n len with
     |true=>match n with
      |0=>false
      |_=>match h.get id with
       |some (.cells cs _)=>match eF off cs with
        |some l=>zA h ks l
        |none=>false
       |_=>false
     |false=>false
   | .ro cs m _=>Nat.beq n m&&zA h ks cs
   |_=>false
 |_,_=>false
def zA (h:Hp):List AV->List AV->Bool
 |[],_=>true
 |k::ks,l=>match l with
  |v::vs=>match jM h k v with
   |true=>zA h ks vs
   |false=>false
  |[]=>false
end
def PL (h:Hp) (aCH:List AV):List (List AV×AV)->Option AV
 |[]=>none
 |(k,v)::l=>match Nat.beq k.length aCH.length with
  |true=>match zA h k aCH with
   |true=>some v
   |false=>PL h aCH l
  |false=>PL h aCH l
def Zw (tbl:List (List AV×AV)):List AV->St->T (AV×St):=fun aCH s=>match PL s.h aCH tbl with
 |some v=> .ret (v,s)
 |none=> .fail
def Tq (key:List AV) (v:AV) (f:List AV->St->T (AV×St)):Bool:=
 jH v&&(match f key ⟨.nil,Hp.zero,[]⟩ with | .ret (u,_)=>dZ u v|_=>false)
section
variable {P:Program}
mutual
theorem acD [Glob] {E:En} {H:Hp} {w:World} (r:aO E H w) (ρ:Nat->Int): ∀(key v:AV) (u:Value),jM H key v=true->VR E w.heap v u->VR (En.zero ρ (fun b=>b<w.heap.size)) w.heap key u
 | .bool b,v,u,hm,hv=>by
   cases b<;>simp only [jM,aCU] at hm;split at hm
   ·simp only [beq_iff_eq] at hm;subst hm;simpa [VR,SB.den] using hv
   ·simp at hm
 | .int k e,v,u,hm,hv=>by
   cases e<;>simp only [jM,aCU] at hm;split at hm
   ·simp only [aCM,decide_eq_true_eq] at hm;obtain⟨rfl,rfl⟩:=hm;simpa [VR,SE.den] using hv
   ·simp at hm
 | .str s,v,u,hm,hv=>by
   simp only [jM] at hm;split at hm
   ·have:=(oU _ _).1 hm;subst this;simpa only [VR] using hv
   ·simp at hm
 | .aQ,v,u,hm,hv=>by
   simp only [jM] at hm;split at hm
   ·simpa only [VR] using hv
   ·simp at hm
 | .agg ks,v,u,hm,hv=>by
   simp only [jM] at hm;split at hm
   ·rename_i cs;simp only [aCM] at hm;simp only [VR] at hv ⊢;obtain⟨us,rfl,h2⟩:=hv;obtain⟨h3,h4⟩:=yF r ρ ks cs us hm.2 h2;have e:=aCO hm.1;rw [e,<- h2.length,aEa] at h3;exact⟨us,rfl,h3⟩
   ·simp at hm
 | .ro ks n true,v,u,hm,hv=>by simp [jM] at hm
 | .ro ks n false,v,u,hm,hv=>by
   simp only [jM] at hm;split at hm
   ·rename_i id off len c;split at hm
    ·rename_i hn;have hn:=aCO hn;subst hn;split at hm
     ·simp at hm
     ·rename_i hn0;split at hm
      ·rename_i cs e hg;split at hm
       ·rename_i l hl;simp only [VR] at hv ⊢;obtain⟨hd,a,cap,rfl,hle,hcap⟩:=hv;obtain⟨_,ho,_⟩:=r.live id _ hg;simp only [OR] at ho;obtain⟨arr,lo,hi,us,hb,h2,h3,_,_,_,h7⟩:=ho;obtain⟨q1,q2,q3⟩:=h2.eF hl;obtain⟨p1,p2⟩:=yF r ρ ks l _ hm q1
        have ha:a=⟨(E.θ id).1,(E.θ id).2+off,none⟩:=by
         cases c with
         |exact c=>
          simp only [eX] at hcap;rcases hcap.2 with h|h
          ·exact h
          ·exact absurd (by omega) hn0
         |rest es=>
          simp only [eX] at hcap;rcases hcap with h|h
          ·exact h.1
          ·exact absurd (by omega) hn0
        subst ha;have hlt:(E.θ id).1<w.heap.size:=(aDx.1 hb).1;refine⟨_,_,cap,_,rfl,hle,by simp,hlt,p1,?_,?_⟩
        ·intro i x hx
         have hx':us[off+i]?=some x:=by
          rw [aDK] at hx;split at hx
          ·rw [aDJ] at hx; exact hx
          ·simp at hx
         have:=h3 _ _ hx';unfold hcell;rw [hb];simp only;rw [<- this];congr 1;omega
        ·intro x hx;exact h7 x (aDh (aDn hx))
       ·simp at hm
      ·simp at hm
    ·simp at hm
   ·rename_i cs m f;simp only [aCM] at hm;have hn:=aCO hm.1;subst hn;simp only [VR] at hv ⊢;obtain⟨b,o,cap,us,rfl,h2,h3,h4,h5,h6,h7⟩:=hv;obtain⟨p1,p2⟩:=yF r ρ ks cs _ hm.2 h5;refine⟨b,o,cap,_,rfl,h2,by simp,r.xC b h4,p1,?_,fun x hx=>h7 x (aDn hx)⟩;intro i x hx;rw [aDK] at hx;split at hx
    ·exact h6 i x hx
    ·simp at hx
   ·simp at hm
 | .ptr _ _,v,u,hm,_=>by simp [jM] at hm
 | .kM,v,u,hm,_=>by simp [jM] at hm
 | .qX _,v,u,hm,_=>by simp [jM] at hm
 | .slice _ _ _ _,v,u,hm,_=>by simp [jM] at hm
 | .map _,v,u,hm,_=>by simp [jM] at hm
 | .qK,v,u,hm,_=>by simp [jM] at hm
 | .func _ _ _,v,u,hm,_=>by simp [jM] at hm
 | .BA,v,u,hm,_=>by simp [jM] at hm
 | .iface _ _,v,u,hm,_=>by simp [jM] at hm
 | .EG,v,u,hm,_=>by simp [jM] at hm
 | .tuple _,v,u,hm,_=>by simp [jM] at hm
 | .opq _,v,u,hm,_=>by simp [jM] at hm
 | .inp _ _,v,u,hm,_=>by simp [jM] at hm
theorem yF [Glob] {E:En} {H:Hp} {w:World} (r:aO E H w) (ρ:Nat->Int): ∀(ks vs:List AV) (us:List Value),zA H ks vs=true->bC E w.heap vs us->
 bC (En.zero ρ (fun b=>b<w.heap.size)) w.heap ks (us.take ks.length)/\ks.length<=us.length
 |[],vs,us,_,_=>by simp [bC]
 |k::ks,[],us,hm,_=>by simp [zA] at hm
 |k::ks,v::vs,us,hm,hv=>by
  simp only [zA] at hm;split at hm
  ·rename_i h1;rw [aT] at hv;obtain⟨u,us',rfl,hu,hus⟩:=hv;obtain⟨p1,p2⟩:=yF r ρ ks vs us' hm hus;rw [aCW,aDW,aT];exact⟨⟨u,_,rfl,acD r ρ k v u h1 hu,p1⟩,by simp; exact p2⟩
  ·simp at hm
end
theorem LW {h:Hp} {aCH:List AV} {v:AV}: ∀{tbl:List (List AV×AV)},PL h aCH tbl=some v->∃k,(k,v)∈tbl/\k.length=aCH.length/\zA h k aCH=true
 |[],hl=>by simp [PL] at hl
 |(k,x)::l,hl=>by
  simp only [PL] at hl;split at hl
  ·rename_i h1;split at hl
   ·rename_i h2;simp only [aCJ] at hl;subst hl;exact⟨k,by simp,aCO h1,h2⟩
   ·obtain⟨k',h1,h2⟩:=LW hl;exact⟨k',by simp [h1],h2⟩
  ·obtain⟨k',h1,h2⟩:=LW hl;exact⟨k',by simp [h1],h2⟩
theorem Vx [Glob] {g:FuncId} {f:List AV->St->T (AV×St)} (hf:lX P g f) {fn:Func} (hfn:P.funcs[g]?=some fn) (hname:(fn.name == "runtime.NumGoroutine")=false) {c:Code} (hb:fn.body=some c)
 {tbl:List (List AV×AV)} (h: ∀p∈tbl,Tq p.1 p.2 f=true):lX P g (Zw tbl):=by
 intro aCH s E w vals u s' r hv hp hl;unfold Zw at hl;split at hl
 ·rename_i v hlook;have:=aC hl;simp only [aCK] at this;obtain⟨rfl,rfl⟩:=this;obtain⟨k,hmem,hlen,aBT⟩:=LW hlook;have hk:=h _ hmem;unfold Tq at hk;simp only [aCM] at hk;obtain⟨h2,h3⟩:=hk;split at h3
  ·rename_i u' s1 hrun;have hu:=lK _ _ h3;subst hu;obtain⟨p1,_⟩:=yF r E.ρ k aCH vals aBT hv;rw [hlen,<- hv.length,aEa] at p1;have hgl:Glob.ok E.ρ (fun b=>b<w.heap.size) w.heap:=Glob.keep r.glob r.xC fun _ _=>rfl;have hc:=G5 hf hfn hname hb (ρ:=E.ρ) (ro:=fun b=>b<w.heap.size) (w:=w) (fun _ h=>h) hgl p1 (v:=u') (s':=s1) (by rw [hrun]; rfl);refine⟨rfl,hp,?_⟩
   have hrun:(callFunc g vals.toArray).run P w= .ok (.enter g vals.toArray) w:=by unfold callFunc;simp [hfn,hb,by simpa using hname]
   unfold oK sV;rw [hrun];exact Calls.mono hc fun e w' ⟨x,E',he,hx,_,hbl⟩=> ⟨x,he,E,(DN r hbl).1,(DN r hbl).2,DJ u' x h2 hx⟩
  ·simp at h3
 ·simp [T.leaf] at hl
end
end
end Go.As
end

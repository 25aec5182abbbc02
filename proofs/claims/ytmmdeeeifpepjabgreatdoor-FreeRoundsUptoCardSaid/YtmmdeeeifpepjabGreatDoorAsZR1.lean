import Derived.Test.YtmmdeeeifpepjabGreatDoorAsZR0
set_option linter.unusedSectionVars false
set_option linter.unusedVariables false
set_option linter.unusedSimpArgs false
section
namespace Go.As
section
variable {P:Program} {E:En} {w:World}
theorem bF.swap [Glob] {H H2:Hp} (r:bF E H w) {id:Nat} {o o':dW} (hl:H.get id=some o) (ho:OR E w.heap id o') (hg:H2.get id=some o') (hs: ∀j,j≠id→H2.get j=H.get j) (hn:H2.next=H.next) (hr:H2.res=H.res):bF E H2 w:=by
 have key: ∀j x,H2.get j=some x→∃y,H.get j=some y:=by
  intro j x hj;by_cases h:j=id
  ·exact⟨o,by rw [h]; exact hl⟩
  ·exact⟨x,by rw [← hs j h]; exact hj⟩
 refine⟨fun i hi=>r.fresh i (by rw [← hn]; exact hi),fun q hq=>by rw [hn]; exact r.res q (by rw [← hr]; exact hq),fun j x hj=>?_,fun i j x y hi hj he=>?_,r.BO,r.glob⟩
 ·by_cases h:j=id
  ·subst h;rw [hg] at hj;simp only [Option.some.injEq] at hj;subst hj;exact⟨(r.live j o hl).1,ho,(r.live j o hl).2.2⟩
  ·exact r.live j x (by rw [← hs j h]; exact hj)
 ·obtain⟨x',hx⟩:=key i x hi;obtain⟨y',hy⟩:=key j y hj;exact r.inj i j x' y' hx hy he
structure Wu (H H2:Hp):Prop where
 ab: ∀j x,H.get j=some x→∃y,H2.get j=some y
 ba: ∀j x,H2.get j=some x→∃y,H.get j=some y
 next:H2.next=H.next
 res:H2.res=H.res
theorem Wu.put {H:Hp} {id:Nat} {o o':dW} (hl:H.get id=some o):Wu H (H.put id o'):=by
 refine⟨fun j x hj=>?_,fun j x hj=>?_,rfl,rfl⟩
 ·rw [Hp.get_put];split
  ·exact⟨o',rfl⟩
  ·exact⟨x,hj⟩
 ·rw [Hp.get_put] at hj;split at hj
  ·rename_i h; exact⟨o,by rw [h]; exact hl⟩
  ·exact⟨x,hj⟩
theorem Wu.symm {H H2:Hp} (a:Wu H H2):Wu H2 H:=⟨a.ba,a.ab,a.next.symm,a.res.symm⟩
theorem Stp.left {H H2 H':Hp} {E':En} {w':World} (a:Wu H H2) (s:Stp E H w E' H' w'):Stp E H2 w E' H' w':=
 ⟨s.ρ,s.dm,s.θ,s.κ,s.ro,fun b hb=>(s.JE b hb).imp id (Or.imp (fun⟨i,o,h1,h2⟩=>by obtain⟨y,hy⟩:=a.ab i o h1; exact⟨i,y,hy,h2⟩) id),by rw [a.next]; exact s.nxm,by rw [a.res]; exact s.rsm,
  fun i hi=>by rw [a.next,a.res]; exact s.dmn i hi,s.os,s.tape,s.output,s.size,fun b hb hn=>s.keep b hb fun i o ho=>by obtain⟨y,hy⟩:=a.ab i o ho; exact hn i y hy,
  fun i o ho hlt=>by obtain⟨i0,o0,h1,h2⟩:=s.own i o ho hlt; obtain⟨y,hy⟩:=a.ab i0 o0 h1; exact⟨i0,y,hy,h2⟩⟩
theorem Stp.right {H H' H2:Hp} {E':En} {w':World} (a:Wu H' H2) (s:Stp E H w E' H' w'):Stp E H w E' H2 w':=
 ⟨s.ρ,s.dm,s.θ,s.κ,s.ro,s.JE,by rw [a.next]; exact s.nxm,by rw [a.res]; exact s.rsm,
  fun i hi=>by rw [a.next]; exact s.dmn i hi,s.os,s.tape,s.output,s.size,s.keep,
  fun i o ho hlt=>by obtain⟨y,hy⟩:=a.ba i o ho; exact s.own i y hy hlt⟩
theorem dP.of {ro:Nat→Prop} {h:Array Obj} {d:D} (f:Nat→Value): ∀(cs:List CK) (j:Nat),(∀i c,cs[i]?=some c→lG ro h c (d.hd (j+i)) (f (j+i)))→dP ro h cs j d ((List.range' j cs.length).map f)
 | [],j,_=>by simp [dP]
 | c :: cs,j,hh=>by simp only [List.length_cons,List.range'_succ,List.map_cons,dP];refine⟨f j,_,rfl,by simpa using hh 0 c (by simp),dP.of f cs (j+1) fun i c' hi=>?_⟩;have:=hh (i+1) c' (by simpa using hi);rw [show j+1+i=j+(i+1) by omega];exact this
theorem Rd.row {ro:Nat→Prop} {h:Array Obj} {t:Nat} {d:D} {v:Value} (r:Rd ro h (.sl t) d v) {i:Nat} {x:D} (hi:d.l[i]?=some x) :
 ∃b o cap us,v= .slice (some ⟨b,o,none⟩) d.l.length cap∧ro b∧Eu ro h (rowOf t) x us∧iF h b (o+i*(rowOf t).es) us:=by
 generalize hc:CK.sl t=c at r
 cases r with
 | int k n=>simp at hc
 | bool b=>simp at hc
 | str s=>simp at hc
 | nil t=>simp [D.l] at hi
 | non t a cap=>simp [D.l] at hi
 | one t' c b o cap ds f hr hcp hb h1 h2=>
   simp only [CK.sl.injEq] at hc;subst hc;rw [aT] at hi ⊢;refine⟨b,o,cap,[f i],rfl,hb,?_,?_⟩
   ·rw [hr];exact⟨_,rfl,(h2 i x hi).cell⟩
   ·rw [hr];intro j u hj
    cases j with
    | zero=> simp at hj;subst hj;simpa [Row.es] using h1 i x hi
    | succ j=>simp at hj
 | many t' cs b o cap rows f hr hcp hb hl h1 h2=>
   simp only [CK.sl.injEq] at hc;subst hc;rw [aT] at hi ⊢;rw [List.getElem?_map,Option.map_eq_some_iff] at hi;obtain⟨row,hrow,rfl⟩:=hi;have hlen:=hl row (List.mem_of_getElem? hrow);refine⟨b,o,cap,(List.range' 0 cs.length).map (f i),by simp,hb,?_,?_⟩
   ·rw [hr];refine dP.of (f i) cs 0 fun j c hj=>?_;have hjl:j < row.length:=by rw [hlen]; exact (List.getElem?_eq_some_iff.1 hj).1
    have hd:row[j]?=some row[j]:=List.getElem?_eq_getElem hjl;rw [Nat.zero_add];have:(dL row).hd j=row[j]:=by simp [D.hd,hd]
    rw [this];exact (h2 i row j _ c hrow hd hj).cell
   ·rw [hr];intro j u hj;rw [List.getElem?_map,Option.map_eq_some_iff] at hj;obtain⟨k,hk,rfl⟩:=hj
    have hjl:j < cs.length:=by have:=(List.getElem?_eq_some_iff.1 hk).1;simpa using this
    rw [List.getElem?_range' hjl] at hk;simp only [Option.some.injEq] at hk;obtain rfl:k=j:=by omega
    have hd:row[k]?=some row[k]:=List.getElem?_eq_getElem (by omega);exact h1 i row k _ hrow hd
theorem Jl (ρ:Nat→Int) (e i:SE) {x:D} {k:Nat} (hi:i.den ρ=(k:Int)) (hx:(dec (e.den ρ)).l[k]?=some x):dec ((SE.op .at e i).den ρ)=x:=by simp only [SE.den,iO.den,aG,D.at,hi,Int.toNat_natCast,hx,Option.getD_some]
theorem rV {tt:TT} (htt:eP P tt) {ty z:Nat} (h:AL tt ty=some z): ∃el ie,P.underlying ty=some (.slice el)∧tt el=some ie∧ie.size=z:=by
 unfold AL at h;split at h
 ·rename_i ti hti;split at h
  ·rename_i el hk;simp only [jX,Option.map_eq_some_iff] at h;obtain⟨ie,hie,rfl⟩:=h;exact⟨el,ie,fQ (htt ty ti hti) hk,hie,rfl⟩
  ·simp at h
 ·simp at h
theorem aaP {tt:TT} (htt:eP P tt) {s s':St} (hp:bI E.ρ s.pc) {ty t:Nat} {e:SE} {ix v:AV} {u ui:Value} (hx:VR E w.heap (.dat e t) u) (hix:VR E w.heap ix ui) (h:(VG tt s ty t e ix).leaf E.ρ=some (v,s')) :
 s'.slots=s.slots∧s'.h=s.h∧bI E.ρ s'.pc∧∃r,(Instr.indexAt ty u ui).run P w= .ok r w∧VR E w.heap v r:=by
 unfold VG at h;split at h
 ·rename_i kd i;split at h
  ·rename_i z hz;split at h
   ·rename_i hes;obtain⟨pc',hp',h1,h2,h3⟩:=sD hp h;have:=aH h3;simp only [Prod.mk.injEq] at this;obtain⟨rfl,rfl⟩:=this;refine⟨rfl,rfl,hp',?_⟩;rw [dD] at h2;simp only [VR] at hx hix;subst hix;obtain⟨el,ie,hu,hie,rfl⟩:=rV htt hz;obtain⟨k,hk⟩ : ∃k:Nat,i.den E.ρ=(k:Int):=⟨(i.den E.ρ).toNat,by omega⟩;have hlt:k < (dec (e.den E.ρ)).l.length:=by omega
    have hd:(dec (e.den E.ρ)).l[k]?=some (dec (e.den E.ρ)).l[k]:=List.getElem?_eq_getElem hlt;obtain⟨b,o,cap,us,rfl,g1,g2,g3⟩:=hx.row hd;refine⟨.pointer (some ⟨b,o+k*ie.size,none⟩),?_,?_⟩
    ·rw [hk];simp [Instr.indexAt,asIntOf,run_underlying hu,dX (htt el ie hie),hlt,fK]
    ·simp only [VR];exact⟨b,_,us,rfl,g1,by rw [gZ,Jl E.ρ e i hk hd]; exact g2,by rw [hes]; exact g3,g2.ones⟩
   ·simp [T.leaf] at h
  ·simp [T.leaf] at h
 ·simp [T.leaf] at h
theorem Z8 {tt:TT} (htt:eP P tt) {s s':St} (hp:bI E.ρ s.pc) {ty t id:Nat} {n:SE} {ix v:AV} {u ui:Value} (hx:VR E w.heap (.vM id n t) u) (hix:VR E w.heap ix ui) (h:(Vq tt s ty id t n ix).leaf E.ρ=some (v,s')) :
 s'.slots=s.slots∧s'.h=s.h∧bI E.ρ s'.pc∧∃r,(Instr.indexAt ty u ui).run P w= .ok r w∧VR E w.heap v r:=by
 unfold Vq at h;split at h
 ·rename_i kd i;split at h
  ·rename_i z hz;split at h
   ·rename_i hes;obtain⟨pc',hp',h1,h2,h3⟩:=sD hp h;have:=aH h3;simp only [Prod.mk.injEq] at this;obtain⟨rfl,rfl⟩:=this;refine⟨rfl,rfl,hp',?_⟩;simp only [VR] at hx hix;subst hix;obtain⟨hid,m,a,cap,hn,rfl,hcap,hc⟩:=hx;obtain⟨el,ie,hu,hie,rfl⟩:=rV htt hz;obtain⟨k,hk⟩ : ∃k:Nat,i.den E.ρ=(k:Int):=⟨(i.den E.ρ).toNat,by omega⟩;have hlt:k < m:=by omega
    have ha:a=⟨(E.θ id).1,(E.θ id).2,none⟩:=by
     simp only [fP] at hc;rcases hc with hc | hc
     ·simpa using hc.1
     ·omega
    subst ha;refine⟨.pointer (some ⟨(E.θ id).1,(E.θ id).2+k*ie.size,none⟩),?_,?_⟩
    ·rw [hk];simp [Instr.indexAt,asIntOf,run_underlying hu,dX (htt el ie hie),hlt,fK]
    ·simp only [VR];exact⟨hid,k,hk,by rw [Nat.add_zero]⟩
   ·simp [T.leaf] at h
  ·simp [T.leaf] at h
 ·simp [T.leaf] at h
theorem sV {ρ:Nat→Int} {pc:List (SB×Bool)} (hp:bI ρ pc) {dflt cs:List AV} {i:SE} {k:Nat} (hi:i.den ρ=(k:Int)): ∀{ov:List (SE×List AV)},sW pc dflt i ov=some cs→
 dQ ρ k ov=some cs∨(dQ ρ k ov=none∧cs=dflt)
 | [],h=>by simp only [sW,Option.some.injEq] at h; exact .inr ⟨rfl,h.symm⟩
 | (j,c) :: l,h=>by
   simp only [sW] at h;simp only [dQ];split at h
   ·rename_i he;have he:=bW _ _ he;subst he;rw [if_pos hi];simp only [Option.some.injEq] at h;subst h;exact .inl rfl
   ·split at h
    ·rename_i b hd;have hd:=jA hp hd;rw [lV] at hd;split at h
     ·rw [beq_iff_eq,hi] at hd;rw [if_pos hd.symm];exact .inl h
     ·rw [beq_eq_false_iff_ne,hi] at hd;rw [if_neg (fun q=>hd q.symm)];exact sV hp hi h
    ·simp at h
theorem Dt {α:Type} {ρ:Nat→Int} {i:SE} {r:α}: ∀{ov:List (SE×List AV)} {s:St} {k:St→T α},bI ρ s.pc→(BG i ov s k).leaf ρ=some r→∃pc',bI ρ pc'∧(k { s with pc:=pc' }).leaf ρ=some r
 | [],s,k,hp,h=> ⟨s.pc,hp,h⟩
 | (j,c) :: l,s,k,hp,h=>by
   simp only [BG] at h;split at h
   ·exact⟨s.pc,hp,h⟩
   ·obtain⟨pc1,hp1,h1⟩:=cO hp h;split at h1
    ·exact⟨pc1,hp1,h1⟩
    ·exact Dt (s:={ s with pc:=pc1 }) hp1 h1
theorem lI {ρ:Nat→Int} {r:Row} {ov:List (SE×List AV)} (ho:Gn r ov): ∀{ds:List D} {j k:Nat} {x:D},ds[k]?=some x→
 aK ρ r ov ds j=aK ρ r ov (ds.take k) j++((match dQ ρ (j+k) ov with | some cs=>cs | none=>jD r (.dat x))++aK ρ r ov (ds.drop (k+1)) (j+k+1))∧(aK ρ r ov (ds.take k) j).length=k*r.es
 | [],j,k,x,h=>by simp at h
 | d :: ds,j,0,x,h=>by simp only [List.getElem?_cons_zero,Option.some.injEq] at h;subst h;refine⟨?_,by simp [aK]⟩;simp only [List.take_zero,aK,List.nil_append,Nat.add_zero,List.drop_succ_cons,List.drop_zero];rfl
 | d :: ds,j,k+1,x,h=>by
   have h':ds[k]?=some x:=by simpa using h
   have hk:k < ds.length:=(List.getElem?_eq_some_iff.1 h').1;obtain⟨h1,h2⟩:=lI (ρ:=ρ) ho (j:=j+1) h';refine⟨?_,?_⟩
   ·simp only [List.take_succ_cons,aK,List.append_assoc,List.drop_succ_cons];rw [h1,show j+1+k=j+(k+1) by omega]
   ·rw [bU ho,List.length_take,List.length_cons];congr 1;omega
theorem AO {α:Type}: ∀(a b:List α),fE a.length (a++b)=some b
 | [],_=>rfl
 | x :: a,b=>by simp [fE,AO a b]
theorem O5 {α:Type}: ∀{n:Nat} {a b l:List α},fE n a=some l→fE n (a++b)=some (l++b)
 | 0,a,b,l,h=>by simp only [fE,Option.some.injEq] at h ⊢; rw [h]
 | n+1,[],b,l,h=>by simp [fE] at h
 | n+1,x :: a,b,l,h=>by simp only [fE,List.cons_append] at h ⊢; exact O5 h
theorem Md {α:Type}: ∀{n:Nat} {a b l:List α},jW n a=some l→jW n (a++b)=some l
 | 0,a,b,l,h=>by simp only [jW] at h ⊢; exact h
 | n+1,[],b,l,h=>by simp [jW] at h
 | n+1,x :: a,b,l,h=>by
   simp only [jW,List.cons_append] at h ⊢;split at h
   ·rename_i l' hl;rw [Md hl];exact h
   ·simp at h
theorem TF {α:Type}: ∀{a b:Nat} {l m:List α},fE a l=some m→fE (a+b) l=fE b m
 | 0,b,l,m,h=>by simp only [fE,Option.some.injEq] at h; subst h; rw [Nat.zero_add]
 | a+1,b,[],m,h=>by simp [fE] at h
 | a+1,b,x :: l,m,h=>by rw [show a+1+b=(a+b)+1 by omega];simp only [fE] at h ⊢;exact TF h
noncomputable def dM (ρ:Nat→Int) (e:SE) (t:Nat) (ov:List (SE×List AV)):List AV:=aK ρ (rowOf t) ov (dec (e.den ρ)).l 0
theorem OR.yZ {h:Array Obj} {id:Nat} {e:SE} {t:Nat} {ty:TypeId} {ov:List (SE×List AV)}:OR E h id (.vec e t ty ov)↔(Gn (rowOf t) ov∧J9 (rowOf t) (dec (e.den E.ρ)))∧OR E h id (.cells (dM E.ρ e t ov) ty):=by simp only [OR,dM]
theorem bF.yZ [Glob] {H:Hp} (r:bF E H w) {id:Nat} {e:SE} {t:Nat} {ty:TypeId} {ov:List (SE×List AV)} (hl:H.get id=some (.vec e t ty ov)):bF E (H.put id (.cells (dM E.ρ e t ov) ty)) w∧Gn (rowOf t) ov∧J9 (rowOf t) (dec (e.den E.ρ)):=by obtain⟨h1,h2⟩:=OR.yZ.1 (r.live id _ hl).2.1;exact⟨r.swap hl h2 (by rw [Hp.get_put,if_pos rfl]) (fun j hj=>by rw [Hp.get_put,if_neg hj]) rfl rfl,h1⟩
theorem ET {h:Array Obj} {r:Row} {x y:SE} (hd:dec (x.den E.ρ)=dec (y.den E.ρ)) {us:List Value}:bJ E h (jD r x) us↔bJ E h (jD r y) us:=by rw [gZ,gZ,hd]
theorem asQ [Glob] {H:Hp} (r:bF E H w) {id:Nat} {e i:SE} {t:Nat} {ty:TypeId} {ov:List (SE×List AV)} (hl:H.get id=some (.vec e t ty ov)) {k:Nat} (hi:i.den E.ρ=(k:Int)) (hk:(k:Int) < (eX e).den E.ρ)
 {pc:List (SB×Bool)} (hp:bI E.ρ pc) {cs:List AV} (hc:sW pc (jD (rowOf t) (.op .at e i)) i ov=some cs) :
 ∃pre row post,dM E.ρ e t ov=pre++(row++post)∧pre.length=k*(rowOf t).es∧row.length=(rowOf t).es∧(∀h us,bJ E h row us↔bJ E h cs us)∧cs.length=(rowOf t).es:=by
 obtain⟨_,ho,hwf⟩:=r.yZ hl;rw [dD] at hk;have hlt:k < (dec (e.den E.ρ)).l.length:=by omega
 have hd:(dec (e.den E.ρ)).l[k]?=some (dec (e.den E.ρ)).l[k]:=List.getElem?_eq_getElem hlt;obtain⟨h1,h2⟩:=lI (ρ:=E.ρ) ho (j:=0) hd;refine⟨_,_,_,h1,h2,?_⟩;rw [Nat.zero_add];rcases sV hp hi hc with h3 | ⟨h3,rfl⟩
 ·rw [h3];obtain⟨p,p1,p2,_⟩:=nN h3;have:=ho p p1;rw [p2] at this;exact⟨this,fun h us=>Iff.rfl,this⟩
 ·rw [h3];refine⟨jJ _ _,fun h us=>ET ?_,jJ _ _⟩;rw [Jl E.ρ e i hi hd];simp only [SE.den,aG]
theorem agS {i:TI} {l m:List AV} {v:AV} (h:partOf i l=some v):partOf i (l++m)=some v:=by
 unfold partOf at h ⊢;split at h
 ·rename_i ha;rw [Option.map_eq_some_iff] at h;obtain⟨l',h1,rfl⟩:=h;rw [Md h1];rfl
 ·split at h
  ·simp only [Option.some.injEq] at h;subst h;rfl
  ·simp at h
theorem SI [Glob] {tt:TT} (htt:eP P tt) {H:Hp} (r:bF E H w) {id:Nat} {cs:List AV} {e:TypeId} (hl:H.get id=some (.cells cs e)) {ty:Nat} {ti:TI} (hti:tt ty=some ti) {off:Nat} {l:List AV} (hd:fE off cs=some l) {v:AV} (hv:partOf ti l=some v) :
 ∃x,(loadVar ty ⟨(E.θ id).1,(E.θ id).2+off,none⟩).run P w= .ok x w∧VR E w.heap v x:=by
 have hld:Je tt ty (.ptr id off) H=some v:=by
  unfold Je partOf at *;rw [hti];simp only [qR,hl,hd];split at hv
  ·exact hv
  ·split at hv
   ·simp only [Option.some.injEq] at hv;subst hv;rfl
   ·simp at hv
 have hid:=(r.live id _ hl).1;obtain⟨x,b,o,h1,h2,h3⟩:=Jd htt r (p:=.ptr id off) (u:=.pointer (some ⟨(E.θ id).1,(E.θ id).2+off,none⟩)) (by simp only [VR]; exact⟨trivial,hid⟩) hld;simp only [Value.pointer.injEq,Option.some.injEq,Addr.mk.injEq] at h1;obtain⟨rfl,rfl,_⟩:=h1;exact⟨x,h2,h3⟩
theorem N7 {k:IntKind}: ∀{cs:List AV} {ds:List D},N8 k cs=some ds→ds.length=cs.length∧∀(i:Nat),i < cs.length→∃n,ds[i]?=some (.i n)∧cs[i]?=some (.int k (.lit n))
 | [],ds,h=>by simp only [N8,Option.some.injEq] at h;subst h;exact⟨rfl,fun i hi=>by simp at hi⟩
 | v :: vs,ds,h=>by
   simp only [N8] at h;split at h
   ·split at h
    ·rename_i k' n;split at h
     ·rename_i hk;subst hk;split at h
      ·rename_i ds' hds;simp only [Option.some.injEq] at h;subst h;obtain⟨h1,h2⟩:=N7 hds;refine⟨by simp [h1],fun i hi=>?_⟩
       cases i with
       | zero=>exact⟨n,rfl,rfl⟩
       | succ i=>exact h2 i (by simpa using hi)
      ·simp at h
     ·simp at h
    ·simp at h
   ·simp at h
theorem Jg {α:Type}: ∀{i:Nat} {cs:List α} {a:α},cs[i]?=some a→∃l,fE i cs=some (a :: l)
 | 0,[],a,h=>by simp at h
 | 0,c :: cs,a,h=>by simp only [List.getElem?_cons_zero,Option.some.injEq] at h; subst h; exact⟨cs,rfl⟩
 | i+1,[],a,h=>by simp at h
 | i+1,c :: cs,a,h=>Jg (cs:=cs) (by simpa using h)
theorem XU {ρ:Nat→Int} {s s':St} {cs:List AV} {e:SE} {v:AV} (hp:bI ρ s.pc) (h:(Tq s cs e).leaf ρ=some (v,s')) :
 s'.slots=s.slots∧s'.h=s.h∧bI ρ s'.pc∧∃(i:Nat) (k:IntKind) (n:Int) (x:SE),e.den ρ=(i:Int)∧i < cs.length∧cs[i]?=some (.int k (.lit n))∧v= .int k x∧x.den ρ=n:=by
 unfold Tq at h;split at h
 ·simp [T.leaf] at h
 ·rename_i k hk;split at h
  ·simp [T.leaf] at h
  ·rename_i ds hds;obtain⟨h1,h2⟩:=N7 hds;obtain⟨pc',hp',g1,g2,g3⟩:=sD hp h;simp only [T.leaf,Option.some.injEq,Prod.mk.injEq] at g3;obtain⟨rfl,rfl⟩:=g3;have g2':e.den ρ < (ds.length:Int):=by simpa [SE.den] using g2
   have hi:e.den ρ=((e.den ρ).toNat:Int):=by omega
   have hlt:(e.den ρ).toNat < cs.length:=by omega
   obtain⟨n,d1,d2⟩:=h2 _ hlt;refine⟨rfl,rfl,hp',_,k,n,_,hi,hlt,d2,rfl,?_⟩;simp only [Iy,SE.den,iO.den,aG,D.at,aT,d1,Option.getD_some,D.n]
theorem aaJ [Glob] {tt:TT} (htt:eP P tt) {s s':St} (r:bF E s.h w) (hp:bI E.ρ s.pc) {ty id es:Nat} {i:SE} {off:Nat} {v:AV} {u:Value} (hx:VR E w.heap (.qL id es i off) u) (h:(He tt s ty id es i off).leaf E.ρ=some (v,s')) :
 s'.slots=s.slots∧s'.h=s.h∧bI E.ρ s'.pc∧∃x b o,u= .pointer (some ⟨b,o,none⟩)∧(loadVar ty ⟨b,o,none⟩).run P w= .ok x w∧VR E w.heap v x:=by
 unfold He at h;split at h
 ·rename_i o hl;split at h
  ·rename_i cs ety;split at h
   ·rename_i ti hti;split at h
    ·simp [T.leaf] at h
    ·rename_i hb;simp only [Bool.or_eq_false_iff,Bool.not_eq_false'] at hb;have hes:=Nat.eq_of_beq_eq_true hb.1.2;have hof:=Nat.eq_of_beq_eq_true hb.2;subst hes hof;obtain⟨h1,h2,h3,k,kd,n,x,g1,g2,g3,rfl,g5⟩:=XU hp h;refine⟨h1,h2,h3,?_⟩;simp only [VR] at hx;obtain⟨hid,k',hk,rfl⟩:=hx;have hkk:k'=k:=by omega
     subst hkk;obtain⟨l,hd⟩:=Jg g3;obtain⟨y,q1,q2⟩:=SI (P:=P) htt r hl hti hd (v:=.int kd (.lit n)) (by unfold partOf; rw [hb.1.1]);refine⟨y,_,_,rfl,by rw [Nat.mul_one,Nat.add_zero]; exact q1,?_⟩;simp only [VR,SE.den] at q2 ⊢;rw [q2,g5]
   ·simp [T.leaf] at h
  ·rename_i e t Iq ov;split at h
   ·rename_i ti hti;split at h
    ·rename_i hes;obtain⟨pc0,hp0,h1,h2,h3⟩:=sD hp h;obtain⟨pc',hp',h3⟩:=Dt (s:={ s with pc:=pc0 }) hp0 h3;split at h3
     ·rename_i cs hc;split at h3
      ·rename_i l hdr;obtain⟨e1,rfl⟩:=kX h3;refine⟨rfl,rfl,hp',?_⟩;simp only [VR] at hx;obtain⟨hid,k,hk,rfl⟩:=hx;obtain⟨pre,row,post,c1,c2,c3,c4,c5⟩:=asQ r hl hk (by rw [← hk]; exact h2) hp' hc;obtain⟨rc,ho,hwf⟩:=r.yZ hl
       have hrow:OR E w.heap id (.cells (pre++(cs++post)) Iq):=by have:=(rc.live id _ (by rw [Hp.get_put,if_pos rfl])).2.1;rw [c1] at this;simp only [OR] at this ⊢;obtain⟨arr,lo,hi,us,q1,q2,q3,q4,q5,q6,q7⟩:=this;refine⟨arr,lo,hi,us,q1,?_,q3,by simp only [List.length_append,c3,c5] at q4 ⊢; exact q4,q5,q6,q7⟩;obtain⟨a,b,rfl,a1,a2⟩:=q2.split;obtain⟨a',b',rfl,b1,b2⟩:=a2.split;exact a1.append (((c4 _ _).1 b1).append b2)
       have r2:=r.swap (H2:=s.h.put id (.cells (pre++(cs++post)) Iq)) hl hrow (by rw [Hp.get_put,if_pos rfl]) (fun j hj=>by rw [Hp.get_put,if_neg hj]) rfl rfl
       have aF9:fE (k*es+off) (pre++(cs++post))=some (l++post):=by rw [TF (m:=cs++post) (by rw [← hes,← c2]; exact AO pre _)];exact O5 hdr
       obtain⟨x,g1,g2⟩:=SI htt r2 (by rw [Hp.get_put,if_pos rfl]) hti aF9 (agS e1);exact⟨x,_,_,rfl,g1,g2⟩
      ·simp [T.leaf] at h3
     ·simp [T.leaf] at h3
    ·simp [T.leaf] at h
   ·simp [T.leaf] at h
  ·simp [T.leaf] at h
 ·simp [T.leaf] at h
end
end Go.As
end
section
namespace Go.As
theorem lG.rd {ro:Nat→Prop} {h:Array Obj} {c:CK} {d:D} {u:Value} (r:lG ro h c d u) (wf:wI c d):Rd ro h c d u:=by
 cases c with
 | int k=> simp only [lG,wI] at r wf;rw [wf,r];exact .int k d.n
 | bool=>
   simp only [lG,wI] at r wf;subst r;rcases wf with rfl | rfl
   ·exact .bool false
   ·exact .bool true
 | str=>exact r
 | sl t=>exact r
theorem dP.get {ro:Nat→Prop} {h:Array Obj} {d:D}: ∀{cs:List CK} {j:Nat} {us:List Value},dP ro h cs j d us→∀{k:Nat} {c:CK},cs[k]?=some c→∃u,us[k]?=some u∧lG ro h c (d.hd (j+k)) u
 | [],_,_,_,k,c,hk=>by simp at hk
 | c0 :: cs,j,us,hh,k,c,hk=>by
   simp only [dP] at hh;obtain⟨u,vs,rfl,h1,h2⟩:=hh
   cases k with
   | zero=> simp at hk;subst hk;exact⟨u,rfl,h1⟩
   | succ k=> obtain⟨x,h3,h4⟩:=h2.get (by simpa using hk);exact⟨x,by simpa using h3,by rw [show j+(k+1)=j+1+k by omega]; exact h4⟩
theorem dP.length {ro:Nat→Prop} {h:Array Obj} {d:D}: ∀{cs:List CK} {j:Nat} {us:List Value},dP ro h cs j d us→us.length=cs.length
 | [],_,us,hh=>by simp only [dP] at hh; subst hh; rfl
 | c :: cs,j,us,hh=>by simp only [dP] at hh;obtain⟨u,vs,rfl,_,h2⟩:=hh;simp [h2.length]
theorem dP.shift {ro:Nat→Prop} {h:Array Obj} {a b:D}: ∀{cs:List CK} {j:Nat} {us:List Value},dP ro h cs (j+1) (.p a b) us↔dP ro h cs j b us
 | [],_,us=>by simp only [dP]
 | c :: cs,j,us=>by
   simp only [dP,GV];constructor
   ·rintro⟨u,vs,rfl,h1,h2⟩;exact⟨u,vs,rfl,h1,dP.shift.1 h2⟩
   ·rintro⟨u,vs,rfl,h1,h2⟩;exact⟨u,vs,rfl,h1,dP.shift.2 h2⟩
section
variable {P:Program} {E:En} {w:World}
theorem vH {ρ:Nat→Int} {c:CK} {v:AV} {a:SE} (h:rW c v=some a):wI c (dec (a.den ρ)):=by
 unfold rW at h;split at h
 ·split at h
  ·split at h
   ·simp only [Option.some.injEq] at h;subst h;simp only [wI,oV,aG,D.n]
   ·simp at h
  ·simp at h
 ·split at h
  ·split at h
   ·rename_i b;simp only [Option.some.injEq] at h;subst h;simp only [wI,SE.den,aG];cases b <;> simp
   ·split at h
    ·split at h
     ·split at h
      ·simp only [Option.some.injEq] at h;subst h;simp only [wI,SE.den,iO.den,aG];split <;> simp
      ·simp at h
     ·simp at h
    ·simp at h
   ·simp at h
  ·simp at h
 ·trivial
 ·trivial
theorem qG {h:Array Obj} {c:CK} {v:AV} {u:Value} {a:SE} (hv:VR E h v u) (hc:rW c v=some a):lG E.ro h c (dec (a.den E.ρ)) u:=by
 unfold rW at hc;split at hc
 ·split at hc
  ·split at hc
   ·rename_i hk;subst hk;simp only [Option.some.injEq] at hc;subst hc;simp only [VR] at hv;simp only [lG,oV,aG,D.n];exact hv
   ·simp at hc
  ·simp at hc
 ·split at hc
  ·split at hc
   ·rename_i b;simp only [Option.some.injEq] at hc;subst hc;simp only [VR,SB.den] at hv;subst hv;simp only [lG,SE.den,aG];cases b <;> rfl
   ·split at hc
    ·split at hc
     ·split at hc
      ·rename_i x n hn;subst hn;simp only [Option.some.injEq] at hc;subst hc;simp only [VR,SB.den,SE.den] at hv;subst hv;simp only [lG,SE.den,iO.den,oV,aG,D.n];congr 2;split
       ·rename_i hz; rw [hz]
       ·rename_i hz; simpa using hz
      ·simp at hc
     ·simp at hc
    ·simp at hc
   ·simp at hc
  ·simp at hc
 ·obtain⟨s,rfl,hs⟩:=FZ hv hc;simp only [lG,hs];exact .str s
 ·split at hc
  ·split at hc
   ·rename_i ht;subst ht;simp only [Option.some.injEq] at hc;subst hc;exact hv
   ·simp at hc
  ·simp only [Option.some.injEq] at hc;subst hc;simp only [VR] at hv;subst hv;simp only [lG,SE.den,aG];exact .nil _
  ·split at hc
   ·rename_i ht;subst ht;simp only [Option.some.injEq] at hc;subst hc;simp only [VR] at hv;exact hv.2
   ·simp at hc
  ·split at hc
   ·simp only [Option.some.injEq] at hc;subst hc;simp only [VR] at hv;obtain⟨_,a,cap,rfl,_⟩:=hv;simp only [lG,SE.den,aG];exact .non _ _ _
   ·simp at hc
  ·simp at hc
theorem Hw {ρ:Nat→Int}: ∀{cs:List CK} {vs:List AV} {x:SE},codeCells cs vs=some x→Wn cs (dec (x.den ρ))
 | [],[],x,h=>by
   simp only [codeCells,Option.some.injEq] at h;subst h;refine⟨?_,?_,?_⟩
   ·simp only [SE.den,aG]; rfl
   ·simp only [SE.den,aG]; rfl
   ·intro j c y hj; simp at hj
 | [],_ :: _,x,h=>by simp [codeCells] at h
 | _ :: _,[],x,h=>by simp [codeCells] at h
 | c :: cs,v :: vs,x,h=>by
   simp only [codeCells] at h;split at h
   ·simp at h
   ·rename_i a ha;split at h
    ·simp at h
    ·rename_i b hb;simp only [Option.some.injEq] at h;subst h;obtain⟨h1,h2,h3⟩:=Hw (ρ:=ρ) hb;refine⟨?_,?_,?_⟩
     ·simp only [gX,SE.den,iO.den,aG,D.l,dL];rw [← h1]
     ·simp only [gX,SE.den,iO.den,aG,D.l,List.length_cons,h2]
     ·intro j c' y hj hy;simp only [gX,SE.den,iO.den,aG,D.l] at hy
      cases j with
      | zero=> simp only [List.getElem?_cons_zero,Option.some.injEq] at hj hy;subst hj hy;exact vH ha
      | succ j=>exact h3 j c' y (by simpa using hj) (by simpa using hy)
theorem Hy {h:Array Obj}: ∀{cs:List CK} {vs:List AV} {us:List Value} {x:SE},bJ E h vs us→codeCells cs vs=some x→dP E.ro h cs 0 (dec (x.den E.ρ)) us
 | [],[],us,x,hv,hc=>by simp only [bJ] at hv; subst hv; simp [dP]
 | [],_ :: _,_,x,_,hc=>by simp [codeCells] at hc
 | _ :: _,[],_,x,_,hc=>by simp [codeCells] at hc
 | c :: cs,v :: vs,us,x,hv,hc=>by
   simp only [codeCells] at hc;rw [aY] at hv;obtain⟨u,us',rfl,h1,h2⟩:=hv;split at hc
   ·simp at hc
   ·rename_i a ha;split at hc
    ·simp at hc
    ·rename_i b hb;simp only [Option.some.injEq] at hc;subst hc;simp only [dP,gX,SE.den,iO.den,aG];refine⟨u,us',rfl,by rw [GU]; exact qG h1 ha,?_⟩;rw [dP.shift];exact Hy h2 hb
theorem A8 {ρ:Nat→Int} {r:Row} {cs:List AV} {x:SE} (h:codeRow r cs=some x):xB r (dec (x.den ρ)):=by
 unfold codeRow at h;split at h
 ·split at h
  ·exact vH h
  ·simp at h
 ·exact Hw h
theorem Ba {h:Array Obj} {r:Row} {cs:List AV} {us:List Value} {x:SE} (hv:bJ E h cs us) (hc:codeRow r cs=some x):Eu E.ro h r (dec (x.den E.ρ)) us:=by
 unfold codeRow at hc;split at hc
 ·split at hc
  ·rw [aY] at hv;obtain⟨u,us',rfl,h1,h2⟩:=hv;rw [kM] at h2;subst h2;exact⟨u,rfl,qG h1 hc⟩
  ·simp at hc
 ·exact Hy hv hc
theorem C9 {ρ:Nat→Int} {r:Row}: ∀(m:Nat) {e e1:SE} {news:List AV},tY r e m news=some e1→
 ∃ds:List D,ds.length=m∧(dec (e1.den ρ)).l=(dec (e.den ρ)).l++ds∧(dec (e.den ρ)=dL (dec (e.den ρ)).l→dec (e1.den ρ)=dL (dec (e1.den ρ)).l)∧(∀d∈ds,xB r d)∧
  ∀(E':En) (h:Array Obj) (us:List Value) (j:Nat),E'.ρ=ρ→bJ E' h news us→bJ E' h (aK ρ r [] ds j) us
 | 0,e,e1,[],h=>by simp only [tY,Option.some.injEq] at h;subst h;exact⟨[],rfl,by simp,id,by simp,fun E' h us j _ hv=>by simpa [aK] using hv⟩
 | 0,e,e1,_ :: _,h=>by simp [tY] at h
 | m+1,e,e1,news,h=>by
   simp only [tY] at h;split at h
   ·simp at h
   ·rename_i x hx;obtain⟨ds,h1,h2,h3,h4,h5⟩:=C9 (ρ:=ρ) m h;have hs:dec ((SE.op .snoc e x).den ρ)=dL ((dec (e.den ρ)).l++ [dec (x.den ρ)]):=by simp only [SE.den,iO.den,aG]
    refine⟨dec (x.den ρ) :: ds,by simp [h1],?_,fun _=>h3 (by rw [hs,aT]),?_,?_⟩
    ·rw [h2,hs,aT]; simp
    ·intro d hd;rcases List.mem_cons.1 hd with rfl | hd
     ·exact A8 hx
     ·exact h4 d hd
    ·intro E' h us j hρ hv;rw [← List.take_append_drop r.es news] at hv;obtain⟨a,b,rfl,a1,a2⟩:=hv.split;simp only [aK,dQ];refine bJ.append ?_ (h5 E' h b (j+1) hρ a2);rw [gZ];simp only [SE.den,aG];have:=Ba a1 hx;rw [hρ] at this;exact this
theorem abP {h:Array Obj} {id:Nat} {e:SE} {t:Nat} {ty:TypeId} {ro:Nat→Prop} (hro: ∀b,E.ro b→ro b) (hb:ro (E.θ id).1) (ho:OR E h id (.vec e t ty [])) {k cap:Nat} {a:Addr} (hk:k=(dec (e.den E.ρ)).l.length) (hcap:k≤cap)
 (hc:0 < k→a=⟨(E.θ id).1,(E.θ id).2,none⟩):Rd ro h (.sl t) (dec (e.den E.ρ)) (.slice (some a) k cap):=by
 obtain⟨⟨hov,hwf⟩,hcl⟩:=OR.yZ.1 ho;obtain⟨us,h1,h2,h3⟩:=EJ hcl;obtain⟨w1,w2,w3⟩:=hwf;rcases Nat.eq_zero_or_pos k with h0 | hpos
 ·subst h0;exact absurd (List.eq_nil_of_length_eq_zero hk.symm) w3
 ·have ha:a=⟨(E.θ id).1,(E.θ id).2,none⟩:=hc hpos;subst ha;subst hk
  have hrow: ∀(i:Nat) (x:D),(dec (e.den E.ρ)).l[i]?=some x→∃rs,Eu ro h (rowOf t) x rs∧∀j u,rs[j]?=some u→us[i*(rowOf t).es+j]?=some u:=by
   intro i x hx;obtain⟨c1,c2⟩:=lI (ρ:=E.ρ) hov (j:=0) hx;unfold dM at h1;rw [c1] at h1;obtain⟨p,q,rfl,p1,p2⟩:=h1.split;obtain⟨q1,q2,rfl,r1,r2⟩:=p2.split;have hp:=p1.length;rw [c2] at hp;refine⟨q1,?_,?_⟩
   ·have r1':bJ E h (jD (rowOf t) (.dat x)) q1:=r1;rw [gZ] at r1';simp only [SE.den,aG] at r1'
    have mono: ∀c d u,lG E.ro h c d u→lG ro h c d u:=by
     intro c d u hh
     cases c with
     | int k=>exact hh
     | bool=>exact hh
     | str=>exact Rd.keep hro (fun _ _=>rfl) hh
     | sl t=>exact Rd.keep hro (fun _ _=>rfl) hh
    have aEd: ∀(cs:List CK) (j:Nat) (d:D) (us:List Value),dP E.ro h cs j d us→dP ro h cs j d us:=by
     intro cs
     induction cs with
     | nil=>intro j d us hh; exact hh
     | cons c cs ih=> intro j d us hh;obtain⟨u,vs,rfl,g1,g2⟩:=hh;exact⟨u,vs,rfl,mono _ _ _ g1,ih _ _ _ g2⟩
    cases hr:rowOf t with
    | one c=> rw [hr] at r1';obtain⟨u,rfl,g1⟩:=r1';exact⟨u,rfl,mono _ _ _ g1⟩
    | many cs=> rw [hr] at r1';exact aEd _ _ _ _ r1'
   ·intro j u hj;rw [List.getElem?_append_right (by omega),hp];rw [show i*(rowOf t).es+j - i*(rowOf t).es=j by omega];have:=(List.getElem?_eq_some_iff.1 hj).1;rw [List.getElem?_append_left this];exact hj
  rw [w1];simp only [aT] at hrow ⊢;generalize hL:(dec (e.den E.ρ)).l=L at *
  cases hr:rowOf t with
  | one c=>
    refine .one t c _ _ cap L (fun i=>(us[i]?).getD undef) hr hcap hb ?_ ?_
    ·intro i d hd;obtain⟨rs,g1,g2⟩:=hrow i d hd;rw [hr] at g1;obtain⟨u,rfl,g3⟩:=g1;have:=g2 0 u rfl;rw [hr] at this;simp only [Row.es,Nat.mul_one,Nat.add_zero] at this;rw [this];exact h2 i u this
    ·intro i d hd;obtain⟨rs,g1,g2⟩:=hrow i d hd;rw [hr] at g1;obtain⟨u,rfl,g3⟩:=g1;have:=g2 0 u rfl;rw [hr] at this;simp only [Row.es,Nat.mul_one,Nat.add_zero] at this;rw [this];have hw:=w2 d (List.mem_of_getElem? hd);rw [hr] at hw;exact g3.rd hw
  | many cs=>
    have hwr: ∀d∈L,Wn cs d:=by intro d hd;have:=w2 d hd;rw [hr] at this;exact this
    have hLm:L=(L.map D.l).map dL:=by rw [List.map_map];have:L.map (dL ∘ D.l)=L.map (fun d=>d):=List.map_congr_left fun d hd=>(hwr d hd).1.symm;rw [this,List.map_id']
    have hlen:(L.map D.l).length=L.length:=by simp
    have hcap':(L.map D.l).length≤cap:=by rw [hlen]; exact hcap
    have goal:Rd ro h (.sl t) (dL ((L.map D.l).map dL)) (.slice (some ⟨(E.θ id).1,(E.θ id).2,none⟩) (L.map D.l).length cap):=by
     refine .many t cs _ _ cap (L.map D.l) (fun i j=>(us[i*cs.length+j]?).getD undef) hr hcap' hb ?_ ?_ ?_
     ·intro r hrm;rw [List.mem_map] at hrm;obtain⟨d,hd,rfl⟩:=hrm;exact (hwr d hd).2.1
     ·intro i r j d hi hj;rw [List.getElem?_map,Option.map_eq_some_iff] at hi;obtain⟨x,hx,rfl⟩:=hi;obtain⟨rs,g1,g2⟩:=hrow i x hx;rw [hr] at g1;have hjl:j < cs.length:=by rw [← (hwr x (List.mem_of_getElem? hx)).2.1]; exact (List.getElem?_eq_some_iff.1 hj).1
      obtain⟨u,g3,g4⟩:=dP.get g1 (List.getElem?_eq_getElem hjl);have:=g2 j u g3;rw [hr] at this;simp only [Row.es] at this;rw [this,Nat.add_assoc];exact h2 _ u this
     ·intro i r j d c hi hj hcj;rw [List.getElem?_map,Option.map_eq_some_iff] at hi;obtain⟨x,hx,rfl⟩:=hi;obtain⟨rs,g1,g2⟩:=hrow i x hx;rw [hr] at g1;obtain⟨u,g3,g4⟩:=dP.get g1 hcj;have:=g2 j u g3;rw [hr] at this;simp only [Row.es] at this;rw [this];rw [Nat.zero_add] at g4;have hd:x.hd j=d:=by simp [D.hd,hj]
      rw [hd] at g4;exact g4.rd ((hwr x (List.mem_of_getElem? hx)).2.2 j c d hcj hj)
    rw [← hLm,hlen] at goal;exact goal
theorem ajA {h:Array Obj} {id:Nat} {e:SE} {t:Nat} {ty:TypeId} {ro:Nat→Prop} (hro: ∀b,E.ro b→ro b) (hb:ro (E.θ id).1) (ho:OR E h id (.vec e t ty [])) {k cap:Nat} {a:Addr} (hk:k=(dec (e.den E.ρ)).l.length) (hcap:k≤cap)
 (hc:fP E id 0 k a cap (.rest (rowOf t).es)):Rd ro h (.sl t) (dec (e.den E.ρ)) (.slice (some a) k cap):=by
 refine abP hro hb ho hk hcap fun hpos=>?_;simp only [fP] at hc;rcases hc with hc | hc
 ·simpa using hc.1
 ·omega
structure Sub (H' H:Hp):Prop where
 get: ∀j o,H'.get j=some o→H.get j=some o
 next:H'.next=H.next
 res:H'.res=H.res
theorem Sub.refl (H:Hp):Sub H H:=⟨fun _ _ h=>h,rfl,rfl⟩
theorem Sub.trans {A B C:Hp} (a:Sub B A) (b:Sub C B):Sub C A:=⟨fun j o h=>a.get j o (b.get j o h),b.next.trans a.next,b.res.trans a.res⟩
theorem Sub.drop (H:Hp) (id:Nat):Sub (H.drop id) H:=by
 refine⟨fun j o hj=>?_,rfl,rfl⟩;rw [Hp.yT] at hj;split at hj
 ·simp at hj
 ·exact hj
theorem VU [Glob] {H:Hp} (r:bF E H w) {id:Nat} {o:dW} (hl:H.get id=some o) :
 Keeps E w.heap { E with ro:=fun b=>E.ro b∨b=(E.θ id).1 } w.heap∧Stp E H w { E with ro:=fun b=>E.ro b∨b=(E.θ id).1 } (H.drop id) w∧bF { E with ro:=fun b=>E.ro b∨b=(E.θ id).1 } (H.drop id) w:=by
 have hk:Keeps E w.heap { E with ro:=fun b=>E.ro b∨b=(E.θ id).1 } w.heap:=⟨rfl,fun _ h=>h,fun _ _=>rfl,fun _ _=>rfl,fun _ h=> .inl h,fun _ _=>rfl⟩
 have hg: ∀j o,(H.drop id).get j=some o→H.get j=some o∧j≠id:=by
  intro j o hj;rw [Hp.yT] at hj;split at hj
  ·simp at hj
  ·rename_i hne; exact⟨hj,hne⟩
 refine⟨hk,⟨rfl,fun _ h=>h,fun _ _=>rfl,fun _ _=>rfl,fun _ h=> .inl h,?_,Nat.le_refl _,.inr rfl,fun _ h=> .inl h,rfl,rfl,rfl,Nat.le_refl _,fun _ _ _=>rfl,fun j o hj _=> ⟨j,o,(hg j o hj).1,rfl⟩⟩,
  ⟨r.fresh,r.res,?_,?_,?_,Glob.keep r.glob (fun _ h=> .inl h) (fun _ _=>rfl)⟩⟩
 ·intro b hb;rcases hb with hb | rfl
  ·exact .inl hb
  ·exact .inr (.inl ⟨id,_,hl,rfl⟩)
 ·intro j o hj;obtain⟨h1,h2⟩:=hg j o hj;obtain⟨g1,g2,g3⟩:=r.live j o h1;refine⟨g1,g2.keep hk g1 rfl,?_⟩;rintro (hb | hb)
  ·exact g3 hb
  ·exact h2 (r.inj j id o _ h1 hl hb)
 ·intro i j x y hi hj he;exact r.inj i j x y (hg i x hi).1 (hg j y hj).1 he
 ·intro b hb;rcases hb with hb | rfl
  ·exact r.BO b hb
  ·exact jG r hl
theorem aCc [Glob] {H H':Hp} (r:bF E H w) {v v':AV} (h:frz v H=(v',H')) :
 ∃E',E'.ρ=E.ρ∧Stp E H w E' H' w∧bF E' H' w∧(∀u,VR E w.heap v u→VR E' w.heap v' u)∧Sub H' H:=by
 have same:(v,H)=(v',H')→∃E',E'.ρ=E.ρ∧Stp E H w E' H' w∧bF E' H' w∧(∀u,VR E w.heap v u→VR E' w.heap v' u)∧Sub H' H:=by intro he;simp only [Prod.mk.injEq] at he;obtain⟨rfl,rfl⟩:=he;exact⟨E,rfl,Stp.refl _ _ _,r,fun _ h=>h,Sub.refl _⟩
 unfold frz at h;split at h
 ·rename_i id n t;split at h
  ·rename_i o hl;split at h
   ·rename_i e t' ty ov;split at h
    ·split at h
     ·rename_i ht;split at h
      ·rename_i hn;simp only [Prod.mk.injEq] at h;obtain⟨rfl,rfl⟩:=h;have ht:=Nat.eq_of_beq_eq_true ht;have hn:=bW _ _ hn;subst ht hn;have hlive:=r.live id _ hl;obtain⟨hk,s1,r1⟩:=VU r hl;refine⟨{ E with ro:=fun b=>E.ro b∨b=(E.θ id).1 },rfl,s1,r1,fun u hv=>?_,Sub.drop _ _⟩;simp only [VR] at hv ⊢;obtain⟨hid,k,a,cap,h1,rfl,h2,h3⟩:=hv;rw [dD] at h1;exact ajA (fun _ h=> .inl h) (.inr rfl) hlive.2.1 (by omega) h2 h3
      ·exact same h
     ·exact same h
    ·exact same h
   ·exact same h
  ·exact same h
 ·simp only [Prod.mk.injEq] at h;obtain⟨rfl,rfl⟩:=h;exact⟨E,rfl,Stp.refl _ _ _,r,fun u hu=>by simp only [VR] at hu ⊢; exact hu.2,Sub.refl _⟩
 ·exact same h
end
end Go.As
end
section
namespace Go.As
section
variable {P:Program} {E:En} {w:World}
theorem Rd.part {ro:Nat→Prop} {h:Array Obj} {t:Nat} {d:D} {b o n cap l k:Nat} (r:Rd ro h (.sl t) d (.slice (some ⟨b,o,none⟩) n cap)) (hl:l≤k) (hk:k≤n) (hn:n≤cap) :
 Rd ro h (.sl t) (dN d ((d.l.take k).drop l)) (.slice (some (if cap=l then⟨b,o,none⟩ else⟨b,o+l*(rowOf t).es,none⟩)) (k - l) (cap - l)):=by
 by_cases h0:k - l=0
 ·have:(d.l.take k).drop l= []:=by
   apply List.drop_eq_nil_of_le;rw [List.length_take];omega
  have hd:d≠.i 1:=by intro q;obtain⟨_,q2,_⟩:=Sm r;have:=q2 q;simp at this
  rw [this,h0];simp only [dN];rw [if_neg hd];exact .non _ _ _
 ·rw [if_neg (by omega)]
  have hne:(d.l.take k).drop l≠[]:=by intro q;have:=congrArg List.length q;obtain⟨x,cap',hv,_⟩:=r.slice;simp only [Value.slice.injEq] at hv;rw [List.length_drop,List.length_take] at this;simp at this;omega
  rw [yY hne];generalize hc:CK.sl t=c at r;generalize hv:Value.slice (some ⟨b,o,none⟩) n cap=v at r
  cases r with
  | int k n=>simp at hc
  | bool b=>simp at hc
  | str s=>simp at hc
  | nil t=>simp at hv
  | non t a cap=> simp only [Value.slice.injEq] at hv;omega
  | one t' c b' o' cap' ds f hr hcp hb h1 h2=>
    simp only [CK.sl.injEq] at hc;subst hc;simp only [Value.slice.injEq,Option.some.injEq,Addr.mk.injEq] at hv;obtain⟨⟨rfl,rfl,_⟩,rfl,rfl⟩:=hv;rw [aT];have hlen:((ds.take k).drop l).length=k - l:=by rw [List.length_drop,List.length_take]; omega
    have hget: ∀i d,((ds.take k).drop l)[i]?=some d→ds[l+i]?=some d:=by
     intro i d hd;rw [List.getElem?_drop,List.getElem?_take] at hd;split at hd
     ·exact hd
     ·simp at hd
    rw [← hlen];refine .one t c b (o+l*(rowOf t).es) (cap - l) ((ds.take k).drop l) (fun i=>f (l+i)) hr (by rw [hlen]; omega) hb ?_ ?_
    ·intro i d hd;have:=h1 (l+i) d (hget i d hd);rw [hr,show o+l*(Row.one c).es+i=o+(l+i) by simp only [Row.es]; omega];exact this
    ·intro i d hd;exact h2 (l+i) d (hget i d hd)
  | many t' cs b' o' cap' rows f hr hcp hb hll h1 h2=>
    simp only [CK.sl.injEq] at hc;subst hc;simp only [Value.slice.injEq,Option.some.injEq,Addr.mk.injEq] at hv;obtain⟨⟨rfl,rfl,_⟩,rfl,rfl⟩:=hv;rw [aT];have hlen:((rows.take k).drop l).length=k - l:=by rw [List.length_drop,List.length_take]; omega
    have hget: ∀i d,((rows.take k).drop l)[i]?=some d→rows[l+i]?=some d:=by
     intro i d hd;rw [List.getElem?_drop,List.getElem?_take] at hd;split at hd
     ·exact hd
     ·simp at hd
    rw [← hlen,← List.map_take,← List.map_drop];refine .many t cs b (o+l*(rowOf t).es) (cap - l) ((rows.take k).drop l) (fun i=>f (l+i)) hr (by rw [hlen]; omega) hb (fun r hrm=>hll r (List.mem_of_mem_take (List.mem_of_mem_drop hrm))) ?_ ?_
    ·intro i r j d hi hj;have:=h1 (l+i) r j d (hget i r hi) hj;rw [hr,show o+l*(Row.many cs).es+i*cs.length+j=o+(l+i)*cs.length+j by simp only [Row.es,Nat.add_mul]; omega];exact this
    ·intro i r j d c hi hj hcj;exact h2 (l+i) r j d c (hget i r hi) hj hcj
theorem Rd.aD6 {ro:Nat→Prop} {h:Array Obj} {t:Nat} {d:D} {x:Option Addr} {n cap l k:Nat} (r:Rd ro h (.sl t) d (.slice x n cap)) (hl:l≤k) (hk:k≤n) (hn:n≤cap) :
 Rd ro h (.sl t) (dN d ((d.l.take k).drop l)) (.slice (match x with | some a=>some (if cap=l then a else a.add (l*(rowOf t).es)) | none=>none) (k - l) (cap - l)):=by
 have hx:(∃b o,x=some ⟨b,o,none⟩)∨(d= .i 1∧x=none∧n=0∧cap=0)∨(d= .i 2∧n=0∧∃a,x=some a):=by
  generalize hc:CK.sl t=c at r;generalize hv:Value.slice x n cap=v at r
  cases r with
  | int k n=>simp at hc
  | bool b=>simp at hc
  | str s=>simp at hc
  | nil t=>simp only [Value.slice.injEq] at hv; exact .inr (.inl ⟨rfl,hv.1,hv.2.1,hv.2.2⟩)
  | non t a cap=>simp only [Value.slice.injEq] at hv; exact .inr (.inr ⟨rfl,hv.2.1,a,hv.1⟩)
  | one t' c b' o' cap' ds f hr hcp hb h1 h2=>simp only [Value.slice.injEq] at hv; exact .inl ⟨_,_,hv.1⟩
  | many t' cs b' o' cap' rows f hr hcp hb hll h1 h2=>simp only [Value.slice.injEq] at hv; exact .inl ⟨_,_,hv.1⟩
 rcases hx with ⟨b,o,rfl⟩ | ⟨rfl,rfl,rfl,rfl⟩ | ⟨rfl,rfl,a,rfl⟩
 ·have:=r.part hl hk hn;simp only [fK];exact this
 ·obtain rfl:k=0:=by omega
  obtain rfl:l=0:=by omega
  exact .nil _
 ·obtain rfl:k=0:=by omega
  obtain rfl:l=0:=by omega
  exact .non _ _ _
theorem FB (l:List D):dL l≠.i 1:=by cases l <;> simp [dL]
theorem Rd.empty0 {ro:Nat→Prop} {h:Array Obj} {t:Nat} {d:D} {x:Option Addr} {n cap:Nat} (r:Rd ro h (.sl t) d (.slice x n cap)):Rd ro h (.sl t) (dN d []) (.slice x 0 0):=by
 generalize hc:CK.sl t=c at r;generalize hv:Value.slice x n cap=v at r
 cases r with
 | int k n=>simp at hc
 | bool b=>simp at hc
 | str s=>simp at hc
 | nil t=> simp only [Value.slice.injEq] at hv;obtain⟨rfl,_,_⟩:=hv;exact .nil _
 | non t a cap=> simp only [Value.slice.injEq] at hv;obtain⟨rfl,_,_⟩:=hv;exact .non _ _ _
 | one t' c b' o' cap' ds f hr hcp hb h1 h2=> simp only [Value.slice.injEq] at hv;obtain⟨rfl,_,_⟩:=hv;rw [vG (FB _)];exact .non _ _ _
 | many t' cs b' o' cap' rows f hr hcp hb hll h1 h2=> simp only [Value.slice.injEq] at hv;obtain⟨rfl,_,_⟩:=hv;rw [vG (FB _)];exact .non _ _ _
theorem aaO [Glob] {tt:TT} (htt:eP P tt) {s s':St} (hp:bI E.ρ s.pc) {ty t:Nat} {e:SE} {lo hi mx:Option AV} {lo' hi' mx':Option Value} {v:AV} {u:Value} (hx:VR E w.heap (.dat e t) u)
 (hlo:iZ E w.heap lo lo') (hhi:iZ E w.heap hi hi') (hmx:iZ E w.heap mx mx') (h:(VF tt s ty t e lo hi mx).leaf E.ρ=some (v,s')) :
 s'.slots=s.slots∧s'.h=s.h∧bI E.ρ s'.pc∧∃r,(Instr.sliceAt ty u lo' hi' mx').run P w= .ok r w∧VR E w.heap v r:=by
 unfold VF at h;split at h
 ·rename_i m;split at h
  ·rename_i hm;split at h
   ·simp [T.leaf] at h
   ·rename_i z hz;split at h
    ·split at h
     ·rename_i hv;split at h
      ·rename_i hh;have:=aH h;simp only [Prod.mk.injEq] at this;obtain⟨rfl,rfl⟩:=this;refine⟨rfl,rfl,hp,?_⟩;obtain⟨el,ie,hu,hie,rfl⟩:=rV htt hz;have hsz:=dX (htt el ie hie);simp only [VR] at hx;obtain⟨x,cap,rfl,hcap⟩:=hx.slice
       have zb: ∀(a:AV),KI a=true→∀d y,bnd (some a) d y=some 0:=by
        intro a ha d y;unfold KI at ha;unfold bnd;split at ha
        ·rename_i n hn;have:=DU ha;subst this;simp only [hn];rw [if_pos (Nat.zero_le y)]
        ·simp at ha
       obtain⟨e1,e2⟩:=iG (P:=P) (w:=w) (isSlice:=true) (len:=(dec (e.den E.ρ)).l.length) (cap:=cap) (m0:=cap) (d:=0) (m:=0) (h0:=0) (h:=0) (l:=0) hlo hhi hmx (fun _=>rfl) (.inr ⟨m,rfl,zb m hm _ _,Nat.le_refl _⟩) (zb hv hh _ _) ⟨fun q=>by simp at q,fun _=>rfl⟩ (by simp [bnd]);refine⟨.slice x 0 0,?_,?_⟩
       rotate_left
       ·simp only [VR];refine⟨⟨x,rfl⟩,?_⟩;simp only [SE.den,iO.den,aG];exact hx.empty0
       cases x with
       | none=>simp [Instr.sliceAt,run_underlying hu,Instr.slice,e1,hsz]
       | some a=>simp [Instr.sliceAt,run_underlying hu,Instr.slice,e1,hsz]
      ·simp [T.leaf] at h
     ·simp [T.leaf] at h
    ·simp [T.leaf] at h
  ·simp [T.leaf] at h
 ·simp only [iZ] at hmx;subst hmx;split at h
  ·simp [T.leaf] at h
  ·rename_i z hz;split at h
   ·rename_i hes;obtain⟨el,ie,hu,hie,rfl⟩:=rV htt hz;have hsz:=dX (htt el ie hie);simp only [VR] at hx;obtain⟨x,cap,rfl,hcap⟩:=hx.slice
    have fin: ∀(l k:Nat) (e':SE) (lo2 hi2:Option AV),iZ E w.heap lo2 lo'→iZ E w.heap hi2 hi'→bnd hi2 (dec (e.den E.ρ)).l.length (dec (e.den E.ρ)).l.length=some k→bnd lo2 0 k=some l→dec (e'.den E.ρ)=dN (dec (e.den E.ρ)) (((dec (e.den E.ρ)).l.take k).drop l)→
     ∃r,(Instr.sliceAt ty (.slice x (dec (e.den E.ρ)).l.length cap) lo' hi' none).run P w= .ok r w∧VR E w.heap (.dat e' t) r:=by
     intro l k e' lo2 hi2 h1 h2 h3 h4 h5;obtain⟨e1,e2⟩:=iG (P:=P) (w:=w) (isSlice:=true) (len:=(dec (e.den E.ρ)).l.length) (cap:=cap) (m0:=cap) (d:=0) (m:=cap) h1 h2 (mx:=none) (mx':=none) (by simp [iZ]) (by simp) (.inl ⟨rfl,rfl,Nat.le_refl _⟩) h3 ⟨fun _=>hcap,by simp⟩ h4;have hk:=oK h3;have hrd:=hx.aD6 e2 hk hcap;refine⟨_,?_,by simp only [VR,h5]; exact hrd⟩
     cases x with
     | none=>simp [Instr.sliceAt,run_underlying hu,Instr.slice,e1,hsz]
     | some a=>simp [Instr.sliceAt,run_underlying hu,Instr.slice,e1,hsz,hes] <;> split <;> rfl
    have lit: ∀(k:IntKind) (n:Nat) (q:SE) (o:Option Value),q.den E.ρ=(n:Int)→iZ E w.heap (some (.int k q)) o→iZ E w.heap (some (.int k (.lit (Int.ofNat n)))) o:=by intro k n q o hq ho;obtain⟨y,rfl,hy⟩:=ho;refine⟨y,rfl,?_⟩;simp only [VR,SE.den] at hy ⊢;rw [hy,hq];rfl
    have bl: ∀(k:IntKind) (n d y:Nat),n≤y→bnd (some (.int k (.lit (Int.ofNat n)))) d y=some n:=by intro k n d y hn;simp [bnd,nC,hn]
    split at h
    ·
     simp only [iZ] at hhi;subst hhi;split at h
     ·rename_i kl ql;obtain⟨pc1,hp1,h1⟩:=cO hp h;split at h1
      ·simp [T.leaf] at h1
      ·rename_i t1;obtain⟨pc2,hp2,h2⟩:=cO (s:={ s with pc:=pc1 }) hp1 h1;split at h2
       ·simp [T.leaf] at h2
       ·rename_i t2;have:=aH h2;simp only [Prod.mk.injEq] at this;obtain⟨rfl,rfl⟩:=this;rw [dV,decide_eq_false_iff_not] at t1 t2;rw [dD] at t2;simp only [SE.den,Int.not_lt] at t1 t2;obtain⟨l,hl⟩ : ∃l:Nat,ql.den E.ρ=(l:Int):=⟨(ql.den E.ρ).toNat,by omega⟩;refine⟨rfl,rfl,hp2,fin l (dec (e.den E.ρ)).l.length _ _ none (lit kl l ql lo' hl hlo) (by simp [iZ]) (by simp [bnd]) (bl _ _ _ _ (by omega)) ?_⟩;simp only [SE.den,iO.den,aG,hl,Int.toNat_natCast,List.take_length]
     ·simp [T.leaf] at h
    ·rename_i kh qh;obtain⟨pc1,hp1,h1⟩:=cO hp h;split at h1
     ·simp [T.leaf] at h1
     ·rename_i t1;rw [dV,decide_eq_false_iff_not,dD] at t1;split at h1
      ·simp only [iZ] at hlo;subst hlo;obtain⟨pc2,hp2,h2⟩:=cO (s:={ s with pc:=pc1 }) hp1 h1;split at h2
       ·simp [T.leaf] at h2
       ·rename_i t2;have:=aH h2;simp only [Prod.mk.injEq] at this;obtain⟨rfl,rfl⟩:=this;rw [dV,decide_eq_false_iff_not] at t2;simp only [SE.den,Int.not_lt] at t2;obtain⟨k,hk⟩ : ∃k:Nat,qh.den E.ρ=(k:Int):=⟨(qh.den E.ρ).toNat,by omega⟩;refine⟨rfl,rfl,hp2,fin 0 k _ none _ (by simp [iZ]) (lit kh k qh hi' hk hhi) (bl _ _ _ _ (by omega)) (by simp [bnd]) ?_⟩;simp only [SE.den,iO.den,aG,hk,Int.toNat_natCast,List.drop_zero]
      ·rename_i kl ql;obtain⟨pc2,hp2,h2⟩:=cO (s:={ s with pc:=pc1 }) hp1 h1;split at h2
       ·simp [T.leaf] at h2
       ·rename_i t2;obtain⟨pc3,hp3,h3⟩:=cO (s:={ s with pc:=pc2 }) hp2 h2;split at h3
        ·simp [T.leaf] at h3
        ·rename_i t3;have:=aH h3;simp only [Prod.mk.injEq] at this;obtain⟨rfl,rfl⟩:=this;rw [dV,decide_eq_false_iff_not] at t2 t3;simp only [SE.den,Int.not_lt] at t2 t3;obtain⟨l,hl⟩ : ∃l:Nat,ql.den E.ρ=(l:Int):=⟨(ql.den E.ρ).toNat,by omega⟩;obtain⟨k,hk⟩ : ∃k:Nat,qh.den E.ρ=(k:Int):=⟨(qh.den E.ρ).toNat,by omega⟩;refine⟨rfl,rfl,hp3,fin l k _ _ _ (lit kl l ql lo' hl hlo) (lit kh k qh hi' hk hhi) (bl _ _ _ _ (by omega)) (bl _ _ _ _ (by omega)) ?_⟩;simp only [SE.den,iO.den,aG,hl,hk,Int.toNat_natCast,gJ];exact Fz fun q=>by rw [q]; simp [D.l]
      ·simp [T.leaf] at h1
    ·simp [T.leaf] at h
   ·simp [T.leaf] at h
end
end Go.As
end
section
namespace Go.As
theorem Oc {e:SE} (h:isZ e=true):e= .lit 0:=by
 unfold isZ at h;split at h
 ·rw [DU h]
 ·simp at h
theorem vJ (ρ:Nat→Int) (a b:SE):(zF a b).den ρ=a.den ρ+b.den ρ:=by
 unfold zF;split
 ·rename_i h;rw [Oc h];simp only [SE.den,Int.zero_add]
 ·rfl
theorem afX (ρ:Nat→Int) (a b:SE):(MP a b).den ρ=a.den ρ - b.den ρ:=by
 unfold MP;split
 ·rename_i h;rw [Oc h];simp only [SE.den,Int.sub_zero]
 ·rfl
theorem NI {ρ:Nat→Int} {e lo n:SE} {l k:Nat} (hl:lo.den ρ=(l:Int)) (hn:n.den ρ=(k:Int)) :
 dec ((U1 e lo n).den ρ)=dN (dec (e.den ρ)) (((dec (e.den ρ)).l.take (l+k)).drop l):=by
 unfold U1;split
 ·rename_i h;have h:=Oc h;subst h;simp only [SE.den] at hl;have:l=0:=by omega
  subst this;simp only [SE.den,iO.den,aG,hn,Int.toNat_natCast,Nat.zero_add,List.drop_zero]
 ·have h2:((l:Int)+(k:Int)).toNat=l+k:=by omega
  simp only [SE.den,iO.den,aG,hl,hn,h2,Int.toNat_natCast,gJ];exact Fz fun h=>by rw [h]; simp [D.l]
theorem IL {α:Type} {ρ:Nat→Int} {e lo n:SE} {s:St} {k:St→T α} {x:α} (hp:bI ρ s.pc) (h:(IQ e lo n s k).leaf ρ=some x) :
 ∃pc',bI ρ pc'∧0≤lo.den ρ∧0≤n.den ρ∧lo.den ρ+n.den ρ≤((dec (e.den ρ)).l.length:Int)∧(k { s with pc:=pc' }).leaf ρ=some x:=by
 unfold IQ at h;obtain⟨pc1,hp1,h1⟩:=cO hp h;split at h1
 ·simp [T.leaf] at h1
 ·rename_i hb1;obtain⟨pc2,hp2,h2⟩:=cO (s:={ s with pc:=pc1 }) hp1 h1;split at h2
  ·simp [T.leaf] at h2
  ·rename_i hb2;obtain⟨pc3,hp3,h3⟩:=cO (s:={ s with pc:=pc2 }) hp2 h2;split at h3
   ·simp [T.leaf] at h3
   ·rename_i hb3;rw [dV,decide_eq_false_iff_not] at hb1 hb2 hb3;rw [dD,vJ] at hb3;simp only [SE.den] at hb1 hb2;exact⟨pc3,hp3,by omega,by omega,by omega,h3⟩
theorem zK {h:Hp} {id t:Nat} {e:SE} {ty:TypeId} (hv:QM h id t=some (e,ty)):h.get id=some (.vec e t ty []):=by
 unfold QM at hv;split at hv
 ·rename_i o ho;split at hv
  ·split at hv
   ·split at hv
    ·rename_i ht;have ht:=Nat.eq_of_beq_eq_true ht;simp only [Option.some.injEq,Prod.mk.injEq] at hv;obtain⟨rfl,rfl⟩:=hv;rw [ho,ht]
    ·simp at hv
   ·simp at hv
  ·simp at hv
 ·simp at hv
theorem Rd.aDZ {ro:Nat→Prop} {h:Array Obj} {t:Nat} {d:D} {a:Addr} {n cap cap':Nat} (r:Rd ro h (.sl t) d (.slice (some a) n cap)) (hc:n≤cap'):Rd ro h (.sl t) d (.slice (some a) n cap'):=by
 generalize hk:CK.sl t=c at r;generalize hv:Value.slice (some a) n cap=v at r
 cases r with
 | int k n=>simp at hk
 | bool b=>simp at hk
 | str s=>simp at hk
 | nil t=>simp at hv
 | non t a cap=> simp only [CK.sl.injEq] at hk;simp only [Value.slice.injEq,Option.some.injEq] at hv;obtain⟨rfl,rfl,rfl⟩:=hv;subst hk;exact .non _ _ _
 | one t' c b' o' cap' ds f hr hcp hb h1 h2=> simp only [CK.sl.injEq] at hk;simp only [Value.slice.injEq,Option.some.injEq] at hv;obtain⟨rfl,rfl,rfl⟩:=hv;subst hk;exact .one _ _ _ _ _ _ _ hr hc hb h1 h2
 | many t' cs b' o' cap' rows f hr hcp hb hll h1 h2=> simp only [CK.sl.injEq] at hk;simp only [Value.slice.injEq,Option.some.injEq] at hv;obtain⟨rfl,rfl,rfl⟩:=hv;subst hk;exact .many _ _ _ _ _ _ _ hr hc hb hll h1 h2
section
variable {P:Program} {E:En} {w:World}
theorem ajB {h:Array Obj} {id:Nat} {e:SE} {t:Nat} {ty:TypeId} {ro:Nat→Prop} (hro: ∀b,E.ro b→ro b) (hb:ro (E.θ id).1) (ho:OR E h id (.vec e t ty [])) {l k cap:Nat} {a:Addr} (hk:l+k≤(dec (e.den E.ρ)).l.length) (hcap:k≤cap)
 (hc:fP E id (l*(rowOf t).es) k a cap (.rest (rowOf t).es)):Rd ro h (.sl t) (dN (dec (e.den E.ρ)) (((dec (e.den E.ρ)).l.take (l+k)).drop l)) (.slice (some a) k cap):=by
 have hw:=(OR.yZ.1 ho).1.2
 have hne:dec (e.den E.ρ)≠.i 1:=by intro q;have:=hw.2.2;rw [q] at this;exact this rfl
 rcases Nat.eq_zero_or_pos k with h0 | hpos
 ·subst h0
  have:((dec (e.den E.ρ)).l.take (l+0)).drop l= []:=by apply List.drop_eq_nil_of_le;rw [List.length_take];omega
  rw [this,vG hne];exact .non _ _ _
 ·simp only [fP] at hc
  obtain⟨rfl,_⟩ : a=⟨(E.θ id).1,(E.θ id).2+l*(rowOf t).es,none⟩∧l*(rowOf t).es+cap*(rowOf t).es=E.κ id:=by
   rcases hc with hc | hc
   ·exact hc
   ·omega
  have r0:=abP hro hb ho (k:=(dec (e.den E.ρ)).l.length) (cap:=(dec (e.den E.ρ)).l.length+l+1) (a:=⟨(E.θ id).1,(E.θ id).2,none⟩) rfl (by omega) (fun _=>rfl);have r1:=r0.part (l:=l) (k:=l+k) (by omega) hk (by omega);rw [if_neg (by omega),show l+k - l=k by omega] at r1;exact r1.aDZ hcap
structure YL [Glob] (E:En) (w:World) (H:Hp) (E':En) (H':Hp):Prop where
 ρ:E'.ρ=E.ρ
 eG:Stp E H w E' H' w
 rel:bF E' H' w
 sub:Sub H' H
theorem YL.refl [Glob] {H:Hp} (r:bF E H w):YL E w H E H:=⟨rfl,Stp.refl _ _ _,r,Sub.refl _⟩
theorem YL.trans [Glob] {E1 E2:En} {H H1 H2:Hp} (a:YL E w H E1 H1) (b:YL E1 w H1 E2 H2):YL E w H E2 H2:=
 ⟨b.ρ.trans a.ρ,a.eG.trans b.eG,b.rel,a.sub.trans b.sub⟩
theorem aeO [Glob] {α:Type} {ρ:Nat→Int} {v:AV} {s:St} {k:AV→St→T α} {x:α} (hρ:E.ρ=ρ) (r:bF E s.h w) (hp:bI ρ s.pc) (h:(ahR v s k).leaf ρ=some x) :
 ∃v' h' pc' E',bI ρ pc'∧YL E w s.h E' h'∧(∀u,VR E w.heap v u→VR E' w.heap v' u)∧(k v' { s with h:=h',pc:=pc' }).leaf ρ=some x:=by
 unfold ahR at h;split at h
 ·rename_i id lo n t;split at h
  ·rename_i e ty hv;have hl:=zK hv;obtain⟨pc',hp',h1,h2,h3,h4⟩:=IL hp h;obtain⟨hk,s1,r1⟩:=VU r hl;refine⟨_,_,pc',{ E with ro:=fun b=>E.ro b∨b=(E.θ id).1 },hp',⟨rfl,s1,r1,Sub.drop _ _⟩,fun u hu=>?_,h4⟩;simp only [VR] at hu ⊢;obtain⟨hid,l,m,a,cap,q1,q2,rfl,q4,q5⟩:=hu;rw [NI q1 q2];rw [hρ] at q1 q2;have hh:=ajB (E:=E) (ro:=fun b=>E.ro b∨b=(E.θ id).1) (fun _ h=> .inl h) (.inr rfl) (r.live id _ hl).2.1 (l:=l) (k:=m) (by rw [hρ]; omega) q4 q5;exact hh
  ·exact⟨_,_,s.pc,E,hp,YL.refl r,fun _ h=>h,h⟩
 ·cases hf:frz v s.h with
  | mk v' h'=> rw [hf] at h;obtain⟨E',q1,q2,q3,q4,q5⟩:=aCc r hf;exact⟨v',h',s.pc,E',hp,⟨q1,q2,q3,q5⟩,q4,h⟩
theorem XM [Glob] {α:Type} {ρ:Nat→Int}: ∀{vs:List AV} {s:St} {E:En} {k:List AV→St→T α} {x:α},E.ρ=ρ→bF E s.h w→bI ρ s.pc→(S9 vs s k).leaf ρ=some x→
 ∃vs' h' pc' E',bI ρ pc'∧YL E w s.h E' h'∧(∀us,bJ E w.heap vs us→bJ E' w.heap vs' us)∧(k vs' { s with h:=h',pc:=pc' }).leaf ρ=some x
 | [],s,E,k,x,hρ,r,hp,h=> ⟨[],s.h,s.pc,E,hp,YL.refl r,fun _ h=>h,h⟩
 | v :: vs,s,E,k,x,hρ,r,hp,h=>by simp only [S9] at h;obtain⟨v1,h1,pc1,E1,hp1,f1,q1,g1⟩:=aeO hρ r hp h;obtain⟨vs1,h2,pc2,E2,hp2,f2,q2,g2⟩:=XM (s:={ s with h:=h1,pc:=pc1 }) (f1.ρ.trans hρ) f1.rel hp1 g1;refine⟨v1 :: vs1,h2,pc2,E2,hp2,f1.trans f2,fun us hu=>?_,g2⟩;rw [aY] at hu ⊢;obtain⟨u,us',rfl,a,b⟩:=hu;exact⟨u,us',rfl,VR.keep (f2.eG.keeps f1.rel) _ _ (q1 u a),q2 us' (bJ.keep (f1.eG.keeps r) _ _ b)⟩
theorem Gm {ρ:Nat→Int} {i:Nat} {j:SE} {cs:List AV}: ∀{pre:List (SE×List AV)},dQ ρ i (pre++ [(j,cs)])=match dQ ρ i pre with | some c=>some c | none=>if j.den ρ=(i:Int) then some cs else none
 | []=>rfl
 | (a,b) :: pre=>by
   simp only [List.cons_append,dQ];split
   ·rfl
   ·exact Gm
theorem auZ (ρ:Nat→Int) (e j x:SE):dec ((SE.op .set e (gX (Iz j) x)).den ρ)=dL (eF (dec (e.den ρ)).l (j.den ρ) (dec (x.den ρ))):=by simp only [gX,SE.den,iO.den,aG,oV,D.n]
theorem Xb (ds:List D) (z:Int) (x:D) (n:Nat):(eF ds z x)[n]?=if z=(n:Int)∧n < ds.length then some x else ds[n]?:=by
 unfold eF;split
 ·rw [if_neg (by omega)]
 ·rw [List.getElem?_set];by_cases hz:z=(n:Int)
  ·subst hz;simp only [Int.toNat_natCast,if_true,true_and];split
   ·rfl
   ·rename_i hn;rw [List.getElem?_eq_none (by omega)]
  ·rw [if_neg (by omega),if_neg (fun q=>hz q.1)]
theorem EH {ρ:Nat→Int} {E1 E2:En} {h:Array Obj} {r:Row} {pre:List (SE×List AV)} {j:SE} {cs:List AV} {X:D} (mono: ∀a us,bJ E1 h a us→bJ E2 h a us) (hX: ∀us,bJ E1 h cs us→Eu E2.ro h r X us) :
 ∀{L L':List D} {i:Nat} {us:List Value},L'.length=L.length→(∀n:Nat,L'[n]?=if j.den ρ=((i+n:Nat):Int)∧n < L.length then some X else L[n]?)→
  bJ E1 h (aK ρ r (pre++ [(j,cs)]) L i) us→bJ E2 h (aK ρ r pre L' i) us
 | [],[],i,us,_,_,hv=>by simp only [aK,bJ] at *; exact hv
 | [],_ :: _,_,_,hl,_,_=>by simp at hl
 | _ :: _,[],_,_,hl,_,_=>by simp at hl
 | d :: L,d' :: L',i,us,hl,hg,hv=>by
   simp only [aK] at *;obtain⟨a,b,rfl,a1,a2⟩:=hv.split;have h0:=hg 0;simp only [List.getElem?_cons_zero,Nat.add_zero,List.length_cons] at h0;refine bJ.append ?_ (EH mono hX (by simpa using hl) (fun n=>?_) a2)
   ·rw [Gm] at a1
    cases ho:dQ ρ i pre with
    | some c=> rw [ho] at a1;exact mono _ _ a1
    | none=>
      rw [ho] at a1;simp only at a1 ⊢;by_cases hj:j.den ρ=(i:Int)
      ·rw [if_pos hj] at a1;rw [if_pos ⟨hj,by omega⟩] at h0;simp only [Option.some.injEq] at h0;subst h0;rw [gZ];simp only [SE.den,aG];exact hX _ a1
      ·rw [if_neg hj] at a1;rw [if_neg (fun q=>hj q.1)] at h0;simp only [Option.some.injEq] at h0;subst h0;exact mono _ _ a1
   ·have:=hg (n+1);simp only [List.getElem?_cons_succ,List.length_cons] at this;rw [this,show i+(n+1)=i+1+n by omega];by_cases hc:j.den ρ=((i+1+n:Nat):Int)∧n < L.length
    ·rw [if_pos hc,if_pos ⟨hc.1,by omega⟩]
    ·rw [if_neg hc,if_neg (fun q=>hc ⟨q.1,by omega⟩)]
theorem avA {r:Row} {ds:List D} {z:Int} {x:D} (h1: ∀d∈ds,xB r d) (h2:xB r x): ∀d∈eF ds z x,xB r d:=by
 intro d hd;obtain⟨n,hn⟩:=List.mem_iff_getElem?.1 hd;rw [Xb] at hn;split at hn
 ·simp only [Option.some.injEq] at hn;subst hn;exact h2
 ·exact h1 d (List.mem_of_getElem? hn)
theorem avC {ds:List D} {z:Int} {x:D} (h:ds≠[]):eF ds z x≠[]:=by intro q;have:=congrArg List.length q;rw [fJ] at this;exact h (List.eq_nil_of_length_eq_zero this)
theorem Xm [Glob] {α:Type} {ρ:Nat→Int} {t:Nat}: ∀{ov:List (SE×List AV)} {e:SE} {s:St} {E:En} {k:SE→St→T α} {x:α} (pre:List (SE×List AV)),E.ρ=ρ→bF E s.h w→bI ρ s.pc→J9 (rowOf t) (dec (e.den ρ))→
 (RQ t ov e s k).leaf ρ=some x→
 ∃e' h' pc' E',bI ρ pc'∧YL E w s.h E' h'∧J9 (rowOf t) (dec (e'.den ρ))∧(dec (e'.den ρ)).l.length=(dec (e.den ρ)).l.length∧
  (∀us,bJ E w.heap (aK ρ (rowOf t) (pre++ov) (dec (e.den ρ)).l 0) us→bJ E' w.heap (aK ρ (rowOf t) pre (dec (e'.den ρ)).l 0) us)∧(k e' { s with h:=h',pc:=pc' }).leaf ρ=some x
 | [],e,s,E,k,x,pre,hρ,r,hp,hw,h=> ⟨e,s.h,s.pc,E,hp,YL.refl r,hw,rfl,fun us hu=>by rw [List.append_nil] at hu; exact hu,h⟩
 | (j,cs) :: ov,e,s,E,k,x,pre,hρ,r,hp,hw,h=>by
   simp only [RQ] at h;obtain⟨e1,h1,pc1,E1,hp1,f1,w1,l1,c1,g1⟩:=Xm (pre++ [(j,cs)]) hρ r hp hw h;obtain⟨cs2,h2,pc2,E2,hp2,f2,c2,g2⟩:=XM (s:={ s with h:=h1,pc:=pc1 }) (f1.ρ.trans hρ) f1.rel hp1 g1;split at g2
   ·rename_i y hy;have hρ2:E2.ρ=ρ:=f2.ρ.trans (f1.ρ.trans hρ);have hsd:=auZ ρ e1 j y;refine⟨_,h2,pc2,E2,hp2,f1.trans f2,?_,?_,?_,g2⟩
    ·rw [hsd];exact⟨by rw [aT],by rw [aT]; exact avA w1.2.1 (A8 hy),by rw [aT]; exact avC w1.2.2⟩
    ·rw [hsd,aT,fJ,l1]
    ·intro us hu;rw [hsd,aT];have hu1:=c1 us (by rw [List.append_assoc]; exact hu);refine EH (j:=j) (cs:=cs) (X:=dec (y.den ρ)) (fun a us ha=>bJ.keep (f2.eG.keeps f1.rel) _ _ ha) (fun us hus=>?_) (fJ _ _ _) (fun n=>?_) hu1
     ·have:=Ba (c2 us hus) hy;rw [hρ2] at this;exact this
     ·rw [Xb,Nat.zero_add]
   ·simp [T.leaf] at g2
theorem agU {v:AV} {h:Hp} {id t:Nat} {e:SE} {ov:List (SE×List AV)} (hv:aBH v h=some (id,e,t,ov)): ∃ty,v= .vM id (eX e) t∧h.get id=some (.vec e t ty ov):=by
 unfold aBH at hv;split at hv
 ·split at hv
  ·rename_i o ho;split at hv
   ·split at hv
    ·simp at hv
    ·split at hv
     ·rename_i ht;split at hv
      ·rename_i hn;have ht:=Nat.eq_of_beq_eq_true ht;have hn:=bW _ _ hn;simp only [Option.some.injEq,Prod.mk.injEq] at hv;obtain⟨rfl,rfl,rfl,rfl⟩:=hv;subst ht hn;exact⟨_,rfl,ho⟩
      ·simp at hv
     ·simp at hv
   ·simp at hv
  ·simp at hv
 ·simp at hv
theorem aeM [Glob] {α:Type} {ρ:Nat→Int} {v:AV} {s:St} {k:AV→St→T α} {x:α} (hρ:E.ρ=ρ) (r:bF E s.h w) (hp:bI ρ s.pc) (h:(ahQ v s k).leaf ρ=some x) :
 ∃v' h' pc' E',bI ρ pc'∧YL E w s.h E' h'∧(∀u,VR E w.heap v u→VR E' w.heap v' u)∧(k v' { s with h:=h',pc:=pc' }).leaf ρ=some x:=by
 unfold ahQ at h;split at h
 ·rename_i id e t ov hv;obtain⟨ty,rfl,hl⟩:=agU hv;obtain⟨hid,ho,aGF⟩:=r.live id _ hl;have ho':=ho;simp only [OR] at ho';rw [hρ] at ho';obtain⟨⟨hov,hwf⟩,arr,lo,hi,us,q1,q2,q3,q4,q5,q6,q7⟩:=ho';obtain⟨e',h',pc',E',hp',f,w',l',c',g⟩:=Xm [] hρ r hp hwf h;split at g
  ·rename_i o hg;have hg':=f.sub.get _ _ hg;rw [hl] at hg';simp only [Option.some.injEq] at hg';subst hg';obtain⟨hk,s1,r1⟩:=VU f.rel hg;have hρ':E'.ρ=ρ:=f.ρ.trans hρ;refine⟨_,_,pc',{ E' with ro:=fun b=>E'.ro b∨b=(E'.θ id).1 },hp',⟨f.ρ,f.eG.trans s1,r1,f.sub.trans (Sub.drop _ _)⟩,fun u hu=>?_,g⟩;simp only [VR] at hu ⊢;obtain⟨_,m,a,cap,p1,rfl,p3,p4⟩:=hu;rw [dD,hρ] at p1;have hθ:=f.eG.θ id hid;have hκ:=f.eG.κ id hid
   have hO:OR E' w.heap id (.vec e' t ty []):=by simp only [OR];rw [hρ',hθ,hκ];have hv':=c' us (by rw [List.nil_append]; exact q2);refine⟨⟨fun p hp=>by simp at hp,w'⟩,arr,lo,hi,us,q1,hv',q3,?_,q5,q6,q7⟩;have e1:=hv'.length;have e2:=q2.length;omega
   have hh:=ajA (E:=E') (ro:=fun b=>E'.ro b∨b=(E'.θ id).1) (fun _ h=> .inl h) (.inr rfl) hO (k:=m) (cap:=cap) (a:=a) (by rw [hρ',l']; omega) p3 (by
    simp only [fP] at p4 ⊢;rw [hθ,hκ]
    exact p4)
   exact hh
  ·simp [T.leaf] at g
 ·exact aeO hρ r hp h
theorem yU [Glob] {α:Type} {ρ:Nat→Int}: ∀{vs:List AV} {s:St} {E:En} {k:List AV→St→T α} {x:α},E.ρ=ρ→bF E s.h w→bI ρ s.pc→(GY vs s k).leaf ρ=some x→
 ∃vs' h' pc' E',bI ρ pc'∧YL E w s.h E' h'∧(∀us,bJ E w.heap vs us→bJ E' w.heap vs' us)∧(k vs' { s with h:=h',pc:=pc' }).leaf ρ=some x
 | [],s,E,k,x,hρ,r,hp,h=> ⟨[],s.h,s.pc,E,hp,YL.refl r,fun _ h=>h,h⟩
 | v :: vs,s,E,k,x,hρ,r,hp,h=>by simp only [GY] at h;obtain⟨v1,h1,pc1,E1,hp1,f1,q1,g1⟩:=aeM hρ r hp h;obtain⟨vs1,h2,pc2,E2,hp2,f2,q2,g2⟩:=yU (s:={ s with h:=h1,pc:=pc1 }) (f1.ρ.trans hρ) f1.rel hp1 g1;refine⟨v1 :: vs1,h2,pc2,E2,hp2,f1.trans f2,fun us hu=>?_,g2⟩;rw [aY] at hu ⊢;obtain⟨u,us',rfl,a,b⟩:=hu;exact⟨u,us',rfl,VR.keep (f2.eG.keeps f1.rel) _ _ (q1 u a),q2 us' (bJ.keep (f1.eG.keeps r) _ _ b)⟩
end
end Go.As
end
section
namespace Go.As
section
variable {P:Program} {E:En} {w:World}
theorem oU: ∀{cs vs l:List AV} {o:Nat},splice cs o vs=some l→l.length=cs.length
 | cs,[],l,0,h=>by simp only [splice,Option.some.injEq] at h; rw [h]
 | [],v :: vs,l,0,h=>by simp [splice] at h
 | c :: cs,v :: vs,l,0,h=>by
   simp only [splice] at h;split at h
   ·rename_i l' hl;simp only [Option.some.injEq] at h;subst h;simp [oU hl]
   ·simp at h
 | [],vs,l,o+1,h=>by simp [splice] at h
 | c :: cs,vs,l,o+1,h=>by
   simp only [splice] at h;split at h
   ·rename_i l' hl;simp only [Option.some.injEq] at h;subst h;simp [oU hl]
   ·simp at h
theorem sS: ∀{cs vs l:List AV} {o:Nat} (m:List AV),splice cs o vs=some l→splice (cs++m) o vs=some (l++m)
 | cs,[],l,0,m,h=>by simp only [splice,Option.some.injEq] at h ⊢; rw [h]
 | [],v :: vs,l,0,m,h=>by simp [splice] at h
 | c :: cs,v :: vs,l,0,m,h=>by
   simp only [splice,List.cons_append] at h ⊢;split at h
   ·rename_i l' hl;simp only [Option.some.injEq] at h;subst h;rw [sS m hl];rfl
   ·simp at h
 | [],vs,l,o+1,m,h=>by simp [splice] at h
 | c :: cs,vs,l,o+1,m,h=>by
   simp only [splice,List.cons_append] at h ⊢;split at h
   ·rename_i l' hl;simp only [Option.some.injEq] at h;subst h;rw [sS m hl];rfl
   ·simp at h
theorem zQ: ∀{cs vs l:List AV} {o:Nat} (p:List AV),splice cs o vs=some l→splice (p++cs) (p.length+o) vs=some (p++l)
 | cs,vs,l,o,[],h=>by simpa using h
 | cs,vs,l,o,x :: p,h=>by have:=zQ p h;rw [List.cons_append,List.length_cons,show p.length+1+o=(p.length+o)+1 by omega];simp only [splice,this,List.cons_append]
theorem yA: ∀{cs vs l:List AV} {o:Nat},splice cs o vs=some l→∀j:Nat,l[j]?=if o≤j∧j < o+vs.length then vs[j - o]? else cs[j]?
 | cs,[],l,0,h,j=>by simp only [splice,Option.some.injEq] at h;rw [h,if_neg (by simp)]
 | [],v :: vs,l,0,h,j=>by simp [splice] at h
 | c :: cs,v :: vs,l,0,h,j=>by
   simp only [splice] at h;split at h
   ·rename_i l' hl;simp only [Option.some.injEq] at h;subst h
    cases j with
    | zero=>simp
    | succ j=>
      have:=yA hl j;simp only [List.getElem?_cons_succ,this,List.length_cons,Nat.sub_zero];by_cases hj:j < vs.length
      ·rw [if_pos (by omega),if_pos (by omega)]
      ·rw [if_neg (by omega),if_neg (by omega)]
   ·simp at h
 | [],vs,l,o+1,h,j=>by simp [splice] at h
 | c :: cs,vs,l,o+1,h,j=>by
   simp only [splice] at h;split at h
   ·rename_i l' hl;simp only [Option.some.injEq] at h;subst h
    cases j with
    | zero=>rw [if_neg (by omega)]; rfl
    | succ j=>
      have:=yA hl j;simp only [List.getElem?_cons_succ,this];by_cases hj:o≤j∧j < o+vs.length
      ·rw [if_pos hj,if_pos (by omega),show j+1 - (o+1)=j - o by omega]
      ·rw [if_neg hj,if_neg (by omega)]
   ·simp at h
theorem Hz (x:SE): ∀(cs:List CK) (j k:Nat),(lD cs j x)[k]?=(cs[k]?).map fun c=>Bc c (mV (j+k) x)
 | [],j,k=>by simp [lD]
 | c :: cs,j,0=>by simp [lD]
 | c :: cs,j,k+1=>by simp only [lD,List.getElem?_cons_succ,Hz x cs (j+1) k];rw [show j+1+k=j+(k+1) by omega]
theorem JC {ρ:Nat→Int} {ks:List CK}: ∀{vs:List AV} {off:Nat} {x x':SE},setCells ks off vs x=some x'→off+vs.length≤(dec (x.den ρ)).l.length→
 (dec (x'.den ρ)).l.length=(dec (x.den ρ)).l.length∧(dec (x.den ρ)=dL (dec (x.den ρ)).l→dec (x'.den ρ)=dL (dec (x'.den ρ)).l)∧
 ∀j,(j < off∨off+vs.length≤j)∧(dec (x'.den ρ)).l[j]?=(dec (x.den ρ)).l[j]?∨∃c v a,off≤j∧vs[j - off]?=some v∧ks[j]?=some c∧rW c v=some a∧(dec (x'.den ρ)).l[j]?=some (dec (a.den ρ))
 | [],off,x,x',h,_=>by simp only [setCells,Option.some.injEq] at h;subst h;refine⟨rfl,id,fun j=> .inl ⟨?_,rfl⟩⟩;simp only [List.length_nil];omega
 | v :: vs,off,x,x',h,hle=>by
   simp only [setCells] at h;split at h
   ·rename_i c hc;split at h
    ·rename_i a ha;simp only [List.length_cons] at hle
     have hs:dec ((SE.op .set x (gX (.dat (.i (Int.ofNat off))) a)).den ρ)=dL ((dec (x.den ρ)).l.set off (dec (a.den ρ))):=by simp only [gX,SE.den,iO.den,aG,D.n];rfl
     obtain⟨h1,h2,h3⟩:=JC (ρ:=ρ) h (by rw [hs,aT,List.length_set]; omega);rw [hs,aT,List.length_set] at h1;rw [hs] at h2 h3;simp only [aT] at h2 h3;rw [dB] at hc;refine⟨h1,fun _=>h2 trivial,fun j=>?_⟩;rcases h3 j with ⟨q1,q2⟩ | ⟨c',v',a',q1,q2,q3,q4,q5⟩
     ·by_cases hj:j=off
      ·subst hj;refine .inr ⟨c,v,a,Nat.le_refl _,by simp,hc,ha,?_⟩;rw [q2,List.getElem?_set_self (by omega)]
      ·refine .inl ⟨by simp only [List.length_cons]; omega,?_⟩;rw [q2,List.getElem?_set_ne (fun q=>hj q.symm)]
     ·refine .inr ⟨c',v',a',by omega,?_,q3,q4,q5⟩;rw [show j - off=(j - (off+1))+1 by omega,List.getElem?_cons_succ];exact q2
    ·simp at h
   ·simp at h
theorem dP.mk {ro:Nat→Prop} {h:Array Obj} {d:D}: ∀{cs:List CK} {j:Nat} {us:List Value},us.length=cs.length→(∀k c u,cs[k]?=some c→us[k]?=some u→lG ro h c (d.hd (j+k)) u)→dP ro h cs j d us
 | [],j,us,hl,_=>by simp only [dP];exact List.eq_nil_of_length_eq_zero hl
 | c :: cs,j,[],hl,_=>by simp at hl
 | c :: cs,j,u :: us,hl,hh=>by simp only [dP];refine⟨u,us,rfl,by simpa using hh 0 c u rfl rfl,dP.mk (by simpa using hl) fun k c' u' h1 h2=>?_⟩;have:=hh (k+1) c' u' (by simpa using h1) (by simpa using h2);rw [show j+1+k=j+(k+1) by omega];exact this
theorem abC {r:Row} {e e' i:SE} {off k:Nat} {vs:List AV} {x:D} (hc:V5 r e i off vs=some e') (hi:i.den E.ρ=(k:Int)) (hx:(dec (e.den E.ρ)).l[k]?=some x) (hwf:xB r x) (hle:off+vs.length≤r.es) :
 ∃x',dec (e'.den E.ρ)=dL ((dec (e.den E.ρ)).l.set k x')∧xB r x'∧∀(h:Array Obj) (us':List Value),us'.length=r.es→(∀j v u,off≤j→vs[j - off]?=some v→us'[j]?=some u→VR E h v u)→
  (∀j a u,(j < off∨off+vs.length≤j)→(jD r (.op .at e i))[j]?=some a→us'[j]?=some u→VR E h a u)→Eu E.ro h r x' us':=by
 unfold V5 at hc;split at hc
 ·rename_i c;split at hc
  ·split at hc
   ·rename_i v;split at hc
    ·rename_i a ha;simp only [Option.some.injEq] at hc;subst hc;refine⟨dec (a.den E.ρ),?_,vH ha,?_⟩
     ·simp only [gX,SE.den,iO.den,aG,oV,D.n,hi,yC]
     ·intro h us' h1 h2 _
      cases us' with
      | nil=>simp [Row.es] at h1
      | cons y ys=>
        have:ys= []:=by
         cases ys with
         | nil=>rfl
         | cons z zs=>simp [Row.es] at h1
        subst this;exact⟨y,rfl,qG (h2 0 v y (Nat.le_refl _) rfl rfl) ha⟩
    ·simp at hc
   ·simp at hc
  ·simp at hc
 ·rename_i ks;split at hc
  ·rename_i x' hx';simp only [Option.some.injEq] at hc;subst hc;have hat:=Jl E.ρ e i hi hx;obtain⟨w1,w2,w3⟩:=hwf;obtain⟨g1,g2,g3⟩:=JC (ρ:=E.ρ) hx' (by rw [hat,w2]; exact hle);rw [hat] at g1 g2 g3;refine⟨dec (x'.den E.ρ),?_,⟨g2 w1,by rw [g1,w2],?_⟩,?_⟩
   ·simp only [gX,SE.den,iO.den,aG,oV,D.n,hi,yC]
   ·intro j c y hj hy;rcases g3 j with ⟨_,q2⟩ | ⟨c',v',a',_,_,q3,q4,q5⟩
    ·exact w3 j c y hj (by rw [← q2]; exact hy)
    ·rw [q5] at hy;rw [hj] at q3;simp only [Option.some.injEq] at hy q3;subst hy q3;exact vH q4
   ·intro h us' h1 h2 h3;show dP E.ro h ks 0 (dec (x'.den E.ρ)) us';refine dP.mk h1 fun j c u hj hu=>?_;rw [Nat.zero_add];rcases g3 j with ⟨q1,q2⟩ | ⟨c',v',a',q1,q2,q3,q4,q5⟩
    ·have p2:=h3 j (Bc c (mV j (.op .at e i))) u q1 (by simp only [jD,Hz,hj,Option.map_some,Nat.zero_add]) hu;rw [vI,zT,hat] at p2;have:(dec (x'.den E.ρ)).hd j=x.hd j:=by simp only [D.hd,q2]
     rw [this];exact p2
    ·rw [hj] at q3;simp only [Option.some.injEq] at q3;subst q3;have:(dec (x'.den E.ρ)).hd j=dec (a'.den E.ρ):=by simp only [D.hd,q5,Option.getD_some]
     rw [this];exact qG (h2 j v' u q1 q2 hu) q4
  ·simp at hc
theorem nG {ρ:Nat→Int} {r:Row} {ov wL:List (SE×List AV)}: ∀(ds:List D) (i:Nat),(∀j,i≤j→j < i+ds.length→dQ ρ j ov=dQ ρ j wL)→aK ρ r ov ds i=aK ρ r wL ds i
 | [],_,_=>rfl
 | d :: ds,i,h=>by simp only [aK];rw [h i (Nat.le_refl _) (by simp),nG ds (i+1) fun j h1 h2=>h j (by omega) (by simp only [List.length_cons]; omega)]
theorem ND {ρ:Nat→Int} {pc:List (SB×Bool)} (hp:bI ρ pc) {i:SE} {k:Nat} (hi:i.den ρ=(k:Int)) {cs':List AV} {r:Row} (hcs:cs'.length=r.es): ∀{ov wL:List (SE×List AV)},RH pc i cs' ov=some wL→Gn r ov→
 Gn r wL∧dQ ρ k wL=some cs'∧∀j:Nat,j≠k→dQ ρ j wL=dQ ρ j ov
 | [],wL,h,_=>by simp [RH] at h
 | (j,c) :: l,wL,h,ho=>by
   simp only [RH] at h;split at h
   ·rename_i he;have he:=bW _ _ he;subst he;simp only [Option.some.injEq] at h;subst h;refine⟨?_,by simp [dQ,hi],?_⟩
    ·intro p hp';rcases List.mem_cons.1 hp' with rfl | hp'
     ·exact hcs
     ·exact ho p (by simp [hp'])
    ·intro m hm;simp only [dQ,hi];rw [if_neg (by omega),if_neg (by omega)]
   ·split at h
    ·rename_i b hd;split at h
     ·have hd:=jA hp hd;rw [lV,beq_iff_eq,hi] at hd;simp only [Option.some.injEq] at h;subst h;refine⟨?_,by simp [dQ,hd],?_⟩
      ·intro p hp';rcases List.mem_cons.1 hp' with rfl | hp'
       ·exact hcs
       ·exact ho p (by simp [hp'])
      ·intro m hm;simp only [dQ,← hd];rw [if_neg (by omega),if_neg (by omega)]
     split at h
     ·rename_i l' hl;simp only [Option.some.injEq] at h;subst h;have hd:=jA hp hd;rw [lV,beq_eq_false_iff_ne,hi] at hd;obtain⟨g1,g2,g3⟩:=ND hp hi hcs hl fun p hp'=>ho p (by simp [hp']);refine⟨?_,?_,?_⟩
      ·intro p hp';rcases List.mem_cons.1 hp' with rfl | hp'
       ·exact ho _ (by simp)
       ·exact g1 p hp'
      ·simp only [dQ];rw [if_neg (fun q=>hd q.symm)];exact g2
      ·intro m hm;simp only [dQ];split
       ·rfl
       ·exact g3 m hm
     ·simp at h
    ·simp at h
theorem TY {ρ:Nat→Int} {pc:List (SB×Bool)} (hp:bI ρ pc) {i:SE} {k:Nat} (hi:i.den ρ=(k:Int)): ∀{ov:List (SE×List AV)},Dl pc i ov=true→dQ ρ k ov=none
 | [],_=>rfl
 | (j,c) :: l,h=>by
   simp only [Dl] at h;split at h
   ·rename_i hd;have hd:=jA hp hd;rw [lV,beq_eq_false_iff_ne,hi] at hd;simp only [dQ];rw [if_neg (fun q=>hd q.symm)];exact TY hp hi h
   ·simp at h
theorem OR.congr {h:Array Obj} {id:Nat} {a b:List AV} {ty:TypeId} (ho:OR E h id (.cells a ty)) (hl:b.length=a.length) (hv: ∀us,bJ E h a us→bJ E h b us):OR E h id (.cells b ty):=by simp only [OR] at ho ⊢;obtain⟨arr,lo,hi,us,q1,q2,q3,q4,q5,q6,q7⟩:=ho;exact⟨arr,lo,hi,us,q1,hv us q2,q3,by rw [hl]; exact q4,q5,q6,q7⟩
set_option maxHeartbeats 800000 in
theorem XW [Glob] {E1:En} {tt:TT} (htt:eP P tt) {s s':St} (r1:bF E1 s.h w) (hp:bI E1.ρ s.pc) {ty id es:Nat} {i:SE} {off:Nat} {one:Bool} {vs:List AV} {v':AV} {u x:Value} (hx:VR E1 w.heap (.qL id es i off) u)
 (hcv:one=true→bJ E1 w.heap vs x.cells.toList∧∀u∈x.cells.toList,u.oneCell'=true) (h:(OD tt s ty id es i off one vs).leaf E1.ρ=some (v',s')) :
 s'.slots=s.slots∧bI E1.ρ s'.pc∧v'=AV.undef∧∃w' E',(Instr.storeAt ty u x).run P w= .ok () w'∧Stp E1 s.h w E' s'.h w'∧bF E' s'.h w':=by
 unfold OD at h;split at h
 ·rename_i o hl;split at h
  ·rename_i e t Iq ov;split at h
   ·rename_i ti hti;split at h
    ·rename_i hcond;obtain⟨hes,hvl,hone⟩:=hcond;obtain⟨pc0,hp0,t1,t2,h3⟩:=sD hp h;obtain⟨pc',hp',h3⟩:=Dt (s:={ s with pc:=pc0 }) hp0 h3;split at h3
     ·rename_i cs hc;split at h3
      ·rename_i cs' hs;obtain⟨hvs,aoM⟩:=hcv hone;have hx1:=hx;simp only [VR] at hx1;obtain⟨hid,k,hk,rfl⟩:=hx1;obtain⟨rc,ho,hwf⟩:=r1.yZ hl;rw [dD] at t2;have hlt:k < (dec (e.den E1.ρ)).l.length:=by omega
       have hd:(dec (e.den E1.ρ)).l[k]?=some (dec (e.den E1.ρ)).l[k]:=List.getElem?_eq_getElem hlt;generalize hxk:(dec (e.den E1.ρ)).l[k]=xk at hd;obtain⟨c1,c2⟩:=lI (ρ:=E1.ρ) ho (j:=0) hd;rw [Nat.zero_add] at c1;generalize hpre:aK E1.ρ (rowOf t) ov ((dec (e.den E1.ρ)).l.take k) 0=pre at c1 c2;generalize hpost:aK E1.ρ (rowOf t) ov ((dec (e.den E1.ρ)).l.drop (k+1)) (k+1)=post at c1
       have hrow:(∀h us,bJ E1 h (match dQ E1.ρ k ov with | some cs=>cs | none=>jD (rowOf t) (.dat xk)) us↔bJ E1 h cs us)∧cs.length=(rowOf t).es:=by
        rcases sV hp' hk hc with g | ⟨g,rfl⟩
        ·rw [g];obtain⟨p,p1,p2,_⟩:=nN g;have:=ho p p1;rw [p2] at this;exact⟨fun _ _=>Iff.rfl,this⟩
        ·rw [g];refine⟨fun h us=>ET ?_,jJ _ _⟩;rw [Jl E1.ρ e i hk hd];simp only [SE.den,aG]
       obtain⟨hrv,hcl⟩:=hrow;have hcl':cs'.length=(rowOf t).es:=by rw [oU hs,hcl]
       have hor:OR E1 w.heap id (.cells (pre++(cs++post)) Iq):=by
        have:=(rc.live id _ (by rw [Hp.get_put,if_pos rfl])).2.1;unfold dM at this;rw [c1] at this;refine OR.congr this ?_ ?_
        ·simp only [List.length_append,hcl];congr 2;split
         ·rename_i cs0 h0;obtain⟨p,p1,p2,_⟩:=nN h0;have:=ho p p1;rw [p2] at this;exact this.symm
         ·rw [jJ]
        ·intro us q2;obtain⟨a,b,rfl,a1,a2⟩:=q2.split;obtain⟨a',b',rfl,b1,b2⟩:=a2.split;exact a1.append (((hrv _ _).1 b1).append b2)
       have r2:=r1.swap (H2:=s.h.put id (.cells (pre++(cs++post)) Iq)) hl hor (by rw [Hp.get_put,if_pos rfl]) (fun j hj=>by rw [Hp.get_put,if_neg hj]) rfl rfl
       have hs2:splice (pre++(cs++post)) (k*es+off) vs=some (pre++(cs'++post)):=by rw [← hes,← c2];exact zQ pre (sS post hs)
       obtain⟨w',g1,g2,g3⟩:=pI (P:=P) r2 (by rw [Hp.get_put,if_pos rfl]) hs2 hvs aoM;have hlen:x.cells.size=ti.size:=by have:=hvs.length; simp only [Array.length_toList] at this; omega
       have hrun:(Instr.storeAt ty (.pointer (some ⟨(E1.θ id).1,(E1.θ id).2+(k*es+off),none⟩)) x).run P w= .ok () w':=by simp [Instr.storeAt,Instr.sureAddr,storeVar,dX (htt ty ti hti),hlen,g1]
       have fin: ∀(o':dW),OR E1 w'.heap id o'→∃w' E',(Instr.storeAt ty (.pointer (some ⟨(E1.θ id).1,(E1.θ id).2+(k*es+off),none⟩)) x).run P w= .ok () w'∧Stp E1 s.h w E' (s.h.put id o') w'∧bF E' (s.h.put id o') w':=by
        intro o' ho';have al1:Wu (s.h.put id (.cells (pre++(cs++post)) Iq)) s.h:=(Wu.put hl).symm
        have al2:Wu ((s.h.put id (.cells (pre++(cs++post)) Iq)).put id (.cells (pre++(cs'++post)) Iq)) (s.h.put id o'):=by
         refine⟨fun j y hj=>?_,fun j y hj=>?_,rfl,rfl⟩
         ·rw [Hp.get_put];split
          ·exact⟨o',rfl⟩
          ·rename_i hne;rw [Hp.get_put,if_neg hne,Hp.get_put,if_neg hne] at hj;exact⟨y,hj⟩
         ·rw [Hp.get_put] at hj ⊢;split
          ·exact⟨_,rfl⟩
          ·rename_i hne;rw [if_neg hne] at hj;rw [Hp.get_put,if_neg hne];exact⟨y,hj⟩
        refine⟨w',E1,hrun,(g2.left al1).right al2,?_⟩;exact g3.swap (id:=id) (by rw [Hp.get_put,if_pos rfl]) ho' (by rw [Hp.get_put,if_pos rfl]) (fun j hj=>by rw [Hp.get_put,if_neg hj,Hp.get_put,if_neg hj,Hp.get_put,if_neg hj]) rfl rfl
       have hcells:=(g3.live id _ (by rw [Hp.get_put,if_pos rfl])).2.1
       have apart: ∀wL:List (SE×List AV),Gn (rowOf t) wL→dQ E1.ρ k wL=some cs'→(∀j:Nat,j≠k→dQ E1.ρ j wL=dQ E1.ρ j ov)→OR E1 w'.heap id (.vec e t Iq wL):=by
        intro wL q1 q2 q3;refine OR.yZ.2 ⟨⟨q1,hwf⟩,?_⟩
        have:dM E1.ρ e t wL=pre++(cs'++post):=by
         unfold dM;obtain⟨d1,_⟩:=lI (ρ:=E1.ρ) q1 (j:=0) hd;rw [Nat.zero_add,q2] at d1;rw [d1,← hpre,← hpost];congr 1
         ·refine nG _ _ fun j _ hj=>q3 j ?_;rw [List.length_take] at hj;omega
         ·congr 1;exact nG _ _ fun j hj _=>q3 j (by omega)
        rw [this];exact hcells
       split at h3
       ·rename_i wL hov;have:=aH h3;simp only [Prod.mk.injEq] at this;obtain⟨rfl,rfl⟩:=this;refine⟨rfl,hp',rfl,?_⟩;obtain⟨q1,q2,q3⟩:=ND hp' hk hcl' hov ho;exact fin _ (apart wL q1 q2 q3)
       ·split at h3
        ·rename_i habs;have hnone:=TY hp' hk habs;split at h3
         ·rename_i e' hset;have:=aH h3;simp only [Prod.mk.injEq] at this;obtain⟨rfl,rfl⟩:=this;refine⟨rfl,hp',rfl,fin _ ?_⟩;have hxm:xk∈(dec (e.den E1.ρ)).l:=List.mem_of_getElem? hd
          have hle:off+vs.length≤(rowOf t).es:=by
           rw [← hcl];rcases Nat.eq_zero_or_pos vs.length with hz | hz
           ·have aEq:=List.eq_nil_of_length_eq_zero hz;subst aEq
            have: ∀(l c:List AV) (o:Nat),splice c o []=some l→o≤c.length:=by
             intro l c
             induction c generalizing l with
             | nil=>intro o ho; cases o with | zero=>exact Nat.zero_le _ | succ o=>simp [splice] at ho
             | cons a c ih=>
               intro o ho
               cases o with
               | zero=>exact Nat.zero_le _
               | succ o=>
                 simp only [splice] at ho;split at ho
                 ·rename_i l' hl';have:=ih l' o hl';simp; omega
                 ·simp at ho
            have:=this _ _ _ hs;simpa using this
           ·have:=yA hs (off+vs.length - 1);rw [if_pos (by omega)] at this
            have hsome:(vs[off+vs.length - 1 - off]?).isSome=true:=by rw [List.getElem?_eq_getElem (by omega)]; rfl
            rw [← this] at hsome;obtain⟨y,hy⟩:=Option.isSome_iff_exists.1 hsome;have:=(List.getElem?_eq_some_iff.1 hy).1;rw [oU hs] at this;omega
          obtain⟨x',z1,z2,z3⟩:=abC hset hk hd (hwf.2.1 xk hxm) hle;refine OR.yZ.2 ⟨⟨ho,?_⟩,?_⟩
          ·rw [z1];refine⟨by rw [aT],fun y hy=>?_,by rw [aT]; intro q; have:=congrArg List.length q; simp at this; exact hwf.2.2 this⟩;rw [aT] at hy;rcases List.mem_or_eq_of_mem_set hy with hy | rfl
           ·exact hwf.2.1 y hy
           ·exact z2
          ·have hd':(dec (e'.den E1.ρ)).l[k]?=some x':=by
            rw [z1,aT,List.getElem?_set_self hlt]
           obtain⟨d1,d2⟩:=lI (ρ:=E1.ρ) ho (j:=0) hd';rw [Nat.zero_add,hnone] at d1
           have aeI:dM E1.ρ e' t ov=pre++(jD (rowOf t) (.dat x')++post):=by
            unfold dM;rw [d1,← hpre,← hpost,z1,aT];congr 1
            ·rw [List.take_set_of_le (Nat.le_refl _)]
            ·congr 1;rw [List.drop_set_of_lt (by omega)]
           rw [aeI];refine OR.congr hcells (by simp only [List.length_append,jJ,hcl']) fun us q2=>?_;obtain⟨a,b,rfl,a1,a2⟩:=q2.split;obtain⟨a',b',rfl,b1,b2⟩:=a2.split;refine a1.append (bJ.append ?_ b2);rw [gZ];simp only [SE.den,aG]
           have aEy:cs=jD (rowOf t) (.op .at e i):=by
            rcases sV hp' hk hc with g | ⟨g,g'⟩
            ·rw [hnone] at g; simp at g
            ·exact g'
           refine z3 _ a' (by rw [b1.length,hcl']) ?_ ?_
           ·intro j vj uj hj1 hj2 hj3;have hjl:=(List.getElem?_eq_some_iff.1 hj2).1;have:=yA hs j;rw [if_pos (by omega),hj2] at this;obtain⟨y,y1,y2⟩:=b1.nth (by rw [dB]; exact this);rw [hj3] at y1;simp only [Option.some.injEq] at y1;subst y1;exact y2
           ·intro j aj uj hj1 hj2 hj3;have:=yA hs j;rw [if_neg (by omega),aEy,hj2] at this;obtain⟨y,y1,y2⟩:=b1.nth (by rw [dB]; exact this);rw [hj3] at y1;simp only [Option.some.injEq] at y1;subst y1;exact y2
         ·have:=aH h3;simp only [Prod.mk.injEq] at this;obtain⟨rfl,rfl⟩:=this;refine⟨rfl,hp',rfl,fin _ (apart _ ?_ ?_ ?_)⟩
          ·intro p hp';rcases List.mem_cons.1 hp' with rfl | hp'
           ·exact hcl'
           ·exact ho p hp'
          ·simp only [dQ];rw [if_pos hk]
          ·intro j hj;simp only [dQ];rw [if_neg (by omega)]
        ·simp [T.leaf] at h3
      ·simp [T.leaf] at h3
     ·simp [T.leaf] at h3
    ·simp [T.leaf] at h
   ·simp [T.leaf] at h
  ·simp [T.leaf] at h
 ·simp [T.leaf] at h
theorem awN {E1:En} {h:Array Obj} {c:CK} {v:AV} {u:Value} (hv:VR E1 h v u):VR E1 h (aCd c v) u:=by
 unfold aCd;split
 ·split
  ·simp only [VR] at hv ⊢;subst hv;exact⟨⟨none,rfl⟩,by simp only [SE.den,aG]; exact .nil _⟩
  ·split
   ·split
    ·split
     ·simp only [VR] at hv ⊢;obtain⟨_,a,cap,rfl,_,hc⟩:=hv;simp only [fP] at hc;obtain⟨rfl,_⟩:=hc;exact⟨⟨some a,rfl⟩,by simp only [SE.den,aG]; exact .non _ _ _⟩
     ·exact hv
    ·exact hv
   ·exact hv
  ·exact hv
 ·exact hv
theorem Td {E1:En} {h:Array Obj}: ∀(cs:List CK) {vs:List AV} {us:List Value},bJ E1 h vs us→bJ E1 h (XP cs vs) us
 | [],vs,us,hv=>hv
 | _ :: _,[],us,hv=>hv
 | c :: cs,v :: vs,us,hv=>by rw [aY] at hv;obtain⟨u,us',rfl,h1,h2⟩:=hv;simp only [XP];rw [aY];exact⟨u,us',rfl,awN h1,Td cs h2⟩
set_option maxHeartbeats 800000 in
theorem XV [Glob] {E1:En} {tt:TT} (htt:eP P tt) {s s':St} (r1:bF E1 s.h w) (hp:bI E1.ρ s.pc) {ty id es:Nat} {i j0:SE} {off:Nat} {one:Bool} {vs:List AV} {v':AV} {u x:Value} (hx:VR E1 w.heap (.qL id es i off) u)
 (hcv:one=true→bJ E1 w.heap vs x.cells.toList∧∀u∈x.cells.toList,u.oneCell'=true) (h:(OC tt s ty id es i j0 off one vs).leaf E1.ρ=some (v',s')) :
 s'.slots=s.slots∧bI E1.ρ s'.pc∧v'=AV.undef∧∃w' E',(Instr.storeAt ty u x).run P w= .ok () w'∧Stp E1 s.h w E' s'.h w'∧bF E' s'.h w':=by
 unfold OC at h;split at h
 ·rename_i o hl;split at h
  ·rename_i e t Iq ov;split at h
   ·rename_i ti hti;split at h
    ·rename_i hcond;obtain⟨hes,hvl,hone⟩:=hcond;obtain⟨pc0,hp0,t1,t2,h3⟩:=sD hp h;obtain⟨pc',hp',h3⟩:=Dt (s:={ s with pc:=pc0 }) hp0 h3;split at h3
     ·rename_i hdb;have hij:=jA hp' hdb;split at h3
      ·rename_i cs hc;split at h3
       ·rename_i cs' hs;obtain⟨aEp,aoM⟩:=hcv hone;have hvs:=Td ((Zu (rowOf t)).drop off) aEp;have hx1:=hx;simp only [VR] at hx1;obtain⟨hid,k,hk,rfl⟩:=hx1;simp only [SB.den,beq_iff_eq] at hij;have hk2:j0.den E1.ρ=(k:Int):=by rw [← hij]; exact hk
        obtain⟨rc,ho,hwf⟩:=r1.yZ hl;rw [dD] at t2;have hlt:k < (dec (e.den E1.ρ)).l.length:=by omega
        have hd:(dec (e.den E1.ρ)).l[k]?=some (dec (e.den E1.ρ)).l[k]:=List.getElem?_eq_getElem hlt;generalize hxk:(dec (e.den E1.ρ)).l[k]=xk at hd;obtain⟨c1,c2⟩:=lI (ρ:=E1.ρ) ho (j:=0) hd;rw [Nat.zero_add] at c1;generalize hpre:aK E1.ρ (rowOf t) ov ((dec (e.den E1.ρ)).l.take k) 0=pre at c1 c2;generalize hpost:aK E1.ρ (rowOf t) ov ((dec (e.den E1.ρ)).l.drop (k+1)) (k+1)=post at c1
        have hrow:(∀h us,bJ E1 h (match dQ E1.ρ k ov with | some cs=>cs | none=>jD (rowOf t) (.dat xk)) us↔bJ E1 h cs us)∧cs.length=(rowOf t).es:=by
         rcases sV hp' hk2 hc with g | ⟨g,rfl⟩
         ·rw [g];obtain⟨p,p1,p2,_⟩:=nN g;have:=ho p p1;rw [p2] at this;exact⟨fun _ _=>Iff.rfl,this⟩
         ·rw [g];refine⟨fun h us=>ET ?_,jJ _ _⟩;rw [Jl E1.ρ e j0 hk2 hd];simp only [SE.den,aG]
        obtain⟨hrv,hcl⟩:=hrow;have hcl':cs'.length=(rowOf t).es:=by rw [oU hs,hcl]
        have hor:OR E1 w.heap id (.cells (pre++(cs++post)) Iq):=by
         have:=(rc.live id _ (by rw [Hp.get_put,if_pos rfl])).2.1;unfold dM at this;rw [c1] at this;refine OR.congr this ?_ ?_
         ·simp only [List.length_append,hcl];congr 2;split
          ·rename_i cs0 h0;obtain⟨p,p1,p2,_⟩:=nN h0;have:=ho p p1;rw [p2] at this;exact this.symm
          ·rw [jJ]
         ·intro us q2;obtain⟨a,b,rfl,a1,a2⟩:=q2.split;obtain⟨a',b',rfl,b1,b2⟩:=a2.split;exact a1.append (((hrv _ _).1 b1).append b2)
        have r2:=r1.swap (H2:=s.h.put id (.cells (pre++(cs++post)) Iq)) hl hor (by rw [Hp.get_put,if_pos rfl]) (fun j hj=>by rw [Hp.get_put,if_neg hj]) rfl rfl
        have hs2:splice (pre++(cs++post)) (k*es+off) (XP ((Zu (rowOf t)).drop off) vs)=some (pre++(cs'++post)):=by rw [← hes,← c2];exact zQ pre (sS post hs)
        obtain⟨w',g1,g2,g3⟩:=pI (P:=P) r2 (by rw [Hp.get_put,if_pos rfl]) hs2 hvs aoM;have hlen:x.cells.size=ti.size:=by have:=aEp.length; simp only [Array.length_toList] at this; omega
        have hrun:(Instr.storeAt ty (.pointer (some ⟨(E1.θ id).1,(E1.θ id).2+(k*es+off),none⟩)) x).run P w= .ok () w':=by simp [Instr.storeAt,Instr.sureAddr,storeVar,dX (htt ty ti hti),hlen,g1]
        have fin: ∀(o':dW),OR E1 w'.heap id o'→∃w' E',(Instr.storeAt ty (.pointer (some ⟨(E1.θ id).1,(E1.θ id).2+(k*es+off),none⟩)) x).run P w= .ok () w'∧Stp E1 s.h w E' (s.h.put id o') w'∧bF E' (s.h.put id o') w':=by
         intro o' ho';have al1:Wu (s.h.put id (.cells (pre++(cs++post)) Iq)) s.h:=(Wu.put hl).symm
         have al2:Wu ((s.h.put id (.cells (pre++(cs++post)) Iq)).put id (.cells (pre++(cs'++post)) Iq)) (s.h.put id o'):=by
          refine⟨fun j y hj=>?_,fun j y hj=>?_,rfl,rfl⟩
          ·rw [Hp.get_put];split
           ·exact⟨o',rfl⟩
           ·rename_i hne;rw [Hp.get_put,if_neg hne,Hp.get_put,if_neg hne] at hj;exact⟨y,hj⟩
          ·rw [Hp.get_put] at hj ⊢;split
           ·exact⟨_,rfl⟩
           ·rename_i hne;rw [if_neg hne] at hj;rw [Hp.get_put,if_neg hne];exact⟨y,hj⟩
         refine⟨w',E1,hrun,(g2.left al1).right al2,?_⟩;exact g3.swap (id:=id) (by rw [Hp.get_put,if_pos rfl]) ho' (by rw [Hp.get_put,if_pos rfl]) (fun j hj=>by rw [Hp.get_put,if_neg hj,Hp.get_put,if_neg hj,Hp.get_put,if_neg hj]) rfl rfl
        have hcells:=(g3.live id _ (by rw [Hp.get_put,if_pos rfl])).2.1
        have apart: ∀wL:List (SE×List AV),Gn (rowOf t) wL→dQ E1.ρ k wL=some cs'→(∀j:Nat,j≠k→dQ E1.ρ j wL=dQ E1.ρ j ov)→OR E1 w'.heap id (.vec e t Iq wL):=by
         intro wL q1 q2 q3;refine OR.yZ.2 ⟨⟨q1,hwf⟩,?_⟩
         have:dM E1.ρ e t wL=pre++(cs'++post):=by
          unfold dM;obtain⟨d1,_⟩:=lI (ρ:=E1.ρ) q1 (j:=0) hd;rw [Nat.zero_add,q2] at d1;rw [d1,← hpre,← hpost];congr 1
          ·refine nG _ _ fun j _ hj=>q3 j ?_;rw [List.length_take] at hj;omega
          ·congr 1;exact nG _ _ fun j hj _=>q3 j (by omega)
         rw [this];exact hcells
        split at h3
        ·rename_i wL hov;have:=aH h3;simp only [Prod.mk.injEq] at this;obtain⟨rfl,rfl⟩:=this;refine⟨rfl,hp',rfl,?_⟩;obtain⟨q1,q2,q3⟩:=ND hp' hk2 hcl' hov ho;exact fin _ (apart wL q1 q2 q3)
        ·split at h3
         ·rename_i habs;have:=aH h3;simp only [Prod.mk.injEq] at this;obtain⟨rfl,rfl⟩:=this;refine⟨rfl,hp',rfl,fin _ (apart _ ?_ ?_ ?_)⟩
          ·intro p hp';rcases List.mem_cons.1 hp' with rfl | hp'
           ·exact hcl'
           ·exact ho p hp'
          ·simp only [dQ];rw [if_pos hk2]
          ·intro j hj;simp only [dQ];rw [if_neg (by omega)]
         ·simp [T.leaf] at h3
       ·simp [T.leaf] at h3
      ·simp [T.leaf] at h3
     ·simp [T.leaf] at h3
    ·simp [T.leaf] at h
   ·simp [T.leaf] at h
  ·simp [T.leaf] at h
 ·simp [T.leaf] at h
theorem XY [Glob] {tt:TT} (htt:eP P tt) {s s':St} (r:bF E s.h w) (hp:bI E.ρ s.pc) {ty id es:Nat} {i:SE} {off:Nat} {v v':AV} {u x:Value} (hx:VR E w.heap (.qL id es i off) u) (hv:VR E w.heap v x) (h:(OE tt s ty id es i off v).leaf E.ρ=some (v',s')) :
 s'.slots=s.slots∧bI E.ρ s'.pc∧v'=AV.undef∧∃w' E',(Instr.storeAt ty u x).run P w= .ok () w'∧Stp E s.h w E' s'.h w'∧bF E' s'.h w':=by
 unfold OE at h;split at h
 ·exact XV htt r hp hx (fun hone=> ⟨hv.cells hone,(hv.cells hone).ones hone⟩) h
 ·obtain⟨vs,h1,pc1,E1,hp1,f,q,g⟩:=yU rfl r hp h;have hρ:=f.ρ;rw [← hρ] at hp1 g;obtain⟨a1,a2,a3,w',E',a4,a5,a6⟩:=XW htt (s:={ s with h:=h1,pc:=pc1 }) f.rel hp1 (VR.keep (f.eG.keeps r) _ _ hx) (fun hone=> ⟨q _ (hv.cells hone),(hv.cells hone).ones hone⟩) g;exact⟨a1,by rw [← hρ]; exact a2,a3,w',E',a4,f.eG.trans a5,a6⟩
end
end Go.As
end
section
namespace Go.As
section
variable {P:Program} {E:En} {w:World}
theorem Eu.length {ro:Nat→Prop} {h:Array Obj} {r:Row} {d:D} {us:List Value} (hh:Eu ro h r d us):us.length=r.es:=by
 cases r with
 | one c=>obtain⟨u,rfl,_⟩:=hh; rfl
 | many cs=>exact dP.length hh
theorem iF.append {h:Array Obj} {b o:Nat} {us vs:List Value} (h1:iF h b o us) (h2:iF h b (o+us.length) vs):iF h b o (us++vs):=by
 intro i u hi;rw [List.getElem?_append] at hi;split at hi
 ·exact h1 i u hi
 ·rename_i hlt;have:=h2 _ u hi;rw [show o+us.length+(i - us.length)=o+i by omega] at this;exact this
theorem Np {ro:Nat→Prop} (hro:ro=E.ro) {h:Array Obj} {r:Row} {b o:Nat}: ∀(L:List D) (j:Nat),(∀i x,L[i]?=some x→∃us,Eu ro h r x us∧iF h b (o+(j+i)*r.es) us)→
 ∃us,bJ E h (aK E.ρ r [] L j) us∧iF h b (o+j*r.es) us∧us.length=L.length*r.es∧∀u∈us,u.oneCell'=true
 | [],j,_=> ⟨[],by simp [aK,bJ],fun i u hi=>by simp at hi,by simp,by simp⟩
 | d :: L,j,hh=>by
   subst hro;obtain⟨a,a1,a2⟩:=hh 0 d rfl
   obtain⟨b',b1,b2,b3,b4⟩:=Np rfl L (j+1) fun i x hi=>by have:=hh (i+1) x (by simpa using hi);rw [show j+(i+1)=j+1+i by omega] at this;exact this
   have hal:=a1.length;refine⟨a++b',?_,?_,?_,?_⟩
   ·simp only [aK,dQ];refine bJ.append ?_ b1;rw [gZ];simpa only [SE.den,aG] using a1
   ·rw [Nat.add_zero] at a2;refine a2.append ?_;rw [hal,show o+j*r.es+r.es=o+(j+1)*r.es by rw [Nat.add_mul]; omega];exact b2
   ·rw [List.length_append,hal,b3,List.length_cons,Nat.add_mul]; omega
   ·intro u hu;rcases List.mem_append.1 hu with hu | hu
    ·exact a1.ones u hu
    ·exact b4 u hu
theorem ayI {t:Nat} {d:D} {u:Value} (hr:Rd E.ro w.heap (.sl t) d u) (hne:d.l≠[]): ∃us,Src P E w (rowOf t).es d.l.length (aK E.ρ (rowOf t) [] d.l 0) u us:=by
 obtain⟨x,hx⟩ : ∃x,d.l[0]?=some x:=by
  cases h:d.l with
  | nil=>exact absurd h hne
  | cons a l=>exact⟨a,rfl⟩
 obtain⟨b,o,cap,us0,rfl,hb,_,_⟩:=hr.row hx
 obtain⟨us,h1,h2,h3,h4⟩:=Np (E:=E) (ro:=E.ro) rfl (h:=w.heap) (r:=rowOf t) (b:=b) (o:=o) d.l 0 fun i x hi=>by obtain⟨b',o',cap',us',he,_,g1,g2⟩:=hr.row hi;simp only [Value.slice.injEq,Option.some.injEq,Addr.mk.injEq] at he;obtain⟨⟨rfl,rfl,_⟩,_,_⟩:=he;exact⟨us',g1,by rw [Nat.zero_add]; exact g2⟩
 rw [Nat.zero_mul,Nat.add_zero] at h2;exact⟨us.toArray,fun _=>rfl,fun w2 hw=>by simp only [Builtin.firstCells]; exact h2.loads h3 w2 hw,by simpa using h1,by simpa using h3,by simpa using h4⟩
structure Grown (ρ:Nat→Int) (r:Row) (e0 e1:SE) (ds:List D) (news:List AV):Prop where
 l:(dec (e1.den ρ)).l=(dec (e0.den ρ)).l++ds
 wf:dec (e1.den ρ)=dL (dec (e1.den ρ)).l
 rows: ∀d∈ds,xB r d
 vr: ∀(E':En) (h:Array Obj) (us:List Value) (j:Nat),E'.ρ=ρ→bJ E' h news us→bJ E' h (aK ρ r [] ds j) us
theorem mX (r:Row):Gn r []:=fun p hp=>by simp at hp
theorem Lp [Glob] {E':En} {H0:Hp} {w':World} {cells:List AV} {e:TypeId} {e1:SE} {t:Nat} (r:bF E' (H0.new (.cells cells e)) w') (hwf:J9 (rowOf t) (dec (e1.den E'.ρ))) (hl:(dM E'.ρ e1 t []).length=cells.length)
 (hv: ∀us,bJ E' w'.heap cells us→bJ E' w'.heap (dM E'.ρ e1 t []) us):bF E' (H0.new (.vec e1 t e [])) w':=by
 have hg:(H0.new (.cells cells e)).get H0.fresh=some (.cells cells e):=by rw [Hp.mG,if_pos rfl]
 refine r.swap hg (OR.yZ.2 ⟨⟨mX _,hwf⟩,OR.congr (r.live _ _ hg).2.1 hl hv⟩) (by rw [Hp.mG,if_pos rfl]) (fun j hj=>by rw [Hp.mG,if_neg hj,Hp.mG,if_neg hj]) ?_ ?_
 ·unfold Hp.new; split <;> rfl
 ·unfold Hp.new; split <;> rfl
theorem Lr {H0 H1:Hp} {o o':dW} (hn:H1.next=H0.next) (hr:H1.res=H0.res) (hg: ∀j,(H0.get j).isSome=(H1.get j).isSome):Wu (H0.new o) (H1.new o'):=by
 have hf:H1.fresh=H0.fresh:=by unfold Hp.fresh; rw [hn,hr]
 have key: ∀{A B:Option dW} {x:dW},A.isSome=B.isSome→A=some x→∃y,B=some y:=by intro A B x h1 h2;rw [h2] at h1;exact Option.isSome_iff_exists.1 h1.symm
 refine⟨fun j x hj=>?_,fun j x hj=>?_,?_,?_⟩
 ·rw [Hp.mG] at hj ⊢;rw [hf];split
  ·exact⟨o',rfl⟩
  ·rename_i hne;rw [if_neg hne] at hj;exact key (hg j) hj
 ·rw [Hp.mG] at hj ⊢;rw [hf] at hj;split
  ·exact⟨o,rfl⟩
  ·rename_i hne;rw [if_neg hne] at hj;exact key (hg j).symm hj
 ·unfold Hp.new;rw [hr];split <;> simp [hn]
 ·unfold Hp.new;rw [hr];split <;> simp
set_option maxHeartbeats 800000 in
theorem FH [Glob] {t t2 ty:Nat} {H h0:Hp} (r:bF E H w) {ie:TI} {e m:Nat} {own:Option Nat} {news:List AV} {x:AV} {d2:TypeDesc} {u u2:Value} {us:Array Value} (hte:uZ P e ie)
 (ht:P.underlying t=some (.slice e)) (ht2:P.underlying t2=some d2) (hd2: ∀k,d2≠.int k) (hs0:ie.size≠0) (hb0:ie.bytes≠0) (hzl:ie.zero.length=ie.size) (hb4:ie.bytes≤400)
 (src:Src P E w ie.size m news u2 us) (hm:0 < m) (hx:VR E w.heap x u) {e0 e1:SE} {t':Nat} (hb:Di e own x H=some (e0,t',h0)) (hes:(rowOf t').es=ie.size) {ds:List D} (g:Grown E.ρ (rowOf t') e0 e1 ds news) (hds:ds.length=m)
 (hlim:((dec (e0.den E.ρ)).l.length+m)*ie.bytes≤140737488355328) :
 ∃y w' E',(Builtin.append_ #[t,t2] ty #[u,u2]).run P w= .ok y w'∧Stp E H w E' (h0.new (.vec e1 t' e [])) w'∧bF E' (h0.new (.vec e1 t' e [])) w'∧VR E' w'.heap (.vM h0.fresh (eX e1) t') y:=by
 have hbound: ∀k,k≤(dec (e0.den E.ρ)).l.length→(k+m)*ie.bytes≤140737488355328:=by intro k hk;exact Nat.le_trans (Nat.mul_le_mul_right _ (by omega)) hlim
 have hnl:news.length=m*ie.size:=by have h1:=src.vrs.length;have h2:=src.size;simp only [Array.length_toList] at h1;omega
 have fresh0: ∀(a:Option Addr),u= .slice a 0 0→h0=H→(dec (e0.den E.ρ)).l= []→
  ∃y w' E',(Builtin.append_ #[t,t2] ty #[u,u2]).run P w= .ok y w'∧Stp E H w E' (h0.new (.vec e1 t' e [])) w'∧bF E' (h0.new (.vec e1 t' e [])) w'∧VR E' w'.heap (.vM h0.fresh (eX e1) t') y:=by
  intro a hu he hnil;subst hu he
  have hgl:xJ ie e 0 m news h0=some (.slice h0.fresh 0 (0+m) (.rest ie.size),h0.new (.cells news e)):=by unfold xJ;rw [if_pos (hbound 0 (by omega))]
  obtain⟨y,w',E',p1,p2,p3,p4⟩:=yS (t:=t) (t2:=t2) (ty:=ty) (cap:=0) r hte ht ht2 hd2 hb0 hzl src (by omega) a (old:=[]) (olds:=#[]) (cs:=news) (by simp) (by simp [bJ]) (by simp) (by simp)
   (fun w2 _=>by
    cases a with
    | none=>simp [Builtin.firstCells]
    | some a=>simp only [Builtin.firstCells,Nat.zero_mul]; rfl) hgl
  have hρ:=p2.ρ;have hl1:(dec (e1.den E'.ρ)).l=ds:=by rw [hρ,g.l,hnil,List.nil_append]
  have hwf:J9 (rowOf t') (dec (e1.den E'.ρ)):=by refine⟨by rw [hρ]; exact g.wf,fun d hd=>?_,by rw [hl1]; intro q; rw [q] at hds; simp at hds; omega⟩;rw [hl1] at hd;exact g.rows d hd
  refine⟨y,w',E',p1,p2.right (Lr rfl rfl fun _=>rfl),Lp p3 hwf ?_ ?_,?_⟩
  ·unfold dM;rw [bU (mX _),hl1,hds,hes,hnl]
  ·intro us' hus;unfold dM;rw [hl1,hρ];exact g.vr E' w'.heap us' 0 hρ hus
  ·simp only [VR] at p4 ⊢;obtain⟨q1,a',cap',q2,q3,q4⟩:=p4;refine⟨q1,0+m,a',cap',?_,q2,q3,?_⟩
   ·rw [dD,hl1,hds,Nat.zero_add]
   ·rw [hes]; exact q4
 unfold Di at hb;split at hb
 ·rename_i id n t0;split at hb
  ·rename_i o hl;split at hb
   ·rename_i e00 t00 Ir ov;split at hb
    ·split at hb
     ·rename_i ht0;split at hb
      ·rename_i hty;split at hb
       ·rename_i hn;simp only [Option.some.injEq,Prod.mk.injEq] at hb;obtain⟨rfl,rfl,rfl⟩:=hb;have ht0:=Nat.eq_of_beq_eq_true ht0;have hty:=Nat.eq_of_beq_eq_true hty;have hn:=bW _ _ hn;subst ht0 hty hn;obtain⟨r2,_,aFX⟩:=r.yZ hl;simp only [VR] at hx;obtain⟨hid,k,a,cap,hk,rfl,hkc,hcap⟩:=hx;rw [dD] at hk;have hk:k=(dec (e00.den E.ρ)).l.length:=by omega
        have hx2:VR E w.heap (.slice id 0 k (.rest ie.size)) (.slice (some a) k cap):=by simp only [VR];exact⟨hid,a,cap,rfl,hkc,by rw [← hes]; exact hcap⟩
        have hcl:(dM E.ρ e00 t0 []).length=k*ie.size:=by unfold dM;rw [bU (mX _),hes,hk]
        have aGB:0 < m*ie.size:=Nat.mul_pos hm (by omega)
        have happ:Dj ie Ir m news (.slice id 0 k (.rest ie.size)) (H.put id (.cells (dM E.ρ e00 t0 []) Ir)) =
         some (.slice H.fresh 0 (k+m) (.rest ie.size),((H.put id (.cells (dM E.ρ e00 t0 []) Ir)).drop id).new (.cells (dM E.ρ e00 t0 []++news) Ir)):=by
         unfold Dj;simp only [if_true];rw [Hp.get_put,if_pos rfl];simp only;rw [if_neg (by rw [hcl,Nat.add_mul]; omega),if_pos ⟨by omega,trivial⟩];simp only [fE];unfold xJ;rw [if_pos (hbound k (by omega))];rfl
        obtain⟨y,w',E',p1,p2,p3,p4⟩:=J8 (t:=t) (t2:=t2) (ty:=ty) r2 hte ht ht2 hd2 hs0 hb0 hzl src hx2 happ;have hρ:=p2.ρ;have hl1:(dec (e1.den E'.ρ)).l=(dec (e00.den E.ρ)).l++ds:=by rw [hρ,g.l]
        have hwf:J9 (rowOf t0) (dec (e1.den E'.ρ)):=by
         refine⟨by rw [hρ]; exact g.wf,fun d hd=>?_,by rw [hl1]; intro q; have:=congrArg List.length q; simp at this; rw [this.2] at hds; simp at hds; omega⟩;rw [hl1] at hd;rcases List.mem_append.1 hd with hd | hd
         ·exact aFX.2.1 d hd
         ·exact g.rows d hd
        have aeI:dM E'.ρ e1 t0 []=dM E.ρ e00 t0 []++aK E.ρ (rowOf t0) [] ds (0+(dec (e00.den E.ρ)).l.length):=by unfold dM;rw [hl1,hρ,Bl]
        have hdrop: ∀j,(((H.put id (.cells (dM E.ρ e00 t0 []) Ir)).drop id).get j)=(H.drop id).get j:=by
         intro j;rw [Hp.yT,Hp.yT];split
         ·rfl
         ·rename_i hne;rw [Hp.get_put,if_neg hne]
        have al:Wu (((H.put id (.cells (dM E.ρ e00 t0 []) Ir)).drop id).new (.cells (dM E.ρ e00 t0 []++news) Ir)) ((H.drop id).new (.vec e1 t0 Ir [])):=
         Lr rfl rfl fun j=>by rw [hdrop]
        have p3':bF E' ((H.drop id).new (.cells (dM E.ρ e00 t0 []++news) Ir)) w':=by
         have hg:(((H.put id (.cells (dM E.ρ e00 t0 []) Ir)).drop id).new (.cells (dM E.ρ e00 t0 []++news) Ir)).get H.fresh=some (.cells (dM E.ρ e00 t0 []++news) Ir):=by rw [Hp.mG];exact if_pos rfl
         refine p3.swap hg (p3.live _ _ hg).2.1 (by rw [Hp.mG]; exact if_pos rfl) (fun j hj=>?_) ?_ ?_
         ·rw [Hp.mG,Hp.mG];show (if j=H.fresh then _ else _)=(if j=H.fresh then _ else _);rw [if_neg hj,if_neg hj,hdrop]
         ·unfold Hp.new;simp only [Hp.drop,Hp.put];split <;> rfl
         ·unfold Hp.new;simp only [Hp.drop,Hp.put];split <;> rfl
        refine⟨y,w',E',p1,(p2.left (Wu.put hl).symm).right al,Lp p3' hwf ?_ ?_,?_⟩
        ·rw [aeI,List.length_append,List.length_append,bU (mX _),hds,hes,hnl]
        ·intro us' hus;obtain⟨a1,a2,rfl,b1,b2⟩:=hus.split;rw [aeI];exact b1.append (g.vr E' w'.heap a2 _ hρ b2)
        ·simp only [VR] at p4 ⊢;obtain⟨q1,a',cap',q2,q3,q4⟩:=p4;refine⟨q1,k+m,a',cap',?_,q2,q3,?_⟩
         ·rw [dD,hl1,List.length_append,hds,hk]
         ·rw [hes]; exact q4
       ·simp at hb
      ·simp at hb
     ·simp at hb
    ·simp at hb
   ·simp at hb
  ·simp at hb
 ·split at hb
  ·simp only [Option.some.injEq,Prod.mk.injEq] at hb;obtain⟨rfl,rfl,rfl⟩:=hb;simp only [VR] at hx;exact fresh0 none hx rfl (by simp only [SE.den,aG,D.l])
  ·simp at hb
 ·split at hb
  ·simp only [Option.some.injEq,Prod.mk.injEq] at hb;obtain⟨rfl,rfl,rfl⟩:=hb;simp only [VR] at hx;obtain⟨x,hx⟩:=hx;exact fresh0 x hx rfl (by simp only [SE.den,aG,D.l])
  ·simp at hb
 ·split at hb
  ·simp only [Option.some.injEq,Prod.mk.injEq] at hb;obtain⟨rfl,rfl,rfl⟩:=hb;simp only [VR] at hx;obtain⟨⟨x,hx⟩,_⟩:=hx;exact fresh0 x hx rfl (by simp only [SE.den,aG,D.l])
  ·simp at hb
 ·split at hb
  ·split at hb
   ·split at hb
    ·split at hb
     ·simp only [Option.some.injEq,Prod.mk.injEq] at hb;obtain⟨rfl,rfl,rfl⟩:=hb;simp only [VR] at hx;obtain⟨_,a,cap,rfl,_,hc⟩:=hx;simp only [fP] at hc;obtain⟨rfl,_⟩:=hc;exact fresh0 (some a) rfl rfl (by simp only [SE.den,aG,D.l])
     ·simp at hb
    ·simp at hb
   ·simp at hb
  ·simp at hb
 ·simp at hb
end
end Go.As
end
section
namespace Go.As
section
variable {P:Program} {E:En} {w:World}
theorem Src.frz {E1:En} {s m:Nat} {news news':List AV} {u:Value} {us:Array Value} (src:Src P E w s m news u us) (h:bJ E1 w.heap news' us.toList):Src P E1 w s m news' u us:=
 ⟨src.len,src.first,h,src.size,src.ones⟩
theorem room_le {bytes n m:Nat} (hb0:bytes≠0) (hb4:bytes≤400) (hm:(m:Int) < roomOf bytes 1000000) (hn:n < 1000000):(n+m)*bytes≤140737488355328:=by
 have hm':(m:Int) < ((140737488355328 / bytes - 1000000:Nat):Int):=hm;have h1:m < 140737488355328 / bytes - 1000000:=by omega
 have h2:n+m≤140737488355328 / bytes:=by omega
 exact Nat.le_trans (Nat.mul_le_mul_right _ h2) (Nat.div_mul_le_self _ _)
theorem amD {bytes m:Nat} (hm:(m:Int) < roomOf bytes 0):(([]:List D).length+m)*bytes≤140737488355328:=by
 have hm':(m:Int) < ((140737488355328 / bytes - 0:Nat):Int):=hm;have h2:([]:List D).length+m≤140737488355328 / bytes:=by simp only [List.length_nil]; omega
 exact Nat.le_trans (Nat.mul_le_mul_right _ h2) (Nat.div_mul_le_self _ _)
theorem amC {bytes n m:Nat} (hn:(n:Int) < roomOf bytes (m+1)) {k:Nat} (hk:k=m+1):(n+k)*bytes≤140737488355328:=by
 have hn':(n:Int) < ((140737488355328 / bytes - (m+1):Nat):Int):=hn;have h2:n+k≤140737488355328 / bytes:=by omega
 exact Nat.le_trans (Nat.mul_le_mul_right _ h2) (Nat.div_mul_le_self _ _)
theorem Py {ρ:Nat→Int} {r:Row} {m:Nat} {e e1:SE} {news:List AV} (h:tY r e m news=some e1) (hw:dec (e.den ρ)=dL (dec (e.den ρ)).l): ∃ds,ds.length=m∧Grown ρ r e e1 ds news:=by obtain⟨ds,h1,h2,h3,h4,h5⟩:=C9 (ρ:=ρ) m h;exact⟨ds,h1,h2,h3 hw,h4,h5⟩
theorem afO [Glob] {H h0:Hp} (r:bF E H w) {e:Nat} {own:Option Nat} {x:AV} {e0:SE} {t:Nat} (h:Di e own x H=some (e0,t,h0)):dec (e0.den E.ρ)=dL (dec (e0.den E.ρ)).l:=by
 have hz:dec ((SE.dat (.i 0)).den E.ρ)=dL (dec ((SE.dat (.i 0)).den E.ρ)).l:=by simp only [SE.den,aG]; rfl
 unfold Di at h;split at h
 ·split at h
  ·rename_i o hl;split at h
   ·split at h
    ·split at h
     ·split at h
      ·split at h
       ·simp only [Option.some.injEq,Prod.mk.injEq] at h;obtain⟨rfl,_⟩:=h;exact (r.yZ hl).2.2.1
       ·simp at h
      ·simp at h
     ·simp at h
    ·simp at h
   ·simp at h
  ·simp at h
 ·split at h
  ·simp only [Option.some.injEq,Prod.mk.injEq] at h;obtain⟨rfl,_⟩:=h;exact hz
  ·simp at h
 ·split at h
  ·simp only [Option.some.injEq,Prod.mk.injEq] at h;obtain⟨rfl,_⟩:=h;exact hz
  ·simp at h
 ·split at h
  ·simp only [Option.some.injEq,Prod.mk.injEq] at h;obtain⟨rfl,_⟩:=h;exact hz
  ·simp at h
 ·split at h
  ·split at h
   ·split at h
    ·split at h
     ·simp only [Option.some.injEq,Prod.mk.injEq] at h;obtain⟨rfl,_⟩:=h;exact hz
     ·simp at h
    ·simp at h
   ·simp at h
  ·simp at h
 ·simp at h
theorem J7 [Glob] {t t2 ty:Nat} {ie:TI} {e:Nat} {d2:TypeDesc} {u u2:Value} {us:Array Value} {news:List AV} (hte:uZ P e ie) (ht:P.underlying t=some (.slice e)) (ht2:P.underlying t2=some d2) (hd2: ∀k,d2≠.int k)
 (src:Src P E w ie.size 0 news u2 us) (ho: ∃a n cap,u= .slice a n cap∧n≤cap):(Builtin.append_ #[t,t2] ty #[u,u2]).run P w= .ok u w:=by
 obtain⟨inf,d,z,h1,h2,h3,h4,h5,h6,h7,h8⟩:=hte.all;obtain⟨a,n,cap,rfl,hn⟩:=ho;have hus:us.toList= []:=List.eq_nil_of_length_eq_zero (by rw [Array.length_toList,src.size,Nat.zero_mul])
 have:=nH (t:=t) (t2:=t2) (ty:=ty) (n:=n) (cap:=cap) (a:=a) (w':=w) ht ht2 hd2 h1 h5 src (by omega) (by
  cases a with
  | none=>rfl
  | some a=>rw [hus]; rfl)
 exact this
theorem agT {x:AV} {u:Value} {H h0:Hp} {e t:Nat} {own:Option Nat} {e0:SE} (hx:VR E w.heap x u) (hb:Di e own x H=some (e0,t,h0)): ∃a n cap,u= .slice a n cap∧n≤cap:=by
 unfold Di at hb;split at hb
 ·simp only [VR] at hx;obtain⟨_,k,a,cap,_,rfl,hk,_⟩:=hx;exact⟨_,_,_,rfl,hk⟩
 ·simp only [VR] at hx;exact⟨none,0,0,hx,Nat.le_refl _⟩
 ·simp only [VR] at hx;obtain⟨x,hx⟩:=hx;exact⟨x,0,0,hx,Nat.le_refl _⟩
 ·simp only [VR] at hx;obtain⟨⟨x,hx⟩,_⟩:=hx;exact⟨x,0,0,hx,Nat.le_refl _⟩
 ·simp only [VR] at hx;obtain⟨_,a,cap,rfl,hk,_⟩:=hx;exact⟨_,_,_,rfl,hk⟩
 ·simp at hb
theorem XB {x:AV} {u:Value} {own:Option Nat} (hx:VR E w.heap x u) (hb:anV own x=true): ∃a n cap,u= .slice a n cap∧n≤cap:=by
 unfold anV at hb;split at hb
 ·simp only [VR] at hx;obtain⟨_,k,a,cap,_,rfl,hk,_⟩:=hx;exact⟨_,_,_,rfl,hk⟩
 ·simp only [VR] at hx;obtain⟨_,l,k,a,cap,_,_,rfl,hk,_⟩:=hx;exact⟨_,_,_,rfl,hk⟩
 ·simp only [VR] at hx;exact⟨none,0,0,hx,Nat.le_refl _⟩
 ·simp only [VR] at hx;obtain⟨x,hx⟩:=hx;exact⟨x,0,0,hx,Nat.le_refl _⟩
 ·simp only [VR] at hx;obtain⟨⟨x,hx⟩,_⟩:=hx;exact⟨x,0,0,hx,Nat.le_refl _⟩
 ·simp only [VR] at hx;obtain⟨_,a,cap,rfl,hk,_⟩:=hx;exact⟨_,_,_,rfl,hk⟩
 ·simp at hb
set_option maxHeartbeats 800000 in
theorem VL [Glob] {tt:TT} (htt:eP P tt) {s s':St} (r:bF E s.h w) (hp:bI E.ρ s.pc) {t t2 ty:Nat} {x y v:AV} {u u2:Value} (hx:VR E w.heap x u) (hy:VR E w.heap y u2) (hsl:azZ y=false→∃a n cap,u= .slice a n cap∧n≤cap) (h:(Jf tt t t2 x y s).leaf E.ρ=some (v,s')) :
 s'.slots=s.slots∧bI E.ρ s'.pc∧∃z w' E',(Builtin.append_ #[t,t2] ty #[u,u2]).run P w= .ok z w'∧Stp E s.h w E' s'.h w'∧bF E' s'.h w'∧VR E' w'.heap v z:=by
 unfold Jf at h;split at h
 ·rename_i ti hti;split at h
  ·rename_i e hk;split at h
   ·rename_i ie hie;split at h
    ·simp [T.leaf] at h
    ·rename_i ti2 aoD;obtain⟨d2,hd2,hk2⟩:=yR (htt t2 ti2 aoD);split at h
     ·simp [T.leaf] at h
     ·rename_i k2 hne
      have XK: ∀k,d2≠.int k:=by intro k hd;subst hd;cases hkk:ti2.kind <;> rw [hkk] at hk2 <;> simp only [Uj] at hk2;exact hne _ hkk
      split at h
      ·simp [T.leaf] at h
      ·rename_i hcond;simp only [not_or,Classical.not_not] at hcond;obtain⟨hs0,hb0,hzl,hb4⟩:=hcond;have hte:=htt e ie hie;have hu:=fQ (htt t ti hti) hk;split at h
       ·
        rename_i e2 ty2;split at h
        ·rename_i e0 t' h0 hb;split at h
         ·rename_i hc;obtain⟨hes,hrow⟩:=hc;obtain⟨pc1,hp1,h1⟩:=cO hp h;rw [qA,dD] at h1;simp only [VR] at hy;obtain⟨xa,cap2,hu2,_⟩:=hy.slice;split at h1
          ·rename_i hz;simp only [SE.den,beq_iff_eq] at hz;have:=aH h1;simp only [Prod.mk.injEq] at this;obtain⟨rfl,rfl⟩:=this;have hz':(dec (e2.den E.ρ)).l.length=0:=by omega
           rw [hz'] at hu2;subst hu2
           have src:Src P E w ie.size 0 [] (.slice xa 0 cap2) #[]:=⟨fun _=>rfl,fun w2 _=>by
            cases xa with
            | none=>simp [Builtin.firstCells]
            | some a=>simp only [Builtin.firstCells,Nat.zero_mul]; rfl,by simp [bJ],by simp,by simp⟩
           exact⟨rfl,hp1,u,w,E,J7 hte hu hd2 XK src (agT hx hb),Stp.refl _ _ _,r,hx⟩
          ·rename_i hz;simp only [SE.den,beq_eq_false_iff_ne,ne_eq] at hz;obtain⟨pc2,hp2,h2⟩:=cO (s:={ s with pc:=pc1 }) hp1 h1;split at h2
           ·rename_i t2';obtain⟨pc3,hp3,h3⟩:=cO (s:={ s with pc:=pc2 }) hp2 h2;split at h3
            ·rename_i t3;rw [dV,decide_eq_true_eq,dD] at t2' t3;simp only [SE.den] at t2' t3;have hne':(dec (e2.den E.ρ)).l≠[]:=by intro q; rw [q] at hz; simp at hz
             obtain⟨us,src⟩:=ayI (P:=P) (w:=w) hy hne';rw [hrow] at src;rw [hes] at src
             have hpos:0 < (dec (e2.den E.ρ)).l.length:=by
              rcases Nat.eq_zero_or_pos (dec (e2.den E.ρ)).l.length with q | q
              ·omega
              ·exact q
             have aB1:dec (e2.den E.ρ)=dL (dec (e2.den E.ρ)).l∧∀d∈(dec (e2.den E.ρ)).l,xB (rowOf ty2) d:=by
              have key: ∀{d:D} {v:Value},Rd E.ro w.heap (.sl ty2) d v→d.l≠[]→d=dL d.l∧∀x∈d.l,xB (rowOf ty2) x:=by
               intro d v hr hne
               have asU: ∀{c:CK} {d:D} {v:Value},Rd E.ro w.heap c d v→wI c d:=by
                intro c d v hr
                cases hr with
                | int k n=>rfl
                | bool b=>cases b <;> simp [wI]
                | str s=>trivial
                | nil t=>trivial
                | non t a cap=>trivial
                | one t c b o cap ds f hr hc hb h1 h2=>trivial
                | many t cs b o cap rows f hr hc hb hl h1 h2=>trivial
               generalize hc:CK.sl ty2=c at hr
               cases hr with
               | int k n=>simp at hc
               | bool b=>simp at hc
               | str s=>simp at hc
               | nil t=>exact absurd rfl hne
               | non t a cap=>exact absurd rfl hne
               | one t c b o cap ds f hr hcp hb h1 h2=> simp only [CK.sl.injEq] at hc;subst hc;refine⟨by rw [aT],fun x hx=>?_⟩;rw [aT] at hx;obtain⟨i,hi⟩:=List.mem_iff_getElem?.1 hx;rw [hr];exact asU (h2 i x hi)
               | many t cs b o cap rows f hr hcp hb hl h1 h2=> simp only [CK.sl.injEq] at hc;subst hc;refine⟨by rw [aT],fun x hx=>?_⟩;rw [aT,List.mem_map] at hx;obtain⟨row,hrm,rfl⟩:=hx;obtain⟨i,hi⟩:=List.mem_iff_getElem?.1 hrm;rw [hr];refine⟨by rw [aT],by rw [aT]; exact hl row hrm,fun j c y hj hy=>?_⟩;rw [aT] at hy;exact asU (h2 i row j y c hi hy hj)
              exact key hy hne'
             rw [hrow] at aB1
             have grown: ∀e1:SE,(dec (e1.den E.ρ)).l=(dec (e0.den E.ρ)).l++(dec (e2.den E.ρ)).l→dec (e1.den E.ρ)=dL (dec (e1.den E.ρ)).l→Grown E.ρ (rowOf t') e0 e1 (dec (e2.den E.ρ)).l (aK E.ρ (rowOf t') [] (dec (e2.den E.ρ)).l 0):=by
              intro e1 q1 q2;refine⟨q1,q2,aB1.2,fun E' h us j hρ hv=>?_⟩
              have:aK E.ρ (rowOf t') [] (dec (e2.den E.ρ)).l j=aK E.ρ (rowOf t') [] (dec (e2.den E.ρ)).l 0:=by
               generalize (dec (e2.den E.ρ)).l=L;clear hv q1 q2
               have gen: ∀(L:List D) (a b:Nat),aK E.ρ (rowOf t') [] L a=aK E.ρ (rowOf t') [] L b:=by
                intro L
                induction L with
                | nil=>intro a b; rfl
                | cons d L ih=>intro a b; simp only [aK,dQ]; rw [ih (a+1) (b+1)]
               exact gen L j 0
              rw [this];exact hv
             have hbw:=afO r hb;split at h3
             ·rename_i hnil
              have aEA:(dec (e0.den E.ρ)).l= []:=by
               unfold ZT at hnil;split at hnil
               ·split at hnil
                ·simp only [SE.den,aG,D.l]
                ·simp at hnil
               ·simp at hnil
              have:=aH h3;simp only [Prod.mk.injEq] at this;obtain⟨rfl,rfl⟩:=this;obtain⟨z,w',E',p1,p2,p3,p4⟩:=FH (t:=t) (t2:=t2) (ty:=ty) r hte hu hd2 XK hs0 hb0 hzl hb4 src hpos hx hb hes (grown e2 (by rw [aEA,List.nil_append]) aB1.1) rfl (by rw [aEA]; refine amD (bytes:=ie.bytes) ?_; have q:=t2'; unfold amE at q; rw [hnil] at q; exact q);exact⟨rfl,hp3,z,w',E',p1,p2,p3,p4⟩
             ·rename_i hnil;have:=aH h3;simp only [Prod.mk.injEq] at this;obtain⟨rfl,rfl⟩:=this;obtain⟨z,w',E',p1,p2,p3,p4⟩:=FH (t:=t) (t2:=t2) (ty:=ty) r hte hu hd2 XK hs0 hb0 hzl hb4 src hpos hx hb hes (grown (.op .cat e0 e2) (by simp only [SE.den,iO.den,aG,aT]) (by simp only [SE.den,iO.den,aG,aT])) rfl (room_le hb0 hb4 (by have q:=t2'; unfold amE at q; rw [hnil] at q; exact q) (by omega));exact⟨rfl,hp3,z,w',E',p1,p2,p3,p4⟩
            ·simp [T.leaf] at h3
           ·simp [T.leaf] at h2
         ·simp [T.leaf] at h
        ·simp [T.leaf] at h
       ·
        split at h
        ·rename_i m news hsrc;obtain⟨us,src⟩:=wO (P:=P) r hy hsrc;split at h
         ·have:=aH h;simp only [Prod.mk.injEq] at this;obtain⟨rfl,rfl⟩:=this
          exact⟨rfl,hp,u,w,E,J7 hte hu hd2 XK src (hsl (by
           cases y <;> first | rfl | (rename_i hnd _ _ _; exact absurd rfl (hnd _ _)) | (rename_i hnd; exact absurd rfl (hnd _ _)))),Stp.refl _ _ _,r,hx⟩
         ·rename_i m';obtain⟨news',h1,pcF,E1,hpF,f,hvs,h⟩:=yU rfl r hp h;split at h
          ·rename_i e0 t' h0 hb;split at h
           ·rename_i hc;obtain⟨hes,hm⟩:=hc;have hρ:=f.ρ;obtain⟨pc1,hp1,h2⟩:=cO (s:={ s with h:=h1,pc:=pcF }) hpF h;split at h2
            ·rename_i t3;rw [dV,decide_eq_true_eq,dD] at t3;simp only [SE.den] at t3;split at h2
             ·rename_i e1 hcr;have:=aH h2;simp only [Prod.mk.injEq] at this;obtain⟨rfl,rfl⟩:=this;obtain⟨ds,hds,g⟩:=Py (ρ:=E1.ρ) hcr (afO f.rel hb);obtain⟨z,w',E',p1,p2,p3,p4⟩:=FH (t:=t) (t2:=t2) (ty:=ty) f.rel hte hu hd2 XK hs0 hb0 hzl hb4 (src.frz (hvs _ src.vrs)) (by omega) (VR.keep (f.eG.keeps r) _ _ hx) hb hes g hds (amC (by rw [hρ]; exact t3) (by omega));exact⟨rfl,hp1,z,w',E',p1,f.eG.trans p2,p3,p4⟩
             ·simp [T.leaf] at h2
            ·simp [T.leaf] at h2
           ·simp [T.leaf] at h
          ·simp [T.leaf] at h
        ·simp [T.leaf] at h
   ·simp [T.leaf] at h
  ·simp [T.leaf] at h
 ·simp [T.leaf] at h
end
end Go.As
end
section
namespace Go.As
section
variable {P:Program} {E:En} {w:World}
theorem abO {h:Array Obj} {id t:Nat} {n:SE} {u:Value} (hv:VR E h (.vM id n t) u):VR E h (.Bo id (.lit 0) n t) u:=by simp only [VR] at hv ⊢;obtain⟨h1,k,a,cap,h2,h3,h4,h5⟩:=hv;exact⟨h1,0,k,a,cap,rfl,h2,h3,h4,by rw [Nat.zero_mul]; exact h5⟩
theorem Z7 {tt:TT} (htt:eP P tt) {s s':St} (hp:bI E.ρ s.pc) {ty t id:Nat} {lo n:SE} {ix v:AV} {u ui:Value} (hx:VR E w.heap (.Bo id lo n t) u) (hix:VR E w.heap ix ui) (h:(Vp tt s ty id t lo n ix).leaf E.ρ=some (v,s')) :
 s'.slots=s.slots∧s'.h=s.h∧bI E.ρ s'.pc∧∃r,(Instr.indexAt ty u ui).run P w= .ok r w∧VR E w.heap v r:=by
 unfold Vp at h;split at h
 ·rename_i kd i;split at h
  ·rename_i z hz;split at h
   ·rename_i hes;obtain⟨pc',hp',h1,h2,h3⟩:=sD hp h;have:=aH h3;simp only [Prod.mk.injEq] at this;obtain⟨rfl,rfl⟩:=this;refine⟨rfl,rfl,hp',?_⟩;simp only [VR] at hx hix;subst hix;obtain⟨hid,l,m,a,cap,hl,hn,rfl,hcap,hc⟩:=hx;obtain⟨el,ie,hu,hie,rfl⟩:=rV htt hz;obtain⟨k,hk⟩ : ∃k:Nat,i.den E.ρ=(k:Int):=⟨(i.den E.ρ).toNat,by omega⟩;have hlt:k < m:=by omega
    have ha:a=⟨(E.θ id).1,(E.θ id).2+l*ie.size,none⟩:=by
     simp only [fP] at hc;rcases hc with hc | hc
     ·rw [hes]; exact hc.1
     ·omega
    subst ha;refine⟨.pointer (some ⟨(E.θ id).1,(E.θ id).2+l*ie.size+k*ie.size,none⟩),?_,?_⟩
    ·rw [hk];simp [Instr.indexAt,asIntOf,run_underlying hu,dX (htt el ie hie),hlt,fK]
    ·simp only [VR];exact⟨hid,l+k,by rw [vJ,hl,hk]; rfl,by rw [Nat.add_zero,Nat.add_mul,Nat.add_assoc]⟩
   ·simp [T.leaf] at h
  ·simp [T.leaf] at h
 ·simp [T.leaf] at h
theorem anP {lo:Option AV} {lo':Option Value} {l:SE} {n:Nat} (h:loE lo=some l) (hlo:iZ E w.heap lo lo') (hn:l.den E.ρ=(n:Int)) :
 ∃lo2,iZ E w.heap lo2 lo'∧∀y,n≤y→bnd lo2 0 y=some n:=by
 unfold loE at h;split at h
 ·simp only [Option.some.injEq] at h;subst h;simp only [SE.den] at hn;have:n=0:=by omega
  subst this;exact⟨none,hlo,fun y _=>by simp [bnd]⟩
 ·split at h
  ·rename_i v k q;simp only [Option.some.injEq] at h;subst h;obtain⟨y,rfl,hy⟩:=hlo;refine⟨some (.int k (.lit (Int.ofNat n))),⟨y,rfl,?_⟩,fun y hy=>by simp [bnd,nC,hy]⟩;simp only [VR,SE.den] at hy ⊢;rw [hy,hn];rfl
  ·simp at h
theorem LC {k:IntKind} {q:SE} {n:Nat} {o:Option Value} (hq:q.den E.ρ=(n:Int)) (ho:iZ E w.heap (some (.int k q)) o):iZ E w.heap (some (.int k (.lit (Int.ofNat n)))) o:=by obtain⟨y,rfl,hy⟩:=ho;refine⟨y,rfl,?_⟩;simp only [VR,SE.den] at hy ⊢;rw [hy,hq];rfl
theorem LW {k:IntKind} {n d y:Nat} (hn:n≤y):bnd (some (.int k (.lit (Int.ofNat n)))) d y=some n:=by simp [bnd,nC,hn]
theorem OB [Glob] {tt:TT} (htt:eP P tt) {s s':St} (r:bF E s.h w) (hp:bI E.ρ s.pc) {ty id t:Nat} {lo0 n0:SE} {lo hi mx:Option AV} {lo' hi' mx':Option Value} {v:AV} {u:Value} (hx:VR E w.heap (.Bo id lo0 n0 t) u)
 (hlo:iZ E w.heap lo lo') (hhi:iZ E w.heap hi hi') (hmx:iZ E w.heap mx mx') (h:(LJ tt s ty id t lo0 n0 lo hi mx).leaf E.ρ=some (v,s')) :
 s'.slots=s.slots∧s'.h=s.h∧bI E.ρ s'.pc∧∃r,(Instr.sliceAt ty u lo' hi' mx').run P w= .ok r w∧VR E w.heap v r:=by
 unfold LJ at h;split at h
 ·simp [T.leaf] at h
 ·rename_i z hz;split at h
  ·rename_i hcond;obtain⟨hes,hz0⟩:=hcond;obtain⟨el,ie,hu,hie,rfl⟩:=rV htt hz;have hsz:=dX (htt el ie hie);simp only [VR] at hx;obtain⟨hid,l0,m0,a,cap,g1,g2,rfl,hcap,hc⟩:=hx
   have fin: ∀(l k:Nat) (e1 e2:SE),(Instr.sliceBounds true m0 cap lo' hi' none).run P w= .ok (l,k,cap) w→l≤k→k≤cap→e1.den E.ρ=(l:Int)→e2.den E.ρ=(k:Int)→
    ∃r,(Instr.sliceAt ty (.slice (some a) m0 cap) lo' hi' none).run P w= .ok r w∧VR E w.heap (.Bo id (zF lo0 e1) (MP e2 e1) t) r:=by
    intro l k e1 e2 hb hlk hk he1 he2;refine⟨.slice (some (if cap=l then a else a.add (l*ie.size))) (k - l) (cap - l),?_,?_⟩
    ·simp [Instr.sliceAt,run_underlying hu,Instr.slice,hb,hsz] <;> split <;> rfl
    ·simp only [VR];refine⟨hid,l0+l,k - l,_,_,by rw [vJ,g1,he1]; rfl,by rw [afX,he1,he2]; omega,rfl,by omega,?_⟩;rw [Nat.add_mul];have q:=wF (l:=l) (h:=k) (m:=cap) (es:=(rowOf t).es) hc hcap hlk hk (Nat.le_refl _) (.inr (.inr ⟨rfl,rfl,rfl⟩)) (rowOf t).es (fun _=>rfl);rw [hes];exact q
   split at h
   ·simp [T.leaf] at h
   ·rename_i ql hql;obtain⟨pc1,hp1,h1⟩:=cO hp h;split at h1
    ·simp [T.leaf] at h1
    ·rename_i t1;rw [dV,decide_eq_false_iff_not] at t1;simp only [SE.den,Int.not_lt] at t1;obtain⟨l,hl⟩ : ∃l:Nat,ql.den E.ρ=(l:Int):=⟨(ql.den E.ρ).toNat,by omega⟩;obtain⟨lo2,hlo2,hbl⟩:=anP hql hlo hl;split at h1
     ·
      simp only [iZ] at hhi;subst hhi;split at h1
      ·simp [T.leaf] at h1
      ·simp only [iZ] at hmx;subst hmx;obtain⟨pc2,hp2,h2⟩:=cO (s:={ s with pc:=pc1 }) hp1 h1;split at h2
       ·simp [T.leaf] at h2
       ·rename_i t2;have:=aH h2;simp only [Prod.mk.injEq] at this;obtain⟨rfl,rfl⟩:=this;rw [dV,decide_eq_false_iff_not] at t2;have hlm:l≤m0:=by omega
        obtain⟨e1,e2⟩:=iG (P:=P) (w:=w) (isSlice:=true) (len:=m0) (cap:=cap) (m0:=cap) (d:=0) (m:=cap) (h0:=cap) (h:=m0) (l:=l) hlo2 (hi:=none) (hi':=none) (by simp [iZ]) (mx:=none) (mx':=none) (by simp [iZ]) (by simp) (.inl ⟨rfl,rfl,Nat.le_refl _⟩) (by simp [bnd,hcap]) ⟨fun _=>Nat.le_refl _,by simp⟩ (hbl _ hlm);exact⟨rfl,rfl,hp2,fin l m0 _ _ e1 hlm hcap hl g2⟩
     ·rename_i hv;split at h1
      ·rename_i kh qh;obtain⟨pc2,hp2,h2⟩:=cO (s:={ s with pc:=pc1 }) hp1 h1;split at h2
       ·simp [T.leaf] at h2
       ·rename_i t2;rw [dV,decide_eq_false_iff_not] at t2;obtain⟨k,hk⟩ : ∃k:Nat,qh.den E.ρ=(k:Int):=⟨(qh.den E.ρ).toNat,by omega⟩;have hlk:l≤k:=by omega
        split at h2
        ·rename_i mv;split at h2
         ·rename_i km qm;obtain⟨pc3,hp3,h3⟩:=cO (s:={ s with pc:=pc2 }) hp2 h2;split at h3
          ·simp [T.leaf] at h3
          ·rename_i t3;obtain⟨pc4,hp4,h4⟩:=cO (s:={ s with pc:=pc3 }) hp3 h3;split at h4
           ·simp [T.leaf] at h4
           ·rename_i t4;have:=aH h4;simp only [Prod.mk.injEq] at this;obtain⟨rfl,rfl⟩:=this;rw [dV,decide_eq_false_iff_not] at t3 t4;obtain⟨m,hm⟩ : ∃m:Nat,qm.den E.ρ=(m:Int):=⟨(qm.den E.ρ).toNat,by omega⟩;obtain⟨e1,e2⟩:=iG (P:=P) (w:=w) (isSlice:=true) (len:=m0) (cap:=cap) (m0:=cap) (d:=0) (m:=m) (h0:=m) (h:=k) (l:=l) hlo2 (LC hk hhi) (LC hm hmx) (by simp) (.inr ⟨_,rfl,LW (by omega),Nat.le_refl _⟩) (LW (by omega)) ⟨by simp,fun _=>rfl⟩ (hbl _ hlk);refine⟨rfl,rfl,hp4,.slice (some (if m=l then a else a.add (l*ie.size))) (k - l) (m - l),?_,by simp only [VR]⟩;simp [Instr.sliceAt,run_underlying hu,Instr.slice,e1,hsz] <;> split <;> rfl
         ·simp [T.leaf] at h2
        ·simp only [iZ] at hmx;subst hmx
         have go:k≤cap→∃r,(Instr.sliceAt ty (.slice (some a) m0 cap) lo' hi' none).run P w= .ok r w∧VR E w.heap (.Bo id (zF lo0 ql) (MP qh ql) t) r:=by intro hkc;obtain⟨e1,e2⟩:=iG (P:=P) (w:=w) (isSlice:=true) (len:=m0) (cap:=cap) (m0:=cap) (d:=0) (m:=cap) (h0:=cap) (h:=k) (l:=l) hlo2 (LC hk hhi) (mx:=none) (mx':=none) (by simp [iZ]) (by simp) (.inl ⟨rfl,rfl,Nat.le_refl _⟩) (LW hkc) ⟨fun _=>Nat.le_refl _,by simp⟩ (hbl _ hlk);exact fin l k _ _ e1 hlk hkc hl hk
         obtain⟨pc3,hp3,h3⟩:=cO (s:={ s with pc:=pc2 }) hp2 h2;split at h3
         ·rename_i t3;have:=aH h3;simp only [Prod.mk.injEq] at this;obtain⟨rfl,rfl⟩:=this;rw [dV,decide_eq_false_iff_not] at t3;exact⟨rfl,rfl,hp3,go (by omega)⟩
         ·split at h3
          ·simp [T.leaf] at h3
          ·rename_i hz1;split at h3
           ·simp [T.leaf] at h3
           ·rename_i e Iq hva;obtain⟨pc4,hp4,h4⟩:=cO (s:={ s with pc:=pc3 }) hp3 h3;split at h4
            ·simp [T.leaf] at h4
            ·rename_i t4;have:=aH h4;simp only [Prod.mk.injEq] at this;obtain⟨rfl,rfl⟩:=this;rw [dV,decide_eq_false_iff_not,dD] at t4;refine⟨rfl,rfl,hp4,go ?_⟩;have hlv:=zK hva;obtain⟨ho,q0⟩:=OR.yZ.1 (r.live id _ hlv).2.1;have hlo0:=Oc hz1;subst hlo0;simp only [SE.den] at g1;have hl0:l0=0:=by omega
             subst hl0;simp only [OR] at q0;obtain⟨arr,lo1,hi1,us,q1,q2,q3,q4,q5,q6,q7⟩:=q0;unfold dM at q4;rw [bU ho.1] at q4;have hne:0 < (dec (e.den E.ρ)).l.length:=List.length_pos_iff.2 ho.2.2.2;have hpos:0 < (rowOf t).es:=by omega
             simp only [fP] at hc
             have hκ:(dec (e.den E.ρ)).l.length≤cap:=by
              rcases hc with hc | hc
              ·have:(dec (e.den E.ρ)).l.length*(rowOf t).es≤cap*(rowOf t).es:=by omega
               exact Nat.le_of_mul_le_mul_right this hpos
              ·have:=Nat.mul_pos hne hpos;omega
             omega
      ·simp [T.leaf] at h1
  ·simp [T.leaf] at h
theorem aaM [Glob] {tt:TT} (htt:eP P tt) {s s':St} (hp:bI E.ρ s.pc) {ty t:Nat} {z:SE} {lo hi mx:Option AV} {lo' hi' mx':Option Value} {v:AV} {u:Value} (hx:VR E w.heap (.Ik z t) u)
 (hlo:iZ E w.heap lo lo') (hhi:iZ E w.heap hi hi') (hmx:iZ E w.heap mx mx') (h:(VE tt s ty z t lo hi mx).leaf E.ρ=some (v,s')) :
 s'.slots=s.slots∧s'.h=s.h∧bI E.ρ s'.pc∧∃r,(Instr.sliceAt ty u lo' hi' mx').run P w= .ok r w∧VR E w.heap v r:=by
 unfold VE at h;split at h
 ·simp [T.leaf] at h
 ·simp only [iZ] at hmx;subst hmx;split at h
  ·simp [T.leaf] at h
  ·rename_i zz hz;obtain⟨el,ie,hu,hie,rfl⟩:=rV htt hz;have hsz:=dX (htt el ie hie);split at h
   ·rename_i Ij;split at h
    ·rename_i hbl;have:=aH h;simp only [Prod.mk.injEq] at this;obtain⟨rfl,rfl⟩:=this;have hx0:=hx;simp only [VR] at hx;obtain⟨⟨x,rfl⟩,hr⟩:=hx;obtain⟨e1,e2⟩:=iG (P:=P) (w:=w) (isSlice:=true) (len:=0) (cap:=0) (m0:=0) (d:=0) (m:=0) hlo hhi (mx:=none) (mx':=none) (by simp [iZ]) (by simp) (.inl ⟨rfl,rfl,Nat.le_refl _⟩) Ij ⟨fun _=>Nat.le_refl _,by simp⟩ hbl;refine⟨rfl,rfl,hp,.slice x 0 0,?_,hx0⟩;simp [Instr.sliceAt,run_underlying hu,Instr.slice,e1,hsz]
    ·simp [T.leaf] at h
   ·simp [T.leaf] at h
end
end Go.As
end
section
namespace Go.As
theorem Nb: ∀{B V:List AV},V.length=B.length→splice B 0 V=some V
 | [],[],_=>rfl
 | [],_ :: _,h=>by simp at h
 | _ :: _,[],h=>by simp at h
 | b :: B,v :: V,h=>by simp only [splice];rw [Nb (by simpa using h)]
theorem Zo {A B C V:List AV} (h:V.length=B.length):splice (A++(B++C)) A.length V=some (A++(V++C)):=by have:=zQ A (sS C (Nb h));rwa [Nat.add_zero] at this
theorem QO {α:Type}: ∀{a b:List α},jW a.length (a++b)=some a
 | [],b=>rfl
 | x :: a,b=>by simp only [List.length_cons,List.cons_append,jW,QO]
theorem nD {ρ:Nat→Int} {r:Row}: ∀(L:List D) (a b:Nat),aK ρ r [] L a=aK ρ r [] L b
 | [],_,_=>rfl
 | d :: L,a,b=>by simp only [aK,dQ]; rw [nD L (a+1) (b+1)]
theorem lS {ρ:Nat→Int} {r:Row}: ∀(A B:List D),aK ρ r [] (A++B) 0=aK ρ r [] A 0++aK ρ r [] B 0
 | [],B=>rfl
 | d :: A,B=>by simp only [List.cons_append,aK,dQ,List.append_assoc];rw [nD (A++B) 1 0,nD A 1 0,lS A B]
section
variable {P:Program} {E:En} {w:World}
theorem aiZ [Glob] {H:Hp} (r:bF E H w) {id t:Nat} {e0:SE} {Ir:TypeId} (hl:H.get id=some (.vec e0 t Ir [])) (hs0:(rowOf t).es≠0) {k cap:Nat} {a:Addr} (hc:fP E id 0 k a cap (.rest (rowOf t).es)) :
 a=⟨(E.θ id).1,(E.θ id).2,none⟩∧(dec (e0.den E.ρ)).l.length≤cap:=by
 obtain⟨ho,q0⟩:=OR.yZ.1 (r.live id _ hl).2.1;simp only [OR] at q0;obtain⟨arr,lo1,hi1,us,q1,q2,q3,q4,q5,q6,q7⟩:=q0;unfold dM at q4;rw [bU ho.1] at q4;have hne:0 < (dec (e0.den E.ρ)).l.length:=List.length_pos_iff.2 ho.2.2.2;have hpos:0 < (rowOf t).es:=by omega
 simp only [fP] at hc;rcases hc with hc | hc
 ·refine⟨by simpa using hc.1,?_⟩;have:(dec (e0.den E.ρ)).l.length*(rowOf t).es≤cap*(rowOf t).es:=by omega
  exact Nat.le_of_mul_le_mul_right this hpos
 ·have:=Nat.mul_pos hne hpos;omega
theorem L6 [Glob] {H:Hp} (r:bF E H w) {id t:Nat} {e0:SE} {Ir:TypeId} (hl:H.get id=some (.vec e0 t Ir [])) {n mm:Nat} (hle:n+mm≤(dec (e0.den E.ρ)).l.length) {ds:List D} (hds:ds.length=mm) (hwf: ∀d∈ds,xB (rowOf t) d)
 {us:List Value} (hv:bJ E w.heap (aK E.ρ (rowOf t) [] ds 0) us) (h1: ∀u∈us,u.oneCell'=true) {e1:SE} (he1:dec (e1.den E.ρ)=dL ((dec (e0.den E.ρ)).l.take n++ds++(dec (e0.den E.ρ)).l.drop (n+mm))) :
 ∃w',(storeCells ⟨(E.θ id).1,(E.θ id).2+n*(rowOf t).es,none⟩ us).run P w= .ok () w'∧Stp E H w E (H.put id (.vec e1 t Ir [])) w'∧bF E (H.put id (.vec e1 t Ir [])) w':=by
 obtain⟨rc,ho,hw⟩:=r.yZ hl;generalize hL:(dec (e0.den E.ρ)).l=L at *
 have hsp:L=L.take n++((L.drop n).take mm++L.drop (n+mm)):=by
  conv=>lhs; rw [← List.take_append_drop n L]
  congr 1
  conv=>lhs; rw [← List.take_append_drop mm (L.drop n)]
  rw [List.drop_drop]
 have hc:dM E.ρ e0 t []=aK E.ρ (rowOf t) [] (L.take n) 0++(aK E.ρ (rowOf t) [] ((L.drop n).take mm) 0++aK E.ρ (rowOf t) [] (L.drop (n+mm)) 0):=by
  unfold dM;rw [hL]
  conv=>lhs; rw [hsp]
  rw [lS,lS]
 have hlA:(aK E.ρ (rowOf t) [] (L.take n) 0).length=n*(rowOf t).es:=by rw [bU (mX _),List.length_take];congr 1;omega
 have hsl:splice (dM E.ρ e0 t []) (n*(rowOf t).es) (aK E.ρ (rowOf t) [] ds 0)=some (dM E.ρ e1 t []):=by
  have:dM E.ρ e1 t []=aK E.ρ (rowOf t) [] (L.take n) 0++(aK E.ρ (rowOf t) [] ds 0++aK E.ρ (rowOf t) [] (L.drop (n+mm)) 0):=by unfold dM;rw [he1,aT,lS,lS,List.append_assoc]
  rw [this,hc,← hlA];refine Zo ?_;rw [bU (mX _),bU (mX _),List.length_take,List.length_drop,hds];congr 1;omega
 obtain⟨w',g1,g2,g3⟩:=pI (P:=P) rc (by rw [Hp.get_put,if_pos rfl]) hsl hv h1;have al1:Wu (H.put id (.cells (dM E.ρ e0 t []) Ir)) H:=(Wu.put hl).symm
 have al2:Wu ((H.put id (.cells (dM E.ρ e0 t []) Ir)).put id (.cells (dM E.ρ e1 t []) Ir)) (H.put id (.vec e1 t Ir [])):=by
  refine⟨fun j y hj=>?_,fun j y hj=>?_,rfl,rfl⟩
  ·rw [Hp.get_put];split
   ·exact⟨_,rfl⟩
   ·rename_i hne;rw [Hp.get_put,if_neg hne,Hp.get_put,if_neg hne] at hj;exact⟨y,hj⟩
  ·rw [Hp.get_put] at hj ⊢;split
   ·exact⟨_,rfl⟩
   ·rename_i hne;rw [if_neg hne] at hj;rw [Hp.get_put,if_neg hne];exact⟨y,hj⟩
 have hcells:=(g3.live id _ (by rw [Hp.get_put,if_pos rfl])).2.1
 have hor:OR E w'.heap id (.vec e1 t Ir []):=by
  refine OR.yZ.2 ⟨⟨mX _,?_⟩,hcells⟩;rw [he1];refine⟨by rw [aT],?_,?_⟩
  ·rw [aT];intro d hd;rcases List.mem_append.1 hd with hd | hd
   ·rcases List.mem_append.1 hd with hd | hd
    ·exact hw.2.1 d (by rw [hL]; exact List.mem_of_mem_take hd)
    ·exact hwf d hd
   ·exact hw.2.1 d (by rw [hL]; exact List.mem_of_mem_drop hd)
  ·rw [aT];intro q;have:=congrArg List.length q;simp only [List.length_append,List.length_take,List.length_drop,List.length_nil,hds] at this;have hne:=List.length_pos_iff.2 hw.2.2;rw [hL] at hne;omega
 refine⟨w',g1,(g2.left al1).right al2,?_⟩;exact g3.swap (id:=id) (by rw [Hp.get_put,if_pos rfl]) hor (by rw [Hp.get_put,if_pos rfl]) (fun j hj=>by rw [Hp.get_put,if_neg hj,Hp.get_put,if_neg hj,Hp.get_put,if_neg hj]) rfl rfl
theorem Yz [Glob] {s s':St} (r:bF E s.h w) (hp:bI E.ρ s.pc) {id t t1 t2 ty e:Nat} {e0 n1 m sd lo:SE} {Ir:TypeId} {ie:TI} {d2:TypeDesc} (hte:uZ P e ie) (ht:P.underlying t1=some (.slice e)) (ht2:P.underlying t2=some d2) (hd2: ∀k,d2≠.int k)
 (hes:(rowOf t).es=ie.size) (hs0:ie.size≠0) (hl:s.h.get id=some (.vec e0 t Ir [])) (hlo:isZ lo=true) {u u2:Value} {us:Array Value} {ds:List D} (hx:VR E w.heap (.Bo id lo n1 t) u) {mm:Nat} (hm:m.den E.ρ=(mm:Int))
 (hds:ds.length=mm) (hsd:(dec (sd.den E.ρ)).l=ds) (hwf: ∀d∈ds,xB (rowOf t) d) {news:List AV} (src:Src P E w ie.size mm news u2 us) (hv:bJ E w.heap (aK E.ρ (rowOf t) [] ds 0) us.toList) {v:AV} (h:(afQ id t Ir e0 n1 m sd s).leaf E.ρ=some (v,s')) :
 s'.slots=s.slots∧bI E.ρ s'.pc∧∃z w' E',(Builtin.append_ #[t1,t2] ty #[u,u2]).run P w= .ok z w'∧Stp E s.h w E' s'.h w'∧bF E' s'.h w'∧VR E' w'.heap v z:=by
 unfold afQ at h;obtain⟨pc',hp',g1,g2,g3,g4⟩:=IL hp h;have:=aH g4;simp only [Prod.mk.injEq] at this;obtain⟨rfl,rfl⟩:=this;have hlo:=Oc hlo;subst hlo;have hx0:=hx;simp only [VR] at hx;obtain⟨hid,l0,k,a,cap,q1,q2,rfl,q4,q5⟩:=hx;simp only [SE.den] at q1;have hl0:l0=0:=by omega
 subst hl0;rw [Nat.zero_mul] at q5;obtain⟨rfl,hroom⟩:=aiZ r hl (by rw [hes]; exact hs0) q5;have hle:k+mm≤(dec (e0.den E.ρ)).l.length:=by omega
 obtain⟨inf,d,z,h1,h2,h3,h4,h5,h6,h7,h8⟩:=hte.all
 obtain⟨w',f1,f2,f3⟩:=L6 (P:=P) r hl (n:=k) hle hds hwf hv src.ones (e1:=.op .cat (.op .cat (.op .take e0 n1) sd) (.op .drop e0 (zF n1 m))) (by
  have hn:((k:Int)+(mm:Int)).toNat=k+mm:=by omega
  simp only [SE.den,iO.den,aG,aT,vJ,gJ,q2,hm,hn,hsd,Int.toNat_natCast])
 refine⟨rfl,hp',.slice (some ⟨(E.θ id).1,(E.θ id).2,none⟩) (k+mm) cap,w',E,?_,f2,f3,?_⟩
 ·exact nH (s:=ie.size) ht ht2 hd2 h1 h5 src (by omega) (by simp only [fK]; rw [← hes]; exact f1)
 ·simp only [VR];refine⟨hid,0,k+mm,_,_,rfl,by rw [vJ,q2,hm]; rfl,rfl,by omega,?_⟩;rw [Nat.zero_mul];simp only [fP] at q5 ⊢;rcases q5 with q5 | q5
  ·exact .inl q5
  ·have hne:=List.length_pos_iff.2 (OR.yZ.1 (r.live id _ hl).2.1).1.2.2.2;omega
theorem X7 [Glob] {tt:TT} (htt:eP P tt) {s s':St} (r:bF E s.h w) (hp:bI E.ρ s.pc) {t t2 ty id t':Nat} {lo n1:SE} {y v:AV} {u u2:Value} (hlo:isZ lo=true) (hx:VR E w.heap (.Bo id lo n1 t') u) (hy:VR E w.heap y u2) (h:(OT tt t t2 id n1 t' y s).leaf E.ρ=some (v,s')) :
 s'.slots=s.slots∧bI E.ρ s'.pc∧∃z w' E',(Builtin.append_ #[t,t2] ty #[u,u2]).run P w= .ok z w'∧Stp E s.h w E' s'.h w'∧bF E' s'.h w'∧VR E' w'.heap v z:=by
 unfold OT at h;split at h
 ·rename_i ti hti;split at h
  ·rename_i e hk;split at h
   ·rename_i ie hie;split at h
    ·simp [T.leaf] at h
    ·rename_i ti2 aoD;obtain⟨d2,hd2,hk2⟩:=yR (htt t2 ti2 aoD);split at h
     ·simp [T.leaf] at h
     ·rename_i k2 hne
      have XK: ∀k,d2≠.int k:=by intro k hd;subst hd;cases hkk:ti2.kind <;> rw [hkk] at hk2 <;> simp only [Uj] at hk2;exact hne _ hkk
      split at h
      ·simp [T.leaf] at h
      ·rename_i hcond;simp only [not_or,Classical.not_not] at hcond;obtain⟨hs0,hb0,hzl,hes⟩:=hcond;have hte:=htt e ie hie;have hu:=fQ (htt t ti hti) hk;split at h
       ·simp [T.leaf] at h
       ·rename_i e0 Ir hva;have hl:=zK hva;split at h
        ·rename_i id2 lo2 n2 t2';split at h
         ·rename_i hi2;split at h
          ·rename_i ht2;have hi2:=Nat.eq_of_beq_eq_true hi2;have ht2:=Nat.eq_of_beq_eq_true ht2;subst hi2 ht2;obtain⟨pc1,hp1,g1,g2,g3,g4⟩:=IL hp h;have hy0:=hy;simp only [VR] at hy;obtain⟨hid,l,k,a,cap,q1,q2,rfl,q4,q5⟩:=hy;obtain⟨rc,ho,hw⟩:=r.yZ hl;generalize hL:(dec (e0.den E.ρ)).l=L at *;have hlk:l+k≤L.length:=by omega
           have hsp:L=L.take l++((L.take (l+k)).drop l++L.drop (l+k)):=by
            conv=>lhs; rw [← List.take_append_drop (l+k) L]
            conv=>lhs; rw [← List.take_append_drop l (L.take (l+k))]
            rw [List.take_take,List.append_assoc];congr 2;omega
           have hcc:dM E.ρ e0 t2' []=aK E.ρ (rowOf t2') [] (L.take l) 0++(aK E.ρ (rowOf t2') [] ((L.take (l+k)).drop l) 0++aK E.ρ (rowOf t2') [] (L.drop (l+k)) 0):=by
            unfold dM;rw [hL]
            conv=>lhs; rw [hsp]
            rw [lS,lS]
           have hlA:(aK E.ρ (rowOf t2') [] (L.take l) 0).length=l*(rowOf t2').es:=by rw [bU (mX _),List.length_take];congr 1;omega
           have hlen:((L.take (l+k)).drop l).length=k:=by rw [List.length_drop,List.length_take]; omega
           have hlB:(aK E.ρ (rowOf t2') [] ((L.take (l+k)).drop l) 0).length=k*(rowOf t2').es:=by rw [bU (mX _),hlen]
           have hy1:VR E w.heap (.slice id2 (l*(rowOf t2').es) k (.rest (rowOf t2').es)) (.slice (some a) k cap):=by simp only [VR];exact⟨hid,a,cap,rfl,q4,q5⟩
           obtain⟨us,src⟩:=wO (P:=P) rc hy1 (s:=ie.size) (m:=k) (news:=aK E.ρ (rowOf t2') [] ((L.take (l+k)).drop l) 0) (by
            simp only [xZ,qR,Hp.get_put,if_true];rw [hcc,← hlA,AO];simp only;rw [← hes,← hlB,QO]
            rfl)
           refine Yz (s:={ s with pc:=pc1 }) r hp1 hte hu hd2 XK hes hs0 hl hlo hx q2 hlen (by rw [NI q1 q2,gJ,hL]) (fun d hd=>hw.2.1 d ?_) src src.vrs g4;rw [hL];exact List.mem_of_mem_take (List.mem_of_mem_drop hd)
          ·simp [T.leaf] at h
         ·simp [T.leaf] at h
        ·split at h
         ·simp [T.leaf] at h
         ·rename_i m news hsrc;obtain⟨us,src⟩:=wO (P:=P) r hy hsrc;split at h
          ·simp [T.leaf] at h
          ·rename_i m';split at h
           ·split at h
            ·rename_i sd hcr;obtain⟨ds,c1,c2,c3,c4,c5⟩:=C9 (ρ:=E.ρ) _ hcr;simp only [SE.den,aG,D.l,List.nil_append] at c2;exact Yz r hp hte hu hd2 XK hes hs0 hl hlo hx (mm:=m'+1) (by simp only [SE.den]; rfl) c1 c2 c4 src (c5 E w.heap _ 0 rfl src.vrs) h
            ·simp [T.leaf] at h
           ·simp [T.leaf] at h
   ·simp [T.leaf] at h
  ·simp [T.leaf] at h
 ·simp [T.leaf] at h
theorem JX [Glob] {tt:TT} (htt:eP P tt) {s s':St} (r:bF E s.h w) (hp:bI E.ρ s.pc) {t ty id t':Nat} {lo n:SE} {v:AV} {u:Value} (hx:VR E w.heap (.Bo id lo n t') u) (h:(Ho tt t id lo n t' s).leaf E.ρ=some (v,s')) :
 s'.slots=s.slots∧bI E.ρ s'.pc∧v=AV.undef∧∃w' E',(Builtin.clear_ #[t] ty #[u]).run P w= .ok (.tuple #[]) w'∧Stp E s.h w E' s'.h w'∧bF E' s'.h w':=by
 unfold Ho at h;split at h
 ·rename_i ti hti;split at h
  ·rename_i e hk;have hu:=fQ (htt t ti hti) hk;split at h
   ·rename_i ie hie;obtain⟨inf,d,z,h1,h2,h3,h4,h5,h6,h7,h8⟩:=(htt e ie hie).all;have hz:=fD (E:=E) (h:=w.heap) h4;split at h
    ·rename_i hcond;obtain⟨hes,hs0⟩:=hcond;split at h
     ·simp [T.leaf] at h
     ·rename_i e0 Iq hva;have hl:=zK hva;split at h
      ·simp [T.leaf] at h
      ·rename_i zz hzz;obtain⟨pc1,hp1,g1⟩:=cO hp h;split at g1
       ·simp [T.leaf] at g1
       ·rename_i t1;obtain⟨pc2,hp2,g2⟩:=cO (s:={ s with pc:=pc1 }) hp1 g1;split at g2
        ·simp [T.leaf] at g2
        ·rename_i t2;obtain⟨pc3,hp3,g3⟩:=cO (s:={ s with pc:=pc2 }) hp2 g2;split at g3
         ·simp [T.leaf] at g3
         ·rename_i t3;have:=aH g3;simp only [Prod.mk.injEq] at this;obtain⟨rfl,rfl⟩:=this;rw [dV,decide_eq_false_iff_not] at t1 t2;rw [lV,beq_iff_eq,vJ,dD] at t3;simp only [VR] at hx;obtain⟨hid,l,k,a,cap,q1,q2,rfl,q4,q5⟩:=hx;have hlk:l+k=(dec (e0.den E.ρ)).l.length:=by omega
          have hn0:(dec (e0.den E.ρ)).l.length - l=k:=by omega
          have hwz:=A8 (ρ:=E.ρ) hzz;have hrz:Eu E.ro w.heap (rowOf t') (dec (zz.den E.ρ)) z.cells.toList:=Ba hz.1 hzz
          have aFW:bJ E w.heap (jD (rowOf t') (.dat (dec (zz.den E.ρ)))) z.cells.toList:=by rw [gZ];simp only [SE.den,aG];exact hrz
          have hrep: ∀m:Nat,aK E.ρ (rowOf t') [] (List.replicate m (dec (zz.den E.ρ))) 0=repeatL (jD (rowOf t') (.dat (dec (zz.den E.ρ)))) m:=by
           intro m
           induction m with
           | zero=>rfl
           | succ m ih=> simp only [List.replicate_succ,aK,dQ,repeatL];rw [nD _ 1 0,ih]
          have hv:bJ E w.heap (aK E.ρ (rowOf t') [] (List.replicate k (dec (zz.den E.ρ))) 0) (repeatL z.cells.toList k):=by rw [hrep];exact qC aFW k
          obtain⟨w',f1,f2,f3⟩:=L6 (P:=P) r hl (n:=l) (mm:=k) (by omega) (List.length_replicate) (fun d hd=>by rw [List.eq_of_mem_replicate hd]; exact hwz) hv (fun u hu=>hz.2 u (qB hu)) (e1:=.op .fill e0 (gX (Iz lo) zz)) (by
           simp only [gX,SE.den,iO.den,aG,oV,D.n,q1,Int.toNat_natCast,hn0,hlk]
           rw [List.drop_length,List.append_nil])
          refine⟨rfl,hp3,rfl,w',E,?_,f2,f3⟩;rcases Nat.eq_zero_or_pos k with hk0 | hk0
          ·subst hk0;simp only [repeatL] at f1
           have:w'=w:=by simp [storeCells] at f1;exact f1.symm
           subst this;simp [Builtin.clear_,run_underlying hu]
          ·have ha:a=⟨(E.θ id).1,(E.θ id).2+l*(rowOf t').es,none⟩:=by
            simp only [fP] at q5;rcases q5 with q5 | q5
            ·exact q5.1
            ·omega
           have aB0:z.cells.toList≠[]:=by intro hx;have:=Eu.length hrz;rw [hx] at this;simp at this;omega
           have hzc:(Builtin.zeroCells z.cells k).toList=repeatL z.cells.toList k:=BF z.cells aB0 k;subst ha;obtain⟨j,rfl⟩ : ∃j,k=j+1:=⟨k - 1,by omega⟩;simp [Builtin.clear_,run_underlying hu,zeroValue,typeInfo,h1,h3,hzc,f1]
    ·simp [T.leaf] at h
   ·simp [T.leaf] at h
  ·simp [T.leaf] at h
 ·simp [T.leaf] at h
end
end Go.As
end
section
namespace Go.As
theorem qF (l:List Nat):(oG l).l.length=l.length:=by simp [oG]
theorem aiE {a b:List Nat} (h:oG a=oG b):a=b:=by
 have:=Po h
 induction a generalizing b with
 | nil=>cases b with
   | nil=>rfl
   | cons y b=>simp at this
 | cons x a ih=>cases b with
   | nil=>simp at this
   | cons y b=> simp only [List.map_cons,List.cons.injEq,D.i.injEq,Int.ofNat_eq_natCast,Int.ofNat_inj] at this;rw [this.1,ih (b:=b) (by unfold oG; exact congrArg dL (by simpa using this.2)) (by simpa using this.2)]
theorem Pn: ∀(x y:List Nat),Yj (x.map fun b=>D.i (Int.ofNat b)) (y.map fun b=>D.i (Int.ofNat b))=bytesLess x y
 | [],[]=>rfl
 | [],_ :: _=>rfl
 | _ :: _,[]=>rfl
 | a :: x,b :: y=>by
   simp only [List.map_cons,Yj,bytesLess,D.n,Pn x y];have i1:(Int.ofNat a < Int.ofNat b)=(a < b):=propext Int.ofNat_lt;have i2:(Int.ofNat b < Int.ofNat a)=(b < a):=propext Int.ofNat_lt;simp only [i1,i2];rcases Nat.lt_trichotomy a b with h | h | h
   ·have h1:a.blt b=true:=by simp [Nat.blt]; omega
    simp [h,h1]
   ·subst h;have h1:a.blt a=false:=by rw [Bool.eq_false_iff]; simp [Nat.blt]
    simp [h1]
   ·have h2:a.blt b=false:=by rw [Bool.eq_false_iff]; simp [Nat.blt]; omega
    have h3:a.beq b=false:=by rw [Bool.eq_false_iff]; simp; omega
    have h4: ¬a < b:=by omega
    simp [h,h2,h3,h4]
section
variable {P:Program} {E:En} {w:World}
theorem VR.avW {h:Array Obj} {e:SE} {v:Value} (hv:VR E h (.mD e) v): ∃l:List Nat,v= .string (bY l)∧(∀b∈l,b < 256)∧dec (e.den E.ρ)=oG l:=by
 simp only [VR] at hv;obtain⟨s,rfl,hs⟩:=hv.string;refine⟨bytesOf s,by rw [nJ],FC s,?_⟩;rw [hs,Hr _ (FC s)]
 conv=>lhs; rw [← nJ s]
 simp [AY,bY]
theorem VR.amW {h:Array Obj} {e:SE} {l:List Nat} (hl: ∀b∈l,b < 256) (he:dec (e.den E.ρ)=oG l):VR E h (.mD e) (.string (bY l)):=by simp only [VR];rw [he,Hr _ hl];have:=Rd.str (ro:=E.ro) (h:=h) (bY l);simpa [AY,bY] using this
theorem MQ {h:Array Obj} {x:AV} {u:Value} {e:SE} (hx:VR E h x u) (hs:Bg x=some e): ∃l:List Nat,u= .string (bY l)∧(∀b∈l,b < 256)∧dec (e.den E.ρ)=oG l:=by
 unfold Bg at hs;split at hs
 ·simp only [Option.some.injEq] at hs;subst hs;simp only [VR] at hx;exact⟨_,hx.1,hx.2,by simp only [SE.den,aG]⟩
 ·simp only [Option.some.injEq] at hs;subst hs;exact hx.avW
 ·simp at hs
theorem aaA {tt:TT} (htt:eP P tt) {s s':St} (hp:bI E.ρ s.pc) {ty:Nat} {e:SE} {ix v:AV} {u ui:Value} (hx:VR E w.heap (.mD e) u) (hix:VR E w.heap ix ui) (h:(Vs tt s ty e ix).leaf E.ρ=some (v,s')) :
 s'.slots=s.slots∧s'.h=s.h∧bI E.ρ s'.pc∧∃r,(Instr.index ty u ui).run P w= .ok r w∧VR E w.heap v r:=by
 unfold Vs at h;split at h
 ·rename_i kd i;split at h
  ·rename_i ti hti;split at h
   ·rename_i hk;obtain⟨pc',hp',h1,h2,h3⟩:=sD hp h;have:=aH h3;simp only [Prod.mk.injEq] at this;obtain⟨rfl,rfl⟩:=this;refine⟨rfl,rfl,hp',?_⟩;obtain⟨l,rfl,hb,hd⟩:=hx.avW;simp only [VR] at hix;subst hix;rw [dD,hd,qF] at h2;obtain⟨k,hk2⟩ : ∃k:Nat,i.den E.ρ=(k:Int):=⟨(i.den E.ρ).toNat,by omega⟩;have hlt:k < l.length:=by omega
    have hg:(bY l)[k]?=some (UInt8.ofNat l[k]):=by rw [MV,List.getElem?_eq_getElem hlt]; rfl
    have h256:=hb l[k] (List.getElem_mem hlt);rw [hk2];refine⟨_,by simp [Instr.index,asIntOf,run_underlying (gW (htt ty ti hti) hk),hg]; rfl,?_⟩
    have hdk:(dec (e.den E.ρ)).l[k]?=some (.i (Int.ofNat l[k])):=by rw [hd];simp only [oG,aT,List.getElem?_map,List.getElem?_eq_getElem hlt,Option.map_some]
    simp only [VR,Iy,Jl E.ρ e i hk2 hdk,D.n];congr 1;simp;omega
   ·simp [T.leaf] at h
  ·simp [T.leaf] at h
 ·simp [T.leaf] at h
theorem Z9 {tt:TT} (htt:eP P tt) {s s':St} (hp:bI E.ρ s.pc) {ty:Nat} {e:SE} {lo hi mx:Option AV} {lo' hi' mx':Option Value} {v:AV} {u:Value} (hx:VR E w.heap (.mD e) u)
 (hlo:iZ E w.heap lo lo') (hhi:iZ E w.heap hi hi') (hmx:iZ E w.heap mx mx') (h:(Vr tt s ty e lo hi mx).leaf E.ρ=some (v,s')) :
 s'.slots=s.slots∧s'.h=s.h∧bI E.ρ s'.pc∧∃r,(Instr.sliceAt ty u lo' hi' mx').run P w= .ok r w∧VR E w.heap v r:=by
 unfold Vr at h;split at h
 ·simp [T.leaf] at h
 ·simp only [iZ] at hmx;subst hmx;split at h
  ·simp [T.leaf] at h
  ·rename_i ti hti;split at h
   ·rename_i hk;have hu:=gW (htt ty ti hti) hk;split at h
    ·simp [T.leaf] at h
    ·rename_i ql hql;split at h
     ·simp [T.leaf] at h
     ·rename_i qh hqh;obtain⟨pc1,hp1,h1⟩:=cO hp h;split at h1
      ·simp [T.leaf] at h1
      ·rename_i t1;obtain⟨pc2,hp2,h2⟩:=cO (s:={ s with pc:=pc1 }) hp1 h1;split at h2
       ·simp [T.leaf] at h2
       ·rename_i t2;obtain⟨pc3,hp3,h3⟩:=cO (s:={ s with pc:=pc2 }) hp2 h2;split at h3
        ·simp [T.leaf] at h3
        ·rename_i t3;have:=aH h3;simp only [Prod.mk.injEq] at this;obtain⟨rfl,rfl⟩:=this;refine⟨rfl,rfl,hp3,?_⟩;obtain⟨l,rfl,hb,hd⟩:=hx.avW;rw [dV,decide_eq_false_iff_not] at t1 t2 t3;rw [dD,hd,qF] at t3;simp only [SE.den,Int.not_lt] at t1;obtain⟨a,ha⟩ : ∃a:Nat,ql.den E.ρ=(a:Int):=⟨(ql.den E.ρ).toNat,by omega⟩;obtain⟨b,hbb⟩ : ∃b:Nat,qh.den E.ρ=(b:Int):=⟨(qh.den E.ρ).toNat,by omega⟩;have hle:b≤l.length:=by omega
         have hab:a≤b:=by omega
         obtain⟨lo2,hlo2,hbl⟩:=anP hql hlo ha
         have hhi2: ∃hi2,iZ E w.heap hi2 hi'∧bnd hi2 l.length l.length=some b:=by
          unfold hiE at hqh;split at hqh
          ·simp only [Option.some.injEq] at hqh;subst hqh;rw [dD,hd,qF] at hbb;have:b=l.length:=by omega
           subst this;exact⟨none,hhi,by simp [bnd]⟩
          ·split at hqh
           ·simp only [Option.some.injEq] at hqh;subst hqh;exact⟨_,LC hbb hhi,LW hle⟩
           ·simp at hqh
         obtain⟨hi2,hhi2,Ij⟩:=hhi2;obtain⟨e1,e2⟩:=iG (P:=P) (w:=w) (isSlice:=false) (len:=l.length) (cap:=l.length) (m0:=l.length) (d:=0) hlo2 hhi2 (mx:=none) (mx':=none) rfl (by simp) (.inl ⟨rfl,rfl,Nat.le_refl _⟩) Ij ⟨fun _=>Nat.le_refl _,by simp⟩ (hbl b hab);refine⟨.string ((bY l).extract a b),?_,?_⟩
         ·rw [← nI] at e1;simp [Instr.sliceAt,run_underlying hu,Instr.slice,e1]
         ·rw [zM];refine VR.amW (fun c hc=>hb c (List.mem_of_mem_take (List.mem_of_mem_drop hc))) ?_;simp only [gX,SE.den,iO.den,aG,oV,D.hd,D.l,List.getElem?_cons_zero,List.getElem?_cons_succ,Option.getD_some,D.n,ha,hbb,Int.toNat_natCast,hd];simp only [oG,aT,List.map_take,List.map_drop]
   ·simp [T.leaf] at h
theorem UE {x y:AV} {a b:SE} (h:KP x y=some (a,b)):Bg x=some a∧Bg y=some b:=by
 unfold KP at h;split at h
 ·simp at h
 ·split at h
  ·simp at h
  ·rename_i c hc;split at h
   ·simp at h
   ·rename_i d hd;simp only [Option.some.injEq,Prod.mk.injEq] at h;exact⟨by rw [hc,h.1],by rw [hd,h.2]⟩
theorem QW (ρ:Nat→Int) {a b:SE} {x y:List Nat} (ha:dec (a.den ρ)=oG x) (hb:dec (b.den ρ)=oG y):(QY a b).den ρ=bytesLess x y:=by simp only [QY,SB.den,SE.den,iO.den,ha,hb,oG,aT];have:=Pn x y;rw [this];cases bytesLess x y <;> rfl
theorem H6: ∀(x y:List Nat),(bytesLess x y || jH x y)=!(bytesLess y x)
 | [],[]=>rfl
 | [],_ :: _=>rfl
 | _ :: _,[]=>rfl
 | a :: x,b :: y=>by
   have ih:=H6 x y;simp only [bytesLess,jH];rcases Nat.lt_trichotomy a b with h | h | h
   ·have h1:a.blt b=true:=by simp [Nat.blt]; omega
    have h2:b.blt a=false:=by rw [Bool.eq_false_iff]; simp [Nat.blt]; omega
    have h3:b.beq a=false:=by rw [Bool.eq_false_iff]; simp; omega
    simp [h1,h2,h3]
   ·subst h;have h1:a.blt a=false:=by rw [Bool.eq_false_iff]; simp [Nat.blt]
    simp [h1,ih]
   ·have h1:b.blt a=true:=by simp [Nat.blt]; omega
    have h2:a.blt b=false:=by rw [Bool.eq_false_iff]; simp [Nat.blt]; omega
    have h3:a.beq b=false:=by rw [Bool.eq_false_iff]; simp; omega
    simp [h1,h2,h3]
theorem ahU {s s':St} (hp:bI E.ρ s.pc) {t:Nat} {op:BinOp} {x y v:AV} {a b:SE} {u u':Value} (hx:VR E w.heap x u) (hy:VR E w.heap y u') (hs:KP x y=some (a,b)) (h:(aaB op a b s).leaf E.ρ=some (v,s')) :
 s'.slots=s.slots∧s'.h=s.h∧bI E.ρ s'.pc∧(∃r,(binOp op t u u').run P w= .ok r w∧VR E w.heap v r)∧(∀cs ds,¬(u= .agg cs∧u'= .agg ds))∧¬(u= .nilIface∧u'= .nilIface):=by
 obtain⟨hsx,hsy⟩:=UE hs;obtain⟨l,rfl,hbl,hdl⟩:=MQ hx hsx;obtain⟨m,rfl,hbm,hdm⟩:=MQ hy hsy
 have heq:((BN (rJ a) (rJ b)).den E.ρ)=jH l m:=by rw [qA,pJ,pJ,hdl,hdm,Bool.eq_iff_iff,beq_iff_eq,pU];exact⟨fun q=>aiE (iD q),fun q=>by rw [q]⟩
 have hne:(∀cs ds,¬(Value.string (bY l)= .agg cs∧Value.string (bY m)= .agg ds))∧¬(Value.string (bY l)= .nilIface∧Value.string (bY m)= .nilIface):=⟨by simp,by simp⟩
 have fin: ∀(c:AV) (o:BinOp),WY o l m=some c→(∀q,VR E w.heap c q→VR E w.heap v q)→(∀q,(Op.stringOp o (bY l) (bY m)).run P w= .ok q w→(binOp o t (.string (bY l)) (.string (bY m))).run P w= .ok q w)→
  ∃r,(binOp o t (.string (bY l)) (.string (bY m))).run P w= .ok r w∧VR E w.heap v r:=by
  intro c o ho hc hq;obtain⟨r,h1,h2⟩:=WX (P:=P) (E:=E) (w:=w) hbl hbm ho;exact⟨r,hq _ h1,hc r h2⟩
 unfold aaB at h;split at h
 ·obtain⟨pc1,hp1,h1⟩:=cO hp h;split at h1
  ·simp [T.leaf] at h1
  ·rename_i t1;obtain⟨pc2,hp2,h2⟩:=cO (s:={ s with pc:=pc1 }) hp1 h1;split at h2
   ·simp [T.leaf] at h2
   ·rename_i t2;have:=aH h2;simp only [Prod.mk.injEq] at this;obtain⟨rfl,rfl⟩:=this;rw [dV,decide_eq_true_eq,dD,hdl,qF] at t1;rw [dV,decide_eq_true_eq,dD,hdm,qF] at t2;simp only [SE.den] at t1 t2;refine⟨rfl,rfl,hp2,⟨.string (bY (l++m)),?_,?_⟩,hne⟩
    ·have hm:IntKind.i64.max=9223372036854775807:=by decide
     have:(Op.stringOp .add (bY l) (bY m)).run P w= .ok (.string (bY l++bY m)) w:=by simp only [Op.stringOp,nI,hm];rw [if_neg (by omega)];rfl
     have e:bY l++bY m=bY (l++m):=by apply ByteArray.ext;simp [bY]
     rw [e] at this;simpa [binOp] using this
    ·refine VR.amW (fun c hc=>?_) ?_
     ·rcases List.mem_append.1 hc with hc | hc
      ·exact hbl c hc
      ·exact hbm c hc
     ·simp only [SE.den,iO.den,aG,hdl,hdm];simp only [oG,aT,List.map_append]
 all_goals first
  | (simp [T.leaf] at h; done)
  | (have:=aH h
     simp only [Prod.mk.injEq] at this;obtain⟨rfl,rfl⟩:=this;refine⟨rfl,rfl,hp,?_,hne⟩;refine fin _ _ rfl (fun q hq=>?_) (fun q hq=>by simpa [binOp] using hq);simp only [VR,SB.den,rM] at hq ⊢
     first
      | (rw [heq]; exact hq)
      | (rw [QW E.ρ hdl hdm]; exact hq)
      | (rw [QW E.ρ hdm hdl]; rw [H6] at hq; simpa using hq))
theorem aaR [Glob] {tt:TT} (htt:eP P tt) {s s':St} (r:bF E s.h w) (hp:bI E.ρ s.pc) {sT dT:Nat} {e:SE} {v:AV} {u:Value} (hx:VR E w.heap (.mD e) u) (h:(LM tt sT dT e s).leaf E.ρ=some (v,s')) :
 s'.slots=s.slots∧bI E.ρ s'.pc∧∃y w' E',(convert sT dT u).run P w= .ok y w'∧Stp E s.h w E' s'.h w'∧bF E' s'.h w'∧VR E' w'.heap v y:=by
 unfold LM at h;split at h
 ·simp [T.leaf] at h
 ·rename_i j hj;split at h
  ·rename_i hjk;split at h
   ·simp [T.leaf] at h
   ·rename_i i hi;split at h
    ·rename_i el hik;split at h
     ·rename_i ie hie;split at h
      ·rename_i k aF5;split at h
       ·obtain⟨l,rfl,hb,hd⟩:=hx.avW
        have hcv:vF tt sT dT (.str l) s.h=some (.slice s.h.fresh 0 l.length (.rest 1),s.h.new (.cells (l.map fun c=> .int .u8 (.lit (Int.ofNat c))) el)):=by unfold vF;simp only [hj,hi,hik,hie,aF5,hjk];simp
        obtain⟨y,w',E',g1,g2,g3,g4⟩:=Hl (P:=P) htt r (x:=.str l) (u:=.string (bY l)) (by simp only [VR]; exact⟨trivial,hb⟩) hcv;obtain⟨pc1,hp1,h1⟩:=cO hp h;rw [qA,dD,hd,qF] at h1;split at h1
        ·rename_i hz;have:=aH h1;simp only [Prod.mk.injEq] at this;obtain⟨rfl,rfl⟩:=this;simp only [SE.den,beq_iff_eq] at hz;have hl0:l= []:=List.eq_nil_of_length_eq_zero (by omega);subst hl0;exact⟨rfl,hp1,y,w',E',g1,g2,g3,g4⟩
        ·rename_i hz;have:=aH h1;simp only [Prod.mk.injEq] at this;obtain⟨rfl,rfl⟩:=this;simp only [SE.den,beq_eq_false_iff_ne,ne_eq] at hz;have hd':dec (e.den E'.ρ)=oG l:=by rw [g2.ρ]; exact hd
         have hcc:dM E'.ρ e 14 []=l.map fun c=>AV.int .u8 (.lit (Int.ofNat c)):=by
          unfold dM;rw [hd'];simp only [oG,aT]
          have: ∀(l:List Nat) (i:Nat),aK E'.ρ (rowOf 14) [] (l.map fun b=>D.i (Int.ofNat b)) i=l.map fun c=>AV.int .u8 (.lit (Int.ofNat c)):=by
           intro l
           induction l with
           | nil=>intro i; rfl
           | cons a l ih=> intro i;simp only [List.map_cons,aK,dQ,ih];rfl
          exact this l 0
         have r2:=Lp (e1:=e) (t:=14) g3 (by
          rw [hd'];refine⟨by simp only [oG,aT],fun x hx=>?_,fun q=>?_⟩
          ·simp only [oG,aT,List.mem_map] at hx;obtain⟨b,_,rfl⟩:=hx;rfl
          ·have:=congrArg List.length q;rw [qF] at this
           exact hz (by simp at this; simp [this])) (by rw [hcc]) (fun us hu=>by rw [hcc]; exact hu)
         refine⟨rfl,hp1,y,w',E',g1,g2.right (Lr rfl rfl fun _=>rfl),r2,?_⟩;simp only [VR] at g4 ⊢;obtain⟨q1,a,cap,q2,q3,q4⟩:=g4;exact⟨q1,l.length,a,cap,by rw [dD,hd',qF],q2,q3,q4⟩
       ·simp [T.leaf] at h
      ·simp [T.leaf] at h
     ·simp [T.leaf] at h
    ·simp [T.leaf] at h
  ·simp [T.leaf] at h
end
end Go.As
end
section
namespace Go.As
section
variable {P:Program} {E:En} {w:World}
def aeB (c:CK):Prop:=(∃k,c= .int k)∨c= .str
theorem SC (t:Nat):aeB (mapOf t).1:=by
 unfold mapOf;split <;> first | exact .inl ⟨_,rfl⟩ | exact .inr rfl
theorem bytes_beq (p q:ByteArray):(p == q)=decide (p=q):=by
 rw [Bool.eq_iff_iff,decide_eq_true_eq];have e:(p == q)=(p.data == q.data):=rfl;rw [e,beq_iff_eq];constructor
 ·intro h; cases p; cases q; simp only at h; rw [h]
 ·intro h; rw [h]
theorem anS {ro:Nat→Prop} {h:Array Obj} {c:CK} (hc:aeB c) {dt:TypeDesc} (hd:Jo dt (JO c)) {d d':D} {u u':Value} (r:Rd ro h c d u) (r':Rd ro h c d' u') :
 Instr.sameNow dt u u'=some (decide (d=d'))∧(d=d'→∀n,Instr.sameBits (n+1) u' u=true):=by
 rcases hc with ⟨k,rfl⟩ | rfl
 ·simp only [JO] at hd;obtain⟨k',rfl⟩:=hd
  cases r with
  | int _ n=>
    cases r' with
    | int _ m=>
      refine⟨?_,fun hh n=>?_⟩
      ·simp only [Instr.sameNow,D.i.injEq]
       first
        | rfl
        | (congr 1; rw [Bool.eq_iff_iff]; simp)
      ·simp only [D.i.injEq] at hh;subst hh;simp [Instr.sameBits]
 ·simp only [JO] at hd;simp only [Jo] at hd;subst hd;obtain⟨a,rfl,rfl⟩:=r.string;obtain⟨b,rfl,rfl⟩:=r'.string;refine⟨?_,fun hh n=>?_⟩
  ·simp only [Instr.sameNow,bytes_beq];congr 1;rw [decide_eq_decide];exact⟨fun q=>by rw [q],fun q=>Pj q⟩
  ·have:=Pj hh;subst this;simp [Instr.sameBits,bytes_beq]
theorem G6 {ro:Nat→Prop} {h:Array Obj} {t:Nat} {dt:TypeDesc} (hd:Jo dt (JO (mapOf t).1)) {kd:D} {u:Value} (hk:Rd ro h (mapOf t).1 kd u): ∀{ds:List D} {ents:List MapEntry} {i:Nat},
 oO ro h t ds ents→
 (oC ds kd=none∧Instr.findNow dt u ents i=some none∧(∀v,Cb ds kd v=ds++ [.p kd v])∧U9 ds kd=ds)∨
 (∃j x e,oC ds kd=some x∧ents[j]?=some e∧Rd ro h (mapOf t).2 x e.val∧Instr.findNow dt u ents i=some (some (i+j,e.val))∧(∀n,Instr.sameBits (n+1) e.key u=true)∧(∀v,Cb ds kd v=ds.set j (.p kd v))∧U9 ds kd=ds.eraseIdx j)
 | [],ents,i,he=>by simp only [oO] at he;subst he;exact .inl ⟨rfl,by simp [Instr.findNow],fun _=>rfl,rfl⟩
 | d :: ds,ents,i,he=>by
   obtain⟨e,r,rfl,h1,h2,h3,h4⟩:=he;obtain⟨g1,g2⟩:=anS (SC t) hd hk h2;by_cases hkd:Yk d=kd
   ·have g1':Instr.sameNow dt u e.key=some true:=by rw [g1,decide_eq_true hkd.symm]
    refine .inr ⟨0,asE d,e,by simp only [oC,if_pos hkd],rfl,h3,by simp [Instr.findNow,g1'],g2 hkd.symm,fun v=>by simp only [Cb,if_pos hkd,List.set_cons_zero],by simp only [U9,if_pos hkd,List.eraseIdx_cons_zero]⟩
   ·have g1':Instr.sameNow dt u e.key=some false:=by rw [g1,decide_eq_false (fun q=>hkd q.symm)]
    rcases G6 (i:=i+1) hd hk h4 with ⟨q1,q2,q3,q4⟩ | ⟨j,x,e',q1,q2,q3,q4,q5,q6,q7⟩
    ·exact .inl ⟨by simp only [oC,if_neg hkd,q1],by simp [Instr.findNow,g1',q2],fun v=>by simp only [Cb,if_neg hkd,q3,List.cons_append],by simp only [U9,if_neg hkd,q4]⟩
    ·refine .inr ⟨j+1,x,e',by simp only [oC,if_neg hkd,q1],by simpa using q2,q3,?_,q5,fun v=>by simp only [Cb,if_neg hkd,q6,List.set_cons_succ],by simp only [U9,if_neg hkd,q7,List.eraseIdx_cons_succ]⟩;simp only [Instr.findNow,g1',q4]; congr 3; omega
theorem oO.set {ro:Nat→Prop} {h:Array Obj} {t:Nat} {kd vd:D} {uk uv:Value} (hk:Rd ro h (mapOf t).1 kd uk) (hv:Rd ro h (mapOf t).2 vd uv): ∀{ds:List D} {ents:List MapEntry} {i:Nat} {e:MapEntry},oO ro h t ds ents→ents[i]?=some e→
 oO ro h t (ds.set i (.p kd vd)) (ents.set i { e with key:=uk,val:=uv })
 | [],ents,i,e,he,hi=>by simp only [oO] at he; subst he; simp at hi
 | d :: ds,ents,0,e,he,hi=>by obtain⟨e0,r,rfl,h1,h2,h3,h4⟩:=he;simp at hi;subst hi;simp only [List.set_cons_zero];exact⟨_,r,rfl,rfl,hk,hv,h4⟩
 | d :: ds,ents,i+1,e,he,hi=>by obtain⟨e0,r,rfl,h1,h2,h3,h4⟩:=he;simp only [List.set_cons_succ];exact⟨e0,_,rfl,h1,h2,h3,oO.set hk hv h4 (by simpa using hi)⟩
theorem oO.push {ro:Nat→Prop} {h:Array Obj} {t:Nat} {kd vd:D} {uk uv:Value} {c:Nat} (hk:Rd ro h (mapOf t).1 kd uk) (hv:Rd ro h (mapOf t).2 vd uv): ∀{ds:List D} {ents:List MapEntry},oO ro h t ds ents→
 oO ro h t (ds++ [.p kd vd]) (ents++ [{ key:=uk,val:=uv,born:=c }])
 | [],ents,he=>by simp only [oO] at he;subst he;exact⟨_,[],rfl,rfl,hk,hv,rfl⟩
 | d :: ds,ents,he=>by obtain⟨e0,r,rfl,h1,h2,h3,h4⟩:=he;simp only [List.cons_append];exact⟨e0,_,rfl,h1,h2,h3,oO.push hk hv h4⟩
theorem oO.erase {ro:Nat→Prop} {h:Array Obj} {t:Nat}: ∀{ds:List D} {ents:List MapEntry} {i:Nat},oO ro h t ds ents→oO ro h t (ds.eraseIdx i) (ents.eraseIdx i)
 | [],ents,i,he=>by simp only [oO] at he; subst he; simp [oO]
 | d :: ds,ents,0,he=>by obtain⟨e0,r,rfl,h1,h2,h3,h4⟩:=he;simpa using h4
 | d :: ds,ents,i+1,he=>by obtain⟨e0,r,rfl,h1,h2,h3,h4⟩:=he;simp only [List.eraseIdx_cons_succ];exact⟨e0,_,rfl,h1,h2,h3,oO.erase h4⟩
theorem E8 {m:AV} {h:Hp} {id t:Nat} {e:SE} (hm:Ez m h=some (id,e,t)):m= .map id∧h.get id=some (.iY e t):=by
 unfold Ez at hm;split at hm
 ·split at hm
  ·rename_i o ho;split at hm
   ·simp only [Option.some.injEq,Prod.mk.injEq] at hm;obtain⟨rfl,rfl,rfl⟩:=hm;exact⟨rfl,ho⟩
   ·simp at hm
  ·simp at hm
 ·simp at hm
theorem IZ {tt:TT} (htt:eP P tt) {h:Array Obj} {ty t:Nat} {k:AV} {uk:Value} {a:SE} {ie:TI} (hk:VR E h k uk) (hm:mapKey tt ty t k=some (a,ie)) :
 ∃kt et dt,P.underlying ty=some (.map kt et)∧P.underlying kt=some dt∧Jo dt (JO (mapOf t).1)∧uZ P et ie∧Rd E.ro h (mapOf t).1 (dec (a.den E.ρ)) uk:=by
 unfold mapKey at hm;split at hm
 ·simp at hm
 ·rename_i ti hti;split at hm
  ·rename_i kt et hkind;split at hm
   ·simp at hm
   ·rename_i ki hki;split at hm
    ·rename_i hkk;split at hm
     ·simp at hm
     ·rename_i ie' hie;split at hm
      ·simp at hm
      ·rename_i a0 ha0;simp only [Option.some.injEq,Prod.mk.injEq] at hm;obtain⟨rfl,rfl⟩:=hm;have hu:=FQ (htt ty ti hti) hkind
       have hkd: ∃dt,P.underlying kt=some dt∧Jo dt (JO (mapOf t).1):=by
        rcases SC t with ⟨q,hq⟩ | hq
        ·rw [hq] at hkk ⊢;exact⟨_,Dv (htt kt ki hki) hkk,q,rfl⟩
        ·rw [hq] at hkk ⊢;exact⟨_,gW (htt kt ki hki) hkk,rfl⟩
       obtain⟨dt,h1,h2⟩:=hkd;refine⟨kt,et,dt,hu,h1,h2,htt et ie' hie,?_⟩;rw [pJ,aG];exact (qG hk ha0).rd (vH ha0)
    ·simp at hm
  ·simp at hm
theorem IY [Glob] {H:Hp} (r:bF E H w) {id t:Nat} {e:SE} (hl:H.get id=some (.iY e t)): ∃ents c',w.heap[(E.θ id).1]?=some (.map ents c')∧oO E.ro w.heap t (dec (e.den E.ρ)).l ents.toList:=
 (r.live id _ hl).2.1
theorem qH {t:Nat} {c:CK} {d:TypeDesc} (hu:P.underlying t=some d) (hd:Jo d (JO c)) (b:Bool) (v:Value):(Instr.checkKey b 10000 t v).run P w= .ok () w:=iV hu hd b v
theorem ahM {ρ:Nat→Int} (e a:SE):(aoO e a).den ρ=((SE.op .Ku e a).den ρ == (SE.lit 0).den ρ):=by
 unfold aoO;split
 ·split
  ·simp only [SB.den,SE.den,iO.den,aG];split <;> rename_i hq <;> simp [hq]
  ·rfl
 ·rfl
theorem aaI [Glob] {tt:TT} (htt:eP P tt) {s s':St} (r:bF E s.h w) (hp:bI E.ρ s.pc) {ty id t:Nat} {m k v:AV} {e:SE} {um uk:Value} {ok:Bool} (hm:VR E w.heap m um) (hk:VR E w.heap k uk) (hat:Ez m s.h=some (id,e,t)) (h:(G9 tt ty k ok e t s).leaf E.ρ=some (v,s')) :
 s'.slots=s.slots∧s'.h=s.h∧bI E.ρ s'.pc∧∃x,(Instr.lookup ty um uk ok).run P w= .ok x w∧VR E w.heap v x:=by
 obtain⟨rfl,hl⟩:=E8 hat
 unfold G9 at h;split at h
 ·simp [T.leaf] at h
 ·rename_i a ie hmk;obtain⟨kt,et,dt,hu,hd1,hd2,hie,hrk⟩:=IZ htt hk hmk;split at h
  ·simp [T.leaf] at h
  ·rename_i z hz;obtain⟨u0,z1,z2⟩:=QL (P:=P) (w:=w) (E:=E) hie hz;obtain⟨ents,c',g1,g2⟩:=IY r hl;have hg:=lQ (P:=P) g1 (by simp);simp only [VR] at hm;obtain⟨rfl,hid⟩:=hm;have hf:=G6 (i:=0) hd2 hrk g2;obtain⟨pc1,hp1,h1⟩:=cO hp h;rw [ahM] at h1;simp only [SE.den,iO.den] at h1;rcases hf with ⟨q1,q2,_,_⟩ | ⟨j,x,en,q1,q2,q3,q4,q5,_,_⟩
   ·rw [q1] at h1;have:=aH h1;simp only [Prod.mk.injEq] at this;obtain⟨rfl,rfl⟩:=this;refine⟨rfl,rfl,hp1,(if ok then .tuple #[u0,.bool false] else u0),?_,?_⟩
    ·cases ok <;> simp [Instr.lookup,run_underlying hu,hg,qH hd1 hd2,iJ hd1 q2,z1]
    ·cases ok
     ·exact z2
     ·simp only [if_true,VR,bJ];exact⟨[u0,.bool false],rfl,_,_,rfl,z2,_,_,rfl,by simp [SB.den],rfl⟩
   ·rw [q1] at h1;have:=aH h1;simp only [Prod.mk.injEq] at this;obtain⟨rfl,rfl⟩:=this
    have hval:VR E w.heap (Bc (mapOf t).2 (.op .Kv e a)) en.val:=by rw [vI];simp only [SE.den,iO.den,aG,q1,Option.getD_some];exact q3.cell
    refine⟨rfl,rfl,hp1,(if ok then .tuple #[en.val,.bool true] else en.val),?_,?_⟩
    ·cases ok <;> simp [Instr.lookup,run_underlying hu,hg,qH hd1 hd2,iJ hd1 q4]
    ·cases ok
     ·exact hval
     ·simp only [if_true,VR,bJ];exact⟨[en.val,.bool true],rfl,_,_,rfl,hval,_,_,rfl,by simp [SB.den],rfl⟩
theorem ahV [Glob] {tt:TT} (htt:eP P tt) {s s':St} (r:bF E s.h w) {ty id t:Nat} {m k x v:AV} {e:SE} {um uk ux:Value} (hm:VR E w.heap m um) (hk:VR E w.heap k uk) (hx:VR E w.heap x ux) (hat:Ez m s.h=some (id,e,t)) (h:(aaF tt ty id k x e t s).leaf E.ρ=some (v,s')) :
 s'.slots=s.slots∧s'.pc=s.pc∧v=AV.undef∧∃w',(Instr.mapUpdate ty um uk ux).run P w= .ok () w'∧Stp E s.h w E s'.h w'∧bF E s'.h w':=by
 obtain⟨rfl,hl⟩:=E8 hat
 unfold aaF at h;split at h
 ·simp [T.leaf] at h
 ·rename_i a ie hmk;obtain⟨kt,et,dt,hu,hd1,hd2,hie,hrk⟩:=IZ htt hk hmk;split at h
  ·simp [T.leaf] at h
  ·rename_i b hb;have:=aH h;simp only [Prod.mk.injEq] at this;obtain⟨rfl,rfl⟩:=this;have hrx:=(qG hx hb).rd (vH hb);obtain⟨ents,c',g1,g2⟩:=IY r hl;have hg:=lQ (P:=P) g1 (by simp);simp only [VR] at hm;obtain⟨rfl,hid⟩:=hm;refine⟨rfl,rfl,rfl,?_⟩
   have hden:dec ((SE.op .Ej e (gX a b)).den E.ρ)=dL (Cb (dec (e.den E.ρ)).l (dec (a.den E.ρ)) (dec (b.den E.ρ))):=by simp only [gX,SE.den,iO.den,aG]
   rcases G6 (i:=0) hd2 hrk g2 with ⟨q1,q2,q3,_⟩ | ⟨j,y,en,q1,q2,q3,q4,q5,q6,_⟩
   ·refine⟨_,?_,jY r hl (.iY (.op .Ej e (gX a b)) t) (.map (ents.push { key:=uk,val:=ux,born:=c' }) (c'+1)) ?_⟩
    ·simp [Instr.mapUpdate,run_underlying hu,hg,qH hd1 hd2,iJ hd1 q2,lK (P:=P) g1]
    ·intro h' hh kp;simp only [OR];refine⟨_,_,hh,?_⟩;rw [hden,aT,q3,Array.toList_push];exact oO.push (hrk.keep kp.ro kp.Nr) (hrx.keep kp.ro kp.Nr) (g2.keep kp.ro kp.Nr)
   ·simp only [Nat.zero_add] at q4
    have hkt:(Instr.keyThatStays (((ents[j]?).map (·.key)).getD uk) uk).run P w= .ok uk w:=by have q2':=q2;rw [Array.getElem?_toList] at q2';simp only [q2',Option.map_some,Option.getD_some,Instr.keyThatStays];rw [if_pos (q5 9999)];rfl
    refine⟨_,?_,jY r hl (.iY (.op .Ej e (gX a b)) t) (.map (ents.modify j fun e=>{ e with key:=uk,val:=ux }) c') ?_⟩
    ·simp [Instr.mapUpdate,run_underlying hu,hg,qH hd1 hd2,iJ hd1 q4,hkt,lK (P:=P) g1]
    ·intro h' hh kp;simp only [OR];refine⟨_,_,hh,?_⟩;rw [hden,aT,q6,NU ents j en _ q2];exact oO.set (hrk.keep kp.ro kp.Nr) (hrx.keep kp.ro kp.Nr) (g2.keep kp.ro kp.Nr) q2
theorem Tt [Glob] {tt:TT} (htt:eP P tt) {s s':St} (r:bF E s.h w) (hp:bI E.ρ s.pc) {ty:Nat} {m k x v:AV} {um uk ux:Value} (hm:VR E w.heap m um) (hk:VR E w.heap k uk) (hx:VR E w.heap x ux) (h:(Vx tt ty m k x s).leaf E.ρ=some (v,s')) :
 s'.slots=s.slots∧bI E.ρ s'.pc∧v=AV.undef∧∃w' E',(Instr.mapUpdate ty um uk ux).run P w= .ok () w'∧Stp E s.h w E' s'.h w'∧bF E' s'.h w':=by
 unfold Vx at h;obtain⟨vs,h1,pc1,E1,hp1,f,q,g⟩:=yU rfl r hp h;have hρ:=f.ρ;rw [← hρ] at hp1 g;have hv:=q [ux] (by simp only [bJ]; exact⟨ux,[],rfl,hx,rfl⟩);split at g
 ·rename_i x1;simp only [bJ] at hv;obtain⟨u1,us1,e1,hx1,e2⟩:=hv;subst e2;simp only [List.cons.injEq,and_true] at e1;subst e1;split at g
  ·rename_i id e t hat
   obtain⟨a1,a2,a3,w',a4,a5,a6⟩:=ahV htt (s:={ s with h:=h1,pc:=pc1 }) f.rel (VR.keep (f.eG.keeps r) _ _ hm) (VR.keep (f.eG.keeps r) _ _ hk) hx1 hat g;exact⟨a1,by rw [a2,← hρ]; exact hp1,a3,w',E1,a4,f.eG.trans a5,a6⟩
  ·simp [T.leaf] at g
 ·simp [T.leaf] at g
theorem ahZ [Glob] {tt:TT} (htt:eP P tt) {s s':St} (r:bF E s.h w) {ty id t ts:Nat} {m k v:AV} {e:SE} {um uk:Value} (hm:VR E w.heap m um) (hk:VR E w.heap k uk) (hat:Ez m s.h=some (id,e,t)) (h:(aaN tt ty id k e t s).leaf E.ρ=some (v,s')) (tr:Nat) :
 s'.slots=s.slots∧s'.pc=s.pc∧v=AV.undef∧∃w',(Builtin.delete_ #[ty,ts] tr #[um,uk]).run P w= .ok (.tuple #[]) w'∧Stp E s.h w E s'.h w'∧bF E s'.h w':=by
 obtain⟨rfl,hl⟩:=E8 hat
 unfold aaN at h;split at h
 ·simp [T.leaf] at h
 ·rename_i a ie hmk;obtain⟨kt,et,dt,hu,hd1,hd2,hie,hrk⟩:=IZ htt hk hmk;have:=aH h;simp only [Prod.mk.injEq] at this;obtain⟨rfl,rfl⟩:=this;obtain⟨ents,c',g1,g2⟩:=IY r hl;have hg:=lQ (P:=P) g1 (by simp);simp only [VR] at hm;obtain⟨rfl,hid⟩:=hm;refine⟨rfl,rfl,rfl,?_⟩
  have hden:dec ((SE.op .ZI e a).den E.ρ)=dL (U9 (dec (e.den E.ρ)).l (dec (a.den E.ρ))):=by simp only [SE.den,iO.den,aG]
  rcases G6 (i:=0) hd2 hrk g2 with ⟨q1,q2,_,q3⟩ | ⟨j,y,en,q1,q2,q3,q4,q5,_,q6⟩
  ·refine⟨_,?_,jY r hl (.iY (.op .ZI e a) t) (.map ents c') ?_⟩
   ·simp [Builtin.delete_,run_underlying hu,hg,qH hd1 hd2,iJ hd1 q2,lK (P:=P) g1]
   ·intro h' hh kp;simp only [OR];refine⟨_,_,hh,?_⟩;rw [hden,aT,q3];exact g2.keep kp.ro kp.Nr
  ·simp only [Nat.zero_add] at q4;refine⟨_,?_,jY r hl (.iY (.op .ZI e a) t) (.map (ents.eraseIdxIfInBounds j) c') ?_⟩
   ·simp [Builtin.delete_,run_underlying hu,hg,qH hd1 hd2,iJ hd1 q4,lK (P:=P) g1]
   ·intro h' hh kp;simp only [OR];refine⟨_,_,hh,?_⟩;have hil:j < ents.size:=by have:=(List.getElem?_eq_some_iff.1 q2).1; simpa using this
    have:(ents.eraseIdxIfInBounds j).toList=ents.toList.eraseIdx j:=by simp [Array.eraseIdxIfInBounds,hil]
    rw [this,hden,aT,q6];exact oO.erase (g2.keep kp.ro kp.Nr)
end
end Go.As
end
section
namespace Go.As
section
variable {P:Program} {E:En} {w:World}
theorem anJ [Glob] {tt:TT} (htt:eP P tt) {H:Hp} (r:bF E H w) {t e k:Nat} {i ie:TI} {k1 k2:IntKind} (hi:tt t=some i) (hk:i.kind= .slice e) (hie:tt e=some ie) (hz0:ie.zero.length=ie.size) (hs0:0 < ie.size) (hb0:ie.bytes≠0) (hbm:ie.bytes*k≤140737488355328) (hpos:0 < k) :
 ∃x w' E',(Instr.makeSlice t (.int k1 k) (.int k2 k)).run P w= .ok x w'∧Stp E H w E' (H.new (.cells (repeatL ie.zero k) e)) w'∧bF E' (H.new (.cells (repeatL ie.zero k) e)) w'∧VR E' w'.heap (.slice H.fresh 0 k (.rest ie.size)) x:=by
 have hti:=htt t i hi;have htie:=htt e ie hie;obtain⟨inf,z,g1,g2,g3,g4,g5⟩:=DV htie;have hz:=fD (E:=E) (h:=w.heap) g5;have hzl:z.cells.size=ie.size:=by have:=hz.1.length; simp only [Array.length_toList] at this; omega
 have hkb:k≤140737488355328:=by refine Nat.le_trans ?_ hbm;exact Nat.le_mul_of_pos_left _ (by omega)
 have wn:IntKind.i64.wrap (k:Int)=(k:Int):=by rw [← oZ]; simp only [Bh]; rw [if_pos (by constructor <;> omega)]
 have ai: ∀(q:IntKind) (x:Int) (w:World),(asInt (Value.int q x)).run P w= .ok x w:=fun _ _ _=>rfl
 have hne:z.cells.toList≠[]:=by
  intro hx;have hx':z.cells.size=0:=by have:=congrArg List.length hx; simpa using this
  omega
 have hzz:=BF z.cells hne k;rw [hzl] at hzz;obtain⟨us',e1⟩ : ∃us':Array Value,((Array.range (k*inf.size)).map (z.cells[·% z.cells.size]!))=us':=⟨_,rfl⟩
 have e1':us'.toList=repeatL z.cells.toList k:=by rw [← e1,g2,hzl,hzz]
 have e2:bJ E w.heap (repeatL ie.zero k) us'.toList:=by rw [e1']; exact qC hz.1 k
 have e3: ∀u∈us'.toList,u.oneCell'=true:=by rw [e1']; intro u hu; exact hz.2 u (qB hu)
 have hsz:us'.size=k*ie.size:=by rw [← Array.length_toList,e1',repeatL_length,Array.length_toList,hzl]
 refine⟨.slice (some ⟨w.heap.size,0,none⟩) k k,{ w with heap:=w.heap.push (.cells us' e) },E.ext H.fresh (w.heap.size,0) us'.size,?_,?_⟩
 ·have t1: ¬((k:Int) < 0):=by omega
  have t2: ¬((inf.bytes:Int)*(k:Int) > 2 ^ 48):=by have h1:((inf.bytes*k:Nat):Int)≤((140737488355328:Nat):Int):=Int.ofNat_le.2 (by rw [g3]; exact hbm);rw [Int.natCast_mul] at h1;omega
  have t4: ¬((k:Int) > (k:Int)):=by omega
  have t5:(askRoom (k*inf.bytes)).run P w= .ok () w:=by
   have: ¬(k*inf.bytes > roomBytes):=by unfold roomBytes;rw [Nat.mul_comm,g3];omega
   unfold askRoom;rw [if_neg this];rfl
  have t6:(k:Int).toNat=k:=rfl
  have h0: ¬(k*inf.size=0):=by rw [g2];have:=Nat.mul_pos hpos hs0;omega
  simp only [Instr.makeSlice,Sem.run_bind,run_underlying (fQ hti hk),Result.andThen_ok,ai,sizeOf,typeInfo,zeroValue,run_program,g1,g4,Sem.run_pure,newRow,Sem.run_ite,wn,t1,t2,t4,t6,h0,decide_false,Bool.or_false,Bool.false_eq_true,if_false];rw [t5,Result.andThen_ok,e1];rfl
 ·obtain⟨s1,s2⟩:=kQ r us' 0 0 e e2 e3 (fun i u hu=>by rw [← Array.getElem?_toList]; exact hu) (by omega) (w':={ w with heap:=w.heap.push (.cells us' e) }) rfl ⟨rfl,rfl,rfl⟩;refine⟨s1,s2,?_⟩;simp only [VR];refine⟨En.jL _ _ _ _,⟨w.heap.size,0,none⟩,k,rfl,Nat.le_refl _,?_⟩;simp only [fP,En.ext_θ_new,En.ext_κ_new];left;exact⟨trivial,by rw [hsz,Nat.zero_add]⟩
theorem aaH [Glob] {tt:TT} (htt:eP P tt) {s s':St} (r:bF E s.h w) (hp:bI E.ρ s.pc) {t:Nat} {l c v:AV} {lu cu:Value} (hl:VR E w.heap l lu) (hc:VR E w.heap c cu) (h:(Vz tt t l c s).leaf E.ρ=some (v,s')) :
 s'.slots=s.slots∧bI E.ρ s'.pc∧∃x w' E',(Instr.makeSlice t lu cu).run P w= .ok x w'∧Stp E s.h w E' s'.h w'∧bF E' s'.h w'∧VR E' w'.heap v x:=by
 unfold Vz at h;split at h
 ·rename_i k n;split at h
  ·rename_i k2 n2;split at h
   ·simp [T.leaf] at h
   ·rename_i hnn;have hnn:=bW _ _ hnn;subst hnn;simp only [VR] at hl hc;subst hl hc;split at h
    ·simp [T.leaf] at h
    ·rename_i i hi;split at h
     ·simp [T.leaf] at h
     ·rename_i o ho;split at h
      ·rename_i e hk;split at h
       ·simp [T.leaf] at h
       ·rename_i ie hie;split at h
        ·simp [T.leaf] at h
        ·rename_i z hz;split at h
         ·rename_i hcond;obtain⟨hes,hs0,hb0,hzl⟩:=hcond;obtain⟨pc1,hp1,h1⟩:=cO hp h;split at h1
          ·simp [T.leaf] at h1
          ·rename_i t1;obtain⟨pc2,hp2,h2⟩:=cO (s:={ s with pc:=pc1 }) hp1 h1;split at h2
           ·rename_i t2;split at h2
            ·rename_i v0 h0 hm;have:=aH h2;simp only [Prod.mk.injEq] at this;obtain⟨rfl,rfl⟩:=this;rw [qA,beq_iff_eq] at t2;simp only [SE.den] at t2;rw [t2];obtain⟨x,w',E',q1,q2,q3,q4⟩:=CU (P:=P) htt r (lu:=.int k 0) (cu:=.int k2 0) (by simp only [VR,SE.den]) (by simp only [VR,SE.den]) hm;exact⟨rfl,hp2,x,w',E',q1,q2,q3,q4⟩
            ·simp [T.leaf] at h2
           ·rename_i t2;obtain⟨pc3,hp3,h3⟩:=cO (s:={ s with pc:=pc2 }) hp2 h2;split at h3
            ·rename_i t3;have:=aH h3;simp only [Prod.mk.injEq] at this;obtain⟨rfl,rfl⟩:=this;rw [dV,decide_eq_false_iff_not] at t1;rw [qA,beq_eq_false_iff_ne] at t2;rw [dV,decide_eq_true_eq] at t3;simp only [SE.den] at t1 t2 t3;obtain⟨m,hm⟩ : ∃m:Nat,n.den E.ρ=(m:Int):=⟨(n.den E.ρ).toNat,by omega⟩;rw [hm] at t2 t3 ⊢;have hpos:0 < m:=by omega
             have hbm:ie.bytes*m≤140737488355328:=by
              unfold roomOf at t3
              have h1:m≤140737488355328 / ie.bytes:=by rw [Nat.sub_zero] at t3;exact Nat.le_of_lt (Int.ofNat_lt.1 t3)
              exact Nat.le_trans (Nat.mul_le_mul_left _ h1) (Nat.mul_div_le _ _)
             obtain⟨x,w',E',q1,q2,q3,q4⟩:=anJ (P:=P) (k1:=k) (k2:=k2) htt r hi hk hie hzl hs0 hb0 hbm hpos;have hρ:=q2.ρ
             have hd:dec ((SE.op .rep n z).den E'.ρ)=dL (List.replicate m (dec (z.den E'.ρ))):=by
              have:n.den E'.ρ=(m:Int):=by rw [hρ]; exact hm
              simp only [SE.den,iO.den,aG,this,Int.toNat_natCast]
             have hlen:(dec ((SE.op .rep n z).den E'.ρ)).l.length=m:=by rw [hd,aT,List.length_replicate]
             have hwz:xB (rowOf o) (dec (z.den E'.ρ)):=A8 hz
             have hcl:(dM E'.ρ (.op .rep n z) o []).length=(repeatL ie.zero m).length:=by unfold dM;rw [bU (mX _),hlen,repeatL_length,hzl,hes]
             have hrep: ∀(q:Nat) (us:List Value),bJ E' w'.heap (repeatL ie.zero q) us→bJ E' w'.heap (aK E'.ρ (rowOf o) [] (List.replicate q (dec (z.den E'.ρ))) 0) us:=by
              intro q
              induction q with
              | zero=>intro us h; exact h
              | succ q ih=> intro us h;simp only [repeatL] at h;obtain⟨us1,us2,rfl,a,b⟩:=bJ.split h;simp only [List.replicate_succ,aK,dQ];rw [nD _ 1 0];refine bJ.append ?_ (ih _ b);rw [gZ];simp only [SE.den,aG];exact Ba a hz
             have r2:=Lp (e1:=.op .rep n z) (t:=o) q3 ⟨by rw [hd,aT],fun d hd'=>by
              rw [hd,aT] at hd';rw [List.eq_of_mem_replicate hd']
              exact hwz,fun hq=>by rw [hq] at hlen; simp at hlen; omega⟩ hcl (fun us hu=>by
              unfold dM;rw [hd,aT]
              exact hrep m us hu)
             refine⟨rfl,hp3,x,w',E',q1,q2.right (Lr rfl rfl fun _=>rfl),r2,?_⟩;simp only [VR] at q4 ⊢;obtain⟨p1,a,cap,p2,p3,p4⟩:=q4;refine⟨p1,m,a,cap,by rw [dD,hlen],p2,p3,?_⟩;rw [← hes];exact p4
            ·simp [T.leaf] at h3
         ·simp [T.leaf] at h
      ·simp [T.leaf] at h
  ·simp [T.leaf] at h
 ·simp [T.leaf] at h
end
end Go.As
end
section
namespace Go.As
theorem Wi {α β:Type} (f:α→β) (xs:Array α):xs.map f=(xs.toList.map f).toArray:=by apply Array.ext';simp
def uS (P:Program) (R:Value→World→Prop):Result Next→Prop
 | .ok (.value u) w'=>R u w'
 | .ok (.enter f args) w'=>Calls P f args w' fun e w''=> ∃u,e= .returned u∧R u w''
 | _=>False
def uT (P:Program) (g:FuncId) (vals:Array Value) (w:World) (R:Value→World→Prop):Prop:=uS P R ((callFunc g vals).run P w)
def mP [Glob] (P:Program) (g:FuncId) (f:List AV→St→T (AV×St)):Prop:=
 ∀(args:List AV) (s:St) (E:En) (w:World) (vals:List Value) (v:AV) (s':St),bF E s.h w→bJ E w.heap args vals→bI E.ρ s.pc→(f args s).leaf E.ρ=some (v,s')→
  s'.slots=s.slots∧bI E.ρ s'.pc∧uT P g vals.toArray w (After E s w v s')
theorem GI {E:En} {h:Array Obj} {k:Nat} {e:SE} {i:Nat} (he:e.den E.ρ=(i:Int)): ∀(ks:List IntKind) (j:Nat),
 bJ E h (Cj k e ks j) ((ks.zipIdx j).map fun p=> .int p.1 (E.ρ (1000+i*64+(k*8+p.2))))
 | [],j=>by simp [Cj,bJ]
 | kd :: ks,j=>by simp only [Cj,List.zipIdx_cons,List.map_cons];rw [aY];refine⟨_,_,rfl,?_,GI he ks (j+1)⟩;simp only [VR,SE.den,he,Int.toNat_natCast]
theorem aaK {P:Program} {E:En} {w:World} {tt:TT} (htt:eP P tt) {pc:List (SB×Bool)} (hp:bI E.ρ pc) {t k:Nat} {ks:List IntKind} {ix v:AV} {u ui:Value} (hx:VR E w.heap (.inp k ks) u) (hix:VR E w.heap ix ui)
 (h:VA tt pc t k ks ix=some v): ∃r,(Instr.indexAt t u ui).run P w= .ok r w∧VR E w.heap v r:=by
 unfold VA at h;split at h
 ·rename_i kd e;split at h
  ·rename_i ti hti;split at h
   ·rename_i el hk;have hu:=fQ (htt t ti hti) hk;split at h
    ·rename_i s hs;simp only [jX,Option.map_eq_some_iff] at hs;obtain⟨ie,hie,rfl⟩:=hs;split at h
     ·rename_i hc;split at h
      ·rename_i h1 h2;simp at h;subst h;have h1:=jA hp h1;have h2:=jA hp h2;rw [dV,decide_eq_false_iff_not] at h1;rw [dV,decide_eq_true_eq] at h2;simp only [SE.den,Int.not_lt] at h1 h2;simp only [VR] at hx hix;subst hix;rcases hx with ⟨⟨x,cap,rfl⟩,h0⟩ | ⟨b,o,n,cap,rfl,g1,g2,g3,g4⟩
       ·omega
       ·obtain⟨i,hi⟩ : ∃i:Nat,e.den E.ρ=(i:Int):=⟨(e.den E.ρ).toNat,by omega⟩;have hin:i < n:=by omega
        refine⟨.pointer (some ⟨b,o+i*ie.size,none⟩),?_,?_⟩
        ·rw [hi];simp [Instr.indexAt,asIntOf,run_underlying hu,dX (htt el ie hie),hin,fK]
        ·simp only [VR];refine⟨b,_,_,rfl,g3,GI hi ks 0,?_,?_⟩
         ·intro j u hj;rw [List.getElem?_map,List.getElem?_zipIdx,Option.map_map,Option.map_eq_some_iff] at hj;obtain⟨kd',h3,rfl⟩:=hj;rw [hc.1,g4 i j kd' hin h3];simp
         ·intro u hu';rw [List.mem_map] at hu';obtain⟨p,_,rfl⟩:=hu';rfl
      ·simp at h
     ·simp at h
    ·simp at h
   ·simp at h
  ·simp at h
 ·simp at h
theorem avK {E:En} {s s':St} {k:IntKind} {e d:SE} {v:AV} (hp:bI E.ρ s.pc) (h:(aBD s k e d).leaf E.ρ=some (v,s')) :
 s'.slots=s.slots∧s'.h=s.h∧bI E.ρ s'.pc∧d.den E.ρ≠0∧∀h,VR E h v (.int k ((e.den E.ρ).tmod (d.den E.ρ))):=by
 unfold aBD at h;obtain⟨pc',hp',h3⟩:=cO hp h;rw [lV] at h3;split at h3
 ·simp [T.leaf] at h3
 ·rename_i he;simp only [T.leaf,Option.some.injEq,Prod.mk.injEq] at h3;obtain⟨rfl,rfl⟩:=h3;simp only [SE.den,beq_eq_false_iff_ne,ne_eq] at he;exact⟨rfl,rfl,hp',he,fun h=>by simp only [VR,SE.den]⟩
theorem agL {E:En} {h:Array Obj} {op:BinOp} {a b:AV} {k:IntKind} {e d:SE} (hr:Zy op a b=some (k,e,d)) {u u':Value} (ha:VR E h a u) (hb:VR E h b u') :
 op= .rem∧u= .int k (e.den E.ρ)∧u'= .int k (d.den E.ρ):=by
 unfold Zy at hr;split at hr
 ·split at hr
  ·split at hr
   ·split at hr
    ·simp at hr
    ·split at hr
     ·rename_i hc;simp only [Option.some.injEq,Prod.mk.injEq] at hr;obtain⟨rfl,rfl,rfl⟩:=hr;simp only [VR] at ha hb;exact⟨rfl,ha,by rw [hb,hc]⟩
     ·simp at hr
   ·simp at hr
  ·simp at hr
 ·simp at hr
def jU [Glob] (P:Program) (call:dU):Prop:= ∀g,mP P g (call g)
theorem xW.next {P:Program} {o:Oper} {a:Act} {w:World} {R:Value→World→Prop} (h:uS P R ((execOp a.eval o).run P w)):xW P o a w R:=by
 intro K Q hk;unfold Oper.wp;generalize (execOp a.eval o).run P w=r at h
 cases r with
 | halt x w'=>exact h.elim
 | ok n w'=>
   cases n <;> first
    | exact h.elim
    | exact hk _ _ h
    | (exact Calls.mono h fun e w'' ⟨u,he,hr⟩=>by subst he; exact hk _ _ hr)
theorem PL {tt:TT} {t n:Nat} {ix:AV} {e:SE} (h:afN tt t ix=some (n,e)): ∃k ti el ie,ix= .int k e∧tt t=some ti∧ti.kind= .array n el∧tt el=some ie∧ie.size=1∧ie.agg=false:=by
 unfold afN at h;split at h
 ·simp at h
 ·split at h
  ·split at h
   ·rename_i ti hti;split at h
    ·rename_i n' el hk;split at h
     ·split at h
      ·rename_i ie hie;split at h
       ·rename_i hc;simp only [Option.some.injEq,Prod.mk.injEq] at h;obtain⟨rfl,rfl⟩:=h;exact⟨_,ti,el,ie,rfl,hti,hk,hie,hc.1,hc.2⟩
       ·simp at h
      ·simp at h
     ·simp at h
    ·simp at h
   ·simp at h
  ·simp at h
section
variable {P:Program} {E:En} {w:World} {s s':St} {o:Oper} {a:Act} {v:AV}
theorem VJ [Glob] {tt:TT} (htt:eP P tt) (r:bF E s.h w) (hp:bI E.ρ s.pc) {b:Builtin} {ts:List Nat} {args:List AV} {vals:List Value} (hv:bJ E w.heap args vals) (ty:Nat) (cs:Array Bool)
 (h:(D7 tt s b ts args).leaf E.ρ=some (v,s')):s'.slots=s.slots∧bI E.ρ s'.pc∧∃u w',(builtin b ts.toArray ty cs vals.toArray).run P w= .ok (.value u) w'∧After E s w v s' u w':=by
 unfold D7 at h;split at h
 ·rename_i t x;obtain⟨e1,rfl⟩:=kX h;rw [aY] at hv;obtain⟨u,vs,rfl,hx,hxs⟩:=hv;rw [kM] at hxs;subst hxs;obtain⟨y,h1,h2⟩:=apA (ty:=ty) htt r hx e1;exact⟨rfl,hp,y,w,by simp [builtin,h1],E,Stp.refl _ _ _,r,h2⟩
 ·rename_i t t2 id lo n t' y;rw [aY] at hv;obtain⟨u,vs,rfl,hx,hxs⟩:=hv;rw [aY] at hxs;obtain⟨u2,vs,rfl,hy,hys⟩:=hxs;rw [kM] at hys;subst hys;split at h
  ·rename_i hz;obtain⟨q1,q2,z,w',E',h1,h2,h3,h4⟩:=X7 (ty:=ty) htt r hp hz hx hy h;exact⟨q1,q2,z,w',by simp [builtin,h1],E',h2,h3,h4⟩
  ·simp [T.leaf] at h
 ·rename_i t t2 x y _;rw [aY] at hv;obtain⟨u,vs,rfl,hx,hxs⟩:=hv;rw [aY] at hxs;obtain⟨u2,vs,rfl,hy,hys⟩:=hxs;rw [kM] at hys;subst hys;split at h
  ·rename_i hown;obtain⟨q1,q2,z,w',E',h1,h2,h3,h4⟩:=VL (ty:=ty) htt r hp hx hy (fun hd=>by rw [hd,Bool.or_false] at hown; exact XB hx hown) h;exact⟨q1,q2,z,w',by simp [builtin,h1],E',h2,h3,h4⟩
  obtain⟨H,e1,rfl⟩:=vU h;obtain⟨z,w',E',h1,h2,h3,h4⟩:=X6 (ty:=ty) htt r hx hy e1;exact⟨rfl,hp,z,w',by simp [builtin,h1],E',h2,h3,h4⟩
 ·rename_i t ts' m k;rw [aY] at hv;obtain⟨u,vs,rfl,hx,hxs⟩:=hv;rw [aY] at hxs;obtain⟨u2,vs,rfl,hy,hys⟩:=hxs;rw [kM] at hys;subst hys;split at h
  ·rename_i id e t' hat
   obtain⟨q1,q2,rfl,w',h1,h2,h3⟩:=ahZ (ts:=ts') htt r hx hy hat h ty;exact⟨q1,by rw [q2]; exact hp,.tuple #[],w',by simp [builtin,h1],E,h2,h3,by simp only [AV.undef,VR,bJ]; exact⟨[],rfl,rfl⟩⟩
  obtain⟨pc',hp',h⟩:=wM hp h;obtain⟨H,e1,rfl,rfl⟩:=Gj h;obtain⟨w',h1,h2,h3⟩:=X5 (ts:=ts') htt hp' r hx hy e1 ty;exact⟨rfl,hp',.tuple #[],w',by simp [builtin,h1],E,h2,h3,by simp only [AV.undef,VR,bJ]; exact⟨[],rfl,rfl⟩⟩
 ·rename_i t id n t';rw [aY] at hv;obtain⟨u,vs,rfl,hx,hxs⟩:=hv;rw [kM] at hxs;subst hxs;obtain⟨q1,q2,rfl,w',E',h1,h2,h3⟩:=JX (ty:=ty) htt r hp (abO hx) h;exact⟨q1,q2,.tuple #[],w',by simp [builtin,h1],E',h2,h3,by simp only [AV.undef,VR,bJ]; exact⟨[],rfl,rfl⟩⟩
 ·rename_i t id lo n t';rw [aY] at hv;obtain⟨u,vs,rfl,hx,hxs⟩:=hv;rw [kM] at hxs;subst hxs;obtain⟨q1,q2,rfl,w',E',h1,h2,h3⟩:=JX (ty:=ty) htt r hp hx h;exact⟨q1,q2,.tuple #[],w',by simp [builtin,h1],E',h2,h3,by simp only [AV.undef,VR,bJ]; exact⟨[],rfl,rfl⟩⟩
 ·rename_i t x _ _;obtain⟨H,e1,rfl,rfl⟩:=Gj h;rw [aY] at hv;obtain⟨u,vs,rfl,hx,hxs⟩:=hv;rw [kM] at hxs;subst hxs;obtain⟨w',h1,h2,h3⟩:=aaQ (ty:=ty) htt r hx e1;exact⟨rfl,hp,.tuple #[],w',by simp [builtin,h1],E,h2,h3,by simp only [AV.undef,VR,bJ]; exact⟨[],rfl,rfl⟩⟩
 ·rename_i k e xs;rw [aY] at hv;obtain⟨u,vs,rfl,hx,hxs⟩:=hv;simp only [VR] at hx;subst hx;obtain⟨q1,q2,q3,u,q4,q5⟩:=rU (P:=P) (w:=w) hp hxs h;refine⟨q2,q3,u,w,?_,E,by rw [q1]; exact Stp.refl _ _ _,by rw [q1]; exact r,q5⟩;simp only [Bool.false_eq_true,if_false] at q4;simp [builtin,Builtin.min_,q4]
 ·rename_i k e xs;rw [aY] at hv;obtain⟨u,vs,rfl,hx,hxs⟩:=hv;simp only [VR] at hx;subst hx;obtain⟨q1,q2,q3,u,q4,q5⟩:=rU (P:=P) (w:=w) hp hxs h;refine⟨q2,q3,u,w,?_,E,by rw [q1]; exact Stp.refl _ _ _,by rw [q1]; exact r,q5⟩;simp only [if_true] at q4;simp [builtin,Builtin.max_,q4]
 ·simp [T.leaf] at h
theorem aiA [Glob] {tt:TT} (htt:eP P tt) {call:dU} (hc:jU P call) (r:bF E s.h w) (sr:SR E w.heap s.slots a) (hp:bI E.ρ s.pc) {c:Call} (ho:o.op= .call c)
 (h:(VI tt call s c).leaf E.ρ=some (v,s')):oN P E s o a w v s':=by
 unfold VI at h;split at h
 ·simp [T.leaf] at h
 ·rename_i args hargs;have hv:=Vo sr hargs;have hmap:c.args.map a.eval=(c.args.toList.map a.eval).toArray:=Wi _ _;split at h
  ·rename_i b aB7;obtain⟨q1,q2,u,w',q3,q4⟩:=VJ htt r hp hv o.type (c.args.map fun | .const _=>true | _=>false) h;refine⟨q1,q2,xW.value ?_ q4⟩;simp only [execOp,ho,resolve,aB7,Sem.run_bind,Sem.run_pure,Result.andThen_ok,invoke,hmap];exact q3
  ·rename_i f aB7;split at h
   ·rename_i g fs cs hf;have hfv:=jK sr hf;simp only [VR] at hfv;obtain⟨us,ws,he,h1,h2⟩:=hfv;obtain⟨q1,q2,q3⟩:=hc g _ s E w _ v s' r ((h1.append hv).append h2) hp h;refine⟨q1,q2,xW.next ?_⟩;unfold uT at q3;simp only [execOp,ho,resolve,aB7,Sem.run_bind,he,Deferred.ofValue,Sem.run_pure,Result.andThen_ok,invoke,hmap];simpa using q3
   ·simp [T.leaf] at h
  ·simp [T.leaf] at h
theorem asX [Glob] {α:Type} {E:En} {h:Array Obj} {v:AV} {u:Value} {s:St} {k:AV→St→T α} {r:α} (hp:bI E.ρ s.pc) (hv:VR E h v u) (hl:(asY v s k).leaf E.ρ=some r) :
 ∃v' pc',bI E.ρ pc'∧VR E h v' u∧(k v' { s with pc:=pc' }).leaf E.ρ=some r:=by
 unfold asY at hl;split at hl
 ·split at hl
  ·exact⟨_,s.pc,hp,hv,hl⟩
  ·obtain⟨pc1,hp1,h1⟩:=cO hp hl;refine⟨_,pc1,hp1,?_,h1⟩;simp only [VR,SB.den] at *;exact hv
 ·exact⟨_,s.pc,hp,hv,hl⟩
theorem aeQ [Glob] {tt:TT} (htt:eP P tt) {call:dU} (hc:jU P call) (r:bF E s.h w) (sr:SR E w.heap s.slots a) (hp:bI E.ρ s.pc) (h:(Vy tt call s o.op).leaf E.ρ=some (v,s')):oN P E s o a w v s':=by
 obtain⟨dst,op,type,pos,after,guard⟩:=o;simp only at h;cases op <;> simp only [Vy] at h <;> first | (simp [T.leaf] at h; done) | skip
 case move x=>
  obtain⟨u,h1,h2⟩:=jF sr h;have:=aH h2;simp only [Prod.mk.injEq] at this;obtain⟨rfl,rfl⟩:=this;exact oN.pure hp r (u:=a.eval x) rfl h1
 case assign x=>
  obtain⟨u,h1,h2⟩:=jF sr h;have:=aH h2;simp only [Prod.mk.injEq] at this;obtain⟨rfl,rfl⟩:=this;exact oN.pure hp r (u:=a.eval x) rfl h1
 case pick c x y=>
  obtain⟨cv,h1,h2⟩:=jF sr h;split at h2
  ·rename_i cb;obtain⟨pc',hp',h3⟩:=cO hp h2;simp only [VR] at h1;cases hcd:cb.den E.ρ <;> rw [hcd] at h1 h3
   ·simp only [Bool.false_eq_true,if_false] at h3;obtain⟨u,h4,h5⟩:=jF (s:={ s with pc:=pc' }) sr h3;have:=aH h5;simp only [Prod.mk.injEq] at this;obtain⟨rfl,rfl⟩:=this;exact⟨rfl,hp',xW.value (u:=a.eval y) (by simp [execOp,h1,asBool]) ⟨E,Stp.refl _ _ _,r,h4⟩⟩
   ·simp only [if_true] at h3;obtain⟨u,h4,h5⟩:=jF (s:={ s with pc:=pc' }) sr h3;have:=aH h5;simp only [Prod.mk.injEq] at this;obtain⟨rfl,rfl⟩:=this;exact⟨rfl,hp',xW.value (u:=a.eval x) (by simp [execOp,h1,asBool]) ⟨E,Stp.refl _ _ _,r,h4⟩⟩
  ·simp [T.leaf] at h2
 case alloc t=>
  split at h
  ·rename_i i hi;have:=aH h;simp only [Prod.mk.injEq] at this;obtain⟨rfl,rfl⟩:=this;obtain⟨inf,z,g1,g2,g3,g4,g5⟩:=DV (htt t i hi);have hz:=fD (E:=E) (h:=w.heap) g5;obtain⟨s1,s2⟩:=kQ r z.cells 0 0 t hz.1 hz.2 (fun i u hu=>by rw [← Array.getElem?_toList]; exact hu) (by omega) (w':={ w with heap:=w.heap.push (.cells z.cells t) }) rfl ⟨rfl,rfl,rfl⟩;exact oN.heap hp (u:=.pointer (some ⟨w.heap.size,0,none⟩)) (by simp [execOp,Instr.alloc,zeroValue,typeInfo,g1,g4,newVar,newRow]) s1 s2 (UY r _ _ 0)
  ·simp [T.leaf] at h
 case box t x=>
  obtain⟨u,h1,h2⟩:=jF sr h;split at h2
  ·rename_i hone;have:=aH h2;simp only [Prod.mk.injEq] at this;obtain⟨rfl,rfl⟩:=this;have hcv:=h1.cells hone;obtain⟨s1,s2⟩:=kQ r (a.eval x).cells 0 0 t hcv (hcv.ones hone) (fun i u hu=>by rw [← Array.getElem?_toList]; exact hu) (by omega) (w':={ w with heap:=w.heap.push (.cells (a.eval x).cells t) }) rfl ⟨rfl,rfl,rfl⟩;exact oN.heap hp (u:=.pointer (some ⟨w.heap.size,0,none⟩)) (by simp [execOp,Instr.box,newVar,newRow]) s1 s2 (UY r _ _ 0)
  ·simp [T.leaf] at h2
 case build t parts=>
  split at h
  ·rename_i ps hps;obtain⟨e1,rfl⟩:=kX h;have hpr:=Fp sr hps;obtain⟨x,h1,h2⟩:=aaS (w:=w) (ps:=parts.map fun p=>(p.1,a.eval p.2)) htt (by simpa using hpr) e1;exact oN.pure hp r (u:=x) (by simp [execOp,h1]) h2
  ·simp [T.leaf] at h
 case buildSlice t len parts=>
  split at h
  ·rename_i ps hps;obtain⟨H,e1,rfl⟩:=vU h;have hpr:=Fp sr hps;obtain⟨x,w',E',h1,h2,h3,h4⟩:=Kz (ps:=parts.map fun p=>(p.1,a.eval p.2)) htt r (by simpa using hpr) e1;exact oN.heap hp (u:=x) (by simp [execOp,h1]) h2 h3 h4
  ·simp [T.leaf] at h
 case makeSlice t l c=>
  obtain⟨u,h1,h2⟩:=jF sr h;split at h2
  ·rename_i cv hc;split at h2
   ·rename_i q hq;obtain⟨H,e1,rfl⟩:=vU h2;simp only [Option.some.injEq] at e1;subst e1;obtain⟨x,w',E',g1,g2,g3,g4⟩:=CU htt r h1 (jK sr hc) hq;exact oN.heap hp (u:=x) (by simp [execOp,g1]) g2 g3 g4
   ·obtain⟨q1,q2,x,w',E',g1,g2,g3,g4⟩:=aaH htt r hp h1 (jK sr hc) h2;exact⟨q1,q2,xW.value (by simp [execOp,g1]) ⟨E',g2,g3,g4⟩⟩
  ·simp [T.leaf] at h2
 case insert t m k x=>
  obtain⟨u,h1,h2⟩:=jF sr h;split at h2
  ·rename_i kv xv hk hx;split at h2
   ·obtain⟨q1,q2,rfl,w',E',g1,g2,g3⟩:=Tt (P:=P) htt r hp h1 (jK sr hk) (jK sr hx) h2;exact⟨q1,q2,xW.skip (by simp [execOp,g1]) ⟨E',g2,g3,sO⟩⟩
   obtain⟨pc',hp',h2⟩:=wM hp h2;obtain⟨H,e1,rfl,rfl⟩:=Gj h2;obtain⟨w',g1,g2,g3⟩:=CQ htt hp' r h1 (jK sr hk) (jK sr hx) e1;exact⟨rfl,hp',xW.skip (by simp [execOp,g1]) ⟨E,g2,g3,sO⟩⟩
  ·simp [T.leaf] at h2
 case load t x=>
  obtain⟨u,h1,h2⟩:=jF sr h;split at h2
  ·obtain⟨q1,q2,q3,y,b,off,g1,g2,g3⟩:=aaJ htt r hp h1 h2;exact⟨q1,q3,xW.value (u:=y) (by simp [execOp,Instr.loadAt,g1,Instr.sureAddr,g2]) ⟨E,by rw [q2]; exact Stp.refl _ _ _,by rw [q2]; exact r,g3⟩⟩
  obtain⟨e1,rfl⟩:=kX h2;obtain⟨y,b,off,g1,g2,g3⟩:=Jd htt r h1 e1;exact oN.pure hp r (u:=y) (by simp [execOp,Instr.loadAt,g1,Instr.sureAddr,g2]) g3
 case store t x y=>
  obtain⟨u,h1,h2⟩:=jF sr h;split at h2
  ·rename_i yv hy;obtain⟨yv',pc',hp',hyv,h2⟩:=asX hp (jK sr hy) h2;split at h2
   ·obtain⟨q1,q2,rfl,w',E',g1,g2,g3⟩:=XY htt (s:={ s with pc:=pc' }) r hp' h1 hyv h2;exact⟨q1,q2,xW.skip (by simp [execOp,g1]) ⟨E',g2,g3,sO⟩⟩
   obtain⟨H,e1,rfl,rfl⟩:=Gj h2;obtain⟨w',g1,g2,g3⟩:=aaC htt r h1 hyv e1;exact⟨rfl,hp',xW.skip (by simp [execOp,g1]) ⟨E,g2,g3,sO⟩⟩
  ·simp [T.leaf] at h2
 case nilCheck x=>
  obtain⟨u,h1,h2⟩:=jF sr h;split at h2
  ·have:=aH h2;simp only [Prod.mk.injEq] at this;obtain⟨rfl,rfl⟩:=this;have h1':=h1;simp only [VR] at h1;exact oN.pure hp r (u:=a.eval x) (by simp [execOp,h1.1]) h1'
  ·have:=aH h2;simp only [Prod.mk.injEq] at this;obtain⟨rfl,rfl⟩:=this;have h1':=h1;simp only [VR] at h1;obtain⟨b,off,us,hu,_⟩:=h1;exact oN.pure hp r (u:=a.eval x) (by simp [execOp,hu]) h1'
  ·have:=aH h2;simp only [Prod.mk.injEq] at this;obtain⟨rfl,rfl⟩:=this;have h1':=h1;simp only [VR] at h1;obtain⟨_,k,_,hu⟩:=h1;exact oN.pure hp r (u:=a.eval x) (by simp [execOp,hu]) h1'
  ·simp [T.leaf] at h2
 case binOp bop t x y yt=>
  obtain⟨u,h1,h2⟩:=jF sr h;split at h2
  ·rename_i yv hy;have hyv:=jK sr hy;split at h2
   ·rename_i xs;simp only [VR] at h1;obtain⟨us,hus,h1⟩:=h1;split at h2
    ·rename_i ys;simp only [VR] at hyv;obtain⟨vs,hvs,hyv⟩:=hyv;split at h2
     ·rename_i c hcc;have:=aH h2;simp only [Prod.mk.injEq] at this;obtain⟨rfl,rfl⟩:=this;obtain⟨g1,g2,g3⟩:=OM (w:=w) htt h1 hyv hcc .eql x y;exact oN.pure hp r (u:=.bool (c.den E.ρ)) (by simp [execOp,hus,hvs,g1,g2]) (by simp only [VR])
     ·simp [T.leaf] at h2
    ·rename_i ys;simp only [VR] at hyv;obtain⟨vs,hvs,hyv⟩:=hyv;split at h2
     ·rename_i c hcc;have:=aH h2;simp only [Prod.mk.injEq] at this;obtain⟨rfl,rfl⟩:=this;obtain⟨g1,g2,g3⟩:=OM (w:=w) htt h1 hyv hcc .neq x y;exact oN.pure hp r (u:=.bool (!(c.den E.ρ))) (by simp [execOp,hus,hvs,g1,g3]) (by simp only [VR,rM])
     ·simp [T.leaf] at h2
    ·simp [T.leaf] at h2
   ·split at h2
    ·rename_i e hna;obtain⟨q1,q2,q3,y',g1,g2,g3,g4⟩:=avV (P:=P) (w:=w) htt hna h1 hyv hp h2;exact⟨q1,q3,xW.value (u:=y') (by simp [execOp,CX (P:=P) (w:=w) g3 g4,g1]) ⟨E,by rw [q2]; exact Stp.refl _ _ _,by rw [q2]; exact r,g2⟩⟩
    split at h2
    ·rename_i k e d hrl;obtain⟨rfl,hu1,hu2⟩:=agL hrl h1 hyv;obtain⟨q1,q2,q3,hne,q4⟩:=avK hp h2;refine⟨q1,q3,xW.value (u:=.int k ((e.den E.ρ).tmod (d.den E.ρ))) (w':=w) ?_ ⟨E,by rw [q2]; exact Stp.refl _ _ _,by rw [q2]; exact r,q4 _⟩⟩;simp [execOp,hu1,hu2,binOp,Op.intDiv,hne,eqGuard]
    split at h2
    ·rename_i x' y' hsp;obtain⟨q1,q2,q3,⟨y'',g1,g2⟩,g3,g4⟩:=ahU (P:=P) (w:=w) (t:=t) hp h1 hyv hsp h2;exact⟨q1,q3,xW.value (u:=y'') (by simp [execOp,CX (P:=P) (w:=w) g3 g4,g1]) ⟨E,by rw [q2]; exact Stp.refl _ _ _,by rw [q2]; exact r,g2⟩⟩
    ·obtain⟨e1,rfl⟩:=kX h2;obtain⟨⟨y',g1,g2⟩,g3,g4⟩:=apC (w:=w) htt h1 hyv e1;exact oN.pure hp r (u:=y') (by simp [execOp,CX (P:=P) (w:=w) g3 g4,g1]) g2
  ·simp [T.leaf] at h2
 case unOp uop t x=>
  obtain⟨u,h1,h2⟩:=jF sr h;obtain⟨e1,rfl⟩:=kX h2;obtain⟨y,g1,g2⟩:=axQ (P:=P) (w:=w) h1 e1;exact oN.pure hp r (u:=y) (by simp [execOp,g1]) g2
 case convert sT dT x=>
  obtain⟨u,h1,h2⟩:=jF sr h;split at h2
  ·obtain⟨q1,q2,y,w',E',g1,g2,g3,g4⟩:=aaR (P:=P) htt r hp h1 h2;exact⟨q1,q2,xW.value (u:=y) (by simp [execOp,g1]) ⟨E',g2,g3,g4⟩⟩
  obtain⟨H,e1,rfl⟩:=vU h2;obtain⟨y,w',E',g1,g2,g3,g4⟩:=Hl htt r h1 e1;exact oN.heap hp (u:=y) (by simp [execOp,g1]) g2 g3 g4
 case makeFunc fn fs cs=>
  split at h
  ·rename_i f c hf hcs;have:=aH h;simp only [Prod.mk.injEq] at this;obtain⟨rfl,rfl⟩:=this;have h1:=Vo sr hf;have h2:=Vo sr hcs;refine oN.pure hp r (u:=.func fn (fs.map a.eval) (cs.map a.eval)) (by simp [execOp,Instr.makeFunc]) ?_;simp only [VR];have m1:fs.map a.eval=(fs.toList.map a.eval).toArray:=Wi _ _;have m2:cs.map a.eval=(cs.toList.map a.eval).toArray:=Wi _ _;exact⟨_,_,by rw [m1,m2],h1,h2⟩
  ·simp [T.leaf] at h
 case makeMap t res=>
  split at h
  ·split at h
   ·rename_i m hm;have:=aH h;simp only [Prod.mk.injEq] at this;obtain⟨rfl,rfl⟩:=this
    obtain⟨s1,s2⟩:=Gw r (.map #[] 0) (.iY (.dat (.i 0)) m) 0 (w':={ w with heap:=w.heap.push (.map #[] 0) }) rfl ⟨rfl,rfl,rfl⟩ (by
     simp only [OR,En.ext_θ_new]
     exact⟨#[],0,by simp,by simp [oO,SE.den,aG,D.l]⟩)
    exact oN.heap hp (u:=.map (some w.heap.size)) (by simp [execOp,Instr.makeMap]) s1 s2 (by simp only [VR,En.ext_θ_new]; exact⟨trivial,En.jL _ _ _ _⟩)
   have:=aH h;simp only [Prod.mk.injEq] at this;obtain⟨rfl,rfl⟩:=this
   obtain⟨s1,s2⟩:=Gw r (.map #[] 0) (.map [] 0) 0 (w':={ w with heap:=w.heap.push (.map #[] 0) }) rfl ⟨rfl,rfl,rfl⟩ (by
    simp only [OR,En.ext_θ_new]
    exact⟨#[],0,by simp,by simp [fB]⟩)
   exact oN.heap hp (u:=.map (some w.heap.size)) (by simp [execOp,Instr.makeMap]) s1 s2 (by simp only [VR,En.ext_θ_new]; exact⟨trivial,En.jL _ _ _ _⟩)
  ·simp [T.leaf] at h
 case slice t x lo hi mx=>
  obtain⟨u,h1,h2⟩:=jF sr h;split at h2
  ·rename_i l hh m hl hhh hm;split at h2
   ·obtain⟨q1,q2,q3,y,g1,g2⟩:=aaO (w:=w) htt hp h1 (fV sr hl) (fV sr hhh) (fV sr hm) h2;exact⟨q1,q3,xW.value (u:=y) (by simp [execOp,g1]) ⟨E,by rw [q2]; exact Stp.refl _ _ _,by rw [q2]; exact r,g2⟩⟩
   ·obtain⟨q1,q2,q3,y,g1,g2⟩:=OB htt r hp (abO h1) (fV sr hl) (fV sr hhh) (fV sr hm) h2;exact⟨q1,q3,xW.value (u:=y) (by simp [execOp,g1]) ⟨E,by rw [q2]; exact Stp.refl _ _ _,by rw [q2]; exact r,g2⟩⟩
   ·obtain⟨q1,q2,q3,y,g1,g2⟩:=OB htt r hp h1 (fV sr hl) (fV sr hhh) (fV sr hm) h2;exact⟨q1,q3,xW.value (u:=y) (by simp [execOp,g1]) ⟨E,by rw [q2]; exact Stp.refl _ _ _,by rw [q2]; exact r,g2⟩⟩
   ·obtain⟨q1,q2,q3,y,g1,g2⟩:=Z9 (w:=w) htt hp h1 (fV sr hl) (fV sr hhh) (fV sr hm) h2;exact⟨q1,q3,xW.value (u:=y) (by simp [execOp,g1]) ⟨E,by rw [q2]; exact Stp.refl _ _ _,by rw [q2]; exact r,g2⟩⟩
   ·obtain⟨q1,q2,q3,y,g1,g2⟩:=aaM (w:=w) htt hp h1 (fV sr hl) (fV sr hhh) (fV sr hm) h2;exact⟨q1,q3,xW.value (u:=y) (by simp [execOp,g1]) ⟨E,by rw [q2]; exact Stp.refl _ _ _,by rw [q2]; exact r,g2⟩⟩
   split at h2
   ·rename_i v' e1;have:=aH h2;simp only [Prod.mk.injEq] at this;obtain⟨rfl,rfl⟩:=this;obtain⟨y,g1,g2⟩:=aaD (w:=w) htt h1 (fV sr hl) (fV sr hhh) (fV sr hm) e1;exact oN.pure hp r (u:=y) (by simp [execOp,g1]) g2
   ·obtain⟨e1,rfl⟩:=kX h2;obtain⟨y,g1,g2⟩:=XZ (w:=w) htt r h1 (fV sr hl) (fV sr hhh) (fV sr hm) e1;exact oN.pure hp r (u:=y) (by simp [execOp,g1]) g2
  ·simp [T.leaf] at h2
 case fieldAddr t x f=>
  obtain⟨u,h1,h2⟩:=jF sr h;obtain⟨e1,rfl⟩:=kX h2;obtain⟨y,g1,g2⟩:=OL (w:=w) htt h1 e1;exact oN.pure hp r (u:=y) (by simp [execOp,g1]) g2
 case field t x f=>
  obtain⟨u,h1,h2⟩:=jF sr h;obtain⟨e1,rfl⟩:=kX h2;obtain⟨y,g1,g2⟩:=aaL (w:=w) htt h1 e1;exact oN.pure hp r (u:=y) (by simp [execOp,g1]) g2
 case indexAddr t x i=>
  obtain⟨u,h1,h2⟩:=jF sr h;split at h2
  ·rename_i iv hi;split at h2
   ·obtain⟨e1,rfl⟩:=kX h2;obtain⟨y,g1,g2⟩:=aaK (w:=w) htt hp h1 (jK sr hi) e1;exact oN.pure hp r (u:=y) (by simp [execOp,g1]) g2
   ·obtain⟨q1,q2,q3,y,g1,g2⟩:=aaP (w:=w) htt hp h1 (jK sr hi) h2;exact⟨q1,q3,xW.value (u:=y) (by simp [execOp,g1]) ⟨E,by rw [q2]; exact Stp.refl _ _ _,by rw [q2]; exact r,g2⟩⟩
   ·obtain⟨q1,q2,q3,y,g1,g2⟩:=Z8 (w:=w) htt hp h1 (jK sr hi) h2;exact⟨q1,q3,xW.value (u:=y) (by simp [execOp,g1]) ⟨E,by rw [q2]; exact Stp.refl _ _ _,by rw [q2]; exact r,g2⟩⟩
   ·obtain⟨q1,q2,q3,y,g1,g2⟩:=Z7 (w:=w) htt hp h1 (jK sr hi) h2;exact⟨q1,q3,xW.value (u:=y) (by simp [execOp,g1]) ⟨E,by rw [q2]; exact Stp.refl _ _ _,by rw [q2]; exact r,g2⟩⟩
   ·rename_i pid po;split at h2
    ·rename_i n e hb;split at h2
     ·rename_i ho;subst ho;obtain⟨kd,ti,el,ie,rfl,b1,b2,b3,b4,b5⟩:=PL hb;obtain⟨pc',hp',t1,t2,h3⟩:=sD hp h2;have:=aH h3;simp only [Prod.mk.injEq] at this;obtain⟨rfl,rfl⟩:=this;have hiv:=jK sr hi;simp only [VR] at hiv;simp only [SE.den] at t2;obtain⟨k,hk⟩ : ∃k:Nat,e.den E.ρ=(k:Int):=⟨(e.den E.ρ).toNat,by omega⟩;have hlt:k < n:=by simp at t2; omega
      rw [hk] at hiv
      obtain⟨y,g1,g2⟩:=vZ (P:=P) (w:=w) htt (t:=t) (ix:=.int kd (.lit (Int.ofNat k))) h1 (by simp only [VR,SE.den]; exact hiv) (v:=.ptr pid (0+k*ie.size)) (by
       unfold tV;simp only [nC,b1,b2,jX,b3,Option.map_some];rw [if_pos hlt]
       rfl)
      refine⟨rfl,hp',xW.value (u:=y) (by simp [execOp,g1]) ⟨E,Stp.refl _ _ _,r,?_⟩⟩;simp only [VR] at g2 ⊢;exact⟨g2.2,k,hk,by rw [g2.1,b4]; congr 3; omega⟩
     ·simp [T.leaf] at h2
    ·obtain⟨ix',pc',hp',hix,h2⟩:=Ib hp (jK sr hi) h2;obtain⟨e1,rfl⟩:=kX h2;obtain⟨y,g1,g2⟩:=vZ (w:=w) htt h1 hix e1;exact⟨rfl,hp',xW.value (u:=y) (by simp [execOp,g1]) ⟨E,Stp.refl _ _ _,r,g2⟩⟩
   ·obtain⟨ix',pc',hp',hix,h2⟩:=Ib hp (jK sr hi) h2;obtain⟨e1,rfl⟩:=kX h2;obtain⟨y,g1,g2⟩:=vZ (w:=w) htt h1 hix e1;exact⟨rfl,hp',xW.value (u:=y) (by simp [execOp,g1]) ⟨E,Stp.refl _ _ _,r,g2⟩⟩
  ·simp [T.leaf] at h2
 case index t x i=>
  obtain⟨u,h1,h2⟩:=jF sr h;split at h2
  ·rename_i iv hi;split at h2
   ·obtain⟨q1,q2,q3,y,g1,g2⟩:=aaA (w:=w) htt hp h1 (jK sr hi) h2;exact⟨q1,q3,xW.value (u:=y) (by simp [execOp,g1]) ⟨E,by rw [q2]; exact Stp.refl _ _ _,by rw [q2]; exact r,g2⟩⟩
   ·rename_i cs;split at h2
    ·rename_i n e hb;split at h2
     ·rename_i hn;have hn:=Nat.eq_of_beq_eq_true hn;obtain⟨kd,ti,el,ie,rfl,b1,b2,b3,b4,b5⟩:=PL hb;obtain⟨q1,q2,q3,k,kk,z,x',c1,c2,c3,rfl,c5⟩:=XU hp h2;have hiv:=jK sr hi;simp only [VR] at hiv;rw [c1] at hiv;obtain⟨l,hd⟩:=Jg c3
      obtain⟨y,g1,g2⟩:=Fq (P:=P) (w:=w) htt (t:=t) (ix:=.int kd (.lit (Int.ofNat k))) h1 (by simp only [VR,SE.den]; exact hiv) (v:=.int kk (.lit z)) (by
       unfold Hf;simp only [nC,b1,b2,b3];rw [if_pos (by omega),b4,Nat.mul_one,hd]
       simp [partOf,b5])
      refine⟨q1,q3,xW.value (u:=y) (w':=w) (by simp [execOp,g1]) ⟨E,by rw [q2]; exact Stp.refl _ _ _,by rw [q2]; exact r,?_⟩⟩;simp only [VR,SE.den] at g2 ⊢;rw [g2,c5]
     ·simp [T.leaf] at h2
    ·obtain⟨ix',pc',hp',hix,h2⟩:=Ib hp (jK sr hi) h2;obtain⟨e1,rfl⟩:=kX h2;obtain⟨y,g1,g2⟩:=Fq (w:=w) htt h1 hix e1;exact⟨rfl,hp',xW.value (u:=y) (by simp [execOp,g1]) ⟨E,Stp.refl _ _ _,r,g2⟩⟩
   obtain⟨ix',pc',hp',hix,h2⟩:=Ib hp (jK sr hi) h2;obtain⟨e1,rfl⟩:=kX h2;obtain⟨y,g1,g2⟩:=Fq (w:=w) htt h1 hix e1;exact⟨rfl,hp',xW.value (u:=y) (by simp [execOp,g1]) ⟨E,Stp.refl _ _ _,r,g2⟩⟩
  ·simp [T.leaf] at h2
 case lookup t m k ok=>
  obtain⟨u,h1,h2⟩:=jF sr h;split at h2
  ·rename_i kv hk;split at h2
   ·rename_i id e t' hat
    obtain⟨q1,q2,q3,y,g1,g2⟩:=aaI (P:=P) htt r hp h1 (jK sr hk) hat h2;exact⟨q1,q3,xW.value (u:=y) (by simp [execOp,g1]) ⟨E,by rw [q2]; exact Stp.refl _ _ _,by rw [q2]; exact r,g2⟩⟩
   obtain⟨pc',hp',h2⟩:=wM hp h2;obtain⟨e1,rfl⟩:=kX h2;obtain⟨y,g1,g2⟩:=X4 htt hp' r h1 (jK sr hk) e1;exact⟨rfl,hp',xW.value (u:=y) (by simp [execOp,g1]) ⟨E,Stp.refl _ _ _,r,g2⟩⟩
  ·simp [T.leaf] at h2
 case mapUpdate t m k x=>
  obtain⟨u,h1,h2⟩:=jF sr h;split at h2
  ·rename_i kv xv hk hx;split at h2
   ·obtain⟨q1,q2,rfl,w',E',g1,g2,g3⟩:=Tt (P:=P) htt r hp h1 (jK sr hk) (jK sr hx) h2;exact⟨q1,q2,xW.skip (by simp [execOp,g1]) ⟨E',g2,g3,sO⟩⟩
   obtain⟨pc',hp',h2⟩:=wM hp h2;obtain⟨H,e1,rfl,rfl⟩:=Gj h2;obtain⟨w',g1,g2,g3⟩:=CQ htt hp' r h1 (jK sr hk) (jK sr hx) e1;exact⟨rfl,hp',xW.skip (by simp [execOp,g1]) ⟨E,g2,g3,sO⟩⟩
  ·simp [T.leaf] at h2
 case range t x=>
  obtain⟨u,h1,h2⟩:=jF sr h;obtain⟨H,e1,rfl⟩:=vU h2;obtain⟨y,w',E',g1,g2,g3,g4⟩:=aaE htt r h1 e1;exact oN.heap hp (u:=y) (by simp [execOp,g1]) g2 g3 g4
 case next x isS=>
  obtain⟨u,h1,h2⟩:=jF sr h;obtain⟨H,e1,rfl⟩:=vU h2;obtain⟨y,w',g1,g2,g3,g4⟩:=ahW (P:=P) r h1 e1 type;exact oN.heap hp (u:=y) (by simp [execOp,g1]) g2 g3 g4
 case extract x i=>
  obtain⟨u,h1,h2⟩:=jF sr h;split at h2
  ·rename_i vs;obtain⟨e1,rfl⟩:=kX h2;simp only [VR] at h1;obtain⟨us,hus,h1⟩:=h1;obtain⟨y,g1,g2⟩:=h1.nth e1;exact oN.pure hp r (u:=y) (by simp [execOp,Instr.extract,hus,g1]) g2
  ·simp [T.leaf] at h2
 case call c=>exact aiA htt hc r sr hp rfl h
end
end Go.As
end
section
namespace Go.As
section
variable {P:Program}
structure Fit [Glob] (E:En) (s:St) (a:Act) (w:World):Prop where
 rel:bF E s.h w
 sr:SR E w.heap s.slots a
 pc:bI E.ρ s.pc
structure Then [Glob] (E:En) (s:St) (a:Act) (w:World) (s':St) (a':Act) (w':World):Prop where
 defers:a'.defers=a.defers
 size:a'.tmps.size=a.tmps.size
 step: ∃E',Stp E s.h w E' s'.h w'∧Fit E' s' a' w'
theorem Then.refl [Glob] {E:En} {s:St} {a:Act} {w:World} (f:Fit E s a w):Then E s a w s a w:=⟨rfl,rfl,E,Stp.refl _ _ _,f⟩
theorem SR.keep {E E':En} {h h':Array Obj} (k:Keeps E h E' h') {slots:Tr AV} {a:Act} (sr:SR E h slots a):SR E' h' slots a:=by intro t v ht;obtain⟨u,h1,h2⟩:=sr t v ht;exact⟨u,h1,VR.keep k v u h2⟩
theorem SR.put {E:En} {h:Array Obj} {slots:Tr AV} {a:Act} (sr:SR E h slots a) {d:Nat} {v:AV} {u:Value} (hd:d < a.tmps.size) (hv:VR E h v u):SR E h (slots.put d (some v)) (a.put (some d) u):=by
 intro t x ht;rw [Tr.get_put] at ht;simp only [Act.put];split at ht
 ·rename_i e;subst e;simp at ht;subst ht;exact⟨u,by simp [hd],hv⟩
 ·rename_i e;obtain⟨y,h1,h2⟩:=sr t x ht;exact⟨y,by rw [Array.getElem?_setIfInBounds_ne (fun q=>e q.symm)]; exact h1,h2⟩
theorem SR.aFP {E:En} {h:Array Obj} {s:St} {a:Act} (sr:SR E h s.slots a) {d:Option Nat} {v:AV} {u:Value} (hd: ∀t,d=some t→t < a.tmps.size) (hv:VR E h v u):SR E h (s.Xc d v).slots (a.put d u):=by
 cases d with
 | none=>exact sr
 | some t=>exact sr.put (hd t rfl) hv
theorem Nz (a:Act) (d:Option Nat) (u:Value):(a.put d u).tmps.size=a.tmps.size:=by cases d <;> simp [Act.put]
theorem put_defers (a:Act) (d:Option Nat) (u:Value):(a.put d u).defers=a.defers:=by cases d <;> rfl
theorem alV (s:St) (d:Option Nat) (v:AV):(s.Xc d v).h=s.h:=by cases d <;> rfl
theorem avD (s:St) (d:Option Nat) (v:AV):(s.Xc d v).pc=s.pc:=by cases d <;> rfl
theorem Ti [Glob] {E:En} {s s':St} {a:Act} {w w':World} {v:AV} {u:Value} {d:Option Nat} (f:Fit E s a w) (hs:s'.slots=s.slots) (hp:bI E.ρ s'.pc) (h:After E s w v s' u w') (hd: ∀t,d=some t→t < a.tmps.size) :
 Then E s a w (s'.Xc d v) (a.put d u) w':=by
 obtain⟨E',h1,h2,h3⟩:=h;refine⟨put_defers _ _ _,Nz _ _ _,E',by rw [alV]; exact h1,⟨by rw [alV]; exact h2,?_,by rw [avD,h1.ρ]; exact hp⟩⟩;refine SR.aFP ?_ hd h3;rw [hs];exact f.sr.keep (h1.keeps f.rel)
theorem Then.trans [Glob] {E:En} {s s1 s2:St} {a a1 a2:Act} {w w1 w2:World} (h1:Then E s a w s1 a1 w1) (h2: ∀E1,Stp E s.h w E1 s1.h w1→Fit E1 s1 a1 w1→Then E1 s1 a1 w1 s2 a2 w2):Then E s a w s2 a2 w2:=by obtain⟨d1,z1,E1,st1,f1⟩:=h1;obtain⟨d2,z2,E2,st2,f2⟩:=h2 E1 st1 f1;exact⟨d2.trans d1,z2.trans z1,E2,st1.trans st2,f2⟩
theorem NS [Glob] {α:Type} {E:En} {w:World} {s:St} {a:Act} {ops:Array Oper} {o:Oper} {f:St→Bool→T α} {r:α} (fit:Fit E s a w) (h:(DK ops.toList s o f).leaf E.ρ=some r) :
 ∃pc',bI E.ρ pc'∧(f { s with pc:=pc' } (Region.wanted o (yielded ops a.tmps))).leaf E.ρ=some r:=by
 unfold DK at h;unfold Region.wanted;split at h
 ·rename_i hg;rw [hg];exact⟨s.pc,fit.pc,h⟩
 ·rename_i j want hg;rw [hg];split at h
  ·rename_i oj hj;rw [dB,Array.getElem?_toList] at hj;split at h
   ·rename_i d hd;split at h
    ·rename_i c hc;obtain⟨u,h1,h2⟩:=fit.sr d _ hc;simp only [VR] at h2;subst h2;obtain⟨pc',hp',h3⟩:=cO fit.pc h;refine⟨pc',hp',?_⟩;have:yielded ops a.tmps j=some (c.den E.ρ):=by simp [yielded,hj,hd,h1]
     simp only [this];simpa using h3
    ·rename_i vs hc;obtain⟨u,h1,h2⟩:=fit.sr d _ hc;simp only [VR] at h2;obtain⟨us,rfl,_⟩:=h2;refine⟨s.pc,fit.pc,?_⟩;have:yielded ops a.tmps j=none:=by simp [yielded,hj,hd,h1]
     simp only [this];simpa using h
    ·simp [T.leaf] at h
   ·simp [T.leaf] at h
  ·simp [T.leaf] at h
def aC8 (n:Nat) (ops:List Oper):Bool:=ops.all fun o=>match o.dst with | some d=>d < n | none=>true
theorem OH [Glob] {tt:TT} (htt:eP P tt) {call:dU} (hc:jU P call) {ops:Array Oper} {Q:Exit→Act→World→Prop}: ∀(rest:List Oper) (i:Nat) {E:En} {s s':St} {a:Act} {w:World},ops.toList.drop i=rest→
 (∀o∈rest,∀d,o.dst=some d→d < a.tmps.size)→Fit E s a w→(X3 tt call ops.toList rest s).leaf E.ρ=some s'→
 (∀a' w',Then E s a w s' a' w'→Q .normal a' w')→wpOps P ops Q (List.range' i rest.length) a w
 | [],i,E,s,s',a,w,_,_,fit,h,hq=>by have:=aH h;subst this;exact hq a w (Then.refl fit)
 | o :: rest,i,E,s,s',a,w,hi,hd,fit,h,hq=>by
   simp only [X3] at h;obtain⟨pc',hp',h1⟩:=NS fit h
   have hoi:ops[i]?=some o:=by have:=congrArg (·[0]?) hi;simpa using this
   have hrest:ops.toList.drop (i+1)=rest:=by have:=congrArg List.tail hi;simpa using this
   have fit':Fit E { s with pc:=pc' } a w:=⟨fit.rel,fit.sr,hp'⟩;simp only [List.length_cons,List.range'_succ];show wpOps P ops Q (i :: List.range' (i+1) rest.length) a w;simp only [wpOps,hoi];cases hw:Region.wanted o (yielded ops a.tmps) <;> rw [hw] at h1
   ·simp only [Bool.false_eq_true,if_false] at h1 ⊢
    have hstep:Then E s a w (St.Xc { s with pc:=pc' } o.dst AV.undef) (a.put o.dst undef) w:=
     Ti (s':={ s with pc:=pc' }) fit rfl hp' ⟨E,Stp.refl _ _ _,fit.rel,sO⟩ (hd o (by simp))
    obtain⟨d1,z1,E1,st1,f1⟩:=hstep;refine OH htt hc rest (i+1) hrest (fun o' ho' d hd'=>by rw [z1]; exact hd o' (by simp [ho']) d hd') f1 (by rw [st1.ρ]; exact h1) fun a' w' ht=>?_;exact hq a' w' ⟨ht.defers.trans d1,ht.size.trans z1,by obtain⟨E2,st2,f2⟩:=ht.step; exact⟨E2,st1.trans st2,f2⟩⟩
   ·simp only [if_true] at h1 ⊢;left;obtain⟨⟨v,s1⟩,h2,h3⟩:=T.fU h1;obtain⟨q1,q2,q3⟩:=aeQ htt hc (o:=o) fit'.rel fit'.sr fit'.pc h2;refine q3 _ _ fun u w1 hu=>?_;have hstep:Then E s a w (s1.Xc o.dst v) (a.put o.dst u) w1:=Ti (s:=s) (s':=s1) fit q1 q2 hu (hd o (by simp));obtain⟨d1,z1,E1,st1,f1⟩:=hstep;refine OH htt hc rest (i+1) hrest (fun o' ho' d hd'=>by rw [z1]; exact hd o' (by simp [ho']) d hd') f1 (by rw [st1.ρ]; exact h3) fun a' w' ht=>?_;exact hq a' w' ⟨ht.defers.trans d1,ht.size.trans z1,by obtain⟨E2,st2,f2⟩:=ht.step; exact⟨E2,st1.trans st2,f2⟩⟩
def ayW [Glob] (P:Program) (draw:List Oper→St→T St):Prop:=
 ∀(id:Nat) (ops:Array Oper) (E:En) (s s':St) (a:Act) (w:World) (Q:Exit→Act→World→Prop),(∀o∈ops.toList,∀d,o.dst=some d→d < a.tmps.size)→Fit E s a w→(draw ops.toList s).leaf E.ρ=some s'→
  (∀a' w',Then E s a w s' a' w'→Q .normal a' w')→(Code.region id ops true).wp P Q a w
def Dp [Glob] (P:Program) (chk:Nat→List Oper→Bool) (draw:Nat→List Oper→St→T St):Prop:=
 ∀(id:Nat) (ops:Array Oper),chk id ops.toList=true→∀(E:En) (s s':St) (a:Act) (w:World) (Q:Exit→Act→World→Prop),(∀o∈ops.toList,∀d,o.dst=some d→d < a.tmps.size)→Fit E s a w→(draw id ops.toList s).leaf E.ρ=some s'→
  (∀a' w',Then E s a w s' a' w'→Q .normal a' w')→(Code.region id ops true).wp P Q a w
def mJ (chk:Nat→List Oper→Bool) (n:Nat):Code→Bool
 | .region id ops d=>aC8 n ops.toList && (!d || chk id ops.toList)
 | .seq a b=>mJ chk n a && mJ chk n b
 | .cond _ a b=>mJ chk n a && mJ chk n b
 | .block _ b=>mJ chk n b
 | .loop b=>mJ chk n b
 | .scope b=>mJ chk n b
 | _=>true
theorem axZ {n m:Nat} {ops:List Oper} (h:aC8 n ops=true) (hm:n≤m): ∀o∈ops,∀d,o.dst=some d→d < m:=by intro o ho d hd;unfold aC8 at h;rw [List.all_eq_true] at h;have:=h o ho;rw [hd] at this;simp at this;exact Nat.lt_of_lt_of_le this hm
def EP:Ex→Exit
 | .normal=> .normal
 | .exit id=> .exit id
 | .ret=> .ret
def Post [Glob] (E:En) (s:St) (a:Act) (w:World) (e:Ex) (s':St) (x:Exit) (a':Act) (w':World):Prop:=x=EP e∧Then E s a w s' a' w'
theorem Then.comp [Glob] {E E1:En} {s s1 s2:St} {a a1 a2:Act} {w w1 w2:World} (d1:a1.defers=a.defers) (z1:a1.tmps.size=a.tmps.size) (st1:Stp E s.h w E1 s1.h w1) (h2:Then E1 s1 a1 w1 s2 a2 w2):Then E s a w s2 a2 w2:=by obtain⟨d2,z2,E2,st2,f2⟩:=h2;exact⟨d2.trans d1,z2.trans z1,E2,st1.trans st2,f2⟩
def atT [Glob] (P:Program) (c:Code) (n:Nat) (f:St→T (Ex×St)):Prop:=
 ∀(E:En) (s s':St) (e:Ex) (a:Act) (w:World),n≤a.tmps.size→Fit E s a w→(f s).leaf E.ρ=some (e,s')→c.wp P (Post E s a w e s') a w
theorem OI {ρ:Nat→Int} {f:St→T (Ex×St)}: ∀(k:Nat) {s s':St} {e:Ex},(CV f k s).leaf ρ=some (e,s')→e≠.normal
 | 0,s,s',e,h=>by simp [CV,T.leaf] at h
 | k+1,s,s',e,h=>by
   simp only [CV] at h;obtain⟨⟨e1,s1⟩,h1,h2⟩:=T.fU h
   cases e1 with
   | normal=>exact OI k h2
   | exit id=>have:=aH h2; simp only [Prod.mk.injEq] at this; rw [← this.1]; simp
   | ret=>have:=aH h2; simp only [Prod.mk.injEq] at this; rw [← this.1]; simp
theorem Tz [Glob] {c:Code} {n:Nat} {f:St→T (Ex×St)} (hf:atT P c n f): ∀(k:Nat) {E:En} {s s':St} {e:Ex} {a:Act} {w:World},n≤a.tmps.size→Fit E s a w→(CV f k s).leaf E.ρ=some (e,s')→
 ∀(Q:Exit→Act→World→Prop),(∀a' w',Then E s a w s' a' w'→Q (EP e) a' w')→e≠.normal∧Code.rounds P c Q k a w
 | 0,E,s,s',e,a,w,_,_,h,_,_=>by simp [CV,T.leaf] at h
 | k+1,E,s,s',e,a,w,hn,fit,h,Q,hq=>by
   simp only [CV] at h;obtain⟨⟨e1,s1⟩,h1,h2⟩:=T.fU h;have hw:=hf E s s1 e1 a w hn fit h1;rw [rounds_succ]
   cases e1 with
   | normal=>
     simp only at h2;constructor
     ·exact OI k h2
     ·refine wp_mono hw fun x a1 w1 ⟨hx,ht⟩=>?_;subst hx;obtain⟨d1,z1,E1,st1,f1⟩:=ht;exact (Tz hf k (by rw [z1]; exact hn) f1 (by rw [st1.ρ]; exact h2) Q fun a' w' ht'=>hq a' w' (ht'.comp d1 z1 st1)).2
   | exit id=> have:=aH h2;simp only [Prod.mk.injEq] at this;obtain⟨rfl,rfl⟩:=this;refine⟨by simp,wp_mono hw fun x a1 w1 ⟨hx,ht⟩=>?_⟩;subst hx;exact hq a1 w1 ht
   | ret=> have:=aH h2;simp only [Prod.mk.injEq] at this;obtain⟨rfl,rfl⟩:=this;refine⟨by simp,wp_mono hw fun x a1 w1 ⟨hx,ht⟩=>?_⟩;subst hx;exact hq a1 w1 ht
theorem nU [Glob] {tt:TT} (htt:eP P tt) {call:dU} (hc:jU P call) {draw:Nat→List Oper→St→T St} {chk:Nat→List Oper→Bool} (hdr:Dp P chk draw) {lf n:Nat}: ∀(c:Code),mJ chk n c=true→atT P c n (lC tt call draw lf c)
 | .skip,_,E,s,s',e,a,w,_,fit,h=>by have:=aH h;simp only [Prod.mk.injEq] at this;obtain⟨rfl,rfl⟩:=this;exact wp_skip ⟨rfl,Then.refl fit⟩
 | .region id ops d,hdst,E,s,s',e,a,w,hn,fit,h=>by
   simp only [lC] at h;simp only [mJ,Bool.and_eq_true] at hdst;have hd:=axZ hdst.1 hn;cases d
   ·simp only [Bool.false_eq_true,if_false] at h;obtain⟨s1,h1,h2⟩:=T.fU h;have:=aH h2;simp only [Prod.mk.injEq] at this;obtain⟨rfl,rfl⟩:=this;refine wp_region ?_;have:=OH (Q:=Post E s a w .normal s1) htt hc ops.toList 0 (by simp) hd fit h1 (fun a' w' ht=> ⟨rfl,ht⟩);rw [List.range_eq_range'];simpa using this
   ·simp only [if_true] at h;obtain⟨s1,h1,h2⟩:=T.fU h;have:=aH h2;simp only [Prod.mk.injEq] at this;obtain⟨rfl,rfl⟩:=this;exact hdr id ops (by simpa using hdst.2) E s s1 a w _ hd fit h1 (fun a' w' ht=> ⟨rfl,ht⟩)
 | .seq x y,hdst,E,s,s',e,a,w,hn,fit,h=>by
   simp only [mJ,Bool.and_eq_true] at hdst;simp only [lC] at h;obtain⟨⟨e1,s1⟩,h1,h2⟩:=T.fU h;refine wp_seq (wp_mono (nU htt hc hdr x hdst.1 E s s1 e1 a w hn fit h1) fun q a1 w1 ⟨hx,ht⟩=>?_);subst hx
   cases e1 with
   | normal=> simp only at h2;obtain⟨d1,z1,E1,st1,f1⟩:=ht;refine wp_mono (nU htt hc hdr y hdst.2 E1 s1 s' e a1 w1 (by rw [z1]; exact hn) f1 (by rw [st1.ρ]; exact h2)) fun q a2 w2 ⟨hx,ht'⟩=>?_;exact⟨hx,ht'.comp d1 z1 st1⟩
   | exit id=> have:=aH h2;simp only [Prod.mk.injEq] at this;obtain⟨rfl,rfl⟩:=this;exact⟨rfl,ht⟩
   | ret=> have:=aH h2;simp only [Prod.mk.injEq] at this;obtain⟨rfl,rfl⟩:=this;exact⟨rfl,ht⟩
 | .cond c x y,hdst,E,s,s',e,a,w,hn,fit,h=>by
   simp only [mJ,Bool.and_eq_true] at hdst;simp only [lC] at h;split at h
   ·rename_i cb hcb;have hv:=jK fit.sr hcb;simp only [VR] at hv;obtain⟨pc',hp',h1⟩:=cO fit.pc h;have fit':Fit E { s with pc:=pc' } a w:=⟨fit.rel,fit.sr,hp'⟩;refine wp_cond hv ?_;cases hcd:cb.den E.ρ <;> rw [hcd] at h1
    ·simp only [Bool.false_eq_true,if_false] at h1 ⊢;exact wp_mono (nU htt hc hdr y hdst.2 E _ s' e a w hn fit' h1) fun q a2 w2 ⟨hx,ht⟩=> ⟨hx,ht.defers,ht.size,ht.step⟩
    ·simp only [if_true] at h1 ⊢;exact wp_mono (nU htt hc hdr x hdst.1 E _ s' e a w hn fit' h1) fun q a2 w2 ⟨hx,ht⟩=> ⟨hx,ht.defers,ht.size,ht.step⟩
   ·simp [T.leaf] at h
 | .block id b,hdst,E,s,s',e,a,w,hn,fit,h=>by
   simp only [mJ] at hdst;simp only [lC] at h;obtain⟨⟨e1,s1⟩,h1,h2⟩:=T.fU h;refine wp_block (wp_mono (nU htt hc hdr b hdst E s s1 e1 a w hn fit h1) fun q a1 w1 ⟨hx,ht⟩=>?_);subst hx
   cases e1 with
   | normal=> have:=aH h2;simp only [Prod.mk.injEq] at this;obtain⟨rfl,rfl⟩:=this;exact⟨rfl,ht⟩
   | exit j=>
     have:=aH h2;simp only [Prod.mk.injEq] at this;obtain⟨rfl,rfl⟩:=this;simp only [EP,Exit.inBlock];by_cases hj:j=id
     ·rw [if_pos hj,if_pos hj]; exact⟨rfl,ht⟩
     ·rw [if_neg hj,if_neg hj]; exact⟨rfl,ht⟩
   | ret=> have:=aH h2;simp only [Prod.mk.injEq] at this;obtain⟨rfl,rfl⟩:=this;exact⟨rfl,ht⟩
 | .loop b,hdst,E,s,s',e,a,w,hn,fit,h=>by simp only [mJ] at hdst;simp only [lC] at h;exact wp_loop_rounds lf (Tz (nU htt hc hdr b hdst) lf hn fit h (Post E s a w e s') (fun a' w' ht=> ⟨rfl,ht⟩)).2
 | .exit id,_,E,s,s',e,a,w,_,fit,h=>by have:=aH h;simp only [Prod.mk.injEq] at this;obtain⟨rfl,rfl⟩:=this;exact wp_exit ⟨rfl,Then.refl fit⟩
 | .scope b,hdst,E,s,s',e,a,w,hn,fit,h=>by simp only [mJ] at hdst;simp only [lC] at h;refine wp_scope_straight (wp_mono (nU htt hc hdr b hdst E s s' e a w hn fit h) fun q a1 w1 ⟨hx,ht⟩=>?_);subst hx;cases e <;> exact⟨rfl,ht⟩
 | .label l,_,E,s,s',e,a,w,_,fit,h=>by have:=aH h;simp only [Prod.mk.injEq] at this;obtain⟨rfl,rfl⟩:=this;exact wp_label ⟨rfl,Then.refl fit⟩
 | .ret,_,E,s,s',e,a,w,_,fit,h=>by have:=aH h;simp only [Prod.mk.injEq] at this;obtain⟨rfl,rfl⟩:=this;exact wp_ret ⟨rfl,Then.refl fit⟩
 | .rangeFunc _ _ _ _,_,E,s,s',e,a,w,_,fit,h=>by simp [lC,T.leaf] at h
 | .goto _,_,E,s,s',e,a,w,_,fit,h=>by simp [lC,T.leaf] at h
 | .refuse _,_,E,s,s',e,a,w,_,fit,h=>by simp [lC,T.leaf] at h
end
end Go.As
end
section
namespace Go.As
section
variable {P:Program}
theorem XE: ∀(args:List AV) (i:Nat) (t:Tr AV) (k:Nat),(bD args i t).get k=if i≤k∧k < i+args.length then args[k - i]? else t.get k
 | [],i,t,k=>by
   have: ¬(i≤k∧k < i+([]:List AV).length):=by simp
   rw [if_neg this];rfl
 | v :: vs,i,t,k=>by
   simp only [bD,XE vs (i+1),Tr.get_put,List.length_cons];by_cases h1:i+1≤k∧k < i+1+vs.length
   ·have h2:i≤k∧k < i+(vs.length+1):=by omega
    rw [if_pos h1,if_pos h2];have:k - i=(k - (i+1))+1:=by omega
    rw [this,List.getElem?_cons_succ]
   ·rw [if_neg h1];by_cases h3:k=i
    ·subst h3;have h2:k≤k∧k < k+(vs.length+1):=by omega
     rw [if_pos h2];simp
    ·have h2: ¬(i≤k∧k < i+(vs.length+1)):=by omega
     rw [if_neg h2]
     first
      | rw [if_neg h3]
      | rw [if_neg (fun q=>h3 q.symm)]
theorem bJ.get {E:En} {h:Array Obj}: ∀{vs:List AV} {us:List Value},bJ E h vs us→∀(i:Nat) (v:AV),vs[i]?=some v→∃u,us[i]?=some u∧VR E h v u
 | [],us,hv,i,v,hi=>by simp at hi
 | x :: xs,us,hv,i,v,hi=>by
   cases us with
   | nil=>simp [bJ] at hv
   | cons y ys=>
     simp only [bJ] at hv;obtain⟨u',us',he,h1,h2⟩:=hv;simp only [List.cons.injEq] at he;obtain⟨rfl,rfl⟩:=he
     cases i with
     | zero=>simp at hi; subst hi; exact⟨y,by simp,h1⟩
     | succ i=>simpa using bJ.get h2 i v (by simpa using hi)
theorem GK {E:En} {h:Array Obj} {args:List AV} {vals:List Value} (hv:bJ E h args vals) (n:Nat) :
 SR E h (bD args 0 .nil) { tmps:=vals.toArray++Array.replicate n undef,defers:=[] }:=by
 intro t v ht;rw [XE] at ht;split at ht
 ·rename_i hk;obtain⟨u,h1,h2⟩:=bJ.get hv t v (by simpa using ht);refine⟨u,?_,h2⟩
  have:t < vals.length:=by
   rcases Nat.lt_or_ge t vals.length with h | h
   ·exact h
   ·rw [List.getElem?_eq_none h] at h1; simp at h1
  rw [Array.getElem?_append_left (by simpa using this)];simpa using h1
 ·simp [Tr.get] at ht
def BQ (a:Act):ResultVar→Sem Value
 | .tmp t=>pure (a.tmps.getD t undef)
 | .cell b t=>do loadVar t (← asAddr (a.tmps.getD b undef))
def resV (vs:List AV):AV:=match vs with | [x]=>x | vs=> .tuple vs
theorem RF {vs:List AV} (h: ∀v,vs= [v]→False):resV vs= .tuple vs:=by
 unfold resV;split
 ·exact absurd rfl (h _)
 ·rfl
theorem KX {E:En} {h:Array Obj} {vs:List AV} {us:List Value} (g2:bJ E h vs us):VR E h (resV vs) (if h:us.toArray.size=1 then us.toArray[0] else .tuple us.toArray):=by
 cases vs with
 | nil=> simp only [bJ] at g2;subst g2;simp [resV,VR,bJ]
 | cons x xs=>
   cases xs with
   | nil=> simp only [bJ] at g2;obtain⟨u,us',rfl,h1,rfl⟩:=g2;simpa [resV] using h1
   | cons x2 xs=>
     have g3:=g2;simp only [bJ] at g2;obtain⟨u,us',rfl,h1,u2,us2,rfl,h2,h3⟩:=g2;have: ¬((u :: u2 :: us2).toArray.size=1):=by simp
     rw [dif_neg this];simp only [resV,VR];exact⟨_,rfl,g3⟩
theorem X0 [Glob] {tt:TT} (htt:eP P tt) {E:En} {s:St} {a:Act} {w:World} (fit:Fit E s a w) {r:ResultVar} {v:AV} (h:G8 tt s r=some v) :
 ∃u,(BQ a r).run P w= .ok u w∧VR E w.heap v u:=by
 cases r with
 | tmp t=> simp only [G8] at h;obtain⟨u,h1,h2⟩:=fit.sr t v h;exact⟨u,by simp [BQ,h1,Array.getD_eq_getD_getElem?],h2⟩
 | cell b t=>
   simp only [G8] at h;split at h
   ·rename_i p hp;obtain⟨u,h1,h2⟩:=fit.sr b p hp;obtain⟨x,bb,o,rfl,h3,h4⟩:=Jd htt fit.rel h2 h;exact⟨x,by simp [BQ,h1,Array.getD_eq_getD_getElem?,asAddr,h3],h4⟩
   ·simp at h
theorem AA [Glob] {tt:TT} (htt:eP P tt) {E:En} {s:St} {a:Act} {w:World} (fit:Fit E s a w): ∀{rs:List ResultVar} {vs:List AV},nR tt s rs=some vs→
 ∃us,(rs.mapM (BQ a)).run P w= .ok us w∧bJ E w.heap vs us
 | [],vs,h=>by simp [nR] at h;subst h;exact⟨[],by simp,by simp [bJ]⟩
 | r :: rs,vs,h=>by
   simp only [nR] at h;split at h
   ·simp at h
   ·rename_i v hv;split at h
    ·simp at h
    ·rename_i vs' hvs;simp at h;subst h;obtain⟨u,h1,h2⟩:=X0 htt fit hv;obtain⟨us,h3,h4⟩:=AA htt fit hvs;refine⟨u :: us,?_,by simp only [bJ]; exact⟨u,us,rfl,h2,h4⟩⟩;rw [List.mapM_cons];simp [Sem.run_bind,h1,h3]
def aiM (P:Program) (chk:Nat→Nat→List Oper→Bool) (ft:Nat→Option Func):Prop:= ∀g fn,ft g=some fn→P.funcs[g]?=some fn∧(fn.name == "runtime.NumGoroutine")=false∧∀c,fn.body=some c→mJ (chk g) fn.ntmps c=true
theorem Hg [Glob] {tt:TT} (htt:eP P tt) {chk:Nat→Nat→List Oper→Bool} {ft:Nat→Option Func} (hft:aiM P chk ft) {hook:Nat→Option (List AV→St→T (AV×St))} (hh: ∀g h,hook g=some h→mP P g h)
 {draw:dU→Nat→Nat→List Oper→St→T St} (hdr: ∀call,jU P call→∀g,Dp P (chk g) (draw call g)) (lf:Nat): ∀(n:Nat),jU P (VB tt ft hook draw lf n)
 | 0=>by intro g args s E w vals v s' _ _ _ h;simp [VB,T.leaf] at h
 | n+1=>by
   have ih:=Hg htt hft hh hdr lf n;intro g args s E w vals v s' r hv hp h;simp only [VB] at h;split at h
   ·rename_i f hf;exact hh g f hf args s E w vals v s' r hv hp h
   ·split at h
    ·simp [T.leaf] at h
    ·rename_i fn hfn;obtain⟨hf,hname,hdst⟩:=hft g fn hfn;split at h
     ·simp [T.leaf] at h
     ·rename_i c hb;obtain⟨⟨e,s1⟩,h1,h2⟩:=T.fU h
      have fit:Fit E { s with slots:=bD args 0 .nil } { tmps:=vals.toArray++Array.replicate (fn.ntmps - vals.toArray.size) undef,defers:=[] } w:=
       ⟨r,GK hv _,hp⟩
      have hwp:=nU htt ih (hdr _ ih g) (lf:=lf) c (hdst c hb) E _ s1 e _ w (by simp; omega) fit h1
      have hout: ∃vs,nR tt s1 fn.results.toList=some vs∧(e= .normal∨e= .ret)∧s'= { s1 with slots:=s.slots }∧v=resV vs:=by
       cases e with
       | exit id=>simp [T.leaf] at h2
       | normal=>
         simp only at h2;split at h2
         ·rename_i x hx;have:=aH h2;simp only [Prod.mk.injEq] at this;exact⟨_,hx,.inl rfl,this.2.symm,this.1.symm⟩
         ·rename_i vs hn hx;have:=aH h2;simp only [Prod.mk.injEq] at this;refine⟨_,hx,.inl rfl,this.2.symm,?_⟩;rw [← this.1];exact (RF hn).symm
         ·simp [T.leaf] at h2
       | ret=>
         simp only at h2;split at h2
         ·rename_i x hx;have:=aH h2;simp only [Prod.mk.injEq] at this;exact⟨_,hx,.inr rfl,this.2.symm,this.1.symm⟩
         ·rename_i vs hn hx;have:=aH h2;simp only [Prod.mk.injEq] at this;refine⟨_,hx,.inr rfl,this.2.symm,?_⟩;rw [← this.1];exact (RF hn).symm
         ·simp [T.leaf] at h2
      obtain⟨vs,hr,he,rfl,rfl⟩:=hout
      have hpc:bI E.ρ s1.pc:=by obtain⟨_,_,_,⟨_,ht⟩,_⟩:=hwp default [] [];obtain⟨E1,st1,f1⟩:=ht.step;have:=f1.pc;rw [st1.ρ] at this;exact this
      refine⟨rfl,hpc,?_⟩
      have aB6:Calls P g vals.toArray w fun e w''=> ∃u,e= .returned u∧After E s w (resV vs) { s1 with slots:=s.slots } u w'':=by
       refine calls_of_wp hf hb (wp_mono hwp fun x a1 w1 ⟨hx,ht⟩=>?_);subst hx;obtain⟨d1,z1,E1,st1,f1⟩:=ht;obtain⟨us,g1,g2⟩:=AA htt f1 hr
       have: ∃u,(results fn a1.tmps).run P w1= .ok u w1∧VR E1 w1.heap (resV vs) u:=by
        refine⟨if h:us.toArray.size=1 then us.toArray[0] else .tuple us.toArray,?_,?_⟩
        ·have hm:(fn.results.mapM (BQ a1)).run P w1= .ok us.toArray w1:=by
          rw [Array.mapM_eq_mapM_toList];rw [map_eq_pure_bind];simp only [Sem.run_bind,g1];rfl
         have hres:results fn a1.tmps=(do let vs ← fn.results.mapM (BQ a1); pure (if h:vs.size=1 then vs[0] else .tuple vs)):=rfl;rw [hres];simp only [Sem.run_bind,hm];rfl
        ·exact KX g2
       obtain⟨u,g3,g4⟩:=this;rcases he with rfl | rfl
       ·exact⟨d1,u,g3,u,rfl,E1,st1,f1.rel,g4⟩
       ·exact⟨d1,u,g3,u,rfl,E1,st1,f1.rel,g4⟩
      have hrun:(callFunc g vals.toArray).run P w= .ok (.enter g vals.toArray) w:=by unfold callFunc;simp [hf,hb,by simpa using hname]
      unfold uT uS;rw [hrun];exact aB6
end
end Go.As
end
section
namespace Go.As
def Tr.over {α:Type}:Tr α→Tr α→Tr α
 | .nil,b=>b
 | .node v l r,b=> .node (match v with | some x=>some x | none=>b.val) (Tr.over l b.left) (Tr.over r b.right)
def Tr.minus {α:Type}:Tr α→Tr α→Tr α
 | .nil,b=>b
 | .node v l r,b=> .node (match v with | some _=>none | none=>b.val) (Tr.minus l b.left) (Tr.minus r b.right)
theorem Tr.Ox {α:Type}: ∀(a b:Tr α) (k:Nat),(Tr.over a b).get k=match a.get k with | some x=>some x | none=>b.get k
 | .nil,b,k=>by simp [Tr.over,Tr.get]
 | .node v l r,b,k=>by
   simp only [Tr.over];rw [Tr.tN,Tr.tN,Tr.DW b k];by_cases h0:k=0
   ·simp only [if_pos h0]
   ·simp only [if_neg h0];by_cases h1:(k - 1) % 2=0
    ·simp only [if_pos h1]; exact Tr.Ox l b.left _
    ·simp only [if_neg h1]; exact Tr.Ox r b.right _
theorem Tr.Jc {α:Type}: ∀(a b:Tr α) (k:Nat),(Tr.minus a b).get k=match a.get k with | some _=>none | none=>b.get k
 | .nil,b,k=>by simp [Tr.minus,Tr.get]
 | .node v l r,b,k=>by
   simp only [Tr.minus];rw [Tr.tN,Tr.tN,Tr.DW b k];by_cases h0:k=0
   ·simp only [if_pos h0]
   ·simp only [if_neg h0];by_cases h1:(k - 1) % 2=0
    ·simp only [if_pos h1]; exact Tr.Jc l b.left _
    ·simp only [if_neg h1]; exact Tr.Jc r b.right _
structure Stw (E:En) (H:Hp) (w:World) (E':En) (H':Hp) (w':World):Prop where
 ρ:E'.ρ=E.ρ
 dm: ∀id,E.dm id→E'.dm id
 θ: ∀id,E.dm id→E'.θ id=E.θ id
 κ: ∀id,E.dm id→E'.κ id=E.κ id
 ro: ∀b,E.ro b→E'.ro b
 JE: ∀b,E'.ro b→E.ro b∨(∃id o,H.get id=some o∧(E.θ id).1=b)∨w.heap.size≤b
 os:w'.os=w.os
 tape:w'.tape=w.tape
 output:w'.output=w.output
 size:w.heap.size≤w'.heap.size
 keep: ∀b,b < w.heap.size→(∀id o,H.get id=some o→(E.θ id).1≠b)→w'.heap[b]?=w.heap[b]?
 own: ∀id o,H'.get id=some o→(E'.θ id).1 < w.heap.size→∃Em o0,H.get Em=some o0∧(E.θ Em).1=(E'.θ id).1
section
variable {E E' E'':En} {H H' H'':Hp} {w w' w'':World}
theorem Stp.weak (s:Stp E H w E' H' w'):Stw E H w E' H' w':=⟨s.ρ,s.dm,s.θ,s.κ,s.ro,s.JE,s.os,s.tape,s.output,s.size,s.keep,s.own⟩
theorem Stw.strong (s:Stw E H w E' H' w') (h1:H.next≤H'.next) (h2:H'.res=none) (h3: ∀id,E'.dm id→E.dm id∨(H.next≤id∧id < H'.next)):Stp E H w E' H' w':=
 ⟨s.ρ,s.dm,s.θ,s.κ,s.ro,s.JE,h1,.inl h2,fun id h=>(h3 id h).elim .inl fun h=> .inr (.inl h),s.os,s.tape,s.output,s.size,s.keep,s.own⟩
theorem Stw.trans (a:Stw E H w E' H' w') (b:Stw E' H' w' E'' H'' w''):Stw E H w E'' H'' w'' where
 ρ:=b.ρ.trans a.ρ
 dm:=fun id h=>b.dm id (a.dm id h)
 θ:=fun id h=>(b.θ id (a.dm id h)).trans (a.θ id h)
 κ:=fun id h=>(b.κ id (a.dm id h)).trans (a.κ id h)
 ro:=fun x h=>b.ro x (a.ro x h)
 JE:=fun x h=>by
  rcases b.JE x h with h | ⟨id,o,h1,h2⟩ | h
  ·exact a.JE x h
  ·rcases Nat.lt_or_ge x w.heap.size with hx | hx
   ·obtain⟨Em,o0,h3,h4⟩:=a.own id o h1 (by rw [h2]; exact hx);exact .inr (.inl ⟨Em,o0,h3,h4.trans h2⟩)
   ·exact .inr (.inr hx)
  ·exact .inr (.inr (Nat.le_trans a.size h))
 os:=b.os.trans a.os
 tape:=b.tape.trans a.tape
 output:=b.output.trans a.output
 size:=Nat.le_trans a.size b.size
 keep:=fun x hx hn=>by rw [b.keep x (Nat.lt_of_lt_of_le hx a.size) ?_,a.keep x hx hn];intro id o ho he;obtain⟨Em,o0,h0,he0⟩:=a.own id o ho (by rw [he]; exact hx);exact hn Em o0 h0 (he0.trans he)
 own:=fun id o ho hlt=>by obtain⟨id1,o1,h1,he1⟩:=b.own id o ho (Nat.lt_of_lt_of_le hlt a.size);obtain⟨Em,o0,h0,he0⟩:=a.own id1 o1 h1 (by rw [he1]; exact hlt);exact⟨Em,o0,h0,he0.trans he1⟩
theorem Stw.keeps [Glob] (s:Stw E H w E' H' w') (r:bF E H w):Keeps E w.heap E' w'.heap:=
 ⟨s.ρ,s.dm,s.θ,s.κ,s.ro,fun b hb=>s.keep b (r.BO b hb) fun id o ho he=>(r.live id o ho).2.2 (by rw [he]; exact hb)⟩
theorem bF.part [Glob] {H1:Hp} (r:bF E H w) (sub: ∀id o,H1.get id=some o→H.get id=some o) (hn:H.next≤H1.next) (hr: ∀q,H1.res=some q→q < H1.next∧¬E.dm q):bF E H1 w:=
 ⟨fun id h=>r.fresh id (Nat.le_trans hn h),hr,fun id o h=>r.live id o (sub id o h),fun i j o o' h h' e=>r.inj i j o o' (sub _ _ h) (sub _ _ h') e,r.BO,r.glob⟩
theorem aoX [Glob] {H1 YJ:Hp} (r:bF E H w) (sub: ∀id o,H1.get id=some o→H.get id=some o) (st:Stp E H1 w E' YJ w') (r':bF E' YJ w') (n:Nat) (hn: ∀id,n≤id→¬E'.dm id) :
 ∃H':Hp,H'=⟨Tr.over YJ.m (Tr.minus H1.m H.m),n,none⟩∧(∀id o,YJ.get id=some o→H'.get id=some o)∧(∀id o,H.get id=some o→H1.get id=none→H'.get id=some o)∧bF E' H' w'∧Stw E H w E' H' w':=by
 have hnot: ∀id o,H.get id=some o→H1.get id=none→YJ.get id=none:=by
  intro id o h h1
  cases h2:YJ.get id with
  | none=>rfl
  | some o'=> exfalso;have hd:=(r.live id o h).1;have hθ:=st.θ id hd;obtain⟨Em,o0,g1,g2⟩:=st.own id o' h2 (by rw [hθ]; exact jG r h);have:=r.inj Em id o0 o (sub _ _ g1) h (by rw [g2,hθ]);subst this;rw [h1] at g1;simp at g1
 have hget: ∀id,(⟨Tr.over YJ.m (Tr.minus H1.m H.m),n,none⟩ : Hp).get id=match YJ.get id with | some x=>some x | none=>match H1.get id with | some _=>none | none=>H.get id:=by
  intro id;simp only [Hp.get,Tr.Ox,Tr.Jc]
  cases YJ.m.get id with
  | some x=>rfl
  | none=>cases H1.m.get id <;> rfl
 have hcase: ∀id o,(⟨Tr.over YJ.m (Tr.minus H1.m H.m),n,none⟩ : Hp).get id=some o→YJ.get id=some o∨(YJ.get id=none∧H1.get id=none∧H.get id=some o):=by
  intro id o h;rw [hget] at h
  cases h1:YJ.get id with
  | some x=>rw [h1] at h; exact .inl h
  | none=>
    rw [h1] at h
    cases h2:H1.get id with
    | some x=>rw [h2] at h; simp at h
    | none=>rw [h2] at h; exact .inr ⟨rfl,rfl,h⟩
 have hkeep: ∀id o,H1.get id=none→H.get id=some o→w'.heap[(E.θ id).1]?=w.heap[(E.θ id).1]?:=by intro id o h1 h;refine st.keep _ (jG r h) fun Em o0 h0 he=>?_;have:=r.inj Em id o0 o (sub _ _ h0) h he;subst this;rw [h1] at h0;simp at h0
 have k:Keeps E w.heap E' w'.heap:=⟨st.ρ,st.dm,st.θ,st.κ,st.ro,fun b hb=>st.keep b (r.BO b hb) fun id o ho he=>(r.live id o (sub _ _ ho)).2.2 (by rw [he]; exact hb)⟩;refine⟨_,rfl,fun id o h=>by rw [hget,h],fun id o h h1=>by rw [hget,hnot id o h h1,h1]; exact h,⟨hn,by simp,?_,?_,r'.BO,r'.glob⟩,⟨st.ρ,st.dm,st.θ,st.κ,st.ro,fun b hb=>(st.JE b hb).imp id (Or.imp (fun⟨i,o,h1,h2⟩=> ⟨i,o,sub _ _ h1,h2⟩) id),st.os,st.tape,st.output,st.size,?_,?_⟩⟩
 ·intro id o h;rcases hcase id o h with h1 | ⟨h1,h2,h3⟩
  ·exact r'.live id o h1
  ·obtain⟨g1,g2,g3⟩:=r.live id o h3;refine⟨st.dm id g1,g2.keep k g1 (hkeep id o h2 h3),?_⟩;rw [st.θ id g1];intro hr;rcases st.JE _ hr with hr | ⟨Em,o0,f1,f2⟩ | hr
   ·exact g3 hr
   ·have:=r.inj Em id o0 o (sub _ _ f1) h3 f2;subst this;rw [h2] at f1;simp at f1
   ·have:=jG r h3;omega
 ·intro i j o o' h h' he;rcases hcase i o h with h1 | ⟨h1,h2,h3⟩ <;> rcases hcase j o' h' with g1 | ⟨g1,g2,g3⟩
  ·exact r'.inj i j o o' h1 g1 he
  ·exfalso;rw [st.θ j (r.live j o' g3).1] at he;obtain⟨Em,o0,f1,f2⟩:=st.own i o h1 (by rw [he]; exact jG r g3);have:=r.inj Em j o0 o' (sub _ _ f1) g3 (f2.trans he);subst this;rw [g2] at f1;simp at f1
  ·exfalso;rw [st.θ i (r.live i o h3).1] at he;obtain⟨Em,o0,f1,f2⟩:=st.own j o' g1 (by rw [← he]; exact jG r h3);have:=r.inj Em i o0 o (sub _ _ f1) h3 (f2.trans he.symm);subst this;rw [h2] at f1;simp at f1
  ·rw [st.θ i (r.live i o h3).1,st.θ j (r.live j o' g3).1] at he;exact r.inj i j o o' h3 g3 he
 ·intro b hb hno;exact st.keep b hb fun id o h=>hno id o (sub _ _ h)
 ·intro id o h hlt;rcases hcase id o h with h1 | ⟨h1,h2,h3⟩
  ·obtain⟨Em,o0,f1,f2⟩:=st.own id o h1 hlt;exact⟨Em,o0,sub _ _ f1,f2⟩
  ·exact⟨id,o,h3,by rw [st.θ id (r.live id o h3).1]⟩
theorem frame [Glob] {H1 YJ:Hp} (r:bF E H w) (sub: ∀id o,H1.get id=some o→H.get id=some o) (st:Stp E H1 w E' YJ w') (r':bF E' YJ w') (n:Nat) (hn: ∀id,n≤id→¬E'.dm id) :
 ∃H':Hp,H'.next=n∧H'.res=none∧(∀id o,YJ.get id=some o→H'.get id=some o)∧(∀id o,H.get id=some o→H1.get id=none→H'.get id=some o)∧bF E' H' w'∧Stw E H w E' H' w':=by
 obtain⟨H',h0,h1,h2,h3,h4⟩:=aoX r sub st r' n hn;exact⟨H',by rw [h0],by rw [h0],h1,h2,h3,h4⟩
end
end Go.As
end
section
namespace Go.As
section
variable {P:Program}
def QB [Glob] (P:Program) (ρ:Nat→Int) (ops:Array Oper) (o:Oper) (S:Tr AV) (H:Hp) (v:AV) (H':Hp):Prop:=
 ∀(E:En) (a:Act) (w:World),E.ρ=ρ→bF E H w→SR E w.heap S a→
  (Region.wanted o (yielded ops a.tmps)=false∧v=AV.undef∧H'=H)∨
  (Region.wanted o (yielded ops a.tmps)=true∧xW P o a w (fun u w'=> ∃E',Stp E H w E' H' w'∧bF E' H' w'∧VR E' w'.heap v u))
theorem QB.wpOp [Glob] {ρ:Nat→Int} {ops:Array Oper} {o:Oper} {S:Tr AV} {H H':Hp} {v:AV} (h:QB P ρ ops o S H v H') {E:En} {a:Act} {w:World} (hρ:E.ρ=ρ) (r:bF E H w) (sr:SR E w.heap S a)
 {i:Nat} (ho:ops[i]?=some o) {K:Act→World→Prop} {Q:Exit→Act→World→Prop}
 (hk: ∀(u:Value) (E':En) (w':World),Stp E H w E' H' w'→bF E' H' w'→VR E' w'.heap v u→K (a.put o.dst u) w'):wpOp P ops Q i K a w:=by
 unfold Go.wpOp;simp only [ho];rcases h E a w hρ r sr with ⟨h1,rfl,rfl⟩ | ⟨h1,h2⟩
 ·rw [h1];simp only [Bool.false_eq_true,if_false];exact hk undef E w (Stp.refl _ _ _) r sO
 ·rw [h1];simp only [if_true];exact .inl (h2 _ _ fun u w' ⟨E',q1,q2,q3⟩=>hk u E' w' q1 q2 q3)
inductive Kind where
 | pa
 | e
 | r
 deriving DecidableEq
structure Plan [Glob] (P:Program) (ρ:Nat→Int) (ops:Array Oper) (vS:Tr AV) (H0:Hp) where
 base:Nat
 bf:Nat→Nat→Bool
 kd:Nat→Kind
 S:Nat→Tr AV
 val:Nat→AV
 st:Nat→Nat
 nE:Nat
 hp:Nat→Hp
 un:Nat→Nat→Bool
 blk:Nat→Option dW
 gen: ∀i j,bf i j=true→∃(o:Oper) (e:Edge),ops[j]?=some o∧e∈o.after∧Region.binds .any e=true∧(e.on=i∨bf i e.on=true)
 back: ∀(j:Nat) (o:Oper),ops[j]?=some o→∀e∈o.after,Region.binds .any e=true→e.on < j
 dst: ∀(i j:Nat) (oi oj:Oper) (d:Nat),ops[i]?=some oi→ops[j]?=some oj→oi.dst=some d→oj.dst=some d→i=j
 slots: ∀(i:Nat) (o:Oper),ops[i]?=some o→∀t x,(S i).get t=some x→(∃(j:Nat) (oj:Oper),bf j i=true∧ops[j]?=some oj∧oj.dst=some t∧val j=x)∨(vS.get t=some x∧∀(j:Nat) (oj:Oper),ops[j]?=some oj→oj.dst=some t→bf i j=true)
 stl: ∀(j:Nat) (o:Oper),ops[j]?=some o→kd j= .e→st j < nE
 inj: ∀i j,kd i= .e→kd j= .e→st i=st j→i=j
 aDI: ∀(j:Nat) (o:Oper),ops[j]?=some o→kd j= .e→∀m,m < st j→∃i,kd i= .e∧st i=m∧bf i j=true
 pa: ∀(i:Nat) (o:Oper),ops[i]?=some o→kd i= .pa→∃HA N,QB P ρ ops o (S i) ⟨.nil,N,some (base+i)⟩ (val i) HA∧HA.next=N∧blk i=HA.get (base+i)∧∀k,k≤nE→(hp k).next≤N
 ev: ∀(j:Nat) (o:Oper),ops[j]?=some o→kd j= .e→∃Wy,QB P ρ ops o (S j) Wy (val j) (hp (st j+1))∧Wy.next=(hp (st j)).next∧Wy.res=none∧
  (∀id x,Wy.get id=some x→(hp (st j)).get id=some x∨∃a,bf a j=true∧un (st j) a=true∧id=base+a∧blk a=some x)∧
  (∀a,un (st j+1) a=true→un (st j) a=true∧bf a j=false)
 rd: ∀(i:Nat) (o:Oper),ops[i]?=some o→kd i= .r→∀k,k≤nE→(∀j,kd j= .e→bf j i=true→st j < k)→(∀(j:Nat) (oj:Oper),ops[j]?=some oj→kd j= .e→bf i j=true→k≤st j)→
  ∃Wy,QB P ρ ops o (S i) Wy (val i) Wy∧Wy.next=(hp k).next∧Wy.res=none∧
   (∀id x,Wy.get id=some x→(hp k).get id=some x∨∃a,bf a i=true∧un k a=true∧id=base+a∧blk a=some x)
 unm: ∀k a x,k≤nE→blk a=some x→un k a=true→(hp k).get (base+a)=none
 nob: ∀i,kd i≠.pa→blk i=none
 first:base=H0.next∧base+ops.size≤(hp 0).next∧∀id x,(hp 0).get id=some x→H0.get id=some x
section
variable {gl:Glob} {ρ:Nat→Int} {ops:Array Oper} {vS:Tr AV} {H0:Hp} (p:Plan P ρ ops vS H0)
structure Plan.Inv (E0:En) (a0:Act) (w0:World) (L:Nat→Prop) (a:Act) (w:World):Prop where
 defers:a.defers=a0.defers
 size:a.tmps.size=a0.tmps.size
 closed: ∀i j,p.bf i j=true→L j→L i
 ex: ∃(E:En) (Hc:Hp) (k:Nat),k≤p.nE∧(∀(j:Nat) (o:Oper),ops[j]?=some o→p.kd j= .e→(L j↔p.st j < k))∧E.ρ=ρ∧Stw E0 H0 w0 E Hc w∧bF E Hc w∧Hc.next=(p.hp k).next∧Hc.res=none∧
  p.base+ops.size≤Hc.next∧(∀id,E.dm id→E0.dm id∨H0.next≤id)∧(∀(i:Nat) (o:Oper),ops[i]?=some o→¬L i→¬E.dm (p.base+i))∧
  (∀id x,(p.hp k).get id=some x→Hc.get id=some x)∧(∀b x,L b→p.un k b=true→p.blk b=some x→Hc.get (p.base+b)=some x)∧
  (∀t x,vS.get t=some x→(∀(j:Nat) (oj:Oper),ops[j]?=some oj→oj.dst=some t→¬L j)→∃u,a.tmps[t]?=some u∧VR E w.heap x u)∧
  (∀(j:Nat) (oj:Oper) (t:Nat),L j→ops[j]?=some oj→oj.dst=some t→∃u,a.tmps[t]?=some u∧VR E w.heap (p.val j) u)
theorem NC {a:Act} {d:Option Nat} {u:Value} {t:Nat} (h:d≠some t):(a.put d u).tmps[t]?=a.tmps[t]?:=by
 cases d with
 | none=>rfl
 | some x=> simp only [Act.put];rw [Array.getElem?_setIfInBounds_ne];intro e;exact h (by rw [e])
theorem avL {a:Act} {u:Value} {t:Nat} (h:t < a.tmps.size):(a.put (some t) u).tmps[t]?=some u:=by simp [Act.put,h]
theorem Plan.aFw: ∀(j i:Nat),p.bf i j=true→i < j∧j < ops.size:=by
 intro j
 induction j using Nat.strongRecOn with
 | _ j ih=>
   intro i h;obtain⟨o,e,g1,g2,g3,g4⟩:=p.gen i j h;have hlt:=p.back j o g1 e g2 g3;have hj:=(Array.getElem?_eq_some_iff.1 g1).1;rcases g4 with rfl | g4
   ·exact⟨hlt,hj⟩
   ·have:=ih e.on hlt i g4;exact⟨by omega,hj⟩
theorem Plan.aA3 {i j:Nat} (h:p.bf i j=true): ∃o:Oper,ops[i]?=some o:=by have:=p.aFw j i h;exact⟨ops[i]'(by omega),by simp⟩
theorem Plan.step {E0:En} {a0:Act} {w0:World} {L:Nat→Prop} {a:Act} {w:World} (hd: ∀o∈ops.toList,∀d,o.dst=some d→d < a0.tmps.size) (inv:p.Inv E0 a0 w0 L a w) {i:Nat} {o:Oper} (ho:ops[i]?=some o) (hL: ¬L i)
 (hr: ∀e∈o.after,Region.binds .any e=true→L e.on) {K:Act→World→Prop} {Q:Exit→Act→World→Prop} (hk: ∀a' w',p.Inv E0 a0 w0 (fun j=>j=i∨L j) a' w'→K a' w'):wpOp P ops Q i K a w:=by
 obtain⟨h1,h2,hcl,E,Hc,k,hkn,hst,hρ,YP,rel,hnx,hres,hroom,hdm,hun,hhp,hbl,hs0,hs1⟩:=inv
 have hbf: ∀j,p.bf j i=true→L j:=by
  intro j hj;obtain⟨o',e,g1,g2,g3,g4⟩:=p.gen j i hj;rw [ho] at g1;simp at g1;subst g1;have:=hr e g2 g3;rcases g4 with rfl | g4
  ·exact this
  ·exact hcl j e.on g4 this
 have hii:p.bf i i≠true:=fun h=>hL (hbf i h);have hin:i < ops.size:=(Array.getElem?_eq_some_iff.1 ho).1
 have sr:SR E w.heap (p.S i) a:=by
  intro t x ht;rcases p.slots i o ho t x ht with ⟨j,oj,g1,g2,g3,g4⟩ | ⟨g1,g2⟩
  ·subst g4;exact hs1 j oj t (hbf j g1) g2 g3
  ·exact hs0 t x g1 fun j oj hj hjt hLj=>hL (hcl i j (g2 j oj hj hjt) hLj)
 have hcl': ∀x j,p.bf x j=true→(j=i∨L j)→(x=i∨L x):=by
  intro x j hx hj;rcases hj with rfl | hj
  ·exact .inr (hbf x hx)
  ·exact .inr (hcl x j hx hj)
 have fin: ∀(u:Value) (E':En) (YX:Hp) (w':World) (k':Nat),Stw E Hc w E' YX w'→bF E' YX w'→VR E' w'.heap (p.val i) u→k'≤p.nE→(∀(j:Nat) (o:Oper),ops[j]?=some o→p.kd j= .e→((j=i∨L j)↔p.st j < k'))→
  YX.next=(p.hp k').next→YX.res=none→Hc.next≤YX.next→(∀id,E'.dm id→E.dm id∨Hc.next≤id∨id=p.base+i)→(∀id x,(p.hp k').get id=some x→YX.get id=some x)→
  (∀b x,(b=i∨L b)→p.un k' b=true→p.blk b=some x→YX.get (p.base+b)=some x)→K (a.put o.dst u) w':=by
  intro u E' YX w' k' q1 q2 q3 q4 q5 q6 q7 q8 q9 q10 q11;have kp:=q1.keeps rel;refine hk _ _ ⟨by rw [As.put_defers]; exact h1,by rw [Nz]; exact h2,hcl',E',YX,k',q4,q5,q1.ρ.trans hρ,YP.trans q1,q2,q6,q7,Nat.le_trans hroom q8,?_,?_,q10,q11,?_,?_⟩
  ·intro id h;rcases q9 id h with h | h | h
   ·exact hdm id h
   ·right;have:=p.first.1;omega
   ·right;have:=p.first.1;omega
  ·intro j oj hj hn hdj;have hj2:=(Array.getElem?_eq_some_iff.1 hj).1;rcases q9 _ hdj with h | h | h
   ·exact hun j oj hj (fun h'=>hn (.inr h')) h
   ·omega
   ·exact hn (.inl (by omega))
  ·intro t x ht hno;obtain⟨y,g1,g2⟩:=hs0 t x ht fun j oj hj hjt h'=>hno j oj hj hjt (.inr h');exact⟨y,by rw [NC (fun e=>hno i o ho e (.inl rfl))]; exact g1,VR.keep kp _ _ g2⟩
  ·intro j oj t hj hoj ht;by_cases hji:j=i
   ·subst hji;rw [ho] at hoj;simp at hoj;subst hoj;rw [ht];exact⟨u,avL (by rw [h2]; exact hd o (Array.mem_toList_iff.2 (Array.mem_of_getElem? ho)) t ht),q3⟩
   ·obtain⟨y,g1,g2⟩:=hs1 j oj t (hj.resolve_left hji) hoj ht;refine⟨y,?_,VR.keep kp _ _ g2⟩;rw [NC]
    ·exact g1
    ·intro h;exact hji (p.dst j i oj o t hoj ho ht h)
 cases hkd:p.kd i with
 | pa=>
   obtain⟨HA,N,g1,g2,g3,g4⟩:=p.pa i o ho hkd;have hN:=g4 k hkn;have aF0:=hun i o ho hL
   have r1:bF E ⟨.nil,N,some (p.base+i)⟩ w:=rel.part (by intro id x h; simp [Hp.get,Tr.get] at h) (by show Hc.next≤N; omega) (by
    intro q hq;simp at hq;subst hq
    exact⟨by show p.base+i < N; omega,aF0⟩)
   refine g1.wpOp hρ r1 sr ho fun u E' w' st r' hv=>?_
   have hdn: ∀id,E'.dm id→E.dm id∨id=p.base+i:=by
    intro id h;rcases st.dmn id h with h | h | h
    ·exact .inl h
    ·have h':N≤id∧id < HA.next:=h;omega
    ·have h':some (p.base+i)=some id:=h;simp at h';exact .inr h'.symm
   obtain⟨YX,f1,f2,f3,f4,f5,f6⟩:=frame rel (by intro id x h; simp [Hp.get,Tr.get] at h) st r' Hc.next (fun id hid h=>by
    rcases hdn id h with h | h
    ·exact rel.fresh id hid h
    ·omega)
   refine fin u E' YX w' k f6 f5 hv hkn ?_ (by rw [f1,hnx]) f2 (by omega) (fun id h=>(hdn id h).elim .inl fun h=> .inr (.inr h)) ?_ ?_
   ·intro j oj hoj hj;rw [← hst j oj hoj hj];constructor
    ·intro h;rcases h with rfl | h
     ·rw [hkd] at hj; simp at hj
     ·exact h
    ·exact .inr
   ·intro id x h;exact f4 id x (hhp id x h) (by simp [Hp.get,Tr.get])
   ·intro b x hb hu hx;by_cases hbi:b=i
    ·subst hbi;rw [hx] at g3;exact f3 _ _ g3.symm
    ·exact f4 _ x (hbl b x (hb.resolve_left hbi) hu hx) (by simp [Hp.get,Tr.get])
 | e=>
   obtain⟨Wy,g1,g2,g3,g4,g5⟩:=p.ev i o ho hkd
   have hge:k≤p.st i:=by
    rcases Nat.lt_or_ge (p.st i) k with h | h
    ·exact absurd ((hst i o ho hkd).2 h) hL
    ·exact h
   have hsk:p.st i=k:=by
    rcases Nat.lt_or_ge k (p.st i) with h | h
    ·obtain⟨j,e1,e2,e3⟩:=p.aDI i o ho hkd k h;have hj:=hbf j e3;obtain⟨oj,hoj⟩:=p.aA3 e3;have:=(hst j oj hoj e1).1 hj;omega
    ·omega
   rw [hsk] at g1 g2 g4 g5;have hkE:=p.stl i o ho hkd
   have hsub: ∀id x,Wy.get id=some x→Hc.get id=some x:=by
    intro id x h;rcases g4 id x h with h | ⟨b,e1,e2,rfl,e4⟩
    ·exact hhp id x h
    ·exact hbl b x (hbf b e1) e2 e4
   have r1:bF E Wy w:=rel.part hsub (by omega) (by rw [g3]; simp);refine g1.wpOp hρ r1 sr ho fun u E' w' st r' hv=>?_
   have hdn: ∀id,E'.dm id→E.dm id∨Hc.next≤id:=by
    intro id h;rcases st.dmn id h with h | h | h
    ·exact .inl h
    ·right; omega
    ·rw [g3] at h; simp at h
   obtain⟨YX,f1,f2,f3,f4,f5,f6⟩:=frame rel hsub st r' (p.hp (k+1)).next (fun id hid h=>r'.fresh id hid h)
   have hmono:=st.nxm;refine fin u E' YX w' (k+1) f6 f5 hv (by omega) ?_ f1 f2 (by omega) (fun id h=>(hdn id h).elim .inl fun h=> .inr (.inl h)) f3 ?_
   ·intro j oj hoj hj;constructor
    ·intro h;rcases h with rfl | h
     ·omega
     ·have:=(hst j oj hoj hj).1 h;omega
    ·intro h;rcases Nat.lt_or_ge (p.st j) k with h' | h'
     ·exact .inr ((hst j oj hoj hj).2 h')
     ·exact .inl (p.inj j i hj hkd (by omega))
   ·intro b x hb hu hx;obtain⟨e1,e2⟩:=g5 b hu;by_cases hbi:b=i
    ·subst hbi;rw [p.nob b (by rw [hkd]; simp)] at hx;simp at hx
    ·refine f4 _ x (hbl b x (hb.resolve_left hbi) e1 hx) ?_
     cases hy:Wy.get (p.base+b) with
     | none=>rfl
     | some y=>
       exfalso;rcases g4 _ y hy with h | ⟨c,c1,c2,c3,c4⟩
       ·rw [p.unm k b x hkn hx e1] at h;simp at h
       ·have:c=b:=by omega
        subst this;rw [e2] at c1;simp at c1
 | r=>
   have hk1: ∀j,p.kd j= .e→p.bf j i=true→p.st j < k:=by intro j hj hb;obtain⟨oj,hoj⟩:=p.aA3 hb;exact (hst j oj hoj hj).1 (hbf j hb)
   have hk2: ∀(j:Nat) (oj:Oper),ops[j]?=some oj→p.kd j= .e→p.bf i j=true→k≤p.st j:=by
    intro j oj hoj hj hb;rcases Nat.lt_or_ge (p.st j) k with h | h
    ·exact absurd (hcl i j hb ((hst j oj hoj hj).2 h)) hL
    ·exact h
   obtain⟨Wy,g1,g2,g3,g4⟩:=p.rd i o ho hkd k hkn hk1 hk2
   have hsub: ∀id x,Wy.get id=some x→Hc.get id=some x:=by
    intro id x h;rcases g4 id x h with h | ⟨b,e1,e2,rfl,e4⟩
    ·exact hhp id x h
    ·exact hbl b x (hbf b e1) e2 e4
   have r1:bF E Wy w:=rel.part hsub (by omega) (by rw [g3]; simp);refine g1.wpOp hρ r1 sr ho fun u E' w' st r' hv=>?_
   have hdn: ∀id,E'.dm id→E.dm id:=by
    intro id h;rcases st.dmn id h with h | h | h
    ·exact h
    ·omega
    ·rw [g3] at h; simp at h
   obtain⟨YX,f1,f2,f3,f4,f5,f6⟩:=frame rel hsub st r' Hc.next (fun id hid h=>rel.fresh id hid (hdn id h))
   have hall: ∀id x,Hc.get id=some x→YX.get id=some x:=by
    intro id x h
    cases h':Wy.get id with
    | none=>exact f4 id x h h'
    | some y=> have:=hsub id y h';rw [h] at this;simp at this;subst this;exact f3 id x h'
   refine fin u E' YX w' k f6 f5 hv hkn ?_ (by rw [f1,hnx]) f2 (by omega) (fun id h=> .inl (hdn id h)) (fun id x h=>hall id x (hhp id x h)) ?_
   ·intro j oj hoj hj;rw [← hst j oj hoj hj];constructor
    ·intro h;rcases h with rfl | h
     ·rw [hkd] at hj; simp at hj
     ·exact h
    ·exact .inr
   ·intro b x hb hu hx;by_cases hbi:b=i
    ·subst hbi;rw [p.nob b (by rw [hkd]; simp)] at hx;simp at hx
    ·exact hall _ x (hbl b x (hb.resolve_left hbi) hu hx)
def left (l:Nat→Bool):Nat→Nat
 | 0=>0
 | n+1=>left l n+(if l n then 0 else 1)
theorem left_le {l l':Nat→Bool} (h: ∀j,l j=true→l' j=true): ∀n,left l' n≤left l n
 | 0=>Nat.le_refl _
 | n+1=>by
   have:=left_le h n;simp only [left]
   cases h1:l n with
   | true=>simp [h n h1]; exact this
   | false=>cases l' n <;> simp <;> omega
theorem adQ {l l':Nat→Bool} (h: ∀j,l j=true→l' j=true) {i:Nat} (h1:l i=false) (h2:l' i=true): ∀n,i < n→left l' n < left l n
 | 0,hi=>by omega
 | n+1,hi=>by
   have hle:=left_le h n;simp only [left];by_cases hin:i=n
   ·subst hin;simp [h1,h2];omega
   ·have:=adQ h h1 h2 n (by omega)
    cases h3:l n with
    | true=>simp [h n h3]; exact this
    | false=>cases l' n <;> simp <;> omega
theorem I5 {l:Nat→Bool}: ∀n,left l n=0→∀i,i < n→l i=true
 | 0,_,i,hi=>by omega
 | n+1,h,i,hi=>by
   simp only [left] at h;by_cases hin:i=n
   ·subst hin
    cases h3:l i with
    | true=>rfl
    | false=>rw [h3] at h; simp at h
   ·exact I5 n (by omega) i (by omega)
theorem Plan.ready_nil (q:Plan P ρ ops vS H0) {listed:Array Bool} (hsz:listed.size=ops.size) (h:Region.ready .any ops listed= []): ∀i,i < ops.size→listed[i]?=some true:=by
 intro i
 induction i using Nat.strongRecOn with
 | _ i ih=>
   intro hi
   cases hl:listed[i]? with
   | none=>rw [Array.getElem?_eq_none_iff] at hl; omega
   | some b=>
     cases b with
     | true=>rfl
     | false=>
       exfalso;have ho:ops[i]?=some ops[i]:=by simp [hi]
       have:i∈Region.ready .any ops listed:=by rw [mem_ready];refine⟨by simp [hl],ops[i],ho,fun e he hb=>?_⟩;have hlt:=q.back i _ ho e he hb;simp [ih e.on hlt (by omega)]
       rw [h] at this;simp at this
theorem Plan.any {E0:En} {a0:Act} {w0:World} (hd: ∀o∈ops.toList,∀d,o.dst=some d→d < a0.tmps.size) {Q:Exit→Act→World→Prop} (hq: ∀a w,p.Inv E0 a0 w0 (fun i=>i < ops.size) a w→Q .normal a w) :
 ∀(fuel:Nat) (listed:Array Bool) (a:Act) (w:World),listed.size=ops.size→left (fun i=>listed.getD i true) ops.size≤fuel→p.Inv E0 a0 w0 (fun i=>listed[i]?=some true) a w→wpAny P .any ops Q fuel listed a w:=by
 have hend: ∀(listed:Array Bool) (a:Act) (w:World),listed.size=ops.size→p.Inv E0 a0 w0 (fun i=>listed[i]?=some true) a w→Region.ready .any ops listed= []→Q .normal a w:=by
  intro listed a w hsz inv hnil;have hall:=p.ready_nil hsz hnil;refine hq a w ?_
  have:(fun i=>listed[i]?=some true)=(fun i=>i < ops.size):=by
   funext i;apply propext;constructor
   ·intro h;have:=(Array.getElem?_eq_some_iff.1 h).1;omega
   ·exact hall i
  rw [← this];exact inv
 intro fuel
 induction fuel with
 | zero=>
   intro listed a w hsz hleft inv;have hall:=I5 (l:=fun i=>listed.getD i true) ops.size (by omega)
   have hnil:Region.ready .any ops listed= []:=by rw [List.eq_nil_iff_forall_not_mem];intro i hi;rw [mem_ready] at hi;obtain⟨h1,o,h2,_⟩:=hi;have:=hall i (Array.getElem?_eq_some_iff.1 h2).1;rw [h1] at this;simp at this
   exact⟨hnil,hend listed a w hsz inv hnil⟩
 | succ fuel ih=>
   intro listed a w hsz hleft inv;refine⟨hend listed a w hsz inv,fun i hi=>?_⟩;rw [mem_ready] at hi;obtain⟨h1,o,h2,h3⟩:=hi;have hin:=(Array.getElem?_eq_some_iff.1 h2).1
   have hlf:listed[i]?=some false:=by
    have:listed[i]?=some (listed[i]'(by omega)):=by simp
    rw [this];simp only [Array.getD_eq_getD_getElem?,this,Option.getD_some] at h1;rw [h1]
   refine p.step hd inv h2 (by rw [hlf]; simp) (fun e he hb=>?_) fun a' w' aFV=>?_
   ·have:=h3 e he hb
    cases hc:listed[e.on]? with
    | none=>simp [hc] at this
    | some b=>simp [hc] at this; rw [this]
   ·refine ih _ a' w' (by simpa using hsz) ?_ ?_
    ·have:=adQ (l:=fun j=>listed.getD j true) (l':=fun j=>(listed.setIfInBounds i true).getD j true) (i:=i) (fun j hj=>?_) h1 ?_ ops.size hin
     ·omega
     ·by_cases hij:i=j
      ·subst hij;simp only [Array.getD_eq_getD_getElem?,Array.getElem?_setIfInBounds_self];split <;> rfl
      ·rw [getD_set_ne true hij]; exact hj
     ·simp only [Array.getD_eq_getD_getElem?,Array.getElem?_setIfInBounds_self];split <;> rfl
    ·have:(fun j=>(listed.setIfInBounds i true)[j]?=some true)=(fun j=>j=i∨listed[j]?=some true):=by
      funext j;apply propext;by_cases hij:i=j
      ·subst hij;simp [hsz,hin]
      ·rw [Array.getElem?_setIfInBounds_ne hij];constructor
       ·exact .inr
       ·rintro (rfl | h)
        ·exact absurd rfl hij
        ·exact h
     rw [this];exact aFV
theorem Plan.start {E0:En} {s0:St} {a0:Act} {w0:World} (hs:s0.slots=vS) (hh:s0.h=H0) (hρ:E0.ρ=ρ) (fit:Fit E0 s0 a0 w0) (listed:Array Bool) (hl: ∀(i:Nat),listed[i]?≠some true):p.Inv E0 a0 w0 (fun i=>listed[i]?=some true) a0 w0:=by
 subst hs hh;obtain⟨h1,h2,h3⟩:=p.first;have rel:=fit.rel;have r1:bF E0 ⟨s0.h.m,(p.hp 0).next,none⟩ w0:=rel.part (fun id x h=>h) (by show s0.h.next≤(p.hp 0).next; omega) (by simp);refine⟨rfl,rfl,fun i j _ h=>absurd h (hl j),E0,⟨s0.h.m,(p.hp 0).next,none⟩,0,Nat.zero_le _,fun j o _ _=> ⟨fun h=>absurd h (hl j),fun h=>by omega⟩,hρ,?_,r1,rfl,rfl,h2,fun id h=> .inl h,?_,fun id x h=>h3 id x h,fun b x h=>absurd h (hl b),?_,fun j oj t h=>absurd h (hl j)⟩
 ·have:=(Stp.refl E0 s0.h w0).weak;exact⟨this.ρ,this.dm,this.θ,this.κ,this.ro,this.JE,this.os,this.tape,this.output,this.size,this.keep,this.own⟩
 ·intro i o _ _ hdm;exact rel.fresh _ (by omega) hdm
 ·intro t x ht _;exact fit.sr t x ht
theorem Plan.finish {E0:En} {s0 s':St} {a0 a:Act} {w0 w:World} (hh:s0.h=H0) (inv:p.Inv E0 a0 w0 (fun i=>i < ops.size) a w) (hpc:bI ρ s'.pc)
 (aB4: ∀t x,s'.slots.get t=some x→(∃(j:Nat) (oj:Oper),ops[j]?=some oj∧oj.dst=some t∧p.val j=x)∨(vS.get t=some x∧∀(j:Nat) (oj:Oper),ops[j]?=some oj→oj.dst≠some t))
 (hheap: ∀id x,s'.h.get id=some x→(p.hp p.nE).get id=some x∨∃b,b < ops.size∧p.un p.nE b=true∧id=p.base+b∧p.blk b=some x)
 (hnext:(p.hp p.nE).next=s'.h.next) (hres:s'.h.res=none) (hall: ∀(m:Nat),m < p.nE→∃(j:Nat) (o:Oper),ops[j]?=some o∧p.kd j= .e∧p.st j=m):Then E0 s0 a0 w0 s' a w:=by
 subst hh;obtain⟨h1,h2,hcl,E,Hc,k,hkn,hst,hρ,YP,rel,hnx,hrs,hroom,hdm,hun,hhp,hbl,hs0,hs1⟩:=inv
 have hk:k=p.nE:=by
  rcases Nat.lt_or_ge k p.nE with h | h
  ·obtain⟨j,o,g1,g2,g3⟩:=hall k h;have:=(hst j o g1 g2).1 (Array.getElem?_eq_some_iff.1 g1).1;omega
  ·omega
 subst hk
 have hsub: ∀id x,s'.h.get id=some x→Hc.get id=some x:=by
  intro id x h;rcases hheap id x h with h | ⟨b,e1,e2,rfl,e4⟩
  ·exact hhp id x h
  ·exact hbl b x e1 e2 e4
 have hf:=p.first.1;refine⟨h1,h2,E,?_,rel.part hsub (by omega) (by rw [hres]; simp),?_,by rw [hρ]; exact hpc⟩
 ·refine Stw.strong ⟨YP.ρ,YP.dm,YP.θ,YP.κ,YP.ro,YP.JE,YP.os,YP.tape,YP.output,YP.size,YP.keep,fun id o h=>YP.own id o (hsub id o h)⟩ (by omega) hres fun id h=>?_;rcases hdm id h with g | g
  ·exact .inl g
  ·right;refine⟨g,?_⟩;rcases Nat.lt_or_ge id s'.h.next with g' | g'
   ·exact g'
   ·exact absurd h (rel.fresh id (by omega))
 ·intro t x ht;rcases aB4 t x ht with ⟨j,oj,g1,g2,rfl⟩ | ⟨g1,g2⟩
  ·exact hs1 j oj t (Array.getElem?_eq_some_iff.1 g1).1 g1 g2
  ·exact hs0 t x g1 fun j oj hj hjt _=>g2 j oj hj hjt
end
end
end Go.As
end
section
namespace Go.As
noncomputable section
mutual
def eY:AV→AV→Bool
 | .bool a,.bool b=>uJ a b
 | .int k a,.int l b=>decide (k=l) && gI a b
 | .str a,.str b=>decide (a=b)
 | .ptr i o,.ptr j p=>decide (i=j) && decide (o=p)
 | .jR,.jR=>true
 | .rO a,.rO b=>jZ a b
 | .slice i o l c,.slice j p m d=>decide (i=j) && decide (o=p) && decide (l=m) && decide (c=d)
 | .aA,.aA=>true
 | .ro a n f,.ro b m g=>jZ a b && decide (n=m) && decide (f=g)
 | .map i,.map j=>decide (i=j)
 | .pO,.pO=>true
 | .func f a b,.func g c d=>decide (f=g) && jZ a c && jZ b d
 | .zZ,.zZ=>true
 | .iface t v,.iface u x=>decide (t=u) && eY v x
 | .E5,.E5=>true
 | .agg a,.agg b=>jZ a b
 | .tuple a,.tuple b=>jZ a b
 | .opq i,.opq j=>decide (i=j)
 | .inp i a,.inp j b=>decide (i=j) && decide (a=b)
 | .emp,.emp=>true
 | .dat a t,.dat b u=>gI a b && Nat.beq t u
 | .mD a,.mD b=>gI a b
 | .vM i n t,.vM j m u=>Nat.beq i j && gI n m && Nat.beq t u
 | .qL i a x o,.qL j b y p=>Nat.beq i j && Nat.beq a b && gI x y && Nat.beq o p
 | .Bo i l n t,.Bo j k m u=>Nat.beq i j && gI l k && gI n m && Nat.beq t u
 | .any,.any=>true
 | .Ik a t,.Ik b u=>gI a b && Nat.beq t u
 | _,_=>false
def jZ:List AV→List AV→Bool
 | [],[]=>true
 | x :: xs,y :: ys=>eY x y && jZ xs ys
 | _,_=>false
end
mutual
theorem nM: ∀(x y:AV),eY x y=true→x=y
 | .bool a,y,h=>by cases y <;> simp [eY] at h <;> rw [yE _ _ h]
 | .int k a,y,h=>by cases y <;> simp [eY] at h <;> rw [h.1,bW _ _ h.2]
 | .str a,y,h=>by cases y <;> simp [eY] at h <;> simp [h]
 | .ptr i o,y,h=>by cases y <;> simp [eY] at h <;> simp [h]
 | .jR,y,h=>by cases y <;> simp [eY] at h <;> rfl
 | .rO a,y,h=>by cases y <;> simp [eY] at h; rw [gY _ _ h]
 | .slice i o l c,y,h=>by cases y <;> simp [eY] at h <;> simp [h]
 | .aA,y,h=>by cases y <;> simp [eY] at h <;> rfl
 | .ro a n f,y,h=>by cases y <;> simp [eY] at h; rw [gY _ _ h.1.1,h.1.2,h.2]
 | .map i,y,h=>by cases y <;> simp [eY] at h <;> simp [h]
 | .pO,y,h=>by cases y <;> simp [eY] at h <;> rfl
 | .func f a b,y,h=>by cases y <;> simp [eY] at h; rw [h.1.1,gY _ _ h.1.2,gY _ _ h.2]
 | .zZ,y,h=>by cases y <;> simp [eY] at h <;> rfl
 | .iface t v,y,h=>by cases y <;> simp [eY] at h; rw [h.1,nM _ _ h.2]
 | .E5,y,h=>by cases y <;> simp [eY] at h <;> rfl
 | .agg a,y,h=>by cases y <;> simp [eY] at h; rw [gY _ _ h]
 | .tuple a,y,h=>by cases y <;> simp [eY] at h; rw [gY _ _ h]
 | .opq i,y,h=>by cases y <;> simp [eY] at h <;> simp [h]
 | .inp i a,y,h=>by cases y <;> simp [eY] at h <;> simp [h]
 | .emp,y,h=>by cases y <;> simp [eY] at h <;> rfl
 | .dat a t,y,h=>by cases y <;> simp [eY] at h <;> rw [h.2,bW _ _ h.1]
 | .mD a,y,h=>by cases y <;> simp [eY] at h <;> rw [bW _ _ h]
 | .vM i n t,y,h=>by cases y <;> simp [eY] at h <;> rw [h.1.1,bW _ _ h.1.2,h.2]
 | .qL i a x o,y,h=>by cases y <;> simp [eY] at h <;> rw [h.1.1.1,h.1.1.2,bW _ _ h.1.2,h.2]
 | .Bo i l n t,y,h=>by cases y <;> simp [eY] at h <;> rw [h.1.1.1,bW _ _ h.1.1.2,bW _ _ h.1.2,h.2]
 | .any,y,h=>by cases y <;> simp [eY] at h <;> rfl
 | .Ik a t,y,h=>by cases y <;> simp [eY] at h <;> rw [h.2,bW _ _ h.1]
theorem gY: ∀(xs ys:List AV),jZ xs ys=true→xs=ys
 | [],ys,h=>by cases ys <;> simp [jZ] at h; rfl
 | x :: xs,ys,h=>by
   cases ys with
   | nil=>simp [jZ] at h
   | cons y ys=>simp [jZ] at h; rw [nM _ _ h.1,gY _ _ h.2]
end
def NR (o:Op):List Nat:=o.operands.toList.filterMap fun
 | .tmp t=>some t
 | _=>none
def reads (all:List Oper) (o:Oper):List Nat:=match o.guard with
 | none=>NR o.op
 | some (j,_)=>match gQ all j with
   | some oj=>match oj.dst with
     | some d=>d :: NR o.op
     | none=>NR o.op
   | none=>NR o.op
def kindOf (tt:TT):Op→Kind
 | .load _ _=> .r
 | .lookup _ _ _ _=> .r
 | .call c=>match c.callee with
   | .builtin b=>match b with
     | .len=> .r
     | .min=> .pa
     | .max=> .pa
     | _=> .e
   | _=> .e
 | .store _ _ _=> .e
 | .insert _ _ _ _=> .e
 | .mapUpdate _ _ _ _=> .e
 | .next _ _=> .e
 | .range _ _=> .e
 | .convert t u _=>match tt t with
   | some i=>match i.kind with
     | .slice _=>match tt u with
       | some j=>match j.kind with
         | .string=> .r
         | _=> .e
       | none=> .e
     | _=> .pa
   | none=> .e
 | .panic _=> .e
 | _=> .pa
def tX (ms:List Nat):List Edge→Nat
 | []=>0
 | e :: es=>if Region.binds .any e then ((1 <<< e.on) ||| ms.getD e.on 0) ||| tX ms es else tX ms es
def wU:List Oper→List Nat→List Nat
 | [],ms=>ms
 | o :: os,ms=>wU os (ms++ [tX ms o.after.toList])
structure Item where
 i:Nat
 o:Oper
 m:Nat
 k:Kind
 st:Nat
 rd:List Nat
def items (tt:TT) (all:List Oper) (ms:List Nat):List Oper→Nat→Nat→List Item
 | [],_,_=>[]
 | o :: os,i,n=> ⟨i,o,ms.getD i 0,kindOf tt o.op,n,reads all o⟩ :: items tt all ms os (i+1) (match kindOf tt o.op with | .e=>n+1 | _=>n)
def Kind.isE:Kind→Bool
 | .e=>true
 | _=>false
def Kind.ZR:Kind→Bool
 | .r=>true
 | _=>false
def EX (ms:List Nat) (is:List Item) (x:Item):Bool:=
 x.o.after.toList.all (fun e=>!Region.binds .any e || decide (e.on < x.i)) &&
 decide (x.m=tX ms x.o.after.toList) &&
 x.rd.all (fun t=>is.all fun y=>decide (y.o.dst≠some t) || x.m.testBit y.i || (!x.k.ZR && y.m.testBit x.i)) &&
 is.all (fun y=>decide (y.i=x.i) || (match y.o.dst with | some d=>decide (x.o.dst≠some d) | none=>true)) &&
 (!x.k.isE || is.all fun y=>!y.k.isE || !decide (y.i < x.i) || x.m.testBit y.i)
def stages (is:List Item) (n:Nat) (x:Item):List Nat:=
 (List.range (n+1)).filter fun k=>is.all fun y=>!y.k.isE || ((!x.m.testBit y.i || decide (y.st < k)) && (!y.m.testBit x.i || decide (k≤y.st)))
structure Stat where
 is:List Item
 nE:Nat
 rs:List (Item×List Nat)
def mF:List Item→Nat
 | []=>0
 | x :: xs=>match x.k with | .e=>mF xs+1 | _=>mF xs
def stat (tt:TT) (all:List Oper):Option Stat:=
 let ms:=wU all [];let is:=items tt all ms all 0 0
 if is.all (EX ms is) then
  some ⟨is,mF is,(is.filter (·.k.ZR)).map fun x=>(x,stages is (mF is) x)⟩
 else none
def only (slots:Tr AV):List Nat→Tr AV
 | []=> .nil
 | t :: ts=>match slots.get t with
   | some v=>(only slots ts).put t (some v)
   | none=>only slots ts
structure DSt where
 slots:Tr AV
 pY:List (Hp×Nat)
 blks:List (Nat×dW)
 obs:List (Option dW)
 vs:List AV
def gK (base bm mm:Nat):List (Nat×dW)→Hp→Hp
 | [],h=>h
 | (a,x) :: r,h=>if bm.testBit a && !mm.testBit a then (gK base bm mm r h).put (base+a) x else gK base bm mm r h
def ev1 (tt:TT) (call:dU) (all:List Oper) (o:Oper) (s:St):T (AV×St):=
 DK all s o fun s b=>if b then Vy tt call s o.op else .ret (AV.undef,s)
def BJ (slots:Tr AV) (d:Option Nat) (v:AV):Tr AV:=match d with
 | some t=>slots.put t (some v)
 | none=>slots
def asH (tt:TT) (call:dU) (all:List Oper) (base N:Nat) (pc:List (SB×Bool)) (x:Item) (d:DSt):T DSt:=
 match d.pY with
 | []=> .fail
 | (h,mm) :: rest=>
   match x.k with
   | .pa=>(ev1 tt call all x.o ⟨only d.slots x.rd,⟨.nil,N,some (base+x.i)⟩,pc⟩).bind fun (v,s')=>
     if s'.h.next=N then
      .ret ⟨BJ d.slots x.o.dst v,d.pY,match s'.h.get (base+x.i) with | some b=>(x.i,b) :: d.blks | none=>d.blks,s'.h.get (base+x.i) :: d.obs,v :: d.vs⟩
     else .fail
   | .e=>(ev1 tt call all x.o ⟨only d.slots x.rd,gK base x.m mm d.blks h,pc⟩).bind fun (v,s')=>
     if s'.h.next≤N∧s'.h.res=none then
      .ret ⟨BJ d.slots x.o.dst v,(s'.h,mm ||| x.m) :: (h,mm) :: rest,d.blks,none :: d.obs,v :: d.vs⟩
     else .fail
   | .r=>(ev1 tt call all x.o ⟨only d.slots x.rd,gK base x.m mm d.blks h,pc⟩).bind fun (v,_)=>
     .ret ⟨BJ d.slots x.o.dst v,d.pY,d.blks,none :: d.obs,v :: d.vs⟩
def T.Ia {α β:Type} (pc:List (SB×Bool)) (f:List (SB×Bool)→α→T β):T α→T β
 | .fail=> .fail
 | .ret a=>f pc a
 | .split c x y=>match mM pc c with
   | some true=>T.Ia pc f x
   | some false=>T.Ia pc f y
   | none=> .split c (T.Ia ((c,true) :: pc) f x) (T.Ia ((c,false) :: pc) f y)
def aiC (tt:TT) (call:dU) (all:List Oper) (base N:Nat):List Item→List (SB×Bool)→DSt→T (List (SB×Bool)×DSt)
 | [],pc,d=> .ret (pc,d)
 | x :: xs,pc,d=>(asH tt call all base N pc x d).Ia pc (aiC tt call all base N xs)
def KZ (tt:TT) (call:dU) (all:List Oper) (base:Nat) (pc:List (SB×Bool)) (x:Item) (v:AV) (S:Tr AV) (blks:List (Nat×dW)) (pY:List (Hp×Nat)):List Nat→T Unit
 | []=> .ret ()
 | k :: ks=>match gQ pY k with
   | some (h,mm)=>(ev1 tt call all x.o ⟨S,gK base x.m mm blks h,pc⟩).bind fun (u,_)=>
     if eY u v then KZ tt call all base pc x v S blks pY ks else .fail
   | none=> .fail
def UR (tt:TT) (call:dU) (all:List Oper) (base:Nat) (d:DSt) (pY:List (Hp×Nat)) (vs:List AV):List (Item×List Nat)→List (SB×Bool)→T (List (SB×Bool))
 | [],pc=> .ret pc
 | (x,ks) :: r,pc=>match gQ vs x.i with
   | some v=>(KZ tt call all base pc x v (only d.slots x.rd) d.blks pY ks).Ia pc fun pc _=>UR tt call all base d pY vs r pc
   | none=> .fail
def Ul (base:Nat) (blks:List (Nat×dW)) (pY:List (Hp×Nat)):Bool:=
 blks.all fun (a,_)=>pY.all fun (h,mm)=>mm.testBit a || (h.get (base+a)).isNone
def O7 (tt:TT) (call:dU) (all:List Oper) (q:Stat) (s:St):T St:=
 match s.h.res with
 | some _=> .fail
 | none=>
 let base:=s.h.next;let n:=all.length;let N:=base+n+1099511627776
 (aiC tt call all base N q.is s.pc ⟨s.slots,[(⟨s.h.m,base+n,none⟩,0)],[],[],[]⟩).bind fun (pc,d)=>
  match d.pY with
  | []=> .fail
  | (h,mm) :: _=>
    (UR tt call all base d d.pY.reverse d.vs.reverse q.rs pc).bind fun pc=>
     if Ul base d.blks d.pY then .ret ⟨d.slots,gK base ((1 <<< n) - 1) mm d.blks h,pc⟩ else .fail
def draw (tt:TT) (call:dU) (all:List Oper) (s:St):T St:=
 match stat tt all with
 | none=> .fail
 | some q=>O7 tt call all q s
end
end Go.As
end
section
namespace Go.As
section
variable {P:Program}
theorem VN [Glob] {tt:TT} (htt:eP P tt) {call:dU} (hc:jU P call) {ops:Array Oper} {o:Oper} {s s':St} {v:AV} {ρ:Nat→Int} (hp:bI ρ s.pc) (h:(ev1 tt call ops.toList o s).leaf ρ=some (v,s')) :
 QB P ρ ops o s.slots s.h v s'.h:=by
 intro E a w hρ r sr;subst hρ;unfold ev1 at h;obtain⟨pc',hp',h1⟩:=NS ⟨r,sr,hp⟩ h;cases hw:Region.wanted o (yielded ops a.tmps) <;> rw [hw] at h1
 ·simp only [Bool.false_eq_true,if_false] at h1;have:=aH h1;simp only [Prod.mk.injEq] at this;obtain⟨rfl,rfl⟩:=this;exact .inl ⟨rfl,rfl,rfl⟩
 ·simp only [if_true] at h1;obtain⟨_,_,q3⟩:=aeQ htt hc (s:={ s with pc:=pc' }) (o:=o) r sr hp' h1;exact .inr ⟨rfl,q3⟩
theorem lW {α:Type} {ρ:Nat→Int} {s:St} {c:SB} {f:St→Bool→T α} {r:α} (h:(qI s c f).leaf ρ=some r): ∃pc' b,(f { s with pc:=pc' } b).leaf ρ=some r:=by
 unfold qI at h;split at h
 ·rename_i b _; exact⟨s.pc,b,h⟩
 ·split at h <;> simp only [T.leaf] at h <;> split at h <;> exact⟨_,_,h⟩
theorem U2 {α:Type} {ρ:Nat→Int} {s:St} {all:List Oper} {o:Oper} {f:St→Bool→T α} {r:α} (h:(DK all s o f).leaf ρ=some r): ∃pc' b,(f { s with pc:=pc' } b).leaf ρ=some r:=by
 unfold DK at h;split at h
 ·exact⟨s.pc,true,h⟩
 ·split at h
  ·split at h
   ·split at h
    ·obtain⟨pc',b,h1⟩:=lW h; exact⟨pc',_,h1⟩
    ·exact⟨s.pc,_,h⟩
    ·simp [T.leaf] at h
   ·simp [T.leaf] at h
  ·simp [T.leaf] at h
theorem NT {ρ:Nat→Int} {s:St} {x:Operand} {f:AV→T (AV×St)} {r:AV×St} (h:(Ih s x f).leaf ρ=some r): ∃v,(f v).leaf ρ=some r:=by
 unfold Ih at h;split at h
 ·exact⟨_,h⟩
 ·simp [T.leaf] at h
theorem DF {ρ:Nat→Int} {s s':St} {x:Option AV} {v:AV} (h:(yJ s x).leaf ρ=some (v,s')):s'=s:=by
 unfold yJ at h;split at h
 ·have:=aH h;simp only [Prod.mk.injEq] at this;exact this.2.symm
 ·simp [T.leaf] at h
theorem aBT {tt:TT} {op:Op} (h:kindOf tt op= .r):(∃t x,op= .load t x)∨(∃t x i ok,op= .lookup t x i ok)∨(∃c:Call,op= .call c∧c.callee= .builtin .len)∨∃t u x i j e,op= .convert t u x∧tt t=some i∧i.kind= .slice e∧tt u=some j∧j.kind= .string:=by
 unfold kindOf at h;split at h <;> try (simp at h; done)
 ·exact .inl ⟨_,_,rfl⟩
 ·exact .inr (.inl ⟨_,_,_,_,rfl⟩)
 ·rename_i c;split at h
  ·rename_i b hb;split at h <;> simp at h;exact .inr (.inr (.inl ⟨c,rfl,hb⟩))
  ·simp at h
 ·split at h
  ·rename_i i hi;split at h
   ·rename_i e he;split at h
    ·rename_i j hj;split at h
     ·rename_i hs;exact .inr (.inr (.inr ⟨_,_,_,i,j,e,rfl,hi,he,hj,hs⟩))
     ·simp at h
    ·simp at h
   ·simp at h
  ·simp at h
theorem Si {α:Type} {ρ:Nat→Int} {s:St} {i n:SE} {f:St→T α} {r:α} (h:(Gq s i n f).leaf ρ=some r): ∃pc',(f { s with pc:=pc' }).leaf ρ=some r:=by
 unfold Gq at h;obtain⟨pc1,b1,h1⟩:=lW h;split at h1
 ·simp [T.leaf] at h1
 ·obtain⟨pc2,b2,h2⟩:=lW h1;split at h2
  ·exact⟨pc2,h2⟩
  ·simp [T.leaf] at h2
theorem AU {α:Type} {ρ:Nat→Int} {kk:TK} {k:AV} {r:α} {f:St→T α}: ∀{es:List (AV×AV×Nat)} {s:St},(AX kk k es s f).leaf ρ=some r→∃pc',(f { s with pc:=pc' }).leaf ρ=some r
 | [],s,h=> ⟨s.pc,h⟩
 | (k',v,b) :: es,s,h=>by
   simp only [AX] at h;split at h
   ·split at h
    ·exact⟨s.pc,h⟩
    ·exact AU h
   ·split at h
    ·obtain⟨pc1,b1,h1⟩:=lW h;split at h1
     ·exact⟨pc1,h1⟩
     ·obtain⟨pc2,h2⟩:=AU h1;exact⟨pc2,h2⟩
    ·exact⟨s.pc,h⟩
theorem QF {α:Type} {ρ:Nat→Int} {tt:TT} {t:Nat} {m k:AV} {r:α} {f:St→T α} {s:St} (h:(sN tt t m k s f).leaf ρ=some r): ∃pc',(f { s with pc:=pc' }).leaf ρ=some r:=by
 unfold sN at h;split at h
 ·split at h
  ·split at h
   ·split at h
    ·exact AU h
    ·exact⟨s.pc,h⟩
   ·exact⟨s.pc,h⟩
  ·exact⟨s.pc,h⟩
 ·exact⟨s.pc,h⟩
theorem axR {s s':St} {cs:List AV} {e:SE} {v:AV} {ρ:Nat→Int} (h:(Tq s cs e).leaf ρ=some (v,s')):s'.h=s.h:=by
 unfold Tq at h;split at h
 ·simp [T.leaf] at h
 ·split at h
  ·simp [T.leaf] at h
  ·obtain⟨pc',h1⟩:=Si h;have:=aH h1;simp only [Prod.mk.injEq] at this;rw [← this.2]
theorem ahX {tt:TT} {s s':St} {ty t:Nat} {k:AV} {ok:Bool} {e:SE} {v:AV} {ρ:Nat→Int} (h:(G9 tt ty k ok e t s).leaf ρ=some (v,s')):s'.h=s.h:=by
 unfold G9 at h;split at h
 ·simp [T.leaf] at h
 ·split at h
  ·simp [T.leaf] at h
  ·obtain⟨pc',b,h1⟩:=lW h
   split at h1 <;>
   ·have:=aH h1;simp only [Prod.mk.injEq] at this;rw [← this.2]
theorem Jq {α:Type} {ρ:Nat→Int} {i:SE} {r:α}: ∀{ov:List (SE×List AV)} {s:St} {k:St→T α},(BG i ov s k).leaf ρ=some r→∃pc',(k { s with pc:=pc' }).leaf ρ=some r
 | [],s,k,h=> ⟨s.pc,h⟩
 | (j,c) :: l,s,k,h=>by
   simp only [BG] at h;split at h
   ·exact⟨s.pc,h⟩
   ·obtain⟨pc1,b1,h1⟩:=lW h;split at h1
    ·exact⟨pc1,h1⟩
    ·obtain⟨pc2,h2⟩:=Jq h1;exact⟨pc2,h2⟩
theorem ahY {tt:TT} {s s':St} {ty id es off:Nat} {i:SE} {v:AV} {ρ:Nat→Int} (h:(He tt s ty id es i off).leaf ρ=some (v,s')):s'.h=s.h:=by
 unfold He at h;split at h
 ·split at h
  ·split at h
   ·split at h
    ·simp [T.leaf] at h
    ·exact axR h
   ·simp [T.leaf] at h
  ·split at h
   ·split at h
    ·obtain⟨pc',h1⟩:=Si h;obtain⟨pc2,h1⟩:=Jq h1;split at h1
     ·split at h1
      ·rw [DF h1]
      ·simp [T.leaf] at h1
     ·simp [T.leaf] at h1
    ·simp [T.leaf] at h
   ·simp [T.leaf] at h
  ·simp [T.leaf] at h
 ·simp [T.leaf] at h
theorem aCQ {tt:TT} {call:dU} {op:Op} {s s':St} {v:AV} {ρ:Nat→Int} (hk:kindOf tt op= .r) (h:(Vy tt call s op).leaf ρ=some (v,s')):s'.h=s.h:=by
 rcases aBT hk with ⟨t,x,rfl⟩ | ⟨t,x,i,ok,rfl⟩ | ⟨c,rfl,hc⟩ | ⟨t,u,x,i,j,e,rfl,hi,he,hj,hs⟩
 ·simp only [Vy] at h;obtain⟨p,h1⟩:=NT h;split at h1
  ·exact ahY h1
  ·rw [DF h1]
 ·simp only [Vy] at h;obtain⟨p,h1⟩:=NT h;split at h1
  ·split at h1
   ·exact ahX h1
   obtain⟨pc',h1⟩:=QF h1;rw [DF h1]
  ·simp [T.leaf] at h1
 ·simp only [Vy,VI] at h;split at h
  ·simp [T.leaf] at h
  ·rw [hc] at h;simp only [D7] at h;split at h
   all_goals first
    | (rw [DF h]; done)
    | (simp [T.leaf] at h; done)
    | (rename_i e _ _; simp at e; done)
    | skip
   all_goals simp_all
 ·simp only [Vy] at h;obtain⟨p,h1⟩:=NT h;split at h1
  ·unfold LM at h1;rw [hi] at h1;simp only [he] at h1;simp [T.leaf] at h1
  obtain⟨H,e1,rfl⟩:=vU h1;unfold vF at e1;rw [hi,hj] at e1;simp only [hs,he] at e1;split at e1
  ·simp at e1
  ·split at e1
   ·split at e1
    ·simp only [Option.some.injEq,Prod.mk.injEq] at e1;exact e1.2.symm
    ·split at e1
     ·rw [Option.map_eq_some_iff] at e1;obtain⟨l,_,e2⟩:=e1;simp only [Prod.mk.injEq] at e2;exact e2.2.symm
     ·simp at e1
    ·simp at e1
   ·simp at e1
theorem aE4 {tt:TT} {call:dU} {all:List Oper} {o:Oper} {s s':St} {v:AV} {ρ:Nat→Int} (hk:kindOf tt o.op= .r) (h:(ev1 tt call all o s).leaf ρ=some (v,s')):s'.h=s.h:=by
 unfold ev1 at h;obtain⟨pc',b,h1⟩:=U2 h;cases b
 ·simp only [Bool.false_eq_true,if_false] at h1;have:=aH h1;simp only [Prod.mk.injEq] at this;rw [← this.2]
 ·simp only [if_true] at h1;exact aCQ (s:={ s with pc:=pc' }) hk h1
theorem uG {base bm mm:Nat}: ∀{l:List (Nat×dW)} {h:Hp} {id:Nat} {x:dW},(gK base bm mm l h).get id=some x→h.get id=some x∨∃a,(a,x)∈l∧bm.testBit a=true∧mm.testBit a=false∧id=base+a
 | [],h,id,x,hh=> .inl hh
 | (a,y) :: r,h,id,x,hh=>by
   simp only [gK] at hh;split at hh
   ·rename_i hb;rw [Hp.get_put] at hh;split at hh
    ·rename_i e;simp at hh;subst hh;simp at hb;exact .inr ⟨a,by simp,hb.1,hb.2,e⟩
    ·rcases uG hh with h1 | ⟨b,h1,h2⟩
     ·exact .inl h1
     ·exact .inr ⟨b,by simp [h1],h2⟩
   ·rcases uG hh with h1 | ⟨b,h1,h2⟩
    ·exact .inl h1
    ·exact .inr ⟨b,by simp [h1],h2⟩
theorem lU {base bm mm:Nat}: ∀(l:List (Nat×dW)) (h:Hp),(gK base bm mm l h).next=h.next∧(gK base bm mm l h).res=h.res
 | [],h=> ⟨rfl,rfl⟩
 | (a,y) :: r,h=>by
   have:=lU (base:=base) (bm:=bm) (mm:=mm) r h;simp only [gK];split
   ·exact this
   ·exact this
theorem Gp {slots:Tr AV}: ∀{ts:List Nat} {t:Nat} {x:AV},(only slots ts).get t=some x→t∈ts∧slots.get t=some x
 | [],t,x,h=>by simp [only,Tr.get] at h
 | u :: us,t,x,h=>by
   simp only [only] at h;split at h
   ·rename_i v hv;rw [Tr.get_put] at h;split at h
    ·rename_i e;subst e;exact⟨by simp,by rw [hv]; exact h⟩
    ·have:=Gp h;exact⟨by simp [this.1],this.2⟩
   ·have:=Gp h;exact⟨by simp [this.1],this.2⟩
theorem Dx {slots:Tr AV} {d:Option Nat} {v:AV} {t:Nat}:(BJ slots d v).get t=if d=some t then some v else slots.get t:=by
 cases d with
 | none=>simp [BJ]
 | some u=>
   simp only [BJ,Tr.get_put,Option.some.injEq];by_cases h:t=u
   ·subst h; simp
   ·rw [if_neg h,if_neg (fun e=>h e.symm)]
theorem uV {ms:List Nat} {i:Nat}: ∀{es:List Edge},(tX ms es).testBit i=true→∃e∈es,Region.binds .any e=true∧(e.on=i∨(ms.getD e.on 0).testBit i=true)
 | [],h=>by simp [tX] at h
 | e :: es,h=>by
   simp only [tX] at h;split at h
   ·rename_i hb;simp only [Nat.testBit_or,Bool.or_eq_true] at h;rcases h with (h | h) | h
    ·rw [Nat.shiftLeft_eq,Nat.one_mul,Nat.testBit_two_pow] at h;exact⟨e,by simp,hb,.inl (by simpa using h)⟩
    ·exact⟨e,by simp,hb,.inr h⟩
    ·obtain⟨e',h1,h2⟩:=uV h;exact⟨e',by simp [h1],h2⟩
   ·obtain⟨e',h1,h2⟩:=uV h;exact⟨e',by simp [h1],h2⟩
def lT (tt:TT):List Oper→Nat
 | []=>0
 | o :: os=>(match kindOf tt o.op with | .e=>1 | _=>0)+lT tt os
theorem lZ {tt:TT} {all:List Oper} {ms:List Nat}: ∀(os:List Oper) (i n j:Nat),(items tt all ms os i n)[j]?=(os[j]?).map fun o=> ⟨i+j,o,ms.getD (i+j) 0,kindOf tt o.op,n+lT tt (os.take j),reads all o⟩
 | [],i,n,j=>by simp [items]
 | o :: os,i,n,j=>by
   simp only [items]
   cases j with
   | zero=>simp [lT]
   | succ j=>
     rw [List.getElem?_cons_succ,lZ os];simp only [List.getElem?_cons_succ,List.take_succ_cons,lT];congr 1;funext o';have:i+1+j=i+(j+1):=by omega
     rw [this];congr 1;cases kindOf tt o.op <;> simp <;> omega
theorem Ae {tt:TT} {all:List Oper} {ms:List Nat}: ∀(os:List Oper) (i n:Nat),(items tt all ms os i n).length=os.length
 | [],i,n=>rfl
 | o :: os,i,n=>by simp [items,Ae os]
theorem qW {tt:TT} {all:List Oper} {ms:List Nat}: ∀(os:List Oper) (i n:Nat),mF (items tt all ms os i n)=lT tt os
 | [],i,n=>rfl
 | o :: os,i,n=>by simp only [items,mF,lT,qW os];cases kindOf tt o.op <;> simp <;> omega
end
end Go.As
end
section
namespace Go.As
section
variable {P:Program}
def P5 [Glob] (P:Program) (ρ:Nat→Int) (ops:Array Oper) (base N:Nat) (x:Item) (d:DSt) (v:AV) (ob:Option dW) (d1:DSt):Prop:=
 ∃h mm rest,d.pY=(h,mm) :: rest∧match x.k with
  | .pa=>d1.pY=d.pY∧∃HA,QB P ρ ops x.o (only d.slots x.rd) ⟨.nil,N,some (base+x.i)⟩ v HA∧HA.next=N∧ob=HA.get (base+x.i)
  | .e=>ob=none∧∃hn,d1.pY=(hn,mm ||| x.m) :: d.pY∧hn.next≤N∧hn.res=none∧QB P ρ ops x.o (only d.slots x.rd) (gK base x.m mm d.blks h) v hn
  | .r=>ob=none∧d1.pY=d.pY
theorem asG [Glob] {tt:TT} (htt:eP P tt) {call:dU} (hc:jU P call) {ops:Array Oper} {base N:Nat} {pc:List (SB×Bool)} {ρ:Nat→Int} (hp:bI ρ pc) {x:Item} {d d1:DSt} (h:(asH tt call ops.toList base N pc x d).leaf ρ=some d1) :
 ∃v ob,d1.slots=BJ d.slots x.o.dst v∧d1.vs=v :: d.vs∧d1.obs=ob :: d.obs∧d1.blks=(match ob with | some b=>(x.i,b) :: d.blks | none=>d.blks)∧P5 P ρ ops base N x d v ob d1:=by
 unfold asH at h;split at h
 ·simp [T.leaf] at h
 ·rename_i h0 mm rest hs;split at h
  ·rename_i hk;obtain⟨⟨v,s'⟩,h1,h2⟩:=T.fU h;have ha:=VN htt hc (s:=⟨only d.slots x.rd,⟨.nil,N,some (base+x.i)⟩,pc⟩) hp h1;simp only at h2;split at h2
   ·rename_i hn;have:=aH h2;subst this;refine⟨v,s'.h.get (base+x.i),rfl,rfl,rfl,?_,h0,mm,rest,hs,?_⟩
    ·cases s'.h.get (base+x.i) <;> rfl
    ·rw [hk];exact⟨rfl,s'.h,ha,hn,rfl⟩
   ·simp [T.leaf] at h2
  ·rename_i hk;obtain⟨⟨v,s'⟩,h1,h2⟩:=T.fU h;have ha:=VN htt hc (s:=⟨only d.slots x.rd,gK base x.m mm d.blks h0,pc⟩) hp h1;simp only at h2;split at h2
   ·rename_i hn;have:=aH h2;subst this;refine⟨v,none,rfl,rfl,rfl,rfl,h0,mm,rest,hs,?_⟩;rw [hk];exact⟨rfl,s'.h,by rw [hs],hn.1,hn.2,ha⟩
   ·simp [T.leaf] at h2
  ·rename_i hk;obtain⟨⟨v,s'⟩,h1,h2⟩:=T.fU h;have:=aH h2;subst this;refine⟨v,none,rfl,rfl,rfl,rfl,h0,mm,rest,hs,?_⟩;rw [hk];exact⟨rfl,rfl⟩
theorem P5.pY [Glob] {ρ:Nat→Int} {ops:Array Oper} {base N:Nat} {x:Item} {d d1:DSt} {v:AV} {ob:Option dW} (h:P5 P ρ ops base N x d v ob d1): ∃pre,d1.pY=pre++d.pY∧pre.length=mF [x]:=by
 obtain⟨h0,mm,rest,hs,h1⟩:=h;cases hk:x.k <;> rw [hk] at h1
 ·exact⟨[],by rw [h1.1]; rfl,by simp [mF,hk]⟩
 ·obtain⟨_,hn,h2,_⟩:=h1;exact⟨[(hn,mm ||| x.m)],by rw [h2]; rfl,by simp [mF,hk]⟩
 ·exact⟨[],by rw [h1.2]; rfl,by simp [mF,hk]⟩
theorem P5.nxt [Glob] {ρ:Nat→Int} {ops:Array Oper} {base N:Nat} {x:Item} {d d1:DSt} {v:AV} {ob:Option dW} (h:P5 P ρ ops base N x d v ob d1) (hh: ∀q∈d.pY,q.1.next≤N∧q.1.res=none): ∀q∈d1.pY,q.1.next≤N∧q.1.res=none:=by
 obtain⟨h0,mm,rest,hs,h1⟩:=h;cases hk:x.k <;> rw [hk] at h1
 ·rw [h1.1]; exact hh
 ·obtain⟨_,hn,h2,h3,h4,_⟩:=h1;rw [h2];intro q hq;rcases List.mem_cons.1 hq with rfl | hq
  ·exact⟨h3,h4⟩
  ·exact hh q hq
 ·rw [h1.2]; exact hh
structure aFB [Glob] (P:Program) (ρ:Nat→Int) (ops:Array Oper) (base N:Nat) (xs:List Item) (d d':DSt):Prop where
 vs: ∃pre,d'.vs=pre++d.vs∧pre.length=xs.length
 obs: ∃pre,d'.obs=pre++d.obs∧pre.length=xs.length
 pY: ∃pre,d'.pY=pre++d.pY∧pre.length=mF xs
 blk: ∀a b,(a,b)∈d'.blks→(a,b)∈d.blks∨∃p x,xs[p]?=some x∧x.i=a∧d'.obs.reverse[d.obs.length+p]?=some (some b)
 aGk: ∀p x b,xs[p]?=some x→d'.obs.reverse[d.obs.length+p]?=some (some b)→(x.i,b)∈d'.blks
 aGJ: ∀q,q∈d.blks→q∈d'.blks
 slot: ∀t x,d'.slots.get t=some x→(∃p y,xs[p]?=some y∧y.o.dst=some t∧d'.vs.reverse[d.vs.length+p]?=some x)∨(d.slots.get t=some x∧∀y∈xs,y.o.dst≠some t)
 same: ∀t,(∀y∈xs,y.o.dst≠some t)→d'.slots.get t=d.slots.get t
 nxt:(∀q∈d.pY,q.1.next≤N∧q.1.res=none)→∀q∈d'.pY,q.1.next≤N∧q.1.res=none
 at_: ∀p x,xs[p]?=some x→∃dp dp1 v ob pre,P5 P ρ ops base N x dp v ob dp1∧d'.vs.reverse[d.vs.length+p]?=some v∧d'.obs.reverse[d.obs.length+p]?=some ob∧d'.pY=pre++dp1.pY∧dp.pY.length=d.pY.length+mF (xs.take p)∧
  (∀q,q∈dp.blks→q∈d'.blks)∧(∀t,(∀y∈xs.drop p,y.o.dst≠some t)→d'.slots.get t=dp.slots.get t)∧
  (∀t z,dp.slots.get t=some z→(∃p' y,p' < p∧xs[p']?=some y∧y.o.dst=some t∧d'.vs.reverse[d.vs.length+p']?=some z)∨(d.slots.get t=some z∧∀y∈xs.take p,y.o.dst≠some t))
theorem rev_at {α:Type} {l pre l0:List α} {v:α} (h:l=pre++v :: l0):l.reverse[l0.length]?=some v:=by subst h;simp
theorem J3 (x:Item) (xs:List Item):mF (x :: xs)=mF [x]+mF xs:=by simp only [mF];cases x.k <;> simp <;> omega
theorem T.pR {α β:Type} {ρ:Nat→Int} {f:List (SB×Bool)→α→T β} {r:β}: ∀{x:T α} {pc:List (SB×Bool)},bI ρ pc→(x.Ia pc f).leaf ρ=some r→∃a pc',x.leaf ρ=some a∧bI ρ pc'∧(f pc' a).leaf ρ=some r
 | .fail,pc,_,h=>by simp [T.Ia,T.leaf] at h
 | .ret a,pc,hp,h=> ⟨a,pc,rfl,hp,h⟩
 | .split c x y,pc,hp,h=>by
   simp only [T.Ia] at h
   cases hd:mM pc c with
   | some b=>
     rw [hd] at h;have hb:=jA hp hd;simp only [T.leaf,hb]
     cases b with
     | true=>exact T.pR hp h
     | false=>exact T.pR hp h
   | none=>
     rw [hd] at h;simp only [T.leaf] at h ⊢
     cases hb:c.den ρ with
     | true=>
       rw [hb] at h
       exact T.pR (x:=x) (pc:=(c,true) :: pc) (fun c' b' hm=>by
        rcases List.mem_cons.1 hm with he | hm
        ·simp only [Prod.mk.injEq] at he; rw [he.1,he.2]; exact hb
        ·exact hp c' b' hm) h
     | false=>
       rw [hb] at h
       exact T.pR (x:=y) (pc:=(c,false) :: pc) (fun c' b' hm=>by
        rcases List.mem_cons.1 hm with he | hm
        ·simp only [Prod.mk.injEq] at he; rw [he.1,he.2]; exact hb
        ·exact hp c' b' hm) h
theorem aeX {tt:TT} {call:dU} {all:List Oper} {base N:Nat} {ρ:Nat→Int}: ∀(xs:List Item) {pc pc':List (SB×Bool)} {d d':DSt},bI ρ pc→(aiC tt call all base N xs pc d).leaf ρ=some (pc',d')→bI ρ pc'
 | [],pc,pc',d,d',hp,h=>by have:=aH h;simp only [Prod.mk.injEq] at this;rw [← this.1]; exact hp
 | x :: xs,pc,pc',d,d',hp,h=>by simp only [aiC] at h;obtain⟨d1,pc1,_,hp1,h2⟩:=T.pR hp h;exact aeX xs hp1 h2
theorem aeY [Glob] {tt:TT} (htt:eP P tt) {call:dU} (hc:jU P call) {ops:Array Oper} {base N:Nat} {ρ:Nat→Int}: ∀(xs:List Item) {pc pc':List (SB×Bool)} {d d':DSt},bI ρ pc→(aiC tt call ops.toList base N xs pc d).leaf ρ=some (pc',d')→aFB P ρ ops base N xs d d'
 | [],pc,pc',d,d',hp,h=>by have:=aH h;simp only [Prod.mk.injEq] at this;obtain⟨_,rfl⟩:=this;exact⟨⟨[],rfl,rfl⟩,⟨[],rfl,rfl⟩,⟨[],rfl,rfl⟩,fun a b h=> .inl h,fun p x b hh=>by simp at hh,fun q h=>h,fun t x h=> .inr ⟨h,by simp⟩,fun t _=>rfl,fun h=>h,fun p x hh=>by simp at hh⟩
 | x :: xs,pc,pc',d,d',hp,h=>by
   simp only [aiC] at h;obtain⟨d1,pc1,h1,hp1,h2⟩:=T.pR hp h;obtain⟨v,ob,e1,e2,e3,e4,hF⟩:=asG htt hc hp h1;obtain⟨⟨pv,v1,v2⟩,⟨po,o1,o2⟩,⟨ps,s1,s2⟩,b1,b2,b3,sl,sm,nx,hat⟩:=aeY htt hc xs hp1 h2;obtain⟨qs,t1,t2⟩:=hF.pY;have hv0:d'.vs.reverse[d.vs.length]?=some v:=rev_at (by rw [v1,e2]);have ho0:d'.obs.reverse[d.obs.length]?=some ob:=rev_at (by rw [o1,e3]);have hvl:d1.vs.length=d.vs.length+1:=by rw [e2]; rfl
   have hol:d1.obs.length=d.obs.length+1:=by rw [e3]; rfl
   have hb0: ∀q,q∈d.blks→q∈d1.blks:=by
    intro q hq;rw [e4]
    cases ob with
    | none=>exact hq
    | some b=>exact List.mem_cons_of_mem _ hq
   have hsh: ∀(p n:Nat),n+1+p=n+(p+1):=by intro p n; omega
   refine⟨⟨pv++ [v],by rw [v1,e2]; simp,by simp [v2]⟩,⟨po++ [ob],by rw [o1,e3]; simp,by simp [o2]⟩,⟨ps++qs,by rw [s1,t1]; simp,by rw [List.length_append,J3,s2,t2]; omega⟩,?_,?_,fun q hq=>b3 q (hb0 q hq),?_,?_,fun hh=>nx (hF.nxt hh),?_⟩
   ·intro a b hab;rcases b1 a b hab with hh | ⟨p,y,g1,g2,g3⟩
    ·rw [e4] at hh
     cases ob with
     | none=>exact .inl hh
     | some c=>
       simp only [List.mem_cons,Prod.mk.injEq] at hh;rcases hh with ⟨rfl,rfl⟩ | hh
       ·exact .inr ⟨0,x,rfl,rfl,ho0⟩
       ·exact .inl hh
    ·exact .inr ⟨p+1,y,by simpa using g1,g2,by rw [← hsh,← hol]; exact g3⟩
   ·intro p y b hy hb
    cases p with
    | zero=> simp at hy;subst hy;rw [Nat.add_zero,ho0] at hb;simp at hb;subst hb;exact b3 _ (by rw [e4]; simp)
    | succ p=> refine b2 p y b (by simpa using hy) ?_;rw [hol,hsh];exact hb
   ·intro t y hy;rcases sl t y hy with ⟨p,z,g1,g2,g3⟩ | ⟨g1,g2⟩
    ·exact .inl ⟨p+1,z,by simpa using g1,g2,by rw [← hsh,← hvl]; exact g3⟩
    ·rw [e1,Dx] at g1;split at g1
     ·rename_i hd;simp at g1;subst g1;exact .inl ⟨0,x,rfl,hd,hv0⟩
     ·rename_i hd;refine .inr ⟨g1,fun z hz=>?_⟩;rcases List.mem_cons.1 hz with rfl | hz
      ·exact hd
      ·exact g2 z hz
   ·intro t ht;rw [sm t fun y hy=>ht y (by simp [hy]),e1,Dx,if_neg (ht x (by simp))]
   ·intro p y hy
    cases p with
    | zero=> simp at hy;subst hy;refine⟨d,d1,v,ob,ps,hF,hv0,ho0,s1,by simp [mF],fun q hq=>b3 q (hb0 q hq),fun t ht=>?_,fun t z hz=> .inr ⟨hz,by simp⟩⟩;rw [sm t fun y hy=>ht y (by simp [hy]),e1,Dx,if_neg (ht x (by simp))]
    | succ p=>
      obtain⟨dp,dp1,v',ob',pre,g1,g2,g3,g4,g5,g6,g7,g8⟩:=hat p y (by simpa using hy);refine⟨dp,dp1,v',ob',pre,g1,by rw [← hsh,← hvl]; exact g2,by rw [← hsh,← hol]; exact g3,g4,?_,g6,fun t ht=>g7 t (by simpa using ht),fun t z hz=>?_⟩
      ·rw [g5,List.take_succ_cons,J3,t1,List.length_append,t2];omega
      ·rcases g8 t z hz with ⟨p',y',q1,q2,q3,q4⟩ | ⟨q1,q2⟩
       ·exact .inl ⟨p'+1,y',by omega,by simpa using q2,q3,by rw [← hsh,← hvl]; exact q4⟩
       ·rw [e1,Dx] at q1;split at q1
        ·rename_i hd;simp at q1;subst q1;exact .inl ⟨0,x,by omega,rfl,hd,hv0⟩
        ·rename_i hd;refine .inr ⟨q1,fun u hu=>?_⟩;rw [List.take_succ_cons] at hu;rcases List.mem_cons.1 hu with rfl | hu
         ·exact hd
         ·exact q2 u hu
end
end Go.As
end
section
namespace Go.As
section
variable {P:Program}
theorem Ea {tt:TT}: ∀{l:List Oper} {i:Nat} {o:Oper},l[i]?=some o→lT tt (l.take (i+1))=lT tt (l.take i)+(match kindOf tt o.op with | .e=>1 | _=>0)
 | [],i,o,h=>by simp at h
 | x :: xs,0,o,h=>by simp at h;subst h;simp only [Nat.zero_add,List.take_succ_cons,List.take_zero,lT];cases kindOf tt x.op <;> rfl
 | x :: xs,i+1,o,h=>by simp only [List.take_succ_cons,lT];rw [Ea (l:=xs) (by simpa using h)];omega
theorem Yp {tt:TT} {l:List Oper} {i:Nat} (h:l[i]?=none):lT tt (l.take (i+1))=lT tt (l.take i):=by have:=List.getElem?_eq_none_iff.1 h;rw [List.take_of_length_le (by omega),List.take_of_length_le (by omega)]
theorem TU {tt:TT} {l:List Oper} {i:Nat}: ∀{j:Nat},i≤j→lT tt (l.take i)≤lT tt (l.take j)
 | 0,h=>by
   obtain rfl:i=0:=by omega
   exact Nat.le_refl _
 | j+1,h=>by
   by_cases e:i=j+1
   ·subst e; exact Nat.le_refl _
   ·have:=TU (tt:=tt) (l:=l) (i:=i) (j:=j) (by omega)
    cases ho:l[j]? with
    | none=>rw [Yp ho]; exact this
    | some o=>rw [Ea ho]; omega
theorem V6 {tt:TT} {l:List Oper} {i j:Nat} {o:Oper} (ho:l[i]?=some o) (hk:kindOf tt o.op= .e) (h:i < j):lT tt (l.take i) < lT tt (l.take j):=by have h1:=Ea (tt:=tt) ho;rw [hk] at h1;have h2:=TU (tt:=tt) (l:=l) (i:=i+1) (j:=j) h;simp only at h1;omega
theorem D9 {tt:TT} {l:List Oper} {m:Nat}: ∀{j:Nat},m < lT tt (l.take j)→∃i o,i < j∧l[i]?=some o∧kindOf tt o.op= .e∧lT tt (l.take i)=m
 | 0,h=>by simp [lT] at h
 | j+1,h=>by
   cases ho:l[j]? with
   | none=> rw [Yp ho] at h;obtain⟨i,o,h1,h2⟩:=D9 h;exact⟨i,o,by omega,h2⟩
   | some o=>
     rw [Ea ho] at h;rcases Nat.lt_or_ge m (lT tt (l.take j)) with h' | h'
     ·obtain⟨i,o,h1,h2⟩:=D9 h';exact⟨i,o,by omega,h2⟩
     ·cases hk:kindOf tt o.op <;> rw [hk] at h <;> simp only at h <;> try omega
      exact⟨j,o,by omega,ho,hk,by omega⟩
def Ii (tt:TT) (all:List Oper) (ms:List Nat) (j:Nat) (o:Oper):Item:=⟨j,o,ms.getD j 0,kindOf tt o.op,lT tt (all.take j),reads all o⟩
theorem kE {tt:TT} {all:List Oper} {ms:List Nat} {j:Nat} {o:Oper} (h:all[j]?=some o):(items tt all ms all 0 0)[j]?=some (Ii tt all ms j o):=by rw [lZ,h];simp [Ii]
theorem SQ {tt:TT} {all:List Oper} {ms:List Nat} {x:Item} (h:x∈items tt all ms all 0 0): ∃j o,all[j]?=some o∧x=Ii tt all ms j o:=by
 obtain⟨j,hj⟩:=List.getElem?_of_mem h
 cases ho:all[j]? with
 | none=>rw [lZ,ho] at hj; simp at hj
 | some o=> rw [kE ho] at hj;simp at hj;exact⟨j,o,ho,hj.symm⟩
structure aA4 (tt:TT) (all:List Oper) (ms:List Nat):Prop where
 back: ∀(j:Nat) (o:Oper),all[j]?=some o→∀e∈o.after,Region.binds .any e=true→e.on < j
 mask: ∀(j:Nat) (o:Oper),all[j]?=some o→ms.getD j 0=tX ms o.after.toList
 rd: ∀(j:Nat) (o:Oper),all[j]?=some o→∀t∈reads all o,∀(i:Nat) (oi:Oper),all[i]?=some oi→oi.dst=some t→(ms.getD j 0).testBit i=true∨(kindOf tt o.op≠.r∧(ms.getD i 0).testBit j=true)
 dst: ∀(i j:Nat) (oi oj:Oper) (d:Nat),all[i]?=some oi→all[j]?=some oj→oi.dst=some d→oj.dst=some d→i=j
 tot: ∀(i j:Nat) (oi oj:Oper),all[i]?=some oi→all[j]?=some oj→kindOf tt oi.op= .e→kindOf tt oj.op= .e→i < j→(ms.getD j 0).testBit i=true
theorem auV {tt:TT} {all:List Oper} {q:Stat} (h:stat tt all=some q): ∃ms,q.is=items tt all ms all 0 0∧q.nE=lT tt all∧q.rs=((q.is.filter (·.k.ZR)).map fun x=>(x,stages q.is q.nE x))∧aA4 tt all ms:=by
 unfold stat at h;simp only at h;split at h
 ·rename_i hok;simp at h;subst h;refine⟨wU all [],rfl,qW _ _ _,rfl,?_⟩;have key: ∀(j:Nat) (o:Oper),all[j]?=some o→EX (wU all []) (items tt all (wU all []) all 0 0) (Ii tt all (wU all []) j o)=true:=fun j o ho=>List.all_eq_true.1 hok _ (List.mem_of_getElem? (kE ho));have mem: ∀(j:Nat) (o:Oper),all[j]?=some o→Ii tt all (wU all []) j o∈items tt all (wU all []) all 0 0:=fun j o ho=>List.mem_of_getElem? (kE ho);refine⟨?_,?_,?_,?_,?_⟩
  ·intro j o ho e he hb;have:=key j o ho;simp only [EX,Bool.and_eq_true,List.all_eq_true] at this;have:=this.1.1.1.1 e (by simpa [Ii] using he);simpa [hb,Ii] using this
  ·intro j o ho;have:=key j o ho;simp only [EX,Bool.and_eq_true] at this;have:=this.1.1.1.2;simpa [Ii] using this
  ·intro j o ho t ht i oi hoi hd;have:=key j o ho;simp only [EX,Bool.and_eq_true,List.all_eq_true] at this;have:=this.1.1.2 t ht _ (mem i oi hoi);simp only [Ii,hd,ne_eq,not_true_eq_false,decide_false,Bool.false_or,Bool.or_eq_true,Bool.and_eq_true,Bool.not_eq_true'] at this;rcases this with h | ⟨h1,h2⟩
   ·exact .inl h
   ·refine .inr ⟨fun hk=>?_,h2⟩;rw [hk] at h1;simp [Kind.ZR] at h1
  ·intro i j oi oj d hi hj hdi hdj;have:=key i oi hi;simp only [EX,Bool.and_eq_true,List.all_eq_true] at this;have:=this.1.2 _ (mem j oj hj);simp [Ii,hdi,hdj] at this;exact this.symm
  ·intro i j oi oj hi hj hki hkj hlt;have:=key j oj hj;simp only [EX,Bool.and_eq_true,List.all_eq_true] at this;have:=this.2;simp only [Ii,hkj,Kind.isE,Bool.not_true,Bool.false_or,List.all_eq_true] at this;have:=this _ (mem i oi hi);simpa [Ii,hki,Kind.isE,hlt] using this
 ·simp at h
theorem Ny [Glob] {tt:TT} (htt:eP P tt) {call:dU} (hc:jU P call) {ops:Array Oper} {base:Nat} {pc:List (SB×Bool)} {ρ:Nat→Int} (hp:bI ρ pc) {x:Item} (hk:kindOf tt x.o.op= .r) {v:AV} {S:Tr AV} {blks:List (Nat×dW)} {pY:List (Hp×Nat)}: ∀(ks:List Nat),(KZ tt call ops.toList base pc x v S blks pY ks).leaf ρ=some ()→
 ∀k∈ks,∃h mm,pY[k]?=some (h,mm)∧QB P ρ ops x.o S (gK base x.m mm blks h) v (gK base x.m mm blks h)
 | [],_=>by simp
 | k :: ks,h=>by
   simp only [KZ] at h;split at h
   ·rename_i h0 mm hn;obtain⟨⟨u,s'⟩,h1,h2⟩:=T.fU h;simp only at h2;split at h2
    ·rename_i hs;have ha:=VN htt hc (s:=⟨S,gK base x.m mm blks h0,pc⟩) hp h1;have hr:=aE4 hk h1;rw [hr,nM _ _ hs] at ha;intro k' hk';rcases List.mem_cons.1 hk' with rfl | hk'
     ·exact⟨h0,mm,by rw [← dB]; exact hn,ha⟩
     ·exact Ny htt hc hp hk ks h2 k' hk'
    ·simp [T.leaf] at h2
   ·simp [T.leaf] at h
theorem RG [Glob] {tt:TT} (htt:eP P tt) {call:dU} (hc:jU P call) {ops:Array Oper} {base:Nat} {ρ:Nat→Int} {d:DSt} {pY:List (Hp×Nat)} {vs:List AV}: ∀(rs:List (Item×List Nat)) {pc pc':List (SB×Bool)},bI ρ pc→(∀r∈rs,kindOf tt r.1.o.op= .r)→(UR tt call ops.toList base d pY vs rs pc).leaf ρ=some pc'→
 bI ρ pc'∧∀r∈rs,∃v,vs[r.1.i]?=some v∧∀k∈r.2,∃h mm,pY[k]?=some (h,mm)∧QB P ρ ops r.1.o (only d.slots r.1.rd) (gK base r.1.m mm d.blks h) v (gK base r.1.m mm d.blks h)
 | [],pc,pc',hp,_,h=>by have:=aH h;subst this;exact⟨hp,by simp⟩
 | (x,ks) :: rs,pc,pc',hp,hk,h=>by
   simp only [UR] at h;split at h
   ·rename_i v hv;obtain⟨⟨⟩,pc1,h1,hp1,h2⟩:=T.pR hp h;obtain⟨hp2,ih⟩:=RG htt hc rs hp1 (fun r hr=>hk r (by simp [hr])) h2;refine⟨hp2,fun r hr=>?_⟩;rcases List.mem_cons.1 hr with rfl | hr
    ·exact⟨v,by rw [← dB]; exact hv,Ny htt hc hp (hk _ (by simp)) ks h1⟩
    ·exact ih r hr
   ·simp [T.leaf] at h
end
end Go.As
end

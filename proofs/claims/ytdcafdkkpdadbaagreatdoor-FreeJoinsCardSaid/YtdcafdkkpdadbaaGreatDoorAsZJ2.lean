import Derived.Test.YtdcafdkkpdadbaaGreatDoorAsZJ1
set_option linter.unusedSectionVars false
set_option linter.unusedVariables false
set_option linter.unusedSimpArgs false
section
namespace Go.As
section
variable {P:Program} {E:En} {w:World}
theorem bG.swap [Glob] {H H2:Hp} (r:bG E H w) {id:Nat} {o o':dW} (hl:H.get id=some o) (ho:OR E w.heap id o') (hg:H2.get id=some o') (hs: ∀j,j≠id→H2.get j=H.get j) (hn:H2.next=H.next) (hr:H2.res=H.res):bG E H2 w:=by
 have key: ∀j x,H2.get j=some x→∃y,H.get j=some y:=by
  intro j x hj
  by_cases h:j=id
  ·exact⟨o,by rw [h]; exact hl⟩
  ·exact⟨x,by rw [← hs j h]; exact hj⟩
 refine⟨fun i hi=>r.fresh i (by rw [← hn]; exact hi),fun q hq=>by rw [hn]; exact r.res q (by rw [← hr]; exact hq),fun j x hj=>?_,fun i j x y hi hj he=>?_,r.AZ,r.glob⟩
 ·by_cases h:j=id
  ·subst h
   rw [hg] at hj
   simp only [Option.some.injEq] at hj
   subst hj
   exact⟨(r.live j o hl).1,ho,(r.live j o hl).2.2⟩
  ·exact r.live j x (by rw [← hs j h]; exact hj)
 ·obtain⟨x',hx⟩:=key i x hi
  obtain⟨y',hy⟩:=key j y hj
  exact r.inj i j x' y' hx hy he
structure U4 (H H2:Hp):Prop where
 ab: ∀j x,H.get j=some x→∃y,H2.get j=some y
 ba: ∀j x,H2.get j=some x→∃y,H.get j=some y
 next:H2.next=H.next
 res:H2.res=H.res
theorem U4.put {H:Hp} {id:Nat} {o o':dW} (hl:H.get id=some o):U4 H (H.put id o'):=by
 refine⟨fun j x hj=>?_,fun j x hj=>?_,rfl,rfl⟩
 ·rw [Hp.get_put]
  split
  ·exact⟨o',rfl⟩
  ·exact⟨x,hj⟩
 ·rw [Hp.get_put] at hj
  split at hj
  ·rename_i h; exact⟨o,by rw [h]; exact hl⟩
  ·exact⟨x,hj⟩
theorem U4.symm {H H2:Hp} (a:U4 H H2):U4 H2 H:=⟨a.ba,a.ab,a.next.symm,a.res.symm⟩
theorem Stp.left {H H2 H':Hp} {E':En} {w':World} (a:U4 H H2) (s:Stp E H w E' H' w'):Stp E H2 w E' H' w':=
 ⟨s.ρ,s.dm,s.θ,s.κ,s.ro,fun b hb=>(s.Ja b hb).imp id (Or.imp (fun⟨i,o,h1,h2⟩=>by obtain⟨y,hy⟩:=a.ab i o h1; exact⟨i,y,hy,h2⟩) id),by rw [a.next]; exact s.nxm,by rw [a.res]; exact s.rsm,
  fun i hi=>by rw [a.next,a.res]; exact s.dmn i hi,s.os,s.tape,s.output,s.size,fun b hb hn=>s.keep b hb fun i o ho=>by obtain⟨y,hy⟩:=a.ab i o ho; exact hn i y hy,
  fun i o ho hlt=>by obtain⟨i0,o0,h1,h2⟩:=s.own i o ho hlt; obtain⟨y,hy⟩:=a.ab i0 o0 h1; exact⟨i0,y,hy,h2⟩⟩
theorem Stp.right {H H' H2:Hp} {E':En} {w':World} (a:U4 H' H2) (s:Stp E H w E' H' w'):Stp E H w E' H2 w':=
 ⟨s.ρ,s.dm,s.θ,s.κ,s.ro,s.Ja,by rw [a.next]; exact s.nxm,by rw [a.res]; exact s.rsm,
  fun i hi=>by rw [a.next]; exact s.dmn i hi,s.os,s.tape,s.output,s.size,s.keep,
  fun i o ho hlt=>by obtain⟨y,hy⟩:=a.ba i o ho; exact s.own i y hy hlt⟩
theorem dO.of {ro:Nat→Prop} {h:Array Obj} {d:D} (f:Nat→Value): ∀(cs:List CK) (j:Nat),(∀i c,cs[i]?=some c→kX ro h c (d.hd (j+i)) (f (j+i)))→dO ro h cs j d ((List.range' j cs.length).map f)
 | [],j,_=>by simp [dO]
 | c :: cs,j,hh=>by
   simp only [List.length_cons,List.range'_succ,List.map_cons,dO]
   refine⟨f j,_,rfl,by simpa using hh 0 c (by simp),dO.of f cs (j+1) fun i c' hi=>?_⟩
   have:=hh (i+1) c' (by simpa using hi)
   rw [show j+1+i=j+(i+1) by omega]
   exact this
theorem Rd.row {ro:Nat→Prop} {h:Array Obj} {t:Nat} {d:D} {v:Value} (r:Rd ro h (.sl t) d v) {i:Nat} {x:D} (hi:d.l[i]?=some x) :
 ∃b o cap us,v= .slice (some ⟨b,o,none⟩) d.l.length cap∧ro b∧DI ro h (rowOf t) x us∧iC h b (o+i*(rowOf t).es) us:=by
 generalize hc:CK.sl t=c at r
 cases r with
 | int k n=>simp at hc
 | bool b=>simp at hc
 | str s=>simp at hc
 | nil t=>simp [D.l] at hi
 | non t a cap=>simp [D.l] at hi
 | one t' c b o cap ds f hr hcp hb h1 h2=>
   simp only [CK.sl.injEq] at hc
   subst hc
   rw [aX] at hi ⊢
   refine⟨b,o,cap,[f i],rfl,hb,?_,?_⟩
   ·rw [hr]
    exact⟨_,rfl,(h2 i x hi).cell⟩
   ·rw [hr]
    intro j u hj
    cases j with
    | zero=>
      simp at hj
      subst hj
      simpa [Row.es] using h1 i x hi
    | succ j=>simp at hj
 | many t' cs b o cap rows f hr hcp hb hl h1 h2=>
   simp only [CK.sl.injEq] at hc
   subst hc
   rw [aX] at hi ⊢
   rw [List.getElem?_map,Option.map_eq_some_iff] at hi
   obtain⟨row,hrow,rfl⟩:=hi
   have hlen:=hl row (List.mem_of_getElem? hrow)
   refine⟨b,o,cap,(List.range' 0 cs.length).map (f i),by simp,hb,?_,?_⟩
   ·rw [hr]
    refine dO.of (f i) cs 0 fun j c hj=>?_
    have hjl:j < row.length:=by rw [hlen]; exact (List.getElem?_eq_some_iff.1 hj).1
    have hd:row[j]?=some row[j]:=List.getElem?_eq_getElem hjl
    rw [Nat.zero_add]
    have:(dL row).hd j=row[j]:=by simp [D.hd,hd]
    rw [this]
    exact (h2 i row j _ c hrow hd hj).cell
   ·rw [hr]
    intro j u hj
    rw [List.getElem?_map,Option.map_eq_some_iff] at hj
    obtain⟨k,hk,rfl⟩:=hj
    have hjl:j < cs.length:=by
     have:=(List.getElem?_eq_some_iff.1 hk).1
     simpa using this
    rw [List.getElem?_range' hjl] at hk
    simp only [Option.some.injEq] at hk
    obtain rfl:k=j:=by omega
    have hd:row[k]?=some row[k]:=List.getElem?_eq_getElem (by omega)
    exact h1 i row k _ hrow hd
theorem IJ (ρ:Nat→Int) (e i:SE) {x:D} {k:Nat} (hi:i.den ρ=(k:Int)) (hx:(dec (e.den ρ)).l[k]?=some x):dec ((SE.op .at e i).den ρ)=x:=by
 simp only [SE.den,aG.den,aC,D.at,hi,Int.toNat_natCast,hx,Option.getD_some]
theorem qX {tt:TT} (htt:eG P tt) {ty z:Nat} (h:zQ tt ty=some z): ∃el ie,P.underlying ty=some (.slice el)∧tt el=some ie∧ie.size=z:=by
 unfold zQ at h
 split at h
 ·rename_i ti hti
  split at h
  ·rename_i el hk
   simp only [jU,Option.map_eq_some_iff] at h
   obtain⟨ie,hie,rfl⟩:=h
   exact⟨el,ie,fK (htt ty ti hti) hk,hie,rfl⟩
  ·simp at h
 ·simp at h
theorem Zb {tt:TT} (htt:eG P tt) {s s':St} (hp:bI E.ρ s.pc) {ty t:Nat} {e:SE} {ix v:AV} {u ui:Value} (hx:VR E w.heap (.dat e t) u) (hix:VR E w.heap ix ui) (h:(Uw tt s ty t e ix).leaf E.ρ=some (v,s')) :
 s'.slots=s.slots∧s'.h=s.h∧bI E.ρ s'.pc∧∃r,(Instr.indexAt ty u ui).run P w= .ok r w∧VR E w.heap v r:=by
 unfold Uw at h
 split at h
 ·rename_i kd i
  split at h
  ·rename_i z hz
   split at h
   ·rename_i hes
    obtain⟨pc',hp',h1,h2,h3⟩:=rF hp h
    have:=aF h3
    simp only [Prod.mk.injEq] at this
    obtain⟨rfl,rfl⟩:=this
    refine⟨rfl,rfl,hp',?_⟩
    rw [dD] at h2
    simp only [VR] at hx hix
    subst hix
    obtain⟨el,ie,hu,hie,rfl⟩:=qX htt hz
    obtain⟨k,hk⟩ : ∃k:Nat,i.den E.ρ=(k:Int):=⟨(i.den E.ρ).toNat,by omega⟩
    have hlt:k < (dec (e.den E.ρ)).l.length:=by omega
    have hd:(dec (e.den E.ρ)).l[k]?=some (dec (e.den E.ρ)).l[k]:=List.getElem?_eq_getElem hlt
    obtain⟨b,o,cap,us,rfl,g1,g2,g3⟩:=hx.row hd
    refine⟨.pointer (some ⟨b,o+k*ie.size,none⟩),?_,?_⟩
    ·rw [hk]
     simp [Instr.indexAt,asIntOf,run_underlying hu,dX (htt el ie hie),hlt,fH]
    ·simp only [VR]
     exact⟨b,_,us,rfl,g1,by rw [gV,IJ E.ρ e i hk hd]; exact g2,by rw [hes]; exact g3,g2.ones⟩
   ·simp [T.leaf] at h
  ·simp [T.leaf] at h
 ·simp [T.leaf] at h
theorem YT {tt:TT} (htt:eG P tt) {s s':St} (hp:bI E.ρ s.pc) {ty t id:Nat} {n:SE} {ix v:AV} {u ui:Value} (hx:VR E w.heap (.uK id n t) u) (hix:VR E w.heap ix ui) (h:(Uf tt s ty id t n ix).leaf E.ρ=some (v,s')) :
 s'.slots=s.slots∧s'.h=s.h∧bI E.ρ s'.pc∧∃r,(Instr.indexAt ty u ui).run P w= .ok r w∧VR E w.heap v r:=by
 unfold Uf at h
 split at h
 ·rename_i kd i
  split at h
  ·rename_i z hz
   split at h
   ·rename_i hes
    obtain⟨pc',hp',h1,h2,h3⟩:=rF hp h
    have:=aF h3
    simp only [Prod.mk.injEq] at this
    obtain⟨rfl,rfl⟩:=this
    refine⟨rfl,rfl,hp',?_⟩
    simp only [VR] at hx hix
    subst hix
    obtain⟨hid,m,a,cap,hn,rfl,hcap,hc⟩:=hx
    obtain⟨el,ie,hu,hie,rfl⟩:=qX htt hz
    obtain⟨k,hk⟩ : ∃k:Nat,i.den E.ρ=(k:Int):=⟨(i.den E.ρ).toNat,by omega⟩
    have hlt:k < m:=by omega
    have ha:a=⟨(E.θ id).1,(E.θ id).2,none⟩:=by
     simp only [fJ] at hc
     rcases hc with hc | hc
     ·simpa using hc.1
     ·omega
    subst ha
    refine⟨.pointer (some ⟨(E.θ id).1,(E.θ id).2+k*ie.size,none⟩),?_,?_⟩
    ·rw [hk]
     simp [Instr.indexAt,asIntOf,run_underlying hu,dX (htt el ie hie),hlt,fH]
    ·simp only [VR]
     exact⟨hid,k,hk,by rw [Nat.add_zero]⟩
   ·simp [T.leaf] at h
  ·simp [T.leaf] at h
 ·simp [T.leaf] at h
theorem rV {ρ:Nat→Int} {pc:List (SB×Bool)} (hp:bI ρ pc) {dflt cs:List AV} {i:SE} {k:Nat} (hi:i.den ρ=(k:Int)): ∀{ov:List (SE×List AV)},rW pc dflt i ov=some cs→
 dQ ρ k ov=some cs∨(dQ ρ k ov=none∧cs=dflt)
 | [],h=>by simp only [rW,Option.some.injEq] at h; exact .inr ⟨rfl,h.symm⟩
 | (j,c) :: l,h=>by
   simp only [rW] at h
   simp only [dQ]
   split at h
   ·rename_i he
    have he:=bW _ _ he
    subst he
    rw [if_pos hi]
    simp only [Option.some.injEq] at h
    subst h
    exact .inl rfl
   ·split at h
    ·rename_i b hd
     have hd:=iW hp hd
     rw [lN] at hd
     split at h
     ·rw [beq_iff_eq,hi] at hd
      rw [if_pos hd.symm]
      exact .inl h
     ·rw [beq_eq_false_iff_ne,hi] at hd
      rw [if_neg (fun q=>hd q.symm)]
      exact rV hp hi h
    ·simp at h
theorem Cc {α:Type} {ρ:Nat→Int} {i:SE} {r:α}: ∀{ov:List (SE×List AV)} {s:St} {k:St→T α},bI ρ s.pc→(Az i ov s k).leaf ρ=some r→∃pc',bI ρ pc'∧(k { s with pc:=pc' }).leaf ρ=some r
 | [],s,k,hp,h=> ⟨s.pc,hp,h⟩
 | (j,c) :: l,s,k,hp,h=>by
   simp only [Az] at h
   split at h
   ·exact⟨s.pc,hp,h⟩
   ·obtain⟨pc1,hp1,h1⟩:=cO hp h
    split at h1
    ·exact⟨pc1,hp1,h1⟩
    ·exact Cc (s:={ s with pc:=pc1 }) hp1 h1
theorem lC {ρ:Nat→Int} {r:Row} {ov:List (SE×List AV)} (ho:FB r ov): ∀{ds:List D} {j k:Nat} {x:D},ds[k]?=some x→
 aK ρ r ov ds j=aK ρ r ov (ds.take k) j++((match dQ ρ (j+k) ov with | some cs=>cs | none=>jB r (.dat x))++aK ρ r ov (ds.drop (k+1)) (j+k+1))∧(aK ρ r ov (ds.take k) j).length=k*r.es
 | [],j,k,x,h=>by simp at h
 | d :: ds,j,0,x,h=>by
   simp only [List.getElem?_cons_zero,Option.some.injEq] at h
   subst h
   refine⟨?_,by simp [aK]⟩
   simp only [List.take_zero,aK,List.nil_append,Nat.add_zero,List.drop_succ_cons,List.drop_zero]
   rfl
 | d :: ds,j,k+1,x,h=>by
   have h':ds[k]?=some x:=by simpa using h
   have hk:k < ds.length:=(List.getElem?_eq_some_iff.1 h').1
   obtain⟨h1,h2⟩:=lC (ρ:=ρ) ho (j:=j+1) h'
   refine⟨?_,?_⟩
   ·simp only [List.take_succ_cons,aK,List.append_assoc,List.drop_succ_cons]
    rw [h1,show j+1+k=j+(k+1) by omega]
   ·rw [bU ho,List.length_take,List.length_cons]
    congr 1
    omega
theorem zS {α:Type}: ∀(a b:List α),fE a.length (a++b)=some b
 | [],_=>rfl
 | x :: a,b=>by simp [fE,zS a b]
theorem NT {α:Type}: ∀{n:Nat} {a b l:List α},fE n a=some l→fE n (a++b)=some (l++b)
 | 0,a,b,l,h=>by simp only [fE,Option.some.injEq] at h ⊢; rw [h]
 | n+1,[],b,l,h=>by simp [fE] at h
 | n+1,x :: a,b,l,h=>by simp only [fE,List.cons_append] at h ⊢; exact NT h
theorem KL {α:Type}: ∀{n:Nat} {a b l:List α},jT n a=some l→jT n (a++b)=some l
 | 0,a,b,l,h=>by simp only [jT] at h ⊢; exact h
 | n+1,[],b,l,h=>by simp [jT] at h
 | n+1,x :: a,b,l,h=>by
   simp only [jT,List.cons_append] at h ⊢
   split at h
   ·rename_i l' hl
    rw [KL hl]
    exact h
   ·simp at h
theorem Rq {α:Type}: ∀{a b:Nat} {l m:List α},fE a l=some m→fE (a+b) l=fE b m
 | 0,b,l,m,h=>by simp only [fE,Option.some.injEq] at h; subst h; rw [Nat.zero_add]
 | a+1,b,[],m,h=>by simp [fE] at h
 | a+1,b,x :: l,m,h=>by
   rw [show a+1+b=(a+b)+1 by omega]
   simp only [fE] at h ⊢
   exact Rq h
noncomputable def dN (ρ:Nat→Int) (e:SE) (t:Nat) (ov:List (SE×List AV)):List AV:=aK ρ (rowOf t) ov (dec (e.den ρ)).l 0
theorem OR.yB {h:Array Obj} {id:Nat} {e:SE} {t:Nat} {ty:TypeId} {ov:List (SE×List AV)}:OR E h id (.vec e t ty ov)↔(FB (rowOf t) ov∧Jz (rowOf t) (dec (e.den E.ρ)))∧OR E h id (.cells (dN E.ρ e t ov) ty):=by
 simp only [OR,dN]
theorem bG.yB [Glob] {H:Hp} (r:bG E H w) {id:Nat} {e:SE} {t:Nat} {ty:TypeId} {ov:List (SE×List AV)} (hl:H.get id=some (.vec e t ty ov)):bG E (H.put id (.cells (dN E.ρ e t ov) ty)) w∧FB (rowOf t) ov∧Jz (rowOf t) (dec (e.den E.ρ)):=by
 obtain⟨h1,h2⟩:=OR.yB.1 (r.live id _ hl).2.1
 exact⟨r.swap hl h2 (by rw [Hp.get_put,if_pos rfl]) (fun j hj=>by rw [Hp.get_put,if_neg hj]) rfl rfl,h1⟩
theorem Eh {h:Array Obj} {r:Row} {x y:SE} (hd:dec (x.den E.ρ)=dec (y.den E.ρ)) {us:List Value}:bJ E h (jB r x) us↔bJ E h (jB r y) us:=by
 rw [gV,gV,hd]
theorem apR [Glob] {H:Hp} (r:bG E H w) {id:Nat} {e i:SE} {t:Nat} {ty:TypeId} {ov:List (SE×List AV)} (hl:H.get id=some (.vec e t ty ov)) {k:Nat} (hi:i.den E.ρ=(k:Int)) (hk:(k:Int) < (eP e).den E.ρ)
 {pc:List (SB×Bool)} (hp:bI E.ρ pc) {cs:List AV} (hc:rW pc (jB (rowOf t) (.op .at e i)) i ov=some cs) :
 ∃pre row post,dN E.ρ e t ov=pre++(row++post)∧pre.length=k*(rowOf t).es∧row.length=(rowOf t).es∧(∀h us,bJ E h row us↔bJ E h cs us)∧cs.length=(rowOf t).es:=by
 obtain⟨_,ho,hwf⟩:=r.yB hl
 rw [dD] at hk
 have hlt:k < (dec (e.den E.ρ)).l.length:=by omega
 have hd:(dec (e.den E.ρ)).l[k]?=some (dec (e.den E.ρ)).l[k]:=List.getElem?_eq_getElem hlt
 obtain⟨h1,h2⟩:=lC (ρ:=E.ρ) ho (j:=0) hd
 refine⟨_,_,_,h1,h2,?_⟩
 rw [Nat.zero_add]
 rcases rV hp hi hc with h3 | ⟨h3,rfl⟩
 ·rw [h3]
  obtain⟨p,p1,p2,_⟩:=nK h3
  have:=ho p p1
  rw [p2] at this
  exact⟨this,fun h us=>Iff.rfl,this⟩
 ·rw [h3]
  refine⟨jH _ _,fun h us=>Eh ?_,jH _ _⟩
  rw [IJ E.ρ e i hi hd]
  simp only [SE.den,aC]
theorem aeL {i:TI} {l m:List AV} {v:AV} (h:partOf i l=some v):partOf i (l++m)=some v:=by
 unfold partOf at h ⊢
 split at h
 ·rename_i ha
  rw [Option.map_eq_some_iff] at h
  obtain⟨l',h1,rfl⟩:=h
  rw [KL h1]
  rfl
 ·split at h
  ·simp only [Option.some.injEq] at h
   subst h
   rfl
  ·simp at h
theorem QH [Glob] {tt:TT} (htt:eG P tt) {H:Hp} (r:bG E H w) {id:Nat} {cs:List AV} {e:TypeId} (hl:H.get id=some (.cells cs e)) {ty:Nat} {ti:TI} (hti:tt ty=some ti) {off:Nat} {l:List AV} (hd:fE off cs=some l) {v:AV} (hv:partOf ti l=some v) :
 ∃x,(loadVar ty ⟨(E.θ id).1,(E.θ id).2+off,none⟩).run P w= .ok x w∧VR E w.heap v x:=by
 have hld:Iz tt ty (.ptr id off) H=some v:=by
  unfold Iz partOf at *
  rw [hti]
  simp only [qH,hl,hd]
  split at hv
  ·exact hv
  ·split at hv
   ·simp only [Option.some.injEq] at hv
    subst hv
    rfl
   ·simp at hv
 have hid:=(r.live id _ hl).1
 obtain⟨x,b,o,h1,h2,h3⟩:=Iy htt r (p:=.ptr id off) (u:=.pointer (some ⟨(E.θ id).1,(E.θ id).2+off,none⟩)) (by simp only [VR]; exact⟨trivial,hid⟩) hld
 simp only [Value.pointer.injEq,Option.some.injEq,Addr.mk.injEq] at h1
 obtain⟨rfl,rfl,_⟩:=h1
 exact⟨x,h2,h3⟩
theorem MF {k:IntKind}: ∀{cs:List AV} {ds:List D},MG k cs=some ds→ds.length=cs.length∧∀(i:Nat),i < cs.length→∃n,ds[i]?=some (.i n)∧cs[i]?=some (.int k (.lit n))
 | [],ds,h=>by
   simp only [MG,Option.some.injEq] at h
   subst h
   exact⟨rfl,fun i hi=>by simp at hi⟩
 | v :: vs,ds,h=>by
   simp only [MG] at h
   split at h
   ·split at h
    ·rename_i k' n
     split at h
     ·rename_i hk
      subst hk
      split at h
      ·rename_i ds' hds
       simp only [Option.some.injEq] at h
       subst h
       obtain⟨h1,h2⟩:=MF hds
       refine⟨by simp [h1],fun i hi=>?_⟩
       cases i with
       | zero=>exact⟨n,rfl,rfl⟩
       | succ i=>exact h2 i (by simpa using hi)
      ·simp at h
     ·simp at h
    ·simp at h
   ·simp at h
theorem IC {α:Type}: ∀{i:Nat} {cs:List α} {a:α},cs[i]?=some a→∃l,fE i cs=some (a :: l)
 | 0,[],a,h=>by simp at h
 | 0,c :: cs,a,h=>by simp only [List.getElem?_cons_zero,Option.some.injEq] at h; subst h; exact⟨cs,rfl⟩
 | i+1,[],a,h=>by simp at h
 | i+1,c :: cs,a,h=>IC (cs:=cs) (by simpa using h)
theorem Wy {ρ:Nat→Int} {s s':St} {cs:List AV} {e:SE} {v:AV} (hp:bI ρ s.pc) (h:(Rh s cs e).leaf ρ=some (v,s')) :
 s'.slots=s.slots∧s'.h=s.h∧bI ρ s'.pc∧∃(i:Nat) (k:IntKind) (n:Int) (x:SE),e.den ρ=(i:Int)∧i < cs.length∧cs[i]?=some (.int k (.lit n))∧v= .int k x∧x.den ρ=n:=by
 unfold Rh at h
 split at h
 ·simp [T.leaf] at h
 ·rename_i k hk
  split at h
  ·simp [T.leaf] at h
  ·rename_i ds hds
   obtain⟨h1,h2⟩:=MF hds
   obtain⟨pc',hp',g1,g2,g3⟩:=rF hp h
   simp only [T.leaf,Option.some.injEq,Prod.mk.injEq] at g3
   obtain⟨rfl,rfl⟩:=g3
   have g2':e.den ρ < (ds.length:Int):=by simpa [SE.den] using g2
   have hi:e.den ρ=((e.den ρ).toNat:Int):=by omega
   have hlt:(e.den ρ).toNat < cs.length:=by omega
   obtain⟨n,d1,d2⟩:=h2 _ hlt
   refine⟨rfl,rfl,hp',_,k,n,_,hi,hlt,d2,rfl,?_⟩
   simp only [Hu,SE.den,aG.den,aC,D.at,aX,d1,Option.getD_some,D.n]
theorem Y5 [Glob] {tt:TT} (htt:eG P tt) {s s':St} (r:bG E s.h w) (hp:bI E.ρ s.pc) {ty id es:Nat} {i:SE} {off:Nat} {v:AV} {u:Value} (hx:VR E w.heap (.pY id es i off) u) (h:(Gi tt s ty id es i off).leaf E.ρ=some (v,s')) :
 s'.slots=s.slots∧s'.h=s.h∧bI E.ρ s'.pc∧∃x b o,u= .pointer (some ⟨b,o,none⟩)∧(loadVar ty ⟨b,o,none⟩).run P w= .ok x w∧VR E w.heap v x:=by
 unfold Gi at h
 split at h
 ·rename_i o hl
  split at h
  ·rename_i cs ety
   split at h
   ·rename_i ti hti
    split at h
    ·simp [T.leaf] at h
    ·rename_i hb
     simp only [Bool.or_eq_false_iff,Bool.not_eq_false'] at hb
     have hes:=Nat.eq_of_beq_eq_true hb.1.2
     have hof:=Nat.eq_of_beq_eq_true hb.2
     subst hes hof
     obtain⟨h1,h2,h3,k,kd,n,x,g1,g2,g3,rfl,g5⟩:=Wy hp h
     refine⟨h1,h2,h3,?_⟩
     simp only [VR] at hx
     obtain⟨hid,k',hk,rfl⟩:=hx
     have hkk:k'=k:=by omega
     subst hkk
     obtain⟨l,hd⟩:=IC g3
     obtain⟨y,q1,q2⟩:=QH (P:=P) htt r hl hti hd (v:=.int kd (.lit n)) (by unfold partOf; rw [hb.1.1])
     refine⟨y,_,_,rfl,by rw [Nat.mul_one,Nat.add_zero]; exact q1,?_⟩
     simp only [VR,SE.den] at q2 ⊢
     rw [q2,g5]
   ·simp [T.leaf] at h
  ·rename_i e t Ho ov
   split at h
   ·rename_i ti hti
    split at h
    ·rename_i hes
     obtain⟨pc0,hp0,h1,h2,h3⟩:=rF hp h
     obtain⟨pc',hp',h3⟩:=Cc (s:={ s with pc:=pc0 }) hp0 h3
     split at h3
     ·rename_i cs hc
      split at h3
      ·rename_i l hdr
       obtain⟨e1,rfl⟩:=kN h3
       refine⟨rfl,rfl,hp',?_⟩
       simp only [VR] at hx
       obtain⟨hid,k,hk,rfl⟩:=hx
       obtain⟨pre,row,post,c1,c2,c3,c4,c5⟩:=apR r hl hk (by rw [← hk]; exact h2) hp' hc
       obtain⟨rc,ho,hwf⟩:=r.yB hl
       have hrow:OR E w.heap id (.cells (pre++(cs++post)) Ho):=by
        have:=(rc.live id _ (by rw [Hp.get_put,if_pos rfl])).2.1
        rw [c1] at this
        simp only [OR] at this ⊢
        obtain⟨arr,lo,hi,us,q1,q2,q3,q4,q5,q6,q7⟩:=this
        refine⟨arr,lo,hi,us,q1,?_,q3,by simp only [List.length_append,c3,c5] at q4 ⊢; exact q4,q5,q6,q7⟩
        obtain⟨a,b,rfl,a1,a2⟩:=q2.split
        obtain⟨a',b',rfl,b1,b2⟩:=a2.split
        exact a1.append (((c4 _ _).1 b1).append b2)
       have r2:=r.swap (H2:=s.h.put id (.cells (pre++(cs++post)) Ho)) hl hrow (by rw [Hp.get_put,if_pos rfl]) (fun j hj=>by rw [Hp.get_put,if_neg hj]) rfl rfl
       have aE6:fE (k*es+off) (pre++(cs++post))=some (l++post):=by
        rw [Rq (m:=cs++post) (by rw [← hes,← c2]; exact zS pre _)]
        exact NT hdr
       obtain⟨x,g1,g2⟩:=QH htt r2 (by rw [Hp.get_put,if_pos rfl]) hti aE6 (aeL e1)
       exact⟨x,_,_,rfl,g1,g2⟩
      ·simp [T.leaf] at h3
     ·simp [T.leaf] at h3
    ·simp [T.leaf] at h
   ·simp [T.leaf] at h
  ·simp [T.leaf] at h
 ·simp [T.leaf] at h
end
end Go.As
end
section
namespace Go.As
theorem kX.rd {ro:Nat→Prop} {h:Array Obj} {c:CK} {d:D} {u:Value} (r:kX ro h c d u) (wf:vI c d):Rd ro h c d u:=by
 cases c with
 | int k=>
   simp only [kX,vI] at r wf
   rw [wf,r]
   exact .int k d.n
 | bool=>
   simp only [kX,vI] at r wf
   subst r
   rcases wf with rfl | rfl
   ·exact .bool false
   ·exact .bool true
 | str=>exact r
 | sl t=>exact r
theorem dO.get {ro:Nat→Prop} {h:Array Obj} {d:D}: ∀{cs:List CK} {j:Nat} {us:List Value},dO ro h cs j d us→∀{k:Nat} {c:CK},cs[k]?=some c→∃u,us[k]?=some u∧kX ro h c (d.hd (j+k)) u
 | [],_,_,_,k,c,hk=>by simp at hk
 | c0 :: cs,j,us,hh,k,c,hk=>by
   simp only [dO] at hh
   obtain⟨u,vs,rfl,h1,h2⟩:=hh
   cases k with
   | zero=>
     simp at hk
     subst hk
     exact⟨u,rfl,h1⟩
   | succ k=>
     obtain⟨x,h3,h4⟩:=h2.get (by simpa using hk)
     exact⟨x,by simpa using h3,by rw [show j+(k+1)=j+1+k by omega]; exact h4⟩
theorem dO.length {ro:Nat→Prop} {h:Array Obj} {d:D}: ∀{cs:List CK} {j:Nat} {us:List Value},dO ro h cs j d us→us.length=cs.length
 | [],_,us,hh=>by simp only [dO] at hh; subst hh; rfl
 | c :: cs,j,us,hh=>by
   simp only [dO] at hh
   obtain⟨u,vs,rfl,_,h2⟩:=hh
   simp [h2.length]
theorem dO.shift {ro:Nat→Prop} {h:Array Obj} {a b:D}: ∀{cs:List CK} {j:Nat} {us:List Value},dO ro h cs (j+1) (.p a b) us↔dO ro h cs j b us
 | [],_,us=>by simp only [dO]
 | c :: cs,j,us=>by
   simp only [dO,FZ]
   constructor
   ·rintro⟨u,vs,rfl,h1,h2⟩
    exact⟨u,vs,rfl,h1,dO.shift.1 h2⟩
   ·rintro⟨u,vs,rfl,h1,h2⟩
    exact⟨u,vs,rfl,h1,dO.shift.2 h2⟩
section
variable {P:Program} {E:En} {w:World}
theorem uH {ρ:Nat→Int} {c:CK} {v:AV} {a:SE} (h:qY c v=some a):vI c (dec (a.den ρ)):=by
 unfold qY at h
 split at h
 ·split at h
  ·split at h
   ·simp only [Option.some.injEq] at h
    subst h
    simp only [vI,oK,aC,D.n]
   ·simp at h
  ·simp at h
 ·split at h
  ·split at h
   ·rename_i b
    simp only [Option.some.injEq] at h
    subst h
    simp only [vI,SE.den,aC]
    cases b <;> simp
   ·split at h
    ·split at h
     ·split at h
      ·simp only [Option.some.injEq] at h
       subst h
       simp only [vI,SE.den,aG.den,aC]
       split <;> simp
      ·simp at h
     ·simp at h
    ·simp at h
   ·simp at h
  ·simp at h
 ·trivial
 ·trivial
theorem pR {h:Array Obj} {c:CK} {v:AV} {u:Value} {a:SE} (hv:VR E h v u) (hc:qY c v=some a):kX E.ro h c (dec (a.den E.ρ)) u:=by
 unfold qY at hc
 split at hc
 ·split at hc
  ·split at hc
   ·rename_i hk
    subst hk
    simp only [Option.some.injEq] at hc
    subst hc
    simp only [VR] at hv
    simp only [kX,oK,aC,D.n]
    exact hv
   ·simp at hc
  ·simp at hc
 ·split at hc
  ·split at hc
   ·rename_i b
    simp only [Option.some.injEq] at hc
    subst hc
    simp only [VR,SB.den] at hv
    subst hv
    simp only [kX,SE.den,aC]
    cases b <;> rfl
   ·split at hc
    ·split at hc
     ·split at hc
      ·rename_i x n hn
       subst hn
       simp only [Option.some.injEq] at hc
       subst hc
       simp only [VR,SB.den,SE.den] at hv
       subst hv
       simp only [kX,SE.den,aG.den,oK,aC,D.n]
       congr 2
       split
       ·rename_i hz; rw [hz]
       ·rename_i hz; simpa using hz
      ·simp at hc
     ·simp at hc
    ·simp at hc
   ·simp at hc
  ·simp at hc
 ·obtain⟨s,rfl,hs⟩:=E8 hv hc
  simp only [kX,hs]
  exact .str s
 ·split at hc
  ·split at hc
   ·rename_i ht
    subst ht
    simp only [Option.some.injEq] at hc
    subst hc
    exact hv
   ·simp at hc
  ·simp only [Option.some.injEq] at hc
   subst hc
   simp only [VR] at hv
   subst hv
   simp only [kX,SE.den,aC]
   exact .nil _
  ·split at hc
   ·rename_i ht
    subst ht
    simp only [Option.some.injEq] at hc
    subst hc
    simp only [VR] at hv
    exact hv.2
   ·simp at hc
  ·split at hc
   ·simp only [Option.some.injEq] at hc
    subst hc
    simp only [VR] at hv
    obtain⟨_,a,cap,rfl,_⟩:=hv
    simp only [kX,SE.den,aC]
    exact .non _ _ _
   ·simp at hc
  ·simp at hc
theorem Gx {ρ:Nat→Int}: ∀{cs:List CK} {vs:List AV} {x:SE},codeCells cs vs=some x→U1 cs (dec (x.den ρ))
 | [],[],x,h=>by
   simp only [codeCells,Option.some.injEq] at h
   subst h
   refine⟨?_,?_,?_⟩
   ·simp only [SE.den,aC]; rfl
   ·simp only [SE.den,aC]; rfl
   ·intro j c y hj; simp at hj
 | [],_ :: _,x,h=>by simp [codeCells] at h
 | _ :: _,[],x,h=>by simp [codeCells] at h
 | c :: cs,v :: vs,x,h=>by
   simp only [codeCells] at h
   split at h
   ·simp at h
   ·rename_i a ha
    split at h
    ·simp at h
    ·rename_i b hb
     simp only [Option.some.injEq] at h
     subst h
     obtain⟨h1,h2,h3⟩:=Gx (ρ:=ρ) hb
     refine⟨?_,?_,?_⟩
     ·simp only [gQ,SE.den,aG.den,aC,D.l,dL]
      rw [← h1]
     ·simp only [gQ,SE.den,aG.den,aC,D.l,List.length_cons,h2]
     ·intro j c' y hj hy
      simp only [gQ,SE.den,aG.den,aC,D.l] at hy
      cases j with
      | zero=>
        simp only [List.getElem?_cons_zero,Option.some.injEq] at hj hy
        subst hj hy
        exact uH ha
      | succ j=>exact h3 j c' y (by simpa using hj) (by simpa using hy)
theorem Gy {h:Array Obj}: ∀{cs:List CK} {vs:List AV} {us:List Value} {x:SE},bJ E h vs us→codeCells cs vs=some x→dO E.ro h cs 0 (dec (x.den E.ρ)) us
 | [],[],us,x,hv,hc=>by simp only [bJ] at hv; subst hv; simp [dO]
 | [],_ :: _,_,x,_,hc=>by simp [codeCells] at hc
 | _ :: _,[],_,x,_,hc=>by simp [codeCells] at hc
 | c :: cs,v :: vs,us,x,hv,hc=>by
   simp only [codeCells] at hc
   rw [aW] at hv
   obtain⟨u,us',rfl,h1,h2⟩:=hv
   split at hc
   ·simp at hc
   ·rename_i a ha
    split at hc
    ·simp at hc
    ·rename_i b hb
     simp only [Option.some.injEq] at hc
     subst hc
     simp only [dO,gQ,SE.den,aG.den,aC]
     refine⟨u,us',rfl,by rw [FY]; exact pR h1 ha,?_⟩
     rw [dO.shift]
     exact Gy h2 hb
theorem Ac {ρ:Nat→Int} {r:Row} {cs:List AV} {x:SE} (h:codeRow r cs=some x):wF r (dec (x.den ρ)):=by
 unfold codeRow at h
 split at h
 ·split at h
  ·exact uH h
  ·simp at h
 ·exact Gx h
theorem Ad {h:Array Obj} {r:Row} {cs:List AV} {us:List Value} {x:SE} (hv:bJ E h cs us) (hc:codeRow r cs=some x):DI E.ro h r (dec (x.den E.ρ)) us:=by
 unfold codeRow at hc
 split at hc
 ·split at hc
  ·rw [aW] at hv
   obtain⟨u,us',rfl,h1,h2⟩:=hv
   rw [kG] at h2
   subst h2
   exact⟨u,rfl,pR h1 hc⟩
  ·simp at hc
 ·exact Gy hv hc
theorem BM {ρ:Nat→Int} {r:Row}: ∀(m:Nat) {e e1:SE} {news:List AV},sH r e m news=some e1→
 ∃ds:List D,ds.length=m∧(dec (e1.den ρ)).l=(dec (e.den ρ)).l++ds∧(dec (e.den ρ)=dL (dec (e.den ρ)).l→dec (e1.den ρ)=dL (dec (e1.den ρ)).l)∧(∀d∈ds,wF r d)∧
  ∀(E':En) (h:Array Obj) (us:List Value) (j:Nat),E'.ρ=ρ→bJ E' h news us→bJ E' h (aK ρ r [] ds j) us
 | 0,e,e1,[],h=>by
   simp only [sH,Option.some.injEq] at h
   subst h
   exact⟨[],rfl,by simp,id,by simp,fun E' h us j _ hv=>by simpa [aK] using hv⟩
 | 0,e,e1,_ :: _,h=>by simp [sH] at h
 | m+1,e,e1,news,h=>by
   simp only [sH] at h
   split at h
   ·simp at h
   ·rename_i x hx
    obtain⟨ds,h1,h2,h3,h4,h5⟩:=BM (ρ:=ρ) m h
    have hs:dec ((SE.op .snoc e x).den ρ)=dL ((dec (e.den ρ)).l++ [dec (x.den ρ)]):=by simp only [SE.den,aG.den,aC]
    refine⟨dec (x.den ρ) :: ds,by simp [h1],?_,fun _=>h3 (by rw [hs,aX]),?_,?_⟩
    ·rw [h2,hs,aX]; simp
    ·intro d hd
     rcases List.mem_cons.1 hd with rfl | hd
     ·exact Ac hx
     ·exact h4 d hd
    ·intro E' h us j hρ hv
     rw [← List.take_append_drop r.es news] at hv
     obtain⟨a,b,rfl,a1,a2⟩:=hv.split
     simp only [aK,dQ]
     refine bJ.append ?_ (h5 E' h b (j+1) hρ a2)
     rw [gV]
     simp only [SE.den,aC]
     have:=Ad a1 hx
     rw [hρ] at this
     exact this
theorem ZU {h:Array Obj} {id:Nat} {e:SE} {t:Nat} {ty:TypeId} {ro:Nat→Prop} (hro: ∀b,E.ro b→ro b) (hb:ro (E.θ id).1) (ho:OR E h id (.vec e t ty [])) {k cap:Nat} {a:Addr} (hk:k=(dec (e.den E.ρ)).l.length) (hcap:k≤cap)
 (hc:0 < k→a=⟨(E.θ id).1,(E.θ id).2,none⟩):Rd ro h (.sl t) (dec (e.den E.ρ)) (.slice (some a) k cap):=by
 obtain⟨⟨hov,hwf⟩,hcl⟩:=OR.yB.1 ho
 obtain⟨us,h1,h2,h3⟩:=DY hcl
 obtain⟨w1,w2,w3⟩:=hwf
 rcases Nat.eq_zero_or_pos k with h0 | hpos
 ·subst h0
  exact absurd (List.eq_nil_of_length_eq_zero hk.symm) w3
 ·have ha:a=⟨(E.θ id).1,(E.θ id).2,none⟩:=hc hpos
  subst ha
  subst hk
  have hrow: ∀(i:Nat) (x:D),(dec (e.den E.ρ)).l[i]?=some x→∃rs,DI ro h (rowOf t) x rs∧∀j u,rs[j]?=some u→us[i*(rowOf t).es+j]?=some u:=by
   intro i x hx
   obtain⟨c1,c2⟩:=lC (ρ:=E.ρ) hov (j:=0) hx
   unfold dN at h1
   rw [c1] at h1
   obtain⟨p,q,rfl,p1,p2⟩:=h1.split
   obtain⟨q1,q2,rfl,r1,r2⟩:=p2.split
   have hp:=p1.length
   rw [c2] at hp
   refine⟨q1,?_,?_⟩
   ·have r1':bJ E h (jB (rowOf t) (.dat x)) q1:=r1
    rw [gV] at r1'
    simp only [SE.den,aC] at r1'
    have mono: ∀c d u,kX E.ro h c d u→kX ro h c d u:=by
     intro c d u hh
     cases c with
     | int k=>exact hh
     | bool=>exact hh
     | str=>exact Rd.keep hro (fun _ _=>rfl) hh
     | sl t=>exact Rd.keep hro (fun _ _=>rfl) hh
    have aC0: ∀(cs:List CK) (j:Nat) (d:D) (us:List Value),dO E.ro h cs j d us→dO ro h cs j d us:=by
     intro cs
     induction cs with
     | nil=>intro j d us hh; exact hh
     | cons c cs ih=>
       intro j d us hh
       obtain⟨u,vs,rfl,g1,g2⟩:=hh
       exact⟨u,vs,rfl,mono _ _ _ g1,ih _ _ _ g2⟩
    cases hr:rowOf t with
    | one c=>
      rw [hr] at r1'
      obtain⟨u,rfl,g1⟩:=r1'
      exact⟨u,rfl,mono _ _ _ g1⟩
    | many cs=>
      rw [hr] at r1'
      exact aC0 _ _ _ _ r1'
   ·intro j u hj
    rw [List.getElem?_append_right (by omega),hp]
    rw [show i*(rowOf t).es+j - i*(rowOf t).es=j by omega]
    have:=(List.getElem?_eq_some_iff.1 hj).1
    rw [List.getElem?_append_left this]
    exact hj
  rw [w1]
  simp only [aX] at hrow ⊢
  generalize hL:(dec (e.den E.ρ)).l=L at *
  cases hr:rowOf t with
  | one c=>
    refine .one t c _ _ cap L (fun i=>(us[i]?).getD undef) hr hcap hb ?_ ?_
    ·intro i d hd
     obtain⟨rs,g1,g2⟩:=hrow i d hd
     rw [hr] at g1
     obtain⟨u,rfl,g3⟩:=g1
     have:=g2 0 u rfl
     rw [hr] at this
     simp only [Row.es,Nat.mul_one,Nat.add_zero] at this
     rw [this]
     exact h2 i u this
    ·intro i d hd
     obtain⟨rs,g1,g2⟩:=hrow i d hd
     rw [hr] at g1
     obtain⟨u,rfl,g3⟩:=g1
     have:=g2 0 u rfl
     rw [hr] at this
     simp only [Row.es,Nat.mul_one,Nat.add_zero] at this
     rw [this]
     have hw:=w2 d (List.mem_of_getElem? hd)
     rw [hr] at hw
     exact g3.rd hw
  | many cs=>
    have hwr: ∀d∈L,U1 cs d:=by
     intro d hd
     have:=w2 d hd
     rw [hr] at this
     exact this
    have hLm:L=(L.map D.l).map dL:=by
     rw [List.map_map]
     have:L.map (dL ∘ D.l)=L.map (fun d=>d):=List.map_congr_left fun d hd=>(hwr d hd).1.symm
     rw [this,List.map_id']
    have hlen:(L.map D.l).length=L.length:=by simp
    have hcap':(L.map D.l).length≤cap:=by rw [hlen]; exact hcap
    have goal:Rd ro h (.sl t) (dL ((L.map D.l).map dL)) (.slice (some ⟨(E.θ id).1,(E.θ id).2,none⟩) (L.map D.l).length cap):=by
     refine .many t cs _ _ cap (L.map D.l) (fun i j=>(us[i*cs.length+j]?).getD undef) hr hcap' hb ?_ ?_ ?_
     ·intro r hrm
      rw [List.mem_map] at hrm
      obtain⟨d,hd,rfl⟩:=hrm
      exact (hwr d hd).2.1
     ·intro i r j d hi hj
      rw [List.getElem?_map,Option.map_eq_some_iff] at hi
      obtain⟨x,hx,rfl⟩:=hi
      obtain⟨rs,g1,g2⟩:=hrow i x hx
      rw [hr] at g1
      have hjl:j < cs.length:=by rw [← (hwr x (List.mem_of_getElem? hx)).2.1]; exact (List.getElem?_eq_some_iff.1 hj).1
      obtain⟨u,g3,g4⟩:=dO.get g1 (List.getElem?_eq_getElem hjl)
      have:=g2 j u g3
      rw [hr] at this
      simp only [Row.es] at this
      rw [this,Nat.add_assoc]
      exact h2 _ u this
     ·intro i r j d c hi hj hcj
      rw [List.getElem?_map,Option.map_eq_some_iff] at hi
      obtain⟨x,hx,rfl⟩:=hi
      obtain⟨rs,g1,g2⟩:=hrow i x hx
      rw [hr] at g1
      obtain⟨u,g3,g4⟩:=dO.get g1 hcj
      have:=g2 j u g3
      rw [hr] at this
      simp only [Row.es] at this
      rw [this]
      rw [Nat.zero_add] at g4
      have hd:x.hd j=d:=by simp [D.hd,hj]
      rw [hd] at g4
      exact g4.rd ((hwr x (List.mem_of_getElem? hx)).2.2 j c d hcj hj)
    rw [← hLm,hlen] at goal
    exact goal
theorem agU {h:Array Obj} {id:Nat} {e:SE} {t:Nat} {ty:TypeId} {ro:Nat→Prop} (hro: ∀b,E.ro b→ro b) (hb:ro (E.θ id).1) (ho:OR E h id (.vec e t ty [])) {k cap:Nat} {a:Addr} (hk:k=(dec (e.den E.ρ)).l.length) (hcap:k≤cap)
 (hc:fJ E id 0 k a cap (.rest (rowOf t).es)):Rd ro h (.sl t) (dec (e.den E.ρ)) (.slice (some a) k cap):=by
 refine ZU hro hb ho hk hcap fun hpos=>?_
 simp only [fJ] at hc
 rcases hc with hc | hc
 ·simpa using hc.1
 ·omega
structure Sub (H' H:Hp):Prop where
 get: ∀j o,H'.get j=some o→H.get j=some o
 next:H'.next=H.next
 res:H'.res=H.res
theorem Sub.refl (H:Hp):Sub H H:=⟨fun _ _ h=>h,rfl,rfl⟩
theorem Sub.trans {A B C:Hp} (a:Sub B A) (b:Sub C B):Sub C A:=⟨fun j o h=>a.get j o (b.get j o h),b.next.trans a.next,b.res.trans a.res⟩
theorem Sub.drop (H:Hp) (id:Nat):Sub (H.drop id) H:=by
 refine⟨fun j o hj=>?_,rfl,rfl⟩
 rw [Hp.xW] at hj
 split at hj
 ·simp at hj
 ·exact hj
theorem UJ [Glob] {H:Hp} (r:bG E H w) {id:Nat} {o:dW} (hl:H.get id=some o) :
 Keeps E w.heap { E with ro:=fun b=>E.ro b∨b=(E.θ id).1 } w.heap∧Stp E H w { E with ro:=fun b=>E.ro b∨b=(E.θ id).1 } (H.drop id) w∧bG { E with ro:=fun b=>E.ro b∨b=(E.θ id).1 } (H.drop id) w:=by
 have hk:Keeps E w.heap { E with ro:=fun b=>E.ro b∨b=(E.θ id).1 } w.heap:=⟨rfl,fun _ h=>h,fun _ _=>rfl,fun _ _=>rfl,fun _ h=> .inl h,fun _ _=>rfl⟩
 have hg: ∀j o,(H.drop id).get j=some o→H.get j=some o∧j≠id:=by
  intro j o hj
  rw [Hp.xW] at hj
  split at hj
  ·simp at hj
  ·rename_i hne; exact⟨hj,hne⟩
 refine⟨hk,⟨rfl,fun _ h=>h,fun _ _=>rfl,fun _ _=>rfl,fun _ h=> .inl h,?_,Nat.le_refl _,.inr rfl,fun _ h=> .inl h,rfl,rfl,rfl,Nat.le_refl _,fun _ _ _=>rfl,fun j o hj _=> ⟨j,o,(hg j o hj).1,rfl⟩⟩,
  ⟨r.fresh,r.res,?_,?_,?_,Glob.keep r.glob (fun _ h=> .inl h) (fun _ _=>rfl)⟩⟩
 ·intro b hb
  rcases hb with hb | rfl
  ·exact .inl hb
  ·exact .inr (.inl ⟨id,_,hl,rfl⟩)
 ·intro j o hj
  obtain⟨h1,h2⟩:=hg j o hj
  obtain⟨g1,g2,g3⟩:=r.live j o h1
  refine⟨g1,g2.keep hk g1 rfl,?_⟩
  rintro (hb | hb)
  ·exact g3 hb
  ·exact h2 (r.inj j id o _ h1 hl hb)
 ·intro i j x y hi hj he
  exact r.inj i j x y (hg i x hi).1 (hg j y hj).1 he
 ·intro b hb
  rcases hb with hb | rfl
  ·exact r.AZ b hb
  ·exact jE r hl
theorem aAM [Glob] {H H':Hp} (r:bG E H w) {v v':AV} (h:frz v H=(v',H')) :
 ∃E',E'.ρ=E.ρ∧Stp E H w E' H' w∧bG E' H' w∧(∀u,VR E w.heap v u→VR E' w.heap v' u)∧Sub H' H:=by
 have same:(v,H)=(v',H')→∃E',E'.ρ=E.ρ∧Stp E H w E' H' w∧bG E' H' w∧(∀u,VR E w.heap v u→VR E' w.heap v' u)∧Sub H' H:=by
  intro he
  simp only [Prod.mk.injEq] at he
  obtain⟨rfl,rfl⟩:=he
  exact⟨E,rfl,Stp.refl _ _ _,r,fun _ h=>h,Sub.refl _⟩
 unfold frz at h
 split at h
 ·rename_i id n t
  split at h
  ·rename_i o hl
   split at h
   ·rename_i e t' ty ov
    split at h
    ·split at h
     ·rename_i ht
      split at h
      ·rename_i hn
       simp only [Prod.mk.injEq] at h
       obtain⟨rfl,rfl⟩:=h
       have ht:=Nat.eq_of_beq_eq_true ht
       have hn:=bW _ _ hn
       subst ht hn
       have hlive:=r.live id _ hl
       obtain⟨hk,s1,r1⟩:=UJ r hl
       refine⟨{ E with ro:=fun b=>E.ro b∨b=(E.θ id).1 },rfl,s1,r1,fun u hv=>?_,Sub.drop _ _⟩
       simp only [VR] at hv ⊢
       obtain⟨hid,k,a,cap,h1,rfl,h2,h3⟩:=hv
       rw [dD] at h1
       exact agU (fun _ h=> .inl h) (.inr rfl) hlive.2.1 (by omega) h2 h3
      ·exact same h
     ·exact same h
    ·exact same h
   ·exact same h
  ·exact same h
 ·simp only [Prod.mk.injEq] at h
  obtain⟨rfl,rfl⟩:=h
  exact⟨E,rfl,Stp.refl _ _ _,r,fun u hu=>by simp only [VR] at hu ⊢; exact hu.2,Sub.refl _⟩
 ·exact same h
end
end Go.As
end
section
namespace Go.As
section
variable {P:Program} {E:En} {w:World}
theorem Rd.part {ro:Nat→Prop} {h:Array Obj} {t:Nat} {d:D} {b o n cap l k:Nat} (r:Rd ro h (.sl t) d (.slice (some ⟨b,o,none⟩) n cap)) (hl:l≤k) (hk:k≤n) (hn:n≤cap) :
 Rd ro h (.sl t) (iM d ((d.l.take k).drop l)) (.slice (some (if cap=l then⟨b,o,none⟩ else⟨b,o+l*(rowOf t).es,none⟩)) (k - l) (cap - l)):=by
 by_cases h0:k - l=0
 ·have:(d.l.take k).drop l= []:=by
   apply List.drop_eq_nil_of_le
   rw [List.length_take]
   omega
  have hd:d≠.i 1:=by
   intro q
   obtain⟨_,q2,_⟩:=QA r
   have:=q2 q
   simp at this
  rw [this,h0]
  simp only [iM]
  rw [if_neg hd]
  exact .non _ _ _
 ·rw [if_neg (by omega)]
  have hne:(d.l.take k).drop l≠[]:=by
   intro q
   have:=congrArg List.length q
   obtain⟨x,cap',hv,_⟩:=r.slice
   simp only [Value.slice.injEq] at hv
   rw [List.length_drop,List.length_take] at this
   simp at this
   omega
  rw [Gt hne]
  generalize hc:CK.sl t=c at r
  generalize hv:Value.slice (some ⟨b,o,none⟩) n cap=v at r
  cases r with
  | int k n=>simp at hc
  | bool b=>simp at hc
  | str s=>simp at hc
  | nil t=>simp at hv
  | non t a cap=>
    simp only [Value.slice.injEq] at hv
    omega
  | one t' c b' o' cap' ds f hr hcp hb h1 h2=>
    simp only [CK.sl.injEq] at hc
    subst hc
    simp only [Value.slice.injEq,Option.some.injEq,Addr.mk.injEq] at hv
    obtain⟨⟨rfl,rfl,_⟩,rfl,rfl⟩:=hv
    rw [aX]
    have hlen:((ds.take k).drop l).length=k - l:=by rw [List.length_drop,List.length_take]; omega
    have hget: ∀i d,((ds.take k).drop l)[i]?=some d→ds[l+i]?=some d:=by
     intro i d hd
     rw [List.getElem?_drop,List.getElem?_take] at hd
     split at hd
     ·exact hd
     ·simp at hd
    rw [← hlen]
    refine .one t c b (o+l*(rowOf t).es) (cap - l) ((ds.take k).drop l) (fun i=>f (l+i)) hr (by rw [hlen]; omega) hb ?_ ?_
    ·intro i d hd
     have:=h1 (l+i) d (hget i d hd)
     rw [hr,show o+l*(Row.one c).es+i=o+(l+i) by simp only [Row.es]; omega]
     exact this
    ·intro i d hd
     exact h2 (l+i) d (hget i d hd)
  | many t' cs b' o' cap' rows f hr hcp hb hll h1 h2=>
    simp only [CK.sl.injEq] at hc
    subst hc
    simp only [Value.slice.injEq,Option.some.injEq,Addr.mk.injEq] at hv
    obtain⟨⟨rfl,rfl,_⟩,rfl,rfl⟩:=hv
    rw [aX]
    have hlen:((rows.take k).drop l).length=k - l:=by rw [List.length_drop,List.length_take]; omega
    have hget: ∀i d,((rows.take k).drop l)[i]?=some d→rows[l+i]?=some d:=by
     intro i d hd
     rw [List.getElem?_drop,List.getElem?_take] at hd
     split at hd
     ·exact hd
     ·simp at hd
    rw [← hlen,← List.map_take,← List.map_drop]
    refine .many t cs b (o+l*(rowOf t).es) (cap - l) ((rows.take k).drop l) (fun i=>f (l+i)) hr (by rw [hlen]; omega) hb (fun r hrm=>hll r (List.mem_of_mem_take (List.mem_of_mem_drop hrm))) ?_ ?_
    ·intro i r j d hi hj
     have:=h1 (l+i) r j d (hget i r hi) hj
     rw [hr,show o+l*(Row.many cs).es+i*cs.length+j=o+(l+i)*cs.length+j by simp only [Row.es,Nat.add_mul]; omega]
     exact this
    ·intro i r j d c hi hj hcj
     exact h2 (l+i) r j d c (hget i r hi) hj hcj
theorem Rd.aCW {ro:Nat→Prop} {h:Array Obj} {t:Nat} {d:D} {x:Option Addr} {n cap l k:Nat} (r:Rd ro h (.sl t) d (.slice x n cap)) (hl:l≤k) (hk:k≤n) (hn:n≤cap) :
 Rd ro h (.sl t) (iM d ((d.l.take k).drop l)) (.slice (match x with | some a=>some (if cap=l then a else a.add (l*(rowOf t).es)) | none=>none) (k - l) (cap - l)):=by
 have hx:(∃b o,x=some ⟨b,o,none⟩)∨(d= .i 1∧x=none∧n=0∧cap=0)∨(d= .i 2∧n=0∧∃a,x=some a):=by
  generalize hc:CK.sl t=c at r
  generalize hv:Value.slice x n cap=v at r
  cases r with
  | int k n=>simp at hc
  | bool b=>simp at hc
  | str s=>simp at hc
  | nil t=>simp only [Value.slice.injEq] at hv; exact .inr (.inl ⟨rfl,hv.1,hv.2.1,hv.2.2⟩)
  | non t a cap=>simp only [Value.slice.injEq] at hv; exact .inr (.inr ⟨rfl,hv.2.1,a,hv.1⟩)
  | one t' c b' o' cap' ds f hr hcp hb h1 h2=>simp only [Value.slice.injEq] at hv; exact .inl ⟨_,_,hv.1⟩
  | many t' cs b' o' cap' rows f hr hcp hb hll h1 h2=>simp only [Value.slice.injEq] at hv; exact .inl ⟨_,_,hv.1⟩
 rcases hx with ⟨b,o,rfl⟩ | ⟨rfl,rfl,rfl,rfl⟩ | ⟨rfl,rfl,a,rfl⟩
 ·have:=r.part hl hk hn
  simp only [fH]
  exact this
 ·obtain rfl:k=0:=by omega
  obtain rfl:l=0:=by omega
  exact .nil _
 ·obtain rfl:k=0:=by omega
  obtain rfl:l=0:=by omega
  exact .non _ _ _
theorem apM (l:List D):dL l≠.i 1:=by cases l <;> simp [dL]
theorem Rd.empty0 {ro:Nat→Prop} {h:Array Obj} {t:Nat} {d:D} {x:Option Addr} {n cap:Nat} (r:Rd ro h (.sl t) d (.slice x n cap)):Rd ro h (.sl t) (iM d []) (.slice x 0 0):=by
 generalize hc:CK.sl t=c at r
 generalize hv:Value.slice x n cap=v at r
 cases r with
 | int k n=>simp at hc
 | bool b=>simp at hc
 | str s=>simp at hc
 | nil t=>
   simp only [Value.slice.injEq] at hv
   obtain⟨rfl,_,_⟩:=hv
   exact .nil _
 | non t a cap=>
   simp only [Value.slice.injEq] at hv
   obtain⟨rfl,_,_⟩:=hv
   exact .non _ _ _
 | one t' c b' o' cap' ds f hr hcp hb h1 h2=>
   simp only [Value.slice.injEq] at hv
   obtain⟨rfl,_,_⟩:=hv
   rw [uG (apM _)]
   exact .non _ _ _
 | many t' cs b' o' cap' rows f hr hcp hb hll h1 h2=>
   simp only [Value.slice.injEq] at hv
   obtain⟨rfl,_,_⟩:=hv
   rw [uG (apM _)]
   exact .non _ _ _
theorem Za [Glob] {tt:TT} (htt:eG P tt) {s s':St} (hp:bI E.ρ s.pc) {ty t:Nat} {e:SE} {lo hi mx:Option AV} {lo' hi' mx':Option Value} {v:AV} {u:Value} (hx:VR E w.heap (.dat e t) u)
 (hlo:iU E w.heap lo lo') (hhi:iU E w.heap hi hi') (hmx:iU E w.heap mx mx') (h:(Uu tt s ty t e lo hi mx).leaf E.ρ=some (v,s')) :
 s'.slots=s.slots∧s'.h=s.h∧bI E.ρ s'.pc∧∃r,(Instr.sliceAt ty u lo' hi' mx').run P w= .ok r w∧VR E w.heap v r:=by
 unfold Uu at h
 split at h
 ·rename_i m
  split at h
  ·rename_i hm
   split at h
   ·simp [T.leaf] at h
   ·rename_i z hz
    split at h
    ·split at h
     ·rename_i hv
      split at h
      ·rename_i hh
       have:=aF h
       simp only [Prod.mk.injEq] at this
       obtain⟨rfl,rfl⟩:=this
       refine⟨rfl,rfl,hp,?_⟩
       obtain⟨el,ie,hu,hie,rfl⟩:=qX htt hz
       have hsz:=dX (htt el ie hie)
       simp only [VR] at hx
       obtain⟨x,cap,rfl,hcap⟩:=hx.slice
       have zb: ∀(a:AV),JL a=true→∀d y,bnd (some a) d y=some 0:=by
        intro a ha d y
        unfold JL at ha
        unfold bnd
        split at ha
        ·rename_i n hn
         have:=CY ha
         subst this
         simp only [hn]
         rw [if_pos (Nat.zero_le y)]
        ·simp at ha
       obtain⟨e1,e2⟩:=iD (P:=P) (w:=w) (isSlice:=true) (len:=(dec (e.den E.ρ)).l.length) (cap:=cap) (m0:=cap) (d:=0) (m:=0) (h0:=0) (h:=0) (l:=0) hlo hhi hmx (fun _=>rfl) (.inr ⟨m,rfl,zb m hm _ _,Nat.le_refl _⟩) (zb hv hh _ _) ⟨fun q=>by simp at q,fun _=>rfl⟩ (by simp [bnd])
       refine⟨.slice x 0 0,?_,?_⟩
       rotate_left
       ·simp only [VR]
        refine⟨⟨x,rfl⟩,?_⟩
        simp only [SE.den,aG.den,aC]
        exact hx.empty0
       cases x with
       | none=>simp [Instr.sliceAt,run_underlying hu,Instr.slice,e1,hsz]
       | some a=>simp [Instr.sliceAt,run_underlying hu,Instr.slice,e1,hsz]
      ·simp [T.leaf] at h
     ·simp [T.leaf] at h
    ·simp [T.leaf] at h
  ·simp [T.leaf] at h
 ·simp only [iU] at hmx
  subst hmx
  split at h
  ·simp [T.leaf] at h
  ·rename_i z hz
   split at h
   ·rename_i hes
    obtain⟨el,ie,hu,hie,rfl⟩:=qX htt hz
    have hsz:=dX (htt el ie hie)
    simp only [VR] at hx
    obtain⟨x,cap,rfl,hcap⟩:=hx.slice
    have fin: ∀(l k:Nat) (e':SE) (lo2 hi2:Option AV),iU E w.heap lo2 lo'→iU E w.heap hi2 hi'→bnd hi2 (dec (e.den E.ρ)).l.length (dec (e.den E.ρ)).l.length=some k→bnd lo2 0 k=some l→dec (e'.den E.ρ)=iM (dec (e.den E.ρ)) (((dec (e.den E.ρ)).l.take k).drop l)→
     ∃r,(Instr.sliceAt ty (.slice x (dec (e.den E.ρ)).l.length cap) lo' hi' none).run P w= .ok r w∧VR E w.heap (.dat e' t) r:=by
     intro l k e' lo2 hi2 h1 h2 h3 h4 h5
     obtain⟨e1,e2⟩:=iD (P:=P) (w:=w) (isSlice:=true) (len:=(dec (e.den E.ρ)).l.length) (cap:=cap) (m0:=cap) (d:=0) (m:=cap) h1 h2 (mx:=none) (mx':=none) (by simp [iU]) (by simp) (.inl ⟨rfl,rfl,Nat.le_refl _⟩) h3 ⟨fun _=>hcap,by simp⟩ h4
     have hk:=oC h3
     have hrd:=hx.aCW e2 hk hcap
     refine⟨_,?_,by simp only [VR,h5]; exact hrd⟩
     cases x with
     | none=>simp [Instr.sliceAt,run_underlying hu,Instr.slice,e1,hsz]
     | some a=>simp [Instr.sliceAt,run_underlying hu,Instr.slice,e1,hsz,hes] <;> split <;> rfl
    have lit: ∀(k:IntKind) (n:Nat) (q:SE) (o:Option Value),q.den E.ρ=(n:Int)→iU E w.heap (some (.int k q)) o→iU E w.heap (some (.int k (.lit (Int.ofNat n)))) o:=by
     intro k n q o hq ho
     obtain⟨y,rfl,hy⟩:=ho
     refine⟨y,rfl,?_⟩
     simp only [VR,SE.den] at hy ⊢
     rw [hy,hq]
     rfl
    have bl: ∀(k:IntKind) (n d y:Nat),n≤y→bnd (some (.int k (.lit (Int.ofNat n)))) d y=some n:=by
     intro k n d y hn
     simp [bnd,mY,hn]
    split at h
    ·
     simp only [iU] at hhi
     subst hhi
     split at h
     ·rename_i kl ql
      obtain⟨pc1,hp1,h1⟩:=cO hp h
      split at h1
      ·simp [T.leaf] at h1
      ·rename_i t1
       obtain⟨pc2,hp2,h2⟩:=cO (s:={ s with pc:=pc1 }) hp1 h1
       split at h2
       ·simp [T.leaf] at h2
       ·rename_i t2
        have:=aF h2
        simp only [Prod.mk.injEq] at this
        obtain⟨rfl,rfl⟩:=this
        rw [dV,decide_eq_false_iff_not] at t1 t2
        rw [dD] at t2
        simp only [SE.den,Int.not_lt] at t1 t2
        obtain⟨l,hl⟩ : ∃l:Nat,ql.den E.ρ=(l:Int):=⟨(ql.den E.ρ).toNat,by omega⟩
        refine⟨rfl,rfl,hp2,fin l (dec (e.den E.ρ)).l.length _ _ none (lit kl l ql lo' hl hlo) (by simp [iU]) (by simp [bnd]) (bl _ _ _ _ (by omega)) ?_⟩
        simp only [SE.den,aG.den,aC,hl,Int.toNat_natCast,List.take_length]
     ·simp [T.leaf] at h
    ·rename_i kh qh
     obtain⟨pc1,hp1,h1⟩:=cO hp h
     split at h1
     ·simp [T.leaf] at h1
     ·rename_i t1
      rw [dV,decide_eq_false_iff_not,dD] at t1
      split at h1
      ·simp only [iU] at hlo
       subst hlo
       obtain⟨pc2,hp2,h2⟩:=cO (s:={ s with pc:=pc1 }) hp1 h1
       split at h2
       ·simp [T.leaf] at h2
       ·rename_i t2
        have:=aF h2
        simp only [Prod.mk.injEq] at this
        obtain⟨rfl,rfl⟩:=this
        rw [dV,decide_eq_false_iff_not] at t2
        simp only [SE.den,Int.not_lt] at t2
        obtain⟨k,hk⟩ : ∃k:Nat,qh.den E.ρ=(k:Int):=⟨(qh.den E.ρ).toNat,by omega⟩
        refine⟨rfl,rfl,hp2,fin 0 k _ none _ (by simp [iU]) (lit kh k qh hi' hk hhi) (bl _ _ _ _ (by omega)) (by simp [bnd]) ?_⟩
        simp only [SE.den,aG.den,aC,hk,Int.toNat_natCast,List.drop_zero]
      ·rename_i kl ql
       obtain⟨pc2,hp2,h2⟩:=cO (s:={ s with pc:=pc1 }) hp1 h1
       split at h2
       ·simp [T.leaf] at h2
       ·rename_i t2
        obtain⟨pc3,hp3,h3⟩:=cO (s:={ s with pc:=pc2 }) hp2 h2
        split at h3
        ·simp [T.leaf] at h3
        ·rename_i t3
         have:=aF h3
         simp only [Prod.mk.injEq] at this
         obtain⟨rfl,rfl⟩:=this
         rw [dV,decide_eq_false_iff_not] at t2 t3
         simp only [SE.den,Int.not_lt] at t2 t3
         obtain⟨l,hl⟩ : ∃l:Nat,ql.den E.ρ=(l:Int):=⟨(ql.den E.ρ).toNat,by omega⟩
         obtain⟨k,hk⟩ : ∃k:Nat,qh.den E.ρ=(k:Int):=⟨(qh.den E.ρ).toNat,by omega⟩
         refine⟨rfl,rfl,hp3,fin l k _ _ _ (lit kl l ql lo' hl hlo) (lit kh k qh hi' hk hhi) (bl _ _ _ _ (by omega)) (bl _ _ _ _ (by omega)) ?_⟩
         simp only [SE.den,aG.den,aC,hl,hk,Int.toNat_natCast,kP]
         exact EJ fun q=>by rw [q]; simp [D.l]
      ·simp [T.leaf] at h1
    ·simp [T.leaf] at h
   ·simp [T.leaf] at h
end
end Go.As
end
section
namespace Go.As
theorem MK {e:SE} (h:isZ e=true):e= .lit 0:=by
 unfold isZ at h
 split at h
 ·rw [CY h]
 ·simp at h
theorem uJ (ρ:Nat→Int) (a b:SE):(yF a b).den ρ=a.den ρ+b.den ρ:=by
 unfold yF
 split
 ·rename_i h
  rw [MK h]
  simp only [SE.den,Int.zero_add]
 ·rfl
theorem adS (ρ:Nat→Int) (a b:SE):(KY a b).den ρ=a.den ρ - b.den ρ:=by
 unfold KY
 split
 ·rename_i h
  rw [MK h]
  simp only [SE.den,Int.sub_zero]
 ·rfl
theorem LQ {ρ:Nat→Int} {e lo n:SE} {l k:Nat} (hl:lo.den ρ=(l:Int)) (hn:n.den ρ=(k:Int)) :
 dec ((TA e lo n).den ρ)=iM (dec (e.den ρ)) (((dec (e.den ρ)).l.take (l+k)).drop l):=by
 unfold TA
 split
 ·rename_i h
  have h:=MK h
  subst h
  simp only [SE.den] at hl
  have:l=0:=by omega
  subst this
  simp only [SE.den,aG.den,aC,hn,Int.toNat_natCast,Nat.zero_add,List.drop_zero]
 ·have h2:((l:Int)+(k:Int)).toNat=l+k:=by omega
  simp only [SE.den,aG.den,aC,hl,hn,h2,Int.toNat_natCast,kP]
  exact EJ fun h=>by rw [h]; simp [D.l]
theorem Ia {α:Type} {ρ:Nat→Int} {e lo n:SE} {s:St} {k:St→T α} {x:α} (hp:bI ρ s.pc) (h:(Ib e lo n s k).leaf ρ=some x) :
 ∃pc',bI ρ pc'∧0≤lo.den ρ∧0≤n.den ρ∧lo.den ρ+n.den ρ≤((dec (e.den ρ)).l.length:Int)∧(k { s with pc:=pc' }).leaf ρ=some x:=by
 unfold Ib at h
 obtain⟨pc1,hp1,h1⟩:=cO hp h
 split at h1
 ·simp [T.leaf] at h1
 ·rename_i hb1
  obtain⟨pc2,hp2,h2⟩:=cO (s:={ s with pc:=pc1 }) hp1 h1
  split at h2
  ·simp [T.leaf] at h2
  ·rename_i hb2
   obtain⟨pc3,hp3,h3⟩:=cO (s:={ s with pc:=pc2 }) hp2 h2
   split at h3
   ·simp [T.leaf] at h3
   ·rename_i hb3
    rw [dV,decide_eq_false_iff_not] at hb1 hb2 hb3
    rw [dD,uJ] at hb3
    simp only [SE.den] at hb1 hb2
    exact⟨pc3,hp3,by omega,by omega,by omega,h3⟩
theorem yJ {h:Hp} {id t:Nat} {e:SE} {ty:TypeId} (hv:OW h id t=some (e,ty)):h.get id=some (.vec e t ty []):=by
 unfold OW at hv
 split at hv
 ·rename_i o ho
  split at hv
  ·split at hv
   ·split at hv
    ·rename_i ht
     have ht:=Nat.eq_of_beq_eq_true ht
     simp only [Option.some.injEq,Prod.mk.injEq] at hv
     obtain⟨rfl,rfl⟩:=hv
     rw [ho,ht]
    ·simp at hv
   ·simp at hv
  ·simp at hv
 ·simp at hv
theorem Rd.aCP {ro:Nat→Prop} {h:Array Obj} {t:Nat} {d:D} {a:Addr} {n cap cap':Nat} (r:Rd ro h (.sl t) d (.slice (some a) n cap)) (hc:n≤cap'):Rd ro h (.sl t) d (.slice (some a) n cap'):=by
 generalize hk:CK.sl t=c at r
 generalize hv:Value.slice (some a) n cap=v at r
 cases r with
 | int k n=>simp at hk
 | bool b=>simp at hk
 | str s=>simp at hk
 | nil t=>simp at hv
 | non t a cap=>
   simp only [CK.sl.injEq] at hk
   simp only [Value.slice.injEq,Option.some.injEq] at hv
   obtain⟨rfl,rfl,rfl⟩:=hv
   subst hk
   exact .non _ _ _
 | one t' c b' o' cap' ds f hr hcp hb h1 h2=>
   simp only [CK.sl.injEq] at hk
   simp only [Value.slice.injEq,Option.some.injEq] at hv
   obtain⟨rfl,rfl,rfl⟩:=hv
   subst hk
   exact .one _ _ _ _ _ _ _ hr hc hb h1 h2
 | many t' cs b' o' cap' rows f hr hcp hb hll h1 h2=>
   simp only [CK.sl.injEq] at hk
   simp only [Value.slice.injEq,Option.some.injEq] at hv
   obtain⟨rfl,rfl,rfl⟩:=hv
   subst hk
   exact .many _ _ _ _ _ _ _ hr hc hb hll h1 h2
section
variable {P:Program} {E:En} {w:World}
theorem agV {h:Array Obj} {id:Nat} {e:SE} {t:Nat} {ty:TypeId} {ro:Nat→Prop} (hro: ∀b,E.ro b→ro b) (hb:ro (E.θ id).1) (ho:OR E h id (.vec e t ty [])) {l k cap:Nat} {a:Addr} (hk:l+k≤(dec (e.den E.ρ)).l.length) (hcap:k≤cap)
 (hc:fJ E id (l*(rowOf t).es) k a cap (.rest (rowOf t).es)):Rd ro h (.sl t) (iM (dec (e.den E.ρ)) (((dec (e.den E.ρ)).l.take (l+k)).drop l)) (.slice (some a) k cap):=by
 have hw:=(OR.yB.1 ho).1.2
 have hne:dec (e.den E.ρ)≠.i 1:=by
  intro q
  have:=hw.2.2
  rw [q] at this
  exact this rfl
 rcases Nat.eq_zero_or_pos k with h0 | hpos
 ·subst h0
  have:((dec (e.den E.ρ)).l.take (l+0)).drop l= []:=by
   apply List.drop_eq_nil_of_le
   rw [List.length_take]
   omega
  rw [this,uG hne]
  exact .non _ _ _
 ·simp only [fJ] at hc
  obtain⟨rfl,_⟩ : a=⟨(E.θ id).1,(E.θ id).2+l*(rowOf t).es,none⟩∧l*(rowOf t).es+cap*(rowOf t).es=E.κ id:=by
   rcases hc with hc | hc
   ·exact hc
   ·omega
  have r0:=ZU hro hb ho (k:=(dec (e.den E.ρ)).l.length) (cap:=(dec (e.den E.ρ)).l.length+l+1) (a:=⟨(E.θ id).1,(E.θ id).2,none⟩) rfl (by omega) (fun _=>rfl)
  have r1:=r0.part (l:=l) (k:=l+k) (by omega) hk (by omega)
  rw [if_neg (by omega),show l+k - l=k by omega] at r1
  exact r1.aCP hcap
structure Xt [Glob] (E:En) (w:World) (H:Hp) (E':En) (H':Hp):Prop where
 ρ:E'.ρ=E.ρ
 eF:Stp E H w E' H' w
 rel:bG E' H' w
 sub:Sub H' H
theorem Xt.refl [Glob] {H:Hp} (r:bG E H w):Xt E w H E H:=⟨rfl,Stp.refl _ _ _,r,Sub.refl _⟩
theorem Xt.trans [Glob] {E1 E2:En} {H H1 H2:Hp} (a:Xt E w H E1 H1) (b:Xt E1 w H1 E2 H2):Xt E w H E2 H2:=
 ⟨b.ρ.trans a.ρ,a.eF.trans b.eF,b.rel,a.sub.trans b.sub⟩
theorem acH [Glob] {α:Type} {ρ:Nat→Int} {v:AV} {s:St} {k:AV→St→T α} {x:α} (hρ:E.ρ=ρ) (r:bG E s.h w) (hp:bI ρ s.pc) (h:(afN v s k).leaf ρ=some x) :
 ∃v' h' pc' E',bI ρ pc'∧Xt E w s.h E' h'∧(∀u,VR E w.heap v u→VR E' w.heap v' u)∧(k v' { s with h:=h',pc:=pc' }).leaf ρ=some x:=by
 unfold afN at h
 split at h
 ·rename_i id lo n t
  split at h
  ·rename_i e ty hv
   have hl:=yJ hv
   obtain⟨pc',hp',h1,h2,h3,h4⟩:=Ia hp h
   obtain⟨hk,s1,r1⟩:=UJ r hl
   refine⟨_,_,pc',{ E with ro:=fun b=>E.ro b∨b=(E.θ id).1 },hp',⟨rfl,s1,r1,Sub.drop _ _⟩,fun u hu=>?_,h4⟩
   simp only [VR] at hu ⊢
   obtain⟨hid,l,m,a,cap,q1,q2,rfl,q4,q5⟩:=hu
   rw [LQ q1 q2]
   rw [hρ] at q1 q2
   have hh:=agV (E:=E) (ro:=fun b=>E.ro b∨b=(E.θ id).1) (fun _ h=> .inl h) (.inr rfl) (r.live id _ hl).2.1 (l:=l) (k:=m) (by rw [hρ]; omega) q4 q5
   exact hh
  ·exact⟨_,_,s.pc,E,hp,Xt.refl r,fun _ h=>h,h⟩
 ·cases hf:frz v s.h with
  | mk v' h'=>
    rw [hf] at h
    obtain⟨E',q1,q2,q3,q4,q5⟩:=aAM r hf
    exact⟨v',h',s.pc,E',hp,⟨q1,q2,q3,q5⟩,q4,h⟩
theorem Wn [Glob] {α:Type} {ρ:Nat→Int}: ∀{vs:List AV} {s:St} {E:En} {k:List AV→St→T α} {x:α},E.ρ=ρ→bG E s.h w→bI ρ s.pc→(QT vs s k).leaf ρ=some x→
 ∃vs' h' pc' E',bI ρ pc'∧Xt E w s.h E' h'∧(∀us,bJ E w.heap vs us→bJ E' w.heap vs' us)∧(k vs' { s with h:=h',pc:=pc' }).leaf ρ=some x
 | [],s,E,k,x,hρ,r,hp,h=> ⟨[],s.h,s.pc,E,hp,Xt.refl r,fun _ h=>h,h⟩
 | v :: vs,s,E,k,x,hρ,r,hp,h=>by
   simp only [QT] at h
   obtain⟨v1,h1,pc1,E1,hp1,f1,q1,g1⟩:=acH hρ r hp h
   obtain⟨vs1,h2,pc2,E2,hp2,f2,q2,g2⟩:=Wn (s:={ s with h:=h1,pc:=pc1 }) (f1.ρ.trans hρ) f1.rel hp1 g1
   refine⟨v1 :: vs1,h2,pc2,E2,hp2,f1.trans f2,fun us hu=>?_,g2⟩
   rw [aW] at hu ⊢
   obtain⟨u,us',rfl,a,b⟩:=hu
   exact⟨u,us',rfl,VR.keep (f2.eF.keeps f1.rel) _ _ (q1 u a),q2 us' (bJ.keep (f1.eF.keeps r) _ _ b)⟩
theorem Fz {ρ:Nat→Int} {i:Nat} {j:SE} {cs:List AV}: ∀{pre:List (SE×List AV)},dQ ρ i (pre++ [(j,cs)])=match dQ ρ i pre with | some c=>some c | none=>if j.den ρ=(i:Int) then some cs else none
 | []=>rfl
 | (a,b) :: pre=>by
   simp only [List.cons_append,dQ]
   split
   ·rfl
   ·exact Fz
theorem arT (ρ:Nat→Int) (e j x:SE):dec ((SE.op .set e (gQ (Hw j) x)).den ρ)=dL (iK (dec (e.den ρ)).l (j.den ρ) (dec (x.den ρ))):=by
 simp only [gQ,SE.den,aG.den,aC,oK,D.n]
theorem Vt (ds:List D) (z:Int) (x:D) (n:Nat):(iK ds z x)[n]?=if z=(n:Int)∧n < ds.length then some x else ds[n]?:=by
 unfold iK
 split
 ·rw [if_neg (by omega)]
 ·rw [List.getElem?_set]
  by_cases hz:z=(n:Int)
  ·subst hz
   simp only [Int.toNat_natCast,if_true,true_and]
   split
   ·rfl
   ·rename_i hn
    rw [List.getElem?_eq_none (by omega)]
  ·rw [if_neg (by omega),if_neg (fun q=>hz q.1)]
theorem DW {ρ:Nat→Int} {E1 E2:En} {h:Array Obj} {r:Row} {pre:List (SE×List AV)} {j:SE} {cs:List AV} {X:D} (mono: ∀a us,bJ E1 h a us→bJ E2 h a us) (hX: ∀us,bJ E1 h cs us→DI E2.ro h r X us) :
 ∀{L L':List D} {i:Nat} {us:List Value},L'.length=L.length→(∀n:Nat,L'[n]?=if j.den ρ=((i+n:Nat):Int)∧n < L.length then some X else L[n]?)→
  bJ E1 h (aK ρ r (pre++ [(j,cs)]) L i) us→bJ E2 h (aK ρ r pre L' i) us
 | [],[],i,us,_,_,hv=>by simp only [aK,bJ] at *; exact hv
 | [],_ :: _,_,_,hl,_,_=>by simp at hl
 | _ :: _,[],_,_,hl,_,_=>by simp at hl
 | d :: L,d' :: L',i,us,hl,hg,hv=>by
   simp only [aK] at *
   obtain⟨a,b,rfl,a1,a2⟩:=hv.split
   have h0:=hg 0
   simp only [List.getElem?_cons_zero,Nat.add_zero,List.length_cons] at h0
   refine bJ.append ?_ (DW mono hX (by simpa using hl) (fun n=>?_) a2)
   ·rw [Fz] at a1
    cases ho:dQ ρ i pre with
    | some c=>
      rw [ho] at a1
      exact mono _ _ a1
    | none=>
      rw [ho] at a1
      simp only at a1 ⊢
      by_cases hj:j.den ρ=(i:Int)
      ·rw [if_pos hj] at a1
       rw [if_pos ⟨hj,by omega⟩] at h0
       simp only [Option.some.injEq] at h0
       subst h0
       rw [gV]
       simp only [SE.den,aC]
       exact hX _ a1
      ·rw [if_neg hj] at a1
       rw [if_neg (fun q=>hj q.1)] at h0
       simp only [Option.some.injEq] at h0
       subst h0
       exact mono _ _ a1
   ·have:=hg (n+1)
    simp only [List.getElem?_cons_succ,List.length_cons] at this
    rw [this,show i+(n+1)=i+1+n by omega]
    by_cases hc:j.den ρ=((i+1+n:Nat):Int)∧n < L.length
    ·rw [if_pos hc,if_pos ⟨hc.1,by omega⟩]
    ·rw [if_neg hc,if_neg (fun q=>hc ⟨q.1,by omega⟩)]
theorem arU {r:Row} {ds:List D} {z:Int} {x:D} (h1: ∀d∈ds,wF r d) (h2:wF r x): ∀d∈iK ds z x,wF r d:=by
 intro d hd
 obtain⟨n,hn⟩:=List.mem_iff_getElem?.1 hd
 rw [Vt] at hn
 split at hn
 ·simp only [Option.some.injEq] at hn
  subst hn
  exact h2
 ·exact h1 d (List.mem_of_getElem? hn)
theorem arV {ds:List D} {z:Int} {x:D} (h:ds≠[]):iK ds z x≠[]:=by
 intro q
 have:=congrArg List.length q
 rw [iY] at this
 exact h (List.eq_nil_of_length_eq_zero this)
theorem VE [Glob] {α:Type} {ρ:Nat→Int} {t:Nat}: ∀{ov:List (SE×List AV)} {e:SE} {s:St} {E:En} {k:SE→St→T α} {x:α} (pre:List (SE×List AV)),E.ρ=ρ→bG E s.h w→bI ρ s.pc→Jz (rowOf t) (dec (e.den ρ))→
 (PV t ov e s k).leaf ρ=some x→
 ∃e' h' pc' E',bI ρ pc'∧Xt E w s.h E' h'∧Jz (rowOf t) (dec (e'.den ρ))∧(dec (e'.den ρ)).l.length=(dec (e.den ρ)).l.length∧
  (∀us,bJ E w.heap (aK ρ (rowOf t) (pre++ov) (dec (e.den ρ)).l 0) us→bJ E' w.heap (aK ρ (rowOf t) pre (dec (e'.den ρ)).l 0) us)∧(k e' { s with h:=h',pc:=pc' }).leaf ρ=some x
 | [],e,s,E,k,x,pre,hρ,r,hp,hw,h=> ⟨e,s.h,s.pc,E,hp,Xt.refl r,hw,rfl,fun us hu=>by rw [List.append_nil] at hu; exact hu,h⟩
 | (j,cs) :: ov,e,s,E,k,x,pre,hρ,r,hp,hw,h=>by
   simp only [PV] at h
   obtain⟨e1,h1,pc1,E1,hp1,f1,w1,l1,c1,g1⟩:=VE (pre++ [(j,cs)]) hρ r hp hw h
   obtain⟨cs2,h2,pc2,E2,hp2,f2,c2,g2⟩:=Wn (s:={ s with h:=h1,pc:=pc1 }) (f1.ρ.trans hρ) f1.rel hp1 g1
   split at g2
   ·rename_i y hy
    have hρ2:E2.ρ=ρ:=f2.ρ.trans (f1.ρ.trans hρ)
    have hsd:=arT ρ e1 j y
    refine⟨_,h2,pc2,E2,hp2,f1.trans f2,?_,?_,?_,g2⟩
    ·rw [hsd]
     exact⟨by rw [aX],by rw [aX]; exact arU w1.2.1 (Ac hy),by rw [aX]; exact arV w1.2.2⟩
    ·rw [hsd,aX,iY,l1]
    ·intro us hu
     rw [hsd,aX]
     have hu1:=c1 us (by rw [List.append_assoc]; exact hu)
     refine DW (j:=j) (cs:=cs) (X:=dec (y.den ρ)) (fun a us ha=>bJ.keep (f2.eF.keeps f1.rel) _ _ ha) (fun us hus=>?_) (iY _ _ _) (fun n=>?_) hu1
     ·have:=Ad (c2 us hus) hy
      rw [hρ2] at this
      exact this
     ·rw [Vt,Nat.zero_add]
   ·simp [T.leaf] at g2
theorem aeN {v:AV} {h:Hp} {id t:Nat} {e:SE} {ov:List (SE×List AV)} (hv:aAf v h=some (id,e,t,ov)): ∃ty,v= .uK id (eP e) t∧h.get id=some (.vec e t ty ov):=by
 unfold aAf at hv
 split at hv
 ·split at hv
  ·rename_i o ho
   split at hv
   ·split at hv
    ·simp at hv
    ·split at hv
     ·rename_i ht
      split at hv
      ·rename_i hn
       have ht:=Nat.eq_of_beq_eq_true ht
       have hn:=bW _ _ hn
       simp only [Option.some.injEq,Prod.mk.injEq] at hv
       obtain⟨rfl,rfl,rfl,rfl⟩:=hv
       subst ht hn
       exact⟨_,rfl,ho⟩
      ·simp at hv
     ·simp at hv
   ·simp at hv
  ·simp at hv
 ·simp at hv
theorem acF [Glob] {α:Type} {ρ:Nat→Int} {v:AV} {s:St} {k:AV→St→T α} {x:α} (hρ:E.ρ=ρ) (r:bG E s.h w) (hp:bI ρ s.pc) (h:(afM v s k).leaf ρ=some x) :
 ∃v' h' pc' E',bI ρ pc'∧Xt E w s.h E' h'∧(∀u,VR E w.heap v u→VR E' w.heap v' u)∧(k v' { s with h:=h',pc:=pc' }).leaf ρ=some x:=by
 unfold afM at h
 split at h
 ·rename_i id e t ov hv
  obtain⟨ty,rfl,hl⟩:=aeN hv
  obtain⟨hid,ho,aFC⟩:=r.live id _ hl
  have ho':=ho
  simp only [OR] at ho'
  rw [hρ] at ho'
  obtain⟨⟨hov,hwf⟩,arr,lo,hi,us,q1,q2,q3,q4,q5,q6,q7⟩:=ho'
  obtain⟨e',h',pc',E',hp',f,w',l',c',g⟩:=VE [] hρ r hp hwf h
  split at g
  ·rename_i o hg
   have hg':=f.sub.get _ _ hg
   rw [hl] at hg'
   simp only [Option.some.injEq] at hg'
   subst hg'
   obtain⟨hk,s1,r1⟩:=UJ f.rel hg
   have hρ':E'.ρ=ρ:=f.ρ.trans hρ
   refine⟨_,_,pc',{ E' with ro:=fun b=>E'.ro b∨b=(E'.θ id).1 },hp',⟨f.ρ,f.eF.trans s1,r1,f.sub.trans (Sub.drop _ _)⟩,fun u hu=>?_,g⟩
   simp only [VR] at hu ⊢
   obtain⟨_,m,a,cap,p1,rfl,p3,p4⟩:=hu
   rw [dD,hρ] at p1
   have hθ:=f.eF.θ id hid
   have hκ:=f.eF.κ id hid
   have hO:OR E' w.heap id (.vec e' t ty []):=by
    simp only [OR]
    rw [hρ',hθ,hκ]
    have hv':=c' us (by rw [List.nil_append]; exact q2)
    refine⟨⟨fun p hp=>by simp at hp,w'⟩,arr,lo,hi,us,q1,hv',q3,?_,q5,q6,q7⟩
    have e1:=hv'.length
    have e2:=q2.length
    omega
   have hh:=agU (E:=E') (ro:=fun b=>E'.ro b∨b=(E'.θ id).1) (fun _ h=> .inl h) (.inr rfl) hO (k:=m) (cap:=cap) (a:=a) (by rw [hρ',l']; omega) p3 (by
    simp only [fJ] at p4 ⊢
    rw [hθ,hκ]
    exact p4)
   exact hh
  ·simp [T.leaf] at g
 ·exact acH hρ r hp h
theorem xX [Glob] {α:Type} {ρ:Nat→Int}: ∀{vs:List AV} {s:St} {E:En} {k:List AV→St→T α} {x:α},E.ρ=ρ→bG E s.h w→bI ρ s.pc→(F6 vs s k).leaf ρ=some x→
 ∃vs' h' pc' E',bI ρ pc'∧Xt E w s.h E' h'∧(∀us,bJ E w.heap vs us→bJ E' w.heap vs' us)∧(k vs' { s with h:=h',pc:=pc' }).leaf ρ=some x
 | [],s,E,k,x,hρ,r,hp,h=> ⟨[],s.h,s.pc,E,hp,Xt.refl r,fun _ h=>h,h⟩
 | v :: vs,s,E,k,x,hρ,r,hp,h=>by
   simp only [F6] at h
   obtain⟨v1,h1,pc1,E1,hp1,f1,q1,g1⟩:=acF hρ r hp h
   obtain⟨vs1,h2,pc2,E2,hp2,f2,q2,g2⟩:=xX (s:={ s with h:=h1,pc:=pc1 }) (f1.ρ.trans hρ) f1.rel hp1 g1
   refine⟨v1 :: vs1,h2,pc2,E2,hp2,f1.trans f2,fun us hu=>?_,g2⟩
   rw [aW] at hu ⊢
   obtain⟨u,us',rfl,a,b⟩:=hu
   exact⟨u,us',rfl,VR.keep (f2.eF.keeps f1.rel) _ _ (q1 u a),q2 us' (bJ.keep (f1.eF.keeps r) _ _ b)⟩
end
end Go.As
end
section
namespace Go.As
section
variable {P:Program} {E:En} {w:World}
theorem oJ: ∀{cs vs l:List AV} {o:Nat},splice cs o vs=some l→l.length=cs.length
 | cs,[],l,0,h=>by simp only [splice,Option.some.injEq] at h; rw [h]
 | [],v :: vs,l,0,h=>by simp [splice] at h
 | c :: cs,v :: vs,l,0,h=>by
   simp only [splice] at h
   split at h
   ·rename_i l' hl
    simp only [Option.some.injEq] at h
    subst h
    simp [oJ hl]
   ·simp at h
 | [],vs,l,o+1,h=>by simp [splice] at h
 | c :: cs,vs,l,o+1,h=>by
   simp only [splice] at h
   split at h
   ·rename_i l' hl
    simp only [Option.some.injEq] at h
    subst h
    simp [oJ hl]
   ·simp at h
theorem rU: ∀{cs vs l:List AV} {o:Nat} (m:List AV),splice cs o vs=some l→splice (cs++m) o vs=some (l++m)
 | cs,[],l,0,m,h=>by simp only [splice,Option.some.injEq] at h ⊢; rw [h]
 | [],v :: vs,l,0,m,h=>by simp [splice] at h
 | c :: cs,v :: vs,l,0,m,h=>by
   simp only [splice,List.cons_append] at h ⊢
   split at h
   ·rename_i l' hl
    simp only [Option.some.injEq] at h
    subst h
    rw [rU m hl]
    rfl
   ·simp at h
 | [],vs,l,o+1,m,h=>by simp [splice] at h
 | c :: cs,vs,l,o+1,m,h=>by
   simp only [splice,List.cons_append] at h ⊢
   split at h
   ·rename_i l' hl
    simp only [Option.some.injEq] at h
    subst h
    rw [rU m hl]
    rfl
   ·simp at h
theorem yO: ∀{cs vs l:List AV} {o:Nat} (p:List AV),splice cs o vs=some l→splice (p++cs) (p.length+o) vs=some (p++l)
 | cs,vs,l,o,[],h=>by simpa using h
 | cs,vs,l,o,x :: p,h=>by
   have:=yO p h
   rw [List.cons_append,List.length_cons,show p.length+1+o=(p.length+o)+1 by omega]
   simp only [splice,this,List.cons_append]
theorem wX: ∀{cs vs l:List AV} {o:Nat},splice cs o vs=some l→∀j:Nat,l[j]?=if o≤j∧j < o+vs.length then vs[j - o]? else cs[j]?
 | cs,[],l,0,h,j=>by
   simp only [splice,Option.some.injEq] at h
   rw [h,if_neg (by simp)]
 | [],v :: vs,l,0,h,j=>by simp [splice] at h
 | c :: cs,v :: vs,l,0,h,j=>by
   simp only [splice] at h
   split at h
   ·rename_i l' hl
    simp only [Option.some.injEq] at h
    subst h
    cases j with
    | zero=>simp
    | succ j=>
      have:=wX hl j
      simp only [List.getElem?_cons_succ,this,List.length_cons,Nat.sub_zero]
      by_cases hj:j < vs.length
      ·rw [if_pos (by omega),if_pos (by omega)]
      ·rw [if_neg (by omega),if_neg (by omega)]
   ·simp at h
 | [],vs,l,o+1,h,j=>by simp [splice] at h
 | c :: cs,vs,l,o+1,h,j=>by
   simp only [splice] at h
   split at h
   ·rename_i l' hl
    simp only [Option.some.injEq] at h
    subst h
    cases j with
    | zero=>rw [if_neg (by omega)]; rfl
    | succ j=>
      have:=wX hl j
      simp only [List.getElem?_cons_succ,this]
      by_cases hj:o≤j∧j < o+vs.length
      ·rw [if_pos hj,if_pos (by omega),show j+1 - (o+1)=j - o by omega]
      ·rw [if_neg hj,if_neg (by omega)]
   ·simp at h
theorem Gz (x:SE): ∀(cs:List CK) (j k:Nat),(kU cs j x)[k]?=(cs[k]?).map fun c=>Ae c (mP (j+k) x)
 | [],j,k=>by simp [kU]
 | c :: cs,j,0=>by simp [kU]
 | c :: cs,j,k+1=>by
   simp only [kU,List.getElem?_cons_succ,Gz x cs (j+1) k]
   rw [show j+1+k=j+(k+1) by omega]
theorem I7 {ρ:Nat→Int} {ks:List CK}: ∀{vs:List AV} {off:Nat} {x x':SE},setCells ks off vs x=some x'→off+vs.length≤(dec (x.den ρ)).l.length→
 (dec (x'.den ρ)).l.length=(dec (x.den ρ)).l.length∧(dec (x.den ρ)=dL (dec (x.den ρ)).l→dec (x'.den ρ)=dL (dec (x'.den ρ)).l)∧
 ∀j,(j < off∨off+vs.length≤j)∧(dec (x'.den ρ)).l[j]?=(dec (x.den ρ)).l[j]?∨∃c v a,off≤j∧vs[j - off]?=some v∧ks[j]?=some c∧qY c v=some a∧(dec (x'.den ρ)).l[j]?=some (dec (a.den ρ))
 | [],off,x,x',h,_=>by
   simp only [setCells,Option.some.injEq] at h
   subst h
   refine⟨rfl,id,fun j=> .inl ⟨?_,rfl⟩⟩
   simp only [List.length_nil]
   omega
 | v :: vs,off,x,x',h,hle=>by
   simp only [setCells] at h
   split at h
   ·rename_i c hc
    split at h
    ·rename_i a ha
     simp only [List.length_cons] at hle
     have hs:dec ((SE.op .set x (gQ (.dat (.i (Int.ofNat off))) a)).den ρ)=dL ((dec (x.den ρ)).l.set off (dec (a.den ρ))):=by
      simp only [gQ,SE.den,aG.den,aC,D.n]
      rfl
     obtain⟨h1,h2,h3⟩:=I7 (ρ:=ρ) h (by rw [hs,aX,List.length_set]; omega)
     rw [hs,aX,List.length_set] at h1
     rw [hs] at h2 h3
     simp only [aX] at h2 h3
     rw [dB] at hc
     refine⟨h1,fun _=>h2 trivial,fun j=>?_⟩
     rcases h3 j with ⟨q1,q2⟩ | ⟨c',v',a',q1,q2,q3,q4,q5⟩
     ·by_cases hj:j=off
      ·subst hj
       refine .inr ⟨c,v,a,Nat.le_refl _,by simp,hc,ha,?_⟩
       rw [q2,List.getElem?_set_self (by omega)]
      ·refine .inl ⟨by simp only [List.length_cons]; omega,?_⟩
       rw [q2,List.getElem?_set_ne (fun q=>hj q.symm)]
     ·refine .inr ⟨c',v',a',by omega,?_,q3,q4,q5⟩
      rw [show j - off=(j - (off+1))+1 by omega,List.getElem?_cons_succ]
      exact q2
    ·simp at h
   ·simp at h
theorem dO.mk {ro:Nat→Prop} {h:Array Obj} {d:D}: ∀{cs:List CK} {j:Nat} {us:List Value},us.length=cs.length→(∀k c u,cs[k]?=some c→us[k]?=some u→kX ro h c (d.hd (j+k)) u)→dO ro h cs j d us
 | [],j,us,hl,_=>by
   simp only [dO]
   exact List.eq_nil_of_length_eq_zero hl
 | c :: cs,j,[],hl,_=>by simp at hl
 | c :: cs,j,u :: us,hl,hh=>by
   simp only [dO]
   refine⟨u,us,rfl,by simpa using hh 0 c u rfl rfl,dO.mk (by simpa using hl) fun k c' u' h1 h2=>?_⟩
   have:=hh (k+1) c' u' (by simpa using h1) (by simpa using h2)
   rw [show j+1+k=j+(k+1) by omega]
   exact this
theorem Zx {r:Row} {e e' i:SE} {off k:Nat} {vs:List AV} {x:D} (hc:UQ r e i off vs=some e') (hi:i.den E.ρ=(k:Int)) (hx:(dec (e.den E.ρ)).l[k]?=some x) (hwf:wF r x) (hle:off+vs.length≤r.es) :
 ∃x',dec (e'.den E.ρ)=dL ((dec (e.den E.ρ)).l.set k x')∧wF r x'∧∀(h:Array Obj) (us':List Value),us'.length=r.es→(∀j v u,off≤j→vs[j - off]?=some v→us'[j]?=some u→VR E h v u)→
  (∀j a u,(j < off∨off+vs.length≤j)→(jB r (.op .at e i))[j]?=some a→us'[j]?=some u→VR E h a u)→DI E.ro h r x' us':=by
 unfold UQ at hc
 split at hc
 ·rename_i c
  split at hc
  ·split at hc
   ·rename_i v
    split at hc
    ·rename_i a ha
     simp only [Option.some.injEq] at hc
     subst hc
     refine⟨dec (a.den E.ρ),?_,uH ha,?_⟩
     ·simp only [gQ,SE.den,aG.den,aC,oK,D.n,hi,AQ]
     ·intro h us' h1 h2 _
      cases us' with
      | nil=>simp [Row.es] at h1
      | cons y ys=>
        have:ys= []:=by
         cases ys with
         | nil=>rfl
         | cons z zs=>simp [Row.es] at h1
        subst this
        exact⟨y,rfl,pR (h2 0 v y (Nat.le_refl _) rfl rfl) ha⟩
    ·simp at hc
   ·simp at hc
  ·simp at hc
 ·rename_i ks
  split at hc
  ·rename_i x' hx'
   simp only [Option.some.injEq] at hc
   subst hc
   have hat:=IJ E.ρ e i hi hx
   obtain⟨w1,w2,w3⟩:=hwf
   obtain⟨g1,g2,g3⟩:=I7 (ρ:=E.ρ) hx' (by rw [hat,w2]; exact hle)
   rw [hat] at g1 g2 g3
   refine⟨dec (x'.den E.ρ),?_,⟨g2 w1,by rw [g1,w2],?_⟩,?_⟩
   ·simp only [gQ,SE.den,aG.den,aC,oK,D.n,hi,AQ]
   ·intro j c y hj hy
    rcases g3 j with ⟨_,q2⟩ | ⟨c',v',a',_,_,q3,q4,q5⟩
    ·exact w3 j c y hj (by rw [← q2]; exact hy)
    ·rw [q5] at hy
     rw [hj] at q3
     simp only [Option.some.injEq] at hy q3
     subst hy q3
     exact uH q4
   ·intro h us' h1 h2 h3
    show dO E.ro h ks 0 (dec (x'.den E.ρ)) us'
    refine dO.mk h1 fun j c u hj hu=>?_
    rw [Nat.zero_add]
    rcases g3 j with ⟨q1,q2⟩ | ⟨c',v',a',q1,q2,q3,q4,q5⟩
    ·have p2:=h3 j (Ae c (mP j (.op .at e i))) u q1 (by simp only [jB,Gz,hj,Option.map_some,Nat.zero_add]) hu
     rw [uI,yQ,hat] at p2
     have:(dec (x'.den E.ρ)).hd j=x.hd j:=by simp only [D.hd,q2]
     rw [this]
     exact p2
    ·rw [hj] at q3
     simp only [Option.some.injEq] at q3
     subst q3
     have:(dec (x'.den E.ρ)).hd j=dec (a'.den E.ρ):=by simp only [D.hd,q5,Option.getD_some]
     rw [this]
     exact pR (h2 j v' u q1 q2 hu) q4
  ·simp at hc
theorem nC {ρ:Nat→Int} {r:Row} {ov vM:List (SE×List AV)}: ∀(ds:List D) (i:Nat),(∀j,i≤j→j < i+ds.length→dQ ρ j ov=dQ ρ j vM)→aK ρ r ov ds i=aK ρ r vM ds i
 | [],_,_=>rfl
 | d :: ds,i,h=>by
   simp only [aK]
   rw [h i (Nat.le_refl _) (by simp),nC ds (i+1) fun j h1 h2=>h j (by omega) (by simp only [List.length_cons]; omega)]
theorem LM {ρ:Nat→Int} {pc:List (SB×Bool)} (hp:bI ρ pc) {i:SE} {k:Nat} (hi:i.den ρ=(k:Int)) {cs':List AV} {r:Row} (hcs:cs'.length=r.es): ∀{ov vM:List (SE×List AV)},PE pc i cs' ov=some vM→FB r ov→
 FB r vM∧dQ ρ k vM=some cs'∧∀j:Nat,j≠k→dQ ρ j vM=dQ ρ j ov
 | [],vM,h,_=>by simp [PE] at h
 | (j,c) :: l,vM,h,ho=>by
   simp only [PE] at h
   split at h
   ·rename_i he
    have he:=bW _ _ he
    subst he
    simp only [Option.some.injEq] at h
    subst h
    refine⟨?_,by simp [dQ,hi],?_⟩
    ·intro p hp'
     rcases List.mem_cons.1 hp' with rfl | hp'
     ·exact hcs
     ·exact ho p (by simp [hp'])
    ·intro m hm
     simp only [dQ,hi]
     rw [if_neg (by omega),if_neg (by omega)]
   ·split at h
    ·rename_i b hd
     split at h
     ·have hd:=iW hp hd
      rw [lN,beq_iff_eq,hi] at hd
      simp only [Option.some.injEq] at h
      subst h
      refine⟨?_,by simp [dQ,hd],?_⟩
      ·intro p hp'
       rcases List.mem_cons.1 hp' with rfl | hp'
       ·exact hcs
       ·exact ho p (by simp [hp'])
      ·intro m hm
       simp only [dQ,← hd]
       rw [if_neg (by omega),if_neg (by omega)]
     split at h
     ·rename_i l' hl
      simp only [Option.some.injEq] at h
      subst h
      have hd:=iW hp hd
      rw [lN,beq_eq_false_iff_ne,hi] at hd
      obtain⟨g1,g2,g3⟩:=LM hp hi hcs hl fun p hp'=>ho p (by simp [hp'])
      refine⟨?_,?_,?_⟩
      ·intro p hp'
       rcases List.mem_cons.1 hp' with rfl | hp'
       ·exact ho _ (by simp)
       ·exact g1 p hp'
      ·simp only [dQ]
       rw [if_neg (fun q=>hd q.symm)]
       exact g2
      ·intro m hm
       simp only [dQ]
       split
       ·rfl
       ·exact g3 m hm
     ·simp at h
    ·simp at h
theorem RN {ρ:Nat→Int} {pc:List (SB×Bool)} (hp:bI ρ pc) {i:SE} {k:Nat} (hi:i.den ρ=(k:Int)): ∀{ov:List (SE×List AV)},BX pc i ov=true→dQ ρ k ov=none
 | [],_=>rfl
 | (j,c) :: l,h=>by
   simp only [BX] at h
   split at h
   ·rename_i hd
    have hd:=iW hp hd
    rw [lN,beq_eq_false_iff_ne,hi] at hd
    simp only [dQ]
    rw [if_neg (fun q=>hd q.symm)]
    exact RN hp hi h
   ·simp at h
theorem OR.congr {h:Array Obj} {id:Nat} {a b:List AV} {ty:TypeId} (ho:OR E h id (.cells a ty)) (hl:b.length=a.length) (hv: ∀us,bJ E h a us→bJ E h b us):OR E h id (.cells b ty):=by
 simp only [OR] at ho ⊢
 obtain⟨arr,lo,hi,us,q1,q2,q3,q4,q5,q6,q7⟩:=ho
 exact⟨arr,lo,hi,us,q1,hv us q2,q3,by rw [hl]; exact q4,q5,q6,q7⟩
set_option maxHeartbeats 800000 in
theorem WB [Glob] {E1:En} {tt:TT} (htt:eG P tt) {s s':St} (r1:bG E1 s.h w) (hp:bI E1.ρ s.pc) {ty id es:Nat} {i:SE} {off:Nat} {one:Bool} {vs:List AV} {v':AV} {u x:Value} (hx:VR E1 w.heap (.pY id es i off) u)
 (hcv:one=true→bJ E1 w.heap vs x.cells.toList∧∀u∈x.cells.toList,u.oneCell'=true) (h:(Nu tt s ty id es i off one vs).leaf E1.ρ=some (v',s')) :
 s'.slots=s.slots∧bI E1.ρ s'.pc∧v'=AV.undef∧∃w' E',(Instr.storeAt ty u x).run P w= .ok () w'∧Stp E1 s.h w E' s'.h w'∧bG E' s'.h w':=by
 unfold Nu at h
 split at h
 ·rename_i o hl
  split at h
  ·rename_i e t Ho ov
   split at h
   ·rename_i ti hti
    split at h
    ·rename_i hcond
     obtain⟨hes,hvl,hone⟩:=hcond
     obtain⟨pc0,hp0,t1,t2,h3⟩:=rF hp h
     obtain⟨pc',hp',h3⟩:=Cc (s:={ s with pc:=pc0 }) hp0 h3
     split at h3
     ·rename_i cs hc
      split at h3
      ·rename_i cs' hs
       obtain⟨hvs,alV⟩:=hcv hone
       have hx1:=hx
       simp only [VR] at hx1
       obtain⟨hid,k,hk,rfl⟩:=hx1
       obtain⟨rc,ho,hwf⟩:=r1.yB hl
       rw [dD] at t2
       have hlt:k < (dec (e.den E1.ρ)).l.length:=by omega
       have hd:(dec (e.den E1.ρ)).l[k]?=some (dec (e.den E1.ρ)).l[k]:=List.getElem?_eq_getElem hlt
       generalize hxk:(dec (e.den E1.ρ)).l[k]=xk at hd
       obtain⟨c1,c2⟩:=lC (ρ:=E1.ρ) ho (j:=0) hd
       rw [Nat.zero_add] at c1
       generalize hpre:aK E1.ρ (rowOf t) ov ((dec (e.den E1.ρ)).l.take k) 0=pre at c1 c2
       generalize hpost:aK E1.ρ (rowOf t) ov ((dec (e.den E1.ρ)).l.drop (k+1)) (k+1)=post at c1
       have hrow:(∀h us,bJ E1 h (match dQ E1.ρ k ov with | some cs=>cs | none=>jB (rowOf t) (.dat xk)) us↔bJ E1 h cs us)∧cs.length=(rowOf t).es:=by
        rcases rV hp' hk hc with g | ⟨g,rfl⟩
        ·rw [g]
         obtain⟨p,p1,p2,_⟩:=nK g
         have:=ho p p1
         rw [p2] at this
         exact⟨fun _ _=>Iff.rfl,this⟩
        ·rw [g]
         refine⟨fun h us=>Eh ?_,jH _ _⟩
         rw [IJ E1.ρ e i hk hd]
         simp only [SE.den,aC]
       obtain⟨hrv,hcl⟩:=hrow
       have hcl':cs'.length=(rowOf t).es:=by rw [oJ hs,hcl]
       have hor:OR E1 w.heap id (.cells (pre++(cs++post)) Ho):=by
        have:=(rc.live id _ (by rw [Hp.get_put,if_pos rfl])).2.1
        unfold dN at this
        rw [c1] at this
        refine OR.congr this ?_ ?_
        ·simp only [List.length_append,hcl]
         congr 2
         split
         ·rename_i cs0 h0
          obtain⟨p,p1,p2,_⟩:=nK h0
          have:=ho p p1
          rw [p2] at this
          exact this.symm
         ·rw [jH]
        ·intro us q2
         obtain⟨a,b,rfl,a1,a2⟩:=q2.split
         obtain⟨a',b',rfl,b1,b2⟩:=a2.split
         exact a1.append (((hrv _ _).1 b1).append b2)
       have r2:=r1.swap (H2:=s.h.put id (.cells (pre++(cs++post)) Ho)) hl hor (by rw [Hp.get_put,if_pos rfl]) (fun j hj=>by rw [Hp.get_put,if_neg hj]) rfl rfl
       have hs2:splice (pre++(cs++post)) (k*es+off) vs=some (pre++(cs'++post)):=by
        rw [← hes,← c2]
        exact yO pre (rU post hs)
       obtain⟨w',g1,g2,g3⟩:=oP (P:=P) r2 (by rw [Hp.get_put,if_pos rfl]) hs2 hvs alV
       have hlen:x.cells.size=ti.size:=by have:=hvs.length; simp only [Array.length_toList] at this; omega
       have hrun:(Instr.storeAt ty (.pointer (some ⟨(E1.θ id).1,(E1.θ id).2+(k*es+off),none⟩)) x).run P w= .ok () w':=by
        simp [Instr.storeAt,Instr.sureAddr,storeVar,dX (htt ty ti hti),hlen,g1]
       have fin: ∀(o':dW),OR E1 w'.heap id o'→∃w' E',(Instr.storeAt ty (.pointer (some ⟨(E1.θ id).1,(E1.θ id).2+(k*es+off),none⟩)) x).run P w= .ok () w'∧Stp E1 s.h w E' (s.h.put id o') w'∧bG E' (s.h.put id o') w':=by
        intro o' ho'
        have al1:U4 (s.h.put id (.cells (pre++(cs++post)) Ho)) s.h:=(U4.put hl).symm
        have al2:U4 ((s.h.put id (.cells (pre++(cs++post)) Ho)).put id (.cells (pre++(cs'++post)) Ho)) (s.h.put id o'):=by
         refine⟨fun j y hj=>?_,fun j y hj=>?_,rfl,rfl⟩
         ·rw [Hp.get_put]
          split
          ·exact⟨o',rfl⟩
          ·rename_i hne
           rw [Hp.get_put,if_neg hne,Hp.get_put,if_neg hne] at hj
           exact⟨y,hj⟩
         ·rw [Hp.get_put] at hj ⊢
          split
          ·exact⟨_,rfl⟩
          ·rename_i hne
           rw [if_neg hne] at hj
           rw [Hp.get_put,if_neg hne]
           exact⟨y,hj⟩
        refine⟨w',E1,hrun,(g2.left al1).right al2,?_⟩
        exact g3.swap (id:=id) (by rw [Hp.get_put,if_pos rfl]) ho' (by rw [Hp.get_put,if_pos rfl]) (fun j hj=>by rw [Hp.get_put,if_neg hj,Hp.get_put,if_neg hj,Hp.get_put,if_neg hj]) rfl rfl
       have hcells:=(g3.live id _ (by rw [Hp.get_put,if_pos rfl])).2.1
       have apart: ∀vM:List (SE×List AV),FB (rowOf t) vM→dQ E1.ρ k vM=some cs'→(∀j:Nat,j≠k→dQ E1.ρ j vM=dQ E1.ρ j ov)→OR E1 w'.heap id (.vec e t Ho vM):=by
        intro vM q1 q2 q3
        refine OR.yB.2 ⟨⟨q1,hwf⟩,?_⟩
        have:dN E1.ρ e t vM=pre++(cs'++post):=by
         unfold dN
         obtain⟨d1,_⟩:=lC (ρ:=E1.ρ) q1 (j:=0) hd
         rw [Nat.zero_add,q2] at d1
         rw [d1,← hpre,← hpost]
         congr 1
         ·refine nC _ _ fun j _ hj=>q3 j ?_
          rw [List.length_take] at hj
          omega
         ·congr 1
          exact nC _ _ fun j hj _=>q3 j (by omega)
        rw [this]
        exact hcells
       split at h3
       ·rename_i vM hov
        have:=aF h3
        simp only [Prod.mk.injEq] at this
        obtain⟨rfl,rfl⟩:=this
        refine⟨rfl,hp',rfl,?_⟩
        obtain⟨q1,q2,q3⟩:=LM hp' hk hcl' hov ho
        exact fin _ (apart vM q1 q2 q3)
       ·split at h3
        ·rename_i habs
         have hnone:=RN hp' hk habs
         split at h3
         ·rename_i e' hset
          have:=aF h3
          simp only [Prod.mk.injEq] at this
          obtain⟨rfl,rfl⟩:=this
          refine⟨rfl,hp',rfl,fin _ ?_⟩
          have hxm:xk∈(dec (e.den E1.ρ)).l:=List.mem_of_getElem? hd
          have hle:off+vs.length≤(rowOf t).es:=by
           rw [← hcl]
           rcases Nat.eq_zero_or_pos vs.length with hz | hz
           ·have aDc:=List.eq_nil_of_length_eq_zero hz
            subst aDc
            have: ∀(l c:List AV) (o:Nat),splice c o []=some l→o≤c.length:=by
             intro l c
             induction c generalizing l with
             | nil=>intro o ho; cases o with | zero=>exact Nat.zero_le _ | succ o=>simp [splice] at ho
             | cons a c ih=>
               intro o ho
               cases o with
               | zero=>exact Nat.zero_le _
               | succ o=>
                 simp only [splice] at ho
                 split at ho
                 ·rename_i l' hl'
                  have:=ih l' o hl'
                  simp; omega
                 ·simp at ho
            have:=this _ _ _ hs
            simpa using this
           ·have:=wX hs (off+vs.length - 1)
            rw [if_pos (by omega)] at this
            have hsome:(vs[off+vs.length - 1 - off]?).isSome=true:=by
             rw [List.getElem?_eq_getElem (by omega)]; rfl
            rw [← this] at hsome
            obtain⟨y,hy⟩:=Option.isSome_iff_exists.1 hsome
            have:=(List.getElem?_eq_some_iff.1 hy).1
            rw [oJ hs] at this
            omega
          obtain⟨x',z1,z2,z3⟩:=Zx hset hk hd (hwf.2.1 xk hxm) hle
          refine OR.yB.2 ⟨⟨ho,?_⟩,?_⟩
          ·rw [z1]
           refine⟨by rw [aX],fun y hy=>?_,by rw [aX]; intro q; have:=congrArg List.length q; simp at this; exact hwf.2.2 this⟩
           rw [aX] at hy
           rcases List.mem_or_eq_of_mem_set hy with hy | rfl
           ·exact hwf.2.1 y hy
           ·exact z2
          ·have hd':(dec (e'.den E1.ρ)).l[k]?=some x':=by
            rw [z1,aX,List.getElem?_set_self hlt]
           obtain⟨d1,d2⟩:=lC (ρ:=E1.ρ) ho (j:=0) hd'
           rw [Nat.zero_add,hnone] at d1
           have acB:dN E1.ρ e' t ov=pre++(jB (rowOf t) (.dat x')++post):=by
            unfold dN
            rw [d1,← hpre,← hpost,z1,aX]
            congr 1
            ·rw [List.take_set_of_le (Nat.le_refl _)]
            ·congr 1
             rw [List.drop_set_of_lt (by omega)]
           rw [acB]
           refine OR.congr hcells (by simp only [List.length_append,jH,hcl']) fun us q2=>?_
           obtain⟨a,b,rfl,a1,a2⟩:=q2.split
           obtain⟨a',b',rfl,b1,b2⟩:=a2.split
           refine a1.append (bJ.append ?_ b2)
           rw [gV]
           simp only [SE.den,aC]
           have aDk:cs=jB (rowOf t) (.op .at e i):=by
            rcases rV hp' hk hc with g | ⟨g,g'⟩
            ·rw [hnone] at g; simp at g
            ·exact g'
           refine z3 _ a' (by rw [b1.length,hcl']) ?_ ?_
           ·intro j vj uj hj1 hj2 hj3
            have hjl:=(List.getElem?_eq_some_iff.1 hj2).1
            have:=wX hs j
            rw [if_pos (by omega),hj2] at this
            obtain⟨y,y1,y2⟩:=b1.nth (by rw [dB]; exact this)
            rw [hj3] at y1
            simp only [Option.some.injEq] at y1
            subst y1
            exact y2
           ·intro j aj uj hj1 hj2 hj3
            have:=wX hs j
            rw [if_neg (by omega),aDk,hj2] at this
            obtain⟨y,y1,y2⟩:=b1.nth (by rw [dB]; exact this)
            rw [hj3] at y1
            simp only [Option.some.injEq] at y1
            subst y1
            exact y2
         ·have:=aF h3
          simp only [Prod.mk.injEq] at this
          obtain⟨rfl,rfl⟩:=this
          refine⟨rfl,hp',rfl,fin _ (apart _ ?_ ?_ ?_)⟩
          ·intro p hp'
           rcases List.mem_cons.1 hp' with rfl | hp'
           ·exact hcl'
           ·exact ho p hp'
          ·simp only [dQ]
           rw [if_pos hk]
          ·intro j hj
           simp only [dQ]
           rw [if_neg (by omega)]
        ·simp [T.leaf] at h3
      ·simp [T.leaf] at h3
     ·simp [T.leaf] at h3
    ·simp [T.leaf] at h
   ·simp [T.leaf] at h
  ·simp [T.leaf] at h
 ·simp [T.leaf] at h
theorem atE {E1:En} {h:Array Obj} {c:CK} {v:AV} {u:Value} (hv:VR E1 h v u):VR E1 h (aAN c v) u:=by
 unfold aAN
 split
 ·split
  ·simp only [VR] at hv ⊢
   subst hv
   exact⟨⟨none,rfl⟩,by simp only [SE.den,aC]; exact .nil _⟩
  ·split
   ·split
    ·split
     ·simp only [VR] at hv ⊢
      obtain⟨_,a,cap,rfl,_,hc⟩:=hv
      simp only [fJ] at hc
      obtain⟨rfl,_⟩:=hc
      exact⟨⟨some a,rfl⟩,by simp only [SE.den,aC]; exact .non _ _ _⟩
     ·exact hv
    ·exact hv
   ·exact hv
  ·exact hv
 ·exact hv
theorem QV {E1:En} {h:Array Obj}: ∀(cs:List CK) {vs:List AV} {us:List Value},bJ E1 h vs us→bJ E1 h (Wp cs vs) us
 | [],vs,us,hv=>hv
 | _ :: _,[],us,hv=>hv
 | c :: cs,v :: vs,us,hv=>by
   rw [aW] at hv
   obtain⟨u,us',rfl,h1,h2⟩:=hv
   simp only [Wp]
   rw [aW]
   exact⟨u,us',rfl,atE h1,QV cs h2⟩
set_option maxHeartbeats 800000 in
theorem WA [Glob] {E1:En} {tt:TT} (htt:eG P tt) {s s':St} (r1:bG E1 s.h w) (hp:bI E1.ρ s.pc) {ty id es:Nat} {i j0:SE} {off:Nat} {one:Bool} {vs:List AV} {v':AV} {u x:Value} (hx:VR E1 w.heap (.pY id es i off) u)
 (hcv:one=true→bJ E1 w.heap vs x.cells.toList∧∀u∈x.cells.toList,u.oneCell'=true) (h:(Ns tt s ty id es i j0 off one vs).leaf E1.ρ=some (v',s')) :
 s'.slots=s.slots∧bI E1.ρ s'.pc∧v'=AV.undef∧∃w' E',(Instr.storeAt ty u x).run P w= .ok () w'∧Stp E1 s.h w E' s'.h w'∧bG E' s'.h w':=by
 unfold Ns at h
 split at h
 ·rename_i o hl
  split at h
  ·rename_i e t Ho ov
   split at h
   ·rename_i ti hti
    split at h
    ·rename_i hcond
     obtain⟨hes,hvl,hone⟩:=hcond
     obtain⟨pc0,hp0,t1,t2,h3⟩:=rF hp h
     obtain⟨pc',hp',h3⟩:=Cc (s:={ s with pc:=pc0 }) hp0 h3
     split at h3
     ·rename_i hdb
      have hij:=iW hp' hdb
      split at h3
      ·rename_i cs hc
       split at h3
       ·rename_i cs' hs
        obtain⟨aDb,alV⟩:=hcv hone
        have hvs:=QV ((Yk (rowOf t)).drop off) aDb
        have hx1:=hx
        simp only [VR] at hx1
        obtain⟨hid,k,hk,rfl⟩:=hx1
        simp only [SB.den,beq_iff_eq] at hij
        have hk2:j0.den E1.ρ=(k:Int):=by rw [← hij]; exact hk
        obtain⟨rc,ho,hwf⟩:=r1.yB hl
        rw [dD] at t2
        have hlt:k < (dec (e.den E1.ρ)).l.length:=by omega
        have hd:(dec (e.den E1.ρ)).l[k]?=some (dec (e.den E1.ρ)).l[k]:=List.getElem?_eq_getElem hlt
        generalize hxk:(dec (e.den E1.ρ)).l[k]=xk at hd
        obtain⟨c1,c2⟩:=lC (ρ:=E1.ρ) ho (j:=0) hd
        rw [Nat.zero_add] at c1
        generalize hpre:aK E1.ρ (rowOf t) ov ((dec (e.den E1.ρ)).l.take k) 0=pre at c1 c2
        generalize hpost:aK E1.ρ (rowOf t) ov ((dec (e.den E1.ρ)).l.drop (k+1)) (k+1)=post at c1
        have hrow:(∀h us,bJ E1 h (match dQ E1.ρ k ov with | some cs=>cs | none=>jB (rowOf t) (.dat xk)) us↔bJ E1 h cs us)∧cs.length=(rowOf t).es:=by
         rcases rV hp' hk2 hc with g | ⟨g,rfl⟩
         ·rw [g]
          obtain⟨p,p1,p2,_⟩:=nK g
          have:=ho p p1
          rw [p2] at this
          exact⟨fun _ _=>Iff.rfl,this⟩
         ·rw [g]
          refine⟨fun h us=>Eh ?_,jH _ _⟩
          rw [IJ E1.ρ e j0 hk2 hd]
          simp only [SE.den,aC]
        obtain⟨hrv,hcl⟩:=hrow
        have hcl':cs'.length=(rowOf t).es:=by rw [oJ hs,hcl]
        have hor:OR E1 w.heap id (.cells (pre++(cs++post)) Ho):=by
         have:=(rc.live id _ (by rw [Hp.get_put,if_pos rfl])).2.1
         unfold dN at this
         rw [c1] at this
         refine OR.congr this ?_ ?_
         ·simp only [List.length_append,hcl]
          congr 2
          split
          ·rename_i cs0 h0
           obtain⟨p,p1,p2,_⟩:=nK h0
           have:=ho p p1
           rw [p2] at this
           exact this.symm
          ·rw [jH]
         ·intro us q2
          obtain⟨a,b,rfl,a1,a2⟩:=q2.split
          obtain⟨a',b',rfl,b1,b2⟩:=a2.split
          exact a1.append (((hrv _ _).1 b1).append b2)
        have r2:=r1.swap (H2:=s.h.put id (.cells (pre++(cs++post)) Ho)) hl hor (by rw [Hp.get_put,if_pos rfl]) (fun j hj=>by rw [Hp.get_put,if_neg hj]) rfl rfl
        have hs2:splice (pre++(cs++post)) (k*es+off) (Wp ((Yk (rowOf t)).drop off) vs)=some (pre++(cs'++post)):=by
         rw [← hes,← c2]
         exact yO pre (rU post hs)
        obtain⟨w',g1,g2,g3⟩:=oP (P:=P) r2 (by rw [Hp.get_put,if_pos rfl]) hs2 hvs alV
        have hlen:x.cells.size=ti.size:=by have:=aDb.length; simp only [Array.length_toList] at this; omega
        have hrun:(Instr.storeAt ty (.pointer (some ⟨(E1.θ id).1,(E1.θ id).2+(k*es+off),none⟩)) x).run P w= .ok () w':=by
         simp [Instr.storeAt,Instr.sureAddr,storeVar,dX (htt ty ti hti),hlen,g1]
        have fin: ∀(o':dW),OR E1 w'.heap id o'→∃w' E',(Instr.storeAt ty (.pointer (some ⟨(E1.θ id).1,(E1.θ id).2+(k*es+off),none⟩)) x).run P w= .ok () w'∧Stp E1 s.h w E' (s.h.put id o') w'∧bG E' (s.h.put id o') w':=by
         intro o' ho'
         have al1:U4 (s.h.put id (.cells (pre++(cs++post)) Ho)) s.h:=(U4.put hl).symm
         have al2:U4 ((s.h.put id (.cells (pre++(cs++post)) Ho)).put id (.cells (pre++(cs'++post)) Ho)) (s.h.put id o'):=by
          refine⟨fun j y hj=>?_,fun j y hj=>?_,rfl,rfl⟩
          ·rw [Hp.get_put]
           split
           ·exact⟨o',rfl⟩
           ·rename_i hne
            rw [Hp.get_put,if_neg hne,Hp.get_put,if_neg hne] at hj
            exact⟨y,hj⟩
          ·rw [Hp.get_put] at hj ⊢
           split
           ·exact⟨_,rfl⟩
           ·rename_i hne
            rw [if_neg hne] at hj
            rw [Hp.get_put,if_neg hne]
            exact⟨y,hj⟩
         refine⟨w',E1,hrun,(g2.left al1).right al2,?_⟩
         exact g3.swap (id:=id) (by rw [Hp.get_put,if_pos rfl]) ho' (by rw [Hp.get_put,if_pos rfl]) (fun j hj=>by rw [Hp.get_put,if_neg hj,Hp.get_put,if_neg hj,Hp.get_put,if_neg hj]) rfl rfl
        have hcells:=(g3.live id _ (by rw [Hp.get_put,if_pos rfl])).2.1
        have apart: ∀vM:List (SE×List AV),FB (rowOf t) vM→dQ E1.ρ k vM=some cs'→(∀j:Nat,j≠k→dQ E1.ρ j vM=dQ E1.ρ j ov)→OR E1 w'.heap id (.vec e t Ho vM):=by
         intro vM q1 q2 q3
         refine OR.yB.2 ⟨⟨q1,hwf⟩,?_⟩
         have:dN E1.ρ e t vM=pre++(cs'++post):=by
          unfold dN
          obtain⟨d1,_⟩:=lC (ρ:=E1.ρ) q1 (j:=0) hd
          rw [Nat.zero_add,q2] at d1
          rw [d1,← hpre,← hpost]
          congr 1
          ·refine nC _ _ fun j _ hj=>q3 j ?_
           rw [List.length_take] at hj
           omega
          ·congr 1
           exact nC _ _ fun j hj _=>q3 j (by omega)
         rw [this]
         exact hcells
        split at h3
        ·rename_i vM hov
         have:=aF h3
         simp only [Prod.mk.injEq] at this
         obtain⟨rfl,rfl⟩:=this
         refine⟨rfl,hp',rfl,?_⟩
         obtain⟨q1,q2,q3⟩:=LM hp' hk2 hcl' hov ho
         exact fin _ (apart vM q1 q2 q3)
        ·split at h3
         ·rename_i habs
          have:=aF h3
          simp only [Prod.mk.injEq] at this
          obtain⟨rfl,rfl⟩:=this
          refine⟨rfl,hp',rfl,fin _ (apart _ ?_ ?_ ?_)⟩
          ·intro p hp'
           rcases List.mem_cons.1 hp' with rfl | hp'
           ·exact hcl'
           ·exact ho p hp'
          ·simp only [dQ]
           rw [if_pos hk2]
          ·intro j hj
           simp only [dQ]
           rw [if_neg (by omega)]
         ·simp [T.leaf] at h3
       ·simp [T.leaf] at h3
      ·simp [T.leaf] at h3
     ·simp [T.leaf] at h3
    ·simp [T.leaf] at h
   ·simp [T.leaf] at h
  ·simp [T.leaf] at h
 ·simp [T.leaf] at h
theorem WC [Glob] {tt:TT} (htt:eG P tt) {s s':St} (r:bG E s.h w) (hp:bI E.ρ s.pc) {ty id es:Nat} {i:SE} {off:Nat} {v v':AV} {u x:Value} (hx:VR E w.heap (.pY id es i off) u) (hv:VR E w.heap v x) (h:(Nv tt s ty id es i off v).leaf E.ρ=some (v',s')) :
 s'.slots=s.slots∧bI E.ρ s'.pc∧v'=AV.undef∧∃w' E',(Instr.storeAt ty u x).run P w= .ok () w'∧Stp E s.h w E' s'.h w'∧bG E' s'.h w':=by
 unfold Nv at h
 split at h
 ·exact WA htt r hp hx (fun hone=> ⟨hv.cells hone,(hv.cells hone).ones hone⟩) h
 ·obtain⟨vs,h1,pc1,E1,hp1,f,q,g⟩:=xX rfl r hp h
  have hρ:=f.ρ
  rw [← hρ] at hp1 g
  obtain⟨a1,a2,a3,w',E',a4,a5,a6⟩:=WB htt (s:={ s with h:=h1,pc:=pc1 }) f.rel hp1 (VR.keep (f.eF.keeps r) _ _ hx) (fun hone=> ⟨q _ (hv.cells hone),(hv.cells hone).ones hone⟩) g
  exact⟨a1,by rw [← hρ]; exact a2,a3,w',E',a4,f.eF.trans a5,a6⟩
end
end Go.As
end
section
namespace Go.As
section
variable {P:Program} {E:En} {w:World}
theorem DI.length {ro:Nat→Prop} {h:Array Obj} {r:Row} {d:D} {us:List Value} (hh:DI ro h r d us):us.length=r.es:=by
 cases r with
 | one c=>obtain⟨u,rfl,_⟩:=hh; rfl
 | many cs=>exact dO.length hh
theorem iC.append {h:Array Obj} {b o:Nat} {us vs:List Value} (h1:iC h b o us) (h2:iC h b (o+us.length) vs):iC h b o (us++vs):=by
 intro i u hi
 rw [List.getElem?_append] at hi
 split at hi
 ·exact h1 i u hi
 ·rename_i hlt
  have:=h2 _ u hi
  rw [show o+us.length+(i - us.length)=o+i by omega] at this
  exact this
theorem Ls {ro:Nat→Prop} (hro:ro=E.ro) {h:Array Obj} {r:Row} {b o:Nat}: ∀(L:List D) (j:Nat),(∀i x,L[i]?=some x→∃us,DI ro h r x us∧iC h b (o+(j+i)*r.es) us)→
 ∃us,bJ E h (aK E.ρ r [] L j) us∧iC h b (o+j*r.es) us∧us.length=L.length*r.es∧∀u∈us,u.oneCell'=true
 | [],j,_=> ⟨[],by simp [aK,bJ],fun i u hi=>by simp at hi,by simp,by simp⟩
 | d :: L,j,hh=>by
   subst hro
   obtain⟨a,a1,a2⟩:=hh 0 d rfl
   obtain⟨b',b1,b2,b3,b4⟩:=Ls rfl L (j+1) fun i x hi=>by
    have:=hh (i+1) x (by simpa using hi)
    rw [show j+(i+1)=j+1+i by omega] at this
    exact this
   have hal:=a1.length
   refine⟨a++b',?_,?_,?_,?_⟩
   ·simp only [aK,dQ]
    refine bJ.append ?_ b1
    rw [gV]
    simpa only [SE.den,aC] using a1
   ·rw [Nat.add_zero] at a2
    refine a2.append ?_
    rw [hal,show o+j*r.es+r.es=o+(j+1)*r.es by rw [Nat.add_mul]; omega]
    exact b2
   ·rw [List.length_append,hal,b3,List.length_cons,Nat.add_mul]; omega
   ·intro u hu
    rcases List.mem_append.1 hu with hu | hu
    ·exact a1.ones u hu
    ·exact b4 u hu
theorem avC {t:Nat} {d:D} {u:Value} (hr:Rd E.ro w.heap (.sl t) d u) (hne:d.l≠[]): ∃us,Src P E w (rowOf t).es d.l.length (aK E.ρ (rowOf t) [] d.l 0) u us:=by
 obtain⟨x,hx⟩ : ∃x,d.l[0]?=some x:=by
  cases h:d.l with
  | nil=>exact absurd h hne
  | cons a l=>exact⟨a,rfl⟩
 obtain⟨b,o,cap,us0,rfl,hb,_,_⟩:=hr.row hx
 obtain⟨us,h1,h2,h3,h4⟩:=Ls (E:=E) (ro:=E.ro) rfl (h:=w.heap) (r:=rowOf t) (b:=b) (o:=o) d.l 0 fun i x hi=>by
  obtain⟨b',o',cap',us',he,_,g1,g2⟩:=hr.row hi
  simp only [Value.slice.injEq,Option.some.injEq,Addr.mk.injEq] at he
  obtain⟨⟨rfl,rfl,_⟩,_,_⟩:=he
  exact⟨us',g1,by rw [Nat.zero_add]; exact g2⟩
 rw [Nat.zero_mul,Nat.add_zero] at h2
 exact⟨us.toArray,fun _=>rfl,fun w2 hw=>by simp only [Builtin.firstCells]; exact h2.loads h3 w2 hw,by simpa using h1,by simpa using h3,by simpa using h4⟩
structure Grown (ρ:Nat→Int) (r:Row) (e0 e1:SE) (ds:List D) (news:List AV):Prop where
 l:(dec (e1.den ρ)).l=(dec (e0.den ρ)).l++ds
 wf:dec (e1.den ρ)=dL (dec (e1.den ρ)).l
 rows: ∀d∈ds,wF r d
 vr: ∀(E':En) (h:Array Obj) (us:List Value) (j:Nat),E'.ρ=ρ→bJ E' h news us→bJ E' h (aK ρ r [] ds j) us
theorem mV (r:Row):FB r []:=fun p hp=>by simp at hp
theorem J6 [Glob] {E':En} {H0:Hp} {w':World} {cells:List AV} {e:TypeId} {e1:SE} {t:Nat} (r:bG E' (H0.new (.cells cells e)) w') (hwf:Jz (rowOf t) (dec (e1.den E'.ρ))) (hl:(dN E'.ρ e1 t []).length=cells.length)
 (hv: ∀us,bJ E' w'.heap cells us→bJ E' w'.heap (dN E'.ρ e1 t []) us):bG E' (H0.new (.vec e1 t e [])) w':=by
 have hg:(H0.new (.cells cells e)).get H0.fresh=some (.cells cells e):=by rw [Hp.lZ,if_pos rfl]
 refine r.swap hg (OR.yB.2 ⟨⟨mV _,hwf⟩,OR.congr (r.live _ _ hg).2.1 hl hv⟩) (by rw [Hp.lZ,if_pos rfl]) (fun j hj=>by rw [Hp.lZ,if_neg hj,Hp.lZ,if_neg hj]) ?_ ?_
 ·unfold Hp.new; split <;> rfl
 ·unfold Hp.new; split <;> rfl
theorem J7 {H0 H1:Hp} {o o':dW} (hn:H1.next=H0.next) (hr:H1.res=H0.res) (hg: ∀j,(H0.get j).isSome=(H1.get j).isSome):U4 (H0.new o) (H1.new o'):=by
 have hf:H1.fresh=H0.fresh:=by unfold Hp.fresh; rw [hn,hr]
 have key: ∀{A B:Option dW} {x:dW},A.isSome=B.isSome→A=some x→∃y,B=some y:=by
  intro A B x h1 h2
  rw [h2] at h1
  exact Option.isSome_iff_exists.1 h1.symm
 refine⟨fun j x hj=>?_,fun j x hj=>?_,?_,?_⟩
 ·rw [Hp.lZ] at hj ⊢
  rw [hf]
  split
  ·exact⟨o',rfl⟩
  ·rename_i hne
   rw [if_neg hne] at hj
   exact key (hg j) hj
 ·rw [Hp.lZ] at hj ⊢
  rw [hf] at hj
  split
  ·exact⟨o,rfl⟩
  ·rename_i hne
   rw [if_neg hne] at hj
   exact key (hg j).symm hj
 ·unfold Hp.new
  rw [hr]
  split <;> simp [hn]
 ·unfold Hp.new
  rw [hr]
  split <;> simp
set_option maxHeartbeats 800000 in
theorem EM [Glob] {t t2 ty:Nat} {H h0:Hp} (r:bG E H w) {ie:TI} {e m:Nat} {own:Option Nat} {news:List AV} {x:AV} {d2:TypeDesc} {u u2:Value} {us:Array Value} (hte:tX P e ie)
 (ht:P.underlying t=some (.slice e)) (ht2:P.underlying t2=some d2) (hd2: ∀k,d2≠.int k) (hs0:ie.size≠0) (hb0:ie.bytes≠0) (hzl:ie.zero.length=ie.size) (hb4:ie.bytes≤400)
 (src:Src P E w ie.size m news u2 us) (hm:0 < m) (hx:VR E w.heap x u) {e0 e1:SE} {t':Nat} (hb:BQ e own x H=some (e0,t',h0)) (hes:(rowOf t').es=ie.size) {ds:List D} (g:Grown E.ρ (rowOf t') e0 e1 ds news) (hds:ds.length=m)
 (hlim:((dec (e0.den E.ρ)).l.length+m)*ie.bytes≤140737488355328) :
 ∃y w' E',(Builtin.append_ #[t,t2] ty #[u,u2]).run P w= .ok y w'∧Stp E H w E' (h0.new (.vec e1 t' e [])) w'∧bG E' (h0.new (.vec e1 t' e [])) w'∧VR E' w'.heap (.uK h0.fresh (eP e1) t') y:=by
 have hbound: ∀k,k≤(dec (e0.den E.ρ)).l.length→(k+m)*ie.bytes≤140737488355328:=by
  intro k hk
  exact Nat.le_trans (Nat.mul_le_mul_right _ (by omega)) hlim
 have hnl:news.length=m*ie.size:=by
  have h1:=src.vrs.length
  have h2:=src.size
  simp only [Array.length_toList] at h1
  omega
 have fresh0: ∀(a:Option Addr),u= .slice a 0 0→h0=H→(dec (e0.den E.ρ)).l= []→
  ∃y w' E',(Builtin.append_ #[t,t2] ty #[u,u2]).run P w= .ok y w'∧Stp E H w E' (h0.new (.vec e1 t' e [])) w'∧bG E' (h0.new (.vec e1 t' e [])) w'∧VR E' w'.heap (.uK h0.fresh (eP e1) t') y:=by
  intro a hu he hnil
  subst hu he
  have hgl:wK ie e 0 m news h0=some (.slice h0.fresh 0 (0+m) (.rest ie.size),h0.new (.cells news e)):=by
   unfold wK
   rw [if_pos (hbound 0 (by omega))]
  obtain⟨y,w',E',p1,p2,p3,p4⟩:=xU (t:=t) (t2:=t2) (ty:=ty) (cap:=0) r hte ht ht2 hd2 hb0 hzl src (by omega) a (old:=[]) (olds:=#[]) (cs:=news) (by simp) (by simp [bJ]) (by simp) (by simp)
   (fun w2 _=>by
    cases a with
    | none=>simp [Builtin.firstCells]
    | some a=>simp only [Builtin.firstCells,Nat.zero_mul]; rfl) hgl
  have hρ:=p2.ρ
  have hl1:(dec (e1.den E'.ρ)).l=ds:=by rw [hρ,g.l,hnil,List.nil_append]
  have hwf:Jz (rowOf t') (dec (e1.den E'.ρ)):=by
   refine⟨by rw [hρ]; exact g.wf,fun d hd=>?_,by rw [hl1]; intro q; rw [q] at hds; simp at hds; omega⟩
   rw [hl1] at hd
   exact g.rows d hd
  refine⟨y,w',E',p1,p2.right (J7 rfl rfl fun _=>rfl),J6 p3 hwf ?_ ?_,?_⟩
  ·unfold dN
   rw [bU (mV _),hl1,hds,hes,hnl]
  ·intro us' hus
   unfold dN
   rw [hl1,hρ]
   exact g.vr E' w'.heap us' 0 hρ hus
  ·simp only [VR] at p4 ⊢
   obtain⟨q1,a',cap',q2,q3,q4⟩:=p4
   refine⟨q1,0+m,a',cap',?_,q2,q3,?_⟩
   ·rw [dD,hl1,hds,Nat.zero_add]
   ·rw [hes]; exact q4
 unfold BQ at hb
 split at hb
 ·rename_i id n t0
  split at hb
  ·rename_i o hl
   split at hb
   ·rename_i Zt t00 Hq ov
    split at hb
    ·split at hb
     ·rename_i ht0
      split at hb
      ·rename_i hty
       split at hb
       ·rename_i hn
        simp only [Option.some.injEq,Prod.mk.injEq] at hb
        obtain⟨rfl,rfl,rfl⟩:=hb
        have ht0:=Nat.eq_of_beq_eq_true ht0
        have hty:=Nat.eq_of_beq_eq_true hty
        have hn:=bW _ _ hn
        subst ht0 hty hn
        obtain⟨r2,_,aEU⟩:=r.yB hl
        simp only [VR] at hx
        obtain⟨hid,k,a,cap,hk,rfl,hkc,hcap⟩:=hx
        rw [dD] at hk
        have hk:k=(dec (Zt.den E.ρ)).l.length:=by omega
        have hx2:VR E w.heap (.slice id 0 k (.rest ie.size)) (.slice (some a) k cap):=by
         simp only [VR]
         exact⟨hid,a,cap,rfl,hkc,by rw [← hes]; exact hcap⟩
        have hcl:(dN E.ρ Zt t0 []).length=k*ie.size:=by
         unfold dN
         rw [bU (mV _),hes,hk]
        have aFy:0 < m*ie.size:=Nat.mul_pos hm (by omega)
        have happ:BR ie Hq m news (.slice id 0 k (.rest ie.size)) (H.put id (.cells (dN E.ρ Zt t0 []) Hq)) =
         some (.slice H.fresh 0 (k+m) (.rest ie.size),((H.put id (.cells (dN E.ρ Zt t0 []) Hq)).drop id).new (.cells (dN E.ρ Zt t0 []++news) Hq)):=by
         unfold BR
         simp only [if_true]
         rw [Hp.get_put,if_pos rfl]
         simp only
         rw [if_neg (by rw [hcl,Nat.add_mul]; omega),if_pos ⟨by omega,trivial⟩]
         simp only [fE]
         unfold wK
         rw [if_pos (hbound k (by omega))]
         rfl
        obtain⟨y,w',E',p1,p2,p3,p4⟩:=Jy (t:=t) (t2:=t2) (ty:=ty) r2 hte ht ht2 hd2 hs0 hb0 hzl src hx2 happ
        have hρ:=p2.ρ
        have hl1:(dec (e1.den E'.ρ)).l=(dec (Zt.den E.ρ)).l++ds:=by rw [hρ,g.l]
        have hwf:Jz (rowOf t0) (dec (e1.den E'.ρ)):=by
         refine⟨by rw [hρ]; exact g.wf,fun d hd=>?_,by rw [hl1]; intro q; have:=congrArg List.length q; simp at this; rw [this.2] at hds; simp at hds; omega⟩
         rw [hl1] at hd
         rcases List.mem_append.1 hd with hd | hd
         ·exact aEU.2.1 d hd
         ·exact g.rows d hd
        have acB:dN E'.ρ e1 t0 []=dN E.ρ Zt t0 []++aK E.ρ (rowOf t0) [] ds (0+(dec (Zt.den E.ρ)).l.length):=by
         unfold dN
         rw [hl1,hρ,Ak]
        have hdrop: ∀j,(((H.put id (.cells (dN E.ρ Zt t0 []) Hq)).drop id).get j)=(H.drop id).get j:=by
         intro j
         rw [Hp.xW,Hp.xW]
         split
         ·rfl
         ·rename_i hne
          rw [Hp.get_put,if_neg hne]
        have al:U4 (((H.put id (.cells (dN E.ρ Zt t0 []) Hq)).drop id).new (.cells (dN E.ρ Zt t0 []++news) Hq)) ((H.drop id).new (.vec e1 t0 Hq [])):=
         J7 rfl rfl fun j=>by rw [hdrop]
        have p3':bG E' ((H.drop id).new (.cells (dN E.ρ Zt t0 []++news) Hq)) w':=by
         have hg:(((H.put id (.cells (dN E.ρ Zt t0 []) Hq)).drop id).new (.cells (dN E.ρ Zt t0 []++news) Hq)).get H.fresh=some (.cells (dN E.ρ Zt t0 []++news) Hq):=by
          rw [Hp.lZ]
          exact if_pos rfl
         refine p3.swap hg (p3.live _ _ hg).2.1 (by rw [Hp.lZ]; exact if_pos rfl) (fun j hj=>?_) ?_ ?_
         ·rw [Hp.lZ,Hp.lZ]
          show (if j=H.fresh then _ else _)=(if j=H.fresh then _ else _)
          rw [if_neg hj,if_neg hj,hdrop]
         ·unfold Hp.new
          simp only [Hp.drop,Hp.put]
          split <;> rfl
         ·unfold Hp.new
          simp only [Hp.drop,Hp.put]
          split <;> rfl
        refine⟨y,w',E',p1,(p2.left (U4.put hl).symm).right al,J6 p3' hwf ?_ ?_,?_⟩
        ·rw [acB,List.length_append,List.length_append,bU (mV _),hds,hes,hnl]
        ·intro us' hus
         obtain⟨a1,a2,rfl,b1,b2⟩:=hus.split
         rw [acB]
         exact b1.append (g.vr E' w'.heap a2 _ hρ b2)
        ·simp only [VR] at p4 ⊢
         obtain⟨q1,a',cap',q2,q3,q4⟩:=p4
         refine⟨q1,k+m,a',cap',?_,q2,q3,?_⟩
         ·rw [dD,hl1,List.length_append,hds,hk]
         ·rw [hes]; exact q4
       ·simp at hb
      ·simp at hb
     ·simp at hb
    ·simp at hb
   ·simp at hb
  ·simp at hb
 ·split at hb
  ·simp only [Option.some.injEq,Prod.mk.injEq] at hb
   obtain⟨rfl,rfl,rfl⟩:=hb
   simp only [VR] at hx
   exact fresh0 none hx rfl (by simp only [SE.den,aC,D.l])
  ·simp at hb
 ·split at hb
  ·simp only [Option.some.injEq,Prod.mk.injEq] at hb
   obtain⟨rfl,rfl,rfl⟩:=hb
   simp only [VR] at hx
   obtain⟨x,hx⟩:=hx
   exact fresh0 x hx rfl (by simp only [SE.den,aC,D.l])
  ·simp at hb
 ·split at hb
  ·simp only [Option.some.injEq,Prod.mk.injEq] at hb
   obtain⟨rfl,rfl,rfl⟩:=hb
   simp only [VR] at hx
   obtain⟨⟨x,hx⟩,_⟩:=hx
   exact fresh0 x hx rfl (by simp only [SE.den,aC,D.l])
  ·simp at hb
 ·split at hb
  ·split at hb
   ·split at hb
    ·split at hb
     ·simp only [Option.some.injEq,Prod.mk.injEq] at hb
      obtain⟨rfl,rfl,rfl⟩:=hb
      simp only [VR] at hx
      obtain⟨_,a,cap,rfl,_,hc⟩:=hx
      simp only [fJ] at hc
      obtain⟨rfl,_⟩:=hc
      exact fresh0 (some a) rfl rfl (by simp only [SE.den,aC,D.l])
     ·simp at hb
    ·simp at hb
   ·simp at hb
  ·simp at hb
 ·simp at hb
end
end Go.As
end
section
namespace Go.As
section
variable {P:Program} {E:En} {w:World}
theorem Src.frz {E1:En} {s m:Nat} {news news':List AV} {u:Value} {us:Array Value} (src:Src P E w s m news u us) (h:bJ E1 w.heap news' us.toList):Src P E1 w s m news' u us:=
 ⟨src.len,src.first,h,src.size,src.ones⟩
theorem room_le {bytes n m:Nat} (hb0:bytes≠0) (hb4:bytes≤400) (hm:(m:Int) < roomOf bytes 1000000) (hn:n < 1000000):(n+m)*bytes≤140737488355328:=by
 have hm':(m:Int) < ((140737488355328 / bytes - 1000000:Nat):Int):=hm
 have h1:m < 140737488355328 / bytes - 1000000:=by omega
 have h2:n+m≤140737488355328 / bytes:=by omega
 exact Nat.le_trans (Nat.mul_le_mul_right _ h2) (Nat.div_mul_le_self _ _)
theorem ajN {bytes m:Nat} (hm:(m:Int) < roomOf bytes 0):(([]:List D).length+m)*bytes≤140737488355328:=by
 have hm':(m:Int) < ((140737488355328 / bytes - 0:Nat):Int):=hm
 have h2:([]:List D).length+m≤140737488355328 / bytes:=by simp only [List.length_nil]; omega
 exact Nat.le_trans (Nat.mul_le_mul_right _ h2) (Nat.div_mul_le_self _ _)
theorem ajM {bytes n m:Nat} (hn:(n:Int) < roomOf bytes (m+1)) {k:Nat} (hk:k=m+1):(n+k)*bytes≤140737488355328:=by
 have hn':(n:Int) < ((140737488355328 / bytes - (m+1):Nat):Int):=hn
 have h2:n+k≤140737488355328 / bytes:=by omega
 exact Nat.le_trans (Nat.mul_le_mul_right _ h2) (Nat.div_mul_le_self _ _)
theorem Og {ρ:Nat→Int} {r:Row} {m:Nat} {e e1:SE} {news:List AV} (h:sH r e m news=some e1) (hw:dec (e.den ρ)=dL (dec (e.den ρ)).l): ∃ds,ds.length=m∧Grown ρ r e e1 ds news:=by
 obtain⟨ds,h1,h2,h3,h4,h5⟩:=BM (ρ:=ρ) m h
 exact⟨ds,h1,h2,h3 hw,h4,h5⟩
theorem adJ [Glob] {H h0:Hp} (r:bG E H w) {e:Nat} {own:Option Nat} {x:AV} {e0:SE} {t:Nat} (h:BQ e own x H=some (e0,t,h0)):dec (e0.den E.ρ)=dL (dec (e0.den E.ρ)).l:=by
 have hz:dec ((SE.dat (.i 0)).den E.ρ)=dL (dec ((SE.dat (.i 0)).den E.ρ)).l:=by simp only [SE.den,aC]; rfl
 unfold BQ at h
 split at h
 ·split at h
  ·rename_i o hl
   split at h
   ·split at h
    ·split at h
     ·split at h
      ·split at h
       ·simp only [Option.some.injEq,Prod.mk.injEq] at h
        obtain⟨rfl,_⟩:=h
        exact (r.yB hl).2.2.1
       ·simp at h
      ·simp at h
     ·simp at h
    ·simp at h
   ·simp at h
  ·simp at h
 ·split at h
  ·simp only [Option.some.injEq,Prod.mk.injEq] at h
   obtain⟨rfl,_⟩:=h
   exact hz
  ·simp at h
 ·split at h
  ·simp only [Option.some.injEq,Prod.mk.injEq] at h
   obtain⟨rfl,_⟩:=h
   exact hz
  ·simp at h
 ·split at h
  ·simp only [Option.some.injEq,Prod.mk.injEq] at h
   obtain⟨rfl,_⟩:=h
   exact hz
  ·simp at h
 ·split at h
  ·split at h
   ·split at h
    ·split at h
     ·simp only [Option.some.injEq,Prod.mk.injEq] at h
      obtain⟨rfl,_⟩:=h
      exact hz
     ·simp at h
    ·simp at h
   ·simp at h
  ·simp at h
 ·simp at h
theorem Jw [Glob] {t t2 ty:Nat} {ie:TI} {e:Nat} {d2:TypeDesc} {u u2:Value} {us:Array Value} {news:List AV} (hte:tX P e ie) (ht:P.underlying t=some (.slice e)) (ht2:P.underlying t2=some d2) (hd2: ∀k,d2≠.int k)
 (src:Src P E w ie.size 0 news u2 us) (ho: ∃a n cap,u= .slice a n cap∧n≤cap):(Builtin.append_ #[t,t2] ty #[u,u2]).run P w= .ok u w:=by
 obtain⟨inf,d,z,h1,h2,h3,h4,h5,h6,h7,h8⟩:=hte.all
 obtain⟨a,n,cap,rfl,hn⟩:=ho
 have hus:us.toList= []:=List.eq_nil_of_length_eq_zero (by rw [Array.length_toList,src.size,Nat.zero_mul])
 have:=nD (t:=t) (t2:=t2) (ty:=ty) (n:=n) (cap:=cap) (a:=a) (w':=w) ht ht2 hd2 h1 h5 src (by omega) (by
  cases a with
  | none=>rfl
  | some a=>rw [hus]; rfl)
 exact this
theorem aeM {x:AV} {u:Value} {H h0:Hp} {e t:Nat} {own:Option Nat} {e0:SE} (hx:VR E w.heap x u) (hb:BQ e own x H=some (e0,t,h0)): ∃a n cap,u= .slice a n cap∧n≤cap:=by
 unfold BQ at hb
 split at hb
 ·simp only [VR] at hx
  obtain⟨_,k,a,cap,_,rfl,hk,_⟩:=hx
  exact⟨_,_,_,rfl,hk⟩
 ·simp only [VR] at hx
  exact⟨none,0,0,hx,Nat.le_refl _⟩
 ·simp only [VR] at hx
  obtain⟨x,hx⟩:=hx
  exact⟨x,0,0,hx,Nat.le_refl _⟩
 ·simp only [VR] at hx
  obtain⟨⟨x,hx⟩,_⟩:=hx
  exact⟨x,0,0,hx,Nat.le_refl _⟩
 ·simp only [VR] at hx
  obtain⟨_,a,cap,rfl,hk,_⟩:=hx
  exact⟨_,_,_,rfl,hk⟩
 ·simp at hb
theorem VZ {x:AV} {u:Value} {own:Option Nat} (hx:VR E w.heap x u) (hb:alD own x=true): ∃a n cap,u= .slice a n cap∧n≤cap:=by
 unfold alD at hb
 split at hb
 ·simp only [VR] at hx
  obtain⟨_,k,a,cap,_,rfl,hk,_⟩:=hx
  exact⟨_,_,_,rfl,hk⟩
 ·simp only [VR] at hx
  obtain⟨_,l,k,a,cap,_,_,rfl,hk,_⟩:=hx
  exact⟨_,_,_,rfl,hk⟩
 ·simp only [VR] at hx
  exact⟨none,0,0,hx,Nat.le_refl _⟩
 ·simp only [VR] at hx
  obtain⟨x,hx⟩:=hx
  exact⟨x,0,0,hx,Nat.le_refl _⟩
 ·simp only [VR] at hx
  obtain⟨⟨x,hx⟩,_⟩:=hx
  exact⟨x,0,0,hx,Nat.le_refl _⟩
 ·simp only [VR] at hx
  obtain⟨_,a,cap,rfl,hk,_⟩:=hx
  exact⟨_,_,_,rfl,hk⟩
 ·simp at hb
set_option maxHeartbeats 800000 in
theorem UC [Glob] {tt:TT} (htt:eG P tt) {s s':St} (r:bG E s.h w) (hp:bI E.ρ s.pc) {t t2 ty:Nat} {x y v:AV} {u u2:Value} (hx:VR E w.heap x u) (hy:VR E w.heap y u2) (hsl:awQ y=false→∃a n cap,u= .slice a n cap∧n≤cap) (h:(IB tt t t2 x y s).leaf E.ρ=some (v,s')) :
 s'.slots=s.slots∧bI E.ρ s'.pc∧∃z w' E',(Builtin.append_ #[t,t2] ty #[u,u2]).run P w= .ok z w'∧Stp E s.h w E' s'.h w'∧bG E' s'.h w'∧VR E' w'.heap v z:=by
 unfold IB at h
 split at h
 ·rename_i ti hti
  split at h
  ·rename_i e hk
   split at h
   ·rename_i ie hie
    split at h
    ·simp [T.leaf] at h
    ·rename_i ti2 alM
     obtain⟨d2,hd2,hk2⟩:=xR (htt t2 ti2 alM)
     split at h
     ·simp [T.leaf] at h
     ·rename_i k2 hne
      have Wi: ∀k,d2≠.int k:=by
       intro k hd
       subst hd
       cases hkk:ti2.kind <;> rw [hkk] at hk2 <;> simp only [RZ] at hk2
       exact hne _ hkk
      split at h
      ·simp [T.leaf] at h
      ·rename_i hcond
       simp only [not_or,Classical.not_not] at hcond
       obtain⟨hs0,hb0,hzl,hb4⟩:=hcond
       have hte:=htt e ie hie
       have hu:=fK (htt t ti hti) hk
       split at h
       ·
        rename_i e2 ty2
        split at h
        ·rename_i e0 t' h0 hb
         split at h
         ·rename_i hc
          obtain⟨hes,hrow⟩:=hc
          obtain⟨pc1,hp1,h1⟩:=cO hp h
          rw [pG,dD] at h1
          simp only [VR] at hy
          obtain⟨xa,cap2,hu2,_⟩:=hy.slice
          split at h1
          ·rename_i hz
           simp only [SE.den,beq_iff_eq] at hz
           have:=aF h1
           simp only [Prod.mk.injEq] at this
           obtain⟨rfl,rfl⟩:=this
           have hz':(dec (e2.den E.ρ)).l.length=0:=by omega
           rw [hz'] at hu2
           subst hu2
           have src:Src P E w ie.size 0 [] (.slice xa 0 cap2) #[]:=⟨fun _=>rfl,fun w2 _=>by
            cases xa with
            | none=>simp [Builtin.firstCells]
            | some a=>simp only [Builtin.firstCells,Nat.zero_mul]; rfl,by simp [bJ],by simp,by simp⟩
           exact⟨rfl,hp1,u,w,E,Jw hte hu hd2 Wi src (aeM hx hb),Stp.refl _ _ _,r,hx⟩
          ·rename_i hz
           simp only [SE.den,beq_eq_false_iff_ne,ne_eq] at hz
           obtain⟨pc2,hp2,h2⟩:=cO (s:={ s with pc:=pc1 }) hp1 h1
           split at h2
           ·rename_i t2'
            obtain⟨pc3,hp3,h3⟩:=cO (s:={ s with pc:=pc2 }) hp2 h2
            split at h3
            ·rename_i t3
             rw [dV,decide_eq_true_eq,dD] at t2' t3
             simp only [SE.den] at t2' t3
             have hne':(dec (e2.den E.ρ)).l≠[]:=by intro q; rw [q] at hz; simp at hz
             obtain⟨us,src⟩:=avC (P:=P) (w:=w) hy hne'
             rw [hrow] at src
             rw [hes] at src
             have hpos:0 < (dec (e2.den E.ρ)).l.length:=by
              rcases Nat.eq_zero_or_pos (dec (e2.den E.ρ)).l.length with q | q
              ·omega
              ·exact q
             have aAC:dec (e2.den E.ρ)=dL (dec (e2.den E.ρ)).l∧∀d∈(dec (e2.den E.ρ)).l,wF (rowOf ty2) d:=by
              have key: ∀{d:D} {v:Value},Rd E.ro w.heap (.sl ty2) d v→d.l≠[]→d=dL d.l∧∀x∈d.l,wF (rowOf ty2) x:=by
               intro d v hr hne
               have apU: ∀{c:CK} {d:D} {v:Value},Rd E.ro w.heap c d v→vI c d:=by
                intro c d v hr
                cases hr with
                | int k n=>rfl
                | bool b=>cases b <;> simp [vI]
                | str s=>trivial
                | nil t=>trivial
                | non t a cap=>trivial
                | one t c b o cap ds f hr hc hb h1 h2=>trivial
                | many t cs b o cap rows f hr hc hb hl h1 h2=>trivial
               generalize hc:CK.sl ty2=c at hr
               cases hr with
               | int k n=>simp at hc
               | bool b=>simp at hc
               | str s=>simp at hc
               | nil t=>exact absurd rfl hne
               | non t a cap=>exact absurd rfl hne
               | one t c b o cap ds f hr hcp hb h1 h2=>
                 simp only [CK.sl.injEq] at hc
                 subst hc
                 refine⟨by rw [aX],fun x hx=>?_⟩
                 rw [aX] at hx
                 obtain⟨i,hi⟩:=List.mem_iff_getElem?.1 hx
                 rw [hr]
                 exact apU (h2 i x hi)
               | many t cs b o cap rows f hr hcp hb hl h1 h2=>
                 simp only [CK.sl.injEq] at hc
                 subst hc
                 refine⟨by rw [aX],fun x hx=>?_⟩
                 rw [aX,List.mem_map] at hx
                 obtain⟨row,hrm,rfl⟩:=hx
                 obtain⟨i,hi⟩:=List.mem_iff_getElem?.1 hrm
                 rw [hr]
                 refine⟨by rw [aX],by rw [aX]; exact hl row hrm,fun j c y hj hy=>?_⟩
                 rw [aX] at hy
                 exact apU (h2 i row j y c hi hy hj)
              exact key hy hne'
             rw [hrow] at aAC
             have grown: ∀e1:SE,(dec (e1.den E.ρ)).l=(dec (e0.den E.ρ)).l++(dec (e2.den E.ρ)).l→dec (e1.den E.ρ)=dL (dec (e1.den E.ρ)).l→Grown E.ρ (rowOf t') e0 e1 (dec (e2.den E.ρ)).l (aK E.ρ (rowOf t') [] (dec (e2.den E.ρ)).l 0):=by
              intro e1 q1 q2
              refine⟨q1,q2,aAC.2,fun E' h us j hρ hv=>?_⟩
              have:aK E.ρ (rowOf t') [] (dec (e2.den E.ρ)).l j=aK E.ρ (rowOf t') [] (dec (e2.den E.ρ)).l 0:=by
               generalize (dec (e2.den E.ρ)).l=L
               clear hv q1 q2
               have gen: ∀(L:List D) (a b:Nat),aK E.ρ (rowOf t') [] L a=aK E.ρ (rowOf t') [] L b:=by
                intro L
                induction L with
                | nil=>intro a b; rfl
                | cons d L ih=>intro a b; simp only [aK,dQ]; rw [ih (a+1) (b+1)]
               exact gen L j 0
              rw [this]
              exact hv
             have hbw:=adJ r hb
             split at h3
             ·rename_i hnil
              have aDm:(dec (e0.den E.ρ)).l= []:=by
               unfold YI at hnil
               split at hnil
               ·split at hnil
                ·simp only [SE.den,aC,D.l]
                ·simp at hnil
               ·simp at hnil
              have:=aF h3
              simp only [Prod.mk.injEq] at this
              obtain⟨rfl,rfl⟩:=this
              obtain⟨z,w',E',p1,p2,p3,p4⟩:=EM (t:=t) (t2:=t2) (ty:=ty) r hte hu hd2 Wi hs0 hb0 hzl hb4 src hpos hx hb hes (grown e2 (by rw [aDm,List.nil_append]) aAC.1) rfl (by rw [aDm]; refine ajN (bytes:=ie.bytes) ?_; have q:=t2'; unfold ajO at q; rw [hnil] at q; exact q)
              exact⟨rfl,hp3,z,w',E',p1,p2,p3,p4⟩
             ·rename_i hnil
              have:=aF h3
              simp only [Prod.mk.injEq] at this
              obtain⟨rfl,rfl⟩:=this
              obtain⟨z,w',E',p1,p2,p3,p4⟩:=EM (t:=t) (t2:=t2) (ty:=ty) r hte hu hd2 Wi hs0 hb0 hzl hb4 src hpos hx hb hes (grown (.op .cat e0 e2) (by simp only [SE.den,aG.den,aC,aX]) (by simp only [SE.den,aG.den,aC,aX])) rfl (room_le hb0 hb4 (by have q:=t2'; unfold ajO at q; rw [hnil] at q; exact q) (by omega))
              exact⟨rfl,hp3,z,w',E',p1,p2,p3,p4⟩
            ·simp [T.leaf] at h3
           ·simp [T.leaf] at h2
         ·simp [T.leaf] at h
        ·simp [T.leaf] at h
       ·
        split at h
        ·rename_i m news hsrc
         obtain⟨us,src⟩:=vP (P:=P) r hy hsrc
         split at h
         ·have:=aF h
          simp only [Prod.mk.injEq] at this
          obtain⟨rfl,rfl⟩:=this
          exact⟨rfl,hp,u,w,E,Jw hte hu hd2 Wi src (hsl (by
           cases y <;> first | rfl | (rename_i hnd _ _ _; exact absurd rfl (hnd _ _)) | (rename_i hnd; exact absurd rfl (hnd _ _)))),Stp.refl _ _ _,r,hx⟩
         ·rename_i m'
          obtain⟨news',h1,pcF,E1,hpF,f,hvs,h⟩:=xX rfl r hp h
          split at h
          ·rename_i e0 t' h0 hb
           split at h
           ·rename_i hc
            obtain⟨hes,hm⟩:=hc
            have hρ:=f.ρ
            obtain⟨pc1,hp1,h2⟩:=cO (s:={ s with h:=h1,pc:=pcF }) hpF h
            split at h2
            ·rename_i t3
             rw [dV,decide_eq_true_eq,dD] at t3
             simp only [SE.den] at t3
             split at h2
             ·rename_i e1 hcr
              have:=aF h2
              simp only [Prod.mk.injEq] at this
              obtain⟨rfl,rfl⟩:=this
              obtain⟨ds,hds,g⟩:=Og (ρ:=E1.ρ) hcr (adJ f.rel hb)
              obtain⟨z,w',E',p1,p2,p3,p4⟩:=EM (t:=t) (t2:=t2) (ty:=ty) f.rel hte hu hd2 Wi hs0 hb0 hzl hb4 (src.frz (hvs _ src.vrs)) (by omega) (VR.keep (f.eF.keeps r) _ _ hx) hb hes g hds (ajM (by rw [hρ]; exact t3) (by omega))
              exact⟨rfl,hp1,z,w',E',p1,f.eF.trans p2,p3,p4⟩
             ·simp [T.leaf] at h2
            ·simp [T.leaf] at h2
           ·simp [T.leaf] at h
          ·simp [T.leaf] at h
        ·simp [T.leaf] at h
   ·simp [T.leaf] at h
  ·simp [T.leaf] at h
 ·simp [T.leaf] at h
end
end Go.As
end
section
namespace Go.As
section
variable {P:Program} {E:En} {w:World}
theorem ZT {h:Array Obj} {id t:Nat} {n:SE} {u:Value} (hv:VR E h (.uK id n t) u):VR E h (.Ap id (.lit 0) n t) u:=by
 simp only [VR] at hv ⊢
 obtain⟨h1,k,a,cap,h2,h3,h4,h5⟩:=hv
 exact⟨h1,0,k,a,cap,rfl,h2,h3,h4,by rw [Nat.zero_mul]; exact h5⟩
theorem YS {tt:TT} (htt:eG P tt) {s s':St} (hp:bI E.ρ s.pc) {ty t id:Nat} {lo n:SE} {ix v:AV} {u ui:Value} (hx:VR E w.heap (.Ap id lo n t) u) (hix:VR E w.heap ix ui) (h:(Ue tt s ty id t lo n ix).leaf E.ρ=some (v,s')) :
 s'.slots=s.slots∧s'.h=s.h∧bI E.ρ s'.pc∧∃r,(Instr.indexAt ty u ui).run P w= .ok r w∧VR E w.heap v r:=by
 unfold Ue at h
 split at h
 ·rename_i kd i
  split at h
  ·rename_i z hz
   split at h
   ·rename_i hes
    obtain⟨pc',hp',h1,h2,h3⟩:=rF hp h
    have:=aF h3
    simp only [Prod.mk.injEq] at this
    obtain⟨rfl,rfl⟩:=this
    refine⟨rfl,rfl,hp',?_⟩
    simp only [VR] at hx hix
    subst hix
    obtain⟨hid,l,m,a,cap,hl,hn,rfl,hcap,hc⟩:=hx
    obtain⟨el,ie,hu,hie,rfl⟩:=qX htt hz
    obtain⟨k,hk⟩ : ∃k:Nat,i.den E.ρ=(k:Int):=⟨(i.den E.ρ).toNat,by omega⟩
    have hlt:k < m:=by omega
    have ha:a=⟨(E.θ id).1,(E.θ id).2+l*ie.size,none⟩:=by
     simp only [fJ] at hc
     rcases hc with hc | hc
     ·rw [hes]; exact hc.1
     ·omega
    subst ha
    refine⟨.pointer (some ⟨(E.θ id).1,(E.θ id).2+l*ie.size+k*ie.size,none⟩),?_,?_⟩
    ·rw [hk]
     simp [Instr.indexAt,asIntOf,run_underlying hu,dX (htt el ie hie),hlt,fH]
    ·simp only [VR]
     exact⟨hid,l+k,by rw [uJ,hl,hk]; rfl,by rw [Nat.add_zero,Nat.add_mul,Nat.add_assoc]⟩
   ·simp [T.leaf] at h
  ·simp [T.leaf] at h
 ·simp [T.leaf] at h
theorem akY {lo:Option AV} {lo':Option Value} {l:SE} {n:Nat} (h:loE lo=some l) (hlo:iU E w.heap lo lo') (hn:l.den E.ρ=(n:Int)) :
 ∃lo2,iU E w.heap lo2 lo'∧∀y,n≤y→bnd lo2 0 y=some n:=by
 unfold loE at h
 split at h
 ·simp only [Option.some.injEq] at h
  subst h
  simp only [SE.den] at hn
  have:n=0:=by omega
  subst this
  exact⟨none,hlo,fun y _=>by simp [bnd]⟩
 ·split at h
  ·rename_i v k q
   simp only [Option.some.injEq] at h
   subst h
   obtain⟨y,rfl,hy⟩:=hlo
   refine⟨some (.int k (.lit (Int.ofNat n))),⟨y,rfl,?_⟩,fun y hy=>by simp [bnd,mY,hy]⟩
   simp only [VR,SE.den] at hy ⊢
   rw [hy,hn]
   rfl
  ·simp at h
theorem J9 {k:IntKind} {q:SE} {n:Nat} {o:Option Value} (hq:q.den E.ρ=(n:Int)) (ho:iU E w.heap (some (.int k q)) o):iU E w.heap (some (.int k (.lit (Int.ofNat n)))) o:=by
 obtain⟨y,rfl,hy⟩:=ho
 refine⟨y,rfl,?_⟩
 simp only [VR,SE.den] at hy ⊢
 rw [hy,hq]
 rfl
theorem KD {k:IntKind} {n d y:Nat} (hn:n≤y):bnd (some (.int k (.lit (Int.ofNat n)))) d y=some n:=by
 simp [bnd,mY,hn]
theorem Nr [Glob] {tt:TT} (htt:eG P tt) {s s':St} (r:bG E s.h w) (hp:bI E.ρ s.pc) {ty id t:Nat} {lo0 n0:SE} {lo hi mx:Option AV} {lo' hi' mx':Option Value} {v:AV} {u:Value} (hx:VR E w.heap (.Ap id lo0 n0 t) u)
 (hlo:iU E w.heap lo lo') (hhi:iU E w.heap hi hi') (hmx:iU E w.heap mx mx') (h:(Ku tt s ty id t lo0 n0 lo hi mx).leaf E.ρ=some (v,s')) :
 s'.slots=s.slots∧s'.h=s.h∧bI E.ρ s'.pc∧∃r,(Instr.sliceAt ty u lo' hi' mx').run P w= .ok r w∧VR E w.heap v r:=by
 unfold Ku at h
 split at h
 ·simp [T.leaf] at h
 ·rename_i z hz
  split at h
  ·rename_i hcond
   obtain⟨hes,hz0⟩:=hcond
   obtain⟨el,ie,hu,hie,rfl⟩:=qX htt hz
   have hsz:=dX (htt el ie hie)
   simp only [VR] at hx
   obtain⟨hid,l0,m0,a,cap,g1,g2,rfl,hcap,hc⟩:=hx
   have fin: ∀(l k:Nat) (e1 e2:SE),(Instr.sliceBounds true m0 cap lo' hi' none).run P w= .ok (l,k,cap) w→l≤k→k≤cap→e1.den E.ρ=(l:Int)→e2.den E.ρ=(k:Int)→
    ∃r,(Instr.sliceAt ty (.slice (some a) m0 cap) lo' hi' none).run P w= .ok r w∧VR E w.heap (.Ap id (yF lo0 e1) (KY e2 e1) t) r:=by
    intro l k e1 e2 hb hlk hk he1 he2
    refine⟨.slice (some (if cap=l then a else a.add (l*ie.size))) (k - l) (cap - l),?_,?_⟩
    ·simp [Instr.sliceAt,run_underlying hu,Instr.slice,hb,hsz] <;> split <;> rfl
    ·simp only [VR]
     refine⟨hid,l0+l,k - l,_,_,by rw [uJ,g1,he1]; rfl,by rw [adS,he1,he2]; omega,rfl,by omega,?_⟩
     rw [Nat.add_mul]
     have q:=vG (l:=l) (h:=k) (m:=cap) (es:=(rowOf t).es) hc hcap hlk hk (Nat.le_refl _) (.inr (.inr ⟨rfl,rfl,rfl⟩)) (rowOf t).es (fun _=>rfl)
     rw [hes]
     exact q
   split at h
   ·simp [T.leaf] at h
   ·rename_i ql hql
    obtain⟨pc1,hp1,h1⟩:=cO hp h
    split at h1
    ·simp [T.leaf] at h1
    ·rename_i t1
     rw [dV,decide_eq_false_iff_not] at t1
     simp only [SE.den,Int.not_lt] at t1
     obtain⟨l,hl⟩ : ∃l:Nat,ql.den E.ρ=(l:Int):=⟨(ql.den E.ρ).toNat,by omega⟩
     obtain⟨lo2,hlo2,hbl⟩:=akY hql hlo hl
     split at h1
     ·
      simp only [iU] at hhi
      subst hhi
      split at h1
      ·simp [T.leaf] at h1
      ·simp only [iU] at hmx
       subst hmx
       obtain⟨pc2,hp2,h2⟩:=cO (s:={ s with pc:=pc1 }) hp1 h1
       split at h2
       ·simp [T.leaf] at h2
       ·rename_i t2
        have:=aF h2
        simp only [Prod.mk.injEq] at this
        obtain⟨rfl,rfl⟩:=this
        rw [dV,decide_eq_false_iff_not] at t2
        have hlm:l≤m0:=by omega
        obtain⟨e1,e2⟩:=iD (P:=P) (w:=w) (isSlice:=true) (len:=m0) (cap:=cap) (m0:=cap) (d:=0) (m:=cap) (h0:=cap) (h:=m0) (l:=l) hlo2 (hi:=none) (hi':=none) (by simp [iU]) (mx:=none) (mx':=none) (by simp [iU]) (by simp) (.inl ⟨rfl,rfl,Nat.le_refl _⟩) (by simp [bnd,hcap]) ⟨fun _=>Nat.le_refl _,by simp⟩ (hbl _ hlm)
        exact⟨rfl,rfl,hp2,fin l m0 _ _ e1 hlm hcap hl g2⟩
     ·rename_i hv
      split at h1
      ·rename_i kh qh
       obtain⟨pc2,hp2,h2⟩:=cO (s:={ s with pc:=pc1 }) hp1 h1
       split at h2
       ·simp [T.leaf] at h2
       ·rename_i t2
        rw [dV,decide_eq_false_iff_not] at t2
        obtain⟨k,hk⟩ : ∃k:Nat,qh.den E.ρ=(k:Int):=⟨(qh.den E.ρ).toNat,by omega⟩
        have hlk:l≤k:=by omega
        split at h2
        ·rename_i mv
         split at h2
         ·rename_i km qm
          obtain⟨pc3,hp3,h3⟩:=cO (s:={ s with pc:=pc2 }) hp2 h2
          split at h3
          ·simp [T.leaf] at h3
          ·rename_i t3
           obtain⟨pc4,hp4,h4⟩:=cO (s:={ s with pc:=pc3 }) hp3 h3
           split at h4
           ·simp [T.leaf] at h4
           ·rename_i t4
            have:=aF h4
            simp only [Prod.mk.injEq] at this
            obtain⟨rfl,rfl⟩:=this
            rw [dV,decide_eq_false_iff_not] at t3 t4
            obtain⟨m,hm⟩ : ∃m:Nat,qm.den E.ρ=(m:Int):=⟨(qm.den E.ρ).toNat,by omega⟩
            obtain⟨e1,e2⟩:=iD (P:=P) (w:=w) (isSlice:=true) (len:=m0) (cap:=cap) (m0:=cap) (d:=0) (m:=m) (h0:=m) (h:=k) (l:=l) hlo2 (J9 hk hhi) (J9 hm hmx) (by simp) (.inr ⟨_,rfl,KD (by omega),Nat.le_refl _⟩) (KD (by omega)) ⟨by simp,fun _=>rfl⟩ (hbl _ hlk)
            refine⟨rfl,rfl,hp4,.slice (some (if m=l then a else a.add (l*ie.size))) (k - l) (m - l),?_,by simp only [VR]⟩
            simp [Instr.sliceAt,run_underlying hu,Instr.slice,e1,hsz] <;> split <;> rfl
         ·simp [T.leaf] at h2
        ·simp only [iU] at hmx
         subst hmx
         have go:k≤cap→∃r,(Instr.sliceAt ty (.slice (some a) m0 cap) lo' hi' none).run P w= .ok r w∧VR E w.heap (.Ap id (yF lo0 ql) (KY qh ql) t) r:=by
          intro hkc
          obtain⟨e1,e2⟩:=iD (P:=P) (w:=w) (isSlice:=true) (len:=m0) (cap:=cap) (m0:=cap) (d:=0) (m:=cap) (h0:=cap) (h:=k) (l:=l) hlo2 (J9 hk hhi) (mx:=none) (mx':=none) (by simp [iU]) (by simp) (.inl ⟨rfl,rfl,Nat.le_refl _⟩) (KD hkc) ⟨fun _=>Nat.le_refl _,by simp⟩ (hbl _ hlk)
          exact fin l k _ _ e1 hlk hkc hl hk
         obtain⟨pc3,hp3,h3⟩:=cO (s:={ s with pc:=pc2 }) hp2 h2
         split at h3
         ·rename_i t3
          have:=aF h3
          simp only [Prod.mk.injEq] at this
          obtain⟨rfl,rfl⟩:=this
          rw [dV,decide_eq_false_iff_not] at t3
          exact⟨rfl,rfl,hp3,go (by omega)⟩
         ·split at h3
          ·simp [T.leaf] at h3
          ·rename_i hz1
           split at h3
           ·simp [T.leaf] at h3
           ·rename_i e Ho hva
            obtain⟨pc4,hp4,h4⟩:=cO (s:={ s with pc:=pc3 }) hp3 h3
            split at h4
            ·simp [T.leaf] at h4
            ·rename_i t4
             have:=aF h4
             simp only [Prod.mk.injEq] at this
             obtain⟨rfl,rfl⟩:=this
             rw [dV,decide_eq_false_iff_not,dD] at t4
             refine⟨rfl,rfl,hp4,go ?_⟩
             have hlv:=yJ hva
             obtain⟨ho,q0⟩:=OR.yB.1 (r.live id _ hlv).2.1
             have hlo0:=MK hz1
             subst hlo0
             simp only [SE.den] at g1
             have hl0:l0=0:=by omega
             subst hl0
             simp only [OR] at q0
             obtain⟨arr,lo1,hi1,us,q1,q2,q3,q4,q5,q6,q7⟩:=q0
             unfold dN at q4
             rw [bU ho.1] at q4
             have hne:0 < (dec (e.den E.ρ)).l.length:=List.length_pos_iff.2 ho.2.2.2
             have hpos:0 < (rowOf t).es:=by omega
             simp only [fJ] at hc
             have hκ:(dec (e.den E.ρ)).l.length≤cap:=by
              rcases hc with hc | hc
              ·have:(dec (e.den E.ρ)).l.length*(rowOf t).es≤cap*(rowOf t).es:=by omega
               exact Nat.le_of_mul_le_mul_right this hpos
              ·have:=Nat.mul_pos hne hpos
               omega
             omega
      ·simp [T.leaf] at h1
  ·simp [T.leaf] at h
theorem Y8 [Glob] {tt:TT} (htt:eG P tt) {s s':St} (hp:bI E.ρ s.pc) {ty t:Nat} {z:SE} {lo hi mx:Option AV} {lo' hi' mx':Option Value} {v:AV} {u:Value} (hx:VR E w.heap (.G9 z t) u)
 (hlo:iU E w.heap lo lo') (hhi:iU E w.heap hi hi') (hmx:iU E w.heap mx mx') (h:(Ut tt s ty z t lo hi mx).leaf E.ρ=some (v,s')) :
 s'.slots=s.slots∧s'.h=s.h∧bI E.ρ s'.pc∧∃r,(Instr.sliceAt ty u lo' hi' mx').run P w= .ok r w∧VR E w.heap v r:=by
 unfold Ut at h
 split at h
 ·simp [T.leaf] at h
 ·simp only [iU] at hmx
  subst hmx
  split at h
  ·simp [T.leaf] at h
  ·rename_i zz hz
   obtain⟨el,ie,hu,hie,rfl⟩:=qX htt hz
   have hsz:=dX (htt el ie hie)
   split at h
   ·rename_i G8
    split at h
    ·rename_i hbl
     have:=aF h
     simp only [Prod.mk.injEq] at this
     obtain⟨rfl,rfl⟩:=this
     have hx0:=hx
     simp only [VR] at hx
     obtain⟨⟨x,rfl⟩,hr⟩:=hx
     obtain⟨e1,e2⟩:=iD (P:=P) (w:=w) (isSlice:=true) (len:=0) (cap:=0) (m0:=0) (d:=0) (m:=0) hlo hhi (mx:=none) (mx':=none) (by simp [iU]) (by simp) (.inl ⟨rfl,rfl,Nat.le_refl _⟩) G8 ⟨fun _=>Nat.le_refl _,by simp⟩ hbl
     refine⟨rfl,rfl,hp,.slice x 0 0,?_,hx0⟩
     simp [Instr.sliceAt,run_underlying hu,Instr.slice,e1,hsz]
    ·simp [T.leaf] at h
   ·simp [T.leaf] at h
end
end Go.As
end
section
namespace Go.As
theorem Lh: ∀{B V:List AV},V.length=B.length→splice B 0 V=some V
 | [],[],_=>rfl
 | [],_ :: _,h=>by simp at h
 | _ :: _,[],h=>by simp at h
 | b :: B,v :: V,h=>by
   simp only [splice]
   rw [Lh (by simpa using h)]
theorem Yh {A B C V:List AV} (h:V.length=B.length):splice (A++(B++C)) A.length V=some (A++(V++C)):=by
 have:=yO A (rU C (Lh h))
 rwa [Nat.add_zero] at this
theorem OY {α:Type}: ∀{a b:List α},jT a.length (a++b)=some a
 | [],b=>rfl
 | x :: a,b=>by simp only [List.length_cons,List.cons_append,jT,OY]
theorem mZ {ρ:Nat→Int} {r:Row}: ∀(L:List D) (a b:Nat),aK ρ r [] L a=aK ρ r [] L b
 | [],_,_=>rfl
 | d :: L,a,b=>by simp only [aK,dQ]; rw [mZ L (a+1) (b+1)]
theorem lI {ρ:Nat→Int} {r:Row}: ∀(A B:List D),aK ρ r [] (A++B) 0=aK ρ r [] A 0++aK ρ r [] B 0
 | [],B=>rfl
 | d :: A,B=>by
   simp only [List.cons_append,aK,dQ,List.append_assoc]
   rw [mZ (A++B) 1 0,mZ A 1 0,lI A B]
section
variable {P:Program} {E:En} {w:World}
theorem agT [Glob] {H:Hp} (r:bG E H w) {id t:Nat} {e0:SE} {Hq:TypeId} (hl:H.get id=some (.vec e0 t Hq [])) (hs0:(rowOf t).es≠0) {k cap:Nat} {a:Addr} (hc:fJ E id 0 k a cap (.rest (rowOf t).es)) :
 a=⟨(E.θ id).1,(E.θ id).2,none⟩∧(dec (e0.den E.ρ)).l.length≤cap:=by
 obtain⟨ho,q0⟩:=OR.yB.1 (r.live id _ hl).2.1
 simp only [OR] at q0
 obtain⟨arr,lo1,hi1,us,q1,q2,q3,q4,q5,q6,q7⟩:=q0
 unfold dN at q4
 rw [bU ho.1] at q4
 have hne:0 < (dec (e0.den E.ρ)).l.length:=List.length_pos_iff.2 ho.2.2.2
 have hpos:0 < (rowOf t).es:=by omega
 simp only [fJ] at hc
 rcases hc with hc | hc
 ·refine⟨by simpa using hc.1,?_⟩
  have:(dec (e0.den E.ρ)).l.length*(rowOf t).es≤cap*(rowOf t).es:=by omega
  exact Nat.le_of_mul_le_mul_right this hpos
 ·have:=Nat.mul_pos hne hpos
  omega
theorem KG [Glob] {H:Hp} (r:bG E H w) {id t:Nat} {e0:SE} {Hq:TypeId} (hl:H.get id=some (.vec e0 t Hq [])) {n mm:Nat} (hle:n+mm≤(dec (e0.den E.ρ)).l.length) {ds:List D} (hds:ds.length=mm) (hwf: ∀d∈ds,wF (rowOf t) d)
 {us:List Value} (hv:bJ E w.heap (aK E.ρ (rowOf t) [] ds 0) us) (h1: ∀u∈us,u.oneCell'=true) {e1:SE} (he1:dec (e1.den E.ρ)=dL ((dec (e0.den E.ρ)).l.take n++ds++(dec (e0.den E.ρ)).l.drop (n+mm))) :
 ∃w',(storeCells ⟨(E.θ id).1,(E.θ id).2+n*(rowOf t).es,none⟩ us).run P w= .ok () w'∧Stp E H w E (H.put id (.vec e1 t Hq [])) w'∧bG E (H.put id (.vec e1 t Hq [])) w':=by
 obtain⟨rc,ho,hw⟩:=r.yB hl
 generalize hL:(dec (e0.den E.ρ)).l=L at *
 have hsp:L=L.take n++((L.drop n).take mm++L.drop (n+mm)):=by
  conv=>lhs; rw [← List.take_append_drop n L]
  congr 1
  conv=>lhs; rw [← List.take_append_drop mm (L.drop n)]
  rw [List.drop_drop]
 have hc:dN E.ρ e0 t []=aK E.ρ (rowOf t) [] (L.take n) 0++(aK E.ρ (rowOf t) [] ((L.drop n).take mm) 0++aK E.ρ (rowOf t) [] (L.drop (n+mm)) 0):=by
  unfold dN
  rw [hL]
  conv=>lhs; rw [hsp]
  rw [lI,lI]
 have hlA:(aK E.ρ (rowOf t) [] (L.take n) 0).length=n*(rowOf t).es:=by
  rw [bU (mV _),List.length_take]
  congr 1
  omega
 have hsl:splice (dN E.ρ e0 t []) (n*(rowOf t).es) (aK E.ρ (rowOf t) [] ds 0)=some (dN E.ρ e1 t []):=by
  have:dN E.ρ e1 t []=aK E.ρ (rowOf t) [] (L.take n) 0++(aK E.ρ (rowOf t) [] ds 0++aK E.ρ (rowOf t) [] (L.drop (n+mm)) 0):=by
   unfold dN
   rw [he1,aX,lI,lI,List.append_assoc]
  rw [this,hc,← hlA]
  refine Yh ?_
  rw [bU (mV _),bU (mV _),List.length_take,List.length_drop,hds]
  congr 1
  omega
 obtain⟨w',g1,g2,g3⟩:=oP (P:=P) rc (by rw [Hp.get_put,if_pos rfl]) hsl hv h1
 have al1:U4 (H.put id (.cells (dN E.ρ e0 t []) Hq)) H:=(U4.put hl).symm
 have al2:U4 ((H.put id (.cells (dN E.ρ e0 t []) Hq)).put id (.cells (dN E.ρ e1 t []) Hq)) (H.put id (.vec e1 t Hq [])):=by
  refine⟨fun j y hj=>?_,fun j y hj=>?_,rfl,rfl⟩
  ·rw [Hp.get_put]
   split
   ·exact⟨_,rfl⟩
   ·rename_i hne
    rw [Hp.get_put,if_neg hne,Hp.get_put,if_neg hne] at hj
    exact⟨y,hj⟩
  ·rw [Hp.get_put] at hj ⊢
   split
   ·exact⟨_,rfl⟩
   ·rename_i hne
    rw [if_neg hne] at hj
    rw [Hp.get_put,if_neg hne]
    exact⟨y,hj⟩
 have hcells:=(g3.live id _ (by rw [Hp.get_put,if_pos rfl])).2.1
 have hor:OR E w'.heap id (.vec e1 t Hq []):=by
  refine OR.yB.2 ⟨⟨mV _,?_⟩,hcells⟩
  rw [he1]
  refine⟨by rw [aX],?_,?_⟩
  ·rw [aX]
   intro d hd
   rcases List.mem_append.1 hd with hd | hd
   ·rcases List.mem_append.1 hd with hd | hd
    ·exact hw.2.1 d (by rw [hL]; exact List.mem_of_mem_take hd)
    ·exact hwf d hd
   ·exact hw.2.1 d (by rw [hL]; exact List.mem_of_mem_drop hd)
  ·rw [aX]
   intro q
   have:=congrArg List.length q
   simp only [List.length_append,List.length_take,List.length_drop,List.length_nil,hds] at this
   have hne:=List.length_pos_iff.2 hw.2.2
   rw [hL] at hne
   omega
 refine⟨w',g1,(g2.left al1).right al2,?_⟩
 exact g3.swap (id:=id) (by rw [Hp.get_put,if_pos rfl]) hor (by rw [Hp.get_put,if_pos rfl]) (fun j hj=>by rw [Hp.get_put,if_neg hj,Hp.get_put,if_neg hj,Hp.get_put,if_neg hj]) rfl rfl
theorem Xi [Glob] {s s':St} (r:bG E s.h w) (hp:bI E.ρ s.pc) {id t t1 t2 ty e:Nat} {e0 n1 m sd lo:SE} {Hq:TypeId} {ie:TI} {d2:TypeDesc} (hte:tX P e ie) (ht:P.underlying t1=some (.slice e)) (ht2:P.underlying t2=some d2) (hd2: ∀k,d2≠.int k)
 (hes:(rowOf t).es=ie.size) (hs0:ie.size≠0) (hl:s.h.get id=some (.vec e0 t Hq [])) (hlo:isZ lo=true) {u u2:Value} {us:Array Value} {ds:List D} (hx:VR E w.heap (.Ap id lo n1 t) u) {mm:Nat} (hm:m.den E.ρ=(mm:Int))
 (hds:ds.length=mm) (hsd:(dec (sd.den E.ρ)).l=ds) (hwf: ∀d∈ds,wF (rowOf t) d) {news:List AV} (src:Src P E w ie.size mm news u2 us) (hv:bJ E w.heap (aK E.ρ (rowOf t) [] ds 0) us.toList) {v:AV} (h:(adL id t Hq e0 n1 m sd s).leaf E.ρ=some (v,s')) :
 s'.slots=s.slots∧bI E.ρ s'.pc∧∃z w' E',(Builtin.append_ #[t1,t2] ty #[u,u2]).run P w= .ok z w'∧Stp E s.h w E' s'.h w'∧bG E' s'.h w'∧VR E' w'.heap v z:=by
 unfold adL at h
 obtain⟨pc',hp',g1,g2,g3,g4⟩:=Ia hp h
 have:=aF g4
 simp only [Prod.mk.injEq] at this
 obtain⟨rfl,rfl⟩:=this
 have hlo:=MK hlo
 subst hlo
 have hx0:=hx
 simp only [VR] at hx
 obtain⟨hid,l0,k,a,cap,q1,q2,rfl,q4,q5⟩:=hx
 simp only [SE.den] at q1
 have hl0:l0=0:=by omega
 subst hl0
 rw [Nat.zero_mul] at q5
 obtain⟨rfl,hroom⟩:=agT r hl (by rw [hes]; exact hs0) q5
 have hle:k+mm≤(dec (e0.den E.ρ)).l.length:=by omega
 obtain⟨inf,d,z,h1,h2,h3,h4,h5,h6,h7,h8⟩:=hte.all
 obtain⟨w',f1,f2,f3⟩:=KG (P:=P) r hl (n:=k) hle hds hwf hv src.ones (e1:=.op .cat (.op .cat (.op .take e0 n1) sd) (.op .drop e0 (yF n1 m))) (by
  have hn:((k:Int)+(mm:Int)).toNat=k+mm:=by omega
  simp only [SE.den,aG.den,aC,aX,uJ,kP,q2,hm,hn,hsd,Int.toNat_natCast])
 refine⟨rfl,hp',.slice (some ⟨(E.θ id).1,(E.θ id).2,none⟩) (k+mm) cap,w',E,?_,f2,f3,?_⟩
 ·exact nD (s:=ie.size) ht ht2 hd2 h1 h5 src (by omega) (by simp only [fH]; rw [← hes]; exact f1)
 ·simp only [VR]
  refine⟨hid,0,k+mm,_,_,rfl,by rw [uJ,q2,hm]; rfl,rfl,by omega,?_⟩
  rw [Nat.zero_mul]
  simp only [fJ] at q5 ⊢
  rcases q5 with q5 | q5
  ·exact .inl q5
  ·have hne:=List.length_pos_iff.2 (OR.yB.1 (r.live id _ hl).2.1).1.2.2.2
   omega
theorem WM [Glob] {tt:TT} (htt:eG P tt) {s s':St} (r:bG E s.h w) (hp:bI E.ρ s.pc) {t t2 ty id t':Nat} {lo n1:SE} {y v:AV} {u u2:Value} (hlo:isZ lo=true) (hx:VR E w.heap (.Ap id lo n1 t') u) (hy:VR E w.heap y u2) (h:(NK tt t t2 id n1 t' y s).leaf E.ρ=some (v,s')) :
 s'.slots=s.slots∧bI E.ρ s'.pc∧∃z w' E',(Builtin.append_ #[t,t2] ty #[u,u2]).run P w= .ok z w'∧Stp E s.h w E' s'.h w'∧bG E' s'.h w'∧VR E' w'.heap v z:=by
 unfold NK at h
 split at h
 ·rename_i ti hti
  split at h
  ·rename_i e hk
   split at h
   ·rename_i ie hie
    split at h
    ·simp [T.leaf] at h
    ·rename_i ti2 alM
     obtain⟨d2,hd2,hk2⟩:=xR (htt t2 ti2 alM)
     split at h
     ·simp [T.leaf] at h
     ·rename_i k2 hne
      have Wi: ∀k,d2≠.int k:=by
       intro k hd
       subst hd
       cases hkk:ti2.kind <;> rw [hkk] at hk2 <;> simp only [RZ] at hk2
       exact hne _ hkk
      split at h
      ·simp [T.leaf] at h
      ·rename_i hcond
       simp only [not_or,Classical.not_not] at hcond
       obtain⟨hs0,hb0,hzl,hes⟩:=hcond
       have hte:=htt e ie hie
       have hu:=fK (htt t ti hti) hk
       split at h
       ·simp [T.leaf] at h
       ·rename_i e0 Hq hva
        have hl:=yJ hva
        split at h
        ·rename_i id2 lo2 n2 t2'
         split at h
         ·rename_i hi2
          split at h
          ·rename_i ht2
           have hi2:=Nat.eq_of_beq_eq_true hi2
           have ht2:=Nat.eq_of_beq_eq_true ht2
           subst hi2 ht2
           obtain⟨pc1,hp1,g1,g2,g3,g4⟩:=Ia hp h
           have hy0:=hy
           simp only [VR] at hy
           obtain⟨hid,l,k,a,cap,q1,q2,rfl,q4,q5⟩:=hy
           obtain⟨rc,ho,hw⟩:=r.yB hl
           generalize hL:(dec (e0.den E.ρ)).l=L at *
           have hlk:l+k≤L.length:=by omega
           have hsp:L=L.take l++((L.take (l+k)).drop l++L.drop (l+k)):=by
            conv=>lhs; rw [← List.take_append_drop (l+k) L]
            conv=>lhs; rw [← List.take_append_drop l (L.take (l+k))]
            rw [List.take_take,List.append_assoc]
            congr 2
            omega
           have hcc:dN E.ρ e0 t2' []=aK E.ρ (rowOf t2') [] (L.take l) 0++(aK E.ρ (rowOf t2') [] ((L.take (l+k)).drop l) 0++aK E.ρ (rowOf t2') [] (L.drop (l+k)) 0):=by
            unfold dN
            rw [hL]
            conv=>lhs; rw [hsp]
            rw [lI,lI]
           have hlA:(aK E.ρ (rowOf t2') [] (L.take l) 0).length=l*(rowOf t2').es:=by
            rw [bU (mV _),List.length_take]
            congr 1
            omega
           have hlen:((L.take (l+k)).drop l).length=k:=by rw [List.length_drop,List.length_take]; omega
           have hlB:(aK E.ρ (rowOf t2') [] ((L.take (l+k)).drop l) 0).length=k*(rowOf t2').es:=by
            rw [bU (mV _),hlen]
           have hy1:VR E w.heap (.slice id2 (l*(rowOf t2').es) k (.rest (rowOf t2').es)) (.slice (some a) k cap):=by
            simp only [VR]
            exact⟨hid,a,cap,rfl,q4,q5⟩
           obtain⟨us,src⟩:=vP (P:=P) rc hy1 (s:=ie.size) (m:=k) (news:=aK E.ρ (rowOf t2') [] ((L.take (l+k)).drop l) 0) (by
            simp only [wW,qH,Hp.get_put,if_true]
            rw [hcc,← hlA,zS]
            simp only
            rw [← hes,← hlB,OY]
            rfl)
           refine Xi (s:={ s with pc:=pc1 }) r hp1 hte hu hd2 Wi hes hs0 hl hlo hx q2 hlen (by rw [LQ q1 q2,kP,hL]) (fun d hd=>hw.2.1 d ?_) src src.vrs g4
           rw [hL]
           exact List.mem_of_mem_take (List.mem_of_mem_drop hd)
          ·simp [T.leaf] at h
         ·simp [T.leaf] at h
        ·split at h
         ·simp [T.leaf] at h
         ·rename_i m news hsrc
          obtain⟨us,src⟩:=vP (P:=P) r hy hsrc
          split at h
          ·simp [T.leaf] at h
          ·rename_i m'
           split at h
           ·split at h
            ·rename_i sd hcr
             obtain⟨ds,c1,c2,c3,c4,c5⟩:=BM (ρ:=E.ρ) _ hcr
             simp only [SE.den,aC,D.l,List.nil_append] at c2
             exact Xi r hp hte hu hd2 Wi hes hs0 hl hlo hx (mm:=m'+1) (by simp only [SE.den]; rfl) c1 c2 c4 src (c5 E w.heap _ 0 rfl src.vrs) h
            ·simp [T.leaf] at h
           ·simp [T.leaf] at h
   ·simp [T.leaf] at h
  ·simp [T.leaf] at h
 ·simp [T.leaf] at h
theorem Jp [Glob] {tt:TT} (htt:eG P tt) {s s':St} (r:bG E s.h w) (hp:bI E.ρ s.pc) {t ty id t':Nat} {lo n:SE} {v:AV} {u:Value} (hx:VR E w.heap (.Ap id lo n t') u) (h:(Gp tt t id lo n t' s).leaf E.ρ=some (v,s')) :
 s'.slots=s.slots∧bI E.ρ s'.pc∧v=AV.undef∧∃w' E',(Builtin.clear_ #[t] ty #[u]).run P w= .ok (.tuple #[]) w'∧Stp E s.h w E' s'.h w'∧bG E' s'.h w':=by
 unfold Gp at h
 split at h
 ·rename_i ti hti
  split at h
  ·rename_i e hk
   have hu:=fK (htt t ti hti) hk
   split at h
   ·rename_i ie hie
    obtain⟨inf,d,z,h1,h2,h3,h4,h5,h6,h7,h8⟩:=(htt e ie hie).all
    have hz:=fD (E:=E) (h:=w.heap) h4
    split at h
    ·rename_i hcond
     obtain⟨hes,hs0⟩:=hcond
     split at h
     ·simp [T.leaf] at h
     ·rename_i e0 Ho hva
      have hl:=yJ hva
      split at h
      ·simp [T.leaf] at h
      ·rename_i zz hzz
       obtain⟨pc1,hp1,g1⟩:=cO hp h
       split at g1
       ·simp [T.leaf] at g1
       ·rename_i t1
        obtain⟨pc2,hp2,g2⟩:=cO (s:={ s with pc:=pc1 }) hp1 g1
        split at g2
        ·simp [T.leaf] at g2
        ·rename_i t2
         obtain⟨pc3,hp3,g3⟩:=cO (s:={ s with pc:=pc2 }) hp2 g2
         split at g3
         ·simp [T.leaf] at g3
         ·rename_i t3
          have:=aF g3
          simp only [Prod.mk.injEq] at this
          obtain⟨rfl,rfl⟩:=this
          rw [dV,decide_eq_false_iff_not] at t1 t2
          rw [lN,beq_iff_eq,uJ,dD] at t3
          simp only [VR] at hx
          obtain⟨hid,l,k,a,cap,q1,q2,rfl,q4,q5⟩:=hx
          have hlk:l+k=(dec (e0.den E.ρ)).l.length:=by omega
          have hn0:(dec (e0.den E.ρ)).l.length - l=k:=by omega
          have hwz:=Ac (ρ:=E.ρ) hzz
          have hrz:DI E.ro w.heap (rowOf t') (dec (zz.den E.ρ)) z.cells.toList:=Ad hz.1 hzz
          have aET:bJ E w.heap (jB (rowOf t') (.dat (dec (zz.den E.ρ)))) z.cells.toList:=by
           rw [gV]
           simp only [SE.den,aC]
           exact hrz
          have hrep: ∀m:Nat,aK E.ρ (rowOf t') [] (List.replicate m (dec (zz.den E.ρ))) 0=repeatL (jB (rowOf t') (.dat (dec (zz.den E.ρ)))) m:=by
           intro m
           induction m with
           | zero=>rfl
           | succ m ih=>
             simp only [List.replicate_succ,aK,dQ,repeatL]
             rw [mZ _ 1 0,ih]
          have hv:bJ E w.heap (aK E.ρ (rowOf t') [] (List.replicate k (dec (zz.den E.ρ))) 0) (repeatL z.cells.toList k):=by
           rw [hrep]
           exact pJ aET k
          obtain⟨w',f1,f2,f3⟩:=KG (P:=P) r hl (n:=l) (mm:=k) (by omega) (List.length_replicate) (fun d hd=>by rw [List.eq_of_mem_replicate hd]; exact hwz) hv (fun u hu=>hz.2 u (pI hu)) (e1:=.op .fill e0 (gQ (Hw lo) zz)) (by
           simp only [gQ,SE.den,aG.den,aC,oK,D.n,q1,Int.toNat_natCast,hn0,hlk]
           rw [List.drop_length,List.append_nil])
          refine⟨rfl,hp3,rfl,w',E,?_,f2,f3⟩
          rcases Nat.eq_zero_or_pos k with hk0 | hk0
          ·subst hk0
           simp only [repeatL] at f1
           have:w'=w:=by
            simp [storeCells] at f1
            exact f1.symm
           subst this
           simp [Builtin.clear_,run_underlying hu]
          ·have ha:a=⟨(E.θ id).1,(E.θ id).2+l*(rowOf t').es,none⟩:=by
            simp only [fJ] at q5
            rcases q5 with q5 | q5
            ·exact q5.1
            ·omega
           have aAB:z.cells.toList≠[]:=by
            intro hx
            have:=DI.length hrz
            rw [hx] at this
            simp at this
            omega
           have hzc:(Builtin.zeroCells z.cells k).toList=repeatL z.cells.toList k:=Aw z.cells aAB k
           subst ha
           obtain⟨j,rfl⟩ : ∃j,k=j+1:=⟨k - 1,by omega⟩
           simp [Builtin.clear_,run_underlying hu,zeroValue,typeInfo,h1,h3,hzc,f1]
    ·simp [T.leaf] at h
   ·simp [T.leaf] at h
  ·simp [T.leaf] at h
 ·simp [T.leaf] at h
end
end Go.As
end

import Derived.Test.YtlgfoolepdjmoaaGreatDoorAsZT0
set_option linter.unusedSectionVars false
set_option linter.unusedVariables false
set_option linter.unusedSimpArgs false
section
namespace Go.As
section
variable {P:Program} {E:En} {w:World}
theorem bO.swap [bH] {H H2:Hp} (r:bO E H w) {id:Nat} {o o':dN} (Y:H.get id=some o) (ho:OR E w.heap id o') (hg:H2.get id=some o') (hs: ∀j,j≠id->H2.get j=H.get j) (hn:H2.next=H.next) (hr:H2.res=H.res):bO E H2 w:=by
 have key: ∀j x,H2.get j=some x->∃y,H.get j=some y:=by
  intro j x hj
  grind
 refine⟨fun i hi=>r.fresh i (by rw [<- hn]; exact hi),fun q hq=>by rw [hn]; exact r.res q (by rw [<- hr]; exact hq),fun j x hj=>?_,fun i j x y hi hj he=>?_,r.qt,r.iY,?_⟩
 ·by_cases h:j=id
  ·subst h;rw [hg] at hj;simp only [ah] at hj;subst hj;exact⟨(r.live j o Y).1,ho,(r.live j o Y).2.2⟩
  ·exact r.live j x (by rw [<- hs j h]; exact hj)
 ·obtain⟨x',hx⟩:=key i x hi;obtain⟨y',hy⟩:=key j y hj;exact r.inj i j x' y' hx hy he
 ·intro b x hb;obtain⟨q1,q2,q3⟩:=r.hid b x hb;refine⟨q1,q2,fun j y hj=>?_⟩;obtain⟨y',hy⟩:=key j y hj;exact q3 j y' hy
structure F3 (H H2:Hp):Prop where
 ab: ∀j x,H.get j=some x->∃y,H2.get j=some y
 ba: ∀j x,H2.get j=some x->∃y,H.get j=some y
 next:H2.next=H.next
 res:H2.res=H.res
theorem F3.put {H:Hp} {id:Nat} {o o':dN} (Y:H.get id=some o):F3 H (H.put id o'):=by
 refine⟨fun j x hj=>?_,fun j x hj=>?_,rfl,rfl⟩
 all_goals grind [Hp.bQ]
theorem F3.symm {H H2:Hp} (a:F3 H H2):F3 H2 H:=⟨a.ba,a.ab,a.next.symm,a.res.symm⟩
theorem eU.left {H H2 H':Hp} {E':En} {w':World} (a:F3 H H2) (s:eU E H w E' H' w'):eU E H2 w E' H' w':=
 ⟨s.ρ,s.dm,s.θ,s.κ,s.ro,fun b hb=>(s.ru b hb).imp id (Or.imp (fun⟨i,o,U,Z⟩=>by obtain⟨y,hy⟩:=a.ab i o U; exact⟨i,y,hy,Z⟩) id),by rw [a.next]; exact s.N3,by rw [a.res]; exact s.rsm,
  fun i hi=>by rw [a.next,a.res]; exact s.f_ i hi,s.os,s.tape,s.output,s.size,fun b hb hn=>s.keep b hb fun i o ho=>by obtain⟨y,hy⟩:=a.ab i o ho; exact hn i y hy,
  fun i o ho ff=>by obtain⟨i0,o0,U,Z⟩:=s.own i o ho ff; obtain⟨y,hy⟩:=a.ab i0 o0 U; exact⟨i0,y,hy,Z⟩,s.hd⟩
theorem eU.right {H H' H2:Hp} {E':En} {w':World} (a:F3 H' H2) (s:eU E H w E' H' w'):eU E H w E' H2 w':=
 ⟨s.ρ,s.dm,s.θ,s.κ,s.ro,s.ru,by rw [a.next]; exact s.N3,by rw [a.res]; exact s.rsm,
  fun i hi=>by rw [a.next]; exact s.f_ i hi,s.os,s.tape,s.output,s.size,s.keep,
  fun i o ho ff=>by obtain⟨y,hy⟩:=a.ba i o ho; exact s.own i y hy ff,s.hd⟩
theorem dS.of {ro:Nat->Prop} {h:Array Obj} {d:D} (f:Nat->Value): ∀(cs:List CK) (j:Nat),(∀i c,cs[i]?=some c->iI ro h c (d.hd (j+i)) (f (j+i)))->dS ro h cs j d ((List.range' j cs.length).map f)
 |[],j,_=>by simp [dS]
 |c::cs,j,hh=>by
  simp only [aM,List.range'_succ,aw,dS];refine⟨f j,_,rfl,by simpa using hh 0 c ad,dS.of f cs (j+1) fun i c' hi=>?_⟩;have:=hh (i+1) c' (by simpa using hi)
  grind
theorem Rd.row {ro:Nat->Prop} {h:Array Obj} {t:Nat} {d:D} {v:Value} (r:Rd ro h (.sl t) d v) {i:Nat} {x:D} (hi:d.l[i]?=some x) :
 ∃b o cap us,v= .slice (some ⟨b,o,none⟩) d.l.length cap/\ro b/\uh ro h (rowOf t) x us/\fS h b (o+i*(rowOf t).es) us:=by
 generalize hc:CK.sl t=c at r
 cases r with
 |int k n=>simp at hc
 |bool b=>simp at hc
 |str s=>simp at hc
 |nil t=>simp [D.l] at hi
 |uQ t a cap=>simp [D.l] at hi
 |one t' c b o cap ds f hr fZ hb U Z=>
  simp only [CK.sl.injEq] at hc;subst hc;rw [bJ] at hi ⊢;refine⟨b,o,cap,[f i],rfl,hb,?_,?_⟩
  ·rw [hr];exact⟨_,rfl,(Z i x hi).cell⟩
  ·rw [hr];intro j u hj
   grind [Row.es]
 |many t' cs b o cap rows f hr fZ hb Y U Z=>
  simp only [CK.sl.injEq] at hc;subst hc;rw [bJ] at hi ⊢;rw [bp,aQ] at hi;obtain⟨row,iR,rfl⟩:=hi;have hlen:=Y row (amQ iR);refine⟨b,o,cap,(List.range' 0 cs.length).map (f i),ad,hb,?_,?_⟩
  ·rw [hr];refine dS.of (f i) cs 0 fun j c hj=>?_;have hjl:j<row.length:=by rw [hlen]; exact (aX.1 hj).1
   have hd:row[j]?=some row[j]:=aO hjl;rw [aA];have:(dL row).hd j=row[j]:=by simp [D.hd,hd]
   rw [this];exact (Z i row j _ c iR hd hj).cell
  ·rw [hr];intro j u hj;rw [bp,aQ] at hj;obtain⟨k,hk,rfl⟩:=hj
   have hjl:j<cs.length:=by
    grind
   rw [List.getElem?_range' hjl] at hk;simp only [ah] at hk;obtain rfl:k=j:=J
   have hd:row[k]?=some row[k]:=aO J;exact U i row k _ iR hd
theorem Bi (ρ:Nat->Int) (e i:V) {x:D} {k:Nat} (hi:i.den ρ=(k:Int)) (hx:(dec (e.den ρ)).l[k]?=some x):dec ((V.op .at e i).den ρ)=x:=by simp only [V.den,e9.den,bB,D.at,hi,bd,hx,aC]
theorem nr {tt:TT} (cI:eC P tt) {ty z:Nat} (h:tn tt ty=some z): ∃el ie,P.underlying ty=some (.slice el)/\tt el=some ie/\ie.size=z:=by
 unfold tn at h;split at h
 ·rename_i ti fP;split at h
  ·rename_i el hk;simp only [iz,aQ] at h;obtain⟨ie,kO,rfl⟩:=h;exact⟨el,ie,fg (cI ty ti fP) hk,kO,rfl⟩
  grind
 grind
theorem OZ {tt:TT} (cI:eC P tt) {s s':St} (hp:bV E.ρ s.pc) {ty t:Nat} {e:V} {ix v:W} {u ui:Value} (hx:VR E w.heap (.ei e t) u) (zo:VR E w.heap ix ui) (h:(JD tt s ty t e ix).leaf E.ρ=some (v,s')) :
 s'.bF=s.bF/\s'.h=s.h/\bV E.ρ s'.pc/\∃r,(Instr.indexAt ty u ui).run P w= .ok r w/\VR E w.heap v r:=by
 unfold JD at h;split at h
 ·rename_i kd i;split at h
  ·rename_i z hz;split at h
   ·rename_i lr;obtain⟨ec,fB,U,Z,h3⟩:=ny hp h;have:=bD h3;simp only [ak] at this;obtain⟨rfl,rfl⟩:=this;refine⟨rfl,rfl,fB,?_⟩;rw [cm] at Z;simp only [VR] at hx zo;subst zo;obtain⟨el,ie,hu,kO,rfl⟩:=nr cI hz;obtain⟨k,hk⟩ : ∃k:Nat,i.den E.ρ=(k:Int):=⟨(i.den E.ρ).toNat,J⟩;have ff:k<(dec (e.den E.ρ)).l.length:=J
    have hd:(dec (e.den E.ρ)).l[k]?=some (dec (e.den E.ρ)).l[k]:=aO ff;obtain⟨b,o,cap,us,rfl,g1,g2,g3⟩:=hx.row hd;refine⟨.pointer (some ⟨b,o+k*ie.size,none⟩),?_,?_⟩
    ·rw [hk];simp [Instr.indexAt,asIntOf,run_underlying hu,eA (cI el ie kO),ff,fb]
    ·simp only [VR];exact⟨b,_,us,rfl,g1,by rw [fA,Bi E.ρ e i hk hd]; exact g2,by rw [lr]; exact g3,g2.rN⟩
   grind [T.leaf]
  grind [T.leaf]
 grind [T.leaf]
theorem OG {tt:TT} (cI:eC P tt) {s s':St} (hp:bV E.ρ s.pc) {ty t id:Nat} {n:V} {ix v:W} {u ui:Value} (hx:VR E w.heap (.ow id n t) u) (zo:VR E w.heap ix ui) (h:(Jq tt s ty id t n ix).leaf E.ρ=some (v,s')) :
 s'.bF=s.bF/\s'.h=s.h/\bV E.ρ s'.pc/\∃r,(Instr.indexAt ty u ui).run P w= .ok r w/\VR E w.heap v r:=by
 unfold Jq at h;split at h
 ·rename_i kd i;split at h
  ·rename_i z hz;split at h
   ·rename_i lr;obtain⟨ec,fB,U,Z,h3⟩:=ny hp h;have:=bD h3;simp only [ak] at this;obtain⟨rfl,rfl⟩:=this;refine⟨rfl,rfl,fB,?_⟩;simp only [VR] at hx zo;subst zo;obtain⟨hid,m,a,cap,hn,rfl,fW,hc⟩:=hx;obtain⟨el,ie,hu,kO,rfl⟩:=nr cI hz;obtain⟨k,hk⟩ : ∃k:Nat,i.den E.ρ=(k:Int):=⟨(i.den E.ρ).toNat,J⟩;have ff:k<m:=J
    have ha:a=⟨(E.θ id).1,(E.θ id).2,none⟩:=by
     simp only [eD] at hc
     grind
    subst ha;refine⟨.pointer (some ⟨(E.θ id).1,(E.θ id).2+k*ie.size,none⟩),?_,?_⟩
    ·rw [hk];simp [Instr.indexAt,asIntOf,run_underlying hu,eA (cI el ie kO),ff,fb]
    ·simp only [VR]
     grind
   grind [T.leaf]
  grind [T.leaf]
 grind [T.leaf]
theorem nJ {ρ:Nat->Int} {pc:List (SB×Bool)} (hp:bV ρ pc) {f? cs:List W} {i:V} {k:Nat} (hi:i.den ρ=(k:Int)): ∀{ov:List (V×List W)},nL pc f? i ov=some cs->
 dW ρ k ov=some cs\/(dW ρ k ov=none/\cs=f?)
 |[],h=>by simp only [nL,ah] at h; exact .inr ⟨rfl,h.symm⟩
 |(j,c)::l,h=>by
  simp only [nL] at h;simp only [dW];split at h
  ·rename_i he
   grind [cG]
  ·split at h
   ·rename_i b hd;have hd:=gD hp hd;rw [gG] at hd;split at h
    ·grind
    ·rw [beq_eq_false_iff_ne,hi] at hd;rw [af (fun q=>hd q.symm)];exact nJ hp hi h
   grind
theorem vI {α:Type} {ρ:Nat->Int} {i:V} {r:α}: ∀{ov:List (V×List W)} {s:St} {k:St->T α},bV ρ s.pc->(uz i ov s k).leaf ρ=some r->∃ec,bV ρ ec/\(k { s with pc:=ec }).leaf ρ=some r
 |[],s,k,hp,h=> ⟨s.pc,hp,h⟩
 |(j,c)::l,s,k,hp,h=>by
  simp only [uz] at h;split at h
  ·exact⟨s.pc,hp,h⟩
  ·obtain⟨fI,fu,U⟩:=cC hp h;split at U
   ·grind
   ·exact vI (s:={ s with pc:=fI }) fu U
theorem jg {ρ:Nat->Int} {r:Row} {ov:List (V×List W)} (ho:sK r ov): ∀{ds:List D} {j k:Nat} {x:D},ds[k]?=some x->
 bE ρ r ov ds j=bE ρ r ov (ds.take k) j++((match dW ρ (j+k) ov with |some cs=>cs|none=>gz r (.ei x))++bE ρ r ov (ds.drop (k+1)) (j+k+1))/\(bE ρ r ov (ds.take k) j).length=k*r.es
 |[],j,k,x,h=>by simp at h
 |d::ds,j,0,x,h=>by
  simp only [aF,ah] at h;subst h;refine⟨?_,by simp [bE]⟩;simp only [List.take_zero,bE,ay,bj,aow,am4]
  try rfl
 |d::ds,j,k+1,x,h=>by
  have h':ds[k]?=some x:=by simpa using h
  have hk:k<ds.length:=(aX.1 h').1;obtain⟨U,Z⟩:=jg (ρ:=ρ) ho (j:=j+1) h';refine⟨?_,?_⟩
  ·simp only [anC,bE,am8,aow]
   grind
  grind [cD]
theorem tq {α:Type}: ∀(a b:List α),eF a.length (a++b)=some b
 |[],_=>rfl
 |x::a,b=>by simp [eF,tq a b]
theorem EV {α:Type}: ∀{n:Nat} {a b l:List α},eF n a=some l->eF n (a++b)=some (l++b)
 |0,a,b,l,h=>by simp only [eF,ah] at h ⊢; rw [h]
 |n+1,[],b,l,h=>by simp [eF] at h
 |n+1,x::a,b,l,h=>by simp only [eF,aR] at h ⊢; exact EV h
theorem Df {α:Type}: ∀{n:Nat} {a b l:List α},iy n a=some l->iy n (a++b)=some l
 |0,a,b,l,h=>by simp only [iy] at h ⊢; exact h
 |n+1,[],b,l,h=>by simp [iy] at h
 |n+1,x::a,b,l,h=>by
  simp only [iy,aR] at h ⊢;split at h
  ·rename_i l' Y;rw [Df Y];exact h
  grind
theorem HJ {α:Type}: ∀{a b:Nat} {l m:List α},eF a l=some m->eF (a+b) l=eF b m
 |0,b,l,m,h=>by simp only [eF,ah] at h; subst h; rw [aA]
 |a+1,b,[],m,h=>by simp [eF] at h
 |a+1,b,x::l,m,h=>by rw [show a+1+b=(a+b)+1 by omega];simp only [eF] at h ⊢;exact HJ h
noncomputable def cK (ρ:Nat->Int) (e:V) (t:Nat) (ov:List (V×List W)):List W:=bE ρ (rowOf t) ov (dec (e.den ρ)).l 0
theorem OR.om {h:Array Obj} {id:Nat} {e:V} {t:Nat} {ty:TypeId} {ov:List (V×List W)}:OR E h id (.vec e t ty ov)↔(sK (rowOf t) ov/\sg (rowOf t) (dec (e.den E.ρ)))/\OR E h id (.cells (cK E.ρ e t ov) ty):=by simp only [OR,cK]
theorem bO.om [bH] {H:Hp} (r:bO E H w) {id:Nat} {e:V} {t:Nat} {ty:TypeId} {ov:List (V×List W)} (Y:H.get id=some (.vec e t ty ov)):bO E (H.put id (.cells (cK E.ρ e t ov) ty)) w/\sK (rowOf t) ov/\sg (rowOf t) (dec (e.den E.ρ)):=by obtain⟨U,Z⟩:=OR.om.1 (r.live id _ Y).2.1;exact⟨r.swap Y Z (by rw [Hp.bQ,ag rfl]) (fun j hj=>by rw [Hp.bQ,af hj]) rfl rfl,U⟩
theorem xr {h:Array Obj} {r:Row} {x y:V} (hd:dec (x.den E.ρ)=dec (y.den E.ρ)) {us:List Value}:ct E h (gz r x) us↔ct E h (gz r y) us:=by
 grind [fA]
theorem m_ [bH] {H:Hp} (r:bO E H w) {id:Nat} {e i:V} {t:Nat} {ty:TypeId} {ov:List (V×List W)} (Y:H.get id=some (.vec e t ty ov)) {k:Nat} (hi:i.den E.ρ=(k:Int)) (hk:(k:Int)<(dM e).den E.ρ)
 {pc:List (SB×Bool)} (hp:bV E.ρ pc) {cs:List W} (hc:nL pc (gz (rowOf t) (.op .at e i)) i ov=some cs) :
 ∃pre row post,cK E.ρ e t ov=pre++(row++post)/\pre.length=k*(rowOf t).es/\row.length=(rowOf t).es/\(∀h us,ct E h row us↔ct E h cs us)/\cs.length=(rowOf t).es:=by
 obtain⟨_,ho,ry⟩:=r.om Y;rw [cm] at hk;have ff:k<(dec (e.den E.ρ)).l.length:=J
 have hd:(dec (e.den E.ρ)).l[k]?=some (dec (e.den E.ρ)).l[k]:=aO ff;obtain⟨U,Z⟩:=jg (ρ:=E.ρ) ho (j:=0) hd;refine⟨_,_,_,U,Z,?_⟩;rw [aA];rcases nJ hp hi hc with h3|⟨h3,rfl⟩
 ·rw [h3];obtain⟨p,p1,p2,_⟩:=kI h3;have:=ho p p1
  grind
 ·rw [h3];refine⟨gQ _ _,fun h us=>xr ?_,gQ _ _⟩;rw [Bi E.ρ e i hi hd];simp only [V.den,bB]
theorem TP {i:TI} {l m:List W} {v:W} (h:partOf i l=some v):partOf i (l++m)=some v:=by
 unfold partOf at h ⊢;split at h
 ·rename_i ha;rw [aQ] at h
  grind [Df]
 grind
theorem G0 [bH] {tt:TT} (cI:eC P tt) {H:Hp} (r:bO E H w) {id:Nat} {cs:List W} {e:TypeId} (Y:H.get id=some (.cells cs e)) {ty:Nat} {ti:TI} (fP:tt ty=some ti) {off:Nat} {l:List W} (hd:eF off cs=some l) {v:W} (hv:partOf ti l=some v) :
 ∃x,(loadVar ty ⟨(E.θ id).1,(E.θ id).2+off,none⟩).run P w= .ok x w/\VR E w.heap v x:=by
 have hld:A8 tt ty (.ptr id off) H=some v:=by
  unfold A8 partOf at *;rw [fP];simp only [mD,Y,hd];split at hv
  ·exact hv
  ·split at hv
   ·simp only [ah] at hv;subst hv;rfl
   grind
 have hid:=(r.live id _ Y).1;obtain⟨x,b,o,U,Z,h3⟩:=A7 cI r (p:=.ptr id off) (u:=.pointer (some ⟨(E.θ id).1,(E.θ id).2+off,none⟩)) (by simp only [VR]; exact⟨trivial,hid⟩) hld
 grind
theorem D0 {k:IntKind}: ∀{cs:List W} {ds:List D},D1 k cs=some ds->ds.length=cs.length/\∀(i:Nat),i<cs.length->∃n,ds[i]?=some (.i n)/\cs[i]?=some (.int k (.lit n))
 |[],ds,h=>by
  simp only [D1,ah] at h
  grind
 |v::vs,ds,h=>by
  simp only [D1] at h;split at h
  ·split at h
   ·rename_i k' n;split at h
    ·rename_i hk;subst hk;split at h
     ·rename_i ds' s7;simp only [ah] at h;subst h;obtain⟨U,Z⟩:=D0 s7
      grind
     grind
    grind
   grind
  grind
theorem Bc {α:Type}: ∀{i:Nat} {cs:List α} {a:α},cs[i]?=some a->∃l,eF i cs=some (a::l)
 |0,[],a,h=>by simp at h
 |0,c::cs,a,h=>by simp only [aF,ah] at h; subst h; exact⟨cs,rfl⟩
 |i+1,[],a,h=>by simp at h
 |i+1,c::cs,a,h=>Bc (cs:=cs) (by simpa using h)
theorem L4 {ρ:Nat->Int} {s s':St} {cs:List W} {e:V} {v:W} (hp:bV ρ s.pc) (h:(HB s cs e).leaf ρ=some (v,s')) :
 s'.bF=s.bF/\s'.h=s.h/\bV ρ s'.pc/\∃(i:Nat) (k:IntKind) (n:Int) (x:V),e.den ρ=(i:Int)/\i<cs.length/\cs[i]?=some (.int k (.lit n))/\v= .int k x/\x.den ρ=n:=by
 unfold HB at h;split at h
 ·grind [T.leaf]
 ·rename_i k hk;split at h
  ·grind [T.leaf]
  ·rename_i ds s7;obtain⟨U,Z⟩:=D0 s7;obtain⟨ec,fB,g1,g2,g3⟩:=ny hp h;simp only [T.leaf,ah,ak] at g3;obtain⟨rfl,rfl⟩:=g3;have g2':e.den ρ<(ds.length:Int):=by simpa [V.den] using g2
   have hi:e.den ρ=((e.den ρ).toNat:Int):=J
   have ff:(e.den ρ).toNat<cs.length:=J
   obtain⟨n,d1,d2⟩:=Z _ ff;refine⟨rfl,rfl,fB,_,k,n,_,hi,ff,d2,rfl,?_⟩;simp only [AA,V.den,e9.den,bB,D.at,bJ,d1,aC,D.n]
theorem OS [bH] {tt:TT} (cI:eC P tt) {s s':St} (r:bO E s.h w) (hp:bV E.ρ s.pc) {ty id es:Nat} {i:V} {off:Nat} {v:W} {u:Value} (hx:VR E w.heap (.yi id es i off) u) (h:(zL tt s ty id es i off).leaf E.ρ=some (v,s')) :
 s'.bF=s.bF/\s'.h=s.h/\bV E.ρ s'.pc/\∃x b o,u= .pointer (some ⟨b,o,none⟩)/\(loadVar ty ⟨b,o,none⟩).run P w= .ok x w/\VR E w.heap v x:=by
 unfold zL at h;split at h
 ·rename_i o Y;split at h
  ·rename_i cs ety;split at h
   ·rename_i ti fP;split at h
    ·simp [T.leaf] at h
    ·rename_i hb;simp only [Bool.or_eq_false_iff,Bool.not_eq_false'] at hb;have lr:=aq hb.1.2;have hof:=aq hb.2;subst lr hof;obtain⟨U,Z,h3,k,kd,n,x,g1,g2,g3,rfl,g5⟩:=L4 hp h;refine⟨U,Z,h3,?_⟩;simp only [VR] at hx;obtain⟨hid,k',hk,rfl⟩:=hx;have sZ:k'=k:=J
     subst sZ;obtain⟨l,hd⟩:=Bc g3;obtain⟨y,q1,q2⟩:=G0 (P:=P) cI r Y fP hd (v:=.int kd (.lit n)) (by unfold partOf; rw [hb.1.1]);refine⟨y,_,_,rfl,by rw [aob,bj]; exact q1,?_⟩;simp only [VR,V.den] at q2 ⊢;rw [q2,g5]
   ·simp [T.leaf] at h
  ·rename_i e t Aq ov;split at h
   ·rename_i ti fP;split at h
    ·rename_i lr;obtain⟨pc0,Yq,U,Z,h3⟩:=ny hp h;obtain⟨ec,fB,h3⟩:=vI (s:={ s with pc:=pc0 }) Yq h3;split at h3
     ·rename_i cs hc;split at h3
      ·rename_i l FT;obtain⟨e1,rfl⟩:=gK h3;refine⟨rfl,rfl,fB,?_⟩;simp only [VR] at hx;obtain⟨hid,k,hk,rfl⟩:=hx;obtain⟨pre,row,post,c1,c2,c3,c4,c5⟩:=m_ r Y hk (by rw [<- hk]; exact Z) fB hc;obtain⟨rc,ho,ry⟩:=r.om Y
       have iR:OR E w.heap id (.cells (pre++(cs++post)) Aq):=by have:=(rc.live id _ (by rw [Hp.bQ,ag rfl])).2.1;rw [c1] at this;simp only [OR] at this ⊢;obtain⟨arr,lo,hi,us,q1,q2,q3,q4,q5,q6,q7⟩:=this;refine⟨arr,lo,hi,us,q1,?_,q3,by simp only [aT,c3,c5] at q4 ⊢; exact q4,q5,q6,q7⟩;obtain⟨a,b,rfl,a1,a2⟩:=q2.split;obtain⟨a',b',rfl,b1,b2⟩:=a2.split;exact a1.append (((c4 _ _).1 b1).append b2)
       have r2:=r.swap (H2:=s.h.put id (.cells (pre++(cs++post)) Aq)) Y iR (by rw [Hp.bQ,ag rfl]) (fun j hj=>by rw [Hp.bQ,af hj]) rfl rfl
       have alN:eF (k*es+off) (pre++(cs++post))=some (l++post):=by rw [HJ (m:=cs++post) (by rw [<- lr,<- c2]; exact tq pre _)];exact EV FT
       obtain⟨x,g1,g2⟩:=G0 cI r2 (by rw [Hp.bQ,ag rfl]) fP alN (TP e1);exact⟨x,_,_,rfl,g1,g2⟩
      ·simp [T.leaf] at h3
     ·simp [T.leaf] at h3
    ·simp [T.leaf] at h
   ·simp [T.leaf] at h
  ·simp [T.leaf] at h
 ·simp [T.leaf] at h
end
theorem iI.rd {ro:Nat->Prop} {h:Array Obj} {c:CK} {d:D} {u:Value} (r:iI ro h c d u) (wf:oo c d):Rd ro h c d u:=by
 cases c with
 |int k=> simp only [iI,oo] at r wf;rw [wf,r];exact .int k d.n
 |bool=>
  simp only [iI,oo] at r wf;subst r;rcases wf with rfl|rfl
  ·exact .bool false
  ·exact .bool true
 |str=>exact r
 |sl t=>exact r
theorem dS.get {ro:Nat->Prop} {h:Array Obj} {d:D}: ∀{cs:List CK} {j:Nat} {us:List Value},dS ro h cs j d us->∀{k:Nat} {c:CK},cs[k]?=some c->∃u,us[k]?=some u/\iI ro h c (d.hd (j+k)) u
 |[],_,_,_,k,c,hk=>by simp at hk
 |c0::cs,j,us,hh,k,c,hk=>by
  simp only [dS] at hh;obtain⟨u,vs,rfl,U,Z⟩:=hh
  cases k with
  |zero=>
   grind
  |succ k=>
   obtain⟨x,h3,h4⟩:=Z.get (by simpa using hk)
   grind
theorem dS.length {ro:Nat->Prop} {h:Array Obj} {d:D}: ∀{cs:List CK} {j:Nat} {us:List Value},dS ro h cs j d us->us.length=cs.length
 |[],_,us,hh=>by simp only [dS] at hh; subst hh; rfl
 |c::cs,j,us,hh=>by simp only [dS] at hh;obtain⟨u,vs,rfl,_,Z⟩:=hh;simp [Z.length]
theorem dS.shift {ro:Nat->Prop} {h:Array Obj} {a b:D}: ∀{cs:List CK} {j:Nat} {us:List Value},dS ro h cs (j+1) (.p a b) us↔dS ro h cs j b us
 |[],_,us=>by simp only [dS]
 |c::cs,j,us=>by
  simp only [dS,zq];constructor
  ·rintro⟨u,vs,rfl,U,Z⟩;exact⟨u,vs,rfl,U,dS.shift.1 Z⟩
  ·rintro⟨u,vs,rfl,U,Z⟩;exact⟨u,vs,rfl,U,dS.shift.2 Z⟩
section
variable {P:Program} {E:En} {w:World}
theorem oY {ρ:Nat->Int} {c:CK} {v:W} {a:V} (h:lQ c v=some a):oo c (dec (a.den ρ)):=by
 unfold lQ at h;split at h
 ·split at h
  ·split at h
   ·simp only [ah] at h;subst h;simp only [oo,lz,bB,D.n]
   grind
  grind
 ·split at h
  ·split at h
   ·rename_i b;simp only [ah] at h;subst h;simp only [oo,V.den,bB]
    grind
   ·split at h
    ·split at h
     ·split at h
      ·simp only [ah] at h;subst h;simp only [oo,V.den,e9.den,bB]
       grind
      grind
     grind
    grind
   grind
  grind
 ·trivial
 ·trivial
theorem jI {h:Array Obj} {c:CK} {v:W} {u:Value} {a:V} (hv:VR E h v u) (hc:lQ c v=some a):iI E.ro h c (dec (a.den E.ρ)) u:=by
 unfold lQ at hc;split at hc
 ·split at hc
  ·split at hc
   ·rename_i hk;subst hk;simp only [ah] at hc;subst hc;simp only [VR] at hv;simp only [iI,lz,bB,D.n];exact hv
   grind
  grind
 ·split at hc
  ·split at hc
   ·rename_i b;simp only [ah] at hc;subst hc;simp only [VR,SB.den] at hv;subst hv;simp only [iI,V.den,bB];cases b<;>rfl
   ·split at hc
    ·split at hc
     ·split at hc
      ·rename_i x n hn;subst hn;simp only [ah] at hc;subst hc;simp only [VR,SB.den,V.den] at hv;subst hv;simp only [iI,V.den,e9.den,lz,bB,D.n];congr 2
       grind
      grind
     grind
    grind
   grind
  grind
 ·obtain⟨s,rfl,hs⟩:=yp hv hc;simp only [iI,hs];exact .str s
 ·split at hc
  ·split at hc
   ·rename_i ht;subst ht;simp only [ah] at hc;subst hc;exact hv
   grind
  ·simp only [ah] at hc;subst hc;simp only [VR] at hv;subst hv;simp only [iI,V.den,bB];exact .nil _
  ·split at hc
   ·rename_i ht;subst ht;simp only [ah] at hc;subst hc;simp only [VR] at hv;exact hv.2
   grind
  ·split at hc
   ·simp only [ah] at hc;subst hc;simp only [VR] at hv;obtain⟨_,a,cap,rfl,_⟩:=hv;simp only [iI,V.den,bB];exact .uQ _ _ _
   grind
  grind
theorem tE {ρ:Nat->Int}: ∀{cs:List CK} {vs:List W} {x:V},iu cs vs=some x->wF cs (dec (x.den ρ))
 |[],[],x,h=>by
  simp only [iu,ah] at h;subst h;refine⟨?_,?_,?_⟩
  ·simp only [V.den,bB]; rfl
  ·simp only [V.den,bB]; rfl
  grind
 |[],_::_,x,h=>by simp [iu] at h
 |_::_,[],x,h=>by simp [iu] at h
 |c::cs,v::vs,x,h=>by
  simp only [iu] at h;split at h
  ·grind
  ·rename_i a ha;split at h
   ·grind
   ·rename_i b hb;simp only [ah] at h;subst h;obtain⟨U,Z,h3⟩:=tE (ρ:=ρ) hb;refine⟨?_,?_,?_⟩
    ·simp only [eE,V.den,e9.den,bB,D.l,dL]
     grind
    ·simp only [eE,V.den,e9.den,bB,D.l,aM,Z]
    ·intro j c' y hj hy;simp only [eE,V.den,e9.den,bB,D.l] at hy
     cases j with
     |zero=> simp only [aF,ah] at hj hy;subst hj hy;exact oY ha
     |succ j=>exact h3 j c' y (by simpa using hj) (by simpa using hy)
theorem tF {h:Array Obj}: ∀{cs:List CK} {vs:List W} {us:List Value} {x:V},ct E h vs us->iu cs vs=some x->dS E.ro h cs 0 (dec (x.den E.ρ)) us
 |[],[],us,x,hv,hc=>by simp only [ct] at hv; subst hv; simp [dS]
 |[],_::_,_,x,_,hc=>by simp [iu] at hc
 |_::_,[],_,x,_,hc=>by simp [iu] at hc
 |c::cs,v::vs,us,x,hv,hc=>by
  simp only [iu] at hc;rw [bP] at hv;obtain⟨u,gx,rfl,U,Z⟩:=hv;split at hc
  ·grind
  ·rename_i a ha;split at hc
   ·grind
   ·rename_i b hb;simp only [ah] at hc;subst hc;simp only [dS,eE,V.den,e9.den,bB];refine⟨u,gx,rfl,by rw [zp]; exact jI U ha,?_⟩;rw [dS.shift];exact tF Z hb
theorem tC {ρ:Nat->Int} {r:Row} {cs:List W} {x:V} (h:qN r cs=some x):oH r (dec (x.den ρ)):=by
 unfold qN at h;split at h
 ·split at h
  ·exact oY h
  grind
 ·exact tE h
theorem tD {h:Array Obj} {r:Row} {cs:List W} {us:List Value} {x:V} (hv:ct E h cs us) (hc:qN r cs=some x):uh E.ro h r (dec (x.den E.ρ)) us:=by
 unfold qN at hc;split at hc
 ·split at hc
  ·rw [bP] at hv;obtain⟨u,gx,rfl,U,Z⟩:=hv;rw [fQ] at Z;subst Z;exact⟨u,rfl,jI U hc⟩
  grind
 ·exact tF hv hc
theorem qM {ρ:Nat->Int} {r:Row}: ∀(m:Nat) {e e1:V} {news:List W},kz r e m news=some e1->
 ∃ds:List D,ds.length=m/\(dec (e1.den ρ)).l=(dec (e.den ρ)).l++ds/\(dec (e.den ρ)=dL (dec (e.den ρ)).l->dec (e1.den ρ)=dL (dec (e1.den ρ)).l)/\(∀d∈ds,oH r d)/\
  ∀(E':En) (h:Array Obj) (us:List Value) (j:Nat),E'.ρ=ρ->ct E' h news us->ct E' h (bE ρ r [] ds j) us
 |0,e,e1,[],h=>by simp only [kz,ah] at h;subst h;exact⟨[],rfl,ad,id,ad,fun E' h us j _ hv=>by simpa [bE] using hv⟩
 |0,e,e1,_::_,h=>by simp [kz] at h
 |m+1,e,e1,news,h=>by
  simp only [kz] at h;split at h
  ·grind
  ·rename_i x hx;obtain⟨ds,U,Z,h3,h4,h5⟩:=qM (ρ:=ρ) m h;have hs:dec ((V.op .snoc e x).den ρ)=dL ((dec (e.den ρ)).l++ [dec (x.den ρ)]):=by simp only [V.den,e9.den,bB]
   refine⟨dec (x.den ρ)::ds,by simp [U],?_,fun _=>h3 (by rw [hs,bJ]),?_,?_⟩
   ·rw [Z,hs,bJ]; simp
   ·intro d hd;rcases ax.1 hd with rfl|hd
    ·exact tC hx
    grind
   ·intro E' h us j hρ hv;rw [<- anb r.es news] at hv;obtain⟨a,b,rfl,a1,a2⟩:=hv.split;simp only [bE,dW];refine ct.append ?_ (h5 E' h b (j+1) hρ a2);rw [fA];simp only [V.den,bB];have:=tD a1 hx
    grind
theorem PO {h:Array Obj} {id:Nat} {e:V} {t:Nat} {ty:TypeId} {ro:Nat->Prop} (jx: ∀b,E.ro b->ro b) (hb:ro (E.θ id).1) (ho:OR E h id (.vec e t ty [])) {k cap:Nat} {a:Addr} (hk:k=(dec (e.den E.ρ)).l.length) (fW:k<=cap)
 (hc:0<k->a=⟨(E.θ id).1,(E.θ id).2,none⟩):Rd ro h (.sl t) (dec (e.den E.ρ)) (.slice (some a) k cap):=by
 obtain⟨⟨qz,ry⟩,BQ⟩:=OR.om.1 ho;obtain⟨us,U,Z,h3⟩:=xi BQ;obtain⟨w1,w2,w3⟩:=ry;rcases anD k with h0|jT
 ·subst h0;exact absurd (amT hk.symm) w3
 ·have ha:a=⟨(E.θ id).1,(E.θ id).2,none⟩:=hc jT;subst ha;subst hk
  have iR: ∀(i:Nat) (x:D),(dec (e.den E.ρ)).l[i]?=some x->∃rs,uh ro h (rowOf t) x rs/\∀j u,rs[j]?=some u->us[i*(rowOf t).es+j]?=some u:=by
   intro i x hx;obtain⟨c1,c2⟩:=jg (ρ:=E.ρ) qz (j:=0) hx;unfold cK at U;rw [c1] at U;obtain⟨p,q,rfl,p1,p2⟩:=U.split;obtain⟨q1,q2,rfl,r1,r2⟩:=p2.split;have hp:=p1.length;rw [c2] at hp;refine⟨q1,?_,?_⟩
   ·have r1':ct E h (gz (rowOf t) (.ei x)) q1:=r1;rw [fA] at r1';simp only [V.den,bB] at r1'
    have mono: ∀c d u,iI E.ro h c d u->iI ro h c d u:=by
     intro c d u hh
     cases c with
     |int k=>exact hh
     |bool=>exact hh
     |str=>exact Rd.keep jx (fun _ _=>rfl) hh
     |sl t=>exact Rd.keep jx (fun _ _=>rfl) hh
    have ai0: ∀(cs:List CK) (j:Nat) (d:D) (us:List Value),dS E.ro h cs j d us->dS ro h cs j d us:=by
     intro cs
     induction cs with
     |nil=>intro j d us hh; exact hh
     |cons c cs ih=> intro j d us hh;obtain⟨u,vs,rfl,g1,g2⟩:=hh;exact⟨u,vs,rfl,mono _ _ _ g1,ih _ _ _ g2⟩
    cases hr:rowOf t with
    |one c=> rw [hr] at r1';obtain⟨u,rfl,g1⟩:=r1';exact⟨u,rfl,mono _ _ _ g1⟩
    |many cs=> rw [hr] at r1';exact ai0 _ _ _ _ r1'
   ·intro j u hj;rw [aox J,hp];rw [show i*(rowOf t).es+j-i*(rowOf t).es=j by omega];have:=(aX.1 hj).1;rw [aoQ this];exact hj
  rw [w1];simp only [bJ] at iR ⊢;generalize hL:(dec (e.den E.ρ)).l=L at *
  cases hr:rowOf t with
  |one c=>
   refine .one t c _ _ cap L (fun i=>(us[i]?).getD undef) hr fW hb ?_ ?_
   ·intro i d hd;obtain⟨rs,g1,g2⟩:=iR i d hd;rw [hr] at g1;obtain⟨u,rfl,g3⟩:=g1;have:=g2 0 u rfl;rw [hr] at this;simp only [Row.es,aob,bj] at this;rw [this];exact Z i u this
   ·intro i d hd;obtain⟨rs,g1,g2⟩:=iR i d hd;rw [hr] at g1;obtain⟨u,rfl,g3⟩:=g1;have:=g2 0 u rfl;rw [hr] at this;simp only [Row.es,aob,bj] at this;rw [this];have hw:=w2 d (amQ hd);rw [hr] at hw;exact g3.rd hw
  |many cs=>
   have hwr: ∀d∈L,wF cs d:=by intro d hd;have:=w2 d hd;rw [hr] at this;exact this
   have hLm:L=(L.map D.l).map dL:=by rw [am7];have:L.map (dL ∘ D.l)=L.map (fun d=>d):=anH fun d hd=>(hwr d hd).1.symm;rw [this,List.map_id']
   have hlen:(L.map D.l).length=L.length:=ad
   have ajJ:(L.map D.l).length<=cap:=by rw [hlen]; exact fW
   have goal:Rd ro h (.sl t) (dL ((L.map D.l).map dL)) (.slice (some ⟨(E.θ id).1,(E.θ id).2,none⟩) (L.map D.l).length cap):=by
    refine .many t cs _ _ cap (L.map D.l) (fun i j=>(us[i*cs.length+j]?).getD undef) hr ajJ hb ?_ ?_ ?_
    ·intro r hrm;rw [aH] at hrm;obtain⟨d,hd,rfl⟩:=hrm;exact (hwr d hd).2.1
    ·intro i r j d hi hj;rw [bp,aQ] at hi;obtain⟨x,hx,rfl⟩:=hi;obtain⟨rs,g1,g2⟩:=iR i x hx;rw [hr] at g1;have hjl:j<cs.length:=by rw [<- (hwr x (amQ hx)).2.1]; exact (aX.1 hj).1
     obtain⟨u,g3,g4⟩:=dS.get g1 (aO hjl);have:=g2 j u g3;rw [hr] at this;simp only [Row.es] at this;rw [this,amR];exact Z _ u this
    ·intro i r j d c hi hj hcj;rw [bp,aQ] at hi;obtain⟨x,hx,rfl⟩:=hi;obtain⟨rs,g1,g2⟩:=iR i x hx;rw [hr] at g1;obtain⟨u,g3,g4⟩:=dS.get g1 hcj;have:=g2 j u g3;rw [hr] at this;simp only [Row.es] at this;rw [this];rw [aA] at g4;have hd:x.hd j=d:=by simp [D.hd,hj]
     rw [hd] at g4;exact g4.rd ((hwr x (amQ hx)).2.2 j c d hcj hj)
   rw [<- hLm,hlen] at goal;exact goal
theorem VJ {h:Array Obj} {id:Nat} {e:V} {t:Nat} {ty:TypeId} {ro:Nat->Prop} (jx: ∀b,E.ro b->ro b) (hb:ro (E.θ id).1) (ho:OR E h id (.vec e t ty [])) {k cap:Nat} {a:Addr} (hk:k=(dec (e.den E.ρ)).l.length) (fW:k<=cap)
 (hc:eD E id 0 k a cap (.rest (rowOf t).es)):Rd ro h (.sl t) (dec (e.den E.ρ)) (.slice (some a) k cap):=by
 refine PO jx hb ho hk fW fun jT=>?_;simp only [eD] at hc
 grind
structure Sub (H' H:Hp):Prop where
 get: ∀j o,H'.get j=some o->H.get j=some o
 next:H'.next=H.next
 res:H'.res=H.res
theorem Sub.refl (H:Hp):Sub H H:=⟨fun _ _ h=>h,rfl,rfl⟩
theorem Sub.trans {A B C:Hp} (a:Sub B A) (b:Sub C B):Sub C A:=⟨fun j o h=>a.get j o (b.get j o h),b.next.trans a.next,b.res.trans a.res⟩
theorem Sub.drop (H:Hp) (id:Nat):Sub (H.drop id) H:=by
 refine⟨fun j o hj=>?_,rfl,rfl⟩
 grind [Hp.kq]
theorem JS [bH] {H:Hp} (r:bO E H w) {id:Nat} {o:dN} (Y:H.get id=some o) :
 fy E w.heap { E with ro:=fun b=>E.ro b\/b=(E.θ id).1 } w.heap/\eU E H w { E with ro:=fun b=>E.ro b\/b=(E.θ id).1 } (H.drop id) w/\bO { E with ro:=fun b=>E.ro b\/b=(E.θ id).1 } (H.drop id) w:=by
 have hk:fy E w.heap { E with ro:=fun b=>E.ro b\/b=(E.θ id).1 } w.heap:=⟨rfl,fun _ h=>h,fun _ _=>rfl,fun _ _=>rfl,fun _ h=> .inl h,fun _ _=>rfl⟩
 have hg: ∀j o,(H.drop id).get j=some o->H.get j=some o/\j≠id:=by
  intro j o hj
  grind [Hp.kq]
 refine⟨hk,⟨rfl,fun _ h=>h,fun _ _=>rfl,fun _ _=>rfl,fun _ h=> .inl h,?_,au _,.inr rfl,fun _ h=> .inl h,rfl,rfl,rfl,au _,fun _ _ _=>rfl,fun j o hj _=> ⟨j,o,(hg j o hj).1,rfl⟩,rfl⟩,
  ⟨r.fresh,r.res,?_,?_,?_,bH.keep r.iY (fun _ h=> .inl h) (fun _ _=>rfl),fun b x hb=> ⟨(r.hid b x hb).1,fun h=>h.elim (r.hid b x hb).2.1 fun e=>(r.hid b x hb).2.2 id o Y e.symm,fun j o hj=>(r.hid b x hb).2.2 j o (hg j o hj).1⟩⟩⟩
 ·intro b hb
  grind
 ·intro j o hj;obtain⟨U,Z⟩:=hg j o hj;obtain⟨g1,g2,g3⟩:=r.live j o U;refine⟨g1,g2.keep hk g1 rfl (fun _ _ _ h=> ⟨h,rfl⟩),?_⟩;rintro (hb|hb)
  ·grind
  ·exact Z (r.inj j id o _ U Y hb)
 ·intro i j x y hi hj he;exact r.inj i j x y (hg i x hi).1 (hg j y hj).1 he
 ·intro b hb;rcases hb with hb|rfl
  ·exact r.qt b hb
  ·exact fq r Y
theorem afQ [bH] {H H':Hp} (r:bO E H w) {v v':W} (h:Uq v H=(v',H')) :
 ∃E',E'.ρ=E.ρ/\eU E H w E' H' w/\bO E' H' w/\(∀u,VR E w.heap v u->VR E' w.heap v' u)/\Sub H' H:=by
 have same:(v,H)=(v',H')->∃E',E'.ρ=E.ρ/\eU E H w E' H' w/\bO E' H' w/\(∀u,VR E w.heap v u->VR E' w.heap v' u)/\Sub H' H:=by
  intro he;simp only [ak] at he
  grind [eU.refl,Sub.refl]
 unfold Uq at h;split at h
 ·rename_i id n t;split at h
  ·rename_i o Y;split at h
   ·rename_i e t' ty ov;split at h
    ·split at h
     ·rename_i ht;split at h
      ·rename_i hn;simp only [ak] at h;obtain⟨rfl,rfl⟩:=h;have ht:=aq ht;have hn:=cG _ _ hn;subst ht hn;have zl:=r.live id _ Y;obtain⟨hk,s1,r1⟩:=JS r Y;refine⟨{ E with ro:=fun b=>E.ro b\/b=(E.θ id).1 },rfl,s1,r1,fun u hv=>?_,Sub.drop _ _⟩;simp only [VR] at hv ⊢
       grind [cm,VJ]
      grind
     grind
    grind
   grind
  grind
 ·simp only [ak] at h;obtain⟨rfl,rfl⟩:=h;exact⟨E,rfl,eU.refl _ _ _,r,fun u hu=>by simp only [VR] at hu ⊢; exact hu.2,Sub.refl _⟩
 grind
end
section
variable {P:Program} {E:En} {w:World}
theorem Rd.part {ro:Nat->Prop} {h:Array Obj} {t:Nat} {d:D} {b o n cap l k:Nat} (r:Rd ro h (.sl t) d (.slice (some ⟨b,o,none⟩) n cap)) (Y:l<=k) (hk:k<=n) (hn:n<=cap) :
 Rd ro h (.sl t) (eY d ((d.l.take k).drop l)) (.slice (some (if cap=l then⟨b,o,none⟩ else⟨b,o+l*(rowOf t).es,none⟩)) (k-l) (cap-l)):=by
 by_cases h0:k-l=0
 ·have:(d.l.take k).drop l= []:=by
   apply List.drop_eq_nil_of_le
   grind
  have hd:d≠.i 1:=by
   intro q
   grind [GR]
  rw [this,h0];simp only [eY];rw [af hd];exact .uQ _ _ _
 ·rw [af J]
  have fJ:(d.l.take k).drop l≠[]:=by
   intro q;have:=congrArg List.length q;obtain⟨x,pV,hv,_⟩:=r.slice
   grind
  rw [vv fJ];generalize hc:CK.sl t=c at r;generalize hv:Value.slice (some ⟨b,o,none⟩) n cap=v at r
  cases r with
  |int k n=>simp at hc
  |bool b=>simp at hc
  |str s=>simp at hc
  |nil t=>simp at hv
  |uQ t a cap=>
   grind
  |one t' c b' o' pV ds f hr fZ hb U Z=>
   simp only [CK.sl.injEq] at hc;subst hc;simp only [Value.slice.injEq,ah,Addr.mk.injEq] at hv;obtain⟨⟨rfl,rfl,_⟩,rfl,rfl⟩:=hv;rw [bJ];have hlen:((ds.take k).drop l).length=k-l:=by rw [amU,a8]; omega
   have u7: ∀i d,((ds.take k).drop l)[i]?=some d->ds[l+i]?=some d:=by
    intro i d hd
    grind
   rw [<- hlen];refine .one t c b (o+l*(rowOf t).es) (cap-l) ((ds.take k).drop l) (fun i=>f (l+i)) hr (by rw [hlen]; omega) hb ?_ ?_
   ·intro i d hd;have:=U (l+i) d (u7 i d hd);rw [hr,show o+l*(Row.one c).es+i=o+(l+i) by simp only [Row.es]; omega]
    grind
   grind
  |many t' cs b' o' pV rows f hr fZ hb hll U Z=>
   simp only [CK.sl.injEq] at hc;subst hc;simp only [Value.slice.injEq,ah,Addr.mk.injEq] at hv;obtain⟨⟨rfl,rfl,_⟩,rfl,rfl⟩:=hv;rw [bJ];have hlen:((rows.take k).drop l).length=k-l:=by rw [amU,a8]; omega
   have u7: ∀i d,((rows.take k).drop l)[i]?=some d->rows[l+i]?=some d:=by
    intro i d hd
    grind
   rw [<- hlen,<- aor,<- aos];refine .many t cs b (o+l*(rowOf t).es) (cap-l) ((rows.take k).drop l) (fun i=>f (l+i)) hr (by rw [hlen]; omega) hb (fun r hrm=>hll r (amV (bu hrm))) ?_ ?_
   ·intro i r j d hi hj;have:=U (l+i) r j d (u7 i r hi) hj;rw [hr,show o+l*(Row.many cs).es+i*cs.length+j=o+(l+i)*cs.length+j by simp only [Row.es,am0]; omega]
    grind
   grind
theorem Rd.aiJ {ro:Nat->Prop} {h:Array Obj} {t:Nat} {d:D} {x:Option Addr} {n cap l k:Nat} (r:Rd ro h (.sl t) d (.slice x n cap)) (Y:l<=k) (hk:k<=n) (hn:n<=cap) :
 Rd ro h (.sl t) (eY d ((d.l.take k).drop l)) (.slice (match x with |some a=>some (if cap=l then a else a.add (l*(rowOf t).es))|none=>none) (k-l) (cap-l)):=by
 have hx:(∃b o,x=some ⟨b,o,none⟩)\/(d= .i 1/\x=none/\n=0/\cap=0)\/(d= .i 2/\n=0/\∃a,x=some a):=by
  generalize hc:CK.sl t=c at r;generalize hv:Value.slice x n cap=v at r
  cases r with
  |int k n=>simp at hc
  |bool b=>simp at hc
  |str s=>simp at hc
  |nil t=>simp only [Value.slice.injEq] at hv; exact .inr (.inl ⟨rfl,hv.1,hv.2.1,hv.2.2⟩)
  |uQ t a cap=>simp only [Value.slice.injEq] at hv; exact .inr (.inr ⟨rfl,hv.2.1,a,hv.1⟩)
  |one t' c b' o' pV ds f hr fZ hb U Z=>simp only [Value.slice.injEq] at hv; exact .inl ⟨_,_,hv.1⟩
  |many t' cs b' o' pV rows f hr fZ hb hll U Z=>simp only [Value.slice.injEq] at hv; exact .inl ⟨_,_,hv.1⟩
 rcases hx with ⟨b,o,rfl⟩|⟨rfl,rfl,rfl,rfl⟩|⟨rfl,rfl,a,rfl⟩
 ·have:=r.part Y hk hn;simp only [fb]
  grind
 ·obtain rfl:k=0:=J
  obtain rfl:l=0:=J
  exact .nil _
 ·obtain rfl:k=0:=J
  obtain rfl:l=0:=J
  exact .uQ _ _ _
theorem xW (l:List D):dL l≠.i 1:=by cases l<;>simp [dL]
theorem Rd.afY {ro:Nat->Prop} {h:Array Obj} {t:Nat} {d:D} {x:Option Addr} {n cap:Nat} (r:Rd ro h (.sl t) d (.slice x n cap)):Rd ro h (.sl t) (eY d []) (.slice x 0 0):=by
 generalize hc:CK.sl t=c at r;generalize hv:Value.slice x n cap=v at r
 cases r with
 |int k n=>simp at hc
 |bool b=>simp at hc
 |str s=>simp at hc
 |nil t=> simp only [Value.slice.injEq] at hv;obtain⟨rfl,_,_⟩:=hv;exact .nil _
 |uQ t a cap=> simp only [Value.slice.injEq] at hv;obtain⟨rfl,_,_⟩:=hv;exact .uQ _ _ _
 |one t' c b' o' pV ds f hr fZ hb U Z=> simp only [Value.slice.injEq] at hv;obtain⟨rfl,_,_⟩:=hv;rw [oX (xW _)];exact .uQ _ _ _
 |many t' cs b' o' pV rows f hr fZ hb hll U Z=> simp only [Value.slice.injEq] at hv;obtain⟨rfl,_,_⟩:=hv;rw [oX (xW _)];exact .uQ _ _ _
theorem OY [bH] {tt:TT} (cI:eC P tt) {s s':St} (hp:bV E.ρ s.pc) {ty t:Nat} {e:V} {lo hi mx:Option W} {yd hi' mx':Option Value} {v:W} {u:Value} (hx:VR E w.heap (.ei e t) u)
 (mJ:gn E w.heap lo yd) (yg:gn E w.heap hi hi') (xL:gn E w.heap mx mx') (h:(JC tt s ty t e lo hi mx).leaf E.ρ=some (v,s')) :
 s'.bF=s.bF/\s'.h=s.h/\bV E.ρ s'.pc/\∃r,(Instr.sliceAt ty u yd hi' mx').run P w= .ok r w/\VR E w.heap v r:=by
 unfold JC at h;split at h
 ·rename_i m;split at h
  ·rename_i hm;split at h
   ·simp [T.leaf] at h
   ·rename_i z hz;split at h
    ·split at h
     ·rename_i hv;split at h
      ·rename_i hh;have:=bD h;simp only [ak] at this;obtain⟨rfl,rfl⟩:=this;refine⟨rfl,rfl,hp,?_⟩;obtain⟨el,ie,hu,kO,rfl⟩:=nr cI hz;have gT:=eA (cI el ie kO);simp only [VR] at hx;obtain⟨x,cap,rfl,fW⟩:=hx.slice
       have zb: ∀(a:W),Cv a=true->∀d y,nG (some a) d y=some 0:=by
        intro a ha d y;unfold Cv at ha;unfold nG;split at ha
        ·rename_i n hn;have:=vZ ha;subst this;simp only [hn];rw [ag (am5 y)]
        ·simp at ha
       obtain⟨e1,e2⟩:=fT (P:=P) (w:=w) (isSlice:=true) (len:=(dec (e.den E.ρ)).l.length) (cap:=cap) (m0:=cap) (d:=0) (m:=0) (h0:=0) (h:=0) (l:=0) mJ yg xL (fun _=>rfl) (.inr ⟨m,rfl,zb m hm _ _,au _⟩) (zb hv hh _ _) ⟨fun q=>by simp at q,fun _=>rfl⟩ (by simp [nG]);refine⟨.slice x 0 0,?_,?_⟩
       rotate_left
       ·simp only [VR];refine⟨⟨x,rfl⟩,?_⟩;simp only [V.den,e9.den,bB];exact hx.afY
       cases x with
       |none=>simp [Instr.sliceAt,run_underlying hu,Instr.slice,e1,gT]
       |some a=>simp [Instr.sliceAt,run_underlying hu,Instr.slice,e1,gT]
      ·simp [T.leaf] at h
     ·simp [T.leaf] at h
    ·simp [T.leaf] at h
  ·simp [T.leaf] at h
 ·simp only [gn] at xL;subst xL;split at h
  ·simp [T.leaf] at h
  ·rename_i z hz;split at h
   ·rename_i lr;obtain⟨el,ie,hu,kO,rfl⟩:=nr cI hz;have gT:=eA (cI el ie kO);simp only [VR] at hx;obtain⟨x,cap,rfl,fW⟩:=hx.slice
    have fin: ∀(l k:Nat) (e':V) (U5 Jb:Option W),gn E w.heap U5 yd->gn E w.heap Jb hi'->nG Jb (dec (e.den E.ρ)).l.length (dec (e.den E.ρ)).l.length=some k->nG U5 0 k=some l->dec (e'.den E.ρ)=eY (dec (e.den E.ρ)) (((dec (e.den E.ρ)).l.take k).drop l)->
     ∃r,(Instr.sliceAt ty (.slice x (dec (e.den E.ρ)).l.length cap) yd hi' none).run P w= .ok r w/\VR E w.heap (.ei e' t) r:=by
     intro l k e' U5 Jb U Z h3 h4 h5;obtain⟨e1,e2⟩:=fT (P:=P) (w:=w) (isSlice:=true) (len:=(dec (e.den E.ρ)).l.length) (cap:=cap) (m0:=cap) (d:=0) (m:=cap) U Z (mx:=none) (mx':=none) (by simp [gn]) ad (.inl ⟨rfl,rfl,au _⟩) h3 ⟨fun _=>fW,ad⟩ h4;have hk:=lx h3;have Ud:=hx.aiJ e2 hk fW;refine⟨_,?_,by simp only [VR,h5]; exact Ud⟩
     cases x with
     |none=>simp [Instr.sliceAt,run_underlying hu,Instr.slice,e1,gT]
     |some a=>simp [Instr.sliceAt,run_underlying hu,Instr.slice,e1,gT,lr]<;>split<;>rfl
    have lit: ∀(k:IntKind) (n:Nat) (q:V) (o:Option Value),q.den E.ρ=(n:Int)->gn E w.heap (some (.int k q)) o->gn E w.heap (some (.int k (.lit (Int.ofNat n)))) o:=by intro k n q o hq ho;obtain⟨y,rfl,hy⟩:=ho;refine⟨y,rfl,?_⟩;simp only [VR,V.den] at hy ⊢;rw [hy,hq];rfl
    have bl: ∀(k:IntKind) (n d y:Nat),n<=y->nG (some (.int k (.lit (Int.ofNat n)))) d y=some n:=by intro k n d y hn;simp [nG,j9,hn]
    split at h
    ·
     simp only [gn] at yg;subst yg;split at h
     ·rename_i kl ql;obtain⟨fI,fu,U⟩:=cC hp h;split at U
      ·simp [T.leaf] at U
      ·rename_i t1;obtain⟨jG,jy,Z⟩:=cC (s:={ s with pc:=fI }) fu U;split at Z
       ·simp [T.leaf] at Z
       ·rename_i t2;have:=bD Z;simp only [ak] at this;obtain⟨rfl,rfl⟩:=this;rw [dR,decide_eq_false_iff_not] at t1 t2;rw [cm] at t2;simp only [V.den,anB] at t1 t2;obtain⟨l,Y⟩ : ∃l:Nat,ql.den E.ρ=(l:Int):=⟨(ql.den E.ρ).toNat,J⟩;refine⟨rfl,rfl,jy,fin l (dec (e.den E.ρ)).l.length _ _ none (lit kl l ql yd Y mJ) (by simp [gn]) (by simp [nG]) (bl _ _ _ _ J) ?_⟩;simp only [V.den,e9.den,bB,Y,bd,anE]
     ·simp [T.leaf] at h
    ·rename_i kh qh;obtain⟨fI,fu,U⟩:=cC hp h;split at U
     ·simp [T.leaf] at U
     ·rename_i t1;rw [dR,decide_eq_false_iff_not,cm] at t1;split at U
      ·simp only [gn] at mJ;subst mJ;obtain⟨jG,jy,Z⟩:=cC (s:={ s with pc:=fI }) fu U;split at Z
       ·simp [T.leaf] at Z
       ·rename_i t2;have:=bD Z;simp only [ak] at this;obtain⟨rfl,rfl⟩:=this;rw [dR,decide_eq_false_iff_not] at t2;simp only [V.den,anB] at t2;obtain⟨k,hk⟩ : ∃k:Nat,qh.den E.ρ=(k:Int):=⟨(qh.den E.ρ).toNat,J⟩;refine⟨rfl,rfl,jy,fin 0 k _ none _ (by simp [gn]) (lit kh k qh hi' hk yg) (bl _ _ _ _ J) (by simp [nG]) ?_⟩;simp only [V.den,e9.den,bB,hk,bd,am4]
      ·rename_i kl ql;obtain⟨jG,jy,Z⟩:=cC (s:={ s with pc:=fI }) fu U;split at Z
       ·simp [T.leaf] at Z
       ·rename_i t2;obtain⟨U4,I8,h3⟩:=cC (s:={ s with pc:=jG }) jy Z;split at h3
        ·simp [T.leaf] at h3
        ·rename_i t3;have:=bD h3;simp only [ak] at this;obtain⟨rfl,rfl⟩:=this;rw [dR,decide_eq_false_iff_not] at t2 t3;simp only [V.den,anB] at t2 t3;obtain⟨l,Y⟩ : ∃l:Nat,ql.den E.ρ=(l:Int):=⟨(ql.den E.ρ).toNat,J⟩;obtain⟨k,hk⟩ : ∃k:Nat,qh.den E.ρ=(k:Int):=⟨(qh.den E.ρ).toNat,J⟩;refine⟨rfl,rfl,I8,fin l k _ _ _ (lit kl l ql yd Y mJ) (lit kh k qh hi' hk yg) (bl _ _ _ _ J) (bl _ _ _ _ J) ?_⟩;simp only [V.den,e9.den,bB,Y,hk,bd,gw];exact xV fun q=>by rw [q]; simp [D.l]
      ·simp [T.leaf] at U
    ·simp [T.leaf] at h
   ·simp [T.leaf] at h
end
theorem D5 {e:V} (h:isZ e=true):e= .lit 0:=by
 unfold isZ at h
 grind [vZ]
theorem oZ (ρ:Nat->Int) (a b:V):(sc a b).den ρ=a.den ρ+b.den ρ:=by
 unfold sc;split
 ·rename_i h;rw [D5 h];simp only [V.den,Int.zero_add]
 ·rfl
theorem Tj (ρ:Nat->Int) (a b:V):(Dp a b).den ρ=a.den ρ-b.den ρ:=by
 unfold Dp;split
 ·rename_i h;rw [D5 h];simp only [V.den,Int.sub_zero]
 ·rfl
theorem xw {ρ:Nat->Int} {e lo n:V} {l k:Nat} (Y:lo.den ρ=(l:Int)) (hn:n.den ρ=(k:Int)) :
 dec ((DM e lo n).den ρ)=eY (dec (e.den ρ)) (((dec (e.den ρ)).l.take (l+k)).drop l):=by
 unfold DM;split
 ·rename_i h;have h:=D5 h;subst h;simp only [V.den] at Y;have:l=0:=J
  subst this;simp only [V.den,e9.den,bB,hn,bd,aA,am4]
 ·have Z:((l:Int)+(k:Int)).toNat=l+k:=J
  simp only [V.den,e9.den,bB,Y,hn,Z,bd,gw]
  grind [xV,D.l]
theorem vR {α:Type} {ρ:Nat->Int} {e lo n:V} {s:St} {k:St->T α} {x:α} (hp:bV ρ s.pc) (h:(xx e lo n s k).leaf ρ=some x) :
 ∃ec,bV ρ ec/\0<=lo.den ρ/\0<=n.den ρ/\lo.den ρ+n.den ρ<=((dec (e.den ρ)).l.length:Int)/\(k { s with pc:=ec }).leaf ρ=some x:=by
 unfold xx at h;obtain⟨fI,fu,U⟩:=cC hp h;split at U
 ·grind [T.leaf]
 ·rename_i RM;obtain⟨jG,jy,Z⟩:=cC (s:={ s with pc:=fI }) fu U;split at Z
  ·grind [T.leaf]
  ·rename_i LM;obtain⟨U4,I8,h3⟩:=cC (s:={ s with pc:=jG }) jy Z;split at h3
   ·grind [T.leaf]
   ·rename_i hb3;rw [dR,decide_eq_false_iff_not] at RM LM hb3;rw [cm,oZ] at hb3;simp only [V.den] at RM LM
    grind
theorem mZ {h:Hp} {id t:Nat} {e:V} {ty:TypeId} (hv:Bm h id t=some (e,ty)):h.get id=some (.vec e t ty []):=by
 unfold Bm at hv;split at hv
 ·rename_i o ho;split at hv
  ·split at hv
   ·split at hv
    all_goals simp_all
   grind
  grind
 grind
theorem Rd.aiC {ro:Nat->Prop} {h:Array Obj} {t:Nat} {d:D} {a:Addr} {n cap pV:Nat} (r:Rd ro h (.sl t) d (.slice (some a) n cap)) (hc:n<=pV):Rd ro h (.sl t) d (.slice (some a) n pV):=by
 generalize hk:CK.sl t=c at r;generalize hv:Value.slice (some a) n cap=v at r
 cases r with
 |int k n=>simp at hk
 |bool b=>simp at hk
 |str s=>simp at hk
 |nil t=>simp at hv
 |uQ t a cap=> simp only [CK.sl.injEq] at hk;simp only [Value.slice.injEq,ah] at hv;obtain⟨rfl,rfl,rfl⟩:=hv;subst hk;exact .uQ _ _ _
 |one t' c b' o' pV ds f hr fZ hb U Z=> simp only [CK.sl.injEq] at hk;simp only [Value.slice.injEq,ah] at hv;obtain⟨rfl,rfl,rfl⟩:=hv;subst hk;exact .one _ _ _ _ _ _ _ hr hc hb U Z
 |many t' cs b' o' pV rows f hr fZ hb hll U Z=> simp only [CK.sl.injEq] at hk;simp only [Value.slice.injEq,ah] at hv;obtain⟨rfl,rfl,rfl⟩:=hv;subst hk;exact .many _ _ _ _ _ _ _ hr hc hb hll U Z
section
variable {P:Program} {E:En} {w:World}
theorem VK {h:Array Obj} {id:Nat} {e:V} {t:Nat} {ty:TypeId} {ro:Nat->Prop} (jx: ∀b,E.ro b->ro b) (hb:ro (E.θ id).1) (ho:OR E h id (.vec e t ty [])) {l k cap:Nat} {a:Addr} (hk:l+k<=(dec (e.den E.ρ)).l.length) (fW:k<=cap)
 (hc:eD E id (l*(rowOf t).es) k a cap (.rest (rowOf t).es)):Rd ro h (.sl t) (eY (dec (e.den E.ρ)) (((dec (e.den E.ρ)).l.take (l+k)).drop l)) (.slice (some a) k cap):=by
 have hw:=(OR.om.1 ho).1.2
 have fJ:dec (e.den E.ρ)≠.i 1:=by intro q;have:=hw.2.2;rw [q] at this;exact this rfl
 rcases anD k with h0|jT
 ·subst h0
  have:((dec (e.den E.ρ)).l.take (l+0)).drop l= []:=by
   grind
  rw [this,oX fJ];exact .uQ _ _ _
 ·simp only [eD] at hc
  obtain⟨rfl,_⟩ : a=⟨(E.θ id).1,(E.θ id).2+l*(rowOf t).es,none⟩/\l*(rowOf t).es+cap*(rowOf t).es=E.κ id:=by
   grind
  have r0:=PO jx hb ho (k:=(dec (e.den E.ρ)).l.length) (cap:=(dec (e.den E.ρ)).l.length+l+1) (a:=⟨(E.θ id).1,(E.θ id).2,none⟩) rfl J (fun _=>rfl);have r1:=r0.part (l:=l) (k:=l+k) J hk J;rw [af J,show l+k-l=k by omega] at r1;exact r1.aiC fW
structure Kq [bH] (E:En) (w:World) (H:Hp) (E':En) (H':Hp):Prop where
 ρ:E'.ρ=E.ρ
 ew:eU E H w E' H' w
 rel:bO E' H' w
 sub:Sub H' H
theorem Kq.refl [bH] {H:Hp} (r:bO E H w):Kq E w H E H:=⟨rfl,eU.refl _ _ _,r,Sub.refl _⟩
theorem Kq.trans [bH] {E1 E2:En} {H H1 H2:Hp} (a:Kq E w H E1 H1) (b:Kq E1 w H1 E2 H2):Kq E w H E2 H2:=
 ⟨b.ρ.trans a.ρ,a.ew.trans b.ew,b.rel,a.sub.trans b.sub⟩
theorem Jj [bH] {α:Type} {ρ:Nat->Int} {v:W} {s:St} {k:W->St->T α} {x:α} (hρ:E.ρ=ρ) (r:bO E s.h w) (hp:bV ρ s.pc) (h:(OE v s k).leaf ρ=some x) :
 ∃v' h' ec E',bV ρ ec/\Kq E w s.h E' h'/\(∀u,VR E w.heap v u->VR E' w.heap v' u)/\(k v' { s with h:=h',pc:=ec }).leaf ρ=some x:=by
 unfold OE at h;split at h
 ·rename_i id lo n t;split at h
  ·rename_i e ty hv;have Y:=mZ hv;obtain⟨ec,fB,U,Z,h3,h4⟩:=vR hp h;obtain⟨hk,s1,r1⟩:=JS r Y;refine⟨_,_,ec,{ E with ro:=fun b=>E.ro b\/b=(E.θ id).1 },fB,⟨rfl,s1,r1,Sub.drop _ _⟩,fun u hu=>?_,h4⟩;simp only [VR] at hu ⊢;obtain⟨hid,l,m,a,cap,q1,q2,rfl,q4,q5⟩:=hu;rw [xw q1 q2];rw [hρ] at q1 q2;have hh:=VK (E:=E) (ro:=fun b=>E.ro b\/b=(E.θ id).1) (fun _ h=> .inl h) (.inr rfl) (r.live id _ Y).2.1 (l:=l) (k:=m) (by rw [hρ]; omega) q4 q5;exact hh
  ·exact⟨_,_,s.pc,E,hp,Kq.refl r,fun _ h=>h,h⟩
 ·cases hf:Uq v s.h with
  |mk v' h'=> rw [hf] at h;obtain⟨E',q1,q2,q3,q4,q5⟩:=afQ r hf;exact⟨v',h',s.pc,E',hp,⟨q1,q2,q3,q5⟩,q4,h⟩
theorem LW [bH] {α:Type} {ρ:Nat->Int}: ∀{vs:List W} {s:St} {E:En} {k:List W->St->T α} {x:α},E.ρ=ρ->bO E s.h w->bV ρ s.pc->(Hn vs s k).leaf ρ=some x->
 ∃MT h' ec E',bV ρ ec/\Kq E w s.h E' h'/\(∀us,ct E w.heap vs us->ct E' w.heap MT us)/\(k MT { s with h:=h',pc:=ec }).leaf ρ=some x
 |[],s,E,k,x,hρ,r,hp,h=> ⟨[],s.h,s.pc,E,hp,Kq.refl r,fun _ h=>h,h⟩
 |v::vs,s,E,k,x,hρ,r,hp,h=>by simp only [Hn] at h;obtain⟨v1,U,fI,E1,fu,f1,q1,g1⟩:=Jj hρ r hp h;obtain⟨VH,Z,jG,E2,jy,f2,q2,g2⟩:=LW (s:={ s with h:=U,pc:=fI }) (f1.ρ.trans hρ) f1.rel fu g1;refine⟨v1::VH,Z,jG,E2,jy,f1.trans f2,fun us hu=>?_,g2⟩;rw [bP] at hu ⊢;obtain⟨u,gx,rfl,a,b⟩:=hu;exact⟨u,gx,rfl,VR.keep (f2.ew.keeps f1.rel) _ _ (q1 u a),q2 gx (ct.keep (f1.ew.keeps r) _ _ b)⟩
theorem yP {ρ:Nat->Int} {i:Nat} {j:V} {cs:List W}: ∀{pre:List (V×List W)},dW ρ i (pre++ [(j,cs)])=match dW ρ i pre with |some c=>some c|none=>if j.den ρ=(i:Int) then some cs else none
 |[]=>rfl
 |(a,b)::pre=>by
  simp only [aR,dW];split
  ·rfl
  ·exact yP
theorem S? (ρ:Nat->Int) (e j x:V):dec ((V.op .set e (eE (ng j) x)).den ρ)=dL (fC (dec (e.den ρ)).l (j.den ρ) (dec (x.den ρ))):=by simp only [eE,V.den,e9.den,bB,lz,D.n]
theorem KK (ds:List D) (z:Int) (x:D) (n:Nat):(fC ds z x)[n]?=if z=(n:Int)/\n<ds.length then some x else ds[n]?:=by
 grind [fC]
theorem xg {ρ:Nat->Int} {E1 E2:En} {h:Array Obj} {r:Row} {pre:List (V×List W)} {j:V} {cs:List W} {X:D} (mono: ∀a us,ct E1 h a us->ct E2 h a us) (hX: ∀us,ct E1 h cs us->uh E2.ro h r X us) :
 ∀{L L':List D} {i:Nat} {us:List Value},L'.length=L.length->(∀n:Nat,L'[n]?=if j.den ρ=((i+n:Nat):Int)/\n<L.length then some X else L[n]?)->
  ct E1 h (bE ρ r (pre++ [(j,cs)]) L i) us->ct E2 h (bE ρ r pre L' i) us
 |[],[],i,us,_,_,hv=>by simp only [bE,ct] at *; exact hv
 |[],_::_,_,_,Y,_,_=>by simp at Y
 |_::_,[],_,_,Y,_,_=>by simp at Y
 |d::L,d'::L',i,us,Y,hg,hv=>by
  simp only [bE] at *;obtain⟨a,b,rfl,a1,a2⟩:=hv.split;have h0:=hg 0;simp only [aF,bj,aM] at h0;refine ct.append ?_ (xg mono hX (by simpa using Y) (fun n=>?_) a2)
  ·rw [yP] at a1
   cases ho:dW ρ i pre with
   |some c=>
    grind
   |none=>
    rw [ho] at a1;simp only at a1 ⊢;by_cases hj:j.den ρ=(i:Int)
    ·rw [ag hj] at a1;rw [ag ⟨hj,J⟩] at h0;simp only [ah] at h0;subst h0;rw [fA];simp only [V.den,bB]
     grind
    grind
  ·have:=hg (n+1)
   grind
theorem T_ {r:Row} {ds:List D} {z:Int} {x:D} (U: ∀d∈ds,oH r d) (Z:oH r x): ∀d∈fC ds z x,oH r d:=by
 intro d hd;obtain⟨n,hn⟩:=anS.1 hd
 grind [KK]
theorem T! {ds:List D} {z:Int} {x:D} (h:ds≠[]):fC ds z x≠[]:=by
 intro q
 grind [gu]
theorem K2 [bH] {α:Type} {ρ:Nat->Int} {t:Nat}: ∀{ov:List (V×List W)} {e:V} {s:St} {E:En} {k:V->St->T α} {x:α} (pre:List (V×List W)),E.ρ=ρ->bO E s.h w->bV ρ s.pc->sg (rowOf t) (dec (e.den ρ))->
 (GI t ov e s k).leaf ρ=some x->
 ∃e' h' ec E',bV ρ ec/\Kq E w s.h E' h'/\sg (rowOf t) (dec (e'.den ρ))/\(dec (e'.den ρ)).l.length=(dec (e.den ρ)).l.length/\
  (∀us,ct E w.heap (bE ρ (rowOf t) (pre++ov) (dec (e.den ρ)).l 0) us->ct E' w.heap (bE ρ (rowOf t) pre (dec (e'.den ρ)).l 0) us)/\(k e' { s with h:=h',pc:=ec }).leaf ρ=some x
 |[],e,s,E,k,x,pre,hρ,r,hp,hw,h=> ⟨e,s.h,s.pc,E,hp,Kq.refl r,hw,rfl,fun us hu=>by rw [anc] at hu; exact hu,h⟩
 |(j,cs)::ov,e,s,E,k,x,pre,hρ,r,hp,hw,h=>by
  simp only [GI] at h;obtain⟨e1,U,fI,E1,fu,f1,w1,l1,c1,g1⟩:=K2 (pre++ [(j,cs)]) hρ r hp hw h;obtain⟨cs2,Z,jG,E2,jy,f2,c2,g2⟩:=LW (s:={ s with h:=U,pc:=fI }) (f1.ρ.trans hρ) f1.rel fu g1;split at g2
  ·rename_i y hy;have hρ2:E2.ρ=ρ:=f2.ρ.trans (f1.ρ.trans hρ);have hsd:=S? ρ e1 j y;refine⟨_,Z,jG,E2,jy,f1.trans f2,?_,?_,?_,g2⟩
   ·rw [hsd];exact⟨by rw [bJ],by rw [bJ]; exact T_ w1.2.1 (tC hy),by rw [bJ]; exact T! w1.2.2⟩
   ·grind [bJ,gu]
   ·intro us hu;rw [hsd,bJ];have Ol:=c1 us (by rw [am8]; exact hu);refine xg (j:=j) (cs:=cs) (X:=dec (y.den ρ)) (fun a us ha=>ct.keep (f2.ew.keeps f1.rel) _ _ ha) (fun us BL=>?_) (gu _ _ _) (fun n=>?_) Ol
    all_goals grind [tD,KK]
  grind [T.leaf]
theorem TR {v:W} {h:Hp} {id t:Nat} {e:V} {ov:List (V×List W)} (hv:ae2 v h=some (id,e,t,ov)): ∃ty,v= .ow id (dM e) t/\h.get id=some (.vec e t ty ov):=by
 unfold ae2 at hv;split at hv
 ·split at hv
  ·rename_i o ho;split at hv
   ·split at hv
    ·grind
    ·split at hv
     ·rename_i ht;split at hv
      ·rename_i hn;have ht:=aq ht
       grind [cG]
      grind
     grind
   grind
  grind
 grind
theorem CU [bH] {α:Type} {ρ:Nat->Int} {v:W} {s:St} {k:W->St->T α} {x:α} (hρ:E.ρ=ρ) (r:bO E s.h w) (hp:bV ρ s.pc) (h:(LU v s k).leaf ρ=some x) :
 ∃v' h' ec E',bV ρ ec/\Kq E w s.h E' h'/\(∀u,VR E w.heap v u->VR E' w.heap v' u)/\(k v' { s with h:=h',pc:=ec }).leaf ρ=some x:=by
 unfold LU at h;split at h
 ·rename_i id e t ov hv;obtain⟨ty,rfl,Y⟩:=TR hv;obtain⟨hid,ho,amH⟩:=r.live id _ Y;have yf:=ho;simp only [OR] at yf;rw [hρ] at yf;obtain⟨⟨qz,ry⟩,arr,lo,hi,us,q1,q2,q3,q4,q5,q6,q7⟩:=yf;obtain⟨e',h',ec,E',fB,f,w',l',c',g⟩:=K2 [] hρ r hp ry h;split at g
  ·rename_i o hg;have hg':=f.sub.get _ _ hg;rw [Y] at hg';simp only [ah] at hg';subst hg';obtain⟨hk,s1,r1⟩:=JS f.rel hg;have hρ':E'.ρ=ρ:=f.ρ.trans hρ;refine⟨_,_,ec,{ E' with ro:=fun b=>E'.ro b\/b=(E'.θ id).1 },fB,⟨f.ρ,f.ew.trans s1,r1,f.sub.trans (Sub.drop _ _)⟩,fun u hu=>?_,g⟩;simp only [VR] at hu ⊢;obtain⟨_,m,a,cap,p1,rfl,p3,p4⟩:=hu;rw [cm,hρ] at p1;have hθ:=f.ew.θ id hid;have hκ:=f.ew.κ id hid
   have hO:OR E' w.heap id (.vec e' t ty []):=by simp only [OR];rw [hρ',hθ,hκ];have hv':=c' us (by rw [ay]; exact q2);refine⟨⟨fun p hp=>by simp at hp,w'⟩,arr,lo,hi,us,q1,hv',q3,?_,q5,q6,q7⟩;have e1:=hv'.length;have e2:=q2.length;omega
   have hh:=VJ (E:=E') (ro:=fun b=>E'.ro b\/b=(E'.θ id).1) (fun _ h=> .inl h) (.inr rfl) hO (k:=m) (cap:=cap) (a:=a) (by rw [hρ',l']; omega) p3 (by
    simp only [eD] at p4 ⊢;rw [hθ,hκ]
    exact p4)
   exact hh
  grind [T.leaf]
 grind [Jj]
theorem pJ [bH] {α:Type} {ρ:Nat->Int}: ∀{vs:List W} {s:St} {E:En} {k:List W->St->T α} {x:α},E.ρ=ρ->bO E s.h w->bV ρ s.pc->(xe vs s k).leaf ρ=some x->
 ∃MT h' ec E',bV ρ ec/\Kq E w s.h E' h'/\(∀us,ct E w.heap vs us->ct E' w.heap MT us)/\(k MT { s with h:=h',pc:=ec }).leaf ρ=some x
 |[],s,E,k,x,hρ,r,hp,h=> ⟨[],s.h,s.pc,E,hp,Kq.refl r,fun _ h=>h,h⟩
 |v::vs,s,E,k,x,hρ,r,hp,h=>by simp only [xe] at h;obtain⟨v1,U,fI,E1,fu,f1,q1,g1⟩:=CU hρ r hp h;obtain⟨VH,Z,jG,E2,jy,f2,q2,g2⟩:=pJ (s:={ s with h:=U,pc:=fI }) (f1.ρ.trans hρ) f1.rel fu g1;refine⟨v1::VH,Z,jG,E2,jy,f1.trans f2,fun us hu=>?_,g2⟩;rw [bP] at hu ⊢;obtain⟨u,gx,rfl,a,b⟩:=hu;exact⟨u,gx,rfl,VR.keep (f2.ew.keeps f1.rel) _ _ (q1 u a),q2 gx (ct.keep (f1.ew.keeps r) _ _ b)⟩
end
section
variable {P:Program} {E:En} {w:World}
theorem ly: ∀{cs vs l:List W} {o:Nat},dV cs o vs=some l->l.length=cs.length
 |cs,[],l,0,h=>by simp only [dV,ah] at h; rw [h]
 |[],v::vs,l,0,h=>by simp [dV] at h
 |c::cs,v::vs,l,0,h=>by
  simp only [dV] at h;split at h
  ·rename_i l' Y;simp only [ah] at h;subst h;simp [ly Y]
  grind
 |[],vs,l,o+1,h=>by simp [dV] at h
 |c::cs,vs,l,o+1,h=>by
  simp only [dV] at h;split at h
  ·rename_i l' Y;simp only [ah] at h;subst h;simp [ly Y]
  grind
theorem nI: ∀{cs vs l:List W} {o:Nat} (m:List W),dV cs o vs=some l->dV (cs++m) o vs=some (l++m)
 |cs,[],l,0,m,h=>by simp only [dV,ah] at h ⊢; rw [h]
 |[],v::vs,l,0,m,h=>by simp [dV] at h
 |c::cs,v::vs,l,0,m,h=>by
  simp only [dV,aR] at h ⊢;split at h
  ·rename_i l' Y;simp only [ah] at h;subst h;rw [nI m Y];rfl
  grind
 |[],vs,l,o+1,m,h=>by simp [dV] at h
 |c::cs,vs,l,o+1,m,h=>by
  simp only [dV,aR] at h ⊢;split at h
  ·rename_i l' Y;simp only [ah] at h;subst h;rw [nI m Y];rfl
  grind
theorem sF: ∀{cs vs l:List W} {o:Nat} (p:List W),dV cs o vs=some l->dV (p++cs) (p.length+o) vs=some (p++l)
 |cs,vs,l,o,[],h=>by simpa using h
 |cs,vs,l,o,x::p,h=>by have:=sF p h;rw [aR,aM,show p.length+1+o=(p.length+o)+1 by omega];simp only [dV,this,aR]
theorem rF: ∀{cs vs l:List W} {o:Nat},dV cs o vs=some l->∀j:Nat,l[j]?=if o<=j/\j<o+vs.length then vs[j-o]? else cs[j]?
 |cs,[],l,0,h,j=>by
  simp only [dV,ah] at h
  grind
 |[],v::vs,l,0,h,j=>by simp [dV] at h
 |c::cs,v::vs,l,0,h,j=>by
  simp only [dV] at h;split at h
  ·rename_i l' Y;simp only [ah] at h;subst h
   cases j with
   |zero=>simp
   |succ j=>
    have:=rF Y j
    grind
  grind
 |[],vs,l,o+1,h,j=>by simp [dV] at h
 |c::cs,vs,l,o+1,h,j=>by
  simp only [dV] at h;split at h
  ·rename_i l' Y;simp only [ah] at h;subst h
   cases j with
   |zero=>rw [af J]; rfl
   |succ j=>
    have:=rF Y j
    grind
  grind
theorem zX (x:V): ∀(cs:List CK) (j k:Nat),(iw cs j x)[k]?=(cs[k]?).map fun c=>vx c (iK (j+k) x)
 |[],j,k=>by simp [iw]
 |c::cs,j,0=>by simp [iw]
 |c::cs,j,k+1=>by
  simp only [iw,aK,zX x cs (j+1) k]
  grind
theorem Bv {ρ:Nat->Int} {ks:List CK}: ∀{vs:List W} {off:Nat} {x x':V},setCells ks off vs x=some x'->off+vs.length<=(dec (x.den ρ)).l.length->
 (dec (x'.den ρ)).l.length=(dec (x.den ρ)).l.length/\(dec (x.den ρ)=dL (dec (x.den ρ)).l->dec (x'.den ρ)=dL (dec (x'.den ρ)).l)/\
 ∀j,(j<off\/off+vs.length<=j)/\(dec (x'.den ρ)).l[j]?=(dec (x.den ρ)).l[j]?\/∃c v a,off<=j/\vs[j-off]?=some v/\ks[j]?=some c/\lQ c v=some a/\(dec (x'.den ρ)).l[j]?=some (dec (a.den ρ))
 |[],off,x,x',h,_=>by
  simp only [setCells,ah] at h
  grind
 |v::vs,off,x,x',h,hle=>by
  simp only [setCells] at h;split at h
  ·rename_i c hc;split at h
   ·rename_i a ha;simp only [aM] at hle
    have hs:dec ((V.op .set x (eE (.ei (.i (Int.ofNat off))) a)).den ρ)=dL ((dec (x.den ρ)).l.set off (dec (a.den ρ))):=by simp only [eE,V.den,e9.den,bB,D.n];rfl
    obtain⟨U,Z,h3⟩:=Bv (ρ:=ρ) h (by rw [hs,bJ,anL]; omega);rw [hs,bJ,anL] at U;rw [hs] at Z h3;simp only [bJ] at Z h3;rw [de] at hc
    grind
   grind
  grind
theorem dS.mk {ro:Nat->Prop} {h:Array Obj} {d:D}: ∀{cs:List CK} {j:Nat} {us:List Value},us.length=cs.length->(∀k c u,cs[k]?=some c->us[k]?=some u->iI ro h c (d.hd (j+k)) u)->dS ro h cs j d us
 |[],j,us,Y,_=>by
  simp only [dS]
  grind
 |c::cs,j,[],Y,_=>by simp at Y
 |c::cs,j,u::us,Y,hh=>by
  simp only [dS];refine⟨u,us,rfl,by simpa using hh 0 c u rfl rfl,dS.mk (by simpa using Y) fun k c' u' U Z=>?_⟩;have:=hh (k+1) c' u' (by simpa using U) (by simpa using Z)
  grind
theorem Po {r:Row} {e e' i:V} {off k:Nat} {vs:List W} {x:D} (hc:JZ r e i off vs=some e') (hi:i.den E.ρ=(k:Int)) (hx:(dec (e.den E.ρ)).l[k]?=some x) (ry:oH r x) (hle:off+vs.length<=r.es) :
 ∃x',dec (e'.den E.ρ)=dL ((dec (e.den E.ρ)).l.set k x')/\oH r x'/\∀(h:Array Obj) (gx:List Value),gx.length=r.es->(∀j v u,off<=j->vs[j-off]?=some v->gx[j]?=some u->VR E h v u)->
  (∀j a u,(j<off\/off+vs.length<=j)->(gz r (.op .at e i))[j]?=some a->gx[j]?=some u->VR E h a u)->uh E.ro h r x' gx:=by
 unfold JZ at hc;split at hc
 ·rename_i c;split at hc
  ·split at hc
   ·rename_i v;split at hc
    ·rename_i a ha;simp only [ah] at hc;subst hc;refine⟨dec (a.den E.ρ),?_,oY ha,?_⟩
     ·simp only [eE,V.den,e9.den,bB,lz,D.n,hi,pe]
     ·intro h gx U Z _
      cases gx with
      |nil=>simp [Row.es] at U
      |cons y ys=>
       have:ys= []:=by
        grind [Row.es]
       subst this;exact⟨y,rfl,jI (Z 0 v y (au _) rfl rfl) ha⟩
    grind
   grind
  grind
 ·rename_i ks;split at hc
  ·rename_i x' I6;simp only [ah] at hc;subst hc;have mQ:=Bi E.ρ e i hi hx;obtain⟨w1,w2,w3⟩:=ry;obtain⟨g1,g2,g3⟩:=Bv (ρ:=E.ρ) I6 (by rw [mQ,w2]; exact hle);rw [mQ] at g1 g2 g3;refine⟨dec (x'.den E.ρ),?_,⟨g2 w1,by rw [g1,w2],?_⟩,?_⟩
   ·simp only [eE,V.den,e9.den,bB,lz,D.n,hi,pe]
   ·intro j c y hj hy;rcases g3 j with ⟨_,q2⟩|⟨c',v',a',_,_,q3,q4,q5⟩
    ·grind
    ·rw [q5] at hy;rw [hj] at q3;simp only [ah] at hy q3;subst hy q3;exact oY q4
   ·intro h gx U Z h3;show dS E.ro h ks 0 (dec (x'.den E.ρ)) gx;refine dS.mk U fun j c u hj hu=>?_;rw [aA];rcases g3 j with ⟨q1,q2⟩|⟨c',v',a',q1,q2,q3,q4,q5⟩
    ·have p2:=h3 j (vx c (iK j (.op .at e i))) u q1 (by simp only [gz,zX,hj,br,aA]) hu;rw [nu,ph,mQ] at p2;have:(dec (x'.den E.ρ)).hd j=x.hd j:=by simp only [D.hd,q2]
     grind
    ·rw [hj] at q3;simp only [ah] at q3;subst q3;have:(dec (x'.den E.ρ)).hd j=dec (a'.den E.ρ):=by simp only [D.hd,q5,aC]
     rw [this];exact jI (Z j v' u q1 q2 hu) q4
  grind
theorem ky {ρ:Nat->Int} {r:Row} {ov iQ:List (V×List W)}: ∀(ds:List D) (i:Nat),(∀j,i<=j->j<i+ds.length->dW ρ j ov=dW ρ j iQ)->bE ρ r ov ds i=bE ρ r iQ ds i
 |[],_,_=>rfl
 |d::ds,i,h=>by simp only [bE];rw [h i (au _) ad,ky ds (i+1) fun j U Z=>h j J (by simp only [aM]; omega)]
theorem DK {ρ:Nat->Int} {pc:List (SB×Bool)} (hp:bV ρ pc) {i:V} {k:Nat} (hi:i.den ρ=(k:Int)) {lE:List W} {r:Row} (U7:lE.length=r.es): ∀{ov iQ:List (V×List W)},GA pc i lE ov=some iQ->sK r ov->
 sK r iQ/\dW ρ k iQ=some lE/\∀j:Nat,j≠k->dW ρ j iQ=dW ρ j ov
 |[],iQ,h,_=>by simp [GA] at h
 |(j,c)::l,iQ,h,ho=>by
  simp only [GA] at h;split at h
  ·rename_i he;have he:=cG _ _ he;subst he;simp only [ah] at h;subst h;refine⟨?_,by simp [dW,hi],?_⟩
   ·intro p fB;rcases ax.1 fB with rfl|fB
    ·grind
    ·exact ho p (by simp [fB])
   ·intro m hm;simp only [dW,hi]
    grind
  ·split at h
   ·rename_i b hd;split at h
    ·have hd:=gD hp hd;rw [gG,beq_iff_eq,hi] at hd;simp only [ah] at h;subst h;refine⟨?_,by simp [dW,hd],?_⟩
     ·intro p fB;rcases ax.1 fB with rfl|fB
      ·grind
      ·exact ho p (by simp [fB])
     ·intro m hm;simp only [dW,<- hd]
      grind
    split at h
    ·rename_i l' Y;simp only [ah] at h;subst h;have hd:=gD hp hd;rw [gG,beq_eq_false_iff_ne,hi] at hd;obtain⟨g1,g2,g3⟩:=DK hp hi U7 Y fun p fB=>ho p (by simp [fB]);refine⟨?_,?_,?_⟩
     ·intro p fB;rcases ax.1 fB with rfl|fB
      ·exact ho _ ad
      ·exact g1 p fB
     ·simp only [dW]
      grind
     ·intro m hm;simp only [dW]
      grind
    grind
   grind
theorem HY {ρ:Nat->Int} {pc:List (SB×Bool)} (hp:bV ρ pc) {i:V} {k:Nat} (hi:i.den ρ=(k:Int)): ∀{ov:List (V×List W)},vD pc i ov=true->dW ρ k ov=none
 |[],_=>rfl
 |(j,c)::l,h=>by
  simp only [vD] at h;split at h
  ·rename_i hd;have hd:=gD hp hd;rw [gG,beq_eq_false_iff_ne,hi] at hd;simp only [dW];rw [af (fun q=>hd q.symm)];exact HY hp hi h
  grind
theorem OR.congr {h:Array Obj} {id:Nat} {a b:List W} {ty:TypeId} (ho:OR E h id (.cells a ty)) (Y:b.length=a.length) (hv: ∀us,ct E h a us->ct E h b us):OR E h id (.cells b ty):=by
 simp only [OR] at ho ⊢
 grind
set_option maxHeartbeats 800000 in
theorem L6 [bH] {E1:En} {tt:TT} (cI:eC P tt) {s s':St} (r1:bO E1 s.h w) (hp:bV E1.ρ s.pc) {ty id es:Nat} {i:V} {off:Nat} {one:Bool} {vs:List W} {v':W} {u x:Value} (hx:VR E1 w.heap (.yi id es i off) u)
 (MY:one=true->ct E1 w.heap vs x.cells.toList/\∀u∈x.cells.toList,u.oneCell'=true) (h:(EC tt s ty id es i off one vs).leaf E1.ρ=some (v',s')) :
 s'.bF=s.bF/\bV E1.ρ s'.pc/\v'=W.undef/\∃w' E',(Instr.storeAt ty u x).run P w= .ok () w'/\eU E1 s.h w E' s'.h w'/\bO E' s'.h w':=by
 unfold EC at h;split at h
 ·rename_i o Y;split at h
  ·rename_i e t Aq ov;split at h
   ·rename_i ti fP;split at h
    ·rename_i jf;obtain⟨lr,hvl,ug⟩:=jf;obtain⟨pc0,Yq,t1,t2,h3⟩:=ny hp h;obtain⟨ec,fB,h3⟩:=vI (s:={ s with pc:=pc0 }) Yq h3;split at h3
     ·rename_i cs hc;split at h3
      ·rename_i lE hs;obtain⟨He,Yx⟩:=MY ug;have hx1:=hx;simp only [VR] at hx1;obtain⟨hid,k,hk,rfl⟩:=hx1;obtain⟨rc,ho,ry⟩:=r1.om Y;rw [cm] at t2;have ff:k<(dec (e.den E1.ρ)).l.length:=J
       have hd:(dec (e.den E1.ρ)).l[k]?=some (dec (e.den E1.ρ)).l[k]:=aO ff;generalize hxk:(dec (e.den E1.ρ)).l[k]=xk at hd;obtain⟨c1,c2⟩:=jg (ρ:=E1.ρ) ho (j:=0) hd;rw [aA] at c1;generalize aat:bE E1.ρ (rowOf t) ov ((dec (e.den E1.ρ)).l.take k) 0=pre at c1 c2;generalize RA:bE E1.ρ (rowOf t) ov ((dec (e.den E1.ρ)).l.drop (k+1)) (k+1)=post at c1
       have iR:(∀h us,ct E1 h (match dW E1.ρ k ov with |some cs=>cs|none=>gz (rowOf t) (.ei xk)) us↔ct E1 h cs us)/\cs.length=(rowOf t).es:=by
        rcases nJ fB hk hc with g|⟨g,rfl⟩
        ·rw [g];obtain⟨p,p1,p2,_⟩:=kI g;have:=ho p p1;rw [p2] at this;exact⟨fun _ _=>Iff.rfl,this⟩
        ·rw [g];refine⟨fun h us=>xr ?_,gQ _ _⟩;rw [Bi E1.ρ e i hk hd];simp only [V.den,bB]
       obtain⟨hrv,BQ⟩:=iR;have Jc:lE.length=(rowOf t).es:=by rw [ly hs,BQ]
       have RB:OR E1 w.heap id (.cells (pre++(cs++post)) Aq):=by
        have:=(rc.live id _ (by rw [Hp.bQ,ag rfl])).2.1;unfold cK at this;rw [c1] at this;refine OR.congr this ?_ ?_
        ·simp only [aT,BQ];congr 2;split
         ·rename_i cs0 h0;obtain⟨p,p1,p2,_⟩:=kI h0;have:=ho p p1;rw [p2] at this;exact this.symm
         ·rw [gQ]
        ·intro us q2;obtain⟨a,b,rfl,a1,a2⟩:=q2.split;obtain⟨a',b',rfl,b1,b2⟩:=a2.split;exact a1.append (((hrv _ _).1 b1).append b2)
       have r2:=r1.swap (H2:=s.h.put id (.cells (pre++(cs++post)) Aq)) Y RB (by rw [Hp.bQ,ag rfl]) (fun j hj=>by rw [Hp.bQ,af hj]) rfl rfl
       have hs2:dV (pre++(cs++post)) (k*es+off) vs=some (pre++(lE++post)):=by rw [<- lr,<- c2];exact sF pre (nI post hs)
       obtain⟨w',g1,g2,g3⟩:=lL (P:=P) r2 (by rw [Hp.bQ,ag rfl]) hs2 He Yx;have hlen:x.cells.size=ti.size:=by have:=He.length; simp only [bo] at this; omega
       have jw:(Instr.storeAt ty (.pointer (some ⟨(E1.θ id).1,(E1.θ id).2+(k*es+off),none⟩)) x).run P w= .ok () w':=by simp [Instr.storeAt,Instr.sureAddr,storeVar,eA (cI ty ti fP),hlen,g1]
       have fin: ∀(o':dN),OR E1 w'.heap id o'->∃w' E',(Instr.storeAt ty (.pointer (some ⟨(E1.θ id).1,(E1.θ id).2+(k*es+off),none⟩)) x).run P w= .ok () w'/\eU E1 s.h w E' (s.h.put id o') w'/\bO E' (s.h.put id o') w':=by
        intro o' yf;have al1:F3 (s.h.put id (.cells (pre++(cs++post)) Aq)) s.h:=(F3.put Y).symm
        have al2:F3 ((s.h.put id (.cells (pre++(cs++post)) Aq)).put id (.cells (pre++(lE++post)) Aq)) (s.h.put id o'):=by
         refine⟨fun j y hj=>?_,fun j y hj=>?_,rfl,rfl⟩
         ·rw [Hp.bQ];split
          ·exact⟨o',rfl⟩
          ·rename_i fJ;rw [Hp.bQ,af fJ,Hp.bQ,af fJ] at hj;exact⟨y,hj⟩
         ·rw [Hp.bQ] at hj ⊢;split
          ·exact⟨_,rfl⟩
          ·rename_i fJ;rw [af fJ] at hj;rw [Hp.bQ,af fJ];exact⟨y,hj⟩
        refine⟨w',E1,jw,(g2.left al1).right al2,?_⟩;exact g3.swap (id:=id) (by rw [Hp.bQ,ag rfl]) yf (by rw [Hp.bQ,ag rfl]) (fun j hj=>by rw [Hp.bQ,af hj,Hp.bQ,af hj,Hp.bQ,af hj]) rfl rfl
       have A0:=(g3.live id _ (by rw [Hp.bQ,ag rfl])).2.1
       have apart: ∀iQ:List (V×List W),sK (rowOf t) iQ->dW E1.ρ k iQ=some lE->(∀j:Nat,j≠k->dW E1.ρ j iQ=dW E1.ρ j ov)->OR E1 w'.heap id (.vec e t Aq iQ):=by
        intro iQ q1 q2 q3;refine OR.om.2 ⟨⟨q1,ry⟩,?_⟩
        have:cK E1.ρ e t iQ=pre++(lE++post):=by
         unfold cK;obtain⟨d1,_⟩:=jg (ρ:=E1.ρ) q1 (j:=0) hd;rw [aA,q2] at d1;rw [d1,<- aat,<- RA];congr 1
         ·refine ky _ _ fun j _ hj=>q3 j ?_;rw [a8] at hj;omega
         ·congr 1;exact ky _ _ fun j hj _=>q3 j J
        rw [this];exact A0
       split at h3
       ·rename_i iQ qz;have:=bD h3;simp only [ak] at this;obtain⟨rfl,rfl⟩:=this;refine⟨rfl,fB,rfl,?_⟩;obtain⟨q1,q2,q3⟩:=DK fB hk Jc qz ho;exact fin _ (apart iQ q1 q2 q3)
       ·split at h3
        ·rename_i ajN;have RF:=HY fB hk ajN;split at h3
         ·rename_i e' afq;have:=bD h3;simp only [ak] at this;obtain⟨rfl,rfl⟩:=this;refine⟨rfl,fB,rfl,fin _ ?_⟩;have hxm:xk∈(dec (e.den E1.ρ)).l:=amQ hd
          have hle:off+vs.length<=(rowOf t).es:=by
           rw [<- BQ];rcases anD vs.length with hz|hz
           ·have ajj:=amT hz;subst ajj
            have: ∀(l c:List W) (o:Nat),dV c o []=some l->o<=c.length:=by
             intro l c
             induction c generalizing l with
             |nil=>intro o ho; cases o with |zero=>exact am5 _|succ o=>simp [dV] at ho
             |cons a c ih=>
              intro o ho
              cases o with
              |zero=>exact am5 _
              |succ o=>
               simp only [dV] at ho;split at ho
               ·rename_i l' FR;have:=ih l' o FR;simp; omega
               ·simp at ho
            have:=this _ _ _ hs;simpa using this
           ·have:=rF hs (off+vs.length-1);rw [ag J] at this
            have BN:(vs[off+vs.length-1-off]?).isSome=true:=by rw [aO J]; rfl
            rw [<- this] at BN;obtain⟨y,hy⟩:=ant.1 BN;have:=(aX.1 hy).1;rw [ly hs] at this;omega
          obtain⟨x',z1,z2,z3⟩:=Po afq hk hd (ry.2.1 xk hxm) hle;refine OR.om.2 ⟨⟨ho,?_⟩,?_⟩
          ·rw [z1];refine⟨by rw [bJ],fun y hy=>?_,by rw [bJ]; intro q; have:=congrArg List.length q; simp at this; exact ry.2.2 this⟩;rw [bJ] at hy;rcases List.mem_or_eq_of_mem_set hy with hy|rfl
           ·exact ry.2.1 y hy
           ·exact z2
          ·have uu:(dec (e'.den E1.ρ)).l[k]?=some x':=by
            rw [z1,bJ,List.getElem?_set_self ff]
           obtain⟨d1,d2⟩:=jg (ρ:=E1.ρ) ho (j:=0) uu;rw [aA,RF] at d1
           have RI:cK E1.ρ e' t ov=pre++(gz (rowOf t) (.ei x')++post):=by
            unfold cK;rw [d1,<- aat,<- RA,z1,bJ];congr 1
            ·rw [aoc (au _)]
            ·congr 1;rw [aod J]
           rw [RI];refine OR.congr A0 (by simp only [aT,gQ,Jc]) fun us q2=>?_;obtain⟨a,b,rfl,a1,a2⟩:=q2.split;obtain⟨a',b',rfl,b1,b2⟩:=a2.split;refine a1.append (ct.append ?_ b2);rw [fA];simp only [V.den,bB]
           have ajG:cs=gz (rowOf t) (.op .at e i):=by
            rcases nJ fB hk hc with g|⟨g,g'⟩
            ·rw [RF] at g; simp at g
            ·exact g'
           refine z3 _ a' (by rw [b1.length,Jc]) ?_ ?_
           ·intro j vj uj hj1 hj2 hj3;have hjl:=(aX.1 hj2).1;have:=rF hs j;rw [ag J,hj2] at this;obtain⟨y,y1,y2⟩:=b1.nth (by rw [de]; exact this);rw [hj3] at y1;simp only [ah] at y1;subst y1;exact y2
           ·intro j aj uj hj1 hj2 hj3;have:=rF hs j;rw [af J,ajG,hj2] at this;obtain⟨y,y1,y2⟩:=b1.nth (by rw [de]; exact this);rw [hj3] at y1;simp only [ah] at y1;subst y1;exact y2
         ·have:=bD h3;simp only [ak] at this;obtain⟨rfl,rfl⟩:=this;refine⟨rfl,fB,rfl,fin _ (apart _ ?_ ?_ ?_)⟩
          ·intro p fB;rcases ax.1 fB with rfl|fB
           ·exact Jc
           ·exact ho p fB
          ·simp only [dW];rw [ag hk]
          ·intro j hj;simp only [dW];rw [af J]
        ·simp [T.leaf] at h3
      ·simp [T.leaf] at h3
     ·simp [T.leaf] at h3
    ·simp [T.leaf] at h
   ·simp [T.leaf] at h
  ·simp [T.leaf] at h
 ·simp [T.leaf] at h
theorem aaD {E1:En} {h:Array Obj} {c:CK} {v:W} {u:Value} (hv:VR E1 h v u):VR E1 h (afS c v) u:=by
 unfold afS;split
 ·split
  ·simp only [VR] at hv ⊢;subst hv;exact⟨⟨none,rfl⟩,by simp only [V.den,bB]; exact .nil _⟩
  ·split
   ·split
    ·split
     ·simp only [VR] at hv ⊢;obtain⟨_,a,cap,rfl,_,hc⟩:=hv;simp only [eD] at hc;obtain⟨rfl,_⟩:=hc;exact⟨⟨some a,rfl⟩,by simp only [V.den,bB]; exact .uQ _ _ _⟩
     grind
    grind
   grind
  grind
 grind
theorem Hs {E1:En} {h:Array Obj}: ∀(cs:List CK) {vs:List W} {us:List Value},ct E1 h vs us->ct E1 h (LZ cs vs) us
 |[],vs,us,hv=>hv
 |_::_,[],us,hv=>hv
 |c::cs,v::vs,us,hv=>by rw [bP] at hv;obtain⟨u,gx,rfl,U,Z⟩:=hv;simp only [LZ];rw [bP];exact⟨u,gx,rfl,aaD U,Hs cs Z⟩
set_option maxHeartbeats 800000 in
theorem L5 [bH] {E1:En} {tt:TT} (cI:eC P tt) {s s':St} (r1:bO E1 s.h w) (hp:bV E1.ρ s.pc) {ty id es:Nat} {i j0:V} {off:Nat} {one:Bool} {vs:List W} {v':W} {u x:Value} (hx:VR E1 w.heap (.yi id es i off) u)
 (MY:one=true->ct E1 w.heap vs x.cells.toList/\∀u∈x.cells.toList,u.oneCell'=true) (h:(EB tt s ty id es i j0 off one vs).leaf E1.ρ=some (v',s')) :
 s'.bF=s.bF/\bV E1.ρ s'.pc/\v'=W.undef/\∃w' E',(Instr.storeAt ty u x).run P w= .ok () w'/\eU E1 s.h w E' s'.h w'/\bO E' s'.h w':=by
 unfold EB at h;split at h
 ·rename_i o Y;split at h
  ·rename_i e t Aq ov;split at h
   ·rename_i ti fP;split at h
    ·rename_i jf;obtain⟨lr,hvl,ug⟩:=jf;obtain⟨pc0,Yq,t1,t2,h3⟩:=ny hp h;obtain⟨ec,fB,h3⟩:=vI (s:={ s with pc:=pc0 }) Yq h3;split at h3
     ·rename_i hdb;have hij:=gD fB hdb;split at h3
      ·rename_i cs hc;split at h3
       ·rename_i lE hs;obtain⟨aji,Yx⟩:=MY ug;have He:=Hs ((NO (rowOf t)).drop off) aji;have hx1:=hx;simp only [VR] at hx1;obtain⟨hid,k,hk,rfl⟩:=hx1;simp only [SB.den,beq_iff_eq] at hij;have CP:j0.den E1.ρ=(k:Int):=by rw [<- hij]; exact hk
        obtain⟨rc,ho,ry⟩:=r1.om Y;rw [cm] at t2;have ff:k<(dec (e.den E1.ρ)).l.length:=J
        have hd:(dec (e.den E1.ρ)).l[k]?=some (dec (e.den E1.ρ)).l[k]:=aO ff;generalize hxk:(dec (e.den E1.ρ)).l[k]=xk at hd;obtain⟨c1,c2⟩:=jg (ρ:=E1.ρ) ho (j:=0) hd;rw [aA] at c1;generalize aat:bE E1.ρ (rowOf t) ov ((dec (e.den E1.ρ)).l.take k) 0=pre at c1 c2;generalize RA:bE E1.ρ (rowOf t) ov ((dec (e.den E1.ρ)).l.drop (k+1)) (k+1)=post at c1
        have iR:(∀h us,ct E1 h (match dW E1.ρ k ov with |some cs=>cs|none=>gz (rowOf t) (.ei xk)) us↔ct E1 h cs us)/\cs.length=(rowOf t).es:=by
         rcases nJ fB CP hc with g|⟨g,rfl⟩
         ·rw [g];obtain⟨p,p1,p2,_⟩:=kI g;have:=ho p p1;rw [p2] at this;exact⟨fun _ _=>Iff.rfl,this⟩
         ·rw [g];refine⟨fun h us=>xr ?_,gQ _ _⟩;rw [Bi E1.ρ e j0 CP hd];simp only [V.den,bB]
        obtain⟨hrv,BQ⟩:=iR;have Jc:lE.length=(rowOf t).es:=by rw [ly hs,BQ]
        have RB:OR E1 w.heap id (.cells (pre++(cs++post)) Aq):=by
         have:=(rc.live id _ (by rw [Hp.bQ,ag rfl])).2.1;unfold cK at this;rw [c1] at this;refine OR.congr this ?_ ?_
         ·simp only [aT,BQ];congr 2;split
          ·rename_i cs0 h0;obtain⟨p,p1,p2,_⟩:=kI h0;have:=ho p p1;rw [p2] at this;exact this.symm
          ·rw [gQ]
         ·intro us q2;obtain⟨a,b,rfl,a1,a2⟩:=q2.split;obtain⟨a',b',rfl,b1,b2⟩:=a2.split;exact a1.append (((hrv _ _).1 b1).append b2)
        have r2:=r1.swap (H2:=s.h.put id (.cells (pre++(cs++post)) Aq)) Y RB (by rw [Hp.bQ,ag rfl]) (fun j hj=>by rw [Hp.bQ,af hj]) rfl rfl
        have hs2:dV (pre++(cs++post)) (k*es+off) (LZ ((NO (rowOf t)).drop off) vs)=some (pre++(lE++post)):=by rw [<- lr,<- c2];exact sF pre (nI post hs)
        obtain⟨w',g1,g2,g3⟩:=lL (P:=P) r2 (by rw [Hp.bQ,ag rfl]) hs2 He Yx;have hlen:x.cells.size=ti.size:=by have:=aji.length; simp only [bo] at this; omega
        have jw:(Instr.storeAt ty (.pointer (some ⟨(E1.θ id).1,(E1.θ id).2+(k*es+off),none⟩)) x).run P w= .ok () w':=by simp [Instr.storeAt,Instr.sureAddr,storeVar,eA (cI ty ti fP),hlen,g1]
        have fin: ∀(o':dN),OR E1 w'.heap id o'->∃w' E',(Instr.storeAt ty (.pointer (some ⟨(E1.θ id).1,(E1.θ id).2+(k*es+off),none⟩)) x).run P w= .ok () w'/\eU E1 s.h w E' (s.h.put id o') w'/\bO E' (s.h.put id o') w':=by
         intro o' yf;have al1:F3 (s.h.put id (.cells (pre++(cs++post)) Aq)) s.h:=(F3.put Y).symm
         have al2:F3 ((s.h.put id (.cells (pre++(cs++post)) Aq)).put id (.cells (pre++(lE++post)) Aq)) (s.h.put id o'):=by
          refine⟨fun j y hj=>?_,fun j y hj=>?_,rfl,rfl⟩
          ·rw [Hp.bQ];split
           ·exact⟨o',rfl⟩
           ·rename_i fJ;rw [Hp.bQ,af fJ,Hp.bQ,af fJ] at hj;exact⟨y,hj⟩
          ·rw [Hp.bQ] at hj ⊢;split
           ·exact⟨_,rfl⟩
           ·rename_i fJ;rw [af fJ] at hj;rw [Hp.bQ,af fJ];exact⟨y,hj⟩
         refine⟨w',E1,jw,(g2.left al1).right al2,?_⟩;exact g3.swap (id:=id) (by rw [Hp.bQ,ag rfl]) yf (by rw [Hp.bQ,ag rfl]) (fun j hj=>by rw [Hp.bQ,af hj,Hp.bQ,af hj,Hp.bQ,af hj]) rfl rfl
        have A0:=(g3.live id _ (by rw [Hp.bQ,ag rfl])).2.1
        have apart: ∀iQ:List (V×List W),sK (rowOf t) iQ->dW E1.ρ k iQ=some lE->(∀j:Nat,j≠k->dW E1.ρ j iQ=dW E1.ρ j ov)->OR E1 w'.heap id (.vec e t Aq iQ):=by
         intro iQ q1 q2 q3;refine OR.om.2 ⟨⟨q1,ry⟩,?_⟩
         have:cK E1.ρ e t iQ=pre++(lE++post):=by
          unfold cK;obtain⟨d1,_⟩:=jg (ρ:=E1.ρ) q1 (j:=0) hd;rw [aA,q2] at d1;rw [d1,<- aat,<- RA];congr 1
          ·refine ky _ _ fun j _ hj=>q3 j ?_;rw [a8] at hj;omega
          ·congr 1;exact ky _ _ fun j hj _=>q3 j J
         rw [this];exact A0
        split at h3
        ·rename_i iQ qz;have:=bD h3;simp only [ak] at this;obtain⟨rfl,rfl⟩:=this;refine⟨rfl,fB,rfl,?_⟩;obtain⟨q1,q2,q3⟩:=DK fB CP Jc qz ho;exact fin _ (apart iQ q1 q2 q3)
        ·split at h3
         ·rename_i ajN;have:=bD h3;simp only [ak] at this;obtain⟨rfl,rfl⟩:=this;refine⟨rfl,fB,rfl,fin _ (apart _ ?_ ?_ ?_)⟩
          ·intro p fB;rcases ax.1 fB with rfl|fB
           ·exact Jc
           ·exact ho p fB
          ·simp only [dW];rw [ag CP]
          ·intro j hj;simp only [dW];rw [af J]
         ·simp [T.leaf] at h3
       ·simp [T.leaf] at h3
      ·simp [T.leaf] at h3
     ·simp [T.leaf] at h3
    ·simp [T.leaf] at h
   ·simp [T.leaf] at h
  ·simp [T.leaf] at h
 ·simp [T.leaf] at h
theorem L7 [bH] {tt:TT} (cI:eC P tt) {s s':St} (r:bO E s.h w) (hp:bV E.ρ s.pc) {ty id es:Nat} {i:V} {off:Nat} {v v':W} {u x:Value} (hx:VR E w.heap (.yi id es i off) u) (hv:VR E w.heap v x) (h:(ED tt s ty id es i off v).leaf E.ρ=some (v',s')) :
 s'.bF=s.bF/\bV E.ρ s'.pc/\v'=W.undef/\∃w' E',(Instr.storeAt ty u x).run P w= .ok () w'/\eU E s.h w E' s'.h w'/\bO E' s'.h w':=by
 unfold ED at h;split at h
 ·exact L5 cI r hp hx (fun ug=> ⟨hv.cells ug,(hv.cells ug).rN ug⟩) h
 ·obtain⟨vs,U,fI,E1,fu,f,q,g⟩:=pJ rfl r hp h;have hρ:=f.ρ;rw [<- hρ] at fu g;obtain⟨a1,a2,a3,w',E',a4,a5,a6⟩:=L6 cI (s:={ s with h:=U,pc:=fI }) f.rel fu (VR.keep (f.ew.keeps r) _ _ hx) (fun ug=> ⟨q _ (hv.cells ug),(hv.cells ug).rN ug⟩) g;exact⟨a1,by rw [<- hρ]; exact a2,a3,w',E',a4,f.ew.trans a5,a6⟩
end
section
variable {P:Program} {E:En} {w:World}
theorem uh.length {ro:Nat->Prop} {h:Array Obj} {r:Row} {d:D} {us:List Value} (hh:uh ro h r d us):us.length=r.es:=by
 cases r with
 |one c=>obtain⟨u,rfl,_⟩:=hh; rfl
 |many cs=>exact dS.length hh
theorem fS.append {h:Array Obj} {b o:Nat} {us vs:List Value} (U:fS h b o us) (Z:fS h b (o+us.length) vs):fS h b o (us++vs):=by
 intro i u hi;rw [aop] at hi;split at hi
 ·exact U i u hi
 ·rename_i ff;have:=Z _ u hi
  grind
theorem Dz {ro:Nat->Prop} (jx:ro=E.ro) {h:Array Obj} {r:Row} {b o:Nat}: ∀(L:List D) (j:Nat),(∀i x,L[i]?=some x->∃us,uh ro h r x us/\fS h b (o+(j+i)*r.es) us)->
 ∃us,ct E h (bE E.ρ r [] L j) us/\fS h b (o+j*r.es) us/\us.length=L.length*r.es/\∀u∈us,u.oneCell'=true
 |[],j,_=> ⟨[],by simp [bE,ct],fun i u hi=>by simp at hi,ad,ad⟩
 |d::L,j,hh=>by
  subst jx;obtain⟨a,a1,a2⟩:=hh 0 d rfl
  obtain⟨b',b1,b2,b3,b4⟩:=Dz rfl L (j+1) fun i x hi=>by have:=hh (i+1) x (by simpa using hi);rw [show j+(i+1)=j+1+i by omega] at this;exact this
  have U9:=a1.length;refine⟨a++b',?_,?_,?_,?_⟩
  ·simp only [bE,dW];refine ct.append ?_ b1;rw [fA];simpa only [V.den,bB] using a1
  ·rw [bj] at a2;refine a2.append ?_
   grind
  ·grind
  ·intro u hu;rcases amW.1 hu with hu|hu
   ·exact a1.rN u hu
   grind
theorem aa6 {t:Nat} {d:D} {u:Value} (hr:Rd E.ro w.heap (.sl t) d u) (fJ:d.l≠[]): ∃us,Src P E w (rowOf t).es d.l.length (bE E.ρ (rowOf t) [] d.l 0) u us:=by
 obtain⟨x,hx⟩ : ∃x,d.l[0]?=some x:=by
  cases h:d.l with
  |nil=>exact absurd h fJ
  |cons a l=>exact⟨a,rfl⟩
 obtain⟨b,o,cap,us0,rfl,hb,_,_⟩:=hr.row hx
 obtain⟨us,U,Z,h3,h4⟩:=Dz (E:=E) (ro:=E.ro) rfl (h:=w.heap) (r:=rowOf t) (b:=b) (o:=o) d.l 0 fun i x hi=>by
  obtain⟨b',o',pV,gx,he,_,g1,g2⟩:=hr.row hi
  grind
 rw [amS,bj] at Z;exact⟨us.toArray,fun _=>rfl,fun w2 hw=>by simp only [Builtin.firstCells]; exact Z.QT h3 w2 hw,by simpa using U,by simpa using h3,by simpa using h4⟩
structure Grown (ρ:Nat->Int) (r:Row) (e0 e1:V) (ds:List D) (news:List W):Prop where
 l:(dec (e1.den ρ)).l=(dec (e0.den ρ)).l++ds
 wf:dec (e1.den ρ)=dL (dec (e1.den ρ)).l
 rows: ∀d∈ds,oH r d
 vr: ∀(E':En) (h:Array Obj) (us:List Value) (j:Nat),E'.ρ=ρ->ct E' h news us->ct E' h (bE ρ r [] ds j) us
theorem j6 (r:Row):sK r []:=fun p hp=>by simp at hp
theorem CL [bH] {E':En} {H0:Hp} {w':World} {cells:List W} {e:TypeId} {e1:V} {t:Nat} (r:bO E' (H0.new (.cells cells e)) w') (ry:sg (rowOf t) (dec (e1.den E'.ρ))) (Y:(cK E'.ρ e1 t []).length=cells.length)
 (hv: ∀us,ct E' w'.heap cells us->ct E' w'.heap (cK E'.ρ e1 t []) us):bO E' (H0.new (.vec e1 t e [])) w':=by
 have hg:(H0.new (.cells cells e)).get H0.fresh=some (.cells cells e):=by rw [Hp.ga,ag rfl]
 refine r.swap hg (OR.om.2 ⟨⟨j6 _,ry⟩,OR.congr (r.live _ _ hg).2.1 Y hv⟩) (by rw [Hp.ga,ag rfl]) (fun j hj=>by rw [Hp.ga,af hj,Hp.ga,af hj]) ?_ ?_
 all_goals grind [Hp.new]
theorem vS {H0 H1:Hp} {o o':dN} (hn:H1.next=H0.next) (hr:H1.res=H0.res) (hg: ∀j,(H0.get j).isSome=(H1.get j).isSome):F3 (H0.new o) (H1.new o'):=by
 have hf:H1.fresh=H0.fresh:=by unfold Hp.fresh; rw [hn,hr]
 have key: ∀{A B:Option dN} {x:dN},A.isSome=B.isSome->A=some x->∃y,B=some y:=by intro A B x U Z;rw [Z] at U;exact ant.1 U.symm
 refine⟨fun j x hj=>?_,fun j x hj=>?_,?_,?_⟩
 all_goals grind [Hp.ga,Hp.new]
set_option maxHeartbeats 800000 in
theorem xZ [bH] {t t2 ty:Nat} {H h0:Hp} (r:bO E H w) {ie:TI} {e m:Nat} {own:Option Nat} {news:List W} {x:W} {d2:TypeDesc} {u u2:Value} {us:Array Value} (uX:mc P e ie)
 (ht:P.underlying t=some (.slice e)) (ye:P.underlying t2=some d2) (jW: ∀k,d2≠.int k) (w5:ie.size≠0) (rz:ie.bytes≠0) (wa:ie.zero.length=ie.size) (M0:ie.bytes<=400)
 (src:Src P E w ie.size m news u2 us) (hm:0<m) (hx:VR E w.heap x u) {e0 e1:V} {t':Nat} (hb:pX e own x H=some (e0,t',h0)) (lr:(rowOf t').es=ie.size) {ds:List D} (g:Grown E.ρ (rowOf t') e0 e1 ds news) (s7:ds.length=m)
 (afy:((dec (e0.den E.ρ)).l.length+m)*ie.bytes<=140737488355328) :
 ∃y w' E',(Builtin.append_ #[t,t2] ty #[u,u2]).run P w= .ok y w'/\eU E H w E' (h0.new (.vec e1 t' e [])) w'/\bO E' (h0.new (.vec e1 t' e [])) w'/\VR E' w'.heap (.ow h0.fresh (dM e1) t') y:=by
 have hbound: ∀k,k<=(dec (e0.den E.ρ)).l.length->(k+m)*ie.bytes<=140737488355328:=by intro k hk;exact bn (ans _ J) afy
 have hnl:news.length=m*ie.size:=by have U:=src.U1.length;have Z:=src.size;simp only [bo] at U;omega
 have td: ∀(a:Option Addr),u= .slice a 0 0->h0=H->(dec (e0.den E.ρ)).l= []->
  ∃y w' E',(Builtin.append_ #[t,t2] ty #[u,u2]).run P w= .ok y w'/\eU E H w E' (h0.new (.vec e1 t' e [])) w'/\bO E' (h0.new (.vec e1 t' e [])) w'/\VR E' w'.heap (.ow h0.fresh (dM e1) t') y:=by
  intro a hu he nP;subst hu he
  have oA:np ie e 0 m news h0=some (.slice h0.fresh 0 (0+m) (.rest ie.size),h0.new (.cells news e)):=by unfold np;rw [ag (hbound 0 J)]
  obtain⟨y,w',E',p1,p2,p3,p4⟩:=oV (t:=t) (t2:=t2) (ty:=ty) (cap:=0) r uX ht ye jW rz wa src J a (old:=[]) (olds:=#[]) (cs:=news) ad (by simp [ct]) ad ad
   (fun w2 _=>by
    cases a with
    |none=>simp [Builtin.firstCells]
    |some a=>simp only [Builtin.firstCells,amS]; rfl) oA
  have hρ:=p2.ρ;have AY:(dec (e1.den E'.ρ)).l=ds:=by rw [hρ,g.l,nP,ay]
  have ry:sg (rowOf t') (dec (e1.den E'.ρ)):=by refine⟨by rw [hρ]; exact g.wf,fun d hd=>?_,by rw [AY]; intro q; rw [q] at s7; simp at s7; omega⟩;rw [AY] at hd;exact g.rows d hd
  refine⟨y,w',E',p1,p2.right (vS rfl rfl fun _=>rfl),CL p3 ry ?_ ?_,?_⟩
  ·unfold cK;rw [cD (j6 _),AY,s7,lr,hnl]
  ·intro gx BL;unfold cK;rw [AY,hρ];exact g.vr E' w'.heap gx 0 hρ BL
  ·simp only [VR] at p4 ⊢;obtain⟨q1,a',pV,q2,q3,q4⟩:=p4;refine⟨q1,0+m,a',pV,?_,q2,q3,?_⟩
   ·rw [cm,AY,s7,aA]
   ·rw [lr]; exact q4
 unfold pX at hb;split at hb
 ·rename_i id n t0;split at hb
  ·rename_i o Y;split at hb
   ·rename_i zS t00 so ov;split at hb
    ·split at hb
     ·rename_i ht0;split at hb
      ·rename_i Om;split at hb
       ·rename_i hn;simp only [ah,ak] at hb;obtain⟨rfl,rfl,rfl⟩:=hb;have ht0:=aq ht0;have Om:=aq Om;have hn:=cG _ _ hn;subst ht0 Om hn;obtain⟨r2,_,afp⟩:=r.om Y;simp only [VR] at hx;obtain⟨hid,k,a,cap,hk,rfl,hkc,fW⟩:=hx;rw [cm] at hk;have hk:k=(dec (zS.den E.ρ)).l.length:=J
        have hx2:VR E w.heap (.slice id 0 k (.rest ie.size)) (.slice (some a) k cap):=by simp only [VR];exact⟨hid,a,cap,rfl,hkc,by rw [<- lr]; exact fW⟩
        have BQ:(cK E.ρ zS t0 []).length=k*ie.size:=by unfold cK;rw [cD (j6 _),lr,hk]
        have ajx:0<m*ie.size:=anY hm J
        have afF:pZ ie so m news (.slice id 0 k (.rest ie.size)) (H.put id (.cells (cK E.ρ zS t0 []) so)) =
         some (.slice H.fresh 0 (k+m) (.rest ie.size),((H.put id (.cells (cK E.ρ zS t0 []) so)).drop id).new (.cells (cK E.ρ zS t0 []++news) so)):=by
         unfold pZ;simp only [if_true];rw [Hp.bQ,ag rfl];simp only;rw [af (by rw [BQ,am0]; omega),ag ⟨J,trivial⟩];simp only [eF];unfold np;rw [ag (hbound k J)];rfl
        obtain⟨y,w',E',p1,p2,p3,p4⟩:=vB (t:=t) (t2:=t2) (ty:=ty) r2 uX ht ye jW w5 rz wa src hx2 afF;have hρ:=p2.ρ;have AY:(dec (e1.den E'.ρ)).l=(dec (zS.den E.ρ)).l++ds:=by rw [hρ,g.l]
        have ry:sg (rowOf t0) (dec (e1.den E'.ρ)):=by
         refine⟨by rw [hρ]; exact g.wf,fun d hd=>?_,by rw [AY]; intro q; have:=congrArg List.length q; simp at this; rw [this.2] at s7; simp at s7; omega⟩;rw [AY] at hd;rcases amW.1 hd with hd|hd
         ·exact afp.2.1 d hd
         ·exact g.rows d hd
        have RI:cK E'.ρ e1 t0 []=cK E.ρ zS t0 []++bE E.ρ (rowOf t0) [] ds (0+(dec (zS.den E.ρ)).l.length):=by unfold cK;rw [AY,hρ,lK]
        have Eg: ∀j,(((H.put id (.cells (cK E.ρ zS t0 []) so)).drop id).get j)=(H.drop id).get j:=by
         intro j;rw [Hp.kq,Hp.kq];split
         ·rfl
         ·rename_i fJ;rw [Hp.bQ,af fJ]
        have al:F3 (((H.put id (.cells (cK E.ρ zS t0 []) so)).drop id).new (.cells (cK E.ρ zS t0 []++news) so)) ((H.drop id).new (.vec e1 t0 so [])):=
         vS rfl rfl fun j=>by rw [Eg]
        have p3':bO E' ((H.drop id).new (.cells (cK E.ρ zS t0 []++news) so)) w':=by
         have hg:(((H.put id (.cells (cK E.ρ zS t0 []) so)).drop id).new (.cells (cK E.ρ zS t0 []++news) so)).get H.fresh=some (.cells (cK E.ρ zS t0 []++news) so):=by rw [Hp.ga];exact ag rfl
         refine p3.swap hg (p3.live _ _ hg).2.1 (by rw [Hp.ga]; exact ag rfl) (fun j hj=>?_) ?_ ?_
         ·rw [Hp.ga,Hp.ga];show (if j=H.fresh then _ else _)=(if j=H.fresh then _ else _);rw [af hj,af hj,Eg]
         ·unfold Hp.new;simp only [Hp.drop,Hp.put];split<;>rfl
         ·unfold Hp.new;simp only [Hp.drop,Hp.put];split<;>rfl
        refine⟨y,w',E',p1,(p2.left (F3.put Y).symm).right al,CL p3' ry ?_ ?_,?_⟩
        ·rw [RI,aT,aT,cD (j6 _),s7,lr,hnl]
        ·intro gx BL;obtain⟨a1,a2,rfl,b1,b2⟩:=BL.split;rw [RI];exact b1.append (g.vr E' w'.heap a2 _ hρ b2)
        ·simp only [VR] at p4 ⊢;obtain⟨q1,a',pV,q2,q3,q4⟩:=p4;refine⟨q1,k+m,a',pV,?_,q2,q3,?_⟩
         ·rw [cm,AY,aT,s7,hk]
         ·rw [lr]; exact q4
       ·simp at hb
      ·simp at hb
     ·simp at hb
    ·simp at hb
   ·simp at hb
  ·simp at hb
 ·split at hb
  ·simp only [ah,ak] at hb;obtain⟨rfl,rfl,rfl⟩:=hb;simp only [VR] at hx;exact td none hx rfl (by simp only [V.den,bB,D.l])
  ·simp at hb
 ·split at hb
  ·simp only [ah,ak] at hb;obtain⟨rfl,rfl,rfl⟩:=hb;simp only [VR] at hx;obtain⟨x,hx⟩:=hx;exact td x hx rfl (by simp only [V.den,bB,D.l])
  ·simp at hb
 ·split at hb
  ·simp only [ah,ak] at hb;obtain⟨rfl,rfl,rfl⟩:=hb;simp only [VR] at hx;obtain⟨⟨x,hx⟩,_⟩:=hx;exact td x hx rfl (by simp only [V.den,bB,D.l])
  ·simp at hb
 ·split at hb
  ·split at hb
   ·split at hb
    ·split at hb
     ·simp only [ah,ak] at hb;obtain⟨rfl,rfl,rfl⟩:=hb;simp only [VR] at hx;obtain⟨_,a,cap,rfl,_,hc⟩:=hx;simp only [eD] at hc;obtain⟨rfl,_⟩:=hc;exact td (some a) rfl rfl (by simp only [V.den,bB,D.l])
     ·simp at hb
    ·simp at hb
   ·simp at hb
  ·simp at hb
 ·simp at hb
end
noncomputable def HW (e:Nat) (own:Option Nat) (x:W) (h:Hp):Option (V×Nat×List (V×List W)×Hp):=match x with
 | .ow id n t=>match h.get id with
   |some o=>match o with
    | .vec e0 t0 ty ov=>match Nat.beq t t0 with
     |true=>match Nat.beq ty e with
      |true=>match eV n (dM e0) with
       |true=>some (e0,t,ov,h.drop id)
       |false=>none
      |false=>none
     |false=>none
    |_=>none
   |none=>none
 | .dq=>match own with
   |some t=>some (.ei (.i 0),t,[],h)
   |none=>none
 | .emp=>match own with
   |some t=>some (.ei (.i 0),t,[],h)
   |none=>none
 | .wL _ _=>match own with
   |some t=>some (.ei (.i 0),t,[],h)
   |none=>none
 | .slice _ _ n c=>match n with
   |0=>match c with
    | .exact k=>match k with
      |0=>match own with
       |some t=>some (.ei (.i 0),t,[],h)
       |none=>none
      |_=>none
    |_=>none
   |_=>none
 |_=>none
section
variable {P:Program} {E:En} {w:World}
structure PH (ρ:Nat->Int) (r:Row) (e0 e1:V) (ov0 ov1:List (V×List W)) (ds:List D) (news:List W):Prop where
 l:(dec (e1.den ρ)).l=(dec (e0.den ρ)).l++ds
 wf:dec (e1.den ρ)=dL (dec (e1.den ρ)).l
 rows: ∀d∈ds,oH r d
 vr: ∀(E':En) (h:Array Obj) (us0 us:List Value),E'.ρ=ρ->ct E' h (bE ρ r ov0 (dec (e0.den ρ)).l 0) us0->ct E' h news us->ct E' h (bE ρ r ov1 (dec (e1.den ρ)).l 0) (us0++us)
theorem Lb [bH] {E':En} {H0:Hp} {w':World} {cells:List W} {e:TypeId} {e1:V} {t:Nat} {ov:List (V×List W)} (r:bO E' (H0.new (.cells cells e)) w') (ho:sK (rowOf t) ov) (ry:sg (rowOf t) (dec (e1.den E'.ρ))) (Y:(cK E'.ρ e1 t ov).length=cells.length)
 (hv: ∀us,ct E' w'.heap cells us->ct E' w'.heap (cK E'.ρ e1 t ov) us):bO E' (H0.new (.vec e1 t e ov)) w':=by
 have hg:(H0.new (.cells cells e)).get H0.fresh=some (.cells cells e):=by rw [Hp.ga,ag rfl]
 refine r.swap hg (OR.om.2 ⟨⟨ho,ry⟩,OR.congr (r.live _ _ hg).2.1 Y hv⟩) (by rw [Hp.ga,ag rfl]) (fun j hj=>by rw [Hp.ga,af hj,Hp.ga,af hj]) ?_ ?_
 all_goals grind [Hp.new]
set_option maxHeartbeats 800000 in
theorem B8 [bH] {t t2 ty:Nat} {H h0:Hp} (r:bO E H w) {ie:TI} {e m:Nat} {own:Option Nat} {news:List W} {x:W} {d2:TypeDesc} {u u2:Value} {us:Array Value} (uX:mc P e ie)
 (ht:P.underlying t=some (.slice e)) (ye:P.underlying t2=some d2) (jW: ∀k,d2≠.int k) (w5:ie.size≠0) (rz:ie.bytes≠0) (wa:ie.zero.length=ie.size) (M0:ie.bytes<=400)
 (src:Src P E w ie.size m news u2 us) (hm:0<m) (hx:VR E w.heap x u) {e0 e1:V} {t':Nat} {ov0 ov1:List (V×List W)} (hb:HW e own x H=some (e0,t',ov0,h0)) (lr:(rowOf t').es=ie.size) {ds:List D} (g:PH E.ρ (rowOf t') e0 e1 ov0 ov1 ds news) (s7:ds.length=m)
 (qz:sK (rowOf t') ov1) (afy:((dec (e0.den E.ρ)).l.length+m)*ie.bytes<=140737488355328) :
 ∃y w' E',(Builtin.append_ #[t,t2] ty #[u,u2]).run P w= .ok y w'/\eU E H w E' (h0.new (.vec e1 t' e ov1)) w'/\bO E' (h0.new (.vec e1 t' e ov1)) w'/\VR E' w'.heap (.ow h0.fresh (dM e1) t') y:=by
 have hbound: ∀k,k<=(dec (e0.den E.ρ)).l.length->(k+m)*ie.bytes<=140737488355328:=by intro k hk;exact bn (ans _ J) afy
 have hnl:news.length=m*ie.size:=by have U:=src.U1.length;have Z:=src.size;simp only [bo] at U;omega
 have td: ∀(a:Option Addr),u= .slice a 0 0->h0=H->(dec (e0.den E.ρ)).l= []->
  ∃y w' E',(Builtin.append_ #[t,t2] ty #[u,u2]).run P w= .ok y w'/\eU E H w E' (h0.new (.vec e1 t' e ov1)) w'/\bO E' (h0.new (.vec e1 t' e ov1)) w'/\VR E' w'.heap (.ow h0.fresh (dM e1) t') y:=by
  intro a hu he nP;subst hu he
  have oA:np ie e 0 m news h0=some (.slice h0.fresh 0 (0+m) (.rest ie.size),h0.new (.cells news e)):=by unfold np;rw [ag (hbound 0 J)]
  obtain⟨y,w',E',p1,p2,p3,p4⟩:=oV (t:=t) (t2:=t2) (ty:=ty) (cap:=0) r uX ht ye jW rz wa src J a (old:=[]) (olds:=#[]) (cs:=news) ad (by simp [ct]) ad ad
   (fun w2 _=>by
    cases a with
    |none=>simp [Builtin.firstCells]
    |some a=>simp only [Builtin.firstCells,amS]; rfl) oA
  have hρ:=p2.ρ;have AY:(dec (e1.den E'.ρ)).l=ds:=by rw [hρ,g.l,nP,ay]
  have ry:sg (rowOf t') (dec (e1.den E'.ρ)):=by refine⟨by rw [hρ]; exact g.wf,fun d hd=>?_,by rw [AY]; intro q; rw [q] at s7; simp at s7; omega⟩;rw [AY] at hd;exact g.rows d hd
  refine⟨y,w',E',p1,p2.right (vS rfl rfl fun _=>rfl),Lb p3 qz ry ?_ ?_,?_⟩
  ·unfold cK;rw [cD qz,AY,s7,lr,hnl]
  ·intro gx BL;unfold cK;rw [hρ];have:=g.vr E' w'.heap [] gx hρ (by rw [nP]; simp [bE,ct]) BL;simpa using this
  ·simp only [VR] at p4 ⊢;obtain⟨q1,a',pV,q2,q3,q4⟩:=p4;refine⟨q1,0+m,a',pV,?_,q2,q3,?_⟩
   ·rw [cm,AY,s7,aA]
   ·rw [lr]; exact q4
 unfold HW at hb;split at hb
 ·rename_i id n t0;split at hb
  ·rename_i o Y;split at hb
   ·rename_i zS t00 so ov
    ·split at hb
     ·rename_i ht0;split at hb
      ·rename_i Om;split at hb
       ·rename_i hn;simp only [ah,ak] at hb;obtain⟨rfl,rfl,rfl,rfl⟩:=hb;have ht0:=aq ht0;have Om:=aq Om;have hn:=cG _ _ hn;subst ht0 Om hn;obtain⟨r2,ajs,afp⟩:=r.om Y;simp only [VR] at hx;obtain⟨hid,k,a,cap,hk,rfl,hkc,fW⟩:=hx;rw [cm] at hk;have hk:k=(dec (zS.den E.ρ)).l.length:=J
        have hx2:VR E w.heap (.slice id 0 k (.rest ie.size)) (.slice (some a) k cap):=by simp only [VR];exact⟨hid,a,cap,rfl,hkc,by rw [<- lr]; exact fW⟩
        have BQ:(cK E.ρ zS t0 ov).length=k*ie.size:=by unfold cK;rw [cD ajs,lr,hk]
        have ajx:0<m*ie.size:=anY hm J
        have afF:pZ ie so m news (.slice id 0 k (.rest ie.size)) (H.put id (.cells (cK E.ρ zS t0 ov) so)) =
         some (.slice H.fresh 0 (k+m) (.rest ie.size),((H.put id (.cells (cK E.ρ zS t0 ov) so)).drop id).new (.cells (cK E.ρ zS t0 ov++news) so)):=by
         unfold pZ;simp only [if_true];rw [Hp.bQ,ag rfl];simp only;rw [af (by rw [BQ,am0]; omega),ag ⟨J,trivial⟩];simp only [eF];unfold np;rw [ag (hbound k J)];rfl
        obtain⟨y,w',E',p1,p2,p3,p4⟩:=vB (t:=t) (t2:=t2) (ty:=ty) r2 uX ht ye jW w5 rz wa src hx2 afF;have hρ:=p2.ρ;have AY:(dec (e1.den E'.ρ)).l=(dec (zS.den E.ρ)).l++ds:=by rw [hρ,g.l]
        have ry:sg (rowOf t0) (dec (e1.den E'.ρ)):=by
         refine⟨by rw [hρ]; exact g.wf,fun d hd=>?_,by rw [AY]; intro q; have:=congrArg List.length q; simp at this; rw [this.2] at s7; simp at s7; omega⟩;rw [AY] at hd;rcases amW.1 hd with hd|hd
         ·exact afp.2.1 d hd
         ·exact g.rows d hd
        have Eg: ∀j,(((H.put id (.cells (cK E.ρ zS t0 ov) so)).drop id).get j)=(H.drop id).get j:=by
         intro j;rw [Hp.kq,Hp.kq];split
         ·rfl
         ·rename_i fJ;rw [Hp.bQ,af fJ]
        have al:F3 (((H.put id (.cells (cK E.ρ zS t0 ov) so)).drop id).new (.cells (cK E.ρ zS t0 ov++news) so)) ((H.drop id).new (.vec e1 t0 so ov1)):=
         vS rfl rfl fun j=>by rw [Eg]
        have p3':bO E' ((H.drop id).new (.cells (cK E.ρ zS t0 ov++news) so)) w':=by
         have hg:(((H.put id (.cells (cK E.ρ zS t0 ov) so)).drop id).new (.cells (cK E.ρ zS t0 ov++news) so)).get H.fresh=some (.cells (cK E.ρ zS t0 ov++news) so):=by rw [Hp.ga];exact ag rfl
         refine p3.swap hg (p3.live _ _ hg).2.1 (by rw [Hp.ga]; exact ag rfl) (fun j hj=>?_) ?_ ?_
         ·rw [Hp.ga,Hp.ga];show (if j=H.fresh then _ else _)=(if j=H.fresh then _ else _);rw [af hj,af hj,Eg]
         ·unfold Hp.new;simp only [Hp.drop,Hp.put];split<;>rfl
         ·unfold Hp.new;simp only [Hp.drop,Hp.put];split<;>rfl
        refine⟨y,w',E',p1,(p2.left (F3.put Y).symm).right al,Lb p3' qz ry ?_ ?_,?_⟩
        ·unfold cK;rw [cD qz,AY,aT,aT,cD ajs,s7,lr,hnl,am0]
        ·intro gx BL;obtain⟨a1,a2,rfl,b1,b2⟩:=BL.split;unfold cK at b1 ⊢;rw [hρ];exact g.vr E' w'.heap a1 a2 hρ b1 b2
        ·simp only [VR] at p4 ⊢;obtain⟨q1,a',pV,q2,q3,q4⟩:=p4;refine⟨q1,k+m,a',pV,?_,q2,q3,?_⟩
         ·rw [cm,AY,aT,s7,hk]
         ·rw [lr]; exact q4
       ·simp at hb
      ·simp at hb
     ·simp at hb
   ·simp at hb
  ·simp at hb
 ·split at hb
  ·simp only [ah,ak] at hb;obtain⟨rfl,rfl,rfl,rfl⟩:=hb;simp only [VR] at hx;exact td none hx rfl (by simp only [V.den,bB,D.l])
  ·simp at hb
 ·split at hb
  ·simp only [ah,ak] at hb;obtain⟨rfl,rfl,rfl,rfl⟩:=hb;simp only [VR] at hx;obtain⟨x,hx⟩:=hx;exact td x hx rfl (by simp only [V.den,bB,D.l])
  ·simp at hb
 ·split at hb
  ·simp only [ah,ak] at hb;obtain⟨rfl,rfl,rfl,rfl⟩:=hb;simp only [VR] at hx;obtain⟨⟨x,hx⟩,_⟩:=hx;exact td x hx rfl (by simp only [V.den,bB,D.l])
  ·simp at hb
 ·split at hb
  ·split at hb
   ·split at hb
    ·split at hb
     ·simp only [ah,ak] at hb;obtain⟨rfl,rfl,rfl,rfl⟩:=hb;simp only [VR] at hx;obtain⟨_,a,cap,rfl,_,hc⟩:=hx;simp only [eD] at hc;obtain⟨rfl,_⟩:=hc;exact td (some a) rfl rfl (by simp only [V.den,bB,D.l])
     ·simp at hb
    ·simp at hb
   ·simp at hb
  ·simp at hb
 ·simp at hb
end
section
variable {ρ:Nat->Int} {r:Row}
theorem pR {p:V} {cs:List W}: ∀(ds:List D) (j:Nat),(∀i,j<=i->i<j+ds.length->p.den ρ≠(i:Int))->bE ρ r [(p,cs)] ds j=bE ρ r [] ds j
 |[],_,_=>rfl
 |d::ds,j,h=>by have h0:=h j (au _) (by simp only [aM]; omega);simp only [bE,dW,af h0];rw [pR ds (j+1) fun i U Z=>h i J (by simp only [aM]; omega)]
theorem ai5 {e0 e1 p:V} {cs news:List W} {ds:List D} (g:Grown ρ r e0 e1 ds news) (hp:p.den ρ<((dec (e0.den ρ)).l.length:Int)):PH ρ r e0 e1 [(p,cs)] [(p,cs)] ds news:=by refine⟨g.l,g.wf,g.rows,fun E' h us0 us hρ h0 U=>?_⟩;rw [g.l,lK];refine h0.append ?_;rw [pR ds _ fun i U _=>by omega];exact g.vr E' h us _ hρ U
theorem ahC {e0 e1 p:V} {news zs:List W} {d:D} (g:Grown ρ r e0 e1 [d] zs) (hp:p.den ρ=((dec (e0.den ρ)).l.length:Int)):PH ρ r e0 e1 [] [(p,news)] [d] news:=by
 refine⟨g.l,g.wf,g.rows,fun E' h us0 us hρ h0 U=>?_⟩;rw [g.l,lK,pR _ _ fun i _ Z=>by omega];refine h0.append ?_;simp only [bE,dW,aA]
 grind
theorem agA {e:Nat} {own:Option Nat} {x:W} {h h0:Hp} {e0:V} {t:Nat} (hb:pX e own x h=some (e0,t,h0)):HW e own x h=some (e0,t,[],h0):=by
 unfold pX at hb;unfold HW
 repeat' split at hb
 all_goals first
  |(simp at hb; done)
  |(simp only [ah,ak] at hb; obtain⟨rfl,rfl,rfl⟩:=hb; simp_all)
theorem ali {e:Nat} {own:Option Nat} {x:W} {h h0:Hp} {e0 p:V} {cs:List W} {t:Nat} (hb:AJ e x h=some (e0,t,p,cs,h0)):HW e own x h=some (e0,t,[(p,cs)],h0):=by
 unfold AJ at hb;unfold HW
 repeat' split at hb
 all_goals first
  |(simp at hb; done)
  |(simp only [ah,ak] at hb; obtain⟨rfl,rfl,rfl,rfl,rfl⟩:=hb; simp_all)
end
section
variable {P:Program} {E:En} {w:World}
theorem Src.Uq {E1:En} {s m:Nat} {news BG:List W} {u:Value} {us:Array Value} (src:Src P E w s m news u us) (h:ct E1 w.heap BG us.toList):Src P E1 w s m BG u us:=
 ⟨src.len,src.first,h,src.size,src.rN⟩
theorem room_le {bytes n m:Nat} (rz:bytes≠0) (M0:bytes<=400) (hm:(m:Int)<qU bytes 1000000) (hn:n<1000000):(n+m)*bytes<=140737488355328:=by
 have hm':(m:Int)<((140737488355328 / bytes-1000000:Nat):Int):=hm;have U:m<140737488355328 / bytes-1000000:=J
 have Z:n+m<=140737488355328 / bytes:=J
 exact bn (ans _ Z) (aoy _ _)
theorem Xm {bytes m:Nat} (hm:(m:Int)<qU bytes 0):(([]:List D).length+m)*bytes<=140737488355328:=by
 have hm':(m:Int)<((140737488355328 / bytes-0:Nat):Int):=hm;have Z:([]:List D).length+m<=140737488355328 / bytes:=by simp only [bg]; omega
 exact bn (ans _ Z) (aoy _ _)
theorem DB {bytes n m:Nat} (hn:(n:Int)<qU bytes (m+1)) {k:Nat} (hk:k=m+1):(n+k)*bytes<=140737488355328:=by
 have hn':(n:Int)<((140737488355328 / bytes-(m+1):Nat):Int):=hn;have Z:n+k<=140737488355328 / bytes:=J
 exact bn (ans _ Z) (aoy _ _)
theorem pS {ρ:Nat->Int} {r:Row} {m:Nat} {e e1:V} {news:List W} (h:kz r e m news=some e1) (hw:dec (e.den ρ)=dL (dec (e.den ρ)).l): ∃ds,ds.length=m/\Grown ρ r e e1 ds news:=by obtain⟨ds,U,Z,h3,h4,h5⟩:=qM (ρ:=ρ) m h;exact⟨ds,U,Z,h3 hw,h4,h5⟩
theorem J5 [bH] {H h0:Hp} (r:bO E H w) {e:Nat} {own:Option Nat} {x:W} {e0:V} {t:Nat} (h:pX e own x H=some (e0,t,h0)):dec (e0.den E.ρ)=dL (dec (e0.den E.ρ)).l:=by
 have hz:dec ((V.ei (.i 0)).den E.ρ)=dL (dec ((V.ei (.i 0)).den E.ρ)).l:=by simp only [V.den,bB]; rfl
 unfold pX at h;split at h
 ·split at h
  ·rename_i o Y;split at h
   ·split at h
    ·split at h
     ·split at h
      ·split at h
       ·simp only [ah,ak] at h;obtain⟨rfl,_⟩:=h;exact (r.om Y).2.2.1
       grind
      grind
     grind
    grind
   grind
  grind
 all_goals grind
theorem B9 [bH] {t t2 ty:Nat} {ie:TI} {e:Nat} {d2:TypeDesc} {u u2:Value} {us:Array Value} {news:List W} (uX:mc P e ie) (ht:P.underlying t=some (.slice e)) (ye:P.underlying t2=some d2) (jW: ∀k,d2≠.int k)
 (src:Src P E w ie.size 0 news u2 us) (ho: ∃a n cap,u= .slice a n cap/\n<=cap):(Builtin.append_ #[t,t2] ty #[u,u2]).run P w= .ok u w:=by
 obtain⟨inf,d,z,U,Z,h3,h4,h5,h6,h7,h8⟩:=uX.all;obtain⟨a,n,cap,rfl,hn⟩:=ho;have BL:us.toList= []:=amT (by rw [bo,src.size,amS])
 have:=kA (t:=t) (t2:=t2) (ty:=ty) (n:=n) (cap:=cap) (a:=a) (w':=w) ht ye jW U h5 src J (by
  cases a with
  |none=>rfl
  |some a=>rw [BL]; rfl)
 grind
theorem TQ {x:W} {u:Value} {H h0:Hp} {e t:Nat} {own:Option Nat} {e0:V} (hx:VR E w.heap x u) (hb:pX e own x H=some (e0,t,h0)): ∃a n cap,u= .slice a n cap/\n<=cap:=by
 unfold pX at hb;split at hb
 ·simp only [VR] at hx
  grind
 ·simp only [VR] at hx
  grind
 ·simp only [VR] at hx
  grind
 ·simp only [VR] at hx
  grind
 ·simp only [VR] at hx
  grind
 grind
theorem Lt {x:W} {u:Value} {own:Option Nat} (hx:VR E w.heap x u) (hb:Yb own x=true): ∃a n cap,u= .slice a n cap/\n<=cap:=by
 unfold Yb at hb;split at hb
 ·simp only [VR] at hx
  grind
 ·simp only [VR] at hx
  grind
 ·simp only [VR] at hx
  grind
 ·simp only [VR] at hx
  grind
 ·simp only [VR] at hx
  grind
 ·simp only [VR] at hx
  grind
 grind
theorem BZ [bH] {s s':St} (r:bO E s.h w) (hp:bV E.ρ s.pc) {t t2 ty e m':Nat} {own:Option Nat} {ie:TI} {news:List W} {x v:W} {d2:TypeDesc} {u u2:Value} {us:Array Value} (uX:mc P e ie) (hu:P.underlying t=some (.slice e)) (jW:P.underlying t2=some d2) (u9: ∀k,d2≠.int k)
 (w5:ie.size≠0) (rz:ie.bytes≠0) (wa:ie.zero.length=ie.size) (M0:ie.bytes<=400) (src:Src P E w ie.size (m'+1) news u2 us) (hx:VR E w.heap x u) (h:(zQ e own x ie m' news s).leaf E.ρ=some (v,s')) :
 s'.bF=s.bF/\bV E.ρ s'.pc/\∃z w' E',(Builtin.append_ #[t,t2] ty #[u,u2]).run P w= .ok z w'/\eU E s.h w E' s'.h w'/\bO E' s'.h w'/\VR E' w'.heap v z:=by
 unfold zQ at h;obtain⟨BG,U,pcF,E1,hpF,f,He,h⟩:=pJ rfl r hp h;split at h
 ·rename_i e0 t' h0 hb;split at h
  ·rename_i hc;obtain⟨lr,hm⟩:=hc;have hρ:=f.ρ;obtain⟨fI,fu,Z⟩:=cC (s:={ s with h:=U,pc:=pcF }) hpF h;split at Z
   ·rename_i t3;rw [dR,decide_eq_true_eq,cm] at t3;simp only [V.den] at t3;split at Z
    ·rename_i e1 hcr;have:=bD Z;simp only [ak] at this;obtain⟨rfl,rfl⟩:=this;obtain⟨ds,s7,g⟩:=pS (ρ:=E1.ρ) hcr (J5 f.rel hb);obtain⟨z,w',E',p1,p2,p3,p4⟩:=xZ (t:=t) (t2:=t2) (ty:=ty) f.rel uX hu jW u9 w5 rz wa M0 (src.Uq (He _ src.U1)) J (VR.keep (f.ew.keeps r) _ _ hx) hb lr g s7 (DB (by rw [hρ]; exact t3) J);exact⟨rfl,fu,z,w',E',p1,f.ew.trans p2,p3,p4⟩
    grind [T.leaf]
   grind [T.leaf]
  grind [T.leaf]
 grind [T.leaf]
theorem aiL [bH] {H h0:Hp} (r:bO E H w) {e:Nat} {x:W} {e0 p:V} {cs:List W} {t:Nat} (h:AJ e x H=some (e0,t,p,cs,h0)):dec (e0.den E.ρ)=dL (dec (e0.den E.ρ)).l/\sK (rowOf t) [(p,cs)]:=by
 unfold AJ at h;split at h
 ·split at h
  ·rename_i Y;split at h
   ·split at h
    ·grind
    ·split at h
     ·split at h
      ·rename_i ht;split at h
       ·split at h
        ·simp only [ah,ak] at h;obtain⟨rfl,rfl,rfl,rfl,_⟩:=h;have ht:=aq ht;subst ht;exact⟨(r.om Y).2.2.1,(r.om Y).2.1⟩
        grind
       grind
      grind
     grind
   grind
  grind
 grind
theorem JK [bH] {s s':St} (r:bO E s.h w) (hp:bV E.ρ s.pc) {t t2 ty e m':Nat} {own:Option Nat} {ie:TI} {news:List W} {x v:W} {d2:TypeDesc} {u u2:Value} {us:Array Value} (uX:mc P e ie) (hu:P.underlying t=some (.slice e)) (jW:P.underlying t2=some d2) (u9: ∀k,d2≠.int k)
 (w5:ie.size≠0) (rz:ie.bytes≠0) (wa:ie.zero.length=ie.size) (M0:ie.bytes<=400) (src:Src P E w ie.size (m'+1) news u2 us) (hx:VR E w.heap x u) (h:(Bb e x ie m' news s).leaf E.ρ=some (v,s')) :
 s'.bF=s.bF/\bV E.ρ s'.pc/\∃z w' E',(Builtin.append_ #[t,t2] ty #[u,u2]).run P w= .ok z w'/\eU E s.h w E' s'.h w'/\bO E' s'.h w'/\VR E' w'.heap v z:=by
 unfold Bb at h;obtain⟨BG,U,pcF,E1,hpF,f,He,h⟩:=pJ rfl r hp h;split at h
 ·rename_i e0 t' p cs h0 hb;split at h
  ·rename_i hc;obtain⟨lr,hm⟩:=hc;have hρ:=f.ρ;obtain⟨fI,fu,Z⟩:=cC (s:={ s with h:=U,pc:=pcF }) hpF h;split at Z
   ·rename_i t3;rw [dR,decide_eq_true_eq,cm] at t3;simp only [V.den] at t3;obtain⟨jG,jy,h3⟩:=cC (s:={ s with h:=U,pc:=fI }) fu Z;split at h3
    ·rename_i t4;rw [dR,decide_eq_true_eq,cm] at t4;split at h3
     ·rename_i e1 hcr;have:=bD h3;simp only [ak] at this;obtain⟨rfl,rfl⟩:=this;obtain⟨hw1,hw2⟩:=aiL f.rel hb;obtain⟨ds,s7,g⟩:=pS (ρ:=E1.ρ) hcr hw1;obtain⟨z,w',E',p1,p2,p3,p4⟩:=B8 (t:=t) (t2:=t2) (ty:=ty) f.rel uX hu jW u9 w5 rz wa M0 (src.Uq (He _ src.U1)) J (VR.keep (f.ew.keeps r) _ _ hx) (ali (own:=own) hb) lr (ai5 g (by rw [hρ]; exact t4)) s7 hw2 (DB (by rw [hρ]; exact t3) J);exact⟨rfl,jy,z,w',E',p1,f.ew.trans p2,p3,p4⟩
     grind [T.leaf]
    grind [T.leaf]
   grind [T.leaf]
  grind [T.leaf]
 grind [T.leaf]
theorem JJ [bH] {s s':St} (r:bO E s.h w) (hp:bV E.ρ s.pc) {t t2 ty e m':Nat} {own:Option Nat} {ie:TI} {news:List W} {x v:W} {d2:TypeDesc} {u u2:Value} {us:Array Value} (uX:mc P e ie) (hu:P.underlying t=some (.slice e)) (jW:P.underlying t2=some d2) (u9: ∀k,d2≠.int k)
 (w5:ie.size≠0) (rz:ie.bytes≠0) (wa:ie.zero.length=ie.size) (M0:ie.bytes<=400) (src:Src P E w ie.size (m'+1) news u2 us) (hx:VR E w.heap x u) (h:(Ba e own x ie m' news s).leaf E.ρ=some (v,s')) :
 s'.bF=s.bF/\bV E.ρ s'.pc/\∃z w' E',(Builtin.append_ #[t,t2] ty #[u,u2]).run P w= .ok z w'/\eU E s.h w E' s'.h w'/\bO E' s'.h w'/\VR E' w'.heap v z:=by
 unfold Ba at h;split at h
 ·rename_i e0 t' h0 hb;split at h
  ·rename_i hc;obtain⟨lr,rfl⟩:=hc;obtain⟨fI,fu,Z⟩:=cC hp h;split at Z
   ·rename_i t3;obtain⟨jG,jy,h3⟩:=cC (s:={ s with pc:=fI }) fu Z;split at h3
    ·rename_i t4;rw [dR,decide_eq_true_eq,cm] at t4;simp only [V.den] at t4;split at h3
     ·rename_i e1 hcr;have:=bD h3;simp only [ak] at this;obtain⟨rfl,rfl⟩:=this;obtain⟨ds,s7,g⟩:=pS (ρ:=E.ρ) hcr (J5 r hb)
      obtain⟨d,rfl⟩ : ∃d,ds= [d]:=by
       cases ds with
       |nil=>simp at s7
       |cons d l=>cases l with
        |nil=>exact⟨d,rfl⟩
        |cons a b=>simp at s7
      have hnl:news.length=(rowOf t').es:=by
       have U:=src.U1.length;have Z:=src.size
       grind
      obtain⟨z,w',E',p1,p2,p3,p4⟩:=B8 (t:=t) (t2:=t2) (ty:=ty) r uX hu jW u9 w5 rz wa M0 src J hx (agA hb) lr (ahC (p:=.dG 0) g (by rw [gG,cm] at t3; simp only [beq_iff_eq] at t3; exact t3.symm)) s7 (fun q hq=>by simp only [List.mem_singleton] at hq; subst hq; exact hnl) (DB t4 J)
      grind
     grind [T.leaf]
    grind [T.leaf]
   ·obtain⟨q1,q2,q3⟩:=BZ (s:={ s with pc:=fI }) r fu (ty:=ty) uX hu jW u9 w5 rz wa M0 src hx Z
    grind
  grind [T.leaf]
 grind [T.leaf]
set_option maxHeartbeats 800000 in
theorem JI [bH] {tt:TT} (cI:eC P tt) {s s':St} (r:bO E s.h w) (hp:bV E.ρ s.pc) {t t2 ty:Nat} {x y v:W} {u u2:Value} (hx:VR E w.heap x u) (hy:VR E w.heap y u2) (hsl:acq y=false->∃a n cap,u= .slice a n cap/\n<=cap) (h:(A9 tt t t2 x y s).leaf E.ρ=some (v,s')) :
 s'.bF=s.bF/\bV E.ρ s'.pc/\∃z w' E',(Builtin.append_ #[t,t2] ty #[u,u2]).run P w= .ok z w'/\eU E s.h w E' s'.h w'/\bO E' s'.h w'/\VR E' w'.heap v z:=by
 unfold A9 at h;split at h
 ·rename_i ti fP;split at h
  ·rename_i e hk;split at h
   ·rename_i ie kO;split at h
    ·simp [T.leaf] at h
    ·rename_i PV Ym;obtain⟨d2,jW,CP⟩:=rS (cI t2 PV Ym);split at h
     ·simp [T.leaf] at h
     ·rename_i k2 fJ
      have u9: ∀k,d2≠.int k:=by intro k hd;subst hd;cases sZ:PV.kind<;>rw [sZ] at CP<;>simp only [H6] at CP;exact fJ _ sZ
      split at h
      ·simp [T.leaf] at h
      ·rename_i jf;simp only [not_or,Classical.not_not] at jf;obtain⟨w5,rz,wa,M0⟩:=jf;have uX:=cI e ie kO;have hu:=fg (cI t ti fP) hk;split at h
       ·
        rename_i e2 ty2;split at h
        ·rename_i e0 t' h0 hb;split at h
         ·rename_i hc;obtain⟨lr,iR⟩:=hc;obtain⟨fI,fu,U⟩:=cC hp h;rw [iq,cm] at U;simp only [VR] at hy;obtain⟨xa,amb,Rz,_⟩:=hy.slice;split at U
          ·rename_i hz;simp only [V.den,beq_iff_eq] at hz;have:=bD U;simp only [ak] at this;obtain⟨rfl,rfl⟩:=this;have I5:(dec (e2.den E.ρ)).l.length=0:=J
           rw [I5] at Rz;subst Rz
           have src:Src P E w ie.size 0 [] (.slice xa 0 amb) #[]:=⟨fun _=>rfl,fun w2 _=>by
            cases xa with
            |none=>simp [Builtin.firstCells]
            |some a=>simp only [Builtin.firstCells,amS]; rfl,by simp [ct],ad,ad⟩
           exact⟨rfl,fu,u,w,E,B9 uX hu jW u9 src (TQ hx hb),eU.refl _ _ _,r,hx⟩
          ·rename_i hz;simp only [V.den,beq_eq_false_iff_ne,ne_eq] at hz;obtain⟨jG,jy,Z⟩:=cC (s:={ s with pc:=fI }) fu U;split at Z
           ·rename_i Kg;obtain⟨U4,I8,h3⟩:=cC (s:={ s with pc:=jG }) jy Z;split at h3
            ·rename_i t3;rw [dR,decide_eq_true_eq,cm] at Kg t3;simp only [V.den] at Kg t3;have ajw:(dec (e2.den E.ρ)).l≠[]:=by intro q; rw [q] at hz; simp at hz
             obtain⟨us,src⟩:=aa6 (P:=P) (w:=w) hy ajw;rw [iR] at src;rw [lr] at src
             have jT:0<(dec (e2.den E.ρ)).l.length:=by
              rcases anD (dec (e2.den E.ρ)).l.length with q|q
              ·omega
              ·exact q
             have afo:dec (e2.den E.ρ)=dL (dec (e2.den E.ρ)).l/\∀d∈(dec (e2.den E.ρ)).l,oH (rowOf ty2) d:=by
              have key: ∀{d:D} {v:Value},Rd E.ro w.heap (.sl ty2) d v->d.l≠[]->d=dL d.l/\∀x∈d.l,oH (rowOf ty2) x:=by
               intro d v hr fJ
               have n!: ∀{c:CK} {d:D} {v:Value},Rd E.ro w.heap c d v->oo c d:=by
                intro c d v hr
                cases hr with
                |int k n=>rfl
                |bool b=>cases b<;>simp [oo]
                |str s=>trivial
                |nil t=>trivial
                |uQ t a cap=>trivial
                |one t c b o cap ds f hr hc hb U Z=>trivial
                |many t cs b o cap rows f hr hc hb Y U Z=>trivial
               generalize hc:CK.sl ty2=c at hr
               cases hr with
               |int k n=>simp at hc
               |bool b=>simp at hc
               |str s=>simp at hc
               |nil t=>exact absurd rfl fJ
               |uQ t a cap=>exact absurd rfl fJ
               |one t c b o cap ds f hr fZ hb U Z=> simp only [CK.sl.injEq] at hc;subst hc;refine⟨by rw [bJ],fun x hx=>?_⟩;rw [bJ] at hx;obtain⟨i,hi⟩:=anS.1 hx;rw [hr];exact n! (Z i x hi)
               |many t cs b o cap rows f hr fZ hb Y U Z=> simp only [CK.sl.injEq] at hc;subst hc;refine⟨by rw [bJ],fun x hx=>?_⟩;rw [bJ,aH] at hx;obtain⟨row,hrm,rfl⟩:=hx;obtain⟨i,hi⟩:=anS.1 hrm;rw [hr];refine⟨by rw [bJ],by rw [bJ]; exact Y row hrm,fun j c y hj hy=>?_⟩;rw [bJ] at hy;exact n! (Z i row j y c hi hy hj)
              exact key hy ajw
             rw [iR] at afo
             have grown: ∀e1:V,(dec (e1.den E.ρ)).l=(dec (e0.den E.ρ)).l++(dec (e2.den E.ρ)).l->dec (e1.den E.ρ)=dL (dec (e1.den E.ρ)).l->Grown E.ρ (rowOf t') e0 e1 (dec (e2.den E.ρ)).l (bE E.ρ (rowOf t') [] (dec (e2.den E.ρ)).l 0):=by
              intro e1 q1 q2;refine⟨q1,q2,afo.2,fun E' h us j hρ hv=>?_⟩
              have:bE E.ρ (rowOf t') [] (dec (e2.den E.ρ)).l j=bE E.ρ (rowOf t') [] (dec (e2.den E.ρ)).l 0:=by
               generalize (dec (e2.den E.ρ)).l=L;clear hv q1 q2
               have gen: ∀(L:List D) (a b:Nat),bE E.ρ (rowOf t') [] L a=bE E.ρ (rowOf t') [] L b:=by
                intro L
                induction L with
                |nil=>intro a b; rfl
                |cons d L ih=>intro a b; simp only [bE,dW]; rw [ih (a+1) (b+1)]
               exact gen L j 0
              rw [this];exact hv
             have hbw:=J5 r hb;split at h3
             ·rename_i nP
              have ajL:(dec (e0.den E.ρ)).l= []:=by
               unfold Og at nP;split at nP
               ·split at nP
                ·simp only [V.den,bB,D.l]
                ·simp at nP
               ·simp at nP
              have:=bD h3;simp only [ak] at this;obtain⟨rfl,rfl⟩:=this;obtain⟨z,w',E',p1,p2,p3,p4⟩:=xZ (t:=t) (t2:=t2) (ty:=ty) r uX hu jW u9 w5 rz wa M0 src jT hx hb lr (grown e2 (by rw [ajL,ay]) afo.1) rfl (by rw [ajL]; refine Xm (bytes:=ie.bytes) ?_; have q:=Kg; unfold Xn at q; rw [nP] at q; exact q);exact⟨rfl,I8,z,w',E',p1,p2,p3,p4⟩
             ·rename_i nP;have:=bD h3;simp only [ak] at this;obtain⟨rfl,rfl⟩:=this;obtain⟨z,w',E',p1,p2,p3,p4⟩:=xZ (t:=t) (t2:=t2) (ty:=ty) r uX hu jW u9 w5 rz wa M0 src jT hx hb lr (grown (.op .cat e0 e2) (by simp only [V.den,e9.den,bB,bJ]) (by simp only [V.den,e9.den,bB,bJ])) rfl (room_le rz M0 (by have q:=Kg; unfold Xn at q; rw [nP] at q; exact q) J);exact⟨rfl,I8,z,w',E',p1,p2,p3,p4⟩
            ·simp [T.leaf] at h3
           ·simp [T.leaf] at Z
         ·simp [T.leaf] at h
        ·simp [T.leaf] at h
       ·
        split at h
        ·rename_i m news On;obtain⟨us,src⟩:=qo (P:=P) r hy On;split at h
         ·have:=bD h;simp only [ak] at this;obtain⟨rfl,rfl⟩:=this
          exact⟨rfl,hp,u,w,E,B9 uX hu jW u9 src (hsl (by
           cases y<;>first |rfl|(rename_i BP _ _ _; exact absurd rfl (BP _ _))|(rename_i BP; exact absurd rfl (BP _ _)))),eU.refl _ _ _,r,hx⟩
         ·rename_i m';split at h
          ·exact JK (own:=ti.own) r hp uX hu jW u9 w5 rz wa M0 src hx h
          ·split at h
           ·exact JJ r hp uX hu jW u9 w5 rz wa M0 src hx h
           ·exact BZ r hp uX hu jW u9 w5 rz wa M0 src hx h
        ·simp [T.leaf] at h
   ·simp [T.leaf] at h
  ·simp [T.leaf] at h
 ·simp [T.leaf] at h
end
section
variable {P:Program} {E:En} {w:World}
theorem PN {h:Array Obj} {id t:Nat} {n:V} {u:Value} (hv:VR E h (.ow id n t) u):VR E h (.sk id (.lit 0) n t) u:=by simp only [VR] at hv ⊢;obtain⟨U,k,a,cap,Z,h3,h4,h5⟩:=hv;exact⟨U,0,k,a,cap,rfl,Z,h3,h4,by rw [amS]; exact h5⟩
theorem OF {tt:TT} (cI:eC P tt) {s s':St} (hp:bV E.ρ s.pc) {ty t id:Nat} {lo n:V} {ix v:W} {u ui:Value} (hx:VR E w.heap (.sk id lo n t) u) (zo:VR E w.heap ix ui) (h:(Jp tt s ty id t lo n ix).leaf E.ρ=some (v,s')) :
 s'.bF=s.bF/\s'.h=s.h/\bV E.ρ s'.pc/\∃r,(Instr.indexAt ty u ui).run P w= .ok r w/\VR E w.heap v r:=by
 unfold Jp at h;split at h
 ·rename_i kd i;split at h
  ·rename_i z hz;split at h
   ·rename_i lr;obtain⟨ec,fB,U,Z,h3⟩:=ny hp h;have:=bD h3;simp only [ak] at this;obtain⟨rfl,rfl⟩:=this;refine⟨rfl,rfl,fB,?_⟩;simp only [VR] at hx zo;subst zo;obtain⟨hid,l,m,a,cap,Y,hn,rfl,fW,hc⟩:=hx;obtain⟨el,ie,hu,kO,rfl⟩:=nr cI hz;obtain⟨k,hk⟩ : ∃k:Nat,i.den E.ρ=(k:Int):=⟨(i.den E.ρ).toNat,J⟩;have ff:k<m:=J
    have ha:a=⟨(E.θ id).1,(E.θ id).2+l*ie.size,none⟩:=by
     simp only [eD] at hc
     grind
    subst ha;refine⟨.pointer (some ⟨(E.θ id).1,(E.θ id).2+l*ie.size+k*ie.size,none⟩),?_,?_⟩
    ·rw [hk];simp [Instr.indexAt,asIntOf,run_underlying hu,eA (cI el ie kO),ff,fb]
    ·simp only [VR];exact⟨hid,l+k,by rw [oZ,Y,hk]; rfl,by rw [bj,am0,amR]⟩
   ·simp [T.leaf] at h
  ·simp [T.leaf] at h
 ·simp [T.leaf] at h
theorem X1 {lo:Option W} {yd:Option Value} {l:V} {n:Nat} (h:loE lo=some l) (mJ:gn E w.heap lo yd) (hn:l.den E.ρ=(n:Int)) :
 ∃U5,gn E w.heap U5 yd/\∀y,n<=y->nG U5 0 y=some n:=by
 unfold loE at h;split at h
 ·simp only [ah] at h;subst h;simp only [V.den] at hn
  grind [nG]
 ·split at h
  ·rename_i v k q;simp only [ah] at h;subst h;obtain⟨y,rfl,hy⟩:=mJ;refine⟨some (.int k (.lit (Int.ofNat n))),⟨y,rfl,?_⟩,fun y hy=>by simp [nG,j9,hy]⟩;simp only [VR,V.den] at hy ⊢
   grind
  grind
theorem CO {k:IntKind} {q:V} {n:Nat} {o:Option Value} (hq:q.den E.ρ=(n:Int)) (ho:gn E w.heap (some (.int k q)) o):gn E w.heap (some (.int k (.lit (Int.ofNat n)))) o:=by
 obtain⟨y,rfl,hy⟩:=ho;refine⟨y,rfl,?_⟩;simp only [VR,V.den] at hy ⊢
 grind
theorem C4 {k:IntKind} {n d y:Nat} (hn:n<=y):nG (some (.int k (.lit (Int.ofNat n)))) d y=some n:=by simp [nG,j9,hn]
theorem EA [bH] {tt:TT} (cI:eC P tt) {s s':St} (r:bO E s.h w) (hp:bV E.ρ s.pc) {ty id t:Nat} {D! n0:V} {lo hi mx:Option W} {yd hi' mx':Option Value} {v:W} {u:Value} (hx:VR E w.heap (.sk id D! n0 t) u)
 (mJ:gn E w.heap lo yd) (yg:gn E w.heap hi hi') (xL:gn E w.heap mx mx') (h:(CX tt s ty id t D! n0 lo hi mx).leaf E.ρ=some (v,s')) :
 s'.bF=s.bF/\s'.h=s.h/\bV E.ρ s'.pc/\∃r,(Instr.sliceAt ty u yd hi' mx').run P w= .ok r w/\VR E w.heap v r:=by
 unfold CX at h;split at h
 ·simp [T.leaf] at h
 ·rename_i z hz;split at h
  ·rename_i jf;obtain⟨lr,hz0⟩:=jf;obtain⟨el,ie,hu,kO,rfl⟩:=nr cI hz;have gT:=eA (cI el ie kO);simp only [VR] at hx;obtain⟨hid,l0,m0,a,cap,g1,g2,rfl,fW,hc⟩:=hx
   have fin: ∀(l k:Nat) (e1 e2:V),(Instr.sliceBounds true m0 cap yd hi' none).run P w= .ok (l,k,cap) w->l<=k->k<=cap->e1.den E.ρ=(l:Int)->e2.den E.ρ=(k:Int)->
    ∃r,(Instr.sliceAt ty (.slice (some a) m0 cap) yd hi' none).run P w= .ok r w/\VR E w.heap (.sk id (sc D! e1) (Dp e2 e1) t) r:=by
    intro l k e1 e2 hb E! hk YH he2;refine⟨.slice (some (if cap=l then a else a.add (l*ie.size))) (k-l) (cap-l),?_,?_⟩
    ·simp [Instr.sliceAt,run_underlying hu,Instr.slice,hb,gT]<;>split<;>rfl
    ·simp only [VR];refine⟨hid,l0+l,k-l,_,_,by rw [oZ,g1,YH]; rfl,by rw [Tj,YH,he2]; omega,rfl,J,?_⟩;rw [am0];have q:=pU (l:=l) (h:=k) (m:=cap) (es:=(rowOf t).es) hc fW E! hk (au _) (.inr (.inr ⟨rfl,rfl,rfl⟩)) (rowOf t).es (fun _=>rfl);rw [lr];exact q
   split at h
   ·simp [T.leaf] at h
   ·rename_i ql hql;obtain⟨fI,fu,U⟩:=cC hp h;split at U
    ·simp [T.leaf] at U
    ·rename_i t1;rw [dR,decide_eq_false_iff_not] at t1;simp only [V.den,anB] at t1;obtain⟨l,Y⟩ : ∃l:Nat,ql.den E.ρ=(l:Int):=⟨(ql.den E.ρ).toNat,J⟩;obtain⟨U5,YA,nk⟩:=X1 hql mJ Y;split at U
     ·
      simp only [gn] at yg;subst yg;split at U
      ·simp [T.leaf] at U
      ·simp only [gn] at xL;subst xL;obtain⟨jG,jy,Z⟩:=cC (s:={ s with pc:=fI }) fu U;split at Z
       ·simp [T.leaf] at Z
       ·rename_i t2;have:=bD Z;simp only [ak] at this;obtain⟨rfl,rfl⟩:=this;rw [dR,decide_eq_false_iff_not] at t2;have hlm:l<=m0:=J
        obtain⟨e1,e2⟩:=fT (P:=P) (w:=w) (isSlice:=true) (len:=m0) (cap:=cap) (m0:=cap) (d:=0) (m:=cap) (h0:=cap) (h:=m0) (l:=l) YA (hi:=none) (hi':=none) (by simp [gn]) (mx:=none) (mx':=none) (by simp [gn]) ad (.inl ⟨rfl,rfl,au _⟩) (by simp [nG,fW]) ⟨fun _=>au _,ad⟩ (nk _ hlm);exact⟨rfl,rfl,jy,fin l m0 _ _ e1 hlm fW Y g2⟩
     ·rename_i hv;split at U
      ·rename_i kh qh;obtain⟨jG,jy,Z⟩:=cC (s:={ s with pc:=fI }) fu U;split at Z
       ·simp [T.leaf] at Z
       ·rename_i t2;rw [dR,decide_eq_false_iff_not] at t2;obtain⟨k,hk⟩ : ∃k:Nat,qh.den E.ρ=(k:Int):=⟨(qh.den E.ρ).toNat,J⟩;have E!:l<=k:=J
        split at Z
        ·rename_i mv;split at Z
         ·rename_i km qm;obtain⟨U4,I8,h3⟩:=cC (s:={ s with pc:=jG }) jy Z;split at h3
          ·simp [T.leaf] at h3
          ·rename_i t3;obtain⟨pc4,hp4,h4⟩:=cC (s:={ s with pc:=U4 }) I8 h3;split at h4
           ·simp [T.leaf] at h4
           ·rename_i t4;have:=bD h4;simp only [ak] at this;obtain⟨rfl,rfl⟩:=this;rw [dR,decide_eq_false_iff_not] at t3 t4;obtain⟨m,hm⟩ : ∃m:Nat,qm.den E.ρ=(m:Int):=⟨(qm.den E.ρ).toNat,J⟩;obtain⟨e1,e2⟩:=fT (P:=P) (w:=w) (isSlice:=true) (len:=m0) (cap:=cap) (m0:=cap) (d:=0) (m:=m) (h0:=m) (h:=k) (l:=l) YA (CO hk yg) (CO hm xL) ad (.inr ⟨_,rfl,C4 J,au _⟩) (C4 J) ⟨ad,fun _=>rfl⟩ (nk _ E!);refine⟨rfl,rfl,hp4,.slice (some (if m=l then a else a.add (l*ie.size))) (k-l) (m-l),?_,by simp only [VR]⟩;simp [Instr.sliceAt,run_underlying hu,Instr.slice,e1,gT]<;>split<;>rfl
         ·simp [T.leaf] at Z
        ·simp only [gn] at xL;subst xL
         have go:k<=cap->∃r,(Instr.sliceAt ty (.slice (some a) m0 cap) yd hi' none).run P w= .ok r w/\VR E w.heap (.sk id (sc D! ql) (Dp qh ql) t) r:=by intro hkc;obtain⟨e1,e2⟩:=fT (P:=P) (w:=w) (isSlice:=true) (len:=m0) (cap:=cap) (m0:=cap) (d:=0) (m:=cap) (h0:=cap) (h:=k) (l:=l) YA (CO hk yg) (mx:=none) (mx':=none) (by simp [gn]) ad (.inl ⟨rfl,rfl,au _⟩) (C4 hkc) ⟨fun _=>au _,ad⟩ (nk _ E!);exact fin l k _ _ e1 E! hkc Y hk
         obtain⟨U4,I8,h3⟩:=cC (s:={ s with pc:=jG }) jy Z;split at h3
         ·rename_i t3;have:=bD h3;simp only [ak] at this;obtain⟨rfl,rfl⟩:=this;rw [dR,decide_eq_false_iff_not] at t3;exact⟨rfl,rfl,I8,go J⟩
         ·split at h3
          ·simp [T.leaf] at h3
          ·rename_i hz1;split at h3
           ·simp [T.leaf] at h3
           ·rename_i e Aq hva;obtain⟨pc4,hp4,h4⟩:=cC (s:={ s with pc:=U4 }) I8 h3;split at h4
            ·simp [T.leaf] at h4
            ·rename_i t4;have:=bD h4;simp only [ak] at this;obtain⟨rfl,rfl⟩:=this;rw [dR,decide_eq_false_iff_not,cm] at t4;refine⟨rfl,rfl,hp4,go ?_⟩;have hlv:=mZ hva;obtain⟨ho,q0⟩:=OR.om.1 (r.live id _ hlv).2.1;have alA:=D5 hz1;subst alA;simp only [V.den] at g1;have hl0:l0=0:=J
             subst hl0;simp only [OR] at q0;obtain⟨arr,lo1,hi1,us,q1,q2,q3,q4,q5,q6,q7⟩:=q0;unfold cK at q4;rw [cD ho.1] at q4;have fJ:0<(dec (e.den E.ρ)).l.length:=am3.2 ho.2.2.2;have jT:0<(rowOf t).es:=J
             simp only [eD] at hc
             have hκ:(dec (e.den E.ρ)).l.length<=cap:=by
              rcases hc with hc|hc
              ·have:(dec (e.den E.ρ)).l.length*(rowOf t).es<=cap*(rowOf t).es:=J
               exact aov this jT
              ·have:=anY fJ jT;omega
             omega
      ·simp [T.leaf] at U
  ·simp [T.leaf] at h
theorem OV [bH] {tt:TT} (cI:eC P tt) {s s':St} (hp:bV E.ρ s.pc) {ty t:Nat} {z:V} {lo hi mx:Option W} {yd hi' mx':Option Value} {v:W} {u:Value} (hx:VR E w.heap (.wL z t) u)
 (mJ:gn E w.heap lo yd) (yg:gn E w.heap hi hi') (xL:gn E w.heap mx mx') (h:(JA tt s ty z t lo hi mx).leaf E.ρ=some (v,s')) :
 s'.bF=s.bF/\s'.h=s.h/\bV E.ρ s'.pc/\∃r,(Instr.sliceAt ty u yd hi' mx').run P w= .ok r w/\VR E w.heap v r:=by
 unfold JA at h;split at h
 ·grind [T.leaf]
 ·simp only [gn] at xL;subst xL;split at h
  ·grind [T.leaf]
  ·rename_i zz hz;obtain⟨el,ie,hu,kO,rfl⟩:=nr cI hz;have gT:=eA (cI el ie kO);split at h
   ·rename_i Ak;split at h
    ·rename_i nk;have:=bD h;simp only [ak] at this;obtain⟨rfl,rfl⟩:=this;have hx0:=hx;simp only [VR] at hx;obtain⟨⟨x,rfl⟩,hr⟩:=hx;obtain⟨e1,e2⟩:=fT (P:=P) (w:=w) (isSlice:=true) (len:=0) (cap:=0) (m0:=0) (d:=0) (m:=0) mJ yg (mx:=none) (mx':=none) (by simp [gn]) ad (.inl ⟨rfl,rfl,au _⟩) Ak ⟨fun _=>au _,ad⟩ nk;refine⟨rfl,rfl,hp,.slice x 0 0,?_,hx0⟩;simp [Instr.sliceAt,run_underlying hu,Instr.slice,e1,gT]
    grind [T.leaf]
   grind [T.leaf]
end
theorem Dw: ∀{B Z!:List W},Z!.length=B.length->dV B 0 Z!=some Z!
 |[],[],_=>rfl
 |[],_::_,h=>by simp at h
 |_::_,[],h=>by simp at h
 |b::B,v::Z!,h=>by simp only [dV];rw [Dw (by simpa using h)]
theorem NH {A B C Z!:List W} (h:Z!.length=B.length):dV (A++(B++C)) A.length Z!=some (A++(Z!++C)):=by
 have:=sF A (nI C (Dw h))
 grind
theorem F8 {α:Type}: ∀{a b:List α},iy a.length (a++b)=some a
 |[],b=>rfl
 |x::a,b=>by simp only [aM,aR,iy,F8]
theorem kx {ρ:Nat->Int} {r:Row}: ∀(L:List D) (a b:Nat),bE ρ r [] L a=bE ρ r [] L b
 |[],_,_=>rfl
 |d::L,a,b=>by simp only [bE,dW]; rw [kx L (a+1) (b+1)]
theorem gO {ρ:Nat->Int} {r:Row}: ∀(A B:List D),bE ρ r [] (A++B) 0=bE ρ r [] A 0++bE ρ r [] B 0
 |[],B=>rfl
 |d::A,B=>by simp only [aR,bE,dW,am8];rw [kx (A++B) 1 0,kx A 1 0,gO A B]
section
variable {P:Program} {E:En} {w:World}
theorem VI [bH] {H:Hp} (r:bO E H w) {id t:Nat} {e0:V} {so:TypeId} (Y:H.get id=some (.vec e0 t so [])) (w5:(rowOf t).es≠0) {k cap:Nat} {a:Addr} (hc:eD E id 0 k a cap (.rest (rowOf t).es)) :
 a=⟨(E.θ id).1,(E.θ id).2,none⟩/\(dec (e0.den E.ρ)).l.length<=cap:=by
 obtain⟨ho,q0⟩:=OR.om.1 (r.live id _ Y).2.1;simp only [OR] at q0;obtain⟨arr,lo1,hi1,us,q1,q2,q3,q4,q5,q6,q7⟩:=q0;unfold cK at q4;rw [cD ho.1] at q4;have fJ:0<(dec (e0.den E.ρ)).l.length:=am3.2 ho.2.2.2;have jT:0<(rowOf t).es:=J
 simp only [eD] at hc;rcases hc with hc|hc
 ·refine⟨by simpa using hc.1,?_⟩;have:(dec (e0.den E.ρ)).l.length*(rowOf t).es<=cap*(rowOf t).es:=J
  exact aov this jT
 ·have:=anY fJ jT;omega
theorem C9 [bH] {H:Hp} (r:bO E H w) {id t:Nat} {e0:V} {so:TypeId} (Y:H.get id=some (.vec e0 t so [])) {n mm:Nat} (hle:n+mm<=(dec (e0.den E.ρ)).l.length) {ds:List D} (s7:ds.length=mm) (ry: ∀d∈ds,oH (rowOf t) d)
 {us:List Value} (hv:ct E w.heap (bE E.ρ (rowOf t) [] ds 0) us) (U: ∀u∈us,u.oneCell'=true) {e1:V} (YH:dec (e1.den E.ρ)=dL ((dec (e0.den E.ρ)).l.take n++ds++(dec (e0.den E.ρ)).l.drop (n+mm))) :
 ∃w',(storeCells ⟨(E.θ id).1,(E.θ id).2+n*(rowOf t).es,none⟩ us).run P w= .ok () w'/\eU E H w E (H.put id (.vec e1 t so [])) w'/\bO E (H.put id (.vec e1 t so [])) w':=by
 obtain⟨rc,ho,hw⟩:=r.om Y;generalize hL:(dec (e0.den E.ρ)).l=L at *
 have hsp:L=L.take n++((L.drop n).take mm++L.drop (n+mm)):=by
  conv=>lhs; rw [<- anb n L]
  congr 1
  conv=>lhs; rw [<- anb mm (L.drop n)]
  simp_all
 have hc:cK E.ρ e0 t []=bE E.ρ (rowOf t) [] (L.take n) 0++(bE E.ρ (rowOf t) [] ((L.drop n).take mm) 0++bE E.ρ (rowOf t) [] (L.drop (n+mm)) 0):=by
  unfold cK;rw [hL]
  conv=>lhs; rw [hsp]
  rw [gO,gO]
 have hlA:(bE E.ρ (rowOf t) [] (L.take n) 0).length=n*(rowOf t).es:=by
  rw [cD (j6 _),a8]
  grind
 have hsl:dV (cK E.ρ e0 t []) (n*(rowOf t).es) (bE E.ρ (rowOf t) [] ds 0)=some (cK E.ρ e1 t []):=by
  have:cK E.ρ e1 t []=bE E.ρ (rowOf t) [] (L.take n) 0++(bE E.ρ (rowOf t) [] ds 0++bE E.ρ (rowOf t) [] (L.drop (n+mm)) 0):=by unfold cK;rw [YH,bJ,gO,gO,am8]
  rw [this,hc,<- hlA];refine NH ?_;rw [cD (j6 _),cD (j6 _),a8,amU,s7]
  grind
 obtain⟨w',g1,g2,g3⟩:=lL (P:=P) rc (by rw [Hp.bQ,ag rfl]) hsl hv U;have al1:F3 (H.put id (.cells (cK E.ρ e0 t []) so)) H:=(F3.put Y).symm
 have al2:F3 ((H.put id (.cells (cK E.ρ e0 t []) so)).put id (.cells (cK E.ρ e1 t []) so)) (H.put id (.vec e1 t so [])):=by
  refine⟨fun j y hj=>?_,fun j y hj=>?_,rfl,rfl⟩
  ·rw [Hp.bQ];split
   ·grind
   ·rename_i fJ;rw [Hp.bQ,af fJ,Hp.bQ,af fJ] at hj
    grind
  ·rw [Hp.bQ] at hj ⊢;split
   ·grind
   ·rename_i fJ;rw [af fJ] at hj;rw [Hp.bQ,af fJ];exact⟨y,hj⟩
 have A0:=(g3.live id _ (by rw [Hp.bQ,ag rfl])).2.1
 have RB:OR E w'.heap id (.vec e1 t so []):=by
  refine OR.om.2 ⟨⟨j6 _,?_⟩,A0⟩;rw [YH];refine⟨by rw [bJ],?_,?_⟩
  ·rw [bJ];intro d hd;rcases amW.1 hd with hd|hd
   ·rcases amW.1 hd with hd|hd
    ·exact hw.2.1 d (by rw [hL]; exact amV hd)
    ·exact ry d hd
   ·exact hw.2.1 d (by rw [hL]; exact bu hd)
  ·rw [bJ];intro q;have:=congrArg List.length q;simp only [aT,a8,amU,bg,s7] at this;have fJ:=am3.2 hw.2.2;rw [hL] at fJ;omega
 refine⟨w',g1,(g2.left al1).right al2,?_⟩;exact g3.swap (id:=id) (by rw [Hp.bQ,ag rfl]) RB (by rw [Hp.bQ,ag rfl]) (fun j hj=>by rw [Hp.bQ,af hj,Hp.bQ,af hj,Hp.bQ,af hj]) rfl rfl
theorem MH [bH] {s s':St} (r:bO E s.h w) (hp:bV E.ρ s.pc) {id t t1 t2 ty e:Nat} {e0 n1 m sd lo:V} {so:TypeId} {ie:TI} {d2:TypeDesc} (uX:mc P e ie) (ht:P.underlying t1=some (.slice e)) (ye:P.underlying t2=some d2) (jW: ∀k,d2≠.int k)
 (lr:(rowOf t).es=ie.size) (w5:ie.size≠0) (Y:s.h.get id=some (.vec e0 t so [])) (mJ:isZ lo=true) {u u2:Value} {us:Array Value} {ds:List D} (hx:VR E w.heap (.sk id lo n1 t) u) {mm:Nat} (hm:m.den E.ρ=(mm:Int))
 (s7:ds.length=mm) (hsd:(dec (sd.den E.ρ)).l=ds) (ry: ∀d∈ds,oH (rowOf t) d) {news:List W} (src:Src P E w ie.size mm news u2 us) (hv:ct E w.heap (bE E.ρ (rowOf t) [] ds 0) us.toList) {v:W} (h:(SI id t so e0 n1 m sd s).leaf E.ρ=some (v,s')) :
 s'.bF=s.bF/\bV E.ρ s'.pc/\∃z w' E',(Builtin.append_ #[t1,t2] ty #[u,u2]).run P w= .ok z w'/\eU E s.h w E' s'.h w'/\bO E' s'.h w'/\VR E' w'.heap v z:=by
 unfold SI at h;obtain⟨ec,fB,g1,g2,g3,g4⟩:=vR hp h;have:=bD g4;simp only [ak] at this;obtain⟨rfl,rfl⟩:=this;have mJ:=D5 mJ;subst mJ;have hx0:=hx;simp only [VR] at hx;obtain⟨hid,l0,k,a,cap,q1,q2,rfl,q4,q5⟩:=hx;simp only [V.den] at q1;have hl0:l0=0:=J
 subst hl0;rw [amS] at q5;obtain⟨rfl,kc⟩:=VI r Y (by rw [lr]; exact w5) q5;have hle:k+mm<=(dec (e0.den E.ρ)).l.length:=J
 obtain⟨inf,d,z,U,Z,h3,h4,h5,h6,h7,h8⟩:=uX.all
 obtain⟨w',f1,f2,f3⟩:=C9 (P:=P) r Y (n:=k) hle s7 ry hv src.rN (e1:=.op .cat (.op .cat (.op .take e0 n1) sd) (.op .drop e0 (sc n1 m))) (by
  have hn:((k:Int)+(mm:Int)).toNat=k+mm:=J
  simp only [V.den,e9.den,bB,bJ,oZ,gw,q2,hm,hn,hsd,bd])
 refine⟨rfl,fB,.slice (some ⟨(E.θ id).1,(E.θ id).2,none⟩) (k+mm) cap,w',E,?_,f2,f3,?_⟩
 ·exact kA (s:=ie.size) ht ye jW U h5 src J (by simp only [fb]; rw [<- lr]; exact f1)
 ·simp only [VR];refine⟨hid,0,k+mm,_,_,rfl,by rw [oZ,q2,hm]; rfl,rfl,J,?_⟩;rw [amS];simp only [eD] at q5 ⊢
  grind
theorem Me [bH] {tt:TT} (cI:eC P tt) {s s':St} (r:bO E s.h w) (hp:bV E.ρ s.pc) {t t2 ty id t':Nat} {lo n1:V} {y v:W} {u u2:Value} (mJ:isZ lo=true) (hx:VR E w.heap (.sk id lo n1 t') u) (hy:VR E w.heap y u2) (h:(EM tt t t2 id n1 t' y s).leaf E.ρ=some (v,s')) :
 s'.bF=s.bF/\bV E.ρ s'.pc/\∃z w' E',(Builtin.append_ #[t,t2] ty #[u,u2]).run P w= .ok z w'/\eU E s.h w E' s'.h w'/\bO E' s'.h w'/\VR E' w'.heap v z:=by
 unfold EM at h;split at h
 ·rename_i ti fP;split at h
  ·rename_i e hk;split at h
   ·rename_i ie kO;split at h
    ·grind [T.leaf]
    ·rename_i PV Ym;obtain⟨d2,jW,CP⟩:=rS (cI t2 PV Ym);split at h
     ·grind [T.leaf]
     ·rename_i k2 fJ
      have u9: ∀k,d2≠.int k:=by
       intro k hd;subst hd;cases sZ:PV.kind<;>rw [sZ] at CP<;>simp only [H6] at CP
       grind
      split at h
      ·grind [T.leaf]
      ·rename_i jf;simp only [not_or,Classical.not_not] at jf;obtain⟨w5,rz,wa,lr⟩:=jf;have uX:=cI e ie kO;have hu:=fg (cI t ti fP) hk;split at h
       ·grind [T.leaf]
       ·rename_i e0 so hva;have Y:=mZ hva;split at h
        ·rename_i id2 U5 n2 Kg;split at h
         ·rename_i Jb;split at h
          ·rename_i ye;have Jb:=aq Jb;have ye:=aq ye;subst Jb ye;obtain⟨fI,fu,g1,g2,g3,g4⟩:=vR hp h;have hy0:=hy;simp only [VR] at hy;obtain⟨hid,l,k,a,cap,q1,q2,rfl,q4,q5⟩:=hy;obtain⟨rc,ho,hw⟩:=r.om Y;generalize hL:(dec (e0.den E.ρ)).l=L at *;have E!:l+k<=L.length:=J
           have hsp:L=L.take l++((L.take (l+k)).drop l++L.drop (l+k)):=by
            conv=>lhs; rw [<- anb (l+k) L]
            grind
           have U8:cK E.ρ e0 Kg []=bE E.ρ (rowOf Kg) [] (L.take l) 0++(bE E.ρ (rowOf Kg) [] ((L.take (l+k)).drop l) 0++bE E.ρ (rowOf Kg) [] (L.drop (l+k)) 0):=by
            unfold cK;rw [hL]
            conv=>lhs; rw [hsp]
            rw [gO,gO]
           have hlA:(bE E.ρ (rowOf Kg) [] (L.take l) 0).length=l*(rowOf Kg).es:=by rw [cD (j6 _),a8];congr 1;omega
           have hlen:((L.take (l+k)).drop l).length=k:=by rw [amU,a8]; omega
           have hlB:(bE E.ρ (rowOf Kg) [] ((L.take (l+k)).drop l) 0).length=k*(rowOf Kg).es:=by rw [cD (j6 _),hlen]
           have hy1:VR E w.heap (.slice id2 (l*(rowOf Kg).es) k (.rest (rowOf Kg).es)) (.slice (some a) k cap):=by simp only [VR];exact⟨hid,a,cap,rfl,q4,q5⟩
           obtain⟨us,src⟩:=qo (P:=P) rc hy1 (s:=ie.size) (m:=k) (news:=bE E.ρ (rowOf Kg) [] ((L.take (l+k)).drop l) 0) (by
            simp only [rE,mD,Hp.bQ,if_true];rw [U8,<- hlA,tq];simp only;rw [<- lr,<- hlB,F8]
            rfl)
           refine MH (s:={ s with pc:=fI }) r fu uX hu jW u9 lr w5 Y mJ hx q2 hlen (by rw [xw q1 q2,gw,hL]) (fun d hd=>hw.2.1 d ?_) src src.U1 g4;rw [hL];exact amV (bu hd)
          grind [T.leaf]
         grind [T.leaf]
        ·split at h
         ·grind [T.leaf]
         ·rename_i m news On;obtain⟨us,src⟩:=qo (P:=P) r hy On;split at h
          ·grind [T.leaf]
          ·rename_i m';split at h
           ·split at h
            ·rename_i sd hcr;obtain⟨ds,c1,c2,c3,c4,c5⟩:=qM (ρ:=E.ρ) _ hcr;simp only [V.den,bB,D.l,ay] at c2;exact MH r hp uX hu jW u9 lr w5 Y mJ hx (mm:=m'+1) (by simp only [V.den]; rfl) c1 c2 c4 src (c5 E w.heap _ 0 rfl src.U1) h
            grind [T.leaf]
           grind [T.leaf]
   grind [T.leaf]
  grind [T.leaf]
 grind [T.leaf]
theorem BY [bH] {tt:TT} (cI:eC P tt) {s s':St} (r:bO E s.h w) (hp:bV E.ρ s.pc) {t ty id t':Nat} {lo n:V} {v:W} {u:Value} (hx:VR E w.heap (.sk id lo n t') u) (h:(zP tt t id lo n t' s).leaf E.ρ=some (v,s')) :
 s'.bF=s.bF/\bV E.ρ s'.pc/\v=W.undef/\∃w' E',(Builtin.clear_ #[t] ty #[u]).run P w= .ok (.tuple #[]) w'/\eU E s.h w E' s'.h w'/\bO E' s'.h w':=by
 unfold zP at h;split at h
 ·rename_i ti fP;split at h
  ·rename_i e hk;have hu:=fg (cI t ti fP) hk;split at h
   ·rename_i ie kO;obtain⟨inf,d,z,U,Z,h3,h4,h5,h6,h7,h8⟩:=(cI e ie kO).all;have hz:=eX (E:=E) (h:=w.heap) h4;split at h
    ·rename_i jf;obtain⟨lr,w5⟩:=jf;split at h
     ·grind [T.leaf]
     ·rename_i e0 Aq hva;have Y:=mZ hva;split at h
      ·grind [T.leaf]
      ·rename_i zz hzz;obtain⟨fI,fu,g1⟩:=cC hp h;split at g1
       ·grind [T.leaf]
       ·rename_i t1;obtain⟨jG,jy,g2⟩:=cC (s:={ s with pc:=fI }) fu g1;split at g2
        ·grind [T.leaf]
        ·rename_i t2;obtain⟨U4,I8,g3⟩:=cC (s:={ s with pc:=jG }) jy g2;split at g3
         ·grind [T.leaf]
         ·rename_i t3;have:=bD g3;simp only [ak] at this;obtain⟨rfl,rfl⟩:=this;rw [dR,decide_eq_false_iff_not] at t1 t2;rw [gG,beq_iff_eq,oZ,cm] at t3;simp only [VR] at hx;obtain⟨hid,l,k,a,cap,q1,q2,rfl,q4,q5⟩:=hx;have E!:l+k=(dec (e0.den E.ρ)).l.length:=J
          have hn0:(dec (e0.den E.ρ)).l.length-l=k:=J
          have hwz:=tC (ρ:=E.ρ) hzz;have hrz:uh E.ro w.heap (rowOf t') (dec (zz.den E.ρ)) z.cells.toList:=tD hz.1 hzz
          have amC:ct E w.heap (gz (rowOf t') (.ei (dec (zz.den E.ρ)))) z.cells.toList:=by
           rw [fA];simp only [V.den,bB]
           grind
          have afr: ∀m:Nat,bE E.ρ (rowOf t') [] (List.replicate m (dec (zz.den E.ρ))) 0=dQ (gz (rowOf t') (.ei (dec (zz.den E.ρ)))) m:=by
           intro m
           induction m with
           |zero=>rfl
           |succ m ih=>
            simp only [aoz,bE,dW,dQ]
            grind [kx]
          have hv:ct E w.heap (bE E.ρ (rowOf t') [] (List.replicate k (dec (zz.den E.ρ))) 0) (dQ z.cells.toList k):=by
           grind [lV]
          obtain⟨w',f1,f2,f3⟩:=C9 (P:=P) r Y (n:=l) (mm:=k) J (ani) (fun d hd=>by rw [aoR hd]; exact hwz) hv (fun u hu=>hz.2 u (lU hu)) (e1:=.op .fill e0 (eE (ng lo) zz)) (by
           simp only [eE,V.den,e9.den,bB,lz,D.n,q1,bd,hn0,E!]
           rw [List.drop_length,anc])
          refine⟨rfl,I8,rfl,w',E,?_,f2,f3⟩;rcases anD k with YC|YC
          ·subst YC;simp only [dQ] at f1
           have:w'=w:=by
            simp [storeCells] at f1
            grind
           subst this;simp [Builtin.clear_,run_underlying hu]
          ·have ha:a=⟨(E.θ id).1,(E.θ id).2+l*(rowOf t').es,none⟩:=by
            simp only [eD] at q5
            grind
           have afn:z.cells.toList≠[]:=by
            intro hx;have:=uh.length hrz
            grind
           have hzc:(Builtin.zeroCells z.cells k).toList=dQ z.cells.toList k:=uw z.cells afn k;subst ha;obtain⟨j,rfl⟩ : ∃j,k=j+1:=⟨k-1,J⟩;simp [Builtin.clear_,run_underlying hu,zeroValue,typeInfo,U,h3,hzc,f1]
    grind [T.leaf]
   grind [T.leaf]
  grind [T.leaf]
 grind [T.leaf]
end
theorem l8 (l:List Nat):(lg l).l.length=l.length:=by simp [lg]
theorem UI {a b:List Nat} (h:lg a=lg b):a=b:=by
 have:=Fc h
 induction a generalizing b with
 |nil=>cases b with
  |nil=>rfl
  |cons y b=>simp at this
 |cons x a ih=>cases b with
  |nil=>simp at this
  |cons y b=> simp only [aw,List.cons.injEq,D.i.injEq,Int.ofNat_eq_natCast,an7] at this;rw [this.1,ih (b:=b) (by unfold lg; exact congrArg dL (by simpa using this.2)) (by simpa using this.2)]
theorem Fb: ∀(x y:List Nat),Mr (x.map fun b=>D.i (Int.ofNat b)) (y.map fun b=>D.i (Int.ofNat b))=bytesLess x y
 |[],[]=>rfl
 |[],_::_=>rfl
 |_::_,[]=>rfl
 |a::x,b::y=>by
  simp only [aw,Mr,bytesLess,D.n,Fb x y];have i1:(Int.ofNat a<Int.ofNat b)=(a<b):=propext aoe;have i2:(Int.ofNat b<Int.ofNat a)=(b<a):=propext aoe;simp only [i1,i2];rcases aoA a b with h|h|h
  ·simp_all
  ·simp_all
  ·have Z:a.blt b=false:=by rw [anM]; simp [Nat.blt]; omega
   have h3:a.beq b=false:=by rw [anM]; simp; omega
   grind
section
variable {P:Program} {E:En} {w:World}
theorem VR.aak {h:Array Obj} {e:V} {v:Value} (hv:VR E h (.jC e) v): ∃l:List Nat,v= .string (dc l)/\(∀b∈l,b<256)/\dec (e.den E.ρ)=lg l:=by
 simp only [VR] at hv;obtain⟨s,rfl,hs⟩:=hv.string;refine⟨bytesOf s,by rw [kH],xX s,?_⟩
 grind [zV,xX,kH,tz,dc]
theorem VR.XG {h:Array Obj} {e:V} {l:List Nat} (Y: ∀b∈l,b<256) (he:dec (e.den E.ρ)=lg l):VR E h (.jC e) (.string (dc l)):=by
 simp only [VR];rw [he,zV _ Y];have:=Rd.str (ro:=E.ro) (h:=h) (dc l)
 grind [tz,dc]
theorem Dr {h:Array Obj} {x:W} {u:Value} {e:V} (hx:VR E h x u) (hs:tJ x=some e): ∃l:List Nat,u= .string (dc l)/\(∀b∈l,b<256)/\dec (e.den E.ρ)=lg l:=by
 unfold tJ at hs;split at hs
 ·simp only [ah] at hs;subst hs;simp only [VR] at hx;exact⟨_,hx.1,hx.2,by simp only [V.den,bB]⟩
 ·simp only [ah] at hs;subst hs;exact hx.aak
 grind
theorem OI {tt:TT} (cI:eC P tt) {s s':St} (hp:bV E.ρ s.pc) {ty:Nat} {e:V} {ix v:W} {u ui:Value} (hx:VR E w.heap (.jC e) u) (zo:VR E w.heap ix ui) (h:(Js tt s ty e ix).leaf E.ρ=some (v,s')) :
 s'.bF=s.bF/\s'.h=s.h/\bV E.ρ s'.pc/\∃r,(Instr.index ty u ui).run P w= .ok r w/\VR E w.heap v r:=by
 unfold Js at h;split at h
 ·rename_i kd i;split at h
  ·rename_i ti fP;split at h
   ·rename_i hk;obtain⟨ec,fB,U,Z,h3⟩:=ny hp h;have:=bD h3;simp only [ak] at this;obtain⟨rfl,rfl⟩:=this;refine⟨rfl,rfl,fB,?_⟩;obtain⟨l,rfl,hb,hd⟩:=hx.aak;simp only [VR] at zo;subst zo;rw [cm,hd,l8] at Z;obtain⟨k,CP⟩ : ∃k:Nat,i.den E.ρ=(k:Int):=⟨(i.den E.ρ).toNat,J⟩;have ff:k<l.length:=J
    have hg:(dc l)[k]?=some (UInt8.ofNat l[k]):=by rw [Dt,aO ff]; rfl
    have alV:=hb l[k] (az ff);rw [CP];refine⟨_,by simp [Instr.index,asIntOf,run_underlying (fK (cI ty ti fP) hk),hg]; rfl,?_⟩
    have Uj:(dec (e.den E.ρ)).l[k]?=some (.i (Int.ofNat l[k])):=by rw [hd];simp only [lg,bJ,bp,aO ff,br]
    simp only [VR,AA,Bi E.ρ e i CP Uj,D.n]
    grind
   grind [T.leaf]
  grind [T.leaf]
 grind [T.leaf]
theorem OH {tt:TT} (cI:eC P tt) {s s':St} (hp:bV E.ρ s.pc) {ty:Nat} {e:V} {lo hi mx:Option W} {yd hi' mx':Option Value} {v:W} {u:Value} (hx:VR E w.heap (.jC e) u)
 (mJ:gn E w.heap lo yd) (yg:gn E w.heap hi hi') (xL:gn E w.heap mx mx') (h:(Jr tt s ty e lo hi mx).leaf E.ρ=some (v,s')) :
 s'.bF=s.bF/\s'.h=s.h/\bV E.ρ s'.pc/\∃r,(Instr.sliceAt ty u yd hi' mx').run P w= .ok r w/\VR E w.heap v r:=by
 unfold Jr at h;split at h
 ·grind [T.leaf]
 ·simp only [gn] at xL;subst xL;split at h
  ·grind [T.leaf]
  ·rename_i ti fP;split at h
   ·rename_i hk;have hu:=fK (cI ty ti fP) hk;split at h
    ·grind [T.leaf]
    ·rename_i ql hql;split at h
     ·grind [T.leaf]
     ·rename_i qh hqh;obtain⟨fI,fu,U⟩:=cC hp h;split at U
      ·grind [T.leaf]
      ·rename_i t1;obtain⟨jG,jy,Z⟩:=cC (s:={ s with pc:=fI }) fu U;split at Z
       ·grind [T.leaf]
       ·rename_i t2;obtain⟨U4,I8,h3⟩:=cC (s:={ s with pc:=jG }) jy Z;split at h3
        ·grind [T.leaf]
        ·rename_i t3;have:=bD h3;simp only [ak] at this;obtain⟨rfl,rfl⟩:=this;refine⟨rfl,rfl,I8,?_⟩;obtain⟨l,rfl,hb,hd⟩:=hx.aak;rw [dR,decide_eq_false_iff_not] at t1 t2 t3;rw [cm,hd,l8] at t3;simp only [V.den,anB] at t1;obtain⟨a,ha⟩ : ∃a:Nat,ql.den E.ρ=(a:Int):=⟨(ql.den E.ρ).toNat,J⟩;obtain⟨b,MZ⟩ : ∃b:Nat,qh.den E.ρ=(b:Int):=⟨(qh.den E.ρ).toNat,J⟩;have hle:b<=l.length:=J
         have M1:a<=b:=J
         obtain⟨U5,YA,nk⟩:=X1 hql mJ ha
         have afz: ∃Jb,gn E w.heap Jb hi'/\nG Jb l.length l.length=some b:=by
          unfold hiE at hqh;split at hqh
          ·simp only [ah] at hqh;subst hqh;rw [cm,hd,l8] at MZ;have:b=l.length:=J
           grind [nG]
          ·split at hqh
           ·simp only [ah] at hqh;subst hqh;exact⟨_,CO MZ yg,C4 hle⟩
           grind
         obtain⟨Jb,afz,Ak⟩:=afz;obtain⟨e1,e2⟩:=fT (P:=P) (w:=w) (isSlice:=false) (len:=l.length) (cap:=l.length) (m0:=l.length) (d:=0) YA afz (mx:=none) (mx':=none) rfl ad (.inl ⟨rfl,rfl,au _⟩) Ak ⟨fun _=>au _,ad⟩ (nk b M1);refine⟨.string ((dc l).extract a b),?_,?_⟩
         ·rw [<- kG] at e1;simp [Instr.sliceAt,run_underlying hu,Instr.slice,e1]
         ·rw [sC];refine VR.XG (fun c hc=>hb c (amV (bu hc))) ?_;simp only [eE,V.den,e9.den,bB,lz,D.hd,D.l,aF,aK,aC,D.n,ha,MZ,bd,hd];simp only [lg,bJ,aor,aos]
   grind [T.leaf]
theorem Ir {x y:W} {a b:V} (h:Cy x y=some (a,b)):tJ x=some a/\tJ y=some b:=by
 grind [Cy]
theorem Gh (ρ:Nat->Int) {a b:V} {x y:List Nat} (ha:dec (a.den ρ)=lg x) (hb:dec (b.den ρ)=lg y):(Gi a b).den ρ=bytesLess x y:=by
 simp only [Gi,SB.den,V.den,e9.den,ha,hb,lg,bJ]
 grind [Fb]
theorem z7: ∀(x y:List Nat),(bytesLess x y||gC x y)=!(bytesLess y x)
 |[],[]=>rfl
 |[],_::_=>rfl
 |_::_,[]=>rfl
 |a::x,b::y=>by
  have ih:=z7 x y;simp only [bytesLess,gC];rcases aoA a b with h|h|h
  ·have U:a.blt b=true:=by simp [Nat.blt]; omega
   have Z:b.blt a=false:=by rw [anM]; simp [Nat.blt]; omega
   have h3:b.beq a=false:=by rw [anM]; simp; omega
   grind
  ·simp_all
  ·have U:b.blt a=true:=by simp [Nat.blt]; omega
   have Z:a.blt b=false:=by rw [anM]; simp [Nat.blt]; omega
   have h3:a.beq b=false:=by rw [anM]; simp; omega
   grind
theorem Uw {s s':St} (hp:bV E.ρ s.pc) {t:Nat} {op:BinOp} {x y v:W} {a b:V} {u u':Value} (hx:VR E w.heap x u) (hy:VR E w.heap y u') (hs:Cy x y=some (a,b)) (h:(OJ op a b s).leaf E.ρ=some (v,s')) :
 s'.bF=s.bF/\s'.h=s.h/\bV E.ρ s'.pc/\(∃r,(binOp op t u u').run P w= .ok r w/\VR E w.heap v r)/\(∀cs ds,¬(u= .agg cs/\u'= .agg ds))/\¬(u= .nilIface/\u'= .nilIface):=by
 obtain⟨hsx,hsy⟩:=Ir hs;obtain⟨l,rfl,nk,hdl⟩:=Dr hx hsx;obtain⟨m,rfl,Ei,qA⟩:=Dr hy hsy
 have heq:((qp (my a) (my b)).den E.ρ)=gC l m:=by
  grind [iq,lM,ku,UI,hU]
 have fJ:(∀cs ds,¬(Value.string (dc l)= .agg cs/\Value.string (dc m)= .agg ds))/\¬(Value.string (dc l)= .nilIface/\Value.string (dc m)= .nilIface):=⟨ad,ad⟩
 have fin: ∀(c:W) (o:BinOp),KG o l m=some c->(∀q,VR E w.heap c q->VR E w.heap v q)->(∀q,(Op.stringOp o (dc l) (dc m)).run P w= .ok q w->(binOp o t (.string (dc l)) (.string (dc m))).run P w= .ok q w)->
  ∃r,(binOp o t (.string (dc l)) (.string (dc m))).run P w= .ok r w/\VR E w.heap v r:=by
  intro c o ho hc hq;obtain⟨r,U,Z⟩:=KF (P:=P) (E:=E) (w:=w) nk Ei ho;exact⟨r,hq _ U,hc r Z⟩
 unfold OJ at h;split at h
 ·obtain⟨fI,fu,U⟩:=cC hp h;split at U
  ·grind [T.leaf]
  ·rename_i t1;obtain⟨jG,jy,Z⟩:=cC (s:={ s with pc:=fI }) fu U;split at Z
   ·grind [T.leaf]
   ·rename_i t2;have:=bD Z;simp only [ak] at this;obtain⟨rfl,rfl⟩:=this;rw [dR,decide_eq_true_eq,cm,hdl,l8] at t1;rw [dR,decide_eq_true_eq,cm,qA,l8] at t2;simp only [V.den] at t1 t2;refine⟨rfl,rfl,jy,⟨.string (dc (l++m)),?_,?_⟩,fJ⟩
    ·have hm:IntKind.i64.max=9223372036854775807:=ae
     have:(Op.stringOp .add (dc l) (dc m)).run P w= .ok (.string (dc l++dc m)) w:=by simp only [Op.stringOp,kG,hm];rw [af J];rfl
     have e:dc l++dc m=dc (l++m):=by apply ByteArray.ext;simp [dc]
     rw [e] at this;simpa [binOp] using this
    ·refine VR.XG (fun c hc=>?_) ?_
     ·grind
     ·simp only [V.den,e9.den,bB,hdl,qA];simp only [lg,bJ,ane]
 all_goals first
  |(simp [T.leaf] at h; done)
  |(have:=bD h
    simp only [ak] at this;obtain⟨rfl,rfl⟩:=this;refine⟨rfl,rfl,hp,?_,fJ⟩;refine fin _ _ rfl (fun q hq=>?_) (fun q hq=>by simpa [binOp] using hq);simp only [VR,SB.den,nh] at hq ⊢
    first
     |(rw [heq]; exact hq)
     |(rw [Gh E.ρ hdl qA]; exact hq)
     |(rw [Gh E.ρ qA hdl]; rw [z7] at hq; simpa using hq))
theorem O1 [bH] {tt:TT} (cI:eC P tt) {s s':St} (r:bO E s.h w) (hp:bV E.ρ s.pc) {sT dT:Nat} {e:V} {v:W} {u:Value} (hx:VR E w.heap (.jC e) u) (h:(CZ tt sT dT e s).leaf E.ρ=some (v,s')) :
 s'.bF=s.bF/\bV E.ρ s'.pc/\∃y w' E',(convert sT dT u).run P w= .ok y w'/\eU E s.h w E' s'.h w'/\bO E' s'.h w'/\VR E' w'.heap v y:=by
 unfold CZ at h;split at h
 ·grind [T.leaf]
 ·rename_i j hj;split at h
  ·rename_i hjk;split at h
   ·grind [T.leaf]
   ·rename_i i hi;split at h
    ·rename_i el hik;split at h
     ·rename_i ie kO;split at h
      ·rename_i k amL;split at h
       ·obtain⟨l,rfl,hb,hd⟩:=hx.aak
        have MY:oW tt sT dT (.str l) s.h=some (.slice s.h.fresh 0 l.length (.rest 1),s.h.new (.cells (l.map fun c=> .int .u8 (.lit (Int.ofNat c))) el)):=by
         grind [oW]
        obtain⟨y,w',E',g1,g2,g3,g4⟩:=zO (P:=P) cI r (x:=.str l) (u:=.string (dc l)) (by simp only [VR]; exact⟨trivial,hb⟩) MY;obtain⟨fI,fu,U⟩:=cC hp h;rw [iq,cm,hd,l8] at U;split at U
        ·rename_i hz;have:=bD U;simp only [ak] at this;obtain⟨rfl,rfl⟩:=this;simp only [V.den,beq_iff_eq] at hz
         grind
        ·rename_i hz;have:=bD U;simp only [ak] at this;obtain⟨rfl,rfl⟩:=this;simp only [V.den,beq_eq_false_iff_ne,ne_eq] at hz;have uu:dec (e.den E'.ρ)=lg l:=by rw [g2.ρ]; exact hd
         have U8:cK E'.ρ e 14 []=l.map fun c=>W.int .u8 (.lit (Int.ofNat c)):=by
          unfold cK;rw [uu];simp only [lg,bJ]
          have: ∀(l:List Nat) (i:Nat),bE E'.ρ (rowOf 14) [] (l.map fun b=>D.i (Int.ofNat b)) i=l.map fun c=>W.int .u8 (.lit (Int.ofNat c)):=by
           intro l
           induction l with
           |nil=>intro i; rfl
           |cons a l ih=> intro i;simp only [aw,bE,dW,ih];rfl
          grind
         have r2:=CL (e1:=e) (t:=14) g3 (by
          rw [uu];refine⟨by simp only [lg,bJ],fun x hx=>?_,fun q=>?_⟩
          ·simp only [lg,bJ,aH] at hx;obtain⟨b,_,rfl⟩:=hx;rfl
          ·have:=congrArg List.length q;rw [l8] at this
           exact hz (by simp at this; simp [this])) (by rw [U8]) (fun us hu=>by rw [U8]; exact hu)
         refine⟨rfl,fu,y,w',E',g1,g2.right (vS rfl rfl fun _=>rfl),r2,?_⟩;simp only [VR] at g4 ⊢;obtain⟨q1,a,cap,q2,q3,q4⟩:=g4;exact⟨q1,l.length,a,cap,by rw [cm,uu,l8],q2,q3,q4⟩
       grind [T.leaf]
      grind [T.leaf]
     grind [T.leaf]
    grind [T.leaf]
  grind [T.leaf]
end
section
variable {P:Program} {E:En} {w:World}
def I1 (c:CK):Prop:=(∃k,c= .int k)\/c= .str
theorem bytes_beq (p q:ByteArray):(p == q)=decide (p=q):=by
 rw [am6,decide_eq_true_eq];have e:(p == q)=(p.data == q.data):=rfl;rw [e,beq_iff_eq];constructor
 ·intro h; cases p; cases q; simp only at h; rw [h]
 grind
theorem yZ {ro:Nat->Prop} {h:Array Obj} {c:CK} (hc:I1 c) {dt:TypeDesc} (hd:Cu dt (Lp c)) {d d':D} {u u':Value} (r:Rd ro h c d u) (r':Rd ro h c d' u') :
 Instr.sameNow dt u u'=some (decide (d=d'))/\(d=d'->∀n,Instr.sameBits (n+1) u' u=true):=by
 rcases hc with ⟨k,rfl⟩|rfl
 ·simp only [Lp] at hd;obtain⟨k',rfl⟩:=hd
  cases r with
  |int _ n=>
   cases r' with
   |int _ m=>
    refine⟨?_,fun hh n=>?_⟩
    ·simp only [Instr.sameNow,D.i.injEq]
     grind
    ·simp only [D.i.injEq] at hh;subst hh;simp [Instr.sameBits]
 ·simp only [Lp] at hd;simp only [Cu] at hd;subst hd;obtain⟨a,rfl,rfl⟩:=r.string;obtain⟨b,rfl,rfl⟩:=r'.string;refine⟨?_,fun hh n=>?_⟩
  ·simp only [Instr.sameNow,bytes_beq];congr 1
   grind [E9]
  ·have:=E9 hh;subst this;simp [Instr.sameBits,bytes_beq]
def Ke (P:Program):List CK->Nat->List Field->Prop
 |[],_,fs=>fs= []
 |c::cs,j,fs=> ∃f r k i,fs=f::r/\f.offset=j/\f.name≠ "_"/\c= .int k/\mc P f.type i/\i.kind= .int k/\Ke P cs (j+1) r
def abj (P:Program) (kt:Nat) (r:Row):Prop:=match r with
 | .one c=>I1 c/\∃dt,P.underlying kt=some dt/\Cu dt (Lp c)
 | .many cs=>cs≠[]/\P.underlying kt=some (.struct (P.fieldsOf kt))/\P.stoodInHeld kt=false/\Ke P cs 0 (P.fieldsOf kt).toList
theorem HZ.length {ro:Nat->Prop} {h:Array Obj} {d:D}: ∀{cs:List CK} {j:Nat} {us:List Value},HZ ro h cs j d us->us.length=cs.length
 |[],_,us,hh=>by simp only [HZ] at hh; rw [hh]; rfl
 |c::cs,j,us,hh=>by obtain⟨u,vs,rfl,_,h3⟩:=hh;rw [aM,aM,HZ.length h3]
theorem Rf {ro:Nat->Prop} {h:Array Obj} {d d':D} (n:Nat): ∀{cs:List CK} {j:Nat} {fs:List Field} {us vs pre pre':List Value},Ke P cs j fs->HZ ro h cs j d us->HZ ro h cs j d' vs->pre.length=j->pre'.length=j->
 (Op.eqFields (n+1) (pre++us).toArray (pre'++vs).toArray fs).run P w= .ok (decide (∀i,i<cs.length->d.hd (j+i)=d'.hd (j+i))) w
 |[],j,fs,us,vs,pre,pre',hf,_,_,_,_=>by simp only [Ke] at hf;subst hf;simp [Op.eqFields]
 |c::cs,j,fs,us,vs,pre,pre',hf,hu,hv,hp,fB=>by
  obtain⟨f,r,k,i,rfl,ho,hn,rfl,fP,hk,hr⟩:=hf;obtain⟨u,us,rfl,Ol,Rz⟩:=hu;obtain⟨v,vs,rfl,Rx,hv2⟩:=hv;have e4:i.agg=false:=by simp [TI.agg,TK.agg,hk]
  have p1:(part f.type (pre++u::us).toArray f.offset).run P w= .ok u w:=by simp [part,kN fP,e4,ho,<- hp]
  have p2:(part f.type (pre'++v::vs).toArray f.offset).run P w= .ok v w:=by simp [part,kN fP,e4,ho,<- fB]
  have ih:=Rf (d:=d) (d':=d') (us:=us) (vs:=vs) (pre:=pre++ [u]) (pre':=pre'++ [v]) n hr Rz hv2 (by simp [hp]) (by simp [fB]);rw [am8,am8] at ih;simp only [anu] at ih;simp only [Op.eqFields];rw [ag hn];generalize hx:d.hd j=x at Ol;generalize hy:d'.hd j=y at Rx
  cases Ol with
  |int _ a=>
   cases Rx with
   |int _ b=>
    simp only [Sem.run_bind,p1,p2,Result.andThen_ok,run_equalIn_int w n f.type _ _ _ _ (oI fP hk)];by_cases M1:a=b
    ·subst M1;simp only [beq_self_eq_true,anZ,aP,if_false,ih];congr 1;rw [decide_eq_decide];constructor
     ·intro q m hm
      cases m with
      |zero=>rw [bj,hx,hy]
      |succ m=>have:=q m (by simp at hm; omega); rw [show j+(m+1)=j+1+m by omega]; exact this
     ·intro q m hm;have:=q (m+1) (by simp; omega);rw [show j+(m+1)=j+1+m by omega] at this;exact this
    ·have hb:(a == b)=false:=by simpa using M1
     rw [hb];simp only [Bool.not_false,if_true,Sem.run_pure];congr 1;symm;rw [decide_eq_false_iff_not];intro q;have:=q 0 ad;rw [bj,hx,hy] at this;simp only [D.i.injEq] at this;exact M1 this
theorem G6 {ro:Nat->Prop} {h:Array Obj} {d:D}: ∀{cs:List CK} {j:Nat} {fs:List Field} {us vs:List Value},Ke P cs j fs->HZ ro h cs j d us->HZ ro h cs j d vs->us=vs
 |[],j,fs,us,vs,_,hu,hv=>by simp only [HZ] at hu hv;rw [hu,hv]
 |c::cs,j,fs,us,vs,hf,hu,hv=>by
  obtain⟨f,r,k,i,rfl,ho,hn,rfl,fP,hk,hr⟩:=hf;obtain⟨u,us,rfl,Ol,Rz⟩:=hu;obtain⟨v,vs,rfl,Rx,hv2⟩:=hv;rw [G6 hr Rz hv2];generalize hx:d.hd j=x at Ol Rx
  cases Ol with
  |int _ a=>
   cases Rx with
   |int _ b=>rfl
theorem G5 {ro:Nat->Prop} {h:Array Obj} {d:D}: ∀{cs:List CK} {j:Nat} {fs:List Field} {us:List Value} (n:Nat),Ke P cs j fs->HZ ro h cs j d us->((us.zip us).all fun (x,y)=>Instr.sameBits n x y)=true
 |[],j,fs,us,n,_,hu=>by simp only [HZ] at hu;rw [hu];rfl
 |c::cs,j,fs,us,n,hf,hu=>by
  obtain⟨f,r,k,i,rfl,ho,hn,rfl,fP,hk,hr⟩:=hf;obtain⟨u,us,rfl,Ol,Rz⟩:=hu;rw [List.zip_cons_cons,aoB,G5 n hr Rz,Bool.and_true];generalize hx:d.hd j=x at Ol
  cases Ol with
  |int _ a=>simp [Instr.sameBits]
theorem K! {cs:List CK} {d d':D} (h:wF cs d) (h':wF cs d'):(∀i,i<cs.length->d.hd (0+i)=d'.hd (0+i))↔d=d':=by
 constructor
 ·intro q;rw [h.1,h'.1];congr 1;refine List.ext_getElem (by rw [h.2.1,h'.2.1]) fun i U Z=>?_;have:=q i (by rw [<- h.2.1]; exact U);rw [aA] at this;unfold D.hd at this;rw [aO U,aO Z] at this;simpa using this
 ·rintro rfl i _;rfl
theorem AS {ro:Nat->Prop} {h:Array Obj} {kt:Nat} {cs:List CK} (hT:abj P kt (.many cs)) {d d':D} {u u':Value} (r:F0 ro h (.many cs) d u) (r':F0 ro h (.many cs) d' u') :
 (Op.equal kt u u').run P w= .ok (decide (d=d')) w/\(d=d'->∀n,Instr.sameBits (n+1) u' u=true):=by
 obtain⟨_,t1,t2,t3⟩:=hT;obtain⟨w1,us,rfl,U⟩:=r;obtain⟨w2,vs,rfl,Z⟩:=r';refine⟨?_,fun hh n=>?_⟩
 ·have h10:(Op.maxDepth:Nat)=9998+1+1:=rfl;unfold Op.equal;rw [h10,run_equalIn_struct w (9998+1) kt _ _ t1 t2];have:=Rf (w:=w) (d:=d) (d':=d') (pre:=[]) (pre':=[]) 9998 t3 U Z rfl rfl;simp only [ay] at this;rw [this];congr 1;rw [decide_eq_decide];exact K! w1 w2
 ·subst hh;have e:=G6 t3 U Z;subst e;simp only [Instr.sameBits,beq_self_eq_true,Bool.true_and];exact G5 n t3 U
def akJ (ro:Nat->Prop) (h:Array Obj) (t:Nat) (ds:List D) (kd:D) (bK:List MapEntry) (u:Value) (ask:Option (Nat×Value)->Prop):Prop:=
 (gf ds kd=none/\ask none/\(∀v,j8 ds kd v=ds++ [.p kd v])/\FP ds kd=ds)\/
 (∃j x e,gf ds kd=some x/\bK[j]?=some e/\F0 ro h (mapOf t).2 x e.val/\ask (some (j,e.val))/\(∀n,Instr.sameBits (n+1) e.key u=true)/\(∀v,j8 ds kd v=ds.set j (.p kd v))/\FP ds kd=ds.eraseIdx j)
theorem A5 {ro:Nat->Prop} {h:Array Obj} {t:Nat} {kd:D} {u:Value} {ask:List MapEntry->Nat->Option (Nat×Value)->Prop} (a0: ∀i,ask [] i none) (aY: ∀e r i,(∃d',F0 ro h (mapOf t).1 d' e.key/\d'=kd)->ask (e::r) i (some (i,e.val))) (aN: ∀e r i res,(∃d',F0 ro h (mapOf t).1 d' e.key/\d'≠kd)->ask r (i+1) res->ask (e::r) i res)
 (aB: ∀u',F0 ro h (mapOf t).1 kd u'->∀n,Instr.sameBits (n+1) u' u=true): ∀{ds:List D} {bK:List MapEntry} {i:Nat},jV ro h t ds bK->akJ ro h t ds kd bK u (fun q=>ask bK i (q.map fun p=>(i+p.1,p.2)))
 |[],bK,i,he=>by simp only [jV] at he;subst he;exact .inl ⟨rfl,a0 i,fun _=>rfl,rfl⟩
 |d::ds,bK,i,he=>by
  obtain⟨e,r,rfl,U,Z,h3,h4⟩:=he;by_cases zn:jk d=kd
  ·refine .inr ⟨0,FY d,e,by simp only [gf,ag zn],rfl,h3,?_,aB _ (zn▸Z),fun v=>by simp only [j8,ag zn,anJ],by simp only [FP,ag zn,List.eraseIdx_cons_zero]⟩;exact aY e r i ⟨_,Z,zn⟩
  ·rcases A5 a0 aY aN aB (i:=i+1) h4 with ⟨q1,q2,q3,q4⟩|⟨j,x,e',q1,q2,q3,q4,q5,q6,q7⟩
   ·exact .inl ⟨by simp only [gf,af zn,q1],aN e r i _ ⟨_,Z,zn⟩ q2,fun v=>by simp only [j8,af zn,q3,aR],by simp only [FP,af zn,q4]⟩
   ·refine .inr ⟨j+1,x,e',by simp only [gf,af zn,q1],by simpa using q2,q3,?_,q5,fun v=>by simp only [j8,af zn,q6,anK],by simp only [FP,af zn,q7,an9]⟩;have:=aN e r i _ ⟨_,Z,zn⟩ q4;simp only [br] at this ⊢;rw [show i+(j+1)=i+1+j by omega];exact this
theorem Et {ro:Nat->Prop} {h:Array Obj} {t kt:Nat} (hT:abj P kt (mapOf t).1) {kd:D} {u:Value} (hk:F0 ro h (mapOf t).1 kd u) {ds:List D} {bK:List MapEntry} (he:jV ro h t ds bK):akJ ro h t ds kd bK u (fun q=>(Instr.findKey kt u bK).run P w= .ok q w):=by
 generalize hr:(mapOf t).1=r at hT hk
 cases r with
 |one c=>
  obtain⟨hc,dt,hu,hd⟩:=hT;have Ov:Rd ro h c kd u:=hk
  have G:=A5 (ro:=ro) (h:=h) (t:=t) (kd:=kd) (u:=u) (ask:=fun es i q=>Instr.findNow dt u es i=some q) (fun i=>by simp [Instr.findNow])
   (fun e r i ⟨d',U,Z⟩=>by
    rw [hr] at U;have g:=(yZ hc hd Ov U).1;rw [Z,decide_eq_true rfl] at g
    simp [Instr.findNow,g])
   (fun e r i res ⟨d',U,Z⟩ q=>by
    rw [hr] at U;have g:=(yZ hc hd Ov U).1;rw [decide_eq_false (fun e=>Z e.symm)] at g;simp only [Instr.findNow,g]
    exact q)
   (fun u' U n=>by
    rw [hr] at U
    exact (yZ hc hd Ov U).2 rfl n) (i:=0) he
  rcases G with ⟨q1,q2,q3,q4⟩|⟨j,x,e,q1,q2,q3,q4,q5,q6,q7⟩
  ·exact .inl ⟨q1,fE hu q2,q3,q4⟩
  ·simp only [br,aA] at q4;exact .inr ⟨j,x,e,q1,q2,q3,fE hu q4,q5,q6,q7⟩
 |many cs=>
  have G:=A5 (ro:=ro) (h:=h) (t:=t) (kd:=kd) (u:=u) (ask:=fun es i q=>(Instr.findAsking kt u es i).run P w= .ok q w) (fun i=>by simp [Instr.findAsking])
   (fun e r i ⟨d',U,Z⟩=>by
    rw [hr] at U;have g:=(AS (w:=w) hT hk U).1;rw [Z,decide_eq_true rfl] at g
    simp [Instr.findAsking,g])
   (fun e r i res ⟨d',U,Z⟩ q=>by
    rw [hr] at U;have g:=(AS (w:=w) hT hk U).1;rw [decide_eq_false (fun e=>Z e.symm)] at g;simp [Instr.findAsking,g]
    exact q)
   (fun u' U n=>by
    rw [hr] at U
    exact (AS (w:=w) hT hk U).2 rfl n) (i:=0) he
  have key: ∀q,(Instr.findAsking kt u bK 0).run P w= .ok q w->(Instr.findKey kt u bK).run P w= .ok q w:=by
   intro q hq;unfold Instr.findKey
   cases bK with
   |nil=> simp only [Instr.findAsking,Sem.run_pure] at hq;simp [run_underlying hT.2.1,Instr.findNow];simpa using hq
   |cons e r=> simp [run_underlying hT.2.1,Instr.findNow,Instr.sameNow];exact hq
  rcases G with ⟨q1,q2,q3,q4⟩|⟨j,x,e,q1,q2,q3,q4,q5,q6,q7⟩
  ·exact .inl ⟨q1,key _ q2,q3,q4⟩
  ·simp only [br,aA] at q4;exact .inr ⟨j,x,e,q1,q2,q3,key _ q4,q5,q6,q7⟩
theorem D3 {ro:Nat->Prop} {h:Array Obj} {d:D} (b:Bool) (n:Nat): ∀{cs:List CK} {j:Nat} {fs:List Field} {us pre:List Value},Ke P cs j fs->HZ ro h cs j d us->pre.length=j->
 (forIn fs PUnit.unit (fun f (_:PUnit)=>(do
  if f.name≠ "_" then Instr.checkKey b (n+1) f.type (<- part f.type (pre++us).toArray f.offset)
  pure (ForInStep.yield PUnit.unit):Sem (ForInStep PUnit)))).run P w= .ok PUnit.unit w
 |[],j,fs,us,pre,hf,_,_=>by simp only [Ke] at hf;subst hf;simp
 |c::cs,j,fs,us,pre,hf,hu,hp=>by
  obtain⟨f,r,k,i,rfl,ho,hn,rfl,fP,hk,hr⟩:=hf;obtain⟨u,us,rfl,Ol,Rz⟩:=hu;have e4:i.agg=false:=by simp [TI.agg,TK.agg,hk]
  have p1:(part f.type (pre++u::us).toArray f.offset).run P w= .ok u w:=by simp [part,kN fP,e4,ho,<- hp]
  have ih:=D3 (d:=d) (us:=us) (pre:=pre++ [u]) b n hr Rz (by simp [hp]);rw [am8] at ih;simp only [anu] at ih;have hc:(Instr.checkKey b (n+1) f.type u).run P w= .ok () w:=by simp [Instr.checkKey,run_underlying (oI fP hk)]
  rw [List.forIn_cons];simp only [Sem.run_bind,ag hn,p1,hc,Result.andThen_ok,Sem.run_pure];exact ih
theorem l9 {ro:Nat->Prop} {h:Array Obj} {kt:Nat} {r:Row} (hT:abj P kt r) {d:D} {v:Value} (hk:F0 ro h r d v) (b:Bool):(Instr.checkKey b 10000 kt v).run P w= .ok () w:=by
 cases r with
 |one c=> obtain⟨_,dt,hu,hd⟩:=hT;exact eK hu hd b v
 |many cs=> obtain⟨_,t1,_,t3⟩:=hT;obtain⟨_,us,rfl,U⟩:=hk;have h0:(10000:Nat)=9998+1+1:=rfl;rw [h0];have:=D3 (w:=w) (pre:=[]) b 9998 t3 U rfl;simp only [ay] at this;rw [Instr.checkKey];simp only [Sem.run_bind,run_underlying t1,Result.andThen_ok];rw [<- Array.forIn_toList,this];simp
theorem jV.set {ro:Nat->Prop} {h:Array Obj} {t:Nat} {kd vd:D} {uk uv:Value} (hk:F0 ro h (mapOf t).1 kd uk) (hv:F0 ro h (mapOf t).2 vd uv): ∀{ds:List D} {bK:List MapEntry} {i:Nat} {e:MapEntry},jV ro h t ds bK->bK[i]?=some e->
 jV ro h t (ds.set i (.p kd vd)) (bK.set i { e with key:=uk,val:=uv })
 |[],bK,i,e,he,hi=>by simp only [jV] at he; subst he; simp at hi
 |d::ds,bK,0,e,he,hi=>by obtain⟨e0,r,rfl,U,Z,h3,h4⟩:=he;simp at hi;subst hi;simp only [anJ];exact⟨_,r,rfl,rfl,hk,hv,h4⟩
 |d::ds,bK,i+1,e,he,hi=>by obtain⟨e0,r,rfl,U,Z,h3,h4⟩:=he;simp only [anK];exact⟨e0,_,rfl,U,Z,h3,jV.set hk hv h4 (by simpa using hi)⟩
theorem jV.push {ro:Nat->Prop} {h:Array Obj} {t:Nat} {kd vd:D} {uk uv:Value} {c:Nat} (hk:F0 ro h (mapOf t).1 kd uk) (hv:F0 ro h (mapOf t).2 vd uv): ∀{ds:List D} {bK:List MapEntry},jV ro h t ds bK->
 jV ro h t (ds++ [.p kd vd]) (bK++ [{ key:=uk,val:=uv,born:=c }])
 |[],bK,he=>by simp only [jV] at he;subst he;exact⟨_,[],rfl,rfl,hk,hv,rfl⟩
 |d::ds,bK,he=>by obtain⟨e0,r,rfl,U,Z,h3,h4⟩:=he;simp only [aR];exact⟨e0,_,rfl,U,Z,h3,jV.push hk hv h4⟩
theorem jV.erase {ro:Nat->Prop} {h:Array Obj} {t:Nat}: ∀{ds:List D} {bK:List MapEntry} {i:Nat},jV ro h t ds bK->jV ro h t (ds.eraseIdx i) (bK.eraseIdx i)
 |[],bK,i,he=>by simp only [jV] at he; subst he; simp [jV]
 |d::ds,bK,0,he=>by
  obtain⟨e0,r,rfl,U,Z,h3,h4⟩:=he
  grind
 |d::ds,bK,i+1,he=>by obtain⟨e0,r,rfl,U,Z,h3,h4⟩:=he;simp only [an9];exact⟨e0,_,rfl,U,Z,h3,jV.erase h4⟩
theorem xC {m:W} {h:Hp} {id t:Nat} {e:V} (hm:w4 m h=some (id,e,t)):m= .map id/\h.get id=some (.jS e t):=by
 unfold w4 at hm
 grind
theorem Hl {tt:TT} (cI:eC P tt): ∀{cs:List CK} {j:Nat} {fs:List (Nat×Nat×Nat)} {lP:List Field},A4 tt cs j fs=true->(lP.mapM fun f=>(P.info? f.type).map fun i=>(f.offset,f.type,i.size))=some fs->(∀f∈lP,f.name≠ "_")->Ke P cs j lP
 |[],j,[],lP,_,hm,_=>by
  cases lP with
  |nil=>rfl
  |cons f lP=> simp only [anA,anW,anI] at hm;obtain⟨_,_,_,_,h3⟩:=hm;simp at h3
 |[],j,_::_,lP,h,_,_=>by simp [A4] at h
 |c::cs,j,[],lP,h,_,_=>by simp [A4] at h
 |c::cs,j,(o,ft,z)::fs,lP,h,hm,hn=>by
  cases lP with
  |nil=>simp at hm
  |cons f lP=>
   simp only [anA,anW,anI] at hm;obtain⟨p,U,ls,Z,h3⟩:=hm;simp only [pure,ah,List.cons.injEq] at h3;obtain⟨rfl,rfl⟩:=h3;rw [aQ] at U;obtain⟨inf,alD,e⟩:=U;simp only [ak] at e;obtain⟨rfl,rfl,rfl⟩:=e;simp only [A4] at h;split at h
   ·rename_i ho;split at h
    ·rename_i i hi;split at h
     ·rename_i k;split at h
      ·rename_i hk;exact⟨f,lP,k,i,rfl,aq ho,hn f ad,rfl,cI f.type i hi,of_decide_eq_true hk,Hl cI h Z (fun g hg=>hn g (by simp [hg]))⟩
      ·simp at h
     ·simp at h
    ·simp at h
   ·simp at h
theorem Mv {h:Array Obj} {r:Row} {v:W} {u:Value} {a:V} (hv:VR E h v u) (hc:Sz r v=some a):F0 E.ro h r (dec (a.den E.ρ)) u:=by
 cases r with
 |one c=>exact (jI hv hc).rd (oY hc)
 |many cs=>
  unfold Sz at hc;simp only at hc;split at hc
  ·rename_i vs;simp only [VR] at hv;obtain⟨us,rfl,He⟩:=hv;have hw:=tE (ρ:=E.ρ) hc;refine⟨hw,us,rfl,?_⟩;have hR:=tF He hc
   have key: ∀{ks:List CK} {j:Nat} {ws:List Value},dS E.ro h ks j (dec (a.den E.ρ)) ws->(∀i c,ks[i]?=some c->oo c ((dec (a.den E.ρ)).hd (j+i)))->HZ E.ro h ks j (dec (a.den E.ρ)) ws:=by
    intro ks
    induction ks with
    |nil=>intro j ws hh _; exact hh
    |cons c ks ih=>
     intro j ws hh ry;obtain⟨x,xs,rfl,g1,g2⟩:=hh
     exact⟨x,xs,rfl,g1.rd (ry 0 c rfl),ih g2 fun i c' hi=>by
      have:=ry (i+1) c' hi;rw [show j+(i+1)=j+1+i by omega] at this
      exact this⟩
   refine key hR fun i c hi=>?_;obtain⟨_,w2,w3⟩:=hw;have dX:i<cs.length:=(aX.1 hi).1;refine w3 i c _ hi ?_;unfold D.hd;rw [aA,aO J];rfl
  ·simp at hc
theorem F0.cell {h:Array Obj} {r:Row} {d:D} {u:Value} {x:V} (hh:F0 E.ro h r d u) (hd:dec (x.den E.ρ)=d):VR E h (MC r x) u:=by
 subst hd
 cases r with
 |one c=> have hh:Rd E.ro h c _ u:=hh;exact nu.2 hh.cell
 |many cs=>
  obtain⟨_,us,rfl,U⟩:=hh;simp only [MC,VR];refine⟨us,rfl,nF.2 ?_⟩
  have key: ∀{ks:List CK} {j:Nat} {ws:List Value},HZ E.ro h ks j (dec (x.den E.ρ)) ws->dS E.ro h ks j (dec (x.den E.ρ)) ws:=by
   intro ks
   induction ks with
   |nil=>intro j ws hh; exact hh
   |cons c ks ih=> intro j ws hh;obtain⟨y,ys,rfl,g1,g2⟩:=hh;exact⟨y,ys,rfl,g1.cell,ih g2⟩
  exact key U
theorem AO {tt:TT} (cI:eC P tt) {h:Array Obj} {ty t:Nat} {k:W} {uk:Value} {a:V} {ie:TI} (hk:VR E h k uk) (hm:mapKey tt ty t k=some (a,ie)) :
 ∃kt et,P.underlying ty=some (.map kt et)/\abj P kt (mapOf t).1/\mc P et ie/\F0 E.ro h (mapOf t).1 (dec (a.den E.ρ)) uk:=by
 unfold mapKey at hm;split at hm
 ·grind
 ·rename_i ti fP;split at hm
  ·rename_i kt et zm;split at hm
   ·grind
   ·rename_i ki YB;split at hm
    ·rename_i sZ;split at hm
     ·grind
     ·rename_i ie' kO;split at hm
      ·grind
      ·rename_i a0 ha0;simp only [ah,ak] at hm;obtain⟨rfl,rfl⟩:=hm;have hu:=sA (cI ty ti fP) zm;refine⟨kt,et,hu,?_,cI et ie' kO,?_⟩
       ·generalize hr:(mapOf t).1=r at sZ
        have nQ:(∃c,r= .one c/\I1 c)\/∃cs,r= .many cs/\cs≠[]:=by
         rw [<- hr];unfold mapOf;split<;>first |exact .inl ⟨_,rfl,.inl ⟨_,rfl⟩⟩|exact .inl ⟨_,rfl,.inr rfl⟩|exact .inr ⟨_,rfl,ad⟩
        rcases nQ with ⟨c,rfl,hc⟩|⟨cs,rfl,fJ⟩
        ·simp only [X5,decide_eq_true_eq] at sZ;refine⟨hc,?_⟩;rcases hc with ⟨q,rfl⟩|rfl
         ·exact⟨_,oI (cI kt ki YB) sZ,q,rfl⟩
         ·exact⟨_,fK (cI kt ki YB) sZ,rfl⟩
        ·simp only [X5] at sZ;split at sZ
         ·rename_i fs hfs;split at sZ
          ·rename_i hq;have fP:=cI kt ki YB;have he:=fP.eqs hq;obtain⟨lP,hu,hm⟩:=sv fP hfs;unfold RZ at he;rw [hu] at he;simp only [an,ana,aZ,bne_iff_ne,ne_eq] at he;obtain⟨⟨U,Z⟩,h3⟩:=he;have hf:P.fieldsOf kt=lP:=by simp [Program.fieldsOf,hu]
           refine⟨fJ,by rw [hf]; exact hu,U,?_⟩;rw [hf];exact Hl cI sZ hm (fun f hf=>(h3 f hf).1)
          ·simp at sZ
         ·simp at sZ
       ·rw [lM,bB];exact Mv hk ha0
    ·grind
  ·grind
theorem AN [bH] {H:Hp} (r:bO E H w) {id t:Nat} {e:V} (Y:H.get id=some (.jS e t)): ∃bK c',w.heap[(E.θ id).1]?=some (.map bK c')/\jV E.ro w.heap t (dec (e.den E.ρ)).l bK.toList:=
 (r.live id _ Y).2.1
theorem wb {ρ:Nat->Int} (e a:V):(Hj e a).den ρ=((V.op .Ld e a).den ρ == (V.lit 0).den ρ):=by
 unfold Hj;split
 ·split
  ·simp only [SB.den,V.den,e9.den,bB]
   grind
  ·rfl
 ·rfl
theorem OQ [bH] {tt:TT} (cI:eC P tt) {s s':St} (r:bO E s.h w) (hp:bV E.ρ s.pc) {ty id t:Nat} {m k v:W} {e:V} {um uk:Value} {ok:Bool} (hm:VR E w.heap m um) (hk:VR E w.heap k uk) (mQ:w4 m s.h=some (id,e,t)) (h:(zK tt ty k ok e t s).leaf E.ρ=some (v,s')) :
 s'.bF=s.bF/\s'.h=s.h/\bV E.ρ s'.pc/\∃x,(Instr.lookup ty um uk ok).run P w= .ok x w/\VR E w.heap v x:=by
 obtain⟨rfl,Y⟩:=xC mQ
 unfold zK at h;split at h
 ·grind [T.leaf]
 ·rename_i a ie hmk;obtain⟨kt,et,hu,hT,kO,Uc⟩:=AO cI hk hmk;split at h
  ·grind [T.leaf]
  ·rename_i z hz;obtain⟨u0,z1,z2⟩:=Ao (P:=P) (w:=w) (E:=E) kO hz;obtain⟨bK,c',g1,g2⟩:=AN r Y;have hg:=eJ (P:=P) g1 ad;simp only [VR] at hm;obtain⟨rfl,hid⟩:=hm;have hf:=Et (w:=w) hT Uc g2;obtain⟨fI,fu,U⟩:=cC hp h;rw [wb] at U;simp only [V.den,e9.den] at U;rcases hf with ⟨q1,q2,_,_⟩|⟨j,x,en,q1,q2,q3,q4,q5,_,_⟩
   ·rw [q1] at U;have:=bD U;simp only [ak] at this;obtain⟨rfl,rfl⟩:=this;refine⟨rfl,rfl,fu,(if ok then .tuple #[u0,.bool false] else u0),?_,?_⟩
    ·cases ok<;>simp [Instr.lookup,run_underlying hu,hg,l9 hT Uc,q2,z1]
    ·cases ok
     ·exact z2
     ·simp only [if_true,VR,ct];simp_all [z2,SB.den]
   ·rw [q1] at U;have:=bD U;simp only [ak] at this;obtain⟨rfl,rfl⟩:=this
    have I7:VR E w.heap (MC (mapOf t).2 (.op .DV e a)) en.val:=by refine q3.cell ?_;simp only [V.den,e9.den,bB,q1,aC]
    refine⟨rfl,rfl,fu,(if ok then .tuple #[en.val,.bool true] else en.val),?_,?_⟩
    ·cases ok<;>simp [Instr.lookup,run_underlying hu,hg,l9 hT Uc,q4]
    ·cases ok
     ·grind
     ·simp only [if_true,VR,ct]
      grind [SB.den]
theorem Ux [bH] {tt:TT} (cI:eC P tt) {s s':St} (r:bO E s.h w) {ty id t:Nat} {m k x v:W} {e:V} {um uk ux:Value} (hm:VR E w.heap m um) (hk:VR E w.heap k uk) (hx:VR E w.heap x ux) (mQ:w4 m s.h=some (id,e,t)) (h:(OM tt ty id k x e t s).leaf E.ρ=some (v,s')) :
 s'.bF=s.bF/\s'.pc=s.pc/\v=W.undef/\∃w',(Instr.mapUpdate ty um uk ux).run P w= .ok () w'/\eU E s.h w E s'.h w'/\bO E s'.h w':=by
 obtain⟨rfl,Y⟩:=xC mQ
 unfold OM at h;split at h
 ·grind [T.leaf]
 ·rename_i a ie hmk;obtain⟨kt,et,hu,hT,kO,Uc⟩:=AO cI hk hmk;split at h
  ·grind [T.leaf]
  ·rename_i b hb;have:=bD h;simp only [ak] at this;obtain⟨rfl,rfl⟩:=this;have hrx:=Mv hx hb;obtain⟨bK,c',g1,g2⟩:=AN r Y;have hg:=eJ (P:=P) g1 ad;simp only [VR] at hm;obtain⟨rfl,hid⟩:=hm;refine⟨rfl,rfl,rfl,?_⟩
   have py:dec ((V.op .uS e (eE a b)).den E.ρ)=dL (j8 (dec (e.den E.ρ)).l (dec (a.den E.ρ)) (dec (b.den E.ρ))):=by simp only [eE,V.den,e9.den,bB]
   rcases Et (w:=w) hT Uc g2 with ⟨q1,q2,q3,_⟩|⟨j,y,en,q1,q2,q3,q4,q5,q6,_⟩
   ·refine⟨_,?_,fD r Y (.jS (.op .uS e (eE a b)) t) (.map (bK.push { key:=uk,val:=ux,born:=c' }) (c'+1)) ?_⟩
    ·simp [Instr.mapUpdate,run_underlying hu,hg,l9 hT Uc,q2,gy (P:=P) g1]
    ·intro h' hh kp;simp only [OR];refine⟨_,_,hh,?_⟩;rw [py,bJ,q3,Array.toList_push];exact jV.push (Uc.keep kp.ro kp.Bx) (hrx.keep kp.ro kp.Bx) (g2.keep kp.ro kp.Bx)
   ·have hkt:(Instr.keyThatStays (((bK[j]?).map (·.key)).getD uk) uk).run P w= .ok uk w:=by
     have q2':=q2;rw [bw] at q2';simp only [q2',br,aC,Instr.keyThatStays];simp_all
    refine⟨_,?_,fD r Y (.jS (.op .uS e (eE a b)) t) (.map (bK.modify j fun e=>{ e with key:=uk,val:=ux }) c') ?_⟩
    ·simp [Instr.mapUpdate,run_underlying hu,hg,l9 hT Uc,q4,hkt,gy (P:=P) g1]
    ·intro h' hh kp;simp only [OR];refine⟨_,_,hh,?_⟩;rw [py,bJ,q6,xA bK j en _ q2];exact jV.set (Uc.keep kp.ro kp.Bx) (hrx.keep kp.ro kp.Bx) (g2.keep kp.ro kp.Bx) q2
theorem HC [bH] {tt:TT} (cI:eC P tt) {s s':St} (r:bO E s.h w) (hp:bV E.ρ s.pc) {ty:Nat} {m k x v:W} {um uk ux:Value} (hm:VR E w.heap m um) (hk:VR E w.heap k uk) (hx:VR E w.heap x ux) (h:(Jv tt ty m k x s).leaf E.ρ=some (v,s')) :
 s'.bF=s.bF/\bV E.ρ s'.pc/\v=W.undef/\∃w' E',(Instr.mapUpdate ty um uk ux).run P w= .ok () w'/\eU E s.h w E' s'.h w'/\bO E' s'.h w':=by
 unfold Jv at h;obtain⟨vs,U,fI,E1,fu,f,q,g⟩:=pJ rfl r hp h;have hρ:=f.ρ;rw [<- hρ] at fu g;have hv:=q [ux] (by simp only [ct]; exact⟨ux,[],rfl,hx,rfl⟩);split at g
 ·rename_i x1;simp only [ct] at hv;obtain⟨u1,us1,e1,hx1,e2⟩:=hv;subst e2;simp only [List.cons.injEq,and_true] at e1;subst e1;split at g
  ·rename_i id e t mQ
   obtain⟨a1,a2,a3,w',a4,a5,a6⟩:=Ux cI (s:={ s with h:=U,pc:=fI }) f.rel (VR.keep (f.ew.keeps r) _ _ hm) (VR.keep (f.ew.keeps r) _ _ hk) hx1 mQ g;exact⟨a1,by rw [a2,<- hρ]; exact fu,a3,w',E1,a4,f.ew.trans a5,a6⟩
  grind [T.leaf]
 grind [T.leaf]
theorem UC [bH] {tt:TT} (cI:eC P tt) {s s':St} (r:bO E s.h w) {ty id t ts:Nat} {m k v:W} {e:V} {um uk:Value} (hm:VR E w.heap m um) (hk:VR E w.heap k uk) (mQ:w4 m s.h=some (id,e,t)) (h:(OX tt ty id k e t s).leaf E.ρ=some (v,s')) (tr:Nat) :
 s'.bF=s.bF/\s'.pc=s.pc/\v=W.undef/\∃w',(Builtin.delete_ #[ty,ts] tr #[um,uk]).run P w= .ok (.tuple #[]) w'/\eU E s.h w E s'.h w'/\bO E s'.h w':=by
 obtain⟨rfl,Y⟩:=xC mQ
 unfold OX at h;split at h
 ·grind [T.leaf]
 ·rename_i a ie hmk;obtain⟨kt,et,hu,hT,kO,Uc⟩:=AO cI hk hmk;have:=bD h;simp only [ak] at this;obtain⟨rfl,rfl⟩:=this;obtain⟨bK,c',g1,g2⟩:=AN r Y;have hg:=eJ (P:=P) g1 ad;simp only [VR] at hm;obtain⟨rfl,hid⟩:=hm;refine⟨rfl,rfl,rfl,?_⟩
  have py:dec ((V.op .Lg e a).den E.ρ)=dL (FP (dec (e.den E.ρ)).l (dec (a.den E.ρ))):=by simp only [V.den,e9.den,bB]
  rcases Et (w:=w) hT Uc g2 with ⟨q1,q2,_,q3⟩|⟨j,y,en,q1,q2,q3,q4,q5,_,q6⟩
  ·refine⟨_,?_,fD r Y (.jS (.op .Lg e a) t) (.map bK c') ?_⟩
   ·simp [Builtin.delete_,run_underlying hu,hg,l9 hT Uc,q2,gy (P:=P) g1]
   ·intro h' hh kp;simp only [OR];refine⟨_,_,hh,?_⟩;rw [py,bJ,q3];exact g2.keep kp.ro kp.Bx
  ·refine⟨_,?_,fD r Y (.jS (.op .Lg e a) t) (.map (bK.eraseIdxIfInBounds j) c') ?_⟩
   ·simp [Builtin.delete_,run_underlying hu,hg,l9 hT Uc,q4,gy (P:=P) g1]
   ·intro h' hh kp;simp only [OR];refine⟨_,_,hh,?_⟩;have dX:j<bK.size:=by have:=(aX.1 q2).1; simpa using this
    have:(bK.eraseIdxIfInBounds j).toList=bK.toList.eraseIdx j:=by simp_all
    rw [this,py,bJ,q6];exact jV.erase (g2.keep kp.ro kp.Bx)
end
section
variable {P:Program} {E:En} {w:World}
theorem Ew {m:W} {h:Hp} {id t:Nat} {e:V} {e8:List Nat} {ov:List (V×W)} (hm:Ey m h=some (id,e,t,e8,ov)):m= .map id/\h.get id=some (.uc e t e8 ov):=by
 unfold Ey at hm;split at hm
 ·split at hm
  ·rename_i o ho;split at hm
   ·simp only [ah,ak] at hm;obtain⟨rfl,rfl,rfl,rfl,rfl⟩:=hm;exact⟨rfl,ho⟩
   ·simp at hm
  ·simp at hm
 ·simp at hm
theorem Hy {tt:TT} (cI:eC P tt) {h:Array Obj} {ty:Nat} {k:W} {uk:Value} {x:V} {ie:TI} (hk:VR E h k uk) (hm:Jn tt ty k=some (x,ie)) :
 ∃kt et dt,P.underlying ty=some (.map kt et)/\P.underlying kt=some dt/\Cu dt (.int .i64)/\mc P et ie/\uk= .int .i64 (x.den E.ρ):=by
 unfold Jn at hm;split at hm
 ·simp at hm
 ·rename_i ti fP;split at hm
  ·rename_i kt et zm;split at hm
   ·simp at hm
   ·rename_i ki YB;split at hm
    ·rename_i sZ;split at hm
     ·simp at hm
     ·rename_i ie' kO;split at hm
      ·split at hm
       ·rename_i kk y alC;simp only [ah,ak] at hm;obtain⟨rfl,rfl⟩:=hm;subst alC;simp only [VR] at hk;exact⟨kt,et,_,sA (cI ty ti fP) zm,oI (cI kt ki YB) sZ,⟨_,rfl⟩,cI et ie' kO,hk⟩
       ·simp at hm
      ·simp at hm
    ·simp at hm
  ·simp at hm
theorem rH (ρ:Nat->Int) (x:V):dec ((ng x).den ρ)= .i (x.den ρ):=by
 unfold ng;split
 ·simp only [V.den,bB]
 ·simp only [V.den,e9.den,bB]
theorem xQ {α:Type} {ρ:Nat->Int} {x:V} {k:Option W->St->T α} {a:α}: ∀{ov:List (V×W)} {s:St},bV ρ s.pc->(tk x ov s k).leaf ρ=some a->
 ∃ec,bV ρ ec/\(k (lJ ρ (x.den ρ) ov) { s with pc:=ec }).leaf ρ=some a
 |[],s,hp,h=> ⟨s.pc,hp,h⟩
 |(y,v)::l,s,hp,h=>by
  simp only [tk] at h;split at h
  ·rename_i he;have:=cG _ _ he;subst this;refine⟨s.pc,hp,?_⟩;simp only [lJ,if_true];exact h
  ·obtain⟨fI,fu,U⟩:=cC hp h;rw [gG] at U;by_cases he:x.den ρ=y.den ρ
   ·simp only [he,beq_self_eq_true] at U;refine⟨fI,fu,?_⟩;simp only [lJ,ag he.symm];exact U
   ·have hf:(x.den ρ == y.den ρ)=false:=by simp [he]
    rw [hf] at U;obtain⟨jG,jy,Z⟩:=xQ (s:={ s with pc:=fI }) fu U;refine⟨jG,jy,?_⟩;simp only [lJ,af (fun q=>he (Eq.symm q))];exact Z
theorem Hw {α:Type} {ρ:Nat->Int} {x:V} {v:W} {a:α}: ∀{ov:List (V×W)} {s:St} {k:Option (List (V×W))->St->T α},bV ρ s.pc->(Jm x v ov s k).leaf ρ=some a->
 ∃ec,bV ρ ec/\((lJ ρ (x.den ρ) ov=none/\(k none { s with pc:=ec }).leaf ρ=some a)\/
  ∃iQ,(∃u,lJ ρ (x.den ρ) ov=some u)/\((∀n,lJ ρ n iQ=if n=x.den ρ then some v else lJ ρ n ov)/\iQ.map (·.1)=ov.map (·.1))/\(k (some iQ) { s with pc:=ec }).leaf ρ=some a)
 |[],s,k,hp,h=> ⟨s.pc,hp,.inl ⟨rfl,h⟩⟩
 |(y,u)::l,s,k,hp,h=>by
  simp only [Jm] at h
  have here:x.den ρ=y.den ρ->(∃u',lJ ρ (x.den ρ) ((y,u)::l)=some u')/\((∀n,lJ ρ n ((y,v)::l)=if n=x.den ρ then some v else lJ ρ n ((y,u)::l))/\((y,v)::l).map (·.1)=((y,u)::l).map (·.1)):=by
   intro he;refine⟨⟨u,by simp only [lJ,ag he.symm]⟩,fun n=>?_,rfl⟩;simp only [lJ];by_cases hn:n=x.den ρ
   ·rw [ag hn,ag (by rw [hn,he])]
   ·rw [af hn,af (fun q=>hn (by rw [he,q])),af (fun q=>hn (by rw [he,q]))]
  split at h
  ·rename_i he;have:=cG _ _ he;subst this;exact⟨s.pc,hp,.inr ⟨_,(here rfl).1,(here rfl).2,h⟩⟩
  ·obtain⟨fI,fu,U⟩:=cC hp h;rw [gG] at U;by_cases he:x.den ρ=y.den ρ
   ·have ht:(x.den ρ == y.den ρ)=true:=by simp [he]
    rw [ht] at U;exact⟨fI,fu,.inr ⟨_,(here he).1,(here he).2,U⟩⟩
   ·have hf:(x.den ρ == y.den ρ)=false:=by simp [he]
    rw [hf] at U;obtain⟨jG,jy,Z⟩:=Hw (s:={ s with pc:=fI }) fu U;have fJ: ¬y.den ρ=x.den ρ:=fun q=>he q.symm;refine⟨jG,jy,?_⟩;rcases Z with ⟨g1,g2⟩|⟨iQ,⟨u',g1⟩,⟨g2,g4⟩,g3⟩
    ·exact .inl ⟨by simp only [lJ,af fJ]; exact g1,g2⟩
    ·refine .inr ⟨_,⟨u',by simp only [lJ,af fJ]; exact g1⟩,⟨fun n=>?_,by simp only [aw,g4]⟩,g3⟩;simp only [lJ];by_cases hy:y.den ρ=n
     ·rw [ag hy,ag hy,af (fun q=>fJ (by rw [hy,q]))]
     ·rw [af hy,af hy,g2 n]
theorem zB {h:Array Obj} {B t:Nat} {e8:List Nat} {ov:List (V×W)} {dt:TypeDesc} (hd:Cu dt (.int .i64)) (n:Int): ∀{ds:List D} {bK:List MapEntry} {i:Nat},eR E h B t e8 ov ds bK->
 (gf ds (.i n)=none/\D.i n∉ds.map jk/\Instr.findNow dt (.int .i64 n) bK i=some none/\(∀v,j8 ds (.i n) v=ds++ [.p (.i n) v]))\/
 (∃j x e,gf ds (.i n)=some x/\D.i n∈ds.map jk/\bK[j]?=some e/\ds[j]?=some (.p (.i n) x)/\e.key= .int .i64 n/\(match lJ E.ρ n ov with |some v=>VR E h v e.val|none=>p9 E h B t e8 (.i n) x e.val)/\
  Instr.findNow dt (.int .i64 n) bK i=some (some (i+j,e.val))/\(∀n',Instr.sameBits (n'+1) e.key (.int .i64 n)=true)/\(∀v,j8 ds (.i n) v=ds.set j (.p (.i n) v)))
 |[],bK,i,he=>by simp only [eR] at he;subst he;exact .inl ⟨rfl,ad,by simp [Instr.findNow],fun _=>rfl⟩
 |d::ds,bK,i,he=>by
  obtain⟨e,r,m,rfl,U,Z,h3,h4⟩:=he;obtain⟨g1,g2⟩:=yZ (ro:=E.ro) (h:=h) (c:=.int .i64) (.inl ⟨_,rfl⟩) hd (.int .i64 n) (.int .i64 m);have hk:jk d= .i m:=by rw [U]; rfl
  rw [<- Z] at g1 g2;by_cases zn:D.i m=D.i n
  ·have hmn:m=n:=by simpa using zn
   subst hmn;have g1':Instr.sameNow dt (.int .i64 m) e.key=some true:=by rw [g1,decide_eq_true rfl]
   refine .inr ⟨0,FY d,e,by simp only [gf,hk,if_true],by simp [hk],rfl,by rw [<- U]; rfl,Z,h3,by simp [Instr.findNow,g1'],g2 rfl,fun v=>by simp only [j8,hk,if_true,anJ]⟩
  ·have g1':Instr.sameNow dt (.int .i64 n) e.key=some false:=by rw [g1,decide_eq_false (fun q=>zn q.symm)]
   have fJ: ¬jk d= .i n:=by rw [hk]; exact zn
   rcases zB (i:=i+1) hd n h4 with ⟨q1,q2,q3,q4⟩|⟨j,x,e',q1,q2,q3,q4,q5,q6,q7,q8,q9⟩
   ·refine .inl ⟨by simp only [gf,af fJ,q1],?_,by simp [Instr.findNow,g1',q3],fun v=>by simp only [j8,af fJ,q4,aR]⟩;simp only [aw,ax,not_or];exact⟨fun q=>fJ q.symm,q2⟩
   ·refine .inr ⟨j+1,x,e',by simp only [gf,af fJ,q1],by simp only [aw,ax]; exact .inr q2,by simpa using q3,by simpa using q4,q5,q6,?_,q8,fun v=>by simp only [j8,af fJ,q9,anK]⟩;simp only [Instr.findNow,g1',q7]; congr 3; omega
theorem II {ρ:Nat->Int} {n:Int} {v:W}: ∀{ov:List (V×W)},lJ ρ n ov=some v->n∈ov.map fun p=>p.1.den ρ
 |[],h=>by simp [lJ] at h
 |(x,u)::l,h=>by
  simp only [lJ] at h;simp only [aw,ax];split at h
  ·rename_i he; exact .inl he.symm
  ·exact .inr (II h)
theorem IH {ρ:Nat->Int} {n:Int}: ∀{ov:List (V×W)},lJ ρ n ov=none->n∉ov.map fun p=>p.1.den ρ
 |[],_=>by simp
 |(x,u)::l,h=>by
  simp only [lJ] at h;simp only [aw,ax,not_or];split at h
  ·simp at h
  ·rename_i he; exact⟨fun q=>he q.symm,IH h⟩
theorem Ah.at {ρ:Nat->Int} {ds:List D} {ov:List (V×W)} (h:Ah ρ ds ov) {n:Int} {v:W} (hv:lJ ρ n ov=some v):D.i n∈ds.map jk:=by obtain⟨p,hp,he⟩:=aH.1 (II hv);rw [<- he];exact h.2.1 p hp
theorem zC [bH] {H:Hp} (r:bO E H w) {id t:Nat} {e:V} {e8:List Nat} {ov:List (V×W)} (Y:H.get id=some (.uc e t e8 ov)) :
 Ah E.ρ (dec (e.den E.ρ)).l ov/\∃bK c',w.heap[(E.θ id).1]?=some (.map bK c')/\eR E w.heap (E.θ id).1 t e8 ov (dec (e.den E.ρ)).l bK.toList:=
 (r.live id _ Y).2.1
theorem OP [bH] {tt:TT} (cI:eC P tt) {s s':St} (r:bO E s.h w) (hp:bV E.ρ s.pc) {ty id t:Nat} {e8:List Nat} {ov:List (V×W)} {m k v:W} {e:V} {um uk:Value} {ok:Bool} (hm:VR E w.heap m um) (hk:VR E w.heap k uk) (mQ:Ey m s.h=some (id,e,t,e8,ov)) (h:(zJ tt ty k ok e ov s).leaf E.ρ=some (v,s')) :
 s'.bF=s.bF/\s'.h=s.h/\bV E.ρ s'.pc/\∃x,(Instr.lookup ty um uk ok).run P w= .ok x w/\VR E w.heap v x:=by
 obtain⟨rfl,Y⟩:=Ew mQ
 unfold zJ at h;split at h
 ·simp [T.leaf] at h
 ·rename_i x ie hmk;obtain⟨kt,et,dt,hu,xM,jW,kO,rfl⟩:=Hy cI hk hmk;split at h
  ·simp [T.leaf] at h
  ·rename_i z hz;obtain⟨u0,z1,z2⟩:=Ao (P:=P) (w:=w) (E:=E) kO hz;obtain⟨g0,bK,c',g1,g2⟩:=zC r Y;have hg:=eJ (P:=P) g1 ad;simp only [VR] at hm;obtain⟨rfl,hid⟩:=hm;have hf:=zB (i:=0) jW (x.den E.ρ) g2;obtain⟨fI,fu,U⟩:=xQ hp h
   cases ho:lJ E.ρ (x.den E.ρ) ov with
   |some v1=>
    rw [ho] at U;have:=bD U;simp only [ak] at this;obtain⟨rfl,rfl⟩:=this;rcases hf with ⟨q1,q2,_,_⟩|⟨j,y,en,q1,q2,q3,_,_,q6,q7,_,_⟩
    ·exact absurd (g0.at ho) q2
    ·rw [ho] at q6;refine⟨rfl,rfl,fu,(if ok then .tuple #[en.val,.bool true] else en.val),?_,?_⟩
     ·cases ok<;>simp [Instr.lookup,run_underlying hu,hg,eK xM jW,fE xM q7]
     ·cases ok
      ·exact q6
      ·simp only [if_true,VR,ct];exact⟨[en.val,.bool true],rfl,_,_,rfl,q6,_,_,rfl,by simp [SB.den],rfl⟩
   |none=>
    rw [ho] at U;obtain⟨jG,jy,Z⟩:=cC fu U;rw [wb] at Z;simp only [V.den,e9.den,rH] at Z;rcases hf with ⟨q1,_,q2,_⟩|⟨j,y,en,q1,_⟩
    ·rw [q1] at Z;have:=bD Z;simp only [ak] at this;obtain⟨rfl,rfl⟩:=this;refine⟨rfl,rfl,jy,(if ok then .tuple #[u0,.bool false] else u0),?_,?_⟩
     ·cases ok<;>simp [Instr.lookup,run_underlying hu,hg,eK xM jW,fE xM q2,z1]
     ·cases ok
      ·exact z2
      ·simp only [if_true,VR,ct];exact⟨[u0,.bool false],rfl,_,_,rfl,z2,_,_,rfl,by simp [SB.den],rfl⟩
    ·rw [q1] at Z;simp [T.leaf] at Z
theorem yx [bH] {H:Hp} (r:bO E H w) {id:Nat} {o:dN} (Y:H.get id=some o) (ao:dN) (o':Obj)
 (ho: ∀h',h'[(E.θ id).1]?=some o'->fy E w.heap E h'->(∀B key,HdK E w.heap E h' B key)->OR E h' id ao) :
 eU E H w E (H.put id ao) { w with heap:=w.heap.setIfInBounds (E.θ id).1 o' }/\bO E (H.put id ao) { w with heap:=w.heap.setIfInBounds (E.θ id).1 o' }:=by
 have ff:=fq r Y
 have lq: ∀b,b≠(E.θ id).1->({ w with heap:=w.heap.setIfInBounds (E.θ id).1 o' }:World).heap[b]?=w.heap[b]?:=fun b hb=>by
  grind
 refine yI r Y ao ad lq ⟨rfl,rfl,rfl⟩ (ho _ ?_ (kb r Y lq) fun B key=>r.Uj rfl (fun b _ hn=>lq b fun e=>hn id o Y e.symm) B key)
 grind
theorem eR.set {h:Array Obj} {B t:Nat} {e8:List Nat} {ov iQ:List (V×W)} {n:Int} {v:W} {ux:Value} (hx:VR E h v ux) (hv: ∀m,lJ E.ρ m iQ=if m=n then some v else lJ E.ρ m ov): ∀{ds:List D} {bK:List MapEntry} {j:Nat} {e:MapEntry},
 (ds.map jk).Nodup->eR E h B t e8 ov ds bK->bK[j]?=some e->e.key= .int .i64 n->eR E h B t e8 iQ ds (bK.set j { e with key:=.int .i64 n,val:=ux })
 |[],bK,j,e,_,he,hj,_=>by simp only [eR] at he; subst he; simp at hj
 |d::ds,bK,0,e,BP,he,hj,hk=>by
  obtain⟨e0,r,m,rfl,U,Z,h3,h4⟩:=he;simp at hj;subst hj;have hm:m=n:=by rw [Z] at hk; simpa using hk
  subst hm;simp only [anJ];refine⟨_,r,m,rfl,U,rfl,?_,?_⟩
  ·rw [hv,ag rfl]; exact hx
  ·simp only [aw,anf] at BP;have hk:jk d= .i m:=by rw [U]; rfl
   rw [hk] at BP;exact eR.other hv BP.1 h4
 |d::ds,bK,j+1,e,BP,he,hj,hk=>by
  obtain⟨e0,r,m,rfl,U,Z,h3,h4⟩:=he;simp only [anK];simp only [aw,anf] at BP;have YC:jk d= .i m:=by rw [U]; rfl
  have YD:r[j]?=some e:=by simpa using hj
  refine⟨e0,_,m,rfl,U,Z,?_,eR.set hx hv BP.2 h4 YD hk⟩
  have fJ:m≠n:=by rintro rfl;rw [YC] at BP;exact BP.1 (eR.CM h4 YD hk)
  rw [hv,af fJ];exact h3
where
 eR.other {h:Array Obj} {B t:Nat} {e8:List Nat} {ov iQ:List (V×W)} {n:Int} {v:W} (hv: ∀m,lJ E.ρ m iQ=if m=n then some v else lJ E.ρ m ov): ∀{ds:List D} {bK:List MapEntry},D.i n∉ds.map jk->eR E h B t e8 ov ds bK->eR E h B t e8 iQ ds bK
 |[],_,_,he=>he
 |d::ds,_,hn,⟨e0,r,m,h0,U,Z,h3,h4⟩=>by
  simp only [aw,ax,not_or] at hn;have YC:jk d= .i m:=by rw [U]; rfl
  rw [YC] at hn;refine⟨e0,r,m,h0,U,Z,?_,eR.other hv hn.2 h4⟩;rw [hv,af (fun q=>hn.1 (by rw [q]))];exact h3
 eR.CM {h:Array Obj} {B t:Nat} {e8:List Nat} {ov:List (V×W)} {n:Int}: ∀{ds:List D} {bK:List MapEntry} {j:Nat} {e:MapEntry},eR E h B t e8 ov ds bK->bK[j]?=some e->e.key= .int .i64 n->D.i n∈ds.map jk
 |[],bK,j,e,he,hj,_=>by simp only [eR] at he; subst he; simp at hj
 |d::ds,bK,0,e,he,hj,hk=>by
  obtain⟨e0,r,m,rfl,U,Z,h3,h4⟩:=he;simp at hj;subst hj;rw [Z] at hk;have hm:m=n:=by simpa using hk
  subst hm;rw [U];simp [jk]
 |d::ds,bK,j+1,e,he,hj,hk=>by obtain⟨e0,r,m,rfl,U,Z,h3,h4⟩:=he;simp only [aw,ax];exact .inr (eR.CM h4 (by simpa using hj) hk)
theorem eR.push {h:Array Obj} {B t:Nat} {e8:List Nat} {ov iQ:List (V×W)} {n:Int} {v:W} {ux:Value} {c:Nat} {x:D} (hx:VR E h v ux) (hv: ∀m,lJ E.ρ m iQ=if m=n then some v else lJ E.ρ m ov): ∀{ds:List D} {bK:List MapEntry},D.i n∉ds.map jk->eR E h B t e8 ov ds bK->
 eR E h B t e8 iQ (ds++ [.p (.i n) x]) (bK++ [{ key:=.int .i64 n,val:=ux,born:=c }])
 |[],bK,_,he=>by simp only [eR] at he;subst he;refine⟨_,[],n,rfl,rfl,rfl,?_,rfl⟩;rw [hv,ag rfl]; exact hx
 |d::ds,bK,hn,he=>by
  obtain⟨e0,r,m,rfl,U,Z,h3,h4⟩:=he;simp only [aw,ax,not_or] at hn;have YC:jk d= .i m:=by rw [U]; rfl
  rw [YC] at hn;simp only [aR];refine⟨e0,_,m,rfl,U,Z,?_,eR.push hx hv hn.2 h4⟩;rw [hv,af (fun q=>hn.1 (by rw [q]))];exact h3
theorem BX [bH] {tt:TT} (cI:eC P tt) {s s':St} (r:bO E s.h w) (hp:bV E.ρ s.pc) {ty id t:Nat} {e8:List Nat} {ov:List (V×W)} {m k x v:W} {e:V} {um uk ux:Value} (hm:VR E w.heap m um) (hk:VR E w.heap k uk) (hx:VR E w.heap x ux) (mQ:Ey m s.h=some (id,e,t,e8,ov)) (h:(zH tt ty id k x e t e8 ov s).leaf E.ρ=some (v,s')) :
 s'.bF=s.bF/\bV E.ρ s'.pc/\v=W.undef/\∃w',(Instr.mapUpdate ty um uk ux).run P w= .ok () w'/\eU E s.h w E s'.h w'/\bO E s'.h w':=by
 obtain⟨rfl,Y⟩:=Ew mQ
 unfold zH at h;split at h
 ·simp [T.leaf] at h
 ·rename_i a ie hmk;obtain⟨kt,et,dt,hu,xM,jW,kO,rfl⟩:=Hy cI hk hmk;obtain⟨g0,bK,c',g1,g2⟩:=zC r Y;have hg:=eJ (P:=P) g1 ad;simp only [VR] at hm;obtain⟨rfl,hid⟩:=hm;have hf:=zB (i:=0) jW (a.den E.ρ) g2;obtain⟨fI,fu,U⟩:=Hw hp h;rcases U with ⟨ho,U⟩|⟨iQ,⟨u',ho⟩,⟨hv,LF⟩,U⟩
  ·obtain⟨jG,jy,Z⟩:=cC fu U;rw [wb] at Z;simp only [V.den,e9.den,rH] at Z;rcases hf with ⟨q1,q0,q2,q3⟩|⟨j,y,en,q1,_⟩
   ·rw [q1] at Z;have:=bD Z;simp only [ak] at this;obtain⟨rfl,rfl⟩:=this;refine⟨rfl,jy,rfl,_,?_,yx r Y (.uc (.op .uS e (eE (ng a) (.ei (.i 0)))) t e8 ((a,x)::ov)) (.map (bK.push { key:=.int .i64 (a.den E.ρ),val:=ux,born:=c' }) (c'+1)) ?_⟩
    ·simp [Instr.mapUpdate,run_underlying hu,hg,eK xM jW,fE xM q2,gy (P:=P) g1]
    ·intro h' hh kp hk
     have py:dec ((V.op .uS e (eE (ng a) (.ei (.i 0)))).den E.ρ)=dL (j8 (dec (e.den E.ρ)).l (.i (a.den E.ρ)) (.i 0)):=by simp only [eE,V.den,e9.den,bB,rH]
     have qz: ∀m,lJ E.ρ m ((a,x)::ov)=if m=a.den E.ρ then some x else lJ E.ρ m ov:=by
      intro m;simp only [lJ];by_cases hm:a.den E.ρ=m
      ·rw [ag hm,ag hm.symm]
      ·rw [af hm,af (fun q=>hm q.symm)]
     simp only [OR];rw [py,bJ,q3];refine⟨⟨?_,fun p hp=>?_,?_⟩,_,_,hh,?_⟩
     ·rw [ane,aof];refine⟨g0.1,ad,fun p hp q hq=>?_⟩;simp only [aw,anj,List.mem_singleton] at hq;rw [hq];intro eq;rw [eq] at hp;exact q0 hp
     ·rw [ane,amW];rcases ax.1 hp with rfl|hp
      ·exact .inr (by simp [jk])
      ·exact .inl (g0.2.1 p hp)
     ·simp only [aw,anf];exact⟨IH ho,g0.2.2⟩
     ·rw [Array.toList_push];exact eR.push (VR.keep kp _ _ hx) qz q0 (g2.keep kp fun _ _=>hk _ _)
   ·rw [q1] at Z;simp [T.leaf] at Z
  ·have:=bD U;simp only [ak] at this;obtain⟨rfl,rfl⟩:=this;rcases hf with ⟨_,q2,_,_⟩|⟨j,y,en,q1,q2,q3,q4,q5,q6,q7,q8,q9⟩
   ·exact absurd (g0.at ho) q2
   ·simp only [aA] at q7
    have hkt:(Instr.keyThatStays (((bK[j]?).map (·.key)).getD (.int .i64 (a.den E.ρ))) (.int .i64 (a.den E.ρ))).run P w= .ok (.int .i64 (a.den E.ρ)) w:=by have q3':=q3;rw [bw] at q3';simp only [q3',br,aC,Instr.keyThatStays];rw [ag (q8 9999)];rfl
    refine⟨rfl,fu,rfl,_,?_,yx r Y (.uc e t e8 iQ) (.map (bK.modify j fun e=>{ e with key:=.int .i64 (a.den E.ρ),val:=ux }) c') ?_⟩
    ·simp [Instr.mapUpdate,run_underlying hu,hg,eK xM jW,fE xM q7,hkt,gy (P:=P) g1]
    ·intro h' hh kp hk;simp only [OR];refine⟨⟨g0.1,fun p hp=>?_,?_⟩,_,_,hh,?_⟩
     ·have:p.1∈iQ.map (·.1):=aH.2 ⟨p,hp,rfl⟩;rw [LF] at this;obtain⟨q,hq,he⟩:=aH.1 this;rw [<- he];exact g0.2.1 q hq
     ·have U:(iQ.map fun p=>p.1.den E.ρ)=(iQ.map (·.1)).map fun x=>x.den E.ρ:=by rw [am7]; rfl
      rw [U,LF,am7];exact g0.2.2
     ·rw [xA bK j en _ q3];exact eR.set (VR.keep kp _ _ hx) hv g0.1 (g2.keep kp fun _ _=>hk _ _) q3 q5
end
section
variable {P:Program} {E:En} {w:World}
theorem XT [bH] {tt:TT} (cI:eC P tt) {H:Hp} (r:bO E H w) {t e k:Nat} {i ie:TI} {k1 k2:IntKind} (hi:tt t=some i) (hk:i.kind= .slice e) (kO:tt e=some ie) (hz0:ie.zero.length=ie.size) (w5:0<ie.size) (rz:ie.bytes≠0) (Ei:ie.bytes*k<=140737488355328) (jT:0<k) :
 ∃x w' E',(Instr.makeSlice t (.int k1 k) (.int k2 k)).run P w= .ok x w'/\eU E H w E' (H.new (.cells (dQ ie.zero k) e)) w'/\bO E' (H.new (.cells (dQ ie.zero k) e)) w'/\VR E' w'.heap (.slice H.fresh 0 k (.rest ie.size)) x:=by
 have fP:=cI t i hi;have Yl:=cI e ie kO;obtain⟨inf,z,g1,g2,g3,g4,g5⟩:=v8 Yl;have hz:=eX (E:=E) (h:=w.heap) g5;have wa:z.cells.size=ie.size:=by have:=hz.1.length; simp only [bo] at this; omega
 have hkb:k<=140737488355328:=by refine bn ?_ Ei;exact Nat.le_mul_of_pos_left _ J
 have wn:IntKind.i64.wrap (k:Int)=(k:Int):=by rw [<- kr]; simp only [rZ]; rw [ag (by constructor<;>omega)]
 have ai: ∀(q:IntKind) (x:Int) (w:World),(asInt (Value.int q x)).run P w= .ok x w:=fun _ _ _=>rfl
 have fJ:z.cells.toList≠[]:=by
  intro hx;have I6:z.cells.size=0:=by have:=congrArg List.length hx; simpa using this
  omega
 have hzz:=uw z.cells fJ k;rw [wa] at hzz;obtain⟨gx,e1⟩ : ∃gx:Array Value,((Array.range (k*inf.size)).map (z.cells[·% z.cells.size]!))=gx:=⟨_,rfl⟩
 have e1':gx.toList=dQ z.cells.toList k:=by
  grind
 have e2:ct E w.heap (dQ ie.zero k) gx.toList:=by rw [e1']; exact lV hz.1 k
 have e3: ∀u∈gx.toList,u.oneCell'=true:=by rw [e1']; intro u hu; exact hz.2 u (lU hu)
 have gT:gx.size=k*ie.size:=by rw [<- bo,e1',iU,bo,wa]
 refine⟨.slice (some ⟨w.heap.size,0,none⟩) k k,{ w with heap:=w.heap.push (.cells gx e) },E.ext H.fresh (w.heap.size,0) gx.size,?_,?_⟩
 ·have t1: ¬((k:Int)<0):=J
  have t2: ¬((inf.bytes:Int)*(k:Int) > 2 ^ 48):=by
   grind
  have t4: ¬((k:Int) > (k:Int)):=J
  have t5:(askRoom (k*inf.bytes)).run P w= .ok () w:=by
   have: ¬(k*inf.bytes > roomBytes):=by
    unfold roomBytes
    grind
   unfold askRoom;rw [af this];rfl
  have t6:(k:Int).toNat=k:=rfl
  have h0: ¬(k*inf.size=0):=by rw [g2];have:=anY jT w5;omega
  simp only [Instr.makeSlice,Sem.run_bind,run_underlying (fg fP hk),Result.andThen_ok,ai,sizeOf,typeInfo,zeroValue,run_program,g1,g4,Sem.run_pure,newRow,Sem.run_ite,wn,t1,t2,t4,t6,h0,decide_false,an8,aP,if_false];rw [t5,Result.andThen_ok,e1];rfl
 ·obtain⟨s1,s2⟩:=iM r gx 0 0 e e2 e3 (fun i u hu=>by rw [<- bw]; exact hu) J (w':={ w with heap:=w.heap.push (.cells gx e) }) rfl ⟨rfl,rfl,rfl⟩;refine⟨s1,s2,?_⟩;simp only [VR];refine⟨En.gB _ _ _ _,⟨w.heap.size,0,none⟩,k,rfl,au _,?_⟩;simp only [eD,En.ext_θ_new,En.ext_κ_new]
  grind
theorem OO [bH] {tt:TT} (cI:eC P tt) {s s':St} (r:bO E s.h w) (hp:bV E.ρ s.pc) {t:Nat} {l c v:W} {lu cu:Value} (Y:VR E w.heap l lu) (hc:VR E w.heap c cu) (h:(Jx tt t l c s).leaf E.ρ=some (v,s')) :
 s'.bF=s.bF/\bV E.ρ s'.pc/\∃x w' E',(Instr.makeSlice t lu cu).run P w= .ok x w'/\eU E s.h w E' s'.h w'/\bO E' s'.h w'/\VR E' w'.heap v x:=by
 unfold Jx at h;split at h
 ·rename_i k n;split at h
  ·rename_i k2 n2;split at h
   ·simp [T.leaf] at h
   ·rename_i hnn;have hnn:=cG _ _ hnn;subst hnn;simp only [VR] at Y hc;subst Y hc;split at h
    ·simp [T.leaf] at h
    ·rename_i i hi;split at h
     ·simp [T.leaf] at h
     ·rename_i o ho;split at h
      ·rename_i e hk;split at h
       ·simp [T.leaf] at h
       ·rename_i ie kO;split at h
        ·simp [T.leaf] at h
        ·rename_i z hz;split at h
         ·rename_i jf;obtain⟨lr,w5,rz,wa⟩:=jf;obtain⟨fI,fu,U⟩:=cC hp h;split at U
          ·simp [T.leaf] at U
          ·rename_i t1;obtain⟨jG,jy,Z⟩:=cC (s:={ s with pc:=fI }) fu U;split at Z
           ·rename_i t2;split at Z
            ·rename_i v0 h0 hm;have:=bD Z;simp only [ak] at this;obtain⟨rfl,rfl⟩:=this;rw [iq,beq_iff_eq] at t2;simp only [V.den] at t2;rw [t2];obtain⟨x,w',E',q1,q2,q3,q4⟩:=vm (P:=P) cI r (lu:=.int k 0) (cu:=.int k2 0) (by simp only [VR,V.den]) (by simp only [VR,V.den]) hm
             grind
            ·simp [T.leaf] at Z
           ·rename_i t2;obtain⟨U4,I8,h3⟩:=cC (s:={ s with pc:=jG }) jy Z;split at h3
            ·rename_i t3;have:=bD h3;simp only [ak] at this;obtain⟨rfl,rfl⟩:=this;rw [dR,decide_eq_false_iff_not] at t1;rw [iq,beq_eq_false_iff_ne] at t2;rw [dR,decide_eq_true_eq] at t3;simp only [V.den] at t1 t2 t3;obtain⟨m,hm⟩ : ∃m:Nat,n.den E.ρ=(m:Int):=⟨(n.den E.ρ).toNat,J⟩;rw [hm] at t2 t3 ⊢;have jT:0<m:=J
             have Ei:ie.bytes*m<=140737488355328:=by
              unfold qU at t3
              have U:m<=140737488355328 / ie.bytes:=by
               grind
              exact bn (Nat.mul_le_mul_left _ U) (Nat.mul_div_le _ _)
             obtain⟨x,w',E',q1,q2,q3,q4⟩:=XT (P:=P) (k1:=k) (k2:=k2) cI r hi hk kO wa w5 rz Ei jT;have hρ:=q2.ρ
             have hd:dec ((V.op .rep n z).den E'.ρ)=dL (List.replicate m (dec (z.den E'.ρ))):=by
              have:n.den E'.ρ=(m:Int):=by rw [hρ]; exact hm
              simp only [V.den,e9.den,bB,this,bd]
             have hlen:(dec ((V.op .rep n z).den E'.ρ)).l.length=m:=by rw [hd,bJ,ani]
             have hwz:oH (rowOf o) (dec (z.den E'.ρ)):=tC hz
             have BQ:(cK E'.ρ (.op .rep n z) o []).length=(dQ ie.zero m).length:=by unfold cK;rw [cD (j6 _),hlen,iU,wa,lr]
             have afr: ∀(q:Nat) (us:List Value),ct E' w'.heap (dQ ie.zero q) us->ct E' w'.heap (bE E'.ρ (rowOf o) [] (List.replicate q (dec (z.den E'.ρ))) 0) us:=by
              intro q
              induction q with
              |zero=>intro us h; exact h
              |succ q ih=> intro us h;simp only [dQ] at h;obtain⟨us1,us2,rfl,a,b⟩:=ct.split h;simp only [aoz,bE,dW];rw [kx _ 1 0];refine ct.append ?_ (ih _ b);rw [fA];simp only [V.den,bB];exact tD a hz
             have r2:=CL (e1:=.op .rep n z) (t:=o) q3 ⟨by rw [hd,bJ],fun d uu=>by
              rw [hd,bJ] at uu;rw [aoR uu]
              exact hwz,fun hq=>by rw [hq] at hlen; simp at hlen; omega⟩ BQ (fun us hu=>by
              unfold cK;rw [hd,bJ]
              exact afr m us hu)
             refine⟨rfl,I8,x,w',E',q1,q2.right (vS rfl rfl fun _=>rfl),r2,?_⟩;simp only [VR] at q4 ⊢;obtain⟨p1,a,cap,p2,p3,p4⟩:=q4;refine⟨p1,m,a,cap,by rw [cm,hlen],p2,p3,?_⟩
             grind
            ·simp [T.leaf] at h3
         ·simp [T.leaf] at h
      ·simp [T.leaf] at h
  ·simp [T.leaf] at h
 ·simp [T.leaf] at h
end
theorem J7 {α β:Type} (f:α->β) (xs:Array α):xs.map f=(xs.toList.map f).toArray:=by
 grind
def lI (P:Program) (R:Value->World->Prop):Result Next->Prop
 | .ok (.value u) w'=>R u w'
 | .ok (.enter f args) w'=>Calls P f args w' fun e w''=> ∃u,e= .returned u/\R u w''
 |_=>False
def jD (P:Program) (g:FuncId) (vals:Array Value) (w:World) (R:Value->World->Prop):Prop:=lI P R ((callFunc g vals).run P w)
def ik [bH] (P:Program) (g:FuncId) (f:List W->St->T (W×St)):Prop:=
 ∀(args:List W) (s:St) (E:En) (w:World) (vals:List Value) (v:W) (s':St),bO E s.h w->ct E w.heap args vals->bV E.ρ s.pc->(f args s).leaf E.ρ=some (v,s')->
  s'.bF=s.bF/\bV E.ρ s'.pc/\jD P g vals.toArray w (MQ E s w v s')
theorem zd {E:En} {h:Array Obj} {k:Nat} {e:V} {i:Nat} (he:e.den E.ρ=(i:Int)): ∀(ks:List IntKind) (j:Nat),
 ct E h (uV k e ks j) ((ks.zipIdx j).map fun p=> .int p.1 (E.ρ (1000+i*64+(k*8+p.2))))
 |[],j=>by simp [uV,ct]
 |kd::ks,j=>by simp only [uV,List.zipIdx_cons,aw];rw [bP];refine⟨_,_,rfl,?_,zd he ks (j+1)⟩;simp only [VR,V.den,he,bd]
theorem OT {P:Program} {E:En} {w:World} {tt:TT} (cI:eC P tt) {pc:List (SB×Bool)} (hp:bV E.ρ pc) {t k:Nat} {ks:List IntKind} {ix v:W} {u ui:Value} (hx:VR E w.heap (.v7 k ks) u) (zo:VR E w.heap ix ui)
 (h:Jy tt pc t k ks ix=some v): ∃r,(Instr.indexAt t u ui).run P w= .ok r w/\VR E w.heap v r:=by
 unfold Jy at h;split at h
 ·rename_i kd e;split at h
  ·rename_i ti fP;split at h
   ·rename_i el hk;have hu:=fg (cI t ti fP) hk;split at h
    ·rename_i s hs;simp only [iz,aQ] at hs;obtain⟨ie,kO,rfl⟩:=hs;split at h
     ·rename_i hc;split at h
      ·rename_i U Z;simp at h;subst h;have U:=gD hp U;have Z:=gD hp Z;rw [dR,decide_eq_false_iff_not] at U;rw [dR,decide_eq_true_eq] at Z;simp only [V.den,anB] at U Z;simp only [VR] at hx zo;subst zo;rcases hx with ⟨⟨x,cap,rfl⟩,h0⟩|⟨b,o,n,cap,rfl,g1,g2,g3,g4⟩
       ·omega
       ·obtain⟨i,hi⟩ : ∃i:Nat,e.den E.ρ=(i:Int):=⟨(e.den E.ρ).toNat,J⟩;have u6:i<n:=J
        refine⟨.pointer (some ⟨b,o+i*ie.size,none⟩),?_,?_⟩
        ·rw [hi];simp [Instr.indexAt,asIntOf,run_underlying hu,eA (cI el ie kO),u6,fb]
        ·simp only [VR];refine⟨b,_,_,rfl,g3,zd hi ks 0,?_,?_⟩
         ·intro j u hj
          grind
         ·intro u hu';rw [aH] at hu';obtain⟨p,_,rfl⟩:=hu';rfl
      grind
     grind
    grind
   grind
  grind
 grind
def qOp (q:Bool):BinOp:=match q with
 |true=> .quo
 |false=> .rem
def W_ (q:Bool) (k:IntKind) (x y:Int):Int:=match q with
 |true=>k.wrap (x.tdiv y)
 |false=>x.tmod y
theorem V? {E:En} {s s':St} {q:Bool} {k:IntKind} {e d:V} {v:W} (hp:bV E.ρ s.pc) (h:(aeW s q k e d).leaf E.ρ=some (v,s')) :
 s'.bF=s.bF/\s'.h=s.h/\bV E.ρ s'.pc/\d.den E.ρ≠0/\∀h,VR E h v (.int k (W_ q k (e.den E.ρ) (d.den E.ρ))):=by
 unfold aeW at h;obtain⟨ec,fB,h3⟩:=cC hp h;rw [gG] at h3;split at h3
 ·grind [T.leaf]
 ·rename_i he;simp only [T.leaf,ah,ak] at h3;obtain⟨rfl,rfl⟩:=h3;simp only [V.den,beq_eq_false_iff_ne,ne_eq] at he;exact⟨rfl,rfl,fB,he,fun h=>by cases q<;>simp only [VR,V.den,W_]⟩
theorem Tz {E:En} {h:Array Obj} {op:BinOp} {a b:W} {q:Bool} {k:IntKind} {e d:V} (hr:NU op a b=some (q,k,e,d)) {u u':Value} (ha:VR E h a u) (hb:VR E h b u') :
 op=qOp q/\u= .int k (e.den E.ρ)/\u'= .int k (d.den E.ρ):=by
 unfold NU at hr;split at hr
 ·rename_i q' hq
  have w6:op=qOp q':=by split at hq<;>simp only [ah,reduceCtorEq] at hq<;>subst hq<;>rfl
  cases a with
  |int k1 e1=>
   cases b with
   |int k2 e2=>
    simp only at hr;split at hr
    ·simp at hr
    ·split at hr
     ·rename_i hc;simp only [ah,ak] at hr;obtain⟨rfl,rfl,rfl,rfl⟩:=hr;simp only [VR] at ha hb;exact⟨w6,ha,by rw [hb,hc]⟩
     ·simp at hr
   |_=>simp at hr
  |_=>simp at hr
 ·simp at hr
theorem F5 {E:En} {Yq:Array Obj} {s s':St} {h:Option W} {hh:Option Value} {v:W} {k:Option W->St->T (W×St)} (hp:bV E.ρ s.pc) (ho:gn E Yq h hh) (H:(H9 s h k).leaf E.ρ=some (v,s')) :
 ∃ec h',bV E.ρ ec/\gn E Yq h' hh/\(k h' { s with pc:=ec }).leaf E.ρ=some (v,s'):=by
 unfold H9 at H;split at H
 ·rename_i e;obtain⟨ec,fB,h3⟩:=cC hp H;rw [gG] at h3;split at h3
  ·rename_i he;simp only [V.den,beq_iff_eq] at he;obtain⟨u,rfl,hu⟩:=ho;simp only [VR] at hu;refine⟨ec,some (.int .i64 (.lit 0)),fB,?_,h3⟩;exact⟨u,rfl,by simp only [VR,V.den]; rw [hu,he]⟩
  ·simp [T.leaf] at h3
 ·exact⟨s.pc,_,hp,ho,H⟩
def im [bH] (P:Program) (call:eu):Prop:= ∀g,ik P g (call g)
theorem oS.next {P:Program} {o:Oper} {a:Act} {w:World} {R:Value->World->Prop} (h:lI P R ((execOp a.eval o).run P w)):oS P o a w R:=by
 intro K Q hk;unfold Oper.wp;generalize (execOp a.eval o).run P w=r at h
 cases r with
 |halt x w'=>exact h.elim
 |ok n w'=>
  cases n<;>first
   |exact h.elim
   |exact hk _ _ h
   |(exact Calls.mono h fun e w'' ⟨u,he,hr⟩=>by subst he; exact hk _ _ hr)
theorem Fp {tt:TT} {t n:Nat} {ix:W} {e:V} (h:SF tt t ix=some (n,e)): ∃k ti el ie,ix= .int k e/\tt t=some ti/\ti.kind= .array n el/\tt el=some ie/\ie.size=1/\ie.agg=false:=by
 unfold SF at h;split at h
 all_goals grind
section
variable {P:Program} {E:En} {w:World} {s s':St} {o:Oper} {a:Act} {v:W}
theorem JG [bH] {tt:TT} (cI:eC P tt) (r:bO E s.h w) (hp:bV E.ρ s.pc) {b:Builtin} {ts:List Nat} {args:List W} {vals:List Value} (hv:ct E w.heap args vals) (ty:Nat) (cs:Array Bool)
 (h:(wu tt s b ts args).leaf E.ρ=some (v,s')):s'.bF=s.bF/\bV E.ρ s'.pc/\∃u w',(builtin b ts.toArray ty cs vals.toArray).run P w= .ok (.value u) w'/\MQ E s w v s' u w':=by
 unfold wu at h;split at h
 ·rename_i t x;obtain⟨e1,rfl⟩:=gK h;rw [bP] at hv;obtain⟨u,vs,rfl,hx,mP⟩:=hv;rw [fQ] at mP;subst mP;obtain⟨y,U,Z⟩:=Y0 (ty:=ty) cI r hx e1;exact⟨rfl,hp,y,w,by simp [builtin,U],E,eU.refl _ _ _,r,Z⟩
 ·rename_i t t2 id lo n t' y;rw [bP] at hv;obtain⟨u,vs,rfl,hx,mP⟩:=hv;rw [bP] at mP;obtain⟨u2,vs,rfl,hy,Hd⟩:=mP;rw [fQ] at Hd;subst Hd;split at h
  ·rename_i hz;obtain⟨q1,q2,z,w',E',U,Z,h3,h4⟩:=Me (ty:=ty) cI r hp hz hx hy h;exact⟨q1,q2,z,w',by simp [builtin,U],E',Z,h3,h4⟩
  grind [T.leaf]
 ·rename_i t t2 x y _;rw [bP] at hv;obtain⟨u,vs,rfl,hx,mP⟩:=hv;rw [bP] at mP;obtain⟨u2,vs,rfl,hy,Hd⟩:=mP;rw [fQ] at Hd;subst Hd;split at h
  ·rename_i aau;obtain⟨q1,q2,z,w',E',U,Z,h3,h4⟩:=JI (ty:=ty) cI r hp hx hy (fun hd=>by rw [hd,an8] at aau; exact Lt hx aau) h;exact⟨q1,q2,z,w',by simp [builtin,U],E',Z,h3,h4⟩
  obtain⟨H,e1,rfl⟩:=pj h;obtain⟨z,w',E',U,Z,h3,h4⟩:=Md (ty:=ty) cI r hx hy e1;exact⟨rfl,hp,z,w',by simp [builtin,U],E',Z,h3,h4⟩
 ·rename_i t ts' m k;rw [bP] at hv;obtain⟨u,vs,rfl,hx,mP⟩:=hv;rw [bP] at mP;obtain⟨u2,vs,rfl,hy,Hd⟩:=mP;rw [fQ] at Hd;subst Hd;split at h
  ·rename_i id e t' mQ
   obtain⟨q1,q2,rfl,w',U,Z,h3⟩:=UC (ts:=ts') cI r hx hy mQ h ty;exact⟨q1,by rw [q2]; exact hp,.tuple #[],w',by simp [builtin,U],E,Z,h3,by simp only [W.undef,VR,ct]; exact⟨[],rfl,rfl⟩⟩
  obtain⟨ec,fB,h⟩:=qk hp h;obtain⟨H,e1,rfl,rfl⟩:=yH h;obtain⟨w',U,Z,h3⟩:=Mc (ts:=ts') cI fB r hx hy e1 ty;exact⟨rfl,fB,.tuple #[],w',by simp [builtin,U],E,Z,h3,by simp only [W.undef,VR,ct]; exact⟨[],rfl,rfl⟩⟩
 ·rename_i t id n t';rw [bP] at hv;obtain⟨u,vs,rfl,hx,mP⟩:=hv;rw [fQ] at mP;subst mP;obtain⟨q1,q2,rfl,w',E',U,Z,h3⟩:=BY (ty:=ty) cI r hp (PN hx) h;exact⟨q1,q2,.tuple #[],w',by simp [builtin,U],E',Z,h3,by simp only [W.undef,VR,ct]; exact⟨[],rfl,rfl⟩⟩
 ·rename_i t id lo n t';rw [bP] at hv;obtain⟨u,vs,rfl,hx,mP⟩:=hv;rw [fQ] at mP;subst mP;obtain⟨q1,q2,rfl,w',E',U,Z,h3⟩:=BY (ty:=ty) cI r hp hx h;exact⟨q1,q2,.tuple #[],w',by simp [builtin,U],E',Z,h3,by simp only [W.undef,VR,ct]; exact⟨[],rfl,rfl⟩⟩
 ·rename_i t x _ _;obtain⟨H,e1,rfl,rfl⟩:=yH h;rw [bP] at hv;obtain⟨u,vs,rfl,hx,mP⟩:=hv;rw [fQ] at mP;subst mP;obtain⟨w',U,Z,h3⟩:=O0 (ty:=ty) cI r hx e1;exact⟨rfl,hp,.tuple #[],w',by simp [builtin,U],E,Z,h3,by simp only [W.undef,VR,ct]; exact⟨[],rfl,rfl⟩⟩
 ·rename_i k e xs;rw [bP] at hv;obtain⟨u,vs,rfl,hx,mP⟩:=hv;simp only [VR] at hx;subst hx;obtain⟨q1,q2,q3,u,q4,q5⟩:=nq (P:=P) (w:=w) hp mP h;refine⟨q2,q3,u,w,?_,E,by rw [q1]; exact eU.refl _ _ _,by rw [q1]; exact r,q5⟩;simp only [aP,if_false] at q4;simp [builtin,Builtin.min_,q4]
 ·rename_i k e xs;rw [bP] at hv;obtain⟨u,vs,rfl,hx,mP⟩:=hv;simp only [VR] at hx;subst hx;obtain⟨q1,q2,q3,u,q4,q5⟩:=nq (P:=P) (w:=w) hp mP h;refine⟨q2,q3,u,w,?_,E,by rw [q1]; exact eU.refl _ _ _,by rw [q1]; exact r,q5⟩;simp only [if_true] at q4;simp [builtin,Builtin.max_,q4]
 grind [T.leaf]
theorem UD [bH] {tt:TT} (cI:eC P tt) {call:eu} (hc:im P call) (r:bO E s.h w) (sr:SR E w.heap s.bF a) (hp:bV E.ρ s.pc) {c:Call} (ho:o.op= .call c)
 (h:(JF tt call s c).leaf E.ρ=some (v,s')):jN P E s o a w v s':=by
 unfold JF at h;split at h
 ·grind [T.leaf]
 ·rename_i args acC;have hv:=Jo sr acC;have ajz:c.args.map a.eval=(c.args.toList.map a.eval).toArray:=J7 _ _;split at h
  ·rename_i b afC;obtain⟨q1,q2,u,w',q3,q4⟩:=JG cI r hp hv o.type (c.args.map fun| .const _=>true|_=>false) h;refine⟨q1,q2,oS.value ?_ q4⟩;simp only [execOp,ho,resolve,afC,Sem.run_bind,Sem.run_pure,Result.andThen_ok,invoke,ajz];exact q3
  ·rename_i f afC;split at h
   ·rename_i g fs cs hf;have hfv:=gj sr hf;simp only [VR] at hfv;obtain⟨us,ws,he,U,Z⟩:=hfv;obtain⟨q1,q2,q3⟩:=hc g _ s E w _ v s' r ((U.append hv).append Z) hp h;refine⟨q1,q2,oS.next ?_⟩;unfold jD at q3;simp only [execOp,ho,resolve,afC,Sem.run_bind,he,Deferred.ofValue,Sem.run_pure,Result.andThen_ok,invoke,ajz]
    grind
   grind [T.leaf]
  grind [T.leaf]
theorem o! [bH] {α:Type} {E:En} {h:Array Obj} {v:W} {u:Value} {s:St} {k:W->St->T α} {r:α} (hp:bV E.ρ s.pc) (hv:VR E h v u) (Y:(o? v s k).leaf E.ρ=some r) :
 ∃v' ec,bV E.ρ ec/\VR E h v' u/\(k v' { s with pc:=ec }).leaf E.ρ=some r:=by
 unfold o? at Y;split at Y
 ·split at Y
  ·exact⟨_,s.pc,hp,hv,Y⟩
  ·obtain⟨fI,fu,U⟩:=cC hp Y;refine⟨_,fI,fu,?_,U⟩;simp only [VR,SB.den] at *;exact hv
 ·exact⟨_,s.pc,hp,hv,Y⟩
theorem RX [bH] {tt:TT} (cI:eC P tt) {call:eu} (hc:im P call) (r:bO E s.h w) (sr:SR E w.heap s.bF a) (hp:bV E.ρ s.pc) (h:(Jw tt call s o.op).leaf E.ρ=some (v,s')):jN P E s o a w v s':=by
 obtain⟨dst,op,type,pos,after,guard⟩:=o;simp only at h;cases op<;>simp only [Jw] at h<;>first |(simp [T.leaf] at h; done)|skip
 case move x=>
  obtain⟨u,U,Z⟩:=gA sr h;have:=bD Z;simp only [ak] at this;obtain⟨rfl,rfl⟩:=this;exact jN.pure hp r (u:=a.eval x) rfl U
 case assign x=>
  obtain⟨u,U,Z⟩:=gA sr h;have:=bD Z;simp only [ak] at this;obtain⟨rfl,rfl⟩:=this;exact jN.pure hp r (u:=a.eval x) rfl U
 case pick c x y=>
  obtain⟨cv,U,Z⟩:=gA sr h;split at Z
  ·rename_i cb;obtain⟨ec,fB,h3⟩:=cC hp Z;simp only [VR] at U;cases RJ:cb.den E.ρ<;>rw [RJ] at U h3
   ·simp only [aP,if_false] at h3;obtain⟨u,h4,h5⟩:=gA (s:={ s with pc:=ec }) sr h3;have:=bD h5;simp only [ak] at this;obtain⟨rfl,rfl⟩:=this;exact⟨rfl,fB,oS.value (u:=a.eval y) (by simp [execOp,U,asBool]) ⟨E,eU.refl _ _ _,r,h4⟩⟩
   ·simp only [if_true] at h3;obtain⟨u,h4,h5⟩:=gA (s:={ s with pc:=ec }) sr h3;have:=bD h5;simp only [ak] at this;obtain⟨rfl,rfl⟩:=this;exact⟨rfl,fB,oS.value (u:=a.eval x) (by simp [execOp,U,asBool]) ⟨E,eU.refl _ _ _,r,h4⟩⟩
  ·simp [T.leaf] at Z
 case alloc t=>
  split at h
  ·rename_i i hi;have:=bD h;simp only [ak] at this;obtain⟨rfl,rfl⟩:=this;obtain⟨inf,z,g1,g2,g3,g4,g5⟩:=v8 (cI t i hi);have hz:=eX (E:=E) (h:=w.heap) g5;obtain⟨s1,s2⟩:=iM r z.cells 0 0 t hz.1 hz.2 (fun i u hu=>by rw [<- bw]; exact hu) J (w':={ w with heap:=w.heap.push (.cells z.cells t) }) rfl ⟨rfl,rfl,rfl⟩;exact jN.heap hp (u:=.pointer (some ⟨w.heap.size,0,none⟩)) (by simp [execOp,Instr.alloc,zeroValue,typeInfo,g1,g4,newVar,newRow]) s1 s2 (yK r _ _ 0)
  ·simp [T.leaf] at h
 case box t x=>
  obtain⟨u,U,Z⟩:=gA sr h;split at Z
  ·rename_i ug;have:=bD Z;simp only [ak] at this;obtain⟨rfl,rfl⟩:=this;have MY:=U.cells ug;obtain⟨s1,s2⟩:=iM r (a.eval x).cells 0 0 t MY (MY.rN ug) (fun i u hu=>by rw [<- bw]; exact hu) J (w':={ w with heap:=w.heap.push (.cells (a.eval x).cells t) }) rfl ⟨rfl,rfl,rfl⟩;exact jN.heap hp (u:=.pointer (some ⟨w.heap.size,0,none⟩)) (by simp [execOp,Instr.box,newVar,newRow]) s1 s2 (yK r _ _ 0)
  ·simp [T.leaf] at Z
 case build t parts=>
  split at h
  ·rename_i ps hps;obtain⟨e1,rfl⟩:=gK h;have hpr:=xS sr hps;obtain⟨x,U,Z⟩:=O2 (w:=w) (ps:=parts.map fun p=>(p.1,a.eval p.2)) cI (by simpa using hpr) e1;exact jN.pure hp r (u:=x) (by simp [execOp,U]) Z
  ·simp [T.leaf] at h
 case buildSlice t len parts=>
  split at h
  ·rename_i ps hps;obtain⟨H,e1,rfl⟩:=pj h;have hpr:=xS sr hps;obtain⟨x,w',E',U,Z,h3,h4⟩:=Cl (ps:=parts.map fun p=>(p.1,a.eval p.2)) cI r (by simpa using hpr) e1;exact jN.heap hp (u:=x) (by simp [execOp,U]) Z h3 h4
  ·simp [T.leaf] at h
 case makeSlice t l c=>
  obtain⟨u,U,Z⟩:=gA sr h;split at Z
  ·rename_i cv hc;split at Z
   ·rename_i q hq;obtain⟨H,e1,rfl⟩:=pj Z;simp only [ah] at e1;subst e1;obtain⟨x,w',E',g1,g2,g3,g4⟩:=vm cI r U (gj sr hc) hq;exact jN.heap hp (u:=x) (by simp [execOp,g1]) g2 g3 g4
   ·obtain⟨q1,q2,x,w',E',g1,g2,g3,g4⟩:=OO cI r hp U (gj sr hc) Z;exact⟨q1,q2,oS.value (by simp [execOp,g1]) ⟨E',g2,g3,g4⟩⟩
  ·simp [T.leaf] at Z
 case insert t m k x=>
  obtain⟨u,U,Z⟩:=gA sr h;split at Z
  ·rename_i kv xv hk hx;split at Z
   ·obtain⟨q1,q2,rfl,w',E',g1,g2,g3⟩:=HC (P:=P) cI r hp U (gj sr hk) (gj sr hx) Z;exact⟨q1,q2,oS.skip (by simp [execOp,g1]) ⟨E',g2,g3,jY⟩⟩
   split at Z
   ·rename_i mQ
    obtain⟨q1,q2,rfl,w',g1,g2,g3⟩:=BX (P:=P) cI r hp U (gj sr hk) (gj sr hx) mQ Z;exact⟨q1,q2,oS.skip (by simp [execOp,g1]) ⟨E,g2,g3,jY⟩⟩
   obtain⟨ec,fB,Z⟩:=qk hp Z;obtain⟨H,e1,rfl,rfl⟩:=yH Z;obtain⟨w',g1,g2,g3⟩:=vk cI fB r U (gj sr hk) (gj sr hx) e1;exact⟨rfl,fB,oS.skip (by simp [execOp,g1]) ⟨E,g2,g3,jY⟩⟩
  ·simp [T.leaf] at Z
 case load t x=>
  obtain⟨u,U,Z⟩:=gA sr h;split at Z
  ·obtain⟨q1,q2,q3,y,b,off,g1,g2,g3⟩:=OS cI r hp U Z;exact⟨q1,q3,oS.value (u:=y) (by simp [execOp,Instr.loadAt,g1,Instr.sureAddr,g2]) ⟨E,by rw [q2]; exact eU.refl _ _ _,by rw [q2]; exact r,g3⟩⟩
  obtain⟨e1,rfl⟩:=gK Z;obtain⟨y,b,off,g1,g2,g3⟩:=A7 cI r U e1;exact jN.pure hp r (u:=y) (by simp [execOp,Instr.loadAt,g1,Instr.sureAddr,g2]) g3
 case store t x y=>
  obtain⟨u,U,Z⟩:=gA sr h;split at Z
  ·rename_i yv hy;obtain⟨yv',ec,fB,Oj,Z⟩:=o! hp (gj sr hy) Z;split at Z
   ·obtain⟨q1,q2,rfl,w',E',g1,g2,g3⟩:=L7 cI (s:={ s with pc:=ec }) r fB U Oj Z;exact⟨q1,q2,oS.skip (by simp [execOp,g1]) ⟨E',g2,g3,jY⟩⟩
   obtain⟨H,e1,rfl,rfl⟩:=yH Z;obtain⟨w',g1,g2,g3⟩:=OK cI r U Oj e1;exact⟨rfl,fB,oS.skip (by simp [execOp,g1]) ⟨E,g2,g3,jY⟩⟩
  ·simp [T.leaf] at Z
 case nilCheck x=>
  obtain⟨u,U,Z⟩:=gA sr h;split at Z
  ·have:=bD Z;simp only [ak] at this;obtain⟨rfl,rfl⟩:=this;have RO:=U;simp only [VR] at U;exact jN.pure hp r (u:=a.eval x) (by simp [execOp,U.1]) RO
  ·have:=bD Z;simp only [ak] at this;obtain⟨rfl,rfl⟩:=this;have RO:=U;simp only [VR] at U;obtain⟨b,off,us,hu,_⟩:=U;exact jN.pure hp r (u:=a.eval x) (by simp [execOp,hu]) RO
  ·have:=bD Z;simp only [ak] at this;obtain⟨rfl,rfl⟩:=this;have RO:=U;simp only [VR] at U;obtain⟨_,k,_,hu⟩:=U;exact jN.pure hp r (u:=a.eval x) (by simp [execOp,hu]) RO
  ·simp [T.leaf] at Z
 case binOp bop t x y yt=>
  obtain⟨u,U,Z⟩:=gA sr h;split at Z
  ·rename_i yv hy;have Oj:=gj sr hy;split at Z
   ·rename_i xs;simp only [VR] at U;obtain⟨us,BL,U⟩:=U;split at Z
    ·rename_i ys;simp only [VR] at Oj;obtain⟨vs,He,Oj⟩:=Oj;split at Z
     ·rename_i c U8;have:=bD Z;simp only [ak] at this;obtain⟨rfl,rfl⟩:=this;obtain⟨g1,g2,g3⟩:=EJ (w:=w) cI U Oj U8 .eql x y;exact jN.pure hp r (u:=.bool (c.den E.ρ)) (by simp [execOp,BL,He,g1,g2]) (by simp only [VR])
     ·simp [T.leaf] at Z
    ·rename_i ys;simp only [VR] at Oj;obtain⟨vs,He,Oj⟩:=Oj;split at Z
     ·rename_i c U8;have:=bD Z;simp only [ak] at this;obtain⟨rfl,rfl⟩:=this;obtain⟨g1,g2,g3⟩:=EJ (w:=w) cI U Oj U8 .neq x y;exact jN.pure hp r (u:=.bool (!(c.den E.ρ))) (by simp [execOp,BL,He,g1,g3]) (by simp only [VR,nh])
     ·simp [T.leaf] at Z
    ·simp [T.leaf] at Z
   ·split at Z
    ·rename_i e hna;obtain⟨q1,q2,q3,y',g1,g2,g3,g4⟩:=aaj (P:=P) (w:=w) cI hna U Oj hp Z;exact⟨q1,q3,oS.value (u:=y') (by simp [execOp,vp (P:=P) (w:=w) g3 g4,g1]) ⟨E,by rw [q2]; exact eU.refl _ _ _,by rw [q2]; exact r,g2⟩⟩
    split at Z
    ·rename_i qq k e d hrl;obtain⟨rfl,Ol,Rz⟩:=Tz hrl U Oj;obtain⟨q1,q2,q3,fJ,q4⟩:=V? hp Z;refine⟨q1,q3,oS.value (u:=.int k (W_ qq k (e.den E.ρ) (d.den E.ρ))) (w':=w) ?_ ⟨E,by rw [q2]; exact eU.refl _ _ _,by rw [q2]; exact r,q4 _⟩⟩;cases qq<;>simp [execOp,Ol,Rz,binOp,Op.intDiv,fJ,eqGuard,W_,qOp]
    split at Z
    ·rename_i x' y' hsp;obtain⟨q1,q2,q3,⟨y'',g1,g2⟩,g3,g4⟩:=Uw (P:=P) (w:=w) (t:=t) hp U Oj hsp Z;exact⟨q1,q3,oS.value (u:=y'') (by simp [execOp,vp (P:=P) (w:=w) g3 g4,g1]) ⟨E,by rw [q2]; exact eU.refl _ _ _,by rw [q2]; exact r,g2⟩⟩
    ·obtain⟨e1,rfl⟩:=gK Z;obtain⟨⟨y',g1,g2⟩,g3,g4⟩:=Y2 (w:=w) cI U Oj e1;exact jN.pure hp r (u:=y') (by simp [execOp,vp (P:=P) (w:=w) g3 g4,g1]) g2
  ·simp [T.leaf] at Z
 case unOp uop t x=>
  obtain⟨u,U,Z⟩:=gA sr h;obtain⟨e1,rfl⟩:=gK Z;obtain⟨y,g1,g2⟩:=aaN (P:=P) (w:=w) U e1;exact jN.pure hp r (u:=y) (by simp [execOp,g1]) g2
 case convert sT dT x=>
  obtain⟨u,U,Z⟩:=gA sr h;split at Z
  ·obtain⟨q1,q2,y,w',E',g1,g2,g3,g4⟩:=O1 (P:=P) cI r hp U Z;exact⟨q1,q2,oS.value (u:=y) (by simp [execOp,g1]) ⟨E',g2,g3,g4⟩⟩
  obtain⟨H,e1,rfl⟩:=pj Z;obtain⟨y,w',E',g1,g2,g3,g4⟩:=zO cI r U e1;exact jN.heap hp (u:=y) (by simp [execOp,g1]) g2 g3 g4
 case makeFunc fn fs cs=>
  split at h
  ·rename_i f c hf U7;have:=bD h;simp only [ak] at this;obtain⟨rfl,rfl⟩:=this;have U:=Jo sr hf;have Z:=Jo sr U7;refine jN.pure hp r (u:=.func fn (fs.map a.eval) (cs.map a.eval)) (by simp [execOp,Instr.makeFunc]) ?_;simp only [VR];have m1:fs.map a.eval=(fs.toList.map a.eval).toArray:=J7 _ _;have m2:cs.map a.eval=(cs.toList.map a.eval).toArray:=J7 _ _;exact⟨_,_,by rw [m1,m2],U,Z⟩
  ·simp [T.leaf] at h
 case makeMap t res=>
  split at h
  ·split at h
   ·rename_i m hm;split at h
    ·have:=bD h;simp only [ak] at this;obtain⟨rfl,rfl⟩:=this
     obtain⟨s1,s2⟩:=pr r (.map #[] 0) (.uc (.ei (.i 0)) (m-100) (YZ tt t) []) 0 (w':={ w with heap:=w.heap.push (.map #[] 0) }) rfl ⟨rfl,rfl,rfl⟩ (by
      simp only [OR,En.ext_θ_new]
      exact⟨⟨by simp [V.den,bB,D.l],ad,ad⟩,#[],0,ad,by simp [eR,V.den,bB,D.l]⟩)
     exact jN.heap hp (u:=.map (some w.heap.size)) (by simp [execOp,Instr.makeMap]) s1 s2 (by simp only [VR,En.ext_θ_new]; exact⟨trivial,En.gB _ _ _ _⟩)
    have:=bD h;simp only [ak] at this;obtain⟨rfl,rfl⟩:=this
    obtain⟨s1,s2⟩:=pr r (.map #[] 0) (.jS (.ei (.i 0)) m) 0 (w':={ w with heap:=w.heap.push (.map #[] 0) }) rfl ⟨rfl,rfl,rfl⟩ (by
     simp only [OR,En.ext_θ_new]
     exact⟨#[],0,ad,by simp [jV,V.den,bB,D.l]⟩)
    exact jN.heap hp (u:=.map (some w.heap.size)) (by simp [execOp,Instr.makeMap]) s1 s2 (by simp only [VR,En.ext_θ_new]; exact⟨trivial,En.gB _ _ _ _⟩)
   have:=bD h;simp only [ak] at this;obtain⟨rfl,rfl⟩:=this
   obtain⟨s1,s2⟩:=pr r (.map #[] 0) (.map [] 1) 0 (w':={ w with heap:=w.heap.push (.map #[] 0) }) rfl ⟨rfl,rfl,rfl⟩ (by
    simp only [OR,En.ext_θ_new]
    exact⟨#[],0,ad,by simp [eL],rfl,rfl⟩)
   exact jN.heap hp (u:=.map (some w.heap.size)) (by simp [execOp,Instr.makeMap]) s1 s2 (by simp only [VR,En.ext_θ_new]; exact⟨trivial,En.gB _ _ _ _⟩)
  ·simp [T.leaf] at h
 case slice t x lo hi mx=>
  obtain⟨u,U,Z⟩:=gA sr h;split at Z
  ·rename_i l hh m Y hhh hm;split at Z
   ·obtain⟨q1,q2,q3,y,g1,g2⟩:=OY (w:=w) cI hp U (eB sr Y) (eB sr hhh) (eB sr hm) Z;exact⟨q1,q3,oS.value (u:=y) (by simp [execOp,g1]) ⟨E,by rw [q2]; exact eU.refl _ _ _,by rw [q2]; exact r,g2⟩⟩
   ·obtain⟨q1,q2,q3,y,g1,g2⟩:=EA cI r hp (PN U) (eB sr Y) (eB sr hhh) (eB sr hm) Z;exact⟨q1,q3,oS.value (u:=y) (by simp [execOp,g1]) ⟨E,by rw [q2]; exact eU.refl _ _ _,by rw [q2]; exact r,g2⟩⟩
   ·obtain⟨q1,q2,q3,y,g1,g2⟩:=EA cI r hp U (eB sr Y) (eB sr hhh) (eB sr hm) Z;exact⟨q1,q3,oS.value (u:=y) (by simp [execOp,g1]) ⟨E,by rw [q2]; exact eU.refl _ _ _,by rw [q2]; exact r,g2⟩⟩
   ·obtain⟨q1,q2,q3,y,g1,g2⟩:=OH (w:=w) cI hp U (eB sr Y) (eB sr hhh) (eB sr hm) Z;exact⟨q1,q3,oS.value (u:=y) (by simp [execOp,g1]) ⟨E,by rw [q2]; exact eU.refl _ _ _,by rw [q2]; exact r,g2⟩⟩
   ·obtain⟨q1,q2,q3,y,g1,g2⟩:=OV (w:=w) cI hp U (eB sr Y) (eB sr hhh) (eB sr hm) Z;exact⟨q1,q3,oS.value (u:=y) (by simp [execOp,g1]) ⟨E,by rw [q2]; exact eU.refl _ _ _,by rw [q2]; exact r,g2⟩⟩
   ·obtain⟨ec,h',fB,yf,h3⟩:=F5 hp (eB sr hhh) Z;obtain⟨e1,rfl⟩:=gK h3;obtain⟨y,g1,g2⟩:=xR (w:=w) cI U (eB sr Y) yf (eB sr hm) e1;exact⟨rfl,fB,oS.value (u:=y) (by simp [execOp,g1]) ⟨E,eU.refl _ _ _,r,g2⟩⟩
   ·obtain⟨ec,h',fB,yf,h3⟩:=F5 hp (eB sr hhh) Z;obtain⟨e1,rfl⟩:=gK h3;obtain⟨y,g1,g2⟩:=xR (w:=w) cI U (eB sr Y) yf (eB sr hm) e1;exact⟨rfl,fB,oS.value (u:=y) (by simp [execOp,g1]) ⟨E,eU.refl _ _ _,r,g2⟩⟩
   split at Z
   ·rename_i v' e1;have:=bD Z;simp only [ak] at this;obtain⟨rfl,rfl⟩:=this;obtain⟨y,g1,g2⟩:=xR (w:=w) cI U (eB sr Y) (eB sr hhh) (eB sr hm) e1;exact jN.pure hp r (u:=y) (by simp [execOp,g1]) g2
   ·obtain⟨e1,rfl⟩:=gK Z;obtain⟨y,g1,g2⟩:=L8 (w:=w) cI r U (eB sr Y) (eB sr hhh) (eB sr hm) e1;exact jN.pure hp r (u:=y) (by simp [execOp,g1]) g2
  ·simp [T.leaf] at Z
 case fieldAddr t x f=>
  obtain⟨u,U,Z⟩:=gA sr h;obtain⟨e1,rfl⟩:=gK Z;obtain⟨y,g1,g2⟩:=EI (w:=w) cI U e1;exact jN.pure hp r (u:=y) (by simp [execOp,g1]) g2
 case field t x f=>
  obtain⟨u,U,Z⟩:=gA sr h;obtain⟨e1,rfl⟩:=gK Z;obtain⟨y,g1,g2⟩:=OU (w:=w) cI U e1;exact jN.pure hp r (u:=y) (by simp [execOp,g1]) g2
 case indexAddr t x i=>
  obtain⟨u,U,Z⟩:=gA sr h;split at Z
  ·rename_i iv hi;split at Z
   ·obtain⟨e1,rfl⟩:=gK Z;obtain⟨y,g1,g2⟩:=OT (w:=w) cI hp U (gj sr hi) e1;exact jN.pure hp r (u:=y) (by simp [execOp,g1]) g2
   ·obtain⟨q1,q2,q3,y,g1,g2⟩:=OZ (w:=w) cI hp U (gj sr hi) Z;exact⟨q1,q3,oS.value (u:=y) (by simp [execOp,g1]) ⟨E,by rw [q2]; exact eU.refl _ _ _,by rw [q2]; exact r,g2⟩⟩
   ·obtain⟨q1,q2,q3,y,g1,g2⟩:=OG (w:=w) cI hp U (gj sr hi) Z;exact⟨q1,q3,oS.value (u:=y) (by simp [execOp,g1]) ⟨E,by rw [q2]; exact eU.refl _ _ _,by rw [q2]; exact r,g2⟩⟩
   ·obtain⟨q1,q2,q3,y,g1,g2⟩:=OF (w:=w) cI hp U (gj sr hi) Z;exact⟨q1,q3,oS.value (u:=y) (by simp [execOp,g1]) ⟨E,by rw [q2]; exact eU.refl _ _ _,by rw [q2]; exact r,g2⟩⟩
   ·rename_i pid po;split at Z
    ·rename_i n e hb;split at Z
     ·rename_i ho;subst ho;obtain⟨kd,ti,el,ie,rfl,b1,b2,b3,b4,b5⟩:=Fp hb;obtain⟨ec,fB,t1,t2,h3⟩:=ny hp Z;have:=bD h3;simp only [ak] at this;obtain⟨rfl,rfl⟩:=this;have hiv:=gj sr hi;simp only [VR] at hiv;simp only [V.den] at t2;obtain⟨k,hk⟩ : ∃k:Nat,e.den E.ρ=(k:Int):=⟨(e.den E.ρ).toNat,J⟩;have ff:k<n:=by simp at t2; omega
      rw [hk] at hiv
      obtain⟨y,g1,g2⟩:=pM (P:=P) (w:=w) cI (t:=t) (ix:=.int kd (.lit (Int.ofNat k))) U (by simp only [VR,V.den]; exact hiv) (v:=.ptr pid (0+k*ie.size)) (by
       unfold n5;simp only [j9,b1,b2,iz,b3,br];rw [ag ff]
       rfl)
      refine⟨rfl,fB,oS.value (u:=y) (by simp [execOp,g1]) ⟨E,eU.refl _ _ _,r,?_⟩⟩;simp only [VR] at g2 ⊢;exact⟨g2.2,k,hk,by rw [g2.1,b4]; congr 3; omega⟩
     ·simp [T.leaf] at Z
    ·obtain⟨ix',ec,fB,zo,Z⟩:=Ae hp (gj sr hi) Z;obtain⟨e1,rfl⟩:=gK Z;obtain⟨y,g1,g2⟩:=pM (w:=w) cI U zo e1;exact⟨rfl,fB,oS.value (u:=y) (by simp [execOp,g1]) ⟨E,eU.refl _ _ _,r,g2⟩⟩
   ·obtain⟨ix',ec,fB,zo,Z⟩:=Ae hp (gj sr hi) Z;obtain⟨e1,rfl⟩:=gK Z;obtain⟨y,g1,g2⟩:=pM (w:=w) cI U zo e1;exact⟨rfl,fB,oS.value (u:=y) (by simp [execOp,g1]) ⟨E,eU.refl _ _ _,r,g2⟩⟩
  ·simp [T.leaf] at Z
 case index t x i=>
  obtain⟨u,U,Z⟩:=gA sr h;split at Z
  ·rename_i iv hi;split at Z
   ·obtain⟨q1,q2,q3,y,g1,g2⟩:=OI (w:=w) cI hp U (gj sr hi) Z;exact⟨q1,q3,oS.value (u:=y) (by simp [execOp,g1]) ⟨E,by rw [q2]; exact eU.refl _ _ _,by rw [q2]; exact r,g2⟩⟩
   ·rename_i cs;split at Z
    ·rename_i n e hb;split at Z
     ·rename_i hn;have hn:=aq hn;obtain⟨kd,ti,el,ie,rfl,b1,b2,b3,b4,b5⟩:=Fp hb;obtain⟨q1,q2,q3,k,kk,z,x',c1,c2,c3,rfl,c5⟩:=L4 hp Z;have hiv:=gj sr hi;simp only [VR] at hiv;rw [c1] at hiv;obtain⟨l,hd⟩:=Bc c3
      obtain⟨y,g1,g2⟩:=xT (P:=P) (w:=w) cI (t:=t) (ix:=.int kd (.lit (Int.ofNat k))) U (by simp only [VR,V.den]; exact hiv) (v:=.int kk (.lit z)) (by
       unfold zM;simp only [j9,b1,b2,b3];rw [ag J,b4,aob,hd]
       simp [partOf,b5])
      refine⟨q1,q3,oS.value (u:=y) (w':=w) (by simp [execOp,g1]) ⟨E,by rw [q2]; exact eU.refl _ _ _,by rw [q2]; exact r,?_⟩⟩;simp only [VR,V.den] at g2 ⊢;rw [g2,c5]
     ·simp [T.leaf] at Z
    ·obtain⟨ix',ec,fB,zo,Z⟩:=Ae hp (gj sr hi) Z;obtain⟨e1,rfl⟩:=gK Z;obtain⟨y,g1,g2⟩:=xT (w:=w) cI U zo e1;exact⟨rfl,fB,oS.value (u:=y) (by simp [execOp,g1]) ⟨E,eU.refl _ _ _,r,g2⟩⟩
   obtain⟨ix',ec,fB,zo,Z⟩:=Ae hp (gj sr hi) Z;obtain⟨e1,rfl⟩:=gK Z;obtain⟨y,g1,g2⟩:=xT (w:=w) cI U zo e1;exact⟨rfl,fB,oS.value (u:=y) (by simp [execOp,g1]) ⟨E,eU.refl _ _ _,r,g2⟩⟩
  ·simp [T.leaf] at Z
 case lookup t m k ok=>
  obtain⟨u,U,Z⟩:=gA sr h;split at Z
  ·rename_i kv hk;split at Z
   ·rename_i id e t' mQ
    obtain⟨q1,q2,q3,y,g1,g2⟩:=OQ (P:=P) cI r hp U (gj sr hk) mQ Z;exact⟨q1,q3,oS.value (u:=y) (by simp [execOp,g1]) ⟨E,by rw [q2]; exact eU.refl _ _ _,by rw [q2]; exact r,g2⟩⟩
   split at Z
   ·rename_i mQ
    obtain⟨q1,q2,q3,y,g1,g2⟩:=OP (P:=P) cI r hp U (gj sr hk) mQ Z;exact⟨q1,q3,oS.value (u:=y) (by simp [execOp,g1]) ⟨E,by rw [q2]; exact eU.refl _ _ _,by rw [q2]; exact r,g2⟩⟩
   obtain⟨ec,fB,Z⟩:=qk hp Z;obtain⟨e1,rfl⟩:=gK Z;obtain⟨y,g1,g2⟩:=Mb cI fB r U (gj sr hk) e1;exact⟨rfl,fB,oS.value (u:=y) (by simp [execOp,g1]) ⟨E,eU.refl _ _ _,r,g2⟩⟩
  ·simp [T.leaf] at Z
 case mapUpdate t m k x=>
  obtain⟨u,U,Z⟩:=gA sr h;split at Z
  ·rename_i kv xv hk hx;split at Z
   ·obtain⟨q1,q2,rfl,w',E',g1,g2,g3⟩:=HC (P:=P) cI r hp U (gj sr hk) (gj sr hx) Z;exact⟨q1,q2,oS.skip (by simp [execOp,g1]) ⟨E',g2,g3,jY⟩⟩
   split at Z
   ·rename_i mQ
    obtain⟨q1,q2,rfl,w',g1,g2,g3⟩:=BX (P:=P) cI r hp U (gj sr hk) (gj sr hx) mQ Z;exact⟨q1,q2,oS.skip (by simp [execOp,g1]) ⟨E,g2,g3,jY⟩⟩
   obtain⟨ec,fB,Z⟩:=qk hp Z;obtain⟨H,e1,rfl,rfl⟩:=yH Z;obtain⟨w',g1,g2,g3⟩:=vk cI fB r U (gj sr hk) (gj sr hx) e1;exact⟨rfl,fB,oS.skip (by simp [execOp,g1]) ⟨E,g2,g3,jY⟩⟩
  ·simp [T.leaf] at Z
 case range t x=>
  obtain⟨u,U,Z⟩:=gA sr h;obtain⟨H,e1,rfl⟩:=pj Z;obtain⟨y,w',E',g1,g2,g3,g4⟩:=OL cI r U e1;exact jN.heap hp (u:=y) (by simp [execOp,g1]) g2 g3 g4
 case next x isS=>
  obtain⟨u,U,Z⟩:=gA sr h;obtain⟨H,e1,rfl⟩:=pj Z;obtain⟨y,w',g1,g2,g3,g4⟩:=Uy (P:=P) r U e1 type;exact jN.heap hp (u:=y) (by simp [execOp,g1]) g2 g3 g4
 case entry x=>
  obtain⟨u,U,Z⟩:=gA sr h;obtain⟨e1,rfl⟩:=gK Z;obtain⟨y,g1,g2⟩:=OW (P:=P) r U e1;exact jN.pure hp r (u:=y) (by simp [execOp,g1]) g2
 case extract x i=>
  obtain⟨u,U,Z⟩:=gA sr h;split at Z
  ·rename_i vs;obtain⟨e1,rfl⟩:=gK Z;simp only [VR] at U;obtain⟨us,BL,U⟩:=U;obtain⟨y,g1,g2⟩:=U.nth e1;exact jN.pure hp r (u:=y) (by simp [execOp,Instr.extract,BL,g1]) g2
  ·simp [T.leaf] at Z
 case call c=>exact UD cI hc r sr hp rfl h
end
section
variable {P:Program}
structure Fit [bH] (E:En) (s:St) (a:Act) (w:World):Prop where
 rel:bO E s.h w
 sr:SR E w.heap s.bF a
 pc:bV E.ρ s.pc
structure mM [bH] (E:En) (s:St) (a:Act) (w:World) (s':St) (a':Act) (w':World):Prop where
 defers:a'.defers=a.defers
 size:a'.tmps.size=a.tmps.size
 step: ∃E',eU E s.h w E' s'.h w'/\Fit E' s' a' w'
theorem mM.refl [bH] {E:En} {s:St} {a:Act} {w:World} (f:Fit E s a w):mM E s a w s a w:=⟨rfl,rfl,E,eU.refl _ _ _,f⟩
theorem SR.keep {E E':En} {h h':Array Obj} (k:fy E h E' h') {bF:Tr W} {a:Act} (sr:SR E h bF a):SR E' h' bF a:=by intro t v ht;obtain⟨u,U,Z⟩:=sr t v ht;exact⟨u,U,VR.keep k v u Z⟩
theorem SR.put {E:En} {h:Array Obj} {bF:Tr W} {a:Act} (sr:SR E h bF a) {d:Nat} {v:W} {u:Value} (hd:d<a.tmps.size) (hv:VR E h v u):SR E h (bF.put d (some v)) (a.put (some d) u):=by
 intro t x ht;rw [Tr.bQ] at ht;simp only [Act.put];split at ht
 ·rename_i e
  grind
 ·rename_i e;obtain⟨y,U,Z⟩:=sr t x ht
  grind
theorem SR.alc {E:En} {h:Array Obj} {s:St} {a:Act} (sr:SR E h s.bF a) {d:Option Nat} {v:W} {u:Value} (hd: ∀t,d=some t->t<a.tmps.size) (hv:VR E h v u):SR E h (s.KL d v).bF (a.put d u):=by
 cases d with
 |none=>exact sr
 |some t=>exact sr.put (hd t rfl) hv
theorem DI (a:Act) (d:Option Nat) (u:Value):(a.put d u).tmps.size=a.tmps.size:=by cases d<;>simp [Act.put]
theorem put_defers (a:Act) (d:Option Nat) (u:Value):(a.put d u).defers=a.defers:=by cases d<;>rfl
theorem Xd (s:St) (d:Option Nat) (v:W):(s.KL d v).h=s.h:=by cases d<;>rfl
theorem U_ (s:St) (d:Option Nat) (v:W):(s.KL d v).pc=s.pc:=by cases d<;>rfl
theorem Hu [bH] {E:En} {s s':St} {a:Act} {w w':World} {v:W} {u:Value} {d:Option Nat} (f:Fit E s a w) (hs:s'.bF=s.bF) (hp:bV E.ρ s'.pc) (h:MQ E s w v s' u w') (hd: ∀t,d=some t->t<a.tmps.size) :
 mM E s a w (s'.KL d v) (a.put d u) w':=by
 obtain⟨E',U,Z,h3⟩:=h;refine⟨put_defers _ _ _,DI _ _ _,E',by rw [Xd]; exact U,⟨by rw [Xd]; exact Z,?_,by rw [U_,U.ρ]; exact hp⟩⟩;refine SR.alc ?_ hd h3;rw [hs];exact f.sr.keep (U.keeps f.rel)
theorem mM.trans [bH] {E:En} {s s1 s2:St} {a a1 a2:Act} {w w1 w2:World} (U:mM E s a w s1 a1 w1) (Z: ∀E1,eU E s.h w E1 s1.h w1->Fit E1 s1 a1 w1->mM E1 s1 a1 w1 s2 a2 w2):mM E s a w s2 a2 w2:=by obtain⟨d1,z1,E1,Ax,f1⟩:=U;obtain⟨d2,z2,E2,qR,f2⟩:=Z E1 Ax f1;exact⟨d2.trans d1,z2.trans z1,E2,Ax.trans qR,f2⟩
theorem DS [bH] {α:Type} {E:En} {w:World} {s:St} {a:Act} {ops:Array Oper} {o:Oper} {f:St->Bool->T α} {r:α} (fit:Fit E s a w) (h:(vQ ops.toList s o f).leaf E.ρ=some r) :
 ∃ec,bV E.ρ ec/\(f { s with pc:=ec } (Region.wanted o (yielded ops a.tmps))).leaf E.ρ=some r:=by
 unfold vQ at h;unfold Region.wanted;split at h
 ·rename_i hg;rw [hg];exact⟨s.pc,fit.pc,h⟩
 ·rename_i j want hg;rw [hg];split at h
  ·rename_i oj hj;rw [de,bw] at hj;split at h
   ·rename_i d hd;split at h
    ·rename_i c hc;obtain⟨u,U,Z⟩:=fit.sr d _ hc;simp only [VR] at Z;subst Z;obtain⟨ec,fB,h3⟩:=cC fit.pc h;refine⟨ec,fB,?_⟩;have:yielded ops a.tmps j=some (c.den E.ρ):=by simp [yielded,hj,hd,U]
     simp only [this];simpa using h3
    ·rename_i vs hc;obtain⟨u,U,Z⟩:=fit.sr d _ hc;simp only [VR] at Z;obtain⟨us,rfl,_⟩:=Z;refine⟨s.pc,fit.pc,?_⟩;have:yielded ops a.tmps j=none:=by simp [yielded,hj,hd,U]
     simp only [this];simpa using h
    ·simp [T.leaf] at h
   ·simp [T.leaf] at h
  ·simp [T.leaf] at h
def agn (n:Nat) (ops:List Oper):Bool:=ops.all fun o=>match o.dst with |some d=>d<n|none=>true
theorem EF [bH] {tt:TT} (cI:eC P tt) {call:eu} (hc:im P call) {ops:Array Oper} {Q:Exit->Act->World->Prop}: ∀(rest:List Oper) (i:Nat) {E:En} {s s':St} {a:Act} {w:World},ops.toList.drop i=rest->
 (∀o∈rest,∀d,o.dst=some d->d<a.tmps.size)->Fit E s a w->(Ma tt call ops.toList rest s).leaf E.ρ=some s'->
 (∀a' w',mM E s a w s' a' w'->Q .normal a' w')->wpOps P ops Q (List.range' i rest.length) a w
 |[],i,E,s,s',a,w,_,_,fit,h,hq=>by have:=bD h;subst this;exact hq a w (mM.refl fit)
 |o::rest,i,E,s,s',a,w,hi,hd,fit,h,hq=>by
  simp only [Ma] at h;obtain⟨ec,fB,U⟩:=DS fit h
  have hoi:ops[i]?=some o:=by
   have:=congrArg (·[0]?) hi
   grind
  have acv:ops.toList.drop (i+1)=rest:=by have:=congrArg List.tail hi;simpa using this
  have Ut:Fit E { s with pc:=ec } a w:=⟨fit.rel,fit.sr,fB⟩;simp only [aM,List.range'_succ];show wpOps P ops Q (i::List.range' (i+1) rest.length) a w;simp only [wpOps,hoi];cases hw:Region.wanted o (yielded ops a.tmps)<;>rw [hw] at U
  ·simp only [aP,if_false] at U ⊢
   have BM:mM E s a w (St.KL { s with pc:=ec } o.dst W.undef) (a.put o.dst undef) w:=
    Hu (s':={ s with pc:=ec }) fit rfl fB ⟨E,eU.refl _ _ _,fit.rel,jY⟩ (hd o ad)
   obtain⟨d1,z1,E1,Ax,f1⟩:=BM;refine EF cI hc rest (i+1) acv (fun o' yf d uu=>by rw [z1]; exact hd o' (by simp [yf]) d uu) f1 (by rw [Ax.ρ]; exact U) fun a' w' ht=>?_;exact hq a' w' ⟨ht.defers.trans d1,ht.size.trans z1,by obtain⟨E2,qR,f2⟩:=ht.step; exact⟨E2,Ax.trans qR,f2⟩⟩
  ·simp only [if_true] at U ⊢;left;obtain⟨⟨v,s1⟩,Z,h3⟩:=T.fh U;obtain⟨q1,q2,q3⟩:=RX cI hc (o:=o) Ut.rel Ut.sr Ut.pc Z;refine q3 _ _ fun u w1 hu=>?_;have BM:mM E s a w (s1.KL o.dst v) (a.put o.dst u) w1:=Hu (s:=s) (s':=s1) fit q1 q2 hu (hd o ad);obtain⟨d1,z1,E1,Ax,f1⟩:=BM;refine EF cI hc rest (i+1) acv (fun o' yf d uu=>by rw [z1]; exact hd o' (by simp [yf]) d uu) f1 (by rw [Ax.ρ]; exact h3) fun a' w' ht=>?_;exact hq a' w' ⟨ht.defers.trans d1,ht.size.trans z1,by obtain⟨E2,qR,f2⟩:=ht.step; exact⟨E2,Ax.trans qR,f2⟩⟩
def abl [bH] (P:Program) (draw:List Oper->St->T St):Prop:=
 ∀(id:Nat) (ops:Array Oper) (E:En) (s s':St) (a:Act) (w:World) (Q:Exit->Act->World->Prop),(∀o∈ops.toList,∀d,o.dst=some d->d<a.tmps.size)->Fit E s a w->(draw ops.toList s).leaf E.ρ=some s'->
  (∀a' w',mM E s a w s' a' w'->Q .normal a' w')->(Code.region id ops true).wp P Q a w
def vF [bH] (P:Program) (qO:Nat->List Oper->Bool) (draw:Nat->List Oper->St->T St):Prop:=
 ∀(id:Nat) (ops:Array Oper),qO id ops.toList=true->∀(E:En) (s s':St) (a:Act) (w:World) (Q:Exit->Act->World->Prop),(∀o∈ops.toList,∀d,o.dst=some d->d<a.tmps.size)->Fit E s a w->(draw id ops.toList s).leaf E.ρ=some s'->
  (∀a' w',mM E s a w s' a' w'->Q .normal a' w')->(Code.region id ops true).wp P Q a w
def jP (qO:Nat->List Oper->Bool) (n:Nat):Code->Bool
 | .region id ops d=>agn n ops.toList&&(!d||qO id ops.toList)
 | .seq a b=>jP qO n a&&jP qO n b
 | .cond _ a b=>jP qO n a&&jP qO n b
 | .block _ b=>jP qO n b
 | .loop b=>jP qO n b
 | .scope b=>jP qO n b
 |_=>true
theorem aaW {n m:Nat} {ops:List Oper} (h:agn n ops=true) (hm:n<=m): ∀o∈ops,∀d,o.dst=some d->d<m:=by
 intro o ho d hd;unfold agn at h
 grind
def xn:Ex->Exit
 | .normal=> .normal
 | .exit id=> .exit id
 | .ret=> .ret
def agD [bH] (E:En) (s:St) (a:Act) (w:World) (e:Ex) (s':St) (x:Exit) (a':Act) (w':World):Prop:=x=xn e/\mM E s a w s' a' w'
theorem mM.comp [bH] {E E1:En} {s s1 s2:St} {a a1 a2:Act} {w w1 w2:World} (d1:a1.defers=a.defers) (z1:a1.tmps.size=a.tmps.size) (Ax:eU E s.h w E1 s1.h w1) (Z:mM E1 s1 a1 w1 s2 a2 w2):mM E s a w s2 a2 w2:=by obtain⟨d2,z2,E2,qR,f2⟩:=Z;exact⟨d2.trans d1,z2.trans z1,E2,Ax.trans qR,f2⟩
def B' [bH] (P:Program) (c:Code) (n:Nat) (f:St->T (Ex×St)):Prop:=
 ∀(E:En) (s s':St) (e:Ex) (a:Act) (w:World),n<=a.tmps.size->Fit E s a w->(f s).leaf E.ρ=some (e,s')->c.wp P (agD E s a w e s') a w
theorem EG {ρ:Nat->Int} {f:St->T (Ex×St)}: ∀(k:Nat) {s s':St} {e:Ex},(vn f k s).leaf ρ=some (e,s')->e≠.normal
 |0,s,s',e,h=>by simp [vn,T.leaf] at h
 |k+1,s,s',e,h=>by
  simp only [vn] at h;obtain⟨⟨e1,s1⟩,U,Z⟩:=T.fh h
  cases e1 with
  |normal=>exact EG k Z
  |exit id=>have:=bD Z; simp only [ak] at this; rw [<- this.1]; simp
  |ret=>have:=bD Z; simp only [ak] at this; rw [<- this.1]; simp
theorem HE [bH] {c:Code} {n:Nat} {f:St->T (Ex×St)} (hf:B' P c n f): ∀(k:Nat) {E:En} {s s':St} {e:Ex} {a:Act} {w:World},n<=a.tmps.size->Fit E s a w->(vn f k s).leaf E.ρ=some (e,s')->
 ∀(Q:Exit->Act->World->Prop),(∀a' w',mM E s a w s' a' w'->Q (xn e) a' w')->e≠.normal/\Code.rounds P c Q k a w
 |0,E,s,s',e,a,w,_,_,h,_,_=>by simp [vn,T.leaf] at h
 |k+1,E,s,s',e,a,w,hn,fit,h,Q,hq=>by
  simp only [vn] at h;obtain⟨⟨e1,s1⟩,U,Z⟩:=T.fh h;have hw:=hf E s s1 e1 a w hn fit U;rw [rounds_succ]
  cases e1 with
  |normal=>
   simp only at Z;constructor
   ·exact EG k Z
   ·refine wp_mono hw fun x a1 w1 ⟨hx,ht⟩=>?_;subst hx;obtain⟨d1,z1,E1,Ax,f1⟩:=ht;exact (HE hf k (by rw [z1]; exact hn) f1 (by rw [Ax.ρ]; exact Z) Q fun a' w' ht'=>hq a' w' (ht'.comp d1 z1 Ax)).2
  |exit id=> have:=bD Z;simp only [ak] at this;obtain⟨rfl,rfl⟩:=this;refine⟨ad,wp_mono hw fun x a1 w1 ⟨hx,ht⟩=>?_⟩;subst hx;exact hq a1 w1 ht
  |ret=> have:=bD Z;simp only [ak] at this;obtain⟨rfl,rfl⟩:=this;refine⟨ad,wp_mono hw fun x a1 w1 ⟨hx,ht⟩=>?_⟩;subst hx;exact hq a1 w1 ht
theorem kR [bH] {tt:TT} (cI:eC P tt) {call:eu} (hc:im P call) {draw:Nat->List Oper->St->T St} {qO:Nat->List Oper->Bool} (FT:vF P qO draw) {lf n:Nat}: ∀(c:Code),jP qO n c=true->B' P c n (iZ tt call draw lf c)
 | .skip,_,E,s,s',e,a,w,_,fit,h=>by have:=bD h;simp only [ak] at this;obtain⟨rfl,rfl⟩:=this;exact wp_skip ⟨rfl,mM.refl fit⟩
 | .region id ops d,mL,E,s,s',e,a,w,hn,fit,h=>by
   simp only [iZ] at h;simp only [jP,an] at mL;have hd:=aaW mL.1 hn;cases d
   ·simp only [aP,if_false] at h;obtain⟨s1,U,Z⟩:=T.fh h;have:=bD Z;simp only [ak] at this;obtain⟨rfl,rfl⟩:=this;refine wp_region ?_;have:=EF (Q:=agD E s a w .normal s1) cI hc ops.toList 0 ad hd fit U (fun a' w' ht=> ⟨rfl,ht⟩);rw [List.range_eq_range']
    grind
   ·simp only [if_true] at h;obtain⟨s1,U,Z⟩:=T.fh h;have:=bD Z;simp only [ak] at this;obtain⟨rfl,rfl⟩:=this;exact FT id ops (by simpa using mL.2) E s s1 a w _ hd fit U (fun a' w' ht=> ⟨rfl,ht⟩)
 | .seq x y,mL,E,s,s',e,a,w,hn,fit,h=>by
   simp only [jP,an] at mL;simp only [iZ] at h;obtain⟨⟨e1,s1⟩,U,Z⟩:=T.fh h;refine wp_seq (wp_mono (kR cI hc FT x mL.1 E s s1 e1 a w hn fit U) fun q a1 w1 ⟨hx,ht⟩=>?_);subst hx
   cases e1 with
   |normal=> simp only at Z;obtain⟨d1,z1,E1,Ax,f1⟩:=ht;refine wp_mono (kR cI hc FT y mL.2 E1 s1 s' e a1 w1 (by rw [z1]; exact hn) f1 (by rw [Ax.ρ]; exact Z)) fun q a2 w2 ⟨hx,ht'⟩=>?_;exact⟨hx,ht'.comp d1 z1 Ax⟩
   |exit id=> have:=bD Z;simp only [ak] at this;obtain⟨rfl,rfl⟩:=this;exact⟨rfl,ht⟩
   |ret=> have:=bD Z;simp only [ak] at this;obtain⟨rfl,rfl⟩:=this;exact⟨rfl,ht⟩
 | .cond c x y,mL,E,s,s',e,a,w,hn,fit,h=>by
   simp only [jP,an] at mL;simp only [iZ] at h;split at h
   ·rename_i cb hcb;have hv:=gj fit.sr hcb;simp only [VR] at hv;obtain⟨ec,fB,U⟩:=cC fit.pc h;have Ut:Fit E { s with pc:=ec } a w:=⟨fit.rel,fit.sr,fB⟩;refine wp_cond hv ?_;cases RJ:cb.den E.ρ<;>rw [RJ] at U
    ·simp only [aP,if_false] at U ⊢;exact wp_mono (kR cI hc FT y mL.2 E _ s' e a w hn Ut U) fun q a2 w2 ⟨hx,ht⟩=> ⟨hx,ht.defers,ht.size,ht.step⟩
    ·simp only [if_true] at U ⊢;exact wp_mono (kR cI hc FT x mL.1 E _ s' e a w hn Ut U) fun q a2 w2 ⟨hx,ht⟩=> ⟨hx,ht.defers,ht.size,ht.step⟩
   ·simp [T.leaf] at h
 | .block id b,mL,E,s,s',e,a,w,hn,fit,h=>by
   simp only [jP] at mL;simp only [iZ] at h;obtain⟨⟨e1,s1⟩,U,Z⟩:=T.fh h;refine wp_block (wp_mono (kR cI hc FT b mL E s s1 e1 a w hn fit U) fun q a1 w1 ⟨hx,ht⟩=>?_);subst hx
   cases e1 with
   |normal=> have:=bD Z;simp only [ak] at this;obtain⟨rfl,rfl⟩:=this;exact⟨rfl,ht⟩
   |exit j=>
    have:=bD Z;simp only [ak] at this;obtain⟨rfl,rfl⟩:=this;simp only [xn,Exit.inBlock];by_cases hj:j=id
    ·rw [ag hj,ag hj]; exact⟨rfl,ht⟩
    ·rw [af hj,af hj]; exact⟨rfl,ht⟩
   |ret=> have:=bD Z;simp only [ak] at this;obtain⟨rfl,rfl⟩:=this;exact⟨rfl,ht⟩
 | .loop b,mL,E,s,s',e,a,w,hn,fit,h=>by simp only [jP] at mL;simp only [iZ] at h;exact wp_loop_rounds lf (HE (kR cI hc FT b mL) lf hn fit h (agD E s a w e s') (fun a' w' ht=> ⟨rfl,ht⟩)).2
 | .exit id,_,E,s,s',e,a,w,_,fit,h=>by have:=bD h;simp only [ak] at this;obtain⟨rfl,rfl⟩:=this;exact wp_exit ⟨rfl,mM.refl fit⟩
 | .scope b,mL,E,s,s',e,a,w,hn,fit,h=>by simp only [jP] at mL;simp only [iZ] at h;refine wp_scope_straight (wp_mono (kR cI hc FT b mL E s s' e a w hn fit h) fun q a1 w1 ⟨hx,ht⟩=>?_);subst hx;cases e<;>exact⟨rfl,ht⟩
 | .label l,_,E,s,s',e,a,w,_,fit,h=>by have:=bD h;simp only [ak] at this;obtain⟨rfl,rfl⟩:=this;exact wp_label ⟨rfl,mM.refl fit⟩
 | .ret,_,E,s,s',e,a,w,_,fit,h=>by have:=bD h;simp only [ak] at this;obtain⟨rfl,rfl⟩:=this;exact wp_ret ⟨rfl,mM.refl fit⟩
 | .rangeFunc _ _ _ _,_,E,s,s',e,a,w,_,fit,h=>by simp [iZ,T.leaf] at h
 | .goto _,_,E,s,s',e,a,w,_,fit,h=>by simp [iZ,T.leaf] at h
 | .refuse _,_,E,s,s',e,a,w,_,fit,h=>by simp [iZ,T.leaf] at h
end
section
variable {P:Program}
theorem Lv: ∀(args:List W) (i:Nat) (t:Tr W) (k:Nat),(cq args i t).get k=if i<=k/\k<i+args.length then args[k-i]? else t.get k
 |[],i,t,k=>by
  have: ¬(i<=k/\k<i+([]:List W).length):=ad
  rw [af this];rfl
 |v::vs,i,t,k=>by
  simp only [cq,Lv vs (i+1),Tr.bQ,aM]
  grind
theorem ct.get {E:En} {h:Array Obj}: ∀{vs:List W} {us:List Value},ct E h vs us->∀(i:Nat) (v:W),vs[i]?=some v->∃u,us[i]?=some u/\VR E h v u
 |[],us,hv,i,v,hi=>by simp at hi
 |x::xs,us,hv,i,v,hi=>by
  cases us with
  |nil=>simp [ct] at hv
  |cons y ys=>
   simp only [ct] at hv;obtain⟨u',gx,he,U,Z⟩:=hv;simp only [List.cons.injEq] at he;obtain⟨rfl,rfl⟩:=he
   cases i with
   |zero=>simp at hi; subst hi; exact⟨y,ad,U⟩
   |succ i=>simpa using ct.get Z i v (by simpa using hi)
theorem ze {E:En} {h:Array Obj} {args:List W} {vals:List Value} (hv:ct E h args vals) (n:Nat) :
 SR E h (cq args 0 .nil) { tmps:=vals.toArray++Array.replicate n undef,defers:=[] }:=by
 intro t v ht;rw [Lv] at ht;split at ht
 ·rename_i hk;obtain⟨u,U,Z⟩:=ct.get hv t v (by simpa using ht)
  grind
 ·simp [Tr.get] at ht
def uJ (a:Act):ResultVar->Sem Value
 | .tmp t=>pure (a.tmps.getD t undef)
 | .cell b t=>do loadVar t (<- asAddr (a.tmps.getD b undef))
def AH (vs:List W):W:=match vs with |[x]=>x|vs=> .tuple vs
theorem Gy {vs:List W} (h: ∀v,vs= [v]->False):AH vs= .tuple vs:=by
 unfold AH
 grind
theorem CA {E:En} {h:Array Obj} {vs:List W} {us:List Value} (g2:ct E h vs us):VR E h (AH vs) (if h:us.toArray.size=1 then us.toArray[0] else .tuple us.toArray):=by
 cases vs with
 |nil=> simp only [ct] at g2;subst g2;simp [AH,VR,ct]
 |cons x xs=>
  cases xs with
  |nil=> simp only [ct] at g2;obtain⟨u,gx,rfl,U,rfl⟩:=g2;simpa [AH] using U
  |cons x2 xs=>
   have g3:=g2;simp only [ct] at g2;obtain⟨u,gx,rfl,U,u2,us2,rfl,Z,h3⟩:=g2;have: ¬((u::u2::us2).toArray.size=1):=ad
   rw [dif_neg this];simp only [AH,VR]
   grind
theorem L9 [bH] {tt:TT} (cI:eC P tt) {E:En} {s:St} {a:Act} {w:World} (fit:Fit E s a w) {r:ResultVar} {v:W} (h:zG tt s r=some v) :
 ∃u,(uJ a r).run P w= .ok u w/\VR E w.heap v u:=by
 cases r with
 |tmp t=> simp only [zG] at h;obtain⟨u,U,Z⟩:=fit.sr t v h;exact⟨u,by simp [uJ,U,anx],Z⟩
 |cell b t=>
  simp only [zG] at h;split at h
  ·rename_i p hp;obtain⟨u,U,Z⟩:=fit.sr b p hp;obtain⟨x,bb,o,rfl,h3,h4⟩:=A7 cI fit.rel Z h;exact⟨x,by simp [uJ,U,anx,asAddr,h3],h4⟩
  grind
theorem tl [bH] {tt:TT} (cI:eC P tt) {E:En} {s:St} {a:Act} {w:World} (fit:Fit E s a w): ∀{rs:List ResultVar} {vs:List W},kQ tt s rs=some vs->
 ∃us,(rs.mapM (uJ a)).run P w= .ok us w/\ct E w.heap vs us
 |[],vs,h=>by simp [kQ] at h;subst h;exact⟨[],ad,by simp [ct]⟩
 |r::rs,vs,h=>by
  simp only [kQ] at h;split at h
  ·grind
  ·rename_i v hv;split at h
   ·grind
   ·rename_i MT He;simp at h;subst h;obtain⟨u,U,Z⟩:=L9 cI fit hv;obtain⟨us,h3,h4⟩:=tl cI fit He;refine⟨u::us,?_,by simp only [ct]; exact⟨u,us,rfl,Z,h4⟩⟩;rw [anA];simp [Sem.run_bind,U,h3]
def UY (P:Program) (qO:Nat->Nat->List Oper->Bool) (ft:Nat->Option Func):Prop:= ∀g fn,ft g=some fn->P.funcs[g]?=some fn/\(fn.name == "runtime.NumGoroutine")=false/\∀c,fn.body=some c->jP (qO g) fn.ntmps c=true
theorem wq [bH] {tt:TT} (cI:eC P tt) {qO:Nat->Nat->List Oper->Bool} {ft:Nat->Option Func} (hft:UY P qO ft) {hook:Nat->Option (List W->St->T (W×St))} (hh: ∀g h,hook g=some h->ik P g h)
 {draw:eu->Nat->Nat->List Oper->St->T St} (FT: ∀call,im P call->∀g,vF P (qO g) (draw call g)) (lf:Nat): ∀(n:Nat),im P (FX tt ft hook draw lf n)
 |0=>by intro g args s E w vals v s' _ _ _ h;simp [FX,T.leaf] at h
 |n+1=>by
  have ih:=wq cI hft hh FT lf n;intro g args s E w vals v s' r hv hp h;simp only [FX] at h;split at h
  ·rename_i f hf;exact hh g f hf args s E w vals v s' r hv hp h
  ·split at h
   ·simp [T.leaf] at h
   ·rename_i fn tR;obtain⟨hf,ke,mL⟩:=hft g fn tR;split at h
    ·simp [T.leaf] at h
    ·rename_i c hb;obtain⟨⟨e,s1⟩,U,Z⟩:=T.fh h
     have fit:Fit E { s with bF:=cq args 0 .nil } { tmps:=vals.toArray++Array.replicate (fn.ntmps-vals.toArray.size) undef,defers:=[] } w:=
      ⟨r,ze hv _,hp⟩
     have hwp:=kR cI ih (FT _ ih g) (lf:=lf) c (mL c hb) E _ s1 e _ w (by simp; omega) fit U
     have als: ∃vs,kQ tt s1 fn.results.toList=some vs/\(e= .normal\/e= .ret)/\s'= { s1 with bF:=s.bF }/\v=AH vs:=by
      cases e with
      |exit id=>simp [T.leaf] at Z
      |normal=>
       simp only at Z;split at Z
       ·rename_i x hx;have:=bD Z;simp only [ak] at this;exact⟨_,hx,.inl rfl,this.2.symm,this.1.symm⟩
       ·rename_i vs hn hx;have:=bD Z;simp only [ak] at this;refine⟨_,hx,.inl rfl,this.2.symm,?_⟩;rw [<- this.1];exact (Gy hn).symm
       ·simp [T.leaf] at Z
      |ret=>
       simp only at Z;split at Z
       ·rename_i x hx;have:=bD Z;simp only [ak] at this;exact⟨_,hx,.inr rfl,this.2.symm,this.1.symm⟩
       ·rename_i vs hn hx;have:=bD Z;simp only [ak] at this;refine⟨_,hx,.inr rfl,this.2.symm,?_⟩;rw [<- this.1];exact (Gy hn).symm
       ·simp [T.leaf] at Z
     obtain⟨vs,hr,he,rfl,rfl⟩:=als
     have hpc:bV E.ρ s1.pc:=by
      obtain⟨_,_,_,⟨_,ht⟩,_⟩:=hwp default [] [];obtain⟨E1,Ax,f1⟩:=ht.step;have:=f1.pc;rw [Ax.ρ] at this
      grind
     refine⟨rfl,hpc,?_⟩
     have alQ:Calls P g vals.toArray w fun e w''=> ∃u,e= .returned u/\MQ E s w (AH vs) { s1 with bF:=s.bF } u w'':=by
      refine calls_of_wp hf hb (wp_mono hwp fun x a1 w1 ⟨hx,ht⟩=>?_);subst hx;obtain⟨d1,z1,E1,Ax,f1⟩:=ht;obtain⟨us,g1,g2⟩:=tl cI f1 hr
      have: ∃u,(results fn a1.tmps).run P w1= .ok u w1/\VR E1 w1.heap (AH vs) u:=by
       refine⟨if h:us.toArray.size=1 then us.toArray[0] else .tuple us.toArray,?_,?_⟩
       ·have hm:(fn.results.mapM (uJ a1)).run P w1= .ok us.toArray w1:=by
         rw [aoS];rw [map_eq_pure_bind];simp only [Sem.run_bind,g1];rfl
        have xK:results fn a1.tmps=(do let vs <- fn.results.mapM (uJ a1); pure (if h:vs.size=1 then vs[0] else .tuple vs)):=rfl;rw [xK];simp only [Sem.run_bind,hm];rfl
       ·exact CA g2
      obtain⟨u,g3,g4⟩:=this;rcases he with rfl|rfl
      ·exact⟨d1,u,g3,u,rfl,E1,Ax,f1.rel,g4⟩
      ·exact⟨d1,u,g3,u,rfl,E1,Ax,f1.rel,g4⟩
     have jw:(callFunc g vals.toArray).run P w= .ok (.enter g vals.toArray) w:=by unfold callFunc;simp [hf,hb,by simpa using ke]
     unfold jD lI
     grind
end
def Tr.over {α:Type}:Tr α->Tr α->Tr α
 | .nil,b=>b
 | .node v l r,b=> .node (match v with |some x=>some x|none=>b.val) (Tr.over l b.left) (Tr.over r b.right)
def Tr.minus {α:Type}:Tr α->Tr α->Tr α
 | .nil,b=>b
 | .node v l r,b=> .node (match v with |some _=>none|none=>b.val) (Tr.minus l b.left) (Tr.minus r b.right)
theorem Tr.Em {α:Type}: ∀(a b:Tr α) (k:Nat),(Tr.over a b).get k=match a.get k with |some x=>some x|none=>b.get k
 | .nil,b,k=>by simp [Tr.over,Tr.get]
 | .node v l r,b,k=>by
   simp only [Tr.over];rw [Tr.nZ,Tr.nZ,Tr.wc b k];by_cases h0:k=0
   ·grind
   ·simp only [af h0];by_cases U:(k-1) % 2=0
    ·simp only [ag U]; exact Tr.Em l b.left _
    ·simp only [af U]; exact Tr.Em r b.right _
theorem Tr.A3 {α:Type}: ∀(a b:Tr α) (k:Nat),(Tr.minus a b).get k=match a.get k with |some _=>none|none=>b.get k
 | .nil,b,k=>by simp [Tr.minus,Tr.get]
 | .node v l r,b,k=>by
   simp only [Tr.minus];rw [Tr.nZ,Tr.nZ,Tr.wc b k];by_cases h0:k=0
   ·grind
   ·simp only [af h0];by_cases U:(k-1) % 2=0
    ·simp only [ag U]; exact Tr.A3 l b.left _
    ·simp only [af U]; exact Tr.A3 r b.right _
structure SL (E:En) (H:Hp) (w:World) (E':En) (H':Hp) (w':World):Prop where
 ρ:E'.ρ=E.ρ
 dm: ∀id,E.dm id->E'.dm id
 θ: ∀id,E.dm id->E'.θ id=E.θ id
 κ: ∀id,E.dm id->E'.κ id=E.κ id
 ro: ∀b,E.ro b->E'.ro b
 ru: ∀b,E'.ro b->E.ro b\/(∃id o,H.get id=some o/\(E.θ id).1=b)\/w.heap.size<=b
 os:w'.os=w.os
 tape:w'.tape=w.tape
 output:w'.output=w.output
 size:w.heap.size<=w'.heap.size
 keep: ∀b,b<w.heap.size->(∀id o,H.get id=some o->(E.θ id).1≠b)->w'.heap[b]?=w.heap[b]?
 own: ∀id o,H'.get id=some o->(E'.θ id).1<w.heap.size->∃rv o0,H.get rv=some o0/\(E.θ rv).1=(E'.θ id).1
 hd:E'.hd=E.hd
section
variable {E E' E'':En} {H H' H'':Hp} {w w' w'':World}
theorem eU.akU (s:eU E H w E' H' w'):SL E H w E' H' w':=⟨s.ρ,s.dm,s.θ,s.κ,s.ro,s.ru,s.os,s.tape,s.output,s.size,s.keep,s.own,s.hd⟩
theorem SL.WY (s:SL E H w E' H' w') (U:H.next<=H'.next) (Z:H'.res=none) (h3: ∀id,E'.dm id->E.dm id\/(H.next<=id/\id<H'.next)):eU E H w E' H' w':=
 ⟨s.ρ,s.dm,s.θ,s.κ,s.ro,s.ru,U,.inl Z,fun id h=>(h3 id h).elim .inl fun h=> .inr (.inl h),s.os,s.tape,s.output,s.size,s.keep,s.own,s.hd⟩
theorem SL.trans (a:SL E H w E' H' w') (b:SL E' H' w' E'' H'' w''):SL E H w E'' H'' w'' where
 ρ:=b.ρ.trans a.ρ
 dm:=fun id h=>b.dm id (a.dm id h)
 θ:=fun id h=>(b.θ id (a.dm id h)).trans (a.θ id h)
 κ:=fun id h=>(b.κ id (a.dm id h)).trans (a.κ id h)
 ro:=fun x h=>b.ro x (a.ro x h)
 ru:=fun x h=>by
  rcases b.ru x h with h|⟨id,o,U,Z⟩|h
  ·exact a.ru x h
  ·rcases aW x w.heap.size with hx|hx
   ·obtain⟨rv,o0,h3,h4⟩:=a.own id o U (by rw [Z]; exact hx);exact .inr (.inl ⟨rv,o0,h3,h4.trans Z⟩)
   ·exact .inr (.inr hx)
  ·exact .inr (.inr (bn a.size h))
 os:=b.os.trans a.os
 tape:=b.tape.trans a.tape
 output:=b.output.trans a.output
 size:=bn a.size b.size
 keep:=fun x hx hn=>by rw [b.keep x (anh hx a.size) ?_,a.keep x hx hn];intro id o ho he;obtain⟨rv,o0,h0,he0⟩:=a.own id o ho (by rw [he]; exact hx);exact hn rv o0 h0 (he0.trans he)
 own:=fun id o ho ff=>by obtain⟨id1,o1,U,YH⟩:=b.own id o ho (anh ff a.size);obtain⟨rv,o0,h0,he0⟩:=a.own id1 o1 U (by rw [YH]; exact ff);exact⟨rv,o0,h0,he0.trans YH⟩
 hd:=b.hd.trans a.hd
theorem SL.keeps [bH] (s:SL E H w E' H' w') (r:bO E H w):fy E w.heap E' w'.heap:=
 ⟨s.ρ,s.dm,s.θ,s.κ,s.ro,fun b hb=>s.keep b (r.qt b hb) fun id o ho he=>(r.live id o ho).2.2 (by rw [he]; exact hb)⟩
theorem bO.part [bH] {H1:Hp} (r:bO E H w) (sub: ∀id o,H1.get id=some o->H.get id=some o) (hn:H.next<=H1.next) (hr: ∀q,H1.res=some q->q<H1.next/\¬E.dm q):bO E H1 w:=
 ⟨fun id h=>r.fresh id (bn hn h),hr,fun id o h=>r.live id o (sub id o h),fun i j o o' h h' e=>r.inj i j o o' (sub _ _ h) (sub _ _ h') e,r.qt,r.iY,fun b x hb=> ⟨(r.hid b x hb).1,(r.hid b x hb).2.1,fun id o h=>(r.hid b x hb).2.2 id o (sub id o h)⟩⟩
theorem YV [bH] {H1 PG:Hp} (r:bO E H w) (sub: ∀id o,H1.get id=some o->H.get id=some o) (st:eU E H1 w E' PG w') (r':bO E' PG w') (n:Nat) (hn: ∀id,n<=id->¬E'.dm id) :
 ∃H':Hp,H'=⟨Tr.over PG.m (Tr.minus H1.m H.m),n,none⟩/\(∀id o,PG.get id=some o->H'.get id=some o)/\(∀id o,H.get id=some o->H1.get id=none->H'.get id=some o)/\bO E' H' w'/\SL E H w E' H' w':=by
 have ajv: ∀id o,H.get id=some o->H1.get id=none->PG.get id=none:=by
  intro id o h U
  cases Z:PG.get id with
  |none=>rfl
  |some o'=>
   exfalso;have hd:=(r.live id o h).1;have hθ:=st.θ id hd;obtain⟨rv,o0,g1,g2⟩:=st.own id o' Z (by rw [hθ]; exact fq r h);have:=r.inj rv id o0 o (sub _ _ g1) h (by rw [g2,hθ])
   grind
 have u7: ∀id,(⟨Tr.over PG.m (Tr.minus H1.m H.m),n,none⟩ : Hp).get id=match PG.get id with |some x=>some x|none=>match H1.get id with |some _=>none|none=>H.get id:=by
  intro id;simp only [Hp.get,Tr.Em,Tr.A3]
  grind
 have nQ: ∀id o,(⟨Tr.over PG.m (Tr.minus H1.m H.m),n,none⟩ : Hp).get id=some o->PG.get id=some o\/(PG.get id=none/\H1.get id=none/\H.get id=some o):=by
  intro id o h
  grind
 have tQ: ∀id o,H1.get id=none->H.get id=some o->w'.heap[(E.θ id).1]?=w.heap[(E.θ id).1]?:=by
  intro id o U h;refine st.keep _ (fq r h) fun rv o0 h0 he=>?_;have:=r.inj rv id o0 o (sub _ _ h0) h he
  grind
 have k:fy E w.heap E' w'.heap:=⟨st.ρ,st.dm,st.θ,st.κ,st.ro,fun b hb=>st.keep b (r.qt b hb) fun id o ho he=>(r.live id o (sub _ _ ho)).2.2 (by rw [he]; exact hb)⟩;refine⟨_,rfl,fun id o h=>by rw [u7,h],fun id o h U=>by rw [u7,ajv id o h U,U]; exact h,⟨hn,ad,?_,?_,r'.qt,r'.iY,?_⟩,⟨st.ρ,st.dm,st.θ,st.κ,st.ro,fun b hb=>(st.ru b hb).imp id (Or.imp (fun⟨i,o,U,Z⟩=> ⟨i,o,sub _ _ U,Z⟩) id),st.os,st.tape,st.output,st.size,?_,?_,st.hd⟩⟩
 ·intro id o h;rcases nQ id o h with U|⟨U,Z,h3⟩
  ·exact r'.live id o U
  ·obtain⟨g1,g2,g3⟩:=r.live id o h3;refine⟨st.dm id g1,g2.keep k g1 (tQ id o Z h3) (r.Uj st.hd (fun b hb hn=>st.keep b hb fun i o ho=>hn i o (sub i o ho)) _),?_⟩;rw [st.θ id g1];intro hr;rcases st.ru _ hr with hr|⟨rv,o0,f1,f2⟩|hr
   ·grind
   ·have:=r.inj rv id o0 o (sub _ _ f1) h3 f2
    grind
   grind [fq]
 ·intro i j o o' h h' he;rcases nQ i o h with U|⟨U,Z,h3⟩ <;>rcases nQ j o' h' with g1|⟨g1,g2,g3⟩
  ·exact r'.inj i j o o' U g1 he
  ·exfalso;rw [st.θ j (r.live j o' g3).1] at he;obtain⟨rv,o0,f1,f2⟩:=st.own i o U (by rw [he]; exact fq r g3);have:=r.inj rv j o0 o' (sub _ _ f1) g3 (f2.trans he)
   grind
  ·exfalso;rw [st.θ i (r.live i o h3).1] at he;obtain⟨rv,o0,f1,f2⟩:=st.own j o' g1 (by rw [<- he]; exact fq r h3);have:=r.inj rv i o0 o (sub _ _ f1) h3 (f2.trans he.symm)
   grind
  ·rw [st.θ i (r.live i o h3).1,st.θ j (r.live j o' g3).1] at he;exact r.inj i j o o' h3 g3 he
 ·refine r.Ug st.hd st.size (fun b hb=>(st.ru b hb).imp id (Or.imp (fun⟨i,o,U,Z⟩=> ⟨i,o,sub _ _ U,Z⟩) id)) fun id o h ff=>?_;rcases nQ id o h with U|⟨U,Z,h3⟩
  ·obtain⟨rv,o0,f1,f2⟩:=st.own id o U ff;exact⟨rv,o0,sub _ _ f1,f2⟩
  ·exact⟨id,o,h3,by rw [st.θ id (r.live id o h3).1]⟩
 ·intro b hb Aj;exact st.keep b hb fun id o h=>Aj id o (sub _ _ h)
 ·intro id o h ff;rcases nQ id o h with U|⟨U,Z,h3⟩
  ·obtain⟨rv,o0,f1,f2⟩:=st.own id o U ff
   grind
  ·exact⟨id,o,h3,by rw [st.θ id (r.live id o h3).1]⟩
theorem frame [bH] {H1 PG:Hp} (r:bO E H w) (sub: ∀id o,H1.get id=some o->H.get id=some o) (st:eU E H1 w E' PG w') (r':bO E' PG w') (n:Nat) (hn: ∀id,n<=id->¬E'.dm id) :
 ∃H':Hp,H'.next=n/\H'.res=none/\(∀id o,PG.get id=some o->H'.get id=some o)/\(∀id o,H.get id=some o->H1.get id=none->H'.get id=some o)/\bO E' H' w'/\SL E H w E' H' w':=by
 obtain⟨H',h0,U,Z,h3,h4⟩:=YV r sub st r' n hn
 grind
end
section
variable {P:Program}
def FG [bH] (P:Program) (ρ:Nat->Int) (ops:Array Oper) (o:Oper) (S:Tr W) (H:Hp) (v:W) (H':Hp):Prop:=
 ∀(E:En) (a:Act) (w:World),E.ρ=ρ->bO E H w->SR E w.heap S a->
  (Region.wanted o (yielded ops a.tmps)=false/\v=W.undef/\H'=H)\/
  (Region.wanted o (yielded ops a.tmps)=true/\oS P o a w (fun u w'=> ∃E',eU E H w E' H' w'/\bO E' H' w'/\VR E' w'.heap v u))
theorem FG.wpOp [bH] {ρ:Nat->Int} {ops:Array Oper} {o:Oper} {S:Tr W} {H H':Hp} {v:W} (h:FG P ρ ops o S H v H') {E:En} {a:Act} {w:World} (hρ:E.ρ=ρ) (r:bO E H w) (sr:SR E w.heap S a)
 {i:Nat} (ho:ops[i]?=some o) {K:Act->World->Prop} {Q:Exit->Act->World->Prop}
 (hk: ∀(u:Value) (E':En) (w':World),eU E H w E' H' w'->bO E' H' w'->VR E' w'.heap v u->K (a.put o.dst u) w'):wpOp P ops Q i K a w:=by
 unfold Go.wpOp;simp only [ho];rcases h E a w hρ r sr with ⟨U,rfl,rfl⟩|⟨U,Z⟩
 ·rw [U];simp only [aP,if_false];exact hk undef E w (eU.refl _ _ _) r jY
 ·rw [U];simp only [if_true];exact .inl (Z _ _ fun u w' ⟨E',q1,q2,q3⟩=>hk u E' w' q1 q2 q3)
inductive Kind where
 |pa
 |e
 |r
 deriving DecidableEq
structure Fz [bH] (P:Program) (ρ:Nat->Int) (ops:Array Oper) (pd:Tr W) (H0:Hp) where
 base:Nat
 bf:Nat->Nat->Bool
 kd:Nat->Kind
 S:Nat->Tr W
 val:Nat->W
 st:Nat->Nat
 nE:Nat
 hp:Nat->Hp
 un:Nat->Nat->Bool
 jX:Nat->Option dN
 gen: ∀i j,bf i j=true->∃(o:Oper) (e:Edge),ops[j]?=some o/\e∈o.after/\Region.binds .any e=true/\(e.on=i\/bf i e.on=true)
 back: ∀(j:Nat) (o:Oper),ops[j]?=some o->∀e∈o.after,Region.binds .any e=true->e.on<j
 dst: ∀(i j:Nat) (oi oj:Oper) (d:Nat),ops[i]?=some oi->ops[j]?=some oj->oi.dst=some d->oj.dst=some d->i=j
 bF: ∀(i:Nat) (o:Oper),ops[i]?=some o->∀t x,(S i).get t=some x->(∃(j:Nat) (oj:Oper),bf j i=true/\ops[j]?=some oj/\oj.dst=some t/\val j=x)\/(pd.get t=some x/\∀(j:Nat) (oj:Oper),ops[j]?=some oj->oj.dst=some t->bf i j=true)
 stl: ∀(j:Nat) (o:Oper),ops[j]?=some o->kd j= .e->st j<nE
 inj: ∀i j,kd i= .e->kd j= .e->st i=st j->i=j
 aii: ∀(j:Nat) (o:Oper),ops[j]?=some o->kd j= .e->∀m,m<st j->∃i,kd i= .e/\st i=m/\bf i j=true
 pa: ∀(i:Nat) (o:Oper),ops[i]?=some o->kd i= .pa->∃HA N,FG P ρ ops o (S i) ⟨.nil,N,some (base+i)⟩ (val i) HA/\HA.next=N/\jX i=HA.get (base+i)/\∀k,k<=nE->(hp k).next<=N
 ev: ∀(j:Nat) (o:Oper),ops[j]?=some o->kd j= .e->∃Ko,FG P ρ ops o (S j) Ko (val j) (hp (st j+1))/\Ko.next=(hp (st j)).next/\Ko.res=none/\
  (∀id x,Ko.get id=some x->(hp (st j)).get id=some x\/∃a,bf a j=true/\un (st j) a=true/\id=base+a/\jX a=some x)/\
  (∀a,un (st j+1) a=true->un (st j) a=true/\bf a j=false)
 rd: ∀(i:Nat) (o:Oper),ops[i]?=some o->kd i= .r->∀k,k<=nE->(∀j,kd j= .e->bf j i=true->st j<k)->(∀(j:Nat) (oj:Oper),ops[j]?=some oj->kd j= .e->bf i j=true->k<=st j)->
  ∃Ko,FG P ρ ops o (S i) Ko (val i) Ko/\Ko.next=(hp k).next/\Ko.res=none/\
   (∀id x,Ko.get id=some x->(hp k).get id=some x\/∃a,bf a i=true/\un k a=true/\id=base+a/\jX a=some x)
 unm: ∀k a x,k<=nE->jX a=some x->un k a=true->(hp k).get (base+a)=none
 nob: ∀i,kd i≠.pa->jX i=none
 first:base=H0.next/\base+ops.size<=(hp 0).next/\∀id x,(hp 0).get id=some x->H0.get id=some x
section
variable {gl:bH} {ρ:Nat->Int} {ops:Array Oper} {pd:Tr W} {H0:Hp} (p:Fz P ρ ops pd H0)
structure Fz.Inv (E0:En) (a0:Act) (w0:World) (L:Nat->Prop) (a:Act) (w:World):Prop where
 defers:a.defers=a0.defers
 size:a.tmps.size=a0.tmps.size
 closed: ∀i j,p.bf i j=true->L j->L i
 ex: ∃(E:En) (Hc:Hp) (k:Nat),k<=p.nE/\(∀(j:Nat) (o:Oper),ops[j]?=some o->p.kd j= .e->(L j↔p.st j<k))/\E.ρ=ρ/\SL E0 H0 w0 E Hc w/\bO E Hc w/\Hc.next=(p.hp k).next/\Hc.res=none/\
  p.base+ops.size<=Hc.next/\(∀id,E.dm id->E0.dm id\/H0.next<=id)/\(∀(i:Nat) (o:Oper),ops[i]?=some o->¬L i->¬E.dm (p.base+i))/\
  (∀id x,(p.hp k).get id=some x->Hc.get id=some x)/\(∀b x,L b->p.un k b=true->p.jX b=some x->Hc.get (p.base+b)=some x)/\
  (∀t x,pd.get t=some x->(∀(j:Nat) (oj:Oper),ops[j]?=some oj->oj.dst=some t->¬L j)->∃u,a.tmps[t]?=some u/\VR E w.heap x u)/\
  (∀(j:Nat) (oj:Oper) (t:Nat),L j->ops[j]?=some oj->oj.dst=some t->∃u,a.tmps[t]?=some u/\VR E w.heap (p.val j) u)
theorem DJ {a:Act} {d:Option Nat} {u:Value} {t:Nat} (h:d≠some t):(a.put d u).tmps[t]?=a.tmps[t]?:=by
 cases d with
 |none=>rfl
 |some x=>
  simp only [Act.put]
  grind
theorem W! {a:Act} {u:Value} {t:Nat} (h:t<a.tmps.size):(a.put (some t) u).tmps[t]?=some u:=by simp [Act.put,h]
theorem Fz.akE: ∀(j i:Nat),p.bf i j=true->i<j/\j<ops.size:=by
 intro j
 induction j using Nat.strongRecOn with
 |_ j ih=>
  intro i h;obtain⟨o,e,g1,g2,g3,g4⟩:=p.gen i j h;have ff:=p.back j o g1 e g2 g3
  grind
theorem Fz.adH {i j:Nat} (h:p.bf i j=true): ∃o:Oper,ops[i]?=some o:=by have:=p.akE j i h;exact⟨ops[i]'J,ad⟩
theorem Fz.step {E0:En} {a0:Act} {w0:World} {L:Nat->Prop} {a:Act} {w:World} (hd: ∀o∈ops.toList,∀d,o.dst=some d->d<a0.tmps.size) (inv:p.Inv E0 a0 w0 L a w) {i:Nat} {o:Oper} (ho:ops[i]?=some o) (hL: ¬L i)
 (hr: ∀e∈o.after,Region.binds .any e=true->L e.on) {K:Act->World->Prop} {Q:Exit->Act->World->Prop} (hk: ∀a' w',p.Inv E0 a0 w0 (fun j=>j=i\/L j) a' w'->K a' w'):wpOp P ops Q i K a w:=by
 obtain⟨U,Z,BQ,E,Hc,k,hkn,AT,hρ,KD,rel,hnx,xK,kc,qA,hun,hhp,nk,w5,hs1⟩:=inv
 have hbf: ∀j,p.bf j i=true->L j:=by
  intro j hj;obtain⟨o',e,g1,g2,g3,g4⟩:=p.gen j i hj;rw [ho] at g1;simp at g1;subst g1;have:=hr e g2 g3;rcases g4 with rfl|g4
  ·exact this
  ·exact BQ j e.on g4 this
 have hii:p.bf i i≠true:=fun h=>hL (hbf i h);have u6:i<ops.size:=(amZ.1 ho).1
 have sr:SR E w.heap (p.S i) a:=by
  intro t x ht;rcases p.bF i o ho t x ht with ⟨j,oj,g1,g2,g3,g4⟩|⟨g1,g2⟩
  ·subst g4;exact hs1 j oj t (hbf j g1) g2 g3
  ·exact w5 t x g1 fun j oj hj hjt hLj=>hL (BQ i j (g2 j oj hj hjt) hLj)
 have Jc: ∀x j,p.bf x j=true->(j=i\/L j)->(x=i\/L x):=by
  intro x j hx hj;rcases hj with rfl|hj
  ·exact .inr (hbf x hx)
  ·exact .inr (BQ x j hx hj)
 have fin: ∀(u:Value) (E':En) (Nf:Hp) (w':World) (k':Nat),SL E Hc w E' Nf w'->bO E' Nf w'->VR E' w'.heap (p.val i) u->k'<=p.nE->(∀(j:Nat) (o:Oper),ops[j]?=some o->p.kd j= .e->((j=i\/L j)↔p.st j<k'))->
  Nf.next=(p.hp k').next->Nf.res=none->Hc.next<=Nf.next->(∀id,E'.dm id->E.dm id\/Hc.next<=id\/id=p.base+i)->(∀id x,(p.hp k').get id=some x->Nf.get id=some x)->
  (∀b x,(b=i\/L b)->p.un k' b=true->p.jX b=some x->Nf.get (p.base+b)=some x)->K (a.put o.dst u) w':=by
  intro u E' Nf w' k' q1 q2 q3 q4 q5 q6 q7 q8 q9 q10 q11;have kp:=q1.keeps rel;refine hk _ _ ⟨by rw [As.put_defers]; exact U,by rw [DI]; exact Z,Jc,E',Nf,k',q4,q5,q1.ρ.trans hρ,KD.trans q1,q2,q6,q7,bn kc q8,?_,?_,q10,q11,?_,?_⟩
  ·intro id h;rcases q9 id h with h|h|h
   ·exact qA id h
   ·right;have:=p.first.1;omega
   ·right;have:=p.first.1;omega
  ·intro j oj hj hn hdj;have hj2:=(amZ.1 hj).1;rcases q9 _ hdj with h|h|h
   ·exact hun j oj hj (fun h'=>hn (.inr h')) h
   ·omega
   ·exact hn (.inl J)
  ·intro t x ht Aj;obtain⟨y,g1,g2⟩:=w5 t x ht fun j oj hj hjt h'=>Aj j oj hj hjt (.inr h');exact⟨y,by rw [DJ (fun e=>Aj i o ho e (.inl rfl))]; exact g1,VR.keep kp _ _ g2⟩
  ·intro j oj t hj oU ht;by_cases hji:j=i
   ·subst hji;rw [ho] at oU;simp at oU;subst oU;rw [ht];exact⟨u,W! (by rw [Z]; exact hd o (Array.mem_toList_iff.2 (aoC ho)) t ht),q3⟩
   ·obtain⟨y,g1,g2⟩:=hs1 j oj t (hj.resolve_left hji) oU ht;refine⟨y,?_,VR.keep kp _ _ g2⟩;rw [DJ]
    ·exact g1
    ·intro h;exact hji (p.dst j i oj o t oU ho ht h)
 cases zn:p.kd i with
 |pa=>
  obtain⟨HA,N,g1,g2,g3,g4⟩:=p.pa i o ho zn;have hN:=g4 k hkn;have aln:=hun i o ho hL
  have r1:bO E ⟨.nil,N,some (p.base+i)⟩ w:=rel.part (by intro id x h; simp [Hp.get,Tr.get] at h) (by show Hc.next<=N; omega) (by
   intro q hq;simp at hq;subst hq
   exact⟨by show p.base+i<N; omega,aln⟩)
  refine g1.wpOp hρ r1 sr ho fun u E' w' st r' hv=>?_
  have hdn: ∀id,E'.dm id->E.dm id\/id=p.base+i:=by
   intro id h;rcases st.f_ id h with h|h|h
   ·exact .inl h
   ·have h':N<=id/\id<HA.next:=h;omega
   ·have h':some (p.base+i)=some id:=h;simp at h';exact .inr h'.symm
  obtain⟨Nf,f1,f2,f3,f4,f5,f6⟩:=frame rel (by intro id x h; simp [Hp.get,Tr.get] at h) st r' Hc.next (fun id hid h=>by
   rcases hdn id h with h|h
   ·exact rel.fresh id hid h
   ·omega)
  refine fin u E' Nf w' k f6 f5 hv hkn ?_ (by rw [f1,hnx]) f2 J (fun id h=>(hdn id h).elim .inl fun h=> .inr (.inr h)) ?_ ?_
  ·intro j oj oU hj;rw [<- AT j oj oU hj];constructor
   ·intro h;rcases h with rfl|h
    ·rw [zn] at hj; simp at hj
    ·exact h
   ·exact .inr
  ·intro id x h;exact f4 id x (hhp id x h) (by simp [Hp.get,Tr.get])
  ·intro b x hb hu hx;by_cases hbi:b=i
   ·subst hbi;rw [hx] at g3;exact f3 _ _ g3.symm
   ·exact f4 _ x (nk b x (hb.resolve_left hbi) hu hx) (by simp [Hp.get,Tr.get])
 |e=>
  obtain⟨Ko,g1,g2,g3,g4,g5⟩:=p.ev i o ho zn
  have Ow:k<=p.st i:=by
   rcases aW (p.st i) k with h|h
   ·exact absurd ((AT i o ho zn).2 h) hL
   ·exact h
  have hsk:p.st i=k:=by
   rcases aW k (p.st i) with h|h
   ·obtain⟨j,e1,e2,e3⟩:=p.aii i o ho zn k h;have hj:=hbf j e3;obtain⟨oj,oU⟩:=p.adH e3;have:=(AT j oj oU e1).1 hj;omega
   ·omega
  rw [hsk] at g1 g2 g4 g5;have hkE:=p.stl i o ho zn
  have nO: ∀id x,Ko.get id=some x->Hc.get id=some x:=by
   intro id x h;rcases g4 id x h with h|⟨b,e1,e2,rfl,e4⟩
   ·exact hhp id x h
   ·exact nk b x (hbf b e1) e2 e4
  have r1:bO E Ko w:=rel.part nO J (by rw [g3]; simp);refine g1.wpOp hρ r1 sr ho fun u E' w' st r' hv=>?_
  have hdn: ∀id,E'.dm id->E.dm id\/Hc.next<=id:=by
   intro id h;rcases st.f_ id h with h|h|h
   ·exact .inl h
   ·right; omega
   ·rw [g3] at h; simp at h
  obtain⟨Nf,f1,f2,f3,f4,f5,f6⟩:=frame rel nO st r' (p.hp (k+1)).next (fun id hid h=>r'.fresh id hid h)
  have amu:=st.N3;refine fin u E' Nf w' (k+1) f6 f5 hv J ?_ f1 f2 J (fun id h=>(hdn id h).elim .inl fun h=> .inr (.inl h)) f3 ?_
  ·intro j oj oU hj;constructor
   ·intro h;rcases h with rfl|h
    ·omega
    ·have:=(AT j oj oU hj).1 h;omega
   ·intro h;rcases aW (p.st j) k with h'|h'
    ·exact .inr ((AT j oj oU hj).2 h')
    ·exact .inl (p.inj j i hj zn J)
  ·intro b x hb hu hx;obtain⟨e1,e2⟩:=g5 b hu;by_cases hbi:b=i
   ·subst hbi;rw [p.nob b (by rw [zn]; simp)] at hx;simp at hx
   ·refine f4 _ x (nk b x (hb.resolve_left hbi) e1 hx) ?_
    cases hy:Ko.get (p.base+b) with
    |none=>rfl
    |some y=>
     exfalso;rcases g4 _ y hy with h|⟨c,c1,c2,c3,c4⟩
     ·rw [p.unm k b x hkn hx e1] at h;simp at h
     ·have:c=b:=J
      subst this;rw [e2] at c1;simp at c1
 |r=>
  have hk1: ∀j,p.kd j= .e->p.bf j i=true->p.st j<k:=by intro j hj hb;obtain⟨oj,oU⟩:=p.adH hb;exact (AT j oj oU hj).1 (hbf j hb)
  have CP: ∀(j:Nat) (oj:Oper),ops[j]?=some oj->p.kd j= .e->p.bf i j=true->k<=p.st j:=by
   intro j oj oU hj hb;rcases aW (p.st j) k with h|h
   ·exact absurd (BQ i j hb ((AT j oj oU hj).2 h)) hL
   ·exact h
  obtain⟨Ko,g1,g2,g3,g4⟩:=p.rd i o ho zn k hkn hk1 CP
  have nO: ∀id x,Ko.get id=some x->Hc.get id=some x:=by
   intro id x h;rcases g4 id x h with h|⟨b,e1,e2,rfl,e4⟩
   ·exact hhp id x h
   ·exact nk b x (hbf b e1) e2 e4
  have r1:bO E Ko w:=rel.part nO J (by rw [g3]; simp);refine g1.wpOp hρ r1 sr ho fun u E' w' st r' hv=>?_
  have hdn: ∀id,E'.dm id->E.dm id:=by
   intro id h;rcases st.f_ id h with h|h|h
   ·exact h
   ·omega
   ·rw [g3] at h; simp at h
  obtain⟨Nf,f1,f2,f3,f4,f5,f6⟩:=frame rel nO st r' Hc.next (fun id hid h=>rel.fresh id hid (hdn id h))
  have s8: ∀id x,Hc.get id=some x->Nf.get id=some x:=by
   intro id x h
   cases h':Ko.get id with
   |none=>exact f4 id x h h'
   |some y=> have:=nO id y h';rw [h] at this;simp at this;subst this;exact f3 id x h'
  refine fin u E' Nf w' k f6 f5 hv hkn ?_ (by rw [f1,hnx]) f2 J (fun id h=> .inl (hdn id h)) (fun id x h=>s8 id x (hhp id x h)) ?_
  ·intro j oj oU hj;rw [<- AT j oj oU hj];constructor
   ·intro h;rcases h with rfl|h
    ·rw [zn] at hj; simp at hj
    ·exact h
   ·exact .inr
  ·intro b x hb hu hx;by_cases hbi:b=i
   ·subst hbi;rw [p.nob b (by rw [zn]; simp)] at hx;simp at hx
   ·exact s8 _ x (nk b x (hb.resolve_left hbi) hu hx)
def left (l:Nat->Bool):Nat->Nat
 |0=>0
 |n+1=>left l n+(if l n then 0 else 1)
theorem Ra {l l':Nat->Bool} (h: ∀j,l j=true->l' j=true): ∀n,left l' n<=left l n
 |0=>au _
 |n+1=>by
  have:=Ra h n;simp only [left]
  grind
theorem QZ {l l':Nat->Bool} (h: ∀j,l j=true->l' j=true) {i:Nat} (U:l i=false) (Z:l' i=true): ∀n,i<n->left l' n<left l n
 |0,hi=>by omega
 |n+1,hi=>by
  have hle:=Ra h n;simp only [left];by_cases u6:i=n
  ·grind
  ·have:=QZ h U Z n J
   grind
theorem AQ {l:Nat->Bool}: ∀n,left l n=0->∀i,i<n->l i=true
 |0,_,i,hi=>by omega
 |n+1,h,i,hi=>by
  simp only [left] at h;by_cases u6:i=n
  ·grind
  ·exact AQ n J i J
theorem Fz.TA (q:Fz P ρ ops pd H0) {listed:Array Bool} (gT:listed.size=ops.size) (h:Region.ready .any ops listed= []): ∀i,i<ops.size->listed[i]?=some true:=by
 intro i
 induction i using Nat.strongRecOn with
 |_ i ih=>
  intro hi
  cases Y:listed[i]? with
  |none=>rw [aoT] at Y; omega
  |some b=>
   cases b with
   |true=>rfl
   |false=>
    exfalso;have ho:ops[i]?=some ops[i]:=by simp [hi]
    have:i∈Region.ready .any ops listed:=by rw [mem_ready];refine⟨by simp [Y],ops[i],ho,fun e he hb=>?_⟩;have ff:=q.back i _ ho e he hb;simp [ih e.on ff J]
    grind
theorem Fz.any {E0:En} {a0:Act} {w0:World} (hd: ∀o∈ops.toList,∀d,o.dst=some d->d<a0.tmps.size) {Q:Exit->Act->World->Prop} (hq: ∀a w,p.Inv E0 a0 w0 (fun i=>i<ops.size) a w->Q .normal a w) :
 ∀(fuel:Nat) (listed:Array Bool) (a:Act) (w:World),listed.size=ops.size->left (fun i=>listed.getD i true) ops.size<=fuel->p.Inv E0 a0 w0 (fun i=>listed[i]?=some true) a w->wpAny P .any ops Q fuel listed a w:=by
 have YF: ∀(listed:Array Bool) (a:Act) (w:World),listed.size=ops.size->p.Inv E0 a0 w0 (fun i=>listed[i]?=some true) a w->Region.ready .any ops listed= []->Q .normal a w:=by
  intro listed a w gT inv nP;have s8:=p.TA gT nP;refine hq a w ?_
  have:(fun i=>listed[i]?=some true)=(fun i=>i<ops.size):=by
   grind
  grind
 intro fuel
 induction fuel with
 |zero=>
  intro listed a w gT RG inv;have s8:=AQ (l:=fun i=>listed.getD i true) ops.size J
  have nP:Region.ready .any ops listed= []:=by
   rw [aog];intro i hi;rw [mem_ready] at hi
   grind
  exact⟨nP,YF listed a w gT inv nP⟩
 |succ fuel ih=>
  intro listed a w gT RG inv;refine⟨YF listed a w gT inv,fun i hi=>?_⟩;rw [mem_ready] at hi;obtain⟨U,o,Z,h3⟩:=hi;have u6:=(amZ.1 Z).1
  have ra:listed[i]?=some false:=by simp_all
  refine p.step hd inv Z (by rw [ra]; simp) (fun e he hb=>?_) fun a' w' amA=>?_
  ·have:=h3 e he hb
   cases hc:listed[e.on]? with
   |none=>simp [hc] at this
   |some b=>simp [hc] at this; rw [this]
  ·refine ih _ a' w' (by simpa using gT) ?_ ?_
   ·have:=QZ (l:=fun j=>listed.getD j true) (l':=fun j=>(listed.setIfInBounds i true).getD j true) (i:=i) (fun j hj=>?_) U ?_ ops.size u6
    ·omega
    ·by_cases hij:i=j
     all_goals simp_all
    simp_all
   grind
theorem Fz.start {E0:En} {s0:St} {a0:Act} {w0:World} (hs:s0.bF=pd) (hh:s0.h=H0) (hρ:E0.ρ=ρ) (fit:Fit E0 s0 a0 w0) (listed:Array Bool) (Y: ∀(i:Nat),listed[i]?≠some true):p.Inv E0 a0 w0 (fun i=>listed[i]?=some true) a0 w0:=by
 subst hs hh;obtain⟨U,Z,h3⟩:=p.first;have rel:=fit.rel;have r1:bO E0 ⟨s0.h.m,(p.hp 0).next,none⟩ w0:=rel.part (fun id x h=>h) (by show s0.h.next<=(p.hp 0).next; omega) ad;refine⟨rfl,rfl,fun i j _ h=>absurd h (Y j),E0,⟨s0.h.m,(p.hp 0).next,none⟩,0,am5 _,fun j o _ _=> ⟨fun h=>absurd h (Y j),fun h=>by omega⟩,hρ,?_,r1,rfl,rfl,Z,fun id h=> .inl h,?_,fun id x h=>h3 id x h,fun b x h=>absurd h (Y b),?_,fun j oj t h=>absurd h (Y j)⟩
 ·have:=(eU.refl E0 s0.h w0).akU;exact⟨this.ρ,this.dm,this.θ,this.κ,this.ro,this.ru,this.os,this.tape,this.output,this.size,this.keep,this.own,this.hd⟩
 ·intro i o _ _ qA;exact rel.fresh _ J qA
 ·intro t x ht _;exact fit.sr t x ht
theorem Fz.finish {E0:En} {s0 s':St} {a0 a:Act} {w0 w:World} (hh:s0.h=H0) (inv:p.Inv E0 a0 w0 (fun i=>i<ops.size) a w) (hpc:bV ρ s'.pc)
 (alq: ∀t x,s'.bF.get t=some x->(∃(j:Nat) (oj:Oper),ops[j]?=some oj/\oj.dst=some t/\p.val j=x)\/(pd.get t=some x/\∀(j:Nat) (oj:Oper),ops[j]?=some oj->oj.dst≠some t))
 (amv: ∀id x,s'.h.get id=some x->(p.hp p.nE).get id=some x\/∃b,b<ops.size/\p.un p.nE b=true/\id=p.base+b/\p.jX b=some x)
 (acx:(p.hp p.nE).next=s'.h.next) (xK:s'.h.res=none) (s8: ∀(m:Nat),m<p.nE->∃(j:Nat) (o:Oper),ops[j]?=some o/\p.kd j= .e/\p.st j=m):mM E0 s0 a0 w0 s' a w:=by
 subst hh;obtain⟨U,Z,BQ,E,Hc,k,hkn,AT,hρ,KD,rel,hnx,Oq,kc,qA,hun,hhp,nk,w5,hs1⟩:=inv
 have hk:k=p.nE:=by
  rcases aW k p.nE with h|h
  all_goals grind
 subst hk
 have nO: ∀id x,s'.h.get id=some x->Hc.get id=some x:=by
  intro id x h
  grind
 have hf:=p.first.1;refine⟨U,Z,E,?_,rel.part nO J (by rw [xK]; simp),?_,by rw [hρ]; exact hpc⟩
 ·refine SL.WY ⟨KD.ρ,KD.dm,KD.θ,KD.κ,KD.ro,KD.ru,KD.os,KD.tape,KD.output,KD.size,KD.keep,fun id o h=>KD.own id o (nO id o h),KD.hd⟩ J xK fun id h=>?_;rcases qA id h with g|g
  ·grind
  ·right;refine⟨g,?_⟩;rcases aW id s'.h.next with g'|g'
   ·exact g'
   ·exact absurd h (rel.fresh id J)
 ·intro t x ht
  grind
end
end
end Go.As
end
section
namespace Go.As
noncomputable section
mutual
def eM:W->W->Bool
 | .bool a,.bool b=>oe a b
 | .int k a,.int l b=>decide (k=l)&&eV a b
 | .str a,.str b=>decide (a=b)
 | .ptr i o,.ptr j p=>decide (i=j)&&decide (o=p)
 | .sL,.sL=>true
 | .mK a,.mK b=>iA a b
 | .slice i o l c,.slice j p m d=>decide (i=j)&&decide (o=p)&&decide (l=m)&&decide (c=d)
 | .dq,.dq=>true
 | .ro a n f,.ro b m g=>iA a b&&decide (n=m)&&decide (f=g)
 | .map i,.map j=>decide (i=j)
 | .qX,.qX=>true
 | .func f a b,.func g c d=>decide (f=g)&&iA a c&&iA b d
 | .uR,.uR=>true
 | .iface t v,.iface u x=>decide (t=u)&&eM v x
 | .wI,.wI=>true
 | .agg a,.agg b=>iA a b
 | .tuple a,.tuple b=>iA a b
 | .Kh i,.Kh j=>decide (i=j)
 | .v7 i a,.v7 j b=>decide (i=j)&&decide (a=b)
 | .emp,.emp=>true
 | .ei a t,.ei b u=>eV a b&&Nat.beq t u
 | .jC a,.jC b=>eV a b
 | .ow i n t,.ow j m u=>Nat.beq i j&&eV n m&&Nat.beq t u
 | .yi i a x o,.yi j b y p=>Nat.beq i j&&Nat.beq a b&&eV x y&&Nat.beq o p
 | .sk i l n t,.sk j k m u=>Nat.beq i j&&eV l k&&eV n m&&Nat.beq t u
 | .any,.any=>true
 | .wL a t,.wL b u=>eV a b&&Nat.beq t u
 |_,_=>false
def iA:List W->List W->Bool
 |[],[]=>true
 |x::xs,y::ys=>eM x y&&iA xs ys
 |_,_=>false
end
mutual
theorem jE: ∀(x y:W),eM x y=true->x=y
 | .bool a,y,h=>by cases y<;>simp [eM] at h<;>rw [rI _ _ h]
 | .int k a,y,h=>by cases y<;>simp [eM] at h<;>rw [h.1,cG _ _ h.2]
 | .str a,y,h=>by cases y<;>simp [eM] at h<;>simp [h]
 | .ptr i o,y,h=>by cases y<;>simp [eM] at h<;>simp [h]
 | .sL,y,h=>by cases y<;>simp [eM] at h<;>rfl
 | .mK a,y,h=>by cases y<;>simp [eM] at h; rw [fL _ _ h]
 | .slice i o l c,y,h=>by cases y<;>simp [eM] at h<;>simp [h]
 | .dq,y,h=>by cases y<;>simp [eM] at h<;>rfl
 | .ro a n f,y,h=>by cases y<;>simp [eM] at h; rw [fL _ _ h.1.1,h.1.2,h.2]
 | .map i,y,h=>by cases y<;>simp [eM] at h<;>simp [h]
 | .qX,y,h=>by cases y<;>simp [eM] at h<;>rfl
 | .func f a b,y,h=>by cases y<;>simp [eM] at h; rw [h.1.1,fL _ _ h.1.2,fL _ _ h.2]
 | .uR,y,h=>by cases y<;>simp [eM] at h<;>rfl
 | .iface t v,y,h=>by cases y<;>simp [eM] at h; rw [h.1,jE _ _ h.2]
 | .wI,y,h=>by cases y<;>simp [eM] at h<;>rfl
 | .agg a,y,h=>by cases y<;>simp [eM] at h; rw [fL _ _ h]
 | .tuple a,y,h=>by cases y<;>simp [eM] at h; rw [fL _ _ h]
 | .Kh i,y,h=>by cases y<;>simp [eM] at h<;>simp [h]
 | .v7 i a,y,h=>by cases y<;>simp [eM] at h<;>simp [h]
 | .emp,y,h=>by cases y<;>simp [eM] at h<;>rfl
 | .ei a t,y,h=>by cases y<;>simp [eM] at h<;>rw [h.2,cG _ _ h.1]
 | .jC a,y,h=>by cases y<;>simp [eM] at h<;>rw [cG _ _ h]
 | .ow i n t,y,h=>by cases y<;>simp [eM] at h<;>rw [h.1.1,cG _ _ h.1.2,h.2]
 | .yi i a x o,y,h=>by cases y<;>simp [eM] at h<;>rw [h.1.1.1,h.1.1.2,cG _ _ h.1.2,h.2]
 | .sk i l n t,y,h=>by cases y<;>simp [eM] at h<;>rw [h.1.1.1,cG _ _ h.1.1.2,cG _ _ h.1.2,h.2]
 | .any,y,h=>by cases y<;>simp [eM] at h<;>rfl
 | .wL a t,y,h=>by cases y<;>simp [eM] at h<;>rw [h.2,cG _ _ h.1]
theorem fL: ∀(xs ys:List W),iA xs ys=true->xs=ys
 |[],ys,h=>by cases ys<;>simp [iA] at h; rfl
 |x::xs,ys,h=>by
  cases ys with
  |nil=>simp [iA] at h
  |cons y ys=>simp [iA] at h; rw [jE _ _ h.1,fL _ _ h.2]
end
def DR (o:Op):List Nat:=o.operands.toList.filterMap fun
 | .tmp t=>some t
 |_=>none
def reads (all:List Oper) (o:Oper):List Nat:=match o.guard with
 |none=>DR o.op
 |some (j,_)=>match eZ all j with
  |some oj=>match oj.dst with
   |some d=>d::DR o.op
   |none=>DR o.op
  |none=>DR o.op
def kindOf (tt:TT):Op->Kind
 | .load _ _=> .r
 | .lookup _ _ _ _=> .r
 | .call c=>match c.callee with
   | .builtin b=>match b with
     | .len=> .r
     | .min=> .pa
     | .max=> .pa
     |_=> .e
   |_=> .e
 | .store _ _ _=> .e
 | .insert _ _ _ _=> .e
 | .mapUpdate _ _ _ _=> .e
 | .next _ _=> .e
 | .range _ _=> .e
 | .convert t u _=>match tt t with
   |some i=>match i.kind with
    | .slice _=>match tt u with
      |some j=>match j.kind with
       | .string=> .r
       |_=> .e
      |none=> .e
    |_=> .pa
   |none=> .e
 | .panic _=> .e
 |_=> .pa
def n6 (ms:List Nat):List Edge->Nat
 |[]=>0
 |e::es=>if Region.binds .any e then ((1 <<<e.on)|||ms.getD e.on 0)|||n6 ms es else n6 ms es
def qx:List Oper->List Nat->List Nat
 |[],ms=>ms
 |o::os,ms=>qx os (ms++ [n6 ms o.after.toList])
structure Item where
 i:Nat
 o:Oper
 m:Nat
 k:Kind
 st:Nat
 rd:List Nat
def items (tt:TT) (all:List Oper) (ms:List Nat):List Oper->Nat->Nat->List Item
 |[],_,_=>[]
 |o::os,i,n=> ⟨i,o,ms.getD i 0,kindOf tt o.op,n,reads all o⟩ ::items tt all ms os (i+1) (match kindOf tt o.op with | .e=>n+1|_=>n)
def Kind.isE:Kind->Bool
 | .e=>true
 |_=>false
def Kind.isR:Kind->Bool
 | .r=>true
 |_=>false
def xy (ms:List Nat) (is:List Item) (x:Item):Bool:=
 x.o.after.toList.all (fun e=>!Region.binds .any e||decide (e.on<x.i))&&
 decide (x.m=n6 ms x.o.after.toList)&&
 x.rd.all (fun t=>is.all fun y=>decide (y.o.dst≠some t)||x.m.testBit y.i||(!x.k.isR&&y.m.testBit x.i))&&
 is.all (fun y=>decide (y.i=x.i)||(match y.o.dst with |some d=>decide (x.o.dst≠some d)|none=>true))&&
 (!x.k.isE||is.all fun y=>!y.k.isE||!decide (y.i<x.i)||x.m.testBit y.i)
def Aw (is:List Item) (n:Nat) (x:Item):List Nat:=
 (List.range (n+1)).filter fun k=>is.all fun y=>!y.k.isE||((!x.m.testBit y.i||decide (y.st<k))&&(!y.m.testBit x.i||decide (k<=y.st)))
structure Stat where
 is:List Item
 nE:Nat
 rs:List (Item×List Nat)
def jM:List Item->Nat
 |[]=>0
 |x::xs=>match x.k with | .e=>jM xs+1|_=>jM xs
def stat (tt:TT) (all:List Oper):Option Stat:=
 let ms:=qx all [];let is:=items tt all ms all 0 0
 if is.all (xy ms is) then
  some ⟨is,jM is,(is.filter (·.k.isR)).map fun x=>(x,Aw is (jM is) x)⟩
 else none
def only (bF:Tr W):List Nat->Tr W
 |[]=> .nil
 |t::ts=>match bF.get t with
  |some v=>(only bF ts).put t (some v)
  |none=>only bF ts
structure PI where
 bF:Tr W
 lT:List (Hp×Nat)
 hZ:List (Nat×dN)
 BE:List (Option dN)
 vs:List W
def fF (base bm mm:Nat):List (Nat×dN)->Hp->Hp
 |[],h=>h
 |(a,x)::r,h=>if bm.testBit a&&!mm.testBit a then (fF base bm mm r h).put (base+a) x else fF base bm mm r h
def F! (tt:TT) (call:eu) (all:List Oper) (o:Oper) (s:St):T (W×St):=
 vQ all s o fun s b=>if b then Jw tt call s o.op else .ret (W.undef,s)
def uE (bF:Tr W) (d:Option Nat) (v:W):Tr W:=match d with
 |some t=>bF.put t (some v)
 |none=>bF
def i! (tt:TT) (call:eu) (all:List Oper) (base N:Nat) (pc:List (SB×Bool)) (x:Item) (d:PI):T PI:=
 match d.lT with
 |[]=> .fail
 |(h,mm)::rest=>
  match x.k with
  | .pa=>(F! tt call all x.o ⟨only d.bF x.rd,⟨.nil,N,some (base+x.i)⟩,pc⟩).bind fun (v,s')=>
    if s'.h.next=N then
     .ret ⟨uE d.bF x.o.dst v,d.lT,match s'.h.get (base+x.i) with |some b=>(x.i,b)::d.hZ|none=>d.hZ,s'.h.get (base+x.i)::d.BE,v::d.vs⟩
    else .fail
  | .e=>(F! tt call all x.o ⟨only d.bF x.rd,fF base x.m mm d.hZ h,pc⟩).bind fun (v,s')=>
    if s'.h.next<=N/\s'.h.res=none then
     .ret ⟨uE d.bF x.o.dst v,(s'.h,mm|||x.m)::(h,mm)::rest,d.hZ,none::d.BE,v::d.vs⟩
    else .fail
  | .r=>(F! tt call all x.o ⟨only d.bF x.rd,fF base x.m mm d.hZ h,pc⟩).bind fun (v,_)=>
    .ret ⟨uE d.bF x.o.dst v,d.lT,d.hZ,none::d.BE,v::d.vs⟩
def T.Ad {α β:Type} (pc:List (SB×Bool)) (f:List (SB×Bool)->α->T β):T α->T β
 | .fail=> .fail
 | .ret a=>f pc a
 | .split c x y=>match jQ pc c with
   |some true=>T.Ad pc f x
   |some false=>T.Ad pc f y
   |none=> .split c (T.Ad ((c,true)::pc) f x) (T.Ad ((c,false)::pc) f y)
def UG (tt:TT) (call:eu) (all:List Oper) (base N:Nat):List Item->List (SB×Bool)->PI->T (List (SB×Bool)×PI)
 |[],pc,d=> .ret (pc,d)
 |x::xs,pc,d=>(i! tt call all base N pc x d).Ad pc (UG tt call all base N xs)
def CB (tt:TT) (call:eu) (all:List Oper) (base:Nat) (pc:List (SB×Bool)) (x:Item) (v:W) (S:Tr W) (hZ:List (Nat×dN)) (lT:List (Hp×Nat)):List Nat->T Unit
 |[]=> .ret ()
 |k::ks=>match eZ lT k with
  |some (h,mm)=>(F! tt call all x.o ⟨S,fF base x.m mm hZ h,pc⟩).bind fun (u,_)=>
   if eM u v then CB tt call all base pc x v S hZ lT ks else .fail
  |none=> .fail
def IA (tt:TT) (call:eu) (all:List Oper) (base:Nat) (d:PI) (lT:List (Hp×Nat)) (vs:List W):List (Item×List Nat)->List (SB×Bool)->T (List (SB×Bool))
 |[],pc=> .ret pc
 |(x,ks)::r,pc=>match eZ vs x.i with
  |some v=>(CB tt call all base pc x v (only d.bF x.rd) d.hZ lT ks).Ad pc fun pc _=>IA tt call all base d lT vs r pc
  |none=> .fail
def Ib (base:Nat) (hZ:List (Nat×dN)) (lT:List (Hp×Nat)):Bool:=
 hZ.all fun (a,_)=>lT.all fun (h,mm)=>mm.testBit a||(h.get (base+a)).isNone
def EZ (tt:TT) (call:eu) (all:List Oper) (q:Stat) (s:St):T St:=
 match s.h.res with
 |some _=> .fail
 |none=>
 let base:=s.h.next;let n:=all.length;let N:=base+n+1099511627776
 (UG tt call all base N q.is s.pc ⟨s.bF,[(⟨s.h.m,base+n,none⟩,0)],[],[],[]⟩).bind fun (pc,d)=>
  match d.lT with
  |[]=> .fail
  |(h,mm)::_=>
   (IA tt call all base d d.lT.reverse d.vs.reverse q.rs pc).bind fun pc=>
    if Ib base d.hZ d.lT then .ret ⟨d.bF,fF base ((1 <<<n)-1) mm d.hZ h,pc⟩ else .fail
def draw (tt:TT) (call:eu) (all:List Oper) (s:St):T St:=
 match stat tt all with
 |none=> .fail
 |some q=>EZ tt call all q s
end
end Go.As
end
section
namespace Go.As
section
variable {P:Program}
theorem JL [bH] {tt:TT} (cI:eC P tt) {call:eu} (hc:im P call) {ops:Array Oper} {o:Oper} {s s':St} {v:W} {ρ:Nat->Int} (hp:bV ρ s.pc) (h:(F! tt call ops.toList o s).leaf ρ=some (v,s')) :
 FG P ρ ops o s.bF s.h v s'.h:=by
 intro E a w hρ r sr;subst hρ;unfold F! at h;obtain⟨ec,fB,U⟩:=DS ⟨r,sr,hp⟩ h;cases hw:Region.wanted o (yielded ops a.tmps)<;>rw [hw] at U
 ·grind [bD]
 ·simp only [if_true] at U;obtain⟨_,_,q3⟩:=RX cI hc (s:={ s with pc:=ec }) (o:=o) r sr fB U;exact .inr ⟨rfl,q3⟩
theorem iC {α:Type} {ρ:Nat->Int} {s:St} {c:SB} {f:St->Bool->T α} {r:α} (h:(jo s c f).leaf ρ=some r): ∃ec b,(f { s with pc:=ec } b).leaf ρ=some r:=by
 unfold jo at h;split at h
 ·rename_i b _; exact⟨s.pc,b,h⟩
 grind [T.leaf]
theorem IJ {α:Type} {ρ:Nat->Int} {s:St} {all:List Oper} {o:Oper} {f:St->Bool->T α} {r:α} (h:(vQ all s o f).leaf ρ=some r): ∃ec b,(f { s with pc:=ec } b).leaf ρ=some r:=by
 unfold vQ at h;split at h
 ·exact⟨s.pc,true,h⟩
 ·split at h
  ·split at h
   ·split at h
    ·obtain⟨ec,b,U⟩:=iC h; exact⟨ec,_,U⟩
    ·exact⟨s.pc,_,h⟩
    grind [T.leaf]
   grind [T.leaf]
  grind [T.leaf]
theorem DT {ρ:Nat->Int} {s:St} {x:Operand} {f:W->T (W×St)} {r:W×St} (h:(yR s x f).leaf ρ=some r): ∃v,(f v).leaf ρ=some r:=by
 grind [yR,T.leaf]
theorem vN {ρ:Nat->Int} {s s':St} {x:Option W} {v:W} (h:(pn s x).leaf ρ=some (v,s')):s'=s:=by
 unfold pn at h
 grind [bD,T.leaf]
theorem afh {tt:TT} {op:Op} (h:kindOf tt op= .r):(∃t x,op= .load t x)\/(∃t x i ok,op= .lookup t x i ok)\/(∃c:Call,op= .call c/\c.callee= .builtin .len)\/∃t u x i j e,op= .convert t u x/\tt t=some i/\i.kind= .slice e/\tt u=some j/\j.kind= .string:=by
 unfold kindOf at h;split at h<;>try (simp at h; done)
 all_goals grind
theorem GO {α:Type} {ρ:Nat->Int} {s:St} {i n:V} {f:St->T α} {r:α} (h:(yS s i n f).leaf ρ=some r): ∃ec,(f { s with pc:=ec }).leaf ρ=some r:=by
 unfold yS at h;obtain⟨fI,b1,U⟩:=iC h;split at U
 ·grind [T.leaf]
 ·obtain⟨jG,b2,Z⟩:=iC U
  grind [T.leaf]
theorem tw {α:Type} {ρ:Nat->Int} {kk:TK} {k:W} {r:α} {f:St->T α}: ∀{es:List (W×W×Nat)} {s:St},(tx kk k es s f).leaf ρ=some r->∃ec,(f { s with pc:=ec }).leaf ρ=some r
 |[],s,h=> ⟨s.pc,h⟩
 |(k',v,b)::es,s,h=>by
  simp only [tx] at h;split at h
  ·split at h
   ·exact⟨s.pc,h⟩
   ·exact tw h
  ·split at h
   ·obtain⟨fI,b1,U⟩:=iC h;split at U
    ·grind
    ·obtain⟨jG,Z⟩:=tw U
     grind
   ·exact⟨s.pc,h⟩
theorem FJ {α:Type} {ρ:Nat->Int} {tt:TT} {t:Nat} {m k:W} {r:α} {f:St->T α} {s:St} (h:(nH tt t m k s f).leaf ρ=some r): ∃ec,(f { s with pc:=ec }).leaf ρ=some r:=by
 unfold nH at h;split at h
 ·split at h
  ·split at h
   ·split at h
    ·exact tw h
    ·exact⟨s.pc,h⟩
   ·exact⟨s.pc,h⟩
  ·exact⟨s.pc,h⟩
 ·exact⟨s.pc,h⟩
theorem aaO {s s':St} {cs:List W} {e:V} {v:W} {ρ:Nat->Int} (h:(HB s cs e).leaf ρ=some (v,s')):s'.h=s.h:=by
 grind [HB,T.leaf,GO,bD]
theorem UA {tt:TT} {s s':St} {ty t:Nat} {k:W} {ok:Bool} {e:V} {v:W} {ρ:Nat->Int} (h:(zK tt ty k ok e t s).leaf ρ=some (v,s')):s'.h=s.h:=by
 unfold zK at h;split at h
 ·grind [T.leaf]
 ·split at h
  ·grind [T.leaf]
  ·obtain⟨ec,b,U⟩:=iC h
   grind [bD]
theorem Bk {α:Type} {ρ:Nat->Int} {i:V} {r:α}: ∀{ov:List (V×List W)} {s:St} {k:St->T α},(uz i ov s k).leaf ρ=some r->∃ec,(k { s with pc:=ec }).leaf ρ=some r
 |[],s,k,h=> ⟨s.pc,h⟩
 |(j,c)::l,s,k,h=>by
  simp only [uz] at h;split at h
  ·exact⟨s.pc,h⟩
  ·obtain⟨fI,b1,U⟩:=iC h;split at U
   ·grind
   ·obtain⟨jG,Z⟩:=Bk U
    grind
theorem UB {tt:TT} {s s':St} {ty id es off:Nat} {i:V} {v:W} {ρ:Nat->Int} (h:(zL tt s ty id es i off).leaf ρ=some (v,s')):s'.h=s.h:=by
 unfold zL at h;split at h
 ·split at h
  ·grind [T.leaf,aaO]
  ·split at h
   all_goals grind [GO,Bk,vN,T.leaf]
  grind [T.leaf]
 grind [T.leaf]
theorem zD {α:Type} {ρ:Nat->Int} {x:V} {r:α}: ∀{ov:List (V×W)} {s:St} {k:Option W->St->T α},(tk x ov s k).leaf ρ=some r->∃o ec,(k o { s with pc:=ec }).leaf ρ=some r
 |[],s,k,h=> ⟨none,s.pc,h⟩
 |(j,c)::l,s,k,h=>by
  simp only [tk] at h;split at h
  ·exact⟨_,s.pc,h⟩
  ·obtain⟨fI,b1,U⟩:=iC h;split at U
   ·exact⟨_,fI,U⟩
   ·obtain⟨o,jG,Z⟩:=zD U;exact⟨o,jG,Z⟩
theorem Uz {tt:TT} {ty:Nat} {k:W} {ok:Bool} {e:V} {ov:List (V×W)} {s s':St} {v:W} {ρ:Nat->Int} (h:(zJ tt ty k ok e ov s).leaf ρ=some (v,s')):s'.h=s.h:=by
 unfold zJ at h;split at h
 ·simp [T.leaf] at h
 ·split at h
  ·simp [T.leaf] at h
  ·obtain⟨o,fI,U⟩:=zD h;split at U
   ·have:=bD U;simp only [ak] at this;rw [<- this.2]
   ·obtain⟨jG,b2,Z⟩:=iC U;split at Z
    ·have:=bD Z;simp only [ak] at this;rw [<- this.2]
    ·simp [T.leaf] at Z
theorem afW {tt:TT} {call:eu} {op:Op} {s s':St} {v:W} {ρ:Nat->Int} (hk:kindOf tt op= .r) (h:(Jw tt call s op).leaf ρ=some (v,s')):s'.h=s.h:=by
 rcases afh hk with ⟨t,x,rfl⟩|⟨t,x,i,ok,rfl⟩|⟨c,rfl,hc⟩|⟨t,u,x,i,j,e,rfl,hi,he,hj,hs⟩
 ·grind [Jw,DT,UB,vN]
 ·grind [Jw,DT,UA,Uz,FJ,vN,T.leaf]
 ·simp only [Jw,JF] at h;split at h
  ·grind [T.leaf]
  ·rw [hc] at h;simp only [wu] at h
   grind [vN,T.leaf]
 ·simp only [Jw] at h;obtain⟨p,U⟩:=DT h;split at U
  ·grind [CZ,T.leaf]
  obtain⟨H,e1,rfl⟩:=pj U;unfold oW at e1;rw [hi,hj] at e1;simp only [hs,he] at e1;split at e1
  ·grind
  ·split at e1
   ·split at e1
    ·grind
    ·split at e1
     ·rw [aQ] at e1
      grind
     grind
    grind
   grind
theorem aj2 {tt:TT} {call:eu} {all:List Oper} {o:Oper} {s s':St} {v:W} {ρ:Nat->Int} (hk:kindOf tt o.op= .r) (h:(F! tt call all o s).leaf ρ=some (v,s')):s'.h=s.h:=by
 unfold F! at h;obtain⟨ec,b,U⟩:=IJ h;cases b
 ·grind [bD]
 ·simp only [if_true] at U;exact afW (s:={ s with pc:=ec }) hk U
theorem n9 {base bm mm:Nat}: ∀{l:List (Nat×dN)} {h:Hp} {id:Nat} {x:dN},(fF base bm mm l h).get id=some x->h.get id=some x\/∃a,(a,x)∈l/\bm.testBit a=true/\mm.testBit a=false/\id=base+a
 |[],h,id,x,hh=> .inl hh
 |(a,y)::r,h,id,x,hh=>by
  simp only [fF] at hh;split at hh
  ·rename_i hb;rw [Hp.bQ] at hh;split at hh
   ·rename_i e
    grind
   ·rcases n9 hh with U|⟨b,U,Z⟩
    all_goals grind
  ·rcases n9 hh with U|⟨b,U,Z⟩
   all_goals grind
theorem jm {base bm mm:Nat}: ∀(l:List (Nat×dN)) (h:Hp),(fF base bm mm l h).next=h.next/\(fF base bm mm l h).res=h.res
 |[],h=> ⟨rfl,rfl⟩
 |(a,y)::r,h=>by
  have:=jm (base:=base) (bm:=bm) (mm:=mm) r h;simp only [fF];split
  ·exact this
  grind
theorem yQ {bF:Tr W}: ∀{ts:List Nat} {t:Nat} {x:W},(only bF ts).get t=some x->t∈ts/\bF.get t=some x
 |[],t,x,h=>by simp [only,Tr.get] at h
 |u::us,t,x,h=>by
  simp only [only] at h;split at h
  ·rename_i v hv;rw [Tr.bQ] at h;split at h
   ·rename_i e
    grind
   ·have:=yQ h
    grind
  ·have:=yQ h
   grind
theorem vL {bF:Tr W} {d:Option Nat} {v:W} {t:Nat}:(uE bF d v).get t=if d=some t then some v else bF.get t:=by
 cases d with
 |none=>simp [uE]
 |some u=>
  grind [uE,Tr.bQ]
theorem oN {ms:List Nat} {i:Nat}: ∀{es:List Edge},(n6 ms es).testBit i=true->∃e∈es,Region.binds .any e=true/\(e.on=i\/(ms.getD e.on 0).testBit i=true)
 |[],h=>by simp [n6] at h
 |e::es,h=>by
  simp only [n6] at h;split at h
  ·rename_i hb;simp only [Nat.testBit_or,anz] at h;rcases h with (h|h)|h
   ·rw [Nat.shiftLeft_eq,ann,Nat.testBit_two_pow] at h
    grind
   ·grind
   ·obtain⟨e',U,Z⟩:=oN h
    grind
  ·obtain⟨e',U,Z⟩:=oN h
   grind
def jl (tt:TT):List Oper->Nat
 |[]=>0
 |o::os=>(match kindOf tt o.op with | .e=>1|_=>0)+jl tt os
theorem jH {tt:TT} {all:List Oper} {ms:List Nat}: ∀(os:List Oper) (i n j:Nat),(items tt all ms os i n)[j]?=(os[j]?).map fun o=> ⟨i+j,o,ms.getD (i+j) 0,kindOf tt o.op,n+jl tt (os.take j),reads all o⟩
 |[],i,n,j=>by simp [items]
 |o::os,i,n,j=>by
  simp only [items]
  cases j with
  |zero=>simp [jl]
  |succ j=>
   rw [aK,jH os]
   grind [jl]
theorem sP {tt:TT} {all:List Oper} {ms:List Nat}: ∀(os:List Oper) (i n:Nat),(items tt all ms os i n).length=os.length
 |[],i,n=>rfl
 |o::os,i,n=>by simp [items,sP os]
theorem mG {tt:TT} {all:List Oper} {ms:List Nat}: ∀(os:List Oper) (i n:Nat),jM (items tt all ms os i n)=jl tt os
 |[],i,n=>rfl
 |o::os,i,n=>by
  simp only [items,jM,jl,mG os]
  grind
end
section
variable {P:Program}
def Fx [bH] (P:Program) (ρ:Nat->Int) (ops:Array Oper) (base N:Nat) (x:Item) (d:PI) (v:W) (ob:Option dN) (d1:PI):Prop:=
 ∃h mm rest,d.lT=(h,mm)::rest/\match x.k with
  | .pa=>d1.lT=d.lT/\∃HA,FG P ρ ops x.o (only d.bF x.rd) ⟨.nil,N,some (base+x.i)⟩ v HA/\HA.next=N/\ob=HA.get (base+x.i)
  | .e=>ob=none/\∃hn,d1.lT=(hn,mm|||x.m)::d.lT/\hn.next<=N/\hn.res=none/\FG P ρ ops x.o (only d.bF x.rd) (fF base x.m mm d.hZ h) v hn
  | .r=>ob=none/\d1.lT=d.lT
theorem i_ [bH] {tt:TT} (cI:eC P tt) {call:eu} (hc:im P call) {ops:Array Oper} {base N:Nat} {pc:List (SB×Bool)} {ρ:Nat->Int} (hp:bV ρ pc) {x:Item} {d d1:PI} (h:(i! tt call ops.toList base N pc x d).leaf ρ=some d1) :
 ∃v ob,d1.bF=uE d.bF x.o.dst v/\d1.vs=v::d.vs/\d1.BE=ob::d.BE/\d1.hZ=(match ob with |some b=>(x.i,b)::d.hZ|none=>d.hZ)/\Fx P ρ ops base N x d v ob d1:=by
 unfold i! at h;split at h
 ·grind [T.leaf]
 ·rename_i h0 mm rest hs;split at h
  ·rename_i hk;obtain⟨⟨v,s'⟩,U,Z⟩:=T.fh h;have ha:=JL cI hc (s:=⟨only d.bF x.rd,⟨.nil,N,some (base+x.i)⟩,pc⟩) hp U;simp only at Z;split at Z
   ·rename_i hn;have:=bD Z;subst this;refine⟨v,s'.h.get (base+x.i),rfl,rfl,rfl,?_,h0,mm,rest,hs,?_⟩
    all_goals grind
   grind [T.leaf]
  ·rename_i hk;obtain⟨⟨v,s'⟩,U,Z⟩:=T.fh h;have ha:=JL cI hc (s:=⟨only d.bF x.rd,fF base x.m mm d.hZ h0,pc⟩) hp U;simp only at Z;split at Z
   ·rename_i hn;have:=bD Z;subst this;refine⟨v,none,rfl,rfl,rfl,rfl,h0,mm,rest,hs,?_⟩
    grind
   ·simp [T.leaf] at Z
  ·rename_i hk;obtain⟨⟨v,s'⟩,U,Z⟩:=T.fh h;have:=bD Z;subst this;refine⟨v,none,rfl,rfl,rfl,rfl,h0,mm,rest,hs,?_⟩
   grind
theorem Fx.lT [bH] {ρ:Nat->Int} {ops:Array Oper} {base N:Nat} {x:Item} {d d1:PI} {v:W} {ob:Option dN} (h:Fx P ρ ops base N x d v ob d1): ∃pre,d1.lT=pre++d.lT/\pre.length=jM [x]:=by
 obtain⟨h0,mm,rest,hs,U⟩:=h;cases hk:x.k<;>rw [hk] at U
 ·simp_all [jM]
 ·obtain⟨_,hn,Z,_⟩:=U;exact⟨[(hn,mm|||x.m)],by rw [Z]; rfl,by simp [jM,hk]⟩
 simp_all [jM]
theorem Fx.nxt [bH] {ρ:Nat->Int} {ops:Array Oper} {base N:Nat} {x:Item} {d d1:PI} {v:W} {ob:Option dN} (h:Fx P ρ ops base N x d v ob d1) (hh: ∀q∈d.lT,q.1.next<=N/\q.1.res=none): ∀q∈d1.lT,q.1.next<=N/\q.1.res=none:=by
 obtain⟨h0,mm,rest,hs,U⟩:=h
 grind
structure akK [bH] (P:Program) (ρ:Nat->Int) (ops:Array Oper) (base N:Nat) (xs:List Item) (d d':PI):Prop where
 vs: ∃pre,d'.vs=pre++d.vs/\pre.length=xs.length
 BE: ∃pre,d'.BE=pre++d.BE/\pre.length=xs.length
 lT: ∃pre,d'.lT=pre++d.lT/\pre.length=jM xs
 jX: ∀a b,(a,b)∈d'.hZ->(a,b)∈d.hZ\/∃p x,xs[p]?=some x/\x.i=a/\d'.BE.reverse[d.BE.length+p]?=some (some b)
 amc: ∀p x b,xs[p]?=some x->d'.BE.reverse[d.BE.length+p]?=some (some b)->(x.i,b)∈d'.hZ
 amN: ∀q,q∈d.hZ->q∈d'.hZ
 slot: ∀t x,d'.bF.get t=some x->(∃p y,xs[p]?=some y/\y.o.dst=some t/\d'.vs.reverse[d.vs.length+p]?=some x)\/(d.bF.get t=some x/\∀y∈xs,y.o.dst≠some t)
 same: ∀t,(∀y∈xs,y.o.dst≠some t)->d'.bF.get t=d.bF.get t
 nxt:(∀q∈d.lT,q.1.next<=N/\q.1.res=none)->∀q∈d'.lT,q.1.next<=N/\q.1.res=none
 at_: ∀p x,xs[p]?=some x->∃dp UF v ob pre,Fx P ρ ops base N x dp v ob UF/\d'.vs.reverse[d.vs.length+p]?=some v/\d'.BE.reverse[d.BE.length+p]?=some ob/\d'.lT=pre++UF.lT/\dp.lT.length=d.lT.length+jM (xs.take p)/\
  (∀q,q∈dp.hZ->q∈d'.hZ)/\(∀t,(∀y∈xs.drop p,y.o.dst≠some t)->d'.bF.get t=dp.bF.get t)/\
  (∀t z,dp.bF.get t=some z->(∃p' y,p'<p/\xs[p']?=some y/\y.o.dst=some t/\d'.vs.reverse[d.vs.length+p']?=some z)\/(d.bF.get t=some z/\∀y∈xs.take p,y.o.dst≠some t))
theorem Xp {α:Type} {l pre l0:List α} {v:α} (h:l=pre++v::l0):l.reverse[l0.length]?=some v:=by
 grind
theorem B4 (x:Item) (xs:List Item):jM (x::xs)=jM [x]+jM xs:=by
 grind [jM]
theorem T.lO {α β:Type} {ρ:Nat->Int} {f:List (SB×Bool)->α->T β} {r:β}: ∀{x:T α} {pc:List (SB×Bool)},bV ρ pc->(x.Ad pc f).leaf ρ=some r->∃a ec,x.leaf ρ=some a/\bV ρ ec/\(f ec a).leaf ρ=some r
 | .fail,pc,_,h=>by simp [T.Ad,T.leaf] at h
 | .ret a,pc,hp,h=> ⟨a,pc,rfl,hp,h⟩
 | .split c x y,pc,hp,h=>by
   simp only [T.Ad] at h
   cases hd:jQ pc c with
   |some b=>
    rw [hd] at h;have hb:=gD hp hd;simp only [T.leaf,hb]
    cases b with
    |true=>exact T.lO hp h
    |false=>exact T.lO hp h
   |none=>
    rw [hd] at h;simp only [T.leaf] at h ⊢
    cases hb:c.den ρ with
    |true=>
     rw [hb] at h
     exact T.lO (x:=x) (pc:=(c,true)::pc) (fun c' b' hm=>by
      rcases ax.1 hm with he|hm
      ·simp only [ak] at he; rw [he.1,he.2]; exact hb
      ·exact hp c' b' hm) h
    |false=>
     rw [hb] at h
     exact T.lO (x:=y) (pc:=(c,false)::pc) (fun c' b' hm=>by
      rcases ax.1 hm with he|hm
      ·simp only [ak] at he; rw [he.1,he.2]; exact hb
      ·exact hp c' b' hm) h
theorem R9 {tt:TT} {call:eu} {all:List Oper} {base N:Nat} {ρ:Nat->Int}: ∀(xs:List Item) {pc ec:List (SB×Bool)} {d d':PI},bV ρ pc->(UG tt call all base N xs pc d).leaf ρ=some (ec,d')->bV ρ ec
 |[],pc,ec,d,d',hp,h=>by
  have:=bD h
  grind
 |x::xs,pc,ec,d,d',hp,h=>by simp only [UG] at h;obtain⟨d1,fI,_,fu,Z⟩:=T.lO hp h;exact R9 xs fu Z
theorem Sa [bH] {tt:TT} (cI:eC P tt) {call:eu} (hc:im P call) {ops:Array Oper} {base N:Nat} {ρ:Nat->Int}: ∀(xs:List Item) {pc ec:List (SB×Bool)} {d d':PI},bV ρ pc->(UG tt call ops.toList base N xs pc d).leaf ρ=some (ec,d')->akK P ρ ops base N xs d d'
 |[],pc,ec,d,d',hp,h=>by have:=bD h;simp only [ak] at this;obtain⟨_,rfl⟩:=this;exact⟨⟨[],rfl,rfl⟩,⟨[],rfl,rfl⟩,⟨[],rfl,rfl⟩,fun a b h=> .inl h,fun p x b hh=>by simp at hh,fun q h=>h,fun t x h=> .inr ⟨h,ad⟩,fun t _=>rfl,fun h=>h,fun p x hh=>by simp at hh⟩
 |x::xs,pc,ec,d,d',hp,h=>by
  simp only [UG] at h;obtain⟨d1,fI,U,fu,Z⟩:=T.lO hp h;obtain⟨v,ob,e1,e2,e3,e4,hF⟩:=i_ cI hc hp U;obtain⟨⟨pv,v1,v2⟩,⟨po,o1,o2⟩,⟨ps,s1,s2⟩,b1,b2,b3,sl,sm,nx,mQ⟩:=Sa cI hc xs fu Z;obtain⟨qs,t1,t2⟩:=hF.lT;have hv0:d'.vs.reverse[d.vs.length]?=some v:=Xp (by rw [v1,e2]);have ho0:d'.BE.reverse[d.BE.length]?=some ob:=Xp (by rw [o1,e3]);have hvl:d1.vs.length=d.vs.length+1:=by rw [e2]; rfl
  have hol:d1.BE.length=d.BE.length+1:=by rw [e3]; rfl
  have rz: ∀q,q∈d.hZ->q∈d1.hZ:=by
   intro q hq
   grind
  have xJ: ∀(p n:Nat),n+1+p=n+(p+1):=by intro p n; omega
  refine⟨⟨pv++ [v],by rw [v1,e2]; simp,by simp [v2]⟩,⟨po++ [ob],by rw [o1,e3]; simp,by simp [o2]⟩,⟨ps++qs,by rw [s1,t1]; simp,by rw [aT,B4,s2,t2]; omega⟩,?_,?_,fun q hq=>b3 q (rz q hq),?_,?_,fun hh=>nx (hF.nxt hh),?_⟩
  ·intro a b M1;rcases b1 a b M1 with hh|⟨p,y,g1,g2,g3⟩
   ·rw [e4] at hh
    cases ob with
    |none=>exact .inl hh
    |some c=>
     simp only [ax,ak] at hh;rcases hh with ⟨rfl,rfl⟩|hh
     ·exact .inr ⟨0,x,rfl,rfl,ho0⟩
     ·exact .inl hh
   ·exact .inr ⟨p+1,y,by simpa using g1,g2,by rw [<- xJ,<- hol]; exact g3⟩
  ·intro p y b hy hb
   cases p with
   |zero=> simp at hy;subst hy;rw [bj,ho0] at hb;simp at hb;subst hb;exact b3 _ (by rw [e4]; simp)
   |succ p=> refine b2 p y b (by simpa using hy) ?_;rw [hol,xJ];exact hb
  ·intro t y hy;rcases sl t y hy with ⟨p,z,g1,g2,g3⟩|⟨g1,g2⟩
   ·exact .inl ⟨p+1,z,by simpa using g1,g2,by rw [<- xJ,<- hvl]; exact g3⟩
   ·rw [e1,vL] at g1;split at g1
    ·rename_i hd;simp at g1;subst g1;exact .inl ⟨0,x,rfl,hd,hv0⟩
    ·rename_i hd;refine .inr ⟨g1,fun z hz=>?_⟩;rcases ax.1 hz with rfl|hz
     ·exact hd
     ·exact g2 z hz
  ·intro t ht;rw [sm t fun y hy=>ht y (by simp [hy]),e1,vL,af (ht x ad)]
  ·intro p y hy
   cases p with
   |zero=> simp at hy;subst hy;refine⟨d,d1,v,ob,ps,hF,hv0,ho0,s1,by simp [jM],fun q hq=>b3 q (rz q hq),fun t ht=>?_,fun t z hz=> .inr ⟨hz,ad⟩⟩;rw [sm t fun y hy=>ht y (by simp [hy]),e1,vL,af (ht x ad)]
   |succ p=>
    obtain⟨dp,UF,v',ob',pre,g1,g2,g3,g4,g5,g6,g7,g8⟩:=mQ p y (by simpa using hy);refine⟨dp,UF,v',ob',pre,g1,by rw [<- xJ,<- hvl]; exact g2,by rw [<- xJ,<- hol]; exact g3,g4,?_,g6,fun t ht=>g7 t (by simpa using ht),fun t z hz=>?_⟩
    ·rw [g5,anC,B4,t1,aT,t2];omega
    ·rcases g8 t z hz with ⟨p',y',q1,q2,q3,q4⟩|⟨q1,q2⟩
     ·exact .inl ⟨p'+1,y',J,by simpa using q2,q3,by rw [<- xJ,<- hvl]; exact q4⟩
     ·rw [e1,vL] at q1;split at q1
      ·rename_i hd;simp at q1;subst q1;exact .inl ⟨0,x,J,rfl,hd,hv0⟩
      ·rename_i hd;refine .inr ⟨q1,fun u hu=>?_⟩;rw [anC] at hu;rcases ax.1 hu with rfl|hu
       ·exact hd
       ·exact q2 u hu
end
end Go.As
end

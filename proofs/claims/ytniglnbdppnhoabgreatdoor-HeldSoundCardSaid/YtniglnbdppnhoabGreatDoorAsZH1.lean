import Derived.Test.YtniglnbdppnhoabGreatDoorAsZH0
set_option linter.unusedSectionVars false
set_option linter.unusedVariables false
set_option linter.unusedSimpArgs false
section
namespace Go.As
section
variable {P:Program} {E:En} {w:World}
theorem bO.swap [bI] {H H2:Hp} (r:bO E H w) {id:Nat} {o o':dM} (Y:H.get id=some o) (ho:OR E w.heap id o') (hg:H2.get id=some o') (hs: ∀j,j≠id->H2.get j=H.get j) (hn:H2.next=H.next) (hr:H2.res=H.res):bO E H2 w:=by
 have key: ∀j x,H2.get j=some x->∃y,H.get j=some y:=by
  intro j x hj
  grind
 refine⟨fun i hi=>r.fresh i (by rw [<- hn]; exact hi),fun q hq=>by rw [hn]; exact r.res q (by rw [<- hr]; exact hq),fun j x hj=>?_,fun i j x y hi hj he=>?_,r.rh,r.jG,?_⟩
 ·by_cases h:j=id
  ·subst h;rw [hg] at hj;simp only [ah] at hj;subst hj;exact⟨(r.live j o Y).1,ho,(r.live j o Y).2.2⟩
  ·exact r.live j x (by rw [<- hs j h]; exact hj)
 ·obtain⟨x',hx⟩:=key i x hi;obtain⟨y',hy⟩:=key j y hj;exact r.inj i j x' y' hx hy he
 ·intro b x hb;obtain⟨q1,q2,q3⟩:=r.hid b x hb;refine⟨q1,q2,fun j y hj=>?_⟩;obtain⟨y',hy⟩:=key j y hj;exact q3 j y' hy
structure FL (H H2:Hp):Prop where
 ab: ∀j x,H.get j=some x->∃y,H2.get j=some y
 ba: ∀j x,H2.get j=some x->∃y,H.get j=some y
 next:H2.next=H.next
 res:H2.res=H.res
theorem FL.put {H:Hp} {id:Nat} {o o':dM} (Y:H.get id=some o):FL H (H.put id o'):=by
 refine⟨fun j x hj=>?_,fun j x hj=>?_,rfl,rfl⟩
 all_goals grind [Hp.bQ]
theorem FL.symm {H H2:Hp} (a:FL H H2):FL H2 H:=⟨a.ba,a.ab,a.next.symm,a.res.symm⟩
theorem eT.left {H H2 H':Hp} {E':En} {w':World} (a:FL H H2) (s:eT E H w E' H' w'):eT E H2 w E' H' w':=
 ⟨s.ρ,s.dm,s.θ,s.κ,s.ro,fun b hb=>(s.rF b hb).imp id (Or.imp (fun⟨i,o,U,Z⟩=>by obtain⟨y,hy⟩:=a.ab i o U; exact⟨i,y,hy,Z⟩) id),by rw [a.next]; exact s.QI,by rw [a.res]; exact s.rsm,
  fun i hi=>by rw [a.next,a.res]; exact s.w? i hi,s.os,s.tape,s.output,s.size,fun b hb hn=>s.cf b hb fun i o ho=>by obtain⟨y,hy⟩:=a.ab i o ho; exact hn i y hy,
  fun i o ho fW=>by obtain⟨i0,o0,U,Z⟩:=s.own i o ho fW; obtain⟨y,hy⟩:=a.ab i0 o0 U; exact⟨i0,y,hy,Z⟩,s.hd⟩
theorem eT.right {H H' H2:Hp} {E':En} {w':World} (a:FL H' H2) (s:eT E H w E' H' w'):eT E H w E' H2 w':=
 ⟨s.ρ,s.dm,s.θ,s.κ,s.ro,s.rF,by rw [a.next]; exact s.QI,by rw [a.res]; exact s.rsm,
  fun i hi=>by rw [a.next]; exact s.w? i hi,s.os,s.tape,s.output,s.size,s.cf,
  fun i o ho fW=>by obtain⟨y,hy⟩:=a.ba i o ho; exact s.own i y hy fW,s.hd⟩
theorem dV.of {ro:Nat->Prop} {h:Array Obj} {d:D} (f:Nat->Value): ∀(cs:List CK) (j:Nat),(∀i c,cs[i]?=some c->jh ro h c (d.hd (j+i)) (f (j+i)))->dV ro h cs j d ((List.range' j cs.length).map f)
 |[],j,_=>by simp [dV]
 |c::cs,j,hh=>by
  simp only [aM,List.range'_succ,aw,dV];refine⟨f j,_,rfl,by simpa using hh 0 c ad,dV.of f cs (j+1) fun i c' hi=>?_⟩;have:=hh (i+1) c' (by simpa using hi)
  grind
theorem Rd.row {ro:Nat->Prop} {h:Array Obj} {t:Nat} {d:D} {v:Value} (r:Rd ro h (.sl t) d v) {i:Nat} {x:D} (hi:d.l[i]?=some x) :
 ∃b o cap us,v= .slice (some ⟨b,o,none⟩) d.l.length cap/\ro b/\wO ro h (rowOf t) x us/\fU h b (o+i*(rowOf t).es) us:=by
 generalize hc:CK.sl t=c at r
 cases r with
 |int k n=>simp at hc
 |bool b=>simp at hc
 |str s=>simp at hc
 |nil t=>simp [D.l] at hi
 |vO t a cap=>simp [D.l] at hi
 |one t' c b o cap ds f hr eJ hb U Z=>
  simp only [CK.sl.injEq] at hc;subst hc;rw [bJ] at hi ⊢;refine⟨b,o,cap,[f i],rfl,hb,?_,?_⟩
  ·rw [hr];exact⟨_,rfl,(Z i x hi).cell⟩
  ·rw [hr];intro j u hj
   grind [Row.es]
 |many t' cs b o cap rows f hr eJ hb Y U Z=>
  simp only [CK.sl.injEq] at hc;subst hc;rw [bJ] at hi ⊢;rw [bg,aP] at hi;obtain⟨row,im,rfl⟩:=hi;have hlen:=Y row (br im);refine⟨b,o,cap,(List.range' 0 cs.length).map (f i),ad,hb,?_,?_⟩
  ·rw [hr];refine dV.of (f i) cs 0 fun j c hj=>?_;have hjl:j<row.length:=by rw [hlen]; exact (aX.1 hj).1
   have hd:row[j]?=some row[j]:=aL hjl;rw [aA];have:(dL row).hd j=row[j]:=by simp [D.hd,hd]
   rw [this];exact (Z i row j _ c im hd hj).cell
  ·rw [hr];intro j u hj;rw [bg,aP] at hj;obtain⟨k,hk,rfl⟩:=hj
   have hjl:j<cs.length:=by
    grind
   rw [List.getElem?_range' hjl] at hk;simp only [ah] at hk;obtain rfl:k=j:=J
   have hd:row[k]?=some row[k]:=aL J;exact U i row k _ im hd
theorem Bb (ρ:Nat->Int) (e i:V) {x:D} {k:Nat} (hi:i.den ρ=(k:Int)) (hx:(dec (e.den ρ)).l[k]?=some x):dec ((V.op .at e i).den ρ)=x:=by simp only [V.den,fu.den,bB,D.at,hi,bp,hx,ax]
theorem np {tt:TT} (cJ:eA P tt) {ty z:Nat} (h:tj tt ty=some z): ∃el ie,P.underlying ty=some (.slice el)/\tt el=some ie/\ie.size=z:=by
 unfold tj at h;split at h
 ·rename_i ti fm;split at h
  ·rename_i el hk;simp only [iB,aP] at h;obtain⟨ie,kX,rfl⟩:=h;exact⟨el,ie,ff (cJ ty ti fm) hk,kX,rfl⟩
  grind
 grind
theorem OW {tt:TT} (cJ:eA P tt) {s s':St} (hp:bV E.ρ s.pc) {ty t:Nat} {e:V} {ix v:W} {u ui:Value} (hx:VR E w.heap (.ep e t) u) (yX:VR E w.heap ix ui) (h:(Jy tt s ty t e ix).leaf E.ρ=some (v,s')) :
 s'.bD=s.bD/\s'.h=s.h/\bV E.ρ s'.pc/\∃r,(Instr.indexAt ty u ui).run P w= .ok r w/\VR E w.heap v r:=by
 unfold Jy at h;split at h
 ·rename_i kd i;split at h
  ·rename_i z hz;split at h
   ·rename_i lE;obtain⟨ef,fy,U,Z,h3⟩:=nw hp h;have:=bC h3;simp only [ak] at this;obtain⟨rfl,rfl⟩:=this;refine⟨rfl,rfl,fy,?_⟩;rw [cE] at Z;simp only [VR] at hx yX;subst yX;obtain⟨el,ie,hu,kX,rfl⟩:=np cJ hz;obtain⟨k,hk⟩ : ∃k:Nat,i.den E.ρ=(k:Int):=⟨(i.den E.ρ).toNat,J⟩;have fW:k<(dec (e.den E.ρ)).l.length:=J
    have hd:(dec (e.den E.ρ)).l[k]?=some (dec (e.den E.ρ)).l[k]:=aL fW;obtain⟨b,o,cap,us,rfl,g1,g2,g3⟩:=hx.row hd;refine⟨.pointer (some ⟨b,o+k*ie.size,none⟩),?_,?_⟩
    ·rw [hk];simp [Instr.indexAt,asIntOf,run_underlying hu,ey (cJ el ie kX),fW,e9]
    ·simp only [VR];exact⟨b,_,us,rfl,g1,by rw [gm,Bb E.ρ e i hk hd]; exact g2,by rw [lE]; exact g3,g2.rH⟩
   grind [T.leaf]
  grind [T.leaf]
 grind [T.leaf]
theorem OD {tt:TT} (cJ:eA P tt) {s s':St} (hp:bV E.ρ s.pc) {ty t id:Nat} {n:V} {ix v:W} {u ui:Value} (hx:VR E w.heap (.pb id n t) u) (yX:VR E w.heap ix ui) (h:(Jk tt s ty id t n ix).leaf E.ρ=some (v,s')) :
 s'.bD=s.bD/\s'.h=s.h/\bV E.ρ s'.pc/\∃r,(Instr.indexAt ty u ui).run P w= .ok r w/\VR E w.heap v r:=by
 unfold Jk at h;split at h
 ·rename_i kd i;split at h
  ·rename_i z hz;split at h
   ·rename_i lE;obtain⟨ef,fy,U,Z,h3⟩:=nw hp h;have:=bC h3;simp only [ak] at this;obtain⟨rfl,rfl⟩:=this;refine⟨rfl,rfl,fy,?_⟩;simp only [VR] at hx yX;subst yX;obtain⟨hid,m,a,cap,hn,rfl,iR,hc⟩:=hx;obtain⟨el,ie,hu,kX,rfl⟩:=np cJ hz;obtain⟨k,hk⟩ : ∃k:Nat,i.den E.ρ=(k:Int):=⟨(i.den E.ρ).toNat,J⟩;have fW:k<m:=J
    have ha:a=⟨(E.θ id).1,(E.θ id).2,none⟩:=by
     simp only [eQ] at hc
     grind
    subst ha;refine⟨.pointer (some ⟨(E.θ id).1,(E.θ id).2+k*ie.size,none⟩),?_,?_⟩
    ·rw [hk];simp [Instr.indexAt,asIntOf,run_underlying hu,ey (cJ el ie kX),fW,e9]
    ·simp only [VR]
     grind
   grind [T.leaf]
  grind [T.leaf]
 grind [T.leaf]
theorem nI {ρ:Nat->Int} {pc:List (SB×Bool)} (hp:bV ρ pc) {ZZ cs:List W} {i:V} {k:Nat} (hi:i.den ρ=(k:Int)): ∀{ov:List (V×List W)},nJ pc ZZ i ov=some cs->
 ed ρ k ov=some cs\/(ed ρ k ov=none/\cs=ZZ)
 |[],h=>by simp only [nJ,ah] at h; exact .inr ⟨rfl,h.symm⟩
 |(j,c)::l,h=>by
  simp only [nJ] at h;simp only [ed];split at h
  ·rename_i he
   grind [cM]
  ·split at h
   ·rename_i b hd;have hd:=gD hp hd;rw [gH] at hd;split at h
    ·grind
    ·rw [beq_eq_false_iff_ne,hi] at hd;rw [af (fun q=>hd q.symm)];exact nI hp hi h
   grind
theorem vy {α:Type} {ρ:Nat->Int} {i:V} {r:α}: ∀{ov:List (V×List W)} {s:St} {k:St->T α},bV ρ s.pc->(ug i ov s k).leaf ρ=some r->∃ef,bV ρ ef/\(k { s with pc:=ef }).leaf ρ=some r
 |[],s,k,hp,h=> ⟨s.pc,hp,h⟩
 |(j,c)::l,s,k,hp,h=>by
  simp only [ug] at h;split at h
  ·exact⟨s.pc,hp,h⟩
  ·obtain⟨fN,fA,U⟩:=cH hp h;split at U
   ·grind
   ·exact vy (s:={ s with pc:=fN }) fA U
theorem jn {ρ:Nat->Int} {r:Row} {ov:List (V×List W)} (ho:sM r ov): ∀{ds:List D} {j k:Nat} {x:D},ds[k]?=some x->
 bE ρ r ov ds j=bE ρ r ov (ds.take k) j++((match ed ρ (j+k) ov with |some cs=>cs|none=>gL r (.ep x))++bE ρ r ov (ds.drop (k+1)) (j+k+1))/\(bE ρ r ov (ds.take k) j).length=k*r.es
 |[],j,k,x,h=>by simp at h
 |d::ds,j,0,x,h=>by
  simp only [aF,ah] at h;subst h;refine⟨?_,by simp [bE]⟩;simp only [List.take_zero,bE,aC,a8,ann,amc]
  try rfl
 |d::ds,j,k+1,x,h=>by
  have h':ds[k]?=some x:=by simpa using h
  have hk:k<ds.length:=(aX.1 h').1;obtain⟨U,Z⟩:=jn (ρ:=ρ) ho (j:=j+1) h';refine⟨?_,?_⟩
  ·simp only [amz,bE,amf,ann]
   grind
  grind [cF]
theorem tk {α:Type}: ∀(a b:List α),eL a.length (a++b)=some b
 |[],_=>rfl
 |x::a,b=>by simp [eL,tk a b]
theorem EH {α:Type}: ∀{n:Nat} {a b l:List α},eL n a=some l->eL n (a++b)=some (l++b)
 |0,a,b,l,h=>by simp only [eL,ah] at h ⊢; rw [h]
 |n+1,[],b,l,h=>by simp [eL] at h
 |n+1,x::a,b,l,h=>by simp only [eL,aO] at h ⊢; exact EH h
theorem C7 {α:Type}: ∀{n:Nat} {a b l:List α},iA n a=some l->iA n (a++b)=some l
 |0,a,b,l,h=>by simp only [iA] at h ⊢; exact h
 |n+1,[],b,l,h=>by simp [iA] at h
 |n+1,x::a,b,l,h=>by
  simp only [iA,aO] at h ⊢;split at h
  ·rename_i l' Y;rw [C7 Y];exact h
  grind
theorem Hy {α:Type}: ∀{a b:Nat} {l m:List α},eL a l=some m->eL (a+b) l=eL b m
 |0,b,l,m,h=>by simp only [eL,ah] at h; subst h; rw [aA]
 |a+1,b,[],m,h=>by simp [eL] at h
 |a+1,b,x::l,m,h=>by rw [show a+1+b=(a+b)+1 by omega];simp only [eL] at h ⊢;exact Hy h
noncomputable def cL (ρ:Nat->Int) (e:V) (t:Nat) (ov:List (V×List W)):List W:=bE ρ (rowOf t) ov (dec (e.den ρ)).l 0
theorem OR.oo {h:Array Obj} {id:Nat} {e:V} {t:Nat} {ty:TypeId} {ov:List (V×List W)}:OR E h id (.vec e t ty ov)↔(sM (rowOf t) ov/\sg (rowOf t) (dec (e.den E.ρ)))/\OR E h id (.cells (cL E.ρ e t ov) ty):=by simp only [OR,cL]
theorem bO.oo [bI] {H:Hp} (r:bO E H w) {id:Nat} {e:V} {t:Nat} {ty:TypeId} {ov:List (V×List W)} (Y:H.get id=some (.vec e t ty ov)):bO E (H.put id (.cells (cL E.ρ e t ov) ty)) w/\sM (rowOf t) ov/\sg (rowOf t) (dec (e.den E.ρ)):=by obtain⟨U,Z⟩:=OR.oo.1 (r.live id _ Y).2.1;exact⟨r.swap Y Z (by rw [Hp.bQ,ag rfl]) (fun j hj=>by rw [Hp.bQ,af hj]) rfl rfl,U⟩
theorem xr {h:Array Obj} {r:Row} {x y:V} (hd:dec (x.den E.ρ)=dec (y.den E.ρ)) {us:List Value}:cA E h (gL r x) us↔cA E h (gL r y) us:=by
 grind [gm]
theorem b_ [bI] {H:Hp} (r:bO E H w) {id:Nat} {e i:V} {t:Nat} {ty:TypeId} {ov:List (V×List W)} (Y:H.get id=some (.vec e t ty ov)) {k:Nat} (hi:i.den E.ρ=(k:Int)) (hk:(k:Int)<(dR e).den E.ρ)
 {pc:List (SB×Bool)} (hp:bV E.ρ pc) {cs:List W} (hc:nJ pc (gL (rowOf t) (.op .at e i)) i ov=some cs) :
 ∃pre row post,cL E.ρ e t ov=pre++(row++post)/\pre.length=k*(rowOf t).es/\row.length=(rowOf t).es/\(∀h us,cA E h row us↔cA E h cs us)/\cs.length=(rowOf t).es:=by
 obtain⟨_,ho,ud⟩:=r.oo Y;rw [cE] at hk;have fW:k<(dec (e.den E.ρ)).l.length:=J
 have hd:(dec (e.den E.ρ)).l[k]?=some (dec (e.den E.ρ)).l[k]:=aL fW;obtain⟨U,Z⟩:=jn (ρ:=E.ρ) ho (j:=0) hd;refine⟨_,_,_,U,Z,?_⟩;rw [aA];rcases nI hp hi hc with h3|⟨h3,rfl⟩
 ·rw [h3];obtain⟨p,p1,p2,_⟩:=kT h3;have:=ho p p1
  grind
 ·rw [h3];refine⟨gX _ _,fun h us=>xr ?_,gX _ _⟩;rw [Bb E.ρ e i hi hd];simp only [V.den,bB]
theorem TJ {i:TI} {l m:List W} {v:W} (h:partOf i l=some v):partOf i (l++m)=some v:=by
 unfold partOf at h ⊢;split at h
 ·rename_i ha;rw [aP] at h
  grind [C7]
 grind
theorem GK [bI] {tt:TT} (cJ:eA P tt) {H:Hp} (r:bO E H w) {id:Nat} {cs:List W} {e:TypeId} (Y:H.get id=some (.cells cs e)) {ty:Nat} {ti:TI} (fm:tt ty=some ti) {off:Nat} {l:List W} (hd:eL off cs=some l) {v:W} (hv:partOf ti l=some v) :
 ∃x,(loadVar ty ⟨(E.θ id).1,(E.θ id).2+off,none⟩).run P w= .ok x w/\VR E w.heap v x:=by
 have hld:A1 tt ty (.ptr id off) H=some v:=by
  unfold A1 partOf at *;rw [fm];simp only [mJ,Y,hd];split at hv
  ·exact hv
  ·split at hv
   ·simp only [ah] at hv;subst hv;rfl
   grind
 have hid:=(r.live id _ Y).1;obtain⟨x,b,o,U,Z,h3⟩:=A0 cJ r (p:=.ptr id off) (u:=.pointer (some ⟨(E.θ id).1,(E.θ id).2+off,none⟩)) (by simp only [VR]; exact⟨trivial,hid⟩) hld
 grind
theorem DO {k:IntKind}: ∀{cs:List W} {ds:List D},DP k cs=some ds->ds.length=cs.length/\∀(i:Nat),i<cs.length->∃n,ds[i]?=some (.i n)/\cs[i]?=some (.int k (.lit n))
 |[],ds,h=>by
  simp only [DP,ah] at h
  grind
 |v::vs,ds,h=>by
  simp only [DP] at h;split at h
  ·split at h
   ·rename_i k' n;split at h
    ·rename_i hk;subst hk;split at h
     ·rename_i ds' v8;simp only [ah] at h;subst h;obtain⟨U,Z⟩:=DO v8
      grind
     grind
    grind
   grind
  grind
theorem A5 {α:Type}: ∀{i:Nat} {cs:List α} {a:α},cs[i]?=some a->∃l,eL i cs=some (a::l)
 |0,[],a,h=>by simp at h
 |0,c::cs,a,h=>by simp only [aF,ah] at h; subst h; exact⟨cs,rfl⟩
 |i+1,[],a,h=>by simp at h
 |i+1,c::cs,a,h=>A5 (cs:=cs) (by simpa using h)
theorem LS {ρ:Nat->Int} {s s':St} {cs:List W} {e:V} {v:W} (hp:bV ρ s.pc) (h:(Hq s cs e).leaf ρ=some (v,s')) :
 s'.bD=s.bD/\s'.h=s.h/\bV ρ s'.pc/\∃(i:Nat) (k:IntKind) (n:Int) (x:V),e.den ρ=(i:Int)/\i<cs.length/\cs[i]?=some (.int k (.lit n))/\v= .int k x/\x.den ρ=n:=by
 unfold Hq at h;split at h
 ·grind [T.leaf]
 ·rename_i k hk;split at h
  ·grind [T.leaf]
  ·rename_i ds v8;obtain⟨U,Z⟩:=DO v8;obtain⟨ef,fy,g1,g2,g3⟩:=nw hp h;simp only [T.leaf,ah,ak] at g3;obtain⟨rfl,rfl⟩:=g3;have g2':e.den ρ<(ds.length:Int):=by simpa [V.den] using g2
   have hi:e.den ρ=((e.den ρ).toNat:Int):=J
   have fW:(e.den ρ).toNat<cs.length:=J
   obtain⟨n,d1,d2⟩:=Z _ fW;refine⟨rfl,rfl,fy,_,k,n,_,hi,fW,d2,rfl,?_⟩;simp only [Ao,V.den,fu.den,bB,D.at,bJ,d1,ax,D.n]
theorem OO [bI] {tt:TT} (cJ:eA P tt) {s s':St} (r:bO E s.h w) (hp:bV E.ρ s.pc) {ty id es:Nat} {i:V} {off:Nat} {v:W} {u:Value} (hx:VR E w.heap (.zG id es i off) u) (h:(zy tt s ty id es i off).leaf E.ρ=some (v,s')) :
 s'.bD=s.bD/\s'.h=s.h/\bV E.ρ s'.pc/\∃x b o,u= .pointer (some ⟨b,o,none⟩)/\(loadVar ty ⟨b,o,none⟩).run P w= .ok x w/\VR E w.heap v x:=by
 unfold zy at h;split at h
 ·rename_i o Y;split at h
  ·rename_i cs ety;split at h
   ·rename_i ti fm;split at h
    ·simp [T.leaf] at h
    ·rename_i hb;simp only [Bool.or_eq_false_iff,Bool.not_eq_false'] at hb;have lE:=aq hb.1.2;have hof:=aq hb.2;subst lE hof;obtain⟨U,Z,h3,k,kd,n,x,g1,g2,g3,rfl,g5⟩:=LS hp h;refine⟨U,Z,h3,?_⟩;simp only [VR] at hx;obtain⟨hid,k',hk,rfl⟩:=hx;have sZ:k'=k:=J
     subst sZ;obtain⟨l,hd⟩:=A5 g3;obtain⟨y,q1,q2⟩:=GK (P:=P) cJ r Y fm hd (v:=.int kd (.lit n)) (by unfold partOf; rw [hb.1.1]);refine⟨y,_,_,rfl,by rw [am3,a8]; exact q1,?_⟩;simp only [VR,V.den] at q2 ⊢;rw [q2,g5]
   ·simp [T.leaf] at h
  ·rename_i e t Ah ov;split at h
   ·rename_i ti fm;split at h
    ·rename_i lE;obtain⟨pc0,X7,U,Z,h3⟩:=nw hp h;obtain⟨ef,fy,h3⟩:=vy (s:={ s with pc:=pc0 }) X7 h3;split at h3
     ·rename_i cs hc;split at h3
      ·rename_i l AO;obtain⟨e1,rfl⟩:=gM h3;refine⟨rfl,rfl,fy,?_⟩;simp only [VR] at hx;obtain⟨hid,k,hk,rfl⟩:=hx;obtain⟨pre,row,post,c1,c2,c3,c4,c5⟩:=b_ r Y hk (by rw [<- hk]; exact Z) fy hc;obtain⟨rc,ho,ud⟩:=r.oo Y
       have im:OR E w.heap id (.cells (pre++(cs++post)) Ah):=by have:=(rc.live id _ (by rw [Hp.bQ,ag rfl])).2.1;rw [c1] at this;simp only [OR] at this ⊢;obtain⟨arr,lo,hi,us,q1,q2,q3,q4,q5,q6,q7⟩:=this;refine⟨arr,lo,hi,us,q1,?_,q3,by simp only [aZ,c3,c5] at q4 ⊢; exact q4,q5,q6,q7⟩;obtain⟨a,b,rfl,a1,a2⟩:=q2.split;obtain⟨a',b',rfl,b1,b2⟩:=a2.split;exact a1.append (((c4 _ _).1 b1).append b2)
       have r2:=r.swap (H2:=s.h.put id (.cells (pre++(cs++post)) Ah)) Y im (by rw [Hp.bQ,ag rfl]) (fun j hj=>by rw [Hp.bQ,af hj]) rfl rfl
       have akL:eL (k*es+off) (pre++(cs++post))=some (l++post):=by rw [Hy (m:=cs++post) (by rw [<- lE,<- c2]; exact tk pre _)];exact EH AO
       obtain⟨x,g1,g2⟩:=GK cJ r2 (by rw [Hp.bQ,ag rfl]) fm akL (TJ e1);exact⟨x,_,_,rfl,g1,g2⟩
      ·simp [T.leaf] at h3
     ·simp [T.leaf] at h3
    ·simp [T.leaf] at h
   ·simp [T.leaf] at h
  ·simp [T.leaf] at h
 ·simp [T.leaf] at h
end
theorem jh.rd {ro:Nat->Prop} {h:Array Obj} {c:CK} {d:D} {u:Value} (r:jh ro h c d u) (wf:oq c d):Rd ro h c d u:=by
 cases c with
 |int k=> simp only [jh,oq] at r wf;rw [wf,r];exact .int k d.n
 |bool=>
  simp only [jh,oq] at r wf;subst r;rcases wf with rfl|rfl
  ·exact .bool false
  ·exact .bool true
 |str=>exact r
 |sl t=>exact r
theorem dV.get {ro:Nat->Prop} {h:Array Obj} {d:D}: ∀{cs:List CK} {j:Nat} {us:List Value},dV ro h cs j d us->∀{k:Nat} {c:CK},cs[k]?=some c->∃u,us[k]?=some u/\jh ro h c (d.hd (j+k)) u
 |[],_,_,_,k,c,hk=>by simp at hk
 |c0::cs,j,us,hh,k,c,hk=>by
  simp only [dV] at hh;obtain⟨u,vs,rfl,U,Z⟩:=hh
  cases k with
  |zero=>
   grind
  |succ k=>
   obtain⟨x,h3,h4⟩:=Z.get (by simpa using hk)
   grind
theorem dV.length {ro:Nat->Prop} {h:Array Obj} {d:D}: ∀{cs:List CK} {j:Nat} {us:List Value},dV ro h cs j d us->us.length=cs.length
 |[],_,us,hh=>by simp only [dV] at hh; subst hh; rfl
 |c::cs,j,us,hh=>by simp only [dV] at hh;obtain⟨u,vs,rfl,_,Z⟩:=hh;simp [Z.length]
theorem dV.shift {ro:Nat->Prop} {h:Array Obj} {a b:D}: ∀{cs:List CK} {j:Nat} {us:List Value},dV ro h cs (j+1) (.p a b) us↔dV ro h cs j b us
 |[],_,us=>by simp only [dV]
 |c::cs,j,us=>by
  simp only [dV,yZ];constructor
  ·rintro⟨u,vs,rfl,U,Z⟩;exact⟨u,vs,rfl,U,dV.shift.1 Z⟩
  ·rintro⟨u,vs,rfl,U,Z⟩;exact⟨u,vs,rfl,U,dV.shift.2 Z⟩
section
variable {P:Program} {E:En} {w:World}
theorem oY {ρ:Nat->Int} {c:CK} {v:W} {a:V} (h:nq c v=some a):oq c (dec (a.den ρ)):=by
 unfold nq at h;split at h
 ·split at h
  ·split at h
   ·simp only [ah] at h;subst h;simp only [oq,lI,bB,D.n]
   grind
  grind
 ·split at h
  ·split at h
   ·rename_i b;simp only [ah] at h;subst h;simp only [oq,V.den,bB]
    grind
   ·split at h
    ·split at h
     ·split at h
      ·simp only [ah] at h;subst h;simp only [oq,V.den,fu.den,bB]
       grind
      grind
     grind
    grind
   grind
  grind
 ·trivial
 ·trivial
theorem mn {h:Array Obj} {c:CK} {v:W} {u:Value} {a:V} (hv:VR E h v u) (hc:nq c v=some a):jh E.ro h c (dec (a.den E.ρ)) u:=by
 unfold nq at hc;split at hc
 ·split at hc
  ·split at hc
   ·rename_i hk;subst hk;simp only [ah] at hc;subst hc;simp only [VR] at hv;simp only [jh,lI,bB,D.n];exact hv
   grind
  grind
 ·split at hc
  ·split at hc
   ·rename_i b;simp only [ah] at hc;subst hc;simp only [VR,SB.den] at hv;subst hv;simp only [jh,V.den,bB];cases b<;>rfl
   ·split at hc
    ·split at hc
     ·split at hc
      ·rename_i x n hn;subst hn;simp only [ah] at hc;subst hc;simp only [VR,SB.den,V.den] at hv;subst hv;simp only [jh,V.den,fu.den,lI,bB,D.n];congr 2
       grind
      grind
     grind
    grind
   grind
  grind
 ·obtain⟨s,rfl,hs⟩:=yi hv hc;simp only [jh,hs];exact .str s
 ·split at hc
  ·split at hc
   ·rename_i ht;subst ht;simp only [ah] at hc;subst hc;exact hv
   grind
  ·simp only [ah] at hc;subst hc;simp only [VR] at hv;subst hv;simp only [jh,V.den,bB];exact .nil _
  ·split at hc
   ·rename_i ht;subst ht;simp only [ah] at hc;subst hc;simp only [VR] at hv;exact hv.2
   grind
  ·split at hc
   ·simp only [ah] at hc;subst hc;simp only [VR] at hv;obtain⟨_,a,cap,rfl,_⟩:=hv;simp only [jh,V.den,bB];exact .vO _ _ _
   grind
  grind
theorem tz {ρ:Nat->Int}: ∀{cs:List CK} {vs:List W} {x:V},iy cs vs=some x->wD cs (dec (x.den ρ))
 |[],[],x,h=>by
  simp only [iy,ah] at h;subst h;refine⟨?_,?_,?_⟩
  ·simp only [V.den,bB]; rfl
  ·simp only [V.den,bB]; rfl
  grind
 |[],_::_,x,h=>by simp [iy] at h
 |_::_,[],x,h=>by simp [iy] at h
 |c::cs,v::vs,x,h=>by
  simp only [iy] at h;split at h
  ·grind
  ·rename_i a ha;split at h
   ·grind
   ·rename_i b hb;simp only [ah] at h;subst h;obtain⟨U,Z,h3⟩:=tz (ρ:=ρ) hb;refine⟨?_,?_,?_⟩
    ·simp only [eD,V.den,fu.den,bB,D.l,dL]
     grind
    ·simp only [eD,V.den,fu.den,bB,D.l,aM,Z]
    ·intro j c' y hj hy;simp only [eD,V.den,fu.den,bB,D.l] at hy
     cases j with
     |zero=> simp only [aF,ah] at hj hy;subst hj hy;exact oY ha
     |succ j=>exact h3 j c' y (by simpa using hj) (by simpa using hy)
theorem tA {h:Array Obj}: ∀{cs:List CK} {vs:List W} {us:List Value} {x:V},cA E h vs us->iy cs vs=some x->dV E.ro h cs 0 (dec (x.den E.ρ)) us
 |[],[],us,x,hv,hc=>by simp only [cA] at hv; subst hv; simp [dV]
 |[],_::_,_,x,_,hc=>by simp [iy] at hc
 |_::_,[],_,x,_,hc=>by simp [iy] at hc
 |c::cs,v::vs,us,x,hv,hc=>by
  simp only [iy] at hc;rw [bT] at hv;obtain⟨u,gF,rfl,U,Z⟩:=hv;split at hc
  ·grind
  ·rename_i a ha;split at hc
   ·grind
   ·rename_i b hb;simp only [ah] at hc;subst hc;simp only [dV,eD,V.den,fu.den,bB];refine⟨u,gF,rfl,by rw [yY]; exact mn U ha,?_⟩;rw [dV.shift];exact tA Z hb
theorem tw {ρ:Nat->Int} {r:Row} {cs:List W} {x:V} (h:qF r cs=some x):pS r (dec (x.den ρ)):=by
 unfold qF at h;split at h
 ·split at h
  ·exact oY h
  grind
 ·exact tz h
theorem tx {h:Array Obj} {r:Row} {cs:List W} {us:List Value} {x:V} (hv:cA E h cs us) (hc:qF r cs=some x):wO E.ro h r (dec (x.den E.ρ)) us:=by
 unfold qF at hc;split at hc
 ·split at hc
  ·rw [bT] at hv;obtain⟨u,gF,rfl,U,Z⟩:=hv;rw [ia] at Z;subst Z;exact⟨u,rfl,mn U hc⟩
  grind
 ·exact tA hv hc
theorem qE {ρ:Nat->Int} {r:Row}: ∀(m:Nat) {e e1:V} {news:List W},kM r e m news=some e1->
 ∃ds:List D,ds.length=m/\(dec (e1.den ρ)).l=(dec (e.den ρ)).l++ds/\(dec (e.den ρ)=dL (dec (e.den ρ)).l->dec (e1.den ρ)=dL (dec (e1.den ρ)).l)/\(∀d∈ds,pS r d)/\
  ∀(E':En) (h:Array Obj) (us:List Value) (j:Nat),E'.ρ=ρ->cA E' h news us->cA E' h (bE ρ r [] ds j) us
 |0,e,e1,[],h=>by simp only [kM,ah] at h;subst h;exact⟨[],rfl,ad,id,ad,fun E' h us j _ hv=>by simpa [bE] using hv⟩
 |0,e,e1,_::_,h=>by simp [kM] at h
 |m+1,e,e1,news,h=>by
  simp only [kM] at h;split at h
  ·grind
  ·rename_i x hx;obtain⟨ds,U,Z,h3,h4,h5⟩:=qE (ρ:=ρ) m h;have hs:dec ((V.op .snoc e x).den ρ)=dL ((dec (e.den ρ)).l++ [dec (x.den ρ)]):=by simp only [V.den,fu.den,bB]
   refine⟨dec (x.den ρ)::ds,by simp [U],?_,fun _=>h3 (by rw [hs,bJ]),?_,?_⟩
   ·rw [Z,hs,bJ]; simp
   ·intro d hd;rcases ay.1 hd with rfl|hd
    ·exact tw hx
    grind
   ·intro E' h us j hρ hv;rw [<- al6 r.es news] at hv;obtain⟨a,b,rfl,a1,a2⟩:=hv.split;simp only [bE,ed];refine cA.append ?_ (h5 E' h b (j+1) hρ a2);rw [gm];simp only [V.den,bB];have:=tx a1 hx
    grind
theorem PI {h:Array Obj} {id:Nat} {e:V} {t:Nat} {ty:TypeId} {ro:Nat->Prop} (lq: ∀b,E.ro b->ro b) (hb:ro (E.θ id).1) (ho:OR E h id (.vec e t ty [])) {k cap:Nat} {a:Addr} (hk:k=(dec (e.den E.ρ)).l.length) (iR:k<=cap)
 (hc:0<k->a=⟨(E.θ id).1,(E.θ id).2,none⟩):Rd ro h (.sl t) (dec (e.den E.ρ)) (.slice (some a) k cap):=by
 obtain⟨⟨ss,ud⟩,CF⟩:=OR.oo.1 ho;obtain⟨us,U,Z,h3⟩:=xj CF;obtain⟨w1,w2,w3⟩:=ud;rcases ams k with h0|lK
 ·subst h0;exact absurd (alR hk.symm) w3
 ·have ha:a=⟨(E.θ id).1,(E.θ id).2,none⟩:=hc lK;subst ha;subst hk
  have im: ∀(i:Nat) (x:D),(dec (e.den E.ρ)).l[i]?=some x->∃rs,wO ro h (rowOf t) x rs/\∀j u,rs[j]?=some u->us[i*(rowOf t).es+j]?=some u:=by
   intro i x hx;obtain⟨c1,c2⟩:=jn (ρ:=E.ρ) ss (j:=0) hx;unfold cL at U;rw [c1] at U;obtain⟨p,q,rfl,p1,p2⟩:=U.split;obtain⟨q1,q2,rfl,r1,r2⟩:=p2.split;have hp:=p1.length;rw [c2] at hp;refine⟨q1,?_,?_⟩
   ·have r1':cA E h (gL (rowOf t) (.ep x)) q1:=r1;rw [gm] at r1';simp only [V.den,bB] at r1'
    have mono: ∀c d u,jh E.ro h c d u->jh ro h c d u:=by
     intro c d u hh
     cases c with
     |int k=>exact hh
     |bool=>exact hh
     |str=>exact Rd.cf lq (fun _ _=>rfl) hh
     |sl t=>exact Rd.cf lq (fun _ _=>rfl) hh
    have ah8: ∀(cs:List CK) (j:Nat) (d:D) (us:List Value),dV E.ro h cs j d us->dV ro h cs j d us:=by
     intro cs
     induction cs with
     |nil=>intro j d us hh; exact hh
     |cons c cs ih=> intro j d us hh;obtain⟨u,vs,rfl,g1,g2⟩:=hh;exact⟨u,vs,rfl,mono _ _ _ g1,ih _ _ _ g2⟩
    cases hr:rowOf t with
    |one c=> rw [hr] at r1';obtain⟨u,rfl,g1⟩:=r1';exact⟨u,rfl,mono _ _ _ g1⟩
    |many cs=> rw [hr] at r1';exact ah8 _ _ _ _ r1'
   ·intro j u hj;rw [am4 J,hp];rw [show i*(rowOf t).es+j-i*(rowOf t).es=j by omega];have:=(aX.1 hj).1;rw [ano this];exact hj
  rw [w1];simp only [bJ] at im ⊢;generalize hL:(dec (e.den E.ρ)).l=L at *
  cases hr:rowOf t with
  |one c=>
   refine .one t c _ _ cap L (fun i=>(us[i]?).getD undef) hr iR hb ?_ ?_
   ·intro i d hd;obtain⟨rs,g1,g2⟩:=im i d hd;rw [hr] at g1;obtain⟨u,rfl,g3⟩:=g1;have:=g2 0 u rfl;rw [hr] at this;simp only [Row.es,am3,a8] at this;rw [this];exact Z i u this
   ·intro i d hd;obtain⟨rs,g1,g2⟩:=im i d hd;rw [hr] at g1;obtain⟨u,rfl,g3⟩:=g1;have:=g2 0 u rfl;rw [hr] at this;simp only [Row.es,am3,a8] at this;rw [this];have hw:=w2 d (br hd);rw [hr] at hw;exact g3.rd hw
  |many cs=>
   have hwr: ∀d∈L,wD cs d:=by intro d hd;have:=w2 d hd;rw [hr] at this;exact this
   have hLm:L=(L.map D.l).map dL:=by rw [aml];have:L.map (dL ∘ D.l)=L.map (fun d=>d):=amH fun d hd=>(hwr d hd).1.symm;rw [this,List.map_id']
   have hlen:(L.map D.l).length=L.length:=ad
   have aiM:(L.map D.l).length<=cap:=by rw [hlen]; exact iR
   have goal:Rd ro h (.sl t) (dL ((L.map D.l).map dL)) (.slice (some ⟨(E.θ id).1,(E.θ id).2,none⟩) (L.map D.l).length cap):=by
    refine .many t cs _ _ cap (L.map D.l) (fun i j=>(us[i*cs.length+j]?).getD undef) hr aiM hb ?_ ?_ ?_
    ·intro r hrm;rw [aQ] at hrm;obtain⟨d,hd,rfl⟩:=hrm;exact (hwr d hd).2.1
    ·intro i r j d hi hj;rw [bg,aP] at hi;obtain⟨x,hx,rfl⟩:=hi;obtain⟨rs,g1,g2⟩:=im i x hx;rw [hr] at g1;have hjl:j<cs.length:=by rw [<- (hwr x (br hx)).2.1]; exact (aX.1 hj).1
     obtain⟨u,g3,g4⟩:=dV.get g1 (aL hjl);have:=g2 j u g3;rw [hr] at this;simp only [Row.es] at this;rw [this,alP];exact Z _ u this
    ·intro i r j d c hi hj hcj;rw [bg,aP] at hi;obtain⟨x,hx,rfl⟩:=hi;obtain⟨rs,g1,g2⟩:=im i x hx;rw [hr] at g1;obtain⟨u,g3,g4⟩:=dV.get g1 hcj;have:=g2 j u g3;rw [hr] at this;simp only [Row.es] at this;rw [this];rw [aA] at g4;have hd:x.hd j=d:=by simp [D.hd,hj]
     rw [hd] at g4;exact g4.rd ((hwr x (br hx)).2.2 j c d hcj hj)
   rw [<- hLm,hlen] at goal;exact goal
theorem VG {h:Array Obj} {id:Nat} {e:V} {t:Nat} {ty:TypeId} {ro:Nat->Prop} (lq: ∀b,E.ro b->ro b) (hb:ro (E.θ id).1) (ho:OR E h id (.vec e t ty [])) {k cap:Nat} {a:Addr} (hk:k=(dec (e.den E.ρ)).l.length) (iR:k<=cap)
 (hc:eQ E id 0 k a cap (.rest (rowOf t).es)):Rd ro h (.sl t) (dec (e.den E.ρ)) (.slice (some a) k cap):=by
 refine PI lq hb ho hk iR fun lK=>?_;simp only [eQ] at hc
 grind
structure Sub (H' H:Hp):Prop where
 get: ∀j o,H'.get j=some o->H.get j=some o
 next:H'.next=H.next
 res:H'.res=H.res
theorem Sub.refl (H:Hp):Sub H H:=⟨fun _ _ h=>h,rfl,rfl⟩
theorem Sub.trans {A B C:Hp} (a:Sub B A) (b:Sub C B):Sub C A:=⟨fun j o h=>a.get j o (b.get j o h),b.next.trans a.next,b.res.trans a.res⟩
theorem Sub.drop (H:Hp) (id:Nat):Sub (H.drop id) H:=by
 refine⟨fun j o hj=>?_,rfl,rfl⟩
 grind [Hp.kG]
theorem JL [bI] {H:Hp} (r:bO E H w) {id:Nat} {o:dM} (Y:H.get id=some o) :
 fC E w.heap { E with ro:=fun b=>E.ro b\/b=(E.θ id).1 } w.heap/\eT E H w { E with ro:=fun b=>E.ro b\/b=(E.θ id).1 } (H.drop id) w/\bO { E with ro:=fun b=>E.ro b\/b=(E.θ id).1 } (H.drop id) w:=by
 have hk:fC E w.heap { E with ro:=fun b=>E.ro b\/b=(E.θ id).1 } w.heap:=⟨rfl,fun _ h=>h,fun _ _=>rfl,fun _ _=>rfl,fun _ h=> .inl h,fun _ _=>rfl⟩
 have hg: ∀j o,(H.drop id).get j=some o->H.get j=some o/\j≠id:=by
  intro j o hj
  grind [Hp.kG]
 refine⟨hk,⟨rfl,fun _ h=>h,fun _ _=>rfl,fun _ _=>rfl,fun _ h=> .inl h,?_,au _,.inr rfl,fun _ h=> .inl h,rfl,rfl,rfl,au _,fun _ _ _=>rfl,fun j o hj _=> ⟨j,o,(hg j o hj).1,rfl⟩,rfl⟩,
  ⟨r.fresh,r.res,?_,?_,?_,bI.cf r.jG (fun _ h=> .inl h) (fun _ _=>rfl),fun b x hb=> ⟨(r.hid b x hb).1,fun h=>h.elim (r.hid b x hb).2.1 fun e=>(r.hid b x hb).2.2 id o Y e.symm,fun j o hj=>(r.hid b x hb).2.2 j o (hg j o hj).1⟩⟩⟩
 ·intro b hb
  grind
 ·intro j o hj;obtain⟨U,Z⟩:=hg j o hj;obtain⟨g1,g2,g3⟩:=r.live j o U;refine⟨g1,g2.cf hk g1 rfl (fun _ _ _ h=> ⟨h,rfl⟩),?_⟩;rintro (hb|hb)
  ·grind
  ·exact Z (r.inj j id o _ U Y hb)
 ·intro i j x y hi hj he;exact r.inj i j x y (hg i x hi).1 (hg j y hj).1 he
 ·intro b hb;rcases hb with hb|rfl
  ·exact r.rh b hb
  ·exact gf r Y
theorem afw [bI] {H H':Hp} (r:bO E H w) {v v':W} (h:w_ v H=(v',H')) :
 ∃E',E'.ρ=E.ρ/\eT E H w E' H' w/\bO E' H' w/\(∀u,VR E w.heap v u->VR E' w.heap v' u)/\Sub H' H:=by
 have same:(v,H)=(v',H')->∃E',E'.ρ=E.ρ/\eT E H w E' H' w/\bO E' H' w/\(∀u,VR E w.heap v u->VR E' w.heap v' u)/\Sub H' H:=by
  intro he;simp only [ak] at he
  grind [eT.refl,Sub.refl]
 unfold w_ at h;split at h
 ·rename_i id n t;split at h
  ·rename_i o Y;split at h
   ·rename_i e t' ty ov;split at h
    ·split at h
     ·rename_i ht;split at h
      ·rename_i hn;simp only [ak] at h;obtain⟨rfl,rfl⟩:=h;have ht:=aq ht;have hn:=cM _ _ hn;subst ht hn;have yV:=r.live id _ Y;obtain⟨hk,s1,r1⟩:=JL r Y;refine⟨{ E with ro:=fun b=>E.ro b\/b=(E.θ id).1 },rfl,s1,r1,fun u hv=>?_,Sub.drop _ _⟩;simp only [VR] at hv ⊢
       grind [cE,VG]
      grind
     grind
    grind
   grind
  grind
 ·simp only [ak] at h;obtain⟨rfl,rfl⟩:=h;exact⟨E,rfl,eT.refl _ _ _,r,fun u hu=>by simp only [VR] at hu ⊢; exact hu.2,Sub.refl _⟩
 grind
end
section
variable {P:Program} {E:En} {w:World}
theorem Rd.part {ro:Nat->Prop} {h:Array Obj} {t:Nat} {d:D} {b o n cap l k:Nat} (r:Rd ro h (.sl t) d (.slice (some ⟨b,o,none⟩) n cap)) (Y:l<=k) (hk:k<=n) (hn:n<=cap) :
 Rd ro h (.sl t) (fT d ((d.l.take k).drop l)) (.slice (some (if cap=l then⟨b,o,none⟩ else⟨b,o+l*(rowOf t).es,none⟩)) (k-l) (cap-l)):=by
 by_cases h0:k-l=0
 ·have:(d.l.take k).drop l= []:=by
   apply List.drop_eq_nil_of_le
   grind
  have hd:d≠.i 1:=by
   intro q
   grind [Gx]
  rw [this,h0];simp only [fT];rw [af hd];exact .vO _ _ _
 ·rw [af J]
  have gp:(d.l.take k).drop l≠[]:=by
   intro q;have:=congrArg List.length q;obtain⟨x,pN,hv,_⟩:=r.slice
   grind
  rw [vh gp];generalize hc:CK.sl t=c at r;generalize hv:Value.slice (some ⟨b,o,none⟩) n cap=v at r
  cases r with
  |int k n=>simp at hc
  |bool b=>simp at hc
  |str s=>simp at hc
  |nil t=>simp at hv
  |vO t a cap=>
   grind
  |one t' c b' o' pN ds f hr eJ hb U Z=>
   simp only [CK.sl.injEq] at hc;subst hc;simp only [Value.slice.injEq,ah,Addr.mk.injEq] at hv;obtain⟨⟨rfl,rfl,_⟩,rfl,rfl⟩:=hv;rw [bJ];have hlen:((ds.take k).drop l).length=k-l:=by rw [bq,bh]; omega
   have uT: ∀i d,((ds.take k).drop l)[i]?=some d->ds[l+i]?=some d:=by
    intro i d hd
    grind
   rw [<- hlen];refine .one t c b (o+l*(rowOf t).es) (cap-l) ((ds.take k).drop l) (fun i=>f (l+i)) hr (by rw [hlen]; omega) hb ?_ ?_
   ·intro i d hd;have:=U (l+i) d (uT i d hd);rw [hr,show o+l*(Row.one c).es+i=o+(l+i) by simp only [Row.es]; omega]
    grind
   grind
  |many t' cs b' o' pN rows f hr eJ hb UX U Z=>
   simp only [CK.sl.injEq] at hc;subst hc;simp only [Value.slice.injEq,ah,Addr.mk.injEq] at hv;obtain⟨⟨rfl,rfl,_⟩,rfl,rfl⟩:=hv;rw [bJ];have hlen:((rows.take k).drop l).length=k-l:=by rw [bq,bh]; omega
   have uT: ∀i d,((rows.take k).drop l)[i]?=some d->rows[l+i]?=some d:=by
    intro i d hd
    grind
   rw [<- hlen,<- anj,<- ank];refine .many t cs b (o+l*(rowOf t).es) (cap-l) ((rows.take k).drop l) (fun i=>f (l+i)) hr (by rw [hlen]; omega) hb (fun r hrm=>UX r (alS (bw hrm))) ?_ ?_
   ·intro i r j d hi hj;have:=U (l+i) r j d (uT i r hi) hj;rw [hr,show o+l*(Row.many cs).es+i*cs.length+j=o+(l+i)*cs.length+j by simp only [Row.es,alX]; omega]
    grind
   grind
theorem Rd.ahZ {ro:Nat->Prop} {h:Array Obj} {t:Nat} {d:D} {x:Option Addr} {n cap l k:Nat} (r:Rd ro h (.sl t) d (.slice x n cap)) (Y:l<=k) (hk:k<=n) (hn:n<=cap) :
 Rd ro h (.sl t) (fT d ((d.l.take k).drop l)) (.slice (match x with |some a=>some (if cap=l then a else a.add (l*(rowOf t).es))|none=>none) (k-l) (cap-l)):=by
 have hx:(∃b o,x=some ⟨b,o,none⟩)\/(d= .i 1/\x=none/\n=0/\cap=0)\/(d= .i 2/\n=0/\∃a,x=some a):=by
  generalize hc:CK.sl t=c at r;generalize hv:Value.slice x n cap=v at r
  cases r with
  |int k n=>simp at hc
  |bool b=>simp at hc
  |str s=>simp at hc
  |nil t=>simp only [Value.slice.injEq] at hv; exact .inr (.inl ⟨rfl,hv.1,hv.2.1,hv.2.2⟩)
  |vO t a cap=>simp only [Value.slice.injEq] at hv; exact .inr (.inr ⟨rfl,hv.2.1,a,hv.1⟩)
  |one t' c b' o' pN ds f hr eJ hb U Z=>simp only [Value.slice.injEq] at hv; exact .inl ⟨_,_,hv.1⟩
  |many t' cs b' o' pN rows f hr eJ hb UX U Z=>simp only [Value.slice.injEq] at hv; exact .inl ⟨_,_,hv.1⟩
 rcases hx with ⟨b,o,rfl⟩|⟨rfl,rfl,rfl,rfl⟩|⟨rfl,rfl,a,rfl⟩
 ·have:=r.part Y hk hn;simp only [e9]
  grind
 ·obtain rfl:k=0:=J
  obtain rfl:l=0:=J
  exact .nil _
 ·obtain rfl:k=0:=J
  obtain rfl:l=0:=J
  exact .vO _ _ _
theorem Z6 (l:List D):dL l≠.i 1:=by cases l<;>simp [dL]
theorem Rd.afC {ro:Nat->Prop} {h:Array Obj} {t:Nat} {d:D} {x:Option Addr} {n cap:Nat} (r:Rd ro h (.sl t) d (.slice x n cap)):Rd ro h (.sl t) (fT d []) (.slice x 0 0):=by
 generalize hc:CK.sl t=c at r;generalize hv:Value.slice x n cap=v at r
 cases r with
 |int k n=>simp at hc
 |bool b=>simp at hc
 |str s=>simp at hc
 |nil t=> simp only [Value.slice.injEq] at hv;obtain⟨rfl,_,_⟩:=hv;exact .nil _
 |vO t a cap=> simp only [Value.slice.injEq] at hv;obtain⟨rfl,_,_⟩:=hv;exact .vO _ _ _
 |one t' c b' o' pN ds f hr eJ hb U Z=> simp only [Value.slice.injEq] at hv;obtain⟨rfl,_,_⟩:=hv;rw [oW (Z6 _)];exact .vO _ _ _
 |many t' cs b' o' pN rows f hr eJ hb UX U Z=> simp only [Value.slice.injEq] at hv;obtain⟨rfl,_,_⟩:=hv;rw [oW (Z6 _)];exact .vO _ _ _
theorem OV [bI] {tt:TT} (cJ:eA P tt) {s s':St} (hp:bV E.ρ s.pc) {ty t:Nat} {e:V} {lo hi mx:Option W} {yb hi' mx':Option Value} {v:W} {u:Value} (hx:VR E w.heap (.ep e t) u)
 (oa:gq E w.heap lo yb) (yd:gq E w.heap hi hi') (xM:gq E w.heap mx mx') (h:(Jx tt s ty t e lo hi mx).leaf E.ρ=some (v,s')) :
 s'.bD=s.bD/\s'.h=s.h/\bV E.ρ s'.pc/\∃r,(Instr.sliceAt ty u yb hi' mx').run P w= .ok r w/\VR E w.heap v r:=by
 unfold Jx at h;split at h
 ·rename_i m;split at h
  ·rename_i hm;split at h
   ·simp [T.leaf] at h
   ·rename_i z hz;split at h
    ·split at h
     ·rename_i hv;split at h
      ·rename_i hh;have:=bC h;simp only [ak] at this;obtain⟨rfl,rfl⟩:=this;refine⟨rfl,rfl,hp,?_⟩;obtain⟨el,ie,hu,kX,rfl⟩:=np cJ hz;have ik:=ey (cJ el ie kX);simp only [VR] at hx;obtain⟨x,cap,rfl,iR⟩:=hx.slice
       have zb: ∀(a:W),Ch a=true->∀d y,nD (some a) d y=some 0:=by
        intro a ha d y;unfold Ch at ha;unfold nD;split at ha
        ·rename_i n hn;have:=vX ha;subst this;simp only [hn];rw [ag (amh y)]
        ·simp at ha
       obtain⟨e1,e2⟩:=fV (P:=P) (w:=w) (isSlice:=true) (len:=(dec (e.den E.ρ)).l.length) (cap:=cap) (m0:=cap) (d:=0) (m:=0) (h0:=0) (h:=0) (l:=0) oa yd xM (fun _=>rfl) (.inr ⟨m,rfl,zb m hm _ _,au _⟩) (zb hv hh _ _) ⟨fun q=>by simp at q,fun _=>rfl⟩ (by simp [nD]);refine⟨.slice x 0 0,?_,?_⟩
       rotate_left
       ·simp only [VR];refine⟨⟨x,rfl⟩,?_⟩;simp only [V.den,fu.den,bB];exact hx.afC
       cases x with
       |none=>simp [Instr.sliceAt,run_underlying hu,Instr.slice,e1,ik]
       |some a=>simp [Instr.sliceAt,run_underlying hu,Instr.slice,e1,ik]
      ·simp [T.leaf] at h
     ·simp [T.leaf] at h
    ·simp [T.leaf] at h
  ·simp [T.leaf] at h
 ·simp only [gq] at xM;subst xM;split at h
  ·simp [T.leaf] at h
  ·rename_i z hz;split at h
   ·rename_i lE;obtain⟨el,ie,hu,kX,rfl⟩:=np cJ hz;have ik:=ey (cJ el ie kX);simp only [VR] at hx;obtain⟨x,cap,rfl,iR⟩:=hx.slice
    have fin: ∀(l k:Nat) (e':V) (US I1:Option W),gq E w.heap US yb->gq E w.heap I1 hi'->nD I1 (dec (e.den E.ρ)).l.length (dec (e.den E.ρ)).l.length=some k->nD US 0 k=some l->dec (e'.den E.ρ)=fT (dec (e.den E.ρ)) (((dec (e.den E.ρ)).l.take k).drop l)->
     ∃r,(Instr.sliceAt ty (.slice x (dec (e.den E.ρ)).l.length cap) yb hi' none).run P w= .ok r w/\VR E w.heap (.ep e' t) r:=by
     intro l k e' US I1 U Z h3 h4 h5;obtain⟨e1,e2⟩:=fV (P:=P) (w:=w) (isSlice:=true) (len:=(dec (e.den E.ρ)).l.length) (cap:=cap) (m0:=cap) (d:=0) (m:=cap) U Z (mx:=none) (mx':=none) (by simp [gq]) ad (.inl ⟨rfl,rfl,au _⟩) h3 ⟨fun _=>iR,ad⟩ h4;have hk:=lF h3;have T1:=hx.ahZ e2 hk iR;refine⟨_,?_,by simp only [VR,h5]; exact T1⟩
     cases x with
     |none=>simp [Instr.sliceAt,run_underlying hu,Instr.slice,e1,ik]
     |some a=>simp [Instr.sliceAt,run_underlying hu,Instr.slice,e1,ik,lE]<;>split<;>rfl
    have lit: ∀(k:IntKind) (n:Nat) (q:V) (o:Option Value),q.den E.ρ=(n:Int)->gq E w.heap (some (.int k q)) o->gq E w.heap (some (.int k (.lit (Int.ofNat n)))) o:=by intro k n q o hq ho;obtain⟨y,rfl,hy⟩:=ho;refine⟨y,rfl,?_⟩;simp only [VR,V.den] at hy ⊢;rw [hy,hq];rfl
    have bl: ∀(k:IntKind) (n d y:Nat),n<=y->nD (some (.int k (.lit (Int.ofNat n)))) d y=some n:=by intro k n d y hn;simp [nD,ky,hn]
    split at h
    ·
     simp only [gq] at yd;subst yd;split at h
     ·rename_i kl ql;obtain⟨fN,fA,U⟩:=cH hp h;split at U
      ·simp [T.leaf] at U
      ·rename_i t1;obtain⟨jK,jD,Z⟩:=cH (s:={ s with pc:=fN }) fA U;split at Z
       ·simp [T.leaf] at Z
       ·rename_i t2;have:=bC Z;simp only [ak] at this;obtain⟨rfl,rfl⟩:=this;rw [dY,decide_eq_false_iff_not] at t1 t2;rw [cE] at t2;simp only [V.den,amr] at t1 t2;obtain⟨l,Y⟩ : ∃l:Nat,ql.den E.ρ=(l:Int):=⟨(ql.den E.ρ).toNat,J⟩;refine⟨rfl,rfl,jD,fin l (dec (e.den E.ρ)).l.length _ _ none (lit kl l ql yb Y oa) (by simp [gq]) (by simp [nD]) (bl _ _ _ _ J) ?_⟩;simp only [V.den,fu.den,bB,Y,bp,amA]
     ·simp [T.leaf] at h
    ·rename_i kh qh;obtain⟨fN,fA,U⟩:=cH hp h;split at U
     ·simp [T.leaf] at U
     ·rename_i t1;rw [dY,decide_eq_false_iff_not,cE] at t1;split at U
      ·simp only [gq] at oa;subst oa;obtain⟨jK,jD,Z⟩:=cH (s:={ s with pc:=fN }) fA U;split at Z
       ·simp [T.leaf] at Z
       ·rename_i t2;have:=bC Z;simp only [ak] at this;obtain⟨rfl,rfl⟩:=this;rw [dY,decide_eq_false_iff_not] at t2;simp only [V.den,amr] at t2;obtain⟨k,hk⟩ : ∃k:Nat,qh.den E.ρ=(k:Int):=⟨(qh.den E.ρ).toNat,J⟩;refine⟨rfl,rfl,jD,fin 0 k _ none _ (by simp [gq]) (lit kh k qh hi' hk yd) (bl _ _ _ _ J) (by simp [nD]) ?_⟩;simp only [V.den,fu.den,bB,hk,bp,amc]
      ·rename_i kl ql;obtain⟨jK,jD,Z⟩:=cH (s:={ s with pc:=fN }) fA U;split at Z
       ·simp [T.leaf] at Z
       ·rename_i t2;obtain⟨UR,IZ,h3⟩:=cH (s:={ s with pc:=jK }) jD Z;split at h3
        ·simp [T.leaf] at h3
        ·rename_i t3;have:=bC h3;simp only [ak] at this;obtain⟨rfl,rfl⟩:=this;rw [dY,decide_eq_false_iff_not] at t2 t3;simp only [V.den,amr] at t2 t3;obtain⟨l,Y⟩ : ∃l:Nat,ql.den E.ρ=(l:Int):=⟨(ql.den E.ρ).toNat,J⟩;obtain⟨k,hk⟩ : ∃k:Nat,qh.den E.ρ=(k:Int):=⟨(qh.den E.ρ).toNat,J⟩;refine⟨rfl,rfl,IZ,fin l k _ _ _ (lit kl l ql yb Y oa) (lit kh k qh hi' hk yd) (bl _ _ _ _ J) (bl _ _ _ _ J) ?_⟩;simp only [V.den,fu.den,bB,Y,hk,bp,gz];exact xW fun q=>by rw [q]; simp [D.l]
      ·simp [T.leaf] at U
    ·simp [T.leaf] at h
   ·simp [T.leaf] at h
end
theorem DU {e:V} (h:X_ e=true):e= .lit 0:=by
 unfold X_ at h
 grind [vX]
theorem oZ (ρ:Nat->Int) (a b:V):(sc a b).den ρ=a.den ρ+b.den ρ:=by
 unfold sc;split
 ·rename_i h;rw [DU h];simp only [V.den,Int.zero_add]
 ·rfl
theorem Ti (ρ:Nat->Int) (a b:V):(Da a b).den ρ=a.den ρ-b.den ρ:=by
 unfold Da;split
 ·rename_i h;rw [DU h];simp only [V.den,Int.sub_zero]
 ·rfl
theorem xw {ρ:Nat->Int} {e lo n:V} {l k:Nat} (Y:lo.den ρ=(l:Int)) (hn:n.den ρ=(k:Int)) :
 dec ((Dz e lo n).den ρ)=fT (dec (e.den ρ)) (((dec (e.den ρ)).l.take (l+k)).drop l):=by
 unfold Dz;split
 ·rename_i h;have h:=DU h;subst h;simp only [V.den] at Y;have:l=0:=J
  subst this;simp only [V.den,fu.den,bB,hn,bp,aA,amc]
 ·have Z:((l:Int)+(k:Int)).toNat=l+k:=J
  simp only [V.den,fu.den,bB,Y,hn,Z,bp,gz]
  grind [xW,D.l]
theorem vN {α:Type} {ρ:Nat->Int} {e lo n:V} {s:St} {k:St->T α} {x:α} (hp:bV ρ s.pc) (h:(xx e lo n s k).leaf ρ=some x) :
 ∃ef,bV ρ ef/\0<=lo.den ρ/\0<=n.den ρ/\lo.den ρ+n.den ρ<=((dec (e.den ρ)).l.length:Int)/\(k { s with pc:=ef }).leaf ρ=some x:=by
 unfold xx at h;obtain⟨fN,fA,U⟩:=cH hp h;split at U
 ·grind [T.leaf]
 ·rename_i Rz;obtain⟨jK,jD,Z⟩:=cH (s:={ s with pc:=fN }) fA U;split at Z
  ·grind [T.leaf]
  ·rename_i LB;obtain⟨UR,IZ,h3⟩:=cH (s:={ s with pc:=jK }) jD Z;split at h3
   ·grind [T.leaf]
   ·rename_i hb3;rw [dY,decide_eq_false_iff_not] at Rz LB hb3;rw [cE,oZ] at hb3;simp only [V.den] at Rz LB
    grind
theorem mV {h:Hp} {id t:Nat} {e:V} {ty:TypeId} (hv:Be h id t=some (e,ty)):h.get id=some (.vec e t ty []):=by
 unfold Be at hv;split at hv
 ·rename_i o ho;split at hv
  ·split at hv
   ·split at hv
    all_goals simp_all
   grind
  grind
 grind
theorem Rd.ahS {ro:Nat->Prop} {h:Array Obj} {t:Nat} {d:D} {a:Addr} {n cap pN:Nat} (r:Rd ro h (.sl t) d (.slice (some a) n cap)) (hc:n<=pN):Rd ro h (.sl t) d (.slice (some a) n pN):=by
 generalize hk:CK.sl t=c at r;generalize hv:Value.slice (some a) n cap=v at r
 cases r with
 |int k n=>simp at hk
 |bool b=>simp at hk
 |str s=>simp at hk
 |nil t=>simp at hv
 |vO t a cap=> simp only [CK.sl.injEq] at hk;simp only [Value.slice.injEq,ah] at hv;obtain⟨rfl,rfl,rfl⟩:=hv;subst hk;exact .vO _ _ _
 |one t' c b' o' pN ds f hr eJ hb U Z=> simp only [CK.sl.injEq] at hk;simp only [Value.slice.injEq,ah] at hv;obtain⟨rfl,rfl,rfl⟩:=hv;subst hk;exact .one _ _ _ _ _ _ _ hr hc hb U Z
 |many t' cs b' o' pN rows f hr eJ hb UX U Z=> simp only [CK.sl.injEq] at hk;simp only [Value.slice.injEq,ah] at hv;obtain⟨rfl,rfl,rfl⟩:=hv;subst hk;exact .many _ _ _ _ _ _ _ hr hc hb UX U Z
section
variable {P:Program} {E:En} {w:World}
theorem VH {h:Array Obj} {id:Nat} {e:V} {t:Nat} {ty:TypeId} {ro:Nat->Prop} (lq: ∀b,E.ro b->ro b) (hb:ro (E.θ id).1) (ho:OR E h id (.vec e t ty [])) {l k cap:Nat} {a:Addr} (hk:l+k<=(dec (e.den E.ρ)).l.length) (iR:k<=cap)
 (hc:eQ E id (l*(rowOf t).es) k a cap (.rest (rowOf t).es)):Rd ro h (.sl t) (fT (dec (e.den E.ρ)) (((dec (e.den E.ρ)).l.take (l+k)).drop l)) (.slice (some a) k cap):=by
 have hw:=(OR.oo.1 ho).1.2
 have gp:dec (e.den E.ρ)≠.i 1:=by intro q;have:=hw.2.2;rw [q] at this;exact this rfl
 rcases ams k with h0|lK
 ·subst h0
  have:((dec (e.den E.ρ)).l.take (l+0)).drop l= []:=by
   grind
  rw [this,oW gp];exact .vO _ _ _
 ·simp only [eQ] at hc
  obtain⟨rfl,_⟩ : a=⟨(E.θ id).1,(E.θ id).2+l*(rowOf t).es,none⟩/\l*(rowOf t).es+cap*(rowOf t).es=E.κ id:=by
   grind
  have r0:=PI lq hb ho (k:=(dec (e.den E.ρ)).l.length) (cap:=(dec (e.den E.ρ)).l.length+l+1) (a:=⟨(E.θ id).1,(E.θ id).2,none⟩) rfl J (fun _=>rfl);have r1:=r0.part (l:=l) (k:=l+k) J hk J;rw [af J,show l+k-l=k by omega] at r1;exact r1.ahS iR
structure Kg [bI] (E:En) (w:World) (H:Hp) (E':En) (H':Hp):Prop where
 ρ:E'.ρ=E.ρ
 dZ:eT E H w E' H' w
 rel:bO E' H' w
 sub:Sub H' H
theorem Kg.refl [bI] {H:Hp} (r:bO E H w):Kg E w H E H:=⟨rfl,eT.refl _ _ _,r,Sub.refl _⟩
theorem Kg.trans [bI] {E1 E2:En} {H H1 H2:Hp} (a:Kg E w H E1 H1) (b:Kg E1 w H1 E2 H2):Kg E w H E2 H2:=
 ⟨b.ρ.trans a.ρ,a.dZ.trans b.dZ,b.rel,a.sub.trans b.sub⟩
theorem Jd [bI] {α:Type} {ρ:Nat->Int} {v:W} {s:St} {k:W->St->T α} {x:α} (hρ:E.ρ=ρ) (r:bO E s.h w) (hp:bV ρ s.pc) (h:(OA v s k).leaf ρ=some x) :
 ∃v' h' ef E',bV ρ ef/\Kg E w s.h E' h'/\(∀u,VR E w.heap v u->VR E' w.heap v' u)/\(k v' { s with h:=h',pc:=ef }).leaf ρ=some x:=by
 unfold OA at h;split at h
 ·rename_i id lo n t;split at h
  ·rename_i e ty hv;have Y:=mV hv;obtain⟨ef,fy,U,Z,h3,h4⟩:=vN hp h;obtain⟨hk,s1,r1⟩:=JL r Y;refine⟨_,_,ef,{ E with ro:=fun b=>E.ro b\/b=(E.θ id).1 },fy,⟨rfl,s1,r1,Sub.drop _ _⟩,fun u hu=>?_,h4⟩;simp only [VR] at hu ⊢;obtain⟨hid,l,m,a,cap,q1,q2,rfl,q4,q5⟩:=hu;rw [xw q1 q2];rw [hρ] at q1 q2;have hh:=VH (E:=E) (ro:=fun b=>E.ro b\/b=(E.θ id).1) (fun _ h=> .inl h) (.inr rfl) (r.live id _ Y).2.1 (l:=l) (k:=m) (by rw [hρ]; omega) q4 q5;exact hh
  ·exact⟨_,_,s.pc,E,hp,Kg.refl r,fun _ h=>h,h⟩
 ·cases hf:w_ v s.h with
  |mk v' h'=> rw [hf] at h;obtain⟨E',q1,q2,q3,q4,q5⟩:=afw r hf;exact⟨v',h',s.pc,E',hp,⟨q1,q2,q3,q5⟩,q4,h⟩
theorem LK [bI] {α:Type} {ρ:Nat->Int}: ∀{vs:List W} {s:St} {E:En} {k:List W->St->T α} {x:α},E.ρ=ρ->bO E s.h w->bV ρ s.pc->(Ha vs s k).leaf ρ=some x->
 ∃MO h' ef E',bV ρ ef/\Kg E w s.h E' h'/\(∀us,cA E w.heap vs us->cA E' w.heap MO us)/\(k MO { s with h:=h',pc:=ef }).leaf ρ=some x
 |[],s,E,k,x,hρ,r,hp,h=> ⟨[],s.h,s.pc,E,hp,Kg.refl r,fun _ h=>h,h⟩
 |v::vs,s,E,k,x,hρ,r,hp,h=>by simp only [Ha] at h;obtain⟨v1,U,fN,E1,fA,f1,q1,g1⟩:=Jd hρ r hp h;obtain⟨VE,Z,jK,E2,jD,f2,q2,g2⟩:=LK (s:={ s with h:=U,pc:=fN }) (f1.ρ.trans hρ) f1.rel fA g1;refine⟨v1::VE,Z,jK,E2,jD,f1.trans f2,fun us hu=>?_,g2⟩;rw [bT] at hu ⊢;obtain⟨u,gF,rfl,a,b⟩:=hu;exact⟨u,gF,rfl,VR.cf (f2.dZ.keeps f1.rel) _ _ (q1 u a),q2 gF (cA.cf (f1.dZ.keeps r) _ _ b)⟩
theorem yD {ρ:Nat->Int} {i:Nat} {j:V} {cs:List W}: ∀{pre:List (V×List W)},ed ρ i (pre++ [(j,cs)])=match ed ρ i pre with |some c=>some c|none=>if j.den ρ=(i:Int) then some cs else none
 |[]=>rfl
 |(a,b)::pre=>by
  simp only [aO,ed];split
  ·rfl
  ·exact yD
theorem L_ (ρ:Nat->Int) (e j x:V):dec ((V.op .set e (eD (mW j) x)).den ρ)=dL (eY (dec (e.den ρ)).l (j.den ρ) (dec (x.den ρ))):=by simp only [eD,V.den,fu.den,bB,lI,D.n]
theorem KF (ds:List D) (z:Int) (x:D) (n:Nat):(eY ds z x)[n]?=if z=(n:Int)/\n<ds.length then some x else ds[n]?:=by
 grind [eY]
theorem xh {ρ:Nat->Int} {E1 E2:En} {h:Array Obj} {r:Row} {pre:List (V×List W)} {j:V} {cs:List W} {X:D} (mono: ∀a us,cA E1 h a us->cA E2 h a us) (hX: ∀us,cA E1 h cs us->wO E2.ro h r X us) :
 ∀{L L':List D} {i:Nat} {us:List Value},L'.length=L.length->(∀n:Nat,L'[n]?=if j.den ρ=((i+n:Nat):Int)/\n<L.length then some X else L[n]?)->
  cA E1 h (bE ρ r (pre++ [(j,cs)]) L i) us->cA E2 h (bE ρ r pre L' i) us
 |[],[],i,us,_,_,hv=>by simp only [bE,cA] at *; exact hv
 |[],_::_,_,_,Y,_,_=>by simp at Y
 |_::_,[],_,_,Y,_,_=>by simp at Y
 |d::L,d'::L',i,us,Y,hg,hv=>by
  simp only [bE] at *;obtain⟨a,b,rfl,a1,a2⟩:=hv.split;have h0:=hg 0;simp only [aF,a8,aM] at h0;refine cA.append ?_ (xh mono hX (by simpa using Y) (fun n=>?_) a2)
  ·rw [yD] at a1
   cases ho:ed ρ i pre with
   |some c=>
    grind
   |none=>
    rw [ho] at a1;simp only at a1 ⊢;by_cases hj:j.den ρ=(i:Int)
    ·rw [ag hj] at a1;rw [ag ⟨hj,J⟩] at h0;simp only [ah] at h0;subst h0;rw [gm];simp only [V.den,bB]
     grind
    grind
  ·have:=hg (n+1)
   grind
theorem L! {r:Row} {ds:List D} {z:Int} {x:D} (U: ∀d∈ds,pS r d) (Z:pS r x): ∀d∈eY ds z x,pS r d:=by
 intro d hd;obtain⟨n,hn⟩:=amI.1 hd
 grind [KF]
theorem L? {ds:List D} {z:Int} {x:D} (h:ds≠[]):eY ds z x≠[]:=by
 intro q
 grind [fQ]
theorem KV [bI] {α:Type} {ρ:Nat->Int} {t:Nat}: ∀{ov:List (V×List W)} {e:V} {s:St} {E:En} {k:V->St->T α} {x:α} (pre:List (V×List W)),E.ρ=ρ->bO E s.h w->bV ρ s.pc->sg (rowOf t) (dec (e.den ρ))->
 (Gm t ov e s k).leaf ρ=some x->
 ∃e' h' ef E',bV ρ ef/\Kg E w s.h E' h'/\sg (rowOf t) (dec (e'.den ρ))/\(dec (e'.den ρ)).l.length=(dec (e.den ρ)).l.length/\
  (∀us,cA E w.heap (bE ρ (rowOf t) (pre++ov) (dec (e.den ρ)).l 0) us->cA E' w.heap (bE ρ (rowOf t) pre (dec (e'.den ρ)).l 0) us)/\(k e' { s with h:=h',pc:=ef }).leaf ρ=some x
 |[],e,s,E,k,x,pre,hρ,r,hp,hw,h=> ⟨e,s.h,s.pc,E,hp,Kg.refl r,hw,rfl,fun us hu=>by rw [alV] at hu; exact hu,h⟩
 |(j,cs)::ov,e,s,E,k,x,pre,hρ,r,hp,hw,h=>by
  simp only [Gm] at h;obtain⟨e1,U,fN,E1,fA,f1,w1,l1,c1,g1⟩:=KV (pre++ [(j,cs)]) hρ r hp hw h;obtain⟨cs2,Z,jK,E2,jD,f2,c2,g2⟩:=LK (s:={ s with h:=U,pc:=fN }) (f1.ρ.trans hρ) f1.rel fA g1;split at g2
  ·rename_i y hy;have hρ2:E2.ρ=ρ:=f2.ρ.trans (f1.ρ.trans hρ);have hsd:=L_ ρ e1 j y;refine⟨_,Z,jK,E2,jD,f1.trans f2,?_,?_,?_,g2⟩
   ·rw [hsd];exact⟨by rw [bJ],by rw [bJ]; exact L! w1.2.1 (tw hy),by rw [bJ]; exact L? w1.2.2⟩
   ·grind [bJ,fQ]
   ·intro us hu;rw [hsd,bJ];have Oc:=c1 us (by rw [amf]; exact hu);refine xh (j:=j) (cs:=cs) (X:=dec (y.den ρ)) (fun a us ha=>cA.cf (f2.dZ.keeps f1.rel) _ _ ha) (fun us GW=>?_) (fQ _ _ _) (fun n=>?_) Oc
    all_goals grind [tx,KF]
  grind [T.leaf]
theorem TM {v:W} {h:Hp} {id t:Nat} {e:V} {ov:List (V×List W)} (hv:aev v h=some (id,e,t,ov)): ∃ty,v= .pb id (dR e) t/\h.get id=some (.vec e t ty ov):=by
 unfold aev at hv;split at hv
 ·split at hv
  ·rename_i o ho;split at hv
   ·split at hv
    ·grind
    ·split at hv
     ·rename_i ht;split at hv
      ·rename_i hn;have ht:=aq ht
       grind [cM]
      grind
     grind
   grind
  grind
 grind
theorem Jb [bI] {α:Type} {ρ:Nat->Int} {v:W} {s:St} {k:W->St->T α} {x:α} (hρ:E.ρ=ρ) (r:bO E s.h w) (hp:bV ρ s.pc) (h:(Oz v s k).leaf ρ=some x) :
 ∃v' h' ef E',bV ρ ef/\Kg E w s.h E' h'/\(∀u,VR E w.heap v u->VR E' w.heap v' u)/\(k v' { s with h:=h',pc:=ef }).leaf ρ=some x:=by
 unfold Oz at h;split at h
 ·rename_i id e t ov hv;obtain⟨ty,rfl,Y⟩:=TM hv;obtain⟨hid,ho,alE⟩:=r.live id _ Y;have yU:=ho;simp only [OR] at yU;rw [hρ] at yU;obtain⟨⟨ss,ud⟩,arr,lo,hi,us,q1,q2,q3,q4,q5,q6,q7⟩:=yU;obtain⟨e',h',ef,E',fy,f,w',l',c',g⟩:=KV [] hρ r hp ud h;split at g
  ·rename_i o hg;have hg':=f.sub.get _ _ hg;rw [Y] at hg';simp only [ah] at hg';subst hg';obtain⟨hk,s1,r1⟩:=JL f.rel hg;have hρ':E'.ρ=ρ:=f.ρ.trans hρ;refine⟨_,_,ef,{ E' with ro:=fun b=>E'.ro b\/b=(E'.θ id).1 },fy,⟨f.ρ,f.dZ.trans s1,r1,f.sub.trans (Sub.drop _ _)⟩,fun u hu=>?_,g⟩;simp only [VR] at hu ⊢;obtain⟨_,m,a,cap,p1,rfl,p3,p4⟩:=hu;rw [cE,hρ] at p1;have hθ:=f.dZ.θ id hid;have hκ:=f.dZ.κ id hid
   have hO:OR E' w.heap id (.vec e' t ty []):=by simp only [OR];rw [hρ',hθ,hκ];have hv':=c' us (by rw [aC]; exact q2);refine⟨⟨fun p hp=>by simp at hp,w'⟩,arr,lo,hi,us,q1,hv',q3,?_,q5,q6,q7⟩;have e1:=hv'.length;have e2:=q2.length;omega
   have hh:=VG (E:=E') (ro:=fun b=>E'.ro b\/b=(E'.θ id).1) (fun _ h=> .inl h) (.inr rfl) hO (k:=m) (cap:=cap) (a:=a) (by rw [hρ',l']; omega) p3 (by
    simp only [eQ] at p4 ⊢;rw [hθ,hκ]
    exact p4)
   exact hh
  grind [T.leaf]
 grind [Jd]
theorem pF [bI] {α:Type} {ρ:Nat->Int}: ∀{vs:List W} {s:St} {E:En} {k:List W->St->T α} {x:α},E.ρ=ρ->bO E s.h w->bV ρ s.pc->(xe vs s k).leaf ρ=some x->
 ∃MO h' ef E',bV ρ ef/\Kg E w s.h E' h'/\(∀us,cA E w.heap vs us->cA E' w.heap MO us)/\(k MO { s with h:=h',pc:=ef }).leaf ρ=some x
 |[],s,E,k,x,hρ,r,hp,h=> ⟨[],s.h,s.pc,E,hp,Kg.refl r,fun _ h=>h,h⟩
 |v::vs,s,E,k,x,hρ,r,hp,h=>by simp only [xe] at h;obtain⟨v1,U,fN,E1,fA,f1,q1,g1⟩:=Jb hρ r hp h;obtain⟨VE,Z,jK,E2,jD,f2,q2,g2⟩:=pF (s:={ s with h:=U,pc:=fN }) (f1.ρ.trans hρ) f1.rel fA g1;refine⟨v1::VE,Z,jK,E2,jD,f1.trans f2,fun us hu=>?_,g2⟩;rw [bT] at hu ⊢;obtain⟨u,gF,rfl,a,b⟩:=hu;exact⟨u,gF,rfl,VR.cf (f2.dZ.keeps f1.rel) _ _ (q1 u a),q2 gF (cA.cf (f1.dZ.keeps r) _ _ b)⟩
end
section
variable {P:Program} {E:En} {w:World}
theorem lH: ∀{cs vs l:List W} {o:Nat},dX cs o vs=some l->l.length=cs.length
 |cs,[],l,0,h=>by simp only [dX,ah] at h; rw [h]
 |[],v::vs,l,0,h=>by simp [dX] at h
 |c::cs,v::vs,l,0,h=>by
  simp only [dX] at h;split at h
  ·rename_i l' Y;simp only [ah] at h;subst h;simp [lH Y]
  grind
 |[],vs,l,o+1,h=>by simp [dX] at h
 |c::cs,vs,l,o+1,h=>by
  simp only [dX] at h;split at h
  ·rename_i l' Y;simp only [ah] at h;subst h;simp [lH Y]
  grind
theorem nH: ∀{cs vs l:List W} {o:Nat} (m:List W),dX cs o vs=some l->dX (cs++m) o vs=some (l++m)
 |cs,[],l,0,m,h=>by simp only [dX,ah] at h ⊢; rw [h]
 |[],v::vs,l,0,m,h=>by simp [dX] at h
 |c::cs,v::vs,l,0,m,h=>by
  simp only [dX,aO] at h ⊢;split at h
  ·rename_i l' Y;simp only [ah] at h;subst h;rw [nH m Y];rfl
  grind
 |[],vs,l,o+1,m,h=>by simp [dX] at h
 |c::cs,vs,l,o+1,m,h=>by
  simp only [dX,aO] at h ⊢;split at h
  ·rename_i l' Y;simp only [ah] at h;subst h;rw [nH m Y];rfl
  grind
theorem sH: ∀{cs vs l:List W} {o:Nat} (p:List W),dX cs o vs=some l->dX (p++cs) (p.length+o) vs=some (p++l)
 |cs,vs,l,o,[],h=>by simpa using h
 |cs,vs,l,o,x::p,h=>by have:=sH p h;rw [aO,aM,show p.length+1+o=(p.length+o)+1 by omega];simp only [dX,this,aO]
theorem rv: ∀{cs vs l:List W} {o:Nat},dX cs o vs=some l->∀j:Nat,l[j]?=if o<=j/\j<o+vs.length then vs[j-o]? else cs[j]?
 |cs,[],l,0,h,j=>by
  simp only [dX,ah] at h
  grind
 |[],v::vs,l,0,h,j=>by simp [dX] at h
 |c::cs,v::vs,l,0,h,j=>by
  simp only [dX] at h;split at h
  ·rename_i l' Y;simp only [ah] at h;subst h
   cases j with
   |zero=>simp
   |succ j=>
    have:=rv Y j
    grind
  grind
 |[],vs,l,o+1,h,j=>by simp [dX] at h
 |c::cs,vs,l,o+1,h,j=>by
  simp only [dX] at h;split at h
  ·rename_i l' Y;simp only [ah] at h;subst h
   cases j with
   |zero=>rw [af J]; rfl
   |succ j=>
    have:=rv Y j
    grind
  grind
theorem zM (x:V): ∀(cs:List CK) (j k:Nat),(iz cs j x)[k]?=(cs[k]?).map fun c=>vk c (iO (j+k) x)
 |[],j,k=>by simp [iz]
 |c::cs,j,0=>by simp [iz]
 |c::cs,j,k+1=>by
  simp only [iz,aG,zM x cs (j+1) k]
  grind
theorem Bm {ρ:Nat->Int} {ks:List CK}: ∀{vs:List W} {off:Nat} {x x':V},setCells ks off vs x=some x'->off+vs.length<=(dec (x.den ρ)).l.length->
 (dec (x'.den ρ)).l.length=(dec (x.den ρ)).l.length/\(dec (x.den ρ)=dL (dec (x.den ρ)).l->dec (x'.den ρ)=dL (dec (x'.den ρ)).l)/\
 ∀j,(j<off\/off+vs.length<=j)/\(dec (x'.den ρ)).l[j]?=(dec (x.den ρ)).l[j]?\/∃c v a,off<=j/\vs[j-off]?=some v/\ks[j]?=some c/\nq c v=some a/\(dec (x'.den ρ)).l[j]?=some (dec (a.den ρ))
 |[],off,x,x',h,_=>by
  simp only [setCells,ah] at h
  grind
 |v::vs,off,x,x',h,hle=>by
  simp only [setCells] at h;split at h
  ·rename_i c hc;split at h
   ·rename_i a ha;simp only [aM] at hle
    have hs:dec ((V.op .set x (eD (.ep (.i (Int.ofNat off))) a)).den ρ)=dL ((dec (x.den ρ)).l.set off (dec (a.den ρ))):=by simp only [eD,V.den,fu.den,bB,D.n];rfl
    obtain⟨U,Z,h3⟩:=Bm (ρ:=ρ) h (by rw [hs,bJ,am5]; omega);rw [hs,bJ,am5] at U;rw [hs] at Z h3;simp only [bJ] at Z h3;rw [dq] at hc
    grind
   grind
  grind
theorem dV.mk {ro:Nat->Prop} {h:Array Obj} {d:D}: ∀{cs:List CK} {j:Nat} {us:List Value},us.length=cs.length->(∀k c u,cs[k]?=some c->us[k]?=some u->jh ro h c (d.hd (j+k)) u)->dV ro h cs j d us
 |[],j,us,Y,_=>by
  simp only [dV]
  grind
 |c::cs,j,[],Y,_=>by simp at Y
 |c::cs,j,u::us,Y,hh=>by
  simp only [dV];refine⟨u,us,rfl,by simpa using hh 0 c u rfl rfl,dV.mk (by simpa using Y) fun k c' u' U Z=>?_⟩;have:=hh (k+1) c' u' (by simpa using U) (by simpa using Z)
  grind
theorem Pj {r:Row} {e e' i:V} {off k:Nat} {vs:List W} {x:D} (hc:JS r e i off vs=some e') (hi:i.den E.ρ=(k:Int)) (hx:(dec (e.den E.ρ)).l[k]?=some x) (ud:pS r x) (hle:off+vs.length<=r.es) :
 ∃x',dec (e'.den E.ρ)=dL ((dec (e.den E.ρ)).l.set k x')/\pS r x'/\∀(h:Array Obj) (gF:List Value),gF.length=r.es->(∀j v u,off<=j->vs[j-off]?=some v->gF[j]?=some u->VR E h v u)->
  (∀j a u,(j<off\/off+vs.length<=j)->(gL r (.op .at e i))[j]?=some a->gF[j]?=some u->VR E h a u)->wO E.ro h r x' gF:=by
 unfold JS at hc;split at hc
 ·rename_i c;split at hc
  ·split at hc
   ·rename_i v;split at hc
    ·rename_i a ha;simp only [ah] at hc;subst hc;refine⟨dec (a.den E.ρ),?_,oY ha,?_⟩
     ·simp only [eD,V.den,fu.den,bB,lI,D.n,hi,rz]
     ·intro h gF U Z _
      cases gF with
      |nil=>simp [Row.es] at U
      |cons y ys=>
       have:ys= []:=by
        grind [Row.es]
       subst this;exact⟨y,rfl,mn (Z 0 v y (au _) rfl rfl) ha⟩
    grind
   grind
  grind
 ·rename_i ks;split at hc
  ·rename_i x' UT;simp only [ah] at hc;subst hc;have jt:=Bb E.ρ e i hi hx;obtain⟨w1,w2,w3⟩:=ud;obtain⟨g1,g2,g3⟩:=Bm (ρ:=E.ρ) UT (by rw [jt,w2]; exact hle);rw [jt] at g1 g2 g3;refine⟨dec (x'.den E.ρ),?_,⟨g2 w1,by rw [g1,w2],?_⟩,?_⟩
   ·simp only [eD,V.den,fu.den,bB,lI,D.n,hi,rz]
   ·intro j c y hj hy;rcases g3 j with ⟨_,q2⟩|⟨c',v',a',_,_,q3,q4,q5⟩
    ·grind
    ·rw [q5] at hy;rw [hj] at q3;simp only [ah] at hy q3;subst hy q3;exact oY q4
   ·intro h gF U Z h3;show dV E.ro h ks 0 (dec (x'.den E.ρ)) gF;refine dV.mk U fun j c u hj hu=>?_;rw [aA];rcases g3 j with ⟨q1,q2⟩|⟨c',v',a',q1,q2,q3,q4,q5⟩
    ·have p2:=h3 j (vk c (iO j (.op .at e i))) u q1 (by simp only [gL,zM,hj,alN,aA]) hu;rw [nt,pf,jt] at p2;have:(dec (x'.den E.ρ)).hd j=x.hd j:=by simp only [D.hd,q2]
     grind
    ·rw [hj] at q3;simp only [ah] at q3;subst q3;have:(dec (x'.den E.ρ)).hd j=dec (a'.den E.ρ):=by simp only [D.hd,q5,ax]
     rw [this];exact mn (Z j v' u q1 q2 hu) q4
  grind
theorem kJ {ρ:Nat->Int} {r:Row} {ov iY:List (V×List W)}: ∀(ds:List D) (i:Nat),(∀j,i<=j->j<i+ds.length->ed ρ j ov=ed ρ j iY)->bE ρ r ov ds i=bE ρ r iY ds i
 |[],_,_=>rfl
 |d::ds,i,h=>by simp only [bE];rw [h i (au _) ad,kJ ds (i+1) fun j U Z=>h j J (by simp only [aM]; omega)]
theorem Dx {ρ:Nat->Int} {pc:List (SB×Bool)} (hp:bV ρ pc) {i:V} {k:Nat} (hi:i.den ρ=(k:Int)) {lS:List W} {r:Row} (MU:lS.length=r.es): ∀{ov iY:List (V×List W)},Gc pc i lS ov=some iY->sM r ov->
 sM r iY/\ed ρ k iY=some lS/\∀j:Nat,j≠k->ed ρ j iY=ed ρ j ov
 |[],iY,h,_=>by simp [Gc] at h
 |(j,c)::l,iY,h,ho=>by
  simp only [Gc] at h;split at h
  ·rename_i he;have he:=cM _ _ he;subst he;simp only [ah] at h;subst h;refine⟨?_,by simp [ed,hi],?_⟩
   ·intro p fy;rcases ay.1 fy with rfl|fy
    ·grind
    ·exact ho p (by simp [fy])
   ·intro m hm;simp only [ed,hi]
    grind
  ·split at h
   ·rename_i b hd;split at h
    ·have hd:=gD hp hd;rw [gH,beq_iff_eq,hi] at hd;simp only [ah] at h;subst h;refine⟨?_,by simp [ed,hd],?_⟩
     ·intro p fy;rcases ay.1 fy with rfl|fy
      ·grind
      ·exact ho p (by simp [fy])
     ·intro m hm;simp only [ed,<- hd]
      grind
    split at h
    ·rename_i l' Y;simp only [ah] at h;subst h;have hd:=gD hp hd;rw [gH,beq_eq_false_iff_ne,hi] at hd;obtain⟨g1,g2,g3⟩:=Dx hp hi MU Y fun p fy=>ho p (by simp [fy]);refine⟨?_,?_,?_⟩
     ·intro p fy;rcases ay.1 fy with rfl|fy
      ·exact ho _ ad
      ·exact g1 p fy
     ·simp only [ed]
      grind
     ·intro m hm;simp only [ed]
      grind
    grind
   grind
theorem HM {ρ:Nat->Int} {pc:List (SB×Bool)} (hp:bV ρ pc) {i:V} {k:Nat} (hi:i.den ρ=(k:Int)): ∀{ov:List (V×List W)},vt pc i ov=true->ed ρ k ov=none
 |[],_=>rfl
 |(j,c)::l,h=>by
  simp only [vt] at h;split at h
  ·rename_i hd;have hd:=gD hp hd;rw [gH,beq_eq_false_iff_ne,hi] at hd;simp only [ed];rw [af (fun q=>hd q.symm)];exact HM hp hi h
  grind
theorem OR.congr {h:Array Obj} {id:Nat} {a b:List W} {ty:TypeId} (ho:OR E h id (.cells a ty)) (Y:b.length=a.length) (hv: ∀us,cA E h a us->cA E h b us):OR E h id (.cells b ty):=by
 simp only [OR] at ho ⊢
 grind
set_option maxHeartbeats 800000 in
theorem LV [bI] {E1:En} {tt:TT} (cJ:eA P tt) {s s':St} (r1:bO E1 s.h w) (hp:bV E1.ρ s.pc) {ty id es:Nat} {i:V} {off:Nat} {one:Bool} {vs:List W} {v':W} {u x:Value} (hx:VR E1 w.heap (.zG id es i off) u)
 (MT:one=true->cA E1 w.heap vs x.cells.toList/\∀u∈x.cells.toList,u.oneCell'=true) (h:(Es tt s ty id es i off one vs).leaf E1.ρ=some (v',s')) :
 s'.bD=s.bD/\bV E1.ρ s'.pc/\v'=W.undef/\∃w' E',(Instr.storeAt ty u x).run P w= .ok () w'/\eT E1 s.h w E' s'.h w'/\bO E' s'.h w':=by
 unfold Es at h;split at h
 ·rename_i o Y;split at h
  ·rename_i e t Ah ov;split at h
   ·rename_i ti fm;split at h
    ·rename_i jl;obtain⟨lE,yR,wJ⟩:=jl;obtain⟨pc0,X7,t1,t2,h3⟩:=nw hp h;obtain⟨ef,fy,h3⟩:=vy (s:={ s with pc:=pc0 }) X7 h3;split at h3
     ·rename_i cs hc;split at h3
      ·rename_i lS hs;obtain⟨GV,Yf⟩:=MT wJ;have hx1:=hx;simp only [VR] at hx1;obtain⟨hid,k,hk,rfl⟩:=hx1;obtain⟨rc,ho,ud⟩:=r1.oo Y;rw [cE] at t2;have fW:k<(dec (e.den E1.ρ)).l.length:=J
       have hd:(dec (e.den E1.ρ)).l[k]?=some (dec (e.den E1.ρ)).l[k]:=aL fW;generalize hxk:(dec (e.den E1.ρ)).l[k]=xk at hd;obtain⟨c1,c2⟩:=jn (ρ:=E1.ρ) ho (j:=0) hd;rw [aA] at c1;generalize aac:bE E1.ρ (rowOf t) ov ((dec (e.den E1.ρ)).l.take k) 0=pre at c1 c2;generalize Rn:bE E1.ρ (rowOf t) ov ((dec (e.den E1.ρ)).l.drop (k+1)) (k+1)=post at c1
       have im:(∀h us,cA E1 h (match ed E1.ρ k ov with |some cs=>cs|none=>gL (rowOf t) (.ep xk)) us↔cA E1 h cs us)/\cs.length=(rowOf t).es:=by
        rcases nI fy hk hc with g|⟨g,rfl⟩
        ·rw [g];obtain⟨p,p1,p2,_⟩:=kT g;have:=ho p p1;rw [p2] at this;exact⟨fun _ _=>Iff.rfl,this⟩
        ·rw [g];refine⟨fun h us=>xr ?_,gX _ _⟩;rw [Bb E1.ρ e i hk hd];simp only [V.den,bB]
       obtain⟨hrv,CF⟩:=im;have I2:lS.length=(rowOf t).es:=by rw [lH hs,CF]
       have hor:OR E1 w.heap id (.cells (pre++(cs++post)) Ah):=by
        have:=(rc.live id _ (by rw [Hp.bQ,ag rfl])).2.1;unfold cL at this;rw [c1] at this;refine OR.congr this ?_ ?_
        ·simp only [aZ,CF];congr 2;split
         ·rename_i cs0 h0;obtain⟨p,p1,p2,_⟩:=kT h0;have:=ho p p1;rw [p2] at this;exact this.symm
         ·rw [gX]
        ·intro us q2;obtain⟨a,b,rfl,a1,a2⟩:=q2.split;obtain⟨a',b',rfl,b1,b2⟩:=a2.split;exact a1.append (((hrv _ _).1 b1).append b2)
       have r2:=r1.swap (H2:=s.h.put id (.cells (pre++(cs++post)) Ah)) Y hor (by rw [Hp.bQ,ag rfl]) (fun j hj=>by rw [Hp.bQ,af hj]) rfl rfl
       have hs2:dX (pre++(cs++post)) (k*es+off) vs=some (pre++(lS++post)):=by rw [<- lE,<- c2];exact sH pre (nH post hs)
       obtain⟨w',g1,g2,g3⟩:=lU (P:=P) r2 (by rw [Hp.bQ,ag rfl]) hs2 GV Yf;have hlen:x.cells.size=ti.size:=by have:=GV.length; simp only [bn] at this; omega
       have lY:(Instr.storeAt ty (.pointer (some ⟨(E1.θ id).1,(E1.θ id).2+(k*es+off),none⟩)) x).run P w= .ok () w':=by simp [Instr.storeAt,Instr.sureAddr,storeVar,ey (cJ ty ti fm),hlen,g1]
       have fin: ∀(o':dM),OR E1 w'.heap id o'->∃w' E',(Instr.storeAt ty (.pointer (some ⟨(E1.θ id).1,(E1.θ id).2+(k*es+off),none⟩)) x).run P w= .ok () w'/\eT E1 s.h w E' (s.h.put id o') w'/\bO E' (s.h.put id o') w':=by
        intro o' yU;have al1:FL (s.h.put id (.cells (pre++(cs++post)) Ah)) s.h:=(FL.put Y).symm
        have al2:FL ((s.h.put id (.cells (pre++(cs++post)) Ah)).put id (.cells (pre++(lS++post)) Ah)) (s.h.put id o'):=by
         refine⟨fun j y hj=>?_,fun j y hj=>?_,rfl,rfl⟩
         ·rw [Hp.bQ];split
          ·exact⟨o',rfl⟩
          ·rename_i gp;rw [Hp.bQ,af gp,Hp.bQ,af gp] at hj;exact⟨y,hj⟩
         ·rw [Hp.bQ] at hj ⊢;split
          ·exact⟨_,rfl⟩
          ·rename_i gp;rw [af gp] at hj;rw [Hp.bQ,af gp];exact⟨y,hj⟩
        refine⟨w',E1,lY,(g2.left al1).right al2,?_⟩;exact g3.swap (id:=id) (by rw [Hp.bQ,ag rfl]) yU (by rw [Hp.bQ,ag rfl]) (fun j hj=>by rw [Hp.bQ,af hj,Hp.bQ,af hj,Hp.bQ,af hj]) rfl rfl
       have AP:=(g3.live id _ (by rw [Hp.bQ,ag rfl])).2.1
       have apart: ∀iY:List (V×List W),sM (rowOf t) iY->ed E1.ρ k iY=some lS->(∀j:Nat,j≠k->ed E1.ρ j iY=ed E1.ρ j ov)->OR E1 w'.heap id (.vec e t Ah iY):=by
        intro iY q1 q2 q3;refine OR.oo.2 ⟨⟨q1,ud⟩,?_⟩
        have:cL E1.ρ e t iY=pre++(lS++post):=by
         unfold cL;obtain⟨d1,_⟩:=jn (ρ:=E1.ρ) q1 (j:=0) hd;rw [aA,q2] at d1;rw [d1,<- aac,<- Rn];congr 1
         ·refine kJ _ _ fun j _ hj=>q3 j ?_;rw [bh] at hj;omega
         ·congr 1;exact kJ _ _ fun j hj _=>q3 j J
        rw [this];exact AP
       split at h3
       ·rename_i iY ss;have:=bC h3;simp only [ak] at this;obtain⟨rfl,rfl⟩:=this;refine⟨rfl,fy,rfl,?_⟩;obtain⟨q1,q2,q3⟩:=Dx fy hk I2 ss ho;exact fin _ (apart iY q1 q2 q3)
       ·split at h3
        ·rename_i aiQ;have Rr:=HM fy hk aiQ;split at h3
         ·rename_i e' ako;have:=bC h3;simp only [ak] at this;obtain⟨rfl,rfl⟩:=this;refine⟨rfl,fy,rfl,fin _ ?_⟩;have hxm:xk∈(dec (e.den E1.ρ)).l:=br hd
          have hle:off+vs.length<=(rowOf t).es:=by
           rw [<- CF];rcases ams vs.length with hz|hz
           ·have ain:=alR hz;subst ain
            have: ∀(l c:List W) (o:Nat),dX c o []=some l->o<=c.length:=by
             intro l c
             induction c generalizing l with
             |nil=>intro o ho; cases o with |zero=>exact amh _|succ o=>simp [dX] at ho
             |cons a c ih=>
              intro o ho
              cases o with
              |zero=>exact amh _
              |succ o=>
               simp only [dX] at ho;split at ho
               ·rename_i l' CB;have:=ih l' o CB;simp; omega
               ·simp at ho
            have:=this _ _ _ hs;simpa using this
           ·have:=rv hs (off+vs.length-1);rw [ag J] at this
            have BD:(vs[off+vs.length-1-off]?).isSome=true:=by rw [aL J]; rfl
            rw [<- this] at BD;obtain⟨y,hy⟩:=ami.1 BD;have:=(aX.1 hy).1;rw [lH hs] at this;omega
          obtain⟨x',z1,z2,z3⟩:=Pj ako hk hd (ud.2.1 xk hxm) hle;refine OR.oo.2 ⟨⟨ho,?_⟩,?_⟩
          ·rw [z1];refine⟨by rw [bJ],fun y hy=>?_,by rw [bJ]; intro q; have:=congrArg List.length q; simp at this; exact ud.2.2 this⟩;rw [bJ] at hy;rcases List.mem_or_eq_of_mem_set hy with hy|rfl
           ·exact ud.2.1 y hy
           ·exact z2
          ·have D6:(dec (e'.den E1.ρ)).l[k]?=some x':=by
            rw [z1,bJ,List.getElem?_set_self fW]
           obtain⟨d1,d2⟩:=jn (ρ:=E1.ρ) ho (j:=0) D6;rw [aA,Rr] at d1
           have Rx:cL E1.ρ e' t ov=pre++(gL (rowOf t) (.ep x')++post):=by
            unfold cL;rw [d1,<- aac,<- Rn,z1,bJ];congr 1
            ·rw [anp (au _)]
            ·congr 1;rw [anq J]
           rw [Rx];refine OR.congr AP (by simp only [aZ,gX,I2]) fun us q2=>?_;obtain⟨a,b,rfl,a1,a2⟩:=q2.split;obtain⟨a',b',rfl,b1,b2⟩:=a2.split;refine a1.append (cA.append ?_ b2);rw [gm];simp only [V.den,bB]
           have aiJ:cs=gL (rowOf t) (.op .at e i):=by
            rcases nI fy hk hc with g|⟨g,g'⟩
            ·rw [Rr] at g; simp at g
            ·exact g'
           refine z3 _ a' (by rw [b1.length,I2]) ?_ ?_
           ·intro j vj uj hj1 hj2 hj3;have hjl:=(aX.1 hj2).1;have:=rv hs j;rw [ag J,hj2] at this;obtain⟨y,y1,y2⟩:=b1.nth (by rw [dq]; exact this);rw [hj3] at y1;simp only [ah] at y1;subst y1;exact y2
           ·intro j aj uj hj1 hj2 hj3;have:=rv hs j;rw [af J,aiJ,hj2] at this;obtain⟨y,y1,y2⟩:=b1.nth (by rw [dq]; exact this);rw [hj3] at y1;simp only [ah] at y1;subst y1;exact y2
         ·have:=bC h3;simp only [ak] at this;obtain⟨rfl,rfl⟩:=this;refine⟨rfl,fy,rfl,fin _ (apart _ ?_ ?_ ?_)⟩
          ·intro p fy;rcases ay.1 fy with rfl|fy
           ·exact I2
           ·exact ho p fy
          ·simp only [ed];rw [ag hk]
          ·intro j hj;simp only [ed];rw [af J]
        ·simp [T.leaf] at h3
      ·simp [T.leaf] at h3
     ·simp [T.leaf] at h3
    ·simp [T.leaf] at h
   ·simp [T.leaf] at h
  ·simp [T.leaf] at h
 ·simp [T.leaf] at h
theorem aal {E1:En} {h:Array Obj} {c:CK} {v:W} {u:Value} (hv:VR E1 h v u):VR E1 h (afy c v) u:=by
 unfold afy;split
 ·split
  ·simp only [VR] at hv ⊢;subst hv;exact⟨⟨none,rfl⟩,by simp only [V.den,bB]; exact .nil _⟩
  ·split
   ·split
    ·split
     ·simp only [VR] at hv ⊢;obtain⟨_,a,cap,rfl,_,hc⟩:=hv;simp only [eQ] at hc;obtain⟨rfl,_⟩:=hc;exact⟨⟨some a,rfl⟩,by simp only [V.den,bB]; exact .vO _ _ _⟩
     grind
    grind
   grind
  grind
 grind
theorem Hf {E1:En} {h:Array Obj}: ∀(cs:List CK) {vs:List W} {us:List Value},cA E1 h vs us->cA E1 h (LN cs vs) us
 |[],vs,us,hv=>hv
 |_::_,[],us,hv=>hv
 |c::cs,v::vs,us,hv=>by rw [bT] at hv;obtain⟨u,gF,rfl,U,Z⟩:=hv;simp only [LN];rw [bT];exact⟨u,gF,rfl,aal U,Hf cs Z⟩
set_option maxHeartbeats 800000 in
theorem LU [bI] {E1:En} {tt:TT} (cJ:eA P tt) {s s':St} (r1:bO E1 s.h w) (hp:bV E1.ρ s.pc) {ty id es:Nat} {i j0:V} {off:Nat} {one:Bool} {vs:List W} {v':W} {u x:Value} (hx:VR E1 w.heap (.zG id es i off) u)
 (MT:one=true->cA E1 w.heap vs x.cells.toList/\∀u∈x.cells.toList,u.oneCell'=true) (h:(Er tt s ty id es i j0 off one vs).leaf E1.ρ=some (v',s')) :
 s'.bD=s.bD/\bV E1.ρ s'.pc/\v'=W.undef/\∃w' E',(Instr.storeAt ty u x).run P w= .ok () w'/\eT E1 s.h w E' s'.h w'/\bO E' s'.h w':=by
 unfold Er at h;split at h
 ·rename_i o Y;split at h
  ·rename_i e t Ah ov;split at h
   ·rename_i ti fm;split at h
    ·rename_i jl;obtain⟨lE,yR,wJ⟩:=jl;obtain⟨pc0,X7,t1,t2,h3⟩:=nw hp h;obtain⟨ef,fy,h3⟩:=vy (s:={ s with pc:=pc0 }) X7 h3;split at h3
     ·rename_i hdb;have hij:=gD fy hdb;split at h3
      ·rename_i cs hc;split at h3
       ·rename_i lS hs;obtain⟨aim,Yf⟩:=MT wJ;have GV:=Hf ((NJ (rowOf t)).drop off) aim;have hx1:=hx;simp only [VR] at hx1;obtain⟨hid,k,hk,rfl⟩:=hx1;simp only [SB.den,beq_iff_eq] at hij;have CC:j0.den E1.ρ=(k:Int):=by rw [<- hij]; exact hk
        obtain⟨rc,ho,ud⟩:=r1.oo Y;rw [cE] at t2;have fW:k<(dec (e.den E1.ρ)).l.length:=J
        have hd:(dec (e.den E1.ρ)).l[k]?=some (dec (e.den E1.ρ)).l[k]:=aL fW;generalize hxk:(dec (e.den E1.ρ)).l[k]=xk at hd;obtain⟨c1,c2⟩:=jn (ρ:=E1.ρ) ho (j:=0) hd;rw [aA] at c1;generalize aac:bE E1.ρ (rowOf t) ov ((dec (e.den E1.ρ)).l.take k) 0=pre at c1 c2;generalize Rn:bE E1.ρ (rowOf t) ov ((dec (e.den E1.ρ)).l.drop (k+1)) (k+1)=post at c1
        have im:(∀h us,cA E1 h (match ed E1.ρ k ov with |some cs=>cs|none=>gL (rowOf t) (.ep xk)) us↔cA E1 h cs us)/\cs.length=(rowOf t).es:=by
         rcases nI fy CC hc with g|⟨g,rfl⟩
         ·rw [g];obtain⟨p,p1,p2,_⟩:=kT g;have:=ho p p1;rw [p2] at this;exact⟨fun _ _=>Iff.rfl,this⟩
         ·rw [g];refine⟨fun h us=>xr ?_,gX _ _⟩;rw [Bb E1.ρ e j0 CC hd];simp only [V.den,bB]
        obtain⟨hrv,CF⟩:=im;have I2:lS.length=(rowOf t).es:=by rw [lH hs,CF]
        have hor:OR E1 w.heap id (.cells (pre++(cs++post)) Ah):=by
         have:=(rc.live id _ (by rw [Hp.bQ,ag rfl])).2.1;unfold cL at this;rw [c1] at this;refine OR.congr this ?_ ?_
         ·simp only [aZ,CF];congr 2;split
          ·rename_i cs0 h0;obtain⟨p,p1,p2,_⟩:=kT h0;have:=ho p p1;rw [p2] at this;exact this.symm
          ·rw [gX]
         ·intro us q2;obtain⟨a,b,rfl,a1,a2⟩:=q2.split;obtain⟨a',b',rfl,b1,b2⟩:=a2.split;exact a1.append (((hrv _ _).1 b1).append b2)
        have r2:=r1.swap (H2:=s.h.put id (.cells (pre++(cs++post)) Ah)) Y hor (by rw [Hp.bQ,ag rfl]) (fun j hj=>by rw [Hp.bQ,af hj]) rfl rfl
        have hs2:dX (pre++(cs++post)) (k*es+off) (LN ((NJ (rowOf t)).drop off) vs)=some (pre++(lS++post)):=by rw [<- lE,<- c2];exact sH pre (nH post hs)
        obtain⟨w',g1,g2,g3⟩:=lU (P:=P) r2 (by rw [Hp.bQ,ag rfl]) hs2 GV Yf;have hlen:x.cells.size=ti.size:=by have:=aim.length; simp only [bn] at this; omega
        have lY:(Instr.storeAt ty (.pointer (some ⟨(E1.θ id).1,(E1.θ id).2+(k*es+off),none⟩)) x).run P w= .ok () w':=by simp [Instr.storeAt,Instr.sureAddr,storeVar,ey (cJ ty ti fm),hlen,g1]
        have fin: ∀(o':dM),OR E1 w'.heap id o'->∃w' E',(Instr.storeAt ty (.pointer (some ⟨(E1.θ id).1,(E1.θ id).2+(k*es+off),none⟩)) x).run P w= .ok () w'/\eT E1 s.h w E' (s.h.put id o') w'/\bO E' (s.h.put id o') w':=by
         intro o' yU;have al1:FL (s.h.put id (.cells (pre++(cs++post)) Ah)) s.h:=(FL.put Y).symm
         have al2:FL ((s.h.put id (.cells (pre++(cs++post)) Ah)).put id (.cells (pre++(lS++post)) Ah)) (s.h.put id o'):=by
          refine⟨fun j y hj=>?_,fun j y hj=>?_,rfl,rfl⟩
          ·rw [Hp.bQ];split
           ·exact⟨o',rfl⟩
           ·rename_i gp;rw [Hp.bQ,af gp,Hp.bQ,af gp] at hj;exact⟨y,hj⟩
          ·rw [Hp.bQ] at hj ⊢;split
           ·exact⟨_,rfl⟩
           ·rename_i gp;rw [af gp] at hj;rw [Hp.bQ,af gp];exact⟨y,hj⟩
         refine⟨w',E1,lY,(g2.left al1).right al2,?_⟩;exact g3.swap (id:=id) (by rw [Hp.bQ,ag rfl]) yU (by rw [Hp.bQ,ag rfl]) (fun j hj=>by rw [Hp.bQ,af hj,Hp.bQ,af hj,Hp.bQ,af hj]) rfl rfl
        have AP:=(g3.live id _ (by rw [Hp.bQ,ag rfl])).2.1
        have apart: ∀iY:List (V×List W),sM (rowOf t) iY->ed E1.ρ k iY=some lS->(∀j:Nat,j≠k->ed E1.ρ j iY=ed E1.ρ j ov)->OR E1 w'.heap id (.vec e t Ah iY):=by
         intro iY q1 q2 q3;refine OR.oo.2 ⟨⟨q1,ud⟩,?_⟩
         have:cL E1.ρ e t iY=pre++(lS++post):=by
          unfold cL;obtain⟨d1,_⟩:=jn (ρ:=E1.ρ) q1 (j:=0) hd;rw [aA,q2] at d1;rw [d1,<- aac,<- Rn];congr 1
          ·refine kJ _ _ fun j _ hj=>q3 j ?_;rw [bh] at hj;omega
          ·congr 1;exact kJ _ _ fun j hj _=>q3 j J
         rw [this];exact AP
        split at h3
        ·rename_i iY ss;have:=bC h3;simp only [ak] at this;obtain⟨rfl,rfl⟩:=this;refine⟨rfl,fy,rfl,?_⟩;obtain⟨q1,q2,q3⟩:=Dx fy CC I2 ss ho;exact fin _ (apart iY q1 q2 q3)
        ·split at h3
         ·rename_i aiQ;have:=bC h3;simp only [ak] at this;obtain⟨rfl,rfl⟩:=this;refine⟨rfl,fy,rfl,fin _ (apart _ ?_ ?_ ?_)⟩
          ·intro p fy;rcases ay.1 fy with rfl|fy
           ·exact I2
           ·exact ho p fy
          ·simp only [ed];rw [ag CC]
          ·intro j hj;simp only [ed];rw [af J]
         ·simp [T.leaf] at h3
       ·simp [T.leaf] at h3
      ·simp [T.leaf] at h3
     ·simp [T.leaf] at h3
    ·simp [T.leaf] at h
   ·simp [T.leaf] at h
  ·simp [T.leaf] at h
 ·simp [T.leaf] at h
theorem LW [bI] {tt:TT} (cJ:eA P tt) {s s':St} (r:bO E s.h w) (hp:bV E.ρ s.pc) {ty id es:Nat} {i:V} {off:Nat} {v v':W} {u x:Value} (hx:VR E w.heap (.zG id es i off) u) (hv:VR E w.heap v x) (h:(Et tt s ty id es i off v).leaf E.ρ=some (v',s')) :
 s'.bD=s.bD/\bV E.ρ s'.pc/\v'=W.undef/\∃w' E',(Instr.storeAt ty u x).run P w= .ok () w'/\eT E s.h w E' s'.h w'/\bO E' s'.h w':=by
 unfold Et at h;split at h
 ·exact LU cJ r hp hx (fun wJ=> ⟨hv.cells wJ,(hv.cells wJ).rH wJ⟩) h
 ·obtain⟨vs,U,fN,E1,fA,f,q,g⟩:=pF rfl r hp h;have hρ:=f.ρ;rw [<- hρ] at fA g;obtain⟨a1,a2,a3,w',E',a4,a5,a6⟩:=LV cJ (s:={ s with h:=U,pc:=fN }) f.rel fA (VR.cf (f.dZ.keeps r) _ _ hx) (fun wJ=> ⟨q _ (hv.cells wJ),(hv.cells wJ).rH wJ⟩) g;exact⟨a1,by rw [<- hρ]; exact a2,a3,w',E',a4,f.dZ.trans a5,a6⟩
end
section
variable {P:Program} {E:En} {w:World}
theorem wO.length {ro:Nat->Prop} {h:Array Obj} {r:Row} {d:D} {us:List Value} (hh:wO ro h r d us):us.length=r.es:=by
 cases r with
 |one c=>obtain⟨u,rfl,_⟩:=hh; rfl
 |many cs=>exact dV.length hh
theorem fU.append {h:Array Obj} {b o:Nat} {us vs:List Value} (U:fU h b o us) (Z:fU h b (o+us.length) vs):fU h b o (us++vs):=by
 intro i u hi;rw [anh] at hi;split at hi
 ·exact U i u hi
 ·rename_i fW;have:=Z _ u hi
  grind
theorem Dl {ro:Nat->Prop} (lq:ro=E.ro) {h:Array Obj} {r:Row} {b o:Nat}: ∀(L:List D) (j:Nat),(∀i x,L[i]?=some x->∃us,wO ro h r x us/\fU h b (o+(j+i)*r.es) us)->
 ∃us,cA E h (bE E.ρ r [] L j) us/\fU h b (o+j*r.es) us/\us.length=L.length*r.es/\∀u∈us,u.oneCell'=true
 |[],j,_=> ⟨[],by simp [bE,cA],fun i u hi=>by simp at hi,ad,ad⟩
 |d::L,j,hh=>by
  subst lq;obtain⟨a,a1,a2⟩:=hh 0 d rfl
  obtain⟨b',b1,b2,b3,b4⟩:=Dl rfl L (j+1) fun i x hi=>by have:=hh (i+1) x (by simpa using hi);rw [show j+(i+1)=j+1+i by omega] at this;exact this
  have U3:=a1.length;refine⟨a++b',?_,?_,?_,?_⟩
  ·simp only [bE,ed];refine cA.append ?_ b1;rw [gm];simpa only [V.den,bB] using a1
  ·rw [a8] at a2;refine a2.append ?_
   grind
  ·grind
  ·intro u hu;rcases alO.1 hu with hu|hu
   ·exact a1.rH u hu
   grind
theorem aaQ {t:Nat} {d:D} {u:Value} (hr:Rd E.ro w.heap (.sl t) d u) (gp:d.l≠[]): ∃us,Src P E w (rowOf t).es d.l.length (bE E.ρ (rowOf t) [] d.l 0) u us:=by
 obtain⟨x,hx⟩ : ∃x,d.l[0]?=some x:=by
  cases h:d.l with
  |nil=>exact absurd h gp
  |cons a l=>exact⟨a,rfl⟩
 obtain⟨b,o,cap,us0,rfl,hb,_,_⟩:=hr.row hx
 obtain⟨us,U,Z,h3,h4⟩:=Dl (E:=E) (ro:=E.ro) rfl (h:=w.heap) (r:=rowOf t) (b:=b) (o:=o) d.l 0 fun i x hi=>by
  obtain⟨b',o',pN,gF,he,_,g1,g2⟩:=hr.row hi
  grind
 rw [alQ,a8] at Z;exact⟨us.toArray,fun _=>rfl,fun w2 hw=>by simp only [Builtin.firstCells]; exact Z.QO h3 w2 hw,by simpa using U,by simpa using h3,by simpa using h4⟩
structure Grown (ρ:Nat->Int) (r:Row) (e0 e1:V) (ds:List D) (news:List W):Prop where
 l:(dec (e1.den ρ)).l=(dec (e0.den ρ)).l++ds
 wf:dec (e1.den ρ)=dL (dec (e1.den ρ)).l
 rows: ∀d∈ds,pS r d
 vr: ∀(E':En) (h:Array Obj) (us:List Value) (j:Nat),E'.ρ=ρ->cA E' h news us->cA E' h (bE ρ r [] ds j) us
theorem ku (r:Row):sM r []:=fun p hp=>by simp at hp
theorem Ct [bI] {E':En} {H0:Hp} {w':World} {cells:List W} {e:TypeId} {e1:V} {t:Nat} (r:bO E' (H0.new (.cells cells e)) w') (ud:sg (rowOf t) (dec (e1.den E'.ρ))) (Y:(cL E'.ρ e1 t []).length=cells.length)
 (hv: ∀us,cA E' w'.heap cells us->cA E' w'.heap (cL E'.ρ e1 t []) us):bO E' (H0.new (.vec e1 t e [])) w':=by
 have hg:(H0.new (.cells cells e)).get H0.fresh=some (.cells cells e):=by rw [Hp.gg,ag rfl]
 refine r.swap hg (OR.oo.2 ⟨⟨ku _,ud⟩,OR.congr (r.live _ _ hg).2.1 Y hv⟩) (by rw [Hp.gg,ag rfl]) (fun j hj=>by rw [Hp.gg,af hj,Hp.gg,af hj]) ?_ ?_
 all_goals grind [Hp.new]
theorem vR {H0 H1:Hp} {o o':dM} (hn:H1.next=H0.next) (hr:H1.res=H0.res) (hg: ∀j,(H0.get j).isSome=(H1.get j).isSome):FL (H0.new o) (H1.new o'):=by
 have hf:H1.fresh=H0.fresh:=by unfold Hp.fresh; rw [hn,hr]
 have key: ∀{A B:Option dM} {x:dM},A.isSome=B.isSome->A=some x->∃y,B=some y:=by intro A B x U Z;rw [Z] at U;exact ami.1 U.symm
 refine⟨fun j x hj=>?_,fun j x hj=>?_,?_,?_⟩
 all_goals grind [Hp.gg,Hp.new]
set_option maxHeartbeats 800000 in
theorem xZ [bI] {t t2 ty:Nat} {H h0:Hp} (r:bO E H w) {ie:TI} {e m:Nat} {own:Option Nat} {news:List W} {x:W} {d2:TypeDesc} {u u2:Value} {us:Array Value} (tZ:mw P e ie)
 (ht:P.underlying t=some (.slice e)) (yc:P.underlying t2=some d2) (kc: ∀k,d2≠.int k) (wZ:ie.size≠0) (ri:ie.bytes≠0) (vZ:ie.zero.length=ie.size) (MW:ie.bytes<=400)
 (src:Src P E w ie.size m news u2 us) (hm:0<m) (hx:VR E w.heap x u) {e0 e1:V} {t':Nat} (hb:pO e own x H=some (e0,t',h0)) (lE:(rowOf t').es=ie.size) {ds:List D} (g:Grown E.ρ (rowOf t') e0 e1 ds news) (v8:ds.length=m)
 (ae3:((dec (e0.den E.ρ)).l.length+m)*ie.bytes<=140737488355328) :
 ∃y w' E',(Builtin.append_ #[t,t2] ty #[u,u2]).run P w= .ok y w'/\eT E H w E' (h0.new (.vec e1 t' e [])) w'/\bO E' (h0.new (.vec e1 t' e [])) w'/\VR E' w'.heap (.pb h0.fresh (dR e1) t') y:=by
 have hbound: ∀k,k<=(dec (e0.den E.ρ)).l.length->(k+m)*ie.bytes<=140737488355328:=by intro k hk;exact bk (amg _ J) ae3
 have hnl:news.length=m*ie.size:=by have U:=src.UO.length;have Z:=src.size;simp only [bn] at U;omega
 have s9: ∀(a:Option Addr),u= .slice a 0 0->h0=H->(dec (e0.den E.ρ)).l= []->
  ∃y w' E',(Builtin.append_ #[t,t2] ty #[u,u2]).run P w= .ok y w'/\eT E H w E' (h0.new (.vec e1 t' e [])) w'/\bO E' (h0.new (.vec e1 t' e [])) w'/\VR E' w'.heap (.pb h0.fresh (dR e1) t') y:=by
  intro a hu he nO;subst hu he
  have oT:ni ie e 0 m news h0=some (.slice h0.fresh 0 (0+m) (.rest ie.size),h0.new (.cells news e)):=by unfold ni;rw [ag (hbound 0 J)]
  obtain⟨y,w',E',p1,p2,p3,p4⟩:=oU (t:=t) (t2:=t2) (ty:=ty) (cap:=0) r tZ ht yc kc ri vZ src J a (old:=[]) (olds:=#[]) (cs:=news) ad (by simp [cA]) ad ad
   (fun w2 _=>by
    cases a with
    |none=>simp [Builtin.firstCells]
    |some a=>simp only [Builtin.firstCells,alQ]; rfl) oT
  have hρ:=p2.ρ;have AM:(dec (e1.den E'.ρ)).l=ds:=by rw [hρ,g.l,nO,aC]
  have ud:sg (rowOf t') (dec (e1.den E'.ρ)):=by refine⟨by rw [hρ]; exact g.wf,fun d hd=>?_,by rw [AM]; intro q; rw [q] at v8; simp at v8; omega⟩;rw [AM] at hd;exact g.rows d hd
  refine⟨y,w',E',p1,p2.right (vR rfl rfl fun _=>rfl),Ct p3 ud ?_ ?_,?_⟩
  ·unfold cL;rw [cF (ku _),AM,v8,lE,hnl]
  ·intro gF GW;unfold cL;rw [AM,hρ];exact g.vr E' w'.heap gF 0 hρ GW
  ·simp only [VR] at p4 ⊢;obtain⟨q1,a',pN,q2,q3,q4⟩:=p4;refine⟨q1,0+m,a',pN,?_,q2,q3,?_⟩
   ·rw [cE,AM,v8,aA]
   ·rw [lE]; exact q4
 unfold pO at hb;split at hb
 ·rename_i id n t0;split at hb
  ·rename_i o Y;split at hb
   ·rename_i zJ t00 sq ov;split at hb
    ·split at hb
     ·rename_i ht0;split at hb
      ·rename_i Od;split at hb
       ·rename_i hn;simp only [ah,ak] at hb;obtain⟨rfl,rfl,rfl⟩:=hb;have ht0:=aq ht0;have Od:=aq Od;have hn:=cM _ _ hn;subst ht0 Od hn;obtain⟨r2,_,aeX⟩:=r.oo Y;simp only [VR] at hx;obtain⟨hid,k,a,cap,hk,rfl,hkc,iR⟩:=hx;rw [cE] at hk;have hk:k=(dec (zJ.den E.ρ)).l.length:=J
        have hx2:VR E w.heap (.slice id 0 k (.rest ie.size)) (.slice (some a) k cap):=by simp only [VR];exact⟨hid,a,cap,rfl,hkc,by rw [<- lE]; exact iR⟩
        have CF:(cL E.ρ zJ t0 []).length=k*ie.size:=by unfold cL;rw [cF (ku _),lE,hk]
        have aiz:0<m*ie.size:=amO hm J
        have afa:pQ ie sq m news (.slice id 0 k (.rest ie.size)) (H.put id (.cells (cL E.ρ zJ t0 []) sq)) =
         some (.slice H.fresh 0 (k+m) (.rest ie.size),((H.put id (.cells (cL E.ρ zJ t0 []) sq)).drop id).new (.cells (cL E.ρ zJ t0 []++news) sq)):=by
         unfold pQ;simp only [if_true];rw [Hp.bQ,ag rfl];simp only;rw [af (by rw [CF,alX]; omega),ag ⟨J,trivial⟩];simp only [eL];unfold ni;rw [ag (hbound k J)];rfl
        obtain⟨y,w',E',p1,p2,p3,p4⟩:=vp (t:=t) (t2:=t2) (ty:=ty) r2 tZ ht yc kc wZ ri vZ src hx2 afa;have hρ:=p2.ρ;have AM:(dec (e1.den E'.ρ)).l=(dec (zJ.den E.ρ)).l++ds:=by rw [hρ,g.l]
        have ud:sg (rowOf t0) (dec (e1.den E'.ρ)):=by
         refine⟨by rw [hρ]; exact g.wf,fun d hd=>?_,by rw [AM]; intro q; have:=congrArg List.length q; simp at this; rw [this.2] at v8; simp at v8; omega⟩;rw [AM] at hd;rcases alO.1 hd with hd|hd
         ·exact aeX.2.1 d hd
         ·exact g.rows d hd
        have Rx:cL E'.ρ e1 t0 []=cL E.ρ zJ t0 []++bE E.ρ (rowOf t0) [] ds (0+(dec (zJ.den E.ρ)).l.length):=by unfold cL;rw [AM,hρ,lT]
        have D4: ∀j,(((H.put id (.cells (cL E.ρ zJ t0 []) sq)).drop id).get j)=(H.drop id).get j:=by
         intro j;rw [Hp.kG,Hp.kG];split
         ·rfl
         ·rename_i gp;rw [Hp.bQ,af gp]
        have al:FL (((H.put id (.cells (cL E.ρ zJ t0 []) sq)).drop id).new (.cells (cL E.ρ zJ t0 []++news) sq)) ((H.drop id).new (.vec e1 t0 sq [])):=
         vR rfl rfl fun j=>by rw [D4]
        have p3':bO E' ((H.drop id).new (.cells (cL E.ρ zJ t0 []++news) sq)) w':=by
         have hg:(((H.put id (.cells (cL E.ρ zJ t0 []) sq)).drop id).new (.cells (cL E.ρ zJ t0 []++news) sq)).get H.fresh=some (.cells (cL E.ρ zJ t0 []++news) sq):=by rw [Hp.gg];exact ag rfl
         refine p3.swap hg (p3.live _ _ hg).2.1 (by rw [Hp.gg]; exact ag rfl) (fun j hj=>?_) ?_ ?_
         ·rw [Hp.gg,Hp.gg];show (if j=H.fresh then _ else _)=(if j=H.fresh then _ else _);rw [af hj,af hj,D4]
         ·unfold Hp.new;simp only [Hp.drop,Hp.put];split<;>rfl
         ·unfold Hp.new;simp only [Hp.drop,Hp.put];split<;>rfl
        refine⟨y,w',E',p1,(p2.left (FL.put Y).symm).right al,Ct p3' ud ?_ ?_,?_⟩
        ·rw [Rx,aZ,aZ,cF (ku _),v8,lE,hnl]
        ·intro gF GW;obtain⟨a1,a2,rfl,b1,b2⟩:=GW.split;rw [Rx];exact b1.append (g.vr E' w'.heap a2 _ hρ b2)
        ·simp only [VR] at p4 ⊢;obtain⟨q1,a',pN,q2,q3,q4⟩:=p4;refine⟨q1,k+m,a',pN,?_,q2,q3,?_⟩
         ·rw [cE,AM,aZ,v8,hk]
         ·rw [lE]; exact q4
       ·simp at hb
      ·simp at hb
     ·simp at hb
    ·simp at hb
   ·simp at hb
  ·simp at hb
 ·split at hb
  ·simp only [ah,ak] at hb;obtain⟨rfl,rfl,rfl⟩:=hb;simp only [VR] at hx;exact s9 none hx rfl (by simp only [V.den,bB,D.l])
  ·simp at hb
 ·split at hb
  ·simp only [ah,ak] at hb;obtain⟨rfl,rfl,rfl⟩:=hb;simp only [VR] at hx;obtain⟨x,hx⟩:=hx;exact s9 x hx rfl (by simp only [V.den,bB,D.l])
  ·simp at hb
 ·split at hb
  ·simp only [ah,ak] at hb;obtain⟨rfl,rfl,rfl⟩:=hb;simp only [VR] at hx;obtain⟨⟨x,hx⟩,_⟩:=hx;exact s9 x hx rfl (by simp only [V.den,bB,D.l])
  ·simp at hb
 ·split at hb
  ·split at hb
   ·split at hb
    ·split at hb
     ·simp only [ah,ak] at hb;obtain⟨rfl,rfl,rfl⟩:=hb;simp only [VR] at hx;obtain⟨_,a,cap,rfl,_,hc⟩:=hx;simp only [eQ] at hc;obtain⟨rfl,_⟩:=hc;exact s9 (some a) rfl rfl (by simp only [V.den,bB,D.l])
     ·simp at hb
    ·simp at hb
   ·simp at hb
  ·simp at hb
 ·simp at hb
end
noncomputable def HK (e:Nat) (own:Option Nat) (x:W) (h:Hp):Option (V×Nat×List (V×List W)×Hp):=match x with
 | .pb id n t=>match h.get id with
   |some o=>match o with
    | .vec e0 t0 ty ov=>match Nat.beq t t0 with
     |true=>match Nat.beq ty e with
      |true=>match eW n (dR e0) with
       |true=>some (e0,t,ov,h.drop id)
       |false=>none
      |false=>none
     |false=>none
    |_=>none
   |none=>none
 | .fZ=>match own with
   |some t=>some (.ep (.i 0),t,[],h)
   |none=>none
 | .emp=>match own with
   |some t=>some (.ep (.i 0),t,[],h)
   |none=>none
 | .xg _ _=>match own with
   |some t=>some (.ep (.i 0),t,[],h)
   |none=>none
 | .slice _ _ n c=>match n with
   |0=>match c with
    | .exact k=>match k with
      |0=>match own with
       |some t=>some (.ep (.i 0),t,[],h)
       |none=>none
      |_=>none
    |_=>none
   |_=>none
 |_=>none
section
variable {P:Program} {E:En} {w:World}
structure PC (ρ:Nat->Int) (r:Row) (e0 e1:V) (ov0 S?:List (V×List W)) (ds:List D) (news:List W):Prop where
 l:(dec (e1.den ρ)).l=(dec (e0.den ρ)).l++ds
 wf:dec (e1.den ρ)=dL (dec (e1.den ρ)).l
 rows: ∀d∈ds,pS r d
 vr: ∀(E':En) (h:Array Obj) (us0 us:List Value),E'.ρ=ρ->cA E' h (bE ρ r ov0 (dec (e0.den ρ)).l 0) us0->cA E' h news us->cA E' h (bE ρ r S? (dec (e1.den ρ)).l 0) (us0++us)
theorem K7 [bI] {E':En} {H0:Hp} {w':World} {cells:List W} {e:TypeId} {e1:V} {t:Nat} {ov:List (V×List W)} (r:bO E' (H0.new (.cells cells e)) w') (ho:sM (rowOf t) ov) (ud:sg (rowOf t) (dec (e1.den E'.ρ))) (Y:(cL E'.ρ e1 t ov).length=cells.length)
 (hv: ∀us,cA E' w'.heap cells us->cA E' w'.heap (cL E'.ρ e1 t ov) us):bO E' (H0.new (.vec e1 t e ov)) w':=by
 have hg:(H0.new (.cells cells e)).get H0.fresh=some (.cells cells e):=by rw [Hp.gg,ag rfl]
 refine r.swap hg (OR.oo.2 ⟨⟨ho,ud⟩,OR.congr (r.live _ _ hg).2.1 Y hv⟩) (by rw [Hp.gg,ag rfl]) (fun j hj=>by rw [Hp.gg,af hj,Hp.gg,af hj]) ?_ ?_
 all_goals grind [Hp.new]
set_option maxHeartbeats 800000 in
theorem BY [bI] {t t2 ty:Nat} {H h0:Hp} (r:bO E H w) {ie:TI} {e m:Nat} {own:Option Nat} {news:List W} {x:W} {d2:TypeDesc} {u u2:Value} {us:Array Value} (tZ:mw P e ie)
 (ht:P.underlying t=some (.slice e)) (yc:P.underlying t2=some d2) (kc: ∀k,d2≠.int k) (wZ:ie.size≠0) (ri:ie.bytes≠0) (vZ:ie.zero.length=ie.size) (MW:ie.bytes<=400)
 (src:Src P E w ie.size m news u2 us) (hm:0<m) (hx:VR E w.heap x u) {e0 e1:V} {t':Nat} {ov0 S?:List (V×List W)} (hb:HK e own x H=some (e0,t',ov0,h0)) (lE:(rowOf t').es=ie.size) {ds:List D} (g:PC E.ρ (rowOf t') e0 e1 ov0 S? ds news) (v8:ds.length=m)
 (ss:sM (rowOf t') S?) (ae3:((dec (e0.den E.ρ)).l.length+m)*ie.bytes<=140737488355328) :
 ∃y w' E',(Builtin.append_ #[t,t2] ty #[u,u2]).run P w= .ok y w'/\eT E H w E' (h0.new (.vec e1 t' e S?)) w'/\bO E' (h0.new (.vec e1 t' e S?)) w'/\VR E' w'.heap (.pb h0.fresh (dR e1) t') y:=by
 have hbound: ∀k,k<=(dec (e0.den E.ρ)).l.length->(k+m)*ie.bytes<=140737488355328:=by intro k hk;exact bk (amg _ J) ae3
 have hnl:news.length=m*ie.size:=by have U:=src.UO.length;have Z:=src.size;simp only [bn] at U;omega
 have s9: ∀(a:Option Addr),u= .slice a 0 0->h0=H->(dec (e0.den E.ρ)).l= []->
  ∃y w' E',(Builtin.append_ #[t,t2] ty #[u,u2]).run P w= .ok y w'/\eT E H w E' (h0.new (.vec e1 t' e S?)) w'/\bO E' (h0.new (.vec e1 t' e S?)) w'/\VR E' w'.heap (.pb h0.fresh (dR e1) t') y:=by
  intro a hu he nO;subst hu he
  have oT:ni ie e 0 m news h0=some (.slice h0.fresh 0 (0+m) (.rest ie.size),h0.new (.cells news e)):=by unfold ni;rw [ag (hbound 0 J)]
  obtain⟨y,w',E',p1,p2,p3,p4⟩:=oU (t:=t) (t2:=t2) (ty:=ty) (cap:=0) r tZ ht yc kc ri vZ src J a (old:=[]) (olds:=#[]) (cs:=news) ad (by simp [cA]) ad ad
   (fun w2 _=>by
    cases a with
    |none=>simp [Builtin.firstCells]
    |some a=>simp only [Builtin.firstCells,alQ]; rfl) oT
  have hρ:=p2.ρ;have AM:(dec (e1.den E'.ρ)).l=ds:=by rw [hρ,g.l,nO,aC]
  have ud:sg (rowOf t') (dec (e1.den E'.ρ)):=by refine⟨by rw [hρ]; exact g.wf,fun d hd=>?_,by rw [AM]; intro q; rw [q] at v8; simp at v8; omega⟩;rw [AM] at hd;exact g.rows d hd
  refine⟨y,w',E',p1,p2.right (vR rfl rfl fun _=>rfl),K7 p3 ss ud ?_ ?_,?_⟩
  ·unfold cL;rw [cF ss,AM,v8,lE,hnl]
  ·intro gF GW;unfold cL;rw [hρ];have:=g.vr E' w'.heap [] gF hρ (by rw [nO]; simp [bE,cA]) GW;simpa using this
  ·simp only [VR] at p4 ⊢;obtain⟨q1,a',pN,q2,q3,q4⟩:=p4;refine⟨q1,0+m,a',pN,?_,q2,q3,?_⟩
   ·rw [cE,AM,v8,aA]
   ·rw [lE]; exact q4
 unfold HK at hb;split at hb
 ·rename_i id n t0;split at hb
  ·rename_i o Y;split at hb
   ·rename_i zJ t00 sq ov
    ·split at hb
     ·rename_i ht0;split at hb
      ·rename_i Od;split at hb
       ·rename_i hn;simp only [ah,ak] at hb;obtain⟨rfl,rfl,rfl,rfl⟩:=hb;have ht0:=aq ht0;have Od:=aq Od;have hn:=cM _ _ hn;subst ht0 Od hn;obtain⟨r2,aiv,aeX⟩:=r.oo Y;simp only [VR] at hx;obtain⟨hid,k,a,cap,hk,rfl,hkc,iR⟩:=hx;rw [cE] at hk;have hk:k=(dec (zJ.den E.ρ)).l.length:=J
        have hx2:VR E w.heap (.slice id 0 k (.rest ie.size)) (.slice (some a) k cap):=by simp only [VR];exact⟨hid,a,cap,rfl,hkc,by rw [<- lE]; exact iR⟩
        have CF:(cL E.ρ zJ t0 ov).length=k*ie.size:=by unfold cL;rw [cF aiv,lE,hk]
        have aiz:0<m*ie.size:=amO hm J
        have afa:pQ ie sq m news (.slice id 0 k (.rest ie.size)) (H.put id (.cells (cL E.ρ zJ t0 ov) sq)) =
         some (.slice H.fresh 0 (k+m) (.rest ie.size),((H.put id (.cells (cL E.ρ zJ t0 ov) sq)).drop id).new (.cells (cL E.ρ zJ t0 ov++news) sq)):=by
         unfold pQ;simp only [if_true];rw [Hp.bQ,ag rfl];simp only;rw [af (by rw [CF,alX]; omega),ag ⟨J,trivial⟩];simp only [eL];unfold ni;rw [ag (hbound k J)];rfl
        obtain⟨y,w',E',p1,p2,p3,p4⟩:=vp (t:=t) (t2:=t2) (ty:=ty) r2 tZ ht yc kc wZ ri vZ src hx2 afa;have hρ:=p2.ρ;have AM:(dec (e1.den E'.ρ)).l=(dec (zJ.den E.ρ)).l++ds:=by rw [hρ,g.l]
        have ud:sg (rowOf t0) (dec (e1.den E'.ρ)):=by
         refine⟨by rw [hρ]; exact g.wf,fun d hd=>?_,by rw [AM]; intro q; have:=congrArg List.length q; simp at this; rw [this.2] at v8; simp at v8; omega⟩;rw [AM] at hd;rcases alO.1 hd with hd|hd
         ·exact aeX.2.1 d hd
         ·exact g.rows d hd
        have D4: ∀j,(((H.put id (.cells (cL E.ρ zJ t0 ov) sq)).drop id).get j)=(H.drop id).get j:=by
         intro j;rw [Hp.kG,Hp.kG];split
         ·rfl
         ·rename_i gp;rw [Hp.bQ,af gp]
        have al:FL (((H.put id (.cells (cL E.ρ zJ t0 ov) sq)).drop id).new (.cells (cL E.ρ zJ t0 ov++news) sq)) ((H.drop id).new (.vec e1 t0 sq S?)):=
         vR rfl rfl fun j=>by rw [D4]
        have p3':bO E' ((H.drop id).new (.cells (cL E.ρ zJ t0 ov++news) sq)) w':=by
         have hg:(((H.put id (.cells (cL E.ρ zJ t0 ov) sq)).drop id).new (.cells (cL E.ρ zJ t0 ov++news) sq)).get H.fresh=some (.cells (cL E.ρ zJ t0 ov++news) sq):=by rw [Hp.gg];exact ag rfl
         refine p3.swap hg (p3.live _ _ hg).2.1 (by rw [Hp.gg]; exact ag rfl) (fun j hj=>?_) ?_ ?_
         ·rw [Hp.gg,Hp.gg];show (if j=H.fresh then _ else _)=(if j=H.fresh then _ else _);rw [af hj,af hj,D4]
         ·unfold Hp.new;simp only [Hp.drop,Hp.put];split<;>rfl
         ·unfold Hp.new;simp only [Hp.drop,Hp.put];split<;>rfl
        refine⟨y,w',E',p1,(p2.left (FL.put Y).symm).right al,K7 p3' ss ud ?_ ?_,?_⟩
        ·unfold cL;rw [cF ss,AM,aZ,aZ,cF aiv,v8,lE,hnl,alX]
        ·intro gF GW;obtain⟨a1,a2,rfl,b1,b2⟩:=GW.split;unfold cL at b1 ⊢;rw [hρ];exact g.vr E' w'.heap a1 a2 hρ b1 b2
        ·simp only [VR] at p4 ⊢;obtain⟨q1,a',pN,q2,q3,q4⟩:=p4;refine⟨q1,k+m,a',pN,?_,q2,q3,?_⟩
         ·rw [cE,AM,aZ,v8,hk]
         ·rw [lE]; exact q4
       ·simp at hb
      ·simp at hb
     ·simp at hb
   ·simp at hb
  ·simp at hb
 ·split at hb
  ·simp only [ah,ak] at hb;obtain⟨rfl,rfl,rfl,rfl⟩:=hb;simp only [VR] at hx;exact s9 none hx rfl (by simp only [V.den,bB,D.l])
  ·simp at hb
 ·split at hb
  ·simp only [ah,ak] at hb;obtain⟨rfl,rfl,rfl,rfl⟩:=hb;simp only [VR] at hx;obtain⟨x,hx⟩:=hx;exact s9 x hx rfl (by simp only [V.den,bB,D.l])
  ·simp at hb
 ·split at hb
  ·simp only [ah,ak] at hb;obtain⟨rfl,rfl,rfl,rfl⟩:=hb;simp only [VR] at hx;obtain⟨⟨x,hx⟩,_⟩:=hx;exact s9 x hx rfl (by simp only [V.den,bB,D.l])
  ·simp at hb
 ·split at hb
  ·split at hb
   ·split at hb
    ·split at hb
     ·simp only [ah,ak] at hb;obtain⟨rfl,rfl,rfl,rfl⟩:=hb;simp only [VR] at hx;obtain⟨_,a,cap,rfl,_,hc⟩:=hx;simp only [eQ] at hc;obtain⟨rfl,_⟩:=hc;exact s9 (some a) rfl rfl (by simp only [V.den,bB,D.l])
     ·simp at hb
    ·simp at hb
   ·simp at hb
  ·simp at hb
 ·simp at hb
end
section
variable {ρ:Nat->Int} {r:Row}
theorem pK {p:V} {cs:List W}: ∀(ds:List D) (j:Nat),(∀i,j<=i->i<j+ds.length->p.den ρ≠(i:Int))->bE ρ r [(p,cs)] ds j=bE ρ r [] ds j
 |[],_,_=>rfl
 |d::ds,j,h=>by have h0:=h j (au _) (by simp only [aM]; omega);simp only [bE,ed,af h0];rw [pK ds (j+1) fun i U Z=>h i J (by simp only [aM]; omega)]
theorem aic {e0 e1 p:V} {cs news:List W} {ds:List D} (g:Grown ρ r e0 e1 ds news) (hp:p.den ρ<((dec (e0.den ρ)).l.length:Int)):PC ρ r e0 e1 [(p,cs)] [(p,cs)] ds news:=by refine⟨g.l,g.wf,g.rows,fun E' h us0 us hρ h0 U=>?_⟩;rw [g.l,lT];refine h0.append ?_;rw [pK ds _ fun i U _=>by omega];exact g.vr E' h us _ hρ U
theorem ag5 {e0 e1 p:V} {news zs:List W} {d:D} (g:Grown ρ r e0 e1 [d] zs) (hp:p.den ρ=((dec (e0.den ρ)).l.length:Int)):PC ρ r e0 e1 [] [(p,news)] [d] news:=by
 refine⟨g.l,g.wf,g.rows,fun E' h us0 us hρ h0 U=>?_⟩;rw [g.l,lT,pK _ _ fun i _ Z=>by omega];refine h0.append ?_;simp only [bE,ed,aA]
 grind
theorem af0 {e:Nat} {own:Option Nat} {x:W} {h h0:Hp} {e0:V} {t:Nat} (hb:pO e own x h=some (e0,t,h0)):HK e own x h=some (e0,t,[],h0):=by
 unfold pO at hb;unfold HK
 repeat' split at hb
 all_goals first
  |(simp at hb; done)
  |(simp only [ah,ak] at hb; obtain⟨rfl,rfl,rfl⟩:=hb; simp_all)
theorem akf {e:Nat} {own:Option Nat} {x:W} {h h0:Hp} {e0 p:V} {cs:List W} {t:Nat} (hb:Ax e x h=some (e0,t,p,cs,h0)):HK e own x h=some (e0,t,[(p,cs)],h0):=by
 unfold Ax at hb;unfold HK
 repeat' split at hb
 all_goals first
  |(simp at hb; done)
  |(simp only [ah,ak] at hb; obtain⟨rfl,rfl,rfl,rfl,rfl⟩:=hb; simp_all)
end
section
variable {P:Program} {E:En} {w:World}
theorem Src.w_ {E1:En} {s m:Nat} {news By:List W} {u:Value} {us:Array Value} (src:Src P E w s m news u us) (h:cA E1 w.heap By us.toList):Src P E1 w s m By u us:=
 ⟨src.len,src.first,h,src.size,src.rH⟩
theorem room_le {bytes n m:Nat} (ri:bytes≠0) (MW:bytes<=400) (hm:(m:Int)<qN bytes 1000000) (hn:n<1000000):(n+m)*bytes<=140737488355328:=by
 have hm':(m:Int)<((140737488355328 / bytes-1000000:Nat):Int):=hm;have U:m<140737488355328 / bytes-1000000:=J
 have Z:n+m<=140737488355328 / bytes:=J
 exact bk (amg _ Z) (anr _ _)
theorem Xa {bytes m:Nat} (hm:(m:Int)<qN bytes 0):(([]:List D).length+m)*bytes<=140737488355328:=by
 have hm':(m:Int)<((140737488355328 / bytes-0:Nat):Int):=hm;have Z:([]:List D).length+m<=140737488355328 / bytes:=by simp only [aR]; omega
 exact bk (amg _ Z) (anr _ _)
theorem Dn {bytes n m:Nat} (hn:(n:Int)<qN bytes (m+1)) {k:Nat} (hk:k=m+1):(n+k)*bytes<=140737488355328:=by
 have v_:(n:Int)<((140737488355328 / bytes-(m+1):Nat):Int):=hn;have Z:n+k<=140737488355328 / bytes:=J
 exact bk (amg _ Z) (anr _ _)
theorem pL {ρ:Nat->Int} {r:Row} {m:Nat} {e e1:V} {news:List W} (h:kM r e m news=some e1) (hw:dec (e.den ρ)=dL (dec (e.den ρ)).l): ∃ds,ds.length=m/\Grown ρ r e e1 ds news:=by obtain⟨ds,U,Z,h3,h4,h5⟩:=qE (ρ:=ρ) m h;exact⟨ds,U,Z,h3 hw,h4,h5⟩
theorem JW [bI] {H h0:Hp} (r:bO E H w) {e:Nat} {own:Option Nat} {x:W} {e0:V} {t:Nat} (h:pO e own x H=some (e0,t,h0)):dec (e0.den E.ρ)=dL (dec (e0.den E.ρ)).l:=by
 have hz:dec ((V.ep (.i 0)).den E.ρ)=dL (dec ((V.ep (.i 0)).den E.ρ)).l:=by simp only [V.den,bB]; rfl
 unfold pO at h;split at h
 ·split at h
  ·rename_i o Y;split at h
   ·split at h
    ·split at h
     ·split at h
      ·split at h
       ·simp only [ah,ak] at h;obtain⟨rfl,_⟩:=h;exact (r.oo Y).2.2.1
       grind
      grind
     grind
    grind
   grind
  grind
 all_goals grind
theorem BZ [bI] {t t2 ty:Nat} {ie:TI} {e:Nat} {d2:TypeDesc} {u u2:Value} {us:Array Value} {news:List W} (tZ:mw P e ie) (ht:P.underlying t=some (.slice e)) (yc:P.underlying t2=some d2) (kc: ∀k,d2≠.int k)
 (src:Src P E w ie.size 0 news u2 us) (ho: ∃a n cap,u= .slice a n cap/\n<=cap):(Builtin.append_ #[t,t2] ty #[u,u2]).run P w= .ok u w:=by
 obtain⟨inf,d,z,U,Z,h3,h4,h5,h6,h7,h8⟩:=tZ.all;obtain⟨a,n,cap,rfl,hn⟩:=ho;have GW:us.toList= []:=alR (by rw [bn,src.size,alQ])
 have:=kO (t:=t) (t2:=t2) (ty:=ty) (n:=n) (cap:=cap) (a:=a) (w':=w) ht yc kc U h5 src J (by
  cases a with
  |none=>rfl
  |some a=>rw [GW]; rfl)
 grind
theorem TL {x:W} {u:Value} {H h0:Hp} {e t:Nat} {own:Option Nat} {e0:V} (hx:VR E w.heap x u) (hb:pO e own x H=some (e0,t,h0)): ∃a n cap,u= .slice a n cap/\n<=cap:=by
 unfold pO at hb;split at hb
 ·simp only [VR] at hx
  grind
 ·simp only [VR] at hx
  grind
 ·simp only [VR] at hx
  grind
 ·simp only [VR] at hx
  grind
 ·simp only [VR] at hx
  grind
 grind
theorem Lo {x:W} {u:Value} {own:Option Nat} (hx:VR E w.heap x u) (hb:XU own x=true): ∃a n cap,u= .slice a n cap/\n<=cap:=by
 unfold XU at hb;split at hb
 ·simp only [VR] at hx
  grind
 ·simp only [VR] at hx
  grind
 ·simp only [VR] at hx
  grind
 ·simp only [VR] at hx
  grind
 ·simp only [VR] at hx
  grind
 ·simp only [VR] at hx
  grind
 grind
theorem BO [bI] {s s':St} (r:bO E s.h w) (hp:bV E.ρ s.pc) {t t2 ty e m':Nat} {own:Option Nat} {ie:TI} {news:List W} {x v:W} {d2:TypeDesc} {u u2:Value} {us:Array Value} (tZ:mw P e ie) (hu:P.underlying t=some (.slice e)) (kc:P.underlying t2=some d2) (uU: ∀k,d2≠.int k)
 (wZ:ie.size≠0) (ri:ie.bytes≠0) (vZ:ie.zero.length=ie.size) (MW:ie.bytes<=400) (src:Src P E w ie.size (m'+1) news u2 us) (hx:VR E w.heap x u) (h:(zE e own x ie m' news s).leaf E.ρ=some (v,s')) :
 s'.bD=s.bD/\bV E.ρ s'.pc/\∃z w' E',(Builtin.append_ #[t,t2] ty #[u,u2]).run P w= .ok z w'/\eT E s.h w E' s'.h w'/\bO E' s'.h w'/\VR E' w'.heap v z:=by
 unfold zE at h;obtain⟨By,U,pcF,E1,hpF,f,GV,h⟩:=pF rfl r hp h;split at h
 ·rename_i e0 t' h0 hb;split at h
  ·rename_i hc;obtain⟨lE,hm⟩:=hc;have hρ:=f.ρ;obtain⟨fN,fA,Z⟩:=cH (s:={ s with h:=U,pc:=pcF }) hpF h;split at Z
   ·rename_i t3;rw [dY,decide_eq_true_eq,cE] at t3;simp only [V.den] at t3;split at Z
    ·rename_i e1 hcr;have:=bC Z;simp only [ak] at this;obtain⟨rfl,rfl⟩:=this;obtain⟨ds,v8,g⟩:=pL (ρ:=E1.ρ) hcr (JW f.rel hb);obtain⟨z,w',E',p1,p2,p3,p4⟩:=xZ (t:=t) (t2:=t2) (ty:=ty) f.rel tZ hu kc uU wZ ri vZ MW (src.w_ (GV _ src.UO)) J (VR.cf (f.dZ.keeps r) _ _ hx) hb lE g v8 (Dn (by rw [hρ]; exact t3) J);exact⟨rfl,fA,z,w',E',p1,f.dZ.trans p2,p3,p4⟩
    grind [T.leaf]
   grind [T.leaf]
  grind [T.leaf]
 grind [T.leaf]
theorem ah1 [bI] {H h0:Hp} (r:bO E H w) {e:Nat} {x:W} {e0 p:V} {cs:List W} {t:Nat} (h:Ax e x H=some (e0,t,p,cs,h0)):dec (e0.den E.ρ)=dL (dec (e0.den E.ρ)).l/\sM (rowOf t) [(p,cs)]:=by
 unfold Ax at h;split at h
 ·split at h
  ·rename_i Y;split at h
   ·split at h
    ·grind
    ·split at h
     ·split at h
      ·rename_i ht;split at h
       ·split at h
        ·simp only [ah,ak] at h;obtain⟨rfl,rfl,rfl,rfl,_⟩:=h;have ht:=aq ht;subst ht;exact⟨(r.oo Y).2.2.1,(r.oo Y).2.1⟩
        grind
       grind
      grind
     grind
   grind
  grind
 grind
theorem JF [bI] {s s':St} (r:bO E s.h w) (hp:bV E.ρ s.pc) {t t2 ty e m':Nat} {own:Option Nat} {ie:TI} {news:List W} {x v:W} {d2:TypeDesc} {u u2:Value} {us:Array Value} (tZ:mw P e ie) (hu:P.underlying t=some (.slice e)) (kc:P.underlying t2=some d2) (uU: ∀k,d2≠.int k)
 (wZ:ie.size≠0) (ri:ie.bytes≠0) (vZ:ie.zero.length=ie.size) (MW:ie.bytes<=400) (src:Src P E w ie.size (m'+1) news u2 us) (hx:VR E w.heap x u) (h:(A4 e x ie m' news s).leaf E.ρ=some (v,s')) :
 s'.bD=s.bD/\bV E.ρ s'.pc/\∃z w' E',(Builtin.append_ #[t,t2] ty #[u,u2]).run P w= .ok z w'/\eT E s.h w E' s'.h w'/\bO E' s'.h w'/\VR E' w'.heap v z:=by
 unfold A4 at h;obtain⟨By,U,pcF,E1,hpF,f,GV,h⟩:=pF rfl r hp h;split at h
 ·rename_i e0 t' p cs h0 hb;split at h
  ·rename_i hc;obtain⟨lE,hm⟩:=hc;have hρ:=f.ρ;obtain⟨fN,fA,Z⟩:=cH (s:={ s with h:=U,pc:=pcF }) hpF h;split at Z
   ·rename_i t3;rw [dY,decide_eq_true_eq,cE] at t3;simp only [V.den] at t3;obtain⟨jK,jD,h3⟩:=cH (s:={ s with h:=U,pc:=fN }) fA Z;split at h3
    ·rename_i t4;rw [dY,decide_eq_true_eq,cE] at t4;split at h3
     ·rename_i e1 hcr;have:=bC h3;simp only [ak] at this;obtain⟨rfl,rfl⟩:=this;obtain⟨hw1,hw2⟩:=ah1 f.rel hb;obtain⟨ds,v8,g⟩:=pL (ρ:=E1.ρ) hcr hw1;obtain⟨z,w',E',p1,p2,p3,p4⟩:=BY (t:=t) (t2:=t2) (ty:=ty) f.rel tZ hu kc uU wZ ri vZ MW (src.w_ (GV _ src.UO)) J (VR.cf (f.dZ.keeps r) _ _ hx) (akf (own:=own) hb) lE (aic g (by rw [hρ]; exact t4)) v8 hw2 (Dn (by rw [hρ]; exact t3) J);exact⟨rfl,jD,z,w',E',p1,f.dZ.trans p2,p3,p4⟩
     grind [T.leaf]
    grind [T.leaf]
   grind [T.leaf]
  grind [T.leaf]
 grind [T.leaf]
theorem JE [bI] {s s':St} (r:bO E s.h w) (hp:bV E.ρ s.pc) {t t2 ty e m':Nat} {own:Option Nat} {ie:TI} {news:List W} {x v:W} {d2:TypeDesc} {u u2:Value} {us:Array Value} (tZ:mw P e ie) (hu:P.underlying t=some (.slice e)) (kc:P.underlying t2=some d2) (uU: ∀k,d2≠.int k)
 (wZ:ie.size≠0) (ri:ie.bytes≠0) (vZ:ie.zero.length=ie.size) (MW:ie.bytes<=400) (src:Src P E w ie.size (m'+1) news u2 us) (hx:VR E w.heap x u) (h:(A3 e own x ie m' news s).leaf E.ρ=some (v,s')) :
 s'.bD=s.bD/\bV E.ρ s'.pc/\∃z w' E',(Builtin.append_ #[t,t2] ty #[u,u2]).run P w= .ok z w'/\eT E s.h w E' s'.h w'/\bO E' s'.h w'/\VR E' w'.heap v z:=by
 unfold A3 at h;split at h
 ·rename_i e0 t' h0 hb;split at h
  ·rename_i hc;obtain⟨lE,rfl⟩:=hc;obtain⟨fN,fA,Z⟩:=cH hp h;split at Z
   ·rename_i t3;obtain⟨jK,jD,h3⟩:=cH (s:={ s with pc:=fN }) fA Z;split at h3
    ·rename_i t4;rw [dY,decide_eq_true_eq,cE] at t4;simp only [V.den] at t4;split at h3
     ·rename_i e1 hcr;have:=bC h3;simp only [ak] at this;obtain⟨rfl,rfl⟩:=this;obtain⟨ds,v8,g⟩:=pL (ρ:=E.ρ) hcr (JW r hb)
      obtain⟨d,rfl⟩ : ∃d,ds= [d]:=by
       cases ds with
       |nil=>simp at v8
       |cons d l=>cases l with
        |nil=>exact⟨d,rfl⟩
        |cons a b=>simp at v8
      have hnl:news.length=(rowOf t').es:=by
       have U:=src.UO.length;have Z:=src.size
       grind
      obtain⟨z,w',E',p1,p2,p3,p4⟩:=BY (t:=t) (t2:=t2) (ty:=ty) r tZ hu kc uU wZ ri vZ MW src J hx (af0 hb) lE (ag5 (p:=.dD 0) g (by rw [gH,cE] at t3; simp only [beq_iff_eq] at t3; exact t3.symm)) v8 (fun q hq=>by simp only [amP] at hq; subst hq; exact hnl) (Dn t4 J)
      grind
     grind [T.leaf]
    grind [T.leaf]
   ·obtain⟨q1,q2,q3⟩:=BO (s:={ s with pc:=fN }) r fA (ty:=ty) tZ hu kc uU wZ ri vZ MW src hx Z
    grind
  grind [T.leaf]
 grind [T.leaf]
set_option maxHeartbeats 800000 in
theorem JD [bI] {tt:TT} (cJ:eA P tt) {s s':St} (r:bO E s.h w) (hp:bV E.ρ s.pc) {t t2 ty:Nat} {x y v:W} {u u2:Value} (hx:VR E w.heap x u) (hy:VR E w.heap y u2) (UU:ab1 y=false->∃a n cap,u= .slice a n cap/\n<=cap) (h:(A2 tt t t2 x y s).leaf E.ρ=some (v,s')) :
 s'.bD=s.bD/\bV E.ρ s'.pc/\∃z w' E',(Builtin.append_ #[t,t2] ty #[u,u2]).run P w= .ok z w'/\eT E s.h w E' s'.h w'/\bO E' s'.h w'/\VR E' w'.heap v z:=by
 unfold A2 at h;split at h
 ·rename_i ti fm;split at h
  ·rename_i e hk;split at h
   ·rename_i ie kX;split at h
    ·simp [T.leaf] at h
    ·rename_i PM X4;obtain⟨d2,kc,CC⟩:=rN (cJ t2 PM X4);split at h
     ·simp [T.leaf] at h
     ·rename_i k2 gp
      have uU: ∀k,d2≠.int k:=by intro k hd;subst hd;cases sZ:PM.kind<;>rw [sZ] at CC<;>simp only [HT] at CC;exact gp _ sZ
      split at h
      ·simp [T.leaf] at h
      ·rename_i jl;simp only [not_or,Classical.not_not] at jl;obtain⟨wZ,ri,vZ,MW⟩:=jl;have tZ:=cJ e ie kX;have hu:=ff (cJ t ti fm) hk;split at h
       ·
        rename_i e2 ty2;split at h
        ·rename_i e0 t' h0 hb;split at h
         ·rename_i hc;obtain⟨lE,im⟩:=hc;obtain⟨fN,fA,U⟩:=cH hp h;rw [iw,cE] at U;simp only [VR] at hy;obtain⟨xa,ak7,Rl,_⟩:=hy.slice;split at U
          ·rename_i hz;simp only [V.den,beq_iff_eq] at hz;have:=bC U;simp only [ak] at this;obtain⟨rfl,rfl⟩:=this;have IW:(dec (e2.den E.ρ)).l.length=0:=J
           rw [IW] at Rl;subst Rl
           have src:Src P E w ie.size 0 [] (.slice xa 0 ak7) #[]:=⟨fun _=>rfl,fun w2 _=>by
            cases xa with
            |none=>simp [Builtin.firstCells]
            |some a=>simp only [Builtin.firstCells,alQ]; rfl,by simp [cA],ad,ad⟩
           exact⟨rfl,fA,u,w,E,BZ tZ hu kc uU src (TL hx hb),eT.refl _ _ _,r,hx⟩
          ·rename_i hz;simp only [V.den,beq_eq_false_iff_ne,ne_eq] at hz;obtain⟨jK,jD,Z⟩:=cH (s:={ s with pc:=fN }) fA U;split at Z
           ·rename_i Kb;obtain⟨UR,IZ,h3⟩:=cH (s:={ s with pc:=jK }) jD Z;split at h3
            ·rename_i t3;rw [dY,decide_eq_true_eq,cE] at Kb t3;simp only [V.den] at Kb t3;have aiy:(dec (e2.den E.ρ)).l≠[]:=by intro q; rw [q] at hz; simp at hz
             obtain⟨us,src⟩:=aaQ (P:=P) (w:=w) hy aiy;rw [im] at src;rw [lE] at src
             have lK:0<(dec (e2.den E.ρ)).l.length:=by
              rcases ams (dec (e2.den E.ρ)).l.length with q|q
              ·omega
              ·exact q
             have aeW:dec (e2.den E.ρ)=dL (dec (e2.den E.ρ)).l/\∀d∈(dec (e2.den E.ρ)).l,pS (rowOf ty2) d:=by
              have key: ∀{d:D} {v:Value},Rd E.ro w.heap (.sl ty2) d v->d.l≠[]->d=dL d.l/\∀x∈d.l,pS (rowOf ty2) x:=by
               intro d v hr gp
               have b?: ∀{c:CK} {d:D} {v:Value},Rd E.ro w.heap c d v->oq c d:=by
                intro c d v hr
                cases hr with
                |int k n=>rfl
                |bool b=>cases b<;>simp [oq]
                |str s=>trivial
                |nil t=>trivial
                |vO t a cap=>trivial
                |one t c b o cap ds f hr hc hb U Z=>trivial
                |many t cs b o cap rows f hr hc hb Y U Z=>trivial
               generalize hc:CK.sl ty2=c at hr
               cases hr with
               |int k n=>simp at hc
               |bool b=>simp at hc
               |str s=>simp at hc
               |nil t=>exact absurd rfl gp
               |vO t a cap=>exact absurd rfl gp
               |one t c b o cap ds f hr eJ hb U Z=> simp only [CK.sl.injEq] at hc;subst hc;refine⟨by rw [bJ],fun x hx=>?_⟩;rw [bJ] at hx;obtain⟨i,hi⟩:=amI.1 hx;rw [hr];exact b? (Z i x hi)
               |many t cs b o cap rows f hr eJ hb Y U Z=> simp only [CK.sl.injEq] at hc;subst hc;refine⟨by rw [bJ],fun x hx=>?_⟩;rw [bJ,aQ] at hx;obtain⟨row,hrm,rfl⟩:=hx;obtain⟨i,hi⟩:=amI.1 hrm;rw [hr];refine⟨by rw [bJ],by rw [bJ]; exact Y row hrm,fun j c y hj hy=>?_⟩;rw [bJ] at hy;exact b? (Z i row j y c hi hy hj)
              exact key hy aiy
             rw [im] at aeW
             have grown: ∀e1:V,(dec (e1.den E.ρ)).l=(dec (e0.den E.ρ)).l++(dec (e2.den E.ρ)).l->dec (e1.den E.ρ)=dL (dec (e1.den E.ρ)).l->Grown E.ρ (rowOf t') e0 e1 (dec (e2.den E.ρ)).l (bE E.ρ (rowOf t') [] (dec (e2.den E.ρ)).l 0):=by
              intro e1 q1 q2;refine⟨q1,q2,aeW.2,fun E' h us j hρ hv=>?_⟩
              have:bE E.ρ (rowOf t') [] (dec (e2.den E.ρ)).l j=bE E.ρ (rowOf t') [] (dec (e2.den E.ρ)).l 0:=by
               generalize (dec (e2.den E.ρ)).l=L;clear hv q1 q2
               have gen: ∀(L:List D) (a b:Nat),bE E.ρ (rowOf t') [] L a=bE E.ρ (rowOf t') [] L b:=by
                intro L
                induction L with
                |nil=>intro a b; rfl
                |cons d L ih=>intro a b; simp only [bE,ed]; rw [ih (a+1) (b+1)]
               exact gen L j 0
              rw [this];exact hv
             have hbw:=JW r hb;split at h3
             ·rename_i nO
              have aiO:(dec (e0.den E.ρ)).l= []:=by
               unfold N8 at nO;split at nO
               ·split at nO
                ·simp only [V.den,bB,D.l]
                ·simp at nO
               ·simp at nO
              have:=bC h3;simp only [ak] at this;obtain⟨rfl,rfl⟩:=this;obtain⟨z,w',E',p1,p2,p3,p4⟩:=xZ (t:=t) (t2:=t2) (ty:=ty) r tZ hu kc uU wZ ri vZ MW src lK hx hb lE (grown e2 (by rw [aiO,aC]) aeW.1) rfl (by rw [aiO]; refine Xa (bytes:=ie.bytes) ?_; have q:=Kb; unfold Xb at q; rw [nO] at q; exact q);exact⟨rfl,IZ,z,w',E',p1,p2,p3,p4⟩
             ·rename_i nO;have:=bC h3;simp only [ak] at this;obtain⟨rfl,rfl⟩:=this;obtain⟨z,w',E',p1,p2,p3,p4⟩:=xZ (t:=t) (t2:=t2) (ty:=ty) r tZ hu kc uU wZ ri vZ MW src lK hx hb lE (grown (.op .cat e0 e2) (by simp only [V.den,fu.den,bB,bJ]) (by simp only [V.den,fu.den,bB,bJ])) rfl (room_le ri MW (by have q:=Kb; unfold Xb at q; rw [nO] at q; exact q) J);exact⟨rfl,IZ,z,w',E',p1,p2,p3,p4⟩
            ·simp [T.leaf] at h3
           ·simp [T.leaf] at Z
         ·simp [T.leaf] at h
        ·simp [T.leaf] at h
       ·
        split at h
        ·rename_i m news Of;obtain⟨us,src⟩:=qg (P:=P) r hy Of;split at h
         ·have:=bC h;simp only [ak] at this;obtain⟨rfl,rfl⟩:=this
          exact⟨rfl,hp,u,w,E,BZ tZ hu kc uU src (UU (by
           cases y<;>first |rfl|(rename_i lG _ _ _; exact absurd rfl (lG _ _))|(rename_i lG; exact absurd rfl (lG _ _)))),eT.refl _ _ _,r,hx⟩
         ·rename_i m';split at h
          ·exact JF (own:=ti.own) r hp tZ hu kc uU wZ ri vZ MW src hx h
          ·split at h
           ·exact JE r hp tZ hu kc uU wZ ri vZ MW src hx h
           ·exact BO r hp tZ hu kc uU wZ ri vZ MW src hx h
        ·simp [T.leaf] at h
   ·simp [T.leaf] at h
  ·simp [T.leaf] at h
 ·simp [T.leaf] at h
end
section
variable {P:Program} {E:En} {w:World}
theorem PH {h:Array Obj} {id t:Nat} {n:V} {u:Value} (hv:VR E h (.pb id n t) u):VR E h (.tV id (.lit 0) n t) u:=by simp only [VR] at hv ⊢;obtain⟨U,k,a,cap,Z,h3,h4,h5⟩:=hv;exact⟨U,0,k,a,cap,rfl,Z,h3,h4,by rw [alQ]; exact h5⟩
theorem OC {tt:TT} (cJ:eA P tt) {s s':St} (hp:bV E.ρ s.pc) {ty t id:Nat} {lo n:V} {ix v:W} {u ui:Value} (hx:VR E w.heap (.tV id lo n t) u) (yX:VR E w.heap ix ui) (h:(Jj tt s ty id t lo n ix).leaf E.ρ=some (v,s')) :
 s'.bD=s.bD/\s'.h=s.h/\bV E.ρ s'.pc/\∃r,(Instr.indexAt ty u ui).run P w= .ok r w/\VR E w.heap v r:=by
 unfold Jj at h;split at h
 ·rename_i kd i;split at h
  ·rename_i z hz;split at h
   ·rename_i lE;obtain⟨ef,fy,U,Z,h3⟩:=nw hp h;have:=bC h3;simp only [ak] at this;obtain⟨rfl,rfl⟩:=this;refine⟨rfl,rfl,fy,?_⟩;simp only [VR] at hx yX;subst yX;obtain⟨hid,l,m,a,cap,Y,hn,rfl,iR,hc⟩:=hx;obtain⟨el,ie,hu,kX,rfl⟩:=np cJ hz;obtain⟨k,hk⟩ : ∃k:Nat,i.den E.ρ=(k:Int):=⟨(i.den E.ρ).toNat,J⟩;have fW:k<m:=J
    have ha:a=⟨(E.θ id).1,(E.θ id).2+l*ie.size,none⟩:=by
     simp only [eQ] at hc
     grind
    subst ha;refine⟨.pointer (some ⟨(E.θ id).1,(E.θ id).2+l*ie.size+k*ie.size,none⟩),?_,?_⟩
    ·rw [hk];simp [Instr.indexAt,asIntOf,run_underlying hu,ey (cJ el ie kX),fW,e9]
    ·simp only [VR];exact⟨hid,l+k,by rw [oZ,Y,hk]; rfl,by rw [a8,alX,alP]⟩
   ·simp [T.leaf] at h
  ·simp [T.leaf] at h
 ·simp [T.leaf] at h
theorem XK {lo:Option W} {yb:Option Value} {l:V} {n:Nat} (h:loE lo=some l) (oa:gq E w.heap lo yb) (hn:l.den E.ρ=(n:Int)) :
 ∃US,gq E w.heap US yb/\∀y,n<=y->nD US 0 y=some n:=by
 unfold loE at h;split at h
 ·simp only [ah] at h;subst h;simp only [V.den] at hn
  grind [nD]
 ·split at h
  ·rename_i v k q;simp only [ah] at h;subst h;obtain⟨y,rfl,hy⟩:=oa;refine⟨some (.int k (.lit (Int.ofNat n))),⟨y,rfl,?_⟩,fun y hy=>by simp [nD,ky,hy]⟩;simp only [VR,V.den] at hy ⊢
   grind
  grind
theorem Cx {k:IntKind} {q:V} {n:Nat} {o:Option Value} (hq:q.den E.ρ=(n:Int)) (ho:gq E w.heap (some (.int k q)) o):gq E w.heap (some (.int k (.lit (Int.ofNat n)))) o:=by
 obtain⟨y,rfl,hy⟩:=ho;refine⟨y,rfl,?_⟩;simp only [VR,V.den] at hy ⊢
 grind
theorem CT {k:IntKind} {n d y:Nat} (hn:n<=y):nD (some (.int k (.lit (Int.ofNat n)))) d y=some n:=by simp [nD,ky,hn]
theorem Ep [bI] {tt:TT} (cJ:eA P tt) {s s':St} (r:bO E s.h w) (hp:bV E.ρ s.pc) {ty id t:Nat} {u_ n0:V} {lo hi mx:Option W} {yb hi' mx':Option Value} {v:W} {u:Value} (hx:VR E w.heap (.tV id u_ n0 t) u)
 (oa:gq E w.heap lo yb) (yd:gq E w.heap hi hi') (xM:gq E w.heap mx mx') (h:(CL tt s ty id t u_ n0 lo hi mx).leaf E.ρ=some (v,s')) :
 s'.bD=s.bD/\s'.h=s.h/\bV E.ρ s'.pc/\∃r,(Instr.sliceAt ty u yb hi' mx').run P w= .ok r w/\VR E w.heap v r:=by
 unfold CL at h;split at h
 ·simp [T.leaf] at h
 ·rename_i z hz;split at h
  ·rename_i jl;obtain⟨lE,hz0⟩:=jl;obtain⟨el,ie,hu,kX,rfl⟩:=np cJ hz;have ik:=ey (cJ el ie kX);simp only [VR] at hx;obtain⟨hid,l0,m0,a,cap,g1,g2,rfl,iR,hc⟩:=hx
   have fin: ∀(l k:Nat) (e1 e2:V),(Instr.sliceBounds true m0 cap yb hi' none).run P w= .ok (l,k,cap) w->l<=k->k<=cap->e1.den E.ρ=(l:Int)->e2.den E.ρ=(k:Int)->
    ∃r,(Instr.sliceAt ty (.slice (some a) m0 cap) yb hi' none).run P w= .ok r w/\VR E w.heap (.tV id (sc u_ e1) (Da e2 e1) t) r:=by
    intro l k e1 e2 hb B6 hk Yn he2;refine⟨.slice (some (if cap=l then a else a.add (l*ie.size))) (k-l) (cap-l),?_,?_⟩
    ·simp [Instr.sliceAt,run_underlying hu,Instr.slice,hb,ik]<;>split<;>rfl
    ·simp only [VR];refine⟨hid,l0+l,k-l,_,_,by rw [oZ,g1,Yn]; rfl,by rw [Ti,Yn,he2]; omega,rfl,J,?_⟩;rw [alX];have q:=pM (l:=l) (h:=k) (m:=cap) (es:=(rowOf t).es) hc iR B6 hk (au _) (.inr (.inr ⟨rfl,rfl,rfl⟩)) (rowOf t).es (fun _=>rfl);rw [lE];exact q
   split at h
   ·simp [T.leaf] at h
   ·rename_i ql hql;obtain⟨fN,fA,U⟩:=cH hp h;split at U
    ·simp [T.leaf] at U
    ·rename_i t1;rw [dY,decide_eq_false_iff_not] at t1;simp only [V.den,amr] at t1;obtain⟨l,Y⟩ : ∃l:Nat,ql.den E.ρ=(l:Int):=⟨(ql.den E.ρ).toNat,J⟩;obtain⟨US,Yh,nh⟩:=XK hql oa Y;split at U
     ·
      simp only [gq] at yd;subst yd;split at U
      ·simp [T.leaf] at U
      ·simp only [gq] at xM;subst xM;obtain⟨jK,jD,Z⟩:=cH (s:={ s with pc:=fN }) fA U;split at Z
       ·simp [T.leaf] at Z
       ·rename_i t2;have:=bC Z;simp only [ak] at this;obtain⟨rfl,rfl⟩:=this;rw [dY,decide_eq_false_iff_not] at t2;have hlm:l<=m0:=J
        obtain⟨e1,e2⟩:=fV (P:=P) (w:=w) (isSlice:=true) (len:=m0) (cap:=cap) (m0:=cap) (d:=0) (m:=cap) (h0:=cap) (h:=m0) (l:=l) Yh (hi:=none) (hi':=none) (by simp [gq]) (mx:=none) (mx':=none) (by simp [gq]) ad (.inl ⟨rfl,rfl,au _⟩) (by simp [nD,iR]) ⟨fun _=>au _,ad⟩ (nh _ hlm);exact⟨rfl,rfl,jD,fin l m0 _ _ e1 hlm iR Y g2⟩
     ·rename_i hv;split at U
      ·rename_i kh qh;obtain⟨jK,jD,Z⟩:=cH (s:={ s with pc:=fN }) fA U;split at Z
       ·simp [T.leaf] at Z
       ·rename_i t2;rw [dY,decide_eq_false_iff_not] at t2;obtain⟨k,hk⟩ : ∃k:Nat,qh.den E.ρ=(k:Int):=⟨(qh.den E.ρ).toNat,J⟩;have B6:l<=k:=J
        split at Z
        ·rename_i mv;split at Z
         ·rename_i km qm;obtain⟨UR,IZ,h3⟩:=cH (s:={ s with pc:=jK }) jD Z;split at h3
          ·simp [T.leaf] at h3
          ·rename_i t3;obtain⟨pc4,hp4,h4⟩:=cH (s:={ s with pc:=UR }) IZ h3;split at h4
           ·simp [T.leaf] at h4
           ·rename_i t4;have:=bC h4;simp only [ak] at this;obtain⟨rfl,rfl⟩:=this;rw [dY,decide_eq_false_iff_not] at t3 t4;obtain⟨m,hm⟩ : ∃m:Nat,qm.den E.ρ=(m:Int):=⟨(qm.den E.ρ).toNat,J⟩;obtain⟨e1,e2⟩:=fV (P:=P) (w:=w) (isSlice:=true) (len:=m0) (cap:=cap) (m0:=cap) (d:=0) (m:=m) (h0:=m) (h:=k) (l:=l) Yh (Cx hk yd) (Cx hm xM) ad (.inr ⟨_,rfl,CT J,au _⟩) (CT J) ⟨ad,fun _=>rfl⟩ (nh _ B6);refine⟨rfl,rfl,hp4,.slice (some (if m=l then a else a.add (l*ie.size))) (k-l) (m-l),?_,by simp only [VR]⟩;simp [Instr.sliceAt,run_underlying hu,Instr.slice,e1,ik]<;>split<;>rfl
         ·simp [T.leaf] at Z
        ·simp only [gq] at xM;subst xM
         have go:k<=cap->∃r,(Instr.sliceAt ty (.slice (some a) m0 cap) yb hi' none).run P w= .ok r w/\VR E w.heap (.tV id (sc u_ ql) (Da qh ql) t) r:=by intro hkc;obtain⟨e1,e2⟩:=fV (P:=P) (w:=w) (isSlice:=true) (len:=m0) (cap:=cap) (m0:=cap) (d:=0) (m:=cap) (h0:=cap) (h:=k) (l:=l) Yh (Cx hk yd) (mx:=none) (mx':=none) (by simp [gq]) ad (.inl ⟨rfl,rfl,au _⟩) (CT hkc) ⟨fun _=>au _,ad⟩ (nh _ B6);exact fin l k _ _ e1 B6 hkc Y hk
         obtain⟨UR,IZ,h3⟩:=cH (s:={ s with pc:=jK }) jD Z;split at h3
         ·rename_i t3;have:=bC h3;simp only [ak] at this;obtain⟨rfl,rfl⟩:=this;rw [dY,decide_eq_false_iff_not] at t3;exact⟨rfl,rfl,IZ,go J⟩
         ·split at h3
          ·simp [T.leaf] at h3
          ·rename_i hz1;split at h3
           ·simp [T.leaf] at h3
           ·rename_i e Ah Y';obtain⟨pc4,hp4,h4⟩:=cH (s:={ s with pc:=UR }) IZ h3;split at h4
            ·simp [T.leaf] at h4
            ·rename_i t4;have:=bC h4;simp only [ak] at this;obtain⟨rfl,rfl⟩:=this;rw [dY,decide_eq_false_iff_not,cE] at t4;refine⟨rfl,rfl,hp4,go ?_⟩;have hlv:=mV Y';obtain⟨ho,q0⟩:=OR.oo.1 (r.live id _ hlv).2.1;have akz:=DU hz1;subst akz;simp only [V.den] at g1;have hl0:l0=0:=J
             subst hl0;simp only [OR] at q0;obtain⟨arr,lo1,hi1,us,q1,q2,q3,q4,q5,q6,q7⟩:=q0;unfold cL at q4;rw [cF ho.1] at q4;have gp:0<(dec (e.den E.ρ)).l.length:=amb.2 ho.2.2.2;have lK:0<(rowOf t).es:=J
             simp only [eQ] at hc
             have hκ:(dec (e.den E.ρ)).l.length<=cap:=by
              rcases hc with hc|hc
              ·have:(dec (e.den E.ρ)).l.length*(rowOf t).es<=cap*(rowOf t).es:=J
               exact anm this lK
              ·have:=amO gp lK;omega
             omega
      ·simp [T.leaf] at U
  ·simp [T.leaf] at h
theorem OS [bI] {tt:TT} (cJ:eA P tt) {s s':St} (hp:bV E.ρ s.pc) {ty t:Nat} {z:V} {lo hi mx:Option W} {yb hi' mx':Option Value} {v:W} {u:Value} (hx:VR E w.heap (.xg z t) u)
 (oa:gq E w.heap lo yb) (yd:gq E w.heap hi hi') (xM:gq E w.heap mx mx') (h:(Jv tt s ty z t lo hi mx).leaf E.ρ=some (v,s')) :
 s'.bD=s.bD/\s'.h=s.h/\bV E.ρ s'.pc/\∃r,(Instr.sliceAt ty u yb hi' mx').run P w= .ok r w/\VR E w.heap v r:=by
 unfold Jv at h;split at h
 ·grind [T.leaf]
 ·simp only [gq] at xM;subst xM;split at h
  ·grind [T.leaf]
  ·rename_i zz hz;obtain⟨el,ie,hu,kX,rfl⟩:=np cJ hz;have ik:=ey (cJ el ie kX);split at h
   ·rename_i Ad;split at h
    ·rename_i nh;have:=bC h;simp only [ak] at this;obtain⟨rfl,rfl⟩:=this;have hx0:=hx;simp only [VR] at hx;obtain⟨⟨x,rfl⟩,hr⟩:=hx;obtain⟨e1,e2⟩:=fV (P:=P) (w:=w) (isSlice:=true) (len:=0) (cap:=0) (m0:=0) (d:=0) (m:=0) oa yd (mx:=none) (mx':=none) (by simp [gq]) ad (.inl ⟨rfl,rfl,au _⟩) Ad ⟨fun _=>au _,ad⟩ nh;refine⟨rfl,rfl,hp,.slice x 0 0,?_,hx0⟩;simp [Instr.sliceAt,run_underlying hu,Instr.slice,e1,ik]
    grind [T.leaf]
   grind [T.leaf]
end
theorem Dh: ∀{B Z':List W},Z'.length=B.length->dX B 0 Z'=some Z'
 |[],[],_=>rfl
 |[],_::_,h=>by simp at h
 |_::_,[],h=>by simp at h
 |b::B,v::Z',h=>by simp only [dX];rw [Dh (by simpa using h)]
theorem NC {A B C Z':List W} (h:Z'.length=B.length):dX (A++(B++C)) A.length Z'=some (A++(Z'++C)):=by
 have:=sH A (nH C (Dh h))
 grind
theorem FP {α:Type}: ∀{a b:List α},iA a.length (a++b)=some a
 |[],b=>rfl
 |x::a,b=>by simp only [aM,aO,iA,FP]
theorem kI {ρ:Nat->Int} {r:Row}: ∀(L:List D) (a b:Nat),bE ρ r [] L a=bE ρ r [] L b
 |[],_,_=>rfl
 |d::L,a,b=>by simp only [bE,ed]; rw [kI L (a+1) (b+1)]
theorem gV {ρ:Nat->Int} {r:Row}: ∀(A B:List D),bE ρ r [] (A++B) 0=bE ρ r [] A 0++bE ρ r [] B 0
 |[],B=>rfl
 |d::A,B=>by simp only [aO,bE,ed,amf];rw [kI (A++B) 1 0,kI A 1 0,gV A B]
section
variable {P:Program} {E:En} {w:World}
theorem VF [bI] {H:Hp} (r:bO E H w) {id t:Nat} {e0:V} {sq:TypeId} (Y:H.get id=some (.vec e0 t sq [])) (wZ:(rowOf t).es≠0) {k cap:Nat} {a:Addr} (hc:eQ E id 0 k a cap (.rest (rowOf t).es)) :
 a=⟨(E.θ id).1,(E.θ id).2,none⟩/\(dec (e0.den E.ρ)).l.length<=cap:=by
 obtain⟨ho,q0⟩:=OR.oo.1 (r.live id _ Y).2.1;simp only [OR] at q0;obtain⟨arr,lo1,hi1,us,q1,q2,q3,q4,q5,q6,q7⟩:=q0;unfold cL at q4;rw [cF ho.1] at q4;have gp:0<(dec (e0.den E.ρ)).l.length:=amb.2 ho.2.2.2;have lK:0<(rowOf t).es:=J
 simp only [eQ] at hc;rcases hc with hc|hc
 ·refine⟨by simpa using hc.1,?_⟩;have:(dec (e0.den E.ρ)).l.length*(rowOf t).es<=cap*(rowOf t).es:=J
  exact anm this lK
 ·have:=amO gp lK;omega
theorem CX [bI] {H:Hp} (r:bO E H w) {id t:Nat} {e0:V} {sq:TypeId} (Y:H.get id=some (.vec e0 t sq [])) {n mm:Nat} (hle:n+mm<=(dec (e0.den E.ρ)).l.length) {ds:List D} (v8:ds.length=mm) (ud: ∀d∈ds,pS (rowOf t) d)
 {us:List Value} (hv:cA E w.heap (bE E.ρ (rowOf t) [] ds 0) us) (U: ∀u∈us,u.oneCell'=true) {e1:V} (Yn:dec (e1.den E.ρ)=dL ((dec (e0.den E.ρ)).l.take n++ds++(dec (e0.den E.ρ)).l.drop (n+mm))) :
 ∃w',(storeCells ⟨(E.θ id).1,(E.θ id).2+n*(rowOf t).es,none⟩ us).run P w= .ok () w'/\eT E H w E (H.put id (.vec e1 t sq [])) w'/\bO E (H.put id (.vec e1 t sq [])) w':=by
 obtain⟨rc,ho,hw⟩:=r.oo Y;generalize hL:(dec (e0.den E.ρ)).l=L at *
 have hsp:L=L.take n++((L.drop n).take mm++L.drop (n+mm)):=by
  conv=>lhs; rw [<- al6 n L]
  congr 1
  conv=>lhs; rw [<- al6 mm (L.drop n)]
  simp_all
 have hc:cL E.ρ e0 t []=bE E.ρ (rowOf t) [] (L.take n) 0++(bE E.ρ (rowOf t) [] ((L.drop n).take mm) 0++bE E.ρ (rowOf t) [] (L.drop (n+mm)) 0):=by
  unfold cL;rw [hL]
  conv=>lhs; rw [hsp]
  rw [gV,gV]
 have hlA:(bE E.ρ (rowOf t) [] (L.take n) 0).length=n*(rowOf t).es:=by
  rw [cF (ku _),bh]
  grind
 have UU:dX (cL E.ρ e0 t []) (n*(rowOf t).es) (bE E.ρ (rowOf t) [] ds 0)=some (cL E.ρ e1 t []):=by
  have:cL E.ρ e1 t []=bE E.ρ (rowOf t) [] (L.take n) 0++(bE E.ρ (rowOf t) [] ds 0++bE E.ρ (rowOf t) [] (L.drop (n+mm)) 0):=by unfold cL;rw [Yn,bJ,gV,gV,amf]
  rw [this,hc,<- hlA];refine NC ?_;rw [cF (ku _),cF (ku _),bh,bq,v8]
  grind
 obtain⟨w',g1,g2,g3⟩:=lU (P:=P) rc (by rw [Hp.bQ,ag rfl]) UU hv U;have al1:FL (H.put id (.cells (cL E.ρ e0 t []) sq)) H:=(FL.put Y).symm
 have al2:FL ((H.put id (.cells (cL E.ρ e0 t []) sq)).put id (.cells (cL E.ρ e1 t []) sq)) (H.put id (.vec e1 t sq [])):=by
  refine⟨fun j y hj=>?_,fun j y hj=>?_,rfl,rfl⟩
  ·rw [Hp.bQ];split
   ·grind
   ·rename_i gp;rw [Hp.bQ,af gp,Hp.bQ,af gp] at hj
    grind
  ·rw [Hp.bQ] at hj ⊢;split
   ·grind
   ·rename_i gp;rw [af gp] at hj;rw [Hp.bQ,af gp];exact⟨y,hj⟩
 have AP:=(g3.live id _ (by rw [Hp.bQ,ag rfl])).2.1
 have hor:OR E w'.heap id (.vec e1 t sq []):=by
  refine OR.oo.2 ⟨⟨ku _,?_⟩,AP⟩;rw [Yn];refine⟨by rw [bJ],?_,?_⟩
  ·rw [bJ];intro d hd;rcases alO.1 hd with hd|hd
   ·rcases alO.1 hd with hd|hd
    ·exact hw.2.1 d (by rw [hL]; exact alS hd)
    ·exact ud d hd
   ·exact hw.2.1 d (by rw [hL]; exact bw hd)
  ·rw [bJ];intro q;have:=congrArg List.length q;simp only [aZ,bh,bq,aR,v8] at this;have gp:=amb.2 hw.2.2;rw [hL] at gp;omega
 refine⟨w',g1,(g2.left al1).right al2,?_⟩;exact g3.swap (id:=id) (by rw [Hp.bQ,ag rfl]) hor (by rw [Hp.bQ,ag rfl]) (fun j hj=>by rw [Hp.bQ,af hj,Hp.bQ,af hj,Hp.bQ,af hj]) rfl rfl
theorem Mv [bI] {s s':St} (r:bO E s.h w) (hp:bV E.ρ s.pc) {id t t1 t2 ty e:Nat} {e0 n1 m sd lo:V} {sq:TypeId} {ie:TI} {d2:TypeDesc} (tZ:mw P e ie) (ht:P.underlying t1=some (.slice e)) (yc:P.underlying t2=some d2) (kc: ∀k,d2≠.int k)
 (lE:(rowOf t).es=ie.size) (wZ:ie.size≠0) (Y:s.h.get id=some (.vec e0 t sq [])) (oa:X_ lo=true) {u u2:Value} {us:Array Value} {ds:List D} (hx:VR E w.heap (.tV id lo n1 t) u) {mm:Nat} (hm:m.den E.ρ=(mm:Int))
 (v8:ds.length=mm) (hsd:(dec (sd.den E.ρ)).l=ds) (ud: ∀d∈ds,pS (rowOf t) d) {news:List W} (src:Src P E w ie.size mm news u2 us) (hv:cA E w.heap (bE E.ρ (rowOf t) [] ds 0) us.toList) {v:W} (h:(SJ id t sq e0 n1 m sd s).leaf E.ρ=some (v,s')) :
 s'.bD=s.bD/\bV E.ρ s'.pc/\∃z w' E',(Builtin.append_ #[t1,t2] ty #[u,u2]).run P w= .ok z w'/\eT E s.h w E' s'.h w'/\bO E' s'.h w'/\VR E' w'.heap v z:=by
 unfold SJ at h;obtain⟨ef,fy,g1,g2,g3,g4⟩:=vN hp h;have:=bC g4;simp only [ak] at this;obtain⟨rfl,rfl⟩:=this;have oa:=DU oa;subst oa;have hx0:=hx;simp only [VR] at hx;obtain⟨hid,l0,k,a,cap,q1,q2,rfl,q4,q5⟩:=hx;simp only [V.den] at q1;have hl0:l0=0:=J
 subst hl0;rw [alQ] at q5;obtain⟨rfl,kA⟩:=VF r Y (by rw [lE]; exact wZ) q5;have hle:k+mm<=(dec (e0.den E.ρ)).l.length:=J
 obtain⟨inf,d,z,U,Z,h3,h4,h5,h6,h7,h8⟩:=tZ.all
 obtain⟨w',f1,f2,f3⟩:=CX (P:=P) r Y (n:=k) hle v8 ud hv src.rH (e1:=.op .cat (.op .cat (.op .take e0 n1) sd) (.op .drop e0 (sc n1 m))) (by
  have hn:((k:Int)+(mm:Int)).toNat=k+mm:=J
  simp only [V.den,fu.den,bB,bJ,oZ,gz,q2,hm,hn,hsd,bp])
 refine⟨rfl,fy,.slice (some ⟨(E.θ id).1,(E.θ id).2,none⟩) (k+mm) cap,w',E,?_,f2,f3,?_⟩
 ·exact kO (s:=ie.size) ht yc kc U h5 src J (by simp only [e9]; rw [<- lE]; exact f1)
 ·simp only [VR];refine⟨hid,0,k+mm,_,_,rfl,by rw [oZ,q2,hm]; rfl,rfl,J,?_⟩;rw [alQ];simp only [eQ] at q5 ⊢
  grind
theorem L3 [bI] {tt:TT} (cJ:eA P tt) {s s':St} (r:bO E s.h w) (hp:bV E.ρ s.pc) {t t2 ty id t':Nat} {lo n1:V} {y v:W} {u u2:Value} (oa:X_ lo=true) (hx:VR E w.heap (.tV id lo n1 t') u) (hy:VR E w.heap y u2) (h:(ED tt t t2 id n1 t' y s).leaf E.ρ=some (v,s')) :
 s'.bD=s.bD/\bV E.ρ s'.pc/\∃z w' E',(Builtin.append_ #[t,t2] ty #[u,u2]).run P w= .ok z w'/\eT E s.h w E' s'.h w'/\bO E' s'.h w'/\VR E' w'.heap v z:=by
 unfold ED at h;split at h
 ·rename_i ti fm;split at h
  ·rename_i e hk;split at h
   ·rename_i ie kX;split at h
    ·grind [T.leaf]
    ·rename_i PM X4;obtain⟨d2,kc,CC⟩:=rN (cJ t2 PM X4);split at h
     ·grind [T.leaf]
     ·rename_i k2 gp
      have uU: ∀k,d2≠.int k:=by
       intro k hd;subst hd;cases sZ:PM.kind<;>rw [sZ] at CC<;>simp only [HT] at CC
       grind
      split at h
      ·grind [T.leaf]
      ·rename_i jl;simp only [not_or,Classical.not_not] at jl;obtain⟨wZ,ri,vZ,lE⟩:=jl;have tZ:=cJ e ie kX;have hu:=ff (cJ t ti fm) hk;split at h
       ·grind [T.leaf]
       ·rename_i e0 sq Y';have Y:=mV Y';split at h
        ·rename_i id2 US n2 Kb;split at h
         ·rename_i I1;split at h
          ·rename_i yc;have I1:=aq I1;have yc:=aq yc;subst I1 yc;obtain⟨fN,fA,g1,g2,g3,g4⟩:=vN hp h;have hy0:=hy;simp only [VR] at hy;obtain⟨hid,l,k,a,cap,q1,q2,rfl,q4,q5⟩:=hy;obtain⟨rc,ho,hw⟩:=r.oo Y;generalize hL:(dec (e0.den E.ρ)).l=L at *;have B6:l+k<=L.length:=J
           have hsp:L=L.take l++((L.take (l+k)).drop l++L.drop (l+k)):=by
            conv=>lhs; rw [<- al6 (l+k) L]
            grind
           have U0:cL E.ρ e0 Kb []=bE E.ρ (rowOf Kb) [] (L.take l) 0++(bE E.ρ (rowOf Kb) [] ((L.take (l+k)).drop l) 0++bE E.ρ (rowOf Kb) [] (L.drop (l+k)) 0):=by
            unfold cL;rw [hL]
            conv=>lhs; rw [hsp]
            rw [gV,gV]
           have hlA:(bE E.ρ (rowOf Kb) [] (L.take l) 0).length=l*(rowOf Kb).es:=by rw [cF (ku _),bh];congr 1;omega
           have hlen:((L.take (l+k)).drop l).length=k:=by rw [bq,bh]; omega
           have hlB:(bE E.ρ (rowOf Kb) [] ((L.take (l+k)).drop l) 0).length=k*(rowOf Kb).es:=by rw [cF (ku _),hlen]
           have hy1:VR E w.heap (.slice id2 (l*(rowOf Kb).es) k (.rest (rowOf Kb).es)) (.slice (some a) k cap):=by simp only [VR];exact⟨hid,a,cap,rfl,q4,q5⟩
           obtain⟨us,src⟩:=qg (P:=P) rc hy1 (s:=ie.size) (m:=k) (news:=bE E.ρ (rowOf Kb) [] ((L.take (l+k)).drop l) 0) (by
            simp only [ru,mJ,Hp.bQ,if_true];rw [U0,<- hlA,tk];simp only;rw [<- lE,<- hlB,FP]
            rfl)
           refine Mv (s:={ s with pc:=fN }) r fA tZ hu kc uU lE wZ Y oa hx q2 hlen (by rw [xw q1 q2,gz,hL]) (fun d hd=>hw.2.1 d ?_) src src.UO g4;rw [hL];exact alS (bw hd)
          grind [T.leaf]
         grind [T.leaf]
        ·split at h
         ·grind [T.leaf]
         ·rename_i m news Of;obtain⟨us,src⟩:=qg (P:=P) r hy Of;split at h
          ·grind [T.leaf]
          ·rename_i m';split at h
           ·split at h
            ·rename_i sd hcr;obtain⟨ds,c1,c2,c3,c4,c5⟩:=qE (ρ:=E.ρ) _ hcr;simp only [V.den,bB,D.l,aC] at c2;exact Mv r hp tZ hu kc uU lE wZ Y oa hx (mm:=m'+1) (by simp only [V.den]; rfl) c1 c2 c4 src (c5 E w.heap _ 0 rfl src.UO) h
            grind [T.leaf]
           grind [T.leaf]
   grind [T.leaf]
  grind [T.leaf]
 grind [T.leaf]
theorem BN [bI] {tt:TT} (cJ:eA P tt) {s s':St} (r:bO E s.h w) (hp:bV E.ρ s.pc) {t ty id t':Nat} {lo n:V} {v:W} {u:Value} (hx:VR E w.heap (.tV id lo n t') u) (h:(zD tt t id lo n t' s).leaf E.ρ=some (v,s')) :
 s'.bD=s.bD/\bV E.ρ s'.pc/\v=W.undef/\∃w' E',(Builtin.clear_ #[t] ty #[u]).run P w= .ok (.tuple #[]) w'/\eT E s.h w E' s'.h w'/\bO E' s'.h w':=by
 unfold zD at h;split at h
 ·rename_i ti fm;split at h
  ·rename_i e hk;have hu:=ff (cJ t ti fm) hk;split at h
   ·rename_i ie kX;obtain⟨inf,d,z,U,Z,h3,h4,h5,h6,h7,h8⟩:=(cJ e ie kX).all;have hz:=eU (E:=E) (h:=w.heap) h4;split at h
    ·rename_i jl;obtain⟨lE,wZ⟩:=jl;split at h
     ·grind [T.leaf]
     ·rename_i e0 Ah Y';have Y:=mV Y';split at h
      ·grind [T.leaf]
      ·rename_i zz hzz;obtain⟨fN,fA,g1⟩:=cH hp h;split at g1
       ·grind [T.leaf]
       ·rename_i t1;obtain⟨jK,jD,g2⟩:=cH (s:={ s with pc:=fN }) fA g1;split at g2
        ·grind [T.leaf]
        ·rename_i t2;obtain⟨UR,IZ,g3⟩:=cH (s:={ s with pc:=jK }) jD g2;split at g3
         ·grind [T.leaf]
         ·rename_i t3;have:=bC g3;simp only [ak] at this;obtain⟨rfl,rfl⟩:=this;rw [dY,decide_eq_false_iff_not] at t1 t2;rw [gH,beq_iff_eq,oZ,cE] at t3;simp only [VR] at hx;obtain⟨hid,l,k,a,cap,q1,q2,rfl,q4,q5⟩:=hx;have B6:l+k=(dec (e0.den E.ρ)).l.length:=J
          have hn0:(dec (e0.den E.ρ)).l.length-l=k:=J
          have hwz:=tw (ρ:=E.ρ) hzz;have hrz:wO E.ro w.heap (rowOf t') (dec (zz.den E.ρ)) z.cells.toList:=tx hz.1 hzz
          have alz:cA E w.heap (gL (rowOf t') (.ep (dec (zz.den E.ρ)))) z.cells.toList:=by
           rw [gm];simp only [V.den,bB]
           grind
          have aeY: ∀m:Nat,bE E.ρ (rowOf t') [] (List.replicate m (dec (zz.den E.ρ))) 0=dO (gL (rowOf t') (.ep (dec (zz.den E.ρ)))) m:=by
           intro m
           induction m with
           |zero=>rfl
           |succ m ih=>
            simp only [ans,bE,ed,dO]
            grind [kI]
          have hv:cA E w.heap (bE E.ρ (rowOf t') [] (List.replicate k (dec (zz.den E.ρ))) 0) (dO z.cells.toList k):=by
           grind [mf]
          obtain⟨w',f1,f2,f3⟩:=CX (P:=P) r Y (n:=l) (mm:=k) J (amj) (fun d hd=>by rw [anJ hd]; exact hwz) hv (fun u hu=>hz.2 u (me hu)) (e1:=.op .fill e0 (eD (mW lo) zz)) (by
           simp only [eD,V.den,fu.den,bB,lI,D.n,q1,bp,hn0,B6]
           rw [List.drop_length,alV])
          refine⟨rfl,IZ,rfl,w',E,?_,f2,f3⟩;rcases ams k with Fx|Fx
          ·subst Fx;simp only [dO] at f1
           have:w'=w:=by
            simp [storeCells] at f1
            grind
           subst this;simp [Builtin.clear_,run_underlying hu]
          ·have ha:a=⟨(E.θ id).1,(E.θ id).2+l*(rowOf t').es,none⟩:=by
            simp only [eQ] at q5
            grind
           have aeV:z.cells.toList≠[]:=by
            intro hx;have:=wO.length hrz
            grind
           have hzc:(Builtin.zeroCells z.cells k).toList=dO z.cells.toList k:=uf z.cells aeV k;subst ha;obtain⟨j,rfl⟩ : ∃j,k=j+1:=⟨k-1,J⟩;simp [Builtin.clear_,run_underlying hu,zeroValue,typeInfo,U,h3,hzc,f1]
    grind [T.leaf]
   grind [T.leaf]
  grind [T.leaf]
 grind [T.leaf]
end
theorem ml (l:List Nat):(lA l).l.length=l.length:=by simp [lA]
theorem Uu {a b:List Nat} (h:lA a=lA b):a=b:=by
 have:=ET h
 induction a generalizing b with
 |nil=>cases b with
  |nil=>rfl
  |cons y b=>simp at this
 |cons x a ih=>cases b with
  |nil=>simp at this
  |cons y b=> simp only [aw,List.cons.injEq,D.i.injEq,Int.ofNat_eq_natCast,amZ] at this;rw [this.1,ih (b:=b) (by unfold lA; exact congrArg dL (by simpa using this.2)) (by simpa using this.2)]
theorem ES: ∀(x y:List Nat),Mg (x.map fun b=>D.i (Int.ofNat b)) (y.map fun b=>D.i (Int.ofNat b))=bytesLess x y
 |[],[]=>rfl
 |[],_::_=>rfl
 |_::_,[]=>rfl
 |a::x,b::y=>by
  simp only [aw,Mg,bytesLess,D.n,ES x y];have i1:(Int.ofNat a<Int.ofNat b)=(a<b):=propext am6;have i2:(Int.ofNat b<Int.ofNat a)=(b<a):=propext am6;simp only [i1,i2];rcases ant a b with h|h|h
  ·simp_all
  ·simp_all
  ·have Z:a.blt b=false:=by rw [amB]; simp [Nat.blt]; omega
   have h3:a.beq b=false:=by rw [amB]; simp; omega
   grind
section
variable {P:Program} {E:En} {w:World}
theorem VR.V_ {h:Array Obj} {e:V} {v:Value} (hv:VR E h (.jP e) v): ∃l:List Nat,v= .string (dh l)/\(∀b∈l,b<256)/\dec (e.den E.ρ)=lA l:=by
 simp only [VR] at hv;obtain⟨s,rfl,hs⟩:=hv.string;refine⟨bytesOf s,by rw [kS],xX s,?_⟩
 grind [zL,xX,kS,tq,dh]
theorem VR.Xu {h:Array Obj} {e:V} {l:List Nat} (Y: ∀b∈l,b<256) (he:dec (e.den E.ρ)=lA l):VR E h (.jP e) (.string (dh l)):=by
 simp only [VR];rw [he,zL _ Y];have:=Rd.str (ro:=E.ro) (h:=h) (dh l)
 grind [tq,dh]
theorem Db {h:Array Obj} {x:W} {u:Value} {e:V} (hx:VR E h x u) (hs:tE x=some e): ∃l:List Nat,u= .string (dh l)/\(∀b∈l,b<256)/\dec (e.den E.ρ)=lA l:=by
 unfold tE at hs;split at hs
 ·simp only [ah] at hs;subst hs;simp only [VR] at hx;exact⟨_,hx.1,hx.2,by simp only [V.den,bB]⟩
 ·simp only [ah] at hs;subst hs;exact hx.V_
 grind
theorem OF {tt:TT} (cJ:eA P tt) {s s':St} (hp:bV E.ρ s.pc) {ty:Nat} {e:V} {ix v:W} {u ui:Value} (hx:VR E w.heap (.jP e) u) (yX:VR E w.heap ix ui) (h:(Jm tt s ty e ix).leaf E.ρ=some (v,s')) :
 s'.bD=s.bD/\s'.h=s.h/\bV E.ρ s'.pc/\∃r,(Instr.index ty u ui).run P w= .ok r w/\VR E w.heap v r:=by
 unfold Jm at h;split at h
 ·rename_i kd i;split at h
  ·rename_i ti fm;split at h
   ·rename_i hk;obtain⟨ef,fy,U,Z,h3⟩:=nw hp h;have:=bC h3;simp only [ak] at this;obtain⟨rfl,rfl⟩:=this;refine⟨rfl,rfl,fy,?_⟩;obtain⟨l,rfl,hb,hd⟩:=hx.V_;simp only [VR] at yX;subst yX;rw [cE,hd,ml] at Z;obtain⟨k,CC⟩ : ∃k:Nat,i.den E.ρ=(k:Int):=⟨(i.den E.ρ).toNat,J⟩;have fW:k<l.length:=J
    have hg:(dh l)[k]?=some (UInt8.ofNat l[k]):=by rw [Dd,aL fW]; rfl
    have akU:=hb l[k] (az fW);rw [CC];refine⟨_,by simp [Instr.index,asIntOf,run_underlying (fP (cJ ty ti fm) hk),hg]; rfl,?_⟩
    have UZ:(dec (e.den E.ρ)).l[k]?=some (.i (Int.ofNat l[k])):=by rw [hd];simp only [lA,bJ,bg,aL fW,alN]
    simp only [VR,Ao,Bb E.ρ e i CC UZ,D.n]
    grind
   grind [T.leaf]
  grind [T.leaf]
 grind [T.leaf]
theorem OE {tt:TT} (cJ:eA P tt) {s s':St} (hp:bV E.ρ s.pc) {ty:Nat} {e:V} {lo hi mx:Option W} {yb hi' mx':Option Value} {v:W} {u:Value} (hx:VR E w.heap (.jP e) u)
 (oa:gq E w.heap lo yb) (yd:gq E w.heap hi hi') (xM:gq E w.heap mx mx') (h:(Jl tt s ty e lo hi mx).leaf E.ρ=some (v,s')) :
 s'.bD=s.bD/\s'.h=s.h/\bV E.ρ s'.pc/\∃r,(Instr.sliceAt ty u yb hi' mx').run P w= .ok r w/\VR E w.heap v r:=by
 unfold Jl at h;split at h
 ·grind [T.leaf]
 ·simp only [gq] at xM;subst xM;split at h
  ·grind [T.leaf]
  ·rename_i ti fm;split at h
   ·rename_i hk;have hu:=fP (cJ ty ti fm) hk;split at h
    ·grind [T.leaf]
    ·rename_i ql hql;split at h
     ·grind [T.leaf]
     ·rename_i qh hqh;obtain⟨fN,fA,U⟩:=cH hp h;split at U
      ·grind [T.leaf]
      ·rename_i t1;obtain⟨jK,jD,Z⟩:=cH (s:={ s with pc:=fN }) fA U;split at Z
       ·grind [T.leaf]
       ·rename_i t2;obtain⟨UR,IZ,h3⟩:=cH (s:={ s with pc:=jK }) jD Z;split at h3
        ·grind [T.leaf]
        ·rename_i t3;have:=bC h3;simp only [ak] at this;obtain⟨rfl,rfl⟩:=this;refine⟨rfl,rfl,IZ,?_⟩;obtain⟨l,rfl,hb,hd⟩:=hx.V_;rw [dY,decide_eq_false_iff_not] at t1 t2 t3;rw [cE,hd,ml] at t3;simp only [V.den,amr] at t1;obtain⟨a,ha⟩ : ∃a:Nat,ql.den E.ρ=(a:Int):=⟨(ql.den E.ρ).toNat,J⟩;obtain⟨b,MV⟩ : ∃b:Nat,qh.den E.ρ=(b:Int):=⟨(qh.den E.ρ).toNat,J⟩;have hle:b<=l.length:=J
         have MX:a<=b:=J
         obtain⟨US,Yh,nh⟩:=XK hql oa ha
         have ae4: ∃I1,gq E w.heap I1 hi'/\nD I1 l.length l.length=some b:=by
          unfold hiE at hqh;split at hqh
          ·simp only [ah] at hqh;subst hqh;rw [cE,hd,ml] at MV;have:b=l.length:=J
           grind [nD]
          ·split at hqh
           ·simp only [ah] at hqh;subst hqh;exact⟨_,Cx MV yd,CT hle⟩
           grind
         obtain⟨I1,ae4,Ad⟩:=ae4;obtain⟨e1,e2⟩:=fV (P:=P) (w:=w) (isSlice:=false) (len:=l.length) (cap:=l.length) (m0:=l.length) (d:=0) Yh ae4 (mx:=none) (mx':=none) rfl ad (.inl ⟨rfl,rfl,au _⟩) Ad ⟨fun _=>au _,ad⟩ (nh b MX);refine⟨.string ((dh l).extract a b),?_,?_⟩
         ·rw [<- kR] at e1;simp [Instr.sliceAt,run_underlying hu,Instr.slice,e1]
         ·rw [sF];refine VR.Xu (fun c hc=>hb c (alS (bw hc))) ?_;simp only [eD,V.den,fu.den,bB,lI,D.hd,D.l,aF,aG,ax,D.n,ha,MV,bp,hd];simp only [lA,bJ,anj,ank]
   grind [T.leaf]
theorem Ic {x y:W} {a b:V} (h:Ck x y=some (a,b)):tE x=some a/\tE y=some b:=by
 grind [Ck]
theorem FW (ρ:Nat->Int) {a b:V} {x y:List Nat} (ha:dec (a.den ρ)=lA x) (hb:dec (b.den ρ)=lA y):(FX a b).den ρ=bytesLess x y:=by
 simp only [FX,SB.den,V.den,fu.den,ha,hb,lA,bJ]
 grind [ES]
theorem zP: ∀(x y:List Nat),(bytesLess x y||gR x y)=!(bytesLess y x)
 |[],[]=>rfl
 |[],_::_=>rfl
 |_::_,[]=>rfl
 |a::x,b::y=>by
  have ih:=zP x y;simp only [bytesLess,gR];rcases ant a b with h|h|h
  ·have U:a.blt b=true:=by simp [Nat.blt]; omega
   have Z:b.blt a=false:=by rw [amB]; simp [Nat.blt]; omega
   have h3:b.beq a=false:=by rw [amB]; simp; omega
   grind
  ·simp_all
  ·have U:b.blt a=true:=by simp [Nat.blt]; omega
   have Z:a.blt b=false:=by rw [amB]; simp [Nat.blt]; omega
   have h3:a.beq b=false:=by rw [amB]; simp; omega
   grind
theorem Uh {s s':St} (hp:bV E.ρ s.pc) {t:Nat} {op:BinOp} {x y v:W} {a b:V} {u u':Value} (hx:VR E w.heap x u) (hy:VR E w.heap y u') (hs:Ck x y=some (a,b)) (h:(OG op a b s).leaf E.ρ=some (v,s')) :
 s'.bD=s.bD/\s'.h=s.h/\bV E.ρ s'.pc/\(∃r,(binOp op t u u').run P w= .ok r w/\VR E w.heap v r)/\(∀cs ds,¬(u= .agg cs/\u'= .agg ds))/\¬(u= .nilIface/\u'= .nilIface):=by
 obtain⟨hsx,hsy⟩:=Ic hs;obtain⟨l,rfl,nh,hdl⟩:=Db hx hsx;obtain⟨m,rfl,D7,tK⟩:=Db hy hsy
 have heq:((qi (mF a) (mF b)).den E.ρ)=gR l m:=by
  grind [iw,lV,l7,Uu,iJ]
 have gp:(∀cs ds,¬(Value.string (dh l)= .agg cs/\Value.string (dh m)= .agg ds))/\¬(Value.string (dh l)= .nilIface/\Value.string (dh m)= .nilIface):=⟨ad,ad⟩
 have fin: ∀(c:W) (o:BinOp),KC o l m=some c->(∀q,VR E w.heap c q->VR E w.heap v q)->(∀q,(Op.stringOp o (dh l) (dh m)).run P w= .ok q w->(binOp o t (.string (dh l)) (.string (dh m))).run P w= .ok q w)->
  ∃r,(binOp o t (.string (dh l)) (.string (dh m))).run P w= .ok r w/\VR E w.heap v r:=by
  intro c o ho hc hq;obtain⟨r,U,Z⟩:=KB (P:=P) (E:=E) (w:=w) nh D7 ho;exact⟨r,hq _ U,hc r Z⟩
 unfold OG at h;split at h
 ·obtain⟨fN,fA,U⟩:=cH hp h;split at U
  ·grind [T.leaf]
  ·rename_i t1;obtain⟨jK,jD,Z⟩:=cH (s:={ s with pc:=fN }) fA U;split at Z
   ·grind [T.leaf]
   ·rename_i t2;have:=bC Z;simp only [ak] at this;obtain⟨rfl,rfl⟩:=this;rw [dY,decide_eq_true_eq,cE,hdl,ml] at t1;rw [dY,decide_eq_true_eq,cE,tK,ml] at t2;simp only [V.den] at t1 t2;refine⟨rfl,rfl,jD,⟨.string (dh (l++m)),?_,?_⟩,gp⟩
    ·have hm:IntKind.i64.max=9223372036854775807:=ae
     have:(Op.stringOp .add (dh l) (dh m)).run P w= .ok (.string (dh l++dh m)) w:=by simp only [Op.stringOp,kR,hm];rw [af J];rfl
     have e:dh l++dh m=dh (l++m):=by apply ByteArray.ext;simp [dh]
     rw [e] at this;simpa [binOp] using this
    ·refine VR.Xu (fun c hc=>?_) ?_
     ·grind
     ·simp only [V.den,fu.den,bB,hdl,tK];simp only [lA,bJ,al7]
 all_goals first
  |(simp [T.leaf] at h; done)
  |(have:=bC h
    simp only [ak] at this;obtain⟨rfl,rfl⟩:=this;refine⟨rfl,rfl,hp,?_,gp⟩;refine fin _ _ rfl (fun q hq=>?_) (fun q hq=>by simpa [binOp] using hq);simp only [VR,SB.den,mX] at hq ⊢
    first
     |(rw [heq]; exact hq)
     |(rw [FW E.ρ hdl tK]; exact hq)
     |(rw [FW E.ρ tK hdl]; rw [zP] at hq; simpa using hq))
theorem OY [bI] {tt:TT} (cJ:eA P tt) {s s':St} (r:bO E s.h w) (hp:bV E.ρ s.pc) {sT dT:Nat} {e:V} {v:W} {u:Value} (hx:VR E w.heap (.jP e) u) (h:(CN tt sT dT e s).leaf E.ρ=some (v,s')) :
 s'.bD=s.bD/\bV E.ρ s'.pc/\∃y w' E',(convert sT dT u).run P w= .ok y w'/\eT E s.h w E' s'.h w'/\bO E' s'.h w'/\VR E' w'.heap v y:=by
 unfold CN at h;split at h
 ·grind [T.leaf]
 ·rename_i j hj;split at h
  ·rename_i hjk;split at h
   ·grind [T.leaf]
   ·rename_i i hi;split at h
    ·rename_i el hik;split at h
     ·rename_i ie kX;split at h
      ·rename_i k alI;split at h
       ·obtain⟨l,rfl,hb,hd⟩:=hx.V_
        have MT:oV tt sT dT (.str l) s.h=some (.slice s.h.fresh 0 l.length (.rest 1),s.h.new (.cells (l.map fun c=> .int .u8 (.lit (Int.ofNat c))) el)):=by
         grind [oV]
        obtain⟨y,w',E',g1,g2,g3,g4⟩:=zC (P:=P) cJ r (x:=.str l) (u:=.string (dh l)) (by simp only [VR]; exact⟨trivial,hb⟩) MT;obtain⟨fN,fA,U⟩:=cH hp h;rw [iw,cE,hd,ml] at U;split at U
        ·rename_i hz;have:=bC U;simp only [ak] at this;obtain⟨rfl,rfl⟩:=this;simp only [V.den,beq_iff_eq] at hz
         grind
        ·rename_i hz;have:=bC U;simp only [ak] at this;obtain⟨rfl,rfl⟩:=this;simp only [V.den,beq_eq_false_iff_ne,ne_eq] at hz;have D6:dec (e.den E'.ρ)=lA l:=by rw [g2.ρ]; exact hd
         have U0:cL E'.ρ e 14 []=l.map fun c=>W.int .u8 (.lit (Int.ofNat c)):=by
          unfold cL;rw [D6];simp only [lA,bJ]
          have: ∀(l:List Nat) (i:Nat),bE E'.ρ (rowOf 14) [] (l.map fun b=>D.i (Int.ofNat b)) i=l.map fun c=>W.int .u8 (.lit (Int.ofNat c)):=by
           intro l
           induction l with
           |nil=>intro i; rfl
           |cons a l ih=> intro i;simp only [aw,bE,ed,ih];rfl
          grind
         have r2:=Ct (e1:=e) (t:=14) g3 (by
          rw [D6];refine⟨by simp only [lA,bJ],fun x hx=>?_,fun q=>?_⟩
          ·simp only [lA,bJ,aQ] at hx;obtain⟨b,_,rfl⟩:=hx;rfl
          ·have:=congrArg List.length q;rw [ml] at this
           exact hz (by simp at this; simp [this])) (by rw [U0]) (fun us hu=>by rw [U0]; exact hu)
         refine⟨rfl,fA,y,w',E',g1,g2.right (vR rfl rfl fun _=>rfl),r2,?_⟩;simp only [VR] at g4 ⊢;obtain⟨q1,a,cap,q2,q3,q4⟩:=g4;exact⟨q1,l.length,a,cap,by rw [cE,D6,ml],q2,q3,q4⟩
       grind [T.leaf]
      grind [T.leaf]
     grind [T.leaf]
    grind [T.leaf]
  grind [T.leaf]
end
section
variable {P:Program} {E:En} {w:World}
def IS (c:CK):Prop:=(∃k,c= .int k)\/c= .str
theorem bytes_beq (p q:ByteArray):(p == q)=decide (p=q):=by
 rw [alZ,decide_eq_true_eq];have e:(p == q)=(p.data == q.data):=rfl;rw [e,beq_iff_eq];constructor
 ·intro h; cases p; cases q; simp only at h; rw [h]
 grind
theorem yK {ro:Nat->Prop} {h:Array Obj} {c:CK} (hc:IS c) {dt:TypeDesc} (hd:Cg dt (Ln c)) {d d':D} {u u':Value} (r:Rd ro h c d u) (r':Rd ro h c d' u') :
 Instr.sameNow dt u u'=some (decide (d=d'))/\(d=d'->∀n,Instr.sameBits (n+1) u' u=true):=by
 rcases hc with ⟨k,rfl⟩|rfl
 ·simp only [Ln] at hd;obtain⟨k',rfl⟩:=hd
  cases r with
  |int _ n=>
   cases r' with
   |int _ m=>
    refine⟨?_,fun hh n=>?_⟩
    ·simp only [Instr.sameNow,D.i.injEq]
     grind
    ·simp only [D.i.injEq] at hh;subst hh;simp [Instr.sameBits]
 ·simp only [Ln] at hd;simp only [Cg] at hd;subst hd;obtain⟨a,rfl,rfl⟩:=r.string;obtain⟨b,rfl,rfl⟩:=r'.string;refine⟨?_,fun hh n=>?_⟩
  ·simp only [Instr.sameNow,bytes_beq];congr 1
   grind [EP]
  ·have:=EP hh;subst this;simp [Instr.sameBits,bytes_beq]
def Ka (P:Program):List CK->Nat->List Field->Prop
 |[],_,fs=>fs= []
 |c::cs,j,fs=> ∃f r k i,fs=f::r/\f.offset=j/\f.name≠ "_"/\c= .int k/\mw P f.type i/\i.kind= .int k/\Ka P cs (j+1) r
def aa3 (P:Program) (kt:Nat) (r:Row):Prop:=match r with
 | .one c=>IS c/\∃dt,P.underlying kt=some dt/\Cg dt (Ln c)
 | .many cs=>cs≠[]/\P.underlying kt=some (.struct (P.fieldsOf kt))/\P.stoodInHeld kt=false/\Ka P cs 0 (P.fieldsOf kt).toList
theorem HN.length {ro:Nat->Prop} {h:Array Obj} {d:D}: ∀{cs:List CK} {j:Nat} {us:List Value},HN ro h cs j d us->us.length=cs.length
 |[],_,us,hh=>by simp only [HN] at hh; rw [hh]; rfl
 |c::cs,j,us,hh=>by obtain⟨u,vs,rfl,_,h3⟩:=hh;rw [aM,aM,HN.length h3]
theorem Ra {ro:Nat->Prop} {h:Array Obj} {d d':D} (n:Nat): ∀{cs:List CK} {j:Nat} {fs:List Field} {us vs pre pre':List Value},Ka P cs j fs->HN ro h cs j d us->HN ro h cs j d' vs->pre.length=j->pre'.length=j->
 (Op.eqFields (n+1) (pre++us).toArray (pre'++vs).toArray fs).run P w= .ok (decide (∀i,i<cs.length->d.hd (j+i)=d'.hd (j+i))) w
 |[],j,fs,us,vs,pre,pre',hf,_,_,_,_=>by simp only [Ka] at hf;subst hf;simp [Op.eqFields]
 |c::cs,j,fs,us,vs,pre,pre',hf,hu,hv,hp,fy=>by
  obtain⟨f,r,k,i,rfl,ho,hn,rfl,fm,hk,hr⟩:=hf;obtain⟨u,us,rfl,Oc,Rl⟩:=hu;obtain⟨v,vs,rfl,Rk,Y!⟩:=hv;have e4:i.agg=false:=by simp [TI.agg,TK.agg,hk]
  have p1:(part f.type (pre++u::us).toArray f.offset).run P w= .ok u w:=by simp [part,kV fm,e4,ho,<- hp]
  have p2:(part f.type (pre'++v::vs).toArray f.offset).run P w= .ok v w:=by simp [part,kV fm,e4,ho,<- fy]
  have ih:=Ra (d:=d) (d':=d') (us:=us) (vs:=vs) (pre:=pre++ [u]) (pre':=pre'++ [v]) n hr Rl Y! (by simp [hp]) (by simp [fy]);rw [amf,amf] at ih;simp only [anK] at ih;simp only [Op.eqFields];rw [ag hn];generalize hx:d.hd j=x at Oc;generalize hy:d'.hd j=y at Rk
  cases Oc with
  |int _ a=>
   cases Rk with
   |int _ b=>
    simp only [Sem.run_bind,p1,p2,Result.andThen_ok,run_equalIn_int w n f.type _ _ _ _ (oF fm hk)];by_cases MX:a=b
    ·subst MX;simp only [beq_self_eq_true,amQ,aK,if_false,ih];congr 1;rw [decide_eq_decide];constructor
     ·intro q m hm
      cases m with
      |zero=>rw [a8,hx,hy]
      |succ m=>have:=q m (by simp at hm; omega); rw [show j+(m+1)=j+1+m by omega]; exact this
     ·intro q m hm;have:=q (m+1) (by simp; omega);rw [show j+(m+1)=j+1+m by omega] at this;exact this
    ·have hb:(a == b)=false:=by simpa using MX
     rw [hb];simp only [Bool.not_false,if_true,Sem.run_pure];congr 1;symm;rw [decide_eq_false_iff_not];intro q;have:=q 0 ad;rw [a8,hx,hy] at this;simp only [D.i.injEq] at this;exact MX this
theorem GO {ro:Nat->Prop} {h:Array Obj} {d:D}: ∀{cs:List CK} {j:Nat} {fs:List Field} {us vs:List Value},Ka P cs j fs->HN ro h cs j d us->HN ro h cs j d vs->us=vs
 |[],j,fs,us,vs,_,hu,hv=>by simp only [HN] at hu hv;rw [hu,hv]
 |c::cs,j,fs,us,vs,hf,hu,hv=>by
  obtain⟨f,r,k,i,rfl,ho,hn,rfl,fm,hk,hr⟩:=hf;obtain⟨u,us,rfl,Oc,Rl⟩:=hu;obtain⟨v,vs,rfl,Rk,Y!⟩:=hv;rw [GO hr Rl Y!];generalize hx:d.hd j=x at Oc Rk
  cases Oc with
  |int _ a=>
   cases Rk with
   |int _ b=>rfl
theorem GN {ro:Nat->Prop} {h:Array Obj} {d:D}: ∀{cs:List CK} {j:Nat} {fs:List Field} {us:List Value} (n:Nat),Ka P cs j fs->HN ro h cs j d us->((us.zip us).all fun (x,y)=>Instr.sameBits n x y)=true
 |[],j,fs,us,n,_,hu=>by simp only [HN] at hu;rw [hu];rfl
 |c::cs,j,fs,us,n,hf,hu=>by
  obtain⟨f,r,k,i,rfl,ho,hn,rfl,fm,hk,hr⟩:=hf;obtain⟨u,us,rfl,Oc,Rl⟩:=hu;rw [List.zip_cons_cons,anu,GN n hr Rl,Bool.and_true];generalize hx:d.hd j=x at Oc
  cases Oc with
  |int _ a=>simp [Instr.sameBits]
theorem C? {cs:List CK} {d d':D} (h:wD cs d) (h':wD cs d'):(∀i,i<cs.length->d.hd (0+i)=d'.hd (0+i))↔d=d':=by
 constructor
 ·intro q;rw [h.1,h'.1];congr 1;refine List.ext_getElem (by rw [h.2.1,h'.2.1]) fun i U Z=>?_;have:=q i (by rw [<- h.2.1]; exact U);rw [aA] at this;unfold D.hd at this;rw [aL U,aL Z] at this;simpa using this
 ·rintro rfl i _;rfl
theorem AI {ro:Nat->Prop} {h:Array Obj} {kt:Nat} {cs:List CK} (hT:aa3 P kt (.many cs)) {d d':D} {u u':Value} (r:FF ro h (.many cs) d u) (r':FF ro h (.many cs) d' u') :
 (Op.equal kt u u').run P w= .ok (decide (d=d')) w/\(d=d'->∀n,Instr.sameBits (n+1) u' u=true):=by
 obtain⟨_,t1,t2,t3⟩:=hT;obtain⟨w1,us,rfl,U⟩:=r;obtain⟨w2,vs,rfl,Z⟩:=r';refine⟨?_,fun hh n=>?_⟩
 ·have h10:(Op.maxDepth:Nat)=9998+1+1:=rfl;unfold Op.equal;rw [h10,run_equalIn_struct w (9998+1) kt _ _ t1 t2];have:=Ra (w:=w) (d:=d) (d':=d') (pre:=[]) (pre':=[]) 9998 t3 U Z rfl rfl;simp only [aC] at this;rw [this];congr 1;rw [decide_eq_decide];exact C? w1 w2
 ·subst hh;have e:=GO t3 U Z;subst e;simp only [Instr.sameBits,beq_self_eq_true,Bool.true_and];exact GN n t3 U
def ajE (ro:Nat->Prop) (h:Array Obj) (t:Nat) (ds:List D) (kd:D) (bK:List MapEntry) (u:Value) (ask:Option (Nat×Value)->Prop):Prop:=
 (eN ds kd=none/\ask none/\(∀v,jO ds kd v=ds++ [.p kd v])/\rM ds kd=ds)\/
 (∃j x e,eN ds kd=some x/\bK[j]?=some e/\FF ro h (mapOf t).2 x e.val/\ask (some (j,e.val))/\(∀n,Instr.sameBits (n+1) e.key u=true)/\(∀v,jO ds kd v=ds.set j (.p kd v))/\rM ds kd=ds.eraseIdx j)
theorem AU {ro:Nat->Prop} {h:Array Obj} {t:Nat} {kd:D} {u:Value} {ask:List MapEntry->Nat->Option (Nat×Value)->Prop} (a0: ∀i,ask [] i none) (aY: ∀e r i,(∃d',FF ro h (mapOf t).1 d' e.key/\d'=kd)->ask (e::r) i (some (i,e.val))) (aN: ∀e r i res,(∃d',FF ro h (mapOf t).1 d' e.key/\d'≠kd)->ask r (i+1) res->ask (e::r) i res)
 (aB: ∀u',FF ro h (mapOf t).1 kd u'->∀n,Instr.sameBits (n+1) u' u=true): ∀{ds:List D} {bK:List MapEntry} {i:Nat},kb ro h t ds bK->ajE ro h t ds kd bK u (fun q=>ask bK i (q.map fun p=>(i+p.1,p.2)))
 |[],bK,i,he=>by simp only [kb] at he;subst he;exact .inl ⟨rfl,a0 i,fun _=>rfl,rfl⟩
 |d::ds,bK,i,he=>by
  obtain⟨e,r,rfl,U,Z,h3,h4⟩:=he;by_cases xN:gw d=kd
  ·refine .inr ⟨0,FA d,e,by simp only [eN,ag xN],rfl,h3,?_,aB _ (xN▸Z),fun v=>by simp only [jO,ag xN,amx],by simp only [rM,ag xN,List.eraseIdx_cons_zero]⟩;exact aY e r i ⟨_,Z,xN⟩
  ·rcases AU a0 aY aN aB (i:=i+1) h4 with ⟨q1,q2,q3,q4⟩|⟨j,x,e',q1,q2,q3,q4,q5,q6,q7⟩
   ·exact .inl ⟨by simp only [eN,af xN,q1],aN e r i _ ⟨_,Z,xN⟩ q2,fun v=>by simp only [jO,af xN,q3,aO],by simp only [rM,af xN,q4]⟩
   ·refine .inr ⟨j+1,x,e',by simp only [eN,af xN,q1],by simpa using q2,q3,?_,q5,fun v=>by simp only [jO,af xN,q6,amy],by simp only [rM,af xN,q7,am1]⟩;have:=aN e r i _ ⟨_,Z,xN⟩ q4;simp only [alN] at this ⊢;rw [show i+(j+1)=i+1+j by omega];exact this
theorem Ef {ro:Nat->Prop} {h:Array Obj} {t kt:Nat} (hT:aa3 P kt (mapOf t).1) {kd:D} {u:Value} (hk:FF ro h (mapOf t).1 kd u) {ds:List D} {bK:List MapEntry} (he:kb ro h t ds bK):ajE ro h t ds kd bK u (fun q=>(Instr.findKey kt u bK).run P w= .ok q w):=by
 generalize hr:(mapOf t).1=r at hT hk
 cases r with
 |one c=>
  obtain⟨hc,dt,hu,hd⟩:=hT;have CD:Rd ro h c kd u:=hk
  have G:=AU (ro:=ro) (h:=h) (t:=t) (kd:=kd) (u:=u) (ask:=fun es i q=>Instr.findNow dt u es i=some q) (fun i=>by simp [Instr.findNow])
   (fun e r i ⟨d',U,Z⟩=>by
    rw [hr] at U;have g:=(yK hc hd CD U).1;rw [Z,decide_eq_true rfl] at g
    simp [Instr.findNow,g])
   (fun e r i res ⟨d',U,Z⟩ q=>by
    rw [hr] at U;have g:=(yK hc hd CD U).1;rw [decide_eq_false (fun e=>Z e.symm)] at g;simp only [Instr.findNow,g]
    exact q)
   (fun u' U n=>by
    rw [hr] at U
    exact (yK hc hd CD U).2 rfl n) (i:=0) he
  rcases G with ⟨q1,q2,q3,q4⟩|⟨j,x,e,q1,q2,q3,q4,q5,q6,q7⟩
  ·exact .inl ⟨q1,fB hu q2,q3,q4⟩
  ·simp only [alN,aA] at q4;exact .inr ⟨j,x,e,q1,q2,q3,fB hu q4,q5,q6,q7⟩
 |many cs=>
  have G:=AU (ro:=ro) (h:=h) (t:=t) (kd:=kd) (u:=u) (ask:=fun es i q=>(Instr.findAsking kt u es i).run P w= .ok q w) (fun i=>by simp [Instr.findAsking])
   (fun e r i ⟨d',U,Z⟩=>by
    rw [hr] at U;have g:=(AI (w:=w) hT hk U).1;rw [Z,decide_eq_true rfl] at g
    simp [Instr.findAsking,g])
   (fun e r i res ⟨d',U,Z⟩ q=>by
    rw [hr] at U;have g:=(AI (w:=w) hT hk U).1;rw [decide_eq_false (fun e=>Z e.symm)] at g;simp [Instr.findAsking,g]
    exact q)
   (fun u' U n=>by
    rw [hr] at U
    exact (AI (w:=w) hT hk U).2 rfl n) (i:=0) he
  have key: ∀q,(Instr.findAsking kt u bK 0).run P w= .ok q w->(Instr.findKey kt u bK).run P w= .ok q w:=by
   intro q hq;unfold Instr.findKey
   cases bK with
   |nil=> simp only [Instr.findAsking,Sem.run_pure] at hq;simp [run_underlying hT.2.1,Instr.findNow];simpa using hq
   |cons e r=> simp [run_underlying hT.2.1,Instr.findNow,Instr.sameNow];exact hq
  rcases G with ⟨q1,q2,q3,q4⟩|⟨j,x,e,q1,q2,q3,q4,q5,q6,q7⟩
  ·exact .inl ⟨q1,key _ q2,q3,q4⟩
  ·simp only [alN,aA] at q4;exact .inr ⟨j,x,e,q1,q2,q3,key _ q4,q5,q6,q7⟩
theorem DS {ro:Nat->Prop} {h:Array Obj} {d:D} (b:Bool) (n:Nat): ∀{cs:List CK} {j:Nat} {fs:List Field} {us pre:List Value},Ka P cs j fs->HN ro h cs j d us->pre.length=j->
 (forIn fs PUnit.unit (fun f (_:PUnit)=>(do
  if f.name≠ "_" then Instr.checkKey b (n+1) f.type (<- part f.type (pre++us).toArray f.offset)
  pure (ForInStep.yield PUnit.unit):Sem (ForInStep PUnit)))).run P w= .ok PUnit.unit w
 |[],j,fs,us,pre,hf,_,_=>by simp only [Ka] at hf;subst hf;simp
 |c::cs,j,fs,us,pre,hf,hu,hp=>by
  obtain⟨f,r,k,i,rfl,ho,hn,rfl,fm,hk,hr⟩:=hf;obtain⟨u,us,rfl,Oc,Rl⟩:=hu;have e4:i.agg=false:=by simp [TI.agg,TK.agg,hk]
  have p1:(part f.type (pre++u::us).toArray f.offset).run P w= .ok u w:=by simp [part,kV fm,e4,ho,<- hp]
  have ih:=DS (d:=d) (us:=us) (pre:=pre++ [u]) b n hr Rl (by simp [hp]);rw [amf] at ih;simp only [anK] at ih;have hc:(Instr.checkKey b (n+1) f.type u).run P w= .ok () w:=by simp [Instr.checkKey,run_underlying (oF fm hk)]
  rw [List.forIn_cons];simp only [Sem.run_bind,ag hn,p1,hc,Result.andThen_ok,Sem.run_pure];exact ih
theorem mq {ro:Nat->Prop} {h:Array Obj} {kt:Nat} {r:Row} (hT:aa3 P kt r) {d:D} {v:Value} (hk:FF ro h r d v) (b:Bool):(Instr.checkKey b 10000 kt v).run P w= .ok () w:=by
 cases r with
 |one c=> obtain⟨_,dt,hu,hd⟩:=hT;exact eG hu hd b v
 |many cs=> obtain⟨_,t1,_,t3⟩:=hT;obtain⟨_,us,rfl,U⟩:=hk;have h0:(10000:Nat)=9998+1+1:=rfl;rw [h0];have:=DS (w:=w) (pre:=[]) b 9998 t3 U rfl;simp only [aC] at this;rw [Instr.checkKey];simp only [Sem.run_bind,run_underlying t1,Result.andThen_ok];rw [<- Array.forIn_toList,this];simp
theorem kb.set {ro:Nat->Prop} {h:Array Obj} {t:Nat} {kd vd:D} {uk uv:Value} (hk:FF ro h (mapOf t).1 kd uk) (hv:FF ro h (mapOf t).2 vd uv): ∀{ds:List D} {bK:List MapEntry} {i:Nat} {e:MapEntry},kb ro h t ds bK->bK[i]?=some e->
 kb ro h t (ds.set i (.p kd vd)) (bK.set i { e with key:=uk,val:=uv })
 |[],bK,i,e,he,hi=>by simp only [kb] at he; subst he; simp at hi
 |d::ds,bK,0,e,he,hi=>by obtain⟨e0,r,rfl,U,Z,h3,h4⟩:=he;simp at hi;subst hi;simp only [amx];exact⟨_,r,rfl,rfl,hk,hv,h4⟩
 |d::ds,bK,i+1,e,he,hi=>by obtain⟨e0,r,rfl,U,Z,h3,h4⟩:=he;simp only [amy];exact⟨e0,_,rfl,U,Z,h3,kb.set hk hv h4 (by simpa using hi)⟩
theorem kb.push {ro:Nat->Prop} {h:Array Obj} {t:Nat} {kd vd:D} {uk uv:Value} {c:Nat} (hk:FF ro h (mapOf t).1 kd uk) (hv:FF ro h (mapOf t).2 vd uv): ∀{ds:List D} {bK:List MapEntry},kb ro h t ds bK->
 kb ro h t (ds++ [.p kd vd]) (bK++ [{ key:=uk,val:=uv,born:=c }])
 |[],bK,he=>by simp only [kb] at he;subst he;exact⟨_,[],rfl,rfl,hk,hv,rfl⟩
 |d::ds,bK,he=>by obtain⟨e0,r,rfl,U,Z,h3,h4⟩:=he;simp only [aO];exact⟨e0,_,rfl,U,Z,h3,kb.push hk hv h4⟩
theorem kb.erase {ro:Nat->Prop} {h:Array Obj} {t:Nat}: ∀{ds:List D} {bK:List MapEntry} {i:Nat},kb ro h t ds bK->kb ro h t (ds.eraseIdx i) (bK.eraseIdx i)
 |[],bK,i,he=>by simp only [kb] at he; subst he; simp [kb]
 |d::ds,bK,0,he=>by
  obtain⟨e0,r,rfl,U,Z,h3,h4⟩:=he
  grind
 |d::ds,bK,i+1,he=>by obtain⟨e0,r,rfl,U,Z,h3,h4⟩:=he;simp only [am1];exact⟨e0,_,rfl,U,Z,h3,kb.erase h4⟩
theorem xD {m:W} {h:Hp} {id t:Nat} {e:V} (hm:wY m h=some (id,e,t)):m= .map id/\h.get id=some (.j6 e t):=by
 unfold wY at hm
 grind
theorem G8 {tt:TT} (cJ:eA P tt): ∀{cs:List CK} {j:Nat} {fs:List (Nat×Nat×Nat)} {lZ:List Field},AT tt cs j fs=true->(lZ.mapM fun f=>(P.info? f.type).map fun i=>(f.offset,f.type,i.size))=some fs->(∀f∈lZ,f.name≠ "_")->Ka P cs j lZ
 |[],j,[],lZ,_,hm,_=>by
  cases lZ with
  |nil=>rfl
  |cons f lZ=> simp only [amq,amM,amw] at hm;obtain⟨_,_,_,_,h3⟩:=hm;simp at h3
 |[],j,_::_,lZ,h,_,_=>by simp [AT] at h
 |c::cs,j,[],lZ,h,_,_=>by simp [AT] at h
 |c::cs,j,(o,ft,z)::fs,lZ,h,hm,hn=>by
  cases lZ with
  |nil=>simp at hm
  |cons f lZ=>
   simp only [amq,amM,amw] at hm;obtain⟨p,U,ls,Z,h3⟩:=hm;simp only [pure,ah,List.cons.injEq] at h3;obtain⟨rfl,rfl⟩:=h3;rw [aP] at U;obtain⟨inf,akC,e⟩:=U;simp only [ak] at e;obtain⟨rfl,rfl,rfl⟩:=e;simp only [AT] at h;split at h
   ·rename_i ho;split at h
    ·rename_i i hi;split at h
     ·rename_i k;split at h
      ·rename_i hk;exact⟨f,lZ,k,i,rfl,aq ho,hn f ad,rfl,cJ f.type i hi,of_decide_eq_true hk,G8 cJ h Z (fun g hg=>hn g (by simp [hg]))⟩
      ·simp at h
     ·simp at h
    ·simp at h
   ·simp at h
theorem Mk {h:Array Obj} {r:Row} {v:W} {u:Value} {a:V} (hv:VR E h v u) (hc:SA r v=some a):FF E.ro h r (dec (a.den E.ρ)) u:=by
 cases r with
 |one c=>exact (mn hv hc).rd (oY hc)
 |many cs=>
  unfold SA at hc;simp only at hc;split at hc
  ·rename_i vs;simp only [VR] at hv;obtain⟨us,rfl,GV⟩:=hv;have hw:=tz (ρ:=E.ρ) hc;refine⟨hw,us,rfl,?_⟩;have hR:=tA GV hc
   have key: ∀{ks:List CK} {j:Nat} {ws:List Value},dV E.ro h ks j (dec (a.den E.ρ)) ws->(∀i c,ks[i]?=some c->oq c ((dec (a.den E.ρ)).hd (j+i)))->HN E.ro h ks j (dec (a.den E.ρ)) ws:=by
    intro ks
    induction ks with
    |nil=>intro j ws hh _; exact hh
    |cons c ks ih=>
     intro j ws hh ud;obtain⟨x,xs,rfl,g1,g2⟩:=hh
     exact⟨x,xs,rfl,g1.rd (ud 0 c rfl),ih g2 fun i c' hi=>by
      have:=ud (i+1) c' hi;rw [show j+(i+1)=j+1+i by omega] at this
      exact this⟩
   refine key hR fun i c hi=>?_;obtain⟨_,w2,w3⟩:=hw;have dS:i<cs.length:=(aX.1 hi).1;refine w3 i c _ hi ?_;unfold D.hd;rw [aA,aL J];rfl
  ·simp at hc
theorem FF.cell {h:Array Obj} {r:Row} {d:D} {u:Value} {x:V} (hh:FF E.ro h r d u) (hd:dec (x.den E.ρ)=d):VR E h (Mr r x) u:=by
 subst hd
 cases r with
 |one c=> have hh:Rd E.ro h c _ u:=hh;exact nt.2 hh.cell
 |many cs=>
  obtain⟨_,us,rfl,U⟩:=hh;simp only [Mr,VR];refine⟨us,rfl,nC.2 ?_⟩
  have key: ∀{ks:List CK} {j:Nat} {ws:List Value},HN E.ro h ks j (dec (x.den E.ρ)) ws->dV E.ro h ks j (dec (x.den E.ρ)) ws:=by
   intro ks
   induction ks with
   |nil=>intro j ws hh; exact hh
   |cons c ks ih=> intro j ws hh;obtain⟨y,ys,rfl,g1,g2⟩:=hh;exact⟨y,ys,rfl,g1.cell,ih g2⟩
  exact key U
theorem AD {tt:TT} (cJ:eA P tt) {h:Array Obj} {ty t:Nat} {k:W} {uk:Value} {a:V} {ie:TI} (hk:VR E h k uk) (hm:mapKey tt ty t k=some (a,ie)) :
 ∃kt et,P.underlying ty=some (.map kt et)/\aa3 P kt (mapOf t).1/\mw P et ie/\FF E.ro h (mapOf t).1 (dec (a.den E.ρ)) uk:=by
 unfold mapKey at hm;split at hm
 ·grind
 ·rename_i ti fm;split at hm
  ·rename_i kt et yW;split at hm
   ·grind
   ·rename_i ki Yi;split at hm
    ·rename_i sZ;split at hm
     ·grind
     ·rename_i ie' kX;split at hm
      ·grind
      ·rename_i a0 ha0;simp only [ah,ak] at hm;obtain⟨rfl,rfl⟩:=hm;have hu:=sB (cJ ty ti fm) yW;refine⟨kt,et,hu,?_,cJ et ie' kX,?_⟩
       ·generalize hr:(mapOf t).1=r at sZ
        have lM:(∃c,r= .one c/\IS c)\/∃cs,r= .many cs/\cs≠[]:=by
         rw [<- hr];unfold mapOf;split<;>first |exact .inl ⟨_,rfl,.inl ⟨_,rfl⟩⟩|exact .inl ⟨_,rfl,.inr rfl⟩|exact .inr ⟨_,rfl,ad⟩
        rcases lM with ⟨c,rfl,hc⟩|⟨cs,rfl,gp⟩
        ·simp only [XQ,decide_eq_true_eq] at sZ;refine⟨hc,?_⟩;rcases hc with ⟨q,rfl⟩|rfl
         ·exact⟨_,oF (cJ kt ki Yi) sZ,q,rfl⟩
         ·exact⟨_,fP (cJ kt ki Yi) sZ,rfl⟩
        ·simp only [XQ] at sZ;split at sZ
         ·rename_i fs hfs;split at sZ
          ·rename_i hq;have fm:=cJ kt ki Yi;have he:=fm.eqs hq;obtain⟨lZ,hu,hm⟩:=sA fm hfs;unfold RU at he;rw [hu] at he;simp only [an,al5,aW,bne_iff_ne,ne_eq] at he;obtain⟨⟨U,Z⟩,h3⟩:=he;have hf:P.fieldsOf kt=lZ:=by simp [Program.fieldsOf,hu]
           refine⟨gp,by rw [hf]; exact hu,U,?_⟩;rw [hf];exact G8 cJ sZ hm (fun f hf=>(h3 f hf).1)
          ·simp at sZ
         ·simp at sZ
       ·rw [lV,bB];exact Mk hk ha0
    ·grind
  ·grind
theorem AB [bI] {H:Hp} (r:bO E H w) {id t:Nat} {e:V} (Y:H.get id=some (.j6 e t)): ∃bK c',w.heap[(E.θ id).1]?=some (.map bK c')/\kb E.ro w.heap t (dec (e.den E.ρ)).l bK.toList:=
 (r.live id _ Y).2.1
theorem wb {ρ:Nat->Int} (e a:V):(G5 e a).den ρ=((V.op .K9 e a).den ρ == (V.lit 0).den ρ):=by
 unfold G5;split
 ·split
  ·simp only [SB.den,V.den,fu.den,bB]
   grind
  ·rfl
 ·rfl
theorem ON [bI] {tt:TT} (cJ:eA P tt) {s s':St} (r:bO E s.h w) (hp:bV E.ρ s.pc) {ty id t:Nat} {m k v:W} {e:V} {um uk:Value} {ok:Bool} (hm:VR E w.heap m um) (hk:VR E w.heap k uk) (jt:wY m s.h=some (id,e,t)) (h:(zx tt ty k ok e t s).leaf E.ρ=some (v,s')) :
 s'.bD=s.bD/\s'.h=s.h/\bV E.ρ s'.pc/\∃x,(Instr.lookup ty um uk ok).run P w= .ok x w/\VR E w.heap v x:=by
 obtain⟨rfl,Y⟩:=xD jt
 unfold zx at h;split at h
 ·grind [T.leaf]
 ·rename_i a ie hmk;obtain⟨kt,et,hu,hT,kX,T0⟩:=AD cJ hk hmk;split at h
  ·grind [T.leaf]
  ·rename_i z hz;obtain⟨u0,z1,z2⟩:=Ag (P:=P) (w:=w) (E:=E) kX hz;obtain⟨bK,c',g1,g2⟩:=AB r Y;have hg:=eF (P:=P) g1 ad;simp only [VR] at hm;obtain⟨rfl,hid⟩:=hm;have hf:=Ef (w:=w) hT T0 g2;obtain⟨fN,fA,U⟩:=cH hp h;rw [wb] at U;simp only [V.den,fu.den] at U;rcases hf with ⟨q1,q2,_,_⟩|⟨j,x,en,q1,q2,q3,q4,q5,_,_⟩
   ·rw [q1] at U;have:=bC U;simp only [ak] at this;obtain⟨rfl,rfl⟩:=this;refine⟨rfl,rfl,fA,(if ok then .tuple #[u0,.bool false] else u0),?_,?_⟩
    ·cases ok<;>simp [Instr.lookup,run_underlying hu,hg,mq hT T0,q2,z1]
    ·cases ok
     ·exact z2
     ·simp only [if_true,VR,cA];simp_all [z2,SB.den]
   ·rw [q1] at U;have:=bC U;simp only [ak] at this;obtain⟨rfl,rfl⟩:=this
    have IX:VR E w.heap (Mr (mapOf t).2 (.op .DJ e a)) en.val:=by refine q3.cell ?_;simp only [V.den,fu.den,bB,q1,ax]
    refine⟨rfl,rfl,fA,(if ok then .tuple #[en.val,.bool true] else en.val),?_,?_⟩
    ·cases ok<;>simp [Instr.lookup,run_underlying hu,hg,mq hT T0,q4]
    ·cases ok
     ·grind
     ·simp only [if_true,VR,cA]
      grind [SB.den]
theorem Ui [bI] {tt:TT} (cJ:eA P tt) {s s':St} (r:bO E s.h w) {ty id t:Nat} {m k x v:W} {e:V} {um uk ux:Value} (hm:VR E w.heap m um) (hk:VR E w.heap k uk) (hx:VR E w.heap x ux) (jt:wY m s.h=some (id,e,t)) (h:(OJ tt ty id k x e t s).leaf E.ρ=some (v,s')) :
 s'.bD=s.bD/\s'.pc=s.pc/\v=W.undef/\∃w',(Instr.mapUpdate ty um uk ux).run P w= .ok () w'/\eT E s.h w E s'.h w'/\bO E s'.h w':=by
 obtain⟨rfl,Y⟩:=xD jt
 unfold OJ at h;split at h
 ·grind [T.leaf]
 ·rename_i a ie hmk;obtain⟨kt,et,hu,hT,kX,T0⟩:=AD cJ hk hmk;split at h
  ·grind [T.leaf]
  ·rename_i b hb;have:=bC h;simp only [ak] at this;obtain⟨rfl,rfl⟩:=this;have hrx:=Mk hx hb;obtain⟨bK,c',g1,g2⟩:=AB r Y;have hg:=eF (P:=P) g1 ad;simp only [VR] at hm;obtain⟨rfl,hid⟩:=hm;refine⟨rfl,rfl,rfl,?_⟩
   have pz:dec ((V.op .xB e (eD a b)).den E.ρ)=dL (jO (dec (e.den E.ρ)).l (dec (a.den E.ρ)) (dec (b.den E.ρ))):=by simp only [eD,V.den,fu.den,bB]
   rcases Ef (w:=w) hT T0 g2 with ⟨q1,q2,q3,_⟩|⟨j,y,en,q1,q2,q3,q4,q5,q6,_⟩
   ·refine⟨_,?_,gv r Y (.j6 (.op .xB e (eD a b)) t) (.map (bK.push { key:=uk,val:=ux,born:=c' }) (c'+1)) ?_⟩
    ·simp [Instr.mapUpdate,run_underlying hu,hg,mq hT T0,q2,gA (P:=P) g1]
    ·intro h' hh kp;simp only [OR];refine⟨_,_,hh,?_⟩;rw [pz,bJ,q3,Array.toList_push];exact kb.push (T0.cf kp.ro kp.Bo) (hrx.cf kp.ro kp.Bo) (g2.cf kp.ro kp.Bo)
   ·have hkt:(Instr.keyThatStays (((bK[j]?).map (·.key)).getD uk) uk).run P w= .ok uk w:=by
     have q2':=q2;rw [alM] at q2';simp only [q2',alN,ax,Instr.keyThatStays];simp_all
    refine⟨_,?_,gv r Y (.j6 (.op .xB e (eD a b)) t) (.map (bK.modify j fun e=>{ e with key:=uk,val:=ux }) c') ?_⟩
    ·simp [Instr.mapUpdate,run_underlying hu,hg,mq hT T0,q4,hkt,gA (P:=P) g1]
    ·intro h' hh kp;simp only [OR];refine⟨_,_,hh,?_⟩;rw [pz,bJ,q6,xC bK j en _ q2];exact kb.set (T0.cf kp.ro kp.Bo) (hrx.cf kp.ro kp.Bo) (g2.cf kp.ro kp.Bo) q2
theorem Hr [bI] {tt:TT} (cJ:eA P tt) {s s':St} (r:bO E s.h w) (hp:bV E.ρ s.pc) {ty:Nat} {m k x v:W} {um uk ux:Value} (hm:VR E w.heap m um) (hk:VR E w.heap k uk) (hx:VR E w.heap x ux) (h:(Jp tt ty m k x s).leaf E.ρ=some (v,s')) :
 s'.bD=s.bD/\bV E.ρ s'.pc/\v=W.undef/\∃w' E',(Instr.mapUpdate ty um uk ux).run P w= .ok () w'/\eT E s.h w E' s'.h w'/\bO E' s'.h w':=by
 unfold Jp at h;obtain⟨vs,U,fN,E1,fA,f,q,g⟩:=pF rfl r hp h;have hρ:=f.ρ;rw [<- hρ] at fA g;have hv:=q [ux] (by simp only [cA]; exact⟨ux,[],rfl,hx,rfl⟩);split at g
 ·rename_i x1;simp only [cA] at hv;obtain⟨u1,us1,e1,hx1,e2⟩:=hv;subst e2;simp only [List.cons.injEq,and_true] at e1;subst e1;split at g
  ·rename_i id e t jt
   obtain⟨a1,a2,a3,w',a4,a5,a6⟩:=Ui cJ (s:={ s with h:=U,pc:=fN }) f.rel (VR.cf (f.dZ.keeps r) _ _ hm) (VR.cf (f.dZ.keeps r) _ _ hk) hx1 jt g;exact⟨a1,by rw [a2,<- hρ]; exact fA,a3,w',E1,a4,f.dZ.trans a5,a6⟩
  grind [T.leaf]
 grind [T.leaf]
theorem Un [bI] {tt:TT} (cJ:eA P tt) {s s':St} (r:bO E s.h w) {ty id t ts:Nat} {m k v:W} {e:V} {um uk:Value} (hm:VR E w.heap m um) (hk:VR E w.heap k uk) (jt:wY m s.h=some (id,e,t)) (h:(OU tt ty id k e t s).leaf E.ρ=some (v,s')) (tr:Nat) :
 s'.bD=s.bD/\s'.pc=s.pc/\v=W.undef/\∃w',(Builtin.delete_ #[ty,ts] tr #[um,uk]).run P w= .ok (.tuple #[]) w'/\eT E s.h w E s'.h w'/\bO E s'.h w':=by
 obtain⟨rfl,Y⟩:=xD jt
 unfold OU at h;split at h
 ·grind [T.leaf]
 ·rename_i a ie hmk;obtain⟨kt,et,hu,hT,kX,T0⟩:=AD cJ hk hmk;have:=bC h;simp only [ak] at this;obtain⟨rfl,rfl⟩:=this;obtain⟨bK,c',g1,g2⟩:=AB r Y;have hg:=eF (P:=P) g1 ad;simp only [VR] at hm;obtain⟨rfl,hid⟩:=hm;refine⟨rfl,rfl,rfl,?_⟩
  have pz:dec ((V.op .B5 e a).den E.ρ)=dL (rM (dec (e.den E.ρ)).l (dec (a.den E.ρ))):=by simp only [V.den,fu.den,bB]
  rcases Ef (w:=w) hT T0 g2 with ⟨q1,q2,_,q3⟩|⟨j,y,en,q1,q2,q3,q4,q5,_,q6⟩
  ·refine⟨_,?_,gv r Y (.j6 (.op .B5 e a) t) (.map bK c') ?_⟩
   ·simp [Builtin.delete_,run_underlying hu,hg,mq hT T0,q2,gA (P:=P) g1]
   ·intro h' hh kp;simp only [OR];refine⟨_,_,hh,?_⟩;rw [pz,bJ,q3];exact g2.cf kp.ro kp.Bo
  ·refine⟨_,?_,gv r Y (.j6 (.op .B5 e a) t) (.map (bK.eraseIdxIfInBounds j) c') ?_⟩
   ·simp [Builtin.delete_,run_underlying hu,hg,mq hT T0,q4,gA (P:=P) g1]
   ·intro h' hh kp;simp only [OR];refine⟨_,_,hh,?_⟩;have dS:j<bK.size:=by have:=(aX.1 q2).1; simpa using this
    have:(bK.eraseIdxIfInBounds j).toList=bK.toList.eraseIdx j:=by simp_all
    rw [this,pz,bJ,q6];exact kb.erase (g2.cf kp.ro kp.Bo)
end
section
variable {P:Program} {E:En} {w:World}
theorem Ei {m:W} {h:Hp} {id t:Nat} {e:V} {eX:List Nat} {ov:List (V×W)} (hm:Ej m h=some (id,e,t,eX,ov)):m= .map id/\h.get id=some (.tT e t eX ov):=by
 unfold Ej at hm;split at hm
 ·split at hm
  ·rename_i o ho;split at hm
   ·simp only [ah,ak] at hm;obtain⟨rfl,rfl,rfl,rfl,rfl⟩:=hm;exact⟨rfl,ho⟩
   ·simp at hm
  ·simp at hm
 ·simp at hm
theorem Hl {tt:TT} (cJ:eA P tt) {h:Array Obj} {ty:Nat} {k:W} {uk:Value} {x:V} {ie:TI} (hk:VR E h k uk) (hm:Jh tt ty k=some (x,ie)) :
 ∃kt et dt,P.underlying ty=some (.map kt et)/\P.underlying kt=some dt/\Cg dt (.int .i64)/\mw P et ie/\uk= .int .i64 (x.den E.ρ):=by
 unfold Jh at hm;split at hm
 ·simp at hm
 ·rename_i ti fm;split at hm
  ·rename_i kt et yW;split at hm
   ·simp at hm
   ·rename_i ki Yi;split at hm
    ·rename_i sZ;split at hm
     ·simp at hm
     ·rename_i ie' kX;split at hm
      ·split at hm
       ·rename_i kk y akB;simp only [ah,ak] at hm;obtain⟨rfl,rfl⟩:=hm;subst akB;simp only [VR] at hk;exact⟨kt,et,_,sB (cJ ty ti fm) yW,oF (cJ kt ki Yi) sZ,⟨_,rfl⟩,cJ et ie' kX,hk⟩
       ·simp at hm
      ·simp at hm
    ·simp at hm
  ·simp at hm
theorem rA (ρ:Nat->Int) (x:V):dec ((mW x).den ρ)= .i (x.den ρ):=by
 unfold mW;split
 ·simp only [V.den,bB]
 ·simp only [V.den,fu.den,bB]
theorem xR {α:Type} {ρ:Nat->Int} {x:V} {k:Option W->St->T α} {a:α}: ∀{ov:List (V×W)} {s:St},bV ρ s.pc->(te x ov s k).leaf ρ=some a->
 ∃ef,bV ρ ef/\(k (lR ρ (x.den ρ) ov) { s with pc:=ef }).leaf ρ=some a
 |[],s,hp,h=> ⟨s.pc,hp,h⟩
 |(y,v)::l,s,hp,h=>by
  simp only [te] at h;split at h
  ·rename_i he;have:=cM _ _ he;subst this;refine⟨s.pc,hp,?_⟩;simp only [lR,if_true];exact h
  ·obtain⟨fN,fA,U⟩:=cH hp h;rw [gH] at U;by_cases he:x.den ρ=y.den ρ
   ·simp only [he,beq_self_eq_true] at U;refine⟨fN,fA,?_⟩;simp only [lR,ag he.symm];exact U
   ·have hf:(x.den ρ == y.den ρ)=false:=by simp [he]
    rw [hf] at U;obtain⟨jK,jD,Z⟩:=xR (s:={ s with pc:=fN }) fA U;refine⟨jK,jD,?_⟩;simp only [lR,af (fun q=>he (Eq.symm q))];exact Z
theorem Hj {α:Type} {ρ:Nat->Int} {x:V} {v:W} {a:α}: ∀{ov:List (V×W)} {s:St} {k:Option (List (V×W))->St->T α},bV ρ s.pc->(Jg x v ov s k).leaf ρ=some a->
 ∃ef,bV ρ ef/\((lR ρ (x.den ρ) ov=none/\(k none { s with pc:=ef }).leaf ρ=some a)\/
  ∃iY,(∃u,lR ρ (x.den ρ) ov=some u)/\((∀n,lR ρ n iY=if n=x.den ρ then some v else lR ρ n ov)/\iY.map (·.1)=ov.map (·.1))/\(k (some iY) { s with pc:=ef }).leaf ρ=some a)
 |[],s,k,hp,h=> ⟨s.pc,hp,.inl ⟨rfl,h⟩⟩
 |(y,u)::l,s,k,hp,h=>by
  simp only [Jg] at h
  have here:x.den ρ=y.den ρ->(∃u',lR ρ (x.den ρ) ((y,u)::l)=some u')/\((∀n,lR ρ n ((y,v)::l)=if n=x.den ρ then some v else lR ρ n ((y,u)::l))/\((y,v)::l).map (·.1)=((y,u)::l).map (·.1)):=by
   intro he;refine⟨⟨u,by simp only [lR,ag he.symm]⟩,fun n=>?_,rfl⟩;simp only [lR];by_cases hn:n=x.den ρ
   ·rw [ag hn,ag (by rw [hn,he])]
   ·rw [af hn,af (fun q=>hn (by rw [he,q])),af (fun q=>hn (by rw [he,q]))]
  split at h
  ·rename_i he;have:=cM _ _ he;subst this;exact⟨s.pc,hp,.inr ⟨_,(here rfl).1,(here rfl).2,h⟩⟩
  ·obtain⟨fN,fA,U⟩:=cH hp h;rw [gH] at U;by_cases he:x.den ρ=y.den ρ
   ·have ht:(x.den ρ == y.den ρ)=true:=by simp [he]
    rw [ht] at U;exact⟨fN,fA,.inr ⟨_,(here he).1,(here he).2,U⟩⟩
   ·have hf:(x.den ρ == y.den ρ)=false:=by simp [he]
    rw [hf] at U;obtain⟨jK,jD,Z⟩:=Hj (s:={ s with pc:=fN }) fA U;have gp: ¬y.den ρ=x.den ρ:=fun q=>he q.symm;refine⟨jK,jD,?_⟩;rcases Z with ⟨g1,g2⟩|⟨iY,⟨u',g1⟩,⟨g2,g4⟩,g3⟩
    ·exact .inl ⟨by simp only [lR,af gp]; exact g1,g2⟩
    ·refine .inr ⟨_,⟨u',by simp only [lR,af gp]; exact g1⟩,⟨fun n=>?_,by simp only [aw,g4]⟩,g3⟩;simp only [lR];by_cases hy:y.den ρ=n
     ·rw [ag hy,ag hy,af (fun q=>gp (by rw [hy,q]))]
     ·rw [af hy,af hy,g2 n]
theorem zn {h:Array Obj} {B t:Nat} {eX:List Nat} {ov:List (V×W)} {dt:TypeDesc} (hd:Cg dt (.int .i64)) (n:Int): ∀{ds:List D} {bK:List MapEntry} {i:Nat},eP E h B t eX ov ds bK->
 (eN ds (.i n)=none/\D.i n∉ds.map gw/\Instr.findNow dt (.int .i64 n) bK i=some none/\(∀v,jO ds (.i n) v=ds++ [.p (.i n) v]))\/
 (∃j x e,eN ds (.i n)=some x/\D.i n∈ds.map gw/\bK[j]?=some e/\ds[j]?=some (.p (.i n) x)/\e.key= .int .i64 n/\(match lR E.ρ n ov with |some v=>VR E h v e.val|none=>pU E h B t eX (.i n) x e.val)/\
  Instr.findNow dt (.int .i64 n) bK i=some (some (i+j,e.val))/\(∀n',Instr.sameBits (n'+1) e.key (.int .i64 n)=true)/\(∀v,jO ds (.i n) v=ds.set j (.p (.i n) v)))
 |[],bK,i,he=>by simp only [eP] at he;subst he;exact .inl ⟨rfl,ad,by simp [Instr.findNow],fun _=>rfl⟩
 |d::ds,bK,i,he=>by
  obtain⟨e,r,m,rfl,U,Z,h3,h4⟩:=he;obtain⟨g1,g2⟩:=yK (ro:=E.ro) (h:=h) (c:=.int .i64) (.inl ⟨_,rfl⟩) hd (.int .i64 n) (.int .i64 m);have hk:gw d= .i m:=by rw [U]; rfl
  rw [<- Z] at g1 g2;by_cases xN:D.i m=D.i n
  ·have hmn:m=n:=by simpa using xN
   subst hmn;have g1':Instr.sameNow dt (.int .i64 m) e.key=some true:=by rw [g1,decide_eq_true rfl]
   refine .inr ⟨0,FA d,e,by simp only [eN,hk,if_true],by simp [hk],rfl,by rw [<- U]; rfl,Z,h3,by simp [Instr.findNow,g1'],g2 rfl,fun v=>by simp only [jO,hk,if_true,amx]⟩
  ·have g1':Instr.sameNow dt (.int .i64 n) e.key=some false:=by rw [g1,decide_eq_false (fun q=>xN q.symm)]
   have gp: ¬gw d= .i n:=by rw [hk]; exact xN
   rcases zn (i:=i+1) hd n h4 with ⟨q1,q2,q3,q4⟩|⟨j,x,e',q1,q2,q3,q4,q5,q6,q7,q8,q9⟩
   ·refine .inl ⟨by simp only [eN,af gp,q1],?_,by simp [Instr.findNow,g1',q3],fun v=>by simp only [jO,af gp,q4,aO]⟩;simp only [aw,ay,not_or];exact⟨fun q=>gp q.symm,q2⟩
   ·refine .inr ⟨j+1,x,e',by simp only [eN,af gp,q1],by simp only [aw,ay]; exact .inr q2,by simpa using q3,by simpa using q4,q5,q6,?_,q8,fun v=>by simp only [jO,af gp,q9,amy]⟩;simp only [Instr.findNow,g1',q7]; congr 3; omega
theorem Ix {ρ:Nat->Int} {n:Int} {v:W}: ∀{ov:List (V×W)},lR ρ n ov=some v->n∈ov.map fun p=>p.1.den ρ
 |[],h=>by simp [lR] at h
 |(x,u)::l,h=>by
  simp only [lR] at h;simp only [aw,ay];split at h
  ·rename_i he; exact .inl he.symm
  ·exact .inr (Ix h)
theorem Iw {ρ:Nat->Int} {n:Int}: ∀{ov:List (V×W)},lR ρ n ov=none->n∉ov.map fun p=>p.1.den ρ
 |[],_=>by simp
 |(x,u)::l,h=>by
  simp only [lR] at h;simp only [aw,ay,not_or];split at h
  ·simp at h
  ·rename_i he; exact⟨fun q=>he q.symm,Iw h⟩
theorem Aa.at {ρ:Nat->Int} {ds:List D} {ov:List (V×W)} (h:Aa ρ ds ov) {n:Int} {v:W} (hv:lR ρ n ov=some v):D.i n∈ds.map gw:=by obtain⟨p,hp,he⟩:=aQ.1 (Ix hv);rw [<- he];exact h.2.1 p hp
theorem zo [bI] {H:Hp} (r:bO E H w) {id t:Nat} {e:V} {eX:List Nat} {ov:List (V×W)} (Y:H.get id=some (.tT e t eX ov)) :
 Aa E.ρ (dec (e.den E.ρ)).l ov/\∃bK c',w.heap[(E.θ id).1]?=some (.map bK c')/\eP E w.heap (E.θ id).1 t eX ov (dec (e.den E.ρ)).l bK.toList:=
 (r.live id _ Y).2.1
theorem OM [bI] {tt:TT} (cJ:eA P tt) {s s':St} (r:bO E s.h w) (hp:bV E.ρ s.pc) {ty id t:Nat} {eX:List Nat} {ov:List (V×W)} {m k v:W} {e:V} {um uk:Value} {ok:Bool} (hm:VR E w.heap m um) (hk:VR E w.heap k uk) (jt:Ej m s.h=some (id,e,t,eX,ov)) (h:(zw tt ty k ok e ov s).leaf E.ρ=some (v,s')) :
 s'.bD=s.bD/\s'.h=s.h/\bV E.ρ s'.pc/\∃x,(Instr.lookup ty um uk ok).run P w= .ok x w/\VR E w.heap v x:=by
 obtain⟨rfl,Y⟩:=Ei jt
 unfold zw at h;split at h
 ·simp [T.leaf] at h
 ·rename_i x ie hmk;obtain⟨kt,et,dt,hu,xO,kc,kX,rfl⟩:=Hl cJ hk hmk;split at h
  ·simp [T.leaf] at h
  ·rename_i z hz;obtain⟨u0,z1,z2⟩:=Ag (P:=P) (w:=w) (E:=E) kX hz;obtain⟨g0,bK,c',g1,g2⟩:=zo r Y;have hg:=eF (P:=P) g1 ad;simp only [VR] at hm;obtain⟨rfl,hid⟩:=hm;have hf:=zn (i:=0) kc (x.den E.ρ) g2;obtain⟨fN,fA,U⟩:=xR hp h
   cases ho:lR E.ρ (x.den E.ρ) ov with
   |some v1=>
    rw [ho] at U;have:=bC U;simp only [ak] at this;obtain⟨rfl,rfl⟩:=this;rcases hf with ⟨q1,q2,_,_⟩|⟨j,y,en,q1,q2,q3,_,_,q6,q7,_,_⟩
    ·exact absurd (g0.at ho) q2
    ·rw [ho] at q6;refine⟨rfl,rfl,fA,(if ok then .tuple #[en.val,.bool true] else en.val),?_,?_⟩
     ·cases ok<;>simp [Instr.lookup,run_underlying hu,hg,eG xO kc,fB xO q7]
     ·cases ok
      ·exact q6
      ·simp only [if_true,VR,cA];exact⟨[en.val,.bool true],rfl,_,_,rfl,q6,_,_,rfl,by simp [SB.den],rfl⟩
   |none=>
    rw [ho] at U;obtain⟨jK,jD,Z⟩:=cH fA U;rw [wb] at Z;simp only [V.den,fu.den,rA] at Z;rcases hf with ⟨q1,_,q2,_⟩|⟨j,y,en,q1,_⟩
    ·rw [q1] at Z;have:=bC Z;simp only [ak] at this;obtain⟨rfl,rfl⟩:=this;refine⟨rfl,rfl,jD,(if ok then .tuple #[u0,.bool false] else u0),?_,?_⟩
     ·cases ok<;>simp [Instr.lookup,run_underlying hu,hg,eG xO kc,fB xO q2,z1]
     ·cases ok
      ·exact z2
      ·simp only [if_true,VR,cA];exact⟨[u0,.bool false],rfl,_,_,rfl,z2,_,_,rfl,by simp [SB.den],rfl⟩
    ·rw [q1] at Z;simp [T.leaf] at Z
theorem ym [bI] {H:Hp} (r:bO E H w) {id:Nat} {o:dM} (Y:H.get id=some o) (ao:dM) (o':Obj)
 (ho: ∀h',h'[(E.θ id).1]?=some o'->fC E w.heap E h'->(∀B key,HdK E w.heap E h' B key)->OR E h' id ao) :
 eT E H w E (H.put id ao) { w with heap:=w.heap.setIfInBounds (E.θ id).1 o' }/\bO E (H.put id ao) { w with heap:=w.heap.setIfInBounds (E.θ id).1 o' }:=by
 have fW:=gf r Y
 have lD: ∀b,b≠(E.θ id).1->({ w with heap:=w.heap.setIfInBounds (E.θ id).1 o' }:World).heap[b]?=w.heap[b]?:=fun b hb=>by
  grind
 refine Du r Y ao ad lD ⟨rfl,rfl,rfl⟩ (ho _ ?_ (kz r Y lD) fun B key=>r.UZ rfl (fun b _ hn=>lD b fun e=>hn id o Y e.symm) B key)
 grind
theorem eP.set {h:Array Obj} {B t:Nat} {eX:List Nat} {ov iY:List (V×W)} {n:Int} {v:W} {ux:Value} (hx:VR E h v ux) (hv: ∀m,lR E.ρ m iY=if m=n then some v else lR E.ρ m ov): ∀{ds:List D} {bK:List MapEntry} {j:Nat} {e:MapEntry},
 (ds.map gw).Nodup->eP E h B t eX ov ds bK->bK[j]?=some e->e.key= .int .i64 n->eP E h B t eX iY ds (bK.set j { e with key:=.int .i64 n,val:=ux })
 |[],bK,j,e,_,he,hj,_=>by simp only [eP] at he; subst he; simp at hj
 |d::ds,bK,0,e,lG,he,hj,hk=>by
  obtain⟨e0,r,m,rfl,U,Z,h3,h4⟩:=he;simp at hj;subst hj;have hm:m=n:=by rw [Z] at hk; simpa using hk
  subst hm;simp only [amx];refine⟨_,r,m,rfl,U,rfl,?_,?_⟩
  ·rw [hv,ag rfl]; exact hx
  ·simp only [aw,al0] at lG;have hk:gw d= .i m:=by rw [U]; rfl
   rw [hk] at lG;exact eP.other hv lG.1 h4
 |d::ds,bK,j+1,e,lG,he,hj,hk=>by
  obtain⟨e0,r,m,rfl,U,Z,h3,h4⟩:=he;simp only [amy];simp only [aw,al0] at lG;have Fx:gw d= .i m:=by rw [U]; rfl
  have GZ:r[j]?=some e:=by simpa using hj
  refine⟨e0,_,m,rfl,U,Z,?_,eP.set hx hv lG.2 h4 GZ hk⟩
  have gp:m≠n:=by rintro rfl;rw [Fx] at lG;exact lG.1 (eP.Cv h4 GZ hk)
  rw [hv,af gp];exact h3
where
 eP.other {h:Array Obj} {B t:Nat} {eX:List Nat} {ov iY:List (V×W)} {n:Int} {v:W} (hv: ∀m,lR E.ρ m iY=if m=n then some v else lR E.ρ m ov): ∀{ds:List D} {bK:List MapEntry},D.i n∉ds.map gw->eP E h B t eX ov ds bK->eP E h B t eX iY ds bK
 |[],_,_,he=>he
 |d::ds,_,hn,⟨e0,r,m,h0,U,Z,h3,h4⟩=>by
  simp only [aw,ay,not_or] at hn;have Fx:gw d= .i m:=by rw [U]; rfl
  rw [Fx] at hn;refine⟨e0,r,m,h0,U,Z,?_,eP.other hv hn.2 h4⟩;rw [hv,af (fun q=>hn.1 (by rw [q]))];exact h3
 eP.Cv {h:Array Obj} {B t:Nat} {eX:List Nat} {ov:List (V×W)} {n:Int}: ∀{ds:List D} {bK:List MapEntry} {j:Nat} {e:MapEntry},eP E h B t eX ov ds bK->bK[j]?=some e->e.key= .int .i64 n->D.i n∈ds.map gw
 |[],bK,j,e,he,hj,_=>by simp only [eP] at he; subst he; simp at hj
 |d::ds,bK,0,e,he,hj,hk=>by
  obtain⟨e0,r,m,rfl,U,Z,h3,h4⟩:=he;simp at hj;subst hj;rw [Z] at hk;have hm:m=n:=by simpa using hk
  subst hm;rw [U];simp [gw]
 |d::ds,bK,j+1,e,he,hj,hk=>by obtain⟨e0,r,m,rfl,U,Z,h3,h4⟩:=he;simp only [aw,ay];exact .inr (eP.Cv h4 (by simpa using hj) hk)
theorem eP.push {h:Array Obj} {B t:Nat} {eX:List Nat} {ov iY:List (V×W)} {n:Int} {v:W} {ux:Value} {c:Nat} {x:D} (hx:VR E h v ux) (hv: ∀m,lR E.ρ m iY=if m=n then some v else lR E.ρ m ov): ∀{ds:List D} {bK:List MapEntry},D.i n∉ds.map gw->eP E h B t eX ov ds bK->
 eP E h B t eX iY (ds++ [.p (.i n) x]) (bK++ [{ key:=.int .i64 n,val:=ux,born:=c }])
 |[],bK,_,he=>by simp only [eP] at he;subst he;refine⟨_,[],n,rfl,rfl,rfl,?_,rfl⟩;rw [hv,ag rfl]; exact hx
 |d::ds,bK,hn,he=>by
  obtain⟨e0,r,m,rfl,U,Z,h3,h4⟩:=he;simp only [aw,ay,not_or] at hn;have Fx:gw d= .i m:=by rw [U]; rfl
  rw [Fx] at hn;simp only [aO];refine⟨e0,_,m,rfl,U,Z,?_,eP.push hx hv hn.2 h4⟩;rw [hv,af (fun q=>hn.1 (by rw [q]))];exact h3
theorem BM [bI] {tt:TT} (cJ:eA P tt) {s s':St} (r:bO E s.h w) (hp:bV E.ρ s.pc) {ty id t:Nat} {eX:List Nat} {ov:List (V×W)} {m k x v:W} {e:V} {um uk ux:Value} (hm:VR E w.heap m um) (hk:VR E w.heap k uk) (hx:VR E w.heap x ux) (jt:Ej m s.h=some (id,e,t,eX,ov)) (h:(zu tt ty id k x e t eX ov s).leaf E.ρ=some (v,s')) :
 s'.bD=s.bD/\bV E.ρ s'.pc/\v=W.undef/\∃w',(Instr.mapUpdate ty um uk ux).run P w= .ok () w'/\eT E s.h w E s'.h w'/\bO E s'.h w':=by
 obtain⟨rfl,Y⟩:=Ei jt
 unfold zu at h;split at h
 ·simp [T.leaf] at h
 ·rename_i a ie hmk;obtain⟨kt,et,dt,hu,xO,kc,kX,rfl⟩:=Hl cJ hk hmk;obtain⟨g0,bK,c',g1,g2⟩:=zo r Y;have hg:=eF (P:=P) g1 ad;simp only [VR] at hm;obtain⟨rfl,hid⟩:=hm;have hf:=zn (i:=0) kc (a.den E.ρ) g2;obtain⟨fN,fA,U⟩:=Hj hp h;rcases U with ⟨ho,U⟩|⟨iY,⟨u',ho⟩,⟨hv,Lw⟩,U⟩
  ·obtain⟨jK,jD,Z⟩:=cH fA U;rw [wb] at Z;simp only [V.den,fu.den,rA] at Z;rcases hf with ⟨q1,q0,q2,q3⟩|⟨j,y,en,q1,_⟩
   ·rw [q1] at Z;have:=bC Z;simp only [ak] at this;obtain⟨rfl,rfl⟩:=this;refine⟨rfl,jD,rfl,_,?_,ym r Y (.tT (.op .xB e (eD (mW a) (.ep (.i 0)))) t eX ((a,x)::ov)) (.map (bK.push { key:=.int .i64 (a.den E.ρ),val:=ux,born:=c' }) (c'+1)) ?_⟩
    ·simp [Instr.mapUpdate,run_underlying hu,hg,eG xO kc,fB xO q2,gA (P:=P) g1]
    ·intro h' hh kp hk
     have pz:dec ((V.op .xB e (eD (mW a) (.ep (.i 0)))).den E.ρ)=dL (jO (dec (e.den E.ρ)).l (.i (a.den E.ρ)) (.i 0)):=by simp only [eD,V.den,fu.den,bB,rA]
     have ss: ∀m,lR E.ρ m ((a,x)::ov)=if m=a.den E.ρ then some x else lR E.ρ m ov:=by
      intro m;simp only [lR];by_cases hm:a.den E.ρ=m
      ·rw [ag hm,ag hm.symm]
      ·rw [af hm,af (fun q=>hm q.symm)]
     simp only [OR];rw [pz,bJ,q3];refine⟨⟨?_,fun p hp=>?_,?_⟩,_,_,hh,?_⟩
     ·rw [al7,amC];refine⟨g0.1,ad,fun p hp q hq=>?_⟩;simp only [aw,amt,amP] at hq;rw [hq];intro eq;rw [eq] at hp;exact q0 hp
     ·rw [al7,alO];rcases ay.1 hp with rfl|hp
      ·exact .inr (by simp [gw])
      ·exact .inl (g0.2.1 p hp)
     ·simp only [aw,al0];exact⟨Iw ho,g0.2.2⟩
     ·rw [Array.toList_push];exact eP.push (VR.cf kp _ _ hx) ss q0 (g2.cf kp fun _ _=>hk _ _)
   ·rw [q1] at Z;simp [T.leaf] at Z
  ·have:=bC U;simp only [ak] at this;obtain⟨rfl,rfl⟩:=this;rcases hf with ⟨_,q2,_,_⟩|⟨j,y,en,q1,q2,q3,q4,q5,q6,q7,q8,q9⟩
   ·exact absurd (g0.at ho) q2
   ·simp only [aA] at q7
    have hkt:(Instr.keyThatStays (((bK[j]?).map (·.key)).getD (.int .i64 (a.den E.ρ))) (.int .i64 (a.den E.ρ))).run P w= .ok (.int .i64 (a.den E.ρ)) w:=by have q3':=q3;rw [alM] at q3';simp only [q3',alN,ax,Instr.keyThatStays];rw [ag (q8 9999)];rfl
    refine⟨rfl,fA,rfl,_,?_,ym r Y (.tT e t eX iY) (.map (bK.modify j fun e=>{ e with key:=.int .i64 (a.den E.ρ),val:=ux }) c') ?_⟩
    ·simp [Instr.mapUpdate,run_underlying hu,hg,eG xO kc,fB xO q7,hkt,gA (P:=P) g1]
    ·intro h' hh kp hk;simp only [OR];refine⟨⟨g0.1,fun p hp=>?_,?_⟩,_,_,hh,?_⟩
     ·have:p.1∈iY.map (·.1):=aQ.2 ⟨p,hp,rfl⟩;rw [Lw] at this;obtain⟨q,hq,he⟩:=aQ.1 this;rw [<- he];exact g0.2.1 q hq
     ·have U:(iY.map fun p=>p.1.den E.ρ)=(iY.map (·.1)).map fun x=>x.den E.ρ:=by rw [aml]; rfl
      rw [U,Lw,aml];exact g0.2.2
     ·rw [xC bK j en _ q3];exact eP.set (VR.cf kp _ _ hx) hv g0.1 (g2.cf kp fun _ _=>hk _ _) q3 q5
end
section
variable {P:Program} {E:En} {w:World}
theorem XG [bI] {tt:TT} (cJ:eA P tt) {H:Hp} (r:bO E H w) {t e k:Nat} {i ie:TI} {k1 k2:IntKind} (hi:tt t=some i) (hk:i.kind= .slice e) (kX:tt e=some ie) (hz0:ie.zero.length=ie.size) (wZ:0<ie.size) (ri:ie.bytes≠0) (D7:ie.bytes*k<=140737488355328) (lK:0<k) :
 ∃x w' E',(Instr.makeSlice t (.int k1 k) (.int k2 k)).run P w= .ok x w'/\eT E H w E' (H.new (.cells (dO ie.zero k) e)) w'/\bO E' (H.new (.cells (dO ie.zero k) e)) w'/\VR E' w'.heap (.slice H.fresh 0 k (.rest ie.size)) x:=by
 have fm:=cJ t i hi;have X3:=cJ e ie kX;obtain⟨inf,z,g1,g2,g3,g4,g5⟩:=vY X3;have hz:=eU (E:=E) (h:=w.heap) g5;have vZ:z.cells.size=ie.size:=by have:=hz.1.length; simp only [bn] at this; omega
 have hkb:k<=140737488355328:=by refine bk ?_ D7;exact Nat.le_mul_of_pos_left _ J
 have wn:IntKind.i64.wrap (k:Int)=(k:Int):=by rw [<- kH]; simp only [rY]; rw [ag (by constructor<;>omega)]
 have ai: ∀(q:IntKind) (x:Int) (w:World),(asInt (Value.int q x)).run P w= .ok x w:=fun _ _ _=>rfl
 have gp:z.cells.toList≠[]:=by
  intro hx;have UT:z.cells.size=0:=by have:=congrArg List.length hx; simpa using this
  omega
 have hzz:=uf z.cells gp k;rw [vZ] at hzz;obtain⟨gF,e1⟩ : ∃gF:Array Value,((Array.range (k*inf.size)).map (z.cells[·% z.cells.size]!))=gF:=⟨_,rfl⟩
 have e1':gF.toList=dO z.cells.toList k:=by
  grind
 have e2:cA E w.heap (dO ie.zero k) gF.toList:=by rw [e1']; exact mf hz.1 k
 have e3: ∀u∈gF.toList,u.oneCell'=true:=by rw [e1']; intro u hu; exact hz.2 u (me hu)
 have ik:gF.size=k*ie.size:=by rw [<- bn,e1',jc,bn,vZ]
 refine⟨.slice (some ⟨w.heap.size,0,none⟩) k k,{ w with heap:=w.heap.push (.cells gF e) },E.ext H.fresh (w.heap.size,0) gF.size,?_,?_⟩
 ·have t1: ¬((k:Int)<0):=J
  have t2: ¬((inf.bytes:Int)*(k:Int) > 2 ^ 48):=by
   grind
  have t4: ¬((k:Int) > (k:Int)):=J
  have t5:(askRoom (k*inf.bytes)).run P w= .ok () w:=by
   have: ¬(k*inf.bytes > roomBytes):=by
    unfold roomBytes
    grind
   unfold askRoom;rw [af this];rfl
  have t6:(k:Int).toNat=k:=rfl
  have h0: ¬(k*inf.size=0):=by rw [g2];have:=amO lK wZ;omega
  simp only [Instr.makeSlice,Sem.run_bind,run_underlying (ff fm hk),Result.andThen_ok,ai,sizeOf,typeInfo,zeroValue,run_program,g1,g4,Sem.run_pure,newRow,Sem.run_ite,wn,t1,t2,t4,t6,h0,decide_false,am0,aK,if_false];rw [t5,Result.andThen_ok,e1];rfl
 ·obtain⟨s1,s2⟩:=iQ r gF 0 0 e e2 e3 (fun i u hu=>by rw [<- alM]; exact hu) J (w':={ w with heap:=w.heap.push (.cells gF e) }) rfl ⟨rfl,rfl,rfl⟩;refine⟨s1,s2,?_⟩;simp only [VR];refine⟨En.gC _ _ _ _,⟨w.heap.size,0,none⟩,k,rfl,au _,?_⟩;simp only [eQ,En.ext_θ_new,En.ext_κ_new]
  grind
theorem OL [bI] {tt:TT} (cJ:eA P tt) {s s':St} (r:bO E s.h w) (hp:bV E.ρ s.pc) {t:Nat} {l c v:W} {lu cu:Value} (Y:VR E w.heap l lu) (hc:VR E w.heap c cu) (h:(Jr tt t l c s).leaf E.ρ=some (v,s')) :
 s'.bD=s.bD/\bV E.ρ s'.pc/\∃x w' E',(Instr.makeSlice t lu cu).run P w= .ok x w'/\eT E s.h w E' s'.h w'/\bO E' s'.h w'/\VR E' w'.heap v x:=by
 unfold Jr at h;split at h
 ·rename_i k n;split at h
  ·rename_i k2 n2;split at h
   ·simp [T.leaf] at h
   ·rename_i hnn;have hnn:=cM _ _ hnn;subst hnn;simp only [VR] at Y hc;subst Y hc;split at h
    ·simp [T.leaf] at h
    ·rename_i i hi;split at h
     ·simp [T.leaf] at h
     ·rename_i o ho;split at h
      ·rename_i e hk;split at h
       ·simp [T.leaf] at h
       ·rename_i ie kX;split at h
        ·simp [T.leaf] at h
        ·rename_i z hz;split at h
         ·rename_i jl;obtain⟨lE,wZ,ri,vZ⟩:=jl;obtain⟨fN,fA,U⟩:=cH hp h;split at U
          ·simp [T.leaf] at U
          ·rename_i t1;obtain⟨jK,jD,Z⟩:=cH (s:={ s with pc:=fN }) fA U;split at Z
           ·rename_i t2;split at Z
            ·rename_i v0 h0 hm;have:=bC Z;simp only [ak] at this;obtain⟨rfl,rfl⟩:=this;rw [iw,beq_iff_eq] at t2;simp only [V.den] at t2;rw [t2];obtain⟨x,w',E',q1,q2,q3,q4⟩:=vb (P:=P) cJ r (lu:=.int k 0) (cu:=.int k2 0) (by simp only [VR,V.den]) (by simp only [VR,V.den]) hm
             grind
            ·simp [T.leaf] at Z
           ·rename_i t2;obtain⟨UR,IZ,h3⟩:=cH (s:={ s with pc:=jK }) jD Z;split at h3
            ·rename_i t3;have:=bC h3;simp only [ak] at this;obtain⟨rfl,rfl⟩:=this;rw [dY,decide_eq_false_iff_not] at t1;rw [iw,beq_eq_false_iff_ne] at t2;rw [dY,decide_eq_true_eq] at t3;simp only [V.den] at t1 t2 t3;obtain⟨m,hm⟩ : ∃m:Nat,n.den E.ρ=(m:Int):=⟨(n.den E.ρ).toNat,J⟩;rw [hm] at t2 t3 ⊢;have lK:0<m:=J
             have D7:ie.bytes*m<=140737488355328:=by
              unfold qN at t3
              have U:m<=140737488355328 / ie.bytes:=by
               grind
              exact bk (Nat.mul_le_mul_left _ U) (Nat.mul_div_le _ _)
             obtain⟨x,w',E',q1,q2,q3,q4⟩:=XG (P:=P) (k1:=k) (k2:=k2) cJ r hi hk kX vZ wZ ri D7 lK;have hρ:=q2.ρ
             have hd:dec ((V.op .rep n z).den E'.ρ)=dL (List.replicate m (dec (z.den E'.ρ))):=by
              have:n.den E'.ρ=(m:Int):=by rw [hρ]; exact hm
              simp only [V.den,fu.den,bB,this,bp]
             have hlen:(dec ((V.op .rep n z).den E'.ρ)).l.length=m:=by rw [hd,bJ,amj]
             have hwz:pS (rowOf o) (dec (z.den E'.ρ)):=tw hz
             have CF:(cL E'.ρ (.op .rep n z) o []).length=(dO ie.zero m).length:=by unfold cL;rw [cF (ku _),hlen,jc,vZ,lE]
             have aeY: ∀(q:Nat) (us:List Value),cA E' w'.heap (dO ie.zero q) us->cA E' w'.heap (bE E'.ρ (rowOf o) [] (List.replicate q (dec (z.den E'.ρ))) 0) us:=by
              intro q
              induction q with
              |zero=>intro us h; exact h
              |succ q ih=> intro us h;simp only [dO] at h;obtain⟨us1,us2,rfl,a,b⟩:=cA.split h;simp only [ans,bE,ed];rw [kI _ 1 0];refine cA.append ?_ (ih _ b);rw [gm];simp only [V.den,bB];exact tx a hz
             have r2:=Ct (e1:=.op .rep n z) (t:=o) q3 ⟨by rw [hd,bJ],fun d D6=>by
              rw [hd,bJ] at D6;rw [anJ D6]
              exact hwz,fun hq=>by rw [hq] at hlen; simp at hlen; omega⟩ CF (fun us hu=>by
              unfold cL;rw [hd,bJ]
              exact aeY m us hu)
             refine⟨rfl,IZ,x,w',E',q1,q2.right (vR rfl rfl fun _=>rfl),r2,?_⟩;simp only [VR] at q4 ⊢;obtain⟨p1,a,cap,p2,p3,p4⟩:=q4;refine⟨p1,m,a,cap,by rw [cE,hlen],p2,p3,?_⟩
             grind
            ·simp [T.leaf] at h3
         ·simp [T.leaf] at h
      ·simp [T.leaf] at h
  ·simp [T.leaf] at h
 ·simp [T.leaf] at h
end
theorem JZ {α β:Type} (f:α->β) (xs:Array α):xs.map f=(xs.toList.map f).toArray:=by
 grind
def n6 (P:Program) (R:Value->World->Prop):Result Next->Prop
 | .ok (.value u) w'=>R u w'
 | .ok (.enter f args) w'=>Calls P f args w' fun e w''=> ∃u,e= .returned u/\R u w''
 |_=>False
def lQ (P:Program) (g:FuncId) (vals:Array Value) (w:World) (R:Value->World->Prop):Prop:=n6 P R ((callFunc g vals).run P w)
def j9 [bI] (P:Program) (g:FuncId) (f:List W->St->T (W×St)):Prop:=
 ∀(args:List W) (s:St) (E:En) (w:World) (vals:List Value) (v:W) (s':St),bO E s.h w->cA E w.heap args vals->bV E.ρ s.pc->(f args s).leaf E.ρ=some (v,s')->
  s'.bD=s.bD/\bV E.ρ s'.pc/\lQ P g vals.toArray w (MM E s w v s')
theorem yO {E:En} {h:Array Obj} {k:Nat} {e:V} {i:Nat} (he:e.den E.ρ=(i:Int)): ∀(ks:List IntKind) (j:Nat),
 cA E h (uM k e ks j) ((ks.zipIdx j).map fun p=> .int p.1 (E.ρ (1000+i*64+(k*8+p.2))))
 |[],j=>by simp [uM,cA]
 |kd::ks,j=>by simp only [uM,List.zipIdx_cons,aw];rw [bT];refine⟨_,_,rfl,?_,yO he ks (j+1)⟩;simp only [VR,V.den,he,bp]
theorem OP {P:Program} {E:En} {w:World} {tt:TT} (cJ:eA P tt) {pc:List (SB×Bool)} (hp:bV E.ρ pc) {t k:Nat} {ks:List IntKind} {ix v:W} {u ui:Value} (hx:VR E w.heap (.wI k ks) u) (yX:VR E w.heap ix ui)
 (h:Js tt pc t k ks ix=some v): ∃r,(Instr.indexAt t u ui).run P w= .ok r w/\VR E w.heap v r:=by
 unfold Js at h;split at h
 ·rename_i kd e;split at h
  ·rename_i ti fm;split at h
   ·rename_i el hk;have hu:=ff (cJ t ti fm) hk;split at h
    ·rename_i s hs;simp only [iB,aP] at hs;obtain⟨ie,kX,rfl⟩:=hs;split at h
     ·rename_i hc;split at h
      ·rename_i U Z;simp at h;subst h;have U:=gD hp U;have Z:=gD hp Z;rw [dY,decide_eq_false_iff_not] at U;rw [dY,decide_eq_true_eq] at Z;simp only [V.den,amr] at U Z;simp only [VR] at hx yX;subst yX;rcases hx with ⟨⟨x,cap,rfl⟩,h0⟩|⟨b,o,n,cap,rfl,g1,g2,g3,g4⟩
       ·omega
       ·obtain⟨i,hi⟩ : ∃i:Nat,e.den E.ρ=(i:Int):=⟨(e.den E.ρ).toNat,J⟩;have wK:i<n:=J
        refine⟨.pointer (some ⟨b,o+i*ie.size,none⟩),?_,?_⟩
        ·rw [hi];simp [Instr.indexAt,asIntOf,run_underlying hu,ey (cJ el ie kX),wK,e9]
        ·simp only [VR];refine⟨b,_,_,rfl,g3,yO hi ks 0,?_,?_⟩
         ·intro j u hj
          grind
         ·intro u hu';rw [aQ] at hu';obtain⟨p,_,rfl⟩:=hu';rfl
      grind
     grind
    grind
   grind
  grind
 grind
def qOp (q:Bool):BinOp:=match q with
 |true=> .quo
 |false=> .rem
def O? (q:Bool) (k:IntKind) (x y:Int):Int:=match q with
 |true=>k.wrap (x.tdiv y)
 |false=>x.tmod y
theorem O! {E:En} {s s':St} {q:Bool} {k:IntKind} {e d:V} {v:W} (hp:bV E.ρ s.pc) (h:(aer s q k e d).leaf E.ρ=some (v,s')) :
 s'.bD=s.bD/\s'.h=s.h/\bV E.ρ s'.pc/\d.den E.ρ≠0/\∀h,VR E h v (.int k (O? q k (e.den E.ρ) (d.den E.ρ))):=by
 unfold aer at h;obtain⟨ef,fy,h3⟩:=cH hp h;rw [gH] at h3;split at h3
 ·grind [T.leaf]
 ·rename_i he;simp only [T.leaf,ah,ak] at h3;obtain⟨rfl,rfl⟩:=h3;simp only [V.den,beq_eq_false_iff_ne,ne_eq] at he;exact⟨rfl,rfl,fy,he,fun h=>by cases q<;>simp only [VR,V.den,O?]⟩
theorem Tw {E:En} {h:Array Obj} {op:BinOp} {a b:W} {q:Bool} {k:IntKind} {e d:V} (hr:NP op a b=some (q,k,e,d)) {u u':Value} (ha:VR E h a u) (hb:VR E h b u') :
 op=qOp q/\u= .int k (e.den E.ρ)/\u'= .int k (d.den E.ρ):=by
 unfold NP at hr;split at hr
 ·rename_i q' hq
  have py:op=qOp q':=by split at hq<;>simp only [ah,reduceCtorEq] at hq<;>subst hq<;>rfl
  cases a with
  |int k1 e1=>
   cases b with
   |int k2 e2=>
    simp only at hr;split at hr
    ·simp at hr
    ·split at hr
     ·rename_i hc;simp only [ah,ak] at hr;obtain⟨rfl,rfl,rfl,rfl⟩:=hr;simp only [VR] at ha hb;exact⟨py,ha,by rw [hb,hc]⟩
     ·simp at hr
   |_=>simp at hr
  |_=>simp at hr
 ·simp at hr
theorem FN {E:En} {X7:Array Obj} {s s':St} {h:Option W} {hh:Option Value} {v:W} {k:Option W->St->T (W×St)} (hp:bV E.ρ s.pc) (ho:gq E X7 h hh) (H:(HV s h k).leaf E.ρ=some (v,s')) :
 ∃ef h',bV E.ρ ef/\gq E X7 h' hh/\(k h' { s with pc:=ef }).leaf E.ρ=some (v,s'):=by
 unfold HV at H;split at H
 ·rename_i e;obtain⟨ef,fy,h3⟩:=cH hp H;rw [gH] at h3;split at h3
  ·rename_i he;simp only [V.den,beq_iff_eq] at he;obtain⟨u,rfl,hu⟩:=ho;simp only [VR] at hu;refine⟨ef,some (.int .i64 (.lit 0)),fy,?_,h3⟩;exact⟨u,rfl,by simp only [VR,V.den]; rw [hu,he]⟩
  ·simp [T.leaf] at h3
 ·exact⟨s.pc,_,hp,ho,H⟩
def iq [bI] (P:Program) (call:ei):Prop:= ∀g,j9 P g (call g)
theorem oP.next {P:Program} {o:Oper} {a:Act} {w:World} {R:Value->World->Prop} (h:n6 P R ((execOp a.eval o).run P w)):oP P o a w R:=by
 intro K Q hk;unfold Oper.wp;generalize (execOp a.eval o).run P w=r at h
 cases r with
 |halt x w'=>exact h.elim
 |ok n w'=>
  cases n<;>first
   |exact h.elim
   |exact hk _ _ h
   |(exact Calls.mono h fun e w'' ⟨u,he,hr⟩=>by subst he; exact hk _ _ hr)
theorem E7 {tt:TT} {t n:Nat} {ix:W} {e:V} (h:SH tt t ix=some (n,e)): ∃k ti el ie,ix= .int k e/\tt t=some ti/\ti.kind= .array n el/\tt el=some ie/\ie.size=1/\ie.agg=false:=by
 unfold SH at h;split at h
 all_goals grind
section
variable {P:Program} {E:En} {w:World} {s s':St} {o:Oper} {a:Act} {v:W}
theorem JB [bI] {tt:TT} (cJ:eA P tt) (r:bO E s.h w) (hp:bV E.ρ s.pc) {b:Builtin} {ts:List Nat} {args:List W} {vals:List Value} (hv:cA E w.heap args vals) (ty:Nat) (cs:Array Bool)
 (h:(wq tt s b ts args).leaf E.ρ=some (v,s')):s'.bD=s.bD/\bV E.ρ s'.pc/\∃u w',(builtin b ts.toArray ty cs vals.toArray).run P w= .ok (.value u) w'/\MM E s w v s' u w':=by
 unfold wq at h;split at h
 ·rename_i t x;obtain⟨e1,rfl⟩:=gM h;rw [bT] at hv;obtain⟨u,vs,rfl,hx,mR⟩:=hv;rw [ia] at mR;subst mR;obtain⟨y,U,Z⟩:=YJ (ty:=ty) cJ r hx e1;exact⟨rfl,hp,y,w,by simp [builtin,U],E,eT.refl _ _ _,r,Z⟩
 ·rename_i t t2 id lo n t' y;rw [bT] at hv;obtain⟨u,vs,rfl,hx,mR⟩:=hv;rw [bT] at mR;obtain⟨u2,vs,rfl,hy,GU⟩:=mR;rw [ia] at GU;subst GU;split at h
  ·rename_i hz;obtain⟨q1,q2,z,w',E',U,Z,h3,h4⟩:=L3 (ty:=ty) cJ r hp hz hx hy h;exact⟨q1,q2,z,w',by simp [builtin,U],E',Z,h3,h4⟩
  grind [T.leaf]
 ·rename_i t t2 x y _;rw [bT] at hv;obtain⟨u,vs,rfl,hx,mR⟩:=hv;rw [bT] at mR;obtain⟨u2,vs,rfl,hy,GU⟩:=mR;rw [ia] at GU;subst GU;split at h
  ·rename_i aad;obtain⟨q1,q2,z,w',E',U,Z,h3,h4⟩:=JD (ty:=ty) cJ r hp hx hy (fun hd=>by rw [hd,am0] at aad; exact Lo hx aad) h;exact⟨q1,q2,z,w',by simp [builtin,U],E',Z,h3,h4⟩
  obtain⟨H,e1,rfl⟩:=pg h;obtain⟨z,w',E',U,Z,h3,h4⟩:=L2 (ty:=ty) cJ r hx hy e1;exact⟨rfl,hp,z,w',by simp [builtin,U],E',Z,h3,h4⟩
 ·rename_i t ts' m k;rw [bT] at hv;obtain⟨u,vs,rfl,hx,mR⟩:=hv;rw [bT] at mR;obtain⟨u2,vs,rfl,hy,GU⟩:=mR;rw [ia] at GU;subst GU;split at h
  ·rename_i id e t' jt
   obtain⟨q1,q2,rfl,w',U,Z,h3⟩:=Un (ts:=ts') cJ r hx hy jt h ty;exact⟨q1,by rw [q2]; exact hp,.tuple #[],w',by simp [builtin,U],E,Z,h3,by simp only [W.undef,VR,cA]; exact⟨[],rfl,rfl⟩⟩
  obtain⟨ef,fy,h⟩:=qd hp h;obtain⟨H,e1,rfl,rfl⟩:=yy h;obtain⟨w',U,Z,h3⟩:=L1 (ts:=ts') cJ fy r hx hy e1 ty;exact⟨rfl,fy,.tuple #[],w',by simp [builtin,U],E,Z,h3,by simp only [W.undef,VR,cA]; exact⟨[],rfl,rfl⟩⟩
 ·rename_i t id n t';rw [bT] at hv;obtain⟨u,vs,rfl,hx,mR⟩:=hv;rw [ia] at mR;subst mR;obtain⟨q1,q2,rfl,w',E',U,Z,h3⟩:=BN (ty:=ty) cJ r hp (PH hx) h;exact⟨q1,q2,.tuple #[],w',by simp [builtin,U],E',Z,h3,by simp only [W.undef,VR,cA]; exact⟨[],rfl,rfl⟩⟩
 ·rename_i t id lo n t';rw [bT] at hv;obtain⟨u,vs,rfl,hx,mR⟩:=hv;rw [ia] at mR;subst mR;obtain⟨q1,q2,rfl,w',E',U,Z,h3⟩:=BN (ty:=ty) cJ r hp hx h;exact⟨q1,q2,.tuple #[],w',by simp [builtin,U],E',Z,h3,by simp only [W.undef,VR,cA]; exact⟨[],rfl,rfl⟩⟩
 ·rename_i t x _ _;obtain⟨H,e1,rfl,rfl⟩:=yy h;rw [bT] at hv;obtain⟨u,vs,rfl,hx,mR⟩:=hv;rw [ia] at mR;subst mR;obtain⟨w',U,Z,h3⟩:=OX (ty:=ty) cJ r hx e1;exact⟨rfl,hp,.tuple #[],w',by simp [builtin,U],E,Z,h3,by simp only [W.undef,VR,cA]; exact⟨[],rfl,rfl⟩⟩
 ·rename_i k e xs;rw [bT] at hv;obtain⟨u,vs,rfl,hx,mR⟩:=hv;simp only [VR] at hx;subst hx;obtain⟨q1,q2,q3,u,q4,q5⟩:=nk (P:=P) (w:=w) hp mR h;refine⟨q2,q3,u,w,?_,E,by rw [q1]; exact eT.refl _ _ _,by rw [q1]; exact r,q5⟩;simp only [aK,if_false] at q4;simp [builtin,Builtin.min_,q4]
 ·rename_i k e xs;rw [bT] at hv;obtain⟨u,vs,rfl,hx,mR⟩:=hv;simp only [VR] at hx;subst hx;obtain⟨q1,q2,q3,u,q4,q5⟩:=nk (P:=P) (w:=w) hp mR h;refine⟨q2,q3,u,w,?_,E,by rw [q1]; exact eT.refl _ _ _,by rw [q1]; exact r,q5⟩;simp only [if_true] at q4;simp [builtin,Builtin.max_,q4]
 grind [T.leaf]
theorem Uo [bI] {tt:TT} (cJ:eA P tt) {call:ei} (hc:iq P call) (r:bO E s.h w) (sr:SR E w.heap s.bD a) (hp:bV E.ρ s.pc) {c:Call} (ho:o.op= .call c)
 (h:(JA tt call s c).leaf E.ρ=some (v,s')):jS P E s o a w v s':=by
 unfold JA at h;split at h
 ·grind [T.leaf]
 ·rename_i args ace;have hv:=Ji sr ace;have aiA:c.args.map a.eval=(c.args.toList.map a.eval).toArray:=JZ _ _;split at h
  ·rename_i b ae7;obtain⟨q1,q2,u,w',q3,q4⟩:=JB cJ r hp hv o.type (c.args.map fun| .const _=>true|_=>false) h;refine⟨q1,q2,oP.value ?_ q4⟩;simp only [execOp,ho,resolve,ae7,Sem.run_bind,Sem.run_pure,Result.andThen_ok,invoke,aiA];exact q3
  ·rename_i f ae7;split at h
   ·rename_i g fs cs hf;have hfv:=gk sr hf;simp only [VR] at hfv;obtain⟨us,ws,he,U,Z⟩:=hfv;obtain⟨q1,q2,q3⟩:=hc g _ s E w _ v s' r ((U.append hv).append Z) hp h;refine⟨q1,q2,oP.next ?_⟩;unfold lQ at q3;simp only [execOp,ho,resolve,ae7,Sem.run_bind,he,Deferred.ofValue,Sem.run_pure,Result.andThen_ok,invoke,aiA]
    grind
   grind [T.leaf]
  grind [T.leaf]
theorem d_ [bI] {α:Type} {E:En} {h:Array Obj} {v:W} {u:Value} {s:St} {k:W->St->T α} {r:α} (hp:bV E.ρ s.pc) (hv:VR E h v u) (Y:(d! v s k).leaf E.ρ=some r) :
 ∃v' ef,bV E.ρ ef/\VR E h v' u/\(k v' { s with pc:=ef }).leaf E.ρ=some r:=by
 unfold d! at Y;split at Y
 ·split at Y
  ·exact⟨_,s.pc,hp,hv,Y⟩
  ·obtain⟨fN,fA,U⟩:=cH hp Y;refine⟨_,fN,fA,?_,U⟩;simp only [VR,SB.den] at *;exact hv
 ·exact⟨_,s.pc,hp,hv,Y⟩
theorem RP [bI] {tt:TT} (cJ:eA P tt) {call:ei} (hc:iq P call) (r:bO E s.h w) (sr:SR E w.heap s.bD a) (hp:bV E.ρ s.pc) (h:(Jq tt call s o.op).leaf E.ρ=some (v,s')):jS P E s o a w v s':=by
 obtain⟨dst,op,type,pos,after,guard⟩:=o;simp only at h;cases op<;>simp only [Jq] at h<;>first |(simp [T.leaf] at h; done)|skip
 case move x=>
  obtain⟨u,U,Z⟩:=gB sr h;have:=bC Z;simp only [ak] at this;obtain⟨rfl,rfl⟩:=this;exact jS.pure hp r (u:=a.eval x) rfl U
 case assign x=>
  obtain⟨u,U,Z⟩:=gB sr h;have:=bC Z;simp only [ak] at this;obtain⟨rfl,rfl⟩:=this;exact jS.pure hp r (u:=a.eval x) rfl U
 case pick c x y=>
  obtain⟨cv,U,Z⟩:=gB sr h;split at Z
  ·rename_i cb;obtain⟨ef,fy,h3⟩:=cH hp Z;simp only [VR] at U;cases Ry:cb.den E.ρ<;>rw [Ry] at U h3
   ·simp only [aK,if_false] at h3;obtain⟨u,h4,h5⟩:=gB (s:={ s with pc:=ef }) sr h3;have:=bC h5;simp only [ak] at this;obtain⟨rfl,rfl⟩:=this;exact⟨rfl,fy,oP.value (u:=a.eval y) (by simp [execOp,U,asBool]) ⟨E,eT.refl _ _ _,r,h4⟩⟩
   ·simp only [if_true] at h3;obtain⟨u,h4,h5⟩:=gB (s:={ s with pc:=ef }) sr h3;have:=bC h5;simp only [ak] at this;obtain⟨rfl,rfl⟩:=this;exact⟨rfl,fy,oP.value (u:=a.eval x) (by simp [execOp,U,asBool]) ⟨E,eT.refl _ _ _,r,h4⟩⟩
  ·simp [T.leaf] at Z
 case alloc t=>
  split at h
  ·rename_i i hi;have:=bC h;simp only [ak] at this;obtain⟨rfl,rfl⟩:=this;obtain⟨inf,z,g1,g2,g3,g4,g5⟩:=vY (cJ t i hi);have hz:=eU (E:=E) (h:=w.heap) g5;obtain⟨s1,s2⟩:=iQ r z.cells 0 0 t hz.1 hz.2 (fun i u hu=>by rw [<- alM]; exact hu) J (w':={ w with heap:=w.heap.push (.cells z.cells t) }) rfl ⟨rfl,rfl,rfl⟩;exact jS.heap hp (u:=.pointer (some ⟨w.heap.size,0,none⟩)) (by simp [execOp,Instr.alloc,zeroValue,typeInfo,g1,g4,newVar,newRow]) s1 s2 (yB r _ _ 0)
  ·simp [T.leaf] at h
 case box t x=>
  obtain⟨u,U,Z⟩:=gB sr h;split at Z
  ·rename_i wJ;have:=bC Z;simp only [ak] at this;obtain⟨rfl,rfl⟩:=this;have MT:=U.cells wJ;obtain⟨s1,s2⟩:=iQ r (a.eval x).cells 0 0 t MT (MT.rH wJ) (fun i u hu=>by rw [<- alM]; exact hu) J (w':={ w with heap:=w.heap.push (.cells (a.eval x).cells t) }) rfl ⟨rfl,rfl,rfl⟩;exact jS.heap hp (u:=.pointer (some ⟨w.heap.size,0,none⟩)) (by simp [execOp,Instr.box,newVar,newRow]) s1 s2 (yB r _ _ 0)
  ·simp [T.leaf] at Z
 case build t parts=>
  split at h
  ·rename_i ps hps;obtain⟨e1,rfl⟩:=gM h;have hpr:=xT sr hps;obtain⟨x,U,Z⟩:=OZ (w:=w) (ps:=parts.map fun p=>(p.1,a.eval p.2)) cJ (by simpa using hpr) e1;exact jS.pure hp r (u:=x) (by simp [execOp,U]) Z
  ·simp [T.leaf] at h
 case buildSlice t len parts=>
  split at h
  ·rename_i ps hps;obtain⟨H,e1,rfl⟩:=pg h;have hpr:=xT sr hps;obtain⟨x,w',E',U,Z,h3,h4⟩:=B7 (ps:=parts.map fun p=>(p.1,a.eval p.2)) cJ r (by simpa using hpr) e1;exact jS.heap hp (u:=x) (by simp [execOp,U]) Z h3 h4
  ·simp [T.leaf] at h
 case makeSlice t l c=>
  obtain⟨u,U,Z⟩:=gB sr h;split at Z
  ·rename_i cv hc;split at Z
   ·rename_i q hq;obtain⟨H,e1,rfl⟩:=pg Z;simp only [ah] at e1;subst e1;obtain⟨x,w',E',g1,g2,g3,g4⟩:=vb cJ r U (gk sr hc) hq;exact jS.heap hp (u:=x) (by simp [execOp,g1]) g2 g3 g4
   ·obtain⟨q1,q2,x,w',E',g1,g2,g3,g4⟩:=OL cJ r hp U (gk sr hc) Z;exact⟨q1,q2,oP.value (by simp [execOp,g1]) ⟨E',g2,g3,g4⟩⟩
  ·simp [T.leaf] at Z
 case insert t m k x=>
  obtain⟨u,U,Z⟩:=gB sr h;split at Z
  ·rename_i kv xv hk hx;split at Z
   ·obtain⟨q1,q2,rfl,w',E',g1,g2,g3⟩:=Hr (P:=P) cJ r hp U (gk sr hk) (gk sr hx) Z;exact⟨q1,q2,oP.skip (by simp [execOp,g1]) ⟨E',g2,g3,kf⟩⟩
   split at Z
   ·rename_i jt
    obtain⟨q1,q2,rfl,w',g1,g2,g3⟩:=BM (P:=P) cJ r hp U (gk sr hk) (gk sr hx) jt Z;exact⟨q1,q2,oP.skip (by simp [execOp,g1]) ⟨E,g2,g3,kf⟩⟩
   obtain⟨ef,fy,Z⟩:=qd hp Z;obtain⟨H,e1,rfl,rfl⟩:=yy Z;obtain⟨w',g1,g2,g3⟩:=va cJ fy r U (gk sr hk) (gk sr hx) e1;exact⟨rfl,fy,oP.skip (by simp [execOp,g1]) ⟨E,g2,g3,kf⟩⟩
  ·simp [T.leaf] at Z
 case load t x=>
  obtain⟨u,U,Z⟩:=gB sr h;split at Z
  ·obtain⟨q1,q2,q3,y,b,off,g1,g2,g3⟩:=OO cJ r hp U Z;exact⟨q1,q3,oP.value (u:=y) (by simp [execOp,Instr.loadAt,g1,Instr.sureAddr,g2]) ⟨E,by rw [q2]; exact eT.refl _ _ _,by rw [q2]; exact r,g3⟩⟩
  obtain⟨e1,rfl⟩:=gM Z;obtain⟨y,b,off,g1,g2,g3⟩:=A0 cJ r U e1;exact jS.pure hp r (u:=y) (by simp [execOp,Instr.loadAt,g1,Instr.sureAddr,g2]) g3
 case store t x y=>
  obtain⟨u,U,Z⟩:=gB sr h;split at Z
  ·rename_i yv hy;obtain⟨yv',ef,fy,Ob,Z⟩:=d_ hp (gk sr hy) Z;split at Z
   ·obtain⟨q1,q2,rfl,w',E',g1,g2,g3⟩:=LW cJ (s:={ s with pc:=ef }) r fy U Ob Z;exact⟨q1,q2,oP.skip (by simp [execOp,g1]) ⟨E',g2,g3,kf⟩⟩
   obtain⟨H,e1,rfl,rfl⟩:=yy Z;obtain⟨w',g1,g2,g3⟩:=OH cJ r U Ob e1;exact⟨rfl,fy,oP.skip (by simp [execOp,g1]) ⟨E,g2,g3,kf⟩⟩
  ·simp [T.leaf] at Z
 case nilCheck x=>
  obtain⟨u,U,Z⟩:=gB sr h;split at Z
  ·have:=bC Z;simp only [ak] at this;obtain⟨rfl,rfl⟩:=this;have RB:=U;simp only [VR] at U;exact jS.pure hp r (u:=a.eval x) (by simp [execOp,U.1]) RB
  ·have:=bC Z;simp only [ak] at this;obtain⟨rfl,rfl⟩:=this;have RB:=U;simp only [VR] at U;obtain⟨b,off,us,hu,_⟩:=U;exact jS.pure hp r (u:=a.eval x) (by simp [execOp,hu]) RB
  ·have:=bC Z;simp only [ak] at this;obtain⟨rfl,rfl⟩:=this;have RB:=U;simp only [VR] at U;obtain⟨_,k,_,hu⟩:=U;exact jS.pure hp r (u:=a.eval x) (by simp [execOp,hu]) RB
  ·simp [T.leaf] at Z
 case binOp bop t x y yt=>
  obtain⟨u,U,Z⟩:=gB sr h;split at Z
  ·rename_i yv hy;have Ob:=gk sr hy;split at Z
   ·rename_i xs;simp only [VR] at U;obtain⟨us,GW,U⟩:=U;split at Z
    ·rename_i ys;simp only [VR] at Ob;obtain⟨vs,GV,Ob⟩:=Ob;split at Z
     ·rename_i c U0;have:=bC Z;simp only [ak] at this;obtain⟨rfl,rfl⟩:=this;obtain⟨g1,g2,g3⟩:=EA (w:=w) cJ U Ob U0 .eql x y;exact jS.pure hp r (u:=.bool (c.den E.ρ)) (by simp [execOp,GW,GV,g1,g2]) (by simp only [VR])
     ·simp [T.leaf] at Z
    ·rename_i ys;simp only [VR] at Ob;obtain⟨vs,GV,Ob⟩:=Ob;split at Z
     ·rename_i c U0;have:=bC Z;simp only [ak] at this;obtain⟨rfl,rfl⟩:=this;obtain⟨g1,g2,g3⟩:=EA (w:=w) cJ U Ob U0 .neq x y;exact jS.pure hp r (u:=.bool (!(c.den E.ρ))) (by simp [execOp,GW,GV,g1,g3]) (by simp only [VR,mX])
     ·simp [T.leaf] at Z
    ·simp [T.leaf] at Z
   ·split at Z
    ·rename_i e hna;obtain⟨q1,q2,q3,y',g1,g2,g3,g4⟩:=U! (P:=P) (w:=w) cJ hna U Ob hp Z;exact⟨q1,q3,oP.value (u:=y') (by simp [execOp,vf (P:=P) (w:=w) g3 g4,g1]) ⟨E,by rw [q2]; exact eT.refl _ _ _,by rw [q2]; exact r,g2⟩⟩
    split at Z
    ·rename_i qq k e d hrl;obtain⟨rfl,Oc,Rl⟩:=Tw hrl U Ob;obtain⟨q1,q2,q3,gp,q4⟩:=O! hp Z;refine⟨q1,q3,oP.value (u:=.int k (O? qq k (e.den E.ρ) (d.den E.ρ))) (w':=w) ?_ ⟨E,by rw [q2]; exact eT.refl _ _ _,by rw [q2]; exact r,q4 _⟩⟩;cases qq<;>simp [execOp,Oc,Rl,binOp,Op.intDiv,gp,eqGuard,O?,qOp]
    split at Z
    ·rename_i x' y' hsp;obtain⟨q1,q2,q3,⟨y'',g1,g2⟩,g3,g4⟩:=Uh (P:=P) (w:=w) (t:=t) hp U Ob hsp Z;exact⟨q1,q3,oP.value (u:=y'') (by simp [execOp,vf (P:=P) (w:=w) g3 g4,g1]) ⟨E,by rw [q2]; exact eT.refl _ _ _,by rw [q2]; exact r,g2⟩⟩
    ·obtain⟨e1,rfl⟩:=gM Z;obtain⟨⟨y',g1,g2⟩,g3,g4⟩:=YL (w:=w) cJ U Ob e1;exact jS.pure hp r (u:=y') (by simp [execOp,vf (P:=P) (w:=w) g3 g4,g1]) g2
  ·simp [T.leaf] at Z
 case unOp uop t x=>
  obtain⟨u,U,Z⟩:=gB sr h;obtain⟨e1,rfl⟩:=gM Z;obtain⟨y,g1,g2⟩:=aaw (P:=P) (w:=w) U e1;exact jS.pure hp r (u:=y) (by simp [execOp,g1]) g2
 case convert sT dT x=>
  obtain⟨u,U,Z⟩:=gB sr h;split at Z
  ·obtain⟨q1,q2,y,w',E',g1,g2,g3,g4⟩:=OY (P:=P) cJ r hp U Z;exact⟨q1,q2,oP.value (u:=y) (by simp [execOp,g1]) ⟨E',g2,g3,g4⟩⟩
  obtain⟨H,e1,rfl⟩:=pg Z;obtain⟨y,w',E',g1,g2,g3,g4⟩:=zC cJ r U e1;exact jS.heap hp (u:=y) (by simp [execOp,g1]) g2 g3 g4
 case makeFunc fn fs cs=>
  split at h
  ·rename_i f c hf MU;have:=bC h;simp only [ak] at this;obtain⟨rfl,rfl⟩:=this;have U:=Ji sr hf;have Z:=Ji sr MU;refine jS.pure hp r (u:=.func fn (fs.map a.eval) (cs.map a.eval)) (by simp [execOp,Instr.makeFunc]) ?_;simp only [VR];have m1:fs.map a.eval=(fs.toList.map a.eval).toArray:=JZ _ _;have m2:cs.map a.eval=(cs.toList.map a.eval).toArray:=JZ _ _;exact⟨_,_,by rw [m1,m2],U,Z⟩
  ·simp [T.leaf] at h
 case makeMap t res=>
  split at h
  ·split at h
   ·rename_i m hm;split at h
    ·have:=bC h;simp only [ak] at this;obtain⟨rfl,rfl⟩:=this
     obtain⟨s1,s2⟩:=pj r (.map #[] 0) (.tT (.ep (.i 0)) (m-100) (YI tt t) []) 0 (w':={ w with heap:=w.heap.push (.map #[] 0) }) rfl ⟨rfl,rfl,rfl⟩ (by
      simp only [OR,En.ext_θ_new]
      exact⟨⟨by simp [V.den,bB,D.l],ad,ad⟩,#[],0,ad,by simp [eP,V.den,bB,D.l]⟩)
     exact jS.heap hp (u:=.map (some w.heap.size)) (by simp [execOp,Instr.makeMap]) s1 s2 (by simp only [VR,En.ext_θ_new]; exact⟨trivial,En.gC _ _ _ _⟩)
    have:=bC h;simp only [ak] at this;obtain⟨rfl,rfl⟩:=this
    obtain⟨s1,s2⟩:=pj r (.map #[] 0) (.j6 (.ep (.i 0)) m) 0 (w':={ w with heap:=w.heap.push (.map #[] 0) }) rfl ⟨rfl,rfl,rfl⟩ (by
     simp only [OR,En.ext_θ_new]
     exact⟨#[],0,ad,by simp [kb,V.den,bB,D.l]⟩)
    exact jS.heap hp (u:=.map (some w.heap.size)) (by simp [execOp,Instr.makeMap]) s1 s2 (by simp only [VR,En.ext_θ_new]; exact⟨trivial,En.gC _ _ _ _⟩)
   have:=bC h;simp only [ak] at this;obtain⟨rfl,rfl⟩:=this
   obtain⟨s1,s2⟩:=pj r (.map #[] 0) (.map [] 1) 0 (w':={ w with heap:=w.heap.push (.map #[] 0) }) rfl ⟨rfl,rfl,rfl⟩ (by
    simp only [OR,En.ext_θ_new]
    exact⟨#[],0,ad,by simp [eI],rfl,rfl⟩)
   exact jS.heap hp (u:=.map (some w.heap.size)) (by simp [execOp,Instr.makeMap]) s1 s2 (by simp only [VR,En.ext_θ_new]; exact⟨trivial,En.gC _ _ _ _⟩)
  ·simp [T.leaf] at h
 case slice t x lo hi mx=>
  obtain⟨u,U,Z⟩:=gB sr h;split at Z
  ·rename_i l hh m Y hhh hm;split at Z
   ·obtain⟨q1,q2,q3,y,g1,g2⟩:=OV (w:=w) cJ hp U (ez sr Y) (ez sr hhh) (ez sr hm) Z;exact⟨q1,q3,oP.value (u:=y) (by simp [execOp,g1]) ⟨E,by rw [q2]; exact eT.refl _ _ _,by rw [q2]; exact r,g2⟩⟩
   ·obtain⟨q1,q2,q3,y,g1,g2⟩:=Ep cJ r hp (PH U) (ez sr Y) (ez sr hhh) (ez sr hm) Z;exact⟨q1,q3,oP.value (u:=y) (by simp [execOp,g1]) ⟨E,by rw [q2]; exact eT.refl _ _ _,by rw [q2]; exact r,g2⟩⟩
   ·obtain⟨q1,q2,q3,y,g1,g2⟩:=Ep cJ r hp U (ez sr Y) (ez sr hhh) (ez sr hm) Z;exact⟨q1,q3,oP.value (u:=y) (by simp [execOp,g1]) ⟨E,by rw [q2]; exact eT.refl _ _ _,by rw [q2]; exact r,g2⟩⟩
   ·obtain⟨q1,q2,q3,y,g1,g2⟩:=OE (w:=w) cJ hp U (ez sr Y) (ez sr hhh) (ez sr hm) Z;exact⟨q1,q3,oP.value (u:=y) (by simp [execOp,g1]) ⟨E,by rw [q2]; exact eT.refl _ _ _,by rw [q2]; exact r,g2⟩⟩
   ·obtain⟨q1,q2,q3,y,g1,g2⟩:=OS (w:=w) cJ hp U (ez sr Y) (ez sr hhh) (ez sr hm) Z;exact⟨q1,q3,oP.value (u:=y) (by simp [execOp,g1]) ⟨E,by rw [q2]; exact eT.refl _ _ _,by rw [q2]; exact r,g2⟩⟩
   ·obtain⟨ef,h',fy,yU,h3⟩:=FN hp (ez sr hhh) Z;obtain⟨e1,rfl⟩:=gM h3;obtain⟨y,g1,g2⟩:=xS (w:=w) cJ U (ez sr Y) yU (ez sr hm) e1;exact⟨rfl,fy,oP.value (u:=y) (by simp [execOp,g1]) ⟨E,eT.refl _ _ _,r,g2⟩⟩
   ·obtain⟨ef,h',fy,yU,h3⟩:=FN hp (ez sr hhh) Z;obtain⟨e1,rfl⟩:=gM h3;obtain⟨y,g1,g2⟩:=xS (w:=w) cJ U (ez sr Y) yU (ez sr hm) e1;exact⟨rfl,fy,oP.value (u:=y) (by simp [execOp,g1]) ⟨E,eT.refl _ _ _,r,g2⟩⟩
   split at Z
   ·rename_i v' e1;have:=bC Z;simp only [ak] at this;obtain⟨rfl,rfl⟩:=this;obtain⟨y,g1,g2⟩:=xS (w:=w) cJ U (ez sr Y) (ez sr hhh) (ez sr hm) e1;exact jS.pure hp r (u:=y) (by simp [execOp,g1]) g2
   ·obtain⟨e1,rfl⟩:=gM Z;obtain⟨y,g1,g2⟩:=LX (w:=w) cJ r U (ez sr Y) (ez sr hhh) (ez sr hm) e1;exact jS.pure hp r (u:=y) (by simp [execOp,g1]) g2
  ·simp [T.leaf] at Z
 case fieldAddr t x f=>
  obtain⟨u,U,Z⟩:=gB sr h;obtain⟨e1,rfl⟩:=gM Z;obtain⟨y,g1,g2⟩:=Ez (w:=w) cJ U e1;exact jS.pure hp r (u:=y) (by simp [execOp,g1]) g2
 case field t x f=>
  obtain⟨u,U,Z⟩:=gB sr h;obtain⟨e1,rfl⟩:=gM Z;obtain⟨y,g1,g2⟩:=OQ (w:=w) cJ U e1;exact jS.pure hp r (u:=y) (by simp [execOp,g1]) g2
 case indexAddr t x i=>
  obtain⟨u,U,Z⟩:=gB sr h;split at Z
  ·rename_i iv hi;split at Z
   ·obtain⟨e1,rfl⟩:=gM Z;obtain⟨y,g1,g2⟩:=OP (w:=w) cJ hp U (gk sr hi) e1;exact jS.pure hp r (u:=y) (by simp [execOp,g1]) g2
   ·obtain⟨q1,q2,q3,y,g1,g2⟩:=OW (w:=w) cJ hp U (gk sr hi) Z;exact⟨q1,q3,oP.value (u:=y) (by simp [execOp,g1]) ⟨E,by rw [q2]; exact eT.refl _ _ _,by rw [q2]; exact r,g2⟩⟩
   ·obtain⟨q1,q2,q3,y,g1,g2⟩:=OD (w:=w) cJ hp U (gk sr hi) Z;exact⟨q1,q3,oP.value (u:=y) (by simp [execOp,g1]) ⟨E,by rw [q2]; exact eT.refl _ _ _,by rw [q2]; exact r,g2⟩⟩
   ·obtain⟨q1,q2,q3,y,g1,g2⟩:=OC (w:=w) cJ hp U (gk sr hi) Z;exact⟨q1,q3,oP.value (u:=y) (by simp [execOp,g1]) ⟨E,by rw [q2]; exact eT.refl _ _ _,by rw [q2]; exact r,g2⟩⟩
   ·rename_i pid po;split at Z
    ·rename_i n e hb;split at Z
     ·rename_i ho;subst ho;obtain⟨kd,ti,el,ie,rfl,b1,b2,b3,b4,b5⟩:=E7 hb;obtain⟨ef,fy,t1,t2,h3⟩:=nw hp Z;have:=bC h3;simp only [ak] at this;obtain⟨rfl,rfl⟩:=this;have hiv:=gk sr hi;simp only [VR] at hiv;simp only [V.den] at t2;obtain⟨k,hk⟩ : ∃k:Nat,e.den E.ρ=(k:Int):=⟨(e.den E.ρ).toNat,J⟩;have fW:k<n:=by simp at t2; omega
      rw [hk] at hiv
      obtain⟨y,g1,g2⟩:=pI (P:=P) (w:=w) cJ (t:=t) (ix:=.int kd (.lit (Int.ofNat k))) U (by simp only [VR,V.den]; exact hiv) (v:=.ptr pid (0+k*ie.size)) (by
       unfold nV;simp only [ky,b1,b2,iB,b3,alN];rw [ag fW]
       rfl)
      refine⟨rfl,fy,oP.value (u:=y) (by simp [execOp,g1]) ⟨E,eT.refl _ _ _,r,?_⟩⟩;simp only [VR] at g2 ⊢;exact⟨g2.2,k,hk,by rw [g2.1,b4]; congr 3; omega⟩
     ·simp [T.leaf] at Z
    ·obtain⟨ix',ef,fy,yX,Z⟩:=zV hp (gk sr hi) Z;obtain⟨e1,rfl⟩:=gM Z;obtain⟨y,g1,g2⟩:=pI (w:=w) cJ U yX e1;exact⟨rfl,fy,oP.value (u:=y) (by simp [execOp,g1]) ⟨E,eT.refl _ _ _,r,g2⟩⟩
   ·obtain⟨ix',ef,fy,yX,Z⟩:=zV hp (gk sr hi) Z;obtain⟨e1,rfl⟩:=gM Z;obtain⟨y,g1,g2⟩:=pI (w:=w) cJ U yX e1;exact⟨rfl,fy,oP.value (u:=y) (by simp [execOp,g1]) ⟨E,eT.refl _ _ _,r,g2⟩⟩
  ·simp [T.leaf] at Z
 case index t x i=>
  obtain⟨u,U,Z⟩:=gB sr h;split at Z
  ·rename_i iv hi;split at Z
   ·obtain⟨q1,q2,q3,y,g1,g2⟩:=OF (w:=w) cJ hp U (gk sr hi) Z;exact⟨q1,q3,oP.value (u:=y) (by simp [execOp,g1]) ⟨E,by rw [q2]; exact eT.refl _ _ _,by rw [q2]; exact r,g2⟩⟩
   ·rename_i cs;split at Z
    ·rename_i n e hb;split at Z
     ·rename_i hn;have hn:=aq hn;obtain⟨kd,ti,el,ie,rfl,b1,b2,b3,b4,b5⟩:=E7 hb;obtain⟨q1,q2,q3,k,kk,z,x',c1,c2,c3,rfl,c5⟩:=LS hp Z;have hiv:=gk sr hi;simp only [VR] at hiv;rw [c1] at hiv;obtain⟨l,hd⟩:=A5 c3
      obtain⟨y,g1,g2⟩:=xU (P:=P) (w:=w) cJ (t:=t) (ix:=.int kd (.lit (Int.ofNat k))) U (by simp only [VR,V.den]; exact hiv) (v:=.int kk (.lit z)) (by
       unfold zA;simp only [ky,b1,b2,b3];rw [ag J,b4,am3,hd]
       simp [partOf,b5])
      refine⟨q1,q3,oP.value (u:=y) (w':=w) (by simp [execOp,g1]) ⟨E,by rw [q2]; exact eT.refl _ _ _,by rw [q2]; exact r,?_⟩⟩;simp only [VR,V.den] at g2 ⊢;rw [g2,c5]
     ·simp [T.leaf] at Z
    ·obtain⟨ix',ef,fy,yX,Z⟩:=zV hp (gk sr hi) Z;obtain⟨e1,rfl⟩:=gM Z;obtain⟨y,g1,g2⟩:=xU (w:=w) cJ U yX e1;exact⟨rfl,fy,oP.value (u:=y) (by simp [execOp,g1]) ⟨E,eT.refl _ _ _,r,g2⟩⟩
   obtain⟨ix',ef,fy,yX,Z⟩:=zV hp (gk sr hi) Z;obtain⟨e1,rfl⟩:=gM Z;obtain⟨y,g1,g2⟩:=xU (w:=w) cJ U yX e1;exact⟨rfl,fy,oP.value (u:=y) (by simp [execOp,g1]) ⟨E,eT.refl _ _ _,r,g2⟩⟩
  ·simp [T.leaf] at Z
 case lookup t m k ok=>
  obtain⟨u,U,Z⟩:=gB sr h;split at Z
  ·rename_i kv hk;split at Z
   ·rename_i id e t' jt
    obtain⟨q1,q2,q3,y,g1,g2⟩:=ON (P:=P) cJ r hp U (gk sr hk) jt Z;exact⟨q1,q3,oP.value (u:=y) (by simp [execOp,g1]) ⟨E,by rw [q2]; exact eT.refl _ _ _,by rw [q2]; exact r,g2⟩⟩
   split at Z
   ·rename_i jt
    obtain⟨q1,q2,q3,y,g1,g2⟩:=OM (P:=P) cJ r hp U (gk sr hk) jt Z;exact⟨q1,q3,oP.value (u:=y) (by simp [execOp,g1]) ⟨E,by rw [q2]; exact eT.refl _ _ _,by rw [q2]; exact r,g2⟩⟩
   obtain⟨ef,fy,Z⟩:=qd hp Z;obtain⟨e1,rfl⟩:=gM Z;obtain⟨y,g1,g2⟩:=L0 cJ fy r U (gk sr hk) e1;exact⟨rfl,fy,oP.value (u:=y) (by simp [execOp,g1]) ⟨E,eT.refl _ _ _,r,g2⟩⟩
  ·simp [T.leaf] at Z
 case mapUpdate t m k x=>
  obtain⟨u,U,Z⟩:=gB sr h;split at Z
  ·rename_i kv xv hk hx;split at Z
   ·obtain⟨q1,q2,rfl,w',E',g1,g2,g3⟩:=Hr (P:=P) cJ r hp U (gk sr hk) (gk sr hx) Z;exact⟨q1,q2,oP.skip (by simp [execOp,g1]) ⟨E',g2,g3,kf⟩⟩
   split at Z
   ·rename_i jt
    obtain⟨q1,q2,rfl,w',g1,g2,g3⟩:=BM (P:=P) cJ r hp U (gk sr hk) (gk sr hx) jt Z;exact⟨q1,q2,oP.skip (by simp [execOp,g1]) ⟨E,g2,g3,kf⟩⟩
   obtain⟨ef,fy,Z⟩:=qd hp Z;obtain⟨H,e1,rfl,rfl⟩:=yy Z;obtain⟨w',g1,g2,g3⟩:=va cJ fy r U (gk sr hk) (gk sr hx) e1;exact⟨rfl,fy,oP.skip (by simp [execOp,g1]) ⟨E,g2,g3,kf⟩⟩
  ·simp [T.leaf] at Z
 case range t x=>
  obtain⟨u,U,Z⟩:=gB sr h;obtain⟨H,e1,rfl⟩:=pg Z;obtain⟨y,w',E',g1,g2,g3,g4⟩:=OI cJ r U e1;exact jS.heap hp (u:=y) (by simp [execOp,g1]) g2 g3 g4
 case next x isS=>
  obtain⟨u,U,Z⟩:=gB sr h;obtain⟨H,e1,rfl⟩:=pg Z;obtain⟨y,w',g1,g2,g3,g4⟩:=Uj (P:=P) r U e1 type;exact jS.heap hp (u:=y) (by simp [execOp,g1]) g2 g3 g4
 case entry x=>
  obtain⟨u,U,Z⟩:=gB sr h;obtain⟨e1,rfl⟩:=gM Z;obtain⟨y,g1,g2⟩:=OT (P:=P) r U e1;exact jS.pure hp r (u:=y) (by simp [execOp,g1]) g2
 case extract x i=>
  obtain⟨u,U,Z⟩:=gB sr h;split at Z
  ·rename_i vs;obtain⟨e1,rfl⟩:=gM Z;simp only [VR] at U;obtain⟨us,GW,U⟩:=U;obtain⟨y,g1,g2⟩:=U.nth e1;exact jS.pure hp r (u:=y) (by simp [execOp,Instr.extract,GW,g1]) g2
  ·simp [T.leaf] at Z
 case call c=>exact Uo cJ hc r sr hp rfl h
end
section
variable {P:Program}
structure Fit [bI] (E:En) (s:St) (a:Act) (w:World):Prop where
 rel:bO E s.h w
 sr:SR E w.heap s.bD a
 pc:bV E.ρ s.pc
structure mQ [bI] (E:En) (s:St) (a:Act) (w:World) (s':St) (a':Act) (w':World):Prop where
 defers:a'.defers=a.defers
 size:a'.tmps.size=a.tmps.size
 step: ∃E',eT E s.h w E' s'.h w'/\Fit E' s' a' w'
theorem mQ.refl [bI] {E:En} {s:St} {a:Act} {w:World} (f:Fit E s a w):mQ E s a w s a w:=⟨rfl,rfl,E,eT.refl _ _ _,f⟩
theorem SR.cf {E E':En} {h h':Array Obj} (k:fC E h E' h') {bD:Tr W} {a:Act} (sr:SR E h bD a):SR E' h' bD a:=by intro t v ht;obtain⟨u,U,Z⟩:=sr t v ht;exact⟨u,U,VR.cf k v u Z⟩
theorem SR.put {E:En} {h:Array Obj} {bD:Tr W} {a:Act} (sr:SR E h bD a) {d:Nat} {v:W} {u:Value} (hd:d<a.tmps.size) (hv:VR E h v u):SR E h (bD.put d (some v)) (a.put (some d) u):=by
 intro t x ht;rw [Tr.bQ] at ht;simp only [Act.put];split at ht
 ·rename_i e
  grind
 ·rename_i e;obtain⟨y,U,Z⟩:=sr t x ht
  grind
theorem SR.aj6 {E:En} {h:Array Obj} {s:St} {a:Act} (sr:SR E h s.bD a) {d:Option Nat} {v:W} {u:Value} (hd: ∀t,d=some t->t<a.tmps.size) (hv:VR E h v u):SR E h (s.KG d v).bD (a.put d u):=by
 cases d with
 |none=>exact sr
 |some t=>exact sr.put (hd t rfl) hv
theorem Dv (a:Act) (d:Option Nat) (u:Value):(a.put d u).tmps.size=a.tmps.size:=by cases d<;>simp [Act.put]
theorem put_defers (a:Act) (d:Option Nat) (u:Value):(a.put d u).defers=a.defers:=by cases d<;>rfl
theorem W1 (s:St) (d:Option Nat) (v:W):(s.KG d v).h=s.h:=by cases d<;>rfl
theorem M_ (s:St) (d:Option Nat) (v:W):(s.KG d v).pc=s.pc:=by cases d<;>rfl
theorem Hh [bI] {E:En} {s s':St} {a:Act} {w w':World} {v:W} {u:Value} {d:Option Nat} (f:Fit E s a w) (hs:s'.bD=s.bD) (hp:bV E.ρ s'.pc) (h:MM E s w v s' u w') (hd: ∀t,d=some t->t<a.tmps.size) :
 mQ E s a w (s'.KG d v) (a.put d u) w':=by
 obtain⟨E',U,Z,h3⟩:=h;refine⟨put_defers _ _ _,Dv _ _ _,E',by rw [W1]; exact U,⟨by rw [W1]; exact Z,?_,by rw [M_,U.ρ]; exact hp⟩⟩;refine SR.aj6 ?_ hd h3;rw [hs];exact f.sr.cf (U.keeps f.rel)
theorem mQ.trans [bI] {E:En} {s s1 s2:St} {a a1 a2:Act} {w w1 w2:World} (U:mQ E s a w s1 a1 w1) (Z: ∀E1,eT E s.h w E1 s1.h w1->Fit E1 s1 a1 w1->mQ E1 s1 a1 w1 s2 a2 w2):mQ E s a w s2 a2 w2:=by obtain⟨d1,z1,E1,Dg,f1⟩:=U;obtain⟨d2,z2,E2,tW,f2⟩:=Z E1 Dg f1;exact⟨d2.trans d1,z2.trans z1,E2,Dg.trans tW,f2⟩
theorem DG [bI] {α:Type} {E:En} {w:World} {s:St} {a:Act} {ops:Array Oper} {o:Oper} {f:St->Bool->T α} {r:α} (fit:Fit E s a w) (h:(vM ops.toList s o f).leaf E.ρ=some r) :
 ∃ef,bV E.ρ ef/\(f { s with pc:=ef } (Region.wanted o (yielded ops a.tmps))).leaf E.ρ=some r:=by
 unfold vM at h;unfold Region.wanted;split at h
 ·rename_i hg;rw [hg];exact⟨s.pc,fit.pc,h⟩
 ·rename_i j want hg;rw [hg];split at h
  ·rename_i oj hj;rw [dq,alM] at hj;split at h
   ·rename_i d hd;split at h
    ·rename_i c hc;obtain⟨u,U,Z⟩:=fit.sr d _ hc;simp only [VR] at Z;subst Z;obtain⟨ef,fy,h3⟩:=cH fit.pc h;refine⟨ef,fy,?_⟩;have:yielded ops a.tmps j=some (c.den E.ρ):=by simp [yielded,hj,hd,U]
     simp only [this];simpa using h3
    ·rename_i vs hc;obtain⟨u,U,Z⟩:=fit.sr d _ hc;simp only [VR] at Z;obtain⟨us,rfl,_⟩:=Z;refine⟨s.pc,fit.pc,?_⟩;have:yielded ops a.tmps j=none:=by simp [yielded,hj,hd,U]
     simp only [this];simpa using h
    ·simp [T.leaf] at h
   ·simp [T.leaf] at h
  ·simp [T.leaf] at h
def afT (n:Nat) (ops:List Oper):Bool:=ops.all fun o=>match o.dst with |some d=>d<n|none=>true
theorem Ev [bI] {tt:TT} (cJ:eA P tt) {call:ei} (hc:iq P call) {ops:Array Oper} {Q:Exit->Act->World->Prop}: ∀(rest:List Oper) (i:Nat) {E:En} {s s':St} {a:Act} {w:World},ops.toList.drop i=rest->
 (∀o∈rest,∀d,o.dst=some d->d<a.tmps.size)->Fit E s a w->(LZ tt call ops.toList rest s).leaf E.ρ=some s'->
 (∀a' w',mQ E s a w s' a' w'->Q .normal a' w')->wpOps P ops Q (List.range' i rest.length) a w
 |[],i,E,s,s',a,w,_,_,fit,h,hq=>by have:=bC h;subst this;exact hq a w (mQ.refl fit)
 |o::rest,i,E,s,s',a,w,hi,hd,fit,h,hq=>by
  simp only [LZ] at h;obtain⟨ef,fy,U⟩:=DG fit h
  have hoi:ops[i]?=some o:=by
   have:=congrArg (·[0]?) hi
   grind
  have ab5:ops.toList.drop (i+1)=rest:=by have:=congrArg List.tail hi;simpa using this
  have Ue:Fit E { s with pc:=ef } a w:=⟨fit.rel,fit.sr,fy⟩;simp only [aM,List.range'_succ];show wpOps P ops Q (i::List.range' (i+1) rest.length) a w;simp only [wpOps,hoi];cases hw:Region.wanted o (yielded ops a.tmps)<;>rw [hw] at U
  ·simp only [aK,if_false] at U ⊢
   have BC:mQ E s a w (St.KG { s with pc:=ef } o.dst W.undef) (a.put o.dst undef) w:=
    Hh (s':={ s with pc:=ef }) fit rfl fy ⟨E,eT.refl _ _ _,fit.rel,kf⟩ (hd o ad)
   obtain⟨d1,z1,E1,Dg,f1⟩:=BC;refine Ev cJ hc rest (i+1) ab5 (fun o' yU d D6=>by rw [z1]; exact hd o' (by simp [yU]) d D6) f1 (by rw [Dg.ρ]; exact U) fun a' w' ht=>?_;exact hq a' w' ⟨ht.defers.trans d1,ht.size.trans z1,by obtain⟨E2,tW,f2⟩:=ht.step; exact⟨E2,Dg.trans tW,f2⟩⟩
  ·simp only [if_true] at U ⊢;left;obtain⟨⟨v,s1⟩,Z,h3⟩:=T.fg U;obtain⟨q1,q2,q3⟩:=RP cJ hc (o:=o) Ue.rel Ue.sr Ue.pc Z;refine q3 _ _ fun u w1 hu=>?_;have BC:mQ E s a w (s1.KG o.dst v) (a.put o.dst u) w1:=Hh (s:=s) (s':=s1) fit q1 q2 hu (hd o ad);obtain⟨d1,z1,E1,Dg,f1⟩:=BC;refine Ev cJ hc rest (i+1) ab5 (fun o' yU d D6=>by rw [z1]; exact hd o' (by simp [yU]) d D6) f1 (by rw [Dg.ρ]; exact h3) fun a' w' ht=>?_;exact hq a' w' ⟨ht.defers.trans d1,ht.size.trans z1,by obtain⟨E2,tW,f2⟩:=ht.step; exact⟨E2,Dg.trans tW,f2⟩⟩
def aa5 [bI] (P:Program) (draw:List Oper->St->T St):Prop:=
 ∀(id:Nat) (ops:Array Oper) (E:En) (s s':St) (a:Act) (w:World) (Q:Exit->Act->World->Prop),(∀o∈ops.toList,∀d,o.dst=some d->d<a.tmps.size)->Fit E s a w->(draw ops.toList s).leaf E.ρ=some s'->
  (∀a' w',mQ E s a w s' a' w'->Q .normal a' w')->(Code.region id ops true).wp P Q a w
def vv [bI] (P:Program) (qG:Nat->List Oper->Bool) (draw:Nat->List Oper->St->T St):Prop:=
 ∀(id:Nat) (ops:Array Oper),qG id ops.toList=true->∀(E:En) (s s':St) (a:Act) (w:World) (Q:Exit->Act->World->Prop),(∀o∈ops.toList,∀d,o.dst=some d->d<a.tmps.size)->Fit E s a w->(draw id ops.toList s).leaf E.ρ=some s'->
  (∀a' w',mQ E s a w s' a' w'->Q .normal a' w')->(Code.region id ops true).wp P Q a w
def jX (qG:Nat->List Oper->Bool) (n:Nat):Code->Bool
 | .region id ops d=>afT n ops.toList&&(!d||qG id ops.toList)
 | .seq a b=>jX qG n a&&jX qG n b
 | .cond _ a b=>jX qG n a&&jX qG n b
 | .block _ b=>jX qG n b
 | .loop b=>jX qG n b
 | .scope b=>jX qG n b
 |_=>true
theorem aaH {n m:Nat} {ops:List Oper} (h:afT n ops=true) (hm:n<=m): ∀o∈ops,∀d,o.dst=some d->d<m:=by
 intro o ho d hd;unfold afT at h
 grind
def xo:Ex->Exit
 | .normal=> .normal
 | .exit id=> .exit id
 | .ret=> .ret
def af2 [bI] (E:En) (s:St) (a:Act) (w:World) (e:Ex) (s':St) (x:Exit) (a':Act) (w':World):Prop:=x=xo e/\mQ E s a w s' a' w'
theorem mQ.comp [bI] {E E1:En} {s s1 s2:St} {a a1 a2:Act} {w w1 w2:World} (d1:a1.defers=a.defers) (z1:a1.tmps.size=a.tmps.size) (Dg:eT E s.h w E1 s1.h w1) (Z:mQ E1 s1 a1 w1 s2 a2 w2):mQ E s a w s2 a2 w2:=by obtain⟨d2,z2,E2,tW,f2⟩:=Z;exact⟨d2.trans d1,z2.trans z1,E2,Dg.trans tW,f2⟩
def q? [bI] (P:Program) (c:Code) (n:Nat) (f:St->T (Ex×St)):Prop:=
 ∀(E:En) (s s':St) (e:Ex) (a:Act) (w:World),n<=a.tmps.size->Fit E s a w->(f s).leaf E.ρ=some (e,s')->c.wp P (af2 E s a w e s') a w
theorem Ew {ρ:Nat->Int} {f:St->T (Ex×St)}: ∀(k:Nat) {s s':St} {e:Ex},(vc f k s).leaf ρ=some (e,s')->e≠.normal
 |0,s,s',e,h=>by simp [vc,T.leaf] at h
 |k+1,s,s',e,h=>by
  simp only [vc] at h;obtain⟨⟨e1,s1⟩,U,Z⟩:=T.fg h
  cases e1 with
  |normal=>exact Ew k Z
  |exit id=>have:=bC Z; simp only [ak] at this; rw [<- this.1]; simp
  |ret=>have:=bC Z; simp only [ak] at this; rw [<- this.1]; simp
theorem Ht [bI] {c:Code} {n:Nat} {f:St->T (Ex×St)} (hf:q? P c n f): ∀(k:Nat) {E:En} {s s':St} {e:Ex} {a:Act} {w:World},n<=a.tmps.size->Fit E s a w->(vc f k s).leaf E.ρ=some (e,s')->
 ∀(Q:Exit->Act->World->Prop),(∀a' w',mQ E s a w s' a' w'->Q (xo e) a' w')->e≠.normal/\Code.rounds P c Q k a w
 |0,E,s,s',e,a,w,_,_,h,_,_=>by simp [vc,T.leaf] at h
 |k+1,E,s,s',e,a,w,hn,fit,h,Q,hq=>by
  simp only [vc] at h;obtain⟨⟨e1,s1⟩,U,Z⟩:=T.fg h;have hw:=hf E s s1 e1 a w hn fit U;rw [rounds_succ]
  cases e1 with
  |normal=>
   simp only at Z;constructor
   ·exact Ew k Z
   ·refine wp_mono hw fun x a1 w1 ⟨hx,ht⟩=>?_;subst hx;obtain⟨d1,z1,E1,Dg,f1⟩:=ht;exact (Ht hf k (by rw [z1]; exact hn) f1 (by rw [Dg.ρ]; exact Z) Q fun a' w' ht'=>hq a' w' (ht'.comp d1 z1 Dg)).2
  |exit id=> have:=bC Z;simp only [ak] at this;obtain⟨rfl,rfl⟩:=this;refine⟨ad,wp_mono hw fun x a1 w1 ⟨hx,ht⟩=>?_⟩;subst hx;exact hq a1 w1 ht
  |ret=> have:=bC Z;simp only [ak] at this;obtain⟨rfl,rfl⟩:=this;refine⟨ad,wp_mono hw fun x a1 w1 ⟨hx,ht⟩=>?_⟩;subst hx;exact hq a1 w1 ht
theorem k7 [bI] {tt:TT} (cJ:eA P tt) {call:ei} (hc:iq P call) {draw:Nat->List Oper->St->T St} {qG:Nat->List Oper->Bool} (AO:vv P qG draw) {lf n:Nat}: ∀(c:Code),jX qG n c=true->q? P c n (jf tt call draw lf c)
 | .skip,_,E,s,s',e,a,w,_,fit,h=>by have:=bC h;simp only [ak] at this;obtain⟨rfl,rfl⟩:=this;exact wp_skip ⟨rfl,mQ.refl fit⟩
 | .region id ops d,mP,E,s,s',e,a,w,hn,fit,h=>by
   simp only [jf] at h;simp only [jX,an] at mP;have hd:=aaH mP.1 hn;cases d
   ·simp only [aK,if_false] at h;obtain⟨s1,U,Z⟩:=T.fg h;have:=bC Z;simp only [ak] at this;obtain⟨rfl,rfl⟩:=this;refine wp_region ?_;have:=Ev (Q:=af2 E s a w .normal s1) cJ hc ops.toList 0 ad hd fit U (fun a' w' ht=> ⟨rfl,ht⟩);rw [List.range_eq_range']
    grind
   ·simp only [if_true] at h;obtain⟨s1,U,Z⟩:=T.fg h;have:=bC Z;simp only [ak] at this;obtain⟨rfl,rfl⟩:=this;exact AO id ops (by simpa using mP.2) E s s1 a w _ hd fit U (fun a' w' ht=> ⟨rfl,ht⟩)
 | .seq x y,mP,E,s,s',e,a,w,hn,fit,h=>by
   simp only [jX,an] at mP;simp only [jf] at h;obtain⟨⟨e1,s1⟩,U,Z⟩:=T.fg h;refine wp_seq (wp_mono (k7 cJ hc AO x mP.1 E s s1 e1 a w hn fit U) fun q a1 w1 ⟨hx,ht⟩=>?_);subst hx
   cases e1 with
   |normal=> simp only at Z;obtain⟨d1,z1,E1,Dg,f1⟩:=ht;refine wp_mono (k7 cJ hc AO y mP.2 E1 s1 s' e a1 w1 (by rw [z1]; exact hn) f1 (by rw [Dg.ρ]; exact Z)) fun q a2 w2 ⟨hx,ht'⟩=>?_;exact⟨hx,ht'.comp d1 z1 Dg⟩
   |exit id=> have:=bC Z;simp only [ak] at this;obtain⟨rfl,rfl⟩:=this;exact⟨rfl,ht⟩
   |ret=> have:=bC Z;simp only [ak] at this;obtain⟨rfl,rfl⟩:=this;exact⟨rfl,ht⟩
 | .cond c x y,mP,E,s,s',e,a,w,hn,fit,h=>by
   simp only [jX,an] at mP;simp only [jf] at h;split at h
   ·rename_i cb hcb;have hv:=gk fit.sr hcb;simp only [VR] at hv;obtain⟨ef,fy,U⟩:=cH fit.pc h;have Ue:Fit E { s with pc:=ef } a w:=⟨fit.rel,fit.sr,fy⟩;refine wp_cond hv ?_;cases Ry:cb.den E.ρ<;>rw [Ry] at U
    ·simp only [aK,if_false] at U ⊢;exact wp_mono (k7 cJ hc AO y mP.2 E _ s' e a w hn Ue U) fun q a2 w2 ⟨hx,ht⟩=> ⟨hx,ht.defers,ht.size,ht.step⟩
    ·simp only [if_true] at U ⊢;exact wp_mono (k7 cJ hc AO x mP.1 E _ s' e a w hn Ue U) fun q a2 w2 ⟨hx,ht⟩=> ⟨hx,ht.defers,ht.size,ht.step⟩
   ·simp [T.leaf] at h
 | .block id b,mP,E,s,s',e,a,w,hn,fit,h=>by
   simp only [jX] at mP;simp only [jf] at h;obtain⟨⟨e1,s1⟩,U,Z⟩:=T.fg h;refine wp_block (wp_mono (k7 cJ hc AO b mP E s s1 e1 a w hn fit U) fun q a1 w1 ⟨hx,ht⟩=>?_);subst hx
   cases e1 with
   |normal=> have:=bC Z;simp only [ak] at this;obtain⟨rfl,rfl⟩:=this;exact⟨rfl,ht⟩
   |exit j=>
    have:=bC Z;simp only [ak] at this;obtain⟨rfl,rfl⟩:=this;simp only [xo,Exit.inBlock];by_cases hj:j=id
    ·rw [ag hj,ag hj]; exact⟨rfl,ht⟩
    ·rw [af hj,af hj]; exact⟨rfl,ht⟩
   |ret=> have:=bC Z;simp only [ak] at this;obtain⟨rfl,rfl⟩:=this;exact⟨rfl,ht⟩
 | .loop b,mP,E,s,s',e,a,w,hn,fit,h=>by simp only [jX] at mP;simp only [jf] at h;exact wp_loop_rounds lf (Ht (k7 cJ hc AO b mP) lf hn fit h (af2 E s a w e s') (fun a' w' ht=> ⟨rfl,ht⟩)).2
 | .exit id,_,E,s,s',e,a,w,_,fit,h=>by have:=bC h;simp only [ak] at this;obtain⟨rfl,rfl⟩:=this;exact wp_exit ⟨rfl,mQ.refl fit⟩
 | .scope b,mP,E,s,s',e,a,w,hn,fit,h=>by simp only [jX] at mP;simp only [jf] at h;refine wp_scope_straight (wp_mono (k7 cJ hc AO b mP E s s' e a w hn fit h) fun q a1 w1 ⟨hx,ht⟩=>?_);subst hx;cases e<;>exact⟨rfl,ht⟩
 | .label l,_,E,s,s',e,a,w,_,fit,h=>by have:=bC h;simp only [ak] at this;obtain⟨rfl,rfl⟩:=this;exact wp_label ⟨rfl,mQ.refl fit⟩
 | .ret,_,E,s,s',e,a,w,_,fit,h=>by have:=bC h;simp only [ak] at this;obtain⟨rfl,rfl⟩:=this;exact wp_ret ⟨rfl,mQ.refl fit⟩
 | .rangeFunc _ _ _ _,_,E,s,s',e,a,w,_,fit,h=>by simp [jf,T.leaf] at h
 | .goto _,_,E,s,s',e,a,w,_,fit,h=>by simp [jf,T.leaf] at h
 | .refuse _,_,E,s,s',e,a,w,_,fit,h=>by simp [jf,T.leaf] at h
end
section
variable {P:Program}
theorem Lq: ∀(args:List W) (i:Nat) (t:Tr W) (k:Nat),(cm args i t).get k=if i<=k/\k<i+args.length then args[k-i]? else t.get k
 |[],i,t,k=>by
  have: ¬(i<=k/\k<i+([]:List W).length):=ad
  rw [af this];rfl
 |v::vs,i,t,k=>by
  simp only [cm,Lq vs (i+1),Tr.bQ,aM]
  grind
theorem cA.get {E:En} {h:Array Obj}: ∀{vs:List W} {us:List Value},cA E h vs us->∀(i:Nat) (v:W),vs[i]?=some v->∃u,us[i]?=some u/\VR E h v u
 |[],us,hv,i,v,hi=>by simp at hi
 |x::xs,us,hv,i,v,hi=>by
  cases us with
  |nil=>simp [cA] at hv
  |cons y ys=>
   simp only [cA] at hv;obtain⟨u',gF,he,U,Z⟩:=hv;simp only [List.cons.injEq] at he;obtain⟨rfl,rfl⟩:=he
   cases i with
   |zero=>simp at hi; subst hi; exact⟨y,ad,U⟩
   |succ i=>simpa using cA.get Z i v (by simpa using hi)
theorem yP {E:En} {h:Array Obj} {args:List W} {vals:List Value} (hv:cA E h args vals) (n:Nat) :
 SR E h (cm args 0 .nil) { tmps:=vals.toArray++Array.replicate n undef,defers:=[] }:=by
 intro t v ht;rw [Lq] at ht;split at ht
 ·rename_i hk;obtain⟨u,U,Z⟩:=cA.get hv t v (by simpa using ht)
  grind
 ·simp [Tr.get] at ht
def uC (a:Act):ResultVar->Sem Value
 | .tmp t=>pure (a.tmps.getD t undef)
 | .cell b t=>do loadVar t (<- asAddr (a.tmps.getD b undef))
def Av (vs:List W):W:=match vs with |[x]=>x|vs=> .tuple vs
theorem Ga {vs:List W} (h: ∀v,vs= [v]->False):Av vs= .tuple vs:=by
 unfold Av
 grind
theorem Cm {E:En} {h:Array Obj} {vs:List W} {us:List Value} (g2:cA E h vs us):VR E h (Av vs) (if h:us.toArray.size=1 then us.toArray[0] else .tuple us.toArray):=by
 cases vs with
 |nil=> simp only [cA] at g2;subst g2;simp [Av,VR,cA]
 |cons x xs=>
  cases xs with
  |nil=> simp only [cA] at g2;obtain⟨u,gF,rfl,U,rfl⟩:=g2;simpa [Av] using U
  |cons x2 xs=>
   have g3:=g2;simp only [cA] at g2;obtain⟨u,gF,rfl,U,u2,us2,rfl,Z,h3⟩:=g2;have: ¬((u::u2::us2).toArray.size=1):=ad
   rw [dif_neg this];simp only [Av,VR]
   grind
theorem LY [bI] {tt:TT} (cJ:eA P tt) {E:En} {s:St} {a:Act} {w:World} (fit:Fit E s a w) {r:ResultVar} {v:W} (h:zt tt s r=some v) :
 ∃u,(uC a r).run P w= .ok u w/\VR E w.heap v u:=by
 cases r with
 |tmp t=> simp only [zt] at h;obtain⟨u,U,Z⟩:=fit.sr t v h;exact⟨u,by simp [uC,U,amo],Z⟩
 |cell b t=>
  simp only [zt] at h;split at h
  ·rename_i p hp;obtain⟨u,U,Z⟩:=fit.sr b p hp;obtain⟨x,bb,o,rfl,h3,h4⟩:=A0 cJ fit.rel Z h;exact⟨x,by simp [uC,U,amo,asAddr,h3],h4⟩
  grind
theorem tf [bI] {tt:TT} (cJ:eA P tt) {E:En} {s:St} {a:Act} {w:World} (fit:Fit E s a w): ∀{rs:List ResultVar} {vs:List W},kZ tt s rs=some vs->
 ∃us,(rs.mapM (uC a)).run P w= .ok us w/\cA E w.heap vs us
 |[],vs,h=>by simp [kZ] at h;subst h;exact⟨[],ad,by simp [cA]⟩
 |r::rs,vs,h=>by
  simp only [kZ] at h;split at h
  ·grind
  ·rename_i v hv;split at h
   ·grind
   ·rename_i MO GV;simp at h;subst h;obtain⟨u,U,Z⟩:=LY cJ fit hv;obtain⟨us,h3,h4⟩:=tf cJ fit GV;refine⟨u::us,?_,by simp only [cA]; exact⟨u,us,rfl,Z,h4⟩⟩;rw [amq];simp [Sem.run_bind,U,h3]
def UJ (P:Program) (qG:Nat->Nat->List Oper->Bool) (ft:Nat->Option Func):Prop:= ∀g fn,ft g=some fn->P.funcs[g]?=some fn/\(fn.name == "runtime.NumGoroutine")=false/\∀c,fn.body=some c->jX (qG g) fn.ntmps c=true
theorem zB [bI] {tt:TT} (cJ:eA P tt) {qG:Nat->Nat->List Oper->Bool} {ft:Nat->Option Func} (hft:UJ P qG ft) {hook:Nat->Option (List W->St->T (W×St))} (hh: ∀g h,hook g=some h->j9 P g h)
 {draw:ei->Nat->Nat->List Oper->St->T St} (AO: ∀call,iq P call->∀g,vv P (qG g) (draw call g)) (lf:Nat): ∀(n:Nat),iq P (Jt tt ft hook draw lf n)
 |0=>by intro g args s E w vals v s' _ _ _ h;simp [Jt,T.leaf] at h
 |n+1=>by
  have ih:=zB cJ hft hh AO lf n;intro g args s E w vals v s' r hv hp h;simp only [Jt] at h;split at h
  ·rename_i f hf;exact hh g f hf args s E w vals v s' r hv hp h
  ·split at h
   ·simp [T.leaf] at h
   ·rename_i fn ue;obtain⟨hf,lL,mP⟩:=hft g fn ue;split at h
    ·simp [T.leaf] at h
    ·rename_i c hb;obtain⟨⟨e,s1⟩,U,Z⟩:=T.fg h
     have fit:Fit E { s with bD:=cm args 0 .nil } { tmps:=vals.toArray++Array.replicate (fn.ntmps-vals.toArray.size) undef,defers:=[] } w:=
      ⟨r,yP hv _,hp⟩
     have hwp:=k7 cJ ih (AO _ ih g) (lf:=lf) c (mP c hb) E _ s1 e _ w (by simp; omega) fit U
     have akq: ∃vs,kZ tt s1 fn.results.toList=some vs/\(e= .normal\/e= .ret)/\s'= { s1 with bD:=s.bD }/\v=Av vs:=by
      cases e with
      |exit id=>simp [T.leaf] at Z
      |normal=>
       simp only at Z;split at Z
       ·rename_i x hx;have:=bC Z;simp only [ak] at this;exact⟨_,hx,.inl rfl,this.2.symm,this.1.symm⟩
       ·rename_i vs hn hx;have:=bC Z;simp only [ak] at this;refine⟨_,hx,.inl rfl,this.2.symm,?_⟩;rw [<- this.1];exact (Ga hn).symm
       ·simp [T.leaf] at Z
      |ret=>
       simp only at Z;split at Z
       ·rename_i x hx;have:=bC Z;simp only [ak] at this;exact⟨_,hx,.inr rfl,this.2.symm,this.1.symm⟩
       ·rename_i vs hn hx;have:=bC Z;simp only [ak] at this;refine⟨_,hx,.inr rfl,this.2.symm,?_⟩;rw [<- this.1];exact (Ga hn).symm
       ·simp [T.leaf] at Z
     obtain⟨vs,hr,he,rfl,rfl⟩:=akq
     have hpc:bV E.ρ s1.pc:=by
      obtain⟨_,_,_,⟨_,ht⟩,_⟩:=hwp default [] [];obtain⟨E1,Dg,f1⟩:=ht.step;have:=f1.pc;rw [Dg.ρ] at this
      grind
     refine⟨rfl,hpc,?_⟩
     have akO:Calls P g vals.toArray w fun e w''=> ∃u,e= .returned u/\MM E s w (Av vs) { s1 with bD:=s.bD } u w'':=by
      refine calls_of_wp hf hb (wp_mono hwp fun x a1 w1 ⟨hx,ht⟩=>?_);subst hx;obtain⟨d1,z1,E1,Dg,f1⟩:=ht;obtain⟨us,g1,g2⟩:=tf cJ f1 hr
      have: ∃u,(results fn a1.tmps).run P w1= .ok u w1/\VR E1 w1.heap (Av vs) u:=by
       refine⟨if h:us.toArray.size=1 then us.toArray[0] else .tuple us.toArray,?_,?_⟩
       ·have hm:(fn.results.mapM (uC a1)).run P w1= .ok us.toArray w1:=by
         rw [anL];rw [map_eq_pure_bind];simp only [Sem.run_bind,g1];rfl
        have xL:results fn a1.tmps=(do let vs <- fn.results.mapM (uC a1); pure (if h:vs.size=1 then vs[0] else .tuple vs)):=rfl;rw [xL];simp only [Sem.run_bind,hm];rfl
       ·exact Cm g2
      obtain⟨u,g3,g4⟩:=this;rcases he with rfl|rfl
      ·exact⟨d1,u,g3,u,rfl,E1,Dg,f1.rel,g4⟩
      ·exact⟨d1,u,g3,u,rfl,E1,Dg,f1.rel,g4⟩
     have lY:(callFunc g vals.toArray).run P w= .ok (.enter g vals.toArray) w:=by unfold callFunc;simp [hf,hb,by simpa using lL]
     unfold lQ n6
     grind
end
def Tr.over {α:Type}:Tr α->Tr α->Tr α
 | .nil,b=>b
 | .node v l r,b=> .node (match v with |some x=>some x|none=>b.val) (Tr.over l b.left) (Tr.over r b.right)
def Tr.minus {α:Type}:Tr α->Tr α->Tr α
 | .nil,b=>b
 | .node v l r,b=> .node (match v with |some _=>none|none=>b.val) (Tr.minus l b.left) (Tr.minus r b.right)
theorem Tr.Eb {α:Type}: ∀(a b:Tr α) (k:Nat),(Tr.over a b).get k=match a.get k with |some x=>some x|none=>b.get k
 | .nil,b,k=>by simp [Tr.over,Tr.get]
 | .node v l r,b,k=>by
   simp only [Tr.over];rw [Tr.nU,Tr.nU,Tr.wc b k];by_cases h0:k=0
   ·grind
   ·simp only [af h0];by_cases U:(k-1) % 2=0
    ·simp only [ag U]; exact Tr.Eb l b.left _
    ·simp only [af U]; exact Tr.Eb r b.right _
theorem Tr.AS {α:Type}: ∀(a b:Tr α) (k:Nat),(Tr.minus a b).get k=match a.get k with |some _=>none|none=>b.get k
 | .nil,b,k=>by simp [Tr.minus,Tr.get]
 | .node v l r,b,k=>by
   simp only [Tr.minus];rw [Tr.nU,Tr.nU,Tr.wc b k];by_cases h0:k=0
   ·grind
   ·simp only [af h0];by_cases U:(k-1) % 2=0
    ·simp only [ag U]; exact Tr.AS l b.left _
    ·simp only [af U]; exact Tr.AS r b.right _
structure SN (E:En) (H:Hp) (w:World) (E':En) (H':Hp) (w':World):Prop where
 ρ:E'.ρ=E.ρ
 dm: ∀id,E.dm id->E'.dm id
 θ: ∀id,E.dm id->E'.θ id=E.θ id
 κ: ∀id,E.dm id->E'.κ id=E.κ id
 ro: ∀b,E.ro b->E'.ro b
 rF: ∀b,E'.ro b->E.ro b\/(∃id o,H.get id=some o/\(E.θ id).1=b)\/w.heap.size<=b
 os:w'.os=w.os
 tape:w'.tape=w.tape
 output:w'.output=w.output
 size:w.heap.size<=w'.heap.size
 cf: ∀b,b<w.heap.size->(∀id o,H.get id=some o->(E.θ id).1≠b)->w'.heap[b]?=w.heap[b]?
 own: ∀id o,H'.get id=some o->(E'.θ id).1<w.heap.size->∃rO o0,H.get rO=some o0/\(E.θ rO).1=(E'.θ id).1
 hd:E'.hd=E.hd
section
variable {E E' E'':En} {H H' H'':Hp} {w w' w'':World}
theorem eT.ajO (s:eT E H w E' H' w'):SN E H w E' H' w':=⟨s.ρ,s.dm,s.θ,s.κ,s.ro,s.rF,s.os,s.tape,s.output,s.size,s.cf,s.own,s.hd⟩
theorem SN.WN (s:SN E H w E' H' w') (U:H.next<=H'.next) (Z:H'.res=none) (h3: ∀id,E'.dm id->E.dm id\/(H.next<=id/\id<H'.next)):eT E H w E' H' w':=
 ⟨s.ρ,s.dm,s.θ,s.κ,s.ro,s.rF,U,.inl Z,fun id h=>(h3 id h).elim .inl fun h=> .inr (.inl h),s.os,s.tape,s.output,s.size,s.cf,s.own,s.hd⟩
theorem SN.trans (a:SN E H w E' H' w') (b:SN E' H' w' E'' H'' w''):SN E H w E'' H'' w'' where
 ρ:=b.ρ.trans a.ρ
 dm:=fun id h=>b.dm id (a.dm id h)
 θ:=fun id h=>(b.θ id (a.dm id h)).trans (a.θ id h)
 κ:=fun id h=>(b.κ id (a.dm id h)).trans (a.κ id h)
 ro:=fun x h=>b.ro x (a.ro x h)
 rF:=fun x h=>by
  rcases b.rF x h with h|⟨id,o,U,Z⟩|h
  ·exact a.rF x h
  ·rcases aT x w.heap.size with hx|hx
   ·obtain⟨rO,o0,h3,h4⟩:=a.own id o U (by rw [Z]; exact hx);exact .inr (.inl ⟨rO,o0,h3,h4.trans Z⟩)
   ·exact .inr (.inr hx)
  ·exact .inr (.inr (bk a.size h))
 os:=b.os.trans a.os
 tape:=b.tape.trans a.tape
 output:=b.output.trans a.output
 size:=bk a.size b.size
 cf:=fun x hx hn=>by rw [b.cf x (ama hx a.size) ?_,a.cf x hx hn];intro id o ho he;obtain⟨rO,o0,h0,he0⟩:=a.own id o ho (by rw [he]; exact hx);exact hn rO o0 h0 (he0.trans he)
 own:=fun id o ho fW=>by obtain⟨id1,o1,U,Yn⟩:=b.own id o ho (ama fW a.size);obtain⟨rO,o0,h0,he0⟩:=a.own id1 o1 U (by rw [Yn]; exact fW);exact⟨rO,o0,h0,he0.trans Yn⟩
 hd:=b.hd.trans a.hd
theorem SN.keeps [bI] (s:SN E H w E' H' w') (r:bO E H w):fC E w.heap E' w'.heap:=
 ⟨s.ρ,s.dm,s.θ,s.κ,s.ro,fun b hb=>s.cf b (r.rh b hb) fun id o ho he=>(r.live id o ho).2.2 (by rw [he]; exact hb)⟩
theorem bO.part [bI] {H1:Hp} (r:bO E H w) (sub: ∀id o,H1.get id=some o->H.get id=some o) (hn:H.next<=H1.next) (hr: ∀q,H1.res=some q->q<H1.next/\¬E.dm q):bO E H1 w:=
 ⟨fun id h=>r.fresh id (bk hn h),hr,fun id o h=>r.live id o (sub id o h),fun i j o o' h h' e=>r.inj i j o o' (sub _ _ h) (sub _ _ h') e,r.rh,r.jG,fun b x hb=> ⟨(r.hid b x hb).1,(r.hid b x hb).2.1,fun id o h=>(r.hid b x hb).2.2 id o (sub id o h)⟩⟩
theorem YA [bI] {H1 PB:Hp} (r:bO E H w) (sub: ∀id o,H1.get id=some o->H.get id=some o) (st:eT E H1 w E' PB w') (r':bO E' PB w') (n:Nat) (hn: ∀id,n<=id->¬E'.dm id) :
 ∃H':Hp,H'=⟨Tr.over PB.m (Tr.minus H1.m H.m),n,none⟩/\(∀id o,PB.get id=some o->H'.get id=some o)/\(∀id o,H.get id=some o->H1.get id=none->H'.get id=some o)/\bO E' H' w'/\SN E H w E' H' w':=by
 have aix: ∀id o,H.get id=some o->H1.get id=none->PB.get id=none:=by
  intro id o h U
  cases Z:PB.get id with
  |none=>rfl
  |some o'=>
   exfalso;have hd:=(r.live id o h).1;have hθ:=st.θ id hd;obtain⟨rO,o0,g1,g2⟩:=st.own id o' Z (by rw [hθ]; exact gf r h);have:=r.inj rO id o0 o (sub _ _ g1) h (by rw [g2,hθ])
   grind
 have uT: ∀id,(⟨Tr.over PB.m (Tr.minus H1.m H.m),n,none⟩ : Hp).get id=match PB.get id with |some x=>some x|none=>match H1.get id with |some _=>none|none=>H.get id:=by
  intro id;simp only [Hp.get,Tr.Eb,Tr.AS]
  grind
 have lM: ∀id o,(⟨Tr.over PB.m (Tr.minus H1.m H.m),n,none⟩ : Hp).get id=some o->PB.get id=some o\/(PB.get id=none/\H1.get id=none/\H.get id=some o):=by
  intro id o h
  grind
 have tJ: ∀id o,H1.get id=none->H.get id=some o->w'.heap[(E.θ id).1]?=w.heap[(E.θ id).1]?:=by
  intro id o U h;refine st.cf _ (gf r h) fun rO o0 h0 he=>?_;have:=r.inj rO id o0 o (sub _ _ h0) h he
  grind
 have k:fC E w.heap E' w'.heap:=⟨st.ρ,st.dm,st.θ,st.κ,st.ro,fun b hb=>st.cf b (r.rh b hb) fun id o ho he=>(r.live id o (sub _ _ ho)).2.2 (by rw [he]; exact hb)⟩;refine⟨_,rfl,fun id o h=>by rw [uT,h],fun id o h U=>by rw [uT,aix id o h U,U]; exact h,⟨hn,ad,?_,?_,r'.rh,r'.jG,?_⟩,⟨st.ρ,st.dm,st.θ,st.κ,st.ro,fun b hb=>(st.rF b hb).imp id (Or.imp (fun⟨i,o,U,Z⟩=> ⟨i,o,sub _ _ U,Z⟩) id),st.os,st.tape,st.output,st.size,?_,?_,st.hd⟩⟩
 ·intro id o h;rcases lM id o h with U|⟨U,Z,h3⟩
  ·exact r'.live id o U
  ·obtain⟨g1,g2,g3⟩:=r.live id o h3;refine⟨st.dm id g1,g2.cf k g1 (tJ id o Z h3) (r.UZ st.hd (fun b hb hn=>st.cf b hb fun i o ho=>hn i o (sub i o ho)) _),?_⟩;rw [st.θ id g1];intro hr;rcases st.rF _ hr with hr|⟨rO,o0,f1,f2⟩|hr
   ·grind
   ·have:=r.inj rO id o0 o (sub _ _ f1) h3 f2
    grind
   grind [gf]
 ·intro i j o o' h h' he;rcases lM i o h with U|⟨U,Z,h3⟩ <;>rcases lM j o' h' with g1|⟨g1,g2,g3⟩
  ·exact r'.inj i j o o' U g1 he
  ·exfalso;rw [st.θ j (r.live j o' g3).1] at he;obtain⟨rO,o0,f1,f2⟩:=st.own i o U (by rw [he]; exact gf r g3);have:=r.inj rO j o0 o' (sub _ _ f1) g3 (f2.trans he)
   grind
  ·exfalso;rw [st.θ i (r.live i o h3).1] at he;obtain⟨rO,o0,f1,f2⟩:=st.own j o' g1 (by rw [<- he]; exact gf r h3);have:=r.inj rO i o0 o (sub _ _ f1) h3 (f2.trans he.symm)
   grind
  ·rw [st.θ i (r.live i o h3).1,st.θ j (r.live j o' g3).1] at he;exact r.inj i j o o' h3 g3 he
 ·refine r.T4 st.hd st.size (fun b hb=>(st.rF b hb).imp id (Or.imp (fun⟨i,o,U,Z⟩=> ⟨i,o,sub _ _ U,Z⟩) id)) fun id o h fW=>?_;rcases lM id o h with U|⟨U,Z,h3⟩
  ·obtain⟨rO,o0,f1,f2⟩:=st.own id o U fW;exact⟨rO,o0,sub _ _ f1,f2⟩
  ·exact⟨id,o,h3,by rw [st.θ id (r.live id o h3).1]⟩
 ·intro b hb Fw;exact st.cf b hb fun id o h=>Fw id o (sub _ _ h)
 ·intro id o h fW;rcases lM id o h with U|⟨U,Z,h3⟩
  ·obtain⟨rO,o0,f1,f2⟩:=st.own id o U fW
   grind
  ·exact⟨id,o,h3,by rw [st.θ id (r.live id o h3).1]⟩
theorem frame [bI] {H1 PB:Hp} (r:bO E H w) (sub: ∀id o,H1.get id=some o->H.get id=some o) (st:eT E H1 w E' PB w') (r':bO E' PB w') (n:Nat) (hn: ∀id,n<=id->¬E'.dm id) :
 ∃H':Hp,H'.next=n/\H'.res=none/\(∀id o,PB.get id=some o->H'.get id=some o)/\(∀id o,H.get id=some o->H1.get id=none->H'.get id=some o)/\bO E' H' w'/\SN E H w E' H' w':=by
 obtain⟨H',h0,U,Z,h3,h4⟩:=YA r sub st r' n hn
 grind
end
section
variable {P:Program}
def Fo [bI] (P:Program) (ρ:Nat->Int) (ops:Array Oper) (o:Oper) (S:Tr W) (H:Hp) (v:W) (H':Hp):Prop:=
 ∀(E:En) (a:Act) (w:World),E.ρ=ρ->bO E H w->SR E w.heap S a->
  (Region.wanted o (yielded ops a.tmps)=false/\v=W.undef/\H'=H)\/
  (Region.wanted o (yielded ops a.tmps)=true/\oP P o a w (fun u w'=> ∃E',eT E H w E' H' w'/\bO E' H' w'/\VR E' w'.heap v u))
theorem Fo.wpOp [bI] {ρ:Nat->Int} {ops:Array Oper} {o:Oper} {S:Tr W} {H H':Hp} {v:W} (h:Fo P ρ ops o S H v H') {E:En} {a:Act} {w:World} (hρ:E.ρ=ρ) (r:bO E H w) (sr:SR E w.heap S a)
 {i:Nat} (ho:ops[i]?=some o) {K:Act->World->Prop} {Q:Exit->Act->World->Prop}
 (hk: ∀(u:Value) (E':En) (w':World),eT E H w E' H' w'->bO E' H' w'->VR E' w'.heap v u->K (a.put o.dst u) w'):wpOp P ops Q i K a w:=by
 unfold Go.wpOp;simp only [ho];rcases h E a w hρ r sr with ⟨U,rfl,rfl⟩|⟨U,Z⟩
 ·rw [U];simp only [aK,if_false];exact hk undef E w (eT.refl _ _ _) r kf
 ·rw [U];simp only [if_true];exact .inl (Z _ _ fun u w' ⟨E',q1,q2,q3⟩=>hk u E' w' q1 q2 q3)
inductive Kind where
 |pa
 |e
 |r
 deriving DecidableEq
structure Fj [bI] (P:Program) (ρ:Nat->Int) (ops:Array Oper) (pd:Tr W) (H0:Hp) where
 base:Nat
 bf:Nat->Nat->Bool
 kd:Nat->Kind
 S:Nat->Tr W
 val:Nat->W
 st:Nat->Nat
 nE:Nat
 hp:Nat->Hp
 un:Nat->Nat->Bool
 nF:Nat->Option dM
 gen: ∀i j,bf i j=true->∃(o:Oper) (e:Edge),ops[j]?=some o/\e∈o.after/\Region.binds .any e=true/\(e.on=i\/bf i e.on=true)
 back: ∀(j:Nat) (o:Oper),ops[j]?=some o->∀e∈o.after,Region.binds .any e=true->e.on<j
 dst: ∀(i j:Nat) (oi oj:Oper) (d:Nat),ops[i]?=some oi->ops[j]?=some oj->oi.dst=some d->oj.dst=some d->i=j
 bD: ∀(i:Nat) (o:Oper),ops[i]?=some o->∀t x,(S i).get t=some x->(∃(j:Nat) (oj:Oper),bf j i=true/\ops[j]?=some oj/\oj.dst=some t/\val j=x)\/(pd.get t=some x/\∀(j:Nat) (oj:Oper),ops[j]?=some oj->oj.dst=some t->bf i j=true)
 stl: ∀(j:Nat) (o:Oper),ops[j]?=some o->kd j= .e->st j<nE
 inj: ∀i j,kd i= .e->kd j= .e->st i=st j->i=j
 ahz: ∀(j:Nat) (o:Oper),ops[j]?=some o->kd j= .e->∀m,m<st j->∃i,kd i= .e/\st i=m/\bf i j=true
 pa: ∀(i:Nat) (o:Oper),ops[i]?=some o->kd i= .pa->∃HA N,Fo P ρ ops o (S i) ⟨.nil,N,some (base+i)⟩ (val i) HA/\HA.next=N/\nF i=HA.get (base+i)/\∀k,k<=nE->(hp k).next<=N
 ev: ∀(j:Nat) (o:Oper),ops[j]?=some o->kd j= .e->∃Kf,Fo P ρ ops o (S j) Kf (val j) (hp (st j+1))/\Kf.next=(hp (st j)).next/\Kf.res=none/\
  (∀id x,Kf.get id=some x->(hp (st j)).get id=some x\/∃a,bf a j=true/\un (st j) a=true/\id=base+a/\nF a=some x)/\
  (∀a,un (st j+1) a=true->un (st j) a=true/\bf a j=false)
 rd: ∀(i:Nat) (o:Oper),ops[i]?=some o->kd i= .r->∀k,k<=nE->(∀j,kd j= .e->bf j i=true->st j<k)->(∀(j:Nat) (oj:Oper),ops[j]?=some oj->kd j= .e->bf i j=true->k<=st j)->
  ∃Kf,Fo P ρ ops o (S i) Kf (val i) Kf/\Kf.next=(hp k).next/\Kf.res=none/\
   (∀id x,Kf.get id=some x->(hp k).get id=some x\/∃a,bf a i=true/\un k a=true/\id=base+a/\nF a=some x)
 unm: ∀k a x,k<=nE->nF a=some x->un k a=true->(hp k).get (base+a)=none
 nob: ∀i,kd i≠.pa->nF i=none
 first:base=H0.next/\base+ops.size<=(hp 0).next/\∀id x,(hp 0).get id=some x->H0.get id=some x
section
variable {gl:bI} {ρ:Nat->Int} {ops:Array Oper} {pd:Tr W} {H0:Hp} (p:Fj P ρ ops pd H0)
structure Fj.Inv (E0:En) (a0:Act) (w0:World) (L:Nat->Prop) (a:Act) (w:World):Prop where
 defers:a.defers=a0.defers
 size:a.tmps.size=a0.tmps.size
 closed: ∀i j,p.bf i j=true->L j->L i
 ex: ∃(E:En) (Hc:Hp) (k:Nat),k<=p.nE/\(∀(j:Nat) (o:Oper),ops[j]?=some o->p.kd j= .e->(L j↔p.st j<k))/\E.ρ=ρ/\SN E0 H0 w0 E Hc w/\bO E Hc w/\Hc.next=(p.hp k).next/\Hc.res=none/\
  p.base+ops.size<=Hc.next/\(∀id,E.dm id->E0.dm id\/H0.next<=id)/\(∀(i:Nat) (o:Oper),ops[i]?=some o->¬L i->¬E.dm (p.base+i))/\
  (∀id x,(p.hp k).get id=some x->Hc.get id=some x)/\(∀b x,L b->p.un k b=true->p.nF b=some x->Hc.get (p.base+b)=some x)/\
  (∀t x,pd.get t=some x->(∀(j:Nat) (oj:Oper),ops[j]?=some oj->oj.dst=some t->¬L j)->∃u,a.tmps[t]?=some u/\VR E w.heap x u)/\
  (∀(j:Nat) (oj:Oper) (t:Nat),L j->ops[j]?=some oj->oj.dst=some t->∃u,a.tmps[t]?=some u/\VR E w.heap (p.val j) u)
theorem Dw {a:Act} {d:Option Nat} {u:Value} {t:Nat} (h:d≠some t):(a.put d u).tmps[t]?=a.tmps[t]?:=by
 cases d with
 |none=>rfl
 |some x=>
  simp only [Act.put]
  grind
theorem P_ {a:Act} {u:Value} {t:Nat} (h:t<a.tmps.size):(a.put (some t) u).tmps[t]?=some u:=by simp [Act.put,h]
theorem Fj.ajx: ∀(j i:Nat),p.bf i j=true->i<j/\j<ops.size:=by
 intro j
 induction j using Nat.strongRecOn with
 |_ j ih=>
  intro i h;obtain⟨o,e,g1,g2,g3,g4⟩:=p.gen i j h;have fW:=p.back j o g1 e g2 g3
  grind
theorem Fj.ado {i j:Nat} (h:p.bf i j=true): ∃o:Oper,ops[i]?=some o:=by have:=p.ajx j i h;exact⟨ops[i]'J,ad⟩
theorem Fj.step {E0:En} {a0:Act} {w0:World} {L:Nat->Prop} {a:Act} {w:World} (hd: ∀o∈ops.toList,∀d,o.dst=some d->d<a0.tmps.size) (inv:p.Inv E0 a0 w0 L a w) {i:Nat} {o:Oper} (ho:ops[i]?=some o) (hL: ¬L i)
 (hr: ∀e∈o.after,Region.binds .any e=true->L e.on) {K:Act->World->Prop} {Q:Exit->Act->World->Prop} (hk: ∀a' w',p.Inv E0 a0 w0 (fun j=>j=i\/L j) a' w'->K a' w'):wpOp P ops Q i K a w:=by
 obtain⟨U,Z,CF,E,Hc,k,hkn,Cz,hρ,KA,rel,kP,xL,kA,tK,hun,hhp,nh,wZ,hs1⟩:=inv
 have hbf: ∀j,p.bf j i=true->L j:=by
  intro j hj;obtain⟨o',e,g1,g2,g3,g4⟩:=p.gen j i hj;rw [ho] at g1;simp at g1;subst g1;have:=hr e g2 g3;rcases g4 with rfl|g4
  ·exact this
  ·exact CF j e.on g4 this
 have hii:p.bf i i≠true:=fun h=>hL (hbf i h);have wK:i<ops.size:=(alW.1 ho).1
 have sr:SR E w.heap (p.S i) a:=by
  intro t x ht;rcases p.bD i o ho t x ht with ⟨j,oj,g1,g2,g3,g4⟩|⟨g1,g2⟩
  ·subst g4;exact hs1 j oj t (hbf j g1) g2 g3
  ·exact wZ t x g1 fun j oj hj hjt hLj=>hL (CF i j (g2 j oj hj hjt) hLj)
 have I2: ∀x j,p.bf x j=true->(j=i\/L j)->(x=i\/L x):=by
  intro x j hx hj;rcases hj with rfl|hj
  ·exact .inr (hbf x hx)
  ·exact .inr (CF x j hx hj)
 have fin: ∀(u:Value) (E':En) (M8:Hp) (w':World) (k':Nat),SN E Hc w E' M8 w'->bO E' M8 w'->VR E' w'.heap (p.val i) u->k'<=p.nE->(∀(j:Nat) (o:Oper),ops[j]?=some o->p.kd j= .e->((j=i\/L j)↔p.st j<k'))->
  M8.next=(p.hp k').next->M8.res=none->Hc.next<=M8.next->(∀id,E'.dm id->E.dm id\/Hc.next<=id\/id=p.base+i)->(∀id x,(p.hp k').get id=some x->M8.get id=some x)->
  (∀b x,(b=i\/L b)->p.un k' b=true->p.nF b=some x->M8.get (p.base+b)=some x)->K (a.put o.dst u) w':=by
  intro u E' M8 w' k' q1 q2 q3 q4 q5 q6 q7 q8 q9 q10 q11;have kp:=q1.keeps rel;refine hk _ _ ⟨by rw [As.put_defers]; exact U,by rw [Dv]; exact Z,I2,E',M8,k',q4,q5,q1.ρ.trans hρ,KA.trans q1,q2,q6,q7,bk kA q8,?_,?_,q10,q11,?_,?_⟩
  ·intro id h;rcases q9 id h with h|h|h
   ·exact tK id h
   ·right;have:=p.first.1;omega
   ·right;have:=p.first.1;omega
  ·intro j oj hj hn hdj;have hj2:=(alW.1 hj).1;rcases q9 _ hdj with h|h|h
   ·exact hun j oj hj (fun h'=>hn (.inr h')) h
   ·omega
   ·exact hn (.inl J)
  ·intro t x ht Fw;obtain⟨y,g1,g2⟩:=wZ t x ht fun j oj hj hjt h'=>Fw j oj hj hjt (.inr h');exact⟨y,by rw [Dw (fun e=>Fw i o ho e (.inl rfl))]; exact g1,VR.cf kp _ _ g2⟩
  ·intro j oj t hj oS ht;by_cases hji:j=i
   ·subst hji;rw [ho] at oS;simp at oS;subst oS;rw [ht];exact⟨u,P_ (by rw [Z]; exact hd o (Array.mem_toList_iff.2 (anv ho)) t ht),q3⟩
   ·obtain⟨y,g1,g2⟩:=hs1 j oj t (hj.resolve_left hji) oS ht;refine⟨y,?_,VR.cf kp _ _ g2⟩;rw [Dw]
    ·exact g1
    ·intro h;exact hji (p.dst j i oj o t oS ho ht h)
 cases xN:p.kd i with
 |pa=>
  obtain⟨HA,N,g1,g2,g3,g4⟩:=p.pa i o ho xN;have hN:=g4 k hkn;have akk:=hun i o ho hL
  have r1:bO E ⟨.nil,N,some (p.base+i)⟩ w:=rel.part (by intro id x h; simp [Hp.get,Tr.get] at h) (by show Hc.next<=N; omega) (by
   intro q hq;simp at hq;subst hq
   exact⟨by show p.base+i<N; omega,akk⟩)
  refine g1.wpOp hρ r1 sr ho fun u E' w' st r' hv=>?_
  have hdn: ∀id,E'.dm id->E.dm id\/id=p.base+i:=by
   intro id h;rcases st.w? id h with h|h|h
   ·exact .inl h
   ·have h':N<=id/\id<HA.next:=h;omega
   ·have h':some (p.base+i)=some id:=h;simp at h';exact .inr h'.symm
  obtain⟨M8,f1,f2,f3,f4,f5,f6⟩:=frame rel (by intro id x h; simp [Hp.get,Tr.get] at h) st r' Hc.next (fun id hid h=>by
   rcases hdn id h with h|h
   ·exact rel.fresh id hid h
   ·omega)
  refine fin u E' M8 w' k f6 f5 hv hkn ?_ (by rw [f1,kP]) f2 J (fun id h=>(hdn id h).elim .inl fun h=> .inr (.inr h)) ?_ ?_
  ·intro j oj oS hj;rw [<- Cz j oj oS hj];constructor
   ·intro h;rcases h with rfl|h
    ·rw [xN] at hj; simp at hj
    ·exact h
   ·exact .inr
  ·intro id x h;exact f4 id x (hhp id x h) (by simp [Hp.get,Tr.get])
  ·intro b x hb hu hx;by_cases hbi:b=i
   ·subst hbi;rw [hx] at g3;exact f3 _ _ g3.symm
   ·exact f4 _ x (nh b x (hb.resolve_left hbi) hu hx) (by simp [Hp.get,Tr.get])
 |e=>
  obtain⟨Kf,g1,g2,g3,g4,g5⟩:=p.ev i o ho xN
  have T7:k<=p.st i:=by
   rcases aT (p.st i) k with h|h
   ·exact absurd ((Cz i o ho xN).2 h) hL
   ·exact h
  have hsk:p.st i=k:=by
   rcases aT k (p.st i) with h|h
   ·obtain⟨j,e1,e2,e3⟩:=p.ahz i o ho xN k h;have hj:=hbf j e3;obtain⟨oj,oS⟩:=p.ado e3;have:=(Cz j oj oS e1).1 hj;omega
   ·omega
  rw [hsk] at g1 g2 g4 g5;have hkE:=p.stl i o ho xN
  have nN: ∀id x,Kf.get id=some x->Hc.get id=some x:=by
   intro id x h;rcases g4 id x h with h|⟨b,e1,e2,rfl,e4⟩
   ·exact hhp id x h
   ·exact nh b x (hbf b e1) e2 e4
  have r1:bO E Kf w:=rel.part nN J (by rw [g3]; simp);refine g1.wpOp hρ r1 sr ho fun u E' w' st r' hv=>?_
  have hdn: ∀id,E'.dm id->E.dm id\/Hc.next<=id:=by
   intro id h;rcases st.w? id h with h|h|h
   ·exact .inl h
   ·right; omega
   ·rw [g3] at h; simp at h
  obtain⟨M8,f1,f2,f3,f4,f5,f6⟩:=frame rel nN st r' (p.hp (k+1)).next (fun id hid h=>r'.fresh id hid h)
  have alr:=st.QI;refine fin u E' M8 w' (k+1) f6 f5 hv J ?_ f1 f2 J (fun id h=>(hdn id h).elim .inl fun h=> .inr (.inl h)) f3 ?_
  ·intro j oj oS hj;constructor
   ·intro h;rcases h with rfl|h
    ·omega
    ·have:=(Cz j oj oS hj).1 h;omega
   ·intro h;rcases aT (p.st j) k with h'|h'
    ·exact .inr ((Cz j oj oS hj).2 h')
    ·exact .inl (p.inj j i hj xN J)
  ·intro b x hb hu hx;obtain⟨e1,e2⟩:=g5 b hu;by_cases hbi:b=i
   ·subst hbi;rw [p.nob b (by rw [xN]; simp)] at hx;simp at hx
   ·refine f4 _ x (nh b x (hb.resolve_left hbi) e1 hx) ?_
    cases hy:Kf.get (p.base+b) with
    |none=>rfl
    |some y=>
     exfalso;rcases g4 _ y hy with h|⟨c,c1,c2,c3,c4⟩
     ·rw [p.unm k b x hkn hx e1] at h;simp at h
     ·have:c=b:=J
      subst this;rw [e2] at c1;simp at c1
 |r=>
  have MS: ∀j,p.kd j= .e->p.bf j i=true->p.st j<k:=by intro j hj hb;obtain⟨oj,oS⟩:=p.ado hb;exact (Cz j oj oS hj).1 (hbf j hb)
  have CC: ∀(j:Nat) (oj:Oper),ops[j]?=some oj->p.kd j= .e->p.bf i j=true->k<=p.st j:=by
   intro j oj oS hj hb;rcases aT (p.st j) k with h|h
   ·exact absurd (CF i j hb ((Cz j oj oS hj).2 h)) hL
   ·exact h
  obtain⟨Kf,g1,g2,g3,g4⟩:=p.rd i o ho xN k hkn MS CC
  have nN: ∀id x,Kf.get id=some x->Hc.get id=some x:=by
   intro id x h;rcases g4 id x h with h|⟨b,e1,e2,rfl,e4⟩
   ·exact hhp id x h
   ·exact nh b x (hbf b e1) e2 e4
  have r1:bO E Kf w:=rel.part nN J (by rw [g3]; simp);refine g1.wpOp hρ r1 sr ho fun u E' w' st r' hv=>?_
  have hdn: ∀id,E'.dm id->E.dm id:=by
   intro id h;rcases st.w? id h with h|h|h
   ·exact h
   ·omega
   ·rw [g3] at h; simp at h
  obtain⟨M8,f1,f2,f3,f4,f5,f6⟩:=frame rel nN st r' Hc.next (fun id hid h=>rel.fresh id hid (hdn id h))
  have AQ: ∀id x,Hc.get id=some x->M8.get id=some x:=by
   intro id x h
   cases h':Kf.get id with
   |none=>exact f4 id x h h'
   |some y=> have:=nN id y h';rw [h] at this;simp at this;subst this;exact f3 id x h'
  refine fin u E' M8 w' k f6 f5 hv hkn ?_ (by rw [f1,kP]) f2 J (fun id h=> .inl (hdn id h)) (fun id x h=>AQ id x (hhp id x h)) ?_
  ·intro j oj oS hj;rw [<- Cz j oj oS hj];constructor
   ·intro h;rcases h with rfl|h
    ·rw [xN] at hj; simp at hj
    ·exact h
   ·exact .inr
  ·intro b x hb hu hx;by_cases hbi:b=i
   ·subst hbi;rw [p.nob b (by rw [xN]; simp)] at hx;simp at hx
   ·exact AQ _ x (nh b x (hb.resolve_left hbi) hu hx)
def left (l:Nat->Bool):Nat->Nat
 |0=>0
 |n+1=>left l n+(if l n then 0 else 1)
theorem QW {l l':Nat->Bool} (h: ∀j,l j=true->l' j=true): ∀n,left l' n<=left l n
 |0=>au _
 |n+1=>by
  have:=QW h n;simp only [left]
  grind
theorem QV {l l':Nat->Bool} (h: ∀j,l j=true->l' j=true) {i:Nat} (U:l i=false) (Z:l' i=true): ∀n,i<n->left l' n<left l n
 |0,hi=>by omega
 |n+1,hi=>by
  have hle:=QW h n;simp only [left];by_cases wK:i=n
  ·grind
  ·have:=QV h U Z n J
   grind
theorem AG {l:Nat->Bool}: ∀n,left l n=0->∀i,i<n->l i=true
 |0,_,i,hi=>by omega
 |n+1,h,i,hi=>by
  simp only [left] at h;by_cases wK:i=n
  ·grind
  ·exact AG n J i J
theorem Fj.Tx (q:Fj P ρ ops pd H0) {listed:Array Bool} (ik:listed.size=ops.size) (h:Region.ready .any ops listed= []): ∀i,i<ops.size->listed[i]?=some true:=by
 intro i
 induction i using Nat.strongRecOn with
 |_ i ih=>
  intro hi
  cases Y:listed[i]? with
  |none=>rw [anM] at Y; omega
  |some b=>
   cases b with
   |true=>rfl
   |false=>
    exfalso;have ho:ops[i]?=some ops[i]:=by simp [hi]
    have:i∈Region.ready .any ops listed:=by rw [mem_ready];refine⟨by simp [Y],ops[i],ho,fun e he hb=>?_⟩;have fW:=q.back i _ ho e he hb;simp [ih e.on fW J]
    grind
theorem Fj.any {E0:En} {a0:Act} {w0:World} (hd: ∀o∈ops.toList,∀d,o.dst=some d->d<a0.tmps.size) {Q:Exit->Act->World->Prop} (hq: ∀a w,p.Inv E0 a0 w0 (fun i=>i<ops.size) a w->Q .normal a w) :
 ∀(fuel:Nat) (listed:Array Bool) (a:Act) (w:World),listed.size=ops.size->left (fun i=>listed.getD i true) ops.size<=fuel->p.Inv E0 a0 w0 (fun i=>listed[i]?=some true) a w->wpAny P .any ops Q fuel listed a w:=by
 have Ym: ∀(listed:Array Bool) (a:Act) (w:World),listed.size=ops.size->p.Inv E0 a0 w0 (fun i=>listed[i]?=some true) a w->Region.ready .any ops listed= []->Q .normal a w:=by
  intro listed a w ik inv nO;have AQ:=p.Tx ik nO;refine hq a w ?_
  have:(fun i=>listed[i]?=some true)=(fun i=>i<ops.size):=by
   grind
  grind
 intro fuel
 induction fuel with
 |zero=>
  intro listed a w ik Ru inv;have AQ:=AG (l:=fun i=>listed.getD i true) ops.size J
  have nO:Region.ready .any ops listed= []:=by
   rw [am7];intro i hi;rw [mem_ready] at hi
   grind
  exact⟨nO,Ym listed a w ik inv nO⟩
 |succ fuel ih=>
  intro listed a w ik Ru inv;refine⟨Ym listed a w ik inv,fun i hi=>?_⟩;rw [mem_ready] at hi;obtain⟨U,o,Z,h3⟩:=hi;have wK:=(alW.1 Z).1
  have qR:listed[i]?=some false:=by simp_all
  refine p.step hd inv Z (by rw [qR]; simp) (fun e he hb=>?_) fun a' w' alx=>?_
  ·have:=h3 e he hb
   cases hc:listed[e.on]? with
   |none=>simp [hc] at this
   |some b=>simp [hc] at this; rw [this]
  ·refine ih _ a' w' (by simpa using ik) ?_ ?_
   ·have:=QV (l:=fun j=>listed.getD j true) (l':=fun j=>(listed.setIfInBounds i true).getD j true) (i:=i) (fun j hj=>?_) U ?_ ops.size wK
    ·omega
    ·by_cases hij:i=j
     all_goals simp_all
    simp_all
   grind
theorem Fj.start {E0:En} {s0:St} {a0:Act} {w0:World} (hs:s0.bD=pd) (hh:s0.h=H0) (hρ:E0.ρ=ρ) (fit:Fit E0 s0 a0 w0) (listed:Array Bool) (Y: ∀(i:Nat),listed[i]?≠some true):p.Inv E0 a0 w0 (fun i=>listed[i]?=some true) a0 w0:=by
 subst hs hh;obtain⟨U,Z,h3⟩:=p.first;have rel:=fit.rel;have r1:bO E0 ⟨s0.h.m,(p.hp 0).next,none⟩ w0:=rel.part (fun id x h=>h) (by show s0.h.next<=(p.hp 0).next; omega) ad;refine⟨rfl,rfl,fun i j _ h=>absurd h (Y j),E0,⟨s0.h.m,(p.hp 0).next,none⟩,0,amh _,fun j o _ _=> ⟨fun h=>absurd h (Y j),fun h=>by omega⟩,hρ,?_,r1,rfl,rfl,Z,fun id h=> .inl h,?_,fun id x h=>h3 id x h,fun b x h=>absurd h (Y b),?_,fun j oj t h=>absurd h (Y j)⟩
 ·have:=(eT.refl E0 s0.h w0).ajO;exact⟨this.ρ,this.dm,this.θ,this.κ,this.ro,this.rF,this.os,this.tape,this.output,this.size,this.cf,this.own,this.hd⟩
 ·intro i o _ _ tK;exact rel.fresh _ J tK
 ·intro t x ht _;exact fit.sr t x ht
theorem Fj.finish {E0:En} {s0 s':St} {a0 a:Act} {w0 w:World} (hh:s0.h=H0) (inv:p.Inv E0 a0 w0 (fun i=>i<ops.size) a w) (hpc:bV ρ s'.pc)
 (akn: ∀t x,s'.bD.get t=some x->(∃(j:Nat) (oj:Oper),ops[j]?=some oj/\oj.dst=some t/\p.val j=x)\/(pd.get t=some x/\∀(j:Nat) (oj:Oper),ops[j]?=some oj->oj.dst≠some t))
 (als: ∀id x,s'.h.get id=some x->(p.hp p.nE).get id=some x\/∃b,b<ops.size/\p.un p.nE b=true/\id=p.base+b/\p.nF b=some x)
 (ab7:(p.hp p.nE).next=s'.h.next) (xL:s'.h.res=none) (AQ: ∀(m:Nat),m<p.nE->∃(j:Nat) (o:Oper),ops[j]?=some o/\p.kd j= .e/\p.st j=m):mQ E0 s0 a0 w0 s' a w:=by
 subst hh;obtain⟨U,Z,CF,E,Hc,k,hkn,Cz,hρ,KA,rel,kP,Oi,kA,tK,hun,hhp,nh,wZ,hs1⟩:=inv
 have hk:k=p.nE:=by
  rcases aT k p.nE with h|h
  all_goals grind
 subst hk
 have nN: ∀id x,s'.h.get id=some x->Hc.get id=some x:=by
  intro id x h
  grind
 have hf:=p.first.1;refine⟨U,Z,E,?_,rel.part nN J (by rw [xL]; simp),?_,by rw [hρ]; exact hpc⟩
 ·refine SN.WN ⟨KA.ρ,KA.dm,KA.θ,KA.κ,KA.ro,KA.rF,KA.os,KA.tape,KA.output,KA.size,KA.cf,fun id o h=>KA.own id o (nN id o h),KA.hd⟩ J xL fun id h=>?_;rcases tK id h with g|g
  ·grind
  ·right;refine⟨g,?_⟩;rcases aT id s'.h.next with g'|g'
   ·exact g'
   ·exact absurd h (rel.fresh id J)
 ·intro t x ht
  grind
end
end
end Go.As
end
section
namespace Go.As
noncomputable section
mutual
def eK:W->W->Bool
 | .bool a,.bool b=>oe a b
 | .int k a,.int l b=>decide (k=l)&&eW a b
 | .str a,.str b=>decide (a=b)
 | .ptr i o,.ptr j p=>decide (i=j)&&decide (o=p)
 | .tY,.tY=>true
 | .mY a,.mY b=>iC a b
 | .slice i o l c,.slice j p m d=>decide (i=j)&&decide (o=p)&&decide (l=m)&&decide (c=d)
 | .fZ,.fZ=>true
 | .ro a n f,.ro b m g=>iC a b&&decide (n=m)&&decide (f=g)
 | .map i,.map j=>decide (i=j)
 | .rI,.rI=>true
 | .func f a b,.func g c d=>decide (f=g)&&iC a c&&iC b d
 | .wG,.wG=>true
 | .iface t v,.iface u x=>decide (t=u)&&eK v x
 | .xA,.xA=>true
 | .agg a,.agg b=>iC a b
 | .tuple a,.tuple b=>iC a b
 | .KY i,.KY j=>decide (i=j)
 | .wI i a,.wI j b=>decide (i=j)&&decide (a=b)
 | .emp,.emp=>true
 | .ep a t,.ep b u=>eW a b&&Nat.beq t u
 | .jP a,.jP b=>eW a b
 | .pb i n t,.pb j m u=>Nat.beq i j&&eW n m&&Nat.beq t u
 | .zG i a x o,.zG j b y p=>Nat.beq i j&&Nat.beq a b&&eW x y&&Nat.beq o p
 | .tV i l n t,.tV j k m u=>Nat.beq i j&&eW l k&&eW n m&&Nat.beq t u
 | .any,.any=>true
 | .xg a t,.xg b u=>eW a b&&Nat.beq t u
 |_,_=>false
def iC:List W->List W->Bool
 |[],[]=>true
 |x::xs,y::ys=>eK x y&&iC xs ys
 |_,_=>false
end
mutual
theorem jI: ∀(x y:W),eK x y=true->x=y
 | .bool a,y,h=>by cases y<;>simp [eK] at h<;>rw [rB _ _ h]
 | .int k a,y,h=>by cases y<;>simp [eK] at h<;>rw [h.1,cM _ _ h.2]
 | .str a,y,h=>by cases y<;>simp [eK] at h<;>simp [h]
 | .ptr i o,y,h=>by cases y<;>simp [eK] at h<;>simp [h]
 | .tY,y,h=>by cases y<;>simp [eK] at h<;>rfl
 | .mY a,y,h=>by cases y<;>simp [eK] at h; rw [fR _ _ h]
 | .slice i o l c,y,h=>by cases y<;>simp [eK] at h<;>simp [h]
 | .fZ,y,h=>by cases y<;>simp [eK] at h<;>rfl
 | .ro a n f,y,h=>by cases y<;>simp [eK] at h; rw [fR _ _ h.1.1,h.1.2,h.2]
 | .map i,y,h=>by cases y<;>simp [eK] at h<;>simp [h]
 | .rI,y,h=>by cases y<;>simp [eK] at h<;>rfl
 | .func f a b,y,h=>by cases y<;>simp [eK] at h; rw [h.1.1,fR _ _ h.1.2,fR _ _ h.2]
 | .wG,y,h=>by cases y<;>simp [eK] at h<;>rfl
 | .iface t v,y,h=>by cases y<;>simp [eK] at h; rw [h.1,jI _ _ h.2]
 | .xA,y,h=>by cases y<;>simp [eK] at h<;>rfl
 | .agg a,y,h=>by cases y<;>simp [eK] at h; rw [fR _ _ h]
 | .tuple a,y,h=>by cases y<;>simp [eK] at h; rw [fR _ _ h]
 | .KY i,y,h=>by cases y<;>simp [eK] at h<;>simp [h]
 | .wI i a,y,h=>by cases y<;>simp [eK] at h<;>simp [h]
 | .emp,y,h=>by cases y<;>simp [eK] at h<;>rfl
 | .ep a t,y,h=>by cases y<;>simp [eK] at h<;>rw [h.2,cM _ _ h.1]
 | .jP a,y,h=>by cases y<;>simp [eK] at h<;>rw [cM _ _ h]
 | .pb i n t,y,h=>by cases y<;>simp [eK] at h<;>rw [h.1.1,cM _ _ h.1.2,h.2]
 | .zG i a x o,y,h=>by cases y<;>simp [eK] at h<;>rw [h.1.1.1,h.1.1.2,cM _ _ h.1.2,h.2]
 | .tV i l n t,y,h=>by cases y<;>simp [eK] at h<;>rw [h.1.1.1,cM _ _ h.1.1.2,cM _ _ h.1.2,h.2]
 | .any,y,h=>by cases y<;>simp [eK] at h<;>rfl
 | .xg a t,y,h=>by cases y<;>simp [eK] at h<;>rw [h.2,cM _ _ h.1]
theorem fR: ∀(xs ys:List W),iC xs ys=true->xs=ys
 |[],ys,h=>by cases ys<;>simp [iC] at h; rfl
 |x::xs,ys,h=>by
  cases ys with
  |nil=>simp [iC] at h
  |cons y ys=>simp [iC] at h; rw [jI _ _ h.1,fR _ _ h.2]
end
def DE (o:Op):List Nat:=o.operands.toList.filterMap fun
 | .tmp t=>some t
 |_=>none
def reads (all:List Oper) (o:Oper):List Nat:=match o.guard with
 |none=>DE o.op
 |some (j,_)=>match eZ all j with
  |some oj=>match oj.dst with
   |some d=>d::DE o.op
   |none=>DE o.op
  |none=>DE o.op
def kindOf (tt:TT):Op->Kind
 | .load _ _=> .r
 | .lookup _ _ _ _=> .r
 | .call c=>match c.callee with
   | .builtin b=>match b with
     | .len=> .r
     | .min=> .pa
     | .max=> .pa
     |_=> .e
   |_=> .e
 | .store _ _ _=> .e
 | .insert _ _ _ _=> .e
 | .mapUpdate _ _ _ _=> .e
 | .next _ _=> .e
 | .range _ _=> .e
 | .convert t u _=>match tt t with
   |some i=>match i.kind with
    | .slice _=>match tt u with
      |some j=>match j.kind with
       | .string=> .r
       |_=> .e
      |none=> .e
    |_=> .pa
   |none=> .e
 | .panic _=> .e
 |_=> .pa
def nW (ms:List Nat):List Edge->Nat
 |[]=>0
 |e::es=>if Region.binds .any e then ((1 <<<e.on)|||ms.getD e.on 0)|||nW ms es else nW ms es
def qo:List Oper->List Nat->List Nat
 |[],ms=>ms
 |o::os,ms=>qo os (ms++ [nW ms o.after.toList])
structure Item where
 i:Nat
 o:Oper
 m:Nat
 k:Kind
 st:Nat
 rd:List Nat
def items (tt:TT) (all:List Oper) (ms:List Nat):List Oper->Nat->Nat->List Item
 |[],_,_=>[]
 |o::os,i,n=> ⟨i,o,ms.getD i 0,kindOf tt o.op,n,reads all o⟩ ::items tt all ms os (i+1) (match kindOf tt o.op with | .e=>n+1|_=>n)
def Kind.isE:Kind->Bool
 | .e=>true
 |_=>false
def Kind.X':Kind->Bool
 | .r=>true
 |_=>false
def xy (ms:List Nat) (is:List Item) (x:Item):Bool:=
 x.o.after.toList.all (fun e=>!Region.binds .any e||decide (e.on<x.i))&&
 decide (x.m=nW ms x.o.after.toList)&&
 x.rd.all (fun t=>is.all fun y=>decide (y.o.dst≠some t)||x.m.testBit y.i||(!x.k.X'&&y.m.testBit x.i))&&
 is.all (fun y=>decide (y.i=x.i)||(match y.o.dst with |some d=>decide (x.o.dst≠some d)|none=>true))&&
 (!x.k.isE||is.all fun y=>!y.k.isE||!decide (y.i<x.i)||x.m.testBit y.i)
def Ak (is:List Item) (n:Nat) (x:Item):List Nat:=
 (List.range (n+1)).filter fun k=>is.all fun y=>!y.k.isE||((!x.m.testBit y.i||decide (y.st<k))&&(!y.m.testBit x.i||decide (k<=y.st)))
structure Stat where
 is:List Item
 nE:Nat
 rs:List (Item×List Nat)
def jQ:List Item->Nat
 |[]=>0
 |x::xs=>match x.k with | .e=>jQ xs+1|_=>jQ xs
def stat (tt:TT) (all:List Oper):Option Stat:=
 let ms:=qo all [];let is:=items tt all ms all 0 0
 if is.all (xy ms is) then
  some ⟨is,jQ is,(is.filter (·.k.X')).map fun x=>(x,Ak is (jQ is) x)⟩
 else none
def only (bD:Tr W):List Nat->Tr W
 |[]=> .nil
 |t::ts=>match bD.get t with
  |some v=>(only bD ts).put t (some v)
  |none=>only bD ts
structure PD where
 bD:Tr W
 mb:List (Hp×Nat)
 ib:List (Nat×dM)
 Bw:List (Option dM)
 vs:List W
def fF (base bm mm:Nat):List (Nat×dM)->Hp->Hp
 |[],h=>h
 |(a,x)::r,h=>if bm.testBit a&&!mm.testBit a then (fF base bm mm r h).put (base+a) x else fF base bm mm r h
def U6 (tt:TT) (call:ei) (all:List Oper) (o:Oper) (s:St):T (W×St):=
 vM all s o fun s b=>if b then Jq tt call s o.op else .ret (W.undef,s)
def uz (bD:Tr W) (d:Option Nat) (v:W):Tr W:=match d with
 |some t=>bD.put t (some v)
 |none=>bD
def Z5 (tt:TT) (call:ei) (all:List Oper) (base N:Nat) (pc:List (SB×Bool)) (x:Item) (d:PD):T PD:=
 match d.mb with
 |[]=> .fail
 |(h,mm)::rest=>
  match x.k with
  | .pa=>(U6 tt call all x.o ⟨only d.bD x.rd,⟨.nil,N,some (base+x.i)⟩,pc⟩).bind fun (v,s')=>
    if s'.h.next=N then
     .ret ⟨uz d.bD x.o.dst v,d.mb,match s'.h.get (base+x.i) with |some b=>(x.i,b)::d.ib|none=>d.ib,s'.h.get (base+x.i)::d.Bw,v::d.vs⟩
    else .fail
  | .e=>(U6 tt call all x.o ⟨only d.bD x.rd,fF base x.m mm d.ib h,pc⟩).bind fun (v,s')=>
    if s'.h.next<=N/\s'.h.res=none then
     .ret ⟨uz d.bD x.o.dst v,(s'.h,mm|||x.m)::(h,mm)::rest,d.ib,none::d.Bw,v::d.vs⟩
    else .fail
  | .r=>(U6 tt call all x.o ⟨only d.bD x.rd,fF base x.m mm d.ib h,pc⟩).bind fun (v,_)=>
    .ret ⟨uz d.bD x.o.dst v,d.mb,d.ib,none::d.Bw,v::d.vs⟩
def T.zT {α β:Type} (pc:List (SB×Bool)) (f:List (SB×Bool)->α->T β):T α->T β
 | .fail=> .fail
 | .ret a=>f pc a
 | .split c x y=>match jY pc c with
   |some true=>T.zT pc f x
   |some false=>T.zT pc f y
   |none=> .split c (T.zT ((c,true)::pc) f x) (T.zT ((c,false)::pc) f y)
def Us (tt:TT) (call:ei) (all:List Oper) (base N:Nat):List Item->List (SB×Bool)->PD->T (List (SB×Bool)×PD)
 |[],pc,d=> .ret (pc,d)
 |x::xs,pc,d=>(Z5 tt call all base N pc x d).zT pc (Us tt call all base N xs)
def Cn (tt:TT) (call:ei) (all:List Oper) (base:Nat) (pc:List (SB×Bool)) (x:Item) (v:W) (S:Tr W) (ib:List (Nat×dM)) (mb:List (Hp×Nat)):List Nat->T Unit
 |[]=> .ret ()
 |k::ks=>match eZ mb k with
  |some (h,mm)=>(U6 tt call all x.o ⟨S,fF base x.m mm ib h,pc⟩).bind fun (u,_)=>
   if eK u v then Cn tt call all base pc x v S ib mb ks else .fail
  |none=> .fail
def Io (tt:TT) (call:ei) (all:List Oper) (base:Nat) (d:PD) (mb:List (Hp×Nat)) (vs:List W):List (Item×List Nat)->List (SB×Bool)->T (List (SB×Bool))
 |[],pc=> .ret pc
 |(x,ks)::r,pc=>match eZ vs x.i with
  |some v=>(Cn tt call all base pc x v (only d.bD x.rd) d.ib mb ks).zT pc fun pc _=>Io tt call all base d mb vs r pc
  |none=> .fail
def HX (base:Nat) (ib:List (Nat×dM)) (mb:List (Hp×Nat)):Bool:=
 ib.all fun (a,_)=>mb.all fun (h,mm)=>mm.testBit a||(h.get (base+a)).isNone
def EK (tt:TT) (call:ei) (all:List Oper) (q:Stat) (s:St):T St:=
 match s.h.res with
 |some _=> .fail
 |none=>
 let base:=s.h.next;let n:=all.length;let N:=base+n+1099511627776
 (Us tt call all base N q.is s.pc ⟨s.bD,[(⟨s.h.m,base+n,none⟩,0)],[],[],[]⟩).bind fun (pc,d)=>
  match d.mb with
  |[]=> .fail
  |(h,mm)::_=>
   (Io tt call all base d d.mb.reverse d.vs.reverse q.rs pc).bind fun pc=>
    if HX base d.ib d.mb then .ret ⟨d.bD,fF base ((1 <<<n)-1) mm d.ib h,pc⟩ else .fail
def draw (tt:TT) (call:ei) (all:List Oper) (s:St):T St:=
 match stat tt all with
 |none=> .fail
 |some q=>EK tt call all q s
end
end Go.As
end
section
namespace Go.As
section
variable {P:Program}
theorem JG [bI] {tt:TT} (cJ:eA P tt) {call:ei} (hc:iq P call) {ops:Array Oper} {o:Oper} {s s':St} {v:W} {ρ:Nat->Int} (hp:bV ρ s.pc) (h:(U6 tt call ops.toList o s).leaf ρ=some (v,s')) :
 Fo P ρ ops o s.bD s.h v s'.h:=by
 intro E a w hρ r sr;subst hρ;unfold U6 at h;obtain⟨ef,fy,U⟩:=DG ⟨r,sr,hp⟩ h;cases hw:Region.wanted o (yielded ops a.tmps)<;>rw [hw] at U
 ·grind [bC]
 ·simp only [if_true] at U;obtain⟨_,_,q3⟩:=RP cJ hc (s:={ s with pc:=ef }) (o:=o) r sr fy U;exact .inr ⟨rfl,q3⟩
theorem iD {α:Type} {ρ:Nat->Int} {s:St} {c:SB} {f:St->Bool->T α} {r:α} (h:(jN s c f).leaf ρ=some r): ∃ef b,(f { s with pc:=ef } b).leaf ρ=some r:=by
 unfold jN at h;split at h
 ·rename_i b _; exact⟨s.pc,b,h⟩
 grind [T.leaf]
theorem Iy {α:Type} {ρ:Nat->Int} {s:St} {all:List Oper} {o:Oper} {f:St->Bool->T α} {r:α} (h:(vM all s o f).leaf ρ=some r): ∃ef b,(f { s with pc:=ef } b).leaf ρ=some r:=by
 unfold vM at h;split at h
 ·exact⟨s.pc,true,h⟩
 ·split at h
  ·split at h
   ·split at h
    ·obtain⟨ef,b,U⟩:=iD h; exact⟨ef,_,U⟩
    ·exact⟨s.pc,_,h⟩
    grind [T.leaf]
   grind [T.leaf]
  grind [T.leaf]
theorem DH {ρ:Nat->Int} {s:St} {x:Operand} {f:W->T (W×St)} {r:W×St} (h:(yF s x f).leaf ρ=some r): ∃v,(f v).leaf ρ=some r:=by
 grind [yF,T.leaf]
theorem vH {ρ:Nat->Int} {s s':St} {x:Option W} {v:W} (h:(ph s x).leaf ρ=some (v,s')):s'=s:=by
 unfold ph at h
 grind [bC,T.leaf]
theorem aeO {tt:TT} {op:Op} (h:kindOf tt op= .r):(∃t x,op= .load t x)\/(∃t x i ok,op= .lookup t x i ok)\/(∃c:Call,op= .call c/\c.callee= .builtin .len)\/∃t u x i j e,op= .convert t u x/\tt t=some i/\i.kind= .slice e/\tt u=some j/\j.kind= .string:=by
 unfold kindOf at h;split at h<;>try (simp at h; done)
 all_goals grind
theorem Gu {α:Type} {ρ:Nat->Int} {s:St} {i n:V} {f:St->T α} {r:α} (h:(yG s i n f).leaf ρ=some r): ∃ef,(f { s with pc:=ef }).leaf ρ=some r:=by
 unfold yG at h;obtain⟨fN,b1,U⟩:=iD h;split at U
 ·grind [T.leaf]
 ·obtain⟨jK,b2,Z⟩:=iD U
  grind [T.leaf]
theorem tn {α:Type} {ρ:Nat->Int} {kk:TK} {k:W} {r:α} {f:St->T α}: ∀{es:List (W×W×Nat)} {s:St},(tp kk k es s f).leaf ρ=some r->∃ef,(f { s with pc:=ef }).leaf ρ=some r
 |[],s,h=> ⟨s.pc,h⟩
 |(k',v,b)::es,s,h=>by
  simp only [tp] at h;split at h
  ·split at h
   ·exact⟨s.pc,h⟩
   ·exact tn h
  ·split at h
   ·obtain⟨fN,b1,U⟩:=iD h;split at U
    ·grind
    ·obtain⟨jK,Z⟩:=tn U
     grind
   ·exact⟨s.pc,h⟩
theorem Fs {α:Type} {ρ:Nat->Int} {tt:TT} {t:Nat} {m k:W} {r:α} {f:St->T α} {s:St} (h:(nG tt t m k s f).leaf ρ=some r): ∃ef,(f { s with pc:=ef }).leaf ρ=some r:=by
 unfold nG at h;split at h
 ·split at h
  ·split at h
   ·split at h
    ·exact tn h
    ·exact⟨s.pc,h⟩
   ·exact⟨s.pc,h⟩
  ·exact⟨s.pc,h⟩
 ·exact⟨s.pc,h⟩
theorem aax {s s':St} {cs:List W} {e:V} {v:W} {ρ:Nat->Int} (h:(Hq s cs e).leaf ρ=some (v,s')):s'.h=s.h:=by
 grind [Hq,T.leaf,Gu,bC]
theorem Ul {tt:TT} {s s':St} {ty t:Nat} {k:W} {ok:Bool} {e:V} {v:W} {ρ:Nat->Int} (h:(zx tt ty k ok e t s).leaf ρ=some (v,s')):s'.h=s.h:=by
 unfold zx at h;split at h
 ·grind [T.leaf]
 ·split at h
  ·grind [T.leaf]
  ·obtain⟨ef,b,U⟩:=iD h
   grind [bC]
theorem Bd {α:Type} {ρ:Nat->Int} {i:V} {r:α}: ∀{ov:List (V×List W)} {s:St} {k:St->T α},(ug i ov s k).leaf ρ=some r->∃ef,(k { s with pc:=ef }).leaf ρ=some r
 |[],s,k,h=> ⟨s.pc,h⟩
 |(j,c)::l,s,k,h=>by
  simp only [ug] at h;split at h
  ·exact⟨s.pc,h⟩
  ·obtain⟨fN,b1,U⟩:=iD h;split at U
   ·grind
   ·obtain⟨jK,Z⟩:=Bd U
    grind
theorem Um {tt:TT} {s s':St} {ty id es off:Nat} {i:V} {v:W} {ρ:Nat->Int} (h:(zy tt s ty id es i off).leaf ρ=some (v,s')):s'.h=s.h:=by
 unfold zy at h;split at h
 ·split at h
  ·grind [T.leaf,aax]
  ·split at h
   all_goals grind [Gu,Bd,vH,T.leaf]
  grind [T.leaf]
 grind [T.leaf]
theorem zp {α:Type} {ρ:Nat->Int} {x:V} {r:α}: ∀{ov:List (V×W)} {s:St} {k:Option W->St->T α},(te x ov s k).leaf ρ=some r->∃o ef,(k o { s with pc:=ef }).leaf ρ=some r
 |[],s,k,h=> ⟨none,s.pc,h⟩
 |(j,c)::l,s,k,h=>by
  simp only [te] at h;split at h
  ·exact⟨_,s.pc,h⟩
  ·obtain⟨fN,b1,U⟩:=iD h;split at U
   ·exact⟨_,fN,U⟩
   ·obtain⟨o,jK,Z⟩:=zp U;exact⟨o,jK,Z⟩
theorem Uk {tt:TT} {ty:Nat} {k:W} {ok:Bool} {e:V} {ov:List (V×W)} {s s':St} {v:W} {ρ:Nat->Int} (h:(zw tt ty k ok e ov s).leaf ρ=some (v,s')):s'.h=s.h:=by
 unfold zw at h;split at h
 ·simp [T.leaf] at h
 ·split at h
  ·simp [T.leaf] at h
  ·obtain⟨o,fN,U⟩:=zp h;split at U
   ·have:=bC U;simp only [ak] at this;rw [<- this.2]
   ·obtain⟨jK,b2,Z⟩:=iD U;split at Z
    ·have:=bC Z;simp only [ak] at this;rw [<- this.2]
    ·simp [T.leaf] at Z
theorem afA {tt:TT} {call:ei} {op:Op} {s s':St} {v:W} {ρ:Nat->Int} (hk:kindOf tt op= .r) (h:(Jq tt call s op).leaf ρ=some (v,s')):s'.h=s.h:=by
 rcases aeO hk with ⟨t,x,rfl⟩|⟨t,x,i,ok,rfl⟩|⟨c,rfl,hc⟩|⟨t,u,x,i,j,e,rfl,hi,he,hj,hs⟩
 ·grind [Jq,DH,Um,vH]
 ·grind [Jq,DH,Ul,Uk,Fs,vH,T.leaf]
 ·simp only [Jq,JA] at h;split at h
  ·grind [T.leaf]
  ·rw [hc] at h;simp only [wq] at h
   grind [vH,T.leaf]
 ·simp only [Jq] at h;obtain⟨p,U⟩:=DH h;split at U
  ·grind [CN,T.leaf]
  obtain⟨H,e1,rfl⟩:=pg U;unfold oV at e1;rw [hi,hj] at e1;simp only [hs,he] at e1;split at e1
  ·grind
  ·split at e1
   ·split at e1
    ·grind
    ·split at e1
     ·rw [aP] at e1
      grind
     grind
    grind
   grind
theorem aja {tt:TT} {call:ei} {all:List Oper} {o:Oper} {s s':St} {v:W} {ρ:Nat->Int} (hk:kindOf tt o.op= .r) (h:(U6 tt call all o s).leaf ρ=some (v,s')):s'.h=s.h:=by
 unfold U6 at h;obtain⟨ef,b,U⟩:=Iy h;cases b
 ·grind [bC]
 ·simp only [if_true] at U;exact afA (s:={ s with pc:=ef }) hk U
theorem n4 {base bm mm:Nat}: ∀{l:List (Nat×dM)} {h:Hp} {id:Nat} {x:dM},(fF base bm mm l h).get id=some x->h.get id=some x\/∃a,(a,x)∈l/\bm.testBit a=true/\mm.testBit a=false/\id=base+a
 |[],h,id,x,hh=> .inl hh
 |(a,y)::r,h,id,x,hh=>by
  simp only [fF] at hh;split at hh
  ·rename_i hb;rw [Hp.bQ] at hh;split at hh
   ·rename_i e
    grind
   ·rcases n4 hh with U|⟨b,U,Z⟩
    all_goals grind
  ·rcases n4 hh with U|⟨b,U,Z⟩
   all_goals grind
theorem jy {base bm mm:Nat}: ∀(l:List (Nat×dM)) (h:Hp),(fF base bm mm l h).next=h.next/\(fF base bm mm l h).res=h.res
 |[],h=> ⟨rfl,rfl⟩
 |(a,y)::r,h=>by
  have:=jy (base:=base) (bm:=bm) (mm:=mm) r h;simp only [fF];split
  ·exact this
  grind
theorem yE {bD:Tr W}: ∀{ts:List Nat} {t:Nat} {x:W},(only bD ts).get t=some x->t∈ts/\bD.get t=some x
 |[],t,x,h=>by simp [only,Tr.get] at h
 |u::us,t,x,h=>by
  simp only [only] at h;split at h
  ·rename_i v hv;rw [Tr.bQ] at h;split at h
   ·rename_i e
    grind
   ·have:=yE h
    grind
  ·have:=yE h
   grind
theorem vD {bD:Tr W} {d:Option Nat} {v:W} {t:Nat}:(uz bD d v).get t=if d=some t then some v else bD.get t:=by
 cases d with
 |none=>simp [uz]
 |some u=>
  grind [uz,Tr.bQ]
theorem oJ {ms:List Nat} {i:Nat}: ∀{es:List Edge},(nW ms es).testBit i=true->∃e∈es,Region.binds .any e=true/\(e.on=i\/(ms.getD e.on 0).testBit i=true)
 |[],h=>by simp [nW] at h
 |e::es,h=>by
  simp only [nW] at h;split at h
  ·rename_i hb;simp only [Nat.testBit_or,amp] at h;rcases h with (h|h)|h
   ·rw [Nat.shiftLeft_eq,amv,Nat.testBit_two_pow] at h
    grind
   ·grind
   ·obtain⟨e',U,Z⟩:=oJ h
    grind
  ·obtain⟨e',U,Z⟩:=oJ h
   grind
def jx (tt:TT):List Oper->Nat
 |[]=>0
 |o::os=>(match kindOf tt o.op with | .e=>1|_=>0)+jx tt os
theorem jL {tt:TT} {all:List Oper} {ms:List Nat}: ∀(os:List Oper) (i n j:Nat),(items tt all ms os i n)[j]?=(os[j]?).map fun o=> ⟨i+j,o,ms.getD (i+j) 0,kindOf tt o.op,n+jx tt (os.take j),reads all o⟩
 |[],i,n,j=>by simp [items]
 |o::os,i,n,j=>by
  simp only [items]
  cases j with
  |zero=>simp [jx]
  |succ j=>
   rw [aG,jL os]
   grind [jx]
theorem sP {tt:TT} {all:List Oper} {ms:List Nat}: ∀(os:List Oper) (i n:Nat),(items tt all ms os i n).length=os.length
 |[],i,n=>rfl
 |o::os,i,n=>by simp [items,sP os]
theorem mO {tt:TT} {all:List Oper} {ms:List Nat}: ∀(os:List Oper) (i n:Nat),jQ (items tt all ms os i n)=jx tt os
 |[],i,n=>rfl
 |o::os,i,n=>by
  simp only [items,jQ,jx,mO os]
  grind
end
section
variable {P:Program}
def Fh [bI] (P:Program) (ρ:Nat->Int) (ops:Array Oper) (base N:Nat) (x:Item) (d:PD) (v:W) (ob:Option dM) (d1:PD):Prop:=
 ∃h mm rest,d.mb=(h,mm)::rest/\match x.k with
  | .pa=>d1.mb=d.mb/\∃HA,Fo P ρ ops x.o (only d.bD x.rd) ⟨.nil,N,some (base+x.i)⟩ v HA/\HA.next=N/\ob=HA.get (base+x.i)
  | .e=>ob=none/\∃hn,d1.mb=(hn,mm|||x.m)::d.mb/\hn.next<=N/\hn.res=none/\Fo P ρ ops x.o (only d.bD x.rd) (fF base x.m mm d.ib h) v hn
  | .r=>ob=none/\d1.mb=d.mb
theorem Z4 [bI] {tt:TT} (cJ:eA P tt) {call:ei} (hc:iq P call) {ops:Array Oper} {base N:Nat} {pc:List (SB×Bool)} {ρ:Nat->Int} (hp:bV ρ pc) {x:Item} {d d1:PD} (h:(Z5 tt call ops.toList base N pc x d).leaf ρ=some d1) :
 ∃v ob,d1.bD=uz d.bD x.o.dst v/\d1.vs=v::d.vs/\d1.Bw=ob::d.Bw/\d1.ib=(match ob with |some b=>(x.i,b)::d.ib|none=>d.ib)/\Fh P ρ ops base N x d v ob d1:=by
 unfold Z5 at h;split at h
 ·grind [T.leaf]
 ·rename_i h0 mm rest hs;split at h
  ·rename_i hk;obtain⟨⟨v,s'⟩,U,Z⟩:=T.fg h;have ha:=JG cJ hc (s:=⟨only d.bD x.rd,⟨.nil,N,some (base+x.i)⟩,pc⟩) hp U;simp only at Z;split at Z
   ·rename_i hn;have:=bC Z;subst this;refine⟨v,s'.h.get (base+x.i),rfl,rfl,rfl,?_,h0,mm,rest,hs,?_⟩
    all_goals grind
   grind [T.leaf]
  ·rename_i hk;obtain⟨⟨v,s'⟩,U,Z⟩:=T.fg h;have ha:=JG cJ hc (s:=⟨only d.bD x.rd,fF base x.m mm d.ib h0,pc⟩) hp U;simp only at Z;split at Z
   ·rename_i hn;have:=bC Z;subst this;refine⟨v,none,rfl,rfl,rfl,rfl,h0,mm,rest,hs,?_⟩
    grind
   ·simp [T.leaf] at Z
  ·rename_i hk;obtain⟨⟨v,s'⟩,U,Z⟩:=T.fg h;have:=bC Z;subst this;refine⟨v,none,rfl,rfl,rfl,rfl,h0,mm,rest,hs,?_⟩
   grind
theorem Fh.mb [bI] {ρ:Nat->Int} {ops:Array Oper} {base N:Nat} {x:Item} {d d1:PD} {v:W} {ob:Option dM} (h:Fh P ρ ops base N x d v ob d1): ∃pre,d1.mb=pre++d.mb/\pre.length=jQ [x]:=by
 obtain⟨h0,mm,rest,hs,U⟩:=h;cases hk:x.k<;>rw [hk] at U
 ·simp_all [jQ]
 ·obtain⟨_,hn,Z,_⟩:=U;exact⟨[(hn,mm|||x.m)],by rw [Z]; rfl,by simp [jQ,hk]⟩
 simp_all [jQ]
theorem Fh.nxt [bI] {ρ:Nat->Int} {ops:Array Oper} {base N:Nat} {x:Item} {d d1:PD} {v:W} {ob:Option dM} (h:Fh P ρ ops base N x d v ob d1) (hh: ∀q∈d.mb,q.1.next<=N/\q.1.res=none): ∀q∈d1.mb,q.1.next<=N/\q.1.res=none:=by
 obtain⟨h0,mm,rest,hs,U⟩:=h
 grind
structure ajF [bI] (P:Program) (ρ:Nat->Int) (ops:Array Oper) (base N:Nat) (xs:List Item) (d d':PD):Prop where
 vs: ∃pre,d'.vs=pre++d.vs/\pre.length=xs.length
 Bw: ∃pre,d'.Bw=pre++d.Bw/\pre.length=xs.length
 mb: ∃pre,d'.mb=pre++d.mb/\pre.length=jQ xs
 nF: ∀a b,(a,b)∈d'.ib->(a,b)∈d.ib\/∃p x,xs[p]?=some x/\x.i=a/\d'.Bw.reverse[d.Bw.length+p]?=some (some b)
 ak8: ∀p x b,xs[p]?=some x->d'.Bw.reverse[d.Bw.length+p]?=some (some b)->(x.i,b)∈d'.ib
 alK: ∀q,q∈d.ib->q∈d'.ib
 slot: ∀t x,d'.bD.get t=some x->(∃p y,xs[p]?=some y/\y.o.dst=some t/\d'.vs.reverse[d.vs.length+p]?=some x)\/(d.bD.get t=some x/\∀y∈xs,y.o.dst≠some t)
 same: ∀t,(∀y∈xs,y.o.dst≠some t)->d'.bD.get t=d.bD.get t
 nxt:(∀q∈d.mb,q.1.next<=N/\q.1.res=none)->∀q∈d'.mb,q.1.next<=N/\q.1.res=none
 at_: ∀p x,xs[p]?=some x->∃dp Ur v ob pre,Fh P ρ ops base N x dp v ob Ur/\d'.vs.reverse[d.vs.length+p]?=some v/\d'.Bw.reverse[d.Bw.length+p]?=some ob/\d'.mb=pre++Ur.mb/\dp.mb.length=d.mb.length+jQ (xs.take p)/\
  (∀q,q∈dp.ib->q∈d'.ib)/\(∀t,(∀y∈xs.drop p,y.o.dst≠some t)->d'.bD.get t=dp.bD.get t)/\
  (∀t z,dp.bD.get t=some z->(∃p' y,p'<p/\xs[p']?=some y/\y.o.dst=some t/\d'.vs.reverse[d.vs.length+p']?=some z)\/(d.bD.get t=some z/\∀y∈xs.take p,y.o.dst≠some t))
theorem Xc {α:Type} {l pre l0:List α} {v:α} (h:l=pre++v::l0):l.reverse[l0.length]?=some v:=by
 grind
theorem BT (x:Item) (xs:List Item):jQ (x::xs)=jQ [x]+jQ xs:=by
 grind [jQ]
theorem T.lX {α β:Type} {ρ:Nat->Int} {f:List (SB×Bool)->α->T β} {r:β}: ∀{x:T α} {pc:List (SB×Bool)},bV ρ pc->(x.zT pc f).leaf ρ=some r->∃a ef,x.leaf ρ=some a/\bV ρ ef/\(f ef a).leaf ρ=some r
 | .fail,pc,_,h=>by simp [T.zT,T.leaf] at h
 | .ret a,pc,hp,h=> ⟨a,pc,rfl,hp,h⟩
 | .split c x y,pc,hp,h=>by
   simp only [T.zT] at h
   cases hd:jY pc c with
   |some b=>
    rw [hd] at h;have hb:=gD hp hd;simp only [T.leaf,hb]
    cases b with
    |true=>exact T.lX hp h
    |false=>exact T.lX hp h
   |none=>
    rw [hd] at h;simp only [T.leaf] at h ⊢
    cases hb:c.den ρ with
    |true=>
     rw [hb] at h
     exact T.lX (x:=x) (pc:=(c,true)::pc) (fun c' b' hm=>by
      rcases ay.1 hm with he|hm
      ·simp only [ak] at he; rw [he.1,he.2]; exact hb
      ·exact hp c' b' hm) h
    |false=>
     rw [hb] at h
     exact T.lX (x:=y) (pc:=(c,false)::pc) (fun c' b' hm=>by
      rcases ay.1 hm with he|hm
      ·simp only [ak] at he; rw [he.1,he.2]; exact hb
      ·exact hp c' b' hm) h
theorem R6 {tt:TT} {call:ei} {all:List Oper} {base N:Nat} {ρ:Nat->Int}: ∀(xs:List Item) {pc ef:List (SB×Bool)} {d d':PD},bV ρ pc->(Us tt call all base N xs pc d).leaf ρ=some (ef,d')->bV ρ ef
 |[],pc,ef,d,d',hp,h=>by
  have:=bC h
  grind
 |x::xs,pc,ef,d,d',hp,h=>by simp only [Us] at h;obtain⟨d1,fN,_,fA,Z⟩:=T.lX hp h;exact R6 xs fA Z
theorem R7 [bI] {tt:TT} (cJ:eA P tt) {call:ei} (hc:iq P call) {ops:Array Oper} {base N:Nat} {ρ:Nat->Int}: ∀(xs:List Item) {pc ef:List (SB×Bool)} {d d':PD},bV ρ pc->(Us tt call ops.toList base N xs pc d).leaf ρ=some (ef,d')->ajF P ρ ops base N xs d d'
 |[],pc,ef,d,d',hp,h=>by have:=bC h;simp only [ak] at this;obtain⟨_,rfl⟩:=this;exact⟨⟨[],rfl,rfl⟩,⟨[],rfl,rfl⟩,⟨[],rfl,rfl⟩,fun a b h=> .inl h,fun p x b hh=>by simp at hh,fun q h=>h,fun t x h=> .inr ⟨h,ad⟩,fun t _=>rfl,fun h=>h,fun p x hh=>by simp at hh⟩
 |x::xs,pc,ef,d,d',hp,h=>by
  simp only [Us] at h;obtain⟨d1,fN,U,fA,Z⟩:=T.lX hp h;obtain⟨v,ob,e1,e2,e3,e4,hF⟩:=Z4 cJ hc hp U;obtain⟨⟨pv,v1,v2⟩,⟨po,o1,o2⟩,⟨ps,s1,s2⟩,b1,b2,b3,sl,sm,nx,jt⟩:=R7 cJ hc xs fA Z;obtain⟨qs,t1,t2⟩:=hF.mb;have hv0:d'.vs.reverse[d.vs.length]?=some v:=Xc (by rw [v1,e2]);have ho0:d'.Bw.reverse[d.Bw.length]?=some ob:=Xc (by rw [o1,e3]);have yR:d1.vs.length=d.vs.length+1:=by rw [e2]; rfl
  have hol:d1.Bw.length=d.Bw.length+1:=by rw [e3]; rfl
  have ri: ∀q,q∈d.ib->q∈d1.ib:=by
   intro q hq
   grind
  have xK: ∀(p n:Nat),n+1+p=n+(p+1):=by intro p n; omega
  refine⟨⟨pv++ [v],by rw [v1,e2]; simp,by simp [v2]⟩,⟨po++ [ob],by rw [o1,e3]; simp,by simp [o2]⟩,⟨ps++qs,by rw [s1,t1]; simp,by rw [aZ,BT,s2,t2]; omega⟩,?_,?_,fun q hq=>b3 q (ri q hq),?_,?_,fun hh=>nx (hF.nxt hh),?_⟩
  ·intro a b MX;rcases b1 a b MX with hh|⟨p,y,g1,g2,g3⟩
   ·rw [e4] at hh
    cases ob with
    |none=>exact .inl hh
    |some c=>
     simp only [ay,ak] at hh;rcases hh with ⟨rfl,rfl⟩|hh
     ·exact .inr ⟨0,x,rfl,rfl,ho0⟩
     ·exact .inl hh
   ·exact .inr ⟨p+1,y,by simpa using g1,g2,by rw [<- xK,<- hol]; exact g3⟩
  ·intro p y b hy hb
   cases p with
   |zero=> simp at hy;subst hy;rw [a8,ho0] at hb;simp at hb;subst hb;exact b3 _ (by rw [e4]; simp)
   |succ p=> refine b2 p y b (by simpa using hy) ?_;rw [hol,xK];exact hb
  ·intro t y hy;rcases sl t y hy with ⟨p,z,g1,g2,g3⟩|⟨g1,g2⟩
   ·exact .inl ⟨p+1,z,by simpa using g1,g2,by rw [<- xK,<- yR]; exact g3⟩
   ·rw [e1,vD] at g1;split at g1
    ·rename_i hd;simp at g1;subst g1;exact .inl ⟨0,x,rfl,hd,hv0⟩
    ·rename_i hd;refine .inr ⟨g1,fun z hz=>?_⟩;rcases ay.1 hz with rfl|hz
     ·exact hd
     ·exact g2 z hz
  ·intro t ht;rw [sm t fun y hy=>ht y (by simp [hy]),e1,vD,af (ht x ad)]
  ·intro p y hy
   cases p with
   |zero=> simp at hy;subst hy;refine⟨d,d1,v,ob,ps,hF,hv0,ho0,s1,by simp [jQ],fun q hq=>b3 q (ri q hq),fun t ht=>?_,fun t z hz=> .inr ⟨hz,ad⟩⟩;rw [sm t fun y hy=>ht y (by simp [hy]),e1,vD,af (ht x ad)]
   |succ p=>
    obtain⟨dp,Ur,v',ob',pre,g1,g2,g3,g4,g5,g6,g7,g8⟩:=jt p y (by simpa using hy);refine⟨dp,Ur,v',ob',pre,g1,by rw [<- xK,<- yR]; exact g2,by rw [<- xK,<- hol]; exact g3,g4,?_,g6,fun t ht=>g7 t (by simpa using ht),fun t z hz=>?_⟩
    ·rw [g5,amz,BT,t1,aZ,t2];omega
    ·rcases g8 t z hz with ⟨p',y',q1,q2,q3,q4⟩|⟨q1,q2⟩
     ·exact .inl ⟨p'+1,y',J,by simpa using q2,q3,by rw [<- xK,<- yR]; exact q4⟩
     ·rw [e1,vD] at q1;split at q1
      ·rename_i hd;simp at q1;subst q1;exact .inl ⟨0,x,J,rfl,hd,hv0⟩
      ·rename_i hd;refine .inr ⟨q1,fun u hu=>?_⟩;rw [amz] at hu;rcases ay.1 hu with rfl|hu
       ·exact hd
       ·exact q2 u hu
end
end Go.As
end

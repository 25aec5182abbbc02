import Derived.Test.YtlgfoolepdjmoaaGreatDoorAsZN0
set_option linter.unusedSectionVars false
set_option linter.unusedVariables false
set_option linter.unusedSimpArgs false
section
namespace Go.As
section
variable {P:Program} {E:En} {w:World}
theorem bN.swap [bG] {H H2:Hp} (r:bN E H w) {id:Nat} {o o':dP} (Y:H.get id=some o) (ho:OR E w.heap id o') (hg:H2.get id=some o') (hs: ∀j,j≠id->H2.get j=H.get j) (hn:H2.next=H.next) (hr:H2.res=H.res):bN E H2 w:=by
 have key: ∀j x,H2.get j=some x->∃y,H.get j=some y:=by
  intro j x hj
  grind
 refine⟨fun i hi=>r.fresh i (by rw [<- hn]; exact hi),fun q hq=>by rw [hn]; exact r.res q (by rw [<- hr]; exact hq),fun j x hj=>?_,fun i j x y hi hj he=>?_,r.qC,r.iX,?_⟩
 ·by_cases h:j=id
  ·subst h;rw [hg] at hj;simp only [ag] at hj;subst hj;exact⟨(r.live j o Y).1,ho,(r.live j o Y).2.2⟩
  ·exact r.live j x (by rw [<- hs j h]; exact hj)
 ·obtain⟨x',hx⟩:=key i x hi;obtain⟨y',hy⟩:=key j y hj;exact r.inj i j x' y' hx hy he
 ·intro b x hb;obtain⟨q1,q2,q3⟩:=r.hid b x hb;refine⟨q1,q2,fun j y hj=>?_⟩;obtain⟨y',hy⟩:=key j y hj;exact q3 j y' hy
structure F0 (H H2:Hp):Prop where
 ab: ∀j x,H.get j=some x->∃y,H2.get j=some y
 ba: ∀j x,H2.get j=some x->∃y,H.get j=some y
 next:H2.next=H.next
 res:H2.res=H.res
theorem F0.put {H:Hp} {id:Nat} {o o':dP} (Y:H.get id=some o):F0 H (H.put id o'):=by
 refine⟨fun j x hj=>?_,fun j x hj=>?_,rfl,rfl⟩
 all_goals grind [Hp.bP]
theorem F0.symm {H H2:Hp} (a:F0 H H2):F0 H2 H:=⟨a.ba,a.ab,a.next.symm,a.res.symm⟩
theorem eS.left {H H2 H':Hp} {E':En} {w':World} (a:F0 H H2) (s:eS E H w E' H' w'):eS E H2 w E' H' w':=
 ⟨s.ρ,s.dm,s.θ,s.κ,s.ro,fun b hb=>(s.rF b hb).imp id (Or.imp (fun⟨i,o,U,Z⟩=>by obtain⟨y,hy⟩:=a.ab i o U; exact⟨i,y,hy,Z⟩) id),by rw [a.next]; exact s.NW,by rw [a.res]; exact s.rsm,
  fun i hi=>by rw [a.next,a.res]; exact s.ZT i hi,s.os,s.tape,s.output,s.size,fun b hb hn=>s.keep b hb fun i o ho=>by obtain⟨y,hy⟩:=a.ab i o ho; exact hn i y hy,
  fun i o ho fD=>by obtain⟨i0,o0,U,Z⟩:=s.own i o ho fD; obtain⟨y,hy⟩:=a.ab i0 o0 U; exact⟨i0,y,hy,Z⟩,s.hd⟩
theorem eS.right {H H' H2:Hp} {E':En} {w':World} (a:F0 H' H2) (s:eS E H w E' H' w'):eS E H w E' H2 w':=
 ⟨s.ρ,s.dm,s.θ,s.κ,s.ro,s.rF,by rw [a.next]; exact s.NW,by rw [a.res]; exact s.rsm,
  fun i hi=>by rw [a.next]; exact s.ZT i hi,s.os,s.tape,s.output,s.size,s.keep,
  fun i o ho fD=>by obtain⟨y,hy⟩:=a.ba i o ho; exact s.own i y hy fD,s.hd⟩
theorem dV.of {ro:Nat->Prop} {h:Array Obj} {d:D} (f:Nat->Value): ∀(cs:List CK) (j:Nat),(∀i c,cs[i]?=some c->iJ ro h c (d.hd (j+i)) (f (j+i)))->dV ro h cs j d ((List.range' j cs.length).map f)
 |[],j,_=>by simp [dV]
 |c::cs,j,hh=>by
  simp only [aL,List.range'_succ,ax,dV];refine⟨f j,_,rfl,by simpa using hh 0 c ad,dV.of f cs (j+1) fun i c' hi=>?_⟩;have:=hh (i+1) c' (by simpa using hi)
  grind
theorem Rd.row {ro:Nat->Prop} {h:Array Obj} {t:Nat} {d:D} {v:Value} (r:Rd ro h (.sl t) d v) {i:Nat} {x:D} (hi:d.l[i]?=some x) :
 ∃b o cap us,v= .slice (some ⟨b,o,none⟩) d.l.length cap/\ro b/\uD ro h (rowOf t) x us/\fR h b (o+i*(rowOf t).es) us:=by
 generalize hc:CK.sl t=c at r
 cases r with
 |int k n=>simp at hc
 |bool b=>simp at hc
 |str s=>simp at hc
 |nil t=>simp [D.l] at hi
 |we t a cap=>simp [D.l] at hi
 |one t' c b o cap ds f hr fY hb U Z=>
  simp only [CK.sl.injEq] at hc;subst hc;rw [bI] at hi ⊢;refine⟨b,o,cap,[f i],rfl,hb,?_,?_⟩
  ·rw [hr];exact⟨_,rfl,(Z i x hi).cell⟩
  ·rw [hr];intro j u hj
   grind [Row.es]
 |many t' cs b o cap rows f hr fY hb Y U Z=>
  simp only [CK.sl.injEq] at hc;subst hc;rw [bI] at hi ⊢;rw [bp,aO] at hi;obtain⟨row,ij,rfl⟩:=hi;have hlen:=Y row (amE ij);refine⟨b,o,cap,(List.range' 0 cs.length).map (f i),ad,hb,?_,?_⟩
  ·rw [hr];refine dV.of (f i) cs 0 fun j c hj=>?_;have hjl:j<row.length:=by rw [hlen]; exact (aW.1 hj).1
   have hd:row[j]?=some row[j]:=aM hjl;rw [ay];have:(dL row).hd j=row[j]:=by simp [D.hd,hd]
   rw [this];exact (Z i row j _ c ij hd hj).cell
  ·rw [hr];intro j u hj;rw [bp,aO] at hj;obtain⟨k,hk,rfl⟩:=hj
   have hjl:j<cs.length:=by
    grind
   rw [List.getElem?_range' hjl] at hk;simp only [ag] at hk;obtain rfl:k=j:=J
   have hd:row[k]?=some row[k]:=aM J;exact U i row k _ ij hd
theorem Bq (ρ:Nat->Int) (e i:V) {x:D} {k:Nat} (hi:i.den ρ=(k:Int)) (hx:(dec (e.den ρ)).l[k]?=some x):dec ((V.op .at e i).den ρ)=x:=by simp only [V.den,eZ.den,bB,D.at,hi,bd,hx,aC]
theorem np {tt:TT} (cJ:eB P tt) {ty z:Nat} (h:tC tt ty=some z): ∃el ie,P.underlying ty=some (.slice el)/\tt el=some ie/\ie.size=z:=by
 unfold tC at h;split at h
 ·rename_i ti fN;split at h
  ·rename_i el hk;simp only [iz,aO] at h;obtain⟨ie,kO,rfl⟩:=h;exact⟨el,ie,ff (cJ ty ti fN) hk,kO,rfl⟩
  grind
 grind
theorem OT {tt:TT} (cJ:eB P tt) {s s':St} (hp:bT E.ρ s.pc) {ty t:Nat} {e:V} {ix v:W} {u ui:Value} (hx:VR E w.heap (.eg e t) u) (zy:VR E w.heap ix ui) (h:(Jx tt s ty t e ix).leaf E.ρ=some (v,s')) :
 s'.bE=s.bE/\s'.h=s.h/\bT E.ρ s'.pc/\∃r,(Instr.indexAt ty u ui).run P w= .ok r w/\VR E w.heap v r:=by
 unfold Jx at h;split at h
 ·rename_i kd i;split at h
  ·rename_i z hz;split at h
   ·rename_i lq;obtain⟨ea,fA,U,Z,h3⟩:=nw hp h;have:=bC h3;simp only [ak] at this;obtain⟨rfl,rfl⟩:=this;refine⟨rfl,rfl,fA,?_⟩;rw [cl] at Z;simp only [VR] at hx zy;subst zy;obtain⟨el,ie,hu,kO,rfl⟩:=np cJ hz;obtain⟨k,hk⟩ : ∃k:Nat,i.den E.ρ=(k:Int):=⟨(i.den E.ρ).toNat,J⟩;have fD:k<(dec (e.den E.ρ)).l.length:=J
    have hd:(dec (e.den E.ρ)).l[k]?=some (dec (e.den E.ρ)).l[k]:=aM fD;obtain⟨b,o,cap,us,rfl,g1,g2,g3⟩:=hx.row hd;refine⟨.pointer (some ⟨b,o+k*ie.size,none⟩),?_,?_⟩
    ·rw [hk];simp [Instr.indexAt,asIntOf,run_underlying hu,ez (cJ el ie kO),fD,e8]
    ·simp only [VR];exact⟨b,_,us,rfl,g1,by rw [fy,Bq E.ρ e i hk hd]; exact g2,by rw [lq]; exact g3,g2.rX⟩
   grind [T.leaf]
  grind [T.leaf]
 grind [T.leaf]
theorem OA {tt:TT} (cJ:eB P tt) {s s':St} (hp:bT E.ρ s.pc) {ty t id:Nat} {n:V} {ix v:W} {u ui:Value} (hx:VR E w.heap (.oq id n t) u) (zy:VR E w.heap ix ui) (h:(Jk tt s ty id t n ix).leaf E.ρ=some (v,s')) :
 s'.bE=s.bE/\s'.h=s.h/\bT E.ρ s'.pc/\∃r,(Instr.indexAt ty u ui).run P w= .ok r w/\VR E w.heap v r:=by
 unfold Jk at h;split at h
 ·rename_i kd i;split at h
  ·rename_i z hz;split at h
   ·rename_i lq;obtain⟨ea,fA,U,Z,h3⟩:=nw hp h;have:=bC h3;simp only [ak] at this;obtain⟨rfl,rfl⟩:=this;refine⟨rfl,rfl,fA,?_⟩;simp only [VR] at hx zy;subst zy;obtain⟨hid,m,a,cap,hn,rfl,fV,hc⟩:=hx;obtain⟨el,ie,hu,kO,rfl⟩:=np cJ hz;obtain⟨k,hk⟩ : ∃k:Nat,i.den E.ρ=(k:Int):=⟨(i.den E.ρ).toNat,J⟩;have fD:k<m:=J
    have ha:a=⟨(E.θ id).1,(E.θ id).2,none⟩:=by
     simp only [eC] at hc
     grind
    subst ha;refine⟨.pointer (some ⟨(E.θ id).1,(E.θ id).2+k*ie.size,none⟩),?_,?_⟩
    ·rw [hk];simp [Instr.indexAt,asIntOf,run_underlying hu,ez (cJ el ie kO),fD,e8]
    ·simp only [VR]
     grind
   grind [T.leaf]
  grind [T.leaf]
 grind [T.leaf]
theorem nI {ρ:Nat->Int} {pc:List (SB×Bool)} (hp:bT ρ pc) {ZU cs:List W} {i:V} {k:Nat} (hi:i.den ρ=(k:Int)): ∀{ov:List (V×List W)},nJ pc ZU i ov=some cs->
 dY ρ k ov=some cs\/(dY ρ k ov=none/\cs=ZU)
 |[],h=>by simp only [nJ,ag] at h; exact .inr ⟨rfl,h.symm⟩
 |(j,c)::l,h=>by
  simp only [nJ] at h;simp only [dY];split at h
  ·rename_i he
   grind [cH]
  ·split at h
   ·rename_i b hd;have hd:=gD hp hd;rw [gG] at hd;split at h
    ·grind
    ·rw [beq_eq_false_iff_ne,hi] at hd;rw [af (fun q=>hd q.symm)];exact nI hp hi h
   grind
theorem vV {α:Type} {ρ:Nat->Int} {i:V} {r:α}: ∀{ov:List (V×List W)} {s:St} {k:St->T α},bT ρ s.pc->(uK i ov s k).leaf ρ=some r->∃ea,bT ρ ea/\(k { s with pc:=ea }).leaf ρ=some r
 |[],s,k,hp,h=> ⟨s.pc,hp,h⟩
 |(j,c)::l,s,k,hp,h=>by
  simp only [uK] at h;split at h
  ·exact⟨s.pc,hp,h⟩
  ·obtain⟨fI,fq,U⟩:=cE hp h;split at U
   ·grind
   ·exact vV (s:={ s with pc:=fI }) fq U
theorem jf {ρ:Nat->Int} {r:Row} {ov:List (V×List W)} (ho:sU r ov): ∀{ds:List D} {j k:Nat} {x:D},ds[k]?=some x->
 bD ρ r ov ds j=bD ρ r ov (ds.take k) j++((match dY ρ (j+k) ov with |some cs=>cs|none=>gz r (.eg x))++bD ρ r ov (ds.drop (k+1)) (j+k+1))/\(bD ρ r ov (ds.take k) j).length=k*r.es
 |[],j,k,x,h=>by simp at h
 |d::ds,j,0,x,h=>by
  simp only [aF,ag] at h;subst h;refine⟨?_,by simp [bD]⟩;simp only [List.take_zero,bD,aA,bh,aoj,am0]
  try rfl
 |d::ds,j,k+1,x,h=>by
  have h':ds[k]?=some x:=by simpa using h
  have hk:k<ds.length:=(aW.1 h').1;obtain⟨U,Z⟩:=jf (ρ:=ρ) ho (j:=j+1) h';refine⟨?_,?_⟩
  ·simp only [anh,bD,am7,aoj]
   grind
  grind [cF]
theorem tD {α:Type}: ∀(a b:List α),eE a.length (a++b)=some b
 |[],_=>rfl
 |x::a,b=>by simp [eE,tD a b]
theorem EU {α:Type}: ∀{n:Nat} {a b l:List α},eE n a=some l->eE n (a++b)=some (l++b)
 |0,a,b,l,h=>by simp only [eE,ag] at h ⊢; rw [h]
 |n+1,[],b,l,h=>by simp [eE] at h
 |n+1,x::a,b,l,h=>by simp only [eE,aR] at h ⊢; exact EU h
theorem Dn {α:Type}: ∀{n:Nat} {a b l:List α},iy n a=some l->iy n (a++b)=some l
 |0,a,b,l,h=>by simp only [iy] at h ⊢; exact h
 |n+1,[],b,l,h=>by simp [iy] at h
 |n+1,x::a,b,l,h=>by
  simp only [iy,aR] at h ⊢;split at h
  ·rename_i l' Y;rw [Dn Y];exact h
  grind
theorem HB {α:Type}: ∀{a b:Nat} {l m:List α},eE a l=some m->eE (a+b) l=eE b m
 |0,b,l,m,h=>by simp only [eE,ag] at h; subst h; rw [ay]
 |a+1,b,[],m,h=>by simp [eE] at h
 |a+1,b,x::l,m,h=>by rw [show a+1+b=(a+b)+1 by omega];simp only [eE] at h ⊢;exact HB h
noncomputable def cM (ρ:Nat->Int) (e:V) (t:Nat) (ov:List (V×List W)):List W:=bD ρ (rowOf t) ov (dec (e.den ρ)).l 0
theorem OR.oe {h:Array Obj} {id:Nat} {e:V} {t:Nat} {ty:TypeId} {ov:List (V×List W)}:OR E h id (.vec e t ty ov)↔(sU (rowOf t) ov/\sB (rowOf t) (dec (e.den E.ρ)))/\OR E h id (.cells (cM E.ρ e t ov) ty):=by simp only [OR,cM]
theorem bN.oe [bG] {H:Hp} (r:bN E H w) {id:Nat} {e:V} {t:Nat} {ty:TypeId} {ov:List (V×List W)} (Y:H.get id=some (.vec e t ty ov)):bN E (H.put id (.cells (cM E.ρ e t ov) ty)) w/\sU (rowOf t) ov/\sB (rowOf t) (dec (e.den E.ρ)):=by obtain⟨U,Z⟩:=OR.oe.1 (r.live id _ Y).2.1;exact⟨r.swap Y Z (by rw [Hp.bP,ah rfl]) (fun j hj=>by rw [Hp.bP,af hj]) rfl rfl,U⟩
theorem xF {h:Array Obj} {r:Row} {x y:V} (hd:dec (x.den E.ρ)=dec (y.den E.ρ)) {us:List Value}:cw E h (gz r x) us↔cw E h (gz r y) us:=by
 grind [fy]
theorem Z8 [bG] {H:Hp} (r:bN E H w) {id:Nat} {e i:V} {t:Nat} {ty:TypeId} {ov:List (V×List W)} (Y:H.get id=some (.vec e t ty ov)) {k:Nat} (hi:i.den E.ρ=(k:Int)) (hk:(k:Int)<(dO e).den E.ρ)
 {pc:List (SB×Bool)} (hp:bT E.ρ pc) {cs:List W} (hc:nJ pc (gz (rowOf t) (.op .at e i)) i ov=some cs) :
 ∃pre row post,cM E.ρ e t ov=pre++(row++post)/\pre.length=k*(rowOf t).es/\row.length=(rowOf t).es/\(∀h us,cw E h row us↔cw E h cs us)/\cs.length=(rowOf t).es:=by
 obtain⟨_,ho,rH⟩:=r.oe Y;rw [cl] at hk;have fD:k<(dec (e.den E.ρ)).l.length:=J
 have hd:(dec (e.den E.ρ)).l[k]?=some (dec (e.den E.ρ)).l[k]:=aM fD;obtain⟨U,Z⟩:=jf (ρ:=E.ρ) ho (j:=0) hd;refine⟨_,_,_,U,Z,?_⟩;rw [ay];rcases nI hp hi hc with h3|⟨h3,rfl⟩
 ·rw [h3];obtain⟨p,p1,p2,_⟩:=kJ h3;have:=ho p p1
  grind
 ·rw [h3];refine⟨gQ _ _,fun h us=>xF ?_,gQ _ _⟩;rw [Bq E.ρ e i hi hd];simp only [V.den,bB]
theorem TG {i:TI} {l m:List W} {v:W} (h:partOf i l=some v):partOf i (l++m)=some v:=by
 unfold partOf at h ⊢;split at h
 ·rename_i ha;rw [aO] at h
  grind [Dn]
 grind
theorem GS [bG] {tt:TT} (cJ:eB P tt) {H:Hp} (r:bN E H w) {id:Nat} {cs:List W} {e:TypeId} (Y:H.get id=some (.cells cs e)) {ty:Nat} {ti:TI} (fN:tt ty=some ti) {off:Nat} {l:List W} (hd:eE off cs=some l) {v:W} (hv:partOf ti l=some v) :
 ∃x,(loadVar ty ⟨(E.θ id).1,(E.θ id).2+off,none⟩).run P w= .ok x w/\VR E w.heap v x:=by
 have hld:Bg tt ty (.ptr id off) H=some v:=by
  unfold Bg partOf at *;rw [fN];simp only [mC,Y,hd];split at hv
  ·exact hv
  ·split at hv
   ·simp only [ag] at hv;subst hv;rfl
   grind
 have hid:=(r.live id _ Y).1;obtain⟨x,b,o,U,Z,h3⟩:=Bf cJ r (p:=.ptr id off) (u:=.pointer (some ⟨(E.θ id).1,(E.θ id).2+off,none⟩)) (by simp only [VR]; exact⟨trivial,hid⟩) hld
 grind
theorem D1 {k:IntKind}: ∀{cs:List W} {ds:List D},D2 k cs=some ds->ds.length=cs.length/\∀(i:Nat),i<cs.length->∃n,ds[i]?=some (.i n)/\cs[i]?=some (.int k (.lit n))
 |[],ds,h=>by
  simp only [D2,ag] at h
  grind
 |v::vs,ds,h=>by
  simp only [D2] at h;split at h
  ·split at h
   ·rename_i k' n;split at h
    ·rename_i hk;subst hk;split at h
     ·rename_i ds' tf;simp only [ag] at h;subst h;obtain⟨U,Z⟩:=D1 tf
      grind
     grind
    grind
   grind
  grind
theorem Bk {α:Type}: ∀{i:Nat} {cs:List α} {a:α},cs[i]?=some a->∃l,eE i cs=some (a::l)
 |0,[],a,h=>by simp at h
 |0,c::cs,a,h=>by simp only [aF,ag] at h; subst h; exact⟨cs,rfl⟩
 |i+1,[],a,h=>by simp at h
 |i+1,c::cs,a,h=>Bk (cs:=cs) (by simpa using h)
theorem LY {ρ:Nat->Int} {s s':St} {cs:List W} {e:V} {v:W} (hp:bT ρ s.pc) (h:(Hs s cs e).leaf ρ=some (v,s')) :
 s'.bE=s.bE/\s'.h=s.h/\bT ρ s'.pc/\∃(i:Nat) (k:IntKind) (n:Int) (x:V),e.den ρ=(i:Int)/\i<cs.length/\cs[i]?=some (.int k (.lit n))/\v= .int k x/\x.den ρ=n:=by
 unfold Hs at h;split at h
 ·grind [T.leaf]
 ·rename_i k hk;split at h
  ·grind [T.leaf]
  ·rename_i ds tf;obtain⟨U,Z⟩:=D1 tf;obtain⟨ea,fA,g1,g2,g3⟩:=nw hp h;simp only [T.leaf,ag,ak] at g3;obtain⟨rfl,rfl⟩:=g3;have g2':e.den ρ<(ds.length:Int):=by simpa [V.den] using g2
   have hi:e.den ρ=((e.den ρ).toNat:Int):=J
   have fD:(e.den ρ).toNat<cs.length:=J
   obtain⟨n,d1,d2⟩:=Z _ fD;refine⟨rfl,rfl,fA,_,k,n,_,hi,fD,d2,rfl,?_⟩;simp only [AI,V.den,eZ.den,bB,D.at,bI,d1,aC,D.n]
theorem OL [bG] {tt:TT} (cJ:eB P tt) {s s':St} (r:bN E s.h w) (hp:bT E.ρ s.pc) {ty id es:Nat} {i:V} {off:Nat} {v:W} {u:Value} (hx:VR E w.heap (.yu id es i off) u) (h:(zV tt s ty id es i off).leaf E.ρ=some (v,s')) :
 s'.bE=s.bE/\s'.h=s.h/\bT E.ρ s'.pc/\∃x b o,u= .pointer (some ⟨b,o,none⟩)/\(loadVar ty ⟨b,o,none⟩).run P w= .ok x w/\VR E w.heap v x:=by
 unfold zV at h;split at h
 ·rename_i o Y;split at h
  ·rename_i cs ety;split at h
   ·rename_i ti fN;split at h
    ·simp [T.leaf] at h
    ·rename_i hb;simp only [Bool.or_eq_false_iff,Bool.not_eq_false'] at hb;have lq:=aq hb.1.2;have hof:=aq hb.2;subst lq hof;obtain⟨U,Z,h3,k,kd,n,x,g1,g2,g3,rfl,g5⟩:=LY hp h;refine⟨U,Z,h3,?_⟩;simp only [VR] at hx;obtain⟨hid,k',hk,rfl⟩:=hx;have tc:k'=k:=J
     subst tc;obtain⟨l,hd⟩:=Bk g3;obtain⟨y,q1,q2⟩:=GS (P:=P) cJ r Y fN hd (v:=.int kd (.lit n)) (by unfold partOf; rw [hb.1.1]);refine⟨y,_,_,rfl,by rw [anX,bh]; exact q1,?_⟩;simp only [VR,V.den] at q2 ⊢;rw [q2,g5]
   ·simp [T.leaf] at h
  ·rename_i e t Az ov;split at h
   ·rename_i ti fN;split at h
    ·rename_i lq;obtain⟨pc0,X1,U,Z,h3⟩:=nw hp h;obtain⟨ea,fA,h3⟩:=vV (s:={ s with pc:=pc0 }) X1 h3;split at h3
     ·rename_i cs hc;split at h3
      ·rename_i l FQ;obtain⟨e1,rfl⟩:=gK h3;refine⟨rfl,rfl,fA,?_⟩;simp only [VR] at hx;obtain⟨hid,k,hk,rfl⟩:=hx;obtain⟨pre,row,post,c1,c2,c3,c4,c5⟩:=Z8 r Y hk (by rw [<- hk]; exact Z) fA hc;obtain⟨rc,ho,rH⟩:=r.oe Y
       have ij:OR E w.heap id (.cells (pre++(cs++post)) Az):=by have:=(rc.live id _ (by rw [Hp.bP,ah rfl])).2.1;rw [c1] at this;simp only [OR] at this ⊢;obtain⟨arr,lo,hi,us,q1,q2,q3,q4,q5,q6,q7⟩:=this;refine⟨arr,lo,hi,us,q1,?_,q3,by simp only [aZ,c3,c5] at q4 ⊢; exact q4,q5,q6,q7⟩;obtain⟨a,b,rfl,a1,a2⟩:=q2.split;obtain⟨a',b',rfl,b1,b2⟩:=a2.split;exact a1.append (((c4 _ _).1 b1).append b2)
       have r2:=r.swap (H2:=s.h.put id (.cells (pre++(cs++post)) Az)) Y ij (by rw [Hp.bP,ah rfl]) (fun j hj=>by rw [Hp.bP,af hj]) rfl rfl
       have alA:eE (k*es+off) (pre++(cs++post))=some (l++post):=by rw [HB (m:=cs++post) (by rw [<- lq,<- c2]; exact tD pre _)];exact EU FQ
       obtain⟨x,g1,g2⟩:=GS cJ r2 (by rw [Hp.bP,ah rfl]) fN alA (TG e1);exact⟨x,_,_,rfl,g1,g2⟩
      ·simp [T.leaf] at h3
     ·simp [T.leaf] at h3
    ·simp [T.leaf] at h
   ·simp [T.leaf] at h
  ·simp [T.leaf] at h
 ·simp [T.leaf] at h
end
theorem iJ.rd {ro:Nat->Prop} {h:Array Obj} {c:CK} {d:D} {u:Value} (r:iJ ro h c d u) (wf:oh c d):Rd ro h c d u:=by
 cases c with
 |int k=> simp only [iJ,oh] at r wf;rw [wf,r];exact .int k d.n
 |bool=>
  simp only [iJ,oh] at r wf;subst r;rcases wf with rfl|rfl
  ·exact .bool false
  ·exact .bool true
 |str=>exact r
 |sl t=>exact r
theorem dV.get {ro:Nat->Prop} {h:Array Obj} {d:D}: ∀{cs:List CK} {j:Nat} {us:List Value},dV ro h cs j d us->∀{k:Nat} {c:CK},cs[k]?=some c->∃u,us[k]?=some u/\iJ ro h c (d.hd (j+k)) u
 |[],_,_,_,k,c,hk=>by simp at hk
 |c0::cs,j,us,hh,k,c,hk=>by
  simp only [dV] at hh;obtain⟨u,vs,rfl,U,Z⟩:=hh
  cases k with
  |zero=>
   grind
  |succ k=>
   obtain⟨x,h3,h4⟩:=Z.get (by simpa using hk)
   grind
theorem dV.length {ro:Nat->Prop} {h:Array Obj} {d:D}: ∀{cs:List CK} {j:Nat} {us:List Value},dV ro h cs j d us->us.length=cs.length
 |[],_,us,hh=>by simp only [dV] at hh; subst hh; rfl
 |c::cs,j,us,hh=>by simp only [dV] at hh;obtain⟨u,vs,rfl,_,Z⟩:=hh;simp [Z.length]
theorem dV.shift {ro:Nat->Prop} {h:Array Obj} {a b:D}: ∀{cs:List CK} {j:Nat} {us:List Value},dV ro h cs (j+1) (.p a b) us↔dV ro h cs j b us
 |[],_,us=>by simp only [dV]
 |c::cs,j,us=>by
  simp only [dV,zB];constructor
  ·rintro⟨u,vs,rfl,U,Z⟩;exact⟨u,vs,rfl,U,dV.shift.1 Z⟩
  ·rintro⟨u,vs,rfl,U,Z⟩;exact⟨u,vs,rfl,U,dV.shift.2 Z⟩
section
variable {P:Program} {E:En} {w:World}
theorem pe {ρ:Nat->Int} {c:CK} {v:W} {a:V} (h:lS c v=some a):oh c (dec (a.den ρ)):=by
 unfold lS at h;split at h
 ·split at h
  ·split at h
   ·simp only [ag] at h;subst h;simp only [oh,lz,bB,D.n]
   grind
  grind
 ·split at h
  ·split at h
   ·rename_i b;simp only [ag] at h;subst h;simp only [oh,V.den,bB]
    grind
   ·split at h
    ·split at h
     ·split at h
      ·simp only [ag] at h;subst h;simp only [oh,V.den,eZ.den,bB]
       grind
      grind
     grind
    grind
   grind
  grind
 ·trivial
 ·trivial
theorem jJ {h:Array Obj} {c:CK} {v:W} {u:Value} {a:V} (hv:VR E h v u) (hc:lS c v=some a):iJ E.ro h c (dec (a.den E.ρ)) u:=by
 unfold lS at hc;split at hc
 ·split at hc
  ·split at hc
   ·rename_i hk;subst hk;simp only [ag] at hc;subst hc;simp only [VR] at hv;simp only [iJ,lz,bB,D.n];exact hv
   grind
  grind
 ·split at hc
  ·split at hc
   ·rename_i b;simp only [ag] at hc;subst hc;simp only [VR,SB.den] at hv;subst hv;simp only [iJ,V.den,bB];cases b<;>rfl
   ·split at hc
    ·split at hc
     ·split at hc
      ·rename_i x n hn;subst hn;simp only [ag] at hc;subst hc;simp only [VR,SB.den,V.den] at hv;subst hv;simp only [iJ,V.den,eZ.den,lz,bB,D.n];congr 2
       grind
      grind
     grind
    grind
   grind
  grind
 ·obtain⟨s,rfl,hs⟩:=yB hv hc;simp only [iJ,hs];exact .str s
 ·split at hc
  ·split at hc
   ·rename_i ht;subst ht;simp only [ag] at hc;subst hc;exact hv
   grind
  ·simp only [ag] at hc;subst hc;simp only [VR] at hv;subst hv;simp only [iJ,V.den,bB];exact .nil _
  ·split at hc
   ·rename_i ht;subst ht;simp only [ag] at hc;subst hc;simp only [VR] at hv;exact hv.2
   grind
  ·split at hc
   ·simp only [ag] at hc;subst hc;simp only [VR] at hv;obtain⟨_,a,cap,rfl,_⟩:=hv;simp only [iJ,V.den,bB];exact .we _ _ _
   grind
  grind
theorem tO {ρ:Nat->Int}: ∀{cs:List CK} {vs:List W} {x:V},iu cs vs=some x->wU cs (dec (x.den ρ))
 |[],[],x,h=>by
  simp only [iu,ag] at h;subst h;refine⟨?_,?_,?_⟩
  ·simp only [V.den,bB]; rfl
  ·simp only [V.den,bB]; rfl
  grind
 |[],_::_,x,h=>by simp [iu] at h
 |_::_,[],x,h=>by simp [iu] at h
 |c::cs,v::vs,x,h=>by
  simp only [iu] at h;split at h
  ·grind
  ·rename_i a ha;split at h
   ·grind
   ·rename_i b hb;simp only [ag] at h;subst h;obtain⟨U,Z,h3⟩:=tO (ρ:=ρ) hb;refine⟨?_,?_,?_⟩
    ·simp only [eD,V.den,eZ.den,bB,D.l,dL]
     grind
    ·simp only [eD,V.den,eZ.den,bB,D.l,aL,Z]
    ·intro j c' y hj hy;simp only [eD,V.den,eZ.den,bB,D.l] at hy
     cases j with
     |zero=> simp only [aF,ag] at hj hy;subst hj hy;exact pe ha
     |succ j=>exact h3 j c' y (by simpa using hj) (by simpa using hy)
theorem tP {h:Array Obj}: ∀{cs:List CK} {vs:List W} {us:List Value} {x:V},cw E h vs us->iu cs vs=some x->dV E.ro h cs 0 (dec (x.den E.ρ)) us
 |[],[],us,x,hv,hc=>by simp only [cw] at hv; subst hv; simp [dV]
 |[],_::_,_,x,_,hc=>by simp [iu] at hc
 |_::_,[],_,x,_,hc=>by simp [iu] at hc
 |c::cs,v::vs,us,x,hv,hc=>by
  simp only [iu] at hc;rw [bO] at hv;obtain⟨u,gw,rfl,U,Z⟩:=hv;split at hc
  ·grind
  ·rename_i a ha;split at hc
   ·grind
   ·rename_i b hb;simp only [ag] at hc;subst hc;simp only [dV,eD,V.den,eZ.den,bB];refine⟨u,gw,rfl,by rw [zA]; exact jJ U ha,?_⟩;rw [dV.shift];exact tP Z hb
theorem tM {ρ:Nat->Int} {r:Row} {cs:List W} {x:V} (h:qV r cs=some x):oI r (dec (x.den ρ)):=by
 unfold qV at h;split at h
 ·split at h
  ·exact pe h
  grind
 ·exact tO h
theorem tN {h:Array Obj} {r:Row} {cs:List W} {us:List Value} {x:V} (hv:cw E h cs us) (hc:qV r cs=some x):uD E.ro h r (dec (x.den E.ρ)) us:=by
 unfold qV at hc;split at hc
 ·split at hc
  ·rw [bO] at hv;obtain⟨u,gw,rfl,U,Z⟩:=hv;rw [fP] at Z;subst Z;exact⟨u,rfl,jJ U hc⟩
  grind
 ·exact tP hv hc
theorem qU {ρ:Nat->Int} {r:Row}: ∀(m:Nat) {e e1:V} {news:List W},kz r e m news=some e1->
 ∃ds:List D,ds.length=m/\(dec (e1.den ρ)).l=(dec (e.den ρ)).l++ds/\(dec (e.den ρ)=dL (dec (e.den ρ)).l->dec (e1.den ρ)=dL (dec (e1.den ρ)).l)/\(∀d∈ds,oI r d)/\
  ∀(E':En) (h:Array Obj) (us:List Value) (j:Nat),E'.ρ=ρ->cw E' h news us->cw E' h (bD ρ r [] ds j) us
 |0,e,e1,[],h=>by simp only [kz,ag] at h;subst h;exact⟨[],rfl,ad,id,ad,fun E' h us j _ hv=>by simpa [bD] using hv⟩
 |0,e,e1,_::_,h=>by simp [kz] at h
 |m+1,e,e1,news,h=>by
  simp only [kz] at h;split at h
  ·grind
  ·rename_i x hx;obtain⟨ds,U,Z,h3,h4,h5⟩:=qU (ρ:=ρ) m h;have hs:dec ((V.op .snoc e x).den ρ)=dL ((dec (e.den ρ)).l++ [dec (x.den ρ)]):=by simp only [V.den,eZ.den,bB]
   refine⟨dec (x.den ρ)::ds,by simp [U],?_,fun _=>h3 (by rw [hs,bI]),?_,?_⟩
   ·rw [Z,hs,bI]; simp
   ·intro d hd;rcases aw.1 hd with rfl|hd
    ·exact tM hx
    grind
   ·intro E' h us j hρ hv;rw [<- amR r.es news] at hv;obtain⟨a,b,rfl,a1,a2⟩:=hv.split;simp only [bD,dY];refine cw.append ?_ (h5 E' h b (j+1) hρ a2);rw [fy];simp only [V.den,bB];have:=tN a1 hx
    grind
theorem PC {h:Array Obj} {id:Nat} {e:V} {t:Nat} {ty:TypeId} {ro:Nat->Prop} (jy: ∀b,E.ro b->ro b) (hb:ro (E.θ id).1) (ho:OR E h id (.vec e t ty [])) {k cap:Nat} {a:Addr} (hk:k=(dec (e.den E.ρ)).l.length) (fV:k<=cap)
 (hc:0<k->a=⟨(E.θ id).1,(E.θ id).2,none⟩):Rd ro h (.sl t) (dec (e.den E.ρ)) (.slice (some a) k cap):=by
 obtain⟨⟨qH,rH⟩,BX⟩:=OR.oe.1 ho;obtain⟨us,U,Z,h3⟩:=xx BX;obtain⟨w1,w2,w3⟩:=rH;rcases ani k with h0|jU
 ·subst h0;exact absurd (amJ hk.symm) w3
 ·have ha:a=⟨(E.θ id).1,(E.θ id).2,none⟩:=hc jU;subst ha;subst hk
  have ij: ∀(i:Nat) (x:D),(dec (e.den E.ρ)).l[i]?=some x->∃rs,uD ro h (rowOf t) x rs/\∀j u,rs[j]?=some u->us[i*(rowOf t).es+j]?=some u:=by
   intro i x hx;obtain⟨c1,c2⟩:=jf (ρ:=E.ρ) qH (j:=0) hx;unfold cM at U;rw [c1] at U;obtain⟨p,q,rfl,p1,p2⟩:=U.split;obtain⟨q1,q2,rfl,r1,r2⟩:=p2.split;have hp:=p1.length;rw [c2] at hp;refine⟨q1,?_,?_⟩
   ·have r1':cw E h (gz (rowOf t) (.eg x)) q1:=r1;rw [fy] at r1';simp only [V.den,bB] at r1'
    have mono: ∀c d u,iJ E.ro h c d u->iJ ro h c d u:=by
     intro c d u hh
     cases c with
     |int k=>exact hh
     |bool=>exact hh
     |str=>exact Rd.keep jy (fun _ _=>rfl) hh
     |sl t=>exact Rd.keep jy (fun _ _=>rfl) hh
    have aiv: ∀(cs:List CK) (j:Nat) (d:D) (us:List Value),dV E.ro h cs j d us->dV ro h cs j d us:=by
     intro cs
     induction cs with
     |nil=>intro j d us hh; exact hh
     |cons c cs ih=> intro j d us hh;obtain⟨u,vs,rfl,g1,g2⟩:=hh;exact⟨u,vs,rfl,mono _ _ _ g1,ih _ _ _ g2⟩
    cases hr:rowOf t with
    |one c=> rw [hr] at r1';obtain⟨u,rfl,g1⟩:=r1';exact⟨u,rfl,mono _ _ _ g1⟩
    |many cs=> rw [hr] at r1';exact aiv _ _ _ _ r1'
   ·intro j u hj;rw [aok J,hp];rw [show i*(rowOf t).es+j-i*(rowOf t).es=j by omega];have:=(aW.1 hj).1;rw [aoA this];exact hj
  rw [w1];simp only [bI] at ij ⊢;generalize hL:(dec (e.den E.ρ)).l=L at *
  cases hr:rowOf t with
  |one c=>
   refine .one t c _ _ cap L (fun i=>(us[i]?).getD undef) hr fV hb ?_ ?_
   ·intro i d hd;obtain⟨rs,g1,g2⟩:=ij i d hd;rw [hr] at g1;obtain⟨u,rfl,g3⟩:=g1;have:=g2 0 u rfl;rw [hr] at this;simp only [Row.es,anX,bh] at this;rw [this];exact Z i u this
   ·intro i d hd;obtain⟨rs,g1,g2⟩:=ij i d hd;rw [hr] at g1;obtain⟨u,rfl,g3⟩:=g1;have:=g2 0 u rfl;rw [hr] at this;simp only [Row.es,anX,bh] at this;rw [this];have hw:=w2 d (amE hd);rw [hr] at hw;exact g3.rd hw
  |many cs=>
   have hwr: ∀d∈L,wU cs d:=by intro d hd;have:=w2 d hd;rw [hr] at this;exact this
   have hLm:L=(L.map D.l).map dL:=by rw [amQ];have:L.map (dL ∘ D.l)=L.map (fun d=>d):=anA fun d hd=>(hwr d hd).1.symm;rw [this,List.map_id']
   have hlen:(L.map D.l).length=L.length:=ad
   have ajd:(L.map D.l).length<=cap:=by rw [hlen]; exact fV
   have goal:Rd ro h (.sl t) (dL ((L.map D.l).map dL)) (.slice (some ⟨(E.θ id).1,(E.θ id).2,none⟩) (L.map D.l).length cap):=by
    refine .many t cs _ _ cap (L.map D.l) (fun i j=>(us[i*cs.length+j]?).getD undef) hr ajd hb ?_ ?_ ?_
    ·intro r hrm;rw [aK] at hrm;obtain⟨d,hd,rfl⟩:=hrm;exact (hwr d hd).2.1
    ·intro i r j d hi hj;rw [bp,aO] at hi;obtain⟨x,hx,rfl⟩:=hi;obtain⟨rs,g1,g2⟩:=ij i x hx;rw [hr] at g1;have hjl:j<cs.length:=by rw [<- (hwr x (amE hx)).2.1]; exact (aW.1 hj).1
     obtain⟨u,g3,g4⟩:=dV.get g1 (aM hjl);have:=g2 j u g3;rw [hr] at this;simp only [Row.es] at this;rw [this,amF];exact Z _ u this
    ·intro i r j d c hi hj hcj;rw [bp,aO] at hi;obtain⟨x,hx,rfl⟩:=hi;obtain⟨rs,g1,g2⟩:=ij i x hx;rw [hr] at g1;obtain⟨u,g3,g4⟩:=dV.get g1 hcj;have:=g2 j u g3;rw [hr] at this;simp only [Row.es] at this;rw [this];rw [ay] at g4;have hd:x.hd j=d:=by simp [D.hd,hj]
     rw [hd] at g4;exact g4.rd ((hwr x (amE hx)).2.2 j c d hcj hj)
   rw [<- hLm,hlen] at goal;exact goal
theorem VA {h:Array Obj} {id:Nat} {e:V} {t:Nat} {ty:TypeId} {ro:Nat->Prop} (jy: ∀b,E.ro b->ro b) (hb:ro (E.θ id).1) (ho:OR E h id (.vec e t ty [])) {k cap:Nat} {a:Addr} (hk:k=(dec (e.den E.ρ)).l.length) (fV:k<=cap)
 (hc:eC E id 0 k a cap (.rest (rowOf t).es)):Rd ro h (.sl t) (dec (e.den E.ρ)) (.slice (some a) k cap):=by
 refine PC jy hb ho hk fV fun jU=>?_;simp only [eC] at hc
 grind
structure Sub (H' H:Hp):Prop where
 get: ∀j o,H'.get j=some o->H.get j=some o
 next:H'.next=H.next
 res:H'.res=H.res
theorem Sub.refl (H:Hp):Sub H H:=⟨fun _ _ h=>h,rfl,rfl⟩
theorem Sub.trans {A B C:Hp} (a:Sub B A) (b:Sub C B):Sub C A:=⟨fun j o h=>a.get j o (b.get j o h),b.next.trans a.next,b.res.trans a.res⟩
theorem Sub.drop (H:Hp) (id:Nat):Sub (H.drop id) H:=by
 refine⟨fun j o hj=>?_,rfl,rfl⟩
 grind [Hp.kj]
theorem JM [bG] {H:Hp} (r:bN E H w) {id:Nat} {o:dP} (Y:H.get id=some o) :
 fw E w.heap { E with ro:=fun b=>E.ro b\/b=(E.θ id).1 } w.heap/\eS E H w { E with ro:=fun b=>E.ro b\/b=(E.θ id).1 } (H.drop id) w/\bN { E with ro:=fun b=>E.ro b\/b=(E.θ id).1 } (H.drop id) w:=by
 have hk:fw E w.heap { E with ro:=fun b=>E.ro b\/b=(E.θ id).1 } w.heap:=⟨rfl,fun _ h=>h,fun _ _=>rfl,fun _ _=>rfl,fun _ h=> .inl h,fun _ _=>rfl⟩
 have hg: ∀j o,(H.drop id).get j=some o->H.get j=some o/\j≠id:=by
  intro j o hj
  grind [Hp.kj]
 refine⟨hk,⟨rfl,fun _ h=>h,fun _ _=>rfl,fun _ _=>rfl,fun _ h=> .inl h,?_,au _,.inr rfl,fun _ h=> .inl h,rfl,rfl,rfl,au _,fun _ _ _=>rfl,fun j o hj _=> ⟨j,o,(hg j o hj).1,rfl⟩,rfl⟩,
  ⟨r.fresh,r.res,?_,?_,?_,bG.keep r.iX (fun _ h=> .inl h) (fun _ _=>rfl),fun b x hb=> ⟨(r.hid b x hb).1,fun h=>h.elim (r.hid b x hb).2.1 fun e=>(r.hid b x hb).2.2 id o Y e.symm,fun j o hj=>(r.hid b x hb).2.2 j o (hg j o hj).1⟩⟩⟩
 ·intro b hb
  grind
 ·intro j o hj;obtain⟨U,Z⟩:=hg j o hj;obtain⟨g1,g2,g3⟩:=r.live j o U;refine⟨g1,g2.keep hk g1 rfl (fun _ _ _ h=> ⟨h,rfl⟩),?_⟩;rintro (hb|hb)
  ·grind
  ·exact Z (r.inj j id o _ U Y hb)
 ·intro i j x y hi hj he;exact r.inj i j x y (hg i x hi).1 (hg j y hj).1 he
 ·intro b hb;rcases hb with hb|rfl
  ·exact r.qC b hb
  ·exact fm r Y
theorem ae8 [bG] {H H':Hp} (r:bN E H w) {v v':W} (h:Ud v H=(v',H')) :
 ∃E',E'.ρ=E.ρ/\eS E H w E' H' w/\bN E' H' w/\(∀u,VR E w.heap v u->VR E' w.heap v' u)/\Sub H' H:=by
 have same:(v,H)=(v',H')->∃E',E'.ρ=E.ρ/\eS E H w E' H' w/\bN E' H' w/\(∀u,VR E w.heap v u->VR E' w.heap v' u)/\Sub H' H:=by
  intro he;simp only [ak] at he
  grind [eS.refl,Sub.refl]
 unfold Ud at h;split at h
 ·rename_i id n t;split at h
  ·rename_i o Y;split at h
   ·rename_i e t' ty ov;split at h
    ·split at h
     ·rename_i ht;split at h
      ·rename_i hn;simp only [ak] at h;obtain⟨rfl,rfl⟩:=h;have ht:=aq ht;have hn:=cH _ _ hn;subst ht hn;have zu:=r.live id _ Y;obtain⟨hk,s1,r1⟩:=JM r Y;refine⟨{ E with ro:=fun b=>E.ro b\/b=(E.θ id).1 },rfl,s1,r1,fun u hv=>?_,Sub.drop _ _⟩;simp only [VR] at hv ⊢
       grind [cl,VA]
      grind
     grind
    grind
   grind
  grind
 ·simp only [ak] at h;obtain⟨rfl,rfl⟩:=h;exact⟨E,rfl,eS.refl _ _ _,r,fun u hu=>by simp only [VR] at hu ⊢; exact hu.2,Sub.refl _⟩
 grind
end
section
variable {P:Program} {E:En} {w:World}
theorem Rd.part {ro:Nat->Prop} {h:Array Obj} {t:Nat} {d:D} {b o n cap l k:Nat} (r:Rd ro h (.sl t) d (.slice (some ⟨b,o,none⟩) n cap)) (Y:l<=k) (hk:k<=n) (hn:n<=cap) :
 Rd ro h (.sl t) (eW d ((d.l.take k).drop l)) (.slice (some (if cap=l then⟨b,o,none⟩ else⟨b,o+l*(rowOf t).es,none⟩)) (k-l) (cap-l)):=by
 by_cases h0:k-l=0
 ·have:(d.l.take k).drop l= []:=by
   apply List.drop_eq_nil_of_le
   grind
  have hd:d≠.i 1:=by
   intro q
   grind [GK]
  rw [this,h0];simp only [eW];rw [af hd];exact .we _ _ _
 ·rw [af J]
  have gn:(d.l.take k).drop l≠[]:=by
   intro q;have:=congrArg List.length q;obtain⟨x,qb,hv,_⟩:=r.slice
   grind
  rw [vH gn];generalize hc:CK.sl t=c at r;generalize hv:Value.slice (some ⟨b,o,none⟩) n cap=v at r
  cases r with
  |int k n=>simp at hc
  |bool b=>simp at hc
  |str s=>simp at hc
  |nil t=>simp at hv
  |we t a cap=>
   grind
  |one t' c b' o' qb ds f hr fY hb U Z=>
   simp only [CK.sl.injEq] at hc;subst hc;simp only [Value.slice.injEq,ag,Addr.mk.injEq] at hv;obtain⟨⟨rfl,rfl,_⟩,rfl,rfl⟩:=hv;rw [bI];have hlen:((ds.take k).drop l).length=k-l:=by rw [br,a8]; omega
   have vi: ∀i d,((ds.take k).drop l)[i]?=some d->ds[l+i]?=some d:=by
    intro i d hd
    grind
   rw [<- hlen];refine .one t c b (o+l*(rowOf t).es) (cap-l) ((ds.take k).drop l) (fun i=>f (l+i)) hr (by rw [hlen]; omega) hb ?_ ?_
   ·intro i d hd;have:=U (l+i) d (vi i d hd);rw [hr,show o+l*(Row.one c).es+i=o+(l+i) by simp only [Row.es]; omega]
    grind
   grind
  |many t' cs b' o' qb rows f hr fY hb hll U Z=>
   simp only [CK.sl.injEq] at hc;subst hc;simp only [Value.slice.injEq,ag,Addr.mk.injEq] at hv;obtain⟨⟨rfl,rfl,_⟩,rfl,rfl⟩:=hv;rw [bI];have hlen:((rows.take k).drop l).length=k-l:=by rw [br,a8]; omega
   have vi: ∀i d,((rows.take k).drop l)[i]?=some d->rows[l+i]?=some d:=by
    intro i d hd
    grind
   rw [<- hlen,<- aoe,<- aof];refine .many t cs b (o+l*(rowOf t).es) (cap-l) ((rows.take k).drop l) (fun i=>f (l+i)) hr (by rw [hlen]; omega) hb (fun r hrm=>hll r (amG (bw hrm))) ?_ ?_
   ·intro i r j d hi hj;have:=U (l+i) r j d (vi i r hi) hj;rw [hr,show o+l*(Row.many cs).es+i*cs.length+j=o+(l+i)*cs.length+j by simp only [Row.es,amM]; omega]
    grind
   grind
theorem Rd.aie {ro:Nat->Prop} {h:Array Obj} {t:Nat} {d:D} {x:Option Addr} {n cap l k:Nat} (r:Rd ro h (.sl t) d (.slice x n cap)) (Y:l<=k) (hk:k<=n) (hn:n<=cap) :
 Rd ro h (.sl t) (eW d ((d.l.take k).drop l)) (.slice (match x with |some a=>some (if cap=l then a else a.add (l*(rowOf t).es))|none=>none) (k-l) (cap-l)):=by
 have hx:(∃b o,x=some ⟨b,o,none⟩)\/(d= .i 1/\x=none/\n=0/\cap=0)\/(d= .i 2/\n=0/\∃a,x=some a):=by
  generalize hc:CK.sl t=c at r;generalize hv:Value.slice x n cap=v at r
  cases r with
  |int k n=>simp at hc
  |bool b=>simp at hc
  |str s=>simp at hc
  |nil t=>simp only [Value.slice.injEq] at hv; exact .inr (.inl ⟨rfl,hv.1,hv.2.1,hv.2.2⟩)
  |we t a cap=>simp only [Value.slice.injEq] at hv; exact .inr (.inr ⟨rfl,hv.2.1,a,hv.1⟩)
  |one t' c b' o' qb ds f hr fY hb U Z=>simp only [Value.slice.injEq] at hv; exact .inl ⟨_,_,hv.1⟩
  |many t' cs b' o' qb rows f hr fY hb hll U Z=>simp only [Value.slice.injEq] at hv; exact .inl ⟨_,_,hv.1⟩
 rcases hx with ⟨b,o,rfl⟩|⟨rfl,rfl,rfl,rfl⟩|⟨rfl,rfl,a,rfl⟩
 ·have:=r.part Y hk hn;simp only [e8]
  grind
 ·obtain rfl:k=0:=J
  obtain rfl:l=0:=J
  exact .nil _
 ·obtain rfl:k=0:=J
  obtain rfl:l=0:=J
  exact .we _ _ _
theorem Z1 (l:List D):dL l≠.i 1:=by cases l<;>simp [dL]
theorem Rd.afh {ro:Nat->Prop} {h:Array Obj} {t:Nat} {d:D} {x:Option Addr} {n cap:Nat} (r:Rd ro h (.sl t) d (.slice x n cap)):Rd ro h (.sl t) (eW d []) (.slice x 0 0):=by
 generalize hc:CK.sl t=c at r;generalize hv:Value.slice x n cap=v at r
 cases r with
 |int k n=>simp at hc
 |bool b=>simp at hc
 |str s=>simp at hc
 |nil t=> simp only [Value.slice.injEq] at hv;obtain⟨rfl,_,_⟩:=hv;exact .nil _
 |we t a cap=> simp only [Value.slice.injEq] at hv;obtain⟨rfl,_,_⟩:=hv;exact .we _ _ _
 |one t' c b' o' qb ds f hr fY hb U Z=> simp only [Value.slice.injEq] at hv;obtain⟨rfl,_,_⟩:=hv;rw [pd (Z1 _)];exact .we _ _ _
 |many t' cs b' o' qb rows f hr fY hb hll U Z=> simp only [Value.slice.injEq] at hv;obtain⟨rfl,_,_⟩:=hv;rw [pd (Z1 _)];exact .we _ _ _
theorem OS [bG] {tt:TT} (cJ:eB P tt) {s s':St} (hp:bT E.ρ s.pc) {ty t:Nat} {e:V} {lo hi mx:Option W} {yo hi' mx':Option Value} {v:W} {u:Value} (hx:VR E w.heap (.eg e t) u)
 (mH:gp E w.heap lo yo) (yq:gp E w.heap hi hi') (xZ:gp E w.heap mx mx') (h:(Jw tt s ty t e lo hi mx).leaf E.ρ=some (v,s')) :
 s'.bE=s.bE/\s'.h=s.h/\bT E.ρ s'.pc/\∃r,(Instr.sliceAt ty u yo hi' mx').run P w= .ok r w/\VR E w.heap v r:=by
 unfold Jw at h;split at h
 ·rename_i m;split at h
  ·rename_i hm;split at h
   ·simp [T.leaf] at h
   ·rename_i z hz;split at h
    ·split at h
     ·rename_i hv;split at h
      ·rename_i hh;have:=bC h;simp only [ak] at this;obtain⟨rfl,rfl⟩:=this;refine⟨rfl,rfl,hp,?_⟩;obtain⟨el,ie,hu,kO,rfl⟩:=np cJ hz;have gT:=ez (cJ el ie kO);simp only [VR] at hx;obtain⟨x,cap,rfl,fV⟩:=hx.slice
       have zb: ∀(a:W),CA a=true->∀d y,nD (some a) d y=some 0:=by
        intro a ha d y;unfold CA at ha;unfold nD;split at ha
        ·rename_i n hn;have:=wx ha;subst this;simp only [hn];rw [ah (amS y)]
        ·simp at ha
       obtain⟨e1,e2⟩:=fS (P:=P) (w:=w) (isSlice:=true) (len:=(dec (e.den E.ρ)).l.length) (cap:=cap) (m0:=cap) (d:=0) (m:=0) (h0:=0) (h:=0) (l:=0) mH yq xZ (fun _=>rfl) (.inr ⟨m,rfl,zb m hm _ _,au _⟩) (zb hv hh _ _) ⟨fun q=>by simp at q,fun _=>rfl⟩ (by simp [nD]);refine⟨.slice x 0 0,?_,?_⟩
       rotate_left
       ·simp only [VR];refine⟨⟨x,rfl⟩,?_⟩;simp only [V.den,eZ.den,bB];exact hx.afh
       cases x with
       |none=>simp [Instr.sliceAt,run_underlying hu,Instr.slice,e1,gT]
       |some a=>simp [Instr.sliceAt,run_underlying hu,Instr.slice,e1,gT]
      ·simp [T.leaf] at h
     ·simp [T.leaf] at h
    ·simp [T.leaf] at h
  ·simp [T.leaf] at h
 ·simp only [gp] at xZ;subst xZ;split at h
  ·simp [T.leaf] at h
  ·rename_i z hz;split at h
   ·rename_i lq;obtain⟨el,ie,hu,kO,rfl⟩:=np cJ hz;have gT:=ez (cJ el ie kO);simp only [VR] at hx;obtain⟨x,cap,rfl,fV⟩:=hx.slice
    have fin: ∀(l k:Nat) (e':V) (UW I6:Option W),gp E w.heap UW yo->gp E w.heap I6 hi'->nD I6 (dec (e.den E.ρ)).l.length (dec (e.den E.ρ)).l.length=some k->nD UW 0 k=some l->dec (e'.den E.ρ)=eW (dec (e.den E.ρ)) (((dec (e.den E.ρ)).l.take k).drop l)->
     ∃r,(Instr.sliceAt ty (.slice x (dec (e.den E.ρ)).l.length cap) yo hi' none).run P w= .ok r w/\VR E w.heap (.eg e' t) r:=by
     intro l k e' UW I6 U Z h3 h4 h5;obtain⟨e1,e2⟩:=fS (P:=P) (w:=w) (isSlice:=true) (len:=(dec (e.den E.ρ)).l.length) (cap:=cap) (m0:=cap) (d:=0) (m:=cap) U Z (mx:=none) (mx':=none) (by simp [gp]) ad (.inl ⟨rfl,rfl,au _⟩) h3 ⟨fun _=>fV,ad⟩ h4;have hk:=lr h3;have T3:=hx.aie e2 hk fV;refine⟨_,?_,by simp only [VR,h5]; exact T3⟩
     cases x with
     |none=>simp [Instr.sliceAt,run_underlying hu,Instr.slice,e1,gT]
     |some a=>simp [Instr.sliceAt,run_underlying hu,Instr.slice,e1,gT,lq]<;>split<;>rfl
    have lit: ∀(k:IntKind) (n:Nat) (q:V) (o:Option Value),q.den E.ρ=(n:Int)->gp E w.heap (some (.int k q)) o->gp E w.heap (some (.int k (.lit (Int.ofNat n)))) o:=by intro k n q o hq ho;obtain⟨y,rfl,hy⟩:=ho;refine⟨y,rfl,?_⟩;simp only [VR,V.den] at hy ⊢;rw [hy,hq];rfl
    have bl: ∀(k:IntKind) (n d y:Nat),n<=y->nD (some (.int k (.lit (Int.ofNat n)))) d y=some n:=by intro k n d y hn;simp [nD,j8,hn]
    split at h
    ·
     simp only [gp] at yq;subst yq;split at h
     ·rename_i kl ql;obtain⟨fI,fq,U⟩:=cE hp h;split at U
      ·simp [T.leaf] at U
      ·rename_i t1;obtain⟨jH,jz,Z⟩:=cE (s:={ s with pc:=fI }) fq U;split at Z
       ·simp [T.leaf] at Z
       ·rename_i t2;have:=bC Z;simp only [ak] at this;obtain⟨rfl,rfl⟩:=this;rw [dU,decide_eq_false_iff_not] at t1 t2;rw [cl] at t2;simp only [V.den,ang] at t1 t2;obtain⟨l,Y⟩ : ∃l:Nat,ql.den E.ρ=(l:Int):=⟨(ql.den E.ρ).toNat,J⟩;refine⟨rfl,rfl,jz,fin l (dec (e.den E.ρ)).l.length _ _ none (lit kl l ql yo Y mH) (by simp [gp]) (by simp [nD]) (bl _ _ _ _ J) ?_⟩;simp only [V.den,eZ.den,bB,Y,bd,anj]
     ·simp [T.leaf] at h
    ·rename_i kh qh;obtain⟨fI,fq,U⟩:=cE hp h;split at U
     ·simp [T.leaf] at U
     ·rename_i t1;rw [dU,decide_eq_false_iff_not,cl] at t1;split at U
      ·simp only [gp] at mH;subst mH;obtain⟨jH,jz,Z⟩:=cE (s:={ s with pc:=fI }) fq U;split at Z
       ·simp [T.leaf] at Z
       ·rename_i t2;have:=bC Z;simp only [ak] at this;obtain⟨rfl,rfl⟩:=this;rw [dU,decide_eq_false_iff_not] at t2;simp only [V.den,ang] at t2;obtain⟨k,hk⟩ : ∃k:Nat,qh.den E.ρ=(k:Int):=⟨(qh.den E.ρ).toNat,J⟩;refine⟨rfl,rfl,jz,fin 0 k _ none _ (by simp [gp]) (lit kh k qh hi' hk yq) (bl _ _ _ _ J) (by simp [nD]) ?_⟩;simp only [V.den,eZ.den,bB,hk,bd,am0]
      ·rename_i kl ql;obtain⟨jH,jz,Z⟩:=cE (s:={ s with pc:=fI }) fq U;split at Z
       ·simp [T.leaf] at Z
       ·rename_i t2;obtain⟨UT,I3,h3⟩:=cE (s:={ s with pc:=jH }) jz Z;split at h3
        ·simp [T.leaf] at h3
        ·rename_i t3;have:=bC h3;simp only [ak] at this;obtain⟨rfl,rfl⟩:=this;rw [dU,decide_eq_false_iff_not] at t2 t3;simp only [V.den,ang] at t2 t3;obtain⟨l,Y⟩ : ∃l:Nat,ql.den E.ρ=(l:Int):=⟨(ql.den E.ρ).toNat,J⟩;obtain⟨k,hk⟩ : ∃k:Nat,qh.den E.ρ=(k:Int):=⟨(qh.den E.ρ).toNat,J⟩;refine⟨rfl,rfl,I3,fin l k _ _ _ (lit kl l ql yo Y mH) (lit kh k qh hi' hk yq) (bl _ _ _ _ J) (bl _ _ _ _ J) ?_⟩;simp only [V.den,eZ.den,bB,Y,hk,bd,fc];exact yj fun q=>by rw [q]; simp [D.l]
      ·simp [T.leaf] at U
    ·simp [T.leaf] at h
   ·simp [T.leaf] at h
end
theorem D7 {e:V} (h:V! e=true):e= .lit 0:=by
 unfold V! at h
 grind [wx]
theorem pg (ρ:Nat->Int) (a b:V):(sA a b).den ρ=a.den ρ+b.den ρ:=by
 unfold sA;split
 ·rename_i h;rw [D7 h];simp only [V.den,Int.zero_add]
 ·rfl
theorem Tb (ρ:Nat->Int) (a b:V):(Dr a b).den ρ=a.den ρ-b.den ρ:=by
 unfold Dr;split
 ·rename_i h;rw [D7 h];simp only [V.den,Int.sub_zero]
 ·rfl
theorem xI {ρ:Nat->Int} {e lo n:V} {l k:Nat} (Y:lo.den ρ=(l:Int)) (hn:n.den ρ=(k:Int)) :
 dec ((DN e lo n).den ρ)=eW (dec (e.den ρ)) (((dec (e.den ρ)).l.take (l+k)).drop l):=by
 unfold DN;split
 ·rename_i h;have h:=D7 h;subst h;simp only [V.den] at Y;have:l=0:=J
  subst this;simp only [V.den,eZ.den,bB,hn,bd,ay,am0]
 ·have Z:((l:Int)+(k:Int)).toNat=l+k:=J
  simp only [V.den,eZ.den,bB,Y,hn,Z,bd,fc]
  grind [yj,D.l]
theorem wc {α:Type} {ρ:Nat->Int} {e lo n:V} {s:St} {k:St->T α} {x:α} (hp:bT ρ s.pc) (h:(xJ e lo n s k).leaf ρ=some x) :
 ∃ea,bT ρ ea/\0<=lo.den ρ/\0<=n.den ρ/\lo.den ρ+n.den ρ<=((dec (e.den ρ)).l.length:Int)/\(k { s with pc:=ea }).leaf ρ=some x:=by
 unfold xJ at h;obtain⟨fI,fq,U⟩:=cE hp h;split at U
 ·grind [T.leaf]
 ·rename_i RE;obtain⟨jH,jz,Z⟩:=cE (s:={ s with pc:=fI }) fq U;split at Z
  ·grind [T.leaf]
  ·rename_i LG;obtain⟨UT,I3,h3⟩:=cE (s:={ s with pc:=jH }) jz Z;split at h3
   ·grind [T.leaf]
   ·rename_i hb3;rw [dU,decide_eq_false_iff_not] at RE LG hb3;rw [cl,pg] at hb3;simp only [V.den] at RE LG
    grind
theorem mW {h:Hp} {id t:Nat} {e:V} {ty:TypeId} (hv:Bu h id t=some (e,ty)):h.get id=some (.vec e t ty []):=by
 unfold Bu at hv;split at hv
 ·rename_i o ho;split at hv
  ·split at hv
   ·split at hv
    all_goals simp_all
   grind
  grind
 grind
theorem Rd.ah7 {ro:Nat->Prop} {h:Array Obj} {t:Nat} {d:D} {a:Addr} {n cap qb:Nat} (r:Rd ro h (.sl t) d (.slice (some a) n cap)) (hc:n<=qb):Rd ro h (.sl t) d (.slice (some a) n qb):=by
 generalize hk:CK.sl t=c at r;generalize hv:Value.slice (some a) n cap=v at r
 cases r with
 |int k n=>simp at hk
 |bool b=>simp at hk
 |str s=>simp at hk
 |nil t=>simp at hv
 |we t a cap=> simp only [CK.sl.injEq] at hk;simp only [Value.slice.injEq,ag] at hv;obtain⟨rfl,rfl,rfl⟩:=hv;subst hk;exact .we _ _ _
 |one t' c b' o' qb ds f hr fY hb U Z=> simp only [CK.sl.injEq] at hk;simp only [Value.slice.injEq,ag] at hv;obtain⟨rfl,rfl,rfl⟩:=hv;subst hk;exact .one _ _ _ _ _ _ _ hr hc hb U Z
 |many t' cs b' o' qb rows f hr fY hb hll U Z=> simp only [CK.sl.injEq] at hk;simp only [Value.slice.injEq,ag] at hv;obtain⟨rfl,rfl,rfl⟩:=hv;subst hk;exact .many _ _ _ _ _ _ _ hr hc hb hll U Z
section
variable {P:Program} {E:En} {w:World}
theorem VB {h:Array Obj} {id:Nat} {e:V} {t:Nat} {ty:TypeId} {ro:Nat->Prop} (jy: ∀b,E.ro b->ro b) (hb:ro (E.θ id).1) (ho:OR E h id (.vec e t ty [])) {l k cap:Nat} {a:Addr} (hk:l+k<=(dec (e.den E.ρ)).l.length) (fV:k<=cap)
 (hc:eC E id (l*(rowOf t).es) k a cap (.rest (rowOf t).es)):Rd ro h (.sl t) (eW (dec (e.den E.ρ)) (((dec (e.den E.ρ)).l.take (l+k)).drop l)) (.slice (some a) k cap):=by
 have hw:=(OR.oe.1 ho).1.2
 have gn:dec (e.den E.ρ)≠.i 1:=by intro q;have:=hw.2.2;rw [q] at this;exact this rfl
 rcases ani k with h0|jU
 ·subst h0
  have:((dec (e.den E.ρ)).l.take (l+0)).drop l= []:=by
   grind
  rw [this,pd gn];exact .we _ _ _
 ·simp only [eC] at hc
  obtain⟨rfl,_⟩ : a=⟨(E.θ id).1,(E.θ id).2+l*(rowOf t).es,none⟩/\l*(rowOf t).es+cap*(rowOf t).es=E.κ id:=by
   grind
  have r0:=PC jy hb ho (k:=(dec (e.den E.ρ)).l.length) (cap:=(dec (e.den E.ρ)).l.length+l+1) (a:=⟨(E.θ id).1,(E.θ id).2,none⟩) rfl J (fun _=>rfl);have r1:=r0.part (l:=l) (k:=l+k) J hk J;rw [af J,show l+k-l=k by omega] at r1;exact r1.ah7 fV
structure Kh [bG] (E:En) (w:World) (H:Hp) (E':En) (H':Hp):Prop where
 ρ:E'.ρ=E.ρ
 eu:eS E H w E' H' w
 rel:bN E' H' w
 sub:Sub H' H
theorem Kh.refl [bG] {H:Hp} (r:bN E H w):Kh E w H E H:=⟨rfl,eS.refl _ _ _,r,Sub.refl _⟩
theorem Kh.trans [bG] {E1 E2:En} {H H1 H2:Hp} (a:Kh E w H E1 H1) (b:Kh E1 w H1 E2 H2):Kh E w H E2 H2:=
 ⟨b.ρ.trans a.ρ,a.eu.trans b.eu,b.rel,a.sub.trans b.sub⟩
theorem Je [bG] {α:Type} {ρ:Nat->Int} {v:W} {s:St} {k:W->St->T α} {x:α} (hρ:E.ρ=ρ) (r:bN E s.h w) (hp:bT ρ s.pc) (h:(Oy v s k).leaf ρ=some x) :
 ∃v' h' ea E',bT ρ ea/\Kh E w s.h E' h'/\(∀u,VR E w.heap v u->VR E' w.heap v' u)/\(k v' { s with h:=h',pc:=ea }).leaf ρ=some x:=by
 unfold Oy at h;split at h
 ·rename_i id lo n t;split at h
  ·rename_i e ty hv;have Y:=mW hv;obtain⟨ea,fA,U,Z,h3,h4⟩:=wc hp h;obtain⟨hk,s1,r1⟩:=JM r Y;refine⟨_,_,ea,{ E with ro:=fun b=>E.ro b\/b=(E.θ id).1 },fA,⟨rfl,s1,r1,Sub.drop _ _⟩,fun u hu=>?_,h4⟩;simp only [VR] at hu ⊢;obtain⟨hid,l,m,a,cap,q1,q2,rfl,q4,q5⟩:=hu;rw [xI q1 q2];rw [hρ] at q1 q2;have hh:=VB (E:=E) (ro:=fun b=>E.ro b\/b=(E.θ id).1) (fun _ h=> .inl h) (.inr rfl) (r.live id _ Y).2.1 (l:=l) (k:=m) (by rw [hρ]; omega) q4 q5;exact hh
  ·exact⟨_,_,s.pc,E,hp,Kh.refl r,fun _ h=>h,h⟩
 ·cases hf:Ud v s.h with
  |mk v' h'=> rw [hf] at h;obtain⟨E',q1,q2,q3,q4,q5⟩:=ae8 r hf;exact⟨v',h',s.pc,E',hp,⟨q1,q2,q3,q5⟩,q4,h⟩
theorem LQ [bG] {α:Type} {ρ:Nat->Int}: ∀{vs:List W} {s:St} {E:En} {k:List W->St->T α} {x:α},E.ρ=ρ->bN E s.h w->bT ρ s.pc->(Hf vs s k).leaf ρ=some x->
 ∃MO h' ea E',bT ρ ea/\Kh E w s.h E' h'/\(∀us,cw E w.heap vs us->cw E' w.heap MO us)/\(k MO { s with h:=h',pc:=ea }).leaf ρ=some x
 |[],s,E,k,x,hρ,r,hp,h=> ⟨[],s.h,s.pc,E,hp,Kh.refl r,fun _ h=>h,h⟩
 |v::vs,s,E,k,x,hρ,r,hp,h=>by simp only [Hf] at h;obtain⟨v1,U,fI,E1,fq,f1,q1,g1⟩:=Je hρ r hp h;obtain⟨Vy,Z,jH,E2,jz,f2,q2,g2⟩:=LQ (s:={ s with h:=U,pc:=fI }) (f1.ρ.trans hρ) f1.rel fq g1;refine⟨v1::Vy,Z,jH,E2,jz,f1.trans f2,fun us hu=>?_,g2⟩;rw [bO] at hu ⊢;obtain⟨u,gw,rfl,a,b⟩:=hu;exact⟨u,gw,rfl,VR.keep (f2.eu.keeps f1.rel) _ _ (q1 u a),q2 gw (cw.keep (f1.eu.keeps r) _ _ b)⟩
theorem yX {ρ:Nat->Int} {i:Nat} {j:V} {cs:List W}: ∀{pre:List (V×List W)},dY ρ i (pre++ [(j,cs)])=match dY ρ i pre with |some c=>some c|none=>if j.den ρ=(i:Int) then some cs else none
 |[]=>rfl
 |(a,b)::pre=>by
  simp only [aR,dY];split
  ·rfl
  ·exact yX
theorem J? (ρ:Nat->Int) (e j x:V):dec ((V.op .set e (eD (mY j) x)).den ρ)=dL (fb (dec (e.den ρ)).l (j.den ρ) (dec (x.den ρ))):=by simp only [eD,V.den,eZ.den,bB,lz,D.n]
theorem KD (ds:List D) (z:Int) (x:D) (n:Nat):(fb ds z x)[n]?=if z=(n:Int)/\n<ds.length then some x else ds[n]?:=by
 grind [fb]
theorem xu {ρ:Nat->Int} {E1 E2:En} {h:Array Obj} {r:Row} {pre:List (V×List W)} {j:V} {cs:List W} {X:D} (mono: ∀a us,cw E1 h a us->cw E2 h a us) (hX: ∀us,cw E1 h cs us->uD E2.ro h r X us) :
 ∀{L L':List D} {i:Nat} {us:List Value},L'.length=L.length->(∀n:Nat,L'[n]?=if j.den ρ=((i+n:Nat):Int)/\n<L.length then some X else L[n]?)->
  cw E1 h (bD ρ r (pre++ [(j,cs)]) L i) us->cw E2 h (bD ρ r pre L' i) us
 |[],[],i,us,_,_,hv=>by simp only [bD,cw] at *; exact hv
 |[],_::_,_,_,Y,_,_=>by simp at Y
 |_::_,[],_,_,Y,_,_=>by simp at Y
 |d::L,d'::L',i,us,Y,hg,hv=>by
  simp only [bD] at *;obtain⟨a,b,rfl,a1,a2⟩:=hv.split;have h0:=hg 0;simp only [aF,bh,aL] at h0;refine cw.append ?_ (xu mono hX (by simpa using Y) (fun n=>?_) a2)
  ·rw [yX] at a1
   cases ho:dY ρ i pre with
   |some c=>
    grind
   |none=>
    rw [ho] at a1;simp only at a1 ⊢;by_cases hj:j.den ρ=(i:Int)
    ·rw [ah hj] at a1;rw [ah ⟨hj,J⟩] at h0;simp only [ag] at h0;subst h0;rw [fy];simp only [V.den,bB]
     grind
    grind
  ·have:=hg (n+1)
   grind
theorem K_ {r:Row} {ds:List D} {z:Int} {x:D} (U: ∀d∈ds,oI r d) (Z:oI r x): ∀d∈fb ds z x,oI r d:=by
 intro d hd;obtain⟨n,hn⟩:=anC.1 hd
 grind [KD]
theorem K' {ds:List D} {z:Int} {x:D} (h:ds≠[]):fb ds z x≠[]:=by
 intro q
 grind [fB]
theorem KW [bG] {α:Type} {ρ:Nat->Int} {t:Nat}: ∀{ov:List (V×List W)} {e:V} {s:St} {E:En} {k:V->St->T α} {x:α} (pre:List (V×List W)),E.ρ=ρ->bN E s.h w->bT ρ s.pc->sB (rowOf t) (dec (e.den ρ))->
 (Gz t ov e s k).leaf ρ=some x->
 ∃e' h' ea E',bT ρ ea/\Kh E w s.h E' h'/\sB (rowOf t) (dec (e'.den ρ))/\(dec (e'.den ρ)).l.length=(dec (e.den ρ)).l.length/\
  (∀us,cw E w.heap (bD ρ (rowOf t) (pre++ov) (dec (e.den ρ)).l 0) us->cw E' w.heap (bD ρ (rowOf t) pre (dec (e'.den ρ)).l 0) us)/\(k e' { s with h:=h',pc:=ea }).leaf ρ=some x
 |[],e,s,E,k,x,pre,hρ,r,hp,hw,h=> ⟨e,s.h,s.pc,E,hp,Kh.refl r,hw,rfl,fun us hu=>by rw [ank] at hu; exact hu,h⟩
 |(j,cs)::ov,e,s,E,k,x,pre,hρ,r,hp,hw,h=>by
  simp only [Gz] at h;obtain⟨e1,U,fI,E1,fq,f1,w1,l1,c1,g1⟩:=KW (pre++ [(j,cs)]) hρ r hp hw h;obtain⟨cs2,Z,jH,E2,jz,f2,c2,g2⟩:=LQ (s:={ s with h:=U,pc:=fI }) (f1.ρ.trans hρ) f1.rel fq g1;split at g2
  ·rename_i y hy;have hρ2:E2.ρ=ρ:=f2.ρ.trans (f1.ρ.trans hρ);have hsd:=J? ρ e1 j y;refine⟨_,Z,jH,E2,jz,f1.trans f2,?_,?_,?_,g2⟩
   ·rw [hsd];exact⟨by rw [bI],by rw [bI]; exact K_ w1.2.1 (tM hy),by rw [bI]; exact K' w1.2.2⟩
   ·grind [bI,fB]
   ·intro us hu;rw [hsd,bI];have Od:=c1 us (by rw [am7]; exact hu);refine xu (j:=j) (cs:=cs) (X:=dec (y.den ρ)) (fun a us ha=>cw.keep (f2.eu.keeps f1.rel) _ _ ha) (fun us BS=>?_) (fB _ _ _) (fun n=>?_) Od
    all_goals grind [tN,KD]
  grind [T.leaf]
theorem TL {v:W} {h:Hp} {id t:Nat} {e:V} {ov:List (V×List W)} (hv:ael v h=some (id,e,t,ov)): ∃ty,v= .oq id (dO e) t/\h.get id=some (.vec e t ty ov):=by
 unfold ael at hv;split at hv
 ·split at hv
  ·rename_i o ho;split at hv
   ·split at hv
    ·grind
    ·split at hv
     ·rename_i ht;split at hv
      ·rename_i hn;have ht:=aq ht
       grind [cH]
      grind
     grind
   grind
  grind
 grind
theorem CZ [bG] {α:Type} {ρ:Nat->Int} {v:W} {s:St} {k:W->St->T α} {x:α} (hρ:E.ρ=ρ) (r:bN E s.h w) (hp:bT ρ s.pc) (h:(LO v s k).leaf ρ=some x) :
 ∃v' h' ea E',bT ρ ea/\Kh E w s.h E' h'/\(∀u,VR E w.heap v u->VR E' w.heap v' u)/\(k v' { s with h:=h',pc:=ea }).leaf ρ=some x:=by
 unfold LO at h;split at h
 ·rename_i id e t ov hv;obtain⟨ty,rfl,Y⟩:=TL hv;obtain⟨hid,ho,amv⟩:=r.live id _ Y;have wB:=ho;simp only [OR] at wB;rw [hρ] at wB;obtain⟨⟨qH,rH⟩,arr,lo,hi,us,q1,q2,q3,q4,q5,q6,q7⟩:=wB;obtain⟨e',h',ea,E',fA,f,w',l',c',g⟩:=KW [] hρ r hp rH h;split at g
  ·rename_i o hg;have hg':=f.sub.get _ _ hg;rw [Y] at hg';simp only [ag] at hg';subst hg';obtain⟨hk,s1,r1⟩:=JM f.rel hg;have hρ':E'.ρ=ρ:=f.ρ.trans hρ;refine⟨_,_,ea,{ E' with ro:=fun b=>E'.ro b\/b=(E'.θ id).1 },fA,⟨f.ρ,f.eu.trans s1,r1,f.sub.trans (Sub.drop _ _)⟩,fun u hu=>?_,g⟩;simp only [VR] at hu ⊢;obtain⟨_,m,a,cap,p1,rfl,p3,p4⟩:=hu;rw [cl,hρ] at p1;have hθ:=f.eu.θ id hid;have hκ:=f.eu.κ id hid
   have hO:OR E' w.heap id (.vec e' t ty []):=by simp only [OR];rw [hρ',hθ,hκ];have hv':=c' us (by rw [aA]; exact q2);refine⟨⟨fun p hp=>by simp at hp,w'⟩,arr,lo,hi,us,q1,hv',q3,?_,q5,q6,q7⟩;have e1:=hv'.length;have e2:=q2.length;omega
   have hh:=VA (E:=E') (ro:=fun b=>E'.ro b\/b=(E'.θ id).1) (fun _ h=> .inl h) (.inr rfl) hO (k:=m) (cap:=cap) (a:=a) (by rw [hρ',l']; omega) p3 (by
    simp only [eC] at p4 ⊢;rw [hθ,hκ]
    exact p4)
   exact hh
  grind [T.leaf]
 grind [Je]
theorem pR [bG] {α:Type} {ρ:Nat->Int}: ∀{vs:List W} {s:St} {E:En} {k:List W->St->T α} {x:α},E.ρ=ρ->bN E s.h w->bT ρ s.pc->(xr vs s k).leaf ρ=some x->
 ∃MO h' ea E',bT ρ ea/\Kh E w s.h E' h'/\(∀us,cw E w.heap vs us->cw E' w.heap MO us)/\(k MO { s with h:=h',pc:=ea }).leaf ρ=some x
 |[],s,E,k,x,hρ,r,hp,h=> ⟨[],s.h,s.pc,E,hp,Kh.refl r,fun _ h=>h,h⟩
 |v::vs,s,E,k,x,hρ,r,hp,h=>by simp only [xr] at h;obtain⟨v1,U,fI,E1,fq,f1,q1,g1⟩:=CZ hρ r hp h;obtain⟨Vy,Z,jH,E2,jz,f2,q2,g2⟩:=pR (s:={ s with h:=U,pc:=fI }) (f1.ρ.trans hρ) f1.rel fq g1;refine⟨v1::Vy,Z,jH,E2,jz,f1.trans f2,fun us hu=>?_,g2⟩;rw [bO] at hu ⊢;obtain⟨u,gw,rfl,a,b⟩:=hu;exact⟨u,gw,rfl,VR.keep (f2.eu.keeps f1.rel) _ _ (q1 u a),q2 gw (cw.keep (f1.eu.keeps r) _ _ b)⟩
end
section
variable {P:Program} {E:En} {w:World}
theorem ly: ∀{cs vs l:List W} {o:Nat},dX cs o vs=some l->l.length=cs.length
 |cs,[],l,0,h=>by simp only [dX,ag] at h; rw [h]
 |[],v::vs,l,0,h=>by simp [dX] at h
 |c::cs,v::vs,l,0,h=>by
  simp only [dX] at h;split at h
  ·rename_i l' Y;simp only [ag] at h;subst h;simp [ly Y]
  grind
 |[],vs,l,o+1,h=>by simp [dX] at h
 |c::cs,vs,l,o+1,h=>by
  simp only [dX] at h;split at h
  ·rename_i l' Y;simp only [ag] at h;subst h;simp [ly Y]
  grind
theorem nH: ∀{cs vs l:List W} {o:Nat} (m:List W),dX cs o vs=some l->dX (cs++m) o vs=some (l++m)
 |cs,[],l,0,m,h=>by simp only [dX,ag] at h ⊢; rw [h]
 |[],v::vs,l,0,m,h=>by simp [dX] at h
 |c::cs,v::vs,l,0,m,h=>by
  simp only [dX,aR] at h ⊢;split at h
  ·rename_i l' Y;simp only [ag] at h;subst h;rw [nH m Y];rfl
  grind
 |[],vs,l,o+1,m,h=>by simp [dX] at h
 |c::cs,vs,l,o+1,m,h=>by
  simp only [dX,aR] at h ⊢;split at h
  ·rename_i l' Y;simp only [ag] at h;subst h;rw [nH m Y];rfl
  grind
theorem sN: ∀{cs vs l:List W} {o:Nat} (p:List W),dX cs o vs=some l->dX (p++cs) (p.length+o) vs=some (p++l)
 |cs,vs,l,o,[],h=>by simpa using h
 |cs,vs,l,o,x::p,h=>by have:=sN p h;rw [aR,aL,show p.length+1+o=(p.length+o)+1 by omega];simp only [dX,this,aR]
theorem rO: ∀{cs vs l:List W} {o:Nat},dX cs o vs=some l->∀j:Nat,l[j]?=if o<=j/\j<o+vs.length then vs[j-o]? else cs[j]?
 |cs,[],l,0,h,j=>by
  simp only [dX,ag] at h
  grind
 |[],v::vs,l,0,h,j=>by simp [dX] at h
 |c::cs,v::vs,l,0,h,j=>by
  simp only [dX] at h;split at h
  ·rename_i l' Y;simp only [ag] at h;subst h
   cases j with
   |zero=>simp
   |succ j=>
    have:=rO Y j
    grind
  grind
 |[],vs,l,o+1,h,j=>by simp [dX] at h
 |c::cs,vs,l,o+1,h,j=>by
  simp only [dX] at h;split at h
  ·rename_i l' Y;simp only [ag] at h;subst h
   cases j with
   |zero=>rw [af J]; rfl
   |succ j=>
    have:=rO Y j
    grind
  grind
theorem Af (x:V): ∀(cs:List CK) (j k:Nat),(iw cs j x)[k]?=(cs[k]?).map fun c=>vJ c (iL (j+k) x)
 |[],j,k=>by simp [iw]
 |c::cs,j,0=>by simp [iw]
 |c::cs,j,k+1=>by
  simp only [iw,aH,Af x cs (j+1) k]
  grind
theorem BC {ρ:Nat->Int} {ks:List CK}: ∀{vs:List W} {off:Nat} {x x':V},setCells ks off vs x=some x'->off+vs.length<=(dec (x.den ρ)).l.length->
 (dec (x'.den ρ)).l.length=(dec (x.den ρ)).l.length/\(dec (x.den ρ)=dL (dec (x.den ρ)).l->dec (x'.den ρ)=dL (dec (x'.den ρ)).l)/\
 ∀j,(j<off\/off+vs.length<=j)/\(dec (x'.den ρ)).l[j]?=(dec (x.den ρ)).l[j]?\/∃c v a,off<=j/\vs[j-off]?=some v/\ks[j]?=some c/\lS c v=some a/\(dec (x'.den ρ)).l[j]?=some (dec (a.den ρ))
 |[],off,x,x',h,_=>by
  simp only [setCells,ag] at h
  grind
 |v::vs,off,x,x',h,hle=>by
  simp only [setCells] at h;split at h
  ·rename_i c hc;split at h
   ·rename_i a ha;simp only [aL] at hle
    have hs:dec ((V.op .set x (eD (.eg (.i (Int.ofNat off))) a)).den ρ)=dL ((dec (x.den ρ)).l.set off (dec (a.den ρ))):=by simp only [eD,V.den,eZ.den,bB,D.n];rfl
    obtain⟨U,Z,h3⟩:=BC (ρ:=ρ) h (by rw [hs,bI,anp]; omega);rw [hs,bI,anp] at U;rw [hs] at Z h3;simp only [bI] at Z h3;rw [dg] at hc
    grind
   grind
  grind
theorem dV.mk {ro:Nat->Prop} {h:Array Obj} {d:D}: ∀{cs:List CK} {j:Nat} {us:List Value},us.length=cs.length->(∀k c u,cs[k]?=some c->us[k]?=some u->iJ ro h c (d.hd (j+k)) u)->dV ro h cs j d us
 |[],j,us,Y,_=>by
  simp only [dV]
  grind
 |c::cs,j,[],Y,_=>by simp at Y
 |c::cs,j,u::us,Y,hh=>by
  simp only [dV];refine⟨u,us,rfl,by simpa using hh 0 c u rfl rfl,dV.mk (by simpa using Y) fun k c' u' U Z=>?_⟩;have:=hh (k+1) c' u' (by simpa using U) (by simpa using Z)
  grind
theorem Pg {r:Row} {e e' i:V} {off k:Nat} {vs:List W} {x:D} (hc:JT r e i off vs=some e') (hi:i.den E.ρ=(k:Int)) (hx:(dec (e.den E.ρ)).l[k]?=some x) (rH:oI r x) (hle:off+vs.length<=r.es) :
 ∃x',dec (e'.den E.ρ)=dL ((dec (e.den E.ρ)).l.set k x')/\oI r x'/\∀(h:Array Obj) (gw:List Value),gw.length=r.es->(∀j v u,off<=j->vs[j-off]?=some v->gw[j]?=some u->VR E h v u)->
  (∀j a u,(j<off\/off+vs.length<=j)->(gz r (.op .at e i))[j]?=some a->gw[j]?=some u->VR E h a u)->uD E.ro h r x' gw:=by
 unfold JT at hc;split at hc
 ·rename_i c;split at hc
  ·split at hc
   ·rename_i v;split at hc
    ·rename_i a ha;simp only [ag] at hc;subst hc;refine⟨dec (a.den E.ρ),?_,pe ha,?_⟩
     ·simp only [eD,V.den,eZ.den,bB,lz,D.n,hi,pq]
     ·intro h gw U Z _
      cases gw with
      |nil=>simp [Row.es] at U
      |cons y ys=>
       have:ys= []:=by
        grind [Row.es]
       subst this;exact⟨y,rfl,jJ (Z 0 v y (au _) rfl rfl) ha⟩
    grind
   grind
  grind
 ·rename_i ks;split at hc
  ·rename_i x' I1;simp only [ag] at hc;subst hc;have mN:=Bq E.ρ e i hi hx;obtain⟨w1,w2,w3⟩:=rH;obtain⟨g1,g2,g3⟩:=BC (ρ:=E.ρ) I1 (by rw [mN,w2]; exact hle);rw [mN] at g1 g2 g3;refine⟨dec (x'.den E.ρ),?_,⟨g2 w1,by rw [g1,w2],?_⟩,?_⟩
   ·simp only [eD,V.den,eZ.den,bB,lz,D.n,hi,pq]
   ·intro j c y hj hy;rcases g3 j with ⟨_,q2⟩|⟨c',v',a',_,_,q3,q4,q5⟩
    ·grind
    ·rw [q5] at hy;rw [hj] at q3;simp only [ag] at hy q3;subst hy q3;exact pe q4
   ·intro h gw U Z h3;show dV E.ro h ks 0 (dec (x'.den E.ρ)) gw;refine dV.mk U fun j c u hj hu=>?_;rw [ay];rcases g3 j with ⟨q1,q2⟩|⟨c',v',a',q1,q2,q3,q4,q5⟩
    ·have p2:=h3 j (vJ c (iL j (.op .at e i))) u q1 (by simp only [gz,Af,hj,bq,ay]) hu;rw [nr,px,mN] at p2;have:(dec (x'.den E.ρ)).hd j=x.hd j:=by simp only [D.hd,q2]
     grind
    ·rw [hj] at q3;simp only [ag] at q3;subst q3;have:(dec (x'.den E.ρ)).hd j=dec (a'.den E.ρ):=by simp only [D.hd,q5,aC]
     rw [this];exact jJ (Z j v' u q1 q2 hu) q4
  grind
theorem ky {ρ:Nat->Int} {r:Row} {ov iP:List (V×List W)}: ∀(ds:List D) (i:Nat),(∀j,i<=j->j<i+ds.length->dY ρ j ov=dY ρ j iP)->bD ρ r ov ds i=bD ρ r iP ds i
 |[],_,_=>rfl
 |d::ds,i,h=>by simp only [bD];rw [h i (au _) ad,ky ds (i+1) fun j U Z=>h j J (by simp only [aL]; omega)]
theorem DK {ρ:Nat->Int} {pc:List (SB×Bool)} (hp:bT ρ pc) {i:V} {k:Nat} (hi:i.den ρ=(k:Int)) {lE:List W} {r:Row} (MV:lE.length=r.es): ∀{ov iP:List (V×List W)},Gr pc i lE ov=some iP->sU r ov->
 sU r iP/\dY ρ k iP=some lE/\∀j:Nat,j≠k->dY ρ j iP=dY ρ j ov
 |[],iP,h,_=>by simp [Gr] at h
 |(j,c)::l,iP,h,ho=>by
  simp only [Gr] at h;split at h
  ·rename_i he;have he:=cH _ _ he;subst he;simp only [ag] at h;subst h;refine⟨?_,by simp [dY,hi],?_⟩
   ·intro p fA;rcases aw.1 fA with rfl|fA
    ·grind
    ·exact ho p (by simp [fA])
   ·intro m hm;simp only [dY,hi]
    grind
  ·split at h
   ·rename_i b hd;split at h
    ·have hd:=gD hp hd;rw [gG,beq_iff_eq,hi] at hd;simp only [ag] at h;subst h;refine⟨?_,by simp [dY,hd],?_⟩
     ·intro p fA;rcases aw.1 fA with rfl|fA
      ·grind
      ·exact ho p (by simp [fA])
     ·intro m hm;simp only [dY,<- hd]
      grind
    split at h
    ·rename_i l' Y;simp only [ag] at h;subst h;have hd:=gD hp hd;rw [gG,beq_eq_false_iff_ne,hi] at hd;obtain⟨g1,g2,g3⟩:=DK hp hi MV Y fun p fA=>ho p (by simp [fA]);refine⟨?_,?_,?_⟩
     ·intro p fA;rcases aw.1 fA with rfl|fA
      ·exact ho _ ad
      ·exact g1 p fA
     ·simp only [dY]
      grind
     ·intro m hm;simp only [dY]
      grind
    grind
   grind
theorem HQ {ρ:Nat->Int} {pc:List (SB×Bool)} (hp:bT ρ pc) {i:V} {k:Nat} (hi:i.den ρ=(k:Int)): ∀{ov:List (V×List W)},vP pc i ov=true->dY ρ k ov=none
 |[],_=>rfl
 |(j,c)::l,h=>by
  simp only [vP] at h;split at h
  ·rename_i hd;have hd:=gD hp hd;rw [gG,beq_eq_false_iff_ne,hi] at hd;simp only [dY];rw [af (fun q=>hd q.symm)];exact HQ hp hi h
  grind
theorem OR.congr {h:Array Obj} {id:Nat} {a b:List W} {ty:TypeId} (ho:OR E h id (.cells a ty)) (Y:b.length=a.length) (hv: ∀us,cw E h a us->cw E h b us):OR E h id (.cells b ty):=by
 simp only [OR] at ho ⊢
 grind
set_option maxHeartbeats 800000 in
theorem L0 [bG] {E1:En} {tt:TT} (cJ:eB P tt) {s s':St} (r1:bN E1 s.h w) (hp:bT E1.ρ s.pc) {ty id es:Nat} {i:V} {off:Nat} {one:Bool} {vs:List W} {v':W} {u x:Value} (hx:VR E1 w.heap (.yu id es i off) u)
 (MU:one=true->cw E1 w.heap vs x.cells.toList/\∀u∈x.cells.toList,u.oneCell'=true) (h:(EF tt s ty id es i off one vs).leaf E1.ρ=some (v',s')) :
 s'.bE=s.bE/\bT E1.ρ s'.pc/\v'=W.undef/\∃w' E',(Instr.storeAt ty u x).run P w= .ok () w'/\eS E1 s.h w E' s'.h w'/\bN E' s'.h w':=by
 unfold EF at h;split at h
 ·rename_i o Y;split at h
  ·rename_i e t Az ov;split at h
   ·rename_i ti fN;split at h
    ·rename_i je;obtain⟨lq,hvl,uB⟩:=je;obtain⟨pc0,X1,t1,t2,h3⟩:=nw hp h;obtain⟨ea,fA,h3⟩:=vV (s:={ s with pc:=pc0 }) X1 h3;split at h3
     ·rename_i cs hc;split at h3
      ·rename_i lE hs;obtain⟨G5,X8⟩:=MU uB;have hx1:=hx;simp only [VR] at hx1;obtain⟨hid,k,hk,rfl⟩:=hx1;obtain⟨rc,ho,rH⟩:=r1.oe Y;rw [cl] at t2;have fD:k<(dec (e.den E1.ρ)).l.length:=J
       have hd:(dec (e.den E1.ρ)).l[k]?=some (dec (e.den E1.ρ)).l[k]:=aM fD;generalize hxk:(dec (e.den E1.ρ)).l[k]=xk at hd;obtain⟨c1,c2⟩:=jf (ρ:=E1.ρ) ho (j:=0) hd;rw [ay] at c1;generalize X?:bD E1.ρ (rowOf t) ov ((dec (e.den E1.ρ)).l.take k) 0=pre at c1 c2;generalize Rn:bD E1.ρ (rowOf t) ov ((dec (e.den E1.ρ)).l.drop (k+1)) (k+1)=post at c1
       have ij:(∀h us,cw E1 h (match dY E1.ρ k ov with |some cs=>cs|none=>gz (rowOf t) (.eg xk)) us↔cw E1 h cs us)/\cs.length=(rowOf t).es:=by
        rcases nI fA hk hc with g|⟨g,rfl⟩
        ·rw [g];obtain⟨p,p1,p2,_⟩:=kJ g;have:=ho p p1;rw [p2] at this;exact⟨fun _ _=>Iff.rfl,this⟩
        ·rw [g];refine⟨fun h us=>xF ?_,gQ _ _⟩;rw [Bq E1.ρ e i hk hd];simp only [V.den,bB]
       obtain⟨hrv,BX⟩:=ij;have I7:lE.length=(rowOf t).es:=by rw [ly hs,BX]
       have Ro:OR E1 w.heap id (.cells (pre++(cs++post)) Az):=by
        have:=(rc.live id _ (by rw [Hp.bP,ah rfl])).2.1;unfold cM at this;rw [c1] at this;refine OR.congr this ?_ ?_
        ·simp only [aZ,BX];congr 2;split
         ·rename_i cs0 h0;obtain⟨p,p1,p2,_⟩:=kJ h0;have:=ho p p1;rw [p2] at this;exact this.symm
         ·rw [gQ]
        ·intro us q2;obtain⟨a,b,rfl,a1,a2⟩:=q2.split;obtain⟨a',b',rfl,b1,b2⟩:=a2.split;exact a1.append (((hrv _ _).1 b1).append b2)
       have r2:=r1.swap (H2:=s.h.put id (.cells (pre++(cs++post)) Az)) Y Ro (by rw [Hp.bP,ah rfl]) (fun j hj=>by rw [Hp.bP,af hj]) rfl rfl
       have hs2:dX (pre++(cs++post)) (k*es+off) vs=some (pre++(lE++post)):=by rw [<- lq,<- c2];exact sN pre (nH post hs)
       obtain⟨w',g1,g2,g3⟩:=lM (P:=P) r2 (by rw [Hp.bP,ah rfl]) hs2 G5 X8;have hlen:x.cells.size=ti.size:=by have:=G5.length; simp only [bn] at this; omega
       have jx:(Instr.storeAt ty (.pointer (some ⟨(E1.θ id).1,(E1.θ id).2+(k*es+off),none⟩)) x).run P w= .ok () w':=by simp [Instr.storeAt,Instr.sureAddr,storeVar,ez (cJ ty ti fN),hlen,g1]
       have fin: ∀(o':dP),OR E1 w'.heap id o'->∃w' E',(Instr.storeAt ty (.pointer (some ⟨(E1.θ id).1,(E1.θ id).2+(k*es+off),none⟩)) x).run P w= .ok () w'/\eS E1 s.h w E' (s.h.put id o') w'/\bN E' (s.h.put id o') w':=by
        intro o' wB;have al1:F0 (s.h.put id (.cells (pre++(cs++post)) Az)) s.h:=(F0.put Y).symm
        have al2:F0 ((s.h.put id (.cells (pre++(cs++post)) Az)).put id (.cells (pre++(lE++post)) Az)) (s.h.put id o'):=by
         refine⟨fun j y hj=>?_,fun j y hj=>?_,rfl,rfl⟩
         ·rw [Hp.bP];split
          ·exact⟨o',rfl⟩
          ·rename_i gn;rw [Hp.bP,af gn,Hp.bP,af gn] at hj;exact⟨y,hj⟩
         ·rw [Hp.bP] at hj ⊢;split
          ·exact⟨_,rfl⟩
          ·rename_i gn;rw [af gn] at hj;rw [Hp.bP,af gn];exact⟨y,hj⟩
        refine⟨w',E1,jx,(g2.left al1).right al2,?_⟩;exact g3.swap (id:=id) (by rw [Hp.bP,ah rfl]) wB (by rw [Hp.bP,ah rfl]) (fun j hj=>by rw [Hp.bP,af hj,Hp.bP,af hj,Hp.bP,af hj]) rfl rfl
       have A8:=(g3.live id _ (by rw [Hp.bP,ah rfl])).2.1
       have apart: ∀iP:List (V×List W),sU (rowOf t) iP->dY E1.ρ k iP=some lE->(∀j:Nat,j≠k->dY E1.ρ j iP=dY E1.ρ j ov)->OR E1 w'.heap id (.vec e t Az iP):=by
        intro iP q1 q2 q3;refine OR.oe.2 ⟨⟨q1,rH⟩,?_⟩
        have:cM E1.ρ e t iP=pre++(lE++post):=by
         unfold cM;obtain⟨d1,_⟩:=jf (ρ:=E1.ρ) q1 (j:=0) hd;rw [ay,q2] at d1;rw [d1,<- X?,<- Rn];congr 1
         ·refine ky _ _ fun j _ hj=>q3 j ?_;rw [a8] at hj;omega
         ·congr 1;exact ky _ _ fun j hj _=>q3 j J
        rw [this];exact A8
       split at h3
       ·rename_i iP qH;have:=bC h3;simp only [ak] at this;obtain⟨rfl,rfl⟩:=this;refine⟨rfl,fA,rfl,?_⟩;obtain⟨q1,q2,q3⟩:=DK fA hk I7 qH ho;exact fin _ (apart iP q1 q2 q3)
       ·split at h3
        ·rename_i ajh;have Ru:=HQ fA hk ajh;split at h3
         ·rename_i e' aeI;have:=bC h3;simp only [ak] at this;obtain⟨rfl,rfl⟩:=this;refine⟨rfl,fA,rfl,fin _ ?_⟩;have hxm:xk∈(dec (e.den E1.ρ)).l:=amE hd
          have hle:off+vs.length<=(rowOf t).es:=by
           rw [<- BX];rcases ani vs.length with hz|hz
           ·have aiN:=amJ hz;subst aiN
            have: ∀(l c:List W) (o:Nat),dX c o []=some l->o<=c.length:=by
             intro l c
             induction c generalizing l with
             |nil=>intro o ho; cases o with |zero=>exact amS _|succ o=>simp [dX] at ho
             |cons a c ih=>
              intro o ho
              cases o with
              |zero=>exact amS _
              |succ o=>
               simp only [dX] at ho;split at ho
               ·rename_i l' FP;have:=ih l' o FP;simp; omega
               ·simp at ho
            have:=this _ _ _ hs;simpa using this
           ·have:=rO hs (off+vs.length-1);rw [ah J] at this
            have BU:(vs[off+vs.length-1-off]?).isSome=true:=by rw [aM J]; rfl
            rw [<- this] at BU;obtain⟨y,hy⟩:=am9.1 BU;have:=(aW.1 hy).1;rw [ly hs] at this;omega
          obtain⟨x',z1,z2,z3⟩:=Pg aeI hk hd (rH.2.1 xk hxm) hle;refine OR.oe.2 ⟨⟨ho,?_⟩,?_⟩
          ·rw [z1];refine⟨by rw [bI],fun y hy=>?_,by rw [bI]; intro q; have:=congrArg List.length q; simp at this; exact rH.2.2 this⟩;rw [bI] at hy;rcases List.mem_or_eq_of_mem_set hy with hy|rfl
           ·exact rH.2.1 y hy
           ·exact z2
          ·have uI:(dec (e'.den E1.ρ)).l[k]?=some x':=by
            rw [z1,bI,List.getElem?_set_self fD]
           obtain⟨d1,d2⟩:=jf (ρ:=E1.ρ) ho (j:=0) uI;rw [ay,Ru] at d1
           have RB:cM E1.ρ e' t ov=pre++(gz (rowOf t) (.eg x')++post):=by
            unfold cM;rw [d1,<- X?,<- Rn,z1,bI];congr 1
            ·rw [anY (au _)]
            ·congr 1;rw [anZ J]
           rw [RB];refine OR.congr A8 (by simp only [aZ,gQ,I7]) fun us q2=>?_;obtain⟨a,b,rfl,a1,a2⟩:=q2.split;obtain⟨a',b',rfl,b1,b2⟩:=a2.split;refine a1.append (cw.append ?_ b2);rw [fy];simp only [V.den,bB]
           have aja:cs=gz (rowOf t) (.op .at e i):=by
            rcases nI fA hk hc with g|⟨g,g'⟩
            ·rw [Ru] at g; simp at g
            ·exact g'
           refine z3 _ a' (by rw [b1.length,I7]) ?_ ?_
           ·intro j vj uj hj1 hj2 hj3;have hjl:=(aW.1 hj2).1;have:=rO hs j;rw [ah J,hj2] at this;obtain⟨y,y1,y2⟩:=b1.nth (by rw [dg]; exact this);rw [hj3] at y1;simp only [ag] at y1;subst y1;exact y2
           ·intro j aj uj hj1 hj2 hj3;have:=rO hs j;rw [af J,aja,hj2] at this;obtain⟨y,y1,y2⟩:=b1.nth (by rw [dg]; exact this);rw [hj3] at y1;simp only [ag] at y1;subst y1;exact y2
         ·have:=bC h3;simp only [ak] at this;obtain⟨rfl,rfl⟩:=this;refine⟨rfl,fA,rfl,fin _ (apart _ ?_ ?_ ?_)⟩
          ·intro p fA;rcases aw.1 fA with rfl|fA
           ·exact I7
           ·exact ho p fA
          ·simp only [dY];rw [ah hk]
          ·intro j hj;simp only [dY];rw [af J]
        ·simp [T.leaf] at h3
      ·simp [T.leaf] at h3
     ·simp [T.leaf] at h3
    ·simp [T.leaf] at h
   ·simp [T.leaf] at h
  ·simp [T.leaf] at h
 ·simp [T.leaf] at h
theorem aae {E1:En} {h:Array Obj} {c:CK} {v:W} {u:Value} (hv:VR E1 h v u):VR E1 h (afb c v) u:=by
 unfold afb;split
 ·split
  ·simp only [VR] at hv ⊢;subst hv;exact⟨⟨none,rfl⟩,by simp only [V.den,bB]; exact .nil _⟩
  ·split
   ·split
    ·split
     ·simp only [VR] at hv ⊢;obtain⟨_,a,cap,rfl,_,hc⟩:=hv;simp only [eC] at hc;obtain⟨rfl,_⟩:=hc;exact⟨⟨some a,rfl⟩,by simp only [V.den,bB]; exact .we _ _ _⟩
     grind
    grind
   grind
  grind
 grind
theorem Hj {E1:En} {h:Array Obj}: ∀(cs:List CK) {vs:List W} {us:List Value},cw E1 h vs us->cw E1 h (LS cs vs) us
 |[],vs,us,hv=>hv
 |_::_,[],us,hv=>hv
 |c::cs,v::vs,us,hv=>by rw [bO] at hv;obtain⟨u,gw,rfl,U,Z⟩:=hv;simp only [LS];rw [bO];exact⟨u,gw,rfl,aae U,Hj cs Z⟩
set_option maxHeartbeats 800000 in
theorem LZ [bG] {E1:En} {tt:TT} (cJ:eB P tt) {s s':St} (r1:bN E1 s.h w) (hp:bT E1.ρ s.pc) {ty id es:Nat} {i j0:V} {off:Nat} {one:Bool} {vs:List W} {v':W} {u x:Value} (hx:VR E1 w.heap (.yu id es i off) u)
 (MU:one=true->cw E1 w.heap vs x.cells.toList/\∀u∈x.cells.toList,u.oneCell'=true) (h:(EE tt s ty id es i j0 off one vs).leaf E1.ρ=some (v',s')) :
 s'.bE=s.bE/\bT E1.ρ s'.pc/\v'=W.undef/\∃w' E',(Instr.storeAt ty u x).run P w= .ok () w'/\eS E1 s.h w E' s'.h w'/\bN E' s'.h w':=by
 unfold EE at h;split at h
 ·rename_i o Y;split at h
  ·rename_i e t Az ov;split at h
   ·rename_i ti fN;split at h
    ·rename_i je;obtain⟨lq,hvl,uB⟩:=je;obtain⟨pc0,X1,t1,t2,h3⟩:=nw hp h;obtain⟨ea,fA,h3⟩:=vV (s:={ s with pc:=pc0 }) X1 h3;split at h3
     ·rename_i hdb;have hij:=gD fA hdb;split at h3
      ·rename_i cs hc;split at h3
       ·rename_i lE hs;obtain⟨aiM,X8⟩:=MU uB;have G5:=Hj ((NI (rowOf t)).drop off) aiM;have hx1:=hx;simp only [VR] at hx1;obtain⟨hid,k,hk,rfl⟩:=hx1;simp only [SB.den,beq_iff_eq] at hij;have CV:j0.den E1.ρ=(k:Int):=by rw [<- hij]; exact hk
        obtain⟨rc,ho,rH⟩:=r1.oe Y;rw [cl] at t2;have fD:k<(dec (e.den E1.ρ)).l.length:=J
        have hd:(dec (e.den E1.ρ)).l[k]?=some (dec (e.den E1.ρ)).l[k]:=aM fD;generalize hxk:(dec (e.den E1.ρ)).l[k]=xk at hd;obtain⟨c1,c2⟩:=jf (ρ:=E1.ρ) ho (j:=0) hd;rw [ay] at c1;generalize X?:bD E1.ρ (rowOf t) ov ((dec (e.den E1.ρ)).l.take k) 0=pre at c1 c2;generalize Rn:bD E1.ρ (rowOf t) ov ((dec (e.den E1.ρ)).l.drop (k+1)) (k+1)=post at c1
        have ij:(∀h us,cw E1 h (match dY E1.ρ k ov with |some cs=>cs|none=>gz (rowOf t) (.eg xk)) us↔cw E1 h cs us)/\cs.length=(rowOf t).es:=by
         rcases nI fA CV hc with g|⟨g,rfl⟩
         ·rw [g];obtain⟨p,p1,p2,_⟩:=kJ g;have:=ho p p1;rw [p2] at this;exact⟨fun _ _=>Iff.rfl,this⟩
         ·rw [g];refine⟨fun h us=>xF ?_,gQ _ _⟩;rw [Bq E1.ρ e j0 CV hd];simp only [V.den,bB]
        obtain⟨hrv,BX⟩:=ij;have I7:lE.length=(rowOf t).es:=by rw [ly hs,BX]
        have Ro:OR E1 w.heap id (.cells (pre++(cs++post)) Az):=by
         have:=(rc.live id _ (by rw [Hp.bP,ah rfl])).2.1;unfold cM at this;rw [c1] at this;refine OR.congr this ?_ ?_
         ·simp only [aZ,BX];congr 2;split
          ·rename_i cs0 h0;obtain⟨p,p1,p2,_⟩:=kJ h0;have:=ho p p1;rw [p2] at this;exact this.symm
          ·rw [gQ]
         ·intro us q2;obtain⟨a,b,rfl,a1,a2⟩:=q2.split;obtain⟨a',b',rfl,b1,b2⟩:=a2.split;exact a1.append (((hrv _ _).1 b1).append b2)
        have r2:=r1.swap (H2:=s.h.put id (.cells (pre++(cs++post)) Az)) Y Ro (by rw [Hp.bP,ah rfl]) (fun j hj=>by rw [Hp.bP,af hj]) rfl rfl
        have hs2:dX (pre++(cs++post)) (k*es+off) (LS ((NI (rowOf t)).drop off) vs)=some (pre++(lE++post)):=by rw [<- lq,<- c2];exact sN pre (nH post hs)
        obtain⟨w',g1,g2,g3⟩:=lM (P:=P) r2 (by rw [Hp.bP,ah rfl]) hs2 G5 X8;have hlen:x.cells.size=ti.size:=by have:=aiM.length; simp only [bn] at this; omega
        have jx:(Instr.storeAt ty (.pointer (some ⟨(E1.θ id).1,(E1.θ id).2+(k*es+off),none⟩)) x).run P w= .ok () w':=by simp [Instr.storeAt,Instr.sureAddr,storeVar,ez (cJ ty ti fN),hlen,g1]
        have fin: ∀(o':dP),OR E1 w'.heap id o'->∃w' E',(Instr.storeAt ty (.pointer (some ⟨(E1.θ id).1,(E1.θ id).2+(k*es+off),none⟩)) x).run P w= .ok () w'/\eS E1 s.h w E' (s.h.put id o') w'/\bN E' (s.h.put id o') w':=by
         intro o' wB;have al1:F0 (s.h.put id (.cells (pre++(cs++post)) Az)) s.h:=(F0.put Y).symm
         have al2:F0 ((s.h.put id (.cells (pre++(cs++post)) Az)).put id (.cells (pre++(lE++post)) Az)) (s.h.put id o'):=by
          refine⟨fun j y hj=>?_,fun j y hj=>?_,rfl,rfl⟩
          ·rw [Hp.bP];split
           ·exact⟨o',rfl⟩
           ·rename_i gn;rw [Hp.bP,af gn,Hp.bP,af gn] at hj;exact⟨y,hj⟩
          ·rw [Hp.bP] at hj ⊢;split
           ·exact⟨_,rfl⟩
           ·rename_i gn;rw [af gn] at hj;rw [Hp.bP,af gn];exact⟨y,hj⟩
         refine⟨w',E1,jx,(g2.left al1).right al2,?_⟩;exact g3.swap (id:=id) (by rw [Hp.bP,ah rfl]) wB (by rw [Hp.bP,ah rfl]) (fun j hj=>by rw [Hp.bP,af hj,Hp.bP,af hj,Hp.bP,af hj]) rfl rfl
        have A8:=(g3.live id _ (by rw [Hp.bP,ah rfl])).2.1
        have apart: ∀iP:List (V×List W),sU (rowOf t) iP->dY E1.ρ k iP=some lE->(∀j:Nat,j≠k->dY E1.ρ j iP=dY E1.ρ j ov)->OR E1 w'.heap id (.vec e t Az iP):=by
         intro iP q1 q2 q3;refine OR.oe.2 ⟨⟨q1,rH⟩,?_⟩
         have:cM E1.ρ e t iP=pre++(lE++post):=by
          unfold cM;obtain⟨d1,_⟩:=jf (ρ:=E1.ρ) q1 (j:=0) hd;rw [ay,q2] at d1;rw [d1,<- X?,<- Rn];congr 1
          ·refine ky _ _ fun j _ hj=>q3 j ?_;rw [a8] at hj;omega
          ·congr 1;exact ky _ _ fun j hj _=>q3 j J
         rw [this];exact A8
        split at h3
        ·rename_i iP qH;have:=bC h3;simp only [ak] at this;obtain⟨rfl,rfl⟩:=this;refine⟨rfl,fA,rfl,?_⟩;obtain⟨q1,q2,q3⟩:=DK fA CV I7 qH ho;exact fin _ (apart iP q1 q2 q3)
        ·split at h3
         ·rename_i ajh;have:=bC h3;simp only [ak] at this;obtain⟨rfl,rfl⟩:=this;refine⟨rfl,fA,rfl,fin _ (apart _ ?_ ?_ ?_)⟩
          ·intro p fA;rcases aw.1 fA with rfl|fA
           ·exact I7
           ·exact ho p fA
          ·simp only [dY];rw [ah CV]
          ·intro j hj;simp only [dY];rw [af J]
         ·simp [T.leaf] at h3
       ·simp [T.leaf] at h3
      ·simp [T.leaf] at h3
     ·simp [T.leaf] at h3
    ·simp [T.leaf] at h
   ·simp [T.leaf] at h
  ·simp [T.leaf] at h
 ·simp [T.leaf] at h
theorem L1 [bG] {tt:TT} (cJ:eB P tt) {s s':St} (r:bN E s.h w) (hp:bT E.ρ s.pc) {ty id es:Nat} {i:V} {off:Nat} {v v':W} {u x:Value} (hx:VR E w.heap (.yu id es i off) u) (hv:VR E w.heap v x) (h:(EG tt s ty id es i off v).leaf E.ρ=some (v',s')) :
 s'.bE=s.bE/\bT E.ρ s'.pc/\v'=W.undef/\∃w' E',(Instr.storeAt ty u x).run P w= .ok () w'/\eS E s.h w E' s'.h w'/\bN E' s'.h w':=by
 unfold EG at h;split at h
 ·exact LZ cJ r hp hx (fun uB=> ⟨hv.cells uB,(hv.cells uB).rX uB⟩) h
 ·obtain⟨vs,U,fI,E1,fq,f,q,g⟩:=pR rfl r hp h;have hρ:=f.ρ;rw [<- hρ] at fq g;obtain⟨a1,a2,a3,w',E',a4,a5,a6⟩:=L0 cJ (s:={ s with h:=U,pc:=fI }) f.rel fq (VR.keep (f.eu.keeps r) _ _ hx) (fun uB=> ⟨q _ (hv.cells uB),(hv.cells uB).rX uB⟩) g;exact⟨a1,by rw [<- hρ]; exact a2,a3,w',E',a4,f.eu.trans a5,a6⟩
end
section
variable {P:Program} {E:En} {w:World}
theorem uD.length {ro:Nat->Prop} {h:Array Obj} {r:Row} {d:D} {us:List Value} (hh:uD ro h r d us):us.length=r.es:=by
 cases r with
 |one c=>obtain⟨u,rfl,_⟩:=hh; rfl
 |many cs=>exact dV.length hh
theorem fR.append {h:Array Obj} {b o:Nat} {us vs:List Value} (U:fR h b o us) (Z:fR h b (o+us.length) vs):fR h b o (us++vs):=by
 intro i u hi;rw [aoc] at hi;split at hi
 ·exact U i u hi
 ·rename_i fD;have:=Z _ u hi
  grind
theorem DB {ro:Nat->Prop} (jy:ro=E.ro) {h:Array Obj} {r:Row} {b o:Nat}: ∀(L:List D) (j:Nat),(∀i x,L[i]?=some x->∃us,uD ro h r x us/\fR h b (o+(j+i)*r.es) us)->
 ∃us,cw E h (bD E.ρ r [] L j) us/\fR h b (o+j*r.es) us/\us.length=L.length*r.es/\∀u∈us,u.oneCell'=true
 |[],j,_=> ⟨[],by simp [bD,cw],fun i u hi=>by simp at hi,ad,ad⟩
 |d::L,j,hh=>by
  subst jy;obtain⟨a,a1,a2⟩:=hh 0 d rfl
  obtain⟨b',b1,b2,b3,b4⟩:=DB rfl L (j+1) fun i x hi=>by have:=hh (i+1) x (by simpa using hi);rw [show j+(i+1)=j+1+i by omega] at this;exact this
  have U0:=a1.length;refine⟨a++b',?_,?_,?_,?_⟩
  ·simp only [bD,dY];refine cw.append ?_ b1;rw [fy];simpa only [V.den,bB] using a1
  ·rw [bh] at a2;refine a2.append ?_
   grind
  ·grind
  ·intro u hu;rcases amC.1 hu with hu|hu
   ·exact a1.rX u hu
   grind
theorem aaI {t:Nat} {d:D} {u:Value} (hr:Rd E.ro w.heap (.sl t) d u) (gn:d.l≠[]): ∃us,Src P E w (rowOf t).es d.l.length (bD E.ρ (rowOf t) [] d.l 0) u us:=by
 obtain⟨x,hx⟩ : ∃x,d.l[0]?=some x:=by
  cases h:d.l with
  |nil=>exact absurd h gn
  |cons a l=>exact⟨a,rfl⟩
 obtain⟨b,o,cap,us0,rfl,hb,_,_⟩:=hr.row hx
 obtain⟨us,U,Z,h3,h4⟩:=DB (E:=E) (ro:=E.ro) rfl (h:=w.heap) (r:=rowOf t) (b:=b) (o:=o) d.l 0 fun i x hi=>by
  obtain⟨b',o',qb,gw,he,_,g1,g2⟩:=hr.row hi
  grind
 rw [amH,bh] at Z;exact⟨us.toArray,fun _=>rfl,fun w2 hw=>by simp only [Builtin.firstCells]; exact Z.QH h3 w2 hw,by simpa using U,by simpa using h3,by simpa using h4⟩
structure Grown (ρ:Nat->Int) (r:Row) (e0 e1:V) (ds:List D) (news:List W):Prop where
 l:(dec (e1.den ρ)).l=(dec (e0.den ρ)).l++ds
 wf:dec (e1.den ρ)=dL (dec (e1.den ρ)).l
 rows: ∀d∈ds,oI r d
 vr: ∀(E':En) (h:Array Obj) (us:List Value) (j:Nat),E'.ρ=ρ->cw E' h news us->cw E' h (bD ρ r [] ds j) us
theorem j6 (r:Row):sU r []:=fun p hp=>by simp at hp
theorem CP [bG] {E':En} {H0:Hp} {w':World} {cells:List W} {e:TypeId} {e1:V} {t:Nat} (r:bN E' (H0.new (.cells cells e)) w') (rH:sB (rowOf t) (dec (e1.den E'.ρ))) (Y:(cM E'.ρ e1 t []).length=cells.length)
 (hv: ∀us,cw E' w'.heap cells us->cw E' w'.heap (cM E'.ρ e1 t []) us):bN E' (H0.new (.vec e1 t e [])) w':=by
 have hg:(H0.new (.cells cells e)).get H0.fresh=some (.cells cells e):=by rw [Hp.fZ,ah rfl]
 refine r.swap hg (OR.oe.2 ⟨⟨j6 _,rH⟩,OR.congr (r.live _ _ hg).2.1 Y hv⟩) (by rw [Hp.fZ,ah rfl]) (fun j hj=>by rw [Hp.fZ,af hj,Hp.fZ,af hj]) ?_ ?_
 all_goals grind [Hp.new]
theorem wg {H0 H1:Hp} {o o':dP} (hn:H1.next=H0.next) (hr:H1.res=H0.res) (hg: ∀j,(H0.get j).isSome=(H1.get j).isSome):F0 (H0.new o) (H1.new o'):=by
 have hf:H1.fresh=H0.fresh:=by unfold Hp.fresh; rw [hn,hr]
 have key: ∀{A B:Option dP} {x:dP},A.isSome=B.isSome->A=some x->∃y,B=some y:=by intro A B x U Z;rw [Z] at U;exact am9.1 U.symm
 refine⟨fun j x hj=>?_,fun j x hj=>?_,?_,?_⟩
 all_goals grind [Hp.fZ,Hp.new]
set_option maxHeartbeats 800000 in
theorem ym [bG] {t t2 ty:Nat} {H h0:Hp} (r:bN E H w) {ie:TI} {e m:Nat} {own:Option Nat} {news:List W} {x:W} {d2:TypeDesc} {u u2:Value} {us:Array Value} (vc:mf P e ie)
 (ht:P.underlying t=some (.slice e)) (yp:P.underlying t2=some d2) (jX: ∀k,d2≠.int k) (xj:ie.size≠0) (rI:ie.bytes≠0) (wA:ie.zero.length=ie.size) (MX:ie.bytes<=400)
 (src:Src P E w ie.size m news u2 us) (hm:0<m) (hx:VR E w.heap x u) {e0 e1:V} {t':Nat} (hb:qc e own x H=some (e0,t',h0)) (lq:(rowOf t').es=ie.size) {ds:List D} (g:Grown E.ρ (rowOf t') e0 e1 ds news) (tf:ds.length=m)
 (aeQ:((dec (e0.den E.ρ)).l.length+m)*ie.bytes<=140737488355328) :
 ∃y w' E',(Builtin.append_ #[t,t2] ty #[u,u2]).run P w= .ok y w'/\eS E H w E' (h0.new (.vec e1 t' e [])) w'/\bN E' (h0.new (.vec e1 t' e [])) w'/\VR E' w'.heap (.oq h0.fresh (dO e1) t') y:=by
 have hbound: ∀k,k<=(dec (e0.den E.ρ)).l.length->(k+m)*ie.bytes<=140737488355328:=by intro k hk;exact bk (am8 _ J) aeQ
 have UX:news.length=m*ie.size:=by have U:=src.UQ.length;have Z:=src.size;simp only [bn] at U;omega
 have tn: ∀(a:Option Addr),u= .slice a 0 0->h0=H->(dec (e0.den E.ρ)).l= []->
  ∃y w' E',(Builtin.append_ #[t,t2] ty #[u,u2]).run P w= .ok y w'/\eS E H w E' (h0.new (.vec e1 t' e [])) w'/\bN E' (h0.new (.vec e1 t' e [])) w'/\VR E' w'.heap (.oq h0.fresh (dO e1) t') y:=by
  intro a hu he nN;subst hu he
  have oB:nj ie e 0 m news h0=some (.slice h0.fresh 0 (0+m) (.rest ie.size),h0.new (.cells news e)):=by unfold nj;rw [ah (hbound 0 J)]
  obtain⟨y,w',E',p1,p2,p3,p4⟩:=oY (t:=t) (t2:=t2) (ty:=ty) (cap:=0) r vc ht yp jX rI wA src J a (old:=[]) (olds:=#[]) (cs:=news) ad (by simp [cw]) ad ad
   (fun w2 _=>by
    cases a with
    |none=>simp [Builtin.firstCells]
    |some a=>simp only [Builtin.firstCells,amH]; rfl) oB
  have hρ:=p2.ρ;have A6:(dec (e1.den E'.ρ)).l=ds:=by rw [hρ,g.l,nN,aA]
  have rH:sB (rowOf t') (dec (e1.den E'.ρ)):=by refine⟨by rw [hρ]; exact g.wf,fun d hd=>?_,by rw [A6]; intro q; rw [q] at tf; simp at tf; omega⟩;rw [A6] at hd;exact g.rows d hd
  refine⟨y,w',E',p1,p2.right (wg rfl rfl fun _=>rfl),CP p3 rH ?_ ?_,?_⟩
  ·unfold cM;rw [cF (j6 _),A6,tf,lq,UX]
  ·intro gw BS;unfold cM;rw [A6,hρ];exact g.vr E' w'.heap gw 0 hρ BS
  ·simp only [VR] at p4 ⊢;obtain⟨q1,a',qb,q2,q3,q4⟩:=p4;refine⟨q1,0+m,a',qb,?_,q2,q3,?_⟩
   ·rw [cl,A6,tf,ay]
   ·rw [lq]; exact q4
 unfold qc at hb;split at hb
 ·rename_i id n t0;split at hb
  ·rename_i o Y;split at hb
   ·rename_i Ac t00 sE ov;split at hb
    ·split at hb
     ·rename_i ht0;split at hb
      ·rename_i Oe;split at hb
       ·rename_i hn;simp only [ag,ak] at hb;obtain⟨rfl,rfl,rfl⟩:=hb;have ht0:=aq ht0;have Oe:=aq Oe;have hn:=cH _ _ hn;subst ht0 Oe hn;obtain⟨r2,_,aeH⟩:=r.oe Y;simp only [VR] at hx;obtain⟨hid,k,a,cap,hk,rfl,hkc,fV⟩:=hx;rw [cl] at hk;have hk:k=(dec (Ac.den E.ρ)).l.length:=J
        have hx2:VR E w.heap (.slice id 0 k (.rest ie.size)) (.slice (some a) k cap):=by simp only [VR];exact⟨hid,a,cap,rfl,hkc,by rw [<- lq]; exact fV⟩
        have BX:(cM E.ρ Ac t0 []).length=k*ie.size:=by unfold cM;rw [cF (j6 _),lq,hk]
        have ai1:0<m*ie.size:=anI hm J
        have aeX:qe ie sE m news (.slice id 0 k (.rest ie.size)) (H.put id (.cells (cM E.ρ Ac t0 []) sE)) =
         some (.slice H.fresh 0 (k+m) (.rest ie.size),((H.put id (.cells (cM E.ρ Ac t0 []) sE)).drop id).new (.cells (cM E.ρ Ac t0 []++news) sE)):=by
         unfold qe;simp only [if_true];rw [Hp.bP,ah rfl];simp only;rw [af (by rw [BX,amM]; omega),ah ⟨J,trivial⟩];simp only [eE];unfold nj;rw [ah (hbound k J)];rfl
        obtain⟨y,w',E',p1,p2,p3,p4⟩:=vN (t:=t) (t2:=t2) (ty:=ty) r2 vc ht yp jX xj rI wA src hx2 aeX;have hρ:=p2.ρ;have A6:(dec (e1.den E'.ρ)).l=(dec (Ac.den E.ρ)).l++ds:=by rw [hρ,g.l]
        have rH:sB (rowOf t0) (dec (e1.den E'.ρ)):=by
         refine⟨by rw [hρ]; exact g.wf,fun d hd=>?_,by rw [A6]; intro q; have:=congrArg List.length q; simp at this; rw [this.2] at tf; simp at tf; omega⟩;rw [A6] at hd;rcases amC.1 hd with hd|hd
         ·exact aeH.2.1 d hd
         ·exact g.rows d hd
        have RB:cM E'.ρ e1 t0 []=cM E.ρ Ac t0 []++bD E.ρ (rowOf t0) [] ds (0+(dec (Ac.den E.ρ)).l.length):=by unfold cM;rw [A6,hρ,lL]
        have Ei: ∀j,(((H.put id (.cells (cM E.ρ Ac t0 []) sE)).drop id).get j)=(H.drop id).get j:=by
         intro j;rw [Hp.kj,Hp.kj];split
         ·rfl
         ·rename_i gn;rw [Hp.bP,af gn]
        have al:F0 (((H.put id (.cells (cM E.ρ Ac t0 []) sE)).drop id).new (.cells (cM E.ρ Ac t0 []++news) sE)) ((H.drop id).new (.vec e1 t0 sE [])):=
         wg rfl rfl fun j=>by rw [Ei]
        have p3':bN E' ((H.drop id).new (.cells (cM E.ρ Ac t0 []++news) sE)) w':=by
         have hg:(((H.put id (.cells (cM E.ρ Ac t0 []) sE)).drop id).new (.cells (cM E.ρ Ac t0 []++news) sE)).get H.fresh=some (.cells (cM E.ρ Ac t0 []++news) sE):=by rw [Hp.fZ];exact ah rfl
         refine p3.swap hg (p3.live _ _ hg).2.1 (by rw [Hp.fZ]; exact ah rfl) (fun j hj=>?_) ?_ ?_
         ·rw [Hp.fZ,Hp.fZ];show (if j=H.fresh then _ else _)=(if j=H.fresh then _ else _);rw [af hj,af hj,Ei]
         ·unfold Hp.new;simp only [Hp.drop,Hp.put];split<;>rfl
         ·unfold Hp.new;simp only [Hp.drop,Hp.put];split<;>rfl
        refine⟨y,w',E',p1,(p2.left (F0.put Y).symm).right al,CP p3' rH ?_ ?_,?_⟩
        ·rw [RB,aZ,aZ,cF (j6 _),tf,lq,UX]
        ·intro gw BS;obtain⟨a1,a2,rfl,b1,b2⟩:=BS.split;rw [RB];exact b1.append (g.vr E' w'.heap a2 _ hρ b2)
        ·simp only [VR] at p4 ⊢;obtain⟨q1,a',qb,q2,q3,q4⟩:=p4;refine⟨q1,k+m,a',qb,?_,q2,q3,?_⟩
         ·rw [cl,A6,aZ,tf,hk]
         ·rw [lq]; exact q4
       ·simp at hb
      ·simp at hb
     ·simp at hb
    ·simp at hb
   ·simp at hb
  ·simp at hb
 ·split at hb
  ·simp only [ag,ak] at hb;obtain⟨rfl,rfl,rfl⟩:=hb;simp only [VR] at hx;exact tn none hx rfl (by simp only [V.den,bB,D.l])
  ·simp at hb
 ·split at hb
  ·simp only [ag,ak] at hb;obtain⟨rfl,rfl,rfl⟩:=hb;simp only [VR] at hx;obtain⟨x,hx⟩:=hx;exact tn x hx rfl (by simp only [V.den,bB,D.l])
  ·simp at hb
 ·split at hb
  ·simp only [ag,ak] at hb;obtain⟨rfl,rfl,rfl⟩:=hb;simp only [VR] at hx;obtain⟨⟨x,hx⟩,_⟩:=hx;exact tn x hx rfl (by simp only [V.den,bB,D.l])
  ·simp at hb
 ·split at hb
  ·split at hb
   ·split at hb
    ·split at hb
     ·simp only [ag,ak] at hb;obtain⟨rfl,rfl,rfl⟩:=hb;simp only [VR] at hx;obtain⟨_,a,cap,rfl,_,hc⟩:=hx;simp only [eC] at hc;obtain⟨rfl,_⟩:=hc;exact tn (some a) rfl rfl (by simp only [V.den,bB,D.l])
     ·simp at hb
    ·simp at hb
   ·simp at hb
  ·simp at hb
 ·simp at hb
end
noncomputable def HM (e:Nat) (own:Option Nat) (x:W) (h:Hp):Option (V×Nat×List (V×List W)×Hp):=match x with
 | .oq id n t=>match h.get id with
   |some o=>match o with
    | .vec e0 t0 ty ov=>match Nat.beq t t0 with
     |true=>match Nat.beq ty e with
      |true=>match eT n (dO e0) with
       |true=>some (e0,t,ov,h.drop id)
       |false=>none
      |false=>none
     |false=>none
    |_=>none
   |none=>none
 | .dv=>match own with
   |some t=>some (.eg (.i 0),t,[],h)
   |none=>none
 | .emp=>match own with
   |some t=>some (.eg (.i 0),t,[],h)
   |none=>none
 | .w4 _ _=>match own with
   |some t=>some (.eg (.i 0),t,[],h)
   |none=>none
 | .slice _ _ n c=>match n with
   |0=>match c with
    | .exact k=>match k with
      |0=>match own with
       |some t=>some (.eg (.i 0),t,[],h)
       |none=>none
      |_=>none
    |_=>none
   |_=>none
 |_=>none
section
variable {P:Program} {E:En} {w:World}
structure Pw (ρ:Nat->Int) (r:Row) (e0 e1:V) (ov0 R?:List (V×List W)) (ds:List D) (news:List W):Prop where
 l:(dec (e1.den ρ)).l=(dec (e0.den ρ)).l++ds
 wf:dec (e1.den ρ)=dL (dec (e1.den ρ)).l
 rows: ∀d∈ds,oI r d
 vr: ∀(E':En) (h:Array Obj) (us0 us:List Value),E'.ρ=ρ->cw E' h (bD ρ r ov0 (dec (e0.den ρ)).l 0) us0->cw E' h news us->cw E' h (bD ρ r R? (dec (e1.den ρ)).l 0) (us0++us)
theorem K5 [bG] {E':En} {H0:Hp} {w':World} {cells:List W} {e:TypeId} {e1:V} {t:Nat} {ov:List (V×List W)} (r:bN E' (H0.new (.cells cells e)) w') (ho:sU (rowOf t) ov) (rH:sB (rowOf t) (dec (e1.den E'.ρ))) (Y:(cM E'.ρ e1 t ov).length=cells.length)
 (hv: ∀us,cw E' w'.heap cells us->cw E' w'.heap (cM E'.ρ e1 t ov) us):bN E' (H0.new (.vec e1 t e ov)) w':=by
 have hg:(H0.new (.cells cells e)).get H0.fresh=some (.cells cells e):=by rw [Hp.fZ,ah rfl]
 refine r.swap hg (OR.oe.2 ⟨⟨ho,rH⟩,OR.congr (r.live _ _ hg).2.1 Y hv⟩) (by rw [Hp.fZ,ah rfl]) (fun j hj=>by rw [Hp.fZ,af hj,Hp.fZ,af hj]) ?_ ?_
 all_goals grind [Hp.new]
set_option maxHeartbeats 800000 in
theorem Cg [bG] {t t2 ty:Nat} {H h0:Hp} (r:bN E H w) {ie:TI} {e m:Nat} {own:Option Nat} {news:List W} {x:W} {d2:TypeDesc} {u u2:Value} {us:Array Value} (vc:mf P e ie)
 (ht:P.underlying t=some (.slice e)) (yp:P.underlying t2=some d2) (jX: ∀k,d2≠.int k) (xj:ie.size≠0) (rI:ie.bytes≠0) (wA:ie.zero.length=ie.size) (MX:ie.bytes<=400)
 (src:Src P E w ie.size m news u2 us) (hm:0<m) (hx:VR E w.heap x u) {e0 e1:V} {t':Nat} {ov0 R?:List (V×List W)} (hb:HM e own x H=some (e0,t',ov0,h0)) (lq:(rowOf t').es=ie.size) {ds:List D} (g:Pw E.ρ (rowOf t') e0 e1 ov0 R? ds news) (tf:ds.length=m)
 (qH:sU (rowOf t') R?) (aeQ:((dec (e0.den E.ρ)).l.length+m)*ie.bytes<=140737488355328) :
 ∃y w' E',(Builtin.append_ #[t,t2] ty #[u,u2]).run P w= .ok y w'/\eS E H w E' (h0.new (.vec e1 t' e R?)) w'/\bN E' (h0.new (.vec e1 t' e R?)) w'/\VR E' w'.heap (.oq h0.fresh (dO e1) t') y:=by
 have hbound: ∀k,k<=(dec (e0.den E.ρ)).l.length->(k+m)*ie.bytes<=140737488355328:=by intro k hk;exact bk (am8 _ J) aeQ
 have UX:news.length=m*ie.size:=by have U:=src.UQ.length;have Z:=src.size;simp only [bn] at U;omega
 have tn: ∀(a:Option Addr),u= .slice a 0 0->h0=H->(dec (e0.den E.ρ)).l= []->
  ∃y w' E',(Builtin.append_ #[t,t2] ty #[u,u2]).run P w= .ok y w'/\eS E H w E' (h0.new (.vec e1 t' e R?)) w'/\bN E' (h0.new (.vec e1 t' e R?)) w'/\VR E' w'.heap (.oq h0.fresh (dO e1) t') y:=by
  intro a hu he nN;subst hu he
  have oB:nj ie e 0 m news h0=some (.slice h0.fresh 0 (0+m) (.rest ie.size),h0.new (.cells news e)):=by unfold nj;rw [ah (hbound 0 J)]
  obtain⟨y,w',E',p1,p2,p3,p4⟩:=oY (t:=t) (t2:=t2) (ty:=ty) (cap:=0) r vc ht yp jX rI wA src J a (old:=[]) (olds:=#[]) (cs:=news) ad (by simp [cw]) ad ad
   (fun w2 _=>by
    cases a with
    |none=>simp [Builtin.firstCells]
    |some a=>simp only [Builtin.firstCells,amH]; rfl) oB
  have hρ:=p2.ρ;have A6:(dec (e1.den E'.ρ)).l=ds:=by rw [hρ,g.l,nN,aA]
  have rH:sB (rowOf t') (dec (e1.den E'.ρ)):=by refine⟨by rw [hρ]; exact g.wf,fun d hd=>?_,by rw [A6]; intro q; rw [q] at tf; simp at tf; omega⟩;rw [A6] at hd;exact g.rows d hd
  refine⟨y,w',E',p1,p2.right (wg rfl rfl fun _=>rfl),K5 p3 qH rH ?_ ?_,?_⟩
  ·unfold cM;rw [cF qH,A6,tf,lq,UX]
  ·intro gw BS;unfold cM;rw [hρ];have:=g.vr E' w'.heap [] gw hρ (by rw [nN]; simp [bD,cw]) BS;simpa using this
  ·simp only [VR] at p4 ⊢;obtain⟨q1,a',qb,q2,q3,q4⟩:=p4;refine⟨q1,0+m,a',qb,?_,q2,q3,?_⟩
   ·rw [cl,A6,tf,ay]
   ·rw [lq]; exact q4
 unfold HM at hb;split at hb
 ·rename_i id n t0;split at hb
  ·rename_i o Y;split at hb
   ·rename_i Ac t00 sE ov
    ·split at hb
     ·rename_i ht0;split at hb
      ·rename_i Oe;split at hb
       ·rename_i hn;simp only [ag,ak] at hb;obtain⟨rfl,rfl,rfl,rfl⟩:=hb;have ht0:=aq ht0;have Oe:=aq Oe;have hn:=cH _ _ hn;subst ht0 Oe hn;obtain⟨r2,aiW,aeH⟩:=r.oe Y;simp only [VR] at hx;obtain⟨hid,k,a,cap,hk,rfl,hkc,fV⟩:=hx;rw [cl] at hk;have hk:k=(dec (Ac.den E.ρ)).l.length:=J
        have hx2:VR E w.heap (.slice id 0 k (.rest ie.size)) (.slice (some a) k cap):=by simp only [VR];exact⟨hid,a,cap,rfl,hkc,by rw [<- lq]; exact fV⟩
        have BX:(cM E.ρ Ac t0 ov).length=k*ie.size:=by unfold cM;rw [cF aiW,lq,hk]
        have ai1:0<m*ie.size:=anI hm J
        have aeX:qe ie sE m news (.slice id 0 k (.rest ie.size)) (H.put id (.cells (cM E.ρ Ac t0 ov) sE)) =
         some (.slice H.fresh 0 (k+m) (.rest ie.size),((H.put id (.cells (cM E.ρ Ac t0 ov) sE)).drop id).new (.cells (cM E.ρ Ac t0 ov++news) sE)):=by
         unfold qe;simp only [if_true];rw [Hp.bP,ah rfl];simp only;rw [af (by rw [BX,amM]; omega),ah ⟨J,trivial⟩];simp only [eE];unfold nj;rw [ah (hbound k J)];rfl
        obtain⟨y,w',E',p1,p2,p3,p4⟩:=vN (t:=t) (t2:=t2) (ty:=ty) r2 vc ht yp jX xj rI wA src hx2 aeX;have hρ:=p2.ρ;have A6:(dec (e1.den E'.ρ)).l=(dec (Ac.den E.ρ)).l++ds:=by rw [hρ,g.l]
        have rH:sB (rowOf t0) (dec (e1.den E'.ρ)):=by
         refine⟨by rw [hρ]; exact g.wf,fun d hd=>?_,by rw [A6]; intro q; have:=congrArg List.length q; simp at this; rw [this.2] at tf; simp at tf; omega⟩;rw [A6] at hd;rcases amC.1 hd with hd|hd
         ·exact aeH.2.1 d hd
         ·exact g.rows d hd
        have Ei: ∀j,(((H.put id (.cells (cM E.ρ Ac t0 ov) sE)).drop id).get j)=(H.drop id).get j:=by
         intro j;rw [Hp.kj,Hp.kj];split
         ·rfl
         ·rename_i gn;rw [Hp.bP,af gn]
        have al:F0 (((H.put id (.cells (cM E.ρ Ac t0 ov) sE)).drop id).new (.cells (cM E.ρ Ac t0 ov++news) sE)) ((H.drop id).new (.vec e1 t0 sE R?)):=
         wg rfl rfl fun j=>by rw [Ei]
        have p3':bN E' ((H.drop id).new (.cells (cM E.ρ Ac t0 ov++news) sE)) w':=by
         have hg:(((H.put id (.cells (cM E.ρ Ac t0 ov) sE)).drop id).new (.cells (cM E.ρ Ac t0 ov++news) sE)).get H.fresh=some (.cells (cM E.ρ Ac t0 ov++news) sE):=by rw [Hp.fZ];exact ah rfl
         refine p3.swap hg (p3.live _ _ hg).2.1 (by rw [Hp.fZ]; exact ah rfl) (fun j hj=>?_) ?_ ?_
         ·rw [Hp.fZ,Hp.fZ];show (if j=H.fresh then _ else _)=(if j=H.fresh then _ else _);rw [af hj,af hj,Ei]
         ·unfold Hp.new;simp only [Hp.drop,Hp.put];split<;>rfl
         ·unfold Hp.new;simp only [Hp.drop,Hp.put];split<;>rfl
        refine⟨y,w',E',p1,(p2.left (F0.put Y).symm).right al,K5 p3' qH rH ?_ ?_,?_⟩
        ·unfold cM;rw [cF qH,A6,aZ,aZ,cF aiW,tf,lq,UX,amM]
        ·intro gw BS;obtain⟨a1,a2,rfl,b1,b2⟩:=BS.split;unfold cM at b1 ⊢;rw [hρ];exact g.vr E' w'.heap a1 a2 hρ b1 b2
        ·simp only [VR] at p4 ⊢;obtain⟨q1,a',qb,q2,q3,q4⟩:=p4;refine⟨q1,k+m,a',qb,?_,q2,q3,?_⟩
         ·rw [cl,A6,aZ,tf,hk]
         ·rw [lq]; exact q4
       ·simp at hb
      ·simp at hb
     ·simp at hb
   ·simp at hb
  ·simp at hb
 ·split at hb
  ·simp only [ag,ak] at hb;obtain⟨rfl,rfl,rfl,rfl⟩:=hb;simp only [VR] at hx;exact tn none hx rfl (by simp only [V.den,bB,D.l])
  ·simp at hb
 ·split at hb
  ·simp only [ag,ak] at hb;obtain⟨rfl,rfl,rfl,rfl⟩:=hb;simp only [VR] at hx;obtain⟨x,hx⟩:=hx;exact tn x hx rfl (by simp only [V.den,bB,D.l])
  ·simp at hb
 ·split at hb
  ·simp only [ag,ak] at hb;obtain⟨rfl,rfl,rfl,rfl⟩:=hb;simp only [VR] at hx;obtain⟨⟨x,hx⟩,_⟩:=hx;exact tn x hx rfl (by simp only [V.den,bB,D.l])
  ·simp at hb
 ·split at hb
  ·split at hb
   ·split at hb
    ·split at hb
     ·simp only [ag,ak] at hb;obtain⟨rfl,rfl,rfl,rfl⟩:=hb;simp only [VR] at hx;obtain⟨_,a,cap,rfl,_,hc⟩:=hx;simp only [eC] at hc;obtain⟨rfl,_⟩:=hc;exact tn (some a) rfl rfl (by simp only [V.den,bB,D.l])
     ·simp at hb
    ·simp at hb
   ·simp at hb
  ·simp at hb
 ·simp at hb
end
section
variable {ρ:Nat->Int} {r:Row}
theorem p8 {p:V} {cs:List W}: ∀(ds:List D) (j:Nat),(∀i,j<=i->i<j+ds.length->p.den ρ≠(i:Int))->bD ρ r [(p,cs)] ds j=bD ρ r [] ds j
 |[],_,_=>rfl
 |d::ds,j,h=>by have h0:=h j (au _) (by simp only [aL]; omega);simp only [bD,dY,af h0];rw [p8 ds (j+1) fun i U Z=>h i J (by simp only [aL]; omega)]
theorem aiz {e0 e1 p:V} {cs news:List W} {ds:List D} (g:Grown ρ r e0 e1 ds news) (hp:p.den ρ<((dec (e0.den ρ)).l.length:Int)):Pw ρ r e0 e1 [(p,cs)] [(p,cs)] ds news:=by refine⟨g.l,g.wf,g.rows,fun E' h us0 us hρ h0 U=>?_⟩;rw [g.l,lL];refine h0.append ?_;rw [p8 ds _ fun i U _=>by omega];exact g.vr E' h us _ hρ U
theorem agR {e0 e1 p:V} {news zs:List W} {d:D} (g:Grown ρ r e0 e1 [d] zs) (hp:p.den ρ=((dec (e0.den ρ)).l.length:Int)):Pw ρ r e0 e1 [] [(p,news)] [d] news:=by
 refine⟨g.l,g.wf,g.rows,fun E' h us0 us hρ h0 U=>?_⟩;rw [g.l,lL,p8 _ _ fun i _ Z=>by omega];refine h0.append ?_;simp only [bD,dY,ay]
 grind
theorem afN {e:Nat} {own:Option Nat} {x:W} {h h0:Hp} {e0:V} {t:Nat} (hb:qc e own x h=some (e0,t,h0)):HM e own x h=some (e0,t,[],h0):=by
 unfold qc at hb;unfold HM
 repeat' split at hb
 all_goals first
  |(simp at hb; done)
  |(simp only [ag,ak] at hb; obtain⟨rfl,rfl,rfl⟩:=hb; simp_all)
theorem ak4 {e:Nat} {own:Option Nat} {x:W} {h h0:Hp} {e0 p:V} {cs:List W} {t:Nat} (hb:AQ e x h=some (e0,t,p,cs,h0)):HM e own x h=some (e0,t,[(p,cs)],h0):=by
 unfold AQ at hb;unfold HM
 repeat' split at hb
 all_goals first
  |(simp at hb; done)
  |(simp only [ag,ak] at hb; obtain⟨rfl,rfl,rfl,rfl,rfl⟩:=hb; simp_all)
end
section
variable {P:Program} {E:En} {w:World}
theorem Src.Ud {E1:En} {s m:Nat} {news BN:List W} {u:Value} {us:Array Value} (src:Src P E w s m news u us) (h:cw E1 w.heap BN us.toList):Src P E1 w s m BN u us:=
 ⟨src.len,src.first,h,src.size,src.rX⟩
theorem room_le {bytes n m:Nat} (rI:bytes≠0) (MX:bytes<=400) (hm:(m:Int)<rb bytes 1000000) (hn:n<1000000):(n+m)*bytes<=140737488355328:=by
 have hm':(m:Int)<((140737488355328 / bytes-1000000:Nat):Int):=hm;have U:m<140737488355328 / bytes-1000000:=J
 have Z:n+m<=140737488355328 / bytes:=J
 exact bk (am8 _ Z) (aol _ _)
theorem W5 {bytes m:Nat} (hm:(m:Int)<rb bytes 0):(([]:List D).length+m)*bytes<=140737488355328:=by
 have hm':(m:Int)<((140737488355328 / bytes-0:Nat):Int):=hm;have Z:([]:List D).length+m<=140737488355328 / bytes:=by simp only [bg]; omega
 exact bk (am8 _ Z) (aol _ _)
theorem DC {bytes n m:Nat} (hn:(n:Int)<rb bytes (m+1)) {k:Nat} (hk:k=m+1):(n+k)*bytes<=140737488355328:=by
 have hn':(n:Int)<((140737488355328 / bytes-(m+1):Nat):Int):=hn;have Z:n+k<=140737488355328 / bytes:=J
 exact bk (am8 _ Z) (aol _ _)
theorem p9 {ρ:Nat->Int} {r:Row} {m:Nat} {e e1:V} {news:List W} (h:kz r e m news=some e1) (hw:dec (e.den ρ)=dL (dec (e.den ρ)).l): ∃ds,ds.length=m/\Grown ρ r e e1 ds news:=by obtain⟨ds,U,Z,h3,h4,h5⟩:=qU (ρ:=ρ) m h;exact⟨ds,U,Z,h3 hw,h4,h5⟩
theorem JX [bG] {H h0:Hp} (r:bN E H w) {e:Nat} {own:Option Nat} {x:W} {e0:V} {t:Nat} (h:qc e own x H=some (e0,t,h0)):dec (e0.den E.ρ)=dL (dec (e0.den E.ρ)).l:=by
 have hz:dec ((V.eg (.i 0)).den E.ρ)=dL (dec ((V.eg (.i 0)).den E.ρ)).l:=by simp only [V.den,bB]; rfl
 unfold qc at h;split at h
 ·split at h
  ·rename_i o Y;split at h
   ·split at h
    ·split at h
     ·split at h
      ·split at h
       ·simp only [ag,ak] at h;obtain⟨rfl,_⟩:=h;exact (r.oe Y).2.2.1
       grind
      grind
     grind
    grind
   grind
  grind
 all_goals grind
theorem Ch [bG] {t t2 ty:Nat} {ie:TI} {e:Nat} {d2:TypeDesc} {u u2:Value} {us:Array Value} {news:List W} (vc:mf P e ie) (ht:P.underlying t=some (.slice e)) (yp:P.underlying t2=some d2) (jX: ∀k,d2≠.int k)
 (src:Src P E w ie.size 0 news u2 us) (ho: ∃a n cap,u= .slice a n cap/\n<=cap):(Builtin.append_ #[t,t2] ty #[u,u2]).run P w= .ok u w:=by
 obtain⟨inf,d,z,U,Z,h3,h4,h5,h6,h7,h8⟩:=vc.all;obtain⟨a,n,cap,rfl,hn⟩:=ho;have BS:us.toList= []:=amJ (by rw [bn,src.size,amH])
 have:=kA (t:=t) (t2:=t2) (ty:=ty) (n:=n) (cap:=cap) (a:=a) (w':=w) ht yp jX U h5 src J (by
  cases a with
  |none=>rfl
  |some a=>rw [BS]; rfl)
 grind
theorem TJ {x:W} {u:Value} {H h0:Hp} {e t:Nat} {own:Option Nat} {e0:V} (hx:VR E w.heap x u) (hb:qc e own x H=some (e0,t,h0)): ∃a n cap,u= .slice a n cap/\n<=cap:=by
 unfold qc at hb;split at hb
 ·simp only [VR] at hx
  grind
 ·simp only [VR] at hx
  grind
 ·simp only [VR] at hx
  grind
 ·simp only [VR] at hx
  grind
 ·simp only [VR] at hx
  grind
 grind
theorem Ln {x:W} {u:Value} {own:Option Nat} (hx:VR E w.heap x u) (hb:XN own x=true): ∃a n cap,u= .slice a n cap/\n<=cap:=by
 unfold XN at hb;split at hb
 ·simp only [VR] at hx
  grind
 ·simp only [VR] at hx
  grind
 ·simp only [VR] at hx
  grind
 ·simp only [VR] at hx
  grind
 ·simp only [VR] at hx
  grind
 ·simp only [VR] at hx
  grind
 grind
theorem B6 [bG] {s s':St} (r:bN E s.h w) (hp:bT E.ρ s.pc) {t t2 ty e m':Nat} {own:Option Nat} {ie:TI} {news:List W} {x v:W} {d2:TypeDesc} {u u2:Value} {us:Array Value} (vc:mf P e ie) (hu:P.underlying t=some (.slice e)) (jX:P.underlying t2=some d2) (vk: ∀k,d2≠.int k)
 (xj:ie.size≠0) (rI:ie.bytes≠0) (wA:ie.zero.length=ie.size) (MX:ie.bytes<=400) (src:Src P E w ie.size (m'+1) news u2 us) (hx:VR E w.heap x u) (h:(Aa e own x ie m' news s).leaf E.ρ=some (v,s')) :
 s'.bE=s.bE/\bT E.ρ s'.pc/\∃z w' E',(Builtin.append_ #[t,t2] ty #[u,u2]).run P w= .ok z w'/\eS E s.h w E' s'.h w'/\bN E' s'.h w'/\VR E' w'.heap v z:=by
 unfold Aa at h;obtain⟨BN,U,pcF,E1,Y_,f,G5,h⟩:=pR rfl r hp h;split at h
 ·rename_i e0 t' h0 hb;split at h
  ·rename_i hc;obtain⟨lq,hm⟩:=hc;have hρ:=f.ρ;obtain⟨fI,fq,Z⟩:=cE (s:={ s with h:=U,pc:=pcF }) Y_ h;split at Z
   ·rename_i t3;rw [dU,decide_eq_true_eq,cl] at t3;simp only [V.den] at t3;split at Z
    ·rename_i e1 hcr;have:=bC Z;simp only [ak] at this;obtain⟨rfl,rfl⟩:=this;obtain⟨ds,tf,g⟩:=p9 (ρ:=E1.ρ) hcr (JX f.rel hb);obtain⟨z,w',E',p1,p2,p3,p4⟩:=ym (t:=t) (t2:=t2) (ty:=ty) f.rel vc hu jX vk xj rI wA MX (src.Ud (G5 _ src.UQ)) J (VR.keep (f.eu.keeps r) _ _ hx) hb lq g tf (DC (by rw [hρ]; exact t3) J);exact⟨rfl,fq,z,w',E',p1,f.eu.trans p2,p3,p4⟩
    grind [T.leaf]
   grind [T.leaf]
  grind [T.leaf]
 grind [T.leaf]
theorem aih [bG] {H h0:Hp} (r:bN E H w) {e:Nat} {x:W} {e0 p:V} {cs:List W} {t:Nat} (h:AQ e x H=some (e0,t,p,cs,h0)):dec (e0.den E.ρ)=dL (dec (e0.den E.ρ)).l/\sU (rowOf t) [(p,cs)]:=by
 unfold AQ at h;split at h
 ·split at h
  ·rename_i Y;split at h
   ·split at h
    ·grind
    ·split at h
     ·split at h
      ·rename_i ht;split at h
       ·split at h
        ·simp only [ag,ak] at h;obtain⟨rfl,rfl,rfl,rfl,_⟩:=h;have ht:=aq ht;subst ht;exact⟨(r.oe Y).2.2.1,(r.oe Y).2.1⟩
        grind
       grind
      grind
     grind
   grind
  grind
 grind
theorem JE [bG] {s s':St} (r:bN E s.h w) (hp:bT E.ρ s.pc) {t t2 ty e m':Nat} {own:Option Nat} {ie:TI} {news:List W} {x v:W} {d2:TypeDesc} {u u2:Value} {us:Array Value} (vc:mf P e ie) (hu:P.underlying t=some (.slice e)) (jX:P.underlying t2=some d2) (vk: ∀k,d2≠.int k)
 (xj:ie.size≠0) (rI:ie.bytes≠0) (wA:ie.zero.length=ie.size) (MX:ie.bytes<=400) (src:Src P E w ie.size (m'+1) news u2 us) (hx:VR E w.heap x u) (h:(Bj e x ie m' news s).leaf E.ρ=some (v,s')) :
 s'.bE=s.bE/\bT E.ρ s'.pc/\∃z w' E',(Builtin.append_ #[t,t2] ty #[u,u2]).run P w= .ok z w'/\eS E s.h w E' s'.h w'/\bN E' s'.h w'/\VR E' w'.heap v z:=by
 unfold Bj at h;obtain⟨BN,U,pcF,E1,Y_,f,G5,h⟩:=pR rfl r hp h;split at h
 ·rename_i e0 t' p cs h0 hb;split at h
  ·rename_i hc;obtain⟨lq,hm⟩:=hc;have hρ:=f.ρ;obtain⟨fI,fq,Z⟩:=cE (s:={ s with h:=U,pc:=pcF }) Y_ h;split at Z
   ·rename_i t3;rw [dU,decide_eq_true_eq,cl] at t3;simp only [V.den] at t3;obtain⟨jH,jz,h3⟩:=cE (s:={ s with h:=U,pc:=fI }) fq Z;split at h3
    ·rename_i t4;rw [dU,decide_eq_true_eq,cl] at t4;split at h3
     ·rename_i e1 hcr;have:=bC h3;simp only [ak] at this;obtain⟨rfl,rfl⟩:=this;obtain⟨hw1,hw2⟩:=aih f.rel hb;obtain⟨ds,tf,g⟩:=p9 (ρ:=E1.ρ) hcr hw1;obtain⟨z,w',E',p1,p2,p3,p4⟩:=Cg (t:=t) (t2:=t2) (ty:=ty) f.rel vc hu jX vk xj rI wA MX (src.Ud (G5 _ src.UQ)) J (VR.keep (f.eu.keeps r) _ _ hx) (ak4 (own:=own) hb) lq (aiz g (by rw [hρ]; exact t4)) tf hw2 (DC (by rw [hρ]; exact t3) J);exact⟨rfl,jz,z,w',E',p1,f.eu.trans p2,p3,p4⟩
     grind [T.leaf]
    grind [T.leaf]
   grind [T.leaf]
  grind [T.leaf]
 grind [T.leaf]
theorem JD [bG] {s s':St} (r:bN E s.h w) (hp:bT E.ρ s.pc) {t t2 ty e m':Nat} {own:Option Nat} {ie:TI} {news:List W} {x v:W} {d2:TypeDesc} {u u2:Value} {us:Array Value} (vc:mf P e ie) (hu:P.underlying t=some (.slice e)) (jX:P.underlying t2=some d2) (vk: ∀k,d2≠.int k)
 (xj:ie.size≠0) (rI:ie.bytes≠0) (wA:ie.zero.length=ie.size) (MX:ie.bytes<=400) (src:Src P E w ie.size (m'+1) news u2 us) (hx:VR E w.heap x u) (h:(Bi e own x ie m' news s).leaf E.ρ=some (v,s')) :
 s'.bE=s.bE/\bT E.ρ s'.pc/\∃z w' E',(Builtin.append_ #[t,t2] ty #[u,u2]).run P w= .ok z w'/\eS E s.h w E' s'.h w'/\bN E' s'.h w'/\VR E' w'.heap v z:=by
 unfold Bi at h;split at h
 ·rename_i e0 t' h0 hb;split at h
  ·rename_i hc;obtain⟨lq,rfl⟩:=hc;obtain⟨fI,fq,Z⟩:=cE hp h;split at Z
   ·rename_i t3;obtain⟨jH,jz,h3⟩:=cE (s:={ s with pc:=fI }) fq Z;split at h3
    ·rename_i t4;rw [dU,decide_eq_true_eq,cl] at t4;simp only [V.den] at t4;split at h3
     ·rename_i e1 hcr;have:=bC h3;simp only [ak] at this;obtain⟨rfl,rfl⟩:=this;obtain⟨ds,tf,g⟩:=p9 (ρ:=E.ρ) hcr (JX r hb)
      obtain⟨d,rfl⟩ : ∃d,ds= [d]:=by
       cases ds with
       |nil=>simp at tf
       |cons d l=>cases l with
        |nil=>exact⟨d,rfl⟩
        |cons a b=>simp at tf
      have UX:news.length=(rowOf t').es:=by
       have U:=src.UQ.length;have Z:=src.size
       grind
      obtain⟨z,w',E',p1,p2,p3,p4⟩:=Cg (t:=t) (t2:=t2) (ty:=ty) r vc hu jX vk xj rI wA MX src J hx (afN hb) lq (agR (p:=.dH 0) g (by rw [gG,cl] at t3; simp only [beq_iff_eq] at t3; exact t3.symm)) tf (fun q hq=>by simp only [List.mem_singleton] at hq; subst hq; exact UX) (DC t4 J)
      grind
     grind [T.leaf]
    grind [T.leaf]
   ·obtain⟨q1,q2,q3⟩:=B6 (s:={ s with pc:=fI }) r fq (ty:=ty) vc hu jX vk xj rI wA MX src hx Z
    grind
  grind [T.leaf]
 grind [T.leaf]
set_option maxHeartbeats 800000 in
theorem JC [bG] {tt:TT} (cJ:eB P tt) {s s':St} (r:bN E s.h w) (hp:bT E.ρ s.pc) {t t2 ty:Nat} {x y v:W} {u u2:Value} (hx:VR E w.heap x u) (hy:VR E w.heap y u2) (hsl:abQ y=false->∃a n cap,u= .slice a n cap/\n<=cap) (h:(Bh tt t t2 x y s).leaf E.ρ=some (v,s')) :
 s'.bE=s.bE/\bT E.ρ s'.pc/\∃z w' E',(Builtin.append_ #[t,t2] ty #[u,u2]).run P w= .ok z w'/\eS E s.h w E' s'.h w'/\bN E' s'.h w'/\VR E' w'.heap v z:=by
 unfold Bh at h;split at h
 ·rename_i ti fN;split at h
  ·rename_i e hk;split at h
   ·rename_i ie kO;split at h
    ·simp [T.leaf] at h
    ·rename_i PH XY;obtain⟨d2,jX,CV⟩:=r4 (cJ t2 PH XY);split at h
     ·simp [T.leaf] at h
     ·rename_i k2 gn
      have vk: ∀k,d2≠.int k:=by intro k hd;subst hd;cases tc:PH.kind<;>rw [tc] at CV<;>simp only [HX] at CV;exact gn _ tc
      split at h
      ·simp [T.leaf] at h
      ·rename_i je;simp only [not_or,Classical.not_not] at je;obtain⟨xj,rI,wA,MX⟩:=je;have vc:=cJ e ie kO;have hu:=ff (cJ t ti fN) hk;split at h
       ·
        rename_i e2 ty2;split at h
        ·rename_i e0 t' h0 hb;split at h
         ·rename_i hc;obtain⟨lq,ij⟩:=hc;obtain⟨fI,fq,U⟩:=cE hp h;rw [iq,cl] at U;simp only [VR] at hy;obtain⟨xa,alX,Rm,_⟩:=hy.slice;split at U
          ·rename_i hz;simp only [V.den,beq_iff_eq] at hz;have:=bC U;simp only [ak] at this;obtain⟨rfl,rfl⟩:=this;have I0:(dec (e2.den E.ρ)).l.length=0:=J
           rw [I0] at Rm;subst Rm
           have src:Src P E w ie.size 0 [] (.slice xa 0 alX) #[]:=⟨fun _=>rfl,fun w2 _=>by
            cases xa with
            |none=>simp [Builtin.firstCells]
            |some a=>simp only [Builtin.firstCells,amH]; rfl,by simp [cw],ad,ad⟩
           exact⟨rfl,fq,u,w,E,Ch vc hu jX vk src (TJ hx hb),eS.refl _ _ _,r,hx⟩
          ·rename_i hz;simp only [V.den,beq_eq_false_iff_ne,ne_eq] at hz;obtain⟨jH,jz,Z⟩:=cE (s:={ s with pc:=fI }) fq U;split at Z
           ·rename_i Kb;obtain⟨UT,I3,h3⟩:=cE (s:={ s with pc:=jH }) jz Z;split at h3
            ·rename_i t3;rw [dU,decide_eq_true_eq,cl] at Kb t3;simp only [V.den] at Kb t3;have ai0:(dec (e2.den E.ρ)).l≠[]:=by intro q; rw [q] at hz; simp at hz
             obtain⟨us,src⟩:=aaI (P:=P) (w:=w) hy ai0;rw [ij] at src;rw [lq] at src
             have jU:0<(dec (e2.den E.ρ)).l.length:=by
              rcases ani (dec (e2.den E.ρ)).l.length with q|q
              ·omega
              ·exact q
             have aeG:dec (e2.den E.ρ)=dL (dec (e2.den E.ρ)).l/\∀d∈(dec (e2.den E.ρ)).l,oI (rowOf ty2) d:=by
              have key: ∀{d:D} {v:Value},Rd E.ro w.heap (.sl ty2) d v->d.l≠[]->d=dL d.l/\∀x∈d.l,oI (rowOf ty2) x:=by
               intro d v hr gn
               have a!: ∀{c:CK} {d:D} {v:Value},Rd E.ro w.heap c d v->oh c d:=by
                intro c d v hr
                cases hr with
                |int k n=>rfl
                |bool b=>cases b<;>simp [oh]
                |str s=>trivial
                |nil t=>trivial
                |we t a cap=>trivial
                |one t c b o cap ds f hr hc hb U Z=>trivial
                |many t cs b o cap rows f hr hc hb Y U Z=>trivial
               generalize hc:CK.sl ty2=c at hr
               cases hr with
               |int k n=>simp at hc
               |bool b=>simp at hc
               |str s=>simp at hc
               |nil t=>exact absurd rfl gn
               |we t a cap=>exact absurd rfl gn
               |one t c b o cap ds f hr fY hb U Z=> simp only [CK.sl.injEq] at hc;subst hc;refine⟨by rw [bI],fun x hx=>?_⟩;rw [bI] at hx;obtain⟨i,hi⟩:=anC.1 hx;rw [hr];exact a! (Z i x hi)
               |many t cs b o cap rows f hr fY hb Y U Z=> simp only [CK.sl.injEq] at hc;subst hc;refine⟨by rw [bI],fun x hx=>?_⟩;rw [bI,aK] at hx;obtain⟨row,hrm,rfl⟩:=hx;obtain⟨i,hi⟩:=anC.1 hrm;rw [hr];refine⟨by rw [bI],by rw [bI]; exact Y row hrm,fun j c y hj hy=>?_⟩;rw [bI] at hy;exact a! (Z i row j y c hi hy hj)
              exact key hy ai0
             rw [ij] at aeG
             have grown: ∀e1:V,(dec (e1.den E.ρ)).l=(dec (e0.den E.ρ)).l++(dec (e2.den E.ρ)).l->dec (e1.den E.ρ)=dL (dec (e1.den E.ρ)).l->Grown E.ρ (rowOf t') e0 e1 (dec (e2.den E.ρ)).l (bD E.ρ (rowOf t') [] (dec (e2.den E.ρ)).l 0):=by
              intro e1 q1 q2;refine⟨q1,q2,aeG.2,fun E' h us j hρ hv=>?_⟩
              have:bD E.ρ (rowOf t') [] (dec (e2.den E.ρ)).l j=bD E.ρ (rowOf t') [] (dec (e2.den E.ρ)).l 0:=by
               generalize (dec (e2.den E.ρ)).l=L;clear hv q1 q2
               have gen: ∀(L:List D) (a b:Nat),bD E.ρ (rowOf t') [] L a=bD E.ρ (rowOf t') [] L b:=by
                intro L
                induction L with
                |nil=>intro a b; rfl
                |cons d L ih=>intro a b; simp only [bD,dY]; rw [ih (a+1) (b+1)]
               exact gen L j 0
              rw [this];exact hv
             have hbw:=JX r hb;split at h3
             ·rename_i nN
              have ajf:(dec (e0.den E.ρ)).l= []:=by
               unfold N9 at nN;split at nN
               ·split at nN
                ·simp only [V.den,bB,D.l]
                ·simp at nN
               ·simp at nN
              have:=bC h3;simp only [ak] at this;obtain⟨rfl,rfl⟩:=this;obtain⟨z,w',E',p1,p2,p3,p4⟩:=ym (t:=t) (t2:=t2) (ty:=ty) r vc hu jX vk xj rI wA MX src jU hx hb lq (grown e2 (by rw [ajf,aA]) aeG.1) rfl (by rw [ajf]; refine W5 (bytes:=ie.bytes) ?_; have q:=Kb; unfold W6 at q; rw [nN] at q; exact q);exact⟨rfl,I3,z,w',E',p1,p2,p3,p4⟩
             ·rename_i nN;have:=bC h3;simp only [ak] at this;obtain⟨rfl,rfl⟩:=this;obtain⟨z,w',E',p1,p2,p3,p4⟩:=ym (t:=t) (t2:=t2) (ty:=ty) r vc hu jX vk xj rI wA MX src jU hx hb lq (grown (.op .cat e0 e2) (by simp only [V.den,eZ.den,bB,bI]) (by simp only [V.den,eZ.den,bB,bI])) rfl (room_le rI MX (by have q:=Kb; unfold W6 at q; rw [nN] at q; exact q) J);exact⟨rfl,I3,z,w',E',p1,p2,p3,p4⟩
            ·simp [T.leaf] at h3
           ·simp [T.leaf] at Z
         ·simp [T.leaf] at h
        ·simp [T.leaf] at h
       ·
        split at h
        ·rename_i m news Of;obtain⟨us,src⟩:=qA (P:=P) r hy Of;split at h
         ·have:=bC h;simp only [ak] at this;obtain⟨rfl,rfl⟩:=this
          exact⟨rfl,hp,u,w,E,Ch vc hu jX vk src (hsl (by
           cases y<;>first |rfl|(rename_i BW _ _ _; exact absurd rfl (BW _ _))|(rename_i BW; exact absurd rfl (BW _ _)))),eS.refl _ _ _,r,hx⟩
         ·rename_i m';split at h
          ·exact JE (own:=ti.own) r hp vc hu jX vk xj rI wA MX src hx h
          ·split at h
           ·exact JD r hp vc hu jX vk xj rI wA MX src hx h
           ·exact B6 r hp vc hu jX vk xj rI wA MX src hx h
        ·simp [T.leaf] at h
   ·simp [T.leaf] at h
  ·simp [T.leaf] at h
 ·simp [T.leaf] at h
end
section
variable {P:Program} {E:En} {w:World}
theorem PB {h:Array Obj} {id t:Nat} {n:V} {u:Value} (hv:VR E h (.oq id n t) u):VR E h (.sD id (.lit 0) n t) u:=by simp only [VR] at hv ⊢;obtain⟨U,k,a,cap,Z,h3,h4,h5⟩:=hv;exact⟨U,0,k,a,cap,rfl,Z,h3,h4,by rw [amH]; exact h5⟩
theorem Oz {tt:TT} (cJ:eB P tt) {s s':St} (hp:bT E.ρ s.pc) {ty t id:Nat} {lo n:V} {ix v:W} {u ui:Value} (hx:VR E w.heap (.sD id lo n t) u) (zy:VR E w.heap ix ui) (h:(Jj tt s ty id t lo n ix).leaf E.ρ=some (v,s')) :
 s'.bE=s.bE/\s'.h=s.h/\bT E.ρ s'.pc/\∃r,(Instr.indexAt ty u ui).run P w= .ok r w/\VR E w.heap v r:=by
 unfold Jj at h;split at h
 ·rename_i kd i;split at h
  ·rename_i z hz;split at h
   ·rename_i lq;obtain⟨ea,fA,U,Z,h3⟩:=nw hp h;have:=bC h3;simp only [ak] at this;obtain⟨rfl,rfl⟩:=this;refine⟨rfl,rfl,fA,?_⟩;simp only [VR] at hx zy;subst zy;obtain⟨hid,l,m,a,cap,Y,hn,rfl,fV,hc⟩:=hx;obtain⟨el,ie,hu,kO,rfl⟩:=np cJ hz;obtain⟨k,hk⟩ : ∃k:Nat,i.den E.ρ=(k:Int):=⟨(i.den E.ρ).toNat,J⟩;have fD:k<m:=J
    have ha:a=⟨(E.θ id).1,(E.θ id).2+l*ie.size,none⟩:=by
     simp only [eC] at hc
     grind
    subst ha;refine⟨.pointer (some ⟨(E.θ id).1,(E.θ id).2+l*ie.size+k*ie.size,none⟩),?_,?_⟩
    ·rw [hk];simp [Instr.indexAt,asIntOf,run_underlying hu,ez (cJ el ie kO),fD,e8]
    ·simp only [VR];exact⟨hid,l+k,by rw [pg,Y,hk]; rfl,by rw [bh,amM,amF]⟩
   ·simp [T.leaf] at h
  ·simp [T.leaf] at h
 ·simp [T.leaf] at h
theorem XF {lo:Option W} {yo:Option Value} {l:V} {n:Nat} (h:loE lo=some l) (mH:gp E w.heap lo yo) (hn:l.den E.ρ=(n:Int)) :
 ∃UW,gp E w.heap UW yo/\∀y,n<=y->nD UW 0 y=some n:=by
 unfold loE at h;split at h
 ·simp only [ag] at h;subst h;simp only [V.den] at hn
  grind [nD]
 ·split at h
  ·rename_i v k q;simp only [ag] at h;subst h;obtain⟨y,rfl,hy⟩:=mH;refine⟨some (.int k (.lit (Int.ofNat n))),⟨y,rfl,?_⟩,fun y hy=>by simp [nD,j8,hy]⟩;simp only [VR,V.den] at hy ⊢
   grind
  grind
theorem CT {k:IntKind} {q:V} {n:Nat} {o:Option Value} (hq:q.den E.ρ=(n:Int)) (ho:gp E w.heap (some (.int k q)) o):gp E w.heap (some (.int k (.lit (Int.ofNat n)))) o:=by
 obtain⟨y,rfl,hy⟩:=ho;refine⟨y,rfl,?_⟩;simp only [VR,V.den] at hy ⊢
 grind
theorem C9 {k:IntKind} {n d y:Nat} (hn:n<=y):nD (some (.int k (.lit (Int.ofNat n)))) d y=some n:=by simp [nD,j8,hn]
theorem ED [bG] {tt:TT} (cJ:eB P tt) {s s':St} (r:bN E s.h w) (hp:bT E.ρ s.pc) {ty id t:Nat} {u? n0:V} {lo hi mx:Option W} {yo hi' mx':Option Value} {v:W} {u:Value} (hx:VR E w.heap (.sD id u? n0 t) u)
 (mH:gp E w.heap lo yo) (yq:gp E w.heap hi hi') (xZ:gp E w.heap mx mx') (h:(C2 tt s ty id t u? n0 lo hi mx).leaf E.ρ=some (v,s')) :
 s'.bE=s.bE/\s'.h=s.h/\bT E.ρ s'.pc/\∃r,(Instr.sliceAt ty u yo hi' mx').run P w= .ok r w/\VR E w.heap v r:=by
 unfold C2 at h;split at h
 ·simp [T.leaf] at h
 ·rename_i z hz;split at h
  ·rename_i je;obtain⟨lq,hz0⟩:=je;obtain⟨el,ie,hu,kO,rfl⟩:=np cJ hz;have gT:=ez (cJ el ie kO);simp only [VR] at hx;obtain⟨hid,l0,m0,a,cap,g1,g2,rfl,fV,hc⟩:=hx
   have fin: ∀(l k:Nat) (e1 e2:V),(Instr.sliceBounds true m0 cap yo hi' none).run P w= .ok (l,k,cap) w->l<=k->k<=cap->e1.den E.ρ=(l:Int)->e2.den E.ρ=(k:Int)->
    ∃r,(Instr.sliceAt ty (.slice (some a) m0 cap) yo hi' none).run P w= .ok r w/\VR E w.heap (.sD id (sA u? e1) (Dr e2 e1) t) r:=by
    intro l k e1 e2 hb hlk hk Yj he2;refine⟨.slice (some (if cap=l then a else a.add (l*ie.size))) (k-l) (cap-l),?_,?_⟩
    ·simp [Instr.sliceAt,run_underlying hu,Instr.slice,hb,gT]<;>split<;>rfl
    ·simp only [VR];refine⟨hid,l0+l,k-l,_,_,by rw [pg,g1,Yj]; rfl,by rw [Tb,Yj,he2]; omega,rfl,J,?_⟩;rw [amM];have q:=qa (l:=l) (h:=k) (m:=cap) (es:=(rowOf t).es) hc fV hlk hk (au _) (.inr (.inr ⟨rfl,rfl,rfl⟩)) (rowOf t).es (fun _=>rfl);rw [lq];exact q
   split at h
   ·simp [T.leaf] at h
   ·rename_i ql hql;obtain⟨fI,fq,U⟩:=cE hp h;split at U
    ·simp [T.leaf] at U
    ·rename_i t1;rw [dU,decide_eq_false_iff_not] at t1;simp only [V.den,ang] at t1;obtain⟨l,Y⟩ : ∃l:Nat,ql.den E.ρ=(l:Int):=⟨(ql.den E.ρ).toNat,J⟩;obtain⟨UW,Yc,ni⟩:=XF hql mH Y;split at U
     ·
      simp only [gp] at yq;subst yq;split at U
      ·simp [T.leaf] at U
      ·simp only [gp] at xZ;subst xZ;obtain⟨jH,jz,Z⟩:=cE (s:={ s with pc:=fI }) fq U;split at Z
       ·simp [T.leaf] at Z
       ·rename_i t2;have:=bC Z;simp only [ak] at this;obtain⟨rfl,rfl⟩:=this;rw [dU,decide_eq_false_iff_not] at t2;have hlm:l<=m0:=J
        obtain⟨e1,e2⟩:=fS (P:=P) (w:=w) (isSlice:=true) (len:=m0) (cap:=cap) (m0:=cap) (d:=0) (m:=cap) (h0:=cap) (h:=m0) (l:=l) Yc (hi:=none) (hi':=none) (by simp [gp]) (mx:=none) (mx':=none) (by simp [gp]) ad (.inl ⟨rfl,rfl,au _⟩) (by simp [nD,fV]) ⟨fun _=>au _,ad⟩ (ni _ hlm);exact⟨rfl,rfl,jz,fin l m0 _ _ e1 hlm fV Y g2⟩
     ·rename_i hv;split at U
      ·rename_i kh qh;obtain⟨jH,jz,Z⟩:=cE (s:={ s with pc:=fI }) fq U;split at Z
       ·simp [T.leaf] at Z
       ·rename_i t2;rw [dU,decide_eq_false_iff_not] at t2;obtain⟨k,hk⟩ : ∃k:Nat,qh.den E.ρ=(k:Int):=⟨(qh.den E.ρ).toNat,J⟩;have hlk:l<=k:=J
        split at Z
        ·rename_i mv;split at Z
         ·rename_i km qm;obtain⟨UT,I3,h3⟩:=cE (s:={ s with pc:=jH }) jz Z;split at h3
          ·simp [T.leaf] at h3
          ·rename_i t3;obtain⟨pc4,hp4,h4⟩:=cE (s:={ s with pc:=UT }) I3 h3;split at h4
           ·simp [T.leaf] at h4
           ·rename_i t4;have:=bC h4;simp only [ak] at this;obtain⟨rfl,rfl⟩:=this;rw [dU,decide_eq_false_iff_not] at t3 t4;obtain⟨m,hm⟩ : ∃m:Nat,qm.den E.ρ=(m:Int):=⟨(qm.den E.ρ).toNat,J⟩;obtain⟨e1,e2⟩:=fS (P:=P) (w:=w) (isSlice:=true) (len:=m0) (cap:=cap) (m0:=cap) (d:=0) (m:=m) (h0:=m) (h:=k) (l:=l) Yc (CT hk yq) (CT hm xZ) ad (.inr ⟨_,rfl,C9 J,au _⟩) (C9 J) ⟨ad,fun _=>rfl⟩ (ni _ hlk);refine⟨rfl,rfl,hp4,.slice (some (if m=l then a else a.add (l*ie.size))) (k-l) (m-l),?_,by simp only [VR]⟩;simp [Instr.sliceAt,run_underlying hu,Instr.slice,e1,gT]<;>split<;>rfl
         ·simp [T.leaf] at Z
        ·simp only [gp] at xZ;subst xZ
         have go:k<=cap->∃r,(Instr.sliceAt ty (.slice (some a) m0 cap) yo hi' none).run P w= .ok r w/\VR E w.heap (.sD id (sA u? ql) (Dr qh ql) t) r:=by intro hkc;obtain⟨e1,e2⟩:=fS (P:=P) (w:=w) (isSlice:=true) (len:=m0) (cap:=cap) (m0:=cap) (d:=0) (m:=cap) (h0:=cap) (h:=k) (l:=l) Yc (CT hk yq) (mx:=none) (mx':=none) (by simp [gp]) ad (.inl ⟨rfl,rfl,au _⟩) (C9 hkc) ⟨fun _=>au _,ad⟩ (ni _ hlk);exact fin l k _ _ e1 hlk hkc Y hk
         obtain⟨UT,I3,h3⟩:=cE (s:={ s with pc:=jH }) jz Z;split at h3
         ·rename_i t3;have:=bC h3;simp only [ak] at this;obtain⟨rfl,rfl⟩:=this;rw [dU,decide_eq_false_iff_not] at t3;exact⟨rfl,rfl,I3,go J⟩
         ·split at h3
          ·simp [T.leaf] at h3
          ·rename_i hz1;split at h3
           ·simp [T.leaf] at h3
           ·rename_i e Az X_;obtain⟨pc4,hp4,h4⟩:=cE (s:={ s with pc:=UT }) I3 h3;split at h4
            ·simp [T.leaf] at h4
            ·rename_i t4;have:=bC h4;simp only [ak] at this;obtain⟨rfl,rfl⟩:=this;rw [dU,decide_eq_false_iff_not,cl] at t4;refine⟨rfl,rfl,hp4,go ?_⟩;have hlv:=mW X_;obtain⟨ho,q0⟩:=OR.oe.1 (r.live id _ hlv).2.1;have alm:=D7 hz1;subst alm;simp only [V.den] at g1;have hl0:l0=0:=J
             subst hl0;simp only [OR] at q0;obtain⟨arr,lo1,hi1,us,q1,q2,q3,q4,q5,q6,q7⟩:=q0;unfold cM at q4;rw [cF ho.1] at q4;have gn:0<(dec (e.den E.ρ)).l.length:=amV.2 ho.2.2.2;have jU:0<(rowOf t).es:=J
             simp only [eC] at hc
             have hκ:(dec (e.den E.ρ)).l.length<=cap:=by
              rcases hc with hc|hc
              ·have:(dec (e.den E.ρ)).l.length*(rowOf t).es<=cap*(rowOf t).es:=J
               exact aoi this jU
              ·have:=anI gn jU;omega
             omega
      ·simp [T.leaf] at U
  ·simp [T.leaf] at h
theorem OO [bG] {tt:TT} (cJ:eB P tt) {s s':St} (hp:bT E.ρ s.pc) {ty t:Nat} {z:V} {lo hi mx:Option W} {yo hi' mx':Option Value} {v:W} {u:Value} (hx:VR E w.heap (.w4 z t) u)
 (mH:gp E w.heap lo yo) (yq:gp E w.heap hi hi') (xZ:gp E w.heap mx mx') (h:(Ju tt s ty z t lo hi mx).leaf E.ρ=some (v,s')) :
 s'.bE=s.bE/\s'.h=s.h/\bT E.ρ s'.pc/\∃r,(Instr.sliceAt ty u yo hi' mx').run P w= .ok r w/\VR E w.heap v r:=by
 unfold Ju at h;split at h
 ·grind [T.leaf]
 ·simp only [gp] at xZ;subst xZ;split at h
  ·grind [T.leaf]
  ·rename_i zz hz;obtain⟨el,ie,hu,kO,rfl⟩:=np cJ hz;have gT:=ez (cJ el ie kO);split at h
   ·rename_i Au;split at h
    ·rename_i ni;have:=bC h;simp only [ak] at this;obtain⟨rfl,rfl⟩:=this;have hx0:=hx;simp only [VR] at hx;obtain⟨⟨x,rfl⟩,hr⟩:=hx;obtain⟨e1,e2⟩:=fS (P:=P) (w:=w) (isSlice:=true) (len:=0) (cap:=0) (m0:=0) (d:=0) (m:=0) mH yq (mx:=none) (mx':=none) (by simp [gp]) ad (.inl ⟨rfl,rfl,au _⟩) Au ⟨fun _=>au _,ad⟩ ni;refine⟨rfl,rfl,hp,.slice x 0 0,?_,hx0⟩;simp [Instr.sliceAt,run_underlying hu,Instr.slice,e1,gT]
    grind [T.leaf]
   grind [T.leaf]
end
theorem Dy: ∀{B Z!:List W},Z!.length=B.length->dX B 0 Z!=some Z!
 |[],[],_=>rfl
 |[],_::_,h=>by simp at h
 |_::_,[],h=>by simp at h
 |b::B,v::Z!,h=>by simp only [dX];rw [Dy (by simpa using h)]
theorem NA {A B C Z!:List W} (h:Z!.length=B.length):dX (A++(B++C)) A.length Z!=some (A++(Z!++C)):=by
 have:=sN A (nH C (Dy h))
 grind
theorem F5 {α:Type}: ∀{a b:List α},iy a.length (a++b)=some a
 |[],b=>rfl
 |x::a,b=>by simp only [aL,aR,iy,F5]
theorem kx {ρ:Nat->Int} {r:Row}: ∀(L:List D) (a b:Nat),bD ρ r [] L a=bD ρ r [] L b
 |[],_,_=>rfl
 |d::L,a,b=>by simp only [bD,dY]; rw [kx L (a+1) (b+1)]
theorem gO {ρ:Nat->Int} {r:Row}: ∀(A B:List D),bD ρ r [] (A++B) 0=bD ρ r [] A 0++bD ρ r [] B 0
 |[],B=>rfl
 |d::A,B=>by simp only [aR,bD,dY,am7];rw [kx (A++B) 1 0,kx A 1 0,gO A B]
section
variable {P:Program} {E:En} {w:World}
theorem Vz [bG] {H:Hp} (r:bN E H w) {id t:Nat} {e0:V} {sE:TypeId} (Y:H.get id=some (.vec e0 t sE [])) (xj:(rowOf t).es≠0) {k cap:Nat} {a:Addr} (hc:eC E id 0 k a cap (.rest (rowOf t).es)) :
 a=⟨(E.θ id).1,(E.θ id).2,none⟩/\(dec (e0.den E.ρ)).l.length<=cap:=by
 obtain⟨ho,q0⟩:=OR.oe.1 (r.live id _ Y).2.1;simp only [OR] at q0;obtain⟨arr,lo1,hi1,us,q1,q2,q3,q4,q5,q6,q7⟩:=q0;unfold cM at q4;rw [cF ho.1] at q4;have gn:0<(dec (e0.den E.ρ)).l.length:=amV.2 ho.2.2.2;have jU:0<(rowOf t).es:=J
 simp only [eC] at hc;rcases hc with hc|hc
 ·refine⟨by simpa using hc.1,?_⟩;have:(dec (e0.den E.ρ)).l.length*(rowOf t).es<=cap*(rowOf t).es:=J
  exact aoi this jU
 ·have:=anI gn jU;omega
theorem De [bG] {H:Hp} (r:bN E H w) {id t:Nat} {e0:V} {sE:TypeId} (Y:H.get id=some (.vec e0 t sE [])) {n mm:Nat} (hle:n+mm<=(dec (e0.den E.ρ)).l.length) {ds:List D} (tf:ds.length=mm) (rH: ∀d∈ds,oI (rowOf t) d)
 {us:List Value} (hv:cw E w.heap (bD E.ρ (rowOf t) [] ds 0) us) (U: ∀u∈us,u.oneCell'=true) {e1:V} (Yj:dec (e1.den E.ρ)=dL ((dec (e0.den E.ρ)).l.take n++ds++(dec (e0.den E.ρ)).l.drop (n+mm))) :
 ∃w',(storeCells ⟨(E.θ id).1,(E.θ id).2+n*(rowOf t).es,none⟩ us).run P w= .ok () w'/\eS E H w E (H.put id (.vec e1 t sE [])) w'/\bN E (H.put id (.vec e1 t sE [])) w':=by
 obtain⟨rc,ho,hw⟩:=r.oe Y;generalize hL:(dec (e0.den E.ρ)).l=L at *
 have hsp:L=L.take n++((L.drop n).take mm++L.drop (n+mm)):=by
  conv=>lhs; rw [<- amR n L]
  congr 1
  conv=>lhs; rw [<- amR mm (L.drop n)]
  simp_all
 have hc:cM E.ρ e0 t []=bD E.ρ (rowOf t) [] (L.take n) 0++(bD E.ρ (rowOf t) [] ((L.drop n).take mm) 0++bD E.ρ (rowOf t) [] (L.drop (n+mm)) 0):=by
  unfold cM;rw [hL]
  conv=>lhs; rw [hsp]
  rw [gO,gO]
 have hlA:(bD E.ρ (rowOf t) [] (L.take n) 0).length=n*(rowOf t).es:=by
  rw [cF (j6 _),a8]
  grind
 have hsl:dX (cM E.ρ e0 t []) (n*(rowOf t).es) (bD E.ρ (rowOf t) [] ds 0)=some (cM E.ρ e1 t []):=by
  have:cM E.ρ e1 t []=bD E.ρ (rowOf t) [] (L.take n) 0++(bD E.ρ (rowOf t) [] ds 0++bD E.ρ (rowOf t) [] (L.drop (n+mm)) 0):=by unfold cM;rw [Yj,bI,gO,gO,am7]
  rw [this,hc,<- hlA];refine NA ?_;rw [cF (j6 _),cF (j6 _),a8,br,tf]
  grind
 obtain⟨w',g1,g2,g3⟩:=lM (P:=P) rc (by rw [Hp.bP,ah rfl]) hsl hv U;have al1:F0 (H.put id (.cells (cM E.ρ e0 t []) sE)) H:=(F0.put Y).symm
 have al2:F0 ((H.put id (.cells (cM E.ρ e0 t []) sE)).put id (.cells (cM E.ρ e1 t []) sE)) (H.put id (.vec e1 t sE [])):=by
  refine⟨fun j y hj=>?_,fun j y hj=>?_,rfl,rfl⟩
  ·rw [Hp.bP];split
   ·grind
   ·rename_i gn;rw [Hp.bP,af gn,Hp.bP,af gn] at hj
    grind
  ·rw [Hp.bP] at hj ⊢;split
   ·grind
   ·rename_i gn;rw [af gn] at hj;rw [Hp.bP,af gn];exact⟨y,hj⟩
 have A8:=(g3.live id _ (by rw [Hp.bP,ah rfl])).2.1
 have Ro:OR E w'.heap id (.vec e1 t sE []):=by
  refine OR.oe.2 ⟨⟨j6 _,?_⟩,A8⟩;rw [Yj];refine⟨by rw [bI],?_,?_⟩
  ·rw [bI];intro d hd;rcases amC.1 hd with hd|hd
   ·rcases amC.1 hd with hd|hd
    ·exact hw.2.1 d (by rw [hL]; exact amG hd)
    ·exact rH d hd
   ·exact hw.2.1 d (by rw [hL]; exact bw hd)
  ·rw [bI];intro q;have:=congrArg List.length q;simp only [aZ,a8,br,bg,tf] at this;have gn:=amV.2 hw.2.2;rw [hL] at gn;omega
 refine⟨w',g1,(g2.left al1).right al2,?_⟩;exact g3.swap (id:=id) (by rw [Hp.bP,ah rfl]) Ro (by rw [Hp.bP,ah rfl]) (fun j hj=>by rw [Hp.bP,af hj,Hp.bP,af hj,Hp.bP,af hj]) rfl rfl
theorem MC [bG] {s s':St} (r:bN E s.h w) (hp:bT E.ρ s.pc) {id t t1 t2 ty e:Nat} {e0 n1 m sd lo:V} {sE:TypeId} {ie:TI} {d2:TypeDesc} (vc:mf P e ie) (ht:P.underlying t1=some (.slice e)) (yp:P.underlying t2=some d2) (jX: ∀k,d2≠.int k)
 (lq:(rowOf t).es=ie.size) (xj:ie.size≠0) (Y:s.h.get id=some (.vec e0 t sE [])) (mH:V! lo=true) {u u2:Value} {us:Array Value} {ds:List D} (hx:VR E w.heap (.sD id lo n1 t) u) {mm:Nat} (hm:m.den E.ρ=(mm:Int))
 (tf:ds.length=mm) (hsd:(dec (sd.den E.ρ)).l=ds) (rH: ∀d∈ds,oI (rowOf t) d) {news:List W} (src:Src P E w ie.size mm news u2 us) (hv:cw E w.heap (bD E.ρ (rowOf t) [] ds 0) us.toList) {v:W} (h:(SC id t sE e0 n1 m sd s).leaf E.ρ=some (v,s')) :
 s'.bE=s.bE/\bT E.ρ s'.pc/\∃z w' E',(Builtin.append_ #[t1,t2] ty #[u,u2]).run P w= .ok z w'/\eS E s.h w E' s'.h w'/\bN E' s'.h w'/\VR E' w'.heap v z:=by
 unfold SC at h;obtain⟨ea,fA,g1,g2,g3,g4⟩:=wc hp h;have:=bC g4;simp only [ak] at this;obtain⟨rfl,rfl⟩:=this;have mH:=D7 mH;subst mH;have hx0:=hx;simp only [VR] at hx;obtain⟨hid,l0,k,a,cap,q1,q2,rfl,q4,q5⟩:=hx;simp only [V.den] at q1;have hl0:l0=0:=J
 subst hl0;rw [amH] at q5;obtain⟨rfl,kb⟩:=Vz r Y (by rw [lq]; exact xj) q5;have hle:k+mm<=(dec (e0.den E.ρ)).l.length:=J
 obtain⟨inf,d,z,U,Z,h3,h4,h5,h6,h7,h8⟩:=vc.all
 obtain⟨w',f1,f2,f3⟩:=De (P:=P) r Y (n:=k) hle tf rH hv src.rX (e1:=.op .cat (.op .cat (.op .take e0 n1) sd) (.op .drop e0 (sA n1 m))) (by
  have hn:((k:Int)+(mm:Int)).toNat=k+mm:=J
  simp only [V.den,eZ.den,bB,bI,pg,fc,q2,hm,hn,hsd,bd])
 refine⟨rfl,fA,.slice (some ⟨(E.θ id).1,(E.θ id).2,none⟩) (k+mm) cap,w',E,?_,f2,f3,?_⟩
 ·exact kA (s:=ie.size) ht yp jX U h5 src J (by simp only [e8]; rw [<- lq]; exact f1)
 ·simp only [VR];refine⟨hid,0,k+mm,_,_,rfl,by rw [pg,q2,hm]; rfl,rfl,J,?_⟩;rw [amH];simp only [eC] at q5 ⊢
  grind
theorem L8 [bG] {tt:TT} (cJ:eB P tt) {s s':St} (r:bN E s.h w) (hp:bT E.ρ s.pc) {t t2 ty id t':Nat} {lo n1:V} {y v:W} {u u2:Value} (mH:V! lo=true) (hx:VR E w.heap (.sD id lo n1 t') u) (hy:VR E w.heap y u2) (h:(EP tt t t2 id n1 t' y s).leaf E.ρ=some (v,s')) :
 s'.bE=s.bE/\bT E.ρ s'.pc/\∃z w' E',(Builtin.append_ #[t,t2] ty #[u,u2]).run P w= .ok z w'/\eS E s.h w E' s'.h w'/\bN E' s'.h w'/\VR E' w'.heap v z:=by
 unfold EP at h;split at h
 ·rename_i ti fN;split at h
  ·rename_i e hk;split at h
   ·rename_i ie kO;split at h
    ·grind [T.leaf]
    ·rename_i PH XY;obtain⟨d2,jX,CV⟩:=r4 (cJ t2 PH XY);split at h
     ·grind [T.leaf]
     ·rename_i k2 gn
      have vk: ∀k,d2≠.int k:=by
       intro k hd;subst hd;cases tc:PH.kind<;>rw [tc] at CV<;>simp only [HX] at CV
       grind
      split at h
      ·grind [T.leaf]
      ·rename_i je;simp only [not_or,Classical.not_not] at je;obtain⟨xj,rI,wA,lq⟩:=je;have vc:=cJ e ie kO;have hu:=ff (cJ t ti fN) hk;split at h
       ·grind [T.leaf]
       ·rename_i e0 sE X_;have Y:=mW X_;split at h
        ·rename_i id2 UW n2 Kb;split at h
         ·rename_i I6;split at h
          ·rename_i yp;have I6:=aq I6;have yp:=aq yp;subst I6 yp;obtain⟨fI,fq,g1,g2,g3,g4⟩:=wc hp h;have hy0:=hy;simp only [VR] at hy;obtain⟨hid,l,k,a,cap,q1,q2,rfl,q4,q5⟩:=hy;obtain⟨rc,ho,hw⟩:=r.oe Y;generalize hL:(dec (e0.den E.ρ)).l=L at *;have hlk:l+k<=L.length:=J
           have hsp:L=L.take l++((L.take (l+k)).drop l++L.drop (l+k)):=by
            conv=>lhs; rw [<- amR (l+k) L]
            grind
           have UZ:cM E.ρ e0 Kb []=bD E.ρ (rowOf Kb) [] (L.take l) 0++(bD E.ρ (rowOf Kb) [] ((L.take (l+k)).drop l) 0++bD E.ρ (rowOf Kb) [] (L.drop (l+k)) 0):=by
            unfold cM;rw [hL]
            conv=>lhs; rw [hsp]
            rw [gO,gO]
           have hlA:(bD E.ρ (rowOf Kb) [] (L.take l) 0).length=l*(rowOf Kb).es:=by rw [cF (j6 _),a8];congr 1;omega
           have hlen:((L.take (l+k)).drop l).length=k:=by rw [br,a8]; omega
           have hlB:(bD E.ρ (rowOf Kb) [] ((L.take (l+k)).drop l) 0).length=k*(rowOf Kb).es:=by rw [cF (j6 _),hlen]
           have hy1:VR E w.heap (.slice id2 (l*(rowOf Kb).es) k (.rest (rowOf Kb).es)) (.slice (some a) k cap):=by simp only [VR];exact⟨hid,a,cap,rfl,q4,q5⟩
           obtain⟨us,src⟩:=qA (P:=P) rc hy1 (s:=ie.size) (m:=k) (news:=bD E.ρ (rowOf Kb) [] ((L.take (l+k)).drop l) 0) (by
            simp only [rN,mC,Hp.bP,if_true];rw [UZ,<- hlA,tD];simp only;rw [<- lq,<- hlB,F5]
            rfl)
           refine MC (s:={ s with pc:=fI }) r fq vc hu jX vk lq xj Y mH hx q2 hlen (by rw [xI q1 q2,fc,hL]) (fun d hd=>hw.2.1 d ?_) src src.UQ g4;rw [hL];exact amG (bw hd)
          grind [T.leaf]
         grind [T.leaf]
        ·split at h
         ·grind [T.leaf]
         ·rename_i m news Of;obtain⟨us,src⟩:=qA (P:=P) r hy Of;split at h
          ·grind [T.leaf]
          ·rename_i m';split at h
           ·split at h
            ·rename_i sd hcr;obtain⟨ds,c1,c2,c3,c4,c5⟩:=qU (ρ:=E.ρ) _ hcr;simp only [V.den,bB,D.l,aA] at c2;exact MC r hp vc hu jX vk lq xj Y mH hx (mm:=m'+1) (by simp only [V.den]; rfl) c1 c2 c4 src (c5 E w.heap _ 0 rfl src.UQ) h
            grind [T.leaf]
           grind [T.leaf]
   grind [T.leaf]
  grind [T.leaf]
 grind [T.leaf]
theorem B5 [bG] {tt:TT} (cJ:eB P tt) {s s':St} (r:bN E s.h w) (hp:bT E.ρ s.pc) {t ty id t':Nat} {lo n:V} {v:W} {u:Value} (hx:VR E w.heap (.sD id lo n t') u) (h:(z7 tt t id lo n t' s).leaf E.ρ=some (v,s')) :
 s'.bE=s.bE/\bT E.ρ s'.pc/\v=W.undef/\∃w' E',(Builtin.clear_ #[t] ty #[u]).run P w= .ok (.tuple #[]) w'/\eS E s.h w E' s'.h w'/\bN E' s'.h w':=by
 unfold z7 at h;split at h
 ·rename_i ti fN;split at h
  ·rename_i e hk;have hu:=ff (cJ t ti fN) hk;split at h
   ·rename_i ie kO;obtain⟨inf,d,z,U,Z,h3,h4,h5,h6,h7,h8⟩:=(cJ e ie kO).all;have hz:=eV (E:=E) (h:=w.heap) h4;split at h
    ·rename_i je;obtain⟨lq,xj⟩:=je;split at h
     ·grind [T.leaf]
     ·rename_i e0 Az X_;have Y:=mW X_;split at h
      ·grind [T.leaf]
      ·rename_i zz hzz;obtain⟨fI,fq,g1⟩:=cE hp h;split at g1
       ·grind [T.leaf]
       ·rename_i t1;obtain⟨jH,jz,g2⟩:=cE (s:={ s with pc:=fI }) fq g1;split at g2
        ·grind [T.leaf]
        ·rename_i t2;obtain⟨UT,I3,g3⟩:=cE (s:={ s with pc:=jH }) jz g2;split at g3
         ·grind [T.leaf]
         ·rename_i t3;have:=bC g3;simp only [ak] at this;obtain⟨rfl,rfl⟩:=this;rw [dU,decide_eq_false_iff_not] at t1 t2;rw [gG,beq_iff_eq,pg,cl] at t3;simp only [VR] at hx;obtain⟨hid,l,k,a,cap,q1,q2,rfl,q4,q5⟩:=hx;have hlk:l+k=(dec (e0.den E.ρ)).l.length:=J
          have hn0:(dec (e0.den E.ρ)).l.length-l=k:=J
          have hwz:=tM (ρ:=E.ρ) hzz;have hrz:uD E.ro w.heap (rowOf t') (dec (zz.den E.ρ)) z.cells.toList:=tN hz.1 hzz
          have amq:cw E w.heap (gz (rowOf t') (.eg (dec (zz.den E.ρ)))) z.cells.toList:=by
           rw [fy];simp only [V.den,bB]
           grind
          have aeJ: ∀m:Nat,bD E.ρ (rowOf t') [] (List.replicate m (dec (zz.den E.ρ))) 0=dS (gz (rowOf t') (.eg (dec (zz.den E.ρ)))) m:=by
           intro m
           induction m with
           |zero=>rfl
           |succ m ih=>
            simp only [aom,bD,dY,dS]
            grind [kx]
          have hv:cw E w.heap (bD E.ρ (rowOf t') [] (List.replicate k (dec (zz.den E.ρ))) 0) (dS z.cells.toList k):=by
           grind [lY]
          obtain⟨w',f1,f2,f3⟩:=De (P:=P) r Y (n:=l) (mm:=k) J (am1) (fun d hd=>by rw [aoB hd]; exact hwz) hv (fun u hu=>hz.2 u (lX hu)) (e1:=.op .fill e0 (eD (mY lo) zz)) (by
           simp only [eD,V.den,eZ.den,bB,lz,D.n,q1,bd,hn0,hlk]
           rw [List.drop_length,ank])
          refine⟨rfl,I3,rfl,w',E,?_,f2,f3⟩;rcases ani k with Yf|Yf
          ·subst Yf;simp only [dS] at f1
           have:w'=w:=by
            simp [storeCells] at f1
            grind
           subst this;simp [Builtin.clear_,run_underlying hu]
          ·have ha:a=⟨(E.θ id).1,(E.θ id).2+l*(rowOf t').es,none⟩:=by
            simp only [eC] at q5
            grind
           have aeF:z.cells.toList≠[]:=by
            intro hx;have:=uD.length hrz
            grind
           have hzc:(Builtin.zeroCells z.cells k).toList=dS z.cells.toList k:=uJ z.cells aeF k;subst ha;obtain⟨j,rfl⟩ : ∃j,k=j+1:=⟨k-1,J⟩;simp [Builtin.clear_,run_underlying hu,zeroValue,typeInfo,U,h3,hzc,f1]
    grind [T.leaf]
   grind [T.leaf]
  grind [T.leaf]
 grind [T.leaf]
end
theorem ma (l:List Nat):(ld l).l.length=l.length:=by simp [ld]
theorem Uv {a b:List Nat} (h:ld a=ld b):a=b:=by
 have:=Fb h
 induction a generalizing b with
 |nil=>cases b with
  |nil=>rfl
  |cons y b=>simp at this
 |cons x a ih=>cases b with
  |nil=>simp at this
  |cons y b=> simp only [ax,List.cons.injEq,D.i.injEq,Int.ofNat_eq_natCast,anT] at this;rw [this.1,ih (b:=b) (by unfold ld; exact congrArg dL (by simpa using this.2)) (by simpa using this.2)]
theorem Fa: ∀(x y:List Nat),Ml (x.map fun b=>D.i (Int.ofNat b)) (y.map fun b=>D.i (Int.ofNat b))=bytesLess x y
 |[],[]=>rfl
 |[],_::_=>rfl
 |_::_,[]=>rfl
 |a::x,b::y=>by
  simp only [ax,Ml,bytesLess,D.n,Fa x y];have i1:(Int.ofNat a<Int.ofNat b)=(a<b):=propext an0;have i2:(Int.ofNat b<Int.ofNat a)=(b<a):=propext an0;simp only [i1,i2];rcases aon a b with h|h|h
  ·simp_all
  ·simp_all
  ·have Z:a.blt b=false:=by rw [anq]; simp [Nat.blt]; omega
   have h3:a.beq b=false:=by rw [anq]; simp; omega
   grind
section
variable {P:Program} {E:En} {w:World}
theorem VR.T? {h:Array Obj} {e:V} {v:Value} (hv:VR E h (.jD e) v): ∃l:List Nat,v= .string (df l)/\(∀b∈l,b<256)/\dec (e.den E.ρ)=ld l:=by
 simp only [VR] at hv;obtain⟨s,rfl,hs⟩:=hv.string;refine⟨bytesOf s,by rw [kI],yk s,?_⟩
 grind [Ae,yk,kI,tJ,df]
theorem VR.Xm {h:Array Obj} {e:V} {l:List Nat} (Y: ∀b∈l,b<256) (he:dec (e.den E.ρ)=ld l):VR E h (.jD e) (.string (df l)):=by
 simp only [VR];rw [he,Ae _ Y];have:=Rd.str (ro:=E.ro) (h:=h) (df l)
 grind [tJ,df]
theorem Ds {h:Array Obj} {x:W} {u:Value} {e:V} (hx:VR E h x u) (hs:tT x=some e): ∃l:List Nat,u= .string (df l)/\(∀b∈l,b<256)/\dec (e.den E.ρ)=ld l:=by
 unfold tT at hs;split at hs
 ·simp only [ag] at hs;subst hs;simp only [VR] at hx;exact⟨_,hx.1,hx.2,by simp only [V.den,bB]⟩
 ·simp only [ag] at hs;subst hs;exact hx.T?
 grind
theorem OC {tt:TT} (cJ:eB P tt) {s s':St} (hp:bT E.ρ s.pc) {ty:Nat} {e:V} {ix v:W} {u ui:Value} (hx:VR E w.heap (.jD e) u) (zy:VR E w.heap ix ui) (h:(Jm tt s ty e ix).leaf E.ρ=some (v,s')) :
 s'.bE=s.bE/\s'.h=s.h/\bT E.ρ s'.pc/\∃r,(Instr.index ty u ui).run P w= .ok r w/\VR E w.heap v r:=by
 unfold Jm at h;split at h
 ·rename_i kd i;split at h
  ·rename_i ti fN;split at h
   ·rename_i hk;obtain⟨ea,fA,U,Z,h3⟩:=nw hp h;have:=bC h3;simp only [ak] at this;obtain⟨rfl,rfl⟩:=this;refine⟨rfl,rfl,fA,?_⟩;obtain⟨l,rfl,hb,hd⟩:=hx.T?;simp only [VR] at zy;subst zy;rw [cl,hd,ma] at Z;obtain⟨k,CV⟩ : ∃k:Nat,i.den E.ρ=(k:Int):=⟨(i.den E.ρ).toNat,J⟩;have fD:k<l.length:=J
    have hg:(df l)[k]?=some (UInt8.ofNat l[k]):=by rw [Du,aM fD]; rfl
    have alJ:=hb l[k] (az fD);rw [CV];refine⟨_,by simp [Instr.index,asIntOf,run_underlying (fJ (cJ ty ti fN) hk),hg]; rfl,?_⟩
    have T8:(dec (e.den E.ρ)).l[k]?=some (.i (Int.ofNat l[k])):=by rw [hd];simp only [ld,bI,bp,aM fD,bq]
    simp only [VR,AI,Bq E.ρ e i CV T8,D.n]
    grind
   grind [T.leaf]
  grind [T.leaf]
 grind [T.leaf]
theorem OB {tt:TT} (cJ:eB P tt) {s s':St} (hp:bT E.ρ s.pc) {ty:Nat} {e:V} {lo hi mx:Option W} {yo hi' mx':Option Value} {v:W} {u:Value} (hx:VR E w.heap (.jD e) u)
 (mH:gp E w.heap lo yo) (yq:gp E w.heap hi hi') (xZ:gp E w.heap mx mx') (h:(Jl tt s ty e lo hi mx).leaf E.ρ=some (v,s')) :
 s'.bE=s.bE/\s'.h=s.h/\bT E.ρ s'.pc/\∃r,(Instr.sliceAt ty u yo hi' mx').run P w= .ok r w/\VR E w.heap v r:=by
 unfold Jl at h;split at h
 ·grind [T.leaf]
 ·simp only [gp] at xZ;subst xZ;split at h
  ·grind [T.leaf]
  ·rename_i ti fN;split at h
   ·rename_i hk;have hu:=fJ (cJ ty ti fN) hk;split at h
    ·grind [T.leaf]
    ·rename_i ql hql;split at h
     ·grind [T.leaf]
     ·rename_i qh hqh;obtain⟨fI,fq,U⟩:=cE hp h;split at U
      ·grind [T.leaf]
      ·rename_i t1;obtain⟨jH,jz,Z⟩:=cE (s:={ s with pc:=fI }) fq U;split at Z
       ·grind [T.leaf]
       ·rename_i t2;obtain⟨UT,I3,h3⟩:=cE (s:={ s with pc:=jH }) jz Z;split at h3
        ·grind [T.leaf]
        ·rename_i t3;have:=bC h3;simp only [ak] at this;obtain⟨rfl,rfl⟩:=this;refine⟨rfl,rfl,I3,?_⟩;obtain⟨l,rfl,hb,hd⟩:=hx.T?;rw [dU,decide_eq_false_iff_not] at t1 t2 t3;rw [cl,hd,ma] at t3;simp only [V.den,ang] at t1;obtain⟨a,ha⟩ : ∃a:Nat,ql.den E.ρ=(a:Int):=⟨(ql.den E.ρ).toNat,J⟩;obtain⟨b,MW⟩ : ∃b:Nat,qh.den E.ρ=(b:Int):=⟨(qh.den E.ρ).toNat,J⟩;have hle:b<=l.length:=J
         have MY:a<=b:=J
         obtain⟨UW,Yc,ni⟩:=XF hql mH ha
         have aeR: ∃I6,gp E w.heap I6 hi'/\nD I6 l.length l.length=some b:=by
          unfold hiE at hqh;split at hqh
          ·simp only [ag] at hqh;subst hqh;rw [cl,hd,ma] at MW;have:b=l.length:=J
           grind [nD]
          ·split at hqh
           ·simp only [ag] at hqh;subst hqh;exact⟨_,CT MW yq,C9 hle⟩
           grind
         obtain⟨I6,aeR,Au⟩:=aeR;obtain⟨e1,e2⟩:=fS (P:=P) (w:=w) (isSlice:=false) (len:=l.length) (cap:=l.length) (m0:=l.length) (d:=0) Yc aeR (mx:=none) (mx':=none) rfl ad (.inl ⟨rfl,rfl,au _⟩) Au ⟨fun _=>au _,ad⟩ (ni b MY);refine⟨.string ((df l).extract a b),?_,?_⟩
         ·rw [<- kH] at e1;simp [Instr.sliceAt,run_underlying hu,Instr.slice,e1]
         ·rw [sL];refine VR.Xm (fun c hc=>hb c (amG (bw hc))) ?_;simp only [eD,V.den,eZ.den,bB,lz,D.hd,D.l,aF,aH,aC,D.n,ha,MW,bd,hd];simp only [ld,bI,aoe,aof]
   grind [T.leaf]
theorem Il {x y:W} {a b:V} (h:CC x y=some (a,b)):tT x=some a/\tT y=some b:=by
 grind [CC]
theorem Gb (ρ:Nat->Int) {a b:V} {x y:List Nat} (ha:dec (a.den ρ)=ld x) (hb:dec (b.den ρ)=ld y):(Gc a b).den ρ=bytesLess x y:=by
 simp only [Gc,SB.den,V.den,eZ.den,ha,hb,ld,bI]
 grind [Fa]
theorem Ai: ∀(x y:List Nat),(bytesLess x y||gC x y)=!(bytesLess y x)
 |[],[]=>rfl
 |[],_::_=>rfl
 |_::_,[]=>rfl
 |a::x,b::y=>by
  have ih:=Ai x y;simp only [bytesLess,gC];rcases aon a b with h|h|h
  ·have U:a.blt b=true:=by simp [Nat.blt]; omega
   have Z:b.blt a=false:=by rw [anq]; simp [Nat.blt]; omega
   have h3:b.beq a=false:=by rw [anq]; simp; omega
   grind
  ·simp_all
  ·have U:b.blt a=true:=by simp [Nat.blt]; omega
   have Z:a.blt b=false:=by rw [anq]; simp [Nat.blt]; omega
   have h3:a.beq b=false:=by rw [anq]; simp; omega
   grind
theorem Uj {s s':St} (hp:bT E.ρ s.pc) {t:Nat} {op:BinOp} {x y v:W} {a b:V} {u u':Value} (hx:VR E w.heap x u) (hy:VR E w.heap y u') (hs:CC x y=some (a,b)) (h:(OD op a b s).leaf E.ρ=some (v,s')) :
 s'.bE=s.bE/\s'.h=s.h/\bT E.ρ s'.pc/\(∃r,(binOp op t u u').run P w= .ok r w/\VR E w.heap v r)/\(∀cs ds,¬(u= .agg cs/\u'= .agg ds))/\¬(u= .nilIface/\u'= .nilIface):=by
 obtain⟨hsx,hsy⟩:=Il hs;obtain⟨l,rfl,ni,hdl⟩:=Ds hx hsx;obtain⟨m,rfl,Ek,qI⟩:=Ds hy hsy
 have heq:((qB (mw a) (mw b)).den E.ρ)=gC l m:=by
  grind [iq,lN,kr,Uv,gZ]
 have gn:(∀cs ds,¬(Value.string (df l)= .agg cs/\Value.string (df m)= .agg ds))/\¬(Value.string (df l)= .nilIface/\Value.string (df m)= .nilIface):=⟨ad,ad⟩
 have fin: ∀(c:W) (o:BinOp),Ky o l m=some c->(∀q,VR E w.heap c q->VR E w.heap v q)->(∀q,(Op.stringOp o (df l) (df m)).run P w= .ok q w->(binOp o t (.string (df l)) (.string (df m))).run P w= .ok q w)->
  ∃r,(binOp o t (.string (df l)) (.string (df m))).run P w= .ok r w/\VR E w.heap v r:=by
  intro c o ho hc hq;obtain⟨r,U,Z⟩:=Kx (P:=P) (E:=E) (w:=w) ni Ek ho;exact⟨r,hq _ U,hc r Z⟩
 unfold OD at h;split at h
 ·obtain⟨fI,fq,U⟩:=cE hp h;split at U
  ·grind [T.leaf]
  ·rename_i t1;obtain⟨jH,jz,Z⟩:=cE (s:={ s with pc:=fI }) fq U;split at Z
   ·grind [T.leaf]
   ·rename_i t2;have:=bC Z;simp only [ak] at this;obtain⟨rfl,rfl⟩:=this;rw [dU,decide_eq_true_eq,cl,hdl,ma] at t1;rw [dU,decide_eq_true_eq,cl,qI,ma] at t2;simp only [V.den] at t1 t2;refine⟨rfl,rfl,jz,⟨.string (df (l++m)),?_,?_⟩,gn⟩
    ·have hm:IntKind.i64.max=9223372036854775807:=ae
     have:(Op.stringOp .add (df l) (df m)).run P w= .ok (.string (df l++df m)) w:=by simp only [Op.stringOp,kH,hm];rw [af J];rfl
     have e:df l++df m=df (l++m):=by apply ByteArray.ext;simp [df]
     rw [e] at this;simpa [binOp] using this
    ·refine VR.Xm (fun c hc=>?_) ?_
     ·grind
     ·simp only [V.den,eZ.den,bB,hdl,qI];simp only [ld,bI,amT]
 all_goals first
  |(simp [T.leaf] at h; done)
  |(have:=bC h
    simp only [ak] at this;obtain⟨rfl,rfl⟩:=this;refine⟨rfl,rfl,hp,?_,gn⟩;refine fin _ _ rfl (fun q hq=>?_) (fun q hq=>by simpa [binOp] using hq);simp only [VR,SB.den,mZ] at hq ⊢
    first
     |(rw [heq]; exact hq)
     |(rw [Gb E.ρ hdl qI]; exact hq)
     |(rw [Gb E.ρ qI hdl]; rw [Ai] at hq; simpa using hq))
theorem OV [bG] {tt:TT} (cJ:eB P tt) {s s':St} (r:bN E s.h w) (hp:bT E.ρ s.pc) {sT dT:Nat} {e:V} {v:W} {u:Value} (hx:VR E w.heap (.jD e) u) (h:(C4 tt sT dT e s).leaf E.ρ=some (v,s')) :
 s'.bE=s.bE/\bT E.ρ s'.pc/\∃y w' E',(convert sT dT u).run P w= .ok y w'/\eS E s.h w E' s'.h w'/\bN E' s'.h w'/\VR E' w'.heap v y:=by
 unfold C4 at h;split at h
 ·grind [T.leaf]
 ·rename_i j hj;split at h
  ·rename_i hjk;split at h
   ·grind [T.leaf]
   ·rename_i i hi;split at h
    ·rename_i el hik;split at h
     ·rename_i ie kO;split at h
      ·rename_i k amy;split at h
       ·obtain⟨l,rfl,hb,hd⟩:=hx.T?
        have MU:oZ tt sT dT (.str l) s.h=some (.slice s.h.fresh 0 l.length (.rest 1),s.h.new (.cells (l.map fun c=> .int .u8 (.lit (Int.ofNat c))) el)):=by
         grind [oZ]
        obtain⟨y,w',E',g1,g2,g3,g4⟩:=zZ (P:=P) cJ r (x:=.str l) (u:=.string (df l)) (by simp only [VR]; exact⟨trivial,hb⟩) MU;obtain⟨fI,fq,U⟩:=cE hp h;rw [iq,cl,hd,ma] at U;split at U
        ·rename_i hz;have:=bC U;simp only [ak] at this;obtain⟨rfl,rfl⟩:=this;simp only [V.den,beq_iff_eq] at hz
         grind
        ·rename_i hz;have:=bC U;simp only [ak] at this;obtain⟨rfl,rfl⟩:=this;simp only [V.den,beq_eq_false_iff_ne,ne_eq] at hz;have uI:dec (e.den E'.ρ)=ld l:=by rw [g2.ρ]; exact hd
         have UZ:cM E'.ρ e 14 []=l.map fun c=>W.int .u8 (.lit (Int.ofNat c)):=by
          unfold cM;rw [uI];simp only [ld,bI]
          have: ∀(l:List Nat) (i:Nat),bD E'.ρ (rowOf 14) [] (l.map fun b=>D.i (Int.ofNat b)) i=l.map fun c=>W.int .u8 (.lit (Int.ofNat c)):=by
           intro l
           induction l with
           |nil=>intro i; rfl
           |cons a l ih=> intro i;simp only [ax,bD,dY,ih];rfl
          grind
         have r2:=CP (e1:=e) (t:=14) g3 (by
          rw [uI];refine⟨by simp only [ld,bI],fun x hx=>?_,fun q=>?_⟩
          ·simp only [ld,bI,aK] at hx;obtain⟨b,_,rfl⟩:=hx;rfl
          ·have:=congrArg List.length q;rw [ma] at this
           exact hz (by simp at this; simp [this])) (by rw [UZ]) (fun us hu=>by rw [UZ]; exact hu)
         refine⟨rfl,fq,y,w',E',g1,g2.right (wg rfl rfl fun _=>rfl),r2,?_⟩;simp only [VR] at g4 ⊢;obtain⟨q1,a,cap,q2,q3,q4⟩:=g4;exact⟨q1,l.length,a,cap,by rw [cl,uI,ma],q2,q3,q4⟩
       grind [T.leaf]
      grind [T.leaf]
     grind [T.leaf]
    grind [T.leaf]
  grind [T.leaf]
end
section
variable {P:Program} {E:En} {w:World}
def IW (c:CK):Prop:=(∃k,c= .int k)\/c= .str
theorem bytes_beq (p q:ByteArray):(p == q)=decide (p=q):=by
 rw [amP,decide_eq_true_eq];have e:(p == q)=(p.data == q.data):=rfl;rw [e,beq_iff_eq];constructor
 ·intro h; cases p; cases q; simp only at h; rw [h]
 grind
theorem zj {ro:Nat->Prop} {h:Array Obj} {c:CK} (hc:IW c) {dt:TypeDesc} (hd:Cz dt (Lk c)) {d d':D} {u u':Value} (r:Rd ro h c d u) (r':Rd ro h c d' u') :
 Instr.sameNow dt u u'=some (decide (d=d'))/\(d=d'->∀n,Instr.sameBits (n+1) u' u=true):=by
 rcases hc with ⟨k,rfl⟩|rfl
 ·simp only [Lk] at hd;obtain⟨k',rfl⟩:=hd
  cases r with
  |int _ n=>
   cases r' with
   |int _ m=>
    refine⟨?_,fun hh n=>?_⟩
    ·simp only [Instr.sameNow,D.i.injEq]
     grind
    ·simp only [D.i.injEq] at hh;subst hh;simp [Instr.sameBits]
 ·simp only [Lk] at hd;simp only [Cz] at hd;subst hd;obtain⟨a,rfl,rfl⟩:=r.string;obtain⟨b,rfl,rfl⟩:=r'.string;refine⟨?_,fun hh n=>?_⟩
  ·simp only [Instr.sameNow,bytes_beq];congr 1
   grind [E8]
  ·have:=E8 hh;subst this;simp [Instr.sameBits,bytes_beq]
def J9 (P:Program):List CK->Nat->List Field->Prop
 |[],_,fs=>fs= []
 |c::cs,j,fs=> ∃f r k i,fs=f::r/\f.offset=j/\f.name≠ "_"/\c= .int k/\mf P f.type i/\i.kind= .int k/\J9 P cs (j+1) r
def aaV (P:Program) (kt:Nat) (r:Row):Prop:=match r with
 | .one c=>IW c/\∃dt,P.underlying kt=some dt/\Cz dt (Lk c)
 | .many cs=>cs≠[]/\P.underlying kt=some (.struct (P.fieldsOf kt))/\P.stoodInHeld kt=false/\J9 P cs 0 (P.fieldsOf kt).toList
theorem HS.length {ro:Nat->Prop} {h:Array Obj} {d:D}: ∀{cs:List CK} {j:Nat} {us:List Value},HS ro h cs j d us->us.length=cs.length
 |[],_,us,hh=>by simp only [HS] at hh; rw [hh]; rfl
 |c::cs,j,us,hh=>by obtain⟨u,vs,rfl,_,h3⟩:=hh;rw [aL,aL,HS.length h3]
theorem QS {ro:Nat->Prop} {h:Array Obj} {d d':D} (n:Nat): ∀{cs:List CK} {j:Nat} {fs:List Field} {us vs pre pre':List Value},J9 P cs j fs->HS ro h cs j d us->HS ro h cs j d' vs->pre.length=j->pre'.length=j->
 (Op.eqFields (n+1) (pre++us).toArray (pre'++vs).toArray fs).run P w= .ok (decide (∀i,i<cs.length->d.hd (j+i)=d'.hd (j+i))) w
 |[],j,fs,us,vs,pre,pre',hf,_,_,_,_=>by simp only [J9] at hf;subst hf;simp [Op.eqFields]
 |c::cs,j,fs,us,vs,pre,pre',hf,hu,hv,hp,fA=>by
  obtain⟨f,r,k,i,rfl,ho,hn,rfl,fN,hk,hr⟩:=hf;obtain⟨u,us,rfl,Od,Rm⟩:=hu;obtain⟨v,vs,rfl,Rl,X'⟩:=hv;have e4:i.agg=false:=by simp [TI.agg,TK.agg,hk]
  have p1:(part f.type (pre++u::us).toArray f.offset).run P w= .ok u w:=by simp [part,kN fN,e4,ho,<- hp]
  have p2:(part f.type (pre'++v::vs).toArray f.offset).run P w= .ok v w:=by simp [part,kN fN,e4,ho,<- fA]
  have ih:=QS (d:=d) (d':=d') (us:=us) (vs:=vs) (pre:=pre++ [u]) (pre':=pre'++ [v]) n hr Rm X' (by simp [hp]) (by simp [fA]);rw [am7,am7] at ih;simp only [aoC] at ih;simp only [Op.eqFields];rw [ah hn];generalize hx:d.hd j=x at Od;generalize hy:d'.hd j=y at Rl
  cases Od with
  |int _ a=>
   cases Rl with
   |int _ b=>
    simp only [Sem.run_bind,p1,p2,Result.andThen_ok,run_equalIn_int w n f.type _ _ _ _ (oK fN hk)];by_cases MY:a=b
    ·subst MY;simp only [beq_self_eq_true,anJ,aQ,if_false,ih];congr 1;rw [decide_eq_decide];constructor
     ·intro q m hm
      cases m with
      |zero=>rw [bh,hx,hy]
      |succ m=>have:=q m (by simp at hm; omega); rw [show j+(m+1)=j+1+m by omega]; exact this
     ·intro q m hm;have:=q (m+1) (by simp; omega);rw [show j+(m+1)=j+1+m by omega] at this;exact this
    ·have hb:(a == b)=false:=by simpa using MY
     rw [hb];simp only [Bool.not_false,if_true,Sem.run_pure];congr 1;symm;rw [decide_eq_false_iff_not];intro q;have:=q 0 ad;rw [bh,hx,hy] at this;simp only [D.i.injEq] at this;exact MY this
theorem GX {ro:Nat->Prop} {h:Array Obj} {d:D}: ∀{cs:List CK} {j:Nat} {fs:List Field} {us vs:List Value},J9 P cs j fs->HS ro h cs j d us->HS ro h cs j d vs->us=vs
 |[],j,fs,us,vs,_,hu,hv=>by simp only [HS] at hu hv;rw [hu,hv]
 |c::cs,j,fs,us,vs,hf,hu,hv=>by
  obtain⟨f,r,k,i,rfl,ho,hn,rfl,fN,hk,hr⟩:=hf;obtain⟨u,us,rfl,Od,Rm⟩:=hu;obtain⟨v,vs,rfl,Rl,X'⟩:=hv;rw [GX hr Rm X'];generalize hx:d.hd j=x at Od Rl
  cases Od with
  |int _ a=>
   cases Rl with
   |int _ b=>rfl
theorem GW {ro:Nat->Prop} {h:Array Obj} {d:D}: ∀{cs:List CK} {j:Nat} {fs:List Field} {us:List Value} (n:Nat),J9 P cs j fs->HS ro h cs j d us->((us.zip us).all fun (x,y)=>Instr.sameBits n x y)=true
 |[],j,fs,us,n,_,hu=>by simp only [HS] at hu;rw [hu];rfl
 |c::cs,j,fs,us,n,hf,hu=>by
  obtain⟨f,r,k,i,rfl,ho,hn,rfl,fN,hk,hr⟩:=hf;obtain⟨u,us,rfl,Od,Rm⟩:=hu;rw [List.zip_cons_cons,aoo,GW n hr Rm,Bool.and_true];generalize hx:d.hd j=x at Od
  cases Od with
  |int _ a=>simp [Instr.sameBits]
theorem C' {cs:List CK} {d d':D} (h:wU cs d) (h':wU cs d'):(∀i,i<cs.length->d.hd (0+i)=d'.hd (0+i))↔d=d':=by
 constructor
 ·intro q;rw [h.1,h'.1];congr 1;refine List.ext_getElem (by rw [h.2.1,h'.2.1]) fun i U Z=>?_;have:=q i (by rw [<- h.2.1]; exact U);rw [ay] at this;unfold D.hd at this;rw [aM U,aM Z] at this;simpa using this
 ·rintro rfl i _;rfl
theorem A2 {ro:Nat->Prop} {h:Array Obj} {kt:Nat} {cs:List CK} (hT:aaV P kt (.many cs)) {d d':D} {u u':Value} (r:FY ro h (.many cs) d u) (r':FY ro h (.many cs) d' u') :
 (Op.equal kt u u').run P w= .ok (decide (d=d')) w/\(d=d'->∀n,Instr.sameBits (n+1) u' u=true):=by
 obtain⟨_,t1,t2,t3⟩:=hT;obtain⟨w1,us,rfl,U⟩:=r;obtain⟨w2,vs,rfl,Z⟩:=r';refine⟨?_,fun hh n=>?_⟩
 ·have h10:(Op.maxDepth:Nat)=9998+1+1:=rfl;unfold Op.equal;rw [h10,run_equalIn_struct w (9998+1) kt _ _ t1 t2];have:=QS (w:=w) (d:=d) (d':=d') (pre:=[]) (pre':=[]) 9998 t3 U Z rfl rfl;simp only [aA] at this;rw [this];congr 1;rw [decide_eq_decide];exact C' w1 w2
 ·subst hh;have e:=GX t3 U Z;subst e;simp only [Instr.sameBits,beq_self_eq_true,Bool.true_and];exact GW n t3 U
def akv (ro:Nat->Prop) (h:Array Obj) (t:Nat) (ds:List D) (kd:D) (bJ:List MapEntry) (u:Value) (ask:Option (Nat×Value)->Prop):Prop:=
 (gv ds kd=none/\ask none/\(∀v,lP ds kd v=ds++ [.p kd v])/\FN ds kd=ds)\/
 (∃j x e,gv ds kd=some x/\bJ[j]?=some e/\FY ro h (mapOf t).2 x e.val/\ask (some (j,e.val))/\(∀n,Instr.sameBits (n+1) e.key u=true)/\(∀v,lP ds kd v=ds.set j (.p kd v))/\FN ds kd=ds.eraseIdx j)
theorem Bd {ro:Nat->Prop} {h:Array Obj} {t:Nat} {kd:D} {u:Value} {ask:List MapEntry->Nat->Option (Nat×Value)->Prop} (a0: ∀i,ask [] i none) (aY: ∀e r i,(∃d',FY ro h (mapOf t).1 d' e.key/\d'=kd)->ask (e::r) i (some (i,e.val))) (aN: ∀e r i res,(∃d',FY ro h (mapOf t).1 d' e.key/\d'≠kd)->ask r (i+1) res->ask (e::r) i res)
 (aB: ∀u',FY ro h (mapOf t).1 kd u'->∀n,Instr.sameBits (n+1) u' u=true): ∀{ds:List D} {bJ:List MapEntry} {i:Nat},jW ro h t ds bJ->akv ro h t ds kd bJ u (fun q=>ask bJ i (q.map fun p=>(i+p.1,p.2)))
 |[],bJ,i,he=>by simp only [jW] at he;subst he;exact .inl ⟨rfl,a0 i,fun _=>rfl,rfl⟩
 |d::ds,bJ,i,he=>by
  obtain⟨e,r,rfl,U,Z,h3,h4⟩:=he;by_cases zx:ji d=kd
  ·refine .inr ⟨0,FW d,e,by simp only [gv,ah zx],rfl,h3,?_,aB _ (zx▸Z),fun v=>by simp only [lP,ah zx,ann],by simp only [FN,ah zx,List.eraseIdx_cons_zero]⟩;exact aY e r i ⟨_,Z,zx⟩
  ·rcases Bd a0 aY aN aB (i:=i+1) h4 with ⟨q1,q2,q3,q4⟩|⟨j,x,e',q1,q2,q3,q4,q5,q6,q7⟩
   ·exact .inl ⟨by simp only [gv,af zx,q1],aN e r i _ ⟨_,Z,zx⟩ q2,fun v=>by simp only [lP,af zx,q3,aR],by simp only [FN,af zx,q4]⟩
   ·refine .inr ⟨j+1,x,e',by simp only [gv,af zx,q1],by simpa using q2,q3,?_,q5,fun v=>by simp only [lP,af zx,q6,ano],by simp only [FN,af zx,q7,anV]⟩;have:=aN e r i _ ⟨_,Z,zx⟩ q4;simp only [bq] at this ⊢;rw [show i+(j+1)=i+1+j by omega];exact this
theorem Ew {ro:Nat->Prop} {h:Array Obj} {t kt:Nat} (hT:aaV P kt (mapOf t).1) {kd:D} {u:Value} (hk:FY ro h (mapOf t).1 kd u) {ds:List D} {bJ:List MapEntry} (he:jW ro h t ds bJ):akv ro h t ds kd bJ u (fun q=>(Instr.findKey kt u bJ).run P w= .ok q w):=by
 generalize hr:(mapOf t).1=r at hT hk
 cases r with
 |one c=>
  obtain⟨hc,dt,hu,hd⟩:=hT;have uC:Rd ro h c kd u:=hk
  have G:=Bd (ro:=ro) (h:=h) (t:=t) (kd:=kd) (u:=u) (ask:=fun es i q=>Instr.findNow dt u es i=some q) (fun i=>by simp [Instr.findNow])
   (fun e r i ⟨d',U,Z⟩=>by
    rw [hr] at U;have g:=(zj hc hd uC U).1;rw [Z,decide_eq_true rfl] at g
    simp [Instr.findNow,g])
   (fun e r i res ⟨d',U,Z⟩ q=>by
    rw [hr] at U;have g:=(zj hc hd uC U).1;rw [decide_eq_false (fun e=>Z e.symm)] at g;simp only [Instr.findNow,g]
    exact q)
   (fun u' U n=>by
    rw [hr] at U
    exact (zj hc hd uC U).2 rfl n) (i:=0) he
  rcases G with ⟨q1,q2,q3,q4⟩|⟨j,x,e,q1,q2,q3,q4,q5,q6,q7⟩
  ·exact .inl ⟨q1,fE hu q2,q3,q4⟩
  ·simp only [bq,ay] at q4;exact .inr ⟨j,x,e,q1,q2,q3,fE hu q4,q5,q6,q7⟩
 |many cs=>
  have G:=Bd (ro:=ro) (h:=h) (t:=t) (kd:=kd) (u:=u) (ask:=fun es i q=>(Instr.findAsking kt u es i).run P w= .ok q w) (fun i=>by simp [Instr.findAsking])
   (fun e r i ⟨d',U,Z⟩=>by
    rw [hr] at U;have g:=(A2 (w:=w) hT hk U).1;rw [Z,decide_eq_true rfl] at g
    simp [Instr.findAsking,g])
   (fun e r i res ⟨d',U,Z⟩ q=>by
    rw [hr] at U;have g:=(A2 (w:=w) hT hk U).1;rw [decide_eq_false (fun e=>Z e.symm)] at g;simp [Instr.findAsking,g]
    exact q)
   (fun u' U n=>by
    rw [hr] at U
    exact (A2 (w:=w) hT hk U).2 rfl n) (i:=0) he
  have key: ∀q,(Instr.findAsking kt u bJ 0).run P w= .ok q w->(Instr.findKey kt u bJ).run P w= .ok q w:=by
   intro q hq;unfold Instr.findKey
   cases bJ with
   |nil=> simp only [Instr.findAsking,Sem.run_pure] at hq;simp [run_underlying hT.2.1,Instr.findNow];simpa using hq
   |cons e r=> simp [run_underlying hT.2.1,Instr.findNow,Instr.sameNow];exact hq
  rcases G with ⟨q1,q2,q3,q4⟩|⟨j,x,e,q1,q2,q3,q4,q5,q6,q7⟩
  ·exact .inl ⟨q1,key _ q2,q3,q4⟩
  ·simp only [bq,ay] at q4;exact .inr ⟨j,x,e,q1,q2,q3,key _ q4,q5,q6,q7⟩
theorem D5 {ro:Nat->Prop} {h:Array Obj} {d:D} (b:Bool) (n:Nat): ∀{cs:List CK} {j:Nat} {fs:List Field} {us pre:List Value},J9 P cs j fs->HS ro h cs j d us->pre.length=j->
 (forIn fs PUnit.unit (fun f (_:PUnit)=>(do
  if f.name≠ "_" then Instr.checkKey b (n+1) f.type (<- part f.type (pre++us).toArray f.offset)
  pure (ForInStep.yield PUnit.unit):Sem (ForInStep PUnit)))).run P w= .ok PUnit.unit w
 |[],j,fs,us,pre,hf,_,_=>by simp only [J9] at hf;subst hf;simp
 |c::cs,j,fs,us,pre,hf,hu,hp=>by
  obtain⟨f,r,k,i,rfl,ho,hn,rfl,fN,hk,hr⟩:=hf;obtain⟨u,us,rfl,Od,Rm⟩:=hu;have e4:i.agg=false:=by simp [TI.agg,TK.agg,hk]
  have p1:(part f.type (pre++u::us).toArray f.offset).run P w= .ok u w:=by simp [part,kN fN,e4,ho,<- hp]
  have ih:=D5 (d:=d) (us:=us) (pre:=pre++ [u]) b n hr Rm (by simp [hp]);rw [am7] at ih;simp only [aoC] at ih;have hc:(Instr.checkKey b (n+1) f.type u).run P w= .ok () w:=by simp [Instr.checkKey,run_underlying (oK fN hk)]
  rw [List.forIn_cons];simp only [Sem.run_bind,ah hn,p1,hc,Result.andThen_ok,Sem.run_pure];exact ih
theorem mb {ro:Nat->Prop} {h:Array Obj} {kt:Nat} {r:Row} (hT:aaV P kt r) {d:D} {v:Value} (hk:FY ro h r d v) (b:Bool):(Instr.checkKey b 10000 kt v).run P w= .ok () w:=by
 cases r with
 |one c=> obtain⟨_,dt,hu,hd⟩:=hT;exact eJ hu hd b v
 |many cs=> obtain⟨_,t1,_,t3⟩:=hT;obtain⟨_,us,rfl,U⟩:=hk;have h0:(10000:Nat)=9998+1+1:=rfl;rw [h0];have:=D5 (w:=w) (pre:=[]) b 9998 t3 U rfl;simp only [aA] at this;rw [Instr.checkKey];simp only [Sem.run_bind,run_underlying t1,Result.andThen_ok];rw [<- Array.forIn_toList,this];simp
theorem jW.set {ro:Nat->Prop} {h:Array Obj} {t:Nat} {kd vd:D} {uk uv:Value} (hk:FY ro h (mapOf t).1 kd uk) (hv:FY ro h (mapOf t).2 vd uv): ∀{ds:List D} {bJ:List MapEntry} {i:Nat} {e:MapEntry},jW ro h t ds bJ->bJ[i]?=some e->
 jW ro h t (ds.set i (.p kd vd)) (bJ.set i { e with key:=uk,val:=uv })
 |[],bJ,i,e,he,hi=>by simp only [jW] at he; subst he; simp at hi
 |d::ds,bJ,0,e,he,hi=>by obtain⟨e0,r,rfl,U,Z,h3,h4⟩:=he;simp at hi;subst hi;simp only [ann];exact⟨_,r,rfl,rfl,hk,hv,h4⟩
 |d::ds,bJ,i+1,e,he,hi=>by obtain⟨e0,r,rfl,U,Z,h3,h4⟩:=he;simp only [ano];exact⟨e0,_,rfl,U,Z,h3,jW.set hk hv h4 (by simpa using hi)⟩
theorem jW.push {ro:Nat->Prop} {h:Array Obj} {t:Nat} {kd vd:D} {uk uv:Value} {c:Nat} (hk:FY ro h (mapOf t).1 kd uk) (hv:FY ro h (mapOf t).2 vd uv): ∀{ds:List D} {bJ:List MapEntry},jW ro h t ds bJ->
 jW ro h t (ds++ [.p kd vd]) (bJ++ [{ key:=uk,val:=uv,born:=c }])
 |[],bJ,he=>by simp only [jW] at he;subst he;exact⟨_,[],rfl,rfl,hk,hv,rfl⟩
 |d::ds,bJ,he=>by obtain⟨e0,r,rfl,U,Z,h3,h4⟩:=he;simp only [aR];exact⟨e0,_,rfl,U,Z,h3,jW.push hk hv h4⟩
theorem jW.erase {ro:Nat->Prop} {h:Array Obj} {t:Nat}: ∀{ds:List D} {bJ:List MapEntry} {i:Nat},jW ro h t ds bJ->jW ro h t (ds.eraseIdx i) (bJ.eraseIdx i)
 |[],bJ,i,he=>by simp only [jW] at he; subst he; simp [jW]
 |d::ds,bJ,0,he=>by
  obtain⟨e0,r,rfl,U,Z,h3,h4⟩:=he
  grind
 |d::ds,bJ,i+1,he=>by obtain⟨e0,r,rfl,U,Z,h3,h4⟩:=he;simp only [anV];exact⟨e0,_,rfl,U,Z,h3,jW.erase h4⟩
theorem xQ {m:W} {h:Hp} {id t:Nat} {e:V} (hm:xh m h=some (id,e,t)):m= .map id/\h.get id=some (.jT e t):=by
 unfold xh at hm
 grind
theorem Hd {tt:TT} (cJ:eB P tt): ∀{cs:List CK} {j:Nat} {fs:List (Nat×Nat×Nat)} {lR:List Field},Bc tt cs j fs=true->(lR.mapM fun f=>(P.info? f.type).map fun i=>(f.offset,f.type,i.size))=some fs->(∀f∈lR,f.name≠ "_")->J9 P cs j lR
 |[],j,[],lR,_,hm,_=>by
  cases lR with
  |nil=>rfl
  |cons f lR=> simp only [anf,anG,anm] at hm;obtain⟨_,_,_,_,h3⟩:=hm;simp at h3
 |[],j,_::_,lR,h,_,_=>by simp [Bc] at h
 |c::cs,j,[],lR,h,_,_=>by simp [Bc] at h
 |c::cs,j,(o,ft,z)::fs,lR,h,hm,hn=>by
  cases lR with
  |nil=>simp at hm
  |cons f lR=>
   simp only [anf,anG,anm] at hm;obtain⟨p,U,ls,Z,h3⟩:=hm;simp only [pure,ag,List.cons.injEq] at h3;obtain⟨rfl,rfl⟩:=h3;rw [aO] at U;obtain⟨inf,alp,e⟩:=U;simp only [ak] at e;obtain⟨rfl,rfl,rfl⟩:=e;simp only [Bc] at h;split at h
   ·rename_i ho;split at h
    ·rename_i i hi;split at h
     ·rename_i k;split at h
      ·rename_i hk;exact⟨f,lR,k,i,rfl,aq ho,hn f ad,rfl,cJ f.type i hi,of_decide_eq_true hk,Hd cJ h Z (fun g hg=>hn g (by simp [hg]))⟩
      ·simp at h
     ·simp at h
    ·simp at h
   ·simp at h
theorem Mq {h:Array Obj} {r:Row} {v:W} {u:Value} {a:V} (hv:VR E h v u) (hc:Sr r v=some a):FY E.ro h r (dec (a.den E.ρ)) u:=by
 cases r with
 |one c=>exact (jJ hv hc).rd (pe hc)
 |many cs=>
  unfold Sr at hc;simp only at hc;split at hc
  ·rename_i vs;simp only [VR] at hv;obtain⟨us,rfl,G5⟩:=hv;have hw:=tO (ρ:=E.ρ) hc;refine⟨hw,us,rfl,?_⟩;have hR:=tP G5 hc
   have key: ∀{ks:List CK} {j:Nat} {ws:List Value},dV E.ro h ks j (dec (a.den E.ρ)) ws->(∀i c,ks[i]?=some c->oh c ((dec (a.den E.ρ)).hd (j+i)))->HS E.ro h ks j (dec (a.den E.ρ)) ws:=by
    intro ks
    induction ks with
    |nil=>intro j ws hh _; exact hh
    |cons c ks ih=>
     intro j ws hh rH;obtain⟨x,xs,rfl,g1,g2⟩:=hh
     exact⟨x,xs,rfl,g1.rd (rH 0 c rfl),ih g2 fun i c' hi=>by
      have:=rH (i+1) c' hi;rw [show j+(i+1)=j+1+i by omega] at this
      exact this⟩
   refine key hR fun i c hi=>?_;obtain⟨_,w2,w3⟩:=hw;have ep:i<cs.length:=(aW.1 hi).1;refine w3 i c _ hi ?_;unfold D.hd;rw [ay,aM J];rfl
  ·simp at hc
theorem FY.cell {h:Array Obj} {r:Row} {d:D} {u:Value} {x:V} (hh:FY E.ro h r d u) (hd:dec (x.den E.ρ)=d):VR E h (Mw r x) u:=by
 subst hd
 cases r with
 |one c=> have hh:Rd E.ro h c _ u:=hh;exact nr.2 hh.cell
 |many cs=>
  obtain⟨_,us,rfl,U⟩:=hh;simp only [Mw,VR];refine⟨us,rfl,nC.2 ?_⟩
  have key: ∀{ks:List CK} {j:Nat} {ws:List Value},HS E.ro h ks j (dec (x.den E.ρ)) ws->dV E.ro h ks j (dec (x.den E.ρ)) ws:=by
   intro ks
   induction ks with
   |nil=>intro j ws hh; exact hh
   |cons c ks ih=> intro j ws hh;obtain⟨y,ys,rfl,g1,g2⟩:=hh;exact⟨y,ys,rfl,g1.cell,ih g2⟩
  exact key U
theorem AX {tt:TT} (cJ:eB P tt) {h:Array Obj} {ty t:Nat} {k:W} {uk:Value} {a:V} {ie:TI} (hk:VR E h k uk) (hm:mapKey tt ty t k=some (a,ie)) :
 ∃kt et,P.underlying ty=some (.map kt et)/\aaV P kt (mapOf t).1/\mf P et ie/\FY E.ro h (mapOf t).1 (dec (a.den E.ρ)) uk:=by
 unfold mapKey at hm;split at hm
 ·grind
 ·rename_i ti fN;split at hm
  ·rename_i kt et zw;split at hm
   ·grind
   ·rename_i ki Ye;split at hm
    ·rename_i tc;split at hm
     ·grind
     ·rename_i ie' kO;split at hm
      ·grind
      ·rename_i a0 ha0;simp only [ag,ak] at hm;obtain⟨rfl,rfl⟩:=hm;have hu:=sJ (cJ ty ti fN) zw;refine⟨kt,et,hu,?_,cJ et ie' kO,?_⟩
       ·generalize hr:(mapOf t).1=r at tc
        have nO:(∃c,r= .one c/\IW c)\/∃cs,r= .many cs/\cs≠[]:=by
         rw [<- hr];unfold mapOf;split<;>first |exact .inl ⟨_,rfl,.inl ⟨_,rfl⟩⟩|exact .inl ⟨_,rfl,.inr rfl⟩|exact .inr ⟨_,rfl,ad⟩
        rcases nO with ⟨c,rfl,hc⟩|⟨cs,rfl,gn⟩
        ·simp only [XJ,decide_eq_true_eq] at tc;refine⟨hc,?_⟩;rcases hc with ⟨q,rfl⟩|rfl
         ·exact⟨_,oK (cJ kt ki Ye) tc,q,rfl⟩
         ·exact⟨_,fJ (cJ kt ki Ye) tc,rfl⟩
        ·simp only [XJ] at tc;split at tc
         ·rename_i fs hfs;split at tc
          ·rename_i hq;have fN:=cJ kt ki Ye;have he:=fN.eqs hq;obtain⟨lR,hu,hm⟩:=sI fN hfs;unfold RT at he;rw [hu] at he;simp only [an,amW,aX,bne_iff_ne,ne_eq] at he;obtain⟨⟨U,Z⟩,h3⟩:=he;have hf:P.fieldsOf kt=lR:=by simp [Program.fieldsOf,hu]
           refine⟨gn,by rw [hf]; exact hu,U,?_⟩;rw [hf];exact Hd cJ tc hm (fun f hf=>(h3 f hf).1)
          ·simp at tc
         ·simp at tc
       ·rw [lN,bB];exact Mq hk ha0
    ·grind
  ·grind
theorem AW [bG] {H:Hp} (r:bN E H w) {id t:Nat} {e:V} (Y:H.get id=some (.jT e t)): ∃bJ c',w.heap[(E.θ id).1]?=some (.map bJ c')/\jW E.ro w.heap t (dec (e.den E.ρ)).l bJ.toList:=
 (r.live id _ Y).2.1
theorem wC {ρ:Nat->Int} (e a:V):(Ha e a).den ρ=((V.op .K6 e a).den ρ == (V.lit 0).den ρ):=by
 unfold Ha;split
 ·split
  ·simp only [SB.den,V.den,eZ.den,bB]
   grind
  ·rfl
 ·rfl
theorem OK [bG] {tt:TT} (cJ:eB P tt) {s s':St} (r:bN E s.h w) (hp:bT E.ρ s.pc) {ty id t:Nat} {m k v:W} {e:V} {um uk:Value} {ok:Bool} (hm:VR E w.heap m um) (hk:VR E w.heap k uk) (mN:xh m s.h=some (id,e,t)) (h:(zT tt ty k ok e t s).leaf E.ρ=some (v,s')) :
 s'.bE=s.bE/\s'.h=s.h/\bT E.ρ s'.pc/\∃x,(Instr.lookup ty um uk ok).run P w= .ok x w/\VR E w.heap v x:=by
 obtain⟨rfl,Y⟩:=xQ mN
 unfold zT at h;split at h
 ·grind [T.leaf]
 ·rename_i a ie hmk;obtain⟨kt,et,hu,hT,kO,T1⟩:=AX cJ hk hmk;split at h
  ·grind [T.leaf]
  ·rename_i z hz;obtain⟨u0,z1,z2⟩:=Ay (P:=P) (w:=w) (E:=E) kO hz;obtain⟨bJ,c',g1,g2⟩:=AW r Y;have hg:=eI (P:=P) g1 ad;simp only [VR] at hm;obtain⟨rfl,hid⟩:=hm;have hf:=Ew (w:=w) hT T1 g2;obtain⟨fI,fq,U⟩:=cE hp h;rw [wC] at U;simp only [V.den,eZ.den] at U;rcases hf with ⟨q1,q2,_,_⟩|⟨j,x,en,q1,q2,q3,q4,q5,_,_⟩
   ·rw [q1] at U;have:=bC U;simp only [ak] at this;obtain⟨rfl,rfl⟩:=this;refine⟨rfl,rfl,fq,(if ok then .tuple #[u0,.bool false] else u0),?_,?_⟩
    ·cases ok<;>simp [Instr.lookup,run_underlying hu,hg,mb hT T1,q2,z1]
    ·cases ok
     ·exact z2
     ·simp only [if_true,VR,cw];simp_all [z2,SB.den]
   ·rw [q1] at U;have:=bC U;simp only [ak] at this;obtain⟨rfl,rfl⟩:=this
    have I2:VR E w.heap (Mw (mapOf t).2 (.op .DX e a)) en.val:=by refine q3.cell ?_;simp only [V.den,eZ.den,bB,q1,aC]
    refine⟨rfl,rfl,fq,(if ok then .tuple #[en.val,.bool true] else en.val),?_,?_⟩
    ·cases ok<;>simp [Instr.lookup,run_underlying hu,hg,mb hT T1,q4]
    ·cases ok
     ·grind
     ·simp only [if_true,VR,cw]
      grind [SB.den]
theorem Uk [bG] {tt:TT} (cJ:eB P tt) {s s':St} (r:bN E s.h w) {ty id t:Nat} {m k x v:W} {e:V} {um uk ux:Value} (hm:VR E w.heap m um) (hk:VR E w.heap k uk) (hx:VR E w.heap x ux) (mN:xh m s.h=some (id,e,t)) (h:(OG tt ty id k x e t s).leaf E.ρ=some (v,s')) :
 s'.bE=s.bE/\s'.pc=s.pc/\v=W.undef/\∃w',(Instr.mapUpdate ty um uk ux).run P w= .ok () w'/\eS E s.h w E s'.h w'/\bN E s'.h w':=by
 obtain⟨rfl,Y⟩:=xQ mN
 unfold OG at h;split at h
 ·grind [T.leaf]
 ·rename_i a ie hmk;obtain⟨kt,et,hu,hT,kO,T1⟩:=AX cJ hk hmk;split at h
  ·grind [T.leaf]
  ·rename_i b hb;have:=bC h;simp only [ak] at this;obtain⟨rfl,rfl⟩:=this;have hrx:=Mq hx hb;obtain⟨bJ,c',g1,g2⟩:=AW r Y;have hg:=eI (P:=P) g1 ad;simp only [VR] at hm;obtain⟨rfl,hid⟩:=hm;refine⟨rfl,rfl,rfl,?_⟩
   have pG:dec ((V.op .u5 e (eD a b)).den E.ρ)=dL (lP (dec (e.den E.ρ)).l (dec (a.den E.ρ)) (dec (b.den E.ρ))):=by simp only [eD,V.den,eZ.den,bB]
   rcases Ew (w:=w) hT T1 g2 with ⟨q1,q2,q3,_⟩|⟨j,y,en,q1,q2,q3,q4,q5,q6,_⟩
   ·refine⟨_,?_,fC r Y (.jT (.op .u5 e (eD a b)) t) (.map (bJ.push { key:=uk,val:=ux,born:=c' }) (c'+1)) ?_⟩
    ·simp [Instr.mapUpdate,run_underlying hu,hg,mb hT T1,q2,gy (P:=P) g1]
    ·intro h' hh kp;simp only [OR];refine⟨_,_,hh,?_⟩;rw [pG,bI,q3,Array.toList_push];exact jW.push (T1.keep kp.ro kp.BE) (hrx.keep kp.ro kp.BE) (g2.keep kp.ro kp.BE)
   ·have hkt:(Instr.keyThatStays (((bJ[j]?).map (·.key)).getD uk) uk).run P w= .ok uk w:=by
     have q2':=q2;rw [amD] at q2';simp only [q2',bq,aC,Instr.keyThatStays];simp_all
    refine⟨_,?_,fC r Y (.jT (.op .u5 e (eD a b)) t) (.map (bJ.modify j fun e=>{ e with key:=uk,val:=ux }) c') ?_⟩
    ·simp [Instr.mapUpdate,run_underlying hu,hg,mb hT T1,q4,hkt,gy (P:=P) g1]
    ·intro h' hh kp;simp only [OR];refine⟨_,_,hh,?_⟩;rw [pG,bI,q6,xM bJ j en _ q2];exact jW.set (T1.keep kp.ro kp.BE) (hrx.keep kp.ro kp.BE) (g2.keep kp.ro kp.BE) q2
theorem Ht [bG] {tt:TT} (cJ:eB P tt) {s s':St} (r:bN E s.h w) (hp:bT E.ρ s.pc) {ty:Nat} {m k x v:W} {um uk ux:Value} (hm:VR E w.heap m um) (hk:VR E w.heap k uk) (hx:VR E w.heap x ux) (h:(Jp tt ty m k x s).leaf E.ρ=some (v,s')) :
 s'.bE=s.bE/\bT E.ρ s'.pc/\v=W.undef/\∃w' E',(Instr.mapUpdate ty um uk ux).run P w= .ok () w'/\eS E s.h w E' s'.h w'/\bN E' s'.h w':=by
 unfold Jp at h;obtain⟨vs,U,fI,E1,fq,f,q,g⟩:=pR rfl r hp h;have hρ:=f.ρ;rw [<- hρ] at fq g;have hv:=q [ux] (by simp only [cw]; exact⟨ux,[],rfl,hx,rfl⟩);split at g
 ·rename_i x1;simp only [cw] at hv;obtain⟨u1,us1,e1,hx1,e2⟩:=hv;subst e2;simp only [List.cons.injEq,and_true] at e1;subst e1;split at g
  ·rename_i id e t mN
   obtain⟨a1,a2,a3,w',a4,a5,a6⟩:=Uk cJ (s:={ s with h:=U,pc:=fI }) f.rel (VR.keep (f.eu.keeps r) _ _ hm) (VR.keep (f.eu.keeps r) _ _ hk) hx1 mN g;exact⟨a1,by rw [a2,<- hρ]; exact fq,a3,w',E1,a4,f.eu.trans a5,a6⟩
  grind [T.leaf]
 grind [T.leaf]
theorem Up [bG] {tt:TT} (cJ:eB P tt) {s s':St} (r:bN E s.h w) {ty id t ts:Nat} {m k v:W} {e:V} {um uk:Value} (hm:VR E w.heap m um) (hk:VR E w.heap k uk) (mN:xh m s.h=some (id,e,t)) (h:(OQ tt ty id k e t s).leaf E.ρ=some (v,s')) (tr:Nat) :
 s'.bE=s.bE/\s'.pc=s.pc/\v=W.undef/\∃w',(Builtin.delete_ #[ty,ts] tr #[um,uk]).run P w= .ok (.tuple #[]) w'/\eS E s.h w E s'.h w'/\bN E s'.h w':=by
 obtain⟨rfl,Y⟩:=xQ mN
 unfold OQ at h;split at h
 ·grind [T.leaf]
 ·rename_i a ie hmk;obtain⟨kt,et,hu,hT,kO,T1⟩:=AX cJ hk hmk;have:=bC h;simp only [ak] at this;obtain⟨rfl,rfl⟩:=this;obtain⟨bJ,c',g1,g2⟩:=AW r Y;have hg:=eI (P:=P) g1 ad;simp only [VR] at hm;obtain⟨rfl,hid⟩:=hm;refine⟨rfl,rfl,rfl,?_⟩
  have pG:dec ((V.op .K8 e a).den E.ρ)=dL (FN (dec (e.den E.ρ)).l (dec (a.den E.ρ))):=by simp only [V.den,eZ.den,bB]
  rcases Ew (w:=w) hT T1 g2 with ⟨q1,q2,_,q3⟩|⟨j,y,en,q1,q2,q3,q4,q5,_,q6⟩
  ·refine⟨_,?_,fC r Y (.jT (.op .K8 e a) t) (.map bJ c') ?_⟩
   ·simp [Builtin.delete_,run_underlying hu,hg,mb hT T1,q2,gy (P:=P) g1]
   ·intro h' hh kp;simp only [OR];refine⟨_,_,hh,?_⟩;rw [pG,bI,q3];exact g2.keep kp.ro kp.BE
  ·refine⟨_,?_,fC r Y (.jT (.op .K8 e a) t) (.map (bJ.eraseIdxIfInBounds j) c') ?_⟩
   ·simp [Builtin.delete_,run_underlying hu,hg,mb hT T1,q4,gy (P:=P) g1]
   ·intro h' hh kp;simp only [OR];refine⟨_,_,hh,?_⟩;have ep:j<bJ.size:=by have:=(aW.1 q2).1; simpa using this
    have:(bJ.eraseIdxIfInBounds j).toList=bJ.toList.eraseIdx j:=by simp_all
    rw [this,pG,bI,q6];exact jW.erase (g2.keep kp.ro kp.BE)
end
section
variable {P:Program} {E:En} {w:World}
theorem EA {m:W} {h:Hp} {id t:Nat} {e:V} {eY:List Nat} {ov:List (V×W)} (hm:EB m h=some (id,e,t,eY,ov)):m= .map id/\h.get id=some (.ur e t eY ov):=by
 unfold EB at hm;split at hm
 ·split at hm
  ·rename_i o ho;split at hm
   ·simp only [ag,ak] at hm;obtain⟨rfl,rfl,rfl,rfl,rfl⟩:=hm;exact⟨rfl,ho⟩
   ·simp at hm
  ·simp at hm
 ·simp at hm
theorem Hq {tt:TT} (cJ:eB P tt) {h:Array Obj} {ty:Nat} {k:W} {uk:Value} {x:V} {ie:TI} (hk:VR E h k uk) (hm:Jh tt ty k=some (x,ie)) :
 ∃kt et dt,P.underlying ty=some (.map kt et)/\P.underlying kt=some dt/\Cz dt (.int .i64)/\mf P et ie/\uk= .int .i64 (x.den E.ρ):=by
 unfold Jh at hm;split at hm
 ·simp at hm
 ·rename_i ti fN;split at hm
  ·rename_i kt et zw;split at hm
   ·simp at hm
   ·rename_i ki Ye;split at hm
    ·rename_i tc;split at hm
     ·simp at hm
     ·rename_i ie' kO;split at hm
      ·split at hm
       ·rename_i kk y alo;simp only [ag,ak] at hm;obtain⟨rfl,rfl⟩:=hm;subst alo;simp only [VR] at hk;exact⟨kt,et,_,sJ (cJ ty ti fN) zw,oK (cJ kt ki Ye) tc,⟨_,rfl⟩,cJ et ie' kO,hk⟩
       ·simp at hm
      ·simp at hm
    ·simp at hm
  ·simp at hm
theorem rQ (ρ:Nat->Int) (x:V):dec ((mY x).den ρ)= .i (x.den ρ):=by
 unfold mY;split
 ·simp only [V.den,bB]
 ·simp only [V.den,eZ.den,bB]
theorem ye {α:Type} {ρ:Nat->Int} {x:V} {k:Option W->St->T α} {a:α}: ∀{ov:List (V×W)} {s:St},bT ρ s.pc->(tz x ov s k).leaf ρ=some a->
 ∃ea,bT ρ ea/\(k (lJ ρ (x.den ρ) ov) { s with pc:=ea }).leaf ρ=some a
 |[],s,hp,h=> ⟨s.pc,hp,h⟩
 |(y,v)::l,s,hp,h=>by
  simp only [tz] at h;split at h
  ·rename_i he;have:=cH _ _ he;subst this;refine⟨s.pc,hp,?_⟩;simp only [lJ,if_true];exact h
  ·obtain⟨fI,fq,U⟩:=cE hp h;rw [gG] at U;by_cases he:x.den ρ=y.den ρ
   ·simp only [he,beq_self_eq_true] at U;refine⟨fI,fq,?_⟩;simp only [lJ,ah he.symm];exact U
   ·have hf:(x.den ρ == y.den ρ)=false:=by simp [he]
    rw [hf] at U;obtain⟨jH,jz,Z⟩:=ye (s:={ s with pc:=fI }) fq U;refine⟨jH,jz,?_⟩;simp only [lJ,af (fun q=>he (Eq.symm q))];exact Z
theorem Hn {α:Type} {ρ:Nat->Int} {x:V} {v:W} {a:α}: ∀{ov:List (V×W)} {s:St} {k:Option (List (V×W))->St->T α},bT ρ s.pc->(Jg x v ov s k).leaf ρ=some a->
 ∃ea,bT ρ ea/\((lJ ρ (x.den ρ) ov=none/\(k none { s with pc:=ea }).leaf ρ=some a)\/
  ∃iP,(∃u,lJ ρ (x.den ρ) ov=some u)/\((∀n,lJ ρ n iP=if n=x.den ρ then some v else lJ ρ n ov)/\iP.map (·.1)=ov.map (·.1))/\(k (some iP) { s with pc:=ea }).leaf ρ=some a)
 |[],s,k,hp,h=> ⟨s.pc,hp,.inl ⟨rfl,h⟩⟩
 |(y,u)::l,s,k,hp,h=>by
  simp only [Jg] at h
  have here:x.den ρ=y.den ρ->(∃u',lJ ρ (x.den ρ) ((y,u)::l)=some u')/\((∀n,lJ ρ n ((y,v)::l)=if n=x.den ρ then some v else lJ ρ n ((y,u)::l))/\((y,v)::l).map (·.1)=((y,u)::l).map (·.1)):=by
   intro he;refine⟨⟨u,by simp only [lJ,ah he.symm]⟩,fun n=>?_,rfl⟩;simp only [lJ];by_cases hn:n=x.den ρ
   ·rw [ah hn,ah (by rw [hn,he])]
   ·rw [af hn,af (fun q=>hn (by rw [he,q])),af (fun q=>hn (by rw [he,q]))]
  split at h
  ·rename_i he;have:=cH _ _ he;subst this;exact⟨s.pc,hp,.inr ⟨_,(here rfl).1,(here rfl).2,h⟩⟩
  ·obtain⟨fI,fq,U⟩:=cE hp h;rw [gG] at U;by_cases he:x.den ρ=y.den ρ
   ·have ht:(x.den ρ == y.den ρ)=true:=by simp [he]
    rw [ht] at U;exact⟨fI,fq,.inr ⟨_,(here he).1,(here he).2,U⟩⟩
   ·have hf:(x.den ρ == y.den ρ)=false:=by simp [he]
    rw [hf] at U;obtain⟨jH,jz,Z⟩:=Hn (s:={ s with pc:=fI }) fq U;have gn: ¬y.den ρ=x.den ρ:=fun q=>he q.symm;refine⟨jH,jz,?_⟩;rcases Z with ⟨g1,g2⟩|⟨iP,⟨u',g1⟩,⟨g2,g4⟩,g3⟩
    ·exact .inl ⟨by simp only [lJ,af gn]; exact g1,g2⟩
    ·refine .inr ⟨_,⟨u',by simp only [lJ,af gn]; exact g1⟩,⟨fun n=>?_,by simp only [ax,g4]⟩,g3⟩;simp only [lJ];by_cases hy:y.den ρ=n
     ·rw [ah hy,ah hy,af (fun q=>gn (by rw [hy,q]))]
     ·rw [af hy,af hy,g2 n]
theorem zK {h:Array Obj} {B t:Nat} {eY:List Nat} {ov:List (V×W)} {dt:TypeDesc} (hd:Cz dt (.int .i64)) (n:Int): ∀{ds:List D} {bJ:List MapEntry} {i:Nat},eP E h B t eY ov ds bJ->
 (gv ds (.i n)=none/\D.i n∉ds.map ji/\Instr.findNow dt (.int .i64 n) bJ i=some none/\(∀v,lP ds (.i n) v=ds++ [.p (.i n) v]))\/
 (∃j x e,gv ds (.i n)=some x/\D.i n∈ds.map ji/\bJ[j]?=some e/\ds[j]?=some (.p (.i n) x)/\e.key= .int .i64 n/\(match lJ E.ρ n ov with |some v=>VR E h v e.val|none=>qg E h B t eY (.i n) x e.val)/\
  Instr.findNow dt (.int .i64 n) bJ i=some (some (i+j,e.val))/\(∀n',Instr.sameBits (n'+1) e.key (.int .i64 n)=true)/\(∀v,lP ds (.i n) v=ds.set j (.p (.i n) v)))
 |[],bJ,i,he=>by simp only [eP] at he;subst he;exact .inl ⟨rfl,ad,by simp [Instr.findNow],fun _=>rfl⟩
 |d::ds,bJ,i,he=>by
  obtain⟨e,r,m,rfl,U,Z,h3,h4⟩:=he;obtain⟨g1,g2⟩:=zj (ro:=E.ro) (h:=h) (c:=.int .i64) (.inl ⟨_,rfl⟩) hd (.int .i64 n) (.int .i64 m);have hk:ji d= .i m:=by rw [U]; rfl
  rw [<- Z] at g1 g2;by_cases zx:D.i m=D.i n
  ·have hmn:m=n:=by simpa using zx
   subst hmn;have g1':Instr.sameNow dt (.int .i64 m) e.key=some true:=by rw [g1,decide_eq_true rfl]
   refine .inr ⟨0,FW d,e,by simp only [gv,hk,if_true],by simp [hk],rfl,by rw [<- U]; rfl,Z,h3,by simp [Instr.findNow,g1'],g2 rfl,fun v=>by simp only [lP,hk,if_true,ann]⟩
  ·have g1':Instr.sameNow dt (.int .i64 n) e.key=some false:=by rw [g1,decide_eq_false (fun q=>zx q.symm)]
   have gn: ¬ji d= .i n:=by rw [hk]; exact zx
   rcases zK (i:=i+1) hd n h4 with ⟨q1,q2,q3,q4⟩|⟨j,x,e',q1,q2,q3,q4,q5,q6,q7,q8,q9⟩
   ·refine .inl ⟨by simp only [gv,af gn,q1],?_,by simp [Instr.findNow,g1',q3],fun v=>by simp only [lP,af gn,q4,aR]⟩;simp only [ax,aw,not_or];exact⟨fun q=>gn q.symm,q2⟩
   ·refine .inr ⟨j+1,x,e',by simp only [gv,af gn,q1],by simp only [ax,aw]; exact .inr q2,by simpa using q3,by simpa using q4,q5,q6,?_,q8,fun v=>by simp only [lP,af gn,q9,ano]⟩;simp only [Instr.findNow,g1',q7]; congr 3; omega
theorem IB {ρ:Nat->Int} {n:Int} {v:W}: ∀{ov:List (V×W)},lJ ρ n ov=some v->n∈ov.map fun p=>p.1.den ρ
 |[],h=>by simp [lJ] at h
 |(x,u)::l,h=>by
  simp only [lJ] at h;simp only [ax,aw];split at h
  ·rename_i he; exact .inl he.symm
  ·exact .inr (IB h)
theorem IA {ρ:Nat->Int} {n:Int}: ∀{ov:List (V×W)},lJ ρ n ov=none->n∉ov.map fun p=>p.1.den ρ
 |[],_=>by simp
 |(x,u)::l,h=>by
  simp only [lJ] at h;simp only [ax,aw,not_or];split at h
  ·simp at h
  ·rename_i he; exact⟨fun q=>he q.symm,IA h⟩
theorem Ap.at {ρ:Nat->Int} {ds:List D} {ov:List (V×W)} (h:Ap ρ ds ov) {n:Int} {v:W} (hv:lJ ρ n ov=some v):D.i n∈ds.map ji:=by obtain⟨p,hp,he⟩:=aK.1 (IB hv);rw [<- he];exact h.2.1 p hp
theorem zL [bG] {H:Hp} (r:bN E H w) {id t:Nat} {e:V} {eY:List Nat} {ov:List (V×W)} (Y:H.get id=some (.ur e t eY ov)) :
 Ap E.ρ (dec (e.den E.ρ)).l ov/\∃bJ c',w.heap[(E.θ id).1]?=some (.map bJ c')/\eP E w.heap (E.θ id).1 t eY ov (dec (e.den E.ρ)).l bJ.toList:=
 (r.live id _ Y).2.1
theorem OJ [bG] {tt:TT} (cJ:eB P tt) {s s':St} (r:bN E s.h w) (hp:bT E.ρ s.pc) {ty id t:Nat} {eY:List Nat} {ov:List (V×W)} {m k v:W} {e:V} {um uk:Value} {ok:Bool} (hm:VR E w.heap m um) (hk:VR E w.heap k uk) (mN:EB m s.h=some (id,e,t,eY,ov)) (h:(zS tt ty k ok e ov s).leaf E.ρ=some (v,s')) :
 s'.bE=s.bE/\s'.h=s.h/\bT E.ρ s'.pc/\∃x,(Instr.lookup ty um uk ok).run P w= .ok x w/\VR E w.heap v x:=by
 obtain⟨rfl,Y⟩:=EA mN
 unfold zS at h;split at h
 ·simp [T.leaf] at h
 ·rename_i x ie hmk;obtain⟨kt,et,dt,hu,ya,jX,kO,rfl⟩:=Hq cJ hk hmk;split at h
  ·simp [T.leaf] at h
  ·rename_i z hz;obtain⟨u0,z1,z2⟩:=Ay (P:=P) (w:=w) (E:=E) kO hz;obtain⟨g0,bJ,c',g1,g2⟩:=zL r Y;have hg:=eI (P:=P) g1 ad;simp only [VR] at hm;obtain⟨rfl,hid⟩:=hm;have hf:=zK (i:=0) jX (x.den E.ρ) g2;obtain⟨fI,fq,U⟩:=ye hp h
   cases ho:lJ E.ρ (x.den E.ρ) ov with
   |some v1=>
    rw [ho] at U;have:=bC U;simp only [ak] at this;obtain⟨rfl,rfl⟩:=this;rcases hf with ⟨q1,q2,_,_⟩|⟨j,y,en,q1,q2,q3,_,_,q6,q7,_,_⟩
    ·exact absurd (g0.at ho) q2
    ·rw [ho] at q6;refine⟨rfl,rfl,fq,(if ok then .tuple #[en.val,.bool true] else en.val),?_,?_⟩
     ·cases ok<;>simp [Instr.lookup,run_underlying hu,hg,eJ ya jX,fE ya q7]
     ·cases ok
      ·exact q6
      ·simp only [if_true,VR,cw];exact⟨[en.val,.bool true],rfl,_,_,rfl,q6,_,_,rfl,by simp [SB.den],rfl⟩
   |none=>
    rw [ho] at U;obtain⟨jH,jz,Z⟩:=cE fq U;rw [wC] at Z;simp only [V.den,eZ.den,rQ] at Z;rcases hf with ⟨q1,_,q2,_⟩|⟨j,y,en,q1,_⟩
    ·rw [q1] at Z;have:=bC Z;simp only [ak] at this;obtain⟨rfl,rfl⟩:=this;refine⟨rfl,rfl,jz,(if ok then .tuple #[u0,.bool false] else u0),?_,?_⟩
     ·cases ok<;>simp [Instr.lookup,run_underlying hu,hg,eJ ya jX,fE ya q2,z1]
     ·cases ok
      ·exact z2
      ·simp only [if_true,VR,cw];exact⟨[u0,.bool false],rfl,_,_,rfl,z2,_,_,rfl,by simp [SB.den],rfl⟩
    ·rw [q1] at Z;simp [T.leaf] at Z
theorem yH [bG] {H:Hp} (r:bN E H w) {id:Nat} {o:dP} (Y:H.get id=some o) (ao:dP) (o':Obj)
 (ho: ∀h',h'[(E.θ id).1]?=some o'->fw E w.heap E h'->(∀B key,HdK E w.heap E h' B key)->OR E h' id ao) :
 eS E H w E (H.put id ao) { w with heap:=w.heap.setIfInBounds (E.θ id).1 o' }/\bN E (H.put id ao) { w with heap:=w.heap.setIfInBounds (E.θ id).1 o' }:=by
 have fD:=fm r Y
 have lj: ∀b,b≠(E.θ id).1->({ w with heap:=w.heap.setIfInBounds (E.θ id).1 o' }:World).heap[b]?=w.heap[b]?:=fun b hb=>by
  grind
 refine yR r Y ao ad lj ⟨rfl,rfl,rfl⟩ (ho _ ?_ (j9 r Y lj) fun B key=>r.T8 rfl (fun b _ hn=>lj b fun e=>hn id o Y e.symm) B key)
 grind
theorem eP.set {h:Array Obj} {B t:Nat} {eY:List Nat} {ov iP:List (V×W)} {n:Int} {v:W} {ux:Value} (hx:VR E h v ux) (hv: ∀m,lJ E.ρ m iP=if m=n then some v else lJ E.ρ m ov): ∀{ds:List D} {bJ:List MapEntry} {j:Nat} {e:MapEntry},
 (ds.map ji).Nodup->eP E h B t eY ov ds bJ->bJ[j]?=some e->e.key= .int .i64 n->eP E h B t eY iP ds (bJ.set j { e with key:=.int .i64 n,val:=ux })
 |[],bJ,j,e,_,he,hj,_=>by simp only [eP] at he; subst he; simp at hj
 |d::ds,bJ,0,e,BW,he,hj,hk=>by
  obtain⟨e0,r,m,rfl,U,Z,h3,h4⟩:=he;simp at hj;subst hj;have hm:m=n:=by rw [Z] at hk; simpa using hk
  subst hm;simp only [ann];refine⟨_,r,m,rfl,U,rfl,?_,?_⟩
  ·rw [hv,ah rfl]; exact hx
  ·simp only [ax,amX] at BW;have hk:ji d= .i m:=by rw [U]; rfl
   rw [hk] at BW;exact eP.other hv BW.1 h4
 |d::ds,bJ,j+1,e,BW,he,hj,hk=>by
  obtain⟨e0,r,m,rfl,U,Z,h3,h4⟩:=he;simp only [ano];simp only [ax,amX] at BW;have Yf:ji d= .i m:=by rw [U]; rfl
  have Yg:r[j]?=some e:=by simpa using hj
  refine⟨e0,_,m,rfl,U,Z,?_,eP.set hx hv BW.2 h4 Yg hk⟩
  have gn:m≠n:=by rintro rfl;rw [Yf] at BW;exact BW.1 (eP.CQ h4 Yg hk)
  rw [hv,af gn];exact h3
where
 eP.other {h:Array Obj} {B t:Nat} {eY:List Nat} {ov iP:List (V×W)} {n:Int} {v:W} (hv: ∀m,lJ E.ρ m iP=if m=n then some v else lJ E.ρ m ov): ∀{ds:List D} {bJ:List MapEntry},D.i n∉ds.map ji->eP E h B t eY ov ds bJ->eP E h B t eY iP ds bJ
 |[],_,_,he=>he
 |d::ds,_,hn,⟨e0,r,m,h0,U,Z,h3,h4⟩=>by
  simp only [ax,aw,not_or] at hn;have Yf:ji d= .i m:=by rw [U]; rfl
  rw [Yf] at hn;refine⟨e0,r,m,h0,U,Z,?_,eP.other hv hn.2 h4⟩;rw [hv,af (fun q=>hn.1 (by rw [q]))];exact h3
 eP.CQ {h:Array Obj} {B t:Nat} {eY:List Nat} {ov:List (V×W)} {n:Int}: ∀{ds:List D} {bJ:List MapEntry} {j:Nat} {e:MapEntry},eP E h B t eY ov ds bJ->bJ[j]?=some e->e.key= .int .i64 n->D.i n∈ds.map ji
 |[],bJ,j,e,he,hj,_=>by simp only [eP] at he; subst he; simp at hj
 |d::ds,bJ,0,e,he,hj,hk=>by
  obtain⟨e0,r,m,rfl,U,Z,h3,h4⟩:=he;simp at hj;subst hj;rw [Z] at hk;have hm:m=n:=by simpa using hk
  subst hm;rw [U];simp [ji]
 |d::ds,bJ,j+1,e,he,hj,hk=>by obtain⟨e0,r,m,rfl,U,Z,h3,h4⟩:=he;simp only [ax,aw];exact .inr (eP.CQ h4 (by simpa using hj) hk)
theorem eP.push {h:Array Obj} {B t:Nat} {eY:List Nat} {ov iP:List (V×W)} {n:Int} {v:W} {ux:Value} {c:Nat} {x:D} (hx:VR E h v ux) (hv: ∀m,lJ E.ρ m iP=if m=n then some v else lJ E.ρ m ov): ∀{ds:List D} {bJ:List MapEntry},D.i n∉ds.map ji->eP E h B t eY ov ds bJ->
 eP E h B t eY iP (ds++ [.p (.i n) x]) (bJ++ [{ key:=.int .i64 n,val:=ux,born:=c }])
 |[],bJ,_,he=>by simp only [eP] at he;subst he;refine⟨_,[],n,rfl,rfl,rfl,?_,rfl⟩;rw [hv,ah rfl]; exact hx
 |d::ds,bJ,hn,he=>by
  obtain⟨e0,r,m,rfl,U,Z,h3,h4⟩:=he;simp only [ax,aw,not_or] at hn;have Yf:ji d= .i m:=by rw [U]; rfl
  rw [Yf] at hn;simp only [aR];refine⟨e0,_,m,rfl,U,Z,?_,eP.push hx hv hn.2 h4⟩;rw [hv,af (fun q=>hn.1 (by rw [q]))];exact h3
theorem B4 [bG] {tt:TT} (cJ:eB P tt) {s s':St} (r:bN E s.h w) (hp:bT E.ρ s.pc) {ty id t:Nat} {eY:List Nat} {ov:List (V×W)} {m k x v:W} {e:V} {um uk ux:Value} (hm:VR E w.heap m um) (hk:VR E w.heap k uk) (hx:VR E w.heap x ux) (mN:EB m s.h=some (id,e,t,eY,ov)) (h:(zR tt ty id k x e t eY ov s).leaf E.ρ=some (v,s')) :
 s'.bE=s.bE/\bT E.ρ s'.pc/\v=W.undef/\∃w',(Instr.mapUpdate ty um uk ux).run P w= .ok () w'/\eS E s.h w E s'.h w'/\bN E s'.h w':=by
 obtain⟨rfl,Y⟩:=EA mN
 unfold zR at h;split at h
 ·simp [T.leaf] at h
 ·rename_i a ie hmk;obtain⟨kt,et,dt,hu,ya,jX,kO,rfl⟩:=Hq cJ hk hmk;obtain⟨g0,bJ,c',g1,g2⟩:=zL r Y;have hg:=eI (P:=P) g1 ad;simp only [VR] at hm;obtain⟨rfl,hid⟩:=hm;have hf:=zK (i:=0) jX (a.den E.ρ) g2;obtain⟨fI,fq,U⟩:=Hn hp h;rcases U with ⟨ho,U⟩|⟨iP,⟨u',ho⟩,⟨hv,Lz⟩,U⟩
  ·obtain⟨jH,jz,Z⟩:=cE fq U;rw [wC] at Z;simp only [V.den,eZ.den,rQ] at Z;rcases hf with ⟨q1,q0,q2,q3⟩|⟨j,y,en,q1,_⟩
   ·rw [q1] at Z;have:=bC Z;simp only [ak] at this;obtain⟨rfl,rfl⟩:=this;refine⟨rfl,jz,rfl,_,?_,yH r Y (.ur (.op .u5 e (eD (mY a) (.eg (.i 0)))) t eY ((a,x)::ov)) (.map (bJ.push { key:=.int .i64 (a.den E.ρ),val:=ux,born:=c' }) (c'+1)) ?_⟩
    ·simp [Instr.mapUpdate,run_underlying hu,hg,eJ ya jX,fE ya q2,gy (P:=P) g1]
    ·intro h' hh kp hk
     have pG:dec ((V.op .u5 e (eD (mY a) (.eg (.i 0)))).den E.ρ)=dL (lP (dec (e.den E.ρ)).l (.i (a.den E.ρ)) (.i 0)):=by simp only [eD,V.den,eZ.den,bB,rQ]
     have qH: ∀m,lJ E.ρ m ((a,x)::ov)=if m=a.den E.ρ then some x else lJ E.ρ m ov:=by
      intro m;simp only [lJ];by_cases hm:a.den E.ρ=m
      ·rw [ah hm,ah hm.symm]
      ·rw [af hm,af (fun q=>hm q.symm)]
     simp only [OR];rw [pG,bI,q3];refine⟨⟨?_,fun p hp=>?_,?_⟩,_,_,hh,?_⟩
     ·rw [amT,anK];refine⟨g0.1,ad,fun p hp q hq=>?_⟩;simp only [ax,anr,List.mem_singleton] at hq;rw [hq];intro eq;rw [eq] at hp;exact q0 hp
     ·rw [amT,amC];rcases aw.1 hp with rfl|hp
      ·exact .inr (by simp [ji])
      ·exact .inl (g0.2.1 p hp)
     ·simp only [ax,amX];exact⟨IA ho,g0.2.2⟩
     ·rw [Array.toList_push];exact eP.push (VR.keep kp _ _ hx) qH q0 (g2.keep kp fun _ _=>hk _ _)
   ·rw [q1] at Z;simp [T.leaf] at Z
  ·have:=bC U;simp only [ak] at this;obtain⟨rfl,rfl⟩:=this;rcases hf with ⟨_,q2,_,_⟩|⟨j,y,en,q1,q2,q3,q4,q5,q6,q7,q8,q9⟩
   ·exact absurd (g0.at ho) q2
   ·simp only [ay] at q7
    have hkt:(Instr.keyThatStays (((bJ[j]?).map (·.key)).getD (.int .i64 (a.den E.ρ))) (.int .i64 (a.den E.ρ))).run P w= .ok (.int .i64 (a.den E.ρ)) w:=by have q3':=q3;rw [amD] at q3';simp only [q3',bq,aC,Instr.keyThatStays];rw [ah (q8 9999)];rfl
    refine⟨rfl,fq,rfl,_,?_,yH r Y (.ur e t eY iP) (.map (bJ.modify j fun e=>{ e with key:=.int .i64 (a.den E.ρ),val:=ux }) c') ?_⟩
    ·simp [Instr.mapUpdate,run_underlying hu,hg,eJ ya jX,fE ya q7,hkt,gy (P:=P) g1]
    ·intro h' hh kp hk;simp only [OR];refine⟨⟨g0.1,fun p hp=>?_,?_⟩,_,_,hh,?_⟩
     ·have:p.1∈iP.map (·.1):=aK.2 ⟨p,hp,rfl⟩;rw [Lz] at this;obtain⟨q,hq,he⟩:=aK.1 this;rw [<- he];exact g0.2.1 q hq
     ·have U:(iP.map fun p=>p.1.den E.ρ)=(iP.map (·.1)).map fun x=>x.den E.ρ:=by rw [amQ]; rfl
      rw [U,Lz,amQ];exact g0.2.2
     ·rw [xM bJ j en _ q3];exact eP.set (VR.keep kp _ _ hx) hv g0.1 (g2.keep kp fun _ _=>hk _ _) q3 q5
end
section
variable {P:Program} {E:En} {w:World}
theorem XA [bG] {tt:TT} (cJ:eB P tt) {H:Hp} (r:bN E H w) {t e k:Nat} {i ie:TI} {k1 k2:IntKind} (hi:tt t=some i) (hk:i.kind= .slice e) (kO:tt e=some ie) (hz0:ie.zero.length=ie.size) (xj:0<ie.size) (rI:ie.bytes≠0) (Ek:ie.bytes*k<=140737488355328) (jU:0<k) :
 ∃x w' E',(Instr.makeSlice t (.int k1 k) (.int k2 k)).run P w= .ok x w'/\eS E H w E' (H.new (.cells (dS ie.zero k) e)) w'/\bN E' (H.new (.cells (dS ie.zero k) e)) w'/\VR E' w'.heap (.slice H.fresh 0 k (.rest ie.size)) x:=by
 have fN:=cJ t i hi;have XX:=cJ e ie kO;obtain⟨inf,z,g1,g2,g3,g4,g5⟩:=wz XX;have hz:=eV (E:=E) (h:=w.heap) g5;have wA:z.cells.size=ie.size:=by have:=hz.1.length; simp only [bn] at this; omega
 have hkb:k<=140737488355328:=by refine bk ?_ Ek;exact Nat.le_mul_of_pos_left _ J
 have wn:IntKind.i64.wrap (k:Int)=(k:Int):=by rw [<- kq]; simp only [sj]; rw [ah (by constructor<;>omega)]
 have ai: ∀(q:IntKind) (x:Int) (w:World),(asInt (Value.int q x)).run P w= .ok x w:=fun _ _ _=>rfl
 have gn:z.cells.toList≠[]:=by
  intro hx;have I1:z.cells.size=0:=by have:=congrArg List.length hx; simpa using this
  omega
 have hzz:=uJ z.cells gn k;rw [wA] at hzz;obtain⟨gw,e1⟩ : ∃gw:Array Value,((Array.range (k*inf.size)).map (z.cells[·% z.cells.size]!))=gw:=⟨_,rfl⟩
 have e1':gw.toList=dS z.cells.toList k:=by
  grind
 have e2:cw E w.heap (dS ie.zero k) gw.toList:=by rw [e1']; exact lY hz.1 k
 have e3: ∀u∈gw.toList,u.oneCell'=true:=by rw [e1']; intro u hu; exact hz.2 u (lX hu)
 have gT:gw.size=k*ie.size:=by rw [<- bn,e1',iT,bn,wA]
 refine⟨.slice (some ⟨w.heap.size,0,none⟩) k k,{ w with heap:=w.heap.push (.cells gw e) },E.ext H.fresh (w.heap.size,0) gw.size,?_,?_⟩
 ·have t1: ¬((k:Int)<0):=J
  have t2: ¬((inf.bytes:Int)*(k:Int) > 2 ^ 48):=by
   grind
  have t4: ¬((k:Int) > (k:Int)):=J
  have t5:(askRoom (k*inf.bytes)).run P w= .ok () w:=by
   have: ¬(k*inf.bytes > roomBytes):=by
    unfold roomBytes
    grind
   unfold askRoom;rw [af this];rfl
  have t6:(k:Int).toNat=k:=rfl
  have h0: ¬(k*inf.size=0):=by rw [g2];have:=anI jU xj;omega
  simp only [Instr.makeSlice,Sem.run_bind,run_underlying (ff fN hk),Result.andThen_ok,ai,sizeOf,typeInfo,zeroValue,run_program,g1,g4,Sem.run_pure,newRow,Sem.run_ite,wn,t1,t2,t4,t6,h0,decide_false,anU,aQ,if_false];rw [t5,Result.andThen_ok,e1];rfl
 ·obtain⟨s1,s2⟩:=iN r gw 0 0 e e2 e3 (fun i u hu=>by rw [<- amD]; exact hu) J (w':={ w with heap:=w.heap.push (.cells gw e) }) rfl ⟨rfl,rfl,rfl⟩;refine⟨s1,s2,?_⟩;simp only [VR];refine⟨En.gB _ _ _ _,⟨w.heap.size,0,none⟩,k,rfl,au _,?_⟩;simp only [eC,En.ext_θ_new,En.ext_κ_new]
  grind
theorem OI [bG] {tt:TT} (cJ:eB P tt) {s s':St} (r:bN E s.h w) (hp:bT E.ρ s.pc) {t:Nat} {l c v:W} {lu cu:Value} (Y:VR E w.heap l lu) (hc:VR E w.heap c cu) (h:(Jr tt t l c s).leaf E.ρ=some (v,s')) :
 s'.bE=s.bE/\bT E.ρ s'.pc/\∃x w' E',(Instr.makeSlice t lu cu).run P w= .ok x w'/\eS E s.h w E' s'.h w'/\bN E' s'.h w'/\VR E' w'.heap v x:=by
 unfold Jr at h;split at h
 ·rename_i k n;split at h
  ·rename_i k2 n2;split at h
   ·simp [T.leaf] at h
   ·rename_i hnn;have hnn:=cH _ _ hnn;subst hnn;simp only [VR] at Y hc;subst Y hc;split at h
    ·simp [T.leaf] at h
    ·rename_i i hi;split at h
     ·simp [T.leaf] at h
     ·rename_i o ho;split at h
      ·rename_i e hk;split at h
       ·simp [T.leaf] at h
       ·rename_i ie kO;split at h
        ·simp [T.leaf] at h
        ·rename_i z hz;split at h
         ·rename_i je;obtain⟨lq,xj,rI,wA⟩:=je;obtain⟨fI,fq,U⟩:=cE hp h;split at U
          ·simp [T.leaf] at U
          ·rename_i t1;obtain⟨jH,jz,Z⟩:=cE (s:={ s with pc:=fI }) fq U;split at Z
           ·rename_i t2;split at Z
            ·rename_i v0 h0 hm;have:=bC Z;simp only [ak] at this;obtain⟨rfl,rfl⟩:=this;rw [iq,beq_iff_eq] at t2;simp only [V.den] at t2;rw [t2];obtain⟨x,w',E',q1,q2,q3,q4⟩:=vA (P:=P) cJ r (lu:=.int k 0) (cu:=.int k2 0) (by simp only [VR,V.den]) (by simp only [VR,V.den]) hm
             grind
            ·simp [T.leaf] at Z
           ·rename_i t2;obtain⟨UT,I3,h3⟩:=cE (s:={ s with pc:=jH }) jz Z;split at h3
            ·rename_i t3;have:=bC h3;simp only [ak] at this;obtain⟨rfl,rfl⟩:=this;rw [dU,decide_eq_false_iff_not] at t1;rw [iq,beq_eq_false_iff_ne] at t2;rw [dU,decide_eq_true_eq] at t3;simp only [V.den] at t1 t2 t3;obtain⟨m,hm⟩ : ∃m:Nat,n.den E.ρ=(m:Int):=⟨(n.den E.ρ).toNat,J⟩;rw [hm] at t2 t3 ⊢;have jU:0<m:=J
             have Ek:ie.bytes*m<=140737488355328:=by
              unfold rb at t3
              have U:m<=140737488355328 / ie.bytes:=by
               grind
              exact bk (Nat.mul_le_mul_left _ U) (Nat.mul_div_le _ _)
             obtain⟨x,w',E',q1,q2,q3,q4⟩:=XA (P:=P) (k1:=k) (k2:=k2) cJ r hi hk kO wA xj rI Ek jU;have hρ:=q2.ρ
             have hd:dec ((V.op .rep n z).den E'.ρ)=dL (List.replicate m (dec (z.den E'.ρ))):=by
              have:n.den E'.ρ=(m:Int):=by rw [hρ]; exact hm
              simp only [V.den,eZ.den,bB,this,bd]
             have hlen:(dec ((V.op .rep n z).den E'.ρ)).l.length=m:=by rw [hd,bI,am1]
             have hwz:oI (rowOf o) (dec (z.den E'.ρ)):=tM hz
             have BX:(cM E'.ρ (.op .rep n z) o []).length=(dS ie.zero m).length:=by unfold cM;rw [cF (j6 _),hlen,iT,wA,lq]
             have aeJ: ∀(q:Nat) (us:List Value),cw E' w'.heap (dS ie.zero q) us->cw E' w'.heap (bD E'.ρ (rowOf o) [] (List.replicate q (dec (z.den E'.ρ))) 0) us:=by
              intro q
              induction q with
              |zero=>intro us h; exact h
              |succ q ih=> intro us h;simp only [dS] at h;obtain⟨us1,us2,rfl,a,b⟩:=cw.split h;simp only [aom,bD,dY];rw [kx _ 1 0];refine cw.append ?_ (ih _ b);rw [fy];simp only [V.den,bB];exact tN a hz
             have r2:=CP (e1:=.op .rep n z) (t:=o) q3 ⟨by rw [hd,bI],fun d uI=>by
              rw [hd,bI] at uI;rw [aoB uI]
              exact hwz,fun hq=>by rw [hq] at hlen; simp at hlen; omega⟩ BX (fun us hu=>by
              unfold cM;rw [hd,bI]
              exact aeJ m us hu)
             refine⟨rfl,I3,x,w',E',q1,q2.right (wg rfl rfl fun _=>rfl),r2,?_⟩;simp only [VR] at q4 ⊢;obtain⟨p1,a,cap,p2,p3,p4⟩:=q4;refine⟨p1,m,a,cap,by rw [cl,hlen],p2,p3,?_⟩
             grind
            ·simp [T.leaf] at h3
         ·simp [T.leaf] at h
      ·simp [T.leaf] at h
  ·simp [T.leaf] at h
 ·simp [T.leaf] at h
end
theorem J0 {α β:Type} (f:α->β) (xs:Array α):xs.map f=(xs.toList.map f).toArray:=by
 grind
def lI (P:Program) (R:Value->World->Prop):Result Next->Prop
 | .ok (.value u) w'=>R u w'
 | .ok (.enter f args) w'=>Calls P f args w' fun e w''=> ∃u,e= .returned u/\R u w''
 |_=>False
def jE (P:Program) (g:FuncId) (vals:Array Value) (w:World) (R:Value->World->Prop):Prop:=lI P R ((callFunc g vals).run P w)
def ik [bG] (P:Program) (g:FuncId) (f:List W->St->T (W×St)):Prop:=
 ∀(args:List W) (s:St) (E:En) (w:World) (vals:List Value) (v:W) (s':St),bN E s.h w->cw E w.heap args vals->bT E.ρ s.pc->(f args s).leaf E.ρ=some (v,s')->
  s'.bE=s.bE/\bT E.ρ s'.pc/\jE P g vals.toArray w (MM E s w v s')
theorem zm {E:En} {h:Array Obj} {k:Nat} {e:V} {i:Nat} (he:e.den E.ρ=(i:Int)): ∀(ks:List IntKind) (j:Nat),
 cw E h (va k e ks j) ((ks.zipIdx j).map fun p=> .int p.1 (E.ρ (1000+i*64+(k*8+p.2))))
 |[],j=>by simp [va,cw]
 |kd::ks,j=>by simp only [va,List.zipIdx_cons,ax];rw [bO];refine⟨_,_,rfl,?_,zm he ks (j+1)⟩;simp only [VR,V.den,he,bd]
theorem OM {P:Program} {E:En} {w:World} {tt:TT} (cJ:eB P tt) {pc:List (SB×Bool)} (hp:bT E.ρ pc) {t k:Nat} {ks:List IntKind} {ix v:W} {u ui:Value} (hx:VR E w.heap (.wy k ks) u) (zy:VR E w.heap ix ui)
 (h:Js tt pc t k ks ix=some v): ∃r,(Instr.indexAt t u ui).run P w= .ok r w/\VR E w.heap v r:=by
 unfold Js at h;split at h
 ·rename_i kd e;split at h
  ·rename_i ti fN;split at h
   ·rename_i el hk;have hu:=ff (cJ t ti fN) hk;split at h
    ·rename_i s hs;simp only [iz,aO] at hs;obtain⟨ie,kO,rfl⟩:=hs;split at h
     ·rename_i hc;split at h
      ·rename_i U Z;simp at h;subst h;have U:=gD hp U;have Z:=gD hp Z;rw [dU,decide_eq_false_iff_not] at U;rw [dU,decide_eq_true_eq] at Z;simp only [V.den,ang] at U Z;simp only [VR] at hx zy;subst zy;rcases hx with ⟨⟨x,cap,rfl⟩,h0⟩|⟨b,o,n,cap,rfl,g1,g2,g3,g4⟩
       ·omega
       ·obtain⟨i,hi⟩ : ∃i:Nat,e.den E.ρ=(i:Int):=⟨(e.den E.ρ).toNat,J⟩;have uH:i<n:=J
        refine⟨.pointer (some ⟨b,o+i*ie.size,none⟩),?_,?_⟩
        ·rw [hi];simp [Instr.indexAt,asIntOf,run_underlying hu,ez (cJ el ie kO),uH,e8]
        ·simp only [VR];refine⟨b,_,_,rfl,g3,zm hi ks 0,?_,?_⟩
         ·intro j u hj
          grind
         ·intro u hu';rw [aK] at hu';obtain⟨p,_,rfl⟩:=hu';rfl
      grind
     grind
    grind
   grind
  grind
 grind
def qOp (q:Bool):BinOp:=match q with
 |true=> .quo
 |false=> .rem
def N! (q:Bool) (k:IntKind) (x y:Int):Int:=match q with
 |true=>k.wrap (x.tdiv y)
 |false=>x.tmod y
theorem N' {E:En} {s s':St} {q:Bool} {k:IntKind} {e d:V} {v:W} (hp:bT E.ρ s.pc) (h:(aef s q k e d).leaf E.ρ=some (v,s')) :
 s'.bE=s.bE/\s'.h=s.h/\bT E.ρ s'.pc/\d.den E.ρ≠0/\∀h,VR E h v (.int k (N! q k (e.den E.ρ) (d.den E.ρ))):=by
 unfold aef at h;obtain⟨ea,fA,h3⟩:=cE hp h;rw [gG] at h3;split at h3
 ·grind [T.leaf]
 ·rename_i he;simp only [T.leaf,ag,ak] at h3;obtain⟨rfl,rfl⟩:=h3;simp only [V.den,beq_eq_false_iff_ne,ne_eq] at he;exact⟨rfl,rfl,fA,he,fun h=>by cases q<;>simp only [VR,V.den,N!]⟩
theorem Ts {E:En} {h:Array Obj} {op:BinOp} {a b:W} {q:Bool} {k:IntKind} {e d:V} (hr:NO op a b=some (q,k,e,d)) {u u':Value} (ha:VR E h a u) (hb:VR E h b u') :
 op=qOp q/\u= .int k (e.den E.ρ)/\u'= .int k (d.den E.ρ):=by
 unfold NO at hr;split at hr
 ·rename_i q' hq
  have tY:op=qOp q':=by split at hq<;>simp only [ag,reduceCtorEq] at hq<;>subst hq<;>rfl
  cases a with
  |int k1 e1=>
   cases b with
   |int k2 e2=>
    simp only at hr;split at hr
    ·simp at hr
    ·split at hr
     ·rename_i hc;simp only [ag,ak] at hr;obtain⟨rfl,rfl,rfl,rfl⟩:=hr;simp only [VR] at ha hb;exact⟨tY,ha,by rw [hb,hc]⟩
     ·simp at hr
   |_=>simp at hr
  |_=>simp at hr
 ·simp at hr
theorem F2 {E:En} {X1:Array Obj} {s s':St} {h:Option W} {hh:Option Value} {v:W} {k:Option W->St->T (W×St)} (hp:bT E.ρ s.pc) (ho:gp E X1 h hh) (H:(HZ s h k).leaf E.ρ=some (v,s')) :
 ∃ea h',bT E.ρ ea/\gp E X1 h' hh/\(k h' { s with pc:=ea }).leaf E.ρ=some (v,s'):=by
 unfold HZ at H;split at H
 ·rename_i e;obtain⟨ea,fA,h3⟩:=cE hp H;rw [gG] at h3;split at h3
  ·rename_i he;simp only [V.den,beq_iff_eq] at he;obtain⟨u,rfl,hu⟩:=ho;simp only [VR] at hu;refine⟨ea,some (.int .i64 (.lit 0)),fA,?_,h3⟩;exact⟨u,rfl,by simp only [VR,V.den]; rw [hu,he]⟩
  ·simp [T.leaf] at h3
 ·exact⟨s.pc,_,hp,ho,H⟩
def im [bG] (P:Program) (call:ek):Prop:= ∀g,ik P g (call g)
theorem oV.next {P:Program} {o:Oper} {a:Act} {w:World} {R:Value->World->Prop} (h:lI P R ((execOp a.eval o).run P w)):oV P o a w R:=by
 intro K Q hk;unfold Oper.wp;generalize (execOp a.eval o).run P w=r at h
 cases r with
 |halt x w'=>exact h.elim
 |ok n w'=>
  cases n<;>first
   |exact h.elim
   |exact hk _ _ h
   |(exact Calls.mono h fun e w'' ⟨u,he,hr⟩=>by subst he; exact hk _ _ hr)
theorem Fm {tt:TT} {t n:Nat} {ix:W} {e:V} (h:Sy tt t ix=some (n,e)): ∃k ti el ie,ix= .int k e/\tt t=some ti/\ti.kind= .array n el/\tt el=some ie/\ie.size=1/\ie.agg=false:=by
 unfold Sy at h;split at h
 all_goals grind
section
variable {P:Program} {E:En} {w:World} {s s':St} {o:Oper} {a:Act} {v:W}
theorem JA [bG] {tt:TT} (cJ:eB P tt) (r:bN E s.h w) (hp:bT E.ρ s.pc) {b:Builtin} {ts:List Nat} {args:List W} {vals:List Value} (hv:cw E w.heap args vals) (ty:Nat) (cs:Array Bool)
 (h:(wJ tt s b ts args).leaf E.ρ=some (v,s')):s'.bE=s.bE/\bT E.ρ s'.pc/\∃u w',(builtin b ts.toArray ty cs vals.toArray).run P w= .ok (.value u) w'/\MM E s w v s' u w':=by
 unfold wJ at h;split at h
 ·rename_i t x;obtain⟨e1,rfl⟩:=gK h;rw [bO] at hv;obtain⟨u,vs,rfl,hx,mM⟩:=hv;rw [fP] at mM;subst mM;obtain⟨y,U,Z⟩:=YA (ty:=ty) cJ r hx e1;exact⟨rfl,hp,y,w,by simp [builtin,U],E,eS.refl _ _ _,r,Z⟩
 ·rename_i t t2 id lo n t' y;rw [bO] at hv;obtain⟨u,vs,rfl,hx,mM⟩:=hv;rw [bO] at mM;obtain⟨u2,vs,rfl,hy,G4⟩:=mM;rw [fP] at G4;subst G4;split at h
  ·rename_i hz;obtain⟨q1,q2,z,w',E',U,Z,h3,h4⟩:=L8 (ty:=ty) cJ r hp hz hx hy h;exact⟨q1,q2,z,w',by simp [builtin,U],E',Z,h3,h4⟩
  grind [T.leaf]
 ·rename_i t t2 x y _;rw [bO] at hv;obtain⟨u,vs,rfl,hx,mM⟩:=hv;rw [bO] at mM;obtain⟨u2,vs,rfl,hy,G4⟩:=mM;rw [fP] at G4;subst G4;split at h
  ·rename_i Y';obtain⟨q1,q2,z,w',E',U,Z,h3,h4⟩:=JC (ty:=ty) cJ r hp hx hy (fun hd=>by rw [hd,anU] at Y'; exact Ln hx Y') h;exact⟨q1,q2,z,w',by simp [builtin,U],E',Z,h3,h4⟩
  obtain⟨H,e1,rfl⟩:=py h;obtain⟨z,w',E',U,Z,h3,h4⟩:=L7 (ty:=ty) cJ r hx hy e1;exact⟨rfl,hp,z,w',by simp [builtin,U],E',Z,h3,h4⟩
 ·rename_i t ts' m k;rw [bO] at hv;obtain⟨u,vs,rfl,hx,mM⟩:=hv;rw [bO] at mM;obtain⟨u2,vs,rfl,hy,G4⟩:=mM;rw [fP] at G4;subst G4;split at h
  ·rename_i id e t' mN
   obtain⟨q1,q2,rfl,w',U,Z,h3⟩:=Up (ts:=ts') cJ r hx hy mN h ty;exact⟨q1,by rw [q2]; exact hp,.tuple #[],w',by simp [builtin,U],E,Z,h3,by simp only [W.undef,VR,cw]; exact⟨[],rfl,rfl⟩⟩
  obtain⟨ea,fA,h⟩:=qy hp h;obtain⟨H,e1,rfl,rfl⟩:=yQ h;obtain⟨w',U,Z,h3⟩:=L6 (ts:=ts') cJ fA r hx hy e1 ty;exact⟨rfl,fA,.tuple #[],w',by simp [builtin,U],E,Z,h3,by simp only [W.undef,VR,cw]; exact⟨[],rfl,rfl⟩⟩
 ·rename_i t id n t';rw [bO] at hv;obtain⟨u,vs,rfl,hx,mM⟩:=hv;rw [fP] at mM;subst mM;obtain⟨q1,q2,rfl,w',E',U,Z,h3⟩:=B5 (ty:=ty) cJ r hp (PB hx) h;exact⟨q1,q2,.tuple #[],w',by simp [builtin,U],E',Z,h3,by simp only [W.undef,VR,cw]; exact⟨[],rfl,rfl⟩⟩
 ·rename_i t id lo n t';rw [bO] at hv;obtain⟨u,vs,rfl,hx,mM⟩:=hv;rw [fP] at mM;subst mM;obtain⟨q1,q2,rfl,w',E',U,Z,h3⟩:=B5 (ty:=ty) cJ r hp hx h;exact⟨q1,q2,.tuple #[],w',by simp [builtin,U],E',Z,h3,by simp only [W.undef,VR,cw]; exact⟨[],rfl,rfl⟩⟩
 ·rename_i t x _ _;obtain⟨H,e1,rfl,rfl⟩:=yQ h;rw [bO] at hv;obtain⟨u,vs,rfl,hx,mM⟩:=hv;rw [fP] at mM;subst mM;obtain⟨w',U,Z,h3⟩:=OU (ty:=ty) cJ r hx e1;exact⟨rfl,hp,.tuple #[],w',by simp [builtin,U],E,Z,h3,by simp only [W.undef,VR,cw]; exact⟨[],rfl,rfl⟩⟩
 ·rename_i k e xs;rw [bO] at hv;obtain⟨u,vs,rfl,hx,mM⟩:=hv;simp only [VR] at hx;subst hx;obtain⟨q1,q2,q3,u,q4,q5⟩:=nk (P:=P) (w:=w) hp mM h;refine⟨q2,q3,u,w,?_,E,by rw [q1]; exact eS.refl _ _ _,by rw [q1]; exact r,q5⟩;simp only [aQ,if_false] at q4;simp [builtin,Builtin.min_,q4]
 ·rename_i k e xs;rw [bO] at hv;obtain⟨u,vs,rfl,hx,mM⟩:=hv;simp only [VR] at hx;subst hx;obtain⟨q1,q2,q3,u,q4,q5⟩:=nk (P:=P) (w:=w) hp mM h;refine⟨q2,q3,u,w,?_,E,by rw [q1]; exact eS.refl _ _ _,by rw [q1]; exact r,q5⟩;simp only [if_true] at q4;simp [builtin,Builtin.max_,q4]
 grind [T.leaf]
theorem Uq [bG] {tt:TT} (cJ:eB P tt) {call:ek} (hc:im P call) (r:bN E s.h w) (sr:SR E w.heap s.bE a) (hp:bT E.ρ s.pc) {c:Call} (ho:o.op= .call c)
 (h:(Jz tt call s c).leaf E.ρ=some (v,s')):jO P E s o a w v s':=by
 unfold Jz at h;split at h
 ·grind [T.leaf]
 ·rename_i args ab1;have hv:=Ji sr ab1;have ai3:c.args.map a.eval=(c.args.toList.map a.eval).toArray:=J0 _ _;split at h
  ·rename_i b aeU;obtain⟨q1,q2,u,w',q3,q4⟩:=JA cJ r hp hv o.type (c.args.map fun| .const _=>true|_=>false) h;refine⟨q1,q2,oV.value ?_ q4⟩;simp only [execOp,ho,resolve,aeU,Sem.run_bind,Sem.run_pure,Result.andThen_ok,invoke,ai3];exact q3
  ·rename_i f aeU;split at h
   ·rename_i g fs cs hf;have hfv:=gf sr hf;simp only [VR] at hfv;obtain⟨us,ws,he,U,Z⟩:=hfv;obtain⟨q1,q2,q3⟩:=hc g _ s E w _ v s' r ((U.append hv).append Z) hp h;refine⟨q1,q2,oV.next ?_⟩;unfold jE at q3;simp only [execOp,ho,resolve,aeU,Sem.run_bind,he,Deferred.ofValue,Sem.run_pure,Result.andThen_ok,invoke,ai3]
    grind
   grind [T.leaf]
  grind [T.leaf]
theorem b? [bG] {α:Type} {E:En} {h:Array Obj} {v:W} {u:Value} {s:St} {k:W->St->T α} {r:α} (hp:bT E.ρ s.pc) (hv:VR E h v u) (Y:(c_ v s k).leaf E.ρ=some r) :
 ∃v' ea,bT E.ρ ea/\VR E h v' u/\(k v' { s with pc:=ea }).leaf E.ρ=some r:=by
 unfold c_ at Y;split at Y
 ·split at Y
  ·exact⟨_,s.pc,hp,hv,Y⟩
  ·obtain⟨fI,fq,U⟩:=cE hp Y;refine⟨_,fI,fq,?_,U⟩;simp only [VR,SB.den] at *;exact hv
 ·exact⟨_,s.pc,hp,hv,Y⟩
theorem RQ [bG] {tt:TT} (cJ:eB P tt) {call:ek} (hc:im P call) (r:bN E s.h w) (sr:SR E w.heap s.bE a) (hp:bT E.ρ s.pc) (h:(Jq tt call s o.op).leaf E.ρ=some (v,s')):jO P E s o a w v s':=by
 obtain⟨dst,op,type,pos,after,guard⟩:=o;simp only at h;cases op<;>simp only [Jq] at h<;>first |(simp [T.leaf] at h; done)|skip
 case move x=>
  obtain⟨u,U,Z⟩:=gA sr h;have:=bC Z;simp only [ak] at this;obtain⟨rfl,rfl⟩:=this;exact jO.pure hp r (u:=a.eval x) rfl U
 case assign x=>
  obtain⟨u,U,Z⟩:=gA sr h;have:=bC Z;simp only [ak] at this;obtain⟨rfl,rfl⟩:=this;exact jO.pure hp r (u:=a.eval x) rfl U
 case pick c x y=>
  obtain⟨cv,U,Z⟩:=gA sr h;split at Z
  ·rename_i cb;obtain⟨ea,fA,h3⟩:=cE hp Z;simp only [VR] at U;cases RC:cb.den E.ρ<;>rw [RC] at U h3
   ·simp only [aQ,if_false] at h3;obtain⟨u,h4,h5⟩:=gA (s:={ s with pc:=ea }) sr h3;have:=bC h5;simp only [ak] at this;obtain⟨rfl,rfl⟩:=this;exact⟨rfl,fA,oV.value (u:=a.eval y) (by simp [execOp,U,asBool]) ⟨E,eS.refl _ _ _,r,h4⟩⟩
   ·simp only [if_true] at h3;obtain⟨u,h4,h5⟩:=gA (s:={ s with pc:=ea }) sr h3;have:=bC h5;simp only [ak] at this;obtain⟨rfl,rfl⟩:=this;exact⟨rfl,fA,oV.value (u:=a.eval x) (by simp [execOp,U,asBool]) ⟨E,eS.refl _ _ _,r,h4⟩⟩
  ·simp [T.leaf] at Z
 case alloc t=>
  split at h
  ·rename_i i hi;have:=bC h;simp only [ak] at this;obtain⟨rfl,rfl⟩:=this;obtain⟨inf,z,g1,g2,g3,g4,g5⟩:=wz (cJ t i hi);have hz:=eV (E:=E) (h:=w.heap) g5;obtain⟨s1,s2⟩:=iN r z.cells 0 0 t hz.1 hz.2 (fun i u hu=>by rw [<- amD]; exact hu) J (w':={ w with heap:=w.heap.push (.cells z.cells t) }) rfl ⟨rfl,rfl,rfl⟩;exact jO.heap hp (u:=.pointer (some ⟨w.heap.size,0,none⟩)) (by simp [execOp,Instr.alloc,zeroValue,typeInfo,g1,g4,newVar,newRow]) s1 s2 (yT r _ _ 0)
  ·simp [T.leaf] at h
 case box t x=>
  obtain⟨u,U,Z⟩:=gA sr h;split at Z
  ·rename_i uB;have:=bC Z;simp only [ak] at this;obtain⟨rfl,rfl⟩:=this;have MU:=U.cells uB;obtain⟨s1,s2⟩:=iN r (a.eval x).cells 0 0 t MU (MU.rX uB) (fun i u hu=>by rw [<- amD]; exact hu) J (w':={ w with heap:=w.heap.push (.cells (a.eval x).cells t) }) rfl ⟨rfl,rfl,rfl⟩;exact jO.heap hp (u:=.pointer (some ⟨w.heap.size,0,none⟩)) (by simp [execOp,Instr.box,newVar,newRow]) s1 s2 (yT r _ _ 0)
  ·simp [T.leaf] at Z
 case build t parts=>
  split at h
  ·rename_i ps hps;obtain⟨e1,rfl⟩:=gK h;have hpr:=yg sr hps;obtain⟨x,U,Z⟩:=OW (w:=w) (ps:=parts.map fun p=>(p.1,a.eval p.2)) cJ (by simpa using hpr) e1;exact jO.pure hp r (u:=x) (by simp [execOp,U]) Z
  ·simp [T.leaf] at h
 case buildSlice t len parts=>
  split at h
  ·rename_i ps hps;obtain⟨H,e1,rfl⟩:=py h;have hpr:=yg sr hps;obtain⟨x,w',E',U,Z,h3,h4⟩:=Cq (ps:=parts.map fun p=>(p.1,a.eval p.2)) cJ r (by simpa using hpr) e1;exact jO.heap hp (u:=x) (by simp [execOp,U]) Z h3 h4
  ·simp [T.leaf] at h
 case makeSlice t l c=>
  obtain⟨u,U,Z⟩:=gA sr h;split at Z
  ·rename_i cv hc;split at Z
   ·rename_i q hq;obtain⟨H,e1,rfl⟩:=py Z;simp only [ag] at e1;subst e1;obtain⟨x,w',E',g1,g2,g3,g4⟩:=vA cJ r U (gf sr hc) hq;exact jO.heap hp (u:=x) (by simp [execOp,g1]) g2 g3 g4
   ·obtain⟨q1,q2,x,w',E',g1,g2,g3,g4⟩:=OI cJ r hp U (gf sr hc) Z;exact⟨q1,q2,oV.value (by simp [execOp,g1]) ⟨E',g2,g3,g4⟩⟩
  ·simp [T.leaf] at Z
 case insert t m k x=>
  obtain⟨u,U,Z⟩:=gA sr h;split at Z
  ·rename_i kv xv hk hx;split at Z
   ·obtain⟨q1,q2,rfl,w',E',g1,g2,g3⟩:=Ht (P:=P) cJ r hp U (gf sr hk) (gf sr hx) Z;exact⟨q1,q2,oV.skip (by simp [execOp,g1]) ⟨E',g2,g3,jY⟩⟩
   split at Z
   ·rename_i mN
    obtain⟨q1,q2,rfl,w',g1,g2,g3⟩:=B4 (P:=P) cJ r hp U (gf sr hk) (gf sr hx) mN Z;exact⟨q1,q2,oV.skip (by simp [execOp,g1]) ⟨E,g2,g3,jY⟩⟩
   obtain⟨ea,fA,Z⟩:=qy hp Z;obtain⟨H,e1,rfl,rfl⟩:=yQ Z;obtain⟨w',g1,g2,g3⟩:=vz cJ fA r U (gf sr hk) (gf sr hx) e1;exact⟨rfl,fA,oV.skip (by simp [execOp,g1]) ⟨E,g2,g3,jY⟩⟩
  ·simp [T.leaf] at Z
 case load t x=>
  obtain⟨u,U,Z⟩:=gA sr h;split at Z
  ·obtain⟨q1,q2,q3,y,b,off,g1,g2,g3⟩:=OL cJ r hp U Z;exact⟨q1,q3,oV.value (u:=y) (by simp [execOp,Instr.loadAt,g1,Instr.sureAddr,g2]) ⟨E,by rw [q2]; exact eS.refl _ _ _,by rw [q2]; exact r,g3⟩⟩
  obtain⟨e1,rfl⟩:=gK Z;obtain⟨y,b,off,g1,g2,g3⟩:=Bf cJ r U e1;exact jO.pure hp r (u:=y) (by simp [execOp,Instr.loadAt,g1,Instr.sureAddr,g2]) g3
 case store t x y=>
  obtain⟨u,U,Z⟩:=gA sr h;split at Z
  ·rename_i yv hy;obtain⟨yv',ea,fA,Oc,Z⟩:=b? hp (gf sr hy) Z;split at Z
   ·obtain⟨q1,q2,rfl,w',E',g1,g2,g3⟩:=L1 cJ (s:={ s with pc:=ea }) r fA U Oc Z;exact⟨q1,q2,oV.skip (by simp [execOp,g1]) ⟨E',g2,g3,jY⟩⟩
   obtain⟨H,e1,rfl,rfl⟩:=yQ Z;obtain⟨w',g1,g2,g3⟩:=OE cJ r U Oc e1;exact⟨rfl,fA,oV.skip (by simp [execOp,g1]) ⟨E,g2,g3,jY⟩⟩
  ·simp [T.leaf] at Z
 case nilCheck x=>
  obtain⟨u,U,Z⟩:=gA sr h;split at Z
  ·have:=bC Z;simp only [ak] at this;obtain⟨rfl,rfl⟩:=this;have RH:=U;simp only [VR] at U;exact jO.pure hp r (u:=a.eval x) (by simp [execOp,U.1]) RH
  ·have:=bC Z;simp only [ak] at this;obtain⟨rfl,rfl⟩:=this;have RH:=U;simp only [VR] at U;obtain⟨b,off,us,hu,_⟩:=U;exact jO.pure hp r (u:=a.eval x) (by simp [execOp,hu]) RH
  ·have:=bC Z;simp only [ak] at this;obtain⟨rfl,rfl⟩:=this;have RH:=U;simp only [VR] at U;obtain⟨_,k,_,hu⟩:=U;exact jO.pure hp r (u:=a.eval x) (by simp [execOp,hu]) RH
  ·simp [T.leaf] at Z
 case binOp bop t x y yt=>
  obtain⟨u,U,Z⟩:=gA sr h;split at Z
  ·rename_i yv hy;have Oc:=gf sr hy;split at Z
   ·rename_i xs;simp only [VR] at U;obtain⟨us,BS,U⟩:=U;split at Z
    ·rename_i ys;simp only [VR] at Oc;obtain⟨vs,G5,Oc⟩:=Oc;split at Z
     ·rename_i c UZ;have:=bC Z;simp only [ak] at this;obtain⟨rfl,rfl⟩:=this;obtain⟨g1,g2,g3⟩:=EM (w:=w) cJ U Oc UZ .eql x y;exact jO.pure hp r (u:=.bool (c.den E.ρ)) (by simp [execOp,BS,G5,g1,g2]) (by simp only [VR])
     ·simp [T.leaf] at Z
    ·rename_i ys;simp only [VR] at Oc;obtain⟨vs,G5,Oc⟩:=Oc;split at Z
     ·rename_i c UZ;have:=bC Z;simp only [ak] at this;obtain⟨rfl,rfl⟩:=this;obtain⟨g1,g2,g3⟩:=EM (w:=w) cJ U Oc UZ .neq x y;exact jO.pure hp r (u:=.bool (!(c.den E.ρ))) (by simp [execOp,BS,G5,g1,g3]) (by simp only [VR,mZ])
     ·simp [T.leaf] at Z
    ·simp [T.leaf] at Z
   ·split at Z
    ·rename_i e hna;obtain⟨q1,q2,q3,y',g1,g2,g3,g4⟩:=T! (P:=P) (w:=w) cJ hna U Oc hp Z;exact⟨q1,q3,oV.value (u:=y') (by simp [execOp,vD (P:=P) (w:=w) g3 g4,g1]) ⟨E,by rw [q2]; exact eS.refl _ _ _,by rw [q2]; exact r,g2⟩⟩
    split at Z
    ·rename_i qq k e d hrl;obtain⟨rfl,Od,Rm⟩:=Ts hrl U Oc;obtain⟨q1,q2,q3,gn,q4⟩:=N' hp Z;refine⟨q1,q3,oV.value (u:=.int k (N! qq k (e.den E.ρ) (d.den E.ρ))) (w':=w) ?_ ⟨E,by rw [q2]; exact eS.refl _ _ _,by rw [q2]; exact r,q4 _⟩⟩;cases qq<;>simp [execOp,Od,Rm,binOp,Op.intDiv,gn,eqGuard,N!,qOp]
    split at Z
    ·rename_i x' y' hsp;obtain⟨q1,q2,q3,⟨y'',g1,g2⟩,g3,g4⟩:=Uj (P:=P) (w:=w) (t:=t) hp U Oc hsp Z;exact⟨q1,q3,oV.value (u:=y'') (by simp [execOp,vD (P:=P) (w:=w) g3 g4,g1]) ⟨E,by rw [q2]; exact eS.refl _ _ _,by rw [q2]; exact r,g2⟩⟩
    ·obtain⟨e1,rfl⟩:=gK Z;obtain⟨⟨y',g1,g2⟩,g3,g4⟩:=YC (w:=w) cJ U Oc e1;exact jO.pure hp r (u:=y') (by simp [execOp,vD (P:=P) (w:=w) g3 g4,g1]) g2
  ·simp [T.leaf] at Z
 case unOp uop t x=>
  obtain⟨u,U,Z⟩:=gA sr h;obtain⟨e1,rfl⟩:=gK Z;obtain⟨y,g1,g2⟩:=aao (P:=P) (w:=w) U e1;exact jO.pure hp r (u:=y) (by simp [execOp,g1]) g2
 case convert sT dT x=>
  obtain⟨u,U,Z⟩:=gA sr h;split at Z
  ·obtain⟨q1,q2,y,w',E',g1,g2,g3,g4⟩:=OV (P:=P) cJ r hp U Z;exact⟨q1,q2,oV.value (u:=y) (by simp [execOp,g1]) ⟨E',g2,g3,g4⟩⟩
  obtain⟨H,e1,rfl⟩:=py Z;obtain⟨y,w',E',g1,g2,g3,g4⟩:=zZ cJ r U e1;exact jO.heap hp (u:=y) (by simp [execOp,g1]) g2 g3 g4
 case makeFunc fn fs cs=>
  split at h
  ·rename_i f c hf MV;have:=bC h;simp only [ak] at this;obtain⟨rfl,rfl⟩:=this;have U:=Ji sr hf;have Z:=Ji sr MV;refine jO.pure hp r (u:=.func fn (fs.map a.eval) (cs.map a.eval)) (by simp [execOp,Instr.makeFunc]) ?_;simp only [VR];have m1:fs.map a.eval=(fs.toList.map a.eval).toArray:=J0 _ _;have m2:cs.map a.eval=(cs.toList.map a.eval).toArray:=J0 _ _;exact⟨_,_,by rw [m1,m2],U,Z⟩
  ·simp [T.leaf] at h
 case makeMap t res=>
  split at h
  ·split at h
   ·rename_i m hm;split at h
    ·have:=bC h;simp only [ak] at this;obtain⟨rfl,rfl⟩:=this
     obtain⟨s1,s2⟩:=pD r (.map #[] 0) (.ur (.eg (.i 0)) (m-100) (Yz tt t) []) 0 (w':={ w with heap:=w.heap.push (.map #[] 0) }) rfl ⟨rfl,rfl,rfl⟩ (by
      simp only [OR,En.ext_θ_new]
      exact⟨⟨by simp [V.den,bB,D.l],ad,ad⟩,#[],0,ad,by simp [eP,V.den,bB,D.l]⟩)
     exact jO.heap hp (u:=.map (some w.heap.size)) (by simp [execOp,Instr.makeMap]) s1 s2 (by simp only [VR,En.ext_θ_new]; exact⟨trivial,En.gB _ _ _ _⟩)
    have:=bC h;simp only [ak] at this;obtain⟨rfl,rfl⟩:=this
    obtain⟨s1,s2⟩:=pD r (.map #[] 0) (.jT (.eg (.i 0)) m) 0 (w':={ w with heap:=w.heap.push (.map #[] 0) }) rfl ⟨rfl,rfl,rfl⟩ (by
     simp only [OR,En.ext_θ_new]
     exact⟨#[],0,ad,by simp [jW,V.den,bB,D.l]⟩)
    exact jO.heap hp (u:=.map (some w.heap.size)) (by simp [execOp,Instr.makeMap]) s1 s2 (by simp only [VR,En.ext_θ_new]; exact⟨trivial,En.gB _ _ _ _⟩)
   have:=bC h;simp only [ak] at this;obtain⟨rfl,rfl⟩:=this
   obtain⟨s1,s2⟩:=pD r (.map #[] 0) (.map [] 1) 0 (w':={ w with heap:=w.heap.push (.map #[] 0) }) rfl ⟨rfl,rfl,rfl⟩ (by
    simp only [OR,En.ext_θ_new]
    exact⟨#[],0,ad,by simp [eK],rfl,rfl⟩)
   exact jO.heap hp (u:=.map (some w.heap.size)) (by simp [execOp,Instr.makeMap]) s1 s2 (by simp only [VR,En.ext_θ_new]; exact⟨trivial,En.gB _ _ _ _⟩)
  ·simp [T.leaf] at h
 case slice t x lo hi mx=>
  obtain⟨u,U,Z⟩:=gA sr h;split at Z
  ·rename_i l hh m Y hhh hm;split at Z
   ·obtain⟨q1,q2,q3,y,g1,g2⟩:=OS (w:=w) cJ hp U (eA sr Y) (eA sr hhh) (eA sr hm) Z;exact⟨q1,q3,oV.value (u:=y) (by simp [execOp,g1]) ⟨E,by rw [q2]; exact eS.refl _ _ _,by rw [q2]; exact r,g2⟩⟩
   ·obtain⟨q1,q2,q3,y,g1,g2⟩:=ED cJ r hp (PB U) (eA sr Y) (eA sr hhh) (eA sr hm) Z;exact⟨q1,q3,oV.value (u:=y) (by simp [execOp,g1]) ⟨E,by rw [q2]; exact eS.refl _ _ _,by rw [q2]; exact r,g2⟩⟩
   ·obtain⟨q1,q2,q3,y,g1,g2⟩:=ED cJ r hp U (eA sr Y) (eA sr hhh) (eA sr hm) Z;exact⟨q1,q3,oV.value (u:=y) (by simp [execOp,g1]) ⟨E,by rw [q2]; exact eS.refl _ _ _,by rw [q2]; exact r,g2⟩⟩
   ·obtain⟨q1,q2,q3,y,g1,g2⟩:=OB (w:=w) cJ hp U (eA sr Y) (eA sr hhh) (eA sr hm) Z;exact⟨q1,q3,oV.value (u:=y) (by simp [execOp,g1]) ⟨E,by rw [q2]; exact eS.refl _ _ _,by rw [q2]; exact r,g2⟩⟩
   ·obtain⟨q1,q2,q3,y,g1,g2⟩:=OO (w:=w) cJ hp U (eA sr Y) (eA sr hhh) (eA sr hm) Z;exact⟨q1,q3,oV.value (u:=y) (by simp [execOp,g1]) ⟨E,by rw [q2]; exact eS.refl _ _ _,by rw [q2]; exact r,g2⟩⟩
   ·obtain⟨ea,h',fA,wB,h3⟩:=F2 hp (eA sr hhh) Z;obtain⟨e1,rfl⟩:=gK h3;obtain⟨y,g1,g2⟩:=yf (w:=w) cJ U (eA sr Y) wB (eA sr hm) e1;exact⟨rfl,fA,oV.value (u:=y) (by simp [execOp,g1]) ⟨E,eS.refl _ _ _,r,g2⟩⟩
   ·obtain⟨ea,h',fA,wB,h3⟩:=F2 hp (eA sr hhh) Z;obtain⟨e1,rfl⟩:=gK h3;obtain⟨y,g1,g2⟩:=yf (w:=w) cJ U (eA sr Y) wB (eA sr hm) e1;exact⟨rfl,fA,oV.value (u:=y) (by simp [execOp,g1]) ⟨E,eS.refl _ _ _,r,g2⟩⟩
   split at Z
   ·rename_i v' e1;have:=bC Z;simp only [ak] at this;obtain⟨rfl,rfl⟩:=this;obtain⟨y,g1,g2⟩:=yf (w:=w) cJ U (eA sr Y) (eA sr hhh) (eA sr hm) e1;exact jO.pure hp r (u:=y) (by simp [execOp,g1]) g2
   ·obtain⟨e1,rfl⟩:=gK Z;obtain⟨y,g1,g2⟩:=L2 (w:=w) cJ r U (eA sr Y) (eA sr hhh) (eA sr hm) e1;exact jO.pure hp r (u:=y) (by simp [execOp,g1]) g2
  ·simp [T.leaf] at Z
 case fieldAddr t x f=>
  obtain⟨u,U,Z⟩:=gA sr h;obtain⟨e1,rfl⟩:=gK Z;obtain⟨y,g1,g2⟩:=EL (w:=w) cJ U e1;exact jO.pure hp r (u:=y) (by simp [execOp,g1]) g2
 case field t x f=>
  obtain⟨u,U,Z⟩:=gA sr h;obtain⟨e1,rfl⟩:=gK Z;obtain⟨y,g1,g2⟩:=ON (w:=w) cJ U e1;exact jO.pure hp r (u:=y) (by simp [execOp,g1]) g2
 case indexAddr t x i=>
  obtain⟨u,U,Z⟩:=gA sr h;split at Z
  ·rename_i iv hi;split at Z
   ·obtain⟨e1,rfl⟩:=gK Z;obtain⟨y,g1,g2⟩:=OM (w:=w) cJ hp U (gf sr hi) e1;exact jO.pure hp r (u:=y) (by simp [execOp,g1]) g2
   ·obtain⟨q1,q2,q3,y,g1,g2⟩:=OT (w:=w) cJ hp U (gf sr hi) Z;exact⟨q1,q3,oV.value (u:=y) (by simp [execOp,g1]) ⟨E,by rw [q2]; exact eS.refl _ _ _,by rw [q2]; exact r,g2⟩⟩
   ·obtain⟨q1,q2,q3,y,g1,g2⟩:=OA (w:=w) cJ hp U (gf sr hi) Z;exact⟨q1,q3,oV.value (u:=y) (by simp [execOp,g1]) ⟨E,by rw [q2]; exact eS.refl _ _ _,by rw [q2]; exact r,g2⟩⟩
   ·obtain⟨q1,q2,q3,y,g1,g2⟩:=Oz (w:=w) cJ hp U (gf sr hi) Z;exact⟨q1,q3,oV.value (u:=y) (by simp [execOp,g1]) ⟨E,by rw [q2]; exact eS.refl _ _ _,by rw [q2]; exact r,g2⟩⟩
   ·rename_i pid po;split at Z
    ·rename_i n e hb;split at Z
     ·rename_i ho;subst ho;obtain⟨kd,ti,el,ie,rfl,b1,b2,b3,b4,b5⟩:=Fm hb;obtain⟨ea,fA,t1,t2,h3⟩:=nw hp Z;have:=bC h3;simp only [ak] at this;obtain⟨rfl,rfl⟩:=this;have hiv:=gf sr hi;simp only [VR] at hiv;simp only [V.den] at t2;obtain⟨k,hk⟩ : ∃k:Nat,e.den E.ρ=(k:Int):=⟨(e.den E.ρ).toNat,J⟩;have fD:k<n:=by simp at t2; omega
      rw [hk] at hiv
      obtain⟨y,g1,g2⟩:=pV (P:=P) (w:=w) cJ (t:=t) (ix:=.int kd (.lit (Int.ofNat k))) U (by simp only [VR,V.den]; exact hiv) (v:=.ptr pid (0+k*ie.size)) (by
       unfold nX;simp only [j8,b1,b2,iz,b3,bq];rw [ah fD]
       rfl)
      refine⟨rfl,fA,oV.value (u:=y) (by simp [execOp,g1]) ⟨E,eS.refl _ _ _,r,?_⟩⟩;simp only [VR] at g2 ⊢;exact⟨g2.2,k,hk,by rw [g2.1,b4]; congr 3; omega⟩
     ·simp [T.leaf] at Z
    ·obtain⟨ix',ea,fA,zy,Z⟩:=An hp (gf sr hi) Z;obtain⟨e1,rfl⟩:=gK Z;obtain⟨y,g1,g2⟩:=pV (w:=w) cJ U zy e1;exact⟨rfl,fA,oV.value (u:=y) (by simp [execOp,g1]) ⟨E,eS.refl _ _ _,r,g2⟩⟩
   ·obtain⟨ix',ea,fA,zy,Z⟩:=An hp (gf sr hi) Z;obtain⟨e1,rfl⟩:=gK Z;obtain⟨y,g1,g2⟩:=pV (w:=w) cJ U zy e1;exact⟨rfl,fA,oV.value (u:=y) (by simp [execOp,g1]) ⟨E,eS.refl _ _ _,r,g2⟩⟩
  ·simp [T.leaf] at Z
 case index t x i=>
  obtain⟨u,U,Z⟩:=gA sr h;split at Z
  ·rename_i iv hi;split at Z
   ·obtain⟨q1,q2,q3,y,g1,g2⟩:=OC (w:=w) cJ hp U (gf sr hi) Z;exact⟨q1,q3,oV.value (u:=y) (by simp [execOp,g1]) ⟨E,by rw [q2]; exact eS.refl _ _ _,by rw [q2]; exact r,g2⟩⟩
   ·rename_i cs;split at Z
    ·rename_i n e hb;split at Z
     ·rename_i hn;have hn:=aq hn;obtain⟨kd,ti,el,ie,rfl,b1,b2,b3,b4,b5⟩:=Fm hb;obtain⟨q1,q2,q3,k,kk,z,x',c1,c2,c3,rfl,c5⟩:=LY hp Z;have hiv:=gf sr hi;simp only [VR] at hiv;rw [c1] at hiv;obtain⟨l,hd⟩:=Bk c3
      obtain⟨y,g1,g2⟩:=yh (P:=P) (w:=w) cJ (t:=t) (ix:=.int kd (.lit (Int.ofNat k))) U (by simp only [VR,V.den]; exact hiv) (v:=.int kk (.lit z)) (by
       unfold zX;simp only [j8,b1,b2,b3];rw [ah J,b4,anX,hd]
       simp [partOf,b5])
      refine⟨q1,q3,oV.value (u:=y) (w':=w) (by simp [execOp,g1]) ⟨E,by rw [q2]; exact eS.refl _ _ _,by rw [q2]; exact r,?_⟩⟩;simp only [VR,V.den] at g2 ⊢;rw [g2,c5]
     ·simp [T.leaf] at Z
    ·obtain⟨ix',ea,fA,zy,Z⟩:=An hp (gf sr hi) Z;obtain⟨e1,rfl⟩:=gK Z;obtain⟨y,g1,g2⟩:=yh (w:=w) cJ U zy e1;exact⟨rfl,fA,oV.value (u:=y) (by simp [execOp,g1]) ⟨E,eS.refl _ _ _,r,g2⟩⟩
   obtain⟨ix',ea,fA,zy,Z⟩:=An hp (gf sr hi) Z;obtain⟨e1,rfl⟩:=gK Z;obtain⟨y,g1,g2⟩:=yh (w:=w) cJ U zy e1;exact⟨rfl,fA,oV.value (u:=y) (by simp [execOp,g1]) ⟨E,eS.refl _ _ _,r,g2⟩⟩
  ·simp [T.leaf] at Z
 case lookup t m k ok=>
  obtain⟨u,U,Z⟩:=gA sr h;split at Z
  ·rename_i kv hk;split at Z
   ·rename_i id e t' mN
    obtain⟨q1,q2,q3,y,g1,g2⟩:=OK (P:=P) cJ r hp U (gf sr hk) mN Z;exact⟨q1,q3,oV.value (u:=y) (by simp [execOp,g1]) ⟨E,by rw [q2]; exact eS.refl _ _ _,by rw [q2]; exact r,g2⟩⟩
   split at Z
   ·rename_i mN
    obtain⟨q1,q2,q3,y,g1,g2⟩:=OJ (P:=P) cJ r hp U (gf sr hk) mN Z;exact⟨q1,q3,oV.value (u:=y) (by simp [execOp,g1]) ⟨E,by rw [q2]; exact eS.refl _ _ _,by rw [q2]; exact r,g2⟩⟩
   obtain⟨ea,fA,Z⟩:=qy hp Z;obtain⟨e1,rfl⟩:=gK Z;obtain⟨y,g1,g2⟩:=L5 cJ fA r U (gf sr hk) e1;exact⟨rfl,fA,oV.value (u:=y) (by simp [execOp,g1]) ⟨E,eS.refl _ _ _,r,g2⟩⟩
  ·simp [T.leaf] at Z
 case mapUpdate t m k x=>
  obtain⟨u,U,Z⟩:=gA sr h;split at Z
  ·rename_i kv xv hk hx;split at Z
   ·obtain⟨q1,q2,rfl,w',E',g1,g2,g3⟩:=Ht (P:=P) cJ r hp U (gf sr hk) (gf sr hx) Z;exact⟨q1,q2,oV.skip (by simp [execOp,g1]) ⟨E',g2,g3,jY⟩⟩
   split at Z
   ·rename_i mN
    obtain⟨q1,q2,rfl,w',g1,g2,g3⟩:=B4 (P:=P) cJ r hp U (gf sr hk) (gf sr hx) mN Z;exact⟨q1,q2,oV.skip (by simp [execOp,g1]) ⟨E,g2,g3,jY⟩⟩
   obtain⟨ea,fA,Z⟩:=qy hp Z;obtain⟨H,e1,rfl,rfl⟩:=yQ Z;obtain⟨w',g1,g2,g3⟩:=vz cJ fA r U (gf sr hk) (gf sr hx) e1;exact⟨rfl,fA,oV.skip (by simp [execOp,g1]) ⟨E,g2,g3,jY⟩⟩
  ·simp [T.leaf] at Z
 case range t x=>
  obtain⟨u,U,Z⟩:=gA sr h;obtain⟨H,e1,rfl⟩:=py Z;obtain⟨y,w',E',g1,g2,g3,g4⟩:=OF cJ r U e1;exact jO.heap hp (u:=y) (by simp [execOp,g1]) g2 g3 g4
 case next x isS=>
  obtain⟨u,U,Z⟩:=gA sr h;obtain⟨H,e1,rfl⟩:=py Z;obtain⟨y,w',g1,g2,g3,g4⟩:=Ul (P:=P) r U e1 type;exact jO.heap hp (u:=y) (by simp [execOp,g1]) g2 g3 g4
 case entry x=>
  obtain⟨u,U,Z⟩:=gA sr h;obtain⟨e1,rfl⟩:=gK Z;obtain⟨y,g1,g2⟩:=OP (P:=P) r U e1;exact jO.pure hp r (u:=y) (by simp [execOp,g1]) g2
 case extract x i=>
  obtain⟨u,U,Z⟩:=gA sr h;split at Z
  ·rename_i vs;obtain⟨e1,rfl⟩:=gK Z;simp only [VR] at U;obtain⟨us,BS,U⟩:=U;obtain⟨y,g1,g2⟩:=U.nth e1;exact jO.pure hp r (u:=y) (by simp [execOp,Instr.extract,BS,g1]) g2
  ·simp [T.leaf] at Z
 case call c=>exact Uq cJ hc r sr hp rfl h
end
section
variable {P:Program}
structure Fit [bG] (E:En) (s:St) (a:Act) (w:World):Prop where
 rel:bN E s.h w
 sr:SR E w.heap s.bE a
 pc:bT E.ρ s.pc
structure mL [bG] (E:En) (s:St) (a:Act) (w:World) (s':St) (a':Act) (w':World):Prop where
 defers:a'.defers=a.defers
 size:a'.tmps.size=a.tmps.size
 step: ∃E',eS E s.h w E' s'.h w'/\Fit E' s' a' w'
theorem mL.refl [bG] {E:En} {s:St} {a:Act} {w:World} (f:Fit E s a w):mL E s a w s a w:=⟨rfl,rfl,E,eS.refl _ _ _,f⟩
theorem SR.keep {E E':En} {h h':Array Obj} (k:fw E h E' h') {bE:Tr W} {a:Act} (sr:SR E h bE a):SR E' h' bE a:=by intro t v ht;obtain⟨u,U,Z⟩:=sr t v ht;exact⟨u,U,VR.keep k v u Z⟩
theorem SR.put {E:En} {h:Array Obj} {bE:Tr W} {a:Act} (sr:SR E h bE a) {d:Nat} {v:W} {u:Value} (hd:d<a.tmps.size) (hv:VR E h v u):SR E h (bE.put d (some v)) (a.put (some d) u):=by
 intro t x ht;rw [Tr.bP] at ht;simp only [Act.put];split at ht
 ·rename_i e
  grind
 ·rename_i e;obtain⟨y,U,Z⟩:=sr t x ht
  grind
theorem SR.akY {E:En} {h:Array Obj} {s:St} {a:Act} (sr:SR E h s.bE a) {d:Option Nat} {v:W} {u:Value} (hd: ∀t,d=some t->t<a.tmps.size) (hv:VR E h v u):SR E h (s.KF d v).bE (a.put d u):=by
 cases d with
 |none=>exact sr
 |some t=>exact sr.put (hd t rfl) hv
theorem DI (a:Act) (d:Option Nat) (u:Value):(a.put d u).tmps.size=a.tmps.size:=by cases d<;>simp [Act.put]
theorem put_defers (a:Act) (d:Option Nat) (u:Value):(a.put d u).defers=a.defers:=by cases d<;>rfl
theorem WX (s:St) (d:Option Nat) (v:W):(s.KF d v).h=s.h:=by cases d<;>rfl
theorem K? (s:St) (d:Option Nat) (v:W):(s.KF d v).pc=s.pc:=by cases d<;>rfl
theorem Hl [bG] {E:En} {s s':St} {a:Act} {w w':World} {v:W} {u:Value} {d:Option Nat} (f:Fit E s a w) (hs:s'.bE=s.bE) (hp:bT E.ρ s'.pc) (h:MM E s w v s' u w') (hd: ∀t,d=some t->t<a.tmps.size) :
 mL E s a w (s'.KF d v) (a.put d u) w':=by
 obtain⟨E',U,Z,h3⟩:=h;refine⟨put_defers _ _ _,DI _ _ _,E',by rw [WX]; exact U,⟨by rw [WX]; exact Z,?_,by rw [K?,U.ρ]; exact hp⟩⟩;refine SR.akY ?_ hd h3;rw [hs];exact f.sr.keep (U.keeps f.rel)
theorem mL.trans [bG] {E:En} {s s1 s2:St} {a a1 a2:Act} {w w1 w2:World} (U:mL E s a w s1 a1 w1) (Z: ∀E1,eS E s.h w E1 s1.h w1->Fit E1 s1 a1 w1->mL E1 s1 a1 w1 s2 a2 w2):mL E s a w s2 a2 w2:=by obtain⟨d1,z1,E1,AF,f1⟩:=U;obtain⟨d2,z2,E2,qZ,f2⟩:=Z E1 AF f1;exact⟨d2.trans d1,z2.trans z1,E2,AF.trans qZ,f2⟩
theorem DT [bG] {α:Type} {E:En} {w:World} {s:St} {a:Act} {ops:Array Oper} {o:Oper} {f:St->Bool->T α} {r:α} (fit:Fit E s a w) (h:(wb ops.toList s o f).leaf E.ρ=some r) :
 ∃ea,bT E.ρ ea/\(f { s with pc:=ea } (Region.wanted o (yielded ops a.tmps))).leaf E.ρ=some r:=by
 unfold wb at h;unfold Region.wanted;split at h
 ·rename_i hg;rw [hg];exact⟨s.pc,fit.pc,h⟩
 ·rename_i j want hg;rw [hg];split at h
  ·rename_i oj hj;rw [dg,amD] at hj;split at h
   ·rename_i d hd;split at h
    ·rename_i c hc;obtain⟨u,U,Z⟩:=fit.sr d _ hc;simp only [VR] at Z;subst Z;obtain⟨ea,fA,h3⟩:=cE fit.pc h;refine⟨ea,fA,?_⟩;have:yielded ops a.tmps j=some (c.den E.ρ):=by simp [yielded,hj,hd,U]
     simp only [this];simpa using h3
    ·rename_i vs hc;obtain⟨u,U,Z⟩:=fit.sr d _ hc;simp only [VR] at Z;obtain⟨us,rfl,_⟩:=Z;refine⟨s.pc,fit.pc,?_⟩;have:yielded ops a.tmps j=none:=by simp [yielded,hj,hd,U]
     simp only [this];simpa using h
    ·simp [T.leaf] at h
   ·simp [T.leaf] at h
  ·simp [T.leaf] at h
def afF (n:Nat) (ops:List Oper):Bool:=ops.all fun o=>match o.dst with |some d=>d<n|none=>true
theorem EI [bG] {tt:TT} (cJ:eB P tt) {call:ek} (hc:im P call) {ops:Array Oper} {Q:Exit->Act->World->Prop}: ∀(rest:List Oper) (i:Nat) {E:En} {s s':St} {a:Act} {w:World},ops.toList.drop i=rest->
 (∀o∈rest,∀d,o.dst=some d->d<a.tmps.size)->Fit E s a w->(L4 tt call ops.toList rest s).leaf E.ρ=some s'->
 (∀a' w',mL E s a w s' a' w'->Q .normal a' w')->wpOps P ops Q (List.range' i rest.length) a w
 |[],i,E,s,s',a,w,_,_,fit,h,hq=>by have:=bC h;subst this;exact hq a w (mL.refl fit)
 |o::rest,i,E,s,s',a,w,hi,hd,fit,h,hq=>by
  simp only [L4] at h;obtain⟨ea,fA,U⟩:=DT fit h
  have hoi:ops[i]?=some o:=by
   have:=congrArg (·[0]?) hi
   grind
  have abU:ops.toList.drop (i+1)=rest:=by have:=congrArg List.tail hi;simpa using this
  have Ug:Fit E { s with pc:=ea } a w:=⟨fit.rel,fit.sr,fA⟩;simp only [aL,List.range'_succ];show wpOps P ops Q (i::List.range' (i+1) rest.length) a w;simp only [wpOps,hoi];cases hw:Region.wanted o (yielded ops a.tmps)<;>rw [hw] at U
  ·simp only [aQ,if_false] at U ⊢
   have BT:mL E s a w (St.KF { s with pc:=ea } o.dst W.undef) (a.put o.dst undef) w:=
    Hl (s':={ s with pc:=ea }) fit rfl fA ⟨E,eS.refl _ _ _,fit.rel,jY⟩ (hd o ad)
   obtain⟨d1,z1,E1,AF,f1⟩:=BT;refine EI cJ hc rest (i+1) abU (fun o' wB d uI=>by rw [z1]; exact hd o' (by simp [wB]) d uI) f1 (by rw [AF.ρ]; exact U) fun a' w' ht=>?_;exact hq a' w' ⟨ht.defers.trans d1,ht.size.trans z1,by obtain⟨E2,qZ,f2⟩:=ht.step; exact⟨E2,AF.trans qZ,f2⟩⟩
  ·simp only [if_true] at U ⊢;left;obtain⟨⟨v,s1⟩,Z,h3⟩:=T.fg U;obtain⟨q1,q2,q3⟩:=RQ cJ hc (o:=o) Ug.rel Ug.sr Ug.pc Z;refine q3 _ _ fun u w1 hu=>?_;have BT:mL E s a w (s1.KF o.dst v) (a.put o.dst u) w1:=Hl (s:=s) (s':=s1) fit q1 q2 hu (hd o ad);obtain⟨d1,z1,E1,AF,f1⟩:=BT;refine EI cJ hc rest (i+1) abU (fun o' wB d uI=>by rw [z1]; exact hd o' (by simp [wB]) d uI) f1 (by rw [AF.ρ]; exact h3) fun a' w' ht=>?_;exact hq a' w' ⟨ht.defers.trans d1,ht.size.trans z1,by obtain⟨E2,qZ,f2⟩:=ht.step; exact⟨E2,AF.trans qZ,f2⟩⟩
def aaX [bG] (P:Program) (draw:List Oper->St->T St):Prop:=
 ∀(id:Nat) (ops:Array Oper) (E:En) (s s':St) (a:Act) (w:World) (Q:Exit->Act->World->Prop),(∀o∈ops.toList,∀d,o.dst=some d->d<a.tmps.size)->Fit E s a w->(draw ops.toList s).leaf E.ρ=some s'->
  (∀a' w',mL E s a w s' a' w'->Q .normal a' w')->(Code.region id ops true).wp P Q a w
def vS [bG] (P:Program) (qW:Nat->List Oper->Bool) (draw:Nat->List Oper->St->T St):Prop:=
 ∀(id:Nat) (ops:Array Oper),qW id ops.toList=true->∀(E:En) (s s':St) (a:Act) (w:World) (Q:Exit->Act->World->Prop),(∀o∈ops.toList,∀d,o.dst=some d->d<a.tmps.size)->Fit E s a w->(draw id ops.toList s).leaf E.ρ=some s'->
  (∀a' w',mL E s a w s' a' w'->Q .normal a' w')->(Code.region id ops true).wp P Q a w
def jQ (qW:Nat->List Oper->Bool) (n:Nat):Code->Bool
 | .region id ops d=>afF n ops.toList&&(!d||qW id ops.toList)
 | .seq a b=>jQ qW n a&&jQ qW n b
 | .cond _ a b=>jQ qW n a&&jQ qW n b
 | .block _ b=>jQ qW n b
 | .loop b=>jQ qW n b
 | .scope b=>jQ qW n b
 |_=>true
theorem aax {n m:Nat} {ops:List Oper} (h:afF n ops=true) (hm:n<=m): ∀o∈ops,∀d,o.dst=some d->d<m:=by
 intro o ho d hd;unfold afF at h
 grind
def xB:Ex->Exit
 | .normal=> .normal
 | .exit id=> .exit id
 | .ret=> .ret
def afP [bG] (E:En) (s:St) (a:Act) (w:World) (e:Ex) (s':St) (x:Exit) (a':Act) (w':World):Prop:=x=xB e/\mL E s a w s' a' w'
theorem mL.comp [bG] {E E1:En} {s s1 s2:St} {a a1 a2:Act} {w w1 w2:World} (d1:a1.defers=a.defers) (z1:a1.tmps.size=a.tmps.size) (AF:eS E s.h w E1 s1.h w1) (Z:mL E1 s1 a1 w1 s2 a2 w2):mL E s a w s2 a2 w2:=by obtain⟨d2,z2,E2,qZ,f2⟩:=Z;exact⟨d2.trans d1,z2.trans z1,E2,AF.trans qZ,f2⟩
def r_ [bG] (P:Program) (c:Code) (n:Nat) (f:St->T (Ex×St)):Prop:=
 ∀(E:En) (s s':St) (e:Ex) (a:Act) (w:World),n<=a.tmps.size->Fit E s a w->(f s).leaf E.ρ=some (e,s')->c.wp P (afP E s a w e s') a w
theorem EJ {ρ:Nat->Int} {f:St->T (Ex×St)}: ∀(k:Nat) {s s':St} {e:Ex},(vB f k s).leaf ρ=some (e,s')->e≠.normal
 |0,s,s',e,h=>by simp [vB,T.leaf] at h
 |k+1,s,s',e,h=>by
  simp only [vB] at h;obtain⟨⟨e1,s1⟩,U,Z⟩:=T.fg h
  cases e1 with
  |normal=>exact EJ k Z
  |exit id=>have:=bC Z; simp only [ak] at this; rw [<- this.1]; simp
  |ret=>have:=bC Z; simp only [ak] at this; rw [<- this.1]; simp
theorem Hv [bG] {c:Code} {n:Nat} {f:St->T (Ex×St)} (hf:r_ P c n f): ∀(k:Nat) {E:En} {s s':St} {e:Ex} {a:Act} {w:World},n<=a.tmps.size->Fit E s a w->(vB f k s).leaf E.ρ=some (e,s')->
 ∀(Q:Exit->Act->World->Prop),(∀a' w',mL E s a w s' a' w'->Q (xB e) a' w')->e≠.normal/\Code.rounds P c Q k a w
 |0,E,s,s',e,a,w,_,_,h,_,_=>by simp [vB,T.leaf] at h
 |k+1,E,s,s',e,a,w,hn,fit,h,Q,hq=>by
  simp only [vB] at h;obtain⟨⟨e1,s1⟩,U,Z⟩:=T.fg h;have hw:=hf E s s1 e1 a w hn fit U;rw [rounds_succ]
  cases e1 with
  |normal=>
   simp only at Z;constructor
   ·exact EJ k Z
   ·refine wp_mono hw fun x a1 w1 ⟨hx,ht⟩=>?_;subst hx;obtain⟨d1,z1,E1,AF,f1⟩:=ht;exact (Hv hf k (by rw [z1]; exact hn) f1 (by rw [AF.ρ]; exact Z) Q fun a' w' ht'=>hq a' w' (ht'.comp d1 z1 AF)).2
  |exit id=> have:=bC Z;simp only [ak] at this;obtain⟨rfl,rfl⟩:=this;refine⟨ad,wp_mono hw fun x a1 w1 ⟨hx,ht⟩=>?_⟩;subst hx;exact hq a1 w1 ht
  |ret=> have:=bC Z;simp only [ak] at this;obtain⟨rfl,rfl⟩:=this;refine⟨ad,wp_mono hw fun x a1 w1 ⟨hx,ht⟩=>?_⟩;subst hx;exact hq a1 w1 ht
theorem kR [bG] {tt:TT} (cJ:eB P tt) {call:ek} (hc:im P call) {draw:Nat->List Oper->St->T St} {qW:Nat->List Oper->Bool} (FQ:vS P qW draw) {lf n:Nat}: ∀(c:Code),jQ qW n c=true->r_ P c n (iY tt call draw lf c)
 | .skip,_,E,s,s',e,a,w,_,fit,h=>by have:=bC h;simp only [ak] at this;obtain⟨rfl,rfl⟩:=this;exact wp_skip ⟨rfl,mL.refl fit⟩
 | .region id ops d,mK,E,s,s',e,a,w,hn,fit,h=>by
   simp only [iY] at h;simp only [jQ,an] at mK;have hd:=aax mK.1 hn;cases d
   ·simp only [aQ,if_false] at h;obtain⟨s1,U,Z⟩:=T.fg h;have:=bC Z;simp only [ak] at this;obtain⟨rfl,rfl⟩:=this;refine wp_region ?_;have:=EI (Q:=afP E s a w .normal s1) cJ hc ops.toList 0 ad hd fit U (fun a' w' ht=> ⟨rfl,ht⟩);rw [List.range_eq_range']
    grind
   ·simp only [if_true] at h;obtain⟨s1,U,Z⟩:=T.fg h;have:=bC Z;simp only [ak] at this;obtain⟨rfl,rfl⟩:=this;exact FQ id ops (by simpa using mK.2) E s s1 a w _ hd fit U (fun a' w' ht=> ⟨rfl,ht⟩)
 | .seq x y,mK,E,s,s',e,a,w,hn,fit,h=>by
   simp only [jQ,an] at mK;simp only [iY] at h;obtain⟨⟨e1,s1⟩,U,Z⟩:=T.fg h;refine wp_seq (wp_mono (kR cJ hc FQ x mK.1 E s s1 e1 a w hn fit U) fun q a1 w1 ⟨hx,ht⟩=>?_);subst hx
   cases e1 with
   |normal=> simp only at Z;obtain⟨d1,z1,E1,AF,f1⟩:=ht;refine wp_mono (kR cJ hc FQ y mK.2 E1 s1 s' e a1 w1 (by rw [z1]; exact hn) f1 (by rw [AF.ρ]; exact Z)) fun q a2 w2 ⟨hx,ht'⟩=>?_;exact⟨hx,ht'.comp d1 z1 AF⟩
   |exit id=> have:=bC Z;simp only [ak] at this;obtain⟨rfl,rfl⟩:=this;exact⟨rfl,ht⟩
   |ret=> have:=bC Z;simp only [ak] at this;obtain⟨rfl,rfl⟩:=this;exact⟨rfl,ht⟩
 | .cond c x y,mK,E,s,s',e,a,w,hn,fit,h=>by
   simp only [jQ,an] at mK;simp only [iY] at h;split at h
   ·rename_i cb hcb;have hv:=gf fit.sr hcb;simp only [VR] at hv;obtain⟨ea,fA,U⟩:=cE fit.pc h;have Ug:Fit E { s with pc:=ea } a w:=⟨fit.rel,fit.sr,fA⟩;refine wp_cond hv ?_;cases RC:cb.den E.ρ<;>rw [RC] at U
    ·simp only [aQ,if_false] at U ⊢;exact wp_mono (kR cJ hc FQ y mK.2 E _ s' e a w hn Ug U) fun q a2 w2 ⟨hx,ht⟩=> ⟨hx,ht.defers,ht.size,ht.step⟩
    ·simp only [if_true] at U ⊢;exact wp_mono (kR cJ hc FQ x mK.1 E _ s' e a w hn Ug U) fun q a2 w2 ⟨hx,ht⟩=> ⟨hx,ht.defers,ht.size,ht.step⟩
   ·simp [T.leaf] at h
 | .block id b,mK,E,s,s',e,a,w,hn,fit,h=>by
   simp only [jQ] at mK;simp only [iY] at h;obtain⟨⟨e1,s1⟩,U,Z⟩:=T.fg h;refine wp_block (wp_mono (kR cJ hc FQ b mK E s s1 e1 a w hn fit U) fun q a1 w1 ⟨hx,ht⟩=>?_);subst hx
   cases e1 with
   |normal=> have:=bC Z;simp only [ak] at this;obtain⟨rfl,rfl⟩:=this;exact⟨rfl,ht⟩
   |exit j=>
    have:=bC Z;simp only [ak] at this;obtain⟨rfl,rfl⟩:=this;simp only [xB,Exit.inBlock];by_cases hj:j=id
    ·rw [ah hj,ah hj]; exact⟨rfl,ht⟩
    ·rw [af hj,af hj]; exact⟨rfl,ht⟩
   |ret=> have:=bC Z;simp only [ak] at this;obtain⟨rfl,rfl⟩:=this;exact⟨rfl,ht⟩
 | .loop b,mK,E,s,s',e,a,w,hn,fit,h=>by simp only [jQ] at mK;simp only [iY] at h;exact wp_loop_rounds lf (Hv (kR cJ hc FQ b mK) lf hn fit h (afP E s a w e s') (fun a' w' ht=> ⟨rfl,ht⟩)).2
 | .exit id,_,E,s,s',e,a,w,_,fit,h=>by have:=bC h;simp only [ak] at this;obtain⟨rfl,rfl⟩:=this;exact wp_exit ⟨rfl,mL.refl fit⟩
 | .scope b,mK,E,s,s',e,a,w,hn,fit,h=>by simp only [jQ] at mK;simp only [iY] at h;refine wp_scope_straight (wp_mono (kR cJ hc FQ b mK E s s' e a w hn fit h) fun q a1 w1 ⟨hx,ht⟩=>?_);subst hx;cases e<;>exact⟨rfl,ht⟩
 | .label l,_,E,s,s',e,a,w,_,fit,h=>by have:=bC h;simp only [ak] at this;obtain⟨rfl,rfl⟩:=this;exact wp_label ⟨rfl,mL.refl fit⟩
 | .ret,_,E,s,s',e,a,w,_,fit,h=>by have:=bC h;simp only [ak] at this;obtain⟨rfl,rfl⟩:=this;exact wp_ret ⟨rfl,mL.refl fit⟩
 | .rangeFunc _ _ _ _,_,E,s,s',e,a,w,_,fit,h=>by simp [iY,T.leaf] at h
 | .goto _,_,E,s,s',e,a,w,_,fit,h=>by simp [iY,T.leaf] at h
 | .refuse _,_,E,s,s',e,a,w,_,fit,h=>by simp [iY,T.leaf] at h
end
section
variable {P:Program}
theorem Lq: ∀(args:List W) (i:Nat) (t:Tr W) (k:Nat),(cq args i t).get k=if i<=k/\k<i+args.length then args[k-i]? else t.get k
 |[],i,t,k=>by
  have: ¬(i<=k/\k<i+([]:List W).length):=ad
  rw [af this];rfl
 |v::vs,i,t,k=>by
  simp only [cq,Lq vs (i+1),Tr.bP,aL]
  grind
theorem cw.get {E:En} {h:Array Obj}: ∀{vs:List W} {us:List Value},cw E h vs us->∀(i:Nat) (v:W),vs[i]?=some v->∃u,us[i]?=some u/\VR E h v u
 |[],us,hv,i,v,hi=>by simp at hi
 |x::xs,us,hv,i,v,hi=>by
  cases us with
  |nil=>simp [cw] at hv
  |cons y ys=>
   simp only [cw] at hv;obtain⟨u',gw,he,U,Z⟩:=hv;simp only [List.cons.injEq] at he;obtain⟨rfl,rfl⟩:=he
   cases i with
   |zero=>simp at hi; subst hi; exact⟨y,ad,U⟩
   |succ i=>simpa using cw.get Z i v (by simpa using hi)
theorem zn {E:En} {h:Array Obj} {args:List W} {vals:List Value} (hv:cw E h args vals) (n:Nat) :
 SR E h (cq args 0 .nil) { tmps:=vals.toArray++Array.replicate n undef,defers:=[] }:=by
 intro t v ht;rw [Lq] at ht;split at ht
 ·rename_i hk;obtain⟨u,U,Z⟩:=cw.get hv t v (by simpa using ht)
  grind
 ·simp [Tr.get] at ht
def uT (a:Act):ResultVar->Sem Value
 | .tmp t=>pure (a.tmps.getD t undef)
 | .cell b t=>do loadVar t (<- asAddr (a.tmps.getD b undef))
def AO (vs:List W):W:=match vs with |[x]=>x|vs=> .tuple vs
theorem Gp {vs:List W} (h: ∀v,vs= [v]->False):AO vs= .tuple vs:=by
 unfold AO
 grind
theorem CF {E:En} {h:Array Obj} {vs:List W} {us:List Value} (g2:cw E h vs us):VR E h (AO vs) (if h:us.toArray.size=1 then us.toArray[0] else .tuple us.toArray):=by
 cases vs with
 |nil=> simp only [cw] at g2;subst g2;simp [AO,VR,cw]
 |cons x xs=>
  cases xs with
  |nil=> simp only [cw] at g2;obtain⟨u,gw,rfl,U,rfl⟩:=g2;simpa [AO] using U
  |cons x2 xs=>
   have g3:=g2;simp only [cw] at g2;obtain⟨u,gw,rfl,U,u2,us2,rfl,Z,h3⟩:=g2;have: ¬((u::u2::us2).toArray.size=1):=ad
   rw [dif_neg this];simp only [AO,VR]
   grind
theorem L3 [bG] {tt:TT} (cJ:eB P tt) {E:En} {s:St} {a:Act} {w:World} (fit:Fit E s a w) {r:ResultVar} {v:W} (h:zQ tt s r=some v) :
 ∃u,(uT a r).run P w= .ok u w/\VR E w.heap v u:=by
 cases r with
 |tmp t=> simp only [zQ] at h;obtain⟨u,U,Z⟩:=fit.sr t v h;exact⟨u,by simp [uT,U,anc],Z⟩
 |cell b t=>
  simp only [zQ] at h;split at h
  ·rename_i p hp;obtain⟨u,U,Z⟩:=fit.sr b p hp;obtain⟨x,bb,o,rfl,h3,h4⟩:=Bf cJ fit.rel Z h;exact⟨x,by simp [uT,U,anc,asAddr,h3],h4⟩
  grind
theorem tA [bG] {tt:TT} (cJ:eB P tt) {E:En} {s:St} {a:Act} {w:World} (fit:Fit E s a w): ∀{rs:List ResultVar} {vs:List W},kQ tt s rs=some vs->
 ∃us,(rs.mapM (uT a)).run P w= .ok us w/\cw E w.heap vs us
 |[],vs,h=>by simp [kQ] at h;subst h;exact⟨[],ad,by simp [cw]⟩
 |r::rs,vs,h=>by
  simp only [kQ] at h;split at h
  ·grind
  ·rename_i v hv;split at h
   ·grind
   ·rename_i MO G5;simp at h;subst h;obtain⟨u,U,Z⟩:=L3 cJ fit hv;obtain⟨us,h3,h4⟩:=tA cJ fit G5;refine⟨u::us,?_,by simp only [cw]; exact⟨u,us,rfl,Z,h4⟩⟩;rw [anf];simp [Sem.run_bind,U,h3]
def UK (P:Program) (qW:Nat->Nat->List Oper->Bool) (ft:Nat->Option Func):Prop:= ∀g fn,ft g=some fn->P.funcs[g]?=some fn/\(fn.name == "runtime.NumGoroutine")=false/\∀c,fn.body=some c->jQ (qW g) fn.ntmps c=true
theorem wI [bG] {tt:TT} (cJ:eB P tt) {qW:Nat->Nat->List Oper->Bool} {ft:Nat->Option Func} (hft:UK P qW ft) {hook:Nat->Option (List W->St->T (W×St))} (hh: ∀g h,hook g=some h->ik P g h)
 {draw:ek->Nat->Nat->List Oper->St->T St} (FQ: ∀call,im P call->∀g,vS P (qW g) (draw call g)) (lf:Nat): ∀(n:Nat),im P (FV tt ft hook draw lf n)
 |0=>by intro g args s E w vals v s' _ _ _ h;simp [FV,T.leaf] at h
 |n+1=>by
  have ih:=wI cJ hft hh FQ lf n;intro g args s E w vals v s' r hv hp h;simp only [FV] at h;split at h
  ·rename_i f hf;exact hh g f hf args s E w vals v s' r hv hp h
  ·split at h
   ·simp [T.leaf] at h
   ·rename_i fn ua;obtain⟨hf,kc,mK⟩:=hft g fn ua;split at h
    ·simp [T.leaf] at h
    ·rename_i c hb;obtain⟨⟨e,s1⟩,U,Z⟩:=T.fg h
     have fit:Fit E { s with bE:=cq args 0 .nil } { tmps:=vals.toArray++Array.replicate (fn.ntmps-vals.toArray.size) undef,defers:=[] } w:=
      ⟨r,zn hv _,hp⟩
     have hwp:=kR cJ ih (FQ _ ih g) (lf:=lf) c (mK c hb) E _ s1 e _ w (by simp; omega) fit U
     have ale: ∃vs,kQ tt s1 fn.results.toList=some vs/\(e= .normal\/e= .ret)/\s'= { s1 with bE:=s.bE }/\v=AO vs:=by
      cases e with
      |exit id=>simp [T.leaf] at Z
      |normal=>
       simp only at Z;split at Z
       ·rename_i x hx;have:=bC Z;simp only [ak] at this;exact⟨_,hx,.inl rfl,this.2.symm,this.1.symm⟩
       ·rename_i vs hn hx;have:=bC Z;simp only [ak] at this;refine⟨_,hx,.inl rfl,this.2.symm,?_⟩;rw [<- this.1];exact (Gp hn).symm
       ·simp [T.leaf] at Z
      |ret=>
       simp only at Z;split at Z
       ·rename_i x hx;have:=bC Z;simp only [ak] at this;exact⟨_,hx,.inr rfl,this.2.symm,this.1.symm⟩
       ·rename_i vs hn hx;have:=bC Z;simp only [ak] at this;refine⟨_,hx,.inr rfl,this.2.symm,?_⟩;rw [<- this.1];exact (Gp hn).symm
       ·simp [T.leaf] at Z
     obtain⟨vs,hr,he,rfl,rfl⟩:=ale
     have hpc:bT E.ρ s1.pc:=by
      obtain⟨_,_,_,⟨_,ht⟩,_⟩:=hwp default [] [];obtain⟨E1,AF,f1⟩:=ht.step;have:=f1.pc;rw [AF.ρ] at this
      grind
     refine⟨rfl,hpc,?_⟩
     have alE:Calls P g vals.toArray w fun e w''=> ∃u,e= .returned u/\MM E s w (AO vs) { s1 with bE:=s.bE } u w'':=by
      refine calls_of_wp hf hb (wp_mono hwp fun x a1 w1 ⟨hx,ht⟩=>?_);subst hx;obtain⟨d1,z1,E1,AF,f1⟩:=ht;obtain⟨us,g1,g2⟩:=tA cJ f1 hr
      have: ∃u,(results fn a1.tmps).run P w1= .ok u w1/\VR E1 w1.heap (AO vs) u:=by
       refine⟨if h:us.toArray.size=1 then us.toArray[0] else .tuple us.toArray,?_,?_⟩
       ·have hm:(fn.results.mapM (uT a1)).run P w1= .ok us.toArray w1:=by
         rw [aoD];rw [map_eq_pure_bind];simp only [Sem.run_bind,g1];rfl
        have xY:results fn a1.tmps=(do let vs <- fn.results.mapM (uT a1); pure (if h:vs.size=1 then vs[0] else .tuple vs)):=rfl;rw [xY];simp only [Sem.run_bind,hm];rfl
       ·exact CF g2
      obtain⟨u,g3,g4⟩:=this;rcases he with rfl|rfl
      ·exact⟨d1,u,g3,u,rfl,E1,AF,f1.rel,g4⟩
      ·exact⟨d1,u,g3,u,rfl,E1,AF,f1.rel,g4⟩
     have jx:(callFunc g vals.toArray).run P w= .ok (.enter g vals.toArray) w:=by unfold callFunc;simp [hf,hb,by simpa using kc]
     unfold jE lI
     grind
end
def Tr.over {α:Type}:Tr α->Tr α->Tr α
 | .nil,b=>b
 | .node v l r,b=> .node (match v with |some x=>some x|none=>b.val) (Tr.over l b.left) (Tr.over r b.right)
def Tr.minus {α:Type}:Tr α->Tr α->Tr α
 | .nil,b=>b
 | .node v l r,b=> .node (match v with |some _=>none|none=>b.val) (Tr.minus l b.left) (Tr.minus r b.right)
theorem Tr.Es {α:Type}: ∀(a b:Tr α) (k:Nat),(Tr.over a b).get k=match a.get k with |some x=>some x|none=>b.get k
 | .nil,b,k=>by simp [Tr.over,Tr.get]
 | .node v l r,b,k=>by
   simp only [Tr.over];rw [Tr.nW,Tr.nW,Tr.wD b k];by_cases h0:k=0
   ·grind
   ·simp only [af h0];by_cases U:(k-1) % 2=0
    ·simp only [ah U]; exact Tr.Es l b.left _
    ·simp only [af U]; exact Tr.Es r b.right _
theorem Tr.Bb {α:Type}: ∀(a b:Tr α) (k:Nat),(Tr.minus a b).get k=match a.get k with |some _=>none|none=>b.get k
 | .nil,b,k=>by simp [Tr.minus,Tr.get]
 | .node v l r,b,k=>by
   simp only [Tr.minus];rw [Tr.nW,Tr.nW,Tr.wD b k];by_cases h0:k=0
   ·grind
   ·simp only [af h0];by_cases U:(k-1) % 2=0
    ·simp only [ah U]; exact Tr.Bb l b.left _
    ·simp only [af U]; exact Tr.Bb r b.right _
structure SG (E:En) (H:Hp) (w:World) (E':En) (H':Hp) (w':World):Prop where
 ρ:E'.ρ=E.ρ
 dm: ∀id,E.dm id->E'.dm id
 θ: ∀id,E.dm id->E'.θ id=E.θ id
 κ: ∀id,E.dm id->E'.κ id=E.κ id
 ro: ∀b,E.ro b->E'.ro b
 rF: ∀b,E'.ro b->E.ro b\/(∃id o,H.get id=some o/\(E.θ id).1=b)\/w.heap.size<=b
 os:w'.os=w.os
 tape:w'.tape=w.tape
 output:w'.output=w.output
 size:w.heap.size<=w'.heap.size
 keep: ∀b,b<w.heap.size->(∀id o,H.get id=some o->(E.θ id).1≠b)->w'.heap[b]?=w.heap[b]?
 own: ∀id o,H'.get id=some o->(E'.θ id).1<w.heap.size->∃rG o0,H.get rG=some o0/\(E.θ rG).1=(E'.θ id).1
 hd:E'.hd=E.hd
section
variable {E E' E'':En} {H H' H'':Hp} {w w' w'':World}
theorem eS.akG (s:eS E H w E' H' w'):SG E H w E' H' w':=⟨s.ρ,s.dm,s.θ,s.κ,s.ro,s.rF,s.os,s.tape,s.output,s.size,s.keep,s.own,s.hd⟩
theorem SG.WL (s:SG E H w E' H' w') (U:H.next<=H'.next) (Z:H'.res=none) (h3: ∀id,E'.dm id->E.dm id\/(H.next<=id/\id<H'.next)):eS E H w E' H' w':=
 ⟨s.ρ,s.dm,s.θ,s.κ,s.ro,s.rF,U,.inl Z,fun id h=>(h3 id h).elim .inl fun h=> .inr (.inl h),s.os,s.tape,s.output,s.size,s.keep,s.own,s.hd⟩
theorem SG.trans (a:SG E H w E' H' w') (b:SG E' H' w' E'' H'' w''):SG E H w E'' H'' w'' where
 ρ:=b.ρ.trans a.ρ
 dm:=fun id h=>b.dm id (a.dm id h)
 θ:=fun id h=>(b.θ id (a.dm id h)).trans (a.θ id h)
 κ:=fun id h=>(b.κ id (a.dm id h)).trans (a.κ id h)
 ro:=fun x h=>b.ro x (a.ro x h)
 rF:=fun x h=>by
  rcases b.rF x h with h|⟨id,o,U,Z⟩|h
  ·exact a.rF x h
  ·rcases aT x w.heap.size with hx|hx
   ·obtain⟨rG,o0,h3,h4⟩:=a.own id o U (by rw [Z]; exact hx);exact .inr (.inl ⟨rG,o0,h3,h4.trans Z⟩)
   ·exact .inr (.inr hx)
  ·exact .inr (.inr (bk a.size h))
 os:=b.os.trans a.os
 tape:=b.tape.trans a.tape
 output:=b.output.trans a.output
 size:=bk a.size b.size
 keep:=fun x hx hn=>by rw [b.keep x (amZ hx a.size) ?_,a.keep x hx hn];intro id o ho he;obtain⟨rG,o0,h0,he0⟩:=a.own id o ho (by rw [he]; exact hx);exact hn rG o0 h0 (he0.trans he)
 own:=fun id o ho fD=>by obtain⟨id1,o1,U,Yj⟩:=b.own id o ho (amZ fD a.size);obtain⟨rG,o0,h0,he0⟩:=a.own id1 o1 U (by rw [Yj]; exact fD);exact⟨rG,o0,h0,he0.trans Yj⟩
 hd:=b.hd.trans a.hd
theorem SG.keeps [bG] (s:SG E H w E' H' w') (r:bN E H w):fw E w.heap E' w'.heap:=
 ⟨s.ρ,s.dm,s.θ,s.κ,s.ro,fun b hb=>s.keep b (r.qC b hb) fun id o ho he=>(r.live id o ho).2.2 (by rw [he]; exact hb)⟩
theorem bN.part [bG] {H1:Hp} (r:bN E H w) (sub: ∀id o,H1.get id=some o->H.get id=some o) (hn:H.next<=H1.next) (hr: ∀q,H1.res=some q->q<H1.next/\¬E.dm q):bN E H1 w:=
 ⟨fun id h=>r.fresh id (bk hn h),hr,fun id o h=>r.live id o (sub id o h),fun i j o o' h h' e=>r.inj i j o o' (sub _ _ h) (sub _ _ h') e,r.qC,r.iX,fun b x hb=> ⟨(r.hid b x hb).1,(r.hid b x hb).2.1,fun id o h=>(r.hid b x hb).2.2 id o (sub id o h)⟩⟩
theorem Yw [bG] {H1 Pv:Hp} (r:bN E H w) (sub: ∀id o,H1.get id=some o->H.get id=some o) (st:eS E H1 w E' Pv w') (r':bN E' Pv w') (n:Nat) (hn: ∀id,n<=id->¬E'.dm id) :
 ∃H':Hp,H'=⟨Tr.over Pv.m (Tr.minus H1.m H.m),n,none⟩/\(∀id o,Pv.get id=some o->H'.get id=some o)/\(∀id o,H.get id=some o->H1.get id=none->H'.get id=some o)/\bN E' H' w'/\SG E H w E' H' w':=by
 have aiZ: ∀id o,H.get id=some o->H1.get id=none->Pv.get id=none:=by
  intro id o h U
  cases Z:Pv.get id with
  |none=>rfl
  |some o'=>
   exfalso;have hd:=(r.live id o h).1;have hθ:=st.θ id hd;obtain⟨rG,o0,g1,g2⟩:=st.own id o' Z (by rw [hθ]; exact fm r h);have:=r.inj rG id o0 o (sub _ _ g1) h (by rw [g2,hθ])
   grind
 have vi: ∀id,(⟨Tr.over Pv.m (Tr.minus H1.m H.m),n,none⟩ : Hp).get id=match Pv.get id with |some x=>some x|none=>match H1.get id with |some _=>none|none=>H.get id:=by
  intro id;simp only [Hp.get,Tr.Es,Tr.Bb]
  grind
 have nO: ∀id o,(⟨Tr.over Pv.m (Tr.minus H1.m H.m),n,none⟩ : Hp).get id=some o->Pv.get id=some o\/(Pv.get id=none/\H1.get id=none/\H.get id=some o):=by
  intro id o h
  grind
 have tZ: ∀id o,H1.get id=none->H.get id=some o->w'.heap[(E.θ id).1]?=w.heap[(E.θ id).1]?:=by
  intro id o U h;refine st.keep _ (fm r h) fun rG o0 h0 he=>?_;have:=r.inj rG id o0 o (sub _ _ h0) h he
  grind
 have k:fw E w.heap E' w'.heap:=⟨st.ρ,st.dm,st.θ,st.κ,st.ro,fun b hb=>st.keep b (r.qC b hb) fun id o ho he=>(r.live id o (sub _ _ ho)).2.2 (by rw [he]; exact hb)⟩;refine⟨_,rfl,fun id o h=>by rw [vi,h],fun id o h U=>by rw [vi,aiZ id o h U,U]; exact h,⟨hn,ad,?_,?_,r'.qC,r'.iX,?_⟩,⟨st.ρ,st.dm,st.θ,st.κ,st.ro,fun b hb=>(st.rF b hb).imp id (Or.imp (fun⟨i,o,U,Z⟩=> ⟨i,o,sub _ _ U,Z⟩) id),st.os,st.tape,st.output,st.size,?_,?_,st.hd⟩⟩
 ·intro id o h;rcases nO id o h with U|⟨U,Z,h3⟩
  ·exact r'.live id o U
  ·obtain⟨g1,g2,g3⟩:=r.live id o h3;refine⟨st.dm id g1,g2.keep k g1 (tZ id o Z h3) (r.T8 st.hd (fun b hb hn=>st.keep b hb fun i o ho=>hn i o (sub i o ho)) _),?_⟩;rw [st.θ id g1];intro hr;rcases st.rF _ hr with hr|⟨rG,o0,f1,f2⟩|hr
   ·grind
   ·have:=r.inj rG id o0 o (sub _ _ f1) h3 f2
    grind
   grind [fm]
 ·intro i j o o' h h' he;rcases nO i o h with U|⟨U,Z,h3⟩ <;>rcases nO j o' h' with g1|⟨g1,g2,g3⟩
  ·exact r'.inj i j o o' U g1 he
  ·exfalso;rw [st.θ j (r.live j o' g3).1] at he;obtain⟨rG,o0,f1,f2⟩:=st.own i o U (by rw [he]; exact fm r g3);have:=r.inj rG j o0 o' (sub _ _ f1) g3 (f2.trans he)
   grind
  ·exfalso;rw [st.θ i (r.live i o h3).1] at he;obtain⟨rG,o0,f1,f2⟩:=st.own j o' g1 (by rw [<- he]; exact fm r h3);have:=r.inj rG i o0 o (sub _ _ f1) h3 (f2.trans he.symm)
   grind
  ·rw [st.θ i (r.live i o h3).1,st.θ j (r.live j o' g3).1] at he;exact r.inj i j o o' h3 g3 he
 ·refine r.T5 st.hd st.size (fun b hb=>(st.rF b hb).imp id (Or.imp (fun⟨i,o,U,Z⟩=> ⟨i,o,sub _ _ U,Z⟩) id)) fun id o h fD=>?_;rcases nO id o h with U|⟨U,Z,h3⟩
  ·obtain⟨rG,o0,f1,f2⟩:=st.own id o U fD;exact⟨rG,o0,sub _ _ f1,f2⟩
  ·exact⟨id,o,h3,by rw [st.θ id (r.live id o h3).1]⟩
 ·intro b hb Ar;exact st.keep b hb fun id o h=>Ar id o (sub _ _ h)
 ·intro id o h fD;rcases nO id o h with U|⟨U,Z,h3⟩
  ·obtain⟨rG,o0,f1,f2⟩:=st.own id o U fD
   grind
  ·exact⟨id,o,h3,by rw [st.θ id (r.live id o h3).1]⟩
theorem frame [bG] {H1 Pv:Hp} (r:bN E H w) (sub: ∀id o,H1.get id=some o->H.get id=some o) (st:eS E H1 w E' Pv w') (r':bN E' Pv w') (n:Nat) (hn: ∀id,n<=id->¬E'.dm id) :
 ∃H':Hp,H'.next=n/\H'.res=none/\(∀id o,Pv.get id=some o->H'.get id=some o)/\(∀id o,H.get id=some o->H1.get id=none->H'.get id=some o)/\bN E' H' w'/\SG E H w E' H' w':=by
 obtain⟨H',h0,U,Z,h3,h4⟩:=Yw r sub st r' n hn
 grind
end
section
variable {P:Program}
def FB [bG] (P:Program) (ρ:Nat->Int) (ops:Array Oper) (o:Oper) (S:Tr W) (H:Hp) (v:W) (H':Hp):Prop:=
 ∀(E:En) (a:Act) (w:World),E.ρ=ρ->bN E H w->SR E w.heap S a->
  (Region.wanted o (yielded ops a.tmps)=false/\v=W.undef/\H'=H)\/
  (Region.wanted o (yielded ops a.tmps)=true/\oV P o a w (fun u w'=> ∃E',eS E H w E' H' w'/\bN E' H' w'/\VR E' w'.heap v u))
theorem FB.wpOp [bG] {ρ:Nat->Int} {ops:Array Oper} {o:Oper} {S:Tr W} {H H':Hp} {v:W} (h:FB P ρ ops o S H v H') {E:En} {a:Act} {w:World} (hρ:E.ρ=ρ) (r:bN E H w) (sr:SR E w.heap S a)
 {i:Nat} (ho:ops[i]?=some o) {K:Act->World->Prop} {Q:Exit->Act->World->Prop}
 (hk: ∀(u:Value) (E':En) (w':World),eS E H w E' H' w'->bN E' H' w'->VR E' w'.heap v u->K (a.put o.dst u) w'):wpOp P ops Q i K a w:=by
 unfold Go.wpOp;simp only [ho];rcases h E a w hρ r sr with ⟨U,rfl,rfl⟩|⟨U,Z⟩
 ·rw [U];simp only [aQ,if_false];exact hk undef E w (eS.refl _ _ _) r jY
 ·rw [U];simp only [if_true];exact .inl (Z _ _ fun u w' ⟨E',q1,q2,q3⟩=>hk u E' w' q1 q2 q3)
inductive Kind where
 |pa
 |e
 |r
 deriving DecidableEq
structure Fx [bG] (P:Program) (ρ:Nat->Int) (ops:Array Oper) (pj:Tr W) (H0:Hp) where
 base:Nat
 bf:Nat->Nat->Bool
 kd:Nat->Kind
 S:Nat->Tr W
 val:Nat->W
 st:Nat->Nat
 nE:Nat
 hp:Nat->Hp
 un:Nat->Nat->Bool
 kE:Nat->Option dP
 gen: ∀i j,bf i j=true->∃(o:Oper) (e:Edge),ops[j]?=some o/\e∈o.after/\Region.binds .any e=true/\(e.on=i\/bf i e.on=true)
 back: ∀(j:Nat) (o:Oper),ops[j]?=some o->∀e∈o.after,Region.binds .any e=true->e.on<j
 dst: ∀(i j:Nat) (oi oj:Oper) (d:Nat),ops[i]?=some oi->ops[j]?=some oj->oi.dst=some d->oj.dst=some d->i=j
 bE: ∀(i:Nat) (o:Oper),ops[i]?=some o->∀t x,(S i).get t=some x->(∃(j:Nat) (oj:Oper),bf j i=true/\ops[j]?=some oj/\oj.dst=some t/\val j=x)\/(pj.get t=some x/\∀(j:Nat) (oj:Oper),ops[j]?=some oj->oj.dst=some t->bf i j=true)
 stl: ∀(j:Nat) (o:Oper),ops[j]?=some o->kd j= .e->st j<nE
 inj: ∀i j,kd i= .e->kd j= .e->st i=st j->i=j
 ahN: ∀(j:Nat) (o:Oper),ops[j]?=some o->kd j= .e->∀m,m<st j->∃i,kd i= .e/\st i=m/\bf i j=true
 pa: ∀(i:Nat) (o:Oper),ops[i]?=some o->kd i= .pa->∃HA N,FB P ρ ops o (S i) ⟨.nil,N,some (base+i)⟩ (val i) HA/\HA.next=N/\kE i=HA.get (base+i)/\∀k,k<=nE->(hp k).next<=N
 ev: ∀(j:Nat) (o:Oper),ops[j]?=some o->kd j= .e->∃Kg,FB P ρ ops o (S j) Kg (val j) (hp (st j+1))/\Kg.next=(hp (st j)).next/\Kg.res=none/\
  (∀id x,Kg.get id=some x->(hp (st j)).get id=some x\/∃a,bf a j=true/\un (st j) a=true/\id=base+a/\kE a=some x)/\
  (∀a,un (st j+1) a=true->un (st j) a=true/\bf a j=false)
 rd: ∀(i:Nat) (o:Oper),ops[i]?=some o->kd i= .r->∀k,k<=nE->(∀j,kd j= .e->bf j i=true->st j<k)->(∀(j:Nat) (oj:Oper),ops[j]?=some oj->kd j= .e->bf i j=true->k<=st j)->
  ∃Kg,FB P ρ ops o (S i) Kg (val i) Kg/\Kg.next=(hp k).next/\Kg.res=none/\
   (∀id x,Kg.get id=some x->(hp k).get id=some x\/∃a,bf a i=true/\un k a=true/\id=base+a/\kE a=some x)
 unm: ∀k a x,k<=nE->kE a=some x->un k a=true->(hp k).get (base+a)=none
 nob: ∀i,kd i≠.pa->kE i=none
 first:base=H0.next/\base+ops.size<=(hp 0).next/\∀id x,(hp 0).get id=some x->H0.get id=some x
section
variable {gl:bG} {ρ:Nat->Int} {ops:Array Oper} {pj:Tr W} {H0:Hp} (p:Fx P ρ ops pj H0)
structure Fx.Inv (E0:En) (a0:Act) (w0:World) (L:Nat->Prop) (a:Act) (w:World):Prop where
 defers:a.defers=a0.defers
 size:a.tmps.size=a0.tmps.size
 closed: ∀i j,p.bf i j=true->L j->L i
 ex: ∃(E:En) (Hc:Hp) (k:Nat),k<=p.nE/\(∀(j:Nat) (o:Oper),ops[j]?=some o->p.kd j= .e->(L j↔p.st j<k))/\E.ρ=ρ/\SG E0 H0 w0 E Hc w/\bN E Hc w/\Hc.next=(p.hp k).next/\Hc.res=none/\
  p.base+ops.size<=Hc.next/\(∀id,E.dm id->E0.dm id\/H0.next<=id)/\(∀(i:Nat) (o:Oper),ops[i]?=some o->¬L i->¬E.dm (p.base+i))/\
  (∀id x,(p.hp k).get id=some x->Hc.get id=some x)/\(∀b x,L b->p.un k b=true->p.kE b=some x->Hc.get (p.base+b)=some x)/\
  (∀t x,pj.get t=some x->(∀(j:Nat) (oj:Oper),ops[j]?=some oj->oj.dst=some t->¬L j)->∃u,a.tmps[t]?=some u/\VR E w.heap x u)/\
  (∀(j:Nat) (oj:Oper) (t:Nat),L j->ops[j]?=some oj->oj.dst=some t->∃u,a.tmps[t]?=some u/\VR E w.heap (p.val j) u)
theorem DJ {a:Act} {d:Option Nat} {u:Value} {t:Nat} (h:d≠some t):(a.put d u).tmps[t]?=a.tmps[t]?:=by
 cases d with
 |none=>rfl
 |some x=>
  simp only [Act.put]
  grind
theorem N? {a:Act} {u:Value} {t:Nat} (h:t<a.tmps.size):(a.put (some t) u).tmps[t]?=some u:=by simp [Act.put,h]
theorem Fx.ako: ∀(j i:Nat),p.bf i j=true->i<j/\j<ops.size:=by
 intro j
 induction j using Nat.strongRecOn with
 |_ j ih=>
  intro i h;obtain⟨o,e,g1,g2,g3,g4⟩:=p.gen i j h;have fD:=p.back j o g1 e g2 g3
  grind
theorem Fx.ac0 {i j:Nat} (h:p.bf i j=true): ∃o:Oper,ops[i]?=some o:=by have:=p.ako j i h;exact⟨ops[i]'J,ad⟩
theorem Fx.step {E0:En} {a0:Act} {w0:World} {L:Nat->Prop} {a:Act} {w:World} (hd: ∀o∈ops.toList,∀d,o.dst=some d->d<a0.tmps.size) (inv:p.Inv E0 a0 w0 L a w) {i:Nat} {o:Oper} (ho:ops[i]?=some o) (hL: ¬L i)
 (hr: ∀e∈o.after,Region.binds .any e=true->L e.on) {K:Act->World->Prop} {Q:Exit->Act->World->Prop} (hk: ∀a' w',p.Inv E0 a0 w0 (fun j=>j=i\/L j) a' w'->K a' w'):wpOp P ops Q i K a w:=by
 obtain⟨U,Z,BX,E,Hc,k,hkn,CU,hρ,Kw,rel,hnx,xY,kb,qI,hun,hhp,ni,xj,hs1⟩:=inv
 have hbf: ∀j,p.bf j i=true->L j:=by
  intro j hj;obtain⟨o',e,g1,g2,g3,g4⟩:=p.gen j i hj;rw [ho] at g1;simp at g1;subst g1;have:=hr e g2 g3;rcases g4 with rfl|g4
  ·exact this
  ·exact BX j e.on g4 this
 have hii:p.bf i i≠true:=fun h=>hL (hbf i h);have uH:i<ops.size:=(amK.1 ho).1
 have sr:SR E w.heap (p.S i) a:=by
  intro t x ht;rcases p.bE i o ho t x ht with ⟨j,oj,g1,g2,g3,g4⟩|⟨g1,g2⟩
  ·subst g4;exact hs1 j oj t (hbf j g1) g2 g3
  ·exact xj t x g1 fun j oj hj hjt hLj=>hL (BX i j (g2 j oj hj hjt) hLj)
 have I7: ∀x j,p.bf x j=true->(j=i\/L j)->(x=i\/L x):=by
  intro x j hx hj;rcases hj with rfl|hj
  ·exact .inr (hbf x hx)
  ·exact .inr (BX x j hx hj)
 have fin: ∀(u:Value) (E':En) (M7:Hp) (w':World) (k':Nat),SG E Hc w E' M7 w'->bN E' M7 w'->VR E' w'.heap (p.val i) u->k'<=p.nE->(∀(j:Nat) (o:Oper),ops[j]?=some o->p.kd j= .e->((j=i\/L j)↔p.st j<k'))->
  M7.next=(p.hp k').next->M7.res=none->Hc.next<=M7.next->(∀id,E'.dm id->E.dm id\/Hc.next<=id\/id=p.base+i)->(∀id x,(p.hp k').get id=some x->M7.get id=some x)->
  (∀b x,(b=i\/L b)->p.un k' b=true->p.kE b=some x->M7.get (p.base+b)=some x)->K (a.put o.dst u) w':=by
  intro u E' M7 w' k' q1 q2 q3 q4 q5 q6 q7 q8 q9 q10 q11;have kp:=q1.keeps rel;refine hk _ _ ⟨by rw [As.put_defers]; exact U,by rw [DI]; exact Z,I7,E',M7,k',q4,q5,q1.ρ.trans hρ,Kw.trans q1,q2,q6,q7,bk kb q8,?_,?_,q10,q11,?_,?_⟩
  ·intro id h;rcases q9 id h with h|h|h
   ·exact qI id h
   ·right;have:=p.first.1;omega
   ·right;have:=p.first.1;omega
  ·intro j oj hj hn hdj;have hj2:=(amK.1 hj).1;rcases q9 _ hdj with h|h|h
   ·exact hun j oj hj (fun h'=>hn (.inr h')) h
   ·omega
   ·exact hn (.inl J)
  ·intro t x ht Ar;obtain⟨y,g1,g2⟩:=xj t x ht fun j oj hj hjt h'=>Ar j oj hj hjt (.inr h');exact⟨y,by rw [DJ (fun e=>Ar i o ho e (.inl rfl))]; exact g1,VR.keep kp _ _ g2⟩
  ·intro j oj t hj oX ht;by_cases hji:j=i
   ·subst hji;rw [ho] at oX;simp at oX;subst oX;rw [ht];exact⟨u,N? (by rw [Z]; exact hd o (Array.mem_toList_iff.2 (aop ho)) t ht),q3⟩
   ·obtain⟨y,g1,g2⟩:=hs1 j oj t (hj.resolve_left hji) oX ht;refine⟨y,?_,VR.keep kp _ _ g2⟩;rw [DJ]
    ·exact g1
    ·intro h;exact hji (p.dst j i oj o t oX ho ht h)
 cases zx:p.kd i with
 |pa=>
  obtain⟨HA,N,g1,g2,g3,g4⟩:=p.pa i o ho zx;have hN:=g4 k hkn;have ak9:=hun i o ho hL
  have r1:bN E ⟨.nil,N,some (p.base+i)⟩ w:=rel.part (by intro id x h; simp [Hp.get,Tr.get] at h) (by show Hc.next<=N; omega) (by
   intro q hq;simp at hq;subst hq
   exact⟨by show p.base+i<N; omega,ak9⟩)
  refine g1.wpOp hρ r1 sr ho fun u E' w' st r' hv=>?_
  have hdn: ∀id,E'.dm id->E.dm id\/id=p.base+i:=by
   intro id h;rcases st.ZT id h with h|h|h
   ·exact .inl h
   ·have h':N<=id/\id<HA.next:=h;omega
   ·have h':some (p.base+i)=some id:=h;simp at h';exact .inr h'.symm
  obtain⟨M7,f1,f2,f3,f4,f5,f6⟩:=frame rel (by intro id x h; simp [Hp.get,Tr.get] at h) st r' Hc.next (fun id hid h=>by
   rcases hdn id h with h|h
   ·exact rel.fresh id hid h
   ·omega)
  refine fin u E' M7 w' k f6 f5 hv hkn ?_ (by rw [f1,hnx]) f2 J (fun id h=>(hdn id h).elim .inl fun h=> .inr (.inr h)) ?_ ?_
  ·intro j oj oX hj;rw [<- CU j oj oX hj];constructor
   ·intro h;rcases h with rfl|h
    ·rw [zx] at hj; simp at hj
    ·exact h
   ·exact .inr
  ·intro id x h;exact f4 id x (hhp id x h) (by simp [Hp.get,Tr.get])
  ·intro b x hb hu hx;by_cases hbi:b=i
   ·subst hbi;rw [hx] at g3;exact f3 _ _ g3.symm
   ·exact f4 _ x (ni b x (hb.resolve_left hbi) hu hx) (by simp [Hp.get,Tr.get])
 |e=>
  obtain⟨Kg,g1,g2,g3,g4,g5⟩:=p.ev i o ho zx
  have On:k<=p.st i:=by
   rcases aT (p.st i) k with h|h
   ·exact absurd ((CU i o ho zx).2 h) hL
   ·exact h
  have hsk:p.st i=k:=by
   rcases aT k (p.st i) with h|h
   ·obtain⟨j,e1,e2,e3⟩:=p.ahN i o ho zx k h;have hj:=hbf j e3;obtain⟨oj,oX⟩:=p.ac0 e3;have:=(CU j oj oX e1).1 hj;omega
   ·omega
  rw [hsk] at g1 g2 g4 g5;have hkE:=p.stl i o ho zx
  have nM: ∀id x,Kg.get id=some x->Hc.get id=some x:=by
   intro id x h;rcases g4 id x h with h|⟨b,e1,e2,rfl,e4⟩
   ·exact hhp id x h
   ·exact ni b x (hbf b e1) e2 e4
  have r1:bN E Kg w:=rel.part nM J (by rw [g3]; simp);refine g1.wpOp hρ r1 sr ho fun u E' w' st r' hv=>?_
  have hdn: ∀id,E'.dm id->E.dm id\/Hc.next<=id:=by
   intro id h;rcases st.ZT id h with h|h|h
   ·exact .inl h
   ·right; omega
   ·rw [g3] at h; simp at h
  obtain⟨M7,f1,f2,f3,f4,f5,f6⟩:=frame rel nM st r' (p.hp (k+1)).next (fun id hid h=>r'.fresh id hid h)
  have amj:=st.NW;refine fin u E' M7 w' (k+1) f6 f5 hv J ?_ f1 f2 J (fun id h=>(hdn id h).elim .inl fun h=> .inr (.inl h)) f3 ?_
  ·intro j oj oX hj;constructor
   ·intro h;rcases h with rfl|h
    ·omega
    ·have:=(CU j oj oX hj).1 h;omega
   ·intro h;rcases aT (p.st j) k with h'|h'
    ·exact .inr ((CU j oj oX hj).2 h')
    ·exact .inl (p.inj j i hj zx J)
  ·intro b x hb hu hx;obtain⟨e1,e2⟩:=g5 b hu;by_cases hbi:b=i
   ·subst hbi;rw [p.nob b (by rw [zx]; simp)] at hx;simp at hx
   ·refine f4 _ x (ni b x (hb.resolve_left hbi) e1 hx) ?_
    cases hy:Kg.get (p.base+b) with
    |none=>rfl
    |some y=>
     exfalso;rcases g4 _ y hy with h|⟨c,c1,c2,c3,c4⟩
     ·rw [p.unm k b x hkn hx e1] at h;simp at h
     ·have:c=b:=J
      subst this;rw [e2] at c1;simp at c1
 |r=>
  have hk1: ∀j,p.kd j= .e->p.bf j i=true->p.st j<k:=by intro j hj hb;obtain⟨oj,oX⟩:=p.ac0 hb;exact (CU j oj oX hj).1 (hbf j hb)
  have CV: ∀(j:Nat) (oj:Oper),ops[j]?=some oj->p.kd j= .e->p.bf i j=true->k<=p.st j:=by
   intro j oj oX hj hb;rcases aT (p.st j) k with h|h
   ·exact absurd (BX i j hb ((CU j oj oX hj).2 h)) hL
   ·exact h
  obtain⟨Kg,g1,g2,g3,g4⟩:=p.rd i o ho zx k hkn hk1 CV
  have nM: ∀id x,Kg.get id=some x->Hc.get id=some x:=by
   intro id x h;rcases g4 id x h with h|⟨b,e1,e2,rfl,e4⟩
   ·exact hhp id x h
   ·exact ni b x (hbf b e1) e2 e4
  have r1:bN E Kg w:=rel.part nM J (by rw [g3]; simp);refine g1.wpOp hρ r1 sr ho fun u E' w' st r' hv=>?_
  have hdn: ∀id,E'.dm id->E.dm id:=by
   intro id h;rcases st.ZT id h with h|h|h
   ·exact h
   ·omega
   ·rw [g3] at h; simp at h
  obtain⟨M7,f1,f2,f3,f4,f5,f6⟩:=frame rel nM st r' Hc.next (fun id hid h=>rel.fresh id hid (hdn id h))
  have tg: ∀id x,Hc.get id=some x->M7.get id=some x:=by
   intro id x h
   cases h':Kg.get id with
   |none=>exact f4 id x h h'
   |some y=> have:=nM id y h';rw [h] at this;simp at this;subst this;exact f3 id x h'
  refine fin u E' M7 w' k f6 f5 hv hkn ?_ (by rw [f1,hnx]) f2 J (fun id h=> .inl (hdn id h)) (fun id x h=>tg id x (hhp id x h)) ?_
  ·intro j oj oX hj;rw [<- CU j oj oX hj];constructor
   ·intro h;rcases h with rfl|h
    ·rw [zx] at hj; simp at hj
    ·exact h
   ·exact .inr
  ·intro b x hb hu hx;by_cases hbi:b=i
   ·subst hbi;rw [p.nob b (by rw [zx]; simp)] at hx;simp at hx
   ·exact tg _ x (ni b x (hb.resolve_left hbi) hu hx)
def left (l:Nat->Bool):Nat->Nat
 |0=>0
 |n+1=>left l n+(if l n then 0 else 1)
theorem QN {l l':Nat->Bool} (h: ∀j,l j=true->l' j=true): ∀n,left l' n<=left l n
 |0=>au _
 |n+1=>by
  have:=QN h n;simp only [left]
  grind
theorem QM {l l':Nat->Bool} (h: ∀j,l j=true->l' j=true) {i:Nat} (U:l i=false) (Z:l' i=true): ∀n,i<n->left l' n<left l n
 |0,hi=>by omega
 |n+1,hi=>by
  have hle:=QN h n;simp only [left];by_cases uH:i=n
  ·grind
  ·have:=QM h U Z n J
   grind
theorem A0 {l:Nat->Bool}: ∀n,left l n=0->∀i,i<n->l i=true
 |0,_,i,hi=>by omega
 |n+1,h,i,hi=>by
  simp only [left] at h;by_cases uH:i=n
  ·grind
  ·exact A0 n J i J
theorem Fx.Tt (q:Fx P ρ ops pj H0) {listed:Array Bool} (gT:listed.size=ops.size) (h:Region.ready .any ops listed= []): ∀i,i<ops.size->listed[i]?=some true:=by
 intro i
 induction i using Nat.strongRecOn with
 |_ i ih=>
  intro hi
  cases Y:listed[i]? with
  |none=>rw [aoE] at Y; omega
  |some b=>
   cases b with
   |true=>rfl
   |false=>
    exfalso;have ho:ops[i]?=some ops[i]:=by simp [hi]
    have:i∈Region.ready .any ops listed:=by rw [mem_ready];refine⟨by simp [Y],ops[i],ho,fun e he hb=>?_⟩;have fD:=q.back i _ ho e he hb;simp [ih e.on fD J]
    grind
theorem Fx.any {E0:En} {a0:Act} {w0:World} (hd: ∀o∈ops.toList,∀d,o.dst=some d->d<a0.tmps.size) {Q:Exit->Act->World->Prop} (hq: ∀a w,p.Inv E0 a0 w0 (fun i=>i<ops.size) a w->Q .normal a w) :
 ∀(fuel:Nat) (listed:Array Bool) (a:Act) (w:World),listed.size=ops.size->left (fun i=>listed.getD i true) ops.size<=fuel->p.Inv E0 a0 w0 (fun i=>listed[i]?=some true) a w->wpAny P .any ops Q fuel listed a w:=by
 have Yi: ∀(listed:Array Bool) (a:Act) (w:World),listed.size=ops.size->p.Inv E0 a0 w0 (fun i=>listed[i]?=some true) a w->Region.ready .any ops listed= []->Q .normal a w:=by
  intro listed a w gT inv nN;have tg:=p.Tt gT nN;refine hq a w ?_
  have:(fun i=>listed[i]?=some true)=(fun i=>i<ops.size):=by
   grind
  grind
 intro fuel
 induction fuel with
 |zero=>
  intro listed a w gT Rv inv;have tg:=A0 (l:=fun i=>listed.getD i true) ops.size J
  have nN:Region.ready .any ops listed= []:=by
   rw [an1];intro i hi;rw [mem_ready] at hi
   grind
  exact⟨nN,Yi listed a w gT inv nN⟩
 |succ fuel ih=>
  intro listed a w gT Rv inv;refine⟨Yi listed a w gT inv,fun i hi=>?_⟩;rw [mem_ready] at hi;obtain⟨U,o,Z,h3⟩:=hi;have uH:=(amK.1 Z).1
  have ru:listed[i]?=some false:=by simp_all
  refine p.step hd inv Z (by rw [ru]; simp) (fun e he hb=>?_) fun a' w' amo=>?_
  ·have:=h3 e he hb
   cases hc:listed[e.on]? with
   |none=>simp [hc] at this
   |some b=>simp [hc] at this; rw [this]
  ·refine ih _ a' w' (by simpa using gT) ?_ ?_
   ·have:=QM (l:=fun j=>listed.getD j true) (l':=fun j=>(listed.setIfInBounds i true).getD j true) (i:=i) (fun j hj=>?_) U ?_ ops.size uH
    ·omega
    ·by_cases hij:i=j
     all_goals simp_all
    simp_all
   grind
theorem Fx.start {E0:En} {s0:St} {a0:Act} {w0:World} (hs:s0.bE=pj) (hh:s0.h=H0) (hρ:E0.ρ=ρ) (fit:Fit E0 s0 a0 w0) (listed:Array Bool) (Y: ∀(i:Nat),listed[i]?≠some true):p.Inv E0 a0 w0 (fun i=>listed[i]?=some true) a0 w0:=by
 subst hs hh;obtain⟨U,Z,h3⟩:=p.first;have rel:=fit.rel;have r1:bN E0 ⟨s0.h.m,(p.hp 0).next,none⟩ w0:=rel.part (fun id x h=>h) (by show s0.h.next<=(p.hp 0).next; omega) ad;refine⟨rfl,rfl,fun i j _ h=>absurd h (Y j),E0,⟨s0.h.m,(p.hp 0).next,none⟩,0,amS _,fun j o _ _=> ⟨fun h=>absurd h (Y j),fun h=>by omega⟩,hρ,?_,r1,rfl,rfl,Z,fun id h=> .inl h,?_,fun id x h=>h3 id x h,fun b x h=>absurd h (Y b),?_,fun j oj t h=>absurd h (Y j)⟩
 ·have:=(eS.refl E0 s0.h w0).akG;exact⟨this.ρ,this.dm,this.θ,this.κ,this.ro,this.rF,this.os,this.tape,this.output,this.size,this.keep,this.own,this.hd⟩
 ·intro i o _ _ qI;exact rel.fresh _ J qI
 ·intro t x ht _;exact fit.sr t x ht
theorem Fx.finish {E0:En} {s0 s':St} {a0 a:Act} {w0 w:World} (hh:s0.h=H0) (inv:p.Inv E0 a0 w0 (fun i=>i<ops.size) a w) (hpc:bT ρ s'.pc)
 (alc: ∀t x,s'.bE.get t=some x->(∃(j:Nat) (oj:Oper),ops[j]?=some oj/\oj.dst=some t/\p.val j=x)\/(pj.get t=some x/\∀(j:Nat) (oj:Oper),ops[j]?=some oj->oj.dst≠some t))
 (amk: ∀id x,s'.h.get id=some x->(p.hp p.nE).get id=some x\/∃b,b<ops.size/\p.un p.nE b=true/\id=p.base+b/\p.kE b=some x)
 (abW:(p.hp p.nE).next=s'.h.next) (xY:s'.h.res=none) (tg: ∀(m:Nat),m<p.nE->∃(j:Nat) (o:Oper),ops[j]?=some o/\p.kd j= .e/\p.st j=m):mL E0 s0 a0 w0 s' a w:=by
 subst hh;obtain⟨U,Z,BX,E,Hc,k,hkn,CU,hρ,Kw,rel,hnx,Oh,kb,qI,hun,hhp,ni,xj,hs1⟩:=inv
 have hk:k=p.nE:=by
  rcases aT k p.nE with h|h
  all_goals grind
 subst hk
 have nM: ∀id x,s'.h.get id=some x->Hc.get id=some x:=by
  intro id x h
  grind
 have hf:=p.first.1;refine⟨U,Z,E,?_,rel.part nM J (by rw [xY]; simp),?_,by rw [hρ]; exact hpc⟩
 ·refine SG.WL ⟨Kw.ρ,Kw.dm,Kw.θ,Kw.κ,Kw.ro,Kw.rF,Kw.os,Kw.tape,Kw.output,Kw.size,Kw.keep,fun id o h=>Kw.own id o (nM id o h),Kw.hd⟩ J xY fun id h=>?_;rcases qI id h with g|g
  ·grind
  ·right;refine⟨g,?_⟩;rcases aT id s'.h.next with g'|g'
   ·exact g'
   ·exact absurd h (rel.fresh id J)
 ·intro t x ht
  grind
end
end
end Go.As
end
section
namespace Go.As
noncomputable section
mutual
def eL:W->W->Bool
 | .bool a,.bool b=>n9 a b
 | .int k a,.int l b=>decide (k=l)&&eT a b
 | .str a,.str b=>decide (a=b)
 | .ptr i o,.ptr j p=>decide (i=j)&&decide (o=p)
 | .sV,.sV=>true
 | .mJ a,.mJ b=>iA a b
 | .slice i o l c,.slice j p m d=>decide (i=j)&&decide (o=p)&&decide (l=m)&&decide (c=d)
 | .dv,.dv=>true
 | .ro a n f,.ro b m g=>iA a b&&decide (n=m)&&decide (f=g)
 | .map i,.map j=>decide (i=j)
 | .ri,.ri=>true
 | .func f a b,.func g c d=>decide (f=g)&&iA a c&&iA b d
 | .u4,.u4=>true
 | .iface t v,.iface u x=>decide (t=u)&&eL v x
 | .wY,.wY=>true
 | .agg a,.agg b=>iA a b
 | .tuple a,.tuple b=>iA a b
 | .Kc i,.Kc j=>decide (i=j)
 | .wy i a,.wy j b=>decide (i=j)&&decide (a=b)
 | .emp,.emp=>true
 | .eg a t,.eg b u=>eT a b&&Nat.beq t u
 | .jD a,.jD b=>eT a b
 | .oq i n t,.oq j m u=>Nat.beq i j&&eT n m&&Nat.beq t u
 | .yu i a x o,.yu j b y p=>Nat.beq i j&&Nat.beq a b&&eT x y&&Nat.beq o p
 | .sD i l n t,.sD j k m u=>Nat.beq i j&&eT l k&&eT n m&&Nat.beq t u
 | .any,.any=>true
 | .w4 a t,.w4 b u=>eT a b&&Nat.beq t u
 |_,_=>false
def iA:List W->List W->Bool
 |[],[]=>true
 |x::xs,y::ys=>eL x y&&iA xs ys
 |_,_=>false
end
mutual
theorem jF: ∀(x y:W),eL x y=true->x=y
 | .bool a,y,h=>by cases y<;>simp [eL] at h<;>rw [rR _ _ h]
 | .int k a,y,h=>by cases y<;>simp [eL] at h<;>rw [h.1,cH _ _ h.2]
 | .str a,y,h=>by cases y<;>simp [eL] at h<;>simp [h]
 | .ptr i o,y,h=>by cases y<;>simp [eL] at h<;>simp [h]
 | .sV,y,h=>by cases y<;>simp [eL] at h<;>rfl
 | .mJ a,y,h=>by cases y<;>simp [eL] at h; rw [fK _ _ h]
 | .slice i o l c,y,h=>by cases y<;>simp [eL] at h<;>simp [h]
 | .dv,y,h=>by cases y<;>simp [eL] at h<;>rfl
 | .ro a n f,y,h=>by cases y<;>simp [eL] at h; rw [fK _ _ h.1.1,h.1.2,h.2]
 | .map i,y,h=>by cases y<;>simp [eL] at h<;>simp [h]
 | .ri,y,h=>by cases y<;>simp [eL] at h<;>rfl
 | .func f a b,y,h=>by cases y<;>simp [eL] at h; rw [h.1.1,fK _ _ h.1.2,fK _ _ h.2]
 | .u4,y,h=>by cases y<;>simp [eL] at h<;>rfl
 | .iface t v,y,h=>by cases y<;>simp [eL] at h; rw [h.1,jF _ _ h.2]
 | .wY,y,h=>by cases y<;>simp [eL] at h<;>rfl
 | .agg a,y,h=>by cases y<;>simp [eL] at h; rw [fK _ _ h]
 | .tuple a,y,h=>by cases y<;>simp [eL] at h; rw [fK _ _ h]
 | .Kc i,y,h=>by cases y<;>simp [eL] at h<;>simp [h]
 | .wy i a,y,h=>by cases y<;>simp [eL] at h<;>simp [h]
 | .emp,y,h=>by cases y<;>simp [eL] at h<;>rfl
 | .eg a t,y,h=>by cases y<;>simp [eL] at h<;>rw [h.2,cH _ _ h.1]
 | .jD a,y,h=>by cases y<;>simp [eL] at h<;>rw [cH _ _ h]
 | .oq i n t,y,h=>by cases y<;>simp [eL] at h<;>rw [h.1.1,cH _ _ h.1.2,h.2]
 | .yu i a x o,y,h=>by cases y<;>simp [eL] at h<;>rw [h.1.1.1,h.1.1.2,cH _ _ h.1.2,h.2]
 | .sD i l n t,y,h=>by cases y<;>simp [eL] at h<;>rw [h.1.1.1,cH _ _ h.1.1.2,cH _ _ h.1.2,h.2]
 | .any,y,h=>by cases y<;>simp [eL] at h<;>rfl
 | .w4 a t,y,h=>by cases y<;>simp [eL] at h<;>rw [h.2,cH _ _ h.1]
theorem fK: ∀(xs ys:List W),iA xs ys=true->xs=ys
 |[],ys,h=>by cases ys<;>simp [iA] at h; rfl
 |x::xs,ys,h=>by
  cases ys with
  |nil=>simp [iA] at h
  |cons y ys=>simp [iA] at h; rw [jF _ _ h.1,fK _ _ h.2]
end
def DS (o:Op):List Nat:=o.operands.toList.filterMap fun
 | .tmp t=>some t
 |_=>none
def reads (all:List Oper) (o:Oper):List Nat:=match o.guard with
 |none=>DS o.op
 |some (j,_)=>match eX all j with
  |some oj=>match oj.dst with
   |some d=>d::DS o.op
   |none=>DS o.op
  |none=>DS o.op
def kindOf (tt:TT):Op->Kind
 | .load _ _=> .r
 | .lookup _ _ _ _=> .r
 | .call c=>match c.callee with
   | .builtin b=>match b with
     | .len=> .r
     | .min=> .pa
     | .max=> .pa
     |_=> .e
   |_=> .e
 | .store _ _ _=> .e
 | .insert _ _ _ _=> .e
 | .mapUpdate _ _ _ _=> .e
 | .next _ _=> .e
 | .range _ _=> .e
 | .convert t u _=>match tt t with
   |some i=>match i.kind with
    | .slice _=>match tt u with
      |some j=>match j.kind with
       | .string=> .r
       |_=> .e
      |none=> .e
    |_=> .pa
   |none=> .e
 | .panic _=> .e
 |_=> .pa
def nY (ms:List Nat):List Edge->Nat
 |[]=>0
 |e::es=>if Region.binds .any e then ((1 <<<e.on)|||ms.getD e.on 0)|||nY ms es else nY ms es
def qF:List Oper->List Nat->List Nat
 |[],ms=>ms
 |o::os,ms=>qF os (ms++ [nY ms o.after.toList])
structure Item where
 i:Nat
 o:Oper
 m:Nat
 k:Kind
 st:Nat
 rd:List Nat
def items (tt:TT) (all:List Oper) (ms:List Nat):List Oper->Nat->Nat->List Item
 |[],_,_=>[]
 |o::os,i,n=> ⟨i,o,ms.getD i 0,kindOf tt o.op,n,reads all o⟩ ::items tt all ms os (i+1) (match kindOf tt o.op with | .e=>n+1|_=>n)
def Kind.isE:Kind->Bool
 | .e=>true
 |_=>false
def Kind.V?:Kind->Bool
 | .r=>true
 |_=>false
def xK (ms:List Nat) (is:List Item) (x:Item):Bool:=
 x.o.after.toList.all (fun e=>!Region.binds .any e||decide (e.on<x.i))&&
 decide (x.m=nY ms x.o.after.toList)&&
 x.rd.all (fun t=>is.all fun y=>decide (y.o.dst≠some t)||x.m.testBit y.i||(!x.k.V?&&y.m.testBit x.i))&&
 is.all (fun y=>decide (y.i=x.i)||(match y.o.dst with |some d=>decide (x.o.dst≠some d)|none=>true))&&
 (!x.k.isE||is.all fun y=>!y.k.isE||!decide (y.i<x.i)||x.m.testBit y.i)
def AE (is:List Item) (n:Nat) (x:Item):List Nat:=
 (List.range (n+1)).filter fun k=>is.all fun y=>!y.k.isE||((!x.m.testBit y.i||decide (y.st<k))&&(!y.m.testBit x.i||decide (k<=y.st)))
structure Stat where
 is:List Item
 nE:Nat
 rs:List (Item×List Nat)
def jN:List Item->Nat
 |[]=>0
 |x::xs=>match x.k with | .e=>jN xs+1|_=>jN xs
def stat (tt:TT) (all:List Oper):Option Stat:=
 let ms:=qF all [];let is:=items tt all ms all 0 0
 if is.all (xK ms is) then
  some ⟨is,jN is,(is.filter (·.k.V?)).map fun x=>(x,AE is (jN is) x)⟩
 else none
def only (bE:Tr W):List Nat->Tr W
 |[]=> .nil
 |t::ts=>match bE.get t with
  |some v=>(only bE ts).put t (some v)
  |none=>only bE ts
structure Px where
 bE:Tr W
 lW:List (Hp×Nat)
 hY:List (Nat×dP)
 BL:List (Option dP)
 vs:List W
def fF (base bm mm:Nat):List (Nat×dP)->Hp->Hp
 |[],h=>h
 |(a,x)::r,h=>if bm.testBit a&&!mm.testBit a then (fF base bm mm r h).put (base+a) x else fF base bm mm r h
def w_ (tt:TT) (call:ek) (all:List Oper) (o:Oper) (s:St):T (W×St):=
 wb all s o fun s b=>if b then Jq tt call s o.op else .ret (W.undef,s)
def uQ (bE:Tr W) (d:Option Nat) (v:W):Tr W:=match d with
 |some t=>bE.put t (some v)
 |none=>bE
def Z0 (tt:TT) (call:ek) (all:List Oper) (base N:Nat) (pc:List (SB×Bool)) (x:Item) (d:Px):T Px:=
 match d.lW with
 |[]=> .fail
 |(h,mm)::rest=>
  match x.k with
  | .pa=>(w_ tt call all x.o ⟨only d.bE x.rd,⟨.nil,N,some (base+x.i)⟩,pc⟩).bind fun (v,s')=>
    if s'.h.next=N then
     .ret ⟨uQ d.bE x.o.dst v,d.lW,match s'.h.get (base+x.i) with |some b=>(x.i,b)::d.hY|none=>d.hY,s'.h.get (base+x.i)::d.BL,v::d.vs⟩
    else .fail
  | .e=>(w_ tt call all x.o ⟨only d.bE x.rd,fF base x.m mm d.hY h,pc⟩).bind fun (v,s')=>
    if s'.h.next<=N/\s'.h.res=none then
     .ret ⟨uQ d.bE x.o.dst v,(s'.h,mm|||x.m)::(h,mm)::rest,d.hY,none::d.BL,v::d.vs⟩
    else .fail
  | .r=>(w_ tt call all x.o ⟨only d.bE x.rd,fF base x.m mm d.hY h,pc⟩).bind fun (v,_)=>
    .ret ⟨uQ d.bE x.o.dst v,d.lW,d.hY,none::d.BL,v::d.vs⟩
def T.Am {α β:Type} (pc:List (SB×Bool)) (f:List (SB×Bool)->α->T β):T α->T β
 | .fail=> .fail
 | .ret a=>f pc a
 | .split c x y=>match jR pc c with
   |some true=>T.Am pc f x
   |some false=>T.Am pc f y
   |none=> .split c (T.Am ((c,true)::pc) f x) (T.Am ((c,false)::pc) f y)
def Ut (tt:TT) (call:ek) (all:List Oper) (base N:Nat):List Item->List (SB×Bool)->Px->T (List (SB×Bool)×Px)
 |[],pc,d=> .ret (pc,d)
 |x::xs,pc,d=>(Z0 tt call all base N pc x d).Am pc (Ut tt call all base N xs)
def CG (tt:TT) (call:ek) (all:List Oper) (base:Nat) (pc:List (SB×Bool)) (x:Item) (v:W) (S:Tr W) (hY:List (Nat×dP)) (lW:List (Hp×Nat)):List Nat->T Unit
 |[]=> .ret ()
 |k::ks=>match eX lW k with
  |some (h,mm)=>(w_ tt call all x.o ⟨S,fF base x.m mm hY h,pc⟩).bind fun (u,_)=>
   if eL u v then CG tt call all base pc x v S hY lW ks else .fail
  |none=> .fail
def It (tt:TT) (call:ek) (all:List Oper) (base:Nat) (d:Px) (lW:List (Hp×Nat)) (vs:List W):List (Item×List Nat)->List (SB×Bool)->T (List (SB×Bool))
 |[],pc=> .ret pc
 |(x,ks)::r,pc=>match eX vs x.i with
  |some v=>(CG tt call all base pc x v (only d.bE x.rd) d.hY lW ks).Am pc fun pc _=>It tt call all base d lW vs r pc
  |none=> .fail
def H4 (base:Nat) (hY:List (Nat×dP)) (lW:List (Hp×Nat)):Bool:=
 hY.all fun (a,_)=>lW.all fun (h,mm)=>mm.testBit a||(h.get (base+a)).isNone
def EY (tt:TT) (call:ek) (all:List Oper) (q:Stat) (s:St):T St:=
 match s.h.res with
 |some _=> .fail
 |none=>
 let base:=s.h.next;let n:=all.length;let N:=base+n+1099511627776
 (Ut tt call all base N q.is s.pc ⟨s.bE,[(⟨s.h.m,base+n,none⟩,0)],[],[],[]⟩).bind fun (pc,d)=>
  match d.lW with
  |[]=> .fail
  |(h,mm)::_=>
   (It tt call all base d d.lW.reverse d.vs.reverse q.rs pc).bind fun pc=>
    if H4 base d.hY d.lW then .ret ⟨d.bE,fF base ((1 <<<n)-1) mm d.hY h,pc⟩ else .fail
def draw (tt:TT) (call:ek) (all:List Oper) (s:St):T St:=
 match stat tt all with
 |none=> .fail
 |some q=>EY tt call all q s
end
end Go.As
end
section
namespace Go.As
section
variable {P:Program}
theorem JF [bG] {tt:TT} (cJ:eB P tt) {call:ek} (hc:im P call) {ops:Array Oper} {o:Oper} {s s':St} {v:W} {ρ:Nat->Int} (hp:bT ρ s.pc) (h:(w_ tt call ops.toList o s).leaf ρ=some (v,s')) :
 FB P ρ ops o s.bE s.h v s'.h:=by
 intro E a w hρ r sr;subst hρ;unfold w_ at h;obtain⟨ea,fA,U⟩:=DT ⟨r,sr,hp⟩ h;cases hw:Region.wanted o (yielded ops a.tmps)<;>rw [hw] at U
 ·grind [bC]
 ·simp only [if_true] at U;obtain⟨_,_,q3⟩:=RQ cJ hc (s:={ s with pc:=ea }) (o:=o) r sr fA U;exact .inr ⟨rfl,q3⟩
theorem iC {α:Type} {ρ:Nat->Int} {s:St} {c:SB} {f:St->Bool->T α} {r:α} (h:(jn s c f).leaf ρ=some r): ∃ea b,(f { s with pc:=ea } b).leaf ρ=some r:=by
 unfold jn at h;split at h
 ·rename_i b _; exact⟨s.pc,b,h⟩
 grind [T.leaf]
theorem ID {α:Type} {ρ:Nat->Int} {s:St} {all:List Oper} {o:Oper} {f:St->Bool->T α} {r:α} (h:(wb all s o f).leaf ρ=some r): ∃ea b,(f { s with pc:=ea } b).leaf ρ=some r:=by
 unfold wb at h;split at h
 ·exact⟨s.pc,true,h⟩
 ·split at h
  ·split at h
   ·split at h
    ·obtain⟨ea,b,U⟩:=iC h; exact⟨ea,_,U⟩
    ·exact⟨s.pc,_,h⟩
    grind [T.leaf]
   grind [T.leaf]
  grind [T.leaf]
theorem DU {ρ:Nat->Int} {s:St} {x:Operand} {f:W->T (W×St)} {r:W×St} (h:(yZ s x f).leaf ρ=some r): ∃v,(f v).leaf ρ=some r:=by
 grind [yZ,T.leaf]
theorem v7 {ρ:Nat->Int} {s s':St} {x:Option W} {v:W} (h:(pz s x).leaf ρ=some (v,s')):s'=s:=by
 unfold pz at h
 grind [bC,T.leaf]
theorem aez {tt:TT} {op:Op} (h:kindOf tt op= .r):(∃t x,op= .load t x)\/(∃t x i ok,op= .lookup t x i ok)\/(∃c:Call,op= .call c/\c.callee= .builtin .len)\/∃t u x i j e,op= .convert t u x/\tt t=some i/\i.kind= .slice e/\tt u=some j/\j.kind= .string:=by
 unfold kindOf at h;split at h<;>try (simp at h; done)
 all_goals grind
theorem GH {α:Type} {ρ:Nat->Int} {s:St} {i n:V} {f:St->T α} {r:α} (h:(za s i n f).leaf ρ=some r): ∃ea,(f { s with pc:=ea }).leaf ρ=some r:=by
 unfold za at h;obtain⟨fI,b1,U⟩:=iC h;split at U
 ·grind [T.leaf]
 ·obtain⟨jH,b2,Z⟩:=iC U
  grind [T.leaf]
theorem tG {α:Type} {ρ:Nat->Int} {kk:TK} {k:W} {r:α} {f:St->T α}: ∀{es:List (W×W×Nat)} {s:St},(tI kk k es s f).leaf ρ=some r->∃ea,(f { s with pc:=ea }).leaf ρ=some r
 |[],s,h=> ⟨s.pc,h⟩
 |(k',v,b)::es,s,h=>by
  simp only [tI] at h;split at h
  ·split at h
   ·exact⟨s.pc,h⟩
   ·exact tG h
  ·split at h
   ·obtain⟨fI,b1,U⟩:=iC h;split at U
    ·grind
    ·obtain⟨jH,Z⟩:=tG U
     grind
   ·exact⟨s.pc,h⟩
theorem FF {α:Type} {ρ:Nat->Int} {tt:TT} {t:Nat} {m k:W} {r:α} {f:St->T α} {s:St} (h:(nF tt t m k s f).leaf ρ=some r): ∃ea,(f { s with pc:=ea }).leaf ρ=some r:=by
 unfold nF at h;split at h
 ·split at h
  ·split at h
   ·split at h
    ·exact tG h
    ·exact⟨s.pc,h⟩
   ·exact⟨s.pc,h⟩
  ·exact⟨s.pc,h⟩
 ·exact⟨s.pc,h⟩
theorem aap {s s':St} {cs:List W} {e:V} {v:W} {ρ:Nat->Int} (h:(Hs s cs e).leaf ρ=some (v,s')):s'.h=s.h:=by
 grind [Hs,T.leaf,GH,bC]
theorem Un {tt:TT} {s s':St} {ty t:Nat} {k:W} {ok:Bool} {e:V} {v:W} {ρ:Nat->Int} (h:(zT tt ty k ok e t s).leaf ρ=some (v,s')):s'.h=s.h:=by
 unfold zT at h;split at h
 ·grind [T.leaf]
 ·split at h
  ·grind [T.leaf]
  ·obtain⟨ea,b,U⟩:=iC h
   grind [bC]
theorem Bt {α:Type} {ρ:Nat->Int} {i:V} {r:α}: ∀{ov:List (V×List W)} {s:St} {k:St->T α},(uK i ov s k).leaf ρ=some r->∃ea,(k { s with pc:=ea }).leaf ρ=some r
 |[],s,k,h=> ⟨s.pc,h⟩
 |(j,c)::l,s,k,h=>by
  simp only [uK] at h;split at h
  ·exact⟨s.pc,h⟩
  ·obtain⟨fI,b1,U⟩:=iC h;split at U
   ·grind
   ·obtain⟨jH,Z⟩:=Bt U
    grind
theorem Uo {tt:TT} {s s':St} {ty id es off:Nat} {i:V} {v:W} {ρ:Nat->Int} (h:(zV tt s ty id es i off).leaf ρ=some (v,s')):s'.h=s.h:=by
 unfold zV at h;split at h
 ·split at h
  ·grind [T.leaf,aap]
  ·split at h
   all_goals grind [GH,Bt,v7,T.leaf]
  grind [T.leaf]
 grind [T.leaf]
theorem zM {α:Type} {ρ:Nat->Int} {x:V} {r:α}: ∀{ov:List (V×W)} {s:St} {k:Option W->St->T α},(tz x ov s k).leaf ρ=some r->∃o ea,(k o { s with pc:=ea }).leaf ρ=some r
 |[],s,k,h=> ⟨none,s.pc,h⟩
 |(j,c)::l,s,k,h=>by
  simp only [tz] at h;split at h
  ·exact⟨_,s.pc,h⟩
  ·obtain⟨fI,b1,U⟩:=iC h;split at U
   ·exact⟨_,fI,U⟩
   ·obtain⟨o,jH,Z⟩:=zM U;exact⟨o,jH,Z⟩
theorem Um {tt:TT} {ty:Nat} {k:W} {ok:Bool} {e:V} {ov:List (V×W)} {s s':St} {v:W} {ρ:Nat->Int} (h:(zS tt ty k ok e ov s).leaf ρ=some (v,s')):s'.h=s.h:=by
 unfold zS at h;split at h
 ·simp [T.leaf] at h
 ·split at h
  ·simp [T.leaf] at h
  ·obtain⟨o,fI,U⟩:=zM h;split at U
   ·have:=bC U;simp only [ak] at this;rw [<- this.2]
   ·obtain⟨jH,b2,Z⟩:=iC U;split at Z
    ·have:=bC Z;simp only [ak] at this;rw [<- this.2]
    ·simp [T.leaf] at Z
theorem aff {tt:TT} {call:ek} {op:Op} {s s':St} {v:W} {ρ:Nat->Int} (hk:kindOf tt op= .r) (h:(Jq tt call s op).leaf ρ=some (v,s')):s'.h=s.h:=by
 rcases aez hk with ⟨t,x,rfl⟩|⟨t,x,i,ok,rfl⟩|⟨c,rfl,hc⟩|⟨t,u,x,i,j,e,rfl,hi,he,hj,hs⟩
 ·grind [Jq,DU,Uo,v7]
 ·grind [Jq,DU,Un,Um,FF,v7,T.leaf]
 ·simp only [Jq,Jz] at h;split at h
  ·grind [T.leaf]
  ·rw [hc] at h;simp only [wJ] at h
   grind [v7,T.leaf]
 ·simp only [Jq] at h;obtain⟨p,U⟩:=DU h;split at U
  ·grind [C4,T.leaf]
  obtain⟨H,e1,rfl⟩:=py U;unfold oZ at e1;rw [hi,hj] at e1;simp only [hs,he] at e1;split at e1
  ·grind
  ·split at e1
   ·split at e1
    ·grind
    ·split at e1
     ·rw [aO] at e1
      grind
     grind
    grind
   grind
theorem ajw {tt:TT} {call:ek} {all:List Oper} {o:Oper} {s s':St} {v:W} {ρ:Nat->Int} (hk:kindOf tt o.op= .r) (h:(w_ tt call all o s).leaf ρ=some (v,s')):s'.h=s.h:=by
 unfold w_ at h;obtain⟨ea,b,U⟩:=ID h;cases b
 ·grind [bC]
 ·simp only [if_true] at U;exact aff (s:={ s with pc:=ea }) hk U
theorem n6 {base bm mm:Nat}: ∀{l:List (Nat×dP)} {h:Hp} {id:Nat} {x:dP},(fF base bm mm l h).get id=some x->h.get id=some x\/∃a,(a,x)∈l/\bm.testBit a=true/\mm.testBit a=false/\id=base+a
 |[],h,id,x,hh=> .inl hh
 |(a,y)::r,h,id,x,hh=>by
  simp only [fF] at hh;split at hh
  ·rename_i hb;rw [Hp.bP] at hh;split at hh
   ·rename_i e
    grind
   ·rcases n6 hh with U|⟨b,U,Z⟩
    all_goals grind
  ·rcases n6 hh with U|⟨b,U,Z⟩
   all_goals grind
theorem jl {base bm mm:Nat}: ∀(l:List (Nat×dP)) (h:Hp),(fF base bm mm l h).next=h.next/\(fF base bm mm l h).res=h.res
 |[],h=> ⟨rfl,rfl⟩
 |(a,y)::r,h=>by
  have:=jl (base:=base) (bm:=bm) (mm:=mm) r h;simp only [fF];split
  ·exact this
  grind
theorem yY {bE:Tr W}: ∀{ts:List Nat} {t:Nat} {x:W},(only bE ts).get t=some x->t∈ts/\bE.get t=some x
 |[],t,x,h=>by simp [only,Tr.get] at h
 |u::us,t,x,h=>by
  simp only [only] at h;split at h
  ·rename_i v hv;rw [Tr.bP] at h;split at h
   ·rename_i e
    grind
   ·have:=yY h
    grind
  ·have:=yY h
   grind
theorem vY {bE:Tr W} {d:Option Nat} {v:W} {t:Nat}:(uQ bE d v).get t=if d=some t then some v else bE.get t:=by
 cases d with
 |none=>simp [uQ]
 |some u=>
  grind [uQ,Tr.bP]
theorem oQ {ms:List Nat} {i:Nat}: ∀{es:List Edge},(nY ms es).testBit i=true->∃e∈es,Region.binds .any e=true/\(e.on=i\/(ms.getD e.on 0).testBit i=true)
 |[],h=>by simp [nY] at h
 |e::es,h=>by
  simp only [nY] at h;split at h
  ·rename_i hb;simp only [Nat.testBit_or,ane] at h;rcases h with (h|h)|h
   ·rw [Nat.shiftLeft_eq,anl,Nat.testBit_two_pow] at h
    grind
   ·grind
   ·obtain⟨e',U,Z⟩:=oQ h
    grind
  ·obtain⟨e',U,Z⟩:=oQ h
   grind
def jk (tt:TT):List Oper->Nat
 |[]=>0
 |o::os=>(match kindOf tt o.op with | .e=>1|_=>0)+jk tt os
theorem jI {tt:TT} {all:List Oper} {ms:List Nat}: ∀(os:List Oper) (i n j:Nat),(items tt all ms os i n)[j]?=(os[j]?).map fun o=> ⟨i+j,o,ms.getD (i+j) 0,kindOf tt o.op,n+jk tt (os.take j),reads all o⟩
 |[],i,n,j=>by simp [items]
 |o::os,i,n,j=>by
  simp only [items]
  cases j with
  |zero=>simp [jk]
  |succ j=>
   rw [aH,jI os]
   grind [jk]
theorem sY {tt:TT} {all:List Oper} {ms:List Nat}: ∀(os:List Oper) (i n:Nat),(items tt all ms os i n).length=os.length
 |[],i,n=>rfl
 |o::os,i,n=>by simp [items,sY os]
theorem mF {tt:TT} {all:List Oper} {ms:List Nat}: ∀(os:List Oper) (i n:Nat),jN (items tt all ms os i n)=jk tt os
 |[],i,n=>rfl
 |o::os,i,n=>by
  simp only [items,jN,jk,mF os]
  grind
end
section
variable {P:Program}
def Fv [bG] (P:Program) (ρ:Nat->Int) (ops:Array Oper) (base N:Nat) (x:Item) (d:Px) (v:W) (ob:Option dP) (d1:Px):Prop:=
 ∃h mm rest,d.lW=(h,mm)::rest/\match x.k with
  | .pa=>d1.lW=d.lW/\∃HA,FB P ρ ops x.o (only d.bE x.rd) ⟨.nil,N,some (base+x.i)⟩ v HA/\HA.next=N/\ob=HA.get (base+x.i)
  | .e=>ob=none/\∃hn,d1.lW=(hn,mm|||x.m)::d.lW/\hn.next<=N/\hn.res=none/\FB P ρ ops x.o (only d.bE x.rd) (fF base x.m mm d.hY h) v hn
  | .r=>ob=none/\d1.lW=d.lW
theorem ZZ [bG] {tt:TT} (cJ:eB P tt) {call:ek} (hc:im P call) {ops:Array Oper} {base N:Nat} {pc:List (SB×Bool)} {ρ:Nat->Int} (hp:bT ρ pc) {x:Item} {d d1:Px} (h:(Z0 tt call ops.toList base N pc x d).leaf ρ=some d1) :
 ∃v ob,d1.bE=uQ d.bE x.o.dst v/\d1.vs=v::d.vs/\d1.BL=ob::d.BL/\d1.hY=(match ob with |some b=>(x.i,b)::d.hY|none=>d.hY)/\Fv P ρ ops base N x d v ob d1:=by
 unfold Z0 at h;split at h
 ·grind [T.leaf]
 ·rename_i h0 mm rest hs;split at h
  ·rename_i hk;obtain⟨⟨v,s'⟩,U,Z⟩:=T.fg h;have ha:=JF cJ hc (s:=⟨only d.bE x.rd,⟨.nil,N,some (base+x.i)⟩,pc⟩) hp U;simp only at Z;split at Z
   ·rename_i hn;have:=bC Z;subst this;refine⟨v,s'.h.get (base+x.i),rfl,rfl,rfl,?_,h0,mm,rest,hs,?_⟩
    all_goals grind
   grind [T.leaf]
  ·rename_i hk;obtain⟨⟨v,s'⟩,U,Z⟩:=T.fg h;have ha:=JF cJ hc (s:=⟨only d.bE x.rd,fF base x.m mm d.hY h0,pc⟩) hp U;simp only at Z;split at Z
   ·rename_i hn;have:=bC Z;subst this;refine⟨v,none,rfl,rfl,rfl,rfl,h0,mm,rest,hs,?_⟩
    grind
   ·simp [T.leaf] at Z
  ·rename_i hk;obtain⟨⟨v,s'⟩,U,Z⟩:=T.fg h;have:=bC Z;subst this;refine⟨v,none,rfl,rfl,rfl,rfl,h0,mm,rest,hs,?_⟩
   grind
theorem Fv.lW [bG] {ρ:Nat->Int} {ops:Array Oper} {base N:Nat} {x:Item} {d d1:Px} {v:W} {ob:Option dP} (h:Fv P ρ ops base N x d v ob d1): ∃pre,d1.lW=pre++d.lW/\pre.length=jN [x]:=by
 obtain⟨h0,mm,rest,hs,U⟩:=h;cases hk:x.k<;>rw [hk] at U
 ·simp_all [jN]
 ·obtain⟨_,hn,Z,_⟩:=U;exact⟨[(hn,mm|||x.m)],by rw [Z]; rfl,by simp [jN,hk]⟩
 simp_all [jN]
theorem Fv.nxt [bG] {ρ:Nat->Int} {ops:Array Oper} {base N:Nat} {x:Item} {d d1:Px} {v:W} {ob:Option dP} (h:Fv P ρ ops base N x d v ob d1) (hh: ∀q∈d.lW,q.1.next<=N/\q.1.res=none): ∀q∈d1.lW,q.1.next<=N/\q.1.res=none:=by
 obtain⟨h0,mm,rest,hs,U⟩:=h
 grind
structure akw [bG] (P:Program) (ρ:Nat->Int) (ops:Array Oper) (base N:Nat) (xs:List Item) (d d':Px):Prop where
 vs: ∃pre,d'.vs=pre++d.vs/\pre.length=xs.length
 BL: ∃pre,d'.BL=pre++d.BL/\pre.length=xs.length
 lW: ∃pre,d'.lW=pre++d.lW/\pre.length=jN xs
 kE: ∀a b,(a,b)∈d'.hY->(a,b)∈d.hY\/∃p x,xs[p]?=some x/\x.i=a/\d'.BL.reverse[d.BL.length+p]?=some (some b)
 alY: ∀p x b,xs[p]?=some x->d'.BL.reverse[d.BL.length+p]?=some (some b)->(x.i,b)∈d'.hY
 amA: ∀q,q∈d.hY->q∈d'.hY
 slot: ∀t x,d'.bE.get t=some x->(∃p y,xs[p]?=some y/\y.o.dst=some t/\d'.vs.reverse[d.vs.length+p]?=some x)\/(d.bE.get t=some x/\∀y∈xs,y.o.dst≠some t)
 same: ∀t,(∀y∈xs,y.o.dst≠some t)->d'.bE.get t=d.bE.get t
 nxt:(∀q∈d.lW,q.1.next<=N/\q.1.res=none)->∀q∈d'.lW,q.1.next<=N/\q.1.res=none
 at_: ∀p x,xs[p]?=some x->∃dp Us v ob pre,Fv P ρ ops base N x dp v ob Us/\d'.vs.reverse[d.vs.length+p]?=some v/\d'.BL.reverse[d.BL.length+p]?=some ob/\d'.lW=pre++Us.lW/\dp.lW.length=d.lW.length+jN (xs.take p)/\
  (∀q,q∈dp.hY->q∈d'.hY)/\(∀t,(∀y∈xs.drop p,y.o.dst≠some t)->d'.bE.get t=dp.bE.get t)/\
  (∀t z,dp.bE.get t=some z->(∃p' y,p'<p/\xs[p']?=some y/\y.o.dst=some t/\d'.vs.reverse[d.vs.length+p']?=some z)\/(d.bE.get t=some z/\∀y∈xs.take p,y.o.dst≠some t))
theorem W7 {α:Type} {l pre l0:List α} {v:α} (h:l=pre++v::l0):l.reverse[l0.length]?=some v:=by
 grind
theorem Cb (x:Item) (xs:List Item):jN (x::xs)=jN [x]+jN xs:=by
 grind [jN]
theorem T.lQ {α β:Type} {ρ:Nat->Int} {f:List (SB×Bool)->α->T β} {r:β}: ∀{x:T α} {pc:List (SB×Bool)},bT ρ pc->(x.Am pc f).leaf ρ=some r->∃a ea,x.leaf ρ=some a/\bT ρ ea/\(f ea a).leaf ρ=some r
 | .fail,pc,_,h=>by simp [T.Am,T.leaf] at h
 | .ret a,pc,hp,h=> ⟨a,pc,rfl,hp,h⟩
 | .split c x y,pc,hp,h=>by
   simp only [T.Am] at h
   cases hd:jR pc c with
   |some b=>
    rw [hd] at h;have hb:=gD hp hd;simp only [T.leaf,hb]
    cases b with
    |true=>exact T.lQ hp h
    |false=>exact T.lQ hp h
   |none=>
    rw [hd] at h;simp only [T.leaf] at h ⊢
    cases hb:c.den ρ with
    |true=>
     rw [hb] at h
     exact T.lQ (x:=x) (pc:=(c,true)::pc) (fun c' b' hm=>by
      rcases aw.1 hm with he|hm
      ·simp only [ak] at he; rw [he.1,he.2]; exact hb
      ·exact hp c' b' hm) h
    |false=>
     rw [hb] at h
     exact T.lQ (x:=y) (pc:=(c,false)::pc) (fun c' b' hm=>by
      rcases aw.1 hm with he|hm
      ·simp only [ak] at he; rw [he.1,he.2]; exact hb
      ·exact hp c' b' hm) h
theorem R4 {tt:TT} {call:ek} {all:List Oper} {base N:Nat} {ρ:Nat->Int}: ∀(xs:List Item) {pc ea:List (SB×Bool)} {d d':Px},bT ρ pc->(Ut tt call all base N xs pc d).leaf ρ=some (ea,d')->bT ρ ea
 |[],pc,ea,d,d',hp,h=>by
  have:=bC h
  grind
 |x::xs,pc,ea,d,d',hp,h=>by simp only [Ut] at h;obtain⟨d1,fI,_,fq,Z⟩:=T.lQ hp h;exact R4 xs fq Z
theorem R5 [bG] {tt:TT} (cJ:eB P tt) {call:ek} (hc:im P call) {ops:Array Oper} {base N:Nat} {ρ:Nat->Int}: ∀(xs:List Item) {pc ea:List (SB×Bool)} {d d':Px},bT ρ pc->(Ut tt call ops.toList base N xs pc d).leaf ρ=some (ea,d')->akw P ρ ops base N xs d d'
 |[],pc,ea,d,d',hp,h=>by have:=bC h;simp only [ak] at this;obtain⟨_,rfl⟩:=this;exact⟨⟨[],rfl,rfl⟩,⟨[],rfl,rfl⟩,⟨[],rfl,rfl⟩,fun a b h=> .inl h,fun p x b hh=>by simp at hh,fun q h=>h,fun t x h=> .inr ⟨h,ad⟩,fun t _=>rfl,fun h=>h,fun p x hh=>by simp at hh⟩
 |x::xs,pc,ea,d,d',hp,h=>by
  simp only [Ut] at h;obtain⟨d1,fI,U,fq,Z⟩:=T.lQ hp h;obtain⟨v,ob,e1,e2,e3,e4,hF⟩:=ZZ cJ hc hp U;obtain⟨⟨pv,v1,v2⟩,⟨po,o1,o2⟩,⟨ps,s1,s2⟩,b1,b2,b3,sl,sm,nx,mN⟩:=R5 cJ hc xs fq Z;obtain⟨qs,t1,t2⟩:=hF.lW;have hv0:d'.vs.reverse[d.vs.length]?=some v:=W7 (by rw [v1,e2]);have ho0:d'.BL.reverse[d.BL.length]?=some ob:=W7 (by rw [o1,e3]);have hvl:d1.vs.length=d.vs.length+1:=by rw [e2]; rfl
  have hol:d1.BL.length=d.BL.length+1:=by rw [e3]; rfl
  have rI: ∀q,q∈d.hY->q∈d1.hY:=by
   intro q hq
   grind
  have xX: ∀(p n:Nat),n+1+p=n+(p+1):=by intro p n; omega
  refine⟨⟨pv++ [v],by rw [v1,e2]; simp,by simp [v2]⟩,⟨po++ [ob],by rw [o1,e3]; simp,by simp [o2]⟩,⟨ps++qs,by rw [s1,t1]; simp,by rw [aZ,Cb,s2,t2]; omega⟩,?_,?_,fun q hq=>b3 q (rI q hq),?_,?_,fun hh=>nx (hF.nxt hh),?_⟩
  ·intro a b MY;rcases b1 a b MY with hh|⟨p,y,g1,g2,g3⟩
   ·rw [e4] at hh
    cases ob with
    |none=>exact .inl hh
    |some c=>
     simp only [aw,ak] at hh;rcases hh with ⟨rfl,rfl⟩|hh
     ·exact .inr ⟨0,x,rfl,rfl,ho0⟩
     ·exact .inl hh
   ·exact .inr ⟨p+1,y,by simpa using g1,g2,by rw [<- xX,<- hol]; exact g3⟩
  ·intro p y b hy hb
   cases p with
   |zero=> simp at hy;subst hy;rw [bh,ho0] at hb;simp at hb;subst hb;exact b3 _ (by rw [e4]; simp)
   |succ p=> refine b2 p y b (by simpa using hy) ?_;rw [hol,xX];exact hb
  ·intro t y hy;rcases sl t y hy with ⟨p,z,g1,g2,g3⟩|⟨g1,g2⟩
   ·exact .inl ⟨p+1,z,by simpa using g1,g2,by rw [<- xX,<- hvl]; exact g3⟩
   ·rw [e1,vY] at g1;split at g1
    ·rename_i hd;simp at g1;subst g1;exact .inl ⟨0,x,rfl,hd,hv0⟩
    ·rename_i hd;refine .inr ⟨g1,fun z hz=>?_⟩;rcases aw.1 hz with rfl|hz
     ·exact hd
     ·exact g2 z hz
  ·intro t ht;rw [sm t fun y hy=>ht y (by simp [hy]),e1,vY,af (ht x ad)]
  ·intro p y hy
   cases p with
   |zero=> simp at hy;subst hy;refine⟨d,d1,v,ob,ps,hF,hv0,ho0,s1,by simp [jN],fun q hq=>b3 q (rI q hq),fun t ht=>?_,fun t z hz=> .inr ⟨hz,ad⟩⟩;rw [sm t fun y hy=>ht y (by simp [hy]),e1,vY,af (ht x ad)]
   |succ p=>
    obtain⟨dp,Us,v',ob',pre,g1,g2,g3,g4,g5,g6,g7,g8⟩:=mN p y (by simpa using hy);refine⟨dp,Us,v',ob',pre,g1,by rw [<- xX,<- hvl]; exact g2,by rw [<- xX,<- hol]; exact g3,g4,?_,g6,fun t ht=>g7 t (by simpa using ht),fun t z hz=>?_⟩
    ·rw [g5,anh,Cb,t1,aZ,t2];omega
    ·rcases g8 t z hz with ⟨p',y',q1,q2,q3,q4⟩|⟨q1,q2⟩
     ·exact .inl ⟨p'+1,y',J,by simpa using q2,q3,by rw [<- xX,<- hvl]; exact q4⟩
     ·rw [e1,vY] at q1;split at q1
      ·rename_i hd;simp at q1;subst q1;exact .inl ⟨0,x,J,rfl,hd,hv0⟩
      ·rename_i hd;refine .inr ⟨q1,fun u hu=>?_⟩;rw [anh] at hu;rcases aw.1 hu with rfl|hu
       ·exact hd
       ·exact q2 u hu
end
end Go.As
end

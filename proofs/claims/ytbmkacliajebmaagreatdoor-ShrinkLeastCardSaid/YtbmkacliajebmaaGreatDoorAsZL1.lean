import Derived.Test.YtbmkacliajebmaaGreatDoorAsZL0
set_option linter.unusedSectionVars false
set_option linter.unusedVariables false
set_option linter.unusedSimpArgs false
section
namespace Go.As
section
variable {P:Program} {E:En} {w:World}
theorem bO.swap [bI] {H H2:Hp} (r:bO E H w) {id:Nat} {o o':dG} (hl:H.get id=some o) (ho:OR E w.heap id o') (hg:H2.get id=some o') (hs: ∀j,j≠id->H2.get j=H.get j) (hn:H2.next=H.next) (hr:H2.res=H.res):bO E H2 w:=by
 have key: ∀j x,H2.get j=some x->∃y,H.get j=some y:=by
  intro j x hj
  grind
 refine⟨fun i hi=>r.fresh i (by rw [<- hn]; exact hi),fun q hq=>by rw [hn]; exact r.res q (by rw [<- hr]; exact hq),fun j x hj=>?_,fun i j x y hi hj he=>?_,r.pL,r.iT,?_⟩
 ·by_cases h:j=id
  ·subst h;rw [hg] at hj;simp only [ag] at hj;subst hj;exact⟨(r.live j o hl).1,ho,(r.live j o hl).2.2⟩
  ·exact r.live j x (by rw [<- hs j h]; exact hj)
 ·obtain⟨x',hx⟩:=key i x hi;obtain⟨y',hy⟩:=key j y hj;exact r.inj i j x' y' hx hy he
 ·intro b x Y;obtain⟨q1,q2,q3⟩:=r.hid b x Y;refine⟨q1,q2,fun j y hj=>?_⟩;obtain⟨y',hy⟩:=key j y hj;exact q3 j y' hy
structure Fg (H H2:Hp):Prop where
 ab: ∀j x,H.get j=some x->∃y,H2.get j=some y
 ba: ∀j x,H2.get j=some x->∃y,H.get j=some y
 next:H2.next=H.next
 res:H2.res=H.res
theorem Fg.put {H:Hp} {id:Nat} {o o':dG} (hl:H.get id=some o):Fg H (H.put id o'):=by
 refine⟨fun j x hj=>?_,fun j x hj=>?_,rfl,rfl⟩
 all_goals grind [Hp.bR]
theorem Fg.symm {H H2:Hp} (a:Fg H H2):Fg H2 H:=⟨a.ba,a.ab,a.next.symm,a.res.symm⟩
theorem eN.left {H H2 H':Hp} {E':En} {w':World} (a:Fg H H2) (s:eN E H w E' H' w'):eN E H2 w E' H' w':=
 ⟨s.ρ,s.dm,s.θ,s.κ,s.ro,fun b Y=>(s.qQ b Y).imp id (Or.imp (fun⟨i,o,U,Z⟩=>by obtain⟨y,hy⟩:=a.ab i o U; exact⟨i,y,hy,Z⟩) id),by rw [a.next]; exact s.Nh,by rw [a.res]; exact s.rsm,
  fun i hi=>by rw [a.next,a.res]; exact s.Zn i hi,s.os,s.tape,s.output,s.size,fun b Y hn=>s.bX b Y fun i o ho=>by obtain⟨y,hy⟩:=a.ab i o ho; exact hn i y hy,
  fun i o ho ff=>by obtain⟨i0,o0,U,Z⟩:=s.own i o ho ff; obtain⟨y,hy⟩:=a.ab i0 o0 U; exact⟨i0,y,hy,Z⟩,s.hd⟩
theorem eN.right {H H' H2:Hp} {E':En} {w':World} (a:Fg H' H2) (s:eN E H w E' H' w'):eN E H w E' H2 w':=
 ⟨s.ρ,s.dm,s.θ,s.κ,s.ro,s.qQ,by rw [a.next]; exact s.Nh,by rw [a.res]; exact s.rsm,
  fun i hi=>by rw [a.next]; exact s.Zn i hi,s.os,s.tape,s.output,s.size,s.bX,
  fun i o ho ff=>by obtain⟨y,hy⟩:=a.ba i o ho; exact s.own i y hy ff,s.hd⟩
theorem dO.of {ro:Nat->Prop} {h:Array Obj} {d:D} (f:Nat->Value): ∀(cs:List CK) (j:Nat),(∀i c,cs[i]?=some c->iR ro h c (d.hd (j+i)) (f (j+i)))->dO ro h cs j d ((List.range' j cs.length).map f)
 |[],j,_=>by simp [dO]
 |c::cs,j,hh=>by
  simp only [aK,List.range'_succ,aw,dO];refine⟨f j,_,rfl,by simpa using hh 0 c ad,dO.of f cs (j+1) fun i c' hi=>?_⟩;have:=hh (i+1) c' (by simpa using hi)
  grind
theorem Rd.row {ro:Nat->Prop} {h:Array Obj} {t:Nat} {d:D} {v:Value} (r:Rd ro h (.sl t) d v) {i:Nat} {x:D} (hi:d.l[i]?=some x) :
 ∃b o cap us,v= .slice (some ⟨b,o,none⟩) d.l.length cap/\ro b/\wA ro h (rowOf t) x us/\fI h b (o+i*(rowOf t).es) us:=by
 generalize hc:CK.sl t=c at r
 cases r with
 |int k n=>simp at hc
 |bool b=>simp at hc
 |str s=>simp at hc
 |nil t=>simp [D.l] at hi
 |vz t a cap=>simp [D.l] at hi
 |one t' c b o cap ds f hr fQ Y U Z=>
  simp only [CK.sl.injEq] at hc;subst hc;rw [bM] at hi ⊢;refine⟨b,o,cap,[f i],rfl,Y,?_,?_⟩
  ·rw [hr];exact⟨_,rfl,(Z i x hi).cell⟩
  ·rw [hr];intro j u hj
   grind [Row.es]
 |many t' cs b o cap rows f hr fQ Y hl U Z=>
  simp only [CK.sl.injEq] at hc;subst hc;rw [bM] at hi ⊢;rw [bn,aO] at hi;obtain⟨row,lq,rfl⟩:=hi;have hlen:=hl row (bw lq);refine⟨b,o,cap,(List.range' 0 cs.length).map (f i),ad,Y,?_,?_⟩
  ·rw [hr];refine dO.of (f i) cs 0 fun j c hj=>?_;have hjl:j<row.length:=by rw [hlen]; exact (aW.1 hj).1
   have hd:row[j]?=some row[j]:=aM hjl;rw [ay];have:(dL row).hd j=row[j]:=by simp [D.hd,hd]
   rw [this];exact (Z i row j _ c lq hd hj).cell
  ·rw [hr];intro j u hj;rw [bn,aO] at hj;obtain⟨k,hk,rfl⟩:=hj
   have hjl:j<cs.length:=by
    grind
   rw [List.getElem?_range' hjl] at hk;simp only [ag] at hk;obtain rfl:k=j:=J
   have hd:row[k]?=some row[k]:=aM J;exact U i row k _ lq hd
theorem AF (ρ:Nat->Int) (e i:V) {x:D} {k:Nat} (hi:i.den ρ=(k:Int)) (hx:(dec (e.den ρ)).l[k]?=some x):dec ((V.op .at e i).den ρ)=x:=by simp only [V.den,fc.den,bB,D.at,hi,aZ,hx,az]
theorem ng {tt:TT} (cJ:ew P tt) {ty z:Nat} (h:sV tt ty=some z): ∃el ie,P.underlying ty=some (.slice el)/\tt el=some ie/\ie.size=z:=by
 unfold sV at h;split at h
 ·rename_i ti fU;split at h
  ·rename_i el hk;simp only [hU,aO] at h;obtain⟨ie,kx,rfl⟩:=h;exact⟨el,ie,eY (cJ ty ti fU) hk,kx,rfl⟩
  grind
 grind
theorem Og {tt:TT} (cJ:ew P tt) {s s':St} (hp:bW E.ρ s.pc) {ty t:Nat} {e:V} {ix v:W} {u ui:Value} (hx:VR E w.heap (.eo e t) u) (yE:VR E w.heap ix ui) (h:(IW tt s ty t e ix).leaf E.ρ=some (v,s')) :
 s'.bE=s.bE/\s'.h=s.h/\bW E.ρ s'.pc/\∃r,(Instr.indexAt ty u ui).run P w= .ok r w/\VR E w.heap v r:=by
 unfold IW at h;split at h
 ·rename_i kd i;split at h
  ·rename_i z hz;split at h
   ·rename_i ky;obtain⟨dY,fj,U,Z,h3⟩:=nj hp h;have:=bC h3;simp only [ak] at this;obtain⟨rfl,rfl⟩:=this;refine⟨rfl,rfl,fj,?_⟩;rw [cC] at Z;simp only [VR] at hx yE;subst yE;obtain⟨el,ie,hu,kx,rfl⟩:=ng cJ hz;obtain⟨k,hk⟩ : ∃k:Nat,i.den E.ρ=(k:Int):=⟨(i.den E.ρ).toNat,J⟩;have ff:k<(dec (e.den E.ρ)).l.length:=J
    have hd:(dec (e.den E.ρ)).l[k]?=some (dec (e.den E.ρ)).l[k]:=aM ff;obtain⟨b,o,cap,us,rfl,g1,g2,g3⟩:=hx.row hd;refine⟨.pointer (some ⟨b,o+k*ie.size,none⟩),?_,?_⟩
    ·rw [hk];simp [Instr.indexAt,asIntOf,run_underlying hu,ep (cJ el ie kx),ff,eU]
    ·simp only [VR];exact⟨b,_,us,rfl,g1,by rw [fT,AF E.ρ e i hk hd]; exact g2,by rw [ky]; exact g3,g2.rm⟩
   grind [T.leaf]
  grind [T.leaf]
 grind [T.leaf]
theorem NY {tt:TT} (cJ:ew P tt) {s s':St} (hp:bW E.ρ s.pc) {ty t id:Nat} {n:V} {ix v:W} {u ui:Value} (hx:VR E w.heap (.oL id n t) u) (yE:VR E w.heap ix ui) (h:(IH tt s ty id t n ix).leaf E.ρ=some (v,s')) :
 s'.bE=s.bE/\s'.h=s.h/\bW E.ρ s'.pc/\∃r,(Instr.indexAt ty u ui).run P w= .ok r w/\VR E w.heap v r:=by
 unfold IH at h;split at h
 ·rename_i kd i;split at h
  ·rename_i z hz;split at h
   ·rename_i ky;obtain⟨dY,fj,U,Z,h3⟩:=nj hp h;have:=bC h3;simp only [ak] at this;obtain⟨rfl,rfl⟩:=this;refine⟨rfl,rfl,fj,?_⟩;simp only [VR] at hx yE;subst yE;obtain⟨hid,m,a,cap,hn,rfl,gI,hc⟩:=hx;obtain⟨el,ie,hu,kx,rfl⟩:=ng cJ hz;obtain⟨k,hk⟩ : ∃k:Nat,i.den E.ρ=(k:Int):=⟨(i.den E.ρ).toNat,J⟩;have ff:k<m:=J
    have ha:a=⟨(E.θ id).1,(E.θ id).2,none⟩:=by
     simp only [eF] at hc
     grind
    subst ha;refine⟨.pointer (some ⟨(E.θ id).1,(E.θ id).2+k*ie.size,none⟩),?_,?_⟩
    ·rw [hk];simp [Instr.indexAt,asIntOf,run_underlying hu,ep (cJ el ie kx),ff,eU]
    ·simp only [VR]
     grind
   grind [T.leaf]
  grind [T.leaf]
 grind [T.leaf]
theorem nA {ρ:Nat->Int} {pc:List (SB×Bool)} (hp:bW ρ pc) {Zo cs:List W} {i:V} {k:Nat} (hi:i.den ρ=(k:Int)): ∀{ov:List (V×List W)},nB pc Zo i ov=some cs->
 dW ρ k ov=some cs\/(dW ρ k ov=none/\cs=Zo)
 |[],h=>by simp only [nB,ag] at h; exact .inr ⟨rfl,h.symm⟩
 |(j,c)::l,h=>by
  simp only [nB] at h;simp only [dW];split at h
  ·rename_i he
   grind [cO]
  ·split at h
   ·rename_i b hd;have hd:=gp hp hd;rw [gv] at hd;split at h
    ·grind
    ·rw [beq_eq_false_iff_ne,hi] at hd;rw [af (fun q=>hd q.symm)];exact nA hp hi h
   grind
theorem vk {α:Type} {ρ:Nat->Int} {i:V} {r:α}: ∀{ov:List (V×List W)} {s:St} {k:St->T α},bW ρ s.pc->(tO i ov s k).leaf ρ=some r->∃dY,bW ρ dY/\(k { s with pc:=dY }).leaf ρ=some r
 |[],s,k,hp,h=> ⟨s.pc,hp,h⟩
 |(j,c)::l,s,k,hp,h=>by
  simp only [tO] at h;split at h
  ·exact⟨s.pc,hp,h⟩
  ·obtain⟨fA,fk,U⟩:=cH hp h;split at U
   ·grind
   ·exact vk (s:={ s with pc:=fA }) fk U
theorem iY {ρ:Nat->Int} {r:Row} {ov:List (V×List W)} (ho:sg r ov): ∀{ds:List D} {j k:Nat} {x:D},ds[k]?=some x->
 bG ρ r ov ds j=bG ρ r ov (ds.take k) j++((match dW ρ (j+k) ov with |some cs=>cs|none=>gy r (.eo x))++bG ρ r ov (ds.drop (k+1)) (j+k+1))/\(bG ρ r ov (ds.take k) j).length=k*r.es
 |[],j,k,x,h=>by simp at h
 |d::ds,j,0,x,h=>by
  simp only [aG,ag] at h;subst h;refine⟨?_,by simp [bG]⟩;simp only [List.take_zero,bG,aC,bg,ana,alN]
  try rfl
 |d::ds,j,k+1,x,h=>by
  have h':ds[k]?=some x:=by simpa using h
  have hk:k<ds.length:=(aW.1 h').1;obtain⟨U,Z⟩:=iY (ρ:=ρ) ho (j:=j+1) h';refine⟨?_,?_⟩
  ·simp only [amp,bG,alY,ana]
   grind
  grind [cD]
theorem sW {α:Type}: ∀(a b:List α),eE a.length (a++b)=some b
 |[],_=>rfl
 |x::a,b=>by simp [eE,sW a b]
theorem Ed {α:Type}: ∀{n:Nat} {a b l:List α},eE n a=some l->eE n (a++b)=some (l++b)
 |0,a,b,l,h=>by simp only [eE,ag] at h ⊢; rw [h]
 |n+1,[],b,l,h=>by simp [eE] at h
 |n+1,x::a,b,l,h=>by simp only [eE,aP] at h ⊢; exact Ed h
theorem CD {α:Type}: ∀{n:Nat} {a b l:List α},hJ n a=some l->hJ n (a++b)=some l
 |0,a,b,l,h=>by simp only [hJ] at h ⊢; exact h
 |n+1,[],b,l,h=>by simp [hJ] at h
 |n+1,x::a,b,l,h=>by
  simp only [hJ,aP] at h ⊢;split at h
  ·rename_i l' hl;rw [CD hl];exact h
  grind
theorem G7 {α:Type}: ∀{a b:Nat} {l m:List α},eE a l=some m->eE (a+b) l=eE b m
 |0,b,l,m,h=>by simp only [eE,ag] at h; subst h; rw [ay]
 |a+1,b,[],m,h=>by simp [eE] at h
 |a+1,b,x::l,m,h=>by rw [show a+1+b=(a+b)+1 by omega];simp only [eE] at h ⊢;exact G7 h
noncomputable def cN (ρ:Nat->Int) (e:V) (t:Nat) (ov:List (V×List W)):List W:=bG ρ (rowOf t) ov (dec (e.den ρ)).l 0
theorem OR.nY {h:Array Obj} {id:Nat} {e:V} {t:Nat} {ty:TypeId} {ov:List (V×List W)}:OR E h id (.vec e t ty ov)↔(sg (rowOf t) ov/\rQ (rowOf t) (dec (e.den E.ρ)))/\OR E h id (.cells (cN E.ρ e t ov) ty):=by simp only [OR,cN]
theorem bO.nY [bI] {H:Hp} (r:bO E H w) {id:Nat} {e:V} {t:Nat} {ty:TypeId} {ov:List (V×List W)} (hl:H.get id=some (.vec e t ty ov)):bO E (H.put id (.cells (cN E.ρ e t ov) ty)) w/\sg (rowOf t) ov/\rQ (rowOf t) (dec (e.den E.ρ)):=by obtain⟨U,Z⟩:=OR.nY.1 (r.live id _ hl).2.1;exact⟨r.swap hl Z (by rw [Hp.bR,ah rfl]) (fun j hj=>by rw [Hp.bR,af hj]) rfl rfl,U⟩
theorem w6 {h:Array Obj} {r:Row} {x y:V} (hd:dec (x.den E.ρ)=dec (y.den E.ρ)) {us:List Value}:cA E h (gy r x) us↔cA E h (gy r y) us:=by
 grind [fT]
theorem ZB [bI] {H:Hp} (r:bO E H w) {id:Nat} {e i:V} {t:Nat} {ty:TypeId} {ov:List (V×List W)} (hl:H.get id=some (.vec e t ty ov)) {k:Nat} (hi:i.den E.ρ=(k:Int)) (hk:(k:Int)<(dN e).den E.ρ)
 {pc:List (SB×Bool)} (hp:bW E.ρ pc) {cs:List W} (hc:nB pc (gy (rowOf t) (.op .at e i)) i ov=some cs) :
 ∃pre row post,cN E.ρ e t ov=pre++(row++post)/\pre.length=k*(rowOf t).es/\row.length=(rowOf t).es/\(∀h us,cA E h row us↔cA E h cs us)/\cs.length=(rowOf t).es:=by
 obtain⟨_,ho,tM⟩:=r.nY hl;rw [cC] at hk;have ff:k<(dec (e.den E.ρ)).l.length:=J
 have hd:(dec (e.den E.ρ)).l[k]?=some (dec (e.den E.ρ)).l[k]:=aM ff;obtain⟨U,Z⟩:=iY (ρ:=E.ρ) ho (j:=0) hd;refine⟨_,_,_,U,Z,?_⟩;rw [ay];rcases nA hp hi hc with h3|⟨h3,rfl⟩
 ·rw [h3];obtain⟨p,p1,p2,_⟩:=kq h3;have:=ho p p1
  grind
 ·rw [h3];refine⟨gG _ _,fun h us=>w6 ?_,gG _ _⟩;rw [AF E.ρ e i hi hd];simp only [V.den,bB]
theorem SS {i:TI} {l m:List W} {v:W} (h:partOf i l=some v):partOf i (l++m)=some v:=by
 unfold partOf at h ⊢;split at h
 ·rename_i ha;rw [aO] at h
  grind [CD]
 grind
theorem Gg [bI] {tt:TT} (cJ:ew P tt) {H:Hp} (r:bO E H w) {id:Nat} {cs:List W} {e:TypeId} (hl:H.get id=some (.cells cs e)) {ty:Nat} {ti:TI} (fU:tt ty=some ti) {off:Nat} {l:List W} (hd:eE off cs=some l) {v:W} (hv:partOf ti l=some v) :
 ∃x,(loadVar ty ⟨(E.θ id).1,(E.θ id).2+off,none⟩).run P w= .ok x w/\VR E w.heap v x:=by
 have hld:Av tt ty (.ptr id off) H=some v:=by
  unfold Av partOf at *;rw [fU];simp only [mq,hl,hd];split at hv
  ·exact hv
  ·split at hv
   ·simp only [ag] at hv;subst hv;rfl
   grind
 have hid:=(r.live id _ hl).1;obtain⟨x,b,o,U,Z,h3⟩:=Au cJ r (p:=.ptr id off) (u:=.pointer (some ⟨(E.θ id).1,(E.θ id).2+off,none⟩)) (by simp only [VR]; exact⟨trivial,hid⟩) hld
 grind
theorem Dj {k:IntKind}: ∀{cs:List W} {ds:List D},Dk k cs=some ds->ds.length=cs.length/\∀(i:Nat),i<cs.length->∃n,ds[i]?=some (.i n)/\cs[i]?=some (.int k (.lit n))
 |[],ds,h=>by
  simp only [Dk,ag] at h
  grind
 |v::vs,ds,h=>by
  simp only [Dk] at h;split at h
  ·split at h
   ·rename_i k' n;split at h
    ·rename_i hk;subst hk;split at h
     ·rename_i ds' vK;simp only [ag] at h;subst h;obtain⟨U,Z⟩:=Dj vK
      grind
     grind
    grind
   grind
  grind
theorem Az {α:Type}: ∀{i:Nat} {cs:List α} {a:α},cs[i]?=some a->∃l,eE i cs=some (a::l)
 |0,[],a,h=>by simp at h
 |0,c::cs,a,h=>by simp only [aG,ag] at h; subst h; exact⟨cs,rfl⟩
 |i+1,[],a,h=>by simp at h
 |i+1,c::cs,a,h=>Az (cs:=cs) (by simpa using h)
theorem K9 {ρ:Nat->Int} {s s':St} {cs:List W} {e:V} {v:W} (hp:bW ρ s.pc) (h:(GV s cs e).leaf ρ=some (v,s')) :
 s'.bE=s.bE/\s'.h=s.h/\bW ρ s'.pc/\∃(i:Nat) (k:IntKind) (n:Int) (x:V),e.den ρ=(i:Int)/\i<cs.length/\cs[i]?=some (.int k (.lit n))/\v= .int k x/\x.den ρ=n:=by
 unfold GV at h;split at h
 ·grind [T.leaf]
 ·rename_i k hk;split at h
  ·grind [T.leaf]
  ·rename_i ds vK;obtain⟨U,Z⟩:=Dj vK;obtain⟨dY,fj,g1,g2,g3⟩:=nj hp h;simp only [T.leaf,ag,ak] at g3;obtain⟨rfl,rfl⟩:=g3;have g2':e.den ρ<(ds.length:Int):=by simpa [V.den] using g2
   have hi:e.den ρ=((e.den ρ).toNat:Int):=J
   have ff:(e.den ρ).toNat<cs.length:=J
   obtain⟨n,d1,d2⟩:=Z _ ff;refine⟨rfl,rfl,fj,_,k,n,_,hi,ff,d2,rfl,?_⟩;simp only [zG,V.den,fc.den,bB,D.at,bM,d1,az,D.n]
theorem N9 [bI] {tt:TT} (cJ:ew P tt) {s s':St} (r:bO E s.h w) (hp:bW E.ρ s.pc) {ty id es:Nat} {i:V} {off:Nat} {v:W} {u:Value} (hx:VR E w.heap (.zd id es i off) u) (h:(yW tt s ty id es i off).leaf E.ρ=some (v,s')) :
 s'.bE=s.bE/\s'.h=s.h/\bW E.ρ s'.pc/\∃x b o,u= .pointer (some ⟨b,o,none⟩)/\(loadVar ty ⟨b,o,none⟩).run P w= .ok x w/\VR E w.heap v x:=by
 unfold yW at h;split at h
 ·rename_i o hl;split at h
  ·rename_i cs ety;split at h
   ·rename_i ti fU;split at h
    ·simp [T.leaf] at h
    ·rename_i Y;simp only [Bool.or_eq_false_iff,Bool.not_eq_false'] at Y;have ky:=aq Y.1.2;have hof:=aq Y.2;subst ky hof;obtain⟨U,Z,h3,k,kd,n,x,g1,g2,g3,rfl,g5⟩:=K9 hp h;refine⟨U,Z,h3,?_⟩;simp only [VR] at hx;obtain⟨hid,k',hk,rfl⟩:=hx;have sD:k'=k:=J
     subst sD;obtain⟨l,hd⟩:=Az g3;obtain⟨y,q1,q2⟩:=Gg (P:=P) cJ r hl fU hd (v:=.int kd (.lit n)) (by unfold partOf; rw [Y.1.1]);refine⟨y,_,_,rfl,by rw [amQ,bg]; exact q1,?_⟩;simp only [VR,V.den] at q2 ⊢;rw [q2,g5]
   ·simp [T.leaf] at h
  ·rename_i e t zB ov;split at h
   ·rename_i ti fU;split at h
    ·rename_i ky;obtain⟨pc0,Xq,U,Z,h3⟩:=nj hp h;obtain⟨dY,fj,h3⟩:=vk (s:={ s with pc:=pc0 }) Xq h3;split at h3
     ·rename_i cs hc;split at h3
      ·rename_i l E4;obtain⟨e1,rfl⟩:=gz h3;refine⟨rfl,rfl,fj,?_⟩;simp only [VR] at hx;obtain⟨hid,k,hk,rfl⟩:=hx;obtain⟨pre,row,post,c1,c2,c3,c4,c5⟩:=ZB r hl hk (by rw [<- hk]; exact Z) fj hc;obtain⟨rc,ho,tM⟩:=r.nY hl
       have lq:OR E w.heap id (.cells (pre++(cs++post)) zB):=by have:=(rc.live id _ (by rw [Hp.bR,ah rfl])).2.1;rw [c1] at this;simp only [OR] at this ⊢;obtain⟨arr,lo,hi,us,q1,q2,q3,q4,q5,q6,q7⟩:=this;refine⟨arr,lo,hi,us,q1,?_,q3,by simp only [a8,c3,c5] at q4 ⊢; exact q4,q5,q6,q7⟩;obtain⟨a,b,rfl,a1,a2⟩:=q2.split;obtain⟨a',b',rfl,b1,b2⟩:=a2.split;exact a1.append (((c4 _ _).1 b1).append b2)
       have r2:=r.swap (H2:=s.h.put id (.cells (pre++(cs++post)) zB)) hl lq (by rw [Hp.bR,ah rfl]) (fun j hj=>by rw [Hp.bR,af hj]) rfl rfl
       have akE:eE (k*es+off) (pre++(cs++post))=some (l++post):=by rw [G7 (m:=cs++post) (by rw [<- ky,<- c2]; exact sW pre _)];exact Ed E4
       obtain⟨x,g1,g2⟩:=Gg cJ r2 (by rw [Hp.bR,ah rfl]) fU akE (SS e1);exact⟨x,_,_,rfl,g1,g2⟩
      ·simp [T.leaf] at h3
     ·simp [T.leaf] at h3
    ·simp [T.leaf] at h
   ·simp [T.leaf] at h
  ·simp [T.leaf] at h
 ·simp [T.leaf] at h
end
theorem iR.rd {ro:Nat->Prop} {h:Array Obj} {c:CK} {d:D} {u:Value} (r:iR ro h c d u) (wf:n4 c d):Rd ro h c d u:=by
 cases c with
 |int k=> simp only [iR,n4] at r wf;rw [wf,r];exact .int k d.n
 |bool=>
  simp only [iR,n4] at r wf;subst r;rcases wf with rfl|rfl
  ·exact .bool false
  ·exact .bool true
 |str=>exact r
 |sl t=>exact r
theorem dO.get {ro:Nat->Prop} {h:Array Obj} {d:D}: ∀{cs:List CK} {j:Nat} {us:List Value},dO ro h cs j d us->∀{k:Nat} {c:CK},cs[k]?=some c->∃u,us[k]?=some u/\iR ro h c (d.hd (j+k)) u
 |[],_,_,_,k,c,hk=>by simp at hk
 |c0::cs,j,us,hh,k,c,hk=>by
  simp only [dO] at hh;obtain⟨u,vs,rfl,U,Z⟩:=hh
  cases k with
  |zero=>
   grind
  |succ k=>
   obtain⟨x,h3,h4⟩:=Z.get (by simpa using hk)
   grind
theorem dO.length {ro:Nat->Prop} {h:Array Obj} {d:D}: ∀{cs:List CK} {j:Nat} {us:List Value},dO ro h cs j d us->us.length=cs.length
 |[],_,us,hh=>by simp only [dO] at hh; subst hh; rfl
 |c::cs,j,us,hh=>by simp only [dO] at hh;obtain⟨u,vs,rfl,_,Z⟩:=hh;simp [Z.length]
theorem dO.shift {ro:Nat->Prop} {h:Array Obj} {a b:D}: ∀{cs:List CK} {j:Nat} {us:List Value},dO ro h cs (j+1) (.p a b) us↔dO ro h cs j b us
 |[],_,us=>by simp only [dO]
 |c::cs,j,us=>by
  simp only [dO,yG];constructor
  ·rintro⟨u,vs,rfl,U,Z⟩;exact⟨u,vs,rfl,U,dO.shift.1 Z⟩
  ·rintro⟨u,vs,rfl,U,Z⟩;exact⟨u,vs,rfl,U,dO.shift.2 Z⟩
section
variable {P:Program} {E:En} {w:World}
theorem oJ {ρ:Nat->Int} {c:CK} {v:W} {a:V} (h:mz c v=some a):n4 c (dec (a.den ρ)):=by
 unfold mz at h;split at h
 ·split at h
  ·split at h
   ·simp only [ag] at h;subst h;simp only [n4,ld,bB,D.n]
   grind
  grind
 ·split at h
  ·split at h
   ·rename_i b;simp only [ag] at h;subst h;simp only [n4,V.den,bB]
    grind
   ·split at h
    ·split at h
     ·split at h
      ·simp only [ag] at h;subst h;simp only [n4,V.den,fc.den,bB]
       grind
      grind
     grind
    grind
   grind
  grind
 ·trivial
 ·trivial
theorem kG {h:Array Obj} {c:CK} {v:W} {u:Value} {a:V} (hv:VR E h v u) (hc:mz c v=some a):iR E.ro h c (dec (a.den E.ρ)) u:=by
 unfold mz at hc;split at hc
 ·split at hc
  ·split at hc
   ·rename_i hk;subst hk;simp only [ag] at hc;subst hc;simp only [VR] at hv;simp only [iR,ld,bB,D.n];exact hv
   grind
  grind
 ·split at hc
  ·split at hc
   ·rename_i b;simp only [ag] at hc;subst hc;simp only [VR,SB.den] at hv;subst hv;simp only [iR,V.den,bB];cases b<;>rfl
   ·split at hc
    ·split at hc
     ·split at hc
      ·rename_i x n hn;subst hn;simp only [ag] at hc;subst hc;simp only [VR,SB.den,V.den] at hv;subst hv;simp only [iR,V.den,fc.den,ld,bB,D.n];congr 2
       grind
      grind
     grind
    grind
   grind
  grind
 ·obtain⟨s,rfl,hs⟩:=xN hv hc;simp only [iR,hs];exact .str s
 ·split at hc
  ·split at hc
   ·rename_i ht;subst ht;simp only [ag] at hc;subst hc;exact hv
   grind
  ·simp only [ag] at hc;subst hc;simp only [VR] at hv;subst hv;simp only [iR,V.den,bB];exact .nil _
  ·split at hc
   ·rename_i ht;subst ht;simp only [ag] at hc;subst hc;simp only [VR] at hv;exact hv.2
   grind
  ·split at hc
   ·simp only [ag] at hc;subst hc;simp only [VR] at hv;obtain⟨_,a,cap,rfl,_⟩:=hv;simp only [iR,V.den,bB];exact .vz _ _ _
   grind
  grind
theorem tb {ρ:Nat->Int}: ∀{cs:List CK} {vs:List W} {x:V},gZ cs vs=some x->v7 cs (dec (x.den ρ))
 |[],[],x,h=>by
  simp only [gZ,ag] at h;subst h;refine⟨?_,?_,?_⟩
  ·simp only [V.den,bB]; rfl
  ·simp only [V.den,bB]; rfl
  grind
 |[],_::_,x,h=>by simp [gZ] at h
 |_::_,[],x,h=>by simp [gZ] at h
 |c::cs,v::vs,x,h=>by
  simp only [gZ] at h;split at h
  ·grind
  ·rename_i a ha;split at h
   ·grind
   ·rename_i b Y;simp only [ag] at h;subst h;obtain⟨U,Z,h3⟩:=tb (ρ:=ρ) Y;refine⟨?_,?_,?_⟩
    ·simp only [ey,V.den,fc.den,bB,D.l,dL]
     grind
    ·simp only [ey,V.den,fc.den,bB,D.l,aK,Z]
    ·intro j c' y hj hy;simp only [ey,V.den,fc.den,bB,D.l] at hy
     cases j with
     |zero=> simp only [aG,ag] at hj hy;subst hj hy;exact oJ ha
     |succ j=>exact h3 j c' y (by simpa using hj) (by simpa using hy)
theorem tc {h:Array Obj}: ∀{cs:List CK} {vs:List W} {us:List Value} {x:V},cA E h vs us->gZ cs vs=some x->dO E.ro h cs 0 (dec (x.den E.ρ)) us
 |[],[],us,x,hv,hc=>by simp only [cA] at hv; subst hv; simp [dO]
 |[],_::_,_,x,_,hc=>by simp [gZ] at hc
 |_::_,[],_,x,_,hc=>by simp [gZ] at hc
 |c::cs,v::vs,us,x,hv,hc=>by
  simp only [gZ] at hc;rw [bV] at hv;obtain⟨u,gq,rfl,U,Z⟩:=hv;split at hc
  ·grind
  ·rename_i a ha;split at hc
   ·grind
   ·rename_i b Y;simp only [ag] at hc;subst hc;simp only [dO,ey,V.den,fc.den,bB];refine⟨u,gq,rfl,by rw [yF]; exact kG U ha,?_⟩;rw [dO.shift];exact tc Z Y
theorem s9 {ρ:Nat->Int} {r:Row} {cs:List W} {x:V} (h:qg r cs=some x):py r (dec (x.den ρ)):=by
 unfold qg at h;split at h
 ·split at h
  ·exact oJ h
  grind
 ·exact tb h
theorem ta {h:Array Obj} {r:Row} {cs:List W} {us:List Value} {x:V} (hv:cA E h cs us) (hc:qg r cs=some x):wA E.ro h r (dec (x.den E.ρ)) us:=by
 unfold qg at hc;split at hc
 ·split at hc
  ·rw [bV] at hv;obtain⟨u,gq,rfl,U,Z⟩:=hv;rw [gP] at Z;subst Z;exact⟨u,rfl,kG U hc⟩
  grind
 ·exact tc hv hc
theorem qf {ρ:Nat->Int} {r:Row}: ∀(m:Nat) {e e1:V} {news:List W},j9 r e m news=some e1->
 ∃ds:List D,ds.length=m/\(dec (e1.den ρ)).l=(dec (e.den ρ)).l++ds/\(dec (e.den ρ)=dL (dec (e.den ρ)).l->dec (e1.den ρ)=dL (dec (e1.den ρ)).l)/\(∀d∈ds,py r d)/\
  ∀(E':En) (h:Array Obj) (us:List Value) (j:Nat),E'.ρ=ρ->cA E' h news us->cA E' h (bG ρ r [] ds j) us
 |0,e,e1,[],h=>by simp only [j9,ag] at h;subst h;exact⟨[],rfl,ad,id,ad,fun E' h us j _ hv=>by simpa [bG] using hv⟩
 |0,e,e1,_::_,h=>by simp [j9] at h
 |m+1,e,e1,news,h=>by
  simp only [j9] at h;split at h
  ·grind
  ·rename_i x hx;obtain⟨ds,U,Z,h3,h4,h5⟩:=qf (ρ:=ρ) m h;have hs:dec ((V.op .snoc e x).den ρ)=dL ((dec (e.den ρ)).l++ [dec (x.den ρ)]):=by simp only [V.den,fc.den,bB]
   refine⟨dec (x.den ρ)::ds,by simp [U],?_,fun _=>h3 (by rw [hs,bM]),?_,?_⟩
   ·rw [Z,hs,bM]; simp
   ·intro d hd;rcases ax.1 hd with rfl|hd
    ·exact s9 hx
    grind
   ·intro E' h us j hρ hv;rw [<- al6 r.es news] at hv;obtain⟨a,b,rfl,a1,a2⟩:=hv.split;simp only [bG,dW];refine cA.append ?_ (h5 E' h b (j+1) hρ a2);rw [fT];simp only [V.den,bB];have:=ta a1 hx
    grind
theorem Pc {h:Array Obj} {id:Nat} {e:V} {t:Nat} {ty:TypeId} {ro:Nat->Prop} (kJ: ∀b,E.ro b->ro b) (Y:ro (E.θ id).1) (ho:OR E h id (.vec e t ty [])) {k cap:Nat} {a:Addr} (hk:k=(dec (e.den E.ρ)).l.length) (gI:k<=cap)
 (hc:0<k->a=⟨(E.θ id).1,(E.θ id).2,none⟩):Rd ro h (.sl t) (dec (e.den E.ρ)) (.slice (some a) k cap):=by
 obtain⟨⟨rT,tM⟩,Cf⟩:=OR.nY.1 ho;obtain⟨us,U,Z,h3⟩:=wU Cf;obtain⟨w1,w2,w3⟩:=tM;rcases amj k with h0|lr
 ·subst h0;exact absurd (alM hk.symm) w3
 ·have ha:a=⟨(E.θ id).1,(E.θ id).2,none⟩:=hc lr;subst ha;subst hk
  have lq: ∀(i:Nat) (x:D),(dec (e.den E.ρ)).l[i]?=some x->∃rs,wA ro h (rowOf t) x rs/\∀j u,rs[j]?=some u->us[i*(rowOf t).es+j]?=some u:=by
   intro i x hx;obtain⟨c1,c2⟩:=iY (ρ:=E.ρ) rT (j:=0) hx;unfold cN at U;rw [c1] at U;obtain⟨p,q,rfl,p1,p2⟩:=U.split;obtain⟨q1,q2,rfl,r1,r2⟩:=p2.split;have hp:=p1.length;rw [c2] at hp;refine⟨q1,?_,?_⟩
   ·have r1':cA E h (gy (rowOf t) (.eo x)) q1:=r1;rw [fT] at r1';simp only [V.den,bB] at r1'
    have mono: ∀c d u,iR E.ro h c d u->iR ro h c d u:=by
     intro c d u hh
     cases c with
     |int k=>exact hh
     |bool=>exact hh
     |str=>exact Rd.bX kJ (fun _ _=>rfl) hh
     |sl t=>exact Rd.bX kJ (fun _ _=>rfl) hh
    have ahO: ∀(cs:List CK) (j:Nat) (d:D) (us:List Value),dO E.ro h cs j d us->dO ro h cs j d us:=by
     intro cs
     induction cs with
     |nil=>intro j d us hh; exact hh
     |cons c cs ih=> intro j d us hh;obtain⟨u,vs,rfl,g1,g2⟩:=hh;exact⟨u,vs,rfl,mono _ _ _ g1,ih _ _ _ g2⟩
    cases hr:rowOf t with
    |one c=> rw [hr] at r1';obtain⟨u,rfl,g1⟩:=r1';exact⟨u,rfl,mono _ _ _ g1⟩
    |many cs=> rw [hr] at r1';exact ahO _ _ _ _ r1'
   ·intro j u hj;rw [anb J,hp];rw [show i*(rowOf t).es+j-i*(rowOf t).es=j by omega];have:=(aW.1 hj).1;rw [anz this];exact hj
  rw [w1];simp only [bM] at lq ⊢;generalize hL:(dec (e.den E.ρ)).l=L at *
  cases hr:rowOf t with
  |one c=>
   refine .one t c _ _ cap L (fun i=>(us[i]?).getD undef) hr gI Y ?_ ?_
   ·intro i d hd;obtain⟨rs,g1,g2⟩:=lq i d hd;rw [hr] at g1;obtain⟨u,rfl,g3⟩:=g1;have:=g2 0 u rfl;rw [hr] at this;simp only [Row.es,amQ,bg] at this;rw [this];exact Z i u this
   ·intro i d hd;obtain⟨rs,g1,g2⟩:=lq i d hd;rw [hr] at g1;obtain⟨u,rfl,g3⟩:=g1;have:=g2 0 u rfl;rw [hr] at this;simp only [Row.es,amQ,bg] at this;rw [this];have hw:=w2 d (bw hd);rw [hr] at hw;exact g3.rd hw
  |many cs=>
   have hwr: ∀d∈L,v7 cs d:=by intro d hd;have:=w2 d hd;rw [hr] at this;exact this
   have hLm:L=(L.map D.l).map dL:=by rw [amc];have:L.map (dL ∘ D.l)=L.map (fun d=>d):=amw fun d hd=>(hwr d hd).1.symm;rw [this,List.map_id']
   have hlen:(L.map D.l).length=L.length:=ad
   have aiq:(L.map D.l).length<=cap:=by rw [hlen]; exact gI
   have goal:Rd ro h (.sl t) (dL ((L.map D.l).map dL)) (.slice (some ⟨(E.θ id).1,(E.θ id).2,none⟩) (L.map D.l).length cap):=by
    refine .many t cs _ _ cap (L.map D.l) (fun i j=>(us[i*cs.length+j]?).getD undef) hr aiq Y ?_ ?_ ?_
    ·intro r hrm;rw [aT] at hrm;obtain⟨d,hd,rfl⟩:=hrm;exact (hwr d hd).2.1
    ·intro i r j d hi hj;rw [bn,aO] at hi;obtain⟨x,hx,rfl⟩:=hi;obtain⟨rs,g1,g2⟩:=lq i x hx;rw [hr] at g1;have hjl:j<cs.length:=by rw [<- (hwr x (bw hx)).2.1]; exact (aW.1 hj).1
     obtain⟨u,g3,g4⟩:=dO.get g1 (aM hjl);have:=g2 j u g3;rw [hr] at this;simp only [Row.es] at this;rw [this,alF];exact Z _ u this
    ·intro i r j d c hi hj hcj;rw [bn,aO] at hi;obtain⟨x,hx,rfl⟩:=hi;obtain⟨rs,g1,g2⟩:=lq i x hx;rw [hr] at g1;obtain⟨u,g3,g4⟩:=dO.get g1 hcj;have:=g2 j u g3;rw [hr] at this;simp only [Row.es] at this;rw [this];rw [ay] at g4;have hd:x.hd j=d:=by simp [D.hd,hj]
     rw [hd] at g4;exact g4.rd ((hwr x (bw hx)).2.2 j c d hcj hj)
   rw [<- hLm,hlen] at goal;exact goal
theorem UO {h:Array Obj} {id:Nat} {e:V} {t:Nat} {ty:TypeId} {ro:Nat->Prop} (kJ: ∀b,E.ro b->ro b) (Y:ro (E.θ id).1) (ho:OR E h id (.vec e t ty [])) {k cap:Nat} {a:Addr} (hk:k=(dec (e.den E.ρ)).l.length) (gI:k<=cap)
 (hc:eF E id 0 k a cap (.rest (rowOf t).es)):Rd ro h (.sl t) (dec (e.den E.ρ)) (.slice (some a) k cap):=by
 refine Pc kJ Y ho hk gI fun lr=>?_;simp only [eF] at hc
 grind
structure Sub (H' H:Hp):Prop where
 get: ∀j o,H'.get j=some o->H.get j=some o
 next:H'.next=H.next
 res:H'.res=H.res
theorem Sub.refl (H:Hp):Sub H H:=⟨fun _ _ h=>h,rfl,rfl⟩
theorem Sub.trans {A B C:Hp} (a:Sub B A) (b:Sub C B):Sub C A:=⟨fun j o h=>a.get j o (b.get j o h),b.next.trans a.next,b.res.trans a.res⟩
theorem Sub.drop (H:Hp) (id:Nat):Sub (H.drop id) H:=by
 refine⟨fun j o hj=>?_,rfl,rfl⟩
 grind [Hp.j5]
theorem Jb [bI] {H:Hp} (r:bO E H w) {id:Nat} {o:dG} (hl:H.get id=some o) :
 fh E w.heap { E with ro:=fun b=>E.ro b\/b=(E.θ id).1 } w.heap/\eN E H w { E with ro:=fun b=>E.ro b\/b=(E.θ id).1 } (H.drop id) w/\bO { E with ro:=fun b=>E.ro b\/b=(E.θ id).1 } (H.drop id) w:=by
 have hk:fh E w.heap { E with ro:=fun b=>E.ro b\/b=(E.θ id).1 } w.heap:=⟨rfl,fun _ h=>h,fun _ _=>rfl,fun _ _=>rfl,fun _ h=> .inl h,fun _ _=>rfl⟩
 have hg: ∀j o,(H.drop id).get j=some o->H.get j=some o/\j≠id:=by
  intro j o hj
  grind [Hp.j5]
 refine⟨hk,⟨rfl,fun _ h=>h,fun _ _=>rfl,fun _ _=>rfl,fun _ h=> .inl h,?_,au _,.inr rfl,fun _ h=> .inl h,rfl,rfl,rfl,au _,fun _ _ _=>rfl,fun j o hj _=> ⟨j,o,(hg j o hj).1,rfl⟩,rfl⟩,
  ⟨r.fresh,r.res,?_,?_,?_,bI.bX r.iT (fun _ h=> .inl h) (fun _ _=>rfl),fun b x Y=> ⟨(r.hid b x Y).1,fun h=>h.elim (r.hid b x Y).2.1 fun e=>(r.hid b x Y).2.2 id o hl e.symm,fun j o hj=>(r.hid b x Y).2.2 j o (hg j o hj).1⟩⟩⟩
 ·intro b Y
  grind
 ·intro j o hj;obtain⟨U,Z⟩:=hg j o hj;obtain⟨g1,g2,g3⟩:=r.live j o U;refine⟨g1,g2.bX hk g1 rfl (fun _ _ _ h=> ⟨h,rfl⟩),?_⟩;rintro (Y|Y)
  ·grind
  ·exact Z (r.inj j id o _ U hl Y)
 ·intro i j x y hi hj he;exact r.inj i j x y (hg i x hi).1 (hg j y hj).1 he
 ·intro b Y;rcases Y with Y|rfl
  ·exact r.pL b Y
  ·exact fF r hl
theorem aeT [bI] {H H':Hp} (r:bO E H w) {v v':W} (h:Mc v H=(v',H')) :
 ∃E',E'.ρ=E.ρ/\eN E H w E' H' w/\bO E' H' w/\(∀u,VR E w.heap v u->VR E' w.heap v' u)/\Sub H' H:=by
 have same:(v,H)=(v',H')->∃E',E'.ρ=E.ρ/\eN E H w E' H' w/\bO E' H' w/\(∀u,VR E w.heap v u->VR E' w.heap v' u)/\Sub H' H:=by
  intro he;simp only [ak] at he
  grind [eN.refl,Sub.refl]
 unfold Mc at h;split at h
 ·rename_i id n t;split at h
  ·rename_i o hl;split at h
   ·rename_i e t' ty ov;split at h
    ·split at h
     ·rename_i ht;split at h
      ·rename_i hn;simp only [ak] at h;obtain⟨rfl,rfl⟩:=h;have ht:=aq ht;have hn:=cO _ _ hn;subst ht hn;have yB:=r.live id _ hl;obtain⟨hk,s1,r1⟩:=Jb r hl;refine⟨{ E with ro:=fun b=>E.ro b\/b=(E.θ id).1 },rfl,s1,r1,fun u hv=>?_,Sub.drop _ _⟩;simp only [VR] at hv ⊢
       grind [cC,UO]
      grind
     grind
    grind
   grind
  grind
 ·simp only [ak] at h;obtain⟨rfl,rfl⟩:=h;exact⟨E,rfl,eN.refl _ _ _,r,fun u hu=>by simp only [VR] at hu ⊢; exact hu.2,Sub.refl _⟩
 grind
end
section
variable {P:Program} {E:En} {w:World}
theorem Rd.part {ro:Nat->Prop} {h:Array Obj} {t:Nat} {d:D} {b o n cap l k:Nat} (r:Rd ro h (.sl t) d (.slice (some ⟨b,o,none⟩) n cap)) (hl:l<=k) (hk:k<=n) (hn:n<=cap) :
 Rd ro h (.sl t) (eW d ((d.l.take k).drop l)) (.slice (some (if cap=l then⟨b,o,none⟩ else⟨b,o+l*(rowOf t).es,none⟩)) (k-l) (cap-l)):=by
 by_cases h0:k-l=0
 ·have:(d.l.take k).drop l= []:=by
   apply List.drop_eq_nil_of_le
   grind
  have hd:d≠.i 1:=by
   intro q
   grind [F8]
  rw [this,h0];simp only [eW];rw [af hd];exact .vz _ _ _
 ·rw [af J]
  have fX:(d.l.take k).drop l≠[]:=by
   intro q;have:=congrArg List.length q;obtain⟨x,oy,hv,_⟩:=r.slice
   grind
  rw [uZ fX];generalize hc:CK.sl t=c at r;generalize hv:Value.slice (some ⟨b,o,none⟩) n cap=v at r
  cases r with
  |int k n=>simp at hc
  |bool b=>simp at hc
  |str s=>simp at hc
  |nil t=>simp at hv
  |vz t a cap=>
   grind
  |one t' c b' o' oy ds f hr fQ Y U Z=>
   simp only [CK.sl.injEq] at hc;subst hc;simp only [Value.slice.injEq,ag,Addr.mk.injEq] at hv;obtain⟨⟨rfl,rfl,_⟩,rfl,rfl⟩:=hv;rw [bM];have hlen:((ds.take k).drop l).length=k-l:=by rw [bq,bd]; omega
   have uE: ∀i d,((ds.take k).drop l)[i]?=some d->ds[l+i]?=some d:=by
    intro i d hd
    grind
   rw [<- hlen];refine .one t c b (o+l*(rowOf t).es) (cap-l) ((ds.take k).drop l) (fun i=>f (l+i)) hr (by rw [hlen]; omega) Y ?_ ?_
   ·intro i d hd;have:=U (l+i) d (uE i d hd);rw [hr,show o+l*(Row.one c).es+i=o+(l+i) by simp only [Row.es]; omega]
    grind
   grind
  |many t' cs b' o' oy rows f hr fQ Y hll U Z=>
   simp only [CK.sl.injEq] at hc;subst hc;simp only [Value.slice.injEq,ag,Addr.mk.injEq] at hv;obtain⟨⟨rfl,rfl,_⟩,rfl,rfl⟩:=hv;rw [bM];have hlen:((rows.take k).drop l).length=k-l:=by rw [bq,bd]; omega
   have uE: ∀i d,((rows.take k).drop l)[i]?=some d->rows[l+i]?=some d:=by
    intro i d hd
    grind
   rw [<- hlen,<- am6,<- am7];refine .many t cs b (o+l*(rowOf t).es) (cap-l) ((rows.take k).drop l) (fun i=>f (l+i)) hr (by rw [hlen]; omega) Y (fun r hrm=>hll r (alI (br hrm))) ?_ ?_
   ·intro i r j d hi hj;have:=U (l+i) r j d (uE i r hi) hj;rw [hr,show o+l*(Row.many cs).es+i*cs.length+j=o+(l+i)*cs.length+j by simp only [Row.es,alL]; omega]
    grind
   grind
theorem Rd.ahE {ro:Nat->Prop} {h:Array Obj} {t:Nat} {d:D} {x:Option Addr} {n cap l k:Nat} (r:Rd ro h (.sl t) d (.slice x n cap)) (hl:l<=k) (hk:k<=n) (hn:n<=cap) :
 Rd ro h (.sl t) (eW d ((d.l.take k).drop l)) (.slice (match x with |some a=>some (if cap=l then a else a.add (l*(rowOf t).es))|none=>none) (k-l) (cap-l)):=by
 have hx:(∃b o,x=some ⟨b,o,none⟩)\/(d= .i 1/\x=none/\n=0/\cap=0)\/(d= .i 2/\n=0/\∃a,x=some a):=by
  generalize hc:CK.sl t=c at r;generalize hv:Value.slice x n cap=v at r
  cases r with
  |int k n=>simp at hc
  |bool b=>simp at hc
  |str s=>simp at hc
  |nil t=>simp only [Value.slice.injEq] at hv; exact .inr (.inl ⟨rfl,hv.1,hv.2.1,hv.2.2⟩)
  |vz t a cap=>simp only [Value.slice.injEq] at hv; exact .inr (.inr ⟨rfl,hv.2.1,a,hv.1⟩)
  |one t' c b' o' oy ds f hr fQ Y U Z=>simp only [Value.slice.injEq] at hv; exact .inl ⟨_,_,hv.1⟩
  |many t' cs b' o' oy rows f hr fQ Y hll U Z=>simp only [Value.slice.injEq] at hv; exact .inl ⟨_,_,hv.1⟩
 rcases hx with ⟨b,o,rfl⟩|⟨rfl,rfl,rfl,rfl⟩|⟨rfl,rfl,a,rfl⟩
 ·have:=r.part hl hk hn;simp only [eU]
  grind
 ·obtain rfl:k=0:=J
  obtain rfl:l=0:=J
  exact .nil _
 ·obtain rfl:k=0:=J
  obtain rfl:l=0:=J
  exact .vz _ _ _
theorem Zv (l:List D):dL l≠.i 1:=by cases l<;>simp [dL]
theorem Rd.aeZ {ro:Nat->Prop} {h:Array Obj} {t:Nat} {d:D} {x:Option Addr} {n cap:Nat} (r:Rd ro h (.sl t) d (.slice x n cap)):Rd ro h (.sl t) (eW d []) (.slice x 0 0):=by
 generalize hc:CK.sl t=c at r;generalize hv:Value.slice x n cap=v at r
 cases r with
 |int k n=>simp at hc
 |bool b=>simp at hc
 |str s=>simp at hc
 |nil t=> simp only [Value.slice.injEq] at hv;obtain⟨rfl,_,_⟩:=hv;exact .nil _
 |vz t a cap=> simp only [Value.slice.injEq] at hv;obtain⟨rfl,_,_⟩:=hv;exact .vz _ _ _
 |one t' c b' o' oy ds f hr fQ Y U Z=> simp only [Value.slice.injEq] at hv;obtain⟨rfl,_,_⟩:=hv;rw [oI (Zv _)];exact .vz _ _ _
 |many t' cs b' o' oy rows f hr fQ Y hll U Z=> simp only [Value.slice.injEq] at hv;obtain⟨rfl,_,_⟩:=hv;rw [oI (Zv _)];exact .vz _ _ _
theorem Of [bI] {tt:TT} (cJ:ew P tt) {s s':St} (hp:bW E.ρ s.pc) {ty t:Nat} {e:V} {lo hi mx:Option W} {xF hi' mx':Option Value} {v:W} {u:Value} (hx:VR E w.heap (.eo e t) u)
 (nR:fV E w.heap lo xF) (xI:fV E w.heap hi hi') (xq:fV E w.heap mx mx') (h:(IV tt s ty t e lo hi mx).leaf E.ρ=some (v,s')) :
 s'.bE=s.bE/\s'.h=s.h/\bW E.ρ s'.pc/\∃r,(Instr.sliceAt ty u xF hi' mx').run P w= .ok r w/\VR E w.heap v r:=by
 unfold IV at h;split at h
 ·rename_i m;split at h
  ·rename_i hm;split at h
   ·simp [T.leaf] at h
   ·rename_i z hz;split at h
    ·split at h
     ·rename_i hv;split at h
      ·rename_i hh;have:=bC h;simp only [ak] at this;obtain⟨rfl,rfl⟩:=this;refine⟨rfl,rfl,hp,?_⟩;obtain⟨el,ie,hu,kx,rfl⟩:=ng cJ hz;have gW:=ep (cJ el ie kx);simp only [VR] at hx;obtain⟨x,cap,rfl,gI⟩:=hx.slice
       have zb: ∀(a:W),BT a=true->∀d y,nv (some a) d y=some 0:=by
        intro a ha d y;unfold BT at ha;unfold nv;split at ha
        ·rename_i n hn;have:=vG ha;subst this;simp only [hn];rw [ah (alT y)]
        ·simp at ha
       obtain⟨e1,e2⟩:=fJ (P:=P) (w:=w) (isSlice:=true) (len:=(dec (e.den E.ρ)).l.length) (cap:=cap) (m0:=cap) (d:=0) (m:=0) (h0:=0) (h:=0) (l:=0) nR xI xq (fun _=>rfl) (.inr ⟨m,rfl,zb m hm _ _,au _⟩) (zb hv hh _ _) ⟨fun q=>by simp at q,fun _=>rfl⟩ (by simp [nv]);refine⟨.slice x 0 0,?_,?_⟩
       rotate_left
       ·simp only [VR];refine⟨⟨x,rfl⟩,?_⟩;simp only [V.den,fc.den,bB];exact hx.aeZ
       cases x with
       |none=>simp [Instr.sliceAt,run_underlying hu,Instr.slice,e1,gW]
       |some a=>simp [Instr.sliceAt,run_underlying hu,Instr.slice,e1,gW]
      ·simp [T.leaf] at h
     ·simp [T.leaf] at h
    ·simp [T.leaf] at h
  ·simp [T.leaf] at h
 ·simp only [fV] at xq;subst xq;split at h
  ·simp [T.leaf] at h
  ·rename_i z hz;split at h
   ·rename_i ky;obtain⟨el,ie,hu,kx,rfl⟩:=ng cJ hz;have gW:=ep (cJ el ie kx);simp only [VR] at hx;obtain⟨x,cap,rfl,gI⟩:=hx.slice
    have fin: ∀(l k:Nat) (e':V) (T6 Is:Option W),fV E w.heap T6 xF->fV E w.heap Is hi'->nv Is (dec (e.den E.ρ)).l.length (dec (e.den E.ρ)).l.length=some k->nv T6 0 k=some l->dec (e'.den E.ρ)=eW (dec (e.den E.ρ)) (((dec (e.den E.ρ)).l.take k).drop l)->
     ∃r,(Instr.sliceAt ty (.slice x (dec (e.den E.ρ)).l.length cap) xF hi' none).run P w= .ok r w/\VR E w.heap (.eo e' t) r:=by
     intro l k e' T6 Is U Z h3 h4 h5;obtain⟨e1,e2⟩:=fJ (P:=P) (w:=w) (isSlice:=true) (len:=(dec (e.den E.ρ)).l.length) (cap:=cap) (m0:=cap) (d:=0) (m:=cap) U Z (mx:=none) (mx':=none) (by simp [fV]) ad (.inl ⟨rfl,rfl,au _⟩) h3 ⟨fun _=>gI,ad⟩ h4;have hk:=kZ h3;have S9:=hx.ahE e2 hk gI;refine⟨_,?_,by simp only [VR,h5]; exact S9⟩
     cases x with
     |none=>simp [Instr.sliceAt,run_underlying hu,Instr.slice,e1,gW]
     |some a=>simp [Instr.sliceAt,run_underlying hu,Instr.slice,e1,gW,ky]<;>split<;>rfl
    have lit: ∀(k:IntKind) (n:Nat) (q:V) (o:Option Value),q.den E.ρ=(n:Int)->fV E w.heap (some (.int k q)) o->fV E w.heap (some (.int k (.lit (Int.ofNat n)))) o:=by intro k n q o hq ho;obtain⟨y,rfl,hy⟩:=ho;refine⟨y,rfl,?_⟩;simp only [VR,V.den] at hy ⊢;rw [hy,hq];rfl
    have bl: ∀(k:IntKind) (n d y:Nat),n<=y->nv (some (.int k (.lit (Int.ofNat n)))) d y=some n:=by intro k n d y hn;simp [nv,jU,hn]
    split at h
    ·
     simp only [fV] at xI;subst xI;split at h
     ·rename_i kl ql;obtain⟨fA,fk,U⟩:=cH hp h;split at U
      ·simp [T.leaf] at U
      ·rename_i t1;obtain⟨jt,jk,Z⟩:=cH (s:={ s with pc:=fA }) fk U;split at Z
       ·simp [T.leaf] at Z
       ·rename_i t2;have:=bC Z;simp only [ak] at this;obtain⟨rfl,rfl⟩:=this;rw [dQ,decide_eq_false_iff_not] at t1 t2;rw [cC] at t2;simp only [V.den,ami] at t1 t2;obtain⟨l,hl⟩ : ∃l:Nat,ql.den E.ρ=(l:Int):=⟨(ql.den E.ρ).toNat,J⟩;refine⟨rfl,rfl,jk,fin l (dec (e.den E.ρ)).l.length _ _ none (lit kl l ql xF hl nR) (by simp [fV]) (by simp [nv]) (bl _ _ _ _ J) ?_⟩;simp only [V.den,fc.den,bB,hl,aZ,al7]
     ·simp [T.leaf] at h
    ·rename_i kh qh;obtain⟨fA,fk,U⟩:=cH hp h;split at U
     ·simp [T.leaf] at U
     ·rename_i t1;rw [dQ,decide_eq_false_iff_not,cC] at t1;split at U
      ·simp only [fV] at nR;subst nR;obtain⟨jt,jk,Z⟩:=cH (s:={ s with pc:=fA }) fk U;split at Z
       ·simp [T.leaf] at Z
       ·rename_i t2;have:=bC Z;simp only [ak] at this;obtain⟨rfl,rfl⟩:=this;rw [dQ,decide_eq_false_iff_not] at t2;simp only [V.den,ami] at t2;obtain⟨k,hk⟩ : ∃k:Nat,qh.den E.ρ=(k:Int):=⟨(qh.den E.ρ).toNat,J⟩;refine⟨rfl,rfl,jk,fin 0 k _ none _ (by simp [fV]) (lit kh k qh hi' hk xI) (bl _ _ _ _ J) (by simp [nv]) ?_⟩;simp only [V.den,fc.den,bB,hk,aZ,alN]
      ·rename_i kl ql;obtain⟨jt,jk,Z⟩:=cH (s:={ s with pc:=fA }) fk U;split at Z
       ·simp [T.leaf] at Z
       ·rename_i t2;obtain⟨T5,Iq,h3⟩:=cH (s:={ s with pc:=jt }) jk Z;split at h3
        ·simp [T.leaf] at h3
        ·rename_i t3;have:=bC h3;simp only [ak] at this;obtain⟨rfl,rfl⟩:=this;rw [dQ,decide_eq_false_iff_not] at t2 t3;simp only [V.den,ami] at t2 t3;obtain⟨l,hl⟩ : ∃l:Nat,ql.den E.ρ=(l:Int):=⟨(ql.den E.ρ).toNat,J⟩;obtain⟨k,hk⟩ : ∃k:Nat,qh.den E.ρ=(k:Int):=⟨(qh.den E.ρ).toNat,J⟩;refine⟨rfl,rfl,Iq,fin l k _ _ _ (lit kl l ql xF hl nR) (lit kh k qh hi' hk xI) (bl _ _ _ _ J) (bl _ _ _ _ J) ?_⟩;simp only [V.den,fc.den,bB,hl,hk,aZ,ej];exact xB fun q=>by rw [q]; simp [D.l]
      ·simp [T.leaf] at U
    ·simp [T.leaf] at h
   ·simp [T.leaf] at h
end
theorem Dr {e:V} (h:M' e=true):e= .lit 0:=by
 unfold M' at h
 grind [vG]
theorem oK (ρ:Nat->Int) (a b:V):(rP a b).den ρ=a.den ρ+b.den ρ:=by
 unfold rP;split
 ·rename_i h;rw [Dr h];simp only [V.den,Int.zero_add]
 ·rfl
theorem So (ρ:Nat->Int) (a b:V):(CF a b).den ρ=a.den ρ-b.den ρ:=by
 unfold CF;split
 ·rename_i h;rw [Dr h];simp only [V.den,Int.sub_zero]
 ·rfl
theorem w9 {ρ:Nat->Int} {e lo n:V} {l k:Nat} (hl:lo.den ρ=(l:Int)) (hn:n.den ρ=(k:Int)) :
 dec ((C6 e lo n).den ρ)=eW (dec (e.den ρ)) (((dec (e.den ρ)).l.take (l+k)).drop l):=by
 unfold C6;split
 ·rename_i h;have h:=Dr h;subst h;simp only [V.den] at hl;have:l=0:=J
  subst this;simp only [V.den,fc.den,bB,hn,aZ,ay,alN]
 ·have Z:((l:Int)+(k:Int)).toNat=l+k:=J
  simp only [V.den,fc.den,bB,hl,hn,Z,aZ,ej]
  grind [xB,D.l]
theorem vy {α:Type} {ρ:Nat->Int} {e lo n:V} {s:St} {k:St->T α} {x:α} (hp:bW ρ s.pc) (h:(xb e lo n s k).leaf ρ=some x) :
 ∃dY,bW ρ dY/\0<=lo.den ρ/\0<=n.den ρ/\lo.den ρ+n.den ρ<=((dec (e.den ρ)).l.length:Int)/\(k { s with pc:=dY }).leaf ρ=some x:=by
 unfold xb at h;obtain⟨fA,fk,U⟩:=cH hp h;split at U
 ·grind [T.leaf]
 ·rename_i QO;obtain⟨jt,jk,Z⟩:=cH (s:={ s with pc:=fA }) fk U;split at Z
  ·grind [T.leaf]
  ·rename_i KU;obtain⟨T5,Iq,h3⟩:=cH (s:={ s with pc:=jt }) jk Z;split at h3
   ·grind [T.leaf]
   ·rename_i hb3;rw [dQ,decide_eq_false_iff_not] at QO KU hb3;rw [cC,oK] at hb3;simp only [V.den] at QO KU
    grind
theorem mQ {h:Hp} {id t:Nat} {e:V} {ty:TypeId} (hv:AK h id t=some (e,ty)):h.get id=some (.vec e t ty []):=by
 unfold AK at hv;split at hv
 ·rename_i o ho;split at hv
  ·split at hv
   ·split at hv
    all_goals simp_all
   grind
  grind
 grind
theorem Rd.ahx {ro:Nat->Prop} {h:Array Obj} {t:Nat} {d:D} {a:Addr} {n cap oy:Nat} (r:Rd ro h (.sl t) d (.slice (some a) n cap)) (hc:n<=oy):Rd ro h (.sl t) d (.slice (some a) n oy):=by
 generalize hk:CK.sl t=c at r;generalize hv:Value.slice (some a) n cap=v at r
 cases r with
 |int k n=>simp at hk
 |bool b=>simp at hk
 |str s=>simp at hk
 |nil t=>simp at hv
 |vz t a cap=> simp only [CK.sl.injEq] at hk;simp only [Value.slice.injEq,ag] at hv;obtain⟨rfl,rfl,rfl⟩:=hv;subst hk;exact .vz _ _ _
 |one t' c b' o' oy ds f hr fQ Y U Z=> simp only [CK.sl.injEq] at hk;simp only [Value.slice.injEq,ag] at hv;obtain⟨rfl,rfl,rfl⟩:=hv;subst hk;exact .one _ _ _ _ _ _ _ hr hc Y U Z
 |many t' cs b' o' oy rows f hr fQ Y hll U Z=> simp only [CK.sl.injEq] at hk;simp only [Value.slice.injEq,ag] at hv;obtain⟨rfl,rfl,rfl⟩:=hv;subst hk;exact .many _ _ _ _ _ _ _ hr hc Y hll U Z
section
variable {P:Program} {E:En} {w:World}
theorem UP {h:Array Obj} {id:Nat} {e:V} {t:Nat} {ty:TypeId} {ro:Nat->Prop} (kJ: ∀b,E.ro b->ro b) (Y:ro (E.θ id).1) (ho:OR E h id (.vec e t ty [])) {l k cap:Nat} {a:Addr} (hk:l+k<=(dec (e.den E.ρ)).l.length) (gI:k<=cap)
 (hc:eF E id (l*(rowOf t).es) k a cap (.rest (rowOf t).es)):Rd ro h (.sl t) (eW (dec (e.den E.ρ)) (((dec (e.den E.ρ)).l.take (l+k)).drop l)) (.slice (some a) k cap):=by
 have hw:=(OR.nY.1 ho).1.2
 have fX:dec (e.den E.ρ)≠.i 1:=by intro q;have:=hw.2.2;rw [q] at this;exact this rfl
 rcases amj k with h0|lr
 ·subst h0
  have:((dec (e.den E.ρ)).l.take (l+0)).drop l= []:=by
   grind
  rw [this,oI fX];exact .vz _ _ _
 ·simp only [eF] at hc
  obtain⟨rfl,_⟩ : a=⟨(E.θ id).1,(E.θ id).2+l*(rowOf t).es,none⟩/\l*(rowOf t).es+cap*(rowOf t).es=E.κ id:=by
   grind
  have r0:=Pc kJ Y ho (k:=(dec (e.den E.ρ)).l.length) (cap:=(dec (e.den E.ρ)).l.length+l+1) (a:=⟨(E.θ id).1,(E.θ id).2,none⟩) rfl J (fun _=>rfl);have r1:=r0.part (l:=l) (k:=l+k) J hk J;rw [af J,show l+k-l=k by omega] at r1;exact r1.ahx gI
structure JE [bI] (E:En) (w:World) (H:Hp) (E':En) (H':Hp):Prop where
 ρ:E'.ρ=E.ρ
 ek:eN E H w E' H' w
 rel:bO E' H' w
 sub:Sub H' H
theorem JE.refl [bI] {H:Hp} (r:bO E H w):JE E w H E H:=⟨rfl,eN.refl _ _ _,r,Sub.refl _⟩
theorem JE.trans [bI] {E1 E2:En} {H H1 H2:Hp} (a:JE E w H E1 H1) (b:JE E1 w H1 E2 H2):JE E w H E2 H2:=
 ⟨b.ρ.trans a.ρ,a.ek.trans b.ek,b.rel,a.sub.trans b.sub⟩
theorem IB [bI] {α:Type} {ρ:Nat->Int} {v:W} {s:St} {k:W->St->T α} {x:α} (hρ:E.ρ=ρ) (r:bO E s.h w) (hp:bW ρ s.pc) (h:(NV v s k).leaf ρ=some x) :
 ∃v' h' dY E',bW ρ dY/\JE E w s.h E' h'/\(∀u,VR E w.heap v u->VR E' w.heap v' u)/\(k v' { s with h:=h',pc:=dY }).leaf ρ=some x:=by
 unfold NV at h;split at h
 ·rename_i id lo n t;split at h
  ·rename_i e ty hv;have hl:=mQ hv;obtain⟨dY,fj,U,Z,h3,h4⟩:=vy hp h;obtain⟨hk,s1,r1⟩:=Jb r hl;refine⟨_,_,dY,{ E with ro:=fun b=>E.ro b\/b=(E.θ id).1 },fj,⟨rfl,s1,r1,Sub.drop _ _⟩,fun u hu=>?_,h4⟩;simp only [VR] at hu ⊢;obtain⟨hid,l,m,a,cap,q1,q2,rfl,q4,q5⟩:=hu;rw [w9 q1 q2];rw [hρ] at q1 q2;have hh:=UP (E:=E) (ro:=fun b=>E.ro b\/b=(E.θ id).1) (fun _ h=> .inl h) (.inr rfl) (r.live id _ hl).2.1 (l:=l) (k:=m) (by rw [hρ]; omega) q4 q5;exact hh
  ·exact⟨_,_,s.pc,E,hp,JE.refl r,fun _ h=>h,h⟩
 ·cases hf:Mc v s.h with
  |mk v' h'=> rw [hf] at h;obtain⟨E',q1,q2,q3,q4,q5⟩:=aeT r hf;exact⟨v',h',s.pc,E',hp,⟨q1,q2,q3,q5⟩,q4,h⟩
theorem K2 [bI] {α:Type} {ρ:Nat->Int}: ∀{vs:List W} {s:St} {E:En} {k:List W->St->T α} {x:α},E.ρ=ρ->bO E s.h w->bW ρ s.pc->(GI vs s k).leaf ρ=some x->
 ∃L3 h' dY E',bW ρ dY/\JE E w s.h E' h'/\(∀us,cA E w.heap vs us->cA E' w.heap L3 us)/\(k L3 { s with h:=h',pc:=dY }).leaf ρ=some x
 |[],s,E,k,x,hρ,r,hp,h=> ⟨[],s.h,s.pc,E,hp,JE.refl r,fun _ h=>h,h⟩
 |v::vs,s,E,k,x,hρ,r,hp,h=>by simp only [GI] at h;obtain⟨v1,U,fA,E1,fk,f1,q1,g1⟩:=IB hρ r hp h;obtain⟨UM,Z,jt,E2,jk,f2,q2,g2⟩:=K2 (s:={ s with h:=U,pc:=fA }) (f1.ρ.trans hρ) f1.rel fk g1;refine⟨v1::UM,Z,jt,E2,jk,f1.trans f2,fun us hu=>?_,g2⟩;rw [bV] at hu ⊢;obtain⟨u,gq,rfl,a,b⟩:=hu;exact⟨u,gq,rfl,VR.bX (f2.ek.keeps f1.rel) _ _ (q1 u a),q2 gq (cA.bX (f1.ek.keeps r) _ _ b)⟩
theorem yf {ρ:Nat->Int} {i:Nat} {j:V} {cs:List W}: ∀{pre:List (V×List W)},dW ρ i (pre++ [(j,cs)])=match dW ρ i pre with |some c=>some c|none=>if j.den ρ=(i:Int) then some cs else none
 |[]=>rfl
 |(a,b)::pre=>by
  simp only [aP,dW];split
  ·rfl
  ·exact yf
theorem A? (ρ:Nat->Int) (e j x:V):dec ((V.op .set e (ey (mS j) x)).den ρ)=dL (fC (dec (e.den ρ)).l (j.den ρ) (dec (x.den ρ))):=by simp only [ey,V.den,fc.den,bB,ld,D.n]
theorem JY (ds:List D) (z:Int) (x:D) (n:Nat):(fC ds z x)[n]?=if z=(n:Int)/\n<ds.length then some x else ds[n]?:=by
 grind [fC]
theorem wS {ρ:Nat->Int} {E1 E2:En} {h:Array Obj} {r:Row} {pre:List (V×List W)} {j:V} {cs:List W} {X:D} (mono: ∀a us,cA E1 h a us->cA E2 h a us) (hX: ∀us,cA E1 h cs us->wA E2.ro h r X us) :
 ∀{L L':List D} {i:Nat} {us:List Value},L'.length=L.length->(∀n:Nat,L'[n]?=if j.den ρ=((i+n:Nat):Int)/\n<L.length then some X else L[n]?)->
  cA E1 h (bG ρ r (pre++ [(j,cs)]) L i) us->cA E2 h (bG ρ r pre L' i) us
 |[],[],i,us,_,_,hv=>by simp only [bG,cA] at *; exact hv
 |[],_::_,_,_,hl,_,_=>by simp at hl
 |_::_,[],_,_,hl,_,_=>by simp at hl
 |d::L,d'::L',i,us,hl,hg,hv=>by
  simp only [bG] at *;obtain⟨a,b,rfl,a1,a2⟩:=hv.split;have h0:=hg 0;simp only [aG,bg,aK] at h0;refine cA.append ?_ (wS mono hX (by simpa using hl) (fun n=>?_) a2)
  ·rw [yf] at a1
   cases ho:dW ρ i pre with
   |some c=>
    grind
   |none=>
    rw [ho] at a1;simp only at a1 ⊢;by_cases hj:j.den ρ=(i:Int)
    ·rw [ah hj] at a1;rw [ah ⟨hj,J⟩] at h0;simp only [ag] at h0;subst h0;rw [fT];simp only [V.den,bB]
     grind
    grind
  ·have:=hg (n+1)
   grind
theorem B_ {r:Row} {ds:List D} {z:Int} {x:D} (U: ∀d∈ds,py r d) (Z:py r x): ∀d∈fC ds z x,py r d:=by
 intro d hd;obtain⟨n,hn⟩:=amx.1 hd
 grind [JY]
theorem B' {ds:List D} {z:Int} {x:D} (h:ds≠[]):fC ds z x≠[]:=by
 intro q
 grind [gr]
theorem Ke [bI] {α:Type} {ρ:Nat->Int} {t:Nat}: ∀{ov:List (V×List W)} {e:V} {s:St} {E:En} {k:V->St->T α} {x:α} (pre:List (V×List W)),E.ρ=ρ->bO E s.h w->bW ρ s.pc->rQ (rowOf t) (dec (e.den ρ))->
 (FX t ov e s k).leaf ρ=some x->
 ∃e' h' dY E',bW ρ dY/\JE E w s.h E' h'/\rQ (rowOf t) (dec (e'.den ρ))/\(dec (e'.den ρ)).l.length=(dec (e.den ρ)).l.length/\
  (∀us,cA E w.heap (bG ρ (rowOf t) (pre++ov) (dec (e.den ρ)).l 0) us->cA E' w.heap (bG ρ (rowOf t) pre (dec (e'.den ρ)).l 0) us)/\(k e' { s with h:=h',pc:=dY }).leaf ρ=some x
 |[],e,s,E,k,x,pre,hρ,r,hp,hw,h=> ⟨e,s.h,s.pc,E,hp,JE.refl r,hw,rfl,fun us hu=>by rw [alZ] at hu; exact hu,h⟩
 |(j,cs)::ov,e,s,E,k,x,pre,hρ,r,hp,hw,h=>by
  simp only [FX] at h;obtain⟨e1,U,fA,E1,fk,f1,w1,l1,c1,g1⟩:=Ke (pre++ [(j,cs)]) hρ r hp hw h;obtain⟨cs2,Z,jt,E2,jk,f2,c2,g2⟩:=K2 (s:={ s with h:=U,pc:=fA }) (f1.ρ.trans hρ) f1.rel fk g1;split at g2
  ·rename_i y hy;have hρ2:E2.ρ=ρ:=f2.ρ.trans (f1.ρ.trans hρ);have hsd:=A? ρ e1 j y;refine⟨_,Z,jt,E2,jk,f1.trans f2,?_,?_,?_,g2⟩
   ·rw [hsd];exact⟨by rw [bM],by rw [bM]; exact B_ w1.2.1 (s9 hy),by rw [bM]; exact B' w1.2.2⟩
   ·grind [bM,gr]
   ·intro us hu;rw [hsd,bM];have Nz:=c1 us (by rw [alY]; exact hu);refine wS (j:=j) (cs:=cs) (X:=dec (y.den ρ)) (fun a us ha=>cA.bX (f2.ek.keeps f1.rel) _ _ ha) (fun us Gv=>?_) (gr _ _ _) (fun n=>?_) Nz
    all_goals grind [ta,JY]
  grind [T.leaf]
theorem SV {v:W} {h:Hp} {id t:Nat} {e:V} {ov:List (V×List W)} (hv:adW v h=some (id,e,t,ov)): ∃ty,v= .oL id (dN e) t/\h.get id=some (.vec e t ty ov):=by
 unfold adW at hv;split at hv
 ·split at hv
  ·rename_i o ho;split at hv
   ·split at hv
    ·grind
    ·split at hv
     ·rename_i ht;split at hv
      ·rename_i hn;have ht:=aq ht
       grind [cO]
      grind
     grind
   grind
  grind
 grind
theorem Iz [bI] {α:Type} {ρ:Nat->Int} {v:W} {s:St} {k:W->St->T α} {x:α} (hρ:E.ρ=ρ) (r:bO E s.h w) (hp:bW ρ s.pc) (h:(NU v s k).leaf ρ=some x) :
 ∃v' h' dY E',bW ρ dY/\JE E w s.h E' h'/\(∀u,VR E w.heap v u->VR E' w.heap v' u)/\(k v' { s with h:=h',pc:=dY }).leaf ρ=some x:=by
 unfold NU at h;split at h
 ·rename_i id e t ov hv;obtain⟨ty,rfl,hl⟩:=SV hv;obtain⟨hid,ho,alx⟩:=r.live id _ hl;have Aj:=ho;simp only [OR] at Aj;rw [hρ] at Aj;obtain⟨⟨rT,tM⟩,arr,lo,hi,us,q1,q2,q3,q4,q5,q6,q7⟩:=Aj;obtain⟨e',h',dY,E',fj,f,w',l',c',g⟩:=Ke [] hρ r hp tM h;split at g
  ·rename_i o hg;have hg':=f.sub.get _ _ hg;rw [hl] at hg';simp only [ag] at hg';subst hg';obtain⟨hk,s1,r1⟩:=Jb f.rel hg;have hρ':E'.ρ=ρ:=f.ρ.trans hρ;refine⟨_,_,dY,{ E' with ro:=fun b=>E'.ro b\/b=(E'.θ id).1 },fj,⟨f.ρ,f.ek.trans s1,r1,f.sub.trans (Sub.drop _ _)⟩,fun u hu=>?_,g⟩;simp only [VR] at hu ⊢;obtain⟨_,m,a,cap,p1,rfl,p3,p4⟩:=hu;rw [cC,hρ] at p1;have hθ:=f.ek.θ id hid;have hκ:=f.ek.κ id hid
   have hO:OR E' w.heap id (.vec e' t ty []):=by simp only [OR];rw [hρ',hθ,hκ];have hv':=c' us (by rw [aC]; exact q2);refine⟨⟨fun p hp=>by simp at hp,w'⟩,arr,lo,hi,us,q1,hv',q3,?_,q5,q6,q7⟩;have e1:=hv'.length;have e2:=q2.length;omega
   have hh:=UO (E:=E') (ro:=fun b=>E'.ro b\/b=(E'.θ id).1) (fun _ h=> .inl h) (.inr rfl) hO (k:=m) (cap:=cap) (a:=a) (by rw [hρ',l']; omega) p3 (by
    simp only [eF] at p4 ⊢;rw [hθ,hκ]
    exact p4)
   exact hh
  grind [T.leaf]
 grind [IB]
theorem pd [bI] {α:Type} {ρ:Nat->Int}: ∀{vs:List W} {s:St} {E:En} {k:List W->St->T α} {x:α},E.ρ=ρ->bO E s.h w->bW ρ s.pc->(wO vs s k).leaf ρ=some x->
 ∃L3 h' dY E',bW ρ dY/\JE E w s.h E' h'/\(∀us,cA E w.heap vs us->cA E' w.heap L3 us)/\(k L3 { s with h:=h',pc:=dY }).leaf ρ=some x
 |[],s,E,k,x,hρ,r,hp,h=> ⟨[],s.h,s.pc,E,hp,JE.refl r,fun _ h=>h,h⟩
 |v::vs,s,E,k,x,hρ,r,hp,h=>by simp only [wO] at h;obtain⟨v1,U,fA,E1,fk,f1,q1,g1⟩:=Iz hρ r hp h;obtain⟨UM,Z,jt,E2,jk,f2,q2,g2⟩:=pd (s:={ s with h:=U,pc:=fA }) (f1.ρ.trans hρ) f1.rel fk g1;refine⟨v1::UM,Z,jt,E2,jk,f1.trans f2,fun us hu=>?_,g2⟩;rw [bV] at hu ⊢;obtain⟨u,gq,rfl,a,b⟩:=hu;exact⟨u,gq,rfl,VR.bX (f2.ek.keeps f1.rel) _ _ (q1 u a),q2 gq (cA.bX (f1.ek.keeps r) _ _ b)⟩
end
section
variable {P:Program} {E:En} {w:World}
theorem k8: ∀{cs vs l:List W} {o:Nat},dP cs o vs=some l->l.length=cs.length
 |cs,[],l,0,h=>by simp only [dP,ag] at h; rw [h]
 |[],v::vs,l,0,h=>by simp [dP] at h
 |c::cs,v::vs,l,0,h=>by
  simp only [dP] at h;split at h
  ·rename_i l' hl;simp only [ag] at h;subst h;simp [k8 hl]
  grind
 |[],vs,l,o+1,h=>by simp [dP] at h
 |c::cs,vs,l,o+1,h=>by
  simp only [dP] at h;split at h
  ·rename_i l' hl;simp only [ag] at h;subst h;simp [k8 hl]
  grind
theorem nz: ∀{cs vs l:List W} {o:Nat} (m:List W),dP cs o vs=some l->dP (cs++m) o vs=some (l++m)
 |cs,[],l,0,m,h=>by simp only [dP,ag] at h ⊢; rw [h]
 |[],v::vs,l,0,m,h=>by simp [dP] at h
 |c::cs,v::vs,l,0,m,h=>by
  simp only [dP,aP] at h ⊢;split at h
  ·rename_i l' hl;simp only [ag] at h;subst h;rw [nz m hl];rfl
  grind
 |[],vs,l,o+1,m,h=>by simp [dP] at h
 |c::cs,vs,l,o+1,m,h=>by
  simp only [dP,aP] at h ⊢;split at h
  ·rename_i l' hl;simp only [ag] at h;subst h;rw [nz m hl];rfl
  grind
theorem r4: ∀{cs vs l:List W} {o:Nat} (p:List W),dP cs o vs=some l->dP (p++cs) (p.length+o) vs=some (p++l)
 |cs,vs,l,o,[],h=>by simpa using h
 |cs,vs,l,o,x::p,h=>by have:=r4 p h;rw [aP,aK,show p.length+1+o=(p.length+o)+1 by omega];simp only [dP,this,aP]
theorem qZ: ∀{cs vs l:List W} {o:Nat},dP cs o vs=some l->∀j:Nat,l[j]?=if o<=j/\j<o+vs.length then vs[j-o]? else cs[j]?
 |cs,[],l,0,h,j=>by
  simp only [dP,ag] at h
  grind
 |[],v::vs,l,0,h,j=>by simp [dP] at h
 |c::cs,v::vs,l,0,h,j=>by
  simp only [dP] at h;split at h
  ·rename_i l' hl;simp only [ag] at h;subst h
   cases j with
   |zero=>simp
   |succ j=>
    have:=qZ hl j
    grind
  grind
 |[],vs,l,o+1,h,j=>by simp [dP] at h
 |c::cs,vs,l,o+1,h,j=>by
  simp only [dP] at h;split at h
  ·rename_i l' hl;simp only [ag] at h;subst h
   cases j with
   |zero=>rw [af J]; rfl
   |succ j=>
    have:=qZ hl j
    grind
  grind
theorem zh (x:V): ∀(cs:List CK) (j k:Nat),(hD cs j x)[k]?=(cs[k]?).map fun c=>u6 c (iu (j+k) x)
 |[],j,k=>by simp [hD]
 |c::cs,j,0=>by simp [hD]
 |c::cs,j,k+1=>by
  simp only [hD,aH,zh x cs (j+1) k]
  grind
theorem AT {ρ:Nat->Int} {ks:List CK}: ∀{vs:List W} {off:Nat} {x x':V},setCells ks off vs x=some x'->off+vs.length<=(dec (x.den ρ)).l.length->
 (dec (x'.den ρ)).l.length=(dec (x.den ρ)).l.length/\(dec (x.den ρ)=dL (dec (x.den ρ)).l->dec (x'.den ρ)=dL (dec (x'.den ρ)).l)/\
 ∀j,(j<off\/off+vs.length<=j)/\(dec (x'.den ρ)).l[j]?=(dec (x.den ρ)).l[j]?\/∃c v a,off<=j/\vs[j-off]?=some v/\ks[j]?=some c/\mz c v=some a/\(dec (x'.den ρ)).l[j]?=some (dec (a.den ρ))
 |[],off,x,x',h,_=>by
  simp only [setCells,ag] at h
  grind
 |v::vs,off,x,x',h,hle=>by
  simp only [setCells] at h;split at h
  ·rename_i c hc;split at h
   ·rename_i a ha;simp only [aK] at hle
    have hs:dec ((V.op .set x (ey (.eo (.i (Int.ofNat off))) a)).den ρ)=dL ((dec (x.den ρ)).l.set off (dec (a.den ρ))):=by simp only [ey,V.den,fc.den,bB,D.n];rfl
    obtain⟨U,Z,h3⟩:=AT (ρ:=ρ) h (by rw [hs,bM,amR]; omega);rw [hs,bM,amR] at U;rw [hs] at Z h3;simp only [bM] at Z h3;rw [di] at hc
    grind
   grind
  grind
theorem dO.mk {ro:Nat->Prop} {h:Array Obj} {d:D}: ∀{cs:List CK} {j:Nat} {us:List Value},us.length=cs.length->(∀k c u,cs[k]?=some c->us[k]?=some u->iR ro h c (d.hd (j+k)) u)->dO ro h cs j d us
 |[],j,us,hl,_=>by
  simp only [dO]
  grind
 |c::cs,j,[],hl,_=>by simp at hl
 |c::cs,j,u::us,hl,hh=>by
  simp only [dO];refine⟨u,us,rfl,by simpa using hh 0 c u rfl rfl,dO.mk (by simpa using hl) fun k c' u' U Z=>?_⟩;have:=hh (k+1) c' u' (by simpa using U) (by simpa using Z)
  grind
theorem OQ {r:Row} {e e' i:V} {off k:Nat} {vs:List W} {x:D} (hc:Ji r e i off vs=some e') (hi:i.den E.ρ=(k:Int)) (hx:(dec (e.den E.ρ)).l[k]?=some x) (tM:py r x) (hle:off+vs.length<=r.es) :
 ∃x',dec (e'.den E.ρ)=dL ((dec (e.den E.ρ)).l.set k x')/\py r x'/\∀(h:Array Obj) (gq:List Value),gq.length=r.es->(∀j v u,off<=j->vs[j-off]?=some v->gq[j]?=some u->VR E h v u)->
  (∀j a u,(j<off\/off+vs.length<=j)->(gy r (.op .at e i))[j]?=some a->gq[j]?=some u->VR E h a u)->wA E.ro h r x' gq:=by
 unfold Ji at hc;split at hc
 ·rename_i c;split at hc
  ·split at hc
   ·rename_i v;split at hc
    ·rename_i a ha;simp only [ag] at hc;subst hc;refine⟨dec (a.den E.ρ),?_,oJ ha,?_⟩
     ·simp only [ey,V.den,fc.den,bB,ld,D.n,hi,tZ]
     ·intro h gq U Z _
      cases gq with
      |nil=>simp [Row.es] at U
      |cons y ys=>
       have:ys= []:=by
        grind [Row.es]
       subst this;exact⟨y,rfl,kG (Z 0 v y (au _) rfl rfl) ha⟩
    grind
   grind
  grind
 ·rename_i ks;split at hc
  ·rename_i x' T7;simp only [ag] at hc;subst hc;have mB:=AF E.ρ e i hi hx;obtain⟨w1,w2,w3⟩:=tM;obtain⟨g1,g2,g3⟩:=AT (ρ:=E.ρ) T7 (by rw [mB,w2]; exact hle);rw [mB] at g1 g2 g3;refine⟨dec (x'.den E.ρ),?_,⟨g2 w1,by rw [g1,w2],?_⟩,?_⟩
   ·simp only [ey,V.den,fc.den,bB,ld,D.n,hi,tZ]
   ·intro j c y hj hy;rcases g3 j with ⟨_,q2⟩|⟨c',v',a',_,_,q3,q4,q5⟩
    ·grind
    ·rw [q5] at hy;rw [hj] at q3;simp only [ag] at hy q3;subst hy q3;exact oJ q4
   ·intro h gq U Z h3;show dO E.ro h ks 0 (dec (x'.den E.ρ)) gq;refine dO.mk U fun j c u hj hu=>?_;rw [ay];rcases g3 j with ⟨q1,q2⟩|⟨c',v',a',q1,q2,q3,q4,q5⟩
    ·have p2:=h3 j (u6 c (iu j (.op .at e i))) u q1 (by simp only [gy,zh,hj,alE,ay]) hu;rw [nh,oN,mB] at p2;have:(dec (x'.den E.ρ)).hd j=x.hd j:=by simp only [D.hd,q2]
     grind
    ·rw [hj] at q3;simp only [ag] at q3;subst q3;have:(dec (x'.den E.ρ)).hd j=dec (a'.den E.ρ):=by simp only [D.hd,q5,az]
     rw [this];exact kG (Z j v' u q1 q2 hu) q4
  grind
theorem j8 {ρ:Nat->Int} {r:Row} {ov iD:List (V×List W)}: ∀(ds:List D) (i:Nat),(∀j,i<=j->j<i+ds.length->dW ρ j ov=dW ρ j iD)->bG ρ r ov ds i=bG ρ r iD ds i
 |[],_,_=>rfl
 |d::ds,i,h=>by simp only [bG];rw [h i (au _) ad,j8 ds (i+1) fun j U Z=>h j J (by simp only [aK]; omega)]
theorem C5 {ρ:Nat->Int} {pc:List (SB×Bool)} (hp:bW ρ pc) {i:V} {k:Nat} (hi:i.den ρ=(k:Int)) {lF:List W} {r:Row} (T8:lF.length=r.es): ∀{ov iD:List (V×List W)},FQ pc i lF ov=some iD->sg r ov->
 sg r iD/\dW ρ k iD=some lF/\∀j:Nat,j≠k->dW ρ j iD=dW ρ j ov
 |[],iD,h,_=>by simp [FQ] at h
 |(j,c)::l,iD,h,ho=>by
  simp only [FQ] at h;split at h
  ·rename_i he;have he:=cO _ _ he;subst he;simp only [ag] at h;subst h;refine⟨?_,by simp [dW,hi],?_⟩
   ·intro p fj;rcases ax.1 fj with rfl|fj
    ·grind
    ·exact ho p (by simp [fj])
   ·intro m hm;simp only [dW,hi]
    grind
  ·split at h
   ·rename_i b hd;split at h
    ·have hd:=gp hp hd;rw [gv,beq_iff_eq,hi] at hd;simp only [ag] at h;subst h;refine⟨?_,by simp [dW,hd],?_⟩
     ·intro p fj;rcases ax.1 fj with rfl|fj
      ·grind
      ·exact ho p (by simp [fj])
     ·intro m hm;simp only [dW,<- hd]
      grind
    split at h
    ·rename_i l' hl;simp only [ag] at h;subst h;have hd:=gp hp hd;rw [gv,beq_eq_false_iff_ne,hi] at hd;obtain⟨g1,g2,g3⟩:=C5 hp hi T8 hl fun p fj=>ho p (by simp [fj]);refine⟨?_,?_,?_⟩
     ·intro p fj;rcases ax.1 fj with rfl|fj
      ·exact ho _ ad
      ·exact g1 p fj
     ·simp only [dW]
      grind
     ·intro m hm;simp only [dW]
      grind
    grind
   grind
theorem Hk {ρ:Nat->Int} {pc:List (SB×Bool)} (hp:bW ρ pc) {i:V} {k:Nat} (hi:i.den ρ=(k:Int)): ∀{ov:List (V×List W)},ve pc i ov=true->dW ρ k ov=none
 |[],_=>rfl
 |(j,c)::l,h=>by
  simp only [ve] at h;split at h
  ·rename_i hd;have hd:=gp hp hd;rw [gv,beq_eq_false_iff_ne,hi] at hd;simp only [dW];rw [af (fun q=>hd q.symm)];exact Hk hp hi h
  grind
theorem OR.congr {h:Array Obj} {id:Nat} {a b:List W} {ty:TypeId} (ho:OR E h id (.cells a ty)) (hl:b.length=a.length) (hv: ∀us,cA E h a us->cA E h b us):OR E h id (.cells b ty):=by
 simp only [OR] at ho ⊢
 grind
set_option maxHeartbeats 800000 in
theorem Lb [bI] {E1:En} {tt:TT} (cJ:ew P tt) {s s':St} (r1:bO E1 s.h w) (hp:bW E1.ρ s.pc) {ty id es:Nat} {i:V} {off:Nat} {one:Bool} {vs:List W} {v':W} {u x:Value} (hx:VR E1 w.heap (.zd id es i off) u)
 (L9:one=true->cA E1 w.heap vs x.cells.toList/\∀u∈x.cells.toList,u.oneCell'=true) (h:(DX tt s ty id es i off one vs).leaf E1.ρ=some (v',s')) :
 s'.bE=s.bE/\bW E1.ρ s'.pc/\v'=W.undef/\∃w' E',(Instr.storeAt ty u x).run P w= .ok () w'/\eN E1 s.h w E' s'.h w'/\bO E' s'.h w':=by
 unfold DX at h;split at h
 ·rename_i o hl;split at h
  ·rename_i e t zB ov;split at h
   ·rename_i ti fU;split at h
    ·rename_i iV;obtain⟨ky,hvl,wj⟩:=iV;obtain⟨pc0,Xq,t1,t2,h3⟩:=nj hp h;obtain⟨dY,fj,h3⟩:=vk (s:={ s with pc:=pc0 }) Xq h3;split at h3
     ·rename_i cs hc;split at h3
      ·rename_i lF hs;obtain⟨Gu,Xx⟩:=L9 wj;have hx1:=hx;simp only [VR] at hx1;obtain⟨hid,k,hk,rfl⟩:=hx1;obtain⟨rc,ho,tM⟩:=r1.nY hl;rw [cC] at t2;have ff:k<(dec (e.den E1.ρ)).l.length:=J
       have hd:(dec (e.den E1.ρ)).l[k]?=some (dec (e.den E1.ρ)).l[k]:=aM ff;generalize hxk:(dec (e.den E1.ρ)).l[k]=xk at hd;obtain⟨c1,c2⟩:=iY (ρ:=E1.ρ) ho (j:=0) hd;rw [ay] at c1;generalize O':bG E1.ρ (rowOf t) ov ((dec (e.den E1.ρ)).l.take k) 0=pre at c1 c2;generalize QC:bG E1.ρ (rowOf t) ov ((dec (e.den E1.ρ)).l.drop (k+1)) (k+1)=post at c1
       have lq:(∀h us,cA E1 h (match dW E1.ρ k ov with |some cs=>cs|none=>gy (rowOf t) (.eo xk)) us↔cA E1 h cs us)/\cs.length=(rowOf t).es:=by
        rcases nA fj hk hc with g|⟨g,rfl⟩
        ·rw [g];obtain⟨p,p1,p2,_⟩:=kq g;have:=ho p p1;rw [p2] at this;exact⟨fun _ _=>Iff.rfl,this⟩
        ·rw [g];refine⟨fun h us=>w6 ?_,gG _ _⟩;rw [AF E1.ρ e i hk hd];simp only [V.den,bB]
       obtain⟨hrv,Cf⟩:=lq;have It:lF.length=(rowOf t).es:=by rw [k8 hs,Cf]
       have hor:OR E1 w.heap id (.cells (pre++(cs++post)) zB):=by
        have:=(rc.live id _ (by rw [Hp.bR,ah rfl])).2.1;unfold cN at this;rw [c1] at this;refine OR.congr this ?_ ?_
        ·simp only [a8,Cf];congr 2;split
         ·rename_i cs0 h0;obtain⟨p,p1,p2,_⟩:=kq h0;have:=ho p p1;rw [p2] at this;exact this.symm
         ·rw [gG]
        ·intro us q2;obtain⟨a,b,rfl,a1,a2⟩:=q2.split;obtain⟨a',b',rfl,b1,b2⟩:=a2.split;exact a1.append (((hrv _ _).1 b1).append b2)
       have r2:=r1.swap (H2:=s.h.put id (.cells (pre++(cs++post)) zB)) hl hor (by rw [Hp.bR,ah rfl]) (fun j hj=>by rw [Hp.bR,af hj]) rfl rfl
       have hs2:dP (pre++(cs++post)) (k*es+off) vs=some (pre++(lF++post)):=by rw [<- ky,<- c2];exact r4 pre (nz post hs)
       obtain⟨w',g1,g2,g3⟩:=lH (P:=P) r2 (by rw [Hp.bR,ah rfl]) hs2 Gu Xx;have hlen:x.cells.size=ti.size:=by have:=Gu.length; simp only [bj] at this; omega
       have kV:(Instr.storeAt ty (.pointer (some ⟨(E1.θ id).1,(E1.θ id).2+(k*es+off),none⟩)) x).run P w= .ok () w':=by simp [Instr.storeAt,Instr.sureAddr,storeVar,ep (cJ ty ti fU),hlen,g1]
       have fin: ∀(o':dG),OR E1 w'.heap id o'->∃w' E',(Instr.storeAt ty (.pointer (some ⟨(E1.θ id).1,(E1.θ id).2+(k*es+off),none⟩)) x).run P w= .ok () w'/\eN E1 s.h w E' (s.h.put id o') w'/\bO E' (s.h.put id o') w':=by
        intro o' Aj;have al1:Fg (s.h.put id (.cells (pre++(cs++post)) zB)) s.h:=(Fg.put hl).symm
        have al2:Fg ((s.h.put id (.cells (pre++(cs++post)) zB)).put id (.cells (pre++(lF++post)) zB)) (s.h.put id o'):=by
         refine⟨fun j y hj=>?_,fun j y hj=>?_,rfl,rfl⟩
         ·rw [Hp.bR];split
          ·exact⟨o',rfl⟩
          ·rename_i fX;rw [Hp.bR,af fX,Hp.bR,af fX] at hj;exact⟨y,hj⟩
         ·rw [Hp.bR] at hj ⊢;split
          ·exact⟨_,rfl⟩
          ·rename_i fX;rw [af fX] at hj;rw [Hp.bR,af fX];exact⟨y,hj⟩
        refine⟨w',E1,kV,(g2.left al1).right al2,?_⟩;exact g3.swap (id:=id) (by rw [Hp.bR,ah rfl]) Aj (by rw [Hp.bR,ah rfl]) (fun j hj=>by rw [Hp.bR,af hj,Hp.bR,af hj,Hp.bR,af hj]) rfl rfl
       have Am:=(g3.live id _ (by rw [Hp.bR,ah rfl])).2.1
       have apart: ∀iD:List (V×List W),sg (rowOf t) iD->dW E1.ρ k iD=some lF->(∀j:Nat,j≠k->dW E1.ρ j iD=dW E1.ρ j ov)->OR E1 w'.heap id (.vec e t zB iD):=by
        intro iD q1 q2 q3;refine OR.nY.2 ⟨⟨q1,tM⟩,?_⟩
        have:cN E1.ρ e t iD=pre++(lF++post):=by
         unfold cN;obtain⟨d1,_⟩:=iY (ρ:=E1.ρ) q1 (j:=0) hd;rw [ay,q2] at d1;rw [d1,<- O',<- QC];congr 1
         ·refine j8 _ _ fun j _ hj=>q3 j ?_;rw [bd] at hj;omega
         ·congr 1;exact j8 _ _ fun j hj _=>q3 j J
        rw [this];exact Am
       split at h3
       ·rename_i iD rT;have:=bC h3;simp only [ak] at this;obtain⟨rfl,rfl⟩:=this;refine⟨rfl,fj,rfl,?_⟩;obtain⟨q1,q2,q3⟩:=C5 fj hk It rT ho;exact fin _ (apart iD q1 q2 q3)
       ·split at h3
        ·rename_i aiu;have QI:=Hk fj hk aiu;split at h3
         ·rename_i e' aki;have:=bC h3;simp only [ak] at this;obtain⟨rfl,rfl⟩:=this;refine⟨rfl,fj,rfl,fin _ ?_⟩;have hxm:xk∈(dec (e.den E1.ρ)).l:=bw hd
          have hle:off+vs.length<=(rowOf t).es:=by
           rw [<- Cf];rcases amj vs.length with hz|hz
           ·have ah3:=alM hz;subst ah3
            have: ∀(l c:List W) (o:Nat),dP c o []=some l->o<=c.length:=by
             intro l c
             induction c generalizing l with
             |nil=>intro o ho; cases o with |zero=>exact alT _|succ o=>simp [dP] at ho
             |cons a c ih=>
              intro o ho
              cases o with
              |zero=>exact alT _
              |succ o=>
               simp only [dP] at ho;split at ho
               ·rename_i l' NI;have:=ih l' o NI;simp; omega
               ·simp at ho
            have:=this _ _ _ hs;simpa using this
           ·have:=qZ hs (off+vs.length-1);rw [ah J] at this
            have Be:(vs[off+vs.length-1-off]?).isSome=true:=by rw [aM J]; rfl
            rw [<- this] at Be;obtain⟨y,hy⟩:=al8.1 Be;have:=(aW.1 hy).1;rw [k8 hs] at this;omega
          obtain⟨x',z1,z2,z3⟩:=OQ aki hk hd (tM.2.1 xk hxm) hle;refine OR.nY.2 ⟨⟨ho,?_⟩,?_⟩
          ·rw [z1];refine⟨by rw [bM],fun y hy=>?_,by rw [bM]; intro q; have:=congrArg List.length q; simp at this; exact tM.2.2 this⟩;rw [bM] at hy;rcases List.mem_or_eq_of_mem_set hy with hy|rfl
           ·exact tM.2.1 y hy
           ·exact z2
          ·have DE:(dec (e'.den E1.ρ)).l[k]?=some x':=by
            rw [z1,bM,List.getElem?_set_self ff]
           obtain⟨d1,d2⟩:=iY (ρ:=E1.ρ) ho (j:=0) DE;rw [ay,QI] at d1
           have QL:cN E1.ρ e' t ov=pre++(gy (rowOf t) (.eo x')++post):=by
            unfold cN;rw [d1,<- O',<- QC,z1,bM];congr 1
            ·rw [anc (au _)]
            ·congr 1;rw [ane J]
           rw [QL];refine OR.congr Am (by simp only [a8,gG,It]) fun us q2=>?_;obtain⟨a,b,rfl,a1,a2⟩:=q2.split;obtain⟨a',b',rfl,b1,b2⟩:=a2.split;refine a1.append (cA.append ?_ b2);rw [fT];simp only [V.den,bB]
           have ain:cs=gy (rowOf t) (.op .at e i):=by
            rcases nA fj hk hc with g|⟨g,g'⟩
            ·rw [QI] at g; simp at g
            ·exact g'
           refine z3 _ a' (by rw [b1.length,It]) ?_ ?_
           ·intro j vj uj hj1 hj2 hj3;have hjl:=(aW.1 hj2).1;have:=qZ hs j;rw [ah J,hj2] at this;obtain⟨y,y1,y2⟩:=b1.nth (by rw [di]; exact this);rw [hj3] at y1;simp only [ag] at y1;subst y1;exact y2
           ·intro j aj uj hj1 hj2 hj3;have:=qZ hs j;rw [af J,ain,hj2] at this;obtain⟨y,y1,y2⟩:=b1.nth (by rw [di]; exact this);rw [hj3] at y1;simp only [ag] at y1;subst y1;exact y2
         ·have:=bC h3;simp only [ak] at this;obtain⟨rfl,rfl⟩:=this;refine⟨rfl,fj,rfl,fin _ (apart _ ?_ ?_ ?_)⟩
          ·intro p fj;rcases ax.1 fj with rfl|fj
           ·exact It
           ·exact ho p fj
          ·simp only [dW];rw [ah hk]
          ·intro j hj;simp only [dW];rw [af J]
        ·simp [T.leaf] at h3
      ·simp [T.leaf] at h3
     ·simp [T.leaf] at h3
    ·simp [T.leaf] at h
   ·simp [T.leaf] at h
  ·simp [T.leaf] at h
 ·simp [T.leaf] at h
theorem T_ {E1:En} {h:Array Obj} {c:CK} {v:W} {u:Value} (hv:VR E1 h v u):VR E1 h (aeU c v) u:=by
 unfold aeU;split
 ·split
  ·simp only [VR] at hv ⊢;subst hv;exact⟨⟨none,rfl⟩,by simp only [V.den,bB]; exact .nil _⟩
  ·split
   ·split
    ·split
     ·simp only [VR] at hv ⊢;obtain⟨_,a,cap,rfl,_,hc⟩:=hv;simp only [eF] at hc;obtain⟨rfl,_⟩:=hc;exact⟨⟨some a,rfl⟩,by simp only [V.den,bB]; exact .vz _ _ _⟩
     grind
    grind
   grind
  grind
 grind
theorem GM {E1:En} {h:Array Obj}: ∀(cs:List CK) {vs:List W} {us:List Value},cA E1 h vs us->cA E1 h (K4 cs vs) us
 |[],vs,us,hv=>hv
 |_::_,[],us,hv=>hv
 |c::cs,v::vs,us,hv=>by rw [bV] at hv;obtain⟨u,gq,rfl,U,Z⟩:=hv;simp only [K4];rw [bV];exact⟨u,gq,rfl,T_ U,GM cs Z⟩
set_option maxHeartbeats 800000 in
theorem La [bI] {E1:En} {tt:TT} (cJ:ew P tt) {s s':St} (r1:bO E1 s.h w) (hp:bW E1.ρ s.pc) {ty id es:Nat} {i j0:V} {off:Nat} {one:Bool} {vs:List W} {v':W} {u x:Value} (hx:VR E1 w.heap (.zd id es i off) u)
 (L9:one=true->cA E1 w.heap vs x.cells.toList/\∀u∈x.cells.toList,u.oneCell'=true) (h:(DW tt s ty id es i j0 off one vs).leaf E1.ρ=some (v',s')) :
 s'.bE=s.bE/\bW E1.ρ s'.pc/\v'=W.undef/\∃w' E',(Instr.storeAt ty u x).run P w= .ok () w'/\eN E1 s.h w E' s'.h w'/\bO E' s'.h w':=by
 unfold DW at h;split at h
 ·rename_i o hl;split at h
  ·rename_i e t zB ov;split at h
   ·rename_i ti fU;split at h
    ·rename_i iV;obtain⟨ky,hvl,wj⟩:=iV;obtain⟨pc0,Xq,t1,t2,h3⟩:=nj hp h;obtain⟨dY,fj,h3⟩:=vk (s:={ s with pc:=pc0 }) Xq h3;split at h3
     ·rename_i hdb;have hij:=gp fj hdb;split at h3
      ·rename_i cs hc;split at h3
       ·rename_i lF hs;obtain⟨ah2,Xx⟩:=L9 wj;have Gu:=GM ((M0 (rowOf t)).drop off) ah2;have hx1:=hx;simp only [VR] at hx1;obtain⟨hid,k,hk,rfl⟩:=hx1;simp only [SB.den,beq_iff_eq] at hij;have Cc:j0.den E1.ρ=(k:Int):=by rw [<- hij]; exact hk
        obtain⟨rc,ho,tM⟩:=r1.nY hl;rw [cC] at t2;have ff:k<(dec (e.den E1.ρ)).l.length:=J
        have hd:(dec (e.den E1.ρ)).l[k]?=some (dec (e.den E1.ρ)).l[k]:=aM ff;generalize hxk:(dec (e.den E1.ρ)).l[k]=xk at hd;obtain⟨c1,c2⟩:=iY (ρ:=E1.ρ) ho (j:=0) hd;rw [ay] at c1;generalize O':bG E1.ρ (rowOf t) ov ((dec (e.den E1.ρ)).l.take k) 0=pre at c1 c2;generalize QC:bG E1.ρ (rowOf t) ov ((dec (e.den E1.ρ)).l.drop (k+1)) (k+1)=post at c1
        have lq:(∀h us,cA E1 h (match dW E1.ρ k ov with |some cs=>cs|none=>gy (rowOf t) (.eo xk)) us↔cA E1 h cs us)/\cs.length=(rowOf t).es:=by
         rcases nA fj Cc hc with g|⟨g,rfl⟩
         ·rw [g];obtain⟨p,p1,p2,_⟩:=kq g;have:=ho p p1;rw [p2] at this;exact⟨fun _ _=>Iff.rfl,this⟩
         ·rw [g];refine⟨fun h us=>w6 ?_,gG _ _⟩;rw [AF E1.ρ e j0 Cc hd];simp only [V.den,bB]
        obtain⟨hrv,Cf⟩:=lq;have It:lF.length=(rowOf t).es:=by rw [k8 hs,Cf]
        have hor:OR E1 w.heap id (.cells (pre++(cs++post)) zB):=by
         have:=(rc.live id _ (by rw [Hp.bR,ah rfl])).2.1;unfold cN at this;rw [c1] at this;refine OR.congr this ?_ ?_
         ·simp only [a8,Cf];congr 2;split
          ·rename_i cs0 h0;obtain⟨p,p1,p2,_⟩:=kq h0;have:=ho p p1;rw [p2] at this;exact this.symm
          ·rw [gG]
         ·intro us q2;obtain⟨a,b,rfl,a1,a2⟩:=q2.split;obtain⟨a',b',rfl,b1,b2⟩:=a2.split;exact a1.append (((hrv _ _).1 b1).append b2)
        have r2:=r1.swap (H2:=s.h.put id (.cells (pre++(cs++post)) zB)) hl hor (by rw [Hp.bR,ah rfl]) (fun j hj=>by rw [Hp.bR,af hj]) rfl rfl
        have hs2:dP (pre++(cs++post)) (k*es+off) (K4 ((M0 (rowOf t)).drop off) vs)=some (pre++(lF++post)):=by rw [<- ky,<- c2];exact r4 pre (nz post hs)
        obtain⟨w',g1,g2,g3⟩:=lH (P:=P) r2 (by rw [Hp.bR,ah rfl]) hs2 Gu Xx;have hlen:x.cells.size=ti.size:=by have:=ah2.length; simp only [bj] at this; omega
        have kV:(Instr.storeAt ty (.pointer (some ⟨(E1.θ id).1,(E1.θ id).2+(k*es+off),none⟩)) x).run P w= .ok () w':=by simp [Instr.storeAt,Instr.sureAddr,storeVar,ep (cJ ty ti fU),hlen,g1]
        have fin: ∀(o':dG),OR E1 w'.heap id o'->∃w' E',(Instr.storeAt ty (.pointer (some ⟨(E1.θ id).1,(E1.θ id).2+(k*es+off),none⟩)) x).run P w= .ok () w'/\eN E1 s.h w E' (s.h.put id o') w'/\bO E' (s.h.put id o') w':=by
         intro o' Aj;have al1:Fg (s.h.put id (.cells (pre++(cs++post)) zB)) s.h:=(Fg.put hl).symm
         have al2:Fg ((s.h.put id (.cells (pre++(cs++post)) zB)).put id (.cells (pre++(lF++post)) zB)) (s.h.put id o'):=by
          refine⟨fun j y hj=>?_,fun j y hj=>?_,rfl,rfl⟩
          ·rw [Hp.bR];split
           ·exact⟨o',rfl⟩
           ·rename_i fX;rw [Hp.bR,af fX,Hp.bR,af fX] at hj;exact⟨y,hj⟩
          ·rw [Hp.bR] at hj ⊢;split
           ·exact⟨_,rfl⟩
           ·rename_i fX;rw [af fX] at hj;rw [Hp.bR,af fX];exact⟨y,hj⟩
         refine⟨w',E1,kV,(g2.left al1).right al2,?_⟩;exact g3.swap (id:=id) (by rw [Hp.bR,ah rfl]) Aj (by rw [Hp.bR,ah rfl]) (fun j hj=>by rw [Hp.bR,af hj,Hp.bR,af hj,Hp.bR,af hj]) rfl rfl
        have Am:=(g3.live id _ (by rw [Hp.bR,ah rfl])).2.1
        have apart: ∀iD:List (V×List W),sg (rowOf t) iD->dW E1.ρ k iD=some lF->(∀j:Nat,j≠k->dW E1.ρ j iD=dW E1.ρ j ov)->OR E1 w'.heap id (.vec e t zB iD):=by
         intro iD q1 q2 q3;refine OR.nY.2 ⟨⟨q1,tM⟩,?_⟩
         have:cN E1.ρ e t iD=pre++(lF++post):=by
          unfold cN;obtain⟨d1,_⟩:=iY (ρ:=E1.ρ) q1 (j:=0) hd;rw [ay,q2] at d1;rw [d1,<- O',<- QC];congr 1
          ·refine j8 _ _ fun j _ hj=>q3 j ?_;rw [bd] at hj;omega
          ·congr 1;exact j8 _ _ fun j hj _=>q3 j J
         rw [this];exact Am
        split at h3
        ·rename_i iD rT;have:=bC h3;simp only [ak] at this;obtain⟨rfl,rfl⟩:=this;refine⟨rfl,fj,rfl,?_⟩;obtain⟨q1,q2,q3⟩:=C5 fj Cc It rT ho;exact fin _ (apart iD q1 q2 q3)
        ·split at h3
         ·rename_i aiu;have:=bC h3;simp only [ak] at this;obtain⟨rfl,rfl⟩:=this;refine⟨rfl,fj,rfl,fin _ (apart _ ?_ ?_ ?_)⟩
          ·intro p fj;rcases ax.1 fj with rfl|fj
           ·exact It
           ·exact ho p fj
          ·simp only [dW];rw [ah Cc]
          ·intro j hj;simp only [dW];rw [af J]
         ·simp [T.leaf] at h3
       ·simp [T.leaf] at h3
      ·simp [T.leaf] at h3
     ·simp [T.leaf] at h3
    ·simp [T.leaf] at h
   ·simp [T.leaf] at h
  ·simp [T.leaf] at h
 ·simp [T.leaf] at h
theorem Ld [bI] {tt:TT} (cJ:ew P tt) {s s':St} (r:bO E s.h w) (hp:bW E.ρ s.pc) {ty id es:Nat} {i:V} {off:Nat} {v v':W} {u x:Value} (hx:VR E w.heap (.zd id es i off) u) (hv:VR E w.heap v x) (h:(DY tt s ty id es i off v).leaf E.ρ=some (v',s')) :
 s'.bE=s.bE/\bW E.ρ s'.pc/\v'=W.undef/\∃w' E',(Instr.storeAt ty u x).run P w= .ok () w'/\eN E s.h w E' s'.h w'/\bO E' s'.h w':=by
 unfold DY at h;split at h
 ·exact La cJ r hp hx (fun wj=> ⟨hv.cells wj,(hv.cells wj).rm wj⟩) h
 ·obtain⟨vs,U,fA,E1,fk,f,q,g⟩:=pd rfl r hp h;have hρ:=f.ρ;rw [<- hρ] at fk g;obtain⟨a1,a2,a3,w',E',a4,a5,a6⟩:=Lb cJ (s:={ s with h:=U,pc:=fA }) f.rel fk (VR.bX (f.ek.keeps r) _ _ hx) (fun wj=> ⟨q _ (hv.cells wj),(hv.cells wj).rm wj⟩) g;exact⟨a1,by rw [<- hρ]; exact a2,a3,w',E',a4,f.ek.trans a5,a6⟩
end
section
variable {P:Program} {E:En} {w:World}
theorem wA.length {ro:Nat->Prop} {h:Array Obj} {r:Row} {d:D} {us:List Value} (hh:wA ro h r d us):us.length=r.es:=by
 cases r with
 |one c=>obtain⟨u,rfl,_⟩:=hh; rfl
 |many cs=>exact dO.length hh
theorem fI.append {h:Array Obj} {b o:Nat} {us vs:List Value} (U:fI h b o us) (Z:fI h b (o+us.length) vs):fI h b o (us++vs):=by
 intro i u hi;rw [am4] at hi;split at hi
 ·exact U i u hi
 ·rename_i ff;have:=Z _ u hi
  grind
theorem CV {ro:Nat->Prop} (kJ:ro=E.ro) {h:Array Obj} {r:Row} {b o:Nat}: ∀(L:List D) (j:Nat),(∀i x,L[i]?=some x->∃us,wA ro h r x us/\fI h b (o+(j+i)*r.es) us)->
 ∃us,cA E h (bG E.ρ r [] L j) us/\fI h b (o+j*r.es) us/\us.length=L.length*r.es/\∀u∈us,u.oneCell'=true
 |[],j,_=> ⟨[],by simp [bG,cA],fun i u hi=>by simp at hi,ad,ad⟩
 |d::L,j,hh=>by
  subst kJ;obtain⟨a,a1,a2⟩:=hh 0 d rfl
  obtain⟨b',b1,b2,b3,b4⟩:=CV rfl L (j+1) fun i x hi=>by have:=hh (i+1) x (by simpa using hi);rw [show j+(i+1)=j+1+i by omega] at this;exact this
  have NN:=a1.length;refine⟨a++b',?_,?_,?_,?_⟩
  ·simp only [bG,dW];refine cA.append ?_ b1;rw [fT];simpa only [V.den,bB] using a1
  ·rw [bg] at a2;refine a2.append ?_
   grind
  ·grind
  ·intro u hu;rcases alJ.1 hu with hu|hu
   ·exact a1.rm u hu
   grind
theorem aag {t:Nat} {d:D} {u:Value} (hr:Rd E.ro w.heap (.sl t) d u) (fX:d.l≠[]): ∃us,Src P E w (rowOf t).es d.l.length (bG E.ρ (rowOf t) [] d.l 0) u us:=by
 obtain⟨x,hx⟩ : ∃x,d.l[0]?=some x:=by
  cases h:d.l with
  |nil=>exact absurd h fX
  |cons a l=>exact⟨a,rfl⟩
 obtain⟨b,o,cap,us0,rfl,Y,_,_⟩:=hr.row hx
 obtain⟨us,U,Z,h3,h4⟩:=CV (E:=E) (ro:=E.ro) rfl (h:=w.heap) (r:=rowOf t) (b:=b) (o:=o) d.l 0 fun i x hi=>by
  obtain⟨b',o',oy,gq,he,_,g1,g2⟩:=hr.row hi
  grind
 rw [alG,bg] at Z;exact⟨us.toArray,fun _=>rfl,fun w2 hw=>by simp only [Builtin.firstCells]; exact Z.PN h3 w2 hw,by simpa using U,by simpa using h3,by simpa using h4⟩
structure Grown (ρ:Nat->Int) (r:Row) (e0 e1:V) (ds:List D) (news:List W):Prop where
 l:(dec (e1.den ρ)).l=(dec (e0.den ρ)).l++ds
 wf:dec (e1.den ρ)=dL (dec (e1.den ρ)).l
 rows: ∀d∈ds,py r d
 vr: ∀(E':En) (h:Array Obj) (us:List Value) (j:Nat),E'.ρ=ρ->cA E' h news us->cA E' h (bG ρ r [] ds j) us
theorem jS (r:Row):sg r []:=fun p hp=>by simp at hp
theorem B6 [bI] {E':En} {H0:Hp} {w':World} {cells:List W} {e:TypeId} {e1:V} {t:Nat} (r:bO E' (H0.new (.cells cells e)) w') (tM:rQ (rowOf t) (dec (e1.den E'.ρ))) (hl:(cN E'.ρ e1 t []).length=cells.length)
 (hv: ∀us,cA E' w'.heap cells us->cA E' w'.heap (cN E'.ρ e1 t []) us):bO E' (H0.new (.vec e1 t e [])) w':=by
 have hg:(H0.new (.cells cells e)).get H0.fresh=some (.cells cells e):=by rw [Hp.fR,ah rfl]
 refine r.swap hg (OR.nY.2 ⟨⟨jS _,tM⟩,OR.congr (r.live _ _ hg).2.1 hl hv⟩) (by rw [Hp.fR,ah rfl]) (fun j hj=>by rw [Hp.fR,af hj,Hp.fR,af hj]) ?_ ?_
 all_goals grind [Hp.new]
theorem vA {H0 H1:Hp} {o o':dG} (hn:H1.next=H0.next) (hr:H1.res=H0.res) (hg: ∀j,(H0.get j).isSome=(H1.get j).isSome):Fg (H0.new o) (H1.new o'):=by
 have hf:H1.fresh=H0.fresh:=by unfold Hp.fresh; rw [hn,hr]
 have key: ∀{A B:Option dG} {x:dG},A.isSome=B.isSome->A=some x->∃y,B=some y:=by intro A B x U Z;rw [Z] at U;exact al8.1 U.symm
 refine⟨fun j x hj=>?_,fun j x hj=>?_,?_,?_⟩
 all_goals grind [Hp.fR,Hp.new]
set_option maxHeartbeats 800000 in
theorem xE [bI] {t t2 ty:Nat} {H h0:Hp} (r:bO E H w) {ie:TI} {e m:Nat} {own:Option Nat} {news:List W} {x:W} {d2:TypeDesc} {u u2:Value} {us:Array Value} (uz:l7 P e ie)
 (ht:P.underlying t=some (.slice e)) (xG:P.underlying t2=some d2) (jM: ∀k,d2≠.int k) (wH:ie.size≠0) (sG:ie.bytes≠0) (vJ:ie.zero.length=ie.size) (Mb:ie.bytes<=400)
 (src:Src P E w ie.size m news u2 us) (hm:0<m) (hx:VR E w.heap x u) {e0 e1:V} {t':Nat} (Y:pr e own x H=some (e0,t',h0)) (ky:(rowOf t').es=ie.size) {ds:List D} (g:Grown E.ρ (rowOf t') e0 e1 ds news) (vK:ds.length=m)
 (aez:((dec (e0.den E.ρ)).l.length+m)*ie.bytes<=140737488355328) :
 ∃y w' E',(Builtin.append_ #[t,t2] ty #[u,u2]).run P w= .ok y w'/\eN E H w E' (h0.new (.vec e1 t' e [])) w'/\bO E' (h0.new (.vec e1 t' e [])) w'/\VR E' w'.heap (.oL h0.fresh (dN e1) t') y:=by
 have hbound: ∀k,k<=(dec (e0.den E.ρ)).l.length->(k+m)*ie.bytes<=140737488355328:=by intro k hk;exact bk (al5 _ J) aez
 have Tb:news.length=m*ie.size:=by have U:=src.T2.length;have Z:=src.size;simp only [bj] at U;omega
 have sK: ∀(a:Option Addr),u= .slice a 0 0->h0=H->(dec (e0.den E.ρ)).l= []->
  ∃y w' E',(Builtin.append_ #[t,t2] ty #[u,u2]).run P w= .ok y w'/\eN E H w E' (h0.new (.vec e1 t' e [])) w'/\bO E' (h0.new (.vec e1 t' e [])) w'/\VR E' w'.heap (.oL h0.fresh (dN e1) t') y:=by
  intro a hu he nF;subst hu he
  have n9:mY ie e 0 m news h0=some (.slice h0.fresh 0 (0+m) (.rest ie.size),h0.new (.cells news e)):=by unfold mY;rw [ah (hbound 0 J)]
  obtain⟨y,w',E',p1,p2,p3,p4⟩:=oG (t:=t) (t2:=t2) (ty:=ty) (cap:=0) r uz ht xG jM sG vJ src J a (old:=[]) (olds:=#[]) (cs:=news) ad (by simp [cA]) ad ad
   (fun w2 _=>by
    cases a with
    |none=>simp [Builtin.firstCells]
    |some a=>simp only [Builtin.firstCells,alG]; rfl) n9
  have hρ:=p2.ρ;have Ak:(dec (e1.den E'.ρ)).l=ds:=by rw [hρ,g.l,nF,aC]
  have tM:rQ (rowOf t') (dec (e1.den E'.ρ)):=by refine⟨by rw [hρ]; exact g.wf,fun d hd=>?_,by rw [Ak]; intro q; rw [q] at vK; simp at vK; omega⟩;rw [Ak] at hd;exact g.rows d hd
  refine⟨y,w',E',p1,p2.right (vA rfl rfl fun _=>rfl),B6 p3 tM ?_ ?_,?_⟩
  ·unfold cN;rw [cD (jS _),Ak,vK,ky,Tb]
  ·intro gq Gv;unfold cN;rw [Ak,hρ];exact g.vr E' w'.heap gq 0 hρ Gv
  ·simp only [VR] at p4 ⊢;obtain⟨q1,a',oy,q2,q3,q4⟩:=p4;refine⟨q1,0+m,a',oy,?_,q2,q3,?_⟩
   ·rw [cC,Ak,vK,ay]
   ·rw [ky]; exact q4
 unfold pr at Y;split at Y
 ·rename_i id n t0;split at Y
  ·rename_i o hl;split at Y
   ·rename_i ze t00 rR ov;split at Y
    ·split at Y
     ·rename_i ht0;split at Y
      ·rename_i NA;split at Y
       ·rename_i hn;simp only [ag,ak] at Y;obtain⟨rfl,rfl,rfl⟩:=Y;have ht0:=aq ht0;have NA:=aq NA;have hn:=cO _ _ hn;subst ht0 NA hn;obtain⟨r2,_,aeq⟩:=r.nY hl;simp only [VR] at hx;obtain⟨hid,k,a,cap,hk,rfl,hkc,gI⟩:=hx;rw [cC] at hk;have hk:k=(dec (ze.den E.ρ)).l.length:=J
        have hx2:VR E w.heap (.slice id 0 k (.rest ie.size)) (.slice (some a) k cap):=by simp only [VR];exact⟨hid,a,cap,rfl,hkc,by rw [<- ky]; exact gI⟩
        have Cf:(cN E.ρ ze t0 []).length=k*ie.size:=by unfold cN;rw [cD (jS _),ky,hk]
        have aie:0<m*ie.size:=amD hm J
        have aeG:px ie rR m news (.slice id 0 k (.rest ie.size)) (H.put id (.cells (cN E.ρ ze t0 []) rR)) =
         some (.slice H.fresh 0 (k+m) (.rest ie.size),((H.put id (.cells (cN E.ρ ze t0 []) rR)).drop id).new (.cells (cN E.ρ ze t0 []++news) rR)):=by
         unfold px;simp only [if_true];rw [Hp.bR,ah rfl];simp only;rw [af (by rw [Cf,alL]; omega),ah ⟨J,trivial⟩];simp only [eE];unfold mY;rw [ah (hbound k J)];rfl
        obtain⟨y,w',E',p1,p2,p3,p4⟩:=vb (t:=t) (t2:=t2) (ty:=ty) r2 uz ht xG jM wH sG vJ src hx2 aeG;have hρ:=p2.ρ;have Ak:(dec (e1.den E'.ρ)).l=(dec (ze.den E.ρ)).l++ds:=by rw [hρ,g.l]
        have tM:rQ (rowOf t0) (dec (e1.den E'.ρ)):=by
         refine⟨by rw [hρ]; exact g.wf,fun d hd=>?_,by rw [Ak]; intro q; have:=congrArg List.length q; simp at this; rw [this.2] at vK; simp at vK; omega⟩;rw [Ak] at hd;rcases alJ.1 hd with hd|hd
         ·exact aeq.2.1 d hd
         ·exact g.rows d hd
        have QL:cN E'.ρ e1 t0 []=cN E.ρ ze t0 []++bG E.ρ (rowOf t0) [] ds (0+(dec (ze.den E.ρ)).l.length):=by unfold cN;rw [Ak,hρ,lG]
        have DC: ∀j,(((H.put id (.cells (cN E.ρ ze t0 []) rR)).drop id).get j)=(H.drop id).get j:=by
         intro j;rw [Hp.j5,Hp.j5];split
         ·rfl
         ·rename_i fX;rw [Hp.bR,af fX]
        have al:Fg (((H.put id (.cells (cN E.ρ ze t0 []) rR)).drop id).new (.cells (cN E.ρ ze t0 []++news) rR)) ((H.drop id).new (.vec e1 t0 rR [])):=
         vA rfl rfl fun j=>by rw [DC]
        have p3':bO E' ((H.drop id).new (.cells (cN E.ρ ze t0 []++news) rR)) w':=by
         have hg:(((H.put id (.cells (cN E.ρ ze t0 []) rR)).drop id).new (.cells (cN E.ρ ze t0 []++news) rR)).get H.fresh=some (.cells (cN E.ρ ze t0 []++news) rR):=by rw [Hp.fR];exact ah rfl
         refine p3.swap hg (p3.live _ _ hg).2.1 (by rw [Hp.fR]; exact ah rfl) (fun j hj=>?_) ?_ ?_
         ·rw [Hp.fR,Hp.fR];show (if j=H.fresh then _ else _)=(if j=H.fresh then _ else _);rw [af hj,af hj,DC]
         ·unfold Hp.new;simp only [Hp.drop,Hp.put];split<;>rfl
         ·unfold Hp.new;simp only [Hp.drop,Hp.put];split<;>rfl
        refine⟨y,w',E',p1,(p2.left (Fg.put hl).symm).right al,B6 p3' tM ?_ ?_,?_⟩
        ·rw [QL,a8,a8,cD (jS _),vK,ky,Tb]
        ·intro gq Gv;obtain⟨a1,a2,rfl,b1,b2⟩:=Gv.split;rw [QL];exact b1.append (g.vr E' w'.heap a2 _ hρ b2)
        ·simp only [VR] at p4 ⊢;obtain⟨q1,a',oy,q2,q3,q4⟩:=p4;refine⟨q1,k+m,a',oy,?_,q2,q3,?_⟩
         ·rw [cC,Ak,a8,vK,hk]
         ·rw [ky]; exact q4
       ·simp at Y
      ·simp at Y
     ·simp at Y
    ·simp at Y
   ·simp at Y
  ·simp at Y
 ·split at Y
  ·simp only [ag,ak] at Y;obtain⟨rfl,rfl,rfl⟩:=Y;simp only [VR] at hx;exact sK none hx rfl (by simp only [V.den,bB,D.l])
  ·simp at Y
 ·split at Y
  ·simp only [ag,ak] at Y;obtain⟨rfl,rfl,rfl⟩:=Y;simp only [VR] at hx;obtain⟨x,hx⟩:=hx;exact sK x hx rfl (by simp only [V.den,bB,D.l])
  ·simp at Y
 ·split at Y
  ·simp only [ag,ak] at Y;obtain⟨rfl,rfl,rfl⟩:=Y;simp only [VR] at hx;obtain⟨⟨x,hx⟩,_⟩:=hx;exact sK x hx rfl (by simp only [V.den,bB,D.l])
  ·simp at Y
 ·split at Y
  ·split at Y
   ·split at Y
    ·split at Y
     ·simp only [ag,ak] at Y;obtain⟨rfl,rfl,rfl⟩:=Y;simp only [VR] at hx;obtain⟨_,a,cap,rfl,_,hc⟩:=hx;simp only [eF] at hc;obtain⟨rfl,_⟩:=hc;exact sK (some a) rfl rfl (by simp only [V.den,bB,D.l])
     ·simp at Y
    ·simp at Y
   ·simp at Y
  ·simp at Y
 ·simp at Y
end
noncomputable def Hi (e:Nat) (own:Option Nat) (x:W) (h:Hp):Option (V×Nat×List (V×List W)×Hp):=match x with
 | .oL id n t=>match h.get id with
   |some o=>match o with
    | .vec e0 t0 ty ov=>match Nat.beq t t0 with
     |true=>match Nat.beq ty e with
      |true=>match eR n (dN e0) with
       |true=>some (e0,t,ov,h.drop id)
       |false=>none
      |false=>none
     |false=>none
    |_=>none
   |none=>none
 | .eg=>match own with
   |some t=>some (.eo (.i 0),t,[],h)
   |none=>none
 | .emp=>match own with
   |some t=>some (.eo (.i 0),t,[],h)
   |none=>none
 | .wR _ _=>match own with
   |some t=>some (.eo (.i 0),t,[],h)
   |none=>none
 | .slice _ _ n c=>match n with
   |0=>match c with
    | .exact k=>match k with
      |0=>match own with
       |some t=>some (.eo (.i 0),t,[],h)
       |none=>none
      |_=>none
    |_=>none
   |_=>none
 |_=>none
section
variable {P:Program} {E:En} {w:World}
structure O6 (ρ:Nat->Int) (r:Row) (e0 e1:V) (ov0 I!:List (V×List W)) (ds:List D) (news:List W):Prop where
 l:(dec (e1.den ρ)).l=(dec (e0.den ρ)).l++ds
 wf:dec (e1.den ρ)=dL (dec (e1.den ρ)).l
 rows: ∀d∈ds,py r d
 vr: ∀(E':En) (h:Array Obj) (us0 us:List Value),E'.ρ=ρ->cA E' h (bG ρ r ov0 (dec (e0.den ρ)).l 0) us0->cA E' h news us->cA E' h (bG ρ r I! (dec (e1.den ρ)).l 0) (us0++us)
theorem Ko [bI] {E':En} {H0:Hp} {w':World} {cells:List W} {e:TypeId} {e1:V} {t:Nat} {ov:List (V×List W)} (r:bO E' (H0.new (.cells cells e)) w') (ho:sg (rowOf t) ov) (tM:rQ (rowOf t) (dec (e1.den E'.ρ))) (hl:(cN E'.ρ e1 t ov).length=cells.length)
 (hv: ∀us,cA E' w'.heap cells us->cA E' w'.heap (cN E'.ρ e1 t ov) us):bO E' (H0.new (.vec e1 t e ov)) w':=by
 have hg:(H0.new (.cells cells e)).get H0.fresh=some (.cells cells e):=by rw [Hp.fR,ah rfl]
 refine r.swap hg (OR.nY.2 ⟨⟨ho,tM⟩,OR.congr (r.live _ _ hg).2.1 hl hv⟩) (by rw [Hp.fR,ah rfl]) (fun j hj=>by rw [Hp.fR,af hj,Hp.fR,af hj]) ?_ ?_
 all_goals grind [Hp.new]
set_option maxHeartbeats 800000 in
theorem BB [bI] {t t2 ty:Nat} {H h0:Hp} (r:bO E H w) {ie:TI} {e m:Nat} {own:Option Nat} {news:List W} {x:W} {d2:TypeDesc} {u u2:Value} {us:Array Value} (uz:l7 P e ie)
 (ht:P.underlying t=some (.slice e)) (xG:P.underlying t2=some d2) (jM: ∀k,d2≠.int k) (wH:ie.size≠0) (sG:ie.bytes≠0) (vJ:ie.zero.length=ie.size) (Mb:ie.bytes<=400)
 (src:Src P E w ie.size m news u2 us) (hm:0<m) (hx:VR E w.heap x u) {e0 e1:V} {t':Nat} {ov0 I!:List (V×List W)} (Y:Hi e own x H=some (e0,t',ov0,h0)) (ky:(rowOf t').es=ie.size) {ds:List D} (g:O6 E.ρ (rowOf t') e0 e1 ov0 I! ds news) (vK:ds.length=m)
 (rT:sg (rowOf t') I!) (aez:((dec (e0.den E.ρ)).l.length+m)*ie.bytes<=140737488355328) :
 ∃y w' E',(Builtin.append_ #[t,t2] ty #[u,u2]).run P w= .ok y w'/\eN E H w E' (h0.new (.vec e1 t' e I!)) w'/\bO E' (h0.new (.vec e1 t' e I!)) w'/\VR E' w'.heap (.oL h0.fresh (dN e1) t') y:=by
 have hbound: ∀k,k<=(dec (e0.den E.ρ)).l.length->(k+m)*ie.bytes<=140737488355328:=by intro k hk;exact bk (al5 _ J) aez
 have Tb:news.length=m*ie.size:=by have U:=src.T2.length;have Z:=src.size;simp only [bj] at U;omega
 have sK: ∀(a:Option Addr),u= .slice a 0 0->h0=H->(dec (e0.den E.ρ)).l= []->
  ∃y w' E',(Builtin.append_ #[t,t2] ty #[u,u2]).run P w= .ok y w'/\eN E H w E' (h0.new (.vec e1 t' e I!)) w'/\bO E' (h0.new (.vec e1 t' e I!)) w'/\VR E' w'.heap (.oL h0.fresh (dN e1) t') y:=by
  intro a hu he nF;subst hu he
  have n9:mY ie e 0 m news h0=some (.slice h0.fresh 0 (0+m) (.rest ie.size),h0.new (.cells news e)):=by unfold mY;rw [ah (hbound 0 J)]
  obtain⟨y,w',E',p1,p2,p3,p4⟩:=oG (t:=t) (t2:=t2) (ty:=ty) (cap:=0) r uz ht xG jM sG vJ src J a (old:=[]) (olds:=#[]) (cs:=news) ad (by simp [cA]) ad ad
   (fun w2 _=>by
    cases a with
    |none=>simp [Builtin.firstCells]
    |some a=>simp only [Builtin.firstCells,alG]; rfl) n9
  have hρ:=p2.ρ;have Ak:(dec (e1.den E'.ρ)).l=ds:=by rw [hρ,g.l,nF,aC]
  have tM:rQ (rowOf t') (dec (e1.den E'.ρ)):=by refine⟨by rw [hρ]; exact g.wf,fun d hd=>?_,by rw [Ak]; intro q; rw [q] at vK; simp at vK; omega⟩;rw [Ak] at hd;exact g.rows d hd
  refine⟨y,w',E',p1,p2.right (vA rfl rfl fun _=>rfl),Ko p3 rT tM ?_ ?_,?_⟩
  ·unfold cN;rw [cD rT,Ak,vK,ky,Tb]
  ·intro gq Gv;unfold cN;rw [hρ];have:=g.vr E' w'.heap [] gq hρ (by rw [nF]; simp [bG,cA]) Gv;simpa using this
  ·simp only [VR] at p4 ⊢;obtain⟨q1,a',oy,q2,q3,q4⟩:=p4;refine⟨q1,0+m,a',oy,?_,q2,q3,?_⟩
   ·rw [cC,Ak,vK,ay]
   ·rw [ky]; exact q4
 unfold Hi at Y;split at Y
 ·rename_i id n t0;split at Y
  ·rename_i o hl;split at Y
   ·rename_i ze t00 rR ov
    ·split at Y
     ·rename_i ht0;split at Y
      ·rename_i NA;split at Y
       ·rename_i hn;simp only [ag,ak] at Y;obtain⟨rfl,rfl,rfl,rfl⟩:=Y;have ht0:=aq ht0;have NA:=aq NA;have hn:=cO _ _ hn;subst ht0 NA hn;obtain⟨r2,aia,aeq⟩:=r.nY hl;simp only [VR] at hx;obtain⟨hid,k,a,cap,hk,rfl,hkc,gI⟩:=hx;rw [cC] at hk;have hk:k=(dec (ze.den E.ρ)).l.length:=J
        have hx2:VR E w.heap (.slice id 0 k (.rest ie.size)) (.slice (some a) k cap):=by simp only [VR];exact⟨hid,a,cap,rfl,hkc,by rw [<- ky]; exact gI⟩
        have Cf:(cN E.ρ ze t0 ov).length=k*ie.size:=by unfold cN;rw [cD aia,ky,hk]
        have aie:0<m*ie.size:=amD hm J
        have aeG:px ie rR m news (.slice id 0 k (.rest ie.size)) (H.put id (.cells (cN E.ρ ze t0 ov) rR)) =
         some (.slice H.fresh 0 (k+m) (.rest ie.size),((H.put id (.cells (cN E.ρ ze t0 ov) rR)).drop id).new (.cells (cN E.ρ ze t0 ov++news) rR)):=by
         unfold px;simp only [if_true];rw [Hp.bR,ah rfl];simp only;rw [af (by rw [Cf,alL]; omega),ah ⟨J,trivial⟩];simp only [eE];unfold mY;rw [ah (hbound k J)];rfl
        obtain⟨y,w',E',p1,p2,p3,p4⟩:=vb (t:=t) (t2:=t2) (ty:=ty) r2 uz ht xG jM wH sG vJ src hx2 aeG;have hρ:=p2.ρ;have Ak:(dec (e1.den E'.ρ)).l=(dec (ze.den E.ρ)).l++ds:=by rw [hρ,g.l]
        have tM:rQ (rowOf t0) (dec (e1.den E'.ρ)):=by
         refine⟨by rw [hρ]; exact g.wf,fun d hd=>?_,by rw [Ak]; intro q; have:=congrArg List.length q; simp at this; rw [this.2] at vK; simp at vK; omega⟩;rw [Ak] at hd;rcases alJ.1 hd with hd|hd
         ·exact aeq.2.1 d hd
         ·exact g.rows d hd
        have DC: ∀j,(((H.put id (.cells (cN E.ρ ze t0 ov) rR)).drop id).get j)=(H.drop id).get j:=by
         intro j;rw [Hp.j5,Hp.j5];split
         ·rfl
         ·rename_i fX;rw [Hp.bR,af fX]
        have al:Fg (((H.put id (.cells (cN E.ρ ze t0 ov) rR)).drop id).new (.cells (cN E.ρ ze t0 ov++news) rR)) ((H.drop id).new (.vec e1 t0 rR I!)):=
         vA rfl rfl fun j=>by rw [DC]
        have p3':bO E' ((H.drop id).new (.cells (cN E.ρ ze t0 ov++news) rR)) w':=by
         have hg:(((H.put id (.cells (cN E.ρ ze t0 ov) rR)).drop id).new (.cells (cN E.ρ ze t0 ov++news) rR)).get H.fresh=some (.cells (cN E.ρ ze t0 ov++news) rR):=by rw [Hp.fR];exact ah rfl
         refine p3.swap hg (p3.live _ _ hg).2.1 (by rw [Hp.fR]; exact ah rfl) (fun j hj=>?_) ?_ ?_
         ·rw [Hp.fR,Hp.fR];show (if j=H.fresh then _ else _)=(if j=H.fresh then _ else _);rw [af hj,af hj,DC]
         ·unfold Hp.new;simp only [Hp.drop,Hp.put];split<;>rfl
         ·unfold Hp.new;simp only [Hp.drop,Hp.put];split<;>rfl
        refine⟨y,w',E',p1,(p2.left (Fg.put hl).symm).right al,Ko p3' rT tM ?_ ?_,?_⟩
        ·unfold cN;rw [cD rT,Ak,a8,a8,cD aia,vK,ky,Tb,alL]
        ·intro gq Gv;obtain⟨a1,a2,rfl,b1,b2⟩:=Gv.split;unfold cN at b1 ⊢;rw [hρ];exact g.vr E' w'.heap a1 a2 hρ b1 b2
        ·simp only [VR] at p4 ⊢;obtain⟨q1,a',oy,q2,q3,q4⟩:=p4;refine⟨q1,k+m,a',oy,?_,q2,q3,?_⟩
         ·rw [cC,Ak,a8,vK,hk]
         ·rw [ky]; exact q4
       ·simp at Y
      ·simp at Y
     ·simp at Y
   ·simp at Y
  ·simp at Y
 ·split at Y
  ·simp only [ag,ak] at Y;obtain⟨rfl,rfl,rfl,rfl⟩:=Y;simp only [VR] at hx;exact sK none hx rfl (by simp only [V.den,bB,D.l])
  ·simp at Y
 ·split at Y
  ·simp only [ag,ak] at Y;obtain⟨rfl,rfl,rfl,rfl⟩:=Y;simp only [VR] at hx;obtain⟨x,hx⟩:=hx;exact sK x hx rfl (by simp only [V.den,bB,D.l])
  ·simp at Y
 ·split at Y
  ·simp only [ag,ak] at Y;obtain⟨rfl,rfl,rfl,rfl⟩:=Y;simp only [VR] at hx;obtain⟨⟨x,hx⟩,_⟩:=hx;exact sK x hx rfl (by simp only [V.den,bB,D.l])
  ·simp at Y
 ·split at Y
  ·split at Y
   ·split at Y
    ·split at Y
     ·simp only [ag,ak] at Y;obtain⟨rfl,rfl,rfl,rfl⟩:=Y;simp only [VR] at hx;obtain⟨_,a,cap,rfl,_,hc⟩:=hx;simp only [eF] at hc;obtain⟨rfl,_⟩:=hc;exact sK (some a) rfl rfl (by simp only [V.den,bB,D.l])
     ·simp at Y
    ·simp at Y
   ·simp at Y
  ·simp at Y
 ·simp at Y
end
section
variable {ρ:Nat->Int} {r:Row}
theorem pj {p:V} {cs:List W}: ∀(ds:List D) (j:Nat),(∀i,j<=i->i<j+ds.length->p.den ρ≠(i:Int))->bG ρ r [(p,cs)] ds j=bG ρ r [] ds j
 |[],_,_=>rfl
 |d::ds,j,h=>by have h0:=h j (au _) (by simp only [aK]; omega);simp only [bG,dW,af h0];rw [pj ds (j+1) fun i U Z=>h i J (by simp only [aK]; omega)]
theorem ahS {e0 e1 p:V} {cs news:List W} {ds:List D} (g:Grown ρ r e0 e1 ds news) (hp:p.den ρ<((dec (e0.den ρ)).l.length:Int)):O6 ρ r e0 e1 [(p,cs)] [(p,cs)] ds news:=by refine⟨g.l,g.wf,g.rows,fun E' h us0 us hρ h0 U=>?_⟩;rw [g.l,lG];refine h0.append ?_;rw [pj ds _ fun i U _=>by omega];exact g.vr E' h us _ hρ U
theorem agz {e0 e1 p:V} {news zs:List W} {d:D} (g:Grown ρ r e0 e1 [d] zs) (hp:p.den ρ=((dec (e0.den ρ)).l.length:Int)):O6 ρ r e0 e1 [] [(p,news)] [d] news:=by
 refine⟨g.l,g.wf,g.rows,fun E' h us0 us hρ h0 U=>?_⟩;rw [g.l,lG,pj _ _ fun i _ Z=>by omega];refine h0.append ?_;simp only [bG,dW,ay]
 grind
theorem afr {e:Nat} {own:Option Nat} {x:W} {h h0:Hp} {e0:V} {t:Nat} (Y:pr e own x h=some (e0,t,h0)):Hi e own x h=some (e0,t,[],h0):=by
 unfold pr at Y;unfold Hi
 repeat' split at Y
 all_goals first
  |(simp at Y; done)
  |(simp only [ag,ak] at Y; obtain⟨rfl,rfl,rfl⟩:=Y; simp_all)
theorem aj3 {e:Nat} {own:Option Nat} {x:W} {h h0:Hp} {e0 p:V} {cs:List W} {t:Nat} (Y:zQ e x h=some (e0,t,p,cs,h0)):Hi e own x h=some (e0,t,[(p,cs)],h0):=by
 unfold zQ at Y;unfold Hi
 repeat' split at Y
 all_goals first
  |(simp at Y; done)
  |(simp only [ag,ak] at Y; obtain⟨rfl,rfl,rfl,rfl,rfl⟩:=Y; simp_all)
end
section
variable {P:Program} {E:En} {w:World}
theorem Src.Mc {E1:En} {s m:Nat} {news A7:List W} {u:Value} {us:Array Value} (src:Src P E w s m news u us) (h:cA E1 w.heap A7 us.toList):Src P E1 w s m A7 u us:=
 ⟨src.len,src.first,h,src.size,src.rm⟩
theorem room_le {bytes n m:Nat} (sG:bytes≠0) (Mb:bytes<=400) (hm:(m:Int)<qt bytes 1000000) (hn:n<1000000):(n+m)*bytes<=140737488355328:=by
 have hm':(m:Int)<((140737488355328 / bytes-1000000:Nat):Int):=hm;have U:m<140737488355328 / bytes-1000000:=J
 have Z:n+m<=140737488355328 / bytes:=J
 exact bk (al5 _ Z) (anf _ _)
theorem Wn {bytes m:Nat} (hm:(m:Int)<qt bytes 0):(([]:List D).length+m)*bytes<=140737488355328:=by
 have hm':(m:Int)<((140737488355328 / bytes-0:Nat):Int):=hm;have Z:([]:List D).length+m<=140737488355328 / bytes:=by simp only [aX]; omega
 exact bk (al5 _ Z) (anf _ _)
theorem CW {bytes n m:Nat} (hn:(n:Int)<qt bytes (m+1)) {k:Nat} (hk:k=m+1):(n+k)*bytes<=140737488355328:=by
 have hn':(n:Int)<((140737488355328 / bytes-(m+1):Nat):Int):=hn;have Z:n+k<=140737488355328 / bytes:=J
 exact bk (al5 _ Z) (anf _ _)
theorem pn {ρ:Nat->Int} {r:Row} {m:Nat} {e e1:V} {news:List W} (h:j9 r e m news=some e1) (hw:dec (e.den ρ)=dL (dec (e.den ρ)).l): ∃ds,ds.length=m/\Grown ρ r e e1 ds news:=by obtain⟨ds,U,Z,h3,h4,h5⟩:=qf (ρ:=ρ) m h;exact⟨ds,U,Z,h3 hw,h4,h5⟩
theorem Jm [bI] {H h0:Hp} (r:bO E H w) {e:Nat} {own:Option Nat} {x:W} {e0:V} {t:Nat} (h:pr e own x H=some (e0,t,h0)):dec (e0.den E.ρ)=dL (dec (e0.den E.ρ)).l:=by
 have hz:dec ((V.eo (.i 0)).den E.ρ)=dL (dec ((V.eo (.i 0)).den E.ρ)).l:=by simp only [V.den,bB]; rfl
 unfold pr at h;split at h
 ·split at h
  ·rename_i o hl;split at h
   ·split at h
    ·split at h
     ·split at h
      ·split at h
       ·simp only [ag,ak] at h;obtain⟨rfl,_⟩:=h;exact (r.nY hl).2.2.1
       grind
      grind
     grind
    grind
   grind
  grind
 all_goals grind
theorem BC [bI] {t t2 ty:Nat} {ie:TI} {e:Nat} {d2:TypeDesc} {u u2:Value} {us:Array Value} {news:List W} (uz:l7 P e ie) (ht:P.underlying t=some (.slice e)) (xG:P.underlying t2=some d2) (jM: ∀k,d2≠.int k)
 (src:Src P E w ie.size 0 news u2 us) (ho: ∃a n cap,u= .slice a n cap/\n<=cap):(Builtin.append_ #[t,t2] ty #[u,u2]).run P w= .ok u w:=by
 obtain⟨inf,d,z,U,Z,h3,h4,h5,h6,h7,h8⟩:=uz.all;obtain⟨a,n,cap,rfl,hn⟩:=ho;have Gv:us.toList= []:=alM (by rw [bj,src.size,alG])
 have:=kb (t:=t) (t2:=t2) (ty:=ty) (n:=n) (cap:=cap) (a:=a) (w':=w) ht xG jM U h5 src J (by
  cases a with
  |none=>rfl
  |some a=>rw [Gv]; rfl)
 grind
theorem SU {x:W} {u:Value} {H h0:Hp} {e t:Nat} {own:Option Nat} {e0:V} (hx:VR E w.heap x u) (Y:pr e own x H=some (e0,t,h0)): ∃a n cap,u= .slice a n cap/\n<=cap:=by
 unfold pr at Y;split at Y
 ·simp only [VR] at hx
  grind
 ·simp only [VR] at hx
  grind
 ·simp only [VR] at hx
  grind
 ·simp only [VR] at hx
  grind
 ·simp only [VR] at hx
  grind
 grind
theorem KB {x:W} {u:Value} {own:Option Nat} (hx:VR E w.heap x u) (Y:Xd own x=true): ∃a n cap,u= .slice a n cap/\n<=cap:=by
 unfold Xd at Y;split at Y
 ·simp only [VR] at hx
  grind
 ·simp only [VR] at hx
  grind
 ·simp only [VR] at hx
  grind
 ·simp only [VR] at hx
  grind
 ·simp only [VR] at hx
  grind
 ·simp only [VR] at hx
  grind
 grind
theorem Bq [bI] {s s':St} (r:bO E s.h w) (hp:bW E.ρ s.pc) {t t2 ty e m':Nat} {own:Option Nat} {ie:TI} {news:List W} {x v:W} {d2:TypeDesc} {u u2:Value} {us:Array Value} (uz:l7 P e ie) (hu:P.underlying t=some (.slice e)) (jM:P.underlying t2=some d2) (uF: ∀k,d2≠.int k)
 (wH:ie.size≠0) (sG:ie.bytes≠0) (vJ:ie.zero.length=ie.size) (Mb:ie.bytes<=400) (src:Src P E w ie.size (m'+1) news u2 us) (hx:VR E w.heap x u) (h:(za e own x ie m' news s).leaf E.ρ=some (v,s')) :
 s'.bE=s.bE/\bW E.ρ s'.pc/\∃z w' E',(Builtin.append_ #[t,t2] ty #[u,u2]).run P w= .ok z w'/\eN E s.h w E' s'.h w'/\bO E' s'.h w'/\VR E' w'.heap v z:=by
 unfold za at h;obtain⟨A7,U,pcF,E1,O!,f,Gu,h⟩:=pd rfl r hp h;split at h
 ·rename_i e0 t' h0 Y;split at h
  ·rename_i hc;obtain⟨ky,hm⟩:=hc;have hρ:=f.ρ;obtain⟨fA,fk,Z⟩:=cH (s:={ s with h:=U,pc:=pcF }) O! h;split at Z
   ·rename_i t3;rw [dQ,decide_eq_true_eq,cC] at t3;simp only [V.den] at t3;split at Z
    ·rename_i e1 hcr;have:=bC Z;simp only [ak] at this;obtain⟨rfl,rfl⟩:=this;obtain⟨ds,vK,g⟩:=pn (ρ:=E1.ρ) hcr (Jm f.rel Y);obtain⟨z,w',E',p1,p2,p3,p4⟩:=xE (t:=t) (t2:=t2) (ty:=ty) f.rel uz hu jM uF wH sG vJ Mb (src.Mc (Gu _ src.T2)) J (VR.bX (f.ek.keeps r) _ _ hx) Y ky g vK (CW (by rw [hρ]; exact t3) J);exact⟨rfl,fk,z,w',E',p1,f.ek.trans p2,p3,p4⟩
    grind [T.leaf]
   grind [T.leaf]
  grind [T.leaf]
 grind [T.leaf]
theorem ahG [bI] {H h0:Hp} (r:bO E H w) {e:Nat} {x:W} {e0 p:V} {cs:List W} {t:Nat} (h:zQ e x H=some (e0,t,p,cs,h0)):dec (e0.den E.ρ)=dL (dec (e0.den E.ρ)).l/\sg (rowOf t) [(p,cs)]:=by
 unfold zQ at h;split at h
 ·split at h
  ·rename_i hl;split at h
   ·split at h
    ·grind
    ·split at h
     ·split at h
      ·rename_i ht;split at h
       ·split at h
        ·simp only [ag,ak] at h;obtain⟨rfl,rfl,rfl,rfl,_⟩:=h;have ht:=aq ht;subst ht;exact⟨(r.nY hl).2.2.1,(r.nY hl).2.1⟩
        grind
       grind
      grind
     grind
   grind
  grind
 grind
theorem I3 [bI] {s s':St} (r:bO E s.h w) (hp:bW E.ρ s.pc) {t t2 ty e m':Nat} {own:Option Nat} {ie:TI} {news:List W} {x v:W} {d2:TypeDesc} {u u2:Value} {us:Array Value} (uz:l7 P e ie) (hu:P.underlying t=some (.slice e)) (jM:P.underlying t2=some d2) (uF: ∀k,d2≠.int k)
 (wH:ie.size≠0) (sG:ie.bytes≠0) (vJ:ie.zero.length=ie.size) (Mb:ie.bytes<=400) (src:Src P E w ie.size (m'+1) news u2 us) (hx:VR E w.heap x u) (h:(Ay e x ie m' news s).leaf E.ρ=some (v,s')) :
 s'.bE=s.bE/\bW E.ρ s'.pc/\∃z w' E',(Builtin.append_ #[t,t2] ty #[u,u2]).run P w= .ok z w'/\eN E s.h w E' s'.h w'/\bO E' s'.h w'/\VR E' w'.heap v z:=by
 unfold Ay at h;obtain⟨A7,U,pcF,E1,O!,f,Gu,h⟩:=pd rfl r hp h;split at h
 ·rename_i e0 t' p cs h0 Y;split at h
  ·rename_i hc;obtain⟨ky,hm⟩:=hc;have hρ:=f.ρ;obtain⟨fA,fk,Z⟩:=cH (s:={ s with h:=U,pc:=pcF }) O! h;split at Z
   ·rename_i t3;rw [dQ,decide_eq_true_eq,cC] at t3;simp only [V.den] at t3;obtain⟨jt,jk,h3⟩:=cH (s:={ s with h:=U,pc:=fA }) fk Z;split at h3
    ·rename_i t4;rw [dQ,decide_eq_true_eq,cC] at t4;split at h3
     ·rename_i e1 hcr;have:=bC h3;simp only [ak] at this;obtain⟨rfl,rfl⟩:=this;obtain⟨hw1,hw2⟩:=ahG f.rel Y;obtain⟨ds,vK,g⟩:=pn (ρ:=E1.ρ) hcr hw1;obtain⟨z,w',E',p1,p2,p3,p4⟩:=BB (t:=t) (t2:=t2) (ty:=ty) f.rel uz hu jM uF wH sG vJ Mb (src.Mc (Gu _ src.T2)) J (VR.bX (f.ek.keeps r) _ _ hx) (aj3 (own:=own) Y) ky (ahS g (by rw [hρ]; exact t4)) vK hw2 (CW (by rw [hρ]; exact t3) J);exact⟨rfl,jk,z,w',E',p1,f.ek.trans p2,p3,p4⟩
     grind [T.leaf]
    grind [T.leaf]
   grind [T.leaf]
  grind [T.leaf]
 grind [T.leaf]
theorem I2 [bI] {s s':St} (r:bO E s.h w) (hp:bW E.ρ s.pc) {t t2 ty e m':Nat} {own:Option Nat} {ie:TI} {news:List W} {x v:W} {d2:TypeDesc} {u u2:Value} {us:Array Value} (uz:l7 P e ie) (hu:P.underlying t=some (.slice e)) (jM:P.underlying t2=some d2) (uF: ∀k,d2≠.int k)
 (wH:ie.size≠0) (sG:ie.bytes≠0) (vJ:ie.zero.length=ie.size) (Mb:ie.bytes<=400) (src:Src P E w ie.size (m'+1) news u2 us) (hx:VR E w.heap x u) (h:(Ax e own x ie m' news s).leaf E.ρ=some (v,s')) :
 s'.bE=s.bE/\bW E.ρ s'.pc/\∃z w' E',(Builtin.append_ #[t,t2] ty #[u,u2]).run P w= .ok z w'/\eN E s.h w E' s'.h w'/\bO E' s'.h w'/\VR E' w'.heap v z:=by
 unfold Ax at h;split at h
 ·rename_i e0 t' h0 Y;split at h
  ·rename_i hc;obtain⟨ky,rfl⟩:=hc;obtain⟨fA,fk,Z⟩:=cH hp h;split at Z
   ·rename_i t3;obtain⟨jt,jk,h3⟩:=cH (s:={ s with pc:=fA }) fk Z;split at h3
    ·rename_i t4;rw [dQ,decide_eq_true_eq,cC] at t4;simp only [V.den] at t4;split at h3
     ·rename_i e1 hcr;have:=bC h3;simp only [ak] at this;obtain⟨rfl,rfl⟩:=this;obtain⟨ds,vK,g⟩:=pn (ρ:=E.ρ) hcr (Jm r Y)
      obtain⟨d,rfl⟩ : ∃d,ds= [d]:=by
       cases ds with
       |nil=>simp at vK
       |cons d l=>cases l with
        |nil=>exact⟨d,rfl⟩
        |cons a b=>simp at vK
      have Tb:news.length=(rowOf t').es:=by
       have U:=src.T2.length;have Z:=src.size
       grind
      obtain⟨z,w',E',p1,p2,p3,p4⟩:=BB (t:=t) (t2:=t2) (ty:=ty) r uz hu jM uF wH sG vJ Mb src J hx (afr Y) ky (agz (p:=.du 0) g (by rw [gv,cC] at t3; simp only [beq_iff_eq] at t3; exact t3.symm)) vK (fun q hq=>by simp only [List.mem_singleton] at hq; subst hq; exact Tb) (CW t4 J)
      grind
     grind [T.leaf]
    grind [T.leaf]
   ·obtain⟨q1,q2,q3⟩:=Bq (s:={ s with pc:=fA }) r fk (ty:=ty) uz hu jM uF wH sG vJ Mb src hx Z
    grind
  grind [T.leaf]
 grind [T.leaf]
set_option maxHeartbeats 800000 in
theorem I1 [bI] {tt:TT} (cJ:ew P tt) {s s':St} (r:bO E s.h w) (hp:bW E.ρ s.pc) {t t2 ty:Nat} {x y v:W} {u u2:Value} (hx:VR E w.heap x u) (hy:VR E w.heap y u2) (hsl:abv y=false->∃a n cap,u= .slice a n cap/\n<=cap) (h:(Aw tt t t2 x y s).leaf E.ρ=some (v,s')) :
 s'.bE=s.bE/\bW E.ρ s'.pc/\∃z w' E',(Builtin.append_ #[t,t2] ty #[u,u2]).run P w= .ok z w'/\eN E s.h w E' s'.h w'/\bO E' s'.h w'/\VR E' w'.heap v z:=by
 unfold Aw at h;split at h
 ·rename_i ti fU;split at h
  ·rename_i e hk;split at h
   ·rename_i ie kx;split at h
    ·simp [T.leaf] at h
    ·rename_i Pf Xp;obtain⟨d2,jM,Cc⟩:=rz (cJ t2 Pf Xp);split at h
     ·simp [T.leaf] at h
     ·rename_i k2 fX
      have uF: ∀k,d2≠.int k:=by intro k hd;subst hd;cases sD:Pf.kind<;>rw [sD] at Cc<;>simp only [Hn] at Cc;exact fX _ sD
      split at h
      ·simp [T.leaf] at h
      ·rename_i iV;simp only [not_or,Classical.not_not] at iV;obtain⟨wH,sG,vJ,Mb⟩:=iV;have uz:=cJ e ie kx;have hu:=eY (cJ t ti fU) hk;split at h
       ·
        rename_i e2 ty2;split at h
        ·rename_i e0 t' h0 Y;split at h
         ·rename_i hc;obtain⟨ky,lq⟩:=hc;obtain⟨fA,fk,U⟩:=cH hp h;rw [gY,cC] at U;simp only [VR] at hy;obtain⟨xa,akY,QA,_⟩:=hy.slice;split at U
          ·rename_i hz;simp only [V.den,beq_iff_eq] at hz;have:=bC U;simp only [ak] at this;obtain⟨rfl,rfl⟩:=this;have EO:(dec (e2.den E.ρ)).l.length=0:=J
           rw [EO] at QA;subst QA
           have src:Src P E w ie.size 0 [] (.slice xa 0 akY) #[]:=⟨fun _=>rfl,fun w2 _=>by
            cases xa with
            |none=>simp [Builtin.firstCells]
            |some a=>simp only [Builtin.firstCells,alG]; rfl,by simp [cA],ad,ad⟩
           exact⟨rfl,fk,u,w,E,BC uz hu jM uF src (SU hx Y),eN.refl _ _ _,r,hx⟩
          ·rename_i hz;simp only [V.den,beq_eq_false_iff_ne,ne_eq] at hz;obtain⟨jt,jk,Z⟩:=cH (s:={ s with pc:=fA }) fk U;split at Z
           ·rename_i Jv;obtain⟨T5,Iq,h3⟩:=cH (s:={ s with pc:=jt }) jk Z;split at h3
            ·rename_i t3;rw [dQ,decide_eq_true_eq,cC] at Jv t3;simp only [V.den] at Jv t3;have aid:(dec (e2.den E.ρ)).l≠[]:=by intro q; rw [q] at hz; simp at hz
             obtain⟨us,src⟩:=aag (P:=P) (w:=w) hy aid;rw [lq] at src;rw [ky] at src
             have lr:0<(dec (e2.den E.ρ)).l.length:=by
              rcases amj (dec (e2.den E.ρ)).l.length with q|q
              ·omega
              ·exact q
             have aep:dec (e2.den E.ρ)=dL (dec (e2.den E.ρ)).l/\∀d∈(dec (e2.den E.ρ)).l,py (rowOf ty2) d:=by
              have key: ∀{d:D} {v:Value},Rd E.ro w.heap (.sl ty2) d v->d.l≠[]->d=dL d.l/\∀x∈d.l,py (rowOf ty2) x:=by
               intro d v hr fX
               have ZE: ∀{c:CK} {d:D} {v:Value},Rd E.ro w.heap c d v->n4 c d:=by
                intro c d v hr
                cases hr with
                |int k n=>rfl
                |bool b=>cases b<;>simp [n4]
                |str s=>trivial
                |nil t=>trivial
                |vz t a cap=>trivial
                |one t c b o cap ds f hr hc Y U Z=>trivial
                |many t cs b o cap rows f hr hc Y hl U Z=>trivial
               generalize hc:CK.sl ty2=c at hr
               cases hr with
               |int k n=>simp at hc
               |bool b=>simp at hc
               |str s=>simp at hc
               |nil t=>exact absurd rfl fX
               |vz t a cap=>exact absurd rfl fX
               |one t c b o cap ds f hr fQ Y U Z=> simp only [CK.sl.injEq] at hc;subst hc;refine⟨by rw [bM],fun x hx=>?_⟩;rw [bM] at hx;obtain⟨i,hi⟩:=amx.1 hx;rw [hr];exact ZE (Z i x hi)
               |many t cs b o cap rows f hr fQ Y hl U Z=> simp only [CK.sl.injEq] at hc;subst hc;refine⟨by rw [bM],fun x hx=>?_⟩;rw [bM,aT] at hx;obtain⟨row,hrm,rfl⟩:=hx;obtain⟨i,hi⟩:=amx.1 hrm;rw [hr];refine⟨by rw [bM],by rw [bM]; exact hl row hrm,fun j c y hj hy=>?_⟩;rw [bM] at hy;exact ZE (Z i row j y c hi hy hj)
              exact key hy aid
             rw [lq] at aep
             have grown: ∀e1:V,(dec (e1.den E.ρ)).l=(dec (e0.den E.ρ)).l++(dec (e2.den E.ρ)).l->dec (e1.den E.ρ)=dL (dec (e1.den E.ρ)).l->Grown E.ρ (rowOf t') e0 e1 (dec (e2.den E.ρ)).l (bG E.ρ (rowOf t') [] (dec (e2.den E.ρ)).l 0):=by
              intro e1 q1 q2;refine⟨q1,q2,aep.2,fun E' h us j hρ hv=>?_⟩
              have:bG E.ρ (rowOf t') [] (dec (e2.den E.ρ)).l j=bG E.ρ (rowOf t') [] (dec (e2.den E.ρ)).l 0:=by
               generalize (dec (e2.den E.ρ)).l=L;clear hv q1 q2
               have gen: ∀(L:List D) (a b:Nat),bG E.ρ (rowOf t') [] L a=bG E.ρ (rowOf t') [] L b:=by
                intro L
                induction L with
                |nil=>intro a b; rfl
                |cons d L ih=>intro a b; simp only [bG,dW]; rw [ih (a+1) (b+1)]
               exact gen L j 0
              rw [this];exact hv
             have hbw:=Jm r Y;split at h3
             ·rename_i nF
              have ais:(dec (e0.den E.ρ)).l= []:=by
               unfold Nu at nF;split at nF
               ·split at nF
                ·simp only [V.den,bB,D.l]
                ·simp at nF
               ·simp at nF
              have:=bC h3;simp only [ak] at this;obtain⟨rfl,rfl⟩:=this;obtain⟨z,w',E',p1,p2,p3,p4⟩:=xE (t:=t) (t2:=t2) (ty:=ty) r uz hu jM uF wH sG vJ Mb src lr hx Y ky (grown e2 (by rw [ais,aC]) aep.1) rfl (by rw [ais]; refine Wn (bytes:=ie.bytes) ?_; have q:=Jv; unfold Wo at q; rw [nF] at q; exact q);exact⟨rfl,Iq,z,w',E',p1,p2,p3,p4⟩
             ·rename_i nF;have:=bC h3;simp only [ak] at this;obtain⟨rfl,rfl⟩:=this;obtain⟨z,w',E',p1,p2,p3,p4⟩:=xE (t:=t) (t2:=t2) (ty:=ty) r uz hu jM uF wH sG vJ Mb src lr hx Y ky (grown (.op .cat e0 e2) (by simp only [V.den,fc.den,bB,bM]) (by simp only [V.den,fc.den,bB,bM])) rfl (room_le sG Mb (by have q:=Jv; unfold Wo at q; rw [nF] at q; exact q) J);exact⟨rfl,Iq,z,w',E',p1,p2,p3,p4⟩
            ·simp [T.leaf] at h3
           ·simp [T.leaf] at Z
         ·simp [T.leaf] at h
        ·simp [T.leaf] at h
       ·
        split at h
        ·rename_i m news NB;obtain⟨us,src⟩:=pI (P:=P) r hy NB;split at h
         ·have:=bC h;simp only [ak] at this;obtain⟨rfl,rfl⟩:=this
          exact⟨rfl,hp,u,w,E,BC uz hu jM uF src (hsl (by
           cases y<;>first |rfl|(rename_i Bg _ _ _; exact absurd rfl (Bg _ _))|(rename_i Bg; exact absurd rfl (Bg _ _)))),eN.refl _ _ _,r,hx⟩
         ·rename_i m';split at h
          ·exact I3 (own:=ti.own) r hp uz hu jM uF wH sG vJ Mb src hx h
          ·split at h
           ·exact I2 r hp uz hu jM uF wH sG vJ Mb src hx h
           ·exact Bq r hp uz hu jM uF wH sG vJ Mb src hx h
        ·simp [T.leaf] at h
   ·simp [T.leaf] at h
  ·simp [T.leaf] at h
 ·simp [T.leaf] at h
end
section
variable {P:Program} {E:En} {w:World}
theorem Pb {h:Array Obj} {id t:Nat} {n:V} {u:Value} (hv:VR E h (.oL id n t) u):VR E h (.tE id (.lit 0) n t) u:=by simp only [VR] at hv ⊢;obtain⟨U,k,a,cap,Z,h3,h4,h5⟩:=hv;exact⟨U,0,k,a,cap,rfl,Z,h3,h4,by rw [alG]; exact h5⟩
theorem NX {tt:TT} (cJ:ew P tt) {s s':St} (hp:bW E.ρ s.pc) {ty t id:Nat} {lo n:V} {ix v:W} {u ui:Value} (hx:VR E w.heap (.tE id lo n t) u) (yE:VR E w.heap ix ui) (h:(IG tt s ty id t lo n ix).leaf E.ρ=some (v,s')) :
 s'.bE=s.bE/\s'.h=s.h/\bW E.ρ s'.pc/\∃r,(Instr.indexAt ty u ui).run P w= .ok r w/\VR E w.heap v r:=by
 unfold IG at h;split at h
 ·rename_i kd i;split at h
  ·rename_i z hz;split at h
   ·rename_i ky;obtain⟨dY,fj,U,Z,h3⟩:=nj hp h;have:=bC h3;simp only [ak] at this;obtain⟨rfl,rfl⟩:=this;refine⟨rfl,rfl,fj,?_⟩;simp only [VR] at hx yE;subst yE;obtain⟨hid,l,m,a,cap,hl,hn,rfl,gI,hc⟩:=hx;obtain⟨el,ie,hu,kx,rfl⟩:=ng cJ hz;obtain⟨k,hk⟩ : ∃k:Nat,i.den E.ρ=(k:Int):=⟨(i.den E.ρ).toNat,J⟩;have ff:k<m:=J
    have ha:a=⟨(E.θ id).1,(E.θ id).2+l*ie.size,none⟩:=by
     simp only [eF] at hc
     grind
    subst ha;refine⟨.pointer (some ⟨(E.θ id).1,(E.θ id).2+l*ie.size+k*ie.size,none⟩),?_,?_⟩
    ·rw [hk];simp [Instr.indexAt,asIntOf,run_underlying hu,ep (cJ el ie kx),ff,eU]
    ·simp only [VR];exact⟨hid,l+k,by rw [oK,hl,hk]; rfl,by rw [bg,alL,alF]⟩
   ·simp [T.leaf] at h
  ·simp [T.leaf] at h
 ·simp [T.leaf] at h
theorem W2 {lo:Option W} {xF:Option Value} {l:V} {n:Nat} (h:loE lo=some l) (nR:fV E w.heap lo xF) (hn:l.den E.ρ=(n:Int)) :
 ∃T6,fV E w.heap T6 xF/\∀y,n<=y->nv T6 0 y=some n:=by
 unfold loE at h;split at h
 ·simp only [ag] at h;subst h;simp only [V.den] at hn
  grind [nv]
 ·split at h
  ·rename_i v k q;simp only [ag] at h;subst h;obtain⟨y,rfl,hy⟩:=nR;refine⟨some (.int k (.lit (Int.ofNat n))),⟨y,rfl,?_⟩,fun y hy=>by simp [nv,jU,hy]⟩;simp only [VR,V.den] at hy ⊢
   grind
  grind
theorem Ca {k:IntKind} {q:V} {n:Nat} {o:Option Value} (hq:q.den E.ρ=(n:Int)) (ho:fV E w.heap (some (.int k q)) o):fV E w.heap (some (.int k (.lit (Int.ofNat n)))) o:=by
 obtain⟨y,rfl,hy⟩:=ho;refine⟨y,rfl,?_⟩;simp only [VR,V.den] at hy ⊢
 grind
theorem Cr {k:IntKind} {n d y:Nat} (hn:n<=y):nv (some (.int k (.lit (Int.ofNat n)))) d y=some n:=by simp [nv,jU,hn]
theorem DV [bI] {tt:TT} (cJ:ew P tt) {s s':St} (r:bO E s.h w) (hp:bW E.ρ s.pc) {ty id t:Nat} {f_ n0:V} {lo hi mx:Option W} {xF hi' mx':Option Value} {v:W} {u:Value} (hx:VR E w.heap (.tE id f_ n0 t) u)
 (nR:fV E w.heap lo xF) (xI:fV E w.heap hi hi') (xq:fV E w.heap mx mx') (h:(Ck tt s ty id t f_ n0 lo hi mx).leaf E.ρ=some (v,s')) :
 s'.bE=s.bE/\s'.h=s.h/\bW E.ρ s'.pc/\∃r,(Instr.sliceAt ty u xF hi' mx').run P w= .ok r w/\VR E w.heap v r:=by
 unfold Ck at h;split at h
 ·simp [T.leaf] at h
 ·rename_i z hz;split at h
  ·rename_i iV;obtain⟨ky,hz0⟩:=iV;obtain⟨el,ie,hu,kx,rfl⟩:=ng cJ hz;have gW:=ep (cJ el ie kx);simp only [VR] at hx;obtain⟨hid,l0,m0,a,cap,g1,g2,rfl,gI,hc⟩:=hx
   have fin: ∀(l k:Nat) (e1 e2:V),(Instr.sliceBounds true m0 cap xF hi' none).run P w= .ok (l,k,cap) w->l<=k->k<=cap->e1.den E.ρ=(l:Int)->e2.den E.ρ=(k:Int)->
    ∃r,(Instr.sliceAt ty (.slice (some a) m0 cap) xF hi' none).run P w= .ok r w/\VR E w.heap (.tE id (rP f_ e1) (CF e2 e1) t) r:=by
    intro l k e1 e2 Y hlk hk XH he2;refine⟨.slice (some (if cap=l then a else a.add (l*ie.size))) (k-l) (cap-l),?_,?_⟩
    ·simp [Instr.sliceAt,run_underlying hu,Instr.slice,Y,gW]<;>split<;>rfl
    ·simp only [VR];refine⟨hid,l0+l,k-l,_,_,by rw [oK,g1,XH]; rfl,by rw [So,XH,he2]; omega,rfl,J,?_⟩;rw [alL];have q:=pq (l:=l) (h:=k) (m:=cap) (es:=(rowOf t).es) hc gI hlk hk (au _) (.inr (.inr ⟨rfl,rfl,rfl⟩)) (rowOf t).es (fun _=>rfl);rw [ky];exact q
   split at h
   ·simp [T.leaf] at h
   ·rename_i ql hql;obtain⟨fA,fk,U⟩:=cH hp h;split at U
    ·simp [T.leaf] at U
    ·rename_i t1;rw [dQ,decide_eq_false_iff_not] at t1;simp only [V.den,ami] at t1;obtain⟨l,hl⟩ : ∃l:Nat,ql.den E.ρ=(l:Int):=⟨(ql.den E.ρ).toNat,J⟩;obtain⟨T6,XA,mX⟩:=W2 hql nR hl;split at U
     ·
      simp only [fV] at xI;subst xI;split at U
      ·simp [T.leaf] at U
      ·simp only [fV] at xq;subst xq;obtain⟨jt,jk,Z⟩:=cH (s:={ s with pc:=fA }) fk U;split at Z
       ·simp [T.leaf] at Z
       ·rename_i t2;have:=bC Z;simp only [ak] at this;obtain⟨rfl,rfl⟩:=this;rw [dQ,decide_eq_false_iff_not] at t2;have hlm:l<=m0:=J
        obtain⟨e1,e2⟩:=fJ (P:=P) (w:=w) (isSlice:=true) (len:=m0) (cap:=cap) (m0:=cap) (d:=0) (m:=cap) (h0:=cap) (h:=m0) (l:=l) XA (hi:=none) (hi':=none) (by simp [fV]) (mx:=none) (mx':=none) (by simp [fV]) ad (.inl ⟨rfl,rfl,au _⟩) (by simp [nv,gI]) ⟨fun _=>au _,ad⟩ (mX _ hlm);exact⟨rfl,rfl,jk,fin l m0 _ _ e1 hlm gI hl g2⟩
     ·rename_i hv;split at U
      ·rename_i kh qh;obtain⟨jt,jk,Z⟩:=cH (s:={ s with pc:=fA }) fk U;split at Z
       ·simp [T.leaf] at Z
       ·rename_i t2;rw [dQ,decide_eq_false_iff_not] at t2;obtain⟨k,hk⟩ : ∃k:Nat,qh.den E.ρ=(k:Int):=⟨(qh.den E.ρ).toNat,J⟩;have hlk:l<=k:=J
        split at Z
        ·rename_i mv;split at Z
         ·rename_i km qm;obtain⟨T5,Iq,h3⟩:=cH (s:={ s with pc:=jt }) jk Z;split at h3
          ·simp [T.leaf] at h3
          ·rename_i t3;obtain⟨pc4,hp4,h4⟩:=cH (s:={ s with pc:=T5 }) Iq h3;split at h4
           ·simp [T.leaf] at h4
           ·rename_i t4;have:=bC h4;simp only [ak] at this;obtain⟨rfl,rfl⟩:=this;rw [dQ,decide_eq_false_iff_not] at t3 t4;obtain⟨m,hm⟩ : ∃m:Nat,qm.den E.ρ=(m:Int):=⟨(qm.den E.ρ).toNat,J⟩;obtain⟨e1,e2⟩:=fJ (P:=P) (w:=w) (isSlice:=true) (len:=m0) (cap:=cap) (m0:=cap) (d:=0) (m:=m) (h0:=m) (h:=k) (l:=l) XA (Ca hk xI) (Ca hm xq) ad (.inr ⟨_,rfl,Cr J,au _⟩) (Cr J) ⟨ad,fun _=>rfl⟩ (mX _ hlk);refine⟨rfl,rfl,hp4,.slice (some (if m=l then a else a.add (l*ie.size))) (k-l) (m-l),?_,by simp only [VR]⟩;simp [Instr.sliceAt,run_underlying hu,Instr.slice,e1,gW]<;>split<;>rfl
         ·simp [T.leaf] at Z
        ·simp only [fV] at xq;subst xq
         have go:k<=cap->∃r,(Instr.sliceAt ty (.slice (some a) m0 cap) xF hi' none).run P w= .ok r w/\VR E w.heap (.tE id (rP f_ ql) (CF qh ql) t) r:=by intro hkc;obtain⟨e1,e2⟩:=fJ (P:=P) (w:=w) (isSlice:=true) (len:=m0) (cap:=cap) (m0:=cap) (d:=0) (m:=cap) (h0:=cap) (h:=k) (l:=l) XA (Ca hk xI) (mx:=none) (mx':=none) (by simp [fV]) ad (.inl ⟨rfl,rfl,au _⟩) (Cr hkc) ⟨fun _=>au _,ad⟩ (mX _ hlk);exact fin l k _ _ e1 hlk hkc hl hk
         obtain⟨T5,Iq,h3⟩:=cH (s:={ s with pc:=jt }) jk Z;split at h3
         ·rename_i t3;have:=bC h3;simp only [ak] at this;obtain⟨rfl,rfl⟩:=this;rw [dQ,decide_eq_false_iff_not] at t3;exact⟨rfl,rfl,Iq,go J⟩
         ·split at h3
          ·simp [T.leaf] at h3
          ·rename_i hz1;split at h3
           ·simp [T.leaf] at h3
           ·rename_i e zB N!;obtain⟨pc4,hp4,h4⟩:=cH (s:={ s with pc:=T5 }) Iq h3;split at h4
            ·simp [T.leaf] at h4
            ·rename_i t4;have:=bC h4;simp only [ak] at this;obtain⟨rfl,rfl⟩:=this;rw [dQ,decide_eq_false_iff_not,cC] at t4;refine⟨rfl,rfl,hp4,go ?_⟩;have hlv:=mQ N!;obtain⟨ho,q0⟩:=OR.nY.1 (r.live id _ hlv).2.1;have akr:=Dr hz1;subst akr;simp only [V.den] at g1;have hl0:l0=0:=J
             subst hl0;simp only [OR] at q0;obtain⟨arr,lo1,hi1,us,q1,q2,q3,q4,q5,q6,q7⟩:=q0;unfold cN at q4;rw [cD ho.1] at q4;have fX:0<(dec (e.den E.ρ)).l.length:=alX.2 ho.2.2.2;have lr:0<(rowOf t).es:=J
             simp only [eF] at hc
             have hκ:(dec (e.den E.ρ)).l.length<=cap:=by
              rcases hc with hc|hc
              ·have:(dec (e.den E.ρ)).l.length*(rowOf t).es<=cap*(rowOf t).es:=J
               exact am9 this lr
              ·have:=amD fX lr;omega
             omega
      ·simp [T.leaf] at U
  ·simp [T.leaf] at h
theorem Oc [bI] {tt:TT} (cJ:ew P tt) {s s':St} (hp:bW E.ρ s.pc) {ty t:Nat} {z:V} {lo hi mx:Option W} {xF hi' mx':Option Value} {v:W} {u:Value} (hx:VR E w.heap (.wR z t) u)
 (nR:fV E w.heap lo xF) (xI:fV E w.heap hi hi') (xq:fV E w.heap mx mx') (h:(IT tt s ty z t lo hi mx).leaf E.ρ=some (v,s')) :
 s'.bE=s.bE/\s'.h=s.h/\bW E.ρ s'.pc/\∃r,(Instr.sliceAt ty u xF hi' mx').run P w= .ok r w/\VR E w.heap v r:=by
 unfold IT at h;split at h
 ·grind [T.leaf]
 ·simp only [fV] at xq;subst xq;split at h
  ·grind [T.leaf]
  ·rename_i zz hz;obtain⟨el,ie,hu,kx,rfl⟩:=ng cJ hz;have gW:=ep (cJ el ie kx);split at h
   ·rename_i zw;split at h
    ·rename_i mX;have:=bC h;simp only [ak] at this;obtain⟨rfl,rfl⟩:=this;have hx0:=hx;simp only [VR] at hx;obtain⟨⟨x,rfl⟩,hr⟩:=hx;obtain⟨e1,e2⟩:=fJ (P:=P) (w:=w) (isSlice:=true) (len:=0) (cap:=0) (m0:=0) (d:=0) (m:=0) nR xI (mx:=none) (mx':=none) (by simp [fV]) ad (.inl ⟨rfl,rfl,au _⟩) zw ⟨fun _=>au _,ad⟩ mX;refine⟨rfl,rfl,hp,.slice x 0 0,?_,hx0⟩;simp [Instr.sliceAt,run_underlying hu,Instr.slice,e1,gW]
    grind [T.leaf]
   grind [T.leaf]
end
theorem CN: ∀{B Z':List W},Z'.length=B.length->dP B 0 Z'=some Z'
 |[],[],_=>rfl
 |[],_::_,h=>by simp at h
 |_::_,[],h=>by simp at h
 |b::B,v::Z',h=>by simp only [dP];rw [CN (by simpa using h)]
theorem MV {A B C Z':List W} (h:Z'.length=B.length):dP (A++(B++C)) A.length Z'=some (A++(Z'++C)):=by
 have:=r4 A (nz C (CN h))
 grind
theorem Fo {α:Type}: ∀{a b:List α},hJ a.length (a++b)=some a
 |[],b=>rfl
 |x::a,b=>by simp only [aK,aP,hJ,Fo]
theorem j7 {ρ:Nat->Int} {r:Row}: ∀(L:List D) (a b:Nat),bG ρ r [] L a=bG ρ r [] L b
 |[],_,_=>rfl
 |d::L,a,b=>by simp only [bG,dW]; rw [j7 L (a+1) (b+1)]
theorem gE {ρ:Nat->Int} {r:Row}: ∀(A B:List D),bG ρ r [] (A++B) 0=bG ρ r [] A 0++bG ρ r [] B 0
 |[],B=>rfl
 |d::A,B=>by simp only [aP,bG,dW,alY];rw [j7 (A++B) 1 0,j7 A 1 0,gE A B]
section
variable {P:Program} {E:En} {w:World}
theorem UN [bI] {H:Hp} (r:bO E H w) {id t:Nat} {e0:V} {rR:TypeId} (hl:H.get id=some (.vec e0 t rR [])) (wH:(rowOf t).es≠0) {k cap:Nat} {a:Addr} (hc:eF E id 0 k a cap (.rest (rowOf t).es)) :
 a=⟨(E.θ id).1,(E.θ id).2,none⟩/\(dec (e0.den E.ρ)).l.length<=cap:=by
 obtain⟨ho,q0⟩:=OR.nY.1 (r.live id _ hl).2.1;simp only [OR] at q0;obtain⟨arr,lo1,hi1,us,q1,q2,q3,q4,q5,q6,q7⟩:=q0;unfold cN at q4;rw [cD ho.1] at q4;have fX:0<(dec (e0.den E.ρ)).l.length:=alX.2 ho.2.2.2;have lr:0<(rowOf t).es:=J
 simp only [eF] at hc;rcases hc with hc|hc
 ·refine⟨by simpa using hc.1,?_⟩;have:(dec (e0.den E.ρ)).l.length*(rowOf t).es<=cap*(rowOf t).es:=J
  exact am9 this lr
 ·have:=amD fX lr;omega
theorem Cw [bI] {H:Hp} (r:bO E H w) {id t:Nat} {e0:V} {rR:TypeId} (hl:H.get id=some (.vec e0 t rR [])) {n mm:Nat} (hle:n+mm<=(dec (e0.den E.ρ)).l.length) {ds:List D} (vK:ds.length=mm) (tM: ∀d∈ds,py (rowOf t) d)
 {us:List Value} (hv:cA E w.heap (bG E.ρ (rowOf t) [] ds 0) us) (U: ∀u∈us,u.oneCell'=true) {e1:V} (XH:dec (e1.den E.ρ)=dL ((dec (e0.den E.ρ)).l.take n++ds++(dec (e0.den E.ρ)).l.drop (n+mm))) :
 ∃w',(storeCells ⟨(E.θ id).1,(E.θ id).2+n*(rowOf t).es,none⟩ us).run P w= .ok () w'/\eN E H w E (H.put id (.vec e1 t rR [])) w'/\bO E (H.put id (.vec e1 t rR [])) w':=by
 obtain⟨rc,ho,hw⟩:=r.nY hl;generalize hL:(dec (e0.den E.ρ)).l=L at *
 have hsp:L=L.take n++((L.drop n).take mm++L.drop (n+mm)):=by
  conv=>lhs; rw [<- al6 n L]
  congr 1
  conv=>lhs; rw [<- al6 mm (L.drop n)]
  simp_all
 have hc:cN E.ρ e0 t []=bG E.ρ (rowOf t) [] (L.take n) 0++(bG E.ρ (rowOf t) [] ((L.drop n).take mm) 0++bG E.ρ (rowOf t) [] (L.drop (n+mm)) 0):=by
  unfold cN;rw [hL]
  conv=>lhs; rw [hsp]
  rw [gE,gE]
 have hlA:(bG E.ρ (rowOf t) [] (L.take n) 0).length=n*(rowOf t).es:=by
  rw [cD (jS _),bd]
  grind
 have hsl:dP (cN E.ρ e0 t []) (n*(rowOf t).es) (bG E.ρ (rowOf t) [] ds 0)=some (cN E.ρ e1 t []):=by
  have:cN E.ρ e1 t []=bG E.ρ (rowOf t) [] (L.take n) 0++(bG E.ρ (rowOf t) [] ds 0++bG E.ρ (rowOf t) [] (L.drop (n+mm)) 0):=by unfold cN;rw [XH,bM,gE,gE,alY]
  rw [this,hc,<- hlA];refine MV ?_;rw [cD (jS _),cD (jS _),bd,bq,vK]
  grind
 obtain⟨w',g1,g2,g3⟩:=lH (P:=P) rc (by rw [Hp.bR,ah rfl]) hsl hv U;have al1:Fg (H.put id (.cells (cN E.ρ e0 t []) rR)) H:=(Fg.put hl).symm
 have al2:Fg ((H.put id (.cells (cN E.ρ e0 t []) rR)).put id (.cells (cN E.ρ e1 t []) rR)) (H.put id (.vec e1 t rR [])):=by
  refine⟨fun j y hj=>?_,fun j y hj=>?_,rfl,rfl⟩
  ·rw [Hp.bR];split
   ·grind
   ·rename_i fX;rw [Hp.bR,af fX,Hp.bR,af fX] at hj
    grind
  ·rw [Hp.bR] at hj ⊢;split
   ·grind
   ·rename_i fX;rw [af fX] at hj;rw [Hp.bR,af fX];exact⟨y,hj⟩
 have Am:=(g3.live id _ (by rw [Hp.bR,ah rfl])).2.1
 have hor:OR E w'.heap id (.vec e1 t rR []):=by
  refine OR.nY.2 ⟨⟨jS _,?_⟩,Am⟩;rw [XH];refine⟨by rw [bM],?_,?_⟩
  ·rw [bM];intro d hd;rcases alJ.1 hd with hd|hd
   ·rcases alJ.1 hd with hd|hd
    ·exact hw.2.1 d (by rw [hL]; exact alI hd)
    ·exact tM d hd
   ·exact hw.2.1 d (by rw [hL]; exact br hd)
  ·rw [bM];intro q;have:=congrArg List.length q;simp only [a8,bd,bq,aX,vK] at this;have fX:=alX.2 hw.2.2;rw [hL] at fX;omega
 refine⟨w',g1,(g2.left al1).right al2,?_⟩;exact g3.swap (id:=id) (by rw [Hp.bR,ah rfl]) hor (by rw [Hp.bR,ah rfl]) (fun j hj=>by rw [Hp.bR,af hj,Hp.bR,af hj,Hp.bR,af hj]) rfl rfl
theorem LL [bI] {s s':St} (r:bO E s.h w) (hp:bW E.ρ s.pc) {id t t1 t2 ty e:Nat} {e0 n1 m sd lo:V} {rR:TypeId} {ie:TI} {d2:TypeDesc} (uz:l7 P e ie) (ht:P.underlying t1=some (.slice e)) (xG:P.underlying t2=some d2) (jM: ∀k,d2≠.int k)
 (ky:(rowOf t).es=ie.size) (wH:ie.size≠0) (hl:s.h.get id=some (.vec e0 t rR [])) (nR:M' lo=true) {u u2:Value} {us:Array Value} {ds:List D} (hx:VR E w.heap (.tE id lo n1 t) u) {mm:Nat} (hm:m.den E.ρ=(mm:Int))
 (vK:ds.length=mm) (hsd:(dec (sd.den E.ρ)).l=ds) (tM: ∀d∈ds,py (rowOf t) d) {news:List W} (src:Src P E w ie.size mm news u2 us) (hv:cA E w.heap (bG E.ρ (rowOf t) [] ds 0) us.toList) {v:W} (h:(RJ id t rR e0 n1 m sd s).leaf E.ρ=some (v,s')) :
 s'.bE=s.bE/\bW E.ρ s'.pc/\∃z w' E',(Builtin.append_ #[t1,t2] ty #[u,u2]).run P w= .ok z w'/\eN E s.h w E' s'.h w'/\bO E' s'.h w'/\VR E' w'.heap v z:=by
 unfold RJ at h;obtain⟨dY,fj,g1,g2,g3,g4⟩:=vy hp h;have:=bC g4;simp only [ak] at this;obtain⟨rfl,rfl⟩:=this;have nR:=Dr nR;subst nR;have hx0:=hx;simp only [VR] at hx;obtain⟨hid,l0,k,a,cap,q1,q2,rfl,q4,q5⟩:=hx;simp only [V.den] at q1;have hl0:l0=0:=J
 subst hl0;rw [alG] at q5;obtain⟨rfl,jW⟩:=UN r hl (by rw [ky]; exact wH) q5;have hle:k+mm<=(dec (e0.den E.ρ)).l.length:=J
 obtain⟨inf,d,z,U,Z,h3,h4,h5,h6,h7,h8⟩:=uz.all
 obtain⟨w',f1,f2,f3⟩:=Cw (P:=P) r hl (n:=k) hle vK tM hv src.rm (e1:=.op .cat (.op .cat (.op .take e0 n1) sd) (.op .drop e0 (rP n1 m))) (by
  have hn:((k:Int)+(mm:Int)).toNat=k+mm:=J
  simp only [V.den,fc.den,bB,bM,oK,ej,q2,hm,hn,hsd,aZ])
 refine⟨rfl,fj,.slice (some ⟨(E.θ id).1,(E.θ id).2,none⟩) (k+mm) cap,w',E,?_,f2,f3,?_⟩
 ·exact kb (s:=ie.size) ht xG jM U h5 src J (by simp only [eU]; rw [<- ky]; exact f1)
 ·simp only [VR];refine⟨hid,0,k+mm,_,_,rfl,by rw [oK,q2,hm]; rfl,rfl,J,?_⟩;rw [alG];simp only [eF] at q5 ⊢
  grind
theorem Ll [bI] {tt:TT} (cJ:ew P tt) {s s':St} (r:bO E s.h w) (hp:bW E.ρ s.pc) {t t2 ty id t':Nat} {lo n1:V} {y v:W} {u u2:Value} (nR:M' lo=true) (hx:VR E w.heap (.tE id lo n1 t') u) (hy:VR E w.heap y u2) (h:(D8 tt t t2 id n1 t' y s).leaf E.ρ=some (v,s')) :
 s'.bE=s.bE/\bW E.ρ s'.pc/\∃z w' E',(Builtin.append_ #[t,t2] ty #[u,u2]).run P w= .ok z w'/\eN E s.h w E' s'.h w'/\bO E' s'.h w'/\VR E' w'.heap v z:=by
 unfold D8 at h;split at h
 ·rename_i ti fU;split at h
  ·rename_i e hk;split at h
   ·rename_i ie kx;split at h
    ·grind [T.leaf]
    ·rename_i Pf Xp;obtain⟨d2,jM,Cc⟩:=rz (cJ t2 Pf Xp);split at h
     ·grind [T.leaf]
     ·rename_i k2 fX
      have uF: ∀k,d2≠.int k:=by
       intro k hd;subst hd;cases sD:Pf.kind<;>rw [sD] at Cc<;>simp only [Hn] at Cc
       grind
      split at h
      ·grind [T.leaf]
      ·rename_i iV;simp only [not_or,Classical.not_not] at iV;obtain⟨wH,sG,vJ,ky⟩:=iV;have uz:=cJ e ie kx;have hu:=eY (cJ t ti fU) hk;split at h
       ·grind [T.leaf]
       ·rename_i e0 rR N!;have hl:=mQ N!;split at h
        ·rename_i id2 T6 n2 Jv;split at h
         ·rename_i Is;split at h
          ·rename_i xG;have Is:=aq Is;have xG:=aq xG;subst Is xG;obtain⟨fA,fk,g1,g2,g3,g4⟩:=vy hp h;have hy0:=hy;simp only [VR] at hy;obtain⟨hid,l,k,a,cap,q1,q2,rfl,q4,q5⟩:=hy;obtain⟨rc,ho,hw⟩:=r.nY hl;generalize hL:(dec (e0.den E.ρ)).l=L at *;have hlk:l+k<=L.length:=J
           have hsp:L=L.take l++((L.take (l+k)).drop l++L.drop (l+k)):=by
            conv=>lhs; rw [<- al6 (l+k) L]
            grind
           have T9:cN E.ρ e0 Jv []=bG E.ρ (rowOf Jv) [] (L.take l) 0++(bG E.ρ (rowOf Jv) [] ((L.take (l+k)).drop l) 0++bG E.ρ (rowOf Jv) [] (L.drop (l+k)) 0):=by
            unfold cN;rw [hL]
            conv=>lhs; rw [hsp]
            rw [gE,gE]
           have hlA:(bG E.ρ (rowOf Jv) [] (L.take l) 0).length=l*(rowOf Jv).es:=by rw [cD (jS _),bd];congr 1;omega
           have hlen:((L.take (l+k)).drop l).length=k:=by rw [bq,bd]; omega
           have hlB:(bG E.ρ (rowOf Jv) [] ((L.take (l+k)).drop l) 0).length=k*(rowOf Jv).es:=by rw [cD (jS _),hlen]
           have hy1:VR E w.heap (.slice id2 (l*(rowOf Jv).es) k (.rest (rowOf Jv).es)) (.slice (some a) k cap):=by simp only [VR];exact⟨hid,a,cap,rfl,q4,q5⟩
           obtain⟨us,src⟩:=pI (P:=P) rc hy1 (s:=ie.size) (m:=k) (news:=bG E.ρ (rowOf Jv) [] ((L.take (l+k)).drop l) 0) (by
            simp only [qY,mq,Hp.bR,if_true];rw [T9,<- hlA,sW];simp only;rw [<- ky,<- hlB,Fo]
            rfl)
           refine LL (s:={ s with pc:=fA }) r fk uz hu jM uF ky wH hl nR hx q2 hlen (by rw [w9 q1 q2,ej,hL]) (fun d hd=>hw.2.1 d ?_) src src.T2 g4;rw [hL];exact alI (br hd)
          grind [T.leaf]
         grind [T.leaf]
        ·split at h
         ·grind [T.leaf]
         ·rename_i m news NB;obtain⟨us,src⟩:=pI (P:=P) r hy NB;split at h
          ·grind [T.leaf]
          ·rename_i m';split at h
           ·split at h
            ·rename_i sd hcr;obtain⟨ds,c1,c2,c3,c4,c5⟩:=qf (ρ:=E.ρ) _ hcr;simp only [V.den,bB,D.l,aC] at c2;exact LL r hp uz hu jM uF ky wH hl nR hx (mm:=m'+1) (by simp only [V.den]; rfl) c1 c2 c4 src (c5 E w.heap _ 0 rfl src.T2) h
            grind [T.leaf]
           grind [T.leaf]
   grind [T.leaf]
  grind [T.leaf]
 grind [T.leaf]
theorem Bp [bI] {tt:TT} (cJ:ew P tt) {s s':St} (r:bO E s.h w) (hp:bW E.ρ s.pc) {t ty id t':Nat} {lo n:V} {v:W} {u:Value} (hx:VR E w.heap (.tE id lo n t') u) (h:(yZ tt t id lo n t' s).leaf E.ρ=some (v,s')) :
 s'.bE=s.bE/\bW E.ρ s'.pc/\v=W.undef/\∃w' E',(Builtin.clear_ #[t] ty #[u]).run P w= .ok (.tuple #[]) w'/\eN E s.h w E' s'.h w'/\bO E' s'.h w':=by
 unfold yZ at h;split at h
 ·rename_i ti fU;split at h
  ·rename_i e hk;have hu:=eY (cJ t ti fU) hk;split at h
   ·rename_i ie kx;obtain⟨inf,d,z,U,Z,h3,h4,h5,h6,h7,h8⟩:=(cJ e ie kx).all;have hz:=eP (E:=E) (h:=w.heap) h4;split at h
    ·rename_i iV;obtain⟨ky,wH⟩:=iV;split at h
     ·grind [T.leaf]
     ·rename_i e0 zB N!;have hl:=mQ N!;split at h
      ·grind [T.leaf]
      ·rename_i zz hzz;obtain⟨fA,fk,g1⟩:=cH hp h;split at g1
       ·grind [T.leaf]
       ·rename_i t1;obtain⟨jt,jk,g2⟩:=cH (s:={ s with pc:=fA }) fk g1;split at g2
        ·grind [T.leaf]
        ·rename_i t2;obtain⟨T5,Iq,g3⟩:=cH (s:={ s with pc:=jt }) jk g2;split at g3
         ·grind [T.leaf]
         ·rename_i t3;have:=bC g3;simp only [ak] at this;obtain⟨rfl,rfl⟩:=this;rw [dQ,decide_eq_false_iff_not] at t1 t2;rw [gv,beq_iff_eq,oK,cC] at t3;simp only [VR] at hx;obtain⟨hid,l,k,a,cap,q1,q2,rfl,q4,q5⟩:=hx;have hlk:l+k=(dec (e0.den E.ρ)).l.length:=J
          have hn0:(dec (e0.den E.ρ)).l.length-l=k:=J
          have hwz:=s9 (ρ:=E.ρ) hzz;have hrz:wA E.ro w.heap (rowOf t') (dec (zz.den E.ρ)) z.cells.toList:=ta hz.1 hzz
          have alr:cA E w.heap (gy (rowOf t') (.eo (dec (zz.den E.ρ)))) z.cells.toList:=by
           rw [fT];simp only [V.den,bB]
           grind
          have aes: ∀m:Nat,bG E.ρ (rowOf t') [] (List.replicate m (dec (zz.den E.ρ))) 0=dJ (gy (rowOf t') (.eo (dec (zz.den E.ρ)))) m:=by
           intro m
           induction m with
           |zero=>rfl
           |succ m ih=>
            simp only [ang,bG,dW,dJ]
            grind [j7]
          have hv:cA E w.heap (bG E.ρ (rowOf t') [] (List.replicate k (dec (zz.den E.ρ))) 0) (dJ z.cells.toList k):=by
           grind [lT]
          obtain⟨w',f1,f2,f3⟩:=Cw (P:=P) r hl (n:=l) (mm:=k) J (al9) (fun d hd=>by rw [anA hd]; exact hwz) hv (fun u hu=>hz.2 u (lS hu)) (e1:=.op .fill e0 (ey (mS lo) zz)) (by
           simp only [ey,V.den,fc.den,bB,ld,D.n,q1,aZ,hn0,hlk]
           rw [List.drop_length,alZ])
          refine⟨rfl,Iq,rfl,w',E,?_,f2,f3⟩;rcases amj k with XC|XC
          ·subst XC;simp only [dJ] at f1
           have:w'=w:=by
            simp [storeCells] at f1
            grind
           subst this;simp [Builtin.clear_,run_underlying hu]
          ·have ha:a=⟨(E.θ id).1,(E.θ id).2+l*(rowOf t').es,none⟩:=by
            simp only [eF] at q5
            grind
           have aeo:z.cells.toList≠[]:=by
            intro hx;have:=wA.length hrz
            grind
           have hzc:(Builtin.zeroCells z.cells k).toList=dJ z.cells.toList k:=tN z.cells aeo k;subst ha;obtain⟨j,rfl⟩ : ∃j,k=j+1:=⟨k-1,J⟩;simp [Builtin.clear_,run_underlying hu,zeroValue,typeInfo,U,h3,hzc,f1]
    grind [T.leaf]
   grind [T.leaf]
  grind [T.leaf]
 grind [T.leaf]
end
theorem lV (l:List Nat):(kR l).l.length=l.length:=by simp [kR]
theorem TG {a b:List Nat} (h:kR a=kR b):a=b:=by
 have:=Er h
 induction a generalizing b with
 |nil=>cases b with
  |nil=>rfl
  |cons y b=>simp at this
 |cons x a ih=>cases b with
  |nil=>simp at this
  |cons y b=> simp only [aw,List.cons.injEq,D.i.injEq,Int.ofNat_eq_natCast,amL] at this;rw [this.1,ih (b:=b) (by unfold kR; exact congrArg dL (by simpa using this.2)) (by simpa using this.2)]
theorem Ep: ∀(x y:List Nat),Lw (x.map fun b=>D.i (Int.ofNat b)) (y.map fun b=>D.i (Int.ofNat b))=bytesLess x y
 |[],[]=>rfl
 |[],_::_=>rfl
 |_::_,[]=>rfl
 |a::x,b::y=>by
  simp only [aw,Lw,bytesLess,D.n,Ep x y];have i1:(Int.ofNat a<Int.ofNat b)=(a<b):=propext amS;have i2:(Int.ofNat b<Int.ofNat a)=(b<a):=propext amS;simp only [i1,i2];rcases anh a b with h|h|h
  ·simp_all
  ·simp_all
  ·have Z:a.blt b=false:=by rw [amq]; simp [Nat.blt]; omega
   have h3:a.beq b=false:=by rw [amq]; simp; omega
   grind
section
variable {P:Program} {E:En} {w:World}
theorem VR.K' {h:Array Obj} {e:V} {v:Value} (hv:VR E h (.jy e) v): ∃l:List Nat,v= .string (de l)/\(∀b∈l,b<256)/\dec (e.den E.ρ)=kR l:=by
 simp only [VR] at hv;obtain⟨s,rfl,hs⟩:=hv.string;refine⟨bytesOf s,by rw [kj],xC s,?_⟩
 grind [zf,xC,kj,s6,de]
theorem VR.WK {h:Array Obj} {e:V} {l:List Nat} (hl: ∀b∈l,b<256) (he:dec (e.den E.ρ)=kR l):VR E h (.jy e) (.string (de l)):=by
 simp only [VR];rw [he,zf _ hl];have:=Rd.str (ro:=E.ro) (h:=h) (de l)
 grind [s6,de]
theorem CH {h:Array Obj} {x:W} {u:Value} {e:V} (hx:VR E h x u) (hs:tg x=some e): ∃l:List Nat,u= .string (de l)/\(∀b∈l,b<256)/\dec (e.den E.ρ)=kR l:=by
 unfold tg at hs;split at hs
 ·simp only [ag] at hs;subst hs;simp only [VR] at hx;exact⟨_,hx.1,hx.2,by simp only [V.den,bB]⟩
 ·simp only [ag] at hs;subst hs;exact hx.K'
 grind
theorem N0 {tt:TT} (cJ:ew P tt) {s s':St} (hp:bW E.ρ s.pc) {ty:Nat} {e:V} {ix v:W} {u ui:Value} (hx:VR E w.heap (.jy e) u) (yE:VR E w.heap ix ui) (h:(IJ tt s ty e ix).leaf E.ρ=some (v,s')) :
 s'.bE=s.bE/\s'.h=s.h/\bW E.ρ s'.pc/\∃r,(Instr.index ty u ui).run P w= .ok r w/\VR E w.heap v r:=by
 unfold IJ at h;split at h
 ·rename_i kd i;split at h
  ·rename_i ti fU;split at h
   ·rename_i hk;obtain⟨dY,fj,U,Z,h3⟩:=nj hp h;have:=bC h3;simp only [ak] at this;obtain⟨rfl,rfl⟩:=this;refine⟨rfl,rfl,fj,?_⟩;obtain⟨l,rfl,Y,hd⟩:=hx.K';simp only [VR] at yE;subst yE;rw [cC,hd,lV] at Z;obtain⟨k,Cc⟩ : ∃k:Nat,i.den E.ρ=(k:Int):=⟨(i.den E.ρ).toNat,J⟩;have ff:k<l.length:=J
    have hg:(de l)[k]?=some (UInt8.ofNat l[k]):=by rw [CJ,aM ff]; rfl
    have akM:=Y l[k] (aF ff);rw [Cc];refine⟨_,by simp [Instr.index,asIntOf,run_underlying (fB (cJ ty ti fU) hk),hg]; rfl,?_⟩
    have Ti:(dec (e.den E.ρ)).l[k]?=some (.i (Int.ofNat l[k])):=by rw [hd];simp only [kR,bM,bn,aM ff,alE]
    simp only [VR,zG,AF E.ρ e i Cc Ti,D.n]
    grind
   grind [T.leaf]
  grind [T.leaf]
 grind [T.leaf]
theorem NZ {tt:TT} (cJ:ew P tt) {s s':St} (hp:bW E.ρ s.pc) {ty:Nat} {e:V} {lo hi mx:Option W} {xF hi' mx':Option Value} {v:W} {u:Value} (hx:VR E w.heap (.jy e) u)
 (nR:fV E w.heap lo xF) (xI:fV E w.heap hi hi') (xq:fV E w.heap mx mx') (h:(II tt s ty e lo hi mx).leaf E.ρ=some (v,s')) :
 s'.bE=s.bE/\s'.h=s.h/\bW E.ρ s'.pc/\∃r,(Instr.sliceAt ty u xF hi' mx').run P w= .ok r w/\VR E w.heap v r:=by
 unfold II at h;split at h
 ·grind [T.leaf]
 ·simp only [fV] at xq;subst xq;split at h
  ·grind [T.leaf]
  ·rename_i ti fU;split at h
   ·rename_i hk;have hu:=fB (cJ ty ti fU) hk;split at h
    ·grind [T.leaf]
    ·rename_i ql hql;split at h
     ·grind [T.leaf]
     ·rename_i qh hqh;obtain⟨fA,fk,U⟩:=cH hp h;split at U
      ·grind [T.leaf]
      ·rename_i t1;obtain⟨jt,jk,Z⟩:=cH (s:={ s with pc:=fA }) fk U;split at Z
       ·grind [T.leaf]
       ·rename_i t2;obtain⟨T5,Iq,h3⟩:=cH (s:={ s with pc:=jt }) jk Z;split at h3
        ·grind [T.leaf]
        ·rename_i t3;have:=bC h3;simp only [ak] at this;obtain⟨rfl,rfl⟩:=this;refine⟨rfl,rfl,Iq,?_⟩;obtain⟨l,rfl,Y,hd⟩:=hx.K';rw [dQ,decide_eq_false_iff_not] at t1 t2 t3;rw [cC,hd,lV] at t3;simp only [V.den,ami] at t1;obtain⟨a,ha⟩ : ∃a:Nat,ql.den E.ρ=(a:Int):=⟨(ql.den E.ρ).toNat,J⟩;obtain⟨b,Ma⟩ : ∃b:Nat,qh.den E.ρ=(b:Int):=⟨(qh.den E.ρ).toNat,J⟩;have hle:b<=l.length:=J
         have DG:a<=b:=J
         obtain⟨T6,XA,mX⟩:=W2 hql nR ha
         have aeA: ∃Is,fV E w.heap Is hi'/\nv Is l.length l.length=some b:=by
          unfold hiE at hqh;split at hqh
          ·simp only [ag] at hqh;subst hqh;rw [cC,hd,lV] at Ma;have:b=l.length:=J
           grind [nv]
          ·split at hqh
           ·simp only [ag] at hqh;subst hqh;exact⟨_,Ca Ma xI,Cr hle⟩
           grind
         obtain⟨Is,aeA,zw⟩:=aeA;obtain⟨e1,e2⟩:=fJ (P:=P) (w:=w) (isSlice:=false) (len:=l.length) (cap:=l.length) (m0:=l.length) (d:=0) XA aeA (mx:=none) (mx':=none) rfl ad (.inl ⟨rfl,rfl,au _⟩) zw ⟨fun _=>au _,ad⟩ (mX b DG);refine⟨.string ((de l).extract a b),?_,?_⟩
         ·rw [<- kg] at e1;simp [Instr.sliceAt,run_underlying hu,Instr.slice,e1]
         ·rw [rY];refine VR.WK (fun c hc=>Y c (alI (br hc))) ?_;simp only [ey,V.den,fc.den,bB,ld,D.hd,D.l,aG,aH,az,D.n,ha,Ma,aZ,hd];simp only [kR,bM,am6,am7]
   grind [T.leaf]
theorem HJ {x y:W} {a b:V} (h:BX x y=some (a,b)):tg x=some a/\tg y=some b:=by
 grind [BX]
theorem Fu (ρ:Nat->Int) {a b:V} {x y:List Nat} (ha:dec (a.den ρ)=kR x) (Y:dec (b.den ρ)=kR y):(Fv a b).den ρ=bytesLess x y:=by
 simp only [Fv,SB.den,V.den,fc.den,ha,Y,kR,bM]
 grind [Ep]
theorem zj: ∀(x y:List Nat),(bytesLess x y||gC x y)=!(bytesLess y x)
 |[],[]=>rfl
 |[],_::_=>rfl
 |_::_,[]=>rfl
 |a::x,b::y=>by
  have ih:=zj x y;simp only [bytesLess,gC];rcases anh a b with h|h|h
  ·have U:a.blt b=true:=by simp [Nat.blt]; omega
   have Z:b.blt a=false:=by rw [amq]; simp [Nat.blt]; omega
   have h3:b.beq a=false:=by rw [amq]; simp; omega
   grind
  ·simp_all
  ·have U:b.blt a=true:=by simp [Nat.blt]; omega
   have Z:a.blt b=false:=by rw [amq]; simp [Nat.blt]; omega
   have h3:a.beq b=false:=by rw [amq]; simp; omega
   grind
theorem Tu {s s':St} (hp:bW E.ρ s.pc) {t:Nat} {op:BinOp} {x y v:W} {a b:V} {u u':Value} (hx:VR E w.heap x u) (hy:VR E w.heap y u') (hs:BX x y=some (a,b)) (h:(N1 op a b s).leaf E.ρ=some (v,s')) :
 s'.bE=s.bE/\s'.h=s.h/\bW E.ρ s'.pc/\(∃r,(binOp op t u u').run P w= .ok r w/\VR E w.heap v r)/\(∀cs ds,¬(u= .agg cs/\u'= .agg ds))/\¬(u= .nilIface/\u'= .nilIface):=by
 obtain⟨hsx,hsy⟩:=HJ hs;obtain⟨l,rfl,mX,hdl⟩:=CH hx hsx;obtain⟨m,rfl,DF,tu⟩:=CH hy hsy
 have heq:((pJ (mi a) (mi b)).den E.ρ)=gC l m:=by
  grind [gY,lI,lM,TG,gN]
 have fX:(∀cs ds,¬(Value.string (de l)= .agg cs/\Value.string (de m)= .agg ds))/\¬(Value.string (de l)= .nilIface/\Value.string (de m)= .nilIface):=⟨ad,ad⟩
 have fin: ∀(c:W) (o:BinOp),JV o l m=some c->(∀q,VR E w.heap c q->VR E w.heap v q)->(∀q,(Op.stringOp o (de l) (de m)).run P w= .ok q w->(binOp o t (.string (de l)) (.string (de m))).run P w= .ok q w)->
  ∃r,(binOp o t (.string (de l)) (.string (de m))).run P w= .ok r w/\VR E w.heap v r:=by
  intro c o ho hc hq;obtain⟨r,U,Z⟩:=JU (P:=P) (E:=E) (w:=w) mX DF ho;exact⟨r,hq _ U,hc r Z⟩
 unfold N1 at h;split at h
 ·obtain⟨fA,fk,U⟩:=cH hp h;split at U
  ·grind [T.leaf]
  ·rename_i t1;obtain⟨jt,jk,Z⟩:=cH (s:={ s with pc:=fA }) fk U;split at Z
   ·grind [T.leaf]
   ·rename_i t2;have:=bC Z;simp only [ak] at this;obtain⟨rfl,rfl⟩:=this;rw [dQ,decide_eq_true_eq,cC,hdl,lV] at t1;rw [dQ,decide_eq_true_eq,cC,tu,lV] at t2;simp only [V.den] at t1 t2;refine⟨rfl,rfl,jk,⟨.string (de (l++m)),?_,?_⟩,fX⟩
    ·have hm:IntKind.i64.max=9223372036854775807:=ae
     have:(Op.stringOp .add (de l) (de m)).run P w= .ok (.string (de l++de m)) w:=by simp only [Op.stringOp,kg,hm];rw [af J];rfl
     have e:de l++de m=de (l++m):=by apply ByteArray.ext;simp [de]
     rw [e] at this;simpa [binOp] using this
    ·refine VR.WK (fun c hc=>?_) ?_
     ·grind
     ·simp only [V.den,fc.den,bB,hdl,tu];simp only [kR,bM,ani]
 all_goals first
  |(simp [T.leaf] at h; done)
  |(have:=bC h
    simp only [ak] at this;obtain⟨rfl,rfl⟩:=this;refine⟨rfl,rfl,hp,?_,fX⟩;refine fin _ _ rfl (fun q hq=>?_) (fun q hq=>by simpa [binOp] using hq);simp only [VR,SB.den,mT] at hq ⊢
    first
     |(rw [heq]; exact hq)
     |(rw [Fu E.ρ hdl tu]; exact hq)
     |(rw [Fu E.ρ tu hdl]; rw [zj] at hq; simpa using hq))
theorem Oi [bI] {tt:TT} (cJ:ew P tt) {s s':St} (r:bO E s.h w) (hp:bW E.ρ s.pc) {sT dT:Nat} {e:V} {v:W} {u:Value} (hx:VR E w.heap (.jy e) u) (h:(Cm tt sT dT e s).leaf E.ρ=some (v,s')) :
 s'.bE=s.bE/\bW E.ρ s'.pc/\∃y w' E',(convert sT dT u).run P w= .ok y w'/\eN E s.h w E' s'.h w'/\bO E' s'.h w'/\VR E' w'.heap v y:=by
 unfold Cm at h;split at h
 ·grind [T.leaf]
 ·rename_i j hj;split at h
  ·rename_i hjk;split at h
   ·grind [T.leaf]
   ·rename_i i hi;split at h
    ·rename_i el hik;split at h
     ·rename_i ie kx;split at h
      ·rename_i k alA;split at h
       ·obtain⟨l,rfl,Y,hd⟩:=hx.K'
        have L9:oH tt sT dT (.str l) s.h=some (.slice s.h.fresh 0 l.length (.rest 1),s.h.new (.cells (l.map fun c=> .int .u8 (.lit (Int.ofNat c))) el)):=by
         grind [oH]
        obtain⟨y,w',E',g1,g2,g3,g4⟩:=yY (P:=P) cJ r (x:=.str l) (u:=.string (de l)) (by simp only [VR]; exact⟨trivial,Y⟩) L9;obtain⟨fA,fk,U⟩:=cH hp h;rw [gY,cC,hd,lV] at U;split at U
        ·rename_i hz;have:=bC U;simp only [ak] at this;obtain⟨rfl,rfl⟩:=this;simp only [V.den,beq_iff_eq] at hz
         grind
        ·rename_i hz;have:=bC U;simp only [ak] at this;obtain⟨rfl,rfl⟩:=this;simp only [V.den,beq_eq_false_iff_ne,ne_eq] at hz;have DE:dec (e.den E'.ρ)=kR l:=by rw [g2.ρ]; exact hd
         have T9:cN E'.ρ e 14 []=l.map fun c=>W.int .u8 (.lit (Int.ofNat c)):=by
          unfold cN;rw [DE];simp only [kR,bM]
          have: ∀(l:List Nat) (i:Nat),bG E'.ρ (rowOf 14) [] (l.map fun b=>D.i (Int.ofNat b)) i=l.map fun c=>W.int .u8 (.lit (Int.ofNat c)):=by
           intro l
           induction l with
           |nil=>intro i; rfl
           |cons a l ih=> intro i;simp only [aw,bG,dW,ih];rfl
          grind
         have r2:=B6 (e1:=e) (t:=14) g3 (by
          rw [DE];refine⟨by simp only [kR,bM],fun x hx=>?_,fun q=>?_⟩
          ·simp only [kR,bM,aT] at hx;obtain⟨b,_,rfl⟩:=hx;rfl
          ·have:=congrArg List.length q;rw [lV] at this
           exact hz (by simp at this; simp [this])) (by rw [T9]) (fun us hu=>by rw [T9]; exact hu)
         refine⟨rfl,fk,y,w',E',g1,g2.right (vA rfl rfl fun _=>rfl),r2,?_⟩;simp only [VR] at g4 ⊢;obtain⟨q1,a,cap,q2,q3,q4⟩:=g4;exact⟨q1,l.length,a,cap,by rw [cC,DE,lV],q2,q3,q4⟩
       grind [T.leaf]
      grind [T.leaf]
     grind [T.leaf]
    grind [T.leaf]
  grind [T.leaf]
end
section
variable {P:Program} {E:En} {w:World}
def Im (c:CK):Prop:=(∃k,c= .int k)\/c= .str
theorem bytes_beq (p q:ByteArray):(p == q)=decide (p=q):=by
 rw [alQ,decide_eq_true_eq];have e:(p == q)=(p.data == q.data):=rfl;rw [e,beq_iff_eq];constructor
 ·intro h; cases p; cases q; simp only at h; rw [h]
 grind
theorem yp {ro:Nat->Prop} {h:Array Obj} {c:CK} (hc:Im c) {dt:TypeDesc} (hd:BS dt (Kz c)) {d d':D} {u u':Value} (r:Rd ro h c d u) (r':Rd ro h c d' u') :
 Instr.sameNow dt u u'=some (decide (d=d'))/\(d=d'->∀n,Instr.sameBits (n+1) u' u=true):=by
 rcases hc with ⟨k,rfl⟩|rfl
 ·simp only [Kz] at hd;obtain⟨k',rfl⟩:=hd
  cases r with
  |int _ n=>
   cases r' with
   |int _ m=>
    refine⟨?_,fun hh n=>?_⟩
    ·simp only [Instr.sameNow,D.i.injEq]
     grind
    ·simp only [D.i.injEq] at hh;subst hh;simp [Instr.sameBits]
 ·simp only [Kz] at hd;simp only [BS] at hd;subst hd;obtain⟨a,rfl,rfl⟩:=r.string;obtain⟨b,rfl,rfl⟩:=r'.string;refine⟨?_,fun hh n=>?_⟩
  ·simp only [Instr.sameNow,bytes_beq];congr 1
   grind [El]
  ·have:=El hh;subst this;simp [Instr.sameBits,bytes_beq]
def Ju (P:Program):List CK->Nat->List Field->Prop
 |[],_,fs=>fs= []
 |c::cs,j,fs=> ∃f r k i,fs=f::r/\f.offset=j/\f.name≠ "_"/\c= .int k/\l7 P f.type i/\i.kind= .int k/\Ju P cs (j+1) r
def aat (P:Program) (kt:Nat) (r:Row):Prop:=match r with
 | .one c=>Im c/\∃dt,P.underlying kt=some dt/\BS dt (Kz c)
 | .many cs=>cs≠[]/\P.underlying kt=some (.struct (P.fieldsOf kt))/\P.stoodInHeld kt=false/\Ju P cs 0 (P.fieldsOf kt).toList
theorem Hl.length {ro:Nat->Prop} {h:Array Obj} {d:D}: ∀{cs:List CK} {j:Nat} {us:List Value},Hl ro h cs j d us->us.length=cs.length
 |[],_,us,hh=>by simp only [Hl] at hh; rw [hh]; rfl
 |c::cs,j,us,hh=>by obtain⟨u,vs,rfl,_,h3⟩:=hh;rw [aK,aK,Hl.length h3]
theorem PZ {ro:Nat->Prop} {h:Array Obj} {d d':D} (n:Nat): ∀{cs:List CK} {j:Nat} {fs:List Field} {us vs pre pre':List Value},Ju P cs j fs->Hl ro h cs j d us->Hl ro h cs j d' vs->pre.length=j->pre'.length=j->
 (Op.eqFields (n+1) (pre++us).toArray (pre'++vs).toArray fs).run P w= .ok (decide (∀i,i<cs.length->d.hd (j+i)=d'.hd (j+i))) w
 |[],j,fs,us,vs,pre,pre',hf,_,_,_,_=>by simp only [Ju] at hf;subst hf;simp [Op.eqFields]
 |c::cs,j,fs,us,vs,pre,pre',hf,hu,hv,hp,fj=>by
  obtain⟨f,r,k,i,rfl,ho,hn,rfl,fU,hk,hr⟩:=hf;obtain⟨u,us,rfl,Nz,QA⟩:=hu;obtain⟨v,vs,rfl,P9,N?⟩:=hv;have e4:i.agg=false:=by simp [TI.agg,TK.agg,hk]
  have p1:(part f.type (pre++u::us).toArray f.offset).run P w= .ok u w:=by simp [part,ku fU,e4,ho,<- hp]
  have p2:(part f.type (pre'++v::vs).toArray f.offset).run P w= .ok v w:=by simp [part,ku fU,e4,ho,<- fj]
  have ih:=PZ (d:=d) (d':=d') (us:=us) (vs:=vs) (pre:=pre++ [u]) (pre':=pre'++ [v]) n hr QA N? (by simp [hp]) (by simp [fj]);rw [alY,alY] at ih;simp only [anB] at ih;simp only [Op.eqFields];rw [ah hn];generalize hx:d.hd j=x at Nz;generalize hy:d'.hd j=y at P9
  cases Nz with
  |int _ a=>
   cases P9 with
   |int _ b=>
    simp only [Sem.run_bind,p1,p2,Result.andThen_ok,run_equalIn_int w n f.type _ _ _ _ (oo fU hk)];by_cases DG:a=b
    ·subst DG;simp only [beq_self_eq_true,amE,aL,if_false,ih];congr 1;rw [decide_eq_decide];constructor
     ·intro q m hm
      cases m with
      |zero=>rw [bg,hx,hy]
      |succ m=>have:=q m (by simp at hm; omega); rw [show j+(m+1)=j+1+m by omega]; exact this
     ·intro q m hm;have:=q (m+1) (by simp; omega);rw [show j+(m+1)=j+1+m by omega] at this;exact this
    ·have Y:(a == b)=false:=by simpa using DG
     rw [Y];simp only [Bool.not_false,if_true,Sem.run_pure];congr 1;symm;rw [decide_eq_false_iff_not];intro q;have:=q 0 ad;rw [bg,hx,hy] at this;simp only [D.i.injEq] at this;exact DG this
theorem Gk {ro:Nat->Prop} {h:Array Obj} {d:D}: ∀{cs:List CK} {j:Nat} {fs:List Field} {us vs:List Value},Ju P cs j fs->Hl ro h cs j d us->Hl ro h cs j d vs->us=vs
 |[],j,fs,us,vs,_,hu,hv=>by simp only [Hl] at hu hv;rw [hu,hv]
 |c::cs,j,fs,us,vs,hf,hu,hv=>by
  obtain⟨f,r,k,i,rfl,ho,hn,rfl,fU,hk,hr⟩:=hf;obtain⟨u,us,rfl,Nz,QA⟩:=hu;obtain⟨v,vs,rfl,P9,N?⟩:=hv;rw [Gk hr QA N?];generalize hx:d.hd j=x at Nz P9
  cases Nz with
  |int _ a=>
   cases P9 with
   |int _ b=>rfl
theorem Gj {ro:Nat->Prop} {h:Array Obj} {d:D}: ∀{cs:List CK} {j:Nat} {fs:List Field} {us:List Value} (n:Nat),Ju P cs j fs->Hl ro h cs j d us->((us.zip us).all fun (x,y)=>Instr.sameBits n x y)=true
 |[],j,fs,us,n,_,hu=>by simp only [Hl] at hu;rw [hu];rfl
 |c::cs,j,fs,us,n,hf,hu=>by
  obtain⟨f,r,k,i,rfl,ho,hn,rfl,fU,hk,hr⟩:=hf;obtain⟨u,us,rfl,Nz,QA⟩:=hu;rw [List.zip_cons_cons,anj,Gj n hr QA,Bool.and_true];generalize hx:d.hd j=x at Nz
  cases Nz with
  |int _ a=>simp [Instr.sameBits]
theorem s_ {cs:List CK} {d d':D} (h:v7 cs d) (h':v7 cs d'):(∀i,i<cs.length->d.hd (0+i)=d'.hd (0+i))↔d=d':=by
 constructor
 ·intro q;rw [h.1,h'.1];congr 1;refine List.ext_getElem (by rw [h.2.1,h'.2.1]) fun i U Z=>?_;have:=q i (by rw [<- h.2.1]; exact U);rw [ay] at this;unfold D.hd at this;rw [aM U,aM Z] at this;simpa using this
 ·rintro rfl i _;rfl
theorem Af {ro:Nat->Prop} {h:Array Obj} {kt:Nat} {cs:List CK} (hT:aat P kt (.many cs)) {d d':D} {u u':Value} (r:Fb ro h (.many cs) d u) (r':Fb ro h (.many cs) d' u') :
 (Op.equal kt u u').run P w= .ok (decide (d=d')) w/\(d=d'->∀n,Instr.sameBits (n+1) u' u=true):=by
 obtain⟨_,t1,t2,t3⟩:=hT;obtain⟨w1,us,rfl,U⟩:=r;obtain⟨w2,vs,rfl,Z⟩:=r';refine⟨?_,fun hh n=>?_⟩
 ·have h10:(Op.maxDepth:Nat)=9998+1+1:=rfl;unfold Op.equal;rw [h10,run_equalIn_struct w (9998+1) kt _ _ t1 t2];have:=PZ (w:=w) (d:=d) (d':=d') (pre:=[]) (pre':=[]) 9998 t3 U Z rfl rfl;simp only [aC] at this;rw [this];congr 1;rw [decide_eq_decide];exact s_ w1 w2
 ·subst hh;have e:=Gk t3 U Z;subst e;simp only [Instr.sameBits,beq_self_eq_true,Bool.true_and];exact Gj n t3 U
def ajr (ro:Nat->Prop) (h:Array Obj) (t:Nat) (ds:List D) (kd:D) (bL:List MapEntry) (u:Value) (ask:Option (Nat×Value)->Prop):Prop:=
 (ec ds kd=none/\ask none/\(∀v,ib ds kd v=ds++ [.p kd v])/\EY ds kd=ds)\/
 (∃j x e,ec ds kd=some x/\bL[j]?=some e/\Fb ro h (mapOf t).2 x e.val/\ask (some (j,e.val))/\(∀n,Instr.sameBits (n+1) e.key u=true)/\(∀v,ib ds kd v=ds.set j (.p kd v))/\EY ds kd=ds.eraseIdx j)
theorem At {ro:Nat->Prop} {h:Array Obj} {t:Nat} {kd:D} {u:Value} {ask:List MapEntry->Nat->Option (Nat×Value)->Prop} (a0: ∀i,ask [] i none) (aY: ∀e r i,(∃d',Fb ro h (mapOf t).1 d' e.key/\d'=kd)->ask (e::r) i (some (i,e.val))) (aN: ∀e r i res,(∃d',Fb ro h (mapOf t).1 d' e.key/\d'≠kd)->ask r (i+1) res->ask (e::r) i res)
 (aB: ∀u',Fb ro h (mapOf t).1 kd u'->∀n,Instr.sameBits (n+1) u' u=true): ∀{ds:List D} {bL:List MapEntry} {i:Nat},jL ro h t ds bL->ajr ro h t ds kd bL u (fun q=>ask bL i (q.map fun p=>(i+p.1,p.2)))
 |[],bL,i,he=>by simp only [jL] at he;subst he;exact .inl ⟨rfl,a0 i,fun _=>rfl,rfl⟩
 |d::ds,bL,i,he=>by
  obtain⟨e,r,rfl,U,Z,h3,h4⟩:=he;by_cases yD:jc d=kd
  ·refine .inr ⟨0,E8 d,e,by simp only [ec,ah yD],rfl,h3,?_,aB _ (yD▸Z),fun v=>by simp only [ib,ah yD,amn],by simp only [EY,ah yD,List.eraseIdx_cons_zero]⟩;exact aY e r i ⟨_,Z,yD⟩
  ·rcases At a0 aY aN aB (i:=i+1) h4 with ⟨q1,q2,q3,q4⟩|⟨j,x,e',q1,q2,q3,q4,q5,q6,q7⟩
   ·exact .inl ⟨by simp only [ec,af yD,q1],aN e r i _ ⟨_,Z,yD⟩ q2,fun v=>by simp only [ib,af yD,q3,aP],by simp only [EY,af yD,q4]⟩
   ·refine .inr ⟨j+1,x,e',by simp only [ec,af yD,q1],by simpa using q2,q3,?_,q5,fun v=>by simp only [ib,af yD,q6,amo],by simp only [EY,af yD,q7,amO]⟩;have:=aN e r i _ ⟨_,Z,yD⟩ q4;simp only [alE] at this ⊢;rw [show i+(j+1)=i+1+j by omega];exact this
theorem DP {ro:Nat->Prop} {h:Array Obj} {t kt:Nat} (hT:aat P kt (mapOf t).1) {kd:D} {u:Value} (hk:Fb ro h (mapOf t).1 kd u) {ds:List D} {bL:List MapEntry} (he:jL ro h t ds bL):ajr ro h t ds kd bL u (fun q=>(Instr.findKey kt u bL).run P w= .ok q w):=by
 generalize hr:(mapOf t).1=r at hT hk
 cases r with
 |one c=>
  obtain⟨hc,dt,hu,hd⟩:=hT;have QK:Rd ro h c kd u:=hk
  have G:=At (ro:=ro) (h:=h) (t:=t) (kd:=kd) (u:=u) (ask:=fun es i q=>Instr.findNow dt u es i=some q) (fun i=>by simp [Instr.findNow])
   (fun e r i ⟨d',U,Z⟩=>by
    rw [hr] at U;have g:=(yp hc hd QK U).1;rw [Z,decide_eq_true rfl] at g
    simp [Instr.findNow,g])
   (fun e r i res ⟨d',U,Z⟩ q=>by
    rw [hr] at U;have g:=(yp hc hd QK U).1;rw [decide_eq_false (fun e=>Z e.symm)] at g;simp only [Instr.findNow,g]
    exact q)
   (fun u' U n=>by
    rw [hr] at U
    exact (yp hc hd QK U).2 rfl n) (i:=0) he
  rcases G with ⟨q1,q2,q3,q4⟩|⟨j,x,e,q1,q2,q3,q4,q5,q6,q7⟩
  ·exact .inl ⟨q1,fm hu q2,q3,q4⟩
  ·simp only [alE,ay] at q4;exact .inr ⟨j,x,e,q1,q2,q3,fm hu q4,q5,q6,q7⟩
 |many cs=>
  have G:=At (ro:=ro) (h:=h) (t:=t) (kd:=kd) (u:=u) (ask:=fun es i q=>(Instr.findAsking kt u es i).run P w= .ok q w) (fun i=>by simp [Instr.findAsking])
   (fun e r i ⟨d',U,Z⟩=>by
    rw [hr] at U;have g:=(Af (w:=w) hT hk U).1;rw [Z,decide_eq_true rfl] at g
    simp [Instr.findAsking,g])
   (fun e r i res ⟨d',U,Z⟩ q=>by
    rw [hr] at U;have g:=(Af (w:=w) hT hk U).1;rw [decide_eq_false (fun e=>Z e.symm)] at g;simp [Instr.findAsking,g]
    exact q)
   (fun u' U n=>by
    rw [hr] at U
    exact (Af (w:=w) hT hk U).2 rfl n) (i:=0) he
  have key: ∀q,(Instr.findAsking kt u bL 0).run P w= .ok q w->(Instr.findKey kt u bL).run P w= .ok q w:=by
   intro q hq;unfold Instr.findKey
   cases bL with
   |nil=> simp only [Instr.findAsking,Sem.run_pure] at hq;simp [run_underlying hT.2.1,Instr.findNow];simpa using hq
   |cons e r=> simp [run_underlying hT.2.1,Instr.findNow,Instr.sameNow];exact hq
  rcases G with ⟨q1,q2,q3,q4⟩|⟨j,x,e,q1,q2,q3,q4,q5,q6,q7⟩
  ·exact .inl ⟨q1,key _ q2,q3,q4⟩
  ·simp only [alE,ay] at q4;exact .inr ⟨j,x,e,q1,q2,q3,key _ q4,q5,q6,q7⟩
theorem Dn {ro:Nat->Prop} {h:Array Obj} {d:D} (b:Bool) (n:Nat): ∀{cs:List CK} {j:Nat} {fs:List Field} {us pre:List Value},Ju P cs j fs->Hl ro h cs j d us->pre.length=j->
 (forIn fs PUnit.unit (fun f (_:PUnit)=>(do
  if f.name≠ "_" then Instr.checkKey b (n+1) f.type (<- part f.type (pre++us).toArray f.offset)
  pure (ForInStep.yield PUnit.unit):Sem (ForInStep PUnit)))).run P w= .ok PUnit.unit w
 |[],j,fs,us,pre,hf,_,_=>by simp only [Ju] at hf;subst hf;simp
 |c::cs,j,fs,us,pre,hf,hu,hp=>by
  obtain⟨f,r,k,i,rfl,ho,hn,rfl,fU,hk,hr⟩:=hf;obtain⟨u,us,rfl,Nz,QA⟩:=hu;have e4:i.agg=false:=by simp [TI.agg,TK.agg,hk]
  have p1:(part f.type (pre++u::us).toArray f.offset).run P w= .ok u w:=by simp [part,ku fU,e4,ho,<- hp]
  have ih:=Dn (d:=d) (us:=us) (pre:=pre++ [u]) b n hr QA (by simp [hp]);rw [alY] at ih;simp only [anB] at ih;have hc:(Instr.checkKey b (n+1) f.type u).run P w= .ok () w:=by simp [Instr.checkKey,run_underlying (oo fU hk)]
  rw [List.forIn_cons];simp only [Sem.run_bind,ah hn,p1,hc,Result.andThen_ok,Sem.run_pure];exact ih
theorem lW {ro:Nat->Prop} {h:Array Obj} {kt:Nat} {r:Row} (hT:aat P kt r) {d:D} {v:Value} (hk:Fb ro h r d v) (b:Bool):(Instr.checkKey b 10000 kt v).run P w= .ok () w:=by
 cases r with
 |one c=> obtain⟨_,dt,hu,hd⟩:=hT;exact eB hu hd b v
 |many cs=> obtain⟨_,t1,_,t3⟩:=hT;obtain⟨_,us,rfl,U⟩:=hk;have h0:(10000:Nat)=9998+1+1:=rfl;rw [h0];have:=Dn (w:=w) (pre:=[]) b 9998 t3 U rfl;simp only [aC] at this;rw [Instr.checkKey];simp only [Sem.run_bind,run_underlying t1,Result.andThen_ok];rw [<- Array.forIn_toList,this];simp
theorem jL.set {ro:Nat->Prop} {h:Array Obj} {t:Nat} {kd vd:D} {uk uv:Value} (hk:Fb ro h (mapOf t).1 kd uk) (hv:Fb ro h (mapOf t).2 vd uv): ∀{ds:List D} {bL:List MapEntry} {i:Nat} {e:MapEntry},jL ro h t ds bL->bL[i]?=some e->
 jL ro h t (ds.set i (.p kd vd)) (bL.set i { e with key:=uk,val:=uv })
 |[],bL,i,e,he,hi=>by simp only [jL] at he; subst he; simp at hi
 |d::ds,bL,0,e,he,hi=>by obtain⟨e0,r,rfl,U,Z,h3,h4⟩:=he;simp at hi;subst hi;simp only [amn];exact⟨_,r,rfl,rfl,hk,hv,h4⟩
 |d::ds,bL,i+1,e,he,hi=>by obtain⟨e0,r,rfl,U,Z,h3,h4⟩:=he;simp only [amo];exact⟨e0,_,rfl,U,Z,h3,jL.set hk hv h4 (by simpa using hi)⟩
theorem jL.push {ro:Nat->Prop} {h:Array Obj} {t:Nat} {kd vd:D} {uk uv:Value} {c:Nat} (hk:Fb ro h (mapOf t).1 kd uk) (hv:Fb ro h (mapOf t).2 vd uv): ∀{ds:List D} {bL:List MapEntry},jL ro h t ds bL->
 jL ro h t (ds++ [.p kd vd]) (bL++ [{ key:=uk,val:=uv,born:=c }])
 |[],bL,he=>by simp only [jL] at he;subst he;exact⟨_,[],rfl,rfl,hk,hv,rfl⟩
 |d::ds,bL,he=>by obtain⟨e0,r,rfl,U,Z,h3,h4⟩:=he;simp only [aP];exact⟨e0,_,rfl,U,Z,h3,jL.push hk hv h4⟩
theorem jL.erase {ro:Nat->Prop} {h:Array Obj} {t:Nat}: ∀{ds:List D} {bL:List MapEntry} {i:Nat},jL ro h t ds bL->jL ro h t (ds.eraseIdx i) (bL.eraseIdx i)
 |[],bL,i,he=>by simp only [jL] at he; subst he; simp [jL]
 |d::ds,bL,0,he=>by
  obtain⟨e0,r,rfl,U,Z,h3,h4⟩:=he
  grind
 |d::ds,bL,i+1,he=>by obtain⟨e0,r,rfl,U,Z,h3,h4⟩:=he;simp only [amO];exact⟨e0,_,rfl,U,Z,h3,jL.erase h4⟩
theorem xh {m:W} {h:Hp} {id t:Nat} {e:V} (hm:wG m h=some (id,e,t)):m= .map id/\h.get id=some (.jJ e t):=by
 unfold wG at hm
 grind
theorem GG {tt:TT} (cJ:ew P tt): ∀{cs:List CK} {j:Nat} {fs:List (Nat×Nat×Nat)} {lL:List Field},Ar tt cs j fs=true->(lL.mapM fun f=>(P.info? f.type).map fun i=>(f.offset,f.type,i.size))=some fs->(∀f∈lL,f.name≠ "_")->Ju P cs j lL
 |[],j,[],lL,_,hm,_=>by
  cases lL with
  |nil=>rfl
  |cons f lL=> simp only [amh,amB,amm] at hm;obtain⟨_,_,_,_,h3⟩:=hm;simp at h3
 |[],j,_::_,lL,h,_,_=>by simp [Ar] at h
 |c::cs,j,[],lL,h,_,_=>by simp [Ar] at h
 |c::cs,j,(o,ft,z)::fs,lL,h,hm,hn=>by
  cases lL with
  |nil=>simp at hm
  |cons f lL=>
   simp only [amh,amB,amm] at hm;obtain⟨p,U,ls,Z,h3⟩:=hm;simp only [pure,ag,List.cons.injEq] at h3;obtain⟨rfl,rfl⟩:=h3;rw [aO] at U;obtain⟨inf,akv,e⟩:=U;simp only [ak] at e;obtain⟨rfl,rfl,rfl⟩:=e;simp only [Ar] at h;split at h
   ·rename_i ho;split at h
    ·rename_i i hi;split at h
     ·rename_i k;split at h
      ·rename_i hk;exact⟨f,lL,k,i,rfl,aq ho,hn f ad,rfl,cJ f.type i hi,of_decide_eq_true hk,GG cJ h Z (fun g hg=>hn g (by simp [hg]))⟩
      ·simp at h
     ·simp at h
    ·simp at h
   ·simp at h
theorem LA {h:Array Obj} {r:Row} {v:W} {u:Value} {a:V} (hv:VR E h v u) (hc:RB r v=some a):Fb E.ro h r (dec (a.den E.ρ)) u:=by
 cases r with
 |one c=>exact (kG hv hc).rd (oJ hc)
 |many cs=>
  unfold RB at hc;simp only at hc;split at hc
  ·rename_i vs;simp only [VR] at hv;obtain⟨us,rfl,Gu⟩:=hv;have hw:=tb (ρ:=E.ρ) hc;refine⟨hw,us,rfl,?_⟩;have hR:=tc Gu hc
   have key: ∀{ks:List CK} {j:Nat} {ws:List Value},dO E.ro h ks j (dec (a.den E.ρ)) ws->(∀i c,ks[i]?=some c->n4 c ((dec (a.den E.ρ)).hd (j+i)))->Hl E.ro h ks j (dec (a.den E.ρ)) ws:=by
    intro ks
    induction ks with
    |nil=>intro j ws hh _; exact hh
    |cons c ks ih=>
     intro j ws hh tM;obtain⟨x,xs,rfl,g1,g2⟩:=hh
     exact⟨x,xs,rfl,g1.rd (tM 0 c rfl),ih g2 fun i c' hi=>by
      have:=tM (i+1) c' hi;rw [show j+(i+1)=j+1+i by omega] at this
      exact this⟩
   refine key hR fun i c hi=>?_;obtain⟨_,w2,w3⟩:=hw;have ei:i<cs.length:=(aW.1 hi).1;refine w3 i c _ hi ?_;unfold D.hd;rw [ay,aM J];rfl
  ·simp at hc
theorem Fb.cell {h:Array Obj} {r:Row} {d:D} {u:Value} {x:V} (hh:Fb E.ro h r d u) (hd:dec (x.den E.ρ)=d):VR E h (LG r x) u:=by
 subst hd
 cases r with
 |one c=> have hh:Rd E.ro h c _ u:=hh;exact nh.2 hh.cell
 |many cs=>
  obtain⟨_,us,rfl,U⟩:=hh;simp only [LG,VR];refine⟨us,rfl,nu.2 ?_⟩
  have key: ∀{ks:List CK} {j:Nat} {ws:List Value},Hl E.ro h ks j (dec (x.den E.ρ)) ws->dO E.ro h ks j (dec (x.den E.ρ)) ws:=by
   intro ks
   induction ks with
   |nil=>intro j ws hh; exact hh
   |cons c ks ih=> intro j ws hh;obtain⟨y,ys,rfl,g1,g2⟩:=hh;exact⟨y,ys,rfl,g1.cell,ih g2⟩
  exact key U
theorem Ab {tt:TT} (cJ:ew P tt) {h:Array Obj} {ty t:Nat} {k:W} {uk:Value} {a:V} {ie:TI} (hk:VR E h k uk) (hm:mapKey tt ty t k=some (a,ie)) :
 ∃kt et,P.underlying ty=some (.map kt et)/\aat P kt (mapOf t).1/\l7 P et ie/\Fb E.ro h (mapOf t).1 (dec (a.den E.ρ)) uk:=by
 unfold mapKey at hm;split at hm
 ·grind
 ·rename_i ti fU;split at hm
  ·rename_i kt et yC;split at hm
   ·grind
   ·rename_i ki XB;split at hm
    ·rename_i sD;split at hm
     ·grind
     ·rename_i ie' kx;split at hm
      ·grind
      ·rename_i a0 ha0;simp only [ag,ak] at hm;obtain⟨rfl,rfl⟩:=hm;have hu:=rX (cJ ty ti fU) yC;refine⟨kt,et,hu,?_,cJ et ie' kx,?_⟩
       ·generalize hr:(mapOf t).1=r at sD
        have nG:(∃c,r= .one c/\Im c)\/∃cs,r= .many cs/\cs≠[]:=by
         rw [<- hr];unfold mapOf;split<;>first |exact .inl ⟨_,rfl,.inl ⟨_,rfl⟩⟩|exact .inl ⟨_,rfl,.inr rfl⟩|exact .inr ⟨_,rfl,ad⟩
        rcases nG with ⟨c,rfl,hc⟩|⟨cs,rfl,fX⟩
        ·simp only [W8,decide_eq_true_eq] at sD;refine⟨hc,?_⟩;rcases hc with ⟨q,rfl⟩|rfl
         ·exact⟨_,oo (cJ kt ki XB) sD,q,rfl⟩
         ·exact⟨_,fB (cJ kt ki XB) sD,rfl⟩
        ·simp only [W8] at sD;split at sD
         ·rename_i fs hfs;split at sD
          ·rename_i hq;have fU:=cJ kt ki XB;have he:=fU.eqs hq;obtain⟨lL,hu,hm⟩:=rW fU hfs;unfold QZ at he;rw [hu] at he;simp only [an,alS,aR,bne_iff_ne,ne_eq] at he;obtain⟨⟨U,Z⟩,h3⟩:=he;have hf:P.fieldsOf kt=lL:=by simp [Program.fieldsOf,hu]
           refine⟨fX,by rw [hf]; exact hu,U,?_⟩;rw [hf];exact GG cJ sD hm (fun f hf=>(h3 f hf).1)
          ·simp at sD
         ·simp at sD
       ·rw [lI,bB];exact LA hk ha0
    ·grind
  ·grind
theorem Aa [bI] {H:Hp} (r:bO E H w) {id t:Nat} {e:V} (hl:H.get id=some (.jJ e t)): ∃bL c',w.heap[(E.θ id).1]?=some (.map bL c')/\jL E.ro w.heap t (dec (e.den E.ρ)).l bL.toList:=
 (r.live id _ hl).2.1
theorem vL {ρ:Nat->Int} (e a:V):(GA e a).den ρ=((V.op .Kq e a).den ρ == (V.lit 0).den ρ):=by
 unfold GA;split
 ·split
  ·simp only [SB.den,V.den,fc.den,bB]
   grind
  ·rfl
 ·rfl
theorem N8 [bI] {tt:TT} (cJ:ew P tt) {s s':St} (r:bO E s.h w) (hp:bW E.ρ s.pc) {ty id t:Nat} {m k v:W} {e:V} {um uk:Value} {ok:Bool} (hm:VR E w.heap m um) (hk:VR E w.heap k uk) (mB:wG m s.h=some (id,e,t)) (h:(yV tt ty k ok e t s).leaf E.ρ=some (v,s')) :
 s'.bE=s.bE/\s'.h=s.h/\bW E.ρ s'.pc/\∃x,(Instr.lookup ty um uk ok).run P w= .ok x w/\VR E w.heap v x:=by
 obtain⟨rfl,hl⟩:=xh mB
 unfold yV at h;split at h
 ·grind [T.leaf]
 ·rename_i a ie P!;obtain⟨kt,et,hu,hT,kx,S8⟩:=Ab cJ hk P!;split at h
  ·grind [T.leaf]
  ·rename_i z hz;obtain⟨u0,z1,z2⟩:=zA (P:=P) (w:=w) (E:=E) kx hz;obtain⟨bL,c',g1,g2⟩:=Aa r hl;have hg:=eA (P:=P) g1 ad;simp only [VR] at hm;obtain⟨rfl,hid⟩:=hm;have hf:=DP (w:=w) hT S8 g2;obtain⟨fA,fk,U⟩:=cH hp h;rw [vL] at U;simp only [V.den,fc.den] at U;rcases hf with ⟨q1,q2,_,_⟩|⟨j,x,en,q1,q2,q3,q4,q5,_,_⟩
   ·rw [q1] at U;have:=bC U;simp only [ak] at this;obtain⟨rfl,rfl⟩:=this;refine⟨rfl,rfl,fk,(if ok then .tuple #[u0,.bool false] else u0),?_,?_⟩
    ·cases ok<;>simp [Instr.lookup,run_underlying hu,hg,lW hT S8,q2,z1]
    ·cases ok
     ·exact z2
     ·simp only [if_true,VR,cA];simp_all [z2,SB.den]
   ·rw [q1] at U;have:=bC U;simp only [ak] at this;obtain⟨rfl,rfl⟩:=this
    have EZ:VR E w.heap (LG (mapOf t).2 (.op .Df e a)) en.val:=by refine q3.cell ?_;simp only [V.den,fc.den,bB,q1,az]
    refine⟨rfl,rfl,fk,(if ok then .tuple #[en.val,.bool true] else en.val),?_,?_⟩
    ·cases ok<;>simp [Instr.lookup,run_underlying hu,hg,lW hT S8,q4]
    ·cases ok
     ·grind
     ·simp only [if_true,VR,cA]
      grind [SB.den]
theorem Tv [bI] {tt:TT} (cJ:ew P tt) {s s':St} (r:bO E s.h w) {ty id t:Nat} {m k x v:W} {e:V} {um uk ux:Value} (hm:VR E w.heap m um) (hk:VR E w.heap k uk) (hx:VR E w.heap x ux) (mB:wG m s.h=some (id,e,t)) (h:(N4 tt ty id k x e t s).leaf E.ρ=some (v,s')) :
 s'.bE=s.bE/\s'.pc=s.pc/\v=W.undef/\∃w',(Instr.mapUpdate ty um uk ux).run P w= .ok () w'/\eN E s.h w E s'.h w'/\bO E s'.h w':=by
 obtain⟨rfl,hl⟩:=xh mB
 unfold N4 at h;split at h
 ·grind [T.leaf]
 ·rename_i a ie P!;obtain⟨kt,et,hu,hT,kx,S8⟩:=Ab cJ hk P!;split at h
  ·grind [T.leaf]
  ·rename_i b Y;have:=bC h;simp only [ak] at this;obtain⟨rfl,rfl⟩:=this;have hrx:=LA hx Y;obtain⟨bL,c',g1,g2⟩:=Aa r hl;have hg:=eA (P:=P) g1 ad;simp only [VR] at hm;obtain⟨rfl,hid⟩:=hm;refine⟨rfl,rfl,rfl,?_⟩
   have oT:dec ((V.op .xf e (ey a b)).den E.ρ)=dL (ib (dec (e.den E.ρ)).l (dec (a.den E.ρ)) (dec (b.den E.ρ))):=by simp only [ey,V.den,fc.den,bB]
   rcases DP (w:=w) hT S8 g2 with ⟨q1,q2,q3,_⟩|⟨j,y,en,q1,q2,q3,q4,q5,q6,_⟩
   ·refine⟨_,?_,fZ r hl (.jJ (.op .xf e (ey a b)) t) (.map (bL.push { key:=uk,val:=ux,born:=c' }) (c'+1)) ?_⟩
    ·simp [Instr.mapUpdate,run_underlying hu,hg,lW hT S8,q2,gj (P:=P) g1]
    ·intro h' hh kp;simp only [OR];refine⟨_,_,hh,?_⟩;rw [oT,bM,q3,Array.toList_push];exact jL.push (S8.bX kp.ro kp.AW) (hrx.bX kp.ro kp.AW) (g2.bX kp.ro kp.AW)
   ·have hkt:(Instr.keyThatStays (((bL[j]?).map (·.key)).getD uk) uk).run P w= .ok uk w:=by
     have q2':=q2;rw [bu] at q2';simp only [q2',alE,az,Instr.keyThatStays];simp_all
    refine⟨_,?_,fZ r hl (.jJ (.op .xf e (ey a b)) t) (.map (bL.modify j fun e=>{ e with key:=uk,val:=ux }) c') ?_⟩
    ·simp [Instr.mapUpdate,run_underlying hu,hg,lW hT S8,q4,hkt,gj (P:=P) g1]
    ·intro h' hh kp;simp only [OR];refine⟨_,_,hh,?_⟩;rw [oT,bM,q6,xg bL j en _ q2];exact jL.set (S8.bX kp.ro kp.AW) (hrx.bX kp.ro kp.AW) (g2.bX kp.ro kp.AW) q2
theorem GW [bI] {tt:TT} (cJ:ew P tt) {s s':St} (r:bO E s.h w) (hp:bW E.ρ s.pc) {ty:Nat} {m k x v:W} {um uk ux:Value} (hm:VR E w.heap m um) (hk:VR E w.heap k uk) (hx:VR E w.heap x ux) (h:(IM tt ty m k x s).leaf E.ρ=some (v,s')) :
 s'.bE=s.bE/\bW E.ρ s'.pc/\v=W.undef/\∃w' E',(Instr.mapUpdate ty um uk ux).run P w= .ok () w'/\eN E s.h w E' s'.h w'/\bO E' s'.h w':=by
 unfold IM at h;obtain⟨vs,U,fA,E1,fk,f,q,g⟩:=pd rfl r hp h;have hρ:=f.ρ;rw [<- hρ] at fk g;have hv:=q [ux] (by simp only [cA]; exact⟨ux,[],rfl,hx,rfl⟩);split at g
 ·rename_i x1;simp only [cA] at hv;obtain⟨u1,us1,e1,hx1,e2⟩:=hv;subst e2;simp only [List.cons.injEq,and_true] at e1;subst e1;split at g
  ·rename_i id e t mB
   obtain⟨a1,a2,a3,w',a4,a5,a6⟩:=Tv cJ (s:={ s with h:=U,pc:=fA }) f.rel (VR.bX (f.ek.keeps r) _ _ hm) (VR.bX (f.ek.keeps r) _ _ hk) hx1 mB g;exact⟨a1,by rw [a2,<- hρ]; exact fk,a3,w',E1,a4,f.ek.trans a5,a6⟩
  grind [T.leaf]
 grind [T.leaf]
theorem TA [bI] {tt:TT} (cJ:ew P tt) {s s':St} (r:bO E s.h w) {ty id t ts:Nat} {m k v:W} {e:V} {um uk:Value} (hm:VR E w.heap m um) (hk:VR E w.heap k uk) (mB:wG m s.h=some (id,e,t)) (h:(Oe tt ty id k e t s).leaf E.ρ=some (v,s')) (tr:Nat) :
 s'.bE=s.bE/\s'.pc=s.pc/\v=W.undef/\∃w',(Builtin.delete_ #[ty,ts] tr #[um,uk]).run P w= .ok (.tuple #[]) w'/\eN E s.h w E s'.h w'/\bO E s'.h w':=by
 obtain⟨rfl,hl⟩:=xh mB
 unfold Oe at h;split at h
 ·grind [T.leaf]
 ·rename_i a ie P!;obtain⟨kt,et,hu,hT,kx,S8⟩:=Ab cJ hk P!;have:=bC h;simp only [ak] at this;obtain⟨rfl,rfl⟩:=this;obtain⟨bL,c',g1,g2⟩:=Aa r hl;have hg:=eA (P:=P) g1 ad;simp only [VR] at hm;obtain⟨rfl,hid⟩:=hm;refine⟨rfl,rfl,rfl,?_⟩
  have oT:dec ((V.op .Kr e a).den E.ρ)=dL (EY (dec (e.den E.ρ)).l (dec (a.den E.ρ))):=by simp only [V.den,fc.den,bB]
  rcases DP (w:=w) hT S8 g2 with ⟨q1,q2,_,q3⟩|⟨j,y,en,q1,q2,q3,q4,q5,_,q6⟩
  ·refine⟨_,?_,fZ r hl (.jJ (.op .Kr e a) t) (.map bL c') ?_⟩
   ·simp [Builtin.delete_,run_underlying hu,hg,lW hT S8,q2,gj (P:=P) g1]
   ·intro h' hh kp;simp only [OR];refine⟨_,_,hh,?_⟩;rw [oT,bM,q3];exact g2.bX kp.ro kp.AW
  ·refine⟨_,?_,fZ r hl (.jJ (.op .Kr e a) t) (.map (bL.eraseIdxIfInBounds j) c') ?_⟩
   ·simp [Builtin.delete_,run_underlying hu,hg,lW hT S8,q4,gj (P:=P) g1]
   ·intro h' hh kp;simp only [OR];refine⟨_,_,hh,?_⟩;have ei:j<bL.size:=by have:=(aW.1 q2).1; simpa using this
    have:(bL.eraseIdxIfInBounds j).toList=bL.toList.eraseIdx j:=by simp_all
    rw [this,oT,bM,q6];exact jL.erase (g2.bX kp.ro kp.AW)
end
section
variable {P:Program} {E:En} {w:World}
theorem DS {m:W} {h:Hp} {id t:Nat} {e:V} {eS:List Nat} {ov:List (V×W)} (hm:DT m h=some (id,e,t,eS,ov)):m= .map id/\h.get id=some (.qS e t eS ov):=by
 unfold DT at hm;split at hm
 ·split at hm
  ·rename_i o ho;split at hm
   ·simp only [ag,ak] at hm;obtain⟨rfl,rfl,rfl,rfl,rfl⟩:=hm;exact⟨rfl,ho⟩
   ·simp at hm
  ·simp at hm
 ·simp at hm
theorem GS {tt:TT} (cJ:ew P tt) {h:Array Obj} {ty:Nat} {k:W} {uk:Value} {x:V} {ie:TI} (hk:VR E h k uk) (hm:IE tt ty k=some (x,ie)) :
 ∃kt et dt,P.underlying ty=some (.map kt et)/\P.underlying kt=some dt/\BS dt (.int .i64)/\l7 P et ie/\uk= .int .i64 (x.den E.ρ):=by
 unfold IE at hm;split at hm
 ·simp at hm
 ·rename_i ti fU;split at hm
  ·rename_i kt et yC;split at hm
   ·simp at hm
   ·rename_i ki XB;split at hm
    ·rename_i sD;split at hm
     ·simp at hm
     ·rename_i ie' kx;split at hm
      ·split at hm
       ·rename_i kk y aku;simp only [ag,ak] at hm;obtain⟨rfl,rfl⟩:=hm;subst aku;simp only [VR] at hk;exact⟨kt,et,_,rX (cJ ty ti fU) yC,oo (cJ kt ki XB) sD,⟨_,rfl⟩,cJ et ie' kx,hk⟩
       ·simp at hm
      ·simp at hm
    ·simp at hm
  ·simp at hm
theorem rb (ρ:Nat->Int) (x:V):dec ((mS x).den ρ)= .i (x.den ρ):=by
 unfold mS;split
 ·simp only [V.den,bB]
 ·simp only [V.den,fc.den,bB]
theorem xw {α:Type} {ρ:Nat->Int} {x:V} {k:Option W->St->T α} {a:α}: ∀{ov:List (V×W)} {s:St},bW ρ s.pc->(sQ x ov s k).leaf ρ=some a->
 ∃dY,bW ρ dY/\(k (lE ρ (x.den ρ) ov) { s with pc:=dY }).leaf ρ=some a
 |[],s,hp,h=> ⟨s.pc,hp,h⟩
 |(y,v)::l,s,hp,h=>by
  simp only [sQ] at h;split at h
  ·rename_i he;have:=cO _ _ he;subst this;refine⟨s.pc,hp,?_⟩;simp only [lE,if_true];exact h
  ·obtain⟨fA,fk,U⟩:=cH hp h;rw [gv] at U;by_cases he:x.den ρ=y.den ρ
   ·simp only [he,beq_self_eq_true] at U;refine⟨fA,fk,?_⟩;simp only [lE,ah he.symm];exact U
   ·have hf:(x.den ρ == y.den ρ)=false:=by simp [he]
    rw [hf] at U;obtain⟨jt,jk,Z⟩:=xw (s:={ s with pc:=fA }) fk U;refine⟨jt,jk,?_⟩;simp only [lE,af (fun q=>he (Eq.symm q))];exact Z
theorem GQ {α:Type} {ρ:Nat->Int} {x:V} {v:W} {a:α}: ∀{ov:List (V×W)} {s:St} {k:Option (List (V×W))->St->T α},bW ρ s.pc->(ID x v ov s k).leaf ρ=some a->
 ∃dY,bW ρ dY/\((lE ρ (x.den ρ) ov=none/\(k none { s with pc:=dY }).leaf ρ=some a)\/
  ∃iD,(∃u,lE ρ (x.den ρ) ov=some u)/\((∀n,lE ρ n iD=if n=x.den ρ then some v else lE ρ n ov)/\iD.map (·.1)=ov.map (·.1))/\(k (some iD) { s with pc:=dY }).leaf ρ=some a)
 |[],s,k,hp,h=> ⟨s.pc,hp,.inl ⟨rfl,h⟩⟩
 |(y,u)::l,s,k,hp,h=>by
  simp only [ID] at h
  have here:x.den ρ=y.den ρ->(∃u',lE ρ (x.den ρ) ((y,u)::l)=some u')/\((∀n,lE ρ n ((y,v)::l)=if n=x.den ρ then some v else lE ρ n ((y,u)::l))/\((y,v)::l).map (·.1)=((y,u)::l).map (·.1)):=by
   intro he;refine⟨⟨u,by simp only [lE,ah he.symm]⟩,fun n=>?_,rfl⟩;simp only [lE];by_cases hn:n=x.den ρ
   ·rw [ah hn,ah (by rw [hn,he])]
   ·rw [af hn,af (fun q=>hn (by rw [he,q])),af (fun q=>hn (by rw [he,q]))]
  split at h
  ·rename_i he;have:=cO _ _ he;subst this;exact⟨s.pc,hp,.inr ⟨_,(here rfl).1,(here rfl).2,h⟩⟩
  ·obtain⟨fA,fk,U⟩:=cH hp h;rw [gv] at U;by_cases he:x.den ρ=y.den ρ
   ·have ht:(x.den ρ == y.den ρ)=true:=by simp [he]
    rw [ht] at U;exact⟨fA,fk,.inr ⟨_,(here he).1,(here he).2,U⟩⟩
   ·have hf:(x.den ρ == y.den ρ)=false:=by simp [he]
    rw [hf] at U;obtain⟨jt,jk,Z⟩:=GQ (s:={ s with pc:=fA }) fk U;have fX: ¬y.den ρ=x.den ρ:=fun q=>he q.symm;refine⟨jt,jk,?_⟩;rcases Z with ⟨g1,g2⟩|⟨iD,⟨u',g1⟩,⟨g2,g4⟩,g3⟩
    ·exact .inl ⟨by simp only [lE,af fX]; exact g1,g2⟩
    ·refine .inr ⟨_,⟨u',by simp only [lE,af fX]; exact g1⟩,⟨fun n=>?_,by simp only [aw,g4]⟩,g3⟩;simp only [lE];by_cases hy:y.den ρ=n
     ·rw [ah hy,ah hy,af (fun q=>fX (by rw [hy,q]))]
     ·rw [af hy,af hy,g2 n]
theorem yN {h:Array Obj} {B t:Nat} {eS:List Nat} {ov:List (V×W)} {dt:TypeDesc} (hd:BS dt (.int .i64)) (n:Int): ∀{ds:List D} {bL:List MapEntry} {i:Nat},eJ E h B t eS ov ds bL->
 (ec ds (.i n)=none/\D.i n∉ds.map jc/\Instr.findNow dt (.int .i64 n) bL i=some none/\(∀v,ib ds (.i n) v=ds++ [.p (.i n) v]))\/
 (∃j x e,ec ds (.i n)=some x/\D.i n∈ds.map jc/\bL[j]?=some e/\ds[j]?=some (.p (.i n) x)/\e.key= .int .i64 n/\(match lE E.ρ n ov with |some v=>VR E h v e.val|none=>pA E h B t eS (.i n) x e.val)/\
  Instr.findNow dt (.int .i64 n) bL i=some (some (i+j,e.val))/\(∀n',Instr.sameBits (n'+1) e.key (.int .i64 n)=true)/\(∀v,ib ds (.i n) v=ds.set j (.p (.i n) v)))
 |[],bL,i,he=>by simp only [eJ] at he;subst he;exact .inl ⟨rfl,ad,by simp [Instr.findNow],fun _=>rfl⟩
 |d::ds,bL,i,he=>by
  obtain⟨e,r,m,rfl,U,Z,h3,h4⟩:=he;obtain⟨g1,g2⟩:=yp (ro:=E.ro) (h:=h) (c:=.int .i64) (.inl ⟨_,rfl⟩) hd (.int .i64 n) (.int .i64 m);have hk:jc d= .i m:=by rw [U]; rfl
  rw [<- Z] at g1 g2;by_cases yD:D.i m=D.i n
  ·have hmn:m=n:=by simpa using yD
   subst hmn;have S':Instr.sameNow dt (.int .i64 m) e.key=some true:=by rw [g1,decide_eq_true rfl]
   refine .inr ⟨0,E8 d,e,by simp only [ec,hk,if_true],by simp [hk],rfl,by rw [<- U]; rfl,Z,h3,by simp [Instr.findNow,S'],g2 rfl,fun v=>by simp only [ib,hk,if_true,amn]⟩
  ·have S':Instr.sameNow dt (.int .i64 n) e.key=some false:=by rw [g1,decide_eq_false (fun q=>yD q.symm)]
   have fX: ¬jc d= .i n:=by rw [hk]; exact yD
   rcases yN (i:=i+1) hd n h4 with ⟨q1,q2,q3,q4⟩|⟨j,x,e',q1,q2,q3,q4,q5,q6,q7,q8,q9⟩
   ·refine .inl ⟨by simp only [ec,af fX,q1],?_,by simp [Instr.findNow,S',q3],fun v=>by simp only [ib,af fX,q4,aP]⟩;simp only [aw,ax,not_or];exact⟨fun q=>fX q.symm,q2⟩
   ·refine .inr ⟨j+1,x,e',by simp only [ec,af fX,q1],by simp only [aw,ax]; exact .inr q2,by simpa using q3,by simpa using q4,q5,q6,?_,q8,fun v=>by simp only [ib,af fX,q9,amo]⟩;simp only [Instr.findNow,S',q7]; congr 3; omega
theorem HY {ρ:Nat->Int} {n:Int} {v:W}: ∀{ov:List (V×W)},lE ρ n ov=some v->n∈ov.map fun p=>p.1.den ρ
 |[],h=>by simp [lE] at h
 |(x,u)::l,h=>by
  simp only [lE] at h;simp only [aw,ax];split at h
  ·rename_i he; exact .inl he.symm
  ·exact .inr (HY h)
theorem HX {ρ:Nat->Int} {n:Int}: ∀{ov:List (V×W)},lE ρ n ov=none->n∉ov.map fun p=>p.1.den ρ
 |[],_=>by simp
 |(x,u)::l,h=>by
  simp only [lE] at h;simp only [aw,ax,not_or];split at h
  ·simp at h
  ·rename_i he; exact⟨fun q=>he q.symm,HX h⟩
theorem zr.at {ρ:Nat->Int} {ds:List D} {ov:List (V×W)} (h:zr ρ ds ov) {n:Int} {v:W} (hv:lE ρ n ov=some v):D.i n∈ds.map jc:=by obtain⟨p,hp,he⟩:=aT.1 (HY hv);rw [<- he];exact h.2.1 p hp
theorem yO [bI] {H:Hp} (r:bO E H w) {id t:Nat} {e:V} {eS:List Nat} {ov:List (V×W)} (hl:H.get id=some (.qS e t eS ov)) :
 zr E.ρ (dec (e.den E.ρ)).l ov/\∃bL c',w.heap[(E.θ id).1]?=some (.map bL c')/\eJ E w.heap (E.θ id).1 t eS ov (dec (e.den E.ρ)).l bL.toList:=
 (r.live id _ hl).2.1
theorem N7 [bI] {tt:TT} (cJ:ew P tt) {s s':St} (r:bO E s.h w) (hp:bW E.ρ s.pc) {ty id t:Nat} {eS:List Nat} {ov:List (V×W)} {m k v:W} {e:V} {um uk:Value} {ok:Bool} (hm:VR E w.heap m um) (hk:VR E w.heap k uk) (mB:DT m s.h=some (id,e,t,eS,ov)) (h:(yU tt ty k ok e ov s).leaf E.ρ=some (v,s')) :
 s'.bE=s.bE/\s'.h=s.h/\bW E.ρ s'.pc/\∃x,(Instr.lookup ty um uk ok).run P w= .ok x w/\VR E w.heap v x:=by
 obtain⟨rfl,hl⟩:=DS mB
 unfold yU at h;split at h
 ·simp [T.leaf] at h
 ·rename_i x ie P!;obtain⟨kt,et,dt,hu,xr,jM,kx,rfl⟩:=GS cJ hk P!;split at h
  ·simp [T.leaf] at h
  ·rename_i z hz;obtain⟨u0,z1,z2⟩:=zA (P:=P) (w:=w) (E:=E) kx hz;obtain⟨g0,bL,c',g1,g2⟩:=yO r hl;have hg:=eA (P:=P) g1 ad;simp only [VR] at hm;obtain⟨rfl,hid⟩:=hm;have hf:=yN (i:=0) jM (x.den E.ρ) g2;obtain⟨fA,fk,U⟩:=xw hp h
   cases ho:lE E.ρ (x.den E.ρ) ov with
   |some v1=>
    rw [ho] at U;have:=bC U;simp only [ak] at this;obtain⟨rfl,rfl⟩:=this;rcases hf with ⟨q1,q2,_,_⟩|⟨j,y,en,q1,q2,q3,_,_,q6,q7,_,_⟩
    ·exact absurd (g0.at ho) q2
    ·rw [ho] at q6;refine⟨rfl,rfl,fk,(if ok then .tuple #[en.val,.bool true] else en.val),?_,?_⟩
     ·cases ok<;>simp [Instr.lookup,run_underlying hu,hg,eB xr jM,fm xr q7]
     ·cases ok
      ·exact q6
      ·simp only [if_true,VR,cA];exact⟨[en.val,.bool true],rfl,_,_,rfl,q6,_,_,rfl,by simp [SB.den],rfl⟩
   |none=>
    rw [ho] at U;obtain⟨jt,jk,Z⟩:=cH fk U;rw [vL] at Z;simp only [V.den,fc.den,rb] at Z;rcases hf with ⟨q1,_,q2,_⟩|⟨j,y,en,q1,_⟩
    ·rw [q1] at Z;have:=bC Z;simp only [ak] at this;obtain⟨rfl,rfl⟩:=this;refine⟨rfl,rfl,jk,(if ok then .tuple #[u0,.bool false] else u0),?_,?_⟩
     ·cases ok<;>simp [Instr.lookup,run_underlying hu,hg,eB xr jM,fm xr q2,z1]
     ·cases ok
      ·exact z2
      ·simp only [if_true,VR,cA];exact⟨[u0,.bool false],rfl,_,_,rfl,z2,_,_,rfl,by simp [SB.den],rfl⟩
    ·rw [q1] at Z;simp [T.leaf] at Z
theorem xR [bI] {H:Hp} (r:bO E H w) {id:Nat} {o:dG} (hl:H.get id=some o) (ao:dG) (o':Obj)
 (ho: ∀h',h'[(E.θ id).1]?=some o'->fh E w.heap E h'->(∀B key,HdK E w.heap E h' B key)->OR E h' id ao) :
 eN E H w E (H.put id ao) { w with heap:=w.heap.setIfInBounds (E.θ id).1 o' }/\bO E (H.put id ao) { w with heap:=w.heap.setIfInBounds (E.θ id).1 o' }:=by
 have ff:=fF r hl
 have kX: ∀b,b≠(E.θ id).1->({ w with heap:=w.heap.setIfInBounds (E.θ id).1 o' }:World).heap[b]?=w.heap[b]?:=fun b Y=>by
  grind
 refine C2 r hl ao ad kX ⟨rfl,rfl,rfl⟩ (ho _ ?_ (jV r hl kX) fun B key=>r.Ti rfl (fun b _ hn=>kX b fun e=>hn id o hl e.symm) B key)
 grind
theorem eJ.set {h:Array Obj} {B t:Nat} {eS:List Nat} {ov iD:List (V×W)} {n:Int} {v:W} {ux:Value} (hx:VR E h v ux) (hv: ∀m,lE E.ρ m iD=if m=n then some v else lE E.ρ m ov): ∀{ds:List D} {bL:List MapEntry} {j:Nat} {e:MapEntry},
 (ds.map jc).Nodup->eJ E h B t eS ov ds bL->bL[j]?=some e->e.key= .int .i64 n->eJ E h B t eS iD ds (bL.set j { e with key:=.int .i64 n,val:=ux })
 |[],bL,j,e,_,he,hj,_=>by simp only [eJ] at he; subst he; simp at hj
 |d::ds,bL,0,e,Bg,he,hj,hk=>by
  obtain⟨e0,r,m,rfl,U,Z,h3,h4⟩:=he;simp at hj;subst hj;have hm:m=n:=by rw [Z] at hk; simpa using hk
  subst hm;simp only [amn];refine⟨_,r,m,rfl,U,rfl,?_,?_⟩
  ·rw [hv,ah rfl]; exact hx
  ·simp only [aw,al0] at Bg;have hk:jc d= .i m:=by rw [U]; rfl
   rw [hk] at Bg;exact eJ.other hv Bg.1 h4
 |d::ds,bL,j+1,e,Bg,he,hj,hk=>by
  obtain⟨e0,r,m,rfl,U,Z,h3,h4⟩:=he;simp only [amo];simp only [aw,al0] at Bg;have XC:jc d= .i m:=by rw [U]; rfl
  have XE:r[j]?=some e:=by simpa using hj
  refine⟨e0,_,m,rfl,U,Z,?_,eJ.set hx hv Bg.2 h4 XE hk⟩
  have fX:m≠n:=by rintro rfl;rw [XC] at Bg;exact Bg.1 (eJ.B9 h4 XE hk)
  rw [hv,af fX];exact h3
where
 eJ.other {h:Array Obj} {B t:Nat} {eS:List Nat} {ov iD:List (V×W)} {n:Int} {v:W} (hv: ∀m,lE E.ρ m iD=if m=n then some v else lE E.ρ m ov): ∀{ds:List D} {bL:List MapEntry},D.i n∉ds.map jc->eJ E h B t eS ov ds bL->eJ E h B t eS iD ds bL
 |[],_,_,he=>he
 |d::ds,_,hn,⟨e0,r,m,h0,U,Z,h3,h4⟩=>by
  simp only [aw,ax,not_or] at hn;have XC:jc d= .i m:=by rw [U]; rfl
  rw [XC] at hn;refine⟨e0,r,m,h0,U,Z,?_,eJ.other hv hn.2 h4⟩;rw [hv,af (fun q=>hn.1 (by rw [q]))];exact h3
 eJ.B9 {h:Array Obj} {B t:Nat} {eS:List Nat} {ov:List (V×W)} {n:Int}: ∀{ds:List D} {bL:List MapEntry} {j:Nat} {e:MapEntry},eJ E h B t eS ov ds bL->bL[j]?=some e->e.key= .int .i64 n->D.i n∈ds.map jc
 |[],bL,j,e,he,hj,_=>by simp only [eJ] at he; subst he; simp at hj
 |d::ds,bL,0,e,he,hj,hk=>by
  obtain⟨e0,r,m,rfl,U,Z,h3,h4⟩:=he;simp at hj;subst hj;rw [Z] at hk;have hm:m=n:=by simpa using hk
  subst hm;rw [U];simp [jc]
 |d::ds,bL,j+1,e,he,hj,hk=>by obtain⟨e0,r,m,rfl,U,Z,h3,h4⟩:=he;simp only [aw,ax];exact .inr (eJ.B9 h4 (by simpa using hj) hk)
theorem eJ.push {h:Array Obj} {B t:Nat} {eS:List Nat} {ov iD:List (V×W)} {n:Int} {v:W} {ux:Value} {c:Nat} {x:D} (hx:VR E h v ux) (hv: ∀m,lE E.ρ m iD=if m=n then some v else lE E.ρ m ov): ∀{ds:List D} {bL:List MapEntry},D.i n∉ds.map jc->eJ E h B t eS ov ds bL->
 eJ E h B t eS iD (ds++ [.p (.i n) x]) (bL++ [{ key:=.int .i64 n,val:=ux,born:=c }])
 |[],bL,_,he=>by simp only [eJ] at he;subst he;refine⟨_,[],n,rfl,rfl,rfl,?_,rfl⟩;rw [hv,ah rfl]; exact hx
 |d::ds,bL,hn,he=>by
  obtain⟨e0,r,m,rfl,U,Z,h3,h4⟩:=he;simp only [aw,ax,not_or] at hn;have XC:jc d= .i m:=by rw [U]; rfl
  rw [XC] at hn;simp only [aP];refine⟨e0,_,m,rfl,U,Z,?_,eJ.push hx hv hn.2 h4⟩;rw [hv,af (fun q=>hn.1 (by rw [q]))];exact h3
theorem Bo [bI] {tt:TT} (cJ:ew P tt) {s s':St} (r:bO E s.h w) (hp:bW E.ρ s.pc) {ty id t:Nat} {eS:List Nat} {ov:List (V×W)} {m k x v:W} {e:V} {um uk ux:Value} (hm:VR E w.heap m um) (hk:VR E w.heap k uk) (hx:VR E w.heap x ux) (mB:DT m s.h=some (id,e,t,eS,ov)) (h:(yT tt ty id k x e t eS ov s).leaf E.ρ=some (v,s')) :
 s'.bE=s.bE/\bW E.ρ s'.pc/\v=W.undef/\∃w',(Instr.mapUpdate ty um uk ux).run P w= .ok () w'/\eN E s.h w E s'.h w'/\bO E s'.h w':=by
 obtain⟨rfl,hl⟩:=DS mB
 unfold yT at h;split at h
 ·simp [T.leaf] at h
 ·rename_i a ie P!;obtain⟨kt,et,dt,hu,xr,jM,kx,rfl⟩:=GS cJ hk P!;obtain⟨g0,bL,c',g1,g2⟩:=yO r hl;have hg:=eA (P:=P) g1 ad;simp only [VR] at hm;obtain⟨rfl,hid⟩:=hm;have hf:=yN (i:=0) jM (a.den E.ρ) g2;obtain⟨fA,fk,U⟩:=GQ hp h;rcases U with ⟨ho,U⟩|⟨iD,⟨u',ho⟩,⟨hv,KO⟩,U⟩
  ·obtain⟨jt,jk,Z⟩:=cH fk U;rw [vL] at Z;simp only [V.den,fc.den,rb] at Z;rcases hf with ⟨q1,q0,q2,q3⟩|⟨j,y,en,q1,_⟩
   ·rw [q1] at Z;have:=bC Z;simp only [ak] at this;obtain⟨rfl,rfl⟩:=this;refine⟨rfl,jk,rfl,_,?_,xR r hl (.qS (.op .xf e (ey (mS a) (.eo (.i 0)))) t eS ((a,x)::ov)) (.map (bL.push { key:=.int .i64 (a.den E.ρ),val:=ux,born:=c' }) (c'+1)) ?_⟩
    ·simp [Instr.mapUpdate,run_underlying hu,hg,eB xr jM,fm xr q2,gj (P:=P) g1]
    ·intro h' hh kp hk
     have oT:dec ((V.op .xf e (ey (mS a) (.eo (.i 0)))).den E.ρ)=dL (ib (dec (e.den E.ρ)).l (.i (a.den E.ρ)) (.i 0)):=by simp only [ey,V.den,fc.den,bB,rb]
     have rT: ∀m,lE E.ρ m ((a,x)::ov)=if m=a.den E.ρ then some x else lE E.ρ m ov:=by
      intro m;simp only [lE];by_cases hm:a.den E.ρ=m
      ·rw [ah hm,ah hm.symm]
      ·rw [af hm,af (fun q=>hm q.symm)]
     simp only [OR];rw [oT,bM,q3];refine⟨⟨?_,fun p hp=>?_,?_⟩,_,_,hh,?_⟩
     ·rw [ani,List.nodup_append];refine⟨g0.1,ad,fun p hp q hq=>?_⟩;simp only [aw,amF,List.mem_singleton] at hq;rw [hq];intro eq;rw [eq] at hp;exact q0 hp
     ·rw [ani,alJ];rcases ax.1 hp with rfl|hp
      ·exact .inr (by simp [jc])
      ·exact .inl (g0.2.1 p hp)
     ·simp only [aw,al0];exact⟨HX ho,g0.2.2⟩
     ·rw [Array.toList_push];exact eJ.push (VR.bX kp _ _ hx) rT q0 (g2.bX kp fun _ _=>hk _ _)
   ·rw [q1] at Z;simp [T.leaf] at Z
  ·have:=bC U;simp only [ak] at this;obtain⟨rfl,rfl⟩:=this;rcases hf with ⟨_,q2,_,_⟩|⟨j,y,en,q1,q2,q3,q4,q5,q6,q7,q8,q9⟩
   ·exact absurd (g0.at ho) q2
   ·simp only [ay] at q7
    have hkt:(Instr.keyThatStays (((bL[j]?).map (·.key)).getD (.int .i64 (a.den E.ρ))) (.int .i64 (a.den E.ρ))).run P w= .ok (.int .i64 (a.den E.ρ)) w:=by have q3':=q3;rw [bu] at q3';simp only [q3',alE,az,Instr.keyThatStays];rw [ah (q8 9999)];rfl
    refine⟨rfl,fk,rfl,_,?_,xR r hl (.qS e t eS iD) (.map (bL.modify j fun e=>{ e with key:=.int .i64 (a.den E.ρ),val:=ux }) c') ?_⟩
    ·simp [Instr.mapUpdate,run_underlying hu,hg,eB xr jM,fm xr q7,hkt,gj (P:=P) g1]
    ·intro h' hh kp hk;simp only [OR];refine⟨⟨g0.1,fun p hp=>?_,?_⟩,_,_,hh,?_⟩
     ·have:p.1∈iD.map (·.1):=aT.2 ⟨p,hp,rfl⟩;rw [KO] at this;obtain⟨q,hq,he⟩:=aT.1 this;rw [<- he];exact g0.2.1 q hq
     ·have U:(iD.map fun p=>p.1.den E.ρ)=(iD.map (·.1)).map fun x=>x.den E.ρ:=by rw [amc]; rfl
      rw [U,KO,amc];exact g0.2.2
     ·rw [xg bL j en _ q3];exact eJ.set (VR.bX kp _ _ hx) hv g0.1 (g2.bX kp fun _ _=>hk _ _) q3 q5
end
section
variable {P:Program} {E:En} {w:World}
theorem WW [bI] {tt:TT} (cJ:ew P tt) {H:Hp} (r:bO E H w) {t e k:Nat} {i ie:TI} {k1 k2:IntKind} (hi:tt t=some i) (hk:i.kind= .slice e) (kx:tt e=some ie) (hz0:ie.zero.length=ie.size) (wH:0<ie.size) (sG:ie.bytes≠0) (DF:ie.bytes*k<=140737488355328) (lr:0<k) :
 ∃x w' E',(Instr.makeSlice t (.int k1 k) (.int k2 k)).run P w= .ok x w'/\eN E H w E' (H.new (.cells (dJ ie.zero k) e)) w'/\bO E' (H.new (.cells (dJ ie.zero k) e)) w'/\VR E' w'.heap (.slice H.fresh 0 k (.rest ie.size)) x:=by
 have fU:=cJ t i hi;have Xo:=cJ e ie kx;obtain⟨inf,z,g1,g2,g3,g4,g5⟩:=vH Xo;have hz:=eP (E:=E) (h:=w.heap) g5;have vJ:z.cells.size=ie.size:=by have:=hz.1.length; simp only [bj] at this; omega
 have hkb:k<=140737488355328:=by refine bk ?_ DF;exact Nat.le_mul_of_pos_left _ J
 have wn:IntKind.i64.wrap (k:Int)=(k:Int):=by rw [<- j6]; simp only [rF]; rw [ah (by constructor<;>omega)]
 have ai: ∀(q:IntKind) (x:Int) (w:World),(asInt (Value.int q x)).run P w= .ok x w:=fun _ _ _=>rfl
 have fX:z.cells.toList≠[]:=by
  intro hx;have T7:z.cells.size=0:=by have:=congrArg List.length hx; simpa using this
  omega
 have hzz:=tN z.cells fX k;rw [vJ] at hzz;obtain⟨gq,e1⟩ : ∃gq:Array Value,((Array.range (k*inf.size)).map (z.cells[·% z.cells.size]!))=gq:=⟨_,rfl⟩
 have e1':gq.toList=dJ z.cells.toList k:=by
  grind
 have e2:cA E w.heap (dJ ie.zero k) gq.toList:=by rw [e1']; exact lT hz.1 k
 have e3: ∀u∈gq.toList,u.oneCell'=true:=by rw [e1']; intro u hu; exact hz.2 u (lS hu)
 have gW:gq.size=k*ie.size:=by rw [<- bj,e1',iK,bj,vJ]
 refine⟨.slice (some ⟨w.heap.size,0,none⟩) k k,{ w with heap:=w.heap.push (.cells gq e) },E.ext H.fresh (w.heap.size,0) gq.size,?_,?_⟩
 ·have t1: ¬((k:Int)<0):=J
  have t2: ¬((inf.bytes:Int)*(k:Int) > 2 ^ 48):=by
   grind
  have t4: ¬((k:Int) > (k:Int)):=J
  have t5:(askRoom (k*inf.bytes)).run P w= .ok () w:=by
   have: ¬(k*inf.bytes > roomBytes):=by
    unfold roomBytes
    grind
   unfold askRoom;rw [af this];rfl
  have t6:(k:Int).toNat=k:=rfl
  have h0: ¬(k*inf.size=0):=by rw [g2];have:=amD lr wH;omega
  simp only [Instr.makeSlice,Sem.run_bind,run_underlying (eY fU hk),Result.andThen_ok,ai,sizeOf,typeInfo,zeroValue,run_program,g1,g4,Sem.run_pure,newRow,Sem.run_ite,wn,t1,t2,t4,t6,h0,decide_false,amN,aL,if_false];rw [t5,Result.andThen_ok,e1];rfl
 ·obtain⟨s1,s2⟩:=iy r gq 0 0 e e2 e3 (fun i u hu=>by rw [<- bu]; exact hu) J (w':={ w with heap:=w.heap.push (.cells gq e) }) rfl ⟨rfl,rfl,rfl⟩;refine⟨s1,s2,?_⟩;simp only [VR];refine⟨En.gn _ _ _ _,⟨w.heap.size,0,none⟩,k,rfl,au _,?_⟩;simp only [eF,En.ext_θ_new,En.ext_κ_new]
  grind
theorem N6 [bI] {tt:TT} (cJ:ew P tt) {s s':St} (r:bO E s.h w) (hp:bW E.ρ s.pc) {t:Nat} {l c v:W} {lu cu:Value} (hl:VR E w.heap l lu) (hc:VR E w.heap c cu) (h:(IP tt t l c s).leaf E.ρ=some (v,s')) :
 s'.bE=s.bE/\bW E.ρ s'.pc/\∃x w' E',(Instr.makeSlice t lu cu).run P w= .ok x w'/\eN E s.h w E' s'.h w'/\bO E' s'.h w'/\VR E' w'.heap v x:=by
 unfold IP at h;split at h
 ·rename_i k n;split at h
  ·rename_i k2 n2;split at h
   ·simp [T.leaf] at h
   ·rename_i hnn;have hnn:=cO _ _ hnn;subst hnn;simp only [VR] at hl hc;subst hl hc;split at h
    ·simp [T.leaf] at h
    ·rename_i i hi;split at h
     ·simp [T.leaf] at h
     ·rename_i o ho;split at h
      ·rename_i e hk;split at h
       ·simp [T.leaf] at h
       ·rename_i ie kx;split at h
        ·simp [T.leaf] at h
        ·rename_i z hz;split at h
         ·rename_i iV;obtain⟨ky,wH,sG,vJ⟩:=iV;obtain⟨fA,fk,U⟩:=cH hp h;split at U
          ·simp [T.leaf] at U
          ·rename_i t1;obtain⟨jt,jk,Z⟩:=cH (s:={ s with pc:=fA }) fk U;split at Z
           ·rename_i t2;split at Z
            ·rename_i v0 h0 hm;have:=bC Z;simp only [ak] at this;obtain⟨rfl,rfl⟩:=this;rw [gY,beq_iff_eq] at t2;simp only [V.den] at t2;rw [t2];obtain⟨x,w',E',q1,q2,q3,q4⟩:=uU (P:=P) cJ r (lu:=.int k 0) (cu:=.int k2 0) (by simp only [VR,V.den]) (by simp only [VR,V.den]) hm
             grind
            ·simp [T.leaf] at Z
           ·rename_i t2;obtain⟨T5,Iq,h3⟩:=cH (s:={ s with pc:=jt }) jk Z;split at h3
            ·rename_i t3;have:=bC h3;simp only [ak] at this;obtain⟨rfl,rfl⟩:=this;rw [dQ,decide_eq_false_iff_not] at t1;rw [gY,beq_eq_false_iff_ne] at t2;rw [dQ,decide_eq_true_eq] at t3;simp only [V.den] at t1 t2 t3;obtain⟨m,hm⟩ : ∃m:Nat,n.den E.ρ=(m:Int):=⟨(n.den E.ρ).toNat,J⟩;rw [hm] at t2 t3 ⊢;have lr:0<m:=J
             have DF:ie.bytes*m<=140737488355328:=by
              unfold qt at t3
              have U:m<=140737488355328 / ie.bytes:=by
               grind
              exact bk (Nat.mul_le_mul_left _ U) (Nat.mul_div_le _ _)
             obtain⟨x,w',E',q1,q2,q3,q4⟩:=WW (P:=P) (k1:=k) (k2:=k2) cJ r hi hk kx vJ wH sG DF lr;have hρ:=q2.ρ
             have hd:dec ((V.op .rep n z).den E'.ρ)=dL (List.replicate m (dec (z.den E'.ρ))):=by
              have:n.den E'.ρ=(m:Int):=by rw [hρ]; exact hm
              simp only [V.den,fc.den,bB,this,aZ]
             have hlen:(dec ((V.op .rep n z).den E'.ρ)).l.length=m:=by rw [hd,bM,al9]
             have hwz:py (rowOf o) (dec (z.den E'.ρ)):=s9 hz
             have Cf:(cN E'.ρ (.op .rep n z) o []).length=(dJ ie.zero m).length:=by unfold cN;rw [cD (jS _),hlen,iK,vJ,ky]
             have aes: ∀(q:Nat) (us:List Value),cA E' w'.heap (dJ ie.zero q) us->cA E' w'.heap (bG E'.ρ (rowOf o) [] (List.replicate q (dec (z.den E'.ρ))) 0) us:=by
              intro q
              induction q with
              |zero=>intro us h; exact h
              |succ q ih=> intro us h;simp only [dJ] at h;obtain⟨us1,us2,rfl,a,b⟩:=cA.split h;simp only [ang,bG,dW];rw [j7 _ 1 0];refine cA.append ?_ (ih _ b);rw [fT];simp only [V.den,bB];exact ta a hz
             have r2:=B6 (e1:=.op .rep n z) (t:=o) q3 ⟨by rw [hd,bM],fun d DE=>by
              rw [hd,bM] at DE;rw [anA DE]
              exact hwz,fun hq=>by rw [hq] at hlen; simp at hlen; omega⟩ Cf (fun us hu=>by
              unfold cN;rw [hd,bM]
              exact aes m us hu)
             refine⟨rfl,Iq,x,w',E',q1,q2.right (vA rfl rfl fun _=>rfl),r2,?_⟩;simp only [VR] at q4 ⊢;obtain⟨p1,a,cap,p2,p3,p4⟩:=q4;refine⟨p1,m,a,cap,by rw [cC,hlen],p2,p3,?_⟩
             grind
            ·simp [T.leaf] at h3
         ·simp [T.leaf] at h
      ·simp [T.leaf] at h
  ·simp [T.leaf] at h
 ·simp [T.leaf] at h
end
theorem Jo {α β:Type} (f:α->β) (xs:Array α):xs.map f=(xs.toList.map f).toArray:=by
 grind
def mO (P:Program) (R:Value->World->Prop):Result Next->Prop
 | .ok (.value u) w'=>R u w'
 | .ok (.enter f args) w'=>Calls P f args w' fun e w''=> ∃u,e= .returned u/\R u w''
 |_=>False
def kS (P:Program) (g:FuncId) (vals:Array Value) (w:World) (R:Value->World->Prop):Prop:=mO P R ((callFunc g vals).run P w)
def iE [bI] (P:Program) (g:FuncId) (f:List W->St->T (W×St)):Prop:=
 ∀(args:List W) (s:St) (E:En) (w:World) (vals:List Value) (v:W) (s':St),bO E s.h w->cA E w.heap args vals->bW E.ρ s.pc->(f args s).leaf E.ρ=some (v,s')->
  s'.bE=s.bE/\bW E.ρ s'.pc/\kS P g vals.toArray w (L1 E s w v s')
theorem yw {E:En} {h:Array Obj} {k:Nat} {e:V} {i:Nat} (he:e.den E.ρ=(i:Int)): ∀(ks:List IntKind) (j:Nat),
 cA E h (uu k e ks j) ((ks.zipIdx j).map fun p=> .int p.1 (E.ρ (1000+i*64+(k*8+p.2))))
 |[],j=>by simp [uu,cA]
 |kd::ks,j=>by simp only [uu,List.zipIdx_cons,aw];rw [bV];refine⟨_,_,rfl,?_,yw he ks (j+1)⟩;simp only [VR,V.den,he,aZ]
theorem Oa {P:Program} {E:En} {w:World} {tt:TT} (cJ:ew P tt) {pc:List (SB×Bool)} (hp:bW E.ρ pc) {t k:Nat} {ks:List IntKind} {ix v:W} {u ui:Value} (hx:VR E w.heap (.wi k ks) u) (yE:VR E w.heap ix ui)
 (h:IQ tt pc t k ks ix=some v): ∃r,(Instr.indexAt t u ui).run P w= .ok r w/\VR E w.heap v r:=by
 unfold IQ at h;split at h
 ·rename_i kd e;split at h
  ·rename_i ti fU;split at h
   ·rename_i el hk;have hu:=eY (cJ t ti fU) hk;split at h
    ·rename_i s hs;simp only [hU,aO] at hs;obtain⟨ie,kx,rfl⟩:=hs;split at h
     ·rename_i hc;split at h
      ·rename_i U Z;simp at h;subst h;have U:=gp hp U;have Z:=gp hp Z;rw [dQ,decide_eq_false_iff_not] at U;rw [dQ,decide_eq_true_eq] at Z;simp only [V.den,ami] at U Z;simp only [VR] at hx yE;subst yE;rcases hx with ⟨⟨x,cap,rfl⟩,h0⟩|⟨b,o,n,cap,rfl,g1,g2,g3,g4⟩
       ·omega
       ·obtain⟨i,hi⟩ : ∃i:Nat,e.den E.ρ=(i:Int):=⟨(e.den E.ρ).toNat,J⟩;have xH:i<n:=J
        refine⟨.pointer (some ⟨b,o+i*ie.size,none⟩),?_,?_⟩
        ·rw [hi];simp [Instr.indexAt,asIntOf,run_underlying hu,ep (cJ el ie kx),xH,eU]
        ·simp only [VR];refine⟨b,_,_,rfl,g3,yw hi ks 0,?_,?_⟩
         ·intro j u hj
          grind
         ·intro u hu';rw [aT] at hu';obtain⟨p,_,rfl⟩:=hu';rfl
      grind
     grind
    grind
   grind
  grind
 grind
def qOp (q:Bool):BinOp:=match q with
 |true=> .quo
 |false=> .rem
def D? (q:Bool) (k:IntKind) (x y:Int):Int:=match q with
 |true=>k.wrap (x.tdiv y)
 |false=>x.tmod y
theorem D! {E:En} {s s':St} {q:Bool} {k:IntKind} {e d:V} {v:W} (hp:bW E.ρ s.pc) (h:(adR s q k e d).leaf E.ρ=some (v,s')) :
 s'.bE=s.bE/\s'.h=s.h/\bW E.ρ s'.pc/\d.den E.ρ≠0/\∀h,VR E h v (.int k (D? q k (e.den E.ρ) (d.den E.ρ))):=by
 unfold adR at h;obtain⟨dY,fj,h3⟩:=cH hp h;rw [gv] at h3;split at h3
 ·grind [T.leaf]
 ·rename_i he;simp only [T.leaf,ag,ak] at h3;obtain⟨rfl,rfl⟩:=h3;simp only [V.den,beq_eq_false_iff_ne,ne_eq] at he;exact⟨rfl,rfl,fj,he,fun h=>by cases q<;>simp only [VR,V.den,D?]⟩
theorem SF {E:En} {h:Array Obj} {op:BinOp} {a b:W} {q:Bool} {k:IntKind} {e d:V} (hr:M5 op a b=some (q,k,e,d)) {u u':Value} (ha:VR E h a u) (Y:VR E h b u') :
 op=qOp q/\u= .int k (e.den E.ρ)/\u'= .int k (d.den E.ρ):=by
 unfold M5 at hr;split at hr
 ·rename_i q' hq
  have zu:op=qOp q':=by split at hq<;>simp only [ag,reduceCtorEq] at hq<;>subst hq<;>rfl
  cases a with
  |int k1 e1=>
   cases b with
   |int k2 e2=>
    simp only at hr;split at hr
    ·simp at hr
    ·split at hr
     ·rename_i hc;simp only [ag,ak] at hr;obtain⟨rfl,rfl,rfl,rfl⟩:=hr;simp only [VR] at ha Y;exact⟨zu,ha,by rw [Y,hc]⟩
     ·simp at hr
   |_=>simp at hr
  |_=>simp at hr
 ·simp at hr
theorem Fi {E:En} {Xq:Array Obj} {s s':St} {h:Option W} {hh:Option Value} {v:W} {k:Option W->St->T (W×St)} (hp:bW E.ρ s.pc) (ho:fV E Xq h hh) (H:(Hq s h k).leaf E.ρ=some (v,s')) :
 ∃dY h',bW E.ρ dY/\fV E Xq h' hh/\(k h' { s with pc:=dY }).leaf E.ρ=some (v,s'):=by
 unfold Hq at H;split at H
 ·rename_i e;obtain⟨dY,fj,h3⟩:=cH hp H;rw [gv] at h3;split at h3
  ·rename_i he;simp only [V.den,beq_iff_eq] at he;obtain⟨u,rfl,hu⟩:=ho;simp only [VR] at hu;refine⟨dY,some (.int .i64 (.lit 0)),fj,?_,h3⟩;exact⟨u,rfl,by simp only [VR,V.den]; rw [hu,he]⟩
  ·simp [T.leaf] at h3
 ·exact⟨s.pc,_,hp,ho,H⟩
def gX [bI] (P:Program) (call:eh):Prop:= ∀g,iE P g (call g)
theorem oC.next {P:Program} {o:Oper} {a:Act} {w:World} {R:Value->World->Prop} (h:mO P R ((execOp a.eval o).run P w)):oC P o a w R:=by
 intro K Q hk;unfold Oper.wp;generalize (execOp a.eval o).run P w=r at h
 cases r with
 |halt x w'=>exact h.elim
 |ok n w'=>
  cases n<;>first
   |exact h.elim
   |exact hk _ _ h
   |(exact Calls.mono h fun e w'' ⟨u,he,hr⟩=>by subst he; exact hk _ _ hr)
theorem EC {tt:TT} {t n:Nat} {ix:W} {e:V} (h:RG tt t ix=some (n,e)): ∃k ti el ie,ix= .int k e/\tt t=some ti/\ti.kind= .array n el/\tt el=some ie/\ie.size=1/\ie.agg=false:=by
 unfold RG at h;split at h
 all_goals grind
section
variable {P:Program} {E:En} {w:World} {s s':St} {o:Oper} {a:Act} {v:W}
theorem IZ [bI] {tt:TT} (cJ:ew P tt) (r:bO E s.h w) (hp:bW E.ρ s.pc) {b:Builtin} {ts:List Nat} {args:List W} {vals:List Value} (hv:cA E w.heap args vals) (ty:Nat) (cs:Array Bool)
 (h:(vR tt s b ts args).leaf E.ρ=some (v,s')):s'.bE=s.bE/\bW E.ρ s'.pc/\∃u w',(builtin b ts.toArray ty cs vals.toArray).run P w= .ok (.value u) w'/\L1 E s w v s' u w':=by
 unfold vR at h;split at h
 ·rename_i t x;obtain⟨e1,rfl⟩:=gz h;rw [bV] at hv;obtain⟨u,vs,rfl,hx,mG⟩:=hv;rw [gP] at mG;subst mG;obtain⟨y,U,Z⟩:=XY (ty:=ty) cJ r hx e1;exact⟨rfl,hp,y,w,by simp [builtin,U],E,eN.refl _ _ _,r,Z⟩
 ·rename_i t t2 id lo n t' y;rw [bV] at hv;obtain⟨u,vs,rfl,hx,mG⟩:=hv;rw [bV] at mG;obtain⟨u2,vs,rfl,hy,Gt⟩:=mG;rw [gP] at Gt;subst Gt;split at h
  ·rename_i hz;obtain⟨q1,q2,z,w',E',U,Z,h3,h4⟩:=Ll (ty:=ty) cJ r hp hz hx hy h;exact⟨q1,q2,z,w',by simp [builtin,U],E',Z,h3,h4⟩
  grind [T.leaf]
 ·rename_i t t2 x y _;rw [bV] at hv;obtain⟨u,vs,rfl,hx,mG⟩:=hv;rw [bV] at mG;obtain⟨u2,vs,rfl,hy,Gt⟩:=mG;rw [gP] at Gt;subst Gt;split at h
  ·rename_i O?;obtain⟨q1,q2,z,w',E',U,Z,h3,h4⟩:=I1 (ty:=ty) cJ r hp hx hy (fun hd=>by rw [hd,amN] at O?; exact KB hx O?) h;exact⟨q1,q2,z,w',by simp [builtin,U],E',Z,h3,h4⟩
  obtain⟨H,e1,rfl⟩:=oO h;obtain⟨z,w',E',U,Z,h3,h4⟩:=Lk (ty:=ty) cJ r hx hy e1;exact⟨rfl,hp,z,w',by simp [builtin,U],E',Z,h3,h4⟩
 ·rename_i t ts' m k;rw [bV] at hv;obtain⟨u,vs,rfl,hx,mG⟩:=hv;rw [bV] at mG;obtain⟨u2,vs,rfl,hy,Gt⟩:=mG;rw [gP] at Gt;subst Gt;split at h
  ·rename_i id e t' mB
   obtain⟨q1,q2,rfl,w',U,Z,h3⟩:=TA (ts:=ts') cJ r hx hy mB h ty;exact⟨q1,by rw [q2]; exact hp,.tuple #[],w',by simp [builtin,U],E,Z,h3,by simp only [W.undef,VR,cA]; exact⟨[],rfl,rfl⟩⟩
  obtain⟨dY,fj,h⟩:=pG hp h;obtain⟨H,e1,rfl,rfl⟩:=yb h;obtain⟨w',U,Z,h3⟩:=Lj (ts:=ts') cJ fj r hx hy e1 ty;exact⟨rfl,fj,.tuple #[],w',by simp [builtin,U],E,Z,h3,by simp only [W.undef,VR,cA]; exact⟨[],rfl,rfl⟩⟩
 ·rename_i t id n t';rw [bV] at hv;obtain⟨u,vs,rfl,hx,mG⟩:=hv;rw [gP] at mG;subst mG;obtain⟨q1,q2,rfl,w',E',U,Z,h3⟩:=Bp (ty:=ty) cJ r hp (Pb hx) h;exact⟨q1,q2,.tuple #[],w',by simp [builtin,U],E',Z,h3,by simp only [W.undef,VR,cA]; exact⟨[],rfl,rfl⟩⟩
 ·rename_i t id lo n t';rw [bV] at hv;obtain⟨u,vs,rfl,hx,mG⟩:=hv;rw [gP] at mG;subst mG;obtain⟨q1,q2,rfl,w',E',U,Z,h3⟩:=Bp (ty:=ty) cJ r hp hx h;exact⟨q1,q2,.tuple #[],w',by simp [builtin,U],E',Z,h3,by simp only [W.undef,VR,cA]; exact⟨[],rfl,rfl⟩⟩
 ·rename_i t x _ _;obtain⟨H,e1,rfl,rfl⟩:=yb h;rw [bV] at hv;obtain⟨u,vs,rfl,hx,mG⟩:=hv;rw [gP] at mG;subst mG;obtain⟨w',U,Z,h3⟩:=Oh (ty:=ty) cJ r hx e1;exact⟨rfl,hp,.tuple #[],w',by simp [builtin,U],E,Z,h3,by simp only [W.undef,VR,cA]; exact⟨[],rfl,rfl⟩⟩
 ·rename_i k e xs;rw [bV] at hv;obtain⟨u,vs,rfl,hx,mG⟩:=hv;simp only [VR] at hx;subst hx;obtain⟨q1,q2,q3,u,q4,q5⟩:=nd (P:=P) (w:=w) hp mG h;refine⟨q2,q3,u,w,?_,E,by rw [q1]; exact eN.refl _ _ _,by rw [q1]; exact r,q5⟩;simp only [aL,if_false] at q4;simp [builtin,Builtin.min_,q4]
 ·rename_i k e xs;rw [bV] at hv;obtain⟨u,vs,rfl,hx,mG⟩:=hv;simp only [VR] at hx;subst hx;obtain⟨q1,q2,q3,u,q4,q5⟩:=nd (P:=P) (w:=w) hp mG h;refine⟨q2,q3,u,w,?_,E,by rw [q1]; exact eN.refl _ _ _,by rw [q1]; exact r,q5⟩;simp only [if_true] at q4;simp [builtin,Builtin.max_,q4]
 grind [T.leaf]
theorem TB [bI] {tt:TT} (cJ:ew P tt) {call:eh} (hc:gX P call) (r:bO E s.h w) (sr:SR E w.heap s.bE a) (hp:bW E.ρ s.pc) {c:Call} (ho:o.op= .call c)
 (h:(IY tt call s c).leaf E.ρ=some (v,s')):jA P E s o a w v s':=by
 unfold IY at h;split at h
 ·grind [T.leaf]
 ·rename_i args abG;have hv:=IF sr abG;have aif:c.args.map a.eval=(c.args.toList.map a.eval).toArray:=Jo _ _;split at h
  ·rename_i b aeD;obtain⟨q1,q2,u,w',q3,q4⟩:=IZ cJ r hp hv o.type (c.args.map fun| .const _=>true|_=>false) h;refine⟨q1,q2,oC.value ?_ q4⟩;simp only [execOp,ho,resolve,aeD,Sem.run_bind,Sem.run_pure,Result.andThen_ok,invoke,aif];exact q3
  ·rename_i f aeD;split at h
   ·rename_i g fs cs hf;have hfv:=fS sr hf;simp only [VR] at hfv;obtain⟨us,ws,he,U,Z⟩:=hfv;obtain⟨q1,q2,q3⟩:=hc g _ s E w _ v s' r ((U.append hv).append Z) hp h;refine⟨q1,q2,oC.next ?_⟩;unfold kS at q3;simp only [execOp,ho,resolve,aeD,Sem.run_bind,he,Deferred.ofValue,Sem.run_pure,Result.andThen_ok,invoke,aif]
    grind
   grind [T.leaf]
  grind [T.leaf]
theorem ZH [bI] {α:Type} {E:En} {h:Array Obj} {v:W} {u:Value} {s:St} {k:W->St->T α} {r:α} (hp:bW E.ρ s.pc) (hv:VR E h v u) (hl:(ZI v s k).leaf E.ρ=some r) :
 ∃v' dY,bW E.ρ dY/\VR E h v' u/\(k v' { s with pc:=dY }).leaf E.ρ=some r:=by
 unfold ZI at hl;split at hl
 ·split at hl
  ·exact⟨_,s.pc,hp,hv,hl⟩
  ·obtain⟨fA,fk,U⟩:=cH hp hl;refine⟨_,fA,fk,?_,U⟩;simp only [VR,SB.den] at *;exact hv
 ·exact⟨_,s.pc,hp,hv,hl⟩
theorem QW [bI] {tt:TT} (cJ:ew P tt) {call:eh} (hc:gX P call) (r:bO E s.h w) (sr:SR E w.heap s.bE a) (hp:bW E.ρ s.pc) (h:(IN tt call s o.op).leaf E.ρ=some (v,s')):jA P E s o a w v s':=by
 obtain⟨dst,op,type,pos,after,guard⟩:=o;simp only at h;cases op<;>simp only [IN] at h<;>first |(simp [T.leaf] at h; done)|skip
 case move x=>
  obtain⟨u,U,Z⟩:=gk sr h;have:=bC Z;simp only [ak] at this;obtain⟨rfl,rfl⟩:=this;exact jA.pure hp r (u:=a.eval x) rfl U
 case assign x=>
  obtain⟨u,U,Z⟩:=gk sr h;have:=bC Z;simp only [ak] at this;obtain⟨rfl,rfl⟩:=this;exact jA.pure hp r (u:=a.eval x) rfl U
 case pick c x y=>
  obtain⟨cv,U,Z⟩:=gk sr h;split at Z
  ·rename_i cb;obtain⟨dY,fj,h3⟩:=cH hp Z;simp only [VR] at U;cases QM:cb.den E.ρ<;>rw [QM] at U h3
   ·simp only [aL,if_false] at h3;obtain⟨u,h4,h5⟩:=gk (s:={ s with pc:=dY }) sr h3;have:=bC h5;simp only [ak] at this;obtain⟨rfl,rfl⟩:=this;exact⟨rfl,fj,oC.value (u:=a.eval y) (by simp [execOp,U,asBool]) ⟨E,eN.refl _ _ _,r,h4⟩⟩
   ·simp only [if_true] at h3;obtain⟨u,h4,h5⟩:=gk (s:={ s with pc:=dY }) sr h3;have:=bC h5;simp only [ak] at this;obtain⟨rfl,rfl⟩:=this;exact⟨rfl,fj,oC.value (u:=a.eval x) (by simp [execOp,U,asBool]) ⟨E,eN.refl _ _ _,r,h4⟩⟩
  ·simp [T.leaf] at Z
 case alloc t=>
  split at h
  ·rename_i i hi;have:=bC h;simp only [ak] at this;obtain⟨rfl,rfl⟩:=this;obtain⟨inf,z,g1,g2,g3,g4,g5⟩:=vH (cJ t i hi);have hz:=eP (E:=E) (h:=w.heap) g5;obtain⟨s1,s2⟩:=iy r z.cells 0 0 t hz.1 hz.2 (fun i u hu=>by rw [<- bu]; exact hu) J (w':={ w with heap:=w.heap.push (.cells z.cells t) }) rfl ⟨rfl,rfl,rfl⟩;exact jA.heap hp (u:=.pointer (some ⟨w.heap.size,0,none⟩)) (by simp [execOp,Instr.alloc,zeroValue,typeInfo,g1,g4,newVar,newRow]) s1 s2 (yd r _ _ 0)
  ·simp [T.leaf] at h
 case box t x=>
  obtain⟨u,U,Z⟩:=gk sr h;split at Z
  ·rename_i wj;have:=bC Z;simp only [ak] at this;obtain⟨rfl,rfl⟩:=this;have L9:=U.cells wj;obtain⟨s1,s2⟩:=iy r (a.eval x).cells 0 0 t L9 (L9.rm wj) (fun i u hu=>by rw [<- bu]; exact hu) J (w':={ w with heap:=w.heap.push (.cells (a.eval x).cells t) }) rfl ⟨rfl,rfl,rfl⟩;exact jA.heap hp (u:=.pointer (some ⟨w.heap.size,0,none⟩)) (by simp [execOp,Instr.box,newVar,newRow]) s1 s2 (yd r _ _ 0)
  ·simp [T.leaf] at Z
 case build t parts=>
  split at h
  ·rename_i ps hps;obtain⟨e1,rfl⟩:=gz h;have hpr:=xy sr hps;obtain⟨x,U,Z⟩:=Oj (w:=w) (ps:=parts.map fun p=>(p.1,a.eval p.2)) cJ (by simpa using hpr) e1;exact jA.pure hp r (u:=x) (by simp [execOp,U]) Z
  ·simp [T.leaf] at h
 case buildSlice t len parts=>
  split at h
  ·rename_i ps hps;obtain⟨H,e1,rfl⟩:=oO h;have hpr:=xy sr hps;obtain⟨x,w',E',U,Z,h3,h4⟩:=BK (ps:=parts.map fun p=>(p.1,a.eval p.2)) cJ r (by simpa using hpr) e1;exact jA.heap hp (u:=x) (by simp [execOp,U]) Z h3 h4
  ·simp [T.leaf] at h
 case makeSlice t l c=>
  obtain⟨u,U,Z⟩:=gk sr h;split at Z
  ·rename_i cv hc;split at Z
   ·rename_i q hq;obtain⟨H,e1,rfl⟩:=oO Z;simp only [ag] at e1;subst e1;obtain⟨x,w',E',g1,g2,g3,g4⟩:=uU cJ r U (fS sr hc) hq;exact jA.heap hp (u:=x) (by simp [execOp,g1]) g2 g3 g4
   ·obtain⟨q1,q2,x,w',E',g1,g2,g3,g4⟩:=N6 cJ r hp U (fS sr hc) Z;exact⟨q1,q2,oC.value (by simp [execOp,g1]) ⟨E',g2,g3,g4⟩⟩
  ·simp [T.leaf] at Z
 case insert t m k x=>
  obtain⟨u,U,Z⟩:=gk sr h;split at Z
  ·rename_i kv xv hk hx;split at Z
   ·obtain⟨q1,q2,rfl,w',E',g1,g2,g3⟩:=GW (P:=P) cJ r hp U (fS sr hk) (fS sr hx) Z;exact⟨q1,q2,oC.skip (by simp [execOp,g1]) ⟨E',g2,g3,jN⟩⟩
   split at Z
   ·rename_i mB
    obtain⟨q1,q2,rfl,w',g1,g2,g3⟩:=Bo (P:=P) cJ r hp U (fS sr hk) (fS sr hx) mB Z;exact⟨q1,q2,oC.skip (by simp [execOp,g1]) ⟨E,g2,g3,jN⟩⟩
   obtain⟨dY,fj,Z⟩:=pG hp Z;obtain⟨H,e1,rfl,rfl⟩:=yb Z;obtain⟨w',g1,g2,g3⟩:=uT cJ fj r U (fS sr hk) (fS sr hx) e1;exact⟨rfl,fj,oC.skip (by simp [execOp,g1]) ⟨E,g2,g3,jN⟩⟩
  ·simp [T.leaf] at Z
 case load t x=>
  obtain⟨u,U,Z⟩:=gk sr h;split at Z
  ·obtain⟨q1,q2,q3,y,b,off,g1,g2,g3⟩:=N9 cJ r hp U Z;exact⟨q1,q3,oC.value (u:=y) (by simp [execOp,Instr.loadAt,g1,Instr.sureAddr,g2]) ⟨E,by rw [q2]; exact eN.refl _ _ _,by rw [q2]; exact r,g3⟩⟩
  obtain⟨e1,rfl⟩:=gz Z;obtain⟨y,b,off,g1,g2,g3⟩:=Au cJ r U e1;exact jA.pure hp r (u:=y) (by simp [execOp,Instr.loadAt,g1,Instr.sureAddr,g2]) g3
 case store t x y=>
  obtain⟨u,U,Z⟩:=gk sr h;split at Z
  ·rename_i yv hy;obtain⟨yv',dY,fj,Ny,Z⟩:=ZH hp (fS sr hy) Z;split at Z
   ·obtain⟨q1,q2,rfl,w',E',g1,g2,g3⟩:=Ld cJ (s:={ s with pc:=dY }) r fj U Ny Z;exact⟨q1,q2,oC.skip (by simp [execOp,g1]) ⟨E',g2,g3,jN⟩⟩
   obtain⟨H,e1,rfl,rfl⟩:=yb Z;obtain⟨w',g1,g2,g3⟩:=N2 cJ r U Ny e1;exact⟨rfl,fj,oC.skip (by simp [execOp,g1]) ⟨E,g2,g3,jN⟩⟩
  ·simp [T.leaf] at Z
 case nilCheck x=>
  obtain⟨u,U,Z⟩:=gk sr h;split at Z
  ·have:=bC Z;simp only [ak] at this;obtain⟨rfl,rfl⟩:=this;have Ua:=U;simp only [VR] at U;exact jA.pure hp r (u:=a.eval x) (by simp [execOp,U.1]) Ua
  ·have:=bC Z;simp only [ak] at this;obtain⟨rfl,rfl⟩:=this;have Ua:=U;simp only [VR] at U;obtain⟨b,off,us,hu,_⟩:=U;exact jA.pure hp r (u:=a.eval x) (by simp [execOp,hu]) Ua
  ·have:=bC Z;simp only [ak] at this;obtain⟨rfl,rfl⟩:=this;have Ua:=U;simp only [VR] at U;obtain⟨_,k,_,hu⟩:=U;exact jA.pure hp r (u:=a.eval x) (by simp [execOp,hu]) Ua
  ·simp [T.leaf] at Z
 case binOp bop t x y yt=>
  obtain⟨u,U,Z⟩:=gk sr h;split at Z
  ·rename_i yv hy;have Ny:=fS sr hy;split at Z
   ·rename_i xs;simp only [VR] at U;obtain⟨us,Gv,U⟩:=U;split at Z
    ·rename_i ys;simp only [VR] at Ny;obtain⟨vs,Gu,Ny⟩:=Ny;split at Z
     ·rename_i c T9;have:=bC Z;simp only [ak] at this;obtain⟨rfl,rfl⟩:=this;obtain⟨g1,g2,g3⟩:=D5 (w:=w) cJ U Ny T9 .eql x y;exact jA.pure hp r (u:=.bool (c.den E.ρ)) (by simp [execOp,Gv,Gu,g1,g2]) (by simp only [VR])
     ·simp [T.leaf] at Z
    ·rename_i ys;simp only [VR] at Ny;obtain⟨vs,Gu,Ny⟩:=Ny;split at Z
     ·rename_i c T9;have:=bC Z;simp only [ak] at this;obtain⟨rfl,rfl⟩:=this;obtain⟨g1,g2,g3⟩:=D5 (w:=w) cJ U Ny T9 .neq x y;exact jA.pure hp r (u:=.bool (!(c.den E.ρ))) (by simp [execOp,Gv,Gu,g1,g3]) (by simp only [VR,mT])
     ·simp [T.leaf] at Z
    ·simp [T.leaf] at Z
   ·split at Z
    ·rename_i e hna;obtain⟨q1,q2,q3,y',g1,g2,g3,g4⟩:=J? (P:=P) (w:=w) cJ hna U Ny hp Z;exact⟨q1,q3,oC.value (u:=y') (by simp [execOp,uX (P:=P) (w:=w) g3 g4,g1]) ⟨E,by rw [q2]; exact eN.refl _ _ _,by rw [q2]; exact r,g2⟩⟩
    split at Z
    ·rename_i qq k e d hrl;obtain⟨rfl,Nz,QA⟩:=SF hrl U Ny;obtain⟨q1,q2,q3,fX,q4⟩:=D! hp Z;refine⟨q1,q3,oC.value (u:=.int k (D? qq k (e.den E.ρ) (d.den E.ρ))) (w':=w) ?_ ⟨E,by rw [q2]; exact eN.refl _ _ _,by rw [q2]; exact r,q4 _⟩⟩;cases qq<;>simp [execOp,Nz,QA,binOp,Op.intDiv,fX,eqGuard,D?,qOp]
    split at Z
    ·rename_i x' y' hsp;obtain⟨q1,q2,q3,⟨y'',g1,g2⟩,g3,g4⟩:=Tu (P:=P) (w:=w) (t:=t) hp U Ny hsp Z;exact⟨q1,q3,oC.value (u:=y'') (by simp [execOp,uX (P:=P) (w:=w) g3 g4,g1]) ⟨E,by rw [q2]; exact eN.refl _ _ _,by rw [q2]; exact r,g2⟩⟩
    ·obtain⟨e1,rfl⟩:=gz Z;obtain⟨⟨y',g1,g2⟩,g3,g4⟩:=X0 (w:=w) cJ U Ny e1;exact jA.pure hp r (u:=y') (by simp [execOp,uX (P:=P) (w:=w) g3 g4,g1]) g2
  ·simp [T.leaf] at Z
 case unOp uop t x=>
  obtain⟨u,U,Z⟩:=gk sr h;obtain⟨e1,rfl⟩:=gz Z;obtain⟨y,g1,g2⟩:=V! (P:=P) (w:=w) U e1;exact jA.pure hp r (u:=y) (by simp [execOp,g1]) g2
 case convert sT dT x=>
  obtain⟨u,U,Z⟩:=gk sr h;split at Z
  ·obtain⟨q1,q2,y,w',E',g1,g2,g3,g4⟩:=Oi (P:=P) cJ r hp U Z;exact⟨q1,q2,oC.value (u:=y) (by simp [execOp,g1]) ⟨E',g2,g3,g4⟩⟩
  obtain⟨H,e1,rfl⟩:=oO Z;obtain⟨y,w',E',g1,g2,g3,g4⟩:=yY cJ r U e1;exact jA.heap hp (u:=y) (by simp [execOp,g1]) g2 g3 g4
 case makeFunc fn fs cs=>
  split at h
  ·rename_i f c hf T8;have:=bC h;simp only [ak] at this;obtain⟨rfl,rfl⟩:=this;have U:=IF sr hf;have Z:=IF sr T8;refine jA.pure hp r (u:=.func fn (fs.map a.eval) (cs.map a.eval)) (by simp [execOp,Instr.makeFunc]) ?_;simp only [VR];have m1:fs.map a.eval=(fs.toList.map a.eval).toArray:=Jo _ _;have m2:cs.map a.eval=(cs.toList.map a.eval).toArray:=Jo _ _;exact⟨_,_,by rw [m1,m2],U,Z⟩
  ·simp [T.leaf] at h
 case makeMap t res=>
  split at h
  ·split at h
   ·rename_i m hm;split at h
    ·have:=bC h;simp only [ak] at this;obtain⟨rfl,rfl⟩:=this
     obtain⟨s1,s2⟩:=oQ r (.map #[] 0) (.qS (.eo (.i 0)) (m-100) (XX tt t) []) 0 (w':={ w with heap:=w.heap.push (.map #[] 0) }) rfl ⟨rfl,rfl,rfl⟩ (by
      simp only [OR,En.ext_θ_new]
      exact⟨⟨by simp [V.den,bB,D.l],ad,ad⟩,#[],0,ad,by simp [eJ,V.den,bB,D.l]⟩)
     exact jA.heap hp (u:=.map (some w.heap.size)) (by simp [execOp,Instr.makeMap]) s1 s2 (by simp only [VR,En.ext_θ_new]; exact⟨trivial,En.gn _ _ _ _⟩)
    have:=bC h;simp only [ak] at this;obtain⟨rfl,rfl⟩:=this
    obtain⟨s1,s2⟩:=oQ r (.map #[] 0) (.jJ (.eo (.i 0)) m) 0 (w':={ w with heap:=w.heap.push (.map #[] 0) }) rfl ⟨rfl,rfl,rfl⟩ (by
     simp only [OR,En.ext_θ_new]
     exact⟨#[],0,ad,by simp [jL,V.den,bB,D.l]⟩)
    exact jA.heap hp (u:=.map (some w.heap.size)) (by simp [execOp,Instr.makeMap]) s1 s2 (by simp only [VR,En.ext_θ_new]; exact⟨trivial,En.gn _ _ _ _⟩)
   have:=bC h;simp only [ak] at this;obtain⟨rfl,rfl⟩:=this
   obtain⟨s1,s2⟩:=oQ r (.map #[] 0) (.map [] 1) 0 (w':={ w with heap:=w.heap.push (.map #[] 0) }) rfl ⟨rfl,rfl,rfl⟩ (by
    simp only [OR,En.ext_θ_new]
    exact⟨#[],0,ad,by simp [eC],rfl,rfl⟩)
   exact jA.heap hp (u:=.map (some w.heap.size)) (by simp [execOp,Instr.makeMap]) s1 s2 (by simp only [VR,En.ext_θ_new]; exact⟨trivial,En.gn _ _ _ _⟩)
  ·simp [T.leaf] at h
 case slice t x lo hi mx=>
  obtain⟨u,U,Z⟩:=gk sr h;split at Z
  ·rename_i l hh m hl Q' hm;split at Z
   ·obtain⟨q1,q2,q3,y,g1,g2⟩:=Of (w:=w) cJ hp U (eu sr hl) (eu sr Q') (eu sr hm) Z;exact⟨q1,q3,oC.value (u:=y) (by simp [execOp,g1]) ⟨E,by rw [q2]; exact eN.refl _ _ _,by rw [q2]; exact r,g2⟩⟩
   ·obtain⟨q1,q2,q3,y,g1,g2⟩:=DV cJ r hp (Pb U) (eu sr hl) (eu sr Q') (eu sr hm) Z;exact⟨q1,q3,oC.value (u:=y) (by simp [execOp,g1]) ⟨E,by rw [q2]; exact eN.refl _ _ _,by rw [q2]; exact r,g2⟩⟩
   ·obtain⟨q1,q2,q3,y,g1,g2⟩:=DV cJ r hp U (eu sr hl) (eu sr Q') (eu sr hm) Z;exact⟨q1,q3,oC.value (u:=y) (by simp [execOp,g1]) ⟨E,by rw [q2]; exact eN.refl _ _ _,by rw [q2]; exact r,g2⟩⟩
   ·obtain⟨q1,q2,q3,y,g1,g2⟩:=NZ (w:=w) cJ hp U (eu sr hl) (eu sr Q') (eu sr hm) Z;exact⟨q1,q3,oC.value (u:=y) (by simp [execOp,g1]) ⟨E,by rw [q2]; exact eN.refl _ _ _,by rw [q2]; exact r,g2⟩⟩
   ·obtain⟨q1,q2,q3,y,g1,g2⟩:=Oc (w:=w) cJ hp U (eu sr hl) (eu sr Q') (eu sr hm) Z;exact⟨q1,q3,oC.value (u:=y) (by simp [execOp,g1]) ⟨E,by rw [q2]; exact eN.refl _ _ _,by rw [q2]; exact r,g2⟩⟩
   ·obtain⟨dY,h',fj,Aj,h3⟩:=Fi hp (eu sr Q') Z;obtain⟨e1,rfl⟩:=gz h3;obtain⟨y,g1,g2⟩:=xx (w:=w) cJ U (eu sr hl) Aj (eu sr hm) e1;exact⟨rfl,fj,oC.value (u:=y) (by simp [execOp,g1]) ⟨E,eN.refl _ _ _,r,g2⟩⟩
   ·obtain⟨dY,h',fj,Aj,h3⟩:=Fi hp (eu sr Q') Z;obtain⟨e1,rfl⟩:=gz h3;obtain⟨y,g1,g2⟩:=xx (w:=w) cJ U (eu sr hl) Aj (eu sr hm) e1;exact⟨rfl,fj,oC.value (u:=y) (by simp [execOp,g1]) ⟨E,eN.refl _ _ _,r,g2⟩⟩
   split at Z
   ·rename_i v' e1;have:=bC Z;simp only [ak] at this;obtain⟨rfl,rfl⟩:=this;obtain⟨y,g1,g2⟩:=xx (w:=w) cJ U (eu sr hl) (eu sr Q') (eu sr hm) e1;exact jA.pure hp r (u:=y) (by simp [execOp,g1]) g2
   ·obtain⟨e1,rfl⟩:=gz Z;obtain⟨y,g1,g2⟩:=Le (w:=w) cJ r U (eu sr hl) (eu sr Q') (eu sr hm) e1;exact jA.pure hp r (u:=y) (by simp [execOp,g1]) g2
  ·simp [T.leaf] at Z
 case fieldAddr t x f=>
  obtain⟨u,U,Z⟩:=gk sr h;obtain⟨e1,rfl⟩:=gz Z;obtain⟨y,g1,g2⟩:=D4 (w:=w) cJ U e1;exact jA.pure hp r (u:=y) (by simp [execOp,g1]) g2
 case field t x f=>
  obtain⟨u,U,Z⟩:=gk sr h;obtain⟨e1,rfl⟩:=gz Z;obtain⟨y,g1,g2⟩:=Ob (w:=w) cJ U e1;exact jA.pure hp r (u:=y) (by simp [execOp,g1]) g2
 case indexAddr t x i=>
  obtain⟨u,U,Z⟩:=gk sr h;split at Z
  ·rename_i iv hi;split at Z
   ·obtain⟨e1,rfl⟩:=gz Z;obtain⟨y,g1,g2⟩:=Oa (w:=w) cJ hp U (fS sr hi) e1;exact jA.pure hp r (u:=y) (by simp [execOp,g1]) g2
   ·obtain⟨q1,q2,q3,y,g1,g2⟩:=Og (w:=w) cJ hp U (fS sr hi) Z;exact⟨q1,q3,oC.value (u:=y) (by simp [execOp,g1]) ⟨E,by rw [q2]; exact eN.refl _ _ _,by rw [q2]; exact r,g2⟩⟩
   ·obtain⟨q1,q2,q3,y,g1,g2⟩:=NY (w:=w) cJ hp U (fS sr hi) Z;exact⟨q1,q3,oC.value (u:=y) (by simp [execOp,g1]) ⟨E,by rw [q2]; exact eN.refl _ _ _,by rw [q2]; exact r,g2⟩⟩
   ·obtain⟨q1,q2,q3,y,g1,g2⟩:=NX (w:=w) cJ hp U (fS sr hi) Z;exact⟨q1,q3,oC.value (u:=y) (by simp [execOp,g1]) ⟨E,by rw [q2]; exact eN.refl _ _ _,by rw [q2]; exact r,g2⟩⟩
   ·rename_i pid po;split at Z
    ·rename_i n e Y;split at Z
     ·rename_i ho;subst ho;obtain⟨kd,ti,el,ie,rfl,b1,b2,b3,b4,b5⟩:=EC Y;obtain⟨dY,fj,t1,t2,h3⟩:=nj hp Z;have:=bC h3;simp only [ak] at this;obtain⟨rfl,rfl⟩:=this;have hiv:=fS sr hi;simp only [VR] at hiv;simp only [V.den] at t2;obtain⟨k,hk⟩ : ∃k:Nat,e.den E.ρ=(k:Int):=⟨(e.den E.ρ).toNat,J⟩;have ff:k<n:=by simp at t2; omega
      rw [hk] at hiv
      obtain⟨y,g1,g2⟩:=pg (P:=P) (w:=w) cJ (t:=t) (ix:=.int kd (.lit (Int.ofNat k))) U (by simp only [VR,V.den]; exact hiv) (v:=.ptr pid (0+k*ie.size)) (by
       unfold nK;simp only [jU,b1,b2,hU,b3,alE];rw [ah ff]
       rfl)
      refine⟨rfl,fj,oC.value (u:=y) (by simp [execOp,g1]) ⟨E,eN.refl _ _ _,r,?_⟩⟩;simp only [VR] at g2 ⊢;exact⟨g2.2,k,hk,by rw [g2.1,b4]; congr 3; omega⟩
     ·simp [T.leaf] at Z
    ·obtain⟨ix',dY,fj,yE,Z⟩:=zo hp (fS sr hi) Z;obtain⟨e1,rfl⟩:=gz Z;obtain⟨y,g1,g2⟩:=pg (w:=w) cJ U yE e1;exact⟨rfl,fj,oC.value (u:=y) (by simp [execOp,g1]) ⟨E,eN.refl _ _ _,r,g2⟩⟩
   ·obtain⟨ix',dY,fj,yE,Z⟩:=zo hp (fS sr hi) Z;obtain⟨e1,rfl⟩:=gz Z;obtain⟨y,g1,g2⟩:=pg (w:=w) cJ U yE e1;exact⟨rfl,fj,oC.value (u:=y) (by simp [execOp,g1]) ⟨E,eN.refl _ _ _,r,g2⟩⟩
  ·simp [T.leaf] at Z
 case index t x i=>
  obtain⟨u,U,Z⟩:=gk sr h;split at Z
  ·rename_i iv hi;split at Z
   ·obtain⟨q1,q2,q3,y,g1,g2⟩:=N0 (w:=w) cJ hp U (fS sr hi) Z;exact⟨q1,q3,oC.value (u:=y) (by simp [execOp,g1]) ⟨E,by rw [q2]; exact eN.refl _ _ _,by rw [q2]; exact r,g2⟩⟩
   ·rename_i cs;split at Z
    ·rename_i n e Y;split at Z
     ·rename_i hn;have hn:=aq hn;obtain⟨kd,ti,el,ie,rfl,b1,b2,b3,b4,b5⟩:=EC Y;obtain⟨q1,q2,q3,k,kk,z,x',c1,c2,c3,rfl,c5⟩:=K9 hp Z;have hiv:=fS sr hi;simp only [VR] at hiv;rw [c1] at hiv;obtain⟨l,hd⟩:=Az c3
      obtain⟨y,g1,g2⟩:=xz (P:=P) (w:=w) cJ (t:=t) (ix:=.int kd (.lit (Int.ofNat k))) U (by simp only [VR,V.den]; exact hiv) (v:=.int kk (.lit z)) (by
       unfold yX;simp only [jU,b1,b2,b3];rw [ah J,b4,amQ,hd]
       simp [partOf,b5])
      refine⟨q1,q3,oC.value (u:=y) (w':=w) (by simp [execOp,g1]) ⟨E,by rw [q2]; exact eN.refl _ _ _,by rw [q2]; exact r,?_⟩⟩;simp only [VR,V.den] at g2 ⊢;rw [g2,c5]
     ·simp [T.leaf] at Z
    ·obtain⟨ix',dY,fj,yE,Z⟩:=zo hp (fS sr hi) Z;obtain⟨e1,rfl⟩:=gz Z;obtain⟨y,g1,g2⟩:=xz (w:=w) cJ U yE e1;exact⟨rfl,fj,oC.value (u:=y) (by simp [execOp,g1]) ⟨E,eN.refl _ _ _,r,g2⟩⟩
   obtain⟨ix',dY,fj,yE,Z⟩:=zo hp (fS sr hi) Z;obtain⟨e1,rfl⟩:=gz Z;obtain⟨y,g1,g2⟩:=xz (w:=w) cJ U yE e1;exact⟨rfl,fj,oC.value (u:=y) (by simp [execOp,g1]) ⟨E,eN.refl _ _ _,r,g2⟩⟩
  ·simp [T.leaf] at Z
 case lookup t m k ok=>
  obtain⟨u,U,Z⟩:=gk sr h;split at Z
  ·rename_i kv hk;split at Z
   ·rename_i id e t' mB
    obtain⟨q1,q2,q3,y,g1,g2⟩:=N8 (P:=P) cJ r hp U (fS sr hk) mB Z;exact⟨q1,q3,oC.value (u:=y) (by simp [execOp,g1]) ⟨E,by rw [q2]; exact eN.refl _ _ _,by rw [q2]; exact r,g2⟩⟩
   split at Z
   ·rename_i mB
    obtain⟨q1,q2,q3,y,g1,g2⟩:=N7 (P:=P) cJ r hp U (fS sr hk) mB Z;exact⟨q1,q3,oC.value (u:=y) (by simp [execOp,g1]) ⟨E,by rw [q2]; exact eN.refl _ _ _,by rw [q2]; exact r,g2⟩⟩
   obtain⟨dY,fj,Z⟩:=pG hp Z;obtain⟨e1,rfl⟩:=gz Z;obtain⟨y,g1,g2⟩:=Li cJ fj r U (fS sr hk) e1;exact⟨rfl,fj,oC.value (u:=y) (by simp [execOp,g1]) ⟨E,eN.refl _ _ _,r,g2⟩⟩
  ·simp [T.leaf] at Z
 case mapUpdate t m k x=>
  obtain⟨u,U,Z⟩:=gk sr h;split at Z
  ·rename_i kv xv hk hx;split at Z
   ·obtain⟨q1,q2,rfl,w',E',g1,g2,g3⟩:=GW (P:=P) cJ r hp U (fS sr hk) (fS sr hx) Z;exact⟨q1,q2,oC.skip (by simp [execOp,g1]) ⟨E',g2,g3,jN⟩⟩
   split at Z
   ·rename_i mB
    obtain⟨q1,q2,rfl,w',g1,g2,g3⟩:=Bo (P:=P) cJ r hp U (fS sr hk) (fS sr hx) mB Z;exact⟨q1,q2,oC.skip (by simp [execOp,g1]) ⟨E,g2,g3,jN⟩⟩
   obtain⟨dY,fj,Z⟩:=pG hp Z;obtain⟨H,e1,rfl,rfl⟩:=yb Z;obtain⟨w',g1,g2,g3⟩:=uT cJ fj r U (fS sr hk) (fS sr hx) e1;exact⟨rfl,fj,oC.skip (by simp [execOp,g1]) ⟨E,g2,g3,jN⟩⟩
  ·simp [T.leaf] at Z
 case range t x=>
  obtain⟨u,U,Z⟩:=gk sr h;obtain⟨H,e1,rfl⟩:=oO Z;obtain⟨y,w',E',g1,g2,g3,g4⟩:=N3 cJ r U e1;exact jA.heap hp (u:=y) (by simp [execOp,g1]) g2 g3 g4
 case next x isS=>
  obtain⟨u,U,Z⟩:=gk sr h;obtain⟨H,e1,rfl⟩:=oO Z;obtain⟨y,w',g1,g2,g3,g4⟩:=Tw (P:=P) r U e1 type;exact jA.heap hp (u:=y) (by simp [execOp,g1]) g2 g3 g4
 case entry x=>
  obtain⟨u,U,Z⟩:=gk sr h;obtain⟨e1,rfl⟩:=gz Z;obtain⟨y,g1,g2⟩:=Od (P:=P) r U e1;exact jA.pure hp r (u:=y) (by simp [execOp,g1]) g2
 case extract x i=>
  obtain⟨u,U,Z⟩:=gk sr h;split at Z
  ·rename_i vs;obtain⟨e1,rfl⟩:=gz Z;simp only [VR] at U;obtain⟨us,Gv,U⟩:=U;obtain⟨y,g1,g2⟩:=U.nth e1;exact jA.pure hp r (u:=y) (by simp [execOp,Instr.extract,Gv,g1]) g2
  ·simp [T.leaf] at Z
 case call c=>exact TB cJ hc r sr hp rfl h
end
section
variable {P:Program}
structure Fit [bI] (E:En) (s:St) (a:Act) (w:World):Prop where
 rel:bO E s.h w
 sr:SR E w.heap s.bE a
 pc:bW E.ρ s.pc
structure mE [bI] (E:En) (s:St) (a:Act) (w:World) (s':St) (a':Act) (w':World):Prop where
 defers:a'.defers=a.defers
 size:a'.tmps.size=a.tmps.size
 step: ∃E',eN E s.h w E' s'.h w'/\Fit E' s' a' w'
theorem mE.refl [bI] {E:En} {s:St} {a:Act} {w:World} (f:Fit E s a w):mE E s a w s a w:=⟨rfl,rfl,E,eN.refl _ _ _,f⟩
theorem SR.bX {E E':En} {h h':Array Obj} (k:fh E h E' h') {bE:Tr W} {a:Act} (sr:SR E h bE a):SR E' h' bE a:=by intro t v ht;obtain⟨u,U,Z⟩:=sr t v ht;exact⟨u,U,VR.bX k v u Z⟩
theorem SR.put {E:En} {h:Array Obj} {bE:Tr W} {a:Act} (sr:SR E h bE a) {d:Nat} {v:W} {u:Value} (hd:d<a.tmps.size) (hv:VR E h v u):SR E h (bE.put d (some v)) (a.put (some d) u):=by
 intro t x ht;rw [Tr.bR] at ht;simp only [Act.put];split at ht
 ·rename_i e
  grind
 ·rename_i e;obtain⟨y,U,Z⟩:=sr t x ht
  grind
theorem SR.ajX {E:En} {h:Array Obj} {s:St} {a:Act} (sr:SR E h s.bE a) {d:Option Nat} {v:W} {u:Value} (hd: ∀t,d=some t->t<a.tmps.size) (hv:VR E h v u):SR E h (s.JZ d v).bE (a.put d u):=by
 cases d with
 |none=>exact sr
 |some t=>exact sr.put (hd t rfl) hv
theorem C3 (a:Act) (d:Option Nat) (u:Value):(a.put d u).tmps.size=a.tmps.size:=by cases d<;>simp [Act.put]
theorem put_defers (a:Act) (d:Option Nat) (u:Value):(a.put d u).defers=a.defers:=by cases d<;>rfl
theorem V8 (s:St) (d:Option Nat) (v:W):(s.JZ d v).h=s.h:=by cases d<;>rfl
theorem B! (s:St) (d:Option Nat) (v:W):(s.JZ d v).pc=s.pc:=by cases d<;>rfl
theorem GO [bI] {E:En} {s s':St} {a:Act} {w w':World} {v:W} {u:Value} {d:Option Nat} (f:Fit E s a w) (hs:s'.bE=s.bE) (hp:bW E.ρ s'.pc) (h:L1 E s w v s' u w') (hd: ∀t,d=some t->t<a.tmps.size) :
 mE E s a w (s'.JZ d v) (a.put d u) w':=by
 obtain⟨E',U,Z,h3⟩:=h;refine⟨put_defers _ _ _,C3 _ _ _,E',by rw [V8]; exact U,⟨by rw [V8]; exact Z,?_,by rw [B!,U.ρ]; exact hp⟩⟩;refine SR.ajX ?_ hd h3;rw [hs];exact f.sr.bX (U.keeps f.rel)
theorem mE.trans [bI] {E:En} {s s1 s2:St} {a a1 a2:Act} {w w1 w2:World} (U:mE E s a w s1 a1 w1) (Z: ∀E1,eN E s.h w E1 s1.h w1->Fit E1 s1 a1 w1->mE E1 s1 a1 w1 s2 a2 w2):mE E s a w s2 a2 w2:=by obtain⟨d1,z1,E1,CM,f1⟩:=U;obtain⟨d2,z2,E2,tF,f2⟩:=Z E1 CM f1;exact⟨d2.trans d1,z2.trans z1,E2,CM.trans tF,f2⟩
theorem Dd [bI] {α:Type} {E:En} {w:World} {s:St} {a:Act} {ops:Array Oper} {o:Oper} {f:St->Bool->T α} {r:α} (fit:Fit E s a w) (h:(vx ops.toList s o f).leaf E.ρ=some r) :
 ∃dY,bW E.ρ dY/\(f { s with pc:=dY } (Region.wanted o (yielded ops a.tmps))).leaf E.ρ=some r:=by
 unfold vx at h;unfold Region.wanted;split at h
 ·rename_i hg;rw [hg];exact⟨s.pc,fit.pc,h⟩
 ·rename_i j want hg;rw [hg];split at h
  ·rename_i oj hj;rw [di,bu] at hj;split at h
   ·rename_i d hd;split at h
    ·rename_i c hc;obtain⟨u,U,Z⟩:=fit.sr d _ hc;simp only [VR] at Z;subst Z;obtain⟨dY,fj,h3⟩:=cH fit.pc h;refine⟨dY,fj,?_⟩;have:yielded ops a.tmps j=some (c.den E.ρ):=by simp [yielded,hj,hd,U]
     simp only [this];simpa using h3
    ·rename_i vs hc;obtain⟨u,U,Z⟩:=fit.sr d _ hc;simp only [VR] at Z;obtain⟨us,rfl,_⟩:=Z;refine⟨s.pc,fit.pc,?_⟩;have:yielded ops a.tmps j=none:=by simp [yielded,hj,hd,U]
     simp only [this];simpa using h
    ·simp [T.leaf] at h
   ·simp [T.leaf] at h
  ·simp [T.leaf] at h
def afk (n:Nat) (ops:List Oper):Bool:=ops.all fun o=>match o.dst with |some d=>d<n|none=>true
theorem D0 [bI] {tt:TT} (cJ:ew P tt) {call:eh} (hc:gX P call) {ops:Array Oper} {Q:Exit->Act->World->Prop}: ∀(rest:List Oper) (i:Nat) {E:En} {s s':St} {a:Act} {w:World},ops.toList.drop i=rest->
 (∀o∈rest,∀d,o.dst=some d->d<a.tmps.size)->Fit E s a w->(Lh tt call ops.toList rest s).leaf E.ρ=some s'->
 (∀a' w',mE E s a w s' a' w'->Q .normal a' w')->wpOps P ops Q (List.range' i rest.length) a w
 |[],i,E,s,s',a,w,_,_,fit,h,hq=>by have:=bC h;subst this;exact hq a w (mE.refl fit)
 |o::rest,i,E,s,s',a,w,hi,hd,fit,h,hq=>by
  simp only [Lh] at h;obtain⟨dY,fj,U⟩:=Dd fit h
  have hoi:ops[i]?=some o:=by
   have:=congrArg (·[0]?) hi
   grind
  have abz:ops.toList.drop (i+1)=rest:=by have:=congrArg List.tail hi;simpa using this
  have Tq:Fit E { s with pc:=dY } a w:=⟨fit.rel,fit.sr,fj⟩;simp only [aK,List.range'_succ];show wpOps P ops Q (i::List.range' (i+1) rest.length) a w;simp only [wpOps,hoi];cases hw:Region.wanted o (yielded ops a.tmps)<;>rw [hw] at U
  ·simp only [aL,if_false] at U ⊢
   have Bc:mE E s a w (St.JZ { s with pc:=dY } o.dst W.undef) (a.put o.dst undef) w:=
    GO (s':={ s with pc:=dY }) fit rfl fj ⟨E,eN.refl _ _ _,fit.rel,jN⟩ (hd o ad)
   obtain⟨d1,z1,E1,CM,f1⟩:=Bc;refine D0 cJ hc rest (i+1) abz (fun o' Aj d DE=>by rw [z1]; exact hd o' (by simp [Aj]) d DE) f1 (by rw [CM.ρ]; exact U) fun a' w' ht=>?_;exact hq a' w' ⟨ht.defers.trans d1,ht.size.trans z1,by obtain⟨E2,tF,f2⟩:=ht.step; exact⟨E2,CM.trans tF,f2⟩⟩
  ·simp only [if_true] at U ⊢;left;obtain⟨⟨v,s1⟩,Z,h3⟩:=T.eZ U;obtain⟨q1,q2,q3⟩:=QW cJ hc (o:=o) Tq.rel Tq.sr Tq.pc Z;refine q3 _ _ fun u w1 hu=>?_;have Bc:mE E s a w (s1.JZ o.dst v) (a.put o.dst u) w1:=GO (s:=s) (s':=s1) fit q1 q2 hu (hd o ad);obtain⟨d1,z1,E1,CM,f1⟩:=Bc;refine D0 cJ hc rest (i+1) abz (fun o' Aj d DE=>by rw [z1]; exact hd o' (by simp [Aj]) d DE) f1 (by rw [CM.ρ]; exact h3) fun a' w' ht=>?_;exact hq a' w' ⟨ht.defers.trans d1,ht.size.trans z1,by obtain⟨E2,tF,f2⟩:=ht.step; exact⟨E2,CM.trans tF,f2⟩⟩
def aav [bI] (P:Program) (draw:List Oper->St->T St):Prop:=
 ∀(id:Nat) (ops:Array Oper) (E:En) (s s':St) (a:Act) (w:World) (Q:Exit->Act->World->Prop),(∀o∈ops.toList,∀d,o.dst=some d->d<a.tmps.size)->Fit E s a w->(draw ops.toList s).leaf E.ρ=some s'->
  (∀a' w',mE E s a w s' a' w'->Q .normal a' w')->(Code.region id ops true).wp P Q a w
def vh [bI] (P:Program) (qi:Nat->List Oper->Bool) (draw:Nat->List Oper->St->T St):Prop:=
 ∀(id:Nat) (ops:Array Oper),qi id ops.toList=true->∀(E:En) (s s':St) (a:Act) (w:World) (Q:Exit->Act->World->Prop),(∀o∈ops.toList,∀d,o.dst=some d->d<a.tmps.size)->Fit E s a w->(draw id ops.toList s).leaf E.ρ=some s'->
  (∀a' w',mE E s a w s' a' w'->Q .normal a' w')->(Code.region id ops true).wp P Q a w
def jG (qi:Nat->List Oper->Bool) (n:Nat):Code->Bool
 | .region id ops d=>afk n ops.toList&&(!d||qi id ops.toList)
 | .seq a b=>jG qi n a&&jG qi n b
 | .cond _ a b=>jG qi n a&&jG qi n b
 | .block _ b=>jG qi n b
 | .loop b=>jG qi n b
 | .scope b=>jG qi n b
 |_=>true
theorem Y_ {n m:Nat} {ops:List Oper} (h:afk n ops=true) (hm:n<=m): ∀o∈ops,∀d,o.dst=some d->d<m:=by
 intro o ho d hd;unfold afk at h
 grind
def wZ:Ex->Exit
 | .normal=> .normal
 | .exit id=> .exit id
 | .ret=> .ret
def afw [bI] (E:En) (s:St) (a:Act) (w:World) (e:Ex) (s':St) (x:Exit) (a':Act) (w':World):Prop:=x=wZ e/\mE E s a w s' a' w'
theorem mE.comp [bI] {E E1:En} {s s1 s2:St} {a a1 a2:Act} {w w1 w2:World} (d1:a1.defers=a.defers) (z1:a1.tmps.size=a.tmps.size) (CM:eN E s.h w E1 s1.h w1) (Z:mE E1 s1 a1 w1 s2 a2 w2):mE E s a w s2 a2 w2:=by obtain⟨d2,z2,E2,tF,f2⟩:=Z;exact⟨d2.trans d1,z2.trans z1,E2,CM.trans tF,f2⟩
def b! [bI] (P:Program) (c:Code) (n:Nat) (f:St->T (Ex×St)):Prop:=
 ∀(E:En) (s s':St) (e:Ex) (a:Act) (w:World),n<=a.tmps.size->Fit E s a w->(f s).leaf E.ρ=some (e,s')->c.wp P (afw E s a w e s') a w
theorem D1 {ρ:Nat->Int} {f:St->T (Ex×St)}: ∀(k:Nat) {s s':St} {e:Ex},(uV f k s).leaf ρ=some (e,s')->e≠.normal
 |0,s,s',e,h=>by simp [uV,T.leaf] at h
 |k+1,s,s',e,h=>by
  simp only [uV] at h;obtain⟨⟨e1,s1⟩,U,Z⟩:=T.eZ h
  cases e1 with
  |normal=>exact D1 k Z
  |exit id=>have:=bC Z; simp only [ak] at this; rw [<- this.1]; simp
  |ret=>have:=bC Z; simp only [ak] at this; rw [<- this.1]; simp
theorem GY [bI] {c:Code} {n:Nat} {f:St->T (Ex×St)} (hf:b! P c n f): ∀(k:Nat) {E:En} {s s':St} {e:Ex} {a:Act} {w:World},n<=a.tmps.size->Fit E s a w->(uV f k s).leaf E.ρ=some (e,s')->
 ∀(Q:Exit->Act->World->Prop),(∀a' w',mE E s a w s' a' w'->Q (wZ e) a' w')->e≠.normal/\Code.rounds P c Q k a w
 |0,E,s,s',e,a,w,_,_,h,_,_=>by simp [uV,T.leaf] at h
 |k+1,E,s,s',e,a,w,hn,fit,h,Q,hq=>by
  simp only [uV] at h;obtain⟨⟨e1,s1⟩,U,Z⟩:=T.eZ h;have hw:=hf E s s1 e1 a w hn fit U;rw [rounds_succ]
  cases e1 with
  |normal=>
   simp only at Z;constructor
   ·exact D1 k Z
   ·refine wp_mono hw fun x a1 w1 ⟨hx,ht⟩=>?_;subst hx;obtain⟨d1,z1,E1,CM,f1⟩:=ht;exact (GY hf k (by rw [z1]; exact hn) f1 (by rw [CM.ρ]; exact Z) Q fun a' w' ht'=>hq a' w' (ht'.comp d1 z1 CM)).2
  |exit id=> have:=bC Z;simp only [ak] at this;obtain⟨rfl,rfl⟩:=this;refine⟨ad,wp_mono hw fun x a1 w1 ⟨hx,ht⟩=>?_⟩;subst hx;exact hq a1 w1 ht
  |ret=> have:=bC Z;simp only [ak] at this;obtain⟨rfl,rfl⟩:=this;refine⟨ad,wp_mono hw fun x a1 w1 ⟨hx,ht⟩=>?_⟩;subst hx;exact hq a1 w1 ht
theorem kB [bI] {tt:TT} (cJ:ew P tt) {call:eh} (hc:gX P call) {draw:Nat->List Oper->St->T St} {qi:Nat->List Oper->Bool} (E4:vh P qi draw) {lf n:Nat}: ∀(c:Code),jG qi n c=true->b! P c n (iP tt call draw lf c)
 | .skip,_,E,s,s',e,a,w,_,fit,h=>by have:=bC h;simp only [ak] at this;obtain⟨rfl,rfl⟩:=this;exact wp_skip ⟨rfl,mE.refl fit⟩
 | .region id ops d,mD,E,s,s',e,a,w,hn,fit,h=>by
   simp only [iP] at h;simp only [jG,an] at mD;have hd:=Y_ mD.1 hn;cases d
   ·simp only [aL,if_false] at h;obtain⟨s1,U,Z⟩:=T.eZ h;have:=bC Z;simp only [ak] at this;obtain⟨rfl,rfl⟩:=this;refine wp_region ?_;have:=D0 (Q:=afw E s a w .normal s1) cJ hc ops.toList 0 ad hd fit U (fun a' w' ht=> ⟨rfl,ht⟩);rw [List.range_eq_range']
    grind
   ·simp only [if_true] at h;obtain⟨s1,U,Z⟩:=T.eZ h;have:=bC Z;simp only [ak] at this;obtain⟨rfl,rfl⟩:=this;exact E4 id ops (by simpa using mD.2) E s s1 a w _ hd fit U (fun a' w' ht=> ⟨rfl,ht⟩)
 | .seq x y,mD,E,s,s',e,a,w,hn,fit,h=>by
   simp only [jG,an] at mD;simp only [iP] at h;obtain⟨⟨e1,s1⟩,U,Z⟩:=T.eZ h;refine wp_seq (wp_mono (kB cJ hc E4 x mD.1 E s s1 e1 a w hn fit U) fun q a1 w1 ⟨hx,ht⟩=>?_);subst hx
   cases e1 with
   |normal=> simp only at Z;obtain⟨d1,z1,E1,CM,f1⟩:=ht;refine wp_mono (kB cJ hc E4 y mD.2 E1 s1 s' e a1 w1 (by rw [z1]; exact hn) f1 (by rw [CM.ρ]; exact Z)) fun q a2 w2 ⟨hx,ht'⟩=>?_;exact⟨hx,ht'.comp d1 z1 CM⟩
   |exit id=> have:=bC Z;simp only [ak] at this;obtain⟨rfl,rfl⟩:=this;exact⟨rfl,ht⟩
   |ret=> have:=bC Z;simp only [ak] at this;obtain⟨rfl,rfl⟩:=this;exact⟨rfl,ht⟩
 | .cond c x y,mD,E,s,s',e,a,w,hn,fit,h=>by
   simp only [jG,an] at mD;simp only [iP] at h;split at h
   ·rename_i cb hcb;have hv:=fS fit.sr hcb;simp only [VR] at hv;obtain⟨dY,fj,U⟩:=cH fit.pc h;have Tq:Fit E { s with pc:=dY } a w:=⟨fit.rel,fit.sr,fj⟩;refine wp_cond hv ?_;cases QM:cb.den E.ρ<;>rw [QM] at U
    ·simp only [aL,if_false] at U ⊢;exact wp_mono (kB cJ hc E4 y mD.2 E _ s' e a w hn Tq U) fun q a2 w2 ⟨hx,ht⟩=> ⟨hx,ht.defers,ht.size,ht.step⟩
    ·simp only [if_true] at U ⊢;exact wp_mono (kB cJ hc E4 x mD.1 E _ s' e a w hn Tq U) fun q a2 w2 ⟨hx,ht⟩=> ⟨hx,ht.defers,ht.size,ht.step⟩
   ·simp [T.leaf] at h
 | .block id b,mD,E,s,s',e,a,w,hn,fit,h=>by
   simp only [jG] at mD;simp only [iP] at h;obtain⟨⟨e1,s1⟩,U,Z⟩:=T.eZ h;refine wp_block (wp_mono (kB cJ hc E4 b mD E s s1 e1 a w hn fit U) fun q a1 w1 ⟨hx,ht⟩=>?_);subst hx
   cases e1 with
   |normal=> have:=bC Z;simp only [ak] at this;obtain⟨rfl,rfl⟩:=this;exact⟨rfl,ht⟩
   |exit j=>
    have:=bC Z;simp only [ak] at this;obtain⟨rfl,rfl⟩:=this;simp only [wZ,Exit.inBlock];by_cases hj:j=id
    ·rw [ah hj,ah hj]; exact⟨rfl,ht⟩
    ·rw [af hj,af hj]; exact⟨rfl,ht⟩
   |ret=> have:=bC Z;simp only [ak] at this;obtain⟨rfl,rfl⟩:=this;exact⟨rfl,ht⟩
 | .loop b,mD,E,s,s',e,a,w,hn,fit,h=>by simp only [jG] at mD;simp only [iP] at h;exact wp_loop_rounds lf (GY (kB cJ hc E4 b mD) lf hn fit h (afw E s a w e s') (fun a' w' ht=> ⟨rfl,ht⟩)).2
 | .exit id,_,E,s,s',e,a,w,_,fit,h=>by have:=bC h;simp only [ak] at this;obtain⟨rfl,rfl⟩:=this;exact wp_exit ⟨rfl,mE.refl fit⟩
 | .scope b,mD,E,s,s',e,a,w,hn,fit,h=>by simp only [jG] at mD;simp only [iP] at h;refine wp_scope_straight (wp_mono (kB cJ hc E4 b mD E s s' e a w hn fit h) fun q a1 w1 ⟨hx,ht⟩=>?_);subst hx;cases e<;>exact⟨rfl,ht⟩
 | .label l,_,E,s,s',e,a,w,_,fit,h=>by have:=bC h;simp only [ak] at this;obtain⟨rfl,rfl⟩:=this;exact wp_label ⟨rfl,mE.refl fit⟩
 | .ret,_,E,s,s',e,a,w,_,fit,h=>by have:=bC h;simp only [ak] at this;obtain⟨rfl,rfl⟩:=this;exact wp_ret ⟨rfl,mE.refl fit⟩
 | .rangeFunc _ _ _ _,_,E,s,s',e,a,w,_,fit,h=>by simp [iP,T.leaf] at h
 | .goto _,_,E,s,s',e,a,w,_,fit,h=>by simp [iP,T.leaf] at h
 | .refuse _,_,E,s,s',e,a,w,_,fit,h=>by simp [iP,T.leaf] at h
end
section
variable {P:Program}
theorem KF: ∀(args:List W) (i:Nat) (t:Tr W) (k:Nat),(cf args i t).get k=if i<=k/\k<i+args.length then args[k-i]? else t.get k
 |[],i,t,k=>by
  have: ¬(i<=k/\k<i+([]:List W).length):=ad
  rw [af this];rfl
 |v::vs,i,t,k=>by
  simp only [cf,KF vs (i+1),Tr.bR,aK]
  grind
theorem cA.get {E:En} {h:Array Obj}: ∀{vs:List W} {us:List Value},cA E h vs us->∀(i:Nat) (v:W),vs[i]?=some v->∃u,us[i]?=some u/\VR E h v u
 |[],us,hv,i,v,hi=>by simp at hi
 |x::xs,us,hv,i,v,hi=>by
  cases us with
  |nil=>simp [cA] at hv
  |cons y ys=>
   simp only [cA] at hv;obtain⟨u',gq,he,U,Z⟩:=hv;simp only [List.cons.injEq] at he;obtain⟨rfl,rfl⟩:=he
   cases i with
   |zero=>simp at hi; subst hi; exact⟨y,ad,U⟩
   |succ i=>simpa using cA.get Z i v (by simpa using hi)
theorem yx {E:En} {h:Array Obj} {args:List W} {vals:List Value} (hv:cA E h args vals) (n:Nat) :
 SR E h (cf args 0 .nil) { tmps:=vals.toArray++Array.replicate n undef,defers:=[] }:=by
 intro t v ht;rw [KF] at ht;split at ht
 ·rename_i hk;obtain⟨u,U,Z⟩:=cA.get hv t v (by simpa using ht)
  grind
 ·simp [Tr.get] at ht
def ub (a:Act):ResultVar->Sem Value
 | .tmp t=>pure (a.tmps.getD t undef)
 | .cell b t=>do loadVar t (<- asAddr (a.tmps.getD b undef))
def zO (vs:List W):W:=match vs with |[x]=>x|vs=> .tuple vs
theorem FO {vs:List W} (h: ∀v,vs= [v]->False):zO vs= .tuple vs:=by
 unfold zO
 grind
theorem BZ {E:En} {h:Array Obj} {vs:List W} {us:List Value} (g2:cA E h vs us):VR E h (zO vs) (if h:us.toArray.size=1 then us.toArray[0] else .tuple us.toArray):=by
 cases vs with
 |nil=> simp only [cA] at g2;subst g2;simp [zO,VR,cA]
 |cons x xs=>
  cases xs with
  |nil=> simp only [cA] at g2;obtain⟨u,gq,rfl,U,rfl⟩:=g2;simpa [zO] using U
  |cons x2 xs=>
   have g3:=g2;simp only [cA] at g2;obtain⟨u,gq,rfl,U,u2,us2,rfl,Z,h3⟩:=g2;have: ¬((u::u2::us2).toArray.size=1):=ad
   rw [dif_neg this];simp only [zO,VR]
   grind
theorem Lg [bI] {tt:TT} (cJ:ew P tt) {E:En} {s:St} {a:Act} {w:World} (fit:Fit E s a w) {r:ResultVar} {v:W} (h:yS tt s r=some v) :
 ∃u,(ub a r).run P w= .ok u w/\VR E w.heap v u:=by
 cases r with
 |tmp t=> simp only [yS] at h;obtain⟨u,U,Z⟩:=fit.sr t v h;exact⟨u,by simp [ub,U,amf],Z⟩
 |cell b t=>
  simp only [yS] at h;split at h
  ·rename_i p hp;obtain⟨u,U,Z⟩:=fit.sr b p hp;obtain⟨x,bb,o,rfl,h3,h4⟩:=Au cJ fit.rel Z h;exact⟨x,by simp [ub,U,amf,asAddr,h3],h4⟩
  grind
theorem sR [bI] {tt:TT} (cJ:ew P tt) {E:En} {s:St} {a:Act} {w:World} (fit:Fit E s a w): ∀{rs:List ResultVar} {vs:List W},kA tt s rs=some vs->
 ∃us,(rs.mapM (ub a)).run P w= .ok us w/\cA E w.heap vs us
 |[],vs,h=>by simp [kA] at h;subst h;exact⟨[],ad,by simp [cA]⟩
 |r::rs,vs,h=>by
  simp only [kA] at h;split at h
  ·grind
  ·rename_i v hv;split at h
   ·grind
   ·rename_i L3 Gu;simp at h;subst h;obtain⟨u,U,Z⟩:=Lg cJ fit hv;obtain⟨us,h3,h4⟩:=sR cJ fit Gu;refine⟨u::us,?_,by simp only [cA]; exact⟨u,us,rfl,Z,h4⟩⟩;rw [amh];simp [Sem.run_bind,U,h3]
def T0 (P:Program) (qi:Nat->Nat->List Oper->Bool) (ft:Nat->Option Func):Prop:= ∀g fn,ft g=some fn->P.funcs[g]?=some fn/\(fn.name == "runtime.NumGoroutine")=false/\∀c,fn.body=some c->jG (qi g) fn.ntmps c=true
theorem sS [bI] {tt:TT} (cJ:ew P tt) {qi:Nat->Nat->List Oper->Bool} {ft:Nat->Option Func} (hft:T0 P qi ft) {hook:Nat->Option (List W->St->T (W×St))} (hh: ∀g h,hook g=some h->iE P g h)
 {draw:eh->Nat->Nat->List Oper->St->T St} (E4: ∀call,gX P call->∀g,vh P (qi g) (draw call g)) (lf:Nat): ∀(n:Nat),gX P (D3 tt ft hook draw lf n)
 |0=>by intro g args s E w vals v s' _ _ _ h;simp [D3,T.leaf] at h
 |n+1=>by
  have ih:=sS cJ hft hh E4 lf n;intro g args s E w vals v s' r hv hp h;simp only [D3] at h;split at h
  ·rename_i f hf;exact hh g f hf args s E w vals v s' r hv hp h
  ·split at h
   ·simp [T.leaf] at h
   ·rename_i fn tq;obtain⟨hf,jX,mD⟩:=hft g fn tq;split at h
    ·simp [T.leaf] at h
    ·rename_i c Y;obtain⟨⟨e,s1⟩,U,Z⟩:=T.eZ h
     have fit:Fit E { s with bE:=cf args 0 .nil } { tmps:=vals.toArray++Array.replicate (fn.ntmps-vals.toArray.size) undef,defers:=[] } w:=
      ⟨r,yx hv _,hp⟩
     have hwp:=kB cJ ih (E4 _ ih g) (lf:=lf) c (mD c Y) E _ s1 e _ w (by simp; omega) fit U
     have akk: ∃vs,kA tt s1 fn.results.toList=some vs/\(e= .normal\/e= .ret)/\s'= { s1 with bE:=s.bE }/\v=zO vs:=by
      cases e with
      |exit id=>simp [T.leaf] at Z
      |normal=>
       simp only at Z;split at Z
       ·rename_i x hx;have:=bC Z;simp only [ak] at this;exact⟨_,hx,.inl rfl,this.2.symm,this.1.symm⟩
       ·rename_i vs hn hx;have:=bC Z;simp only [ak] at this;refine⟨_,hx,.inl rfl,this.2.symm,?_⟩;rw [<- this.1];exact (FO hn).symm
       ·simp [T.leaf] at Z
      |ret=>
       simp only at Z;split at Z
       ·rename_i x hx;have:=bC Z;simp only [ak] at this;exact⟨_,hx,.inr rfl,this.2.symm,this.1.symm⟩
       ·rename_i vs hn hx;have:=bC Z;simp only [ak] at this;refine⟨_,hx,.inr rfl,this.2.symm,?_⟩;rw [<- this.1];exact (FO hn).symm
       ·simp [T.leaf] at Z
     obtain⟨vs,hr,he,rfl,rfl⟩:=akk
     have hpc:bW E.ρ s1.pc:=by
      obtain⟨_,_,_,⟨_,ht⟩,_⟩:=hwp default [] [];obtain⟨E1,CM,f1⟩:=ht.step;have:=f1.pc;rw [CM.ρ] at this
      grind
     refine⟨rfl,hpc,?_⟩
     have akH:Calls P g vals.toArray w fun e w''=> ∃u,e= .returned u/\L1 E s w (zO vs) { s1 with bE:=s.bE } u w'':=by
      refine calls_of_wp hf Y (wp_mono hwp fun x a1 w1 ⟨hx,ht⟩=>?_);subst hx;obtain⟨d1,z1,E1,CM,f1⟩:=ht;obtain⟨us,g1,g2⟩:=sR cJ f1 hr
      have: ∃u,(results fn a1.tmps).run P w1= .ok u w1/\VR E1 w1.heap (zO vs) u:=by
       refine⟨if h:us.toArray.size=1 then us.toArray[0] else .tuple us.toArray,?_,?_⟩
       ·have hm:(fn.results.mapM (ub a1)).run P w1= .ok us.toArray w1:=by
         rw [anC];rw [map_eq_pure_bind];simp only [Sem.run_bind,g1];rfl
        have xp:results fn a1.tmps=(do let vs <- fn.results.mapM (ub a1); pure (if h:vs.size=1 then vs[0] else .tuple vs)):=rfl;rw [xp];simp only [Sem.run_bind,hm];rfl
       ·exact BZ g2
      obtain⟨u,g3,g4⟩:=this;rcases he with rfl|rfl
      ·exact⟨d1,u,g3,u,rfl,E1,CM,f1.rel,g4⟩
      ·exact⟨d1,u,g3,u,rfl,E1,CM,f1.rel,g4⟩
     have kV:(callFunc g vals.toArray).run P w= .ok (.enter g vals.toArray) w:=by unfold callFunc;simp [hf,Y,by simpa using jX]
     unfold kS mO
     grind
end
def Tr.over {α:Type}:Tr α->Tr α->Tr α
 | .nil,b=>b
 | .node v l r,b=> .node (match v with |some x=>some x|none=>b.val) (Tr.over l b.left) (Tr.over r b.right)
def Tr.minus {α:Type}:Tr α->Tr α->Tr α
 | .nil,b=>b
 | .node v l r,b=> .node (match v with |some _=>none|none=>b.val) (Tr.minus l b.left) (Tr.minus r b.right)
theorem Tr.DL {α:Type}: ∀(a b:Tr α) (k:Nat),(Tr.over a b).get k=match a.get k with |some x=>some x|none=>b.get k
 | .nil,b,k=>by simp [Tr.over,Tr.get]
 | .node v l r,b,k=>by
   simp only [Tr.over];rw [Tr.nJ,Tr.nJ,Tr.vM b k];by_cases h0:k=0
   ·grind
   ·simp only [af h0];by_cases U:(k-1) % 2=0
    ·simp only [ah U]; exact Tr.DL l b.left _
    ·simp only [af U]; exact Tr.DL r b.right _
theorem Tr.Aq {α:Type}: ∀(a b:Tr α) (k:Nat),(Tr.minus a b).get k=match a.get k with |some _=>none|none=>b.get k
 | .nil,b,k=>by simp [Tr.minus,Tr.get]
 | .node v l r,b,k=>by
   simp only [Tr.minus];rw [Tr.nJ,Tr.nJ,Tr.vM b k];by_cases h0:k=0
   ·grind
   ·simp only [af h0];by_cases U:(k-1) % 2=0
    ·simp only [ah U]; exact Tr.Aq l b.left _
    ·simp only [af U]; exact Tr.Aq r b.right _
structure RO (E:En) (H:Hp) (w:World) (E':En) (H':Hp) (w':World):Prop where
 ρ:E'.ρ=E.ρ
 dm: ∀id,E.dm id->E'.dm id
 θ: ∀id,E.dm id->E'.θ id=E.θ id
 κ: ∀id,E.dm id->E'.κ id=E.κ id
 ro: ∀b,E.ro b->E'.ro b
 qQ: ∀b,E'.ro b->E.ro b\/(∃id o,H.get id=some o/\(E.θ id).1=b)\/w.heap.size<=b
 os:w'.os=w.os
 tape:w'.tape=w.tape
 output:w'.output=w.output
 size:w.heap.size<=w'.heap.size
 bX: ∀b,b<w.heap.size->(∀id o,H.get id=some o->(E.θ id).1≠b)->w'.heap[b]?=w.heap[b]?
 own: ∀id o,H'.get id=some o->(E'.θ id).1<w.heap.size->∃qR o0,H.get qR=some o0/\(E.θ qR).1=(E'.θ id).1
 hd:E'.hd=E.hd
section
variable {E E' E'':En} {H H' H'':Hp} {w w' w'':World}
theorem eN.ajE (s:eN E H w E' H' w'):RO E H w E' H' w':=⟨s.ρ,s.dm,s.θ,s.κ,s.ro,s.qQ,s.os,s.tape,s.output,s.size,s.bX,s.own,s.hd⟩
theorem RO.VZ (s:RO E H w E' H' w') (U:H.next<=H'.next) (Z:H'.res=none) (h3: ∀id,E'.dm id->E.dm id\/(H.next<=id/\id<H'.next)):eN E H w E' H' w':=
 ⟨s.ρ,s.dm,s.θ,s.κ,s.ro,s.qQ,U,.inl Z,fun id h=>(h3 id h).elim .inl fun h=> .inr (.inl h),s.os,s.tape,s.output,s.size,s.bX,s.own,s.hd⟩
theorem RO.trans (a:RO E H w E' H' w') (b:RO E' H' w' E'' H'' w''):RO E H w E'' H'' w'' where
 ρ:=b.ρ.trans a.ρ
 dm:=fun id h=>b.dm id (a.dm id h)
 θ:=fun id h=>(b.θ id (a.dm id h)).trans (a.θ id h)
 κ:=fun id h=>(b.κ id (a.dm id h)).trans (a.κ id h)
 ro:=fun x h=>b.ro x (a.ro x h)
 qQ:=fun x h=>by
  rcases b.qQ x h with h|⟨id,o,U,Z⟩|h
  ·exact a.qQ x h
  ·rcases aQ x w.heap.size with hx|hx
   ·obtain⟨qR,o0,h3,h4⟩:=a.own id o U (by rw [Z]; exact hx);exact .inr (.inl ⟨qR,o0,h3,h4.trans Z⟩)
   ·exact .inr (.inr hx)
  ·exact .inr (.inr (bk a.size h))
 os:=b.os.trans a.os
 tape:=b.tape.trans a.tape
 output:=b.output.trans a.output
 size:=bk a.size b.size
 bX:=fun x hx hn=>by rw [b.bX x (alW hx a.size) ?_,a.bX x hx hn];intro id o ho he;obtain⟨qR,o0,h0,Q!⟩:=a.own id o ho (by rw [he]; exact hx);exact hn qR o0 h0 (Q!.trans he)
 own:=fun id o ho ff=>by obtain⟨id1,o1,U,XH⟩:=b.own id o ho (alW ff a.size);obtain⟨qR,o0,h0,Q!⟩:=a.own id1 o1 U (by rw [XH]; exact ff);exact⟨qR,o0,h0,Q!.trans XH⟩
 hd:=b.hd.trans a.hd
theorem RO.keeps [bI] (s:RO E H w E' H' w') (r:bO E H w):fh E w.heap E' w'.heap:=
 ⟨s.ρ,s.dm,s.θ,s.κ,s.ro,fun b Y=>s.bX b (r.pL b Y) fun id o ho he=>(r.live id o ho).2.2 (by rw [he]; exact Y)⟩
theorem bO.part [bI] {H1:Hp} (r:bO E H w) (sub: ∀id o,H1.get id=some o->H.get id=some o) (hn:H.next<=H1.next) (hr: ∀q,H1.res=some q->q<H1.next/\¬E.dm q):bO E H1 w:=
 ⟨fun id h=>r.fresh id (bk hn h),hr,fun id o h=>r.live id o (sub id o h),fun i j o o' h h' e=>r.inj i j o o' (sub _ _ h) (sub _ _ h') e,r.pL,r.iT,fun b x Y=> ⟨(r.hid b x Y).1,(r.hid b x Y).2.1,fun id o h=>(r.hid b x Y).2.2 id o (sub id o h)⟩⟩
theorem XU [bI] {H1 O5:Hp} (r:bO E H w) (sub: ∀id o,H1.get id=some o->H.get id=some o) (st:eN E H1 w E' O5 w') (r':bO E' O5 w') (n:Nat) (hn: ∀id,n<=id->¬E'.dm id) :
 ∃H':Hp,H'=⟨Tr.over O5.m (Tr.minus H1.m H.m),n,none⟩/\(∀id o,O5.get id=some o->H'.get id=some o)/\(∀id o,H.get id=some o->H1.get id=none->H'.get id=some o)/\bO E' H' w'/\RO E H w E' H' w':=by
 have aic: ∀id o,H.get id=some o->H1.get id=none->O5.get id=none:=by
  intro id o h U
  cases Z:O5.get id with
  |none=>rfl
  |some o'=>
   exfalso;have hd:=(r.live id o h).1;have hθ:=st.θ id hd;obtain⟨qR,o0,g1,g2⟩:=st.own id o' Z (by rw [hθ]; exact fF r h);have:=r.inj qR id o0 o (sub _ _ g1) h (by rw [g2,hθ])
   grind
 have uE: ∀id,(⟨Tr.over O5.m (Tr.minus H1.m H.m),n,none⟩ : Hp).get id=match O5.get id with |some x=>some x|none=>match H1.get id with |some _=>none|none=>H.get id:=by
  intro id;simp only [Hp.get,Tr.DL,Tr.Aq]
  grind
 have nG: ∀id o,(⟨Tr.over O5.m (Tr.minus H1.m H.m),n,none⟩ : Hp).get id=some o->O5.get id=some o\/(O5.get id=none/\H1.get id=none/\H.get id=some o):=by
  intro id o h
  grind
 have tp: ∀id o,H1.get id=none->H.get id=some o->w'.heap[(E.θ id).1]?=w.heap[(E.θ id).1]?:=by
  intro id o U h;refine st.bX _ (fF r h) fun qR o0 h0 he=>?_;have:=r.inj qR id o0 o (sub _ _ h0) h he
  grind
 have k:fh E w.heap E' w'.heap:=⟨st.ρ,st.dm,st.θ,st.κ,st.ro,fun b Y=>st.bX b (r.pL b Y) fun id o ho he=>(r.live id o (sub _ _ ho)).2.2 (by rw [he]; exact Y)⟩;refine⟨_,rfl,fun id o h=>by rw [uE,h],fun id o h U=>by rw [uE,aic id o h U,U]; exact h,⟨hn,ad,?_,?_,r'.pL,r'.iT,?_⟩,⟨st.ρ,st.dm,st.θ,st.κ,st.ro,fun b Y=>(st.qQ b Y).imp id (Or.imp (fun⟨i,o,U,Z⟩=> ⟨i,o,sub _ _ U,Z⟩) id),st.os,st.tape,st.output,st.size,?_,?_,st.hd⟩⟩
 ·intro id o h;rcases nG id o h with U|⟨U,Z,h3⟩
  ·exact r'.live id o U
  ·obtain⟨g1,g2,g3⟩:=r.live id o h3;refine⟨st.dm id g1,g2.bX k g1 (tp id o Z h3) (r.Ti st.hd (fun b Y hn=>st.bX b Y fun i o ho=>hn i o (sub i o ho)) _),?_⟩;rw [st.θ id g1];intro hr;rcases st.qQ _ hr with hr|⟨qR,o0,f1,f2⟩|hr
   ·grind
   ·have:=r.inj qR id o0 o (sub _ _ f1) h3 f2
    grind
   grind [fF]
 ·intro i j o o' h h' he;rcases nG i o h with U|⟨U,Z,h3⟩ <;>rcases nG j o' h' with g1|⟨g1,g2,g3⟩
  ·exact r'.inj i j o o' U g1 he
  ·exfalso;rw [st.θ j (r.live j o' g3).1] at he;obtain⟨qR,o0,f1,f2⟩:=st.own i o U (by rw [he]; exact fF r g3);have:=r.inj qR j o0 o' (sub _ _ f1) g3 (f2.trans he)
   grind
  ·exfalso;rw [st.θ i (r.live i o h3).1] at he;obtain⟨qR,o0,f1,f2⟩:=st.own j o' g1 (by rw [<- he]; exact fF r h3);have:=r.inj qR i o0 o (sub _ _ f1) h3 (f2.trans he.symm)
   grind
  ·rw [st.θ i (r.live i o h3).1,st.θ j (r.live j o' g3).1] at he;exact r.inj i j o o' h3 g3 he
 ·refine r.Tc st.hd st.size (fun b Y=>(st.qQ b Y).imp id (Or.imp (fun⟨i,o,U,Z⟩=> ⟨i,o,sub _ _ U,Z⟩) id)) fun id o h ff=>?_;rcases nG id o h with U|⟨U,Z,h3⟩
  ·obtain⟨qR,o0,f1,f2⟩:=st.own id o U ff;exact⟨qR,o0,sub _ _ f1,f2⟩
  ·exact⟨id,o,h3,by rw [st.θ id (r.live id o h3).1]⟩
 ·intro b Y Gx;exact st.bX b Y fun id o h=>Gx id o (sub _ _ h)
 ·intro id o h ff;rcases nG id o h with U|⟨U,Z,h3⟩
  ·obtain⟨qR,o0,f1,f2⟩:=st.own id o U ff
   grind
  ·exact⟨id,o,h3,by rw [st.θ id (r.live id o h3).1]⟩
theorem frame [bI] {H1 O5:Hp} (r:bO E H w) (sub: ∀id o,H1.get id=some o->H.get id=some o) (st:eN E H1 w E' O5 w') (r':bO E' O5 w') (n:Nat) (hn: ∀id,n<=id->¬E'.dm id) :
 ∃H':Hp,H'.next=n/\H'.res=none/\(∀id o,O5.get id=some o->H'.get id=some o)/\(∀id o,H.get id=some o->H1.get id=none->H'.get id=some o)/\bO E' H' w'/\RO E H w E' H' w':=by
 obtain⟨H',h0,U,Z,h3,h4⟩:=XU r sub st r' n hn
 grind
end
section
variable {P:Program}
def EN [bI] (P:Program) (ρ:Nat->Int) (ops:Array Oper) (o:Oper) (S:Tr W) (H:Hp) (v:W) (H':Hp):Prop:=
 ∀(E:En) (a:Act) (w:World),E.ρ=ρ->bO E H w->SR E w.heap S a->
  (Region.wanted o (yielded ops a.tmps)=false/\v=W.undef/\H'=H)\/
  (Region.wanted o (yielded ops a.tmps)=true/\oC P o a w (fun u w'=> ∃E',eN E H w E' H' w'/\bO E' H' w'/\VR E' w'.heap v u))
theorem EN.wpOp [bI] {ρ:Nat->Int} {ops:Array Oper} {o:Oper} {S:Tr W} {H H':Hp} {v:W} (h:EN P ρ ops o S H v H') {E:En} {a:Act} {w:World} (hρ:E.ρ=ρ) (r:bO E H w) (sr:SR E w.heap S a)
 {i:Nat} (ho:ops[i]?=some o) {K:Act->World->Prop} {Q:Exit->Act->World->Prop}
 (hk: ∀(u:Value) (E':En) (w':World),eN E H w E' H' w'->bO E' H' w'->VR E' w'.heap v u->K (a.put o.dst u) w'):wpOp P ops Q i K a w:=by
 unfold Go.wpOp;simp only [ho];rcases h E a w hρ r sr with ⟨U,rfl,rfl⟩|⟨U,Z⟩
 ·rw [U];simp only [aL,if_false];exact hk undef E w (eN.refl _ _ _) r jN
 ·rw [U];simp only [if_true];exact .inl (Z _ _ fun u w' ⟨E',q1,q2,q3⟩=>hk u E' w' q1 q2 q3)
inductive Kind where
 |pa
 |e
 |r
 deriving DecidableEq
structure EJ [bI] (P:Program) (ρ:Nat->Int) (ops:Array Oper) (oM:Tr W) (H0:Hp) where
 base:Nat
 bf:Nat->Nat->Bool
 kd:Nat->Kind
 S:Nat->Tr W
 val:Nat->W
 st:Nat->Nat
 nE:Nat
 hp:Nat->Hp
 un:Nat->Nat->Bool
 nZ:Nat->Option dG
 gen: ∀i j,bf i j=true->∃(o:Oper) (e:Edge),ops[j]?=some o/\e∈o.after/\Region.binds .any e=true/\(e.on=i\/bf i e.on=true)
 back: ∀(j:Nat) (o:Oper),ops[j]?=some o->∀e∈o.after,Region.binds .any e=true->e.on<j
 dst: ∀(i j:Nat) (oi oj:Oper) (d:Nat),ops[i]?=some oi->ops[j]?=some oj->oi.dst=some d->oj.dst=some d->i=j
 bE: ∀(i:Nat) (o:Oper),ops[i]?=some o->∀t x,(S i).get t=some x->(∃(j:Nat) (oj:Oper),bf j i=true/\ops[j]?=some oj/\oj.dst=some t/\val j=x)\/(oM.get t=some x/\∀(j:Nat) (oj:Oper),ops[j]?=some oj->oj.dst=some t->bf i j=true)
 stl: ∀(j:Nat) (o:Oper),ops[j]?=some o->kd j= .e->st j<nE
 inj: ∀i j,kd i= .e->kd j= .e->st i=st j->i=j
 ahf: ∀(j:Nat) (o:Oper),ops[j]?=some o->kd j= .e->∀m,m<st j->∃i,kd i= .e/\st i=m/\bf i j=true
 pa: ∀(i:Nat) (o:Oper),ops[i]?=some o->kd i= .pa->∃HA N,EN P ρ ops o (S i) ⟨.nil,N,some (base+i)⟩ (val i) HA/\HA.next=N/\nZ i=HA.get (base+i)/\∀k,k<=nE->(hp k).next<=N
 ev: ∀(j:Nat) (o:Oper),ops[j]?=some o->kd j= .e->∃JD,EN P ρ ops o (S j) JD (val j) (hp (st j+1))/\JD.next=(hp (st j)).next/\JD.res=none/\
  (∀id x,JD.get id=some x->(hp (st j)).get id=some x\/∃a,bf a j=true/\un (st j) a=true/\id=base+a/\nZ a=some x)/\
  (∀a,un (st j+1) a=true->un (st j) a=true/\bf a j=false)
 rd: ∀(i:Nat) (o:Oper),ops[i]?=some o->kd i= .r->∀k,k<=nE->(∀j,kd j= .e->bf j i=true->st j<k)->(∀(j:Nat) (oj:Oper),ops[j]?=some oj->kd j= .e->bf i j=true->k<=st j)->
  ∃JD,EN P ρ ops o (S i) JD (val i) JD/\JD.next=(hp k).next/\JD.res=none/\
   (∀id x,JD.get id=some x->(hp k).get id=some x\/∃a,bf a i=true/\un k a=true/\id=base+a/\nZ a=some x)
 unm: ∀k a x,k<=nE->nZ a=some x->un k a=true->(hp k).get (base+a)=none
 nob: ∀i,kd i≠.pa->nZ i=none
 first:base=H0.next/\base+ops.size<=(hp 0).next/\∀id x,(hp 0).get id=some x->H0.get id=some x
section
variable {gl:bI} {ρ:Nat->Int} {ops:Array Oper} {oM:Tr W} {H0:Hp} (p:EJ P ρ ops oM H0)
structure EJ.Inv (E0:En) (a0:Act) (w0:World) (L:Nat->Prop) (a:Act) (w:World):Prop where
 defers:a.defers=a0.defers
 size:a.tmps.size=a0.tmps.size
 closed: ∀i j,p.bf i j=true->L j->L i
 ex: ∃(E:En) (Hc:Hp) (k:Nat),k<=p.nE/\(∀(j:Nat) (o:Oper),ops[j]?=some o->p.kd j= .e->(L j↔p.st j<k))/\E.ρ=ρ/\RO E0 H0 w0 E Hc w/\bO E Hc w/\Hc.next=(p.hp k).next/\Hc.res=none/\
  p.base+ops.size<=Hc.next/\(∀id,E.dm id->E0.dm id\/H0.next<=id)/\(∀(i:Nat) (o:Oper),ops[i]?=some o->¬L i->¬E.dm (p.base+i))/\
  (∀id x,(p.hp k).get id=some x->Hc.get id=some x)/\(∀b x,L b->p.un k b=true->p.nZ b=some x->Hc.get (p.base+b)=some x)/\
  (∀t x,oM.get t=some x->(∀(j:Nat) (oj:Oper),ops[j]?=some oj->oj.dst=some t->¬L j)->∃u,a.tmps[t]?=some u/\VR E w.heap x u)/\
  (∀(j:Nat) (oj:Oper) (t:Nat),L j->ops[j]?=some oj->oj.dst=some t->∃u,a.tmps[t]?=some u/\VR E w.heap (p.val j) u)
theorem C4 {a:Act} {d:Option Nat} {u:Value} {t:Nat} (h:d≠some t):(a.put d u).tmps[t]?=a.tmps[t]?:=by
 cases d with
 |none=>rfl
 |some x=>
  simp only [Act.put]
  grind
theorem E_ {a:Act} {u:Value} {t:Nat} (h:t<a.tmps.size):(a.put (some t) u).tmps[t]?=some u:=by simp [Act.put,h]
theorem EJ.ajk: ∀(j i:Nat),p.bf i j=true->i<j/\j<ops.size:=by
 intro j
 induction j using Nat.strongRecOn with
 |_ j ih=>
  intro i h;obtain⟨o,e,g1,g2,g3,g4⟩:=p.gen i j h;have ff:=p.back j o g1 e g2 g3
  grind
theorem EJ.acH {i j:Nat} (h:p.bf i j=true): ∃o:Oper,ops[i]?=some o:=by have:=p.ajk j i h;exact⟨ops[i]'J,ad⟩
theorem EJ.step {E0:En} {a0:Act} {w0:World} {L:Nat->Prop} {a:Act} {w:World} (hd: ∀o∈ops.toList,∀d,o.dst=some d->d<a0.tmps.size) (inv:p.Inv E0 a0 w0 L a w) {i:Nat} {o:Oper} (ho:ops[i]?=some o) (hL: ¬L i)
 (hr: ∀e∈o.after,Region.binds .any e=true->L e.on) {K:Act->World->Prop} {Q:Exit->Act->World->Prop} (hk: ∀a' w',p.Inv E0 a0 w0 (fun j=>j=i\/L j) a' w'->K a' w'):wpOp P ops Q i K a w:=by
 obtain⟨U,Z,Cf,E,Hc,k,hkn,Cb,hρ,JT,rel,hnx,xp,jW,tu,hun,hhp,mX,wH,hs1⟩:=inv
 have hbf: ∀j,p.bf j i=true->L j:=by
  intro j hj;obtain⟨o',e,g1,g2,g3,g4⟩:=p.gen j i hj;rw [ho] at g1;simp at g1;subst g1;have:=hr e g2 g3;rcases g4 with rfl|g4
  ·exact this
  ·exact Cf j e.on g4 this
 have hii:p.bf i i≠true:=fun h=>hL (hbf i h);have xH:i<ops.size:=(alK.1 ho).1
 have sr:SR E w.heap (p.S i) a:=by
  intro t x ht;rcases p.bE i o ho t x ht with ⟨j,oj,g1,g2,g3,g4⟩|⟨g1,g2⟩
  ·subst g4;exact hs1 j oj t (hbf j g1) g2 g3
  ·exact wH t x g1 fun j oj hj hjt hLj=>hL (Cf i j (g2 j oj hj hjt) hLj)
 have It: ∀x j,p.bf x j=true->(j=i\/L j)->(x=i\/L x):=by
  intro x j hx hj;rcases hj with rfl|hj
  ·exact .inr (hbf x hx)
  ·exact .inr (Cf x j hx hj)
 have fin: ∀(u:Value) (E':En) (Mj:Hp) (w':World) (k':Nat),RO E Hc w E' Mj w'->bO E' Mj w'->VR E' w'.heap (p.val i) u->k'<=p.nE->(∀(j:Nat) (o:Oper),ops[j]?=some o->p.kd j= .e->((j=i\/L j)↔p.st j<k'))->
  Mj.next=(p.hp k').next->Mj.res=none->Hc.next<=Mj.next->(∀id,E'.dm id->E.dm id\/Hc.next<=id\/id=p.base+i)->(∀id x,(p.hp k').get id=some x->Mj.get id=some x)->
  (∀b x,(b=i\/L b)->p.un k' b=true->p.nZ b=some x->Mj.get (p.base+b)=some x)->K (a.put o.dst u) w':=by
  intro u E' Mj w' k' q1 q2 q3 q4 q5 q6 q7 q8 q9 q10 q11;have kp:=q1.keeps rel;refine hk _ _ ⟨by rw [As.put_defers]; exact U,by rw [C3]; exact Z,It,E',Mj,k',q4,q5,q1.ρ.trans hρ,JT.trans q1,q2,q6,q7,bk jW q8,?_,?_,q10,q11,?_,?_⟩
  ·intro id h;rcases q9 id h with h|h|h
   ·exact tu id h
   ·right;have:=p.first.1;omega
   ·right;have:=p.first.1;omega
  ·intro j oj hj hn hdj;have hj2:=(alK.1 hj).1;rcases q9 _ hdj with h|h|h
   ·exact hun j oj hj (fun h'=>hn (.inr h')) h
   ·omega
   ·exact hn (.inl J)
  ·intro t x ht Gx;obtain⟨y,g1,g2⟩:=wH t x ht fun j oj hj hjt h'=>Gx j oj hj hjt (.inr h');exact⟨y,by rw [C4 (fun e=>Gx i o ho e (.inl rfl))]; exact g1,VR.bX kp _ _ g2⟩
  ·intro j oj t hj oF ht;by_cases hji:j=i
   ·subst hji;rw [ho] at oF;simp at oF;subst oF;rw [ht];exact⟨u,E_ (by rw [Z]; exact hd o (Array.mem_toList_iff.2 (ank ho)) t ht),q3⟩
   ·obtain⟨y,g1,g2⟩:=hs1 j oj t (hj.resolve_left hji) oF ht;refine⟨y,?_,VR.bX kp _ _ g2⟩;rw [C4]
    ·exact g1
    ·intro h;exact hji (p.dst j i oj o t oF ho ht h)
 cases yD:p.kd i with
 |pa=>
  obtain⟨HA,N,g1,g2,g3,g4⟩:=p.pa i o ho yD;have hN:=g4 k hkn;have ake:=hun i o ho hL
  have r1:bO E ⟨.nil,N,some (p.base+i)⟩ w:=rel.part (by intro id x h; simp [Hp.get,Tr.get] at h) (by show Hc.next<=N; omega) (by
   intro q hq;simp at hq;subst hq
   exact⟨by show p.base+i<N; omega,ake⟩)
  refine g1.wpOp hρ r1 sr ho fun u E' w' st r' hv=>?_
  have Q?: ∀id,E'.dm id->E.dm id\/id=p.base+i:=by
   intro id h;rcases st.Zn id h with h|h|h
   ·exact .inl h
   ·have h':N<=id/\id<HA.next:=h;omega
   ·have h':some (p.base+i)=some id:=h;simp at h';exact .inr h'.symm
  obtain⟨Mj,f1,f2,f3,f4,f5,f6⟩:=frame rel (by intro id x h; simp [Hp.get,Tr.get] at h) st r' Hc.next (fun id hid h=>by
   rcases Q? id h with h|h
   ·exact rel.fresh id hid h
   ·omega)
  refine fin u E' Mj w' k f6 f5 hv hkn ?_ (by rw [f1,hnx]) f2 J (fun id h=>(Q? id h).elim .inl fun h=> .inr (.inr h)) ?_ ?_
  ·intro j oj oF hj;rw [<- Cb j oj oF hj];constructor
   ·intro h;rcases h with rfl|h
    ·rw [yD] at hj; simp at hj
    ·exact h
   ·exact .inr
  ·intro id x h;exact f4 id x (hhp id x h) (by simp [Hp.get,Tr.get])
  ·intro b x Y hu hx;by_cases hbi:b=i
   ·subst hbi;rw [hx] at g3;exact f3 _ _ g3.symm
   ·exact f4 _ x (mX b x (Y.resolve_left hbi) hu hx) (by simp [Hp.get,Tr.get])
 |e=>
  obtain⟨JD,g1,g2,g3,g4,g5⟩:=p.ev i o ho yD
  have NJ:k<=p.st i:=by
   rcases aQ (p.st i) k with h|h
   ·exact absurd ((Cb i o ho yD).2 h) hL
   ·exact h
  have hsk:p.st i=k:=by
   rcases aQ k (p.st i) with h|h
   ·obtain⟨j,e1,e2,e3⟩:=p.ahf i o ho yD k h;have hj:=hbf j e3;obtain⟨oj,oF⟩:=p.acH e3;have:=(Cb j oj oF e1).1 hj;omega
   ·omega
  rw [hsk] at g1 g2 g4 g5;have hkE:=p.stl i o ho yD
  have lY: ∀id x,JD.get id=some x->Hc.get id=some x:=by
   intro id x h;rcases g4 id x h with h|⟨b,e1,e2,rfl,e4⟩
   ·exact hhp id x h
   ·exact mX b x (hbf b e1) e2 e4
  have r1:bO E JD w:=rel.part lY J (by rw [g3]; simp);refine g1.wpOp hρ r1 sr ho fun u E' w' st r' hv=>?_
  have Q?: ∀id,E'.dm id->E.dm id\/Hc.next<=id:=by
   intro id h;rcases st.Zn id h with h|h|h
   ·exact .inl h
   ·right; omega
   ·rw [g3] at h; simp at h
  obtain⟨Mj,f1,f2,f3,f4,f5,f6⟩:=frame rel lY st r' (p.hp (k+1)).next (fun id hid h=>r'.fresh id hid h)
  have alj:=st.Nh;refine fin u E' Mj w' (k+1) f6 f5 hv J ?_ f1 f2 J (fun id h=>(Q? id h).elim .inl fun h=> .inr (.inl h)) f3 ?_
  ·intro j oj oF hj;constructor
   ·intro h;rcases h with rfl|h
    ·omega
    ·have:=(Cb j oj oF hj).1 h;omega
   ·intro h;rcases aQ (p.st j) k with h'|h'
    ·exact .inr ((Cb j oj oF hj).2 h')
    ·exact .inl (p.inj j i hj yD J)
  ·intro b x Y hu hx;obtain⟨e1,e2⟩:=g5 b hu;by_cases hbi:b=i
   ·subst hbi;rw [p.nob b (by rw [yD]; simp)] at hx;simp at hx
   ·refine f4 _ x (mX b x (Y.resolve_left hbi) e1 hx) ?_
    cases hy:JD.get (p.base+b) with
    |none=>rfl
    |some y=>
     exfalso;rcases g4 _ y hy with h|⟨c,c1,c2,c3,c4⟩
     ·rw [p.unm k b x hkn hx e1] at h;simp at h
     ·have:c=b:=J
      subst this;rw [e2] at c1;simp at c1
 |r=>
  have hk1: ∀j,p.kd j= .e->p.bf j i=true->p.st j<k:=by intro j hj Y;obtain⟨oj,oF⟩:=p.acH Y;exact (Cb j oj oF hj).1 (hbf j Y)
  have Cc: ∀(j:Nat) (oj:Oper),ops[j]?=some oj->p.kd j= .e->p.bf i j=true->k<=p.st j:=by
   intro j oj oF hj Y;rcases aQ (p.st j) k with h|h
   ·exact absurd (Cf i j Y ((Cb j oj oF hj).2 h)) hL
   ·exact h
  obtain⟨JD,g1,g2,g3,g4⟩:=p.rd i o ho yD k hkn hk1 Cc
  have lY: ∀id x,JD.get id=some x->Hc.get id=some x:=by
   intro id x h;rcases g4 id x h with h|⟨b,e1,e2,rfl,e4⟩
   ·exact hhp id x h
   ·exact mX b x (hbf b e1) e2 e4
  have r1:bO E JD w:=rel.part lY J (by rw [g3]; simp);refine g1.wpOp hρ r1 sr ho fun u E' w' st r' hv=>?_
  have Q?: ∀id,E'.dm id->E.dm id:=by
   intro id h;rcases st.Zn id h with h|h|h
   ·exact h
   ·omega
   ·rw [g3] at h; simp at h
  obtain⟨Mj,f1,f2,f3,f4,f5,f6⟩:=frame rel lY st r' Hc.next (fun id hid h=>rel.fresh id hid (Q? id h))
  have An: ∀id x,Hc.get id=some x->Mj.get id=some x:=by
   intro id x h
   cases h':JD.get id with
   |none=>exact f4 id x h h'
   |some y=> have:=lY id y h';rw [h] at this;simp at this;subst this;exact f3 id x h'
  refine fin u E' Mj w' k f6 f5 hv hkn ?_ (by rw [f1,hnx]) f2 J (fun id h=> .inl (Q? id h)) (fun id x h=>An id x (hhp id x h)) ?_
  ·intro j oj oF hj;rw [<- Cb j oj oF hj];constructor
   ·intro h;rcases h with rfl|h
    ·rw [yD] at hj; simp at hj
    ·exact h
   ·exact .inr
  ·intro b x Y hu hx;by_cases hbi:b=i
   ·subst hbi;rw [p.nob b (by rw [yD]; simp)] at hx;simp at hx
   ·exact An _ x (mX b x (Y.resolve_left hbi) hu hx)
def left (l:Nat->Bool):Nat->Nat
 |0=>0
 |n+1=>left l n+(if l n then 0 else 1)
theorem PV {l l':Nat->Bool} (h: ∀j,l j=true->l' j=true): ∀n,left l' n<=left l n
 |0=>au _
 |n+1=>by
  have:=PV h n;simp only [left]
  grind
theorem PU {l l':Nat->Bool} (h: ∀j,l j=true->l' j=true) {i:Nat} (U:l i=false) (Z:l' i=true): ∀n,i<n->left l' n<left l n
 |0,hi=>by omega
 |n+1,hi=>by
  have hle:=PV h n;simp only [left];by_cases xH:i=n
  ·grind
  ·have:=PU h U Z n J
   grind
theorem Ad {l:Nat->Bool}: ∀n,left l n=0->∀i,i<n->l i=true
 |0,_,i,hi=>by omega
 |n+1,h,i,hi=>by
  simp only [left] at h;by_cases xH:i=n
  ·grind
  ·exact Ad n J i J
theorem EJ.SG (q:EJ P ρ ops oM H0) {listed:Array Bool} (gW:listed.size=ops.size) (h:Region.ready .any ops listed= []): ∀i,i<ops.size->listed[i]?=some true:=by
 intro i
 induction i using Nat.strongRecOn with
 |_ i ih=>
  intro hi
  cases hl:listed[i]? with
  |none=>rw [anD] at hl; omega
  |some b=>
   cases b with
   |true=>rfl
   |false=>
    exfalso;have ho:ops[i]?=some ops[i]:=by simp [hi]
    have:i∈Region.ready .any ops listed:=by rw [mem_ready];refine⟨by simp [hl],ops[i],ho,fun e he Y=>?_⟩;have ff:=q.back i _ ho e he Y;simp [ih e.on ff J]
    grind
theorem EJ.any {E0:En} {a0:Act} {w0:World} (hd: ∀o∈ops.toList,∀d,o.dst=some d->d<a0.tmps.size) {Q:Exit->Act->World->Prop} (hq: ∀a w,p.Inv E0 a0 w0 (fun i=>i<ops.size) a w->Q .normal a w) :
 ∀(fuel:Nat) (listed:Array Bool) (a:Act) (w:World),listed.size=ops.size->left (fun i=>listed.getD i true) ops.size<=fuel->p.Inv E0 a0 w0 (fun i=>listed[i]?=some true) a w->wpAny P .any ops Q fuel listed a w:=by
 have XG: ∀(listed:Array Bool) (a:Act) (w:World),listed.size=ops.size->p.Inv E0 a0 w0 (fun i=>listed[i]?=some true) a w->Region.ready .any ops listed= []->Q .normal a w:=by
  intro listed a w gW inv nF;have An:=p.SG gW nF;refine hq a w ?_
  have:(fun i=>listed[i]?=some true)=(fun i=>i<ops.size):=by
   grind
  grind
 intro fuel
 induction fuel with
 |zero=>
  intro listed a w gW QJ inv;have An:=Ad (l:=fun i=>listed.getD i true) ops.size J
  have nF:Region.ready .any ops listed= []:=by
   rw [amT];intro i hi;rw [mem_ready] at hi
   grind
  exact⟨nF,XG listed a w gW inv nF⟩
 |succ fuel ih=>
  intro listed a w gW QJ inv;refine⟨XG listed a w gW inv,fun i hi=>?_⟩;rw [mem_ready] at hi;obtain⟨U,o,Z,h3⟩:=hi;have xH:=(alK.1 Z).1
  have pE:listed[i]?=some false:=by simp_all
  refine p.step hd inv Z (by rw [pE]; simp) (fun e he Y=>?_) fun a' w' alp=>?_
  ·have:=h3 e he Y
   cases hc:listed[e.on]? with
   |none=>simp [hc] at this
   |some b=>simp [hc] at this; rw [this]
  ·refine ih _ a' w' (by simpa using gW) ?_ ?_
   ·have:=PU (l:=fun j=>listed.getD j true) (l':=fun j=>(listed.setIfInBounds i true).getD j true) (i:=i) (fun j hj=>?_) U ?_ ops.size xH
    ·omega
    ·by_cases hij:i=j
     all_goals simp_all
    simp_all
   grind
theorem EJ.start {E0:En} {s0:St} {a0:Act} {w0:World} (hs:s0.bE=oM) (hh:s0.h=H0) (hρ:E0.ρ=ρ) (fit:Fit E0 s0 a0 w0) (listed:Array Bool) (hl: ∀(i:Nat),listed[i]?≠some true):p.Inv E0 a0 w0 (fun i=>listed[i]?=some true) a0 w0:=by
 subst hs hh;obtain⟨U,Z,h3⟩:=p.first;have rel:=fit.rel;have r1:bO E0 ⟨s0.h.m,(p.hp 0).next,none⟩ w0:=rel.part (fun id x h=>h) (by show s0.h.next<=(p.hp 0).next; omega) ad;refine⟨rfl,rfl,fun i j _ h=>absurd h (hl j),E0,⟨s0.h.m,(p.hp 0).next,none⟩,0,alT _,fun j o _ _=> ⟨fun h=>absurd h (hl j),fun h=>by omega⟩,hρ,?_,r1,rfl,rfl,Z,fun id h=> .inl h,?_,fun id x h=>h3 id x h,fun b x h=>absurd h (hl b),?_,fun j oj t h=>absurd h (hl j)⟩
 ·have:=(eN.refl E0 s0.h w0).ajE;exact⟨this.ρ,this.dm,this.θ,this.κ,this.ro,this.qQ,this.os,this.tape,this.output,this.size,this.bX,this.own,this.hd⟩
 ·intro i o _ _ tu;exact rel.fresh _ J tu
 ·intro t x ht _;exact fit.sr t x ht
theorem EJ.finish {E0:En} {s0 s':St} {a0 a:Act} {w0 w:World} (hh:s0.h=H0) (inv:p.Inv E0 a0 w0 (fun i=>i<ops.size) a w) (hpc:bW ρ s'.pc)
 (akh: ∀t x,s'.bE.get t=some x->(∃(j:Nat) (oj:Oper),ops[j]?=some oj/\oj.dst=some t/\p.val j=x)\/(oM.get t=some x/\∀(j:Nat) (oj:Oper),ops[j]?=some oj->oj.dst≠some t))
 (alk: ∀id x,s'.h.get id=some x->(p.hp p.nE).get id=some x\/∃b,b<ops.size/\p.un p.nE b=true/\id=p.base+b/\p.nZ b=some x)
 (abB:(p.hp p.nE).next=s'.h.next) (xp:s'.h.res=none) (An: ∀(m:Nat),m<p.nE->∃(j:Nat) (o:Oper),ops[j]?=some o/\p.kd j= .e/\p.st j=m):mE E0 s0 a0 w0 s' a w:=by
 subst hh;obtain⟨U,Z,Cf,E,Hc,k,hkn,Cb,hρ,JT,rel,hnx,ND,jW,tu,hun,hhp,mX,wH,hs1⟩:=inv
 have hk:k=p.nE:=by
  rcases aQ k p.nE with h|h
  all_goals grind
 subst hk
 have lY: ∀id x,s'.h.get id=some x->Hc.get id=some x:=by
  intro id x h
  grind
 have hf:=p.first.1;refine⟨U,Z,E,?_,rel.part lY J (by rw [xp]; simp),?_,by rw [hρ]; exact hpc⟩
 ·refine RO.VZ ⟨JT.ρ,JT.dm,JT.θ,JT.κ,JT.ro,JT.qQ,JT.os,JT.tape,JT.output,JT.size,JT.bX,fun id o h=>JT.own id o (lY id o h),JT.hd⟩ J xp fun id h=>?_;rcases tu id h with g|g
  ·grind
  ·right;refine⟨g,?_⟩;rcases aQ id s'.h.next with g'|g'
   ·exact g'
   ·exact absurd h (rel.fresh id J)
 ·intro t x ht
  grind
end
end
end Go.As
end
section
namespace Go.As
noncomputable section
mutual
def eD:W->W->Bool
 | .bool a,.bool b=>nS a b
 | .int k a,.int l b=>decide (k=l)&&eR a b
 | .str a,.str b=>decide (a=b)
 | .ptr i o,.ptr j p=>decide (i=j)&&decide (o=p)
 | .tI,.tI=>true
 | .mU a,.mU b=>hY a b
 | .slice i o l c,.slice j p m d=>decide (i=j)&&decide (o=p)&&decide (l=m)&&decide (c=d)
 | .eg,.eg=>true
 | .ro a n f,.ro b m g=>hY a b&&decide (n=m)&&decide (f=g)
 | .map i,.map j=>decide (i=j)
 | .rq,.rq=>true
 | .func f a b,.func g c d=>decide (f=g)&&hY a c&&hY b d
 | .we,.we=>true
 | .iface t v,.iface u x=>decide (t=u)&&eD v x
 | .xe,.xe=>true
 | .agg a,.agg b=>hY a b
 | .tuple a,.tuple b=>hY a b
 | .Kh i,.Kh j=>decide (i=j)
 | .wi i a,.wi j b=>decide (i=j)&&decide (a=b)
 | .emp,.emp=>true
 | .eo a t,.eo b u=>eR a b&&Nat.beq t u
 | .jy a,.jy b=>eR a b
 | .oL i n t,.oL j m u=>Nat.beq i j&&eR n m&&Nat.beq t u
 | .zd i a x o,.zd j b y p=>Nat.beq i j&&Nat.beq a b&&eR x y&&Nat.beq o p
 | .tE i l n t,.tE j k m u=>Nat.beq i j&&eR l k&&eR n m&&Nat.beq t u
 | .any,.any=>true
 | .wR a t,.wR b u=>eR a b&&Nat.beq t u
 |_,_=>false
def hY:List W->List W->Bool
 |[],[]=>true
 |x::xs,y::ys=>eD x y&&hY xs ys
 |_,_=>false
end
mutual
theorem jq: ∀(x y:W),eD x y=true->x=y
 | .bool a,y,h=>by cases y<;>simp [eD] at h<;>rw [re _ _ h]
 | .int k a,y,h=>by cases y<;>simp [eD] at h<;>rw [h.1,cO _ _ h.2]
 | .str a,y,h=>by cases y<;>simp [eD] at h<;>simp [h]
 | .ptr i o,y,h=>by cases y<;>simp [eD] at h<;>simp [h]
 | .tI,y,h=>by cases y<;>simp [eD] at h<;>rfl
 | .mU a,y,h=>by cases y<;>simp [eD] at h; rw [fD _ _ h]
 | .slice i o l c,y,h=>by cases y<;>simp [eD] at h<;>simp [h]
 | .eg,y,h=>by cases y<;>simp [eD] at h<;>rfl
 | .ro a n f,y,h=>by cases y<;>simp [eD] at h; rw [fD _ _ h.1.1,h.1.2,h.2]
 | .map i,y,h=>by cases y<;>simp [eD] at h<;>simp [h]
 | .rq,y,h=>by cases y<;>simp [eD] at h<;>rfl
 | .func f a b,y,h=>by cases y<;>simp [eD] at h; rw [h.1.1,fD _ _ h.1.2,fD _ _ h.2]
 | .we,y,h=>by cases y<;>simp [eD] at h<;>rfl
 | .iface t v,y,h=>by cases y<;>simp [eD] at h; rw [h.1,jq _ _ h.2]
 | .xe,y,h=>by cases y<;>simp [eD] at h<;>rfl
 | .agg a,y,h=>by cases y<;>simp [eD] at h; rw [fD _ _ h]
 | .tuple a,y,h=>by cases y<;>simp [eD] at h; rw [fD _ _ h]
 | .Kh i,y,h=>by cases y<;>simp [eD] at h<;>simp [h]
 | .wi i a,y,h=>by cases y<;>simp [eD] at h<;>simp [h]
 | .emp,y,h=>by cases y<;>simp [eD] at h<;>rfl
 | .eo a t,y,h=>by cases y<;>simp [eD] at h<;>rw [h.2,cO _ _ h.1]
 | .jy a,y,h=>by cases y<;>simp [eD] at h<;>rw [cO _ _ h]
 | .oL i n t,y,h=>by cases y<;>simp [eD] at h<;>rw [h.1.1,cO _ _ h.1.2,h.2]
 | .zd i a x o,y,h=>by cases y<;>simp [eD] at h<;>rw [h.1.1.1,h.1.1.2,cO _ _ h.1.2,h.2]
 | .tE i l n t,y,h=>by cases y<;>simp [eD] at h<;>rw [h.1.1.1,cO _ _ h.1.1.2,cO _ _ h.1.2,h.2]
 | .any,y,h=>by cases y<;>simp [eD] at h<;>rfl
 | .wR a t,y,h=>by cases y<;>simp [eD] at h<;>rw [h.2,cO _ _ h.1]
theorem fD: ∀(xs ys:List W),hY xs ys=true->xs=ys
 |[],ys,h=>by cases ys<;>simp [hY] at h; rfl
 |x::xs,ys,h=>by
  cases ys with
  |nil=>simp [hY] at h
  |cons y ys=>simp [hY] at h; rw [jq _ _ h.1,fD _ _ h.2]
end
def Db (o:Op):List Nat:=o.operands.toList.filterMap fun
 | .tmp t=>some t
 |_=>none
def reads (all:List Oper) (o:Oper):List Nat:=match o.guard with
 |none=>Db o.op
 |some (j,_)=>match eT all j with
  |some oj=>match oj.dst with
   |some d=>d::Db o.op
   |none=>Db o.op
  |none=>Db o.op
def kindOf (tt:TT):Op->Kind
 | .load _ _=> .r
 | .lookup _ _ _ _=> .r
 | .call c=>match c.callee with
   | .builtin b=>match b with
     | .len=> .r
     | .min=> .pa
     | .max=> .pa
     |_=> .e
   |_=> .e
 | .store _ _ _=> .e
 | .insert _ _ _ _=> .e
 | .mapUpdate _ _ _ _=> .e
 | .next _ _=> .e
 | .range _ _=> .e
 | .convert t u _=>match tt t with
   |some i=>match i.kind with
    | .slice _=>match tt u with
      |some j=>match j.kind with
       | .string=> .r
       |_=> .e
      |none=> .e
    |_=> .pa
   |none=> .e
 | .panic _=> .e
 |_=> .pa
def nL (ms:List Nat):List Edge->Nat
 |[]=>0
 |e::es=>if Region.binds .any e then ((1 <<<e.on)|||ms.getD e.on 0)|||nL ms es else nL ms es
def pP:List Oper->List Nat->List Nat
 |[],ms=>ms
 |o::os,ms=>pP os (ms++ [nL ms o.after.toList])
structure Item where
 i:Nat
 o:Oper
 m:Nat
 k:Kind
 st:Nat
 rd:List Nat
def items (tt:TT) (all:List Oper) (ms:List Nat):List Oper->Nat->Nat->List Item
 |[],_,_=>[]
 |o::os,i,n=> ⟨i,o,ms.getD i 0,kindOf tt o.op,n,reads all o⟩ ::items tt all ms os (i+1) (match kindOf tt o.op with | .e=>n+1|_=>n)
def Kind.isE:Kind->Bool
 | .e=>true
 |_=>false
def Kind.M!:Kind->Bool
 | .r=>true
 |_=>false
def xc (ms:List Nat) (is:List Item) (x:Item):Bool:=
 x.o.after.toList.all (fun e=>!Region.binds .any e||decide (e.on<x.i))&&
 decide (x.m=nL ms x.o.after.toList)&&
 x.rd.all (fun t=>is.all fun y=>decide (y.o.dst≠some t)||x.m.testBit y.i||(!x.k.M!&&y.m.testBit x.i))&&
 is.all (fun y=>decide (y.i=x.i)||(match y.o.dst with |some d=>decide (x.o.dst≠some d)|none=>true))&&
 (!x.k.isE||is.all fun y=>!y.k.isE||!decide (y.i<x.i)||x.m.testBit y.i)
def zE (is:List Item) (n:Nat) (x:Item):List Nat:=
 (List.range (n+1)).filter fun k=>is.all fun y=>!y.k.isE||((!x.m.testBit y.i||decide (y.st<k))&&(!y.m.testBit x.i||decide (k<=y.st)))
structure Stat where
 is:List Item
 nE:Nat
 rs:List (Item×List Nat)
def jz:List Item->Nat
 |[]=>0
 |x::xs=>match x.k with | .e=>jz xs+1|_=>jz xs
def stat (tt:TT) (all:List Oper):Option Stat:=
 let ms:=pP all [];let is:=items tt all ms all 0 0
 if is.all (xc ms is) then
  some ⟨is,jz is,(is.filter (·.k.M!)).map fun x=>(x,zE is (jz is) x)⟩
 else none
def only (bE:Tr W):List Nat->Tr W
 |[]=> .nil
 |t::ts=>match bE.get t with
  |some v=>(only bE ts).put t (some v)
  |none=>only bE ts
structure O7 where
 bE:Tr W
 lR:List (Hp×Nat)
 gQ:List (Nat×dG)
 A4:List (Option dG)
 vs:List W
def fq (base bm mm:Nat):List (Nat×dG)->Hp->Hp
 |[],h=>h
 |(a,x)::r,h=>if bm.testBit a&&!mm.testBit a then (fq base bm mm r h).put (base+a) x else fq base bm mm r h
def i_ (tt:TT) (call:eh) (all:List Oper) (o:Oper) (s:St):T (W×St):=
 vx all s o fun s b=>if b then IN tt call s o.op else .ret (W.undef,s)
def tX (bE:Tr W) (d:Option Nat) (v:W):Tr W:=match d with
 |some t=>bE.put t (some v)
 |none=>bE
def Zu (tt:TT) (call:eh) (all:List Oper) (base N:Nat) (pc:List (SB×Bool)) (x:Item) (d:O7):T O7:=
 match d.lR with
 |[]=> .fail
 |(h,mm)::rest=>
  match x.k with
  | .pa=>(i_ tt call all x.o ⟨only d.bE x.rd,⟨.nil,N,some (base+x.i)⟩,pc⟩).bind fun (v,s')=>
    if s'.h.next=N then
     .ret ⟨tX d.bE x.o.dst v,d.lR,match s'.h.get (base+x.i) with |some b=>(x.i,b)::d.gQ|none=>d.gQ,s'.h.get (base+x.i)::d.A4,v::d.vs⟩
    else .fail
  | .e=>(i_ tt call all x.o ⟨only d.bE x.rd,fq base x.m mm d.gQ h,pc⟩).bind fun (v,s')=>
    if s'.h.next<=N/\s'.h.res=none then
     .ret ⟨tX d.bE x.o.dst v,(s'.h,mm|||x.m)::(h,mm)::rest,d.gQ,none::d.A4,v::d.vs⟩
    else .fail
  | .r=>(i_ tt call all x.o ⟨only d.bE x.rd,fq base x.m mm d.gQ h,pc⟩).bind fun (v,_)=>
    .ret ⟨tX d.bE x.o.dst v,d.lR,d.gQ,none::d.A4,v::d.vs⟩
def T.zn {α β:Type} (pc:List (SB×Bool)) (f:List (SB×Bool)->α->T β):T α->T β
 | .fail=> .fail
 | .ret a=>f pc a
 | .split c x y=>match jH pc c with
   |some true=>T.zn pc f x
   |some false=>T.zn pc f y
   |none=> .split c (T.zn ((c,true)::pc) f x) (T.zn ((c,false)::pc) f y)
def TE (tt:TT) (call:eh) (all:List Oper) (base N:Nat):List Item->List (SB×Bool)->O7->T (List (SB×Bool)×O7)
 |[],pc,d=> .ret (pc,d)
 |x::xs,pc,d=>(Zu tt call all base N pc x d).zn pc (TE tt call all base N xs)
def B0 (tt:TT) (call:eh) (all:List Oper) (base:Nat) (pc:List (SB×Bool)) (x:Item) (v:W) (S:Tr W) (gQ:List (Nat×dG)) (lR:List (Hp×Nat)):List Nat->T Unit
 |[]=> .ret ()
 |k::ks=>match eT lR k with
  |some (h,mm)=>(i_ tt call all x.o ⟨S,fq base x.m mm gQ h,pc⟩).bind fun (u,_)=>
   if eD u v then B0 tt call all base pc x v S gQ lR ks else .fail
  |none=> .fail
def HQ (tt:TT) (call:eh) (all:List Oper) (base:Nat) (d:O7) (lR:List (Hp×Nat)) (vs:List W):List (Item×List Nat)->List (SB×Bool)->T (List (SB×Bool))
 |[],pc=> .ret pc
 |(x,ks)::r,pc=>match eT vs x.i with
  |some v=>(B0 tt call all base pc x v (only d.bE x.rd) d.gQ lR ks).zn pc fun pc _=>HQ tt call all base d lR vs r pc
  |none=> .fail
def Hs (base:Nat) (gQ:List (Nat×dG)) (lR:List (Hp×Nat)):Bool:=
 gQ.all fun (a,_)=>lR.all fun (h,mm)=>mm.testBit a||(h.get (base+a)).isNone
def Eg (tt:TT) (call:eh) (all:List Oper) (q:Stat) (s:St):T St:=
 match s.h.res with
 |some _=> .fail
 |none=>
 let base:=s.h.next;let n:=all.length;let N:=base+n+1099511627776
 (TE tt call all base N q.is s.pc ⟨s.bE,[(⟨s.h.m,base+n,none⟩,0)],[],[],[]⟩).bind fun (pc,d)=>
  match d.lR with
  |[]=> .fail
  |(h,mm)::_=>
   (HQ tt call all base d d.lR.reverse d.vs.reverse q.rs pc).bind fun pc=>
    if Hs base d.gQ d.lR then .ret ⟨d.bE,fq base ((1 <<<n)-1) mm d.gQ h,pc⟩ else .fail
def draw (tt:TT) (call:eh) (all:List Oper) (s:St):T St:=
 match stat tt all with
 |none=> .fail
 |some q=>Eg tt call all q s
end
end Go.As
end
section
namespace Go.As
section
variable {P:Program}
theorem I4 [bI] {tt:TT} (cJ:ew P tt) {call:eh} (hc:gX P call) {ops:Array Oper} {o:Oper} {s s':St} {v:W} {ρ:Nat->Int} (hp:bW ρ s.pc) (h:(i_ tt call ops.toList o s).leaf ρ=some (v,s')) :
 EN P ρ ops o s.bE s.h v s'.h:=by
 intro E a w hρ r sr;subst hρ;unfold i_ at h;obtain⟨dY,fj,U⟩:=Dd ⟨r,sr,hp⟩ h;cases hw:Region.wanted o (yielded ops a.tmps)<;>rw [hw] at U
 ·grind [bC]
 ·simp only [if_true] at U;obtain⟨_,_,q3⟩:=QW cJ hc (s:={ s with pc:=dY }) (o:=o) r sr fj U;exact .inr ⟨rfl,q3⟩
theorem ia {α:Type} {ρ:Nat->Int} {s:St} {c:SB} {f:St->Bool->T α} {r:α} (h:(jx s c f).leaf ρ=some r): ∃dY b,(f { s with pc:=dY } b).leaf ρ=some r:=by
 unfold jx at h;split at h
 ·rename_i b _; exact⟨s.pc,b,h⟩
 grind [T.leaf]
theorem HZ {α:Type} {ρ:Nat->Int} {s:St} {all:List Oper} {o:Oper} {f:St->Bool->T α} {r:α} (h:(vx all s o f).leaf ρ=some r): ∃dY b,(f { s with pc:=dY } b).leaf ρ=some r:=by
 unfold vx at h;split at h
 ·exact⟨s.pc,true,h⟩
 ·split at h
  ·split at h
   ·split at h
    ·obtain⟨dY,b,U⟩:=ia h; exact⟨dY,_,U⟩
    ·exact⟨s.pc,_,h⟩
    grind [T.leaf]
   grind [T.leaf]
  grind [T.leaf]
theorem De {ρ:Nat->Int} {s:St} {x:Operand} {f:W->T (W×St)} {r:W×St} (h:(yh s x f).leaf ρ=some r): ∃v,(f v).leaf ρ=some r:=by
 grind [yh,T.leaf]
theorem vt {ρ:Nat->Int} {s s':St} {x:Option W} {v:W} (h:(oP s x).leaf ρ=some (v,s')):s'=s:=by
 unfold oP at h
 grind [bC,T.leaf]
theorem aeh {tt:TT} {op:Op} (h:kindOf tt op= .r):(∃t x,op= .load t x)\/(∃t x i ok,op= .lookup t x i ok)\/(∃c:Call,op= .call c/\c.callee= .builtin .len)\/∃t u x i j e,op= .convert t u x/\tt t=some i/\i.kind= .slice e/\tt u=some j/\j.kind= .string:=by
 unfold kindOf at h;split at h<;>try (simp at h; done)
 all_goals grind
theorem F5 {α:Type} {ρ:Nat->Int} {s:St} {i n:V} {f:St->T α} {r:α} (h:(yi s i n f).leaf ρ=some r): ∃dY,(f { s with pc:=dY }).leaf ρ=some r:=by
 unfold yi at h;obtain⟨fA,b1,U⟩:=ia h;split at U
 ·grind [T.leaf]
 ·obtain⟨jt,b2,Z⟩:=ia U
  grind [T.leaf]
theorem sZ {α:Type} {ρ:Nat->Int} {kk:TK} {k:W} {r:α} {f:St->T α}: ∀{es:List (W×W×Nat)} {s:St},(s5 kk k es s f).leaf ρ=some r->∃dY,(f { s with pc:=dY }).leaf ρ=some r
 |[],s,h=> ⟨s.pc,h⟩
 |(k',v,b)::es,s,h=>by
  simp only [s5] at h;split at h
  ·split at h
   ·exact⟨s.pc,h⟩
   ·exact sZ h
  ·split at h
   ·obtain⟨fA,b1,U⟩:=ia h;split at U
    ·grind
    ·obtain⟨jt,Z⟩:=sZ U
     grind
   ·exact⟨s.pc,h⟩
theorem ET {α:Type} {ρ:Nat->Int} {tt:TT} {t:Nat} {m k:W} {r:α} {f:St->T α} {s:St} (h:(ny tt t m k s f).leaf ρ=some r): ∃dY,(f { s with pc:=dY }).leaf ρ=some r:=by
 unfold ny at h;split at h
 ·split at h
  ·split at h
   ·split at h
    ·exact sZ h
    ·exact⟨s.pc,h⟩
   ·exact⟨s.pc,h⟩
  ·exact⟨s.pc,h⟩
 ·exact⟨s.pc,h⟩
theorem V? {s s':St} {cs:List W} {e:V} {v:W} {ρ:Nat->Int} (h:(GV s cs e).leaf ρ=some (v,s')):s'.h=s.h:=by
 grind [GV,T.leaf,F5,bC]
theorem Ty {tt:TT} {s s':St} {ty t:Nat} {k:W} {ok:Bool} {e:V} {v:W} {ρ:Nat->Int} (h:(yV tt ty k ok e t s).leaf ρ=some (v,s')):s'.h=s.h:=by
 unfold yV at h;split at h
 ·grind [T.leaf]
 ·split at h
  ·grind [T.leaf]
  ·obtain⟨dY,b,U⟩:=ia h
   grind [bC]
theorem AJ {α:Type} {ρ:Nat->Int} {i:V} {r:α}: ∀{ov:List (V×List W)} {s:St} {k:St->T α},(tO i ov s k).leaf ρ=some r->∃dY,(k { s with pc:=dY }).leaf ρ=some r
 |[],s,k,h=> ⟨s.pc,h⟩
 |(j,c)::l,s,k,h=>by
  simp only [tO] at h;split at h
  ·exact⟨s.pc,h⟩
  ·obtain⟨fA,b1,U⟩:=ia h;split at U
   ·grind
   ·obtain⟨jt,Z⟩:=AJ U
    grind
theorem Tz {tt:TT} {s s':St} {ty id es off:Nat} {i:V} {v:W} {ρ:Nat->Int} (h:(yW tt s ty id es i off).leaf ρ=some (v,s')):s'.h=s.h:=by
 unfold yW at h;split at h
 ·split at h
  ·grind [T.leaf,V?]
  ·split at h
   all_goals grind [F5,AJ,vt,T.leaf]
  grind [T.leaf]
 grind [T.leaf]
theorem yP {α:Type} {ρ:Nat->Int} {x:V} {r:α}: ∀{ov:List (V×W)} {s:St} {k:Option W->St->T α},(sQ x ov s k).leaf ρ=some r->∃o dY,(k o { s with pc:=dY }).leaf ρ=some r
 |[],s,k,h=> ⟨none,s.pc,h⟩
 |(j,c)::l,s,k,h=>by
  simp only [sQ] at h;split at h
  ·exact⟨_,s.pc,h⟩
  ·obtain⟨fA,b1,U⟩:=ia h;split at U
   ·exact⟨_,fA,U⟩
   ·obtain⟨o,jt,Z⟩:=yP U;exact⟨o,jt,Z⟩
theorem Tx {tt:TT} {ty:Nat} {k:W} {ok:Bool} {e:V} {ov:List (V×W)} {s s':St} {v:W} {ρ:Nat->Int} (h:(yU tt ty k ok e ov s).leaf ρ=some (v,s')):s'.h=s.h:=by
 unfold yU at h;split at h
 ·simp [T.leaf] at h
 ·split at h
  ·simp [T.leaf] at h
  ·obtain⟨o,fA,U⟩:=yP h;split at U
   ·have:=bC U;simp only [ak] at this;rw [<- this.2]
   ·obtain⟨jt,b2,Z⟩:=ia U;split at Z
    ·have:=bC Z;simp only [ak] at this;rw [<- this.2]
    ·simp [T.leaf] at Z
theorem aeX {tt:TT} {call:eh} {op:Op} {s s':St} {v:W} {ρ:Nat->Int} (hk:kindOf tt op= .r) (h:(IN tt call s op).leaf ρ=some (v,s')):s'.h=s.h:=by
 rcases aeh hk with ⟨t,x,rfl⟩|⟨t,x,i,ok,rfl⟩|⟨c,rfl,hc⟩|⟨t,u,x,i,j,e,rfl,hi,he,hj,hs⟩
 ·grind [IN,De,Tz,vt]
 ·grind [IN,De,Ty,Tx,ET,vt,T.leaf]
 ·simp only [IN,IY] at h;split at h
  ·grind [T.leaf]
  ·rw [hc] at h;simp only [vR] at h
   grind [vt,T.leaf]
 ·simp only [IN] at h;obtain⟨p,U⟩:=De h;split at U
  ·grind [Cm,T.leaf]
  obtain⟨H,e1,rfl⟩:=oO U;unfold oH at e1;rw [hi,hj] at e1;simp only [hs,he] at e1;split at e1
  ·grind
  ·split at e1
   ·split at e1
    ·grind
    ·split at e1
     ·rw [aO] at e1
      grind
     grind
    grind
   grind
theorem aiI {tt:TT} {call:eh} {all:List Oper} {o:Oper} {s s':St} {v:W} {ρ:Nat->Int} (hk:kindOf tt o.op= .r) (h:(i_ tt call all o s).leaf ρ=some (v,s')):s'.h=s.h:=by
 unfold i_ at h;obtain⟨dY,b,U⟩:=HZ h;cases b
 ·grind [bC]
 ·simp only [if_true] at U;exact aeX (s:={ s with pc:=dY }) hk U
theorem nO {base bm mm:Nat}: ∀{l:List (Nat×dG)} {h:Hp} {id:Nat} {x:dG},(fq base bm mm l h).get id=some x->h.get id=some x\/∃a,(a,x)∈l/\bm.testBit a=true/\mm.testBit a=false/\id=base+a
 |[],h,id,x,hh=> .inl hh
 |(a,y)::r,h,id,x,hh=>by
  simp only [fq] at hh;split at hh
  ·rename_i Y;rw [Hp.bR] at hh;split at hh
   ·rename_i e
    grind
   ·rcases nO hh with U|⟨b,U,Z⟩
    all_goals grind
  ·rcases nO hh with U|⟨b,U,Z⟩
   all_goals grind
theorem je {base bm mm:Nat}: ∀(l:List (Nat×dG)) (h:Hp),(fq base bm mm l h).next=h.next/\(fq base bm mm l h).res=h.res
 |[],h=> ⟨rfl,rfl⟩
 |(a,y)::r,h=>by
  have:=je (base:=base) (bm:=bm) (mm:=mm) r h;simp only [fq];split
  ·exact this
  grind
theorem yg {bE:Tr W}: ∀{ts:List Nat} {t:Nat} {x:W},(only bE ts).get t=some x->t∈ts/\bE.get t=some x
 |[],t,x,h=>by simp [only,Tr.get] at h
 |u::us,t,x,h=>by
  simp only [only] at h;split at h
  ·rename_i v hv;rw [Tr.bR] at h;split at h
   ·rename_i e
    grind
   ·have:=yg h
    grind
  ·have:=yg h
   grind
theorem vp {bE:Tr W} {d:Option Nat} {v:W} {t:Nat}:(tX bE d v).get t=if d=some t then some v else bE.get t:=by
 cases d with
 |none=>simp [tX]
 |some u=>
  grind [tX,Tr.bR]
theorem ow {ms:List Nat} {i:Nat}: ∀{es:List Edge},(nL ms es).testBit i=true->∃e∈es,Region.binds .any e=true/\(e.on=i\/(ms.getD e.on 0).testBit i=true)
 |[],h=>by simp [nL] at h
 |e::es,h=>by
  simp only [nL] at h;split at h
  ·rename_i Y;simp only [Nat.testBit_or,amg] at h;rcases h with (h|h)|h
   ·rw [Nat.shiftLeft_eq,aml,Nat.testBit_two_pow] at h
    grind
   ·grind
   ·obtain⟨e',U,Z⟩:=ow h
    grind
  ·obtain⟨e',U,Z⟩:=ow h
   grind
def jd (tt:TT):List Oper->Nat
 |[]=>0
 |o::os=>(match kindOf tt o.op with | .e=>1|_=>0)+jd tt os
theorem jv {tt:TT} {all:List Oper} {ms:List Nat}: ∀(os:List Oper) (i n j:Nat),(items tt all ms os i n)[j]?=(os[j]?).map fun o=> ⟨i+j,o,ms.getD (i+j) 0,kindOf tt o.op,n+jd tt (os.take j),reads all o⟩
 |[],i,n,j=>by simp [items]
 |o::os,i,n,j=>by
  simp only [items]
  cases j with
  |zero=>simp [jd]
  |succ j=>
   rw [aH,jv os]
   grind [jd]
theorem sq {tt:TT} {all:List Oper} {ms:List Nat}: ∀(os:List Oper) (i n:Nat),(items tt all ms os i n).length=os.length
 |[],i,n=>rfl
 |o::os,i,n=>by simp [items,sq os]
theorem my {tt:TT} {all:List Oper} {ms:List Nat}: ∀(os:List Oper) (i n:Nat),jz (items tt all ms os i n)=jd tt os
 |[],i,n=>rfl
 |o::os,i,n=>by
  simp only [items,jz,jd,my os]
  grind
end
section
variable {P:Program}
def EI [bI] (P:Program) (ρ:Nat->Int) (ops:Array Oper) (base N:Nat) (x:Item) (d:O7) (v:W) (ob:Option dG) (d1:O7):Prop:=
 ∃h mm rest,d.lR=(h,mm)::rest/\match x.k with
  | .pa=>d1.lR=d.lR/\∃HA,EN P ρ ops x.o (only d.bE x.rd) ⟨.nil,N,some (base+x.i)⟩ v HA/\HA.next=N/\ob=HA.get (base+x.i)
  | .e=>ob=none/\∃hn,d1.lR=(hn,mm|||x.m)::d.lR/\hn.next<=N/\hn.res=none/\EN P ρ ops x.o (only d.bE x.rd) (fq base x.m mm d.gQ h) v hn
  | .r=>ob=none/\d1.lR=d.lR
theorem Zt [bI] {tt:TT} (cJ:ew P tt) {call:eh} (hc:gX P call) {ops:Array Oper} {base N:Nat} {pc:List (SB×Bool)} {ρ:Nat->Int} (hp:bW ρ pc) {x:Item} {d d1:O7} (h:(Zu tt call ops.toList base N pc x d).leaf ρ=some d1) :
 ∃v ob,d1.bE=tX d.bE x.o.dst v/\d1.vs=v::d.vs/\d1.A4=ob::d.A4/\d1.gQ=(match ob with |some b=>(x.i,b)::d.gQ|none=>d.gQ)/\EI P ρ ops base N x d v ob d1:=by
 unfold Zu at h;split at h
 ·grind [T.leaf]
 ·rename_i h0 mm rest hs;split at h
  ·rename_i hk;obtain⟨⟨v,s'⟩,U,Z⟩:=T.eZ h;have ha:=I4 cJ hc (s:=⟨only d.bE x.rd,⟨.nil,N,some (base+x.i)⟩,pc⟩) hp U;simp only at Z;split at Z
   ·rename_i hn;have:=bC Z;subst this;refine⟨v,s'.h.get (base+x.i),rfl,rfl,rfl,?_,h0,mm,rest,hs,?_⟩
    all_goals grind
   grind [T.leaf]
  ·rename_i hk;obtain⟨⟨v,s'⟩,U,Z⟩:=T.eZ h;have ha:=I4 cJ hc (s:=⟨only d.bE x.rd,fq base x.m mm d.gQ h0,pc⟩) hp U;simp only at Z;split at Z
   ·rename_i hn;have:=bC Z;subst this;refine⟨v,none,rfl,rfl,rfl,rfl,h0,mm,rest,hs,?_⟩
    grind
   ·simp [T.leaf] at Z
  ·rename_i hk;obtain⟨⟨v,s'⟩,U,Z⟩:=T.eZ h;have:=bC Z;subst this;refine⟨v,none,rfl,rfl,rfl,rfl,h0,mm,rest,hs,?_⟩
   grind
theorem EI.lR [bI] {ρ:Nat->Int} {ops:Array Oper} {base N:Nat} {x:Item} {d d1:O7} {v:W} {ob:Option dG} (h:EI P ρ ops base N x d v ob d1): ∃pre,d1.lR=pre++d.lR/\pre.length=jz [x]:=by
 obtain⟨h0,mm,rest,hs,U⟩:=h;cases hk:x.k<;>rw [hk] at U
 ·simp_all [jz]
 ·obtain⟨_,hn,Z,_⟩:=U;exact⟨[(hn,mm|||x.m)],by rw [Z]; rfl,by simp [jz,hk]⟩
 simp_all [jz]
theorem EI.nxt [bI] {ρ:Nat->Int} {ops:Array Oper} {base N:Nat} {x:Item} {d d1:O7} {v:W} {ob:Option dG} (h:EI P ρ ops base N x d v ob d1) (hh: ∀q∈d.lR,q.1.next<=N/\q.1.res=none): ∀q∈d1.lR,q.1.next<=N/\q.1.res=none:=by
 obtain⟨h0,mm,rest,hs,U⟩:=h
 grind
structure ajs [bI] (P:Program) (ρ:Nat->Int) (ops:Array Oper) (base N:Nat) (xs:List Item) (d d':O7):Prop where
 vs: ∃pre,d'.vs=pre++d.vs/\pre.length=xs.length
 A4: ∃pre,d'.A4=pre++d.A4/\pre.length=xs.length
 lR: ∃pre,d'.lR=pre++d.lR/\pre.length=jz xs
 nZ: ∀a b,(a,b)∈d'.gQ->(a,b)∈d.gQ\/∃p x,xs[p]?=some x/\x.i=a/\d'.A4.reverse[d.A4.length+p]?=some (some b)
 akZ: ∀p x b,xs[p]?=some x->d'.A4.reverse[d.A4.length+p]?=some (some b)->(x.i,b)∈d'.gQ
 alC: ∀q,q∈d.gQ->q∈d'.gQ
 slot: ∀t x,d'.bE.get t=some x->(∃p y,xs[p]?=some y/\y.o.dst=some t/\d'.vs.reverse[d.vs.length+p]?=some x)\/(d.bE.get t=some x/\∀y∈xs,y.o.dst≠some t)
 same: ∀t,(∀y∈xs,y.o.dst≠some t)->d'.bE.get t=d.bE.get t
 nxt:(∀q∈d.lR,q.1.next<=N/\q.1.res=none)->∀q∈d'.lR,q.1.next<=N/\q.1.res=none
 at_: ∀p x,xs[p]?=some x->∃dp TD v ob pre,EI P ρ ops base N x dp v ob TD/\d'.vs.reverse[d.vs.length+p]?=some v/\d'.A4.reverse[d.A4.length+p]?=some ob/\d'.lR=pre++TD.lR/\dp.lR.length=d.lR.length+jz (xs.take p)/\
  (∀q,q∈dp.gQ->q∈d'.gQ)/\(∀t,(∀y∈xs.drop p,y.o.dst≠some t)->d'.bE.get t=dp.bE.get t)/\
  (∀t z,dp.bE.get t=some z->(∃p' y,p'<p/\xs[p']?=some y/\y.o.dst=some t/\d'.vs.reverse[d.vs.length+p']?=some z)\/(d.bE.get t=some z/\∀y∈xs.take p,y.o.dst≠some t))
theorem Wp {α:Type} {l pre l0:List α} {v:α} (h:l=pre++v::l0):l.reverse[l0.length]?=some v:=by
 grind
theorem Bx (x:Item) (xs:List Item):jz (x::xs)=jz [x]+jz xs:=by
 grind [jz]
theorem T.lK {α β:Type} {ρ:Nat->Int} {f:List (SB×Bool)->α->T β} {r:β}: ∀{x:T α} {pc:List (SB×Bool)},bW ρ pc->(x.zn pc f).leaf ρ=some r->∃a dY,x.leaf ρ=some a/\bW ρ dY/\(f dY a).leaf ρ=some r
 | .fail,pc,_,h=>by simp [T.zn,T.leaf] at h
 | .ret a,pc,hp,h=> ⟨a,pc,rfl,hp,h⟩
 | .split c x y,pc,hp,h=>by
   simp only [T.zn] at h
   cases hd:jH pc c with
   |some b=>
    rw [hd] at h;have Y:=gp hp hd;simp only [T.leaf,Y]
    cases b with
    |true=>exact T.lK hp h
    |false=>exact T.lK hp h
   |none=>
    rw [hd] at h;simp only [T.leaf] at h ⊢
    cases Y:c.den ρ with
    |true=>
     rw [Y] at h
     exact T.lK (x:=x) (pc:=(c,true)::pc) (fun c' b' hm=>by
      rcases ax.1 hm with he|hm
      ·simp only [ak] at he; rw [he.1,he.2]; exact Y
      ·exact hp c' b' hm) h
    |false=>
     rw [Y] at h
     exact T.lK (x:=y) (pc:=(c,false)::pc) (fun c' b' hm=>by
      rcases ax.1 hm with he|hm
      ·simp only [ak] at he; rw [he.1,he.2]; exact Y
      ·exact hp c' b' hm) h
theorem Rh {tt:TT} {call:eh} {all:List Oper} {base N:Nat} {ρ:Nat->Int}: ∀(xs:List Item) {pc dY:List (SB×Bool)} {d d':O7},bW ρ pc->(TE tt call all base N xs pc d).leaf ρ=some (dY,d')->bW ρ dY
 |[],pc,dY,d,d',hp,h=>by
  have:=bC h
  grind
 |x::xs,pc,dY,d,d',hp,h=>by simp only [TE] at h;obtain⟨d1,fA,_,fk,Z⟩:=T.lK hp h;exact Rh xs fk Z
theorem Ri [bI] {tt:TT} (cJ:ew P tt) {call:eh} (hc:gX P call) {ops:Array Oper} {base N:Nat} {ρ:Nat->Int}: ∀(xs:List Item) {pc dY:List (SB×Bool)} {d d':O7},bW ρ pc->(TE tt call ops.toList base N xs pc d).leaf ρ=some (dY,d')->ajs P ρ ops base N xs d d'
 |[],pc,dY,d,d',hp,h=>by have:=bC h;simp only [ak] at this;obtain⟨_,rfl⟩:=this;exact⟨⟨[],rfl,rfl⟩,⟨[],rfl,rfl⟩,⟨[],rfl,rfl⟩,fun a b h=> .inl h,fun p x b hh=>by simp at hh,fun q h=>h,fun t x h=> .inr ⟨h,ad⟩,fun t _=>rfl,fun h=>h,fun p x hh=>by simp at hh⟩
 |x::xs,pc,dY,d,d',hp,h=>by
  simp only [TE] at h;obtain⟨d1,fA,U,fk,Z⟩:=T.lK hp h;obtain⟨v,ob,e1,e2,e3,e4,hF⟩:=Zt cJ hc hp U;obtain⟨⟨pv,v1,v2⟩,⟨po,o1,o2⟩,⟨ps,s1,s2⟩,b1,b2,b3,sl,sm,nx,mB⟩:=Ri cJ hc xs fk Z;obtain⟨qs,t1,t2⟩:=hF.lR;have hv0:d'.vs.reverse[d.vs.length]?=some v:=Wp (by rw [v1,e2]);have ho0:d'.A4.reverse[d.A4.length]?=some ob:=Wp (by rw [o1,e3]);have hvl:d1.vs.length=d.vs.length+1:=by rw [e2]; rfl
  have hol:d1.A4.length=d.A4.length+1:=by rw [e3]; rfl
  have sG: ∀q,q∈d.gQ->q∈d1.gQ:=by
   intro q hq
   grind
  have xo: ∀(p n:Nat),n+1+p=n+(p+1):=by intro p n; omega
  refine⟨⟨pv++ [v],by rw [v1,e2]; simp,by simp [v2]⟩,⟨po++ [ob],by rw [o1,e3]; simp,by simp [o2]⟩,⟨ps++qs,by rw [s1,t1]; simp,by rw [a8,Bx,s2,t2]; omega⟩,?_,?_,fun q hq=>b3 q (sG q hq),?_,?_,fun hh=>nx (hF.nxt hh),?_⟩
  ·intro a b DG;rcases b1 a b DG with hh|⟨p,y,g1,g2,g3⟩
   ·rw [e4] at hh
    cases ob with
    |none=>exact .inl hh
    |some c=>
     simp only [ax,ak] at hh;rcases hh with ⟨rfl,rfl⟩|hh
     ·exact .inr ⟨0,x,rfl,rfl,ho0⟩
     ·exact .inl hh
   ·exact .inr ⟨p+1,y,by simpa using g1,g2,by rw [<- xo,<- hol]; exact g3⟩
  ·intro p y b hy Y
   cases p with
   |zero=> simp at hy;subst hy;rw [bg,ho0] at Y;simp at Y;subst Y;exact b3 _ (by rw [e4]; simp)
   |succ p=> refine b2 p y b (by simpa using hy) ?_;rw [hol,xo];exact Y
  ·intro t y hy;rcases sl t y hy with ⟨p,z,g1,g2,g3⟩|⟨g1,g2⟩
   ·exact .inl ⟨p+1,z,by simpa using g1,g2,by rw [<- xo,<- hvl]; exact g3⟩
   ·rw [e1,vp] at g1;split at g1
    ·rename_i hd;simp at g1;subst g1;exact .inl ⟨0,x,rfl,hd,hv0⟩
    ·rename_i hd;refine .inr ⟨g1,fun z hz=>?_⟩;rcases ax.1 hz with rfl|hz
     ·exact hd
     ·exact g2 z hz
  ·intro t ht;rw [sm t fun y hy=>ht y (by simp [hy]),e1,vp,af (ht x ad)]
  ·intro p y hy
   cases p with
   |zero=> simp at hy;subst hy;refine⟨d,d1,v,ob,ps,hF,hv0,ho0,s1,by simp [jz],fun q hq=>b3 q (sG q hq),fun t ht=>?_,fun t z hz=> .inr ⟨hz,ad⟩⟩;rw [sm t fun y hy=>ht y (by simp [hy]),e1,vp,af (ht x ad)]
   |succ p=>
    obtain⟨dp,TD,v',ob',pre,g1,g2,g3,g4,g5,g6,g7,g8⟩:=mB p y (by simpa using hy);refine⟨dp,TD,v',ob',pre,g1,by rw [<- xo,<- hvl]; exact g2,by rw [<- xo,<- hol]; exact g3,g4,?_,g6,fun t ht=>g7 t (by simpa using ht),fun t z hz=>?_⟩
    ·rw [g5,amp,Bx,t1,a8,t2];omega
    ·rcases g8 t z hz with ⟨p',y',q1,q2,q3,q4⟩|⟨q1,q2⟩
     ·exact .inl ⟨p'+1,y',J,by simpa using q2,q3,by rw [<- xo,<- hvl]; exact q4⟩
     ·rw [e1,vp] at q1;split at q1
      ·rename_i hd;simp at q1;subst q1;exact .inl ⟨0,x,J,rfl,hd,hv0⟩
      ·rename_i hd;refine .inr ⟨q1,fun u hu=>?_⟩;rw [amp] at hu;rcases ax.1 hu with rfl|hu
       ·exact hd
       ·exact q2 u hu
end
end Go.As
end

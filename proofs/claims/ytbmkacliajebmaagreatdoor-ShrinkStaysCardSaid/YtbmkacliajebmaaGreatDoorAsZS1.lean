import Derived.Test.YtbmkacliajebmaaGreatDoorAsZS0
set_option linter.unusedSectionVars false
set_option linter.unusedVariables false
set_option linter.unusedSimpArgs false
section
namespace Go.As
section
variable {P:Program} {E:En} {w:World}
theorem bP.swap [bI] {H H2:Hp} (r:bP E H w) {id:Nat} {o o':dG} (hl:H.get id=some o) (ho:OR E w.heap id o') (hg:H2.get id=some o') (hs: ∀j,j≠id->H2.get j=H.get j) (hn:H2.next=H.next) (hr:H2.res=H.res):bP E H2 w:=by
 have key: ∀j x,H2.get j=some x->∃y,H.get j=some y:=by
  intro j x hj
  grind
 refine⟨fun i hi=>r.fresh i (by rw [<- hn]; exact hi),fun q hq=>by rw [hn]; exact r.res q (by rw [<- hr]; exact hq),fun j x hj=>?_,fun i j x y hi hj he=>?_,r.pS,r.iT,?_⟩
 ·by_cases h:j=id
  ·subst h;rw [hg] at hj;simp only [ag] at hj;subst hj;exact⟨(r.live j o hl).1,ho,(r.live j o hl).2.2⟩
  ·exact r.live j x (by rw [<- hs j h]; exact hj)
 ·obtain⟨x',hx⟩:=key i x hi;obtain⟨y',hy⟩:=key j y hj;exact r.inj i j x' y' hx hy he
 ·intro b x Y;obtain⟨q1,q2,q3⟩:=r.hid b x Y;refine⟨q1,q2,fun j y hj=>?_⟩;obtain⟨y',hy⟩:=key j y hj;exact q3 j y' hy
structure Fu (H H2:Hp):Prop where
 ab: ∀j x,H.get j=some x->∃y,H2.get j=some y
 ba: ∀j x,H2.get j=some x->∃y,H.get j=some y
 next:H2.next=H.next
 res:H2.res=H.res
theorem Fu.put {H:Hp} {id:Nat} {o o':dG} (hl:H.get id=some o):Fu H (H.put id o'):=by
 refine⟨fun j x hj=>?_,fun j x hj=>?_,rfl,rfl⟩
 all_goals grind [Hp.bR]
theorem Fu.symm {H H2:Hp} (a:Fu H H2):Fu H2 H:=⟨a.ba,a.ab,a.next.symm,a.res.symm⟩
theorem eM.left {H H2 H':Hp} {E':En} {w':World} (a:Fu H H2) (s:eM E H w E' H' w'):eM E H2 w E' H' w':=
 ⟨s.ρ,s.dm,s.θ,s.κ,s.ro,fun b Y=>(s.qW b Y).imp id (Or.imp (fun⟨i,o,U,Z⟩=>by obtain⟨y,hy⟩:=a.ab i o U; exact⟨i,y,hy,Z⟩) id),by rw [a.next]; exact s.NK,by rw [a.res]; exact s.rsm,
  fun i hi=>by rw [a.next,a.res]; exact s.ZW i hi,s.os,s.tape,s.output,s.size,fun b Y hn=>s.bX b Y fun i o ho=>by obtain⟨y,hy⟩:=a.ab i o ho; exact hn i y hy,
  fun i o ho fe=>by obtain⟨i0,o0,U,Z⟩:=s.own i o ho fe; obtain⟨y,hy⟩:=a.ab i0 o0 U; exact⟨i0,y,hy,Z⟩,s.hd⟩
theorem eM.right {H H' H2:Hp} {E':En} {w':World} (a:Fu H' H2) (s:eM E H w E' H' w'):eM E H w E' H2 w':=
 ⟨s.ρ,s.dm,s.θ,s.κ,s.ro,s.qW,by rw [a.next]; exact s.NK,by rw [a.res]; exact s.rsm,
  fun i hi=>by rw [a.next]; exact s.ZW i hi,s.os,s.tape,s.output,s.size,s.bX,
  fun i o ho fe=>by obtain⟨y,hy⟩:=a.ba i o ho; exact s.own i y hy fe,s.hd⟩
theorem dP.of {ro:Nat->Prop} {h:Array Obj} {d:D} (f:Nat->Value): ∀(cs:List CK) (j:Nat),(∀i c,cs[i]?=some c->iR ro h c (d.hd (j+i)) (f (j+i)))->dP ro h cs j d ((List.range' j cs.length).map f)
 |[],j,_=>by simp [dP]
 |c::cs,j,hh=>by
  simp only [aK,List.range'_succ,ax,dP];refine⟨f j,_,rfl,by simpa using hh 0 c ad,dP.of f cs (j+1) fun i c' hi=>?_⟩;have:=hh (i+1) c' (by simpa using hi)
  grind
theorem Rd.row {ro:Nat->Prop} {h:Array Obj} {t:Nat} {d:D} {v:Value} (r:Rd ro h (.sl t) d v) {i:Nat} {x:D} (hi:d.l[i]?=some x) :
 ∃b o cap us,v= .slice (some ⟨b,o,none⟩) d.l.length cap/\ro b/\wH ro h (rowOf t) x us/\fI h b (o+i*(rowOf t).es) us:=by
 generalize hc:CK.sl t=c at r
 cases r with
 |int k n=>simp at hc
 |bool b=>simp at hc
 |str s=>simp at hc
 |nil t=>simp [D.l] at hi
 |vG t a cap=>simp [D.l] at hi
 |one t' c b o cap ds f hr fR Y U Z=>
  simp only [CK.sl.injEq] at hc;subst hc;rw [bM] at hi ⊢;refine⟨b,o,cap,[f i],rfl,Y,?_,?_⟩
  ·rw [hr];exact⟨_,rfl,(Z i x hi).cell⟩
  ·rw [hr];intro j u hj
   grind [Row.es]
 |many t' cs b o cap rows f hr fR Y hl U Z=>
  simp only [CK.sl.injEq] at hc;subst hc;rw [bM] at hi ⊢;rw [bn,aO] at hi;obtain⟨row,lz,rfl⟩:=hi;have hlen:=hl row (bu lz);refine⟨b,o,cap,(List.range' 0 cs.length).map (f i),ad,Y,?_,?_⟩
  ·rw [hr];refine dP.of (f i) cs 0 fun j c hj=>?_;have hjl:j<row.length:=by rw [hlen]; exact (aW.1 hj).1
   have hd:row[j]?=some row[j]:=aM hjl;rw [ay];have:(dL row).hd j=row[j]:=by simp [D.hd,hd]
   rw [this];exact (Z i row j _ c lz hd hj).cell
  ·rw [hr];intro j u hj;rw [bn,aO] at hj;obtain⟨k,hk,rfl⟩:=hj
   have hjl:j<cs.length:=by
    grind
   rw [List.getElem?_range' hjl] at hk;simp only [ag] at hk;obtain rfl:k=j:=J
   have hd:row[k]?=some row[k]:=aM J;exact U i row k _ lz hd
theorem AS (ρ:Nat->Int) (e i:V) {x:D} {k:Nat} (hi:i.den ρ=(k:Int)) (hx:(dec (e.den ρ)).l[k]?=some x):dec ((V.op .at e i).den ρ)=x:=by simp only [V.den,e9.den,bB,D.at,hi,bj,hx,az]
theorem nk {tt:TT} (cJ:ep P tt) {ty z:Nat} (h:s7 tt ty=some z): ∃el ie,P.underlying ty=some (.slice el)/\tt el=some ie/\ie.size=z:=by
 unfold s7 at h;split at h
 ·rename_i ti fL;split at h
  ·rename_i el hk;simp only [hY,aO] at h;obtain⟨ie,kA,rfl⟩:=h;exact⟨el,ie,eW (cJ ty ti fL) hk,kA,rfl⟩
  grind
 grind
theorem OH {tt:TT} (cJ:ep P tt) {s s':St} (hp:bW E.ρ s.pc) {ty t:Nat} {e:V} {ix v:W} {u ui:Value} (hx:VR E w.heap (.ej e t) u) (yQ:VR E w.heap ix ui) (h:(Jd tt s ty t e ix).leaf E.ρ=some (v,s')) :
 s'.bD=s.bD/\s'.h=s.h/\bW E.ρ s'.pc/\∃r,(Instr.indexAt ty u ui).run P w= .ok r w/\VR E w.heap v r:=by
 unfold Jd at h;split at h
 ·rename_i kd i;split at h
  ·rename_i z hz;split at h
   ·rename_i jD;obtain⟨dZ,fh,U,Z,h3⟩:=nr hp h;have:=bC h3;simp only [ak] at this;obtain⟨rfl,rfl⟩:=this;refine⟨rfl,rfl,fh,?_⟩;rw [cC] at Z;simp only [VR] at hx yQ;subst yQ;obtain⟨el,ie,hu,kA,rfl⟩:=nk cJ hz;obtain⟨k,hk⟩ : ∃k:Nat,i.den E.ρ=(k:Int):=⟨(i.den E.ρ).toNat,J⟩;have fe:k<(dec (e.den E.ρ)).l.length:=J
    have hd:(dec (e.den E.ρ)).l[k]?=some (dec (e.den E.ρ)).l[k]:=aM fe;obtain⟨b,o,cap,us,rfl,g1,g2,g3⟩:=hx.row hd;refine⟨.pointer (some ⟨b,o+k*ie.size,none⟩),?_,?_⟩
    ·rw [hk];simp [Instr.indexAt,asIntOf,run_underlying hu,ek (cJ el ie kA),fe,eT]
    ·simp only [VR];exact⟨b,_,us,rfl,g1,by rw [fV,AS E.ρ e i hk hd]; exact g2,by rw [jD]; exact g3,g2.rB⟩
   grind [T.leaf]
  grind [T.leaf]
 grind [T.leaf]
theorem Om {tt:TT} (cJ:ep P tt) {s s':St} (hp:bW E.ρ s.pc) {ty t id:Nat} {n:V} {ix v:W} {u ui:Value} (hx:VR E w.heap (.oS id n t) u) (yQ:VR E w.heap ix ui) (h:(I0 tt s ty id t n ix).leaf E.ρ=some (v,s')) :
 s'.bD=s.bD/\s'.h=s.h/\bW E.ρ s'.pc/\∃r,(Instr.indexAt ty u ui).run P w= .ok r w/\VR E w.heap v r:=by
 unfold I0 at h;split at h
 ·rename_i kd i;split at h
  ·rename_i z hz;split at h
   ·rename_i jD;obtain⟨dZ,fh,U,Z,h3⟩:=nr hp h;have:=bC h3;simp only [ak] at this;obtain⟨rfl,rfl⟩:=this;refine⟨rfl,rfl,fh,?_⟩;simp only [VR] at hx yQ;subst yQ;obtain⟨hid,m,a,cap,hn,rfl,gJ,hc⟩:=hx;obtain⟨el,ie,hu,kA,rfl⟩:=nk cJ hz;obtain⟨k,hk⟩ : ∃k:Nat,i.den E.ρ=(k:Int):=⟨(i.den E.ρ).toNat,J⟩;have fe:k<m:=J
    have ha:a=⟨(E.θ id).1,(E.θ id).2,none⟩:=by
     simp only [eE] at hc
     grind
    subst ha;refine⟨.pointer (some ⟨(E.θ id).1,(E.θ id).2+k*ie.size,none⟩),?_,?_⟩
    ·rw [hk];simp [Instr.indexAt,asIntOf,run_underlying hu,ek (cJ el ie kA),fe,eT]
    ·simp only [VR]
     grind
   grind [T.leaf]
  grind [T.leaf]
 grind [T.leaf]
theorem nF {ρ:Nat->Int} {pc:List (SB×Bool)} (hp:bW ρ pc) {ZX cs:List W} {i:V} {k:Nat} (hi:i.den ρ=(k:Int)): ∀{ov:List (V×List W)},nG pc ZX i ov=some cs->
 dX ρ k ov=some cs\/(dX ρ k ov=none/\cs=ZX)
 |[],h=>by simp only [nG,ag] at h; exact .inr ⟨rfl,h.symm⟩
 |(j,c)::l,h=>by
  simp only [nG] at h;simp only [dX];split at h
  ·rename_i he
   grind [cO]
  ·split at h
   ·rename_i b hd;have hd:=gq hp hd;rw [gw] at hd;split at h
    ·grind
    ·rw [beq_eq_false_iff_ne,hi] at hd;rw [af (fun q=>hd q.symm)];exact nF hp hi h
   grind
theorem vu {α:Type} {ρ:Nat->Int} {i:V} {r:α}: ∀{ov:List (V×List W)} {s:St} {k:St->T α},bW ρ s.pc->(tU i ov s k).leaf ρ=some r->∃dZ,bW ρ dZ/\(k { s with pc:=dZ }).leaf ρ=some r
 |[],s,k,hp,h=> ⟨s.pc,hp,h⟩
 |(j,c)::l,s,k,hp,h=>by
  simp only [tU] at h;split at h
  ·exact⟨s.pc,hp,h⟩
  ·obtain⟨fA,fj,U⟩:=cH hp h;split at U
   ·grind
   ·exact vu (s:={ s with pc:=fA }) fj U
theorem iY {ρ:Nat->Int} {r:Row} {ov:List (V×List W)} (ho:sA r ov): ∀{ds:List D} {j k:Nat} {x:D},ds[k]?=some x->
 bF ρ r ov ds j=bF ρ r ov (ds.take k) j++((match dX ρ (j+k) ov with |some cs=>cs|none=>gz r (.ej x))++bF ρ r ov (ds.drop (k+1)) (j+k+1))/\(bF ρ r ov (ds.take k) j).length=k*r.es
 |[],j,k,x,h=>by simp at h
 |d::ds,j,0,x,h=>by
  simp only [aG,ag] at h;subst h;refine⟨?_,by simp [bF]⟩;simp only [List.take_zero,bF,aF,bd,anD,amh]
  try rfl
 |d::ds,j,k+1,x,h=>by
  have h':ds[k]?=some x:=by simpa using h
  have hk:k<ds.length:=(aW.1 h').1;obtain⟨U,Z⟩:=iY (ρ:=ρ) ho (j:=j+1) h';refine⟨?_,?_⟩
  ·simp only [amw,bF,amj,anD]
   grind
  grind [cD]
theorem s8 {α:Type}: ∀(a b:List α),eD a.length (a++b)=some b
 |[],_=>rfl
 |x::a,b=>by simp [eD,s8 a b]
theorem Es {α:Type}: ∀{n:Nat} {a b l:List α},eD n a=some l->eD n (a++b)=some (l++b)
 |0,a,b,l,h=>by simp only [eD,ag] at h ⊢; rw [h]
 |n+1,[],b,l,h=>by simp [eD] at h
 |n+1,x::a,b,l,h=>by simp only [eD,aP] at h ⊢; exact Es h
theorem CQ {α:Type}: ∀{n:Nat} {a b l:List α},hU n a=some l->hU n (a++b)=some l
 |0,a,b,l,h=>by simp only [hU] at h ⊢; exact h
 |n+1,[],b,l,h=>by simp [hU] at h
 |n+1,x::a,b,l,h=>by
  simp only [hU,aP] at h ⊢;split at h
  ·rename_i l' hl;rw [CQ hl];exact h
  grind
theorem Hl {α:Type}: ∀{a b:Nat} {l m:List α},eD a l=some m->eD (a+b) l=eD b m
 |0,b,l,m,h=>by simp only [eD,ag] at h; subst h; rw [ay]
 |a+1,b,[],m,h=>by simp [eD] at h
 |a+1,b,x::l,m,h=>by rw [show a+1+b=(a+b)+1 by omega];simp only [eD] at h ⊢;exact Hl h
noncomputable def cN (ρ:Nat->Int) (e:V) (t:Nat) (ov:List (V×List W)):List W:=bF ρ (rowOf t) ov (dec (e.den ρ)).l 0
theorem OR.n9 {h:Array Obj} {id:Nat} {e:V} {t:Nat} {ty:TypeId} {ov:List (V×List W)}:OR E h id (.vec e t ty ov)↔(sA (rowOf t) ov/\rX (rowOf t) (dec (e.den E.ρ)))/\OR E h id (.cells (cN E.ρ e t ov) ty):=by simp only [OR,cN]
theorem bP.n9 [bI] {H:Hp} (r:bP E H w) {id:Nat} {e:V} {t:Nat} {ty:TypeId} {ov:List (V×List W)} (hl:H.get id=some (.vec e t ty ov)):bP E (H.put id (.cells (cN E.ρ e t ov) ty)) w/\sA (rowOf t) ov/\rX (rowOf t) (dec (e.den E.ρ)):=by obtain⟨U,Z⟩:=OR.n9.1 (r.live id _ hl).2.1;exact⟨r.swap hl Z (by rw [Hp.bR,ah rfl]) (fun j hj=>by rw [Hp.bR,af hj]) rfl rfl,U⟩
theorem xf {h:Array Obj} {r:Row} {x y:V} (hd:dec (x.den E.ρ)=dec (y.den E.ρ)) {us:List Value}:cB E h (gz r x) us↔cB E h (gz r y) us:=by
 grind [fV]
theorem a_ [bI] {H:Hp} (r:bP E H w) {id:Nat} {e i:V} {t:Nat} {ty:TypeId} {ov:List (V×List W)} (hl:H.get id=some (.vec e t ty ov)) {k:Nat} (hi:i.den E.ρ=(k:Int)) (hk:(k:Int)<(dO e).den E.ρ)
 {pc:List (SB×Bool)} (hp:bW E.ρ pc) {cs:List W} (hc:nG pc (gz (rowOf t) (.op .at e i)) i ov=some cs) :
 ∃pre row post,cN E.ρ e t ov=pre++(row++post)/\pre.length=k*(rowOf t).es/\row.length=(rowOf t).es/\(∀h us,cB E h row us↔cB E h cs us)/\cs.length=(rowOf t).es:=by
 obtain⟨_,ho,tR⟩:=r.n9 hl;rw [cC] at hk;have fe:k<(dec (e.den E.ρ)).l.length:=J
 have hd:(dec (e.den E.ρ)).l[k]?=some (dec (e.den E.ρ)).l[k]:=aM fe;obtain⟨U,Z⟩:=iY (ρ:=E.ρ) ho (j:=0) hd;refine⟨_,_,_,U,Z,?_⟩;rw [ay];rcases nF hp hi hc with h3|⟨h3,rfl⟩
 ·rw [h3];obtain⟨p,p1,p2,_⟩:=kx h3;have:=ho p p1
  grind
 ·rw [h3];refine⟨gH _ _,fun h us=>xf ?_,gH _ _⟩;rw [AS E.ρ e i hi hd];simp only [V.den,bB]
theorem Ts {i:TI} {l m:List W} {v:W} (h:partOf i l=some v):partOf i (l++m)=some v:=by
 unfold partOf at h ⊢;split at h
 ·rename_i ha;rw [aO] at h
  grind [CQ]
 grind
theorem Gv [bI] {tt:TT} (cJ:ep P tt) {H:Hp} (r:bP E H w) {id:Nat} {cs:List W} {e:TypeId} (hl:H.get id=some (.cells cs e)) {ty:Nat} {ti:TI} (fL:tt ty=some ti) {off:Nat} {l:List W} (hd:eD off cs=some l) {v:W} (hv:partOf ti l=some v) :
 ∃x,(loadVar ty ⟨(E.θ id).1,(E.θ id).2+off,none⟩).run P w= .ok x w/\VR E w.heap v x:=by
 have hld:AI tt ty (.ptr id off) H=some v:=by
  unfold AI partOf at *;rw [fL];simp only [mw,hl,hd];split at hv
  ·exact hv
  ·split at hv
   ·simp only [ag] at hv;subst hv;rfl
   grind
 have hid:=(r.live id _ hl).1;obtain⟨x,b,o,U,Z,h3⟩:=AH cJ r (p:=.ptr id off) (u:=.pointer (some ⟨(E.θ id).1,(E.θ id).2+off,none⟩)) (by simp only [VR]; exact⟨trivial,hid⟩) hld
 grind
theorem Dw {k:IntKind}: ∀{cs:List W} {ds:List D},Dx k cs=some ds->ds.length=cs.length/\∀(i:Nat),i<cs.length->∃n,ds[i]?=some (.i n)/\cs[i]?=some (.int k (.lit n))
 |[],ds,h=>by
  simp only [Dx,ag] at h
  grind
 |v::vs,ds,h=>by
  simp only [Dx] at h;split at h
  ·split at h
   ·rename_i k' n;split at h
    ·rename_i hk;subst hk;split at h
     ·rename_i ds' vQ;simp only [ag] at h;subst h;obtain⟨U,Z⟩:=Dw vQ
      grind
     grind
    grind
   grind
  grind
theorem AN {α:Type}: ∀{i:Nat} {cs:List α} {a:α},cs[i]?=some a->∃l,eD i cs=some (a::l)
 |0,[],a,h=>by simp at h
 |0,c::cs,a,h=>by simp only [aG,ag] at h; subst h; exact⟨cs,rfl⟩
 |i+1,[],a,h=>by simp at h
 |i+1,c::cs,a,h=>AN (cs:=cs) (by simpa using h)
theorem Lv {ρ:Nat->Int} {s s':St} {cs:List W} {e:V} {v:W} (hp:bW ρ s.pc) (h:(Ha s cs e).leaf ρ=some (v,s')) :
 s'.bD=s.bD/\s'.h=s.h/\bW ρ s'.pc/\∃(i:Nat) (k:IntKind) (n:Int) (x:V),e.den ρ=(i:Int)/\i<cs.length/\cs[i]?=some (.int k (.lit n))/\v= .int k x/\x.den ρ=n:=by
 unfold Ha at h;split at h
 ·grind [T.leaf]
 ·rename_i k hk;split at h
  ·grind [T.leaf]
  ·rename_i ds vQ;obtain⟨U,Z⟩:=Dw vQ;obtain⟨dZ,fh,g1,g2,g3⟩:=nr hp h;simp only [T.leaf,ag,ak] at g3;obtain⟨rfl,rfl⟩:=g3;have g2':e.den ρ<(ds.length:Int):=by simpa [V.den] using g2
   have hi:e.den ρ=((e.den ρ).toNat:Int):=J
   have fe:(e.den ρ).toNat<cs.length:=J
   obtain⟨n,d1,d2⟩:=Z _ fe;refine⟨rfl,rfl,fh,_,k,n,_,hi,fe,d2,rfl,?_⟩;simp only [zT,V.den,e9.den,bB,D.at,bM,d1,az,D.n]
theorem OA [bI] {tt:TT} (cJ:ep P tt) {s s':St} (r:bP E s.h w) (hp:bW E.ρ s.pc) {ty id es:Nat} {i:V} {off:Nat} {v:W} {u:Value} (hx:VR E w.heap (.zq id es i off) u) (h:(zk tt s ty id es i off).leaf E.ρ=some (v,s')) :
 s'.bD=s.bD/\s'.h=s.h/\bW E.ρ s'.pc/\∃x b o,u= .pointer (some ⟨b,o,none⟩)/\(loadVar ty ⟨b,o,none⟩).run P w= .ok x w/\VR E w.heap v x:=by
 unfold zk at h;split at h
 ·rename_i o hl;split at h
  ·rename_i cs ety;split at h
   ·rename_i ti fL;split at h
    ·simp [T.leaf] at h
    ·rename_i Y;simp only [Bool.or_eq_false_iff,Bool.not_eq_false'] at Y;have jD:=aq Y.1.2;have hof:=aq Y.2;subst jD hof;obtain⟨U,Z,h3,k,kd,n,x,g1,g2,g3,rfl,g5⟩:=Lv hp h;refine⟨U,Z,h3,?_⟩;simp only [VR] at hx;obtain⟨hid,k',hk,rfl⟩:=hx;have sK:k'=k:=J
     subst sK;obtain⟨l,hd⟩:=AN g3;obtain⟨y,q1,q2⟩:=Gv (P:=P) cJ r hl fL hd (v:=.int kd (.lit n)) (by unfold partOf; rw [Y.1.1]);refine⟨y,_,_,rfl,by rw [anh,bd]; exact q1,?_⟩;simp only [VR,V.den] at q2 ⊢;rw [q2,g5]
   ·simp [T.leaf] at h
  ·rename_i e t zO ov;split at h
   ·rename_i ti fL;split at h
    ·rename_i jD;obtain⟨pc0,XZ,U,Z,h3⟩:=nr hp h;obtain⟨dZ,fh,h3⟩:=vu (s:={ s with pc:=pc0 }) XZ h3;split at h3
     ·rename_i cs hc;split at h3
      ·rename_i l Fi;obtain⟨e1,rfl⟩:=gA h3;refine⟨rfl,rfl,fh,?_⟩;simp only [VR] at hx;obtain⟨hid,k,hk,rfl⟩:=hx;obtain⟨pre,row,post,c1,c2,c3,c4,c5⟩:=a_ r hl hk (by rw [<- hk]; exact Z) fh hc;obtain⟨rc,ho,tR⟩:=r.n9 hl
       have lz:OR E w.heap id (.cells (pre++(cs++post)) zO):=by have:=(rc.live id _ (by rw [Hp.bR,ah rfl])).2.1;rw [c1] at this;simp only [OR] at this ⊢;obtain⟨arr,lo,hi,us,q1,q2,q3,q4,q5,q6,q7⟩:=this;refine⟨arr,lo,hi,us,q1,?_,q3,by simp only [a8,c3,c5] at q4 ⊢; exact q4,q5,q6,q7⟩;obtain⟨a,b,rfl,a1,a2⟩:=q2.split;obtain⟨a',b',rfl,b1,b2⟩:=a2.split;exact a1.append (((c4 _ _).1 b1).append b2)
       have r2:=r.swap (H2:=s.h.put id (.cells (pre++(cs++post)) zO)) hl lz (by rw [Hp.bR,ah rfl]) (fun j hj=>by rw [Hp.bR,af hj]) rfl rfl
       have ak4:eD (k*es+off) (pre++(cs++post))=some (l++post):=by rw [Hl (m:=cs++post) (by rw [<- jD,<- c2]; exact s8 pre _)];exact Es Fi
       obtain⟨x,g1,g2⟩:=Gv cJ r2 (by rw [Hp.bR,ah rfl]) fL ak4 (Ts e1);exact⟨x,_,_,rfl,g1,g2⟩
      ·simp [T.leaf] at h3
     ·simp [T.leaf] at h3
    ·simp [T.leaf] at h
   ·simp [T.leaf] at h
  ·simp [T.leaf] at h
 ·simp [T.leaf] at h
end
theorem iR.rd {ro:Nat->Prop} {h:Array Obj} {c:CK} {d:D} {u:Value} (r:iR ro h c d u) (wf:oa c d):Rd ro h c d u:=by
 cases c with
 |int k=> simp only [iR,oa] at r wf;rw [wf,r];exact .int k d.n
 |bool=>
  simp only [iR,oa] at r wf;subst r;rcases wf with rfl|rfl
  ·exact .bool false
  ·exact .bool true
 |str=>exact r
 |sl t=>exact r
theorem dP.get {ro:Nat->Prop} {h:Array Obj} {d:D}: ∀{cs:List CK} {j:Nat} {us:List Value},dP ro h cs j d us->∀{k:Nat} {c:CK},cs[k]?=some c->∃u,us[k]?=some u/\iR ro h c (d.hd (j+k)) u
 |[],_,_,_,k,c,hk=>by simp at hk
 |c0::cs,j,us,hh,k,c,hk=>by
  simp only [dP] at hh;obtain⟨u,vs,rfl,U,Z⟩:=hh
  cases k with
  |zero=>
   grind
  |succ k=>
   obtain⟨x,h3,h4⟩:=Z.get (by simpa using hk)
   grind
theorem dP.length {ro:Nat->Prop} {h:Array Obj} {d:D}: ∀{cs:List CK} {j:Nat} {us:List Value},dP ro h cs j d us->us.length=cs.length
 |[],_,us,hh=>by simp only [dP] at hh; subst hh; rfl
 |c::cs,j,us,hh=>by simp only [dP] at hh;obtain⟨u,vs,rfl,_,Z⟩:=hh;simp [Z.length]
theorem dP.shift {ro:Nat->Prop} {h:Array Obj} {a b:D}: ∀{cs:List CK} {j:Nat} {us:List Value},dP ro h cs (j+1) (.p a b) us↔dP ro h cs j b us
 |[],_,us=>by simp only [dP]
 |c::cs,j,us=>by
  simp only [dP,yS];constructor
  ·rintro⟨u,vs,rfl,U,Z⟩;exact⟨u,vs,rfl,U,dP.shift.1 Z⟩
  ·rintro⟨u,vs,rfl,U,Z⟩;exact⟨u,vs,rfl,U,dP.shift.2 Z⟩
section
variable {P:Program} {E:En} {w:World}
theorem oQ {ρ:Nat->Int} {c:CK} {v:W} {a:V} (h:mC c v=some a):oa c (dec (a.den ρ)):=by
 unfold mC at h;split at h
 ·split at h
  ·split at h
   ·simp only [ag] at h;subst h;simp only [oa,lr,bB,D.n]
   grind
  grind
 ·split at h
  ·split at h
   ·rename_i b;simp only [ag] at h;subst h;simp only [oa,V.den,bB]
    grind
   ·split at h
    ·split at h
     ·split at h
      ·simp only [ag] at h;subst h;simp only [oa,V.den,e9.den,bB]
       grind
      grind
     grind
    grind
   grind
  grind
 ·trivial
 ·trivial
theorem kI {h:Array Obj} {c:CK} {v:W} {u:Value} {a:V} (hv:VR E h v u) (hc:mC c v=some a):iR E.ro h c (dec (a.den E.ρ)) u:=by
 unfold mC at hc;split at hc
 ·split at hc
  ·split at hc
   ·rename_i hk;subst hk;simp only [ag] at hc;subst hc;simp only [VR] at hv;simp only [iR,lr,bB,D.n];exact hv
   grind
  grind
 ·split at hc
  ·split at hc
   ·rename_i b;simp only [ag] at hc;subst hc;simp only [VR,SB.den] at hv;subst hv;simp only [iR,V.den,bB];cases b<;>rfl
   ·split at hc
    ·split at hc
     ·split at hc
      ·rename_i x n hn;subst hn;simp only [ag] at hc;subst hc;simp only [VR,SB.den,V.den] at hv;subst hv;simp only [iR,V.den,e9.den,lr,bB,D.n];congr 2
       grind
      grind
     grind
    grind
   grind
  grind
 ·obtain⟨s,rfl,hs⟩:=xY hv hc;simp only [iR,hs];exact .str s
 ·split at hc
  ·split at hc
   ·rename_i ht;subst ht;simp only [ag] at hc;subst hc;exact hv
   grind
  ·simp only [ag] at hc;subst hc;simp only [VR] at hv;subst hv;simp only [iR,V.den,bB];exact .nil _
  ·split at hc
   ·rename_i ht;subst ht;simp only [ag] at hc;subst hc;simp only [VR] at hv;exact hv.2
   grind
  ·split at hc
   ·simp only [ag] at hc;subst hc;simp only [VR] at hv;obtain⟨_,a,cap,rfl,_⟩:=hv;simp only [iR,V.den,bB];exact .vG _ _ _
   grind
  grind
theorem tk {ρ:Nat->Int}: ∀{cs:List CK} {vs:List W} {x:V},hD cs vs=some x->wg cs (dec (x.den ρ))
 |[],[],x,h=>by
  simp only [hD,ag] at h;subst h;refine⟨?_,?_,?_⟩
  ·simp only [V.den,bB]; rfl
  ·simp only [V.den,bB]; rfl
  grind
 |[],_::_,x,h=>by simp [hD] at h
 |_::_,[],x,h=>by simp [hD] at h
 |c::cs,v::vs,x,h=>by
  simp only [hD] at h;split at h
  ·grind
  ·rename_i a ha;split at h
   ·grind
   ·rename_i b Y;simp only [ag] at h;subst h;obtain⟨U,Z,h3⟩:=tk (ρ:=ρ) Y;refine⟨?_,?_,?_⟩
    ·simp only [ew,V.den,e9.den,bB,D.l,dL]
     grind
    ·simp only [ew,V.den,e9.den,bB,D.l,aK,Z]
    ·intro j c' y hj hy;simp only [ew,V.den,e9.den,bB,D.l] at hy
     cases j with
     |zero=> simp only [aG,ag] at hj hy;subst hj hy;exact oQ ha
     |succ j=>exact h3 j c' y (by simpa using hj) (by simpa using hy)
theorem tl {h:Array Obj}: ∀{cs:List CK} {vs:List W} {us:List Value} {x:V},cB E h vs us->hD cs vs=some x->dP E.ro h cs 0 (dec (x.den E.ρ)) us
 |[],[],us,x,hv,hc=>by simp only [cB] at hv; subst hv; simp [dP]
 |[],_::_,_,x,_,hc=>by simp [hD] at hc
 |_::_,[],_,x,_,hc=>by simp [hD] at hc
 |c::cs,v::vs,us,x,hv,hc=>by
  simp only [hD] at hc;rw [bV] at hv;obtain⟨u,gr,rfl,U,Z⟩:=hv;split at hc
  ·grind
  ·rename_i a ha;split at hc
   ·grind
   ·rename_i b Y;simp only [ag] at hc;subst hc;simp only [dP,ew,V.den,e9.den,bB];refine⟨u,gr,rfl,by rw [yR]; exact kI U ha,?_⟩;rw [dP.shift];exact tl Z Y
theorem tg {ρ:Nat->Int} {r:Row} {cs:List W} {x:V} (h:qt r cs=some x):pF r (dec (x.den ρ)):=by
 unfold qt at h;split at h
 ·split at h
  ·exact oQ h
  grind
 ·exact tk h
theorem tj {h:Array Obj} {r:Row} {cs:List W} {us:List Value} {x:V} (hv:cB E h cs us) (hc:qt r cs=some x):wH E.ro h r (dec (x.den E.ρ)) us:=by
 unfold qt at hc;split at hc
 ·split at hc
  ·rw [bV] at hv;obtain⟨u,gr,rfl,U,Z⟩:=hv;rw [gP] at Z;subst Z;exact⟨u,rfl,kI U hc⟩
  grind
 ·exact tl hv hc
theorem qp {ρ:Nat->Int} {r:Row}: ∀(m:Nat) {e e1:V} {news:List W},ke r e m news=some e1->
 ∃ds:List D,ds.length=m/\(dec (e1.den ρ)).l=(dec (e.den ρ)).l++ds/\(dec (e.den ρ)=dL (dec (e.den ρ)).l->dec (e1.den ρ)=dL (dec (e1.den ρ)).l)/\(∀d∈ds,pF r d)/\
  ∀(E':En) (h:Array Obj) (us:List Value) (j:Nat),E'.ρ=ρ->cB E' h news us->cB E' h (bF ρ r [] ds j) us
 |0,e,e1,[],h=>by simp only [ke,ag] at h;subst h;exact⟨[],rfl,ad,id,ad,fun E' h us j _ hv=>by simpa [bF] using hv⟩
 |0,e,e1,_::_,h=>by simp [ke] at h
 |m+1,e,e1,news,h=>by
  simp only [ke] at h;split at h
  ·grind
  ·rename_i x hx;obtain⟨ds,U,Z,h3,h4,h5⟩:=qp (ρ:=ρ) m h;have hs:dec ((V.op .snoc e x).den ρ)=dL ((dec (e.den ρ)).l++ [dec (x.den ρ)]):=by simp only [V.den,e9.den,bB]
   refine⟨dec (x.den ρ)::ds,by simp [U],?_,fun _=>h3 (by rw [hs,bM]),?_,?_⟩
   ·rw [Z,hs,bM]; simp
   ·intro d hd;rcases aw.1 hd with rfl|hd
    ·exact tg hx
    grind
   ·intro E' h us j hρ hv;rw [<- amr r.es news] at hv;obtain⟨a,b,rfl,a1,a2⟩:=hv.split;simp only [bF,dX];refine cB.append ?_ (h5 E' h b (j+1) hρ a2);rw [fV];simp only [V.den,bB];have:=tj a1 hx
    grind
theorem Px {h:Array Obj} {id:Nat} {e:V} {t:Nat} {ty:TypeId} {ro:Nat->Prop} (kO: ∀b,E.ro b->ro b) (Y:ro (E.θ id).1) (ho:OR E h id (.vec e t ty [])) {k cap:Nat} {a:Addr} (hk:k=(dec (e.den E.ρ)).l.length) (gJ:k<=cap)
 (hc:0<k->a=⟨(E.θ id).1,(E.θ id).2,none⟩):Rd ro h (.sl t) (dec (e.den E.ρ)) (.slice (some a) k cap):=by
 obtain⟨⟨r7,tR⟩,Cr⟩:=OR.n9.1 ho;obtain⟨us,U,Z,h3⟩:=w7 Cr;obtain⟨w1,w2,w3⟩:=tR;rcases amL k with h0|lA
 ·subst h0;exact absurd (ame hk.symm) w3
 ·have ha:a=⟨(E.θ id).1,(E.θ id).2,none⟩:=hc lA;subst ha;subst hk
  have lz: ∀(i:Nat) (x:D),(dec (e.den E.ρ)).l[i]?=some x->∃rs,wH ro h (rowOf t) x rs/\∀j u,rs[j]?=some u->us[i*(rowOf t).es+j]?=some u:=by
   intro i x hx;obtain⟨c1,c2⟩:=iY (ρ:=E.ρ) r7 (j:=0) hx;unfold cN at U;rw [c1] at U;obtain⟨p,q,rfl,p1,p2⟩:=U.split;obtain⟨q1,q2,rfl,r1,r2⟩:=p2.split;have hp:=p1.length;rw [c2] at hp;refine⟨q1,?_,?_⟩
   ·have r1':cB E h (gz (rowOf t) (.ej x)) q1:=r1;rw [fV] at r1';simp only [V.den,bB] at r1'
    have mono: ∀c d u,iR E.ro h c d u->iR ro h c d u:=by
     intro c d u hh
     cases c with
     |int k=>exact hh
     |bool=>exact hh
     |str=>exact Rd.bX kO (fun _ _=>rfl) hh
     |sl t=>exact Rd.bX kO (fun _ _=>rfl) hh
    have aie: ∀(cs:List CK) (j:Nat) (d:D) (us:List Value),dP E.ro h cs j d us->dP ro h cs j d us:=by
     intro cs
     induction cs with
     |nil=>intro j d us hh; exact hh
     |cons c cs ih=> intro j d us hh;obtain⟨u,vs,rfl,g1,g2⟩:=hh;exact⟨u,vs,rfl,mono _ _ _ g1,ih _ _ _ g2⟩
    cases hr:rowOf t with
    |one c=> rw [hr] at r1';obtain⟨u,rfl,g1⟩:=r1';exact⟨u,rfl,mono _ _ _ g1⟩
    |many cs=> rw [hr] at r1';exact aie _ _ _ _ r1'
   ·intro j u hj;rw [anE J,hp];rw [show i*(rowOf t).es+j-i*(rowOf t).es=j by omega];have:=(aW.1 hj).1;rw [an0 this];exact hj
  rw [w1];simp only [bM] at lz ⊢;generalize hL:(dec (e.den E.ρ)).l=L at *
  cases hr:rowOf t with
  |one c=>
   refine .one t c _ _ cap L (fun i=>(us[i]?).getD undef) hr gJ Y ?_ ?_
   ·intro i d hd;obtain⟨rs,g1,g2⟩:=lz i d hd;rw [hr] at g1;obtain⟨u,rfl,g3⟩:=g1;have:=g2 0 u rfl;rw [hr] at this;simp only [Row.es,anh,bd] at this;rw [this];exact Z i u this
   ·intro i d hd;obtain⟨rs,g1,g2⟩:=lz i d hd;rw [hr] at g1;obtain⟨u,rfl,g3⟩:=g1;have:=g2 0 u rfl;rw [hr] at this;simp only [Row.es,anh,bd] at this;rw [this];have hw:=w2 d (bu hd);rw [hr] at hw;exact g3.rd hw
  |many cs=>
   have hwr: ∀d∈L,wg cs d:=by intro d hd;have:=w2 d hd;rw [hr] at this;exact this
   have hLm:L=(L.map D.l).map dL:=by rw [amE];have:L.map (dL ∘ D.l)=L.map (fun d=>d):=amW fun d hd=>(hwr d hd).1.symm;rw [this,List.map_id']
   have hlen:(L.map D.l).length=L.length:=ad
   have aiQ:(L.map D.l).length<=cap:=by rw [hlen]; exact gJ
   have goal:Rd ro h (.sl t) (dL ((L.map D.l).map dL)) (.slice (some ⟨(E.θ id).1,(E.θ id).2,none⟩) (L.map D.l).length cap):=by
    refine .many t cs _ _ cap (L.map D.l) (fun i j=>(us[i*cs.length+j]?).getD undef) hr aiQ Y ?_ ?_ ?_
    ·intro r hrm;rw [aT] at hrm;obtain⟨d,hd,rfl⟩:=hrm;exact (hwr d hd).2.1
    ·intro i r j d hi hj;rw [bn,aO] at hi;obtain⟨x,hx,rfl⟩:=hi;obtain⟨rs,g1,g2⟩:=lz i x hx;rw [hr] at g1;have hjl:j<cs.length:=by rw [<- (hwr x (bu hx)).2.1]; exact (aW.1 hj).1
     obtain⟨u,g3,g4⟩:=dP.get g1 (aM hjl);have:=g2 j u g3;rw [hr] at this;simp only [Row.es] at this;rw [this,al8];exact Z _ u this
    ·intro i r j d c hi hj hcj;rw [bn,aO] at hi;obtain⟨x,hx,rfl⟩:=hi;obtain⟨rs,g1,g2⟩:=lz i x hx;rw [hr] at g1;obtain⟨u,g3,g4⟩:=dP.get g1 hcj;have:=g2 j u g3;rw [hr] at this;simp only [Row.es] at this;rw [this];rw [ay] at g4;have hd:x.hd j=d:=by simp [D.hd,hj]
     rw [hd] at g4;exact g4.rd ((hwr x (bu hx)).2.2 j c d hcj hj)
   rw [<- hLm,hlen] at goal;exact goal
theorem Vn {h:Array Obj} {id:Nat} {e:V} {t:Nat} {ty:TypeId} {ro:Nat->Prop} (kO: ∀b,E.ro b->ro b) (Y:ro (E.θ id).1) (ho:OR E h id (.vec e t ty [])) {k cap:Nat} {a:Addr} (hk:k=(dec (e.den E.ρ)).l.length) (gJ:k<=cap)
 (hc:eE E id 0 k a cap (.rest (rowOf t).es)):Rd ro h (.sl t) (dec (e.den E.ρ)) (.slice (some a) k cap):=by
 refine Px kO Y ho hk gJ fun lA=>?_;simp only [eE] at hc
 grind
structure Sub (H' H:Hp):Prop where
 get: ∀j o,H'.get j=some o->H.get j=some o
 next:H'.next=H.next
 res:H'.res=H.res
theorem Sub.refl (H:Hp):Sub H H:=⟨fun _ _ h=>h,rfl,rfl⟩
theorem Sub.trans {A B C:Hp} (a:Sub B A) (b:Sub C B):Sub C A:=⟨fun j o h=>a.get j o (b.get j o h),b.next.trans a.next,b.res.trans a.res⟩
theorem Sub.drop (H:Hp) (id:Nat):Sub (H.drop id) H:=by
 refine⟨fun j o hj=>?_,rfl,rfl⟩
 grind [Hp.j8]
theorem Jt [bI] {H:Hp} (r:bP E H w) {id:Nat} {o:dG} (hl:H.get id=some o) :
 fg E w.heap { E with ro:=fun b=>E.ro b\/b=(E.θ id).1 } w.heap/\eM E H w { E with ro:=fun b=>E.ro b\/b=(E.θ id).1 } (H.drop id) w/\bP { E with ro:=fun b=>E.ro b\/b=(E.θ id).1 } (H.drop id) w:=by
 have hk:fg E w.heap { E with ro:=fun b=>E.ro b\/b=(E.θ id).1 } w.heap:=⟨rfl,fun _ h=>h,fun _ _=>rfl,fun _ _=>rfl,fun _ h=> .inl h,fun _ _=>rfl⟩
 have hg: ∀j o,(H.drop id).get j=some o->H.get j=some o/\j≠id:=by
  intro j o hj
  grind [Hp.j8]
 refine⟨hk,⟨rfl,fun _ h=>h,fun _ _=>rfl,fun _ _=>rfl,fun _ h=> .inl h,?_,au _,.inr rfl,fun _ h=> .inl h,rfl,rfl,rfl,au _,fun _ _ _=>rfl,fun j o hj _=> ⟨j,o,(hg j o hj).1,rfl⟩,rfl⟩,
  ⟨r.fresh,r.res,?_,?_,?_,bI.bX r.iT (fun _ h=> .inl h) (fun _ _=>rfl),fun b x Y=> ⟨(r.hid b x Y).1,fun h=>h.elim (r.hid b x Y).2.1 fun e=>(r.hid b x Y).2.2 id o hl e.symm,fun j o hj=>(r.hid b x Y).2.2 j o (hg j o hj).1⟩⟩⟩
 ·intro b Y
  grind
 ·intro j o hj;obtain⟨U,Z⟩:=hg j o hj;obtain⟨g1,g2,g3⟩:=r.live j o U;refine⟨g1,g2.bX hk g1 rfl (fun _ _ _ h=> ⟨h,rfl⟩),?_⟩;rintro (Y|Y)
  ·grind
  ·exact Z (r.inj j id o _ U hl Y)
 ·intro i j x y hi hj he;exact r.inj i j x y (hg i x hi).1 (hg j y hj).1 he
 ·intro b Y;rcases Y with Y|rfl
  ·exact r.pS b Y
  ·exact fF r hl
theorem afj [bI] {H H':Hp} (r:bP E H w) {v v':W} (h:MA v H=(v',H')) :
 ∃E',E'.ρ=E.ρ/\eM E H w E' H' w/\bP E' H' w/\(∀u,VR E w.heap v u->VR E' w.heap v' u)/\Sub H' H:=by
 have same:(v,H)=(v',H')->∃E',E'.ρ=E.ρ/\eM E H w E' H' w/\bP E' H' w/\(∀u,VR E w.heap v u->VR E' w.heap v' u)/\Sub H' H:=by
  intro he;simp only [ak] at he
  grind [eM.refl,Sub.refl]
 unfold MA at h;split at h
 ·rename_i id n t;split at h
  ·rename_i o hl;split at h
   ·rename_i e t' ty ov;split at h
    ·split at h
     ·rename_i ht;split at h
      ·rename_i hn;simp only [ak] at h;obtain⟨rfl,rfl⟩:=h;have ht:=aq ht;have hn:=cO _ _ hn;subst ht hn;have yN:=r.live id _ hl;obtain⟨hk,s1,r1⟩:=Jt r hl;refine⟨{ E with ro:=fun b=>E.ro b\/b=(E.θ id).1 },rfl,s1,r1,fun u hv=>?_,Sub.drop _ _⟩;simp only [VR] at hv ⊢
       grind [cC,Vn]
      grind
     grind
    grind
   grind
  grind
 ·simp only [ak] at h;obtain⟨rfl,rfl⟩:=h;exact⟨E,rfl,eM.refl _ _ _,r,fun u hu=>by simp only [VR] at hu ⊢; exact hu.2,Sub.refl _⟩
 grind
end
section
variable {P:Program} {E:En} {w:World}
theorem Rd.part {ro:Nat->Prop} {h:Array Obj} {t:Nat} {d:D} {b o n cap l k:Nat} (r:Rd ro h (.sl t) d (.slice (some ⟨b,o,none⟩) n cap)) (hl:l<=k) (hk:k<=n) (hn:n<=cap) :
 Rd ro h (.sl t) (fu d ((d.l.take k).drop l)) (.slice (some (if cap=l then⟨b,o,none⟩ else⟨b,o+l*(rowOf t).es,none⟩)) (k-l) (cap-l)):=by
 by_cases h0:k-l=0
 ·have:(d.l.take k).drop l= []:=by
   apply List.drop_eq_nil_of_le
   grind
  have hd:d≠.i 1:=by
   intro q
   grind [Gi]
  rw [this,h0];simp only [fu];rw [af hd];exact .vG _ _ _
 ·rw [af J]
  have fZ:(d.l.take k).drop l≠[]:=by
   intro q;have:=congrArg List.length q;obtain⟨x,oE,hv,_⟩:=r.slice
   grind
  rw [vc fZ];generalize hc:CK.sl t=c at r;generalize hv:Value.slice (some ⟨b,o,none⟩) n cap=v at r
  cases r with
  |int k n=>simp at hc
  |bool b=>simp at hc
  |str s=>simp at hc
  |nil t=>simp at hv
  |vG t a cap=>
   grind
  |one t' c b' o' oE ds f hr fR Y U Z=>
   simp only [CK.sl.injEq] at hc;subst hc;simp only [Value.slice.injEq,ag,Addr.mk.injEq] at hv;obtain⟨⟨rfl,rfl,_⟩,rfl,rfl⟩:=hv;rw [bM];have hlen:((ds.take k).drop l).length=k-l:=by rw [al6,aZ]; omega
   have uL: ∀i d,((ds.take k).drop l)[i]?=some d->ds[l+i]?=some d:=by
    intro i d hd
    grind
   rw [<- hlen];refine .one t c b (o+l*(rowOf t).es) (cap-l) ((ds.take k).drop l) (fun i=>f (l+i)) hr (by rw [hlen]; omega) Y ?_ ?_
   ·intro i d hd;have:=U (l+i) d (uL i d hd);rw [hr,show o+l*(Row.one c).es+i=o+(l+i) by simp only [Row.es]; omega]
    grind
   grind
  |many t' cs b' o' oE rows f hr fR Y hll U Z=>
   simp only [CK.sl.injEq] at hc;subst hc;simp only [Value.slice.injEq,ag,Addr.mk.injEq] at hv;obtain⟨⟨rfl,rfl,_⟩,rfl,rfl⟩:=hv;rw [bM];have hlen:((rows.take k).drop l).length=k-l:=by rw [al6,aZ]; omega
   have uL: ∀i d,((rows.take k).drop l)[i]?=some d->rows[l+i]?=some d:=by
    intro i d hd
    grind
   rw [<- hlen,<- anz,<- anA];refine .many t cs b (o+l*(rowOf t).es) (cap-l) ((rows.take k).drop l) (fun i=>f (l+i)) hr (by rw [hlen]; omega) Y (fun r hrm=>hll r (al9 (bq hrm))) ?_ ?_
   ·intro i r j d hi hj;have:=U (l+i) r j d (uL i r hi) hj;rw [hr,show o+l*(Row.many cs).es+i*cs.length+j=o+(l+i)*cs.length+j by simp only [Row.es,amd]; omega]
    grind
   grind
theorem Rd.ah4 {ro:Nat->Prop} {h:Array Obj} {t:Nat} {d:D} {x:Option Addr} {n cap l k:Nat} (r:Rd ro h (.sl t) d (.slice x n cap)) (hl:l<=k) (hk:k<=n) (hn:n<=cap) :
 Rd ro h (.sl t) (fu d ((d.l.take k).drop l)) (.slice (match x with |some a=>some (if cap=l then a else a.add (l*(rowOf t).es))|none=>none) (k-l) (cap-l)):=by
 have hx:(∃b o,x=some ⟨b,o,none⟩)\/(d= .i 1/\x=none/\n=0/\cap=0)\/(d= .i 2/\n=0/\∃a,x=some a):=by
  generalize hc:CK.sl t=c at r;generalize hv:Value.slice x n cap=v at r
  cases r with
  |int k n=>simp at hc
  |bool b=>simp at hc
  |str s=>simp at hc
  |nil t=>simp only [Value.slice.injEq] at hv; exact .inr (.inl ⟨rfl,hv.1,hv.2.1,hv.2.2⟩)
  |vG t a cap=>simp only [Value.slice.injEq] at hv; exact .inr (.inr ⟨rfl,hv.2.1,a,hv.1⟩)
  |one t' c b' o' oE ds f hr fR Y U Z=>simp only [Value.slice.injEq] at hv; exact .inl ⟨_,_,hv.1⟩
  |many t' cs b' o' oE rows f hr fR Y hll U Z=>simp only [Value.slice.injEq] at hv; exact .inl ⟨_,_,hv.1⟩
 rcases hx with ⟨b,o,rfl⟩|⟨rfl,rfl,rfl,rfl⟩|⟨rfl,rfl,a,rfl⟩
 ·have:=r.part hl hk hn;simp only [eT]
  grind
 ·obtain rfl:k=0:=J
  obtain rfl:l=0:=J
  exact .nil _
 ·obtain rfl:k=0:=J
  obtain rfl:l=0:=J
  exact .vG _ _ _
theorem Z4 (l:List D):dL l≠.i 1:=by cases l<;>simp [dL]
theorem Rd.afo {ro:Nat->Prop} {h:Array Obj} {t:Nat} {d:D} {x:Option Addr} {n cap:Nat} (r:Rd ro h (.sl t) d (.slice x n cap)):Rd ro h (.sl t) (fu d []) (.slice x 0 0):=by
 generalize hc:CK.sl t=c at r;generalize hv:Value.slice x n cap=v at r
 cases r with
 |int k n=>simp at hc
 |bool b=>simp at hc
 |str s=>simp at hc
 |nil t=> simp only [Value.slice.injEq] at hv;obtain⟨rfl,_,_⟩:=hv;exact .nil _
 |vG t a cap=> simp only [Value.slice.injEq] at hv;obtain⟨rfl,_,_⟩:=hv;exact .vG _ _ _
 |one t' c b' o' oE ds f hr fR Y U Z=> simp only [Value.slice.injEq] at hv;obtain⟨rfl,_,_⟩:=hv;rw [oP (Z4 _)];exact .vG _ _ _
 |many t' cs b' o' oE rows f hr fR Y hll U Z=> simp only [Value.slice.injEq] at hv;obtain⟨rfl,_,_⟩:=hv;rw [oP (Z4 _)];exact .vG _ _ _
theorem OG [bI] {tt:TT} (cJ:ep P tt) {s s':St} (hp:bW E.ρ s.pc) {ty t:Nat} {e:V} {lo hi mx:Option W} {xQ hi' mx':Option Value} {v:W} {u:Value} (hx:VR E w.heap (.ej e t) u)
 (nV:fW E w.heap lo xQ) (xT:fW E w.heap hi hi') (xB:fW E w.heap mx mx') (h:(Jc tt s ty t e lo hi mx).leaf E.ρ=some (v,s')) :
 s'.bD=s.bD/\s'.h=s.h/\bW E.ρ s'.pc/\∃r,(Instr.sliceAt ty u xQ hi' mx').run P w= .ok r w/\VR E w.heap v r:=by
 unfold Jc at h;split at h
 ·rename_i m;split at h
  ·rename_i hm;split at h
   ·simp [T.leaf] at h
   ·rename_i z hz;split at h
    ·split at h
     ·rename_i hv;split at h
      ·rename_i hh;have:=bC h;simp only [ak] at this;obtain⟨rfl,rfl⟩:=this;refine⟨rfl,rfl,hp,?_⟩;obtain⟨el,ie,hu,kA,rfl⟩:=nk cJ hz;have gX:=ek (cJ el ie kA);simp only [VR] at hx;obtain⟨x,cap,rfl,gJ⟩:=hx.slice
       have zb: ∀(a:W),B7 a=true->∀d y,nA (some a) d y=some 0:=by
        intro a ha d y;unfold B7 at ha;unfold nA;split at ha
        ·rename_i n hn;have:=vM ha;subst this;simp only [hn];rw [ah (aml y)]
        ·simp at ha
       obtain⟨e1,e2⟩:=fJ (P:=P) (w:=w) (isSlice:=true) (len:=(dec (e.den E.ρ)).l.length) (cap:=cap) (m0:=cap) (d:=0) (m:=0) (h0:=0) (h:=0) (l:=0) nV xT xB (fun _=>rfl) (.inr ⟨m,rfl,zb m hm _ _,au _⟩) (zb hv hh _ _) ⟨fun q=>by simp at q,fun _=>rfl⟩ (by simp [nA]);refine⟨.slice x 0 0,?_,?_⟩
       rotate_left
       ·simp only [VR];refine⟨⟨x,rfl⟩,?_⟩;simp only [V.den,e9.den,bB];exact hx.afo
       cases x with
       |none=>simp [Instr.sliceAt,run_underlying hu,Instr.slice,e1,gX]
       |some a=>simp [Instr.sliceAt,run_underlying hu,Instr.slice,e1,gX]
      ·simp [T.leaf] at h
     ·simp [T.leaf] at h
    ·simp [T.leaf] at h
  ·simp [T.leaf] at h
 ·simp only [fW] at xB;subst xB;split at h
  ·simp [T.leaf] at h
  ·rename_i z hz;split at h
   ·rename_i jD;obtain⟨el,ie,hu,kA,rfl⟩:=nk cJ hz;have gX:=ek (cJ el ie kA);simp only [VR] at hx;obtain⟨x,cap,rfl,gJ⟩:=hx.slice
    have fin: ∀(l k:Nat) (e':V) (UE II:Option W),fW E w.heap UE xQ->fW E w.heap II hi'->nA II (dec (e.den E.ρ)).l.length (dec (e.den E.ρ)).l.length=some k->nA UE 0 k=some l->dec (e'.den E.ρ)=fu (dec (e.den E.ρ)) (((dec (e.den E.ρ)).l.take k).drop l)->
     ∃r,(Instr.sliceAt ty (.slice x (dec (e.den E.ρ)).l.length cap) xQ hi' none).run P w= .ok r w/\VR E w.heap (.ej e' t) r:=by
     intro l k e' UE II U Z h3 h4 h5;obtain⟨e1,e2⟩:=fJ (P:=P) (w:=w) (isSlice:=true) (len:=(dec (e.den E.ρ)).l.length) (cap:=cap) (m0:=cap) (d:=0) (m:=cap) U Z (mx:=none) (mx':=none) (by simp [fW]) ad (.inl ⟨rfl,rfl,au _⟩) h3 ⟨fun _=>gJ,ad⟩ h4;have hk:=ld h3;have TM:=hx.ah4 e2 hk gJ;refine⟨_,?_,by simp only [VR,h5]; exact TM⟩
     cases x with
     |none=>simp [Instr.sliceAt,run_underlying hu,Instr.slice,e1,gX]
     |some a=>simp [Instr.sliceAt,run_underlying hu,Instr.slice,e1,gX,jD]<;>split<;>rfl
    have lit: ∀(k:IntKind) (n:Nat) (q:V) (o:Option Value),q.den E.ρ=(n:Int)->fW E w.heap (some (.int k q)) o->fW E w.heap (some (.int k (.lit (Int.ofNat n)))) o:=by intro k n q o hq ho;obtain⟨y,rfl,hy⟩:=ho;refine⟨y,rfl,?_⟩;simp only [VR,V.den] at hy ⊢;rw [hy,hq];rfl
    have bl: ∀(k:IntKind) (n d y:Nat),n<=y->nA (some (.int k (.lit (Int.ofNat n)))) d y=some n:=by intro k n d y hn;simp [nA,jX,hn]
    split at h
    ·
     simp only [fW] at xT;subst xT;split at h
     ·rename_i kl ql;obtain⟨fA,fj,U⟩:=cH hp h;split at U
      ·simp [T.leaf] at U
      ·rename_i t1;obtain⟨jw,jl,Z⟩:=cH (s:={ s with pc:=fA }) fj U;split at Z
       ·simp [T.leaf] at Z
       ·rename_i t2;have:=bC Z;simp only [ak] at this;obtain⟨rfl,rfl⟩:=this;rw [dR,decide_eq_false_iff_not] at t1 t2;rw [cC] at t2;simp only [V.den,amK] at t1 t2;obtain⟨l,hl⟩ : ∃l:Nat,ql.den E.ρ=(l:Int):=⟨(ql.den E.ρ).toNat,J⟩;refine⟨rfl,rfl,jl,fin l (dec (e.den E.ρ)).l.length _ _ none (lit kl l ql xQ hl nV) (by simp [fW]) (by simp [nA]) (bl _ _ _ _ J) ?_⟩;simp only [V.den,e9.den,bB,hl,bj,amx]
     ·simp [T.leaf] at h
    ·rename_i kh qh;obtain⟨fA,fj,U⟩:=cH hp h;split at U
     ·simp [T.leaf] at U
     ·rename_i t1;rw [dR,decide_eq_false_iff_not,cC] at t1;split at U
      ·simp only [fW] at nV;subst nV;obtain⟨jw,jl,Z⟩:=cH (s:={ s with pc:=fA }) fj U;split at Z
       ·simp [T.leaf] at Z
       ·rename_i t2;have:=bC Z;simp only [ak] at this;obtain⟨rfl,rfl⟩:=this;rw [dR,decide_eq_false_iff_not] at t2;simp only [V.den,amK] at t2;obtain⟨k,hk⟩ : ∃k:Nat,qh.den E.ρ=(k:Int):=⟨(qh.den E.ρ).toNat,J⟩;refine⟨rfl,rfl,jl,fin 0 k _ none _ (by simp [fW]) (lit kh k qh hi' hk xT) (bl _ _ _ _ J) (by simp [nA]) ?_⟩;simp only [V.den,e9.den,bB,hk,bj,amh]
      ·rename_i kl ql;obtain⟨jw,jl,Z⟩:=cH (s:={ s with pc:=fA }) fj U;split at Z
       ·simp [T.leaf] at Z
       ·rename_i t2;obtain⟨UD,IG,h3⟩:=cH (s:={ s with pc:=jw }) jl Z;split at h3
        ·simp [T.leaf] at h3
        ·rename_i t3;have:=bC h3;simp only [ak] at this;obtain⟨rfl,rfl⟩:=this;rw [dR,decide_eq_false_iff_not] at t2 t3;simp only [V.den,amK] at t2 t3;obtain⟨l,hl⟩ : ∃l:Nat,ql.den E.ρ=(l:Int):=⟨(ql.den E.ρ).toNat,J⟩;obtain⟨k,hk⟩ : ∃k:Nat,qh.den E.ρ=(k:Int):=⟨(qh.den E.ρ).toNat,J⟩;refine⟨rfl,rfl,IG,fin l k _ _ _ (lit kl l ql xQ hl nV) (lit kh k qh hi' hk xT) (bl _ _ _ _ J) (bl _ _ _ _ J) ?_⟩;simp only [V.den,e9.den,bB,hl,hk,bj,fb];exact xL fun q=>by rw [q]; simp [D.l]
      ·simp [T.leaf] at U
    ·simp [T.leaf] at h
   ·simp [T.leaf] at h
end
theorem DC {e:V} (h:V_ e=true):e= .lit 0:=by
 unfold V_ at h
 grind [vM]
theorem oR (ρ:Nat->Int) (a b:V):(rW a b).den ρ=a.den ρ+b.den ρ:=by
 unfold rW;split
 ·rename_i h;rw [DC h];simp only [V.den,Int.zero_add]
 ·rfl
theorem SX (ρ:Nat->Int) (a b:V):(CT a b).den ρ=a.den ρ-b.den ρ:=by
 unfold CT;split
 ·rename_i h;rw [DC h];simp only [V.den,Int.sub_zero]
 ·rfl
theorem xi {ρ:Nat->Int} {e lo n:V} {l k:Nat} (hl:lo.den ρ=(l:Int)) (hn:n.den ρ=(k:Int)) :
 dec ((Di e lo n).den ρ)=fu (dec (e.den ρ)) (((dec (e.den ρ)).l.take (l+k)).drop l):=by
 unfold Di;split
 ·rename_i h;have h:=DC h;subst h;simp only [V.den] at hl;have:l=0:=J
  subst this;simp only [V.den,e9.den,bB,hn,bj,ay,amh]
 ·have Z:((l:Int)+(k:Int)).toNat=l+k:=J
  simp only [V.den,e9.den,bB,hl,hn,Z,bj,fb]
  grind [xL,D.l]
theorem vF {α:Type} {ρ:Nat->Int} {e lo n:V} {s:St} {k:St->T α} {x:α} (hp:bW ρ s.pc) (h:(xj e lo n s k).leaf ρ=some x) :
 ∃dZ,bW ρ dZ/\0<=lo.den ρ/\0<=n.den ρ/\lo.den ρ+n.den ρ<=((dec (e.den ρ)).l.length:Int)/\(k { s with pc:=dZ }).leaf ρ=some x:=by
 unfold xj at h;obtain⟨fA,fj,U⟩:=cH hp h;split at U
 ·grind [T.leaf]
 ·rename_i Rw;obtain⟨jw,jl,Z⟩:=cH (s:={ s with pc:=fA }) fj U;split at Z
  ·grind [T.leaf]
  ·rename_i Li;obtain⟨UD,IG,h3⟩:=cH (s:={ s with pc:=jw }) jl Z;split at h3
   ·grind [T.leaf]
   ·rename_i hb3;rw [dR,decide_eq_false_iff_not] at Rw Li hb3;rw [cC,oR] at hb3;simp only [V.den] at Rw Li
    grind
theorem mT {h:Hp} {id t:Nat} {e:V} {ty:TypeId} (hv:AY h id t=some (e,ty)):h.get id=some (.vec e t ty []):=by
 unfold AY at hv;split at hv
 ·rename_i o ho;split at hv
  ·split at hv
   ·split at hv
    all_goals simp_all
   grind
  grind
 grind
theorem Rd.ahX {ro:Nat->Prop} {h:Array Obj} {t:Nat} {d:D} {a:Addr} {n cap oE:Nat} (r:Rd ro h (.sl t) d (.slice (some a) n cap)) (hc:n<=oE):Rd ro h (.sl t) d (.slice (some a) n oE):=by
 generalize hk:CK.sl t=c at r;generalize hv:Value.slice (some a) n cap=v at r
 cases r with
 |int k n=>simp at hk
 |bool b=>simp at hk
 |str s=>simp at hk
 |nil t=>simp at hv
 |vG t a cap=> simp only [CK.sl.injEq] at hk;simp only [Value.slice.injEq,ag] at hv;obtain⟨rfl,rfl,rfl⟩:=hv;subst hk;exact .vG _ _ _
 |one t' c b' o' oE ds f hr fR Y U Z=> simp only [CK.sl.injEq] at hk;simp only [Value.slice.injEq,ag] at hv;obtain⟨rfl,rfl,rfl⟩:=hv;subst hk;exact .one _ _ _ _ _ _ _ hr hc Y U Z
 |many t' cs b' o' oE rows f hr fR Y hll U Z=> simp only [CK.sl.injEq] at hk;simp only [Value.slice.injEq,ag] at hv;obtain⟨rfl,rfl,rfl⟩:=hv;subst hk;exact .many _ _ _ _ _ _ _ hr hc Y hll U Z
section
variable {P:Program} {E:En} {w:World}
theorem Vo {h:Array Obj} {id:Nat} {e:V} {t:Nat} {ty:TypeId} {ro:Nat->Prop} (kO: ∀b,E.ro b->ro b) (Y:ro (E.θ id).1) (ho:OR E h id (.vec e t ty [])) {l k cap:Nat} {a:Addr} (hk:l+k<=(dec (e.den E.ρ)).l.length) (gJ:k<=cap)
 (hc:eE E id (l*(rowOf t).es) k a cap (.rest (rowOf t).es)):Rd ro h (.sl t) (fu (dec (e.den E.ρ)) (((dec (e.den E.ρ)).l.take (l+k)).drop l)) (.slice (some a) k cap):=by
 have hw:=(OR.n9.1 ho).1.2
 have fZ:dec (e.den E.ρ)≠.i 1:=by intro q;have:=hw.2.2;rw [q] at this;exact this rfl
 rcases amL k with h0|lA
 ·subst h0
  have:((dec (e.den E.ρ)).l.take (l+0)).drop l= []:=by
   grind
  rw [this,oP fZ];exact .vG _ _ _
 ·simp only [eE] at hc
  obtain⟨rfl,_⟩ : a=⟨(E.θ id).1,(E.θ id).2+l*(rowOf t).es,none⟩/\l*(rowOf t).es+cap*(rowOf t).es=E.κ id:=by
   grind
  have r0:=Px kO Y ho (k:=(dec (e.den E.ρ)).l.length) (cap:=(dec (e.den E.ρ)).l.length+l+1) (a:=⟨(E.θ id).1,(E.θ id).2,none⟩) rfl J (fun _=>rfl);have r1:=r0.part (l:=l) (k:=l+k) J hk J;rw [af J,show l+k-l=k by omega] at r1;exact r1.ahX gJ
structure JW [bI] (E:En) (w:World) (H:Hp) (E':En) (H':Hp):Prop where
 ρ:E'.ρ=E.ρ
 ei:eM E H w E' H' w
 rel:bP E' H' w
 sub:Sub H' H
theorem JW.refl [bI] {H:Hp} (r:bP E H w):JW E w H E H:=⟨rfl,eM.refl _ _ _,r,Sub.refl _⟩
theorem JW.trans [bI] {E1 E2:En} {H H1 H2:Hp} (a:JW E w H E1 H1) (b:JW E1 w H1 E2 H2):JW E w H E2 H2:=
 ⟨b.ρ.trans a.ρ,a.ei.trans b.ei,b.rel,a.sub.trans b.sub⟩
theorem IU [bI] {α:Type} {ρ:Nat->Int} {v:W} {s:St} {k:W->St->T α} {x:α} (hρ:E.ρ=ρ) (r:bP E s.h w) (hp:bW ρ s.pc) (h:(Oj v s k).leaf ρ=some x) :
 ∃v' h' dZ E',bW ρ dZ/\JW E w s.h E' h'/\(∀u,VR E w.heap v u->VR E' w.heap v' u)/\(k v' { s with h:=h',pc:=dZ }).leaf ρ=some x:=by
 unfold Oj at h;split at h
 ·rename_i id lo n t;split at h
  ·rename_i e ty hv;have hl:=mT hv;obtain⟨dZ,fh,U,Z,h3,h4⟩:=vF hp h;obtain⟨hk,s1,r1⟩:=Jt r hl;refine⟨_,_,dZ,{ E with ro:=fun b=>E.ro b\/b=(E.θ id).1 },fh,⟨rfl,s1,r1,Sub.drop _ _⟩,fun u hu=>?_,h4⟩;simp only [VR] at hu ⊢;obtain⟨hid,l,m,a,cap,q1,q2,rfl,q4,q5⟩:=hu;rw [xi q1 q2];rw [hρ] at q1 q2;have hh:=Vo (E:=E) (ro:=fun b=>E.ro b\/b=(E.θ id).1) (fun _ h=> .inl h) (.inr rfl) (r.live id _ hl).2.1 (l:=l) (k:=m) (by rw [hρ]; omega) q4 q5;exact hh
  ·exact⟨_,_,s.pc,E,hp,JW.refl r,fun _ h=>h,h⟩
 ·cases hf:MA v s.h with
  |mk v' h'=> rw [hf] at h;obtain⟨E',q1,q2,q3,q4,q5⟩:=afj r hf;exact⟨v',h',s.pc,E',hp,⟨q1,q2,q3,q5⟩,q4,h⟩
theorem Lo [bI] {α:Type} {ρ:Nat->Int}: ∀{vs:List W} {s:St} {E:En} {k:List W->St->T α} {x:α},E.ρ=ρ->bP E s.h w->bW ρ s.pc->(GW vs s k).leaf ρ=some x->
 ∃Mr h' dZ E',bW ρ dZ/\JW E w s.h E' h'/\(∀us,cB E w.heap vs us->cB E' w.heap Mr us)/\(k Mr { s with h:=h',pc:=dZ }).leaf ρ=some x
 |[],s,E,k,x,hρ,r,hp,h=> ⟨[],s.h,s.pc,E,hp,JW.refl r,fun _ h=>h,h⟩
 |v::vs,s,E,k,x,hρ,r,hp,h=>by simp only [GW] at h;obtain⟨v1,U,fA,E1,fj,f1,q1,g1⟩:=IU hρ r hp h;obtain⟨Vl,Z,jw,E2,jl,f2,q2,g2⟩:=Lo (s:={ s with h:=U,pc:=fA }) (f1.ρ.trans hρ) f1.rel fj g1;refine⟨v1::Vl,Z,jw,E2,jl,f1.trans f2,fun us hu=>?_,g2⟩;rw [bV] at hu ⊢;obtain⟨u,gr,rfl,a,b⟩:=hu;exact⟨u,gr,rfl,VR.bX (f2.ei.keeps f1.rel) _ _ (q1 u a),q2 gr (cB.bX (f1.ei.keeps r) _ _ b)⟩
theorem yr {ρ:Nat->Int} {i:Nat} {j:V} {cs:List W}: ∀{pre:List (V×List W)},dX ρ i (pre++ [(j,cs)])=match dX ρ i pre with |some c=>some c|none=>if j.den ρ=(i:Int) then some cs else none
 |[]=>rfl
 |(a,b)::pre=>by
  simp only [aP,dX];split
  ·rfl
  ·exact yr
theorem K! (ρ:Nat->Int) (e j x:V):dec ((V.op .set e (ew (mW j) x)).den ρ)=dL (fC (dec (e.den ρ)).l (j.den ρ) (dec (x.den ρ))):=by simp only [ew,V.den,e9.den,bB,lr,D.n]
theorem Kk (ds:List D) (z:Int) (x:D) (n:Nat):(fC ds z x)[n]?=if z=(n:Int)/\n<ds.length then some x else ds[n]?:=by
 grind [fC]
theorem w5 {ρ:Nat->Int} {E1 E2:En} {h:Array Obj} {r:Row} {pre:List (V×List W)} {j:V} {cs:List W} {X:D} (mono: ∀a us,cB E1 h a us->cB E2 h a us) (hX: ∀us,cB E1 h cs us->wH E2.ro h r X us) :
 ∀{L L':List D} {i:Nat} {us:List Value},L'.length=L.length->(∀n:Nat,L'[n]?=if j.den ρ=((i+n:Nat):Int)/\n<L.length then some X else L[n]?)->
  cB E1 h (bF ρ r (pre++ [(j,cs)]) L i) us->cB E2 h (bF ρ r pre L' i) us
 |[],[],i,us,_,_,hv=>by simp only [bF,cB] at *; exact hv
 |[],_::_,_,_,hl,_,_=>by simp at hl
 |_::_,[],_,_,hl,_,_=>by simp at hl
 |d::L,d'::L',i,us,hl,hg,hv=>by
  simp only [bF] at *;obtain⟨a,b,rfl,a1,a2⟩:=hv.split;have h0:=hg 0;simp only [aG,bd,aK] at h0;refine cB.append ?_ (w5 mono hX (by simpa using hl) (fun n=>?_) a2)
  ·rw [yr] at a1
   cases ho:dX ρ i pre with
   |some c=>
    grind
   |none=>
    rw [ho] at a1;simp only at a1 ⊢;by_cases hj:j.den ρ=(i:Int)
    ·rw [ah hj] at a1;rw [ah ⟨hj,J⟩] at h0;simp only [ag] at h0;subst h0;rw [fV];simp only [V.den,bB]
     grind
    grind
  ·have:=hg (n+1)
   grind
theorem K? {r:Row} {ds:List D} {z:Int} {x:D} (U: ∀d∈ds,pF r d) (Z:pF r x): ∀d∈fC ds z x,pF r d:=by
 intro d hd;obtain⟨n,hn⟩:=amX.1 hd
 grind [Kk]
theorem L_ {ds:List D} {z:Int} {x:D} (h:ds≠[]):fC ds z x≠[]:=by
 intro q
 grind [gu]
theorem KC [bI] {α:Type} {ρ:Nat->Int} {t:Nat}: ∀{ov:List (V×List W)} {e:V} {s:St} {E:En} {k:V->St->T α} {x:α} (pre:List (V×List W)),E.ρ=ρ->bP E s.h w->bW ρ s.pc->rX (rowOf t) (dec (e.den ρ))->
 (F8 t ov e s k).leaf ρ=some x->
 ∃e' h' dZ E',bW ρ dZ/\JW E w s.h E' h'/\rX (rowOf t) (dec (e'.den ρ))/\(dec (e'.den ρ)).l.length=(dec (e.den ρ)).l.length/\
  (∀us,cB E w.heap (bF ρ (rowOf t) (pre++ov) (dec (e.den ρ)).l 0) us->cB E' w.heap (bF ρ (rowOf t) pre (dec (e'.den ρ)).l 0) us)/\(k e' { s with h:=h',pc:=dZ }).leaf ρ=some x
 |[],e,s,E,k,x,pre,hρ,r,hp,hw,h=> ⟨e,s.h,s.pc,E,hp,JW.refl r,hw,rfl,fun us hu=>by rw [amm] at hu; exact hu,h⟩
 |(j,cs)::ov,e,s,E,k,x,pre,hρ,r,hp,hw,h=>by
  simp only [F8] at h;obtain⟨e1,U,fA,E1,fj,f1,w1,l1,c1,g1⟩:=KC (pre++ [(j,cs)]) hρ r hp hw h;obtain⟨cs2,Z,jw,E2,jl,f2,c2,g2⟩:=Lo (s:={ s with h:=U,pc:=fA }) (f1.ρ.trans hρ) f1.rel fj g1;split at g2
  ·rename_i y hy;have hρ2:E2.ρ=ρ:=f2.ρ.trans (f1.ρ.trans hρ);have hsd:=K! ρ e1 j y;refine⟨_,Z,jw,E2,jl,f1.trans f2,?_,?_,?_,g2⟩
   ·rw [hsd];exact⟨by rw [bM],by rw [bM]; exact K? w1.2.1 (tg hy),by rw [bM]; exact L_ w1.2.2⟩
   ·grind [bM,gu]
   ·intro us hu;rw [hsd,bM];have N0:=c1 us (by rw [amj]; exact hu);refine w5 (j:=j) (cs:=cs) (X:=dec (y.den ρ)) (fun a us ha=>cB.bX (f2.ei.keeps f1.rel) _ _ ha) (fun us GK=>?_) (gu _ _ _) (fun n=>?_) N0
    all_goals grind [tj,Kk]
  grind [T.leaf]
theorem Tu {v:W} {h:Hp} {id t:Nat} {e:V} {ov:List (V×List W)} (hv:aen v h=some (id,e,t,ov)): ∃ty,v= .oS id (dO e) t/\h.get id=some (.vec e t ty ov):=by
 unfold aen at hv;split at hv
 ·split at hv
  ·rename_i o ho;split at hv
   ·split at hv
    ·grind
    ·split at hv
     ·rename_i ht;split at hv
      ·rename_i hn;have ht:=aq ht
       grind [cO]
      grind
     grind
   grind
  grind
 grind
theorem IS [bI] {α:Type} {ρ:Nat->Int} {v:W} {s:St} {k:W->St->T α} {x:α} (hρ:E.ρ=ρ) (r:bP E s.h w) (hp:bW ρ s.pc) (h:(Oi v s k).leaf ρ=some x) :
 ∃v' h' dZ E',bW ρ dZ/\JW E w s.h E' h'/\(∀u,VR E w.heap v u->VR E' w.heap v' u)/\(k v' { s with h:=h',pc:=dZ }).leaf ρ=some x:=by
 unfold Oi at h;split at h
 ·rename_i id e t ov hv;obtain⟨ty,rfl,hl⟩:=Tu hv;obtain⟨hid,ho,alX⟩:=r.live id _ hl;have Aw:=ho;simp only [OR] at Aw;rw [hρ] at Aw;obtain⟨⟨r7,tR⟩,arr,lo,hi,us,q1,q2,q3,q4,q5,q6,q7⟩:=Aw;obtain⟨e',h',dZ,E',fh,f,w',l',c',g⟩:=KC [] hρ r hp tR h;split at g
  ·rename_i o hg;have hg':=f.sub.get _ _ hg;rw [hl] at hg';simp only [ag] at hg';subst hg';obtain⟨hk,s1,r1⟩:=Jt f.rel hg;have hρ':E'.ρ=ρ:=f.ρ.trans hρ;refine⟨_,_,dZ,{ E' with ro:=fun b=>E'.ro b\/b=(E'.θ id).1 },fh,⟨f.ρ,f.ei.trans s1,r1,f.sub.trans (Sub.drop _ _)⟩,fun u hu=>?_,g⟩;simp only [VR] at hu ⊢;obtain⟨_,m,a,cap,p1,rfl,p3,p4⟩:=hu;rw [cC,hρ] at p1;have hθ:=f.ei.θ id hid;have hκ:=f.ei.κ id hid
   have hO:OR E' w.heap id (.vec e' t ty []):=by simp only [OR];rw [hρ',hθ,hκ];have hv':=c' us (by rw [aF]; exact q2);refine⟨⟨fun p hp=>by simp at hp,w'⟩,arr,lo,hi,us,q1,hv',q3,?_,q5,q6,q7⟩;have e1:=hv'.length;have e2:=q2.length;omega
   have hh:=Vn (E:=E') (ro:=fun b=>E'.ro b\/b=(E'.θ id).1) (fun _ h=> .inl h) (.inr rfl) hO (k:=m) (cap:=cap) (a:=a) (by rw [hρ',l']; omega) p3 (by
    simp only [eE] at p4 ⊢;rw [hθ,hκ]
    exact p4)
   exact hh
  grind [T.leaf]
 grind [IU]
theorem pq [bI] {α:Type} {ρ:Nat->Int}: ∀{vs:List W} {s:St} {E:En} {k:List W->St->T α} {x:α},E.ρ=ρ->bP E s.h w->bW ρ s.pc->(wW vs s k).leaf ρ=some x->
 ∃Mr h' dZ E',bW ρ dZ/\JW E w s.h E' h'/\(∀us,cB E w.heap vs us->cB E' w.heap Mr us)/\(k Mr { s with h:=h',pc:=dZ }).leaf ρ=some x
 |[],s,E,k,x,hρ,r,hp,h=> ⟨[],s.h,s.pc,E,hp,JW.refl r,fun _ h=>h,h⟩
 |v::vs,s,E,k,x,hρ,r,hp,h=>by simp only [wW] at h;obtain⟨v1,U,fA,E1,fj,f1,q1,g1⟩:=IS hρ r hp h;obtain⟨Vl,Z,jw,E2,jl,f2,q2,g2⟩:=pq (s:={ s with h:=U,pc:=fA }) (f1.ρ.trans hρ) f1.rel fj g1;refine⟨v1::Vl,Z,jw,E2,jl,f1.trans f2,fun us hu=>?_,g2⟩;rw [bV] at hu ⊢;obtain⟨u,gr,rfl,a,b⟩:=hu;exact⟨u,gr,rfl,VR.bX (f2.ei.keeps f1.rel) _ _ (q1 u a),q2 gr (cB.bX (f1.ei.keeps r) _ _ b)⟩
end
section
variable {P:Program} {E:En} {w:World}
theorem lq: ∀{cs vs l:List W} {o:Nat},dQ cs o vs=some l->l.length=cs.length
 |cs,[],l,0,h=>by simp only [dQ,ag] at h; rw [h]
 |[],v::vs,l,0,h=>by simp [dQ] at h
 |c::cs,v::vs,l,0,h=>by
  simp only [dQ] at h;split at h
  ·rename_i l' hl;simp only [ag] at h;subst h;simp [lq hl]
  grind
 |[],vs,l,o+1,h=>by simp [dQ] at h
 |c::cs,vs,l,o+1,h=>by
  simp only [dQ] at h;split at h
  ·rename_i l' hl;simp only [ag] at h;subst h;simp [lq hl]
  grind
theorem nD: ∀{cs vs l:List W} {o:Nat} (m:List W),dQ cs o vs=some l->dQ (cs++m) o vs=some (l++m)
 |cs,[],l,0,m,h=>by simp only [dQ,ag] at h ⊢; rw [h]
 |[],v::vs,l,0,m,h=>by simp [dQ] at h
 |c::cs,v::vs,l,0,m,h=>by
  simp only [dQ,aP] at h ⊢;split at h
  ·rename_i l' hl;simp only [ag] at h;subst h;rw [nD m hl];rfl
  grind
 |[],vs,l,o+1,m,h=>by simp [dQ] at h
 |c::cs,vs,l,o+1,m,h=>by
  simp only [dQ,aP] at h ⊢;split at h
  ·rename_i l' hl;simp only [ag] at h;subst h;rw [nD m hl];rfl
  grind
theorem sk: ∀{cs vs l:List W} {o:Nat} (p:List W),dQ cs o vs=some l->dQ (p++cs) (p.length+o) vs=some (p++l)
 |cs,vs,l,o,[],h=>by simpa using h
 |cs,vs,l,o,x::p,h=>by have:=sk p h;rw [aP,aK,show p.length+1+o=(p.length+o)+1 by omega];simp only [dQ,this,aP]
theorem rj: ∀{cs vs l:List W} {o:Nat},dQ cs o vs=some l->∀j:Nat,l[j]?=if o<=j/\j<o+vs.length then vs[j-o]? else cs[j]?
 |cs,[],l,0,h,j=>by
  simp only [dQ,ag] at h
  grind
 |[],v::vs,l,0,h,j=>by simp [dQ] at h
 |c::cs,v::vs,l,0,h,j=>by
  simp only [dQ] at h;split at h
  ·rename_i l' hl;simp only [ag] at h;subst h
   cases j with
   |zero=>simp
   |succ j=>
    have:=rj hl j
    grind
  grind
 |[],vs,l,o+1,h,j=>by simp [dQ] at h
 |c::cs,vs,l,o+1,h,j=>by
  simp only [dQ] at h;split at h
  ·rename_i l' hl;simp only [ag] at h;subst h
   cases j with
   |zero=>rw [af J]; rfl
   |succ j=>
    have:=rj hl j
    grind
  grind
theorem zu (x:V): ∀(cs:List CK) (j k:Nat),(hJ cs j x)[k]?=(cs[k]?).map fun c=>vf c (iu (j+k) x)
 |[],j,k=>by simp [hJ]
 |c::cs,j,0=>by simp [hJ]
 |c::cs,j,k+1=>by
  simp only [hJ,aH,zu x cs (j+1) k]
  grind
theorem A7 {ρ:Nat->Int} {ks:List CK}: ∀{vs:List W} {off:Nat} {x x':V},setCells ks off vs x=some x'->off+vs.length<=(dec (x.den ρ)).l.length->
 (dec (x'.den ρ)).l.length=(dec (x.den ρ)).l.length/\(dec (x.den ρ)=dL (dec (x.den ρ)).l->dec (x'.den ρ)=dL (dec (x'.den ρ)).l)/\
 ∀j,(j<off\/off+vs.length<=j)/\(dec (x'.den ρ)).l[j]?=(dec (x.den ρ)).l[j]?\/∃c v a,off<=j/\vs[j-off]?=some v/\ks[j]?=some c/\mC c v=some a/\(dec (x'.den ρ)).l[j]?=some (dec (a.den ρ))
 |[],off,x,x',h,_=>by
  simp only [setCells,ag] at h
  grind
 |v::vs,off,x,x',h,hle=>by
  simp only [setCells] at h;split at h
  ·rename_i c hc;split at h
   ·rename_i a ha;simp only [aK] at hle
    have hs:dec ((V.op .set x (ew (.ej (.i (Int.ofNat off))) a)).den ρ)=dL ((dec (x.den ρ)).l.set off (dec (a.den ρ))):=by simp only [ew,V.den,e9.den,bB,D.n];rfl
    obtain⟨U,Z,h3⟩:=A7 (ρ:=ρ) h (by rw [hs,bM,ani]; omega);rw [hs,bM,ani] at U;rw [hs] at Z h3;simp only [bM] at Z h3;rw [di] at hc
    grind
   grind
  grind
theorem dP.mk {ro:Nat->Prop} {h:Array Obj} {d:D}: ∀{cs:List CK} {j:Nat} {us:List Value},us.length=cs.length->(∀k c u,cs[k]?=some c->us[k]?=some u->iR ro h c (d.hd (j+k)) u)->dP ro h cs j d us
 |[],j,us,hl,_=>by
  simp only [dP]
  grind
 |c::cs,j,[],hl,_=>by simp at hl
 |c::cs,j,u::us,hl,hh=>by
  simp only [dP];refine⟨u,us,rfl,by simpa using hh 0 c u rfl rfl,dP.mk (by simpa using hl) fun k c' u' U Z=>?_⟩;have:=hh (k+1) c' u' (by simpa using U) (by simpa using Z)
  grind
theorem Pc {r:Row} {e e' i:V} {off k:Nat} {vs:List W} {x:D} (hc:JA r e i off vs=some e') (hi:i.den E.ρ=(k:Int)) (hx:(dec (e.den E.ρ)).l[k]?=some x) (tR:pF r x) (hle:off+vs.length<=r.es) :
 ∃x',dec (e'.den E.ρ)=dL ((dec (e.den E.ρ)).l.set k x')/\pF r x'/\∀(h:Array Obj) (gr:List Value),gr.length=r.es->(∀j v u,off<=j->vs[j-off]?=some v->gr[j]?=some u->VR E h v u)->
  (∀j a u,(j<off\/off+vs.length<=j)->(gz r (.op .at e i))[j]?=some a->gr[j]?=some u->VR E h a u)->wH E.ro h r x' gr:=by
 unfold JA at hc;split at hc
 ·rename_i c;split at hc
  ·split at hc
   ·rename_i v;split at hc
    ·rename_i a ha;simp only [ag] at hc;subst hc;refine⟨dec (a.den E.ρ),?_,oQ ha,?_⟩
     ·simp only [ew,V.den,e9.den,bB,lr,D.n,hi,ud]
     ·intro h gr U Z _
      cases gr with
      |nil=>simp [Row.es] at U
      |cons y ys=>
       have:ys= []:=by
        grind [Row.es]
       subst this;exact⟨y,rfl,kI (Z 0 v y (au _) rfl rfl) ha⟩
    grind
   grind
  grind
 ·rename_i ks;split at hc
  ·rename_i x' UF;simp only [ag] at hc;subst hc;have mE:=AS E.ρ e i hi hx;obtain⟨w1,w2,w3⟩:=tR;obtain⟨g1,g2,g3⟩:=A7 (ρ:=E.ρ) UF (by rw [mE,w2]; exact hle);rw [mE] at g1 g2 g3;refine⟨dec (x'.den E.ρ),?_,⟨g2 w1,by rw [g1,w2],?_⟩,?_⟩
   ·simp only [ew,V.den,e9.den,bB,lr,D.n,hi,ud]
   ·intro j c y hj hy;rcases g3 j with ⟨_,q2⟩|⟨c',v',a',_,_,q3,q4,q5⟩
    ·grind
    ·rw [q5] at hy;rw [hj] at q3;simp only [ag] at hy q3;subst hy q3;exact oQ q4
   ·intro h gr U Z h3;show dP E.ro h ks 0 (dec (x'.den E.ρ)) gr;refine dP.mk U fun j c u hj hu=>?_;rw [ay];rcases g3 j with ⟨q1,q2⟩|⟨c',v',a',q1,q2,q3,q4,q5⟩
    ·have p2:=h3 j (vf c (iu j (.op .at e i))) u q1 (by simp only [gz,zu,hj,bw,ay]) hu;rw [np,oU,mE] at p2;have:(dec (x'.den E.ρ)).hd j=x.hd j:=by simp only [D.hd,q2]
     grind
    ·rw [hj] at q3;simp only [ag] at q3;subst q3;have:(dec (x'.den E.ρ)).hd j=dec (a'.den E.ρ):=by simp only [D.hd,q5,az]
     rw [this];exact kI (Z j v' u q1 q2 hu) q4
  grind
theorem kc {ρ:Nat->Int} {r:Row} {ov iD:List (V×List W)}: ∀(ds:List D) (i:Nat),(∀j,i<=j->j<i+ds.length->dX ρ j ov=dX ρ j iD)->bF ρ r ov ds i=bF ρ r iD ds i
 |[],_,_=>rfl
 |d::ds,i,h=>by simp only [bF];rw [h i (au _) ad,kc ds (i+1) fun j U Z=>h j J (by simp only [aK]; omega)]
theorem Dh {ρ:Nat->Int} {pc:List (SB×Bool)} (hp:bW ρ pc) {i:V} {k:Nat} (hi:i.den ρ=(k:Int)) {lJ:List W} {r:Row} (UH:lJ.length=r.es): ∀{ov iD:List (V×List W)},F2 pc i lJ ov=some iD->sA r ov->
 sA r iD/\dX ρ k iD=some lJ/\∀j:Nat,j≠k->dX ρ j iD=dX ρ j ov
 |[],iD,h,_=>by simp [F2] at h
 |(j,c)::l,iD,h,ho=>by
  simp only [F2] at h;split at h
  ·rename_i he;have he:=cO _ _ he;subst he;simp only [ag] at h;subst h;refine⟨?_,by simp [dX,hi],?_⟩
   ·intro p fh;rcases aw.1 fh with rfl|fh
    ·grind
    ·exact ho p (by simp [fh])
   ·intro m hm;simp only [dX,hi]
    grind
  ·split at h
   ·rename_i b hd;split at h
    ·have hd:=gq hp hd;rw [gw,beq_iff_eq,hi] at hd;simp only [ag] at h;subst h;refine⟨?_,by simp [dX,hd],?_⟩
     ·intro p fh;rcases aw.1 fh with rfl|fh
      ·grind
      ·exact ho p (by simp [fh])
     ·intro m hm;simp only [dX,<- hd]
      grind
    split at h
    ·rename_i l' hl;simp only [ag] at h;subst h;have hd:=gq hp hd;rw [gw,beq_eq_false_iff_ne,hi] at hd;obtain⟨g1,g2,g3⟩:=Dh hp hi UH hl fun p fh=>ho p (by simp [fh]);refine⟨?_,?_,?_⟩
     ·intro p fh;rcases aw.1 fh with rfl|fh
      ·exact ho _ ad
      ·exact g1 p fh
     ·simp only [dX]
      grind
     ·intro m hm;simp only [dX]
      grind
    grind
   grind
theorem Hy {ρ:Nat->Int} {pc:List (SB×Bool)} (hp:bW ρ pc) {i:V} {k:Nat} (hi:i.den ρ=(k:Int)): ∀{ov:List (V×List W)},vn pc i ov=true->dX ρ k ov=none
 |[],_=>rfl
 |(j,c)::l,h=>by
  simp only [vn] at h;split at h
  ·rename_i hd;have hd:=gq hp hd;rw [gw,beq_eq_false_iff_ne,hi] at hd;simp only [dX];rw [af (fun q=>hd q.symm)];exact Hy hp hi h
  grind
theorem OR.congr {h:Array Obj} {id:Nat} {a b:List W} {ty:TypeId} (ho:OR E h id (.cells a ty)) (hl:b.length=a.length) (hv: ∀us,cB E h a us->cB E h b us):OR E h id (.cells b ty):=by
 simp only [OR] at ho ⊢
 grind
set_option maxHeartbeats 800000 in
theorem Lx [bI] {E1:En} {tt:TT} (cJ:ep P tt) {s s':St} (r1:bP E1 s.h w) (hp:bW E1.ρ s.pc) {ty id es:Nat} {i:V} {off:Nat} {one:Bool} {vs:List W} {v':W} {u x:Value} (hx:VR E1 w.heap (.zq id es i off) u)
 (Mw:one=true->cB E1 w.heap vs x.cells.toList/\∀u∈x.cells.toList,u.oneCell'=true) (h:(D8 tt s ty id es i off one vs).leaf E1.ρ=some (v',s')) :
 s'.bD=s.bD/\bW E1.ρ s'.pc/\v'=W.undef/\∃w' E',(Instr.storeAt ty u x).run P w= .ok () w'/\eM E1 s.h w E' s'.h w'/\bP E' s'.h w':=by
 unfold D8 at h;split at h
 ·rename_i o hl;split at h
  ·rename_i e t zO ov;split at h
   ·rename_i ti fL;split at h
    ·rename_i iV;obtain⟨jD,hvl,wA⟩:=iV;obtain⟨pc0,XZ,t1,t2,h3⟩:=nr hp h;obtain⟨dZ,fh,h3⟩:=vu (s:={ s with pc:=pc0 }) XZ h3;split at h3
     ·rename_i cs hc;split at h3
      ·rename_i lJ hs;obtain⟨GJ,X6⟩:=Mw wA;have hx1:=hx;simp only [VR] at hx1;obtain⟨hid,k,hk,rfl⟩:=hx1;obtain⟨rc,ho,tR⟩:=r1.n9 hl;rw [cC] at t2;have fe:k<(dec (e.den E1.ρ)).l.length:=J
       have hd:(dec (e.den E1.ρ)).l[k]?=some (dec (e.den E1.ρ)).l[k]:=aM fe;generalize hxk:(dec (e.den E1.ρ)).l[k]=xk at hd;obtain⟨c1,c2⟩:=iY (ρ:=E1.ρ) ho (j:=0) hd;rw [ay] at c1;generalize X':bF E1.ρ (rowOf t) ov ((dec (e.den E1.ρ)).l.take k) 0=pre at c1 c2;generalize Rj:bF E1.ρ (rowOf t) ov ((dec (e.den E1.ρ)).l.drop (k+1)) (k+1)=post at c1
       have lz:(∀h us,cB E1 h (match dX E1.ρ k ov with |some cs=>cs|none=>gz (rowOf t) (.ej xk)) us↔cB E1 h cs us)/\cs.length=(rowOf t).es:=by
        rcases nF fh hk hc with g|⟨g,rfl⟩
        ·rw [g];obtain⟨p,p1,p2,_⟩:=kx g;have:=ho p p1;rw [p2] at this;exact⟨fun _ _=>Iff.rfl,this⟩
        ·rw [g];refine⟨fun h us=>xf ?_,gH _ _⟩;rw [AS E1.ρ e i hk hd];simp only [V.den,bB]
       obtain⟨hrv,Cr⟩:=lz;have IJ:lJ.length=(rowOf t).es:=by rw [lq hs,Cr]
       have hor:OR E1 w.heap id (.cells (pre++(cs++post)) zO):=by
        have:=(rc.live id _ (by rw [Hp.bR,ah rfl])).2.1;unfold cN at this;rw [c1] at this;refine OR.congr this ?_ ?_
        ·simp only [a8,Cr];congr 2;split
         ·rename_i cs0 h0;obtain⟨p,p1,p2,_⟩:=kx h0;have:=ho p p1;rw [p2] at this;exact this.symm
         ·rw [gH]
        ·intro us q2;obtain⟨a,b,rfl,a1,a2⟩:=q2.split;obtain⟨a',b',rfl,b1,b2⟩:=a2.split;exact a1.append (((hrv _ _).1 b1).append b2)
       have r2:=r1.swap (H2:=s.h.put id (.cells (pre++(cs++post)) zO)) hl hor (by rw [Hp.bR,ah rfl]) (fun j hj=>by rw [Hp.bR,af hj]) rfl rfl
       have hs2:dQ (pre++(cs++post)) (k*es+off) vs=some (pre++(lJ++post)):=by rw [<- jD,<- c2];exact sk pre (nD post hs)
       obtain⟨w',g1,g2,g3⟩:=lL (P:=P) r2 (by rw [Hp.bR,ah rfl]) hs2 GJ X6;have hlen:x.cells.size=ti.size:=by have:=GJ.length; simp only [bh] at this; omega
       have kZ:(Instr.storeAt ty (.pointer (some ⟨(E1.θ id).1,(E1.θ id).2+(k*es+off),none⟩)) x).run P w= .ok () w':=by simp [Instr.storeAt,Instr.sureAddr,storeVar,ek (cJ ty ti fL),hlen,g1]
       have fin: ∀(o':dG),OR E1 w'.heap id o'->∃w' E',(Instr.storeAt ty (.pointer (some ⟨(E1.θ id).1,(E1.θ id).2+(k*es+off),none⟩)) x).run P w= .ok () w'/\eM E1 s.h w E' (s.h.put id o') w'/\bP E' (s.h.put id o') w':=by
        intro o' Aw;have al1:Fu (s.h.put id (.cells (pre++(cs++post)) zO)) s.h:=(Fu.put hl).symm
        have al2:Fu ((s.h.put id (.cells (pre++(cs++post)) zO)).put id (.cells (pre++(lJ++post)) zO)) (s.h.put id o'):=by
         refine⟨fun j y hj=>?_,fun j y hj=>?_,rfl,rfl⟩
         ·rw [Hp.bR];split
          ·exact⟨o',rfl⟩
          ·rename_i fZ;rw [Hp.bR,af fZ,Hp.bR,af fZ] at hj;exact⟨y,hj⟩
         ·rw [Hp.bR] at hj ⊢;split
          ·exact⟨_,rfl⟩
          ·rename_i fZ;rw [af fZ] at hj;rw [Hp.bR,af fZ];exact⟨y,hj⟩
        refine⟨w',E1,kZ,(g2.left al1).right al2,?_⟩;exact g3.swap (id:=id) (by rw [Hp.bR,ah rfl]) Aw (by rw [Hp.bR,ah rfl]) (fun j hj=>by rw [Hp.bR,af hj,Hp.bR,af hj,Hp.bR,af hj]) rfl rfl
       have Az:=(g3.live id _ (by rw [Hp.bR,ah rfl])).2.1
       have apart: ∀iD:List (V×List W),sA (rowOf t) iD->dX E1.ρ k iD=some lJ->(∀j:Nat,j≠k->dX E1.ρ j iD=dX E1.ρ j ov)->OR E1 w'.heap id (.vec e t zO iD):=by
        intro iD q1 q2 q3;refine OR.n9.2 ⟨⟨q1,tR⟩,?_⟩
        have:cN E1.ρ e t iD=pre++(lJ++post):=by
         unfold cN;obtain⟨d1,_⟩:=iY (ρ:=E1.ρ) q1 (j:=0) hd;rw [ay,q2] at d1;rw [d1,<- X',<- Rj];congr 1
         ·refine kc _ _ fun j _ hj=>q3 j ?_;rw [aZ] at hj;omega
         ·congr 1;exact kc _ _ fun j hj _=>q3 j J
        rw [this];exact Az
       split at h3
       ·rename_i iD r7;have:=bC h3;simp only [ak] at this;obtain⟨rfl,rfl⟩:=this;refine⟨rfl,fh,rfl,?_⟩;obtain⟨q1,q2,q3⟩:=Dh fh hk IJ r7 ho;exact fin _ (apart iD q1 q2 q3)
       ·split at h3
        ·rename_i aiU;have Ro:=Hy fh hk aiU;split at h3
         ·rename_i e' akJ;have:=bC h3;simp only [ak] at this;obtain⟨rfl,rfl⟩:=this;refine⟨rfl,fh,rfl,fin _ ?_⟩;have hxm:xk∈(dec (e.den E1.ρ)).l:=bu hd
          have hle:off+vs.length<=(rowOf t).es:=by
           rw [<- Cr];rcases amL vs.length with hz|hz
           ·have aiu:=ame hz;subst aiu
            have: ∀(l c:List W) (o:Nat),dQ c o []=some l->o<=c.length:=by
             intro l c
             induction c generalizing l with
             |nil=>intro o ho; cases o with |zero=>exact aml _|succ o=>simp [dQ] at ho
             |cons a c ih=>
              intro o ho
              cases o with
              |zero=>exact aml _
              |succ o=>
               simp only [dQ] at ho;split at ho
               ·rename_i l' N7;have:=ih l' o N7;simp; omega
               ·simp at ho
            have:=this _ _ _ hs;simpa using this
           ·have:=rj hs (off+vs.length-1);rw [ah J] at this
            have Bt:(vs[off+vs.length-1-off]?).isSome=true:=by rw [aM J]; rfl
            rw [<- this] at Bt;obtain⟨y,hy⟩:=amy.1 Bt;have:=(aW.1 hy).1;rw [lq hs] at this;omega
          obtain⟨x',z1,z2,z3⟩:=Pc akJ hk hd (tR.2.1 xk hxm) hle;refine OR.n9.2 ⟨⟨ho,?_⟩,?_⟩
          ·rw [z1];refine⟨by rw [bM],fun y hy=>?_,by rw [bM]; intro q; have:=congrArg List.length q; simp at this; exact tR.2.2 this⟩;rw [bM] at hy;rcases List.mem_or_eq_of_mem_set hy with hy|rfl
           ·exact tR.2.1 y hy
           ·exact z2
          ·have DP:(dec (e'.den E1.ρ)).l[k]?=some x':=by
            rw [z1,bM,List.getElem?_set_self fe]
           obtain⟨d1,d2⟩:=iY (ρ:=E1.ρ) ho (j:=0) DP;rw [ay,Ro] at d1
           have Rr:cN E1.ρ e' t ov=pre++(gz (rowOf t) (.ej x')++post):=by
            unfold cN;rw [d1,<- X',<- Rj,z1,bM];congr 1
            ·rw [anF (au _)]
            ·congr 1;rw [anG J]
           rw [Rr];refine OR.congr Az (by simp only [a8,gH,IJ]) fun us q2=>?_;obtain⟨a,b,rfl,a1,a2⟩:=q2.split;obtain⟨a',b',rfl,b1,b2⟩:=a2.split;refine a1.append (cB.append ?_ b2);rw [fV];simp only [V.den,bB]
           have aiN:cs=gz (rowOf t) (.op .at e i):=by
            rcases nF fh hk hc with g|⟨g,g'⟩
            ·rw [Ro] at g; simp at g
            ·exact g'
           refine z3 _ a' (by rw [b1.length,IJ]) ?_ ?_
           ·intro j vj uj hj1 hj2 hj3;have hjl:=(aW.1 hj2).1;have:=rj hs j;rw [ah J,hj2] at this;obtain⟨y,y1,y2⟩:=b1.nth (by rw [di]; exact this);rw [hj3] at y1;simp only [ag] at y1;subst y1;exact y2
           ·intro j aj uj hj1 hj2 hj3;have:=rj hs j;rw [af J,aiN,hj2] at this;obtain⟨y,y1,y2⟩:=b1.nth (by rw [di]; exact this);rw [hj3] at y1;simp only [ag] at y1;subst y1;exact y2
         ·have:=bC h3;simp only [ak] at this;obtain⟨rfl,rfl⟩:=this;refine⟨rfl,fh,rfl,fin _ (apart _ ?_ ?_ ?_)⟩
          ·intro p fh;rcases aw.1 fh with rfl|fh
           ·exact IJ
           ·exact ho p fh
          ·simp only [dX];rw [ah hk]
          ·intro j hj;simp only [dX];rw [af J]
        ·simp [T.leaf] at h3
      ·simp [T.leaf] at h3
     ·simp [T.leaf] at h3
    ·simp [T.leaf] at h
   ·simp [T.leaf] at h
  ·simp [T.leaf] at h
 ·simp [T.leaf] at h
theorem aaf {E1:En} {h:Array Obj} {c:CK} {v:W} {u:Value} (hv:VR E1 h v u):VR E1 h (afk c v) u:=by
 unfold afk;split
 ·split
  ·simp only [VR] at hv ⊢;subst hv;exact⟨⟨none,rfl⟩,by simp only [V.den,bB]; exact .nil _⟩
  ·split
   ·split
    ·split
     ·simp only [VR] at hv ⊢;obtain⟨_,a,cap,rfl,_,hc⟩:=hv;simp only [eE] at hc;obtain⟨rfl,_⟩:=hc;exact⟨⟨some a,rfl⟩,by simp only [V.den,bB]; exact .vG _ _ _⟩
     grind
    grind
   grind
  grind
 grind
theorem G0 {E1:En} {h:Array Obj}: ∀(cs:List CK) {vs:List W} {us:List Value},cB E1 h vs us->cB E1 h (Lq cs vs) us
 |[],vs,us,hv=>hv
 |_::_,[],us,hv=>hv
 |c::cs,v::vs,us,hv=>by rw [bV] at hv;obtain⟨u,gr,rfl,U,Z⟩:=hv;simp only [Lq];rw [bV];exact⟨u,gr,rfl,aaf U,G0 cs Z⟩
set_option maxHeartbeats 800000 in
theorem Lw [bI] {E1:En} {tt:TT} (cJ:ep P tt) {s s':St} (r1:bP E1 s.h w) (hp:bW E1.ρ s.pc) {ty id es:Nat} {i j0:V} {off:Nat} {one:Bool} {vs:List W} {v':W} {u x:Value} (hx:VR E1 w.heap (.zq id es i off) u)
 (Mw:one=true->cB E1 w.heap vs x.cells.toList/\∀u∈x.cells.toList,u.oneCell'=true) (h:(D7 tt s ty id es i j0 off one vs).leaf E1.ρ=some (v',s')) :
 s'.bD=s.bD/\bW E1.ρ s'.pc/\v'=W.undef/\∃w' E',(Instr.storeAt ty u x).run P w= .ok () w'/\eM E1 s.h w E' s'.h w'/\bP E' s'.h w':=by
 unfold D7 at h;split at h
 ·rename_i o hl;split at h
  ·rename_i e t zO ov;split at h
   ·rename_i ti fL;split at h
    ·rename_i iV;obtain⟨jD,hvl,wA⟩:=iV;obtain⟨pc0,XZ,t1,t2,h3⟩:=nr hp h;obtain⟨dZ,fh,h3⟩:=vu (s:={ s with pc:=pc0 }) XZ h3;split at h3
     ·rename_i hdb;have hij:=gq fh hdb;split at h3
      ·rename_i cs hc;split at h3
       ·rename_i lJ hs;obtain⟨ait,X6⟩:=Mw wA;have GJ:=G0 ((Nt (rowOf t)).drop off) ait;have hx1:=hx;simp only [VR] at hx1;obtain⟨hid,k,hk,rfl⟩:=hx1;simp only [SB.den,beq_iff_eq] at hij;have Cp:j0.den E1.ρ=(k:Int):=by rw [<- hij]; exact hk
        obtain⟨rc,ho,tR⟩:=r1.n9 hl;rw [cC] at t2;have fe:k<(dec (e.den E1.ρ)).l.length:=J
        have hd:(dec (e.den E1.ρ)).l[k]?=some (dec (e.den E1.ρ)).l[k]:=aM fe;generalize hxk:(dec (e.den E1.ρ)).l[k]=xk at hd;obtain⟨c1,c2⟩:=iY (ρ:=E1.ρ) ho (j:=0) hd;rw [ay] at c1;generalize X':bF E1.ρ (rowOf t) ov ((dec (e.den E1.ρ)).l.take k) 0=pre at c1 c2;generalize Rj:bF E1.ρ (rowOf t) ov ((dec (e.den E1.ρ)).l.drop (k+1)) (k+1)=post at c1
        have lz:(∀h us,cB E1 h (match dX E1.ρ k ov with |some cs=>cs|none=>gz (rowOf t) (.ej xk)) us↔cB E1 h cs us)/\cs.length=(rowOf t).es:=by
         rcases nF fh Cp hc with g|⟨g,rfl⟩
         ·rw [g];obtain⟨p,p1,p2,_⟩:=kx g;have:=ho p p1;rw [p2] at this;exact⟨fun _ _=>Iff.rfl,this⟩
         ·rw [g];refine⟨fun h us=>xf ?_,gH _ _⟩;rw [AS E1.ρ e j0 Cp hd];simp only [V.den,bB]
        obtain⟨hrv,Cr⟩:=lz;have IJ:lJ.length=(rowOf t).es:=by rw [lq hs,Cr]
        have hor:OR E1 w.heap id (.cells (pre++(cs++post)) zO):=by
         have:=(rc.live id _ (by rw [Hp.bR,ah rfl])).2.1;unfold cN at this;rw [c1] at this;refine OR.congr this ?_ ?_
         ·simp only [a8,Cr];congr 2;split
          ·rename_i cs0 h0;obtain⟨p,p1,p2,_⟩:=kx h0;have:=ho p p1;rw [p2] at this;exact this.symm
          ·rw [gH]
         ·intro us q2;obtain⟨a,b,rfl,a1,a2⟩:=q2.split;obtain⟨a',b',rfl,b1,b2⟩:=a2.split;exact a1.append (((hrv _ _).1 b1).append b2)
        have r2:=r1.swap (H2:=s.h.put id (.cells (pre++(cs++post)) zO)) hl hor (by rw [Hp.bR,ah rfl]) (fun j hj=>by rw [Hp.bR,af hj]) rfl rfl
        have hs2:dQ (pre++(cs++post)) (k*es+off) (Lq ((Nt (rowOf t)).drop off) vs)=some (pre++(lJ++post)):=by rw [<- jD,<- c2];exact sk pre (nD post hs)
        obtain⟨w',g1,g2,g3⟩:=lL (P:=P) r2 (by rw [Hp.bR,ah rfl]) hs2 GJ X6;have hlen:x.cells.size=ti.size:=by have:=ait.length; simp only [bh] at this; omega
        have kZ:(Instr.storeAt ty (.pointer (some ⟨(E1.θ id).1,(E1.θ id).2+(k*es+off),none⟩)) x).run P w= .ok () w':=by simp [Instr.storeAt,Instr.sureAddr,storeVar,ek (cJ ty ti fL),hlen,g1]
        have fin: ∀(o':dG),OR E1 w'.heap id o'->∃w' E',(Instr.storeAt ty (.pointer (some ⟨(E1.θ id).1,(E1.θ id).2+(k*es+off),none⟩)) x).run P w= .ok () w'/\eM E1 s.h w E' (s.h.put id o') w'/\bP E' (s.h.put id o') w':=by
         intro o' Aw;have al1:Fu (s.h.put id (.cells (pre++(cs++post)) zO)) s.h:=(Fu.put hl).symm
         have al2:Fu ((s.h.put id (.cells (pre++(cs++post)) zO)).put id (.cells (pre++(lJ++post)) zO)) (s.h.put id o'):=by
          refine⟨fun j y hj=>?_,fun j y hj=>?_,rfl,rfl⟩
          ·rw [Hp.bR];split
           ·exact⟨o',rfl⟩
           ·rename_i fZ;rw [Hp.bR,af fZ,Hp.bR,af fZ] at hj;exact⟨y,hj⟩
          ·rw [Hp.bR] at hj ⊢;split
           ·exact⟨_,rfl⟩
           ·rename_i fZ;rw [af fZ] at hj;rw [Hp.bR,af fZ];exact⟨y,hj⟩
         refine⟨w',E1,kZ,(g2.left al1).right al2,?_⟩;exact g3.swap (id:=id) (by rw [Hp.bR,ah rfl]) Aw (by rw [Hp.bR,ah rfl]) (fun j hj=>by rw [Hp.bR,af hj,Hp.bR,af hj,Hp.bR,af hj]) rfl rfl
        have Az:=(g3.live id _ (by rw [Hp.bR,ah rfl])).2.1
        have apart: ∀iD:List (V×List W),sA (rowOf t) iD->dX E1.ρ k iD=some lJ->(∀j:Nat,j≠k->dX E1.ρ j iD=dX E1.ρ j ov)->OR E1 w'.heap id (.vec e t zO iD):=by
         intro iD q1 q2 q3;refine OR.n9.2 ⟨⟨q1,tR⟩,?_⟩
         have:cN E1.ρ e t iD=pre++(lJ++post):=by
          unfold cN;obtain⟨d1,_⟩:=iY (ρ:=E1.ρ) q1 (j:=0) hd;rw [ay,q2] at d1;rw [d1,<- X',<- Rj];congr 1
          ·refine kc _ _ fun j _ hj=>q3 j ?_;rw [aZ] at hj;omega
          ·congr 1;exact kc _ _ fun j hj _=>q3 j J
         rw [this];exact Az
        split at h3
        ·rename_i iD r7;have:=bC h3;simp only [ak] at this;obtain⟨rfl,rfl⟩:=this;refine⟨rfl,fh,rfl,?_⟩;obtain⟨q1,q2,q3⟩:=Dh fh Cp IJ r7 ho;exact fin _ (apart iD q1 q2 q3)
        ·split at h3
         ·rename_i aiU;have:=bC h3;simp only [ak] at this;obtain⟨rfl,rfl⟩:=this;refine⟨rfl,fh,rfl,fin _ (apart _ ?_ ?_ ?_)⟩
          ·intro p fh;rcases aw.1 fh with rfl|fh
           ·exact IJ
           ·exact ho p fh
          ·simp only [dX];rw [ah Cp]
          ·intro j hj;simp only [dX];rw [af J]
         ·simp [T.leaf] at h3
       ·simp [T.leaf] at h3
      ·simp [T.leaf] at h3
     ·simp [T.leaf] at h3
    ·simp [T.leaf] at h
   ·simp [T.leaf] at h
  ·simp [T.leaf] at h
 ·simp [T.leaf] at h
theorem Ly [bI] {tt:TT} (cJ:ep P tt) {s s':St} (r:bP E s.h w) (hp:bW E.ρ s.pc) {ty id es:Nat} {i:V} {off:Nat} {v v':W} {u x:Value} (hx:VR E w.heap (.zq id es i off) u) (hv:VR E w.heap v x) (h:(D9 tt s ty id es i off v).leaf E.ρ=some (v',s')) :
 s'.bD=s.bD/\bW E.ρ s'.pc/\v'=W.undef/\∃w' E',(Instr.storeAt ty u x).run P w= .ok () w'/\eM E s.h w E' s'.h w'/\bP E' s'.h w':=by
 unfold D9 at h;split at h
 ·exact Lw cJ r hp hx (fun wA=> ⟨hv.cells wA,(hv.cells wA).rB wA⟩) h
 ·obtain⟨vs,U,fA,E1,fj,f,q,g⟩:=pq rfl r hp h;have hρ:=f.ρ;rw [<- hρ] at fj g;obtain⟨a1,a2,a3,w',E',a4,a5,a6⟩:=Lx cJ (s:={ s with h:=U,pc:=fA }) f.rel fj (VR.bX (f.ei.keeps r) _ _ hx) (fun wA=> ⟨q _ (hv.cells wA),(hv.cells wA).rB wA⟩) g;exact⟨a1,by rw [<- hρ]; exact a2,a3,w',E',a4,f.ei.trans a5,a6⟩
end
section
variable {P:Program} {E:En} {w:World}
theorem wH.length {ro:Nat->Prop} {h:Array Obj} {r:Row} {d:D} {us:List Value} (hh:wH ro h r d us):us.length=r.es:=by
 cases r with
 |one c=>obtain⟨u,rfl,_⟩:=hh; rfl
 |many cs=>exact dP.length hh
theorem fI.append {h:Array Obj} {b o:Nat} {us vs:List Value} (U:fI h b o us) (Z:fI h b (o+us.length) vs):fI h b o (us++vs):=by
 intro i u hi;rw [anw] at hi;split at hi
 ·exact U i u hi
 ·rename_i fe;have:=Z _ u hi
  grind
theorem C6 {ro:Nat->Prop} (kO:ro=E.ro) {h:Array Obj} {r:Row} {b o:Nat}: ∀(L:List D) (j:Nat),(∀i x,L[i]?=some x->∃us,wH ro h r x us/\fI h b (o+(j+i)*r.es) us)->
 ∃us,cB E h (bF E.ρ r [] L j) us/\fI h b (o+j*r.es) us/\us.length=L.length*r.es/\∀u∈us,u.oneCell'=true
 |[],j,_=> ⟨[],by simp [bF,cB],fun i u hi=>by simp at hi,ad,ad⟩
 |d::L,j,hh=>by
  subst kO;obtain⟨a,a1,a2⟩:=hh 0 d rfl
  obtain⟨b',b1,b2,b3,b4⟩:=C6 rfl L (j+1) fun i x hi=>by have:=hh (i+1) x (by simpa using hi);rw [show j+(i+1)=j+1+i by omega] at this;exact this
  have Ob:=a1.length;refine⟨a++b',?_,?_,?_,?_⟩
  ·simp only [bF,dX];refine cB.append ?_ b1;rw [fV];simpa only [V.den,bB] using a1
  ·rw [bd] at a2;refine a2.append ?_
   grind
  ·grind
  ·intro u hu;rcases amb.1 hu with hu|hu
   ·exact a1.rB u hu
   grind
theorem aaH {t:Nat} {d:D} {u:Value} (hr:Rd E.ro w.heap (.sl t) d u) (fZ:d.l≠[]): ∃us,Src P E w (rowOf t).es d.l.length (bF E.ρ (rowOf t) [] d.l 0) u us:=by
 obtain⟨x,hx⟩ : ∃x,d.l[0]?=some x:=by
  cases h:d.l with
  |nil=>exact absurd h fZ
  |cons a l=>exact⟨a,rfl⟩
 obtain⟨b,o,cap,us0,rfl,Y,_,_⟩:=hr.row hx
 obtain⟨us,U,Z,h3,h4⟩:=C6 (E:=E) (ro:=E.ro) rfl (h:=w.heap) (r:=rowOf t) (b:=b) (o:=o) d.l 0 fun i x hi=>by
  obtain⟨b',o',oE,gr,he,_,g1,g2⟩:=hr.row hi
  grind
 rw [ama,bd] at Z;exact⟨us.toArray,fun _=>rfl,fun w2 hw=>by simp only [Builtin.firstCells]; exact Z.QJ h3 w2 hw,by simpa using U,by simpa using h3,by simpa using h4⟩
structure Grown (ρ:Nat->Int) (r:Row) (e0 e1:V) (ds:List D) (news:List W):Prop where
 l:(dec (e1.den ρ)).l=(dec (e0.den ρ)).l++ds
 wf:dec (e1.den ρ)=dL (dec (e1.den ρ)).l
 rows: ∀d∈ds,pF r d
 vr: ∀(E':En) (h:Array Obj) (us:List Value) (j:Nat),E'.ρ=ρ->cB E' h news us->cB E' h (bF ρ r [] ds j) us
theorem jV (r:Row):sA r []:=fun p hp=>by simp at hp
theorem Cl [bI] {E':En} {H0:Hp} {w':World} {cells:List W} {e:TypeId} {e1:V} {t:Nat} (r:bP E' (H0.new (.cells cells e)) w') (tR:rX (rowOf t) (dec (e1.den E'.ρ))) (hl:(cN E'.ρ e1 t []).length=cells.length)
 (hv: ∀us,cB E' w'.heap cells us->cB E' w'.heap (cN E'.ρ e1 t []) us):bP E' (H0.new (.vec e1 t e [])) w':=by
 have hg:(H0.new (.cells cells e)).get H0.fresh=some (.cells cells e):=by rw [Hp.fS,ah rfl]
 refine r.swap hg (OR.n9.2 ⟨⟨jV _,tR⟩,OR.congr (r.live _ _ hg).2.1 hl hv⟩) (by rw [Hp.fS,ah rfl]) (fun j hj=>by rw [Hp.fS,af hj,Hp.fS,af hj]) ?_ ?_
 all_goals grind [Hp.new]
theorem vH {H0 H1:Hp} {o o':dG} (hn:H1.next=H0.next) (hr:H1.res=H0.res) (hg: ∀j,(H0.get j).isSome=(H1.get j).isSome):Fu (H0.new o) (H1.new o'):=by
 have hf:H1.fresh=H0.fresh:=by unfold Hp.fresh; rw [hn,hr]
 have key: ∀{A B:Option dG} {x:dG},A.isSome=B.isSome->A=some x->∃y,B=some y:=by intro A B x U Z;rw [Z] at U;exact amy.1 U.symm
 refine⟨fun j x hj=>?_,fun j x hj=>?_,?_,?_⟩
 all_goals grind [Hp.fS,Hp.new]
set_option maxHeartbeats 800000 in
theorem xP [bI] {t t2 ty:Nat} {H h0:Hp} (r:bP E H w) {ie:TI} {e m:Nat} {own:Option Nat} {news:List W} {x:W} {d2:TypeDesc} {u u2:Value} {us:Array Value} (uG:ma P e ie)
 (ht:P.underlying t=some (.slice e)) (xR:P.underlying t2=some d2) (jP: ∀k,d2≠.int k) (wP:ie.size≠0) (sO:ie.bytes≠0) (vP:ie.zero.length=ie.size) (Mz:ie.bytes<=400)
 (src:Src P E w ie.size m news u2 us) (hm:0<m) (hx:VR E w.heap x u) {e0 e1:V} {t':Nat} (Y:pC e own x H=some (e0,t',h0)) (jD:(rowOf t').es=ie.size) {ds:List D} (g:Grown E.ρ (rowOf t') e0 e1 ds news) (vQ:ds.length=m)
 (aeZ:((dec (e0.den E.ρ)).l.length+m)*ie.bytes<=140737488355328) :
 ∃y w' E',(Builtin.append_ #[t,t2] ty #[u,u2]).run P w= .ok y w'/\eM E H w E' (h0.new (.vec e1 t' e [])) w'/\bP E' (h0.new (.vec e1 t' e [])) w'/\VR E' w'.heap (.oS h0.fresh (dO e1) t') y:=by
 have hbound: ∀k,k<=(dec (e0.den E.ρ)).l.length->(k+m)*ie.bytes<=140737488355328:=by intro k hk;exact bk (amv _ J) aeZ
 have TO:news.length=m*ie.size:=by have U:=src.Uz.length;have Z:=src.size;simp only [bh] at U;omega
 have sS: ∀(a:Option Addr),u= .slice a 0 0->h0=H->(dec (e0.den E.ρ)).l= []->
  ∃y w' E',(Builtin.append_ #[t,t2] ty #[u,u2]).run P w= .ok y w'/\eM E H w E' (h0.new (.vec e1 t' e [])) w'/\bP E' (h0.new (.vec e1 t' e [])) w'/\VR E' w'.heap (.oS h0.fresh (dO e1) t') y:=by
  intro a hu he nJ;subst hu he
  have oo:nh ie e 0 m news h0=some (.slice h0.fresh 0 (0+m) (.rest ie.size),h0.new (.cells news e)):=by unfold nh;rw [ah (hbound 0 J)]
  obtain⟨y,w',E',p1,p2,p3,p4⟩:=oN (t:=t) (t2:=t2) (ty:=ty) (cap:=0) r uG ht xR jP sO vP src J a (old:=[]) (olds:=#[]) (cs:=news) ad (by simp [cB]) ad ad
   (fun w2 _=>by
    cases a with
    |none=>simp [Builtin.firstCells]
    |some a=>simp only [Builtin.firstCells,ama]; rfl) oo
  have hρ:=p2.ρ;have Ax:(dec (e1.den E'.ρ)).l=ds:=by rw [hρ,g.l,nJ,aF]
  have tR:rX (rowOf t') (dec (e1.den E'.ρ)):=by refine⟨by rw [hρ]; exact g.wf,fun d hd=>?_,by rw [Ax]; intro q; rw [q] at vQ; simp at vQ; omega⟩;rw [Ax] at hd;exact g.rows d hd
  refine⟨y,w',E',p1,p2.right (vH rfl rfl fun _=>rfl),Cl p3 tR ?_ ?_,?_⟩
  ·unfold cN;rw [cD (jV _),Ax,vQ,jD,TO]
  ·intro gr GK;unfold cN;rw [Ax,hρ];exact g.vr E' w'.heap gr 0 hρ GK
  ·simp only [VR] at p4 ⊢;obtain⟨q1,a',oE,q2,q3,q4⟩:=p4;refine⟨q1,0+m,a',oE,?_,q2,q3,?_⟩
   ·rw [cC,Ax,vQ,ay]
   ·rw [jD]; exact q4
 unfold pC at Y;split at Y
 ·rename_i id n t0;split at Y
  ·rename_i o hl;split at Y
   ·rename_i zr t00 rZ ov;split at Y
    ·split at Y
     ·rename_i ht0;split at Y
      ·rename_i N1;split at Y
       ·rename_i hn;simp only [ag,ak] at Y;obtain⟨rfl,rfl,rfl⟩:=Y;have ht0:=aq ht0;have N1:=aq N1;have hn:=cO _ _ hn;subst ht0 N1 hn;obtain⟨r2,_,aeQ⟩:=r.n9 hl;simp only [VR] at hx;obtain⟨hid,k,a,cap,hk,rfl,hkc,gJ⟩:=hx;rw [cC] at hk;have hk:k=(dec (zr.den E.ρ)).l.length:=J
        have hx2:VR E w.heap (.slice id 0 k (.rest ie.size)) (.slice (some a) k cap):=by simp only [VR];exact⟨hid,a,cap,rfl,hkc,by rw [<- jD]; exact gJ⟩
        have Cr:(cN E.ρ zr t0 []).length=k*ie.size:=by unfold cN;rw [cD (jV _),jD,hk]
        have aiF:0<m*ie.size:=am3 hm J
        have ae6:pE ie rZ m news (.slice id 0 k (.rest ie.size)) (H.put id (.cells (cN E.ρ zr t0 []) rZ)) =
         some (.slice H.fresh 0 (k+m) (.rest ie.size),((H.put id (.cells (cN E.ρ zr t0 []) rZ)).drop id).new (.cells (cN E.ρ zr t0 []++news) rZ)):=by
         unfold pE;simp only [if_true];rw [Hp.bR,ah rfl];simp only;rw [af (by rw [Cr,amd]; omega),ah ⟨J,trivial⟩];simp only [eD];unfold nh;rw [ah (hbound k J)];rfl
        obtain⟨y,w',E',p1,p2,p3,p4⟩:=vk (t:=t) (t2:=t2) (ty:=ty) r2 uG ht xR jP wP sO vP src hx2 ae6;have hρ:=p2.ρ;have Ax:(dec (e1.den E'.ρ)).l=(dec (zr.den E.ρ)).l++ds:=by rw [hρ,g.l]
        have tR:rX (rowOf t0) (dec (e1.den E'.ρ)):=by
         refine⟨by rw [hρ]; exact g.wf,fun d hd=>?_,by rw [Ax]; intro q; have:=congrArg List.length q; simp at this; rw [this.2] at vQ; simp at vQ; omega⟩;rw [Ax] at hd;rcases amb.1 hd with hd|hd
         ·exact aeQ.2.1 d hd
         ·exact g.rows d hd
        have Rr:cN E'.ρ e1 t0 []=cN E.ρ zr t0 []++bF E.ρ (rowOf t0) [] ds (0+(dec (zr.den E.ρ)).l.length):=by unfold cN;rw [Ax,hρ,lK]
        have DN: ∀j,(((H.put id (.cells (cN E.ρ zr t0 []) rZ)).drop id).get j)=(H.drop id).get j:=by
         intro j;rw [Hp.j8,Hp.j8];split
         ·rfl
         ·rename_i fZ;rw [Hp.bR,af fZ]
        have al:Fu (((H.put id (.cells (cN E.ρ zr t0 []) rZ)).drop id).new (.cells (cN E.ρ zr t0 []++news) rZ)) ((H.drop id).new (.vec e1 t0 rZ [])):=
         vH rfl rfl fun j=>by rw [DN]
        have p3':bP E' ((H.drop id).new (.cells (cN E.ρ zr t0 []++news) rZ)) w':=by
         have hg:(((H.put id (.cells (cN E.ρ zr t0 []) rZ)).drop id).new (.cells (cN E.ρ zr t0 []++news) rZ)).get H.fresh=some (.cells (cN E.ρ zr t0 []++news) rZ):=by rw [Hp.fS];exact ah rfl
         refine p3.swap hg (p3.live _ _ hg).2.1 (by rw [Hp.fS]; exact ah rfl) (fun j hj=>?_) ?_ ?_
         ·rw [Hp.fS,Hp.fS];show (if j=H.fresh then _ else _)=(if j=H.fresh then _ else _);rw [af hj,af hj,DN]
         ·unfold Hp.new;simp only [Hp.drop,Hp.put];split<;>rfl
         ·unfold Hp.new;simp only [Hp.drop,Hp.put];split<;>rfl
        refine⟨y,w',E',p1,(p2.left (Fu.put hl).symm).right al,Cl p3' tR ?_ ?_,?_⟩
        ·rw [Rr,a8,a8,cD (jV _),vQ,jD,TO]
        ·intro gr GK;obtain⟨a1,a2,rfl,b1,b2⟩:=GK.split;rw [Rr];exact b1.append (g.vr E' w'.heap a2 _ hρ b2)
        ·simp only [VR] at p4 ⊢;obtain⟨q1,a',oE,q2,q3,q4⟩:=p4;refine⟨q1,k+m,a',oE,?_,q2,q3,?_⟩
         ·rw [cC,Ax,a8,vQ,hk]
         ·rw [jD]; exact q4
       ·simp at Y
      ·simp at Y
     ·simp at Y
    ·simp at Y
   ·simp at Y
  ·simp at Y
 ·split at Y
  ·simp only [ag,ak] at Y;obtain⟨rfl,rfl,rfl⟩:=Y;simp only [VR] at hx;exact sS none hx rfl (by simp only [V.den,bB,D.l])
  ·simp at Y
 ·split at Y
  ·simp only [ag,ak] at Y;obtain⟨rfl,rfl,rfl⟩:=Y;simp only [VR] at hx;obtain⟨x,hx⟩:=hx;exact sS x hx rfl (by simp only [V.den,bB,D.l])
  ·simp at Y
 ·split at Y
  ·simp only [ag,ak] at Y;obtain⟨rfl,rfl,rfl⟩:=Y;simp only [VR] at hx;obtain⟨⟨x,hx⟩,_⟩:=hx;exact sS x hx rfl (by simp only [V.den,bB,D.l])
  ·simp at Y
 ·split at Y
  ·split at Y
   ·split at Y
    ·split at Y
     ·simp only [ag,ak] at Y;obtain⟨rfl,rfl,rfl⟩:=Y;simp only [VR] at hx;obtain⟨_,a,cap,rfl,_,hc⟩:=hx;simp only [eE] at hc;obtain⟨rfl,_⟩:=hc;exact sS (some a) rfl rfl (by simp only [V.den,bB,D.l])
     ·simp at Y
    ·simp at Y
   ·simp at Y
  ·simp at Y
 ·simp at Y
end
noncomputable def Hw (e:Nat) (own:Option Nat) (x:W) (h:Hp):Option (V×Nat×List (V×List W)×Hp):=match x with
 | .oS id n t=>match h.get id with
   |some o=>match o with
    | .vec e0 t0 ty ov=>match Nat.beq t t0 with
     |true=>match Nat.beq ty e with
      |true=>match eQ n (dO e0) with
       |true=>some (e0,t,ov,h.drop id)
       |false=>none
      |false=>none
     |false=>none
    |_=>none
   |none=>none
 | .eg=>match own with
   |some t=>some (.ej (.i 0),t,[],h)
   |none=>none
 | .emp=>match own with
   |some t=>some (.ej (.i 0),t,[],h)
   |none=>none
 | .wZ _ _=>match own with
   |some t=>some (.ej (.i 0),t,[],h)
   |none=>none
 | .slice _ _ n c=>match n with
   |0=>match c with
    | .exact k=>match k with
      |0=>match own with
       |some t=>some (.ej (.i 0),t,[],h)
       |none=>none
      |_=>none
    |_=>none
   |_=>none
 |_=>none
section
variable {P:Program} {E:En} {w:World}
structure Pr (ρ:Nat->Int) (r:Row) (e0 e1:V) (ov0 R?:List (V×List W)) (ds:List D) (news:List W):Prop where
 l:(dec (e1.den ρ)).l=(dec (e0.den ρ)).l++ds
 wf:dec (e1.den ρ)=dL (dec (e1.den ρ)).l
 rows: ∀d∈ds,pF r d
 vr: ∀(E':En) (h:Array Obj) (us0 us:List Value),E'.ρ=ρ->cB E' h (bF ρ r ov0 (dec (e0.den ρ)).l 0) us0->cB E' h news us->cB E' h (bF ρ r R? (dec (e1.den ρ)).l 0) (us0++us)
theorem KM [bI] {E':En} {H0:Hp} {w':World} {cells:List W} {e:TypeId} {e1:V} {t:Nat} {ov:List (V×List W)} (r:bP E' (H0.new (.cells cells e)) w') (ho:sA (rowOf t) ov) (tR:rX (rowOf t) (dec (e1.den E'.ρ))) (hl:(cN E'.ρ e1 t ov).length=cells.length)
 (hv: ∀us,cB E' w'.heap cells us->cB E' w'.heap (cN E'.ρ e1 t ov) us):bP E' (H0.new (.vec e1 t e ov)) w':=by
 have hg:(H0.new (.cells cells e)).get H0.fresh=some (.cells cells e):=by rw [Hp.fS,ah rfl]
 refine r.swap hg (OR.n9.2 ⟨⟨ho,tR⟩,OR.congr (r.live _ _ hg).2.1 hl hv⟩) (by rw [Hp.fS,ah rfl]) (fun j hj=>by rw [Hp.fS,af hj,Hp.fS,af hj]) ?_ ?_
 all_goals grind [Hp.new]
set_option maxHeartbeats 800000 in
theorem BP [bI] {t t2 ty:Nat} {H h0:Hp} (r:bP E H w) {ie:TI} {e m:Nat} {own:Option Nat} {news:List W} {x:W} {d2:TypeDesc} {u u2:Value} {us:Array Value} (uG:ma P e ie)
 (ht:P.underlying t=some (.slice e)) (xR:P.underlying t2=some d2) (jP: ∀k,d2≠.int k) (wP:ie.size≠0) (sO:ie.bytes≠0) (vP:ie.zero.length=ie.size) (Mz:ie.bytes<=400)
 (src:Src P E w ie.size m news u2 us) (hm:0<m) (hx:VR E w.heap x u) {e0 e1:V} {t':Nat} {ov0 R?:List (V×List W)} (Y:Hw e own x H=some (e0,t',ov0,h0)) (jD:(rowOf t').es=ie.size) {ds:List D} (g:Pr E.ρ (rowOf t') e0 e1 ov0 R? ds news) (vQ:ds.length=m)
 (r7:sA (rowOf t') R?) (aeZ:((dec (e0.den E.ρ)).l.length+m)*ie.bytes<=140737488355328) :
 ∃y w' E',(Builtin.append_ #[t,t2] ty #[u,u2]).run P w= .ok y w'/\eM E H w E' (h0.new (.vec e1 t' e R?)) w'/\bP E' (h0.new (.vec e1 t' e R?)) w'/\VR E' w'.heap (.oS h0.fresh (dO e1) t') y:=by
 have hbound: ∀k,k<=(dec (e0.den E.ρ)).l.length->(k+m)*ie.bytes<=140737488355328:=by intro k hk;exact bk (amv _ J) aeZ
 have TO:news.length=m*ie.size:=by have U:=src.Uz.length;have Z:=src.size;simp only [bh] at U;omega
 have sS: ∀(a:Option Addr),u= .slice a 0 0->h0=H->(dec (e0.den E.ρ)).l= []->
  ∃y w' E',(Builtin.append_ #[t,t2] ty #[u,u2]).run P w= .ok y w'/\eM E H w E' (h0.new (.vec e1 t' e R?)) w'/\bP E' (h0.new (.vec e1 t' e R?)) w'/\VR E' w'.heap (.oS h0.fresh (dO e1) t') y:=by
  intro a hu he nJ;subst hu he
  have oo:nh ie e 0 m news h0=some (.slice h0.fresh 0 (0+m) (.rest ie.size),h0.new (.cells news e)):=by unfold nh;rw [ah (hbound 0 J)]
  obtain⟨y,w',E',p1,p2,p3,p4⟩:=oN (t:=t) (t2:=t2) (ty:=ty) (cap:=0) r uG ht xR jP sO vP src J a (old:=[]) (olds:=#[]) (cs:=news) ad (by simp [cB]) ad ad
   (fun w2 _=>by
    cases a with
    |none=>simp [Builtin.firstCells]
    |some a=>simp only [Builtin.firstCells,ama]; rfl) oo
  have hρ:=p2.ρ;have Ax:(dec (e1.den E'.ρ)).l=ds:=by rw [hρ,g.l,nJ,aF]
  have tR:rX (rowOf t') (dec (e1.den E'.ρ)):=by refine⟨by rw [hρ]; exact g.wf,fun d hd=>?_,by rw [Ax]; intro q; rw [q] at vQ; simp at vQ; omega⟩;rw [Ax] at hd;exact g.rows d hd
  refine⟨y,w',E',p1,p2.right (vH rfl rfl fun _=>rfl),KM p3 r7 tR ?_ ?_,?_⟩
  ·unfold cN;rw [cD r7,Ax,vQ,jD,TO]
  ·intro gr GK;unfold cN;rw [hρ];have:=g.vr E' w'.heap [] gr hρ (by rw [nJ]; simp [bF,cB]) GK;simpa using this
  ·simp only [VR] at p4 ⊢;obtain⟨q1,a',oE,q2,q3,q4⟩:=p4;refine⟨q1,0+m,a',oE,?_,q2,q3,?_⟩
   ·rw [cC,Ax,vQ,ay]
   ·rw [jD]; exact q4
 unfold Hw at Y;split at Y
 ·rename_i id n t0;split at Y
  ·rename_i o hl;split at Y
   ·rename_i zr t00 rZ ov
    ·split at Y
     ·rename_i ht0;split at Y
      ·rename_i N1;split at Y
       ·rename_i hn;simp only [ag,ak] at Y;obtain⟨rfl,rfl,rfl,rfl⟩:=Y;have ht0:=aq ht0;have N1:=aq N1;have hn:=cO _ _ hn;subst ht0 N1 hn;obtain⟨r2,aiB,aeQ⟩:=r.n9 hl;simp only [VR] at hx;obtain⟨hid,k,a,cap,hk,rfl,hkc,gJ⟩:=hx;rw [cC] at hk;have hk:k=(dec (zr.den E.ρ)).l.length:=J
        have hx2:VR E w.heap (.slice id 0 k (.rest ie.size)) (.slice (some a) k cap):=by simp only [VR];exact⟨hid,a,cap,rfl,hkc,by rw [<- jD]; exact gJ⟩
        have Cr:(cN E.ρ zr t0 ov).length=k*ie.size:=by unfold cN;rw [cD aiB,jD,hk]
        have aiF:0<m*ie.size:=am3 hm J
        have ae6:pE ie rZ m news (.slice id 0 k (.rest ie.size)) (H.put id (.cells (cN E.ρ zr t0 ov) rZ)) =
         some (.slice H.fresh 0 (k+m) (.rest ie.size),((H.put id (.cells (cN E.ρ zr t0 ov) rZ)).drop id).new (.cells (cN E.ρ zr t0 ov++news) rZ)):=by
         unfold pE;simp only [if_true];rw [Hp.bR,ah rfl];simp only;rw [af (by rw [Cr,amd]; omega),ah ⟨J,trivial⟩];simp only [eD];unfold nh;rw [ah (hbound k J)];rfl
        obtain⟨y,w',E',p1,p2,p3,p4⟩:=vk (t:=t) (t2:=t2) (ty:=ty) r2 uG ht xR jP wP sO vP src hx2 ae6;have hρ:=p2.ρ;have Ax:(dec (e1.den E'.ρ)).l=(dec (zr.den E.ρ)).l++ds:=by rw [hρ,g.l]
        have tR:rX (rowOf t0) (dec (e1.den E'.ρ)):=by
         refine⟨by rw [hρ]; exact g.wf,fun d hd=>?_,by rw [Ax]; intro q; have:=congrArg List.length q; simp at this; rw [this.2] at vQ; simp at vQ; omega⟩;rw [Ax] at hd;rcases amb.1 hd with hd|hd
         ·exact aeQ.2.1 d hd
         ·exact g.rows d hd
        have DN: ∀j,(((H.put id (.cells (cN E.ρ zr t0 ov) rZ)).drop id).get j)=(H.drop id).get j:=by
         intro j;rw [Hp.j8,Hp.j8];split
         ·rfl
         ·rename_i fZ;rw [Hp.bR,af fZ]
        have al:Fu (((H.put id (.cells (cN E.ρ zr t0 ov) rZ)).drop id).new (.cells (cN E.ρ zr t0 ov++news) rZ)) ((H.drop id).new (.vec e1 t0 rZ R?)):=
         vH rfl rfl fun j=>by rw [DN]
        have p3':bP E' ((H.drop id).new (.cells (cN E.ρ zr t0 ov++news) rZ)) w':=by
         have hg:(((H.put id (.cells (cN E.ρ zr t0 ov) rZ)).drop id).new (.cells (cN E.ρ zr t0 ov++news) rZ)).get H.fresh=some (.cells (cN E.ρ zr t0 ov++news) rZ):=by rw [Hp.fS];exact ah rfl
         refine p3.swap hg (p3.live _ _ hg).2.1 (by rw [Hp.fS]; exact ah rfl) (fun j hj=>?_) ?_ ?_
         ·rw [Hp.fS,Hp.fS];show (if j=H.fresh then _ else _)=(if j=H.fresh then _ else _);rw [af hj,af hj,DN]
         ·unfold Hp.new;simp only [Hp.drop,Hp.put];split<;>rfl
         ·unfold Hp.new;simp only [Hp.drop,Hp.put];split<;>rfl
        refine⟨y,w',E',p1,(p2.left (Fu.put hl).symm).right al,KM p3' r7 tR ?_ ?_,?_⟩
        ·unfold cN;rw [cD r7,Ax,a8,a8,cD aiB,vQ,jD,TO,amd]
        ·intro gr GK;obtain⟨a1,a2,rfl,b1,b2⟩:=GK.split;unfold cN at b1 ⊢;rw [hρ];exact g.vr E' w'.heap a1 a2 hρ b1 b2
        ·simp only [VR] at p4 ⊢;obtain⟨q1,a',oE,q2,q3,q4⟩:=p4;refine⟨q1,k+m,a',oE,?_,q2,q3,?_⟩
         ·rw [cC,Ax,a8,vQ,hk]
         ·rw [jD]; exact q4
       ·simp at Y
      ·simp at Y
     ·simp at Y
   ·simp at Y
  ·simp at Y
 ·split at Y
  ·simp only [ag,ak] at Y;obtain⟨rfl,rfl,rfl,rfl⟩:=Y;simp only [VR] at hx;exact sS none hx rfl (by simp only [V.den,bB,D.l])
  ·simp at Y
 ·split at Y
  ·simp only [ag,ak] at Y;obtain⟨rfl,rfl,rfl,rfl⟩:=Y;simp only [VR] at hx;obtain⟨x,hx⟩:=hx;exact sS x hx rfl (by simp only [V.den,bB,D.l])
  ·simp at Y
 ·split at Y
  ·simp only [ag,ak] at Y;obtain⟨rfl,rfl,rfl,rfl⟩:=Y;simp only [VR] at hx;obtain⟨⟨x,hx⟩,_⟩:=hx;exact sS x hx rfl (by simp only [V.den,bB,D.l])
  ·simp at Y
 ·split at Y
  ·split at Y
   ·split at Y
    ·split at Y
     ·simp only [ag,ak] at Y;obtain⟨rfl,rfl,rfl,rfl⟩:=Y;simp only [VR] at hx;obtain⟨_,a,cap,rfl,_,hc⟩:=hx;simp only [eE] at hc;obtain⟨rfl,_⟩:=hc;exact sS (some a) rfl rfl (by simp only [V.den,bB,D.l])
     ·simp at Y
    ·simp at Y
   ·simp at Y
  ·simp at Y
 ·simp at Y
end
section
variable {ρ:Nat->Int} {r:Row}
theorem pz {p:V} {cs:List W}: ∀(ds:List D) (j:Nat),(∀i,j<=i->i<j+ds.length->p.den ρ≠(i:Int))->bF ρ r [(p,cs)] ds j=bF ρ r [] ds j
 |[],_,_=>rfl
 |d::ds,j,h=>by have h0:=h j (au _) (by simp only [aK]; omega);simp only [bF,dX,af h0];rw [pz ds (j+1) fun i U Z=>h i J (by simp only [aK]; omega)]
theorem aij {e0 e1 p:V} {cs news:List W} {ds:List D} (g:Grown ρ r e0 e1 ds news) (hp:p.den ρ<((dec (e0.den ρ)).l.length:Int)):Pr ρ r e0 e1 [(p,cs)] [(p,cs)] ds news:=by refine⟨g.l,g.wf,g.rows,fun E' h us0 us hρ h0 U=>?_⟩;rw [g.l,lK];refine h0.append ?_;rw [pz ds _ fun i U _=>by omega];exact g.vr E' h us _ hρ U
theorem agZ {e0 e1 p:V} {news zs:List W} {d:D} (g:Grown ρ r e0 e1 [d] zs) (hp:p.den ρ=((dec (e0.den ρ)).l.length:Int)):Pr ρ r e0 e1 [] [(p,news)] [d] news:=by
 refine⟨g.l,g.wf,g.rows,fun E' h us0 us hρ h0 U=>?_⟩;rw [g.l,lK,pz _ _ fun i _ Z=>by omega];refine h0.append ?_;simp only [bF,dX,ay]
 grind
theorem afR {e:Nat} {own:Option Nat} {x:W} {h h0:Hp} {e0:V} {t:Nat} (Y:pC e own x h=some (e0,t,h0)):Hw e own x h=some (e0,t,[],h0):=by
 unfold pC at Y;unfold Hw
 repeat' split at Y
 all_goals first
  |(simp at Y; done)
  |(simp only [ag,ak] at Y; obtain⟨rfl,rfl,rfl⟩:=Y; simp_all)
theorem aku {e:Nat} {own:Option Nat} {x:W} {h h0:Hp} {e0 p:V} {cs:List W} {t:Nat} (Y:Ad e x h=some (e0,t,p,cs,h0)):Hw e own x h=some (e0,t,[(p,cs)],h0):=by
 unfold Ad at Y;unfold Hw
 repeat' split at Y
 all_goals first
  |(simp at Y; done)
  |(simp only [ag,ak] at Y; obtain⟨rfl,rfl,rfl,rfl,rfl⟩:=Y; simp_all)
end
section
variable {P:Program} {E:En} {w:World}
theorem Src.MA {E1:En} {s m:Nat} {news Bl:List W} {u:Value} {us:Array Value} (src:Src P E w s m news u us) (h:cB E1 w.heap Bl us.toList):Src P E1 w s m Bl u us:=
 ⟨src.len,src.first,h,src.size,src.rB⟩
theorem room_le {bytes n m:Nat} (sO:bytes≠0) (Mz:bytes<=400) (hm:(m:Int)<qB bytes 1000000) (hn:n<1000000):(n+m)*bytes<=140737488355328:=by
 have hm':(m:Int)<((140737488355328 / bytes-1000000:Nat):Int):=hm;have U:m<140737488355328 / bytes-1000000:=J
 have Z:n+m<=140737488355328 / bytes:=J
 exact bk (amv _ Z) (anH _ _)
theorem WZ {bytes m:Nat} (hm:(m:Int)<qB bytes 0):(([]:List D).length+m)*bytes<=140737488355328:=by
 have hm':(m:Int)<((140737488355328 / bytes-0:Nat):Int):=hm;have Z:([]:List D).length+m<=140737488355328 / bytes:=by simp only [aX]; omega
 exact bk (amv _ Z) (anH _ _)
theorem C7 {bytes n m:Nat} (hn:(n:Int)<qB bytes (m+1)) {k:Nat} (hk:k=m+1):(n+k)*bytes<=140737488355328:=by
 have hn':(n:Int)<((140737488355328 / bytes-(m+1):Nat):Int):=hn;have Z:n+k<=140737488355328 / bytes:=J
 exact bk (amv _ Z) (anH _ _)
theorem pA {ρ:Nat->Int} {r:Row} {m:Nat} {e e1:V} {news:List W} (h:ke r e m news=some e1) (hw:dec (e.den ρ)=dL (dec (e.den ρ)).l): ∃ds,ds.length=m/\Grown ρ r e e1 ds news:=by obtain⟨ds,U,Z,h3,h4,h5⟩:=qp (ρ:=ρ) m h;exact⟨ds,U,Z,h3 hw,h4,h5⟩
theorem JE [bI] {H h0:Hp} (r:bP E H w) {e:Nat} {own:Option Nat} {x:W} {e0:V} {t:Nat} (h:pC e own x H=some (e0,t,h0)):dec (e0.den E.ρ)=dL (dec (e0.den E.ρ)).l:=by
 have hz:dec ((V.ej (.i 0)).den E.ρ)=dL (dec ((V.ej (.i 0)).den E.ρ)).l:=by simp only [V.den,bB]; rfl
 unfold pC at h;split at h
 ·split at h
  ·rename_i o hl;split at h
   ·split at h
    ·split at h
     ·split at h
      ·split at h
       ·simp only [ag,ak] at h;obtain⟨rfl,_⟩:=h;exact (r.n9 hl).2.2.1
       grind
      grind
     grind
    grind
   grind
  grind
 all_goals grind
theorem BQ [bI] {t t2 ty:Nat} {ie:TI} {e:Nat} {d2:TypeDesc} {u u2:Value} {us:Array Value} {news:List W} (uG:ma P e ie) (ht:P.underlying t=some (.slice e)) (xR:P.underlying t2=some d2) (jP: ∀k,d2≠.int k)
 (src:Src P E w ie.size 0 news u2 us) (ho: ∃a n cap,u= .slice a n cap/\n<=cap):(Builtin.append_ #[t,t2] ty #[u,u2]).run P w= .ok u w:=by
 obtain⟨inf,d,z,U,Z,h3,h4,h5,h6,h7,h8⟩:=uG.all;obtain⟨a,n,cap,rfl,hn⟩:=ho;have GK:us.toList= []:=ame (by rw [bh,src.size,ama])
 have:=kg (t:=t) (t2:=t2) (ty:=ty) (n:=n) (cap:=cap) (a:=a) (w':=w) ht xR jP U h5 src J (by
  cases a with
  |none=>rfl
  |some a=>rw [GK]; rfl)
 grind
theorem Tt {x:W} {u:Value} {H h0:Hp} {e t:Nat} {own:Option Nat} {e0:V} (hx:VR E w.heap x u) (Y:pC e own x H=some (e0,t,h0)): ∃a n cap,u= .slice a n cap/\n<=cap:=by
 unfold pC at Y;split at Y
 ·simp only [VR] at hx
  grind
 ·simp only [VR] at hx
  grind
 ·simp only [VR] at hx
  grind
 ·simp only [VR] at hx
  grind
 ·simp only [VR] at hx
  grind
 grind
theorem K0 {x:W} {u:Value} {own:Option Nat} (hx:VR E w.heap x u) (Y:XM own x=true): ∃a n cap,u= .slice a n cap/\n<=cap:=by
 unfold XM at Y;split at Y
 ·simp only [VR] at hx
  grind
 ·simp only [VR] at hx
  grind
 ·simp only [VR] at hx
  grind
 ·simp only [VR] at hx
  grind
 ·simp only [VR] at hx
  grind
 ·simp only [VR] at hx
  grind
 grind
theorem BF [bI] {s s':St} (r:bP E s.h w) (hp:bW E.ρ s.pc) {t t2 ty e m':Nat} {own:Option Nat} {ie:TI} {news:List W} {x v:W} {d2:TypeDesc} {u u2:Value} {us:Array Value} (uG:ma P e ie) (hu:P.underlying t=some (.slice e)) (jP:P.underlying t2=some d2) (uM: ∀k,d2≠.int k)
 (wP:ie.size≠0) (sO:ie.bytes≠0) (vP:ie.zero.length=ie.size) (Mz:ie.bytes<=400) (src:Src P E w ie.size (m'+1) news u2 us) (hx:VR E w.heap x u) (h:(zo e own x ie m' news s).leaf E.ρ=some (v,s')) :
 s'.bD=s.bD/\bW E.ρ s'.pc/\∃z w' E',(Builtin.append_ #[t,t2] ty #[u,u2]).run P w= .ok z w'/\eM E s.h w E' s'.h w'/\bP E' s'.h w'/\VR E' w'.heap v z:=by
 unfold zo at h;obtain⟨Bl,U,pcF,E1,X!,f,GJ,h⟩:=pq rfl r hp h;split at h
 ·rename_i e0 t' h0 Y;split at h
  ·rename_i hc;obtain⟨jD,hm⟩:=hc;have hρ:=f.ρ;obtain⟨fA,fj,Z⟩:=cH (s:={ s with h:=U,pc:=pcF }) X! h;split at Z
   ·rename_i t3;rw [dR,decide_eq_true_eq,cC] at t3;simp only [V.den] at t3;split at Z
    ·rename_i e1 hcr;have:=bC Z;simp only [ak] at this;obtain⟨rfl,rfl⟩:=this;obtain⟨ds,vQ,g⟩:=pA (ρ:=E1.ρ) hcr (JE f.rel Y);obtain⟨z,w',E',p1,p2,p3,p4⟩:=xP (t:=t) (t2:=t2) (ty:=ty) f.rel uG hu jP uM wP sO vP Mz (src.MA (GJ _ src.Uz)) J (VR.bX (f.ei.keeps r) _ _ hx) Y jD g vQ (C7 (by rw [hρ]; exact t3) J);exact⟨rfl,fj,z,w',E',p1,f.ei.trans p2,p3,p4⟩
    grind [T.leaf]
   grind [T.leaf]
  grind [T.leaf]
 grind [T.leaf]
theorem ah6 [bI] {H h0:Hp} (r:bP E H w) {e:Nat} {x:W} {e0 p:V} {cs:List W} {t:Nat} (h:Ad e x H=some (e0,t,p,cs,h0)):dec (e0.den E.ρ)=dL (dec (e0.den E.ρ)).l/\sA (rowOf t) [(p,cs)]:=by
 unfold Ad at h;split at h
 ·split at h
  ·rename_i hl;split at h
   ·split at h
    ·grind
    ·split at h
     ·split at h
      ·rename_i ht;split at h
       ·split at h
        ·simp only [ag,ak] at h;obtain⟨rfl,rfl,rfl,rfl,_⟩:=h;have ht:=aq ht;subst ht;exact⟨(r.n9 hl).2.2.1,(r.n9 hl).2.1⟩
        grind
       grind
      grind
     grind
   grind
  grind
 grind
theorem Jk [bI] {s s':St} (r:bP E s.h w) (hp:bW E.ρ s.pc) {t t2 ty e m':Nat} {own:Option Nat} {ie:TI} {news:List W} {x v:W} {d2:TypeDesc} {u u2:Value} {us:Array Value} (uG:ma P e ie) (hu:P.underlying t=some (.slice e)) (jP:P.underlying t2=some d2) (uM: ∀k,d2≠.int k)
 (wP:ie.size≠0) (sO:ie.bytes≠0) (vP:ie.zero.length=ie.size) (Mz:ie.bytes<=400) (src:Src P E w ie.size (m'+1) news u2 us) (hx:VR E w.heap x u) (h:(AL e x ie m' news s).leaf E.ρ=some (v,s')) :
 s'.bD=s.bD/\bW E.ρ s'.pc/\∃z w' E',(Builtin.append_ #[t,t2] ty #[u,u2]).run P w= .ok z w'/\eM E s.h w E' s'.h w'/\bP E' s'.h w'/\VR E' w'.heap v z:=by
 unfold AL at h;obtain⟨Bl,U,pcF,E1,X!,f,GJ,h⟩:=pq rfl r hp h;split at h
 ·rename_i e0 t' p cs h0 Y;split at h
  ·rename_i hc;obtain⟨jD,hm⟩:=hc;have hρ:=f.ρ;obtain⟨fA,fj,Z⟩:=cH (s:={ s with h:=U,pc:=pcF }) X! h;split at Z
   ·rename_i t3;rw [dR,decide_eq_true_eq,cC] at t3;simp only [V.den] at t3;obtain⟨jw,jl,h3⟩:=cH (s:={ s with h:=U,pc:=fA }) fj Z;split at h3
    ·rename_i t4;rw [dR,decide_eq_true_eq,cC] at t4;split at h3
     ·rename_i e1 hcr;have:=bC h3;simp only [ak] at this;obtain⟨rfl,rfl⟩:=this;obtain⟨hw1,hw2⟩:=ah6 f.rel Y;obtain⟨ds,vQ,g⟩:=pA (ρ:=E1.ρ) hcr hw1;obtain⟨z,w',E',p1,p2,p3,p4⟩:=BP (t:=t) (t2:=t2) (ty:=ty) f.rel uG hu jP uM wP sO vP Mz (src.MA (GJ _ src.Uz)) J (VR.bX (f.ei.keeps r) _ _ hx) (aku (own:=own) Y) jD (aij g (by rw [hρ]; exact t4)) vQ hw2 (C7 (by rw [hρ]; exact t3) J);exact⟨rfl,jl,z,w',E',p1,f.ei.trans p2,p3,p4⟩
     grind [T.leaf]
    grind [T.leaf]
   grind [T.leaf]
  grind [T.leaf]
 grind [T.leaf]
theorem Jj [bI] {s s':St} (r:bP E s.h w) (hp:bW E.ρ s.pc) {t t2 ty e m':Nat} {own:Option Nat} {ie:TI} {news:List W} {x v:W} {d2:TypeDesc} {u u2:Value} {us:Array Value} (uG:ma P e ie) (hu:P.underlying t=some (.slice e)) (jP:P.underlying t2=some d2) (uM: ∀k,d2≠.int k)
 (wP:ie.size≠0) (sO:ie.bytes≠0) (vP:ie.zero.length=ie.size) (Mz:ie.bytes<=400) (src:Src P E w ie.size (m'+1) news u2 us) (hx:VR E w.heap x u) (h:(AK e own x ie m' news s).leaf E.ρ=some (v,s')) :
 s'.bD=s.bD/\bW E.ρ s'.pc/\∃z w' E',(Builtin.append_ #[t,t2] ty #[u,u2]).run P w= .ok z w'/\eM E s.h w E' s'.h w'/\bP E' s'.h w'/\VR E' w'.heap v z:=by
 unfold AK at h;split at h
 ·rename_i e0 t' h0 Y;split at h
  ·rename_i hc;obtain⟨jD,rfl⟩:=hc;obtain⟨fA,fj,Z⟩:=cH hp h;split at Z
   ·rename_i t3;obtain⟨jw,jl,h3⟩:=cH (s:={ s with pc:=fA }) fj Z;split at h3
    ·rename_i t4;rw [dR,decide_eq_true_eq,cC] at t4;simp only [V.den] at t4;split at h3
     ·rename_i e1 hcr;have:=bC h3;simp only [ak] at this;obtain⟨rfl,rfl⟩:=this;obtain⟨ds,vQ,g⟩:=pA (ρ:=E.ρ) hcr (JE r Y)
      obtain⟨d,rfl⟩ : ∃d,ds= [d]:=by
       cases ds with
       |nil=>simp at vQ
       |cons d l=>cases l with
        |nil=>exact⟨d,rfl⟩
        |cons a b=>simp at vQ
      have TO:news.length=(rowOf t').es:=by
       have U:=src.Uz.length;have Z:=src.size
       grind
      obtain⟨z,w',E',p1,p2,p3,p4⟩:=BP (t:=t) (t2:=t2) (ty:=ty) r uG hu jP uM wP sO vP Mz src J hx (afR Y) jD (agZ (p:=.du 0) g (by rw [gw,cC] at t3; simp only [beq_iff_eq] at t3; exact t3.symm)) vQ (fun q hq=>by simp only [anI] at hq; subst hq; exact TO) (C7 t4 J)
      grind
     grind [T.leaf]
    grind [T.leaf]
   ·obtain⟨q1,q2,q3⟩:=BF (s:={ s with pc:=fA }) r fj (ty:=ty) uG hu jP uM wP sO vP Mz src hx Z
    grind
  grind [T.leaf]
 grind [T.leaf]
set_option maxHeartbeats 800000 in
theorem Ji [bI] {tt:TT} (cJ:ep P tt) {s s':St} (r:bP E s.h w) (hp:bW E.ρ s.pc) {t t2 ty:Nat} {x y v:W} {u u2:Value} (hx:VR E w.heap x u) (hy:VR E w.heap y u2) (t!:abU y=false->∃a n cap,u= .slice a n cap/\n<=cap) (h:(AJ tt t t2 x y s).leaf E.ρ=some (v,s')) :
 s'.bD=s.bD/\bW E.ρ s'.pc/\∃z w' E',(Builtin.append_ #[t,t2] ty #[u,u2]).run P w= .ok z w'/\eM E s.h w E' s'.h w'/\bP E' s'.h w'/\VR E' w'.heap v z:=by
 unfold AJ at h;split at h
 ·rename_i ti fL;split at h
  ·rename_i e hk;split at h
   ·rename_i ie kA;split at h
    ·simp [T.leaf] at h
    ·rename_i PC XY;obtain⟨d2,jP,Cp⟩:=rG (cJ t2 PC XY);split at h
     ·simp [T.leaf] at h
     ·rename_i k2 fZ
      have uM: ∀k,d2≠.int k:=by intro k hd;subst hd;cases sK:PC.kind<;>rw [sK] at Cp<;>simp only [HD] at Cp;exact fZ _ sK
      split at h
      ·simp [T.leaf] at h
      ·rename_i iV;simp only [not_or,Classical.not_not] at iV;obtain⟨wP,sO,vP,Mz⟩:=iV;have uG:=cJ e ie kA;have hu:=eW (cJ t ti fL) hk;split at h
       ·
        rename_i e2 ty2;split at h
        ·rename_i e0 t' h0 Y;split at h
         ·rename_i hc;obtain⟨jD,lz⟩:=hc;obtain⟨fA,fj,U⟩:=cH hp h;rw [gZ,cC] at U;simp only [VR] at hy;obtain⟨xa,alq,Rh,_⟩:=hy.slice;split at U
          ·rename_i hz;simp only [V.den,beq_iff_eq] at hz;have:=bC U;simp only [ak] at this;obtain⟨rfl,rfl⟩:=this;have Fg:(dec (e2.den E.ρ)).l.length=0:=J
           rw [Fg] at Rh;subst Rh
           have src:Src P E w ie.size 0 [] (.slice xa 0 alq) #[]:=⟨fun _=>rfl,fun w2 _=>by
            cases xa with
            |none=>simp [Builtin.firstCells]
            |some a=>simp only [Builtin.firstCells,ama]; rfl,by simp [cB],ad,ad⟩
           exact⟨rfl,fj,u,w,E,BQ uG hu jP uM src (Tt hx Y),eM.refl _ _ _,r,hx⟩
          ·rename_i hz;simp only [V.den,beq_eq_false_iff_ne,ne_eq] at hz;obtain⟨jw,jl,Z⟩:=cH (s:={ s with pc:=fA }) fj U;split at Z
           ·rename_i JN;obtain⟨UD,IG,h3⟩:=cH (s:={ s with pc:=jw }) jl Z;split at h3
            ·rename_i t3;rw [dR,decide_eq_true_eq,cC] at JN t3;simp only [V.den] at JN t3;have aiE:(dec (e2.den E.ρ)).l≠[]:=by intro q; rw [q] at hz; simp at hz
             obtain⟨us,src⟩:=aaH (P:=P) (w:=w) hy aiE;rw [lz] at src;rw [jD] at src
             have lA:0<(dec (e2.den E.ρ)).l.length:=by
              rcases amL (dec (e2.den E.ρ)).l.length with q|q
              ·omega
              ·exact q
             have aeP:dec (e2.den E.ρ)=dL (dec (e2.den E.ρ)).l/\∀d∈(dec (e2.den E.ρ)).l,pF (rowOf ty2) d:=by
              have key: ∀{d:D} {v:Value},Rd E.ro w.heap (.sl ty2) d v->d.l≠[]->d=dL d.l/\∀x∈d.l,pF (rowOf ty2) x:=by
               intro d v hr fZ
               have b!: ∀{c:CK} {d:D} {v:Value},Rd E.ro w.heap c d v->oa c d:=by
                intro c d v hr
                cases hr with
                |int k n=>rfl
                |bool b=>cases b<;>simp [oa]
                |str s=>trivial
                |nil t=>trivial
                |vG t a cap=>trivial
                |one t c b o cap ds f hr hc Y U Z=>trivial
                |many t cs b o cap rows f hr hc Y hl U Z=>trivial
               generalize hc:CK.sl ty2=c at hr
               cases hr with
               |int k n=>simp at hc
               |bool b=>simp at hc
               |str s=>simp at hc
               |nil t=>exact absurd rfl fZ
               |vG t a cap=>exact absurd rfl fZ
               |one t c b o cap ds f hr fR Y U Z=> simp only [CK.sl.injEq] at hc;subst hc;refine⟨by rw [bM],fun x hx=>?_⟩;rw [bM] at hx;obtain⟨i,hi⟩:=amX.1 hx;rw [hr];exact b! (Z i x hi)
               |many t cs b o cap rows f hr fR Y hl U Z=> simp only [CK.sl.injEq] at hc;subst hc;refine⟨by rw [bM],fun x hx=>?_⟩;rw [bM,aT] at hx;obtain⟨row,hrm,rfl⟩:=hx;obtain⟨i,hi⟩:=amX.1 hrm;rw [hr];refine⟨by rw [bM],by rw [bM]; exact hl row hrm,fun j c y hj hy=>?_⟩;rw [bM] at hy;exact b! (Z i row j y c hi hy hj)
              exact key hy aiE
             rw [lz] at aeP
             have grown: ∀e1:V,(dec (e1.den E.ρ)).l=(dec (e0.den E.ρ)).l++(dec (e2.den E.ρ)).l->dec (e1.den E.ρ)=dL (dec (e1.den E.ρ)).l->Grown E.ρ (rowOf t') e0 e1 (dec (e2.den E.ρ)).l (bF E.ρ (rowOf t') [] (dec (e2.den E.ρ)).l 0):=by
              intro e1 q1 q2;refine⟨q1,q2,aeP.2,fun E' h us j hρ hv=>?_⟩
              have:bF E.ρ (rowOf t') [] (dec (e2.den E.ρ)).l j=bF E.ρ (rowOf t') [] (dec (e2.den E.ρ)).l 0:=by
               generalize (dec (e2.den E.ρ)).l=L;clear hv q1 q2
               have gen: ∀(L:List D) (a b:Nat),bF E.ρ (rowOf t') [] L a=bF E.ρ (rowOf t') [] L b:=by
                intro L
                induction L with
                |nil=>intro a b; rfl
                |cons d L ih=>intro a b; simp only [bF,dX]; rw [ih (a+1) (b+1)]
               exact gen L j 0
              rw [this];exact hv
             have hbw:=JE r Y;split at h3
             ·rename_i nJ
              have aiS:(dec (e0.den E.ρ)).l= []:=by
               unfold NV at nJ;split at nJ
               ·split at nJ
                ·simp only [V.den,bB,D.l]
                ·simp at nJ
               ·simp at nJ
              have:=bC h3;simp only [ak] at this;obtain⟨rfl,rfl⟩:=this;obtain⟨z,w',E',p1,p2,p3,p4⟩:=xP (t:=t) (t2:=t2) (ty:=ty) r uG hu jP uM wP sO vP Mz src lA hx Y jD (grown e2 (by rw [aiS,aF]) aeP.1) rfl (by rw [aiS]; refine WZ (bytes:=ie.bytes) ?_; have q:=JN; unfold W0 at q; rw [nJ] at q; exact q);exact⟨rfl,IG,z,w',E',p1,p2,p3,p4⟩
             ·rename_i nJ;have:=bC h3;simp only [ak] at this;obtain⟨rfl,rfl⟩:=this;obtain⟨z,w',E',p1,p2,p3,p4⟩:=xP (t:=t) (t2:=t2) (ty:=ty) r uG hu jP uM wP sO vP Mz src lA hx Y jD (grown (.op .cat e0 e2) (by simp only [V.den,e9.den,bB,bM]) (by simp only [V.den,e9.den,bB,bM])) rfl (room_le sO Mz (by have q:=JN; unfold W0 at q; rw [nJ] at q; exact q) J);exact⟨rfl,IG,z,w',E',p1,p2,p3,p4⟩
            ·simp [T.leaf] at h3
           ·simp [T.leaf] at Z
         ·simp [T.leaf] at h
        ·simp [T.leaf] at h
       ·
        split at h
        ·rename_i m news N2;obtain⟨us,src⟩:=pP (P:=P) r hy N2;split at h
         ·have:=bC h;simp only [ak] at this;obtain⟨rfl,rfl⟩:=this
          exact⟨rfl,hp,u,w,E,BQ uG hu jP uM src (t! (by
           cases y<;>first |rfl|(rename_i Bv _ _ _; exact absurd rfl (Bv _ _))|(rename_i Bv; exact absurd rfl (Bv _ _)))),eM.refl _ _ _,r,hx⟩
         ·rename_i m';split at h
          ·exact Jk (own:=ti.own) r hp uG hu jP uM wP sO vP Mz src hx h
          ·split at h
           ·exact Jj r hp uG hu jP uM wP sO vP Mz src hx h
           ·exact BF r hp uG hu jP uM wP sO vP Mz src hx h
        ·simp [T.leaf] at h
   ·simp [T.leaf] at h
  ·simp [T.leaf] at h
 ·simp [T.leaf] at h
end
section
variable {P:Program} {E:En} {w:World}
theorem Pw {h:Array Obj} {id t:Nat} {n:V} {u:Value} (hv:VR E h (.oS id n t) u):VR E h (.tK id (.lit 0) n t) u:=by simp only [VR] at hv ⊢;obtain⟨U,k,a,cap,Z,h3,h4,h5⟩:=hv;exact⟨U,0,k,a,cap,rfl,Z,h3,h4,by rw [ama]; exact h5⟩
theorem Ol {tt:TT} (cJ:ep P tt) {s s':St} (hp:bW E.ρ s.pc) {ty t id:Nat} {lo n:V} {ix v:W} {u ui:Value} (hx:VR E w.heap (.tK id lo n t) u) (yQ:VR E w.heap ix ui) (h:(IZ tt s ty id t lo n ix).leaf E.ρ=some (v,s')) :
 s'.bD=s.bD/\s'.h=s.h/\bW E.ρ s'.pc/\∃r,(Instr.indexAt ty u ui).run P w= .ok r w/\VR E w.heap v r:=by
 unfold IZ at h;split at h
 ·rename_i kd i;split at h
  ·rename_i z hz;split at h
   ·rename_i jD;obtain⟨dZ,fh,U,Z,h3⟩:=nr hp h;have:=bC h3;simp only [ak] at this;obtain⟨rfl,rfl⟩:=this;refine⟨rfl,rfl,fh,?_⟩;simp only [VR] at hx yQ;subst yQ;obtain⟨hid,l,m,a,cap,hl,hn,rfl,gJ,hc⟩:=hx;obtain⟨el,ie,hu,kA,rfl⟩:=nk cJ hz;obtain⟨k,hk⟩ : ∃k:Nat,i.den E.ρ=(k:Int):=⟨(i.den E.ρ).toNat,J⟩;have fe:k<m:=J
    have ha:a=⟨(E.θ id).1,(E.θ id).2+l*ie.size,none⟩:=by
     simp only [eE] at hc
     grind
    subst ha;refine⟨.pointer (some ⟨(E.θ id).1,(E.θ id).2+l*ie.size+k*ie.size,none⟩),?_,?_⟩
    ·rw [hk];simp [Instr.indexAt,asIntOf,run_underlying hu,ek (cJ el ie kA),fe,eT]
    ·simp only [VR];exact⟨hid,l+k,by rw [oR,hl,hk]; rfl,by rw [bd,amd,al8]⟩
   ·simp [T.leaf] at h
  ·simp [T.leaf] at h
 ·simp [T.leaf] at h
theorem XB {lo:Option W} {xQ:Option Value} {l:V} {n:Nat} (h:loE lo=some l) (nV:fW E w.heap lo xQ) (hn:l.den E.ρ=(n:Int)) :
 ∃UE,fW E w.heap UE xQ/\∀y,n<=y->nA UE 0 y=some n:=by
 unfold loE at h;split at h
 ·simp only [ag] at h;subst h;simp only [V.den] at hn
  grind [nA]
 ·split at h
  ·rename_i v k q;simp only [ag] at h;subst h;obtain⟨y,rfl,hy⟩:=nV;refine⟨some (.int k (.lit (Int.ofNat n))),⟨y,rfl,?_⟩,fun y hy=>by simp [nA,jX,hy]⟩;simp only [VR,V.den] at hy ⊢
   grind
  grind
theorem Co {k:IntKind} {q:V} {n:Nat} {o:Option Value} (hq:q.den E.ρ=(n:Int)) (ho:fW E w.heap (some (.int k q)) o):fW E w.heap (some (.int k (.lit (Int.ofNat n)))) o:=by
 obtain⟨y,rfl,hy⟩:=ho;refine⟨y,rfl,?_⟩;simp only [VR,V.den] at hy ⊢
 grind
theorem CD {k:IntKind} {n d y:Nat} (hn:n<=y):nA (some (.int k (.lit (Int.ofNat n)))) d y=some n:=by simp [nA,jX,hn]
theorem D6 [bI] {tt:TT} (cJ:ep P tt) {s s':St} (r:bP E s.h w) (hp:bW E.ρ s.pc) {ty id t:Nat} {s_ n0:V} {lo hi mx:Option W} {xQ hi' mx':Option Value} {v:W} {u:Value} (hx:VR E w.heap (.tK id s_ n0 t) u)
 (nV:fW E w.heap lo xQ) (xT:fW E w.heap hi hi') (xB:fW E w.heap mx mx') (h:(Cw tt s ty id t s_ n0 lo hi mx).leaf E.ρ=some (v,s')) :
 s'.bD=s.bD/\s'.h=s.h/\bW E.ρ s'.pc/\∃r,(Instr.sliceAt ty u xQ hi' mx').run P w= .ok r w/\VR E w.heap v r:=by
 unfold Cw at h;split at h
 ·simp [T.leaf] at h
 ·rename_i z hz;split at h
  ·rename_i iV;obtain⟨jD,hz0⟩:=iV;obtain⟨el,ie,hu,kA,rfl⟩:=nk cJ hz;have gX:=ek (cJ el ie kA);simp only [VR] at hx;obtain⟨hid,l0,m0,a,cap,g1,g2,rfl,gJ,hc⟩:=hx
   have fin: ∀(l k:Nat) (e1 e2:V),(Instr.sliceBounds true m0 cap xQ hi' none).run P w= .ok (l,k,cap) w->l<=k->k<=cap->e1.den E.ρ=(l:Int)->e2.den E.ρ=(k:Int)->
    ∃r,(Instr.sliceAt ty (.slice (some a) m0 cap) xQ hi' none).run P w= .ok r w/\VR E w.heap (.tK id (rW s_ e1) (CT e2 e1) t) r:=by
    intro l k e1 e2 Y hlk hk Yh he2;refine⟨.slice (some (if cap=l then a else a.add (l*ie.size))) (k-l) (cap-l),?_,?_⟩
    ·simp [Instr.sliceAt,run_underlying hu,Instr.slice,Y,gX]<;>split<;>rfl
    ·simp only [VR];refine⟨hid,l0+l,k-l,_,_,by rw [oR,g1,Yh]; rfl,by rw [SX,Yh,he2]; omega,rfl,J,?_⟩;rw [amd];have q:=pB (l:=l) (h:=k) (m:=cap) (es:=(rowOf t).es) hc gJ hlk hk (au _) (.inr (.inr ⟨rfl,rfl,rfl⟩)) (rowOf t).es (fun _=>rfl);rw [jD];exact q
   split at h
   ·simp [T.leaf] at h
   ·rename_i ql hql;obtain⟨fA,fj,U⟩:=cH hp h;split at U
    ·simp [T.leaf] at U
    ·rename_i t1;rw [dR,decide_eq_false_iff_not] at t1;simp only [V.den,amK] at t1;obtain⟨l,hl⟩ : ∃l:Nat,ql.den E.ρ=(l:Int):=⟨(ql.den E.ρ).toNat,J⟩;obtain⟨UE,X9,ng⟩:=XB hql nV hl;split at U
     ·
      simp only [fW] at xT;subst xT;split at U
      ·simp [T.leaf] at U
      ·simp only [fW] at xB;subst xB;obtain⟨jw,jl,Z⟩:=cH (s:={ s with pc:=fA }) fj U;split at Z
       ·simp [T.leaf] at Z
       ·rename_i t2;have:=bC Z;simp only [ak] at this;obtain⟨rfl,rfl⟩:=this;rw [dR,decide_eq_false_iff_not] at t2;have hlm:l<=m0:=J
        obtain⟨e1,e2⟩:=fJ (P:=P) (w:=w) (isSlice:=true) (len:=m0) (cap:=cap) (m0:=cap) (d:=0) (m:=cap) (h0:=cap) (h:=m0) (l:=l) X9 (hi:=none) (hi':=none) (by simp [fW]) (mx:=none) (mx':=none) (by simp [fW]) ad (.inl ⟨rfl,rfl,au _⟩) (by simp [nA,gJ]) ⟨fun _=>au _,ad⟩ (ng _ hlm);exact⟨rfl,rfl,jl,fin l m0 _ _ e1 hlm gJ hl g2⟩
     ·rename_i hv;split at U
      ·rename_i kh qh;obtain⟨jw,jl,Z⟩:=cH (s:={ s with pc:=fA }) fj U;split at Z
       ·simp [T.leaf] at Z
       ·rename_i t2;rw [dR,decide_eq_false_iff_not] at t2;obtain⟨k,hk⟩ : ∃k:Nat,qh.den E.ρ=(k:Int):=⟨(qh.den E.ρ).toNat,J⟩;have hlk:l<=k:=J
        split at Z
        ·rename_i mv;split at Z
         ·rename_i km qm;obtain⟨UD,IG,h3⟩:=cH (s:={ s with pc:=jw }) jl Z;split at h3
          ·simp [T.leaf] at h3
          ·rename_i t3;obtain⟨pc4,hp4,h4⟩:=cH (s:={ s with pc:=UD }) IG h3;split at h4
           ·simp [T.leaf] at h4
           ·rename_i t4;have:=bC h4;simp only [ak] at this;obtain⟨rfl,rfl⟩:=this;rw [dR,decide_eq_false_iff_not] at t3 t4;obtain⟨m,hm⟩ : ∃m:Nat,qm.den E.ρ=(m:Int):=⟨(qm.den E.ρ).toNat,J⟩;obtain⟨e1,e2⟩:=fJ (P:=P) (w:=w) (isSlice:=true) (len:=m0) (cap:=cap) (m0:=cap) (d:=0) (m:=m) (h0:=m) (h:=k) (l:=l) X9 (Co hk xT) (Co hm xB) ad (.inr ⟨_,rfl,CD J,au _⟩) (CD J) ⟨ad,fun _=>rfl⟩ (ng _ hlk);refine⟨rfl,rfl,hp4,.slice (some (if m=l then a else a.add (l*ie.size))) (k-l) (m-l),?_,by simp only [VR]⟩;simp [Instr.sliceAt,run_underlying hu,Instr.slice,e1,gX]<;>split<;>rfl
         ·simp [T.leaf] at Z
        ·simp only [fW] at xB;subst xB
         have go:k<=cap->∃r,(Instr.sliceAt ty (.slice (some a) m0 cap) xQ hi' none).run P w= .ok r w/\VR E w.heap (.tK id (rW s_ ql) (CT qh ql) t) r:=by intro hkc;obtain⟨e1,e2⟩:=fJ (P:=P) (w:=w) (isSlice:=true) (len:=m0) (cap:=cap) (m0:=cap) (d:=0) (m:=cap) (h0:=cap) (h:=k) (l:=l) X9 (Co hk xT) (mx:=none) (mx':=none) (by simp [fW]) ad (.inl ⟨rfl,rfl,au _⟩) (CD hkc) ⟨fun _=>au _,ad⟩ (ng _ hlk);exact fin l k _ _ e1 hlk hkc hl hk
         obtain⟨UD,IG,h3⟩:=cH (s:={ s with pc:=jw }) jl Z;split at h3
         ·rename_i t3;have:=bC h3;simp only [ak] at this;obtain⟨rfl,rfl⟩:=this;rw [dR,decide_eq_false_iff_not] at t3;exact⟨rfl,rfl,IG,go J⟩
         ·split at h3
          ·simp [T.leaf] at h3
          ·rename_i hz1;split at h3
           ·simp [T.leaf] at h3
           ·rename_i e zO W!;obtain⟨pc4,hp4,h4⟩:=cH (s:={ s with pc:=UD }) IG h3;split at h4
            ·simp [T.leaf] at h4
            ·rename_i t4;have:=bC h4;simp only [ak] at this;obtain⟨rfl,rfl⟩:=this;rw [dR,decide_eq_false_iff_not,cC] at t4;refine⟨rfl,rfl,hp4,go ?_⟩;have hlv:=mT W!;obtain⟨ho,q0⟩:=OR.n9.1 (r.live id _ hlv).2.1;have akS:=DC hz1;subst akS;simp only [V.den] at g1;have hl0:l0=0:=J
             subst hl0;simp only [OR] at q0;obtain⟨arr,lo1,hi1,us,q1,q2,q3,q4,q5,q6,q7⟩:=q0;unfold cN at q4;rw [cD ho.1] at q4;have fZ:0<(dec (e.den E.ρ)).l.length:=amq.2 ho.2.2.2;have lA:0<(rowOf t).es:=J
             simp only [eE] at hc
             have hκ:(dec (e.den E.ρ)).l.length<=cap:=by
              rcases hc with hc|hc
              ·have:(dec (e.den E.ρ)).l.length*(rowOf t).es<=cap*(rowOf t).es:=J
               exact anC this lA
              ·have:=am3 fZ lA;omega
             omega
      ·simp [T.leaf] at U
  ·simp [T.leaf] at h
theorem OD [bI] {tt:TT} (cJ:ep P tt) {s s':St} (hp:bW E.ρ s.pc) {ty t:Nat} {z:V} {lo hi mx:Option W} {xQ hi' mx':Option Value} {v:W} {u:Value} (hx:VR E w.heap (.wZ z t) u)
 (nV:fW E w.heap lo xQ) (xT:fW E w.heap hi hi') (xB:fW E w.heap mx mx') (h:(Ja tt s ty z t lo hi mx).leaf E.ρ=some (v,s')) :
 s'.bD=s.bD/\s'.h=s.h/\bW E.ρ s'.pc/\∃r,(Instr.sliceAt ty u xQ hi' mx').run P w= .ok r w/\VR E w.heap v r:=by
 unfold Ja at h;split at h
 ·grind [T.leaf]
 ·simp only [fW] at xB;subst xB;split at h
  ·grind [T.leaf]
  ·rename_i zz hz;obtain⟨el,ie,hu,kA,rfl⟩:=nk cJ hz;have gX:=ek (cJ el ie kA);split at h
   ·rename_i zJ;split at h
    ·rename_i ng;have:=bC h;simp only [ak] at this;obtain⟨rfl,rfl⟩:=this;have hx0:=hx;simp only [VR] at hx;obtain⟨⟨x,rfl⟩,hr⟩:=hx;obtain⟨e1,e2⟩:=fJ (P:=P) (w:=w) (isSlice:=true) (len:=0) (cap:=0) (m0:=0) (d:=0) (m:=0) nV xT (mx:=none) (mx':=none) (by simp [fW]) ad (.inl ⟨rfl,rfl,au _⟩) zJ ⟨fun _=>au _,ad⟩ ng;refine⟨rfl,rfl,hp,.slice x 0 0,?_,hx0⟩;simp [Instr.sliceAt,run_underlying hu,Instr.slice,e1,gX]
    grind [T.leaf]
   grind [T.leaf]
end
theorem C1: ∀{B Z':List W},Z'.length=B.length->dQ B 0 Z'=some Z'
 |[],[],_=>rfl
 |[],_::_,h=>by simp at h
 |_::_,[],h=>by simp at h
 |b::B,v::Z',h=>by simp only [dQ];rw [C1 (by simpa using h)]
theorem Np {A B C Z':List W} (h:Z'.length=B.length):dQ (A++(B++C)) A.length Z'=some (A++(Z'++C)):=by
 have:=sk A (nD C (C1 h))
 grind
theorem FB {α:Type}: ∀{a b:List α},hU a.length (a++b)=some a
 |[],b=>rfl
 |x::a,b=>by simp only [aK,aP,hU,FB]
theorem kb {ρ:Nat->Int} {r:Row}: ∀(L:List D) (a b:Nat),bF ρ r [] L a=bF ρ r [] L b
 |[],_,_=>rfl
 |d::L,a,b=>by simp only [bF,dX]; rw [kb L (a+1) (b+1)]
theorem gF {ρ:Nat->Int} {r:Row}: ∀(A B:List D),bF ρ r [] (A++B) 0=bF ρ r [] A 0++bF ρ r [] B 0
 |[],B=>rfl
 |d::A,B=>by simp only [aP,bF,dX,amj];rw [kb (A++B) 1 0,kb A 1 0,gF A B]
section
variable {P:Program} {E:En} {w:World}
theorem Vm [bI] {H:Hp} (r:bP E H w) {id t:Nat} {e0:V} {rZ:TypeId} (hl:H.get id=some (.vec e0 t rZ [])) (wP:(rowOf t).es≠0) {k cap:Nat} {a:Addr} (hc:eE E id 0 k a cap (.rest (rowOf t).es)) :
 a=⟨(E.θ id).1,(E.θ id).2,none⟩/\(dec (e0.den E.ρ)).l.length<=cap:=by
 obtain⟨ho,q0⟩:=OR.n9.1 (r.live id _ hl).2.1;simp only [OR] at q0;obtain⟨arr,lo1,hi1,us,q1,q2,q3,q4,q5,q6,q7⟩:=q0;unfold cN at q4;rw [cD ho.1] at q4;have fZ:0<(dec (e0.den E.ρ)).l.length:=amq.2 ho.2.2.2;have lA:0<(rowOf t).es:=J
 simp only [eE] at hc;rcases hc with hc|hc
 ·refine⟨by simpa using hc.1,?_⟩;have:(dec (e0.den E.ρ)).l.length*(rowOf t).es<=cap*(rowOf t).es:=J
  exact anC this lA
 ·have:=am3 fZ lA;omega
theorem CI [bI] {H:Hp} (r:bP E H w) {id t:Nat} {e0:V} {rZ:TypeId} (hl:H.get id=some (.vec e0 t rZ [])) {n mm:Nat} (hle:n+mm<=(dec (e0.den E.ρ)).l.length) {ds:List D} (vQ:ds.length=mm) (tR: ∀d∈ds,pF (rowOf t) d)
 {us:List Value} (hv:cB E w.heap (bF E.ρ (rowOf t) [] ds 0) us) (U: ∀u∈us,u.oneCell'=true) {e1:V} (Yh:dec (e1.den E.ρ)=dL ((dec (e0.den E.ρ)).l.take n++ds++(dec (e0.den E.ρ)).l.drop (n+mm))) :
 ∃w',(storeCells ⟨(E.θ id).1,(E.θ id).2+n*(rowOf t).es,none⟩ us).run P w= .ok () w'/\eM E H w E (H.put id (.vec e1 t rZ [])) w'/\bP E (H.put id (.vec e1 t rZ [])) w':=by
 obtain⟨rc,ho,hw⟩:=r.n9 hl;generalize hL:(dec (e0.den E.ρ)).l=L at *
 have hsp:L=L.take n++((L.drop n).take mm++L.drop (n+mm)):=by
  conv=>lhs; rw [<- amr n L]
  congr 1
  conv=>lhs; rw [<- amr mm (L.drop n)]
  simp_all
 have hc:cN E.ρ e0 t []=bF E.ρ (rowOf t) [] (L.take n) 0++(bF E.ρ (rowOf t) [] ((L.drop n).take mm) 0++bF E.ρ (rowOf t) [] (L.drop (n+mm)) 0):=by
  unfold cN;rw [hL]
  conv=>lhs; rw [hsp]
  rw [gF,gF]
 have hlA:(bF E.ρ (rowOf t) [] (L.take n) 0).length=n*(rowOf t).es:=by
  rw [cD (jV _),aZ]
  grind
 have t!:dQ (cN E.ρ e0 t []) (n*(rowOf t).es) (bF E.ρ (rowOf t) [] ds 0)=some (cN E.ρ e1 t []):=by
  have:cN E.ρ e1 t []=bF E.ρ (rowOf t) [] (L.take n) 0++(bF E.ρ (rowOf t) [] ds 0++bF E.ρ (rowOf t) [] (L.drop (n+mm)) 0):=by unfold cN;rw [Yh,bM,gF,gF,amj]
  rw [this,hc,<- hlA];refine Np ?_;rw [cD (jV _),cD (jV _),aZ,al6,vQ]
  grind
 obtain⟨w',g1,g2,g3⟩:=lL (P:=P) rc (by rw [Hp.bR,ah rfl]) t! hv U;have al1:Fu (H.put id (.cells (cN E.ρ e0 t []) rZ)) H:=(Fu.put hl).symm
 have al2:Fu ((H.put id (.cells (cN E.ρ e0 t []) rZ)).put id (.cells (cN E.ρ e1 t []) rZ)) (H.put id (.vec e1 t rZ [])):=by
  refine⟨fun j y hj=>?_,fun j y hj=>?_,rfl,rfl⟩
  ·rw [Hp.bR];split
   ·grind
   ·rename_i fZ;rw [Hp.bR,af fZ,Hp.bR,af fZ] at hj
    grind
  ·rw [Hp.bR] at hj ⊢;split
   ·grind
   ·rename_i fZ;rw [af fZ] at hj;rw [Hp.bR,af fZ];exact⟨y,hj⟩
 have Az:=(g3.live id _ (by rw [Hp.bR,ah rfl])).2.1
 have hor:OR E w'.heap id (.vec e1 t rZ []):=by
  refine OR.n9.2 ⟨⟨jV _,?_⟩,Az⟩;rw [Yh];refine⟨by rw [bM],?_,?_⟩
  ·rw [bM];intro d hd;rcases amb.1 hd with hd|hd
   ·rcases amb.1 hd with hd|hd
    ·exact hw.2.1 d (by rw [hL]; exact al9 hd)
    ·exact tR d hd
   ·exact hw.2.1 d (by rw [hL]; exact bq hd)
  ·rw [bM];intro q;have:=congrArg List.length q;simp only [a8,aZ,al6,aX,vQ] at this;have fZ:=amq.2 hw.2.2;rw [hL] at fZ;omega
 refine⟨w',g1,(g2.left al1).right al2,?_⟩;exact g3.swap (id:=id) (by rw [Hp.bR,ah rfl]) hor (by rw [Hp.bR,ah rfl]) (fun j hj=>by rw [Hp.bR,af hj,Hp.bR,af hj,Hp.bR,af hj]) rfl rfl
theorem L8 [bI] {s s':St} (r:bP E s.h w) (hp:bW E.ρ s.pc) {id t t1 t2 ty e:Nat} {e0 n1 m sd lo:V} {rZ:TypeId} {ie:TI} {d2:TypeDesc} (uG:ma P e ie) (ht:P.underlying t1=some (.slice e)) (xR:P.underlying t2=some d2) (jP: ∀k,d2≠.int k)
 (jD:(rowOf t).es=ie.size) (wP:ie.size≠0) (hl:s.h.get id=some (.vec e0 t rZ [])) (nV:V_ lo=true) {u u2:Value} {us:Array Value} {ds:List D} (hx:VR E w.heap (.tK id lo n1 t) u) {mm:Nat} (hm:m.den E.ρ=(mm:Int))
 (vQ:ds.length=mm) (hsd:(dec (sd.den E.ρ)).l=ds) (tR: ∀d∈ds,pF (rowOf t) d) {news:List W} (src:Src P E w ie.size mm news u2 us) (hv:cB E w.heap (bF E.ρ (rowOf t) [] ds 0) us.toList) {v:W} (h:(Sm id t rZ e0 n1 m sd s).leaf E.ρ=some (v,s')) :
 s'.bD=s.bD/\bW E.ρ s'.pc/\∃z w' E',(Builtin.append_ #[t1,t2] ty #[u,u2]).run P w= .ok z w'/\eM E s.h w E' s'.h w'/\bP E' s'.h w'/\VR E' w'.heap v z:=by
 unfold Sm at h;obtain⟨dZ,fh,g1,g2,g3,g4⟩:=vF hp h;have:=bC g4;simp only [ak] at this;obtain⟨rfl,rfl⟩:=this;have nV:=DC nV;subst nV;have hx0:=hx;simp only [VR] at hx;obtain⟨hid,l0,k,a,cap,q1,q2,rfl,q4,q5⟩:=hx;simp only [V.den] at q1;have hl0:l0=0:=J
 subst hl0;rw [ama] at q5;obtain⟨rfl,jZ⟩:=Vm r hl (by rw [jD]; exact wP) q5;have hle:k+mm<=(dec (e0.den E.ρ)).l.length:=J
 obtain⟨inf,d,z,U,Z,h3,h4,h5,h6,h7,h8⟩:=uG.all
 obtain⟨w',f1,f2,f3⟩:=CI (P:=P) r hl (n:=k) hle vQ tR hv src.rB (e1:=.op .cat (.op .cat (.op .take e0 n1) sd) (.op .drop e0 (rW n1 m))) (by
  have hn:((k:Int)+(mm:Int)).toNat=k+mm:=J
  simp only [V.den,e9.den,bB,bM,oR,fb,q2,hm,hn,hsd,bj])
 refine⟨rfl,fh,.slice (some ⟨(E.θ id).1,(E.θ id).2,none⟩) (k+mm) cap,w',E,?_,f2,f3,?_⟩
 ·exact kg (s:=ie.size) ht xR jP U h5 src J (by simp only [eT]; rw [<- jD]; exact f1)
 ·simp only [VR];refine⟨hid,0,k+mm,_,_,rfl,by rw [oR,q2,hm]; rfl,rfl,J,?_⟩;rw [ama];simp only [eE] at q5 ⊢
  grind
theorem LG [bI] {tt:TT} (cJ:ep P tt) {s s':St} (r:bP E s.h w) (hp:bW E.ρ s.pc) {t t2 ty id t':Nat} {lo n1:V} {y v:W} {u u2:Value} (nV:V_ lo=true) (hx:VR E w.heap (.tK id lo n1 t') u) (hy:VR E w.heap y u2) (h:(Ej tt t t2 id n1 t' y s).leaf E.ρ=some (v,s')) :
 s'.bD=s.bD/\bW E.ρ s'.pc/\∃z w' E',(Builtin.append_ #[t,t2] ty #[u,u2]).run P w= .ok z w'/\eM E s.h w E' s'.h w'/\bP E' s'.h w'/\VR E' w'.heap v z:=by
 unfold Ej at h;split at h
 ·rename_i ti fL;split at h
  ·rename_i e hk;split at h
   ·rename_i ie kA;split at h
    ·grind [T.leaf]
    ·rename_i PC XY;obtain⟨d2,jP,Cp⟩:=rG (cJ t2 PC XY);split at h
     ·grind [T.leaf]
     ·rename_i k2 fZ
      have uM: ∀k,d2≠.int k:=by
       intro k hd;subst hd;cases sK:PC.kind<;>rw [sK] at Cp<;>simp only [HD] at Cp
       grind
      split at h
      ·grind [T.leaf]
      ·rename_i iV;simp only [not_or,Classical.not_not] at iV;obtain⟨wP,sO,vP,jD⟩:=iV;have uG:=cJ e ie kA;have hu:=eW (cJ t ti fL) hk;split at h
       ·grind [T.leaf]
       ·rename_i e0 rZ W!;have hl:=mT W!;split at h
        ·rename_i id2 UE n2 JN;split at h
         ·rename_i II;split at h
          ·rename_i xR;have II:=aq II;have xR:=aq xR;subst II xR;obtain⟨fA,fj,g1,g2,g3,g4⟩:=vF hp h;have hy0:=hy;simp only [VR] at hy;obtain⟨hid,l,k,a,cap,q1,q2,rfl,q4,q5⟩:=hy;obtain⟨rc,ho,hw⟩:=r.n9 hl;generalize hL:(dec (e0.den E.ρ)).l=L at *;have hlk:l+k<=L.length:=J
           have hsp:L=L.take l++((L.take (l+k)).drop l++L.drop (l+k)):=by
            conv=>lhs; rw [<- amr (l+k) L]
            grind
           have UI:cN E.ρ e0 JN []=bF E.ρ (rowOf JN) [] (L.take l) 0++(bF E.ρ (rowOf JN) [] ((L.take (l+k)).drop l) 0++bF E.ρ (rowOf JN) [] (L.drop (l+k)) 0):=by
            unfold cN;rw [hL]
            conv=>lhs; rw [hsp]
            rw [gF,gF]
           have hlA:(bF E.ρ (rowOf JN) [] (L.take l) 0).length=l*(rowOf JN).es:=by rw [cD (jV _),aZ];congr 1;omega
           have hlen:((L.take (l+k)).drop l).length=k:=by rw [al6,aZ]; omega
           have hlB:(bF E.ρ (rowOf JN) [] ((L.take (l+k)).drop l) 0).length=k*(rowOf JN).es:=by rw [cD (jV _),hlen]
           have hy1:VR E w.heap (.slice id2 (l*(rowOf JN).es) k (.rest (rowOf JN).es)) (.slice (some a) k cap):=by simp only [VR];exact⟨hid,a,cap,rfl,q4,q5⟩
           obtain⟨us,src⟩:=pP (P:=P) rc hy1 (s:=ie.size) (m:=k) (news:=bF E.ρ (rowOf JN) [] ((L.take (l+k)).drop l) 0) (by
            simp only [ri,mw,Hp.bR,if_true];rw [UI,<- hlA,s8];simp only;rw [<- jD,<- hlB,FB]
            rfl)
           refine L8 (s:={ s with pc:=fA }) r fj uG hu jP uM jD wP hl nV hx q2 hlen (by rw [xi q1 q2,fb,hL]) (fun d hd=>hw.2.1 d ?_) src src.Uz g4;rw [hL];exact al9 (bq hd)
          grind [T.leaf]
         grind [T.leaf]
        ·split at h
         ·grind [T.leaf]
         ·rename_i m news N2;obtain⟨us,src⟩:=pP (P:=P) r hy N2;split at h
          ·grind [T.leaf]
          ·rename_i m';split at h
           ·split at h
            ·rename_i sd hcr;obtain⟨ds,c1,c2,c3,c4,c5⟩:=qp (ρ:=E.ρ) _ hcr;simp only [V.den,bB,D.l,aF] at c2;exact L8 r hp uG hu jP uM jD wP hl nV hx (mm:=m'+1) (by simp only [V.den]; rfl) c1 c2 c4 src (c5 E w.heap _ 0 rfl src.Uz) h
            grind [T.leaf]
           grind [T.leaf]
   grind [T.leaf]
  grind [T.leaf]
 grind [T.leaf]
theorem BE [bI] {tt:TT} (cJ:ep P tt) {s s':St} (r:bP E s.h w) (hp:bW E.ρ s.pc) {t ty id t':Nat} {lo n:V} {v:W} {u:Value} (hx:VR E w.heap (.tK id lo n t') u) (h:(zn tt t id lo n t' s).leaf E.ρ=some (v,s')) :
 s'.bD=s.bD/\bW E.ρ s'.pc/\v=W.undef/\∃w' E',(Builtin.clear_ #[t] ty #[u]).run P w= .ok (.tuple #[]) w'/\eM E s.h w E' s'.h w'/\bP E' s'.h w':=by
 unfold zn at h;split at h
 ·rename_i ti fL;split at h
  ·rename_i e hk;have hu:=eW (cJ t ti fL) hk;split at h
   ·rename_i ie kA;obtain⟨inf,d,z,U,Z,h3,h4,h5,h6,h7,h8⟩:=(cJ e ie kA).all;have hz:=eO (E:=E) (h:=w.heap) h4;split at h
    ·rename_i iV;obtain⟨jD,wP⟩:=iV;split at h
     ·grind [T.leaf]
     ·rename_i e0 zO W!;have hl:=mT W!;split at h
      ·grind [T.leaf]
      ·rename_i zz hzz;obtain⟨fA,fj,g1⟩:=cH hp h;split at g1
       ·grind [T.leaf]
       ·rename_i t1;obtain⟨jw,jl,g2⟩:=cH (s:={ s with pc:=fA }) fj g1;split at g2
        ·grind [T.leaf]
        ·rename_i t2;obtain⟨UD,IG,g3⟩:=cH (s:={ s with pc:=jw }) jl g2;split at g3
         ·grind [T.leaf]
         ·rename_i t3;have:=bC g3;simp only [ak] at this;obtain⟨rfl,rfl⟩:=this;rw [dR,decide_eq_false_iff_not] at t1 t2;rw [gw,beq_iff_eq,oR,cC] at t3;simp only [VR] at hx;obtain⟨hid,l,k,a,cap,q1,q2,rfl,q4,q5⟩:=hx;have hlk:l+k=(dec (e0.den E.ρ)).l.length:=J
          have hn0:(dec (e0.den E.ρ)).l.length-l=k:=J
          have hwz:=tg (ρ:=E.ρ) hzz;have hrz:wH E.ro w.heap (rowOf t') (dec (zz.den E.ρ)) z.cells.toList:=tj hz.1 hzz
          have alS:cB E w.heap (gz (rowOf t') (.ej (dec (zz.den E.ρ)))) z.cells.toList:=by
           rw [fV];simp only [V.den,bB]
           grind
          have aeS: ∀m:Nat,bF E.ρ (rowOf t') [] (List.replicate m (dec (zz.den E.ρ))) 0=dK (gz (rowOf t') (.ej (dec (zz.den E.ρ)))) m:=by
           intro m
           induction m with
           |zero=>rfl
           |succ m ih=>
            simp only [anJ,bF,dX,dK]
            grind [kb]
          have hv:cB E w.heap (bF E.ρ (rowOf t') [] (List.replicate k (dec (zz.den E.ρ))) 0) (dK z.cells.toList k):=by
           grind [lW]
          obtain⟨w',f1,f2,f3⟩:=CI (P:=P) r hl (n:=l) (mm:=k) J (amz) (fun d hd=>by rw [an1 hd]; exact hwz) hv (fun u hu=>hz.2 u (lV hu)) (e1:=.op .fill e0 (ew (mW lo) zz)) (by
           simp only [ew,V.den,e9.den,bB,lr,D.n,q1,bj,hn0,hlk]
           rw [List.drop_length,amm])
          refine⟨rfl,IG,rfl,w',E,?_,f2,f3⟩;rcases amL k with Yc|Yc
          ·subst Yc;simp only [dK] at f1
           have:w'=w:=by
            simp [storeCells] at f1
            grind
           subst this;simp [Builtin.clear_,run_underlying hu]
          ·have ha:a=⟨(E.θ id).1,(E.θ id).2+l*(rowOf t').es,none⟩:=by
            simp only [eE] at q5
            grind
           have aeO:z.cells.toList≠[]:=by
            intro hx;have:=wH.length hrz
            grind
           have hzc:(Builtin.zeroCells z.cells k).toList=dK z.cells.toList k:=tT z.cells aeO k;subst ha;obtain⟨j,rfl⟩ : ∃j,k=j+1:=⟨k-1,J⟩;simp [Builtin.clear_,run_underlying hu,zeroValue,typeInfo,U,h3,hzc,f1]
    grind [T.leaf]
   grind [T.leaf]
  grind [T.leaf]
 grind [T.leaf]
end
theorem lY (l:List Nat):(kU l).l.length=l.length:=by simp [kU]
theorem Ug {a b:List Nat} (h:kU a=kU b):a=b:=by
 have:=EE h
 induction a generalizing b with
 |nil=>cases b with
  |nil=>rfl
  |cons y b=>simp at this
 |cons x a ih=>cases b with
  |nil=>simp at this
  |cons y b=> simp only [ax,List.cons.injEq,D.i.injEq,Int.ofNat_eq_natCast,anb] at this;rw [this.1,ih (b:=b) (by unfold kU; exact congrArg dL (by simpa using this.2)) (by simpa using this.2)]
theorem ED: ∀(x y:List Nat),LR (x.map fun b=>D.i (Int.ofNat b)) (y.map fun b=>D.i (Int.ofNat b))=bytesLess x y
 |[],[]=>rfl
 |[],_::_=>rfl
 |_::_,[]=>rfl
 |a::x,b::y=>by
  simp only [ax,LR,bytesLess,D.n,ED x y];have i1:(Int.ofNat a<Int.ofNat b)=(a<b):=propext anj;have i2:(Int.ofNat b<Int.ofNat a)=(b<a):=propext anj;simp only [i1,i2];rcases anK a b with h|h|h
  ·simp_all
  ·simp_all
  ·have Z:a.blt b=false:=by rw [amR]; simp [Nat.blt]; omega
   have h3:a.beq b=false:=by rw [amR]; simp; omega
   grind
section
variable {P:Program} {E:En} {w:World}
theorem VR.T_ {h:Array Obj} {e:V} {v:Value} (hv:VR E h (.jA e) v): ∃l:List Nat,v= .string (de l)/\(∀b∈l,b<256)/\dec (e.den E.ρ)=kU l:=by
 simp only [VR] at hv;obtain⟨s,rfl,hs⟩:=hv.string;refine⟨bytesOf s,by rw [ku],xN s,?_⟩
 grind [zt,xN,ku,td,de]
theorem VR.Xj {h:Array Obj} {e:V} {l:List Nat} (hl: ∀b∈l,b<256) (he:dec (e.den E.ρ)=kU l):VR E h (.jA e) (.string (de l)):=by
 simp only [VR];rw [he,zt _ hl];have:=Rd.str (ro:=E.ro) (h:=h) (de l)
 grind [td,de]
theorem CV {h:Array Obj} {x:W} {u:Value} {e:V} (hx:VR E h x u) (hs:tq x=some e): ∃l:List Nat,u= .string (de l)/\(∀b∈l,b<256)/\dec (e.den E.ρ)=kU l:=by
 unfold tq at hs;split at hs
 ·simp only [ag] at hs;subst hs;simp only [VR] at hx;exact⟨_,hx.1,hx.2,by simp only [V.den,bB]⟩
 ·simp only [ag] at hs;subst hs;exact hx.T_
 grind
theorem Oo {tt:TT} (cJ:ep P tt) {s s':St} (hp:bW E.ρ s.pc) {ty:Nat} {e:V} {ix v:W} {u ui:Value} (hx:VR E w.heap (.jA e) u) (yQ:VR E w.heap ix ui) (h:(I2 tt s ty e ix).leaf E.ρ=some (v,s')) :
 s'.bD=s.bD/\s'.h=s.h/\bW E.ρ s'.pc/\∃r,(Instr.index ty u ui).run P w= .ok r w/\VR E w.heap v r:=by
 unfold I2 at h;split at h
 ·rename_i kd i;split at h
  ·rename_i ti fL;split at h
   ·rename_i hk;obtain⟨dZ,fh,U,Z,h3⟩:=nr hp h;have:=bC h3;simp only [ak] at this;obtain⟨rfl,rfl⟩:=this;refine⟨rfl,rfl,fh,?_⟩;obtain⟨l,rfl,Y,hd⟩:=hx.T_;simp only [VR] at yQ;subst yQ;rw [cC,hd,lY] at Z;obtain⟨k,Cp⟩ : ∃k:Nat,i.den E.ρ=(k:Int):=⟨(i.den E.ρ).toNat,J⟩;have fe:k<l.length:=J
    have hg:(de l)[k]?=some (UInt8.ofNat l[k]):=by rw [CX,aM fe]; rfl
    have ald:=Y l[k] (aA fe);rw [Cp];refine⟨_,by simp [Instr.index,asIntOf,run_underlying (fB (cJ ty ti fL) hk),hg]; rfl,?_⟩
    have TU:(dec (e.den E.ρ)).l[k]?=some (.i (Int.ofNat l[k])):=by rw [hd];simp only [kU,bM,bn,aM fe,bw]
    simp only [VR,zT,AS E.ρ e i Cp TU,D.n]
    grind
   grind [T.leaf]
  grind [T.leaf]
 grind [T.leaf]
theorem On {tt:TT} (cJ:ep P tt) {s s':St} (hp:bW E.ρ s.pc) {ty:Nat} {e:V} {lo hi mx:Option W} {xQ hi' mx':Option Value} {v:W} {u:Value} (hx:VR E w.heap (.jA e) u)
 (nV:fW E w.heap lo xQ) (xT:fW E w.heap hi hi') (xB:fW E w.heap mx mx') (h:(I1 tt s ty e lo hi mx).leaf E.ρ=some (v,s')) :
 s'.bD=s.bD/\s'.h=s.h/\bW E.ρ s'.pc/\∃r,(Instr.sliceAt ty u xQ hi' mx').run P w= .ok r w/\VR E w.heap v r:=by
 unfold I1 at h;split at h
 ·grind [T.leaf]
 ·simp only [fW] at xB;subst xB;split at h
  ·grind [T.leaf]
  ·rename_i ti fL;split at h
   ·rename_i hk;have hu:=fB (cJ ty ti fL) hk;split at h
    ·grind [T.leaf]
    ·rename_i ql hql;split at h
     ·grind [T.leaf]
     ·rename_i qh hqh;obtain⟨fA,fj,U⟩:=cH hp h;split at U
      ·grind [T.leaf]
      ·rename_i t1;obtain⟨jw,jl,Z⟩:=cH (s:={ s with pc:=fA }) fj U;split at Z
       ·grind [T.leaf]
       ·rename_i t2;obtain⟨UD,IG,h3⟩:=cH (s:={ s with pc:=jw }) jl Z;split at h3
        ·grind [T.leaf]
        ·rename_i t3;have:=bC h3;simp only [ak] at this;obtain⟨rfl,rfl⟩:=this;refine⟨rfl,rfl,IG,?_⟩;obtain⟨l,rfl,Y,hd⟩:=hx.T_;rw [dR,decide_eq_false_iff_not] at t1 t2 t3;rw [cC,hd,lY] at t3;simp only [V.den,amK] at t1;obtain⟨a,ha⟩ : ∃a:Nat,ql.den E.ρ=(a:Int):=⟨(ql.den E.ρ).toNat,J⟩;obtain⟨b,My⟩ : ∃b:Nat,qh.den E.ρ=(b:Int):=⟨(qh.den E.ρ).toNat,J⟩;have hle:b<=l.length:=J
         have DR:a<=b:=J
         obtain⟨UE,X9,ng⟩:=XB hql nV ha
         have ae0: ∃II,fW E w.heap II hi'/\nA II l.length l.length=some b:=by
          unfold hiE at hqh;split at hqh
          ·simp only [ag] at hqh;subst hqh;rw [cC,hd,lY] at My;have:b=l.length:=J
           grind [nA]
          ·split at hqh
           ·simp only [ag] at hqh;subst hqh;exact⟨_,Co My xT,CD hle⟩
           grind
         obtain⟨II,ae0,zJ⟩:=ae0;obtain⟨e1,e2⟩:=fJ (P:=P) (w:=w) (isSlice:=false) (len:=l.length) (cap:=l.length) (m0:=l.length) (d:=0) X9 ae0 (mx:=none) (mx':=none) rfl ad (.inl ⟨rfl,rfl,au _⟩) zJ ⟨fun _=>au _,ad⟩ (ng b DR);refine⟨.string ((de l).extract a b),?_,?_⟩
         ·rw [<- kr] at e1;simp [Instr.sliceAt,run_underlying hu,Instr.slice,e1]
         ·rw [sg];refine VR.Xj (fun c hc=>Y c (al9 (bq hc))) ?_;simp only [ew,V.den,e9.den,bB,lr,D.hd,D.l,aG,aH,az,D.n,ha,My,bj,hd];simp only [kU,bM,anz,anA]
   grind [T.leaf]
theorem HY {x y:W} {a b:V} (h:Cb x y=some (a,b)):tq x=some a/\tq y=some b:=by
 grind [Cb]
theorem FL (ρ:Nat->Int) {a b:V} {x y:List Nat} (ha:dec (a.den ρ)=kU x) (Y:dec (b.den ρ)=kU y):(FM a b).den ρ=bytesLess x y:=by
 simp only [FM,SB.den,V.den,e9.den,ha,Y,kU,bM]
 grind [ED]
theorem zx: ∀(x y:List Nat),(bytesLess x y||gD x y)=!(bytesLess y x)
 |[],[]=>rfl
 |[],_::_=>rfl
 |_::_,[]=>rfl
 |a::x,b::y=>by
  have ih:=zx x y;simp only [bytesLess,gD];rcases anK a b with h|h|h
  ·have U:a.blt b=true:=by simp [Nat.blt]; omega
   have Z:b.blt a=false:=by rw [amR]; simp [Nat.blt]; omega
   have h3:b.beq a=false:=by rw [amR]; simp; omega
   grind
  ·simp_all
  ·have U:b.blt a=true:=by simp [Nat.blt]; omega
   have Z:a.blt b=false:=by rw [amR]; simp [Nat.blt]; omega
   have h3:a.beq b=false:=by rw [amR]; simp; omega
   grind
theorem T4 {s s':St} (hp:bW E.ρ s.pc) {t:Nat} {op:BinOp} {x y v:W} {a b:V} {u u':Value} (hx:VR E w.heap x u) (hy:VR E w.heap y u') (hs:Cb x y=some (a,b)) (h:(Oq op a b s).leaf E.ρ=some (v,s')) :
 s'.bD=s.bD/\s'.h=s.h/\bW E.ρ s'.pc/\(∃r,(binOp op t u u').run P w= .ok r w/\VR E w.heap v r)/\(∀cs ds,¬(u= .agg cs/\u'= .agg ds))/\¬(u= .nilIface/\u'= .nilIface):=by
 obtain⟨hsx,hsy⟩:=HY hs;obtain⟨l,rfl,ng,hdl⟩:=CV hx hsx;obtain⟨m,rfl,DQ,tB⟩:=CV hy hsy
 have heq:((pQ (mn a) (mn b)).den E.ρ)=gD l m:=by
  grind [gZ,lM,lQ,Ug,fT]
 have fZ:(∀cs ds,¬(Value.string (de l)= .agg cs/\Value.string (de m)= .agg ds))/\¬(Value.string (de l)= .nilIface/\Value.string (de m)= .nilIface):=⟨ad,ad⟩
 have fin: ∀(c:W) (o:BinOp),Kh o l m=some c->(∀q,VR E w.heap c q->VR E w.heap v q)->(∀q,(Op.stringOp o (de l) (de m)).run P w= .ok q w->(binOp o t (.string (de l)) (.string (de m))).run P w= .ok q w)->
  ∃r,(binOp o t (.string (de l)) (.string (de m))).run P w= .ok r w/\VR E w.heap v r:=by
  intro c o ho hc hq;obtain⟨r,U,Z⟩:=Kg (P:=P) (E:=E) (w:=w) ng DQ ho;exact⟨r,hq _ U,hc r Z⟩
 unfold Oq at h;split at h
 ·obtain⟨fA,fj,U⟩:=cH hp h;split at U
  ·grind [T.leaf]
  ·rename_i t1;obtain⟨jw,jl,Z⟩:=cH (s:={ s with pc:=fA }) fj U;split at Z
   ·grind [T.leaf]
   ·rename_i t2;have:=bC Z;simp only [ak] at this;obtain⟨rfl,rfl⟩:=this;rw [dR,decide_eq_true_eq,cC,hdl,lY] at t1;rw [dR,decide_eq_true_eq,cC,tB,lY] at t2;simp only [V.den] at t1 t2;refine⟨rfl,rfl,jl,⟨.string (de (l++m)),?_,?_⟩,fZ⟩
    ·have hm:IntKind.i64.max=9223372036854775807:=ae
     have:(Op.stringOp .add (de l) (de m)).run P w= .ok (.string (de l++de m)) w:=by simp only [Op.stringOp,kr,hm];rw [af J];rfl
     have e:de l++de m=de (l++m):=by apply ByteArray.ext;simp [de]
     rw [e] at this;simpa [binOp] using this
    ·refine VR.Xj (fun c hc=>?_) ?_
     ·grind
     ·simp only [V.den,e9.den,bB,hdl,tB];simp only [kU,bM,ank]
 all_goals first
  |(simp [T.leaf] at h; done)
  |(have:=bC h
    simp only [ak] at this;obtain⟨rfl,rfl⟩:=this;refine⟨rfl,rfl,hp,?_,fZ⟩;refine fin _ _ rfl (fun q hq=>?_) (fun q hq=>by simpa [binOp] using hq);simp only [VR,SB.den,mX] at hq ⊢
    first
     |(rw [heq]; exact hq)
     |(rw [FL E.ρ hdl tB]; exact hq)
     |(rw [FL E.ρ tB hdl]; rw [zx] at hq; simpa using hq))
theorem OJ [bI] {tt:TT} (cJ:ep P tt) {s s':St} (r:bP E s.h w) (hp:bW E.ρ s.pc) {sT dT:Nat} {e:V} {v:W} {u:Value} (hx:VR E w.heap (.jA e) u) (h:(Cy tt sT dT e s).leaf E.ρ=some (v,s')) :
 s'.bD=s.bD/\bW E.ρ s'.pc/\∃y w' E',(convert sT dT u).run P w= .ok y w'/\eM E s.h w E' s'.h w'/\bP E' s'.h w'/\VR E' w'.heap v y:=by
 unfold Cy at h;split at h
 ·grind [T.leaf]
 ·rename_i j hj;split at h
  ·rename_i hjk;split at h
   ·grind [T.leaf]
   ·rename_i i hi;split at h
    ·rename_i el hik;split at h
     ·rename_i ie kA;split at h
      ·rename_i k al0;split at h
       ·obtain⟨l,rfl,Y,hd⟩:=hx.T_
        have Mw:oO tt sT dT (.str l) s.h=some (.slice s.h.fresh 0 l.length (.rest 1),s.h.new (.cells (l.map fun c=> .int .u8 (.lit (Int.ofNat c))) el)):=by
         grind [oO]
        obtain⟨y,w',E',g1,g2,g3,g4⟩:=zm (P:=P) cJ r (x:=.str l) (u:=.string (de l)) (by simp only [VR]; exact⟨trivial,Y⟩) Mw;obtain⟨fA,fj,U⟩:=cH hp h;rw [gZ,cC,hd,lY] at U;split at U
        ·rename_i hz;have:=bC U;simp only [ak] at this;obtain⟨rfl,rfl⟩:=this;simp only [V.den,beq_iff_eq] at hz
         grind
        ·rename_i hz;have:=bC U;simp only [ak] at this;obtain⟨rfl,rfl⟩:=this;simp only [V.den,beq_eq_false_iff_ne,ne_eq] at hz;have DP:dec (e.den E'.ρ)=kU l:=by rw [g2.ρ]; exact hd
         have UI:cN E'.ρ e 14 []=l.map fun c=>W.int .u8 (.lit (Int.ofNat c)):=by
          unfold cN;rw [DP];simp only [kU,bM]
          have: ∀(l:List Nat) (i:Nat),bF E'.ρ (rowOf 14) [] (l.map fun b=>D.i (Int.ofNat b)) i=l.map fun c=>W.int .u8 (.lit (Int.ofNat c)):=by
           intro l
           induction l with
           |nil=>intro i; rfl
           |cons a l ih=> intro i;simp only [ax,bF,dX,ih];rfl
          grind
         have r2:=Cl (e1:=e) (t:=14) g3 (by
          rw [DP];refine⟨by simp only [kU,bM],fun x hx=>?_,fun q=>?_⟩
          ·simp only [kU,bM,aT] at hx;obtain⟨b,_,rfl⟩:=hx;rfl
          ·have:=congrArg List.length q;rw [lY] at this
           exact hz (by simp at this; simp [this])) (by rw [UI]) (fun us hu=>by rw [UI]; exact hu)
         refine⟨rfl,fj,y,w',E',g1,g2.right (vH rfl rfl fun _=>rfl),r2,?_⟩;simp only [VR] at g4 ⊢;obtain⟨q1,a,cap,q2,q3,q4⟩:=g4;exact⟨q1,l.length,a,cap,by rw [cC,DP,lY],q2,q3,q4⟩
       grind [T.leaf]
      grind [T.leaf]
     grind [T.leaf]
    grind [T.leaf]
  grind [T.leaf]
end
section
variable {P:Program} {E:En} {w:World}
def ID (c:CK):Prop:=(∃k,c= .int k)\/c= .str
theorem bytes_beq (p q:ByteArray):(p == q)=decide (p=q):=by
 rw [amg,decide_eq_true_eq];have e:(p == q)=(p.data == q.data):=rfl;rw [e,beq_iff_eq];constructor
 ·intro h; cases p; cases q; simp only at h; rw [h]
 grind
theorem yE {ro:Nat->Prop} {h:Array Obj} {c:CK} (hc:ID c) {dt:TypeDesc} (hd:B6 dt (KY c)) {d d':D} {u u':Value} (r:Rd ro h c d u) (r':Rd ro h c d' u') :
 Instr.sameNow dt u u'=some (decide (d=d'))/\(d=d'->∀n,Instr.sameBits (n+1) u' u=true):=by
 rcases hc with ⟨k,rfl⟩|rfl
 ·simp only [KY] at hd;obtain⟨k',rfl⟩:=hd
  cases r with
  |int _ n=>
   cases r' with
   |int _ m=>
    refine⟨?_,fun hh n=>?_⟩
    ·simp only [Instr.sameNow,D.i.injEq]
     grind
    ·simp only [D.i.injEq] at hh;subst hh;simp [Instr.sameBits]
 ·simp only [KY] at hd;simp only [B6] at hd;subst hd;obtain⟨a,rfl,rfl⟩:=r.string;obtain⟨b,rfl,rfl⟩:=r'.string;refine⟨?_,fun hh n=>?_⟩
  ·simp only [Instr.sameNow,bytes_beq];congr 1
   grind [EB]
  ·have:=EB hh;subst this;simp [Instr.sameBits,bytes_beq]
def JM (P:Program):List CK->Nat->List Field->Prop
 |[],_,fs=>fs= []
 |c::cs,j,fs=> ∃f r k i,fs=f::r/\f.offset=j/\f.name≠ "_"/\c= .int k/\ma P f.type i/\i.kind= .int k/\JM P cs (j+1) r
def aaU (P:Program) (kt:Nat) (r:Row):Prop:=match r with
 | .one c=>ID c/\∃dt,P.underlying kt=some dt/\B6 dt (KY c)
 | .many cs=>cs≠[]/\P.underlying kt=some (.struct (P.fieldsOf kt))/\P.stoodInHeld kt=false/\JM P cs 0 (P.fieldsOf kt).toList
theorem HB.length {ro:Nat->Prop} {h:Array Obj} {d:D}: ∀{cs:List CK} {j:Nat} {us:List Value},HB ro h cs j d us->us.length=cs.length
 |[],_,us,hh=>by simp only [HB] at hh; rw [hh]; rfl
 |c::cs,j,us,hh=>by obtain⟨u,vs,rfl,_,h3⟩:=hh;rw [aK,aK,HB.length h3]
theorem QT {ro:Nat->Prop} {h:Array Obj} {d d':D} (n:Nat): ∀{cs:List CK} {j:Nat} {fs:List Field} {us vs pre pre':List Value},JM P cs j fs->HB ro h cs j d us->HB ro h cs j d' vs->pre.length=j->pre'.length=j->
 (Op.eqFields (n+1) (pre++us).toArray (pre'++vs).toArray fs).run P w= .ok (decide (∀i,i<cs.length->d.hd (j+i)=d'.hd (j+i))) w
 |[],j,fs,us,vs,pre,pre',hf,_,_,_,_=>by simp only [JM] at hf;subst hf;simp [Op.eqFields]
 |c::cs,j,fs,us,vs,pre,pre',hf,hu,hv,hp,fh=>by
  obtain⟨f,r,k,i,rfl,ho,hn,rfl,fL,hk,hr⟩:=hf;obtain⟨u,us,rfl,N0,Rh⟩:=hu;obtain⟨v,vs,rfl,Rg,W?⟩:=hv;have e4:i.agg=false:=by simp [TI.agg,TK.agg,hk]
  have p1:(part f.type (pre++u::us).toArray f.offset).run P w= .ok u w:=by simp [part,kz fL,e4,ho,<- hp]
  have p2:(part f.type (pre'++v::vs).toArray f.offset).run P w= .ok v w:=by simp [part,kz fL,e4,ho,<- fh]
  have ih:=QT (d:=d) (d':=d') (us:=us) (vs:=vs) (pre:=pre++ [u]) (pre':=pre'++ [v]) n hr Rh W? (by simp [hp]) (by simp [fh]);rw [amj,amj] at ih;simp only [an2] at ih;simp only [Op.eqFields];rw [ah hn];generalize hx:d.hd j=x at N0;generalize hy:d'.hd j=y at Rg
  cases N0 with
  |int _ a=>
   cases Rg with
   |int _ b=>
    simp only [Sem.run_bind,p1,p2,Result.andThen_ok,run_equalIn_int w n f.type _ _ _ _ (oz fL hk)];by_cases DR:a=b
    ·subst DR;simp only [beq_self_eq_true,am4,aL,if_false,ih];congr 1;rw [decide_eq_decide];constructor
     ·intro q m hm
      cases m with
      |zero=>rw [bd,hx,hy]
      |succ m=>have:=q m (by simp at hm; omega); rw [show j+(m+1)=j+1+m by omega]; exact this
     ·intro q m hm;have:=q (m+1) (by simp; omega);rw [show j+(m+1)=j+1+m by omega] at this;exact this
    ·have Y:(a == b)=false:=by simpa using DR
     rw [Y];simp only [Bool.not_false,if_true,Sem.run_pure];congr 1;symm;rw [decide_eq_false_iff_not];intro q;have:=q 0 ad;rw [bd,hx,hy] at this;simp only [D.i.injEq] at this;exact DR this
theorem Gz {ro:Nat->Prop} {h:Array Obj} {d:D}: ∀{cs:List CK} {j:Nat} {fs:List Field} {us vs:List Value},JM P cs j fs->HB ro h cs j d us->HB ro h cs j d vs->us=vs
 |[],j,fs,us,vs,_,hu,hv=>by simp only [HB] at hu hv;rw [hu,hv]
 |c::cs,j,fs,us,vs,hf,hu,hv=>by
  obtain⟨f,r,k,i,rfl,ho,hn,rfl,fL,hk,hr⟩:=hf;obtain⟨u,us,rfl,N0,Rh⟩:=hu;obtain⟨v,vs,rfl,Rg,W?⟩:=hv;rw [Gz hr Rh W?];generalize hx:d.hd j=x at N0 Rg
  cases N0 with
  |int _ a=>
   cases Rg with
   |int _ b=>rfl
theorem Gy {ro:Nat->Prop} {h:Array Obj} {d:D}: ∀{cs:List CK} {j:Nat} {fs:List Field} {us:List Value} (n:Nat),JM P cs j fs->HB ro h cs j d us->((us.zip us).all fun (x,y)=>Instr.sameBits n x y)=true
 |[],j,fs,us,n,_,hu=>by simp only [HB] at hu;rw [hu];rfl
 |c::cs,j,fs,us,n,hf,hu=>by
  obtain⟨f,r,k,i,rfl,ho,hn,rfl,fL,hk,hr⟩:=hf;obtain⟨u,us,rfl,N0,Rh⟩:=hu;rw [List.zip_cons_cons,anL,Gy n hr Rh,Bool.and_true];generalize hx:d.hd j=x at N0
  cases N0 with
  |int _ a=>simp [Instr.sameBits]
theorem D? {cs:List CK} {d d':D} (h:wg cs d) (h':wg cs d'):(∀i,i<cs.length->d.hd (0+i)=d'.hd (0+i))↔d=d':=by
 constructor
 ·intro q;rw [h.1,h'.1];congr 1;refine List.ext_getElem (by rw [h.2.1,h'.2.1]) fun i U Z=>?_;have:=q i (by rw [<- h.2.1]; exact U);rw [ay] at this;unfold D.hd at this;rw [aM U,aM Z] at this;simpa using this
 ·rintro rfl i _;rfl
theorem Ar {ro:Nat->Prop} {h:Array Obj} {kt:Nat} {cs:List CK} (hT:aaU P kt (.many cs)) {d d':D} {u u':Value} (r:Fp ro h (.many cs) d u) (r':Fp ro h (.many cs) d' u') :
 (Op.equal kt u u').run P w= .ok (decide (d=d')) w/\(d=d'->∀n,Instr.sameBits (n+1) u' u=true):=by
 obtain⟨_,t1,t2,t3⟩:=hT;obtain⟨w1,us,rfl,U⟩:=r;obtain⟨w2,vs,rfl,Z⟩:=r';refine⟨?_,fun hh n=>?_⟩
 ·have h10:(Op.maxDepth:Nat)=9998+1+1:=rfl;unfold Op.equal;rw [h10,run_equalIn_struct w (9998+1) kt _ _ t1 t2];have:=QT (w:=w) (d:=d) (d':=d') (pre:=[]) (pre':=[]) 9998 t3 U Z rfl rfl;simp only [aF] at this;rw [this];congr 1;rw [decide_eq_decide];exact D? w1 w2
 ·subst hh;have e:=Gz t3 U Z;subst e;simp only [Instr.sameBits,beq_self_eq_true,Bool.true_and];exact Gy n t3 U
def ajR (ro:Nat->Prop) (h:Array Obj) (t:Nat) (ds:List D) (kd:D) (bL:List MapEntry) (u:Value) (ask:Option (Nat×Value)->Prop):Prop:=
 (dH ds kd=none/\ask none/\(∀v,gW ds kd v=ds++ [.p kd v])/\Ff ds kd=ds)\/
 (∃j x e,dH ds kd=some x/\bL[j]?=some e/\Fp ro h (mapOf t).2 x e.val/\ask (some (j,e.val))/\(∀n,Instr.sameBits (n+1) e.key u=true)/\(∀v,gW ds kd v=ds.set j (.p kd v))/\Ff ds kd=ds.eraseIdx j)
theorem AG {ro:Nat->Prop} {h:Array Obj} {t:Nat} {kd:D} {u:Value} {ask:List MapEntry->Nat->Option (Nat×Value)->Prop} (a0: ∀i,ask [] i none) (aY: ∀e r i,(∃d',Fp ro h (mapOf t).1 d' e.key/\d'=kd)->ask (e::r) i (some (i,e.val))) (aN: ∀e r i res,(∃d',Fp ro h (mapOf t).1 d' e.key/\d'≠kd)->ask r (i+1) res->ask (e::r) i res)
 (aB: ∀u',Fp ro h (mapOf t).1 kd u'->∀n,Instr.sameBits (n+1) u' u=true): ∀{ds:List D} {bL:List MapEntry} {i:Nat},jO ro h t ds bL->ajR ro h t ds kd bL u (fun q=>ask bL i (q.map fun p=>(i+p.1,p.2)))
 |[],bL,i,he=>by simp only [jO] at he;subst he;exact .inl ⟨rfl,a0 i,fun _=>rfl,rfl⟩
 |d::ds,bL,i,he=>by
  obtain⟨e,r,rfl,U,Z,h3,h4⟩:=he;by_cases yP:jd d=kd
  ·refine .inr ⟨0,Fm d,e,by simp only [dH,ah yP],rfl,h3,?_,aB _ (yP▸Z),fun v=>by simp only [gW,ah yP,amP],by simp only [Ff,ah yP,List.eraseIdx_cons_zero]⟩;exact aY e r i ⟨_,Z,yP⟩
  ·rcases AG a0 aY aN aB (i:=i+1) h4 with ⟨q1,q2,q3,q4⟩|⟨j,x,e',q1,q2,q3,q4,q5,q6,q7⟩
   ·exact .inl ⟨by simp only [dH,af yP,q1],aN e r i _ ⟨_,Z,yP⟩ q2,fun v=>by simp only [gW,af yP,q3,aP],by simp only [Ff,af yP,q4]⟩
   ·refine .inr ⟨j+1,x,e',by simp only [dH,af yP,q1],by simpa using q2,q3,?_,q5,fun v=>by simp only [gW,af yP,q6,amQ],by simp only [Ff,af yP,q7,anf]⟩;have:=aN e r i _ ⟨_,Z,yP⟩ q4;simp only [bw] at this ⊢;rw [show i+(j+1)=i+1+j by omega];exact this
theorem D0 {ro:Nat->Prop} {h:Array Obj} {t kt:Nat} (hT:aaU P kt (mapOf t).1) {kd:D} {u:Value} (hk:Fp ro h (mapOf t).1 kd u) {ds:List D} {bL:List MapEntry} (he:jO ro h t ds bL):ajR ro h t ds kd bL u (fun q=>(Instr.findKey kt u bL).run P w= .ok q w):=by
 generalize hr:(mapOf t).1=r at hT hk
 cases r with
 |one c=>
  obtain⟨hc,dt,hu,hd⟩:=hT;have Rq:Rd ro h c kd u:=hk
  have G:=AG (ro:=ro) (h:=h) (t:=t) (kd:=kd) (u:=u) (ask:=fun es i q=>Instr.findNow dt u es i=some q) (fun i=>by simp [Instr.findNow])
   (fun e r i ⟨d',U,Z⟩=>by
    rw [hr] at U;have g:=(yE hc hd Rq U).1;rw [Z,decide_eq_true rfl] at g
    simp [Instr.findNow,g])
   (fun e r i res ⟨d',U,Z⟩ q=>by
    rw [hr] at U;have g:=(yE hc hd Rq U).1;rw [decide_eq_false (fun e=>Z e.symm)] at g;simp only [Instr.findNow,g]
    exact q)
   (fun u' U n=>by
    rw [hr] at U
    exact (yE hc hd Rq U).2 rfl n) (i:=0) he
  rcases G with ⟨q1,q2,q3,q4⟩|⟨j,x,e,q1,q2,q3,q4,q5,q6,q7⟩
  ·exact .inl ⟨q1,fk hu q2,q3,q4⟩
  ·simp only [bw,ay] at q4;exact .inr ⟨j,x,e,q1,q2,q3,fk hu q4,q5,q6,q7⟩
 |many cs=>
  have G:=AG (ro:=ro) (h:=h) (t:=t) (kd:=kd) (u:=u) (ask:=fun es i q=>(Instr.findAsking kt u es i).run P w= .ok q w) (fun i=>by simp [Instr.findAsking])
   (fun e r i ⟨d',U,Z⟩=>by
    rw [hr] at U;have g:=(Ar (w:=w) hT hk U).1;rw [Z,decide_eq_true rfl] at g
    simp [Instr.findAsking,g])
   (fun e r i res ⟨d',U,Z⟩ q=>by
    rw [hr] at U;have g:=(Ar (w:=w) hT hk U).1;rw [decide_eq_false (fun e=>Z e.symm)] at g;simp [Instr.findAsking,g]
    exact q)
   (fun u' U n=>by
    rw [hr] at U
    exact (Ar (w:=w) hT hk U).2 rfl n) (i:=0) he
  have key: ∀q,(Instr.findAsking kt u bL 0).run P w= .ok q w->(Instr.findKey kt u bL).run P w= .ok q w:=by
   intro q hq;unfold Instr.findKey
   cases bL with
   |nil=> simp only [Instr.findAsking,Sem.run_pure] at hq;simp [run_underlying hT.2.1,Instr.findNow];simpa using hq
   |cons e r=> simp [run_underlying hT.2.1,Instr.findNow,Instr.sameNow];exact hq
  rcases G with ⟨q1,q2,q3,q4⟩|⟨j,x,e,q1,q2,q3,q4,q5,q6,q7⟩
  ·exact .inl ⟨q1,key _ q2,q3,q4⟩
  ·simp only [bw,ay] at q4;exact .inr ⟨j,x,e,q1,q2,q3,key _ q4,q5,q6,q7⟩
theorem Dz {ro:Nat->Prop} {h:Array Obj} {d:D} (b:Bool) (n:Nat): ∀{cs:List CK} {j:Nat} {fs:List Field} {us pre:List Value},JM P cs j fs->HB ro h cs j d us->pre.length=j->
 (forIn fs PUnit.unit (fun f (_:PUnit)=>(do
  if f.name≠ "_" then Instr.checkKey b (n+1) f.type (<- part f.type (pre++us).toArray f.offset)
  pure (ForInStep.yield PUnit.unit):Sem (ForInStep PUnit)))).run P w= .ok PUnit.unit w
 |[],j,fs,us,pre,hf,_,_=>by simp only [JM] at hf;subst hf;simp
 |c::cs,j,fs,us,pre,hf,hu,hp=>by
  obtain⟨f,r,k,i,rfl,ho,hn,rfl,fL,hk,hr⟩:=hf;obtain⟨u,us,rfl,N0,Rh⟩:=hu;have e4:i.agg=false:=by simp [TI.agg,TK.agg,hk]
  have p1:(part f.type (pre++u::us).toArray f.offset).run P w= .ok u w:=by simp [part,kz fL,e4,ho,<- hp]
  have ih:=Dz (d:=d) (us:=us) (pre:=pre++ [u]) b n hr Rh (by simp [hp]);rw [amj] at ih;simp only [an2] at ih;have hc:(Instr.checkKey b (n+1) f.type u).run P w= .ok () w:=by simp [Instr.checkKey,run_underlying (oz fL hk)]
  rw [List.forIn_cons];simp only [Sem.run_bind,ah hn,p1,hc,Result.andThen_ok,Sem.run_pure];exact ih
theorem lZ {ro:Nat->Prop} {h:Array Obj} {kt:Nat} {r:Row} (hT:aaU P kt r) {d:D} {v:Value} (hk:Fp ro h r d v) (b:Bool):(Instr.checkKey b 10000 kt v).run P w= .ok () w:=by
 cases r with
 |one c=> obtain⟨_,dt,hu,hd⟩:=hT;exact eA hu hd b v
 |many cs=> obtain⟨_,t1,_,t3⟩:=hT;obtain⟨_,us,rfl,U⟩:=hk;have h0:(10000:Nat)=9998+1+1:=rfl;rw [h0];have:=Dz (w:=w) (pre:=[]) b 9998 t3 U rfl;simp only [aF] at this;rw [Instr.checkKey];simp only [Sem.run_bind,run_underlying t1,Result.andThen_ok];rw [<- Array.forIn_toList,this];simp
theorem jO.set {ro:Nat->Prop} {h:Array Obj} {t:Nat} {kd vd:D} {uk uv:Value} (hk:Fp ro h (mapOf t).1 kd uk) (hv:Fp ro h (mapOf t).2 vd uv): ∀{ds:List D} {bL:List MapEntry} {i:Nat} {e:MapEntry},jO ro h t ds bL->bL[i]?=some e->
 jO ro h t (ds.set i (.p kd vd)) (bL.set i { e with key:=uk,val:=uv })
 |[],bL,i,e,he,hi=>by simp only [jO] at he; subst he; simp at hi
 |d::ds,bL,0,e,he,hi=>by obtain⟨e0,r,rfl,U,Z,h3,h4⟩:=he;simp at hi;subst hi;simp only [amP];exact⟨_,r,rfl,rfl,hk,hv,h4⟩
 |d::ds,bL,i+1,e,he,hi=>by obtain⟨e0,r,rfl,U,Z,h3,h4⟩:=he;simp only [amQ];exact⟨e0,_,rfl,U,Z,h3,jO.set hk hv h4 (by simpa using hi)⟩
theorem jO.push {ro:Nat->Prop} {h:Array Obj} {t:Nat} {kd vd:D} {uk uv:Value} {c:Nat} (hk:Fp ro h (mapOf t).1 kd uk) (hv:Fp ro h (mapOf t).2 vd uv): ∀{ds:List D} {bL:List MapEntry},jO ro h t ds bL->
 jO ro h t (ds++ [.p kd vd]) (bL++ [{ key:=uk,val:=uv,born:=c }])
 |[],bL,he=>by simp only [jO] at he;subst he;exact⟨_,[],rfl,rfl,hk,hv,rfl⟩
 |d::ds,bL,he=>by obtain⟨e0,r,rfl,U,Z,h3,h4⟩:=he;simp only [aP];exact⟨e0,_,rfl,U,Z,h3,jO.push hk hv h4⟩
theorem jO.erase {ro:Nat->Prop} {h:Array Obj} {t:Nat}: ∀{ds:List D} {bL:List MapEntry} {i:Nat},jO ro h t ds bL->jO ro h t (ds.eraseIdx i) (bL.eraseIdx i)
 |[],bL,i,he=>by simp only [jO] at he; subst he; simp [jO]
 |d::ds,bL,0,he=>by
  obtain⟨e0,r,rfl,U,Z,h3,h4⟩:=he
  grind
 |d::ds,bL,i+1,he=>by obtain⟨e0,r,rfl,U,Z,h3,h4⟩:=he;simp only [anf];exact⟨e0,_,rfl,U,Z,h3,jO.erase h4⟩
theorem xq {m:W} {h:Hp} {id t:Nat} {e:V} (hm:wO m h=some (id,e,t)):m= .map id/\h.get id=some (.jM e t):=by
 unfold wO at hm
 grind
theorem GU {tt:TT} (cJ:ep P tt): ∀{cs:List CK} {j:Nat} {fs:List (Nat×Nat×Nat)} {lP:List Field},AF tt cs j fs=true->(lP.mapM fun f=>(P.info? f.type).map fun i=>(f.offset,f.type,i.size))=some fs->(∀f∈lP,f.name≠ "_")->JM P cs j lP
 |[],j,[],lP,_,hm,_=>by
  cases lP with
  |nil=>rfl
  |cons f lP=> simp only [amJ,am1,amO] at hm;obtain⟨_,_,_,_,h3⟩:=hm;simp at h3
 |[],j,_::_,lP,h,_,_=>by simp [AF] at h
 |c::cs,j,[],lP,h,_,_=>by simp [AF] at h
 |c::cs,j,(o,ft,z)::fs,lP,h,hm,hn=>by
  cases lP with
  |nil=>simp at hm
  |cons f lP=>
   simp only [amJ,am1,amO] at hm;obtain⟨p,U,ls,Z,h3⟩:=hm;simp only [pure,ag,List.cons.injEq] at h3;obtain⟨rfl,rfl⟩:=h3;rw [aO] at U;obtain⟨inf,akV,e⟩:=U;simp only [ak] at e;obtain⟨rfl,rfl,rfl⟩:=e;simp only [AF] at h;split at h
   ·rename_i ho;split at h
    ·rename_i i hi;split at h
     ·rename_i k;split at h
      ·rename_i hk;exact⟨f,lP,k,i,rfl,aq ho,hn f ad,rfl,cJ f.type i hi,of_decide_eq_true hk,GU cJ h Z (fun g hg=>hn g (by simp [hg]))⟩
      ·simp at h
     ·simp at h
    ·simp at h
   ·simp at h
theorem LW {h:Array Obj} {r:Row} {v:W} {u:Value} {a:V} (hv:VR E h v u) (hc:R9 r v=some a):Fp E.ro h r (dec (a.den E.ρ)) u:=by
 cases r with
 |one c=>exact (kI hv hc).rd (oQ hc)
 |many cs=>
  unfold R9 at hc;simp only at hc;split at hc
  ·rename_i vs;simp only [VR] at hv;obtain⟨us,rfl,GJ⟩:=hv;have hw:=tk (ρ:=E.ρ) hc;refine⟨hw,us,rfl,?_⟩;have hR:=tl GJ hc
   have key: ∀{ks:List CK} {j:Nat} {ws:List Value},dP E.ro h ks j (dec (a.den E.ρ)) ws->(∀i c,ks[i]?=some c->oa c ((dec (a.den E.ρ)).hd (j+i)))->HB E.ro h ks j (dec (a.den E.ρ)) ws:=by
    intro ks
    induction ks with
    |nil=>intro j ws hh _; exact hh
    |cons c ks ih=>
     intro j ws hh tR;obtain⟨x,xs,rfl,g1,g2⟩:=hh
     exact⟨x,xs,rfl,g1.rd (tR 0 c rfl),ih g2 fun i c' hi=>by
      have:=tR (i+1) c' hi;rw [show j+(i+1)=j+1+i by omega] at this
      exact this⟩
   refine key hR fun i c hi=>?_;obtain⟨_,w2,w3⟩:=hw;have eu:i<cs.length:=(aW.1 hi).1;refine w3 i c _ hi ?_;unfold D.hd;rw [ay,aM J];rfl
  ·simp at hc
theorem Fp.cell {h:Array Obj} {r:Row} {d:D} {u:Value} {x:V} (hh:Fp E.ro h r d u) (hd:dec (x.den E.ρ)=d):VR E h (L3 r x) u:=by
 subst hd
 cases r with
 |one c=> have hh:Rd E.ro h c _ u:=hh;exact np.2 hh.cell
 |many cs=>
  obtain⟨_,us,rfl,U⟩:=hh;simp only [L3,VR];refine⟨us,rfl,nz.2 ?_⟩
  have key: ∀{ks:List CK} {j:Nat} {ws:List Value},HB E.ro h ks j (dec (x.den E.ρ)) ws->dP E.ro h ks j (dec (x.den E.ρ)) ws:=by
   intro ks
   induction ks with
   |nil=>intro j ws hh; exact hh
   |cons c ks ih=> intro j ws hh;obtain⟨y,ys,rfl,g1,g2⟩:=hh;exact⟨y,ys,rfl,g1.cell,ih g2⟩
  exact key U
theorem An {tt:TT} (cJ:ep P tt) {h:Array Obj} {ty t:Nat} {k:W} {uk:Value} {a:V} {ie:TI} (hk:VR E h k uk) (hm:mapKey tt ty t k=some (a,ie)) :
 ∃kt et,P.underlying ty=some (.map kt et)/\aaU P kt (mapOf t).1/\ma P et ie/\Fp E.ro h (mapOf t).1 (dec (a.den E.ρ)) uk:=by
 unfold mapKey at hm;split at hm
 ·grind
 ·rename_i ti fL;split at hm
  ·rename_i kt et yO;split at hm
   ·grind
   ·rename_i ki Yb;split at hm
    ·rename_i sK;split at hm
     ·grind
     ·rename_i ie' kA;split at hm
      ·grind
      ·rename_i a0 ha0;simp only [ag,ak] at hm;obtain⟨rfl,rfl⟩:=hm;have hu:=sc (cJ ty ti fL) yO;refine⟨kt,et,hu,?_,cJ et ie' kA,?_⟩
       ·generalize hr:(mapOf t).1=r at sK
        have nK:(∃c,r= .one c/\ID c)\/∃cs,r= .many cs/\cs≠[]:=by
         rw [<- hr];unfold mapOf;split<;>first |exact .inl ⟨_,rfl,.inl ⟨_,rfl⟩⟩|exact .inl ⟨_,rfl,.inr rfl⟩|exact .inr ⟨_,rfl,ad⟩
        rcases nK with ⟨c,rfl,hc⟩|⟨cs,rfl,fZ⟩
        ·simp only [XH,decide_eq_true_eq] at sK;refine⟨hc,?_⟩;rcases hc with ⟨q,rfl⟩|rfl
         ·exact⟨_,oz (cJ kt ki Yb) sK,q,rfl⟩
         ·exact⟨_,fB (cJ kt ki Yb) sK,rfl⟩
        ·simp only [XH] at sK;split at sK
         ·rename_i fs hfs;split at sK
          ·rename_i hq;have fL:=cJ kt ki Yb;have he:=fL.eqs hq;obtain⟨lP,hu,hm⟩:=sa fL hfs;unfold RG at he;rw [hu] at he;simp only [an,amk,aR,bne_iff_ne,ne_eq] at he;obtain⟨⟨U,Z⟩,h3⟩:=he;have hf:P.fieldsOf kt=lP:=by simp [Program.fieldsOf,hu]
           refine⟨fZ,by rw [hf]; exact hu,U,?_⟩;rw [hf];exact GU cJ sK hm (fun f hf=>(h3 f hf).1)
          ·simp at sK
         ·simp at sK
       ·rw [lM,bB];exact LW hk ha0
    ·grind
  ·grind
theorem Am [bI] {H:Hp} (r:bP E H w) {id t:Nat} {e:V} (hl:H.get id=some (.jM e t)): ∃bL c',w.heap[(E.θ id).1]?=some (.map bL c')/\jO E.ro w.heap t (dec (e.den E.ρ)).l bL.toList:=
 (r.live id _ hl).2.1
theorem vR {ρ:Nat->Int} (e a:V):(GP e a).den ρ=((V.op .KO e a).den ρ == (V.lit 0).den ρ):=by
 unfold GP;split
 ·split
  ·simp only [SB.den,V.den,e9.den,bB]
   grind
  ·rfl
 ·rfl
theorem Oz [bI] {tt:TT} (cJ:ep P tt) {s s':St} (r:bP E s.h w) (hp:bW E.ρ s.pc) {ty id t:Nat} {m k v:W} {e:V} {um uk:Value} {ok:Bool} (hm:VR E w.heap m um) (hk:VR E w.heap k uk) (mE:wO m s.h=some (id,e,t)) (h:(zj tt ty k ok e t s).leaf E.ρ=some (v,s')) :
 s'.bD=s.bD/\s'.h=s.h/\bW E.ρ s'.pc/\∃x,(Instr.lookup ty um uk ok).run P w= .ok x w/\VR E w.heap v x:=by
 obtain⟨rfl,hl⟩:=xq mE
 unfold zj at h;split at h
 ·grind [T.leaf]
 ·rename_i a ie Y';obtain⟨kt,et,hu,hT,kA,TL⟩:=An cJ hk Y';split at h
  ·grind [T.leaf]
  ·rename_i z hz;obtain⟨u0,z1,z2⟩:=zM (P:=P) (w:=w) (E:=E) kA hz;obtain⟨bL,c',g1,g2⟩:=Am r hl;have hg:=ez (P:=P) g1 ad;simp only [VR] at hm;obtain⟨rfl,hid⟩:=hm;have hf:=D0 (w:=w) hT TL g2;obtain⟨fA,fj,U⟩:=cH hp h;rw [vR] at U;simp only [V.den,e9.den] at U;rcases hf with ⟨q1,q2,_,_⟩|⟨j,x,en,q1,q2,q3,q4,q5,_,_⟩
   ·rw [q1] at U;have:=bC U;simp only [ak] at this;obtain⟨rfl,rfl⟩:=this;refine⟨rfl,rfl,fj,(if ok then .tuple #[u0,.bool false] else u0),?_,?_⟩
    ·cases ok<;>simp [Instr.lookup,run_underlying hu,hg,lZ hT TL,q2,z1]
    ·cases ok
     ·exact z2
     ·simp only [if_true,VR,cB];simp_all [z2,SB.den]
   ·rw [q1] at U;have:=bC U;simp only [ak] at this;obtain⟨rfl,rfl⟩:=this
    have Fh:VR E w.heap (L3 (mapOf t).2 (.op .Ds e a)) en.val:=by refine q3.cell ?_;simp only [V.den,e9.den,bB,q1,az]
    refine⟨rfl,rfl,fj,(if ok then .tuple #[en.val,.bool true] else en.val),?_,?_⟩
    ·cases ok<;>simp [Instr.lookup,run_underlying hu,hg,lZ hT TL,q4]
    ·cases ok
     ·grind
     ·simp only [if_true,VR,cB]
      grind [SB.den]
theorem T5 [bI] {tt:TT} (cJ:ep P tt) {s s':St} (r:bP E s.h w) {ty id t:Nat} {m k x v:W} {e:V} {um uk ux:Value} (hm:VR E w.heap m um) (hk:VR E w.heap k uk) (hx:VR E w.heap x ux) (mE:wO m s.h=some (id,e,t)) (h:(Ov tt ty id k x e t s).leaf E.ρ=some (v,s')) :
 s'.bD=s.bD/\s'.pc=s.pc/\v=W.undef/\∃w',(Instr.mapUpdate ty um uk ux).run P w= .ok () w'/\eM E s.h w E s'.h w'/\bP E s'.h w':=by
 obtain⟨rfl,hl⟩:=xq mE
 unfold Ov at h;split at h
 ·grind [T.leaf]
 ·rename_i a ie Y';obtain⟨kt,et,hu,hT,kA,TL⟩:=An cJ hk Y';split at h
  ·grind [T.leaf]
  ·rename_i b Y;have:=bC h;simp only [ak] at this;obtain⟨rfl,rfl⟩:=this;have hrx:=LW hx Y;obtain⟨bL,c',g1,g2⟩:=Am r hl;have hg:=ez (P:=P) g1 ad;simp only [VR] at hm;obtain⟨rfl,hid⟩:=hm;refine⟨rfl,rfl,rfl,?_⟩
   have pb:dec ((V.op .xo e (ew a b)).den E.ρ)=dL (gW (dec (e.den E.ρ)).l (dec (a.den E.ρ)) (dec (b.den E.ρ))):=by simp only [ew,V.den,e9.den,bB]
   rcases D0 (w:=w) hT TL g2 with ⟨q1,q2,q3,_⟩|⟨j,y,en,q1,q2,q3,q4,q5,q6,_⟩
   ·refine⟨_,?_,gb r hl (.jM (.op .xo e (ew a b)) t) (.map (bL.push { key:=uk,val:=ux,born:=c' }) (c'+1)) ?_⟩
    ·simp [Instr.mapUpdate,run_underlying hu,hg,lZ hT TL,q2,gk (P:=P) g1]
    ·intro h' hh kp;simp only [OR];refine⟨_,_,hh,?_⟩;rw [pb,bM,q3,Array.toList_push];exact jO.push (TL.bX kp.ro kp.Ba) (hrx.bX kp.ro kp.Ba) (g2.bX kp.ro kp.Ba)
   ·have hkt:(Instr.keyThatStays (((bL[j]?).map (·.key)).getD uk) uk).run P w= .ok uk w:=by
     have q2':=q2;rw [br] at q2';simp only [q2',bw,az,Instr.keyThatStays];simp_all
    refine⟨_,?_,gb r hl (.jM (.op .xo e (ew a b)) t) (.map (bL.modify j fun e=>{ e with key:=uk,val:=ux }) c') ?_⟩
    ·simp [Instr.mapUpdate,run_underlying hu,hg,lZ hT TL,q4,hkt,gk (P:=P) g1]
    ·intro h' hh kp;simp only [OR];refine⟨_,_,hh,?_⟩;rw [pb,bM,q6,xp bL j en _ q2];exact jO.set (TL.bX kp.ro kp.Ba) (hrx.bX kp.ro kp.Ba) (g2.bX kp.ro kp.Ba) q2
theorem Hb [bI] {tt:TT} (cJ:ep P tt) {s s':St} (r:bP E s.h w) (hp:bW E.ρ s.pc) {ty:Nat} {m k x v:W} {um uk ux:Value} (hm:VR E w.heap m um) (hk:VR E w.heap k uk) (hx:VR E w.heap x ux) (h:(I5 tt ty m k x s).leaf E.ρ=some (v,s')) :
 s'.bD=s.bD/\bW E.ρ s'.pc/\v=W.undef/\∃w' E',(Instr.mapUpdate ty um uk ux).run P w= .ok () w'/\eM E s.h w E' s'.h w'/\bP E' s'.h w':=by
 unfold I5 at h;obtain⟨vs,U,fA,E1,fj,f,q,g⟩:=pq rfl r hp h;have hρ:=f.ρ;rw [<- hρ] at fj g;have hv:=q [ux] (by simp only [cB]; exact⟨ux,[],rfl,hx,rfl⟩);split at g
 ·rename_i x1;simp only [cB] at hv;obtain⟨u1,us1,e1,hx1,e2⟩:=hv;subst e2;simp only [List.cons.injEq,and_true] at e1;subst e1;split at g
  ·rename_i id e t mE
   obtain⟨a1,a2,a3,w',a4,a5,a6⟩:=T5 cJ (s:={ s with h:=U,pc:=fA }) f.rel (VR.bX (f.ei.keeps r) _ _ hm) (VR.bX (f.ei.keeps r) _ _ hk) hx1 mE g;exact⟨a1,by rw [a2,<- hρ]; exact fj,a3,w',E1,a4,f.ei.trans a5,a6⟩
  grind [T.leaf]
 grind [T.leaf]
theorem Ua [bI] {tt:TT} (cJ:ep P tt) {s s':St} (r:bP E s.h w) {ty id t ts:Nat} {m k v:W} {e:V} {um uk:Value} (hm:VR E w.heap m um) (hk:VR E w.heap k uk) (mE:wO m s.h=some (id,e,t)) (h:(OF tt ty id k e t s).leaf E.ρ=some (v,s')) (tr:Nat) :
 s'.bD=s.bD/\s'.pc=s.pc/\v=W.undef/\∃w',(Builtin.delete_ #[ty,ts] tr #[um,uk]).run P w= .ok (.tuple #[]) w'/\eM E s.h w E s'.h w'/\bP E s'.h w':=by
 obtain⟨rfl,hl⟩:=xq mE
 unfold OF at h;split at h
 ·grind [T.leaf]
 ·rename_i a ie Y';obtain⟨kt,et,hu,hT,kA,TL⟩:=An cJ hk Y';have:=bC h;simp only [ak] at this;obtain⟨rfl,rfl⟩:=this;obtain⟨bL,c',g1,g2⟩:=Am r hl;have hg:=ez (P:=P) g1 ad;simp only [VR] at hm;obtain⟨rfl,hid⟩:=hm;refine⟨rfl,rfl,rfl,?_⟩
  have pb:dec ((V.op .KP e a).den E.ρ)=dL (Ff (dec (e.den E.ρ)).l (dec (a.den E.ρ))):=by simp only [V.den,e9.den,bB]
  rcases D0 (w:=w) hT TL g2 with ⟨q1,q2,_,q3⟩|⟨j,y,en,q1,q2,q3,q4,q5,_,q6⟩
  ·refine⟨_,?_,gb r hl (.jM (.op .KP e a) t) (.map bL c') ?_⟩
   ·simp [Builtin.delete_,run_underlying hu,hg,lZ hT TL,q2,gk (P:=P) g1]
   ·intro h' hh kp;simp only [OR];refine⟨_,_,hh,?_⟩;rw [pb,bM,q3];exact g2.bX kp.ro kp.Ba
  ·refine⟨_,?_,gb r hl (.jM (.op .KP e a) t) (.map (bL.eraseIdxIfInBounds j) c') ?_⟩
   ·simp [Builtin.delete_,run_underlying hu,hg,lZ hT TL,q4,gk (P:=P) g1]
   ·intro h' hh kp;simp only [OR];refine⟨_,_,hh,?_⟩;have eu:j<bL.size:=by have:=(aW.1 q2).1; simpa using this
    have:(bL.eraseIdxIfInBounds j).toList=bL.toList.eraseIdx j:=by simp_all
    rw [this,pb,bM,q6];exact jO.erase (g2.bX kp.ro kp.Ba)
end
section
variable {P:Program} {E:En} {w:World}
theorem D3 {m:W} {h:Hp} {id t:Nat} {e:V} {eR:List Nat} {ov:List (V×W)} (hm:D4 m h=some (id,e,t,eR,ov)):m= .map id/\h.get id=some (.qY e t eR ov):=by
 unfold D4 at hm;split at hm
 ·split at hm
  ·rename_i o ho;split at hm
   ·simp only [ag,ak] at hm;obtain⟨rfl,rfl,rfl,rfl,rfl⟩:=hm;exact⟨rfl,ho⟩
   ·simp at hm
  ·simp at hm
 ·simp at hm
theorem G8 {tt:TT} (cJ:ep P tt) {h:Array Obj} {ty:Nat} {k:W} {uk:Value} {x:V} {ie:TI} (hk:VR E h k uk) (hm:IX tt ty k=some (x,ie)) :
 ∃kt et dt,P.underlying ty=some (.map kt et)/\P.underlying kt=some dt/\B6 dt (.int .i64)/\ma P et ie/\uk= .int .i64 (x.den E.ρ):=by
 unfold IX at hm;split at hm
 ·simp at hm
 ·rename_i ti fL;split at hm
  ·rename_i kt et yO;split at hm
   ·simp at hm
   ·rename_i ki Yb;split at hm
    ·rename_i sK;split at hm
     ·simp at hm
     ·rename_i ie' kA;split at hm
      ·split at hm
       ·rename_i kk y akU;simp only [ag,ak] at hm;obtain⟨rfl,rfl⟩:=hm;subst akU;simp only [VR] at hk;exact⟨kt,et,_,sc (cJ ty ti fL) yO,oz (cJ kt ki Yb) sK,⟨_,rfl⟩,cJ et ie' kA,hk⟩
       ·simp at hm
      ·simp at hm
    ·simp at hm
  ·simp at hm
theorem rm (ρ:Nat->Int) (x:V):dec ((mW x).den ρ)= .i (x.den ρ):=by
 unfold mW;split
 ·simp only [V.den,bB]
 ·simp only [V.den,e9.den,bB]
theorem xF {α:Type} {ρ:Nat->Int} {x:V} {k:Option W->St->T α} {a:α}: ∀{ov:List (V×W)} {s:St},bW ρ s.pc->(sY x ov s k).leaf ρ=some a->
 ∃dZ,bW ρ dZ/\(k (lI ρ (x.den ρ) ov) { s with pc:=dZ }).leaf ρ=some a
 |[],s,hp,h=> ⟨s.pc,hp,h⟩
 |(y,v)::l,s,hp,h=>by
  simp only [sY] at h;split at h
  ·rename_i he;have:=cO _ _ he;subst this;refine⟨s.pc,hp,?_⟩;simp only [lI,if_true];exact h
  ·obtain⟨fA,fj,U⟩:=cH hp h;rw [gw] at U;by_cases he:x.den ρ=y.den ρ
   ·simp only [he,beq_self_eq_true] at U;refine⟨fA,fj,?_⟩;simp only [lI,ah he.symm];exact U
   ·have hf:(x.den ρ == y.den ρ)=false:=by simp [he]
    rw [hf] at U;obtain⟨jw,jl,Z⟩:=xF (s:={ s with pc:=fA }) fj U;refine⟨jw,jl,?_⟩;simp only [lI,af (fun q=>he (Eq.symm q))];exact Z
theorem G6 {α:Type} {ρ:Nat->Int} {x:V} {v:W} {a:α}: ∀{ov:List (V×W)} {s:St} {k:Option (List (V×W))->St->T α},bW ρ s.pc->(IW x v ov s k).leaf ρ=some a->
 ∃dZ,bW ρ dZ/\((lI ρ (x.den ρ) ov=none/\(k none { s with pc:=dZ }).leaf ρ=some a)\/
  ∃iD,(∃u,lI ρ (x.den ρ) ov=some u)/\((∀n,lI ρ n iD=if n=x.den ρ then some v else lI ρ n ov)/\iD.map (·.1)=ov.map (·.1))/\(k (some iD) { s with pc:=dZ }).leaf ρ=some a)
 |[],s,k,hp,h=> ⟨s.pc,hp,.inl ⟨rfl,h⟩⟩
 |(y,u)::l,s,k,hp,h=>by
  simp only [IW] at h
  have here:x.den ρ=y.den ρ->(∃u',lI ρ (x.den ρ) ((y,u)::l)=some u')/\((∀n,lI ρ n ((y,v)::l)=if n=x.den ρ then some v else lI ρ n ((y,u)::l))/\((y,v)::l).map (·.1)=((y,u)::l).map (·.1)):=by
   intro he;refine⟨⟨u,by simp only [lI,ah he.symm]⟩,fun n=>?_,rfl⟩;simp only [lI];by_cases hn:n=x.den ρ
   ·rw [ah hn,ah (by rw [hn,he])]
   ·rw [af hn,af (fun q=>hn (by rw [he,q])),af (fun q=>hn (by rw [he,q]))]
  split at h
  ·rename_i he;have:=cO _ _ he;subst this;exact⟨s.pc,hp,.inr ⟨_,(here rfl).1,(here rfl).2,h⟩⟩
  ·obtain⟨fA,fj,U⟩:=cH hp h;rw [gw] at U;by_cases he:x.den ρ=y.den ρ
   ·have ht:(x.den ρ == y.den ρ)=true:=by simp [he]
    rw [ht] at U;exact⟨fA,fj,.inr ⟨_,(here he).1,(here he).2,U⟩⟩
   ·have hf:(x.den ρ == y.den ρ)=false:=by simp [he]
    rw [hf] at U;obtain⟨jw,jl,Z⟩:=G6 (s:={ s with pc:=fA }) fj U;have fZ: ¬y.den ρ=x.den ρ:=fun q=>he q.symm;refine⟨jw,jl,?_⟩;rcases Z with ⟨g1,g2⟩|⟨iD,⟨u',g1⟩,⟨g2,g4⟩,g3⟩
    ·exact .inl ⟨by simp only [lI,af fZ]; exact g1,g2⟩
    ·refine .inr ⟨_,⟨u',by simp only [lI,af fZ]; exact g1⟩,⟨fun n=>?_,by simp only [ax,g4]⟩,g3⟩;simp only [lI];by_cases hy:y.den ρ=n
     ·rw [ah hy,ah hy,af (fun q=>fZ (by rw [hy,q]))]
     ·rw [af hy,af hy,g2 n]
theorem yZ {h:Array Obj} {B t:Nat} {eR:List Nat} {ov:List (V×W)} {dt:TypeDesc} (hd:B6 dt (.int .i64)) (n:Int): ∀{ds:List D} {bL:List MapEntry} {i:Nat},eI E h B t eR ov ds bL->
 (dH ds (.i n)=none/\D.i n∉ds.map jd/\Instr.findNow dt (.int .i64 n) bL i=some none/\(∀v,gW ds (.i n) v=ds++ [.p (.i n) v]))\/
 (∃j x e,dH ds (.i n)=some x/\D.i n∈ds.map jd/\bL[j]?=some e/\ds[j]?=some (.p (.i n) x)/\e.key= .int .i64 n/\(match lI E.ρ n ov with |some v=>VR E h v e.val|none=>pH E h B t eR (.i n) x e.val)/\
  Instr.findNow dt (.int .i64 n) bL i=some (some (i+j,e.val))/\(∀n',Instr.sameBits (n'+1) e.key (.int .i64 n)=true)/\(∀v,gW ds (.i n) v=ds.set j (.p (.i n) v)))
 |[],bL,i,he=>by simp only [eI] at he;subst he;exact .inl ⟨rfl,ad,by simp [Instr.findNow],fun _=>rfl⟩
 |d::ds,bL,i,he=>by
  obtain⟨e,r,m,rfl,U,Z,h3,h4⟩:=he;obtain⟨g1,g2⟩:=yE (ro:=E.ro) (h:=h) (c:=.int .i64) (.inl ⟨_,rfl⟩) hd (.int .i64 n) (.int .i64 m);have hk:jd d= .i m:=by rw [U]; rfl
  rw [<- Z] at g1 g2;by_cases yP:D.i m=D.i n
  ·have hmn:m=n:=by simpa using yP
   subst hmn;have g1':Instr.sameNow dt (.int .i64 m) e.key=some true:=by rw [g1,decide_eq_true rfl]
   refine .inr ⟨0,Fm d,e,by simp only [dH,hk,if_true],by simp [hk],rfl,by rw [<- U]; rfl,Z,h3,by simp [Instr.findNow,g1'],g2 rfl,fun v=>by simp only [gW,hk,if_true,amP]⟩
  ·have g1':Instr.sameNow dt (.int .i64 n) e.key=some false:=by rw [g1,decide_eq_false (fun q=>yP q.symm)]
   have fZ: ¬jd d= .i n:=by rw [hk]; exact yP
   rcases yZ (i:=i+1) hd n h4 with ⟨q1,q2,q3,q4⟩|⟨j,x,e',q1,q2,q3,q4,q5,q6,q7,q8,q9⟩
   ·refine .inl ⟨by simp only [dH,af fZ,q1],?_,by simp [Instr.findNow,g1',q3],fun v=>by simp only [gW,af fZ,q4,aP]⟩;simp only [ax,aw,not_or];exact⟨fun q=>fZ q.symm,q2⟩
   ·refine .inr ⟨j+1,x,e',by simp only [dH,af fZ,q1],by simp only [ax,aw]; exact .inr q2,by simpa using q3,by simpa using q4,q5,q6,?_,q8,fun v=>by simp only [gW,af fZ,q9,amQ]⟩;simp only [Instr.findNow,g1',q7]; congr 3; omega
theorem Ii {ρ:Nat->Int} {n:Int} {v:W}: ∀{ov:List (V×W)},lI ρ n ov=some v->n∈ov.map fun p=>p.1.den ρ
 |[],h=>by simp [lI] at h
 |(x,u)::l,h=>by
  simp only [lI] at h;simp only [ax,aw];split at h
  ·rename_i he; exact .inl he.symm
  ·exact .inr (Ii h)
theorem Ih {ρ:Nat->Int} {n:Int}: ∀{ov:List (V×W)},lI ρ n ov=none->n∉ov.map fun p=>p.1.den ρ
 |[],_=>by simp
 |(x,u)::l,h=>by
  simp only [lI] at h;simp only [ax,aw,not_or];split at h
  ·simp at h
  ·rename_i he; exact⟨fun q=>he q.symm,Ih h⟩
theorem zG.at {ρ:Nat->Int} {ds:List D} {ov:List (V×W)} (h:zG ρ ds ov) {n:Int} {v:W} (hv:lI ρ n ov=some v):D.i n∈ds.map jd:=by obtain⟨p,hp,he⟩:=aT.1 (Ii hv);rw [<- he];exact h.2.1 p hp
theorem za [bI] {H:Hp} (r:bP E H w) {id t:Nat} {e:V} {eR:List Nat} {ov:List (V×W)} (hl:H.get id=some (.qY e t eR ov)) :
 zG E.ρ (dec (e.den E.ρ)).l ov/\∃bL c',w.heap[(E.θ id).1]?=some (.map bL c')/\eI E w.heap (E.θ id).1 t eR ov (dec (e.den E.ρ)).l bL.toList:=
 (r.live id _ hl).2.1
theorem Oy [bI] {tt:TT} (cJ:ep P tt) {s s':St} (r:bP E s.h w) (hp:bW E.ρ s.pc) {ty id t:Nat} {eR:List Nat} {ov:List (V×W)} {m k v:W} {e:V} {um uk:Value} {ok:Bool} (hm:VR E w.heap m um) (hk:VR E w.heap k uk) (mE:D4 m s.h=some (id,e,t,eR,ov)) (h:(zi tt ty k ok e ov s).leaf E.ρ=some (v,s')) :
 s'.bD=s.bD/\s'.h=s.h/\bW E.ρ s'.pc/\∃x,(Instr.lookup ty um uk ok).run P w= .ok x w/\VR E w.heap v x:=by
 obtain⟨rfl,hl⟩:=D3 mE
 unfold zi at h;split at h
 ·simp [T.leaf] at h
 ·rename_i x ie Y';obtain⟨kt,et,dt,hu,xC,jP,kA,rfl⟩:=G8 cJ hk Y';split at h
  ·simp [T.leaf] at h
  ·rename_i z hz;obtain⟨u0,z1,z2⟩:=zM (P:=P) (w:=w) (E:=E) kA hz;obtain⟨g0,bL,c',g1,g2⟩:=za r hl;have hg:=ez (P:=P) g1 ad;simp only [VR] at hm;obtain⟨rfl,hid⟩:=hm;have hf:=yZ (i:=0) jP (x.den E.ρ) g2;obtain⟨fA,fj,U⟩:=xF hp h
   cases ho:lI E.ρ (x.den E.ρ) ov with
   |some v1=>
    rw [ho] at U;have:=bC U;simp only [ak] at this;obtain⟨rfl,rfl⟩:=this;rcases hf with ⟨q1,q2,_,_⟩|⟨j,y,en,q1,q2,q3,_,_,q6,q7,_,_⟩
    ·exact absurd (g0.at ho) q2
    ·rw [ho] at q6;refine⟨rfl,rfl,fj,(if ok then .tuple #[en.val,.bool true] else en.val),?_,?_⟩
     ·cases ok<;>simp [Instr.lookup,run_underlying hu,hg,eA xC jP,fk xC q7]
     ·cases ok
      ·exact q6
      ·simp only [if_true,VR,cB];exact⟨[en.val,.bool true],rfl,_,_,rfl,q6,_,_,rfl,by simp [SB.den],rfl⟩
   |none=>
    rw [ho] at U;obtain⟨jw,jl,Z⟩:=cH fj U;rw [vR] at Z;simp only [V.den,e9.den,rm] at Z;rcases hf with ⟨q1,_,q2,_⟩|⟨j,y,en,q1,_⟩
    ·rw [q1] at Z;have:=bC Z;simp only [ak] at this;obtain⟨rfl,rfl⟩:=this;refine⟨rfl,rfl,jl,(if ok then .tuple #[u0,.bool false] else u0),?_,?_⟩
     ·cases ok<;>simp [Instr.lookup,run_underlying hu,hg,eA xC jP,fk xC q2,z1]
     ·cases ok
      ·exact z2
      ·simp only [if_true,VR,cB];exact⟨[u0,.bool false],rfl,_,_,rfl,z2,_,_,rfl,by simp [SB.den],rfl⟩
    ·rw [q1] at Z;simp [T.leaf] at Z
theorem yd [bI] {H:Hp} (r:bP E H w) {id:Nat} {o:dG} (hl:H.get id=some o) (ao:dG) (o':Obj)
 (ho: ∀h',h'[(E.θ id).1]?=some o'->fg E w.heap E h'->(∀B key,HdK E w.heap E h' B key)->OR E h' id ao) :
 eM E H w E (H.put id ao) { w with heap:=w.heap.setIfInBounds (E.θ id).1 o' }/\bP E (H.put id ao) { w with heap:=w.heap.setIfInBounds (E.θ id).1 o' }:=by
 have fe:=fF r hl
 have k7: ∀b,b≠(E.θ id).1->({ w with heap:=w.heap.setIfInBounds (E.θ id).1 o' }:World).heap[b]?=w.heap[b]?:=fun b Y=>by
  grind
 refine De r hl ao ad k7 ⟨rfl,rfl,rfl⟩ (ho _ ?_ (jY r hl k7) fun B key=>r.TU rfl (fun b _ hn=>k7 b fun e=>hn id o hl e.symm) B key)
 grind
theorem eI.set {h:Array Obj} {B t:Nat} {eR:List Nat} {ov iD:List (V×W)} {n:Int} {v:W} {ux:Value} (hx:VR E h v ux) (hv: ∀m,lI E.ρ m iD=if m=n then some v else lI E.ρ m ov): ∀{ds:List D} {bL:List MapEntry} {j:Nat} {e:MapEntry},
 (ds.map jd).Nodup->eI E h B t eR ov ds bL->bL[j]?=some e->e.key= .int .i64 n->eI E h B t eR iD ds (bL.set j { e with key:=.int .i64 n,val:=ux })
 |[],bL,j,e,_,he,hj,_=>by simp only [eI] at he; subst he; simp at hj
 |d::ds,bL,0,e,Bv,he,hj,hk=>by
  obtain⟨e0,r,m,rfl,U,Z,h3,h4⟩:=he;simp at hj;subst hj;have hm:m=n:=by rw [Z] at hk; simpa using hk
  subst hm;simp only [amP];refine⟨_,r,m,rfl,U,rfl,?_,?_⟩
  ·rw [hv,ah rfl]; exact hx
  ·simp only [ax,ams] at Bv;have hk:jd d= .i m:=by rw [U]; rfl
   rw [hk] at Bv;exact eI.other hv Bv.1 h4
 |d::ds,bL,j+1,e,Bv,he,hj,hk=>by
  obtain⟨e0,r,m,rfl,U,Z,h3,h4⟩:=he;simp only [amQ];simp only [ax,ams] at Bv;have Yc:jd d= .i m:=by rw [U]; rfl
  have Ye:r[j]?=some e:=by simpa using hj
  refine⟨e0,_,m,rfl,U,Z,?_,eI.set hx hv Bv.2 h4 Ye hk⟩
  have fZ:m≠n:=by rintro rfl;rw [Yc] at Bv;exact Bv.1 (eI.Cn h4 Ye hk)
  rw [hv,af fZ];exact h3
where
 eI.other {h:Array Obj} {B t:Nat} {eR:List Nat} {ov iD:List (V×W)} {n:Int} {v:W} (hv: ∀m,lI E.ρ m iD=if m=n then some v else lI E.ρ m ov): ∀{ds:List D} {bL:List MapEntry},D.i n∉ds.map jd->eI E h B t eR ov ds bL->eI E h B t eR iD ds bL
 |[],_,_,he=>he
 |d::ds,_,hn,⟨e0,r,m,h0,U,Z,h3,h4⟩=>by
  simp only [ax,aw,not_or] at hn;have Yc:jd d= .i m:=by rw [U]; rfl
  rw [Yc] at hn;refine⟨e0,r,m,h0,U,Z,?_,eI.other hv hn.2 h4⟩;rw [hv,af (fun q=>hn.1 (by rw [q]))];exact h3
 eI.Cn {h:Array Obj} {B t:Nat} {eR:List Nat} {ov:List (V×W)} {n:Int}: ∀{ds:List D} {bL:List MapEntry} {j:Nat} {e:MapEntry},eI E h B t eR ov ds bL->bL[j]?=some e->e.key= .int .i64 n->D.i n∈ds.map jd
 |[],bL,j,e,he,hj,_=>by simp only [eI] at he; subst he; simp at hj
 |d::ds,bL,0,e,he,hj,hk=>by
  obtain⟨e0,r,m,rfl,U,Z,h3,h4⟩:=he;simp at hj;subst hj;rw [Z] at hk;have hm:m=n:=by simpa using hk
  subst hm;rw [U];simp [jd]
 |d::ds,bL,j+1,e,he,hj,hk=>by obtain⟨e0,r,m,rfl,U,Z,h3,h4⟩:=he;simp only [ax,aw];exact .inr (eI.Cn h4 (by simpa using hj) hk)
theorem eI.push {h:Array Obj} {B t:Nat} {eR:List Nat} {ov iD:List (V×W)} {n:Int} {v:W} {ux:Value} {c:Nat} {x:D} (hx:VR E h v ux) (hv: ∀m,lI E.ρ m iD=if m=n then some v else lI E.ρ m ov): ∀{ds:List D} {bL:List MapEntry},D.i n∉ds.map jd->eI E h B t eR ov ds bL->
 eI E h B t eR iD (ds++ [.p (.i n) x]) (bL++ [{ key:=.int .i64 n,val:=ux,born:=c }])
 |[],bL,_,he=>by simp only [eI] at he;subst he;refine⟨_,[],n,rfl,rfl,rfl,?_,rfl⟩;rw [hv,ah rfl]; exact hx
 |d::ds,bL,hn,he=>by
  obtain⟨e0,r,m,rfl,U,Z,h3,h4⟩:=he;simp only [ax,aw,not_or] at hn;have Yc:jd d= .i m:=by rw [U]; rfl
  rw [Yc] at hn;simp only [aP];refine⟨e0,_,m,rfl,U,Z,?_,eI.push hx hv hn.2 h4⟩;rw [hv,af (fun q=>hn.1 (by rw [q]))];exact h3
theorem BD [bI] {tt:TT} (cJ:ep P tt) {s s':St} (r:bP E s.h w) (hp:bW E.ρ s.pc) {ty id t:Nat} {eR:List Nat} {ov:List (V×W)} {m k x v:W} {e:V} {um uk ux:Value} (hm:VR E w.heap m um) (hk:VR E w.heap k uk) (hx:VR E w.heap x ux) (mE:D4 m s.h=some (id,e,t,eR,ov)) (h:(zh tt ty id k x e t eR ov s).leaf E.ρ=some (v,s')) :
 s'.bD=s.bD/\bW E.ρ s'.pc/\v=W.undef/\∃w',(Instr.mapUpdate ty um uk ux).run P w= .ok () w'/\eM E s.h w E s'.h w'/\bP E s'.h w':=by
 obtain⟨rfl,hl⟩:=D3 mE
 unfold zh at h;split at h
 ·simp [T.leaf] at h
 ·rename_i a ie Y';obtain⟨kt,et,dt,hu,xC,jP,kA,rfl⟩:=G8 cJ hk Y';obtain⟨g0,bL,c',g1,g2⟩:=za r hl;have hg:=ez (P:=P) g1 ad;simp only [VR] at hm;obtain⟨rfl,hid⟩:=hm;have hf:=yZ (i:=0) jP (a.den E.ρ) g2;obtain⟨fA,fj,U⟩:=G6 hp h;rcases U with ⟨ho,U⟩|⟨iD,⟨u',ho⟩,⟨hv,Lb⟩,U⟩
  ·obtain⟨jw,jl,Z⟩:=cH fj U;rw [vR] at Z;simp only [V.den,e9.den,rm] at Z;rcases hf with ⟨q1,q0,q2,q3⟩|⟨j,y,en,q1,_⟩
   ·rw [q1] at Z;have:=bC Z;simp only [ak] at this;obtain⟨rfl,rfl⟩:=this;refine⟨rfl,jl,rfl,_,?_,yd r hl (.qY (.op .xo e (ew (mW a) (.ej (.i 0)))) t eR ((a,x)::ov)) (.map (bL.push { key:=.int .i64 (a.den E.ρ),val:=ux,born:=c' }) (c'+1)) ?_⟩
    ·simp [Instr.mapUpdate,run_underlying hu,hg,eA xC jP,fk xC q2,gk (P:=P) g1]
    ·intro h' hh kp hk
     have pb:dec ((V.op .xo e (ew (mW a) (.ej (.i 0)))).den E.ρ)=dL (gW (dec (e.den E.ρ)).l (.i (a.den E.ρ)) (.i 0)):=by simp only [ew,V.den,e9.den,bB,rm]
     have r7: ∀m,lI E.ρ m ((a,x)::ov)=if m=a.den E.ρ then some x else lI E.ρ m ov:=by
      intro m;simp only [lI];by_cases hm:a.den E.ρ=m
      ·rw [ah hm,ah hm.symm]
      ·rw [af hm,af (fun q=>hm q.symm)]
     simp only [OR];rw [pb,bM,q3];refine⟨⟨?_,fun p hp=>?_,?_⟩,_,_,hh,?_⟩
     ·rw [ank,List.nodup_append];refine⟨g0.1,ad,fun p hp q hq=>?_⟩;simp only [ax,anl,anI] at hq;rw [hq];intro eq;rw [eq] at hp;exact q0 hp
     ·rw [ank,amb];rcases aw.1 hp with rfl|hp
      ·exact .inr (by simp [jd])
      ·exact .inl (g0.2.1 p hp)
     ·simp only [ax,ams];exact⟨Ih ho,g0.2.2⟩
     ·rw [Array.toList_push];exact eI.push (VR.bX kp _ _ hx) r7 q0 (g2.bX kp fun _ _=>hk _ _)
   ·rw [q1] at Z;simp [T.leaf] at Z
  ·have:=bC U;simp only [ak] at this;obtain⟨rfl,rfl⟩:=this;rcases hf with ⟨_,q2,_,_⟩|⟨j,y,en,q1,q2,q3,q4,q5,q6,q7,q8,q9⟩
   ·exact absurd (g0.at ho) q2
   ·simp only [ay] at q7
    have hkt:(Instr.keyThatStays (((bL[j]?).map (·.key)).getD (.int .i64 (a.den E.ρ))) (.int .i64 (a.den E.ρ))).run P w= .ok (.int .i64 (a.den E.ρ)) w:=by have q3':=q3;rw [br] at q3';simp only [q3',bw,az,Instr.keyThatStays];rw [ah (q8 9999)];rfl
    refine⟨rfl,fj,rfl,_,?_,yd r hl (.qY e t eR iD) (.map (bL.modify j fun e=>{ e with key:=.int .i64 (a.den E.ρ),val:=ux }) c') ?_⟩
    ·simp [Instr.mapUpdate,run_underlying hu,hg,eA xC jP,fk xC q7,hkt,gk (P:=P) g1]
    ·intro h' hh kp hk;simp only [OR];refine⟨⟨g0.1,fun p hp=>?_,?_⟩,_,_,hh,?_⟩
     ·have:p.1∈iD.map (·.1):=aT.2 ⟨p,hp,rfl⟩;rw [Lb] at this;obtain⟨q,hq,he⟩:=aT.1 this;rw [<- he];exact g0.2.1 q hq
     ·have U:(iD.map fun p=>p.1.den E.ρ)=(iD.map (·.1)).map fun x=>x.den E.ρ:=by rw [amE]; rfl
      rw [U,Lb,amE];exact g0.2.2
     ·rw [xp bL j en _ q3];exact eI.set (VR.bX kp _ _ hx) hv g0.1 (g2.bX kp fun _ _=>hk _ _) q3 q5
end
section
variable {P:Program} {E:En} {w:World}
theorem Xu [bI] {tt:TT} (cJ:ep P tt) {H:Hp} (r:bP E H w) {t e k:Nat} {i ie:TI} {k1 k2:IntKind} (hi:tt t=some i) (hk:i.kind= .slice e) (kA:tt e=some ie) (hz0:ie.zero.length=ie.size) (wP:0<ie.size) (sO:ie.bytes≠0) (DQ:ie.bytes*k<=140737488355328) (lA:0<k) :
 ∃x w' E',(Instr.makeSlice t (.int k1 k) (.int k2 k)).run P w= .ok x w'/\eM E H w E' (H.new (.cells (dK ie.zero k) e)) w'/\bP E' (H.new (.cells (dK ie.zero k) e)) w'/\VR E' w'.heap (.slice H.fresh 0 k (.rest ie.size)) x:=by
 have fL:=cJ t i hi;have XX:=cJ e ie kA;obtain⟨inf,z,g1,g2,g3,g4,g5⟩:=vN XX;have hz:=eO (E:=E) (h:=w.heap) g5;have vP:z.cells.size=ie.size:=by have:=hz.1.length; simp only [bh] at this; omega
 have hkb:k<=140737488355328:=by refine bk ?_ DQ;exact Nat.le_mul_of_pos_left _ J
 have wn:IntKind.i64.wrap (k:Int)=(k:Int):=by rw [<- j9]; simp only [rM]; rw [ah (by constructor<;>omega)]
 have ai: ∀(q:IntKind) (x:Int) (w:World),(asInt (Value.int q x)).run P w= .ok x w:=fun _ _ _=>rfl
 have fZ:z.cells.toList≠[]:=by
  intro hx;have UF:z.cells.size=0:=by have:=congrArg List.length hx; simpa using this
  omega
 have hzz:=tT z.cells fZ k;rw [vP] at hzz;obtain⟨gr,e1⟩ : ∃gr:Array Value,((Array.range (k*inf.size)).map (z.cells[·% z.cells.size]!))=gr:=⟨_,rfl⟩
 have e1':gr.toList=dK z.cells.toList k:=by
  grind
 have e2:cB E w.heap (dK ie.zero k) gr.toList:=by rw [e1']; exact lW hz.1 k
 have e3: ∀u∈gr.toList,u.oneCell'=true:=by rw [e1']; intro u hu; exact hz.2 u (lV hu)
 have gX:gr.size=k*ie.size:=by rw [<- bh,e1',iK,bh,vP]
 refine⟨.slice (some ⟨w.heap.size,0,none⟩) k k,{ w with heap:=w.heap.push (.cells gr e) },E.ext H.fresh (w.heap.size,0) gr.size,?_,?_⟩
 ·have t1: ¬((k:Int)<0):=J
  have t2: ¬((inf.bytes:Int)*(k:Int) > 2 ^ 48):=by
   grind
  have t4: ¬((k:Int) > (k:Int)):=J
  have t5:(askRoom (k*inf.bytes)).run P w= .ok () w:=by
   have: ¬(k*inf.bytes > roomBytes):=by
    unfold roomBytes
    grind
   unfold askRoom;rw [af this];rfl
  have t6:(k:Int).toNat=k:=rfl
  have h0: ¬(k*inf.size=0):=by rw [g2];have:=am3 lA wP;omega
  simp only [Instr.makeSlice,Sem.run_bind,run_underlying (eW fL hk),Result.andThen_ok,ai,sizeOf,typeInfo,zeroValue,run_program,g1,g4,Sem.run_pure,newRow,Sem.run_ite,wn,t1,t2,t4,t6,h0,decide_false,ane,aL,if_false];rw [t5,Result.andThen_ok,e1];rfl
 ·obtain⟨s1,s2⟩:=iy r gr 0 0 e e2 e3 (fun i u hu=>by rw [<- br]; exact hu) J (w':={ w with heap:=w.heap.push (.cells gr e) }) rfl ⟨rfl,rfl,rfl⟩;refine⟨s1,s2,?_⟩;simp only [VR];refine⟨En.gp _ _ _ _,⟨w.heap.size,0,none⟩,k,rfl,au _,?_⟩;simp only [eE,En.ext_θ_new,En.ext_κ_new]
  grind
theorem Ox [bI] {tt:TT} (cJ:ep P tt) {s s':St} (r:bP E s.h w) (hp:bW E.ρ s.pc) {t:Nat} {l c v:W} {lu cu:Value} (hl:VR E w.heap l lu) (hc:VR E w.heap c cu) (h:(I7 tt t l c s).leaf E.ρ=some (v,s')) :
 s'.bD=s.bD/\bW E.ρ s'.pc/\∃x w' E',(Instr.makeSlice t lu cu).run P w= .ok x w'/\eM E s.h w E' s'.h w'/\bP E' s'.h w'/\VR E' w'.heap v x:=by
 unfold I7 at h;split at h
 ·rename_i k n;split at h
  ·rename_i k2 n2;split at h
   ·simp [T.leaf] at h
   ·rename_i hnn;have hnn:=cO _ _ hnn;subst hnn;simp only [VR] at hl hc;subst hl hc;split at h
    ·simp [T.leaf] at h
    ·rename_i i hi;split at h
     ·simp [T.leaf] at h
     ·rename_i o ho;split at h
      ·rename_i e hk;split at h
       ·simp [T.leaf] at h
       ·rename_i ie kA;split at h
        ·simp [T.leaf] at h
        ·rename_i z hz;split at h
         ·rename_i iV;obtain⟨jD,wP,sO,vP⟩:=iV;obtain⟨fA,fj,U⟩:=cH hp h;split at U
          ·simp [T.leaf] at U
          ·rename_i t1;obtain⟨jw,jl,Z⟩:=cH (s:={ s with pc:=fA }) fj U;split at Z
           ·rename_i t2;split at Z
            ·rename_i v0 h0 hm;have:=bC Z;simp only [ak] at this;obtain⟨rfl,rfl⟩:=this;rw [gZ,beq_iff_eq] at t2;simp only [V.den] at t2;rw [t2];obtain⟨x,w',E',q1,q2,q3,q4⟩:=u6 (P:=P) cJ r (lu:=.int k 0) (cu:=.int k2 0) (by simp only [VR,V.den]) (by simp only [VR,V.den]) hm
             grind
            ·simp [T.leaf] at Z
           ·rename_i t2;obtain⟨UD,IG,h3⟩:=cH (s:={ s with pc:=jw }) jl Z;split at h3
            ·rename_i t3;have:=bC h3;simp only [ak] at this;obtain⟨rfl,rfl⟩:=this;rw [dR,decide_eq_false_iff_not] at t1;rw [gZ,beq_eq_false_iff_ne] at t2;rw [dR,decide_eq_true_eq] at t3;simp only [V.den] at t1 t2 t3;obtain⟨m,hm⟩ : ∃m:Nat,n.den E.ρ=(m:Int):=⟨(n.den E.ρ).toNat,J⟩;rw [hm] at t2 t3 ⊢;have lA:0<m:=J
             have DQ:ie.bytes*m<=140737488355328:=by
              unfold qB at t3
              have U:m<=140737488355328 / ie.bytes:=by
               grind
              exact bk (Nat.mul_le_mul_left _ U) (Nat.mul_div_le _ _)
             obtain⟨x,w',E',q1,q2,q3,q4⟩:=Xu (P:=P) (k1:=k) (k2:=k2) cJ r hi hk kA vP wP sO DQ lA;have hρ:=q2.ρ
             have hd:dec ((V.op .rep n z).den E'.ρ)=dL (List.replicate m (dec (z.den E'.ρ))):=by
              have:n.den E'.ρ=(m:Int):=by rw [hρ]; exact hm
              simp only [V.den,e9.den,bB,this,bj]
             have hlen:(dec ((V.op .rep n z).den E'.ρ)).l.length=m:=by rw [hd,bM,amz]
             have hwz:pF (rowOf o) (dec (z.den E'.ρ)):=tg hz
             have Cr:(cN E'.ρ (.op .rep n z) o []).length=(dK ie.zero m).length:=by unfold cN;rw [cD (jV _),hlen,iK,vP,jD]
             have aeS: ∀(q:Nat) (us:List Value),cB E' w'.heap (dK ie.zero q) us->cB E' w'.heap (bF E'.ρ (rowOf o) [] (List.replicate q (dec (z.den E'.ρ))) 0) us:=by
              intro q
              induction q with
              |zero=>intro us h; exact h
              |succ q ih=> intro us h;simp only [dK] at h;obtain⟨us1,us2,rfl,a,b⟩:=cB.split h;simp only [anJ,bF,dX];rw [kb _ 1 0];refine cB.append ?_ (ih _ b);rw [fV];simp only [V.den,bB];exact tj a hz
             have r2:=Cl (e1:=.op .rep n z) (t:=o) q3 ⟨by rw [hd,bM],fun d DP=>by
              rw [hd,bM] at DP;rw [an1 DP]
              exact hwz,fun hq=>by rw [hq] at hlen; simp at hlen; omega⟩ Cr (fun us hu=>by
              unfold cN;rw [hd,bM]
              exact aeS m us hu)
             refine⟨rfl,IG,x,w',E',q1,q2.right (vH rfl rfl fun _=>rfl),r2,?_⟩;simp only [VR] at q4 ⊢;obtain⟨p1,a,cap,p2,p3,p4⟩:=q4;refine⟨p1,m,a,cap,by rw [cC,hlen],p2,p3,?_⟩
             grind
            ·simp [T.leaf] at h3
         ·simp [T.leaf] at h
      ·simp [T.leaf] at h
  ·simp [T.leaf] at h
 ·simp [T.leaf] at h
end
theorem JG {α β:Type} (f:α->β) (xs:Array α):xs.map f=(xs.toList.map f).toArray:=by
 grind
def mR (P:Program) (R:Value->World->Prop):Result Next->Prop
 | .ok (.value u) w'=>R u w'
 | .ok (.enter f args) w'=>Calls P f args w' fun e w''=> ∃u,e= .returned u/\R u w''
 |_=>False
def kV (P:Program) (g:FuncId) (vals:Array Value) (w:World) (R:Value->World->Prop):Prop:=mR P R ((callFunc g vals).run P w)
def iE [bI] (P:Program) (g:FuncId) (f:List W->St->T (W×St)):Prop:=
 ∀(args:List W) (s:St) (E:En) (w:World) (vals:List Value) (v:W) (s':St),bP E s.h w->cB E w.heap args vals->bW E.ρ s.pc->(f args s).leaf E.ρ=some (v,s')->
  s'.bD=s.bD/\bW E.ρ s'.pc/\kV P g vals.toArray w (Mp E s w v s')
theorem yI {E:En} {h:Array Obj} {k:Nat} {e:V} {i:Nat} (he:e.den E.ρ=(i:Int)): ∀(ks:List IntKind) (j:Nat),
 cB E h (uE k e ks j) ((ks.zipIdx j).map fun p=> .int p.1 (E.ρ (1000+i*64+(k*8+p.2))))
 |[],j=>by simp [uE,cB]
 |kd::ks,j=>by simp only [uE,List.zipIdx_cons,ax];rw [bV];refine⟨_,_,rfl,?_,yI he ks (j+1)⟩;simp only [VR,V.den,he,bj]
theorem OB {P:Program} {E:En} {w:World} {tt:TT} (cJ:ep P tt) {pc:List (SB×Bool)} (hp:bW E.ρ pc) {t k:Nat} {ks:List IntKind} {ix v:W} {u ui:Value} (hx:VR E w.heap (.wz k ks) u) (yQ:VR E w.heap ix ui)
 (h:I8 tt pc t k ks ix=some v): ∃r,(Instr.indexAt t u ui).run P w= .ok r w/\VR E w.heap v r:=by
 unfold I8 at h;split at h
 ·rename_i kd e;split at h
  ·rename_i ti fL;split at h
   ·rename_i el hk;have hu:=eW (cJ t ti fL) hk;split at h
    ·rename_i s hs;simp only [hY,aO] at hs;obtain⟨ie,kA,rfl⟩:=hs;split at h
     ·rename_i hc;split at h
      ·rename_i U Z;simp at h;subst h;have U:=gq hp U;have Z:=gq hp Z;rw [dR,decide_eq_false_iff_not] at U;rw [dR,decide_eq_true_eq] at Z;simp only [V.den,amK] at U Z;simp only [VR] at hx yQ;subst yQ;rcases hx with ⟨⟨x,cap,rfl⟩,h0⟩|⟨b,o,n,cap,rfl,g1,g2,g3,g4⟩
       ·omega
       ·obtain⟨i,hi⟩ : ∃i:Nat,e.den E.ρ=(i:Int):=⟨(e.den E.ρ).toNat,J⟩;have xS:i<n:=J
        refine⟨.pointer (some ⟨b,o+i*ie.size,none⟩),?_,?_⟩
        ·rw [hi];simp [Instr.indexAt,asIntOf,run_underlying hu,ek (cJ el ie kA),xS,eT]
        ·simp only [VR];refine⟨b,_,_,rfl,g3,yI hi ks 0,?_,?_⟩
         ·intro j u hj
          grind
         ·intro u hu';rw [aT] at hu';obtain⟨p,_,rfl⟩:=hu';rfl
      grind
     grind
    grind
   grind
  grind
 grind
def qOp (q:Bool):BinOp:=match q with
 |true=> .quo
 |false=> .rem
def N! (q:Bool) (k:IntKind) (x y:Int):Int:=match q with
 |true=>k.wrap (x.tdiv y)
 |false=>x.tmod y
theorem N' {E:En} {s s':St} {q:Bool} {k:IntKind} {e d:V} {v:W} (hp:bW E.ρ s.pc) (h:(aei s q k e d).leaf E.ρ=some (v,s')) :
 s'.bD=s.bD/\s'.h=s.h/\bW E.ρ s'.pc/\d.den E.ρ≠0/\∀h,VR E h v (.int k (N! q k (e.den E.ρ) (d.den E.ρ))):=by
 unfold aei at h;obtain⟨dZ,fh,h3⟩:=cH hp h;rw [gw] at h3;split at h3
 ·grind [T.leaf]
 ·rename_i he;simp only [T.leaf,ag,ak] at h3;obtain⟨rfl,rfl⟩:=h3;simp only [V.den,beq_eq_false_iff_ne,ne_eq] at he;exact⟨rfl,rfl,fh,he,fun h=>by cases q<;>simp only [VR,V.den,N!]⟩
theorem Tc {E:En} {h:Array Obj} {op:BinOp} {a b:W} {q:Bool} {k:IntKind} {e d:V} (hr:Nx op a b=some (q,k,e,d)) {u u':Value} (ha:VR E h a u) (Y:VR E h b u') :
 op=qOp q/\u= .int k (e.den E.ρ)/\u'= .int k (d.den E.ρ):=by
 unfold Nx at hr;split at hr
 ·rename_i q' hq
  have xA:op=qOp q':=by split at hq<;>simp only [ag,reduceCtorEq] at hq<;>subst hq<;>rfl
  cases a with
  |int k1 e1=>
   cases b with
   |int k2 e2=>
    simp only at hr;split at hr
    ·simp at hr
    ·split at hr
     ·rename_i hc;simp only [ag,ak] at hr;obtain⟨rfl,rfl,rfl,rfl⟩:=hr;simp only [VR] at ha Y;exact⟨xA,ha,by rw [Y,hc]⟩
     ·simp at hr
   |_=>simp at hr
  |_=>simp at hr
 ·simp at hr
theorem Fw {E:En} {XZ:Array Obj} {s s':St} {h:Option W} {hh:Option Value} {v:W} {k:Option W->St->T (W×St)} (hp:bW E.ρ s.pc) (ho:fW E XZ h hh) (H:(HF s h k).leaf E.ρ=some (v,s')) :
 ∃dZ h',bW E.ρ dZ/\fW E XZ h' hh/\(k h' { s with pc:=dZ }).leaf E.ρ=some (v,s'):=by
 unfold HF at H;split at H
 ·rename_i e;obtain⟨dZ,fh,h3⟩:=cH hp H;rw [gw] at h3;split at h3
  ·rename_i he;simp only [V.den,beq_iff_eq] at he;obtain⟨u,rfl,hu⟩:=ho;simp only [VR] at hu;refine⟨dZ,some (.int .i64 (.lit 0)),fh,?_,h3⟩;exact⟨u,rfl,by simp only [VR,V.den]; rw [hu,he]⟩
  ·simp [T.leaf] at h3
 ·exact⟨s.pc,_,hp,ho,H⟩
def gY [bI] (P:Program) (call:eh):Prop:= ∀g,iE P g (call g)
theorem oI.next {P:Program} {o:Oper} {a:Act} {w:World} {R:Value->World->Prop} (h:mR P R ((execOp a.eval o).run P w)):oI P o a w R:=by
 intro K Q hk;unfold Oper.wp;generalize (execOp a.eval o).run P w=r at h
 cases r with
 |halt x w'=>exact h.elim
 |ok n w'=>
  cases n<;>first
   |exact h.elim
   |exact hk _ _ h
   |(exact Calls.mono h fun e w'' ⟨u,he,hr⟩=>by subst he; exact hk _ _ hr)
theorem EO {tt:TT} {t n:Nat} {ix:W} {e:V} (h:Sg tt t ix=some (n,e)): ∃k ti el ie,ix= .int k e/\tt t=some ti/\ti.kind= .array n el/\tt el=some ie/\ie.size=1/\ie.agg=false:=by
 unfold Sg at h;split at h
 all_goals grind
section
variable {P:Program} {E:En} {w:World} {s s':St} {o:Oper} {a:Act} {v:W}
theorem Jg [bI] {tt:TT} (cJ:ep P tt) (r:bP E s.h w) (hp:bW E.ρ s.pc) {b:Builtin} {ts:List Nat} {args:List W} {vals:List Value} (hv:cB E w.heap args vals) (ty:Nat) (cs:Array Bool)
 (h:(vX tt s b ts args).leaf E.ρ=some (v,s')):s'.bD=s.bD/\bW E.ρ s'.pc/\∃u w',(builtin b ts.toArray ty cs vals.toArray).run P w= .ok (.value u) w'/\Mp E s w v s' u w':=by
 unfold vX at h;split at h
 ·rename_i t x;obtain⟨e1,rfl⟩:=gA h;rw [bV] at hv;obtain⟨u,vs,rfl,hx,mJ⟩:=hv;rw [gP] at mJ;subst mJ;obtain⟨y,U,Z⟩:=YB (ty:=ty) cJ r hx e1;exact⟨rfl,hp,y,w,by simp [builtin,U],E,eM.refl _ _ _,r,Z⟩
 ·rename_i t t2 id lo n t' y;rw [bV] at hv;obtain⟨u,vs,rfl,hx,mJ⟩:=hv;rw [bV] at mJ;obtain⟨u2,vs,rfl,hy,GI⟩:=mJ;rw [gP] at GI;subst GI;split at h
  ·rename_i hz;obtain⟨q1,q2,z,w',E',U,Z,h3,h4⟩:=LG (ty:=ty) cJ r hp hz hx hy h;exact⟨q1,q2,z,w',by simp [builtin,U],E',Z,h3,h4⟩
  grind [T.leaf]
 ·rename_i t t2 x y _;rw [bV] at hv;obtain⟨u,vs,rfl,hx,mJ⟩:=hv;rw [bV] at mJ;obtain⟨u2,vs,rfl,hy,GI⟩:=mJ;rw [gP] at GI;subst GI;split at h
  ·rename_i X?;obtain⟨q1,q2,z,w',E',U,Z,h3,h4⟩:=Ji (ty:=ty) cJ r hp hx hy (fun hd=>by rw [hd,ane] at X?; exact K0 hx X?) h;exact⟨q1,q2,z,w',by simp [builtin,U],E',Z,h3,h4⟩
  obtain⟨H,e1,rfl⟩:=oV h;obtain⟨z,w',E',U,Z,h3,h4⟩:=LF (ty:=ty) cJ r hx hy e1;exact⟨rfl,hp,z,w',by simp [builtin,U],E',Z,h3,h4⟩
 ·rename_i t ts' m k;rw [bV] at hv;obtain⟨u,vs,rfl,hx,mJ⟩:=hv;rw [bV] at mJ;obtain⟨u2,vs,rfl,hy,GI⟩:=mJ;rw [gP] at GI;subst GI;split at h
  ·rename_i id e t' mE
   obtain⟨q1,q2,rfl,w',U,Z,h3⟩:=Ua (ts:=ts') cJ r hx hy mE h ty;exact⟨q1,by rw [q2]; exact hp,.tuple #[],w',by simp [builtin,U],E,Z,h3,by simp only [W.undef,VR,cB]; exact⟨[],rfl,rfl⟩⟩
  obtain⟨dZ,fh,h⟩:=pN hp h;obtain⟨H,e1,rfl,rfl⟩:=yn h;obtain⟨w',U,Z,h3⟩:=LD (ts:=ts') cJ fh r hx hy e1 ty;exact⟨rfl,fh,.tuple #[],w',by simp [builtin,U],E,Z,h3,by simp only [W.undef,VR,cB]; exact⟨[],rfl,rfl⟩⟩
 ·rename_i t id n t';rw [bV] at hv;obtain⟨u,vs,rfl,hx,mJ⟩:=hv;rw [gP] at mJ;subst mJ;obtain⟨q1,q2,rfl,w',E',U,Z,h3⟩:=BE (ty:=ty) cJ r hp (Pw hx) h;exact⟨q1,q2,.tuple #[],w',by simp [builtin,U],E',Z,h3,by simp only [W.undef,VR,cB]; exact⟨[],rfl,rfl⟩⟩
 ·rename_i t id lo n t';rw [bV] at hv;obtain⟨u,vs,rfl,hx,mJ⟩:=hv;rw [gP] at mJ;subst mJ;obtain⟨q1,q2,rfl,w',E',U,Z,h3⟩:=BE (ty:=ty) cJ r hp hx h;exact⟨q1,q2,.tuple #[],w',by simp [builtin,U],E',Z,h3,by simp only [W.undef,VR,cB]; exact⟨[],rfl,rfl⟩⟩
 ·rename_i t x _ _;obtain⟨H,e1,rfl,rfl⟩:=yn h;rw [bV] at hv;obtain⟨u,vs,rfl,hx,mJ⟩:=hv;rw [gP] at mJ;subst mJ;obtain⟨w',U,Z,h3⟩:=OI (ty:=ty) cJ r hx e1;exact⟨rfl,hp,.tuple #[],w',by simp [builtin,U],E,Z,h3,by simp only [W.undef,VR,cB]; exact⟨[],rfl,rfl⟩⟩
 ·rename_i k e xs;rw [bV] at hv;obtain⟨u,vs,rfl,hx,mJ⟩:=hv;simp only [VR] at hx;subst hx;obtain⟨q1,q2,q3,u,q4,q5⟩:=nj (P:=P) (w:=w) hp mJ h;refine⟨q2,q3,u,w,?_,E,by rw [q1]; exact eM.refl _ _ _,by rw [q1]; exact r,q5⟩;simp only [aL,if_false] at q4;simp [builtin,Builtin.min_,q4]
 ·rename_i k e xs;rw [bV] at hv;obtain⟨u,vs,rfl,hx,mJ⟩:=hv;simp only [VR] at hx;subst hx;obtain⟨q1,q2,q3,u,q4,q5⟩:=nj (P:=P) (w:=w) hp mJ h;refine⟨q2,q3,u,w,?_,E,by rw [q1]; exact eM.refl _ _ _,by rw [q1]; exact r,q5⟩;simp only [if_true] at q4;simp [builtin,Builtin.max_,q4]
 grind [T.leaf]
theorem Ub [bI] {tt:TT} (cJ:ep P tt) {call:eh} (hc:gY P call) (r:bP E s.h w) (sr:SR E w.heap s.bD a) (hp:bW E.ρ s.pc) {c:Call} (ho:o.op= .call c)
 (h:(Jf tt call s c).leaf E.ρ=some (v,s')):jC P E s o a w v s':=by
 unfold Jf at h;split at h
 ·grind [T.leaf]
 ·rename_i args ab5;have hv:=IY sr ab5;have aiG:c.args.map a.eval=(c.args.toList.map a.eval).toArray:=JG _ _;split at h
  ·rename_i b ae3;obtain⟨q1,q2,u,w',q3,q4⟩:=Jg cJ r hp hv o.type (c.args.map fun| .const _=>true|_=>false) h;refine⟨q1,q2,oI.value ?_ q4⟩;simp only [execOp,ho,resolve,ae3,Sem.run_bind,Sem.run_pure,Result.andThen_ok,invoke,aiG];exact q3
  ·rename_i f ae3;split at h
   ·rename_i g fs cs hf;have hfv:=fU sr hf;simp only [VR] at hfv;obtain⟨us,ws,he,U,Z⟩:=hfv;obtain⟨q1,q2,q3⟩:=hc g _ s E w _ v s' r ((U.append hv).append Z) hp h;refine⟨q1,q2,oI.next ?_⟩;unfold kV at q3;simp only [execOp,ho,resolve,ae3,Sem.run_bind,he,Deferred.ofValue,Sem.run_pure,Result.andThen_ok,invoke,aiG]
    grind
   grind [T.leaf]
  grind [T.leaf]
theorem c! [bI] {α:Type} {E:En} {h:Array Obj} {v:W} {u:Value} {s:St} {k:W->St->T α} {r:α} (hp:bW E.ρ s.pc) (hv:VR E h v u) (hl:(d_ v s k).leaf E.ρ=some r) :
 ∃v' dZ,bW E.ρ dZ/\VR E h v' u/\(k v' { s with pc:=dZ }).leaf E.ρ=some r:=by
 unfold d_ at hl;split at hl
 ·split at hl
  ·exact⟨_,s.pc,hp,hv,hl⟩
  ·obtain⟨fA,fj,U⟩:=cH hp hl;refine⟨_,fA,fj,?_,U⟩;simp only [VR,SB.den] at *;exact hv
 ·exact⟨_,s.pc,hp,hv,hl⟩
theorem RE [bI] {tt:TT} (cJ:ep P tt) {call:eh} (hc:gY P call) (r:bP E s.h w) (sr:SR E w.heap s.bD a) (hp:bW E.ρ s.pc) (h:(I6 tt call s o.op).leaf E.ρ=some (v,s')):jC P E s o a w v s':=by
 obtain⟨dst,op,type,pos,after,guard⟩:=o;simp only at h;cases op<;>simp only [I6] at h<;>first |(simp [T.leaf] at h; done)|skip
 case move x=>
  obtain⟨u,U,Z⟩:=gm sr h;have:=bC Z;simp only [ak] at this;obtain⟨rfl,rfl⟩:=this;exact jC.pure hp r (u:=a.eval x) rfl U
 case assign x=>
  obtain⟨u,U,Z⟩:=gm sr h;have:=bC Z;simp only [ak] at this;obtain⟨rfl,rfl⟩:=this;exact jC.pure hp r (u:=a.eval x) rfl U
 case pick c x y=>
  obtain⟨cv,U,Z⟩:=gm sr h;split at Z
  ·rename_i cb;obtain⟨dZ,fh,h3⟩:=cH hp Z;simp only [VR] at U;cases Ru:cb.den E.ρ<;>rw [Ru] at U h3
   ·simp only [aL,if_false] at h3;obtain⟨u,h4,h5⟩:=gm (s:={ s with pc:=dZ }) sr h3;have:=bC h5;simp only [ak] at this;obtain⟨rfl,rfl⟩:=this;exact⟨rfl,fh,oI.value (u:=a.eval y) (by simp [execOp,U,asBool]) ⟨E,eM.refl _ _ _,r,h4⟩⟩
   ·simp only [if_true] at h3;obtain⟨u,h4,h5⟩:=gm (s:={ s with pc:=dZ }) sr h3;have:=bC h5;simp only [ak] at this;obtain⟨rfl,rfl⟩:=this;exact⟨rfl,fh,oI.value (u:=a.eval x) (by simp [execOp,U,asBool]) ⟨E,eM.refl _ _ _,r,h4⟩⟩
  ·simp [T.leaf] at Z
 case alloc t=>
  split at h
  ·rename_i i hi;have:=bC h;simp only [ak] at this;obtain⟨rfl,rfl⟩:=this;obtain⟨inf,z,g1,g2,g3,g4,g5⟩:=vN (cJ t i hi);have hz:=eO (E:=E) (h:=w.heap) g5;obtain⟨s1,s2⟩:=iy r z.cells 0 0 t hz.1 hz.2 (fun i u hu=>by rw [<- br]; exact hu) J (w':={ w with heap:=w.heap.push (.cells z.cells t) }) rfl ⟨rfl,rfl,rfl⟩;exact jC.heap hp (u:=.pointer (some ⟨w.heap.size,0,none⟩)) (by simp [execOp,Instr.alloc,zeroValue,typeInfo,g1,g4,newVar,newRow]) s1 s2 (yp r _ _ 0)
  ·simp [T.leaf] at h
 case box t x=>
  obtain⟨u,U,Z⟩:=gm sr h;split at Z
  ·rename_i wA;have:=bC Z;simp only [ak] at this;obtain⟨rfl,rfl⟩:=this;have Mw:=U.cells wA;obtain⟨s1,s2⟩:=iy r (a.eval x).cells 0 0 t Mw (Mw.rB wA) (fun i u hu=>by rw [<- br]; exact hu) J (w':={ w with heap:=w.heap.push (.cells (a.eval x).cells t) }) rfl ⟨rfl,rfl,rfl⟩;exact jC.heap hp (u:=.pointer (some ⟨w.heap.size,0,none⟩)) (by simp [execOp,Instr.box,newVar,newRow]) s1 s2 (yp r _ _ 0)
  ·simp [T.leaf] at Z
 case build t parts=>
  split at h
  ·rename_i ps hps;obtain⟨e1,rfl⟩:=gA h;have hpr:=xH sr hps;obtain⟨x,U,Z⟩:=OK (w:=w) (ps:=parts.map fun p=>(p.1,a.eval p.2)) cJ (by simpa using hpr) e1;exact jC.pure hp r (u:=x) (by simp [execOp,U]) Z
  ·simp [T.leaf] at h
 case buildSlice t len parts=>
  split at h
  ·rename_i ps hps;obtain⟨H,e1,rfl⟩:=oV h;have hpr:=xH sr hps;obtain⟨x,w',E',U,Z,h3,h4⟩:=BY (ps:=parts.map fun p=>(p.1,a.eval p.2)) cJ r (by simpa using hpr) e1;exact jC.heap hp (u:=x) (by simp [execOp,U]) Z h3 h4
  ·simp [T.leaf] at h
 case makeSlice t l c=>
  obtain⟨u,U,Z⟩:=gm sr h;split at Z
  ·rename_i cv hc;split at Z
   ·rename_i q hq;obtain⟨H,e1,rfl⟩:=oV Z;simp only [ag] at e1;subst e1;obtain⟨x,w',E',g1,g2,g3,g4⟩:=u6 cJ r U (fU sr hc) hq;exact jC.heap hp (u:=x) (by simp [execOp,g1]) g2 g3 g4
   ·obtain⟨q1,q2,x,w',E',g1,g2,g3,g4⟩:=Ox cJ r hp U (fU sr hc) Z;exact⟨q1,q2,oI.value (by simp [execOp,g1]) ⟨E',g2,g3,g4⟩⟩
  ·simp [T.leaf] at Z
 case insert t m k x=>
  obtain⟨u,U,Z⟩:=gm sr h;split at Z
  ·rename_i kv xv hk hx;split at Z
   ·obtain⟨q1,q2,rfl,w',E',g1,g2,g3⟩:=Hb (P:=P) cJ r hp U (fU sr hk) (fU sr hx) Z;exact⟨q1,q2,oI.skip (by simp [execOp,g1]) ⟨E',g2,g3,jQ⟩⟩
   split at Z
   ·rename_i mE
    obtain⟨q1,q2,rfl,w',g1,g2,g3⟩:=BD (P:=P) cJ r hp U (fU sr hk) (fU sr hx) mE Z;exact⟨q1,q2,oI.skip (by simp [execOp,g1]) ⟨E,g2,g3,jQ⟩⟩
   obtain⟨dZ,fh,Z⟩:=pN hp Z;obtain⟨H,e1,rfl,rfl⟩:=yn Z;obtain⟨w',g1,g2,g3⟩:=u5 cJ fh r U (fU sr hk) (fU sr hx) e1;exact⟨rfl,fh,oI.skip (by simp [execOp,g1]) ⟨E,g2,g3,jQ⟩⟩
  ·simp [T.leaf] at Z
 case load t x=>
  obtain⟨u,U,Z⟩:=gm sr h;split at Z
  ·obtain⟨q1,q2,q3,y,b,off,g1,g2,g3⟩:=OA cJ r hp U Z;exact⟨q1,q3,oI.value (u:=y) (by simp [execOp,Instr.loadAt,g1,Instr.sureAddr,g2]) ⟨E,by rw [q2]; exact eM.refl _ _ _,by rw [q2]; exact r,g3⟩⟩
  obtain⟨e1,rfl⟩:=gA Z;obtain⟨y,b,off,g1,g2,g3⟩:=AH cJ r U e1;exact jC.pure hp r (u:=y) (by simp [execOp,Instr.loadAt,g1,Instr.sureAddr,g2]) g3
 case store t x y=>
  obtain⟨u,U,Z⟩:=gm sr h;split at Z
  ·rename_i yv hy;obtain⟨yv',dZ,fh,NZ,Z⟩:=c! hp (fU sr hy) Z;split at Z
   ·obtain⟨q1,q2,rfl,w',E',g1,g2,g3⟩:=Ly cJ (s:={ s with pc:=dZ }) r fh U NZ Z;exact⟨q1,q2,oI.skip (by simp [execOp,g1]) ⟨E',g2,g3,jQ⟩⟩
   obtain⟨H,e1,rfl,rfl⟩:=yn Z;obtain⟨w',g1,g2,g3⟩:=Ot cJ r U NZ e1;exact⟨rfl,fh,oI.skip (by simp [execOp,g1]) ⟨E,g2,g3,jQ⟩⟩
  ·simp [T.leaf] at Z
 case nilCheck x=>
  obtain⟨u,U,Z⟩:=gm sr h;split at Z
  ·have:=bC Z;simp only [ak] at this;obtain⟨rfl,rfl⟩:=this;have UJ:=U;simp only [VR] at U;exact jC.pure hp r (u:=a.eval x) (by simp [execOp,U.1]) UJ
  ·have:=bC Z;simp only [ak] at this;obtain⟨rfl,rfl⟩:=this;have UJ:=U;simp only [VR] at U;obtain⟨b,off,us,hu,_⟩:=U;exact jC.pure hp r (u:=a.eval x) (by simp [execOp,hu]) UJ
  ·have:=bC Z;simp only [ak] at this;obtain⟨rfl,rfl⟩:=this;have UJ:=U;simp only [VR] at U;obtain⟨_,k,_,hu⟩:=U;exact jC.pure hp r (u:=a.eval x) (by simp [execOp,hu]) UJ
  ·simp [T.leaf] at Z
 case binOp bop t x y yt=>
  obtain⟨u,U,Z⟩:=gm sr h;split at Z
  ·rename_i yv hy;have NZ:=fU sr hy;split at Z
   ·rename_i xs;simp only [VR] at U;obtain⟨us,GK,U⟩:=U;split at Z
    ·rename_i ys;simp only [VR] at NZ;obtain⟨vs,GJ,NZ⟩:=NZ;split at Z
     ·rename_i c UI;have:=bC Z;simp only [ak] at this;obtain⟨rfl,rfl⟩:=this;obtain⟨g1,g2,g3⟩:=Eg (w:=w) cJ U NZ UI .eql x y;exact jC.pure hp r (u:=.bool (c.den E.ρ)) (by simp [execOp,GK,GJ,g1,g2]) (by simp only [VR])
     ·simp [T.leaf] at Z
    ·rename_i ys;simp only [VR] at NZ;obtain⟨vs,GJ,NZ⟩:=NZ;split at Z
     ·rename_i c UI;have:=bC Z;simp only [ak] at this;obtain⟨rfl,rfl⟩:=this;obtain⟨g1,g2,g3⟩:=Eg (w:=w) cJ U NZ UI .neq x y;exact jC.pure hp r (u:=.bool (!(c.den E.ρ))) (by simp [execOp,GK,GJ,g1,g3]) (by simp only [VR,mX])
     ·simp [T.leaf] at Z
    ·simp [T.leaf] at Z
   ·split at Z
    ·rename_i e hna;obtain⟨q1,q2,q3,y',g1,g2,g3,g4⟩:=S? (P:=P) (w:=w) cJ hna U NZ hp Z;exact⟨q1,q3,oI.value (u:=y') (by simp [execOp,va (P:=P) (w:=w) g3 g4,g1]) ⟨E,by rw [q2]; exact eM.refl _ _ _,by rw [q2]; exact r,g2⟩⟩
    split at Z
    ·rename_i qq k e d hrl;obtain⟨rfl,N0,Rh⟩:=Tc hrl U NZ;obtain⟨q1,q2,q3,fZ,q4⟩:=N' hp Z;refine⟨q1,q3,oI.value (u:=.int k (N! qq k (e.den E.ρ) (d.den E.ρ))) (w':=w) ?_ ⟨E,by rw [q2]; exact eM.refl _ _ _,by rw [q2]; exact r,q4 _⟩⟩;cases qq<;>simp [execOp,N0,Rh,binOp,Op.intDiv,fZ,eqGuard,N!,qOp]
    split at Z
    ·rename_i x' y' hsp;obtain⟨q1,q2,q3,⟨y'',g1,g2⟩,g3,g4⟩:=T4 (P:=P) (w:=w) (t:=t) hp U NZ hsp Z;exact⟨q1,q3,oI.value (u:=y'') (by simp [execOp,va (P:=P) (w:=w) g3 g4,g1]) ⟨E,by rw [q2]; exact eM.refl _ _ _,by rw [q2]; exact r,g2⟩⟩
    ·obtain⟨e1,rfl⟩:=gA Z;obtain⟨⟨y',g1,g2⟩,g3,g4⟩:=YD (w:=w) cJ U NZ e1;exact jC.pure hp r (u:=y') (by simp [execOp,va (P:=P) (w:=w) g3 g4,g1]) g2
  ·simp [T.leaf] at Z
 case unOp uop t x=>
  obtain⟨u,U,Z⟩:=gm sr h;obtain⟨e1,rfl⟩:=gA Z;obtain⟨y,g1,g2⟩:=aap (P:=P) (w:=w) U e1;exact jC.pure hp r (u:=y) (by simp [execOp,g1]) g2
 case convert sT dT x=>
  obtain⟨u,U,Z⟩:=gm sr h;split at Z
  ·obtain⟨q1,q2,y,w',E',g1,g2,g3,g4⟩:=OJ (P:=P) cJ r hp U Z;exact⟨q1,q2,oI.value (u:=y) (by simp [execOp,g1]) ⟨E',g2,g3,g4⟩⟩
  obtain⟨H,e1,rfl⟩:=oV Z;obtain⟨y,w',E',g1,g2,g3,g4⟩:=zm cJ r U e1;exact jC.heap hp (u:=y) (by simp [execOp,g1]) g2 g3 g4
 case makeFunc fn fs cs=>
  split at h
  ·rename_i f c hf UH;have:=bC h;simp only [ak] at this;obtain⟨rfl,rfl⟩:=this;have U:=IY sr hf;have Z:=IY sr UH;refine jC.pure hp r (u:=.func fn (fs.map a.eval) (cs.map a.eval)) (by simp [execOp,Instr.makeFunc]) ?_;simp only [VR];have m1:fs.map a.eval=(fs.toList.map a.eval).toArray:=JG _ _;have m2:cs.map a.eval=(cs.toList.map a.eval).toArray:=JG _ _;exact⟨_,_,by rw [m1,m2],U,Z⟩
  ·simp [T.leaf] at h
 case makeMap t res=>
  split at h
  ·split at h
   ·rename_i m hm;split at h
    ·have:=bC h;simp only [ak] at this;obtain⟨rfl,rfl⟩:=this
     obtain⟨s1,s2⟩:=oX r (.map #[] 0) (.qY (.ej (.i 0)) (m-100) (YA tt t) []) 0 (w':={ w with heap:=w.heap.push (.map #[] 0) }) rfl ⟨rfl,rfl,rfl⟩ (by
      simp only [OR,En.ext_θ_new]
      exact⟨⟨by simp [V.den,bB,D.l],ad,ad⟩,#[],0,ad,by simp [eI,V.den,bB,D.l]⟩)
     exact jC.heap hp (u:=.map (some w.heap.size)) (by simp [execOp,Instr.makeMap]) s1 s2 (by simp only [VR,En.ext_θ_new]; exact⟨trivial,En.gp _ _ _ _⟩)
    have:=bC h;simp only [ak] at this;obtain⟨rfl,rfl⟩:=this
    obtain⟨s1,s2⟩:=oX r (.map #[] 0) (.jM (.ej (.i 0)) m) 0 (w':={ w with heap:=w.heap.push (.map #[] 0) }) rfl ⟨rfl,rfl,rfl⟩ (by
     simp only [OR,En.ext_θ_new]
     exact⟨#[],0,ad,by simp [jO,V.den,bB,D.l]⟩)
    exact jC.heap hp (u:=.map (some w.heap.size)) (by simp [execOp,Instr.makeMap]) s1 s2 (by simp only [VR,En.ext_θ_new]; exact⟨trivial,En.gp _ _ _ _⟩)
   have:=bC h;simp only [ak] at this;obtain⟨rfl,rfl⟩:=this
   obtain⟨s1,s2⟩:=oX r (.map #[] 0) (.map [] 1) 0 (w':={ w with heap:=w.heap.push (.map #[] 0) }) rfl ⟨rfl,rfl,rfl⟩ (by
    simp only [OR,En.ext_θ_new]
    exact⟨#[],0,ad,by simp [eB],rfl,rfl⟩)
   exact jC.heap hp (u:=.map (some w.heap.size)) (by simp [execOp,Instr.makeMap]) s1 s2 (by simp only [VR,En.ext_θ_new]; exact⟨trivial,En.gp _ _ _ _⟩)
  ·simp [T.leaf] at h
 case slice t x lo hi mx=>
  obtain⟨u,U,Z⟩:=gm sr h;split at Z
  ·rename_i l hh m hl hhh hm;split at Z
   ·obtain⟨q1,q2,q3,y,g1,g2⟩:=OG (w:=w) cJ hp U (eo sr hl) (eo sr hhh) (eo sr hm) Z;exact⟨q1,q3,oI.value (u:=y) (by simp [execOp,g1]) ⟨E,by rw [q2]; exact eM.refl _ _ _,by rw [q2]; exact r,g2⟩⟩
   ·obtain⟨q1,q2,q3,y,g1,g2⟩:=D6 cJ r hp (Pw U) (eo sr hl) (eo sr hhh) (eo sr hm) Z;exact⟨q1,q3,oI.value (u:=y) (by simp [execOp,g1]) ⟨E,by rw [q2]; exact eM.refl _ _ _,by rw [q2]; exact r,g2⟩⟩
   ·obtain⟨q1,q2,q3,y,g1,g2⟩:=D6 cJ r hp U (eo sr hl) (eo sr hhh) (eo sr hm) Z;exact⟨q1,q3,oI.value (u:=y) (by simp [execOp,g1]) ⟨E,by rw [q2]; exact eM.refl _ _ _,by rw [q2]; exact r,g2⟩⟩
   ·obtain⟨q1,q2,q3,y,g1,g2⟩:=On (w:=w) cJ hp U (eo sr hl) (eo sr hhh) (eo sr hm) Z;exact⟨q1,q3,oI.value (u:=y) (by simp [execOp,g1]) ⟨E,by rw [q2]; exact eM.refl _ _ _,by rw [q2]; exact r,g2⟩⟩
   ·obtain⟨q1,q2,q3,y,g1,g2⟩:=OD (w:=w) cJ hp U (eo sr hl) (eo sr hhh) (eo sr hm) Z;exact⟨q1,q3,oI.value (u:=y) (by simp [execOp,g1]) ⟨E,by rw [q2]; exact eM.refl _ _ _,by rw [q2]; exact r,g2⟩⟩
   ·obtain⟨dZ,h',fh,Aw,h3⟩:=Fw hp (eo sr hhh) Z;obtain⟨e1,rfl⟩:=gA h3;obtain⟨y,g1,g2⟩:=xG (w:=w) cJ U (eo sr hl) Aw (eo sr hm) e1;exact⟨rfl,fh,oI.value (u:=y) (by simp [execOp,g1]) ⟨E,eM.refl _ _ _,r,g2⟩⟩
   ·obtain⟨dZ,h',fh,Aw,h3⟩:=Fw hp (eo sr hhh) Z;obtain⟨e1,rfl⟩:=gA h3;obtain⟨y,g1,g2⟩:=xG (w:=w) cJ U (eo sr hl) Aw (eo sr hm) e1;exact⟨rfl,fh,oI.value (u:=y) (by simp [execOp,g1]) ⟨E,eM.refl _ _ _,r,g2⟩⟩
   split at Z
   ·rename_i v' e1;have:=bC Z;simp only [ak] at this;obtain⟨rfl,rfl⟩:=this;obtain⟨y,g1,g2⟩:=xG (w:=w) cJ U (eo sr hl) (eo sr hhh) (eo sr hm) e1;exact jC.pure hp r (u:=y) (by simp [execOp,g1]) g2
   ·obtain⟨e1,rfl⟩:=gA Z;obtain⟨y,g1,g2⟩:=Lz (w:=w) cJ r U (eo sr hl) (eo sr hhh) (eo sr hm) e1;exact jC.pure hp r (u:=y) (by simp [execOp,g1]) g2
  ·simp [T.leaf] at Z
 case fieldAddr t x f=>
  obtain⟨u,U,Z⟩:=gm sr h;obtain⟨e1,rfl⟩:=gA Z;obtain⟨y,g1,g2⟩:=Ef (w:=w) cJ U e1;exact jC.pure hp r (u:=y) (by simp [execOp,g1]) g2
 case field t x f=>
  obtain⟨u,U,Z⟩:=gm sr h;obtain⟨e1,rfl⟩:=gA Z;obtain⟨y,g1,g2⟩:=OC (w:=w) cJ U e1;exact jC.pure hp r (u:=y) (by simp [execOp,g1]) g2
 case indexAddr t x i=>
  obtain⟨u,U,Z⟩:=gm sr h;split at Z
  ·rename_i iv hi;split at Z
   ·obtain⟨e1,rfl⟩:=gA Z;obtain⟨y,g1,g2⟩:=OB (w:=w) cJ hp U (fU sr hi) e1;exact jC.pure hp r (u:=y) (by simp [execOp,g1]) g2
   ·obtain⟨q1,q2,q3,y,g1,g2⟩:=OH (w:=w) cJ hp U (fU sr hi) Z;exact⟨q1,q3,oI.value (u:=y) (by simp [execOp,g1]) ⟨E,by rw [q2]; exact eM.refl _ _ _,by rw [q2]; exact r,g2⟩⟩
   ·obtain⟨q1,q2,q3,y,g1,g2⟩:=Om (w:=w) cJ hp U (fU sr hi) Z;exact⟨q1,q3,oI.value (u:=y) (by simp [execOp,g1]) ⟨E,by rw [q2]; exact eM.refl _ _ _,by rw [q2]; exact r,g2⟩⟩
   ·obtain⟨q1,q2,q3,y,g1,g2⟩:=Ol (w:=w) cJ hp U (fU sr hi) Z;exact⟨q1,q3,oI.value (u:=y) (by simp [execOp,g1]) ⟨E,by rw [q2]; exact eM.refl _ _ _,by rw [q2]; exact r,g2⟩⟩
   ·rename_i pid po;split at Z
    ·rename_i n e Y;split at Z
     ·rename_i ho;subst ho;obtain⟨kd,ti,el,ie,rfl,b1,b2,b3,b4,b5⟩:=EO Y;obtain⟨dZ,fh,t1,t2,h3⟩:=nr hp Z;have:=bC h3;simp only [ak] at this;obtain⟨rfl,rfl⟩:=this;have hiv:=fU sr hi;simp only [VR] at hiv;simp only [V.den] at t2;obtain⟨k,hk⟩ : ∃k:Nat,e.den E.ρ=(k:Int):=⟨(e.den E.ρ).toNat,J⟩;have fe:k<n:=by simp at t2; omega
      rw [hk] at hiv
      obtain⟨y,g1,g2⟩:=px (P:=P) (w:=w) cJ (t:=t) (ix:=.int kd (.lit (Int.ofNat k))) U (by simp only [VR,V.den]; exact hiv) (v:=.ptr pid (0+k*ie.size)) (by
       unfold nO;simp only [jX,b1,b2,hY,b3,bw];rw [ah fe]
       rfl)
      refine⟨rfl,fh,oI.value (u:=y) (by simp [execOp,g1]) ⟨E,eM.refl _ _ _,r,?_⟩⟩;simp only [VR] at g2 ⊢;exact⟨g2.2,k,hk,by rw [g2.1,b4]; congr 3; omega⟩
     ·simp [T.leaf] at Z
    ·obtain⟨ix',dZ,fh,yQ,Z⟩:=zD hp (fU sr hi) Z;obtain⟨e1,rfl⟩:=gA Z;obtain⟨y,g1,g2⟩:=px (w:=w) cJ U yQ e1;exact⟨rfl,fh,oI.value (u:=y) (by simp [execOp,g1]) ⟨E,eM.refl _ _ _,r,g2⟩⟩
   ·obtain⟨ix',dZ,fh,yQ,Z⟩:=zD hp (fU sr hi) Z;obtain⟨e1,rfl⟩:=gA Z;obtain⟨y,g1,g2⟩:=px (w:=w) cJ U yQ e1;exact⟨rfl,fh,oI.value (u:=y) (by simp [execOp,g1]) ⟨E,eM.refl _ _ _,r,g2⟩⟩
  ·simp [T.leaf] at Z
 case index t x i=>
  obtain⟨u,U,Z⟩:=gm sr h;split at Z
  ·rename_i iv hi;split at Z
   ·obtain⟨q1,q2,q3,y,g1,g2⟩:=Oo (w:=w) cJ hp U (fU sr hi) Z;exact⟨q1,q3,oI.value (u:=y) (by simp [execOp,g1]) ⟨E,by rw [q2]; exact eM.refl _ _ _,by rw [q2]; exact r,g2⟩⟩
   ·rename_i cs;split at Z
    ·rename_i n e Y;split at Z
     ·rename_i hn;have hn:=aq hn;obtain⟨kd,ti,el,ie,rfl,b1,b2,b3,b4,b5⟩:=EO Y;obtain⟨q1,q2,q3,k,kk,z,x',c1,c2,c3,rfl,c5⟩:=Lv hp Z;have hiv:=fU sr hi;simp only [VR] at hiv;rw [c1] at hiv;obtain⟨l,hd⟩:=AN c3
      obtain⟨y,g1,g2⟩:=xI (P:=P) (w:=w) cJ (t:=t) (ix:=.int kd (.lit (Int.ofNat k))) U (by simp only [VR,V.den]; exact hiv) (v:=.int kk (.lit z)) (by
       unfold zl;simp only [jX,b1,b2,b3];rw [ah J,b4,anh,hd]
       simp [partOf,b5])
      refine⟨q1,q3,oI.value (u:=y) (w':=w) (by simp [execOp,g1]) ⟨E,by rw [q2]; exact eM.refl _ _ _,by rw [q2]; exact r,?_⟩⟩;simp only [VR,V.den] at g2 ⊢;rw [g2,c5]
     ·simp [T.leaf] at Z
    ·obtain⟨ix',dZ,fh,yQ,Z⟩:=zD hp (fU sr hi) Z;obtain⟨e1,rfl⟩:=gA Z;obtain⟨y,g1,g2⟩:=xI (w:=w) cJ U yQ e1;exact⟨rfl,fh,oI.value (u:=y) (by simp [execOp,g1]) ⟨E,eM.refl _ _ _,r,g2⟩⟩
   obtain⟨ix',dZ,fh,yQ,Z⟩:=zD hp (fU sr hi) Z;obtain⟨e1,rfl⟩:=gA Z;obtain⟨y,g1,g2⟩:=xI (w:=w) cJ U yQ e1;exact⟨rfl,fh,oI.value (u:=y) (by simp [execOp,g1]) ⟨E,eM.refl _ _ _,r,g2⟩⟩
  ·simp [T.leaf] at Z
 case lookup t m k ok=>
  obtain⟨u,U,Z⟩:=gm sr h;split at Z
  ·rename_i kv hk;split at Z
   ·rename_i id e t' mE
    obtain⟨q1,q2,q3,y,g1,g2⟩:=Oz (P:=P) cJ r hp U (fU sr hk) mE Z;exact⟨q1,q3,oI.value (u:=y) (by simp [execOp,g1]) ⟨E,by rw [q2]; exact eM.refl _ _ _,by rw [q2]; exact r,g2⟩⟩
   split at Z
   ·rename_i mE
    obtain⟨q1,q2,q3,y,g1,g2⟩:=Oy (P:=P) cJ r hp U (fU sr hk) mE Z;exact⟨q1,q3,oI.value (u:=y) (by simp [execOp,g1]) ⟨E,by rw [q2]; exact eM.refl _ _ _,by rw [q2]; exact r,g2⟩⟩
   obtain⟨dZ,fh,Z⟩:=pN hp Z;obtain⟨e1,rfl⟩:=gA Z;obtain⟨y,g1,g2⟩:=LC cJ fh r U (fU sr hk) e1;exact⟨rfl,fh,oI.value (u:=y) (by simp [execOp,g1]) ⟨E,eM.refl _ _ _,r,g2⟩⟩
  ·simp [T.leaf] at Z
 case mapUpdate t m k x=>
  obtain⟨u,U,Z⟩:=gm sr h;split at Z
  ·rename_i kv xv hk hx;split at Z
   ·obtain⟨q1,q2,rfl,w',E',g1,g2,g3⟩:=Hb (P:=P) cJ r hp U (fU sr hk) (fU sr hx) Z;exact⟨q1,q2,oI.skip (by simp [execOp,g1]) ⟨E',g2,g3,jQ⟩⟩
   split at Z
   ·rename_i mE
    obtain⟨q1,q2,rfl,w',g1,g2,g3⟩:=BD (P:=P) cJ r hp U (fU sr hk) (fU sr hx) mE Z;exact⟨q1,q2,oI.skip (by simp [execOp,g1]) ⟨E,g2,g3,jQ⟩⟩
   obtain⟨dZ,fh,Z⟩:=pN hp Z;obtain⟨H,e1,rfl,rfl⟩:=yn Z;obtain⟨w',g1,g2,g3⟩:=u5 cJ fh r U (fU sr hk) (fU sr hx) e1;exact⟨rfl,fh,oI.skip (by simp [execOp,g1]) ⟨E,g2,g3,jQ⟩⟩
  ·simp [T.leaf] at Z
 case range t x=>
  obtain⟨u,U,Z⟩:=gm sr h;obtain⟨H,e1,rfl⟩:=oV Z;obtain⟨y,w',E',g1,g2,g3,g4⟩:=Ou cJ r U e1;exact jC.heap hp (u:=y) (by simp [execOp,g1]) g2 g3 g4
 case next x isS=>
  obtain⟨u,U,Z⟩:=gm sr h;obtain⟨H,e1,rfl⟩:=oV Z;obtain⟨y,w',g1,g2,g3,g4⟩:=T6 (P:=P) r U e1 type;exact jC.heap hp (u:=y) (by simp [execOp,g1]) g2 g3 g4
 case entry x=>
  obtain⟨u,U,Z⟩:=gm sr h;obtain⟨e1,rfl⟩:=gA Z;obtain⟨y,g1,g2⟩:=OE (P:=P) r U e1;exact jC.pure hp r (u:=y) (by simp [execOp,g1]) g2
 case extract x i=>
  obtain⟨u,U,Z⟩:=gm sr h;split at Z
  ·rename_i vs;obtain⟨e1,rfl⟩:=gA Z;simp only [VR] at U;obtain⟨us,GK,U⟩:=U;obtain⟨y,g1,g2⟩:=U.nth e1;exact jC.pure hp r (u:=y) (by simp [execOp,Instr.extract,GK,g1]) g2
  ·simp [T.leaf] at Z
 case call c=>exact Ub cJ hc r sr hp rfl h
end
section
variable {P:Program}
structure Fit [bI] (E:En) (s:St) (a:Act) (w:World):Prop where
 rel:bP E s.h w
 sr:SR E w.heap s.bD a
 pc:bW E.ρ s.pc
structure mH [bI] (E:En) (s:St) (a:Act) (w:World) (s':St) (a':Act) (w':World):Prop where
 defers:a'.defers=a.defers
 size:a'.tmps.size=a.tmps.size
 step: ∃E',eM E s.h w E' s'.h w'/\Fit E' s' a' w'
theorem mH.refl [bI] {E:En} {s:St} {a:Act} {w:World} (f:Fit E s a w):mH E s a w s a w:=⟨rfl,rfl,E,eM.refl _ _ _,f⟩
theorem SR.bX {E E':En} {h h':Array Obj} (k:fg E h E' h') {bD:Tr W} {a:Act} (sr:SR E h bD a):SR E' h' bD a:=by intro t v ht;obtain⟨u,U,Z⟩:=sr t v ht;exact⟨u,U,VR.bX k v u Z⟩
theorem SR.put {E:En} {h:Array Obj} {bD:Tr W} {a:Act} (sr:SR E h bD a) {d:Nat} {v:W} {u:Value} (hd:d<a.tmps.size) (hv:VR E h v u):SR E h (bD.put d (some v)) (a.put (some d) u):=by
 intro t x ht;rw [Tr.bR] at ht;simp only [Act.put];split at ht
 ·rename_i e
  grind
 ·rename_i e;obtain⟨y,U,Z⟩:=sr t x ht
  grind
theorem SR.akn {E:En} {h:Array Obj} {s:St} {a:Act} (sr:SR E h s.bD a) {d:Option Nat} {v:W} {u:Value} (hd: ∀t,d=some t->t<a.tmps.size) (hv:VR E h v u):SR E h (s.Kl d v).bD (a.put d u):=by
 cases d with
 |none=>exact sr
 |some t=>exact sr.put (hd t rfl) hv
theorem Df (a:Act) (d:Option Nat) (u:Value):(a.put d u).tmps.size=a.tmps.size:=by cases d<;>simp [Act.put]
theorem put_defers (a:Act) (d:Option Nat) (u:Value):(a.put d u).defers=a.defers:=by cases d<;>rfl
theorem WJ (s:St) (d:Option Nat) (v:W):(s.Kl d v).h=s.h:=by cases d<;>rfl
theorem L! (s:St) (d:Option Nat) (v:W):(s.Kl d v).pc=s.pc:=by cases d<;>rfl
theorem G4 [bI] {E:En} {s s':St} {a:Act} {w w':World} {v:W} {u:Value} {d:Option Nat} (f:Fit E s a w) (hs:s'.bD=s.bD) (hp:bW E.ρ s'.pc) (h:Mp E s w v s' u w') (hd: ∀t,d=some t->t<a.tmps.size) :
 mH E s a w (s'.Kl d v) (a.put d u) w':=by
 obtain⟨E',U,Z,h3⟩:=h;refine⟨put_defers _ _ _,Df _ _ _,E',by rw [WJ]; exact U,⟨by rw [WJ]; exact Z,?_,by rw [L!,U.ρ]; exact hp⟩⟩;refine SR.akn ?_ hd h3;rw [hs];exact f.sr.bX (U.keeps f.rel)
theorem mH.trans [bI] {E:En} {s s1 s2:St} {a a1 a2:Act} {w w1 w2:World} (U:mH E s a w s1 a1 w1) (Z: ∀E1,eM E s.h w E1 s1.h w1->Fit E1 s1 a1 w1->mH E1 s1 a1 w1 s2 a2 w2):mH E s a w s2 a2 w2:=by obtain⟨d1,z1,E1,C0,f1⟩:=U;obtain⟨d2,z2,E2,tL,f2⟩:=Z E1 C0 f1;exact⟨d2.trans d1,z2.trans z1,E2,C0.trans tL,f2⟩
theorem Dq [bI] {α:Type} {E:En} {w:World} {s:St} {a:Act} {ops:Array Oper} {o:Oper} {f:St->Bool->T α} {r:α} (fit:Fit E s a w) (h:(vE ops.toList s o f).leaf E.ρ=some r) :
 ∃dZ,bW E.ρ dZ/\(f { s with pc:=dZ } (Region.wanted o (yielded ops a.tmps))).leaf E.ρ=some r:=by
 unfold vE at h;unfold Region.wanted;split at h
 ·rename_i hg;rw [hg];exact⟨s.pc,fit.pc,h⟩
 ·rename_i j want hg;rw [hg];split at h
  ·rename_i oj hj;rw [di,br] at hj;split at h
   ·rename_i d hd;split at h
    ·rename_i c hc;obtain⟨u,U,Z⟩:=fit.sr d _ hc;simp only [VR] at Z;subst Z;obtain⟨dZ,fh,h3⟩:=cH fit.pc h;refine⟨dZ,fh,?_⟩;have:yielded ops a.tmps j=some (c.den E.ρ):=by simp [yielded,hj,hd,U]
     simp only [this];simpa using h3
    ·rename_i vs hc;obtain⟨u,U,Z⟩:=fit.sr d _ hc;simp only [VR] at Z;obtain⟨us,rfl,_⟩:=Z;refine⟨s.pc,fit.pc,?_⟩;have:yielded ops a.tmps j=none:=by simp [yielded,hj,hd,U]
     simp only [this];simpa using h
    ·simp [T.leaf] at h
   ·simp [T.leaf] at h
  ·simp [T.leaf] at h
def afK (n:Nat) (ops:List Oper):Bool:=ops.all fun o=>match o.dst with |some d=>d<n|none=>true
theorem Eb [bI] {tt:TT} (cJ:ep P tt) {call:eh} (hc:gY P call) {ops:Array Oper} {Q:Exit->Act->World->Prop}: ∀(rest:List Oper) (i:Nat) {E:En} {s s':St} {a:Act} {w:World},ops.toList.drop i=rest->
 (∀o∈rest,∀d,o.dst=some d->d<a.tmps.size)->Fit E s a w->(LB tt call ops.toList rest s).leaf E.ρ=some s'->
 (∀a' w',mH E s a w s' a' w'->Q .normal a' w')->wpOps P ops Q (List.range' i rest.length) a w
 |[],i,E,s,s',a,w,_,_,fit,h,hq=>by have:=bC h;subst this;exact hq a w (mH.refl fit)
 |o::rest,i,E,s,s',a,w,hi,hd,fit,h,hq=>by
  simp only [LB] at h;obtain⟨dZ,fh,U⟩:=Dq fit h
  have hoi:ops[i]?=some o:=by
   have:=congrArg (·[0]?) hi
   grind
  have abY:ops.toList.drop (i+1)=rest:=by have:=congrArg List.tail hi;simpa using this
  have T1:Fit E { s with pc:=dZ } a w:=⟨fit.rel,fit.sr,fh⟩;simp only [aK,List.range'_succ];show wpOps P ops Q (i::List.range' (i+1) rest.length) a w;simp only [wpOps,hoi];cases hw:Region.wanted o (yielded ops a.tmps)<;>rw [hw] at U
  ·simp only [aL,if_false] at U ⊢
   have Bq:mH E s a w (St.Kl { s with pc:=dZ } o.dst W.undef) (a.put o.dst undef) w:=
    G4 (s':={ s with pc:=dZ }) fit rfl fh ⟨E,eM.refl _ _ _,fit.rel,jQ⟩ (hd o ad)
   obtain⟨d1,z1,E1,C0,f1⟩:=Bq;refine Eb cJ hc rest (i+1) abY (fun o' Aw d DP=>by rw [z1]; exact hd o' (by simp [Aw]) d DP) f1 (by rw [C0.ρ]; exact U) fun a' w' ht=>?_;exact hq a' w' ⟨ht.defers.trans d1,ht.size.trans z1,by obtain⟨E2,tL,f2⟩:=ht.step; exact⟨E2,C0.trans tL,f2⟩⟩
  ·simp only [if_true] at U ⊢;left;obtain⟨⟨v,s1⟩,Z,h3⟩:=T.eX U;obtain⟨q1,q2,q3⟩:=RE cJ hc (o:=o) T1.rel T1.sr T1.pc Z;refine q3 _ _ fun u w1 hu=>?_;have Bq:mH E s a w (s1.Kl o.dst v) (a.put o.dst u) w1:=G4 (s:=s) (s':=s1) fit q1 q2 hu (hd o ad);obtain⟨d1,z1,E1,C0,f1⟩:=Bq;refine Eb cJ hc rest (i+1) abY (fun o' Aw d DP=>by rw [z1]; exact hd o' (by simp [Aw]) d DP) f1 (by rw [C0.ρ]; exact h3) fun a' w' ht=>?_;exact hq a' w' ⟨ht.defers.trans d1,ht.size.trans z1,by obtain⟨E2,tL,f2⟩:=ht.step; exact⟨E2,C0.trans tL,f2⟩⟩
def aaW [bI] (P:Program) (draw:List Oper->St->T St):Prop:=
 ∀(id:Nat) (ops:Array Oper) (E:En) (s s':St) (a:Act) (w:World) (Q:Exit->Act->World->Prop),(∀o∈ops.toList,∀d,o.dst=some d->d<a.tmps.size)->Fit E s a w->(draw ops.toList s).leaf E.ρ=some s'->
  (∀a' w',mH E s a w s' a' w'->Q .normal a' w')->(Code.region id ops true).wp P Q a w
def vq [bI] (P:Program) (qu:Nat->List Oper->Bool) (draw:Nat->List Oper->St->T St):Prop:=
 ∀(id:Nat) (ops:Array Oper),qu id ops.toList=true->∀(E:En) (s s':St) (a:Act) (w:World) (Q:Exit->Act->World->Prop),(∀o∈ops.toList,∀d,o.dst=some d->d<a.tmps.size)->Fit E s a w->(draw id ops.toList s).leaf E.ρ=some s'->
  (∀a' w',mH E s a w s' a' w'->Q .normal a' w')->(Code.region id ops true).wp P Q a w
def jJ (qu:Nat->List Oper->Bool) (n:Nat):Code->Bool
 | .region id ops d=>afK n ops.toList&&(!d||qu id ops.toList)
 | .seq a b=>jJ qu n a&&jJ qu n b
 | .cond _ a b=>jJ qu n a&&jJ qu n b
 | .block _ b=>jJ qu n b
 | .loop b=>jJ qu n b
 | .scope b=>jJ qu n b
 |_=>true
theorem aay {n m:Nat} {ops:List Oper} (h:afK n ops=true) (hm:n<=m): ∀o∈ops,∀d,o.dst=some d->d<m:=by
 intro o ho d hd;unfold afK at h
 grind
def xc:Ex->Exit
 | .normal=> .normal
 | .exit id=> .exit id
 | .ret=> .ret
def afW [bI] (E:En) (s:St) (a:Act) (w:World) (e:Ex) (s':St) (x:Exit) (a':Act) (w':World):Prop:=x=xc e/\mH E s a w s' a' w'
theorem mH.comp [bI] {E E1:En} {s s1 s2:St} {a a1 a2:Act} {w w1 w2:World} (d1:a1.defers=a.defers) (z1:a1.tmps.size=a.tmps.size) (C0:eM E s.h w E1 s1.h w1) (Z:mH E1 s1 a1 w1 s2 a2 w2):mH E s a w s2 a2 w2:=by obtain⟨d2,z2,E2,tL,f2⟩:=Z;exact⟨d2.trans d1,z2.trans z1,E2,C0.trans tL,f2⟩
def p_ [bI] (P:Program) (c:Code) (n:Nat) (f:St->T (Ex×St)):Prop:=
 ∀(E:En) (s s':St) (e:Ex) (a:Act) (w:World),n<=a.tmps.size->Fit E s a w->(f s).leaf E.ρ=some (e,s')->c.wp P (afW E s a w e s') a w
theorem Ec {ρ:Nat->Int} {f:St->T (Ex×St)}: ∀(k:Nat) {s s':St} {e:Ex},(u7 f k s).leaf ρ=some (e,s')->e≠.normal
 |0,s,s',e,h=>by simp [u7,T.leaf] at h
 |k+1,s,s',e,h=>by
  simp only [u7] at h;obtain⟨⟨e1,s1⟩,U,Z⟩:=T.eX h
  cases e1 with
  |normal=>exact Ec k Z
  |exit id=>have:=bC Z; simp only [ak] at this; rw [<- this.1]; simp
  |ret=>have:=bC Z; simp only [ak] at this; rw [<- this.1]; simp
theorem He [bI] {c:Code} {n:Nat} {f:St->T (Ex×St)} (hf:p_ P c n f): ∀(k:Nat) {E:En} {s s':St} {e:Ex} {a:Act} {w:World},n<=a.tmps.size->Fit E s a w->(u7 f k s).leaf E.ρ=some (e,s')->
 ∀(Q:Exit->Act->World->Prop),(∀a' w',mH E s a w s' a' w'->Q (xc e) a' w')->e≠.normal/\Code.rounds P c Q k a w
 |0,E,s,s',e,a,w,_,_,h,_,_=>by simp [u7,T.leaf] at h
 |k+1,E,s,s',e,a,w,hn,fit,h,Q,hq=>by
  simp only [u7] at h;obtain⟨⟨e1,s1⟩,U,Z⟩:=T.eX h;have hw:=hf E s s1 e1 a w hn fit U;rw [rounds_succ]
  cases e1 with
  |normal=>
   simp only at Z;constructor
   ·exact Ec k Z
   ·refine wp_mono hw fun x a1 w1 ⟨hx,ht⟩=>?_;subst hx;obtain⟨d1,z1,E1,C0,f1⟩:=ht;exact (He hf k (by rw [z1]; exact hn) f1 (by rw [C0.ρ]; exact Z) Q fun a' w' ht'=>hq a' w' (ht'.comp d1 z1 C0)).2
  |exit id=> have:=bC Z;simp only [ak] at this;obtain⟨rfl,rfl⟩:=this;refine⟨ad,wp_mono hw fun x a1 w1 ⟨hx,ht⟩=>?_⟩;subst hx;exact hq a1 w1 ht
  |ret=> have:=bC Z;simp only [ak] at this;obtain⟨rfl,rfl⟩:=this;refine⟨ad,wp_mono hw fun x a1 w1 ⟨hx,ht⟩=>?_⟩;subst hx;exact hq a1 w1 ht
theorem kG [bI] {tt:TT} (cJ:ep P tt) {call:eh} (hc:gY P call) {draw:Nat->List Oper->St->T St} {qu:Nat->List Oper->Bool} (Fi:vq P qu draw) {lf n:Nat}: ∀(c:Code),jJ qu n c=true->p_ P c n (iP tt call draw lf c)
 | .skip,_,E,s,s',e,a,w,_,fit,h=>by have:=bC h;simp only [ak] at this;obtain⟨rfl,rfl⟩:=this;exact wp_skip ⟨rfl,mH.refl fit⟩
 | .region id ops d,mG,E,s,s',e,a,w,hn,fit,h=>by
   simp only [iP] at h;simp only [jJ,an] at mG;have hd:=aay mG.1 hn;cases d
   ·simp only [aL,if_false] at h;obtain⟨s1,U,Z⟩:=T.eX h;have:=bC Z;simp only [ak] at this;obtain⟨rfl,rfl⟩:=this;refine wp_region ?_;have:=Eb (Q:=afW E s a w .normal s1) cJ hc ops.toList 0 ad hd fit U (fun a' w' ht=> ⟨rfl,ht⟩);rw [List.range_eq_range']
    grind
   ·simp only [if_true] at h;obtain⟨s1,U,Z⟩:=T.eX h;have:=bC Z;simp only [ak] at this;obtain⟨rfl,rfl⟩:=this;exact Fi id ops (by simpa using mG.2) E s s1 a w _ hd fit U (fun a' w' ht=> ⟨rfl,ht⟩)
 | .seq x y,mG,E,s,s',e,a,w,hn,fit,h=>by
   simp only [jJ,an] at mG;simp only [iP] at h;obtain⟨⟨e1,s1⟩,U,Z⟩:=T.eX h;refine wp_seq (wp_mono (kG cJ hc Fi x mG.1 E s s1 e1 a w hn fit U) fun q a1 w1 ⟨hx,ht⟩=>?_);subst hx
   cases e1 with
   |normal=> simp only at Z;obtain⟨d1,z1,E1,C0,f1⟩:=ht;refine wp_mono (kG cJ hc Fi y mG.2 E1 s1 s' e a1 w1 (by rw [z1]; exact hn) f1 (by rw [C0.ρ]; exact Z)) fun q a2 w2 ⟨hx,ht'⟩=>?_;exact⟨hx,ht'.comp d1 z1 C0⟩
   |exit id=> have:=bC Z;simp only [ak] at this;obtain⟨rfl,rfl⟩:=this;exact⟨rfl,ht⟩
   |ret=> have:=bC Z;simp only [ak] at this;obtain⟨rfl,rfl⟩:=this;exact⟨rfl,ht⟩
 | .cond c x y,mG,E,s,s',e,a,w,hn,fit,h=>by
   simp only [jJ,an] at mG;simp only [iP] at h;split at h
   ·rename_i cb hcb;have hv:=fU fit.sr hcb;simp only [VR] at hv;obtain⟨dZ,fh,U⟩:=cH fit.pc h;have T1:Fit E { s with pc:=dZ } a w:=⟨fit.rel,fit.sr,fh⟩;refine wp_cond hv ?_;cases Ru:cb.den E.ρ<;>rw [Ru] at U
    ·simp only [aL,if_false] at U ⊢;exact wp_mono (kG cJ hc Fi y mG.2 E _ s' e a w hn T1 U) fun q a2 w2 ⟨hx,ht⟩=> ⟨hx,ht.defers,ht.size,ht.step⟩
    ·simp only [if_true] at U ⊢;exact wp_mono (kG cJ hc Fi x mG.1 E _ s' e a w hn T1 U) fun q a2 w2 ⟨hx,ht⟩=> ⟨hx,ht.defers,ht.size,ht.step⟩
   ·simp [T.leaf] at h
 | .block id b,mG,E,s,s',e,a,w,hn,fit,h=>by
   simp only [jJ] at mG;simp only [iP] at h;obtain⟨⟨e1,s1⟩,U,Z⟩:=T.eX h;refine wp_block (wp_mono (kG cJ hc Fi b mG E s s1 e1 a w hn fit U) fun q a1 w1 ⟨hx,ht⟩=>?_);subst hx
   cases e1 with
   |normal=> have:=bC Z;simp only [ak] at this;obtain⟨rfl,rfl⟩:=this;exact⟨rfl,ht⟩
   |exit j=>
    have:=bC Z;simp only [ak] at this;obtain⟨rfl,rfl⟩:=this;simp only [xc,Exit.inBlock];by_cases hj:j=id
    ·rw [ah hj,ah hj]; exact⟨rfl,ht⟩
    ·rw [af hj,af hj]; exact⟨rfl,ht⟩
   |ret=> have:=bC Z;simp only [ak] at this;obtain⟨rfl,rfl⟩:=this;exact⟨rfl,ht⟩
 | .loop b,mG,E,s,s',e,a,w,hn,fit,h=>by simp only [jJ] at mG;simp only [iP] at h;exact wp_loop_rounds lf (He (kG cJ hc Fi b mG) lf hn fit h (afW E s a w e s') (fun a' w' ht=> ⟨rfl,ht⟩)).2
 | .exit id,_,E,s,s',e,a,w,_,fit,h=>by have:=bC h;simp only [ak] at this;obtain⟨rfl,rfl⟩:=this;exact wp_exit ⟨rfl,mH.refl fit⟩
 | .scope b,mG,E,s,s',e,a,w,hn,fit,h=>by simp only [jJ] at mG;simp only [iP] at h;refine wp_scope_straight (wp_mono (kG cJ hc Fi b mG E s s' e a w hn fit h) fun q a1 w1 ⟨hx,ht⟩=>?_);subst hx;cases e<;>exact⟨rfl,ht⟩
 | .label l,_,E,s,s',e,a,w,_,fit,h=>by have:=bC h;simp only [ak] at this;obtain⟨rfl,rfl⟩:=this;exact wp_label ⟨rfl,mH.refl fit⟩
 | .ret,_,E,s,s',e,a,w,_,fit,h=>by have:=bC h;simp only [ak] at this;obtain⟨rfl,rfl⟩:=this;exact wp_ret ⟨rfl,mH.refl fit⟩
 | .rangeFunc _ _ _ _,_,E,s,s',e,a,w,_,fit,h=>by simp [iP,T.leaf] at h
 | .goto _,_,E,s,s',e,a,w,_,fit,h=>by simp [iP,T.leaf] at h
 | .refuse _,_,E,s,s',e,a,w,_,fit,h=>by simp [iP,T.leaf] at h
end
section
variable {P:Program}
theorem K3: ∀(args:List W) (i:Nat) (t:Tr W) (k:Nat),(cf args i t).get k=if i<=k/\k<i+args.length then args[k-i]? else t.get k
 |[],i,t,k=>by
  have: ¬(i<=k/\k<i+([]:List W).length):=ad
  rw [af this];rfl
 |v::vs,i,t,k=>by
  simp only [cf,K3 vs (i+1),Tr.bR,aK]
  grind
theorem cB.get {E:En} {h:Array Obj}: ∀{vs:List W} {us:List Value},cB E h vs us->∀(i:Nat) (v:W),vs[i]?=some v->∃u,us[i]?=some u/\VR E h v u
 |[],us,hv,i,v,hi=>by simp at hi
 |x::xs,us,hv,i,v,hi=>by
  cases us with
  |nil=>simp [cB] at hv
  |cons y ys=>
   simp only [cB] at hv;obtain⟨u',gr,he,U,Z⟩:=hv;simp only [List.cons.injEq] at he;obtain⟨rfl,rfl⟩:=he
   cases i with
   |zero=>simp at hi; subst hi; exact⟨y,ad,U⟩
   |succ i=>simpa using cB.get Z i v (by simpa using hi)
theorem yJ {E:En} {h:Array Obj} {args:List W} {vals:List Value} (hv:cB E h args vals) (n:Nat) :
 SR E h (cf args 0 .nil) { tmps:=vals.toArray++Array.replicate n undef,defers:=[] }:=by
 intro t v ht;rw [K3] at ht;split at ht
 ·rename_i hk;obtain⟨u,U,Z⟩:=cB.get hv t v (by simpa using ht)
  grind
 ·simp [Tr.get] at ht
def uh (a:Act):ResultVar->Sem Value
 | .tmp t=>pure (a.tmps.getD t undef)
 | .cell b t=>do loadVar t (<- asAddr (a.tmps.getD b undef))
def Ab (vs:List W):W:=match vs with |[x]=>x|vs=> .tuple vs
theorem F0 {vs:List W} (h: ∀v,vs= [v]->False):Ab vs= .tuple vs:=by
 unfold Ab
 grind
theorem Ce {E:En} {h:Array Obj} {vs:List W} {us:List Value} (g2:cB E h vs us):VR E h (Ab vs) (if h:us.toArray.size=1 then us.toArray[0] else .tuple us.toArray):=by
 cases vs with
 |nil=> simp only [cB] at g2;subst g2;simp [Ab,VR,cB]
 |cons x xs=>
  cases xs with
  |nil=> simp only [cB] at g2;obtain⟨u,gr,rfl,U,rfl⟩:=g2;simpa [Ab] using U
  |cons x2 xs=>
   have g3:=g2;simp only [cB] at g2;obtain⟨u,gr,rfl,U,u2,us2,rfl,Z,h3⟩:=g2;have: ¬((u::u2::us2).toArray.size=1):=ad
   rw [dif_neg this];simp only [Ab,VR]
   grind
theorem LA [bI] {tt:TT} (cJ:ep P tt) {E:En} {s:St} {a:Act} {w:World} (fit:Fit E s a w) {r:ResultVar} {v:W} (h:zf tt s r=some v) :
 ∃u,(uh a r).run P w= .ok u w/\VR E w.heap v u:=by
 cases r with
 |tmp t=> simp only [zf] at h;obtain⟨u,U,Z⟩:=fit.sr t v h;exact⟨u,by simp [uh,U,amH],Z⟩
 |cell b t=>
  simp only [zf] at h;split at h
  ·rename_i p hp;obtain⟨u,U,Z⟩:=fit.sr b p hp;obtain⟨x,bb,o,rfl,h3,h4⟩:=AH cJ fit.rel Z h;exact⟨x,by simp [uh,U,amH,asAddr,h3],h4⟩
  grind
theorem sZ [bI] {tt:TT} (cJ:ep P tt) {E:En} {s:St} {a:Act} {w:World} (fit:Fit E s a w): ∀{rs:List ResultVar} {vs:List W},kE tt s rs=some vs->
 ∃us,(rs.mapM (uh a)).run P w= .ok us w/\cB E w.heap vs us
 |[],vs,h=>by simp [kE] at h;subst h;exact⟨[],ad,by simp [cB]⟩
 |r::rs,vs,h=>by
  simp only [kE] at h;split at h
  ·grind
  ·rename_i v hv;split at h
   ·grind
   ·rename_i Mr GJ;simp at h;subst h;obtain⟨u,U,Z⟩:=LA cJ fit hv;obtain⟨us,h3,h4⟩:=sZ cJ fit GJ;refine⟨u::us,?_,by simp only [cB]; exact⟨u,us,rfl,Z,h4⟩⟩;rw [amJ];simp [Sem.run_bind,U,h3]
def Ux (P:Program) (qu:Nat->Nat->List Oper->Bool) (ft:Nat->Option Func):Prop:= ∀g fn,ft g=some fn->P.funcs[g]?=some fn/\(fn.name == "runtime.NumGoroutine")=false/\∀c,fn.body=some c->jJ (qu g) fn.ntmps c=true
theorem s5 [bI] {tt:TT} (cJ:ep P tt) {qu:Nat->Nat->List Oper->Bool} {ft:Nat->Option Func} (hft:Ux P qu ft) {hook:Nat->Option (List W->St->T (W×St))} (hh: ∀g h,hook g=some h->iE P g h)
 {draw:eh->Nat->Nat->List Oper->St->T St} (Fi: ∀call,gY P call->∀g,vq P (qu g) (draw call g)) (lf:Nat): ∀(n:Nat),gY P (Ee tt ft hook draw lf n)
 |0=>by intro g args s E w vals v s' _ _ _ h;simp [Ee,T.leaf] at h
 |n+1=>by
  have ih:=s5 cJ hft hh Fi lf n;intro g args s E w vals v s' r hv hp h;simp only [Ee] at h;split at h
  ·rename_i f hf;exact hh g f hf args s E w vals v s' r hv hp h
  ·split at h
   ·simp [T.leaf] at h
   ·rename_i fn tA;obtain⟨hf,j3,mG⟩:=hft g fn tA;split at h
    ·simp [T.leaf] at h
    ·rename_i c Y;obtain⟨⟨e,s1⟩,U,Z⟩:=T.eX h
     have fit:Fit E { s with bD:=cf args 0 .nil } { tmps:=vals.toArray++Array.replicate (fn.ntmps-vals.toArray.size) undef,defers:=[] } w:=
      ⟨r,yJ hv _,hp⟩
     have hwp:=kG cJ ih (Fi _ ih g) (lf:=lf) c (mG c Y) E _ s1 e _ w (by simp; omega) fit U
     have akL: ∃vs,kE tt s1 fn.results.toList=some vs/\(e= .normal\/e= .ret)/\s'= { s1 with bD:=s.bD }/\v=Ab vs:=by
      cases e with
      |exit id=>simp [T.leaf] at Z
      |normal=>
       simp only at Z;split at Z
       ·rename_i x hx;have:=bC Z;simp only [ak] at this;exact⟨_,hx,.inl rfl,this.2.symm,this.1.symm⟩
       ·rename_i vs hn hx;have:=bC Z;simp only [ak] at this;refine⟨_,hx,.inl rfl,this.2.symm,?_⟩;rw [<- this.1];exact (F0 hn).symm
       ·simp [T.leaf] at Z
      |ret=>
       simp only at Z;split at Z
       ·rename_i x hx;have:=bC Z;simp only [ak] at this;exact⟨_,hx,.inr rfl,this.2.symm,this.1.symm⟩
       ·rename_i vs hn hx;have:=bC Z;simp only [ak] at this;refine⟨_,hx,.inr rfl,this.2.symm,?_⟩;rw [<- this.1];exact (F0 hn).symm
       ·simp [T.leaf] at Z
     obtain⟨vs,hr,he,rfl,rfl⟩:=akL
     have hpc:bW E.ρ s1.pc:=by
      obtain⟨_,_,_,⟨_,ht⟩,_⟩:=hwp default [] [];obtain⟨E1,C0,f1⟩:=ht.step;have:=f1.pc;rw [C0.ρ] at this
      grind
     refine⟨rfl,hpc,?_⟩
     have ak8:Calls P g vals.toArray w fun e w''=> ∃u,e= .returned u/\Mp E s w (Ab vs) { s1 with bD:=s.bD } u w'':=by
      refine calls_of_wp hf Y (wp_mono hwp fun x a1 w1 ⟨hx,ht⟩=>?_);subst hx;obtain⟨d1,z1,E1,C0,f1⟩:=ht;obtain⟨us,g1,g2⟩:=sZ cJ f1 hr
      have: ∃u,(results fn a1.tmps).run P w1= .ok u w1/\VR E1 w1.heap (Ab vs) u:=by
       refine⟨if h:us.toArray.size=1 then us.toArray[0] else .tuple us.toArray,?_,?_⟩
       ·have hm:(fn.results.mapM (uh a1)).run P w1= .ok us.toArray w1:=by
         rw [an3];rw [map_eq_pure_bind];simp only [Sem.run_bind,g1];rfl
        have xz:results fn a1.tmps=(do let vs <- fn.results.mapM (uh a1); pure (if h:vs.size=1 then vs[0] else .tuple vs)):=rfl;rw [xz];simp only [Sem.run_bind,hm];rfl
       ·exact Ce g2
      obtain⟨u,g3,g4⟩:=this;rcases he with rfl|rfl
      ·exact⟨d1,u,g3,u,rfl,E1,C0,f1.rel,g4⟩
      ·exact⟨d1,u,g3,u,rfl,E1,C0,f1.rel,g4⟩
     have kZ:(callFunc g vals.toArray).run P w= .ok (.enter g vals.toArray) w:=by unfold callFunc;simp [hf,Y,by simpa using j3]
     unfold kV mR
     grind
end
def Tr.over {α:Type}:Tr α->Tr α->Tr α
 | .nil,b=>b
 | .node v l r,b=> .node (match v with |some x=>some x|none=>b.val) (Tr.over l b.left) (Tr.over r b.right)
def Tr.minus {α:Type}:Tr α->Tr α->Tr α
 | .nil,b=>b
 | .node v l r,b=> .node (match v with |some _=>none|none=>b.val) (Tr.minus l b.left) (Tr.minus r b.right)
theorem Tr.DW {α:Type}: ∀(a b:Tr α) (k:Nat),(Tr.over a b).get k=match a.get k with |some x=>some x|none=>b.get k
 | .nil,b,k=>by simp [Tr.over,Tr.get]
 | .node v l r,b,k=>by
   simp only [Tr.over];rw [Tr.nN,Tr.nN,Tr.vS b k];by_cases h0:k=0
   ·grind
   ·simp only [af h0];by_cases U:(k-1) % 2=0
    ·simp only [ah U]; exact Tr.DW l b.left _
    ·simp only [af U]; exact Tr.DW r b.right _
theorem Tr.AE {α:Type}: ∀(a b:Tr α) (k:Nat),(Tr.minus a b).get k=match a.get k with |some _=>none|none=>b.get k
 | .nil,b,k=>by simp [Tr.minus,Tr.get]
 | .node v l r,b,k=>by
   simp only [Tr.minus];rw [Tr.nN,Tr.nN,Tr.vS b k];by_cases h0:k=0
   ·grind
   ·simp only [af h0];by_cases U:(k-1) % 2=0
    ·simp only [ah U]; exact Tr.AE l b.left _
    ·simp only [af U]; exact Tr.AE r b.right _
structure Sp (E:En) (H:Hp) (w:World) (E':En) (H':Hp) (w':World):Prop where
 ρ:E'.ρ=E.ρ
 dm: ∀id,E.dm id->E'.dm id
 θ: ∀id,E.dm id->E'.θ id=E.θ id
 κ: ∀id,E.dm id->E'.κ id=E.κ id
 ro: ∀b,E.ro b->E'.ro b
 qW: ∀b,E'.ro b->E.ro b\/(∃id o,H.get id=some o/\(E.θ id).1=b)\/w.heap.size<=b
 os:w'.os=w.os
 tape:w'.tape=w.tape
 output:w'.output=w.output
 size:w.heap.size<=w'.heap.size
 bX: ∀b,b<w.heap.size->(∀id o,H.get id=some o->(E.θ id).1≠b)->w'.heap[b]?=w.heap[b]?
 own: ∀id o,H'.get id=some o->(E'.θ id).1<w.heap.size->∃qX o0,H.get qX=some o0/\(E.θ qX).1=(E'.θ id).1
 hd:E'.hd=E.hd
section
variable {E E' E'':En} {H H' H'':Hp} {w w' w'':World}
theorem eM.aj4 (s:eM E H w E' H' w'):Sp E H w E' H' w':=⟨s.ρ,s.dm,s.θ,s.κ,s.ro,s.qW,s.os,s.tape,s.output,s.size,s.bX,s.own,s.hd⟩
theorem Sp.Wy (s:Sp E H w E' H' w') (U:H.next<=H'.next) (Z:H'.res=none) (h3: ∀id,E'.dm id->E.dm id\/(H.next<=id/\id<H'.next)):eM E H w E' H' w':=
 ⟨s.ρ,s.dm,s.θ,s.κ,s.ro,s.qW,U,.inl Z,fun id h=>(h3 id h).elim .inl fun h=> .inr (.inl h),s.os,s.tape,s.output,s.size,s.bX,s.own,s.hd⟩
theorem Sp.trans (a:Sp E H w E' H' w') (b:Sp E' H' w' E'' H'' w''):Sp E H w E'' H'' w'' where
 ρ:=b.ρ.trans a.ρ
 dm:=fun id h=>b.dm id (a.dm id h)
 θ:=fun id h=>(b.θ id (a.dm id h)).trans (a.θ id h)
 κ:=fun id h=>(b.κ id (a.dm id h)).trans (a.κ id h)
 ro:=fun x h=>b.ro x (a.ro x h)
 qW:=fun x h=>by
  rcases b.qW x h with h|⟨id,o,U,Z⟩|h
  ·exact a.qW x h
  ·rcases aQ x w.heap.size with hx|hx
   ·obtain⟨qX,o0,h3,h4⟩:=a.own id o U (by rw [Z]; exact hx);exact .inr (.inl ⟨qX,o0,h3,h4.trans Z⟩)
   ·exact .inr (.inr hx)
  ·exact .inr (.inr (bk a.size h))
 os:=b.os.trans a.os
 tape:=b.tape.trans a.tape
 output:=b.output.trans a.output
 size:=bk a.size b.size
 bX:=fun x hx hn=>by rw [b.bX x (amp hx a.size) ?_,a.bX x hx hn];intro id o ho he;obtain⟨qX,o0,h0,he0⟩:=a.own id o ho (by rw [he]; exact hx);exact hn qX o0 h0 (he0.trans he)
 own:=fun id o ho fe=>by obtain⟨id1,o1,U,Yh⟩:=b.own id o ho (amp fe a.size);obtain⟨qX,o0,h0,he0⟩:=a.own id1 o1 U (by rw [Yh]; exact fe);exact⟨qX,o0,h0,he0.trans Yh⟩
 hd:=b.hd.trans a.hd
theorem Sp.keeps [bI] (s:Sp E H w E' H' w') (r:bP E H w):fg E w.heap E' w'.heap:=
 ⟨s.ρ,s.dm,s.θ,s.κ,s.ro,fun b Y=>s.bX b (r.pS b Y) fun id o ho he=>(r.live id o ho).2.2 (by rw [he]; exact Y)⟩
theorem bP.part [bI] {H1:Hp} (r:bP E H w) (sub: ∀id o,H1.get id=some o->H.get id=some o) (hn:H.next<=H1.next) (hr: ∀q,H1.res=some q->q<H1.next/\¬E.dm q):bP E H1 w:=
 ⟨fun id h=>r.fresh id (bk hn h),hr,fun id o h=>r.live id o (sub id o h),fun i j o o' h h' e=>r.inj i j o o' (sub _ _ h) (sub _ _ h') e,r.pS,r.iT,fun b x Y=> ⟨(r.hid b x Y).1,(r.hid b x Y).2.1,fun id o h=>(r.hid b x Y).2.2 id o (sub id o h)⟩⟩
theorem Yx [bI] {H1 Pq:Hp} (r:bP E H w) (sub: ∀id o,H1.get id=some o->H.get id=some o) (st:eM E H1 w E' Pq w') (r':bP E' Pq w') (n:Nat) (hn: ∀id,n<=id->¬E'.dm id) :
 ∃H':Hp,H'=⟨Tr.over Pq.m (Tr.minus H1.m H.m),n,none⟩/\(∀id o,Pq.get id=some o->H'.get id=some o)/\(∀id o,H.get id=some o->H1.get id=none->H'.get id=some o)/\bP E' H' w'/\Sp E H w E' H' w':=by
 have aiD: ∀id o,H.get id=some o->H1.get id=none->Pq.get id=none:=by
  intro id o h U
  cases Z:Pq.get id with
  |none=>rfl
  |some o'=>
   exfalso;have hd:=(r.live id o h).1;have hθ:=st.θ id hd;obtain⟨qX,o0,g1,g2⟩:=st.own id o' Z (by rw [hθ]; exact fF r h);have:=r.inj qX id o0 o (sub _ _ g1) h (by rw [g2,hθ])
   grind
 have uL: ∀id,(⟨Tr.over Pq.m (Tr.minus H1.m H.m),n,none⟩ : Hp).get id=match Pq.get id with |some x=>some x|none=>match H1.get id with |some _=>none|none=>H.get id:=by
  intro id;simp only [Hp.get,Tr.DW,Tr.AE]
  grind
 have nK: ∀id o,(⟨Tr.over Pq.m (Tr.minus H1.m H.m),n,none⟩ : Hp).get id=some o->Pq.get id=some o\/(Pq.get id=none/\H1.get id=none/\H.get id=some o):=by
  intro id o h
  grind
 have tz: ∀id o,H1.get id=none->H.get id=some o->w'.heap[(E.θ id).1]?=w.heap[(E.θ id).1]?:=by
  intro id o U h;refine st.bX _ (fF r h) fun qX o0 h0 he=>?_;have:=r.inj qX id o0 o (sub _ _ h0) h he
  grind
 have k:fg E w.heap E' w'.heap:=⟨st.ρ,st.dm,st.θ,st.κ,st.ro,fun b Y=>st.bX b (r.pS b Y) fun id o ho he=>(r.live id o (sub _ _ ho)).2.2 (by rw [he]; exact Y)⟩;refine⟨_,rfl,fun id o h=>by rw [uL,h],fun id o h U=>by rw [uL,aiD id o h U,U]; exact h,⟨hn,ad,?_,?_,r'.pS,r'.iT,?_⟩,⟨st.ρ,st.dm,st.θ,st.κ,st.ro,fun b Y=>(st.qW b Y).imp id (Or.imp (fun⟨i,o,U,Z⟩=> ⟨i,o,sub _ _ U,Z⟩) id),st.os,st.tape,st.output,st.size,?_,?_,st.hd⟩⟩
 ·intro id o h;rcases nK id o h with U|⟨U,Z,h3⟩
  ·exact r'.live id o U
  ·obtain⟨g1,g2,g3⟩:=r.live id o h3;refine⟨st.dm id g1,g2.bX k g1 (tz id o Z h3) (r.TU st.hd (fun b Y hn=>st.bX b Y fun i o ho=>hn i o (sub i o ho)) _),?_⟩;rw [st.θ id g1];intro hr;rcases st.qW _ hr with hr|⟨qX,o0,f1,f2⟩|hr
   ·grind
   ·have:=r.inj qX id o0 o (sub _ _ f1) h3 f2
    grind
   grind [fF]
 ·intro i j o o' h h' he;rcases nK i o h with U|⟨U,Z,h3⟩ <;>rcases nK j o' h' with g1|⟨g1,g2,g3⟩
  ·exact r'.inj i j o o' U g1 he
  ·exfalso;rw [st.θ j (r.live j o' g3).1] at he;obtain⟨qX,o0,f1,f2⟩:=st.own i o U (by rw [he]; exact fF r g3);have:=r.inj qX j o0 o' (sub _ _ f1) g3 (f2.trans he)
   grind
  ·exfalso;rw [st.θ i (r.live i o h3).1] at he;obtain⟨qX,o0,f1,f2⟩:=st.own j o' g1 (by rw [<- he]; exact fF r h3);have:=r.inj qX i o0 o (sub _ _ f1) h3 (f2.trans he.symm)
   grind
  ·rw [st.θ i (r.live i o h3).1,st.θ j (r.live j o' g3).1] at he;exact r.inj i j o o' h3 g3 he
 ·refine r.TP st.hd st.size (fun b Y=>(st.qW b Y).imp id (Or.imp (fun⟨i,o,U,Z⟩=> ⟨i,o,sub _ _ U,Z⟩) id)) fun id o h fe=>?_;rcases nK id o h with U|⟨U,Z,h3⟩
  ·obtain⟨qX,o0,f1,f2⟩:=st.own id o U fe;exact⟨qX,o0,sub _ _ f1,f2⟩
  ·exact⟨id,o,h3,by rw [st.θ id (r.live id o h3).1]⟩
 ·intro b Y GM;exact st.bX b Y fun id o h=>GM id o (sub _ _ h)
 ·intro id o h fe;rcases nK id o h with U|⟨U,Z,h3⟩
  ·obtain⟨qX,o0,f1,f2⟩:=st.own id o U fe
   grind
  ·exact⟨id,o,h3,by rw [st.θ id (r.live id o h3).1]⟩
theorem frame [bI] {H1 Pq:Hp} (r:bP E H w) (sub: ∀id o,H1.get id=some o->H.get id=some o) (st:eM E H1 w E' Pq w') (r':bP E' Pq w') (n:Nat) (hn: ∀id,n<=id->¬E'.dm id) :
 ∃H':Hp,H'.next=n/\H'.res=none/\(∀id o,Pq.get id=some o->H'.get id=some o)/\(∀id o,H.get id=some o->H1.get id=none->H'.get id=some o)/\bP E' H' w'/\Sp E H w E' H' w':=by
 obtain⟨H',h0,U,Z,h3,h4⟩:=Yx r sub st r' n hn
 grind
end
section
variable {P:Program}
def E5 [bI] (P:Program) (ρ:Nat->Int) (ops:Array Oper) (o:Oper) (S:Tr W) (H:Hp) (v:W) (H':Hp):Prop:=
 ∀(E:En) (a:Act) (w:World),E.ρ=ρ->bP E H w->SR E w.heap S a->
  (Region.wanted o (yielded ops a.tmps)=false/\v=W.undef/\H'=H)\/
  (Region.wanted o (yielded ops a.tmps)=true/\oI P o a w (fun u w'=> ∃E',eM E H w E' H' w'/\bP E' H' w'/\VR E' w'.heap v u))
theorem E5.wpOp [bI] {ρ:Nat->Int} {ops:Array Oper} {o:Oper} {S:Tr W} {H H':Hp} {v:W} (h:E5 P ρ ops o S H v H') {E:En} {a:Act} {w:World} (hρ:E.ρ=ρ) (r:bP E H w) (sr:SR E w.heap S a)
 {i:Nat} (ho:ops[i]?=some o) {K:Act->World->Prop} {Q:Exit->Act->World->Prop}
 (hk: ∀(u:Value) (E':En) (w':World),eM E H w E' H' w'->bP E' H' w'->VR E' w'.heap v u->K (a.put o.dst u) w'):wpOp P ops Q i K a w:=by
 unfold Go.wpOp;simp only [ho];rcases h E a w hρ r sr with ⟨U,rfl,rfl⟩|⟨U,Z⟩
 ·rw [U];simp only [aL,if_false];exact hk undef E w (eM.refl _ _ _) r jQ
 ·rw [U];simp only [if_true];exact .inl (Z _ _ fun u w' ⟨E',q1,q2,q3⟩=>hk u E' w' q1 q2 q3)
inductive Kind where
 |pa
 |e
 |r
 deriving DecidableEq
structure EX [bI] (P:Program) (ρ:Nat->Int) (ops:Array Oper) (oT:Tr W) (H0:Hp) where
 base:Nat
 bf:Nat->Nat->Bool
 kd:Nat->Kind
 S:Nat->Tr W
 val:Nat->W
 st:Nat->Nat
 nE:Nat
 hp:Nat->Hp
 un:Nat->Nat->Bool
 nW:Nat->Option dG
 gen: ∀i j,bf i j=true->∃(o:Oper) (e:Edge),ops[j]?=some o/\e∈o.after/\Region.binds .any e=true/\(e.on=i\/bf i e.on=true)
 back: ∀(j:Nat) (o:Oper),ops[j]?=some o->∀e∈o.after,Region.binds .any e=true->e.on<j
 dst: ∀(i j:Nat) (oi oj:Oper) (d:Nat),ops[i]?=some oi->ops[j]?=some oj->oi.dst=some d->oj.dst=some d->i=j
 bD: ∀(i:Nat) (o:Oper),ops[i]?=some o->∀t x,(S i).get t=some x->(∃(j:Nat) (oj:Oper),bf j i=true/\ops[j]?=some oj/\oj.dst=some t/\val j=x)\/(oT.get t=some x/\∀(j:Nat) (oj:Oper),ops[j]?=some oj->oj.dst=some t->bf i j=true)
 stl: ∀(j:Nat) (o:Oper),ops[j]?=some o->kd j= .e->st j<nE
 inj: ∀i j,kd i= .e->kd j= .e->st i=st j->i=j
 ahF: ∀(j:Nat) (o:Oper),ops[j]?=some o->kd j= .e->∀m,m<st j->∃i,kd i= .e/\st i=m/\bf i j=true
 pa: ∀(i:Nat) (o:Oper),ops[i]?=some o->kd i= .pa->∃HA N,E5 P ρ ops o (S i) ⟨.nil,N,some (base+i)⟩ (val i) HA/\HA.next=N/\nW i=HA.get (base+i)/\∀k,k<=nE->(hp k).next<=N
 ev: ∀(j:Nat) (o:Oper),ops[j]?=some o->kd j= .e->∃JV,E5 P ρ ops o (S j) JV (val j) (hp (st j+1))/\JV.next=(hp (st j)).next/\JV.res=none/\
  (∀id x,JV.get id=some x->(hp (st j)).get id=some x\/∃a,bf a j=true/\un (st j) a=true/\id=base+a/\nW a=some x)/\
  (∀a,un (st j+1) a=true->un (st j) a=true/\bf a j=false)
 rd: ∀(i:Nat) (o:Oper),ops[i]?=some o->kd i= .r->∀k,k<=nE->(∀j,kd j= .e->bf j i=true->st j<k)->(∀(j:Nat) (oj:Oper),ops[j]?=some oj->kd j= .e->bf i j=true->k<=st j)->
  ∃JV,E5 P ρ ops o (S i) JV (val i) JV/\JV.next=(hp k).next/\JV.res=none/\
   (∀id x,JV.get id=some x->(hp k).get id=some x\/∃a,bf a i=true/\un k a=true/\id=base+a/\nW a=some x)
 unm: ∀k a x,k<=nE->nW a=some x->un k a=true->(hp k).get (base+a)=none
 nob: ∀i,kd i≠.pa->nW i=none
 first:base=H0.next/\base+ops.size<=(hp 0).next/\∀id x,(hp 0).get id=some x->H0.get id=some x
section
variable {gl:bI} {ρ:Nat->Int} {ops:Array Oper} {oT:Tr W} {H0:Hp} (p:EX P ρ ops oT H0)
structure EX.Inv (E0:En) (a0:Act) (w0:World) (L:Nat->Prop) (a:Act) (w:World):Prop where
 defers:a.defers=a0.defers
 size:a.tmps.size=a0.tmps.size
 closed: ∀i j,p.bf i j=true->L j->L i
 ex: ∃(E:En) (Hc:Hp) (k:Nat),k<=p.nE/\(∀(j:Nat) (o:Oper),ops[j]?=some o->p.kd j= .e->(L j↔p.st j<k))/\E.ρ=ρ/\Sp E0 H0 w0 E Hc w/\bP E Hc w/\Hc.next=(p.hp k).next/\Hc.res=none/\
  p.base+ops.size<=Hc.next/\(∀id,E.dm id->E0.dm id\/H0.next<=id)/\(∀(i:Nat) (o:Oper),ops[i]?=some o->¬L i->¬E.dm (p.base+i))/\
  (∀id x,(p.hp k).get id=some x->Hc.get id=some x)/\(∀b x,L b->p.un k b=true->p.nW b=some x->Hc.get (p.base+b)=some x)/\
  (∀t x,oT.get t=some x->(∀(j:Nat) (oj:Oper),ops[j]?=some oj->oj.dst=some t->¬L j)->∃u,a.tmps[t]?=some u/\VR E w.heap x u)/\
  (∀(j:Nat) (oj:Oper) (t:Nat),L j->ops[j]?=some oj->oj.dst=some t->∃u,a.tmps[t]?=some u/\VR E w.heap (p.val j) u)
theorem Dg {a:Act} {d:Option Nat} {u:Value} {t:Nat} (h:d≠some t):(a.put d u).tmps[t]?=a.tmps[t]?:=by
 cases d with
 |none=>rfl
 |some x=>
  simp only [Act.put]
  grind
theorem N? {a:Act} {u:Value} {t:Nat} (h:t<a.tmps.size):(a.put (some t) u).tmps[t]?=some u:=by simp [Act.put,h]
theorem EX.ajL: ∀(j i:Nat),p.bf i j=true->i<j/\j<ops.size:=by
 intro j
 induction j using Nat.strongRecOn with
 |_ j ih=>
  intro i h;obtain⟨o,e,g1,g2,g3,g4⟩:=p.gen i j h;have fe:=p.back j o g1 e g2 g3
  grind
theorem EX.ac6 {i j:Nat} (h:p.bf i j=true): ∃o:Oper,ops[i]?=some o:=by have:=p.ajL j i h;exact⟨ops[i]'J,ad⟩
theorem EX.step {E0:En} {a0:Act} {w0:World} {L:Nat->Prop} {a:Act} {w:World} (hd: ∀o∈ops.toList,∀d,o.dst=some d->d<a0.tmps.size) (inv:p.Inv E0 a0 w0 L a w) {i:Nat} {o:Oper} (ho:ops[i]?=some o) (hL: ¬L i)
 (hr: ∀e∈o.after,Region.binds .any e=true->L e.on) {K:Act->World->Prop} {Q:Exit->Act->World->Prop} (hk: ∀a' w',p.Inv E0 a0 w0 (fun j=>j=i\/L j) a' w'->K a' w'):wpOp P ops Q i K a w:=by
 obtain⟨U,Z,Cr,E,Hc,k,hkn,Br,hρ,Kf,rel,hnx,xz,jZ,tB,hun,hhp,ng,wP,hs1⟩:=inv
 have hbf: ∀j,p.bf j i=true->L j:=by
  intro j hj;obtain⟨o',e,g1,g2,g3,g4⟩:=p.gen j i hj;rw [ho] at g1;simp at g1;subst g1;have:=hr e g2 g3;rcases g4 with rfl|g4
  ·exact this
  ·exact Cr j e.on g4 this
 have hii:p.bf i i≠true:=fun h=>hL (hbf i h);have xS:i<ops.size:=(amc.1 ho).1
 have sr:SR E w.heap (p.S i) a:=by
  intro t x ht;rcases p.bD i o ho t x ht with ⟨j,oj,g1,g2,g3,g4⟩|⟨g1,g2⟩
  ·subst g4;exact hs1 j oj t (hbf j g1) g2 g3
  ·exact wP t x g1 fun j oj hj hjt hLj=>hL (Cr i j (g2 j oj hj hjt) hLj)
 have IJ: ∀x j,p.bf x j=true->(j=i\/L j)->(x=i\/L x):=by
  intro x j hx hj;rcases hj with rfl|hj
  ·exact .inr (hbf x hx)
  ·exact .inr (Cr x j hx hj)
 have fin: ∀(u:Value) (E':En) (MI:Hp) (w':World) (k':Nat),Sp E Hc w E' MI w'->bP E' MI w'->VR E' w'.heap (p.val i) u->k'<=p.nE->(∀(j:Nat) (o:Oper),ops[j]?=some o->p.kd j= .e->((j=i\/L j)↔p.st j<k'))->
  MI.next=(p.hp k').next->MI.res=none->Hc.next<=MI.next->(∀id,E'.dm id->E.dm id\/Hc.next<=id\/id=p.base+i)->(∀id x,(p.hp k').get id=some x->MI.get id=some x)->
  (∀b x,(b=i\/L b)->p.un k' b=true->p.nW b=some x->MI.get (p.base+b)=some x)->K (a.put o.dst u) w':=by
  intro u E' MI w' k' q1 q2 q3 q4 q5 q6 q7 q8 q9 q10 q11;have kp:=q1.keeps rel;refine hk _ _ ⟨by rw [As.put_defers]; exact U,by rw [Df]; exact Z,IJ,E',MI,k',q4,q5,q1.ρ.trans hρ,Kf.trans q1,q2,q6,q7,bk jZ q8,?_,?_,q10,q11,?_,?_⟩
  ·intro id h;rcases q9 id h with h|h|h
   ·exact tB id h
   ·right;have:=p.first.1;omega
   ·right;have:=p.first.1;omega
  ·intro j oj hj hn hdj;have hj2:=(amc.1 hj).1;rcases q9 _ hdj with h|h|h
   ·exact hun j oj hj (fun h'=>hn (.inr h')) h
   ·omega
   ·exact hn (.inl J)
  ·intro t x ht GM;obtain⟨y,g1,g2⟩:=wP t x ht fun j oj hj hjt h'=>GM j oj hj hjt (.inr h');exact⟨y,by rw [Dg (fun e=>GM i o ho e (.inl rfl))]; exact g1,VR.bX kp _ _ g2⟩
  ·intro j oj t hj oM ht;by_cases hji:j=i
   ·subst hji;rw [ho] at oM;simp at oM;subst oM;rw [ht];exact⟨u,N? (by rw [Z]; exact hd o (Array.mem_toList_iff.2 (anM ho)) t ht),q3⟩
   ·obtain⟨y,g1,g2⟩:=hs1 j oj t (hj.resolve_left hji) oM ht;refine⟨y,?_,VR.bX kp _ _ g2⟩;rw [Dg]
    ·exact g1
    ·intro h;exact hji (p.dst j i oj o t oM ho ht h)
 cases yP:p.kd i with
 |pa=>
  obtain⟨HA,N,g1,g2,g3,g4⟩:=p.pa i o ho yP;have hN:=g4 k hkn;have akF:=hun i o ho hL
  have r1:bP E ⟨.nil,N,some (p.base+i)⟩ w:=rel.part (by intro id x h; simp [Hp.get,Tr.get] at h) (by show Hc.next<=N; omega) (by
   intro q hq;simp at hq;subst hq
   exact⟨by show p.base+i<N; omega,akF⟩)
  refine g1.wpOp hρ r1 sr ho fun u E' w' st r' hv=>?_
  have hdn: ∀id,E'.dm id->E.dm id\/id=p.base+i:=by
   intro id h;rcases st.ZW id h with h|h|h
   ·exact .inl h
   ·have h':N<=id/\id<HA.next:=h;omega
   ·have h':some (p.base+i)=some id:=h;simp at h';exact .inr h'.symm
  obtain⟨MI,f1,f2,f3,f4,f5,f6⟩:=frame rel (by intro id x h; simp [Hp.get,Tr.get] at h) st r' Hc.next (fun id hid h=>by
   rcases hdn id h with h|h
   ·exact rel.fresh id hid h
   ·omega)
  refine fin u E' MI w' k f6 f5 hv hkn ?_ (by rw [f1,hnx]) f2 J (fun id h=>(hdn id h).elim .inl fun h=> .inr (.inr h)) ?_ ?_
  ·intro j oj oM hj;rw [<- Br j oj oM hj];constructor
   ·intro h;rcases h with rfl|h
    ·rw [yP] at hj; simp at hj
    ·exact h
   ·exact .inr
  ·intro id x h;exact f4 id x (hhp id x h) (by simp [Hp.get,Tr.get])
  ·intro b x Y hu hx;by_cases hbi:b=i
   ·subst hbi;rw [hx] at g3;exact f3 _ _ g3.symm
   ·exact f4 _ x (ng b x (Y.resolve_left hbi) hu hx) (by simp [Hp.get,Tr.get])
 |e=>
  obtain⟨JV,g1,g2,g3,g4,g5⟩:=p.ev i o ho yP
  have N8:k<=p.st i:=by
   rcases aQ (p.st i) k with h|h
   ·exact absurd ((Br i o ho yP).2 h) hL
   ·exact h
  have hsk:p.st i=k:=by
   rcases aQ k (p.st i) with h|h
   ·obtain⟨j,e1,e2,e3⟩:=p.ahF i o ho yP k h;have hj:=hbf j e3;obtain⟨oj,oM⟩:=p.ac6 e3;have:=(Br j oj oM e1).1 hj;omega
   ·omega
  rw [hsk] at g1 g2 g4 g5;have hkE:=p.stl i o ho yP
  have l8: ∀id x,JV.get id=some x->Hc.get id=some x:=by
   intro id x h;rcases g4 id x h with h|⟨b,e1,e2,rfl,e4⟩
   ·exact hhp id x h
   ·exact ng b x (hbf b e1) e2 e4
  have r1:bP E JV w:=rel.part l8 J (by rw [g3]; simp);refine g1.wpOp hρ r1 sr ho fun u E' w' st r' hv=>?_
  have hdn: ∀id,E'.dm id->E.dm id\/Hc.next<=id:=by
   intro id h;rcases st.ZW id h with h|h|h
   ·exact .inl h
   ·right; omega
   ·rw [g3] at h; simp at h
  obtain⟨MI,f1,f2,f3,f4,f5,f6⟩:=frame rel l8 st r' (p.hp (k+1)).next (fun id hid h=>r'.fresh id hid h)
  have alL:=st.NK;refine fin u E' MI w' (k+1) f6 f5 hv J ?_ f1 f2 J (fun id h=>(hdn id h).elim .inl fun h=> .inr (.inl h)) f3 ?_
  ·intro j oj oM hj;constructor
   ·intro h;rcases h with rfl|h
    ·omega
    ·have:=(Br j oj oM hj).1 h;omega
   ·intro h;rcases aQ (p.st j) k with h'|h'
    ·exact .inr ((Br j oj oM hj).2 h')
    ·exact .inl (p.inj j i hj yP J)
  ·intro b x Y hu hx;obtain⟨e1,e2⟩:=g5 b hu;by_cases hbi:b=i
   ·subst hbi;rw [p.nob b (by rw [yP]; simp)] at hx;simp at hx
   ·refine f4 _ x (ng b x (Y.resolve_left hbi) e1 hx) ?_
    cases hy:JV.get (p.base+b) with
    |none=>rfl
    |some y=>
     exfalso;rcases g4 _ y hy with h|⟨c,c1,c2,c3,c4⟩
     ·rw [p.unm k b x hkn hx e1] at h;simp at h
     ·have:c=b:=J
      subst this;rw [e2] at c1;simp at c1
 |r=>
  have hk1: ∀j,p.kd j= .e->p.bf j i=true->p.st j<k:=by intro j hj Y;obtain⟨oj,oM⟩:=p.ac6 Y;exact (Br j oj oM hj).1 (hbf j Y)
  have Cp: ∀(j:Nat) (oj:Oper),ops[j]?=some oj->p.kd j= .e->p.bf i j=true->k<=p.st j:=by
   intro j oj oM hj Y;rcases aQ (p.st j) k with h|h
   ·exact absurd (Cr i j Y ((Br j oj oM hj).2 h)) hL
   ·exact h
  obtain⟨JV,g1,g2,g3,g4⟩:=p.rd i o ho yP k hkn hk1 Cp
  have l8: ∀id x,JV.get id=some x->Hc.get id=some x:=by
   intro id x h;rcases g4 id x h with h|⟨b,e1,e2,rfl,e4⟩
   ·exact hhp id x h
   ·exact ng b x (hbf b e1) e2 e4
  have r1:bP E JV w:=rel.part l8 J (by rw [g3]; simp);refine g1.wpOp hρ r1 sr ho fun u E' w' st r' hv=>?_
  have hdn: ∀id,E'.dm id->E.dm id:=by
   intro id h;rcases st.ZW id h with h|h|h
   ·exact h
   ·omega
   ·rw [g3] at h; simp at h
  obtain⟨MI,f1,f2,f3,f4,f5,f6⟩:=frame rel l8 st r' Hc.next (fun id hid h=>rel.fresh id hid (hdn id h))
  have AA: ∀id x,Hc.get id=some x->MI.get id=some x:=by
   intro id x h
   cases h':JV.get id with
   |none=>exact f4 id x h h'
   |some y=> have:=l8 id y h';rw [h] at this;simp at this;subst this;exact f3 id x h'
  refine fin u E' MI w' k f6 f5 hv hkn ?_ (by rw [f1,hnx]) f2 J (fun id h=> .inl (hdn id h)) (fun id x h=>AA id x (hhp id x h)) ?_
  ·intro j oj oM hj;rw [<- Br j oj oM hj];constructor
   ·intro h;rcases h with rfl|h
    ·rw [yP] at hj; simp at hj
    ·exact h
   ·exact .inr
  ·intro b x Y hu hx;by_cases hbi:b=i
   ·subst hbi;rw [p.nob b (by rw [yP]; simp)] at hx;simp at hx
   ·exact AA _ x (ng b x (Y.resolve_left hbi) hu hx)
def left (l:Nat->Bool):Nat->Nat
 |0=>0
 |n+1=>left l n+(if l n then 0 else 1)
theorem QO {l l':Nat->Bool} (h: ∀j,l j=true->l' j=true): ∀n,left l' n<=left l n
 |0=>au _
 |n+1=>by
  have:=QO h n;simp only [left]
  grind
theorem QN {l l':Nat->Bool} (h: ∀j,l j=true->l' j=true) {i:Nat} (U:l i=false) (Z:l' i=true): ∀n,i<n->left l' n<left l n
 |0,hi=>by omega
 |n+1,hi=>by
  have hle:=QO h n;simp only [left];by_cases xS:i=n
  ·grind
  ·have:=QN h U Z n J
   grind
theorem Ap {l:Nat->Bool}: ∀n,left l n=0->∀i,i<n->l i=true
 |0,_,i,hi=>by omega
 |n+1,h,i,hi=>by
  simp only [left] at h;by_cases xS:i=n
  ·grind
  ·exact Ap n J i J
theorem EX.Td (q:EX P ρ ops oT H0) {listed:Array Bool} (gX:listed.size=ops.size) (h:Region.ready .any ops listed= []): ∀i,i<ops.size->listed[i]?=some true:=by
 intro i
 induction i using Nat.strongRecOn with
 |_ i ih=>
  intro hi
  cases hl:listed[i]? with
  |none=>rw [an4] at hl; omega
  |some b=>
   cases b with
   |true=>rfl
   |false=>
    exfalso;have ho:ops[i]?=some ops[i]:=by simp [hi]
    have:i∈Region.ready .any ops listed:=by rw [mem_ready];refine⟨by simp [hl],ops[i],ho,fun e he Y=>?_⟩;have fe:=q.back i _ ho e he Y;simp [ih e.on fe J]
    grind
theorem EX.any {E0:En} {a0:Act} {w0:World} (hd: ∀o∈ops.toList,∀d,o.dst=some d->d<a0.tmps.size) {Q:Exit->Act->World->Prop} (hq: ∀a w,p.Inv E0 a0 w0 (fun i=>i<ops.size) a w->Q .normal a w) :
 ∀(fuel:Nat) (listed:Array Bool) (a:Act) (w:World),listed.size=ops.size->left (fun i=>listed.getD i true) ops.size<=fuel->p.Inv E0 a0 w0 (fun i=>listed[i]?=some true) a w->wpAny P .any ops Q fuel listed a w:=by
 have Yg: ∀(listed:Array Bool) (a:Act) (w:World),listed.size=ops.size->p.Inv E0 a0 w0 (fun i=>listed[i]?=some true) a w->Region.ready .any ops listed= []->Q .normal a w:=by
  intro listed a w gX inv nJ;have AA:=p.Td gX nJ;refine hq a w ?_
  have:(fun i=>listed[i]?=some true)=(fun i=>i<ops.size):=by
   grind
  grind
 intro fuel
 induction fuel with
 |zero=>
  intro listed a w gX Rp inv;have AA:=Ap (l:=fun i=>listed.getD i true) ops.size J
  have nJ:Region.ready .any ops listed= []:=by
   rw [anm];intro i hi;rw [mem_ready] at hi
   grind
  exact⟨nJ,Yg listed a w gX inv nJ⟩
 |succ fuel ih=>
  intro listed a w gX Rp inv;refine⟨Yg listed a w gX inv,fun i hi=>?_⟩;rw [mem_ready] at hi;obtain⟨U,o,Z,h3⟩:=hi;have xS:=(amc.1 Z).1
  have pL:listed[i]?=some false:=by simp_all
  refine p.step hd inv Z (by rw [pL]; simp) (fun e he Y=>?_) fun a' w' alQ=>?_
  ·have:=h3 e he Y
   cases hc:listed[e.on]? with
   |none=>simp [hc] at this
   |some b=>simp [hc] at this; rw [this]
  ·refine ih _ a' w' (by simpa using gX) ?_ ?_
   ·have:=QN (l:=fun j=>listed.getD j true) (l':=fun j=>(listed.setIfInBounds i true).getD j true) (i:=i) (fun j hj=>?_) U ?_ ops.size xS
    ·omega
    ·by_cases hij:i=j
     all_goals simp_all
    simp_all
   grind
theorem EX.start {E0:En} {s0:St} {a0:Act} {w0:World} (hs:s0.bD=oT) (hh:s0.h=H0) (hρ:E0.ρ=ρ) (fit:Fit E0 s0 a0 w0) (listed:Array Bool) (hl: ∀(i:Nat),listed[i]?≠some true):p.Inv E0 a0 w0 (fun i=>listed[i]?=some true) a0 w0:=by
 subst hs hh;obtain⟨U,Z,h3⟩:=p.first;have rel:=fit.rel;have r1:bP E0 ⟨s0.h.m,(p.hp 0).next,none⟩ w0:=rel.part (fun id x h=>h) (by show s0.h.next<=(p.hp 0).next; omega) ad;refine⟨rfl,rfl,fun i j _ h=>absurd h (hl j),E0,⟨s0.h.m,(p.hp 0).next,none⟩,0,aml _,fun j o _ _=> ⟨fun h=>absurd h (hl j),fun h=>by omega⟩,hρ,?_,r1,rfl,rfl,Z,fun id h=> .inl h,?_,fun id x h=>h3 id x h,fun b x h=>absurd h (hl b),?_,fun j oj t h=>absurd h (hl j)⟩
 ·have:=(eM.refl E0 s0.h w0).aj4;exact⟨this.ρ,this.dm,this.θ,this.κ,this.ro,this.qW,this.os,this.tape,this.output,this.size,this.bX,this.own,this.hd⟩
 ·intro i o _ _ tB;exact rel.fresh _ J tB
 ·intro t x ht _;exact fit.sr t x ht
theorem EX.finish {E0:En} {s0 s':St} {a0 a:Act} {w0 w:World} (hh:s0.h=H0) (inv:p.Inv E0 a0 w0 (fun i=>i<ops.size) a w) (hpc:bW ρ s'.pc)
 (akI: ∀t x,s'.bD.get t=some x->(∃(j:Nat) (oj:Oper),ops[j]?=some oj/\oj.dst=some t/\p.val j=x)\/(oT.get t=some x/\∀(j:Nat) (oj:Oper),ops[j]?=some oj->oj.dst≠some t))
 (alM: ∀id x,s'.h.get id=some x->(p.hp p.nE).get id=some x\/∃b,b<ops.size/\p.un p.nE b=true/\id=p.base+b/\p.nW b=some x)
 (ab0:(p.hp p.nE).next=s'.h.next) (xz:s'.h.res=none) (AA: ∀(m:Nat),m<p.nE->∃(j:Nat) (o:Oper),ops[j]?=some o/\p.kd j= .e/\p.st j=m):mH E0 s0 a0 w0 s' a w:=by
 subst hh;obtain⟨U,Z,Cr,E,Hc,k,hkn,Br,hρ,Kf,rel,hnx,N4,jZ,tB,hun,hhp,ng,wP,hs1⟩:=inv
 have hk:k=p.nE:=by
  rcases aQ k p.nE with h|h
  all_goals grind
 subst hk
 have l8: ∀id x,s'.h.get id=some x->Hc.get id=some x:=by
  intro id x h
  grind
 have hf:=p.first.1;refine⟨U,Z,E,?_,rel.part l8 J (by rw [xz]; simp),?_,by rw [hρ]; exact hpc⟩
 ·refine Sp.Wy ⟨Kf.ρ,Kf.dm,Kf.θ,Kf.κ,Kf.ro,Kf.qW,Kf.os,Kf.tape,Kf.output,Kf.size,Kf.bX,fun id o h=>Kf.own id o (l8 id o h),Kf.hd⟩ J xz fun id h=>?_;rcases tB id h with g|g
  ·grind
  ·right;refine⟨g,?_⟩;rcases aQ id s'.h.next with g'|g'
   ·exact g'
   ·exact absurd h (rel.fresh id J)
 ·intro t x ht
  grind
end
end
end Go.As
end
section
namespace Go.As
noncomputable section
mutual
def eC:W->W->Bool
 | .bool a,.bool b=>nX a b
 | .int k a,.int l b=>decide (k=l)&&eQ a b
 | .str a,.str b=>decide (a=b)
 | .ptr i o,.ptr j p=>decide (i=j)&&decide (o=p)
 | .tN,.tN=>true
 | .mY a,.mY b=>ia a b
 | .slice i o l c,.slice j p m d=>decide (i=j)&&decide (o=p)&&decide (l=m)&&decide (c=d)
 | .eg,.eg=>true
 | .ro a n f,.ro b m g=>ia a b&&decide (n=m)&&decide (f=g)
 | .map i,.map j=>decide (i=j)
 | .rD,.rD=>true
 | .func f a b,.func g c d=>decide (f=g)&&ia a c&&ia b d
 | .wv,.wv=>true
 | .iface t v,.iface u x=>decide (t=u)&&eC v x
 | .xn,.xn=>true
 | .agg a,.agg b=>ia a b
 | .tuple a,.tuple b=>ia a b
 | .KG i,.KG j=>decide (i=j)
 | .wz i a,.wz j b=>decide (i=j)&&decide (a=b)
 | .emp,.emp=>true
 | .ej a t,.ej b u=>eQ a b&&Nat.beq t u
 | .jA a,.jA b=>eQ a b
 | .oS i n t,.oS j m u=>Nat.beq i j&&eQ n m&&Nat.beq t u
 | .zq i a x o,.zq j b y p=>Nat.beq i j&&Nat.beq a b&&eQ x y&&Nat.beq o p
 | .tK i l n t,.tK j k m u=>Nat.beq i j&&eQ l k&&eQ n m&&Nat.beq t u
 | .any,.any=>true
 | .wZ a t,.wZ b u=>eQ a b&&Nat.beq t u
 |_,_=>false
def ia:List W->List W->Bool
 |[],[]=>true
 |x::xs,y::ys=>eC x y&&ia xs ys
 |_,_=>false
end
mutual
theorem jt: ∀(x y:W),eC x y=true->x=y
 | .bool a,y,h=>by cases y<;>simp [eC] at h<;>rw [rp _ _ h]
 | .int k a,y,h=>by cases y<;>simp [eC] at h<;>rw [h.1,cO _ _ h.2]
 | .str a,y,h=>by cases y<;>simp [eC] at h<;>simp [h]
 | .ptr i o,y,h=>by cases y<;>simp [eC] at h<;>simp [h]
 | .tN,y,h=>by cases y<;>simp [eC] at h<;>rfl
 | .mY a,y,h=>by cases y<;>simp [eC] at h; rw [fD _ _ h]
 | .slice i o l c,y,h=>by cases y<;>simp [eC] at h<;>simp [h]
 | .eg,y,h=>by cases y<;>simp [eC] at h<;>rfl
 | .ro a n f,y,h=>by cases y<;>simp [eC] at h; rw [fD _ _ h.1.1,h.1.2,h.2]
 | .map i,y,h=>by cases y<;>simp [eC] at h<;>simp [h]
 | .rD,y,h=>by cases y<;>simp [eC] at h<;>rfl
 | .func f a b,y,h=>by cases y<;>simp [eC] at h; rw [h.1.1,fD _ _ h.1.2,fD _ _ h.2]
 | .wv,y,h=>by cases y<;>simp [eC] at h<;>rfl
 | .iface t v,y,h=>by cases y<;>simp [eC] at h; rw [h.1,jt _ _ h.2]
 | .xn,y,h=>by cases y<;>simp [eC] at h<;>rfl
 | .agg a,y,h=>by cases y<;>simp [eC] at h; rw [fD _ _ h]
 | .tuple a,y,h=>by cases y<;>simp [eC] at h; rw [fD _ _ h]
 | .KG i,y,h=>by cases y<;>simp [eC] at h<;>simp [h]
 | .wz i a,y,h=>by cases y<;>simp [eC] at h<;>simp [h]
 | .emp,y,h=>by cases y<;>simp [eC] at h<;>rfl
 | .ej a t,y,h=>by cases y<;>simp [eC] at h<;>rw [h.2,cO _ _ h.1]
 | .jA a,y,h=>by cases y<;>simp [eC] at h<;>rw [cO _ _ h]
 | .oS i n t,y,h=>by cases y<;>simp [eC] at h<;>rw [h.1.1,cO _ _ h.1.2,h.2]
 | .zq i a x o,y,h=>by cases y<;>simp [eC] at h<;>rw [h.1.1.1,h.1.1.2,cO _ _ h.1.2,h.2]
 | .tK i l n t,y,h=>by cases y<;>simp [eC] at h<;>rw [h.1.1.1,cO _ _ h.1.1.2,cO _ _ h.1.2,h.2]
 | .any,y,h=>by cases y<;>simp [eC] at h<;>rfl
 | .wZ a t,y,h=>by cases y<;>simp [eC] at h<;>rw [h.2,cO _ _ h.1]
theorem fD: ∀(xs ys:List W),ia xs ys=true->xs=ys
 |[],ys,h=>by cases ys<;>simp [ia] at h; rfl
 |x::xs,ys,h=>by
  cases ys with
  |nil=>simp [ia] at h
  |cons y ys=>simp [ia] at h; rw [jt _ _ h.1,fD _ _ h.2]
end
def Dn (o:Op):List Nat:=o.operands.toList.filterMap fun
 | .tmp t=>some t
 |_=>none
def reads (all:List Oper) (o:Oper):List Nat:=match o.guard with
 |none=>Dn o.op
 |some (j,_)=>match eS all j with
  |some oj=>match oj.dst with
   |some d=>d::Dn o.op
   |none=>Dn o.op
  |none=>Dn o.op
def kindOf (tt:TT):Op->Kind
 | .load _ _=> .r
 | .lookup _ _ _ _=> .r
 | .call c=>match c.callee with
   | .builtin b=>match b with
     | .len=> .r
     | .min=> .pa
     | .max=> .pa
     |_=> .e
   |_=> .e
 | .store _ _ _=> .e
 | .insert _ _ _ _=> .e
 | .mapUpdate _ _ _ _=> .e
 | .next _ _=> .e
 | .range _ _=> .e
 | .convert t u _=>match tt t with
   |some i=>match i.kind with
    | .slice _=>match tt u with
      |some j=>match j.kind with
       | .string=> .r
       |_=> .e
      |none=> .e
    |_=> .pa
   |none=> .e
 | .panic _=> .e
 |_=> .pa
def nP (ms:List Nat):List Edge->Nat
 |[]=>0
 |e::es=>if Region.binds .any e then ((1 <<<e.on)|||ms.getD e.on 0)|||nP ms es else nP ms es
def pX:List Oper->List Nat->List Nat
 |[],ms=>ms
 |o::os,ms=>pX os (ms++ [nP ms o.after.toList])
structure Item where
 i:Nat
 o:Oper
 m:Nat
 k:Kind
 st:Nat
 rd:List Nat
def items (tt:TT) (all:List Oper) (ms:List Nat):List Oper->Nat->Nat->List Item
 |[],_,_=>[]
 |o::os,i,n=> ⟨i,o,ms.getD i 0,kindOf tt o.op,n,reads all o⟩ ::items tt all ms os (i+1) (match kindOf tt o.op with | .e=>n+1|_=>n)
def Kind.isE:Kind->Bool
 | .e=>true
 |_=>false
def Kind.V':Kind->Bool
 | .r=>true
 |_=>false
def xl (ms:List Nat) (is:List Item) (x:Item):Bool:=
 x.o.after.toList.all (fun e=>!Region.binds .any e||decide (e.on<x.i))&&
 decide (x.m=nP ms x.o.after.toList)&&
 x.rd.all (fun t=>is.all fun y=>decide (y.o.dst≠some t)||x.m.testBit y.i||(!x.k.V'&&y.m.testBit x.i))&&
 is.all (fun y=>decide (y.i=x.i)||(match y.o.dst with |some d=>decide (x.o.dst≠some d)|none=>true))&&
 (!x.k.isE||is.all fun y=>!y.k.isE||!decide (y.i<x.i)||x.m.testBit y.i)
def zR (is:List Item) (n:Nat) (x:Item):List Nat:=
 (List.range (n+1)).filter fun k=>is.all fun y=>!y.k.isE||((!x.m.testBit y.i||decide (y.st<k))&&(!y.m.testBit x.i||decide (k<=y.st)))
structure Stat where
 is:List Item
 nE:Nat
 rs:List (Item×List Nat)
def jB:List Item->Nat
 |[]=>0
 |x::xs=>match x.k with | .e=>jB xs+1|_=>jB xs
def stat (tt:TT) (all:List Oper):Option Stat:=
 let ms:=pX all [];let is:=items tt all ms all 0 0
 if is.all (xl ms is) then
  some ⟨is,jB is,(is.filter (·.k.V')).map fun x=>(x,zR is (jB is) x)⟩
 else none
def only (bD:Tr W):List Nat->Tr W
 |[]=> .nil
 |t::ts=>match bD.get t with
  |some v=>(only bD ts).put t (some v)
  |none=>only bD ts
structure Ps where
 bD:Tr W
 lU:List (Hp×Nat)
 gQ:List (Nat×dG)
 Bi:List (Option dG)
 vs:List W
def fm (base bm mm:Nat):List (Nat×dG)->Hp->Hp
 |[],h=>h
 |(a,x)::r,h=>if bm.testBit a&&!mm.testBit a then (fm base bm mm r h).put (base+a) x else fm base bm mm r h
def u? (tt:TT) (call:eh) (all:List Oper) (o:Oper) (s:St):T (W×St):=
 vE all s o fun s b=>if b then I6 tt call s o.op else .ret (W.undef,s)
def ub (bD:Tr W) (d:Option Nat) (v:W):Tr W:=match d with
 |some t=>bD.put t (some v)
 |none=>bD
def Z3 (tt:TT) (call:eh) (all:List Oper) (base N:Nat) (pc:List (SB×Bool)) (x:Item) (d:Ps):T Ps:=
 match d.lU with
 |[]=> .fail
 |(h,mm)::rest=>
  match x.k with
  | .pa=>(u? tt call all x.o ⟨only d.bD x.rd,⟨.nil,N,some (base+x.i)⟩,pc⟩).bind fun (v,s')=>
    if s'.h.next=N then
     .ret ⟨ub d.bD x.o.dst v,d.lU,match s'.h.get (base+x.i) with |some b=>(x.i,b)::d.gQ|none=>d.gQ,s'.h.get (base+x.i)::d.Bi,v::d.vs⟩
    else .fail
  | .e=>(u? tt call all x.o ⟨only d.bD x.rd,fm base x.m mm d.gQ h,pc⟩).bind fun (v,s')=>
    if s'.h.next<=N/\s'.h.res=none then
     .ret ⟨ub d.bD x.o.dst v,(s'.h,mm|||x.m)::(h,mm)::rest,d.gQ,none::d.Bi,v::d.vs⟩
    else .fail
  | .r=>(u? tt call all x.o ⟨only d.bD x.rd,fm base x.m mm d.gQ h,pc⟩).bind fun (v,_)=>
    .ret ⟨ub d.bD x.o.dst v,d.lU,d.gQ,none::d.Bi,v::d.vs⟩
def T.zC {α β:Type} (pc:List (SB×Bool)) (f:List (SB×Bool)->α->T β):T α->T β
 | .fail=> .fail
 | .ret a=>f pc a
 | .split c x y=>match jK pc c with
   |some true=>T.zC pc f x
   |some false=>T.zC pc f y
   |none=> .split c (T.zC ((c,true)::pc) f x) (T.zC ((c,false)::pc) f y)
def Ue (tt:TT) (call:eh) (all:List Oper) (base N:Nat):List Item->List (SB×Bool)->Ps->T (List (SB×Bool)×Ps)
 |[],pc,d=> .ret (pc,d)
 |x::xs,pc,d=>(Z3 tt call all base N pc x d).zC pc (Ue tt call all base N xs)
def Cf (tt:TT) (call:eh) (all:List Oper) (base:Nat) (pc:List (SB×Bool)) (x:Item) (v:W) (S:Tr W) (gQ:List (Nat×dG)) (lU:List (Hp×Nat)):List Nat->T Unit
 |[]=> .ret ()
 |k::ks=>match eS lU k with
  |some (h,mm)=>(u? tt call all x.o ⟨S,fm base x.m mm gQ h,pc⟩).bind fun (u,_)=>
   if eC u v then Cf tt call all base pc x v S gQ lU ks else .fail
  |none=> .fail
def H8 (tt:TT) (call:eh) (all:List Oper) (base:Nat) (d:Ps) (lU:List (Hp×Nat)) (vs:List W):List (Item×List Nat)->List (SB×Bool)->T (List (SB×Bool))
 |[],pc=> .ret pc
 |(x,ks)::r,pc=>match eS vs x.i with
  |some v=>(Cf tt call all base pc x v (only d.bD x.rd) d.gQ lU ks).zC pc fun pc _=>H8 tt call all base d lU vs r pc
  |none=> .fail
def HH (base:Nat) (gQ:List (Nat×dG)) (lU:List (Hp×Nat)):Bool:=
 gQ.all fun (a,_)=>lU.all fun (h,mm)=>mm.testBit a||(h.get (base+a)).isNone
def Ev (tt:TT) (call:eh) (all:List Oper) (q:Stat) (s:St):T St:=
 match s.h.res with
 |some _=> .fail
 |none=>
 let base:=s.h.next;let n:=all.length;let N:=base+n+1099511627776
 (Ue tt call all base N q.is s.pc ⟨s.bD,[(⟨s.h.m,base+n,none⟩,0)],[],[],[]⟩).bind fun (pc,d)=>
  match d.lU with
  |[]=> .fail
  |(h,mm)::_=>
   (H8 tt call all base d d.lU.reverse d.vs.reverse q.rs pc).bind fun pc=>
    if HH base d.gQ d.lU then .ret ⟨d.bD,fm base ((1 <<<n)-1) mm d.gQ h,pc⟩ else .fail
def draw (tt:TT) (call:eh) (all:List Oper) (s:St):T St:=
 match stat tt all with
 |none=> .fail
 |some q=>Ev tt call all q s
end
end Go.As
end
section
namespace Go.As
section
variable {P:Program}
theorem Jl [bI] {tt:TT} (cJ:ep P tt) {call:eh} (hc:gY P call) {ops:Array Oper} {o:Oper} {s s':St} {v:W} {ρ:Nat->Int} (hp:bW ρ s.pc) (h:(u? tt call ops.toList o s).leaf ρ=some (v,s')) :
 E5 P ρ ops o s.bD s.h v s'.h:=by
 intro E a w hρ r sr;subst hρ;unfold u? at h;obtain⟨dZ,fh,U⟩:=Dq ⟨r,sr,hp⟩ h;cases hw:Region.wanted o (yielded ops a.tmps)<;>rw [hw] at U
 ·grind [bC]
 ·simp only [if_true] at U;obtain⟨_,_,q3⟩:=RE cJ hc (s:={ s with pc:=dZ }) (o:=o) r sr fh U;exact .inr ⟨rfl,q3⟩
theorem ib {α:Type} {ρ:Nat->Int} {s:St} {c:SB} {f:St->Bool->T α} {r:α} (h:(jz s c f).leaf ρ=some r): ∃dZ b,(f { s with pc:=dZ } b).leaf ρ=some r:=by
 unfold jz at h;split at h
 ·rename_i b _; exact⟨s.pc,b,h⟩
 grind [T.leaf]
theorem Ij {α:Type} {ρ:Nat->Int} {s:St} {all:List Oper} {o:Oper} {f:St->Bool->T α} {r:α} (h:(vE all s o f).leaf ρ=some r): ∃dZ b,(f { s with pc:=dZ } b).leaf ρ=some r:=by
 unfold vE at h;split at h
 ·exact⟨s.pc,true,h⟩
 ·split at h
  ·split at h
   ·split at h
    ·obtain⟨dZ,b,U⟩:=ib h; exact⟨dZ,_,U⟩
    ·exact⟨s.pc,_,h⟩
    grind [T.leaf]
   grind [T.leaf]
  grind [T.leaf]
theorem Dr {ρ:Nat->Int} {s:St} {x:Operand} {f:W->T (W×St)} {r:W×St} (h:(yw s x f).leaf ρ=some r): ∃v,(f v).leaf ρ=some r:=by
 grind [yw,T.leaf]
theorem vA {ρ:Nat->Int} {s s':St} {x:Option W} {v:W} (h:(oW s x).leaf ρ=some (v,s')):s'=s:=by
 unfold oW at h
 grind [bC,T.leaf]
theorem aeH {tt:TT} {op:Op} (h:kindOf tt op= .r):(∃t x,op= .load t x)\/(∃t x i ok,op= .lookup t x i ok)\/(∃c:Call,op= .call c/\c.callee= .builtin .len)\/∃t u x i j e,op= .convert t u x/\tt t=some i/\i.kind= .slice e/\tt u=some j/\j.kind= .string:=by
 unfold kindOf at h;split at h<;>try (simp at h; done)
 all_goals grind
theorem Gf {α:Type} {ρ:Nat->Int} {s:St} {i n:V} {f:St->T α} {r:α} (h:(yx s i n f).leaf ρ=some r): ∃dZ,(f { s with pc:=dZ }).leaf ρ=some r:=by
 unfold yx at h;obtain⟨fA,b1,U⟩:=ib h;split at U
 ·grind [T.leaf]
 ·obtain⟨jw,b2,Z⟩:=ib U
  grind [T.leaf]
theorem tb {α:Type} {ρ:Nat->Int} {kk:TK} {k:W} {r:α} {f:St->T α}: ∀{es:List (W×W×Nat)} {s:St},(tc kk k es s f).leaf ρ=some r->∃dZ,(f { s with pc:=dZ }).leaf ρ=some r
 |[],s,h=> ⟨s.pc,h⟩
 |(k',v,b)::es,s,h=>by
  simp only [tc] at h;split at h
  ·split at h
   ·exact⟨s.pc,h⟩
   ·exact tb h
  ·split at h
   ·obtain⟨fA,b1,U⟩:=ib h;split at U
    ·grind
    ·obtain⟨jw,Z⟩:=tb U
     grind
   ·exact⟨s.pc,h⟩
theorem E9 {α:Type} {ρ:Nat->Int} {tt:TT} {t:Nat} {m k:W} {r:α} {f:St->T α} {s:St} (h:(nC tt t m k s f).leaf ρ=some r): ∃dZ,(f { s with pc:=dZ }).leaf ρ=some r:=by
 unfold nC at h;split at h
 ·split at h
  ·split at h
   ·split at h
    ·exact tb h
    ·exact⟨s.pc,h⟩
   ·exact⟨s.pc,h⟩
  ·exact⟨s.pc,h⟩
 ·exact⟨s.pc,h⟩
theorem aaq {s s':St} {cs:List W} {e:V} {v:W} {ρ:Nat->Int} (h:(Ha s cs e).leaf ρ=some (v,s')):s'.h=s.h:=by
 grind [Ha,T.leaf,Gf,bC]
theorem T8 {tt:TT} {s s':St} {ty t:Nat} {k:W} {ok:Bool} {e:V} {v:W} {ρ:Nat->Int} (h:(zj tt ty k ok e t s).leaf ρ=some (v,s')):s'.h=s.h:=by
 unfold zj at h;split at h
 ·grind [T.leaf]
 ·split at h
  ·grind [T.leaf]
  ·obtain⟨dZ,b,U⟩:=ib h
   grind [bC]
theorem AX {α:Type} {ρ:Nat->Int} {i:V} {r:α}: ∀{ov:List (V×List W)} {s:St} {k:St->T α},(tU i ov s k).leaf ρ=some r->∃dZ,(k { s with pc:=dZ }).leaf ρ=some r
 |[],s,k,h=> ⟨s.pc,h⟩
 |(j,c)::l,s,k,h=>by
  simp only [tU] at h;split at h
  ·exact⟨s.pc,h⟩
  ·obtain⟨fA,b1,U⟩:=ib h;split at U
   ·grind
   ·obtain⟨jw,Z⟩:=AX U
    grind
theorem T9 {tt:TT} {s s':St} {ty id es off:Nat} {i:V} {v:W} {ρ:Nat->Int} (h:(zk tt s ty id es i off).leaf ρ=some (v,s')):s'.h=s.h:=by
 unfold zk at h;split at h
 ·split at h
  ·grind [T.leaf,aaq]
  ·split at h
   all_goals grind [Gf,AX,vA,T.leaf]
  grind [T.leaf]
 grind [T.leaf]
theorem zc {α:Type} {ρ:Nat->Int} {x:V} {r:α}: ∀{ov:List (V×W)} {s:St} {k:Option W->St->T α},(sY x ov s k).leaf ρ=some r->∃o dZ,(k o { s with pc:=dZ }).leaf ρ=some r
 |[],s,k,h=> ⟨none,s.pc,h⟩
 |(j,c)::l,s,k,h=>by
  simp only [sY] at h;split at h
  ·exact⟨_,s.pc,h⟩
  ·obtain⟨fA,b1,U⟩:=ib h;split at U
   ·exact⟨_,fA,U⟩
   ·obtain⟨o,jw,Z⟩:=zc U;exact⟨o,jw,Z⟩
theorem T7 {tt:TT} {ty:Nat} {k:W} {ok:Bool} {e:V} {ov:List (V×W)} {s s':St} {v:W} {ρ:Nat->Int} (h:(zi tt ty k ok e ov s).leaf ρ=some (v,s')):s'.h=s.h:=by
 unfold zi at h;split at h
 ·simp [T.leaf] at h
 ·split at h
  ·simp [T.leaf] at h
  ·obtain⟨o,fA,U⟩:=zc h;split at U
   ·have:=bC U;simp only [ak] at this;rw [<- this.2]
   ·obtain⟨jw,b2,Z⟩:=ib U;split at Z
    ·have:=bC Z;simp only [ak] at this;rw [<- this.2]
    ·simp [T.leaf] at Z
theorem afm {tt:TT} {call:eh} {op:Op} {s s':St} {v:W} {ρ:Nat->Int} (hk:kindOf tt op= .r) (h:(I6 tt call s op).leaf ρ=some (v,s')):s'.h=s.h:=by
 rcases aeH hk with ⟨t,x,rfl⟩|⟨t,x,i,ok,rfl⟩|⟨c,rfl,hc⟩|⟨t,u,x,i,j,e,rfl,hi,he,hj,hs⟩
 ·grind [I6,Dr,T9,vA]
 ·grind [I6,Dr,T8,T7,E9,vA,T.leaf]
 ·simp only [I6,Jf] at h;split at h
  ·grind [T.leaf]
  ·rw [hc] at h;simp only [vX] at h
   grind [vA,T.leaf]
 ·simp only [I6] at h;obtain⟨p,U⟩:=Dr h;split at U
  ·grind [Cy,T.leaf]
  obtain⟨H,e1,rfl⟩:=oV U;unfold oO at e1;rw [hi,hj] at e1;simp only [hs,he] at e1;split at e1
  ·grind
  ·split at e1
   ·split at e1
    ·grind
    ·split at e1
     ·rw [aO] at e1
      grind
     grind
    grind
   grind
theorem ai8 {tt:TT} {call:eh} {all:List Oper} {o:Oper} {s s':St} {v:W} {ρ:Nat->Int} (hk:kindOf tt o.op= .r) (h:(u? tt call all o s).leaf ρ=some (v,s')):s'.h=s.h:=by
 unfold u? at h;obtain⟨dZ,b,U⟩:=Ij h;cases b
 ·grind [bC]
 ·simp only [if_true] at U;exact afm (s:={ s with pc:=dZ }) hk U
theorem nS {base bm mm:Nat}: ∀{l:List (Nat×dG)} {h:Hp} {id:Nat} {x:dG},(fm base bm mm l h).get id=some x->h.get id=some x\/∃a,(a,x)∈l/\bm.testBit a=true/\mm.testBit a=false/\id=base+a
 |[],h,id,x,hh=> .inl hh
 |(a,y)::r,h,id,x,hh=>by
  simp only [fm] at hh;split at hh
  ·rename_i Y;rw [Hp.bR] at hh;split at hh
   ·rename_i e
    grind
   ·rcases nS hh with U|⟨b,U,Z⟩
    all_goals grind
  ·rcases nS hh with U|⟨b,U,Z⟩
   all_goals grind
theorem jf {base bm mm:Nat}: ∀(l:List (Nat×dG)) (h:Hp),(fm base bm mm l h).next=h.next/\(fm base bm mm l h).res=h.res
 |[],h=> ⟨rfl,rfl⟩
 |(a,y)::r,h=>by
  have:=jf (base:=base) (bm:=bm) (mm:=mm) r h;simp only [fm];split
  ·exact this
  grind
theorem yu {bD:Tr W}: ∀{ts:List Nat} {t:Nat} {x:W},(only bD ts).get t=some x->t∈ts/\bD.get t=some x
 |[],t,x,h=>by simp [only,Tr.get] at h
 |u::us,t,x,h=>by
  simp only [only] at h;split at h
  ·rename_i v hv;rw [Tr.bR] at h;split at h
   ·rename_i e
    grind
   ·have:=yu h
    grind
  ·have:=yu h
   grind
theorem vy {bD:Tr W} {d:Option Nat} {v:W} {t:Nat}:(ub bD d v).get t=if d=some t then some v else bD.get t:=by
 cases d with
 |none=>simp [ub]
 |some u=>
  grind [ub,Tr.bR]
theorem oC {ms:List Nat} {i:Nat}: ∀{es:List Edge},(nP ms es).testBit i=true->∃e∈es,Region.binds .any e=true/\(e.on=i\/(ms.getD e.on 0).testBit i=true)
 |[],h=>by simp [nP] at h
 |e::es,h=>by
  simp only [nP] at h;split at h
  ·rename_i Y;simp only [Nat.testBit_or,amI] at h;rcases h with (h|h)|h
   ·rw [Nat.shiftLeft_eq,amN,Nat.testBit_two_pow] at h
    grind
   ·grind
   ·obtain⟨e',U,Z⟩:=oC h
    grind
  ·obtain⟨e',U,Z⟩:=oC h
   grind
def je (tt:TT):List Oper->Nat
 |[]=>0
 |o::os=>(match kindOf tt o.op with | .e=>1|_=>0)+je tt os
theorem jx {tt:TT} {all:List Oper} {ms:List Nat}: ∀(os:List Oper) (i n j:Nat),(items tt all ms os i n)[j]?=(os[j]?).map fun o=> ⟨i+j,o,ms.getD (i+j) 0,kindOf tt o.op,n+je tt (os.take j),reads all o⟩
 |[],i,n,j=>by simp [items]
 |o::os,i,n,j=>by
  simp only [items]
  cases j with
  |zero=>simp [je]
  |succ j=>
   rw [aH,jx os]
   grind [je]
theorem sE {tt:TT} {all:List Oper} {ms:List Nat}: ∀(os:List Oper) (i n:Nat),(items tt all ms os i n).length=os.length
 |[],i,n=>rfl
 |o::os,i,n=>by simp [items,sE os]
theorem mB {tt:TT} {all:List Oper} {ms:List Nat}: ∀(os:List Oper) (i n:Nat),jB (items tt all ms os i n)=je tt os
 |[],i,n=>rfl
 |o::os,i,n=>by
  simp only [items,jB,je,mB os]
  grind
end
section
variable {P:Program}
def EW [bI] (P:Program) (ρ:Nat->Int) (ops:Array Oper) (base N:Nat) (x:Item) (d:Ps) (v:W) (ob:Option dG) (d1:Ps):Prop:=
 ∃h mm rest,d.lU=(h,mm)::rest/\match x.k with
  | .pa=>d1.lU=d.lU/\∃HA,E5 P ρ ops x.o (only d.bD x.rd) ⟨.nil,N,some (base+x.i)⟩ v HA/\HA.next=N/\ob=HA.get (base+x.i)
  | .e=>ob=none/\∃hn,d1.lU=(hn,mm|||x.m)::d.lU/\hn.next<=N/\hn.res=none/\E5 P ρ ops x.o (only d.bD x.rd) (fm base x.m mm d.gQ h) v hn
  | .r=>ob=none/\d1.lU=d.lU
theorem Z2 [bI] {tt:TT} (cJ:ep P tt) {call:eh} (hc:gY P call) {ops:Array Oper} {base N:Nat} {pc:List (SB×Bool)} {ρ:Nat->Int} (hp:bW ρ pc) {x:Item} {d d1:Ps} (h:(Z3 tt call ops.toList base N pc x d).leaf ρ=some d1) :
 ∃v ob,d1.bD=ub d.bD x.o.dst v/\d1.vs=v::d.vs/\d1.Bi=ob::d.Bi/\d1.gQ=(match ob with |some b=>(x.i,b)::d.gQ|none=>d.gQ)/\EW P ρ ops base N x d v ob d1:=by
 unfold Z3 at h;split at h
 ·grind [T.leaf]
 ·rename_i h0 mm rest hs;split at h
  ·rename_i hk;obtain⟨⟨v,s'⟩,U,Z⟩:=T.eX h;have ha:=Jl cJ hc (s:=⟨only d.bD x.rd,⟨.nil,N,some (base+x.i)⟩,pc⟩) hp U;simp only at Z;split at Z
   ·rename_i hn;have:=bC Z;subst this;refine⟨v,s'.h.get (base+x.i),rfl,rfl,rfl,?_,h0,mm,rest,hs,?_⟩
    all_goals grind
   grind [T.leaf]
  ·rename_i hk;obtain⟨⟨v,s'⟩,U,Z⟩:=T.eX h;have ha:=Jl cJ hc (s:=⟨only d.bD x.rd,fm base x.m mm d.gQ h0,pc⟩) hp U;simp only at Z;split at Z
   ·rename_i hn;have:=bC Z;subst this;refine⟨v,none,rfl,rfl,rfl,rfl,h0,mm,rest,hs,?_⟩
    grind
   ·simp [T.leaf] at Z
  ·rename_i hk;obtain⟨⟨v,s'⟩,U,Z⟩:=T.eX h;have:=bC Z;subst this;refine⟨v,none,rfl,rfl,rfl,rfl,h0,mm,rest,hs,?_⟩
   grind
theorem EW.lU [bI] {ρ:Nat->Int} {ops:Array Oper} {base N:Nat} {x:Item} {d d1:Ps} {v:W} {ob:Option dG} (h:EW P ρ ops base N x d v ob d1): ∃pre,d1.lU=pre++d.lU/\pre.length=jB [x]:=by
 obtain⟨h0,mm,rest,hs,U⟩:=h;cases hk:x.k<;>rw [hk] at U
 ·simp_all [jB]
 ·obtain⟨_,hn,Z,_⟩:=U;exact⟨[(hn,mm|||x.m)],by rw [Z]; rfl,by simp [jB,hk]⟩
 simp_all [jB]
theorem EW.nxt [bI] {ρ:Nat->Int} {ops:Array Oper} {base N:Nat} {x:Item} {d d1:Ps} {v:W} {ob:Option dG} (h:EW P ρ ops base N x d v ob d1) (hh: ∀q∈d.lU,q.1.next<=N/\q.1.res=none): ∀q∈d1.lU,q.1.next<=N/\q.1.res=none:=by
 obtain⟨h0,mm,rest,hs,U⟩:=h
 grind
structure ajS [bI] (P:Program) (ρ:Nat->Int) (ops:Array Oper) (base N:Nat) (xs:List Item) (d d':Ps):Prop where
 vs: ∃pre,d'.vs=pre++d.vs/\pre.length=xs.length
 Bi: ∃pre,d'.Bi=pre++d.Bi/\pre.length=xs.length
 lU: ∃pre,d'.lU=pre++d.lU/\pre.length=jB xs
 nW: ∀a b,(a,b)∈d'.gQ->(a,b)∈d.gQ\/∃p x,xs[p]?=some x/\x.i=a/\d'.Bi.reverse[d.Bi.length+p]?=some (some b)
 alr: ∀p x b,xs[p]?=some x->d'.Bi.reverse[d.Bi.length+p]?=some (some b)->(x.i,b)∈d'.gQ
 al4: ∀q,q∈d.gQ->q∈d'.gQ
 slot: ∀t x,d'.bD.get t=some x->(∃p y,xs[p]?=some y/\y.o.dst=some t/\d'.vs.reverse[d.vs.length+p]?=some x)\/(d.bD.get t=some x/\∀y∈xs,y.o.dst≠some t)
 same: ∀t,(∀y∈xs,y.o.dst≠some t)->d'.bD.get t=d.bD.get t
 nxt:(∀q∈d.lU,q.1.next<=N/\q.1.res=none)->∀q∈d'.lU,q.1.next<=N/\q.1.res=none
 at_: ∀p x,xs[p]?=some x->∃dp Ud v ob pre,EW P ρ ops base N x dp v ob Ud/\d'.vs.reverse[d.vs.length+p]?=some v/\d'.Bi.reverse[d.Bi.length+p]?=some ob/\d'.lU=pre++Ud.lU/\dp.lU.length=d.lU.length+jB (xs.take p)/\
  (∀q,q∈dp.gQ->q∈d'.gQ)/\(∀t,(∀y∈xs.drop p,y.o.dst≠some t)->d'.bD.get t=dp.bD.get t)/\
  (∀t z,dp.bD.get t=some z->(∃p' y,p'<p/\xs[p']?=some y/\y.o.dst=some t/\d'.vs.reverse[d.vs.length+p']?=some z)\/(d.bD.get t=some z/\∀y∈xs.take p,y.o.dst≠some t))
theorem W1 {α:Type} {l pre l0:List α} {v:α} (h:l=pre++v::l0):l.reverse[l0.length]?=some v:=by
 grind
theorem BL (x:Item) (xs:List Item):jB (x::xs)=jB [x]+jB xs:=by
 grind [jB]
theorem T.lO {α β:Type} {ρ:Nat->Int} {f:List (SB×Bool)->α->T β} {r:β}: ∀{x:T α} {pc:List (SB×Bool)},bW ρ pc->(x.zC pc f).leaf ρ=some r->∃a dZ,x.leaf ρ=some a/\bW ρ dZ/\(f dZ a).leaf ρ=some r
 | .fail,pc,_,h=>by simp [T.zC,T.leaf] at h
 | .ret a,pc,hp,h=> ⟨a,pc,rfl,hp,h⟩
 | .split c x y,pc,hp,h=>by
   simp only [T.zC] at h
   cases hd:jK pc c with
   |some b=>
    rw [hd] at h;have Y:=gq hp hd;simp only [T.leaf,Y]
    cases b with
    |true=>exact T.lO hp h
    |false=>exact T.lO hp h
   |none=>
    rw [hd] at h;simp only [T.leaf] at h ⊢
    cases Y:c.den ρ with
    |true=>
     rw [Y] at h
     exact T.lO (x:=x) (pc:=(c,true)::pc) (fun c' b' hm=>by
      rcases aw.1 hm with he|hm
      ·simp only [ak] at he; rw [he.1,he.2]; exact Y
      ·exact hp c' b' hm) h
    |false=>
     rw [Y] at h
     exact T.lO (x:=y) (pc:=(c,false)::pc) (fun c' b' hm=>by
      rcases aw.1 hm with he|hm
      ·simp only [ak] at he; rw [he.1,he.2]; exact Y
      ·exact hp c' b' hm) h
theorem RO {tt:TT} {call:eh} {all:List Oper} {base N:Nat} {ρ:Nat->Int}: ∀(xs:List Item) {pc dZ:List (SB×Bool)} {d d':Ps},bW ρ pc->(Ue tt call all base N xs pc d).leaf ρ=some (dZ,d')->bW ρ dZ
 |[],pc,dZ,d,d',hp,h=>by
  have:=bC h
  grind
 |x::xs,pc,dZ,d,d',hp,h=>by simp only [Ue] at h;obtain⟨d1,fA,_,fj,Z⟩:=T.lO hp h;exact RO xs fj Z
theorem RP [bI] {tt:TT} (cJ:ep P tt) {call:eh} (hc:gY P call) {ops:Array Oper} {base N:Nat} {ρ:Nat->Int}: ∀(xs:List Item) {pc dZ:List (SB×Bool)} {d d':Ps},bW ρ pc->(Ue tt call ops.toList base N xs pc d).leaf ρ=some (dZ,d')->ajS P ρ ops base N xs d d'
 |[],pc,dZ,d,d',hp,h=>by have:=bC h;simp only [ak] at this;obtain⟨_,rfl⟩:=this;exact⟨⟨[],rfl,rfl⟩,⟨[],rfl,rfl⟩,⟨[],rfl,rfl⟩,fun a b h=> .inl h,fun p x b hh=>by simp at hh,fun q h=>h,fun t x h=> .inr ⟨h,ad⟩,fun t _=>rfl,fun h=>h,fun p x hh=>by simp at hh⟩
 |x::xs,pc,dZ,d,d',hp,h=>by
  simp only [Ue] at h;obtain⟨d1,fA,U,fj,Z⟩:=T.lO hp h;obtain⟨v,ob,e1,e2,e3,e4,hF⟩:=Z2 cJ hc hp U;obtain⟨⟨pv,v1,v2⟩,⟨po,o1,o2⟩,⟨ps,s1,s2⟩,b1,b2,b3,sl,sm,nx,mE⟩:=RP cJ hc xs fj Z;obtain⟨qs,t1,t2⟩:=hF.lU;have hv0:d'.vs.reverse[d.vs.length]?=some v:=W1 (by rw [v1,e2]);have ho0:d'.Bi.reverse[d.Bi.length]?=some ob:=W1 (by rw [o1,e3]);have hvl:d1.vs.length=d.vs.length+1:=by rw [e2]; rfl
  have hol:d1.Bi.length=d.Bi.length+1:=by rw [e3]; rfl
  have sO: ∀q,q∈d.gQ->q∈d1.gQ:=by
   intro q hq
   grind
  have xy: ∀(p n:Nat),n+1+p=n+(p+1):=by intro p n; omega
  refine⟨⟨pv++ [v],by rw [v1,e2]; simp,by simp [v2]⟩,⟨po++ [ob],by rw [o1,e3]; simp,by simp [o2]⟩,⟨ps++qs,by rw [s1,t1]; simp,by rw [a8,BL,s2,t2]; omega⟩,?_,?_,fun q hq=>b3 q (sO q hq),?_,?_,fun hh=>nx (hF.nxt hh),?_⟩
  ·intro a b DR;rcases b1 a b DR with hh|⟨p,y,g1,g2,g3⟩
   ·rw [e4] at hh
    cases ob with
    |none=>exact .inl hh
    |some c=>
     simp only [aw,ak] at hh;rcases hh with ⟨rfl,rfl⟩|hh
     ·exact .inr ⟨0,x,rfl,rfl,ho0⟩
     ·exact .inl hh
   ·exact .inr ⟨p+1,y,by simpa using g1,g2,by rw [<- xy,<- hol]; exact g3⟩
  ·intro p y b hy Y
   cases p with
   |zero=> simp at hy;subst hy;rw [bd,ho0] at Y;simp at Y;subst Y;exact b3 _ (by rw [e4]; simp)
   |succ p=> refine b2 p y b (by simpa using hy) ?_;rw [hol,xy];exact Y
  ·intro t y hy;rcases sl t y hy with ⟨p,z,g1,g2,g3⟩|⟨g1,g2⟩
   ·exact .inl ⟨p+1,z,by simpa using g1,g2,by rw [<- xy,<- hvl]; exact g3⟩
   ·rw [e1,vy] at g1;split at g1
    ·rename_i hd;simp at g1;subst g1;exact .inl ⟨0,x,rfl,hd,hv0⟩
    ·rename_i hd;refine .inr ⟨g1,fun z hz=>?_⟩;rcases aw.1 hz with rfl|hz
     ·exact hd
     ·exact g2 z hz
  ·intro t ht;rw [sm t fun y hy=>ht y (by simp [hy]),e1,vy,af (ht x ad)]
  ·intro p y hy
   cases p with
   |zero=> simp at hy;subst hy;refine⟨d,d1,v,ob,ps,hF,hv0,ho0,s1,by simp [jB],fun q hq=>b3 q (sO q hq),fun t ht=>?_,fun t z hz=> .inr ⟨hz,ad⟩⟩;rw [sm t fun y hy=>ht y (by simp [hy]),e1,vy,af (ht x ad)]
   |succ p=>
    obtain⟨dp,Ud,v',ob',pre,g1,g2,g3,g4,g5,g6,g7,g8⟩:=mE p y (by simpa using hy);refine⟨dp,Ud,v',ob',pre,g1,by rw [<- xy,<- hvl]; exact g2,by rw [<- xy,<- hol]; exact g3,g4,?_,g6,fun t ht=>g7 t (by simpa using ht),fun t z hz=>?_⟩
    ·rw [g5,amw,BL,t1,a8,t2];omega
    ·rcases g8 t z hz with ⟨p',y',q1,q2,q3,q4⟩|⟨q1,q2⟩
     ·exact .inl ⟨p'+1,y',J,by simpa using q2,q3,by rw [<- xy,<- hvl]; exact q4⟩
     ·rw [e1,vy] at q1;split at q1
      ·rename_i hd;simp at q1;subst q1;exact .inl ⟨0,x,J,rfl,hd,hv0⟩
      ·rename_i hd;refine .inr ⟨q1,fun u hu=>?_⟩;rw [amw] at hu;rcases aw.1 hu with rfl|hu
       ·exact hd
       ·exact q2 u hu
end
end Go.As
end

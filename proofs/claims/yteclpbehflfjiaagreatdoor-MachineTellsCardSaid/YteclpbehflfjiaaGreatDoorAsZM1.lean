import Derived.Lib.Bytealg
import Derived.Lib.IndexMore
import Derived.Test.YteclpbehflfjiaaGreatDoorAsZM0
set_option linter.unusedSectionVars false
set_option linter.unusedVariables false
set_option linter.unusedSimpArgs false
section
namespace Go.As
section
variable {H H2 H':Hp} {id ty t k off:Nat} {v ix:AV} {tt:TT} {e i:Y} {s s':St} {u ui:Value} {ov:List (Y×List AV)} {cs l:List AV} {o o':eN} {E':En} {w':World} {h:Array Obj}
section
variable {P:Program} {E:En} {w:World}
theorem bV.swap [bN] (r:bV E H w) (hl:H.get id=some o) (ho:OR E w.heap id o') (hg:H2.get id=some o') (hs: ∀j,j≠id->H2.get j=H.get j) (hn:H2.next=H.next) (hr:H2.res=H.res):bV E H2 w:=by
 have key: ∀j x,H2.get j=some x->∃y,H.get j=some y:=by
  intro j x hj
  grind
 refine⟨fun i hi=>r.fresh i (by rw [<- hn]; exact hi),fun q hq=>by rw [hn]; exact r.res q (by rw [<- hr]; exact hq),fun j x hj=>?_,fun i j x y hi hj he=>?_,r.xl,r.mI⟩
 ·by_cases h:j=id
  ·subst h;rw [hg] at hj;simp only [ah] at hj;subst hj;exact⟨(r.live j o hl).1,ho,(r.live j o hl).2.2⟩
  ·exact r.live j x (by rw [<- hs j h]; exact hj)
 ·obtain⟨x',hx⟩:=key i x hi;obtain⟨y',hy⟩:=key j y hj;exact r.inj i j x' y' hx hy he
structure Jc (H H2:Hp):Prop where
 ab: ∀j x,H.get j=some x->∃y,H2.get j=some y
 ba: ∀j x,H2.get j=some x->∃y,H.get j=some y
 next:H2.next=H.next
 res:H2.res=H.res
theorem Jc.put (hl:H.get id=some o):Jc H (H.put id o'):=by
 refine⟨fun j x hj=>?_,fun j x hj=>?_,rfl,rfl⟩
 all_goals grind [Hp.bR]
theorem Jc.symm (a:Jc H H2):Jc H2 H:=⟨a.ba,a.ab,a.next.symm,a.res.symm⟩
theorem fD.left (a:Jc H H2) (s:fD E H w E' H' w'):fD E H2 w E' H' w':=
 ⟨s.ρ,s.dm,s.θ,s.κ,s.ro,fun b hb=>(s.D0 b hb).imp id (Or.imp (fun⟨i,o,U,Z⟩=>by obtain⟨y,hy⟩:=a.ab i o U; exact⟨i,y,hy,Z⟩) id),by rw [a.next]; exact s.nxm,by rw [a.res]; exact s.rsm,
  fun i hi=>by rw [a.next,a.res]; exact s.dmn i hi,s.os,s.tape,s.output,s.size,fun b hb hn=>s.du b hb fun i o ho=>by obtain⟨y,hy⟩:=a.ab i o ho; exact hn i y hy,
  fun i o ho gB=>by obtain⟨i0,o0,U,Z⟩:=s.own i o ho gB; obtain⟨y,hy⟩:=a.ab i0 o0 U; exact⟨i0,y,hy,Z⟩⟩
theorem fD.right (a:Jc H' H2) (s:fD E H w E' H' w'):fD E H w E' H2 w':=
 ⟨s.ρ,s.dm,s.θ,s.κ,s.ro,s.D0,by rw [a.next]; exact s.nxm,by rw [a.res]; exact s.rsm,
  fun i hi=>by rw [a.next]; exact s.dmn i hi,s.os,s.tape,s.output,s.size,s.du,
  fun i o ho gB=>by obtain⟨y,hy⟩:=a.ba i o ho; exact s.own i y hy gB⟩
theorem ez.of {ro:Nat->Prop} {h:Array Obj} {d:D} (f:Nat->Value): ∀(cs:List CK) (j:Nat),(∀i c,cs[i]?=some c->jR ro h c (d.V (j+i)) (f (j+i)))->ez ro h cs j d ((List.range' j cs.length).map f)
 |[],j,_=>by simp [ez]
 |c::cs,j,hh=>by
  simp only [aT,List.range'_succ,aF,ez];refine⟨f j,_,rfl,by simpa using hh 0 c ad,ez.of f cs (j+1) fun i c' hi=>?_⟩;have:=hh (i+1) c' (by simpa using hi)
  grind
theorem Rd.row {ro:Nat->Prop} {h:Array Obj} {t:Nat} {d:D} {v:Value} (r:Rd ro h (.sl t) d v) {i:Nat} {x:D} (hi:d.l[i]?=some x) :
 ∃b o cap us,v= .slice (some ⟨b,o,none⟩) d.l.length cap/\ro b/\zo ro h (rowOf t) x us/\gr h b (o+i*(rowOf t).es) us:=by
 generalize hc:CK.sl t=c at r
 cases r with
 |int k n=>simp at hc
 |bool b=>simp at hc
 |str s=>simp at hc
 |nil t=>simp [D.l] at hi
 |Ap t a cap=>simp [D.l] at hi
 |one t' c b o cap ds f hr dK hb U Z=>
  simp only [CK.sl.injEq] at hc;subst hc;rw [bF] at hi ⊢;refine⟨b,o,cap,[f i],rfl,hb,?_,?_⟩
  ·rw [hr];exact⟨_,rfl,(Z i x hi).cell⟩
  ·rw [hr];intro j u hj
   grind [Row.es]
 |many t' cs b o cap rows f hr dK hb hl U Z=>
  simp only [CK.sl.injEq] at hc;subst hc;rw [bF] at hi ⊢;rw [bg,aO] at hi;obtain⟨row,jh,rfl⟩:=hi;have hlen:=hl row (bq jh);refine⟨b,o,cap,(List.range' 0 cs.length).map (f i),ad,hb,?_,?_⟩
  ·rw [hr];refine ez.of (f i) cs 0 fun j c hj=>?_;have hjl:j<row.length:=by rw [hlen]; exact (a8.1 hj).1
   have V:row[j]?=some row[j]:=aN hjl;rw [aK];have:(dL row).V j=row[j]:=by simp [D.V,V]
   rw [this];exact (Z i row j _ c jh V hj).cell
  ·rw [hr];intro j u hj;rw [bg,aO] at hj;obtain⟨k,hk,rfl⟩:=hj
   have hjl:j<cs.length:=by
    grind
   rw [List.getElem?_range' hjl] at hk;simp only [ah] at hk;obtain rfl:k=j:=J
   have V:row[k]?=some row[k]:=aN J;exact U i row k _ jh V
theorem DI (ρ:Nat->Int) (e i:Y) {x:D} (hi:i.den ρ=(k:Int)) (hx:(dec (e.den ρ)).l[k]?=some x):dec ((Y.op .at e i).den ρ)=x:=by simp only [Y.den,gX.den,bG,D.at,hi,aQ,hx,az]
theorem pC (cX:eS P tt) {z:Nat} (h:vH tt ty=some z): ∃el ie,P.underlying ty=some (.slice el)/\tt el=some ie/\ie.size=z:=by
 unfold vH at h;split at h
 ·rename_i ti iH;split at h
  ·rename_i el hk;simp only [jb,aO] at h;obtain⟨ie,nT,rfl⟩:=h;exact⟨el,ie,fF (cX ty ti iH) hk,nT,rfl⟩
  grind
 grind
theorem Uf (cX:eS P tt) (hp:cz E.ρ s.pc) (hx:VR E w.heap (.eW e t) u) (BH:VR E w.heap ix ui) (h:(MO tt s ty t e ix).leaf E.ρ=some (v,s')) :
 s'.bC=s.bC/\s'.h=s.h/\cz E.ρ s'.pc/\∃r,(Instr.indexAt ty u ui).run P w= .ok r w/\VR E w.heap v r:=by
 unfold MO at h;split at h
 ·rename_i kd i;split at h
  ·rename_i z hz;split at h
   ·rename_i mj;obtain⟨fH,gH,U,Z,h3⟩:=pI hp h;have:=bE h3;simp only [an] at this;obtain⟨rfl,rfl⟩:=this;refine⟨rfl,rfl,gH,?_⟩;rw [cQ] at Z;simp only [VR] at hx BH;subst BH;obtain⟨el,ie,hu,nT,rfl⟩:=pC cX hz;obtain⟨k,hk⟩ : ∃k:Nat,i.den E.ρ=(k:Int):=⟨(i.den E.ρ).toNat,J⟩;have gB:k<(dec (e.den E.ρ)).l.length:=J
    have V:(dec (e.den E.ρ)).l[k]?=some (dec (e.den E.ρ)).l[k]:=aN gB;obtain⟨b,o,cap,us,rfl,g1,g2,g3⟩:=hx.row V;refine⟨.pointer (some ⟨b,o+k*ie.size,none⟩),?_,?_⟩
    ·exact alS
    ·simp only [VR];exact⟨b,_,us,rfl,g1,by rw [gJ,DI E.ρ e i hk V]; exact g2,by rw [mj]; exact g3,g2.uC⟩
   grind [T.leaf]
  grind [T.leaf]
 grind [T.leaf]
theorem TX (cX:eS P tt) (hp:cz E.ρ s.pc) {n:Y} (hx:VR E w.heap (.sG id n t) u) (BH:VR E w.heap ix ui) (h:(MA tt s ty id t n ix).leaf E.ρ=some (v,s')) :
 s'.bC=s.bC/\s'.h=s.h/\cz E.ρ s'.pc/\∃r,(Instr.indexAt ty u ui).run P w= .ok r w/\VR E w.heap v r:=by
 unfold MA at h;split at h
 ·rename_i kd i;split at h
  ·rename_i z hz;split at h
   ·rename_i mj;obtain⟨fH,gH,U,Z,h3⟩:=pI hp h;have:=bE h3;simp only [an] at this;obtain⟨rfl,rfl⟩:=this;refine⟨rfl,rfl,gH,?_⟩;simp only [VR] at hx BH;subst BH;obtain⟨hid,m,a,cap,hn,rfl,lI,hc⟩:=hx;obtain⟨el,ie,hu,nT,rfl⟩:=pC cX hz;obtain⟨k,hk⟩ : ∃k:Nat,i.den E.ρ=(k:Int):=⟨(i.den E.ρ).toNat,J⟩;have gB:k<m:=J
    have ha:a=⟨(E.θ id).1,(E.θ id).2,none⟩:=by
     simp only [fS] at hc
     grind
    subst ha;refine⟨.pointer (some ⟨(E.θ id).1,(E.θ id).2+k*ie.size,none⟩),?_,?_⟩
    ·exact alS
    ·simp only [VR]
     grind
   grind [T.leaf]
  grind [T.leaf]
 grind [T.leaf]
theorem pW {ρ:Nat->Int} {pc:List (SB×Bool)} (hp:cz ρ pc) {adH cs:List AV} {i:Y} {k:Nat} (hi:i.den ρ=(k:Int)): ∀{ov:List (Y×List AV)},pX pc adH i ov=some cs->
 eA ρ k ov=some cs\/(eA ρ k ov=none/\cs=adH)
 |[],h=>by simp only [pX,ah] at h; exact .inr ⟨rfl,h.symm⟩
 |(j,c)::l,h=>by
  simp only [pX] at h;simp only [eA];split at h
  ·rename_i he
   grind [dk]
  ·split at h
   ·rename_i b V;have V:=ia hp V;rw [jF] at V;split at h
    ·grind
    ·rw [beq_eq_false_iff_ne,hi] at V;rw [af (fun q=>V q.symm)];exact pW hp hi h
   grind
theorem yp {α:Type} {ρ:Nat->Int} {i:Y} {r:α}: ∀{ov:List (Y×List AV)} {s:St} {k:St->T α},cz ρ s.pc->(wX i ov s k).leaf ρ=some r->∃fH,cz ρ fH/\(k { s with pc:=fH }).leaf ρ=some r
 |[],s,k,hp,h=> ⟨s.pc,hp,h⟩
 |(j,c)::l,s,k,hp,h=>by
  simp only [wX] at h;split at h
  ·exact wN
  ·obtain⟨jS,jx,U⟩:=dh hp h;split at U
   ·grind
   ·exact yp (s:={ s with pc:=jS }) jx U
theorem j5 {ρ:Nat->Int} {r:Row} {ov:List (Y×List AV)} (ho:xo r ov): ∀{ds:List D} {j k:Nat} {x:D},ds[k]?=some x->
 bH ρ r ov ds j=bH ρ r ov (ds.take k) j++((match eA ρ (j+k) ov with |some cs=>cs|none=>iu r (.eW x))++bH ρ r ov (ds.drop (k+1)) (j+k+1))/\(bH ρ r ov (ds.take k) j).length=k*r.es
 |[],j,k,x,h=>by simp at h
 |d::ds,j,0,x,h=>by
  simp only [aA,ah] at h;subst h;refine⟨?_,by simp [bH]⟩;simp only [aw3,bH,ax,avZ,List.drop_succ_cons,av8]
  try rfl
 |d::ds,j,k+1,x,h=>by
  have h':ds[k]?=some x:=by simpa using h
  have hk:k<ds.length:=(a8.1 h').1;obtain⟨U,Z⟩:=j5 (ρ:=ρ) ho (j:=j+1) h';refine⟨?_,?_⟩
  ·simp only [awA,bH,avT,List.drop_succ_cons]
   grind
  grind [cR]
theorem vI {α:Type}: ∀(a b:List α),fq a.length (a++b)=some b
 |[],_=>rfl
 |x::a,b=>by simp [fq,vI a b]
theorem H3 {α:Type}: ∀{n:Nat} {a b l:List α},fq n a=some l->fq n (a++b)=some (l++b)
 |0,a,b,l,h=>by simp only [fq,ah] at h ⊢; rw [h]
 |n+1,[],b,l,h=>by simp [fq] at h
 |n+1,x::a,b,l,h=>by simp only [fq,aG] at h ⊢; exact H3 h
theorem F9 {α:Type}: ∀{n:Nat} {a b l:List α},ja n a=some l->ja n (a++b)=some l
 |0,a,b,l,h=>by simp only [ja] at h ⊢; exact h
 |n+1,[],b,l,h=>by simp [ja] at h
 |n+1,x::a,b,l,h=>by
  simp only [ja,aG] at h ⊢;split at h
  ·rename_i l' hl;rw [F9 hl];exact h
  grind
theorem KR {α:Type}: ∀{a b:Nat} {l m:List α},fq a l=some m->fq (a+b) l=fq b m
 |0,b,l,m,h=>by simp only [fq,ah] at h; subst h; rw [aK]
 |a+1,b,[],m,h=>by simp [fq] at h
 |a+1,b,x::l,m,h=>by rw [show a+1+b=(a+b)+1 by omega];simp only [fq] at h ⊢;exact KR h
noncomputable def cT (ρ:Nat->Int) (e:Y) (t:Nat) (ov:List (Y×List AV)):List AV:=bH ρ (rowOf t) ov (dec (e.den ρ)).l 0
theorem OR.sk {ty:TypeId}:OR E h id (.vec e t ty ov)↔(xo (rowOf t) ov/\yd (rowOf t) (dec (e.den E.ρ)))/\OR E h id (.cells (cT E.ρ e t ov) ty):=by simp only [OR,cT]
theorem bV.sk [bN] (r:bV E H w) {ty:TypeId} (hl:H.get id=some (.vec e t ty ov)):bV E (H.put id (.cells (cT E.ρ e t ov) ty)) w/\xo (rowOf t) ov/\yd (rowOf t) (dec (e.den E.ρ)):=by obtain⟨U,Z⟩:=OR.sk.1 (r.live id _ hl).2.1;exact⟨r.swap hl Z (by rw [Hp.bR,ag rfl]) (fun j hj=>by rw [Hp.bR,af hj]) rfl rfl,U⟩
theorem Ah {r:Row} {x y:Y} (V:dec (x.den E.ρ)=dec (y.den E.ρ)) {us:List Value}:cJ E h (iu r x) us↔cJ E h (iu r y) us:=by
 grind [gJ]
theorem adW [bN] (r:bV E H w) {ty:TypeId} (hl:H.get id=some (.vec e t ty ov)) (hi:i.den E.ρ=(k:Int)) (hk:(k:Int)<(eD e).den E.ρ)
 {pc:List (SB×Bool)} (hp:cz E.ρ pc) (hc:pX pc (iu (rowOf t) (.op .at e i)) i ov=some cs) :
 ∃pre row post,cT E.ρ e t ov=pre++(row++post)/\pre.length=k*(rowOf t).es/\row.length=(rowOf t).es/\(∀h us,cJ E h row us↔cJ E h cs us)/\cs.length=(rowOf t).es:=by
 obtain⟨_,ho,zj⟩:=r.sk hl;rw [cQ] at hk;have gB:k<(dec (e.den E.ρ)).l.length:=J
 have V:(dec (e.den E.ρ)).l[k]?=some (dec (e.den E.ρ)).l[k]:=aN gB;obtain⟨U,Z⟩:=j5 (ρ:=E.ρ) ho (j:=0) V;refine⟨_,_,_,U,Z,?_⟩;rw [aK];rcases pW hp hi hc with h3|⟨h3,rfl⟩
 ·rw [h3];obtain⟨p,p1,p2,_⟩:=lU h3;have:=ho p p1
  grind
 ·rw [h3];refine⟨iD _ _,fun h us=>Ah ?_,iD _ _⟩;rw [DI E.ρ e i hi V];simp only [Y.den,bG]
theorem Yq {i:TI} {m:List AV} (h:partOf i l=some v):partOf i (l++m)=some v:=by
 unfold partOf at h ⊢;split at h
 ·rename_i ha;rw [aO] at h
  grind [F9]
 grind
theorem Ki [bN] (cX:eS P tt) (r:bV E H w) {e:TypeId} (hl:H.get id=some (.cells cs e)) {ti:TI} (iH:tt ty=some ti) (V:fq off cs=some l) (hv:partOf ti l=some v) :
 ∃x,(loadVar ty ⟨(E.θ id).1,(E.θ id).2+off,none⟩).run P w= .ok x w/\VR E w.heap v x:=by
 have hld:Dw tt ty (.ptr id off) H=some v:=by
  unfold Dw partOf at *;rw [iH];simp only [n9,hl,V];split at hv
  ·exact hv
  ·split at hv
   ·simp only [ah] at hv;subst hv;rfl
   grind
 have hid:=(r.live id _ hl).1;obtain⟨x,b,o,U,Z,h3⟩:=Dv cX r (p:=.ptr id off) (u:=.pointer (some ⟨(E.θ id).1,(E.θ id).2+off,none⟩)) (by simp only [VR]; exact⟨trivial,hid⟩) hld
 grind
theorem Hb {k:IntKind}: ∀{cs:List AV} {ds:List D},Hd k cs=some ds->ds.length=cs.length/\∀(i:Nat),i<cs.length->∃n,ds[i]?=some (.i n)/\cs[i]?=some (.int k (.lit n))
 |[],ds,h=>by
  simp only [Hd,ah] at h
  grind
 |v::vs,ds,h=>by
  simp only [Hd] at h;split at h
  ·split at h
   ·rename_i k' n;split at h
    ·rename_i hk;subst hk;split at h
     ·rename_i ds' yK;simp only [ah] at h;subst h;obtain⟨U,Z⟩:=Hb yK
      grind
     grind
    grind
   grind
  grind
theorem DB {α:Type}: ∀{i:Nat} {cs:List α} {a:α},cs[i]?=some a->∃l,fq i cs=some (a::l)
 |0,[],a,h=>by simp at h
 |0,c::cs,a,h=>by simp only [aA,ah] at h; subst h; exact⟨cs,rfl⟩
 |i+1,[],a,h=>by simp at h
 |i+1,c::cs,a,h=>DB (cs:=cs) (by simpa using h)
theorem P8 {ρ:Nat->Int} (hp:cz ρ s.pc) (h:(KI s cs e).leaf ρ=some (v,s')) :
 s'.bC=s.bC/\s'.h=s.h/\cz ρ s'.pc/\∃(i:Nat) (k:IntKind) (n:Int) (x:Y),e.den ρ=(i:Int)/\i<cs.length/\cs[i]?=some (.int k (.lit n))/\v= .int k x/\x.den ρ=n:=by
 unfold KI at h;split at h
 ·grind [T.leaf]
 ·rename_i k hk;split at h
  ·grind [T.leaf]
  ·rename_i ds yK;obtain⟨U,Z⟩:=Hb yK;obtain⟨fH,gH,g1,g2,g3⟩:=pI hp h;simp only [T.leaf,ah,an] at g3;obtain⟨rfl,rfl⟩:=g3;have g2':e.den ρ<(ds.length:Int):=by simpa [Y.den] using g2
   have hi:e.den ρ=((e.den ρ).toNat:Int):=J
   have gB:(e.den ρ).toNat<cs.length:=J
   obtain⟨n,d1,d2⟩:=Z _ gB;refine⟨rfl,rfl,gH,_,k,n,_,hi,gB,d2,rfl,?_⟩;simp only [CQ,Y.den,gX.den,bG,D.at,bF,d1,az,D.n]
theorem T9 [bN] (cX:eS P tt) (r:bV E s.h w) (hp:cz E.ρ s.pc) {es:Nat} (hx:VR E w.heap (.B6 id es i off) u) (h:(B0 tt s ty id es i off).leaf E.ρ=some (v,s')) :
 s'.bC=s.bC/\s'.h=s.h/\cz E.ρ s'.pc/\∃x b o,u= .pointer (some ⟨b,o,none⟩)/\(loadVar ty ⟨b,o,none⟩).run P w= .ok x w/\VR E w.heap v x:=by
 unfold B0 at h;split at h
 ·rename_i o hl;split at h
  ·rename_i cs ety;split at h
   ·rename_i ti iH;split at h
    ·simp [T.leaf] at h
    ·rename_i hb;simp only [Bool.or_eq_false_iff,Bool.not_eq_false'] at hb;have mj:=ay hb.1.2;have hof:=ay hb.2;subst mj hof;obtain⟨U,Z,h3,k,kd,n,x,g1,g2,g3,rfl,g5⟩:=P8 hp h;refine⟨U,Z,h3,?_⟩;simp only [VR] at hx;obtain⟨hid,k',hk,rfl⟩:=hx;have BG:k'=k:=J
     subst BG;obtain⟨l,V⟩:=DB g3;obtain⟨y,q1,q2⟩:=Ki (P:=P) cX r hl iH V (v:=.int kd (.lit n)) (by unfold partOf; rw [hb.1.1]);refine⟨y,_,_,rfl,by rw [aw4,avZ]; exact q1,?_⟩;simp only [VR,Y.den] at q2 ⊢;rw [q2,g5]
   ·simp [T.leaf] at h
  ·rename_i e t CD ov;split at h
   ·rename_i ti iH;split at h
    ·rename_i mj;obtain⟨pc0,hp0,U,Z,h3⟩:=pI hp h;obtain⟨fH,gH,h3⟩:=yp (s:={ s with pc:=pc0 }) hp0 h3;split at h3
     ·rename_i cs hc;split at h3
      ·rename_i l Dn;obtain⟨e1,rfl⟩:=jB h3;refine⟨rfl,rfl,gH,?_⟩;simp only [VR] at hx;obtain⟨hid,k,hk,rfl⟩:=hx;obtain⟨pre,row,post,c1,c2,c3,c4,c5⟩:=adW r hl hk (by rw [<- hk]; exact Z) gH hc;obtain⟨rc,ho,zj⟩:=r.sk hl
       have jh:OR E w.heap id (.cells (pre++(cs++post)) CD):=by have:=(rc.live id _ (by rw [Hp.bR,ag rfl])).2.1;rw [c1] at this;simp only [OR] at this ⊢;obtain⟨arr,lo,hi,us,q1,q2,q3,q4,q5,q6,q7⟩:=this;refine⟨arr,lo,hi,us,q1,?_,q3,by simp only [bd,c3,c5] at q4 ⊢; exact q4,q5,q6,q7⟩;obtain⟨a,b,rfl,a1,a2⟩:=q2.split;obtain⟨a',b',rfl,b1,b2⟩:=a2.split;exact a1.append (((c4 _ _).1 b1).append b2)
       have r2:=r.swap (H2:=s.h.put id (.cells (pre++(cs++post)) CD)) hl jh (by rw [Hp.bR,ag rfl]) (fun j hj=>by rw [Hp.bR,af hj]) rfl rfl
       have auX:fq (k*es+off) (pre++(cs++post))=some (l++post):=by rw [KR (m:=cs++post) (by rw [<- mj,<- c2]; exact vI pre _)];exact H3 Dn
       obtain⟨x,g1,g2⟩:=Ki cX r2 (by rw [Hp.bR,ag rfl]) iH auX (Yq e1);exact⟨x,_,_,rfl,g1,g2⟩
      ·simp [T.leaf] at h3
     ·simp [T.leaf] at h3
    ·simp [T.leaf] at h
   ·simp [T.leaf] at h
  ·simp [T.leaf] at h
 ·simp [T.leaf] at h
end
end
section
variable {h:Array Obj} {ro:Nat->Prop} {c:CK} {v:AV} {id t k cap:Nat} {u:Value} {ρ:Nat->Int} {a x e:Y} {r:Row} {cs:List AV} {ty:TypeId} {H:Hp}
theorem jR.rd {d:D} (r:jR ro h c d u) (wf:sD c d):Rd ro h c d u:=by
 cases c with
 |int k=> simp only [jR,sD] at r wf;rw [wf,r];exact .int k d.n
 |bool=>
  simp only [jR,sD] at r wf;subst r;rcases wf with rfl|rfl
  ·exact .bool false
  ·exact .bool true
 |str=>exact r
 |sl t=>exact r
theorem ez.get {ro:Nat->Prop} {h:Array Obj} {d:D}: ∀{cs:List CK} {j:Nat} {us:List Value},ez ro h cs j d us->∀{k:Nat} {c:CK},cs[k]?=some c->∃u,us[k]?=some u/\jR ro h c (d.V (j+k)) u
 |[],_,_,_,k,c,hk=>by simp at hk
 |c0::cs,j,us,hh,k,c,hk=>by
  simp only [ez] at hh;obtain⟨u,vs,rfl,U,Z⟩:=hh
  cases k with
  |zero=>
   grind
  |succ k=>
   obtain⟨x,h3,h4⟩:=Z.get (by simpa using hk)
   grind
theorem ez.length {ro:Nat->Prop} {h:Array Obj} {d:D}: ∀{cs:List CK} {j:Nat} {us:List Value},ez ro h cs j d us->us.length=cs.length
 |[],_,us,hh=>by simp only [ez] at hh; subst hh; rfl
 |c::cs,j,us,hh=>by simp only [ez] at hh;obtain⟨u,vs,rfl,_,Z⟩:=hh;simp [Z.length]
theorem ez.shift {ro:Nat->Prop} {h:Array Obj} {a b:D}: ∀{cs:List CK} {j:Nat} {us:List Value},ez ro h cs (j+1) (.p a b) us↔ez ro h cs j b us
 |[],_,us=>by simp only [ez]
 |c::cs,j,us=>by
  simp only [ez,BL];constructor
  ·rintro⟨u,vs,rfl,U,Z⟩;exact⟨u,vs,rfl,U,ez.shift.1 Z⟩
  ·rintro⟨u,vs,rfl,U,Z⟩;exact⟨u,vs,rfl,U,ez.shift.2 Z⟩
section
variable {P:Program} {E:En} {w:World}
theorem rv (h:pE c v=some a):sD c (dec (a.den ρ)):=by
 unfold pE at h;split at h
 ·split at h
  ·split at h
   ·simp only [ah] at h;subst h;simp only [sD,nY,bG,D.n]
   grind
  grind
 ·split at h
  ·split at h
   ·rename_i b;simp only [ah] at h;subst h;simp only [sD,Y.den,bG]
    grind
   ·split at h
    ·split at h
     ·split at h
      ·simp only [ah] at h;subst h;simp only [sD,Y.den,gX.den,bG]
       grind
      grind
     grind
    grind
   grind
  grind
 ·trivial
 ·trivial
theorem nN (hv:VR E h v u) (hc:pE c v=some a):jR E.ro h c (dec (a.den E.ρ)) u:=by
 unfold pE at hc;split at hc
 ·split at hc
  ·split at hc
   ·rename_i hk;subst hk;simp only [ah] at hc;subst hc;simp only [VR] at hv;simp only [jR,nY,bG,D.n];exact hv
   grind
  grind
 ·split at hc
  ·split at hc
   ·rename_i b;simp only [ah] at hc;subst hc;simp only [VR,SB.den] at hv;subst hv;simp only [jR,Y.den,bG];cases b<;>rfl
   ·split at hc
    ·split at hc
     ·split at hc
      ·rename_i x n hn;subst hn;simp only [ah] at hc;subst hc;simp only [VR,SB.den,Y.den] at hv;subst hv;simp only [jR,Y.den,gX.den,nY,bG,D.n];congr 2
       grind
      grind
     grind
    grind
   grind
  grind
 ·obtain⟨s,rfl,hs⟩:=A5 hv hc;simp only [jR,hs];exact .str s
 ·split at hc
  ·split at hc
   ·rename_i ht;subst ht;simp only [ah] at hc;subst hc;exact hv
   grind
  ·simp only [ah] at hc;subst hc;simp only [VR] at hv;subst hv;simp only [jR,Y.den,bG];exact .nil _
  ·split at hc
   ·rename_i ht;subst ht;simp only [ah] at hc;subst hc;simp only [VR] at hv;exact hv.2
   grind
  ·split at hc
   ·simp only [ah] at hc;subst hc;simp only [VR] at hv;obtain⟨_,a,cap,rfl,_⟩:=hv;simp only [jR,Y.den,bG];exact .Ap _ _ _
   grind
  grind
theorem Cf {ρ:Nat->Int}: ∀{cs:List CK} {vs:List AV} {x:Y},jO cs vs=some x->NN cs (dec (x.den ρ))
 |[],[],x,h=>by
  simp only [jO,ah] at h;subst h;refine⟨?_,?_,?_⟩
  ·simp only [Y.den,bG]; rfl
  ·simp only [Y.den,bG]; rfl
  grind
 |[],_::_,x,h=>by simp [jO] at h
 |_::_,[],x,h=>by simp [jO] at h
 |c::cs,v::vs,x,h=>by
  simp only [jO] at h;split at h
  ·grind
  ·rename_i a ha;split at h
   ·grind
   ·rename_i b hb;simp only [ah] at h;subst h;obtain⟨U,Z,h3⟩:=Cf (ρ:=ρ) hb;refine⟨?_,?_,?_⟩
    ·simp only [gx,Y.den,gX.den,bG,D.l,dL]
     grind
    ·simp only [gx,Y.den,gX.den,bG,D.l,aT,Z]
    ·intro j c' y hj hy;simp only [gx,Y.den,gX.den,bG,D.l] at hy
     cases j with
     |zero=> simp only [aA,ah] at hj hy;subst hj hy;exact rv ha
     |succ j=>exact h3 j c' y (by simpa using hj) (by simpa using hy)
theorem Cg {h:Array Obj}: ∀{cs:List CK} {vs:List AV} {us:List Value} {x:Y},cJ E h vs us->jO cs vs=some x->ez E.ro h cs 0 (dec (x.den E.ρ)) us
 |[],[],us,x,hv,hc=>by simp only [cJ] at hv; subst hv; simp [ez]
 |[],_::_,_,x,_,hc=>by simp [jO] at hc
 |_::_,[],_,x,_,hc=>by simp [jO] at hc
 |c::cs,v::vs,us,x,hv,hc=>by
  simp only [jO] at hc;rw [bS] at hv;obtain⟨u,iI,rfl,U,Z⟩:=hv;split at hc
  ·grind
  ·rename_i a ha;split at hc
   ·grind
   ·rename_i b hb;simp only [ah] at hc;subst hc;simp only [ez,gx,Y.den,gX.den,bG];refine⟨u,iI,rfl,by rw [BK]; exact nN U ha,?_⟩;rw [ez.shift];exact Cg Z hb
theorem vO (h:s9 r cs=some x):sC r (dec (x.den ρ)):=by
 unfold s9 at h;split at h
 ·split at h
  ·exact rv h
  grind
 ·exact Cf h
theorem vP {us:List Value} (hv:cJ E h cs us) (hc:s9 r cs=some x):zo E.ro h r (dec (x.den E.ρ)) us:=by
 unfold s9 at hc;split at hc
 ·split at hc
  ·rw [bS] at hv;obtain⟨u,iI,rfl,U,Z⟩:=hv;rw [jn] at Z;subst Z;exact⟨u,rfl,nN U hc⟩
  grind
 ·exact Cg hv hc
theorem xU {ρ:Nat->Int} {r:Row}: ∀(m:Nat) {e e1:Y} {news:List AV},mL r e m news=some e1->
 ∃ds:List D,ds.length=m/\(dec (e1.den ρ)).l=(dec (e.den ρ)).l++ds/\(dec (e.den ρ)=dL (dec (e.den ρ)).l->dec (e1.den ρ)=dL (dec (e1.den ρ)).l)/\(∀d∈ds,sC r d)/\
  ∀(E':En) (h:Array Obj) (us:List Value) (j:Nat),E'.ρ=ρ->cJ E' h news us->cJ E' h (bH ρ r [] ds j) us
 |0,e,e1,[],h=>by simp only [mL,ah] at h;subst h;exact⟨[],rfl,ad,id,ad,fun E' h us j _ hv=>by simpa [bH] using hv⟩
 |0,e,e1,_::_,h=>by simp [mL] at h
 |m+1,e,e1,news,h=>by
  simp only [mL] at h;split at h
  ·grind
  ·rename_i x hx;obtain⟨ds,U,Z,h3,h4,h5⟩:=xU (ρ:=ρ) m h;have hs:dec ((Y.op .snoc e x).den ρ)=dL ((dec (e.den ρ)).l++ [dec (x.den ρ)]):=by simp only [Y.den,gX.den,bG]
   refine⟨dec (x.den ρ)::ds,by simp [U],?_,fun _=>h3 (by rw [hs,bF]),?_,?_⟩
   ·rw [Z,hs,bF]; simp
   ·intro d V;rcases aH.1 V with rfl|V
    ·exact vO hx
    grind
   ·intro E' h us j hρ hv;rw [<- awt r.es news] at hv;obtain⟨a,b,rfl,a1,a2⟩:=hv.split;simp only [bH,eA];refine cJ.append ?_ (h5 E' h b (j+1) hρ a2);rw [gJ];simp only [Y.den,bG];have:=vP a1 hx
    grind
theorem Vg (p7: ∀b,E.ro b->ro b) (hb:ro (E.θ id).1) (ho:OR E h id (.vec e t ty [])) {a:Addr} (hk:k=(dec (e.den E.ρ)).l.length) (lI:k<=cap)
 (hc:0<k->a=⟨(E.θ id).1,(E.θ id).2,none⟩):Rd ro h (.sl t) (dec (e.den E.ρ)) (.slice (some a) k cap):=by
 obtain⟨⟨RO,zj⟩,Cs⟩:=OR.sk.1 ho;obtain⟨us,U,Z,h3⟩:=zT Cs;obtain⟨w1,w2,w3⟩:=zj;rcases awu k with h0|nQ
 ·subst h0;exact absurd (awj hk.symm) w3
 ·have ha:a=⟨(E.θ id).1,(E.θ id).2,none⟩:=hc nQ;subst ha;subst hk
  have jh: ∀(i:Nat) (x:D),(dec (e.den E.ρ)).l[i]?=some x->∃rs,zo ro h (rowOf t) x rs/\∀j u,rs[j]?=some u->us[i*(rowOf t).es+j]?=some u:=by
   intro i x hx;obtain⟨c1,c2⟩:=j5 (ρ:=E.ρ) RO (j:=0) hx;unfold cT at U;rw [c1] at U;obtain⟨p,q,rfl,p1,p2⟩:=U.split;obtain⟨q1,q2,rfl,r1,r2⟩:=p2.split;have hp:=p1.length;rw [c2] at hp;refine⟨q1,?_,?_⟩
   ·have r1':cJ E h (iu (rowOf t) (.eW x)) q1:=r1;rw [gJ] at r1';simp only [Y.den,bG] at r1'
    have mono: ∀c d u,jR E.ro h c d u->jR ro h c d u:=by
     intro c d u hh
     cases c with
     |int k=>exact hh
     |bool=>exact hh
     |str=>exact Rd.du p7 (fun _ _=>rfl) hh
     |sl t=>exact Rd.du p7 (fun _ _=>rfl) hh
    have aru: ∀(cs:List CK) (j:Nat) (d:D) (us:List Value),ez E.ro h cs j d us->ez ro h cs j d us:=by
     intro cs
     induction cs with
     |nil=>intro j d us hh; exact hh
     |cons c cs ih=> intro j d us hh;obtain⟨u,vs,rfl,g1,g2⟩:=hh;exact⟨u,vs,rfl,mono _ _ _ g1,ih _ _ _ g2⟩
    cases hr:rowOf t with
    |one c=> rw [hr] at r1';obtain⟨u,rfl,g1⟩:=r1';exact⟨u,rfl,mono _ _ _ g1⟩
    |many cs=> rw [hr] at r1';exact aru _ _ _ _ r1'
   ·intro j u hj;rw [axF J,hp];rw [show i*(rowOf t).es+j-i*(rowOf t).es=j by omega];have:=(a8.1 hj).1;rw [List.getElem?_append_left this];exact hj
  rw [w1];simp only [bF] at jh ⊢;generalize hL:(dec (e.den E.ρ)).l=L at *
  cases hr:rowOf t with
  |one c=>
   refine .one t c _ _ cap L (fun i=>(us[i]?).getD undef) hr lI hb ?_ ?_
   ·intro i d V;obtain⟨rs,g1,g2⟩:=jh i d V;rw [hr] at g1;obtain⟨u,rfl,g3⟩:=g1;have:=g2 0 u rfl;rw [hr] at this;simp only [Row.es,aw4,avZ] at this;rw [this];exact Z i u this
   ·intro i d V;obtain⟨rs,g1,g2⟩:=jh i d V;rw [hr] at g1;obtain⟨u,rfl,g3⟩:=g1;have:=g2 0 u rfl;rw [hr] at this;simp only [Row.es,aw4,avZ] at this;rw [this];have hw:=w2 d (bq V);rw [hr] at hw;exact g3.rd hw
  |many cs=>
   have hwr: ∀d∈L,NN cs d:=by intro d V;have:=w2 d V;rw [hr] at this;exact this
   have hLm:L=(L.map D.l).map dL:=by rw [awg];have:L.map (dL ∘ D.l)=L.map (fun d=>d):=awp fun d V=>(hwr d V).1.symm;rw [this,List.map_id']
   have hlen:(L.map D.l).length=L.length:=ad
   have ar9:(L.map D.l).length<=cap:=by rw [hlen]; exact lI
   have goal:Rd ro h (.sl t) (dL ((L.map D.l).map dL)) (.slice (some ⟨(E.θ id).1,(E.θ id).2,none⟩) (L.map D.l).length cap):=by
    refine .many t cs _ _ cap (L.map D.l) (fun i j=>(us[i*cs.length+j]?).getD undef) hr ar9 hb ?_ ?_ ?_
    ·intro r hrm;rw [aW] at hrm;obtain⟨d,V,rfl⟩:=hrm;exact (hwr d V).2.1
    ·intro i r j d hi hj;rw [bg,aO] at hi;obtain⟨x,hx,rfl⟩:=hi;obtain⟨rs,g1,g2⟩:=jh i x hx;rw [hr] at g1;have hjl:j<cs.length:=by rw [<- (hwr x (bq hx)).2.1]; exact (a8.1 hj).1
     obtain⟨u,g3,g4⟩:=ez.get g1 (aN hjl);have:=g2 j u g3;rw [hr] at this;simp only [Row.es] at this;rw [this,avX];exact Z _ u this
    ·intro i r j d c hi hj hcj;rw [bg,aO] at hi;obtain⟨x,hx,rfl⟩:=hi;obtain⟨rs,g1,g2⟩:=jh i x hx;rw [hr] at g1;obtain⟨u,g3,g4⟩:=ez.get g1 hcj;have:=g2 j u g3;rw [hr] at this;simp only [Row.es] at this;rw [this];rw [aK] at g4;have V:x.V j=d:=by simp [D.V,hj]
     rw [V] at g4;exact g4.rd ((hwr x (bq hx)).2.2 j c d hcj hj)
   rw [<- hLm,hlen] at goal;exact goal
theorem t! (p7: ∀b,E.ro b->ro b) (hb:ro (E.θ id).1) (ho:OR E h id (.vec e t ty [])) {a:Addr} (hk:k=(dec (e.den E.ρ)).l.length) (lI:k<=cap)
 (hc:fS E id 0 k a cap (.rest (rowOf t).es)):Rd ro h (.sl t) (dec (e.den E.ρ)) (.slice (some a) k cap):=by
 refine Vg p7 hb ho hk lI fun nQ=>?_;simp only [fS] at hc
 grind
structure Sub (H' H:Hp):Prop where
 get: ∀j o,H'.get j=some o->H.get j=some o
 next:H'.next=H.next
 res:H'.res=H.res
theorem Sub.refl (H:Hp):Sub H H:=⟨fun _ _ h=>h,rfl,rfl⟩
theorem Sub.trans {A B C:Hp} (a:Sub B A) (b:Sub C B):Sub C A:=⟨fun j o h=>a.get j o (b.get j o h),b.next.trans a.next,b.res.trans a.res⟩
theorem Sub.drop (H:Hp) (id:Nat):Sub (H.drop id) H:=by
 refine⟨fun j o hj=>?_,rfl,rfl⟩
 grind [Hp.qd]
theorem Nj [bN] (r:bV E H w) {o:eN} (hl:H.get id=some o) :
 lr E w.heap { E with ro:=fun b=>E.ro b\/b=(E.θ id).1 } w.heap/\fD E H w { E with ro:=fun b=>E.ro b\/b=(E.θ id).1 } (H.drop id) w/\bV { E with ro:=fun b=>E.ro b\/b=(E.θ id).1 } (H.drop id) w:=by
 have hk:lr E w.heap { E with ro:=fun b=>E.ro b\/b=(E.θ id).1 } w.heap:=⟨rfl,fun _ h=>h,fun _ _=>rfl,fun _ _=>rfl,fun _ h=> .inl h,fun _ _=>rfl⟩
 have hg: ∀j o,(H.drop id).get j=some o->H.get j=some o/\j≠id:=by
  intro j o hj
  grind [Hp.qd]
 refine⟨hk,⟨rfl,fun _ h=>h,fun _ _=>rfl,fun _ _=>rfl,fun _ h=> .inl h,?_,aw _,.inr rfl,fun _ h=> .inl h,rfl,rfl,rfl,aw _,fun _ _ _=>rfl,fun j o hj _=> ⟨j,o,(hg j o hj).1,rfl⟩⟩,
  ⟨r.fresh,r.res,?_,?_,?_,bN.du r.mI (fun _ h=> .inl h) (fun _ _=>rfl)⟩⟩
 ·intro b hb
  grind
 ·intro j o hj;obtain⟨U,Z⟩:=hg j o hj;obtain⟨g1,g2,g3⟩:=r.live j o U;refine⟨g1,g2.du hk g1 rfl,?_⟩;rintro (hb|hb)
  ·grind
  ·exact Z (r.inj j id o _ U hl hb)
 ·intro i j x y hi hj he;exact r.inj i j x y (hg i x hi).1 (hg j y hj).1 he
 ·intro b hb;rcases hb with hb|rfl
  ·exact r.xl b hb
  ·exact iz r hl
theorem aok [bN] {H':Hp} (r:bV E H w) {v':AV} (h:frz v H=(v',H')) :
 ∃E',E'.ρ=E.ρ/\fD E H w E' H' w/\bV E' H' w/\(∀u,VR E w.heap v u->VR E' w.heap v' u)/\Sub H' H:=by
 have same:(v,H)=(v',H')->∃E',E'.ρ=E.ρ/\fD E H w E' H' w/\bV E' H' w/\(∀u,VR E w.heap v u->VR E' w.heap v' u)/\Sub H' H:=by
  intro he;simp only [an] at he
  grind [fD.refl,Sub.refl]
 unfold frz at h;split at h
 ·rename_i id n t;split at h
  ·rename_i o hl;split at h
   ·rename_i e t' ty ov;split at h
    ·split at h
     ·rename_i ht;split at h
      ·rename_i hn;simp only [an] at h;obtain⟨rfl,rfl⟩:=h;have ht:=ay ht;have hn:=dk _ _ hn;subst ht hn;have BF:=r.live id _ hl;obtain⟨hk,s1,r1⟩:=Nj r hl;refine⟨{ E with ro:=fun b=>E.ro b\/b=(E.θ id).1 },rfl,s1,r1,fun u hv=>?_,Sub.drop _ _⟩;simp only [VR] at hv ⊢
       grind [cQ,t!]
      grind
     grind
    grind
   grind
  grind
 ·simp only [an] at h;obtain⟨rfl,rfl⟩:=h;exact⟨E,rfl,fD.refl _ _ _,r,fun u hu=>by simp only [VR] at hu ⊢; exact hu.2,Sub.refl _⟩
 grind
end
end
section
variable {t n cap l k:Nat} {ro:Nat->Prop} {h:Array Obj} {d:D} {x:Option Addr}
section
variable {P:Program} {E:En} {w:World}
theorem Rd.part {b o:Nat} (r:Rd ro h (.sl t) d (.slice (some ⟨b,o,none⟩) n cap)) (hl:l<=k) (hk:k<=n) (hn:n<=cap) :
 Rd ro h (.sl t) (gq d ((d.l.take k).drop l)) (.slice (some (if cap=l then⟨b,o,none⟩ else⟨b,o+l*(rowOf t).es,none⟩)) (k-l) (cap-l)):=by
 by_cases h0:k-l=0
 ·have:(d.l.take k).drop l= []:=by
   apply List.drop_eq_nil_of_le
   grind
  have V:d≠.i 1:=by
   intro q
   grind [J8]
  rw [this,h0];simp only [gq];rw [af V];exact .Ap _ _ _
 ·rw [af J]
  have kg:(d.l.take k).drop l≠[]:=by
   intro q;have:=congrArg List.length q;obtain⟨x,su,hv,_⟩:=r.slice
   grind
  rw [B9 kg];generalize hc:CK.sl t=c at r;generalize hv:Value.slice (some ⟨b,o,none⟩) n cap=v at r
  cases r with
  |int k n=>simp at hc
  |bool b=>simp at hc
  |str s=>simp at hc
  |nil t=>simp at hv
  |Ap t a cap=>
   grind
  |one t' c b' o' su ds f hr dK hb U Z=>
   simp only [CK.sl.injEq] at hc;subst hc;simp only [Value.slice.injEq,ah,Addr.mk.injEq] at hv;obtain⟨⟨rfl,rfl,_⟩,rfl,rfl⟩:=hv;rw [bF];have hlen:((ds.take k).drop l).length=k-l:=by rw [bp,aZ]; omega
   have zk: ∀i d,((ds.take k).drop l)[i]?=some d->ds[l+i]?=some d:=by
    intro i d V
    grind
   rw [<- hlen];refine .one t c b (o+l*(rowOf t).es) (cap-l) ((ds.take k).drop l) (fun i=>f (l+i)) hr (by rw [hlen]; omega) hb ?_ ?_
   ·intro i d V;have:=U (l+i) d (zk i d V);rw [hr,show o+l*(Row.one c).es+i=o+(l+i) by simp only [Row.es]; omega]
    grind
   grind
  |many t' cs b' o' su rows f hr dK hb hll U Z=>
   simp only [CK.sl.injEq] at hc;subst hc;simp only [Value.slice.injEq,ah,Addr.mk.injEq] at hv;obtain⟨⟨rfl,rfl,_⟩,rfl,rfl⟩:=hv;rw [bF];have hlen:((rows.take k).drop l).length=k-l:=by rw [bp,aZ]; omega
   have zk: ∀i d,((rows.take k).drop l)[i]?=some d->rows[l+i]?=some d:=by
    intro i d V
    grind
   rw [<- hlen,<- awr,<- awz];refine .many t cs b (o+l*(rowOf t).es) (cap-l) ((rows.take k).drop l) (fun i=>f (l+i)) hr (by rw [hlen]; omega) hb (fun r hrm=>hll r (avV (bu hrm))) ?_ ?_
   ·intro i r j d hi hj;have:=U (l+i) r j d (zk i r hi) hj;rw [hr,show o+l*(Row.many cs).es+i*cs.length+j=o+(l+i)*cs.length+j by simp only [Row.es,av7]; omega]
    grind
   grind
theorem Rd.ara (r:Rd ro h (.sl t) d (.slice x n cap)) (hl:l<=k) (hk:k<=n) (hn:n<=cap) :
 Rd ro h (.sl t) (gq d ((d.l.take k).drop l)) (.slice (match x with |some a=>some (if cap=l then a else a.add (l*(rowOf t).es))|none=>none) (k-l) (cap-l)):=by
 have hx:(∃b o,x=some ⟨b,o,none⟩)\/(d= .i 1/\x=none/\n=0/\cap=0)\/(d= .i 2/\n=0/\∃a,x=some a):=by
  generalize hc:CK.sl t=c at r;generalize hv:Value.slice x n cap=v at r
  cases r with
  |int k n=>simp at hc
  |bool b=>simp at hc
  |str s=>simp at hc
  |nil t=>simp only [Value.slice.injEq] at hv; exact .inr (.inl ⟨rfl,hv.1,hv.2.1,hv.2.2⟩)
  |Ap t a cap=>simp only [Value.slice.injEq] at hv; exact .inr (.inr ⟨rfl,hv.2.1,a,hv.1⟩)
  |one t' c b' o' su ds f hr dK hb U Z=>simp only [Value.slice.injEq] at hv; exact .inl ⟨_,_,hv.1⟩
  |many t' cs b' o' su rows f hr dK hb hll U Z=>simp only [Value.slice.injEq] at hv; exact .inl ⟨_,_,hv.1⟩
 rcases hx with ⟨b,o,rfl⟩|⟨rfl,rfl,rfl,rfl⟩|⟨rfl,rfl,a,rfl⟩
 ·have:=r.part hl hk hn;simp only [gG]
  grind
 ·obtain rfl:k=0:=J
  obtain rfl:l=0:=J
  exact .nil _
 ·obtain rfl:k=0:=J
  obtain rfl:l=0:=J
  exact .Ap _ _ _
theorem aoM (l:List D):dL l≠.i 1:=by cases l<;>simp [dL]
theorem Rd.aoq (r:Rd ro h (.sl t) d (.slice x n cap)):Rd ro h (.sl t) (gq d []) (.slice x 0 0):=by
 generalize hc:CK.sl t=c at r;generalize hv:Value.slice x n cap=v at r
 cases r with
 |int k n=>simp at hc
 |bool b=>simp at hc
 |str s=>simp at hc
 |nil t=> simp only [Value.slice.injEq] at hv;obtain⟨rfl,_,_⟩:=hv;exact .nil _
 |Ap t a cap=> simp only [Value.slice.injEq] at hv;obtain⟨rfl,_,_⟩:=hv;exact .Ap _ _ _
 |one t' c b' o' su ds f hr dK hb U Z=> exact ahS
 |many t' cs b' o' su rows f hr dK hb hll U Z=> exact ahS
theorem Ue [bN] {tt:TT} (cX:eS P tt) {s s':St} (hp:cz E.ρ s.pc) {ty:Nat} {e:Y} {lo hi mx:Option AV} {Eh hi' mx':Option Value} {v:AV} {u:Value} (hx:VR E w.heap (.eW e t) u)
 (rm:gZ E w.heap lo Eh) (AU:gZ E w.heap hi hi') (AA:gZ E w.heap mx mx') (h:(MN tt s ty t e lo hi mx).leaf E.ρ=some (v,s')) :
 s'.bC=s.bC/\s'.h=s.h/\cz E.ρ s'.pc/\∃r,(Instr.sliceAt ty u Eh hi' mx').run P w= .ok r w/\VR E w.heap v r:=by
 unfold MN at h;split at h
 ·rename_i m;split at h
  ·rename_i hm;split at h
   ·simp [T.leaf] at h
   ·rename_i z hz;split at h
    ·split at h
     ·rename_i hv;split at h
      ·rename_i hh;have:=bE h;simp only [an] at this;obtain⟨rfl,rfl⟩:=this;refine⟨rfl,rfl,hp,?_⟩;obtain⟨el,ie,hu,nT,rfl⟩:=pC cX hz;have jv:=fm (cX el ie nT);simp only [VR] at hx;obtain⟨x,cap,rfl,lI⟩:=hx.slice
       have zb: ∀(a:AV),Fi a=true->∀d y,pP (some a) d y=some 0:=by
        intro a ha d y;unfold Fi at ha;unfold pP;split at ha
        ·rename_i n hn;have:=yH ha;subst this;simp only [hn];rw [ag (awv y)]
        ·simp at ha
       obtain⟨e1,e2⟩:=gu (P:=P) (w:=w) (isSlice:=true) (len:=(dec (e.den E.ρ)).l.length) (cap:=cap) (m0:=cap) (d:=0) (m:=0) (h0:=0) (h:=0) (l:=0) rm AU AA (fun _=>rfl) (.inr ⟨m,rfl,zb m hm _ _,aw _⟩) (zb hv hh _ _) ⟨fun q=>by simp at q,fun _=>rfl⟩ (by simp [pP]);refine⟨.slice x 0 0,?_,?_⟩
       rotate_left
       ·simp only [VR];refine⟨⟨x,rfl⟩,?_⟩;simp only [Y.den,gX.den,bG];exact hx.aoq
       cases x with
       |none=>simp [Instr.sliceAt,run_underlying hu,Instr.slice,e1,jv]
       |some a=>simp [Instr.sliceAt,run_underlying hu,Instr.slice,e1,jv]
      ·simp [T.leaf] at h
     ·simp [T.leaf] at h
    ·simp [T.leaf] at h
  ·simp [T.leaf] at h
 ·simp only [gZ] at AA;subst AA;split at h
  ·simp [T.leaf] at h
  ·rename_i z hz;split at h
   ·rename_i mj;obtain⟨el,ie,hu,nT,rfl⟩:=pC cX hz;have jv:=fm (cX el ie nT);simp only [VR] at hx;obtain⟨x,cap,rfl,lI⟩:=hx.slice
    have fin: ∀(l k:Nat) (e':Y) (ZS Mi:Option AV),gZ E w.heap ZS Eh->gZ E w.heap Mi hi'->pP Mi (dec (e.den E.ρ)).l.length (dec (e.den E.ρ)).l.length=some k->pP ZS 0 k=some l->dec (e'.den E.ρ)=gq (dec (e.den E.ρ)) (((dec (e.den E.ρ)).l.take k).drop l)->
     ∃r,(Instr.sliceAt ty (.slice x (dec (e.den E.ρ)).l.length cap) Eh hi' none).run P w= .ok r w/\VR E w.heap (.eW e' t) r:=by
     intro l k e' ZS Mi U Z h3 h4 h5;obtain⟨e1,e2⟩:=gu (P:=P) (w:=w) (isSlice:=true) (len:=(dec (e.den E.ρ)).l.length) (cap:=cap) (m0:=cap) (d:=0) (m:=cap) U Z (mx:=none) (mx':=none) (by simp [gZ]) ad (.inl ⟨rfl,rfl,aw _⟩) h3 ⟨fun _=>lI,ad⟩ h4;have hk:=mn h3;have YN:=hx.ara e2 hk lI;refine⟨_,?_,by simp only [VR,h5]; exact YN⟩
     cases x with
     |none=>simp [Instr.sliceAt,run_underlying hu,Instr.slice,e1,jv]
     |some a=>simp [Instr.sliceAt,run_underlying hu,Instr.slice,e1,jv,mj]<;>split<;>rfl
    have lit: ∀(k:IntKind) (n:Nat) (q:Y) (o:Option Value),q.den E.ρ=(n:Int)->gZ E w.heap (some (.int k q)) o->gZ E w.heap (some (.int k (.lit (Int.ofNat n)))) o:=by intro k n q o hq ho;obtain⟨y,rfl,hy⟩:=ho;refine⟨y,rfl,?_⟩;simp only [VR,Y.den] at hy ⊢;rw [hy,hq];rfl
    have bl: ∀(k:IntKind) (n d y:Nat),n<=y->pP (some (.int k (.lit (Int.ofNat n)))) d y=some n:=by intro k n d y hn;simp [pP,lH,hn]
    split at h
    ·
     simp only [gZ] at AU;subst AU;split at h
     ·rename_i kl ql;obtain⟨jS,jx,U⟩:=dh hp h;split at U
      ·simp [T.leaf] at U
      ·rename_i t1;obtain⟨qU,qp,Z⟩:=dh (s:={ s with pc:=jS }) jx U;split at Z
       ·simp [T.leaf] at Z
       ·rename_i t2;have:=bE Z;simp only [an] at this;obtain⟨rfl,rfl⟩:=this;rw [eu,decide_eq_false_iff_not] at t1 t2;rw [cQ] at t2;simp only [Y.den,aws] at t1 t2;obtain⟨l,hl⟩ : ∃l:Nat,ql.den E.ρ=(l:Int):=⟨(ql.den E.ρ).toNat,J⟩;refine⟨rfl,rfl,qp,fin l (dec (e.den E.ρ)).l.length _ _ none (lit kl l ql Eh hl rm) (by simp [gZ]) (by simp [pP]) (bl _ _ _ _ J) ?_⟩;simp only [Y.den,gX.den,bG,hl,aQ,awO]
     ·simp [T.leaf] at h
    ·rename_i kh qh;obtain⟨jS,jx,U⟩:=dh hp h;split at U
     ·simp [T.leaf] at U
     ·rename_i t1;rw [eu,decide_eq_false_iff_not,cQ] at t1;split at U
      ·simp only [gZ] at rm;subst rm;obtain⟨qU,qp,Z⟩:=dh (s:={ s with pc:=jS }) jx U;split at Z
       ·simp [T.leaf] at Z
       ·rename_i t2;have:=bE Z;simp only [an] at this;obtain⟨rfl,rfl⟩:=this;rw [eu,decide_eq_false_iff_not] at t2;simp only [Y.den,aws] at t2;obtain⟨k,hk⟩ : ∃k:Nat,qh.den E.ρ=(k:Int):=⟨(qh.den E.ρ).toNat,J⟩;refine⟨rfl,rfl,qp,fin 0 k _ none _ (by simp [gZ]) (lit kh k qh hi' hk AU) (bl _ _ _ _ J) (by simp [pP]) ?_⟩;simp only [Y.den,gX.den,bG,hk,aQ,av8]
      ·rename_i kl ql;obtain⟨qU,qp,Z⟩:=dh (s:={ s with pc:=jS }) jx U;split at Z
       ·simp [T.leaf] at Z
       ·rename_i t2;obtain⟨pc3,PA,h3⟩:=dh (s:={ s with pc:=qU }) qp Z;split at h3
        ·simp [T.leaf] at h3
        ·rename_i t3;have:=bE h3;simp only [an] at this;obtain⟨rfl,rfl⟩:=this;rw [eu,decide_eq_false_iff_not] at t2 t3;simp only [Y.den,aws] at t2 t3;obtain⟨l,hl⟩ : ∃l:Nat,ql.den E.ρ=(l:Int):=⟨(ql.den E.ρ).toNat,J⟩;obtain⟨k,hk⟩ : ∃k:Nat,qh.den E.ρ=(k:Int):=⟨(qh.den E.ρ).toNat,J⟩;refine⟨rfl,rfl,PA,fin l k _ _ _ (lit kl l ql Eh hl rm) (lit kh k qh hi' hk AU) (bl _ _ _ _ J) (bl _ _ _ _ J) ?_⟩;simp only [Y.den,gX.den,bG,hl,hk,aQ,bQ];exact AI fun q=>by rw [q]; simp [D.l]
      ·simp [T.leaf] at U
    ·simp [T.leaf] at h
   ·simp [T.leaf] at h
end
end
section
variable {e lo n:Y} {ρ:Nat->Int} {t id l k cap:Nat} {α:Type} {s:St} {v:AV} {h H:Hp} {ty:TypeId} {ro:Nat->Prop} {a:Addr} {ds:List D} {z:Int} {x:D}
theorem Hi (h:isZ e=true):e= .lit 0:=by
 unfold isZ at h
 grind [yH]
theorem rz (ρ:Nat->Int) (a b:Y):(uP a b).den ρ=a.den ρ+b.den ρ:=by
 unfold uP;split
 ·rename_i h;rw [Hi h];simp only [Y.den,Int.zero_add]
 ·rfl
theorem X2 (ρ:Nat->Int) (a b:Y):(Gk a b).den ρ=a.den ρ-b.den ρ:=by
 unfold Gk;split
 ·rename_i h;rw [Hi h];simp only [Y.den,Int.sub_zero]
 ·rfl
theorem GQ (hl:lo.den ρ=(l:Int)) (hn:n.den ρ=(k:Int)) :
 dec ((LW e lo n).den ρ)=gq (dec (e.den ρ)) (((dec (e.den ρ)).l.take (l+k)).drop l):=by
 unfold LW;split
 ·rename_i h;have h:=Hi h;subst h;simp only [Y.den] at hl;have:l=0:=J
  subst this;simp only [Y.den,gX.den,bG,hn,aQ,aK,av8]
 ·have Z:((l:Int)+(k:Int)).toNat=l+k:=J
  simp only [Y.den,gX.den,bG,hl,hn,Z,aQ,bQ]
  grind [AI,D.l]
theorem C2 {k:St->T α} {x:α} (hp:cz ρ s.pc) (h:(C3 e lo n s k).leaf ρ=some x) :
 ∃fH,cz ρ fH/\0<=lo.den ρ/\0<=n.den ρ/\lo.den ρ+n.den ρ<=((dec (e.den ρ)).l.length:Int)/\(k { s with pc:=fH }).leaf ρ=some x:=by
 unfold C3 at h;obtain⟨jS,jx,U⟩:=dh hp h;split at U
 ·grind [T.leaf]
 ·rename_i Hy;obtain⟨qU,qp,Z⟩:=dh (s:={ s with pc:=jS }) jx U;split at Z
  ·grind [T.leaf]
  ·rename_i Dq;obtain⟨pc3,PA,h3⟩:=dh (s:={ s with pc:=qU }) qp Z;split at h3
   ·grind [T.leaf]
   ·rename_i hb3;rw [eu,decide_eq_false_iff_not] at Hy Dq hb3;rw [cQ,rz] at hb3;simp only [Y.den] at Hy Dq
    grind
theorem uZ (hv:Jk h id t=some (e,ty)):h.get id=some (.vec e t ty []):=by
 unfold Jk at hv;split at hv
 ·rename_i o ho;split at hv
  ·split at hv
   ·split at hv
    all_goals simp_all
   grind
  grind
 grind
theorem Rd.aq2 {h:Array Obj} {d:D} {n su:Nat} (r:Rd ro h (.sl t) d (.slice (some a) n cap)) (hc:n<=su):Rd ro h (.sl t) d (.slice (some a) n su):=by
 generalize hk:CK.sl t=c at r;generalize hv:Value.slice (some a) n cap=v at r
 cases r with
 |int k n=>simp at hk
 |bool b=>simp at hk
 |str s=>simp at hk
 |nil t=>simp at hv
 |Ap t a cap=> simp only [CK.sl.injEq] at hk;simp only [Value.slice.injEq,ah] at hv;obtain⟨rfl,rfl,rfl⟩:=hv;subst hk;exact .Ap _ _ _
 |one t' c b' o' su ds f hr dK hb U Z=> simp only [CK.sl.injEq] at hk;simp only [Value.slice.injEq,ah] at hv;obtain⟨rfl,rfl,rfl⟩:=hv;subst hk;exact .one _ _ _ _ _ _ _ hr hc hb U Z
 |many t' cs b' o' su rows f hr dK hb hll U Z=> simp only [CK.sl.injEq] at hk;simp only [Value.slice.injEq,ah] at hv;obtain⟨rfl,rfl,rfl⟩:=hv;subst hk;exact .many _ _ _ _ _ _ _ hr hc hb hll U Z
section
variable {P:Program} {E:En} {w:World}
theorem t? {h:Array Obj} (p7: ∀b,E.ro b->ro b) (hb:ro (E.θ id).1) (ho:OR E h id (.vec e t ty [])) (hk:l+k<=(dec (e.den E.ρ)).l.length) (lI:k<=cap)
 (hc:fS E id (l*(rowOf t).es) k a cap (.rest (rowOf t).es)):Rd ro h (.sl t) (gq (dec (e.den E.ρ)) (((dec (e.den E.ρ)).l.take (l+k)).drop l)) (.slice (some a) k cap):=by
 have hw:=(OR.sk.1 ho).1.2
 have kg:dec (e.den E.ρ)≠.i 1:=by intro q;have:=hw.2.2;rw [q] at this;exact this rfl
 rcases awu k with h0|nQ
 ·subst h0
  have:((dec (e.den E.ρ)).l.take (l+0)).drop l= []:=by
   grind
  rw [this,uL kg];exact .Ap _ _ _
 ·simp only [fS] at hc
  obtain⟨rfl,_⟩ : a=⟨(E.θ id).1,(E.θ id).2+l*(rowOf t).es,none⟩/\l*(rowOf t).es+cap*(rowOf t).es=E.κ id:=by
   grind
  have r0:=Vg p7 hb ho (k:=(dec (e.den E.ρ)).l.length) (cap:=(dec (e.den E.ρ)).l.length+l+1) (a:=⟨(E.θ id).1,(E.θ id).2,none⟩) rfl J (fun _=>rfl);have r1:=r0.part (l:=l) (k:=l+k) J hk J;rw [af J,show l+k-l=k by omega] at r1;exact r1.aq2 lI
structure RC [bN] (E:En) (w:World) (H:Hp) (E':En) (H':Hp):Prop where
 ρ:E'.ρ=E.ρ
 dV:fD E H w E' H' w
 rel:bV E' H' w
 sub:Sub H' H
theorem RC.refl [bN] (r:bV E H w):RC E w H E H:=⟨rfl,fD.refl _ _ _,r,Sub.refl _⟩
theorem RC.trans [bN] {E1 E2:En} {H1 H2:Hp} (a:RC E w H E1 H1) (b:RC E1 w H1 E2 H2):RC E w H E2 H2:=
 ⟨b.ρ.trans a.ρ,a.dV.trans b.dV,b.rel,a.sub.trans b.sub⟩
theorem WG [bN] {k:AV->St->T α} {x:α} (hρ:E.ρ=ρ) (r:bV E s.h w) (hp:cz ρ s.pc) (h:(YX v s k).leaf ρ=some x) :
 ∃v' h' fH E',cz ρ fH/\RC E w s.h E' h'/\(∀u,VR E w.heap v u->VR E' w.heap v' u)/\(k v' { s with h:=h',pc:=fH }).leaf ρ=some x:=by
 unfold YX at h;split at h
 ·rename_i id lo n t;split at h
  ·rename_i e ty hv;have hl:=uZ hv;obtain⟨fH,gH,U,Z,h3,h4⟩:=C2 hp h;obtain⟨hk,s1,r1⟩:=Nj r hl;refine⟨_,_,fH,{ E with ro:=fun b=>E.ro b\/b=(E.θ id).1 },gH,⟨rfl,s1,r1,Sub.drop _ _⟩,fun u hu=>?_,h4⟩;simp only [VR] at hu ⊢;obtain⟨hid,l,m,a,cap,q1,q2,rfl,q4,q5⟩:=hu;rw [GQ q1 q2];rw [hρ] at q1 q2;have hh:=t? (E:=E) (ro:=fun b=>E.ro b\/b=(E.θ id).1) (fun _ h=> .inl h) (.inr rfl) (r.live id _ hl).2.1 (l:=l) (k:=m) (by rw [hρ]; omega) q4 q5;exact hh
  ·exact⟨_,_,s.pc,E,hp,RC.refl r,fun _ h=>h,h⟩
 ·cases hf:frz v s.h with
  |mk v' h'=> rw [hf] at h;obtain⟨E',q1,q2,q3,q4,q5⟩:=aok r hf;exact⟨v',h',s.pc,E',hp,⟨q1,q2,q3,q5⟩,q4,h⟩
theorem PQ [bN] {α:Type} {ρ:Nat->Int}: ∀{vs:List AV} {s:St} {E:En} {k:List AV->St->T α} {x:α},E.ρ=ρ->bV E s.h w->cz ρ s.pc->(Kx vs s k).leaf ρ=some x->
 ∃RI h' fH E',cz ρ fH/\RC E w s.h E' h'/\(∀us,cJ E w.heap vs us->cJ E' w.heap RI us)/\(k RI { s with h:=h',pc:=fH }).leaf ρ=some x
 |[],s,E,k,x,hρ,r,hp,h=> ⟨[],s.h,s.pc,E,hp,RC.refl r,fun _ h=>h,h⟩
 |v::vs,s,E,k,x,hρ,r,hp,h=>by simp only [Kx] at h;obtain⟨v1,U,jS,E1,jx,f1,q1,g1⟩:=WG hρ r hp h;obtain⟨vs1,Z,qU,E2,qp,f2,q2,g2⟩:=PQ (s:={ s with h:=U,pc:=jS }) (f1.ρ.trans hρ) f1.rel jx g1;exact apD
theorem Bi {ρ:Nat->Int} {i:Nat} {j:Y} {cs:List AV}: ∀{pre:List (Y×List AV)},eA ρ i (pre++ [(j,cs)])=match eA ρ i pre with |some c=>some c|none=>if j.den ρ=(i:Int) then some cs else none
 |[]=>rfl
 |(a,b)::pre=>by
  simp only [aG,eA];split
  ·rfl
  ·exact Bi
theorem afa (ρ:Nat->Int) (e j x:Y):dec ((Y.op .set e (gx (CR j) x)).den ρ)=dL (dC (dec (e.den ρ)).l (j.den ρ) (dec (x.den ρ))):=by simp only [gx,Y.den,gX.den,bG,nY,D.n]
theorem OL (ds:List D) (z:Int) (x:D) (n:Nat):(dC ds z x)[n]?=if z=(n:Int)/\n<ds.length then some x else ds[n]?:=by
 grind [dC]
theorem zR {ρ:Nat->Int} {E1 E2:En} {h:Array Obj} {r:Row} {pre:List (Y×List AV)} {j:Y} {cs:List AV} {X:D} (mono: ∀a us,cJ E1 h a us->cJ E2 h a us) (hX: ∀us,cJ E1 h cs us->zo E2.ro h r X us) :
 ∀{L L':List D} {i:Nat} {us:List Value},L'.length=L.length->(∀n:Nat,L'[n]?=if j.den ρ=((i+n:Nat):Int)/\n<L.length then some X else L[n]?)->
  cJ E1 h (bH ρ r (pre++ [(j,cs)]) L i) us->cJ E2 h (bH ρ r pre L' i) us
 |[],[],i,us,_,_,hv=>by simp only [bH,cJ] at *; exact hv
 |[],_::_,_,_,hl,_,_=>by simp at hl
 |_::_,[],_,_,hl,_,_=>by simp at hl
 |d::L,d'::L',i,us,hl,hg,hv=>by
  simp only [bH] at *;obtain⟨a,b,rfl,a1,a2⟩:=hv.split;have h0:=hg 0;simp only [aA,avZ,aT] at h0;refine cJ.append ?_ (zR mono hX (by simpa using hl) (fun n=>?_) a2)
  ·rw [Bi] at a1
   cases ho:eA ρ i pre with
   |some c=>
    grind
   |none=>
    rw [ho] at a1;simp only at a1 ⊢;by_cases hj:j.den ρ=(i:Int)
    ·rw [ag hj] at a1;rw [ag ⟨hj,J⟩] at h0;simp only [ah] at h0;subst h0;rw [gJ];simp only [Y.den,bG]
     grind
    grind
  ·have:=hg (n+1)
   grind
theorem afb {r:Row} (U: ∀d∈ds,sC r d) (Z:sC r x): ∀d∈dC ds z x,sC r d:=by
 intro d V;obtain⟨n,hn⟩:=awJ.1 V
 grind [OL]
theorem afc (h:ds≠[]):dC ds z x≠[]:=by
 intro q
 grind [eF]
theorem O4 [bN] {α:Type} {ρ:Nat->Int} {t:Nat}: ∀{ov:List (Y×List AV)} {e:Y} {s:St} {E:En} {k:Y->St->T α} {x:α} (pre:List (Y×List AV)),E.ρ=ρ->bV E s.h w->cz ρ s.pc->yd (rowOf t) (dec (e.den ρ))->
 (JV t ov e s k).leaf ρ=some x->
 ∃e' h' fH E',cz ρ fH/\RC E w s.h E' h'/\yd (rowOf t) (dec (e'.den ρ))/\(dec (e'.den ρ)).l.length=(dec (e.den ρ)).l.length/\
  (∀us,cJ E w.heap (bH ρ (rowOf t) (pre++ov) (dec (e.den ρ)).l 0) us->cJ E' w.heap (bH ρ (rowOf t) pre (dec (e'.den ρ)).l 0) us)/\(k e' { s with h:=h',pc:=fH }).leaf ρ=some x
 |[],e,s,E,k,x,pre,hρ,r,hp,hw,h=> ⟨e,s.h,s.pc,E,hp,RC.refl r,hw,rfl,fun us hu=>by rw [av4] at hu; exact hu,h⟩
 |(j,cs)::ov,e,s,E,k,x,pre,hρ,r,hp,hw,h=>by
  simp only [JV] at h;obtain⟨e1,U,jS,E1,jx,f1,w1,l1,c1,g1⟩:=O4 (pre++ [(j,cs)]) hρ r hp hw h;obtain⟨cs2,Z,qU,E2,qp,f2,c2,g2⟩:=PQ (s:={ s with h:=U,pc:=jS }) (f1.ρ.trans hρ) f1.rel jx g1;split at g2
  ·rename_i y hy;have hρ2:E2.ρ=ρ:=f2.ρ.trans (f1.ρ.trans hρ);have hsd:=afa ρ e1 j y;refine⟨_,Z,qU,E2,qp,f1.trans f2,?_,?_,?_,g2⟩
   ·rw [hsd];exact⟨by rw [bF],by rw [bF]; exact afb w1.2.1 (vO hy),by rw [bF]; exact afc w1.2.2⟩
   ·grind [bF,eF]
   ·intro us hu;rw [hsd,bF];have hu1:=c1 us (by rw [avT]; exact hu);refine zR (j:=j) (cs:=cs) (X:=dec (y.den ρ)) (fun a us ha=>cJ.du (f2.dV.keeps f1.rel) _ _ ha) (fun us Pz=>?_) (eF _ _ _) (fun n=>?_) hu1
    all_goals grind [vP,OL]
  grind [T.leaf]
theorem Ys {ov:List (Y×List AV)} (hv:ang v h=some (id,e,t,ov)): ∃ty,v= .sG id (eD e) t/\h.get id=some (.vec e t ty ov):=by
 unfold ang at hv;split at hv
 ·split at hv
  ·rename_i o ho;split at hv
   ·split at hv
    ·grind
    ·split at hv
     ·rename_i ht;split at hv
      ·rename_i hn;have ht:=ay ht
       grind [dk]
      grind
     grind
   grind
  grind
 grind
theorem WE [bN] {k:AV->St->T α} {x:α} (hρ:E.ρ=ρ) (r:bV E s.h w) (hp:cz ρ s.pc) (h:(YW v s k).leaf ρ=some x) :
 ∃v' h' fH E',cz ρ fH/\RC E w s.h E' h'/\(∀u,VR E w.heap v u->VR E' w.heap v' u)/\(k v' { s with h:=h',pc:=fH }).leaf ρ=some x:=by
 unfold YW at h;split at h
 ·rename_i id e t ov hv;obtain⟨ty,rfl,hl⟩:=Ys hv;obtain⟨hid,ho,avJ⟩:=r.live id _ hl;have E4:=ho;simp only [OR] at E4;rw [hρ] at E4;obtain⟨⟨RO,zj⟩,arr,lo,hi,us,q1,q2,q3,q4,q5,q6,q7⟩:=E4;obtain⟨e',h',fH,E',gH,f,w',l',c',g⟩:=O4 [] hρ r hp zj h;split at g
  ·rename_i o hg;have hg':=f.sub.get _ _ hg;rw [hl] at hg';simp only [ah] at hg';subst hg';obtain⟨hk,s1,r1⟩:=Nj f.rel hg;have hρ':E'.ρ=ρ:=f.ρ.trans hρ;refine⟨_,_,fH,{ E' with ro:=fun b=>E'.ro b\/b=(E'.θ id).1 },gH,⟨f.ρ,f.dV.trans s1,r1,f.sub.trans (Sub.drop _ _)⟩,fun u hu=>?_,g⟩;simp only [VR] at hu ⊢;obtain⟨_,m,a,cap,p1,rfl,p3,p4⟩:=hu;rw [cQ,hρ] at p1;have hθ:=f.dV.θ id hid;have hκ:=f.dV.κ id hid
   have hO:OR E' w.heap id (.vec e' t ty []):=by simp only [OR];rw [hρ',hθ,hκ];have hv':=c' us (by rw [ax]; exact q2);refine⟨⟨fun p hp=>by simp at hp,w'⟩,arr,lo,hi,us,q1,hv',q3,?_,q5,q6,q7⟩;have e1:=hv'.length;have e2:=q2.length;omega
   have hh:=t! (E:=E') (ro:=fun b=>E'.ro b\/b=(E'.θ id).1) (fun _ h=> .inl h) (.inr rfl) hO (k:=m) (cap:=cap) (a:=a) (by rw [hρ',l']; omega) p3 (by
    simp only [fS] at p4 ⊢;rw [hθ,hκ]
    exact p4)
   exact hh
  grind [T.leaf]
 grind [WG]
theorem rX [bN] {α:Type} {ρ:Nat->Int}: ∀{vs:List AV} {s:St} {E:En} {k:List AV->St->T α} {x:α},E.ρ=ρ->bV E s.h w->cz ρ s.pc->(zP vs s k).leaf ρ=some x->
 ∃RI h' fH E',cz ρ fH/\RC E w s.h E' h'/\(∀us,cJ E w.heap vs us->cJ E' w.heap RI us)/\(k RI { s with h:=h',pc:=fH }).leaf ρ=some x
 |[],s,E,k,x,hρ,r,hp,h=> ⟨[],s.h,s.pc,E,hp,RC.refl r,fun _ h=>h,h⟩
 |v::vs,s,E,k,x,hρ,r,hp,h=>by simp only [zP] at h;obtain⟨v1,U,jS,E1,jx,f1,q1,g1⟩:=WE hρ r hp h;obtain⟨vs1,Z,qU,E2,qp,f2,q2,g2⟩:=rX (s:={ s with h:=U,pc:=jS }) (f1.ρ.trans hρ) f1.rel jx g1;exact apD
end
end
section
variable {i:Y} {off id ty es:Nat} {u x:Value} {vs:List AV} {E1:En} {tt:TT} {s s':St} {v' v:AV} {h:Array Obj} {one:Bool}
section
variable {P:Program} {E:En} {w:World}
theorem pF: ∀{cs vs l:List AV} {o:Nat},eB cs o vs=some l->l.length=cs.length
 |cs,[],l,0,h=>by simp only [eB,ah] at h; rw [h]
 |[],v::vs,l,0,h=>by simp [eB] at h
 |c::cs,v::vs,l,0,h=>by exact ah6
 |[],vs,l,o+1,h=>by simp [eB] at h
 |c::cs,vs,l,o+1,h=>by exact ah6
theorem sV: ∀{cs vs l:List AV} {o:Nat} (m:List AV),eB cs o vs=some l->eB (cs++m) o vs=some (l++m)
 |cs,[],l,0,m,h=>by simp only [eB,ah] at h ⊢; rw [h]
 |[],v::vs,l,0,m,h=>by simp [eB] at h
 |c::cs,v::vs,l,0,m,h=>by exact aik
 |[],vs,l,o+1,m,h=>by simp [eB] at h
 |c::cs,vs,l,o+1,m,h=>by exact aik
theorem u7: ∀{cs vs l:List AV} {o:Nat} (p:List AV),eB cs o vs=some l->eB (p++cs) (p.length+o) vs=some (p++l)
 |cs,vs,l,o,[],h=>by simpa using h
 |cs,vs,l,o,x::p,h=>by have:=u7 p h;rw [aG,aT,show p.length+1+o=(p.length+o)+1 by omega];simp only [eB,this,aG]
theorem uf: ∀{cs vs l:List AV} {o:Nat},eB cs o vs=some l->∀j:Nat,l[j]?=if o<=j/\j<o+vs.length then vs[j-o]? else cs[j]?
 |cs,[],l,0,h,j=>by
  simp only [eB,ah] at h
  grind
 |[],v::vs,l,0,h,j=>by simp [eB] at h
 |c::cs,v::vs,l,0,h,j=>by
  simp only [eB] at h;split at h
  ·rename_i l' hl;simp only [ah] at h;subst h
   cases j with
   |zero=>simp
   |succ j=>
    have:=uf hl j
    grind
  grind
 |[],vs,l,o+1,h,j=>by simp [eB] at h
 |c::cs,vs,l,o+1,h,j=>by
  simp only [eB] at h;split at h
  ·rename_i l' hl;simp only [ah] at h;subst h
   cases j with
   |zero=>rw [af J]; rfl
   |succ j=>
    have:=uf hl j
    grind
  grind
theorem Ch (x:Y): ∀(cs:List CK) (j k:Nat),(jP cs j x)[k]?=(cs[k]?).map fun c=>vQ c (lA (j+k) x)
 |[],j,k=>by simp [jP]
 |c::cs,j,0=>by simp [jP]
 |c::cs,j,k+1=>by
  simp only [jP,aC,Ch x cs (j+1) k]
  grind
theorem DY {ρ:Nat->Int} {ks:List CK}: ∀{vs:List AV} {off:Nat} {x x':Y},setCells ks off vs x=some x'->off+vs.length<=(dec (x.den ρ)).l.length->
 (dec (x'.den ρ)).l.length=(dec (x.den ρ)).l.length/\(dec (x.den ρ)=dL (dec (x.den ρ)).l->dec (x'.den ρ)=dL (dec (x'.den ρ)).l)/\
 ∀j,(j<off\/off+vs.length<=j)/\(dec (x'.den ρ)).l[j]?=(dec (x.den ρ)).l[j]?\/∃c v a,off<=j/\vs[j-off]?=some v/\ks[j]?=some c/\pE c v=some a/\(dec (x'.den ρ)).l[j]?=some (dec (a.den ρ))
 |[],off,x,x',h,_=>by
  simp only [setCells,ah] at h
  grind
 |v::vs,off,x,x',h,hle=>by
  simp only [setCells] at h;split at h
  ·rename_i c hc;split at h
   ·rename_i a ha;simp only [aT] at hle
    have hs:dec ((Y.op .set x (gx (.eW (.i (Int.ofNat off))) a)).den ρ)=dL ((dec (x.den ρ)).l.set off (dec (a.den ρ))):=by simp only [gx,Y.den,gX.den,bG,D.n];rfl
    obtain⟨U,Z,h3⟩:=DY (ρ:=ρ) h (by rw [hs,bF,aw5]; omega);rw [hs,bF,aw5] at U;rw [hs] at Z h3;simp only [bF] at Z h3;rw [dG] at hc
    grind
   grind
  grind
theorem ez.mk {ro:Nat->Prop} {h:Array Obj} {d:D}: ∀{cs:List CK} {j:Nat} {us:List Value},us.length=cs.length->(∀k c u,cs[k]?=some c->us[k]?=some u->jR ro h c (d.V (j+k)) u)->ez ro h cs j d us
 |[],j,us,hl,_=>by
  simp only [ez]
  grind
 |c::cs,j,[],hl,_=>by simp at hl
 |c::cs,j,u::us,hl,hh=>by
  simp only [ez];refine⟨u,us,rfl,by simpa using hh 0 c u rfl rfl,ez.mk (by simpa using hl) fun k c' u' U Z=>?_⟩;have:=hh (k+1) c' u' (by simpa using U) (by simpa using Z)
  grind
theorem UF {r:Row} {e e':Y} {k:Nat} {x:D} (hc:Nv r e i off vs=some e') (hi:i.den E.ρ=(k:Int)) (hx:(dec (e.den E.ρ)).l[k]?=some x) (zj:sC r x) (hle:off+vs.length<=r.es) :
 ∃x',dec (e'.den E.ρ)=dL ((dec (e.den E.ρ)).l.set k x')/\sC r x'/\∀(h:Array Obj) (iI:List Value),iI.length=r.es->(∀j v u,off<=j->vs[j-off]?=some v->iI[j]?=some u->VR E h v u)->
  (∀j a u,(j<off\/off+vs.length<=j)->(iu r (.op .at e i))[j]?=some a->iI[j]?=some u->VR E h a u)->zo E.ro h r x' iI:=by
 unfold Nv at hc;split at hc
 ·rename_i c;split at hc
  ·split at hc
   ·rename_i v;split at hc
    ·rename_i a ha;simp only [ah] at hc;subst hc;refine⟨dec (a.den E.ρ),?_,rv ha,?_⟩
     ·exact ahd
     ·intro h iI U Z _
      cases iI with
      |nil=>simp [Row.es] at U
      |cons y ys=>
       have:ys= []:=by
        grind [Row.es]
       subst this;exact⟨y,rfl,nN (Z 0 v y (aw _) rfl rfl) ha⟩
    grind
   grind
  grind
 ·rename_i ks;split at hc
  ·rename_i x' hx';simp only [ah] at hc;subst hc;have gD:=DI E.ρ e i hi hx;obtain⟨w1,w2,w3⟩:=zj;obtain⟨g1,g2,g3⟩:=DY (ρ:=E.ρ) hx' (by rw [gD,w2]; exact hle);rw [gD] at g1 g2 g3;refine⟨dec (x'.den E.ρ),?_,⟨g2 w1,by rw [g1,w2],?_⟩,?_⟩
   ·exact ahd
   ·intro j c y hj hy;rcases g3 j with ⟨_,q2⟩|⟨c',v',a',_,_,q3,q4,q5⟩
    ·grind
    ·rw [q5] at hy;rw [hj] at q3;simp only [ah] at hy q3;subst hy q3;exact rv q4
   ·intro h iI U Z h3;show ez E.ro h ks 0 (dec (x'.den E.ρ)) iI;refine ez.mk U fun j c u hj hu=>?_;rw [aK];rcases g3 j with ⟨q1,q2⟩|⟨c',v',a',q1,q2,q3,q4,q5⟩
    ·have p2:=h3 j (vQ c (lA j (.op .at e i))) u q1 (by simp only [iu,Ch,hj,av0,aK]) hu;rw [ry,va,gD] at p2;have:(dec (x'.den E.ρ)).V j=x.V j:=by simp only [D.V,q2]
     grind
    ·rw [hj] at q3;simp only [ah] at q3;subst q3;have:(dec (x'.den E.ρ)).V j=dec (a'.den E.ρ):=by simp only [D.V,q5,az]
     rw [this];exact nN (Z j v' u q1 q2 hu) q4
  grind
theorem lO {ρ:Nat->Int} {r:Row} {ov sI:List (Y×List AV)}: ∀(ds:List D) (i:Nat),(∀j,i<=j->j<i+ds.length->eA ρ j ov=eA ρ j sI)->bH ρ r ov ds i=bH ρ r sI ds i
 |[],_,_=>rfl
 |d::ds,i,h=>by simp only [bH];rw [h i (aw _) ad,lO ds (i+1) fun j U Z=>h j J (by simp only [aT]; omega)]
theorem GK {ρ:Nat->Int} {pc:List (SB×Bool)} (hp:cz ρ pc) {i:Y} {k:Nat} (hi:i.den ρ=(k:Int)) {mQ:List AV} {r:Row} (hcs:mQ.length=r.es): ∀{ov sI:List (Y×List AV)},JO pc i mQ ov=some sI->xo r ov->
 xo r sI/\eA ρ k sI=some mQ/\∀j:Nat,j≠k->eA ρ j sI=eA ρ j ov
 |[],sI,h,_=>by simp [JO] at h
 |(j,c)::l,sI,h,ho=>by
  simp only [JO] at h;split at h
  ·rename_i he;have he:=dk _ _ he;subst he;simp only [ah] at h;subst h;refine⟨?_,by simp [eA,hi],?_⟩
   ·intro p gH;exact ahr
   ·intro m hm;simp only [eA,hi]
    grind
  ·split at h
   ·rename_i b V;split at h
    ·have V:=ia hp V;rw [jF,beq_iff_eq,hi] at V;simp only [ah] at h;subst h;refine⟨?_,by simp [eA,V],?_⟩
     ·intro p gH;exact ahr
     ·intro m hm;simp only [eA,<- V]
      grind
    split at h
    ·rename_i l' hl;simp only [ah] at h;subst h;have V:=ia hp V;rw [jF,beq_eq_false_iff_ne,hi] at V;obtain⟨g1,g2,g3⟩:=GK hp hi hcs hl fun p gH=>ho p (by simp [gH]);refine⟨?_,?_,?_⟩
     ·intro p gH;rcases aH.1 gH with rfl|gH
      ·exact ho _ ad
      ·exact g1 p gH
     ·simp only [eA]
      grind
     ·intro m hm;simp only [eA]
      grind
    grind
   grind
theorem K5 {ρ:Nat->Int} {pc:List (SB×Bool)} (hp:cz ρ pc) {i:Y} {k:Nat} (hi:i.den ρ=(k:Int)): ∀{ov:List (Y×List AV)},yc pc i ov=true->eA ρ k ov=none
 |[],_=>rfl
 |(j,c)::l,h=>by
  simp only [yc] at h;split at h
  ·rename_i V;have V:=ia hp V;rw [jF,beq_eq_false_iff_ne,hi] at V;simp only [eA];rw [af (fun q=>V q.symm)];exact K5 hp hi h
  grind
theorem OR.congr {a b:List AV} {ty:TypeId} (ho:OR E h id (.cells a ty)) (hl:b.length=a.length) (hv: ∀us,cJ E h a us->cJ E h b us):OR E h id (.cells b ty):=by
 simp only [OR] at ho ⊢
 grind
set_option maxHeartbeats 800000 in
theorem QA [bN] (cX:eS P tt) (r1:bV E1 s.h w) (hp:cz E1.ρ s.pc) (hx:VR E1 w.heap (.B6 id es i off) u)
 (RQ:one=true->cJ E1 w.heap vs x.cells.toList/\∀u∈x.cells.toList,u.oneCell'=true) (h:(HM tt s ty id es i off one vs).leaf E1.ρ=some (v',s')) :
 s'.bC=s.bC/\cz E1.ρ s'.pc/\v'=AV.undef/\∃w' E',(Instr.storeAt ty u x).run P w= .ok () w'/\fD E1 s.h w E' s'.h w'/\bV E' s'.h w':=by
 unfold HM at h;split at h
 ·rename_i o hl;split at h
  ·rename_i e t CD ov;split at h
   ·rename_i ti iH;split at h
    ·rename_i jZ;obtain⟨mj,hvl,wD⟩:=jZ;obtain⟨pc0,hp0,t1,t2,h3⟩:=pI hp h;obtain⟨fH,gH,h3⟩:=yp (s:={ s with pc:=pc0 }) hp0 h3;split at h3
     ·rename_i cs hc;split at h3
      ·rename_i mQ hs;obtain⟨RN,abn⟩:=RQ wD;have I0:=hx;simp only [VR] at I0;obtain⟨hid,k,hk,rfl⟩:=I0;obtain⟨rc,ho,zj⟩:=r1.sk hl;rw [cQ] at t2;have gB:k<(dec (e.den E1.ρ)).l.length:=J
       have V:(dec (e.den E1.ρ)).l[k]?=some (dec (e.den E1.ρ)).l[k]:=aN gB;generalize hxk:(dec (e.den E1.ρ)).l[k]=xk at V;obtain⟨c1,c2⟩:=j5 (ρ:=E1.ρ) ho (j:=0) V;rw [aK] at c1;generalize afS:bH E1.ρ (rowOf t) ov ((dec (e.den E1.ρ)).l.take k) 0=pre at c1 c2;generalize Wp:bH E1.ρ (rowOf t) ov ((dec (e.den E1.ρ)).l.drop (k+1)) (k+1)=post at c1
       have jh:(∀h us,cJ E1 h (match eA E1.ρ k ov with |some cs=>cs|none=>iu (rowOf t) (.eW xk)) us↔cJ E1 h cs us)/\cs.length=(rowOf t).es:=by
        rcases pW gH hk hc with g|⟨g,rfl⟩
        ·rw [g];obtain⟨p,p1,p2,_⟩:=lU g;have:=ho p p1;rw [p2] at this;exact⟨fun _ _=>Iff.rfl,this⟩
        ·rw [g];refine⟨fun h us=>Ah ?_,iD _ _⟩;rw [DI E1.ρ e i hk V];simp only [Y.den,bG]
       obtain⟨hrv,Cs⟩:=jh;have Mk:mQ.length=(rowOf t).es:=by rw [pF hs,Cs]
       have hor:OR E1 w.heap id (.cells (pre++(cs++post)) CD):=by
        have:=(rc.live id _ (by rw [Hp.bR,ag rfl])).2.1;unfold cT at this;rw [c1] at this;refine OR.congr this ?_ ?_
        ·simp only [bd,Cs];congr 2;split
         ·rename_i cs0 h0;obtain⟨p,p1,p2,_⟩:=lU h0;have:=ho p p1;rw [p2] at this;exact this.symm
         ·rw [iD]
        ·intro us q2;obtain⟨a,b,rfl,a1,a2⟩:=q2.split;obtain⟨a',b',rfl,b1,b2⟩:=a2.split;exact a1.append (((hrv _ _).1 b1).append b2)
       have r2:=r1.swap (H2:=s.h.put id (.cells (pre++(cs++post)) CD)) hl hor (by rw [Hp.bR,ag rfl]) (fun j hj=>by rw [Hp.bR,af hj]) rfl rfl
       have Hq:eB (pre++(cs++post)) (k*es+off) vs=some (pre++(mQ++post)):=by rw [<- mj,<- c2];exact u7 pre (sV post hs)
       obtain⟨w',g1,g2,g3⟩:=mT (P:=P) r2 (by rw [Hp.bR,ag rfl]) Hq RN abn;have hlen:x.cells.size=ti.size:=by have:=RN.length; simp only [bh] at this; omega
       have mY:(Instr.storeAt ty (.pointer (some ⟨(E1.θ id).1,(E1.θ id).2+(k*es+off),none⟩)) x).run P w= .ok () w':=by simp [Instr.storeAt,Instr.sureAddr,storeVar,fm (cX ty ti iH),hlen,g1]
       have fin: ∀(o':eN),OR E1 w'.heap id o'->∃w' E',(Instr.storeAt ty (.pointer (some ⟨(E1.θ id).1,(E1.θ id).2+(k*es+off),none⟩)) x).run P w= .ok () w'/\fD E1 s.h w E' (s.h.put id o') w'/\bV E' (s.h.put id o') w':=by
        intro o' E4;have al1:Jc (s.h.put id (.cells (pre++(cs++post)) CD)) s.h:=(Jc.put hl).symm
        have al2:Jc ((s.h.put id (.cells (pre++(cs++post)) CD)).put id (.cells (pre++(mQ++post)) CD)) (s.h.put id o'):=by
         refine⟨fun j y hj=>?_,fun j y hj=>?_,rfl,rfl⟩
         ·rw [Hp.bR];split
          ·exact⟨o',rfl⟩
          ·rename_i kg;rw [Hp.bR,af kg,Hp.bR,af kg] at hj;exact⟨y,hj⟩
         ·rw [Hp.bR] at hj ⊢;split
          ·exact⟨_,rfl⟩
          ·rename_i kg;rw [af kg] at hj;rw [Hp.bR,af kg];exact⟨y,hj⟩
        refine⟨w',E1,mY,(g2.left al1).right al2,?_⟩;exact g3.swap (id:=id) (by rw [Hp.bR,ag rfl]) E4 (by rw [Hp.bR,ag rfl]) (fun j hj=>by rw [Hp.bR,af hj,Hp.bR,af hj,Hp.bR,af hj]) rfl rfl
       have Dp:=(g3.live id _ (by rw [Hp.bR,ag rfl])).2.1
       have apart: ∀sI:List (Y×List AV),xo (rowOf t) sI->eA E1.ρ k sI=some mQ->(∀j:Nat,j≠k->eA E1.ρ j sI=eA E1.ρ j ov)->OR E1 w'.heap id (.vec e t CD sI):=by
        intro sI q1 q2 q3;refine OR.sk.2 ⟨⟨q1,zj⟩,?_⟩
        have:cT E1.ρ e t sI=pre++(mQ++post):=by
         unfold cT;obtain⟨d1,_⟩:=j5 (ρ:=E1.ρ) q1 (j:=0) V;rw [aK,q2] at d1;rw [d1,<- afS,<- Wp];congr 1
         ·refine lO _ _ fun j _ hj=>q3 j ?_;rw [aZ] at hj;omega
         ·congr 1;exact lO _ _ fun j hj _=>q3 j J
        rw [this];exact Dp
       split at h3
       ·rename_i sI RO;have:=bE h3;simp only [an] at this;obtain⟨rfl,rfl⟩:=this;refine⟨rfl,gH,rfl,?_⟩;obtain⟨q1,q2,q3⟩:=GK gH hk Mk RO ho;exact fin _ (apart sI q1 q2 q3)
       ·split at h3
        ·rename_i asd;have Ws:=K5 gH hk asd;split at h3
         ·rename_i e' afQ;have:=bE h3;simp only [an] at this;obtain⟨rfl,rfl⟩:=this;refine⟨rfl,gH,rfl,fin _ ?_⟩;have hxm:xk∈(dec (e.den E1.ρ)).l:=bq V
          have hle:off+vs.length<=(rowOf t).es:=by
           rw [<- Cs];rcases awu vs.length with hz|hz
           ·have arL:=awj hz;subst arL
            have: ∀(l c:List AV) (o:Nat),eB c o []=some l->o<=c.length:=by
             intro l c
             induction c generalizing l with
             |nil=>intro o ho; cases o with |zero=>exact awv _|succ o=>simp [eB] at ho
             |cons a c ih=>
              intro o ho
              cases o with
              |zero=>exact awv _
              |succ o=>
               simp only [eB] at ho;split at ho
               ·rename_i l' I3;have:=ih l' o I3;simp; omega
               ·simp at ho
            have:=this _ _ _ hs;simpa using this
           ·have:=uf hs (off+vs.length-1);rw [ag J] at this
            have Em:(vs[off+vs.length-1-off]?).isSome=true:=by rw [aN J]; rfl
            rw [<- this] at Em;obtain⟨y,hy⟩:=awn.1 Em;have:=(a8.1 hy).1;rw [pF hs] at this;omega
          obtain⟨x',z1,z2,z3⟩:=UF afQ hk V (zj.2.1 xk hxm) hle;refine OR.sk.2 ⟨⟨ho,?_⟩,?_⟩
          ·rw [z1];refine⟨by rw [bF],fun y hy=>?_,by rw [bF]; intro q; have:=congrArg List.length q; simp at this; exact zj.2.2 this⟩;rw [bF] at hy;rcases List.mem_or_eq_of_mem_set hy with hy|rfl
           ·exact zj.2.1 y hy
           ·exact z2
          ·have N3:(dec (e'.den E1.ρ)).l[k]?=some x':=by
            rw [z1,bF,List.getElem?_set_self gB]
           obtain⟨d1,d2⟩:=j5 (ρ:=E1.ρ) ho (j:=0) N3;rw [aK,Ws] at d1
           have Wx:cT E1.ρ e' t ov=pre++(iu (rowOf t) (.eW x')++post):=by
            unfold cT;rw [d1,<- afS,<- Wp,z1,bF];congr 1
            ·rw [aw6 (aw _)]
            ·congr 1;rw [aw7 J]
           rw [Wx];refine OR.congr Dp (by simp only [bd,iD,Mk]) fun us q2=>?_;obtain⟨a,b,rfl,a1,a2⟩:=q2.split;obtain⟨a',b',rfl,b1,b2⟩:=a2.split;refine a1.append (cJ.append ?_ b2);rw [gJ];simp only [Y.den,bG]
           have ar6:cs=iu (rowOf t) (.op .at e i):=by
            rcases pW gH hk hc with g|⟨g,g'⟩
            ·rw [Ws] at g; simp at g
            ·exact g'
           refine z3 _ a' (by rw [b1.length,Mk]) ?_ ?_
           ·intro j vj uj hj1 hj2 hj3;have hjl:=(a8.1 hj2).1;have:=uf hs j;rw [ag J,hj2] at this;obtain⟨y,y1,y2⟩:=b1.nth (by rw [dG]; exact this);rw [hj3] at y1;simp only [ah] at y1;subst y1;exact y2
           ·intro j aj uj hj1 hj2 hj3;have:=uf hs j;rw [af J,ar6,hj2] at this;obtain⟨y,y1,y2⟩:=b1.nth (by rw [dG]; exact this);rw [hj3] at y1;simp only [ah] at y1;subst y1;exact y2
         ·have:=bE h3;simp only [an] at this;obtain⟨rfl,rfl⟩:=this;refine⟨rfl,gH,rfl,fin _ (apart _ ?_ ?_ ?_)⟩
          ·intro p gH;rcases aH.1 gH with rfl|gH
           ·exact Mk
           ·exact ho p gH
          ·simp only [eA];rw [ag hk]
          ·intro j hj;simp only [eA];rw [af J]
        ·simp [T.leaf] at h3
      ·simp [T.leaf] at h3
     ·simp [T.leaf] at h3
    ·simp [T.leaf] at h
   ·simp [T.leaf] at h
  ·simp [T.leaf] at h
 ·simp [T.leaf] at h
theorem af3 {c:CK} (hv:VR E1 h v u):VR E1 h (aol c v) u:=by
 unfold aol;split
 ·split
  ·simp only [VR] at hv ⊢;subst hv;exact⟨⟨none,rfl⟩,by simp only [Y.den,bG]; exact .nil _⟩
  ·split
   ·split
    ·split
     ·simp only [VR] at hv ⊢;obtain⟨_,a,cap,rfl,_,hc⟩:=hv;simp only [fS] at hc;obtain⟨rfl,_⟩:=hc;exact⟨⟨some a,rfl⟩,by simp only [Y.den,bG]; exact .Ap _ _ _⟩
     grind
    grind
   grind
  grind
 grind
theorem KA {E1:En} {h:Array Obj}: ∀(cs:List CK) {vs:List AV} {us:List Value},cJ E1 h vs us->cJ E1 h (PS cs vs) us
 |[],vs,us,hv=>hv
 |_::_,[],us,hv=>hv
 |c::cs,v::vs,us,hv=>by rw [bS] at hv;obtain⟨u,iI,rfl,U,Z⟩:=hv;simp only [PS];rw [bS];exact⟨u,iI,rfl,af3 U,KA cs Z⟩
set_option maxHeartbeats 800000 in
theorem P9 [bN] (cX:eS P tt) (r1:bV E1 s.h w) (hp:cz E1.ρ s.pc) {j0:Y} (hx:VR E1 w.heap (.B6 id es i off) u)
 (RQ:one=true->cJ E1 w.heap vs x.cells.toList/\∀u∈x.cells.toList,u.oneCell'=true) (h:(HL tt s ty id es i j0 off one vs).leaf E1.ρ=some (v',s')) :
 s'.bC=s.bC/\cz E1.ρ s'.pc/\v'=AV.undef/\∃w' E',(Instr.storeAt ty u x).run P w= .ok () w'/\fD E1 s.h w E' s'.h w'/\bV E' s'.h w':=by
 unfold HL at h;split at h
 ·rename_i o hl;split at h
  ·rename_i e t CD ov;split at h
   ·rename_i ti iH;split at h
    ·rename_i jZ;obtain⟨mj,hvl,wD⟩:=jZ;obtain⟨pc0,hp0,t1,t2,h3⟩:=pI hp h;obtain⟨fH,gH,h3⟩:=yp (s:={ s with pc:=pc0 }) hp0 h3;split at h3
     ·rename_i hdb;have hij:=ia gH hdb;split at h3
      ·rename_i cs hc;split at h3
       ·rename_i mQ hs;obtain⟨arK,abn⟩:=RQ wD;have RN:=KA ((SO (rowOf t)).drop off) arK;have I0:=hx;simp only [VR] at I0;obtain⟨hid,k,hk,rfl⟩:=I0;simp only [SB.den,beq_iff_eq] at hij;have IN:j0.den E1.ρ=(k:Int):=by rw [<- hij]; exact hk
        obtain⟨rc,ho,zj⟩:=r1.sk hl;rw [cQ] at t2;have gB:k<(dec (e.den E1.ρ)).l.length:=J
        have V:(dec (e.den E1.ρ)).l[k]?=some (dec (e.den E1.ρ)).l[k]:=aN gB;generalize hxk:(dec (e.den E1.ρ)).l[k]=xk at V;obtain⟨c1,c2⟩:=j5 (ρ:=E1.ρ) ho (j:=0) V;rw [aK] at c1;generalize afS:bH E1.ρ (rowOf t) ov ((dec (e.den E1.ρ)).l.take k) 0=pre at c1 c2;generalize Wp:bH E1.ρ (rowOf t) ov ((dec (e.den E1.ρ)).l.drop (k+1)) (k+1)=post at c1
        have jh:(∀h us,cJ E1 h (match eA E1.ρ k ov with |some cs=>cs|none=>iu (rowOf t) (.eW xk)) us↔cJ E1 h cs us)/\cs.length=(rowOf t).es:=by
         rcases pW gH IN hc with g|⟨g,rfl⟩
         ·rw [g];obtain⟨p,p1,p2,_⟩:=lU g;have:=ho p p1;rw [p2] at this;exact⟨fun _ _=>Iff.rfl,this⟩
         ·rw [g];refine⟨fun h us=>Ah ?_,iD _ _⟩;rw [DI E1.ρ e j0 IN V];simp only [Y.den,bG]
        obtain⟨hrv,Cs⟩:=jh;have Mk:mQ.length=(rowOf t).es:=by rw [pF hs,Cs]
        have hor:OR E1 w.heap id (.cells (pre++(cs++post)) CD):=by
         have:=(rc.live id _ (by rw [Hp.bR,ag rfl])).2.1;unfold cT at this;rw [c1] at this;refine OR.congr this ?_ ?_
         ·simp only [bd,Cs];congr 2;split
          ·rename_i cs0 h0;obtain⟨p,p1,p2,_⟩:=lU h0;have:=ho p p1;rw [p2] at this;exact this.symm
          ·rw [iD]
         ·intro us q2;obtain⟨a,b,rfl,a1,a2⟩:=q2.split;obtain⟨a',b',rfl,b1,b2⟩:=a2.split;exact a1.append (((hrv _ _).1 b1).append b2)
        have r2:=r1.swap (H2:=s.h.put id (.cells (pre++(cs++post)) CD)) hl hor (by rw [Hp.bR,ag rfl]) (fun j hj=>by rw [Hp.bR,af hj]) rfl rfl
        have Hq:eB (pre++(cs++post)) (k*es+off) (PS ((SO (rowOf t)).drop off) vs)=some (pre++(mQ++post)):=by rw [<- mj,<- c2];exact u7 pre (sV post hs)
        obtain⟨w',g1,g2,g3⟩:=mT (P:=P) r2 (by rw [Hp.bR,ag rfl]) Hq RN abn;have hlen:x.cells.size=ti.size:=by have:=arK.length; simp only [bh] at this; omega
        have mY:(Instr.storeAt ty (.pointer (some ⟨(E1.θ id).1,(E1.θ id).2+(k*es+off),none⟩)) x).run P w= .ok () w':=by simp [Instr.storeAt,Instr.sureAddr,storeVar,fm (cX ty ti iH),hlen,g1]
        have fin: ∀(o':eN),OR E1 w'.heap id o'->∃w' E',(Instr.storeAt ty (.pointer (some ⟨(E1.θ id).1,(E1.θ id).2+(k*es+off),none⟩)) x).run P w= .ok () w'/\fD E1 s.h w E' (s.h.put id o') w'/\bV E' (s.h.put id o') w':=by
         intro o' E4;have al1:Jc (s.h.put id (.cells (pre++(cs++post)) CD)) s.h:=(Jc.put hl).symm
         have al2:Jc ((s.h.put id (.cells (pre++(cs++post)) CD)).put id (.cells (pre++(mQ++post)) CD)) (s.h.put id o'):=by
          refine⟨fun j y hj=>?_,fun j y hj=>?_,rfl,rfl⟩
          ·rw [Hp.bR];split
           ·exact⟨o',rfl⟩
           ·rename_i kg;rw [Hp.bR,af kg,Hp.bR,af kg] at hj;exact⟨y,hj⟩
          ·rw [Hp.bR] at hj ⊢;split
           ·exact⟨_,rfl⟩
           ·rename_i kg;rw [af kg] at hj;rw [Hp.bR,af kg];exact⟨y,hj⟩
         refine⟨w',E1,mY,(g2.left al1).right al2,?_⟩;exact g3.swap (id:=id) (by rw [Hp.bR,ag rfl]) E4 (by rw [Hp.bR,ag rfl]) (fun j hj=>by rw [Hp.bR,af hj,Hp.bR,af hj,Hp.bR,af hj]) rfl rfl
        have Dp:=(g3.live id _ (by rw [Hp.bR,ag rfl])).2.1
        have apart: ∀sI:List (Y×List AV),xo (rowOf t) sI->eA E1.ρ k sI=some mQ->(∀j:Nat,j≠k->eA E1.ρ j sI=eA E1.ρ j ov)->OR E1 w'.heap id (.vec e t CD sI):=by
         intro sI q1 q2 q3;refine OR.sk.2 ⟨⟨q1,zj⟩,?_⟩
         have:cT E1.ρ e t sI=pre++(mQ++post):=by
          unfold cT;obtain⟨d1,_⟩:=j5 (ρ:=E1.ρ) q1 (j:=0) V;rw [aK,q2] at d1;rw [d1,<- afS,<- Wp];congr 1
          ·refine lO _ _ fun j _ hj=>q3 j ?_;rw [aZ] at hj;omega
          ·congr 1;exact lO _ _ fun j hj _=>q3 j J
         rw [this];exact Dp
        split at h3
        ·rename_i sI RO;have:=bE h3;simp only [an] at this;obtain⟨rfl,rfl⟩:=this;refine⟨rfl,gH,rfl,?_⟩;obtain⟨q1,q2,q3⟩:=GK gH IN Mk RO ho;exact fin _ (apart sI q1 q2 q3)
        ·split at h3
         ·rename_i asd;have:=bE h3;simp only [an] at this;obtain⟨rfl,rfl⟩:=this;refine⟨rfl,gH,rfl,fin _ (apart _ ?_ ?_ ?_)⟩
          ·intro p gH;rcases aH.1 gH with rfl|gH
           ·exact Mk
           ·exact ho p gH
          ·simp only [eA];rw [ag IN]
          ·intro j hj;simp only [eA];rw [af J]
         ·simp [T.leaf] at h3
       ·simp [T.leaf] at h3
      ·simp [T.leaf] at h3
     ·simp [T.leaf] at h3
    ·simp [T.leaf] at h
   ·simp [T.leaf] at h
  ·simp [T.leaf] at h
 ·simp [T.leaf] at h
theorem QB [bN] (cX:eS P tt) (r:bV E s.h w) (hp:cz E.ρ s.pc) (hx:VR E w.heap (.B6 id es i off) u) (hv:VR E w.heap v x) (h:(HN tt s ty id es i off v).leaf E.ρ=some (v',s')) :
 s'.bC=s.bC/\cz E.ρ s'.pc/\v'=AV.undef/\∃w' E',(Instr.storeAt ty u x).run P w= .ok () w'/\fD E s.h w E' s'.h w'/\bV E' s'.h w':=by
 unfold HN at h;split at h
 ·exact P9 cX r hp hx (fun wD=> ⟨hv.cells wD,(hv.cells wD).uC wD⟩) h
 ·obtain⟨vs,U,jS,E1,jx,f,q,g⟩:=rX rfl r hp h;have hρ:=f.ρ;rw [<- hρ] at jx g;obtain⟨a1,a2,a3,w',E',a4,a5,a6⟩:=QA cX (s:={ s with h:=U,pc:=jS }) f.rel jx (VR.du (f.dV.keeps r) _ _ hx) (fun wD=> ⟨q _ (hv.cells wD),(hv.cells wD).uC wD⟩) g;exact⟨a1,by rw [<- hρ]; exact a2,a3,w',E',a4,f.dV.trans a5,a6⟩
end
end
section
variable {t:Nat} {h:Array Obj} {d:D} {us:List Value} {u:Value} {H0:Hp} {e1:Y}
section
variable {P:Program} {E:En} {w:World}
theorem zo.length {ro:Nat->Prop} {r:Row} (hh:zo ro h r d us):us.length=r.es:=by
 cases r with
 |one c=>obtain⟨u,rfl,_⟩:=hh; rfl
 |many cs=>exact ez.length hh
theorem gr.append {b o:Nat} {vs:List Value} (U:gr h b o us) (Z:gr h b (o+us.length) vs):gr h b o (us++vs):=by
 intro i u hi;rw [axk] at hi;split at hi
 ·exact U i u hi
 ·rename_i gB;have:=Z _ u hi
  grind
theorem Gv {ro:Nat->Prop} (p7:ro=E.ro) {h:Array Obj} {r:Row} {b o:Nat}: ∀(L:List D) (j:Nat),(∀i x,L[i]?=some x->∃us,zo ro h r x us/\gr h b (o+(j+i)*r.es) us)->
 ∃us,cJ E h (bH E.ρ r [] L j) us/\gr h b (o+j*r.es) us/\us.length=L.length*r.es/\∀u∈us,u.oneCell'=true
 |[],j,_=> ⟨[],by simp [bH,cJ],fun i u hi=>by simp at hi,ad,ad⟩
 |d::L,j,hh=>by
  subst p7;obtain⟨a,a1,a2⟩:=hh 0 d rfl
  obtain⟨b',b1,b2,b3,b4⟩:=Gv rfl L (j+1) fun i x hi=>by have:=hh (i+1) x (by simpa using hi);rw [show j+(i+1)=j+1+i by omega] at this;exact this
  have hal:=a1.length;refine⟨a++b',?_,?_,?_,?_⟩
  ·simp only [bH,eA];refine cJ.append ?_ b1;rw [gJ];simpa only [Y.den,bG] using a1
  ·rw [avZ] at a2;refine a2.append ?_
   grind
  ·grind
  ·intro u hu;rcases av5.1 hu with hu|hu
   ·exact a1.uC u hu
   grind
theorem agt (hr:Rd E.ro w.heap (.sl t) d u) (kg:d.l≠[]): ∃us,Src P E w (rowOf t).es d.l.length (bH E.ρ (rowOf t) [] d.l 0) u us:=by
 obtain⟨x,hx⟩ : ∃x,d.l[0]?=some x:=by
  cases h:d.l with
  |nil=>exact absurd h kg
  |cons a l=>exact⟨a,rfl⟩
 obtain⟨b,o,cap,us0,rfl,hb,_,_⟩:=hr.row hx
 obtain⟨us,U,Z,h3,h4⟩:=Gv (E:=E) (ro:=E.ro) rfl (h:=w.heap) (r:=rowOf t) (b:=b) (o:=o) d.l 0 fun i x hi=>by
  obtain⟨b',o',su,iI,he,_,g1,g2⟩:=hr.row hi
  grind
 rw [av1,avZ] at Z;exact⟨us.toArray,fun _=>rfl,fun w2 hw=>by simp only [Builtin.firstCells]; exact Z.VZ h3 w2 hw,by simpa using U,by simpa using h3,by simpa using h4⟩
structure Grown (ρ:Nat->Int) (r:Row) (e0 e1:Y) (ds:List D) (news:List AV):Prop where
 l:(dec (e1.den ρ)).l=(dec (e0.den ρ)).l++ds
 wf:dec (e1.den ρ)=dL (dec (e1.den ρ)).l
 rows: ∀d∈ds,sC r d
 vr: ∀(E':En) (h:Array Obj) (us:List Value) (j:Nat),E'.ρ=ρ->cJ E' h news us->cJ E' h (bH ρ r [] ds j) us
theorem lF (r:Row):xo r []:=fun p hp=>by simp at hp
theorem Fw [bN] {E':En} {w':World} {cells:List AV} {e:TypeId} (r:bV E' (H0.new (.cells cells e)) w') (zj:yd (rowOf t) (dec (e1.den E'.ρ))) (hl:(cT E'.ρ e1 t []).length=cells.length)
 (hv: ∀us,cJ E' w'.heap cells us->cJ E' w'.heap (cT E'.ρ e1 t []) us):bV E' (H0.new (.vec e1 t e [])) w':=by
 have hg:(H0.new (.cells cells e)).get H0.fresh=some (.cells cells e):=by rw [Hp.gP,ag rfl]
 refine r.swap hg (OR.sk.2 ⟨⟨lF _,zj⟩,OR.congr (r.live _ _ hg).2.1 hl hv⟩) (by rw [Hp.gP,ag rfl]) (fun j hj=>by rw [Hp.gP,af hj,Hp.gP,af hj]) ?_ ?_
 all_goals grind [Hp.new]
theorem yE {H1:Hp} {o o':eN} (hn:H1.next=H0.next) (hr:H1.res=H0.res) (hg: ∀j,(H0.get j).isSome=(H1.get j).isSome):Jc (H0.new o) (H1.new o'):=by
 have hf:H1.fresh=H0.fresh:=by unfold Hp.fresh; rw [hn,hr]
 have key: ∀{A B:Option eN} {x:eN},A.isSome=B.isSome->A=some x->∃y,B=some y:=by intro A B x U Z;rw [Z] at U;exact awn.1 U.symm
 refine⟨fun j x hj=>?_,fun j x hj=>?_,?_,?_⟩
 all_goals grind [Hp.gP,Hp.new]
set_option maxHeartbeats 800000 in
theorem AN [bN] {t2 ty:Nat} {H h0:Hp} (r:bV E H w) {ie:TI} {e m:Nat} {own:Option Nat} {news:List AV} {x:AV} {d2:TypeDesc} {u2:Value} {us:Array Value} (xz:oP P e ie)
 (ht:P.underlying t=some (.slice e)) (AS:P.underlying t2=some d2) (kU: ∀k,d2≠.int k) (zH:ie.size≠0) (pM:ie.bytes≠0) (yJ:ie.zero.length=ie.size) (RT:ie.bytes<=400)
 (src:Src P E w ie.size m news u2 us) (hm:0<m) (hx:VR E w.heap x u) {e0:Y} {t':Nat} (hb:sv e own x H=some (e0,t',h0)) (mj:(rowOf t').es=ie.size) {ds:List D} (g:Grown E.ρ (rowOf t') e0 e1 ds news) (yK:ds.length=m)
 (anP:((dec (e0.den E.ρ)).l.length+m)*ie.bytes<=140737488355328) :
 ∃y w' E',(Builtin.append_ #[t,t2] ty #[u,u2]).run P w= .ok y w'/\fD E H w E' (h0.new (.vec e1 t' e [])) w'/\bV E' (h0.new (.vec e1 t' e [])) w'/\VR E' w'.heap (.sG h0.fresh (eD e1) t') y:=by
 have hbound: ∀k,k<=(dec (e0.den E.ρ)).l.length->(k+m)*ie.bytes<=140737488355328:=by intro k hk;exact br (awF _ J) anP
 have hnl:news.length=m*ie.size:=by have U:=src.ZO.length;have Z:=src.size;simp only [bh] at U;omega
 have vB: ∀(a:Option Addr),u= .slice a 0 0->h0=H->(dec (e0.den E.ρ)).l= []->
  ∃y w' E',(Builtin.append_ #[t,t2] ty #[u,u2]).run P w= .ok y w'/\fD E H w E' (h0.new (.vec e1 t' e [])) w'/\bV E' (h0.new (.vec e1 t' e [])) w'/\VR E' w'.heap (.sG h0.fresh (eD e1) t') y:=by
  intro a hu he p8;subst hu he
  have uI:pj ie e 0 m news h0=some (.slice h0.fresh 0 (0+m) (.rest ie.size),h0.new (.cells news e)):=by unfold pj;rw [ag (hbound 0 J)]
  obtain⟨y,w',E',p1,p2,p3,p4⟩:=rp (t:=t) (t2:=t2) (ty:=ty) (cap:=0) r xz ht AS kU pM yJ src J a (old:=[]) (olds:=#[]) (cs:=news) ad (by simp [cJ]) ad ad
   (fun w2 _=>by
    cases a with
    |none=>simp [Builtin.firstCells]
    |some a=>simp only [Builtin.firstCells,av1]; rfl) uI
  have hρ:=p2.ρ;have Dk:(dec (e1.den E'.ρ)).l=ds:=by rw [hρ,g.l,p8,ax]
  have zj:yd (rowOf t') (dec (e1.den E'.ρ)):=by refine⟨by rw [hρ]; exact g.wf,fun d V=>?_,by rw [Dk]; intro q; rw [q] at yK; simp at yK; omega⟩;rw [Dk] at V;exact g.rows d V
  refine⟨y,w',E',p1,p2.right (yE rfl rfl fun _=>rfl),Fw p3 zj ?_ ?_,?_⟩
  ·unfold cT;rw [cR (lF _),Dk,yK,mj,hnl]
  ·intro iI Pz;unfold cT;rw [Dk,hρ];exact g.vr E' w'.heap iI 0 hρ Pz
  ·simp only [VR] at p4 ⊢;obtain⟨q1,a',su,q2,q3,q4⟩:=p4;refine⟨q1,0+m,a',su,?_,q2,q3,?_⟩
   ·rw [cQ,Dk,yK,aK]
   ·rw [mj]; exact q4
 unfold sv at hb;split at hb
 ·rename_i id n t0;split at hb
  ·rename_i o hl;split at hb
   ·rename_i B7 t00 vV ov;split at hb
    ·split at hb
     ·rename_i ht0;split at hb
      ·rename_i hty;split at hb
       ·rename_i hn;simp only [ah,an] at hb;obtain⟨rfl,rfl,rfl⟩:=hb;have ht0:=ay ht0;have hty:=ay hty;have hn:=dk _ _ hn;subst ht0 hty hn;obtain⟨r2,_,anL⟩:=r.sk hl;simp only [VR] at hx;obtain⟨hid,k,a,cap,hk,rfl,hkc,lI⟩:=hx;rw [cQ] at hk;have hk:k=(dec (B7.den E.ρ)).l.length:=J
        have EZ:VR E w.heap (.slice id 0 k (.rest ie.size)) (.slice (some a) k cap):=by simp only [VR];exact⟨hid,a,cap,rfl,hkc,by rw [<- mj]; exact lI⟩
        have Cs:(cT E.ρ B7 t0 []).length=k*ie.size:=by unfold cT;rw [cR (lF _),mj,hk]
        have arX:0<m*ie.size:=awP hm J
        have anY:sB ie vV m news (.slice id 0 k (.rest ie.size)) (H.put id (.cells (cT E.ρ B7 t0 []) vV)) =
         some (.slice H.fresh 0 (k+m) (.rest ie.size),((H.put id (.cells (cT E.ρ B7 t0 []) vV)).drop id).new (.cells (cT E.ρ B7 t0 []++news) vV)):=by
         unfold sB;simp only [if_true];rw [Hp.bR,ag rfl];simp only;rw [af (by rw [Cs,av7]; omega),ag ⟨J,trivial⟩];simp only [fq];unfold pj;rw [ag (hbound k J)];rfl
        obtain⟨y,w',E',p1,p2,p3,p4⟩:=xZ (t:=t) (t2:=t2) (ty:=ty) r2 xz ht AS kU zH pM yJ src EZ anY;have hρ:=p2.ρ;have Dk:(dec (e1.den E'.ρ)).l=(dec (B7.den E.ρ)).l++ds:=by rw [hρ,g.l]
        have zj:yd (rowOf t0) (dec (e1.den E'.ρ)):=by
         refine⟨by rw [hρ]; exact g.wf,fun d V=>?_,by rw [Dk]; intro q; have:=congrArg List.length q; simp at this; rw [this.2] at yK; simp at yK; omega⟩;rw [Dk] at V;rcases av5.1 V with V|V
         ·exact anL.2.1 d V
         ·exact g.rows d V
        have Wx:cT E'.ρ e1 t0 []=cT E.ρ B7 t0 []++bH E.ρ (rowOf t0) [] ds (0+(dec (B7.den E.ρ)).l.length):=by unfold cT;rw [Dk,hρ,mR]
        have Hv: ∀j,(((H.put id (.cells (cT E.ρ B7 t0 []) vV)).drop id).get j)=(H.drop id).get j:=by
         intro j;rw [Hp.qd,Hp.qd];split
         ·rfl
         ·rename_i kg;rw [Hp.bR,af kg]
        have al:Jc (((H.put id (.cells (cT E.ρ B7 t0 []) vV)).drop id).new (.cells (cT E.ρ B7 t0 []++news) vV)) ((H.drop id).new (.vec e1 t0 vV [])):=
         yE rfl rfl fun j=>by rw [Hv]
        have p3':bV E' ((H.drop id).new (.cells (cT E.ρ B7 t0 []++news) vV)) w':=by
         have hg:(((H.put id (.cells (cT E.ρ B7 t0 []) vV)).drop id).new (.cells (cT E.ρ B7 t0 []++news) vV)).get H.fresh=some (.cells (cT E.ρ B7 t0 []++news) vV):=by rw [Hp.gP];exact ag rfl
         refine p3.swap hg (p3.live _ _ hg).2.1 (by rw [Hp.gP]; exact ag rfl) (fun j hj=>?_) ?_ ?_
         ·rw [Hp.gP,Hp.gP];show (if j=H.fresh then _ else _)=(if j=H.fresh then _ else _);rw [af hj,af hj,Hv]
         ·unfold Hp.new;simp only [Hp.drop,Hp.put];split<;>rfl
         ·unfold Hp.new;simp only [Hp.drop,Hp.put];split<;>rfl
        refine⟨y,w',E',p1,(p2.left (Jc.put hl).symm).right al,Fw p3' zj ?_ ?_,?_⟩
        ·rw [Wx,bd,bd,cR (lF _),yK,mj,hnl]
        ·intro iI Pz;obtain⟨a1,a2,rfl,b1,b2⟩:=Pz.split;rw [Wx];exact b1.append (g.vr E' w'.heap a2 _ hρ b2)
        ·simp only [VR] at p4 ⊢;obtain⟨q1,a',su,q2,q3,q4⟩:=p4;refine⟨q1,k+m,a',su,?_,q2,q3,?_⟩
         ·rw [cQ,Dk,bd,yK,hk]
         ·rw [mj]; exact q4
       ·simp at hb
      ·simp at hb
     ·simp at hb
    ·simp at hb
   ·simp at hb
  ·simp at hb
 ·split at hb
  ·simp only [ah,an] at hb;obtain⟨rfl,rfl,rfl⟩:=hb;simp only [VR] at hx;exact vB none hx rfl (by simp only [Y.den,bG,D.l])
  ·simp at hb
 ·split at hb
  ·simp only [ah,an] at hb;obtain⟨rfl,rfl,rfl⟩:=hb;simp only [VR] at hx;obtain⟨x,hx⟩:=hx;exact vB x hx rfl (by simp only [Y.den,bG,D.l])
  ·simp at hb
 ·split at hb
  ·simp only [ah,an] at hb;obtain⟨rfl,rfl,rfl⟩:=hb;simp only [VR] at hx;obtain⟨⟨x,hx⟩,_⟩:=hx;exact vB x hx rfl (by simp only [Y.den,bG,D.l])
  ·simp at hb
 ·split at hb
  ·split at hb
   ·split at hb
    ·split at hb
     ·simp only [ah,an] at hb;obtain⟨rfl,rfl,rfl⟩:=hb;simp only [VR] at hx;obtain⟨_,a,cap,rfl,_,hc⟩:=hx;simp only [fS] at hc;obtain⟨rfl,_⟩:=hc;exact vB (some a) rfl rfl (by simp only [Y.den,bG,D.l])
     ·simp at hb
    ·simp at hb
   ·simp at hb
  ·simp at hb
 ·simp at hb
end
end
section
variable {e1:Y} {t:Nat}
noncomputable def K3 (e:Nat) (own:Option Nat) (x:AV) (h:Hp):Option (Y×Nat×List (Y×List AV)×Hp):=match x with
 | .sG id n t=>match h.get id with
   |some o=>match o with
    | .vec e0 t0 ty ov=>match Nat.beq t t0 with
     |true=>match Nat.beq ty e with
      |true=>match fQ n (eD e0) with
       |true=>some (e0,t,ov,h.drop id)
       |false=>none
      |false=>none
     |false=>none
    |_=>none
   |none=>none
 | .ij=>match own with
   |some t=>some (.eW (.i 0),t,[],h)
   |none=>none
 | .emp=>match own with
   |some t=>some (.eW (.i 0),t,[],h)
   |none=>none
 | .AX _ _=>match own with
   |some t=>some (.eW (.i 0),t,[],h)
   |none=>none
 | .slice _ _ n c=>match n with
   |0=>match c with
    | .exact k=>match k with
      |0=>match own with
       |some t=>some (.eW (.i 0),t,[],h)
       |none=>none
      |_=>none
    |_=>none
   |_=>none
 |_=>none
section
variable {P:Program} {E:En} {w:World}
structure U3 (ρ:Nat->Int) (r:Row) (e0 e1:Y) (ov0 ov1:List (Y×List AV)) (ds:List D) (news:List AV):Prop where
 l:(dec (e1.den ρ)).l=(dec (e0.den ρ)).l++ds
 wf:dec (e1.den ρ)=dL (dec (e1.den ρ)).l
 rows: ∀d∈ds,sC r d
 vr: ∀(E':En) (h:Array Obj) (us0 us:List Value),E'.ρ=ρ->cJ E' h (bH ρ r ov0 (dec (e0.den ρ)).l 0) us0->cJ E' h news us->cJ E' h (bH ρ r ov1 (dec (e1.den ρ)).l 0) (us0++us)
theorem Pe [bN] {E':En} {H0:Hp} {w':World} {cells:List AV} {e:TypeId} {ov:List (Y×List AV)} (r:bV E' (H0.new (.cells cells e)) w') (ho:xo (rowOf t) ov) (zj:yd (rowOf t) (dec (e1.den E'.ρ))) (hl:(cT E'.ρ e1 t ov).length=cells.length)
 (hv: ∀us,cJ E' w'.heap cells us->cJ E' w'.heap (cT E'.ρ e1 t ov) us):bV E' (H0.new (.vec e1 t e ov)) w':=by
 have hg:(H0.new (.cells cells e)).get H0.fresh=some (.cells cells e):=by rw [Hp.gP,ag rfl]
 refine r.swap hg (OR.sk.2 ⟨⟨ho,zj⟩,OR.congr (r.live _ _ hg).2.1 hl hv⟩) (by rw [Hp.gP,ag rfl]) (fun j hj=>by rw [Hp.gP,af hj,Hp.gP,af hj]) ?_ ?_
 all_goals grind [Hp.new]
set_option maxHeartbeats 800000 in
theorem EI [bN] {t2 ty:Nat} {H h0:Hp} (r:bV E H w) {ie:TI} {e m:Nat} {own:Option Nat} {news:List AV} {x:AV} {d2:TypeDesc} {u u2:Value} {us:Array Value} (xz:oP P e ie)
 (ht:P.underlying t=some (.slice e)) (AS:P.underlying t2=some d2) (kU: ∀k,d2≠.int k) (zH:ie.size≠0) (pM:ie.bytes≠0) (yJ:ie.zero.length=ie.size) (RT:ie.bytes<=400)
 (src:Src P E w ie.size m news u2 us) (hm:0<m) (hx:VR E w.heap x u) {e0:Y} {t':Nat} {ov0 ov1:List (Y×List AV)} (hb:K3 e own x H=some (e0,t',ov0,h0)) (mj:(rowOf t').es=ie.size) {ds:List D} (g:U3 E.ρ (rowOf t') e0 e1 ov0 ov1 ds news) (yK:ds.length=m)
 (RO:xo (rowOf t') ov1) (anP:((dec (e0.den E.ρ)).l.length+m)*ie.bytes<=140737488355328) :
 ∃y w' E',(Builtin.append_ #[t,t2] ty #[u,u2]).run P w= .ok y w'/\fD E H w E' (h0.new (.vec e1 t' e ov1)) w'/\bV E' (h0.new (.vec e1 t' e ov1)) w'/\VR E' w'.heap (.sG h0.fresh (eD e1) t') y:=by
 have hbound: ∀k,k<=(dec (e0.den E.ρ)).l.length->(k+m)*ie.bytes<=140737488355328:=by intro k hk;exact br (awF _ J) anP
 have hnl:news.length=m*ie.size:=by have U:=src.ZO.length;have Z:=src.size;simp only [bh] at U;omega
 have vB: ∀(a:Option Addr),u= .slice a 0 0->h0=H->(dec (e0.den E.ρ)).l= []->
  ∃y w' E',(Builtin.append_ #[t,t2] ty #[u,u2]).run P w= .ok y w'/\fD E H w E' (h0.new (.vec e1 t' e ov1)) w'/\bV E' (h0.new (.vec e1 t' e ov1)) w'/\VR E' w'.heap (.sG h0.fresh (eD e1) t') y:=by
  intro a hu he p8;subst hu he
  have uI:pj ie e 0 m news h0=some (.slice h0.fresh 0 (0+m) (.rest ie.size),h0.new (.cells news e)):=by unfold pj;rw [ag (hbound 0 J)]
  obtain⟨y,w',E',p1,p2,p3,p4⟩:=rp (t:=t) (t2:=t2) (ty:=ty) (cap:=0) r xz ht AS kU pM yJ src J a (old:=[]) (olds:=#[]) (cs:=news) ad (by simp [cJ]) ad ad
   (fun w2 _=>by
    cases a with
    |none=>simp [Builtin.firstCells]
    |some a=>simp only [Builtin.firstCells,av1]; rfl) uI
  have hρ:=p2.ρ;have Dk:(dec (e1.den E'.ρ)).l=ds:=by rw [hρ,g.l,p8,ax]
  have zj:yd (rowOf t') (dec (e1.den E'.ρ)):=by refine⟨by rw [hρ]; exact g.wf,fun d V=>?_,by rw [Dk]; intro q; rw [q] at yK; simp at yK; omega⟩;rw [Dk] at V;exact g.rows d V
  refine⟨y,w',E',p1,p2.right (yE rfl rfl fun _=>rfl),Pe p3 RO zj ?_ ?_,?_⟩
  ·unfold cT;rw [cR RO,Dk,yK,mj,hnl]
  ·intro iI Pz;unfold cT;rw [hρ];have:=g.vr E' w'.heap [] iI hρ (by rw [p8]; simp [bH,cJ]) Pz;simpa using this
  ·simp only [VR] at p4 ⊢;obtain⟨q1,a',su,q2,q3,q4⟩:=p4;refine⟨q1,0+m,a',su,?_,q2,q3,?_⟩
   ·rw [cQ,Dk,yK,aK]
   ·rw [mj]; exact q4
 unfold K3 at hb;split at hb
 ·rename_i id n t0;split at hb
  ·rename_i o hl;split at hb
   ·rename_i B7 t00 vV ov
    ·split at hb
     ·rename_i ht0;split at hb
      ·rename_i hty;split at hb
       ·rename_i hn;simp only [ah,an] at hb;obtain⟨rfl,rfl,rfl,rfl⟩:=hb;have ht0:=ay ht0;have hty:=ay hty;have hn:=dk _ _ hn;subst ht0 hty hn;obtain⟨r2,arU,anL⟩:=r.sk hl;simp only [VR] at hx;obtain⟨hid,k,a,cap,hk,rfl,hkc,lI⟩:=hx;rw [cQ] at hk;have hk:k=(dec (B7.den E.ρ)).l.length:=J
        have EZ:VR E w.heap (.slice id 0 k (.rest ie.size)) (.slice (some a) k cap):=by simp only [VR];exact⟨hid,a,cap,rfl,hkc,by rw [<- mj]; exact lI⟩
        have Cs:(cT E.ρ B7 t0 ov).length=k*ie.size:=by unfold cT;rw [cR arU,mj,hk]
        have arX:0<m*ie.size:=awP hm J
        have anY:sB ie vV m news (.slice id 0 k (.rest ie.size)) (H.put id (.cells (cT E.ρ B7 t0 ov) vV)) =
         some (.slice H.fresh 0 (k+m) (.rest ie.size),((H.put id (.cells (cT E.ρ B7 t0 ov) vV)).drop id).new (.cells (cT E.ρ B7 t0 ov++news) vV)):=by
         unfold sB;simp only [if_true];rw [Hp.bR,ag rfl];simp only;rw [af (by rw [Cs,av7]; omega),ag ⟨J,trivial⟩];simp only [fq];unfold pj;rw [ag (hbound k J)];rfl
        obtain⟨y,w',E',p1,p2,p3,p4⟩:=xZ (t:=t) (t2:=t2) (ty:=ty) r2 xz ht AS kU zH pM yJ src EZ anY;have hρ:=p2.ρ;have Dk:(dec (e1.den E'.ρ)).l=(dec (B7.den E.ρ)).l++ds:=by rw [hρ,g.l]
        have zj:yd (rowOf t0) (dec (e1.den E'.ρ)):=by
         refine⟨by rw [hρ]; exact g.wf,fun d V=>?_,by rw [Dk]; intro q; have:=congrArg List.length q; simp at this; rw [this.2] at yK; simp at yK; omega⟩;rw [Dk] at V;rcases av5.1 V with V|V
         ·exact anL.2.1 d V
         ·exact g.rows d V
        have Hv: ∀j,(((H.put id (.cells (cT E.ρ B7 t0 ov) vV)).drop id).get j)=(H.drop id).get j:=by
         intro j;rw [Hp.qd,Hp.qd];split
         ·rfl
         ·rename_i kg;rw [Hp.bR,af kg]
        have al:Jc (((H.put id (.cells (cT E.ρ B7 t0 ov) vV)).drop id).new (.cells (cT E.ρ B7 t0 ov++news) vV)) ((H.drop id).new (.vec e1 t0 vV ov1)):=
         yE rfl rfl fun j=>by rw [Hv]
        have p3':bV E' ((H.drop id).new (.cells (cT E.ρ B7 t0 ov++news) vV)) w':=by
         have hg:(((H.put id (.cells (cT E.ρ B7 t0 ov) vV)).drop id).new (.cells (cT E.ρ B7 t0 ov++news) vV)).get H.fresh=some (.cells (cT E.ρ B7 t0 ov++news) vV):=by rw [Hp.gP];exact ag rfl
         refine p3.swap hg (p3.live _ _ hg).2.1 (by rw [Hp.gP]; exact ag rfl) (fun j hj=>?_) ?_ ?_
         ·rw [Hp.gP,Hp.gP];show (if j=H.fresh then _ else _)=(if j=H.fresh then _ else _);rw [af hj,af hj,Hv]
         ·unfold Hp.new;simp only [Hp.drop,Hp.put];split<;>rfl
         ·unfold Hp.new;simp only [Hp.drop,Hp.put];split<;>rfl
        refine⟨y,w',E',p1,(p2.left (Jc.put hl).symm).right al,Pe p3' RO zj ?_ ?_,?_⟩
        ·unfold cT;rw [cR RO,Dk,bd,bd,cR arU,yK,mj,hnl,av7]
        ·intro iI Pz;obtain⟨a1,a2,rfl,b1,b2⟩:=Pz.split;unfold cT at b1 ⊢;rw [hρ];exact g.vr E' w'.heap a1 a2 hρ b1 b2
        ·simp only [VR] at p4 ⊢;obtain⟨q1,a',su,q2,q3,q4⟩:=p4;refine⟨q1,k+m,a',su,?_,q2,q3,?_⟩
         ·rw [cQ,Dk,bd,yK,hk]
         ·rw [mj]; exact q4
       ·simp at hb
      ·simp at hb
     ·simp at hb
   ·simp at hb
  ·simp at hb
 ·split at hb
  ·simp only [ah,an] at hb;obtain⟨rfl,rfl,rfl,rfl⟩:=hb;simp only [VR] at hx;exact vB none hx rfl (by simp only [Y.den,bG,D.l])
  ·simp at hb
 ·split at hb
  ·simp only [ah,an] at hb;obtain⟨rfl,rfl,rfl,rfl⟩:=hb;simp only [VR] at hx;obtain⟨x,hx⟩:=hx;exact vB x hx rfl (by simp only [Y.den,bG,D.l])
  ·simp at hb
 ·split at hb
  ·simp only [ah,an] at hb;obtain⟨rfl,rfl,rfl,rfl⟩:=hb;simp only [VR] at hx;obtain⟨⟨x,hx⟩,_⟩:=hx;exact vB x hx rfl (by simp only [Y.den,bG,D.l])
  ·simp at hb
 ·split at hb
  ·split at hb
   ·split at hb
    ·split at hb
     ·simp only [ah,an] at hb;obtain⟨rfl,rfl,rfl,rfl⟩:=hb;simp only [VR] at hx;obtain⟨_,a,cap,rfl,_,hc⟩:=hx;simp only [fS] at hc;obtain⟨rfl,_⟩:=hc;exact vB (some a) rfl rfl (by simp only [Y.den,bG,D.l])
     ·simp at hb
    ·simp at hb
   ·simp at hb
  ·simp at hb
 ·simp at hb
end
end
section
variable {e0 p e1:Y} {cs news:List AV} {e t:Nat} {own:Option Nat} {x:AV} {h h0:Hp}
section
variable {ρ:Nat->Int} {r:Row}
theorem sj {p:Y} {cs:List AV}: ∀(ds:List D) (j:Nat),(∀i,j<=i->i<j+ds.length->p.den ρ≠(i:Int))->bH ρ r [(p,cs)] ds j=bH ρ r [] ds j
 |[],_,_=>rfl
 |d::ds,j,h=>by have h0:=h j (aw _) (by simp only [aT]; omega);simp only [bH,eA,af h0];rw [sj ds (j+1) fun i U Z=>h i J (by simp only [aT]; omega)]
theorem ary {ds:List D} (g:Grown ρ r e0 e1 ds news) (hp:p.den ρ<((dec (e0.den ρ)).l.length:Int)):U3 ρ r e0 e1 [(p,cs)] [(p,cs)] ds news:=by refine⟨g.l,g.wf,g.rows,fun E' h us0 us hρ h0 U=>?_⟩;rw [g.l,mR];refine h0.append ?_;rw [sj ds _ fun i U _=>by omega];exact g.vr E' h us _ hρ U
theorem aqg {zs:List AV} {d:D} (g:Grown ρ r e0 e1 [d] zs) (hp:p.den ρ=((dec (e0.den ρ)).l.length:Int)):U3 ρ r e0 e1 [] [(p,news)] [d] news:=by
 refine⟨g.l,g.wf,g.rows,fun E' h us0 us hρ h0 U=>?_⟩;rw [g.l,mR,sj _ _ fun i _ Z=>by omega];refine h0.append ?_;simp only [bH,eA,aK]
 grind
theorem aoT (hb:sv e own x h=some (e0,t,h0)):K3 e own x h=some (e0,t,[],h0):=by
 unfold sv at hb;unfold K3
 repeat' split at hb
 all_goals first
  |(simp at hb; done)
  |(simp only [ah,an] at hb; obtain⟨rfl,rfl,rfl⟩:=hb; simp_all)
theorem aub (hb:C1 e x h=some (e0,t,p,cs,h0)):K3 e own x h=some (e0,t,[(p,cs)],h0):=by
 unfold C1 at hb;unfold K3
 repeat' split at hb
 all_goals first
  |(simp at hb; done)
  |(simp only [ah,an] at hb; obtain⟨rfl,rfl,rfl,rfl,rfl⟩:=hb; simp_all)
end
end
section
variable {u u2:Value} {x v:AV} {t e m t2 ty bytes m' n:Nat} {news:List AV} {us:Array Value} {own:Option Nat} {ie:TI} {d2:TypeDesc} {s s':St} {H h0:Hp} {e0:Y}
section
variable {P:Program} {E:En} {w:World}
theorem Src.frz {E1:En} {s:Nat} {Ec:List AV} (src:Src P E w s m news u us) (h:cJ E1 w.heap Ec us.toList):Src P E1 w s m Ec u us:=
 ⟨src.len,src.first,h,src.size,src.uC⟩
theorem room_le (pM:bytes≠0) (RT:bytes<=400) (hm:(m:Int)<tm bytes 1000000) (hn:n<1000000):(n+m)*bytes<=140737488355328:=by
 have I1:(m:Int)<((140737488355328 / bytes-1000000:Nat):Int):=hm;have U:m<140737488355328 / bytes-1000000:=J
 have Z:n+m<=140737488355328 / bytes:=J
 exact k?
theorem aac (hm:(m:Int)<tm bytes 0):(([]:List D).length+m)*bytes<=140737488355328:=by
 have I1:(m:Int)<((140737488355328 / bytes-0:Nat):Int):=hm;have Z:([]:List D).length+m<=140737488355328 / bytes:=by simp only [bj]; omega
 exact k?
theorem Gw (hn:(n:Int)<tm bytes (m+1)) {k:Nat} (hk:k=m+1):(n+k)*bytes<=140737488355328:=by
 have hn':(n:Int)<((140737488355328 / bytes-(m+1):Nat):Int):=hn;have Z:n+k<=140737488355328 / bytes:=J
 exact k?
theorem so {ρ:Nat->Int} {r:Row} {e e1:Y} (h:mL r e m news=some e1) (hw:dec (e.den ρ)=dL (dec (e.den ρ)).l): ∃ds,ds.length=m/\Grown ρ r e e1 ds news:=by obtain⟨ds,U,Z,h3,h4,h5⟩:=xU (ρ:=ρ) m h;exact⟨ds,U,Z,h3 hw,h4,h5⟩
theorem NC [bN] (r:bV E H w) (h:sv e own x H=some (e0,t,h0)):dec (e0.den E.ρ)=dL (dec (e0.den E.ρ)).l:=by
 have hz:dec ((Y.eW (.i 0)).den E.ρ)=dL (dec ((Y.eW (.i 0)).den E.ρ)).l:=by simp only [Y.den,bG]; rfl
 unfold sv at h;split at h
 ·split at h
  ·rename_i o hl;split at h
   ·split at h
    ·split at h
     ·split at h
      ·split at h
       ·simp only [ah,an] at h;obtain⟨rfl,_⟩:=h;exact (r.sk hl).2.2.1
       grind
      grind
     grind
    grind
   grind
  grind
 all_goals grind
theorem EJ [bN] (xz:oP P e ie) (ht:P.underlying t=some (.slice e)) (AS:P.underlying t2=some d2) (kU: ∀k,d2≠.int k)
 (src:Src P E w ie.size 0 news u2 us) (ho: ∃a n cap,u= .slice a n cap/\n<=cap):(Builtin.append_ #[t,t2] ty #[u,u2]).run P w= .ok u w:=by
 obtain⟨inf,d,z,U,Z,h3,h4,h5,h6,h7,h8⟩:=xz.all;obtain⟨a,n,cap,rfl,hn⟩:=ho;have Pz:us.toList= []:=awj (by rw [bh,src.size,av1])
 have:=lP (t:=t) (t2:=t2) (ty:=ty) (n:=n) (cap:=cap) (a:=a) (w':=w) ht AS kU U h5 src J (by
  cases a with
  |none=>rfl
  |some a=>rw [Pz]; rfl)
 grind
theorem Yr (hx:VR E w.heap x u) (hb:sv e own x H=some (e0,t,h0)): ∃a n cap,u= .slice a n cap/\n<=cap:=by
 unfold sv at hb;split at hb
 ·exact FX
 ·exact FX
 ·exact FX
 ·exact FX
 ·exact FX
 grind
theorem Pu (hx:VR E w.heap x u) (hb:aa3 own x=true): ∃a n cap,u= .slice a n cap/\n<=cap:=by
 unfold aa3 at hb;split at hb
 ·exact FX
 ·exact FX
 ·exact FX
 ·exact FX
 ·exact FX
 ·exact FX
 grind
theorem Ez [bN] (r:bV E s.h w) (hp:cz E.ρ s.pc) (xz:oP P e ie) (hu:P.underlying t=some (.slice e)) (kU:P.underlying t2=some d2) (xC: ∀k,d2≠.int k)
 (zH:ie.size≠0) (pM:ie.bytes≠0) (yJ:ie.zero.length=ie.size) (RT:ie.bytes<=400) (src:Src P E w ie.size (m'+1) news u2 us) (hx:VR E w.heap x u) (h:(B5 e own x ie m' news s).leaf E.ρ=some (v,s')) :
 s'.bC=s.bC/\cz E.ρ s'.pc/\∃z w' E',(Builtin.append_ #[t,t2] ty #[u,u2]).run P w= .ok z w'/\fD E s.h w E' s'.h w'/\bV E' s'.h w'/\VR E' w'.heap v z:=by
 unfold B5 at h;obtain⟨Ec,U,pcF,E1,hpF,f,RN,h⟩:=rX rfl r hp h;split at h
 ·rename_i e0 t' h0 hb;split at h
  ·rename_i hc;obtain⟨mj,hm⟩:=hc;have hρ:=f.ρ;obtain⟨jS,jx,Z⟩:=dh (s:={ s with h:=U,pc:=pcF }) hpF h;split at Z
   ·rename_i t3;rw [eu,decide_eq_true_eq,cQ] at t3;simp only [Y.den] at t3;split at Z
    ·rename_i e1 hcr;have:=bE Z;simp only [an] at this;obtain⟨rfl,rfl⟩:=this;obtain⟨ds,yK,g⟩:=so (ρ:=E1.ρ) hcr (NC f.rel hb);obtain⟨z,w',E',p1,p2,p3,p4⟩:=AN (t:=t) (t2:=t2) (ty:=ty) f.rel xz hu kU xC zH pM yJ RT (src.frz (RN _ src.ZO)) J (VR.du (f.dV.keeps r) _ _ hx) hb mj g yK (Gw (by rw [hρ]; exact t3) J);exact⟨rfl,jx,z,w',E',p1,f.dV.trans p2,p3,p4⟩
    grind [T.leaf]
   grind [T.leaf]
  grind [T.leaf]
 grind [T.leaf]
theorem arc [bN] (r:bV E H w) {p:Y} {cs:List AV} (h:C1 e x H=some (e0,t,p,cs,h0)):dec (e0.den E.ρ)=dL (dec (e0.den E.ρ)).l/\xo (rowOf t) [(p,cs)]:=by
 unfold C1 at h;split at h
 ·split at h
  ·rename_i hl;split at h
   ·split at h
    ·grind
    ·split at h
     ·split at h
      ·rename_i ht;split at h
       ·split at h
        ·simp only [ah,an] at h;obtain⟨rfl,rfl,rfl,rfl,_⟩:=h;have ht:=ay ht;subst ht;exact⟨(r.sk hl).2.2.1,(r.sk hl).2.1⟩
        grind
       grind
      grind
     grind
   grind
  grind
 grind
theorem MW [bN] (r:bV E s.h w) (hp:cz E.ρ s.pc) {own:Option Nat} (xz:oP P e ie) (hu:P.underlying t=some (.slice e)) (kU:P.underlying t2=some d2) (xC: ∀k,d2≠.int k)
 (zH:ie.size≠0) (pM:ie.bytes≠0) (yJ:ie.zero.length=ie.size) (RT:ie.bytes<=400) (src:Src P E w ie.size (m'+1) news u2 us) (hx:VR E w.heap x u) (h:(Dz e x ie m' news s).leaf E.ρ=some (v,s')) :
 s'.bC=s.bC/\cz E.ρ s'.pc/\∃z w' E',(Builtin.append_ #[t,t2] ty #[u,u2]).run P w= .ok z w'/\fD E s.h w E' s'.h w'/\bV E' s'.h w'/\VR E' w'.heap v z:=by
 unfold Dz at h;obtain⟨Ec,U,pcF,E1,hpF,f,RN,h⟩:=rX rfl r hp h;split at h
 ·rename_i e0 t' p cs h0 hb;split at h
  ·rename_i hc;obtain⟨mj,hm⟩:=hc;have hρ:=f.ρ;obtain⟨jS,jx,Z⟩:=dh (s:={ s with h:=U,pc:=pcF }) hpF h;split at Z
   ·rename_i t3;rw [eu,decide_eq_true_eq,cQ] at t3;simp only [Y.den] at t3;obtain⟨qU,qp,h3⟩:=dh (s:={ s with h:=U,pc:=jS }) jx Z;split at h3
    ·rename_i t4;rw [eu,decide_eq_true_eq,cQ] at t4;split at h3
     ·rename_i e1 hcr;have:=bE h3;simp only [an] at this;obtain⟨rfl,rfl⟩:=this;obtain⟨hw1,hw2⟩:=arc f.rel hb;obtain⟨ds,yK,g⟩:=so (ρ:=E1.ρ) hcr hw1;obtain⟨z,w',E',p1,p2,p3,p4⟩:=EI (t:=t) (t2:=t2) (ty:=ty) f.rel xz hu kU xC zH pM yJ RT (src.frz (RN _ src.ZO)) J (VR.du (f.dV.keeps r) _ _ hx) (aub (own:=own) hb) mj (ary g (by rw [hρ]; exact t4)) yK hw2 (Gw (by rw [hρ]; exact t3) J);exact⟨rfl,qp,z,w',E',p1,f.dV.trans p2,p3,p4⟩
     grind [T.leaf]
    grind [T.leaf]
   grind [T.leaf]
  grind [T.leaf]
 grind [T.leaf]
theorem MV [bN] (r:bV E s.h w) (hp:cz E.ρ s.pc) (xz:oP P e ie) (hu:P.underlying t=some (.slice e)) (kU:P.underlying t2=some d2) (xC: ∀k,d2≠.int k)
 (zH:ie.size≠0) (pM:ie.bytes≠0) (yJ:ie.zero.length=ie.size) (RT:ie.bytes<=400) (src:Src P E w ie.size (m'+1) news u2 us) (hx:VR E w.heap x u) (h:(Dy e own x ie m' news s).leaf E.ρ=some (v,s')) :
 s'.bC=s.bC/\cz E.ρ s'.pc/\∃z w' E',(Builtin.append_ #[t,t2] ty #[u,u2]).run P w= .ok z w'/\fD E s.h w E' s'.h w'/\bV E' s'.h w'/\VR E' w'.heap v z:=by
 unfold Dy at h;split at h
 ·rename_i e0 t' h0 hb;split at h
  ·rename_i hc;obtain⟨mj,rfl⟩:=hc;obtain⟨jS,jx,Z⟩:=dh hp h;split at Z
   ·rename_i t3;obtain⟨qU,qp,h3⟩:=dh (s:={ s with pc:=jS }) jx Z;split at h3
    ·rename_i t4;rw [eu,decide_eq_true_eq,cQ] at t4;simp only [Y.den] at t4;split at h3
     ·rename_i e1 hcr;have:=bE h3;simp only [an] at this;obtain⟨rfl,rfl⟩:=this;obtain⟨ds,yK,g⟩:=so (ρ:=E.ρ) hcr (NC r hb)
      obtain⟨d,rfl⟩ : ∃d,ds= [d]:=by
       cases ds with
       |nil=>simp at yK
       |cons d l=>cases l with
        |nil=>exact⟨d,rfl⟩
        |cons a b=>simp at yK
      have hnl:news.length=(rowOf t').es:=by
       have U:=src.ZO.length;have Z:=src.size
       grind
      obtain⟨z,w',E',p1,p2,p3,p4⟩:=EI (t:=t) (t2:=t2) (ty:=ty) r xz hu kU xC zH pM yJ RT src J hx (aoT hb) mj (aqg (p:=.dN 0) g (by rw [jF,cQ] at t3; simp only [beq_iff_eq] at t3; exact t3.symm)) yK (fun q hq=>by simp only [axp] at hq; subst hq; exact hnl) (Gw t4 J)
      grind
     grind [T.leaf]
    grind [T.leaf]
   ·obtain⟨q1,q2,q3⟩:=Ez (s:={ s with pc:=jS }) r jx (ty:=ty) xz hu kU xC zH pM yJ RT src hx Z
    grind
  grind [T.leaf]
 grind [T.leaf]
set_option maxHeartbeats 800000 in
theorem MU [bN] {tt:TT} (cX:eS P tt) (r:bV E s.h w) (hp:cz E.ρ s.pc) {y:AV} (hx:VR E w.heap x u) (hy:VR E w.heap y u2) (hsl:ajQ y=false->∃a n cap,u= .slice a n cap/\n<=cap) (h:(Dx tt t t2 x y s).leaf E.ρ=some (v,s')) :
 s'.bC=s.bC/\cz E.ρ s'.pc/\∃z w' E',(Builtin.append_ #[t,t2] ty #[u,u2]).run P w= .ok z w'/\fD E s.h w E' s'.h w'/\bV E' s'.h w'/\VR E' w'.heap v z:=by
 unfold Dx at h;split at h
 ·rename_i ti iH;split at h
  ·rename_i e hk;split at h
   ·rename_i ie nT;split at h
    ·simp [T.leaf] at h
    ·rename_i XZ abf;obtain⟨d2,kU,IN⟩:=uG (cX t2 XZ abf);split at h
     ·simp [T.leaf] at h
     ·rename_i k2 kg
      have xC: ∀k,d2≠.int k:=by intro k V;subst V;cases BG:XZ.kind<;>rw [BG] at IN<;>simp only [U2] at IN;exact kg _ BG
      split at h
      ·simp [T.leaf] at h
      ·rename_i jZ;simp only [not_or,Classical.not_not] at jZ;obtain⟨zH,pM,yJ,RT⟩:=jZ;have xz:=cX e ie nT;have hu:=fF (cX t ti iH) hk;split at h
       ·
        rename_i e2 ty2;split at h
        ·rename_i e0 t' h0 hb;split at h
         ·rename_i hc;obtain⟨mj,jh⟩:=hc;obtain⟨jS,jx,U⟩:=dh hp h;rw [ny,cQ] at U;simp only [VR] at hy;obtain⟨xa,avh,hu2,_⟩:=hy.slice;split at U
          ·rename_i hz;simp only [Y.den,beq_iff_eq] at hz;have:=bE U;simp only [an] at this;obtain⟨rfl,rfl⟩:=this;have BE:(dec (e2.den E.ρ)).l.length=0:=J
           rw [BE] at hu2;subst hu2
           have src:Src P E w ie.size 0 [] (.slice xa 0 avh) #[]:=⟨fun _=>rfl,fun w2 _=>by
            cases xa with
            |none=>simp [Builtin.firstCells]
            |some a=>simp only [Builtin.firstCells,av1]; rfl,by simp [cJ],ad,ad⟩
           exact⟨rfl,jx,u,w,E,EJ xz hu kU xC src (Yr hx hb),fD.refl _ _ _,r,hx⟩
          ·rename_i hz;simp only [Y.den,beq_eq_false_iff_ne,ne_eq] at hz;obtain⟨qU,qp,Z⟩:=dh (s:={ s with pc:=jS }) jx U;split at Z
           ·rename_i NX;obtain⟨pc3,PA,h3⟩:=dh (s:={ s with pc:=qU }) qp Z;split at h3
            ·rename_i t3;rw [eu,decide_eq_true_eq,cQ] at NX t3;simp only [Y.den] at NX t3;have arW:(dec (e2.den E.ρ)).l≠[]:=by intro q; rw [q] at hz; simp at hz
             obtain⟨us,src⟩:=agt (P:=P) (w:=w) hy arW;rw [jh] at src;rw [mj] at src
             have nQ:0<(dec (e2.den E.ρ)).l.length:=by
              rcases awu (dec (e2.den E.ρ)).l.length with q|q
              ·omega
              ·exact q
             have anK:dec (e2.den E.ρ)=dL (dec (e2.den E.ρ)).l/\∀d∈(dec (e2.den E.ρ)).l,sC (rowOf ty2) d:=by
              have key: ∀{d:D} {v:Value},Rd E.ro w.heap (.sl ty2) d v->d.l≠[]->d=dL d.l/\∀x∈d.l,sC (rowOf ty2) x:=by
               intro d v hr kg
               have adZ: ∀{c:CK} {d:D} {v:Value},Rd E.ro w.heap c d v->sD c d:=by
                intro c d v hr
                cases hr with
                |int k n=>rfl
                |bool b=>cases b<;>simp [sD]
                |str s=>trivial
                |nil t=>trivial
                |Ap t a cap=>trivial
                |one t c b o cap ds f hr hc hb U Z=>trivial
                |many t cs b o cap rows f hr hc hb hl U Z=>trivial
               generalize hc:CK.sl ty2=c at hr
               cases hr with
               |int k n=>simp at hc
               |bool b=>simp at hc
               |str s=>simp at hc
               |nil t=>exact absurd rfl kg
               |Ap t a cap=>exact absurd rfl kg
               |one t c b o cap ds f hr dK hb U Z=> simp only [CK.sl.injEq] at hc;subst hc;refine⟨by rw [bF],fun x hx=>?_⟩;rw [bF] at hx;obtain⟨i,hi⟩:=awJ.1 hx;rw [hr];exact adZ (Z i x hi)
               |many t cs b o cap rows f hr dK hb hl U Z=> simp only [CK.sl.injEq] at hc;subst hc;refine⟨by rw [bF],fun x hx=>?_⟩;rw [bF,aW] at hx;obtain⟨row,hrm,rfl⟩:=hx;obtain⟨i,hi⟩:=awJ.1 hrm;rw [hr];refine⟨by rw [bF],by rw [bF]; exact hl row hrm,fun j c y hj hy=>?_⟩;rw [bF] at hy;exact adZ (Z i row j y c hi hy hj)
              exact key hy arW
             rw [jh] at anK
             have grown: ∀e1:Y,(dec (e1.den E.ρ)).l=(dec (e0.den E.ρ)).l++(dec (e2.den E.ρ)).l->dec (e1.den E.ρ)=dL (dec (e1.den E.ρ)).l->Grown E.ρ (rowOf t') e0 e1 (dec (e2.den E.ρ)).l (bH E.ρ (rowOf t') [] (dec (e2.den E.ρ)).l 0):=by
              intro e1 q1 q2;refine⟨q1,q2,anK.2,fun E' h us j hρ hv=>?_⟩
              have:bH E.ρ (rowOf t') [] (dec (e2.den E.ρ)).l j=bH E.ρ (rowOf t') [] (dec (e2.den E.ρ)).l 0:=by
               generalize (dec (e2.den E.ρ)).l=L;clear hv q1 q2
               have gen: ∀(L:List D) (a b:Nat),bH E.ρ (rowOf t') [] L a=bH E.ρ (rowOf t') [] L b:=by
                intro L
                induction L with
                |nil=>intro a b; rfl
                |cons d L ih=>intro a b; simp only [bH,eA]; rw [ih (a+1) (b+1)]
               exact gen L j 0
              rw [this];exact hv
             have hbw:=NC r hb;split at h3
             ·rename_i p8
              have asb:(dec (e0.den E.ρ)).l= []:=by
               unfold Tq at p8;split at p8
               ·split at p8
                ·simp only [Y.den,bG,D.l]
                ·simp at p8
               ·simp at p8
              have:=bE h3;simp only [an] at this;obtain⟨rfl,rfl⟩:=this;obtain⟨z,w',E',p1,p2,p3,p4⟩:=AN (t:=t) (t2:=t2) (ty:=ty) r xz hu kU xC zH pM yJ RT src nQ hx hb mj (grown e2 (by rw [asb,ax]) anK.1) rfl (by rw [asb]; refine aac (bytes:=ie.bytes) ?_; have q:=NX; unfold aad at q; rw [p8] at q; exact q);exact⟨rfl,PA,z,w',E',p1,p2,p3,p4⟩
             ·rename_i p8;have:=bE h3;simp only [an] at this;obtain⟨rfl,rfl⟩:=this;obtain⟨z,w',E',p1,p2,p3,p4⟩:=AN (t:=t) (t2:=t2) (ty:=ty) r xz hu kU xC zH pM yJ RT src nQ hx hb mj (grown (.op .cat e0 e2) (by simp only [Y.den,gX.den,bG,bF]) (by simp only [Y.den,gX.den,bG,bF])) rfl (room_le pM RT (by have q:=NX; unfold aad at q; rw [p8] at q; exact q) J);exact⟨rfl,PA,z,w',E',p1,p2,p3,p4⟩
            ·simp [T.leaf] at h3
           ·simp [T.leaf] at Z
         ·simp [T.leaf] at h
        ·simp [T.leaf] at h
       ·
        split at h
        ·rename_i m news Tx;obtain⟨us,src⟩:=sU (P:=P) r hy Tx;split at h
         ·have:=bE h;simp only [an] at this;obtain⟨rfl,rfl⟩:=this
          exact⟨rfl,hp,u,w,E,EJ xz hu kU xC src (hsl (by
           cases y<;>first |rfl|(rename_i hnd _ _ _; exact absurd rfl (hnd _ _))|(rename_i hnd; exact absurd rfl (hnd _ _)))),fD.refl _ _ _,r,hx⟩
         ·rename_i m';split at h
          ·exact MW (own:=ti.own) r hp xz hu kU xC zH pM yJ RT src hx h
          ·split at h
           ·exact MV r hp xz hu kU xC zH pM yJ RT src hx h
           ·exact Ez r hp xz hu kU xC zH pM yJ RT src hx h
        ·simp [T.leaf] at h
   ·simp [T.leaf] at h
  ·simp [T.leaf] at h
 ·simp [T.leaf] at h
end
end
section
variable {t id ty n:Nat} {u:Value} {tt:TT} {s s':St} {v:AV} {lo hi mx:Option AV} {Eh hi' mx':Option Value} {k:IntKind}
section
variable {P:Program} {E:En} {w:World}
theorem Vf {h:Array Obj} {n:Y} (hv:VR E h (.sG id n t) u):VR E h (.wH id (.lit 0) n t) u:=by simp only [VR] at hv ⊢;obtain⟨U,k,a,cap,Z,h3,h4,h5⟩:=hv;exact⟨U,0,k,a,cap,rfl,Z,h3,h4,by rw [av1]; exact h5⟩
theorem TW (cX:eS P tt) (hp:cz E.ρ s.pc) {lo n:Y} {ix:AV} {ui:Value} (hx:VR E w.heap (.wH id lo n t) u) (BH:VR E w.heap ix ui) (h:(Mz tt s ty id t lo n ix).leaf E.ρ=some (v,s')) :
 s'.bC=s.bC/\s'.h=s.h/\cz E.ρ s'.pc/\∃r,(Instr.indexAt ty u ui).run P w= .ok r w/\VR E w.heap v r:=by
 unfold Mz at h;split at h
 ·rename_i kd i;split at h
  ·rename_i z hz;split at h
   ·rename_i mj;obtain⟨fH,gH,U,Z,h3⟩:=pI hp h;have:=bE h3;simp only [an] at this;obtain⟨rfl,rfl⟩:=this;refine⟨rfl,rfl,gH,?_⟩;simp only [VR] at hx BH;subst BH;obtain⟨hid,l,m,a,cap,hl,hn,rfl,lI,hc⟩:=hx;obtain⟨el,ie,hu,nT,rfl⟩:=pC cX hz;obtain⟨k,hk⟩ : ∃k:Nat,i.den E.ρ=(k:Int):=⟨(i.den E.ρ).toNat,J⟩;have gB:k<m:=J
    have ha:a=⟨(E.θ id).1,(E.θ id).2+l*ie.size,none⟩:=by
     simp only [fS] at hc
     grind
    subst ha;refine⟨.pointer (some ⟨(E.θ id).1,(E.θ id).2+l*ie.size+k*ie.size,none⟩),?_,?_⟩
    ·exact alS
    ·simp only [VR];exact⟨hid,l+k,by rw [rz,hl,hk]; rfl,by rw [avZ,av7,avX]⟩
   ·simp [T.leaf] at h
  ·simp [T.leaf] at h
 ·simp [T.leaf] at h
theorem aaQ {l:Y} (h:loE lo=some l) (rm:gZ E w.heap lo Eh) (hn:l.den E.ρ=(n:Int)) :
 ∃ZS,gZ E w.heap ZS Eh/\∀y,n<=y->pP ZS 0 y=some n:=by
 unfold loE at h;split at h
 ·simp only [ah] at h;subst h;simp only [Y.den] at hn
  grind [pP]
 ·split at h
  ·rename_i v k q;simp only [ah] at h;subst h;obtain⟨y,rfl,hy⟩:=rm;refine⟨some (.int k (.lit (Int.ofNat n))),⟨y,rfl,?_⟩,fun y hy=>by simp [pP,lH,hy]⟩;simp only [VR,Y.den] at hy ⊢
   grind
  grind
theorem FA {q:Y} {o:Option Value} (hq:q.den E.ρ=(n:Int)) (ho:gZ E w.heap (some (.int k q)) o):gZ E w.heap (some (.int k (.lit (Int.ofNat n)))) o:=by
 obtain⟨y,rfl,hy⟩:=ho;refine⟨y,rfl,?_⟩;simp only [VR,Y.den] at hy ⊢
 grind
theorem FO {d y:Nat} (hn:n<=y):pP (some (.int k (.lit (Int.ofNat n)))) d y=some n:=by simp [pP,lH,hn]
theorem HK [bN] (cX:eS P tt) (r:bV E s.h w) (hp:cz E.ρ s.pc) {lo0 n0:Y} (hx:VR E w.heap (.wH id lo0 n0 t) u)
 (rm:gZ E w.heap lo Eh) (AU:gZ E w.heap hi hi') (AA:gZ E w.heap mx mx') (h:(FH tt s ty id t lo0 n0 lo hi mx).leaf E.ρ=some (v,s')) :
 s'.bC=s.bC/\s'.h=s.h/\cz E.ρ s'.pc/\∃r,(Instr.sliceAt ty u Eh hi' mx').run P w= .ok r w/\VR E w.heap v r:=by
 unfold FH at h;split at h
 ·simp [T.leaf] at h
 ·rename_i z hz;split at h
  ·rename_i jZ;obtain⟨mj,hz0⟩:=jZ;obtain⟨el,ie,hu,nT,rfl⟩:=pC cX hz;have jv:=fm (cX el ie nT);simp only [VR] at hx;obtain⟨hid,l0,m0,a,cap,g1,g2,rfl,lI,hc⟩:=hx
   have fin: ∀(l k:Nat) (e1 e2:Y),(Instr.sliceBounds true m0 cap Eh hi' none).run P w= .ok (l,k,cap) w->l<=k->k<=cap->e1.den E.ρ=(l:Int)->e2.den E.ρ=(k:Int)->
    ∃r,(Instr.sliceAt ty (.slice (some a) m0 cap) Eh hi' none).run P w= .ok r w/\VR E w.heap (.wH id (uP lo0 e1) (Gk e2 e1) t) r:=by
    intro l k e1 e2 hb hlk hk TD he2;refine⟨.slice (some (if cap=l then a else a.add (l*ie.size))) (k-l) (cap-l),?_,?_⟩
    ·simp [Instr.sliceAt,run_underlying hu,Instr.slice,hb,jv]<;>split<;>rfl
    ·simp only [VR];refine⟨hid,l0+l,k-l,_,_,by rw [rz,g1,TD]; rfl,by rw [X2,TD,he2]; omega,rfl,J,?_⟩;rw [av7];have q:=ss (l:=l) (h:=k) (m:=cap) (es:=(rowOf t).es) hc lI hlk hk (aw _) (.inr (.inr ⟨rfl,rfl,rfl⟩)) (rowOf t).es (fun _=>rfl);rw [mj];exact q
   split at h
   ·simp [T.leaf] at h
   ·rename_i ql hql;obtain⟨jS,jx,U⟩:=dh hp h;split at U
    ·simp [T.leaf] at U
    ·rename_i t1;rw [eu,decide_eq_false_iff_not] at t1;simp only [Y.den,aws] at t1;obtain⟨l,hl⟩ : ∃l:Nat,ql.den E.ρ=(l:Int):=⟨(ql.den E.ρ).toNat,J⟩;obtain⟨ZS,abr,oK⟩:=aaQ hql rm hl;split at U
     ·
      simp only [gZ] at AU;subst AU;split at U
      ·simp [T.leaf] at U
      ·simp only [gZ] at AA;subst AA;obtain⟨qU,qp,Z⟩:=dh (s:={ s with pc:=jS }) jx U;split at Z
       ·simp [T.leaf] at Z
       ·rename_i t2;have:=bE Z;simp only [an] at this;obtain⟨rfl,rfl⟩:=this;rw [eu,decide_eq_false_iff_not] at t2;have hlm:l<=m0:=J
        obtain⟨e1,e2⟩:=gu (P:=P) (w:=w) (isSlice:=true) (len:=m0) (cap:=cap) (m0:=cap) (d:=0) (m:=cap) (h0:=cap) (h:=m0) (l:=l) abr (hi:=none) (hi':=none) (by simp [gZ]) (mx:=none) (mx':=none) (by simp [gZ]) ad (.inl ⟨rfl,rfl,aw _⟩) (by simp [pP,lI]) ⟨fun _=>aw _,ad⟩ (oK _ hlm);exact⟨rfl,rfl,qp,fin l m0 _ _ e1 hlm lI hl g2⟩
     ·rename_i hv;split at U
      ·rename_i kh qh;obtain⟨qU,qp,Z⟩:=dh (s:={ s with pc:=jS }) jx U;split at Z
       ·simp [T.leaf] at Z
       ·rename_i t2;rw [eu,decide_eq_false_iff_not] at t2;obtain⟨k,hk⟩ : ∃k:Nat,qh.den E.ρ=(k:Int):=⟨(qh.den E.ρ).toNat,J⟩;have hlk:l<=k:=J
        split at Z
        ·rename_i mv;split at Z
         ·rename_i km qm;obtain⟨pc3,PA,h3⟩:=dh (s:={ s with pc:=qU }) qp Z;split at h3
          ·simp [T.leaf] at h3
          ·rename_i t3;obtain⟨pc4,hp4,h4⟩:=dh (s:={ s with pc:=pc3 }) PA h3;split at h4
           ·simp [T.leaf] at h4
           ·rename_i t4;have:=bE h4;simp only [an] at this;obtain⟨rfl,rfl⟩:=this;rw [eu,decide_eq_false_iff_not] at t3 t4;obtain⟨m,hm⟩ : ∃m:Nat,qm.den E.ρ=(m:Int):=⟨(qm.den E.ρ).toNat,J⟩;obtain⟨e1,e2⟩:=gu (P:=P) (w:=w) (isSlice:=true) (len:=m0) (cap:=cap) (m0:=cap) (d:=0) (m:=m) (h0:=m) (h:=k) (l:=l) abr (FA hk AU) (FA hm AA) ad (.inr ⟨_,rfl,FO J,aw _⟩) (FO J) ⟨ad,fun _=>rfl⟩ (oK _ hlk);refine⟨rfl,rfl,hp4,.slice (some (if m=l then a else a.add (l*ie.size))) (k-l) (m-l),?_,by simp only [VR]⟩;simp [Instr.sliceAt,run_underlying hu,Instr.slice,e1,jv]<;>split<;>rfl
         ·simp [T.leaf] at Z
        ·simp only [gZ] at AA;subst AA
         have go:k<=cap->∃r,(Instr.sliceAt ty (.slice (some a) m0 cap) Eh hi' none).run P w= .ok r w/\VR E w.heap (.wH id (uP lo0 ql) (Gk qh ql) t) r:=by intro hkc;obtain⟨e1,e2⟩:=gu (P:=P) (w:=w) (isSlice:=true) (len:=m0) (cap:=cap) (m0:=cap) (d:=0) (m:=cap) (h0:=cap) (h:=k) (l:=l) abr (FA hk AU) (mx:=none) (mx':=none) (by simp [gZ]) ad (.inl ⟨rfl,rfl,aw _⟩) (FO hkc) ⟨fun _=>aw _,ad⟩ (oK _ hlk);exact fin l k _ _ e1 hlk hkc hl hk
         obtain⟨pc3,PA,h3⟩:=dh (s:={ s with pc:=qU }) qp Z;split at h3
         ·rename_i t3;have:=bE h3;simp only [an] at this;obtain⟨rfl,rfl⟩:=this;rw [eu,decide_eq_false_iff_not] at t3;exact⟨rfl,rfl,PA,go J⟩
         ·split at h3
          ·simp [T.leaf] at h3
          ·rename_i hz1;split at h3
           ·simp [T.leaf] at h3
           ·rename_i e CD hva;obtain⟨pc4,hp4,h4⟩:=dh (s:={ s with pc:=pc3 }) PA h3;split at h4
            ·simp [T.leaf] at h4
            ·rename_i t4;have:=bE h4;simp only [an] at this;obtain⟨rfl,rfl⟩:=this;rw [eu,decide_eq_false_iff_not,cQ] at t4;refine⟨rfl,rfl,hp4,go ?_⟩;have hlv:=uZ hva;obtain⟨ho,q0⟩:=OR.sk.1 (r.live id _ hlv).2.1;have auM:=Hi hz1;subst auM;simp only [Y.den] at g1;have RP:l0=0:=J
             subst RP;simp only [OR] at q0;obtain⟨arr,lo1,hi1,us,q1,q2,q3,q4,q5,q6,q7⟩:=q0;unfold cT at q4;rw [cR ho.1] at q4;have kg:0<(dec (e.den E.ρ)).l.length:=awm.2 ho.2.2.2;have nQ:0<(rowOf t).es:=J
             simp only [fS] at hc
             have hκ:(dec (e.den E.ρ)).l.length<=cap:=by
              rcases hc with hc|hc
              ·have:(dec (e.den E.ρ)).l.length*(rowOf t).es<=cap*(rowOf t).es:=J
               exact axo this nQ
              ·have:=awP kg nQ;omega
             omega
      ·simp [T.leaf] at U
  ·simp [T.leaf] at h
theorem Uc [bN] (cX:eS P tt) (hp:cz E.ρ s.pc) {z:Y} (hx:VR E w.heap (.AX z t) u)
 (rm:gZ E w.heap lo Eh) (AU:gZ E w.heap hi hi') (AA:gZ E w.heap mx mx') (h:(MM tt s ty z t lo hi mx).leaf E.ρ=some (v,s')) :
 s'.bC=s.bC/\s'.h=s.h/\cz E.ρ s'.pc/\∃r,(Instr.sliceAt ty u Eh hi' mx').run P w= .ok r w/\VR E w.heap v r:=by
 unfold MM at h;split at h
 ·grind [T.leaf]
 ·simp only [gZ] at AA;subst AA;split at h
  ·grind [T.leaf]
  ·rename_i zz hz;obtain⟨el,ie,hu,nT,rfl⟩:=pC cX hz;have jv:=fm (cX el ie nT);split at h
   ·rename_i Ct;split at h
    ·rename_i oK;have:=bE h;simp only [an] at this;obtain⟨rfl,rfl⟩:=this;have hx0:=hx;simp only [VR] at hx;obtain⟨⟨x,rfl⟩,hr⟩:=hx;obtain⟨e1,e2⟩:=gu (P:=P) (w:=w) (isSlice:=true) (len:=0) (cap:=0) (m0:=0) (d:=0) (m:=0) rm AU (mx:=none) (mx':=none) (by simp [gZ]) ad (.inl ⟨rfl,rfl,aw _⟩) Ct ⟨fun _=>aw _,ad⟩ oK;refine⟨rfl,rfl,hp,.slice x 0 0,?_,hx0⟩;exact agT
    grind [T.leaf]
   grind [T.leaf]
end
end
section
variable {id t ty mm t2 t':Nat} {e0 lo n1:Y} {vV:TypeId} {s s':St} {u u2:Value} {v:AV} {H:Hp} {ds:List D} {tt:TT}
theorem Gq: ∀{B Z?:List AV},Z?.length=B.length->eB B 0 Z?=some Z?
 |[],[],_=>rfl
 |[],_::_,h=>by simp at h
 |_::_,[],h=>by simp at h
 |b::B,v::Z?,h=>by simp only [eB];rw [Gq (by simpa using h)]
theorem SH {A B C Z?:List AV} (h:Z?.length=B.length):eB (A++(B++C)) A.length Z?=some (A++(Z?++C)):=by
 have:=u7 A (sV C (Gq h))
 grind
theorem Jm {α:Type}: ∀{a b:List α},ja a.length (a++b)=some a
 |[],b=>rfl
 |x::a,b=>by simp only [aT,aG,ja,Jm]
theorem lN {ρ:Nat->Int} {r:Row}: ∀(L:List D) (a b:Nat),bH ρ r [] L a=bH ρ r [] L b
 |[],_,_=>rfl
 |d::L,a,b=>by simp only [bH,eA]; rw [lN L (a+1) (b+1)]
theorem oG {ρ:Nat->Int} {r:Row}: ∀(A B:List D),bH ρ r [] (A++B) 0=bH ρ r [] A 0++bH ρ r [] B 0
 |[],B=>rfl
 |d::A,B=>by simp only [aG,bH,eA,avT];rw [lN (A++B) 1 0,lN A 1 0,oG A B]
section
variable {P:Program} {E:En} {w:World}
theorem t_ [bN] (r:bV E H w) (hl:H.get id=some (.vec e0 t vV [])) (zH:(rowOf t).es≠0) {k cap:Nat} {a:Addr} (hc:fS E id 0 k a cap (.rest (rowOf t).es)) :
 a=⟨(E.θ id).1,(E.θ id).2,none⟩/\(dec (e0.den E.ρ)).l.length<=cap:=by
 obtain⟨ho,q0⟩:=OR.sk.1 (r.live id _ hl).2.1;simp only [OR] at q0;obtain⟨arr,lo1,hi1,us,q1,q2,q3,q4,q5,q6,q7⟩:=q0;unfold cT at q4;rw [cR ho.1] at q4;have kg:0<(dec (e0.den E.ρ)).l.length:=awm.2 ho.2.2.2;have nQ:0<(rowOf t).es:=J
 simp only [fS] at hc;rcases hc with hc|hc
 ·refine⟨by simpa using hc.1,?_⟩;have:(dec (e0.den E.ρ)).l.length*(rowOf t).es<=cap*(rowOf t).es:=J
  exact axo this nQ
 ·have:=awP kg nQ;omega
theorem F4 [bN] (r:bV E H w) (hl:H.get id=some (.vec e0 t vV [])) {n:Nat} (hle:n+mm<=(dec (e0.den E.ρ)).l.length) (yK:ds.length=mm) (zj: ∀d∈ds,sC (rowOf t) d)
 {us:List Value} (hv:cJ E w.heap (bH E.ρ (rowOf t) [] ds 0) us) (U: ∀u∈us,u.oneCell'=true) {e1:Y} (TD:dec (e1.den E.ρ)=dL ((dec (e0.den E.ρ)).l.take n++ds++(dec (e0.den E.ρ)).l.drop (n+mm))) :
 ∃w',(storeCells ⟨(E.θ id).1,(E.θ id).2+n*(rowOf t).es,none⟩ us).run P w= .ok () w'/\fD E H w E (H.put id (.vec e1 t vV [])) w'/\bV E (H.put id (.vec e1 t vV [])) w':=by
 obtain⟨rc,ho,hw⟩:=r.sk hl;generalize hL:(dec (e0.den E.ρ)).l=L at *
 have hsp:L=L.take n++((L.drop n).take mm++L.drop (n+mm)):=by
  conv=>lhs; rw [<- awt n L]
  congr 1
  conv=>lhs; rw [<- awt mm (L.drop n)]
  simp_all
 have hc:cT E.ρ e0 t []=bH E.ρ (rowOf t) [] (L.take n) 0++(bH E.ρ (rowOf t) [] ((L.drop n).take mm) 0++bH E.ρ (rowOf t) [] (L.drop (n+mm)) 0):=by exact ahl
 have hlA:(bH E.ρ (rowOf t) [] (L.take n) 0).length=n*(rowOf t).es:=by
  rw [cR (lF _),aZ]
  grind
 have hsl:eB (cT E.ρ e0 t []) (n*(rowOf t).es) (bH E.ρ (rowOf t) [] ds 0)=some (cT E.ρ e1 t []):=by
  have:cT E.ρ e1 t []=bH E.ρ (rowOf t) [] (L.take n) 0++(bH E.ρ (rowOf t) [] ds 0++bH E.ρ (rowOf t) [] (L.drop (n+mm)) 0):=by unfold cT;rw [TD,bF,oG,oG,avT]
  rw [this,hc,<- hlA];refine SH ?_;rw [cR (lF _),cR (lF _),aZ,bp,yK]
  grind
 obtain⟨w',g1,g2,g3⟩:=mT (P:=P) rc (by rw [Hp.bR,ag rfl]) hsl hv U;have al1:Jc (H.put id (.cells (cT E.ρ e0 t []) vV)) H:=(Jc.put hl).symm
 have al2:Jc ((H.put id (.cells (cT E.ρ e0 t []) vV)).put id (.cells (cT E.ρ e1 t []) vV)) (H.put id (.vec e1 t vV [])):=by
  refine⟨fun j y hj=>?_,fun j y hj=>?_,rfl,rfl⟩
  ·rw [Hp.bR];split
   ·grind
   ·rename_i kg;rw [Hp.bR,af kg,Hp.bR,af kg] at hj
    grind
  ·rw [Hp.bR] at hj ⊢;split
   ·grind
   ·rename_i kg;rw [af kg] at hj;rw [Hp.bR,af kg];exact⟨y,hj⟩
 have Dp:=(g3.live id _ (by rw [Hp.bR,ag rfl])).2.1
 have hor:OR E w'.heap id (.vec e1 t vV []):=by
  refine OR.sk.2 ⟨⟨lF _,?_⟩,Dp⟩;rw [TD];refine⟨by rw [bF],?_,?_⟩
  ·rw [bF];intro d V;rcases av5.1 V with V|V
   ·rcases av5.1 V with V|V
    ·exact hw.2.1 d (by rw [hL]; exact avV V)
    ·exact zj d V
   ·exact hw.2.1 d (by rw [hL]; exact bu V)
  ·rw [bF];intro q;have:=congrArg List.length q;simp only [bd,aZ,bp,bj,yK] at this;have kg:=awm.2 hw.2.2;rw [hL] at kg;omega
 refine⟨w',g1,(g2.left al1).right al2,?_⟩;exact g3.swap (id:=id) (by rw [Hp.bR,ag rfl]) hor (by rw [Hp.bR,ag rfl]) (fun j hj=>by rw [Hp.bR,af hj,Hp.bR,af hj,Hp.bR,af hj]) rfl rfl
theorem Ro [bN] (r:bV E s.h w) (hp:cz E.ρ s.pc) {t1 e:Nat} {m sd:Y} {ie:TI} {d2:TypeDesc} (xz:oP P e ie) (ht:P.underlying t1=some (.slice e)) (AS:P.underlying t2=some d2) (kU: ∀k,d2≠.int k)
 (mj:(rowOf t).es=ie.size) (zH:ie.size≠0) (hl:s.h.get id=some (.vec e0 t vV [])) (rm:isZ lo=true) {us:Array Value} (hx:VR E w.heap (.wH id lo n1 t) u) (hm:m.den E.ρ=(mm:Int))
 (yK:ds.length=mm) (hsd:(dec (sd.den E.ρ)).l=ds) (zj: ∀d∈ds,sC (rowOf t) d) {news:List AV} (src:Src P E w ie.size mm news u2 us) (hv:cJ E w.heap (bH E.ρ (rowOf t) [] ds 0) us.toList) (h:(Xr id t vV e0 n1 m sd s).leaf E.ρ=some (v,s')) :
 s'.bC=s.bC/\cz E.ρ s'.pc/\∃z w' E',(Builtin.append_ #[t1,t2] ty #[u,u2]).run P w= .ok z w'/\fD E s.h w E' s'.h w'/\bV E' s'.h w'/\VR E' w'.heap v z:=by
 unfold Xr at h;obtain⟨fH,gH,g1,g2,g3,g4⟩:=C2 hp h;have:=bE g4;simp only [an] at this;obtain⟨rfl,rfl⟩:=this;have rm:=Hi rm;subst rm;have hx0:=hx;simp only [VR] at hx;obtain⟨hid,l0,k,a,cap,q1,q2,rfl,q4,q5⟩:=hx;simp only [Y.den] at q1;have RP:l0=0:=J
 subst RP;rw [av1] at q5;obtain⟨rfl,jw⟩:=t_ r hl (by rw [mj]; exact zH) q5;have hle:k+mm<=(dec (e0.den E.ρ)).l.length:=J
 obtain⟨inf,d,z,U,Z,h3,h4,h5,h6,h7,h8⟩:=xz.all
 obtain⟨w',f1,f2,f3⟩:=F4 (P:=P) r hl (n:=k) hle yK zj hv src.uC (e1:=.op .cat (.op .cat (.op .take e0 n1) sd) (.op .drop e0 (uP n1 m))) (by
  have hn:((k:Int)+(mm:Int)).toNat=k+mm:=J
  simp only [Y.den,gX.den,bG,bF,rz,bQ,q2,hm,hn,hsd,aQ])
 refine⟨rfl,gH,.slice (some ⟨(E.θ id).1,(E.θ id).2,none⟩) (k+mm) cap,w',E,?_,f2,f3,?_⟩
 ·exact lP (s:=ie.size) ht AS kU U h5 src J (by simp only [gG]; rw [<- mj]; exact f1)
 ·simp only [VR];refine⟨hid,0,k+mm,_,_,rfl,by rw [rz,q2,hm]; rfl,rfl,J,?_⟩;rw [av1];simp only [fS] at q5 ⊢
  grind
theorem QJ [bN] (cX:eS P tt) (r:bV E s.h w) (hp:cz E.ρ s.pc) {y:AV} (rm:isZ lo=true) (hx:VR E w.heap (.wH id lo n1 t') u) (hy:VR E w.heap y u2) (h:(HW tt t t2 id n1 t' y s).leaf E.ρ=some (v,s')) :
 s'.bC=s.bC/\cz E.ρ s'.pc/\∃z w' E',(Builtin.append_ #[t,t2] ty #[u,u2]).run P w= .ok z w'/\fD E s.h w E' s'.h w'/\bV E' s'.h w'/\VR E' w'.heap v z:=by
 unfold HW at h;split at h
 ·rename_i ti iH;split at h
  ·rename_i e hk;split at h
   ·rename_i ie nT;split at h
    ·grind [T.leaf]
    ·rename_i XZ abf;obtain⟨d2,kU,IN⟩:=uG (cX t2 XZ abf);split at h
     ·grind [T.leaf]
     ·rename_i k2 kg
      have xC: ∀k,d2≠.int k:=by intro k V;exact ahu
      split at h
      ·grind [T.leaf]
      ·rename_i jZ;simp only [not_or,Classical.not_not] at jZ;obtain⟨zH,pM,yJ,mj⟩:=jZ;have xz:=cX e ie nT;have hu:=fF (cX t ti iH) hk;split at h
       ·grind [T.leaf]
       ·rename_i e0 vV hva;have hl:=uZ hva;split at h
        ·rename_i id2 ZS n2 NX;split at h
         ·rename_i Mi;split at h
          ·rename_i AS;have Mi:=ay Mi;have AS:=ay AS;subst Mi AS;obtain⟨jS,jx,g1,g2,g3,g4⟩:=C2 hp h;have hy0:=hy;simp only [VR] at hy;obtain⟨hid,l,k,a,cap,q1,q2,rfl,q4,q5⟩:=hy;obtain⟨rc,ho,hw⟩:=r.sk hl;generalize hL:(dec (e0.den E.ρ)).l=L at *;have hlk:l+k<=L.length:=J
           have hsp:L=L.take l++((L.take (l+k)).drop l++L.drop (l+k)):=by
            conv=>lhs; rw [<- awt (l+k) L]
            grind
           have TE:cT E.ρ e0 NX []=bH E.ρ (rowOf NX) [] (L.take l) 0++(bH E.ρ (rowOf NX) [] ((L.take (l+k)).drop l) 0++bH E.ρ (rowOf NX) [] (L.drop (l+k)) 0):=by exact ahl
           have hlA:(bH E.ρ (rowOf NX) [] (L.take l) 0).length=l*(rowOf NX).es:=by rw [cR (lF _),aZ];congr 1;omega
           have hlen:((L.take (l+k)).drop l).length=k:=by rw [bp,aZ]; omega
           have hlB:(bH E.ρ (rowOf NX) [] ((L.take (l+k)).drop l) 0).length=k*(rowOf NX).es:=by rw [cR (lF _),hlen]
           have hy1:VR E w.heap (.slice id2 (l*(rowOf NX).es) k (.rest (rowOf NX).es)) (.slice (some a) k cap):=by simp only [VR];exact⟨hid,a,cap,rfl,q4,q5⟩
           obtain⟨us,src⟩:=sU (P:=P) rc hy1 (s:=ie.size) (m:=k) (news:=bH E.ρ (rowOf NX) [] ((L.take (l+k)).drop l) 0) (by
            simp only [ue,n9,Hp.bR,if_true];rw [TE,<- hlA,vI];simp only;rw [<- mj,<- hlB,Jm]
            rfl)
           refine Ro (s:={ s with pc:=jS }) r jx xz hu kU xC mj zH hl rm hx q2 hlen (by rw [GQ q1 q2,bQ,hL]) (fun d V=>hw.2.1 d ?_) src src.ZO g4;rw [hL];exact avV (bu V)
          grind [T.leaf]
         grind [T.leaf]
        ·split at h
         ·grind [T.leaf]
         ·rename_i m news Tx;obtain⟨us,src⟩:=sU (P:=P) r hy Tx;split at h
          ·grind [T.leaf]
          ·rename_i m';split at h
           ·split at h
            ·rename_i sd hcr;obtain⟨ds,c1,c2,c3,c4,c5⟩:=xU (ρ:=E.ρ) _ hcr;simp only [Y.den,bG,D.l,ax] at c2;exact Ro r hp xz hu kU xC mj zH hl rm hx (mm:=m'+1) (by simp only [Y.den]; rfl) c1 c2 c4 src (c5 E w.heap _ 0 rfl src.ZO) h
            grind [T.leaf]
           grind [T.leaf]
   grind [T.leaf]
  grind [T.leaf]
 grind [T.leaf]
theorem Ey [bN] (cX:eS P tt) (r:bV E s.h w) (hp:cz E.ρ s.pc) {n:Y} (hx:VR E w.heap (.wH id lo n t') u) (h:(B4 tt t id lo n t' s).leaf E.ρ=some (v,s')) :
 s'.bC=s.bC/\cz E.ρ s'.pc/\v=AV.undef/\∃w' E',(Builtin.clear_ #[t] ty #[u]).run P w= .ok (.tuple #[]) w'/\fD E s.h w E' s'.h w'/\bV E' s'.h w':=by
 unfold B4 at h;split at h
 ·rename_i ti iH;split at h
  ·rename_i e hk;have hu:=fF (cX t ti iH) hk;split at h
   ·rename_i ie nT;obtain⟨inf,d,z,U,Z,h3,h4,h5,h6,h7,h8⟩:=(cX e ie nT).all;have hz:=fK (E:=E) (h:=w.heap) h4;split at h
    ·rename_i jZ;obtain⟨mj,zH⟩:=jZ;split at h
     ·grind [T.leaf]
     ·rename_i e0 CD hva;have hl:=uZ hva;split at h
      ·grind [T.leaf]
      ·rename_i zz hzz;obtain⟨jS,jx,g1⟩:=dh hp h;split at g1
       ·grind [T.leaf]
       ·rename_i t1;obtain⟨qU,qp,g2⟩:=dh (s:={ s with pc:=jS }) jx g1;split at g2
        ·grind [T.leaf]
        ·rename_i t2;obtain⟨pc3,PA,g3⟩:=dh (s:={ s with pc:=qU }) qp g2;split at g3
         ·grind [T.leaf]
         ·rename_i t3;have:=bE g3;simp only [an] at this;obtain⟨rfl,rfl⟩:=this;rw [eu,decide_eq_false_iff_not] at t1 t2;rw [jF,beq_iff_eq,rz,cQ] at t3;simp only [VR] at hx;obtain⟨hid,l,k,a,cap,q1,q2,rfl,q4,q5⟩:=hx;have hlk:l+k=(dec (e0.den E.ρ)).l.length:=J
          have hn0:(dec (e0.den E.ρ)).l.length-l=k:=J
          have hwz:=vO (ρ:=E.ρ) hzz;have hrz:zo E.ro w.heap (rowOf t') (dec (zz.den E.ρ)) z.cells.toList:=vP hz.1 hzz
          have avG:cJ E w.heap (iu (rowOf t') (.eW (dec (zz.den E.ρ)))) z.cells.toList:=by
           rw [gJ];simp only [Y.den,bG]
           grind
          have anM: ∀m:Nat,bH E.ρ (rowOf t') [] (List.replicate m (dec (zz.den E.ρ))) 0=ed (iu (rowOf t') (.eW (dec (zz.den E.ρ)))) m:=by
           intro m
           induction m with
           |zero=>rfl
           |succ m ih=>
            simp only [axq,bH,eA,ed]
            grind [lN]
          have hv:cJ E w.heap (bH E.ρ (rowOf t') [] (List.replicate k (dec (zz.den E.ρ))) 0) (ed z.cells.toList k):=by
           grind [nB]
          obtain⟨w',f1,f2,f3⟩:=F4 (P:=P) r hl (n:=l) (mm:=k) J (aww) (fun d V=>by rw [axG V]; exact hwz) hv (fun u hu=>hz.2 u (nA hu)) (e1:=.op .fill e0 (gx (CR lo) zz)) (by
           simp only [gx,Y.den,gX.den,bG,nY,D.n,q1,aQ,hn0,hlk]
           rw [List.drop_length,av4])
          refine⟨rfl,PA,rfl,w',E,?_,f2,f3⟩;rcases awu k with hk0|hk0
          ·subst hk0;simp only [ed] at f1
           have:w'=w:=by
            simp [storeCells] at f1
            grind
           subst this;simp [Builtin.clear_,run_underlying hu]
          ·have ha:a=⟨(E.θ id).1,(E.θ id).2+l*(rowOf t').es,none⟩:=by
            simp only [fS] at q5
            grind
           have anJ:z.cells.toList≠[]:=by
            intro hx;have:=zo.length hrz
            grind
           have hzc:(Builtin.zeroCells z.cells k).toList=ed z.cells.toList k:=wO z.cells anJ k;subst ha;obtain⟨j,rfl⟩ : ∃j,k=j+1:=⟨k-1,J⟩;simp [Builtin.clear_,run_underlying hu,zeroValue,typeInfo,U,h3,hzc,f1]
    grind [T.leaf]
   grind [T.leaf]
  grind [T.leaf]
 grind [T.leaf]
end
end
section
variable {e a b:Y} {u:Value} {s s':St} {v x y:AV} {h:Array Obj} {tt:TT} {ty:Nat}
theorem nM (l:List Nat):(mc l).l.length=l.length:=by simp [mc]
theorem Zh {a b:List Nat} (h:mc a=mc b):a=b:=by
 have:=Ie h
 induction a generalizing b with
 |nil=>cases b with
  |nil=>rfl
  |cons y b=>simp at this
 |cons x a ih=>cases b with
  |nil=>simp at this
  |cons y b=> simp only [aF,List.cons.injEq,D.i.injEq,Int.ofNat_eq_natCast,awH] at this;rw [this.1,ih (b:=b) (by unfold mc; exact congrArg dL (by simpa using this.2)) (by simpa using this.2)]
theorem Ic: ∀(x y:List Nat),QV (x.map fun b=>D.i (Int.ofNat b)) (y.map fun b=>D.i (Int.ofNat b))=bytesLess x y
 |[],[]=>rfl
 |[],_::_=>rfl
 |_::_,[]=>rfl
 |a::x,b::y=>by
  simp only [aF,QV,bytesLess,D.n,Ic x y];have i1:(Int.ofNat a<Int.ofNat b)=(a<b):=propext aw8;have i2:(Int.ofNat b<Int.ofNat a)=(b<a):=propext aw8;simp only [i1,i2];rcases axr a b with h|h|h
  ·simp_all
  ·simp_all
  ·exact ail
section
variable {P:Program} {E:En} {w:World}
theorem VR.afD {v:Value} (hv:VR E h (.kZ e) v): ∃l:List Nat,v= .string (dB l)/\(∀b∈l,b<256)/\dec (e.den E.ρ)=mc l:=by
 simp only [VR] at hv;obtain⟨s,rfl,hs⟩:=hv.string;refine⟨bytesOf s,by rw [lQ],AL s,?_⟩
 grind [Ca,AL,lQ,wF,dB]
theorem VR.aaz {l:List Nat} (hl: ∀b∈l,b<256) (he:dec (e.den E.ρ)=mc l):VR E h (.kZ e) (.string (dB l)):=by
 simp only [VR];rw [he,Ca _ hl];have:=Rd.str (ro:=E.ro) (h:=h) (dB l)
 grind [wF,dB]
theorem Gm (hx:VR E h x u) (hs:vY x=some e): ∃l:List Nat,u= .string (dB l)/\(∀b∈l,b<256)/\dec (e.den E.ρ)=mc l:=by
 unfold vY at hs;split at hs
 ·simp only [ah] at hs;subst hs;simp only [VR] at hx;exact⟨_,hx.1,hx.2,by simp only [Y.den,bG]⟩
 ·simp only [ah] at hs;subst hs;exact hx.afD
 grind
theorem TZ (cX:eS P tt) (hp:cz E.ρ s.pc) {ix:AV} {ui:Value} (hx:VR E w.heap (.kZ e) u) (BH:VR E w.heap ix ui) (h:(MC tt s ty e ix).leaf E.ρ=some (v,s')) :
 s'.bC=s.bC/\s'.h=s.h/\cz E.ρ s'.pc/\∃r,(Instr.index ty u ui).run P w= .ok r w/\VR E w.heap v r:=by
 unfold MC at h;split at h
 ·rename_i kd i;split at h
  ·rename_i ti iH;split at h
   ·rename_i hk;obtain⟨fH,gH,U,Z,h3⟩:=pI hp h;have:=bE h3;simp only [an] at this;obtain⟨rfl,rfl⟩:=this;refine⟨rfl,rfl,gH,?_⟩;obtain⟨l,rfl,hb,V⟩:=hx.afD;simp only [VR] at BH;subst BH;rw [cQ,V,nM] at Z;obtain⟨k,IN⟩ : ∃k:Nat,i.den E.ρ=(k:Int):=⟨(i.den E.ρ).toNat,J⟩;have gB:k<l.length:=J
    have hg:(dB l)[k]?=some (UInt8.ofNat l[k]):=by rw [Gp,aN gB]; rfl
    have au7:=hb l[k] (au gB);rw [IN];refine⟨_,by simp [Instr.index,asIntOf,run_underlying (gj (cX ty ti iH) hk),hg]; rfl,?_⟩
    have hdk:(dec (e.den E.ρ)).l[k]?=some (.i (Int.ofNat l[k])):=by rw [V];simp only [mc,bF,bg,aN gB,av0]
    simp only [VR,CQ,DI E.ρ e i IN hdk,D.n]
    grind
   grind [T.leaf]
  grind [T.leaf]
 grind [T.leaf]
theorem TY (cX:eS P tt) (hp:cz E.ρ s.pc) {lo hi mx:Option AV} {Eh hi' mx':Option Value} (hx:VR E w.heap (.kZ e) u)
 (rm:gZ E w.heap lo Eh) (AU:gZ E w.heap hi hi') (AA:gZ E w.heap mx mx') (h:(MB tt s ty e lo hi mx).leaf E.ρ=some (v,s')) :
 s'.bC=s.bC/\s'.h=s.h/\cz E.ρ s'.pc/\∃r,(Instr.sliceAt ty u Eh hi' mx').run P w= .ok r w/\VR E w.heap v r:=by
 unfold MB at h;split at h
 ·grind [T.leaf]
 ·simp only [gZ] at AA;subst AA;split at h
  ·grind [T.leaf]
  ·rename_i ti iH;split at h
   ·rename_i hk;have hu:=gj (cX ty ti iH) hk;split at h
    ·grind [T.leaf]
    ·rename_i ql hql;split at h
     ·grind [T.leaf]
     ·rename_i qh hqh;obtain⟨jS,jx,U⟩:=dh hp h;split at U
      ·grind [T.leaf]
      ·rename_i t1;obtain⟨qU,qp,Z⟩:=dh (s:={ s with pc:=jS }) jx U;split at Z
       ·grind [T.leaf]
       ·rename_i t2;obtain⟨pc3,PA,h3⟩:=dh (s:={ s with pc:=qU }) qp Z;split at h3
        ·grind [T.leaf]
        ·rename_i t3;have:=bE h3;simp only [an] at this;obtain⟨rfl,rfl⟩:=this;refine⟨rfl,rfl,PA,?_⟩;obtain⟨l,rfl,hb,V⟩:=hx.afD;rw [eu,decide_eq_false_iff_not] at t1 t2 t3;rw [cQ,V,nM] at t3;simp only [Y.den,aws] at t1;obtain⟨a,ha⟩ : ∃a:Nat,ql.den E.ρ=(a:Int):=⟨(ql.den E.ρ).toNat,J⟩;obtain⟨b,PI⟩ : ∃b:Nat,qh.den E.ρ=(b:Int):=⟨(qh.den E.ρ).toNat,J⟩;have hle:b<=l.length:=J
         have N4:a<=b:=J
         obtain⟨ZS,abr,oK⟩:=aaQ hql rm ha
         have anQ: ∃Mi,gZ E w.heap Mi hi'/\pP Mi l.length l.length=some b:=by
          unfold hiE at hqh;split at hqh
          ·simp only [ah] at hqh;subst hqh;rw [cQ,V,nM] at PI;have:b=l.length:=J
           grind [pP]
          ·split at hqh
           ·simp only [ah] at hqh;subst hqh;exact⟨_,FA PI AU,FO hle⟩
           grind
         obtain⟨Mi,anQ,Ct⟩:=anQ;obtain⟨e1,e2⟩:=gu (P:=P) (w:=w) (isSlice:=false) (len:=l.length) (cap:=l.length) (m0:=l.length) (d:=0) abr anQ (mx:=none) (mx':=none) rfl ad (.inl ⟨rfl,rfl,aw _⟩) Ct ⟨fun _=>aw _,ad⟩ (oK b N4);refine⟨.string ((dB l).extract a b),?_,?_⟩
         ·exact ahs
         ·rw [u6];refine VR.aaz (fun c hc=>hb c (avV (bu hc))) ?_;simp only [gx,Y.den,gX.den,bG,nY,D.V,D.l,aA,aC,az,D.n,ha,PI,aQ,V];simp only [mc,bF,awr,awz]
   grind [T.leaf]
theorem LH (h:Fl x y=some (a,b)):vY x=some a/\vY y=some b:=by
 grind [Fl]
theorem Jt (ρ:Nat->Int) {x y:List Nat} (ha:dec (a.den ρ)=mc x) (hb:dec (b.den ρ)=mc y):(Ju a b).den ρ=bytesLess x y:=by
 simp only [Ju,SB.den,Y.den,gX.den,ha,hb,mc,bF]
 grind [Ic]
theorem Cj: ∀(x y:List Nat),(bytesLess x y||iB x y)=!(bytesLess y x)
 |[],[]=>rfl
 |[],_::_=>rfl
 |_::_,[]=>rfl
 |a::x,b::y=>by
  have ih:=Cj x y;simp only [bytesLess,iB];rcases axr a b with h|h|h
  ·have U:a.blt b=true:=by simp [Nat.blt]; omega
   have Z:b.blt a=false:=by rw [awW]; simp [Nat.blt]; omega
   have h3:b.beq a=false:=by rw [awW]; simp; omega
   grind
  ·simp_all
  ·have U:b.blt a=true:=by simp [Nat.blt]; omega
   exact ail
theorem Y6 (hp:cz E.ρ s.pc) {t:Nat} {op:BinOp} {u':Value} (hx:VR E w.heap x u) (hy:VR E w.heap y u') (hs:Fl x y=some (a,b)) (h:(T1 op a b s).leaf E.ρ=some (v,s')) :
 s'.bC=s.bC/\s'.h=s.h/\cz E.ρ s'.pc/\(∃r,(binOp op t u u').run P w= .ok r w/\VR E w.heap v r)/\(∀cs ds,¬(u= .agg cs/\u'= .agg ds))/\¬(u= .nilIface/\u'= .nilIface):=by
 obtain⟨hsx,hsy⟩:=LH hs;obtain⟨l,rfl,oK,hdl⟩:=Gm hx hsx;obtain⟨m,rfl,I4,BJ⟩:=Gm hy hsy
 have heq:((xh (pb a) (pb b)).den E.ρ)=iB l m:=by
  grind [ny,rG,nr,Zh,fY]
 have kg:(∀cs ds,¬(Value.string (dB l)= .agg cs/\Value.string (dB m)= .agg ds))/\¬(Value.string (dB l)= .nilIface/\Value.string (dB m)= .nilIface):=⟨ad,ad⟩
 have fin: ∀(c:AV) (o:BinOp),OI o l m=some c->(∀q,VR E w.heap c q->VR E w.heap v q)->(∀q,(Op.stringOp o (dB l) (dB m)).run P w= .ok q w->(binOp o t (.string (dB l)) (.string (dB m))).run P w= .ok q w)->
  ∃r,(binOp o t (.string (dB l)) (.string (dB m))).run P w= .ok r w/\VR E w.heap v r:=by
  intro c o ho hc hq;obtain⟨r,U,Z⟩:=OH (P:=P) (E:=E) (w:=w) oK I4 ho;exact⟨r,hq _ U,hc r Z⟩
 unfold T1 at h;split at h
 ·obtain⟨jS,jx,U⟩:=dh hp h;split at U
  ·grind [T.leaf]
  ·rename_i t1;obtain⟨qU,qp,Z⟩:=dh (s:={ s with pc:=jS }) jx U;split at Z
   ·grind [T.leaf]
   ·rename_i t2;have:=bE Z;simp only [an] at this;obtain⟨rfl,rfl⟩:=this;rw [eu,decide_eq_true_eq,cQ,hdl,nM] at t1;rw [eu,decide_eq_true_eq,cQ,BJ,nM] at t2;simp only [Y.den] at t1 t2;refine⟨rfl,rfl,qp,⟨.string (dB (l++m)),?_,?_⟩,kg⟩
    ·have hm:IntKind.i64.max=9223372036854775807:=ae
     have:(Op.stringOp .add (dB l) (dB m)).run P w= .ok (.string (dB l++dB m)) w:=by simp only [Op.stringOp,nu,hm];rw [af J];rfl
     have e:dB l++dB m=dB (l++m):=by apply ByteArray.ext;simp [dB]
     rw [e] at this;simpa [binOp] using this
    ·refine VR.aaz (fun c hc=>?_) ?_
     ·grind
     ·simp only [Y.den,gX.den,bG,hdl,BJ];simp only [mc,bF,aw9]
 all_goals first
  |(simp [T.leaf] at h; done)
  |(have:=bE h
    simp only [an] at this;obtain⟨rfl,rfl⟩:=this;refine⟨rfl,rfl,hp,?_,kg⟩;refine fin _ _ rfl (fun q hq=>?_) (fun q hq=>by simpa [binOp] using hq);simp only [VR,SB.den,pd] at hq ⊢
    first
     |(rw [heq]; exact hq)
     |(rw [Jt E.ρ hdl BJ]; exact hq)
     |(rw [Jt E.ρ BJ hdl]; rw [Cj] at hq; simpa using hq))
theorem Uh [bN] (cX:eS P tt) (r:bV E s.h w) (hp:cz E.ρ s.pc) {sT dT:Nat} (hx:VR E w.heap (.kZ e) u) (h:(FJ tt sT dT e s).leaf E.ρ=some (v,s')) :
 s'.bC=s.bC/\cz E.ρ s'.pc/\∃y w' E',(convert sT dT u).run P w= .ok y w'/\fD E s.h w E' s'.h w'/\bV E' s'.h w'/\VR E' w'.heap v y:=by
 unfold FJ at h;split at h
 ·grind [T.leaf]
 ·rename_i j hj;split at h
  ·rename_i hjk;split at h
   ·grind [T.leaf]
   ·rename_i i hi;split at h
    ·rename_i el hik;split at h
     ·rename_i ie nT;split at h
      ·rename_i k avN;split at h
       ·obtain⟨l,rfl,hb,V⟩:=hx.afD
        have RQ:rq tt sT dT (.str l) s.h=some (.slice s.h.fresh 0 l.length (.rest 1),s.h.new (.cells (l.map fun c=> .int .u8 (.lit (Int.ofNat c))) el)):=by
         grind [rq]
        obtain⟨y,w',E',g1,g2,g3,g4⟩:=B3 (P:=P) cX r (x:=.str l) (u:=.string (dB l)) (by simp only [VR]; exact⟨trivial,hb⟩) RQ;obtain⟨jS,jx,U⟩:=dh hp h;rw [ny,cQ,V,nM] at U;split at U
        ·rename_i hz;have:=bE U;simp only [an] at this;obtain⟨rfl,rfl⟩:=this;simp only [Y.den,beq_iff_eq] at hz
         grind
        ·rename_i hz;have:=bE U;simp only [an] at this;obtain⟨rfl,rfl⟩:=this;simp only [Y.den,beq_eq_false_iff_ne,ne_eq] at hz;have N3:dec (e.den E'.ρ)=mc l:=by rw [g2.ρ]; exact V
         have TE:cT E'.ρ e 14 []=l.map fun c=>AV.int .u8 (.lit (Int.ofNat c)):=by
          unfold cT;rw [N3];simp only [mc,bF]
          have: ∀(l:List Nat) (i:Nat),bH E'.ρ (rowOf 14) [] (l.map fun b=>D.i (Int.ofNat b)) i=l.map fun c=>AV.int .u8 (.lit (Int.ofNat c)):=by
           intro l
           induction l with
           |nil=>intro i; rfl
           |cons a l ih=> intro i;simp only [aF,bH,eA,ih];rfl
          grind
         have r2:=Fw (e1:=e) (t:=14) g3 (by
          rw [N3];refine⟨by simp only [mc,bF],fun x hx=>?_,fun q=>?_⟩
          ·simp only [mc,bF,aW] at hx;obtain⟨b,_,rfl⟩:=hx;rfl
          ·have:=congrArg List.length q;rw [nM] at this
           exact hz (by simp at this; simp [this])) (by rw [TE]) (fun us hu=>by rw [TE]; exact hu)
         refine⟨rfl,jx,y,w',E',g1,g2.right (yE rfl rfl fun _=>rfl),r2,?_⟩;simp only [VR] at g4 ⊢;obtain⟨q1,a,cap,q2,q3,q4⟩:=g4;exact⟨q1,l.length,a,cap,by rw [cQ,N3,nM],q2,q3,q4⟩
       grind [T.leaf]
      grind [T.leaf]
     grind [T.leaf]
    grind [T.leaf]
  grind [T.leaf]
end
end
section
variable {t id ty:Nat} {m k v x:AV} {e:Y} {tt:TT} {uk um ux:Value} {s s':St} {h:Array Obj} {c:CK}
section
variable {P:Program} {E:En} {w:World}
def Wb (c:CK):Prop:=(∃k,c= .int k)\/c= .str
theorem Kf (t:Nat):Wb (mapOf t).1:=by
 unfold mapOf;split<;>first |exact .inl ⟨_,rfl⟩|exact .inr rfl
theorem bytes_beq (p q:ByteArray):(p == q)=decide (p=q):=by exact aiv
theorem aaW {ro:Nat->Prop} (hc:Wb c) {dt:TypeDesc} (V:DO dt (Ei c)) {d d':D} {u u':Value} (r:Rd ro h c d u) (r':Rd ro h c d' u') :
 Instr.sameNow dt u u'=some (decide (d=d'))/\(d=d'->∀n,Instr.sameBits (n+1) u' u=true):=by
 rcases hc with ⟨k,rfl⟩|rfl
 ·simp only [Ei] at V;obtain⟨k',rfl⟩:=V
  cases r with
  |int _ n=>
   cases r' with
   |int _ m=>
    refine⟨?_,fun hh n=>?_⟩
    ·simp only [Instr.sameNow,D.i.injEq]
     grind
    ·simp only [D.i.injEq] at hh;subst hh;simp [Instr.sameBits]
 ·simp only [Ei] at V;simp only [DO] at V;subst V;obtain⟨a,rfl,rfl⟩:=r.string;obtain⟨b,rfl,rfl⟩:=r'.string;refine⟨?_,fun hh n=>?_⟩
  ·simp only [Instr.sameNow,bytes_beq];congr 1
   grind [Ia]
  ·have:=Ia hh;subst this;simp [Instr.sameBits,bytes_beq]
theorem BW {ro:Nat->Prop} {h:Array Obj} {t:Nat} {dt:TypeDesc} (V:DO dt (Ei (mapOf t).1)) {kd:D} {u:Value} (hk:Rd ro h (mapOf t).1 kd u): ∀{ds:List D} {cG:List MapEntry} {i:Nat},
 mu ro h t ds cG->
 (lG ds kd=none/\Instr.findNow dt u cG i=some none/\(∀v,wA ds kd v=ds++ [.p kd v])/\L3 ds kd=ds)\/
 (∃j x e,lG ds kd=some x/\cG[j]?=some e/\Rd ro h (mapOf t).2 x e.val/\Instr.findNow dt u cG i=some (some (i+j,e.val))/\(∀n,Instr.sameBits (n+1) e.key u=true)/\(∀v,wA ds kd v=ds.set j (.p kd v))/\L3 ds kd=ds.eraseIdx j)
 |[],cG,i,he=>by simp only [mu] at he;subst he;exact .inl ⟨rfl,by simp [Instr.findNow],fun _=>rfl,rfl⟩
 |d::ds,cG,i,he=>by
  obtain⟨e,r,rfl,U,Z,h3,h4⟩:=he;obtain⟨g1,g2⟩:=aaW (Kf t) V hk Z;by_cases tz:UD d=kd
  ·have g1':Instr.sameNow dt u e.key=some true:=by rw [g1,decide_eq_true tz.symm]
   refine .inr ⟨0,adL d,e,by simp only [lG,ag tz],rfl,h3,by simp [Instr.findNow,g1'],g2 tz.symm,fun v=>by simp only [wA,ag tz,aw0],by simp only [L3,ag tz,List.eraseIdx_cons_zero]⟩
  ·have g1':Instr.sameNow dt u e.key=some false:=by rw [g1,decide_eq_false (fun q=>tz q.symm)]
   rcases BW (i:=i+1) V hk h4 with ⟨q1,q2,q3,q4⟩|⟨j,x,e',q1,q2,q3,q4,q5,q6,q7⟩
   ·exact .inl ⟨by simp only [lG,af tz,q1],by simp [Instr.findNow,g1',q2],fun v=>by simp only [wA,af tz,q3,aG],by simp only [L3,af tz,q4]⟩
   ·refine .inr ⟨j+1,x,e',by simp only [lG,af tz,q1],by simpa using q2,q3,?_,q5,fun v=>by simp only [wA,af tz,q6,aw1],by simp only [L3,af tz,q7,axm]⟩;simp only [Instr.findNow,g1',q4]; congr 3; omega
theorem mu.set {ro:Nat->Prop} {h:Array Obj} {t:Nat} {kd vd:D} {uk uv:Value} (hk:Rd ro h (mapOf t).1 kd uk) (hv:Rd ro h (mapOf t).2 vd uv): ∀{ds:List D} {cG:List MapEntry} {i:Nat} {e:MapEntry},mu ro h t ds cG->cG[i]?=some e->
 mu ro h t (ds.set i (.p kd vd)) (cG.set i { e with key:=uk,val:=uv })
 |[],cG,i,e,he,hi=>by simp only [mu] at he; subst he; simp at hi
 |d::ds,cG,0,e,he,hi=>by obtain⟨e0,r,rfl,U,Z,h3,h4⟩:=he;simp at hi;subst hi;simp only [aw0];exact⟨_,r,rfl,rfl,hk,hv,h4⟩
 |d::ds,cG,i+1,e,he,hi=>by obtain⟨e0,r,rfl,U,Z,h3,h4⟩:=he;simp only [aw1];exact⟨e0,_,rfl,U,Z,h3,mu.set hk hv h4 (by simpa using hi)⟩
theorem mu.push {ro:Nat->Prop} {h:Array Obj} {t:Nat} {kd vd:D} {uk uv:Value} {c:Nat} (hk:Rd ro h (mapOf t).1 kd uk) (hv:Rd ro h (mapOf t).2 vd uv): ∀{ds:List D} {cG:List MapEntry},mu ro h t ds cG->
 mu ro h t (ds++ [.p kd vd]) (cG++ [{ key:=uk,val:=uv,born:=c }])
 |[],cG,he=>by simp only [mu] at he;subst he;exact⟨_,[],rfl,rfl,hk,hv,rfl⟩
 |d::ds,cG,he=>by obtain⟨e0,r,rfl,U,Z,h3,h4⟩:=he;simp only [aG];exact⟨e0,_,rfl,U,Z,h3,mu.push hk hv h4⟩
theorem mu.erase {ro:Nat->Prop} {h:Array Obj} {t:Nat}: ∀{ds:List D} {cG:List MapEntry} {i:Nat},mu ro h t ds cG->mu ro h t (ds.eraseIdx i) (cG.eraseIdx i)
 |[],cG,i,he=>by simp only [mu] at he; subst he; simp [mu]
 |d::ds,cG,0,he=>by
  obtain⟨e0,r,rfl,U,Z,h3,h4⟩:=he
  grind
 |d::ds,cG,i+1,he=>by obtain⟨e0,r,rfl,U,Z,h3,h4⟩:=he;simp only [axm];exact⟨e0,_,rfl,U,Z,h3,mu.erase h4⟩
theorem Ar {h:Hp} (hm:zE m h=some (id,e,t)):m= .map id/\h.get id=some (.mB e t):=by
 unfold zE at hm
 grind
theorem Dc (cX:eS P tt) {a:Y} {ie:TI} (hk:VR E h k uk) (hm:mapKey tt ty t k=some (a,ie)) :
 ∃kt et dt,P.underlying ty=some (.map kt et)/\P.underlying kt=some dt/\DO dt (Ei (mapOf t).1)/\oP P et ie/\Rd E.ro h (mapOf t).1 (dec (a.den E.ρ)) uk:=by
 unfold mapKey at hm;split at hm
 ·grind
 ·rename_i ti iH;split at hm
  ·rename_i kt et Ht;split at hm
   ·grind
   ·rename_i ki hki;split at hm
    ·rename_i BG;split at hm
     ·grind
     ·rename_i ie' nT;split at hm
      ·grind
      ·rename_i a0 ha0;simp only [ah,an] at hm;obtain⟨rfl,rfl⟩:=hm;have hu:=A4 (cX ty ti iH) Ht
       have tz: ∃dt,P.underlying kt=some dt/\DO dt (Ei (mapOf t).1):=by
        rcases Kf t with ⟨q,hq⟩|hq
        ·rw [hq] at BG ⊢;exact⟨_,yr (cX kt ki hki) BG,q,rfl⟩
        ·rw [hq] at BG ⊢;exact⟨_,gj (cX kt ki hki) BG,rfl⟩
       obtain⟨dt,U,Z⟩:=tz;refine⟨kt,et,dt,hu,U,Z,cX et ie' nT,?_⟩;rw [rG,bG];exact (nN hk ha0).rd (rv ha0)
    grind
  grind
theorem Db [bN] {H:Hp} (r:bV E H w) (hl:H.get id=some (.mB e t)): ∃cG c',w.heap[(E.θ id).1]?=some (.map cG c')/\mu E.ro w.heap t (dec (e.den E.ρ)).l cG.toList:=
 (r.live id _ hl).2.1
theorem nP {d:TypeDesc} (hu:P.underlying t=some d) (V:DO d (Ei c)) (b:Bool) (v:Value):(Instr.checkKey b 10000 t v).run P w= .ok () w:=gQ hu V b v
theorem YS {ρ:Nat->Int} (e a:Y):(abv e a).den ρ=((Y.op .EX e a).den ρ == (Y.lit 0).den ρ):=by
 unfold abv;split
 ·split
  ·simp only [SB.den,Y.den,gX.den,bG]
   grind
  ·rfl
 ·rfl
theorem T8 [bN] (cX:eS P tt) (r:bV E s.h w) (hp:cz E.ρ s.pc) {ok:Bool} (hm:VR E w.heap m um) (hk:VR E w.heap k uk) (gD:zE m s.h=some (id,e,t)) (h:(BZ tt ty k ok e t s).leaf E.ρ=some (v,s')) :
 s'.bC=s.bC/\s'.h=s.h/\cz E.ρ s'.pc/\∃x,(Instr.lookup ty um uk ok).run P w= .ok x w/\VR E w.heap v x:=by
 obtain⟨rfl,hl⟩:=Ar gD
 unfold BZ at h;split at h
 ·grind [T.leaf]
 ·rename_i a ie hmk;obtain⟨kt,et,dt,hu,yL,kU,nT,hrk⟩:=Dc cX hk hmk;split at h
  ·grind [T.leaf]
  ·rename_i z hz;obtain⟨u0,z1,z2⟩:=Jg (P:=P) (w:=w) (E:=E) nT hz;obtain⟨cG,c',g1,g2⟩:=Db r hl;have hg:=kx (P:=P) g1 ad;simp only [VR] at hm;obtain⟨rfl,hid⟩:=hm;have hf:=BW (i:=0) kU hrk g2;obtain⟨jS,jx,U⟩:=dh hp h;rw [YS] at U;simp only [Y.den,gX.den] at U;rcases hf with ⟨q1,q2,_,_⟩|⟨j,x,en,q1,q2,q3,q4,q5,_,_⟩
   ·rw [q1] at U;have:=bE U;simp only [an] at this;obtain⟨rfl,rfl⟩:=this;refine⟨rfl,rfl,jx,(if ok then .tuple #[u0,.bool false] else u0),?_,?_⟩
    ·cases ok<;>simp [Instr.lookup,run_underlying hu,hg,nP yL kU,gv yL q2,z1]
    ·cases ok
     ·exact z2
     ·simp only [if_true,VR,cJ];simp_all [z2,SB.den]
   ·rw [q1] at U;have:=bE U;simp only [an] at this;obtain⟨rfl,rfl⟩:=this
    have Mg:VR E w.heap (vQ (mapOf t).2 (.op .EY e a)) en.val:=by rw [ry];simp only [Y.den,gX.den,bG,q1,az];exact q3.cell
    refine⟨rfl,rfl,jx,(if ok then .tuple #[en.val,.bool true] else en.val),?_,?_⟩
    ·cases ok<;>simp [Instr.lookup,run_underlying hu,hg,nP yL kU,gv yL q4]
    ·cases ok
     ·grind
     ·simp only [if_true,VR,cJ]
      grind [SB.den]
theorem Y7 [bN] (cX:eS P tt) (r:bV E s.h w) (hm:VR E w.heap m um) (hk:VR E w.heap k uk) (hx:VR E w.heap x ux) (gD:zE m s.h=some (id,e,t)) (h:(T5 tt ty id k x e t s).leaf E.ρ=some (v,s')) :
 s'.bC=s.bC/\s'.pc=s.pc/\v=AV.undef/\∃w',(Instr.mapUpdate ty um uk ux).run P w= .ok () w'/\fD E s.h w E s'.h w'/\bV E s'.h w':=by
 obtain⟨rfl,hl⟩:=Ar gD
 unfold T5 at h;split at h
 ·grind [T.leaf]
 ·rename_i a ie hmk;obtain⟨kt,et,dt,hu,yL,kU,nT,hrk⟩:=Dc cX hk hmk;split at h
  ·grind [T.leaf]
  ·rename_i b hb;have:=bE h;simp only [an] at this;obtain⟨rfl,rfl⟩:=this;have hrx:=(nN hx hb).rd (rv hb);obtain⟨cG,c',g1,g2⟩:=Db r hl;have hg:=kx (P:=P) g1 ad;simp only [VR] at hm;obtain⟨rfl,hid⟩:=hm;refine⟨rfl,rfl,rfl,?_⟩
   have Mj:dec ((Y.op .zh e (gx a b)).den E.ρ)=dL (wA (dec (e.den E.ρ)).l (dec (a.den E.ρ)) (dec (b.den E.ρ))):=by simp only [gx,Y.den,gX.den,bG]
   rcases BW (i:=0) kU hrk g2 with ⟨q1,q2,q3,_⟩|⟨j,y,en,q1,q2,q3,q4,q5,q6,_⟩
   ·refine⟨_,?_,jc r hl (.mB (.op .zh e (gx a b)) t) (.map (cG.push { key:=uk,val:=ux,born:=c' }) (c'+1)) ?_⟩
    ·simp [Instr.mapUpdate,run_underlying hu,hg,nP yL kU,gv yL q2,kb (P:=P) g1]
    ·intro h' hh kp;simp only [OR];refine⟨_,_,hh,?_⟩;rw [Mj,bF,q3,Array.toList_push];exact mu.push (hrk.du kp.ro kp.Gx) (hrx.du kp.ro kp.Gx) (g2.du kp.ro kp.Gx)
   ·simp only [aK] at q4
    have hkt:(Instr.keyThatStays (((cG[j]?).map (·.key)).getD uk) uk).run P w= .ok uk w:=by have q2':=q2;rw [avW] at q2';simp only [q2',av0,az,Instr.keyThatStays];simp_all
    refine⟨_,?_,jc r hl (.mB (.op .zh e (gx a b)) t) (.map (cG.modify j fun e=>{ e with key:=uk,val:=ux }) c') ?_⟩
    ·simp [Instr.mapUpdate,run_underlying hu,hg,nP yL kU,gv yL q4,hkt,kb (P:=P) g1]
    ·intro h' hh kp;simp only [OR];refine⟨_,_,hh,?_⟩;rw [Mj,bF,q6,G5 cG j en _ q2];exact mu.set (hrk.du kp.ro kp.Gx) (hrx.du kp.ro kp.Gx) (g2.du kp.ro kp.Gx) q2
theorem KJ [bN] (cX:eS P tt) (r:bV E s.h w) (hp:cz E.ρ s.pc) (hm:VR E w.heap m um) (hk:VR E w.heap k uk) (hx:VR E w.heap x ux) (h:(MG tt ty m k x s).leaf E.ρ=some (v,s')) :
 s'.bC=s.bC/\cz E.ρ s'.pc/\v=AV.undef/\∃w' E',(Instr.mapUpdate ty um uk ux).run P w= .ok () w'/\fD E s.h w E' s'.h w'/\bV E' s'.h w':=by
 unfold MG at h;obtain⟨vs,U,jS,E1,jx,f,q,g⟩:=rX rfl r hp h;have hρ:=f.ρ;rw [<- hρ] at jx g;have hv:=q [ux] (by simp only [cJ]; exact⟨ux,[],rfl,hx,rfl⟩);split at g
 ·rename_i x1;simp only [cJ] at hv;obtain⟨u1,us1,e1,I0,e2⟩:=hv;subst e2;simp only [List.cons.injEq,and_true] at e1;subst e1;split at g
  ·rename_i id e t gD
   obtain⟨a1,a2,a3,w',a4,a5,a6⟩:=Y7 cX (s:={ s with h:=U,pc:=jS }) f.rel (VR.du (f.dV.keeps r) _ _ hm) (VR.du (f.dV.keeps r) _ _ hk) I0 gD g;exact⟨a1,by rw [a2,<- hρ]; exact jx,a3,w',E1,a4,f.dV.trans a5,a6⟩
  grind [T.leaf]
 grind [T.leaf]
theorem Zb [bN] (cX:eS P tt) (r:bV E s.h w) {ts:Nat} (hm:VR E w.heap m um) (hk:VR E w.heap k uk) (gD:zE m s.h=some (id,e,t)) (h:(Ud tt ty id k e t s).leaf E.ρ=some (v,s')) (tr:Nat) :
 s'.bC=s.bC/\s'.pc=s.pc/\v=AV.undef/\∃w',(Builtin.delete_ #[ty,ts] tr #[um,uk]).run P w= .ok (.tuple #[]) w'/\fD E s.h w E s'.h w'/\bV E s'.h w':=by
 obtain⟨rfl,hl⟩:=Ar gD
 unfold Ud at h;split at h
 ·grind [T.leaf]
 ·rename_i a ie hmk;obtain⟨kt,et,dt,hu,yL,kU,nT,hrk⟩:=Dc cX hk hmk;have:=bE h;simp only [an] at this;obtain⟨rfl,rfl⟩:=this;obtain⟨cG,c',g1,g2⟩:=Db r hl;have hg:=kx (P:=P) g1 ad;simp only [VR] at hm;obtain⟨rfl,hid⟩:=hm;refine⟨rfl,rfl,rfl,?_⟩
  have Mj:dec ((Y.op .Tc e a).den E.ρ)=dL (L3 (dec (e.den E.ρ)).l (dec (a.den E.ρ))):=by exact j_
  rcases BW (i:=0) kU hrk g2 with ⟨q1,q2,_,q3⟩|⟨j,y,en,q1,q2,q3,q4,q5,_,q6⟩
  ·refine⟨_,?_,jc r hl (.mB (.op .Tc e a) t) (.map cG c') ?_⟩
   ·simp [Builtin.delete_,run_underlying hu,hg,nP yL kU,gv yL q2,kb (P:=P) g1]
   ·intro h' hh kp;simp only [OR];refine⟨_,_,hh,?_⟩;rw [Mj,bF,q3];exact g2.du kp.ro kp.Gx
  ·simp only [aK] at q4;refine⟨_,?_,jc r hl (.mB (.op .Tc e a) t) (.map (cG.eraseIdxIfInBounds j) c') ?_⟩
   ·simp [Builtin.delete_,run_underlying hu,hg,nP yL kU,gv yL q4,kb (P:=P) g1]
   ·intro h' hh kp;simp only [OR];refine⟨_,_,hh,?_⟩;have dc:j<cG.size:=by have:=(a8.1 q2).1; simpa using this
    have:(cG.eraseIdxIfInBounds j).toList=cG.toList.eraseIdx j:=by simp_all
    rw [this,Mj,bF,q6];exact mu.erase (g2.du kp.ro kp.Gx)
end
end
section
variable {tt:TT} {t:Nat}
section
variable {P:Program} {E:En} {w:World}
theorem aaN [bN] (cX:eS P tt) {H:Hp} (r:bV E H w) {e k:Nat} {i ie:TI} {k1 k2:IntKind} (hi:tt t=some i) (hk:i.kind= .slice e) (nT:tt e=some ie) (hz0:ie.zero.length=ie.size) (zH:0<ie.size) (pM:ie.bytes≠0) (I4:ie.bytes*k<=140737488355328) (nQ:0<k) :
 ∃x w' E',(Instr.makeSlice t (.int k1 k) (.int k2 k)).run P w= .ok x w'/\fD E H w E' (H.new (.cells (ed ie.zero k) e)) w'/\bV E' (H.new (.cells (ed ie.zero k) e)) w'/\VR E' w'.heap (.slice H.fresh 0 k (.rest ie.size)) x:=by
 have iH:=cX t i hi;have abe:=cX e ie nT;obtain⟨inf,z,g1,g2,g3,g4,g5⟩:=yI abe;have hz:=fK (E:=E) (h:=w.heap) g5;have yJ:z.cells.size=ie.size:=by have:=hz.1.length; simp only [bh] at this; omega
 have hkb:k<=140737488355328:=by refine br ?_ I4;exact Nat.le_mul_of_pos_left _ J
 have wn:IntKind.i64.wrap (k:Int)=(k:Int):=by rw [<- oD]; simp only [xI]; rw [ag (by constructor<;>omega)]
 have ai: ∀(q:IntKind) (x:Int) (w:World),(asInt (Value.int q x)).run P w= .ok x w:=fun _ _ _=>rfl
 have kg:z.cells.toList≠[]:=by
  intro hx;have hx':z.cells.size=0:=by have:=congrArg List.length hx; simpa using this
  omega
 have hzz:=wO z.cells kg k;rw [yJ] at hzz;obtain⟨iI,e1⟩ : ∃iI:Array Value,((Array.range (k*inf.size)).map (z.cells[·% z.cells.size]!))=iI:=⟨_,rfl⟩
 have e1':iI.toList=ed z.cells.toList k:=by
  grind
 have e2:cJ E w.heap (ed ie.zero k) iI.toList:=by rw [e1']; exact nB hz.1 k
 have e3: ∀u∈iI.toList,u.oneCell'=true:=by rw [e1']; intro u hu; exact hz.2 u (nA hu)
 have jv:iI.size=k*ie.size:=by rw [<- bh,e1',jH,bh,yJ]
 refine⟨.slice (some ⟨w.heap.size,0,none⟩) k k,{ w with heap:=w.heap.push (.cells iI e) },E.ext H.fresh (w.heap.size,0) iI.size,?_,?_⟩
 ·have t1: ¬((k:Int)<0):=J
  have t2: ¬((inf.bytes:Int)*(k:Int) > 2 ^ 48):=by
   grind
  have t4: ¬((k:Int) > (k:Int)):=J
  have t5:(askRoom (k*inf.bytes)).run P w= .ok () w:=by
   have: ¬(k*inf.bytes > roomBytes):=by
    unfold roomBytes
    grind
   unfold askRoom;rw [af this];rfl
  have t6:(k:Int).toNat=k:=rfl
  have h0: ¬(k*inf.size=0):=by rw [g2];have:=awP nQ zH;omega
  simp only [Instr.makeSlice,Sem.run_bind,run_underlying (fF iH hk),Result.andThen_ok,ai,sizeOf,typeInfo,zeroValue,run_program,g1,g4,Sem.run_pure,newRow,Sem.run_ite,wn,t1,t2,t4,t6,h0,decide_false,awZ,aR,if_false];rw [t5,Result.andThen_ok,e1];rfl
 ·obtain⟨s1,s2⟩:=jt r iI 0 0 e e2 e3 (fun i u hu=>by rw [<- avW]; exact hu) J (w':={ w with heap:=w.heap.push (.cells iI e) }) rfl ⟨rfl,rfl,rfl⟩;refine⟨s1,s2,?_⟩;simp only [VR];refine⟨En.iL _ _ _ _,⟨w.heap.size,0,none⟩,k,rfl,aw _,?_⟩;simp only [fS,En.ext_θ_new,En.ext_κ_new]
  grind
theorem T7 [bN] (cX:eS P tt) {s s':St} (r:bV E s.h w) (hp:cz E.ρ s.pc) {l c v:AV} {lu cu:Value} (hl:VR E w.heap l lu) (hc:VR E w.heap c cu) (h:(MI tt t l c s).leaf E.ρ=some (v,s')) :
 s'.bC=s.bC/\cz E.ρ s'.pc/\∃x w' E',(Instr.makeSlice t lu cu).run P w= .ok x w'/\fD E s.h w E' s'.h w'/\bV E' s'.h w'/\VR E' w'.heap v x:=by
 unfold MI at h;split at h
 ·rename_i k n;split at h
  ·rename_i k2 n2;split at h
   ·simp [T.leaf] at h
   ·rename_i hnn;have hnn:=dk _ _ hnn;subst hnn;simp only [VR] at hl hc;subst hl hc;split at h
    ·simp [T.leaf] at h
    ·rename_i i hi;split at h
     ·simp [T.leaf] at h
     ·rename_i o ho;split at h
      ·rename_i e hk;split at h
       ·simp [T.leaf] at h
       ·rename_i ie nT;split at h
        ·simp [T.leaf] at h
        ·rename_i z hz;split at h
         ·rename_i jZ;obtain⟨mj,zH,pM,yJ⟩:=jZ;obtain⟨jS,jx,U⟩:=dh hp h;split at U
          ·simp [T.leaf] at U
          ·rename_i t1;obtain⟨qU,qp,Z⟩:=dh (s:={ s with pc:=jS }) jx U;split at Z
           ·rename_i t2;split at Z
            ·rename_i v0 h0 hm;have:=bE Z;simp only [an] at this;obtain⟨rfl,rfl⟩:=this;rw [ny,beq_iff_eq] at t2;simp only [Y.den] at t2;rw [t2];obtain⟨x,w',E',q1,q2,q3,q4⟩:=xO (P:=P) cX r (lu:=.int k 0) (cu:=.int k2 0) (by simp only [VR,Y.den]) (by simp only [VR,Y.den]) hm
             grind
            ·simp [T.leaf] at Z
           ·rename_i t2;obtain⟨pc3,PA,h3⟩:=dh (s:={ s with pc:=qU }) qp Z;split at h3
            ·rename_i t3;have:=bE h3;simp only [an] at this;obtain⟨rfl,rfl⟩:=this;rw [eu,decide_eq_false_iff_not] at t1;rw [ny,beq_eq_false_iff_ne] at t2;rw [eu,decide_eq_true_eq] at t3;simp only [Y.den] at t1 t2 t3;obtain⟨m,hm⟩ : ∃m:Nat,n.den E.ρ=(m:Int):=⟨(n.den E.ρ).toNat,J⟩;rw [hm] at t2 t3 ⊢;have nQ:0<m:=J
             have I4:ie.bytes*m<=140737488355328:=by
              unfold tm at t3
              have U:m<=140737488355328 / ie.bytes:=by
               grind
              exact br (Nat.mul_le_mul_left _ U) (Nat.mul_div_le _ _)
             obtain⟨x,w',E',q1,q2,q3,q4⟩:=aaN (P:=P) (k1:=k) (k2:=k2) cX r hi hk nT yJ zH pM I4 nQ;have hρ:=q2.ρ
             have V:dec ((Y.op .rep n z).den E'.ρ)=dL (List.replicate m (dec (z.den E'.ρ))):=by
              have:n.den E'.ρ=(m:Int):=by rw [hρ]; exact hm
              simp only [Y.den,gX.den,bG,this,aQ]
             have hlen:(dec ((Y.op .rep n z).den E'.ρ)).l.length=m:=by rw [V,bF,aww]
             have hwz:sC (rowOf o) (dec (z.den E'.ρ)):=vO hz
             have Cs:(cT E'.ρ (.op .rep n z) o []).length=(ed ie.zero m).length:=by unfold cT;rw [cR (lF _),hlen,jH,yJ,mj]
             have anM: ∀(q:Nat) (us:List Value),cJ E' w'.heap (ed ie.zero q) us->cJ E' w'.heap (bH E'.ρ (rowOf o) [] (List.replicate q (dec (z.den E'.ρ))) 0) us:=by
              intro q
              induction q with
              |zero=>intro us h; exact h
              |succ q ih=> intro us h;simp only [ed] at h;obtain⟨us1,us2,rfl,a,b⟩:=cJ.split h;simp only [axq,bH,eA];rw [lN _ 1 0];refine cJ.append ?_ (ih _ b);rw [gJ];simp only [Y.den,bG];exact vP a hz
             have r2:=Fw (e1:=.op .rep n z) (t:=o) q3 ⟨by rw [V,bF],fun d N3=>by
              rw [V,bF] at N3;rw [axG N3]
              exact hwz,fun hq=>by rw [hq] at hlen; simp at hlen; omega⟩ Cs (fun us hu=>by
              unfold cT;rw [V,bF]
              exact anM m us hu)
             refine⟨rfl,PA,x,w',E',q1,q2.right (yE rfl rfl fun _=>rfl),r2,?_⟩;simp only [VR] at q4 ⊢;obtain⟨p1,a,cap,p2,p3,p4⟩:=q4;refine⟨p1,m,a,cap,by rw [cQ,hlen],p2,p3,?_⟩
             grind
            ·simp [T.leaf] at h3
         ·simp [T.leaf] at h
      ·simp [T.leaf] at h
  ·simp [T.leaf] at h
 ·simp [T.leaf] at h
end
end
section
variable {tt:TT} {u:Value} {e d:Y} {α:Type} {ix:AV} {k:IntKind} {h:Array Obj} {call:eT}
theorem NF {β:Type} (f:α->β) (xs:Array α):xs.map f=(xs.toList.map f).toArray:=by
 grind
def qn (P:Program) (R:Value->World->Prop):Result Next->Prop
 | .ok (.value u) w'=>R u w'
 | .ok (.enter f args) w'=>Calls P f args w' fun e w''=> ∃u,e= .returned u/\R u w''
 |_=>False
def mO (P:Program) (g:FuncId) (vals:Array Value) (w:World) (R:Value->World->Prop):Prop:=qn P R ((callFunc g vals).run P w)
def ly [bN] (P:Program) (g:FuncId) (f:List AV->St->T (AV×St)):Prop:=
 ∀(args:List AV) (s:St) (E:En) (w:World) (vals:List Value) (v:AV) (s':St),bV E s.h w->cJ E w.heap args vals->cz E.ρ s.pc->(f args s).leaf E.ρ=some (v,s')->
  s'.bC=s.bC/\cz E.ρ s'.pc/\mO P g vals.toArray w (RG E s w v s')
theorem BC {E:En} {h:Array Obj} {k:Nat} {e:Y} {i:Nat} (he:e.den E.ρ=(i:Int)): ∀(ks:List IntKind) (j:Nat),
 cJ E h (xw k e ks j) ((ks.zipIdx j).map fun p=> .int p.1 (E.ρ (1000+i*64+(k*8+p.2))))
 |[],j=>by simp [xw,cJ]
 |kd::ks,j=>by simp only [xw,List.zipIdx_cons,aF];rw [bS];refine⟨_,_,rfl,?_,BC he ks (j+1)⟩;simp only [VR,Y.den,he,aQ]
theorem Ua {P:Program} {E:En} {w:World} (cX:eS P tt) {pc:List (SB×Bool)} (hp:cz E.ρ pc) {t k:Nat} {ks:List IntKind} {v:AV} {ui:Value} (hx:VR E w.heap (.zG k ks) u) (BH:VR E w.heap ix ui)
 (h:MJ tt pc t k ks ix=some v): ∃r,(Instr.indexAt t u ui).run P w= .ok r w/\VR E w.heap v r:=by
 unfold MJ at h;split at h
 ·rename_i kd e;split at h
  ·rename_i ti iH;split at h
   ·rename_i el hk;have hu:=fF (cX t ti iH) hk;split at h
    ·rename_i s hs;simp only [jb,aO] at hs;obtain⟨ie,nT,rfl⟩:=hs;split at h
     ·rename_i hc;split at h
      ·rename_i U Z;simp at h;subst h;have U:=ia hp U;have Z:=ia hp Z;rw [eu,decide_eq_false_iff_not] at U;rw [eu,decide_eq_true_eq] at Z;simp only [Y.den,aws] at U Z;simp only [VR] at hx BH;subst BH;rcases hx with ⟨⟨x,cap,rfl⟩,h0⟩|⟨b,o,n,cap,rfl,g1,g2,g3,g4⟩
       ·omega
       ·obtain⟨i,hi⟩ : ∃i:Nat,e.den E.ρ=(i:Int):=⟨(e.den E.ρ).toNat,J⟩;have tZ:i<n:=J
        refine⟨.pointer (some ⟨b,o+i*ie.size,none⟩),?_,?_⟩
        ·rw [hi];simp [Instr.indexAt,asIntOf,run_underlying hu,fm (cX el ie nT),tZ,gG]
        ·simp only [VR];refine⟨b,_,_,rfl,g3,BC hi ks 0,?_,?_⟩
         ·intro j u hj
          grind
         ·intro u hu';rw [aW] at hu';obtain⟨p,_,rfl⟩:=hu';rfl
      grind
     grind
    grind
   grind
  grind
 grind
theorem afk {E:En} {s s':St} {v:AV} (hp:cz E.ρ s.pc) (h:(anb s k e d).leaf E.ρ=some (v,s')) :
 s'.bC=s.bC/\s'.h=s.h/\cz E.ρ s'.pc/\d.den E.ρ≠0/\∀h,VR E h v (.int k ((e.den E.ρ).tmod (d.den E.ρ))):=by
 unfold anb at h;obtain⟨fH,gH,h3⟩:=dh hp h;rw [jF] at h3;split at h3
 ·grind [T.leaf]
 ·rename_i he;simp only [T.leaf,ah,an] at h3;obtain⟨rfl,rfl⟩:=h3;simp only [Y.den,beq_eq_false_iff_ne,ne_eq] at he;exact⟨rfl,rfl,gH,he,fun h=>by simp only [VR,Y.den]⟩
theorem Yg {E:En} {op:BinOp} {a b:AV} (hr:SW op a b=some (k,e,d)) {u':Value} (ha:VR E h a u) (hb:VR E h b u') :
 op= .rem/\u= .int k (e.den E.ρ)/\u'= .int k (d.den E.ρ):=by
 unfold SW at hr;split at hr
 ·split at hr
  ·split at hr
   ·split at hr
    ·grind
    ·split at hr
     ·rename_i hc;simp only [ah,an] at hr;obtain⟨rfl,rfl,rfl⟩:=hr;simp only [VR] at ha hb
      grind
     grind
   grind
  grind
 grind
def iZ [bN] (P:Program) (call:eT):Prop:= ∀g,ly P g (call g)
theorem tY.next {P:Program} {o:Oper} {a:Act} {w:World} {R:Value->World->Prop} (h:qn P R ((execOp a.eval o).run P w)):tY P o a w R:=by
 intro K Q hk;unfold Oper.wp;generalize (execOp a.eval o).run P w=r at h
 cases r with
 |halt x w'=>exact h.elim
 |ok n w'=>
  cases n<;>first
   |exact h.elim
   |exact hk _ _ h
   |(exact Calls.mono h fun e w'' ⟨u,he,hr⟩=>by subst he; exact hk _ _ hr)
theorem Ir {t n:Nat} (h:Xp tt t ix=some (n,e)): ∃k ti el ie,ix= .int k e/\tt t=some ti/\ti.kind= .array n el/\tt el=some ie/\ie.size=1/\ie.agg=false:=by
 unfold Xp at h;split at h
 all_goals grind
section
variable {P:Program} {E:En} {w:World} {s s':St} {o:Oper} {a:Act} {v:AV}
theorem MS [bN] (cX:eS P tt) (r:bV E s.h w) (hp:cz E.ρ s.pc) {b:Builtin} {ts:List Nat} {args:List AV} {vals:List Value} (hv:cJ E w.heap args vals) (ty:Nat) (cs:Array Bool)
 (h:(yR tt s b ts args).leaf E.ρ=some (v,s')):s'.bC=s.bC/\cz E.ρ s'.pc/\∃u w',(builtin b ts.toArray ty cs vals.toArray).run P w= .ok (.value u) w'/\RG E s w v s' u w':=by
 unfold yR at h;split at h
 ·rename_i t x;obtain⟨e1,rfl⟩:=jB h;rw [bS] at hv;obtain⟨u,vs,rfl,hx,qo⟩:=hv;rw [jn] at qo;subst qo;obtain⟨y,U,Z⟩:=abK (ty:=ty) cX r hx e1;exact⟨rfl,hp,y,w,by simp [builtin,U],E,fD.refl _ _ _,r,Z⟩
 ·rename_i t t2 id lo n t' y;rw [bS] at hv;obtain⟨u,vs,rfl,hx,qo⟩:=hv;rw [bS] at qo;obtain⟨u2,vs,rfl,hy,Kr⟩:=qo;rw [jn] at Kr;subst Kr;split at h
  ·rename_i hz;obtain⟨q1,q2,z,w',E',U,Z,h3,h4⟩:=QJ (ty:=ty) cX r hp hz hx hy h;exact agW
  grind [T.leaf]
 ·rename_i t t2 x y _;rw [bS] at hv;obtain⟨u,vs,rfl,hx,qo⟩:=hv;rw [bS] at qo;obtain⟨u2,vs,rfl,hy,Kr⟩:=qo;rw [jn] at Kr;subst Kr;split at h
  ·rename_i afT;obtain⟨q1,q2,z,w',E',U,Z,h3,h4⟩:=MU (ty:=ty) cX r hp hx hy (fun V=>by rw [V,awZ] at afT; exact Pu hx afT) h;exact agW
  obtain⟨H,e1,rfl⟩:=rH h;obtain⟨z,w',E',U,Z,h3,h4⟩:=QI (ty:=ty) cX r hx hy e1;exact⟨rfl,hp,z,w',by simp [builtin,U],E',Z,h3,h4⟩
 ·rename_i t ts' m k;rw [bS] at hv;obtain⟨u,vs,rfl,hx,qo⟩:=hv;rw [bS] at qo;obtain⟨u2,vs,rfl,hy,Kr⟩:=qo;rw [jn] at Kr;subst Kr;split at h
  ·rename_i id e t' gD
   obtain⟨q1,q2,rfl,w',U,Z,h3⟩:=Zb (ts:=ts') cX r hx hy gD h ty;exact⟨q1,by rw [q2]; exact hp,.tuple #[],w',by simp [builtin,U],E,Z,h3,by simp only [AV.undef,VR,cJ]; exact⟨[],rfl,rfl⟩⟩
  obtain⟨fH,gH,h⟩:=sQ hp h;obtain⟨H,e1,rfl,rfl⟩:=Bg h;obtain⟨w',U,Z,h3⟩:=QH (ts:=ts') cX gH r hx hy e1 ty;exact⟨rfl,gH,.tuple #[],w',by simp [builtin,U],E,Z,h3,by simp only [AV.undef,VR,cJ]; exact⟨[],rfl,rfl⟩⟩
 ·rename_i t id n t';rw [bS] at hv;obtain⟨u,vs,rfl,hx,qo⟩:=hv;rw [jn] at qo;subst qo;obtain⟨q1,q2,rfl,w',E',U,Z,h3⟩:=Ey (ty:=ty) cX r hp (Vf hx) h;exact ah8
 ·rename_i t id lo n t';rw [bS] at hv;obtain⟨u,vs,rfl,hx,qo⟩:=hv;rw [jn] at qo;subst qo;obtain⟨q1,q2,rfl,w',E',U,Z,h3⟩:=Ey (ty:=ty) cX r hp hx h;exact ah8
 ·rename_i t x _ _;obtain⟨H,e1,rfl,rfl⟩:=Bg h;rw [bS] at hv;obtain⟨u,vs,rfl,hx,qo⟩:=hv;rw [jn] at qo;subst qo;obtain⟨w',U,Z,h3⟩:=Ug (ty:=ty) cX r hx e1;exact⟨rfl,hp,.tuple #[],w',by simp [builtin,U],E,Z,h3,by simp only [AV.undef,VR,cJ]; exact⟨[],rfl,rfl⟩⟩
 ·rename_i k e xs;rw [bS] at hv;obtain⟨u,vs,rfl,hx,qo⟩:=hv;simp only [VR] at hx;subst hx;obtain⟨q1,q2,q3,u,q4,q5⟩:=pB (P:=P) (w:=w) hp qo h;refine⟨q2,q3,u,w,?_,E,by rw [q1]; exact fD.refl _ _ _,by rw [q1]; exact r,q5⟩;simp only [aR,if_false] at q4;simp [builtin,Builtin.min_,q4]
 ·rename_i k e xs;rw [bS] at hv;obtain⟨u,vs,rfl,hx,qo⟩:=hv;simp only [VR] at hx;subst hx;obtain⟨q1,q2,q3,u,q4,q5⟩:=pB (P:=P) (w:=w) hp qo h;refine⟨q2,q3,u,w,?_,E,by rw [q1]; exact fD.refl _ _ _,by rw [q1]; exact r,q5⟩;simp only [if_true] at q4;simp [builtin,Builtin.max_,q4]
 grind [T.leaf]
theorem Zc [bN] (cX:eS P tt) (hc:iZ P call) (r:bV E s.h w) (sr:SR E w.heap s.bC a) (hp:cz E.ρ s.pc) {c:Call} (ho:o.op= .call c)
 (h:(MQ tt call s c).leaf E.ρ=some (v,s')):mr P E s o a w v s':=by
 unfold MQ at h;split at h
 ·grind [T.leaf]
 ·rename_i args ajZ;have hv:=Mw sr ajZ;have arY:c.args.map a.eval=(c.args.toList.map a.eval).toArray:=NF _ _;split at h
  ·rename_i b anT;obtain⟨q1,q2,u,w',q3,q4⟩:=MS cX r hp hv o.type (c.args.map fun| .const _=>true|_=>false) h;refine⟨q1,q2,tY.value ?_ q4⟩;simp only [execOp,ho,resolve,anT,Sem.run_bind,Sem.run_pure,Result.andThen_ok,invoke,arY];exact q3
  ·rename_i f anT;split at h
   ·rename_i g fs cs hf;have hfv:=iF sr hf;simp only [VR] at hfv;obtain⟨us,ws,he,U,Z⟩:=hfv;obtain⟨q1,q2,q3⟩:=hc g _ s E w _ v s' r ((U.append hv).append Z) hp h;refine⟨q1,q2,tY.next ?_⟩;unfold mO at q3;simp only [execOp,ho,resolve,anT,Sem.run_bind,he,Deferred.ofValue,Sem.run_pure,Result.andThen_ok,invoke,arY]
    grind
   grind [T.leaf]
  grind [T.leaf]
theorem ad3 [bN] {E:En} {v:AV} {s:St} {k:AV->St->T α} {r:α} (hp:cz E.ρ s.pc) (hv:VR E h v u) (hl:(ad4 v s k).leaf E.ρ=some r) :
 ∃v' fH,cz E.ρ fH/\VR E h v' u/\(k v' { s with pc:=fH }).leaf E.ρ=some r:=by
 unfold ad4 at hl;split at hl
 ·split at hl
  ·exact⟨_,s.pc,hp,hv,hl⟩
  ·obtain⟨jS,jx,U⟩:=dh hp hl;refine⟨_,jS,jx,?_,U⟩;simp only [VR,SB.den] at *;exact hv
 ·exact⟨_,s.pc,hp,hv,hl⟩
theorem WK [bN] (cX:eS P tt) (hc:iZ P call) (r:bV E s.h w) (sr:SR E w.heap s.bC a) (hp:cz E.ρ s.pc) (h:(MH tt call s o.op).leaf E.ρ=some (v,s')):mr P E s o a w v s':=by
 obtain⟨dst,op,type,pos,after,guard⟩:=o;simp only at h;cases op<;>simp only [MH] at h<;>first |(simp [T.leaf] at h; done)|skip
 case move x=>
  obtain⟨u,U,Z⟩:=iy sr h;have:=bE Z;simp only [an] at this;obtain⟨rfl,rfl⟩:=this;exact mr.pure hp r (u:=a.eval x) rfl U
 case assign x=>
  obtain⟨u,U,Z⟩:=iy sr h;have:=bE Z;simp only [an] at this;obtain⟨rfl,rfl⟩:=this;exact mr.pure hp r (u:=a.eval x) rfl U
 case pick c x y=>
  obtain⟨cv,U,Z⟩:=iy sr h;split at Z
  ·rename_i cb;obtain⟨fH,gH,h3⟩:=dh hp Z;simp only [VR] at U;cases RR:cb.den E.ρ<;>rw [RR] at U h3
   ·simp only [aR,if_false] at h3;obtain⟨u,h4,h5⟩:=iy (s:={ s with pc:=fH }) sr h3;have:=bE h5;simp only [an] at this;obtain⟨rfl,rfl⟩:=this;exact⟨rfl,gH,tY.value (u:=a.eval y) (by simp [execOp,U,asBool]) ⟨E,fD.refl _ _ _,r,h4⟩⟩
   ·simp only [if_true] at h3;obtain⟨u,h4,h5⟩:=iy (s:={ s with pc:=fH }) sr h3;have:=bE h5;simp only [an] at this;obtain⟨rfl,rfl⟩:=this;exact⟨rfl,gH,tY.value (u:=a.eval x) (by simp [execOp,U,asBool]) ⟨E,fD.refl _ _ _,r,h4⟩⟩
  ·simp [T.leaf] at Z
 case alloc t=>
  split at h
  ·rename_i i hi;have:=bE h;simp only [an] at this;obtain⟨rfl,rfl⟩:=this;obtain⟨inf,z,g1,g2,g3,g4,g5⟩:=yI (cX t i hi);have hz:=fK (E:=E) (h:=w.heap) g5;obtain⟨s1,s2⟩:=jt r z.cells 0 0 t hz.1 hz.2 (fun i u hu=>by rw [<- avW]; exact hu) J (w':={ w with heap:=w.heap.push (.cells z.cells t) }) rfl ⟨rfl,rfl,rfl⟩;exact mr.heap hp (u:=.pointer (some ⟨w.heap.size,0,none⟩)) (by simp [execOp,Instr.alloc,zeroValue,typeInfo,g1,g4,newVar,newRow]) s1 s2 (LS r _ _ 0)
  ·simp [T.leaf] at h
 case box t x=>
  obtain⟨u,U,Z⟩:=iy sr h;split at Z
  ·rename_i wD;have:=bE Z;simp only [an] at this;obtain⟨rfl,rfl⟩:=this;have RQ:=U.cells wD;obtain⟨s1,s2⟩:=jt r (a.eval x).cells 0 0 t RQ (RQ.uC wD) (fun i u hu=>by rw [<- avW]; exact hu) J (w':={ w with heap:=w.heap.push (.cells (a.eval x).cells t) }) rfl ⟨rfl,rfl,rfl⟩;exact mr.heap hp (u:=.pointer (some ⟨w.heap.size,0,none⟩)) (by simp [execOp,Instr.box,newVar,newRow]) s1 s2 (LS r _ _ 0)
  ·simp [T.leaf] at Z
 case build t parts=>
  split at h
  ·rename_i ps hps;obtain⟨e1,rfl⟩:=jB h;have hpr:=AE sr hps;obtain⟨x,U,Z⟩:=Ui (w:=w) (ps:=parts.map fun p=>(p.1,a.eval p.2)) cX (by simpa using hpr) e1;exact mr.pure hp r (u:=x) (by simp [execOp,U]) Z
  ·simp [T.leaf] at h
 case buildSlice t len parts=>
  split at h
  ·rename_i ps hps;obtain⟨H,e1,rfl⟩:=rH h;have hpr:=AE sr hps;obtain⟨x,w',E',U,Z,h3,h4⟩:=E7 (ps:=parts.map fun p=>(p.1,a.eval p.2)) cX r (by simpa using hpr) e1;exact mr.heap hp (u:=x) (by simp [execOp,U]) Z h3 h4
  ·simp [T.leaf] at h
 case makeSlice t l c=>
  obtain⟨u,U,Z⟩:=iy sr h;split at Z
  ·rename_i cv hc;split at Z
   ·rename_i q hq;obtain⟨H,e1,rfl⟩:=rH Z;simp only [ah] at e1;subst e1;obtain⟨x,w',E',g1,g2,g3,g4⟩:=xO cX r U (iF sr hc) hq;exact mr.heap hp (u:=x) (by simp [execOp,g1]) g2 g3 g4
   ·obtain⟨q1,q2,x,w',E',g1,g2,g3,g4⟩:=T7 cX r hp U (iF sr hc) Z;exact⟨q1,q2,tY.value (by simp [execOp,g1]) ⟨E',g2,g3,g4⟩⟩
  ·simp [T.leaf] at Z
 case insert t m k x=>
  obtain⟨u,U,Z⟩:=iy sr h;split at Z
  ·rename_i kv xv hk hx;split at Z
   ·obtain⟨q1,q2,rfl,w',E',g1,g2,g3⟩:=KJ (P:=P) cX r hp U (iF sr hk) (iF sr hx) Z;exact⟨q1,q2,tY.skip (by simp [execOp,g1]) ⟨E',g2,g3,pU⟩⟩
   obtain⟨fH,gH,Z⟩:=sQ hp Z;obtain⟨H,e1,rfl,rfl⟩:=Bg Z;obtain⟨w',g1,g2,g3⟩:=xN cX gH r U (iF sr hk) (iF sr hx) e1;exact⟨rfl,gH,tY.skip (by simp [execOp,g1]) ⟨E,g2,g3,pU⟩⟩
  ·simp [T.leaf] at Z
 case load t x=>
  obtain⟨u,U,Z⟩:=iy sr h;split at Z
  ·obtain⟨q1,q2,q3,y,b,off,g1,g2,g3⟩:=T9 cX r hp U Z;exact⟨q1,q3,tY.value (u:=y) (by simp [execOp,Instr.loadAt,g1,Instr.sureAddr,g2]) ⟨E,by rw [q2]; exact fD.refl _ _ _,by rw [q2]; exact r,g3⟩⟩
  obtain⟨e1,rfl⟩:=jB Z;obtain⟨y,b,off,g1,g2,g3⟩:=Dv cX r U e1;exact mr.pure hp r (u:=y) (by simp [execOp,Instr.loadAt,g1,Instr.sureAddr,g2]) g3
 case store t x y=>
  obtain⟨u,U,Z⟩:=iy sr h;split at Z
  ·rename_i yv hy;obtain⟨yv',fH,gH,Tw,Z⟩:=ad3 hp (iF sr hy) Z;split at Z
   ·obtain⟨q1,q2,rfl,w',E',g1,g2,g3⟩:=QB cX (s:={ s with pc:=fH }) r gH U Tw Z;exact⟨q1,q2,tY.skip (by simp [execOp,g1]) ⟨E',g2,g3,pU⟩⟩
   obtain⟨H,e1,rfl,rfl⟩:=Bg Z;obtain⟨w',g1,g2,g3⟩:=T2 cX r U Tw e1;exact⟨rfl,gH,tY.skip (by simp [execOp,g1]) ⟨E,g2,g3,pU⟩⟩
  ·simp [T.leaf] at Z
 case nilCheck x=>
  obtain⟨u,U,Z⟩:=iy sr h;split at Z
  ·have:=bE Z;simp only [an] at this;obtain⟨rfl,rfl⟩:=this;have PK:=U;simp only [VR] at U;exact mr.pure hp r (u:=a.eval x) (by simp [execOp,U.1]) PK
  ·have:=bE Z;simp only [an] at this;obtain⟨rfl,rfl⟩:=this;have PK:=U;simp only [VR] at U;obtain⟨b,off,us,hu,_⟩:=U;exact mr.pure hp r (u:=a.eval x) (by simp [execOp,hu]) PK
  ·have:=bE Z;simp only [an] at this;obtain⟨rfl,rfl⟩:=this;have PK:=U;simp only [VR] at U;obtain⟨_,k,_,hu⟩:=U;exact mr.pure hp r (u:=a.eval x) (by simp [execOp,hu]) PK
  ·simp [T.leaf] at Z
 case binOp bop t x y yt=>
  obtain⟨u,U,Z⟩:=iy sr h;split at Z
  ·rename_i yv hy;have Tw:=iF sr hy;split at Z
   ·rename_i xs;simp only [VR] at U;obtain⟨us,Pz,U⟩:=U;split at Z
    ·rename_i ys;simp only [VR] at Tw;obtain⟨vs,RN,Tw⟩:=Tw;split at Z
     ·rename_i c TE;have:=bE Z;simp only [an] at this;obtain⟨rfl,rfl⟩:=this;obtain⟨g1,g2,g3⟩:=HT (w:=w) cX U Tw TE .eql x y;exact mr.pure hp r (u:=.bool (c.den E.ρ)) (by simp [execOp,Pz,RN,g1,g2]) (by simp only [VR])
     ·simp [T.leaf] at Z
    ·rename_i ys;simp only [VR] at Tw;obtain⟨vs,RN,Tw⟩:=Tw;split at Z
     ·rename_i c TE;have:=bE Z;simp only [an] at this;obtain⟨rfl,rfl⟩:=this;obtain⟨g1,g2,g3⟩:=HT (w:=w) cX U Tw TE .neq x y;exact mr.pure hp r (u:=.bool (!(c.den E.ρ))) (by simp [execOp,Pz,RN,g1,g3]) (by simp only [VR,pd])
     ·simp [T.leaf] at Z
    ·simp [T.leaf] at Z
   ·split at Z
    ·rename_i e hna;obtain⟨q1,q2,q3,y',g1,g2,g3,g4⟩:=afC (P:=P) (w:=w) cX hna U Tw hp Z;exact⟨q1,q3,tY.value (u:=y') (by simp [execOp,xR (P:=P) (w:=w) g3 g4,g1]) ⟨E,by rw [q2]; exact fD.refl _ _ _,by rw [q2]; exact r,g2⟩⟩
    split at Z
    ·rename_i k e d hrl;obtain⟨rfl,hu1,hu2⟩:=Yg hrl U Tw;obtain⟨q1,q2,q3,kg,q4⟩:=afk hp Z;refine⟨q1,q3,tY.value (u:=.int k ((e.den E.ρ).tmod (d.den E.ρ))) (w':=w) ?_ ⟨E,by rw [q2]; exact fD.refl _ _ _,by rw [q2]; exact r,q4 _⟩⟩;simp [execOp,hu1,hu2,binOp,Op.intDiv,kg,eqGuard]
    split at Z
    ·rename_i x' y' hsp;obtain⟨q1,q2,q3,⟨y'',g1,g2⟩,g3,g4⟩:=Y6 (P:=P) (w:=w) (t:=t) hp U Tw hsp Z;exact⟨q1,q3,tY.value (u:=y'') (by simp [execOp,xR (P:=P) (w:=w) g3 g4,g1]) ⟨E,by rw [q2]; exact fD.refl _ _ _,by rw [q2]; exact r,g2⟩⟩
    ·obtain⟨e1,rfl⟩:=jB Z;obtain⟨⟨y',g1,g2⟩,g3,g4⟩:=abM (w:=w) cX U Tw e1;exact mr.pure hp r (u:=y') (by simp [execOp,xR (P:=P) (w:=w) g3 g4,g1]) g2
  ·simp [T.leaf] at Z
 case unOp uop t x=>
  obtain⟨u,U,Z⟩:=iy sr h;obtain⟨e1,rfl⟩:=jB Z;obtain⟨y,g1,g2⟩:=af7 (P:=P) (w:=w) U e1;exact mr.pure hp r (u:=y) (by simp [execOp,g1]) g2
 case convert sT dT x=>
  obtain⟨u,U,Z⟩:=iy sr h;split at Z
  ·obtain⟨q1,q2,y,w',E',g1,g2,g3,g4⟩:=Uh (P:=P) cX r hp U Z;exact⟨q1,q2,tY.value (u:=y) (by simp [execOp,g1]) ⟨E',g2,g3,g4⟩⟩
  obtain⟨H,e1,rfl⟩:=rH Z;obtain⟨y,w',E',g1,g2,g3,g4⟩:=B3 cX r U e1;exact mr.heap hp (u:=y) (by simp [execOp,g1]) g2 g3 g4
 case makeFunc fn fs cs=>
  split at h
  ·rename_i f c hf hcs;have:=bE h;simp only [an] at this;obtain⟨rfl,rfl⟩:=this;have U:=Mw sr hf;have Z:=Mw sr hcs;refine mr.pure hp r (u:=.func fn (fs.map a.eval) (cs.map a.eval)) (by simp [execOp,Instr.makeFunc]) ?_;simp only [VR];have m1:fs.map a.eval=(fs.toList.map a.eval).toArray:=NF _ _;have m2:cs.map a.eval=(cs.toList.map a.eval).toArray:=NF _ _;exact⟨_,_,by rw [m1,m2],U,Z⟩
  ·simp [T.leaf] at h
 case makeMap t res=>
  split at h
  ·split at h
   ·rename_i m hm;have:=bE h;simp only [an] at this;obtain⟨rfl,rfl⟩:=this
    obtain⟨s1,s2⟩:=Bq r (.map #[] 0) (.mB (.eW (.i 0)) m) 0 (w':={ w with heap:=w.heap.push (.map #[] 0) }) rfl ⟨rfl,rfl,rfl⟩ (by
     simp only [OR,En.ext_θ_new]
     exact⟨#[],0,ad,by simp [mu,Y.den,bG,D.l]⟩)
    exact mr.heap hp (u:=.map (some w.heap.size)) (by simp [execOp,Instr.makeMap]) s1 s2 (by simp only [VR,En.ext_θ_new]; exact⟨trivial,En.iL _ _ _ _⟩)
   have:=bE h;simp only [an] at this;obtain⟨rfl,rfl⟩:=this
   obtain⟨s1,s2⟩:=Bq r (.map #[] 0) (.map [] 0) 0 (w':={ w with heap:=w.heap.push (.map #[] 0) }) rfl ⟨rfl,rfl,rfl⟩ (by
    simp only [OR,En.ext_θ_new]
    exact⟨#[],0,ad,by simp [fb]⟩)
   exact mr.heap hp (u:=.map (some w.heap.size)) (by simp [execOp,Instr.makeMap]) s1 s2 (by simp only [VR,En.ext_θ_new]; exact⟨trivial,En.iL _ _ _ _⟩)
  ·simp [T.leaf] at h
 case slice t x lo hi mx=>
  obtain⟨u,U,Z⟩:=iy sr h;split at Z
  ·rename_i l hh m hl hhh hm;split at Z
   ·obtain⟨q1,q2,q3,y,g1,g2⟩:=Ue (w:=w) cX hp U (fL sr hl) (fL sr hhh) (fL sr hm) Z;exact⟨q1,q3,tY.value (u:=y) (by simp [execOp,g1]) ⟨E,by rw [q2]; exact fD.refl _ _ _,by rw [q2]; exact r,g2⟩⟩
   ·obtain⟨q1,q2,q3,y,g1,g2⟩:=HK cX r hp (Vf U) (fL sr hl) (fL sr hhh) (fL sr hm) Z;exact⟨q1,q3,tY.value (u:=y) (by simp [execOp,g1]) ⟨E,by rw [q2]; exact fD.refl _ _ _,by rw [q2]; exact r,g2⟩⟩
   ·obtain⟨q1,q2,q3,y,g1,g2⟩:=HK cX r hp U (fL sr hl) (fL sr hhh) (fL sr hm) Z;exact⟨q1,q3,tY.value (u:=y) (by simp [execOp,g1]) ⟨E,by rw [q2]; exact fD.refl _ _ _,by rw [q2]; exact r,g2⟩⟩
   ·obtain⟨q1,q2,q3,y,g1,g2⟩:=TY (w:=w) cX hp U (fL sr hl) (fL sr hhh) (fL sr hm) Z;exact⟨q1,q3,tY.value (u:=y) (by simp [execOp,g1]) ⟨E,by rw [q2]; exact fD.refl _ _ _,by rw [q2]; exact r,g2⟩⟩
   ·obtain⟨q1,q2,q3,y,g1,g2⟩:=Uc (w:=w) cX hp U (fL sr hl) (fL sr hhh) (fL sr hm) Z;exact⟨q1,q3,tY.value (u:=y) (by simp [execOp,g1]) ⟨E,by rw [q2]; exact fD.refl _ _ _,by rw [q2]; exact r,g2⟩⟩
   split at Z
   ·rename_i v' e1;have:=bE Z;simp only [an] at this;obtain⟨rfl,rfl⟩:=this;obtain⟨y,g1,g2⟩:=T3 (w:=w) cX U (fL sr hl) (fL sr hhh) (fL sr hm) e1;exact mr.pure hp r (u:=y) (by simp [execOp,g1]) g2
   ·obtain⟨e1,rfl⟩:=jB Z;obtain⟨y,g1,g2⟩:=QC (w:=w) cX r U (fL sr hl) (fL sr hhh) (fL sr hm) e1;exact mr.pure hp r (u:=y) (by simp [execOp,g1]) g2
  ·simp [T.leaf] at Z
 case fieldAddr t x f=>
  obtain⟨u,U,Z⟩:=iy sr h;obtain⟨e1,rfl⟩:=jB Z;obtain⟨y,g1,g2⟩:=HS (w:=w) cX U e1;exact mr.pure hp r (u:=y) (by simp [execOp,g1]) g2
 case field t x f=>
  obtain⟨u,U,Z⟩:=iy sr h;obtain⟨e1,rfl⟩:=jB Z;obtain⟨y,g1,g2⟩:=Ub (w:=w) cX U e1;exact mr.pure hp r (u:=y) (by simp [execOp,g1]) g2
 case indexAddr t x i=>
  obtain⟨u,U,Z⟩:=iy sr h;split at Z
  ·rename_i iv hi;split at Z
   ·obtain⟨e1,rfl⟩:=jB Z;obtain⟨y,g1,g2⟩:=Ua (w:=w) cX hp U (iF sr hi) e1;exact mr.pure hp r (u:=y) (by simp [execOp,g1]) g2
   ·obtain⟨q1,q2,q3,y,g1,g2⟩:=Uf (w:=w) cX hp U (iF sr hi) Z;exact⟨q1,q3,tY.value (u:=y) (by simp [execOp,g1]) ⟨E,by rw [q2]; exact fD.refl _ _ _,by rw [q2]; exact r,g2⟩⟩
   ·obtain⟨q1,q2,q3,y,g1,g2⟩:=TX (w:=w) cX hp U (iF sr hi) Z;exact⟨q1,q3,tY.value (u:=y) (by simp [execOp,g1]) ⟨E,by rw [q2]; exact fD.refl _ _ _,by rw [q2]; exact r,g2⟩⟩
   ·obtain⟨q1,q2,q3,y,g1,g2⟩:=TW (w:=w) cX hp U (iF sr hi) Z;exact⟨q1,q3,tY.value (u:=y) (by simp [execOp,g1]) ⟨E,by rw [q2]; exact fD.refl _ _ _,by rw [q2]; exact r,g2⟩⟩
   ·rename_i pid po;split at Z
    ·rename_i n e hb;split at Z
     ·rename_i ho;subst ho;obtain⟨kd,ti,el,ie,rfl,b1,b2,b3,b4,b5⟩:=Ir hb;obtain⟨fH,gH,t1,t2,h3⟩:=pI hp Z;have:=bE h3;simp only [an] at this;obtain⟨rfl,rfl⟩:=this;have hiv:=iF sr hi;simp only [VR] at hiv;simp only [Y.den] at t2;obtain⟨k,hk⟩ : ∃k:Nat,e.den E.ρ=(k:Int):=⟨(e.den E.ρ).toNat,J⟩;have gB:k<n:=by simp at t2; omega
      rw [hk] at hiv
      obtain⟨y,g1,g2⟩:=sa (P:=P) (w:=w) cX (t:=t) (ix:=.int kd (.lit (Int.ofNat k))) U (by simp only [VR,Y.den]; exact hiv) (v:=.ptr pid (0+k*ie.size)) (by
       unfold qf;simp only [lH,b1,b2,jb,b3,av0];rw [ag gB]
       rfl)
      refine⟨rfl,gH,tY.value (u:=y) (by simp [execOp,g1]) ⟨E,fD.refl _ _ _,r,?_⟩⟩;simp only [VR] at g2 ⊢;exact⟨g2.2,k,hk,by rw [g2.1,b4]; congr 3; omega⟩
     ·simp [T.leaf] at Z
    ·obtain⟨ix',fH,gH,BH,Z⟩:=Cm hp (iF sr hi) Z;obtain⟨e1,rfl⟩:=jB Z;obtain⟨y,g1,g2⟩:=sa (w:=w) cX U BH e1;exact⟨rfl,gH,tY.value (u:=y) (by simp [execOp,g1]) ⟨E,fD.refl _ _ _,r,g2⟩⟩
   ·obtain⟨ix',fH,gH,BH,Z⟩:=Cm hp (iF sr hi) Z;obtain⟨e1,rfl⟩:=jB Z;obtain⟨y,g1,g2⟩:=sa (w:=w) cX U BH e1;exact⟨rfl,gH,tY.value (u:=y) (by simp [execOp,g1]) ⟨E,fD.refl _ _ _,r,g2⟩⟩
  ·simp [T.leaf] at Z
 case index t x i=>
  obtain⟨u,U,Z⟩:=iy sr h;split at Z
  ·rename_i iv hi;split at Z
   ·obtain⟨q1,q2,q3,y,g1,g2⟩:=TZ (w:=w) cX hp U (iF sr hi) Z;exact⟨q1,q3,tY.value (u:=y) (by simp [execOp,g1]) ⟨E,by rw [q2]; exact fD.refl _ _ _,by rw [q2]; exact r,g2⟩⟩
   ·rename_i cs;split at Z
    ·rename_i n e hb;split at Z
     ·rename_i hn;have hn:=ay hn;obtain⟨kd,ti,el,ie,rfl,b1,b2,b3,b4,b5⟩:=Ir hb;obtain⟨q1,q2,q3,k,kk,z,x',c1,c2,c3,rfl,c5⟩:=P8 hp Z;have hiv:=iF sr hi;simp only [VR] at hiv;rw [c1] at hiv;obtain⟨l,V⟩:=DB c3
      obtain⟨y,g1,g2⟩:=AF (P:=P) (w:=w) cX (t:=t) (ix:=.int kd (.lit (Int.ofNat k))) U (by simp only [VR,Y.den]; exact hiv) (v:=.int kk (.lit z)) (by
       unfold B1;simp only [lH,b1,b2,b3];rw [ag J,b4,aw4,V]
       simp [partOf,b5])
      refine⟨q1,q3,tY.value (u:=y) (w':=w) (by simp [execOp,g1]) ⟨E,by rw [q2]; exact fD.refl _ _ _,by rw [q2]; exact r,?_⟩⟩;simp only [VR,Y.den] at g2 ⊢;rw [g2,c5]
     ·simp [T.leaf] at Z
    ·obtain⟨ix',fH,gH,BH,Z⟩:=Cm hp (iF sr hi) Z;obtain⟨e1,rfl⟩:=jB Z;obtain⟨y,g1,g2⟩:=AF (w:=w) cX U BH e1;exact⟨rfl,gH,tY.value (u:=y) (by simp [execOp,g1]) ⟨E,fD.refl _ _ _,r,g2⟩⟩
   obtain⟨ix',fH,gH,BH,Z⟩:=Cm hp (iF sr hi) Z;obtain⟨e1,rfl⟩:=jB Z;obtain⟨y,g1,g2⟩:=AF (w:=w) cX U BH e1;exact⟨rfl,gH,tY.value (u:=y) (by simp [execOp,g1]) ⟨E,fD.refl _ _ _,r,g2⟩⟩
  ·simp [T.leaf] at Z
 case lookup t m k ok=>
  obtain⟨u,U,Z⟩:=iy sr h;split at Z
  ·rename_i kv hk;split at Z
   ·rename_i id e t' gD
    obtain⟨q1,q2,q3,y,g1,g2⟩:=T8 (P:=P) cX r hp U (iF sr hk) gD Z;exact⟨q1,q3,tY.value (u:=y) (by simp [execOp,g1]) ⟨E,by rw [q2]; exact fD.refl _ _ _,by rw [q2]; exact r,g2⟩⟩
   obtain⟨fH,gH,Z⟩:=sQ hp Z;obtain⟨e1,rfl⟩:=jB Z;obtain⟨y,g1,g2⟩:=QG cX gH r U (iF sr hk) e1;exact⟨rfl,gH,tY.value (u:=y) (by simp [execOp,g1]) ⟨E,fD.refl _ _ _,r,g2⟩⟩
  ·simp [T.leaf] at Z
 case mapUpdate t m k x=>
  obtain⟨u,U,Z⟩:=iy sr h;split at Z
  ·rename_i kv xv hk hx;split at Z
   ·obtain⟨q1,q2,rfl,w',E',g1,g2,g3⟩:=KJ (P:=P) cX r hp U (iF sr hk) (iF sr hx) Z;exact⟨q1,q2,tY.skip (by simp [execOp,g1]) ⟨E',g2,g3,pU⟩⟩
   obtain⟨fH,gH,Z⟩:=sQ hp Z;obtain⟨H,e1,rfl,rfl⟩:=Bg Z;obtain⟨w',g1,g2,g3⟩:=xN cX gH r U (iF sr hk) (iF sr hx) e1;exact⟨rfl,gH,tY.skip (by simp [execOp,g1]) ⟨E,g2,g3,pU⟩⟩
  ·simp [T.leaf] at Z
 case range t x=>
  obtain⟨u,U,Z⟩:=iy sr h;obtain⟨H,e1,rfl⟩:=rH Z;obtain⟨y,w',E',g1,g2,g3,g4⟩:=T4 cX r U e1;exact mr.heap hp (u:=y) (by simp [execOp,g1]) g2 g3 g4
 case next x isS=>
  obtain⟨u,U,Z⟩:=iy sr h;obtain⟨H,e1,rfl⟩:=rH Z;obtain⟨y,w',g1,g2,g3,g4⟩:=Y8 (P:=P) r U e1 type;exact mr.heap hp (u:=y) (by simp [execOp,g1]) g2 g3 g4
 case extract x i=>
  obtain⟨u,U,Z⟩:=iy sr h;split at Z
  ·rename_i vs;obtain⟨e1,rfl⟩:=jB Z;simp only [VR] at U;obtain⟨us,Pz,U⟩:=U;obtain⟨y,g1,g2⟩:=U.nth e1;exact mr.pure hp r (u:=y) (by simp [execOp,Instr.extract,Pz,g1]) g2
  ·simp [T.leaf] at Z
 case call c=>exact Zc cX hc r sr hp rfl h
end
end
section
variable {E:En} {a a1 a2:Act} {s s1 s2:St} {w w1 w2:World} {h:Array Obj} {v:AV} {u:Value} {bC:Tr AV} {d:Option Nat}
section
variable {P:Program}
structure Fit [bN] (E:En) (s:St) (a:Act) (w:World):Prop where
 rel:bV E s.h w
 sr:SR E w.heap s.bC a
 pc:cz E.ρ s.pc
structure oO [bN] (E:En) (s:St) (a:Act) (w:World) (s':St) (a':Act) (w':World):Prop where
 defers:a'.defers=a.defers
 size:a'.tmps.size=a.tmps.size
 step: ∃E',fD E s.h w E' s'.h w'/\Fit E' s' a' w'
theorem oO.refl [bN] (f:Fit E s a w):oO E s a w s a w:=⟨rfl,rfl,E,fD.refl _ _ _,f⟩
theorem SR.du {E':En} {h':Array Obj} (k:lr E h E' h') (sr:SR E h bC a):SR E' h' bC a:=by intro t v ht;obtain⟨u,U,Z⟩:=sr t v ht;exact⟨u,U,VR.du k v u Z⟩
theorem SR.put (sr:SR E h bC a) {d:Nat} (V:d<a.tmps.size) (hv:VR E h v u):SR E h (bC.put d (some v)) (a.put (some d) u):=by
 intro t x ht;rw [Tr.bR] at ht;simp only [Act.put];split at ht
 ·rename_i e
  grind
 ·rename_i e;obtain⟨y,U,Z⟩:=sr t x ht
  grind
theorem SR.at0 (sr:SR E h s.bC a) (V: ∀t,d=some t->t<a.tmps.size) (hv:VR E h v u):SR E h (s.OM d v).bC (a.put d u):=by exact ag8
theorem GI (a:Act) (d:Option Nat) (u:Value):(a.put d u).tmps.size=a.tmps.size:=by cases d<;>simp [Act.put]
theorem put_defers (a:Act) (d:Option Nat) (u:Value):(a.put d u).defers=a.defers:=by cases d<;>rfl
theorem X? (s:St) (d:Option Nat) (v:AV):(s.OM d v).h=s.h:=by cases d<;>rfl
theorem afd (s:St) (d:Option Nat) (v:AV):(s.OM d v).pc=s.pc:=by cases d<;>rfl
theorem KC [bN] {s':St} {w':World} (f:Fit E s a w) (hs:s'.bC=s.bC) (hp:cz E.ρ s'.pc) (h:RG E s w v s' u w') (V: ∀t,d=some t->t<a.tmps.size) :
 oO E s a w (s'.OM d v) (a.put d u) w':=by
 obtain⟨E',U,Z,h3⟩:=h;refine⟨put_defers _ _ _,GI _ _ _,E',by rw [X?]; exact U,⟨by rw [X?]; exact Z,?_,by rw [afd,U.ρ]; exact hp⟩⟩;refine SR.at0 ?_ V h3;rw [hs];exact f.sr.du (U.keeps f.rel)
theorem oO.trans [bN] (U:oO E s a w s1 a1 w1) (Z: ∀E1,fD E s.h w E1 s1.h w1->Fit E1 s1 a1 w1->oO E1 s1 a1 w1 s2 a2 w2):oO E s a w s2 a2 w2:=by obtain⟨d1,z1,E1,IX,f1⟩:=U;obtain⟨d2,z2,E2,NY,f2⟩:=Z E1 IX f1;exact agR
theorem GZ [bN] {α:Type} {ops:Array Oper} {o:Oper} {f:St->Bool->T α} {r:α} (fit:Fit E s a w) (h:(yD ops.toList s o f).leaf E.ρ=some r) :
 ∃fH,cz E.ρ fH/\(f { s with pc:=fH } (Region.wanted o (yielded ops a.tmps))).leaf E.ρ=some r:=by
 unfold yD at h;unfold Region.wanted;split at h
 ·rename_i hg;rw [hg];exact⟨s.pc,fit.pc,h⟩
 ·rename_i j want hg;rw [hg];split at h
  ·rename_i oj hj;rw [dG,avW] at hj;split at h
   ·rename_i d V;split at h
    ·rename_i c hc;obtain⟨u,U,Z⟩:=fit.sr d _ hc;simp only [VR] at Z;subst Z;obtain⟨fH,gH,h3⟩:=dh fit.pc h;refine⟨fH,gH,?_⟩;have:yielded ops a.tmps j=some (c.den E.ρ):=by simp [yielded,hj,V,U]
     simp only [this];simpa using h3
    ·rename_i vs hc;obtain⟨u,U,Z⟩:=fit.sr d _ hc;simp only [VR] at Z;obtain⟨us,rfl,_⟩:=Z;refine⟨s.pc,fit.pc,?_⟩;have:yielded ops a.tmps j=none:=by simp [yielded,hj,V,U]
     simp only [this];simpa using h
    ·simp [T.leaf] at h
   ·simp [T.leaf] at h
  ·simp [T.leaf] at h
def aoK (n:Nat) (ops:List Oper):Bool:=ops.all fun o=>match o.dst with |some d=>d<n|none=>true
theorem HP [bN] {tt:TT} (cX:eS P tt) {call:eT} (hc:iZ P call) {ops:Array Oper} {Q:Exit->Act->World->Prop}: ∀(rest:List Oper) (i:Nat) {E:En} {s s':St} {a:Act} {w:World},ops.toList.drop i=rest->
 (∀o∈rest,∀d,o.dst=some d->d<a.tmps.size)->Fit E s a w->(QF tt call ops.toList rest s).leaf E.ρ=some s'->
 (∀a' w',oO E s a w s' a' w'->Q .normal a' w')->wpOps P ops Q (List.range' i rest.length) a w
 |[],i,E,s,s',a,w,_,_,fit,h,hq=>by have:=bE h;subst this;exact hq a w (oO.refl fit)
 |o::rest,i,E,s,s',a,w,hi,V,fit,h,hq=>by
  simp only [QF] at h;obtain⟨fH,gH,U⟩:=GZ fit h
  have hoi:ops[i]?=some o:=by
   have:=congrArg (·[0]?) hi
   grind
  have ajT:ops.toList.drop (i+1)=rest:=by have:=congrArg List.tail hi;simpa using this
  have Y0:Fit E { s with pc:=fH } a w:=⟨fit.rel,fit.sr,gH⟩;simp only [aT,List.range'_succ];show wpOps P ops Q (i::List.range' (i+1) rest.length) a w;simp only [wpOps,hoi];cases hw:Region.wanted o (yielded ops a.tmps)<;>rw [hw] at U
  ·simp only [aR,if_false] at U ⊢
   have El:oO E s a w (St.OM { s with pc:=fH } o.dst AV.undef) (a.put o.dst undef) w:=
    KC (s':={ s with pc:=fH }) fit rfl gH ⟨E,fD.refl _ _ _,fit.rel,pU⟩ (V o ad)
   obtain⟨d1,z1,E1,IX,f1⟩:=El;refine HP cX hc rest (i+1) ajT (fun o' E4 d N3=>by rw [z1]; exact V o' (by simp [E4]) d N3) f1 (by rw [IX.ρ]; exact U) fun a' w' ht=>?_;exact aib
  ·simp only [if_true] at U ⊢;left;obtain⟨⟨v,s1⟩,Z,h3⟩:=T.fI U;obtain⟨q1,q2,q3⟩:=WK cX hc (o:=o) Y0.rel Y0.sr Y0.pc Z;refine q3 _ _ fun u w1 hu=>?_;have El:oO E s a w (s1.OM o.dst v) (a.put o.dst u) w1:=KC (s:=s) (s':=s1) fit q1 q2 hu (V o ad);obtain⟨d1,z1,E1,IX,f1⟩:=El;refine HP cX hc rest (i+1) ajT (fun o' E4 d N3=>by rw [z1]; exact V o' (by simp [E4]) d N3) f1 (by rw [IX.ρ]; exact h3) fun a' w' ht=>?_;exact aib
def agK [bN] (P:Program) (draw:List Oper->St->T St):Prop:=
 ∀(id:Nat) (ops:Array Oper) (E:En) (s s':St) (a:Act) (w:World) (Q:Exit->Act->World->Prop),(∀o∈ops.toList,∀d,o.dst=some d->d<a.tmps.size)->Fit E s a w->(draw ops.toList s).leaf E.ρ=some s'->
  (∀a' w',oO E s a w s' a' w'->Q .normal a' w')->(Code.region id ops true).wp P Q a w
def yi [bN] (P:Program) (ta:Nat->List Oper->Bool) (draw:Nat->List Oper->St->T St):Prop:=
 ∀(id:Nat) (ops:Array Oper),ta id ops.toList=true->∀(E:En) (s s':St) (a:Act) (w:World) (Q:Exit->Act->World->Prop),(∀o∈ops.toList,∀d,o.dst=some d->d<a.tmps.size)->Fit E s a w->(draw id ops.toList s).leaf E.ρ=some s'->
  (∀a' w',oO E s a w s' a' w'->Q .normal a' w')->(Code.region id ops true).wp P Q a w
def nK (ta:Nat->List Oper->Bool) (n:Nat):Code->Bool
 | .region id ops d=>aoK n ops.toList&&(!d||ta id ops.toList)
 | .seq a b=>nK ta n a&&nK ta n b
 | .cond _ a b=>nK ta n a&&nK ta n b
 | .block _ b=>nK ta n b
 | .loop b=>nK ta n b
 | .scope b=>nK ta n b
 |_=>true
theorem agl {n m:Nat} {ops:List Oper} (h:aoK n ops=true) (hm:n<=m): ∀o∈ops,∀d,o.dst=some d->d<m:=by
 intro o ho d V;unfold aoK at h
 grind
def Ae:Ex->Exit
 | .normal=> .normal
 | .exit id=> .exit id
 | .ret=> .ret
def aoX [bN] (E:En) (s:St) (a:Act) (w:World) (e:Ex) (s':St) (x:Exit) (a':Act) (w':World):Prop:=x=Ae e/\oO E s a w s' a' w'
theorem oO.comp [bN] {E1:En} (d1:a1.defers=a.defers) (z1:a1.tmps.size=a.tmps.size) (IX:fD E s.h w E1 s1.h w1) (Z:oO E1 s1 a1 w1 s2 a2 w2):oO E s a w s2 a2 w2:=by obtain⟨d2,z2,E2,NY,f2⟩:=Z;exact agR
def aet [bN] (P:Program) (c:Code) (n:Nat) (f:St->T (Ex×St)):Prop:=
 ∀(E:En) (s s':St) (e:Ex) (a:Act) (w:World),n<=a.tmps.size->Fit E s a w->(f s).leaf E.ρ=some (e,s')->c.wp P (aoX E s a w e s') a w
theorem HQ {ρ:Nat->Int} {f:St->T (Ex×St)}: ∀(k:Nat) {s s':St} {e:Ex},(xP f k s).leaf ρ=some (e,s')->e≠.normal
 |0,s,s',e,h=>by simp [xP,T.leaf] at h
 |k+1,s,s',e,h=>by
  simp only [xP] at h;obtain⟨⟨e1,s1⟩,U,Z⟩:=T.fI h
  cases e1 with
  |normal=>exact HQ k Z
  |exit id=>have:=bE Z; simp only [an] at this; rw [<- this.1]; simp
  |ret=>have:=bE Z; simp only [an] at this; rw [<- this.1]; simp
theorem KL [bN] {c:Code} {n:Nat} {f:St->T (Ex×St)} (hf:aet P c n f): ∀(k:Nat) {E:En} {s s':St} {e:Ex} {a:Act} {w:World},n<=a.tmps.size->Fit E s a w->(xP f k s).leaf E.ρ=some (e,s')->
 ∀(Q:Exit->Act->World->Prop),(∀a' w',oO E s a w s' a' w'->Q (Ae e) a' w')->e≠.normal/\Code.rounds P c Q k a w
 |0,E,s,s',e,a,w,_,_,h,_,_=>by simp [xP,T.leaf] at h
 |k+1,E,s,s',e,a,w,hn,fit,h,Q,hq=>by
  simp only [xP] at h;obtain⟨⟨e1,s1⟩,U,Z⟩:=T.fI h;have hw:=hf E s s1 e1 a w hn fit U;rw [rounds_succ]
  cases e1 with
  |normal=>
   simp only at Z;constructor
   ·exact HQ k Z
   ·refine wp_mono hw fun x a1 w1 ⟨hx,ht⟩=>?_;subst hx;obtain⟨d1,z1,E1,IX,f1⟩:=ht;exact (KL hf k (by rw [z1]; exact hn) f1 (by rw [IX.ρ]; exact Z) Q fun a' w' ht'=>hq a' w' (ht'.comp d1 z1 IX)).2
  |exit id=> exact aiu
  |ret=> exact aiu
theorem lZ [bN] {tt:TT} (cX:eS P tt) {call:eT} (hc:iZ P call) {draw:Nat->List Oper->St->T St} {ta:Nat->List Oper->Bool} (Dn:yi P ta draw) {lf n:Nat}: ∀(c:Code),nK ta n c=true->aet P c n (jN tt call draw lf c)
 | .skip,_,E,s,s',e,a,w,_,fit,h=>by have:=bE h;simp only [an] at this;obtain⟨rfl,rfl⟩:=this;exact wp_skip ⟨rfl,oO.refl fit⟩
 | .region id ops d,oM,E,s,s',e,a,w,hn,fit,h=>by
   simp only [jN] at h;simp only [nK,aq] at oM;have V:=agl oM.1 hn;cases d
   ·simp only [aR,if_false] at h;obtain⟨s1,U,Z⟩:=T.fI h;have:=bE Z;simp only [an] at this;obtain⟨rfl,rfl⟩:=this;refine wp_region ?_;have:=HP (Q:=aoX E s a w .normal s1) cX hc ops.toList 0 ad V fit U (fun a' w' ht=> ⟨rfl,ht⟩);rw [List.range_eq_range']
    grind
   ·simp only [if_true] at h;obtain⟨s1,U,Z⟩:=T.fI h;have:=bE Z;simp only [an] at this;obtain⟨rfl,rfl⟩:=this;exact Dn id ops (by simpa using oM.2) E s s1 a w _ V fit U (fun a' w' ht=> ⟨rfl,ht⟩)
 | .seq x y,oM,E,s,s',e,a,w,hn,fit,h=>by
   simp only [nK,aq] at oM;simp only [jN] at h;obtain⟨⟨e1,s1⟩,U,Z⟩:=T.fI h;refine wp_seq (wp_mono (lZ cX hc Dn x oM.1 E s s1 e1 a w hn fit U) fun q a1 w1 ⟨hx,ht⟩=>?_);subst hx
   cases e1 with
   |normal=> simp only at Z;obtain⟨d1,z1,E1,IX,f1⟩:=ht;refine wp_mono (lZ cX hc Dn y oM.2 E1 s1 s' e a1 w1 (by rw [z1]; exact hn) f1 (by rw [IX.ρ]; exact Z)) fun q a2 w2 ⟨hx,ht'⟩=>?_;exact⟨hx,ht'.comp d1 z1 IX⟩
   |exit id=> exact aez
   |ret=> exact aez
 | .cond c x y,oM,E,s,s',e,a,w,hn,fit,h=>by
   simp only [nK,aq] at oM;simp only [jN] at h;split at h
   ·rename_i cb hcb;have hv:=iF fit.sr hcb;simp only [VR] at hv;obtain⟨fH,gH,U⟩:=dh fit.pc h;have Y0:Fit E { s with pc:=fH } a w:=⟨fit.rel,fit.sr,gH⟩;refine wp_cond hv ?_;cases RR:cb.den E.ρ<;>rw [RR] at U
    ·simp only [aR,if_false] at U ⊢;exact wp_mono (lZ cX hc Dn y oM.2 E _ s' e a w hn Y0 U) fun q a2 w2 ⟨hx,ht⟩=> ⟨hx,ht.defers,ht.size,ht.step⟩
    ·simp only [if_true] at U ⊢;exact wp_mono (lZ cX hc Dn x oM.1 E _ s' e a w hn Y0 U) fun q a2 w2 ⟨hx,ht⟩=> ⟨hx,ht.defers,ht.size,ht.step⟩
   ·simp [T.leaf] at h
 | .block id b,oM,E,s,s',e,a,w,hn,fit,h=>by
   simp only [nK] at oM;simp only [jN] at h;obtain⟨⟨e1,s1⟩,U,Z⟩:=T.fI h;refine wp_block (wp_mono (lZ cX hc Dn b oM E s s1 e1 a w hn fit U) fun q a1 w1 ⟨hx,ht⟩=>?_);subst hx
   cases e1 with
   |normal=> exact aez
   |exit j=>
    have:=bE Z;simp only [an] at this;obtain⟨rfl,rfl⟩:=this;simp only [Ae,Exit.inBlock];by_cases hj:j=id
    ·rw [ag hj,ag hj]; exact⟨rfl,ht⟩
    ·rw [af hj,af hj]; exact⟨rfl,ht⟩
   |ret=> exact aez
 | .loop b,oM,E,s,s',e,a,w,hn,fit,h=>by simp only [nK] at oM;simp only [jN] at h;exact wp_loop_rounds lf (KL (lZ cX hc Dn b oM) lf hn fit h (aoX E s a w e s') (fun a' w' ht=> ⟨rfl,ht⟩)).2
 | .exit id,_,E,s,s',e,a,w,_,fit,h=>by have:=bE h;simp only [an] at this;obtain⟨rfl,rfl⟩:=this;exact wp_exit ⟨rfl,oO.refl fit⟩
 | .scope b,oM,E,s,s',e,a,w,hn,fit,h=>by simp only [nK] at oM;simp only [jN] at h;refine wp_scope_straight (wp_mono (lZ cX hc Dn b oM E s s' e a w hn fit h) fun q a1 w1 ⟨hx,ht⟩=>?_);subst hx;cases e<;>exact⟨rfl,ht⟩
 | .label l,_,E,s,s',e,a,w,_,fit,h=>by have:=bE h;simp only [an] at this;obtain⟨rfl,rfl⟩:=this;exact wp_label ⟨rfl,oO.refl fit⟩
 | .ret,_,E,s,s',e,a,w,_,fit,h=>by have:=bE h;simp only [an] at this;obtain⟨rfl,rfl⟩:=this;exact wp_ret ⟨rfl,oO.refl fit⟩
 | .rangeFunc _ _ _ _,_,E,s,s',e,a,w,_,fit,h=>by simp [jN,T.leaf] at h
 | .goto _,_,E,s,s',e,a,w,_,fit,h=>by simp [jN,T.leaf] at h
 | .refuse _,_,E,s,s',e,a,w,_,fit,h=>by simp [jN,T.leaf] at h
end
end
section
variable {E:En} {h:Array Obj} {vs:List AV}
section
variable {P:Program}
theorem Px: ∀(args:List AV) (i:Nat) (t:Tr AV) (k:Nat),(cf args i t).get k=if i<=k/\k<i+args.length then args[k-i]? else t.get k
 |[],i,t,k=>by
  have: ¬(i<=k/\k<i+([]:List AV).length):=ad
  rw [af this];rfl
 |v::vs,i,t,k=>by
  simp only [cf,Px vs (i+1),Tr.bR,aT]
  grind
theorem cJ.get {E:En} {h:Array Obj}: ∀{vs:List AV} {us:List Value},cJ E h vs us->∀(i:Nat) (v:AV),vs[i]?=some v->∃u,us[i]?=some u/\VR E h v u
 |[],us,hv,i,v,hi=>by simp at hi
 |x::xs,us,hv,i,v,hi=>by
  cases us with
  |nil=>simp [cJ] at hv
  |cons y ys=>
   simp only [cJ] at hv;obtain⟨u',iI,he,U,Z⟩:=hv;simp only [List.cons.injEq] at he;obtain⟨rfl,rfl⟩:=he
   cases i with
   |zero=>simp at hi; subst hi; exact⟨y,ad,U⟩
   |succ i=>simpa using cJ.get Z i v (by simpa using hi)
theorem BD {args:List AV} {vals:List Value} (hv:cJ E h args vals) (n:Nat) :
 SR E h (cf args 0 .nil) { tmps:=vals.toArray++Array.replicate n undef,defers:=[] }:=by
 intro t v ht;rw [Px] at ht;split at ht
 ·rename_i hk;obtain⟨u,U,Z⟩:=cJ.get hv t v (by simpa using ht)
  grind
 ·simp [Tr.get] at ht
def xm (a:Act):ResultVar->Sem Value
 | .tmp t=>pure (a.tmps.getD t undef)
 | .cell b t=>do loadVar t (<- asAddr (a.tmps.getD b undef))
def CY (vs:List AV):AV:=match vs with |[x]=>x|vs=> .tuple vs
theorem JM (h: ∀v,vs= [v]->False):CY vs= .tuple vs:=by
 unfold CY
 grind
theorem Fo {us:List Value} (g2:cJ E h vs us):VR E h (CY vs) (if h:us.toArray.size=1 then us.toArray[0] else .tuple us.toArray):=by
 cases vs with
 |nil=> simp only [cJ] at g2;subst g2;simp [CY,VR,cJ]
 |cons x xs=>
  cases xs with
  |nil=> simp only [cJ] at g2;obtain⟨u,iI,rfl,U,rfl⟩:=g2;simpa [CY] using U
  |cons x2 xs=>
   have g3:=g2;simp only [cJ] at g2;obtain⟨u,iI,rfl,U,u2,us2,rfl,Z,h3⟩:=g2;have: ¬((u::u2::us2).toArray.size=1):=ad
   rw [dif_neg this];simp only [CY,VR]
   grind
theorem QD [bN] {tt:TT} (cX:eS P tt) {s:St} {a:Act} {w:World} (fit:Fit E s a w) {r:ResultVar} {v:AV} (h:BY tt s r=some v) :
 ∃u,(xm a r).run P w= .ok u w/\VR E w.heap v u:=by
 cases r with
 |tmp t=> simp only [BY] at h;obtain⟨u,U,Z⟩:=fit.sr t v h;exact⟨u,by simp [xm,U,awq],Z⟩
 |cell b t=>
  simp only [BY] at h;split at h
  ·rename_i p hp;obtain⟨u,U,Z⟩:=fit.sr b p hp;obtain⟨x,bb,o,rfl,h3,h4⟩:=Dv cX fit.rel Z h;exact⟨x,by simp [xm,U,awq,asAddr,h3],h4⟩
  grind
theorem vF [bN] {tt:TT} (cX:eS P tt) {E:En} {s:St} {a:Act} {w:World} (fit:Fit E s a w): ∀{rs:List ResultVar} {vs:List AV},lY tt s rs=some vs->
 ∃us,(rs.mapM (xm a)).run P w= .ok us w/\cJ E w.heap vs us
 |[],vs,h=>by simp [lY] at h;subst h;exact⟨[],ad,by simp [cJ]⟩
 |r::rs,vs,h=>by
  simp only [lY] at h;split at h
  ·grind
  ·rename_i v hv;split at h
   ·grind
   ·rename_i RI RN;simp at h;subst h;obtain⟨u,U,Z⟩:=QD cX fit hv;obtain⟨us,h3,h4⟩:=vF cX fit RN;refine⟨u::us,?_,by simp only [cJ]; exact⟨u,us,rfl,Z,h4⟩⟩;rw [awM];simp [Sem.run_bind,U,h3]
def ZK (P:Program) (ta:Nat->Nat->List Oper->Bool) (ft:Nat->Option Func):Prop:= ∀g fn,ft g=some fn->P.funcs[g]?=some fn/\(fn.name == "runtime.NumGoroutine")=false/\∀c,fn.body=some c->nK (ta g) fn.ntmps c=true
theorem B2 [bN] {tt:TT} (cX:eS P tt) {ta:Nat->Nat->List Oper->Bool} {ft:Nat->Option Func} (hft:ZK P ta ft) {hook:Nat->Option (List AV->St->T (AV×St))} (hh: ∀g h,hook g=some h->ly P g h)
 {draw:eT->Nat->Nat->List Oper->St->T St} (Dn: ∀call,iZ P call->∀g,yi P (ta g) (draw call g)) (lf:Nat): ∀(n:Nat),iZ P (MK tt ft hook draw lf n)
 |0=>by intro g args s E w vals v s' _ _ _ h;simp [MK,T.leaf] at h
 |n+1=>by
  have ih:=B2 cX hft hh Dn lf n;intro g args s E w vals v s' r hv hp h;simp only [MK] at h;split at h
  ·rename_i f hf;exact hh g f hf args s E w vals v s' r hv hp h
  ·split at h
   ·simp [T.leaf] at h
   ·rename_i fn wJ;obtain⟨hf,mD,oM⟩:=hft g fn wJ;split at h
    ·simp [T.leaf] at h
    ·rename_i c hb;obtain⟨⟨e,s1⟩,U,Z⟩:=T.fI h
     have fit:Fit E { s with bC:=cf args 0 .nil } { tmps:=vals.toArray++Array.replicate (fn.ntmps-vals.toArray.size) undef,defers:=[] } w:=
      ⟨r,BD hv _,hp⟩
     have hwp:=lZ cX ih (Dn _ ih g) (lf:=lf) c (oM c hb) E _ s1 e _ w (by simp; omega) fit U
     have auF: ∃vs,lY tt s1 fn.results.toList=some vs/\(e= .normal\/e= .ret)/\s'= { s1 with bC:=s.bC }/\v=CY vs:=by
      cases e with
      |exit id=>simp [T.leaf] at Z
      |normal=>
       simp only at Z;split at Z
       ·rename_i x hx;have:=bE Z;simp only [an] at this;exact⟨_,hx,.inl rfl,this.2.symm,this.1.symm⟩
       ·rename_i vs hn hx;have:=bE Z;simp only [an] at this;refine⟨_,hx,.inl rfl,this.2.symm,?_⟩;rw [<- this.1];exact (JM hn).symm
       ·simp [T.leaf] at Z
      |ret=>
       simp only at Z;split at Z
       ·rename_i x hx;have:=bE Z;simp only [an] at this;exact⟨_,hx,.inr rfl,this.2.symm,this.1.symm⟩
       ·rename_i vs hn hx;have:=bE Z;simp only [an] at this;refine⟨_,hx,.inr rfl,this.2.symm,?_⟩;rw [<- this.1];exact (JM hn).symm
       ·simp [T.leaf] at Z
     obtain⟨vs,hr,he,rfl,rfl⟩:=auF
     have hpc:cz E.ρ s1.pc:=by
      obtain⟨_,_,_,⟨_,ht⟩,_⟩:=hwp default [] [];obtain⟨E1,IX,f1⟩:=ht.step;have:=f1.pc;rw [IX.ρ] at this
      grind
     refine⟨rfl,hpc,?_⟩
     have au1:Calls P g vals.toArray w fun e w''=> ∃u,e= .returned u/\RG E s w (CY vs) { s1 with bC:=s.bC } u w'':=by
      refine calls_of_wp hf hb (wp_mono hwp fun x a1 w1 ⟨hx,ht⟩=>?_);subst hx;obtain⟨d1,z1,E1,IX,f1⟩:=ht;obtain⟨us,g1,g2⟩:=vF cX f1 hr
      have: ∃u,(results fn a1.tmps).run P w1= .ok u w1/\VR E1 w1.heap (CY vs) u:=by
       refine⟨if h:us.toArray.size=1 then us.toArray[0] else .tuple us.toArray,?_,?_⟩
       ·have hm:(fn.results.mapM (xm a1)).run P w1= .ok us.toArray w1:=by
         exact apY
        have wC:results fn a1.tmps=(do let vs <- fn.results.mapM (xm a1); pure (if h:vs.size=1 then vs[0] else .tuple vs)):=rfl;rw [wC];simp only [Sem.run_bind,hm];rfl
       ·exact Fo g2
      obtain⟨u,g3,g4⟩:=this;rcases he with rfl|rfl
      ·exact⟨d1,u,g3,u,rfl,E1,IX,f1.rel,g4⟩
      ·exact⟨d1,u,g3,u,rfl,E1,IX,f1.rel,g4⟩
     have mY:(callFunc g vals.toArray).run P w= .ok (.enter g vals.toArray) w:=by unfold callFunc;simp [hf,hb,by simpa using mD]
     unfold mO qn
     grind
end
end
section
variable {H1 XN:Hp}
def Tr.over {α:Type}:Tr α->Tr α->Tr α
 | .nil,b=>b
 | .node v l r,b=> .node (match v with |some x=>some x|none=>b.val) (Tr.over l b.left) (Tr.over r b.right)
def Tr.minus {α:Type}:Tr α->Tr α->Tr α
 | .nil,b=>b
 | .node v l r,b=> .node (match v with |some _=>none|none=>b.val) (Tr.minus l b.left) (Tr.minus r b.right)
theorem Tr.HE {α:Type}: ∀(a b:Tr α) (k:Nat),(Tr.over a b).get k=match a.get k with |some x=>some x|none=>b.get k
 | .nil,b,k=>by simp [Tr.over,Tr.get]
 | .node v l r,b,k=>by
   simp only [Tr.over];rw [Tr.qc,Tr.qc,Tr.yM b k];by_cases h0:k=0
   ·grind
   ·simp only [af h0];by_cases U:(k-1) % 2=0
    ·simp only [ag U]; exact Tr.HE l b.left _
    ·simp only [af U]; exact Tr.HE r b.right _
theorem Tr.Dt {α:Type}: ∀(a b:Tr α) (k:Nat),(Tr.minus a b).get k=match a.get k with |some _=>none|none=>b.get k
 | .nil,b,k=>by simp [Tr.minus,Tr.get]
 | .node v l r,b,k=>by
   simp only [Tr.minus];rw [Tr.qc,Tr.qc,Tr.yM b k];by_cases h0:k=0
   ·grind
   ·simp only [af h0];by_cases U:(k-1) % 2=0
    ·simp only [ag U]; exact Tr.Dt l b.left _
    ·simp only [af U]; exact Tr.Dt r b.right _
structure Xt (E:En) (H:Hp) (w:World) (E':En) (H':Hp) (w':World):Prop where
 ρ:E'.ρ=E.ρ
 dm: ∀id,E.dm id->E'.dm id
 θ: ∀id,E.dm id->E'.θ id=E.θ id
 κ: ∀id,E.dm id->E'.κ id=E.κ id
 ro: ∀b,E.ro b->E'.ro b
 D0: ∀b,E'.ro b->E.ro b\/(∃id o,H.get id=some o/\(E.θ id).1=b)\/w.heap.size<=b
 os:w'.os=w.os
 tape:w'.tape=w.tape
 output:w'.output=w.output
 size:w.heap.size<=w'.heap.size
 du: ∀b,b<w.heap.size->(∀id o,H.get id=some o->(E.θ id).1≠b)->w'.heap[b]?=w.heap[b]?
 own: ∀id o,H'.get id=some o->(E'.θ id).1<w.heap.size->∃AR o0,H.get AR=some o0/\(E.θ AR).1=(E'.θ id).1
section
variable {E E' E'':En} {H H' H'':Hp} {w w' w'':World}
theorem fD.atI (s:fD E H w E' H' w'):Xt E H w E' H' w':=⟨s.ρ,s.dm,s.θ,s.κ,s.ro,s.D0,s.os,s.tape,s.output,s.size,s.du,s.own⟩
theorem Xt.W_ (s:Xt E H w E' H' w') (U:H.next<=H'.next) (Z:H'.res=none) (h3: ∀id,E'.dm id->E.dm id\/(H.next<=id/\id<H'.next)):fD E H w E' H' w':=
 ⟨s.ρ,s.dm,s.θ,s.κ,s.ro,s.D0,U,.inl Z,fun id h=>(h3 id h).elim .inl fun h=> .inr (.inl h),s.os,s.tape,s.output,s.size,s.du,s.own⟩
theorem Xt.trans (a:Xt E H w E' H' w') (b:Xt E' H' w' E'' H'' w''):Xt E H w E'' H'' w'' where
 ρ:=b.ρ.trans a.ρ
 dm:=fun id h=>b.dm id (a.dm id h)
 θ:=fun id h=>(b.θ id (a.dm id h)).trans (a.θ id h)
 κ:=fun id h=>(b.κ id (a.dm id h)).trans (a.κ id h)
 ro:=fun x h=>b.ro x (a.ro x h)
 D0:=fun x h=>by
  rcases b.D0 x h with h|⟨id,o,U,Z⟩|h
  ·exact a.D0 x h
  ·rcases aX x w.heap.size with hx|hx
   ·obtain⟨AR,o0,h3,h4⟩:=a.own id o U (by rw [Z]; exact hx);exact .inr (.inl ⟨AR,o0,h3,h4.trans Z⟩)
   ·exact .inr (.inr hx)
  ·exact .inr (.inr (br a.size h))
 os:=b.os.trans a.os
 tape:=b.tape.trans a.tape
 output:=b.output.trans a.output
 size:=br a.size b.size
 du:=fun x hx hn=>by rw [b.du x (awi hx a.size) ?_,a.du x hx hn];intro id o ho he;obtain⟨AR,o0,h0,he0⟩:=a.own id o ho (by rw [he]; exact hx);exact hn AR o0 h0 (he0.trans he)
 own:=fun id o ho gB=>by obtain⟨id1,o1,U,TD⟩:=b.own id o ho (awi gB a.size);obtain⟨AR,o0,h0,he0⟩:=a.own id1 o1 U (by rw [TD]; exact gB);exact⟨AR,o0,h0,he0.trans TD⟩
theorem Xt.keeps [bN] (s:Xt E H w E' H' w') (r:bV E H w):lr E w.heap E' w'.heap:=
 ⟨s.ρ,s.dm,s.θ,s.κ,s.ro,fun b hb=>s.du b (r.xl b hb) fun id o ho he=>(r.live id o ho).2.2 (by rw [he]; exact hb)⟩
theorem bV.part [bN] (r:bV E H w) (sub: ∀id o,H1.get id=some o->H.get id=some o) (hn:H.next<=H1.next) (hr: ∀q,H1.res=some q->q<H1.next/\¬E.dm q):bV E H1 w:=
 ⟨fun id h=>r.fresh id (br hn h),hr,fun id o h=>r.live id o (sub id o h),fun i j o o' h h' e=>r.inj i j o o' (sub _ _ h) (sub _ _ h') e,r.xl,r.mI⟩
theorem abF [bN] (r:bV E H w) (sub: ∀id o,H1.get id=some o->H.get id=some o) (st:fD E H1 w E' XN w') (r':bV E' XN w') (n:Nat) (hn: ∀id,n<=id->¬E'.dm id) :
 ∃H':Hp,H'=⟨Tr.over XN.m (Tr.minus H1.m H.m),n,none⟩/\(∀id o,XN.get id=some o->H'.get id=some o)/\(∀id o,H.get id=some o->H1.get id=none->H'.get id=some o)/\bV E' H' w'/\Xt E H w E' H' w':=by
 have arV: ∀id o,H.get id=some o->H1.get id=none->XN.get id=none:=by
  intro id o h U
  cases Z:XN.get id with
  |none=>rfl
  |some o'=>
   exfalso;have V:=(r.live id o h).1;have hθ:=st.θ id V;obtain⟨AR,o0,g1,g2⟩:=st.own id o' Z (by rw [hθ]; exact iz r h);have:=r.inj AR id o0 o (sub _ _ g1) h (by rw [g2,hθ])
   grind
 have zk: ∀id,(⟨Tr.over XN.m (Tr.minus H1.m H.m),n,none⟩ : Hp).get id=match XN.get id with |some x=>some x|none=>match H1.get id with |some _=>none|none=>H.get id:=by
  intro id;simp only [Hp.get,Tr.HE,Tr.Dt]
  grind
 have zK: ∀id o,(⟨Tr.over XN.m (Tr.minus H1.m H.m),n,none⟩ : Hp).get id=some o->XN.get id=some o\/(XN.get id=none/\H1.get id=none/\H.get id=some o):=by
  intro id o h
  grind
 have wb: ∀id o,H1.get id=none->H.get id=some o->w'.heap[(E.θ id).1]?=w.heap[(E.θ id).1]?:=by
  intro id o U h;refine st.du _ (iz r h) fun AR o0 h0 he=>?_;have:=r.inj AR id o0 o (sub _ _ h0) h he
  grind
 have k:lr E w.heap E' w'.heap:=⟨st.ρ,st.dm,st.θ,st.κ,st.ro,fun b hb=>st.du b (r.xl b hb) fun id o ho he=>(r.live id o (sub _ _ ho)).2.2 (by rw [he]; exact hb)⟩;refine⟨_,rfl,fun id o h=>by rw [zk,h],fun id o h U=>by rw [zk,arV id o h U,U]; exact h,⟨hn,ad,?_,?_,r'.xl,r'.mI⟩,⟨st.ρ,st.dm,st.θ,st.κ,st.ro,fun b hb=>(st.D0 b hb).imp id (Or.imp (fun⟨i,o,U,Z⟩=> ⟨i,o,sub _ _ U,Z⟩) id),st.os,st.tape,st.output,st.size,?_,?_⟩⟩
 ·intro id o h;rcases zK id o h with U|⟨U,Z,h3⟩
  ·exact r'.live id o U
  ·obtain⟨g1,g2,g3⟩:=r.live id o h3;refine⟨st.dm id g1,g2.du k g1 (wb id o Z h3),?_⟩;rw [st.θ id g1];intro hr;rcases st.D0 _ hr with hr|⟨AR,o0,f1,f2⟩|hr
   ·grind
   ·have:=r.inj AR id o0 o (sub _ _ f1) h3 f2
    grind
   grind [iz]
 ·intro i j o o' h h' he;rcases zK i o h with U|⟨U,Z,h3⟩ <;>rcases zK j o' h' with g1|⟨g1,g2,g3⟩
  ·exact r'.inj i j o o' U g1 he
  ·exfalso;rw [st.θ j (r.live j o' g3).1] at he;obtain⟨AR,o0,f1,f2⟩:=st.own i o U (by rw [he]; exact iz r g3);have:=r.inj AR j o0 o' (sub _ _ f1) g3 (f2.trans he)
   grind
  ·exfalso;rw [st.θ i (r.live i o h3).1] at he;obtain⟨AR,o0,f1,f2⟩:=st.own j o' g1 (by rw [<- he]; exact iz r h3);have:=r.inj AR i o0 o (sub _ _ f1) h3 (f2.trans he.symm)
   grind
  ·rw [st.θ i (r.live i o h3).1,st.θ j (r.live j o' g3).1] at he;exact r.inj i j o o' h3 g3 he
 ·intro b hb wE;exact st.du b hb fun id o h=>wE id o (sub _ _ h)
 ·intro id o h gB;rcases zK id o h with U|⟨U,Z,h3⟩
  ·obtain⟨AR,o0,f1,f2⟩:=st.own id o U gB
   grind
  ·exact⟨id,o,h3,by rw [st.θ id (r.live id o h3).1]⟩
theorem frame [bN] (r:bV E H w) (sub: ∀id o,H1.get id=some o->H.get id=some o) (st:fD E H1 w E' XN w') (r':bV E' XN w') (n:Nat) (hn: ∀id,n<=id->¬E'.dm id) :
 ∃H':Hp,H'.next=n/\H'.res=none/\(∀id o,XN.get id=some o->H'.get id=some o)/\(∀id o,H.get id=some o->H1.get id=none->H'.get id=some o)/\bV E' H' w'/\Xt E H w E' H' w':=by
 obtain⟨H',h0,U,Z,h3,h4⟩:=abF r sub st r' n hn
 grind
end
end
section
variable {a a0:Act} {E0:En} {w0 w:World} {i t:Nat} {Q:Exit->Act->World->Prop} {o:Oper} {K:Act->World->Prop} {u:Value} {s0:St}
section
variable {P:Program}
def IM [bN] (P:Program) (ρ:Nat->Int) (ops:Array Oper) (o:Oper) (S:Tr AV) (H:Hp) (v:AV) (H':Hp):Prop:=
 ∀(E:En) (a:Act) (w:World),E.ρ=ρ->bV E H w->SR E w.heap S a->
  (Region.wanted o (yielded ops a.tmps)=false/\v=AV.undef/\H'=H)\/
  (Region.wanted o (yielded ops a.tmps)=true/\tY P o a w (fun u w'=> ∃E',fD E H w E' H' w'/\bV E' H' w'/\VR E' w'.heap v u))
theorem IM.wpOp [bN] {ρ:Nat->Int} {ops:Array Oper} {S:Tr AV} {H H':Hp} {v:AV} (h:IM P ρ ops o S H v H') {E:En} (hρ:E.ρ=ρ) (r:bV E H w) (sr:SR E w.heap S a) (ho:ops[i]?=some o)
 (hk: ∀(u:Value) (E':En) (w':World),fD E H w E' H' w'->bV E' H' w'->VR E' w'.heap v u->K (a.put o.dst u) w'):wpOp P ops Q i K a w:=by
 unfold Go.wpOp;simp only [ho];rcases h E a w hρ r sr with ⟨U,rfl,rfl⟩|⟨U,Z⟩
 ·rw [U];simp only [aR,if_false];exact hk undef E w (fD.refl _ _ _) r pU
 ·rw [U];simp only [if_true];exact .inl (Z _ _ fun u w' ⟨E',q1,q2,q3⟩=>hk u E' w' q1 q2 q3)
inductive Kind where
 |pa
 |e
 |r
 deriving DecidableEq
structure II [bN] (P:Program) (ρ:Nat->Int) (ops:Array Oper) (rC:Tr AV) (H0:Hp) where
 base:Nat
 bf:Nat->Nat->Bool
 kd:Nat->Kind
 S:Nat->Tr AV
 val:Nat->AV
 st:Nat->Nat
 nE:Nat
 hp:Nat->Hp
 un:Nat->Nat->Bool
 oN:Nat->Option eN
 gen: ∀i j,bf i j=true->∃(o:Oper) (e:Edge),ops[j]?=some o/\e∈o.after/\Region.binds .any e=true/\(e.on=i\/bf i e.on=true)
 back: ∀(j:Nat) (o:Oper),ops[j]?=some o->∀e∈o.after,Region.binds .any e=true->e.on<j
 dst: ∀(i j:Nat) (oi oj:Oper) (d:Nat),ops[i]?=some oi->ops[j]?=some oj->oi.dst=some d->oj.dst=some d->i=j
 bC: ∀(i:Nat) (o:Oper),ops[i]?=some o->∀t x,(S i).get t=some x->(∃(j:Nat) (oj:Oper),bf j i=true/\ops[j]?=some oj/\oj.dst=some t/\val j=x)\/(rC.get t=some x/\∀(j:Nat) (oj:Oper),ops[j]?=some oj->oj.dst=some t->bf i j=true)
 stl: ∀(j:Nat) (o:Oper),ops[j]?=some o->kd j= .e->st j<nE
 inj: ∀i j,kd i= .e->kd j= .e->st i=st j->i=j
 aqJ: ∀(j:Nat) (o:Oper),ops[j]?=some o->kd j= .e->∀m,m<st j->∃i,kd i= .e/\st i=m/\bf i j=true
 pa: ∀(i:Nat) (o:Oper),ops[i]?=some o->kd i= .pa->∃HA N,IM P ρ ops o (S i) ⟨.nil,N,some (base+i)⟩ (val i) HA/\HA.next=N/\oN i=HA.get (base+i)/\∀k,k<=nE->(hp k).next<=N
 ev: ∀(j:Nat) (o:Oper),ops[j]?=some o->kd j= .e->∃Of,IM P ρ ops o (S j) Of (val j) (hp (st j+1))/\Of.next=(hp (st j)).next/\Of.res=none/\
  (∀id x,Of.get id=some x->(hp (st j)).get id=some x\/∃a,bf a j=true/\un (st j) a=true/\id=base+a/\oN a=some x)/\
  (∀a,un (st j+1) a=true->un (st j) a=true/\bf a j=false)
 rd: ∀(i:Nat) (o:Oper),ops[i]?=some o->kd i= .r->∀k,k<=nE->(∀j,kd j= .e->bf j i=true->st j<k)->(∀(j:Nat) (oj:Oper),ops[j]?=some oj->kd j= .e->bf i j=true->k<=st j)->
  ∃Of,IM P ρ ops o (S i) Of (val i) Of/\Of.next=(hp k).next/\Of.res=none/\
   (∀id x,Of.get id=some x->(hp k).get id=some x\/∃a,bf a i=true/\un k a=true/\id=base+a/\oN a=some x)
 unm: ∀k a x,k<=nE->oN a=some x->un k a=true->(hp k).get (base+a)=none
 nob: ∀i,kd i≠.pa->oN i=none
 first:base=H0.next/\base+ops.size<=(hp 0).next/\∀id x,(hp 0).get id=some x->H0.get id=some x
section
variable {gl:bN} {ρ:Nat->Int} {ops:Array Oper} {rC:Tr AV} {H0:Hp} (p:II P ρ ops rC H0)
structure II.Inv (E0:En) (a0:Act) (w0:World) (L:Nat->Prop) (a:Act) (w:World):Prop where
 defers:a.defers=a0.defers
 size:a.tmps.size=a0.tmps.size
 closed: ∀i j,p.bf i j=true->L j->L i
 ex: ∃(E:En) (Hc:Hp) (k:Nat),k<=p.nE/\(∀(j:Nat) (o:Oper),ops[j]?=some o->p.kd j= .e->(L j↔p.st j<k))/\E.ρ=ρ/\Xt E0 H0 w0 E Hc w/\bV E Hc w/\Hc.next=(p.hp k).next/\Hc.res=none/\
  p.base+ops.size<=Hc.next/\(∀id,E.dm id->E0.dm id\/H0.next<=id)/\(∀(i:Nat) (o:Oper),ops[i]?=some o->¬L i->¬E.dm (p.base+i))/\
  (∀id x,(p.hp k).get id=some x->Hc.get id=some x)/\(∀b x,L b->p.un k b=true->p.oN b=some x->Hc.get (p.base+b)=some x)/\
  (∀t x,rC.get t=some x->(∀(j:Nat) (oj:Oper),ops[j]?=some oj->oj.dst=some t->¬L j)->∃u,a.tmps[t]?=some u/\VR E w.heap x u)/\
  (∀(j:Nat) (oj:Oper) (t:Nat),L j->ops[j]?=some oj->oj.dst=some t->∃u,a.tmps[t]?=some u/\VR E w.heap (p.val j) u)
theorem GJ {d:Option Nat} (h:d≠some t):(a.put d u).tmps[t]?=a.tmps[t]?:=by
 cases d with
 |none=>rfl
 |some x=>
  simp only [Act.put]
  grind
theorem afm (h:t<a.tmps.size):(a.put (some t) u).tmps[t]?=some u:=by simp [Act.put,h]
theorem II.asY: ∀(j i:Nat),p.bf i j=true->i<j/\j<ops.size:=by
 intro j
 induction j using Nat.strongRecOn with
 |_ j ih=>
  intro i h;obtain⟨o,e,g1,g2,g3,g4⟩:=p.gen i j h;have gB:=p.back j o g1 e g2 g3
  grind
theorem II.alu {j:Nat} (h:p.bf i j=true): ∃o:Oper,ops[i]?=some o:=by have:=p.asY j i h;exact⟨ops[i]'J,ad⟩
theorem II.step {L:Nat->Prop} (V: ∀o∈ops.toList,∀d,o.dst=some d->d<a0.tmps.size) (inv:p.Inv E0 a0 w0 L a w) (ho:ops[i]?=some o) (hL: ¬L i)
 (hr: ∀e∈o.after,Region.binds .any e=true->L e.on) (hk: ∀a' w',p.Inv E0 a0 w0 (fun j=>j=i\/L j) a' w'->K a' w'):wpOp P ops Q i K a w:=by
 obtain⟨U,Z,Cs,E,Hc,k,hkn,FB,hρ,RJ,rel,hnx,wC,jw,BJ,hun,hhp,oK,zH,hs1⟩:=inv
 have hbf: ∀j,p.bf j i=true->L j:=by
  intro j hj;obtain⟨o',e,g1,g2,g3,g4⟩:=p.gen j i hj;rw [ho] at g1;simp at g1;subst g1;have:=hr e g2 g3;rcases g4 with rfl|g4
  ·exact this
  ·exact Cs j e.on g4 this
 have hii:p.bf i i≠true:=fun h=>hL (hbf i h);have tZ:i<ops.size:=(awc.1 ho).1
 have sr:SR E w.heap (p.S i) a:=by
  intro t x ht;rcases p.bC i o ho t x ht with ⟨j,oj,g1,g2,g3,g4⟩|⟨g1,g2⟩
  ·subst g4;exact hs1 j oj t (hbf j g1) g2 g3
  ·exact zH t x g1 fun j oj hj hjt hLj=>hL (Cs i j (g2 j oj hj hjt) hLj)
 have Mk: ∀x j,p.bf x j=true->(j=i\/L j)->(x=i\/L x):=by
  intro x j hx hj;rcases hj with rfl|hj
  ·exact .inr (hbf x hx)
  ·exact .inr (Cs x j hx hj)
 have fin: ∀(u:Value) (E':En) (R4:Hp) (w':World) (k':Nat),Xt E Hc w E' R4 w'->bV E' R4 w'->VR E' w'.heap (p.val i) u->k'<=p.nE->(∀(j:Nat) (o:Oper),ops[j]?=some o->p.kd j= .e->((j=i\/L j)↔p.st j<k'))->
  R4.next=(p.hp k').next->R4.res=none->Hc.next<=R4.next->(∀id,E'.dm id->E.dm id\/Hc.next<=id\/id=p.base+i)->(∀id x,(p.hp k').get id=some x->R4.get id=some x)->
  (∀b x,(b=i\/L b)->p.un k' b=true->p.oN b=some x->R4.get (p.base+b)=some x)->K (a.put o.dst u) w':=by
  intro u E' R4 w' k' q1 q2 q3 q4 q5 q6 q7 q8 q9 q10 q11;have kp:=q1.keeps rel;refine hk _ _ ⟨by rw [As.put_defers]; exact U,by rw [GI]; exact Z,Mk,E',R4,k',q4,q5,q1.ρ.trans hρ,RJ.trans q1,q2,q6,q7,br jw q8,?_,?_,q10,q11,?_,?_⟩
  ·intro id h;rcases q9 id h with h|h|h
   ·exact BJ id h
   ·right;have:=p.first.1;omega
   ·right;have:=p.first.1;omega
  ·intro j oj hj hn hdj;have hj2:=(awc.1 hj).1;rcases q9 _ hdj with h|h|h
   ·exact hun j oj hj (fun h'=>hn (.inr h')) h
   ·omega
   ·exact hn (.inl J)
  ·intro t x ht wE;obtain⟨y,g1,g2⟩:=zH t x ht fun j oj hj hjt h'=>wE j oj hj hjt (.inr h');exact⟨y,by rw [GJ (fun e=>wE i o ho e (.inl rfl))]; exact g1,VR.du kp _ _ g2⟩
  ·intro j oj t hj rk ht;by_cases hji:j=i
   ·subst hji;rw [ho] at rk;simp at rk;subst rk;rw [ht];exact⟨u,afm (by rw [Z]; exact V o (Array.mem_toList_iff.2 (axs ho)) t ht),q3⟩
   ·obtain⟨y,g1,g2⟩:=hs1 j oj t (hj.resolve_left hji) rk ht;refine⟨y,?_,VR.du kp _ _ g2⟩;rw [GJ]
    ·exact g1
    ·intro h;exact hji (p.dst j i oj o t rk ho ht h)
 cases tz:p.kd i with
 |pa=>
  obtain⟨HA,N,g1,g2,g3,g4⟩:=p.pa i o ho tz;have hN:=g4 k hkn;have auA:=hun i o ho hL
  have r1:bV E ⟨.nil,N,some (p.base+i)⟩ w:=rel.part (by intro id x h; simp [Hp.get,Tr.get] at h) (by show Hc.next<=N; omega) (by
   intro q hq;simp at hq;subst hq
   exact⟨by show p.base+i<N; omega,auA⟩)
  refine g1.wpOp hρ r1 sr ho fun u E' w' st r' hv=>?_
  have hdn: ∀id,E'.dm id->E.dm id\/id=p.base+i:=by
   intro id h;rcases st.dmn id h with h|h|h
   ·exact .inl h
   ·have h':N<=id/\id<HA.next:=h;omega
   ·have h':some (p.base+i)=some id:=h;simp at h';exact .inr h'.symm
  obtain⟨R4,f1,f2,f3,f4,f5,f6⟩:=frame rel (by intro id x h; simp [Hp.get,Tr.get] at h) st r' Hc.next (fun id hid h=>by
   rcases hdn id h with h|h
   ·exact rel.fresh id hid h
   ·omega)
  refine fin u E' R4 w' k f6 f5 hv hkn ?_ (by rw [f1,hnx]) f2 J (fun id h=>(hdn id h).elim .inl fun h=> .inr (.inr h)) ?_ ?_
  ·intro j oj rk hj;rw [<- FB j oj rk hj];constructor
   ·intro h;rcases h with rfl|h
    ·rw [tz] at hj; simp at hj
    ·exact h
   ·exact .inr
  ·intro id x h;exact f4 id x (hhp id x h) (by simp [Hp.get,Tr.get])
  ·intro b x hb hu hx;by_cases hbi:b=i
   ·subst hbi;rw [hx] at g3;exact f3 _ _ g3.symm
   ·exact f4 _ x (oK b x (hb.resolve_left hbi) hu hx) (by simp [Hp.get,Tr.get])
 |e=>
  obtain⟨Of,g1,g2,g3,g4,g5⟩:=p.ev i o ho tz
  have YQ:k<=p.st i:=by
   rcases aX (p.st i) k with h|h
   ·exact absurd ((FB i o ho tz).2 h) hL
   ·exact h
  have hsk:p.st i=k:=by
   rcases aX k (p.st i) with h|h
   ·obtain⟨j,e1,e2,e3⟩:=p.aqJ i o ho tz k h;have hj:=hbf j e3;obtain⟨oj,rk⟩:=p.alu e3;have:=(FB j oj rk e1).1 hj;omega
   ·omega
  rw [hsk] at g1 g2 g4 g5;have hkE:=p.stl i o ho tz
  have rM: ∀id x,Of.get id=some x->Hc.get id=some x:=by
   intro id x h;rcases g4 id x h with h|⟨b,e1,e2,rfl,e4⟩
   ·exact hhp id x h
   ·exact oK b x (hbf b e1) e2 e4
  have r1:bV E Of w:=rel.part rM J (by rw [g3]; simp);refine g1.wpOp hρ r1 sr ho fun u E' w' st r' hv=>?_
  have hdn: ∀id,E'.dm id->E.dm id\/Hc.next<=id:=by
   intro id h;rcases st.dmn id h with h|h|h
   ·exact .inl h
   ·right; omega
   ·rw [g3] at h; simp at h
  obtain⟨R4,f1,f2,f3,f4,f5,f6⟩:=frame rel rM st r' (p.hp (k+1)).next (fun id hid h=>r'.fresh id hid h)
  have avA:=st.nxm;refine fin u E' R4 w' (k+1) f6 f5 hv J ?_ f1 f2 J (fun id h=>(hdn id h).elim .inl fun h=> .inr (.inl h)) f3 ?_
  ·intro j oj rk hj;constructor
   ·intro h;rcases h with rfl|h
    ·omega
    ·have:=(FB j oj rk hj).1 h;omega
   ·intro h;rcases aX (p.st j) k with h'|h'
    ·exact .inr ((FB j oj rk hj).2 h')
    ·exact .inl (p.inj j i hj tz J)
  ·intro b x hb hu hx;obtain⟨e1,e2⟩:=g5 b hu;by_cases hbi:b=i
   ·subst hbi;rw [p.nob b (by rw [tz]; simp)] at hx;simp at hx
   ·refine f4 _ x (oK b x (hb.resolve_left hbi) e1 hx) ?_
    cases hy:Of.get (p.base+b) with
    |none=>rfl
    |some y=>
     exfalso;rcases g4 _ y hy with h|⟨c,c1,c2,c3,c4⟩
     ·rw [p.unm k b x hkn hx e1] at h;simp at h
     ·have:c=b:=J
      subst this;rw [e2] at c1;simp at c1
 |r=>
  have hk1: ∀j,p.kd j= .e->p.bf j i=true->p.st j<k:=by intro j hj hb;obtain⟨oj,rk⟩:=p.alu hb;exact (FB j oj rk hj).1 (hbf j hb)
  have IN: ∀(j:Nat) (oj:Oper),ops[j]?=some oj->p.kd j= .e->p.bf i j=true->k<=p.st j:=by
   intro j oj rk hj hb;rcases aX (p.st j) k with h|h
   ·exact absurd (Cs i j hb ((FB j oj rk hj).2 h)) hL
   ·exact h
  obtain⟨Of,g1,g2,g3,g4⟩:=p.rd i o ho tz k hkn hk1 IN
  have rM: ∀id x,Of.get id=some x->Hc.get id=some x:=by
   intro id x h;rcases g4 id x h with h|⟨b,e1,e2,rfl,e4⟩
   ·exact hhp id x h
   ·exact oK b x (hbf b e1) e2 e4
  have r1:bV E Of w:=rel.part rM J (by rw [g3]; simp);refine g1.wpOp hρ r1 sr ho fun u E' w' st r' hv=>?_
  have hdn: ∀id,E'.dm id->E.dm id:=by
   intro id h;rcases st.dmn id h with h|h|h
   ·exact h
   ·omega
   ·rw [g3] at h; simp at h
  obtain⟨R4,f1,f2,f3,f4,f5,f6⟩:=frame rel rM st r' Hc.next (fun id hid h=>rel.fresh id hid (hdn id h))
  have Hz: ∀id x,Hc.get id=some x->R4.get id=some x:=by
   intro id x h
   cases h':Of.get id with
   |none=>exact f4 id x h h'
   |some y=> have:=rM id y h';rw [h] at this;simp at this;subst this;exact f3 id x h'
  refine fin u E' R4 w' k f6 f5 hv hkn ?_ (by rw [f1,hnx]) f2 J (fun id h=> .inl (hdn id h)) (fun id x h=>Hz id x (hhp id x h)) ?_
  ·intro j oj rk hj;rw [<- FB j oj rk hj];constructor
   ·intro h;rcases h with rfl|h
    ·rw [tz] at hj; simp at hj
    ·exact h
   ·exact .inr
  ·intro b x hb hu hx;by_cases hbi:b=i
   ·subst hbi;rw [p.nob b (by rw [tz]; simp)] at hx;simp at hx
   ·exact Hz _ x (oK b x (hb.resolve_left hbi) hu hx)
def left (l:Nat->Bool):Nat->Nat
 |0=>0
 |n+1=>left l n+(if l n then 0 else 1)
theorem V4 {l l':Nat->Bool} (h: ∀j,l j=true->l' j=true): ∀n,left l' n<=left l n
 |0=>aw _
 |n+1=>by
  have:=V4 h n;simp only [left]
  grind
theorem V3 {l l':Nat->Bool} (h: ∀j,l j=true->l' j=true) {i:Nat} (U:l i=false) (Z:l' i=true): ∀n,i<n->left l' n<left l n
 |0,hi=>by omega
 |n+1,hi=>by
  have hle:=V4 h n;simp only [left];by_cases tZ:i=n
  ·grind
  ·have:=V3 h U Z n J
   grind
theorem Df {l:Nat->Bool}: ∀n,left l n=0->∀i,i<n->l i=true
 |0,_,i,hi=>by omega
 |n+1,h,i,hi=>by
  simp only [left] at h;by_cases tZ:i=n
  ·grind
  ·exact Df n J i J
theorem II.Yh (q:II P ρ ops rC H0) {listed:Array Bool} (jv:listed.size=ops.size) (h:Region.ready .any ops listed= []): ∀i,i<ops.size->listed[i]?=some true:=by
 intro i
 induction i using Nat.strongRecOn with
 |_ i ih=>
  intro hi
  cases hl:listed[i]? with
  |none=>rw [axH] at hl; omega
  |some b=>
   cases b with
   |true=>rfl
   |false=>
    exfalso;have ho:ops[i]?=some ops[i]:=by simp [hi]
    have:i∈Region.ready .any ops listed:=by rw [mem_ready];refine⟨by simp [hl],ops[i],ho,fun e he hb=>?_⟩;have gB:=q.back i _ ho e he hb;simp [ih e.on gB J]
    grind
theorem II.any (V: ∀o∈ops.toList,∀d,o.dst=some d->d<a0.tmps.size) (hq: ∀a w,p.Inv E0 a0 w0 (fun i=>i<ops.size) a w->Q .normal a w) :
 ∀(fuel:Nat) (listed:Array Bool) (a:Act) (w:World),listed.size=ops.size->left (fun i=>listed.getD i true) ops.size<=fuel->p.Inv E0 a0 w0 (fun i=>listed[i]?=some true) a w->wpAny P .any ops Q fuel listed a w:=by
 have abt: ∀(listed:Array Bool) (a:Act) (w:World),listed.size=ops.size->p.Inv E0 a0 w0 (fun i=>listed[i]?=some true) a w->Region.ready .any ops listed= []->Q .normal a w:=by
  intro listed a w jv inv p8;have Hz:=p.Yh jv p8;refine hq a w ?_
  have:(fun i=>listed[i]?=some true)=(fun i=>i<ops.size):=by
   grind
  grind
 intro fuel
 induction fuel with
 |zero=>
  intro listed a w jv Wu inv;have Hz:=Df (l:=fun i=>listed.getD i true) ops.size J
  have p8:Region.ready .any ops listed= []:=by
   rw [axa];intro i hi;rw [mem_ready] at hi
   grind
  exact⟨p8,abt listed a w jv inv p8⟩
 |succ fuel ih=>
  intro listed a w jv Wu inv;refine⟨abt listed a w jv inv,fun i hi=>?_⟩;rw [mem_ready] at hi;obtain⟨U,o,Z,h3⟩:=hi;have tZ:=(awc.1 Z).1
  have wa:listed[i]?=some false:=by simp_all
  refine p.step V inv Z (by rw [wa]; simp) (fun e he hb=>?_) fun a' w' avE=>?_
  ·have:=h3 e he hb
   cases hc:listed[e.on]? with
   |none=>simp [hc] at this
   |some b=>simp [hc] at this; rw [this]
  ·refine ih _ a' w' (by simpa using jv) ?_ ?_
   ·have:=V3 (l:=fun j=>listed.getD j true) (l':=fun j=>(listed.setIfInBounds i true).getD j true) (i:=i) (fun j hj=>?_) U ?_ ops.size tZ
    ·omega
    ·by_cases hij:i=j
     all_goals simp_all
    simp_all
   grind
theorem II.start (hs:s0.bC=rC) (hh:s0.h=H0) (hρ:E0.ρ=ρ) (fit:Fit E0 s0 a0 w0) (listed:Array Bool) (hl: ∀(i:Nat),listed[i]?≠some true):p.Inv E0 a0 w0 (fun i=>listed[i]?=some true) a0 w0:=by
 subst hs hh;obtain⟨U,Z,h3⟩:=p.first;have rel:=fit.rel;have r1:bV E0 ⟨s0.h.m,(p.hp 0).next,none⟩ w0:=rel.part (fun id x h=>h) (by show s0.h.next<=(p.hp 0).next; omega) ad;refine⟨rfl,rfl,fun i j _ h=>absurd h (hl j),E0,⟨s0.h.m,(p.hp 0).next,none⟩,0,awv _,fun j o _ _=> ⟨fun h=>absurd h (hl j),fun h=>by omega⟩,hρ,?_,r1,rfl,rfl,Z,fun id h=> .inl h,?_,fun id x h=>h3 id x h,fun b x h=>absurd h (hl b),?_,fun j oj t h=>absurd h (hl j)⟩
 ·have:=(fD.refl E0 s0.h w0).atI;exact⟨this.ρ,this.dm,this.θ,this.κ,this.ro,this.D0,this.os,this.tape,this.output,this.size,this.du,this.own⟩
 ·intro i o _ _ BJ;exact rel.fresh _ J BJ
 ·intro t x ht _;exact fit.sr t x ht
theorem II.finish {s':St} (hh:s0.h=H0) (inv:p.Inv E0 a0 w0 (fun i=>i<ops.size) a w) (hpc:cz ρ s'.pc)
 (auD: ∀t x,s'.bC.get t=some x->(∃(j:Nat) (oj:Oper),ops[j]?=some oj/\oj.dst=some t/\p.val j=x)\/(rC.get t=some x/\∀(j:Nat) (oj:Oper),ops[j]?=some oj->oj.dst≠some t))
 (avB: ∀id x,s'.h.get id=some x->(p.hp p.nE).get id=some x\/∃b,b<ops.size/\p.un p.nE b=true/\id=p.base+b/\p.oN b=some x)
 (ajU:(p.hp p.nE).next=s'.h.next) (wC:s'.h.res=none) (Hz: ∀(m:Nat),m<p.nE->∃(j:Nat) (o:Oper),ops[j]?=some o/\p.kd j= .e/\p.st j=m):oO E0 s0 a0 w0 s' a w:=by
 subst hh;obtain⟨U,Z,Cs,E,Hc,k,hkn,FB,hρ,RJ,rel,hnx,Tz,jw,BJ,hun,hhp,oK,zH,hs1⟩:=inv
 have hk:k=p.nE:=by
  rcases aX k p.nE with h|h
  all_goals grind
 subst hk
 have rM: ∀id x,s'.h.get id=some x->Hc.get id=some x:=by
  intro id x h
  grind
 have hf:=p.first.1;refine⟨U,Z,E,?_,rel.part rM J (by rw [wC]; simp),?_,by rw [hρ]; exact hpc⟩
 ·refine Xt.W_ ⟨RJ.ρ,RJ.dm,RJ.θ,RJ.κ,RJ.ro,RJ.D0,RJ.os,RJ.tape,RJ.output,RJ.size,RJ.du,fun id o h=>RJ.own id o (rM id o h)⟩ J wC fun id h=>?_;rcases BJ id h with g|g
  ·grind
  ·right;refine⟨g,?_⟩;rcases aX id s'.h.next with g'|g'
   ·exact g'
   ·exact absurd h (rel.fresh id J)
 ·intro t x ht
  grind
end
end
end
end Go.As
end
section
namespace Go.As
noncomputable section
mutual
def eY:AV->AV->Bool
 | .bool a,.bool b=>qv a b
 | .int k a,.int l b=>decide (k=l)&&fQ a b
 | .str a,.str b=>decide (a=b)
 | .ptr i o,.ptr j p=>decide (i=j)&&decide (o=p)
 | .wz,.wz=>true
 | .pe a,.pe b=>jd a b
 | .slice i o l c,.slice j p m d=>decide (i=j)&&decide (o=p)&&decide (l=m)&&decide (c=d)
 | .ij,.ij=>true
 | .ro a n f,.ro b m g=>jd a b&&decide (n=m)&&decide (f=g)
 | .map i,.map j=>decide (i=j)
 | .vf,.vf=>true
 | .func f a b,.func g c d=>decide (f=g)&&jd a c&&jd b d
 | .zf,.zf=>true
 | .iface t v,.iface u x=>decide (t=u)&&eY v x
 | .Aq,.Aq=>true
 | .agg a,.agg b=>jd a b
 | .tuple a,.tuple b=>jd a b
 | .O8 i,.O8 j=>decide (i=j)
 | .zG i a,.zG j b=>decide (i=j)&&decide (a=b)
 | .emp,.emp=>true
 | .eW a t,.eW b u=>fQ a b&&Nat.beq t u
 | .kZ a,.kZ b=>fQ a b
 | .sG i n t,.sG j m u=>Nat.beq i j&&fQ n m&&Nat.beq t u
 | .B6 i a x o,.B6 j b y p=>Nat.beq i j&&Nat.beq a b&&fQ x y&&Nat.beq o p
 | .wH i l n t,.wH j k m u=>Nat.beq i j&&fQ l k&&fQ n m&&Nat.beq t u
 | .any,.any=>true
 | .AX a t,.AX b u=>fQ a b&&Nat.beq t u
 |_,_=>false
def jd:List AV->List AV->Bool
 |[],[]=>true
 |x::xs,y::ys=>eY x y&&jd xs ys
 |_,_=>false
end
mutual
theorem lS: ∀(x y:AV),eY x y=true->x=y
 | .bool a,y,h=>by cases y<;>simp [eY] at h<;>rw [uq _ _ h]
 | .int k a,y,h=>by cases y<;>simp [eY] at h<;>rw [h.1,dk _ _ h.2]
 | .str a,y,h=>by cases y<;>simp [eY] at h<;>simp [h]
 | .ptr i o,y,h=>by cases y<;>simp [eY] at h<;>simp [h]
 | .wz,y,h=>by cases y<;>simp [eY] at h<;>rfl
 | .pe a,y,h=>by cases y<;>simp [eY] at h; rw [gk _ _ h]
 | .slice i o l c,y,h=>by cases y<;>simp [eY] at h<;>simp [h]
 | .ij,y,h=>by cases y<;>simp [eY] at h<;>rfl
 | .ro a n f,y,h=>by cases y<;>simp [eY] at h; rw [gk _ _ h.1.1,h.1.2,h.2]
 | .map i,y,h=>by cases y<;>simp [eY] at h<;>simp [h]
 | .vf,y,h=>by cases y<;>simp [eY] at h<;>rfl
 | .func f a b,y,h=>by cases y<;>simp [eY] at h; rw [h.1.1,gk _ _ h.1.2,gk _ _ h.2]
 | .zf,y,h=>by cases y<;>simp [eY] at h<;>rfl
 | .iface t v,y,h=>by cases y<;>simp [eY] at h; rw [h.1,lS _ _ h.2]
 | .Aq,y,h=>by cases y<;>simp [eY] at h<;>rfl
 | .agg a,y,h=>by cases y<;>simp [eY] at h; rw [gk _ _ h]
 | .tuple a,y,h=>by cases y<;>simp [eY] at h; rw [gk _ _ h]
 | .O8 i,y,h=>by cases y<;>simp [eY] at h<;>simp [h]
 | .zG i a,y,h=>by cases y<;>simp [eY] at h<;>simp [h]
 | .emp,y,h=>by cases y<;>simp [eY] at h<;>rfl
 | .eW a t,y,h=>by cases y<;>simp [eY] at h<;>rw [h.2,dk _ _ h.1]
 | .kZ a,y,h=>by cases y<;>simp [eY] at h<;>rw [dk _ _ h]
 | .sG i n t,y,h=>by cases y<;>simp [eY] at h<;>rw [h.1.1,dk _ _ h.1.2,h.2]
 | .B6 i a x o,y,h=>by cases y<;>simp [eY] at h<;>rw [h.1.1.1,h.1.1.2,dk _ _ h.1.2,h.2]
 | .wH i l n t,y,h=>by cases y<;>simp [eY] at h<;>rw [h.1.1.1,dk _ _ h.1.1.2,dk _ _ h.1.2,h.2]
 | .any,y,h=>by cases y<;>simp [eY] at h<;>rfl
 | .AX a t,y,h=>by cases y<;>simp [eY] at h<;>rw [h.2,dk _ _ h.1]
theorem gk: ∀(xs ys:List AV),jd xs ys=true->xs=ys
 |[],ys,h=>by cases ys<;>simp [jd] at h; rfl
 |x::xs,ys,h=>by
  cases ys with
  |nil=>simp [jd] at h
  |cons y ys=>simp [jd] at h; rw [lS _ _ h.1,gk _ _ h.2]
end
def GX (o:Op):List Nat:=o.operands.toList.filterMap fun
 | .tmp t=>some t
 |_=>none
def reads (all:List Oper) (o:Oper):List Nat:=match o.guard with
 |none=>GX o.op
 |some (j,_)=>match fR all j with
  |some oj=>match oj.dst with
   |some d=>d::GX o.op
   |none=>GX o.op
  |none=>GX o.op
def kindOf (tt:TT):Op->Kind
 | .load _ _=> .r
 | .lookup _ _ _ _=> .r
 | .call c=>match c.callee with
   | .builtin b=>match b with
     | .len=> .r
     | .min=> .pa
     | .max=> .pa
     |_=> .e
   |_=> .e
 | .store _ _ _=> .e
 | .insert _ _ _ _=> .e
 | .mapUpdate _ _ _ _=> .e
 | .next _ _=> .e
 | .range _ _=> .e
 | .convert t u _=>match tt t with
   |some i=>match i.kind with
    | .slice _=>match tt u with
      |some j=>match j.kind with
       | .string=> .r
       |_=> .e
      |none=> .e
    |_=> .pa
   |none=> .e
 | .panic _=> .e
 |_=> .pa
def qg (ms:List Nat):List Edge->Nat
 |[]=>0
 |e::es=>if Region.binds .any e then ((1 <<<e.on)|||ms.getD e.on 0)|||qg ms es else qg ms es
def sX:List Oper->List Nat->List Nat
 |[],ms=>ms
 |o::os,ms=>sX os (ms++ [qg ms o.after.toList])
structure Item where
 i:Nat
 o:Oper
 m:Nat
 k:Kind
 st:Nat
 rd:List Nat
def items (tt:TT) (all:List Oper) (ms:List Nat):List Oper->Nat->Nat->List Item
 |[],_,_=>[]
 |o::os,i,n=> ⟨i,o,ms.getD i 0,kindOf tt o.op,n,reads all o⟩ ::items tt all ms os (i+1) (match kindOf tt o.op with | .e=>n+1|_=>n)
def Kind.isE:Kind->Bool
 | .e=>true
 |_=>false
def Kind.isR:Kind->Bool
 | .r=>true
 |_=>false
def Am (ms:List Nat) (is:List Item) (x:Item):Bool:=
 x.o.after.toList.all (fun e=>!Region.binds .any e||decide (e.on<x.i))&&
 decide (x.m=qg ms x.o.after.toList)&&
 x.rd.all (fun t=>is.all fun y=>decide (y.o.dst≠some t)||x.m.testBit y.i||(!x.k.isR&&y.m.testBit x.i))&&
 is.all (fun y=>decide (y.i=x.i)||(match y.o.dst with |some d=>decide (x.o.dst≠some d)|none=>true))&&
 (!x.k.isE||is.all fun y=>!y.k.isE||!decide (y.i<x.i)||x.m.testBit y.i)
def CN (is:List Item) (n:Nat) (x:Item):List Nat:=
 (List.range (n+1)).filter fun k=>is.all fun y=>!y.k.isE||((!x.m.testBit y.i||decide (y.st<k))&&(!y.m.testBit x.i||decide (k<=y.st)))
structure Stat where
 is:List Item
 nE:Nat
 rs:List (Item×List Nat)
def k8:List Item->Nat
 |[]=>0
 |x::xs=>match x.k with | .e=>k8 xs+1|_=>k8 xs
def stat (tt:TT) (all:List Oper):Option Stat:=
 let ms:=sX all [];let is:=items tt all ms all 0 0
 if is.all (Am ms is) then
  some ⟨is,k8 is,(is.filter (·.k.isR)).map fun x=>(x,CN is (k8 is) x)⟩
 else none
def only (bC:Tr AV):List Nat->Tr AV
 |[]=> .nil
 |t::ts=>match bC.get t with
  |some v=>(only bC ts).put t (some v)
  |none=>only bC ts
structure ZM where
 bC:Tr AV
 nv:List (Hp×Nat)
 iP:List (Nat×eN)
 Ea:List (Option eN)
 vs:List AV
def fZ (base bm mm:Nat):List (Nat×eN)->Hp->Hp
 |[],h=>h
 |(a,x)::r,h=>if bm.testBit a&&!mm.testBit a then (fZ base bm mm r h).put (base+a) x else fZ base bm mm r h
def ev1 (tt:TT) (call:eT) (all:List Oper) (o:Oper) (s:St):T (AV×St):=
 yD all s o fun s b=>if b then MH tt call s o.op else .ret (AV.undef,s)
def xd (bC:Tr AV) (d:Option Nat) (v:AV):Tr AV:=match d with
 |some t=>bC.put t (some v)
 |none=>bC
def adO (tt:TT) (call:eT) (all:List Oper) (base N:Nat) (pc:List (SB×Bool)) (x:Item) (d:ZM):T ZM:=
 match d.nv with
 |[]=> .fail
 |(h,mm)::rest=>
  match x.k with
  | .pa=>(ev1 tt call all x.o ⟨only d.bC x.rd,⟨.nil,N,some (base+x.i)⟩,pc⟩).bind fun (v,s')=>
    if s'.h.next=N then
     .ret ⟨xd d.bC x.o.dst v,d.nv,match s'.h.get (base+x.i) with |some b=>(x.i,b)::d.iP|none=>d.iP,s'.h.get (base+x.i)::d.Ea,v::d.vs⟩
    else .fail
  | .e=>(ev1 tt call all x.o ⟨only d.bC x.rd,fZ base x.m mm d.iP h,pc⟩).bind fun (v,s')=>
    if s'.h.next<=N/\s'.h.res=none then
     .ret ⟨xd d.bC x.o.dst v,(s'.h,mm|||x.m)::(h,mm)::rest,d.iP,none::d.Ea,v::d.vs⟩
    else .fail
  | .r=>(ev1 tt call all x.o ⟨only d.bC x.rd,fZ base x.m mm d.iP h,pc⟩).bind fun (v,_)=>
    .ret ⟨xd d.bC x.o.dst v,d.nv,d.iP,none::d.Ea,v::d.vs⟩
def T.Cl {α β:Type} (pc:List (SB×Bool)) (f:List (SB×Bool)->α->T β):T α->T β
 | .fail=> .fail
 | .ret a=>f pc a
 | .split c x y=>match lq pc c with
   |some true=>T.Cl pc f x
   |some false=>T.Cl pc f y
   |none=> .split c (T.Cl ((c,true)::pc) f x) (T.Cl ((c,false)::pc) f y)
def Zf (tt:TT) (call:eT) (all:List Oper) (base N:Nat):List Item->List (SB×Bool)->ZM->T (List (SB×Bool)×ZM)
 |[],pc,d=> .ret (pc,d)
 |x::xs,pc,d=>(adO tt call all base N pc x d).Cl pc (Zf tt call all base N xs)
def Fp (tt:TT) (call:eT) (all:List Oper) (base:Nat) (pc:List (SB×Bool)) (x:Item) (v:AV) (S:Tr AV) (iP:List (Nat×eN)) (nv:List (Hp×Nat)):List Nat->T Unit
 |[]=> .ret ()
 |k::ks=>match fR nv k with
  |some (h,mm)=>(ev1 tt call all x.o ⟨S,fZ base x.m mm iP h,pc⟩).bind fun (u,_)=>
   if eY u v then Fp tt call all base pc x v S iP nv ks else .fail
  |none=> .fail
def LR (tt:TT) (call:eT) (all:List Oper) (base:Nat) (d:ZM) (nv:List (Hp×Nat)) (vs:List AV):List (Item×List Nat)->List (SB×Bool)->T (List (SB×Bool))
 |[],pc=> .ret pc
 |(x,ks)::r,pc=>match fR vs x.i with
  |some v=>(Fp tt call all base pc x v (only d.bC x.rd) d.iP nv ks).Cl pc fun pc _=>LR tt call all base d nv vs r pc
  |none=> .fail
def Lm (base:Nat) (iP:List (Nat×eN)) (nv:List (Hp×Nat)):Bool:=
 iP.all fun (a,_)=>nv.all fun (h,mm)=>mm.testBit a||(h.get (base+a)).isNone
def H5 (tt:TT) (call:eT) (all:List Oper) (q:Stat) (s:St):T St:=
 match s.h.res with
 |some _=> .fail
 |none=>
 let base:=s.h.next;let n:=all.length;let N:=base+n+1099511627776
 (Zf tt call all base N q.is s.pc ⟨s.bC,[(⟨s.h.m,base+n,none⟩,0)],[],[],[]⟩).bind fun (pc,d)=>
  match d.nv with
  |[]=> .fail
  |(h,mm)::_=>
   (LR tt call all base d d.nv.reverse d.vs.reverse q.rs pc).bind fun pc=>
    if Lm base d.iP d.nv then .ret ⟨d.bC,fZ base ((1 <<<n)-1) mm d.iP h,pc⟩ else .fail
def draw (tt:TT) (call:eT) (all:List Oper) (s:St):T St:=
 match stat tt all with
 |none=> .fail
 |some q=>H5 tt call all q s
end
end Go.As
end
section
namespace Go.As
section
variable {s s':St} {ρ:Nat->Int} {v k:AV} {tt:TT} {α:Type} {call:eT} {o:Oper} {t ty:Nat} {all:List Oper} {op:Op} {i e:Y}
section
variable {P:Program}
theorem MX [bN] (cX:eS P tt) (hc:iZ P call) {ops:Array Oper} (hp:cz ρ s.pc) (h:(ev1 tt call ops.toList o s).leaf ρ=some (v,s')) :
 IM P ρ ops o s.bC s.h v s'.h:=by
 intro E a w hρ r sr;subst hρ;unfold ev1 at h;obtain⟨fH,gH,U⟩:=GZ ⟨r,sr,hp⟩ h;cases hw:Region.wanted o (yielded ops a.tmps)<;>rw [hw] at U
 ·grind [bE]
 ·simp only [if_true] at U;obtain⟨_,_,q3⟩:=WK cX hc (s:={ s with pc:=fH }) (o:=o) r sr gH U;exact .inr ⟨rfl,q3⟩
theorem kI {c:SB} {f:St->Bool->T α} {r:α} (h:(mA s c f).leaf ρ=some r): ∃fH b,(f { s with pc:=fH } b).leaf ρ=some r:=by
 unfold mA at h;split at h
 ·rename_i b _; exact⟨s.pc,b,h⟩
 grind [T.leaf]
theorem LX {f:St->Bool->T α} {r:α} (h:(yD all s o f).leaf ρ=some r): ∃fH b,(f { s with pc:=fH } b).leaf ρ=some r:=by
 unfold yD at h;split at h
 ·exact⟨s.pc,true,h⟩
 ·split at h
  ·split at h
   ·split at h
    ·obtain⟨fH,b,U⟩:=kI h; exact⟨fH,_,U⟩
    ·exact⟨s.pc,_,h⟩
    grind [T.leaf]
   grind [T.leaf]
  grind [T.leaf]
theorem G0 {x:Operand} {f:AV->T (AV×St)} {r:AV×St} (h:(Cq s x f).leaf ρ=some r): ∃v,(f v).leaf ρ=some r:=by
 grind [Cq,T.leaf]
theorem yA {x:Option AV} (h:(uA s x).leaf ρ=some (v,s')):s'=s:=by
 unfold uA at h
 grind [bE,T.leaf]
theorem anw (h:kindOf tt op= .r):(∃t x,op= .load t x)\/(∃t x i ok,op= .lookup t x i ok)\/(∃c:Call,op= .call c/\c.callee= .builtin .len)\/∃t u x i j e,op= .convert t u x/\tt t=some i/\i.kind= .slice e/\tt u=some j/\j.kind= .string:=by
 unfold kindOf at h;split at h<;>try (simp at h; done)
 all_goals grind
theorem J4 {n:Y} {f:St->T α} {r:α} (h:(Bl s i n f).leaf ρ=some r): ∃fH,(f { s with pc:=fH }).leaf ρ=some r:=by
 unfold Bl at h;obtain⟨jS,b1,U⟩:=kI h;split at U
 ·grind [T.leaf]
 ·obtain⟨qU,b2,Z⟩:=kI U
  grind [T.leaf]
theorem vL {α:Type} {ρ:Nat->Int} {kk:TK} {k:AV} {r:α} {f:St->T α}: ∀{es:List (AV×AV×Nat)} {s:St},(vM kk k es s f).leaf ρ=some r->∃fH,(f { s with pc:=fH }).leaf ρ=some r
 |[],s,h=> ⟨s.pc,h⟩
 |(k',v,b)::es,s,h=>by
  simp only [vM] at h;split at h
  ·split at h
   ·exact⟨s.pc,h⟩
   ·exact vL h
  ·split at h
   ·obtain⟨jS,b1,U⟩:=kI h;split at U
    ·grind
    ·obtain⟨qU,Z⟩:=vL U
     grind
   ·exact⟨s.pc,h⟩
theorem IV {m:AV} {r:α} {f:St->T α} (h:(pS tt t m k s f).leaf ρ=some r): ∃fH,(f { s with pc:=fH }).leaf ρ=some r:=by
 unfold pS at h;split at h
 ·split at h
  ·split at h
   ·split at h
    ·exact vL h
    ·exact⟨s.pc,h⟩
   ·exact⟨s.pc,h⟩
  ·exact⟨s.pc,h⟩
 ·exact⟨s.pc,h⟩
theorem af8 {cs:List AV} (h:(KI s cs e).leaf ρ=some (v,s')):s'.h=s.h:=by
 grind [KI,T.leaf,J4,bE]
theorem Y9 {ok:Bool} (h:(BZ tt ty k ok e t s).leaf ρ=some (v,s')):s'.h=s.h:=by
 unfold BZ at h;split at h
 ·grind [T.leaf]
 ·split at h
  ·grind [T.leaf]
  ·obtain⟨fH,b,U⟩:=kI h
   grind [bE]
theorem DT {α:Type} {ρ:Nat->Int} {i:Y} {r:α}: ∀{ov:List (Y×List AV)} {s:St} {k:St->T α},(wX i ov s k).leaf ρ=some r->∃fH,(k { s with pc:=fH }).leaf ρ=some r
 |[],s,k,h=> ⟨s.pc,h⟩
 |(j,c)::l,s,k,h=>by
  simp only [wX] at h;split at h
  ·exact⟨s.pc,h⟩
  ·obtain⟨jS,b1,U⟩:=kI h;split at U
   ·grind
   ·obtain⟨qU,Z⟩:=DT U
    grind
theorem Za {id es off:Nat} (h:(B0 tt s ty id es i off).leaf ρ=some (v,s')):s'.h=s.h:=by
 unfold B0 at h;split at h
 ·split at h
  ·grind [T.leaf,af8]
  ·split at h
   all_goals grind [J4,DT,yA,T.leaf]
  grind [T.leaf]
 grind [T.leaf]
theorem aoo (hk:kindOf tt op= .r) (h:(MH tt call s op).leaf ρ=some (v,s')):s'.h=s.h:=by
 rcases anw hk with ⟨t,x,rfl⟩|⟨t,x,i,ok,rfl⟩|⟨c,rfl,hc⟩|⟨t,u,x,i,j,e,rfl,hi,he,hj,hs⟩
 ·grind [MH,G0,Za,yA]
 ·grind [MH,G0,Y9,IV,yA,T.leaf]
 ·simp only [MH,MQ] at h;split at h
  ·grind [T.leaf]
  ·rw [hc] at h;simp only [yR] at h
   grind [yA,T.leaf]
 ·simp only [MH] at h;obtain⟨p,U⟩:=G0 h;split at U
  ·grind [FJ,T.leaf]
  obtain⟨H,e1,rfl⟩:=rH U;unfold rq at e1;rw [hi,hj] at e1;simp only [hs,he] at e1;split at e1
  ·grind
  ·split at e1
   ·split at e1
    ·grind
    ·split at e1
     ·rw [aO] at e1
      grind
     grind
    grind
   grind
theorem asx (hk:kindOf tt o.op= .r) (h:(ev1 tt call all o s).leaf ρ=some (v,s')):s'.h=s.h:=by
 unfold ev1 at h;obtain⟨fH,b,U⟩:=LX h;cases b
 ·grind [bE]
 ·simp only [if_true] at U;exact aoo (s:={ s with pc:=fH }) hk U
theorem te {base bm mm:Nat}: ∀{l:List (Nat×eN)} {h:Hp} {id:Nat} {x:eN},(fZ base bm mm l h).get id=some x->h.get id=some x\/∃a,(a,x)∈l/\bm.testBit a=true/\mm.testBit a=false/\id=base+a
 |[],h,id,x,hh=> .inl hh
 |(a,y)::r,h,id,x,hh=>by
  simp only [fZ] at hh;split at hh
  ·rename_i hb;rw [Hp.bR] at hh;split at hh
   ·rename_i e
    grind
   ·exact agV
  ·exact agV
theorem kA {base bm mm:Nat}: ∀(l:List (Nat×eN)) (h:Hp),(fZ base bm mm l h).next=h.next/\(fZ base bm mm l h).res=h.res
 |[],h=> ⟨rfl,rfl⟩
 |(a,y)::r,h=>by
  have:=kA (base:=base) (bm:=bm) (mm:=mm) r h;simp only [fZ];split
  ·exact this
  grind
theorem Bj {bC:Tr AV}: ∀{ts:List Nat} {t:Nat} {x:AV},(only bC ts).get t=some x->t∈ts/\bC.get t=some x
 |[],t,x,h=>by simp [only,Tr.get] at h
 |u::us,t,x,h=>by
  simp only [only] at h;split at h
  ·rename_i v hv;rw [Tr.bR] at h;split at h
   ·rename_i e
    grind
   ·have:=Bj h
    grind
  ·have:=Bj h
   grind
theorem CO {bC:Tr AV} {d:Option Nat}:(xd bC d v).get t=if d=some t then some v else bC.get t:=by
 cases d with
 |none=>simp [xd]
 |some u=>
  grind [xd,Tr.bR]
theorem ra {ms:List Nat} {i:Nat}: ∀{es:List Edge},(qg ms es).testBit i=true->∃e∈es,Region.binds .any e=true/\(e.on=i\/(ms.getD e.on 0).testBit i=true)
 |[],h=>by simp [qg] at h
 |e::es,h=>by
  simp only [qg] at h;split at h
  ·rename_i hb;simp only [Nat.testBit_or,awd] at h;rcases h with (h|h)|h
   ·rw [Nat.shiftLeft_eq,awG,Nat.testBit_two_pow] at h
    grind
   ·grind
   ·obtain⟨e',U,Z⟩:=ra h
    grind
  ·obtain⟨e',U,Z⟩:=ra h
   grind
def kz (tt:TT):List Oper->Nat
 |[]=>0
 |o::os=>(match kindOf tt o.op with | .e=>1|_=>0)+kz tt os
theorem kQ {tt:TT} {all:List Oper} {ms:List Nat}: ∀(os:List Oper) (i n j:Nat),(items tt all ms os i n)[j]?=(os[j]?).map fun o=> ⟨i+j,o,ms.getD (i+j) 0,kindOf tt o.op,n+kz tt (os.take j),reads all o⟩
 |[],i,n,j=>by simp [items]
 |o::os,i,n,j=>by
  simp only [items]
  cases j with
  |zero=>simp [kz]
  |succ j=>
   rw [aC,kQ os]
   grind [kz]
theorem vk {tt:TT} {all:List Oper} {ms:List Nat}: ∀(os:List Oper) (i n:Nat),(items tt all ms os i n).length=os.length
 |[],i,n=>rfl
 |o::os,i,n=>by simp [items,vk os]
theorem oF {tt:TT} {all:List Oper} {ms:List Nat}: ∀(os:List Oper) (i n:Nat),k8 (items tt all ms os i n)=kz tt os
 |[],i,n=>rfl
 |o::os,i,n=>by
  simp only [items,k8,kz,oF os]
  grind
end
end
section
variable {ops:Array Oper} {base N:Nat} {ρ:Nat->Int} {x:Item} {d d1:ZM} {v:AV} {ob:Option eN}
section
variable {P:Program}
def IC [bN] (P:Program) (ρ:Nat->Int) (ops:Array Oper) (base N:Nat) (x:Item) (d:ZM) (v:AV) (ob:Option eN) (d1:ZM):Prop:=
 ∃h mm rest,d.nv=(h,mm)::rest/\match x.k with
  | .pa=>d1.nv=d.nv/\∃HA,IM P ρ ops x.o (only d.bC x.rd) ⟨.nil,N,some (base+x.i)⟩ v HA/\HA.next=N/\ob=HA.get (base+x.i)
  | .e=>ob=none/\∃hn,d1.nv=(hn,mm|||x.m)::d.nv/\hn.next<=N/\hn.res=none/\IM P ρ ops x.o (only d.bC x.rd) (fZ base x.m mm d.iP h) v hn
  | .r=>ob=none/\d1.nv=d.nv
theorem adN [bN] {tt:TT} (cX:eS P tt) {call:eT} (hc:iZ P call) {pc:List (SB×Bool)} (hp:cz ρ pc) (h:(adO tt call ops.toList base N pc x d).leaf ρ=some d1) :
 ∃v ob,d1.bC=xd d.bC x.o.dst v/\d1.vs=v::d.vs/\d1.Ea=ob::d.Ea/\d1.iP=(match ob with |some b=>(x.i,b)::d.iP|none=>d.iP)/\IC P ρ ops base N x d v ob d1:=by
 unfold adO at h;split at h
 ·grind [T.leaf]
 ·rename_i h0 mm rest hs;split at h
  ·rename_i hk;obtain⟨⟨v,s'⟩,U,Z⟩:=T.fI h;have ha:=MX cX hc (s:=⟨only d.bC x.rd,⟨.nil,N,some (base+x.i)⟩,pc⟩) hp U;simp only at Z;split at Z
   ·rename_i hn;have:=bE Z;subst this;refine⟨v,s'.h.get (base+x.i),rfl,rfl,rfl,?_,h0,mm,rest,hs,?_⟩
    all_goals grind
   grind [T.leaf]
  ·rename_i hk;obtain⟨⟨v,s'⟩,U,Z⟩:=T.fI h;have ha:=MX cX hc (s:=⟨only d.bC x.rd,fZ base x.m mm d.iP h0,pc⟩) hp U;simp only at Z;split at Z
   ·rename_i hn;exact ahO
   ·simp [T.leaf] at Z
  ·rename_i hk;obtain⟨⟨v,s'⟩,U,Z⟩:=T.fI h;exact ahO
theorem IC.nv [bN] (h:IC P ρ ops base N x d v ob d1): ∃pre,d1.nv=pre++d.nv/\pre.length=k8 [x]:=by
 obtain⟨h0,mm,rest,hs,U⟩:=h;cases hk:x.k<;>rw [hk] at U
 ·simp_all [k8]
 ·obtain⟨_,hn,Z,_⟩:=U;exact⟨[(hn,mm|||x.m)],by rw [Z]; rfl,by simp [k8,hk]⟩
 simp_all [k8]
theorem IC.nxt [bN] (h:IC P ρ ops base N x d v ob d1) (hh: ∀q∈d.nv,q.1.next<=N/\q.1.res=none): ∀q∈d1.nv,q.1.next<=N/\q.1.res=none:=by
 obtain⟨h0,mm,rest,hs,U⟩:=h
 grind
structure as6 [bN] (P:Program) (ρ:Nat->Int) (ops:Array Oper) (base N:Nat) (xs:List Item) (d d':ZM):Prop where
 vs: ∃pre,d'.vs=pre++d.vs/\pre.length=xs.length
 Ea: ∃pre,d'.Ea=pre++d.Ea/\pre.length=xs.length
 nv: ∃pre,d'.nv=pre++d.nv/\pre.length=k8 xs
 oN: ∀a b,(a,b)∈d'.iP->(a,b)∈d.iP\/∃p x,xs[p]?=some x/\x.i=a/\d'.Ea.reverse[d.Ea.length+p]?=some (some b)
 avi: ∀p x b,xs[p]?=some x->d'.Ea.reverse[d.Ea.length+p]?=some (some b)->(x.i,b)∈d'.iP
 avQ: ∀q,q∈d.iP->q∈d'.iP
 slot: ∀t x,d'.bC.get t=some x->(∃p y,xs[p]?=some y/\y.o.dst=some t/\d'.vs.reverse[d.vs.length+p]?=some x)\/(d.bC.get t=some x/\∀y∈xs,y.o.dst≠some t)
 same: ∀t,(∀y∈xs,y.o.dst≠some t)->d'.bC.get t=d.bC.get t
 nxt:(∀q∈d.nv,q.1.next<=N/\q.1.res=none)->∀q∈d'.nv,q.1.next<=N/\q.1.res=none
 at_: ∀p x,xs[p]?=some x->∃dp Ze v ob pre,IC P ρ ops base N x dp v ob Ze/\d'.vs.reverse[d.vs.length+p]?=some v/\d'.Ea.reverse[d.Ea.length+p]?=some ob/\d'.nv=pre++Ze.nv/\dp.nv.length=d.nv.length+k8 (xs.take p)/\
  (∀q,q∈dp.iP->q∈d'.iP)/\(∀t,(∀y∈xs.drop p,y.o.dst≠some t)->d'.bC.get t=dp.bC.get t)/\
  (∀t z,dp.bC.get t=some z->(∃p' y,p'<p/\xs[p']?=some y/\y.o.dst=some t/\d'.vs.reverse[d.vs.length+p']?=some z)\/(d.bC.get t=some z/\∀y∈xs.take p,y.o.dst≠some t))
theorem aaf {α:Type} {l pre l0:List α} {v:α} (h:l=pre++v::l0):l.reverse[l0.length]?=some v:=by
 grind
theorem ED (x:Item) (xs:List Item):k8 (x::xs)=k8 [x]+k8 xs:=by
 grind [k8]
theorem T.mX {α β:Type} {ρ:Nat->Int} {f:List (SB×Bool)->α->T β} {r:β}: ∀{x:T α} {pc:List (SB×Bool)},cz ρ pc->(x.Cl pc f).leaf ρ=some r->∃a fH,x.leaf ρ=some a/\cz ρ fH/\(f fH a).leaf ρ=some r
 | .fail,pc,_,h=>by simp [T.Cl,T.leaf] at h
 | .ret a,pc,hp,h=> ⟨a,pc,rfl,hp,h⟩
 | .split c x y,pc,hp,h=>by
   simp only [T.Cl] at h
   cases V:lq pc c with
   |some b=>
    rw [V] at h;have hb:=ia hp V;simp only [T.leaf,hb]
    cases b with
    |true=>exact T.mX hp h
    |false=>exact T.mX hp h
   |none=>
    rw [V] at h;simp only [T.leaf] at h ⊢
    cases hb:c.den ρ with
    |true=>
     rw [hb] at h
     exact T.mX (x:=x) (pc:=(c,true)::pc) (fun c' b' hm=>by
      rcases aH.1 hm with he|hm
      ·simp only [an] at he; rw [he.1,he.2]; exact hb
      ·exact hp c' b' hm) h
    |false=>
     rw [hb] at h
     exact T.mX (x:=y) (pc:=(c,false)::pc) (fun c' b' hm=>by
      rcases aH.1 hm with he|hm
      ·simp only [an] at he; rw [he.1,he.2]; exact hb
      ·exact hp c' b' hm) h
theorem WY {tt:TT} {call:eT} {all:List Oper} {base N:Nat} {ρ:Nat->Int}: ∀(xs:List Item) {pc fH:List (SB×Bool)} {d d':ZM},cz ρ pc->(Zf tt call all base N xs pc d).leaf ρ=some (fH,d')->cz ρ fH
 |[],pc,fH,d,d',hp,h=>by
  have:=bE h
  grind
 |x::xs,pc,fH,d,d',hp,h=>by simp only [Zf] at h;obtain⟨d1,jS,_,jx,Z⟩:=T.mX hp h;exact WY xs jx Z
theorem WZ [bN] {tt:TT} (cX:eS P tt) {call:eT} (hc:iZ P call) {ops:Array Oper} {base N:Nat} {ρ:Nat->Int}: ∀(xs:List Item) {pc fH:List (SB×Bool)} {d d':ZM},cz ρ pc->(Zf tt call ops.toList base N xs pc d).leaf ρ=some (fH,d')->as6 P ρ ops base N xs d d'
 |[],pc,fH,d,d',hp,h=>by have:=bE h;simp only [an] at this;obtain⟨_,rfl⟩:=this;exact⟨⟨[],rfl,rfl⟩,⟨[],rfl,rfl⟩,⟨[],rfl,rfl⟩,fun a b h=> .inl h,fun p x b hh=>by simp at hh,fun q h=>h,fun t x h=> .inr ⟨h,ad⟩,fun t _=>rfl,fun h=>h,fun p x hh=>by simp at hh⟩
 |x::xs,pc,fH,d,d',hp,h=>by
  simp only [Zf] at h;obtain⟨d1,jS,U,jx,Z⟩:=T.mX hp h;obtain⟨v,ob,e1,e2,e3,e4,hF⟩:=adN cX hc hp U;obtain⟨⟨pv,v1,v2⟩,⟨po,o1,o2⟩,⟨ps,s1,s2⟩,b1,b2,b3,sl,sm,nx,gD⟩:=WZ cX hc xs jx Z;obtain⟨qs,t1,t2⟩:=hF.nv;have kR:d'.vs.reverse[d.vs.length]?=some v:=aaf (by rw [v1,e2]);have ho0:d'.Ea.reverse[d.Ea.length]?=some ob:=aaf (by rw [o1,e3]);have hvl:d1.vs.length=d.vs.length+1:=by rw [e2]; rfl
  have hol:d1.Ea.length=d.Ea.length+1:=by rw [e3]; rfl
  have pM: ∀q,q∈d.iP->q∈d1.iP:=by
   intro q hq
   grind
  have AT: ∀(p n:Nat),n+1+p=n+(p+1):=by intro p n; omega
  refine⟨⟨pv++ [v],by rw [v1,e2]; simp,by simp [v2]⟩,⟨po++ [ob],by rw [o1,e3]; simp,by simp [o2]⟩,⟨ps++qs,by rw [s1,t1]; simp,by rw [bd,ED,s2,t2]; omega⟩,?_,?_,fun q hq=>b3 q (pM q hq),?_,?_,fun hh=>nx (hF.nxt hh),?_⟩
  ·intro a b N4;rcases b1 a b N4 with hh|⟨p,y,g1,g2,g3⟩
   ·rw [e4] at hh
    cases ob with
    |none=>exact .inl hh
    |some c=>
     simp only [aH,an] at hh;rcases hh with ⟨rfl,rfl⟩|hh
     ·exact .inr ⟨0,x,rfl,rfl,ho0⟩
     ·exact .inl hh
   ·exact .inr ⟨p+1,y,by simpa using g1,g2,by rw [<- AT,<- hol]; exact g3⟩
  ·intro p y b hy hb
   cases p with
   |zero=> simp at hy;subst hy;rw [avZ,ho0] at hb;simp at hb;subst hb;exact b3 _ (by rw [e4]; simp)
   |succ p=> refine b2 p y b (by simpa using hy) ?_;rw [hol,AT];exact hb
  ·intro t y hy;rcases sl t y hy with ⟨p,z,g1,g2,g3⟩|⟨g1,g2⟩
   ·exact .inl ⟨p+1,z,by simpa using g1,g2,by rw [<- AT,<- hvl]; exact g3⟩
   ·rw [e1,CO] at g1;split at g1
    ·rename_i V;simp at g1;subst g1;exact .inl ⟨0,x,rfl,V,kR⟩
    ·rename_i V;refine .inr ⟨g1,fun z hz=>?_⟩;rcases aH.1 hz with rfl|hz
     ·exact V
     ·exact g2 z hz
  ·intro t ht;exact aht
  ·intro p y hy
   cases p with
   |zero=> simp at hy;subst hy;refine⟨d,d1,v,ob,ps,hF,kR,ho0,s1,by simp [k8],fun q hq=>b3 q (pM q hq),fun t ht=>?_,fun t z hz=> .inr ⟨hz,ad⟩⟩;exact aht
   |succ p=>
    obtain⟨dp,Ze,v',ob',pre,g1,g2,g3,g4,g5,g6,g7,g8⟩:=gD p y (by simpa using hy);refine⟨dp,Ze,v',ob',pre,g1,by rw [<- AT,<- hvl]; exact g2,by rw [<- AT,<- hol]; exact g3,g4,?_,g6,fun t ht=>g7 t (by simpa using ht),fun t z hz=>?_⟩
    ·rw [g5,awA,ED,t1,bd,t2];omega
    ·rcases g8 t z hz with ⟨p',y',q1,q2,q3,q4⟩|⟨q1,q2⟩
     ·exact .inl ⟨p'+1,y',J,by simpa using q2,q3,by rw [<- AT,<- hvl]; exact q4⟩
     ·rw [e1,CO] at q1;split at q1
      ·rename_i V;simp at q1;subst q1;exact .inl ⟨0,x,J,rfl,V,kR⟩
      ·rename_i V;refine .inr ⟨q1,fun u hu=>?_⟩;rw [awA] at hu;rcases aH.1 hu with rfl|hu
       ·exact V
       ·exact q2 u hu
end
end
section
variable {tt:TT} {all l:List Oper} {i j:Nat} {o:Oper} {ms:List Nat}
section
variable {P:Program}
theorem yU {tt:TT}: ∀{l:List Oper} {i:Nat} {o:Oper},l[i]?=some o->kz tt (l.take (i+1))=kz tt (l.take i)+(match kindOf tt o.op with | .e=>1|_=>0)
 |[],i,o,h=>by simp at h
 |x::xs,0,o,h=>by
  simp at h;subst h;simp only [aK,awA,aw3,kz]
  grind
 |x::xs,i+1,o,h=>by simp only [awA,kz];rw [yU (l:=xs) (by simpa using h)];omega
theorem Rc (h:l[i]?=none):kz tt (l.take (i+1))=kz tt (l.take i):=by have:=awN.1 h;rw [awo J,awo J]
theorem K2 {tt:TT} {l:List Oper} {i:Nat}: ∀{j:Nat},i<=j->kz tt (l.take i)<=kz tt (l.take j)
 |0,h=>by
  grind
 |j+1,h=>by
  by_cases e:i=j+1
  ·grind
  ·have:=K2 (tt:=tt) (l:=l) (i:=i) (j:=j) J
   cases ho:l[j]? with
   |none=>rw [Rc ho]; exact this
   |some o=>rw [yU ho]; omega
theorem Nw (ho:l[i]?=some o) (hk:kindOf tt o.op= .e) (h:i<j):kz tt (l.take i)<kz tt (l.take j):=by
 have U:=yU (tt:=tt) ho;rw [hk] at U;have Z:=K2 (tt:=tt) (l:=l) (i:=i+1) (j:=j) h
 grind
theorem yT {tt:TT} {l:List Oper} {m:Nat}: ∀{j:Nat},m<kz tt (l.take j)->∃i o,i<j/\l[i]?=some o/\kindOf tt o.op= .e/\kz tt (l.take i)=m
 |0,h=>by simp [kz] at h
 |j+1,h=>by
  cases ho:l[j]? with
  |none=>
   rw [Rc ho] at h;obtain⟨i,o,U,Z⟩:=yT h
   grind
  |some o=>
   rw [yU ho] at h;rcases aX m (kz tt (l.take j)) with h'|h'
   ·obtain⟨i,o,U,Z⟩:=yT h'
    grind
   grind
def Cr (tt:TT) (all:List Oper) (ms:List Nat) (j:Nat) (o:Oper):Item:=⟨j,o,ms.getD j 0,kindOf tt o.op,kz tt (all.take j),reads all o⟩
theorem jf (h:all[j]?=some o):(items tt all ms all 0 0)[j]?=some (Cr tt all ms j o):=by rw [kQ,h];simp [Cr]
theorem Ko {x:Item} (h:x∈items tt all ms all 0 0): ∃j o,all[j]?=some o/\x=Cr tt all ms j o:=by
 obtain⟨j,hj⟩:=List.getElem?_of_mem h
 cases ho:all[j]? with
 |none=>rw [kQ,ho] at hj; simp at hj
 |some o=>
  rw [jf ho] at hj
  grind
structure aly (tt:TT) (all:List Oper) (ms:List Nat):Prop where
 back: ∀(j:Nat) (o:Oper),all[j]?=some o->∀e∈o.after,Region.binds .any e=true->e.on<j
 mask: ∀(j:Nat) (o:Oper),all[j]?=some o->ms.getD j 0=qg ms o.after.toList
 rd: ∀(j:Nat) (o:Oper),all[j]?=some o->∀t∈reads all o,∀(i:Nat) (oi:Oper),all[i]?=some oi->oi.dst=some t->(ms.getD j 0).testBit i=true\/(kindOf tt o.op≠.r/\(ms.getD i 0).testBit j=true)
 dst: ∀(i j:Nat) (oi oj:Oper) (d:Nat),all[i]?=some oi->all[j]?=some oj->oi.dst=some d->oj.dst=some d->i=j
 tot: ∀(i j:Nat) (oi oj:Oper),all[i]?=some oi->all[j]?=some oj->kindOf tt oi.op= .e->kindOf tt oj.op= .e->i<j->(ms.getD j 0).testBit i=true
theorem ae6 {q:Stat} (h:stat tt all=some q): ∃ms,q.is=items tt all ms all 0 0/\q.nE=kz tt all/\q.rs=((q.is.filter (·.k.isR)).map fun x=>(x,CN q.is q.nE x))/\aly tt all ms:=by
 unfold stat at h;simp only at h;split at h
 ·rename_i sM;simp at h;subst h;refine⟨sX all [],rfl,oF _ _ _,rfl,?_⟩;have key: ∀(j:Nat) (o:Oper),all[j]?=some o->Am (sX all []) (items tt all (sX all []) all 0 0) (Cr tt all (sX all []) j o)=true:=fun j o ho=>aP.1 sM _ (bq (jf ho));have mem: ∀(j:Nat) (o:Oper),all[j]?=some o->Cr tt all (sX all []) j o∈items tt all (sX all []) all 0 0:=fun j o ho=>bq (jf ho);refine⟨?_,?_,?_,?_,?_⟩
  ·intro j o ho e he hb;have:=key j o ho;simp only [Am,aq,aP] at this;have:=this.1.1.1.1 e (by simpa [Cr] using he);simpa [hb,Cr] using this
  ·intro j o ho;have:=key j o ho;simp only [Am,aq] at this;have:=this.1.1.1.2;simpa [Cr] using this
  ·intro j o ho t ht i oi hoi V;have:=key j o ho;simp only [Am,aq,aP] at this;have:=this.1.1.2 t ht _ (mem i oi hoi);simp only [Cr,V,ne_eq,not_true_eq_false,decide_false,awB,awd,aq,awe] at this;rcases this with h|⟨U,Z⟩
   ·grind
   ·refine .inr ⟨fun hk=>?_,Z⟩;rw [hk] at U;simp [Kind.isR] at U
  ·intro i j oi oj d hi hj hdi hdj;have:=key i oi hi;simp only [Am,aq,aP] at this;have:=this.1.2 _ (mem j oj hj);simp [Cr,hdi,hdj] at this
   grind
  ·intro i j oi oj hi hj hki hkj gB;have:=key j oj hj;simp only [Am,aq,aP] at this;have:=this.2;simp only [Cr,hkj,Kind.isE,awQ,awB,aP] at this;have:=this _ (mem i oi hi);simpa [Cr,hki,Kind.isE,gB] using this
 grind
theorem GG [bN] {tt:TT} (cX:eS P tt) {call:eT} (hc:iZ P call) {ops:Array Oper} {base:Nat} {pc:List (SB×Bool)} {ρ:Nat->Int} (hp:cz ρ pc) {x:Item} (hk:kindOf tt x.o.op= .r) {v:AV} {S:Tr AV} {iP:List (Nat×eN)} {nv:List (Hp×Nat)}: ∀(ks:List Nat),(Fp tt call ops.toList base pc x v S iP nv ks).leaf ρ=some ()->
 ∀k∈ks,∃h mm,nv[k]?=some (h,mm)/\IM P ρ ops x.o S (fZ base x.m mm iP h) v (fZ base x.m mm iP h)
 |[],_=>by simp
 |k::ks,h=>by
  simp only [Fp] at h;split at h
  ·rename_i h0 mm hn;obtain⟨⟨u,s'⟩,U,Z⟩:=T.fI h;simp only at Z;split at Z
   ·rename_i hs;have ha:=MX cX hc (s:=⟨S,fZ base x.m mm iP h0,pc⟩) hp U;have hr:=asx hk U;rw [hr,lS _ _ hs] at ha;intro k' Ww;rcases aH.1 Ww with rfl|Ww
    ·exact⟨h0,mm,by rw [<- dG]; exact hn,ha⟩
    ·exact GG cX hc hp hk ks Z k' Ww
   ·simp [T.leaf] at Z
  ·simp [T.leaf] at h
theorem JN [bN] {tt:TT} (cX:eS P tt) {call:eT} (hc:iZ P call) {ops:Array Oper} {base:Nat} {ρ:Nat->Int} {d:ZM} {nv:List (Hp×Nat)} {vs:List AV}: ∀(rs:List (Item×List Nat)) {pc fH:List (SB×Bool)},cz ρ pc->(∀r∈rs,kindOf tt r.1.o.op= .r)->(LR tt call ops.toList base d nv vs rs pc).leaf ρ=some fH->
 cz ρ fH/\∀r∈rs,∃v,vs[r.1.i]?=some v/\∀k∈r.2,∃h mm,nv[k]?=some (h,mm)/\IM P ρ ops r.1.o (only d.bC r.1.rd) (fZ base r.1.m mm d.iP h) v (fZ base r.1.m mm d.iP h)
 |[],pc,fH,hp,_,h=>by
  have:=bE h
  grind
 |(x,ks)::rs,pc,fH,hp,hk,h=>by
  simp only [LR] at h;split at h
  ·rename_i v hv;obtain⟨⟨⟩,jS,U,jx,Z⟩:=T.mX hp h;obtain⟨qp,ih⟩:=JN cX hc rs jx (fun r hr=>hk r (by simp [hr])) Z;refine⟨qp,fun r hr=>?_⟩;rcases aH.1 hr with rfl|hr
   ·exact⟨v,by rw [<- dG]; exact hv,GG cX hc hp (hk _ ad) ks U⟩
   grind
  ·simp [T.leaf] at h
end
end
section
variable {P:Program}
theorem afj {α:Type} {l pre:List α} {a b:α} {l0:List α} (h:l=pre++a::b::l0):l.reverse[l0.length]?=some b/\l.reverse[l0.length+1]?=some a:=by
 grind
theorem X6 {n b:Nat} (h:((1 <<<n)-1).testBit b=true):b<n:=by
 rw [Nat.shiftLeft_eq,awG,Nat.testBit_two_pow_sub_one] at h
 grind
theorem afp [bN] {tt:TT} {ops:Array Oper} {ms:List Nat} {ρ:Nat->Int} {rC:Tr AV} {H0:Hp} {base N:Nat} {d:ZM} (sf:aly tt ops.toList ms) (hb:base=H0.next) (hN:base+ops.size<=N)
 (rf:as6 P ρ ops base N (items tt ops.toList ms ops.toList 0 0) ⟨rC,[(⟨H0.m,base+ops.size,none⟩,0)],[],[],[]⟩ d)
 (Tz: ∀r∈((items tt ops.toList ms ops.toList 0 0).filter (·.k.isR)).map fun x=>(x,CN (items tt ops.toList ms ops.toList 0 0) (kz tt ops.toList) x),∃v,d.vs.reverse[r.1.i]?=some v/\∀k∈r.2,∃h mm,d.nv.reverse[k]?=some (h,mm)/\IM P ρ ops r.1.o (only d.bC r.1.rd) (fZ base r.1.m mm d.iP h) v (fZ base r.1.m mm d.iP h))
 (hun:Lm base d.iP d.nv=true) :
 ∃p:II P ρ ops rC H0,p.base=base/\p.nE=kz tt ops.toList/\(∀i,p.val i=(d.vs.reverse[i]?).getD .wz)/\(∀k h mm,d.nv.reverse[k]?=some (h,mm)->p.hp k=h/\∀a,p.un k a=!mm.testBit a)/\(∀i,p.oN i=(d.Ea.reverse[i]?).getD none)/\
  (∀(m:Nat),m<p.nE->∃(j:Nat) (o:Oper),ops[j]?=some o/\p.kd j= .e/\p.st j=m):=by
 have jv: ∀(j:Nat),ops.toList[j]?=ops[j]?:=fun j=>avW;have gB: ∀{j:Nat} {o:Oper},ops[j]?=some o->j<ops.size:=fun h=>(awc.1 h).1;have hci:k8 (items tt ops.toList ms ops.toList 0 0)=kz tt ops.toList:=oF _ _ _;have Ku:kz tt ops.toList=kz tt (ops.toList.take ops.size):=by rw [awo ad]
 obtain⟨ps,s1,s2⟩:=rf.nv;rw [hci] at s2;have avH:d.nv.length=kz tt ops.toList+1:=by rw [s1,bd,s2]; rfl
 have auC:d.nv.reverse[0]?=some (⟨H0.m,base+ops.size,none⟩,0):=by rw [s1]; simp
 have arP: ∀k,k<=kz tt ops.toList->∃h mm,d.nv.reverse[k]?=some (h,mm):=by
  intro k hk;have:k<d.nv.reverse.length:=by rw [axt]; omega
  exact⟨d.nv.reverse[k].1,d.nv.reverse[k].2,aN this⟩
 have hnx:=rf.nxt (by
  intro q hq;simp only [aH,awa,or_false] at hq;subst hq
  exact⟨hN,rfl⟩)
 have anN: ∀(k:Nat) (h:Hp) (mm:Nat),d.nv.reverse[k]?=some (h,mm)->h.next<=N/\h.res=none:=by intro k h mm hh;exact hnx (h,mm) (by have:=bq hh; simpa using this)
 let hpf:Nat->Hp:=fun k=>((d.nv.reverse[k]?).map (·.1)).getD ⟨.nil,0,none⟩
 let unf:Nat->Nat->Bool:=fun k a=>match d.nv.reverse[k]? with |some q=>!q.2.testBit a|none=>false
 let bff:Nat->Nat->Bool:=fun i j=>match ops[j]? with |some _=>(ms.getD j 0).testBit i|none=>false
 let kdf:Nat->Kind:=fun i=>match ops[i]? with |some o=>kindOf tt o.op|none=> .pa
 let NB:Nat->Option eN:=fun i=>(d.Ea.reverse[i]?).getD none
 have hpe: ∀k h mm,d.nv.reverse[k]?=some (h,mm)->hpf k=h/\∀a,unf k a=!mm.testBit a:=by intro k h mm hh;refine⟨by simp only [hpf,hh]; rfl,fun a=>by simp only [unf,hh]⟩
 have bfe: ∀{i j:Nat} {o:Oper},ops[j]?=some o->bff i j=(ms.getD j 0).testBit i:=by intro i j o ho;simp only [bff,ho]
 have kde: ∀{j:Nat} {o:Oper},ops[j]?=some o->kdf j=kindOf tt o.op:=by intro j o ho;simp only [kdf,ho]
 have kdE: ∀{j:Nat},kdf j= .e->∃o,ops[j]?=some o/\kindOf tt o.op= .e:=by
  intro j hj
  cases ho:ops[j]? with
  |none=>simp only [kdf,ho] at hj; simp at hj
  |some o=>exact⟨o,rfl,by rw [<- kde ho]; exact hj⟩
 have abu: ∀(k:Nat),∀(o':Oper),ops[k]?=some o'->∀b,(ms.getD k 0).testBit b=true->b<k:=by
  intro k
  induction k using Nat.strongRecOn with
  |_ k ih=>
   intro o' E4 b zl;rw [sf.mask k o' (by rw [jv]; exact E4)] at zl;obtain⟨e,e1,e2,e3⟩:=ra zl;have e1':e∈o'.after:=by simpa using e1
   have anO:=sf.back k o' (by rw [jv]; exact E4) e e1' e2;rcases e3 with rfl|e3
   ·exact anO
   ·have:=gB E4;have:=ih e.on anO (ops[e.on]'J) ad b e3;omega
 have anX: ∀(i:Nat),∃S:Tr AV,∀(o:Oper),ops[i]?=some o->∃dp Ze v ob pre,dp.bC=S/\IC P ρ ops base N (Cr tt ops.toList ms i o) dp v ob Ze/\d.vs.reverse[i]?=some v/\d.Ea.reverse[i]?=some ob/\d.nv=pre++Ze.nv/\dp.nv.length=1+kz tt (ops.toList.take i)/\
  (∀q,q∈dp.iP->q∈d.iP)/\(∀t x,S.get t=some x->(∃p oj,p<i/\ops[p]?=some oj/\oj.dst=some t/\d.vs.reverse[p]?=some x)\/(rC.get t=some x/\∀(p:Nat) (oj:Oper),p<i->ops[p]?=some oj->oj.dst≠some t)):=by
  intro i
  cases hoi:ops[i]? with
  |none=>exact⟨.nil,fun o h=>by simp at h⟩
  |some o0=>
   have hx:(items tt ops.toList ms ops.toList 0 0)[i]?=some (Cr tt ops.toList ms i o0):=jf (by rw [jv]; exact hoi);obtain⟨dp,Ze,v,ob,pre,g1,g2,g3,g4,g5,g6,g7,g8⟩:=rf.at_ i _ hx;refine⟨dp.bC,fun o ho=>?_⟩;simp only [ah] at ho;subst ho;refine⟨dp,Ze,v,ob,pre,rfl,g1,by simpa using g2,by simpa using g3,g4,?_,g6,?_⟩
   ·rw [g5];congr 1
    have:(items tt ops.toList ms ops.toList 0 0).take i=items tt ops.toList ms (ops.toList.take i) 0 0:=by
     apply awL;intro j;rw [awy,kQ,kQ,awy];split
     ·rename_i hj;rw [List.take_take,Nat.min_eq_left J]
     ·rfl
    rw [this,oF]
   ·intro t x ht;rcases g8 t x ht with ⟨p,y,q1,q2,q3,q4⟩|⟨q1,q2⟩
    ·cases rk:ops.toList[p]? with
     |none=>rw [kQ,rk] at q2; simp at q2
     |some oj=> rw [jf rk] at q2;simp at q2;subst q2;exact .inl ⟨p,oj,q1,by rw [<- jv]; exact rk,q3,by simpa using q4⟩
    ·refine .inr ⟨q1,fun p oj hp rk=>?_⟩
     have hm:Cr tt ops.toList ms p oj∈(items tt ops.toList ms ops.toList 0 0).take i:=by refine bq (i:=p) ?_;rw [awy,ag hp];exact jf (by rw [jv]; exact rk)
     exact q2 _ hm
 obtain⟨Sd,gD⟩:=Classical.skolem.1 anX
 let Sf:Nat->Tr AV:=fun i=>match ops[i]? with
  |some o=>(match kindOf tt o.op with
   | .r=>only d.bC (reads ops.toList o)
   |_=>only (Sd i) (reads ops.toList o))
  |none=> .nil
 have SfR: ∀{i:Nat} {o:Oper},ops[i]?=some o->kindOf tt o.op= .r->Sf i=only d.bC (reads ops.toList o):=by intro i o ho hk;simp only [Sf,ho,hk]
 have SfN: ∀{i:Nat} {o:Oper},ops[i]?=some o->kindOf tt o.op≠.r->Sf i=only (Sd i) (reads ops.toList o):=by
  intro i o ho hk;have:Sf i=(match kindOf tt o.op with | .r=>only d.bC (reads ops.toList o)|_=>only (Sd i) (reads ops.toList o)):=by simp only [Sf,ho]
  rw [this]
  cases hh:kindOf tt o.op with
  |r=>exact absurd hh hk
  |pa=>rfl
  |e=>rfl
 have afV: ∀a b,(a,b)∈d.iP->NB a=some b:=by
  intro a b N4;rcases rf.oN a b N4 with h|⟨p,x,g1,g2,g3⟩
  ·simp at h
  ·cases ho:ops.toList[p]? with
   |none=>rw [kQ,ho] at g1; simp at g1
   |some o=> rw [jf ho] at g1;simp at g1;subst g1;have:p=a:=g2;subst this;simp only [bj,aK] at g3;simp only [NB,g3,az]
 have asa: ∀a b,NB a=some b->(a,b)∈d.iP:=by
  intro a b N4
  have v8:d.Ea.reverse[a]?=some (some b):=by
   simp only [NB] at N4
   cases hh:d.Ea.reverse[a]? with
   |none=>rw [hh] at N4; simp at N4
   |some x=>rw [hh] at N4; simp at N4; rw [N4]
  obtain⟨po,o1,o2⟩:=rf.Ea
  have hal:a<ops.size:=by have U:=(a8.1 v8).1;rw [axt,o1,av4,o2,vk] at U;simpa using U
  have hx:(items tt ops.toList ms ops.toList 0 0)[a]?=some (Cr tt ops.toList ms a ops[a]):=jf (by rw [jv]; simp [hal]);exact rf.avi a _ b hx (by simpa using v8)
 refine⟨{
  base:=base,bf:=bff,kd:=kdf,S:=Sf,val:=fun i=>(d.vs.reverse[i]?).getD .wz,st:=fun i=>kz tt (ops.toList.take i),nE:=kz tt ops.toList,hp:=hpf,un:=unf,oN:=NB,
  gen:=?_,back:=?_,dst:=?_,bC:=?_,stl:=?_,inj:=?_,aqJ:=?_,pa:=?_,ev:=?_,rd:=?_,unm:=?_,nob:=?_,first:=?_ },rfl,rfl,fun i=>rfl,hpe,fun i=>rfl,?_⟩
 ·intro i j h
  cases ho:ops[j]? with
  |none=>simp only [bff,ho] at h; simp at h
  |some o=>
   rw [bfe ho,sf.mask j o (by rw [jv]; exact ho)] at h;obtain⟨e,e1,e2,e3⟩:=ra h;have e1':e∈o.after:=by simpa using e1
   refine⟨o,e,rfl,e1',e2,e3.imp id fun h3=>?_⟩;have hl:=sf.back j o (by rw [jv]; exact ho) e e1' e2;have hj:=gB ho;rw [bfe (o:=ops[e.on]'J) ad];exact h3
 ·intro j o ho e he zl;exact sf.back j o (by rw [jv]; exact ho) e he zl
 ·intro i j oi oj dd hi hj U Z;exact sf.dst i j oi oj dd (by rw [jv]; exact hi) (by rw [jv]; exact hj) U Z
 ·intro i o ho t x ht
  cases hk:kindOf tt o.op with
  |r=>
   rw [SfR ho hk] at ht;obtain⟨U,Z⟩:=Bj ht;rcases rf.slot t x Z with ⟨p,y,g1,g2,g3⟩|⟨g1,g2⟩
   ·cases rk:ops.toList[p]? with
    |none=>rw [kQ,rk] at g1; simp at g1
    |some oj=>
     rw [jf rk] at g1;simp at g1;subst g1;have hp:ops[p]?=some oj:=by rw [<- jv]; exact rk
     refine .inl ⟨p,oj,?_,hp,g2,?_⟩
     ·rw [bfe ho];rcases sf.rd i o (by rw [jv]; exact ho) t U p oj rk g2 with h|⟨h,_⟩
      ·exact h
      ·exact absurd hk h
     ·simp only [bj,aK] at g3;simp only [g3,az]
   ·refine .inr ⟨g1,fun j oj rk V=>?_⟩;exact absurd V (g2 _ (bq (jf (by rw [jv]; exact rk))))
  |_=>
   rw [SfN ho (by rw [hk]; simp)] at ht;obtain⟨U,Z⟩:=Bj ht;obtain⟨dp,Ze,v,ob,pre,_,_,_,_,_,_,_,g8⟩:=gD i o ho;rcases g8 t x Z with ⟨p,oj,q1,q2,q3,q4⟩|⟨q1,q2⟩
   ·refine .inl ⟨p,oj,?_,q2,q3,by rw [q4]; rfl⟩;rw [bfe ho];rcases sf.rd i o (by rw [jv]; exact ho) t U p oj (by rw [jv]; exact q2) q3 with h|⟨_,h⟩
    ·exact h
    ·have:=abu p oj q2 i h;omega
   ·refine .inr ⟨q1,fun j oj rk V=>?_⟩;rw [bfe rk];rcases sf.rd i o (by rw [jv]; exact ho) t U j oj (by rw [jv]; exact rk) V with h|⟨_,h⟩
    ·exact absurd V (q2 j oj (abu i o ho j h) rk)
    ·exact h
 ·intro j o ho hk;rw [kde ho] at hk;rw [Ku];exact Nw (by rw [jv]; exact ho) hk (gB ho)
 ·intro i j hi hj he;obtain⟨oi,hoi,hki⟩:=kdE hi;obtain⟨oj,rk,hkj⟩:=kdE hj;rcases axr i j with h|h|h
  ·have:=Nw (tt:=tt) (l:=ops.toList) (by rw [jv]; exact hoi) hki h;omega
  ·exact h
  ·have:=Nw (tt:=tt) (l:=ops.toList) (by rw [jv]; exact rk) hkj h;omega
 ·intro j o ho hk m hm;obtain⟨i,oi,U,Z,h3,h4⟩:=yT hm;rw [kde ho] at hk;have h2':ops[i]?=some oi:=by rw [<- jv]; exact Z
  refine⟨i,by rw [kde h2']; exact h3,h4,?_⟩;rw [bfe ho];exact sf.tot i j oi o Z (by rw [jv]; exact ho) h3 hk U
 ·intro i o ho hk;rw [kde ho] at hk;obtain⟨dp,Ze,v,ob,pre,hdp,hF,g2,g3,g4,g5,g6,g7⟩:=gD i o ho;obtain⟨h0,mm,rest,hs,hF⟩:=hF;simp only [Cr,hk] at hF;obtain⟨_,HA,f1,f2,f3⟩:=hF;rw [hdp] at f1;refine⟨HA,N,?_,f2,?_,?_⟩
  ·rw [SfN ho (by rw [hk]; simp)];simp only [g2,az];exact f1
  ·simp only [NB,g3,az];exact f3
  ·intro k IN;obtain⟨Z,mm2,hh⟩:=arP k IN;rw [(hpe _ _ _ hh).1];exact (anN _ _ _ hh).1
 ·intro j o ho hk;rw [kde ho] at hk;obtain⟨dp,Ze,v,ob,pre,hdp,hF,g2,g3,g4,g5,g6,g7⟩:=gD j o ho;obtain⟨h0,mm,rest,hs,hF⟩:=hF;simp only [Cr,hk] at hF;obtain⟨_,hn,f1,f2,f3,f4⟩:=hF;rw [hdp] at f4;rw [f1,hs] at g4;have hrl:rest.length=kz tt (ops.toList.take j):=by rw [hs] at g5; simp at g5; omega
  obtain⟨r1,r2⟩:=afj g4;rw [hrl] at r1 r2;obtain⟨p1,p2⟩:=hpe _ _ _ r1;obtain⟨p3,p4⟩:=hpe _ _ _ r2;refine⟨fZ base (ms.getD j 0) mm dp.iP h0,?_,?_,?_,?_,?_⟩
  ·rw [SfN ho (by rw [hk]; simp)];simp only [g2,az,p3];exact f4
  ·rw [(kA _ _).1,p1]
  ·rw [(kA _ _).2];exact (anN _ _ _ r1).2
  ·intro id x hx;rcases te hx with h|⟨a,a1,a2,a3,a4⟩
   ·left; rw [p1]; exact h
   ·right;exact⟨a,by rw [bfe ho]; exact a2,by rw [p2,a3]; rfl,a4,afV a x (g6 _ a1)⟩
  ·intro a ha;rw [p4] at ha;simp only [Nat.testBit_or,Bool.not_or,aq,awe] at ha;refine⟨by rw [p2,ha.1]; rfl,?_⟩;rw [bfe ho];exact ha.2
 ·intro i o ho hk k hkn U Z;rw [kde ho] at hk;have YP:Cr tt ops.toList ms i o∈items tt ops.toList ms ops.toList 0 0:=bq (jf (by rw [jv]; exact ho))
  obtain⟨v,g1,g2⟩:=Tz (Cr tt ops.toList ms i o,CN (items tt ops.toList ms ops.toList 0 0) (kz tt ops.toList) (Cr tt ops.toList ms i o)) (by
   rw [aW]
   exact⟨_,awk.2 ⟨YP,by simp [Cr,hk,Kind.isR]⟩,rfl⟩)
  have Wv:k∈CN (items tt ops.toList ms ops.toList 0 0) (kz tt ops.toList) (Cr tt ops.toList ms i o):=by
   unfold CN;rw [awk,av2];refine⟨J,aP.2 fun y hy=>?_⟩;obtain⟨j,oj,rk,rfl⟩:=Ko hy;have afU:ops[j]?=some oj:=by rw [<- jv]; exact rk
   cases hkj:kindOf tt oj.op with
   |pa=>simp [Cr,hkj,Kind.isE]
   |r=>simp [Cr,hkj,Kind.isE]
   |e=>
    simp only [Cr,hkj,Kind.isE,awQ,awB,aq,awd,awe,decide_eq_true_eq];constructor
    ·cases anV:(ms.getD i 0).testBit j with
     |false=>exact .inl rfl
     |true=>exact .inr (U j (by rw [kde afU]; exact hkj) (by rw [bfe ho]; exact anV))
    ·cases anV:(ms.getD j 0).testBit i with
     |false=>exact .inl rfl
     |true=>exact .inr (Z j oj afU (by rw [kde afU]; exact hkj) (by rw [bfe afU]; exact anV))
  obtain⟨h0,mm,g3,g4⟩:=g2 k Wv;obtain⟨p1,p2⟩:=hpe _ _ _ g3;refine⟨fZ base (ms.getD i 0) mm d.iP h0,?_,?_,?_,?_⟩
  ·have g1':d.vs.reverse[i]?=some v:=g1;rw [SfR ho hk];simp only [g1',az];exact g4
  ·rw [(kA _ _).1,p1]
  ·rw [(kA _ _).2];exact (anN _ _ _ g3).2
  ·intro id x hx;rcases te hx with h|⟨a,a1,a2,a3,a4⟩
   ·left; rw [p1]; exact h
   ·right;exact⟨a,by rw [bfe ho]; exact a2,by rw [p2,a3]; rfl,a4,afV a x a1⟩
 ·intro k a x hk hx hu;obtain⟨h0,mm,hh⟩:=arP k hk;obtain⟨p1,p2⟩:=hpe _ _ _ hh;rw [p1];rw [p2] at hu;unfold Lm at hun;have:=aP.1 hun _ (asa a x hx)
  have:=aP.1 this (h0,mm) (by
   have:=bq hh
   simpa using this)
  simp only [awd,Option.isNone_iff_eq_none] at this;simp only [awe] at hu;rcases this with h|h
  ·rw [hu] at h; simp at h
  ·exact h
 ·intro i hk
  cases ho:ops[i]? with
  |none=>
   obtain⟨po,o1,o2⟩:=rf.Ea
   have Ws:d.Ea.reverse[i]?=none:=by rw [awN,axt,o1,av4,o2,vk];have:=axH.1 ho;simpa using this
   simp only [NB,Ws,awE]
  |some o=>
   obtain⟨dp,Ze,v,ob,pre,hdp,hF,g2,g3,g4,g5,g6,g7⟩:=gD i o ho;obtain⟨h0,mm,rest,hs,hF⟩:=hF;rw [kde ho] at hk
   cases BG:kindOf tt o.op with
   |pa=>exact absurd BG hk
   |e=> simp only [Cr,BG] at hF;simp only [NB,g3,az,hF.1]
   |r=> simp only [Cr,BG] at hF;simp only [NB,g3,az,hF.1]
 ·have:=(hpe 0 _ _ auC).1;refine⟨hb,by rw [this]; exact aw _,fun id x h=>?_⟩;rw [this] at h;exact h
 ·intro m hm;have I1:m<kz tt (ops.toList.take ops.size):=by rw [<- Ku]; exact hm
  obtain⟨i,oi,U,Z,h3,h4⟩:=yT I1;have h2':ops[i]?=some oi:=by rw [<- jv]; exact Z
  exact⟨i,oi,h2',by show kdf i=_; rw [kde h2']; exact h3,h4⟩
end
section
variable {tt:TT} {call:eT}
section
variable {P:Program}
theorem H4 [bN] (cX:eS P tt) (hc:iZ P call) {ops:Array Oper} {E:En} {s s':St} {a:Act} {w:World} {Q:Exit->Act->World->Prop}
 (V: ∀o∈ops.toList,∀d,o.dst=some d->d<a.tmps.size) (fit:Fit E s a w) (h:(draw tt call ops.toList s).leaf E.ρ=some s') (hq: ∀a' w',oO E s a w s' a' w'->Q .normal a' w') :
 wpAny P .any ops Q ops.size (Array.replicate ops.size false) a { w with drawn:=w.drawn+1 }:=by
 unfold draw H5 at h;split at h
 ·simp [T.leaf] at h
 ·rename_i q hq0;split at h
  ·simp [T.leaf] at h
  ·rename_i wC;simp only at h;obtain⟨⟨jS,d⟩,U,Z⟩:=T.fI h;simp only at Z;obtain⟨ms,e1,e2,e3,sf⟩:=ae6 hq0;rw [e1,] at U;have rf:=WZ cX hc _ fit.pc U;have jx:=WY _ fit.pc U;split at Z
   ·simp [T.leaf] at Z
   ·rename_i h0 mm rest auB;obtain⟨qU,h3,h4⟩:=T.fI Z;split at h4
    ·rename_i hun;have:=bE h4;subst this
     have arR:=JN cX hc q.rs jx (by
      intro r hr;rw [e3,aW] at hr;obtain⟨x,hx,rfl⟩:=hr;rw [awk,e1] at hx;obtain⟨j,o,ho,rfl⟩:=Ko hx.1;have h5:(kindOf tt o.op).isR=true:=hx.2;show kindOf tt o.op= .r;revert h5
      cases kindOf tt o.op<;>simp [Kind.isR]) h3
     have qp:=arR.1;have Tz:=arR.2;rw [e3,e1,e2] at Tz;obtain⟨p,p1,p2,p3,p4,p5,p6⟩:=afp sf (base:=s.h.next) (H0:=s.h) rfl (Nat.le_add_right _ _) rf Tz hun;have jv: ∀(j:Nat),ops.toList[j]?=ops[j]?:=fun j=>avW;let w1:World:={ w with drawn:=w.drawn+1 };have ava:Fit E s a w1:=⟨⟨fit.rel.fresh,fit.rel.res,fit.rel.live,fit.rel.inj,fit.rel.xl,fit.rel.mI⟩,fit.sr,fit.pc⟩
     have ar1: ∀(i:Nat),(Array.replicate ops.size false)[i]?≠some true:=by
      intro i hh
      grind
     refine p.any (E0:=E) (a0:=a) (w0:=w1) V ?_ ops.size _ a w1 ad ?_ (p.start rfl rfl rfl ava _ ar1)
     ·intro a' w' inv;obtain⟨ps,s1,s2⟩:=rf.nv;rw [oF] at s2
      have hlen:rest.length=kz tt ops.toList:=by
       have:d.nv.length=kz tt ops.toList+1:=by rw [s1,bd,s2]; rfl
       grind
      have ajX:d.nv.reverse[kz tt ops.toList]?=some (h0,mm):=by
       grind
      obtain⟨q1,q2⟩:=p4 _ _ _ ajX
      have hnx:=rf.nxt (by
       intro q hq;simp only [aH,awa,or_false] at hq;subst hq
       exact⟨Nat.le_add_right _ _,rfl⟩) (h0,mm) (by rw [auB]; simp)
      have ht:=p.finish (s0:=s) (s':=⟨d.bC,fZ s.h.next ((1 <<<ops.toList.length)-1) mm d.iP h0,qU⟩) (w0:=w1) rfl inv qp ?_ ?_ ?_ ?_ p6
      ·refine hq a' w' ⟨ht.defers,ht.size,?_⟩;obtain⟨E',st,f'⟩:=ht.step;exact⟨E',⟨st.ρ,st.dm,st.θ,st.κ,st.ro,st.D0,st.nxm,st.rsm,st.dmn,st.os,st.tape,st.output,st.size,st.du,st.own⟩,f'⟩
      ·intro t x ht;rcases rf.slot t x ht with ⟨j,y,g1,g2,g3⟩|⟨g1,g2⟩
       ·cases rk:ops.toList[j]? with
        |none=>rw [kQ,rk] at g1; simp at g1
        |some oj=>
         rw [jf rk] at g1;simp at g1;subst g1;refine .inl ⟨j,oj,by rw [<- jv]; exact rk,g2,?_⟩
         grind
       ·refine .inr ⟨g1,fun j oj rk=>?_⟩;exact g2 _ (bq (jf (by rw [jv]; exact rk)))
      ·intro id x hx;rw [p2,q1,p1];rcases te hx with h|⟨b,b1,b2,b3,b4⟩
       ·grind
       ·right
        have gB:b<ops.size:=by
         have:=X6 b2
         grind
        refine⟨b,gB,by rw [q2,b3]; rfl,b4,?_⟩;rcases rf.oN b x b1 with h|⟨j,y,g1,g2,g3⟩
        ·grind
        ·cases rk:ops.toList[j]? with
         |none=>rw [kQ,rk] at g1; simp at g1
         |some oj=>
          rw [jf rk] at g1;simp at g1;subst g1;have:j=b:=g2
          grind
      ·rw [p2,q1];exact (kA _ _).1.symm
      ·show (fZ s.h.next ((1 <<<ops.toList.length)-1) mm d.iP h0).res=none;rw [(kA _ _).2]
       grind
     ·have: ∀(l:Nat->Bool) (n:Nat),left l n<=n:=by
       intro l n
       induction n with
       |zero=>exact aw _
       |succ n ih=>simp only [left]; split<;>omega
      grind
    ·simp [T.leaf] at h4
theorem agm [bN] (cX:eS P tt) (hm:P.follows .mixedOrders=true) (hc:iZ P call):agK P (draw tt call):=by intro id ops E s s' a w Q V fit h hq;exact wp_region_any hm (H4 cX hc V fit h hq)
end
end
end Go.As
end
section
namespace Go.As
section
variable {w:World} {g:FuncId} {f:List AV->St->T (AV×St)} {fn:Func} {c:Code} {ρ:Nat->Int} {ro:Nat->Prop} {args:List AV} {vals:List Value}
noncomputable section
open Go.RowKit
section
variable {P:Program}
def En.zero (ρ:Nat->Int) (ro:Nat->Prop):En:={ ρ:=ρ,θ:=fun _=>(0,0),κ:=fun _=>0,dm:=fun _=>False,ro:=ro }
def Hp.zero:Hp:=⟨.nil,0,none⟩
theorem Om [bN] (ρ:Nat->Int) (ro:Nat->Prop) (w:World) (h: ∀b,ro b->b<w.heap.size) (hg:bN.ok ρ ro w.heap):bV (En.zero ρ ro) Hp.zero w:=
 ⟨fun _ _ h=>h,by simp [Hp.zero],fun id o h=>by simp [Hp.zero,Hp.get,Tr.get] at h,fun id _ o _ h=>by simp [Hp.zero,Hp.get,Tr.get] at h,h,hg⟩
theorem fD.below {E E':En} {H':Hp} {w':World} (s:fD E Hp.zero w E' H' w'):Below w.heap.size w w':=
 ⟨s.os,s.tape,s.output,s.size,fun k hk=>s.du k hk fun id o h=>by simp [Hp.zero,Hp.get,Tr.get] at h⟩
theorem Ci [bN] (hf:ly P g f) (wJ:P.funcs[g]?=some fn) (mD:(fn.name == "runtime.NumGoroutine")=false) (Dq:fn.body=some c) (p7: ∀b,ro b->b<w.heap.size) (hg:bN.ok ρ ro w.heap) (hv:cJ (En.zero ρ ro) w.heap args vals) {v:AV} {s':St}
 (h:(f args ⟨.nil,Hp.zero,[]⟩).leaf ρ=some (v,s')):Calls P g vals.toArray w fun e w'=> ∃u E',e= .returned u/\VR E' w'.heap v u/\E'.ρ=ρ/\Below w.heap.size w w':=by
 obtain⟨_,_,h3⟩:=hf args ⟨.nil,Hp.zero,[]⟩ (En.zero ρ ro) w vals v s' (Om ρ ro w p7 hg) hv (by simp [cz]) h
 have mY:(callFunc g vals.toArray).run P w= .ok (.enter g vals.toArray) w:=by unfold callFunc;simp [wJ,Dq,by simpa using mD]
 unfold mO qn at h3;rw [mY] at h3;exact Calls.mono h3 fun e w' ⟨u,he,E',st,_,hv⟩=> ⟨u,E',he,hv,st.ρ,st.below⟩
end
end
end
end Go.As
end
section
namespace Go.As
section
variable {f:List AV->St->T (AV×St)}
noncomputable section
open Go.RowKit
mutual
def jk:AV->Bool
 | .bool (.lit _)=>true
 | .int _ (.lit _)=>true
 | .str _=>true
 | .wz=>true
 | .ij=>true
 | .vf=>true
 | .zf=>true
 | .Aq=>true
 | .iface _ v=>jk v
 | .agg cs=>qi cs
 | .tuple cs=>qi cs
 | .func _ fs cs=>qi fs&&qi cs
 |_=>false
def qi:List AV->Bool
 |[]=>true
 |x::xs=>jk x&&qi xs
end
section
variable {P:Program}
mutual
theorem yV {E E':En} {h h':Array Obj}: ∀(x:AV) (u:Value),jk x=true->VR E h x u->VR E' h' x u
 | .bool b,u,hc,hv=>by cases b<;>simp [jk] at hc; simpa [VR,SB.den] using hv
 | .int k e,u,hc,hv=>by cases e<;>simp [jk] at hc; simpa [VR,Y.den] using hv
 | .str s,u,_,hv=>by simp only [VR] at *; exact hv
 | .wz,u,_,hv=>by simp only [VR] at *; exact hv
 | .ij,u,_,hv=>by simp only [VR] at *; exact hv
 | .vf,u,_,hv=>by simp only [VR] at *; exact hv
 | .zf,u,_,hv=>by simp only [VR] at *; exact hv
 | .Aq,u,_,hv=>by simp only [VR] at *; exact hv
 | .iface t x,u,hc,hv=>by simp only [VR,jk] at *;obtain⟨y,U,Z⟩:=hv;exact⟨y,U,yV x y hc Z⟩
 | .agg cs,u,hc,hv=>by exact ahQ
 | .tuple cs,u,hc,hv=>by exact ahQ
 | .func fn fs cs,u,hc,hv=>by simp only [VR,jk,aq] at *;obtain⟨us,ws,U,Z,h3⟩:=hv;exact⟨us,ws,U,sq fs us hc.1 Z,sq cs ws hc.2 h3⟩
 | .ptr _ _,_,hc,_=>by simp [jk] at hc
 | .pe _,_,hc,_=>by simp [jk] at hc
 | .slice _ _ _ _,_,hc,_=>by simp [jk] at hc
 | .ro _ _ _,_,hc,_=>by simp [jk] at hc
 | .map _,_,hc,_=>by simp [jk] at hc
 | .O8 _,_,hc,_=>by simp [jk] at hc
 | .zG _ _,_,hc,_=>by simp [jk] at hc
theorem sq {E E':En} {h h':Array Obj}: ∀(xs:List AV) (us:List Value),qi xs=true->cJ E h xs us->cJ E' h' xs us
 |[],us,_,hv=>by simp only [cJ] at *; exact hv
 |x::xs,us,hc,hv=>by simp only [cJ,qi,aq] at *;obtain⟨u,vs,U,Z,h3⟩:=hv;exact⟨u,vs,U,yV x u hc.1 Z,sq xs vs hc.2 h3⟩
end
theorem yY [bN] {E:En} {H:Hp} {w w':World} (r:bV E H w) (b:Below w.heap.size w w'):fD E H w E H w'/\bV E H w':=by have hk:lr E w.heap E w'.heap:=⟨rfl,fun _ h=>h,fun _ _=>rfl,fun _ _=>rfl,fun _ h=>h,fun x hx=>b.block x (r.xl x hx)⟩;refine⟨⟨rfl,fun _ h=>h,fun _ _=>rfl,fun _ _=>rfl,fun _ h=>h,fun _ h=> .inl h,aw _,.inr rfl,fun _ h=> .inl h,b.os,b.tape,b.output,b.size,fun x hx _=>b.block x hx,fun id o h _=> ⟨id,o,h,rfl⟩⟩,r.fresh,r.res,fun id o h=>?_,r.inj,fun x hx=>awi (r.xl x hx) b.size,bN.du r.mI hk.ro hk.Gx⟩;obtain⟨U,Z,h3⟩:=r.live id o h;exact⟨U,Z.du hk U (b.block _ (iz r h)),h3⟩
def IY (args:List AV) (v:AV):List AV->St->T (AV×St):=fun avS s=>if jd avS args then .ret (v,s) else .fail
def Kv (args:List AV) (v:AV) (f:List AV->St->T (AV×St)):Bool:=
 qi args&&jk v&&(match f args ⟨.nil,Hp.zero,[]⟩ with | .ret (u,_)=>eY u v|_=>false)
theorem Fx [bN] {g:FuncId} (hf:ly P g f) {fn:Func} (wJ:P.funcs[g]?=some fn) (mD:(fn.name == "runtime.NumGoroutine")=false) {c:Code} (hb:fn.body=some c)
 {args:List AV} {v:AV} (h:Kv args v f=true):ly P g (IY args v):=by
 intro avS s E w vals u s' r hv hp hl;unfold IY at hl;split at hl
 ·rename_i hs;have:=bE hl;simp only [an] at this;obtain⟨rfl,rfl⟩:=this;rw [gk _ _ hs] at hv;unfold Kv at h;simp only [aq] at h;obtain⟨⟨U,Z⟩,h3⟩:=h;split at h3
  ·rename_i u' s1 mY;have hu:=lS _ _ h3;subst hu;have hc:=Ci hf wJ mD hb (ρ:=E.ρ) (ro:=E.ro) (w:=w) r.xl r.mI (sq args vals U hv) (v:=u') (s':=s1) (by rw [mY]; rfl);refine⟨rfl,hp,?_⟩
   have mY:(callFunc g vals.toArray).run P w= .ok (.enter g vals.toArray) w:=by unfold callFunc;simp [wJ,hb,by simpa using mD]
   unfold mO qn;rw [mY];exact Calls.mono hc fun e w' ⟨x,E',he,hx,_,oK⟩=> ⟨x,he,E,(yY r oK).1,(yY r oK).2,yV u' x Z hx⟩
  grind
 ·simp [T.leaf] at hl
def orElse (f g:List AV->St->T (AV×St)):List AV->St->T (AV×St):=fun avS s=>match f avS s with | .fail=>g avS s|x=>x
theorem yC [bN] {id:FuncId} {g:List AV->St->T (AV×St)} (hf:ly P id f) (hg:ly P id g):ly P id (orElse f g):=by
 intro avS s E w vals u s' r hv hp hl;unfold orElse at hl;split at hl
 ·exact hg avS s E w vals u s' r hv hp hl
 ·exact hf avS s E w vals u s' r hv hp hl
end
end
end
end Go.As
end
section
namespace Go.As
section
variable {g:FuncId} {fn:Func}
noncomputable section
open Go.RowKit
section
variable {P:Program}
theorem yN {e:Array Value->Sem Value} (hf:P.funcs[g]?=some fn) (mD:(fn.name == "runtime.NumGoroutine")=false) (hb:fn.body.isNone=true) (hn:Extern.findNext fn=none) (he:Extern.find fn=some e)
 {args:Array Value} {w:World} {u:Value} (hr:(e args).run P w= .ok u w):(callFunc g args).run P w= .ok (.value u) w:=by
 have Dq:fn.body=none:=by simpa using hb
 unfold callFunc;simp [hf,Dq,by simpa using mD,hn,he,hr]
def Ij (c:Nat):List Nat->Nat
 |[]=>0
 |x::xs=>if x.beq c then Ij c xs+1 else Ij c xs
def Dj:List AV->St->T (AV×St):=fun args s=>match args with
 |[.str b,.int .u8 (.lit (.ofNat c))]=>if c<256 then .ret (.int .i64 (.lit (Int.ofNat (Ij c b))),s) else .fail
 |_=> .fail
theorem Lr {a b:Nat} (ha:a<256) (hb:b<256):(UInt8.ofNat a == UInt8.ofNat b)=a.beq b:=by
 rw [awb];simp only [beq_iff_eq,Nat.beq_eq];constructor
 ·intro h;have:=congrArg UInt8.toNat h;simp only [awl] at this;omega
 grind
theorem KV {c:Nat} (hc:c<256): ∀{s:List Nat},(∀b∈s,b<256)->Lib.countByte (s.map UInt8.ofNat) (UInt8.ofNat c)=Ij c s
 |[],_=>rfl
 |x::xs,h=>by
  have ih:=KV hc (s:=xs) fun b hb=>h b (by simp [hb]);unfold Lib.countByte at *;rw [aF,List.count_cons,ih,Lr (h x ad) hc];simp only [Ij]
  grind
theorem adS [bN] (hf:P.funcs[g]?=some fn) (mD:(fn.name == "runtime.NumGoroutine")=false) (hb:fn.body.isNone=true) (hn:Extern.findNext fn=none) (he:Extern.find fn=some Extern.BytealgCount.count):ly P g Dj:=by
 intro avS s E w vals u s' r hv hp hl;unfold Dj at hl;split at hl
 ·rename_i b c;split at hl
  ·rename_i hc;have:=bE hl;simp only [an] at this;obtain⟨rfl,rfl⟩:=this;simp only [cJ,VR,Y.den] at hv;obtain⟨u1,r1,rfl,⟨rfl,PI⟩,u2,r2,rfl,rfl,rfl⟩:=hv;refine⟨rfl,hp,?_⟩;unfold mO qn;rw [yN hf mD hb hn he (Lib.run_countString (dB b) (Int.ofNat c) w)];refine⟨E,fD.refl _ _ _,r,?_⟩;simp only [VR,Y.den];have:(Int.ofNat c).toNat.toUInt8=UInt8.ofNat c:=rfl;rw [this];have Z:(dB b).data.toList=b.map UInt8.ofNat:=by simp [dB]
   rw [Z,KV hc PI];rfl
  ·simp [T.leaf] at hl
 ·simp [T.leaf] at hl
def Hj (c:Nat):List Nat->Int
 |[]=> -1
 |x::xs=>if x.beq c then 0 else match Hj c xs with
  | .ofNat n=> .ofNat (n+1)
  | .negSucc n=> .negSucc n
def Di:List AV->St->T (AV×St):=fun args s=>match args with
 |[.str b,.int .u8 (.lit (.ofNat c))]=>if c<256 then .ret (.int .i64 (.lit (Hj c b)),s) else .fail
 |_=> .fail
theorem Kq {c:Nat} (hc:c<256): ∀{s:List Nat},(∀b∈s,b<256)->Lib.indexByte (s.map UInt8.ofNat) (UInt8.ofNat c)=Hj c s
 |[],_=>rfl
 |x::xs,h=>by
  have ih:=Kq hc (s:=xs) fun b hb=>h b (by simp [hb]);have YQ:=Lib.indexByte_ge (xs.map UInt8.ofNat) (UInt8.ofNat c);simp only [aF,Lib.indexByte,Hj];rw [Lr (h x ad) hc];cases x.beq c
  ·simp only [aR,if_false];rw [ih] at YQ ⊢
   cases hi:Hj c xs with
   |ofNat n=>rw [hi] at YQ; simp
   |negSucc n=>
    grind
  ·rfl
theorem abb [bN] (hf:P.funcs[g]?=some fn) (mD:(fn.name == "runtime.NumGoroutine")=false) (hb:fn.body.isNone=true) (hn:Extern.findNext fn=none) (he:Extern.find fn=some Extern.BytealgIndexByte.indexByte):ly P g Di:=by
 intro avS s E w vals u s' r hv hp hl;unfold Di at hl;split at hl
 ·rename_i b c;split at hl
  ·rename_i hc;have:=bE hl;simp only [an] at this;obtain⟨rfl,rfl⟩:=this;simp only [cJ,VR,Y.den] at hv;obtain⟨u1,r1,rfl,⟨rfl,PI⟩,u2,r2,rfl,rfl,rfl⟩:=hv;refine⟨rfl,hp,?_⟩;unfold mO qn;rw [yN hf mD hb hn he (Lib.run_indexByteString (dB b) (Int.ofNat c) w)];refine⟨E,fD.refl _ _ _,r,?_⟩;simp only [VR,Y.den];have:(Int.ofNat c).toNat.toUInt8=UInt8.ofNat c:=rfl;rw [this];have Z:(dB b).data.toList=b.map UInt8.ofNat:=by simp [dB]
   rw [Z,Kq hc PI]
  ·simp [T.leaf] at hl
 ·simp [T.leaf] at hl
def OX:List Nat->List Nat->Bool
 |[],_=>true
 |_::_,[]=>false
 |a::x,b::y=>if a.beq b then OX x y else false
def A3 (c:List Nat):List Nat->Bool
 |[]=>OX c []
 |b::bs=>if OX c (b::bs) then true else A3 c bs
def vt:List AV->St->T (AV×St):=fun args s=>match args with
 |[.str b,.str c]=>if b.length<4294967281 then .ret (.bool (.lit (A3 c b)),s) else .fail
 |_=> .fail
theorem VE: ∀{c s:List Nat},(∀b∈c,b<256)->(∀b∈s,b<256)->(c.map UInt8.ofNat).isPrefixOf (s.map UInt8.ofNat)=OX c s
 |[],_,_,_=>by simp [OX]
 |_::_,[],_,_=>by simp [OX]
 |a::x,b::y,hc,hs=>by
  have ih:=VE (c:=x) (s:=y) (fun z hz=>hc z (by simp [hz])) (fun z hz=>hs z (by simp [hz]));simp only [aF,List.isPrefixOf,OX];rw [Lr (hc a ad) (hs b ad),ih]
  grind
theorem index_ge (sub:List UInt8): ∀l:List UInt8,-1<=Lib.index l sub
 |[]=>by unfold Lib.index; split<;>omega
 |b::l=>by
  have ih:=index_ge sub l;unfold Lib.index
  grind
theorem F6 {c:List Nat} (hc: ∀b∈c,b<256): ∀{s:List Nat},(∀b∈s,b<256)->Lib.contains (s.map UInt8.ofNat) (c.map UInt8.ofNat)=A3 c s
 |[],_=>by cases c<;>simp [Lib.contains,Lib.index,A3,OX]
 |b::bs,h=>by
  have ih:=F6 hc (s:=bs) fun z hz=>h z (by simp [hz]);have hp:=VE hc h;simp only [aF] at hp;unfold Lib.contains at *;simp only [aF,Lib.index,A3]
  grind
theorem Ra [bN] (hg: ∀(ρ:Nat->Int) (ro:Nat->Prop) (w:World),bN.ok ρ ro w.heap->∀s sub:ByteArray,s.size<4294967281->Calls P g #[.string s,.string sub] w fun e w'=>e= .returned (.bool (Lib.contains s.data.toList sub.data.toList))/\w'=w)
 (mY: ∀(args:Array Value) (w:World),(callFunc g args).run P w= .ok (.enter g args) w):ly P g vt:=by
 intro avS s E w vals u s' r hv hp hl;unfold vt at hl;split at hl
 ·rename_i b c;split at hl
  ·rename_i hlen;have:=bE hl;simp only [an] at this;obtain⟨rfl,rfl⟩:=this;simp only [cJ,VR] at hv;obtain⟨u1,r1,rfl,⟨rfl,PI⟩,u2,r2,rfl,⟨rfl,TE⟩,rfl⟩:=hv;refine⟨rfl,hp,?_⟩;unfold mO qn;rw [mY];refine Calls.mono (hg E.ρ E.ro w r.mI (dB b) (dB c) (by simpa [dB,ByteArray.size] using hlen)) fun e w' ⟨he,hw⟩=>?_;subst hw;refine⟨_,he,E,fD.refl _ _ _,r,?_⟩;simp only [VR,SB.den];have Z: ∀l:List Nat,(dB l).data.toList=l.map UInt8.ofNat:=by intro l; simp [dB]
   rw [Z,Z,F6 TE PI]
  ·simp [T.leaf] at hl
 ·simp [T.leaf] at hl
end
end
end
end Go.As
end
section
namespace Go.As
section
variable {tt:TT}
noncomputable section
structure ET where
 m:Nat
 k:Kind
 st:Nat
 rd:List Nat
structure RF where
 is:List ET
 nE:Nat
 rs:List (Nat×List Nat)
def To:Kind->Kind->Bool
 | .pa,.pa=>true
 | .e,.e=>true
 | .r,.r=>true
 |_,_=>false
def Ao:List Nat->List Nat->Bool
 |[],[]=>true
 |a::x,b::y=>Nat.beq a b&&Ao x y
 |_,_=>false
def CW:List Item->List ET->Bool
 |[],[]=>true
 |x::xs,d::ds=>Nat.beq x.m d.m&&To x.k d.k&&Nat.beq x.st d.st&&Ao x.rd d.rd&&CW xs ds
 |_,_=>false
def CU:List (Item×List Nat)->List (Nat×List Nat)->Bool
 |[],[]=>true
 |(x,ks)::xs,(i,js)::ys=>Nat.beq x.i i&&Ao ks js&&CU xs ys
 |_,_=>false
def Cw:Nat->List Oper->List ET->List Item
 |i,o::os,d::ds=> ⟨i,o,d.m,d.k,d.st,d.rd⟩ ::Cw (i+1) os ds
 |_,_,_=>[]
def Yd (is:List Item):List (Nat×List Nat)->List (Item×List Nat)
 |[]=>[]
 |(i,ks)::r=>match fR is i with
  |some x=>(x,ks)::Yd is r
  |none=>Yd is r
def statOf (all:List Oper) (H:RF):Stat:=⟨Cw 0 all H.is,H.nE,Yd (Cw 0 all H.is) H.rs⟩
def xB (tt:TT) (all:List Oper) (H:RF):Bool:=match stat tt all with
 |none=>false
 |some q=>CW q.is H.is&&Nat.beq q.nE H.nE&&CU q.rs H.rs
theorem YF {a b:Kind} (h:To a b=true):a=b:=by cases a<;>cases b<;>simp [To] at h<;>rfl
theorem C5: ∀{a b:List Nat},Ao a b=true->a=b
 |[],[],_=>rfl
 |[],_::_,h=>by simp [Ao] at h
 |_::_,[],h=>by simp [Ao] at h
 |a::x,b::y,h=>by simp only [Ao,aq] at h;rw [ay h.1,C5 h.2]
theorem Kl {tt:TT} {all:List Oper} {ms:List Nat}: ∀{os:List Oper} {i n:Nat} {ds:List ET},CW (items tt all ms os i n) ds=true->items tt all ms os i n=Cw i os ds
 |[],i,n,ds,h=>by cases ds<;>simp [items,CW,Cw] at *
 |o::os,i,n,ds,h=>by
  cases ds with
  |nil=>simp [items,CW] at h
  |cons d ds=> simp only [items,CW,aq] at h;obtain⟨⟨⟨⟨U,Z⟩,h3⟩,h4⟩,h5⟩:=h;have ih:=Kl h5;simp only [items,Cw];rw [ih,ay U,YF Z,ay h3,C5 h4]
theorem VA {is:List Item}: ∀{xs:List (Item×List Nat)} {ys:List (Nat×List Nat)},(∀p∈xs,fR is p.1.i=some p.1)->CU xs ys=true->Yd is ys=xs
 |[],[],_,_=>rfl
 |[],_::_,_,h=>by simp [CU] at h
 |_::_,[],_,h=>by simp [CU] at h
 |(x,ks)::xs,(i,js)::ys,hm,h=>by simp only [CU,aq] at h;have U:=hm (x,ks) ad;simp only [Yd];rw [<- ay h.1.1,U,<- C5 h.1.2,VA (fun p hp=>hm p (by simp [hp])) h.2]
theorem Ol: ∀{i:Nat} {os:List Oper} {ds:List ET} {x:Item},x∈Cw i os ds->i<=x.i/\fR (Cw i os ds) (x.i-i)=some x
 |_,[],_,_,h=>by simp [Cw] at h
 |_,_::_,[],_,h=>by simp [Cw] at h
 |i,o::os,d::ds,x,h=>by
  simp only [Cw,aH] at h ⊢;rcases h with rfl|h
  ·simp [fR]
  ·obtain⟨U,Z⟩:=Ol h;refine⟨J,?_⟩;have:x.i-i=(x.i-(i+1))+1:=J
   rw [this];exact Z
theorem Dm {all:List Oper} {H:RF} (h:xB tt all H=true):stat tt all=some (statOf all H):=by
 unfold xB at h;split at h
 ·grind
 ·rename_i q hq;rw [hq];simp only [aq] at h;obtain⟨⟨U,Z⟩,h3⟩:=h;have hq':=hq;unfold stat at hq';simp only at hq';split at hq'
  ·simp only [ah] at hq';subst hq';have e1:=Kl U;simp only at Z h3
   have e3:Yd (Cw 0 all H.is) H.rs=_:=VA (is:=Cw 0 all H.is) (by
    intro p hp;simp only [aW,awk] at hp;obtain⟨x,⟨hx,_⟩,rfl⟩:=hp;rw [e1] at hx;have:=(Ol hx).2
    simpa using this) h3
   unfold statOf;rw [e3,<- ay Z,<- e1]
  grind
end
end
end Go.As
end

import Derived.Lib.Bytealg
import Derived.Lib.IndexMore
import Derived.Test.YteclpbehflfjiacGreatDoorAsZK0
set_option linter.unusedSectionVars false
set_option linter.unusedVariables false
set_option linter.unusedSimpArgs false
section
namespace Go.As
section
variable {H H2 H':Hp} {id ty t k off:Nat} {v ix:AV} {tt:TT} {e i:W} {s s':St} {u ui:Value} {ov:List (W×List AV)} {cs l:List AV} {o o':eL} {E':En} {w':World} {h:Array Obj}
section
variable {P:Program} {E:En} {w:World}
theorem bX.swap [bN] (r:bX E H w) (Y:H.get id=some o) (ho:OR E w.heap id o') (hg:H2.get id=some o') (hs: ∀j,j≠id->H2.get j=H.get j) (hn:H2.next=H.next) (hr:H2.res=H.res):bX E H2 w:=by
 have key: ∀j x,H2.get j=some x->∃y,H.get j=some y:=by
  intro j x hj
  grind
 refine⟨fun i hi=>r.fresh i (by rw [<- hn]; exact hi),fun q hq=>by rw [hn]; exact r.res q (by rw [<- hr]; exact hq),fun j x hj=>?_,fun i j x y hi hj he=>?_,r.wE,r.mq⟩
 ·by_cases h:j=id
  ·subst h;rw [hg] at hj;simp only [ah] at hj;subst hj;exact⟨(r.live j o Y).1,ho,(r.live j o Y).2.2⟩
  ·exact r.live j x (by rw [<- hs j h]; exact hj)
 ·obtain⟨x',hx⟩:=key i x hi;obtain⟨y',hy⟩:=key j y hj;exact r.inj i j x' y' hx hy he
structure IC (H H2:Hp):Prop where
 ab: ∀j x,H.get j=some x->∃y,H2.get j=some y
 ba: ∀j x,H2.get j=some x->∃y,H.get j=some y
 next:H2.next=H.next
 res:H2.res=H.res
theorem IC.put (Y:H.get id=some o):IC H (H.put id o'):=by
 refine⟨fun j x hj=>?_,fun j x hj=>?_,rfl,rfl⟩
 all_goals grind [Hp.bS]
theorem IC.symm (a:IC H H2):IC H2 H:=⟨a.ba,a.ab,a.next.symm,a.res.symm⟩
theorem fm.left (a:IC H H2) (s:fm E H w E' H' w'):fm E H2 w E' H' w':=
 ⟨s.ρ,s.dm,s.θ,s.κ,s.ro,fun b hb=>(s.DF b hb).imp id (Or.imp (fun⟨i,o,U,Z⟩=>by obtain⟨y,hy⟩:=a.ab i o U; exact⟨i,y,hy,Z⟩) id),by rw [a.next]; exact s.nxm,by rw [a.res]; exact s.rsm,
  fun i hi=>by rw [a.next,a.res]; exact s.dmn i hi,s.os,s.tape,s.output,s.size,fun b hb hn=>s.dq b hb fun i o ho=>by obtain⟨y,hy⟩:=a.ab i o ho; exact hn i y hy,
  fun i o ho gk=>by obtain⟨i0,o0,U,Z⟩:=s.own i o ho gk; obtain⟨y,hy⟩:=a.ab i0 o0 U; exact⟨i0,y,hy,Z⟩⟩
theorem fm.right (a:IC H' H2) (s:fm E H w E' H' w'):fm E H w E' H2 w':=
 ⟨s.ρ,s.dm,s.θ,s.κ,s.ro,s.DF,by rw [a.next]; exact s.nxm,by rw [a.res]; exact s.rsm,
  fun i hi=>by rw [a.next]; exact s.dmn i hi,s.os,s.tape,s.output,s.size,s.dq,
  fun i o ho gk=>by obtain⟨y,hy⟩:=a.ba i o ho; exact s.own i y hy gk⟩
theorem ej.of {ro:Nat->Prop} {h:Array Obj} {d:D} (f:Nat->Value): ∀(cs:List CK) (j:Nat),(∀i c,cs[i]?=some c->jI ro h c (d.V (j+i)) (f (j+i)))->ej ro h cs j d ((List.range' j cs.length).map f)
 |[],j,_=>by simp [ej]
 |c::cs,j,hh=>by
  simp only [aT,List.range'_succ,aC,ej];refine⟨f j,_,rfl,by simpa using hh 0 c ad,ej.of f cs (j+1) fun i c' hi=>?_⟩;have:=hh (i+1) c' (by simpa using hi)
  grind
theorem Rd.row {ro:Nat->Prop} {h:Array Obj} {t:Nat} {d:D} {v:Value} (r:Rd ro h (.sl t) d v) {i:Nat} {x:D} (hi:d.l[i]?=some x) :
 ∃b o cap us,v= .slice (some ⟨b,o,none⟩) d.l.length cap/\ro b/\yC ro h (rowOf t) x us/\gb h b (o+i*(rowOf t).es) us:=by
 generalize hc:CK.sl t=c at r
 cases r with
 |int k n=>simp at hc
 |bool b=>simp at hc
 |str s=>simp at hc
 |nil t=>simp [D.l] at hi
 |wL t a cap=>simp [D.l] at hi
 |one t' c b o cap ds f hr eR hb U Z=>
  simp only [CK.sl.injEq] at hc;subst hc;rw [bz] at hi ⊢;refine⟨b,o,cap,[f i],rfl,hb,?_,?_⟩
  ·rw [hr];exact⟨_,rfl,(Z i x hi).cell⟩
  ·rw [hr];intro j u hj
   grind [Row.es]
 |many t' cs b o cap rows f hr eR hb Y U Z=>
  simp only [CK.sl.injEq] at hc;subst hc;rw [bz] at hi ⊢;rw [bg,aO] at hi;obtain⟨row,ig,rfl⟩:=hi;have hlen:=Y row (bq ig);refine⟨b,o,cap,(List.range' 0 cs.length).map (f i),ad,hb,?_,?_⟩
  ·rw [hr];refine ej.of (f i) cs 0 fun j c hj=>?_;have hjl:j<row.length:=by rw [hlen]; exact (bc.1 hj).1
   have V:row[j]?=some row[j]:=aM hjl;rw [aH];have:(dL row).V j=row[j]:=by simp [D.V,V]
   rw [this];exact (Z i row j _ c ig V hj).cell
  ·rw [hr];intro j u hj;rw [bg,aO] at hj;obtain⟨k,hk,rfl⟩:=hj
   have hjl:j<cs.length:=by
    grind
   rw [List.getElem?_range' hjl] at hk;simp only [ah] at hk;obtain rfl:k=j:=J
   have V:row[k]?=some row[k]:=aM J;exact U i row k _ ig V
theorem Dm (ρ:Nat->Int) (e i:W) {x:D} (hi:i.den ρ=(k:Int)) (hx:(dec (e.den ρ)).l[k]?=some x):dec ((W.op .at e i).den ρ)=x:=by simp only [W.den,gQ.den,bG,D.at,hi,aW,hx,ax]
theorem oR (da:eP P tt) {z:Nat} (h:u7 tt ty=some z): ∃el ie,P.underlying ty=some (.slice el)/\tt el=some ie/\ie.size=z:=by
 unfold u7 at h;split at h
 ·rename_i ti hU;split at h
  ·rename_i el hk;simp only [iT,aO] at h;obtain⟨ie,np,rfl⟩:=h;exact⟨el,ie,fw (da ty ti hU) hk,np,rfl⟩
  grind
 grind
theorem TY (da:eP P tt) (hp:cA E.ρ s.pc) (hx:VR E w.heap (.eS e t) u) (Bd:VR E w.heap ix ui) (h:(Ml tt s ty t e ix).leaf E.ρ=some (v,s')) :
 s'.bC=s.bC/\s'.h=s.h/\cA E.ρ s'.pc/\∃r,(Instr.indexAt ty u ui).run P w= .ok r w/\VR E w.heap v r:=by
 unfold Ml at h;split at h
 ·rename_i kd i;split at h
  ·rename_i z hz;split at h
   ·rename_i lW;obtain⟨fy,gC,U,Z,h3⟩:=oX hp h;have:=bE h3;simp only [ak] at this;obtain⟨rfl,rfl⟩:=this;refine⟨rfl,rfl,gC,?_⟩;rw [cV] at Z;simp only [VR] at hx Bd;subst Bd;obtain⟨el,ie,hu,np,rfl⟩:=oR da hz;obtain⟨k,hk⟩ : ∃k:Nat,i.den E.ρ=(k:Int):=⟨(i.den E.ρ).toNat,J⟩;have gk:k<(dec (e.den E.ρ)).l.length:=J
    have V:(dec (e.den E.ρ)).l[k]?=some (dec (e.den E.ρ)).l[k]:=aM gk;obtain⟨b,o,cap,us,rfl,g1,g2,g3⟩:=hx.row V;refine⟨.pointer (some ⟨b,o+k*ie.size,none⟩),?_,?_⟩
    ·exact al3
    ·simp only [VR];exact⟨b,_,us,rfl,g1,by rw [gD,Dm E.ρ e i hk V]; exact g2,by rw [lW]; exact g3,g2.tK⟩
   grind [T.leaf]
  grind [T.leaf]
 grind [T.leaf]
theorem TD (da:eP P tt) (hp:cA E.ρ s.pc) {n:W} (hx:VR E w.heap (.rY id n t) u) (Bd:VR E w.heap ix ui) (h:(L7 tt s ty id t n ix).leaf E.ρ=some (v,s')) :
 s'.bC=s.bC/\s'.h=s.h/\cA E.ρ s'.pc/\∃r,(Instr.indexAt ty u ui).run P w= .ok r w/\VR E w.heap v r:=by
 unfold L7 at h;split at h
 ·rename_i kd i;split at h
  ·rename_i z hz;split at h
   ·rename_i lW;obtain⟨fy,gC,U,Z,h3⟩:=oX hp h;have:=bE h3;simp only [ak] at this;obtain⟨rfl,rfl⟩:=this;refine⟨rfl,rfl,gC,?_⟩;simp only [VR] at hx Bd;subst Bd;obtain⟨hid,m,a,cap,hn,rfl,kX,hc⟩:=hx;obtain⟨el,ie,hu,np,rfl⟩:=oR da hz;obtain⟨k,hk⟩ : ∃k:Nat,i.den E.ρ=(k:Int):=⟨(i.den E.ρ).toNat,J⟩;have gk:k<m:=J
    have ha:a=⟨(E.θ id).1,(E.θ id).2,none⟩:=by
     simp only [fJ] at hc
     grind
    subst ha;refine⟨.pointer (some ⟨(E.θ id).1,(E.θ id).2+k*ie.size,none⟩),?_,?_⟩
    ·exact al3
    ·simp only [VR]
     grind
   grind [T.leaf]
  grind [T.leaf]
 grind [T.leaf]
theorem px {ρ:Nat->Int} {pc:List (SB×Bool)} (hp:cA ρ pc) {adX cs:List AV} {i:W} {k:Nat} (hi:i.den ρ=(k:Int)): ∀{ov:List (W×List AV)},py pc adX i ov=some cs->
 ek ρ k ov=some cs\/(ek ρ k ov=none/\cs=adX)
 |[],h=>by simp only [py,ah] at h; exact .inr ⟨rfl,h.symm⟩
 |(j,c)::l,h=>by
  simp only [py] at h;simp only [ek];split at h
  ·rename_i he
   grind [dj]
  ·split at h
   ·rename_i b V;have V:=gW hp V;rw [jx] at V;split at h
    ·grind
    ·rw [beq_eq_false_iff_ne,hi] at V;rw [af (fun q=>V q.symm)];exact px hp hi h
   grind
theorem xH {α:Type} {ρ:Nat->Int} {i:W} {r:α}: ∀{ov:List (W×List AV)} {s:St} {k:St->T α},cA ρ s.pc->(v7 i ov s k).leaf ρ=some r->∃fy,cA ρ fy/\(k { s with pc:=fy }).leaf ρ=some r
 |[],s,k,hp,h=> ⟨s.pc,hp,h⟩
 |(j,c)::l,s,k,hp,h=>by
  simp only [v7] at h;split at h
  ·exact vS
  ·obtain⟨jJ,jo,U⟩:=dh hp h;split at U
   ·grind
   ·exact xH (s:={ s with pc:=jJ }) jo U
theorem jR {ρ:Nat->Int} {r:Row} {ov:List (W×List AV)} (ho:wI r ov): ∀{ds:List D} {j k:Nat} {x:D},ds[k]?=some x->
 bH ρ r ov ds j=bH ρ r ov (ds.take k) j++((match ek ρ (j+k) ov with |some cs=>cs|none=>hZ r (.eS x))++bH ρ r ov (ds.drop (k+1)) (j+k+1))/\(bH ρ r ov (ds.take k) j).length=k*r.es
 |[],j,k,x,h=>by simp at h
 |d::ds,j,0,x,h=>by
  simp only [az,ah] at h;subst h;refine⟨?_,by simp [bH]⟩;simp only [ax2,bH,aw,awX,List.drop_succ_cons,awQ]
  try rfl
 |d::ds,j,k+1,x,h=>by
  have h':ds[k]?=some x:=by simpa using h
  have hk:k<ds.length:=(bc.1 h').1;obtain⟨U,Z⟩:=jR (ρ:=ρ) ho (j:=j+1) h';refine⟨?_,?_⟩
  ·simp only [axw,bH,bk,List.drop_succ_cons]
   grind
  grind [cW]
theorem u9 {α:Type}: ∀(a b:List α),fc a.length (a++b)=some b
 |[],_=>rfl
 |x::a,b=>by simp [fc,u9 a b]
theorem Hr {α:Type}: ∀{n:Nat} {a b l:List α},fc n a=some l->fc n (a++b)=some (l++b)
 |0,a,b,l,h=>by simp only [fc,ah] at h ⊢; rw [h]
 |n+1,[],b,l,h=>by simp [fc] at h
 |n+1,x::a,b,l,h=>by simp only [fc,aK] at h ⊢; exact Hr h
theorem Fx {α:Type}: ∀{n:Nat} {a b l:List α},iS n a=some l->iS n (a++b)=some l
 |0,a,b,l,h=>by simp only [iS] at h ⊢; exact h
 |n+1,[],b,l,h=>by simp [iS] at h
 |n+1,x::a,b,l,h=>by
  simp only [iS,aK] at h ⊢;split at h
  ·rename_i l' Y;rw [Fx Y];exact h
  grind
theorem Kj {α:Type}: ∀{a b:Nat} {l m:List α},fc a l=some m->fc (a+b) l=fc b m
 |0,b,l,m,h=>by simp only [fc,ah] at h; subst h; rw [aH]
 |a+1,b,[],m,h=>by simp [fc] at h
 |a+1,b,x::l,m,h=>by rw [show a+1+b=(a+b)+1 by omega];simp only [fc] at h ⊢;exact Kj h
noncomputable def cX (ρ:Nat->Int) (e:W) (t:Nat) (ov:List (W×List AV)):List AV:=bH ρ (rowOf t) ov (dec (e.den ρ)).l 0
theorem OR.rK {ty:TypeId}:OR E h id (.vec e t ty ov)↔(wI (rowOf t) ov/\xw (rowOf t) (dec (e.den E.ρ)))/\OR E h id (.cells (cX E.ρ e t ov) ty):=by simp only [OR,cX]
theorem bX.rK [bN] (r:bX E H w) {ty:TypeId} (Y:H.get id=some (.vec e t ty ov)):bX E (H.put id (.cells (cX E.ρ e t ov) ty)) w/\wI (rowOf t) ov/\xw (rowOf t) (dec (e.den E.ρ)):=by obtain⟨U,Z⟩:=OR.rK.1 (r.live id _ Y).2.1;exact⟨r.swap Y Z (by rw [Hp.bS,ag rfl]) (fun j hj=>by rw [Hp.bS,af hj]) rfl rfl,U⟩
theorem zl {r:Row} {x y:W} (V:dec (x.den E.ρ)=dec (y.den E.ρ)) {us:List Value}:cP E h (hZ r x) us↔cP E h (hZ r y) us:=by
 grind [gD]
theorem aee [bN] (r:bX E H w) {ty:TypeId} (Y:H.get id=some (.vec e t ty ov)) (hi:i.den E.ρ=(k:Int)) (hk:(k:Int)<(ey e).den E.ρ)
 {pc:List (SB×Bool)} (hp:cA E.ρ pc) (hc:py pc (hZ (rowOf t) (.op .at e i)) i ov=some cs) :
 ∃pre row post,cX E.ρ e t ov=pre++(row++post)/\pre.length=k*(rowOf t).es/\row.length=(rowOf t).es/\(∀h us,cP E h row us↔cP E h cs us)/\cs.length=(rowOf t).es:=by
 obtain⟨_,ho,yx⟩:=r.rK Y;rw [cV] at hk;have gk:k<(dec (e.den E.ρ)).l.length:=J
 have V:(dec (e.den E.ρ)).l[k]?=some (dec (e.den E.ρ)).l[k]:=aM gk;obtain⟨U,Z⟩:=jR (ρ:=E.ρ) ho (j:=0) V;refine⟨_,_,_,U,Z,?_⟩;rw [aH];rcases px hp hi hc with h3|⟨h3,rfl⟩
 ·rw [h3];obtain⟨p,p1,p2,_⟩:=lA h3;have:=ho p p1
  grind
 ·rw [h3];refine⟨im _ _,fun h us=>zl ?_,im _ _⟩;rw [Dm E.ρ e i hi V];simp only [W.den,bG]
theorem Ys {i:TI} {m:List AV} (h:partOf i l=some v):partOf i (l++m)=some v:=by
 unfold partOf at h ⊢;split at h
 ·rename_i ha;rw [aO] at h
  grind [Fx]
 grind
theorem JO [bN] (da:eP P tt) (r:bX E H w) {e:TypeId} (Y:H.get id=some (.cells cs e)) {ti:TI} (hU:tt ty=some ti) (V:fc off cs=some l) (hv:partOf ti l=some v) :
 ∃x,(loadVar ty ⟨(E.θ id).1,(E.θ id).2+off,none⟩).run P w= .ok x w/\VR E w.heap v x:=by
 have hld:Db tt ty (.ptr id off) H=some v:=by
  unfold Db partOf at *;rw [hU];simp only [nz,Y,V];split at hv
  ·exact hv
  ·split at hv
   ·simp only [ah] at hv;subst hv;rfl
   grind
 have hid:=(r.live id _ Y).1;obtain⟨x,b,o,U,Z,h3⟩:=Da da r (p:=.ptr id off) (u:=.pointer (some ⟨(E.θ id).1,(E.θ id).2+off,none⟩)) (by simp only [VR]; exact⟨trivial,hid⟩) hld
 grind
theorem Gq {k:IntKind}: ∀{cs:List AV} {ds:List D},Gr k cs=some ds->ds.length=cs.length/\∀(i:Nat),i<cs.length->∃n,ds[i]?=some (.i n)/\cs[i]?=some (.int k (.lit n))
 |[],ds,h=>by
  simp only [Gr,ah] at h
  grind
 |v::vs,ds,h=>by
  simp only [Gr] at h;split at h
  ·split at h
   ·rename_i k' n;split at h
    ·rename_i hk;subst hk;split at h
     ·rename_i ds' xW;simp only [ah] at h;subst h;obtain⟨U,Z⟩:=Gq xW
      grind
     grind
    grind
   grind
  grind
theorem Dh {α:Type}: ∀{i:Nat} {cs:List α} {a:α},cs[i]?=some a->∃l,fc i cs=some (a::l)
 |0,[],a,h=>by simp at h
 |0,c::cs,a,h=>by simp only [az,ah] at h; subst h; exact⟨cs,rfl⟩
 |i+1,[],a,h=>by simp at h
 |i+1,c::cs,a,h=>Dh (cs:=cs) (by simpa using h)
theorem Pp {ρ:Nat->Int} (hp:cA ρ s.pc) (h:(J9 s cs e).leaf ρ=some (v,s')) :
 s'.bC=s.bC/\s'.h=s.h/\cA ρ s'.pc/\∃(i:Nat) (k:IntKind) (n:Int) (x:W),e.den ρ=(i:Int)/\i<cs.length/\cs[i]?=some (.int k (.lit n))/\v= .int k x/\x.den ρ=n:=by
 unfold J9 at h;split at h
 ·grind [T.leaf]
 ·rename_i k hk;split at h
  ·grind [T.leaf]
  ·rename_i ds xW;obtain⟨U,Z⟩:=Gq xW;obtain⟨fy,gC,g1,g2,g3⟩:=oX hp h;simp only [T.leaf,ah,ak] at g3;obtain⟨rfl,rfl⟩:=g3;have g2':e.den ρ<(ds.length:Int):=by simpa [W.den] using g2
   have hi:e.den ρ=((e.den ρ).toNat:Int):=J
   have gk:(e.den ρ).toNat<cs.length:=J
   obtain⟨n,d1,d2⟩:=Z _ gk;refine⟨rfl,rfl,gC,_,k,n,_,hi,gk,d2,rfl,?_⟩;simp only [Cu,W.den,gQ.den,bG,D.at,bz,d1,ax,D.n]
theorem TR [bN] (da:eP P tt) (r:bX E s.h w) (hp:cA E.ρ s.pc) {es:Nat} (hx:VR E w.heap (.BJ id es i off) u) (h:(BD tt s ty id es i off).leaf E.ρ=some (v,s')) :
 s'.bC=s.bC/\s'.h=s.h/\cA E.ρ s'.pc/\∃x b o,u= .pointer (some ⟨b,o,none⟩)/\(loadVar ty ⟨b,o,none⟩).run P w= .ok x w/\VR E w.heap v x:=by
 unfold BD at h;split at h
 ·rename_i o Y;split at h
  ·rename_i cs ety;split at h
   ·rename_i ti hU;split at h
    ·simp [T.leaf] at h
    ·rename_i hb;simp only [Bool.or_eq_false_iff,Bool.not_eq_false'] at hb;have lW:=ay hb.1.2;have hof:=ay hb.2;subst lW hof;obtain⟨U,Z,h3,k,kd,n,x,g1,g2,g3,rfl,g5⟩:=Pp hp h;refine⟨U,Z,h3,?_⟩;simp only [VR] at hx;obtain⟨hid,k',hk,rfl⟩:=hx;have Bc:k'=k:=J
     subst Bc;obtain⟨l,V⟩:=Dh g3;obtain⟨y,q1,q2⟩:=JO (P:=P) da r Y hU V (v:=.int kd (.lit n)) (by unfold partOf; rw [hb.1.1]);refine⟨y,_,_,rfl,by rw [ax3,awX]; exact q1,?_⟩;simp only [VR,W.den] at q2 ⊢;rw [q2,g5]
   ·simp [T.leaf] at h
  ·rename_i e t Cf ov;split at h
   ·rename_i ti hU;split at h
    ·rename_i lW;obtain⟨pc0,hp0,U,Z,h3⟩:=oX hp h;obtain⟨fy,gC,h3⟩:=xH (s:={ s with pc:=pc0 }) hp0 h3;split at h3
     ·rename_i cs hc;split at h3
      ·rename_i l C3;obtain⟨e1,rfl⟩:=jv h3;refine⟨rfl,rfl,gC,?_⟩;simp only [VR] at hx;obtain⟨hid,k,hk,rfl⟩:=hx;obtain⟨pre,row,post,c1,c2,c3,c4,c5⟩:=aee r Y hk (by rw [<- hk]; exact Z) gC hc;obtain⟨rc,ho,yx⟩:=r.rK Y
       have ig:OR E w.heap id (.cells (pre++(cs++post)) Cf):=by have:=(rc.live id _ (by rw [Hp.bS,ag rfl])).2.1;rw [c1] at this;simp only [OR] at this ⊢;obtain⟨arr,lo,hi,us,q1,q2,q3,q4,q5,q6,q7⟩:=this;refine⟨arr,lo,hi,us,q1,?_,q3,by simp only [aZ,c3,c5] at q4 ⊢; exact q4,q5,q6,q7⟩;obtain⟨a,b,rfl,a1,a2⟩:=q2.split;obtain⟨a',b',rfl,b1,b2⟩:=a2.split;exact a1.append (((c4 _ _).1 b1).append b2)
       have r2:=r.swap (H2:=s.h.put id (.cells (pre++(cs++post)) Cf)) Y ig (by rw [Hp.bS,ag rfl]) (fun j hj=>by rw [Hp.bS,af hj]) rfl rfl
       have avT:fc (k*es+off) (pre++(cs++post))=some (l++post):=by rw [Kj (m:=cs++post) (by rw [<- lW,<- c2]; exact u9 pre _)];exact Hr C3
       obtain⟨x,g1,g2⟩:=JO da r2 (by rw [Hp.bS,ag rfl]) hU avT (Ys e1);exact⟨x,_,_,rfl,g1,g2⟩
      ·simp [T.leaf] at h3
     ·simp [T.leaf] at h3
    ·simp [T.leaf] at h
   ·simp [T.leaf] at h
  ·simp [T.leaf] at h
 ·simp [T.leaf] at h
end
end
section
variable {h:Array Obj} {ro:Nat->Prop} {c:CK} {v:AV} {id t k cap:Nat} {u:Value} {ρ:Nat->Int} {a x e:W} {r:Row} {cs:List AV} {ty:TypeId} {H:Hp}
theorem jI.rd {d:D} (r:jI ro h c d u) (wf:rU c d):Rd ro h c d u:=by
 cases c with
 |int k=> simp only [jI,rU] at r wf;rw [wf,r];exact .int k d.n
 |bool=>
  simp only [jI,rU] at r wf;subst r;rcases wf with rfl|rfl
  ·exact .bool false
  ·exact .bool true
 |str=>exact r
 |sl t=>exact r
theorem ej.get {ro:Nat->Prop} {h:Array Obj} {d:D}: ∀{cs:List CK} {j:Nat} {us:List Value},ej ro h cs j d us->∀{k:Nat} {c:CK},cs[k]?=some c->∃u,us[k]?=some u/\jI ro h c (d.V (j+k)) u
 |[],_,_,_,k,c,hk=>by simp at hk
 |c0::cs,j,us,hh,k,c,hk=>by
  simp only [ej] at hh;obtain⟨u,vs,rfl,U,Z⟩:=hh
  cases k with
  |zero=>
   grind
  |succ k=>
   obtain⟨x,h3,h4⟩:=Z.get (by simpa using hk)
   grind
theorem ej.length {ro:Nat->Prop} {h:Array Obj} {d:D}: ∀{cs:List CK} {j:Nat} {us:List Value},ej ro h cs j d us->us.length=cs.length
 |[],_,us,hh=>by simp only [ej] at hh; subst hh; rfl
 |c::cs,j,us,hh=>by simp only [ej] at hh;obtain⟨u,vs,rfl,_,Z⟩:=hh;simp [Z.length]
theorem ej.shift {ro:Nat->Prop} {h:Array Obj} {a b:D}: ∀{cs:List CK} {j:Nat} {us:List Value},ej ro h cs (j+1) (.p a b) us↔ej ro h cs j b us
 |[],_,us=>by simp only [ej]
 |c::cs,j,us=>by
  simp only [ej,Bh];constructor
  ·rintro⟨u,vs,rfl,U,Z⟩;exact⟨u,vs,rfl,U,ej.shift.1 Z⟩
  ·rintro⟨u,vs,rfl,U,Z⟩;exact⟨u,vs,rfl,U,ej.shift.2 Z⟩
section
variable {P:Program} {E:En} {w:World}
theorem qP (h:oT c v=some a):rU c (dec (a.den ρ)):=by
 unfold oT at h;split at h
 ·split at h
  ·split at h
   ·simp only [ah] at h;subst h;simp only [rU,nu,bG,D.n]
   grind
  grind
 ·split at h
  ·split at h
   ·rename_i b;simp only [ah] at h;subst h;simp only [rU,W.den,bG]
    grind
   ·split at h
    ·split at h
     ·split at h
      ·simp only [ah] at h;subst h;simp only [rU,W.den,gQ.den,bG]
       grind
      grind
     grind
    grind
   grind
  grind
 ·trivial
 ·trivial
theorem nh (hv:VR E h v u) (hc:oT c v=some a):jI E.ro h c (dec (a.den E.ρ)) u:=by
 unfold oT at hc;split at hc
 ·split at hc
  ·split at hc
   ·rename_i hk;subst hk;simp only [ah] at hc;subst hc;simp only [VR] at hv;simp only [jI,nu,bG,D.n];exact hv
   grind
  grind
 ·split at hc
  ·split at hc
   ·rename_i b;simp only [ah] at hc;subst hc;simp only [VR,SB.den] at hv;subst hv;simp only [jI,W.den,bG];cases b<;>rfl
   ·split at hc
    ·split at hc
     ·split at hc
      ·rename_i x n hn;subst hn;simp only [ah] at hc;subst hc;simp only [VR,SB.den,W.den] at hv;subst hv;simp only [jI,W.den,gQ.den,nu,bG,D.n];congr 2
       grind
      grind
     grind
    grind
   grind
  grind
 ·obtain⟨s,rfl,hs⟩:=Ar hv hc;simp only [jI,hs];exact .str s
 ·split at hc
  ·split at hc
   ·rename_i ht;subst ht;simp only [ah] at hc;subst hc;exact hv
   grind
  ·simp only [ah] at hc;subst hc;simp only [VR] at hv;subst hv;simp only [jI,W.den,bG];exact .nil _
  ·split at hc
   ·rename_i ht;subst ht;simp only [ah] at hc;subst hc;simp only [VR] at hv;exact hv.2
   grind
  ·split at hc
   ·simp only [ah] at hc;subst hc;simp only [VR] at hv;obtain⟨_,a,cap,rfl,_⟩:=hv;simp only [jI,W.den,bG];exact .wL _ _ _
   grind
  grind
theorem BR {ρ:Nat->Int}: ∀{cs:List CK} {vs:List AV} {x:W},jE cs vs=some x->Nb cs (dec (x.den ρ))
 |[],[],x,h=>by
  simp only [jE,ah] at h;subst h;refine⟨?_,?_,?_⟩
  ·simp only [W.den,bG]; rfl
  ·simp only [W.den,bG]; rfl
  grind
 |[],_::_,x,h=>by simp [jE] at h
 |_::_,[],x,h=>by simp [jE] at h
 |c::cs,v::vs,x,h=>by
  simp only [jE] at h;split at h
  ·grind
  ·rename_i a ha;split at h
   ·grind
   ·rename_i b hb;simp only [ah] at h;subst h;obtain⟨U,Z,h3⟩:=BR (ρ:=ρ) hb;refine⟨?_,?_,?_⟩
    ·simp only [gq,W.den,gQ.den,bG,D.l,dL]
     grind
    ·simp only [gq,W.den,gQ.den,bG,D.l,aT,Z]
    ·intro j c' y hj hy;simp only [gq,W.den,gQ.den,bG,D.l] at hy
     cases j with
     |zero=> simp only [az,ah] at hj hy;subst hj hy;exact qP ha
     |succ j=>exact h3 j c' y (by simpa using hj) (by simpa using hy)
theorem BS {h:Array Obj}: ∀{cs:List CK} {vs:List AV} {us:List Value} {x:W},cP E h vs us->jE cs vs=some x->ej E.ro h cs 0 (dec (x.den E.ρ)) us
 |[],[],us,x,hv,hc=>by simp only [cP] at hv; subst hv; simp [ej]
 |[],_::_,_,x,_,hc=>by simp [jE] at hc
 |_::_,[],_,x,_,hc=>by simp [jE] at hc
 |c::cs,v::vs,us,x,hv,hc=>by
  simp only [jE] at hc;rw [bU] at hv;obtain⟨u,iz,rfl,U,Z⟩:=hv;split at hc
  ·grind
  ·rename_i a ha;split at hc
   ·grind
   ·rename_i b hb;simp only [ah] at hc;subst hc;simp only [ej,gq,W.den,gQ.den,bG];refine⟨u,iz,rfl,by rw [Bg]; exact nh U ha,?_⟩;rw [ej.shift];exact BS Z hb
theorem vf (h:sJ r cs=some x):rT r (dec (x.den ρ)):=by
 unfold sJ at h;split at h
 ·split at h
  ·exact qP h
  grind
 ·exact BR h
theorem vg {us:List Value} (hv:cP E h cs us) (hc:sJ r cs=some x):yC E.ro h r (dec (x.den E.ρ)) us:=by
 unfold sJ at hc;split at hc
 ·split at hc
  ·rw [bU] at hv;obtain⟨u,iz,rfl,U,Z⟩:=hv;rw [jf] at Z;subst Z;exact⟨u,rfl,nh U hc⟩
  grind
 ·exact BS hv hc
theorem xl {ρ:Nat->Int} {r:Row}: ∀(m:Nat) {e e1:W} {news:List AV},mw r e m news=some e1->
 ∃ds:List D,ds.length=m/\(dec (e1.den ρ)).l=(dec (e.den ρ)).l++ds/\(dec (e.den ρ)=dL (dec (e.den ρ)).l->dec (e1.den ρ)=dL (dec (e1.den ρ)).l)/\(∀d∈ds,rT r d)/\
  ∀(E':En) (h:Array Obj) (us:List Value) (j:Nat),E'.ρ=ρ->cP E' h news us->cP E' h (bH ρ r [] ds j) us
 |0,e,e1,[],h=>by simp only [mw,ah] at h;subst h;exact⟨[],rfl,ad,id,ad,fun E' h us j _ hv=>by simpa [bH] using hv⟩
 |0,e,e1,_::_,h=>by simp [mw] at h
 |m+1,e,e1,news,h=>by
  simp only [mw] at h;split at h
  ·grind
  ·rename_i x hx;obtain⟨ds,U,Z,h3,h4,h5⟩:=xl (ρ:=ρ) m h;have hs:dec ((W.op .snoc e x).den ρ)=dL ((dec (e.den ρ)).l++ [dec (x.den ρ)]):=by simp only [W.den,gQ.den,bG]
   refine⟨dec (x.den ρ)::ds,by simp [U],?_,fun _=>h3 (by rw [hs,bz]),?_,?_⟩
   ·rw [Z,hs,bz]; simp
   ·intro d V;rcases aF.1 V with rfl|V
    ·exact vf hx
    grind
   ·intro E' h us j hρ hv;rw [<- axq r.es news] at hv;obtain⟨a,b,rfl,a1,a2⟩:=hv.split;simp only [bH,ek];refine cP.append ?_ (h5 E' h b (j+1) hρ a2);rw [gD];simp only [W.den,bG];have:=vg a1 hx
    grind
theorem Vc (pB: ∀b,E.ro b->ro b) (hb:ro (E.θ id).1) (ho:OR E h id (.vec e t ty [])) {a:Addr} (hk:k=(dec (e.den E.ρ)).l.length) (kX:k<=cap)
 (hc:0<k->a=⟨(E.θ id).1,(E.θ id).2,none⟩):Rd ro h (.sl t) (dec (e.den E.ρ)) (.slice (some a) k cap):=by
 obtain⟨⟨Nt,yx⟩,vK⟩:=OR.rK.1 ho;obtain⟨us,U,Z,h3⟩:=yY vK;obtain⟨w1,w2,w3⟩:=yx;rcases axr k with h0|lU
 ·subst h0;exact absurd (axg hk.symm) w3
 ·have ha:a=⟨(E.θ id).1,(E.θ id).2,none⟩:=hc lU;subst ha;subst hk
  have ig: ∀(i:Nat) (x:D),(dec (e.den E.ρ)).l[i]?=some x->∃rs,yC ro h (rowOf t) x rs/\∀j u,rs[j]?=some u->us[i*(rowOf t).es+j]?=some u:=by
   intro i x hx;obtain⟨c1,c2⟩:=jR (ρ:=E.ρ) Nt (j:=0) hx;unfold cX at U;rw [c1] at U;obtain⟨p,q,rfl,p1,p2⟩:=U.split;obtain⟨q1,q2,rfl,r1,r2⟩:=p2.split;have hp:=p1.length;rw [c2] at hp;refine⟨q1,?_,?_⟩
   ·have r1':cP E h (hZ (rowOf t) (.eS x)) q1:=r1;rw [gD] at r1';simp only [W.den,bG] at r1'
    have mono: ∀c d u,jI E.ro h c d u->jI ro h c d u:=by
     intro c d u hh
     cases c with
     |int k=>exact hh
     |bool=>exact hh
     |str=>exact Rd.dq pB (fun _ _=>rfl) hh
     |sl t=>exact Rd.dq pB (fun _ _=>rfl) hh
    have asA: ∀(cs:List CK) (j:Nat) (d:D) (us:List Value),ej E.ro h cs j d us->ej ro h cs j d us:=by
     intro cs
     induction cs with
     |nil=>intro j d us hh; exact hh
     |cons c cs ih=> intro j d us hh;obtain⟨u,vs,rfl,g1,g2⟩:=hh;exact⟨u,vs,rfl,mono _ _ _ g1,ih _ _ _ g2⟩
    cases hr:rowOf t with
    |one c=> rw [hr] at r1';obtain⟨u,rfl,g1⟩:=r1';exact⟨u,rfl,mono _ _ _ g1⟩
    |many cs=> rw [hr] at r1';exact asA _ _ _ _ r1'
   ·intro j u hj;rw [ayD J,hp];rw [show i*(rowOf t).es+j-i*(rowOf t).es=j by omega];have:=(bc.1 hj).1;rw [List.getElem?_append_left this];exact hj
  rw [w1];simp only [bz] at ig ⊢;generalize hL:(dec (e.den E.ρ)).l=L at *
  cases hr:rowOf t with
  |one c=>
   refine .one t c _ _ cap L (fun i=>(us[i]?).getD undef) hr kX hb ?_ ?_
   ·intro i d V;obtain⟨rs,g1,g2⟩:=ig i d V;rw [hr] at g1;obtain⟨u,rfl,g3⟩:=g1;have:=g2 0 u rfl;rw [hr] at this;simp only [Row.es,ax3,awX] at this;rw [this];exact Z i u this
   ·intro i d V;obtain⟨rs,g1,g2⟩:=ig i d V;rw [hr] at g1;obtain⟨u,rfl,g3⟩:=g1;have:=g2 0 u rfl;rw [hr] at this;simp only [Row.es,ax3,awX] at this;rw [this];have hw:=w2 d (bq V);rw [hr] at hw;exact g3.rd hw
  |many cs=>
   have hwr: ∀d∈L,Nb cs d:=by intro d V;have:=w2 d V;rw [hr] at this;exact this
   have hLm:L=(L.map D.l).map dL:=by rw [axd];have:L.map (dL ∘ D.l)=L.map (fun d=>d):=axn fun d V=>(hwr d V).1.symm;rw [this,List.map_id']
   have hlen:(L.map D.l).length=L.length:=ad
   have atl:(L.map D.l).length<=cap:=by rw [hlen]; exact kX
   have goal:Rd ro h (.sl t) (dL ((L.map D.l).map dL)) (.slice (some ⟨(E.θ id).1,(E.θ id).2,none⟩) (L.map D.l).length cap):=by
    refine .many t cs _ _ cap (L.map D.l) (fun i j=>(us[i*cs.length+j]?).getD undef) hr atl hb ?_ ?_ ?_
    ·intro r hrm;rw [aQ] at hrm;obtain⟨d,V,rfl⟩:=hrm;exact (hwr d V).2.1
    ·intro i r j d hi hj;rw [bg,aO] at hi;obtain⟨x,hx,rfl⟩:=hi;obtain⟨rs,g1,g2⟩:=ig i x hx;rw [hr] at g1;have hjl:j<cs.length:=by rw [<- (hwr x (bq hx)).2.1]; exact (bc.1 hj).1
     obtain⟨u,g3,g4⟩:=ej.get g1 (aM hjl);have:=g2 j u g3;rw [hr] at this;simp only [Row.es] at this;rw [this,awW];exact Z _ u this
    ·intro i r j d c hi hj hcj;rw [bg,aO] at hi;obtain⟨x,hx,rfl⟩:=hi;obtain⟨rs,g1,g2⟩:=ig i x hx;rw [hr] at g1;obtain⟨u,g3,g4⟩:=ej.get g1 hcj;have:=g2 j u g3;rw [hr] at this;simp only [Row.es] at this;rw [this];rw [aH] at g4;have V:x.V j=d:=by simp [D.V,hj]
     rw [V] at g4;exact g4.rd ((hwr x (bq hx)).2.2 j c d hcj hj)
   rw [<- hLm,hlen] at goal;exact goal
theorem t! (pB: ∀b,E.ro b->ro b) (hb:ro (E.θ id).1) (ho:OR E h id (.vec e t ty [])) {a:Addr} (hk:k=(dec (e.den E.ρ)).l.length) (kX:k<=cap)
 (hc:fJ E id 0 k a cap (.rest (rowOf t).es)):Rd ro h (.sl t) (dec (e.den E.ρ)) (.slice (some a) k cap):=by
 refine Vc pB hb ho hk kX fun lU=>?_;simp only [fJ] at hc
 grind
structure Sub (H' H:Hp):Prop where
 get: ∀j o,H'.get j=some o->H.get j=some o
 next:H'.next=H.next
 res:H'.res=H.res
theorem Sub.refl (H:Hp):Sub H H:=⟨fun _ _ h=>h,rfl,rfl⟩
theorem Sub.trans {A B C:Hp} (a:Sub B A) (b:Sub C B):Sub C A:=⟨fun j o h=>a.get j o (b.get j o h),b.next.trans a.next,b.res.trans a.res⟩
theorem Sub.drop (H:Hp) (id:Nat):Sub (H.drop id) H:=by
 refine⟨fun j o hj=>?_,rfl,rfl⟩
 grind [Hp.pK]
theorem MH [bN] (r:bX E H w) {o:eL} (Y:H.get id=some o) :
 kJ E w.heap { E with ro:=fun b=>E.ro b\/b=(E.θ id).1 } w.heap/\fm E H w { E with ro:=fun b=>E.ro b\/b=(E.θ id).1 } (H.drop id) w/\bX { E with ro:=fun b=>E.ro b\/b=(E.θ id).1 } (H.drop id) w:=by
 have hk:kJ E w.heap { E with ro:=fun b=>E.ro b\/b=(E.θ id).1 } w.heap:=⟨rfl,fun _ h=>h,fun _ _=>rfl,fun _ _=>rfl,fun _ h=> .inl h,fun _ _=>rfl⟩
 have hg: ∀j o,(H.drop id).get j=some o->H.get j=some o/\j≠id:=by
  intro j o hj
  grind [Hp.pK]
 refine⟨hk,⟨rfl,fun _ h=>h,fun _ _=>rfl,fun _ _=>rfl,fun _ h=> .inl h,?_,au _,.inr rfl,fun _ h=> .inl h,rfl,rfl,rfl,au _,fun _ _ _=>rfl,fun j o hj _=> ⟨j,o,(hg j o hj).1,rfl⟩⟩,
  ⟨r.fresh,r.res,?_,?_,?_,bN.dq r.mq (fun _ h=> .inl h) (fun _ _=>rfl)⟩⟩
 ·intro b hb
  grind
 ·intro j o hj;obtain⟨U,Z⟩:=hg j o hj;obtain⟨g1,g2,g3⟩:=r.live j o U;refine⟨g1,g2.dq hk g1 rfl,?_⟩;rintro (hb|hb)
  ·grind
  ·exact Z (r.inj j id o _ U Y hb)
 ·intro i j x y hi hj he;exact r.inj i j x y (hg i x hi).1 (hg j y hj).1 he
 ·intro b hb;rcases hb with hb|rfl
  ·exact r.wE b hb
  ·exact ic r Y
theorem aoZ [bN] {H':Hp} (r:bX E H w) {v':AV} (h:frz v H=(v',H')) :
 ∃E',E'.ρ=E.ρ/\fm E H w E' H' w/\bX E' H' w/\(∀u,VR E w.heap v u->VR E' w.heap v' u)/\Sub H' H:=by
 have same:(v,H)=(v',H')->∃E',E'.ρ=E.ρ/\fm E H w E' H' w/\bX E' H' w/\(∀u,VR E w.heap v u->VR E' w.heap v' u)/\Sub H' H:=by
  intro he;simp only [ak] at he
  grind [fm.refl,Sub.refl]
 unfold frz at h;split at h
 ·rename_i id n t;split at h
  ·rename_i o Y;split at h
   ·rename_i e t' ty ov;split at h
    ·split at h
     ·rename_i ht;split at h
      ·rename_i hn;simp only [ak] at h;obtain⟨rfl,rfl⟩:=h;have ht:=ay ht;have hn:=dj _ _ hn;subst ht hn;have Ba:=r.live id _ Y;obtain⟨hk,s1,r1⟩:=MH r Y;refine⟨{ E with ro:=fun b=>E.ro b\/b=(E.θ id).1 },rfl,s1,r1,fun u hv=>?_,Sub.drop _ _⟩;simp only [VR] at hv ⊢
       grind [cV,t!]
      grind
     grind
    grind
   grind
  grind
 ·simp only [ak] at h;obtain⟨rfl,rfl⟩:=h;exact⟨E,rfl,fm.refl _ _ _,r,fun u hu=>by simp only [VR] at hu ⊢; exact hu.2,Sub.refl _⟩
 grind
end
end
section
variable {t n cap l k:Nat} {ro:Nat->Prop} {h:Array Obj} {d:D} {x:Option Addr}
section
variable {P:Program} {E:En} {w:World}
theorem Rd.part {b o:Nat} (r:Rd ro h (.sl t) d (.slice (some ⟨b,o,none⟩) n cap)) (Y:l<=k) (hk:k<=n) (hn:n<=cap) :
 Rd ro h (.sl t) (fu d ((d.l.take k).drop l)) (.slice (some (if cap=l then⟨b,o,none⟩ else⟨b,o+l*(rowOf t).es,none⟩)) (k-l) (cap-l)):=by
 by_cases h0:k-l=0
 ·have:(d.l.take k).drop l= []:=by
   apply List.drop_eq_nil_of_le
   grind
  have V:d≠.i 1:=by
   intro q
   grind [JE]
  rw [this,h0];simp only [fu];rw [af V];exact .wL _ _ _
 ·rw [af J]
  have jK:(d.l.take k).drop l≠[]:=by
   intro q;have:=congrArg List.length q;obtain⟨x,rO,hv,_⟩:=r.slice
   grind
  rw [BM jK];generalize hc:CK.sl t=c at r;generalize hv:Value.slice (some ⟨b,o,none⟩) n cap=v at r
  cases r with
  |int k n=>simp at hc
  |bool b=>simp at hc
  |str s=>simp at hc
  |nil t=>simp at hv
  |wL t a cap=>
   grind
  |one t' c b' o' rO ds f hr eR hb U Z=>
   simp only [CK.sl.injEq] at hc;subst hc;simp only [Value.slice.injEq,ah,Addr.mk.injEq] at hv;obtain⟨⟨rfl,rfl,_⟩,rfl,rfl⟩:=hv;rw [bz];have hlen:((ds.take k).drop l).length=k-l:=by rw [bp,aY]; omega
   have yy: ∀i d,((ds.take k).drop l)[i]?=some d->ds[l+i]?=some d:=by
    intro i d V
    grind
   rw [<- hlen];refine .one t c b (o+l*(rowOf t).es) (cap-l) ((ds.take k).drop l) (fun i=>f (l+i)) hr (by rw [hlen]; omega) hb ?_ ?_
   ·intro i d V;have:=U (l+i) d (yy i d V);rw [hr,show o+l*(Row.one c).es+i=o+(l+i) by simp only [Row.es]; omega]
    grind
   grind
  |many t' cs b' o' rO rows f hr eR hb hll U Z=>
   simp only [CK.sl.injEq] at hc;subst hc;simp only [Value.slice.injEq,ah,Addr.mk.injEq] at hv;obtain⟨⟨rfl,rfl,_⟩,rfl,rfl⟩:=hv;rw [bz];have hlen:((rows.take k).drop l).length=k-l:=by rw [bp,aY]; omega
   have yy: ∀i d,((rows.take k).drop l)[i]?=some d->rows[l+i]?=some d:=by
    intro i d V
    grind
   rw [<- hlen,<- axK,<- axY];refine .many t cs b (o+l*(rowOf t).es) (cap-l) ((rows.take k).drop l) (fun i=>f (l+i)) hr (by rw [hlen]; omega) hb (fun r hrm=>hll r (awT (awR hrm))) ?_ ?_
   ·intro i r j d hi hj;have:=U (l+i) r j d (yy i r hi) hj;rw [hr,show o+l*(Row.many cs).es+i*cs.length+j=o+(l+i)*cs.length+j by simp only [Row.es,aw6]; omega]
    grind
   grind
theorem Rd.asi (r:Rd ro h (.sl t) d (.slice x n cap)) (Y:l<=k) (hk:k<=n) (hn:n<=cap) :
 Rd ro h (.sl t) (fu d ((d.l.take k).drop l)) (.slice (match x with |some a=>some (if cap=l then a else a.add (l*(rowOf t).es))|none=>none) (k-l) (cap-l)):=by
 have hx:(∃b o,x=some ⟨b,o,none⟩)\/(d= .i 1/\x=none/\n=0/\cap=0)\/(d= .i 2/\n=0/\∃a,x=some a):=by
  generalize hc:CK.sl t=c at r;generalize hv:Value.slice x n cap=v at r
  cases r with
  |int k n=>simp at hc
  |bool b=>simp at hc
  |str s=>simp at hc
  |nil t=>simp only [Value.slice.injEq] at hv; exact .inr (.inl ⟨rfl,hv.1,hv.2.1,hv.2.2⟩)
  |wL t a cap=>simp only [Value.slice.injEq] at hv; exact .inr (.inr ⟨rfl,hv.2.1,a,hv.1⟩)
  |one t' c b' o' rO ds f hr eR hb U Z=>simp only [Value.slice.injEq] at hv; exact .inl ⟨_,_,hv.1⟩
  |many t' cs b' o' rO rows f hr eR hb hll U Z=>simp only [Value.slice.injEq] at hv; exact .inl ⟨_,_,hv.1⟩
 rcases hx with ⟨b,o,rfl⟩|⟨rfl,rfl,rfl,rfl⟩|⟨rfl,rfl,a,rfl⟩
 ·have:=r.part Y hk hn;simp only [gA]
  grind
 ·obtain rfl:k=0:=J
  obtain rfl:l=0:=J
  exact .nil _
 ·obtain rfl:k=0:=J
  obtain rfl:l=0:=J
  exact .wL _ _ _
theorem apr (l:List D):dL l≠.i 1:=by cases l<;>simp [dL]
theorem Rd.ao6 (r:Rd ro h (.sl t) d (.slice x n cap)):Rd ro h (.sl t) (fu d []) (.slice x 0 0):=by
 generalize hc:CK.sl t=c at r;generalize hv:Value.slice x n cap=v at r
 cases r with
 |int k n=>simp at hc
 |bool b=>simp at hc
 |str s=>simp at hc
 |nil t=> simp only [Value.slice.injEq] at hv;obtain⟨rfl,_,_⟩:=hv;exact .nil _
 |wL t a cap=> simp only [Value.slice.injEq] at hv;obtain⟨rfl,_,_⟩:=hv;exact .wL _ _ _
 |one t' c b' o' rO ds f hr eR hb U Z=> exact aif
 |many t' cs b' o' rO rows f hr eR hb hll U Z=> exact aif
theorem TX [bN] {tt:TT} (da:eP P tt) {s s':St} (hp:cA E.ρ s.pc) {ty:Nat} {e:W} {lo hi mx:Option AV} {DX hi' mx':Option Value} {v:AV} {u:Value} (hx:VR E w.heap (.eS e t) u)
 (qM:gR E w.heap lo DX) (Ah:gR E w.heap hi hi') (vw:gR E w.heap mx mx') (h:(Mk tt s ty t e lo hi mx).leaf E.ρ=some (v,s')) :
 s'.bC=s.bC/\s'.h=s.h/\cA E.ρ s'.pc/\∃r,(Instr.sliceAt ty u DX hi' mx').run P w= .ok r w/\VR E w.heap v r:=by
 unfold Mk at h;split at h
 ·rename_i m;split at h
  ·rename_i hm;split at h
   ·simp [T.leaf] at h
   ·rename_i z hz;split at h
    ·split at h
     ·rename_i hv;split at h
      ·rename_i hh;have:=bE h;simp only [ak] at this;obtain⟨rfl,rfl⟩:=this;refine⟨rfl,rfl,hp,?_⟩;obtain⟨el,ie,hu,np,rfl⟩:=oR da hz;have jl:=e9 (da el ie np);simp only [VR] at hx;obtain⟨x,cap,rfl,kX⟩:=hx.slice
       have zb: ∀(a:AV),EL a=true->∀d y,pg (some a) d y=some 0:=by
        intro a ha d y;unfold EL at ha;unfold pg;split at ha
        ·rename_i n hn;have:=xU ha;subst this;simp only [hn];rw [ag (aw1 y)]
        ·simp at ha
       obtain⟨e1,e2⟩:=gf (P:=P) (w:=w) (isSlice:=true) (len:=(dec (e.den E.ρ)).l.length) (cap:=cap) (m0:=cap) (d:=0) (m:=0) (h0:=0) (h:=0) (l:=0) qM Ah vw (fun _=>rfl) (.inr ⟨m,rfl,zb m hm _ _,au _⟩) (zb hv hh _ _) ⟨fun q=>by simp at q,fun _=>rfl⟩ (by simp [pg]);refine⟨.slice x 0 0,?_,?_⟩
       rotate_left
       ·simp only [VR];refine⟨⟨x,rfl⟩,?_⟩;simp only [W.den,gQ.den,bG];exact hx.ao6
       cases x with
       |none=>simp [Instr.sliceAt,run_underlying hu,Instr.slice,e1,jl]
       |some a=>simp [Instr.sliceAt,run_underlying hu,Instr.slice,e1,jl]
      ·simp [T.leaf] at h
     ·simp [T.leaf] at h
    ·simp [T.leaf] at h
  ·simp [T.leaf] at h
 ·simp only [gR] at vw;subst vw;split at h
  ·simp [T.leaf] at h
  ·rename_i z hz;split at h
   ·rename_i lW;obtain⟨el,ie,hu,np,rfl⟩:=oR da hz;have jl:=e9 (da el ie np);simp only [VR] at hx;obtain⟨x,cap,rfl,kX⟩:=hx.slice
    have fin: ∀(l k:Nat) (e':W) (ZS LR:Option AV),gR E w.heap ZS DX->gR E w.heap LR hi'->pg LR (dec (e.den E.ρ)).l.length (dec (e.den E.ρ)).l.length=some k->pg ZS 0 k=some l->dec (e'.den E.ρ)=fu (dec (e.den E.ρ)) (((dec (e.den E.ρ)).l.take k).drop l)->
     ∃r,(Instr.sliceAt ty (.slice x (dec (e.den E.ρ)).l.length cap) DX hi' none).run P w= .ok r w/\VR E w.heap (.eS e' t) r:=by
     intro l k e' ZS LR U Z h3 h4 h5;obtain⟨e1,e2⟩:=gf (P:=P) (w:=w) (isSlice:=true) (len:=(dec (e.den E.ρ)).l.length) (cap:=cap) (m0:=cap) (d:=0) (m:=cap) U Z (mx:=none) (mx':=none) (by simp [gR]) ad (.inl ⟨rfl,rfl,au _⟩) h3 ⟨fun _=>kX,ad⟩ h4;have hk:=l7 h3;have YQ:=hx.asi e2 hk kX;refine⟨_,?_,by simp only [VR,h5]; exact YQ⟩
     cases x with
     |none=>simp [Instr.sliceAt,run_underlying hu,Instr.slice,e1,jl]
     |some a=>simp [Instr.sliceAt,run_underlying hu,Instr.slice,e1,jl,lW]<;>split<;>rfl
    have lit: ∀(k:IntKind) (n:Nat) (q:W) (o:Option Value),q.den E.ρ=(n:Int)->gR E w.heap (some (.int k q)) o->gR E w.heap (some (.int k (.lit (Int.ofNat n)))) o:=by intro k n q o hq ho;obtain⟨y,rfl,hy⟩:=ho;refine⟨y,rfl,?_⟩;simp only [VR,W.den] at hy ⊢;rw [hy,hq];rfl
    have bl: ∀(k:IntKind) (n d y:Nat),n<=y->pg (some (.int k (.lit (Int.ofNat n)))) d y=some n:=by intro k n d y hn;simp [pg,kV,hn]
    split at h
    ·
     simp only [gR] at Ah;subst Ah;split at h
     ·rename_i kl ql;obtain⟨jJ,jo,U⟩:=dh hp h;split at U
      ·simp [T.leaf] at U
      ·rename_i t1;obtain⟨qA,n9,Z⟩:=dh (s:={ s with pc:=jJ }) jo U;split at Z
       ·simp [T.leaf] at Z
       ·rename_i t2;have:=bE Z;simp only [ak] at this;obtain⟨rfl,rfl⟩:=this;rw [ef,decide_eq_false_iff_not] at t1 t2;rw [cV] at t2;simp only [W.den,axp] at t1 t2;obtain⟨l,Y⟩ : ∃l:Nat,ql.den E.ρ=(l:Int):=⟨(ql.den E.ρ).toNat,J⟩;refine⟨rfl,rfl,n9,fin l (dec (e.den E.ρ)).l.length _ _ none (lit kl l ql DX Y qM) (by simp [gR]) (by simp [pg]) (bl _ _ _ _ J) ?_⟩;simp only [W.den,gQ.den,bG,Y,aW,axM]
     ·simp [T.leaf] at h
    ·rename_i kh qh;obtain⟨jJ,jo,U⟩:=dh hp h;split at U
     ·simp [T.leaf] at U
     ·rename_i t1;rw [ef,decide_eq_false_iff_not,cV] at t1;split at U
      ·simp only [gR] at qM;subst qM;obtain⟨qA,n9,Z⟩:=dh (s:={ s with pc:=jJ }) jo U;split at Z
       ·simp [T.leaf] at Z
       ·rename_i t2;have:=bE Z;simp only [ak] at this;obtain⟨rfl,rfl⟩:=this;rw [ef,decide_eq_false_iff_not] at t2;simp only [W.den,axp] at t2;obtain⟨k,hk⟩ : ∃k:Nat,qh.den E.ρ=(k:Int):=⟨(qh.den E.ρ).toNat,J⟩;refine⟨rfl,rfl,n9,fin 0 k _ none _ (by simp [gR]) (lit kh k qh hi' hk Ah) (bl _ _ _ _ J) (by simp [pg]) ?_⟩;simp only [W.den,gQ.den,bG,hk,aW,awQ]
      ·rename_i kl ql;obtain⟨qA,n9,Z⟩:=dh (s:={ s with pc:=jJ }) jo U;split at Z
       ·simp [T.leaf] at Z
       ·rename_i t2;obtain⟨pc3,OZ,h3⟩:=dh (s:={ s with pc:=qA }) n9 Z;split at h3
        ·simp [T.leaf] at h3
        ·rename_i t3;have:=bE h3;simp only [ak] at this;obtain⟨rfl,rfl⟩:=this;rw [ef,decide_eq_false_iff_not] at t2 t3;simp only [W.den,axp] at t2 t3;obtain⟨l,Y⟩ : ∃l:Nat,ql.den E.ρ=(l:Int):=⟨(ql.den E.ρ).toNat,J⟩;obtain⟨k,hk⟩ : ∃k:Nat,qh.den E.ρ=(k:Int):=⟨(qh.den E.ρ).toNat,J⟩;refine⟨rfl,rfl,OZ,fin l k _ _ _ (lit kl l ql DX Y qM) (lit kh k qh hi' hk Ah) (bl _ _ _ _ J) (bl _ _ _ _ J) ?_⟩;simp only [W.den,gQ.den,bG,Y,hk,aW,bP];exact zQ fun q=>by rw [q]; simp [D.l]
      ·simp [T.leaf] at U
    ·simp [T.leaf] at h
   ·simp [T.leaf] at h
end
end
section
variable {e lo n:W} {ρ:Nat->Int} {t id l k cap:Nat} {α:Type} {s:St} {v:AV} {h H:Hp} {ty:TypeId} {ro:Nat->Prop} {a:Addr} {ds:List D} {z:Int} {x:D}
theorem GC (h:isZ e=true):e= .lit 0:=by
 unfold isZ at h
 grind [xU]
theorem qR (ρ:Nat->Int) (a b:W):(uc a b).den ρ=a.den ρ+b.den ρ:=by
 unfold uc;split
 ·rename_i h;rw [GC h];simp only [W.den,Int.zero_add]
 ·rfl
theorem X3 (ρ:Nat->Int) (a b:W):(FI a b).den ρ=a.den ρ-b.den ρ:=by
 unfold FI;split
 ·rename_i h;rw [GC h];simp only [W.den,Int.sub_zero]
 ·rfl
theorem F9 (Y:lo.den ρ=(l:Int)) (hn:n.den ρ=(k:Int)) :
 dec ((Ls e lo n).den ρ)=fu (dec (e.den ρ)) (((dec (e.den ρ)).l.take (l+k)).drop l):=by
 unfold Ls;split
 ·rename_i h;have h:=GC h;subst h;simp only [W.den] at Y;have:l=0:=J
  subst this;simp only [W.den,gQ.den,bG,hn,aW,aH,awQ]
 ·have Z:((l:Int)+(k:Int)).toNat=l+k:=J
  simp only [W.den,gQ.den,bG,Y,hn,Z,aW,bP]
  grind [zQ,D.l]
theorem CG {k:St->T α} {x:α} (hp:cA ρ s.pc) (h:(CH e lo n s k).leaf ρ=some x) :
 ∃fy,cA ρ fy/\0<=lo.den ρ/\0<=n.den ρ/\lo.den ρ+n.den ρ<=((dec (e.den ρ)).l.length:Int)/\(k { s with pc:=fy }).leaf ρ=some x:=by
 unfold CH at h;obtain⟨jJ,jo,U⟩:=dh hp h;split at U
 ·grind [T.leaf]
 ·rename_i Iu;obtain⟨qA,n9,Z⟩:=dh (s:={ s with pc:=jJ }) jo U;split at Z
  ·grind [T.leaf]
  ·rename_i yQ;obtain⟨pc3,OZ,h3⟩:=dh (s:={ s with pc:=qA }) n9 Z;split at h3
   ·grind [T.leaf]
   ·rename_i hb3;rw [ef,decide_eq_false_iff_not] at Iu yQ hb3;rw [cV,qR] at hb3;simp only [W.den] at Iu yQ
    grind
theorem uo (hv:IH h id t=some (e,ty)):h.get id=some (.vec e t ty []):=by
 unfold IH at hv;split at hv
 ·rename_i o ho;split at hv
  ·split at hv
   ·split at hv
    all_goals simp_all
   grind
  grind
 grind
theorem Rd.ar9 {h:Array Obj} {d:D} {n rO:Nat} (r:Rd ro h (.sl t) d (.slice (some a) n cap)) (hc:n<=rO):Rd ro h (.sl t) d (.slice (some a) n rO):=by
 generalize hk:CK.sl t=c at r;generalize hv:Value.slice (some a) n cap=v at r
 cases r with
 |int k n=>simp at hk
 |bool b=>simp at hk
 |str s=>simp at hk
 |nil t=>simp at hv
 |wL t a cap=> simp only [CK.sl.injEq] at hk;simp only [Value.slice.injEq,ah] at hv;obtain⟨rfl,rfl,rfl⟩:=hv;subst hk;exact .wL _ _ _
 |one t' c b' o' rO ds f hr eR hb U Z=> simp only [CK.sl.injEq] at hk;simp only [Value.slice.injEq,ah] at hv;obtain⟨rfl,rfl,rfl⟩:=hv;subst hk;exact .one _ _ _ _ _ _ _ hr hc hb U Z
 |many t' cs b' o' rO rows f hr eR hb hll U Z=> simp only [CK.sl.injEq] at hk;simp only [Value.slice.injEq,ah] at hv;obtain⟨rfl,rfl,rfl⟩:=hv;subst hk;exact .many _ _ _ _ _ _ _ hr hc hb hll U Z
section
variable {P:Program} {E:En} {w:World}
theorem t? {h:Array Obj} (pB: ∀b,E.ro b->ro b) (hb:ro (E.θ id).1) (ho:OR E h id (.vec e t ty [])) (hk:l+k<=(dec (e.den E.ρ)).l.length) (kX:k<=cap)
 (hc:fJ E id (l*(rowOf t).es) k a cap (.rest (rowOf t).es)):Rd ro h (.sl t) (fu (dec (e.den E.ρ)) (((dec (e.den E.ρ)).l.take (l+k)).drop l)) (.slice (some a) k cap):=by
 have hw:=(OR.rK.1 ho).1.2
 have jK:dec (e.den E.ρ)≠.i 1:=by intro q;have:=hw.2.2;rw [q] at this;exact this rfl
 rcases axr k with h0|lU
 ·subst h0
  have:((dec (e.den E.ρ)).l.take (l+0)).drop l= []:=by
   grind
  rw [this,tY jK];exact .wL _ _ _
 ·simp only [fJ] at hc
  obtain⟨rfl,_⟩ : a=⟨(E.θ id).1,(E.θ id).2+l*(rowOf t).es,none⟩/\l*(rowOf t).es+cap*(rowOf t).es=E.κ id:=by
   grind
  have r0:=Vc pB hb ho (k:=(dec (e.den E.ρ)).l.length) (cap:=(dec (e.den E.ρ)).l.length+l+1) (a:=⟨(E.θ id).1,(E.θ id).2,none⟩) rfl J (fun _=>rfl);have r1:=r0.part (l:=l) (k:=l+k) J hk J;rw [af J,show l+k-l=k by omega] at r1;exact r1.ar9 kX
structure QN [bN] (E:En) (w:World) (H:Hp) (E':En) (H':Hp):Prop where
 ρ:E'.ρ=E.ρ
 eA:fm E H w E' H' w
 rel:bX E' H' w
 sub:Sub H' H
theorem QN.refl [bN] (r:bX E H w):QN E w H E H:=⟨rfl,fm.refl _ _ _,r,Sub.refl _⟩
theorem QN.trans [bN] {E1 E2:En} {H1 H2:Hp} (a:QN E w H E1 H1) (b:QN E1 w H1 E2 H2):QN E w H E2 H2:=
 ⟨b.ρ.trans a.ρ,a.eA.trans b.eA,b.rel,a.sub.trans b.sub⟩
theorem WO [bN] {k:AV->St->T α} {x:α} (hρ:E.ρ=ρ) (r:bX E s.h w) (hp:cA ρ s.pc) (h:(Y2 v s k).leaf ρ=some x) :
 ∃v' h' fy E',cA ρ fy/\QN E w s.h E' h'/\(∀u,VR E w.heap v u->VR E' w.heap v' u)/\(k v' { s with h:=h',pc:=fy }).leaf ρ=some x:=by
 unfold Y2 at h;split at h
 ·rename_i id lo n t;split at h
  ·rename_i e ty hv;have Y:=uo hv;obtain⟨fy,gC,U,Z,h3,h4⟩:=CG hp h;obtain⟨hk,s1,r1⟩:=MH r Y;refine⟨_,_,fy,{ E with ro:=fun b=>E.ro b\/b=(E.θ id).1 },gC,⟨rfl,s1,r1,Sub.drop _ _⟩,fun u hu=>?_,h4⟩;simp only [VR] at hu ⊢;obtain⟨hid,l,m,a,cap,q1,q2,rfl,q4,q5⟩:=hu;rw [F9 q1 q2];rw [hρ] at q1 q2;have hh:=t? (E:=E) (ro:=fun b=>E.ro b\/b=(E.θ id).1) (fun _ h=> .inl h) (.inr rfl) (r.live id _ Y).2.1 (l:=l) (k:=m) (by rw [hρ]; omega) q4 q5;exact hh
  ·exact⟨_,_,s.pc,E,hp,QN.refl r,fun _ h=>h,h⟩
 ·cases hf:frz v s.h with
  |mk v' h'=> rw [hf] at h;obtain⟨E',q1,q2,q3,q4,q5⟩:=aoZ r hf;exact⟨v',h',s.pc,E',hp,⟨q1,q2,q3,q5⟩,q4,h⟩
theorem Pf [bN] {α:Type} {ρ:Nat->Int}: ∀{vs:List AV} {s:St} {E:En} {k:List AV->St->T α} {x:α},E.ρ=ρ->bX E s.h w->cA ρ s.pc->(J1 vs s k).leaf ρ=some x->
 ∃QT h' fy E',cA ρ fy/\QN E w s.h E' h'/\(∀us,cP E w.heap vs us->cP E' w.heap QT us)/\(k QT { s with h:=h',pc:=fy }).leaf ρ=some x
 |[],s,E,k,x,hρ,r,hp,h=> ⟨[],s.h,s.pc,E,hp,QN.refl r,fun _ h=>h,h⟩
 |v::vs,s,E,k,x,hρ,r,hp,h=>by simp only [J1] at h;obtain⟨v1,U,jJ,E1,jo,f1,q1,g1⟩:=WO hρ r hp h;obtain⟨vs1,Z,qA,E2,n9,f2,q2,g2⟩:=Pf (s:={ s with h:=U,pc:=jJ }) (f1.ρ.trans hρ) f1.rel jo g1;exact aqr
theorem AJ {ρ:Nat->Int} {i:Nat} {j:W} {cs:List AV}: ∀{pre:List (W×List AV)},ek ρ i (pre++ [(j,cs)])=match ek ρ i pre with |some c=>some c|none=>if j.den ρ=(i:Int) then some cs else none
 |[]=>rfl
 |(a,b)::pre=>by
  simp only [aK,ek];split
  ·rfl
  ·exact AJ
theorem afw (ρ:Nat->Int) (e j x:W):dec ((W.op .set e (gq (Cv j) x)).den ρ)=dL (dg (dec (e.den ρ)).l (j.den ρ) (dec (x.den ρ))):=by simp only [gq,W.den,gQ.den,bG,nu,D.n]
theorem N5 (ds:List D) (z:Int) (x:D) (n:Nat):(dg ds z x)[n]?=if z=(n:Int)/\n<ds.length then some x else ds[n]?:=by
 grind [dg]
theorem yW {ρ:Nat->Int} {E1 E2:En} {h:Array Obj} {r:Row} {pre:List (W×List AV)} {j:W} {cs:List AV} {X:D} (mono: ∀a us,cP E1 h a us->cP E2 h a us) (hX: ∀us,cP E1 h cs us->yC E2.ro h r X us) :
 ∀{L L':List D} {i:Nat} {us:List Value},L'.length=L.length->(∀n:Nat,L'[n]?=if j.den ρ=((i+n:Nat):Int)/\n<L.length then some X else L[n]?)->
  cP E1 h (bH ρ r (pre++ [(j,cs)]) L i) us->cP E2 h (bH ρ r pre L' i) us
 |[],[],i,us,_,_,hv=>by simp only [bH,cP] at *; exact hv
 |[],_::_,_,_,Y,_,_=>by simp at Y
 |_::_,[],_,_,Y,_,_=>by simp at Y
 |d::L,d'::L',i,us,Y,hg,hv=>by
  simp only [bH] at *;obtain⟨a,b,rfl,a1,a2⟩:=hv.split;have h0:=hg 0;simp only [az,awX,aT] at h0;refine cP.append ?_ (yW mono hX (by simpa using Y) (fun n=>?_) a2)
  ·rw [AJ] at a1
   cases ho:ek ρ i pre with
   |some c=>
    grind
   |none=>
    rw [ho] at a1;simp only at a1 ⊢;by_cases hj:j.den ρ=(i:Int)
    ·rw [ag hj] at a1;rw [ag ⟨hj,J⟩] at h0;simp only [ah] at h0;subst h0;rw [gD];simp only [W.den,bG]
     grind
    grind
  ·have:=hg (n+1)
   grind
theorem afx {r:Row} (U: ∀d∈ds,rT r d) (Z:rT r x): ∀d∈dg ds z x,rT r d:=by
 intro d V;obtain⟨n,hn⟩:=axG.1 V
 grind [N5]
theorem afy (h:ds≠[]):dg ds z x≠[]:=by
 intro q
 grind [dM]
theorem On [bN] {α:Type} {ρ:Nat->Int} {t:Nat}: ∀{ov:List (W×List AV)} {e:W} {s:St} {E:En} {k:W->St->T α} {x:α} (pre:List (W×List AV)),E.ρ=ρ->bX E s.h w->cA ρ s.pc->xw (rowOf t) (dec (e.den ρ))->
 (Jr t ov e s k).leaf ρ=some x->
 ∃e' h' fy E',cA ρ fy/\QN E w s.h E' h'/\xw (rowOf t) (dec (e'.den ρ))/\(dec (e'.den ρ)).l.length=(dec (e.den ρ)).l.length/\
  (∀us,cP E w.heap (bH ρ (rowOf t) (pre++ov) (dec (e.den ρ)).l 0) us->cP E' w.heap (bH ρ (rowOf t) pre (dec (e'.den ρ)).l 0) us)/\(k e' { s with h:=h',pc:=fy }).leaf ρ=some x
 |[],e,s,E,k,x,pre,hρ,r,hp,hw,h=> ⟨e,s.h,s.pc,E,hp,QN.refl r,hw,rfl,fun us hu=>by rw [awU] at hu; exact hu,h⟩
 |(j,cs)::ov,e,s,E,k,x,pre,hρ,r,hp,hw,h=>by
  simp only [Jr] at h;obtain⟨e1,U,jJ,E1,jo,f1,w1,l1,c1,g1⟩:=On (pre++ [(j,cs)]) hρ r hp hw h;obtain⟨cs2,Z,qA,E2,n9,f2,c2,g2⟩:=Pf (s:={ s with h:=U,pc:=jJ }) (f1.ρ.trans hρ) f1.rel jo g1;split at g2
  ·rename_i y hy;have hρ2:E2.ρ=ρ:=f2.ρ.trans (f1.ρ.trans hρ);have hsd:=afw ρ e1 j y;refine⟨_,Z,qA,E2,n9,f1.trans f2,?_,?_,?_,g2⟩
   ·rw [hsd];exact⟨by rw [bz],by rw [bz]; exact afx w1.2.1 (vf hy),by rw [bz]; exact afy w1.2.2⟩
   ·grind [bz,dM]
   ·intro us hu;rw [hsd,bz];have hu1:=c1 us (by rw [bk]; exact hu);refine yW (j:=j) (cs:=cs) (X:=dec (y.den ρ)) (fun a us ha=>cP.dq (f2.eA.keeps f1.rel) _ _ ha) (fun us OY=>?_) (dM _ _ _) (fun n=>?_) hu1
    all_goals grind [vg,N5]
  grind [T.leaf]
theorem Yu {ov:List (W×List AV)} (hv:anW v h=some (id,e,t,ov)): ∃ty,v= .rY id (ey e) t/\h.get id=some (.vec e t ty ov):=by
 unfold anW at hv;split at hv
 ·split at hv
  ·rename_i o ho;split at hv
   ·split at hv
    ·grind
    ·split at hv
     ·rename_i ht;split at hv
      ·rename_i hn;have ht:=ay ht
       grind [dj]
      grind
     grind
   grind
  grind
 grind
theorem WN [bN] {k:AV->St->T α} {x:α} (hρ:E.ρ=ρ) (r:bX E s.h w) (hp:cA ρ s.pc) (h:(Y1 v s k).leaf ρ=some x) :
 ∃v' h' fy E',cA ρ fy/\QN E w s.h E' h'/\(∀u,VR E w.heap v u->VR E' w.heap v' u)/\(k v' { s with h:=h',pc:=fy }).leaf ρ=some x:=by
 unfold Y1 at h;split at h
 ·rename_i id e t ov hv;obtain⟨ty,rfl,Y⟩:=Yu hv;obtain⟨hid,ho,awD⟩:=r.live id _ Y;have GL:=ho;simp only [OR] at GL;rw [hρ] at GL;obtain⟨⟨Nt,yx⟩,arr,lo,hi,us,q1,q2,q3,q4,q5,q6,q7⟩:=GL;obtain⟨e',h',fy,E',gC,f,w',l',c',g⟩:=On [] hρ r hp yx h;split at g
  ·rename_i o hg;have hg':=f.sub.get _ _ hg;rw [Y] at hg';simp only [ah] at hg';subst hg';obtain⟨hk,s1,r1⟩:=MH f.rel hg;have hρ':E'.ρ=ρ:=f.ρ.trans hρ;refine⟨_,_,fy,{ E' with ro:=fun b=>E'.ro b\/b=(E'.θ id).1 },gC,⟨f.ρ,f.eA.trans s1,r1,f.sub.trans (Sub.drop _ _)⟩,fun u hu=>?_,g⟩;simp only [VR] at hu ⊢;obtain⟨_,m,a,cap,p1,rfl,p3,p4⟩:=hu;rw [cV,hρ] at p1;have hθ:=f.eA.θ id hid;have hκ:=f.eA.κ id hid
   have hO:OR E' w.heap id (.vec e' t ty []):=by simp only [OR];rw [hρ',hθ,hκ];have hv':=c' us (by rw [aw]; exact q2);refine⟨⟨fun p hp=>by simp at hp,w'⟩,arr,lo,hi,us,q1,hv',q3,?_,q5,q6,q7⟩;have e1:=hv'.length;have e2:=q2.length;omega
   have hh:=t! (E:=E') (ro:=fun b=>E'.ro b\/b=(E'.θ id).1) (fun _ h=> .inl h) (.inr rfl) hO (k:=m) (cap:=cap) (a:=a) (by rw [hρ',l']; omega) p3 (by
    simp only [fJ] at p4 ⊢;rw [hθ,hκ]
    exact p4)
   exact hh
  grind [T.leaf]
 grind [WO]
theorem rz [bN] {α:Type} {ρ:Nat->Int}: ∀{vs:List AV} {s:St} {E:En} {k:List AV->St->T α} {x:α},E.ρ=ρ->bX E s.h w->cA ρ s.pc->(yT vs s k).leaf ρ=some x->
 ∃QT h' fy E',cA ρ fy/\QN E w s.h E' h'/\(∀us,cP E w.heap vs us->cP E' w.heap QT us)/\(k QT { s with h:=h',pc:=fy }).leaf ρ=some x
 |[],s,E,k,x,hρ,r,hp,h=> ⟨[],s.h,s.pc,E,hp,QN.refl r,fun _ h=>h,h⟩
 |v::vs,s,E,k,x,hρ,r,hp,h=>by simp only [yT] at h;obtain⟨v1,U,jJ,E1,jo,f1,q1,g1⟩:=WN hρ r hp h;obtain⟨vs1,Z,qA,E2,n9,f2,q2,g2⟩:=rz (s:={ s with h:=U,pc:=jJ }) (f1.ρ.trans hρ) f1.rel jo g1;exact aqr
end
end
section
variable {i:W} {off id ty es:Nat} {u x:Value} {vs:List AV} {E1:En} {tt:TT} {s s':St} {v' v:AV} {h:Array Obj} {one:Bool}
section
variable {P:Program} {E:En} {w:World}
theorem oU: ∀{cs vs l:List AV} {o:Nat},ep cs o vs=some l->l.length=cs.length
 |cs,[],l,0,h=>by simp only [ep,ah] at h; rw [h]
 |[],v::vs,l,0,h=>by simp [ep] at h
 |c::cs,v::vs,l,0,h=>by exact aix
 |[],vs,l,o+1,h=>by simp [ep] at h
 |c::cs,vs,l,o+1,h=>by exact aix
theorem sB: ∀{cs vs l:List AV} {o:Nat} (m:List AV),ep cs o vs=some l->ep (cs++m) o vs=some (l++m)
 |cs,[],l,0,m,h=>by simp only [ep,ah] at h ⊢; rw [h]
 |[],v::vs,l,0,m,h=>by simp [ep] at h
 |c::cs,v::vs,l,0,m,h=>by exact aiJ
 |[],vs,l,o+1,m,h=>by simp [ep] at h
 |c::cs,vs,l,o+1,m,h=>by exact aiJ
theorem ur: ∀{cs vs l:List AV} {o:Nat} (p:List AV),ep cs o vs=some l->ep (p++cs) (p.length+o) vs=some (p++l)
 |cs,vs,l,o,[],h=>by simpa using h
 |cs,vs,l,o,x::p,h=>by have:=ur p h;rw [aK,aT,show p.length+1+o=(p.length+o)+1 by omega];simp only [ep,this,aK]
theorem tx: ∀{cs vs l:List AV} {o:Nat},ep cs o vs=some l->∀j:Nat,l[j]?=if o<=j/\j<o+vs.length then vs[j-o]? else cs[j]?
 |cs,[],l,0,h,j=>by
  simp only [ep,ah] at h
  grind
 |[],v::vs,l,0,h,j=>by simp [ep] at h
 |c::cs,v::vs,l,0,h,j=>by
  simp only [ep] at h;split at h
  ·rename_i l' Y;simp only [ah] at h;subst h
   cases j with
   |zero=>simp
   |succ j=>
    have:=tx Y j
    grind
  grind
 |[],vs,l,o+1,h,j=>by simp [ep] at h
 |c::cs,vs,l,o+1,h,j=>by
  simp only [ep] at h;split at h
  ·rename_i l' Y;simp only [ah] at h;subst h
   cases j with
   |zero=>rw [af J]; rfl
   |succ j=>
    have:=tx Y j
    grind
  grind
theorem BU (x:W): ∀(cs:List CK) (j k:Nat),(jF cs j x)[k]?=(cs[k]?).map fun c=>vh c (kO (j+k) x)
 |[],j,k=>by simp [jF]
 |c::cs,j,0=>by simp [jF]
 |c::cs,j,k+1=>by
  simp only [jF,aA,BU x cs (j+1) k]
  grind
theorem DD {ρ:Nat->Int} {ks:List CK}: ∀{vs:List AV} {off:Nat} {x x':W},setCells ks off vs x=some x'->off+vs.length<=(dec (x.den ρ)).l.length->
 (dec (x'.den ρ)).l.length=(dec (x.den ρ)).l.length/\(dec (x.den ρ)=dL (dec (x.den ρ)).l->dec (x'.den ρ)=dL (dec (x'.den ρ)).l)/\
 ∀j,(j<off\/off+vs.length<=j)/\(dec (x'.den ρ)).l[j]?=(dec (x.den ρ)).l[j]?\/∃c v a,off<=j/\vs[j-off]?=some v/\ks[j]?=some c/\oT c v=some a/\(dec (x'.den ρ)).l[j]?=some (dec (a.den ρ))
 |[],off,x,x',h,_=>by
  simp only [setCells,ah] at h
  grind
 |v::vs,off,x,x',h,hle=>by
  simp only [setCells] at h;split at h
  ·rename_i c hc;split at h
   ·rename_i a ha;simp only [aT] at hle
    have hs:dec ((W.op .set x (gq (.eS (.i (Int.ofNat off))) a)).den ρ)=dL ((dec (x.den ρ)).l.set off (dec (a.den ρ))):=by simp only [gq,W.den,gQ.den,bG,D.n];rfl
    obtain⟨U,Z,h3⟩:=DD (ρ:=ρ) h (by rw [hs,bz,axx]; omega);rw [hs,bz,axx] at U;rw [hs] at Z h3;simp only [bz] at Z h3;rw [dy] at hc
    grind
   grind
  grind
theorem ej.mk {ro:Nat->Prop} {h:Array Obj} {d:D}: ∀{cs:List CK} {j:Nat} {us:List Value},us.length=cs.length->(∀k c u,cs[k]?=some c->us[k]?=some u->jI ro h c (d.V (j+k)) u)->ej ro h cs j d us
 |[],j,us,Y,_=>by
  simp only [ej]
  grind
 |c::cs,j,[],Y,_=>by simp at Y
 |c::cs,j,u::us,Y,hh=>by
  simp only [ej];refine⟨u,us,rfl,by simpa using hh 0 c u rfl rfl,ej.mk (by simpa using Y) fun k c' u' U Z=>?_⟩;have:=hh (k+1) c' u' (by simpa using U) (by simpa using Z)
  grind
theorem UA {r:Row} {e e':W} {k:Nat} {x:D} (hc:MS r e i off vs=some e') (hi:i.den E.ρ=(k:Int)) (hx:(dec (e.den E.ρ)).l[k]?=some x) (yx:rT r x) (hle:off+vs.length<=r.es) :
 ∃x',dec (e'.den E.ρ)=dL ((dec (e.den E.ρ)).l.set k x')/\rT r x'/\∀(h:Array Obj) (iz:List Value),iz.length=r.es->(∀j v u,off<=j->vs[j-off]?=some v->iz[j]?=some u->VR E h v u)->
  (∀j a u,(j<off\/off+vs.length<=j)->(hZ r (.op .at e i))[j]?=some a->iz[j]?=some u->VR E h a u)->yC E.ro h r x' iz:=by
 unfold MS at hc;split at hc
 ·rename_i c;split at hc
  ·split at hc
   ·rename_i v;split at hc
    ·rename_i a ha;simp only [ah] at hc;subst hc;refine⟨dec (a.den E.ρ),?_,qP ha,?_⟩
     ·exact ahs
     ·intro h iz U Z _
      cases iz with
      |nil=>simp [Row.es] at U
      |cons y ys=>
       have:ys= []:=by
        grind [Row.es]
       subst this;exact⟨y,rfl,nh (Z 0 v y (au _) rfl rfl) ha⟩
    grind
   grind
  grind
 ·rename_i ks;split at hc
  ·rename_i x' hx';simp only [ah] at hc;subst hc;have fU:=Dm E.ρ e i hi hx;obtain⟨w1,w2,w3⟩:=yx;obtain⟨g1,g2,g3⟩:=DD (ρ:=E.ρ) hx' (by rw [fU,w2]; exact hle);rw [fU] at g1 g2 g3;refine⟨dec (x'.den E.ρ),?_,⟨g2 w1,by rw [g1,w2],?_⟩,?_⟩
   ·exact ahs
   ·intro j c y hj hy;rcases g3 j with ⟨_,q2⟩|⟨c',v',a',_,_,q3,q4,q5⟩
    ·grind
    ·rw [q5] at hy;rw [hj] at q3;simp only [ah] at hy q3;subst hy q3;exact qP q4
   ·intro h iz U Z h3;show ej E.ro h ks 0 (dec (x'.den E.ρ)) iz;refine ej.mk U fun j c u hj hu=>?_;rw [aH];rcases g3 j with ⟨q1,q2⟩|⟨c',v',a',q1,q2,q3,q4,q5⟩
    ·have p2:=h3 j (vh c (kO j (.op .at e i))) u q1 (by simp only [hZ,BU,hj,awY,aH]) hu;rw [qQ,uw,fU] at p2;have:(dec (x'.den E.ρ)).V j=x.V j:=by simp only [D.V,q2]
     grind
    ·rw [hj] at q3;simp only [ah] at q3;subst q3;have:(dec (x'.den E.ρ)).V j=dec (a'.den E.ρ):=by simp only [D.V,q5,ax]
     rw [this];exact nh (Z j v' u q1 q2 hu) q4
  grind
theorem lj {ρ:Nat->Int} {r:Row} {ov sa:List (W×List AV)}: ∀(ds:List D) (i:Nat),(∀j,i<=j->j<i+ds.length->ek ρ j ov=ek ρ j sa)->bH ρ r ov ds i=bH ρ r sa ds i
 |[],_,_=>rfl
 |d::ds,i,h=>by simp only [bH];rw [h i (au _) ad,lj ds (i+1) fun j U Z=>h j J (by simp only [aT]; omega)]
theorem F6 {ρ:Nat->Int} {pc:List (SB×Bool)} (hp:cA ρ pc) {i:W} {k:Nat} (hi:i.den ρ=(k:Int)) {mD:List AV} {r:Row} (hcs:mD.length=r.es): ∀{ov sa:List (W×List AV)},Ji pc i mD ov=some sa->wI r ov->
 wI r sa/\ek ρ k sa=some mD/\∀j:Nat,j≠k->ek ρ j sa=ek ρ j ov
 |[],sa,h,_=>by simp [Ji] at h
 |(j,c)::l,sa,h,ho=>by
  simp only [Ji] at h;split at h
  ·rename_i he;have he:=dj _ _ he;subst he;simp only [ah] at h;subst h;refine⟨?_,by simp [ek,hi],?_⟩
   ·intro p gC;exact ahI
   ·intro m hm;simp only [ek,hi]
    grind
  ·split at h
   ·rename_i b V;split at h
    ·have V:=gW hp V;rw [jx,beq_iff_eq,hi] at V;simp only [ah] at h;subst h;refine⟨?_,by simp [ek,V],?_⟩
     ·intro p gC;exact ahI
     ·intro m hm;simp only [ek,<- V]
      grind
    split at h
    ·rename_i l' Y;simp only [ah] at h;subst h;have V:=gW hp V;rw [jx,beq_eq_false_iff_ne,hi] at V;obtain⟨g1,g2,g3⟩:=F6 hp hi hcs Y fun p gC=>ho p (by simp [gC]);refine⟨?_,?_,?_⟩
     ·intro p gC;rcases aF.1 gC with rfl|gC
      ·exact ho _ ad
      ·exact g1 p gC
     ·simp only [ek]
      grind
     ·intro m hm;simp only [ek]
      grind
    grind
   grind
theorem Kz {ρ:Nat->Int} {pc:List (SB×Bool)} (hp:cA ρ pc) {i:W} {k:Nat} (hi:i.den ρ=(k:Int)): ∀{ov:List (W×List AV)},xu pc i ov=true->ek ρ k ov=none
 |[],_=>rfl
 |(j,c)::l,h=>by
  simp only [xu] at h;split at h
  ·rename_i V;have V:=gW hp V;rw [jx,beq_eq_false_iff_ne,hi] at V;simp only [ek];rw [af (fun q=>V q.symm)];exact Kz hp hi h
  grind
theorem OR.congr {a b:List AV} {ty:TypeId} (ho:OR E h id (.cells a ty)) (Y:b.length=a.length) (hv: ∀us,cP E h a us->cP E h b us):OR E h id (.cells b ty):=by
 simp only [OR] at ho ⊢
 grind
set_option maxHeartbeats 800000 in
theorem Pr [bN] (da:eP P tt) (r1:bX E1 s.h w) (hp:cA E1.ρ s.pc) (hx:VR E1 w.heap (.BJ id es i off) u)
 (Rb:one=true->cP E1 w.heap vs x.cells.toList/\∀u∈x.cells.toList,u.oneCell'=true) (h:(G9 tt s ty id es i off one vs).leaf E1.ρ=some (v',s')) :
 s'.bC=s.bC/\cA E1.ρ s'.pc/\v'=AV.undef/\∃w' E',(Instr.storeAt ty u x).run P w= .ok () w'/\fm E1 s.h w E' s'.h w'/\bX E' s'.h w':=by
 unfold G9 at h;split at h
 ·rename_i o Y;split at h
  ·rename_i e t Cf ov;split at h
   ·rename_i ti hU;split at h
    ·rename_i jP;obtain⟨lW,hvl,vJ⟩:=jP;obtain⟨pc0,hp0,t1,t2,h3⟩:=oX hp h;obtain⟨fy,gC,h3⟩:=xH (s:={ s with pc:=pc0 }) hp0 h3;split at h3
     ·rename_i cs hc;split at h3
      ·rename_i mD hs;obtain⟨QY,abu⟩:=Rb vJ;have Iq:=hx;simp only [VR] at Iq;obtain⟨hid,k,hk,rfl⟩:=Iq;obtain⟨rc,ho,yx⟩:=r1.rK Y;rw [cV] at t2;have gk:k<(dec (e.den E1.ρ)).l.length:=J
       have V:(dec (e.den E1.ρ)).l[k]?=some (dec (e.den E1.ρ)).l[k]:=aM gk;generalize hxk:(dec (e.den E1.ρ)).l[k]=xk at V;obtain⟨c1,c2⟩:=jR (ρ:=E1.ρ) ho (j:=0) V;rw [aH] at c1;generalize agb:bH E1.ρ (rowOf t) ov ((dec (e.den E1.ρ)).l.take k) 0=pre at c1 c2;generalize Wz:bH E1.ρ (rowOf t) ov ((dec (e.den E1.ρ)).l.drop (k+1)) (k+1)=post at c1
       have ig:(∀h us,cP E1 h (match ek E1.ρ k ov with |some cs=>cs|none=>hZ (rowOf t) (.eS xk)) us↔cP E1 h cs us)/\cs.length=(rowOf t).es:=by
        rcases px gC hk hc with g|⟨g,rfl⟩
        ·rw [g];obtain⟨p,p1,p2,_⟩:=lA g;have:=ho p p1;rw [p2] at this;exact⟨fun _ _=>Iff.rfl,this⟩
        ·rw [g];refine⟨fun h us=>zl ?_,im _ _⟩;rw [Dm E1.ρ e i hk V];simp only [W.den,bG]
       obtain⟨hrv,vK⟩:=ig;have GU:mD.length=(rowOf t).es:=by rw [oU hs,vK]
       have hor:OR E1 w.heap id (.cells (pre++(cs++post)) Cf):=by
        have:=(rc.live id _ (by rw [Hp.bS,ag rfl])).2.1;unfold cX at this;rw [c1] at this;refine OR.congr this ?_ ?_
        ·simp only [aZ,vK];congr 2;split
         ·rename_i cs0 h0;obtain⟨p,p1,p2,_⟩:=lA h0;have:=ho p p1;rw [p2] at this;exact this.symm
         ·rw [im]
        ·intro us q2;obtain⟨a,b,rfl,a1,a2⟩:=q2.split;obtain⟨a',b',rfl,b1,b2⟩:=a2.split;exact a1.append (((hrv _ _).1 b1).append b2)
       have r2:=r1.swap (H2:=s.h.put id (.cells (pre++(cs++post)) Cf)) Y hor (by rw [Hp.bS,ag rfl]) (fun j hj=>by rw [Hp.bS,af hj]) rfl rfl
       have GJ:ep (pre++(cs++post)) (k*es+off) vs=some (pre++(mD++post)):=by rw [<- lW,<- c2];exact ur pre (sB post hs)
       obtain⟨w',g1,g2,g3⟩:=mG (P:=P) r2 (by rw [Hp.bS,ag rfl]) GJ QY abu;have hlen:x.cells.size=ti.size:=by have:=QY.length; simp only [bh] at this; omega
       have mK:(Instr.storeAt ty (.pointer (some ⟨(E1.θ id).1,(E1.θ id).2+(k*es+off),none⟩)) x).run P w= .ok () w':=by simp [Instr.storeAt,Instr.sureAddr,storeVar,e9 (da ty ti hU),hlen,g1]
       have fin: ∀(o':eL),OR E1 w'.heap id o'->∃w' E',(Instr.storeAt ty (.pointer (some ⟨(E1.θ id).1,(E1.θ id).2+(k*es+off),none⟩)) x).run P w= .ok () w'/\fm E1 s.h w E' (s.h.put id o') w'/\bX E' (s.h.put id o') w':=by
        intro o' GL;have al1:IC (s.h.put id (.cells (pre++(cs++post)) Cf)) s.h:=(IC.put Y).symm
        have al2:IC ((s.h.put id (.cells (pre++(cs++post)) Cf)).put id (.cells (pre++(mD++post)) Cf)) (s.h.put id o'):=by
         refine⟨fun j y hj=>?_,fun j y hj=>?_,rfl,rfl⟩
         ·rw [Hp.bS];split
          ·exact⟨o',rfl⟩
          ·rename_i jK;rw [Hp.bS,af jK,Hp.bS,af jK] at hj;exact⟨y,hj⟩
         ·rw [Hp.bS] at hj ⊢;split
          ·exact⟨_,rfl⟩
          ·rename_i jK;rw [af jK] at hj;rw [Hp.bS,af jK];exact⟨y,hj⟩
        refine⟨w',E1,mK,(g2.left al1).right al2,?_⟩;exact g3.swap (id:=id) (by rw [Hp.bS,ag rfl]) GL (by rw [Hp.bS,ag rfl]) (fun j hj=>by rw [Hp.bS,af hj,Hp.bS,af hj,Hp.bS,af hj]) rfl rfl
       have C4:=(g3.live id _ (by rw [Hp.bS,ag rfl])).2.1
       have apart: ∀sa:List (W×List AV),wI (rowOf t) sa->ek E1.ρ k sa=some mD->(∀j:Nat,j≠k->ek E1.ρ j sa=ek E1.ρ j ov)->OR E1 w'.heap id (.vec e t Cf sa):=by
        intro sa q1 q2 q3;refine OR.rK.2 ⟨⟨q1,yx⟩,?_⟩
        have:cX E1.ρ e t sa=pre++(mD++post):=by
         unfold cX;obtain⟨d1,_⟩:=jR (ρ:=E1.ρ) q1 (j:=0) V;rw [aH,q2] at d1;rw [d1,<- agb,<- Wz];congr 1
         ·refine lj _ _ fun j _ hj=>q3 j ?_;rw [aY] at hj;omega
         ·congr 1;exact lj _ _ fun j hj _=>q3 j J
        rw [this];exact C4
       split at h3
       ·rename_i sa Nt;have:=bE h3;simp only [ak] at this;obtain⟨rfl,rfl⟩:=this;refine⟨rfl,gC,rfl,?_⟩;obtain⟨q1,q2,q3⟩:=F6 gC hk GU Nt ho;exact fin _ (apart sa q1 q2 q3)
       ·split at h3
        ·rename_i atr;have WC:=Kz gC hk atr;split at h3
         ·rename_i e' Tl;have:=bE h3;simp only [ak] at this;obtain⟨rfl,rfl⟩:=this;refine⟨rfl,gC,rfl,fin _ ?_⟩;have hxm:xk∈(dec (e.den E1.ρ)).l:=bq V
          have hle:off+vs.length<=(rowOf t).es:=by
           rw [<- vK];rcases axr vs.length with hz|hz
           ·have asV:=axg hz;subst asV
            have: ∀(l c:List AV) (o:Nat),ep c o []=some l->o<=c.length:=by
             intro l c
             induction c generalizing l with
             |nil=>intro o ho; cases o with |zero=>exact aw1 _|succ o=>simp [ep] at ho
             |cons a c ih=>
              intro o ho
              cases o with
              |zero=>exact aw1 _
              |succ o=>
               simp only [ep] at ho;split at ho
               ·rename_i l' Ia;have:=ih l' o Ia;simp; omega
               ·simp at ho
            have:=this _ _ _ hs;simpa using this
           ·have:=tx hs (off+vs.length-1);rw [ag J] at this
            have D0:(vs[off+vs.length-1-off]?).isSome=true:=by rw [aM J]; rfl
            rw [<- this] at D0;obtain⟨y,hy⟩:=axl.1 D0;have:=(bc.1 hy).1;rw [oU hs] at this;omega
          obtain⟨x',z1,z2,z3⟩:=UA Tl hk V (yx.2.1 xk hxm) hle;refine OR.rK.2 ⟨⟨ho,?_⟩,?_⟩
          ·rw [z1];refine⟨by rw [bz],fun y hy=>?_,by rw [bz]; intro q; have:=congrArg List.length q; simp at this; exact yx.2.2 this⟩;rw [bz] at hy;rcases ayE hy with hy|rfl
           ·exact yx.2.1 y hy
           ·exact z2
          ·have Nv:(dec (e'.den E1.ρ)).l[k]?=some x':=by
            rw [z1,bz,ayF gk]
           obtain⟨d1,d2⟩:=jR (ρ:=E1.ρ) ho (j:=0) Nv;rw [aH,WC] at d1
           have WI:cX E1.ρ e' t ov=pre++(hZ (rowOf t) (.eS x')++post):=by
            unfold cX;rw [d1,<- agb,<- Wz,z1,bz];congr 1
            ·rw [aym (au _)]
            ·congr 1;rw [ayn J]
           rw [WI];refine OR.congr C4 (by simp only [aZ,im,GU]) fun us q2=>?_;obtain⟨a,b,rfl,a1,a2⟩:=q2.split;obtain⟨a',b',rfl,b1,b2⟩:=a2.split;refine a1.append (cP.append ?_ b2);rw [gD];simp only [W.den,bG]
           have ati:cs=hZ (rowOf t) (.op .at e i):=by
            rcases px gC hk hc with g|⟨g,g'⟩
            ·rw [WC] at g; simp at g
            ·exact g'
           refine z3 _ a' (by rw [b1.length,GU]) ?_ ?_
           ·intro j vj uj hj1 hj2 hj3;have hjl:=(bc.1 hj2).1;have:=tx hs j;rw [ag J,hj2] at this;obtain⟨y,y1,y2⟩:=b1.nth (by rw [dy]; exact this);rw [hj3] at y1;simp only [ah] at y1;subst y1;exact y2
           ·intro j aj uj hj1 hj2 hj3;have:=tx hs j;rw [af J,ati,hj2] at this;obtain⟨y,y1,y2⟩:=b1.nth (by rw [dy]; exact this);rw [hj3] at y1;simp only [ah] at y1;subst y1;exact y2
         ·have:=bE h3;simp only [ak] at this;obtain⟨rfl,rfl⟩:=this;refine⟨rfl,gC,rfl,fin _ (apart _ ?_ ?_ ?_)⟩
          ·intro p gC;rcases aF.1 gC with rfl|gC
           ·exact GU
           ·exact ho p gC
          ·simp only [ek];rw [ag hk]
          ·intro j hj;simp only [ek];rw [af J]
        ·simp [T.leaf] at h3
      ·simp [T.leaf] at h3
     ·simp [T.leaf] at h3
    ·simp [T.leaf] at h
   ·simp [T.leaf] at h
  ·simp [T.leaf] at h
 ·simp [T.leaf] at h
theorem agn {c:CK} (hv:VR E1 h v u):VR E1 h (ao0 c v) u:=by
 unfold ao0;split
 ·split
  ·simp only [VR] at hv ⊢;subst hv;exact⟨⟨none,rfl⟩,by simp only [W.den,bG]; exact .nil _⟩
  ·split
   ·split
    ·split
     ·simp only [VR] at hv ⊢;obtain⟨_,a,cap,rfl,_,hc⟩:=hv;simp only [fJ] at hc;obtain⟨rfl,_⟩:=hc;exact⟨⟨some a,rfl⟩,by simp only [W.den,bG]; exact .wL _ _ _⟩
     grind
    grind
   grind
  grind
 grind
theorem J4 {E1:En} {h:Array Obj}: ∀(cs:List CK) {vs:List AV} {us:List Value},cP E1 h vs us->cP E1 h (Ph cs vs) us
 |[],vs,us,hv=>hv
 |_::_,[],us,hv=>hv
 |c::cs,v::vs,us,hv=>by rw [bU] at hv;obtain⟨u,iz,rfl,U,Z⟩:=hv;simp only [Ph];rw [bU];exact⟨u,iz,rfl,agn U,J4 cs Z⟩
set_option maxHeartbeats 800000 in
theorem Pq [bN] (da:eP P tt) (r1:bX E1 s.h w) (hp:cA E1.ρ s.pc) {j0:W} (hx:VR E1 w.heap (.BJ id es i off) u)
 (Rb:one=true->cP E1 w.heap vs x.cells.toList/\∀u∈x.cells.toList,u.oneCell'=true) (h:(G8 tt s ty id es i j0 off one vs).leaf E1.ρ=some (v',s')) :
 s'.bC=s.bC/\cA E1.ρ s'.pc/\v'=AV.undef/\∃w' E',(Instr.storeAt ty u x).run P w= .ok () w'/\fm E1 s.h w E' s'.h w'/\bX E' s'.h w':=by
 unfold G8 at h;split at h
 ·rename_i o Y;split at h
  ·rename_i e t Cf ov;split at h
   ·rename_i ti hU;split at h
    ·rename_i jP;obtain⟨lW,hvl,vJ⟩:=jP;obtain⟨pc0,hp0,t1,t2,h3⟩:=oX hp h;obtain⟨fy,gC,h3⟩:=xH (s:={ s with pc:=pc0 }) hp0 h3;split at h3
     ·rename_i hdb;have hij:=gW gC hdb;split at h3
      ·rename_i cs hc;split at h3
       ·rename_i mD hs;obtain⟨asU,abu⟩:=Rb vJ;have QY:=J4 ((Sp (rowOf t)).drop off) asU;have Iq:=hx;simp only [VR] at Iq;obtain⟨hid,k,hk,rfl⟩:=Iq;simp only [SB.den,beq_iff_eq] at hij;have GO:j0.den E1.ρ=(k:Int):=by rw [<- hij]; exact hk
        obtain⟨rc,ho,yx⟩:=r1.rK Y;rw [cV] at t2;have gk:k<(dec (e.den E1.ρ)).l.length:=J
        have V:(dec (e.den E1.ρ)).l[k]?=some (dec (e.den E1.ρ)).l[k]:=aM gk;generalize hxk:(dec (e.den E1.ρ)).l[k]=xk at V;obtain⟨c1,c2⟩:=jR (ρ:=E1.ρ) ho (j:=0) V;rw [aH] at c1;generalize agb:bH E1.ρ (rowOf t) ov ((dec (e.den E1.ρ)).l.take k) 0=pre at c1 c2;generalize Wz:bH E1.ρ (rowOf t) ov ((dec (e.den E1.ρ)).l.drop (k+1)) (k+1)=post at c1
        have ig:(∀h us,cP E1 h (match ek E1.ρ k ov with |some cs=>cs|none=>hZ (rowOf t) (.eS xk)) us↔cP E1 h cs us)/\cs.length=(rowOf t).es:=by
         rcases px gC GO hc with g|⟨g,rfl⟩
         ·rw [g];obtain⟨p,p1,p2,_⟩:=lA g;have:=ho p p1;rw [p2] at this;exact⟨fun _ _=>Iff.rfl,this⟩
         ·rw [g];refine⟨fun h us=>zl ?_,im _ _⟩;rw [Dm E1.ρ e j0 GO V];simp only [W.den,bG]
        obtain⟨hrv,vK⟩:=ig;have GU:mD.length=(rowOf t).es:=by rw [oU hs,vK]
        have hor:OR E1 w.heap id (.cells (pre++(cs++post)) Cf):=by
         have:=(rc.live id _ (by rw [Hp.bS,ag rfl])).2.1;unfold cX at this;rw [c1] at this;refine OR.congr this ?_ ?_
         ·simp only [aZ,vK];congr 2;split
          ·rename_i cs0 h0;obtain⟨p,p1,p2,_⟩:=lA h0;have:=ho p p1;rw [p2] at this;exact this.symm
          ·rw [im]
         ·intro us q2;obtain⟨a,b,rfl,a1,a2⟩:=q2.split;obtain⟨a',b',rfl,b1,b2⟩:=a2.split;exact a1.append (((hrv _ _).1 b1).append b2)
        have r2:=r1.swap (H2:=s.h.put id (.cells (pre++(cs++post)) Cf)) Y hor (by rw [Hp.bS,ag rfl]) (fun j hj=>by rw [Hp.bS,af hj]) rfl rfl
        have GJ:ep (pre++(cs++post)) (k*es+off) (Ph ((Sp (rowOf t)).drop off) vs)=some (pre++(mD++post)):=by rw [<- lW,<- c2];exact ur pre (sB post hs)
        obtain⟨w',g1,g2,g3⟩:=mG (P:=P) r2 (by rw [Hp.bS,ag rfl]) GJ QY abu;have hlen:x.cells.size=ti.size:=by have:=asU.length; simp only [bh] at this; omega
        have mK:(Instr.storeAt ty (.pointer (some ⟨(E1.θ id).1,(E1.θ id).2+(k*es+off),none⟩)) x).run P w= .ok () w':=by simp [Instr.storeAt,Instr.sureAddr,storeVar,e9 (da ty ti hU),hlen,g1]
        have fin: ∀(o':eL),OR E1 w'.heap id o'->∃w' E',(Instr.storeAt ty (.pointer (some ⟨(E1.θ id).1,(E1.θ id).2+(k*es+off),none⟩)) x).run P w= .ok () w'/\fm E1 s.h w E' (s.h.put id o') w'/\bX E' (s.h.put id o') w':=by
         intro o' GL;have al1:IC (s.h.put id (.cells (pre++(cs++post)) Cf)) s.h:=(IC.put Y).symm
         have al2:IC ((s.h.put id (.cells (pre++(cs++post)) Cf)).put id (.cells (pre++(mD++post)) Cf)) (s.h.put id o'):=by
          refine⟨fun j y hj=>?_,fun j y hj=>?_,rfl,rfl⟩
          ·rw [Hp.bS];split
           ·exact⟨o',rfl⟩
           ·rename_i jK;rw [Hp.bS,af jK,Hp.bS,af jK] at hj;exact⟨y,hj⟩
          ·rw [Hp.bS] at hj ⊢;split
           ·exact⟨_,rfl⟩
           ·rename_i jK;rw [af jK] at hj;rw [Hp.bS,af jK];exact⟨y,hj⟩
         refine⟨w',E1,mK,(g2.left al1).right al2,?_⟩;exact g3.swap (id:=id) (by rw [Hp.bS,ag rfl]) GL (by rw [Hp.bS,ag rfl]) (fun j hj=>by rw [Hp.bS,af hj,Hp.bS,af hj,Hp.bS,af hj]) rfl rfl
        have C4:=(g3.live id _ (by rw [Hp.bS,ag rfl])).2.1
        have apart: ∀sa:List (W×List AV),wI (rowOf t) sa->ek E1.ρ k sa=some mD->(∀j:Nat,j≠k->ek E1.ρ j sa=ek E1.ρ j ov)->OR E1 w'.heap id (.vec e t Cf sa):=by
         intro sa q1 q2 q3;refine OR.rK.2 ⟨⟨q1,yx⟩,?_⟩
         have:cX E1.ρ e t sa=pre++(mD++post):=by
          unfold cX;obtain⟨d1,_⟩:=jR (ρ:=E1.ρ) q1 (j:=0) V;rw [aH,q2] at d1;rw [d1,<- agb,<- Wz];congr 1
          ·refine lj _ _ fun j _ hj=>q3 j ?_;rw [aY] at hj;omega
          ·congr 1;exact lj _ _ fun j hj _=>q3 j J
         rw [this];exact C4
        split at h3
        ·rename_i sa Nt;have:=bE h3;simp only [ak] at this;obtain⟨rfl,rfl⟩:=this;refine⟨rfl,gC,rfl,?_⟩;obtain⟨q1,q2,q3⟩:=F6 gC GO GU Nt ho;exact fin _ (apart sa q1 q2 q3)
        ·split at h3
         ·rename_i atr;have:=bE h3;simp only [ak] at this;obtain⟨rfl,rfl⟩:=this;refine⟨rfl,gC,rfl,fin _ (apart _ ?_ ?_ ?_)⟩
          ·intro p gC;rcases aF.1 gC with rfl|gC
           ·exact GU
           ·exact ho p gC
          ·simp only [ek];rw [ag GO]
          ·intro j hj;simp only [ek];rw [af J]
         ·simp [T.leaf] at h3
       ·simp [T.leaf] at h3
      ·simp [T.leaf] at h3
     ·simp [T.leaf] at h3
    ·simp [T.leaf] at h
   ·simp [T.leaf] at h
  ·simp [T.leaf] at h
 ·simp [T.leaf] at h
theorem Ps [bN] (da:eP P tt) (r:bX E s.h w) (hp:cA E.ρ s.pc) (hx:VR E w.heap (.BJ id es i off) u) (hv:VR E w.heap v x) (h:(Ha tt s ty id es i off v).leaf E.ρ=some (v',s')) :
 s'.bC=s.bC/\cA E.ρ s'.pc/\v'=AV.undef/\∃w' E',(Instr.storeAt ty u x).run P w= .ok () w'/\fm E s.h w E' s'.h w'/\bX E' s'.h w':=by
 unfold Ha at h;split at h
 ·exact Pq da r hp hx (fun vJ=> ⟨hv.cells vJ,(hv.cells vJ).tK vJ⟩) h
 ·obtain⟨vs,U,jJ,E1,jo,f,q,g⟩:=rz rfl r hp h;have hρ:=f.ρ;rw [<- hρ] at jo g;obtain⟨a1,a2,a3,w',E',a4,a5,a6⟩:=Pr da (s:={ s with h:=U,pc:=jJ }) f.rel jo (VR.dq (f.eA.keeps r) _ _ hx) (fun vJ=> ⟨q _ (hv.cells vJ),(hv.cells vJ).tK vJ⟩) g;exact⟨a1,by rw [<- hρ]; exact a2,a3,w',E',a4,f.eA.trans a5,a6⟩
end
end
section
variable {t:Nat} {h:Array Obj} {d:D} {us:List Value} {u:Value} {H0:Hp} {e1:W}
section
variable {P:Program} {E:En} {w:World}
theorem yC.length {ro:Nat->Prop} {r:Row} (hh:yC ro h r d us):us.length=r.es:=by
 cases r with
 |one c=>obtain⟨u,rfl,_⟩:=hh; rfl
 |many cs=>exact ej.length hh
theorem gb.append {b o:Nat} {vs:List Value} (U:gb h b o us) (Z:gb h b (o+us.length) vs):gb h b o (us++vs):=by
 intro i u hi;rw [ayh] at hi;split at hi
 ·exact U i u hi
 ·rename_i gk;have:=Z _ u hi
  grind
theorem FQ {ro:Nat->Prop} (pB:ro=E.ro) {h:Array Obj} {r:Row} {b o:Nat}: ∀(L:List D) (j:Nat),(∀i x,L[i]?=some x->∃us,yC ro h r x us/\gb h b (o+(j+i)*r.es) us)->
 ∃us,cP E h (bH E.ρ r [] L j) us/\gb h b (o+j*r.es) us/\us.length=L.length*r.es/\∀u∈us,u.oneCell'=true
 |[],j,_=> ⟨[],by simp [bH,cP],fun i u hi=>by simp at hi,ad,ad⟩
 |d::L,j,hh=>by
  subst pB;obtain⟨a,a1,a2⟩:=hh 0 d rfl
  obtain⟨b',b1,b2,b3,b4⟩:=FQ rfl L (j+1) fun i x hi=>by have:=hh (i+1) x (by simpa using hi);rw [show j+(i+1)=j+1+i by omega] at this;exact this
  have hal:=a1.length;refine⟨a++b',?_,?_,?_,?_⟩
  ·simp only [bH,ek];refine cP.append ?_ b1;rw [gD];simpa only [W.den,bG] using a1
  ·rw [awX] at a2;refine a2.append ?_
   grind
  ·grind
  ·intro u hu;rcases aw5.1 hu with hu|hu
   ·exact a1.tK u hu
   grind
theorem agN (hr:Rd E.ro w.heap (.sl t) d u) (jK:d.l≠[]): ∃us,Src P E w (rowOf t).es d.l.length (bH E.ρ (rowOf t) [] d.l 0) u us:=by
 obtain⟨x,hx⟩ : ∃x,d.l[0]?=some x:=by
  cases h:d.l with
  |nil=>exact absurd h jK
  |cons a l=>exact⟨a,rfl⟩
 obtain⟨b,o,cap,us0,rfl,hb,_,_⟩:=hr.row hx
 obtain⟨us,U,Z,h3,h4⟩:=FQ (E:=E) (ro:=E.ro) rfl (h:=w.heap) (r:=rowOf t) (b:=b) (o:=o) d.l 0 fun i x hi=>by
  obtain⟨b',o',rO,iz,he,_,g1,g2⟩:=hr.row hi
  grind
 rw [aw0,awX] at Z;exact⟨us.toArray,fun _=>rfl,fun w2 hw=>by simp only [Builtin.firstCells]; exact Z.V1 h3 w2 hw,by simpa using U,by simpa using h3,by simpa using h4⟩
structure Grown (ρ:Nat->Int) (r:Row) (e0 e1:W) (ds:List D) (news:List AV):Prop where
 l:(dec (e1.den ρ)).l=(dec (e0.den ρ)).l++ds
 wf:dec (e1.den ρ)=dL (dec (e1.den ρ)).l
 rows: ∀d∈ds,rT r d
 vr: ∀(E':En) (h:Array Obj) (us:List Value) (j:Nat),E'.ρ=ρ->cP E' h news us->cP E' h (bH ρ r [] ds j) us
theorem kT (r:Row):wI r []:=fun p hp=>by simp at hp
theorem EZ [bN] {E':En} {w':World} {cells:List AV} {e:TypeId} (r:bX E' (H0.new (.cells cells e)) w') (yx:xw (rowOf t) (dec (e1.den E'.ρ))) (Y:(cX E'.ρ e1 t []).length=cells.length)
 (hv: ∀us,cP E' w'.heap cells us->cP E' w'.heap (cX E'.ρ e1 t []) us):bX E' (H0.new (.vec e1 t e [])) w':=by
 have hg:(H0.new (.cells cells e)).get H0.fresh=some (.cells cells e):=by rw [Hp.gL,ag rfl]
 refine r.swap hg (OR.rK.2 ⟨⟨kT _,yx⟩,OR.congr (r.live _ _ hg).2.1 Y hv⟩) (by rw [Hp.gL,ag rfl]) (fun j hj=>by rw [Hp.gL,af hj,Hp.gL,af hj]) ?_ ?_
 all_goals grind [Hp.new]
theorem xR {H1:Hp} {o o':eL} (hn:H1.next=H0.next) (hr:H1.res=H0.res) (hg: ∀j,(H0.get j).isSome=(H1.get j).isSome):IC (H0.new o) (H1.new o'):=by
 have hf:H1.fresh=H0.fresh:=by unfold Hp.fresh; rw [hn,hr]
 have key: ∀{A B:Option eL} {x:eL},A.isSome=B.isSome->A=some x->∃y,B=some y:=by intro A B x U Z;rw [Z] at U;exact axl.1 U.symm
 refine⟨fun j x hj=>?_,fun j x hj=>?_,?_,?_⟩
 all_goals grind [Hp.gL,Hp.new]
set_option maxHeartbeats 800000 in
theorem z7 [bN] {t2 ty:Nat} {H h0:Hp} (r:bX E H w) {ie:TI} {e m:Nat} {own:Option Nat} {news:List AV} {x:AV} {d2:TypeDesc} {u2:Value} {us:Array Value} (wT:oe P e ie)
 (ht:P.underlying t=some (.slice e)) (Af:P.underlying t2=some d2) (ku: ∀k,d2≠.int k) (yM:ie.size≠0) (mT:ie.bytes≠0) (uG:ie.zero.length=ie.size) (Re:ie.bytes<=400)
 (src:Src P E w ie.size m news u2 us) (hm:0<m) (hx:VR E w.heap x u) {e0:W} {t':Nat} (hb:rQ e own x H=some (e0,t',h0)) (lW:(rowOf t').es=ie.size) {ds:List D} (g:Grown E.ρ (rowOf t') e0 e1 ds news) (xW:ds.length=m)
 (aoB:((dec (e0.den E.ρ)).l.length+m)*ie.bytes<=140737488355328) :
 ∃y w' E',(Builtin.append_ #[t,t2] ty #[u,u2]).run P w= .ok y w'/\fm E H w E' (h0.new (.vec e1 t' e [])) w'/\bX E' (h0.new (.vec e1 t' e [])) w'/\VR E' w'.heap (.rY h0.fresh (ey e1) t') y:=by
 have hbound: ∀k,k<=(dec (e0.den E.ρ)).l.length->(k+m)*ie.bytes<=140737488355328:=by intro k hk;exact awP (axC _ J) aoB
 have hnl:news.length=m*ie.size:=by have U:=src.ZO.length;have Z:=src.size;simp only [bh] at U;omega
 have uW: ∀(a:Option Addr),u= .slice a 0 0->h0=H->(dec (e0.den E.ρ)).l= []->
  ∃y w' E',(Builtin.append_ #[t,t2] ty #[u,u2]).run P w= .ok y w'/\fm E H w E' (h0.new (.vec e1 t' e [])) w'/\bX E' (h0.new (.vec e1 t' e [])) w'/\VR E' w'.heap (.rY h0.fresh (ey e1) t') y:=by
  intro a hu he pC;subst hu he
  have tR:oF ie e 0 m news h0=some (.slice h0.fresh 0 (0+m) (.rest ie.size),h0.new (.cells news e)):=by unfold oF;rw [ag (hbound 0 J)]
  obtain⟨y,w',E',p1,p2,p3,p4⟩:=qN (t:=t) (t2:=t2) (ty:=ty) (cap:=0) r wT ht Af ku mT uG src J a (old:=[]) (olds:=#[]) (cs:=news) ad (by simp [cP]) ad ad
   (fun w2 _=>by
    cases a with
    |none=>simp [Builtin.firstCells]
    |some a=>simp only [Builtin.firstCells,aw0]; rfl) tR
  have hρ:=p2.ρ;have C1:(dec (e1.den E'.ρ)).l=ds:=by rw [hρ,g.l,pC,aw]
  have yx:xw (rowOf t') (dec (e1.den E'.ρ)):=by refine⟨by rw [hρ]; exact g.wf,fun d V=>?_,by rw [C1]; intro q; rw [q] at xW; simp at xW; omega⟩;rw [C1] at V;exact g.rows d V
  refine⟨y,w',E',p1,p2.right (xR rfl rfl fun _=>rfl),EZ p3 yx ?_ ?_,?_⟩
  ·unfold cX;rw [cW (kT _),C1,xW,lW,hnl]
  ·intro iz OY;unfold cX;rw [C1,hρ];exact g.vr E' w'.heap iz 0 hρ OY
  ·simp only [VR] at p4 ⊢;obtain⟨q1,a',rO,q2,q3,q4⟩:=p4;refine⟨q1,0+m,a',rO,?_,q2,q3,?_⟩
   ·rw [cV,C1,xW,aH]
   ·rw [lW]; exact q4
 unfold rQ at hb;split at hb
 ·rename_i id n t0;split at hb
  ·rename_i o Y;split at hb
   ·rename_i BK t00 vo ov;split at hb
    ·split at hb
     ·rename_i ht0;split at hb
      ·rename_i hty;split at hb
       ·rename_i hn;simp only [ah,ak] at hb;obtain⟨rfl,rfl,rfl⟩:=hb;have ht0:=ay ht0;have hty:=ay hty;have hn:=dj _ _ hn;subst ht0 hty hn;obtain⟨r2,_,aow⟩:=r.rK Y;simp only [VR] at hx;obtain⟨hid,k,a,cap,hk,rfl,hkc,kX⟩:=hx;rw [cV] at hk;have hk:k=(dec (BK.den E.ρ)).l.length:=J
        have Ez:VR E w.heap (.slice id 0 k (.rest ie.size)) (.slice (some a) k cap):=by simp only [VR];exact⟨hid,a,cap,rfl,hkc,by rw [<- lW]; exact kX⟩
        have vK:(cX E.ρ BK t0 []).length=k*ie.size:=by unfold cX;rw [cW (kT _),lW,hk]
        have as7:0<m*ie.size:=axN hm J
        have aoK:rS ie vo m news (.slice id 0 k (.rest ie.size)) (H.put id (.cells (cX E.ρ BK t0 []) vo)) =
         some (.slice H.fresh 0 (k+m) (.rest ie.size),((H.put id (.cells (cX E.ρ BK t0 []) vo)).drop id).new (.cells (cX E.ρ BK t0 []++news) vo)):=by
         unfold rS;simp only [if_true];rw [Hp.bS,ag rfl];simp only;rw [af (by rw [vK,aw6]; omega),ag ⟨J,trivial⟩];simp only [fc];unfold oF;rw [ag (hbound k J)];rfl
        obtain⟨y,w',E',p1,p2,p3,p4⟩:=xq (t:=t) (t2:=t2) (ty:=ty) r2 wT ht Af ku yM mT uG src Ez aoK;have hρ:=p2.ρ;have C1:(dec (e1.den E'.ρ)).l=(dec (BK.den E.ρ)).l++ds:=by rw [hρ,g.l]
        have yx:xw (rowOf t0) (dec (e1.den E'.ρ)):=by
         refine⟨by rw [hρ]; exact g.wf,fun d V=>?_,by rw [C1]; intro q; have:=congrArg List.length q; simp at this; rw [this.2] at xW; simp at xW; omega⟩;rw [C1] at V;rcases aw5.1 V with V|V
         ·exact aow.2.1 d V
         ·exact g.rows d V
        have WI:cX E'.ρ e1 t0 []=cX E.ρ BK t0 []++bH E.ρ (rowOf t0) [] ds (0+(dec (BK.den E.ρ)).l.length):=by unfold cX;rw [C1,hρ,mE]
        have GQ: ∀j,(((H.put id (.cells (cX E.ρ BK t0 []) vo)).drop id).get j)=(H.drop id).get j:=by
         intro j;rw [Hp.pK,Hp.pK];split
         ·rfl
         ·rename_i jK;rw [Hp.bS,af jK]
        have al:IC (((H.put id (.cells (cX E.ρ BK t0 []) vo)).drop id).new (.cells (cX E.ρ BK t0 []++news) vo)) ((H.drop id).new (.vec e1 t0 vo [])):=
         xR rfl rfl fun j=>by rw [GQ]
        have p3':bX E' ((H.drop id).new (.cells (cX E.ρ BK t0 []++news) vo)) w':=by
         have hg:(((H.put id (.cells (cX E.ρ BK t0 []) vo)).drop id).new (.cells (cX E.ρ BK t0 []++news) vo)).get H.fresh=some (.cells (cX E.ρ BK t0 []++news) vo):=by rw [Hp.gL];exact ag rfl
         refine p3.swap hg (p3.live _ _ hg).2.1 (by rw [Hp.gL]; exact ag rfl) (fun j hj=>?_) ?_ ?_
         ·rw [Hp.gL,Hp.gL];show (if j=H.fresh then _ else _)=(if j=H.fresh then _ else _);rw [af hj,af hj,GQ]
         ·unfold Hp.new;simp only [Hp.drop,Hp.put];split<;>rfl
         ·unfold Hp.new;simp only [Hp.drop,Hp.put];split<;>rfl
        refine⟨y,w',E',p1,(p2.left (IC.put Y).symm).right al,EZ p3' yx ?_ ?_,?_⟩
        ·rw [WI,aZ,aZ,cW (kT _),xW,lW,hnl]
        ·intro iz OY;obtain⟨a1,a2,rfl,b1,b2⟩:=OY.split;rw [WI];exact b1.append (g.vr E' w'.heap a2 _ hρ b2)
        ·simp only [VR] at p4 ⊢;obtain⟨q1,a',rO,q2,q3,q4⟩:=p4;refine⟨q1,k+m,a',rO,?_,q2,q3,?_⟩
         ·rw [cV,C1,aZ,xW,hk]
         ·rw [lW]; exact q4
       ·simp at hb
      ·simp at hb
     ·simp at hb
    ·simp at hb
   ·simp at hb
  ·simp at hb
 ·split at hb
  ·simp only [ah,ak] at hb;obtain⟨rfl,rfl,rfl⟩:=hb;simp only [VR] at hx;exact uW none hx rfl (by simp only [W.den,bG,D.l])
  ·simp at hb
 ·split at hb
  ·simp only [ah,ak] at hb;obtain⟨rfl,rfl,rfl⟩:=hb;simp only [VR] at hx;obtain⟨x,hx⟩:=hx;exact uW x hx rfl (by simp only [W.den,bG,D.l])
  ·simp at hb
 ·split at hb
  ·simp only [ah,ak] at hb;obtain⟨rfl,rfl,rfl⟩:=hb;simp only [VR] at hx;obtain⟨⟨x,hx⟩,_⟩:=hx;exact uW x hx rfl (by simp only [W.den,bG,D.l])
  ·simp at hb
 ·split at hb
  ·split at hb
   ·split at hb
    ·split at hb
     ·simp only [ah,ak] at hb;obtain⟨rfl,rfl,rfl⟩:=hb;simp only [VR] at hx;obtain⟨_,a,cap,rfl,_,hc⟩:=hx;simp only [fJ] at hc;obtain⟨rfl,_⟩:=hc;exact uW (some a) rfl rfl (by simp only [W.den,bG,D.l])
     ·simp at hb
    ·simp at hb
   ·simp at hb
  ·simp at hb
 ·simp at hb
end
end
section
variable {e1:W} {t:Nat}
noncomputable def Kw (e:Nat) (own:Option Nat) (x:AV) (h:Hp):Option (W×Nat×List (W×List AV)×Hp):=match x with
 | .rY id n t=>match h.get id with
   |some o=>match o with
    | .vec e0 t0 ty ov=>match Nat.beq t t0 with
     |true=>match Nat.beq ty e with
      |true=>match fH n (ey e0) with
       |true=>some (e0,t,ov,h.drop id)
       |false=>none
      |false=>none
     |false=>none
    |_=>none
   |none=>none
 | .iC=>match own with
   |some t=>some (.eS (.i 0),t,[],h)
   |none=>none
 | .emp=>match own with
   |some t=>some (.eS (.i 0),t,[],h)
   |none=>none
 | .Aj _ _=>match own with
   |some t=>some (.eS (.i 0),t,[],h)
   |none=>none
 | .slice _ _ n c=>match n with
   |0=>match c with
    | .exact k=>match k with
      |0=>match own with
       |some t=>some (.eS (.i 0),t,[],h)
       |none=>none
      |_=>none
    |_=>none
   |_=>none
 |_=>none
section
variable {P:Program} {E:En} {w:World}
structure U0 (ρ:Nat->Int) (r:Row) (e0 e1:W) (ov0 ov1:List (W×List AV)) (ds:List D) (news:List AV):Prop where
 l:(dec (e1.den ρ)).l=(dec (e0.den ρ)).l++ds
 wf:dec (e1.den ρ)=dL (dec (e1.den ρ)).l
 rows: ∀d∈ds,rT r d
 vr: ∀(E':En) (h:Array Obj) (us0 us:List Value),E'.ρ=ρ->cP E' h (bH ρ r ov0 (dec (e0.den ρ)).l 0) us0->cP E' h news us->cP E' h (bH ρ r ov1 (dec (e1.den ρ)).l 0) (us0++us)
theorem OB [bN] {E':En} {H0:Hp} {w':World} {cells:List AV} {e:TypeId} {ov:List (W×List AV)} (r:bX E' (H0.new (.cells cells e)) w') (ho:wI (rowOf t) ov) (yx:xw (rowOf t) (dec (e1.den E'.ρ))) (Y:(cX E'.ρ e1 t ov).length=cells.length)
 (hv: ∀us,cP E' w'.heap cells us->cP E' w'.heap (cX E'.ρ e1 t ov) us):bX E' (H0.new (.vec e1 t e ov)) w':=by
 have hg:(H0.new (.cells cells e)).get H0.fresh=some (.cells cells e):=by rw [Hp.gL,ag rfl]
 refine r.swap hg (OR.rK.2 ⟨⟨ho,yx⟩,OR.congr (r.live _ _ hg).2.1 Y hv⟩) (by rw [Hp.gL,ag rfl]) (fun j hj=>by rw [Hp.gL,af hj,Hp.gL,af hj]) ?_ ?_
 all_goals grind [Hp.new]
set_option maxHeartbeats 800000 in
theorem Ei [bN] {t2 ty:Nat} {H h0:Hp} (r:bX E H w) {ie:TI} {e m:Nat} {own:Option Nat} {news:List AV} {x:AV} {d2:TypeDesc} {u u2:Value} {us:Array Value} (wT:oe P e ie)
 (ht:P.underlying t=some (.slice e)) (Af:P.underlying t2=some d2) (ku: ∀k,d2≠.int k) (yM:ie.size≠0) (mT:ie.bytes≠0) (uG:ie.zero.length=ie.size) (Re:ie.bytes<=400)
 (src:Src P E w ie.size m news u2 us) (hm:0<m) (hx:VR E w.heap x u) {e0:W} {t':Nat} {ov0 ov1:List (W×List AV)} (hb:Kw e own x H=some (e0,t',ov0,h0)) (lW:(rowOf t').es=ie.size) {ds:List D} (g:U0 E.ρ (rowOf t') e0 e1 ov0 ov1 ds news) (xW:ds.length=m)
 (Nt:wI (rowOf t') ov1) (aoB:((dec (e0.den E.ρ)).l.length+m)*ie.bytes<=140737488355328) :
 ∃y w' E',(Builtin.append_ #[t,t2] ty #[u,u2]).run P w= .ok y w'/\fm E H w E' (h0.new (.vec e1 t' e ov1)) w'/\bX E' (h0.new (.vec e1 t' e ov1)) w'/\VR E' w'.heap (.rY h0.fresh (ey e1) t') y:=by
 have hbound: ∀k,k<=(dec (e0.den E.ρ)).l.length->(k+m)*ie.bytes<=140737488355328:=by intro k hk;exact awP (axC _ J) aoB
 have hnl:news.length=m*ie.size:=by have U:=src.ZO.length;have Z:=src.size;simp only [bh] at U;omega
 have uW: ∀(a:Option Addr),u= .slice a 0 0->h0=H->(dec (e0.den E.ρ)).l= []->
  ∃y w' E',(Builtin.append_ #[t,t2] ty #[u,u2]).run P w= .ok y w'/\fm E H w E' (h0.new (.vec e1 t' e ov1)) w'/\bX E' (h0.new (.vec e1 t' e ov1)) w'/\VR E' w'.heap (.rY h0.fresh (ey e1) t') y:=by
  intro a hu he pC;subst hu he
  have tR:oF ie e 0 m news h0=some (.slice h0.fresh 0 (0+m) (.rest ie.size),h0.new (.cells news e)):=by unfold oF;rw [ag (hbound 0 J)]
  obtain⟨y,w',E',p1,p2,p3,p4⟩:=qN (t:=t) (t2:=t2) (ty:=ty) (cap:=0) r wT ht Af ku mT uG src J a (old:=[]) (olds:=#[]) (cs:=news) ad (by simp [cP]) ad ad
   (fun w2 _=>by
    cases a with
    |none=>simp [Builtin.firstCells]
    |some a=>simp only [Builtin.firstCells,aw0]; rfl) tR
  have hρ:=p2.ρ;have C1:(dec (e1.den E'.ρ)).l=ds:=by rw [hρ,g.l,pC,aw]
  have yx:xw (rowOf t') (dec (e1.den E'.ρ)):=by refine⟨by rw [hρ]; exact g.wf,fun d V=>?_,by rw [C1]; intro q; rw [q] at xW; simp at xW; omega⟩;rw [C1] at V;exact g.rows d V
  refine⟨y,w',E',p1,p2.right (xR rfl rfl fun _=>rfl),OB p3 Nt yx ?_ ?_,?_⟩
  ·unfold cX;rw [cW Nt,C1,xW,lW,hnl]
  ·intro iz OY;unfold cX;rw [hρ];have:=g.vr E' w'.heap [] iz hρ (by rw [pC]; simp [bH,cP]) OY;simpa using this
  ·simp only [VR] at p4 ⊢;obtain⟨q1,a',rO,q2,q3,q4⟩:=p4;refine⟨q1,0+m,a',rO,?_,q2,q3,?_⟩
   ·rw [cV,C1,xW,aH]
   ·rw [lW]; exact q4
 unfold Kw at hb;split at hb
 ·rename_i id n t0;split at hb
  ·rename_i o Y;split at hb
   ·rename_i BK t00 vo ov
    ·split at hb
     ·rename_i ht0;split at hb
      ·rename_i hty;split at hb
       ·rename_i hn;simp only [ah,ak] at hb;obtain⟨rfl,rfl,rfl,rfl⟩:=hb;have ht0:=ay ht0;have hty:=ay hty;have hn:=dj _ _ hn;subst ht0 hty hn;obtain⟨r2,as4,aow⟩:=r.rK Y;simp only [VR] at hx;obtain⟨hid,k,a,cap,hk,rfl,hkc,kX⟩:=hx;rw [cV] at hk;have hk:k=(dec (BK.den E.ρ)).l.length:=J
        have Ez:VR E w.heap (.slice id 0 k (.rest ie.size)) (.slice (some a) k cap):=by simp only [VR];exact⟨hid,a,cap,rfl,hkc,by rw [<- lW]; exact kX⟩
        have vK:(cX E.ρ BK t0 ov).length=k*ie.size:=by unfold cX;rw [cW as4,lW,hk]
        have as7:0<m*ie.size:=axN hm J
        have aoK:rS ie vo m news (.slice id 0 k (.rest ie.size)) (H.put id (.cells (cX E.ρ BK t0 ov) vo)) =
         some (.slice H.fresh 0 (k+m) (.rest ie.size),((H.put id (.cells (cX E.ρ BK t0 ov) vo)).drop id).new (.cells (cX E.ρ BK t0 ov++news) vo)):=by
         unfold rS;simp only [if_true];rw [Hp.bS,ag rfl];simp only;rw [af (by rw [vK,aw6]; omega),ag ⟨J,trivial⟩];simp only [fc];unfold oF;rw [ag (hbound k J)];rfl
        obtain⟨y,w',E',p1,p2,p3,p4⟩:=xq (t:=t) (t2:=t2) (ty:=ty) r2 wT ht Af ku yM mT uG src Ez aoK;have hρ:=p2.ρ;have C1:(dec (e1.den E'.ρ)).l=(dec (BK.den E.ρ)).l++ds:=by rw [hρ,g.l]
        have yx:xw (rowOf t0) (dec (e1.den E'.ρ)):=by
         refine⟨by rw [hρ]; exact g.wf,fun d V=>?_,by rw [C1]; intro q; have:=congrArg List.length q; simp at this; rw [this.2] at xW; simp at xW; omega⟩;rw [C1] at V;rcases aw5.1 V with V|V
         ·exact aow.2.1 d V
         ·exact g.rows d V
        have GQ: ∀j,(((H.put id (.cells (cX E.ρ BK t0 ov) vo)).drop id).get j)=(H.drop id).get j:=by
         intro j;rw [Hp.pK,Hp.pK];split
         ·rfl
         ·rename_i jK;rw [Hp.bS,af jK]
        have al:IC (((H.put id (.cells (cX E.ρ BK t0 ov) vo)).drop id).new (.cells (cX E.ρ BK t0 ov++news) vo)) ((H.drop id).new (.vec e1 t0 vo ov1)):=
         xR rfl rfl fun j=>by rw [GQ]
        have p3':bX E' ((H.drop id).new (.cells (cX E.ρ BK t0 ov++news) vo)) w':=by
         have hg:(((H.put id (.cells (cX E.ρ BK t0 ov) vo)).drop id).new (.cells (cX E.ρ BK t0 ov++news) vo)).get H.fresh=some (.cells (cX E.ρ BK t0 ov++news) vo):=by rw [Hp.gL];exact ag rfl
         refine p3.swap hg (p3.live _ _ hg).2.1 (by rw [Hp.gL]; exact ag rfl) (fun j hj=>?_) ?_ ?_
         ·rw [Hp.gL,Hp.gL];show (if j=H.fresh then _ else _)=(if j=H.fresh then _ else _);rw [af hj,af hj,GQ]
         ·unfold Hp.new;simp only [Hp.drop,Hp.put];split<;>rfl
         ·unfold Hp.new;simp only [Hp.drop,Hp.put];split<;>rfl
        refine⟨y,w',E',p1,(p2.left (IC.put Y).symm).right al,OB p3' Nt yx ?_ ?_,?_⟩
        ·unfold cX;rw [cW Nt,C1,aZ,aZ,cW as4,xW,lW,hnl,aw6]
        ·intro iz OY;obtain⟨a1,a2,rfl,b1,b2⟩:=OY.split;unfold cX at b1 ⊢;rw [hρ];exact g.vr E' w'.heap a1 a2 hρ b1 b2
        ·simp only [VR] at p4 ⊢;obtain⟨q1,a',rO,q2,q3,q4⟩:=p4;refine⟨q1,k+m,a',rO,?_,q2,q3,?_⟩
         ·rw [cV,C1,aZ,xW,hk]
         ·rw [lW]; exact q4
       ·simp at hb
      ·simp at hb
     ·simp at hb
   ·simp at hb
  ·simp at hb
 ·split at hb
  ·simp only [ah,ak] at hb;obtain⟨rfl,rfl,rfl,rfl⟩:=hb;simp only [VR] at hx;exact uW none hx rfl (by simp only [W.den,bG,D.l])
  ·simp at hb
 ·split at hb
  ·simp only [ah,ak] at hb;obtain⟨rfl,rfl,rfl,rfl⟩:=hb;simp only [VR] at hx;obtain⟨x,hx⟩:=hx;exact uW x hx rfl (by simp only [W.den,bG,D.l])
  ·simp at hb
 ·split at hb
  ·simp only [ah,ak] at hb;obtain⟨rfl,rfl,rfl,rfl⟩:=hb;simp only [VR] at hx;obtain⟨⟨x,hx⟩,_⟩:=hx;exact uW x hx rfl (by simp only [W.den,bG,D.l])
  ·simp at hb
 ·split at hb
  ·split at hb
   ·split at hb
    ·split at hb
     ·simp only [ah,ak] at hb;obtain⟨rfl,rfl,rfl,rfl⟩:=hb;simp only [VR] at hx;obtain⟨_,a,cap,rfl,_,hc⟩:=hx;simp only [fJ] at hc;obtain⟨rfl,_⟩:=hc;exact uW (some a) rfl rfl (by simp only [W.den,bG,D.l])
     ·simp at hb
    ·simp at hb
   ·simp at hb
  ·simp at hb
 ·simp at hb
end
end
section
variable {e0 p e1:W} {cs news:List AV} {e t:Nat} {own:Option Nat} {x:AV} {h h0:Hp}
section
variable {ρ:Nat->Int} {r:Row}
theorem rJ {p:W} {cs:List AV}: ∀(ds:List D) (j:Nat),(∀i,j<=i->i<j+ds.length->p.den ρ≠(i:Int))->bH ρ r [(p,cs)] ds j=bH ρ r [] ds j
 |[],_,_=>rfl
 |d::ds,j,h=>by have h0:=h j (au _) (by simp only [aT]; omega);simp only [bH,ek,af h0];rw [rJ ds (j+1) fun i U Z=>h i J (by simp only [aT]; omega)]
theorem asF {ds:List D} (g:Grown ρ r e0 e1 ds news) (hp:p.den ρ<((dec (e0.den ρ)).l.length:Int)):U0 ρ r e0 e1 [(p,cs)] [(p,cs)] ds news:=by refine⟨g.l,g.wf,g.rows,fun E' h us0 us hρ h0 U=>?_⟩;rw [g.l,mE];refine h0.append ?_;rw [rJ ds _ fun i U _=>by omega];exact g.vr E' h us _ hρ U
theorem ary {zs:List AV} {d:D} (g:Grown ρ r e0 e1 [d] zs) (hp:p.den ρ=((dec (e0.den ρ)).l.length:Int)):U0 ρ r e0 e1 [] [(p,news)] [d] news:=by
 refine⟨g.l,g.wf,g.rows,fun E' h us0 us hρ h0 U=>?_⟩;rw [g.l,mE,rJ _ _ fun i _ Z=>by omega];refine h0.append ?_;simp only [bH,ek,aH]
 grind
theorem apy (hb:rQ e own x h=some (e0,t,h0)):Kw e own x h=some (e0,t,[],h0):=by
 unfold rQ at hb;unfold Kw
 repeat' split at hb
 all_goals first
  |(simp at hb; done)
  |(simp only [ah,ak] at hb; obtain⟨rfl,rfl,rfl⟩:=hb; simp_all)
theorem au6 (hb:CF e x h=some (e0,t,p,cs,h0)):Kw e own x h=some (e0,t,[(p,cs)],h0):=by
 unfold CF at hb;unfold Kw
 repeat' split at hb
 all_goals first
  |(simp at hb; done)
  |(simp only [ah,ak] at hb; obtain⟨rfl,rfl,rfl,rfl,rfl⟩:=hb; simp_all)
end
end
section
variable {u u2:Value} {x v:AV} {t e m t2 ty bytes m' n:Nat} {news:List AV} {us:Array Value} {own:Option Nat} {ie:TI} {d2:TypeDesc} {s s':St} {H h0:Hp} {e0:W}
section
variable {P:Program} {E:En} {w:World}
theorem Src.frz {E1:En} {s:Nat} {DS:List AV} (src:Src P E w s m news u us) (h:cP E1 w.heap DS us.toList):Src P E1 w s m DS u us:=
 ⟨src.len,src.first,h,src.size,src.tK⟩
theorem room_le (mT:bytes≠0) (Re:bytes<=400) (hm:(m:Int)<sQ bytes 1000000) (hn:n<1000000):(n+m)*bytes<=140737488355328:=by
 have ZU:(m:Int)<((140737488355328 / bytes-1000000:Nat):Int):=hm;have U:m<140737488355328 / bytes-1000000:=J
 have Z:n+m<=140737488355328 / bytes:=J
 exact l_
theorem aag (hm:(m:Int)<sQ bytes 0):(([]:List D).length+m)*bytes<=140737488355328:=by
 have ZU:(m:Int)<((140737488355328 / bytes-0:Nat):Int):=hm;have Z:([]:List D).length+m<=140737488355328 / bytes:=by simp only [bd]; omega
 exact l_
theorem FT (hn:(n:Int)<sQ bytes (m+1)) {k:Nat} (hk:k=m+1):(n+k)*bytes<=140737488355328:=by
 have E8:(n:Int)<((140737488355328 / bytes-(m+1):Nat):Int):=hn;have Z:n+k<=140737488355328 / bytes:=J
 exact l_
theorem rL {ρ:Nat->Int} {r:Row} {e e1:W} (h:mw r e m news=some e1) (hw:dec (e.den ρ)=dL (dec (e.den ρ)).l): ∃ds,ds.length=m/\Grown ρ r e e1 ds news:=by obtain⟨ds,U,Z,h3,h4,h5⟩:=xl (ρ:=ρ) m h;exact⟨ds,U,Z,h3 hw,h4,h5⟩
theorem MZ [bN] (r:bX E H w) (h:rQ e own x H=some (e0,t,h0)):dec (e0.den E.ρ)=dL (dec (e0.den E.ρ)).l:=by
 have hz:dec ((W.eS (.i 0)).den E.ρ)=dL (dec ((W.eS (.i 0)).den E.ρ)).l:=by simp only [W.den,bG]; rfl
 unfold rQ at h;split at h
 ·split at h
  ·rename_i o Y;split at h
   ·split at h
    ·split at h
     ·split at h
      ·split at h
       ·simp only [ah,ak] at h;obtain⟨rfl,_⟩:=h;exact (r.rK Y).2.2.1
       grind
      grind
     grind
    grind
   grind
  grind
 all_goals grind
theorem Ej [bN] (wT:oe P e ie) (ht:P.underlying t=some (.slice e)) (Af:P.underlying t2=some d2) (ku: ∀k,d2≠.int k)
 (src:Src P E w ie.size 0 news u2 us) (ho: ∃a n cap,u= .slice a n cap/\n<=cap):(Builtin.append_ #[t,t2] ty #[u,u2]).run P w= .ok u w:=by
 obtain⟨inf,d,z,U,Z,h3,h4,h5,h6,h7,h8⟩:=wT.all;obtain⟨a,n,cap,rfl,hn⟩:=ho;have OY:us.toList= []:=axg (by rw [bh,src.size,aw0])
 have:=lq (t:=t) (t2:=t2) (ty:=ty) (n:=n) (cap:=cap) (a:=a) (w':=w) ht Af ku U h5 src J (by
  cases a with
  |none=>rfl
  |some a=>rw [OY]; rfl)
 grind
theorem Yt (hx:VR E w.heap x u) (hb:rQ e own x H=some (e0,t,h0)): ∃a n cap,u= .slice a n cap/\n<=cap:=by
 unfold rQ at hb;split at hb
 ·exact Fp
 ·exact Fp
 ·exact Fp
 ·exact Fp
 ·exact Fp
 grind
theorem OV (hx:VR E w.heap x u) (hb:aa9 own x=true): ∃a n cap,u= .slice a n cap/\n<=cap:=by
 unfold aa9 at hb;split at hb
 ·exact Fp
 ·exact Fp
 ·exact Fp
 ·exact Fp
 ·exact Fp
 ·exact Fp
 grind
theorem D8 [bN] (r:bX E s.h w) (hp:cA E.ρ s.pc) (wT:oe P e ie) (hu:P.underlying t=some (.slice e)) (ku:P.underlying t2=some d2) (wX: ∀k,d2≠.int k)
 (yM:ie.size≠0) (mT:ie.bytes≠0) (uG:ie.zero.length=ie.size) (Re:ie.bytes<=400) (src:Src P E w ie.size (m'+1) news u2 us) (hx:VR E w.heap x u) (h:(BI e own x ie m' news s).leaf E.ρ=some (v,s')) :
 s'.bC=s.bC/\cA E.ρ s'.pc/\∃z w' E',(Builtin.append_ #[t,t2] ty #[u,u2]).run P w= .ok z w'/\fm E s.h w E' s'.h w'/\bX E' s'.h w'/\VR E' w'.heap v z:=by
 unfold BI at h;obtain⟨DS,U,pcF,E1,hpF,f,QY,h⟩:=rz rfl r hp h;split at h
 ·rename_i e0 t' h0 hb;split at h
  ·rename_i hc;obtain⟨lW,hm⟩:=hc;have hρ:=f.ρ;obtain⟨jJ,jo,Z⟩:=dh (s:={ s with h:=U,pc:=pcF }) hpF h;split at Z
   ·rename_i t3;rw [ef,decide_eq_true_eq,cV] at t3;simp only [W.den] at t3;split at Z
    ·rename_i e1 hcr;have:=bE Z;simp only [ak] at this;obtain⟨rfl,rfl⟩:=this;obtain⟨ds,xW,g⟩:=rL (ρ:=E1.ρ) hcr (MZ f.rel hb);obtain⟨z,w',E',p1,p2,p3,p4⟩:=z7 (t:=t) (t2:=t2) (ty:=ty) f.rel wT hu ku wX yM mT uG Re (src.frz (QY _ src.ZO)) J (VR.dq (f.eA.keeps r) _ _ hx) hb lW g xW (FT (by rw [hρ]; exact t3) J);exact⟨rfl,jo,z,w',E',p1,f.eA.trans p2,p3,p4⟩
    grind [T.leaf]
   grind [T.leaf]
  grind [T.leaf]
 grind [T.leaf]
theorem asl [bN] (r:bX E H w) {p:W} {cs:List AV} (h:CF e x H=some (e0,t,p,cs,h0)):dec (e0.den E.ρ)=dL (dec (e0.den E.ρ)).l/\wI (rowOf t) [(p,cs)]:=by
 unfold CF at h;split at h
 ·split at h
  ·rename_i Y;split at h
   ·split at h
    ·grind
    ·split at h
     ·split at h
      ·rename_i ht;split at h
       ·split at h
        ·simp only [ah,ak] at h;obtain⟨rfl,rfl,rfl,rfl,_⟩:=h;have ht:=ay ht;subst ht;exact⟨(r.rK Y).2.2.1,(r.rK Y).2.1⟩
        grind
       grind
      grind
     grind
   grind
  grind
 grind
theorem Mt [bN] (r:bX E s.h w) (hp:cA E.ρ s.pc) {own:Option Nat} (wT:oe P e ie) (hu:P.underlying t=some (.slice e)) (ku:P.underlying t2=some d2) (wX: ∀k,d2≠.int k)
 (yM:ie.size≠0) (mT:ie.bytes≠0) (uG:ie.zero.length=ie.size) (Re:ie.bytes<=400) (src:Src P E w ie.size (m'+1) news u2 us) (hx:VR E w.heap x u) (h:(De e x ie m' news s).leaf E.ρ=some (v,s')) :
 s'.bC=s.bC/\cA E.ρ s'.pc/\∃z w' E',(Builtin.append_ #[t,t2] ty #[u,u2]).run P w= .ok z w'/\fm E s.h w E' s'.h w'/\bX E' s'.h w'/\VR E' w'.heap v z:=by
 unfold De at h;obtain⟨DS,U,pcF,E1,hpF,f,QY,h⟩:=rz rfl r hp h;split at h
 ·rename_i e0 t' p cs h0 hb;split at h
  ·rename_i hc;obtain⟨lW,hm⟩:=hc;have hρ:=f.ρ;obtain⟨jJ,jo,Z⟩:=dh (s:={ s with h:=U,pc:=pcF }) hpF h;split at Z
   ·rename_i t3;rw [ef,decide_eq_true_eq,cV] at t3;simp only [W.den] at t3;obtain⟨qA,n9,h3⟩:=dh (s:={ s with h:=U,pc:=jJ }) jo Z;split at h3
    ·rename_i t4;rw [ef,decide_eq_true_eq,cV] at t4;split at h3
     ·rename_i e1 hcr;have:=bE h3;simp only [ak] at this;obtain⟨rfl,rfl⟩:=this;obtain⟨hw1,hw2⟩:=asl f.rel hb;obtain⟨ds,xW,g⟩:=rL (ρ:=E1.ρ) hcr hw1;obtain⟨z,w',E',p1,p2,p3,p4⟩:=Ei (t:=t) (t2:=t2) (ty:=ty) f.rel wT hu ku wX yM mT uG Re (src.frz (QY _ src.ZO)) J (VR.dq (f.eA.keeps r) _ _ hx) (au6 (own:=own) hb) lW (asF g (by rw [hρ]; exact t4)) xW hw2 (FT (by rw [hρ]; exact t3) J);exact⟨rfl,n9,z,w',E',p1,f.eA.trans p2,p3,p4⟩
     grind [T.leaf]
    grind [T.leaf]
   grind [T.leaf]
  grind [T.leaf]
 grind [T.leaf]
theorem Ms [bN] (r:bX E s.h w) (hp:cA E.ρ s.pc) (wT:oe P e ie) (hu:P.underlying t=some (.slice e)) (ku:P.underlying t2=some d2) (wX: ∀k,d2≠.int k)
 (yM:ie.size≠0) (mT:ie.bytes≠0) (uG:ie.zero.length=ie.size) (Re:ie.bytes<=400) (src:Src P E w ie.size (m'+1) news u2 us) (hx:VR E w.heap x u) (h:(Dd e own x ie m' news s).leaf E.ρ=some (v,s')) :
 s'.bC=s.bC/\cA E.ρ s'.pc/\∃z w' E',(Builtin.append_ #[t,t2] ty #[u,u2]).run P w= .ok z w'/\fm E s.h w E' s'.h w'/\bX E' s'.h w'/\VR E' w'.heap v z:=by
 unfold Dd at h;split at h
 ·rename_i e0 t' h0 hb;split at h
  ·rename_i hc;obtain⟨lW,rfl⟩:=hc;obtain⟨jJ,jo,Z⟩:=dh hp h;split at Z
   ·rename_i t3;obtain⟨qA,n9,h3⟩:=dh (s:={ s with pc:=jJ }) jo Z;split at h3
    ·rename_i t4;rw [ef,decide_eq_true_eq,cV] at t4;simp only [W.den] at t4;split at h3
     ·rename_i e1 hcr;have:=bE h3;simp only [ak] at this;obtain⟨rfl,rfl⟩:=this;obtain⟨ds,xW,g⟩:=rL (ρ:=E.ρ) hcr (MZ r hb)
      obtain⟨d,rfl⟩ : ∃d,ds= [d]:=by
       cases ds with
       |nil=>simp at xW
       |cons d l=>cases l with
        |nil=>exact⟨d,rfl⟩
        |cons a b=>simp at xW
      have hnl:news.length=(rowOf t').es:=by
       have U:=src.ZO.length;have Z:=src.size
       grind
      obtain⟨z,w',E',p1,p2,p3,p4⟩:=Ei (t:=t) (t2:=t2) (ty:=ty) r wT hu ku wX yM mT uG Re src J hx (apy hb) lW (ary (p:=.dH 0) g (by rw [jx,cV] at t3; simp only [beq_iff_eq] at t3; exact t3.symm)) xW (fun q hq=>by simp only [ayo] at hq; subst hq; exact hnl) (FT t4 J)
      grind
     grind [T.leaf]
    grind [T.leaf]
   ·obtain⟨q1,q2,q3⟩:=D8 (s:={ s with pc:=jJ }) r jo (ty:=ty) wT hu ku wX yM mT uG Re src hx Z
    grind
  grind [T.leaf]
 grind [T.leaf]
set_option maxHeartbeats 800000 in
theorem Mr [bN] {tt:TT} (da:eP P tt) (r:bX E s.h w) (hp:cA E.ρ s.pc) {y:AV} (hx:VR E w.heap x u) (hy:VR E w.heap y u2) (hsl:aj7 y=false->∃a n cap,u= .slice a n cap/\n<=cap) (h:(Dc tt t t2 x y s).leaf E.ρ=some (v,s')) :
 s'.bC=s.bC/\cA E.ρ s'.pc/\∃z w' E',(Builtin.append_ #[t,t2] ty #[u,u2]).run P w= .ok z w'/\fm E s.h w E' s'.h w'/\bX E' s'.h w'/\VR E' w'.heap v z:=by
 unfold Dc at h;split at h
 ·rename_i ti hU;split at h
  ·rename_i e hk;split at h
   ·rename_i ie np;split at h
    ·simp [T.leaf] at h
    ·rename_i X0 abl;obtain⟨d2,ku,GO⟩:=tP (da t2 X0 abl);split at h
     ·simp [T.leaf] at h
     ·rename_i k2 jK
      have wX: ∀k,d2≠.int k:=by intro k V;subst V;cases Bc:X0.kind<;>rw [Bc] at GO<;>simp only [UZ] at GO;exact jK _ Bc
      split at h
      ·simp [T.leaf] at h
      ·rename_i jP;simp only [not_or,Classical.not_not] at jP;obtain⟨yM,mT,uG,Re⟩:=jP;have wT:=da e ie np;have hu:=fw (da t ti hU) hk;split at h
       ·
        rename_i e2 ty2;split at h
        ·rename_i e0 t' h0 hb;split at h
         ·rename_i hc;obtain⟨lW,ig⟩:=hc;obtain⟨jJ,jo,U⟩:=dh hp h;rw [mP,cV] at U;simp only [VR] at hy;obtain⟨xa,Zk,hu2,_⟩:=hy.slice;split at U
          ·rename_i hz;simp only [W.den,beq_iff_eq] at hz;have:=bE U;simp only [ak] at this;obtain⟨rfl,rfl⟩:=this;have A9:(dec (e2.den E.ρ)).l.length=0:=J
           rw [A9] at hu2;subst hu2
           have src:Src P E w ie.size 0 [] (.slice xa 0 Zk) #[]:=⟨fun _=>rfl,fun w2 _=>by
            cases xa with
            |none=>simp [Builtin.firstCells]
            |some a=>simp only [Builtin.firstCells,aw0]; rfl,by simp [cP],ad,ad⟩
           exact⟨rfl,jo,u,w,E,Ej wT hu ku wX src (Yt hx hb),fm.refl _ _ _,r,hx⟩
          ·rename_i hz;simp only [W.den,beq_eq_false_iff_ne,ne_eq] at hz;obtain⟨qA,n9,Z⟩:=dh (s:={ s with pc:=jJ }) jo U;split at Z
           ·rename_i Np;obtain⟨pc3,OZ,h3⟩:=dh (s:={ s with pc:=qA }) n9 Z;split at h3
            ·rename_i t3;rw [ef,decide_eq_true_eq,cV] at Np t3;simp only [W.den] at Np t3;have as6:(dec (e2.den E.ρ)).l≠[]:=by intro q; rw [q] at hz; simp at hz
             obtain⟨us,src⟩:=agN (P:=P) (w:=w) hy as6;rw [ig] at src;rw [lW] at src
             have lU:0<(dec (e2.den E.ρ)).l.length:=by
              rcases axr (dec (e2.den E.ρ)).l.length with q|q
              ·omega
              ·exact q
             have aov:dec (e2.den E.ρ)=dL (dec (e2.den E.ρ)).l/\∀d∈(dec (e2.den E.ρ)).l,rT (rowOf ty2) d:=by
              have key: ∀{d:D} {v:Value},Rd E.ro w.heap (.sl ty2) d v->d.l≠[]->d=dL d.l/\∀x∈d.l,rT (rowOf ty2) x:=by
               intro d v hr jK
               have aej: ∀{c:CK} {d:D} {v:Value},Rd E.ro w.heap c d v->rU c d:=by
                intro c d v hr
                cases hr with
                |int k n=>rfl
                |bool b=>cases b<;>simp [rU]
                |str s=>trivial
                |nil t=>trivial
                |wL t a cap=>trivial
                |one t c b o cap ds f hr hc hb U Z=>trivial
                |many t cs b o cap rows f hr hc hb Y U Z=>trivial
               generalize hc:CK.sl ty2=c at hr
               cases hr with
               |int k n=>simp at hc
               |bool b=>simp at hc
               |str s=>simp at hc
               |nil t=>exact absurd rfl jK
               |wL t a cap=>exact absurd rfl jK
               |one t c b o cap ds f hr eR hb U Z=> simp only [CK.sl.injEq] at hc;subst hc;refine⟨by rw [bz],fun x hx=>?_⟩;rw [bz] at hx;obtain⟨i,hi⟩:=axG.1 hx;rw [hr];exact aej (Z i x hi)
               |many t cs b o cap rows f hr eR hb Y U Z=> simp only [CK.sl.injEq] at hc;subst hc;refine⟨by rw [bz],fun x hx=>?_⟩;rw [bz,aQ] at hx;obtain⟨row,hrm,rfl⟩:=hx;obtain⟨i,hi⟩:=axG.1 hrm;rw [hr];refine⟨by rw [bz],by rw [bz]; exact Y row hrm,fun j c y hj hy=>?_⟩;rw [bz] at hy;exact aej (Z i row j y c hi hy hj)
              exact key hy as6
             rw [ig] at aov
             have grown: ∀e1:W,(dec (e1.den E.ρ)).l=(dec (e0.den E.ρ)).l++(dec (e2.den E.ρ)).l->dec (e1.den E.ρ)=dL (dec (e1.den E.ρ)).l->Grown E.ρ (rowOf t') e0 e1 (dec (e2.den E.ρ)).l (bH E.ρ (rowOf t') [] (dec (e2.den E.ρ)).l 0):=by
              intro e1 q1 q2;refine⟨q1,q2,aov.2,fun E' h us j hρ hv=>?_⟩
              have:bH E.ρ (rowOf t') [] (dec (e2.den E.ρ)).l j=bH E.ρ (rowOf t') [] (dec (e2.den E.ρ)).l 0:=by
               generalize (dec (e2.den E.ρ)).l=L;clear hv q1 q2
               have gen: ∀(L:List D) (a b:Nat),bH E.ρ (rowOf t') [] L a=bH E.ρ (rowOf t') [] L b:=by
                intro L
                induction L with
                |nil=>intro a b; rfl
                |cons d L ih=>intro a b; simp only [bH,ek]; rw [ih (a+1) (b+1)]
               exact gen L j 0
              rw [this];exact hv
             have hbw:=MZ r hb;split at h3
             ·rename_i pC
              have ato:(dec (e0.den E.ρ)).l= []:=by
               unfold S9 at pC;split at pC
               ·split at pC
                ·simp only [W.den,bG,D.l]
                ·simp at pC
               ·simp at pC
              have:=bE h3;simp only [ak] at this;obtain⟨rfl,rfl⟩:=this;obtain⟨z,w',E',p1,p2,p3,p4⟩:=z7 (t:=t) (t2:=t2) (ty:=ty) r wT hu ku wX yM mT uG Re src lU hx hb lW (grown e2 (by rw [ato,aw]) aov.1) rfl (by rw [ato]; refine aag (bytes:=ie.bytes) ?_; have q:=Np; unfold aah at q; rw [pC] at q; exact q);exact⟨rfl,OZ,z,w',E',p1,p2,p3,p4⟩
             ·rename_i pC;have:=bE h3;simp only [ak] at this;obtain⟨rfl,rfl⟩:=this;obtain⟨z,w',E',p1,p2,p3,p4⟩:=z7 (t:=t) (t2:=t2) (ty:=ty) r wT hu ku wX yM mT uG Re src lU hx hb lW (grown (.op .cat e0 e2) (by simp only [W.den,gQ.den,bG,bz]) (by simp only [W.den,gQ.den,bG,bz])) rfl (room_le mT Re (by have q:=Np; unfold aah at q; rw [pC] at q; exact q) J);exact⟨rfl,OZ,z,w',E',p1,p2,p3,p4⟩
            ·simp [T.leaf] at h3
           ·simp [T.leaf] at Z
         ·simp [T.leaf] at h
        ·simp [T.leaf] at h
       ·
        split at h
        ·rename_i m news Ti;obtain⟨us,src⟩:=sA (P:=P) r hy Ti;split at h
         ·have:=bE h;simp only [ak] at this;obtain⟨rfl,rfl⟩:=this
          exact⟨rfl,hp,u,w,E,Ej wT hu ku wX src (hsl (by
           cases y<;>first |rfl|(rename_i hnd _ _ _; exact absurd rfl (hnd _ _))|(rename_i hnd; exact absurd rfl (hnd _ _)))),fm.refl _ _ _,r,hx⟩
         ·rename_i m';split at h
          ·exact Mt (own:=ti.own) r hp wT hu ku wX yM mT uG Re src hx h
          ·split at h
           ·exact Ms r hp wT hu ku wX yM mT uG Re src hx h
           ·exact D8 r hp wT hu ku wX yM mT uG Re src hx h
        ·simp [T.leaf] at h
   ·simp [T.leaf] at h
  ·simp [T.leaf] at h
 ·simp [T.leaf] at h
end
end
section
variable {t id ty n:Nat} {u:Value} {tt:TT} {s s':St} {v:AV} {lo hi mx:Option AV} {DX hi' mx':Option Value} {k:IntKind}
section
variable {P:Program} {E:En} {w:World}
theorem Vb {h:Array Obj} {n:W} (hv:VR E h (.rY id n t) u):VR E h (.vM id (.lit 0) n t) u:=by simp only [VR] at hv ⊢;obtain⟨U,k,a,cap,Z,h3,h4,h5⟩:=hv;exact⟨U,0,k,a,cap,rfl,Z,h3,h4,by rw [aw0]; exact h5⟩
theorem TC (da:eP P tt) (hp:cA E.ρ s.pc) {lo n:W} {ix:AV} {ui:Value} (hx:VR E w.heap (.vM id lo n t) u) (Bd:VR E w.heap ix ui) (h:(L6 tt s ty id t lo n ix).leaf E.ρ=some (v,s')) :
 s'.bC=s.bC/\s'.h=s.h/\cA E.ρ s'.pc/\∃r,(Instr.indexAt ty u ui).run P w= .ok r w/\VR E w.heap v r:=by
 unfold L6 at h;split at h
 ·rename_i kd i;split at h
  ·rename_i z hz;split at h
   ·rename_i lW;obtain⟨fy,gC,U,Z,h3⟩:=oX hp h;have:=bE h3;simp only [ak] at this;obtain⟨rfl,rfl⟩:=this;refine⟨rfl,rfl,gC,?_⟩;simp only [VR] at hx Bd;subst Bd;obtain⟨hid,l,m,a,cap,Y,hn,rfl,kX,hc⟩:=hx;obtain⟨el,ie,hu,np,rfl⟩:=oR da hz;obtain⟨k,hk⟩ : ∃k:Nat,i.den E.ρ=(k:Int):=⟨(i.den E.ρ).toNat,J⟩;have gk:k<m:=J
    have ha:a=⟨(E.θ id).1,(E.θ id).2+l*ie.size,none⟩:=by
     simp only [fJ] at hc
     grind
    subst ha;refine⟨.pointer (some ⟨(E.θ id).1,(E.θ id).2+l*ie.size+k*ie.size,none⟩),?_,?_⟩
    ·exact al3
    ·simp only [VR];exact⟨hid,l+k,by rw [qR,Y,hk]; rfl,by rw [awX,aw6,awW]⟩
   ·simp [T.leaf] at h
  ·simp [T.leaf] at h
 ·simp [T.leaf] at h
theorem aaX {l:W} (h:loE lo=some l) (qM:gR E w.heap lo DX) (hn:l.den E.ρ=(n:Int)) :
 ∃ZS,gR E w.heap ZS DX/\∀y,n<=y->pg ZS 0 y=some n:=by
 unfold loE at h;split at h
 ·simp only [ah] at h;subst h;simp only [W.den] at hn
  grind [pg]
 ·split at h
  ·rename_i v k q;simp only [ah] at h;subst h;obtain⟨y,rfl,hy⟩:=qM;refine⟨some (.int k (.lit (Int.ofNat n))),⟨y,rfl,?_⟩,fun y hy=>by simp [pg,kV,hy]⟩;simp only [VR,W.den] at hy ⊢
   grind
  grind
theorem E6 {q:W} {o:Option Value} (hq:q.den E.ρ=(n:Int)) (ho:gR E w.heap (some (.int k q)) o):gR E w.heap (some (.int k (.lit (Int.ofNat n)))) o:=by
 obtain⟨y,rfl,hy⟩:=ho;refine⟨y,rfl,?_⟩;simp only [VR,W.den] at hy ⊢
 grind
theorem Fl {d y:Nat} (hn:n<=y):pg (some (.int k (.lit (Int.ofNat n)))) d y=some n:=by simp [pg,kV,hn]
theorem G7 [bN] (da:eP P tt) (r:bX E s.h w) (hp:cA E.ρ s.pc) {lo0 n0:W} (hx:VR E w.heap (.vM id lo0 n0 t) u)
 (qM:gR E w.heap lo DX) (Ah:gR E w.heap hi hi') (vw:gR E w.heap mx mx') (h:(Fe tt s ty id t lo0 n0 lo hi mx).leaf E.ρ=some (v,s')) :
 s'.bC=s.bC/\s'.h=s.h/\cA E.ρ s'.pc/\∃r,(Instr.sliceAt ty u DX hi' mx').run P w= .ok r w/\VR E w.heap v r:=by
 unfold Fe at h;split at h
 ·simp [T.leaf] at h
 ·rename_i z hz;split at h
  ·rename_i jP;obtain⟨lW,hz0⟩:=jP;obtain⟨el,ie,hu,np,rfl⟩:=oR da hz;have jl:=e9 (da el ie np);simp only [VR] at hx;obtain⟨hid,l0,m0,a,cap,g1,g2,rfl,kX,hc⟩:=hx
   have fin: ∀(l k:Nat) (e1 e2:W),(Instr.sliceBounds true m0 cap DX hi' none).run P w= .ok (l,k,cap) w->l<=k->k<=cap->e1.den E.ρ=(l:Int)->e2.den E.ρ=(k:Int)->
    ∃r,(Instr.sliceAt ty (.slice (some a) m0 cap) DX hi' none).run P w= .ok r w/\VR E w.heap (.vM id (uc lo0 e1) (FI e2 e1) t) r:=by
    intro l k e1 e2 hb hlk hk Ts he2;refine⟨.slice (some (if cap=l then a else a.add (l*ie.size))) (k-l) (cap-l),?_,?_⟩
    ·simp [Instr.sliceAt,run_underlying hu,Instr.slice,hb,jl]<;>split<;>rfl
    ·simp only [VR];refine⟨hid,l0+l,k-l,_,_,by rw [qR,g1,Ts]; rfl,by rw [X3,Ts,he2]; omega,rfl,J,?_⟩;rw [aw6];have q:=rN (l:=l) (h:=k) (m:=cap) (es:=(rowOf t).es) hc kX hlk hk (au _) (.inr (.inr ⟨rfl,rfl,rfl⟩)) (rowOf t).es (fun _=>rfl);rw [lW];exact q
   split at h
   ·simp [T.leaf] at h
   ·rename_i ql hql;obtain⟨jJ,jo,U⟩:=dh hp h;split at U
    ·simp [T.leaf] at U
    ·rename_i t1;rw [ef,decide_eq_false_iff_not] at t1;simp only [W.den,axp] at t1;obtain⟨l,Y⟩ : ∃l:Nat,ql.den E.ρ=(l:Int):=⟨(ql.den E.ρ).toNat,J⟩;obtain⟨ZS,abz,nZ⟩:=aaX hql qM Y;split at U
     ·
      simp only [gR] at Ah;subst Ah;split at U
      ·simp [T.leaf] at U
      ·simp only [gR] at vw;subst vw;obtain⟨qA,n9,Z⟩:=dh (s:={ s with pc:=jJ }) jo U;split at Z
       ·simp [T.leaf] at Z
       ·rename_i t2;have:=bE Z;simp only [ak] at this;obtain⟨rfl,rfl⟩:=this;rw [ef,decide_eq_false_iff_not] at t2;have hlm:l<=m0:=J
        obtain⟨e1,e2⟩:=gf (P:=P) (w:=w) (isSlice:=true) (len:=m0) (cap:=cap) (m0:=cap) (d:=0) (m:=cap) (h0:=cap) (h:=m0) (l:=l) abz (hi:=none) (hi':=none) (by simp [gR]) (mx:=none) (mx':=none) (by simp [gR]) ad (.inl ⟨rfl,rfl,au _⟩) (by simp [pg,kX]) ⟨fun _=>au _,ad⟩ (nZ _ hlm);exact⟨rfl,rfl,n9,fin l m0 _ _ e1 hlm kX Y g2⟩
     ·rename_i hv;split at U
      ·rename_i kh qh;obtain⟨qA,n9,Z⟩:=dh (s:={ s with pc:=jJ }) jo U;split at Z
       ·simp [T.leaf] at Z
       ·rename_i t2;rw [ef,decide_eq_false_iff_not] at t2;obtain⟨k,hk⟩ : ∃k:Nat,qh.den E.ρ=(k:Int):=⟨(qh.den E.ρ).toNat,J⟩;have hlk:l<=k:=J
        split at Z
        ·rename_i mv;split at Z
         ·rename_i km qm;obtain⟨pc3,OZ,h3⟩:=dh (s:={ s with pc:=qA }) n9 Z;split at h3
          ·simp [T.leaf] at h3
          ·rename_i t3;obtain⟨pc4,hp4,h4⟩:=dh (s:={ s with pc:=pc3 }) OZ h3;split at h4
           ·simp [T.leaf] at h4
           ·rename_i t4;have:=bE h4;simp only [ak] at this;obtain⟨rfl,rfl⟩:=this;rw [ef,decide_eq_false_iff_not] at t3 t4;obtain⟨m,hm⟩ : ∃m:Nat,qm.den E.ρ=(m:Int):=⟨(qm.den E.ρ).toNat,J⟩;obtain⟨e1,e2⟩:=gf (P:=P) (w:=w) (isSlice:=true) (len:=m0) (cap:=cap) (m0:=cap) (d:=0) (m:=m) (h0:=m) (h:=k) (l:=l) abz (E6 hk Ah) (E6 hm vw) ad (.inr ⟨_,rfl,Fl J,au _⟩) (Fl J) ⟨ad,fun _=>rfl⟩ (nZ _ hlk);refine⟨rfl,rfl,hp4,.slice (some (if m=l then a else a.add (l*ie.size))) (k-l) (m-l),?_,by simp only [VR]⟩;simp [Instr.sliceAt,run_underlying hu,Instr.slice,e1,jl]<;>split<;>rfl
         ·simp [T.leaf] at Z
        ·simp only [gR] at vw;subst vw
         have go:k<=cap->∃r,(Instr.sliceAt ty (.slice (some a) m0 cap) DX hi' none).run P w= .ok r w/\VR E w.heap (.vM id (uc lo0 ql) (FI qh ql) t) r:=by intro hkc;obtain⟨e1,e2⟩:=gf (P:=P) (w:=w) (isSlice:=true) (len:=m0) (cap:=cap) (m0:=cap) (d:=0) (m:=cap) (h0:=cap) (h:=k) (l:=l) abz (E6 hk Ah) (mx:=none) (mx':=none) (by simp [gR]) ad (.inl ⟨rfl,rfl,au _⟩) (Fl hkc) ⟨fun _=>au _,ad⟩ (nZ _ hlk);exact fin l k _ _ e1 hlk hkc Y hk
         obtain⟨pc3,OZ,h3⟩:=dh (s:={ s with pc:=qA }) n9 Z;split at h3
         ·rename_i t3;have:=bE h3;simp only [ak] at this;obtain⟨rfl,rfl⟩:=this;rw [ef,decide_eq_false_iff_not] at t3;exact⟨rfl,rfl,OZ,go J⟩
         ·split at h3
          ·simp [T.leaf] at h3
          ·rename_i hz1;split at h3
           ·simp [T.leaf] at h3
           ·rename_i e Cf hva;obtain⟨pc4,hp4,h4⟩:=dh (s:={ s with pc:=pc3 }) OZ h3;split at h4
            ·simp [T.leaf] at h4
            ·rename_i t4;have:=bE h4;simp only [ak] at this;obtain⟨rfl,rfl⟩:=this;rw [ef,decide_eq_false_iff_not,cV] at t4;refine⟨rfl,rfl,hp4,go ?_⟩;have hlv:=uo hva;obtain⟨ho,q0⟩:=OR.rK.1 (r.live id _ hlv).2.1;have avI:=GC hz1;subst avI;simp only [W.den] at g1;have QZ:l0=0:=J
             subst QZ;simp only [OR] at q0;obtain⟨arr,lo1,hi1,us,q1,q2,q3,q4,q5,q6,q7⟩:=q0;unfold cX at q4;rw [cW ho.1] at q4;have jK:0<(dec (e.den E.ρ)).l.length:=axk.2 ho.2.2.2;have lU:0<(rowOf t).es:=J
             simp only [fJ] at hc
             have hκ:(dec (e.den E.ρ)).l.length<=cap:=by
              rcases hc with hc|hc
              ·have:(dec (e.den E.ρ)).l.length*(rowOf t).es<=cap*(rowOf t).es:=J
               exact ayl this lU
              ·have:=axN jK lU;omega
             omega
      ·simp [T.leaf] at U
  ·simp [T.leaf] at h
theorem TV [bN] (da:eP P tt) (hp:cA E.ρ s.pc) {z:W} (hx:VR E w.heap (.Aj z t) u)
 (qM:gR E w.heap lo DX) (Ah:gR E w.heap hi hi') (vw:gR E w.heap mx mx') (h:(Mj tt s ty z t lo hi mx).leaf E.ρ=some (v,s')) :
 s'.bC=s.bC/\s'.h=s.h/\cA E.ρ s'.pc/\∃r,(Instr.sliceAt ty u DX hi' mx').run P w= .ok r w/\VR E w.heap v r:=by
 unfold Mj at h;split at h
 ·grind [T.leaf]
 ·simp only [gR] at vw;subst vw;split at h
  ·grind [T.leaf]
  ·rename_i zz hz;obtain⟨el,ie,hu,np,rfl⟩:=oR da hz;have jl:=e9 (da el ie np);split at h
   ·rename_i B7;split at h
    ·rename_i nZ;have:=bE h;simp only [ak] at this;obtain⟨rfl,rfl⟩:=this;have hx0:=hx;simp only [VR] at hx;obtain⟨⟨x,rfl⟩,hr⟩:=hx;obtain⟨e1,e2⟩:=gf (P:=P) (w:=w) (isSlice:=true) (len:=0) (cap:=0) (m0:=0) (d:=0) (m:=0) qM Ah (mx:=none) (mx':=none) (by simp [gR]) ad (.inl ⟨rfl,rfl,au _⟩) B7 ⟨fun _=>au _,ad⟩ nZ;refine⟨rfl,rfl,hp,.slice x 0 0,?_,hx0⟩;exact ahb
    grind [T.leaf]
   grind [T.leaf]
end
end
section
variable {id t ty mm t2 t':Nat} {e0 lo n1:W} {vo:TypeId} {s s':St} {u u2:Value} {v:AV} {H:Hp} {ds:List D} {tt:TT}
theorem FM: ∀{B Z?:List AV},Z?.length=B.length->ep B 0 Z?=some Z?
 |[],[],_=>rfl
 |[],_::_,h=>by simp at h
 |_::_,[],h=>by simp at h
 |b::B,v::Z?,h=>by simp only [ep];rw [FM (by simpa using h)]
theorem Se {A B C Z?:List AV} (h:Z?.length=B.length):ep (A++(B++C)) A.length Z?=some (A++(Z?++C)):=by
 have:=ur A (sB C (FM h))
 grind
theorem IK {α:Type}: ∀{a b:List α},iS a.length (a++b)=some a
 |[],b=>rfl
 |x::a,b=>by simp only [aT,aK,iS,IK]
theorem lh {ρ:Nat->Int} {r:Row}: ∀(L:List D) (a b:Nat),bH ρ r [] L a=bH ρ r [] L b
 |[],_,_=>rfl
 |d::L,a,b=>by simp only [bH,ek]; rw [lh L (a+1) (b+1)]
theorem nT {ρ:Nat->Int} {r:Row}: ∀(A B:List D),bH ρ r [] (A++B) 0=bH ρ r [] A 0++bH ρ r [] B 0
 |[],B=>rfl
 |d::A,B=>by simp only [aK,bH,ek,bk];rw [lh (A++B) 1 0,lh A 1 0,nT A B]
section
variable {P:Program} {E:En} {w:World}
theorem t_ [bN] (r:bX E H w) (Y:H.get id=some (.vec e0 t vo [])) (yM:(rowOf t).es≠0) {k cap:Nat} {a:Addr} (hc:fJ E id 0 k a cap (.rest (rowOf t).es)) :
 a=⟨(E.θ id).1,(E.θ id).2,none⟩/\(dec (e0.den E.ρ)).l.length<=cap:=by
 obtain⟨ho,q0⟩:=OR.rK.1 (r.live id _ Y).2.1;simp only [OR] at q0;obtain⟨arr,lo1,hi1,us,q1,q2,q3,q4,q5,q6,q7⟩:=q0;unfold cX at q4;rw [cW ho.1] at q4;have jK:0<(dec (e0.den E.ρ)).l.length:=axk.2 ho.2.2.2;have lU:0<(rowOf t).es:=J
 simp only [fJ] at hc;rcases hc with hc|hc
 ·refine⟨by simpa using hc.1,?_⟩;have:(dec (e0.den E.ρ)).l.length*(rowOf t).es<=cap*(rowOf t).es:=J
  exact ayl this lU
 ·have:=axN jK lU;omega
theorem Fq [bN] (r:bX E H w) (Y:H.get id=some (.vec e0 t vo [])) {n:Nat} (hle:n+mm<=(dec (e0.den E.ρ)).l.length) (xW:ds.length=mm) (yx: ∀d∈ds,rT (rowOf t) d)
 {us:List Value} (hv:cP E w.heap (bH E.ρ (rowOf t) [] ds 0) us) (U: ∀u∈us,u.oneCell'=true) {e1:W} (Ts:dec (e1.den E.ρ)=dL ((dec (e0.den E.ρ)).l.take n++ds++(dec (e0.den E.ρ)).l.drop (n+mm))) :
 ∃w',(storeCells ⟨(E.θ id).1,(E.θ id).2+n*(rowOf t).es,none⟩ us).run P w= .ok () w'/\fm E H w E (H.put id (.vec e1 t vo [])) w'/\bX E (H.put id (.vec e1 t vo [])) w':=by
 obtain⟨rc,ho,hw⟩:=r.rK Y;generalize hL:(dec (e0.den E.ρ)).l=L at *
 have hsp:L=L.take n++((L.drop n).take mm++L.drop (n+mm)):=by
  conv=>lhs; rw [<- axq n L]
  congr 1
  conv=>lhs; rw [<- axq mm (L.drop n)]
  simp_all
 have hc:cX E.ρ e0 t []=bH E.ρ (rowOf t) [] (L.take n) 0++(bH E.ρ (rowOf t) [] ((L.drop n).take mm) 0++bH E.ρ (rowOf t) [] (L.drop (n+mm)) 0):=by exact ahA
 have hlA:(bH E.ρ (rowOf t) [] (L.take n) 0).length=n*(rowOf t).es:=by
  rw [cW (kT _),aY]
  grind
 have hsl:ep (cX E.ρ e0 t []) (n*(rowOf t).es) (bH E.ρ (rowOf t) [] ds 0)=some (cX E.ρ e1 t []):=by
  have:cX E.ρ e1 t []=bH E.ρ (rowOf t) [] (L.take n) 0++(bH E.ρ (rowOf t) [] ds 0++bH E.ρ (rowOf t) [] (L.drop (n+mm)) 0):=by unfold cX;rw [Ts,bz,nT,nT,bk]
  rw [this,hc,<- hlA];refine Se ?_;rw [cW (kT _),cW (kT _),aY,bp,xW]
  grind
 obtain⟨w',g1,g2,g3⟩:=mG (P:=P) rc (by rw [Hp.bS,ag rfl]) hsl hv U;have al1:IC (H.put id (.cells (cX E.ρ e0 t []) vo)) H:=(IC.put Y).symm
 have al2:IC ((H.put id (.cells (cX E.ρ e0 t []) vo)).put id (.cells (cX E.ρ e1 t []) vo)) (H.put id (.vec e1 t vo [])):=by
  refine⟨fun j y hj=>?_,fun j y hj=>?_,rfl,rfl⟩
  ·rw [Hp.bS];split
   ·grind
   ·rename_i jK;rw [Hp.bS,af jK,Hp.bS,af jK] at hj
    grind
  ·rw [Hp.bS] at hj ⊢;split
   ·grind
   ·rename_i jK;rw [af jK] at hj;rw [Hp.bS,af jK];exact⟨y,hj⟩
 have C4:=(g3.live id _ (by rw [Hp.bS,ag rfl])).2.1
 have hor:OR E w'.heap id (.vec e1 t vo []):=by
  refine OR.rK.2 ⟨⟨kT _,?_⟩,C4⟩;rw [Ts];refine⟨by rw [bz],?_,?_⟩
  ·rw [bz];intro d V;rcases aw5.1 V with V|V
   ·rcases aw5.1 V with V|V
    ·exact hw.2.1 d (by rw [hL]; exact awT V)
    ·exact yx d V
   ·exact hw.2.1 d (by rw [hL]; exact awR V)
  ·rw [bz];intro q;have:=congrArg List.length q;simp only [aZ,aY,bp,bd,xW] at this;have jK:=axk.2 hw.2.2;rw [hL] at jK;omega
 refine⟨w',g1,(g2.left al1).right al2,?_⟩;exact g3.swap (id:=id) (by rw [Hp.bS,ag rfl]) hor (by rw [Hp.bS,ag rfl]) (fun j hj=>by rw [Hp.bS,af hj,Hp.bS,af hj,Hp.bS,af hj]) rfl rfl
theorem QB [bN] (r:bX E s.h w) (hp:cA E.ρ s.pc) {t1 e:Nat} {m sd:W} {ie:TI} {d2:TypeDesc} (wT:oe P e ie) (ht:P.underlying t1=some (.slice e)) (Af:P.underlying t2=some d2) (ku: ∀k,d2≠.int k)
 (lW:(rowOf t).es=ie.size) (yM:ie.size≠0) (Y:s.h.get id=some (.vec e0 t vo [])) (qM:isZ lo=true) {us:Array Value} (hx:VR E w.heap (.vM id lo n1 t) u) (hm:m.den E.ρ=(mm:Int))
 (xW:ds.length=mm) (hsd:(dec (sd.den E.ρ)).l=ds) (yx: ∀d∈ds,rT (rowOf t) d) {news:List AV} (src:Src P E w ie.size mm news u2 us) (hv:cP E w.heap (bH E.ρ (rowOf t) [] ds 0) us.toList) (h:(Xz id t vo e0 n1 m sd s).leaf E.ρ=some (v,s')) :
 s'.bC=s.bC/\cA E.ρ s'.pc/\∃z w' E',(Builtin.append_ #[t1,t2] ty #[u,u2]).run P w= .ok z w'/\fm E s.h w E' s'.h w'/\bX E' s'.h w'/\VR E' w'.heap v z:=by
 unfold Xz at h;obtain⟨fy,gC,g1,g2,g3,g4⟩:=CG hp h;have:=bE g4;simp only [ak] at this;obtain⟨rfl,rfl⟩:=this;have qM:=GC qM;subst qM;have hx0:=hx;simp only [VR] at hx;obtain⟨hid,l0,k,a,cap,q1,q2,rfl,q4,q5⟩:=hx;simp only [W.den] at q1;have QZ:l0=0:=J
 subst QZ;rw [aw0] at q5;obtain⟨rfl,jn⟩:=t_ r Y (by rw [lW]; exact yM) q5;have hle:k+mm<=(dec (e0.den E.ρ)).l.length:=J
 obtain⟨inf,d,z,U,Z,h3,h4,h5,h6,h7,h8⟩:=wT.all
 obtain⟨w',f1,f2,f3⟩:=Fq (P:=P) r Y (n:=k) hle xW yx hv src.tK (e1:=.op .cat (.op .cat (.op .take e0 n1) sd) (.op .drop e0 (uc n1 m))) (by
  have hn:((k:Int)+(mm:Int)).toNat=k+mm:=J
  simp only [W.den,gQ.den,bG,bz,qR,bP,q2,hm,hn,hsd,aW])
 refine⟨rfl,gC,.slice (some ⟨(E.θ id).1,(E.θ id).2,none⟩) (k+mm) cap,w',E,?_,f2,f3,?_⟩
 ·exact lq (s:=ie.size) ht Af ku U h5 src J (by simp only [gA]; rw [<- lW]; exact f1)
 ·simp only [VR];refine⟨hid,0,k+mm,_,_,rfl,by rw [qR,q2,hm]; rfl,rfl,J,?_⟩;rw [aw0];simp only [fJ] at q5 ⊢
  grind
theorem Pz [bN] (da:eP P tt) (r:bX E s.h w) (hp:cA E.ρ s.pc) {y:AV} (qM:isZ lo=true) (hx:VR E w.heap (.vM id lo n1 t') u) (hy:VR E w.heap y u2) (h:(Hk tt t t2 id n1 t' y s).leaf E.ρ=some (v,s')) :
 s'.bC=s.bC/\cA E.ρ s'.pc/\∃z w' E',(Builtin.append_ #[t,t2] ty #[u,u2]).run P w= .ok z w'/\fm E s.h w E' s'.h w'/\bX E' s'.h w'/\VR E' w'.heap v z:=by
 unfold Hk at h;split at h
 ·rename_i ti hU;split at h
  ·rename_i e hk;split at h
   ·rename_i ie np;split at h
    ·grind [T.leaf]
    ·rename_i X0 abl;obtain⟨d2,ku,GO⟩:=tP (da t2 X0 abl);split at h
     ·grind [T.leaf]
     ·rename_i k2 jK
      have wX: ∀k,d2≠.int k:=by intro k V;exact ahL
      split at h
      ·grind [T.leaf]
      ·rename_i jP;simp only [not_or,Classical.not_not] at jP;obtain⟨yM,mT,uG,lW⟩:=jP;have wT:=da e ie np;have hu:=fw (da t ti hU) hk;split at h
       ·grind [T.leaf]
       ·rename_i e0 vo hva;have Y:=uo hva;split at h
        ·rename_i id2 ZS n2 Np;split at h
         ·rename_i LR;split at h
          ·rename_i Af;have LR:=ay LR;have Af:=ay Af;subst LR Af;obtain⟨jJ,jo,g1,g2,g3,g4⟩:=CG hp h;have hy0:=hy;simp only [VR] at hy;obtain⟨hid,l,k,a,cap,q1,q2,rfl,q4,q5⟩:=hy;obtain⟨rc,ho,hw⟩:=r.rK Y;generalize hL:(dec (e0.den E.ρ)).l=L at *;have hlk:l+k<=L.length:=J
           have hsp:L=L.take l++((L.take (l+k)).drop l++L.drop (l+k)):=by
            conv=>lhs; rw [<- axq (l+k) L]
            grind
           have O7:cX E.ρ e0 Np []=bH E.ρ (rowOf Np) [] (L.take l) 0++(bH E.ρ (rowOf Np) [] ((L.take (l+k)).drop l) 0++bH E.ρ (rowOf Np) [] (L.drop (l+k)) 0):=by exact ahA
           have hlA:(bH E.ρ (rowOf Np) [] (L.take l) 0).length=l*(rowOf Np).es:=by rw [cW (kT _),aY];congr 1;omega
           have hlen:((L.take (l+k)).drop l).length=k:=by rw [bp,aY]; omega
           have hlB:(bH E.ρ (rowOf Np) [] ((L.take (l+k)).drop l) 0).length=k*(rowOf Np).es:=by rw [cW (kT _),hlen]
           have hy1:VR E w.heap (.slice id2 (l*(rowOf Np).es) k (.rest (rowOf Np).es)) (.slice (some a) k cap):=by simp only [VR];exact⟨hid,a,cap,rfl,q4,q5⟩
           obtain⟨us,src⟩:=sA (P:=P) rc hy1 (s:=ie.size) (m:=k) (news:=bH E.ρ (rowOf Np) [] ((L.take (l+k)).drop l) 0) (by
            simp only [tw,nz,Hp.bS,if_true];rw [O7,<- hlA,u9];simp only;rw [<- lW,<- hlB,IK]
            rfl)
           refine QB (s:={ s with pc:=jJ }) r jo wT hu ku wX lW yM Y qM hx q2 hlen (by rw [F9 q1 q2,bP,hL]) (fun d V=>hw.2.1 d ?_) src src.ZO g4;rw [hL];exact awT (awR V)
          grind [T.leaf]
         grind [T.leaf]
        ·split at h
         ·grind [T.leaf]
         ·rename_i m news Ti;obtain⟨us,src⟩:=sA (P:=P) r hy Ti;split at h
          ·grind [T.leaf]
          ·rename_i m';split at h
           ·split at h
            ·rename_i sd hcr;obtain⟨ds,c1,c2,c3,c4,c5⟩:=xl (ρ:=E.ρ) _ hcr;simp only [W.den,bG,D.l,aw] at c2;exact QB r hp wT hu ku wX lW yM Y qM hx (mm:=m'+1) (by simp only [W.den]; rfl) c1 c2 c4 src (c5 E w.heap _ 0 rfl src.ZO) h
            grind [T.leaf]
           grind [T.leaf]
   grind [T.leaf]
  grind [T.leaf]
 grind [T.leaf]
theorem D7 [bN] (da:eP P tt) (r:bX E s.h w) (hp:cA E.ρ s.pc) {n:W} (hx:VR E w.heap (.vM id lo n t') u) (h:(BH tt t id lo n t' s).leaf E.ρ=some (v,s')) :
 s'.bC=s.bC/\cA E.ρ s'.pc/\v=AV.undef/\∃w' E',(Builtin.clear_ #[t] ty #[u]).run P w= .ok (.tuple #[]) w'/\fm E s.h w E' s'.h w'/\bX E' s'.h w':=by
 unfold BH at h;split at h
 ·rename_i ti hU;split at h
  ·rename_i e hk;have hu:=fw (da t ti hU) hk;split at h
   ·rename_i ie np;obtain⟨inf,d,z,U,Z,h3,h4,h5,h6,h7,h8⟩:=(da e ie np).all;have hz:=fC (E:=E) (h:=w.heap) h4;split at h
    ·rename_i jP;obtain⟨lW,yM⟩:=jP;split at h
     ·grind [T.leaf]
     ·rename_i e0 Cf hva;have Y:=uo hva;split at h
      ·grind [T.leaf]
      ·rename_i zz hzz;obtain⟨jJ,jo,g1⟩:=dh hp h;split at g1
       ·grind [T.leaf]
       ·rename_i t1;obtain⟨qA,n9,g2⟩:=dh (s:={ s with pc:=jJ }) jo g1;split at g2
        ·grind [T.leaf]
        ·rename_i t2;obtain⟨pc3,OZ,g3⟩:=dh (s:={ s with pc:=qA }) n9 g2;split at g3
         ·grind [T.leaf]
         ·rename_i t3;have:=bE g3;simp only [ak] at this;obtain⟨rfl,rfl⟩:=this;rw [ef,decide_eq_false_iff_not] at t1 t2;rw [jx,beq_iff_eq,qR,cV] at t3;simp only [VR] at hx;obtain⟨hid,l,k,a,cap,q1,q2,rfl,q4,q5⟩:=hx;have hlk:l+k=(dec (e0.den E.ρ)).l.length:=J
          have hn0:(dec (e0.den E.ρ)).l.length-l=k:=J
          have hwz:=vf (ρ:=E.ρ) hzz;have hrz:yC E.ro w.heap (rowOf t') (dec (zz.den E.ρ)) z.cells.toList:=vg hz.1 hzz
          have awA:cP E w.heap (hZ (rowOf t') (.eS (dec (zz.den E.ρ)))) z.cells.toList:=by
           rw [gD];simp only [W.den,bG]
           grind
          have aoy: ∀m:Nat,bH E.ρ (rowOf t') [] (List.replicate m (dec (zz.den E.ρ))) 0=dR (hZ (rowOf t') (.eS (dec (zz.den E.ρ)))) m:=by
           intro m
           induction m with
           |zero=>rfl
           |succ m ih=>
            simp only [ayp,bH,ek,dR]
            grind [lh]
          have hv:cP E w.heap (bH E.ρ (rowOf t') [] (List.replicate k (dec (zz.den E.ρ))) 0) (dR z.cells.toList k):=by
           grind [mR]
          obtain⟨w',f1,f2,f3⟩:=Fq (P:=P) r Y (n:=l) (mm:=k) J (axs) (fun d V=>by rw [ayG V]; exact hwz) hv (fun u hu=>hz.2 u (mQ hu)) (e1:=.op .fill e0 (gq (Cv lo) zz)) (by
           simp only [gq,W.den,gQ.den,bG,nu,D.n,q1,aW,hn0,hlk]
           rw [List.drop_length,awU])
          refine⟨rfl,OZ,rfl,w',E,?_,f2,f3⟩;rcases axr k with hk0|hk0
          ·subst hk0;simp only [dR] at f1
           have:w'=w:=by
            simp [storeCells] at f1
            grind
           subst this;simp [Builtin.clear_,run_underlying hu]
          ·have ha:a=⟨(E.θ id).1,(E.θ id).2+l*(rowOf t').es,none⟩:=by
            simp only [fJ] at q5
            grind
           have aou:z.cells.toList≠[]:=by
            intro hx;have:=yC.length hrz
            grind
           have hzc:(Builtin.zeroCells z.cells k).toList=dR z.cells.toList k:=vT z.cells aou k;subst ha;obtain⟨j,rfl⟩ : ∃j,k=j+1:=⟨k-1,J⟩;simp [Builtin.clear_,run_underlying hu,zeroValue,typeInfo,U,h3,hzc,f1]
    grind [T.leaf]
   grind [T.leaf]
  grind [T.leaf]
 grind [T.leaf]
end
end
section
variable {e a b:W} {u:Value} {s s':St} {v x y:AV} {h:Array Obj} {tt:TT} {ty:Nat}
theorem ng (l:List Nat):(lP l).l.length=l.length:=by simp [lP]
theorem Zg {a b:List Nat} (h:lP a=lP b):a=b:=by
 have:=HC h
 induction a generalizing b with
 |nil=>cases b with
  |nil=>rfl
  |cons y b=>simp at this
 |cons x a ih=>cases b with
  |nil=>simp at this
  |cons y b=> simp only [aC,List.cons.injEq,D.i.injEq,Int.ofNat_eq_natCast,axE] at this;rw [this.1,ih (b:=b) (by unfold lP; exact congrArg dL (by simpa using this.2)) (by simpa using this.2)]
theorem HB: ∀(x y:List Nat),PM (x.map fun b=>D.i (Int.ofNat b)) (y.map fun b=>D.i (Int.ofNat b))=bytesLess x y
 |[],[]=>rfl
 |[],_::_=>rfl
 |_::_,[]=>rfl
 |a::x,b::y=>by
  simp only [aC,PM,bytesLess,D.n,HB x y];have i1:(Int.ofNat a<Int.ofNat b)=(a<b):=propext ax4;have i2:(Int.ofNat b<Int.ofNat a)=(b<a):=propext ax4;simp only [i1,i2];rcases ayq a b with h|h|h
  ·simp_all
  ·simp_all
  ·exact aiK
section
variable {P:Program} {E:En} {w:World}
theorem VR.afW {v:Value} (hv:VR E h (.kx e) v): ∃l:List Nat,v= .string (dv l)/\(∀b∈l,b<256)/\dec (e.den E.ρ)=lP l:=by
 simp only [VR] at hv;obtain⟨s,rfl,hs⟩:=hv.string;refine⟨bytesOf s,by rw [lx],zT s,?_⟩
 grind [BN,zT,lx,vL,dv]
theorem VR.aaF {l:List Nat} (Y: ∀b∈l,b<256) (he:dec (e.den E.ρ)=lP l):VR E h (.kx e) (.string (dv l)):=by
 simp only [VR];rw [he,BN _ Y];have:=Rd.str (ro:=E.ro) (h:=h) (dv l)
 grind [vL,dv]
theorem FJ (hx:VR E h x u) (hs:vq x=some e): ∃l:List Nat,u= .string (dv l)/\(∀b∈l,b<256)/\dec (e.den E.ρ)=lP l:=by
 unfold vq at hs;split at hs
 ·simp only [ah] at hs;subst hs;simp only [VR] at hx;exact⟨_,hx.1,hx.2,by simp only [W.den,bG]⟩
 ·simp only [ah] at hs;subst hs;exact hx.afW
 grind
theorem TF (da:eP P tt) (hp:cA E.ρ s.pc) {ix:AV} {ui:Value} (hx:VR E w.heap (.kx e) u) (Bd:VR E w.heap ix ui) (h:(L9 tt s ty e ix).leaf E.ρ=some (v,s')) :
 s'.bC=s.bC/\s'.h=s.h/\cA E.ρ s'.pc/\∃r,(Instr.index ty u ui).run P w= .ok r w/\VR E w.heap v r:=by
 unfold L9 at h;split at h
 ·rename_i kd i;split at h
  ·rename_i ti hU;split at h
   ·rename_i hk;obtain⟨fy,gC,U,Z,h3⟩:=oX hp h;have:=bE h3;simp only [ak] at this;obtain⟨rfl,rfl⟩:=this;refine⟨rfl,rfl,gC,?_⟩;obtain⟨l,rfl,hb,V⟩:=hx.afW;simp only [VR] at Bd;subst Bd;rw [cV,V,ng] at Z;obtain⟨k,GO⟩ : ∃k:Nat,i.den E.ρ=(k:Int):=⟨(i.den E.ρ).toNat,J⟩;have gk:k<l.length:=J
    have hg:(dv l)[k]?=some (UInt8.ofNat l[k]):=by rw [FL,aM gk]; rfl
    have av3:=hb l[k] (aq gk);rw [GO];refine⟨_,by simp [Instr.index,asIntOf,run_underlying (fV (da ty ti hU) hk),hg]; rfl,?_⟩
    have hdk:(dec (e.den E.ρ)).l[k]?=some (.i (Int.ofNat l[k])):=by rw [V];simp only [lP,bz,bg,aM gk,awY]
    simp only [VR,Cu,Dm E.ρ e i GO hdk,D.n]
    grind
   grind [T.leaf]
  grind [T.leaf]
 grind [T.leaf]
theorem TE (da:eP P tt) (hp:cA E.ρ s.pc) {lo hi mx:Option AV} {DX hi' mx':Option Value} (hx:VR E w.heap (.kx e) u)
 (qM:gR E w.heap lo DX) (Ah:gR E w.heap hi hi') (vw:gR E w.heap mx mx') (h:(L8 tt s ty e lo hi mx).leaf E.ρ=some (v,s')) :
 s'.bC=s.bC/\s'.h=s.h/\cA E.ρ s'.pc/\∃r,(Instr.sliceAt ty u DX hi' mx').run P w= .ok r w/\VR E w.heap v r:=by
 unfold L8 at h;split at h
 ·grind [T.leaf]
 ·simp only [gR] at vw;subst vw;split at h
  ·grind [T.leaf]
  ·rename_i ti hU;split at h
   ·rename_i hk;have hu:=fV (da ty ti hU) hk;split at h
    ·grind [T.leaf]
    ·rename_i ql hql;split at h
     ·grind [T.leaf]
     ·rename_i qh hqh;obtain⟨jJ,jo,U⟩:=dh hp h;split at U
      ·grind [T.leaf]
      ·rename_i t1;obtain⟨qA,n9,Z⟩:=dh (s:={ s with pc:=jJ }) jo U;split at Z
       ·grind [T.leaf]
       ·rename_i t2;obtain⟨pc3,OZ,h3⟩:=dh (s:={ s with pc:=qA }) n9 Z;split at h3
        ·grind [T.leaf]
        ·rename_i t3;have:=bE h3;simp only [ak] at this;obtain⟨rfl,rfl⟩:=this;refine⟨rfl,rfl,OZ,?_⟩;obtain⟨l,rfl,hb,V⟩:=hx.afW;rw [ef,decide_eq_false_iff_not] at t1 t2 t3;rw [cV,V,ng] at t3;simp only [W.den,axp] at t1;obtain⟨a,ha⟩ : ∃a:Nat,ql.den E.ρ=(a:Int):=⟨(ql.den E.ρ).toNat,J⟩;obtain⟨b,Tt⟩ : ∃b:Nat,qh.den E.ρ=(b:Int):=⟨(qh.den E.ρ).toNat,J⟩;have hle:b<=l.length:=J
         have Tv:a<=b:=J
         obtain⟨ZS,abz,nZ⟩:=aaX hql qM ha
         have aoC: ∃LR,gR E w.heap LR hi'/\pg LR l.length l.length=some b:=by
          unfold hiE at hqh;split at hqh
          ·simp only [ah] at hqh;subst hqh;rw [cV,V,ng] at Tt;have:b=l.length:=J
           grind [pg]
          ·split at hqh
           ·simp only [ah] at hqh;subst hqh;exact⟨_,E6 Tt Ah,Fl hle⟩
           grind
         obtain⟨LR,aoC,B7⟩:=aoC;obtain⟨e1,e2⟩:=gf (P:=P) (w:=w) (isSlice:=false) (len:=l.length) (cap:=l.length) (m0:=l.length) (d:=0) abz aoC (mx:=none) (mx':=none) rfl ad (.inl ⟨rfl,rfl,au _⟩) B7 ⟨fun _=>au _,ad⟩ (nZ b Tv);refine⟨.string ((dv l).extract a b),?_,?_⟩
         ·exact ahJ
         ·rw [uq];refine VR.aaF (fun c hc=>hb c (awT (awR hc))) ?_;simp only [gq,W.den,gQ.den,bG,nu,D.V,D.l,az,aA,ax,D.n,ha,Tt,aW,V];simp only [lP,bz,axK,axY]
   grind [T.leaf]
theorem K7 (h:EO x y=some (a,b)):vq x=some a/\vq y=some b:=by
 grind [EO]
theorem IZ (ρ:Nat->Int) {x y:List Nat} (ha:dec (a.den ρ)=lP x) (hb:dec (b.den ρ)=lP y):(I0 a b).den ρ=bytesLess x y:=by
 simp only [I0,SB.den,W.den,gQ.den,ha,hb,lP,bz]
 grind [HB]
theorem BW: ∀(x y:List Nat),(bytesLess x y||ij x y)=!(bytesLess y x)
 |[],[]=>rfl
 |[],_::_=>rfl
 |_::_,[]=>rfl
 |a::x,b::y=>by
  have ih:=BW x y;simp only [bytesLess,ij];rcases ayq a b with h|h|h
  ·have U:a.blt b=true:=by simp [Nat.blt]; omega
   have Z:b.blt a=false:=by rw [axU]; simp [Nat.blt]; omega
   have h3:b.beq a=false:=by rw [axU]; simp; omega
   grind
  ·simp_all
  ·have U:b.blt a=true:=by simp [Nat.blt]; omega
   exact aiK
theorem Y5 (hp:cA E.ρ s.pc) {t:Nat} {op:BinOp} {u':Value} (hx:VR E w.heap x u) (hy:VR E w.heap y u') (hs:EO x y=some (a,b)) (h:(TG op a b s).leaf E.ρ=some (v,s')) :
 s'.bC=s.bC/\s'.h=s.h/\cA E.ρ s'.pc/\(∃r,(binOp op t u u').run P w= .ok r w/\VR E w.heap v r)/\(∀cs ds,¬(u= .agg cs/\u'= .agg ds))/\¬(u= .nilIface/\u'= .nilIface):=by
 obtain⟨hsx,hsy⟩:=K7 hs;obtain⟨l,rfl,nZ,hdl⟩:=FJ hx hsx;obtain⟨m,rfl,It,Bf⟩:=FJ hy hsy
 have heq:((wB (oA a) (oA b)).den E.ρ)=ij l m:=by
  grind [mP,qV,mL,Zg,ff]
 have jK:(∀cs ds,¬(Value.string (dv l)= .agg cs/\Value.string (dv m)= .agg ds))/\¬(Value.string (dv l)= .nilIface/\Value.string (dv m)= .nilIface):=⟨ad,ad⟩
 have fin: ∀(c:AV) (o:BinOp),N1 o l m=some c->(∀q,VR E w.heap c q->VR E w.heap v q)->(∀q,(Op.stringOp o (dv l) (dv m)).run P w= .ok q w->(binOp o t (.string (dv l)) (.string (dv m))).run P w= .ok q w)->
  ∃r,(binOp o t (.string (dv l)) (.string (dv m))).run P w= .ok r w/\VR E w.heap v r:=by
  intro c o ho hc hq;obtain⟨r,U,Z⟩:=N0 (P:=P) (E:=E) (w:=w) nZ It ho;exact⟨r,hq _ U,hc r Z⟩
 unfold TG at h;split at h
 ·obtain⟨jJ,jo,U⟩:=dh hp h;split at U
  ·grind [T.leaf]
  ·rename_i t1;obtain⟨qA,n9,Z⟩:=dh (s:={ s with pc:=jJ }) jo U;split at Z
   ·grind [T.leaf]
   ·rename_i t2;have:=bE Z;simp only [ak] at this;obtain⟨rfl,rfl⟩:=this;rw [ef,decide_eq_true_eq,cV,hdl,ng] at t1;rw [ef,decide_eq_true_eq,cV,Bf,ng] at t2;simp only [W.den] at t1 t2;refine⟨rfl,rfl,n9,⟨.string (dv (l++m)),?_,?_⟩,jK⟩
    ·have hm:IntKind.i64.max=9223372036854775807:=ae
     have:(Op.stringOp .add (dv l) (dv m)).run P w= .ok (.string (dv l++dv m)) w:=by simp only [Op.stringOp,mN,hm];rw [af J];rfl
     have e:dv l++dv m=dv (l++m):=by apply ByteArray.ext;simp [dv]
     rw [e] at this;simpa [binOp] using this
    ·refine VR.aaF (fun c hc=>?_) ?_
     ·grind
     ·simp only [W.den,gQ.den,bG,hdl,Bf];simp only [lP,bz,ax5]
 all_goals first
  |(simp [T.leaf] at h; done)
  |(have:=bE h
    simp only [ak] at this;obtain⟨rfl,rfl⟩:=this;refine⟨rfl,rfl,hp,?_,jK⟩;refine fin _ _ rfl (fun q hq=>?_) (fun q hq=>by simpa [binOp] using hq);simp only [VR,SB.den,oB] at hq ⊢
    first
     |(rw [heq]; exact hq)
     |(rw [IZ E.ρ hdl Bf]; exact hq)
     |(rw [IZ E.ρ Bf hdl]; rw [BW] at hq; simpa using hq))
theorem T3 [bN] (da:eP P tt) (r:bX E s.h w) (hp:cA E.ρ s.pc) {sT dT:Nat} (hx:VR E w.heap (.kx e) u) (h:(Fg tt sT dT e s).leaf E.ρ=some (v,s')) :
 s'.bC=s.bC/\cA E.ρ s'.pc/\∃y w' E',(convert sT dT u).run P w= .ok y w'/\fm E s.h w E' s'.h w'/\bX E' s'.h w'/\VR E' w'.heap v y:=by
 unfold Fg at h;split at h
 ·grind [T.leaf]
 ·rename_i j hj;split at h
  ·rename_i hjk;split at h
   ·grind [T.leaf]
   ·rename_i i hi;split at h
    ·rename_i el hik;split at h
     ·rename_i ie np;split at h
      ·rename_i k awI;split at h
       ·obtain⟨l,rfl,hb,V⟩:=hx.afW
        have Rb:qO tt sT dT (.str l) s.h=some (.slice s.h.fresh 0 l.length (.rest 1),s.h.new (.cells (l.map fun c=> .int .u8 (.lit (Int.ofNat c))) el)):=by
         grind [qO]
        obtain⟨y,w',E',g1,g2,g3,g4⟩:=BG (P:=P) da r (x:=.str l) (u:=.string (dv l)) (by simp only [VR]; exact⟨trivial,hb⟩) Rb;obtain⟨jJ,jo,U⟩:=dh hp h;rw [mP,cV,V,ng] at U;split at U
        ·rename_i hz;have:=bE U;simp only [ak] at this;obtain⟨rfl,rfl⟩:=this;simp only [W.den,beq_iff_eq] at hz
         grind
        ·rename_i hz;have:=bE U;simp only [ak] at this;obtain⟨rfl,rfl⟩:=this;simp only [W.den,beq_eq_false_iff_ne,ne_eq] at hz;have Nv:dec (e.den E'.ρ)=lP l:=by rw [g2.ρ]; exact V
         have O7:cX E'.ρ e 14 []=l.map fun c=>AV.int .u8 (.lit (Int.ofNat c)):=by
          unfold cX;rw [Nv];simp only [lP,bz]
          have: ∀(l:List Nat) (i:Nat),bH E'.ρ (rowOf 14) [] (l.map fun b=>D.i (Int.ofNat b)) i=l.map fun c=>AV.int .u8 (.lit (Int.ofNat c)):=by
           intro l
           induction l with
           |nil=>intro i; rfl
           |cons a l ih=> intro i;simp only [aC,bH,ek,ih];rfl
          grind
         have r2:=EZ (e1:=e) (t:=14) g3 (by
          rw [Nv];refine⟨by simp only [lP,bz],fun x hx=>?_,fun q=>?_⟩
          ·simp only [lP,bz,aQ] at hx;obtain⟨b,_,rfl⟩:=hx;rfl
          ·have:=congrArg List.length q;rw [ng] at this
           exact hz (by simp at this; simp [this])) (by rw [O7]) (fun us hu=>by rw [O7]; exact hu)
         refine⟨rfl,jo,y,w',E',g1,g2.right (xR rfl rfl fun _=>rfl),r2,?_⟩;simp only [VR] at g4 ⊢;obtain⟨q1,a,cap,q2,q3,q4⟩:=g4;exact⟨q1,l.length,a,cap,by rw [cV,Nv,ng],q2,q3,q4⟩
       grind [T.leaf]
      grind [T.leaf]
     grind [T.leaf]
    grind [T.leaf]
  grind [T.leaf]
end
end
section
variable {t id ty:Nat} {m k v x:AV} {e:W} {tt:TT} {uk um ux:Value} {s s':St} {h:Array Obj} {c:CK}
section
variable {P:Program} {E:En} {w:World}
def Wh (c:CK):Prop:=(∃k,c= .int k)\/c= .str
theorem JM (t:Nat):Wh (mapOf t).1:=by
 unfold mapOf;split<;>first |exact .inl ⟨_,rfl⟩|exact .inr rfl
theorem bytes_beq (p q:ByteArray):(p == q)=decide (p=q):=by exact ap8
theorem aa3 {ro:Nat->Prop} (hc:Wh c) {dt:TypeDesc} (V:Dt dt (DY c)) {d d':D} {u u':Value} (r:Rd ro h c d u) (r':Rd ro h c d' u') :
 Instr.sameNow dt u u'=some (decide (d=d'))/\(d=d'->∀n,Instr.sameBits (n+1) u' u=true):=by
 rcases hc with ⟨k,rfl⟩|rfl
 ·simp only [DY] at V;obtain⟨k',rfl⟩:=V
  cases r with
  |int _ n=>
   cases r' with
   |int _ m=>
    refine⟨?_,fun hh n=>?_⟩
    ·simp only [Instr.sameNow,D.i.injEq]
     grind
    ·simp only [D.i.injEq] at hh;subst hh;simp [Instr.sameBits]
 ·simp only [DY] at V;simp only [Dt] at V;subst V;obtain⟨a,rfl,rfl⟩:=r.string;obtain⟨b,rfl,rfl⟩:=r'.string;refine⟨?_,fun hh n=>?_⟩
  ·simp only [Instr.sameNow,bytes_beq];congr 1
   grind [Hy]
  ·have:=Hy hh;subst this;simp [Instr.sameBits,bytes_beq]
theorem Bz {ro:Nat->Prop} {h:Array Obj} {t:Nat} {dt:TypeDesc} (V:Dt dt (DY (mapOf t).1)) {kd:D} {u:Value} (hk:Rd ro h (mapOf t).1 kd u): ∀{ds:List D} {cN:List MapEntry} {i:Nat},
 l9 ro h t ds cN->
 (kU ds kd=none/\Instr.findNow dt u cN i=some none/\(∀v,vF ds kd v=ds++ [.p kd v])/\LB ds kd=ds)\/
 (∃j x e,kU ds kd=some x/\cN[j]?=some e/\Rd ro h (mapOf t).2 x e.val/\Instr.findNow dt u cN i=some (some (i+j,e.val))/\(∀n,Instr.sameBits (n+1) e.key u=true)/\(∀v,vF ds kd v=ds.set j (.p kd v))/\LB ds kd=ds.eraseIdx j)
 |[],cN,i,he=>by simp only [l9] at he;subst he;exact .inl ⟨rfl,by simp [Instr.findNow],fun _=>rfl,rfl⟩
 |d::ds,cN,i,he=>by
  obtain⟨e,r,rfl,U,Z,h3,h4⟩:=he;obtain⟨g1,g2⟩:=aa3 (JM t) V hk Z;by_cases sY:Uy d=kd
  ·have g1':Instr.sameNow dt u e.key=some true:=by rw [g1,decide_eq_true sY.symm]
   refine .inr ⟨0,ad1 d,e,by simp only [kU,ag sY],rfl,h3,by simp [Instr.findNow,g1'],g2 sY.symm,fun v=>by simp only [vF,ag sY,axZ],by simp only [LB,ag sY,List.eraseIdx_cons_zero]⟩
  ·have g1':Instr.sameNow dt u e.key=some false:=by rw [g1,decide_eq_false (fun q=>sY q.symm)]
   rcases Bz (i:=i+1) V hk h4 with ⟨q1,q2,q3,q4⟩|⟨j,x,e',q1,q2,q3,q4,q5,q6,q7⟩
   ·exact .inl ⟨by simp only [kU,af sY,q1],by simp [Instr.findNow,g1',q2],fun v=>by simp only [vF,af sY,q3,aK],by simp only [LB,af sY,q4]⟩
   ·refine .inr ⟨j+1,x,e',by simp only [kU,af sY,q1],by simpa using q2,q3,?_,q5,fun v=>by simp only [vF,af sY,q6,ax0],by simp only [LB,af sY,q7,ayj]⟩;simp only [Instr.findNow,g1',q4]; congr 3; omega
theorem l9.set {ro:Nat->Prop} {h:Array Obj} {t:Nat} {kd vd:D} {uk uv:Value} (hk:Rd ro h (mapOf t).1 kd uk) (hv:Rd ro h (mapOf t).2 vd uv): ∀{ds:List D} {cN:List MapEntry} {i:Nat} {e:MapEntry},l9 ro h t ds cN->cN[i]?=some e->
 l9 ro h t (ds.set i (.p kd vd)) (cN.set i { e with key:=uk,val:=uv })
 |[],cN,i,e,he,hi=>by simp only [l9] at he; subst he; simp at hi
 |d::ds,cN,0,e,he,hi=>by obtain⟨e0,r,rfl,U,Z,h3,h4⟩:=he;simp at hi;subst hi;simp only [axZ];exact⟨_,r,rfl,rfl,hk,hv,h4⟩
 |d::ds,cN,i+1,e,he,hi=>by obtain⟨e0,r,rfl,U,Z,h3,h4⟩:=he;simp only [ax0];exact⟨e0,_,rfl,U,Z,h3,l9.set hk hv h4 (by simpa using hi)⟩
theorem l9.push {ro:Nat->Prop} {h:Array Obj} {t:Nat} {kd vd:D} {uk uv:Value} {c:Nat} (hk:Rd ro h (mapOf t).1 kd uk) (hv:Rd ro h (mapOf t).2 vd uv): ∀{ds:List D} {cN:List MapEntry},l9 ro h t ds cN->
 l9 ro h t (ds++ [.p kd vd]) (cN++ [{ key:=uk,val:=uv,born:=c }])
 |[],cN,he=>by simp only [l9] at he;subst he;exact⟨_,[],rfl,rfl,hk,hv,rfl⟩
 |d::ds,cN,he=>by obtain⟨e0,r,rfl,U,Z,h3,h4⟩:=he;simp only [aK];exact⟨e0,_,rfl,U,Z,h3,l9.push hk hv h4⟩
theorem l9.erase {ro:Nat->Prop} {h:Array Obj} {t:Nat}: ∀{ds:List D} {cN:List MapEntry} {i:Nat},l9 ro h t ds cN->l9 ro h t (ds.eraseIdx i) (cN.eraseIdx i)
 |[],cN,i,he=>by simp only [l9] at he; subst he; simp [l9]
 |d::ds,cN,0,he=>by
  obtain⟨e0,r,rfl,U,Z,h3,h4⟩:=he
  grind
 |d::ds,cN,i+1,he=>by obtain⟨e0,r,rfl,U,Z,h3,h4⟩:=he;simp only [ayj];exact⟨e0,_,rfl,U,Z,h3,l9.erase h4⟩
theorem zx {h:Hp} (hm:yK m h=some (id,e,t)):m= .map id/\h.get id=some (.mh e t):=by
 unfold yK at hm
 grind
theorem CQ (da:eP P tt) {a:W} {ie:TI} (hk:VR E h k uk) (hm:mapKey tt ty t k=some (a,ie)) :
 ∃kt et dt,P.underlying ty=some (.map kt et)/\P.underlying kt=some dt/\Dt dt (DY (mapOf t).1)/\oe P et ie/\Rd E.ro h (mapOf t).1 (dec (a.den E.ρ)) uk:=by
 unfold mapKey at hm;split at hm
 ·grind
 ·rename_i ti hU;split at hm
  ·rename_i kt et GN;split at hm
   ·grind
   ·rename_i ki hki;split at hm
    ·rename_i Bc;split at hm
     ·grind
     ·rename_i ie' np;split at hm
      ·grind
      ·rename_i a0 ha0;simp only [ah,ak] at hm;obtain⟨rfl,rfl⟩:=hm;have hu:=Ap (da ty ti hU) GN
       have sY: ∃dt,P.underlying kt=some dt/\Dt dt (DY (mapOf t).1):=by
        rcases JM t with ⟨q,hq⟩|hq
        ·rw [hq] at Bc ⊢;exact⟨_,xJ (da kt ki hki) Bc,q,rfl⟩
        ·rw [hq] at Bc ⊢;exact⟨_,fV (da kt ki hki) Bc,rfl⟩
       obtain⟨dt,U,Z⟩:=sY;refine⟨kt,et,dt,hu,U,Z,da et ie' np,?_⟩;rw [qV,bG];exact (nh hk ha0).rd (qP ha0)
    grind
  grind
theorem CP [bN] {H:Hp} (r:bX E H w) (Y:H.get id=some (.mh e t)): ∃cN c',w.heap[(E.θ id).1]?=some (.map cN c')/\l9 E.ro w.heap t (dec (e.den E.ρ)).l cN.toList:=
 (r.live id _ Y).2.1
theorem ni {d:TypeDesc} (hu:P.underlying t=some d) (V:Dt d (DY c)) (b:Bool) (v:Value):(Instr.checkKey b 10000 t v).run P w= .ok () w:=gM hu V b v
theorem YX {ρ:Nat->Int} (e a:W):(abC e a).den ρ=((W.op .Ev e a).den ρ == (W.lit 0).den ρ):=by
 unfold abC;split
 ·split
  ·simp only [SB.den,W.den,gQ.den,bG]
   grind
  ·rfl
 ·rfl
theorem TQ [bN] (da:eP P tt) (r:bX E s.h w) (hp:cA E.ρ s.pc) {ok:Bool} (hm:VR E w.heap m um) (hk:VR E w.heap k uk) (fU:yK m s.h=some (id,e,t)) (h:(BC tt ty k ok e t s).leaf E.ρ=some (v,s')) :
 s'.bC=s.bC/\s'.h=s.h/\cA E.ρ s'.pc/\∃x,(Instr.lookup ty um uk ok).run P w= .ok x w/\VR E w.heap v x:=by
 obtain⟨rfl,Y⟩:=zx fU
 unfold BC at h;split at h
 ·grind [T.leaf]
 ·rename_i a ie hmk;obtain⟨kt,et,dt,hu,xX,ku,np,hrk⟩:=CQ da hk hmk;split at h
  ·grind [T.leaf]
  ·rename_i z hz;obtain⟨u0,z1,z2⟩:=IG (P:=P) (w:=w) (E:=E) np hz;obtain⟨cN,c',g1,g2⟩:=CP r Y;have hg:=jZ (P:=P) g1 ad;simp only [VR] at hm;obtain⟨rfl,hid⟩:=hm;have hf:=Bz (i:=0) ku hrk g2;obtain⟨jJ,jo,U⟩:=dh hp h;rw [YX] at U;simp only [W.den,gQ.den] at U;rcases hf with ⟨q1,q2,_,_⟩|⟨j,x,en,q1,q2,q3,q4,q5,_,_⟩
   ·rw [q1] at U;have:=bE U;simp only [ak] at this;obtain⟨rfl,rfl⟩:=this;refine⟨rfl,rfl,jo,(if ok then .tuple #[u0,.bool false] else u0),?_,?_⟩
    ·cases ok<;>simp [Instr.lookup,run_underlying hu,hg,ni xX ku,gp xX q2,z1]
    ·cases ok
     ·exact z2
     ·simp only [if_true,VR,cP];simp_all [z2,SB.den]
   ·rw [q1] at U;have:=bE U;simp only [ak] at this;obtain⟨rfl,rfl⟩:=this
    have Ir:VR E w.heap (vh (mapOf t).2 (.op .Ew e a)) en.val:=by rw [qQ];simp only [W.den,gQ.den,bG,q1,ax];exact q3.cell
    refine⟨rfl,rfl,jo,(if ok then .tuple #[en.val,.bool true] else en.val),?_,?_⟩
    ·cases ok<;>simp [Instr.lookup,run_underlying hu,hg,ni xX ku,gp xX q4]
    ·cases ok
     ·grind
     ·simp only [if_true,VR,cP]
      grind [SB.den]
theorem Y6 [bN] (da:eP P tt) (r:bX E s.h w) (hm:VR E w.heap m um) (hk:VR E w.heap k uk) (hx:VR E w.heap x ux) (fU:yK m s.h=some (id,e,t)) (h:(TN tt ty id k x e t s).leaf E.ρ=some (v,s')) :
 s'.bC=s.bC/\s'.pc=s.pc/\v=AV.undef/\∃w',(Instr.mapUpdate ty um uk ux).run P w= .ok () w'/\fm E s.h w E s'.h w'/\bX E s'.h w':=by
 obtain⟨rfl,Y⟩:=zx fU
 unfold TN at h;split at h
 ·grind [T.leaf]
 ·rename_i a ie hmk;obtain⟨kt,et,dt,hu,xX,ku,np,hrk⟩:=CQ da hk hmk;split at h
  ·grind [T.leaf]
  ·rename_i b hb;have:=bE h;simp only [ak] at this;obtain⟨rfl,rfl⟩:=this;have hrx:=(nh hx hb).rd (qP hb);obtain⟨cN,c',g1,g2⟩:=CP r Y;have hg:=jZ (P:=P) g1 ad;simp only [VR] at hm;obtain⟨rfl,hid⟩:=hm;refine⟨rfl,rfl,rfl,?_⟩
   have LS:dec ((W.op .OE e (gq a b)).den E.ρ)=dL (vF (dec (e.den E.ρ)).l (dec (a.den E.ρ)) (dec (b.den E.ρ))):=by simp only [gq,W.den,gQ.den,bG]
   rcases Bz (i:=0) ku hrk g2 with ⟨q1,q2,q3,_⟩|⟨j,y,en,q1,q2,q3,q4,q5,q6,_⟩
   ·refine⟨_,?_,iU r Y (.mh (.op .OE e (gq a b)) t) (.map (cN.push { key:=uk,val:=ux,born:=c' }) (c'+1)) ?_⟩
    ·simp [Instr.mapUpdate,run_underlying hu,hg,ni xX ku,gp xX q2,jU (P:=P) g1]
    ·intro h' hh kp;simp only [OR];refine⟨_,_,hh,?_⟩;rw [LS,bz,q3,Array.toList_push];exact l9.push (hrk.dq kp.ro kp.FU) (hrx.dq kp.ro kp.FU) (g2.dq kp.ro kp.FU)
   ·simp only [aH] at q4
    have hkt:(Instr.keyThatStays (((cN[j]?).map (·.key)).getD uk) uk).run P w= .ok uk w:=by have q2':=q2;rw [awV] at q2';simp only [q2',awY,ax,Instr.keyThatStays];simp_all
    refine⟨_,?_,iU r Y (.mh (.op .OE e (gq a b)) t) (.map (cN.modify j fun e=>{ e with key:=uk,val:=ux }) c') ?_⟩
    ·simp [Instr.mapUpdate,run_underlying hu,hg,ni xX ku,gp xX q4,hkt,jU (P:=P) g1]
    ·intro h' hh kp;simp only [OR];refine⟨_,_,hh,?_⟩;rw [LS,bz,q6,Gj cN j en _ q2];exact l9.set (hrk.dq kp.ro kp.FU) (hrx.dq kp.ro kp.FU) (g2.dq kp.ro kp.FU) q2
theorem Ka [bN] (da:eP P tt) (r:bX E s.h w) (hp:cA E.ρ s.pc) (hm:VR E w.heap m um) (hk:VR E w.heap k uk) (hx:VR E w.heap x ux) (h:(Md tt ty m k x s).leaf E.ρ=some (v,s')) :
 s'.bC=s.bC/\cA E.ρ s'.pc/\v=AV.undef/\∃w' E',(Instr.mapUpdate ty um uk ux).run P w= .ok () w'/\fm E s.h w E' s'.h w'/\bX E' s'.h w':=by
 unfold Md at h;obtain⟨vs,U,jJ,E1,jo,f,q,g⟩:=rz rfl r hp h;have hρ:=f.ρ;rw [<- hρ] at jo g;have hv:=q [ux] (by simp only [cP]; exact⟨ux,[],rfl,hx,rfl⟩);split at g
 ·rename_i x1;simp only [cP] at hv;obtain⟨u1,us1,e1,Iq,e2⟩:=hv;subst e2;simp only [List.cons.injEq,and_true] at e1;subst e1;split at g
  ·rename_i id e t fU
   obtain⟨a1,a2,a3,w',a4,a5,a6⟩:=Y6 da (s:={ s with h:=U,pc:=jJ }) f.rel (VR.dq (f.eA.keeps r) _ _ hm) (VR.dq (f.eA.keeps r) _ _ hk) Iq fU g;exact⟨a1,by rw [a2,<- hρ]; exact jo,a3,w',E1,a4,f.eA.trans a5,a6⟩
  grind [T.leaf]
 grind [T.leaf]
theorem Za [bN] (da:eP P tt) (r:bX E s.h w) {ts:Nat} (hm:VR E w.heap m um) (hk:VR E w.heap k uk) (fU:yK m s.h=some (id,e,t)) (h:(TW tt ty id k e t s).leaf E.ρ=some (v,s')) (tr:Nat) :
 s'.bC=s.bC/\s'.pc=s.pc/\v=AV.undef/\∃w',(Builtin.delete_ #[ty,ts] tr #[um,uk]).run P w= .ok (.tuple #[]) w'/\fm E s.h w E s'.h w'/\bX E s'.h w':=by
 obtain⟨rfl,Y⟩:=zx fU
 unfold TW at h;split at h
 ·grind [T.leaf]
 ·rename_i a ie hmk;obtain⟨kt,et,dt,hu,xX,ku,np,hrk⟩:=CQ da hk hmk;have:=bE h;simp only [ak] at this;obtain⟨rfl,rfl⟩:=this;obtain⟨cN,c',g1,g2⟩:=CP r Y;have hg:=jZ (P:=P) g1 ad;simp only [VR] at hm;obtain⟨rfl,hid⟩:=hm;refine⟨rfl,rfl,rfl,?_⟩
  have LS:dec ((W.op .SS e a).den E.ρ)=dL (LB (dec (e.den E.ρ)).l (dec (a.den E.ρ))):=by exact j_
  rcases Bz (i:=0) ku hrk g2 with ⟨q1,q2,_,q3⟩|⟨j,y,en,q1,q2,q3,q4,q5,_,q6⟩
  ·refine⟨_,?_,iU r Y (.mh (.op .SS e a) t) (.map cN c') ?_⟩
   ·simp [Builtin.delete_,run_underlying hu,hg,ni xX ku,gp xX q2,jU (P:=P) g1]
   ·intro h' hh kp;simp only [OR];refine⟨_,_,hh,?_⟩;rw [LS,bz,q3];exact g2.dq kp.ro kp.FU
  ·simp only [aH] at q4;refine⟨_,?_,iU r Y (.mh (.op .SS e a) t) (.map (cN.eraseIdxIfInBounds j) c') ?_⟩
   ·simp [Builtin.delete_,run_underlying hu,hg,ni xX ku,gp xX q4,jU (P:=P) g1]
   ·intro h' hh kp;simp only [OR];refine⟨_,_,hh,?_⟩;have cY:j<cN.size:=by have:=(bc.1 q2).1; simpa using this
    have:(cN.eraseIdxIfInBounds j).toList=cN.toList.eraseIdx j:=by simp_all
    rw [this,LS,bz,q6];exact l9.erase (g2.dq kp.ro kp.FU)
end
end
section
variable {tt:TT} {t:Nat}
section
variable {P:Program} {E:En} {w:World}
theorem aaT [bN] (da:eP P tt) {H:Hp} (r:bX E H w) {e k:Nat} {i ie:TI} {k1 k2:IntKind} (hi:tt t=some i) (hk:i.kind= .slice e) (np:tt e=some ie) (hz0:ie.zero.length=ie.size) (yM:0<ie.size) (mT:ie.bytes≠0) (It:ie.bytes*k<=140737488355328) (lU:0<k) :
 ∃x w' E',(Instr.makeSlice t (.int k1 k) (.int k2 k)).run P w= .ok x w'/\fm E H w E' (H.new (.cells (dR ie.zero k) e)) w'/\bX E' (H.new (.cells (dR ie.zero k) e)) w'/\VR E' w'.heap (.slice H.fresh 0 k (.rest ie.size)) x:=by
 have hU:=da t i hi;have abk:=da e ie np;obtain⟨inf,z,g1,g2,g3,g4,g5⟩:=xV abk;have hz:=fC (E:=E) (h:=w.heap) g5;have uG:z.cells.size=ie.size:=by have:=hz.1.length; simp only [bh] at this; omega
 have hkb:k<=140737488355328:=by refine awP ?_ It;exact Nat.le_mul_of_pos_left _ J
 have wn:IntKind.i64.wrap (k:Int)=(k:Int):=by rw [<- nQ]; simp only [w8]; rw [ag (by constructor<;>omega)]
 have ai: ∀(q:IntKind) (x:Int) (w:World),(asInt (Value.int q x)).run P w= .ok x w:=fun _ _ _=>rfl
 have jK:z.cells.toList≠[]:=by
  intro hx;have hx':z.cells.size=0:=by have:=congrArg List.length hx; simpa using this
  omega
 have hzz:=vT z.cells jK k;rw [uG] at hzz;obtain⟨iz,e1⟩ : ∃iz:Array Value,((Array.range (k*inf.size)).map (z.cells[·% z.cells.size]!))=iz:=⟨_,rfl⟩
 have e1':iz.toList=dR z.cells.toList k:=by
  grind
 have e2:cP E w.heap (dR ie.zero k) iz.toList:=by rw [e1']; exact mR hz.1 k
 have e3: ∀u∈iz.toList,u.oneCell'=true:=by rw [e1']; intro u hu; exact hz.2 u (mQ hu)
 have jl:iz.size=k*ie.size:=by rw [<- bh,e1',jz,bh,uG]
 refine⟨.slice (some ⟨w.heap.size,0,none⟩) k k,{ w with heap:=w.heap.push (.cells iz e) },E.ext H.fresh (w.heap.size,0) iz.size,?_,?_⟩
 ·have t1: ¬((k:Int)<0):=J
  have t2: ¬((inf.bytes:Int)*(k:Int) > 2 ^ 48):=by
   grind
  have t4: ¬((k:Int) > (k:Int)):=J
  have t5:(askRoom (k*inf.bytes)).run P w= .ok () w:=by
   have: ¬(k*inf.bytes > roomBytes):=by
    unfold roomBytes
    grind
   unfold askRoom;rw [af this];rfl
  have t6:(k:Int).toNat=k:=rfl
  have h0: ¬(k*inf.size=0):=by rw [g2];have:=axN lU yM;omega
  simp only [Instr.makeSlice,Sem.run_bind,run_underlying (fw hU hk),Result.andThen_ok,ai,sizeOf,typeInfo,zeroValue,run_program,g1,g4,Sem.run_pure,newRow,Sem.run_ite,wn,t1,t2,t4,t6,h0,decide_false,axX,aR,if_false];rw [t5,Result.andThen_ok,e1];rfl
 ·obtain⟨s1,s2⟩:=ji r iz 0 0 e e2 e3 (fun i u hu=>by rw [<- awV]; exact hu) J (w':={ w with heap:=w.heap.push (.cells iz e) }) rfl ⟨rfl,rfl,rfl⟩;refine⟨s1,s2,?_⟩;simp only [VR];refine⟨En.iH _ _ _ _,⟨w.heap.size,0,none⟩,k,rfl,au _,?_⟩;simp only [fJ,En.ext_θ_new,En.ext_κ_new]
  grind
theorem TP [bN] (da:eP P tt) {s s':St} (r:bX E s.h w) (hp:cA E.ρ s.pc) {l c v:AV} {lu cu:Value} (Y:VR E w.heap l lu) (hc:VR E w.heap c cu) (h:(Mf tt t l c s).leaf E.ρ=some (v,s')) :
 s'.bC=s.bC/\cA E.ρ s'.pc/\∃x w' E',(Instr.makeSlice t lu cu).run P w= .ok x w'/\fm E s.h w E' s'.h w'/\bX E' s'.h w'/\VR E' w'.heap v x:=by
 unfold Mf at h;split at h
 ·rename_i k n;split at h
  ·rename_i k2 n2;split at h
   ·simp [T.leaf] at h
   ·rename_i YT;have YT:=dj _ _ YT;subst YT;simp only [VR] at Y hc;subst Y hc;split at h
    ·simp [T.leaf] at h
    ·rename_i i hi;split at h
     ·simp [T.leaf] at h
     ·rename_i o ho;split at h
      ·rename_i e hk;split at h
       ·simp [T.leaf] at h
       ·rename_i ie np;split at h
        ·simp [T.leaf] at h
        ·rename_i z hz;split at h
         ·rename_i jP;obtain⟨lW,yM,mT,uG⟩:=jP;obtain⟨jJ,jo,U⟩:=dh hp h;split at U
          ·simp [T.leaf] at U
          ·rename_i t1;obtain⟨qA,n9,Z⟩:=dh (s:={ s with pc:=jJ }) jo U;split at Z
           ·rename_i t2;split at Z
            ·rename_i v0 h0 hm;have:=bE Z;simp only [ak] at this;obtain⟨rfl,rfl⟩:=this;rw [mP,beq_iff_eq] at t2;simp only [W.den] at t2;rw [t2];obtain⟨x,w',E',q1,q2,q3,q4⟩:=xe (P:=P) da r (lu:=.int k 0) (cu:=.int k2 0) (by simp only [VR,W.den]) (by simp only [VR,W.den]) hm
             grind
            ·simp [T.leaf] at Z
           ·rename_i t2;obtain⟨pc3,OZ,h3⟩:=dh (s:={ s with pc:=qA }) n9 Z;split at h3
            ·rename_i t3;have:=bE h3;simp only [ak] at this;obtain⟨rfl,rfl⟩:=this;rw [ef,decide_eq_false_iff_not] at t1;rw [mP,beq_eq_false_iff_ne] at t2;rw [ef,decide_eq_true_eq] at t3;simp only [W.den] at t1 t2 t3;obtain⟨m,hm⟩ : ∃m:Nat,n.den E.ρ=(m:Int):=⟨(n.den E.ρ).toNat,J⟩;rw [hm] at t2 t3 ⊢;have lU:0<m:=J
             have It:ie.bytes*m<=140737488355328:=by
              unfold sQ at t3
              have U:m<=140737488355328 / ie.bytes:=by
               grind
              exact awP (Nat.mul_le_mul_left _ U) (Nat.mul_div_le _ _)
             obtain⟨x,w',E',q1,q2,q3,q4⟩:=aaT (P:=P) (k1:=k) (k2:=k2) da r hi hk np uG yM mT It lU;have hρ:=q2.ρ
             have V:dec ((W.op .rep n z).den E'.ρ)=dL (List.replicate m (dec (z.den E'.ρ))):=by
              have:n.den E'.ρ=(m:Int):=by rw [hρ]; exact hm
              simp only [W.den,gQ.den,bG,this,aW]
             have hlen:(dec ((W.op .rep n z).den E'.ρ)).l.length=m:=by rw [V,bz,axs]
             have hwz:rT (rowOf o) (dec (z.den E'.ρ)):=vf hz
             have vK:(cX E'.ρ (.op .rep n z) o []).length=(dR ie.zero m).length:=by unfold cX;rw [cW (kT _),hlen,jz,uG,lW]
             have aoy: ∀(q:Nat) (us:List Value),cP E' w'.heap (dR ie.zero q) us->cP E' w'.heap (bH E'.ρ (rowOf o) [] (List.replicate q (dec (z.den E'.ρ))) 0) us:=by
              intro q
              induction q with
              |zero=>intro us h; exact h
              |succ q ih=> intro us h;simp only [dR] at h;obtain⟨us1,us2,rfl,a,b⟩:=cP.split h;simp only [ayp,bH,ek];rw [lh _ 1 0];refine cP.append ?_ (ih _ b);rw [gD];simp only [W.den,bG];exact vg a hz
             have r2:=EZ (e1:=.op .rep n z) (t:=o) q3 ⟨by rw [V,bz],fun d Nv=>by
              rw [V,bz] at Nv;rw [ayG Nv]
              exact hwz,fun hq=>by rw [hq] at hlen; simp at hlen; omega⟩ vK (fun us hu=>by
              unfold cX;rw [V,bz]
              exact aoy m us hu)
             refine⟨rfl,OZ,x,w',E',q1,q2.right (xR rfl rfl fun _=>rfl),r2,?_⟩;simp only [VR] at q4 ⊢;obtain⟨p1,a,cap,p2,p3,p4⟩:=q4;refine⟨p1,m,a,cap,by rw [cV,hlen],p2,p3,?_⟩
             grind
            ·simp [T.leaf] at h3
         ·simp [T.leaf] at h
      ·simp [T.leaf] at h
  ·simp [T.leaf] at h
 ·simp [T.leaf] at h
end
end
section
variable {tt:TT} {u:Value} {e d:W} {α:Type} {ix:AV} {k:IntKind} {h:Array Obj} {call:eQ}
theorem M3 {β:Type} (f:α->β) (xs:Array α):xs.map f=(xs.toList.map f).toArray:=by
 grind
def pP (P:Program) (R:Value->World->Prop):Result Next->Prop
 | .ok (.value u) w'=>R u w'
 | .ok (.enter f args) w'=>Calls P f args w' fun e w''=> ∃u,e= .returned u/\R u w''
 |_=>False
def mB (P:Program) (g:FuncId) (vals:Array Value) (w:World) (R:Value->World->Prop):Prop:=pP P R ((callFunc g vals).run P w)
def kN [bN] (P:Program) (g:FuncId) (f:List AV->St->T (AV×St)):Prop:=
 ∀(args:List AV) (s:St) (E:En) (w:World) (vals:List Value) (v:AV) (s':St),bX E s.h w->cP E w.heap args vals->cA E.ρ s.pc->(f args s).leaf E.ρ=some (v,s')->
  s'.bC=s.bC/\cA E.ρ s'.pc/\mB P g vals.toArray w (QS E s w v s')
theorem A7 {E:En} {h:Array Obj} {k:Nat} {e:W} {i:Nat} (he:e.den E.ρ=(i:Int)): ∀(ks:List IntKind) (j:Nat),
 cP E h (wQ k e ks j) ((ks.zipIdx j).map fun p=> .int p.1 (E.ρ (1000+i*64+(k*8+p.2))))
 |[],j=>by simp [wQ,cP]
 |kd::ks,j=>by simp only [wQ,List.zipIdx_cons,aC];rw [bU];refine⟨_,_,rfl,?_,A7 he ks (j+1)⟩;simp only [VR,W.den,he,aW]
theorem TS {P:Program} {E:En} {w:World} (da:eP P tt) {pc:List (SB×Bool)} (hp:cA E.ρ pc) {t k:Nat} {ks:List IntKind} {v:AV} {ui:Value} (hx:VR E w.heap (.yL k ks) u) (Bd:VR E w.heap ix ui)
 (h:Mg tt pc t k ks ix=some v): ∃r,(Instr.indexAt t u ui).run P w= .ok r w/\VR E w.heap v r:=by
 unfold Mg at h;split at h
 ·rename_i kd e;split at h
  ·rename_i ti hU;split at h
   ·rename_i el hk;have hu:=fw (da t ti hU) hk;split at h
    ·rename_i s hs;simp only [iT,aO] at hs;obtain⟨ie,np,rfl⟩:=hs;split at h
     ·rename_i hc;split at h
      ·rename_i U Z;simp at h;subst h;have U:=gW hp U;have Z:=gW hp Z;rw [ef,decide_eq_false_iff_not] at U;rw [ef,decide_eq_true_eq] at Z;simp only [W.den,axp] at U Z;simp only [VR] at hx Bd;subst Bd;rcases hx with ⟨⟨x,cap,rfl⟩,h0⟩|⟨b,o,n,cap,rfl,g1,g2,g3,g4⟩
       ·omega
       ·obtain⟨i,hi⟩ : ∃i:Nat,e.den E.ρ=(i:Int):=⟨(e.den E.ρ).toNat,J⟩;have sj:i<n:=J
        refine⟨.pointer (some ⟨b,o+i*ie.size,none⟩),?_,?_⟩
        ·rw [hi];simp [Instr.indexAt,asIntOf,run_underlying hu,e9 (da el ie np),sj,gA]
        ·simp only [VR];refine⟨b,_,_,rfl,g3,A7 hi ks 0,?_,?_⟩
         ·intro j u hj
          grind
         ·intro u hu';rw [aQ] at hu';obtain⟨p,_,rfl⟩:=hu';rfl
      grind
     grind
    grind
   grind
  grind
 grind
theorem afG {E:En} {s s':St} {v:AV} (hp:cA E.ρ s.pc) (h:(anQ s k e d).leaf E.ρ=some (v,s')) :
 s'.bC=s.bC/\s'.h=s.h/\cA E.ρ s'.pc/\d.den E.ρ≠0/\∀h,VR E h v (.int k ((e.den E.ρ).tmod (d.den E.ρ))):=by
 unfold anQ at h;obtain⟨fy,gC,h3⟩:=dh hp h;rw [jx] at h3;split at h3
 ·grind [T.leaf]
 ·rename_i he;simp only [T.leaf,ah,ak] at h3;obtain⟨rfl,rfl⟩:=h3;simp only [W.den,beq_eq_false_iff_ne,ne_eq] at he;exact⟨rfl,rfl,gC,he,fun h=>by simp only [VR,W.den]⟩
theorem Yh {E:En} {op:BinOp} {a b:AV} (hr:Sy op a b=some (k,e,d)) {u':Value} (ha:VR E h a u) (hb:VR E h b u') :
 op= .rem/\u= .int k (e.den E.ρ)/\u'= .int k (d.den E.ρ):=by
 unfold Sy at hr;split at hr
 ·split at hr
  ·split at hr
   ·split at hr
    ·grind
    ·split at hr
     ·rename_i hc;simp only [ah,ak] at hr;obtain⟨rfl,rfl,rfl⟩:=hr;simp only [VR] at ha hb
      grind
     grind
   grind
  grind
 grind
def iR [bN] (P:Program) (call:eQ):Prop:= ∀g,kN P g (call g)
theorem tm.next {P:Program} {o:Oper} {a:Act} {w:World} {R:Value->World->Prop} (h:pP P R ((execOp a.eval o).run P w)):tm P o a w R:=by
 intro K Q hk;unfold Oper.wp;generalize (execOp a.eval o).run P w=r at h
 cases r with
 |halt x w'=>exact h.elim
 |ok n w'=>
  cases n<;>first
   |exact h.elim
   |exact hk _ _ h
   |(exact Calls.mono h fun e w'' ⟨u,he,hr⟩=>by subst he; exact hk _ _ hr)
theorem HO {t n:Nat} (h:Xx tt t ix=some (n,e)): ∃k ti el ie,ix= .int k e/\tt t=some ti/\ti.kind= .array n el/\tt el=some ie/\ie.size=1/\ie.agg=false:=by
 unfold Xx at h;split at h
 all_goals grind
section
variable {P:Program} {E:En} {w:World} {s s':St} {o:Oper} {a:Act} {v:AV}
theorem Mp [bN] (da:eP P tt) (r:bX E s.h w) (hp:cA E.ρ s.pc) {b:Builtin} {ts:List Nat} {args:List AV} {vals:List Value} (hv:cP E w.heap args vals) (ty:Nat) (cs:Array Bool)
 (h:(yc tt s b ts args).leaf E.ρ=some (v,s')):s'.bC=s.bC/\cA E.ρ s'.pc/\∃u w',(builtin b ts.toArray ty cs vals.toArray).run P w= .ok (.value u) w'/\QS E s w v s' u w':=by
 unfold yc at h;split at h
 ·rename_i t x;obtain⟨e1,rfl⟩:=jv h;rw [bU] at hv;obtain⟨u,vs,rfl,hx,pR⟩:=hv;rw [jf] at pR;subst pR;obtain⟨y,U,Z⟩:=abT (ty:=ty) da r hx e1;exact⟨rfl,hp,y,w,by simp [builtin,U],E,fm.refl _ _ _,r,Z⟩
 ·rename_i t t2 id lo n t' y;rw [bU] at hv;obtain⟨u,vs,rfl,hx,pR⟩:=hv;rw [bU] at pR;obtain⟨u2,vs,rfl,hy,JW⟩:=pR;rw [jf] at JW;subst JW;split at h
  ·rename_i hz;obtain⟨q1,q2,z,w',E',U,Z,h3,h4⟩:=Pz (ty:=ty) da r hp hz hx hy h;exact ahe
  grind [T.leaf]
 ·rename_i t t2 x y _;rw [bU] at hv;obtain⟨u,vs,rfl,hx,pR⟩:=hv;rw [bU] at pR;obtain⟨u2,vs,rfl,hy,JW⟩:=pR;rw [jf] at JW;subst JW;split at h
  ·rename_i agc;obtain⟨q1,q2,z,w',E',U,Z,h3,h4⟩:=Mr (ty:=ty) da r hp hx hy (fun V=>by rw [V,axX] at agc; exact OV hx agc) h;exact ahe
  obtain⟨H,e1,rfl⟩:=qW h;obtain⟨z,w',E',U,Z,h3,h4⟩:=Py (ty:=ty) da r hx hy e1;exact⟨rfl,hp,z,w',by simp [builtin,U],E',Z,h3,h4⟩
 ·rename_i t ts' m k;rw [bU] at hv;obtain⟨u,vs,rfl,hx,pR⟩:=hv;rw [bU] at pR;obtain⟨u2,vs,rfl,hy,JW⟩:=pR;rw [jf] at JW;subst JW;split at h
  ·rename_i id e t' fU
   obtain⟨q1,q2,rfl,w',U,Z,h3⟩:=Za (ts:=ts') da r hx hy fU h ty;exact⟨q1,by rw [q2]; exact hp,.tuple #[],w',by simp [builtin,U],E,Z,h3,by simp only [AV.undef,VR,cP]; exact⟨[],rfl,rfl⟩⟩
  obtain⟨fy,gC,h⟩:=sq hp h;obtain⟨H,e1,rfl,rfl⟩:=AD h;obtain⟨w',U,Z,h3⟩:=Px (ts:=ts') da gC r hx hy e1 ty;exact⟨rfl,gC,.tuple #[],w',by simp [builtin,U],E,Z,h3,by simp only [AV.undef,VR,cP]; exact⟨[],rfl,rfl⟩⟩
 ·rename_i t id n t';rw [bU] at hv;obtain⟨u,vs,rfl,hx,pR⟩:=hv;rw [jf] at pR;subst pR;obtain⟨q1,q2,rfl,w',E',U,Z,h3⟩:=D7 (ty:=ty) da r hp (Vb hx) h;exact aiz
 ·rename_i t id lo n t';rw [bU] at hv;obtain⟨u,vs,rfl,hx,pR⟩:=hv;rw [jf] at pR;subst pR;obtain⟨q1,q2,rfl,w',E',U,Z,h3⟩:=D7 (ty:=ty) da r hp hx h;exact aiz
 ·rename_i t x _ _;obtain⟨H,e1,rfl,rfl⟩:=AD h;rw [bU] at hv;obtain⟨u,vs,rfl,hx,pR⟩:=hv;rw [jf] at pR;subst pR;obtain⟨w',U,Z,h3⟩:=TZ (ty:=ty) da r hx e1;exact⟨rfl,hp,.tuple #[],w',by simp [builtin,U],E,Z,h3,by simp only [AV.undef,VR,cP]; exact⟨[],rfl,rfl⟩⟩
 ·rename_i k e xs;rw [bU] at hv;obtain⟨u,vs,rfl,hx,pR⟩:=hv;simp only [VR] at hx;subst hx;obtain⟨q1,q2,q3,u,q4,q5⟩:=oQ (P:=P) (w:=w) hp pR h;refine⟨q2,q3,u,w,?_,E,by rw [q1]; exact fm.refl _ _ _,by rw [q1]; exact r,q5⟩;simp only [aR,if_false] at q4;simp [builtin,Builtin.min_,q4]
 ·rename_i k e xs;rw [bU] at hv;obtain⟨u,vs,rfl,hx,pR⟩:=hv;simp only [VR] at hx;subst hx;obtain⟨q1,q2,q3,u,q4,q5⟩:=oQ (P:=P) (w:=w) hp pR h;refine⟨q2,q3,u,w,?_,E,by rw [q1]; exact fm.refl _ _ _,by rw [q1]; exact r,q5⟩;simp only [if_true] at q4;simp [builtin,Builtin.max_,q4]
 grind [T.leaf]
theorem Zb [bN] (da:eP P tt) (hc:iR P call) (r:bX E s.h w) (sr:SR E w.heap s.bC a) (hp:cA E.ρ s.pc) {c:Call} (ho:o.op= .call c)
 (h:(Mn tt call s c).leaf E.ρ=some (v,s')):l8 P E s o a w v s':=by
 unfold Mn at h;split at h
 ·grind [T.leaf]
 ·rename_i args akg;have hv:=L5 sr akg;have as8:c.args.map a.eval=(c.args.toList.map a.eval).toArray:=M3 _ _;split at h
  ·rename_i b aoF;obtain⟨q1,q2,u,w',q3,q4⟩:=Mp da r hp hv o.type (c.args.map fun| .const _=>true|_=>false) h;refine⟨q1,q2,tm.value ?_ q4⟩;simp only [execOp,ho,resolve,aoF,Sem.run_bind,Sem.run_pure,Result.andThen_ok,invoke,as8];exact q3
  ·rename_i f aoF;split at h
   ·rename_i g fs cs hf;have hfv:=iw sr hf;simp only [VR] at hfv;obtain⟨us,ws,he,U,Z⟩:=hfv;obtain⟨q1,q2,q3⟩:=hc g _ s E w _ v s' r ((U.append hv).append Z) hp h;refine⟨q1,q2,tm.next ?_⟩;unfold mB at q3;simp only [execOp,ho,resolve,aoF,Sem.run_bind,he,Deferred.ofValue,Sem.run_pure,Result.andThen_ok,invoke,as8]
    grind
   grind [T.leaf]
  grind [T.leaf]
theorem aeq [bN] {E:En} {v:AV} {s:St} {k:AV->St->T α} {r:α} (hp:cA E.ρ s.pc) (hv:VR E h v u) (Y:(aer v s k).leaf E.ρ=some r) :
 ∃v' fy,cA E.ρ fy/\VR E h v' u/\(k v' { s with pc:=fy }).leaf E.ρ=some r:=by
 unfold aer at Y;split at Y
 ·split at Y
  ·exact⟨_,s.pc,hp,hv,Y⟩
  ·obtain⟨jJ,jo,U⟩:=dh hp Y;refine⟨_,jJ,jo,?_,U⟩;simp only [VR,SB.den] at *;exact hv
 ·exact⟨_,s.pc,hp,hv,Y⟩
theorem WT [bN] (da:eP P tt) (hc:iR P call) (r:bX E s.h w) (sr:SR E w.heap s.bC a) (hp:cA E.ρ s.pc) (h:(Me tt call s o.op).leaf E.ρ=some (v,s')):l8 P E s o a w v s':=by
 obtain⟨dst,op,type,pos,after,guard⟩:=o;simp only at h;cases op<;>simp only [Me] at h<;>first |(simp [T.leaf] at h; done)|skip
 case move x=>
  obtain⟨u,U,Z⟩:=ib sr h;have:=bE Z;simp only [ak] at this;obtain⟨rfl,rfl⟩:=this;exact l8.pure hp r (u:=a.eval x) rfl U
 case assign x=>
  obtain⟨u,U,Z⟩:=ib sr h;have:=bE Z;simp only [ak] at this;obtain⟨rfl,rfl⟩:=this;exact l8.pure hp r (u:=a.eval x) rfl U
 case pick c x y=>
  obtain⟨cv,U,Z⟩:=ib sr h;split at Z
  ·rename_i cb;obtain⟨fy,gC,h3⟩:=dh hp Z;simp only [VR] at U;cases Rc:cb.den E.ρ<;>rw [Rc] at U h3
   ·simp only [aR,if_false] at h3;obtain⟨u,h4,h5⟩:=ib (s:={ s with pc:=fy }) sr h3;have:=bE h5;simp only [ak] at this;obtain⟨rfl,rfl⟩:=this;exact⟨rfl,gC,tm.value (u:=a.eval y) (by simp [execOp,U,asBool]) ⟨E,fm.refl _ _ _,r,h4⟩⟩
   ·simp only [if_true] at h3;obtain⟨u,h4,h5⟩:=ib (s:={ s with pc:=fy }) sr h3;have:=bE h5;simp only [ak] at this;obtain⟨rfl,rfl⟩:=this;exact⟨rfl,gC,tm.value (u:=a.eval x) (by simp [execOp,U,asBool]) ⟨E,fm.refl _ _ _,r,h4⟩⟩
  ·simp [T.leaf] at Z
 case alloc t=>
  split at h
  ·rename_i i hi;have:=bE h;simp only [ak] at this;obtain⟨rfl,rfl⟩:=this;obtain⟨inf,z,g1,g2,g3,g4,g5⟩:=xV (da t i hi);have hz:=fC (E:=E) (h:=w.heap) g5;obtain⟨s1,s2⟩:=ji r z.cells 0 0 t hz.1 hz.2 (fun i u hu=>by rw [<- awV]; exact hu) J (w':={ w with heap:=w.heap.push (.cells z.cells t) }) rfl ⟨rfl,rfl,rfl⟩;exact l8.heap hp (u:=.pointer (some ⟨w.heap.size,0,none⟩)) (by simp [execOp,Instr.alloc,zeroValue,typeInfo,g1,g4,newVar,newRow]) s1 s2 (Lq r _ _ 0)
  ·simp [T.leaf] at h
 case box t x=>
  obtain⟨u,U,Z⟩:=ib sr h;split at Z
  ·rename_i vJ;have:=bE Z;simp only [ak] at this;obtain⟨rfl,rfl⟩:=this;have Rb:=U.cells vJ;obtain⟨s1,s2⟩:=ji r (a.eval x).cells 0 0 t Rb (Rb.tK vJ) (fun i u hu=>by rw [<- awV]; exact hu) J (w':={ w with heap:=w.heap.push (.cells (a.eval x).cells t) }) rfl ⟨rfl,rfl,rfl⟩;exact l8.heap hp (u:=.pointer (some ⟨w.heap.size,0,none⟩)) (by simp [execOp,Instr.box,newVar,newRow]) s1 s2 (Lq r _ _ 0)
  ·simp [T.leaf] at Z
 case build t parts=>
  split at h
  ·rename_i ps hps;obtain⟨e1,rfl⟩:=jv h;have hpr:=zL sr hps;obtain⟨x,U,Z⟩:=T4 (w:=w) (ps:=parts.map fun p=>(p.1,a.eval p.2)) da (by simpa using hpr) e1;exact l8.pure hp r (u:=x) (by simp [execOp,U]) Z
  ·simp [T.leaf] at h
 case buildSlice t len parts=>
  split at h
  ·rename_i ps hps;obtain⟨H,e1,rfl⟩:=qW h;have hpr:=zL sr hps;obtain⟨x,w',E',U,Z,h3,h4⟩:=ED (ps:=parts.map fun p=>(p.1,a.eval p.2)) da r (by simpa using hpr) e1;exact l8.heap hp (u:=x) (by simp [execOp,U]) Z h3 h4
  ·simp [T.leaf] at h
 case makeSlice t l c=>
  obtain⟨u,U,Z⟩:=ib sr h;split at Z
  ·rename_i cv hc;split at Z
   ·rename_i q hq;obtain⟨H,e1,rfl⟩:=qW Z;simp only [ah] at e1;subst e1;obtain⟨x,w',E',g1,g2,g3,g4⟩:=xe da r U (iw sr hc) hq;exact l8.heap hp (u:=x) (by simp [execOp,g1]) g2 g3 g4
   ·obtain⟨q1,q2,x,w',E',g1,g2,g3,g4⟩:=TP da r hp U (iw sr hc) Z;exact⟨q1,q2,tm.value (by simp [execOp,g1]) ⟨E',g2,g3,g4⟩⟩
  ·simp [T.leaf] at Z
 case insert t m k x=>
  obtain⟨u,U,Z⟩:=ib sr h;split at Z
  ·rename_i kv xv hk hx;split at Z
   ·obtain⟨q1,q2,rfl,w',E',g1,g2,g3⟩:=Ka (P:=P) da r hp U (iw sr hk) (iw sr hx) Z;exact⟨q1,q2,tm.skip (by simp [execOp,g1]) ⟨E',g2,g3,pr⟩⟩
   obtain⟨fy,gC,Z⟩:=sq hp Z;obtain⟨H,e1,rfl,rfl⟩:=AD Z;obtain⟨w',g1,g2,g3⟩:=xd da gC r U (iw sr hk) (iw sr hx) e1;exact⟨rfl,gC,tm.skip (by simp [execOp,g1]) ⟨E,g2,g3,pr⟩⟩
  ·simp [T.leaf] at Z
 case load t x=>
  obtain⟨u,U,Z⟩:=ib sr h;split at Z
  ·obtain⟨q1,q2,q3,y,b,off,g1,g2,g3⟩:=TR da r hp U Z;exact⟨q1,q3,tm.value (u:=y) (by simp [execOp,Instr.loadAt,g1,Instr.sureAddr,g2]) ⟨E,by rw [q2]; exact fm.refl _ _ _,by rw [q2]; exact r,g3⟩⟩
  obtain⟨e1,rfl⟩:=jv Z;obtain⟨y,b,off,g1,g2,g3⟩:=Da da r U e1;exact l8.pure hp r (u:=y) (by simp [execOp,Instr.loadAt,g1,Instr.sureAddr,g2]) g3
 case store t x y=>
  obtain⟨u,U,Z⟩:=ib sr h;split at Z
  ·rename_i yv hy;obtain⟨yv',fy,gC,Tf,Z⟩:=aeq hp (iw sr hy) Z;split at Z
   ·obtain⟨q1,q2,rfl,w',E',g1,g2,g3⟩:=Ps da (s:={ s with pc:=fy }) r gC U Tf Z;exact⟨q1,q2,tm.skip (by simp [execOp,g1]) ⟨E',g2,g3,pr⟩⟩
   obtain⟨H,e1,rfl,rfl⟩:=AD Z;obtain⟨w',g1,g2,g3⟩:=TJ da r U Tf e1;exact⟨rfl,gC,tm.skip (by simp [execOp,g1]) ⟨E,g2,g3,pr⟩⟩
  ·simp [T.leaf] at Z
 case nilCheck x=>
  obtain⟨u,U,Z⟩:=ib sr h;split at Z
  ·have:=bE Z;simp only [ak] at this;obtain⟨rfl,rfl⟩:=this;have Iw:=U;simp only [VR] at U;exact l8.pure hp r (u:=a.eval x) (by simp [execOp,U.1]) Iw
  ·have:=bE Z;simp only [ak] at this;obtain⟨rfl,rfl⟩:=this;have Iw:=U;simp only [VR] at U;obtain⟨b,off,us,hu,_⟩:=U;exact l8.pure hp r (u:=a.eval x) (by simp [execOp,hu]) Iw
  ·have:=bE Z;simp only [ak] at this;obtain⟨rfl,rfl⟩:=this;have Iw:=U;simp only [VR] at U;obtain⟨_,k,_,hu⟩:=U;exact l8.pure hp r (u:=a.eval x) (by simp [execOp,hu]) Iw
  ·simp [T.leaf] at Z
 case binOp bop t x y yt=>
  obtain⟨u,U,Z⟩:=ib sr h;split at Z
  ·rename_i yv hy;have Tf:=iw sr hy;split at Z
   ·rename_i xs;simp only [VR] at U;obtain⟨us,OY,U⟩:=U;split at Z
    ·rename_i ys;simp only [VR] at Tf;obtain⟨vs,QY,Tf⟩:=Tf;split at Z
     ·rename_i c O7;have:=bE Z;simp only [ak] at this;obtain⟨rfl,rfl⟩:=this;obtain⟨g1,g2,g3⟩:=Hh (w:=w) da U Tf O7 .eql x y;exact l8.pure hp r (u:=.bool (c.den E.ρ)) (by simp [execOp,OY,QY,g1,g2]) (by simp only [VR])
     ·simp [T.leaf] at Z
    ·rename_i ys;simp only [VR] at Tf;obtain⟨vs,QY,Tf⟩:=Tf;split at Z
     ·rename_i c O7;have:=bE Z;simp only [ak] at this;obtain⟨rfl,rfl⟩:=this;obtain⟨g1,g2,g3⟩:=Hh (w:=w) da U Tf O7 .neq x y;exact l8.pure hp r (u:=.bool (!(c.den E.ρ))) (by simp [execOp,OY,QY,g1,g3]) (by simp only [VR,oB])
     ·simp [T.leaf] at Z
    ·simp [T.leaf] at Z
   ·split at Z
    ·rename_i e hna;obtain⟨q1,q2,q3,y',g1,g2,g3,g4⟩:=afV (P:=P) (w:=w) da hna U Tf hp Z;exact⟨q1,q3,tm.value (u:=y') (by simp [execOp,xh (P:=P) (w:=w) g3 g4,g1]) ⟨E,by rw [q2]; exact fm.refl _ _ _,by rw [q2]; exact r,g2⟩⟩
    split at Z
    ·rename_i k e d hrl;obtain⟨rfl,hu1,hu2⟩:=Yh hrl U Tf;obtain⟨q1,q2,q3,jK,q4⟩:=afG hp Z;refine⟨q1,q3,tm.value (u:=.int k ((e.den E.ρ).tmod (d.den E.ρ))) (w':=w) ?_ ⟨E,by rw [q2]; exact fm.refl _ _ _,by rw [q2]; exact r,q4 _⟩⟩;simp [execOp,hu1,hu2,binOp,Op.intDiv,jK,eqGuard]
    split at Z
    ·rename_i x' y' hsp;obtain⟨q1,q2,q3,⟨y'',g1,g2⟩,g3,g4⟩:=Y5 (P:=P) (w:=w) (t:=t) hp U Tf hsp Z;exact⟨q1,q3,tm.value (u:=y'') (by simp [execOp,xh (P:=P) (w:=w) g3 g4,g1]) ⟨E,by rw [q2]; exact fm.refl _ _ _,by rw [q2]; exact r,g2⟩⟩
    ·obtain⟨e1,rfl⟩:=jv Z;obtain⟨⟨y',g1,g2⟩,g3,g4⟩:=abV (w:=w) da U Tf e1;exact l8.pure hp r (u:=y') (by simp [execOp,xh (P:=P) (w:=w) g3 g4,g1]) g2
  ·simp [T.leaf] at Z
 case unOp uop t x=>
  obtain⟨u,U,Z⟩:=ib sr h;obtain⟨e1,rfl⟩:=jv Z;obtain⟨y,g1,g2⟩:=agt (P:=P) (w:=w) U e1;exact l8.pure hp r (u:=y) (by simp [execOp,g1]) g2
 case convert sT dT x=>
  obtain⟨u,U,Z⟩:=ib sr h;split at Z
  ·obtain⟨q1,q2,y,w',E',g1,g2,g3,g4⟩:=T3 (P:=P) da r hp U Z;exact⟨q1,q2,tm.value (u:=y) (by simp [execOp,g1]) ⟨E',g2,g3,g4⟩⟩
  obtain⟨H,e1,rfl⟩:=qW Z;obtain⟨y,w',E',g1,g2,g3,g4⟩:=BG da r U e1;exact l8.heap hp (u:=y) (by simp [execOp,g1]) g2 g3 g4
 case makeFunc fn fs cs=>
  split at h
  ·rename_i f c hf hcs;have:=bE h;simp only [ak] at this;obtain⟨rfl,rfl⟩:=this;have U:=L5 sr hf;have Z:=L5 sr hcs;refine l8.pure hp r (u:=.func fn (fs.map a.eval) (cs.map a.eval)) (by simp [execOp,Instr.makeFunc]) ?_;simp only [VR];have m1:fs.map a.eval=(fs.toList.map a.eval).toArray:=M3 _ _;have m2:cs.map a.eval=(cs.toList.map a.eval).toArray:=M3 _ _;exact⟨_,_,by rw [m1,m2],U,Z⟩
  ·simp [T.leaf] at h
 case makeMap t res=>
  split at h
  ·split at h
   ·rename_i m hm;have:=bE h;simp only [ak] at this;obtain⟨rfl,rfl⟩:=this
    obtain⟨s1,s2⟩:=AR r (.map #[] 0) (.mh (.eS (.i 0)) m) 0 (w':={ w with heap:=w.heap.push (.map #[] 0) }) rfl ⟨rfl,rfl,rfl⟩ (by
     simp only [OR,En.ext_θ_new]
     exact⟨#[],0,ad,by simp [l9,W.den,bG,D.l]⟩)
    exact l8.heap hp (u:=.map (some w.heap.size)) (by simp [execOp,Instr.makeMap]) s1 s2 (by simp only [VR,En.ext_θ_new]; exact⟨trivial,En.iH _ _ _ _⟩)
   have:=bE h;simp only [ak] at this;obtain⟨rfl,rfl⟩:=this
   obtain⟨s1,s2⟩:=AR r (.map #[] 0) (.map [] 0) 0 (w':={ w with heap:=w.heap.push (.map #[] 0) }) rfl ⟨rfl,rfl,rfl⟩ (by
    simp only [OR,En.ext_θ_new]
    exact⟨#[],0,ad,by simp [eZ]⟩)
   exact l8.heap hp (u:=.map (some w.heap.size)) (by simp [execOp,Instr.makeMap]) s1 s2 (by simp only [VR,En.ext_θ_new]; exact⟨trivial,En.iH _ _ _ _⟩)
  ·simp [T.leaf] at h
 case slice t x lo hi mx=>
  obtain⟨u,U,Z⟩:=ib sr h;split at Z
  ·rename_i l hh m Y hhh hm;split at Z
   ·obtain⟨q1,q2,q3,y,g1,g2⟩:=TX (w:=w) da hp U (fF sr Y) (fF sr hhh) (fF sr hm) Z;exact⟨q1,q3,tm.value (u:=y) (by simp [execOp,g1]) ⟨E,by rw [q2]; exact fm.refl _ _ _,by rw [q2]; exact r,g2⟩⟩
   ·obtain⟨q1,q2,q3,y,g1,g2⟩:=G7 da r hp (Vb U) (fF sr Y) (fF sr hhh) (fF sr hm) Z;exact⟨q1,q3,tm.value (u:=y) (by simp [execOp,g1]) ⟨E,by rw [q2]; exact fm.refl _ _ _,by rw [q2]; exact r,g2⟩⟩
   ·obtain⟨q1,q2,q3,y,g1,g2⟩:=G7 da r hp U (fF sr Y) (fF sr hhh) (fF sr hm) Z;exact⟨q1,q3,tm.value (u:=y) (by simp [execOp,g1]) ⟨E,by rw [q2]; exact fm.refl _ _ _,by rw [q2]; exact r,g2⟩⟩
   ·obtain⟨q1,q2,q3,y,g1,g2⟩:=TE (w:=w) da hp U (fF sr Y) (fF sr hhh) (fF sr hm) Z;exact⟨q1,q3,tm.value (u:=y) (by simp [execOp,g1]) ⟨E,by rw [q2]; exact fm.refl _ _ _,by rw [q2]; exact r,g2⟩⟩
   ·obtain⟨q1,q2,q3,y,g1,g2⟩:=TV (w:=w) da hp U (fF sr Y) (fF sr hhh) (fF sr hm) Z;exact⟨q1,q3,tm.value (u:=y) (by simp [execOp,g1]) ⟨E,by rw [q2]; exact fm.refl _ _ _,by rw [q2]; exact r,g2⟩⟩
   split at Z
   ·rename_i v' e1;have:=bE Z;simp only [ak] at this;obtain⟨rfl,rfl⟩:=this;obtain⟨y,g1,g2⟩:=TL (w:=w) da U (fF sr Y) (fF sr hhh) (fF sr hm) e1;exact l8.pure hp r (u:=y) (by simp [execOp,g1]) g2
   ·obtain⟨e1,rfl⟩:=jv Z;obtain⟨y,g1,g2⟩:=Pt (w:=w) da r U (fF sr Y) (fF sr hhh) (fF sr hm) e1;exact l8.pure hp r (u:=y) (by simp [execOp,g1]) g2
  ·simp [T.leaf] at Z
 case fieldAddr t x f=>
  obtain⟨u,U,Z⟩:=ib sr h;obtain⟨e1,rfl⟩:=jv Z;obtain⟨y,g1,g2⟩:=Hg (w:=w) da U e1;exact l8.pure hp r (u:=y) (by simp [execOp,g1]) g2
 case field t x f=>
  obtain⟨u,U,Z⟩:=ib sr h;obtain⟨e1,rfl⟩:=jv Z;obtain⟨y,g1,g2⟩:=TU (w:=w) da U e1;exact l8.pure hp r (u:=y) (by simp [execOp,g1]) g2
 case indexAddr t x i=>
  obtain⟨u,U,Z⟩:=ib sr h;split at Z
  ·rename_i iv hi;split at Z
   ·obtain⟨e1,rfl⟩:=jv Z;obtain⟨y,g1,g2⟩:=TS (w:=w) da hp U (iw sr hi) e1;exact l8.pure hp r (u:=y) (by simp [execOp,g1]) g2
   ·obtain⟨q1,q2,q3,y,g1,g2⟩:=TY (w:=w) da hp U (iw sr hi) Z;exact⟨q1,q3,tm.value (u:=y) (by simp [execOp,g1]) ⟨E,by rw [q2]; exact fm.refl _ _ _,by rw [q2]; exact r,g2⟩⟩
   ·obtain⟨q1,q2,q3,y,g1,g2⟩:=TD (w:=w) da hp U (iw sr hi) Z;exact⟨q1,q3,tm.value (u:=y) (by simp [execOp,g1]) ⟨E,by rw [q2]; exact fm.refl _ _ _,by rw [q2]; exact r,g2⟩⟩
   ·obtain⟨q1,q2,q3,y,g1,g2⟩:=TC (w:=w) da hp U (iw sr hi) Z;exact⟨q1,q3,tm.value (u:=y) (by simp [execOp,g1]) ⟨E,by rw [q2]; exact fm.refl _ _ _,by rw [q2]; exact r,g2⟩⟩
   ·rename_i pid po;split at Z
    ·rename_i n e hb;split at Z
     ·rename_i ho;subst ho;obtain⟨kd,ti,el,ie,rfl,b1,b2,b3,b4,b5⟩:=HO hb;obtain⟨fy,gC,t1,t2,h3⟩:=oX hp Z;have:=bE h3;simp only [ak] at this;obtain⟨rfl,rfl⟩:=this;have hiv:=iw sr hi;simp only [VR] at hiv;simp only [W.den] at t2;obtain⟨k,hk⟩ : ∃k:Nat,e.den E.ρ=(k:Int):=⟨(e.den E.ρ).toNat,J⟩;have gk:k<n:=by simp at t2; omega
      rw [hk] at hiv
      obtain⟨y,g1,g2⟩:=rE (P:=P) (w:=w) da (t:=t) (ix:=.int kd (.lit (Int.ofNat k))) U (by simp only [VR,W.den]; exact hiv) (v:=.ptr pid (0+k*ie.size)) (by
       unfold pL;simp only [kV,b1,b2,iT,b3,awY];rw [ag gk]
       rfl)
      refine⟨rfl,gC,tm.value (u:=y) (by simp [execOp,g1]) ⟨E,fm.refl _ _ _,r,?_⟩⟩;simp only [VR] at g2 ⊢;exact⟨g2.2,k,hk,by rw [g2.1,b4]; congr 3; omega⟩
     ·simp [T.leaf] at Z
    ·obtain⟨ix',fy,gC,Bd,Z⟩:=B0 hp (iw sr hi) Z;obtain⟨e1,rfl⟩:=jv Z;obtain⟨y,g1,g2⟩:=rE (w:=w) da U Bd e1;exact⟨rfl,gC,tm.value (u:=y) (by simp [execOp,g1]) ⟨E,fm.refl _ _ _,r,g2⟩⟩
   ·obtain⟨ix',fy,gC,Bd,Z⟩:=B0 hp (iw sr hi) Z;obtain⟨e1,rfl⟩:=jv Z;obtain⟨y,g1,g2⟩:=rE (w:=w) da U Bd e1;exact⟨rfl,gC,tm.value (u:=y) (by simp [execOp,g1]) ⟨E,fm.refl _ _ _,r,g2⟩⟩
  ·simp [T.leaf] at Z
 case index t x i=>
  obtain⟨u,U,Z⟩:=ib sr h;split at Z
  ·rename_i iv hi;split at Z
   ·obtain⟨q1,q2,q3,y,g1,g2⟩:=TF (w:=w) da hp U (iw sr hi) Z;exact⟨q1,q3,tm.value (u:=y) (by simp [execOp,g1]) ⟨E,by rw [q2]; exact fm.refl _ _ _,by rw [q2]; exact r,g2⟩⟩
   ·rename_i cs;split at Z
    ·rename_i n e hb;split at Z
     ·rename_i hn;have hn:=ay hn;obtain⟨kd,ti,el,ie,rfl,b1,b2,b3,b4,b5⟩:=HO hb;obtain⟨q1,q2,q3,k,kk,z,x',c1,c2,c3,rfl,c5⟩:=Pp hp Z;have hiv:=iw sr hi;simp only [VR] at hiv;rw [c1] at hiv;obtain⟨l,V⟩:=Dh c3
      obtain⟨y,g1,g2⟩:=zM (P:=P) (w:=w) da (t:=t) (ix:=.int kd (.lit (Int.ofNat k))) U (by simp only [VR,W.den]; exact hiv) (v:=.int kk (.lit z)) (by
       unfold BE;simp only [kV,b1,b2,b3];rw [ag J,b4,ax3,V]
       simp [partOf,b5])
      refine⟨q1,q3,tm.value (u:=y) (w':=w) (by simp [execOp,g1]) ⟨E,by rw [q2]; exact fm.refl _ _ _,by rw [q2]; exact r,?_⟩⟩;simp only [VR,W.den] at g2 ⊢;rw [g2,c5]
     ·simp [T.leaf] at Z
    ·obtain⟨ix',fy,gC,Bd,Z⟩:=B0 hp (iw sr hi) Z;obtain⟨e1,rfl⟩:=jv Z;obtain⟨y,g1,g2⟩:=zM (w:=w) da U Bd e1;exact⟨rfl,gC,tm.value (u:=y) (by simp [execOp,g1]) ⟨E,fm.refl _ _ _,r,g2⟩⟩
   obtain⟨ix',fy,gC,Bd,Z⟩:=B0 hp (iw sr hi) Z;obtain⟨e1,rfl⟩:=jv Z;obtain⟨y,g1,g2⟩:=zM (w:=w) da U Bd e1;exact⟨rfl,gC,tm.value (u:=y) (by simp [execOp,g1]) ⟨E,fm.refl _ _ _,r,g2⟩⟩
  ·simp [T.leaf] at Z
 case lookup t m k ok=>
  obtain⟨u,U,Z⟩:=ib sr h;split at Z
  ·rename_i kv hk;split at Z
   ·rename_i id e t' fU
    obtain⟨q1,q2,q3,y,g1,g2⟩:=TQ (P:=P) da r hp U (iw sr hk) fU Z;exact⟨q1,q3,tm.value (u:=y) (by simp [execOp,g1]) ⟨E,by rw [q2]; exact fm.refl _ _ _,by rw [q2]; exact r,g2⟩⟩
   obtain⟨fy,gC,Z⟩:=sq hp Z;obtain⟨e1,rfl⟩:=jv Z;obtain⟨y,g1,g2⟩:=Pw da gC r U (iw sr hk) e1;exact⟨rfl,gC,tm.value (u:=y) (by simp [execOp,g1]) ⟨E,fm.refl _ _ _,r,g2⟩⟩
  ·simp [T.leaf] at Z
 case mapUpdate t m k x=>
  obtain⟨u,U,Z⟩:=ib sr h;split at Z
  ·rename_i kv xv hk hx;split at Z
   ·obtain⟨q1,q2,rfl,w',E',g1,g2,g3⟩:=Ka (P:=P) da r hp U (iw sr hk) (iw sr hx) Z;exact⟨q1,q2,tm.skip (by simp [execOp,g1]) ⟨E',g2,g3,pr⟩⟩
   obtain⟨fy,gC,Z⟩:=sq hp Z;obtain⟨H,e1,rfl,rfl⟩:=AD Z;obtain⟨w',g1,g2,g3⟩:=xd da gC r U (iw sr hk) (iw sr hx) e1;exact⟨rfl,gC,tm.skip (by simp [execOp,g1]) ⟨E,g2,g3,pr⟩⟩
  ·simp [T.leaf] at Z
 case range t x=>
  obtain⟨u,U,Z⟩:=ib sr h;obtain⟨H,e1,rfl⟩:=qW Z;obtain⟨y,w',E',g1,g2,g3,g4⟩:=TM da r U e1;exact l8.heap hp (u:=y) (by simp [execOp,g1]) g2 g3 g4
 case next x isS=>
  obtain⟨u,U,Z⟩:=ib sr h;obtain⟨H,e1,rfl⟩:=qW Z;obtain⟨y,w',g1,g2,g3,g4⟩:=Y7 (P:=P) r U e1 type;exact l8.heap hp (u:=y) (by simp [execOp,g1]) g2 g3 g4
 case extract x i=>
  obtain⟨u,U,Z⟩:=ib sr h;split at Z
  ·rename_i vs;obtain⟨e1,rfl⟩:=jv Z;simp only [VR] at U;obtain⟨us,OY,U⟩:=U;obtain⟨y,g1,g2⟩:=U.nth e1;exact l8.pure hp r (u:=y) (by simp [execOp,Instr.extract,OY,g1]) g2
  ·simp [T.leaf] at Z
 case call c=>exact Zb da hc r sr hp rfl h
end
end
section
variable {E:En} {a a1 a2:Act} {s s1 s2:St} {w w1 w2:World} {h:Array Obj} {v:AV} {u:Value} {bC:Tr AV} {d:Option Nat}
section
variable {P:Program}
structure Fit [bN] (E:En) (s:St) (a:Act) (w:World):Prop where
 rel:bX E s.h w
 sr:SR E w.heap s.bC a
 pc:cA E.ρ s.pc
structure od [bN] (E:En) (s:St) (a:Act) (w:World) (s':St) (a':Act) (w':World):Prop where
 defers:a'.defers=a.defers
 size:a'.tmps.size=a.tmps.size
 step: ∃E',fm E s.h w E' s'.h w'/\Fit E' s' a' w'
theorem od.refl [bN] (f:Fit E s a w):od E s a w s a w:=⟨rfl,rfl,E,fm.refl _ _ _,f⟩
theorem SR.dq {E':En} {h':Array Obj} (k:kJ E h E' h') (sr:SR E h bC a):SR E' h' bC a:=by intro t v ht;obtain⟨u,U,Z⟩:=sr t v ht;exact⟨u,U,VR.dq k v u Z⟩
theorem SR.put (sr:SR E h bC a) {d:Nat} (V:d<a.tmps.size) (hv:VR E h v u):SR E h (bC.put d (some v)) (a.put (some d) u):=by
 intro t x ht;rw [Tr.bS] at ht;simp only [Act.put];split at ht
 ·rename_i e
  grind
 ·rename_i e;obtain⟨y,U,Z⟩:=sr t x ht
  grind
theorem SR.auY (sr:SR E h s.bC a) (V: ∀t,d=some t->t<a.tmps.size) (hv:VR E h v u):SR E h (s.N6 d v).bC (a.put d u):=by exact aho
theorem F4 (a:Act) (d:Option Nat) (u:Value):(a.put d u).tmps.size=a.tmps.size:=by cases d<;>simp [Act.put]
theorem put_defers (a:Act) (d:Option Nat) (u:Value):(a.put d u).defers=a.defers:=by cases d<;>rfl
theorem Z_ (s:St) (d:Option Nat) (v:AV):(s.N6 d v).h=s.h:=by cases d<;>rfl
theorem afz (s:St) (d:Option Nat) (v:AV):(s.N6 d v).pc=s.pc:=by cases d<;>rfl
theorem J6 [bN] {s':St} {w':World} (f:Fit E s a w) (hs:s'.bC=s.bC) (hp:cA E.ρ s'.pc) (h:QS E s w v s' u w') (V: ∀t,d=some t->t<a.tmps.size) :
 od E s a w (s'.N6 d v) (a.put d u) w':=by
 obtain⟨E',U,Z,h3⟩:=h;refine⟨put_defers _ _ _,F4 _ _ _,E',by rw [Z_]; exact U,⟨by rw [Z_]; exact Z,?_,by rw [afz,U.ρ]; exact hp⟩⟩;refine SR.auY ?_ V h3;rw [hs];exact f.sr.dq (U.keeps f.rel)
theorem od.trans [bN] (U:od E s a w s1 a1 w1) (Z: ∀E1,fm E s.h w E1 s1.h w1->Fit E1 s1 a1 w1->od E1 s1 a1 w1 s2 a2 w2):od E s a w s2 a2 w2:=by obtain⟨d1,z1,E1,Il,f1⟩:=U;obtain⟨d2,z2,E2,Nq,f2⟩:=Z E1 Il f1;exact ag9
theorem Gg [bN] {α:Type} {ops:Array Oper} {o:Oper} {f:St->Bool->T α} {r:α} (fit:Fit E s a w) (h:(xQ ops.toList s o f).leaf E.ρ=some r) :
 ∃fy,cA E.ρ fy/\(f { s with pc:=fy } (Region.wanted o (yielded ops a.tmps))).leaf E.ρ=some r:=by
 unfold xQ at h;unfold Region.wanted;split at h
 ·rename_i hg;rw [hg];exact⟨s.pc,fit.pc,h⟩
 ·rename_i j want hg;rw [hg];split at h
  ·rename_i oj hj;rw [dy,awV] at hj;split at h
   ·rename_i d V;split at h
    ·rename_i c hc;obtain⟨u,U,Z⟩:=fit.sr d _ hc;simp only [VR] at Z;subst Z;obtain⟨fy,gC,h3⟩:=dh fit.pc h;refine⟨fy,gC,?_⟩;have:yielded ops a.tmps j=some (c.den E.ρ):=by simp [yielded,hj,V,U]
     simp only [this];simpa using h3
    ·rename_i vs hc;obtain⟨u,U,Z⟩:=fit.sr d _ hc;simp only [VR] at Z;obtain⟨us,rfl,_⟩:=Z;refine⟨s.pc,fit.pc,?_⟩;have:yielded ops a.tmps j=none:=by simp [yielded,hj,V,U]
     simp only [this];simpa using h
    ·simp [T.leaf] at h
   ·simp [T.leaf] at h
  ·simp [T.leaf] at h
def apo (n:Nat) (ops:List Oper):Bool:=ops.all fun o=>match o.dst with |some d=>d<n|none=>true
theorem Hd [bN] {tt:TT} (da:eP P tt) {call:eQ} (hc:iR P call) {ops:Array Oper} {Q:Exit->Act->World->Prop}: ∀(rest:List Oper) (i:Nat) {E:En} {s s':St} {a:Act} {w:World},ops.toList.drop i=rest->
 (∀o∈rest,∀d,o.dst=some d->d<a.tmps.size)->Fit E s a w->(Pv tt call ops.toList rest s).leaf E.ρ=some s'->
 (∀a' w',od E s a w s' a' w'->Q .normal a' w')->wpOps P ops Q (List.range' i rest.length) a w
 |[],i,E,s,s',a,w,_,_,fit,h,hq=>by have:=bE h;subst this;exact hq a w (od.refl fit)
 |o::rest,i,E,s,s',a,w,hi,V,fit,h,hq=>by
  simp only [Pv] at h;obtain⟨fy,gC,U⟩:=Gg fit h
  have hoi:ops[i]?=some o:=by
   have:=congrArg (·[0]?) hi
   grind
  have aka:ops.toList.drop (i+1)=rest:=by have:=congrArg List.tail hi;simpa using this
  have Y3:Fit E { s with pc:=fy } a w:=⟨fit.rel,fit.sr,gC⟩;simp only [aT,List.range'_succ];show wpOps P ops Q (i::List.range' (i+1) rest.length) a w;simp only [wpOps,hoi];cases hw:Region.wanted o (yielded ops a.tmps)<;>rw [hw] at U
  ·simp only [aR,if_false] at U ⊢
   have DZ:od E s a w (St.N6 { s with pc:=fy } o.dst AV.undef) (a.put o.dst undef) w:=
    J6 (s':={ s with pc:=fy }) fit rfl gC ⟨E,fm.refl _ _ _,fit.rel,pr⟩ (V o ad)
   obtain⟨d1,z1,E1,Il,f1⟩:=DZ;refine Hd da hc rest (i+1) aka (fun o' GL d Nv=>by rw [z1]; exact V o' (by simp [GL]) d Nv) f1 (by rw [Il.ρ]; exact U) fun a' w' ht=>?_;exact aiC
  ·simp only [if_true] at U ⊢;left;obtain⟨⟨v,s1⟩,Z,h3⟩:=T.fA U;obtain⟨q1,q2,q3⟩:=WT da hc (o:=o) Y3.rel Y3.sr Y3.pc Z;refine q3 _ _ fun u w1 hu=>?_;have DZ:od E s a w (s1.N6 o.dst v) (a.put o.dst u) w1:=J6 (s:=s) (s':=s1) fit q1 q2 hu (V o ad);obtain⟨d1,z1,E1,Il,f1⟩:=DZ;refine Hd da hc rest (i+1) aka (fun o' GL d Nv=>by rw [z1]; exact V o' (by simp [GL]) d Nv) f1 (by rw [Il.ρ]; exact h3) fun a' w' ht=>?_;exact aiC
def ag1 [bN] (P:Program) (draw:List Oper->St->T St):Prop:=
 ∀(id:Nat) (ops:Array Oper) (E:En) (s s':St) (a:Act) (w:World) (Q:Exit->Act->World->Prop),(∀o∈ops.toList,∀d,o.dst=some d->d<a.tmps.size)->Fit E s a w->(draw ops.toList s).leaf E.ρ=some s'->
  (∀a' w',od E s a w s' a' w'->Q .normal a' w')->(Code.region id ops true).wp P Q a w
def xB [bN] (P:Program) (sK:Nat->List Oper->Bool) (draw:Nat->List Oper->St->T St):Prop:=
 ∀(id:Nat) (ops:Array Oper),sK id ops.toList=true->∀(E:En) (s s':St) (a:Act) (w:World) (Q:Exit->Act->World->Prop),(∀o∈ops.toList,∀d,o.dst=some d->d<a.tmps.size)->Fit E s a w->(draw id ops.toList s).leaf E.ρ=some s'->
  (∀a' w',od E s a w s' a' w'->Q .normal a' w')->(Code.region id ops true).wp P Q a w
def mZ (sK:Nat->List Oper->Bool) (n:Nat):Code->Bool
 | .region id ops d=>apo n ops.toList&&(!d||sK id ops.toList)
 | .seq a b=>mZ sK n a&&mZ sK n b
 | .cond _ a b=>mZ sK n a&&mZ sK n b
 | .block _ b=>mZ sK n b
 | .loop b=>mZ sK n b
 | .scope b=>mZ sK n b
 |_=>true
theorem agG {n m:Nat} {ops:List Oper} (h:apo n ops=true) (hm:n<=m): ∀o∈ops,∀d,o.dst=some d->d<m:=by
 intro o ho d V;unfold apo at h
 grind
def ze:Ex->Exit
 | .normal=> .normal
 | .exit id=> .exit id
 | .ret=> .ret
def apE [bN] (E:En) (s:St) (a:Act) (w:World) (e:Ex) (s':St) (x:Exit) (a':Act) (w':World):Prop:=x=ze e/\od E s a w s' a' w'
theorem od.comp [bN] {E1:En} (d1:a1.defers=a.defers) (z1:a1.tmps.size=a.tmps.size) (Il:fm E s.h w E1 s1.h w1) (Z:od E1 s1 a1 w1 s2 a2 w2):od E s a w s2 a2 w2:=by obtain⟨d2,z2,E2,Nq,f2⟩:=Z;exact ag9
def aeQ [bN] (P:Program) (c:Code) (n:Nat) (f:St->T (Ex×St)):Prop:=
 ∀(E:En) (s s':St) (e:Ex) (a:Act) (w:World),n<=a.tmps.size->Fit E s a w->(f s).leaf E.ρ=some (e,s')->c.wp P (apE E s a w e s') a w
theorem He {ρ:Nat->Int} {f:St->T (Ex×St)}: ∀(k:Nat) {s s':St} {e:Ex},(xf f k s).leaf ρ=some (e,s')->e≠.normal
 |0,s,s',e,h=>by simp [xf,T.leaf] at h
 |k+1,s,s',e,h=>by
  simp only [xf] at h;obtain⟨⟨e1,s1⟩,U,Z⟩:=T.fA h
  cases e1 with
  |normal=>exact He k Z
  |exit id=>have:=bE Z; simp only [ak] at this; rw [<- this.1]; simp
  |ret=>have:=bE Z; simp only [ak] at this; rw [<- this.1]; simp
theorem Kc [bN] {c:Code} {n:Nat} {f:St->T (Ex×St)} (hf:aeQ P c n f): ∀(k:Nat) {E:En} {s s':St} {e:Ex} {a:Act} {w:World},n<=a.tmps.size->Fit E s a w->(xf f k s).leaf E.ρ=some (e,s')->
 ∀(Q:Exit->Act->World->Prop),(∀a' w',od E s a w s' a' w'->Q (ze e) a' w')->e≠.normal/\Code.rounds P c Q k a w
 |0,E,s,s',e,a,w,_,_,h,_,_=>by simp [xf,T.leaf] at h
 |k+1,E,s,s',e,a,w,hn,fit,h,Q,hq=>by
  simp only [xf] at h;obtain⟨⟨e1,s1⟩,U,Z⟩:=T.fA h;have hw:=hf E s s1 e1 a w hn fit U;rw [rounds_succ]
  cases e1 with
  |normal=>
   simp only at Z;constructor
   ·exact He k Z
   ·refine wp_mono hw fun x a1 w1 ⟨hx,ht⟩=>?_;subst hx;obtain⟨d1,z1,E1,Il,f1⟩:=ht;exact (Kc hf k (by rw [z1]; exact hn) f1 (by rw [Il.ρ]; exact Z) Q fun a' w' ht'=>hq a' w' (ht'.comp d1 z1 Il)).2
  |exit id=> exact ap7
  |ret=> exact ap7
theorem lF [bN] {tt:TT} (da:eP P tt) {call:eQ} (hc:iR P call) {draw:Nat->List Oper->St->T St} {sK:Nat->List Oper->Bool} (C3:xB P sK draw) {lf n:Nat}: ∀(c:Code),mZ sK n c=true->aeQ P c n (jD tt call draw lf c)
 | .skip,_,E,s,s',e,a,w,_,fit,h=>by have:=bE h;simp only [ak] at this;obtain⟨rfl,rfl⟩:=this;exact wp_skip ⟨rfl,od.refl fit⟩
 | .region id ops d,oa,E,s,s',e,a,w,hn,fit,h=>by
   simp only [jD] at h;simp only [mZ,an] at oa;have V:=agG oa.1 hn;cases d
   ·simp only [aR,if_false] at h;obtain⟨s1,U,Z⟩:=T.fA h;have:=bE Z;simp only [ak] at this;obtain⟨rfl,rfl⟩:=this;refine wp_region ?_;have:=Hd (Q:=apE E s a w .normal s1) da hc ops.toList 0 ad V fit U (fun a' w' ht=> ⟨rfl,ht⟩);rw [List.range_eq_range']
    grind
   ·simp only [if_true] at h;obtain⟨s1,U,Z⟩:=T.fA h;have:=bE Z;simp only [ak] at this;obtain⟨rfl,rfl⟩:=this;exact C3 id ops (by simpa using oa.2) E s s1 a w _ V fit U (fun a' w' ht=> ⟨rfl,ht⟩)
 | .seq x y,oa,E,s,s',e,a,w,hn,fit,h=>by
   simp only [mZ,an] at oa;simp only [jD] at h;obtain⟨⟨e1,s1⟩,U,Z⟩:=T.fA h;refine wp_seq (wp_mono (lF da hc C3 x oa.1 E s s1 e1 a w hn fit U) fun q a1 w1 ⟨hx,ht⟩=>?_);subst hx
   cases e1 with
   |normal=> simp only at Z;obtain⟨d1,z1,E1,Il,f1⟩:=ht;refine wp_mono (lF da hc C3 y oa.2 E1 s1 s' e a1 w1 (by rw [z1]; exact hn) f1 (by rw [Il.ρ]; exact Z)) fun q a2 w2 ⟨hx,ht'⟩=>?_;exact⟨hx,ht'.comp d1 z1 Il⟩
   |exit id=> exact aeW
   |ret=> exact aeW
 | .cond c x y,oa,E,s,s',e,a,w,hn,fit,h=>by
   simp only [mZ,an] at oa;simp only [jD] at h;split at h
   ·rename_i cb hcb;have hv:=iw fit.sr hcb;simp only [VR] at hv;obtain⟨fy,gC,U⟩:=dh fit.pc h;have Y3:Fit E { s with pc:=fy } a w:=⟨fit.rel,fit.sr,gC⟩;refine wp_cond hv ?_;cases Rc:cb.den E.ρ<;>rw [Rc] at U
    ·simp only [aR,if_false] at U ⊢;exact wp_mono (lF da hc C3 y oa.2 E _ s' e a w hn Y3 U) fun q a2 w2 ⟨hx,ht⟩=> ⟨hx,ht.defers,ht.size,ht.step⟩
    ·simp only [if_true] at U ⊢;exact wp_mono (lF da hc C3 x oa.1 E _ s' e a w hn Y3 U) fun q a2 w2 ⟨hx,ht⟩=> ⟨hx,ht.defers,ht.size,ht.step⟩
   ·simp [T.leaf] at h
 | .block id b,oa,E,s,s',e,a,w,hn,fit,h=>by
   simp only [mZ] at oa;simp only [jD] at h;obtain⟨⟨e1,s1⟩,U,Z⟩:=T.fA h;refine wp_block (wp_mono (lF da hc C3 b oa E s s1 e1 a w hn fit U) fun q a1 w1 ⟨hx,ht⟩=>?_);subst hx
   cases e1 with
   |normal=> exact aeW
   |exit j=>
    have:=bE Z;simp only [ak] at this;obtain⟨rfl,rfl⟩:=this;simp only [ze,Exit.inBlock];by_cases hj:j=id
    ·rw [ag hj,ag hj]; exact⟨rfl,ht⟩
    ·rw [af hj,af hj]; exact⟨rfl,ht⟩
   |ret=> exact aeW
 | .loop b,oa,E,s,s',e,a,w,hn,fit,h=>by simp only [mZ] at oa;simp only [jD] at h;exact wp_loop_rounds lf (Kc (lF da hc C3 b oa) lf hn fit h (apE E s a w e s') (fun a' w' ht=> ⟨rfl,ht⟩)).2
 | .exit id,_,E,s,s',e,a,w,_,fit,h=>by have:=bE h;simp only [ak] at this;obtain⟨rfl,rfl⟩:=this;exact wp_exit ⟨rfl,od.refl fit⟩
 | .scope b,oa,E,s,s',e,a,w,hn,fit,h=>by simp only [mZ] at oa;simp only [jD] at h;refine wp_scope_straight (wp_mono (lF da hc C3 b oa E s s' e a w hn fit h) fun q a1 w1 ⟨hx,ht⟩=>?_);subst hx;cases e<;>exact⟨rfl,ht⟩
 | .label l,_,E,s,s',e,a,w,_,fit,h=>by have:=bE h;simp only [ak] at this;obtain⟨rfl,rfl⟩:=this;exact wp_label ⟨rfl,od.refl fit⟩
 | .ret,_,E,s,s',e,a,w,_,fit,h=>by have:=bE h;simp only [ak] at this;obtain⟨rfl,rfl⟩:=this;exact wp_ret ⟨rfl,od.refl fit⟩
 | .rangeFunc _ _ _ _,_,E,s,s',e,a,w,_,fit,h=>by simp [jD,T.leaf] at h
 | .goto _,_,E,s,s',e,a,w,_,fit,h=>by simp [jD,T.leaf] at h
 | .refuse _,_,E,s,s',e,a,w,_,fit,h=>by simp [jD,T.leaf] at h
end
end
section
variable {E:En} {h:Array Obj} {vs:List AV}
section
variable {P:Program}
theorem OW: ∀(args:List AV) (i:Nat) (t:Tr AV) (k:Nat),(cj args i t).get k=if i<=k/\k<i+args.length then args[k-i]? else t.get k
 |[],i,t,k=>by
  have: ¬(i<=k/\k<i+([]:List AV).length):=ad
  rw [af this];rfl
 |v::vs,i,t,k=>by
  simp only [cj,OW vs (i+1),Tr.bS,aT]
  grind
theorem cP.get {E:En} {h:Array Obj}: ∀{vs:List AV} {us:List Value},cP E h vs us->∀(i:Nat) (v:AV),vs[i]?=some v->∃u,us[i]?=some u/\VR E h v u
 |[],us,hv,i,v,hi=>by simp at hi
 |x::xs,us,hv,i,v,hi=>by
  cases us with
  |nil=>simp [cP] at hv
  |cons y ys=>
   simp only [cP] at hv;obtain⟨u',iz,he,U,Z⟩:=hv;simp only [List.cons.injEq] at he;obtain⟨rfl,rfl⟩:=he
   cases i with
   |zero=>simp at hi; subst hi; exact⟨y,ad,U⟩
   |succ i=>simpa using cP.get Z i v (by simpa using hi)
theorem A8 {args:List AV} {vals:List Value} (hv:cP E h args vals) (n:Nat) :
 SR E h (cj args 0 .nil) { tmps:=vals.toArray++Array.replicate n undef,defers:=[] }:=by
 intro t v ht;rw [OW] at ht;split at ht
 ·rename_i hk;obtain⟨u,U,Z⟩:=cP.get hv t v (by simpa using ht)
  grind
 ·simp [Tr.get] at ht
def wF (a:Act):ResultVar->Sem Value
 | .tmp t=>pure (a.tmps.getD t undef)
 | .cell b t=>do loadVar t (<- asAddr (a.tmps.getD b undef))
def CC (vs:List AV):AV:=match vs with |[x]=>x|vs=> .tuple vs
theorem Jg (h: ∀v,vs= [v]->False):CC vs= .tuple vs:=by
 unfold CC
 grind
theorem ES {us:List Value} (g2:cP E h vs us):VR E h (CC vs) (if h:us.toArray.size=1 then us.toArray[0] else .tuple us.toArray):=by
 cases vs with
 |nil=> simp only [cP] at g2;subst g2;simp [CC,VR,cP]
 |cons x xs=>
  cases xs with
  |nil=> simp only [cP] at g2;obtain⟨u,iz,rfl,U,rfl⟩:=g2;simpa [CC] using U
  |cons x2 xs=>
   have g3:=g2;simp only [cP] at g2;obtain⟨u,iz,rfl,U,u2,us2,rfl,Z,h3⟩:=g2;have: ¬((u::u2::us2).toArray.size=1):=ad
   rw [dif_neg this];simp only [CC,VR]
   grind
theorem Pu [bN] {tt:TT} (da:eP P tt) {s:St} {a:Act} {w:World} (fit:Fit E s a w) {r:ResultVar} {v:AV} (h:BB tt s r=some v) :
 ∃u,(wF a r).run P w= .ok u w/\VR E w.heap v u:=by
 cases r with
 |tmp t=> simp only [BB] at h;obtain⟨u,U,Z⟩:=fit.sr t v h;exact⟨u,by simp [wF,U,axo],Z⟩
 |cell b t=>
  simp only [BB] at h;split at h
  ·rename_i p hp;obtain⟨u,U,Z⟩:=fit.sr b p hp;obtain⟨x,bb,o,rfl,h3,h4⟩:=Da da fit.rel Z h;exact⟨x,by simp [wF,U,axo,asAddr,h3],h4⟩
  grind
theorem u5 [bN] {tt:TT} (da:eP P tt) {E:En} {s:St} {a:Act} {w:World} (fit:Fit E s a w): ∀{rs:List ResultVar} {vs:List AV},lE tt s rs=some vs->
 ∃us,(rs.mapM (wF a)).run P w= .ok us w/\cP E w.heap vs us
 |[],vs,h=>by simp [lE] at h;subst h;exact⟨[],ad,by simp [cP]⟩
 |r::rs,vs,h=>by
  simp only [lE] at h;split at h
  ·grind
  ·rename_i v hv;split at h
   ·grind
   ·rename_i QT QY;simp at h;subst h;obtain⟨u,U,Z⟩:=Pu da fit hv;obtain⟨us,h3,h4⟩:=u5 da fit QY;refine⟨u::us,?_,by simp only [cP]; exact⟨u,us,rfl,Z,h4⟩⟩;rw [axJ];simp [Sem.run_bind,U,h3]
def ZK (P:Program) (sK:Nat->Nat->List Oper->Bool) (ft:Nat->Option Func):Prop:= ∀g fn,ft g=some fn->P.funcs[g]?=some fn/\(fn.name == "runtime.NumGoroutine")=false/\∀c,fn.body=some c->mZ (sK g) fn.ntmps c=true
theorem BF [bN] {tt:TT} (da:eP P tt) {sK:Nat->Nat->List Oper->Bool} {ft:Nat->Option Func} (hft:ZK P sK ft) {hook:Nat->Option (List AV->St->T (AV×St))} (hh: ∀g h,hook g=some h->kN P g h)
 {draw:eQ->Nat->Nat->List Oper->St->T St} (C3: ∀call,iR P call->∀g,xB P (sK g) (draw call g)) (lf:Nat): ∀(n:Nat),iR P (Mh tt ft hook draw lf n)
 |0=>by intro g args s E w vals v s' _ _ _ h;simp [Mh,T.leaf] at h
 |n+1=>by
  have ih:=BF da hft hh C3 lf n;intro g args s E w vals v s' r hv hp h;simp only [Mh] at h;split at h
  ·rename_i f hf;exact hh g f hf args s E w vals v s' r hv hp h
  ·split at h
   ·simp [T.leaf] at h
   ·rename_i fn vO;obtain⟨hf,mj,oa⟩:=hft g fn vO;split at h
    ·simp [T.leaf] at h
    ·rename_i c hb;obtain⟨⟨e,s1⟩,U,Z⟩:=T.fA h
     have fit:Fit E { s with bC:=cj args 0 .nil } { tmps:=vals.toArray++Array.replicate (fn.ntmps-vals.toArray.size) undef,defers:=[] } w:=
      ⟨r,A8 hv _,hp⟩
     have hwp:=lF da ih (C3 _ ih g) (lf:=lf) c (oa c hb) E _ s1 e _ w (by simp; omega) fit U
     have avA: ∃vs,lE tt s1 fn.results.toList=some vs/\(e= .normal\/e= .ret)/\s'= { s1 with bC:=s.bC }/\v=CC vs:=by
      cases e with
      |exit id=>simp [T.leaf] at Z
      |normal=>
       simp only at Z;split at Z
       ·rename_i x hx;have:=bE Z;simp only [ak] at this;exact⟨_,hx,.inl rfl,this.2.symm,this.1.symm⟩
       ·rename_i vs hn hx;have:=bE Z;simp only [ak] at this;refine⟨_,hx,.inl rfl,this.2.symm,?_⟩;rw [<- this.1];exact (Jg hn).symm
       ·simp [T.leaf] at Z
      |ret=>
       simp only at Z;split at Z
       ·rename_i x hx;have:=bE Z;simp only [ak] at this;exact⟨_,hx,.inr rfl,this.2.symm,this.1.symm⟩
       ·rename_i vs hn hx;have:=bE Z;simp only [ak] at this;refine⟨_,hx,.inr rfl,this.2.symm,?_⟩;rw [<- this.1];exact (Jg hn).symm
       ·simp [T.leaf] at Z
     obtain⟨vs,hr,he,rfl,rfl⟩:=avA
     have hpc:cA E.ρ s1.pc:=by
      obtain⟨_,_,_,⟨_,ht⟩,_⟩:=hwp default [] [];obtain⟨E1,Il,f1⟩:=ht.step;have:=f1.pc;rw [Il.ρ] at this
      grind
     refine⟨rfl,hpc,?_⟩
     have avX:Calls P g vals.toArray w fun e w''=> ∃u,e= .returned u/\QS E s w (CC vs) { s1 with bC:=s.bC } u w'':=by
      refine calls_of_wp hf hb (wp_mono hwp fun x a1 w1 ⟨hx,ht⟩=>?_);subst hx;obtain⟨d1,z1,E1,Il,f1⟩:=ht;obtain⟨us,g1,g2⟩:=u5 da f1 hr
      have: ∃u,(results fn a1.tmps).run P w1= .ok u w1/\VR E1 w1.heap (CC vs) u:=by
       refine⟨if h:us.toArray.size=1 then us.toArray[0] else .tuple us.toArray,?_,?_⟩
       ·have hm:(fn.results.mapM (wF a1)).run P w1= .ok us.toArray w1:=by
         exact aqM
        have vI:results fn a1.tmps=(do let vs <- fn.results.mapM (wF a1); pure (if h:vs.size=1 then vs[0] else .tuple vs)):=rfl;rw [vI];simp only [Sem.run_bind,hm];rfl
       ·exact ES g2
      obtain⟨u,g3,g4⟩:=this;rcases he with rfl|rfl
      ·exact⟨d1,u,g3,u,rfl,E1,Il,f1.rel,g4⟩
      ·exact⟨d1,u,g3,u,rfl,E1,Il,f1.rel,g4⟩
     have mK:(callFunc g vals.toArray).run P w= .ok (.enter g vals.toArray) w:=by unfold callFunc;simp [hf,hb,by simpa using mj]
     unfold mB pP
     grind
end
end
section
variable {H1 XM:Hp}
def Tr.over {α:Type}:Tr α->Tr α->Tr α
 | .nil,b=>b
 | .node v l r,b=> .node (match v with |some x=>some x|none=>b.val) (Tr.over l b.left) (Tr.over r b.right)
def Tr.minus {α:Type}:Tr α->Tr α->Tr α
 | .nil,b=>b
 | .node v l r,b=> .node (match v with |some _=>none|none=>b.val) (Tr.minus l b.left) (Tr.minus r b.right)
theorem Tr.GY {α:Type}: ∀(a b:Tr α) (k:Nat),(Tr.over a b).get k=match a.get k with |some x=>some x|none=>b.get k
 | .nil,b,k=>by simp [Tr.over,Tr.get]
 | .node v l r,b,k=>by
   simp only [Tr.over];rw [Tr.pJ,Tr.pJ,Tr.xY b k];by_cases h0:k=0
   ·grind
   ·simp only [af h0];by_cases U:(k-1) % 2=0
    ·simp only [ag U]; exact Tr.GY l b.left _
    ·simp only [af U]; exact Tr.GY r b.right _
theorem Tr.C8 {α:Type}: ∀(a b:Tr α) (k:Nat),(Tr.minus a b).get k=match a.get k with |some _=>none|none=>b.get k
 | .nil,b,k=>by simp [Tr.minus,Tr.get]
 | .node v l r,b,k=>by
   simp only [Tr.minus];rw [Tr.pJ,Tr.pJ,Tr.xY b k];by_cases h0:k=0
   ·grind
   ·simp only [af h0];by_cases U:(k-1) % 2=0
    ·simp only [ag U]; exact Tr.C8 l b.left _
    ·simp only [af U]; exact Tr.C8 r b.right _
structure XB (E:En) (H:Hp) (w:World) (E':En) (H':Hp) (w':World):Prop where
 ρ:E'.ρ=E.ρ
 dm: ∀id,E.dm id->E'.dm id
 θ: ∀id,E.dm id->E'.θ id=E.θ id
 κ: ∀id,E.dm id->E'.κ id=E.κ id
 ro: ∀b,E.ro b->E'.ro b
 DF: ∀b,E'.ro b->E.ro b\/(∃id o,H.get id=some o/\(E.θ id).1=b)\/w.heap.size<=b
 os:w'.os=w.os
 tape:w'.tape=w.tape
 output:w'.output=w.output
 size:w.heap.size<=w'.heap.size
 dq: ∀b,b<w.heap.size->(∀id o,H.get id=some o->(E.θ id).1≠b)->w'.heap[b]?=w.heap[b]?
 own: ∀id o,H'.get id=some o->(E'.θ id).1<w.heap.size->∃Ae o0,H.get Ae=some o0/\(E.θ Ae).1=(E'.θ id).1
section
variable {E E' E'':En} {H H' H'':Hp} {w w' w'':World}
theorem fm.auH (s:fm E H w E' H' w'):XB E H w E' H' w':=⟨s.ρ,s.dm,s.θ,s.κ,s.ro,s.DF,s.os,s.tape,s.output,s.size,s.dq,s.own⟩
theorem XB.X' (s:XB E H w E' H' w') (U:H.next<=H'.next) (Z:H'.res=none) (h3: ∀id,E'.dm id->E.dm id\/(H.next<=id/\id<H'.next)):fm E H w E' H' w':=
 ⟨s.ρ,s.dm,s.θ,s.κ,s.ro,s.DF,U,.inl Z,fun id h=>(h3 id h).elim .inl fun h=> .inr (.inl h),s.os,s.tape,s.output,s.size,s.dq,s.own⟩
theorem XB.trans (a:XB E H w E' H' w') (b:XB E' H' w' E'' H'' w''):XB E H w E'' H'' w'' where
 ρ:=b.ρ.trans a.ρ
 dm:=fun id h=>b.dm id (a.dm id h)
 θ:=fun id h=>(b.θ id (a.dm id h)).trans (a.θ id h)
 κ:=fun id h=>(b.κ id (a.dm id h)).trans (a.κ id h)
 ro:=fun x h=>b.ro x (a.ro x h)
 DF:=fun x h=>by
  rcases b.DF x h with h|⟨id,o,U,Z⟩|h
  ·exact a.DF x h
  ·rcases aX x w.heap.size with hx|hx
   ·obtain⟨Ae,o0,h3,h4⟩:=a.own id o U (by rw [Z]; exact hx);exact .inr (.inl ⟨Ae,o0,h3,h4.trans Z⟩)
   ·exact .inr (.inr hx)
  ·exact .inr (.inr (awP a.size h))
 os:=b.os.trans a.os
 tape:=b.tape.trans a.tape
 output:=b.output.trans a.output
 size:=awP a.size b.size
 dq:=fun x hx hn=>by rw [b.dq x (axf hx a.size) ?_,a.dq x hx hn];intro id o ho he;obtain⟨Ae,o0,h0,he0⟩:=a.own id o ho (by rw [he]; exact hx);exact hn Ae o0 h0 (he0.trans he)
 own:=fun id o ho gk=>by obtain⟨id1,o1,U,Ts⟩:=b.own id o ho (axf gk a.size);obtain⟨Ae,o0,h0,he0⟩:=a.own id1 o1 U (by rw [Ts]; exact gk);exact⟨Ae,o0,h0,he0.trans Ts⟩
theorem XB.keeps [bN] (s:XB E H w E' H' w') (r:bX E H w):kJ E w.heap E' w'.heap:=
 ⟨s.ρ,s.dm,s.θ,s.κ,s.ro,fun b hb=>s.dq b (r.wE b hb) fun id o ho he=>(r.live id o ho).2.2 (by rw [he]; exact hb)⟩
theorem bX.part [bN] (r:bX E H w) (sub: ∀id o,H1.get id=some o->H.get id=some o) (hn:H.next<=H1.next) (hr: ∀q,H1.res=some q->q<H1.next/\¬E.dm q):bX E H1 w:=
 ⟨fun id h=>r.fresh id (awP hn h),hr,fun id o h=>r.live id o (sub id o h),fun i j o o' h h' e=>r.inj i j o o' (sub _ _ h) (sub _ _ h') e,r.wE,r.mq⟩
theorem abP [bN] (r:bX E H w) (sub: ∀id o,H1.get id=some o->H.get id=some o) (st:fm E H1 w E' XM w') (r':bX E' XM w') (n:Nat) (hn: ∀id,n<=id->¬E'.dm id) :
 ∃H':Hp,H'=⟨Tr.over XM.m (Tr.minus H1.m H.m),n,none⟩/\(∀id o,XM.get id=some o->H'.get id=some o)/\(∀id o,H.get id=some o->H1.get id=none->H'.get id=some o)/\bX E' H' w'/\XB E H w E' H' w':=by
 have as5: ∀id o,H.get id=some o->H1.get id=none->XM.get id=none:=by
  intro id o h U
  cases Z:XM.get id with
  |none=>rfl
  |some o'=>
   exfalso;have V:=(r.live id o h).1;have hθ:=st.θ id V;obtain⟨Ae,o0,g1,g2⟩:=st.own id o' Z (by rw [hθ]; exact ic r h);have:=r.inj Ae id o0 o (sub _ _ g1) h (by rw [g2,hθ])
   grind
 have yy: ∀id,(⟨Tr.over XM.m (Tr.minus H1.m H.m),n,none⟩ : Hp).get id=match XM.get id with |some x=>some x|none=>match H1.get id with |some _=>none|none=>H.get id:=by
  intro id;simp only [Hp.get,Tr.GY,Tr.C8]
  grind
 have yO: ∀id o,(⟨Tr.over XM.m (Tr.minus H1.m H.m),n,none⟩ : Hp).get id=some o->XM.get id=some o\/(XM.get id=none/\H1.get id=none/\H.get id=some o):=by
  intro id o h
  grind
 have vy: ∀id o,H1.get id=none->H.get id=some o->w'.heap[(E.θ id).1]?=w.heap[(E.θ id).1]?:=by
  intro id o U h;refine st.dq _ (ic r h) fun Ae o0 h0 he=>?_;have:=r.inj Ae id o0 o (sub _ _ h0) h he
  grind
 have k:kJ E w.heap E' w'.heap:=⟨st.ρ,st.dm,st.θ,st.κ,st.ro,fun b hb=>st.dq b (r.wE b hb) fun id o ho he=>(r.live id o (sub _ _ ho)).2.2 (by rw [he]; exact hb)⟩;refine⟨_,rfl,fun id o h=>by rw [yy,h],fun id o h U=>by rw [yy,as5 id o h U,U]; exact h,⟨hn,ad,?_,?_,r'.wE,r'.mq⟩,⟨st.ρ,st.dm,st.θ,st.κ,st.ro,fun b hb=>(st.DF b hb).imp id (Or.imp (fun⟨i,o,U,Z⟩=> ⟨i,o,sub _ _ U,Z⟩) id),st.os,st.tape,st.output,st.size,?_,?_⟩⟩
 ·intro id o h;rcases yO id o h with U|⟨U,Z,h3⟩
  ·exact r'.live id o U
  ·obtain⟨g1,g2,g3⟩:=r.live id o h3;refine⟨st.dm id g1,g2.dq k g1 (vy id o Z h3),?_⟩;rw [st.θ id g1];intro hr;rcases st.DF _ hr with hr|⟨Ae,o0,f1,f2⟩|hr
   ·grind
   ·have:=r.inj Ae id o0 o (sub _ _ f1) h3 f2
    grind
   grind [ic]
 ·intro i j o o' h h' he;rcases yO i o h with U|⟨U,Z,h3⟩ <;>rcases yO j o' h' with g1|⟨g1,g2,g3⟩
  ·exact r'.inj i j o o' U g1 he
  ·exfalso;rw [st.θ j (r.live j o' g3).1] at he;obtain⟨Ae,o0,f1,f2⟩:=st.own i o U (by rw [he]; exact ic r g3);have:=r.inj Ae j o0 o' (sub _ _ f1) g3 (f2.trans he)
   grind
  ·exfalso;rw [st.θ i (r.live i o h3).1] at he;obtain⟨Ae,o0,f1,f2⟩:=st.own j o' g1 (by rw [<- he]; exact ic r h3);have:=r.inj Ae i o0 o (sub _ _ f1) h3 (f2.trans he.symm)
   grind
  ·rw [st.θ i (r.live i o h3).1,st.θ j (r.live j o' g3).1] at he;exact r.inj i j o o' h3 g3 he
 ·intro b hb sX;exact st.dq b hb fun id o h=>sX id o (sub _ _ h)
 ·intro id o h gk;rcases yO id o h with U|⟨U,Z,h3⟩
  ·obtain⟨Ae,o0,f1,f2⟩:=st.own id o U gk
   grind
  ·exact⟨id,o,h3,by rw [st.θ id (r.live id o h3).1]⟩
theorem frame [bN] (r:bX E H w) (sub: ∀id o,H1.get id=some o->H.get id=some o) (st:fm E H1 w E' XM w') (r':bX E' XM w') (n:Nat) (hn: ∀id,n<=id->¬E'.dm id) :
 ∃H':Hp,H'.next=n/\H'.res=none/\(∀id o,XM.get id=some o->H'.get id=some o)/\(∀id o,H.get id=some o->H1.get id=none->H'.get id=some o)/\bX E' H' w'/\XB E H w E' H' w':=by
 obtain⟨H',h0,U,Z,h3,h4⟩:=abP r sub st r' n hn
 grind
end
end
section
variable {a a0:Act} {E0:En} {w0 w:World} {i t:Nat} {Q:Exit->Act->World->Prop} {o:Oper} {K:Act->World->Prop} {u:Value} {s0:St}
section
variable {P:Program}
def H9 [bN] (P:Program) (ρ:Nat->Int) (ops:Array Oper) (o:Oper) (S:Tr AV) (H:Hp) (v:AV) (H':Hp):Prop:=
 ∀(E:En) (a:Act) (w:World),E.ρ=ρ->bX E H w->SR E w.heap S a->
  (Region.wanted o (yielded ops a.tmps)=false/\v=AV.undef/\H'=H)\/
  (Region.wanted o (yielded ops a.tmps)=true/\tm P o a w (fun u w'=> ∃E',fm E H w E' H' w'/\bX E' H' w'/\VR E' w'.heap v u))
theorem H9.wpOp [bN] {ρ:Nat->Int} {ops:Array Oper} {S:Tr AV} {H H':Hp} {v:AV} (h:H9 P ρ ops o S H v H') {E:En} (hρ:E.ρ=ρ) (r:bX E H w) (sr:SR E w.heap S a) (ho:ops[i]?=some o)
 (hk: ∀(u:Value) (E':En) (w':World),fm E H w E' H' w'->bX E' H' w'->VR E' w'.heap v u->K (a.put o.dst u) w'):wpOp P ops Q i K a w:=by
 unfold Go.wpOp;simp only [ho];rcases h E a w hρ r sr with ⟨U,rfl,rfl⟩|⟨U,Z⟩
 ·rw [U];simp only [aR,if_false];exact hk undef E w (fm.refl _ _ _) r pr
 ·rw [U];simp only [if_true];exact .inl (Z _ _ fun u w' ⟨E',q1,q2,q3⟩=>hk u E' w' q1 q2 q3)
inductive Kind where
 |pa
 |e
 |r
 deriving DecidableEq
structure H5 [bN] (P:Program) (ρ:Nat->Int) (ops:Array Oper) (qT:Tr AV) (H0:Hp) where
 base:Nat
 bf:Nat->Nat->Bool
 kd:Nat->Kind
 S:Nat->Tr AV
 val:Nat->AV
 st:Nat->Nat
 nE:Nat
 hp:Nat->Hp
 un:Nat->Nat->Bool
 n7:Nat->Option eL
 gen: ∀i j,bf i j=true->∃(o:Oper) (e:Edge),ops[j]?=some o/\e∈o.after/\Region.binds .any e=true/\(e.on=i\/bf i e.on=true)
 back: ∀(j:Nat) (o:Oper),ops[j]?=some o->∀e∈o.after,Region.binds .any e=true->e.on<j
 dst: ∀(i j:Nat) (oi oj:Oper) (d:Nat),ops[i]?=some oi->ops[j]?=some oj->oi.dst=some d->oj.dst=some d->i=j
 bC: ∀(i:Nat) (o:Oper),ops[i]?=some o->∀t x,(S i).get t=some x->(∃(j:Nat) (oj:Oper),bf j i=true/\ops[j]?=some oj/\oj.dst=some t/\val j=x)\/(qT.get t=some x/\∀(j:Nat) (oj:Oper),ops[j]?=some oj->oj.dst=some t->bf i j=true)
 stl: ∀(j:Nat) (o:Oper),ops[j]?=some o->kd j= .e->st j<nE
 inj: ∀i j,kd i= .e->kd j= .e->st i=st j->i=j
 arS: ∀(j:Nat) (o:Oper),ops[j]?=some o->kd j= .e->∀m,m<st j->∃i,kd i= .e/\st i=m/\bf i j=true
 pa: ∀(i:Nat) (o:Oper),ops[i]?=some o->kd i= .pa->∃HA N,H9 P ρ ops o (S i) ⟨.nil,N,some (base+i)⟩ (val i) HA/\HA.next=N/\n7 i=HA.get (base+i)/\∀k,k<=nE->(hp k).next<=N
 ev: ∀(j:Nat) (o:Oper),ops[j]?=some o->kd j= .e->∃NA,H9 P ρ ops o (S j) NA (val j) (hp (st j+1))/\NA.next=(hp (st j)).next/\NA.res=none/\
  (∀id x,NA.get id=some x->(hp (st j)).get id=some x\/∃a,bf a j=true/\un (st j) a=true/\id=base+a/\n7 a=some x)/\
  (∀a,un (st j+1) a=true->un (st j) a=true/\bf a j=false)
 rd: ∀(i:Nat) (o:Oper),ops[i]?=some o->kd i= .r->∀k,k<=nE->(∀j,kd j= .e->bf j i=true->st j<k)->(∀(j:Nat) (oj:Oper),ops[j]?=some oj->kd j= .e->bf i j=true->k<=st j)->
  ∃NA,H9 P ρ ops o (S i) NA (val i) NA/\NA.next=(hp k).next/\NA.res=none/\
   (∀id x,NA.get id=some x->(hp k).get id=some x\/∃a,bf a i=true/\un k a=true/\id=base+a/\n7 a=some x)
 unm: ∀k a x,k<=nE->n7 a=some x->un k a=true->(hp k).get (base+a)=none
 nob: ∀i,kd i≠.pa->n7 i=none
 first:base=H0.next/\base+ops.size<=(hp 0).next/\∀id x,(hp 0).get id=some x->H0.get id=some x
section
variable {gl:bN} {ρ:Nat->Int} {ops:Array Oper} {qT:Tr AV} {H0:Hp} (p:H5 P ρ ops qT H0)
structure H5.Inv (E0:En) (a0:Act) (w0:World) (L:Nat->Prop) (a:Act) (w:World):Prop where
 defers:a.defers=a0.defers
 size:a.tmps.size=a0.tmps.size
 closed: ∀i j,p.bf i j=true->L j->L i
 ex: ∃(E:En) (Hc:Hp) (k:Nat),k<=p.nE/\(∀(j:Nat) (o:Oper),ops[j]?=some o->p.kd j= .e->(L j↔p.st j<k))/\E.ρ=ρ/\XB E0 H0 w0 E Hc w/\bX E Hc w/\Hc.next=(p.hp k).next/\Hc.res=none/\
  p.base+ops.size<=Hc.next/\(∀id,E.dm id->E0.dm id\/H0.next<=id)/\(∀(i:Nat) (o:Oper),ops[i]?=some o->¬L i->¬E.dm (p.base+i))/\
  (∀id x,(p.hp k).get id=some x->Hc.get id=some x)/\(∀b x,L b->p.un k b=true->p.n7 b=some x->Hc.get (p.base+b)=some x)/\
  (∀t x,qT.get t=some x->(∀(j:Nat) (oj:Oper),ops[j]?=some oj->oj.dst=some t->¬L j)->∃u,a.tmps[t]?=some u/\VR E w.heap x u)/\
  (∀(j:Nat) (oj:Oper) (t:Nat),L j->ops[j]?=some oj->oj.dst=some t->∃u,a.tmps[t]?=some u/\VR E w.heap (p.val j) u)
theorem F5 {d:Option Nat} (h:d≠some t):(a.put d u).tmps[t]?=a.tmps[t]?:=by
 cases d with
 |none=>rfl
 |some x=>
  simp only [Act.put]
  grind
theorem afI (h:t<a.tmps.size):(a.put (some t) u).tmps[t]?=some u:=by simp [Act.put,h]
theorem H5.aud: ∀(j i:Nat),p.bf i j=true->i<j/\j<ops.size:=by
 intro j
 induction j using Nat.strongRecOn with
 |_ j ih=>
  intro i h;obtain⟨o,e,g1,g2,g3,g4⟩:=p.gen i j h;have gk:=p.back j o g1 e g2 g3
  grind
theorem H5.alD {j:Nat} (h:p.bf i j=true): ∃o:Oper,ops[i]?=some o:=by have:=p.aud j i h;exact⟨ops[i]'J,ad⟩
theorem H5.step {L:Nat->Prop} (V: ∀o∈ops.toList,∀d,o.dst=some d->d<a0.tmps.size) (inv:p.Inv E0 a0 w0 L a w) (ho:ops[i]?=some o) (hL: ¬L i)
 (hr: ∀e∈o.after,Region.binds .any e=true->L e.on) (hk: ∀a' w',p.Inv E0 a0 w0 (fun j=>j=i\/L j) a' w'->K a' w'):wpOp P ops Q i K a w:=by
 obtain⟨U,Z,vK,E,Hc,k,hkn,E7,hρ,QU,rel,hnx,vI,jn,Bf,hun,hhp,nZ,yM,Wy⟩:=inv
 have hbf: ∀j,p.bf j i=true->L j:=by
  intro j hj;obtain⟨o',e,g1,g2,g3,g4⟩:=p.gen j i hj;rw [ho] at g1;simp at g1;subst g1;have:=hr e g2 g3;rcases g4 with rfl|g4
  ·exact this
  ·exact vK j e.on g4 this
 have hii:p.bf i i≠true:=fun h=>hL (hbf i h);have sj:i<ops.size:=(axa.1 ho).1
 have sr:SR E w.heap (p.S i) a:=by
  intro t x ht;rcases p.bC i o ho t x ht with ⟨j,oj,g1,g2,g3,g4⟩|⟨g1,g2⟩
  ·subst g4;exact Wy j oj t (hbf j g1) g2 g3
  ·exact yM t x g1 fun j oj hj hjt hLj=>hL (vK i j (g2 j oj hj hjt) hLj)
 have GU: ∀x j,p.bf x j=true->(j=i\/L j)->(x=i\/L x):=by
  intro x j hx hj;rcases hj with rfl|hj
  ·exact .inr (hbf x hx)
  ·exact .inr (vK x j hx hj)
 have fin: ∀(u:Value) (E':En) (Ru:Hp) (w':World) (k':Nat),XB E Hc w E' Ru w'->bX E' Ru w'->VR E' w'.heap (p.val i) u->k'<=p.nE->(∀(j:Nat) (o:Oper),ops[j]?=some o->p.kd j= .e->((j=i\/L j)↔p.st j<k'))->
  Ru.next=(p.hp k').next->Ru.res=none->Hc.next<=Ru.next->(∀id,E'.dm id->E.dm id\/Hc.next<=id\/id=p.base+i)->(∀id x,(p.hp k').get id=some x->Ru.get id=some x)->
  (∀b x,(b=i\/L b)->p.un k' b=true->p.n7 b=some x->Ru.get (p.base+b)=some x)->K (a.put o.dst u) w':=by
  intro u E' Ru w' k' q1 q2 q3 q4 q5 q6 q7 q8 q9 q10 q11;have kp:=q1.keeps rel;refine hk _ _ ⟨by rw [As.put_defers]; exact U,by rw [F4]; exact Z,GU,E',Ru,k',q4,q5,q1.ρ.trans hρ,QU.trans q1,q2,q6,q7,awP jn q8,?_,?_,q10,q11,?_,?_⟩
  ·intro id h;rcases q9 id h with h|h|h
   ·exact Bf id h
   ·right;have:=p.first.1;omega
   ·right;have:=p.first.1;omega
  ·intro j oj hj hn hdj;have hj2:=(axa.1 hj).1;rcases q9 _ hdj with h|h|h
   ·exact hun j oj hj (fun h'=>hn (.inr h')) h
   ·omega
   ·exact hn (.inl J)
  ·intro t x ht sX;obtain⟨y,g1,g2⟩:=yM t x ht fun j oj hj hjt h'=>sX j oj hj hjt (.inr h');exact⟨y,by rw [F5 (fun e=>sX i o ho e (.inl rfl))]; exact g1,VR.dq kp _ _ g2⟩
  ·intro j oj t hj qL ht;by_cases hji:j=i
   ·subst hji;rw [ho] at qL;simp at qL;subst qL;rw [ht];exact⟨u,afI (by rw [Z]; exact V o (Array.mem_toList_iff.2 (ayr ho)) t ht),q3⟩
   ·obtain⟨y,g1,g2⟩:=Wy j oj t (hj.resolve_left hji) qL ht;refine⟨y,?_,VR.dq kp _ _ g2⟩;rw [F5]
    ·exact g1
    ·intro h;exact hji (p.dst j i oj o t qL ho ht h)
 cases sY:p.kd i with
 |pa=>
  obtain⟨HA,N,g1,g2,g3,g4⟩:=p.pa i o ho sY;have hN:=g4 k hkn;have avu:=hun i o ho hL
  have r1:bX E ⟨.nil,N,some (p.base+i)⟩ w:=rel.part (by intro id x h; simp [Hp.get,Tr.get] at h) (by show Hc.next<=N; omega) (by
   intro q hq;simp at hq;subst hq
   exact⟨by show p.base+i<N; omega,avu⟩)
  refine g1.wpOp hρ r1 sr ho fun u E' w' st r' hv=>?_
  have hdn: ∀id,E'.dm id->E.dm id\/id=p.base+i:=by
   intro id h;rcases st.dmn id h with h|h|h
   ·exact .inl h
   ·have h':N<=id/\id<HA.next:=h;omega
   ·have h':some (p.base+i)=some id:=h;simp at h';exact .inr h'.symm
  obtain⟨Ru,f1,f2,f3,f4,f5,f6⟩:=frame rel (by intro id x h; simp [Hp.get,Tr.get] at h) st r' Hc.next (fun id hid h=>by
   rcases hdn id h with h|h
   ·exact rel.fresh id hid h
   ·omega)
  refine fin u E' Ru w' k f6 f5 hv hkn ?_ (by rw [f1,hnx]) f2 J (fun id h=>(hdn id h).elim .inl fun h=> .inr (.inr h)) ?_ ?_
  ·intro j oj qL hj;rw [<- E7 j oj qL hj];constructor
   ·intro h;rcases h with rfl|h
    ·rw [sY] at hj; simp at hj
    ·exact h
   ·exact .inr
  ·intro id x h;exact f4 id x (hhp id x h) (by simp [Hp.get,Tr.get])
  ·intro b x hb hu hx;by_cases hbi:b=i
   ·subst hbi;rw [hx] at g3;exact f3 _ _ g3.symm
   ·exact f4 _ x (nZ b x (hb.resolve_left hbi) hu hx) (by simp [Hp.get,Tr.get])
 |e=>
  obtain⟨NA,g1,g2,g3,g4,g5⟩:=p.ev i o ho sY
  have YV:k<=p.st i:=by
   rcases aX (p.st i) k with h|h
   ·exact absurd ((E7 i o ho sY).2 h) hL
   ·exact h
  have hsk:p.st i=k:=by
   rcases aX k (p.st i) with h|h
   ·obtain⟨j,e1,e2,e3⟩:=p.arS i o ho sY k h;have hj:=hbf j e3;obtain⟨oj,qL⟩:=p.alD e3;have:=(E7 j oj qL e1).1 hj;omega
   ·omega
  rw [hsk] at g1 g2 g4 g5;have hkE:=p.stl i o ho sY
  have ra: ∀id x,NA.get id=some x->Hc.get id=some x:=by
   intro id x h;rcases g4 id x h with h|⟨b,e1,e2,rfl,e4⟩
   ·exact hhp id x h
   ·exact nZ b x (hbf b e1) e2 e4
  have r1:bX E NA w:=rel.part ra J (by rw [g3]; simp);refine g1.wpOp hρ r1 sr ho fun u E' w' st r' hv=>?_
  have hdn: ∀id,E'.dm id->E.dm id\/Hc.next<=id:=by
   intro id h;rcases st.dmn id h with h|h|h
   ·exact .inl h
   ·right; omega
   ·rw [g3] at h; simp at h
  obtain⟨Ru,f1,f2,f3,f4,f5,f6⟩:=frame rel ra st r' (p.hp (k+1)).next (fun id hid h=>r'.fresh id hid h)
  have awu:=st.nxm;refine fin u E' Ru w' (k+1) f6 f5 hv J ?_ f1 f2 J (fun id h=>(hdn id h).elim .inl fun h=> .inr (.inl h)) f3 ?_
  ·intro j oj qL hj;constructor
   ·intro h;rcases h with rfl|h
    ·omega
    ·have:=(E7 j oj qL hj).1 h;omega
   ·intro h;rcases aX (p.st j) k with h'|h'
    ·exact .inr ((E7 j oj qL hj).2 h')
    ·exact .inl (p.inj j i hj sY J)
  ·intro b x hb hu hx;obtain⟨e1,e2⟩:=g5 b hu;by_cases hbi:b=i
   ·subst hbi;rw [p.nob b (by rw [sY]; simp)] at hx;simp at hx
   ·refine f4 _ x (nZ b x (hb.resolve_left hbi) e1 hx) ?_
    cases hy:NA.get (p.base+b) with
    |none=>rfl
    |some y=>
     exfalso;rcases g4 _ y hy with h|⟨c,c1,c2,c3,c4⟩
     ·rw [p.unm k b x hkn hx e1] at h;simp at h
     ·have:c=b:=J
      subst this;rw [e2] at c1;simp at c1
 |r=>
  have Ra: ∀j,p.kd j= .e->p.bf j i=true->p.st j<k:=by intro j hj hb;obtain⟨oj,qL⟩:=p.alD hb;exact (E7 j oj qL hj).1 (hbf j hb)
  have GO: ∀(j:Nat) (oj:Oper),ops[j]?=some oj->p.kd j= .e->p.bf i j=true->k<=p.st j:=by
   intro j oj qL hj hb;rcases aX (p.st j) k with h|h
   ·exact absurd (vK i j hb ((E7 j oj qL hj).2 h)) hL
   ·exact h
  obtain⟨NA,g1,g2,g3,g4⟩:=p.rd i o ho sY k hkn Ra GO
  have ra: ∀id x,NA.get id=some x->Hc.get id=some x:=by
   intro id x h;rcases g4 id x h with h|⟨b,e1,e2,rfl,e4⟩
   ·exact hhp id x h
   ·exact nZ b x (hbf b e1) e2 e4
  have r1:bX E NA w:=rel.part ra J (by rw [g3]; simp);refine g1.wpOp hρ r1 sr ho fun u E' w' st r' hv=>?_
  have hdn: ∀id,E'.dm id->E.dm id:=by
   intro id h;rcases st.dmn id h with h|h|h
   ·exact h
   ·omega
   ·rw [g3] at h; simp at h
  obtain⟨Ru,f1,f2,f3,f4,f5,f6⟩:=frame rel ra st r' Hc.next (fun id hid h=>rel.fresh id hid (hdn id h))
  have C5: ∀id x,Hc.get id=some x->Ru.get id=some x:=by
   intro id x h
   cases h':NA.get id with
   |none=>exact f4 id x h h'
   |some y=> have:=ra id y h';rw [h] at this;simp at this;subst this;exact f3 id x h'
  refine fin u E' Ru w' k f6 f5 hv hkn ?_ (by rw [f1,hnx]) f2 J (fun id h=> .inl (hdn id h)) (fun id x h=>C5 id x (hhp id x h)) ?_
  ·intro j oj qL hj;rw [<- E7 j oj qL hj];constructor
   ·intro h;rcases h with rfl|h
    ·rw [sY] at hj; simp at hj
    ·exact h
   ·exact .inr
  ·intro b x hb hu hx;by_cases hbi:b=i
   ·subst hbi;rw [p.nob b (by rw [sY]; simp)] at hx;simp at hx
   ·exact C5 _ x (nZ b x (hb.resolve_left hbi) hu hx)
def left (l:Nat->Bool):Nat->Nat
 |0=>0
 |n+1=>left l n+(if l n then 0 else 1)
theorem V7 {l l':Nat->Bool} (h: ∀j,l j=true->l' j=true): ∀n,left l' n<=left l n
 |0=>au _
 |n+1=>by
  have:=V7 h n;simp only [left]
  grind
theorem V6 {l l':Nat->Bool} (h: ∀j,l j=true->l' j=true) {i:Nat} (U:l i=false) (Z:l' i=true): ∀n,i<n->left l' n<left l n
 |0,hi=>by omega
 |n+1,hi=>by
  have hle:=V7 h n;simp only [left];by_cases sj:i=n
  ·grind
  ·have:=V6 h U Z n J
   grind
theorem CV {l:Nat->Bool}: ∀n,left l n=0->∀i,i<n->l i=true
 |0,_,i,hi=>by omega
 |n+1,h,i,hi=>by
  simp only [left] at h;by_cases sj:i=n
  ·grind
  ·exact CV n J i J
theorem H5.Yi (q:H5 P ρ ops qT H0) {listed:Array Bool} (jl:listed.size=ops.size) (h:Region.ready .any ops listed= []): ∀i,i<ops.size->listed[i]?=some true:=by
 intro i
 induction i using Nat.strongRecOn with
 |_ i ih=>
  intro hi
  cases Y:listed[i]? with
  |none=>rw [ayH] at Y; omega
  |some b=>
   cases b with
   |true=>rfl
   |false=>
    exfalso;have ho:ops[i]?=some ops[i]:=by simp [hi]
    have:i∈Region.ready .any ops listed:=by rw [mem_ready];refine⟨by simp [Y],ops[i],ho,fun e he hb=>?_⟩;have gk:=q.back i _ ho e he hb;simp [ih e.on gk J]
    grind
theorem H5.any (V: ∀o∈ops.toList,∀d,o.dst=some d->d<a0.tmps.size) (hq: ∀a w,p.Inv E0 a0 w0 (fun i=>i<ops.size) a w->Q .normal a w) :
 ∀(fuel:Nat) (listed:Array Bool) (a:Act) (w:World),listed.size=ops.size->left (fun i=>listed.getD i true) ops.size<=fuel->p.Inv E0 a0 w0 (fun i=>listed[i]?=some true) a w->wpAny P .any ops Q fuel listed a w:=by
 have abA: ∀(listed:Array Bool) (a:Act) (w:World),listed.size=ops.size->p.Inv E0 a0 w0 (fun i=>listed[i]?=some true) a w->Region.ready .any ops listed= []->Q .normal a w:=by
  intro listed a w jl inv pC;have C5:=p.Yi jl pC;refine hq a w ?_
  have:(fun i=>listed[i]?=some true)=(fun i=>i<ops.size):=by
   grind
  grind
 intro fuel
 induction fuel with
 |zero=>
  intro listed a w jl WD inv;have C5:=CV (l:=fun i=>listed.getD i true) ops.size J
  have pC:Region.ready .any ops listed= []:=by
   rw [ax6];intro i hi;rw [mem_ready] at hi
   grind
  exact⟨pC,abA listed a w jl inv pC⟩
 |succ fuel ih=>
  intro listed a w jl WD inv;refine⟨abA listed a w jl inv,fun i hi=>?_⟩;rw [mem_ready] at hi;obtain⟨U,o,Z,h3⟩:=hi;have sj:=(axa.1 Z).1
  have vx:listed[i]?=some false:=by simp_all
  refine p.step V inv Z (by rw [vx]; simp) (fun e he hb=>?_) fun a' w' awy=>?_
  ·have:=h3 e he hb
   cases hc:listed[e.on]? with
   |none=>simp [hc] at this
   |some b=>simp [hc] at this; rw [this]
  ·refine ih _ a' w' (by simpa using jl) ?_ ?_
   ·have:=V6 (l:=fun j=>listed.getD j true) (l':=fun j=>(listed.setIfInBounds i true).getD j true) (i:=i) (fun j hj=>?_) U ?_ ops.size sj
    ·omega
    ·by_cases hij:i=j
     all_goals simp_all
    simp_all
   grind
theorem H5.start (hs:s0.bC=qT) (hh:s0.h=H0) (hρ:E0.ρ=ρ) (fit:Fit E0 s0 a0 w0) (listed:Array Bool) (Y: ∀(i:Nat),listed[i]?≠some true):p.Inv E0 a0 w0 (fun i=>listed[i]?=some true) a0 w0:=by
 subst hs hh;obtain⟨U,Z,h3⟩:=p.first;have rel:=fit.rel;have r1:bX E0 ⟨s0.h.m,(p.hp 0).next,none⟩ w0:=rel.part (fun id x h=>h) (by show s0.h.next<=(p.hp 0).next; omega) ad;refine⟨rfl,rfl,fun i j _ h=>absurd h (Y j),E0,⟨s0.h.m,(p.hp 0).next,none⟩,0,aw1 _,fun j o _ _=> ⟨fun h=>absurd h (Y j),fun h=>by omega⟩,hρ,?_,r1,rfl,rfl,Z,fun id h=> .inl h,?_,fun id x h=>h3 id x h,fun b x h=>absurd h (Y b),?_,fun j oj t h=>absurd h (Y j)⟩
 ·have:=(fm.refl E0 s0.h w0).auH;exact⟨this.ρ,this.dm,this.θ,this.κ,this.ro,this.DF,this.os,this.tape,this.output,this.size,this.dq,this.own⟩
 ·intro i o _ _ Bf;exact rel.fresh _ J Bf
 ·intro t x ht _;exact fit.sr t x ht
theorem H5.finish {s':St} (hh:s0.h=H0) (inv:p.Inv E0 a0 w0 (fun i=>i<ops.size) a w) (hpc:cA ρ s'.pc)
 (avx: ∀t x,s'.bC.get t=some x->(∃(j:Nat) (oj:Oper),ops[j]?=some oj/\oj.dst=some t/\p.val j=x)\/(qT.get t=some x/\∀(j:Nat) (oj:Oper),ops[j]?=some oj->oj.dst≠some t))
 (awv: ∀id x,s'.h.get id=some x->(p.hp p.nE).get id=some x\/∃b,b<ops.size/\p.un p.nE b=true/\id=p.base+b/\p.n7 b=some x)
 (akb:(p.hp p.nE).next=s'.h.next) (vI:s'.h.res=none) (C5: ∀(m:Nat),m<p.nE->∃(j:Nat) (o:Oper),ops[j]?=some o/\p.kd j= .e/\p.st j=m):od E0 s0 a0 w0 s' a w:=by
 subst hh;obtain⟨U,Z,vK,E,Hc,k,hkn,E7,hρ,QU,rel,hnx,Tn,jn,Bf,hun,hhp,nZ,yM,Wy⟩:=inv
 have hk:k=p.nE:=by
  rcases aX k p.nE with h|h
  all_goals grind
 subst hk
 have ra: ∀id x,s'.h.get id=some x->Hc.get id=some x:=by
  intro id x h
  grind
 have hf:=p.first.1;refine⟨U,Z,E,?_,rel.part ra J (by rw [vI]; simp),?_,by rw [hρ]; exact hpc⟩
 ·refine XB.X' ⟨QU.ρ,QU.dm,QU.θ,QU.κ,QU.ro,QU.DF,QU.os,QU.tape,QU.output,QU.size,QU.dq,fun id o h=>QU.own id o (ra id o h)⟩ J vI fun id h=>?_;rcases Bf id h with g|g
  ·grind
  ·right;refine⟨g,?_⟩;rcases aX id s'.h.next with g'|g'
   ·exact g'
   ·exact absurd h (rel.fresh id J)
 ·intro t x ht
  grind
end
end
end
end Go.As
end
section
namespace Go.As
noncomputable section
mutual
def eU:AV->AV->Bool
 | .bool a,.bool b=>pW a b
 | .int k a,.int l b=>decide (k=l)&&fH a b
 | .str a,.str b=>decide (a=b)
 | .ptr i o,.ptr j p=>decide (i=j)&&decide (o=p)
 | .vE,.vE=>true
 | .oC a,.oC b=>iV a b
 | .slice i o l c,.slice j p m d=>decide (i=j)&&decide (o=p)&&decide (l=m)&&decide (c=d)
 | .iC,.iC=>true
 | .ro a n f,.ro b m g=>iV a b&&decide (n=m)&&decide (f=g)
 | .map i,.map j=>decide (i=j)
 | .uC,.uC=>true
 | .func f a b,.func g c d=>decide (f=g)&&iV a c&&iV b d
 | .yq,.yq=>true
 | .iface t v,.iface u x=>decide (t=u)&&eU v x
 | .zu,.zu=>true
 | .agg a,.agg b=>iV a b
 | .tuple a,.tuple b=>iV a b
 | .Ou i,.Ou j=>decide (i=j)
 | .yL i a,.yL j b=>decide (i=j)&&decide (a=b)
 | .emp,.emp=>true
 | .eS a t,.eS b u=>fH a b&&Nat.beq t u
 | .kx a,.kx b=>fH a b
 | .rY i n t,.rY j m u=>Nat.beq i j&&fH n m&&Nat.beq t u
 | .BJ i a x o,.BJ j b y p=>Nat.beq i j&&Nat.beq a b&&fH x y&&Nat.beq o p
 | .vM i l n t,.vM j k m u=>Nat.beq i j&&fH l k&&fH n m&&Nat.beq t u
 | .any,.any=>true
 | .Aj a t,.Aj b u=>fH a b&&Nat.beq t u
 |_,_=>false
def iV:List AV->List AV->Bool
 |[],[]=>true
 |x::xs,y::ys=>eU x y&&iV xs ys
 |_,_=>false
end
mutual
theorem ly: ∀(x y:AV),eU x y=true->x=y
 | .bool a,y,h=>by cases y<;>simp [eU] at h<;>rw [tC _ _ h]
 | .int k a,y,h=>by cases y<;>simp [eU] at h<;>rw [h.1,dj _ _ h.2]
 | .str a,y,h=>by cases y<;>simp [eU] at h<;>simp [h]
 | .ptr i o,y,h=>by cases y<;>simp [eU] at h<;>simp [h]
 | .vE,y,h=>by cases y<;>simp [eU] at h<;>rfl
 | .oC a,y,h=>by cases y<;>simp [eU] at h; rw [fW _ _ h]
 | .slice i o l c,y,h=>by cases y<;>simp [eU] at h<;>simp [h]
 | .iC,y,h=>by cases y<;>simp [eU] at h<;>rfl
 | .ro a n f,y,h=>by cases y<;>simp [eU] at h; rw [fW _ _ h.1.1,h.1.2,h.2]
 | .map i,y,h=>by cases y<;>simp [eU] at h<;>simp [h]
 | .uC,y,h=>by cases y<;>simp [eU] at h<;>rfl
 | .func f a b,y,h=>by cases y<;>simp [eU] at h; rw [h.1.1,fW _ _ h.1.2,fW _ _ h.2]
 | .yq,y,h=>by cases y<;>simp [eU] at h<;>rfl
 | .iface t v,y,h=>by cases y<;>simp [eU] at h; rw [h.1,ly _ _ h.2]
 | .zu,y,h=>by cases y<;>simp [eU] at h<;>rfl
 | .agg a,y,h=>by cases y<;>simp [eU] at h; rw [fW _ _ h]
 | .tuple a,y,h=>by cases y<;>simp [eU] at h; rw [fW _ _ h]
 | .Ou i,y,h=>by cases y<;>simp [eU] at h<;>simp [h]
 | .yL i a,y,h=>by cases y<;>simp [eU] at h<;>simp [h]
 | .emp,y,h=>by cases y<;>simp [eU] at h<;>rfl
 | .eS a t,y,h=>by cases y<;>simp [eU] at h<;>rw [h.2,dj _ _ h.1]
 | .kx a,y,h=>by cases y<;>simp [eU] at h<;>rw [dj _ _ h]
 | .rY i n t,y,h=>by cases y<;>simp [eU] at h<;>rw [h.1.1,dj _ _ h.1.2,h.2]
 | .BJ i a x o,y,h=>by cases y<;>simp [eU] at h<;>rw [h.1.1.1,h.1.1.2,dj _ _ h.1.2,h.2]
 | .vM i l n t,y,h=>by cases y<;>simp [eU] at h<;>rw [h.1.1.1,dj _ _ h.1.1.2,dj _ _ h.1.2,h.2]
 | .any,y,h=>by cases y<;>simp [eU] at h<;>rfl
 | .Aj a t,y,h=>by cases y<;>simp [eU] at h<;>rw [h.2,dj _ _ h.1]
theorem fW: ∀(xs ys:List AV),iV xs ys=true->xs=ys
 |[],ys,h=>by cases ys<;>simp [iV] at h; rfl
 |x::xs,ys,h=>by
  cases ys with
  |nil=>simp [iV] at h
  |cons y ys=>simp [iV] at h; rw [ly _ _ h.1,fW _ _ h.2]
end
def Gf (o:Op):List Nat:=o.operands.toList.filterMap fun
 | .tmp t=>some t
 |_=>none
def reads (all:List Oper) (o:Oper):List Nat:=match o.guard with
 |none=>Gf o.op
 |some (j,_)=>match fI all j with
  |some oj=>match oj.dst with
   |some d=>d::Gf o.op
   |none=>Gf o.op
  |none=>Gf o.op
def kindOf (tt:TT):Op->Kind
 | .load _ _=> .r
 | .lookup _ _ _ _=> .r
 | .call c=>match c.callee with
   | .builtin b=>match b with
     | .len=> .r
     | .min=> .pa
     | .max=> .pa
     |_=> .e
   |_=> .e
 | .store _ _ _=> .e
 | .insert _ _ _ _=> .e
 | .mapUpdate _ _ _ _=> .e
 | .next _ _=> .e
 | .range _ _=> .e
 | .convert t u _=>match tt t with
   |some i=>match i.kind with
    | .slice _=>match tt u with
      |some j=>match j.kind with
       | .string=> .r
       |_=> .e
      |none=> .e
    |_=> .pa
   |none=> .e
 | .panic _=> .e
 |_=> .pa
def pM (ms:List Nat):List Edge->Nat
 |[]=>0
 |e::es=>if Region.binds .any e then ((1 <<<e.on)|||ms.getD e.on 0)|||pM ms es else pM ms es
def sD:List Oper->List Nat->List Nat
 |[],ms=>ms
 |o::os,ms=>sD os (ms++ [pM ms o.after.toList])
structure Item where
 i:Nat
 o:Oper
 m:Nat
 k:Kind
 st:Nat
 rd:List Nat
def items (tt:TT) (all:List Oper) (ms:List Nat):List Oper->Nat->Nat->List Item
 |[],_,_=>[]
 |o::os,i,n=> ⟨i,o,ms.getD i 0,kindOf tt o.op,n,reads all o⟩ ::items tt all ms os (i+1) (match kindOf tt o.op with | .e=>n+1|_=>n)
def Kind.isE:Kind->Bool
 | .e=>true
 |_=>false
def Kind.isR:Kind->Bool
 | .r=>true
 |_=>false
def zp (ms:List Nat) (is:List Item) (x:Item):Bool:=
 x.o.after.toList.all (fun e=>!Region.binds .any e||decide (e.on<x.i))&&
 decide (x.m=pM ms x.o.after.toList)&&
 x.rd.all (fun t=>is.all fun y=>decide (y.o.dst≠some t)||x.m.testBit y.i||(!x.k.isR&&y.m.testBit x.i))&&
 is.all (fun y=>decide (y.i=x.i)||(match y.o.dst with |some d=>decide (x.o.dst≠some d)|none=>true))&&
 (!x.k.isE||is.all fun y=>!y.k.isE||!decide (y.i<x.i)||x.m.testBit y.i)
def Cq (is:List Item) (n:Nat) (x:Item):List Nat:=
 (List.range (n+1)).filter fun k=>is.all fun y=>!y.k.isE||((!x.m.testBit y.i||decide (y.st<k))&&(!y.m.testBit x.i||decide (k<=y.st)))
structure Stat where
 is:List Item
 nE:Nat
 rs:List (Item×List Nat)
def kz:List Item->Nat
 |[]=>0
 |x::xs=>match x.k with | .e=>kz xs+1|_=>kz xs
def stat (tt:TT) (all:List Oper):Option Stat:=
 let ms:=sD all [];let is:=items tt all ms all 0 0
 if is.all (zp ms is) then
  some ⟨is,kz is,(is.filter (·.k.isR)).map fun x=>(x,Cq is (kz is) x)⟩
 else none
def only (bC:Tr AV):List Nat->Tr AV
 |[]=> .nil
 |t::ts=>match bC.get t with
  |some v=>(only bC ts).put t (some v)
  |none=>only bC ts
structure ZM where
 bC:Tr AV
 mO:List (Hp×Nat)
 iK:List (Nat×eL)
 DQ:List (Option eL)
 vs:List AV
def fQ (base bm mm:Nat):List (Nat×eL)->Hp->Hp
 |[],h=>h
 |(a,x)::r,h=>if bm.testBit a&&!mm.testBit a then (fQ base bm mm r h).put (base+a) x else fQ base bm mm r h
def ev1 (tt:TT) (call:eQ) (all:List Oper) (o:Oper) (s:St):T (AV×St):=
 xQ all s o fun s b=>if b then Me tt call s o.op else .ret (AV.undef,s)
def wu (bC:Tr AV) (d:Option Nat) (v:AV):Tr AV:=match d with
 |some t=>bC.put t (some v)
 |none=>bC
def ad5 (tt:TT) (call:eQ) (all:List Oper) (base N:Nat) (pc:List (SB×Bool)) (x:Item) (d:ZM):T ZM:=
 match d.mO with
 |[]=> .fail
 |(h,mm)::rest=>
  match x.k with
  | .pa=>(ev1 tt call all x.o ⟨only d.bC x.rd,⟨.nil,N,some (base+x.i)⟩,pc⟩).bind fun (v,s')=>
    if s'.h.next=N then
     .ret ⟨wu d.bC x.o.dst v,d.mO,match s'.h.get (base+x.i) with |some b=>(x.i,b)::d.iK|none=>d.iK,s'.h.get (base+x.i)::d.DQ,v::d.vs⟩
    else .fail
  | .e=>(ev1 tt call all x.o ⟨only d.bC x.rd,fQ base x.m mm d.iK h,pc⟩).bind fun (v,s')=>
    if s'.h.next<=N/\s'.h.res=none then
     .ret ⟨wu d.bC x.o.dst v,(s'.h,mm|||x.m)::(h,mm)::rest,d.iK,none::d.DQ,v::d.vs⟩
    else .fail
  | .r=>(ev1 tt call all x.o ⟨only d.bC x.rd,fQ base x.m mm d.iK h,pc⟩).bind fun (v,_)=>
    .ret ⟨wu d.bC x.o.dst v,d.mO,d.iK,none::d.DQ,v::d.vs⟩
def T.BZ {α β:Type} (pc:List (SB×Bool)) (f:List (SB×Bool)->α->T β):T α->T β
 | .fail=> .fail
 | .ret a=>f pc a
 | .split c x y=>match kI pc c with
   |some true=>T.BZ pc f x
   |some false=>T.BZ pc f y
   |none=> .split c (T.BZ ((c,true)::pc) f x) (T.BZ ((c,false)::pc) f y)
def Ze (tt:TT) (call:eQ) (all:List Oper) (base N:Nat):List Item->List (SB×Bool)->ZM->T (List (SB×Bool)×ZM)
 |[],pc,d=> .ret (pc,d)
 |x::xs,pc,d=>(ad5 tt call all base N pc x d).BZ pc (Ze tt call all base N xs)
def ET (tt:TT) (call:eQ) (all:List Oper) (base:Nat) (pc:List (SB×Bool)) (x:Item) (v:AV) (S:Tr AV) (iK:List (Nat×eL)) (mO:List (Hp×Nat)):List Nat->T Unit
 |[]=> .ret ()
 |k::ks=>match fI mO k with
  |some (h,mm)=>(ev1 tt call all x.o ⟨S,fQ base x.m mm iK h,pc⟩).bind fun (u,_)=>
   if eU u v then ET tt call all base pc x v S iK mO ks else .fail
  |none=> .fail
def Lo (tt:TT) (call:eQ) (all:List Oper) (base:Nat) (d:ZM) (mO:List (Hp×Nat)) (vs:List AV):List (Item×List Nat)->List (SB×Bool)->T (List (SB×Bool))
 |[],pc=> .ret pc
 |(x,ks)::r,pc=>match fI vs x.i with
  |some v=>(ET tt call all base pc x v (only d.bC x.rd) d.iK mO ks).BZ pc fun pc _=>Lo tt call all base d mO vs r pc
  |none=> .fail
def KJ (base:Nat) (iK:List (Nat×eL)) (mO:List (Hp×Nat)):Bool:=
 iK.all fun (a,_)=>mO.all fun (h,mm)=>mm.testBit a||(h.get (base+a)).isNone
def Ht (tt:TT) (call:eQ) (all:List Oper) (q:Stat) (s:St):T St:=
 match s.h.res with
 |some _=> .fail
 |none=>
 let base:=s.h.next;let n:=all.length;let N:=base+n+1099511627776
 (Ze tt call all base N q.is s.pc ⟨s.bC,[(⟨s.h.m,base+n,none⟩,0)],[],[],[]⟩).bind fun (pc,d)=>
  match d.mO with
  |[]=> .fail
  |(h,mm)::_=>
   (Lo tt call all base d d.mO.reverse d.vs.reverse q.rs pc).bind fun pc=>
    if KJ base d.iK d.mO then .ret ⟨d.bC,fQ base ((1 <<<n)-1) mm d.iK h,pc⟩ else .fail
def draw (tt:TT) (call:eQ) (all:List Oper) (s:St):T St:=
 match stat tt all with
 |none=> .fail
 |some q=>Ht tt call all q s
end
end Go.As
end
section
namespace Go.As
section
variable {s s':St} {ρ:Nat->Int} {v k:AV} {tt:TT} {α:Type} {call:eQ} {o:Oper} {t ty:Nat} {all:List Oper} {op:Op} {i e:W}
section
variable {P:Program}
theorem Mu [bN] (da:eP P tt) (hc:iR P call) {ops:Array Oper} (hp:cA ρ s.pc) (h:(ev1 tt call ops.toList o s).leaf ρ=some (v,s')) :
 H9 P ρ ops o s.bC s.h v s'.h:=by
 intro E a w hρ r sr;subst hρ;unfold ev1 at h;obtain⟨fy,gC,U⟩:=Gg ⟨r,sr,hp⟩ h;cases hw:Region.wanted o (yielded ops a.tmps)<;>rw [hw] at U
 ·grind [bE]
 ·simp only [if_true] at U;obtain⟨_,_,q3⟩:=WT da hc (s:={ s with pc:=fy }) (o:=o) r sr gC U;exact .inr ⟨rfl,q3⟩
theorem j8 {c:SB} {f:St->Bool->T α} {r:α} (h:(mg s c f).leaf ρ=some r): ∃fy b,(f { s with pc:=fy } b).leaf ρ=some r:=by
 unfold mg at h;split at h
 ·rename_i b _; exact⟨s.pc,b,h⟩
 grind [T.leaf]
theorem Lt {f:St->Bool->T α} {r:α} (h:(xQ all s o f).leaf ρ=some r): ∃fy b,(f { s with pc:=fy } b).leaf ρ=some r:=by
 unfold xQ at h;split at h
 ·exact⟨s.pc,true,h⟩
 ·split at h
  ·split at h
   ·split at h
    ·obtain⟨fy,b,U⟩:=j8 h; exact⟨fy,_,U⟩
    ·exact⟨s.pc,_,h⟩
    grind [T.leaf]
   grind [T.leaf]
  grind [T.leaf]
theorem Gh {x:Operand} {f:AV->T (AV×St)} {r:AV×St} (h:(B5 s x f).leaf ρ=some r): ∃v,(f v).leaf ρ=some r:=by
 grind [B5,T.leaf]
theorem xN {x:Option AV} (h:(tI s x).leaf ρ=some (v,s')):s'=s:=by
 unfold tI at h
 grind [bE,T.leaf]
theorem aoe (h:kindOf tt op= .r):(∃t x,op= .load t x)\/(∃t x i ok,op= .lookup t x i ok)\/(∃c:Call,op= .call c/\c.callee= .builtin .len)\/∃t u x i j e,op= .convert t u x/\tt t=some i/\i.kind= .slice e/\tt u=some j/\j.kind= .string:=by
 unfold kindOf at h;split at h<;>try (simp at h; done)
 all_goals grind
theorem Jz {n:W} {f:St->T α} {r:α} (h:(AN s i n f).leaf ρ=some r): ∃fy,(f { s with pc:=fy }).leaf ρ=some r:=by
 unfold AN at h;obtain⟨jJ,b1,U⟩:=j8 h;split at U
 ·grind [T.leaf]
 ·obtain⟨qA,b2,Z⟩:=j8 U
  grind [T.leaf]
theorem vc {α:Type} {ρ:Nat->Int} {kk:TK} {k:AV} {r:α} {f:St->T α}: ∀{es:List (AV×AV×Nat)} {s:St},(ve kk k es s f).leaf ρ=some r->∃fy,(f { s with pc:=fy }).leaf ρ=some r
 |[],s,h=> ⟨s.pc,h⟩
 |(k',v,b)::es,s,h=>by
  simp only [ve] at h;split at h
  ·split at h
   ·exact⟨s.pc,h⟩
   ·exact vc h
  ·split at h
   ·obtain⟨jJ,b1,U⟩:=j8 h;split at U
    ·grind
    ·obtain⟨qA,Z⟩:=vc U
     grind
   ·exact⟨s.pc,h⟩
theorem Ij {m:AV} {r:α} {f:St->T α} (h:(pq tt t m k s f).leaf ρ=some r): ∃fy,(f { s with pc:=fy }).leaf ρ=some r:=by
 unfold pq at h;split at h
 ·split at h
  ·split at h
   ·split at h
    ·exact vc h
    ·exact⟨s.pc,h⟩
   ·exact⟨s.pc,h⟩
  ·exact⟨s.pc,h⟩
 ·exact⟨s.pc,h⟩
theorem agu {cs:List AV} (h:(J9 s cs e).leaf ρ=some (v,s')):s'.h=s.h:=by
 grind [J9,T.leaf,Jz,bE]
theorem Y8 {ok:Bool} (h:(BC tt ty k ok e t s).leaf ρ=some (v,s')):s'.h=s.h:=by
 unfold BC at h;split at h
 ·grind [T.leaf]
 ·split at h
  ·grind [T.leaf]
  ·obtain⟨fy,b,U⟩:=j8 h
   grind [bE]
theorem Dv {α:Type} {ρ:Nat->Int} {i:W} {r:α}: ∀{ov:List (W×List AV)} {s:St} {k:St->T α},(v7 i ov s k).leaf ρ=some r->∃fy,(k { s with pc:=fy }).leaf ρ=some r
 |[],s,k,h=> ⟨s.pc,h⟩
 |(j,c)::l,s,k,h=>by
  simp only [v7] at h;split at h
  ·exact⟨s.pc,h⟩
  ·obtain⟨jJ,b1,U⟩:=j8 h;split at U
   ·grind
   ·obtain⟨qA,Z⟩:=Dv U
    grind
theorem Y9 {id es off:Nat} (h:(BD tt s ty id es i off).leaf ρ=some (v,s')):s'.h=s.h:=by
 unfold BD at h;split at h
 ·split at h
  ·grind [T.leaf,agu]
  ·split at h
   all_goals grind [Jz,Dv,xN,T.leaf]
  grind [T.leaf]
 grind [T.leaf]
theorem ao3 (hk:kindOf tt op= .r) (h:(Me tt call s op).leaf ρ=some (v,s')):s'.h=s.h:=by
 rcases aoe hk with ⟨t,x,rfl⟩|⟨t,x,i,ok,rfl⟩|⟨c,rfl,hc⟩|⟨t,u,x,i,j,e,rfl,hi,he,hj,hs⟩
 ·grind [Me,Gh,Y9,xN]
 ·grind [Me,Gh,Y8,Ij,xN,T.leaf]
 ·simp only [Me,Mn] at h;split at h
  ·grind [T.leaf]
  ·rw [hc] at h;simp only [yc] at h
   grind [xN,T.leaf]
 ·simp only [Me] at h;obtain⟨p,U⟩:=Gh h;split at U
  ·grind [Fg,T.leaf]
  obtain⟨H,e1,rfl⟩:=qW U;unfold qO at e1;rw [hi,hj] at e1;simp only [hs,he] at e1;split at e1
  ·grind
  ·split at e1
   ·split at e1
    ·grind
    ·split at e1
     ·rw [aO] at e1
      grind
     grind
    grind
   grind
theorem atL (hk:kindOf tt o.op= .r) (h:(ev1 tt call all o s).leaf ρ=some (v,s')):s'.h=s.h:=by
 unfold ev1 at h;obtain⟨fy,b,U⟩:=Lt h;cases b
 ·grind [bE]
 ·simp only [if_true] at U;exact ao3 (s:={ s with pc:=fy }) hk U
theorem sO {base bm mm:Nat}: ∀{l:List (Nat×eL)} {h:Hp} {id:Nat} {x:eL},(fQ base bm mm l h).get id=some x->h.get id=some x\/∃a,(a,x)∈l/\bm.testBit a=true/\mm.testBit a=false/\id=base+a
 |[],h,id,x,hh=> .inl hh
 |(a,y)::r,h,id,x,hh=>by
  simp only [fQ] at hh;split at hh
  ·rename_i hb;rw [Hp.bS] at hh;split at hh
   ·rename_i e
    grind
   ·exact ahd
  ·exact ahd
theorem j5 {base bm mm:Nat}: ∀(l:List (Nat×eL)) (h:Hp),(fQ base bm mm l h).next=h.next/\(fQ base bm mm l h).res=h.res
 |[],h=> ⟨rfl,rfl⟩
 |(a,y)::r,h=>by
  have:=j5 (base:=base) (bm:=bm) (mm:=mm) r h;simp only [fQ];split
  ·exact this
  grind
theorem AL {bC:Tr AV}: ∀{ts:List Nat} {t:Nat} {x:AV},(only bC ts).get t=some x->t∈ts/\bC.get t=some x
 |[],t,x,h=>by simp [only,Tr.get] at h
 |u::us,t,x,h=>by
  simp only [only] at h;split at h
  ·rename_i v hv;rw [Tr.bS] at h;split at h
   ·rename_i e
    grind
   ·have:=AL h
    grind
  ·have:=AL h
   grind
theorem Cs {bC:Tr AV} {d:Option Nat}:(wu bC d v).get t=if d=some t then some v else bC.get t:=by
 cases d with
 |none=>simp [wu]
 |some u=>
  grind [wu,Tr.bS]
theorem qH {ms:List Nat} {i:Nat}: ∀{es:List Edge},(pM ms es).testBit i=true->∃e∈es,Region.binds .any e=true/\(e.on=i\/(ms.getD e.on 0).testBit i=true)
 |[],h=>by simp [pM] at h
 |e::es,h=>by
  simp only [pM] at h;split at h
  ·rename_i hb;simp only [Nat.testBit_or,axb] at h;rcases h with (h|h)|h
   ·rw [Nat.shiftLeft_eq,axD,Nat.testBit_two_pow] at h
    grind
   ·grind
   ·obtain⟨e',U,Z⟩:=qH h
    grind
  ·obtain⟨e',U,Z⟩:=qH h
   grind
def j4 (tt:TT):List Oper->Nat
 |[]=>0
 |o::os=>(match kindOf tt o.op with | .e=>1|_=>0)+j4 tt os
theorem kj {tt:TT} {all:List Oper} {ms:List Nat}: ∀(os:List Oper) (i n j:Nat),(items tt all ms os i n)[j]?=(os[j]?).map fun o=> ⟨i+j,o,ms.getD (i+j) 0,kindOf tt o.op,n+j4 tt (os.take j),reads all o⟩
 |[],i,n,j=>by simp [items]
 |o::os,i,n,j=>by
  simp only [items]
  cases j with
  |zero=>simp [j4]
  |succ j=>
   rw [aA,kj os]
   grind [j4]
theorem uE {tt:TT} {all:List Oper} {ms:List Nat}: ∀(os:List Oper) (i n:Nat),(items tt all ms os i n).length=os.length
 |[],i,n=>rfl
 |o::os,i,n=>by simp [items,uE os]
theorem nS {tt:TT} {all:List Oper} {ms:List Nat}: ∀(os:List Oper) (i n:Nat),kz (items tt all ms os i n)=j4 tt os
 |[],i,n=>rfl
 |o::os,i,n=>by
  simp only [items,kz,j4,nS os]
  grind
end
end
section
variable {ops:Array Oper} {base N:Nat} {ρ:Nat->Int} {x:Item} {d d1:ZM} {v:AV} {ob:Option eL}
section
variable {P:Program}
def HZ [bN] (P:Program) (ρ:Nat->Int) (ops:Array Oper) (base N:Nat) (x:Item) (d:ZM) (v:AV) (ob:Option eL) (d1:ZM):Prop:=
 ∃h mm rest,d.mO=(h,mm)::rest/\match x.k with
  | .pa=>d1.mO=d.mO/\∃HA,H9 P ρ ops x.o (only d.bC x.rd) ⟨.nil,N,some (base+x.i)⟩ v HA/\HA.next=N/\ob=HA.get (base+x.i)
  | .e=>ob=none/\∃hn,d1.mO=(hn,mm|||x.m)::d.mO/\hn.next<=N/\hn.res=none/\H9 P ρ ops x.o (only d.bC x.rd) (fQ base x.m mm d.iK h) v hn
  | .r=>ob=none/\d1.mO=d.mO
theorem ad4 [bN] {tt:TT} (da:eP P tt) {call:eQ} (hc:iR P call) {pc:List (SB×Bool)} (hp:cA ρ pc) (h:(ad5 tt call ops.toList base N pc x d).leaf ρ=some d1) :
 ∃v ob,d1.bC=wu d.bC x.o.dst v/\d1.vs=v::d.vs/\d1.DQ=ob::d.DQ/\d1.iK=(match ob with |some b=>(x.i,b)::d.iK|none=>d.iK)/\HZ P ρ ops base N x d v ob d1:=by
 unfold ad5 at h;split at h
 ·grind [T.leaf]
 ·rename_i h0 mm rest hs;split at h
  ·rename_i hk;obtain⟨⟨v,s'⟩,U,Z⟩:=T.fA h;have ha:=Mu da hc (s:=⟨only d.bC x.rd,⟨.nil,N,some (base+x.i)⟩,pc⟩) hp U;simp only at Z;split at Z
   ·rename_i hn;have:=bE Z;subst this;refine⟨v,s'.h.get (base+x.i),rfl,rfl,rfl,?_,h0,mm,rest,hs,?_⟩
    all_goals grind
   grind [T.leaf]
  ·rename_i hk;obtain⟨⟨v,s'⟩,U,Z⟩:=T.fA h;have ha:=Mu da hc (s:=⟨only d.bC x.rd,fQ base x.m mm d.iK h0,pc⟩) hp U;simp only at Z;split at Z
   ·rename_i hn;exact aib
   ·simp [T.leaf] at Z
  ·rename_i hk;obtain⟨⟨v,s'⟩,U,Z⟩:=T.fA h;exact aib
theorem HZ.mO [bN] (h:HZ P ρ ops base N x d v ob d1): ∃pre,d1.mO=pre++d.mO/\pre.length=kz [x]:=by
 obtain⟨h0,mm,rest,hs,U⟩:=h;cases hk:x.k<;>rw [hk] at U
 ·simp_all [kz]
 ·obtain⟨_,hn,Z,_⟩:=U;exact⟨[(hn,mm|||x.m)],by rw [Z]; rfl,by simp [kz,hk]⟩
 simp_all [kz]
theorem HZ.nxt [bN] (h:HZ P ρ ops base N x d v ob d1) (hh: ∀q∈d.mO,q.1.next<=N/\q.1.res=none): ∀q∈d1.mO,q.1.next<=N/\q.1.res=none:=by
 obtain⟨h0,mm,rest,hs,U⟩:=h
 grind
structure auk [bN] (P:Program) (ρ:Nat->Int) (ops:Array Oper) (base N:Nat) (xs:List Item) (d d':ZM):Prop where
 vs: ∃pre,d'.vs=pre++d.vs/\pre.length=xs.length
 DQ: ∃pre,d'.DQ=pre++d.DQ/\pre.length=xs.length
 mO: ∃pre,d'.mO=pre++d.mO/\pre.length=kz xs
 n7: ∀a b,(a,b)∈d'.iK->(a,b)∈d.iK\/∃p x,xs[p]?=some x/\x.i=a/\d'.DQ.reverse[d.DQ.length+p]?=some (some b)
 awd: ∀p x b,xs[p]?=some x->d'.DQ.reverse[d.DQ.length+p]?=some (some b)->(x.i,b)∈d'.iK
 awL: ∀q,q∈d.iK->q∈d'.iK
 slot: ∀t x,d'.bC.get t=some x->(∃p y,xs[p]?=some y/\y.o.dst=some t/\d'.vs.reverse[d.vs.length+p]?=some x)\/(d.bC.get t=some x/\∀y∈xs,y.o.dst≠some t)
 same: ∀t,(∀y∈xs,y.o.dst≠some t)->d'.bC.get t=d.bC.get t
 nxt:(∀q∈d.mO,q.1.next<=N/\q.1.res=none)->∀q∈d'.mO,q.1.next<=N/\q.1.res=none
 at_: ∀p x,xs[p]?=some x->∃dp Zd v ob pre,HZ P ρ ops base N x dp v ob Zd/\d'.vs.reverse[d.vs.length+p]?=some v/\d'.DQ.reverse[d.DQ.length+p]?=some ob/\d'.mO=pre++Zd.mO/\dp.mO.length=d.mO.length+kz (xs.take p)/\
  (∀q,q∈dp.iK->q∈d'.iK)/\(∀t,(∀y∈xs.drop p,y.o.dst≠some t)->d'.bC.get t=dp.bC.get t)/\
  (∀t z,dp.bC.get t=some z->(∃p' y,p'<p/\xs[p']?=some y/\y.o.dst=some t/\d'.vs.reverse[d.vs.length+p']?=some z)\/(d.bC.get t=some z/\∀y∈xs.take p,y.o.dst≠some t))
theorem aak {α:Type} {l pre l0:List α} {v:α} (h:l=pre++v::l0):l.reverse[l0.length]?=some v:=by
 grind
theorem Ed (x:Item) (xs:List Item):kz (x::xs)=kz [x]+kz xs:=by
 grind [kz]
theorem T.mJ {α β:Type} {ρ:Nat->Int} {f:List (SB×Bool)->α->T β} {r:β}: ∀{x:T α} {pc:List (SB×Bool)},cA ρ pc->(x.BZ pc f).leaf ρ=some r->∃a fy,x.leaf ρ=some a/\cA ρ fy/\(f fy a).leaf ρ=some r
 | .fail,pc,_,h=>by simp [T.BZ,T.leaf] at h
 | .ret a,pc,hp,h=> ⟨a,pc,rfl,hp,h⟩
 | .split c x y,pc,hp,h=>by
   simp only [T.BZ] at h
   cases V:kI pc c with
   |some b=>
    rw [V] at h;have hb:=gW hp V;simp only [T.leaf,hb]
    cases b with
    |true=>exact T.mJ hp h
    |false=>exact T.mJ hp h
   |none=>
    rw [V] at h;simp only [T.leaf] at h ⊢
    cases hb:c.den ρ with
    |true=>
     rw [hb] at h
     exact T.mJ (x:=x) (pc:=(c,true)::pc) (fun c' b' hm=>by
      rcases aF.1 hm with he|hm
      ·simp only [ak] at he; rw [he.1,he.2]; exact hb
      ·exact hp c' b' hm) h
    |false=>
     rw [hb] at h
     exact T.mJ (x:=y) (pc:=(c,false)::pc) (fun c' b' hm=>by
      rcases aF.1 hm with he|hm
      ·simp only [ak] at he; rw [he.1,he.2]; exact hb
      ·exact hp c' b' hm) h
theorem W9 {tt:TT} {call:eQ} {all:List Oper} {base N:Nat} {ρ:Nat->Int}: ∀(xs:List Item) {pc fy:List (SB×Bool)} {d d':ZM},cA ρ pc->(Ze tt call all base N xs pc d).leaf ρ=some (fy,d')->cA ρ fy
 |[],pc,fy,d,d',hp,h=>by
  have:=bE h
  grind
 |x::xs,pc,fy,d,d',hp,h=>by simp only [Ze] at h;obtain⟨d1,jJ,_,jo,Z⟩:=T.mJ hp h;exact W9 xs jo Z
theorem Xa [bN] {tt:TT} (da:eP P tt) {call:eQ} (hc:iR P call) {ops:Array Oper} {base N:Nat} {ρ:Nat->Int}: ∀(xs:List Item) {pc fy:List (SB×Bool)} {d d':ZM},cA ρ pc->(Ze tt call ops.toList base N xs pc d).leaf ρ=some (fy,d')->auk P ρ ops base N xs d d'
 |[],pc,fy,d,d',hp,h=>by have:=bE h;simp only [ak] at this;obtain⟨_,rfl⟩:=this;exact⟨⟨[],rfl,rfl⟩,⟨[],rfl,rfl⟩,⟨[],rfl,rfl⟩,fun a b h=> .inl h,fun p x b hh=>by simp at hh,fun q h=>h,fun t x h=> .inr ⟨h,ad⟩,fun t _=>rfl,fun h=>h,fun p x hh=>by simp at hh⟩
 |x::xs,pc,fy,d,d',hp,h=>by
  simp only [Ze] at h;obtain⟨d1,jJ,U,jo,Z⟩:=T.mJ hp h;obtain⟨v,ob,e1,e2,e3,e4,hF⟩:=ad4 da hc hp U;obtain⟨⟨pv,v1,v2⟩,⟨po,o1,o2⟩,⟨ps,s1,s2⟩,b1,b2,b3,sl,sm,nx,fU⟩:=Xa da hc xs jo Z;obtain⟨qs,t1,t2⟩:=hF.mO;have kq:d'.vs.reverse[d.vs.length]?=some v:=aak (by rw [v1,e2]);have ho0:d'.DQ.reverse[d.DQ.length]?=some ob:=aak (by rw [o1,e3]);have hvl:d1.vs.length=d.vs.length+1:=by rw [e2]; rfl
  have hol:d1.DQ.length=d.DQ.length+1:=by rw [e3]; rfl
  have mT: ∀q,q∈d.iK->q∈d1.iK:=by
   intro q hq
   grind
  have Ag: ∀(p n:Nat),n+1+p=n+(p+1):=by intro p n; omega
  refine⟨⟨pv++ [v],by rw [v1,e2]; simp,by simp [v2]⟩,⟨po++ [ob],by rw [o1,e3]; simp,by simp [o2]⟩,⟨ps++qs,by rw [s1,t1]; simp,by rw [aZ,Ed,s2,t2]; omega⟩,?_,?_,fun q hq=>b3 q (mT q hq),?_,?_,fun hh=>nx (hF.nxt hh),?_⟩
  ·intro a b Tv;rcases b1 a b Tv with hh|⟨p,y,g1,g2,g3⟩
   ·rw [e4] at hh
    cases ob with
    |none=>exact .inl hh
    |some c=>
     simp only [aF,ak] at hh;rcases hh with ⟨rfl,rfl⟩|hh
     ·exact .inr ⟨0,x,rfl,rfl,ho0⟩
     ·exact .inl hh
   ·exact .inr ⟨p+1,y,by simpa using g1,g2,by rw [<- Ag,<- hol]; exact g3⟩
  ·intro p y b hy hb
   cases p with
   |zero=> simp at hy;subst hy;rw [awX,ho0] at hb;simp at hb;subst hb;exact b3 _ (by rw [e4]; simp)
   |succ p=> refine b2 p y b (by simpa using hy) ?_;rw [hol,Ag];exact hb
  ·intro t y hy;rcases sl t y hy with ⟨p,z,g1,g2,g3⟩|⟨g1,g2⟩
   ·exact .inl ⟨p+1,z,by simpa using g1,g2,by rw [<- Ag,<- hvl]; exact g3⟩
   ·rw [e1,Cs] at g1;split at g1
    ·rename_i V;simp at g1;subst g1;exact .inl ⟨0,x,rfl,V,kq⟩
    ·rename_i V;refine .inr ⟨g1,fun z hz=>?_⟩;rcases aF.1 hz with rfl|hz
     ·exact V
     ·exact g2 z hz
  ·intro t ht;exact ahK
  ·intro p y hy
   cases p with
   |zero=> simp at hy;subst hy;refine⟨d,d1,v,ob,ps,hF,kq,ho0,s1,by simp [kz],fun q hq=>b3 q (mT q hq),fun t ht=>?_,fun t z hz=> .inr ⟨hz,ad⟩⟩;exact ahK
   |succ p=>
    obtain⟨dp,Zd,v',ob',pre,g1,g2,g3,g4,g5,g6,g7,g8⟩:=fU p y (by simpa using hy);refine⟨dp,Zd,v',ob',pre,g1,by rw [<- Ag,<- hvl]; exact g2,by rw [<- Ag,<- hol]; exact g3,g4,?_,g6,fun t ht=>g7 t (by simpa using ht),fun t z hz=>?_⟩
    ·rw [g5,axw,Ed,t1,aZ,t2];omega
    ·rcases g8 t z hz with ⟨p',y',q1,q2,q3,q4⟩|⟨q1,q2⟩
     ·exact .inl ⟨p'+1,y',J,by simpa using q2,q3,by rw [<- Ag,<- hvl]; exact q4⟩
     ·rw [e1,Cs] at q1;split at q1
      ·rename_i V;simp at q1;subst q1;exact .inl ⟨0,x,J,rfl,V,kq⟩
      ·rename_i V;refine .inr ⟨q1,fun u hu=>?_⟩;rw [axw] at hu;rcases aF.1 hu with rfl|hu
       ·exact V
       ·exact q2 u hu
end
end
section
variable {tt:TT} {all l:List Oper} {i j:Nat} {o:Oper} {ms:List Nat}
section
variable {P:Program}
theorem yf {tt:TT}: ∀{l:List Oper} {i:Nat} {o:Oper},l[i]?=some o->j4 tt (l.take (i+1))=j4 tt (l.take i)+(match kindOf tt o.op with | .e=>1|_=>0)
 |[],i,o,h=>by simp at h
 |x::xs,0,o,h=>by
  simp at h;subst h;simp only [aH,axw,ax2,j4]
  grind
 |x::xs,i+1,o,h=>by simp only [axw,j4];rw [yf (l:=xs) (by simpa using h)];omega
theorem PV (h:l[i]?=none):j4 tt (l.take (i+1))=j4 tt (l.take i):=by have:=axL.1 h;rw [axm J,axm J]
theorem Kv {tt:TT} {l:List Oper} {i:Nat}: ∀{j:Nat},i<=j->j4 tt (l.take i)<=j4 tt (l.take j)
 |0,h=>by
  grind
 |j+1,h=>by
  by_cases e:i=j+1
  ·grind
  ·have:=Kv (tt:=tt) (l:=l) (i:=i) (j:=j) J
   cases ho:l[j]? with
   |none=>rw [PV ho]; exact this
   |some o=>rw [yf ho]; omega
theorem MT (ho:l[i]?=some o) (hk:kindOf tt o.op= .e) (h:i<j):j4 tt (l.take i)<j4 tt (l.take j):=by
 have U:=yf (tt:=tt) ho;rw [hk] at U;have Z:=Kv (tt:=tt) (l:=l) (i:=i+1) (j:=j) h
 grind
theorem ye {tt:TT} {l:List Oper} {m:Nat}: ∀{j:Nat},m<j4 tt (l.take j)->∃i o,i<j/\l[i]?=some o/\kindOf tt o.op= .e/\j4 tt (l.take i)=m
 |0,h=>by simp [j4] at h
 |j+1,h=>by
  cases ho:l[j]? with
  |none=>
   rw [PV ho] at h;obtain⟨i,o,U,Z⟩:=ye h
   grind
  |some o=>
   rw [yf ho] at h;rcases aX m (j4 tt (l.take j)) with h'|h'
   ·obtain⟨i,o,U,Z⟩:=ye h'
    grind
   grind
def B6 (tt:TT) (all:List Oper) (ms:List Nat) (j:Nat) (o:Oper):Item:=⟨j,o,ms.getD j 0,kindOf tt o.op,j4 tt (all.take j),reads all o⟩
theorem iX (h:all[j]?=some o):(items tt all ms all 0 0)[j]?=some (B6 tt all ms j o):=by rw [kj,h];simp [B6]
theorem JT {x:Item} (h:x∈items tt all ms all 0 0): ∃j o,all[j]?=some o/\x=B6 tt all ms j o:=by
 obtain⟨j,hj⟩:=List.getElem?_of_mem h
 cases ho:all[j]? with
 |none=>rw [kj,ho] at hj; simp at hj
 |some o=>
  rw [iX ho] at hj
  grind
structure alH (tt:TT) (all:List Oper) (ms:List Nat):Prop where
 back: ∀(j:Nat) (o:Oper),all[j]?=some o->∀e∈o.after,Region.binds .any e=true->e.on<j
 mask: ∀(j:Nat) (o:Oper),all[j]?=some o->ms.getD j 0=pM ms o.after.toList
 rd: ∀(j:Nat) (o:Oper),all[j]?=some o->∀t∈reads all o,∀(i:Nat) (oi:Oper),all[i]?=some oi->oi.dst=some t->(ms.getD j 0).testBit i=true\/(kindOf tt o.op≠.r/\(ms.getD i 0).testBit j=true)
 dst: ∀(i j:Nat) (oi oj:Oper) (d:Nat),all[i]?=some oi->all[j]?=some oj->oi.dst=some d->oj.dst=some d->i=j
 tot: ∀(i j:Nat) (oi oj:Oper),all[i]?=some oi->all[j]?=some oj->kindOf tt oi.op= .e->kindOf tt oj.op= .e->i<j->(ms.getD j 0).testBit i=true
theorem afs {q:Stat} (h:stat tt all=some q): ∃ms,q.is=items tt all ms all 0 0/\q.nE=j4 tt all/\q.rs=((q.is.filter (·.k.isR)).map fun x=>(x,Cq q.is q.nE x))/\alH tt all ms:=by
 unfold stat at h;simp only at h;split at h
 ·rename_i rW;simp at h;subst h;refine⟨sD all [],rfl,nS _ _ _,rfl,?_⟩;have key: ∀(j:Nat) (o:Oper),all[j]?=some o->zp (sD all []) (items tt all (sD all []) all 0 0) (B6 tt all (sD all []) j o)=true:=fun j o ho=>aP.1 rW _ (bq (iX ho));have mem: ∀(j:Nat) (o:Oper),all[j]?=some o->B6 tt all (sD all []) j o∈items tt all (sD all []) all 0 0:=fun j o ho=>bq (iX ho);refine⟨?_,?_,?_,?_,?_⟩
  ·intro j o ho e he hb;have:=key j o ho;simp only [zp,an,aP] at this;have:=this.1.1.1.1 e (by simpa [B6] using he);simpa [hb,B6] using this
  ·intro j o ho;have:=key j o ho;simp only [zp,an] at this;have:=this.1.1.1.2;simpa [B6] using this
  ·intro j o ho t ht i oi hoi V;have:=key j o ho;simp only [zp,an,aP] at this;have:=this.1.1.2 t ht _ (mem i oi hoi);simp only [B6,V,ne_eq,not_true_eq_false,decide_false,axy,axb,an,axc] at this;rcases this with h|⟨U,Z⟩
   ·grind
   ·refine .inr ⟨fun hk=>?_,Z⟩;rw [hk] at U;simp [Kind.isR] at U
  ·intro i j oi oj d hi hj hdi hdj;have:=key i oi hi;simp only [zp,an,aP] at this;have:=this.1.2 _ (mem j oj hj);simp [B6,hdi,hdj] at this
   grind
  ·intro i j oi oj hi hj hki hkj gk;have:=key j oj hj;simp only [zp,an,aP] at this;have:=this.2;simp only [B6,hkj,Kind.isE,axO,axy,aP] at this;have:=this _ (mem i oi hi);simpa [B6,hki,Kind.isE,gk] using this
 grind
theorem F2 [bN] {tt:TT} (da:eP P tt) {call:eQ} (hc:iR P call) {ops:Array Oper} {base:Nat} {pc:List (SB×Bool)} {ρ:Nat->Int} (hp:cA ρ pc) {x:Item} (hk:kindOf tt x.o.op= .r) {v:AV} {S:Tr AV} {iK:List (Nat×eL)} {mO:List (Hp×Nat)}: ∀(ks:List Nat),(ET tt call ops.toList base pc x v S iK mO ks).leaf ρ=some ()->
 ∀k∈ks,∃h mm,mO[k]?=some (h,mm)/\H9 P ρ ops x.o S (fQ base x.m mm iK h) v (fQ base x.m mm iK h)
 |[],_=>by simp
 |k::ks,h=>by
  simp only [ET] at h;split at h
  ·rename_i h0 mm hn;obtain⟨⟨u,s'⟩,U,Z⟩:=T.fA h;simp only at Z;split at Z
   ·rename_i hs;have ha:=Mu da hc (s:=⟨S,fQ base x.m mm iK h0,pc⟩) hp U;have hr:=atL hk U;rw [hr,ly _ _ hs] at ha;intro k' WH;rcases aF.1 WH with rfl|WH
    ·exact⟨h0,mm,by rw [<- dy]; exact hn,ha⟩
    ·exact F2 da hc hp hk ks Z k' WH
   ·simp [T.leaf] at Z
  ·simp [T.leaf] at h
theorem Jh [bN] {tt:TT} (da:eP P tt) {call:eQ} (hc:iR P call) {ops:Array Oper} {base:Nat} {ρ:Nat->Int} {d:ZM} {mO:List (Hp×Nat)} {vs:List AV}: ∀(rs:List (Item×List Nat)) {pc fy:List (SB×Bool)},cA ρ pc->(∀r∈rs,kindOf tt r.1.o.op= .r)->(Lo tt call ops.toList base d mO vs rs pc).leaf ρ=some fy->
 cA ρ fy/\∀r∈rs,∃v,vs[r.1.i]?=some v/\∀k∈r.2,∃h mm,mO[k]?=some (h,mm)/\H9 P ρ ops r.1.o (only d.bC r.1.rd) (fQ base r.1.m mm d.iK h) v (fQ base r.1.m mm d.iK h)
 |[],pc,fy,hp,_,h=>by
  have:=bE h
  grind
 |(x,ks)::rs,pc,fy,hp,hk,h=>by
  simp only [Lo] at h;split at h
  ·rename_i v hv;obtain⟨⟨⟩,jJ,U,jo,Z⟩:=T.mJ hp h;obtain⟨n9,ih⟩:=Jh da hc rs jo (fun r hr=>hk r (by simp [hr])) Z;refine⟨n9,fun r hr=>?_⟩;rcases aF.1 hr with rfl|hr
   ·exact⟨v,by rw [<- dy]; exact hv,F2 da hc hp (hk _ ad) ks U⟩
   grind
  ·simp [T.leaf] at h
end
end
section
variable {P:Program}
theorem afF {α:Type} {l pre:List α} {a b:α} {l0:List α} (h:l=pre++a::b::l0):l.reverse[l0.length]?=some b/\l.reverse[l0.length+1]?=some a:=by
 grind
theorem X6 {n b:Nat} (h:((1 <<<n)-1).testBit b=true):b<n:=by
 rw [Nat.shiftLeft_eq,axD,Nat.testBit_two_pow_sub_one] at h
 grind
theorem afL [bN] {tt:TT} {ops:Array Oper} {ms:List Nat} {ρ:Nat->Int} {qT:Tr AV} {H0:Hp} {base N:Nat} {d:ZM} (sf:alH tt ops.toList ms) (hb:base=H0.next) (hN:base+ops.size<=N)
 (rf:auk P ρ ops base N (items tt ops.toList ms ops.toList 0 0) ⟨qT,[(⟨H0.m,base+ops.size,none⟩,0)],[],[],[]⟩ d)
 (Tn: ∀r∈((items tt ops.toList ms ops.toList 0 0).filter (·.k.isR)).map fun x=>(x,Cq (items tt ops.toList ms ops.toList 0 0) (j4 tt ops.toList) x),∃v,d.vs.reverse[r.1.i]?=some v/\∀k∈r.2,∃h mm,d.mO.reverse[k]?=some (h,mm)/\H9 P ρ ops r.1.o (only d.bC r.1.rd) (fQ base r.1.m mm d.iK h) v (fQ base r.1.m mm d.iK h))
 (hun:KJ base d.iK d.mO=true) :
 ∃p:H5 P ρ ops qT H0,p.base=base/\p.nE=j4 tt ops.toList/\(∀i,p.val i=(d.vs.reverse[i]?).getD .vE)/\(∀k h mm,d.mO.reverse[k]?=some (h,mm)->p.hp k=h/\∀a,p.un k a=!mm.testBit a)/\(∀i,p.n7 i=(d.DQ.reverse[i]?).getD none)/\
  (∀(m:Nat),m<p.nE->∃(j:Nat) (o:Oper),ops[j]?=some o/\p.kd j= .e/\p.st j=m):=by
 have jl: ∀(j:Nat),ops.toList[j]?=ops[j]?:=fun j=>awV;have gk: ∀{j:Nat} {o:Oper},ops[j]?=some o->j<ops.size:=fun h=>(axa.1 h).1;have hci:kz (items tt ops.toList ms ops.toList 0 0)=j4 tt ops.toList:=nS _ _ _;have JY:j4 tt ops.toList=j4 tt (ops.toList.take ops.size):=by rw [axm ad]
 obtain⟨ps,s1,s2⟩:=rf.mO;rw [hci] at s2;have awB:d.mO.length=j4 tt ops.toList+1:=by rw [s1,aZ,s2]; rfl
 have avw:d.mO.reverse[0]?=some (⟨H0.m,base+ops.size,none⟩,0):=by rw [s1]; simp
 have asY: ∀k,k<=j4 tt ops.toList->∃h mm,d.mO.reverse[k]?=some (h,mm):=by
  intro k hk;have:k<d.mO.reverse.length:=by rw [ays]; omega
  exact⟨d.mO.reverse[k].1,d.mO.reverse[k].2,aM this⟩
 have hnx:=rf.nxt (by
  intro q hq;simp only [aF,aw7,or_false] at hq;subst hq
  exact⟨hN,rfl⟩)
 have aoz: ∀(k:Nat) (h:Hp) (mm:Nat),d.mO.reverse[k]?=some (h,mm)->h.next<=N/\h.res=none:=by intro k h mm hh;exact hnx (h,mm) (by have:=bq hh; simpa using this)
 let hpf:Nat->Hp:=fun k=>((d.mO.reverse[k]?).map (·.1)).getD ⟨.nil,0,none⟩
 let unf:Nat->Nat->Bool:=fun k a=>match d.mO.reverse[k]? with |some q=>!q.2.testBit a|none=>false
 let bff:Nat->Nat->Bool:=fun i j=>match ops[j]? with |some _=>(ms.getD j 0).testBit i|none=>false
 let kdf:Nat->Kind:=fun i=>match ops[i]? with |some o=>kindOf tt o.op|none=> .pa
 let MY:Nat->Option eL:=fun i=>(d.DQ.reverse[i]?).getD none
 have hpe: ∀k h mm,d.mO.reverse[k]?=some (h,mm)->hpf k=h/\∀a,unf k a=!mm.testBit a:=by intro k h mm hh;refine⟨by simp only [hpf,hh]; rfl,fun a=>by simp only [unf,hh]⟩
 have bfe: ∀{i j:Nat} {o:Oper},ops[j]?=some o->bff i j=(ms.getD j 0).testBit i:=by intro i j o ho;simp only [bff,ho]
 have kde: ∀{j:Nat} {o:Oper},ops[j]?=some o->kdf j=kindOf tt o.op:=by intro j o ho;simp only [kdf,ho]
 have kdE: ∀{j:Nat},kdf j= .e->∃o,ops[j]?=some o/\kindOf tt o.op= .e:=by
  intro j hj
  cases ho:ops[j]? with
  |none=>simp only [kdf,ho] at hj; simp at hj
  |some o=>exact⟨o,rfl,by rw [<- kde ho]; exact hj⟩
 have abB: ∀(k:Nat),∀(o':Oper),ops[k]?=some o'->∀b,(ms.getD k 0).testBit b=true->b<k:=by
  intro k
  induction k using Nat.strongRecOn with
  |_ k ih=>
   intro o' GL b tT;rw [sf.mask k o' (by rw [jl]; exact GL)] at tT;obtain⟨e,e1,e2,e3⟩:=qH tT;have e1':e∈o'.after:=by simpa using e1
   have aoA:=sf.back k o' (by rw [jl]; exact GL) e e1' e2;rcases e3 with rfl|e3
   ·exact aoA
   ·have:=gk GL;have:=ih e.on aoA (ops[e.on]'J) ad b e3;omega
 have aoJ: ∀(i:Nat),∃S:Tr AV,∀(o:Oper),ops[i]?=some o->∃dp Zd v ob pre,dp.bC=S/\HZ P ρ ops base N (B6 tt ops.toList ms i o) dp v ob Zd/\d.vs.reverse[i]?=some v/\d.DQ.reverse[i]?=some ob/\d.mO=pre++Zd.mO/\dp.mO.length=1+j4 tt (ops.toList.take i)/\
  (∀q,q∈dp.iK->q∈d.iK)/\(∀t x,S.get t=some x->(∃p oj,p<i/\ops[p]?=some oj/\oj.dst=some t/\d.vs.reverse[p]?=some x)\/(qT.get t=some x/\∀(p:Nat) (oj:Oper),p<i->ops[p]?=some oj->oj.dst≠some t)):=by
  intro i
  cases hoi:ops[i]? with
  |none=>exact⟨.nil,fun o h=>by simp at h⟩
  |some o0=>
   have hx:(items tt ops.toList ms ops.toList 0 0)[i]?=some (B6 tt ops.toList ms i o0):=iX (by rw [jl]; exact hoi);obtain⟨dp,Zd,v,ob,pre,g1,g2,g3,g4,g5,g6,g7,g8⟩:=rf.at_ i _ hx;refine⟨dp.bC,fun o ho=>?_⟩;simp only [ah] at ho;subst ho;refine⟨dp,Zd,v,ob,pre,rfl,g1,by simpa using g2,by simpa using g3,g4,?_,g6,?_⟩
   ·rw [g5];congr 1
    have:(items tt ops.toList ms ops.toList 0 0).take i=items tt ops.toList ms (ops.toList.take i) 0 0:=by
     apply axv;intro j;rw [axu,kj,kj,axu];split
     ·rename_i hj;rw [List.take_take,Nat.min_eq_left J]
     ·rfl
    rw [this,nS]
   ·intro t x ht;rcases g8 t x ht with ⟨p,y,q1,q2,q3,q4⟩|⟨q1,q2⟩
    ·cases qL:ops.toList[p]? with
     |none=>rw [kj,qL] at q2; simp at q2
     |some oj=> rw [iX qL] at q2;simp at q2;subst q2;exact .inl ⟨p,oj,q1,by rw [<- jl]; exact qL,q3,by simpa using q4⟩
    ·refine .inr ⟨q1,fun p oj hp qL=>?_⟩
     have hm:B6 tt ops.toList ms p oj∈(items tt ops.toList ms ops.toList 0 0).take i:=by refine bq (i:=p) ?_;rw [axu,ag hp];exact iX (by rw [jl]; exact qL)
     exact q2 _ hm
 obtain⟨Sd,fU⟩:=Classical.skolem.1 aoJ
 let Sf:Nat->Tr AV:=fun i=>match ops[i]? with
  |some o=>(match kindOf tt o.op with
   | .r=>only d.bC (reads ops.toList o)
   |_=>only (Sd i) (reads ops.toList o))
  |none=> .nil
 have SfR: ∀{i:Nat} {o:Oper},ops[i]?=some o->kindOf tt o.op= .r->Sf i=only d.bC (reads ops.toList o):=by intro i o ho hk;simp only [Sf,ho,hk]
 have SfN: ∀{i:Nat} {o:Oper},ops[i]?=some o->kindOf tt o.op≠.r->Sf i=only (Sd i) (reads ops.toList o):=by
  intro i o ho hk;have:Sf i=(match kindOf tt o.op with | .r=>only d.bC (reads ops.toList o)|_=>only (Sd i) (reads ops.toList o)):=by simp only [Sf,ho]
  rw [this]
  cases hh:kindOf tt o.op with
  |r=>exact absurd hh hk
  |pa=>rfl
  |e=>rfl
 have agh: ∀a b,(a,b)∈d.iK->MY a=some b:=by
  intro a b Tv;rcases rf.n7 a b Tv with h|⟨p,x,g1,g2,g3⟩
  ·simp at h
  ·cases ho:ops.toList[p]? with
   |none=>rw [kj,ho] at g1; simp at g1
   |some o=> rw [iX ho] at g1;simp at g1;subst g1;have:p=a:=g2;subst this;simp only [bd,aH] at g3;simp only [MY,g3,ax]
 have atn: ∀a b,MY a=some b->(a,b)∈d.iK:=by
  intro a b Tv
  have vv:d.DQ.reverse[a]?=some (some b):=by
   simp only [MY] at Tv
   cases hh:d.DQ.reverse[a]? with
   |none=>rw [hh] at Tv; simp at Tv
   |some x=>rw [hh] at Tv; simp at Tv; rw [Tv]
  obtain⟨po,o1,o2⟩:=rf.DQ
  have hal:a<ops.size:=by have U:=(bc.1 vv).1;rw [ays,o1,awU,o2,uE] at U;simpa using U
  have hx:(items tt ops.toList ms ops.toList 0 0)[a]?=some (B6 tt ops.toList ms a ops[a]):=iX (by rw [jl]; simp [hal]);exact rf.awd a _ b hx (by simpa using vv)
 refine⟨{
  base:=base,bf:=bff,kd:=kdf,S:=Sf,val:=fun i=>(d.vs.reverse[i]?).getD .vE,st:=fun i=>j4 tt (ops.toList.take i),nE:=j4 tt ops.toList,hp:=hpf,un:=unf,n7:=MY,
  gen:=?_,back:=?_,dst:=?_,bC:=?_,stl:=?_,inj:=?_,arS:=?_,pa:=?_,ev:=?_,rd:=?_,unm:=?_,nob:=?_,first:=?_ },rfl,rfl,fun i=>rfl,hpe,fun i=>rfl,?_⟩
 ·intro i j h
  cases ho:ops[j]? with
  |none=>simp only [bff,ho] at h; simp at h
  |some o=>
   rw [bfe ho,sf.mask j o (by rw [jl]; exact ho)] at h;obtain⟨e,e1,e2,e3⟩:=qH h;have e1':e∈o.after:=by simpa using e1
   refine⟨o,e,rfl,e1',e2,e3.imp id fun h3=>?_⟩;have Y:=sf.back j o (by rw [jl]; exact ho) e e1' e2;have hj:=gk ho;rw [bfe (o:=ops[e.on]'J) ad];exact h3
 ·intro j o ho e he tT;exact sf.back j o (by rw [jl]; exact ho) e he tT
 ·intro i j oi oj dd hi hj U Z;exact sf.dst i j oi oj dd (by rw [jl]; exact hi) (by rw [jl]; exact hj) U Z
 ·intro i o ho t x ht
  cases hk:kindOf tt o.op with
  |r=>
   rw [SfR ho hk] at ht;obtain⟨U,Z⟩:=AL ht;rcases rf.slot t x Z with ⟨p,y,g1,g2,g3⟩|⟨g1,g2⟩
   ·cases qL:ops.toList[p]? with
    |none=>rw [kj,qL] at g1; simp at g1
    |some oj=>
     rw [iX qL] at g1;simp at g1;subst g1;have hp:ops[p]?=some oj:=by rw [<- jl]; exact qL
     refine .inl ⟨p,oj,?_,hp,g2,?_⟩
     ·rw [bfe ho];rcases sf.rd i o (by rw [jl]; exact ho) t U p oj qL g2 with h|⟨h,_⟩
      ·exact h
      ·exact absurd hk h
     ·simp only [bd,aH] at g3;simp only [g3,ax]
   ·refine .inr ⟨g1,fun j oj qL V=>?_⟩;exact absurd V (g2 _ (bq (iX (by rw [jl]; exact qL))))
  |_=>
   rw [SfN ho (by rw [hk]; simp)] at ht;obtain⟨U,Z⟩:=AL ht;obtain⟨dp,Zd,v,ob,pre,_,_,_,_,_,_,_,g8⟩:=fU i o ho;rcases g8 t x Z with ⟨p,oj,q1,q2,q3,q4⟩|⟨q1,q2⟩
   ·refine .inl ⟨p,oj,?_,q2,q3,by rw [q4]; rfl⟩;rw [bfe ho];rcases sf.rd i o (by rw [jl]; exact ho) t U p oj (by rw [jl]; exact q2) q3 with h|⟨_,h⟩
    ·exact h
    ·have:=abB p oj q2 i h;omega
   ·refine .inr ⟨q1,fun j oj qL V=>?_⟩;rw [bfe qL];rcases sf.rd i o (by rw [jl]; exact ho) t U j oj (by rw [jl]; exact qL) V with h|⟨_,h⟩
    ·exact absurd V (q2 j oj (abB i o ho j h) qL)
    ·exact h
 ·intro j o ho hk;rw [kde ho] at hk;rw [JY];exact MT (by rw [jl]; exact ho) hk (gk ho)
 ·intro i j hi hj he;obtain⟨oi,hoi,hki⟩:=kdE hi;obtain⟨oj,qL,hkj⟩:=kdE hj;rcases ayq i j with h|h|h
  ·have:=MT (tt:=tt) (l:=ops.toList) (by rw [jl]; exact hoi) hki h;omega
  ·exact h
  ·have:=MT (tt:=tt) (l:=ops.toList) (by rw [jl]; exact qL) hkj h;omega
 ·intro j o ho hk m hm;obtain⟨i,oi,U,Z,h3,h4⟩:=ye hm;rw [kde ho] at hk;have h2':ops[i]?=some oi:=by rw [<- jl]; exact Z
  refine⟨i,by rw [kde h2']; exact h3,h4,?_⟩;rw [bfe ho];exact sf.tot i j oi o Z (by rw [jl]; exact ho) h3 hk U
 ·intro i o ho hk;rw [kde ho] at hk;obtain⟨dp,Zd,v,ob,pre,hdp,hF,g2,g3,g4,g5,g6,g7⟩:=fU i o ho;obtain⟨h0,mm,rest,hs,hF⟩:=hF;simp only [B6,hk] at hF;obtain⟨_,HA,f1,f2,f3⟩:=hF;rw [hdp] at f1;refine⟨HA,N,?_,f2,?_,?_⟩
  ·rw [SfN ho (by rw [hk]; simp)];simp only [g2,ax];exact f1
  ·simp only [MY,g3,ax];exact f3
  ·intro k GO;obtain⟨Z,mm2,hh⟩:=asY k GO;rw [(hpe _ _ _ hh).1];exact (aoz _ _ _ hh).1
 ·intro j o ho hk;rw [kde ho] at hk;obtain⟨dp,Zd,v,ob,pre,hdp,hF,g2,g3,g4,g5,g6,g7⟩:=fU j o ho;obtain⟨h0,mm,rest,hs,hF⟩:=hF;simp only [B6,hk] at hF;obtain⟨_,hn,f1,f2,f3,f4⟩:=hF;rw [hdp] at f4;rw [f1,hs] at g4;have hrl:rest.length=j4 tt (ops.toList.take j):=by rw [hs] at g5; simp at g5; omega
  obtain⟨r1,r2⟩:=afF g4;rw [hrl] at r1 r2;obtain⟨p1,p2⟩:=hpe _ _ _ r1;obtain⟨p3,p4⟩:=hpe _ _ _ r2;refine⟨fQ base (ms.getD j 0) mm dp.iK h0,?_,?_,?_,?_,?_⟩
  ·rw [SfN ho (by rw [hk]; simp)];simp only [g2,ax,p3];exact f4
  ·rw [(j5 _ _).1,p1]
  ·rw [(j5 _ _).2];exact (aoz _ _ _ r1).2
  ·intro id x hx;rcases sO hx with h|⟨a,a1,a2,a3,a4⟩
   ·left; rw [p1]; exact h
   ·right;exact⟨a,by rw [bfe ho]; exact a2,by rw [p2,a3]; rfl,a4,agh a x (g6 _ a1)⟩
  ·intro a ha;rw [p4] at ha;simp only [Nat.testBit_or,Bool.not_or,an,axc] at ha;refine⟨by rw [p2,ha.1]; rfl,?_⟩;rw [bfe ho];exact ha.2
 ·intro i o ho hk k hkn U Z;rw [kde ho] at hk;have YU:B6 tt ops.toList ms i o∈items tt ops.toList ms ops.toList 0 0:=bq (iX (by rw [jl]; exact ho))
  obtain⟨v,g1,g2⟩:=Tn (B6 tt ops.toList ms i o,Cq (items tt ops.toList ms ops.toList 0 0) (j4 tt ops.toList) (B6 tt ops.toList ms i o)) (by
   rw [aQ]
   exact⟨_,axh.2 ⟨YU,by simp [B6,hk,Kind.isR]⟩,rfl⟩)
  have WG:k∈Cq (items tt ops.toList ms ops.toList 0 0) (j4 tt ops.toList) (B6 tt ops.toList ms i o):=by
   unfold Cq;rw [axh,aw2];refine⟨J,aP.2 fun y hy=>?_⟩;obtain⟨j,oj,qL,rfl⟩:=JT hy;have agd:ops[j]?=some oj:=by rw [<- jl]; exact qL
   cases hkj:kindOf tt oj.op with
   |pa=>simp [B6,hkj,Kind.isE]
   |r=>simp [B6,hkj,Kind.isE]
   |e=>
    simp only [B6,hkj,Kind.isE,axO,axy,an,axb,axc,decide_eq_true_eq];constructor
    ·cases aoH:(ms.getD i 0).testBit j with
     |false=>exact .inl rfl
     |true=>exact .inr (U j (by rw [kde agd]; exact hkj) (by rw [bfe ho]; exact aoH))
    ·cases aoH:(ms.getD j 0).testBit i with
     |false=>exact .inl rfl
     |true=>exact .inr (Z j oj agd (by rw [kde agd]; exact hkj) (by rw [bfe agd]; exact aoH))
  obtain⟨h0,mm,g3,g4⟩:=g2 k WG;obtain⟨p1,p2⟩:=hpe _ _ _ g3;refine⟨fQ base (ms.getD i 0) mm d.iK h0,?_,?_,?_,?_⟩
  ·have g1':d.vs.reverse[i]?=some v:=g1;rw [SfR ho hk];simp only [g1',ax];exact g4
  ·rw [(j5 _ _).1,p1]
  ·rw [(j5 _ _).2];exact (aoz _ _ _ g3).2
  ·intro id x hx;rcases sO hx with h|⟨a,a1,a2,a3,a4⟩
   ·left; rw [p1]; exact h
   ·right;exact⟨a,by rw [bfe ho]; exact a2,by rw [p2,a3]; rfl,a4,agh a x a1⟩
 ·intro k a x hk hx hu;obtain⟨h0,mm,hh⟩:=asY k hk;obtain⟨p1,p2⟩:=hpe _ _ _ hh;rw [p1];rw [p2] at hu;unfold KJ at hun;have:=aP.1 hun _ (atn a x hx)
  have:=aP.1 this (h0,mm) (by
   have:=bq hh
   simpa using this)
  simp only [axb,Option.isNone_iff_eq_none] at this;simp only [axc] at hu;rcases this with h|h
  ·rw [hu] at h; simp at h
  ·exact h
 ·intro i hk
  cases ho:ops[i]? with
  |none=>
   obtain⟨po,o1,o2⟩:=rf.DQ
   have WC:d.DQ.reverse[i]?=none:=by rw [axL,ays,o1,awU,o2,uE];have:=ayH.1 ho;simpa using this
   simp only [MY,WC,axB]
  |some o=>
   obtain⟨dp,Zd,v,ob,pre,hdp,hF,g2,g3,g4,g5,g6,g7⟩:=fU i o ho;obtain⟨h0,mm,rest,hs,hF⟩:=hF;rw [kde ho] at hk
   cases Bc:kindOf tt o.op with
   |pa=>exact absurd Bc hk
   |e=> simp only [B6,Bc] at hF;simp only [MY,g3,ax,hF.1]
   |r=> simp only [B6,Bc] at hF;simp only [MY,g3,ax,hF.1]
 ·have:=(hpe 0 _ _ avw).1;refine⟨hb,by rw [this]; exact au _,fun id x h=>?_⟩;rw [this] at h;exact h
 ·intro m hm;have ZU:m<j4 tt (ops.toList.take ops.size):=by rw [<- JY]; exact hm
  obtain⟨i,oi,U,Z,h3,h4⟩:=ye ZU;have h2':ops[i]?=some oi:=by rw [<- jl]; exact Z
  exact⟨i,oi,h2',by show kdf i=_; rw [kde h2']; exact h3,h4⟩
end
section
variable {tt:TT} {call:eQ}
section
variable {P:Program}
theorem Hs [bN] (da:eP P tt) (hc:iR P call) {ops:Array Oper} {E:En} {s s':St} {a:Act} {w:World} {Q:Exit->Act->World->Prop}
 (V: ∀o∈ops.toList,∀d,o.dst=some d->d<a.tmps.size) (fit:Fit E s a w) (h:(draw tt call ops.toList s).leaf E.ρ=some s') (hq: ∀a' w',od E s a w s' a' w'->Q .normal a' w') :
 wpAny P .any ops Q ops.size (Array.replicate ops.size false) a { w with drawn:=w.drawn+1 }:=by
 unfold draw Ht at h;split at h
 ·simp [T.leaf] at h
 ·rename_i q hq0;split at h
  ·simp [T.leaf] at h
  ·rename_i vI;simp only at h;obtain⟨⟨jJ,d⟩,U,Z⟩:=T.fA h;simp only at Z;obtain⟨ms,e1,e2,e3,sf⟩:=afs hq0;rw [e1,] at U;have rf:=Xa da hc _ fit.pc U;have jo:=W9 _ fit.pc U;split at Z
   ·simp [T.leaf] at Z
   ·rename_i h0 mm rest avv;obtain⟨qA,h3,h4⟩:=T.fA Z;split at h4
    ·rename_i hun;have:=bE h4;subst this
     have as0:=Jh da hc q.rs jo (by
      intro r hr;rw [e3,aQ] at hr;obtain⟨x,hx,rfl⟩:=hr;rw [axh,e1] at hx;obtain⟨j,o,ho,rfl⟩:=JT hx.1;have h5:(kindOf tt o.op).isR=true:=hx.2;show kindOf tt o.op= .r;revert h5
      cases kindOf tt o.op<;>simp [Kind.isR]) h3
     have n9:=as0.1;have Tn:=as0.2;rw [e3,e1,e2] at Tn;obtain⟨p,p1,p2,p3,p4,p5,p6⟩:=afL sf (base:=s.h.next) (H0:=s.h) rfl (Nat.le_add_right _ _) rf Tn hun;have jl: ∀(j:Nat),ops.toList[j]?=ops[j]?:=fun j=>awV;let w1:World:={ w with drawn:=w.drawn+1 };have av6:Fit E s a w1:=⟨⟨fit.rel.fresh,fit.rel.res,fit.rel.live,fit.rel.inj,fit.rel.wE,fit.rel.mq⟩,fit.sr,fit.pc⟩
     have atb: ∀(i:Nat),(Array.replicate ops.size false)[i]?≠some true:=by
      intro i hh
      grind
     refine p.any (E0:=E) (a0:=a) (w0:=w1) V ?_ ops.size _ a w1 ad ?_ (p.start rfl rfl rfl av6 _ atb)
     ·intro a' w' inv;obtain⟨ps,s1,s2⟩:=rf.mO;rw [nS] at s2
      have hlen:rest.length=j4 tt ops.toList:=by
       have:d.mO.length=j4 tt ops.toList+1:=by rw [s1,aZ,s2]; rfl
       grind
      have ake:d.mO.reverse[j4 tt ops.toList]?=some (h0,mm):=by
       grind
      obtain⟨q1,q2⟩:=p4 _ _ _ ake
      have hnx:=rf.nxt (by
       intro q hq;simp only [aF,aw7,or_false] at hq;subst hq
       exact⟨Nat.le_add_right _ _,rfl⟩) (h0,mm) (by rw [avv]; simp)
      have ht:=p.finish (s0:=s) (s':=⟨d.bC,fQ s.h.next ((1 <<<ops.toList.length)-1) mm d.iK h0,qA⟩) (w0:=w1) rfl inv n9 ?_ ?_ ?_ ?_ p6
      ·refine hq a' w' ⟨ht.defers,ht.size,?_⟩;obtain⟨E',st,f'⟩:=ht.step;exact⟨E',⟨st.ρ,st.dm,st.θ,st.κ,st.ro,st.DF,st.nxm,st.rsm,st.dmn,st.os,st.tape,st.output,st.size,st.dq,st.own⟩,f'⟩
      ·intro t x ht;rcases rf.slot t x ht with ⟨j,y,g1,g2,g3⟩|⟨g1,g2⟩
       ·cases qL:ops.toList[j]? with
        |none=>rw [kj,qL] at g1; simp at g1
        |some oj=>
         rw [iX qL] at g1;simp at g1;subst g1;refine .inl ⟨j,oj,by rw [<- jl]; exact qL,g2,?_⟩
         grind
       ·refine .inr ⟨g1,fun j oj qL=>?_⟩;exact g2 _ (bq (iX (by rw [jl]; exact qL)))
      ·intro id x hx;rw [p2,q1,p1];rcases sO hx with h|⟨b,b1,b2,b3,b4⟩
       ·grind
       ·right
        have gk:b<ops.size:=by
         have:=X6 b2
         grind
        refine⟨b,gk,by rw [q2,b3]; rfl,b4,?_⟩;rcases rf.n7 b x b1 with h|⟨j,y,g1,g2,g3⟩
        ·grind
        ·cases qL:ops.toList[j]? with
         |none=>rw [kj,qL] at g1; simp at g1
         |some oj=>
          rw [iX qL] at g1;simp at g1;subst g1;have:j=b:=g2
          grind
      ·rw [p2,q1];exact (j5 _ _).1.symm
      ·show (fQ s.h.next ((1 <<<ops.toList.length)-1) mm d.iK h0).res=none;rw [(j5 _ _).2]
       grind
     ·have: ∀(l:Nat->Bool) (n:Nat),left l n<=n:=by
       intro l n
       induction n with
       |zero=>exact au _
       |succ n ih=>simp only [left]; split<;>omega
      grind
    ·simp [T.leaf] at h4
theorem agH [bN] (da:eP P tt) (hm:P.follows .mixedOrders=true) (hc:iR P call):ag1 P (draw tt call):=by intro id ops E s s' a w Q V fit h hq;exact wp_region_any hm (Hs da hc V fit h hq)
end
end
end Go.As
end
section
namespace Go.As
section
variable {w:World} {g:FuncId} {f:List AV->St->T (AV×St)} {fn:Func} {c:Code} {ρ:Nat->Int} {ro:Nat->Prop} {args:List AV} {vals:List Value}
noncomputable section
open Go.RowKit
section
variable {P:Program}
def En.zero (ρ:Nat->Int) (ro:Nat->Prop):En:={ ρ:=ρ,θ:=fun _=>(0,0),κ:=fun _=>0,dm:=fun _=>False,ro:=ro }
def Hp.zero:Hp:=⟨.nil,0,none⟩
theorem NJ [bN] (ρ:Nat->Int) (ro:Nat->Prop) (w:World) (h: ∀b,ro b->b<w.heap.size) (hg:bN.ok ρ ro w.heap):bX (En.zero ρ ro) Hp.zero w:=
 ⟨fun _ _ h=>h,by simp [Hp.zero],fun id o h=>by simp [Hp.zero,Hp.get,Tr.get] at h,fun id _ o _ h=>by simp [Hp.zero,Hp.get,Tr.get] at h,h,hg⟩
theorem fm.below {E E':En} {H':Hp} {w':World} (s:fm E Hp.zero w E' H' w'):Below w.heap.size w w':=
 ⟨s.os,s.tape,s.output,s.size,fun k hk=>s.dq k hk fun id o h=>by simp [Hp.zero,Hp.get,Tr.get] at h⟩
theorem BV [bN] (hf:kN P g f) (vO:P.funcs[g]?=some fn) (mj:(fn.name == "runtime.NumGoroutine")=false) (yQ:fn.body=some c) (pB: ∀b,ro b->b<w.heap.size) (hg:bN.ok ρ ro w.heap) (hv:cP (En.zero ρ ro) w.heap args vals) {v:AV} {s':St}
 (h:(f args ⟨.nil,Hp.zero,[]⟩).leaf ρ=some (v,s')):Calls P g vals.toArray w fun e w'=> ∃u E',e= .returned u/\VR E' w'.heap v u/\E'.ρ=ρ/\Below w.heap.size w w':=by
 obtain⟨_,_,h3⟩:=hf args ⟨.nil,Hp.zero,[]⟩ (En.zero ρ ro) w vals v s' (NJ ρ ro w pB hg) hv (by simp [cA]) h
 have mK:(callFunc g vals.toArray).run P w= .ok (.enter g vals.toArray) w:=by unfold callFunc;simp [vO,yQ,by simpa using mj]
 unfold mB pP at h3;rw [mK] at h3;exact Calls.mono h3 fun e w' ⟨u,he,E',st,_,hv⟩=> ⟨u,E',he,hv,st.ρ,st.below⟩
end
end
end
end Go.As
end
section
namespace Go.As
section
variable {f:List AV->St->T (AV×St)}
noncomputable section
open Go.RowKit
mutual
def jc:AV->Bool
 | .bool (.lit _)=>true
 | .int _ (.lit _)=>true
 | .str _=>true
 | .vE=>true
 | .iC=>true
 | .uC=>true
 | .yq=>true
 | .zu=>true
 | .iface _ v=>jc v
 | .agg cs=>pN cs
 | .tuple cs=>pN cs
 | .func _ fs cs=>pN fs&&pN cs
 |_=>false
def pN:List AV->Bool
 |[]=>true
 |x::xs=>jc x&&pN xs
end
section
variable {P:Program}
mutual
theorem yg {E E':En} {h h':Array Obj}: ∀(x:AV) (u:Value),jc x=true->VR E h x u->VR E' h' x u
 | .bool b,u,hc,hv=>by cases b<;>simp [jc] at hc; simpa [VR,SB.den] using hv
 | .int k e,u,hc,hv=>by cases e<;>simp [jc] at hc; simpa [VR,W.den] using hv
 | .str s,u,_,hv=>by simp only [VR] at *; exact hv
 | .vE,u,_,hv=>by simp only [VR] at *; exact hv
 | .iC,u,_,hv=>by simp only [VR] at *; exact hv
 | .uC,u,_,hv=>by simp only [VR] at *; exact hv
 | .yq,u,_,hv=>by simp only [VR] at *; exact hv
 | .zu,u,_,hv=>by simp only [VR] at *; exact hv
 | .iface t x,u,hc,hv=>by simp only [VR,jc] at *;obtain⟨y,U,Z⟩:=hv;exact⟨y,U,yg x y hc Z⟩
 | .agg cs,u,hc,hv=>by exact aid
 | .tuple cs,u,hc,hv=>by exact aid
 | .func fn fs cs,u,hc,hv=>by simp only [VR,jc,an] at *;obtain⟨us,ws,U,Z,h3⟩:=hv;exact⟨us,ws,U,rM fs us hc.1 Z,rM cs ws hc.2 h3⟩
 | .ptr _ _,_,hc,_=>by simp [jc] at hc
 | .oC _,_,hc,_=>by simp [jc] at hc
 | .slice _ _ _ _,_,hc,_=>by simp [jc] at hc
 | .ro _ _ _,_,hc,_=>by simp [jc] at hc
 | .map _,_,hc,_=>by simp [jc] at hc
 | .Ou _,_,hc,_=>by simp [jc] at hc
 | .yL _ _,_,hc,_=>by simp [jc] at hc
theorem rM {E E':En} {h h':Array Obj}: ∀(xs:List AV) (us:List Value),pN xs=true->cP E h xs us->cP E' h' xs us
 |[],us,_,hv=>by simp only [cP] at *; exact hv
 |x::xs,us,hc,hv=>by simp only [cP,pN,an] at *;obtain⟨u,vs,U,Z,h3⟩:=hv;exact⟨u,vs,U,yg x u hc.1 Z,rM xs vs hc.2 h3⟩
end
theorem yj [bN] {E:En} {H:Hp} {w w':World} (r:bX E H w) (b:Below w.heap.size w w'):fm E H w E H w'/\bX E H w':=by have hk:kJ E w.heap E w'.heap:=⟨rfl,fun _ h=>h,fun _ _=>rfl,fun _ _=>rfl,fun _ h=>h,fun x hx=>b.block x (r.wE x hx)⟩;refine⟨⟨rfl,fun _ h=>h,fun _ _=>rfl,fun _ _=>rfl,fun _ h=>h,fun _ h=> .inl h,au _,.inr rfl,fun _ h=> .inl h,b.os,b.tape,b.output,b.size,fun x hx _=>b.block x hx,fun id o h _=> ⟨id,o,h,rfl⟩⟩,r.fresh,r.res,fun id o h=>?_,r.inj,fun x hx=>axf (r.wE x hx) b.size,bN.dq r.mq hk.ro hk.FU⟩;obtain⟨U,Z,h3⟩:=r.live id o h;exact⟨U,Z.dq hk U (b.block _ (ic r h)),h3⟩
def Io (args:List AV) (v:AV):List AV->St->T (AV×St):=fun awN s=>if iV awN args then .ret (v,s) else .fail
def JZ (args:List AV) (v:AV) (f:List AV->St->T (AV×St)):Bool:=
 pN args&&jc v&&(match f args ⟨.nil,Hp.zero,[]⟩ with | .ret (u,_)=>eU u v|_=>false)
theorem E4 [bN] {g:FuncId} (hf:kN P g f) {fn:Func} (vO:P.funcs[g]?=some fn) (mj:(fn.name == "runtime.NumGoroutine")=false) {c:Code} (hb:fn.body=some c)
 {args:List AV} {v:AV} (h:JZ args v f=true):kN P g (Io args v):=by
 intro awN s E w vals u s' r hv hp Y;unfold Io at Y;split at Y
 ·rename_i hs;have:=bE Y;simp only [ak] at this;obtain⟨rfl,rfl⟩:=this;rw [fW _ _ hs] at hv;unfold JZ at h;simp only [an] at h;obtain⟨⟨U,Z⟩,h3⟩:=h;split at h3
  ·rename_i u' s1 mK;have hu:=ly _ _ h3;subst hu;have hc:=BV hf vO mj hb (ρ:=E.ρ) (ro:=E.ro) (w:=w) r.wE r.mq (rM args vals U hv) (v:=u') (s':=s1) (by rw [mK]; rfl);refine⟨rfl,hp,?_⟩
   have mK:(callFunc g vals.toArray).run P w= .ok (.enter g vals.toArray) w:=by unfold callFunc;simp [vO,hb,by simpa using mj]
   unfold mB pP;rw [mK];exact Calls.mono hc fun e w' ⟨x,E',he,hx,_,nZ⟩=> ⟨x,he,E,(yj r nZ).1,(yj r nZ).2,yg u' x Z hx⟩
  grind
 ·simp [T.leaf] at Y
def orElse (f g:List AV->St->T (AV×St)):List AV->St->T (AV×St):=fun awN s=>match f awN s with | .fail=>g awN s|x=>x
theorem xP [bN] {id:FuncId} {g:List AV->St->T (AV×St)} (hf:kN P id f) (hg:kN P id g):kN P id (orElse f g):=by
 intro awN s E w vals u s' r hv hp Y;unfold orElse at Y;split at Y
 ·exact hg awN s E w vals u s' r hv hp Y
 ·exact hf awN s E w vals u s' r hv hp Y
end
end
end
end Go.As
end
section
namespace Go.As
section
variable {g:FuncId} {fn:Func}
noncomputable section
open Go.RowKit
section
variable {P:Program}
theorem xZ {e:Array Value->Sem Value} (hf:P.funcs[g]?=some fn) (mj:(fn.name == "runtime.NumGoroutine")=false) (hb:fn.body.isNone=true) (hn:Extern.findNext fn=none) (he:Extern.find fn=some e)
 {args:Array Value} {w:World} {u:Value} (hr:(e args).run P w= .ok u w):(callFunc g args).run P w= .ok (.value u) w:=by
 have yQ:fn.body=none:=by simpa using hb
 unfold callFunc;simp [hf,yQ,by simpa using mj,hn,he,hr]
def HF (c:Nat):List Nat->Nat
 |[]=>0
 |x::xs=>if x.beq c then HF c xs+1 else HF c xs
def C0:List AV->St->T (AV×St):=fun args s=>match args with
 |[.str b,.int .u8 (.lit (.ofNat c))]=>if c<256 then .ret (.int .i64 (.lit (Int.ofNat (HF c b))),s) else .fail
 |_=> .fail
theorem KP {a b:Nat} (ha:a<256) (hb:b<256):(UInt8.ofNat a == UInt8.ofNat b)=a.beq b:=by
 rw [aw9];simp only [beq_iff_eq,Nat.beq_eq];constructor
 ·intro h;have:=congrArg UInt8.toNat h;simp only [axj] at this;omega
 grind
theorem Km {c:Nat} (hc:c<256): ∀{s:List Nat},(∀b∈s,b<256)->Lib.countByte (s.map UInt8.ofNat) (UInt8.ofNat c)=HF c s
 |[],_=>rfl
 |x::xs,h=>by
  have ih:=Km hc (s:=xs) fun b hb=>h b (by simp [hb]);unfold Lib.countByte at *;rw [aC,List.count_cons,ih,KP (h x ad) hc];simp only [HF]
  grind
theorem aea [bN] (hf:P.funcs[g]?=some fn) (mj:(fn.name == "runtime.NumGoroutine")=false) (hb:fn.body.isNone=true) (hn:Extern.findNext fn=none) (he:Extern.find fn=some Extern.BytealgCount.count):kN P g C0:=by
 intro awN s E w vals u s' r hv hp Y;unfold C0 at Y;split at Y
 ·rename_i b c;split at Y
  ·rename_i hc;have:=bE Y;simp only [ak] at this;obtain⟨rfl,rfl⟩:=this;simp only [cP,VR,W.den] at hv;obtain⟨u1,r1,rfl,⟨rfl,Tt⟩,u2,r2,rfl,rfl,rfl⟩:=hv;refine⟨rfl,hp,?_⟩;unfold mB pP;rw [xZ hf mj hb hn he (Lib.run_countString (dv b) (Int.ofNat c) w)];refine⟨E,fm.refl _ _ _,r,?_⟩;simp only [VR,W.den];have:(Int.ofNat c).toNat.toUInt8=UInt8.ofNat c:=rfl;rw [this];have Z:(dv b).data.toList=b.map UInt8.ofNat:=by simp [dv]
   rw [Z,Km hc Tt];rfl
  ·simp [T.leaf] at Y
 ·simp [T.leaf] at Y
def GD (c:Nat):List Nat->Int
 |[]=> -1
 |x::xs=>if x.beq c then 0 else match GD c xs with
  | .ofNat n=> .ofNat (n+1)
  | .negSucc n=> .negSucc n
def CZ:List AV->St->T (AV×St):=fun args s=>match args with
 |[.str b,.int .u8 (.lit (.ofNat c))]=>if c<256 then .ret (.int .i64 (.lit (GD c b)),s) else .fail
 |_=> .fail
theorem JV {c:Nat} (hc:c<256): ∀{s:List Nat},(∀b∈s,b<256)->Lib.indexByte (s.map UInt8.ofNat) (UInt8.ofNat c)=GD c s
 |[],_=>rfl
 |x::xs,h=>by
  have ih:=JV hc (s:=xs) fun b hb=>h b (by simp [hb]);have YV:=Lib.indexByte_ge (xs.map UInt8.ofNat) (UInt8.ofNat c);simp only [aC,Lib.indexByte,GD];rw [KP (h x ad) hc];cases x.beq c
  ·simp only [aR,if_false];rw [ih] at YV ⊢
   cases hi:GD c xs with
   |ofNat n=>rw [hi] at YV; simp
   |negSucc n=>
    grind
  ·rfl
theorem abh [bN] (hf:P.funcs[g]?=some fn) (mj:(fn.name == "runtime.NumGoroutine")=false) (hb:fn.body.isNone=true) (hn:Extern.findNext fn=none) (he:Extern.find fn=some Extern.BytealgIndexByte.indexByte):kN P g CZ:=by
 intro awN s E w vals u s' r hv hp Y;unfold CZ at Y;split at Y
 ·rename_i b c;split at Y
  ·rename_i hc;have:=bE Y;simp only [ak] at this;obtain⟨rfl,rfl⟩:=this;simp only [cP,VR,W.den] at hv;obtain⟨u1,r1,rfl,⟨rfl,Tt⟩,u2,r2,rfl,rfl,rfl⟩:=hv;refine⟨rfl,hp,?_⟩;unfold mB pP;rw [xZ hf mj hb hn he (Lib.run_indexByteString (dv b) (Int.ofNat c) w)];refine⟨E,fm.refl _ _ _,r,?_⟩;simp only [VR,W.den];have:(Int.ofNat c).toNat.toUInt8=UInt8.ofNat c:=rfl;rw [this];have Z:(dv b).data.toList=b.map UInt8.ofNat:=by simp [dv]
   rw [Z,JV hc Tt]
  ·simp [T.leaf] at Y
 ·simp [T.leaf] at Y
def Og:List Nat->List Nat->Bool
 |[],_=>true
 |_::_,[]=>false
 |a::x,b::y=>if a.beq b then Og x y else false
def Ao (c:List Nat):List Nat->Bool
 |[]=>Og c []
 |b::bs=>if Og c (b::bs) then true else Ao c bs
def uL:List AV->St->T (AV×St):=fun args s=>match args with
 |[.str b,.str c]=>if b.length<4294967281 then .ret (.bool (.lit (Ao c b)),s) else .fail
 |_=> .fail
theorem VH: ∀{c s:List Nat},(∀b∈c,b<256)->(∀b∈s,b<256)->(c.map UInt8.ofNat).isPrefixOf (s.map UInt8.ofNat)=Og c s
 |[],_,_,_=>by simp [Og]
 |_::_,[],_,_=>by simp [Og]
 |a::x,b::y,hc,hs=>by
  have ih:=VH (c:=x) (s:=y) (fun z hz=>hc z (by simp [hz])) (fun z hz=>hs z (by simp [hz]));simp only [aC,List.isPrefixOf,Og];rw [KP (hc a ad) (hs b ad),ih]
  grind
theorem index_ge (sub:List UInt8): ∀l:List UInt8,-1<=Lib.index l sub
 |[]=>by unfold Lib.index; split<;>omega
 |b::l=>by
  have ih:=index_ge sub l;unfold Lib.index
  grind
theorem Ft {c:List Nat} (hc: ∀b∈c,b<256): ∀{s:List Nat},(∀b∈s,b<256)->Lib.contains (s.map UInt8.ofNat) (c.map UInt8.ofNat)=Ao c s
 |[],_=>by cases c<;>simp [Lib.contains,Lib.index,Ao,Og]
 |b::bs,h=>by
  have ih:=Ft hc (s:=bs) fun z hz=>h z (by simp [hz]);have hp:=VH hc h;simp only [aC] at hp;unfold Lib.contains at *;simp only [aC,Lib.index,Ao]
  grind
theorem PR [bN] (hg: ∀(ρ:Nat->Int) (ro:Nat->Prop) (w:World),bN.ok ρ ro w.heap->∀s sub:ByteArray,s.size<4294967281->Calls P g #[.string s,.string sub] w fun e w'=>e= .returned (.bool (Lib.contains s.data.toList sub.data.toList))/\w'=w)
 (mK: ∀(args:Array Value) (w:World),(callFunc g args).run P w= .ok (.enter g args) w):kN P g uL:=by
 intro awN s E w vals u s' r hv hp Y;unfold uL at Y;split at Y
 ·rename_i b c;split at Y
  ·rename_i hlen;have:=bE Y;simp only [ak] at this;obtain⟨rfl,rfl⟩:=this;simp only [cP,VR] at hv;obtain⟨u1,r1,rfl,⟨rfl,Tt⟩,u2,r2,rfl,⟨rfl,O7⟩,rfl⟩:=hv;refine⟨rfl,hp,?_⟩;unfold mB pP;rw [mK];refine Calls.mono (hg E.ρ E.ro w r.mq (dv b) (dv c) (by simpa [dv,ByteArray.size] using hlen)) fun e w' ⟨he,hw⟩=>?_;subst hw;refine⟨_,he,E,fm.refl _ _ _,r,?_⟩;simp only [VR,SB.den];have Z: ∀l:List Nat,(dv l).data.toList=l.map UInt8.ofNat:=by intro l; simp [dv]
   rw [Z,Z,Ft O7 Tt]
  ·simp [T.leaf] at Y
 ·simp [T.leaf] at Y
end
end
end
end Go.As
end
section
namespace Go.As
section
variable {tt:TT}
noncomputable section
structure Et where
 m:Nat
 k:Kind
 st:Nat
 rd:List Nat
structure QQ where
 is:List Et
 nE:Nat
 rs:List (Nat×List Nat)
def S5:Kind->Kind->Bool
 | .pa,.pa=>true
 | .e,.e=>true
 | .r,.r=>true
 |_,_=>false
def zr:List Nat->List Nat->Bool
 |[],[]=>true
 |a::x,b::y=>Nat.beq a b&&zr x y
 |_,_=>false
def CA:List Item->List Et->Bool
 |[],[]=>true
 |x::xs,d::ds=>Nat.beq x.m d.m&&S5 x.k d.k&&Nat.beq x.st d.st&&zr x.rd d.rd&&CA xs ds
 |_,_=>false
def Cy:List (Item×List Nat)->List (Nat×List Nat)->Bool
 |[],[]=>true
 |(x,ks)::xs,(i,js)::ys=>Nat.beq x.i i&&zr ks js&&Cy xs ys
 |_,_=>false
def Cc:Nat->List Oper->List Et->List Item
 |i,o::os,d::ds=> ⟨i,o,d.m,d.k,d.st,d.rd⟩ ::Cc (i+1) os ds
 |_,_,_=>[]
def Ye (is:List Item):List (Nat×List Nat)->List (Item×List Nat)
 |[]=>[]
 |(i,ks)::r=>match fI is i with
  |some x=>(x,ks)::Ye is r
  |none=>Ye is r
def statOf (all:List Oper) (H:QQ):Stat:=⟨Cc 0 all H.is,H.nE,Ye (Cc 0 all H.is) H.rs⟩
def wV (tt:TT) (all:List Oper) (H:QQ):Bool:=match stat tt all with
 |none=>false
 |some q=>CA q.is H.is&&Nat.beq q.nE H.nE&&Cy q.rs H.rs
theorem YJ {a b:Kind} (h:S5 a b=true):a=b:=by cases a<;>cases b<;>simp [S5] at h<;>rfl
theorem CJ: ∀{a b:List Nat},zr a b=true->a=b
 |[],[],_=>rfl
 |[],_::_,h=>by simp [zr] at h
 |_::_,[],h=>by simp [zr] at h
 |a::x,b::y,h=>by simp only [zr,an] at h;rw [ay h.1,CJ h.2]
theorem JR {tt:TT} {all:List Oper} {ms:List Nat}: ∀{os:List Oper} {i n:Nat} {ds:List Et},CA (items tt all ms os i n) ds=true->items tt all ms os i n=Cc i os ds
 |[],i,n,ds,h=>by cases ds<;>simp [items,CA,Cc] at *
 |o::os,i,n,ds,h=>by
  cases ds with
  |nil=>simp [items,CA] at h
  |cons d ds=> simp only [items,CA,an] at h;obtain⟨⟨⟨⟨U,Z⟩,h3⟩,h4⟩,h5⟩:=h;have ih:=JR h5;simp only [items,Cc];rw [ih,ay U,YJ Z,ay h3,CJ h4]
theorem VC {is:List Item}: ∀{xs:List (Item×List Nat)} {ys:List (Nat×List Nat)},(∀p∈xs,fI is p.1.i=some p.1)->Cy xs ys=true->Ye is ys=xs
 |[],[],_,_=>rfl
 |[],_::_,_,h=>by simp [Cy] at h
 |_::_,[],_,h=>by simp [Cy] at h
 |(x,ks)::xs,(i,js)::ys,hm,h=>by simp only [Cy,an] at h;have U:=hm (x,ks) ad;simp only [Ye];rw [<- ay h.1.1,U,<- CJ h.1.2,VC (fun p hp=>hm p (by simp [hp])) h.2]
theorem NH: ∀{i:Nat} {os:List Oper} {ds:List Et} {x:Item},x∈Cc i os ds->i<=x.i/\fI (Cc i os ds) (x.i-i)=some x
 |_,[],_,_,h=>by simp [Cc] at h
 |_,_::_,[],_,h=>by simp [Cc] at h
 |i,o::os,d::ds,x,h=>by
  simp only [Cc,aF] at h ⊢;rcases h with rfl|h
  ·simp [fI]
  ·obtain⟨U,Z⟩:=NH h;refine⟨J,?_⟩;have:x.i-i=(x.i-(i+1))+1:=J
   rw [this];exact Z
theorem C2 {all:List Oper} {H:QQ} (h:wV tt all H=true):stat tt all=some (statOf all H):=by
 unfold wV at h;split at h
 ·grind
 ·rename_i q hq;rw [hq];simp only [an] at h;obtain⟨⟨U,Z⟩,h3⟩:=h;have hq':=hq;unfold stat at hq';simp only at hq';split at hq'
  ·simp only [ah] at hq';subst hq';have e1:=JR U;simp only at Z h3
   have e3:Ye (Cc 0 all H.is) H.rs=_:=VC (is:=Cc 0 all H.is) (by
    intro p hp;simp only [aQ,axh] at hp;obtain⟨x,⟨hx,_⟩,rfl⟩:=hp;rw [e1] at hx;have:=(NH hx).2
    simpa using this) h3
   unfold statOf;rw [e3,<- ay Z,<- e1]
  grind
end
end
end Go.As
end

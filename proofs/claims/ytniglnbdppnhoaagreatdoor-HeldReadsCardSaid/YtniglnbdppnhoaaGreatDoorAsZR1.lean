import Derived.Test.YtniglnbdppnhoaaGreatDoorAsZR0
set_option linter.unusedSectionVars false
set_option linter.unusedVariables false
set_option linter.unusedSimpArgs false
section
namespace Go.As
section
variable {P:Program} {E:En} {w:World}
theorem bq.swap [bp] {H H2:Hp} (r:bq E H w) {id:Nat} {o o':bS} (I:H.get id=some o) (ho:OR E w.heap id o') (hg:H2.get id=some o') (hs: ∀j,j≠id->H2.get j=H.get j) (hn:H2.next=H.next) (hr:H2.res=H.res):bq E H2 w:=by
 have key: ∀j x,H2.get j=some x->∃y,H.get j=some y:=by
  intro j x hj
  grind
 refine⟨fun i hi=>r.fresh i (by rw [<- hn]; exact hi),fun q hq=>by rw [hn]; exact r.res q (by rw [<- hr]; exact hq),fun j x hj=>?_,fun i j x y hi hj he=>?_,r.oy,r.jM,?_⟩
 ·by_cases h:j=id
  ·subst h;rw [hg] at hj;simp only [af] at hj;subst hj;exact⟨(r.live j o I).1,ho,(r.live j o I).2.2⟩
  ·exact r.live j x (by rw [<- hs j h]; exact hj)
 ·obtain⟨x',M⟩:=key i x hi;obtain⟨y',hy⟩:=key j y hj;exact r.inj i j x' y' M hy he
 ·intro b x K;obtain⟨q1,q2,q3⟩:=r.hid b x K;refine⟨q1,q2,fun j y hj=>?_⟩;obtain⟨y',hy⟩:=key j y hj;exact q3 j y' hy
structure rR (H H2:Hp):Prop where
 ab: ∀j x,H.get j=some x->∃y,H2.get j=some y
 ba: ∀j x,H2.get j=some x->∃y,H.get j=some y
 next:H2.next=H.next
 res:H2.res=H.res
theorem rR.put {H:Hp} {id:Nat} {o o':bS} (I:H.get id=some o):rR H (H.put id o'):=by
 refine⟨fun j x hj=>?_,fun j x hj=>?_,rfl,rfl⟩
 all_goals grind [Hp.br]
theorem rR.symm {H H2:Hp} (a:rR H H2):rR H2 H:=⟨a.ba,a.ab,a.next.symm,a.res.symm⟩
theorem ca.left {H H2 H':Hp} {E':En} {w':World} (a:rR H H2) (s:ca E H w E' H' w'):ca E H2 w E' H' w':=
 ⟨s.ρ,s.dm,s.θ,s.κ,s.ro,fun b K=>(s.lU b K).imp id (Or.imp (fun⟨i,o,O,U⟩=>by obtain⟨y,hy⟩:=a.ab i o O; exact⟨i,y,hy,U⟩) id),by rw [a.next]; exact s.zY,by rw [a.res]; exact s.ED,
  fun i hi=>by rw [a.next,a.res]; exact s.Cz i hi,s.os,s.tape,s.output,s.size,fun b K hn=>s.bw b K fun i o ho=>by obtain⟨y,hy⟩:=a.ab i o ho; exact hn i y hy,
  fun i o ho c6=>by obtain⟨i0,o0,O,U⟩:=s.own i o ho c6; obtain⟨y,hy⟩:=a.ab i0 o0 O; exact⟨i0,y,hy,U⟩,s.hd⟩
theorem ca.right {H H' H2:Hp} {E':En} {w':World} (a:rR H' H2) (s:ca E H w E' H' w'):ca E H w E' H2 w':=
 ⟨s.ρ,s.dm,s.θ,s.κ,s.ro,s.lU,by rw [a.next]; exact s.zY,by rw [a.res]; exact s.ED,
  fun i hi=>by rw [a.next]; exact s.Cz i hi,s.os,s.tape,s.output,s.size,s.bw,
  fun i o ho c6=>by obtain⟨y,hy⟩:=a.ba i o ho; exact s.own i y hy c6,s.hd⟩
theorem bK.of {ro:Nat->Prop} {h:Array Obj} {d:D} (f:Nat->Value): ∀(cs:List CK) (j:Nat),(∀i c,cs[i]?=some c->dC ro h c (d.hd (j+i)) (f (j+i)))->bK ro h cs j d ((List.range' j cs.length).map f)
 |[],j,_=>by simp [bK]
 |c::cs,j,hh=>by
  simp only [aA,List.range'_succ,au,bK];refine⟨f j,_,rfl,by simpa using hh 0 c ad,bK.of f cs (j+1) fun i c' hi=>?_⟩;have:=hh (i+1) c' (by simpa using hi)
  grind
theorem Rd.row {ro:Nat->Prop} {h:Array Obj} {t:Nat} {d:D} {v:Value} (r:Rd ro h (.sl t) d v) {i:Nat} {x:D} (hi:d.l[i]?=some x) :
 ∃b o cap us,v= .slice (some ⟨b,o,none⟩) d.l.length cap/\ro b/\k4 ro h (rowOf t) x us/\cz h b (o+i*(rowOf t).es) us:=by
 generalize B:CK.sl t=c at r
 cases r with
 |int k n=>simp at B
 |bool b=>simp at B
 |str s=>simp at B
 |nil t=>simp [D.l] at hi
 |nh t a cap=>simp [D.l] at hi
 |one t' c b o cap ds f hr vT K O U=>
  simp only [CK.sl.injEq] at B;subst B;rw [ch] at hi ⊢;refine⟨b,o,cap,[f i],rfl,K,?_,?_⟩
  ·rw [hr];exact⟨_,rfl,(U i x hi).cell⟩
  ·rw [hr];intro j u hj
   grind [Row.es]
 |many t' cs b o cap rows f hr vT K I O U=>
  simp only [CK.sl.injEq] at B;subst B;rw [ch] at hi ⊢;rw [bc,az] at hi;obtain⟨row,fG,rfl⟩:=hi;have hlen:=I row (aP fG);refine⟨b,o,cap,(List.range' 0 cs.length).map (f i),ad,K,?_,?_⟩
  ·rw [hr];refine bK.of (f i) cs 0 fun j c hj=>?_;have Ga:j<row.length:=by rw [hlen]; exact (aL.1 hj).1
   have hd:row[j]?=some row[j]:=aJ Ga;rw [ax];have:(dL row).hd j=row[j]:=by simp [D.hd,hd]
   rw [this];exact (U i row j _ c fG hd hj).cell
  ·rw [hr];intro j u hj;rw [bc,az] at hj;obtain⟨k,R,rfl⟩:=hj
   have Ga:j<cs.length:=by
    grind
   rw [List.getElem?_range' Ga] at R;simp only [af] at R;obtain rfl:k=j:=J
   have hd:row[k]?=some row[k]:=aJ J;exact O i row k _ fG hd
theorem og (ρ:Nat->Int) (e i:Y) {x:D} {k:Nat} (hi:i.den ρ=(k:Int)) (M:(dec (e.den ρ)).l[k]?=some x):dec ((Y.op .at e i).den ρ)=x:=by simp only [Y.den,c8.den,bn,D.at,hi,a8,M,aI]
theorem fJ {tt:TT} (bx:bV P tt) {ty z:Nat} (h:ju tt ty=some z): ∃el ie,P.underlying ty=some (.slice el)/\tt el=some ie/\ie.size=z:=by
 unfold ju at h;split at h
 ·rename_i ti cN;split at h
  ·rename_i el R;simp only [dj,az] at h;obtain⟨ie,eA,rfl⟩:=h;exact⟨el,ie,cn (bx ty ti cN) R,eA,rfl⟩
  grind
 grind
theorem xS {tt:TT} (bx:bV P tt) {s s':St} (F:bu E.ρ s.pc) {ty t:Nat} {e:Y} {ix v:Z} {u ui:Value} (M:V E w.heap (.cE e t) u) (my:V E w.heap ix ui) (h:(uA tt s ty t e ix).leaf E.ρ=some (v,s')) :
 s'.bj=s.bj/\s'.h=s.h/\bu E.ρ s'.pc/\∃r,(Instr.indexAt ty u ui).run P w= .ok r w/\V E w.heap v r:=by
 unfold uA at h;split at h
 ·rename_i kd i;split at h
  ·rename_i z hz;split at h
   ·rename_i eG;obtain⟨cl,cM,O,U,N⟩:=fM F h;have:=bh N;simp only [ag] at this;obtain⟨rfl,rfl⟩:=this;refine⟨rfl,rfl,cM,?_⟩;rw [bz] at U;simp only [V] at M my;subst my;obtain⟨el,ie,hu,eA,rfl⟩:=fJ bx hz;obtain⟨k,R⟩ : ∃k:Nat,i.den E.ρ=(k:Int):=⟨(i.den E.ρ).toNat,J⟩;have c6:k<(dec (e.den E.ρ)).l.length:=J
    have hd:(dec (e.den E.ρ)).l[k]?=some (dec (e.den E.ρ)).l[k]:=aJ c6;obtain⟨b,o,cap,us,rfl,g1,g2,g3⟩:=M.row hd;refine⟨.pointer (some ⟨b,o+k*ie.size,none⟩),?_,?_⟩
    ·rw [R];simp [Instr.indexAt,asIntOf,run_underlying hu,bT (bx el ie eA),c6,cj]
    ·simp only [V];exact⟨b,_,us,rfl,g1,by rw [cF,og E.ρ e i R hd]; exact g2,by rw [eG]; exact g3,g2.iJ⟩
   grind [T.leaf]
  grind [T.leaf]
 grind [T.leaf]
theorem xA {tt:TT} (bx:bV P tt) {s s':St} (F:bu E.ρ s.pc) {ty t id:Nat} {n:Y} {ix v:Z} {u ui:Value} (M:V E w.heap (.hK id n t) u) (my:V E w.heap ix ui) (h:(ub tt s ty id t n ix).leaf E.ρ=some (v,s')) :
 s'.bj=s.bj/\s'.h=s.h/\bu E.ρ s'.pc/\∃r,(Instr.indexAt ty u ui).run P w= .ok r w/\V E w.heap v r:=by
 unfold ub at h;split at h
 ·rename_i kd i;split at h
  ·rename_i z hz;split at h
   ·rename_i eG;obtain⟨cl,cM,O,U,N⟩:=fM F h;have:=bh N;simp only [ag] at this;obtain⟨rfl,rfl⟩:=this;refine⟨rfl,rfl,cM,?_⟩;simp only [V] at M my;subst my;obtain⟨hid,m,a,cap,hn,rfl,ee,B⟩:=M;obtain⟨el,ie,hu,eA,rfl⟩:=fJ bx hz;obtain⟨k,R⟩ : ∃k:Nat,i.den E.ρ=(k:Int):=⟨(i.den E.ρ).toNat,J⟩;have c6:k<m:=J
    have ha:a=⟨(E.θ id).1,(E.θ id).2,none⟩:=by
     simp only [cg] at B
     grind
    subst ha;refine⟨.pointer (some ⟨(E.θ id).1,(E.θ id).2+k*ie.size,none⟩),?_,?_⟩
    ·rw [R];simp [Instr.indexAt,asIntOf,run_underlying hu,bT (bx el ie eA),c6,cj]
    ·simp only [V]
     grind
   grind [T.leaf]
  grind [T.leaf]
 grind [T.leaf]
theorem fT {ρ:Nat->Int} {pc:List (SB×Bool)} (F:bu ρ pc) {B0 cs:List Z} {i:Y} {k:Nat} (hi:i.den ρ=(k:Int)): ∀{ov:List (Y×List Z)},fU pc B0 i ov=some cs->
 bO ρ k ov=some cs\/(bO ρ k ov=none/\cs=B0)
 |[],h=>by simp only [fU,af] at h; exact .inr ⟨rfl,h.symm⟩
 |(j,c)::l,h=>by
  simp only [fU] at h;simp only [bO];split at h
  ·rename_i he
   grind [bD]
  ·split at h
   ·rename_i b hd;have hd:=cR F hd;rw [cW] at hd;split at h
    ·grind
    ·rw [beq_eq_false_iff_ne,hi] at hd;rw [ah (fun q=>hd q.symm)];exact fT F hi h
   grind
theorem kE {α:Type} {ρ:Nat->Int} {i:Y} {r:α}: ∀{ov:List (Y×List Z)} {s:St} {k:St->T α},bu ρ s.pc->(jQ i ov s k).leaf ρ=some r->∃cl,bu ρ cl/\(k { s with pc:=cl }).leaf ρ=some r
 |[],s,k,F,h=> ⟨s.pc,F,h⟩
 |(j,c)::l,s,k,F,h=>by
  simp only [jQ] at h;split at h
  ·exact⟨s.pc,F,h⟩
  ·obtain⟨ea,dE,O⟩:=bH F h;split at O
   ·grind
   ·exact kE (s:={ s with pc:=ea }) dE O
theorem dF {ρ:Nat->Int} {r:Row} {ov:List (Y×List Z)} (ho:jY r ov): ∀{ds:List D} {j k:Nat} {x:D},ds[k]?=some x->
 bk ρ r ov ds j=bk ρ r ov (ds.take k) j++((match bO ρ (j+k) ov with |some cs=>cs|none=>cT r (.cE x))++bk ρ r ov (ds.drop (k+1)) (j+k+1))/\(bk ρ r ov (ds.take k) j).length=k*r.es
 |[],j,k,x,h=>by simp at h
 |d::ds,j,0,x,h=>by
  simp only [aaq,af] at h;subst h;refine⟨?_,by simp [bk]⟩;simp only [List.take_zero,bk,aab,aH,List.drop_succ_cons,abd]
  try rfl
 |d::ds,j,k+1,x,h=>by
  have h':ds[k]?=some x:=by simpa using h
  have R:k<ds.length:=(aL.1 h').1;obtain⟨O,U⟩:=dF (ρ:=ρ) ho (j:=j+1) h';refine⟨?_,?_⟩
  ·simp only [aar,bk,aae,List.drop_succ_cons]
   grind
  grind [bB]
theorem jv {α:Type}: ∀(a b:List α),b8 a.length (a++b)=some b
 |[],_=>rfl
 |x::a,b=>by simp [b8,jv a b]
theorem rb {α:Type}: ∀{n:Nat} {a b l:List α},b8 n a=some l->b8 n (a++b)=some (l++b)
 |0,a,b,l,h=>by simp only [b8,af] at h ⊢; rw [h]
 |n+1,[],b,l,h=>by simp [b8] at h
 |n+1,x::a,b,l,h=>by simp only [b8,aM] at h ⊢; exact rb h
theorem pH {α:Type}: ∀{n:Nat} {a b l:List α},di n a=some l->di n (a++b)=some l
 |0,a,b,l,h=>by simp only [di] at h ⊢; exact h
 |n+1,[],b,l,h=>by simp [di] at h
 |n+1,x::a,b,l,h=>by
  simp only [di,aM] at h ⊢;split at h
  ·rename_i l' I;rw [pH I];exact h
  grind
theorem ta {α:Type}: ∀{a b:Nat} {l m:List α},b8 a l=some m->b8 (a+b) l=b8 b m
 |0,b,l,m,h=>by simp only [b8,af] at h; subst h; rw [ax]
 |a+1,b,[],m,h=>by simp [b8] at h
 |a+1,b,x::l,m,h=>by rw [show a+1+b=(a+b)+1 by omega];simp only [b8] at h ⊢;exact ta h
noncomputable def bA (ρ:Nat->Int) (e:Y) (t:Nat) (ov:List (Y×List Z)):List Z:=bk ρ (rowOf t) ov (dec (e.den ρ)).l 0
theorem OR.gY {h:Array Obj} {id:Nat} {e:Y} {t:Nat} {ty:TypeId} {ov:List (Y×List Z)}:OR E h id (.vec e t ty ov)↔(jY (rowOf t) ov/\jL (rowOf t) (dec (e.den E.ρ)))/\OR E h id (.cells (bA E.ρ e t ov) ty):=by simp only [OR,bA]
theorem bq.gY [bp] {H:Hp} (r:bq E H w) {id:Nat} {e:Y} {t:Nat} {ty:TypeId} {ov:List (Y×List Z)} (I:H.get id=some (.vec e t ty ov)):bq E (H.put id (.cells (bA E.ρ e t ov) ty)) w/\jY (rowOf t) ov/\jL (rowOf t) (dec (e.den E.ρ)):=by obtain⟨O,U⟩:=OR.gY.1 (r.live id _ I).2.1;exact⟨r.swap I U (by rw [Hp.br,ak rfl]) (fun j hj=>by rw [Hp.br,ah hj]) rfl rfl,O⟩
theorem lr {h:Array Obj} {r:Row} {x y:Y} (hd:dec (x.den E.ρ)=dec (y.den E.ρ)) {us:List Value}:bC E h (cT r x) us↔bC E h (cT r y) us:=by
 grind [cF]
theorem Cb [bp] {H:Hp} (r:bq E H w) {id:Nat} {e i:Y} {t:Nat} {ty:TypeId} {ov:List (Y×List Z)} (I:H.get id=some (.vec e t ty ov)) {k:Nat} (hi:i.den E.ρ=(k:Int)) (R:(k:Int)<(bL e).den E.ρ)
 {pc:List (SB×Bool)} (F:bu E.ρ pc) {cs:List Z} (B:fU pc (cT (rowOf t) (.op .at e i)) i ov=some cs) :
 ∃pre row post,bA E.ρ e t ov=pre++(row++post)/\pre.length=k*(rowOf t).es/\row.length=(rowOf t).es/\(∀h us,bC E h row us↔bC E h cs us)/\cs.length=(rowOf t).es:=by
 obtain⟨_,ho,jO⟩:=r.gY I;rw [bz] at R;have c6:k<(dec (e.den E.ρ)).l.length:=J
 have hd:(dec (e.den E.ρ)).l[k]?=some (dec (e.den E.ρ)).l[k]:=aJ c6;obtain⟨O,U⟩:=dF (ρ:=E.ρ) ho (j:=0) hd;refine⟨_,_,_,O,U,?_⟩;rw [ax];rcases fT F hi B with N|⟨N,rfl⟩
 ·rw [N];obtain⟨p,p1,p2,_⟩:=eu N;have:=ho p p1
  grind
 ·rw [N];refine⟨cV _ _,fun h us=>lr ?_,cV _ _⟩;rw [og E.ρ e i hi hd];simp only [Y.den,bn]
theorem zV {i:TI} {l m:List Z} {v:Z} (h:partOf i l=some v):partOf i (l++m)=some v:=by
 unfold partOf at h ⊢;split at h
 ·rename_i ha;rw [az] at h
  grind [pH]
 grind
theorem sB [bp] {tt:TT} (bx:bV P tt) {H:Hp} (r:bq E H w) {id:Nat} {cs:List Z} {e:TypeId} (I:H.get id=some (.cells cs e)) {ty:Nat} {ti:TI} (cN:tt ty=some ti) {off:Nat} {l:List Z} (hd:b8 off cs=some l) {v:Z} (W:partOf ti l=some v) :
 ∃x,(loadVar ty ⟨(E.θ id).1,(E.θ id).2+off,none⟩).run P w= .ok x w/\V E w.heap v x:=by
 have LW:n8 tt ty (.ptr id off) H=some v:=by
  unfold n8 partOf at *;rw [cN];simp only [fu,I,hd];split at W
  ·exact W
  ·split at W
   ·simp only [af] at W;subst W;rfl
   grind
 have hid:=(r.live id _ I).1;obtain⟨x,b,o,O,U,N⟩:=n7 bx r (p:=.ptr id off) (u:=.pointer (some ⟨(E.θ id).1,(E.θ id).2+off,none⟩)) (by simp only [V]; exact⟨trivial,hid⟩) LW
 grind
theorem qo {k:IntKind}: ∀{cs:List Z} {ds:List D},qp k cs=some ds->ds.length=cs.length/\∀(i:Nat),i<cs.length->∃n,ds[i]?=some (.i n)/\cs[i]?=some (.int k (.lit n))
 |[],ds,h=>by
  simp only [qp,af] at h
  grind
 |v::vs,ds,h=>by
  simp only [qp] at h;split at h
  ·split at h
   ·rename_i k' n;split at h
    ·rename_i R;subst R;split at h
     ·rename_i Es kP;simp only [af] at h;subst h;obtain⟨O,U⟩:=qo kP
      grind
     grind
    grind
   grind
  grind
theorem od {α:Type}: ∀{i:Nat} {cs:List α} {a:α},cs[i]?=some a->∃l,b8 i cs=some (a::l)
 |0,[],a,h=>by simp at h
 |0,c::cs,a,h=>by simp only [aaq,af] at h; subst h; exact⟨cs,rfl⟩
 |i+1,[],a,h=>by simp at h
 |i+1,c::cs,a,h=>od (cs:=cs) (by simpa using h)
theorem v8 {ρ:Nat->Int} {s s':St} {cs:List Z} {e:Y} {v:Z} (F:bu ρ s.pc) (h:(sY s cs e).leaf ρ=some (v,s')) :
 s'.bj=s.bj/\s'.h=s.h/\bu ρ s'.pc/\∃(i:Nat) (k:IntKind) (n:Int) (x:Y),e.den ρ=(i:Int)/\i<cs.length/\cs[i]?=some (.int k (.lit n))/\v= .int k x/\x.den ρ=n:=by
 unfold sY at h;split at h
 ·grind [T.leaf]
 ·rename_i k R;split at h
  ·grind [T.leaf]
  ·rename_i ds kP;obtain⟨O,U⟩:=qo kP;obtain⟨cl,cM,g1,g2,g3⟩:=fM F h;simp only [T.leaf,af,ag] at g3;obtain⟨rfl,rfl⟩:=g3;have MQ:e.den ρ<(ds.length:Int):=by simpa [Y.den] using g2
   have hi:e.den ρ=((e.den ρ).toNat:Int):=J
   have c6:(e.den ρ).toNat<cs.length:=J
   obtain⟨n,d1,d2⟩:=U _ c6;refine⟨rfl,rfl,cM,_,k,n,_,hi,c6,d2,rfl,?_⟩;simp only [nr,Y.den,c8.den,bn,D.at,ch,d1,aI,D.n]
theorem xL [bp] {tt:TT} (bx:bV P tt) {s s':St} (r:bq E s.h w) (F:bu E.ρ s.pc) {ty id es:Nat} {i:Y} {off:Nat} {v:Z} {u:Value} (M:V E w.heap (.nk id es i off) u) (h:(mL tt s ty id es i off).leaf E.ρ=some (v,s')) :
 s'.bj=s.bj/\s'.h=s.h/\bu E.ρ s'.pc/\∃x b o,u= .pointer (some ⟨b,o,none⟩)/\(loadVar ty ⟨b,o,none⟩).run P w= .ok x w/\V E w.heap v x:=by
 unfold mL at h;split at h
 ·rename_i o I;split at h
  ·rename_i cs MR;split at h
   ·rename_i ti cN;split at h
    ·simp [T.leaf] at h
    ·rename_i K;simp only [Bool.or_eq_false_iff,Bool.not_eq_false'] at K;have eG:=aq K.1.2;have LN:=aq K.2;subst eG LN;obtain⟨O,U,N,k,kd,n,x,g1,g2,g3,rfl,g5⟩:=v8 F h;refine⟨O,U,N,?_⟩;simp only [V] at M;obtain⟨hid,k',R,rfl⟩:=M;have j7:k'=k:=J
     subst j7;obtain⟨l,hd⟩:=od g3;obtain⟨y,q1,q2⟩:=sB (P:=P) bx r I cN hd (v:=.int kd (.lit n)) (by unfold partOf; rw [K.1.1]);refine⟨y,_,_,rfl,by rw [aaU,aH]; exact q1,?_⟩;simp only [V,Y.den] at q2 ⊢;rw [q2,g5]
   ·simp [T.leaf] at h
  ·rename_i e t np ov;split at h
   ·rename_i ti cN;split at h
    ·rename_i eG;obtain⟨GP,D6,O,U,N⟩:=fM F h;obtain⟨cl,cM,N⟩:=kE (s:={ s with pc:=GP }) D6 N;split at N
     ·rename_i cs B;split at N
      ·rename_i l xt;obtain⟨e1,rfl⟩:=cU N;refine⟨rfl,rfl,cM,?_⟩;simp only [V] at M;obtain⟨hid,k,R,rfl⟩:=M;obtain⟨pre,row,post,c1,c2,c3,c4,c5⟩:=Cb r I R (by rw [<- R]; exact U) cM B;obtain⟨rc,ho,jO⟩:=r.gY I
       have fG:OR E w.heap id (.cells (pre++(cs++post)) np):=by have:=(rc.live id _ (by rw [Hp.br,ak rfl])).2.1;rw [c1] at this;simp only [OR] at this ⊢;obtain⟨arr,lo,hi,us,q1,q2,q3,q4,q5,q6,q7⟩:=this;refine⟨arr,lo,hi,us,q1,?_,q3,by simp only [aO,c3,c5] at q4 ⊢; exact q4,q5,q6,q7⟩;obtain⟨a,b,rfl,a1,a2⟩:=q2.split;obtain⟨a',b',rfl,b1,b2⟩:=a2.split;exact a1.append (((c4 _ _).1 b1).append b2)
       have r2:=r.swap (H2:=s.h.put id (.cells (pre++(cs++post)) np)) I fG (by rw [Hp.br,ak rfl]) (fun j hj=>by rw [Hp.br,ah hj]) rfl rfl
       have JR:b8 (k*es+off) (pre++(cs++post))=some (l++post):=by rw [ta (m:=cs++post) (by rw [<- eG,<- c2]; exact jv pre _)];exact rb xt
       obtain⟨x,g1,g2⟩:=sB bx r2 (by rw [Hp.br,ak rfl]) cN JR (zV e1);exact⟨x,_,_,rfl,g1,g2⟩
      ·simp [T.leaf] at N
     ·simp [T.leaf] at N
    ·simp [T.leaf] at h
   ·simp [T.leaf] at h
  ·simp [T.leaf] at h
 ·simp [T.leaf] at h
end
theorem dC.rd {ro:Nat->Prop} {h:Array Obj} {c:CK} {d:D} {u:Value} (r:dC ro h c d u) (wf:gu c d):Rd ro h c d u:=by
 cases c with
 |int k=> simp only [dC,gu] at r wf;rw [wf,r];exact .int k d.n
 |bool=>
  simp only [dC,gu] at r wf;subst r;rcases wf with rfl|rfl
  ·exact .bool false
  ·exact .bool true
 |str=>exact r
 |sl t=>exact r
theorem bK.get {ro:Nat->Prop} {h:Array Obj} {d:D}: ∀{cs:List CK} {j:Nat} {us:List Value},bK ro h cs j d us->∀{k:Nat} {c:CK},cs[k]?=some c->∃u,us[k]?=some u/\dC ro h c (d.hd (j+k)) u
 |[],_,_,_,k,c,R=>by simp at R
 |c0::cs,j,us,hh,k,c,R=>by
  simp only [bK] at hh;obtain⟨u,vs,rfl,O,U⟩:=hh
  cases k with
  |zero=>
   grind
  |succ k=>
   obtain⟨x,N,h4⟩:=U.get (by simpa using R)
   grind
theorem bK.length {ro:Nat->Prop} {h:Array Obj} {d:D}: ∀{cs:List CK} {j:Nat} {us:List Value},bK ro h cs j d us->us.length=cs.length
 |[],_,us,hh=>by simp only [bK] at hh; subst hh; rfl
 |c::cs,j,us,hh=>by simp only [bK] at hh;obtain⟨u,vs,rfl,_,U⟩:=hh;simp [U.length]
theorem bK.shift {ro:Nat->Prop} {h:Array Obj} {a b:D}: ∀{cs:List CK} {j:Nat} {us:List Value},bK ro h cs (j+1) (.p a b) us↔bK ro h cs j b us
 |[],_,us=>by simp only [bK]
 |c::cs,j,us=>by
  simp only [bK,mA];constructor
  ·rintro⟨u,vs,rfl,O,U⟩;exact⟨u,vs,rfl,O,bK.shift.1 U⟩
  ·rintro⟨u,vs,rfl,O,U⟩;exact⟨u,vs,rfl,O,bK.shift.2 U⟩
section
variable {P:Program} {E:En} {w:World}
theorem iP {ρ:Nat->Int} {c:CK} {v:Z} {a:Y} (h:fK c v=some a):gu c (dec (a.den ρ)):=by
 unfold fK at h;split at h
 ·split at h
  ·split at h
   ·simp only [af] at h;subst h;simp only [gu,fS,bn,D.n]
   grind
  grind
 ·split at h
  ·split at h
   ·rename_i b;simp only [af] at h;subst h;simp only [gu,Y.den,bn]
    grind
   ·split at h
    ·split at h
     ·split at h
      ·simp only [af] at h;subst h;simp only [gu,Y.den,c8.den,bn]
       grind
      grind
     grind
    grind
   grind
  grind
 ·trivial
 ·trivial
theorem iQ {h:Array Obj} {c:CK} {v:Z} {u:Value} {a:Y} (W:V E h v u) (B:fK c v=some a):dC E.ro h c (dec (a.den E.ρ)) u:=by
 unfold fK at B;split at B
 ·split at B
  ·split at B
   ·rename_i R;subst R;simp only [af] at B;subst B;simp only [V] at W;simp only [dC,fS,bn,D.n];exact W
   grind
  grind
 ·split at B
  ·split at B
   ·rename_i b;simp only [af] at B;subst B;simp only [V,SB.den] at W;subst W;simp only [dC,Y.den,bn];cases b<;>rfl
   ·split at B
    ·split at B
     ·split at B
      ·rename_i x n hn;subst hn;simp only [af] at B;subst B;simp only [V,SB.den,Y.den] at W;subst W;simp only [dC,Y.den,c8.den,fS,bn,D.n];congr 2
       grind
      grind
     grind
    grind
   grind
  grind
 ·obtain⟨s,rfl,hs⟩:=pK W B;simp only [dC,hs];exact .str s
 ·split at B
  ·split at B
   ·rename_i ht;subst ht;simp only [af] at B;subst B;exact W
   grind
  ·simp only [af] at B;subst B;simp only [V] at W;subst W;simp only [dC,Y.den,bn];exact .nil _
  ·split at B
   ·rename_i ht;subst ht;simp only [af] at B;subst B;simp only [V] at W;exact W.2
   grind
  ·split at B
   ·simp only [af] at B;subst B;simp only [V] at W;obtain⟨_,a,cap,rfl,_⟩:=W;simp only [dC,Y.den,bn];exact .nh _ _ _
   grind
  grind
theorem jC {ρ:Nat->Int}: ∀{cs:List CK} {vs:List Z} {x:Y},de cs vs=some x->k0 cs (dec (x.den ρ))
 |[],[],x,h=>by
  simp only [de,af] at h;subst h;refine⟨?_,?_,?_⟩
  ·simp only [Y.den,bn]; rfl
  ·simp only [Y.den,bn]; rfl
  grind
 |[],_::_,x,h=>by simp [de] at h
 |_::_,[],x,h=>by simp [de] at h
 |c::cs,v::vs,x,h=>by
  simp only [de] at h;split at h
  ·grind
  ·rename_i a ha;split at h
   ·grind
   ·rename_i b K;simp only [af] at h;subst h;obtain⟨O,U,N⟩:=jC (ρ:=ρ) K;refine⟨?_,?_,?_⟩
    ·simp only [cm,Y.den,c8.den,bn,D.l,dL]
     grind
    ·simp only [cm,Y.den,c8.den,bn,D.l,aA,U]
    ·intro j c' y hj hy;simp only [cm,Y.den,c8.den,bn,D.l] at hy
     cases j with
     |zero=> simp only [aaq,af] at hj hy;subst hj hy;exact iP ha
     |succ j=>exact N j c' y (by simpa using hj) (by simpa using hy)
theorem jD {h:Array Obj}: ∀{cs:List CK} {vs:List Z} {us:List Value} {x:Y},bC E h vs us->de cs vs=some x->bK E.ro h cs 0 (dec (x.den E.ρ)) us
 |[],[],us,x,W,B=>by simp only [bC] at W; subst W; simp [bK]
 |[],_::_,_,x,_,B=>by simp [de] at B
 |_::_,[],_,x,_,B=>by simp [de] at B
 |c::cs,v::vs,us,x,W,B=>by
  simp only [de] at B;rw [bt] at W;obtain⟨u,dh,rfl,O,U⟩:=W;split at B
  ·grind
  ·rename_i a ha;split at B
   ·grind
   ·rename_i b K;simp only [af] at B;subst B;simp only [bK,cm,Y.den,c8.den,bn];refine⟨u,dh,rfl,by rw [mz]; exact iQ O ha,?_⟩;rw [bK.shift];exact jD U K
theorem jA {ρ:Nat->Int} {r:Row} {cs:List Z} {x:Y} (h:ij r cs=some x):hJ r (dec (x.den ρ)):=by
 unfold ij at h;split at h
 ·split at h
  ·exact iP h
  grind
 ·exact jC h
theorem jB {h:Array Obj} {r:Row} {cs:List Z} {us:List Value} {x:Y} (W:bC E h cs us) (B:ij r cs=some x):k4 E.ro h r (dec (x.den E.ρ)) us:=by
 unfold ij at B;split at B
 ·split at B
  ·rw [bt] at W;obtain⟨u,dh,rfl,O,U⟩:=W;rw [cZ] at U;subst U;exact⟨u,rfl,iQ O B⟩
  grind
 ·exact jD W B
theorem ky {ρ:Nat->Int} {r:Row}: ∀(m:Nat) {e e1:Y} {news:List Z},ei r e m news=some e1->
 ∃ds:List D,ds.length=m/\(dec (e1.den ρ)).l=(dec (e.den ρ)).l++ds/\(dec (e.den ρ)=dL (dec (e.den ρ)).l->dec (e1.den ρ)=dL (dec (e1.den ρ)).l)/\(∀d∈ds,hJ r d)/\
  ∀(E':En) (h:Array Obj) (us:List Value) (j:Nat),E'.ρ=ρ->bC E' h news us->bC E' h (bk ρ r [] ds j) us
 |0,e,e1,[],h=>by simp only [ei,af] at h;subst h;exact⟨[],rfl,ad,id,ad,fun E' h us j _ W=>by simpa [bk] using W⟩
 |0,e,e1,_::_,h=>by simp [ei] at h
 |m+1,e,e1,news,h=>by
  simp only [ei] at h;split at h
  ·grind
  ·rename_i x M;obtain⟨ds,O,U,N,h4,h5⟩:=ky (ρ:=ρ) m h;have hs:dec ((Y.op .snoc e x).den ρ)=dL ((dec (e.den ρ)).l++ [dec (x.den ρ)]):=by simp only [Y.den,c8.den,bn]
   refine⟨dec (x.den ρ)::ds,by simp [O],?_,fun _=>N (by rw [hs,ch]),?_,?_⟩
   ·rw [U,hs,ch]; simp
   ·intro d hd;rcases aw.1 hd with rfl|hd
    ·exact jA M
    grind
   ·intro E' h us j hρ W;rw [<- aas r.es news] at W;obtain⟨a,b,rfl,a1,a2⟩:=W.split;simp only [bk,bO];refine bC.append ?_ (h5 E' h b (j+1) hρ a2);rw [cF];simp only [Y.den,bn];have:=jB a1 M
    grind
theorem yl {h:Array Obj} {id:Nat} {e:Y} {t:Nat} {ty:TypeId} {ro:Nat->Prop} (eP: ∀b,E.ro b->ro b) (K:ro (E.θ id).1) (ho:OR E h id (.vec e t ty [])) {k cap:Nat} {a:Addr} (R:k=(dec (e.den E.ρ)).l.length) (ee:k<=cap)
 (B:0<k->a=⟨(E.θ id).1,(E.θ id).2,none⟩):Rd ro h (.sl t) (dec (e.den E.ρ)) (.slice (some a) k cap):=by
 obtain⟨⟨oJ,jO⟩,rI⟩:=OR.gY.1 ho;obtain⟨us,O,U,N⟩:=lk rI;obtain⟨w1,w2,w3⟩:=jO;rcases aat k with h0|gq
 ·subst h0;exact absurd (aaf R.symm) w3
 ·have ha:a=⟨(E.θ id).1,(E.θ id).2,none⟩:=B gq;subst ha;subst R
  have fG: ∀(i:Nat) (x:D),(dec (e.den E.ρ)).l[i]?=some x->∃rs,k4 ro h (rowOf t) x rs/\∀j u,rs[j]?=some u->us[i*(rowOf t).es+j]?=some u:=by
   intro i x M;obtain⟨c1,c2⟩:=dF (ρ:=E.ρ) oJ (j:=0) M;unfold bA at O;rw [c1] at O;obtain⟨p,q,rfl,p1,p2⟩:=O.split;obtain⟨q1,q2,rfl,r1,r2⟩:=p2.split;have F:=p1.length;rw [c2] at F;refine⟨q1,?_,?_⟩
   ·have F3:bC E h (cT (rowOf t) (.cE x)) q1:=r1;rw [cF] at F3;simp only [Y.den,bn] at F3
    have mono: ∀c d u,dC E.ro h c d u->dC ro h c d u:=by
     intro c d u hh
     cases c with
     |int k=>exact hh
     |bool=>exact hh
     |str=>exact Rd.bw eP (fun _ _=>rfl) hh
     |sl t=>exact Rd.bw eP (fun _ _=>rfl) hh
    have GW: ∀(cs:List CK) (j:Nat) (d:D) (us:List Value),bK E.ro h cs j d us->bK ro h cs j d us:=by
     intro cs
     induction cs with
     |nil=>intro j d us hh; exact hh
     |cons c cs ih=> intro j d us hh;obtain⟨u,vs,rfl,g1,g2⟩:=hh;exact⟨u,vs,rfl,mono _ _ _ g1,ih _ _ _ g2⟩
    cases hr:rowOf t with
    |one c=> rw [hr] at F3;obtain⟨u,rfl,g1⟩:=F3;exact⟨u,rfl,mono _ _ _ g1⟩
    |many cs=> rw [hr] at F3;exact GW _ _ _ _ F3
   ·intro j u hj;rw [List.getElem?_append_right J,F];rw [show i*(rowOf t).es+j-i*(rowOf t).es=j by omega];have:=(aL.1 hj).1;rw [List.getElem?_append_left this];exact hj
  rw [w1];simp only [ch] at fG ⊢;generalize hL:(dec (e.den E.ρ)).l=L at *
  cases hr:rowOf t with
  |one c=>
   refine .one t c _ _ cap L (fun i=>(us[i]?).getD undef) hr ee K ?_ ?_
   ·intro i d hd;obtain⟨rs,g1,g2⟩:=fG i d hd;rw [hr] at g1;obtain⟨u,rfl,g3⟩:=g1;have:=g2 0 u rfl;rw [hr] at this;simp only [Row.es,aaU,aH] at this;rw [this];exact U i u this
   ·intro i d hd;obtain⟨rs,g1,g2⟩:=fG i d hd;rw [hr] at g1;obtain⟨u,rfl,g3⟩:=g1;have:=g2 0 u rfl;rw [hr] at this;simp only [Row.es,aaU,aH] at this;rw [this];have hw:=w2 d (aP hd);rw [hr] at hw;exact g3.rd hw
  |many cs=>
   have Iw: ∀d∈L,k0 cs d:=by intro d hd;have:=w2 d hd;rw [hr] at this;exact this
   have Mj:L=(L.map D.l).map dL:=by rw [aax];have:L.map (dL ∘ D.l)=L.map (fun d=>d):=aa4 fun d hd=>(Iw d hd).1.symm;rw [this,List.map_id']
   have hlen:(L.map D.l).length=L.length:=ad
   have HR:(L.map D.l).length<=cap:=by rw [hlen]; exact ee
   have goal:Rd ro h (.sl t) (dL ((L.map D.l).map dL)) (.slice (some ⟨(E.θ id).1,(E.θ id).2,none⟩) (L.map D.l).length cap):=by
    refine .many t cs _ _ cap (L.map D.l) (fun i j=>(us[i*cs.length+j]?).getD undef) hr HR K ?_ ?_ ?_
    ·intro r Fa;rw [aF] at Fa;obtain⟨d,hd,rfl⟩:=Fa;exact (Iw d hd).2.1
    ·intro i r j d hi hj;rw [bc,az] at hi;obtain⟨x,M,rfl⟩:=hi;obtain⟨rs,g1,g2⟩:=fG i x M;rw [hr] at g1;have Ga:j<cs.length:=by rw [<- (Iw x (aP M)).2.1]; exact (aL.1 hj).1
     obtain⟨u,g3,g4⟩:=bK.get g1 (aJ Ga);have:=g2 j u g3;rw [hr] at this;simp only [Row.es] at this;rw [this,aQ];exact U _ u this
    ·intro i r j d c hi hj Gc;rw [bc,az] at hi;obtain⟨x,M,rfl⟩:=hi;obtain⟨rs,g1,g2⟩:=fG i x M;rw [hr] at g1;obtain⟨u,g3,g4⟩:=bK.get g1 Gc;have:=g2 j u g3;rw [hr] at this;simp only [Row.es] at this;rw [this];rw [ax] at g4;have hd:x.hd j=d:=by simp [D.hd,hj]
     rw [hd] at g4;exact g4.rd ((Iw x (aP M)).2.2 j c d Gc hj)
   rw [<- Mj,hlen] at goal;exact goal
theorem AL {h:Array Obj} {id:Nat} {e:Y} {t:Nat} {ty:TypeId} {ro:Nat->Prop} (eP: ∀b,E.ro b->ro b) (K:ro (E.θ id).1) (ho:OR E h id (.vec e t ty [])) {k cap:Nat} {a:Addr} (R:k=(dec (e.den E.ρ)).l.length) (ee:k<=cap)
 (B:cg E id 0 k a cap (.rest (rowOf t).es)):Rd ro h (.sl t) (dec (e.den E.ρ)) (.slice (some a) k cap):=by
 refine yl eP K ho R ee fun gq=>?_;simp only [cg] at B
 grind
structure Sub (H' H:Hp):Prop where
 get: ∀j o,H'.get j=some o->H.get j=some o
 next:H'.next=H.next
 res:H'.res=H.res
theorem Sub.refl (H:Hp):Sub H H:=⟨fun _ _ h=>h,rfl,rfl⟩
theorem Sub.trans {Z_ Y_ C:Hp} (a:Sub Y_ Z_) (b:Sub C Y_):Sub C Z_:=⟨fun j o h=>a.get j o (b.get j o h),b.next.trans a.next,b.res.trans a.res⟩
theorem Sub.drop (H:Hp) (id:Nat):Sub (H.drop id) H:=by
 refine⟨fun j o hj=>?_,rfl,rfl⟩
 grind [Hp.gb]
theorem uK [bp] {H:Hp} (r:bq E H w) {id:Nat} {o:bS} (I:H.get id=some o) :
 c9 E w.heap { E with ro:=fun b=>E.ro b\/b=(E.θ id).1 } w.heap/\ca E H w { E with ro:=fun b=>E.ro b\/b=(E.θ id).1 } (H.drop id) w/\bq { E with ro:=fun b=>E.ro b\/b=(E.θ id).1 } (H.drop id) w:=by
 have R:c9 E w.heap { E with ro:=fun b=>E.ro b\/b=(E.θ id).1 } w.heap:=⟨rfl,fun _ h=>h,fun _ _=>rfl,fun _ _=>rfl,fun _ h=> .inl h,fun _ _=>rfl⟩
 have hg: ∀j o,(H.drop id).get j=some o->H.get j=some o/\j≠id:=by
  intro j o hj
  grind [Hp.gb]
 refine⟨R,⟨rfl,fun _ h=>h,fun _ _=>rfl,fun _ _=>rfl,fun _ h=> .inl h,?_,ar _,.inr rfl,fun _ h=> .inl h,rfl,rfl,rfl,ar _,fun _ _ _=>rfl,fun j o hj _=> ⟨j,o,(hg j o hj).1,rfl⟩,rfl⟩,
  ⟨r.fresh,r.res,?_,?_,?_,bp.bw r.jM (fun _ h=> .inl h) (fun _ _=>rfl),fun b x K=> ⟨(r.hid b x K).1,fun h=>h.elim (r.hid b x K).2.1 fun e=>(r.hid b x K).2.2 id o I e.symm,fun j o hj=>(r.hid b x K).2.2 j o (hg j o hj).1⟩⟩⟩
 ·intro b K
  grind
 ·intro j o hj;obtain⟨O,U⟩:=hg j o hj;obtain⟨g1,g2,g3⟩:=r.live j o O;refine⟨g1,g2.bw R g1 rfl (fun _ _ _ h=> ⟨h,rfl⟩),?_⟩;rintro (K|K)
  ·grind
  ·exact U (r.inj j id o _ O I K)
 ·intro i j x y hi hj he;exact r.inj i j x y (hg i x hi).1 (hg j y hj).1 he
 ·intro b K;rcases K with K|rfl
  ·exact r.oy b K
  ·exact eO r I
theorem FD [bp] {H H':Hp} (r:bq E H w) {v v':Z} (h:Cx v H=(v',H')) :
 ∃E',E'.ρ=E.ρ/\ca E H w E' H' w/\bq E' H' w/\(∀u,V E w.heap v u->V E' w.heap v' u)/\Sub H' H:=by
 have same:(v,H)=(v',H')->∃E',E'.ρ=E.ρ/\ca E H w E' H' w/\bq E' H' w/\(∀u,V E w.heap v u->V E' w.heap v' u)/\Sub H' H:=by
  intro he;simp only [ag] at he
  grind [ca.refl,Sub.refl]
 unfold Cx at h;split at h
 ·rename_i id n t;split at h
  ·rename_i o I;split at h
   ·rename_i e t' ty ov;split at h
    ·split at h
     ·rename_i ht;split at h
      ·rename_i hn;simp only [ag] at h;obtain⟨rfl,rfl⟩:=h;have ht:=aq ht;have hn:=bD _ _ hn;subst ht hn;have BD:=r.live id _ I;obtain⟨R,s1,r1⟩:=uK r I;refine⟨{ E with ro:=fun b=>E.ro b\/b=(E.θ id).1 },rfl,s1,r1,fun u W=>?_,Sub.drop _ _⟩;simp only [V] at W ⊢
       grind [bz,AL]
      grind
     grind
    grind
   grind
  grind
 ·simp only [ag] at h;obtain⟨rfl,rfl⟩:=h;exact⟨E,rfl,ca.refl _ _ _,r,fun u hu=>by simp only [V] at hu ⊢; exact hu.2,Sub.refl _⟩
 grind
end
section
variable {P:Program} {E:En} {w:World}
theorem Rd.part {ro:Nat->Prop} {h:Array Obj} {t:Nat} {d:D} {b o n cap l k:Nat} (r:Rd ro h (.sl t) d (.slice (some ⟨b,o,none⟩) n cap)) (I:l<=k) (R:k<=n) (hn:n<=cap) :
 Rd ro h (.sl t) (fx d ((d.l.take k).drop l)) (.slice (some (if cap=l then⟨b,o,none⟩ else⟨b,o+l*(rowOf t).es,none⟩)) (k-l) (cap-l)):=by
 by_cases h0:k-l=0
 ·have:(d.l.take k).drop l= []:=by
   apply List.drop_eq_nil_of_le
   grind
  have hd:d≠.i 1:=by
   intro q
   grind [sw]
  rw [this,h0];simp only [fx];rw [ah hd];exact .nh _ _ _
 ·rw [ah J]
  have dV:(d.l.take k).drop l≠[]:=by
   intro q;have:=congrArg List.length q;obtain⟨x,hC,W,_⟩:=r.slice
   grind
  rw [B6 dV];generalize B:CK.sl t=c at r;generalize W:Value.slice (some ⟨b,o,none⟩) n cap=v at r
  cases r with
  |int k n=>simp at B
  |bool b=>simp at B
  |str s=>simp at B
  |nil t=>simp at W
  |nh t a cap=>
   grind
  |one t' c b' o' hC ds f hr vT K O U=>
   simp only [CK.sl.injEq] at B;subst B;simp only [Value.slice.injEq,af,Addr.mk.injEq] at W;obtain⟨⟨rfl,rfl,_⟩,rfl,rfl⟩:=W;rw [ch];have hlen:((ds.take k).drop l).length=k-l:=by rw [aap,a7]; omega
   have j9: ∀i d,((ds.take k).drop l)[i]?=some d->ds[l+i]?=some d:=by
    intro i d hd
    grind
   rw [<- hlen];refine .one t c b (o+l*(rowOf t).es) (cap-l) ((ds.take k).drop l) (fun i=>f (l+i)) hr (by rw [hlen]; omega) K ?_ ?_
   ·intro i d hd;have:=O (l+i) d (j9 i d hd);rw [hr,show o+l*(Row.one c).es+i=o+(l+i) by simp only [Row.es]; omega]
    grind
   grind
  |many t' cs b' o' hC rows f hr vT K HC O U=>
   simp only [CK.sl.injEq] at B;subst B;simp only [Value.slice.injEq,af,Addr.mk.injEq] at W;obtain⟨⟨rfl,rfl,_⟩,rfl,rfl⟩:=W;rw [ch];have hlen:((rows.take k).drop l).length=k-l:=by rw [aap,a7]; omega
   have j9: ∀i d,((rows.take k).drop l)[i]?=some d->rows[l+i]?=some d:=by
    intro i d hd
    grind
   rw [<- hlen,<- aa9,<- aba];refine .many t cs b (o+l*(rowOf t).es) (cap-l) ((rows.take k).drop l) (fun i=>f (l+i)) hr (by rw [hlen]; omega) K (fun r Fa=>HC r (aT (aS Fa))) ?_ ?_
   ·intro i r j d hi hj;have:=O (l+i) r j d (j9 i r hi) hj;rw [hr,show o+l*(Row.many cs).es+i*cs.length+j=o+(l+i)*cs.length+j by simp only [Row.es,aW]; omega]
    grind
   grind
theorem Rd.GQ {ro:Nat->Prop} {h:Array Obj} {t:Nat} {d:D} {x:Option Addr} {n cap l k:Nat} (r:Rd ro h (.sl t) d (.slice x n cap)) (I:l<=k) (R:k<=n) (hn:n<=cap) :
 Rd ro h (.sl t) (fx d ((d.l.take k).drop l)) (.slice (match x with |some a=>some (if cap=l then a else a.add (l*(rowOf t).es))|none=>none) (k-l) (cap-l)):=by
 have M:(∃b o,x=some ⟨b,o,none⟩)\/(d= .i 1/\x=none/\n=0/\cap=0)\/(d= .i 2/\n=0/\∃a,x=some a):=by
  generalize B:CK.sl t=c at r;generalize W:Value.slice x n cap=v at r
  cases r with
  |int k n=>simp at B
  |bool b=>simp at B
  |str s=>simp at B
  |nil t=>simp only [Value.slice.injEq] at W; exact .inr (.inl ⟨rfl,W.1,W.2.1,W.2.2⟩)
  |nh t a cap=>simp only [Value.slice.injEq] at W; exact .inr (.inr ⟨rfl,W.2.1,a,W.1⟩)
  |one t' c b' o' hC ds f hr vT K O U=>simp only [Value.slice.injEq] at W; exact .inl ⟨_,_,W.1⟩
  |many t' cs b' o' hC rows f hr vT K HC O U=>simp only [Value.slice.injEq] at W; exact .inl ⟨_,_,W.1⟩
 rcases M with ⟨b,o,rfl⟩|⟨rfl,rfl,rfl,rfl⟩|⟨rfl,rfl,a,rfl⟩
 ·have:=r.part I R hn;simp only [cj]
  grind
 ·obtain rfl:k=0:=J
  obtain rfl:l=0:=J
  exact .nil _
 ·obtain rfl:k=0:=J
  obtain rfl:l=0:=J
  exact .nh _ _ _
theorem B7 (l:List D):dL l≠.i 1:=by cases l<;>simp [dL]
theorem Rd.FP {ro:Nat->Prop} {h:Array Obj} {t:Nat} {d:D} {x:Option Addr} {n cap:Nat} (r:Rd ro h (.sl t) d (.slice x n cap)):Rd ro h (.sl t) (fx d []) (.slice x 0 0):=by
 generalize B:CK.sl t=c at r;generalize W:Value.slice x n cap=v at r
 cases r with
 |int k n=>simp at B
 |bool b=>simp at B
 |str s=>simp at B
 |nil t=> simp only [Value.slice.injEq] at W;obtain⟨rfl,_,_⟩:=W;exact .nil _
 |nh t a cap=> simp only [Value.slice.injEq] at W;obtain⟨rfl,_,_⟩:=W;exact .nh _ _ _
 |one t' c b' o' hC ds f hr vT K O U=> simp only [Value.slice.injEq] at W;obtain⟨rfl,_,_⟩:=W;rw [gH (B7 _)];exact .nh _ _ _
 |many t' cs b' o' hC rows f hr vT K HC O U=> simp only [Value.slice.injEq] at W;obtain⟨rfl,_,_⟩:=W;rw [gH (B7 _)];exact .nh _ _ _
theorem xR [bp] {tt:TT} (bx:bV P tt) {s s':St} (F:bu E.ρ s.pc) {ty t:Nat} {e:Y} {lo hi mx:Option Z} {lV hi' mx':Option Value} {v:Z} {u:Value} (M:V E w.heap (.cE e t) u)
 (jJ:cG E w.heap lo lV) (lX:cG E w.heap hi hi') (lH:cG E w.heap mx mx') (h:(uz tt s ty t e lo hi mx).leaf E.ρ=some (v,s')) :
 s'.bj=s.bj/\s'.h=s.h/\bu E.ρ s'.pc/\∃r,(Instr.sliceAt ty u lV hi' mx').run P w= .ok r w/\V E w.heap v r:=by
 unfold uz at h;split at h
 ·rename_i m;split at h
  ·rename_i hm;split at h
   ·simp [T.leaf] at h
   ·rename_i z hz;split at h
    ·split at h
     ·rename_i W;split at h
      ·rename_i hh;have:=bh h;simp only [ag] at this;obtain⟨rfl,rfl⟩:=this;refine⟨rfl,rfl,F,?_⟩;obtain⟨el,ie,hu,eA,rfl⟩:=fJ bx hz;have dc:=bT (bx el ie eA);simp only [V] at M;obtain⟨x,cap,rfl,ee⟩:=M.slice
       have zb: ∀(a:Z),o8 a=true->∀d y,fP (some a) d y=some 0:=by
        intro a ha d y;unfold o8 at ha;unfold fP;split at ha
        ·rename_i n hn;have:=nP ha;subst this;simp only [hn];rw [ak (aaV y)]
        ·simp at ha
       obtain⟨e1,e2⟩:=cB (P:=P) (w:=w) (isSlice:=true) (len:=(dec (e.den E.ρ)).l.length) (cap:=cap) (m0:=cap) (d:=0) (m:=0) (h0:=0) (h:=0) (l:=0) jJ lX lH (fun _=>rfl) (.inr ⟨m,rfl,zb m hm _ _,ar _⟩) (zb W hh _ _) ⟨fun q=>by simp at q,fun _=>rfl⟩ (by simp [fP]);refine⟨.slice x 0 0,?_,?_⟩
       rotate_left
       ·simp only [V];refine⟨⟨x,rfl⟩,?_⟩;simp only [Y.den,c8.den,bn];exact M.FP
       cases x with
       |none=>simp [Instr.sliceAt,run_underlying hu,Instr.slice,e1,dc]
       |some a=>simp [Instr.sliceAt,run_underlying hu,Instr.slice,e1,dc]
      ·simp [T.leaf] at h
     ·simp [T.leaf] at h
    ·simp [T.leaf] at h
  ·simp [T.leaf] at h
 ·simp only [cG] at lH;subst lH;split at h
  ·simp [T.leaf] at h
  ·rename_i z hz;split at h
   ·rename_i eG;obtain⟨el,ie,hu,eA,rfl⟩:=fJ bx hz;have dc:=bT (bx el ie eA);simp only [V] at M;obtain⟨x,cap,rfl,ee⟩:=M.slice
    have fin: ∀(l k:Nat) (e':Y) (AD uZ:Option Z),cG E w.heap AD lV->cG E w.heap uZ hi'->fP uZ (dec (e.den E.ρ)).l.length (dec (e.den E.ρ)).l.length=some k->fP AD 0 k=some l->dec (e'.den E.ρ)=fx (dec (e.den E.ρ)) (((dec (e.den E.ρ)).l.take k).drop l)->
     ∃r,(Instr.sliceAt ty (.slice x (dec (e.den E.ρ)).l.length cap) lV hi' none).run P w= .ok r w/\V E w.heap (.cE e' t) r:=by
     intro l k e' AD uZ O U N h4 h5;obtain⟨e1,e2⟩:=cB (P:=P) (w:=w) (isSlice:=true) (len:=(dec (e.den E.ρ)).l.length) (cap:=cap) (m0:=cap) (d:=0) (m:=cap) O U (mx:=none) (mx':=none) (by simp [cG]) ad (.inl ⟨rfl,rfl,ar _⟩) N ⟨fun _=>ee,ad⟩ h4;have R:=eI N;have Fc:=M.GQ e2 R ee;refine⟨_,?_,by simp only [V,h5]; exact Fc⟩
     cases x with
     |none=>simp [Instr.sliceAt,run_underlying hu,Instr.slice,e1,dc]
     |some a=>simp [Instr.sliceAt,run_underlying hu,Instr.slice,e1,dc,eG]<;>split<;>rfl
    have lit: ∀(k:IntKind) (n:Nat) (q:Y) (o:Option Value),q.den E.ρ=(n:Int)->cG E w.heap (some (.int k q)) o->cG E w.heap (some (.int k (.lit (Int.ofNat n)))) o:=by intro k n q o hq ho;obtain⟨y,rfl,hy⟩:=ho;refine⟨y,rfl,?_⟩;simp only [V,Y.den] at hy ⊢;rw [hy,hq];rfl
    have bl: ∀(k:IntKind) (n d y:Nat),n<=y->fP (some (.int k (.lit (Int.ofNat n)))) d y=some n:=by intro k n d y hn;simp [fP,ec,hn]
    split at h
    ·
     simp only [cG] at lX;subst lX;split at h
     ·rename_i kl ql;obtain⟨ea,dE,O⟩:=bH F h;split at O
      ·simp [T.leaf] at O
      ·rename_i t1;obtain⟨gQ,gw,U⟩:=bH (s:={ s with pc:=ea }) dE O;split at U
       ·simp [T.leaf] at U
       ·rename_i t2;have:=bh U;simp only [ag] at this;obtain⟨rfl,rfl⟩:=this;rw [bN,decide_eq_false_iff_not] at t1 t2;rw [bz] at t2;simp only [Y.den,aak] at t1 t2;obtain⟨l,I⟩ : ∃l:Nat,ql.den E.ρ=(l:Int):=⟨(ql.den E.ρ).toNat,J⟩;refine⟨rfl,rfl,gw,fin l (dec (e.den E.ρ)).l.length _ _ none (lit kl l ql lV I jJ) (by simp [cG]) (by simp [fP]) (bl _ _ _ _ J) ?_⟩;simp only [Y.den,c8.den,bn,I,a8,abe]
     ·simp [T.leaf] at h
    ·rename_i kh qh;obtain⟨ea,dE,O⟩:=bH F h;split at O
     ·simp [T.leaf] at O
     ·rename_i t1;rw [bN,decide_eq_false_iff_not,bz] at t1;split at O
      ·simp only [cG] at jJ;subst jJ;obtain⟨gQ,gw,U⟩:=bH (s:={ s with pc:=ea }) dE O;split at U
       ·simp [T.leaf] at U
       ·rename_i t2;have:=bh U;simp only [ag] at this;obtain⟨rfl,rfl⟩:=this;rw [bN,decide_eq_false_iff_not] at t2;simp only [Y.den,aak] at t2;obtain⟨k,R⟩ : ∃k:Nat,qh.den E.ρ=(k:Int):=⟨(qh.den E.ρ).toNat,J⟩;refine⟨rfl,rfl,gw,fin 0 k _ none _ (by simp [cG]) (lit kh k qh hi' R lX) (bl _ _ _ _ J) (by simp [fP]) ?_⟩;simp only [Y.den,c8.den,bn,R,a8,abd]
      ·rename_i kl ql;obtain⟨gQ,gw,U⟩:=bH (s:={ s with pc:=ea }) dE O;split at U
       ·simp [T.leaf] at U
       ·rename_i t2;obtain⟨Ct,vK,N⟩:=bH (s:={ s with pc:=gQ }) gw U;split at N
        ·simp [T.leaf] at N
        ·rename_i t3;have:=bh N;simp only [ag] at this;obtain⟨rfl,rfl⟩:=this;rw [bN,decide_eq_false_iff_not] at t2 t3;simp only [Y.den,aak] at t2 t3;obtain⟨l,I⟩ : ∃l:Nat,ql.den E.ρ=(l:Int):=⟨(ql.den E.ρ).toNat,J⟩;obtain⟨k,R⟩ : ∃k:Nat,qh.den E.ρ=(k:Int):=⟨(qh.den E.ρ).toNat,J⟩;refine⟨rfl,rfl,vK,fin l k _ _ _ (lit kl l ql lV I jJ) (lit kh k qh hi' R lX) (bl _ _ _ _ J) (bl _ _ _ _ J) ?_⟩;simp only [Y.den,c8.den,bn,I,R,a8,pB];exact rk fun q=>by rw [q]; simp [D.l]
      ·simp [T.leaf] at O
    ·simp [T.leaf] at h
   ·simp [T.leaf] at h
end
theorem qx {e:Y} (h:De e=true):e= .lit 0:=by
 unfold De at h
 grind [nP]
theorem gJ (ρ:Nat->Int) (a b:Y):(iS a b).den ρ=a.den ρ+b.den ρ:=by
 unfold iS;split
 ·rename_i h;rw [qx h];simp only [Y.den,Int.zero_add]
 ·rfl
theorem zF (ρ:Nat->Int) (a b:Y):(pI a b).den ρ=a.den ρ-b.den ρ:=by
 unfold pI;split
 ·rename_i h;rw [qx h];simp only [Y.den,Int.sub_zero]
 ·rfl
theorem p9 {ρ:Nat->Int} {e lo n:Y} {l k:Nat} (I:lo.den ρ=(l:Int)) (hn:n.den ρ=(k:Int)) :
 dec ((qa e lo n).den ρ)=fx (dec (e.den ρ)) (((dec (e.den ρ)).l.take (l+k)).drop l):=by
 unfold qa;split
 ·rename_i h;have h:=qx h;subst h;simp only [Y.den] at I;have:l=0:=J
  subst this;simp only [Y.den,c8.den,bn,hn,a8,ax,abd]
 ·have U:((l:Int)+(k:Int)).toNat=l+k:=J
  simp only [Y.den,c8.den,bn,I,hn,U,a8,pB]
  grind [rk,D.l]
theorem nB {α:Type} {ρ:Nat->Int} {e lo n:Y} {s:St} {k:St->T α} {x:α} (F:bu ρ s.pc) (h:(nC e lo n s k).leaf ρ=some x) :
 ∃cl,bu ρ cl/\0<=lo.den ρ/\0<=n.den ρ/\lo.den ρ+n.den ρ<=((dec (e.den ρ)).l.length:Int)/\(k { s with pc:=cl }).leaf ρ=some x:=by
 unfold nC at h;obtain⟨ea,dE,O⟩:=bH F h;split at O
 ·grind [T.leaf]
 ·rename_i KZ;obtain⟨gQ,gw,U⟩:=bH (s:={ s with pc:=ea }) dE O;split at U
  ·grind [T.leaf]
  ·rename_i AG;obtain⟨Ct,vK,N⟩:=bH (s:={ s with pc:=gQ }) gw U;split at N
   ·grind [T.leaf]
   ·rename_i KY;rw [bN,decide_eq_false_iff_not] at KZ AG KY;rw [bz,gJ] at KY;simp only [Y.den] at KZ AG
    grind
theorem iX {h:Hp} {id t:Nat} {e:Y} {ty:TypeId} (W:oo h id t=some (e,ty)):h.get id=some (.vec e t ty []):=by
 unfold oo at W;split at W
 ·rename_i o ho;split at W
  ·split at W
   ·split at W
    all_goals simp_all
   grind
  grind
 grind
theorem Rd.GM {ro:Nat->Prop} {h:Array Obj} {t:Nat} {d:D} {a:Addr} {n cap hC:Nat} (r:Rd ro h (.sl t) d (.slice (some a) n cap)) (B:n<=hC):Rd ro h (.sl t) d (.slice (some a) n hC):=by
 generalize R:CK.sl t=c at r;generalize W:Value.slice (some a) n cap=v at r
 cases r with
 |int k n=>simp at R
 |bool b=>simp at R
 |str s=>simp at R
 |nil t=>simp at W
 |nh t a cap=> simp only [CK.sl.injEq] at R;simp only [Value.slice.injEq,af] at W;obtain⟨rfl,rfl,rfl⟩:=W;subst R;exact .nh _ _ _
 |one t' c b' o' hC ds f hr vT K O U=> simp only [CK.sl.injEq] at R;simp only [Value.slice.injEq,af] at W;obtain⟨rfl,rfl,rfl⟩:=W;subst R;exact .one _ _ _ _ _ _ _ hr B K O U
 |many t' cs b' o' hC rows f hr vT K HC O U=> simp only [CK.sl.injEq] at R;simp only [Value.slice.injEq,af] at W;obtain⟨rfl,rfl,rfl⟩:=W;subst R;exact .many _ _ _ _ _ _ _ hr B K HC O U
section
variable {P:Program} {E:En} {w:World}
theorem AM {h:Array Obj} {id:Nat} {e:Y} {t:Nat} {ty:TypeId} {ro:Nat->Prop} (eP: ∀b,E.ro b->ro b) (K:ro (E.θ id).1) (ho:OR E h id (.vec e t ty [])) {l k cap:Nat} {a:Addr} (R:l+k<=(dec (e.den E.ρ)).l.length) (ee:k<=cap)
 (B:cg E id (l*(rowOf t).es) k a cap (.rest (rowOf t).es)):Rd ro h (.sl t) (fx (dec (e.den E.ρ)) (((dec (e.den E.ρ)).l.take (l+k)).drop l)) (.slice (some a) k cap):=by
 have hw:=(OR.gY.1 ho).1.2
 have dV:dec (e.den E.ρ)≠.i 1:=by intro q;have:=hw.2.2;rw [q] at this;exact this rfl
 rcases aat k with h0|gq
 ·subst h0
  have:((dec (e.den E.ρ)).l.take (l+0)).drop l= []:=by
   grind
  rw [this,gH dV];exact .nh _ _ _
 ·simp only [cg] at B
  obtain⟨rfl,_⟩ : a=⟨(E.θ id).1,(E.θ id).2+l*(rowOf t).es,none⟩/\l*(rowOf t).es+cap*(rowOf t).es=E.κ id:=by
   grind
  have r0:=yl eP K ho (k:=(dec (e.den E.ρ)).l.length) (cap:=(dec (e.den E.ρ)).l.length+l+1) (a:=⟨(E.θ id).1,(E.θ id).2,none⟩) rfl J (fun _=>rfl);have r1:=r0.part (l:=l) (k:=l+k) J R J;rw [ah J,show l+k-l=k by omega] at r1;exact r1.GM ee
structure yg [bp] (E:En) (w:World) (H:Hp) (E':En) (H':Hp):Prop where
 ρ:E'.ρ=E.ρ
 pN:ca E H w E' H' w
 rel:bq E' H' w
 sub:Sub H' H
theorem yg.refl [bp] {H:Hp} (r:bq E H w):yg E w H E H:=⟨rfl,ca.refl _ _ _,r,Sub.refl _⟩
theorem yg.trans [bp] {E1 E2:En} {H H1 H2:Hp} (a:yg E w H E1 H1) (b:yg E1 w H1 E2 H2):yg E w H E2 H2:=
 ⟨b.ρ.trans a.ρ,a.pN.trans b.pN,b.rel,a.sub.trans b.sub⟩
theorem zc [bp] {α:Type} {ρ:Nat->Int} {v:Z} {s:St} {k:Z->St->T α} {x:α} (hρ:E.ρ=ρ) (r:bq E s.h w) (F:bu ρ s.pc) (h:(BO v s k).leaf ρ=some x) :
 ∃v' h' cl E',bu ρ cl/\yg E w s.h E' h'/\(∀u,V E w.heap v u->V E' w.heap v' u)/\(k v' { s with h:=h',pc:=cl }).leaf ρ=some x:=by
 unfold BO at h;split at h
 ·rename_i id lo n t;split at h
  ·rename_i e ty W;have I:=iX W;obtain⟨cl,cM,O,U,N,h4⟩:=nB F h;obtain⟨R,s1,r1⟩:=uK r I;refine⟨_,_,cl,{ E with ro:=fun b=>E.ro b\/b=(E.θ id).1 },cM,⟨rfl,s1,r1,Sub.drop _ _⟩,fun u hu=>?_,h4⟩;simp only [V] at hu ⊢;obtain⟨hid,l,m,a,cap,q1,q2,rfl,q4,q5⟩:=hu;rw [p9 q1 q2];rw [hρ] at q1 q2;have hh:=AM (E:=E) (ro:=fun b=>E.ro b\/b=(E.θ id).1) (fun _ h=> .inl h) (.inr rfl) (r.live id _ I).2.1 (l:=l) (k:=m) (by rw [hρ]; omega) q4 q5;exact hh
  ·exact⟨_,_,s.pc,E,F,yg.refl r,fun _ h=>h,h⟩
 ·cases hf:Cx v s.h with
  |mk v' h'=> rw [hf] at h;obtain⟨E',q1,q2,q3,q4,q5⟩:=FD r hf;exact⟨v',h',s.pc,E',F,⟨q1,q2,q3,q5⟩,q4,h⟩
theorem vV [bp] {α:Type} {ρ:Nat->Int}: ∀{vs:List Z} {s:St} {E:En} {k:List Z->St->T α} {x:α},E.ρ=ρ->bq E s.h w->bu ρ s.pc->(za vs s k).leaf ρ=some x->
 ∃zE h' cl E',bu ρ cl/\yg E w s.h E' h'/\(∀us,bC E w.heap vs us->bC E' w.heap zE us)/\(k zE { s with h:=h',pc:=cl }).leaf ρ=some x
 |[],s,E,k,x,hρ,r,F,h=> ⟨[],s.h,s.pc,E,F,yg.refl r,fun _ h=>h,h⟩
 |v::vs,s,E,k,x,hρ,r,F,h=>by simp only [za] at h;obtain⟨v1,O,ea,E1,dE,f1,q1,g1⟩:=zc hρ r F h;obtain⟨Ip,U,gQ,E2,gw,f2,q2,g2⟩:=vV (s:={ s with h:=O,pc:=ea }) (f1.ρ.trans hρ) f1.rel dE g1;refine⟨v1::Ip,U,gQ,E2,gw,f1.trans f2,fun us hu=>?_,g2⟩;rw [bt] at hu ⊢;obtain⟨u,dh,rfl,a,b⟩:=hu;exact⟨u,dh,rfl,V.bw (f2.pN.keeps f1.rel) _ _ (q1 u a),q2 dh (bC.bw (f1.pN.keeps r) _ _ b)⟩
theorem mf {ρ:Nat->Int} {i:Nat} {j:Y} {cs:List Z}: ∀{pre:List (Y×List Z)},bO ρ i (pre++ [(j,cs)])=match bO ρ i pre with |some c=>some c|none=>if j.den ρ=(i:Int) then some cs else none
 |[]=>rfl
 |(a,b)::pre=>by
  simp only [aM,bO];split
  ·rfl
  ·exact mf
theorem CM (ρ:Nat->Int) (e j x:Y):dec ((Y.op .set e (cm (gM j) x)).den ρ)=dL (rK (dec (e.den ρ)).l (j.den ρ) (dec (x.den ρ))):=by simp only [cm,Y.den,c8.den,bn,fS,D.n]
theorem vf (ds:List D) (z:Int) (x:D) (n:Nat):(rK ds z x)[n]?=if z=(n:Int)/\n<ds.length then some x else ds[n]?:=by
 grind [rK]
theorem lg {ρ:Nat->Int} {E1 E2:En} {h:Array Obj} {r:Row} {pre:List (Y×List Z)} {j:Y} {cs:List Z} {X:D} (mono: ∀a us,bC E1 h a us->bC E2 h a us) (hX: ∀us,bC E1 h cs us->k4 E2.ro h r X us) :
 ∀{L L':List D} {i:Nat} {us:List Value},L'.length=L.length->(∀n:Nat,L'[n]?=if j.den ρ=((i+n:Nat):Int)/\n<L.length then some X else L[n]?)->
  bC E1 h (bk ρ r (pre++ [(j,cs)]) L i) us->bC E2 h (bk ρ r pre L' i) us
 |[],[],i,us,_,_,W=>by simp only [bk,bC] at *; exact W
 |[],_::_,_,_,I,_,_=>by simp at I
 |_::_,[],_,_,I,_,_=>by simp at I
 |d::L,d'::L',i,us,I,hg,W=>by
  simp only [bk] at *;obtain⟨a,b,rfl,a1,a2⟩:=W.split;have h0:=hg 0;simp only [aaq,aH,aA] at h0;refine bC.append ?_ (lg mono hX (by simpa using I) (fun n=>?_) a2)
  ·rw [mf] at a1
   cases ho:bO ρ i pre with
   |some c=>
    grind
   |none=>
    rw [ho] at a1;simp only at a1 ⊢;by_cases hj:j.den ρ=(i:Int)
    ·rw [ak hj] at a1;rw [ak ⟨hj,J⟩] at h0;simp only [af] at h0;subst h0;rw [cF];simp only [Y.den,bn]
     grind
    grind
  ·have:=hg (n+1)
   grind
theorem CN {r:Row} {ds:List D} {z:Int} {x:D} (O: ∀d∈ds,hJ r d) (U:hJ r x): ∀d∈rK ds z x,hJ r d:=by
 intro d hd;obtain⟨n,hn⟩:=aay.1 hd
 grind [vf]
theorem CO {ds:List D} {z:Int} {x:D} (h:ds≠[]):rK ds z x≠[]:=by
 intro q
 grind [l4]
theorem vp [bp] {α:Type} {ρ:Nat->Int} {t:Nat}: ∀{ov:List (Y×List Z)} {e:Y} {s:St} {E:En} {k:Y->St->T α} {x:α} (pre:List (Y×List Z)),E.ρ=ρ->bq E s.h w->bu ρ s.pc->jL (rowOf t) (dec (e.den ρ))->
 (yx t ov e s k).leaf ρ=some x->
 ∃e' h' cl E',bu ρ cl/\yg E w s.h E' h'/\jL (rowOf t) (dec (e'.den ρ))/\(dec (e'.den ρ)).l.length=(dec (e.den ρ)).l.length/\
  (∀us,bC E w.heap (bk ρ (rowOf t) (pre++ov) (dec (e.den ρ)).l 0) us->bC E' w.heap (bk ρ (rowOf t) pre (dec (e'.den ρ)).l 0) us)/\(k e' { s with h:=h',pc:=cl }).leaf ρ=some x
 |[],e,s,E,k,x,pre,hρ,r,F,hw,h=> ⟨e,s.h,s.pc,E,F,yg.refl r,hw,rfl,fun us hu=>by rw [aaE] at hu; exact hu,h⟩
 |(j,cs)::ov,e,s,E,k,x,pre,hρ,r,F,hw,h=>by
  simp only [yx] at h;obtain⟨e1,O,ea,E1,dE,f1,w1,l1,c1,g1⟩:=vp (pre++ [(j,cs)]) hρ r F hw h;obtain⟨Mt,U,gQ,E2,gw,f2,c2,g2⟩:=vV (s:={ s with h:=O,pc:=ea }) (f1.ρ.trans hρ) f1.rel dE g1;split at g2
  ·rename_i y hy;have hρ2:E2.ρ=ρ:=f2.ρ.trans (f1.ρ.trans hρ);have E9:=CM ρ e1 j y;refine⟨_,U,gQ,E2,gw,f1.trans f2,?_,?_,?_,g2⟩
   ·rw [E9];exact⟨by rw [ch],by rw [ch]; exact CN w1.2.1 (jA hy),by rw [ch]; exact CO w1.2.2⟩
   ·grind [ch,l4]
   ·intro us hu;rw [E9,ch];have xn:=c1 us (by rw [aae]; exact hu);refine lg (j:=j) (cs:=cs) (X:=dec (y.den ρ)) (fun a us ha=>bC.bw (f2.pN.keeps f1.rel) _ _ ha) (fun us vI=>?_) (l4 _ _ _) (fun n=>?_) xn
    all_goals grind [jB,vf]
  grind [T.leaf]
theorem zX {v:Z} {h:Hp} {id t:Nat} {e:Y} {ov:List (Y×List Z)} (W:EK v h=some (id,e,t,ov)): ∃ty,v= .hK id (bL e) t/\h.get id=some (.vec e t ty ov):=by
 unfold EK at W;split at W
 ·split at W
  ·rename_i o ho;split at W
   ·split at W
    ·grind
    ·split at W
     ·rename_i ht;split at W
      ·rename_i hn;have ht:=aq ht
       grind [bD]
      grind
     grind
   grind
  grind
 grind
theorem Dv [bp] {α:Type} {ρ:Nat->Int} {v:Z} {s:St} {k:Z->St->T α} {x:α} (hρ:E.ρ=ρ) (r:bq E s.h w) (F:bu ρ s.pc) (h:(BN v s k).leaf ρ=some x) :
 ∃v' h' cl E',bu ρ cl/\yg E w s.h E' h'/\(∀u,V E w.heap v u->V E' w.heap v' u)/\(k v' { s with h:=h',pc:=cl }).leaf ρ=some x:=by
 unfold BN at h;split at h
 ·rename_i id e t ov W;obtain⟨ty,rfl,I⟩:=zX W;obtain⟨hid,ho,LP⟩:=r.live id _ I;have o4:=ho;simp only [OR] at o4;rw [hρ] at o4;obtain⟨⟨oJ,jO⟩,arr,lo,hi,us,q1,q2,q3,q4,q5,q6,q7⟩:=o4;obtain⟨e',h',cl,E',cM,f,w',l',c',g⟩:=vp [] hρ r F jO h;split at g
  ·rename_i o hg;have JP:=f.sub.get _ _ hg;rw [I] at JP;simp only [af] at JP;subst JP;obtain⟨R,s1,r1⟩:=uK f.rel hg;have hρ':E'.ρ=ρ:=f.ρ.trans hρ;refine⟨_,_,cl,{ E' with ro:=fun b=>E'.ro b\/b=(E'.θ id).1 },cM,⟨f.ρ,f.pN.trans s1,r1,f.sub.trans (Sub.drop _ _)⟩,fun u hu=>?_,g⟩;simp only [V] at hu ⊢;obtain⟨_,m,a,cap,p1,rfl,p3,p4⟩:=hu;rw [bz,hρ] at p1;have hθ:=f.pN.θ id hid;have hκ:=f.pN.κ id hid
   have hO:OR E' w.heap id (.vec e' t ty []):=by simp only [OR];rw [hρ',hθ,hκ];have KC:=c' us (by rw [aab]; exact q2);refine⟨⟨fun p F=>by simp at F,w'⟩,arr,lo,hi,us,q1,KC,q3,?_,q5,q6,q7⟩;have e1:=KC.length;have e2:=q2.length;omega
   have hh:=AL (E:=E') (ro:=fun b=>E'.ro b\/b=(E'.θ id).1) (fun _ h=> .inl h) (.inr rfl) hO (k:=m) (cap:=cap) (a:=a) (by rw [hρ',l']; omega) p3 (by
    simp only [cg] at p4 ⊢;rw [hθ,hκ]
    exact p4)
   exact hh
  grind [T.leaf]
 grind [zc]
theorem kc [bp] {α:Type} {ρ:Nat->Int}: ∀{vs:List Z} {s:St} {E:En} {k:List Z->St->T α} {x:α},E.ρ=ρ->bq E s.h w->bu ρ s.pc->(mD vs s k).leaf ρ=some x->
 ∃zE h' cl E',bu ρ cl/\yg E w s.h E' h'/\(∀us,bC E w.heap vs us->bC E' w.heap zE us)/\(k zE { s with h:=h',pc:=cl }).leaf ρ=some x
 |[],s,E,k,x,hρ,r,F,h=> ⟨[],s.h,s.pc,E,F,yg.refl r,fun _ h=>h,h⟩
 |v::vs,s,E,k,x,hρ,r,F,h=>by simp only [mD] at h;obtain⟨v1,O,ea,E1,dE,f1,q1,g1⟩:=Dv hρ r F h;obtain⟨Ip,U,gQ,E2,gw,f2,q2,g2⟩:=kc (s:={ s with h:=O,pc:=ea }) (f1.ρ.trans hρ) f1.rel dE g1;refine⟨v1::Ip,U,gQ,E2,gw,f1.trans f2,fun us hu=>?_,g2⟩;rw [bt] at hu ⊢;obtain⟨u,dh,rfl,a,b⟩:=hu;exact⟨u,dh,rfl,V.bw (f2.pN.keeps f1.rel) _ _ (q1 u a),q2 dh (bC.bw (f1.pN.keeps r) _ _ b)⟩
end
section
variable {P:Program} {E:En} {w:World}
theorem eJ: ∀{cs vs l:List Z} {o:Nat},bM cs o vs=some l->l.length=cs.length
 |cs,[],l,0,h=>by simp only [bM,af] at h; rw [h]
 |[],v::vs,l,0,h=>by simp [bM] at h
 |c::cs,v::vs,l,0,h=>by
  simp only [bM] at h;split at h
  ·rename_i l' I;simp only [af] at h;subst h;simp [eJ I]
  grind
 |[],vs,l,o+1,h=>by simp [bM] at h
 |c::cs,vs,l,o+1,h=>by
  simp only [bM] at h;split at h
  ·rename_i l' I;simp only [af] at h;subst h;simp [eJ I]
  grind
theorem fR: ∀{cs vs l:List Z} {o:Nat} (m:List Z),bM cs o vs=some l->bM (cs++m) o vs=some (l++m)
 |cs,[],l,0,m,h=>by simp only [bM,af] at h ⊢; rw [h]
 |[],v::vs,l,0,m,h=>by simp [bM] at h
 |c::cs,v::vs,l,0,m,h=>by
  simp only [bM,aM] at h ⊢;split at h
  ·rename_i l' I;simp only [af] at h;subst h;rw [fR m I];rfl
  grind
 |[],vs,l,o+1,m,h=>by simp [bM] at h
 |c::cs,vs,l,o+1,m,h=>by
  simp only [bM,aM] at h ⊢;split at h
  ·rename_i l' I;simp only [af] at h;subst h;rw [fR m I];rfl
  grind
theorem jb: ∀{cs vs l:List Z} {o:Nat} (p:List Z),bM cs o vs=some l->bM (p++cs) (p.length+o) vs=some (p++l)
 |cs,vs,l,o,[],h=>by simpa using h
 |cs,vs,l,o,x::p,h=>by have:=jb p h;rw [aM,aA,show p.length+1+o=(p.length+o)+1 by omega];simp only [bM,this,aM]
theorem iD: ∀{cs vs l:List Z} {o:Nat},bM cs o vs=some l->∀j:Nat,l[j]?=if o<=j/\j<o+vs.length then vs[j-o]? else cs[j]?
 |cs,[],l,0,h,j=>by
  simp only [bM,af] at h
  grind
 |[],v::vs,l,0,h,j=>by simp [bM] at h
 |c::cs,v::vs,l,0,h,j=>by
  simp only [bM] at h;split at h
  ·rename_i l' I;simp only [af] at h;subst h
   cases j with
   |zero=>simp
   |succ j=>
    have:=iD I j
    grind
  grind
 |[],vs,l,o+1,h,j=>by simp [bM] at h
 |c::cs,vs,l,o+1,h,j=>by
  simp only [bM] at h;split at h
  ·rename_i l' I;simp only [af] at h;subst h
   cases j with
   |zero=>rw [ah J]; rfl
   |succ j=>
    have:=iD I j
    grind
  grind
theorem mW (x:Y): ∀(cs:List CK) (j k:Nat),(df cs j x)[k]?=(cs[k]?).map fun c=>kz c (dr (j+k) x)
 |[],j,k=>by simp [df]
 |c::cs,j,0=>by simp [df]
 |c::cs,j,k+1=>by
  simp only [df,aaW,mW x cs (j+1) k]
  grind
theorem ow {ρ:Nat->Int} {ks:List CK}: ∀{vs:List Z} {off:Nat} {x x':Y},setCells ks off vs x=some x'->off+vs.length<=(dec (x.den ρ)).l.length->
 (dec (x'.den ρ)).l.length=(dec (x.den ρ)).l.length/\(dec (x.den ρ)=dL (dec (x.den ρ)).l->dec (x'.den ρ)=dL (dec (x'.den ρ)).l)/\
 ∀j,(j<off\/off+vs.length<=j)/\(dec (x'.den ρ)).l[j]?=(dec (x.den ρ)).l[j]?\/∃c v a,off<=j/\vs[j-off]?=some v/\ks[j]?=some c/\fK c v=some a/\(dec (x'.den ρ)).l[j]?=some (dec (a.den ρ))
 |[],off,x,x',h,_=>by
  simp only [setCells,af] at h
  grind
 |v::vs,off,x,x',h,hle=>by
  simp only [setCells] at h;split at h
  ·rename_i c B;split at h
   ·rename_i a ha;simp only [aA] at hle
    have hs:dec ((Y.op .set x (cm (.cE (.i (Int.ofNat off))) a)).den ρ)=dL ((dec (x.den ρ)).l.set off (dec (a.den ρ))):=by simp only [cm,Y.den,c8.den,bn,D.n];rfl
    obtain⟨O,U,N⟩:=ow (ρ:=ρ) h (by rw [hs,ch,List.length_set]; omega);rw [hs,ch,List.length_set] at O;rw [hs] at U N;simp only [ch] at U N;rw [cI] at B
    grind
   grind
  grind
theorem bK.mk {ro:Nat->Prop} {h:Array Obj} {d:D}: ∀{cs:List CK} {j:Nat} {us:List Value},us.length=cs.length->(∀k c u,cs[k]?=some c->us[k]?=some u->dC ro h c (d.hd (j+k)) u)->bK ro h cs j d us
 |[],j,us,I,_=>by
  simp only [bK]
  grind
 |c::cs,j,[],I,_=>by simp at I
 |c::cs,j,u::us,I,hh=>by
  simp only [bK];refine⟨u,us,rfl,by simpa using hh 0 c u rfl rfl,bK.mk (by simpa using I) fun k c' u' O U=>?_⟩;have:=hh (k+1) c' u' (by simpa using O) (by simpa using U)
  grind
theorem x6 {r:Row} {e e' i:Y} {off k:Nat} {vs:List Z} {x:D} (B:uN r e i off vs=some e') (hi:i.den E.ρ=(k:Int)) (M:(dec (e.den E.ρ)).l[k]?=some x) (jO:hJ r x) (hle:off+vs.length<=r.es) :
 ∃x',dec (e'.den E.ρ)=dL ((dec (e.den E.ρ)).l.set k x')/\hJ r x'/\∀(h:Array Obj) (dh:List Value),dh.length=r.es->(∀j v u,off<=j->vs[j-off]?=some v->dh[j]?=some u->V E h v u)->
  (∀j a u,(j<off\/off+vs.length<=j)->(cT r (.op .at e i))[j]?=some a->dh[j]?=some u->V E h a u)->k4 E.ro h r x' dh:=by
 unfold uN at B;split at B
 ·rename_i c;split at B
  ·split at B
   ·rename_i v;split at B
    ·rename_i a ha;simp only [af] at B;subst B;refine⟨dec (a.den E.ρ),?_,iP ha,?_⟩
     ·simp only [cm,Y.den,c8.den,bn,fS,D.n,hi,ve]
     ·intro h dh O U _
      cases dh with
      |nil=>simp [Row.es] at O
      |cons y ys=>
       have:ys= []:=by
        grind [Row.es]
       subst this;exact⟨y,rfl,iQ (U 0 v y (ar _) rfl rfl) ha⟩
    grind
   grind
  grind
 ·rename_i ks;split at B
  ·rename_i x' D2;simp only [af] at B;subst B;have jl:=og E.ρ e i hi M;obtain⟨w1,w2,w3⟩:=jO;obtain⟨g1,g2,g3⟩:=ow (ρ:=E.ρ) D2 (by rw [jl,w2]; exact hle);rw [jl] at g1 g2 g3;refine⟨dec (x'.den E.ρ),?_,⟨g2 w1,by rw [g1,w2],?_⟩,?_⟩
   ·simp only [cm,Y.den,c8.den,bn,fS,D.n,hi,ve]
   ·intro j c y hj hy;rcases g3 j with ⟨_,q2⟩|⟨c',v',a',_,_,q3,q4,q5⟩
    ·grind
    ·rw [q5] at hy;rw [hj] at q3;simp only [af] at hy q3;subst hy q3;exact iP q4
   ·intro h dh O U N;show bK E.ro h ks 0 (dec (x'.den E.ρ)) dh;refine bK.mk O fun j c u hj hu=>?_;rw [ax];rcases g3 j with ⟨q1,q2⟩|⟨c',v',a',q1,q2,q3,q4,q5⟩
    ·have p2:=N j (kz c (dr j (.op .at e i))) u q1 (by simp only [cT,mW,hj,aR,ax]) hu;rw [gI,jd,jl] at p2;have:(dec (x'.den E.ρ)).hd j=x.hd j:=by simp only [D.hd,q2]
     grind
    ·rw [hj] at q3;simp only [af] at q3;subst q3;have:(dec (x'.den E.ρ)).hd j=dec (a'.den E.ρ):=by simp only [D.hd,q5,aI]
     rw [this];exact iQ (U j v' u q1 q2 hu) q4
  grind
theorem eh {ρ:Nat->Int} {r:Row} {ov dv:List (Y×List Z)}: ∀(ds:List D) (i:Nat),(∀j,i<=j->j<i+ds.length->bO ρ j ov=bO ρ j dv)->bk ρ r ov ds i=bk ρ r dv ds i
 |[],_,_=>rfl
 |d::ds,i,h=>by simp only [bk];rw [h i (ar _) ad,eh ds (i+1) fun j O U=>h j J (by simp only [aA]; omega)]
theorem p8 {ρ:Nat->Int} {pc:List (SB×Bool)} (F:bu ρ pc) {i:Y} {k:Nat} (hi:i.den ρ=(k:Int)) {eW:List Z} {r:Row} (Fw:eW.length=r.es): ∀{ov dv:List (Y×List Z)},r8 pc i eW ov=some dv->jY r ov->
 jY r dv/\bO ρ k dv=some eW/\∀j:Nat,j≠k->bO ρ j dv=bO ρ j ov
 |[],dv,h,_=>by simp [r8] at h
 |(j,c)::l,dv,h,ho=>by
  simp only [r8] at h;split at h
  ·rename_i he;have he:=bD _ _ he;subst he;simp only [af] at h;subst h;refine⟨?_,by simp [bO,hi],?_⟩
   ·intro p cM;rcases aw.1 cM with rfl|cM
    ·grind
    ·exact ho p (by simp [cM])
   ·intro m hm;simp only [bO,hi]
    grind
  ·split at h
   ·rename_i b hd;split at h
    ·have hd:=cR F hd;rw [cW,beq_iff_eq,hi] at hd;simp only [af] at h;subst h;refine⟨?_,by simp [bO,hd],?_⟩
     ·intro p cM;rcases aw.1 cM with rfl|cM
      ·grind
      ·exact ho p (by simp [cM])
     ·intro m hm;simp only [bO,<- hd]
      grind
    split at h
    ·rename_i l' I;simp only [af] at h;subst h;have hd:=cR F hd;rw [cW,beq_eq_false_iff_ne,hi] at hd;obtain⟨g1,g2,g3⟩:=p8 F hi Fw I fun p cM=>ho p (by simp [cM]);refine⟨?_,?_,?_⟩
     ·intro p cM;rcases aw.1 cM with rfl|cM
      ·exact ho _ ad
      ·exact g1 p cM
     ·simp only [bO]
      grind
     ·intro m hm;simp only [bO]
      grind
    grind
   grind
theorem th {ρ:Nat->Int} {pc:List (SB×Bool)} (F:bu ρ pc) {i:Y} {k:Nat} (hi:i.den ρ=(k:Int)): ∀{ov:List (Y×List Z)},kC pc i ov=true->bO ρ k ov=none
 |[],_=>rfl
 |(j,c)::l,h=>by
  simp only [kC] at h;split at h
  ·rename_i hd;have hd:=cR F hd;rw [cW,beq_eq_false_iff_ne,hi] at hd;simp only [bO];rw [ah (fun q=>hd q.symm)];exact th F hi h
  grind
theorem OR.congr {h:Array Obj} {id:Nat} {a b:List Z} {ty:TypeId} (ho:OR E h id (.cells a ty)) (I:b.length=a.length) (W: ∀us,bC E h a us->bC E h b us):OR E h id (.cells b ty):=by
 simp only [OR] at ho ⊢
 grind
set_option maxHeartbeats 800000 in
theorem wb [bp] {E1:En} {tt:TT} (bx:bV P tt) {s s':St} (r1:bq E1 s.h w) (F:bu E1.ρ s.pc) {ty id es:Nat} {i:Y} {off:Nat} {one:Bool} {vs:List Z} {v':Z} {u x:Value} (M:V E1 w.heap (.nk id es i off) u)
 (wP:one=true->bC E1 w.heap vs x.cells.toList/\∀u∈x.cells.toList,u.oneCell'=true) (h:(qP tt s ty id es i off one vs).leaf E1.ρ=some (v',s')) :
 s'.bj=s.bj/\bu E1.ρ s'.pc/\v'=Z.undef/\∃w' E',(Instr.storeAt ty u x).run P w= .ok () w'/\ca E1 s.h w E' s'.h w'/\bq E' s'.h w':=by
 unfold qP at h;split at h
 ·rename_i o I;split at h
  ·rename_i e t np ov;split at h
   ·rename_i ti cN;split at h
    ·rename_i fa;obtain⟨eG,Hd,mr⟩:=fa;obtain⟨GP,D6,t1,t2,N⟩:=fM F h;obtain⟨cl,cM,N⟩:=kE (s:={ s with pc:=GP }) D6 N;split at N
     ·rename_i cs B;split at N
      ·rename_i eW hs;obtain⟨wO,BB⟩:=wP mr;have EY:=M;simp only [V] at EY;obtain⟨hid,k,R,rfl⟩:=EY;obtain⟨rc,ho,jO⟩:=r1.gY I;rw [bz] at t2;have c6:k<(dec (e.den E1.ρ)).l.length:=J
       have hd:(dec (e.den E1.ρ)).l[k]?=some (dec (e.den E1.ρ)).l[k]:=aJ c6;generalize Ly:(dec (e.den E1.ρ)).l[k]=xk at hd;obtain⟨c1,c2⟩:=dF (ρ:=E1.ρ) ho (j:=0) hd;rw [ax] at c1;generalize Dg:bk E1.ρ (rowOf t) ov ((dec (e.den E1.ρ)).l.take k) 0=pre at c1 c2;generalize y0:bk E1.ρ (rowOf t) ov ((dec (e.den E1.ρ)).l.drop (k+1)) (k+1)=post at c1
       have fG:(∀h us,bC E1 h (match bO E1.ρ k ov with |some cs=>cs|none=>cT (rowOf t) (.cE xk)) us↔bC E1 h cs us)/\cs.length=(rowOf t).es:=by
        rcases fT cM R B with g|⟨g,rfl⟩
        ·rw [g];obtain⟨p,p1,p2,_⟩:=eu g;have:=ho p p1;rw [p2] at this;exact⟨fun _ _=>Iff.rfl,this⟩
        ·rw [g];refine⟨fun h us=>lr ?_,cV _ _⟩;rw [og E1.ρ e i R hd];simp only [Y.den,bn]
       obtain⟨Jn,rI⟩:=fG;have tT:eW.length=(rowOf t).es:=by rw [eJ hs,rI]
       have Hs:OR E1 w.heap id (.cells (pre++(cs++post)) np):=by
        have:=(rc.live id _ (by rw [Hp.br,ak rfl])).2.1;unfold bA at this;rw [c1] at this;refine OR.congr this ?_ ?_
        ·simp only [aO,rI];congr 2;split
         ·rename_i FT h0;obtain⟨p,p1,p2,_⟩:=eu h0;have:=ho p p1;rw [p2] at this;exact this.symm
         ·rw [cV]
        ·intro us q2;obtain⟨a,b,rfl,a1,a2⟩:=q2.split;obtain⟨a',b',rfl,b1,b2⟩:=a2.split;exact a1.append (((Jn _ _).1 b1).append b2)
       have r2:=r1.swap (H2:=s.h.put id (.cells (pre++(cs++post)) np)) I Hs (by rw [Hp.br,ak rfl]) (fun j hj=>by rw [Hp.br,ah hj]) rfl rfl
       have Hm:bM (pre++(cs++post)) (k*es+off) vs=some (pre++(eW++post)):=by rw [<- eG,<- c2];exact jb pre (fR post hs)
       obtain⟨w',g1,g2,g3⟩:=eR (P:=P) r2 (by rw [Hp.br,ak rfl]) Hm wO BB;have hlen:x.cells.size=ti.size:=by have:=wO.length; simp only [aC] at this; omega
       have iu:(Instr.storeAt ty (.pointer (some ⟨(E1.θ id).1,(E1.θ id).2+(k*es+off),none⟩)) x).run P w= .ok () w':=by simp [Instr.storeAt,Instr.sureAddr,storeVar,bT (bx ty ti cN),hlen,g1]
       have fin: ∀(o':bS),OR E1 w'.heap id o'->∃w' E',(Instr.storeAt ty (.pointer (some ⟨(E1.θ id).1,(E1.θ id).2+(k*es+off),none⟩)) x).run P w= .ok () w'/\ca E1 s.h w E' (s.h.put id o') w'/\bq E' (s.h.put id o') w':=by
        intro o' o4;have Ii:rR (s.h.put id (.cells (pre++(cs++post)) np)) s.h:=(rR.put I).symm
        have Ih:rR ((s.h.put id (.cells (pre++(cs++post)) np)).put id (.cells (pre++(eW++post)) np)) (s.h.put id o'):=by
         refine⟨fun j y hj=>?_,fun j y hj=>?_,rfl,rfl⟩
         ·rw [Hp.br];split
          ·exact⟨o',rfl⟩
          ·rename_i dV;rw [Hp.br,ah dV,Hp.br,ah dV] at hj;exact⟨y,hj⟩
         ·rw [Hp.br] at hj ⊢;split
          ·exact⟨_,rfl⟩
          ·rename_i dV;rw [ah dV] at hj;rw [Hp.br,ah dV];exact⟨y,hj⟩
        refine⟨w',E1,iu,(g2.left Ii).right Ih,?_⟩;exact g3.swap (id:=id) (by rw [Hp.br,ak rfl]) o4 (by rw [Hp.br,ak rfl]) (fun j hj=>by rw [Hp.br,ah hj,Hp.br,ah hj,Hp.br,ah hj]) rfl rfl
       have nW:=(g3.live id _ (by rw [Hp.br,ak rfl])).2.1
       have apart: ∀dv:List (Y×List Z),jY (rowOf t) dv->bO E1.ρ k dv=some eW->(∀j:Nat,j≠k->bO E1.ρ j dv=bO E1.ρ j ov)->OR E1 w'.heap id (.vec e t np dv):=by
        intro dv q1 q2 q3;refine OR.gY.2 ⟨⟨q1,jO⟩,?_⟩
        have:bA E1.ρ e t dv=pre++(eW++post):=by
         unfold bA;obtain⟨d1,_⟩:=dF (ρ:=E1.ρ) q1 (j:=0) hd;rw [ax,q2] at d1;rw [d1,<- Dg,<- y0];congr 1
         ·refine eh _ _ fun j _ hj=>q3 j ?_;rw [a7] at hj;omega
         ·congr 1;exact eh _ _ fun j hj _=>q3 j J
        rw [this];exact nW
       split at N
       ·rename_i dv oJ;have:=bh N;simp only [ag] at this;obtain⟨rfl,rfl⟩:=this;refine⟨rfl,cM,rfl,?_⟩;obtain⟨q1,q2,q3⟩:=p8 cM R tT oJ ho;exact fin _ (apart dv q1 q2 q3)
       ·split at N
        ·rename_i HX;have y6:=th cM R HX;split at N
         ·rename_i e' Jl;have:=bh N;simp only [ag] at this;obtain⟨rfl,rfl⟩:=this;refine⟨rfl,cM,rfl,fin _ ?_⟩;have Lx:xk∈(dec (e.den E1.ρ)).l:=aP hd
          have hle:off+vs.length<=(rowOf t).es:=by
           rw [<- rI];rcases aat vs.length with hz|hz
           ·have Hb:=aaf hz;subst Hb
            have: ∀(l c:List Z) (o:Nat),bM c o []=some l->o<=c.length:=by
             intro l c
             induction c generalizing l with
             |nil=>intro o ho; cases o with |zero=>exact aaV _|succ o=>simp [bM] at ho
             |cons a c ih=>
              intro o ho
              cases o with
              |zero=>exact aaV _
              |succ o=>
               simp only [bM] at ho;split at ho
               ·rename_i l' LZ;have:=ih l' o LZ;simp; omega
               ·simp at ho
            have:=this _ _ _ hs;simpa using this
           ·have:=iD hs (off+vs.length-1);rw [ak J] at this
            have D4:(vs[off+vs.length-1-off]?).isSome=true:=by rw [aJ J]; rfl
            rw [<- this] at D4;obtain⟨y,hy⟩:=abf.1 D4;have:=(aL.1 hy).1;rw [eJ hs] at this;omega
          obtain⟨x',z1,z2,z3⟩:=x6 Jl R hd (jO.2.1 xk Lx) hle;refine OR.gY.2 ⟨⟨ho,?_⟩,?_⟩
          ·rw [z1];refine⟨by rw [ch],fun y hy=>?_,by rw [ch]; intro q; have:=congrArg List.length q; simp at this; exact jO.2.2 this⟩;rw [ch] at hy;rcases List.mem_or_eq_of_mem_set hy with hy|rfl
           ·exact jO.2.1 y hy
           ·exact z2
          ·have rN:(dec (e'.den E1.ρ)).l[k]?=some x':=by
            rw [z1,ch,List.getElem?_set_self c6]
           obtain⟨d1,d2⟩:=dF (ρ:=E1.ρ) ho (j:=0) rN;rw [ax,y6] at d1
           have y8:bA E1.ρ e' t ov=pre++(cT (rowOf t) (.cE x')++post):=by
            unfold bA;rw [d1,<- Dg,<- y0,z1,ch];congr 1
            ·rw [List.take_set_of_le (ar _)]
            ·congr 1;rw [List.drop_set_of_lt J]
           rw [y8];refine OR.congr nW (by simp only [aO,cV,tT]) fun us q2=>?_;obtain⟨a,b,rfl,a1,a2⟩:=q2.split;obtain⟨a',b',rfl,b1,b2⟩:=a2.split;refine a1.append (bC.append ?_ b2);rw [cF];simp only [Y.den,bn]
           have HP:cs=cT (rowOf t) (.op .at e i):=by
            rcases fT cM R B with g|⟨g,g'⟩
            ·rw [y6] at g; simp at g
            ·exact g'
           refine z3 _ a' (by rw [b1.length,tT]) ?_ ?_
           ·intro j vj uj L1 HH JK;have Ga:=(aL.1 HH).1;have:=iD hs j;rw [ak J,HH] at this;obtain⟨y,y1,y2⟩:=b1.nth (by rw [cI]; exact this);rw [JK] at y1;simp only [af] at y1;subst y1;exact y2
           ·intro j aj uj L1 HH JK;have:=iD hs j;rw [ah J,HP,HH] at this;obtain⟨y,y1,y2⟩:=b1.nth (by rw [cI]; exact this);rw [JK] at y1;simp only [af] at y1;subst y1;exact y2
         ·have:=bh N;simp only [ag] at this;obtain⟨rfl,rfl⟩:=this;refine⟨rfl,cM,rfl,fin _ (apart _ ?_ ?_ ?_)⟩
          ·intro p cM;rcases aw.1 cM with rfl|cM
           ·exact tT
           ·exact ho p cM
          ·simp only [bO];rw [ak R]
          ·intro j hj;simp only [bO];rw [ah J]
        ·simp [T.leaf] at N
      ·simp [T.leaf] at N
     ·simp [T.leaf] at N
    ·simp [T.leaf] at h
   ·simp [T.leaf] at h
  ·simp [T.leaf] at h
 ·simp [T.leaf] at h
theorem Dw {E1:En} {h:Array Obj} {c:CK} {v:Z} {u:Value} (W:V E1 h v u):V E1 h (FG c v) u:=by
 unfold FG;split
 ·split
  ·simp only [V] at W ⊢;subst W;exact⟨⟨none,rfl⟩,by simp only [Y.den,bn]; exact .nil _⟩
  ·split
   ·split
    ·split
     ·simp only [V] at W ⊢;obtain⟨_,a,cap,rfl,_,B⟩:=W;simp only [cg] at B;obtain⟨rfl,_⟩:=B;exact⟨⟨some a,rfl⟩,by simp only [Y.den,bn]; exact .nh _ _ _⟩
     grind
    grind
   grind
  grind
 grind
theorem sQ {E1:En} {h:Array Obj}: ∀(cs:List CK) {vs:List Z} {us:List Value},bC E1 h vs us->bC E1 h (vX cs vs) us
 |[],vs,us,W=>W
 |_::_,[],us,W=>W
 |c::cs,v::vs,us,W=>by rw [bt] at W;obtain⟨u,dh,rfl,O,U⟩:=W;simp only [vX];rw [bt];exact⟨u,dh,rfl,Dw O,sQ cs U⟩
set_option maxHeartbeats 800000 in
theorem wa [bp] {E1:En} {tt:TT} (bx:bV P tt) {s s':St} (r1:bq E1 s.h w) (F:bu E1.ρ s.pc) {ty id es:Nat} {i j0:Y} {off:Nat} {one:Bool} {vs:List Z} {v':Z} {u x:Value} (M:V E1 w.heap (.nk id es i off) u)
 (wP:one=true->bC E1 w.heap vs x.cells.toList/\∀u∈x.cells.toList,u.oneCell'=true) (h:(qO tt s ty id es i j0 off one vs).leaf E1.ρ=some (v',s')) :
 s'.bj=s.bj/\bu E1.ρ s'.pc/\v'=Z.undef/\∃w' E',(Instr.storeAt ty u x).run P w= .ok () w'/\ca E1 s.h w E' s'.h w'/\bq E' s'.h w':=by
 unfold qO at h;split at h
 ·rename_i o I;split at h
  ·rename_i e t np ov;split at h
   ·rename_i ti cN;split at h
    ·rename_i fa;obtain⟨eG,Hd,mr⟩:=fa;obtain⟨GP,D6,t1,t2,N⟩:=fM F h;obtain⟨cl,cM,N⟩:=kE (s:={ s with pc:=GP }) D6 N;split at N
     ·rename_i Mb;have JO:=cR cM Mb;split at N
      ·rename_i cs B;split at N
       ·rename_i eW hs;obtain⟨Ha,BB⟩:=wP mr;have wO:=sQ ((w4 (rowOf t)).drop off) Ha;have EY:=M;simp only [V] at EY;obtain⟨hid,k,R,rfl⟩:=EY;simp only [SB.den,beq_iff_eq] at JO;have rH:j0.den E1.ρ=(k:Int):=by rw [<- JO]; exact R
        obtain⟨rc,ho,jO⟩:=r1.gY I;rw [bz] at t2;have c6:k<(dec (e.den E1.ρ)).l.length:=J
        have hd:(dec (e.den E1.ρ)).l[k]?=some (dec (e.den E1.ρ)).l[k]:=aJ c6;generalize Ly:(dec (e.den E1.ρ)).l[k]=xk at hd;obtain⟨c1,c2⟩:=dF (ρ:=E1.ρ) ho (j:=0) hd;rw [ax] at c1;generalize Dg:bk E1.ρ (rowOf t) ov ((dec (e.den E1.ρ)).l.take k) 0=pre at c1 c2;generalize y0:bk E1.ρ (rowOf t) ov ((dec (e.den E1.ρ)).l.drop (k+1)) (k+1)=post at c1
        have fG:(∀h us,bC E1 h (match bO E1.ρ k ov with |some cs=>cs|none=>cT (rowOf t) (.cE xk)) us↔bC E1 h cs us)/\cs.length=(rowOf t).es:=by
         rcases fT cM rH B with g|⟨g,rfl⟩
         ·rw [g];obtain⟨p,p1,p2,_⟩:=eu g;have:=ho p p1;rw [p2] at this;exact⟨fun _ _=>Iff.rfl,this⟩
         ·rw [g];refine⟨fun h us=>lr ?_,cV _ _⟩;rw [og E1.ρ e j0 rH hd];simp only [Y.den,bn]
        obtain⟨Jn,rI⟩:=fG;have tT:eW.length=(rowOf t).es:=by rw [eJ hs,rI]
        have Hs:OR E1 w.heap id (.cells (pre++(cs++post)) np):=by
         have:=(rc.live id _ (by rw [Hp.br,ak rfl])).2.1;unfold bA at this;rw [c1] at this;refine OR.congr this ?_ ?_
         ·simp only [aO,rI];congr 2;split
          ·rename_i FT h0;obtain⟨p,p1,p2,_⟩:=eu h0;have:=ho p p1;rw [p2] at this;exact this.symm
          ·rw [cV]
         ·intro us q2;obtain⟨a,b,rfl,a1,a2⟩:=q2.split;obtain⟨a',b',rfl,b1,b2⟩:=a2.split;exact a1.append (((Jn _ _).1 b1).append b2)
        have r2:=r1.swap (H2:=s.h.put id (.cells (pre++(cs++post)) np)) I Hs (by rw [Hp.br,ak rfl]) (fun j hj=>by rw [Hp.br,ah hj]) rfl rfl
        have Hm:bM (pre++(cs++post)) (k*es+off) (vX ((w4 (rowOf t)).drop off) vs)=some (pre++(eW++post)):=by rw [<- eG,<- c2];exact jb pre (fR post hs)
        obtain⟨w',g1,g2,g3⟩:=eR (P:=P) r2 (by rw [Hp.br,ak rfl]) Hm wO BB;have hlen:x.cells.size=ti.size:=by have:=Ha.length; simp only [aC] at this; omega
        have iu:(Instr.storeAt ty (.pointer (some ⟨(E1.θ id).1,(E1.θ id).2+(k*es+off),none⟩)) x).run P w= .ok () w':=by simp [Instr.storeAt,Instr.sureAddr,storeVar,bT (bx ty ti cN),hlen,g1]
        have fin: ∀(o':bS),OR E1 w'.heap id o'->∃w' E',(Instr.storeAt ty (.pointer (some ⟨(E1.θ id).1,(E1.θ id).2+(k*es+off),none⟩)) x).run P w= .ok () w'/\ca E1 s.h w E' (s.h.put id o') w'/\bq E' (s.h.put id o') w':=by
         intro o' o4;have Ii:rR (s.h.put id (.cells (pre++(cs++post)) np)) s.h:=(rR.put I).symm
         have Ih:rR ((s.h.put id (.cells (pre++(cs++post)) np)).put id (.cells (pre++(eW++post)) np)) (s.h.put id o'):=by
          refine⟨fun j y hj=>?_,fun j y hj=>?_,rfl,rfl⟩
          ·rw [Hp.br];split
           ·exact⟨o',rfl⟩
           ·rename_i dV;rw [Hp.br,ah dV,Hp.br,ah dV] at hj;exact⟨y,hj⟩
          ·rw [Hp.br] at hj ⊢;split
           ·exact⟨_,rfl⟩
           ·rename_i dV;rw [ah dV] at hj;rw [Hp.br,ah dV];exact⟨y,hj⟩
         refine⟨w',E1,iu,(g2.left Ii).right Ih,?_⟩;exact g3.swap (id:=id) (by rw [Hp.br,ak rfl]) o4 (by rw [Hp.br,ak rfl]) (fun j hj=>by rw [Hp.br,ah hj,Hp.br,ah hj,Hp.br,ah hj]) rfl rfl
        have nW:=(g3.live id _ (by rw [Hp.br,ak rfl])).2.1
        have apart: ∀dv:List (Y×List Z),jY (rowOf t) dv->bO E1.ρ k dv=some eW->(∀j:Nat,j≠k->bO E1.ρ j dv=bO E1.ρ j ov)->OR E1 w'.heap id (.vec e t np dv):=by
         intro dv q1 q2 q3;refine OR.gY.2 ⟨⟨q1,jO⟩,?_⟩
         have:bA E1.ρ e t dv=pre++(eW++post):=by
          unfold bA;obtain⟨d1,_⟩:=dF (ρ:=E1.ρ) q1 (j:=0) hd;rw [ax,q2] at d1;rw [d1,<- Dg,<- y0];congr 1
          ·refine eh _ _ fun j _ hj=>q3 j ?_;rw [a7] at hj;omega
          ·congr 1;exact eh _ _ fun j hj _=>q3 j J
         rw [this];exact nW
        split at N
        ·rename_i dv oJ;have:=bh N;simp only [ag] at this;obtain⟨rfl,rfl⟩:=this;refine⟨rfl,cM,rfl,?_⟩;obtain⟨q1,q2,q3⟩:=p8 cM rH tT oJ ho;exact fin _ (apart dv q1 q2 q3)
        ·split at N
         ·rename_i HX;have:=bh N;simp only [ag] at this;obtain⟨rfl,rfl⟩:=this;refine⟨rfl,cM,rfl,fin _ (apart _ ?_ ?_ ?_)⟩
          ·intro p cM;rcases aw.1 cM with rfl|cM
           ·exact tT
           ·exact ho p cM
          ·simp only [bO];rw [ak rH]
          ·intro j hj;simp only [bO];rw [ah J]
         ·simp [T.leaf] at N
       ·simp [T.leaf] at N
      ·simp [T.leaf] at N
     ·simp [T.leaf] at N
    ·simp [T.leaf] at h
   ·simp [T.leaf] at h
  ·simp [T.leaf] at h
 ·simp [T.leaf] at h
theorem wc [bp] {tt:TT} (bx:bV P tt) {s s':St} (r:bq E s.h w) (F:bu E.ρ s.pc) {ty id es:Nat} {i:Y} {off:Nat} {v v':Z} {u x:Value} (M:V E w.heap (.nk id es i off) u) (W:V E w.heap v x) (h:(qQ tt s ty id es i off v).leaf E.ρ=some (v',s')) :
 s'.bj=s.bj/\bu E.ρ s'.pc/\v'=Z.undef/\∃w' E',(Instr.storeAt ty u x).run P w= .ok () w'/\ca E s.h w E' s'.h w'/\bq E' s'.h w':=by
 unfold qQ at h;split at h
 ·exact wa bx r F M (fun mr=> ⟨W.cells mr,(W.cells mr).iJ mr⟩) h
 ·obtain⟨vs,O,ea,E1,dE,f,q,g⟩:=kc rfl r F h;have hρ:=f.ρ;rw [<- hρ] at dE g;obtain⟨a1,a2,a3,w',E',a4,a5,a6⟩:=wb bx (s:={ s with h:=O,pc:=ea }) f.rel dE (V.bw (f.pN.keeps r) _ _ M) (fun mr=> ⟨q _ (W.cells mr),(W.cells mr).iJ mr⟩) g;exact⟨a1,by rw [<- hρ]; exact a2,a3,w',E',a4,f.pN.trans a5,a6⟩
end
section
variable {P:Program} {E:En} {w:World}
theorem k4.length {ro:Nat->Prop} {h:Array Obj} {r:Row} {d:D} {us:List Value} (hh:k4 ro h r d us):us.length=r.es:=by
 cases r with
 |one c=>obtain⟨u,rfl,_⟩:=hh; rfl
 |many cs=>exact bK.length hh
theorem cz.append {h:Array Obj} {b o:Nat} {us vs:List Value} (O:cz h b o us) (U:cz h b (o+us.length) vs):cz h b o (us++vs):=by
 intro i u hi;rw [aa7] at hi;split at hi
 ·exact O i u hi
 ·rename_i c6;have:=U _ u hi
  grind
theorem pS {ro:Nat->Prop} (eP:ro=E.ro) {h:Array Obj} {r:Row} {b o:Nat}: ∀(L:List D) (j:Nat),(∀i x,L[i]?=some x->∃us,k4 ro h r x us/\cz h b (o+(j+i)*r.es) us)->
 ∃us,bC E h (bk E.ρ r [] L j) us/\cz h b (o+j*r.es) us/\us.length=L.length*r.es/\∀u∈us,u.oneCell'=true
 |[],j,_=> ⟨[],by simp [bk,bC],fun i u hi=>by simp at hi,ad,ad⟩
 |d::L,j,hh=>by
  subst eP;obtain⟨a,a1,a2⟩:=hh 0 d rfl
  obtain⟨b',b1,b2,b3,b4⟩:=pS rfl L (j+1) fun i x hi=>by have:=hh (i+1) x (by simpa using hi);rw [show j+(i+1)=j+1+i by omega] at this;exact this
  have HW:=a1.length;refine⟨a++b',?_,?_,?_,?_⟩
  ·simp only [bk,bO];refine bC.append ?_ b1;rw [cF];simpa only [Y.den,bn] using a1
  ·rw [aH] at a2;refine a2.append ?_
   grind
  ·grind
  ·intro u hu;rcases aZ.1 hu with hu|hu
   ·exact a1.iJ u hu
   grind
theorem DD {t:Nat} {d:D} {u:Value} (hr:Rd E.ro w.heap (.sl t) d u) (dV:d.l≠[]): ∃us,Src P E w (rowOf t).es d.l.length (bk E.ρ (rowOf t) [] d.l 0) u us:=by
 obtain⟨x,M⟩ : ∃x,d.l[0]?=some x:=by
  cases h:d.l with
  |nil=>exact absurd h dV
  |cons a l=>exact⟨a,rfl⟩
 obtain⟨b,o,cap,Gf,rfl,K,_,_⟩:=hr.row M
 obtain⟨us,O,U,N,h4⟩:=pS (E:=E) (ro:=E.ro) rfl (h:=w.heap) (r:=rowOf t) (b:=b) (o:=o) d.l 0 fun i x hi=>by
  obtain⟨b',o',hC,dh,he,_,g1,g2⟩:=hr.row hi
  grind
 rw [aU,aH] at U;exact⟨us.toArray,fun _=>rfl,fun w2 hw=>by simp only [Builtin.firstCells]; exact U.yJ N w2 hw,by simpa using O,by simpa using N,by simpa using h4⟩
structure Grown (ρ:Nat->Int) (r:Row) (e0 e1:Y) (ds:List D) (news:List Z):Prop where
 l:(dec (e1.den ρ)).l=(dec (e0.den ρ)).l++ds
 wf:dec (e1.den ρ)=dL (dec (e1.den ρ)).l
 rows: ∀d∈ds,hJ r d
 vr: ∀(E':En) (h:Array Obj) (us:List Value) (j:Nat),E'.ρ=ρ->bC E' h news us->bC E' h (bk ρ r [] ds j) us
theorem eb (r:Row):jY r []:=fun p F=>by simp at F
theorem pg [bp] {E':En} {H0:Hp} {w':World} {cells:List Z} {e:TypeId} {e1:Y} {t:Nat} (r:bq E' (H0.new (.cells cells e)) w') (jO:jL (rowOf t) (dec (e1.den E'.ρ))) (I:(bA E'.ρ e1 t []).length=cells.length)
 (W: ∀us,bC E' w'.heap cells us->bC E' w'.heap (bA E'.ρ e1 t []) us):bq E' (H0.new (.vec e1 t e [])) w':=by
 have hg:(H0.new (.cells cells e)).get H0.fresh=some (.cells cells e):=by rw [Hp.cD,ak rfl]
 refine r.swap hg (OR.gY.2 ⟨⟨eb _,jO⟩,OR.congr (r.live _ _ hg).2.1 I W⟩) (by rw [Hp.cD,ak rfl]) (fun j hj=>by rw [Hp.cD,ah hj,Hp.cD,ah hj]) ?_ ?_
 all_goals grind [Hp.new]
theorem kL {H0 H1:Hp} {o o':bS} (hn:H1.next=H0.next) (hr:H1.res=H0.res) (hg: ∀j,(H0.get j).isSome=(H1.get j).isSome):rR (H0.new o) (H1.new o'):=by
 have hf:H1.fresh=H0.fresh:=by unfold Hp.fresh; rw [hn,hr]
 have key: ∀{Z_ Y_:Option bS} {x:bS},Z_.isSome=Y_.isSome->Z_=some x->∃y,Y_=some y:=by intro Z_ Y_ x O U;rw [U] at O;exact abf.1 O.symm
 refine⟨fun j x hj=>?_,fun j x hj=>?_,?_,?_⟩
 all_goals grind [Hp.cD,Hp.new]
set_option maxHeartbeats 800000 in
theorem lS [bp] {t t2 ty:Nat} {H h0:Hp} (r:bq E H w) {ie:TI} {e m:Nat} {own:Option Nat} {news:List Z} {x:Z} {d2:TypeDesc} {u u2:Value} {us:Array Value} (j6:fg P e ie)
 (ht:P.underlying t=some (.slice e)) (lW:P.underlying t2=some d2) (dX: ∀k,d2≠.int k) (k9:ie.size≠0) (kQ:ie.bytes≠0) (kO:ie.zero.length=ie.size) (wR:ie.bytes<=400)
 (src:Src P E w ie.size m news u2 us) (hm:0<m) (M:V E w.heap x u) {e0 e1:Y} {t':Nat} (K:hD e own x H=some (e0,t',h0)) (eG:(rowOf t').es=ie.size) {ds:List D} (g:Grown E.ρ (rowOf t') e0 e1 ds news) (kP:ds.length=m)
 (Fo:((dec (e0.den E.ρ)).l.length+m)*ie.bytes<=140737488355328) :
 ∃y w' E',(Builtin.append_ #[t,t2] ty #[u,u2]).run P w= .ok y w'/\ca E H w E' (h0.new (.vec e1 t' e [])) w'/\bq E' (h0.new (.vec e1 t' e [])) w'/\V E' w'.heap (.hK h0.fresh (bL e1) t') y:=by
 have hbound: ∀k,k<=(dec (e0.den E.ρ)).l.length->(k+m)*ie.bytes<=140737488355328:=by intro k R;exact aD (aaj _ J) Fo
 have Dk:news.length=m*ie.size:=by have O:=src.AB.length;have U:=src.size;simp only [aC] at O;omega
 have jm: ∀(a:Option Addr),u= .slice a 0 0->h0=H->(dec (e0.den E.ρ)).l= []->
  ∃y w' E',(Builtin.append_ #[t,t2] ty #[u,u2]).run P w= .ok y w'/\ca E H w E' (h0.new (.vec e1 t' e [])) w'/\bq E' (h0.new (.vec e1 t' e [])) w'/\V E' w'.heap (.hK h0.fresh (bL e1) t') y:=by
  intro a hu he fY;subst hu he
  have HL:fH ie e 0 m news h0=some (.slice h0.fresh 0 (0+m) (.rest ie.size),h0.new (.cells news e)):=by unfold fH;rw [ak (hbound 0 J)]
  obtain⟨y,w',E',p1,p2,p3,p4⟩:=gF (t:=t) (t2:=t2) (ty:=ty) (cap:=0) r j6 ht lW dX kQ kO src J a (old:=[]) (olds:=#[]) (cs:=news) ad (by simp [bC]) ad ad
   (fun w2 _=>by
    cases a with
    |none=>simp [Builtin.firstCells]
    |some a=>simp only [Builtin.firstCells,aU]; rfl) HL
  have hρ:=p2.ρ;have rG:(dec (e1.den E'.ρ)).l=ds:=by rw [hρ,g.l,fY,aab]
  have jO:jL (rowOf t') (dec (e1.den E'.ρ)):=by refine⟨by rw [hρ]; exact g.wf,fun d hd=>?_,by rw [rG]; intro q; rw [q] at kP; simp at kP; omega⟩;rw [rG] at hd;exact g.rows d hd
  refine⟨y,w',E',p1,p2.right (kL rfl rfl fun _=>rfl),pg p3 jO ?_ ?_,?_⟩
  ·unfold bA;rw [bB (eb _),rG,kP,eG,Dk]
  ·intro dh vI;unfold bA;rw [rG,hρ];exact g.vr E' w'.heap dh 0 hρ vI
  ·simp only [V] at p4 ⊢;obtain⟨q1,a',hC,q2,q3,q4⟩:=p4;refine⟨q1,0+m,a',hC,?_,q2,q3,?_⟩
   ·rw [bz,rG,kP,ax]
   ·rw [eG]; exact q4
 unfold hD at K;split at K
 ·rename_i id n t0;split at K
  ·rename_i o I;split at K
   ·rename_i mS La iV ov;split at K
    ·split at K
     ·rename_i E7;split at K
      ·rename_i E6;split at K
       ·rename_i hn;simp only [af,ag] at K;obtain⟨rfl,rfl,rfl⟩:=K;have E7:=aq E7;have E6:=aq E6;have hn:=bD _ _ hn;subst E7 E6 hn;obtain⟨r2,_,E4⟩:=r.gY I;simp only [V] at M;obtain⟨hid,k,a,cap,R,rfl,F9,ee⟩:=M;rw [bz] at R;have R:k=(dec (mS.den E.ρ)).l.length:=J
        have G7:V E w.heap (.slice id 0 k (.rest ie.size)) (.slice (some a) k cap):=by simp only [V];exact⟨hid,a,cap,rfl,F9,by rw [<- eG]; exact ee⟩
        have rI:(bA E.ρ mS t0 []).length=k*ie.size:=by unfold bA;rw [bB (eb _),eG,R]
        have Hy:0<m*ie.size:=aaF hm J
        have FB:hH ie iV m news (.slice id 0 k (.rest ie.size)) (H.put id (.cells (bA E.ρ mS t0 []) iV)) =
         some (.slice H.fresh 0 (k+m) (.rest ie.size),((H.put id (.cells (bA E.ρ mS t0 []) iV)).drop id).new (.cells (bA E.ρ mS t0 []++news) iV)):=by
         unfold hH;simp only [if_true];rw [Hp.br,ak rfl];simp only;rw [ah (by rw [rI,aW]; omega),ak ⟨J,trivial⟩];simp only [b8];unfold fH;rw [ak (hbound k J)];rfl
        obtain⟨y,w',E',p1,p2,p3,p4⟩:=kB (t:=t) (t2:=t2) (ty:=ty) r2 j6 ht lW dX k9 kQ kO src G7 FB;have hρ:=p2.ρ;have rG:(dec (e1.den E'.ρ)).l=(dec (mS.den E.ρ)).l++ds:=by rw [hρ,g.l]
        have jO:jL (rowOf t0) (dec (e1.den E'.ρ)):=by
         refine⟨by rw [hρ]; exact g.wf,fun d hd=>?_,by rw [rG]; intro q; have:=congrArg List.length q; simp at this; rw [this.2] at kP; simp at kP; omega⟩;rw [rG] at hd;rcases aZ.1 hd with hd|hd
         ·exact E4.2.1 d hd
         ·exact g.rows d hd
        have y8:bA E'.ρ e1 t0 []=bA E.ρ mS t0 []++bk E.ρ (rowOf t0) [] ds (0+(dec (mS.den E.ρ)).l.length):=by unfold bA;rw [rG,hρ,eQ]
        have vS: ∀j,(((H.put id (.cells (bA E.ρ mS t0 []) iV)).drop id).get j)=(H.drop id).get j:=by
         intro j;rw [Hp.gb,Hp.gb];split
         ·rfl
         ·rename_i dV;rw [Hp.br,ah dV]
        have al:rR (((H.put id (.cells (bA E.ρ mS t0 []) iV)).drop id).new (.cells (bA E.ρ mS t0 []++news) iV)) ((H.drop id).new (.vec e1 t0 iV [])):=
         kL rfl rfl fun j=>by rw [vS]
        have IU:bq E' ((H.drop id).new (.cells (bA E.ρ mS t0 []++news) iV)) w':=by
         have hg:(((H.put id (.cells (bA E.ρ mS t0 []) iV)).drop id).new (.cells (bA E.ρ mS t0 []++news) iV)).get H.fresh=some (.cells (bA E.ρ mS t0 []++news) iV):=by rw [Hp.cD];exact ak rfl
         refine p3.swap hg (p3.live _ _ hg).2.1 (by rw [Hp.cD]; exact ak rfl) (fun j hj=>?_) ?_ ?_
         ·rw [Hp.cD,Hp.cD];show (if j=H.fresh then _ else _)=(if j=H.fresh then _ else _);rw [ah hj,ah hj,vS]
         ·unfold Hp.new;simp only [Hp.drop,Hp.put];split<;>rfl
         ·unfold Hp.new;simp only [Hp.drop,Hp.put];split<;>rfl
        refine⟨y,w',E',p1,(p2.left (rR.put I).symm).right al,pg IU jO ?_ ?_,?_⟩
        ·rw [y8,aO,aO,bB (eb _),kP,eG,Dk]
        ·intro dh vI;obtain⟨a1,a2,rfl,b1,b2⟩:=vI.split;rw [y8];exact b1.append (g.vr E' w'.heap a2 _ hρ b2)
        ·simp only [V] at p4 ⊢;obtain⟨q1,a',hC,q2,q3,q4⟩:=p4;refine⟨q1,k+m,a',hC,?_,q2,q3,?_⟩
         ·rw [bz,rG,aO,kP,R]
         ·rw [eG]; exact q4
       ·simp at K
      ·simp at K
     ·simp at K
    ·simp at K
   ·simp at K
  ·simp at K
 ·split at K
  ·simp only [af,ag] at K;obtain⟨rfl,rfl,rfl⟩:=K;simp only [V] at M;exact jm none M rfl (by simp only [Y.den,bn,D.l])
  ·simp at K
 ·split at K
  ·simp only [af,ag] at K;obtain⟨rfl,rfl,rfl⟩:=K;simp only [V] at M;obtain⟨x,M⟩:=M;exact jm x M rfl (by simp only [Y.den,bn,D.l])
  ·simp at K
 ·split at K
  ·simp only [af,ag] at K;obtain⟨rfl,rfl,rfl⟩:=K;simp only [V] at M;obtain⟨⟨x,M⟩,_⟩:=M;exact jm x M rfl (by simp only [Y.den,bn,D.l])
  ·simp at K
 ·split at K
  ·split at K
   ·split at K
    ·split at K
     ·simp only [af,ag] at K;obtain⟨rfl,rfl,rfl⟩:=K;simp only [V] at M;obtain⟨_,a,cap,rfl,_,B⟩:=M;simp only [cg] at B;obtain⟨rfl,_⟩:=B;exact jm (some a) rfl rfl (by simp only [Y.den,bn,D.l])
     ·simp at K
    ·simp at K
   ·simp at K
  ·simp at K
 ·simp at K
end
noncomputable def tf (e:Nat) (own:Option Nat) (x:Z) (h:Hp):Option (Y×Nat×List (Y×List Z)×Hp):=match x with
 | .hK id n t=>match h.get id with
   |some o=>match o with
    | .vec e0 t0 ty ov=>match Nat.beq t t0 with
     |true=>match Nat.beq ty e with
      |true=>match cf n (bL e0) with
       |true=>some (e0,t,ov,h.drop id)
       |false=>none
      |false=>none
     |false=>none
    |_=>none
   |none=>none
 | .bE=>match own with
   |some t=>some (.cE (.i 0),t,[],h)
   |none=>none
 | .emp=>match own with
   |some t=>some (.cE (.i 0),t,[],h)
   |none=>none
 | .lN _ _=>match own with
   |some t=>some (.cE (.i 0),t,[],h)
   |none=>none
 | .slice _ _ n c=>match n with
   |0=>match c with
    | .exact k=>match k with
      |0=>match own with
       |some t=>some (.cE (.i 0),t,[],h)
       |none=>none
      |_=>none
    |_=>none
   |_=>none
 |_=>none
section
variable {P:Program} {E:En} {w:World}
structure yf (ρ:Nat->Int) (r:Row) (e0 e1:Y) (Ir C7:List (Y×List Z)) (ds:List D) (news:List Z):Prop where
 l:(dec (e1.den ρ)).l=(dec (e0.den ρ)).l++ds
 wf:dec (e1.den ρ)=dL (dec (e1.den ρ)).l
 rows: ∀d∈ds,hJ r d
 vr: ∀(E':En) (h:Array Obj) (Gf us:List Value),E'.ρ=ρ->bC E' h (bk ρ r Ir (dec (e0.den ρ)).l 0) Gf->bC E' h news us->bC E' h (bk ρ r C7 (dec (e1.den ρ)).l 0) (Gf++us)
theorem vy [bp] {E':En} {H0:Hp} {w':World} {cells:List Z} {e:TypeId} {e1:Y} {t:Nat} {ov:List (Y×List Z)} (r:bq E' (H0.new (.cells cells e)) w') (ho:jY (rowOf t) ov) (jO:jL (rowOf t) (dec (e1.den E'.ρ))) (I:(bA E'.ρ e1 t ov).length=cells.length)
 (W: ∀us,bC E' w'.heap cells us->bC E' w'.heap (bA E'.ρ e1 t ov) us):bq E' (H0.new (.vec e1 t e ov)) w':=by
 have hg:(H0.new (.cells cells e)).get H0.fresh=some (.cells cells e):=by rw [Hp.cD,ak rfl]
 refine r.swap hg (OR.gY.2 ⟨⟨ho,jO⟩,OR.congr (r.live _ _ hg).2.1 I W⟩) (by rw [Hp.cD,ak rfl]) (fun j hj=>by rw [Hp.cD,ah hj,Hp.cD,ah hj]) ?_ ?_
 all_goals grind [Hp.new]
set_option maxHeartbeats 800000 in
theorem oW [bp] {t t2 ty:Nat} {H h0:Hp} (r:bq E H w) {ie:TI} {e m:Nat} {own:Option Nat} {news:List Z} {x:Z} {d2:TypeDesc} {u u2:Value} {us:Array Value} (j6:fg P e ie)
 (ht:P.underlying t=some (.slice e)) (lW:P.underlying t2=some d2) (dX: ∀k,d2≠.int k) (k9:ie.size≠0) (kQ:ie.bytes≠0) (kO:ie.zero.length=ie.size) (wR:ie.bytes<=400)
 (src:Src P E w ie.size m news u2 us) (hm:0<m) (M:V E w.heap x u) {e0 e1:Y} {t':Nat} {Ir C7:List (Y×List Z)} (K:tf e own x H=some (e0,t',Ir,h0)) (eG:(rowOf t').es=ie.size) {ds:List D} (g:yf E.ρ (rowOf t') e0 e1 Ir C7 ds news) (kP:ds.length=m)
 (oJ:jY (rowOf t') C7) (Fo:((dec (e0.den E.ρ)).l.length+m)*ie.bytes<=140737488355328) :
 ∃y w' E',(Builtin.append_ #[t,t2] ty #[u,u2]).run P w= .ok y w'/\ca E H w E' (h0.new (.vec e1 t' e C7)) w'/\bq E' (h0.new (.vec e1 t' e C7)) w'/\V E' w'.heap (.hK h0.fresh (bL e1) t') y:=by
 have hbound: ∀k,k<=(dec (e0.den E.ρ)).l.length->(k+m)*ie.bytes<=140737488355328:=by intro k R;exact aD (aaj _ J) Fo
 have Dk:news.length=m*ie.size:=by have O:=src.AB.length;have U:=src.size;simp only [aC] at O;omega
 have jm: ∀(a:Option Addr),u= .slice a 0 0->h0=H->(dec (e0.den E.ρ)).l= []->
  ∃y w' E',(Builtin.append_ #[t,t2] ty #[u,u2]).run P w= .ok y w'/\ca E H w E' (h0.new (.vec e1 t' e C7)) w'/\bq E' (h0.new (.vec e1 t' e C7)) w'/\V E' w'.heap (.hK h0.fresh (bL e1) t') y:=by
  intro a hu he fY;subst hu he
  have HL:fH ie e 0 m news h0=some (.slice h0.fresh 0 (0+m) (.rest ie.size),h0.new (.cells news e)):=by unfold fH;rw [ak (hbound 0 J)]
  obtain⟨y,w',E',p1,p2,p3,p4⟩:=gF (t:=t) (t2:=t2) (ty:=ty) (cap:=0) r j6 ht lW dX kQ kO src J a (old:=[]) (olds:=#[]) (cs:=news) ad (by simp [bC]) ad ad
   (fun w2 _=>by
    cases a with
    |none=>simp [Builtin.firstCells]
    |some a=>simp only [Builtin.firstCells,aU]; rfl) HL
  have hρ:=p2.ρ;have rG:(dec (e1.den E'.ρ)).l=ds:=by rw [hρ,g.l,fY,aab]
  have jO:jL (rowOf t') (dec (e1.den E'.ρ)):=by refine⟨by rw [hρ]; exact g.wf,fun d hd=>?_,by rw [rG]; intro q; rw [q] at kP; simp at kP; omega⟩;rw [rG] at hd;exact g.rows d hd
  refine⟨y,w',E',p1,p2.right (kL rfl rfl fun _=>rfl),vy p3 oJ jO ?_ ?_,?_⟩
  ·unfold bA;rw [bB oJ,rG,kP,eG,Dk]
  ·intro dh vI;unfold bA;rw [hρ];have:=g.vr E' w'.heap [] dh hρ (by rw [fY]; simp [bk,bC]) vI;simpa using this
  ·simp only [V] at p4 ⊢;obtain⟨q1,a',hC,q2,q3,q4⟩:=p4;refine⟨q1,0+m,a',hC,?_,q2,q3,?_⟩
   ·rw [bz,rG,kP,ax]
   ·rw [eG]; exact q4
 unfold tf at K;split at K
 ·rename_i id n t0;split at K
  ·rename_i o I;split at K
   ·rename_i mS La iV ov
    ·split at K
     ·rename_i E7;split at K
      ·rename_i E6;split at K
       ·rename_i hn;simp only [af,ag] at K;obtain⟨rfl,rfl,rfl,rfl⟩:=K;have E7:=aq E7;have E6:=aq E6;have hn:=bD _ _ hn;subst E7 E6 hn;obtain⟨r2,Hr,E4⟩:=r.gY I;simp only [V] at M;obtain⟨hid,k,a,cap,R,rfl,F9,ee⟩:=M;rw [bz] at R;have R:k=(dec (mS.den E.ρ)).l.length:=J
        have G7:V E w.heap (.slice id 0 k (.rest ie.size)) (.slice (some a) k cap):=by simp only [V];exact⟨hid,a,cap,rfl,F9,by rw [<- eG]; exact ee⟩
        have rI:(bA E.ρ mS t0 ov).length=k*ie.size:=by unfold bA;rw [bB Hr,eG,R]
        have Hy:0<m*ie.size:=aaF hm J
        have FB:hH ie iV m news (.slice id 0 k (.rest ie.size)) (H.put id (.cells (bA E.ρ mS t0 ov) iV)) =
         some (.slice H.fresh 0 (k+m) (.rest ie.size),((H.put id (.cells (bA E.ρ mS t0 ov) iV)).drop id).new (.cells (bA E.ρ mS t0 ov++news) iV)):=by
         unfold hH;simp only [if_true];rw [Hp.br,ak rfl];simp only;rw [ah (by rw [rI,aW]; omega),ak ⟨J,trivial⟩];simp only [b8];unfold fH;rw [ak (hbound k J)];rfl
        obtain⟨y,w',E',p1,p2,p3,p4⟩:=kB (t:=t) (t2:=t2) (ty:=ty) r2 j6 ht lW dX k9 kQ kO src G7 FB;have hρ:=p2.ρ;have rG:(dec (e1.den E'.ρ)).l=(dec (mS.den E.ρ)).l++ds:=by rw [hρ,g.l]
        have jO:jL (rowOf t0) (dec (e1.den E'.ρ)):=by
         refine⟨by rw [hρ]; exact g.wf,fun d hd=>?_,by rw [rG]; intro q; have:=congrArg List.length q; simp at this; rw [this.2] at kP; simp at kP; omega⟩;rw [rG] at hd;rcases aZ.1 hd with hd|hd
         ·exact E4.2.1 d hd
         ·exact g.rows d hd
        have vS: ∀j,(((H.put id (.cells (bA E.ρ mS t0 ov) iV)).drop id).get j)=(H.drop id).get j:=by
         intro j;rw [Hp.gb,Hp.gb];split
         ·rfl
         ·rename_i dV;rw [Hp.br,ah dV]
        have al:rR (((H.put id (.cells (bA E.ρ mS t0 ov) iV)).drop id).new (.cells (bA E.ρ mS t0 ov++news) iV)) ((H.drop id).new (.vec e1 t0 iV C7)):=
         kL rfl rfl fun j=>by rw [vS]
        have IU:bq E' ((H.drop id).new (.cells (bA E.ρ mS t0 ov++news) iV)) w':=by
         have hg:(((H.put id (.cells (bA E.ρ mS t0 ov) iV)).drop id).new (.cells (bA E.ρ mS t0 ov++news) iV)).get H.fresh=some (.cells (bA E.ρ mS t0 ov++news) iV):=by rw [Hp.cD];exact ak rfl
         refine p3.swap hg (p3.live _ _ hg).2.1 (by rw [Hp.cD]; exact ak rfl) (fun j hj=>?_) ?_ ?_
         ·rw [Hp.cD,Hp.cD];show (if j=H.fresh then _ else _)=(if j=H.fresh then _ else _);rw [ah hj,ah hj,vS]
         ·unfold Hp.new;simp only [Hp.drop,Hp.put];split<;>rfl
         ·unfold Hp.new;simp only [Hp.drop,Hp.put];split<;>rfl
        refine⟨y,w',E',p1,(p2.left (rR.put I).symm).right al,vy IU oJ jO ?_ ?_,?_⟩
        ·unfold bA;rw [bB oJ,rG,aO,aO,bB Hr,kP,eG,Dk,aW]
        ·intro dh vI;obtain⟨a1,a2,rfl,b1,b2⟩:=vI.split;unfold bA at b1 ⊢;rw [hρ];exact g.vr E' w'.heap a1 a2 hρ b1 b2
        ·simp only [V] at p4 ⊢;obtain⟨q1,a',hC,q2,q3,q4⟩:=p4;refine⟨q1,k+m,a',hC,?_,q2,q3,?_⟩
         ·rw [bz,rG,aO,kP,R]
         ·rw [eG]; exact q4
       ·simp at K
      ·simp at K
     ·simp at K
   ·simp at K
  ·simp at K
 ·split at K
  ·simp only [af,ag] at K;obtain⟨rfl,rfl,rfl,rfl⟩:=K;simp only [V] at M;exact jm none M rfl (by simp only [Y.den,bn,D.l])
  ·simp at K
 ·split at K
  ·simp only [af,ag] at K;obtain⟨rfl,rfl,rfl,rfl⟩:=K;simp only [V] at M;obtain⟨x,M⟩:=M;exact jm x M rfl (by simp only [Y.den,bn,D.l])
  ·simp at K
 ·split at K
  ·simp only [af,ag] at K;obtain⟨rfl,rfl,rfl,rfl⟩:=K;simp only [V] at M;obtain⟨⟨x,M⟩,_⟩:=M;exact jm x M rfl (by simp only [Y.den,bn,D.l])
  ·simp at K
 ·split at K
  ·split at K
   ·split at K
    ·split at K
     ·simp only [af,ag] at K;obtain⟨rfl,rfl,rfl,rfl⟩:=K;simp only [V] at M;obtain⟨_,a,cap,rfl,_,B⟩:=M;simp only [cg] at B;obtain⟨rfl,_⟩:=B;exact jm (some a) rfl rfl (by simp only [Y.den,bn,D.l])
     ·simp at K
    ·simp at K
   ·simp at K
  ·simp at K
 ·simp at K
end
section
variable {ρ:Nat->Int} {r:Row}
theorem gX {p:Y} {cs:List Z}: ∀(ds:List D) (j:Nat),(∀i,j<=i->i<j+ds.length->p.den ρ≠(i:Int))->bk ρ r [(p,cs)] ds j=bk ρ r [] ds j
 |[],_,_=>rfl
 |d::ds,j,h=>by have h0:=h j (ar _) (by simp only [aA]; omega);simp only [bk,bO,ah h0];rw [gX ds (j+1) fun i O U=>h i J (by simp only [aA]; omega)]
theorem G0 {e0 e1 p:Y} {cs news:List Z} {ds:List D} (g:Grown ρ r e0 e1 ds news) (F:p.den ρ<((dec (e0.den ρ)).l.length:Int)):yf ρ r e0 e1 [(p,cs)] [(p,cs)] ds news:=by refine⟨g.l,g.wf,g.rows,fun E' h Gf us hρ h0 O=>?_⟩;rw [g.l,eQ];refine h0.append ?_;rw [gX ds _ fun i O _=>by omega];exact g.vr E' h us _ hρ O
theorem Gi {e0 e1 p:Y} {news zs:List Z} {d:D} (g:Grown ρ r e0 e1 [d] zs) (F:p.den ρ=((dec (e0.den ρ)).l.length:Int)):yf ρ r e0 e1 [] [(p,news)] [d] news:=by
 refine⟨g.l,g.wf,g.rows,fun E' h Gf us hρ h0 O=>?_⟩;rw [g.l,eQ,gX _ _ fun i _ U=>by omega];refine h0.append ?_;simp only [bk,bO,ax]
 grind
theorem FX {e:Nat} {own:Option Nat} {x:Z} {h h0:Hp} {e0:Y} {t:Nat} (K:hD e own x h=some (e0,t,h0)):tf e own x h=some (e0,t,[],h0):=by
 unfold hD at K;unfold tf
 repeat' split at K
 all_goals first
  |(simp at K; done)
  |(simp only [af,ag] at K; obtain⟨rfl,rfl,rfl⟩:=K; simp_all)
theorem IX {e:Nat} {own:Option Nat} {x:Z} {h h0:Hp} {e0 p:Y} {cs:List Z} {t:Nat} (K:nA e x h=some (e0,t,p,cs,h0)):tf e own x h=some (e0,t,[(p,cs)],h0):=by
 unfold nA at K;unfold tf
 repeat' split at K
 all_goals first
  |(simp at K; done)
  |(simp only [af,ag] at K; obtain⟨rfl,rfl,rfl,rfl,rfl⟩:=K; simp_all)
end
section
variable {P:Program} {E:En} {w:World}
theorem Src.Cx {E1:En} {s m:Nat} {news oG:List Z} {u:Value} {us:Array Value} (src:Src P E w s m news u us) (h:bC E1 w.heap oG us.toList):Src P E1 w s m oG u us:=
 ⟨src.len,src.first,h,src.size,src.iJ⟩
theorem room_le {bytes n m:Nat} (kQ:bytes≠0) (wR:bytes<=400) (hm:(m:Int)<iq bytes 1000000) (hn:n<1000000):(n+m)*bytes<=140737488355328:=by
 have JC:(m:Int)<((140737488355328 / bytes-1000000:Nat):Int):=hm;have O:m<140737488355328 / bytes-1000000:=J
 have U:n+m<=140737488355328 / bytes:=J
 exact aD (aaj _ U) (abg _ _)
theorem A7 {bytes m:Nat} (hm:(m:Int)<iq bytes 0):(([]:List D).length+m)*bytes<=140737488355328:=by
 have JC:(m:Int)<((140737488355328 / bytes-0:Nat):Int):=hm;have U:([]:List D).length+m<=140737488355328 / bytes:=by simp only [aaX]; omega
 exact aD (aaj _ U) (abg _ _)
theorem pT {bytes n m:Nat} (hn:(n:Int)<iq bytes (m+1)) {k:Nat} (R:k=m+1):(n+k)*bytes<=140737488355328:=by
 have MF:(n:Int)<((140737488355328 / bytes-(m+1):Nat):Int):=hn;have U:n+k<=140737488355328 / bytes:=J
 exact aD (aaj _ U) (abg _ _)
theorem gZ {ρ:Nat->Int} {r:Row} {m:Nat} {e e1:Y} {news:List Z} (h:ei r e m news=some e1) (hw:dec (e.den ρ)=dL (dec (e.den ρ)).l): ∃ds,ds.length=m/\Grown ρ r e e1 ds news:=by obtain⟨ds,O,U,N,h4,h5⟩:=ky (ρ:=ρ) m h;exact⟨ds,O,U,N hw,h4,h5⟩
theorem uS [bp] {H h0:Hp} (r:bq E H w) {e:Nat} {own:Option Nat} {x:Z} {e0:Y} {t:Nat} (h:hD e own x H=some (e0,t,h0)):dec (e0.den E.ρ)=dL (dec (e0.den E.ρ)).l:=by
 have hz:dec ((Y.cE (.i 0)).den E.ρ)=dL (dec ((Y.cE (.i 0)).den E.ρ)).l:=by simp only [Y.den,bn]; rfl
 unfold hD at h;split at h
 ·split at h
  ·rename_i o I;split at h
   ·split at h
    ·split at h
     ·split at h
      ·split at h
       ·simp only [af,ag] at h;obtain⟨rfl,_⟩:=h;exact (r.gY I).2.2.1
       grind
      grind
     grind
    grind
   grind
  grind
 all_goals grind
theorem oX [bp] {t t2 ty:Nat} {ie:TI} {e:Nat} {d2:TypeDesc} {u u2:Value} {us:Array Value} {news:List Z} (j6:fg P e ie) (ht:P.underlying t=some (.slice e)) (lW:P.underlying t2=some d2) (dX: ∀k,d2≠.int k)
 (src:Src P E w ie.size 0 news u2 us) (ho: ∃a n cap,u= .slice a n cap/\n<=cap):(Builtin.append_ #[t,t2] ty #[u,u2]).run P w= .ok u w:=by
 obtain⟨inf,d,z,O,U,N,h4,h5,h6,h7,h8⟩:=j6.all;obtain⟨a,n,cap,rfl,hn⟩:=ho;have vI:us.toList= []:=aaf (by rw [aC,src.size,aU])
 have:=ej (t:=t) (t2:=t2) (ty:=ty) (n:=n) (cap:=cap) (a:=a) (w':=w) ht lW dX O h5 src J (by
  cases a with
  |none=>rfl
  |some a=>rw [vI]; rfl)
 grind
theorem zW {x:Z} {u:Value} {H h0:Hp} {e t:Nat} {own:Option Nat} {e0:Y} (M:V E w.heap x u) (K:hD e own x H=some (e0,t,h0)): ∃a n cap,u= .slice a n cap/\n<=cap:=by
 unfold hD at K;split at K
 ·simp only [V] at M
  grind
 ·simp only [V] at M
  grind
 ·simp only [V] at M
  grind
 ·simp only [V] at M
  grind
 ·simp only [V] at M
  grind
 grind
theorem vF {x:Z} {u:Value} {own:Option Nat} (M:V E w.heap x u) (K:Bs own x=true): ∃a n cap,u= .slice a n cap/\n<=cap:=by
 unfold Bs at K;split at K
 ·simp only [V] at M
  grind
 ·simp only [V] at M
  grind
 ·simp only [V] at M
  grind
 ·simp only [V] at M
  grind
 ·simp only [V] at M
  grind
 ·simp only [V] at M
  grind
 grind
theorem oQ [bp] {s s':St} (r:bq E s.h w) (F:bu E.ρ s.pc) {t t2 ty e m':Nat} {own:Option Nat} {ie:TI} {news:List Z} {x v:Z} {d2:TypeDesc} {u u2:Value} {us:Array Value} (j6:fg P e ie) (hu:P.underlying t=some (.slice e)) (dX:P.underlying t2=some d2) (ka: ∀k,d2≠.int k)
 (k9:ie.size≠0) (kQ:ie.bytes≠0) (kO:ie.zero.length=ie.size) (wR:ie.bytes<=400) (src:Src P E w ie.size (m'+1) news u2 us) (M:V E w.heap x u) (h:(mQ e own x ie m' news s).leaf E.ρ=some (v,s')) :
 s'.bj=s.bj/\bu E.ρ s'.pc/\∃z w' E',(Builtin.append_ #[t,t2] ty #[u,u2]).run P w= .ok z w'/\ca E s.h w E' s'.h w'/\bq E' s'.h w'/\V E' w'.heap v z:=by
 unfold mQ at h;obtain⟨oG,O,IT,E1,Jt,f,wO,h⟩:=kc rfl r F h;split at h
 ·rename_i e0 t' h0 K;split at h
  ·rename_i B;obtain⟨eG,hm⟩:=B;have hρ:=f.ρ;obtain⟨ea,dE,U⟩:=bH (s:={ s with h:=O,pc:=IT }) Jt h;split at U
   ·rename_i t3;rw [bN,decide_eq_true_eq,bz] at t3;simp only [Y.den] at t3;split at U
    ·rename_i e1 Fx;have:=bh U;simp only [ag] at this;obtain⟨rfl,rfl⟩:=this;obtain⟨ds,kP,g⟩:=gZ (ρ:=E1.ρ) Fx (uS f.rel K);obtain⟨z,w',E',p1,p2,p3,p4⟩:=lS (t:=t) (t2:=t2) (ty:=ty) f.rel j6 hu dX ka k9 kQ kO wR (src.Cx (wO _ src.AB)) J (V.bw (f.pN.keeps r) _ _ M) K eG g kP (pT (by rw [hρ]; exact t3) J);exact⟨rfl,dE,z,w',E',p1,f.pN.trans p2,p3,p4⟩
    grind [T.leaf]
   grind [T.leaf]
  grind [T.leaf]
 grind [T.leaf]
theorem GR [bp] {H h0:Hp} (r:bq E H w) {e:Nat} {x:Z} {e0 p:Y} {cs:List Z} {t:Nat} (h:nA e x H=some (e0,t,p,cs,h0)):dec (e0.den E.ρ)=dL (dec (e0.den E.ρ)).l/\jY (rowOf t) [(p,cs)]:=by
 unfold nA at h;split at h
 ·split at h
  ·rename_i I;split at h
   ·split at h
    ·grind
    ·split at h
     ·split at h
      ·rename_i ht;split at h
       ·split at h
        ·simp only [af,ag] at h;obtain⟨rfl,rfl,rfl,rfl,_⟩:=h;have ht:=aq ht;subst ht;exact⟨(r.gY I).2.2.1,(r.gY I).2.1⟩
        grind
       grind
      grind
     grind
   grind
  grind
 grind
theorem uH [bp] {s s':St} (r:bq E s.h w) (F:bu E.ρ s.pc) {t t2 ty e m':Nat} {own:Option Nat} {ie:TI} {news:List Z} {x v:Z} {d2:TypeDesc} {u u2:Value} {us:Array Value} (j6:fg P e ie) (hu:P.underlying t=some (.slice e)) (dX:P.underlying t2=some d2) (ka: ∀k,d2≠.int k)
 (k9:ie.size≠0) (kQ:ie.bytes≠0) (kO:ie.zero.length=ie.size) (wR:ie.bytes<=400) (src:Src P E w ie.size (m'+1) news u2 us) (M:V E w.heap x u) (h:(oc e x ie m' news s).leaf E.ρ=some (v,s')) :
 s'.bj=s.bj/\bu E.ρ s'.pc/\∃z w' E',(Builtin.append_ #[t,t2] ty #[u,u2]).run P w= .ok z w'/\ca E s.h w E' s'.h w'/\bq E' s'.h w'/\V E' w'.heap v z:=by
 unfold oc at h;obtain⟨oG,O,IT,E1,Jt,f,wO,h⟩:=kc rfl r F h;split at h
 ·rename_i e0 t' p cs h0 K;split at h
  ·rename_i B;obtain⟨eG,hm⟩:=B;have hρ:=f.ρ;obtain⟨ea,dE,U⟩:=bH (s:={ s with h:=O,pc:=IT }) Jt h;split at U
   ·rename_i t3;rw [bN,decide_eq_true_eq,bz] at t3;simp only [Y.den] at t3;obtain⟨gQ,gw,N⟩:=bH (s:={ s with h:=O,pc:=ea }) dE U;split at N
    ·rename_i t4;rw [bN,decide_eq_true_eq,bz] at t4;split at N
     ·rename_i e1 Fx;have:=bh N;simp only [ag] at this;obtain⟨rfl,rfl⟩:=this;obtain⟨LA,Jc⟩:=GR f.rel K;obtain⟨ds,kP,g⟩:=gZ (ρ:=E1.ρ) Fx LA;obtain⟨z,w',E',p1,p2,p3,p4⟩:=oW (t:=t) (t2:=t2) (ty:=ty) f.rel j6 hu dX ka k9 kQ kO wR (src.Cx (wO _ src.AB)) J (V.bw (f.pN.keeps r) _ _ M) (IX (own:=own) K) eG (G0 g (by rw [hρ]; exact t4)) kP Jc (pT (by rw [hρ]; exact t3) J);exact⟨rfl,gw,z,w',E',p1,f.pN.trans p2,p3,p4⟩
     grind [T.leaf]
    grind [T.leaf]
   grind [T.leaf]
  grind [T.leaf]
 grind [T.leaf]
theorem uG [bp] {s s':St} (r:bq E s.h w) (F:bu E.ρ s.pc) {t t2 ty e m':Nat} {own:Option Nat} {ie:TI} {news:List Z} {x v:Z} {d2:TypeDesc} {u u2:Value} {us:Array Value} (j6:fg P e ie) (hu:P.underlying t=some (.slice e)) (dX:P.underlying t2=some d2) (ka: ∀k,d2≠.int k)
 (k9:ie.size≠0) (kQ:ie.bytes≠0) (kO:ie.zero.length=ie.size) (wR:ie.bytes<=400) (src:Src P E w ie.size (m'+1) news u2 us) (M:V E w.heap x u) (h:(oa e own x ie m' news s).leaf E.ρ=some (v,s')) :
 s'.bj=s.bj/\bu E.ρ s'.pc/\∃z w' E',(Builtin.append_ #[t,t2] ty #[u,u2]).run P w= .ok z w'/\ca E s.h w E' s'.h w'/\bq E' s'.h w'/\V E' w'.heap v z:=by
 unfold oa at h;split at h
 ·rename_i e0 t' h0 K;split at h
  ·rename_i B;obtain⟨eG,rfl⟩:=B;obtain⟨ea,dE,U⟩:=bH F h;split at U
   ·rename_i t3;obtain⟨gQ,gw,N⟩:=bH (s:={ s with pc:=ea }) dE U;split at N
    ·rename_i t4;rw [bN,decide_eq_true_eq,bz] at t4;simp only [Y.den] at t4;split at N
     ·rename_i e1 Fx;have:=bh N;simp only [ag] at this;obtain⟨rfl,rfl⟩:=this;obtain⟨ds,kP,g⟩:=gZ (ρ:=E.ρ) Fx (uS r K)
      obtain⟨d,rfl⟩ : ∃d,ds= [d]:=by
       cases ds with
       |nil=>simp at kP
       |cons d l=>cases l with
        |nil=>exact⟨d,rfl⟩
        |cons a b=>simp at kP
      have Dk:news.length=(rowOf t').es:=by
       have O:=src.AB.length;have U:=src.size
       grind
      obtain⟨z,w',E',p1,p2,p3,p4⟩:=oW (t:=t) (t2:=t2) (ty:=ty) r j6 hu dX ka k9 kQ kO wR src J M (FX K) eG (Gi (p:=.pE 0) g (by rw [cW,bz] at t3; simp only [beq_iff_eq] at t3; exact t3.symm)) kP (fun q hq=>by simp only [List.mem_singleton] at hq; subst hq; exact Dk) (pT t4 J)
      grind
     grind [T.leaf]
    grind [T.leaf]
   ·obtain⟨q1,q2,q3⟩:=oQ (s:={ s with pc:=ea }) r dE (ty:=ty) j6 hu dX ka k9 kQ kO wR src M U
    grind
  grind [T.leaf]
 grind [T.leaf]
set_option maxHeartbeats 800000 in
theorem uF [bp] {tt:TT} (bx:bV P tt) {s s':St} (r:bq E s.h w) (F:bu E.ρ s.pc) {t t2 ty:Nat} {x y v:Z} {u u2:Value} (M:V E w.heap x u) (hy:V E w.heap y u2) (Jk:D0 y=false->∃a n cap,u= .slice a n cap/\n<=cap) (h:(n9 tt t t2 x y s).leaf E.ρ=some (v,s')) :
 s'.bj=s.bj/\bu E.ρ s'.pc/\∃z w' E',(Builtin.append_ #[t,t2] ty #[u,u2]).run P w= .ok z w'/\ca E s.h w E' s'.h w'/\bq E' s'.h w'/\V E' w'.heap v z:=by
 unfold n9 at h;split at h
 ·rename_i ti cN;split at h
  ·rename_i e R;split at h
   ·rename_i ie eA;split at h
    ·simp [T.leaf] at h
    ·rename_i yn By;obtain⟨d2,dX,rH⟩:=iM (bx t2 yn By);split at h
     ·simp [T.leaf] at h
     ·rename_i k2 dV
      have ka: ∀k,d2≠.int k:=by intro k hd;subst hd;cases j7:yn.kind<;>rw [j7] at rH<;>simp only [tl] at rH;exact dV _ j7
      split at h
      ·simp [T.leaf] at h
      ·rename_i fa;simp only [not_or,Classical.not_not] at fa;obtain⟨k9,kQ,kO,wR⟩:=fa;have j6:=bx e ie eA;have hu:=cn (bx t ti cN) R;split at h
       ·
        rename_i e2 F1;split at h
        ·rename_i e0 t' h0 K;split at h
         ·rename_i B;obtain⟨eG,fG⟩:=B;obtain⟨ea,dE,O⟩:=bH F h;rw [eZ,bz] at O;simp only [V] at hy;obtain⟨xa,Kk,yZ,_⟩:=hy.slice;split at O
          ·rename_i hz;simp only [Y.den,beq_iff_eq] at hz;have:=bh O;simp only [ag] at this;obtain⟨rfl,rfl⟩:=this;have Bw:(dec (e2.den E.ρ)).l.length=0:=J
           rw [Bw] at yZ;subst yZ
           have src:Src P E w ie.size 0 [] (.slice xa 0 Kk) #[]:=⟨fun _=>rfl,fun w2 _=>by
            cases xa with
            |none=>simp [Builtin.firstCells]
            |some a=>simp only [Builtin.firstCells,aU]; rfl,by simp [bC],ad,ad⟩
           exact⟨rfl,dE,u,w,E,oX j6 hu dX ka src (zW M K),ca.refl _ _ _,r,M⟩
          ·rename_i hz;simp only [Y.den,beq_eq_false_iff_ne,ne_eq] at hz;obtain⟨gQ,gw,U⟩:=bH (s:={ s with pc:=ea }) dE O;split at U
           ·rename_i uY;obtain⟨Ct,vK,N⟩:=bH (s:={ s with pc:=gQ }) gw U;split at N
            ·rename_i t3;rw [bN,decide_eq_true_eq,bz] at uY t3;simp only [Y.den] at uY t3;have Hx:(dec (e2.den E.ρ)).l≠[]:=by intro q; rw [q] at hz; simp at hz
             obtain⟨us,src⟩:=DD (P:=P) (w:=w) hy Hx;rw [fG] at src;rw [eG] at src
             have gq:0<(dec (e2.den E.ρ)).l.length:=by
              rcases aat (dec (e2.den E.ρ)).l.length with q|q
              ·omega
              ·exact q
             have EZ:dec (e2.den E.ρ)=dL (dec (e2.den E.ρ)).l/\∀d∈(dec (e2.den E.ρ)).l,hJ (rowOf F1) d:=by
              have key: ∀{d:D} {v:Value},Rd E.ro w.heap (.sl F1) d v->d.l≠[]->d=dL d.l/\∀x∈d.l,hJ (rowOf F1) x:=by
               intro d v hr dV
               have Cd: ∀{c:CK} {d:D} {v:Value},Rd E.ro w.heap c d v->gu c d:=by
                intro c d v hr
                cases hr with
                |int k n=>rfl
                |bool b=>cases b<;>simp [gu]
                |str s=>trivial
                |nil t=>trivial
                |nh t a cap=>trivial
                |one t c b o cap ds f hr B K O U=>trivial
                |many t cs b o cap rows f hr B K I O U=>trivial
               generalize B:CK.sl F1=c at hr
               cases hr with
               |int k n=>simp at B
               |bool b=>simp at B
               |str s=>simp at B
               |nil t=>exact absurd rfl dV
               |nh t a cap=>exact absurd rfl dV
               |one t c b o cap ds f hr vT K O U=> simp only [CK.sl.injEq] at B;subst B;refine⟨by rw [ch],fun x M=>?_⟩;rw [ch] at M;obtain⟨i,hi⟩:=aay.1 M;rw [hr];exact Cd (U i x hi)
               |many t cs b o cap rows f hr vT K I O U=> simp only [CK.sl.injEq] at B;subst B;refine⟨by rw [ch],fun x M=>?_⟩;rw [ch,aF] at M;obtain⟨row,Fa,rfl⟩:=M;obtain⟨i,hi⟩:=aay.1 Fa;rw [hr];refine⟨by rw [ch],by rw [ch]; exact I row Fa,fun j c y hj hy=>?_⟩;rw [ch] at hy;exact Cd (U i row j y c hi hy hj)
              exact key hy Hx
             rw [fG] at EZ
             have grown: ∀e1:Y,(dec (e1.den E.ρ)).l=(dec (e0.den E.ρ)).l++(dec (e2.den E.ρ)).l->dec (e1.den E.ρ)=dL (dec (e1.den E.ρ)).l->Grown E.ρ (rowOf t') e0 e1 (dec (e2.den E.ρ)).l (bk E.ρ (rowOf t') [] (dec (e2.den E.ρ)).l 0):=by
              intro e1 q1 q2;refine⟨q1,q2,EZ.2,fun E' h us j hρ W=>?_⟩
              have:bk E.ρ (rowOf t') [] (dec (e2.den E.ρ)).l j=bk E.ρ (rowOf t') [] (dec (e2.den E.ρ)).l 0:=by
               generalize (dec (e2.den E.ρ)).l=L;clear W q1 q2
               have gen: ∀(L:List D) (a b:Nat),bk E.ρ (rowOf t') [] L a=bk E.ρ (rowOf t') [] L b:=by
                intro L
                induction L with
                |nil=>intro a b; rfl
                |cons d L ih=>intro a b; simp only [bk,bO]; rw [ih (a+1) (b+1)]
               exact gen L j 0
              rw [this];exact W
             have MP:=uS r K;split at N
             ·rename_i fY
              have HU:(dec (e0.den E.ρ)).l= []:=by
               unfold xj at fY;split at fY
               ·split at fY
                ·simp only [Y.den,bn,D.l]
                ·simp at fY
               ·simp at fY
              have:=bh N;simp only [ag] at this;obtain⟨rfl,rfl⟩:=this;obtain⟨z,w',E',p1,p2,p3,p4⟩:=lS (t:=t) (t2:=t2) (ty:=ty) r j6 hu dX ka k9 kQ kO wR src gq M K eG (grown e2 (by rw [HU,aab]) EZ.1) rfl (by rw [HU]; refine A7 (bytes:=ie.bytes) ?_; have q:=uY; unfold A8 at q; rw [fY] at q; exact q);exact⟨rfl,vK,z,w',E',p1,p2,p3,p4⟩
             ·rename_i fY;have:=bh N;simp only [ag] at this;obtain⟨rfl,rfl⟩:=this;obtain⟨z,w',E',p1,p2,p3,p4⟩:=lS (t:=t) (t2:=t2) (ty:=ty) r j6 hu dX ka k9 kQ kO wR src gq M K eG (grown (.op .cat e0 e2) (by simp only [Y.den,c8.den,bn,ch]) (by simp only [Y.den,c8.den,bn,ch])) rfl (room_le kQ wR (by have q:=uY; unfold A8 at q; rw [fY] at q; exact q) J);exact⟨rfl,vK,z,w',E',p1,p2,p3,p4⟩
            ·simp [T.leaf] at N
           ·simp [T.leaf] at U
         ·simp [T.leaf] at h
        ·simp [T.leaf] at h
       ·
        split at h
        ·rename_i m news xo;obtain⟨us,src⟩:=hU (P:=P) r hy xo;split at h
         ·have:=bh h;simp only [ag] at this;obtain⟨rfl,rfl⟩:=this
          exact⟨rfl,F,u,w,E,oX j6 hu dX ka src (Jk (by
           cases y<;>first |rfl|(rename_i rM _ _ _; exact absurd rfl (rM _ _))|(rename_i rM; exact absurd rfl (rM _ _)))),ca.refl _ _ _,r,M⟩
         ·rename_i m';split at h
          ·exact uH (own:=ti.own) r F j6 hu dX ka k9 kQ kO wR src M h
          ·split at h
           ·exact uG r F j6 hu dX ka k9 kQ kO wR src M h
           ·exact oQ r F j6 hu dX ka k9 kQ kO wR src M h
        ·simp [T.leaf] at h
   ·simp [T.leaf] at h
  ·simp [T.leaf] at h
 ·simp [T.leaf] at h
end
section
variable {P:Program} {E:En} {w:World}
theorem yk {h:Array Obj} {id t:Nat} {n:Y} {u:Value} (W:V E h (.hK id n t) u):V E h (.jN id (.lit 0) n t) u:=by simp only [V] at W ⊢;obtain⟨O,k,a,cap,U,N,h4,h5⟩:=W;exact⟨O,0,k,a,cap,rfl,U,N,h4,by rw [aU]; exact h5⟩
theorem xz {tt:TT} (bx:bV P tt) {s s':St} (F:bu E.ρ s.pc) {ty t id:Nat} {lo n:Y} {ix v:Z} {u ui:Value} (M:V E w.heap (.jN id lo n t) u) (my:V E w.heap ix ui) (h:(ua tt s ty id t lo n ix).leaf E.ρ=some (v,s')) :
 s'.bj=s.bj/\s'.h=s.h/\bu E.ρ s'.pc/\∃r,(Instr.indexAt ty u ui).run P w= .ok r w/\V E w.heap v r:=by
 unfold ua at h;split at h
 ·rename_i kd i;split at h
  ·rename_i z hz;split at h
   ·rename_i eG;obtain⟨cl,cM,O,U,N⟩:=fM F h;have:=bh N;simp only [ag] at this;obtain⟨rfl,rfl⟩:=this;refine⟨rfl,rfl,cM,?_⟩;simp only [V] at M my;subst my;obtain⟨hid,l,m,a,cap,I,hn,rfl,ee,B⟩:=M;obtain⟨el,ie,hu,eA,rfl⟩:=fJ bx hz;obtain⟨k,R⟩ : ∃k:Nat,i.den E.ρ=(k:Int):=⟨(i.den E.ρ).toNat,J⟩;have c6:k<m:=J
    have ha:a=⟨(E.θ id).1,(E.θ id).2+l*ie.size,none⟩:=by
     simp only [cg] at B
     grind
    subst ha;refine⟨.pointer (some ⟨(E.θ id).1,(E.θ id).2+l*ie.size+k*ie.size,none⟩),?_,?_⟩
    ·rw [R];simp [Instr.indexAt,asIntOf,run_underlying hu,bT (bx el ie eA),c6,cj]
    ·simp only [V];exact⟨hid,l+k,by rw [gJ,I,R]; rfl,by rw [aH,aW,aQ]⟩
   ·simp [T.leaf] at h
  ·simp [T.leaf] at h
 ·simp [T.leaf] at h
theorem Bn {lo:Option Z} {lV:Option Value} {l:Y} {n:Nat} (h:Iu lo=some l) (jJ:cG E w.heap lo lV) (hn:l.den E.ρ=(n:Int)) :
 ∃AD,cG E w.heap AD lV/\∀y,n<=y->fP AD 0 y=some n:=by
 unfold Iu at h;split at h
 ·simp only [af] at h;subst h;simp only [Y.den] at hn
  grind [fP]
 ·split at h
  ·rename_i v k q;simp only [af] at h;subst h;obtain⟨y,rfl,hy⟩:=jJ;refine⟨some (.int k (.lit (Int.ofNat n))),⟨y,rfl,?_⟩,fun y hy=>by simp [fP,ec,hy]⟩;simp only [V,Y.den] at hy ⊢
   grind
  grind
theorem pj {k:IntKind} {q:Y} {n:Nat} {o:Option Value} (hq:q.den E.ρ=(n:Int)) (ho:cG E w.heap (some (.int k q)) o):cG E w.heap (some (.int k (.lit (Int.ofNat n)))) o:=by
 obtain⟨y,rfl,hy⟩:=ho;refine⟨y,rfl,?_⟩;simp only [V,Y.den] at hy ⊢
 grind
theorem pC {k:IntKind} {n d y:Nat} (hn:n<=y):fP (some (.int k (.lit (Int.ofNat n)))) d y=some n:=by simp [fP,ec,hn]
theorem qN [bp] {tt:TT} (bx:bV P tt) {s s':St} (r:bq E s.h w) (F:bu E.ρ s.pc) {ty id t:Nat} {Dc n0:Y} {lo hi mx:Option Z} {lV hi' mx':Option Value} {v:Z} {u:Value} (M:V E w.heap (.jN id Dc n0 t) u)
 (jJ:cG E w.heap lo lV) (lX:cG E w.heap hi hi') (lH:cG E w.heap mx mx') (h:(pt tt s ty id t Dc n0 lo hi mx).leaf E.ρ=some (v,s')) :
 s'.bj=s.bj/\s'.h=s.h/\bu E.ρ s'.pc/\∃r,(Instr.sliceAt ty u lV hi' mx').run P w= .ok r w/\V E w.heap v r:=by
 unfold pt at h;split at h
 ·simp [T.leaf] at h
 ·rename_i z hz;split at h
  ·rename_i fa;obtain⟨eG,Lt⟩:=fa;obtain⟨el,ie,hu,eA,rfl⟩:=fJ bx hz;have dc:=bT (bx el ie eA);simp only [V] at M;obtain⟨hid,l0,m0,a,cap,g1,g2,rfl,ee,B⟩:=M
   have fin: ∀(l k:Nat) (e1 e2:Y),(Instr.sliceBounds true m0 cap lV hi' none).run P w= .ok (l,k,cap) w->l<=k->k<=cap->e1.den E.ρ=(l:Int)->e2.den E.ρ=(k:Int)->
    ∃r,(Instr.sliceAt ty (.slice (some a) m0 cap) lV hi' none).run P w= .ok r w/\V E w.heap (.jN id (iS Dc e1) (pI e2 e1) t) r:=by
    intro l k e1 e2 K D9 R BI ID;refine⟨.slice (some (if cap=l then a else a.add (l*ie.size))) (k-l) (cap-l),?_,?_⟩
    ·simp [Instr.sliceAt,run_underlying hu,Instr.slice,K,dc]<;>split<;>rfl
    ·simp only [V];refine⟨hid,l0+l,k-l,_,_,by rw [gJ,g1,BI]; rfl,by rw [zF,BI,ID]; omega,rfl,J,?_⟩;rw [aW];have q:=hB (l:=l) (h:=k) (m:=cap) (es:=(rowOf t).es) B ee D9 R (ar _) (.inr (.inr ⟨rfl,rfl,rfl⟩)) (rowOf t).es (fun _=>rfl);rw [eG];exact q
   split at h
   ·simp [T.leaf] at h
   ·rename_i ql Jp;obtain⟨ea,dE,O⟩:=bH F h;split at O
    ·simp [T.leaf] at O
    ·rename_i t1;rw [bN,decide_eq_false_iff_not] at t1;simp only [Y.den,aak] at t1;obtain⟨l,I⟩ : ∃l:Nat,ql.den E.ρ=(l:Int):=⟨(ql.den E.ρ).toNat,J⟩;obtain⟨AD,BC,iN⟩:=Bn Jp jJ I;split at O
     ·
      simp only [cG] at lX;subst lX;split at O
      ·simp [T.leaf] at O
      ·simp only [cG] at lH;subst lH;obtain⟨gQ,gw,U⟩:=bH (s:={ s with pc:=ea }) dE O;split at U
       ·simp [T.leaf] at U
       ·rename_i t2;have:=bh U;simp only [ag] at this;obtain⟨rfl,rfl⟩:=this;rw [bN,decide_eq_false_iff_not] at t2;have KL:l<=m0:=J
        obtain⟨e1,e2⟩:=cB (P:=P) (w:=w) (isSlice:=true) (len:=m0) (cap:=cap) (m0:=cap) (d:=0) (m:=cap) (h0:=cap) (h:=m0) (l:=l) BC (hi:=none) (hi':=none) (by simp [cG]) (mx:=none) (mx':=none) (by simp [cG]) ad (.inl ⟨rfl,rfl,ar _⟩) (by simp [fP,ee]) ⟨fun _=>ar _,ad⟩ (iN _ KL);exact⟨rfl,rfl,gw,fin l m0 _ _ e1 KL ee I g2⟩
     ·rename_i W;split at O
      ·rename_i kh qh;obtain⟨gQ,gw,U⟩:=bH (s:={ s with pc:=ea }) dE O;split at U
       ·simp [T.leaf] at U
       ·rename_i t2;rw [bN,decide_eq_false_iff_not] at t2;obtain⟨k,R⟩ : ∃k:Nat,qh.den E.ρ=(k:Int):=⟨(qh.den E.ρ).toNat,J⟩;have D9:l<=k:=J
        split at U
        ·rename_i mv;split at U
         ·rename_i km qm;obtain⟨Ct,vK,N⟩:=bH (s:={ s with pc:=gQ }) gw U;split at N
          ·simp [T.leaf] at N
          ·rename_i t3;obtain⟨Ll,Ju,h4⟩:=bH (s:={ s with pc:=Ct }) vK N;split at h4
           ·simp [T.leaf] at h4
           ·rename_i t4;have:=bh h4;simp only [ag] at this;obtain⟨rfl,rfl⟩:=this;rw [bN,decide_eq_false_iff_not] at t3 t4;obtain⟨m,hm⟩ : ∃m:Nat,qm.den E.ρ=(m:Int):=⟨(qm.den E.ρ).toNat,J⟩;obtain⟨e1,e2⟩:=cB (P:=P) (w:=w) (isSlice:=true) (len:=m0) (cap:=cap) (m0:=cap) (d:=0) (m:=m) (h0:=m) (h:=k) (l:=l) BC (pj R lX) (pj hm lH) ad (.inr ⟨_,rfl,pC J,ar _⟩) (pC J) ⟨ad,fun _=>rfl⟩ (iN _ D9);refine⟨rfl,rfl,Ju,.slice (some (if m=l then a else a.add (l*ie.size))) (k-l) (m-l),?_,by simp only [V]⟩;simp [Instr.sliceAt,run_underlying hu,Instr.slice,e1,dc]<;>split<;>rfl
         ·simp [T.leaf] at U
        ·simp only [cG] at lH;subst lH
         have go:k<=cap->∃r,(Instr.sliceAt ty (.slice (some a) m0 cap) lV hi' none).run P w= .ok r w/\V E w.heap (.jN id (iS Dc ql) (pI qh ql) t) r:=by intro F9;obtain⟨e1,e2⟩:=cB (P:=P) (w:=w) (isSlice:=true) (len:=m0) (cap:=cap) (m0:=cap) (d:=0) (m:=cap) (h0:=cap) (h:=k) (l:=l) BC (pj R lX) (mx:=none) (mx':=none) (by simp [cG]) ad (.inl ⟨rfl,rfl,ar _⟩) (pC F9) ⟨fun _=>ar _,ad⟩ (iN _ D9);exact fin l k _ _ e1 D9 F9 I R
         obtain⟨Ct,vK,N⟩:=bH (s:={ s with pc:=gQ }) gw U;split at N
         ·rename_i t3;have:=bh N;simp only [ag] at this;obtain⟨rfl,rfl⟩:=this;rw [bN,decide_eq_false_iff_not] at t3;exact⟨rfl,rfl,vK,go J⟩
         ·split at N
          ·simp [T.leaf] at N
          ·rename_i Ls;split at N
           ·simp [T.leaf] at N
           ·rename_i e np He;obtain⟨Ll,Ju,h4⟩:=bH (s:={ s with pc:=Ct }) vK N;split at h4
            ·simp [T.leaf] at h4
            ·rename_i t4;have:=bh h4;simp only [ag] at this;obtain⟨rfl,rfl⟩:=this;rw [bN,decide_eq_false_iff_not,bz] at t4;refine⟨rfl,rfl,Ju,go ?_⟩;have LU:=iX He;obtain⟨ho,q0⟩:=OR.gY.1 (r.live id _ LU).2.1;have JF:=qx Ls;subst JF;simp only [Y.den] at g1;have HE:l0=0:=J
             subst HE;simp only [OR] at q0;obtain⟨arr,Kw,Gb,us,q1,q2,q3,q4,q5,q6,q7⟩:=q0;unfold bA at q4;rw [bB ho.1] at q4;have dV:0<(dec (e.den E.ρ)).l.length:=aaQ.2 ho.2.2.2;have gq:0<(rowOf t).es:=J
             simp only [cg] at B
             have hκ:(dec (e.den E.ρ)).l.length<=cap:=by
              rcases B with B|B
              ·have:(dec (e.den E.ρ)).l.length*(rowOf t).es<=cap*(rowOf t).es:=J
               exact abc this gq
              ·have:=aaF dV gq;omega
             omega
      ·simp [T.leaf] at O
  ·simp [T.leaf] at h
theorem xO [bp] {tt:TT} (bx:bV P tt) {s s':St} (F:bu E.ρ s.pc) {ty t:Nat} {z:Y} {lo hi mx:Option Z} {lV hi' mx':Option Value} {v:Z} {u:Value} (M:V E w.heap (.lN z t) u)
 (jJ:cG E w.heap lo lV) (lX:cG E w.heap hi hi') (lH:cG E w.heap mx mx') (h:(uu tt s ty z t lo hi mx).leaf E.ρ=some (v,s')) :
 s'.bj=s.bj/\s'.h=s.h/\bu E.ρ s'.pc/\∃r,(Instr.sliceAt ty u lV hi' mx').run P w= .ok r w/\V E w.heap v r:=by
 unfold uu at h;split at h
 ·grind [T.leaf]
 ·simp only [cG] at lH;subst lH;split at h
  ·grind [T.leaf]
  ·rename_i zz hz;obtain⟨el,ie,hu,eA,rfl⟩:=fJ bx hz;have dc:=bT (bx el ie eA);split at h
   ·rename_i nj;split at h
    ·rename_i iN;have:=bh h;simp only [ag] at this;obtain⟨rfl,rfl⟩:=this;have G8:=M;simp only [V] at M;obtain⟨⟨x,rfl⟩,hr⟩:=M;obtain⟨e1,e2⟩:=cB (P:=P) (w:=w) (isSlice:=true) (len:=0) (cap:=0) (m0:=0) (d:=0) (m:=0) jJ lX (mx:=none) (mx':=none) (by simp [cG]) ad (.inl ⟨rfl,rfl,ar _⟩) nj ⟨fun _=>ar _,ad⟩ iN;refine⟨rfl,rfl,F,.slice x 0 0,?_,G8⟩;simp [Instr.sliceAt,run_underlying hu,Instr.slice,e1,dc]
    grind [T.leaf]
   grind [T.leaf]
end
theorem pP: ∀{Y_ Z!:List Z},Z!.length=Y_.length->bM Y_ 0 Z!=some Z!
 |[],[],_=>rfl
 |[],_::_,h=>by simp at h
 |_::_,[],h=>by simp at h
 |b::Y_,v::Z!,h=>by simp only [bM];rw [pP (by simpa using h)]
theorem wX {Z_ Y_ C Z!:List Z} (h:Z!.length=Y_.length):bM (Z_++(Y_++C)) Z_.length Z!=some (Z_++(Z!++C)):=by
 have:=jb Z_ (fR C (pP h))
 grind
theorem rT {α:Type}: ∀{a b:List α},di a.length (a++b)=some a
 |[],b=>rfl
 |x::a,b=>by simp only [aA,aM,di,rT]
theorem eg {ρ:Nat->Int} {r:Row}: ∀(L:List D) (a b:Nat),bk ρ r [] L a=bk ρ r [] L b
 |[],_,_=>rfl
 |d::L,a,b=>by simp only [bk,bO]; rw [eg L (a+1) (b+1)]
theorem dG {ρ:Nat->Int} {r:Row}: ∀(Z_ Y_:List D),bk ρ r [] (Z_++Y_) 0=bk ρ r [] Z_ 0++bk ρ r [] Y_ 0
 |[],Y_=>rfl
 |d::Z_,Y_=>by simp only [aM,bk,bO,aae];rw [eg (Z_++Y_) 1 0,eg Z_ 1 0,dG Z_ Y_]
section
variable {P:Program} {E:En} {w:World}
theorem AK [bp] {H:Hp} (r:bq E H w) {id t:Nat} {e0:Y} {iV:TypeId} (I:H.get id=some (.vec e0 t iV [])) (k9:(rowOf t).es≠0) {k cap:Nat} {a:Addr} (B:cg E id 0 k a cap (.rest (rowOf t).es)) :
 a=⟨(E.θ id).1,(E.θ id).2,none⟩/\(dec (e0.den E.ρ)).l.length<=cap:=by
 obtain⟨ho,q0⟩:=OR.gY.1 (r.live id _ I).2.1;simp only [OR] at q0;obtain⟨arr,Kw,Gb,us,q1,q2,q3,q4,q5,q6,q7⟩:=q0;unfold bA at q4;rw [bB ho.1] at q4;have dV:0<(dec (e0.den E.ρ)).l.length:=aaQ.2 ho.2.2.2;have gq:0<(rowOf t).es:=J
 simp only [cg] at B;rcases B with B|B
 ·refine⟨by simpa using B.1,?_⟩;have:(dec (e0.den E.ρ)).l.length*(rowOf t).es<=cap*(rowOf t).es:=J
  exact abc this gq
 ·have:=aaF dV gq;omega
theorem pF [bp] {H:Hp} (r:bq E H w) {id t:Nat} {e0:Y} {iV:TypeId} (I:H.get id=some (.vec e0 t iV [])) {n mm:Nat} (hle:n+mm<=(dec (e0.den E.ρ)).l.length) {ds:List D} (kP:ds.length=mm) (jO: ∀d∈ds,hJ (rowOf t) d)
 {us:List Value} (W:bC E w.heap (bk E.ρ (rowOf t) [] ds 0) us) (O: ∀u∈us,u.oneCell'=true) {e1:Y} (BI:dec (e1.den E.ρ)=dL ((dec (e0.den E.ρ)).l.take n++ds++(dec (e0.den E.ρ)).l.drop (n+mm))) :
 ∃w',(storeCells ⟨(E.θ id).1,(E.θ id).2+n*(rowOf t).es,none⟩ us).run P w= .ok () w'/\ca E H w E (H.put id (.vec e1 t iV [])) w'/\bq E (H.put id (.vec e1 t iV [])) w':=by
 obtain⟨rc,ho,hw⟩:=r.gY I;generalize hL:(dec (e0.den E.ρ)).l=L at *
 have Hl:L=L.take n++((L.drop n).take mm++L.drop (n+mm)):=by
  conv=>lhs; rw [<- aas n L]
  congr 1
  conv=>lhs; rw [<- aas mm (L.drop n)]
  simp_all
 have B:bA E.ρ e0 t []=bk E.ρ (rowOf t) [] (L.take n) 0++(bk E.ρ (rowOf t) [] ((L.drop n).take mm) 0++bk E.ρ (rowOf t) [] (L.drop (n+mm)) 0):=by
  unfold bA;rw [hL]
  conv=>lhs; rw [Hl]
  rw [dG,dG]
 have JG:(bk E.ρ (rowOf t) [] (L.take n) 0).length=n*(rowOf t).es:=by
  rw [bB (eb _),a7]
  grind
 have Jk:bM (bA E.ρ e0 t []) (n*(rowOf t).es) (bk E.ρ (rowOf t) [] ds 0)=some (bA E.ρ e1 t []):=by
  have:bA E.ρ e1 t []=bk E.ρ (rowOf t) [] (L.take n) 0++(bk E.ρ (rowOf t) [] ds 0++bk E.ρ (rowOf t) [] (L.drop (n+mm)) 0):=by unfold bA;rw [BI,ch,dG,dG,aae]
  rw [this,B,<- JG];refine wX ?_;rw [bB (eb _),bB (eb _),a7,aap,kP]
  grind
 obtain⟨w',g1,g2,g3⟩:=eR (P:=P) rc (by rw [Hp.br,ak rfl]) Jk W O;have Ii:rR (H.put id (.cells (bA E.ρ e0 t []) iV)) H:=(rR.put I).symm
 have Ih:rR ((H.put id (.cells (bA E.ρ e0 t []) iV)).put id (.cells (bA E.ρ e1 t []) iV)) (H.put id (.vec e1 t iV [])):=by
  refine⟨fun j y hj=>?_,fun j y hj=>?_,rfl,rfl⟩
  ·rw [Hp.br];split
   ·grind
   ·rename_i dV;rw [Hp.br,ah dV,Hp.br,ah dV] at hj
    grind
  ·rw [Hp.br] at hj ⊢;split
   ·grind
   ·rename_i dV;rw [ah dV] at hj;rw [Hp.br,ah dV];exact⟨y,hj⟩
 have nW:=(g3.live id _ (by rw [Hp.br,ak rfl])).2.1
 have Hs:OR E w'.heap id (.vec e1 t iV []):=by
  refine OR.gY.2 ⟨⟨eb _,?_⟩,nW⟩;rw [BI];refine⟨by rw [ch],?_,?_⟩
  ·rw [ch];intro d hd;rcases aZ.1 hd with hd|hd
   ·rcases aZ.1 hd with hd|hd
    ·exact hw.2.1 d (by rw [hL]; exact aT hd)
    ·exact jO d hd
   ·exact hw.2.1 d (by rw [hL]; exact aS hd)
  ·rw [ch];intro q;have:=congrArg List.length q;simp only [aO,a7,aap,aaX,kP] at this;have dV:=aaQ.2 hw.2.2;rw [hL] at dV;omega
 refine⟨w',g1,(g2.left Ii).right Ih,?_⟩;exact g3.swap (id:=id) (by rw [Hp.br,ak rfl]) Hs (by rw [Hp.br,ak rfl]) (fun j hj=>by rw [Hp.br,ah hj,Hp.br,ah hj,Hp.br,ah hj]) rfl rfl
theorem wI [bp] {s s':St} (r:bq E s.h w) (F:bu E.ρ s.pc) {id t t1 t2 ty e:Nat} {e0 n1 m sd lo:Y} {iV:TypeId} {ie:TI} {d2:TypeDesc} (j6:fg P e ie) (ht:P.underlying t1=some (.slice e)) (lW:P.underlying t2=some d2) (dX: ∀k,d2≠.int k)
 (eG:(rowOf t).es=ie.size) (k9:ie.size≠0) (I:s.h.get id=some (.vec e0 t iV [])) (jJ:De lo=true) {u u2:Value} {us:Array Value} {ds:List D} (M:V E w.heap (.jN id lo n1 t) u) {mm:Nat} (hm:m.den E.ρ=(mm:Int))
 (kP:ds.length=mm) (E9:(dec (sd.den E.ρ)).l=ds) (jO: ∀d∈ds,hJ (rowOf t) d) {news:List Z} (src:Src P E w ie.size mm news u2 us) (W:bC E w.heap (bk E.ρ (rowOf t) [] ds 0) us.toList) {v:Z} (h:(zy id t iV e0 n1 m sd s).leaf E.ρ=some (v,s')) :
 s'.bj=s.bj/\bu E.ρ s'.pc/\∃z w' E',(Builtin.append_ #[t1,t2] ty #[u,u2]).run P w= .ok z w'/\ca E s.h w E' s'.h w'/\bq E' s'.h w'/\V E' w'.heap v z:=by
 unfold zy at h;obtain⟨cl,cM,g1,g2,g3,g4⟩:=nB F h;have:=bh g4;simp only [ag] at this;obtain⟨rfl,rfl⟩:=this;have jJ:=qx jJ;subst jJ;have G8:=M;simp only [V] at M;obtain⟨hid,l0,k,a,cap,q1,q2,rfl,q4,q5⟩:=M;simp only [Y.den] at q1;have HE:l0=0:=J
 subst HE;rw [aU] at q5;obtain⟨rfl,eL⟩:=AK r I (by rw [eG]; exact k9) q5;have hle:k+mm<=(dec (e0.den E.ρ)).l.length:=J
 obtain⟨inf,d,z,O,U,N,h4,h5,h6,h7,h8⟩:=j6.all
 obtain⟨w',f1,f2,f3⟩:=pF (P:=P) r I (n:=k) hle kP jO W src.iJ (e1:=.op .cat (.op .cat (.op .take e0 n1) sd) (.op .drop e0 (iS n1 m))) (by
  have hn:((k:Int)+(mm:Int)).toNat=k+mm:=J
  simp only [Y.den,c8.den,bn,ch,gJ,pB,q2,hm,hn,E9,a8])
 refine⟨rfl,cM,.slice (some ⟨(E.θ id).1,(E.θ id).2,none⟩) (k+mm) cap,w',E,?_,f2,f3,?_⟩
 ·exact ej (s:=ie.size) ht lW dX O h5 src J (by simp only [cj]; rw [<- eG]; exact f1)
 ·simp only [V];refine⟨hid,0,k+mm,_,_,rfl,by rw [gJ,q2,hm]; rfl,rfl,J,?_⟩;rw [aU];simp only [cg] at q5 ⊢
  grind
theorem wq [bp] {tt:TT} (bx:bV P tt) {s s':St} (r:bq E s.h w) (F:bu E.ρ s.pc) {t t2 ty id t':Nat} {lo n1:Y} {y v:Z} {u u2:Value} (jJ:De lo=true) (M:V E w.heap (.jN id lo n1 t') u) (hy:V E w.heap y u2) (h:(qZ tt t t2 id n1 t' y s).leaf E.ρ=some (v,s')) :
 s'.bj=s.bj/\bu E.ρ s'.pc/\∃z w' E',(Builtin.append_ #[t,t2] ty #[u,u2]).run P w= .ok z w'/\ca E s.h w E' s'.h w'/\bq E' s'.h w'/\V E' w'.heap v z:=by
 unfold qZ at h;split at h
 ·rename_i ti cN;split at h
  ·rename_i e R;split at h
   ·rename_i ie eA;split at h
    ·grind [T.leaf]
    ·rename_i yn By;obtain⟨d2,dX,rH⟩:=iM (bx t2 yn By);split at h
     ·grind [T.leaf]
     ·rename_i k2 dV
      have ka: ∀k,d2≠.int k:=by
       intro k hd;subst hd;cases j7:yn.kind<;>rw [j7] at rH<;>simp only [tl] at rH
       grind
      split at h
      ·grind [T.leaf]
      ·rename_i fa;simp only [not_or,Classical.not_not] at fa;obtain⟨k9,kQ,kO,eG⟩:=fa;have j6:=bx e ie eA;have hu:=cn (bx t ti cN) R;split at h
       ·grind [T.leaf]
       ·rename_i e0 iV He;have I:=iX He;split at h
        ·rename_i I7 AD n2 uY;split at h
         ·rename_i uZ;split at h
          ·rename_i lW;have uZ:=aq uZ;have lW:=aq lW;subst uZ lW;obtain⟨ea,dE,g1,g2,g3,g4⟩:=nB F h;have MD:=hy;simp only [V] at hy;obtain⟨hid,l,k,a,cap,q1,q2,rfl,q4,q5⟩:=hy;obtain⟨rc,ho,hw⟩:=r.gY I;generalize hL:(dec (e0.den E.ρ)).l=L at *;have D9:l+k<=L.length:=J
           have Hl:L=L.take l++((L.take (l+k)).drop l++L.drop (l+k)):=by
            conv=>lhs; rw [<- aas (l+k) L]
            grind
           have AF:bA E.ρ e0 uY []=bk E.ρ (rowOf uY) [] (L.take l) 0++(bk E.ρ (rowOf uY) [] ((L.take (l+k)).drop l) 0++bk E.ρ (rowOf uY) [] (L.drop (l+k)) 0):=by
            unfold bA;rw [hL]
            conv=>lhs; rw [Hl]
            rw [dG,dG]
           have JG:(bk E.ρ (rowOf uY) [] (L.take l) 0).length=l*(rowOf uY).es:=by rw [bB (eb _),a7];congr 1;omega
           have hlen:((L.take (l+k)).drop l).length=k:=by rw [aap,a7]; omega
           have LX:(bk E.ρ (rowOf uY) [] ((L.take (l+k)).drop l) 0).length=k*(rowOf uY).es:=by rw [bB (eb _),hlen]
           have Lv:V E w.heap (.slice I7 (l*(rowOf uY).es) k (.rest (rowOf uY).es)) (.slice (some a) k cap):=by simp only [V];exact⟨hid,a,cap,rfl,q4,q5⟩
           obtain⟨us,src⟩:=hU (P:=P) rc Lv (s:=ie.size) (m:=k) (news:=bk E.ρ (rowOf uY) [] ((L.take (l+k)).drop l) 0) (by
            simp only [iC,fu,Hp.br,if_true];rw [AF,<- JG,jv];simp only;rw [<- eG,<- LX,rT]
            rfl)
           refine wI (s:={ s with pc:=ea }) r dE j6 hu dX ka eG k9 I jJ M q2 hlen (by rw [p9 q1 q2,pB,hL]) (fun d hd=>hw.2.1 d ?_) src src.AB g4;rw [hL];exact aT (aS hd)
          grind [T.leaf]
         grind [T.leaf]
        ·split at h
         ·grind [T.leaf]
         ·rename_i m news xo;obtain⟨us,src⟩:=hU (P:=P) r hy xo;split at h
          ·grind [T.leaf]
          ·rename_i m';split at h
           ·split at h
            ·rename_i sd Fx;obtain⟨ds,c1,c2,c3,c4,c5⟩:=ky (ρ:=E.ρ) _ Fx;simp only [Y.den,bn,D.l,aab] at c2;exact wI r F j6 hu dX ka eG k9 I jJ M (mm:=m'+1) (by simp only [Y.den]; rfl) c1 c2 c4 src (c5 E w.heap _ 0 rfl src.AB) h
            grind [T.leaf]
           grind [T.leaf]
   grind [T.leaf]
  grind [T.leaf]
 grind [T.leaf]
theorem oP [bp] {tt:TT} (bx:bV P tt) {s s':St} (r:bq E s.h w) (F:bu E.ρ s.pc) {t ty id t':Nat} {lo n:Y} {v:Z} {u:Value} (M:V E w.heap (.jN id lo n t') u) (h:(mP tt t id lo n t' s).leaf E.ρ=some (v,s')) :
 s'.bj=s.bj/\bu E.ρ s'.pc/\v=Z.undef/\∃w' E',(Builtin.clear_ #[t] ty #[u]).run P w= .ok (.tuple #[]) w'/\ca E s.h w E' s'.h w'/\bq E' s'.h w':=by
 unfold mP at h;split at h
 ·rename_i ti cN;split at h
  ·rename_i e R;have hu:=cn (bx t ti cN) R;split at h
   ·rename_i ie eA;obtain⟨inf,d,z,O,U,N,h4,h5,h6,h7,h8⟩:=(bx e ie eA).all;have hz:=b9 (E:=E) (h:=w.heap) h4;split at h
    ·rename_i fa;obtain⟨eG,k9⟩:=fa;split at h
     ·grind [T.leaf]
     ·rename_i e0 np He;have I:=iX He;split at h
      ·grind [T.leaf]
      ·rename_i zz F7;obtain⟨ea,dE,g1⟩:=bH F h;split at g1
       ·grind [T.leaf]
       ·rename_i t1;obtain⟨gQ,gw,g2⟩:=bH (s:={ s with pc:=ea }) dE g1;split at g2
        ·grind [T.leaf]
        ·rename_i t2;obtain⟨Ct,vK,g3⟩:=bH (s:={ s with pc:=gQ }) gw g2;split at g3
         ·grind [T.leaf]
         ·rename_i t3;have:=bh g3;simp only [ag] at this;obtain⟨rfl,rfl⟩:=this;rw [bN,decide_eq_false_iff_not] at t1 t2;rw [cW,beq_iff_eq,gJ,bz] at t3;simp only [V] at M;obtain⟨hid,l,k,a,cap,q1,q2,rfl,q4,q5⟩:=M;have D9:l+k=(dec (e0.den E.ρ)).l.length:=J
          have Iz:(dec (e0.den E.ρ)).l.length-l=k:=J
          have Jb:=jA (ρ:=E.ρ) F7;have LH:k4 E.ro w.heap (rowOf t') (dec (zz.den E.ρ)) z.cells.toList:=jB hz.1 F7
          have Lr:bC E w.heap (cT (rowOf t') (.cE (dec (zz.den E.ρ)))) z.cells.toList:=by
           rw [cF];simp only [Y.den,bn]
           grind
          have Fb: ∀m:Nat,bk E.ρ (rowOf t') [] (List.replicate m (dec (zz.den E.ρ))) 0=bJ (cT (rowOf t') (.cE (dec (zz.den E.ρ)))) m:=by
           intro m
           induction m with
           |zero=>rfl
           |succ m ih=>
            simp only [abh,bk,bO,bJ]
            grind [eg]
          have W:bC E w.heap (bk E.ρ (rowOf t') [] (List.replicate k (dec (zz.den E.ρ))) 0) (bJ z.cells.toList k):=by
           grind [e9]
          obtain⟨w',f1,f2,f3⟩:=pF (P:=P) r I (n:=l) (mm:=k) J (abw) (fun d hd=>by rw [abx hd]; exact Jb) W (fun u hu=>hz.2 u (e8 hu)) (e1:=.op .fill e0 (cm (gM lo) zz)) (by
           simp only [cm,Y.den,c8.den,bn,fS,D.n,q1,a8,Iz,D9]
           rw [List.drop_length,aaE])
          refine⟨rfl,vK,rfl,w',E,?_,f2,f3⟩;rcases aat k with Ec|Ec
          ·subst Ec;simp only [bJ] at f1
           have:w'=w:=by
            simp [storeCells] at f1
            grind
           subst this;simp [Builtin.clear_,run_underlying hu]
          ·have ha:a=⟨(E.θ id).1,(E.θ id).2+l*(rowOf t').es,none⟩:=by
            simp only [cg] at q5
            grind
           have EX:z.cells.toList≠[]:=by
            intro M;have:=k4.length LH
            grind
           have I9:(Builtin.zeroCells z.cells k).toList=bJ z.cells.toList k:=jP z.cells EX k;subst ha;obtain⟨j,rfl⟩ : ∃j,k=j+1:=⟨k-1,J⟩;simp [Builtin.clear_,run_underlying hu,zeroValue,typeInfo,O,N,I9,f1]
    grind [T.leaf]
   grind [T.leaf]
  grind [T.leaf]
 grind [T.leaf]
end
theorem fe (l:List Nat):(eD l).l.length=l.length:=by simp [eD]
theorem Ax {a b:List Nat} (h:eD a=eD b):a=b:=by
 have:=x4 h
 induction a generalizing b with
 |nil=>cases b with
  |nil=>rfl
  |cons y b=>simp at this
 |cons x a ih=>cases b with
  |nil=>simp at this
  |cons y b=> simp only [au,List.cons.injEq,D.i.injEq,Int.ofNat_eq_natCast,aaM] at this;rw [this.1,ih (b:=b) (by unfold eD; exact congrArg dL (by simpa using this.2)) (by simpa using this.2)]
theorem rl: ∀(x y:List Nat),zn (x.map fun b=>D.i (Int.ofNat b)) (y.map fun b=>D.i (Int.ofNat b))=bytesLess x y
 |[],[]=>rfl
 |[],_::_=>rfl
 |_::_,[]=>rfl
 |a::x,b::y=>by
  simp only [au,zn,bytesLess,D.n,rl x y];have i1:(Int.ofNat a<Int.ofNat b)=(a<b):=propext Int.ofNat_lt;have i2:(Int.ofNat b<Int.ofNat a)=(b<a):=propext Int.ofNat_lt;simp only [i1,i2];rcases abi a b with h|h|h
  ·simp_all
  ·simp_all
  ·have U:a.blt b=false:=by rw [aau]; simp [Nat.blt]; omega
   have N:a.beq b=false:=by rw [aau]; simp; omega
   grind
section
variable {P:Program} {E:En} {w:World}
theorem V.Db {h:Array Obj} {e:Y} {v:Value} (W:V E h (.dW e) v): ∃l:List Nat,v= .string (bG l)/\(∀b∈l,b<256)/\dec (e.den E.ρ)=eD l:=by
 simp only [V] at W;obtain⟨s,rfl,hs⟩:=W.string;refine⟨bytesOf s,by rw [er],lQ s,?_⟩
 grind [mV,lQ,er,lP,bG]
theorem V.Bi {h:Array Obj} {e:Y} {l:List Nat} (I: ∀b∈l,b<256) (he:dec (e.den E.ρ)=eD l):V E h (.dW e) (.string (bG l)):=by
 simp only [V];rw [he,mV _ I];have:=Rd.str (ro:=E.ro) (h:=h) (bG l)
 grind [lP,bG]
theorem pJ {h:Array Obj} {x:Z} {u:Value} {e:Y} (M:V E h x u) (hs:jI x=some e): ∃l:List Nat,u= .string (bG l)/\(∀b∈l,b<256)/\dec (e.den E.ρ)=eD l:=by
 unfold jI at hs;split at hs
 ·simp only [af] at hs;subst hs;simp only [V] at M;exact⟨_,M.1,M.2,by simp only [Y.den,bn]⟩
 ·simp only [af] at hs;subst hs;exact M.Db
 grind
theorem xC {tt:TT} (bx:bV P tt) {s s':St} (F:bu E.ρ s.pc) {ty:Nat} {e:Y} {ix v:Z} {u ui:Value} (M:V E w.heap (.dW e) u) (my:V E w.heap ix ui) (h:(ud tt s ty e ix).leaf E.ρ=some (v,s')) :
 s'.bj=s.bj/\s'.h=s.h/\bu E.ρ s'.pc/\∃r,(Instr.index ty u ui).run P w= .ok r w/\V E w.heap v r:=by
 unfold ud at h;split at h
 ·rename_i kd i;split at h
  ·rename_i ti cN;split at h
   ·rename_i R;obtain⟨cl,cM,O,U,N⟩:=fM F h;have:=bh N;simp only [ag] at this;obtain⟨rfl,rfl⟩:=this;refine⟨rfl,rfl,cM,?_⟩;obtain⟨l,rfl,K,hd⟩:=M.Db;simp only [V] at my;subst my;rw [bz,hd,fe] at U;obtain⟨k,rH⟩ : ∃k:Nat,i.den E.ρ=(k:Int):=⟨(i.den E.ρ).toNat,J⟩;have c6:k<l.length:=J
    have hg:(bG l)[k]?=some (UInt8.ofNat l[k]):=by rw [pM,aJ c6]; rfl
    have J6:=K l[k] (List.getElem_mem c6);rw [rH];refine⟨_,by simp [Instr.index,asIntOf,run_underlying (cx (bx ty ti cN) R),hg]; rfl,?_⟩
    have Ed:(dec (e.den E.ρ)).l[k]?=some (.i (Int.ofNat l[k])):=by rw [hd];simp only [eD,ch,bc,aJ c6,aR]
    simp only [V,nr,og E.ρ e i rH Ed,D.n]
    grind
   grind [T.leaf]
  grind [T.leaf]
 grind [T.leaf]
theorem xB {tt:TT} (bx:bV P tt) {s s':St} (F:bu E.ρ s.pc) {ty:Nat} {e:Y} {lo hi mx:Option Z} {lV hi' mx':Option Value} {v:Z} {u:Value} (M:V E w.heap (.dW e) u)
 (jJ:cG E w.heap lo lV) (lX:cG E w.heap hi hi') (lH:cG E w.heap mx mx') (h:(uc tt s ty e lo hi mx).leaf E.ρ=some (v,s')) :
 s'.bj=s.bj/\s'.h=s.h/\bu E.ρ s'.pc/\∃r,(Instr.sliceAt ty u lV hi' mx').run P w= .ok r w/\V E w.heap v r:=by
 unfold uc at h;split at h
 ·grind [T.leaf]
 ·simp only [cG] at lH;subst lH;split at h
  ·grind [T.leaf]
  ·rename_i ti cN;split at h
   ·rename_i R;have hu:=cx (bx ty ti cN) R;split at h
    ·grind [T.leaf]
    ·rename_i ql Jp;split at h
     ·grind [T.leaf]
     ·rename_i qh Fe;obtain⟨ea,dE,O⟩:=bH F h;split at O
      ·grind [T.leaf]
      ·rename_i t1;obtain⟨gQ,gw,U⟩:=bH (s:={ s with pc:=ea }) dE O;split at U
       ·grind [T.leaf]
       ·rename_i t2;obtain⟨Ct,vK,N⟩:=bH (s:={ s with pc:=gQ }) gw U;split at N
        ·grind [T.leaf]
        ·rename_i t3;have:=bh N;simp only [ag] at this;obtain⟨rfl,rfl⟩:=this;refine⟨rfl,rfl,vK,?_⟩;obtain⟨l,rfl,K,hd⟩:=M.Db;rw [bN,decide_eq_false_iff_not] at t1 t2 t3;rw [bz,hd,fe] at t3;simp only [Y.den,aak] at t1;obtain⟨a,ha⟩ : ∃a:Nat,ql.den E.ρ=(a:Int):=⟨(ql.den E.ρ).toNat,J⟩;obtain⟨b,wQ⟩ : ∃b:Nat,qh.den E.ρ=(b:Int):=⟨(qh.den E.ρ).toNat,J⟩;have hle:b<=l.length:=J
         have wS:a<=b:=J
         obtain⟨AD,BC,iN⟩:=Bn Jp jJ ha
         have Ft: ∃uZ,cG E w.heap uZ hi'/\fP uZ l.length l.length=some b:=by
          unfold KQ at Fe;split at Fe
          ·simp only [af] at Fe;subst Fe;rw [bz,hd,fe] at wQ;have:b=l.length:=J
           grind [fP]
          ·split at Fe
           ·simp only [af] at Fe;subst Fe;exact⟨_,pj wQ lX,pC hle⟩
           grind
         obtain⟨uZ,Ft,nj⟩:=Ft;obtain⟨e1,e2⟩:=cB (P:=P) (w:=w) (isSlice:=false) (len:=l.length) (cap:=l.length) (m0:=l.length) (d:=0) BC Ft (mx:=none) (mx':=none) rfl ad (.inl ⟨rfl,rfl,ar _⟩) nj ⟨fun _=>ar _,ad⟩ (iN b wS);refine⟨.string ((bG l).extract a b),?_,?_⟩
         ·rw [<- ep] at e1;simp [Instr.sliceAt,run_underlying hu,Instr.slice,e1]
         ·rw [ja];refine V.Bi (fun c B=>K c (aT (aS B))) ?_;simp only [cm,Y.den,c8.den,bn,fS,D.hd,D.l,aaq,aaW,aI,D.n,ha,wQ,a8,hd];simp only [eD,ch,aa9,aba]
   grind [T.leaf]
theorem tu {x y:Z} {a b:Y} (h:o9 x y=some (a,b)):jI x=some a/\jI y=some b:=by
 grind [o9]
theorem rW (ρ:Nat->Int) {a b:Y} {x y:List Nat} (ha:dec (a.den ρ)=eD x) (K:dec (b.den ρ)=eD y):(rX a b).den ρ=bytesLess x y:=by
 simp only [rX,SB.den,Y.den,c8.den,ha,K,eD,ch]
 grind [rl]
theorem mX: ∀(x y:List Nat),(bytesLess x y||dB x y)=!(bytesLess y x)
 |[],[]=>rfl
 |[],_::_=>rfl
 |_::_,[]=>rfl
 |a::x,b::y=>by
  have ih:=mX x y;simp only [bytesLess,dB];rcases abi a b with h|h|h
  ·have O:a.blt b=true:=by simp [Nat.blt]; omega
   have U:b.blt a=false:=by rw [aau]; simp [Nat.blt]; omega
   have N:b.beq a=false:=by rw [aau]; simp; omega
   grind
  ·simp_all
  ·have O:b.blt a=true:=by simp [Nat.blt]; omega
   have U:a.blt b=false:=by rw [aau]; simp [Nat.blt]; omega
   have N:a.beq b=false:=by rw [aau]; simp; omega
   grind
theorem Aj {s s':St} (F:bu E.ρ s.pc) {t:Nat} {op:BinOp} {x y v:Z} {a b:Y} {u u':Value} (M:V E w.heap x u) (hy:V E w.heap y u') (hs:o9 x y=some (a,b)) (h:(xD op a b s).leaf E.ρ=some (v,s')) :
 s'.bj=s.bj/\s'.h=s.h/\bu E.ρ s'.pc/\(∃r,(binOp op t u u').run P w= .ok r w/\V E w.heap v r)/\(∀cs ds,¬(u= .agg cs/\u'= .agg ds))/\¬(u= .nilIface/\u'= .nilIface):=by
 obtain⟨LD,LC⟩:=tu hs;obtain⟨l,rfl,iN,HO⟩:=pJ M LD;obtain⟨m,rfl,qB,jK⟩:=pJ hy LC
 have heq:((hY (fk a) (fk b)).den E.ρ)=dB l m:=by
  grind [eZ,gL,eV,Ax,gA]
 have dV:(∀cs ds,¬(Value.string (bG l)= .agg cs/\Value.string (bG m)= .agg ds))/\¬(Value.string (bG l)= .nilIface/\Value.string (bG m)= .nilIface):=⟨ad,ad⟩
 have fin: ∀(c:Z) (o:BinOp),vc o l m=some c->(∀q,V E w.heap c q->V E w.heap v q)->(∀q,(Op.stringOp o (bG l) (bG m)).run P w= .ok q w->(binOp o t (.string (bG l)) (.string (bG m))).run P w= .ok q w)->
  ∃r,(binOp o t (.string (bG l)) (.string (bG m))).run P w= .ok r w/\V E w.heap v r:=by
  intro c o ho B hq;obtain⟨r,O,U⟩:=vb (P:=P) (E:=E) (w:=w) iN qB ho;exact⟨r,hq _ O,B r U⟩
 unfold xD at h;split at h
 ·obtain⟨ea,dE,O⟩:=bH F h;split at O
  ·grind [T.leaf]
  ·rename_i t1;obtain⟨gQ,gw,U⟩:=bH (s:={ s with pc:=ea }) dE O;split at U
   ·grind [T.leaf]
   ·rename_i t2;have:=bh U;simp only [ag] at this;obtain⟨rfl,rfl⟩:=this;rw [bN,decide_eq_true_eq,bz,HO,fe] at t1;rw [bN,decide_eq_true_eq,bz,jK,fe] at t2;simp only [Y.den] at t1 t2;refine⟨rfl,rfl,gw,⟨.string (bG (l++m)),?_,?_⟩,dV⟩
    ·have hm:IntKind.i64.max=9223372036854775807:=ae
     have:(Op.stringOp .add (bG l) (bG m)).run P w= .ok (.string (bG l++bG m)) w:=by simp only [Op.stringOp,ep,hm];rw [ah J];rfl
     have e:bG l++bG m=bG (l++m):=by apply ByteArray.ext;simp [bG]
     rw [e] at this;simpa [binOp] using this
    ·refine V.Bi (fun c B=>?_) ?_
     ·grind
     ·simp only [Y.den,c8.den,bn,HO,jK];simp only [eD,ch,abj]
 all_goals first
  |(simp [T.leaf] at h; done)
  |(have:=bh h
    simp only [ag] at this;obtain⟨rfl,rfl⟩:=this;refine⟨rfl,rfl,F,?_,dV⟩;refine fin _ _ rfl (fun q hq=>?_) (fun q hq=>by simpa [binOp] using hq);simp only [V,SB.den,fC] at hq ⊢
    first
     |(rw [heq]; exact hq)
     |(rw [rW E.ρ HO jK]; exact hq)
     |(rw [rW E.ρ jK HO]; rw [mX] at hq; simpa using hq))
theorem xU [bp] {tt:TT} (bx:bV P tt) {s s':St} (r:bq E s.h w) (F:bu E.ρ s.pc) {sT dT:Nat} {e:Y} {v:Z} {u:Value} (M:V E w.heap (.dW e) u) (h:(px tt sT dT e s).leaf E.ρ=some (v,s')) :
 s'.bj=s.bj/\bu E.ρ s'.pc/\∃y w' E',(convert sT dT u).run P w= .ok y w'/\ca E s.h w E' s'.h w'/\bq E' s'.h w'/\V E' w'.heap v y:=by
 unfold px at h;split at h
 ·grind [T.leaf]
 ·rename_i j hj;split at h
  ·rename_i IB;split at h
   ·grind [T.leaf]
   ·rename_i i hi;split at h
    ·rename_i el JN;split at h
     ·rename_i ie eA;split at h
      ·rename_i k L2;split at h
       ·obtain⟨l,rfl,K,hd⟩:=M.Db
        have wP:gG tt sT dT (.str l) s.h=some (.slice s.h.fresh 0 l.length (.rest 1),s.h.new (.cells (l.map fun c=> .int .u8 (.lit (Int.ofNat c))) el)):=by
         grind [gG]
        obtain⟨y,w',E',g1,g2,g3,g4⟩:=mO (P:=P) bx r (x:=.str l) (u:=.string (bG l)) (by simp only [V]; exact⟨trivial,K⟩) wP;obtain⟨ea,dE,O⟩:=bH F h;rw [eZ,bz,hd,fe] at O;split at O
        ·rename_i hz;have:=bh O;simp only [ag] at this;obtain⟨rfl,rfl⟩:=this;simp only [Y.den,beq_iff_eq] at hz
         grind
        ·rename_i hz;have:=bh O;simp only [ag] at this;obtain⟨rfl,rfl⟩:=this;simp only [Y.den,beq_eq_false_iff_ne,ne_eq] at hz;have rN:dec (e.den E'.ρ)=eD l:=by rw [g2.ρ]; exact hd
         have AF:bA E'.ρ e 14 []=l.map fun c=>Z.int .u8 (.lit (Int.ofNat c)):=by
          unfold bA;rw [rN];simp only [eD,ch]
          have: ∀(l:List Nat) (i:Nat),bk E'.ρ (rowOf 14) [] (l.map fun b=>D.i (Int.ofNat b)) i=l.map fun c=>Z.int .u8 (.lit (Int.ofNat c)):=by
           intro l
           induction l with
           |nil=>intro i; rfl
           |cons a l ih=> intro i;simp only [au,bk,bO,ih];rfl
          grind
         have r2:=pg (e1:=e) (t:=14) g3 (by
          rw [rN];refine⟨by simp only [eD,ch],fun x M=>?_,fun q=>?_⟩
          ·simp only [eD,ch,aF] at M;obtain⟨b,_,rfl⟩:=M;rfl
          ·have:=congrArg List.length q;rw [fe] at this
           exact hz (by simp at this; simp [this])) (by rw [AF]) (fun us hu=>by rw [AF]; exact hu)
         refine⟨rfl,dE,y,w',E',g1,g2.right (kL rfl rfl fun _=>rfl),r2,?_⟩;simp only [V] at g4 ⊢;obtain⟨q1,a,cap,q2,q3,q4⟩:=g4;exact⟨q1,l.length,a,cap,by rw [bz,rN,fe],q2,q3,q4⟩
       grind [T.leaf]
      grind [T.leaf]
     grind [T.leaf]
    grind [T.leaf]
  grind [T.leaf]
end
section
variable {P:Program} {E:En} {w:World}
def tP (c:CK):Prop:=(∃k,c= .int k)\/c= .str
theorem bytes_beq (p q:ByteArray):(p == q)=decide (p=q):=by
 rw [aX,decide_eq_true_eq];have e:(p == q)=(p.data == q.data):=rfl;rw [e,beq_iff_eq];constructor
 ·intro h; cases p; cases q; simp only at h; rw [h]
 grind
theorem mo {ro:Nat->Prop} {h:Array Obj} {c:CK} (B:tP c) {dt:TypeDesc} (hd:o7 dt (vE c)) {d d':D} {u u':Value} (r:Rd ro h c d u) (r':Rd ro h c d' u') :
 Instr.sameNow dt u u'=some (decide (d=d'))/\(d=d'->∀n,Instr.sameBits (n+1) u' u=true):=by
 rcases B with ⟨k,rfl⟩|rfl
 ·simp only [vE] at hd;obtain⟨k',rfl⟩:=hd
  cases r with
  |int _ n=>
   cases r' with
   |int _ m=>
    refine⟨?_,fun hh n=>?_⟩
    ·simp only [Instr.sameNow,D.i.injEq]
     grind
    ·simp only [D.i.injEq] at hh;subst hh;simp [Instr.sameBits]
 ·simp only [vE] at hd;simp only [o7] at hd;subst hd;obtain⟨a,rfl,rfl⟩:=r.string;obtain⟨b,rfl,rfl⟩:=r'.string;refine⟨?_,fun hh n=>?_⟩
  ·simp only [Instr.sameNow,bytes_beq];congr 1
   grind [rj]
  ·have:=rj hh;subst this;simp [Instr.sameBits,bytes_beq]
def uX (P:Program):List CK->Nat->List Field->Prop
 |[],_,fs=>fs= []
 |c::cs,j,fs=> ∃f r k i,fs=f::r/\f.offset=j/\f.name≠ "_"/\c= .int k/\fg P f.type i/\i.kind= .int k/\uX P cs (j+1) r
def DN (P:Program) (kt:Nat) (r:Row):Prop:=match r with
 | .one c=>tP c/\∃dt,P.underlying kt=some dt/\o7 dt (vE c)
 | .many cs=>cs≠[]/\P.underlying kt=some (.struct (P.fieldsOf kt))/\P.stoodInHeld kt=false/\uX P cs 0 (P.fieldsOf kt).toList
theorem tj.length {ro:Nat->Prop} {h:Array Obj} {d:D}: ∀{cs:List CK} {j:Nat} {us:List Value},tj ro h cs j d us->us.length=cs.length
 |[],_,us,hh=>by simp only [tj] at hh; rw [hh]; rfl
 |c::cs,j,us,hh=>by obtain⟨u,vs,rfl,_,N⟩:=hh;rw [aA,aA,tj.length N]
theorem yQ {ro:Nat->Prop} {h:Array Obj} {d d':D} (n:Nat): ∀{cs:List CK} {j:Nat} {fs:List Field} {us vs pre pre':List Value},uX P cs j fs->tj ro h cs j d us->tj ro h cs j d' vs->pre.length=j->pre'.length=j->
 (Op.eqFields (n+1) (pre++us).toArray (pre'++vs).toArray fs).run P w= .ok (decide (∀i,i<cs.length->d.hd (j+i)=d'.hd (j+i))) w
 |[],j,fs,us,vs,pre,pre',hf,_,_,_,_=>by simp only [uX] at hf;subst hf;simp [Op.eqFields]
 |c::cs,j,fs,us,vs,pre,pre',hf,hu,W,F,cM=>by
  obtain⟨f,r,k,i,rfl,ho,hn,rfl,cN,R,hr⟩:=hf;obtain⟨u,us,rfl,xn,yZ⟩:=hu;obtain⟨v,vs,rfl,E5,Hf⟩:=W;have e4:i.agg=false:=by simp [TI.agg,TK.agg,R]
  have p1:(part f.type (pre++u::us).toArray f.offset).run P w= .ok u w:=by simp [part,ez cN,e4,ho,<- F]
  have p2:(part f.type (pre'++v::vs).toArray f.offset).run P w= .ok v w:=by simp [part,ez cN,e4,ho,<- cM]
  have ih:=yQ (d:=d) (d':=d') (us:=us) (vs:=vs) (pre:=pre++ [u]) (pre':=pre'++ [v]) n hr yZ Hf (by simp [F]) (by simp [cM]);rw [aae,aae] at ih;simp only [aby] at ih;simp only [Op.eqFields];rw [ak hn];generalize M:d.hd j=x at xn;generalize hy:d'.hd j=y at E5
  cases xn with
  |int _ a=>
   cases E5 with
   |int _ b=>
    simp only [Sem.run_bind,p1,p2,Result.andThen_ok,run_equalIn_int w n f.type _ _ _ _ (gz cN R)];by_cases wS:a=b
    ·subst wS;simp only [beq_self_eq_true,aaG,ay,if_false,ih];congr 1;rw [decide_eq_decide];constructor
     ·intro q m hm
      cases m with
      |zero=>rw [aH,M,hy]
      |succ m=>have:=q m (by simp at hm; omega); rw [show j+(m+1)=j+1+m by omega]; exact this
     ·intro q m hm;have:=q (m+1) (by simp; omega);rw [show j+(m+1)=j+1+m by omega] at this;exact this
    ·have K:(a == b)=false:=by simpa using wS
     rw [K];simp only [Bool.not_false,if_true,Sem.run_pure];congr 1;symm;rw [decide_eq_false_iff_not];intro q;have:=q 0 ad;rw [aH,M,hy] at this;simp only [D.i.injEq] at this;exact wS this
theorem sE {ro:Nat->Prop} {h:Array Obj} {d:D}: ∀{cs:List CK} {j:Nat} {fs:List Field} {us vs:List Value},uX P cs j fs->tj ro h cs j d us->tj ro h cs j d vs->us=vs
 |[],j,fs,us,vs,_,hu,W=>by simp only [tj] at hu W;rw [hu,W]
 |c::cs,j,fs,us,vs,hf,hu,W=>by
  obtain⟨f,r,k,i,rfl,ho,hn,rfl,cN,R,hr⟩:=hf;obtain⟨u,us,rfl,xn,yZ⟩:=hu;obtain⟨v,vs,rfl,E5,Hf⟩:=W;rw [sE hr yZ Hf];generalize M:d.hd j=x at xn E5
  cases xn with
  |int _ a=>
   cases E5 with
   |int _ b=>rfl
theorem sD {ro:Nat->Prop} {h:Array Obj} {d:D}: ∀{cs:List CK} {j:Nat} {fs:List Field} {us:List Value} (n:Nat),uX P cs j fs->tj ro h cs j d us->((us.zip us).all fun (x,y)=>Instr.sameBits n x y)=true
 |[],j,fs,us,n,_,hu=>by simp only [tj] at hu;rw [hu];rfl
 |c::cs,j,fs,us,n,hf,hu=>by
  obtain⟨f,r,k,i,rfl,ho,hn,rfl,cN,R,hr⟩:=hf;obtain⟨u,us,rfl,xn,yZ⟩:=hu;rw [List.zip_cons_cons,abk,sD n hr yZ,Bool.and_true];generalize M:d.hd j=x at xn
  cases xn with
  |int _ a=>simp [Instr.sameBits]
theorem CA {cs:List CK} {d d':D} (h:k0 cs d) (h':k0 cs d'):(∀i,i<cs.length->d.hd (0+i)=d'.hd (0+i))↔d=d':=by
 constructor
 ·intro q;rw [h.1,h'.1];congr 1;refine List.ext_getElem (by rw [h.2.1,h'.2.1]) fun i O U=>?_;have:=q i (by rw [<- h.2.1]; exact O);rw [ax] at this;unfold D.hd at this;rw [aJ O,aJ U] at this;simpa using this
 ·rintro rfl i _;rfl
theorem nN {ro:Nat->Prop} {h:Array Obj} {kt:Nat} {cs:List CK} (hT:DN P kt (.many cs)) {d d':D} {u u':Value} (r:rQ ro h (.many cs) d u) (r':rQ ro h (.many cs) d' u') :
 (Op.equal kt u u').run P w= .ok (decide (d=d')) w/\(d=d'->∀n,Instr.sameBits (n+1) u' u=true):=by
 obtain⟨_,t1,t2,t3⟩:=hT;obtain⟨w1,us,rfl,O⟩:=r;obtain⟨w2,vs,rfl,U⟩:=r';refine⟨?_,fun hh n=>?_⟩
 ·have J7:(Op.maxDepth:Nat)=9998+1+1:=rfl;unfold Op.equal;rw [J7,run_equalIn_struct w (9998+1) kt _ _ t1 t2];have:=yQ (w:=w) (d:=d) (d':=d') (pre:=[]) (pre':=[]) 9998 t3 O U rfl rfl;simp only [aab] at this;rw [this];congr 1;rw [decide_eq_decide];exact CA w1 w2
 ·subst hh;have e:=sE t3 O U;subst e;simp only [Instr.sameBits,beq_self_eq_true,Bool.true_and];exact sD n t3 O
def Il (ro:Nat->Prop) (h:Array Obj) (t:Nat) (ds:List D) (kd:D) (bo:List MapEntry) (u:Value) (ask:Option (Nat×Value)->Prop):Prop:=
 (fv ds kd=none/\ask none/\(∀v,lE ds kd v=ds++ [.p kd v])/\tK ds kd=ds)\/
 (∃j x e,fv ds kd=some x/\bo[j]?=some e/\rQ ro h (mapOf t).2 x e.val/\ask (some (j,e.val))/\(∀n,Instr.sameBits (n+1) e.key u=true)/\(∀v,lE ds kd v=ds.set j (.p kd v))/\tK ds kd=ds.eraseIdx j)
theorem n6 {ro:Nat->Prop} {h:Array Obj} {t:Nat} {kd:D} {u:Value} {ask:List MapEntry->Nat->Option (Nat×Value)->Prop} (a0: ∀i,ask [] i none) (aY: ∀e r i,(∃d',rQ ro h (mapOf t).1 d' e.key/\d'=kd)->ask (e::r) i (some (i,e.val))) (aN: ∀e r i res,(∃d',rQ ro h (mapOf t).1 d' e.key/\d'≠kd)->ask r (i+1) res->ask (e::r) i res)
 (aB: ∀u',rQ ro h (mapOf t).1 kd u'->∀n,Instr.sameBits (n+1) u' u=true): ∀{ds:List D} {bo:List MapEntry} {i:Nat},ek ro h t ds bo->Il ro h t ds kd bo u (fun q=>ask bo i (q.map fun p=>(i+p.1,p.2)))
 |[],bo,i,he=>by simp only [ek] at he;subst he;exact .inl ⟨rfl,a0 i,fun _=>rfl,rfl⟩
 |d::ds,bo,i,he=>by
  obtain⟨e,r,rfl,O,U,N,h4⟩:=he;by_cases mw:fA d=kd
  ·refine .inr ⟨0,wx d,e,by simp only [fv,ak mw],rfl,N,?_,aB _ (mw▸U),fun v=>by simp only [lE,ak mw,aaB],by simp only [tK,ak mw,List.eraseIdx_cons_zero]⟩;exact aY e r i ⟨_,U,mw⟩
  ·rcases n6 a0 aY aN aB (i:=i+1) h4 with ⟨q1,q2,q3,q4⟩|⟨j,x,e',q1,q2,q3,q4,q5,q6,q7⟩
   ·exact .inl ⟨by simp only [fv,ah mw,q1],aN e r i _ ⟨_,U,mw⟩ q2,fun v=>by simp only [lE,ah mw,q3,aM],by simp only [tK,ah mw,q4]⟩
   ·refine .inr ⟨j+1,x,e',by simp only [fv,ah mw,q1],by simpa using q2,q3,?_,q5,fun v=>by simp only [lE,ah mw,q6,aaC],by simp only [tK,ah mw,q7,aaS]⟩;have:=aN e r i _ ⟨_,U,mw⟩ q4;simp only [aR] at this ⊢;rw [show i+(j+1)=i+1+j by omega];exact this
theorem qH {ro:Nat->Prop} {h:Array Obj} {t kt:Nat} (hT:DN P kt (mapOf t).1) {kd:D} {u:Value} (R:rQ ro h (mapOf t).1 kd u) {ds:List D} {bo:List MapEntry} (he:ek ro h t ds bo):Il ro h t ds kd bo u (fun q=>(Instr.findKey kt u bo).run P w= .ok q w):=by
 generalize hr:(mapOf t).1=r at hT R
 cases r with
 |one c=>
  obtain⟨B,dt,hu,hd⟩:=hT;have Af:Rd ro h c kd u:=R
  have G:=n6 (ro:=ro) (h:=h) (t:=t) (kd:=kd) (u:=u) (ask:=fun es i q=>Instr.findNow dt u es i=some q) (fun i=>by simp [Instr.findNow])
   (fun e r i ⟨d',O,U⟩=>by
    rw [hr] at O;have g:=(mo B hd Af O).1;rw [U,decide_eq_true rfl] at g
    simp [Instr.findNow,g])
   (fun e r i res ⟨d',O,U⟩ q=>by
    rw [hr] at O;have g:=(mo B hd Af O).1;rw [decide_eq_false (fun e=>U e.symm)] at g;simp only [Instr.findNow,g]
    exact q)
   (fun u' O n=>by
    rw [hr] at O
    exact (mo B hd Af O).2 rfl n) (i:=0) he
  rcases G with ⟨q1,q2,q3,q4⟩|⟨j,x,e,q1,q2,q3,q4,q5,q6,q7⟩
  ·exact .inl ⟨q1,cr hu q2,q3,q4⟩
  ·simp only [aR,ax] at q4;exact .inr ⟨j,x,e,q1,q2,q3,cr hu q4,q5,q6,q7⟩
 |many cs=>
  have G:=n6 (ro:=ro) (h:=h) (t:=t) (kd:=kd) (u:=u) (ask:=fun es i q=>(Instr.findAsking kt u es i).run P w= .ok q w) (fun i=>by simp [Instr.findAsking])
   (fun e r i ⟨d',O,U⟩=>by
    rw [hr] at O;have g:=(nN (w:=w) hT R O).1;rw [U,decide_eq_true rfl] at g
    simp [Instr.findAsking,g])
   (fun e r i res ⟨d',O,U⟩ q=>by
    rw [hr] at O;have g:=(nN (w:=w) hT R O).1;rw [decide_eq_false (fun e=>U e.symm)] at g;simp [Instr.findAsking,g]
    exact q)
   (fun u' O n=>by
    rw [hr] at O
    exact (nN (w:=w) hT R O).2 rfl n) (i:=0) he
  have key: ∀q,(Instr.findAsking kt u bo 0).run P w= .ok q w->(Instr.findKey kt u bo).run P w= .ok q w:=by
   intro q hq;unfold Instr.findKey
   cases bo with
   |nil=> simp only [Instr.findAsking,Sem.run_pure] at hq;simp [run_underlying hT.2.1,Instr.findNow];simpa using hq
   |cons e r=> simp [run_underlying hT.2.1,Instr.findNow,Instr.sameNow];exact hq
  rcases G with ⟨q1,q2,q3,q4⟩|⟨j,x,e,q1,q2,q3,q4,q5,q6,q7⟩
  ·exact .inl ⟨q1,key _ q2,q3,q4⟩
  ·simp only [aR,ax] at q4;exact .inr ⟨j,x,e,q1,q2,q3,key _ q4,q5,q6,q7⟩
theorem qu {ro:Nat->Prop} {h:Array Obj} {d:D} (b:Bool) (n:Nat): ∀{cs:List CK} {j:Nat} {fs:List Field} {us pre:List Value},uX P cs j fs->tj ro h cs j d us->pre.length=j->
 (forIn fs PUnit.unit (fun f (_:PUnit)=>(do
  if f.name≠ "_" then Instr.checkKey b (n+1) f.type (<- part f.type (pre++us).toArray f.offset)
  pure (ForInStep.yield PUnit.unit):Sem (ForInStep PUnit)))).run P w= .ok PUnit.unit w
 |[],j,fs,us,pre,hf,_,_=>by simp only [uX] at hf;subst hf;simp
 |c::cs,j,fs,us,pre,hf,hu,F=>by
  obtain⟨f,r,k,i,rfl,ho,hn,rfl,cN,R,hr⟩:=hf;obtain⟨u,us,rfl,xn,yZ⟩:=hu;have e4:i.agg=false:=by simp [TI.agg,TK.agg,R]
  have p1:(part f.type (pre++u::us).toArray f.offset).run P w= .ok u w:=by simp [part,ez cN,e4,ho,<- F]
  have ih:=qu (d:=d) (us:=us) (pre:=pre++ [u]) b n hr yZ (by simp [F]);rw [aae] at ih;simp only [aby] at ih;have B:(Instr.checkKey b (n+1) f.type u).run P w= .ok () w:=by simp [Instr.checkKey,run_underlying (gz cN R)]
  rw [List.forIn_cons];simp only [Sem.run_bind,ak hn,p1,B,Result.andThen_ok,Sem.run_pure];exact ih
theorem ff {ro:Nat->Prop} {h:Array Obj} {kt:Nat} {r:Row} (hT:DN P kt r) {d:D} {v:Value} (R:rQ ro h r d v) (b:Bool):(Instr.checkKey b 10000 kt v).run P w= .ok () w:=by
 cases r with
 |one c=> obtain⟨_,dt,hu,hd⟩:=hT;exact bX hu hd b v
 |many cs=> obtain⟨_,t1,_,t3⟩:=hT;obtain⟨_,us,rfl,O⟩:=R;have h0:(10000:Nat)=9998+1+1:=rfl;rw [h0];have:=qu (w:=w) (pre:=[]) b 9998 t3 O rfl;simp only [aab] at this;rw [Instr.checkKey];simp only [Sem.run_bind,run_underlying t1,Result.andThen_ok];rw [<- Array.forIn_toList,this];simp
theorem ek.set {ro:Nat->Prop} {h:Array Obj} {t:Nat} {kd vd:D} {uk uv:Value} (R:rQ ro h (mapOf t).1 kd uk) (W:rQ ro h (mapOf t).2 vd uv): ∀{ds:List D} {bo:List MapEntry} {i:Nat} {e:MapEntry},ek ro h t ds bo->bo[i]?=some e->
 ek ro h t (ds.set i (.p kd vd)) (bo.set i { e with key:=uk,val:=uv })
 |[],bo,i,e,he,hi=>by simp only [ek] at he; subst he; simp at hi
 |d::ds,bo,0,e,he,hi=>by obtain⟨e0,r,rfl,O,U,N,h4⟩:=he;simp at hi;subst hi;simp only [aaB];exact⟨_,r,rfl,rfl,R,W,h4⟩
 |d::ds,bo,i+1,e,he,hi=>by obtain⟨e0,r,rfl,O,U,N,h4⟩:=he;simp only [aaC];exact⟨e0,_,rfl,O,U,N,ek.set R W h4 (by simpa using hi)⟩
theorem ek.push {ro:Nat->Prop} {h:Array Obj} {t:Nat} {kd vd:D} {uk uv:Value} {c:Nat} (R:rQ ro h (mapOf t).1 kd uk) (W:rQ ro h (mapOf t).2 vd uv): ∀{ds:List D} {bo:List MapEntry},ek ro h t ds bo->
 ek ro h t (ds++ [.p kd vd]) (bo++ [{ key:=uk,val:=uv,born:=c }])
 |[],bo,he=>by simp only [ek] at he;subst he;exact⟨_,[],rfl,rfl,R,W,rfl⟩
 |d::ds,bo,he=>by obtain⟨e0,r,rfl,O,U,N,h4⟩:=he;simp only [aM];exact⟨e0,_,rfl,O,U,N,ek.push R W h4⟩
theorem ek.erase {ro:Nat->Prop} {h:Array Obj} {t:Nat}: ∀{ds:List D} {bo:List MapEntry} {i:Nat},ek ro h t ds bo->ek ro h t (ds.eraseIdx i) (bo.eraseIdx i)
 |[],bo,i,he=>by simp only [ek] at he; subst he; simp [ek]
 |d::ds,bo,0,he=>by
  obtain⟨e0,r,rfl,O,U,N,h4⟩:=he
  grind
 |d::ds,bo,i+1,he=>by obtain⟨e0,r,rfl,O,U,N,h4⟩:=he;simp only [aaS];exact⟨e0,_,rfl,O,U,N,ek.erase h4⟩
theorem lD {m:Z} {h:Hp} {id t:Nat} {e:Y} (hm:k7 m h=some (id,e,t)):m= .map id/\h.get id=some (.ey e t):=by
 unfold k7 at hm
 grind
theorem sN {tt:TT} (bx:bV P tt): ∀{cs:List CK} {j:Nat} {fs:List (Nat×Nat×Nat)} {eU:List Field},n5 tt cs j fs=true->(eU.mapM fun f=>(P.info? f.type).map fun i=>(f.offset,f.type,i.size))=some fs->(∀f∈eU,f.name≠ "_")->uX P cs j eU
 |[],j,[],eU,_,hm,_=>by
  cases eU with
  |nil=>rfl
  |cons f eU=> simp only [aai,aaA,aao] at hm;obtain⟨_,_,_,_,N⟩:=hm;simp at N
 |[],j,_::_,eU,h,_,_=>by simp [n5] at h
 |c::cs,j,[],eU,h,_,_=>by simp [n5] at h
 |c::cs,j,(o,ft,z)::fs,eU,h,hm,hn=>by
  cases eU with
  |nil=>simp at hm
  |cons f eU=>
   simp only [aai,aaA,aao] at hm;obtain⟨p,O,ls,U,N⟩:=hm;simp only [pure,af,List.cons.injEq] at N;obtain⟨rfl,rfl⟩:=N;rw [az] at O;obtain⟨inf,JL,e⟩:=O;simp only [ag] at e;obtain⟨rfl,rfl,rfl⟩:=e;simp only [n5] at h;split at h
   ·rename_i ho;split at h
    ·rename_i i hi;split at h
     ·rename_i k;split at h
      ·rename_i R;exact⟨f,eU,k,i,rfl,aq ho,hn f ad,rfl,bx f.type i hi,of_decide_eq_true R,sN bx h U (fun g hg=>hn g (by simp [hg]))⟩
      ·simp at h
     ·simp at h
    ·simp at h
   ·simp at h
theorem wA {h:Array Obj} {r:Row} {v:Z} {u:Value} {a:Y} (W:V E h v u) (B:zr r v=some a):rQ E.ro h r (dec (a.den E.ρ)) u:=by
 cases r with
 |one c=>exact (iQ W B).rd (iP B)
 |many cs=>
  unfold zr at B;simp only at B;split at B
  ·rename_i vs;simp only [V] at W;obtain⟨us,rfl,wO⟩:=W;have hw:=jC (ρ:=E.ρ) B;refine⟨hw,us,rfl,?_⟩;have hR:=jD wO B
   have key: ∀{ks:List CK} {j:Nat} {ws:List Value},bK E.ro h ks j (dec (a.den E.ρ)) ws->(∀i c,ks[i]?=some c->gu c ((dec (a.den E.ρ)).hd (j+i)))->tj E.ro h ks j (dec (a.den E.ρ)) ws:=by
    intro ks
    induction ks with
    |nil=>intro j ws hh _; exact hh
    |cons c ks ih=>
     intro j ws hh jO;obtain⟨x,xs,rfl,g1,g2⟩:=hh
     exact⟨x,xs,rfl,g1.rd (jO 0 c rfl),ih g2 fun i c' hi=>by
      have:=jO (i+1) c' hi;rw [show j+(i+1)=j+1+i by omega] at this
      exact this⟩
   refine key hR fun i c hi=>?_;obtain⟨_,w2,w3⟩:=hw;have IC:i<cs.length:=(aL.1 hi).1;refine w3 i c _ hi ?_;unfold D.hd;rw [ax,aJ J];rfl
  ·simp at B
theorem rQ.cell {h:Array Obj} {r:Row} {d:D} {u:Value} {x:Y} (hh:rQ E.ro h r d u) (hd:dec (x.den E.ρ)=d):V E h (wE r x) u:=by
 subst hd
 cases r with
 |one c=> have hh:Rd E.ro h c _ u:=hh;exact gI.2 hh.cell
 |many cs=>
  obtain⟨_,us,rfl,O⟩:=hh;simp only [wE,V];refine⟨us,rfl,fO.2 ?_⟩
  have key: ∀{ks:List CK} {j:Nat} {ws:List Value},tj E.ro h ks j (dec (x.den E.ρ)) ws->bK E.ro h ks j (dec (x.den E.ρ)) ws:=by
   intro ks
   induction ks with
   |nil=>intro j ws hh; exact hh
   |cons c ks ih=> intro j ws hh;obtain⟨y,ys,rfl,g1,g2⟩:=hh;exact⟨y,ys,rfl,g1.cell,ih g2⟩
  exact key O
theorem nI {tt:TT} (bx:bV P tt) {h:Array Obj} {ty t:Nat} {k:Z} {uk:Value} {a:Y} {ie:TI} (R:V E h k uk) (hm:mapKey tt ty t k=some (a,ie)) :
 ∃kt et,P.underlying ty=some (.map kt et)/\DN P kt (mapOf t).1/\fg P et ie/\rQ E.ro h (mapOf t).1 (dec (a.den E.ρ)) uk:=by
 unfold mapKey at hm;split at hm
 ·grind
 ·rename_i ti cN;split at hm
  ·rename_i kt et mu;split at hm
   ·grind
   ·rename_i ki Dn;split at hm
    ·rename_i j7;split at hm
     ·grind
     ·rename_i I6 eA;split at hm
      ·grind
      ·rename_i a0 Mi;simp only [af,ag] at hm;obtain⟨rfl,rfl⟩:=hm;have hu:=iZ (bx ty ti cN) mu;refine⟨kt,et,hu,?_,bx et I6 eA,?_⟩
       ·generalize hr:(mapOf t).1=r at j7
        have qA:(∃c,r= .one c/\tP c)\/∃cs,r= .many cs/\cs≠[]:=by
         rw [<- hr];unfold mapOf;split<;>first |exact .inl ⟨_,rfl,.inl ⟨_,rfl⟩⟩|exact .inl ⟨_,rfl,.inr rfl⟩|exact .inr ⟨_,rfl,ad⟩
        rcases qA with ⟨c,rfl,B⟩|⟨cs,rfl,dV⟩
        ·simp only [Bq,decide_eq_true_eq] at j7;refine⟨B,?_⟩;rcases B with ⟨q,rfl⟩|rfl
         ·exact⟨_,gz (bx kt ki Dn) j7,q,rfl⟩
         ·exact⟨_,cx (bx kt ki Dn) j7,rfl⟩
        ·simp only [Bq] at j7;split at j7
         ·rename_i fs L3;split at j7
          ·rename_i hq;have cN:=bx kt ki Dn;have he:=cN.eqs hq;obtain⟨eU,hu,hm⟩:=iY cN L3;unfold zh at he;rw [hu] at he;simp only [an,bd,aE,bne_iff_ne,ne_eq] at he;obtain⟨⟨O,U⟩,N⟩:=he;have hf:P.fieldsOf kt=eU:=by simp [Program.fieldsOf,hu]
           refine⟨dV,by rw [hf]; exact hu,O,?_⟩;rw [hf];exact sN bx j7 hm (fun f hf=>(N f hf).1)
          ·simp at j7
         ·simp at j7
       ·rw [gL,bn];exact wA R Mi
    ·grind
  ·grind
theorem nH [bp] {H:Hp} (r:bq E H w) {id t:Nat} {e:Y} (I:H.get id=some (.ey e t)): ∃bo c',w.heap[(E.θ id).1]?=some (.map bo c')/\ek E.ro w.heap t (dec (e.den E.ρ)).l bo.toList:=
 (r.live id _ I).2.1
theorem nX {ρ:Nat->Int} (e a:Y):(sL e a).den ρ=((Y.op .zZ e a).den ρ == (Y.lit 0).den ρ):=by
 unfold sL;split
 ·split
  ·simp only [SB.den,Y.den,c8.den,bn]
   grind
  ·rfl
 ·rfl
theorem xK [bp] {tt:TT} (bx:bV P tt) {s s':St} (r:bq E s.h w) (F:bu E.ρ s.pc) {ty id t:Nat} {m k v:Z} {e:Y} {um uk:Value} {ok:Bool} (hm:V E w.heap m um) (R:V E w.heap k uk) (jl:k7 m s.h=some (id,e,t)) (h:(mK tt ty k ok e t s).leaf E.ρ=some (v,s')) :
 s'.bj=s.bj/\s'.h=s.h/\bu E.ρ s'.pc/\∃x,(Instr.lookup ty um uk ok).run P w= .ok x w/\V E w.heap v x:=by
 obtain⟨rfl,I⟩:=lD jl
 unfold mK at h;split at h
 ·grind [T.leaf]
 ·rename_i a ie Dl;obtain⟨kt,et,hu,hT,eA,Ad⟩:=nI bx R Dl;split at h
  ·grind [T.leaf]
  ·rename_i z hz;obtain⟨u0,z1,z2⟩:=nn (P:=P) (w:=w) (E:=E) eA hz;obtain⟨bo,c',g1,g2⟩:=nH r I;have hg:=bW (P:=P) g1 ad;simp only [V] at hm;obtain⟨rfl,hid⟩:=hm;have hf:=qH (w:=w) hT Ad g2;obtain⟨ea,dE,O⟩:=bH F h;rw [nX] at O;simp only [Y.den,c8.den] at O;rcases hf with ⟨q1,q2,_,_⟩|⟨j,x,en,q1,q2,q3,q4,q5,_,_⟩
   ·rw [q1] at O;have:=bh O;simp only [ag] at this;obtain⟨rfl,rfl⟩:=this;refine⟨rfl,rfl,dE,(if ok then .tuple #[u0,.bool false] else u0),?_,?_⟩
    ·cases ok<;>simp [Instr.lookup,run_underlying hu,hg,ff hT Ad,q2,z1]
    ·cases ok
     ·exact z2
     ·simp only [if_true,V,bC];simp_all [z2,SB.den]
   ·rw [q1] at O;have:=bh O;simp only [ag] at this;obtain⟨rfl,rfl⟩:=this
    have Ac:V E w.heap (wE (mapOf t).2 (.op .xf e a)) en.val:=by refine q3.cell ?_;simp only [Y.den,c8.den,bn,q1,aI]
    refine⟨rfl,rfl,dE,(if ok then .tuple #[en.val,.bool true] else en.val),?_,?_⟩
    ·cases ok<;>simp [Instr.lookup,run_underlying hu,hg,ff hT Ad,q4]
    ·cases ok
     ·grind
     ·simp only [if_true,V,bC]
      grind [SB.den]
theorem Ak [bp] {tt:TT} (bx:bV P tt) {s s':St} (r:bq E s.h w) {ty id t:Nat} {m k x v:Z} {e:Y} {um uk ux:Value} (hm:V E w.heap m um) (R:V E w.heap k uk) (M:V E w.heap x ux) (jl:k7 m s.h=some (id,e,t)) (h:(xG tt ty id k x e t s).leaf E.ρ=some (v,s')) :
 s'.bj=s.bj/\s'.pc=s.pc/\v=Z.undef/\∃w',(Instr.mapUpdate ty um uk ux).run P w= .ok () w'/\ca E s.h w E s'.h w'/\bq E s'.h w':=by
 obtain⟨rfl,I⟩:=lD jl
 unfold xG at h;split at h
 ·grind [T.leaf]
 ·rename_i a ie Dl;obtain⟨kt,et,hu,hT,eA,Ad⟩:=nI bx R Dl;split at h
  ·grind [T.leaf]
  ·rename_i b K;have:=bh h;simp only [ag] at this;obtain⟨rfl,rfl⟩:=this;have KG:=wA M K;obtain⟨bo,c',g1,g2⟩:=nH r I;have hg:=bW (P:=P) g1 ad;simp only [V] at hm;obtain⟨rfl,hid⟩:=hm;refine⟨rfl,rfl,rfl,?_⟩
   have nV:dec ((Y.op .qi e (cm a b)).den E.ρ)=dL (lE (dec (e.den E.ρ)).l (dec (a.den E.ρ)) (dec (b.den E.ρ))):=by simp only [cm,Y.den,c8.den,bn]
   rcases qH (w:=w) hT Ad g2 with ⟨q1,q2,q3,_⟩|⟨j,y,en,q1,q2,q3,q4,q5,q6,_⟩
   ·refine⟨_,?_,cL r I (.ey (.op .qi e (cm a b)) t) (.map (bo.push { key:=uk,val:=ux,born:=c' }) (c'+1)) ?_⟩
    ·simp [Instr.mapUpdate,run_underlying hu,hg,ff hT Ad,q2,cO (P:=P) g1]
    ·intro h' hh kp;simp only [OR];refine⟨_,_,hh,?_⟩;rw [nV,ch,q3,Array.toList_push];exact ek.push (Ad.bw kp.ro kp.pU) (KG.bw kp.ro kp.pU) (g2.bw kp.ro kp.pU)
   ·have HF:(Instr.keyThatStays (((bo[j]?).map (·.key)).getD uk) uk).run P w= .ok uk w:=by
     have Kv:=q2;rw [aK] at Kv;simp only [Kv,aR,aI,Instr.keyThatStays];simp_all
    refine⟨_,?_,cL r I (.ey (.op .qi e (cm a b)) t) (.map (bo.modify j fun e=>{ e with key:=uk,val:=ux }) c') ?_⟩
    ·simp [Instr.mapUpdate,run_underlying hu,hg,ff hT Ad,q4,HF,cO (P:=P) g1]
    ·intro h' hh kp;simp only [OR];refine⟨_,_,hh,?_⟩;rw [nV,ch,q6,lC bo j en _ q2];exact ek.set (Ad.bw kp.ro kp.pU) (KG.bw kp.ro kp.pU) (g2.bw kp.ro kp.pU) q2
theorem sZ [bp] {tt:TT} (bx:bV P tt) {s s':St} (r:bq E s.h w) (F:bu E.ρ s.pc) {ty:Nat} {m k x v:Z} {um uk ux:Value} (hm:V E w.heap m um) (R:V E w.heap k uk) (M:V E w.heap x ux) (h:(ug tt ty m k x s).leaf E.ρ=some (v,s')) :
 s'.bj=s.bj/\bu E.ρ s'.pc/\v=Z.undef/\∃w' E',(Instr.mapUpdate ty um uk ux).run P w= .ok () w'/\ca E s.h w E' s'.h w'/\bq E' s'.h w':=by
 unfold ug at h;obtain⟨vs,O,ea,E1,dE,f,q,g⟩:=kc rfl r F h;have hρ:=f.ρ;rw [<- hρ] at dE g;have W:=q [ux] (by simp only [bC]; exact⟨ux,[],rfl,M,rfl⟩);split at g
 ·rename_i x1;simp only [bC] at W;obtain⟨u1,K9,e1,EY,e2⟩:=W;subst e2;simp only [List.cons.injEq,and_true] at e1;subst e1;split at g
  ·rename_i id e t jl
   obtain⟨a1,a2,a3,w',a4,a5,a6⟩:=Ak bx (s:={ s with h:=O,pc:=ea }) f.rel (V.bw (f.pN.keeps r) _ _ hm) (V.bw (f.pN.keeps r) _ _ R) EY jl g;exact⟨a1,by rw [a2,<- hρ]; exact dE,a3,w',E1,a4,f.pN.trans a5,a6⟩
  grind [T.leaf]
 grind [T.leaf]
theorem Ap [bp] {tt:TT} (bx:bV P tt) {s s':St} (r:bq E s.h w) {ty id t ts:Nat} {m k v:Z} {e:Y} {um uk:Value} (hm:V E w.heap m um) (R:V E w.heap k uk) (jl:k7 m s.h=some (id,e,t)) (h:(xQ tt ty id k e t s).leaf E.ρ=some (v,s')) (tr:Nat) :
 s'.bj=s.bj/\s'.pc=s.pc/\v=Z.undef/\∃w',(Builtin.delete_ #[ty,ts] tr #[um,uk]).run P w= .ok (.tuple #[]) w'/\ca E s.h w E s'.h w'/\bq E s'.h w':=by
 obtain⟨rfl,I⟩:=lD jl
 unfold xQ at h;split at h
 ·grind [T.leaf]
 ·rename_i a ie Dl;obtain⟨kt,et,hu,hT,eA,Ad⟩:=nI bx R Dl;have:=bh h;simp only [ag] at this;obtain⟨rfl,rfl⟩:=this;obtain⟨bo,c',g1,g2⟩:=nH r I;have hg:=bW (P:=P) g1 ad;simp only [V] at hm;obtain⟨rfl,hid⟩:=hm;refine⟨rfl,rfl,rfl,?_⟩
  have nV:dec ((Y.op .xg e a).den E.ρ)=dL (tK (dec (e.den E.ρ)).l (dec (a.den E.ρ))):=by simp only [Y.den,c8.den,bn]
  rcases qH (w:=w) hT Ad g2 with ⟨q1,q2,_,q3⟩|⟨j,y,en,q1,q2,q3,q4,q5,_,q6⟩
  ·refine⟨_,?_,cL r I (.ey (.op .xg e a) t) (.map bo c') ?_⟩
   ·simp [Builtin.delete_,run_underlying hu,hg,ff hT Ad,q2,cO (P:=P) g1]
   ·intro h' hh kp;simp only [OR];refine⟨_,_,hh,?_⟩;rw [nV,ch,q3];exact g2.bw kp.ro kp.pU
  ·refine⟨_,?_,cL r I (.ey (.op .xg e a) t) (.map (bo.eraseIdxIfInBounds j) c') ?_⟩
   ·simp [Builtin.delete_,run_underlying hu,hg,ff hT Ad,q4,cO (P:=P) g1]
   ·intro h' hh kp;simp only [OR];refine⟨_,_,hh,?_⟩;have IC:j<bo.size:=by have:=(aL.1 q2).1; simpa using this
    have:(bo.eraseIdxIfInBounds j).toList=bo.toList.eraseIdx j:=by simp_all
    rw [this,nV,ch,q6];exact ek.erase (g2.bw kp.ro kp.pU)
end
section
variable {P:Program} {E:En} {w:World}
theorem qK {m:Z} {h:Hp} {id t:Nat} {e:Y} {cK:List Nat} {ov:List (Y×Z)} (hm:qL m h=some (id,e,t,cK,ov)):m= .map id/\h.get id=some (.kg e t cK ov):=by
 unfold qL at hm;split at hm
 ·split at hm
  ·rename_i o ho;split at hm
   ·simp only [af,ag] at hm;obtain⟨rfl,rfl,rfl,rfl,rfl⟩:=hm;exact⟨rfl,ho⟩
   ·simp at hm
  ·simp at hm
 ·simp at hm
theorem sW {tt:TT} (bx:bV P tt) {h:Array Obj} {ty:Nat} {k:Z} {uk:Value} {x:Y} {ie:TI} (R:V E h k uk) (hm:tY tt ty k=some (x,ie)) :
 ∃kt et dt,P.underlying ty=some (.map kt et)/\P.underlying kt=some dt/\o7 dt (.int .i64)/\fg P et ie/\uk= .int .i64 (x.den E.ρ):=by
 unfold tY at hm;split at hm
 ·simp at hm
 ·rename_i ti cN;split at hm
  ·rename_i kt et mu;split at hm
   ·simp at hm
   ·rename_i ki Dn;split at hm
    ·rename_i j7;split at hm
     ·simp at hm
     ·rename_i I6 eA;split at hm
      ·split at hm
       ·rename_i kk y JH;simp only [af,ag] at hm;obtain⟨rfl,rfl⟩:=hm;subst JH;simp only [V] at R;exact⟨kt,et,_,iZ (bx ty ti cN) mu,gz (bx kt ki Dn) j7,⟨_,rfl⟩,bx et I6 eA,R⟩
       ·simp at hm
      ·simp at hm
    ·simp at hm
  ·simp at hm
theorem pQ (ρ:Nat->Int) (x:Y):dec ((gM x).den ρ)= .i (x.den ρ):=by
 unfold gM;split
 ·simp only [Y.den,bn]
 ·simp only [Y.den,c8.den,bn]
theorem qJ {α:Type} {ρ:Nat->Int} {x:Y} {k:Option Z->St->T α} {a:α}: ∀{ov:List (Y×Z)} {s:St},bu ρ s.pc->(jr x ov s k).leaf ρ=some a->
 ∃cl,bu ρ cl/\(k (fW ρ (x.den ρ) ov) { s with pc:=cl }).leaf ρ=some a
 |[],s,F,h=> ⟨s.pc,F,h⟩
 |(y,v)::l,s,F,h=>by
  simp only [jr] at h;split at h
  ·rename_i he;have:=bD _ _ he;subst this;refine⟨s.pc,F,?_⟩;simp only [fW,if_true];exact h
  ·obtain⟨ea,dE,O⟩:=bH F h;rw [cW] at O;by_cases he:x.den ρ=y.den ρ
   ·simp only [he,beq_self_eq_true] at O;refine⟨ea,dE,?_⟩;simp only [fW,ak he.symm];exact O
   ·have hf:(x.den ρ == y.den ρ)=false:=by simp [he]
    rw [hf] at O;obtain⟨gQ,gw,U⟩:=qJ (s:={ s with pc:=ea }) dE O;refine⟨gQ,gw,?_⟩;simp only [fW,ah (fun q=>he (Eq.symm q))];exact U
theorem sV {α:Type} {ρ:Nat->Int} {x:Y} {v:Z} {a:α}: ∀{ov:List (Y×Z)} {s:St} {k:Option (List (Y×Z))->St->T α},bu ρ s.pc->(tX x v ov s k).leaf ρ=some a->
 ∃cl,bu ρ cl/\((fW ρ (x.den ρ) ov=none/\(k none { s with pc:=cl }).leaf ρ=some a)\/
  ∃dv,(∃u,fW ρ (x.den ρ) ov=some u)/\((∀n,fW ρ n dv=if n=x.den ρ then some v else fW ρ n ov)/\dv.map (·.1)=ov.map (·.1))/\(k (some dv) { s with pc:=cl }).leaf ρ=some a)
 |[],s,k,F,h=> ⟨s.pc,F,.inl ⟨rfl,h⟩⟩
 |(y,u)::l,s,k,F,h=>by
  simp only [tX] at h
  have here:x.den ρ=y.den ρ->(∃u',fW ρ (x.den ρ) ((y,u)::l)=some u')/\((∀n,fW ρ n ((y,v)::l)=if n=x.den ρ then some v else fW ρ n ((y,u)::l))/\((y,v)::l).map (·.1)=((y,u)::l).map (·.1)):=by
   intro he;refine⟨⟨u,by simp only [fW,ak he.symm]⟩,fun n=>?_,rfl⟩;simp only [fW];by_cases hn:n=x.den ρ
   ·rw [ak hn,ak (by rw [hn,he])]
   ·rw [ah hn,ah (fun q=>hn (by rw [he,q])),ah (fun q=>hn (by rw [he,q]))]
  split at h
  ·rename_i he;have:=bD _ _ he;subst this;exact⟨s.pc,F,.inr ⟨_,(here rfl).1,(here rfl).2,h⟩⟩
  ·obtain⟨ea,dE,O⟩:=bH F h;rw [cW] at O;by_cases he:x.den ρ=y.den ρ
   ·have ht:(x.den ρ == y.den ρ)=true:=by simp [he]
    rw [ht] at O;exact⟨ea,dE,.inr ⟨_,(here he).1,(here he).2,O⟩⟩
   ·have hf:(x.den ρ == y.den ρ)=false:=by simp [he]
    rw [hf] at O;obtain⟨gQ,gw,U⟩:=sV (s:={ s with pc:=ea }) dE O;have dV: ¬y.den ρ=x.den ρ:=fun q=>he q.symm;refine⟨gQ,gw,?_⟩;rcases U with ⟨g1,g2⟩|⟨dv,⟨u',g1⟩,⟨g2,g4⟩,g3⟩
    ·exact .inl ⟨by simp only [fW,ah dV]; exact g1,g2⟩
    ·refine .inr ⟨_,⟨u',by simp only [fW,ah dV]; exact g1⟩,⟨fun n=>?_,by simp only [au,g4]⟩,g3⟩;simp only [fW];by_cases hy:y.den ρ=n
     ·rw [ak hy,ak hy,ah (fun q=>dV (by rw [hy,q]))]
     ·rw [ah hy,ah hy,g2 n]
theorem qG {h:Array Obj} {Y_ t:Nat} {cK:List Nat} {ov:List (Y×Z)} {dt:TypeDesc} (hd:o7 dt (.int .i64)) (n:Int): ∀{ds:List D} {bo:List MapEntry} {i:Nat},cw E h Y_ t cK ov ds bo->
 (fv ds (.i n)=none/\D.i n∉ds.map fA/\Instr.findNow dt (.int .i64 n) bo i=some none/\(∀v,lE ds (.i n) v=ds++ [.p (.i n) v]))\/
 (∃j x e,fv ds (.i n)=some x/\D.i n∈ds.map fA/\bo[j]?=some e/\ds[j]?=some (.p (.i n) x)/\e.key= .int .i64 n/\(match fW E.ρ n ov with |some v=>V E h v e.val|none=>kD E h Y_ t cK (.i n) x e.val)/\
  Instr.findNow dt (.int .i64 n) bo i=some (some (i+j,e.val))/\(∀n',Instr.sameBits (n'+1) e.key (.int .i64 n)=true)/\(∀v,lE ds (.i n) v=ds.set j (.p (.i n) v)))
 |[],bo,i,he=>by simp only [cw] at he;subst he;exact .inl ⟨rfl,ad,by simp [Instr.findNow],fun _=>rfl⟩
 |d::ds,bo,i,he=>by
  obtain⟨e,r,m,rfl,O,U,N,h4⟩:=he;obtain⟨g1,g2⟩:=mo (ro:=E.ro) (h:=h) (c:=.int .i64) (.inl ⟨_,rfl⟩) hd (.int .i64 n) (.int .i64 m);have R:fA d= .i m:=by rw [O]; rfl
  rw [<- U] at g1 g2;by_cases mw:D.i m=D.i n
  ·have LR:m=n:=by simpa using mw
   subst LR;have Dt:Instr.sameNow dt (.int .i64 m) e.key=some true:=by rw [g1,decide_eq_true rfl]
   refine .inr ⟨0,wx d,e,by simp only [fv,R,if_true],by simp [R],rfl,by rw [<- O]; rfl,U,N,by simp [Instr.findNow,Dt],g2 rfl,fun v=>by simp only [lE,R,if_true,aaB]⟩
  ·have Dt:Instr.sameNow dt (.int .i64 n) e.key=some false:=by rw [g1,decide_eq_false (fun q=>mw q.symm)]
   have dV: ¬fA d= .i n:=by rw [R]; exact mw
   rcases qG (i:=i+1) hd n h4 with ⟨q1,q2,q3,q4⟩|⟨j,x,e',q1,q2,q3,q4,q5,q6,q7,q8,q9⟩
   ·refine .inl ⟨by simp only [fv,ah dV,q1],?_,by simp [Instr.findNow,Dt,q3],fun v=>by simp only [lE,ah dV,q4,aM]⟩;simp only [au,aw,not_or];exact⟨fun q=>dV q.symm,q2⟩
   ·refine .inr ⟨j+1,x,e',by simp only [fv,ah dV,q1],by simp only [au,aw]; exact .inr q2,by simpa using q3,by simpa using q4,q5,q6,?_,q8,fun v=>by simp only [lE,ah dV,q9,aaC]⟩;simp only [Instr.findNow,Dt,q7]; congr 3; omega
theorem yA {ρ:Nat->Int} {n:Int} {v:Z}: ∀{ov:List (Y×Z)},fW ρ n ov=some v->n∈ov.map fun p=>p.1.den ρ
 |[],h=>by simp [fW] at h
 |(x,u)::l,h=>by
  simp only [fW] at h;simp only [au,aw];split at h
  ·rename_i he; exact .inl he.symm
  ·exact .inr (yA h)
theorem yz {ρ:Nat->Int} {n:Int}: ∀{ov:List (Y×Z)},fW ρ n ov=none->n∉ov.map fun p=>p.1.den ρ
 |[],_=>by simp
 |(x,u)::l,h=>by
  simp only [fW] at h;simp only [au,aw,not_or];split at h
  ·simp at h
  ·rename_i he; exact⟨fun q=>he q.symm,yz h⟩
theorem rB.at {ρ:Nat->Int} {ds:List D} {ov:List (Y×Z)} (h:rB ρ ds ov) {n:Int} {v:Z} (W:fW ρ n ov=some v):D.i n∈ds.map fA:=by obtain⟨p,F,he⟩:=aF.1 (yA W);rw [<- he];exact h.2.1 p F
theorem v7 [bp] {H:Hp} (r:bq E H w) {id t:Nat} {e:Y} {cK:List Nat} {ov:List (Y×Z)} (I:H.get id=some (.kg e t cK ov)) :
 rB E.ρ (dec (e.den E.ρ)).l ov/\∃bo c',w.heap[(E.θ id).1]?=some (.map bo c')/\cw E w.heap (E.θ id).1 t cK ov (dec (e.den E.ρ)).l bo.toList:=
 (r.live id _ I).2.1
theorem xJ [bp] {tt:TT} (bx:bV P tt) {s s':St} (r:bq E s.h w) (F:bu E.ρ s.pc) {ty id t:Nat} {cK:List Nat} {ov:List (Y×Z)} {m k v:Z} {e:Y} {um uk:Value} {ok:Bool} (hm:V E w.heap m um) (R:V E w.heap k uk) (jl:qL m s.h=some (id,e,t,cK,ov)) (h:(mJ tt ty k ok e ov s).leaf E.ρ=some (v,s')) :
 s'.bj=s.bj/\s'.h=s.h/\bu E.ρ s'.pc/\∃x,(Instr.lookup ty um uk ok).run P w= .ok x w/\V E w.heap v x:=by
 obtain⟨rfl,I⟩:=qK jl
 unfold mJ at h;split at h
 ·simp [T.leaf] at h
 ·rename_i x ie Dl;obtain⟨kt,et,dt,hu,lI,dX,eA,rfl⟩:=sW bx R Dl;split at h
  ·simp [T.leaf] at h
  ·rename_i z hz;obtain⟨u0,z1,z2⟩:=nn (P:=P) (w:=w) (E:=E) eA hz;obtain⟨g0,bo,c',g1,g2⟩:=v7 r I;have hg:=bW (P:=P) g1 ad;simp only [V] at hm;obtain⟨rfl,hid⟩:=hm;have hf:=qG (i:=0) dX (x.den E.ρ) g2;obtain⟨ea,dE,O⟩:=qJ F h
   cases ho:fW E.ρ (x.den E.ρ) ov with
   |some v1=>
    rw [ho] at O;have:=bh O;simp only [ag] at this;obtain⟨rfl,rfl⟩:=this;rcases hf with ⟨q1,q2,_,_⟩|⟨j,y,en,q1,q2,q3,_,_,q6,q7,_,_⟩
    ·exact absurd (g0.at ho) q2
    ·rw [ho] at q6;refine⟨rfl,rfl,dE,(if ok then .tuple #[en.val,.bool true] else en.val),?_,?_⟩
     ·cases ok<;>simp [Instr.lookup,run_underlying hu,hg,bX lI dX,cr lI q7]
     ·cases ok
      ·exact q6
      ·simp only [if_true,V,bC];exact⟨[en.val,.bool true],rfl,_,_,rfl,q6,_,_,rfl,by simp [SB.den],rfl⟩
   |none=>
    rw [ho] at O;obtain⟨gQ,gw,U⟩:=bH dE O;rw [nX] at U;simp only [Y.den,c8.den,pQ] at U;rcases hf with ⟨q1,_,q2,_⟩|⟨j,y,en,q1,_⟩
    ·rw [q1] at U;have:=bh U;simp only [ag] at this;obtain⟨rfl,rfl⟩:=this;refine⟨rfl,rfl,gw,(if ok then .tuple #[u0,.bool false] else u0),?_,?_⟩
     ·cases ok<;>simp [Instr.lookup,run_underlying hu,hg,bX lI dX,cr lI q2,z1]
     ·cases ok
      ·exact z2
      ·simp only [if_true,V,bC];exact⟨[u0,.bool false],rfl,_,_,rfl,z2,_,_,rfl,by simp [SB.den],rfl⟩
    ·rw [q1] at U;simp [T.leaf] at U
theorem l5 [bp] {H:Hp} (r:bq E H w) {id:Nat} {o:bS} (I:H.get id=some o) (ao:bS) (o':Obj)
 (ho: ∀h',h'[(E.θ id).1]?=some o'->c9 E w.heap E h'->(∀Y_ key,Ge E w.heap E h' Y_ key)->OR E h' id ao) :
 ca E H w E (H.put id ao) { w with heap:=w.heap.setIfInBounds (E.θ id).1 o' }/\bq E (H.put id ao) { w with heap:=w.heap.setIfInBounds (E.θ id).1 o' }:=by
 have c6:=eO r I
 have eF: ∀b,b≠(E.θ id).1->({ w with heap:=w.heap.setIfInBounds (E.θ id).1 o' }:World).heap[b]?=w.heap[b]?:=fun b K=>by
  grind
 refine pY r I ao ad eF ⟨rfl,rfl,rfl⟩ (ho _ ?_ (ed r I eF) fun Y_ key=>r.Ed rfl (fun b _ hn=>eF b fun e=>hn id o I e.symm) Y_ key)
 grind
theorem cw.set {h:Array Obj} {Y_ t:Nat} {cK:List Nat} {ov dv:List (Y×Z)} {n:Int} {v:Z} {ux:Value} (M:V E h v ux) (W: ∀m,fW E.ρ m dv=if m=n then some v else fW E.ρ m ov): ∀{ds:List D} {bo:List MapEntry} {j:Nat} {e:MapEntry},
 (ds.map fA).Nodup->cw E h Y_ t cK ov ds bo->bo[j]?=some e->e.key= .int .i64 n->cw E h Y_ t cK dv ds (bo.set j { e with key:=.int .i64 n,val:=ux })
 |[],bo,j,e,_,he,hj,_=>by simp only [cw] at he; subst he; simp at hj
 |d::ds,bo,0,e,rM,he,hj,R=>by
  obtain⟨e0,r,m,rfl,O,U,N,h4⟩:=he;simp at hj;subst hj;have hm:m=n:=by rw [U] at R; simpa using R
  subst hm;simp only [aaB];refine⟨_,r,m,rfl,O,rfl,?_,?_⟩
  ·rw [W,ak rfl]; exact M
  ·simp only [au,aaH] at rM;have R:fA d= .i m:=by rw [O]; rfl
   rw [R] at rM;exact cw.other W rM.1 h4
 |d::ds,bo,j+1,e,rM,he,hj,R=>by
  obtain⟨e0,r,m,rfl,O,U,N,h4⟩:=he;simp only [aaC];simp only [au,aaH] at rM;have Ec:fA d= .i m:=by rw [O]; rfl
  have Fq:r[j]?=some e:=by simpa using hj
  refine⟨e0,_,m,rfl,O,U,?_,cw.set M W rM.2 h4 Fq R⟩
  have dV:m≠n:=by rintro rfl;rw [Ec] at rM;exact rM.1 (cw.ph h4 Fq R)
  rw [W,ah dV];exact N
where
 cw.other {h:Array Obj} {Y_ t:Nat} {cK:List Nat} {ov dv:List (Y×Z)} {n:Int} {v:Z} (W: ∀m,fW E.ρ m dv=if m=n then some v else fW E.ρ m ov): ∀{ds:List D} {bo:List MapEntry},D.i n∉ds.map fA->cw E h Y_ t cK ov ds bo->cw E h Y_ t cK dv ds bo
 |[],_,_,he=>he
 |d::ds,_,hn,⟨e0,r,m,h0,O,U,N,h4⟩=>by
  simp only [au,aw,not_or] at hn;have Ec:fA d= .i m:=by rw [O]; rfl
  rw [Ec] at hn;refine⟨e0,r,m,h0,O,U,?_,cw.other W hn.2 h4⟩;rw [W,ah (fun q=>hn.1 (by rw [q]))];exact N
 cw.ph {h:Array Obj} {Y_ t:Nat} {cK:List Nat} {ov:List (Y×Z)} {n:Int}: ∀{ds:List D} {bo:List MapEntry} {j:Nat} {e:MapEntry},cw E h Y_ t cK ov ds bo->bo[j]?=some e->e.key= .int .i64 n->D.i n∈ds.map fA
 |[],bo,j,e,he,hj,_=>by simp only [cw] at he; subst he; simp at hj
 |d::ds,bo,0,e,he,hj,R=>by
  obtain⟨e0,r,m,rfl,O,U,N,h4⟩:=he;simp at hj;subst hj;rw [U] at R;have hm:m=n:=by simpa using R
  subst hm;rw [O];simp [fA]
 |d::ds,bo,j+1,e,he,hj,R=>by obtain⟨e0,r,m,rfl,O,U,N,h4⟩:=he;simp only [au,aw];exact .inr (cw.ph h4 (by simpa using hj) R)
theorem cw.push {h:Array Obj} {Y_ t:Nat} {cK:List Nat} {ov dv:List (Y×Z)} {n:Int} {v:Z} {ux:Value} {c:Nat} {x:D} (M:V E h v ux) (W: ∀m,fW E.ρ m dv=if m=n then some v else fW E.ρ m ov): ∀{ds:List D} {bo:List MapEntry},D.i n∉ds.map fA->cw E h Y_ t cK ov ds bo->
 cw E h Y_ t cK dv (ds++ [.p (.i n) x]) (bo++ [{ key:=.int .i64 n,val:=ux,born:=c }])
 |[],bo,_,he=>by simp only [cw] at he;subst he;refine⟨_,[],n,rfl,rfl,rfl,?_,rfl⟩;rw [W,ak rfl]; exact M
 |d::ds,bo,hn,he=>by
  obtain⟨e0,r,m,rfl,O,U,N,h4⟩:=he;simp only [au,aw,not_or] at hn;have Ec:fA d= .i m:=by rw [O]; rfl
  rw [Ec] at hn;simp only [aM];refine⟨e0,_,m,rfl,O,U,?_,cw.push M W hn.2 h4⟩;rw [W,ah (fun q=>hn.1 (by rw [q]))];exact N
theorem oO [bp] {tt:TT} (bx:bV P tt) {s s':St} (r:bq E s.h w) (F:bu E.ρ s.pc) {ty id t:Nat} {cK:List Nat} {ov:List (Y×Z)} {m k x v:Z} {e:Y} {um uk ux:Value} (hm:V E w.heap m um) (R:V E w.heap k uk) (M:V E w.heap x ux) (jl:qL m s.h=some (id,e,t,cK,ov)) (h:(mI tt ty id k x e t cK ov s).leaf E.ρ=some (v,s')) :
 s'.bj=s.bj/\bu E.ρ s'.pc/\v=Z.undef/\∃w',(Instr.mapUpdate ty um uk ux).run P w= .ok () w'/\ca E s.h w E s'.h w'/\bq E s'.h w':=by
 obtain⟨rfl,I⟩:=qK jl
 unfold mI at h;split at h
 ·simp [T.leaf] at h
 ·rename_i a ie Dl;obtain⟨kt,et,dt,hu,lI,dX,eA,rfl⟩:=sW bx R Dl;obtain⟨g0,bo,c',g1,g2⟩:=v7 r I;have hg:=bW (P:=P) g1 ad;simp only [V] at hm;obtain⟨rfl,hid⟩:=hm;have hf:=qG (i:=0) dX (a.den E.ρ) g2;obtain⟨ea,dE,O⟩:=sV F h;rcases O with ⟨ho,O⟩|⟨dv,⟨u',ho⟩,⟨W,Ae⟩,O⟩
  ·obtain⟨gQ,gw,U⟩:=bH dE O;rw [nX] at U;simp only [Y.den,c8.den,pQ] at U;rcases hf with ⟨q1,q0,q2,q3⟩|⟨j,y,en,q1,_⟩
   ·rw [q1] at U;have:=bh U;simp only [ag] at this;obtain⟨rfl,rfl⟩:=this;refine⟨rfl,gw,rfl,_,?_,l5 r I (.kg (.op .qi e (cm (gM a) (.cE (.i 0)))) t cK ((a,x)::ov)) (.map (bo.push { key:=.int .i64 (a.den E.ρ),val:=ux,born:=c' }) (c'+1)) ?_⟩
    ·simp [Instr.mapUpdate,run_underlying hu,hg,bX lI dX,cr lI q2,cO (P:=P) g1]
    ·intro h' hh kp R
     have nV:dec ((Y.op .qi e (cm (gM a) (.cE (.i 0)))).den E.ρ)=dL (lE (dec (e.den E.ρ)).l (.i (a.den E.ρ)) (.i 0)):=by simp only [cm,Y.den,c8.den,bn,pQ]
     have oJ: ∀m,fW E.ρ m ((a,x)::ov)=if m=a.den E.ρ then some x else fW E.ρ m ov:=by
      intro m;simp only [fW];by_cases hm:a.den E.ρ=m
      ·rw [ak hm,ak hm.symm]
      ·rw [ah hm,ah (fun q=>hm q.symm)]
     simp only [OR];rw [nV,ch,q3];refine⟨⟨?_,fun p F=>?_,?_⟩,_,_,hh,?_⟩
     ·rw [abj,List.nodup_append];refine⟨g0.1,ad,fun p F q hq=>?_⟩;simp only [au,List.map_nil,List.mem_singleton] at hq;rw [hq];intro eq;rw [eq] at F;exact q0 F
     ·rw [abj,aZ];rcases aw.1 F with rfl|F
      ·exact .inr (by simp [fA])
      ·exact .inl (g0.2.1 p F)
     ·simp only [au,aaH];exact⟨yz ho,g0.2.2⟩
     ·rw [Array.toList_push];exact cw.push (V.bw kp _ _ M) oJ q0 (g2.bw kp fun _ _=>R _ _)
   ·rw [q1] at U;simp [T.leaf] at U
  ·have:=bh O;simp only [ag] at this;obtain⟨rfl,rfl⟩:=this;rcases hf with ⟨_,q2,_,_⟩|⟨j,y,en,q1,q2,q3,q4,q5,q6,q7,q8,q9⟩
   ·exact absurd (g0.at ho) q2
   ·simp only [ax] at q7
    have HF:(Instr.keyThatStays (((bo[j]?).map (·.key)).getD (.int .i64 (a.den E.ρ))) (.int .i64 (a.den E.ρ))).run P w= .ok (.int .i64 (a.den E.ρ)) w:=by have Ku:=q3;rw [aK] at Ku;simp only [Ku,aR,aI,Instr.keyThatStays];rw [ak (q8 9999)];rfl
    refine⟨rfl,dE,rfl,_,?_,l5 r I (.kg e t cK dv) (.map (bo.modify j fun e=>{ e with key:=.int .i64 (a.den E.ρ),val:=ux }) c') ?_⟩
    ·simp [Instr.mapUpdate,run_underlying hu,hg,bX lI dX,cr lI q7,HF,cO (P:=P) g1]
    ·intro h' hh kp R;simp only [OR];refine⟨⟨g0.1,fun p F=>?_,?_⟩,_,_,hh,?_⟩
     ·have:p.1∈dv.map (·.1):=aF.2 ⟨p,F,rfl⟩;rw [Ae] at this;obtain⟨q,hq,he⟩:=aF.1 this;rw [<- he];exact g0.2.1 q hq
     ·have O:(dv.map fun p=>p.1.den E.ρ)=(dv.map (·.1)).map fun x=>x.den E.ρ:=by rw [aax]; rfl
      rw [O,Ae,aax];exact g0.2.2
     ·rw [lC bo j en _ q3];exact cw.set (V.bw kp _ _ M) W g0.1 (g2.bw kp fun _ _=>R _ _) q3 q5
end
section
variable {P:Program} {E:En} {w:World}
theorem Bm [bp] {tt:TT} (bx:bV P tt) {H:Hp} (r:bq E H w) {t e k:Nat} {i ie:TI} {k1 k2:IntKind} (hi:tt t=some i) (R:i.kind= .slice e) (eA:tt e=some ie) (Lt:ie.zero.length=ie.size) (k9:0<ie.size) (kQ:ie.bytes≠0) (qB:ie.bytes*k<=140737488355328) (gq:0<k) :
 ∃x w' E',(Instr.makeSlice t (.int k1 k) (.int k2 k)).run P w= .ok x w'/\ca E H w E' (H.new (.cells (bJ ie.zero k) e)) w'/\bq E' (H.new (.cells (bJ ie.zero k) e)) w'/\V E' w'.heap (.slice H.fresh 0 k (.rest ie.size)) x:=by
 have cN:=bx t i hi;have Bx:=bx e ie eA;obtain⟨inf,z,g1,g2,g3,g4,g5⟩:=kN Bx;have hz:=b9 (E:=E) (h:=w.heap) g5;have kO:z.cells.size=ie.size:=by have:=hz.1.length; simp only [aC] at this; omega
 have MJ:k<=140737488355328:=by refine aD ?_ qB;exact Nat.le_mul_of_pos_left _ J
 have wn:IntKind.i64.wrap (k:Int)=(k:Int):=by rw [<- ef]; simp only [iO]; rw [ak (by constructor<;>omega)]
 have ai: ∀(q:IntKind) (x:Int) (w:World),(asInt (Value.int q x)).run P w= .ok x w:=fun _ _ _=>rfl
 have dV:z.cells.toList≠[]:=by
  intro M;have D2:z.cells.size=0:=by have:=congrArg List.length M; simpa using this
  omega
 have F7:=jP z.cells dV k;rw [kO] at F7;obtain⟨dh,e1⟩ : ∃dh:Array Value,((Array.range (k*inf.size)).map (z.cells[·% z.cells.size]!))=dh:=⟨_,rfl⟩
 have Er:dh.toList=bJ z.cells.toList k:=by
  grind
 have e2:bC E w.heap (bJ ie.zero k) dh.toList:=by rw [Er]; exact e9 hz.1 k
 have e3: ∀u∈dh.toList,u.oneCell'=true:=by rw [Er]; intro u hu; exact hz.2 u (e8 hu)
 have dc:dh.size=k*ie.size:=by rw [<- aC,Er,dy,aC,kO]
 refine⟨.slice (some ⟨w.heap.size,0,none⟩) k k,{ w with heap:=w.heap.push (.cells dh e) },E.ext H.fresh (w.heap.size,0) dh.size,?_,?_⟩
 ·have t1: ¬((k:Int)<0):=J
  have t2: ¬((inf.bytes:Int)*(k:Int) > 2 ^ 48):=by
   grind
  have t4: ¬((k:Int) > (k:Int)):=J
  have t5:(askRoom (k*inf.bytes)).run P w= .ok () w:=by
   have: ¬(k*inf.bytes > roomBytes):=by
    unfold roomBytes
    grind
   unfold askRoom;rw [ah this];rfl
  have t6:(k:Int).toNat=k:=rfl
  have h0: ¬(k*inf.size=0):=by rw [g2];have:=aaF gq k9;omega
  simp only [Instr.makeSlice,Sem.run_bind,run_underlying (cn cN R),Result.andThen_ok,ai,sizeOf,typeInfo,zeroValue,run_program,g1,g4,Sem.run_pure,newRow,Sem.run_ite,wn,t1,t2,t4,t6,h0,decide_false,aaR,ay,if_false];rw [t5,Result.andThen_ok,e1];rfl
 ·obtain⟨s1,s2⟩:=du r dh 0 0 e e2 e3 (fun i u hu=>by rw [<- aK]; exact hu) J (w':={ w with heap:=w.heap.push (.cells dh e) }) rfl ⟨rfl,rfl,rfl⟩;refine⟨s1,s2,?_⟩;simp only [V];refine⟨En.cQ _ _ _ _,⟨w.heap.size,0,none⟩,k,rfl,ar _,?_⟩;simp only [cg,En.ext_θ_new,En.ext_κ_new]
  grind
theorem xI [bp] {tt:TT} (bx:bV P tt) {s s':St} (r:bq E s.h w) (F:bu E.ρ s.pc) {t:Nat} {l c v:Z} {lu cu:Value} (I:V E w.heap l lu) (B:V E w.heap c cu) (h:(uo tt t l c s).leaf E.ρ=some (v,s')) :
 s'.bj=s.bj/\bu E.ρ s'.pc/\∃x w' E',(Instr.makeSlice t lu cu).run P w= .ok x w'/\ca E s.h w E' s'.h w'/\bq E' s'.h w'/\V E' w'.heap v x:=by
 unfold uo at h;split at h
 ·rename_i k n;split at h
  ·rename_i k2 n2;split at h
   ·simp [T.leaf] at h
   ·rename_i Jy;have Jy:=bD _ _ Jy;subst Jy;simp only [V] at I B;subst I B;split at h
    ·simp [T.leaf] at h
    ·rename_i i hi;split at h
     ·simp [T.leaf] at h
     ·rename_i o ho;split at h
      ·rename_i e R;split at h
       ·simp [T.leaf] at h
       ·rename_i ie eA;split at h
        ·simp [T.leaf] at h
        ·rename_i z hz;split at h
         ·rename_i fa;obtain⟨eG,k9,kQ,kO⟩:=fa;obtain⟨ea,dE,O⟩:=bH F h;split at O
          ·simp [T.leaf] at O
          ·rename_i t1;obtain⟨gQ,gw,U⟩:=bH (s:={ s with pc:=ea }) dE O;split at U
           ·rename_i t2;split at U
            ·rename_i v0 h0 hm;have:=bh U;simp only [ag] at this;obtain⟨rfl,rfl⟩:=this;rw [eZ,beq_iff_eq] at t2;simp only [Y.den] at t2;rw [t2];obtain⟨x,w',E',q1,q2,q3,q4⟩:=kq (P:=P) bx r (lu:=.int k 0) (cu:=.int k2 0) (by simp only [V,Y.den]) (by simp only [V,Y.den]) hm
             grind
            ·simp [T.leaf] at U
           ·rename_i t2;obtain⟨Ct,vK,N⟩:=bH (s:={ s with pc:=gQ }) gw U;split at N
            ·rename_i t3;have:=bh N;simp only [ag] at this;obtain⟨rfl,rfl⟩:=this;rw [bN,decide_eq_false_iff_not] at t1;rw [eZ,beq_eq_false_iff_ne] at t2;rw [bN,decide_eq_true_eq] at t3;simp only [Y.den] at t1 t2 t3;obtain⟨m,hm⟩ : ∃m:Nat,n.den E.ρ=(m:Int):=⟨(n.den E.ρ).toNat,J⟩;rw [hm] at t2 t3 ⊢;have gq:0<m:=J
             have qB:ie.bytes*m<=140737488355328:=by
              unfold iq at t3
              have O:m<=140737488355328 / ie.bytes:=by
               grind
              exact aD (Nat.mul_le_mul_left _ O) (Nat.mul_div_le _ _)
             obtain⟨x,w',E',q1,q2,q3,q4⟩:=Bm (P:=P) (k1:=k) (k2:=k2) bx r hi R eA kO k9 kQ qB gq;have hρ:=q2.ρ
             have hd:dec ((Y.op .rep n z).den E'.ρ)=dL (List.replicate m (dec (z.den E'.ρ))):=by
              have:n.den E'.ρ=(m:Int):=by rw [hρ]; exact hm
              simp only [Y.den,c8.den,bn,this,a8]
             have hlen:(dec ((Y.op .rep n z).den E'.ρ)).l.length=m:=by rw [hd,ch,abw]
             have Jb:hJ (rowOf o) (dec (z.den E'.ρ)):=jA hz
             have rI:(bA E'.ρ (.op .rep n z) o []).length=(bJ ie.zero m).length:=by unfold bA;rw [bB (eb _),hlen,dy,kO,eG]
             have Fb: ∀(q:Nat) (us:List Value),bC E' w'.heap (bJ ie.zero q) us->bC E' w'.heap (bk E'.ρ (rowOf o) [] (List.replicate q (dec (z.den E'.ρ))) 0) us:=by
              intro q
              induction q with
              |zero=>intro us h; exact h
              |succ q ih=> intro us h;simp only [bJ] at h;obtain⟨K9,Iq,rfl,a,b⟩:=bC.split h;simp only [abh,bk,bO];rw [eg _ 1 0];refine bC.append ?_ (ih _ b);rw [cF];simp only [Y.den,bn];exact jB a hz
             have r2:=pg (e1:=.op .rep n z) (t:=o) q3 ⟨by rw [hd,ch],fun d rN=>by
              rw [hd,ch] at rN;rw [abx rN]
              exact Jb,fun hq=>by rw [hq] at hlen; simp at hlen; omega⟩ rI (fun us hu=>by
              unfold bA;rw [hd,ch]
              exact Fb m us hu)
             refine⟨rfl,vK,x,w',E',q1,q2.right (kL rfl rfl fun _=>rfl),r2,?_⟩;simp only [V] at q4 ⊢;obtain⟨p1,a,cap,p2,p3,p4⟩:=q4;refine⟨p1,m,a,cap,by rw [bz,hlen],p2,p3,?_⟩
             grind
            ·simp [T.leaf] at N
         ·simp [T.leaf] at h
      ·simp [T.leaf] at h
  ·simp [T.leaf] at h
 ·simp [T.leaf] at h
end
theorem uU {α β:Type} (f:α->β) (xs:Array α):xs.map f=(xs.toList.map f).toArray:=by
 grind
def iU (P:Program) (X!:Value->World->Prop):Result Next->Prop
 | .ok (.value u) w'=>X! u w'
 | .ok (.enter f args) w'=>Calls P f args w' fun e DR=> ∃u,e= .returned u/\X! u DR
 |_=>False
def gy (P:Program) (g:FuncId) (dg:Array Value) (w:World) (X!:Value->World->Prop):Prop:=iU P X! ((callFunc g dg).run P w)
def fh [bp] (P:Program) (g:FuncId) (f:List Z->St->T (Z×St)):Prop:=
 ∀(args:List Z) (s:St) (E:En) (w:World) (dg:List Value) (v:Z) (s':St),bq E s.h w->bC E w.heap args dg->bu E.ρ s.pc->(f args s).leaf E.ρ=some (v,s')->
  s'.bj=s.bj/\bu E.ρ s'.pc/\gy P g dg.toArray w (wM E s w v s')
theorem mq {E:En} {h:Array Obj} {k:Nat} {e:Y} {i:Nat} (he:e.den E.ρ=(i:Int)): ∀(ks:List IntKind) (j:Nat),
 bC E h (j4 k e ks j) ((ks.zipIdx j).map fun p=> .int p.1 (E.ρ (1000+i*64+(k*8+p.2))))
 |[],j=>by simp [j4,bC]
 |kd::ks,j=>by simp only [j4,List.zipIdx_cons,au];rw [bt];refine⟨_,_,rfl,?_,mq he ks (j+1)⟩;simp only [V,Y.den,he,a8]
theorem xM {P:Program} {E:En} {w:World} {tt:TT} (bx:bV P tt) {pc:List (SB×Bool)} (F:bu E.ρ pc) {t k:Nat} {ks:List IntKind} {ix v:Z} {u ui:Value} (M:V E w.heap (.k8 k ks) u) (my:V E w.heap ix ui)
 (h:uq tt pc t k ks ix=some v): ∃r,(Instr.indexAt t u ui).run P w= .ok r w/\V E w.heap v r:=by
 unfold uq at h;split at h
 ·rename_i kd e;split at h
  ·rename_i ti cN;split at h
   ·rename_i el R;have hu:=cn (bx t ti cN) R;split at h
    ·rename_i s hs;simp only [dj,az] at hs;obtain⟨ie,eA,rfl⟩:=hs;split at h
     ·rename_i B;split at h
      ·rename_i O U;simp at h;subst h;have O:=cR F O;have U:=cR F U;rw [bN,decide_eq_false_iff_not] at O;rw [bN,decide_eq_true_eq] at U;simp only [Y.den,aak] at O U;simp only [V] at M my;subst my;rcases M with ⟨⟨x,cap,rfl⟩,h0⟩|⟨b,o,n,cap,rfl,g1,g2,g3,g4⟩
       ·omega
       ·obtain⟨i,hi⟩ : ∃i:Nat,e.den E.ρ=(i:Int):=⟨(e.den E.ρ).toNat,J⟩;have xr:i<n:=J
        refine⟨.pointer (some ⟨b,o+i*ie.size,none⟩),?_,?_⟩
        ·rw [hi];simp [Instr.indexAt,asIntOf,run_underlying hu,bT (bx el ie eA),xr,cj]
        ·simp only [V];refine⟨b,_,_,rfl,g3,mq hi ks 0,?_,?_⟩
         ·intro j u hj
          grind
         ·intro u KE;rw [aF] at KE;obtain⟨p,_,rfl⟩:=KE;rfl
      grind
     grind
    grind
   grind
  grind
 grind
def qOp (q:Bool):BinOp:=match q with
 |true=> .quo
 |false=> .rem
def CY (q:Bool) (k:IntKind) (x y:Int):Int:=match q with
 |true=>k.wrap (x.tdiv y)
 |false=>x.tmod y
theorem CX {E:En} {s s':St} {q:Bool} {k:IntKind} {e d:Y} {v:Z} (F:bu E.ρ s.pc) (h:(EE s q k e d).leaf E.ρ=some (v,s')) :
 s'.bj=s.bj/\s'.h=s.h/\bu E.ρ s'.pc/\d.den E.ρ≠0/\∀h,V E h v (.int k (CY q k (e.den E.ρ) (d.den E.ρ))):=by
 unfold EE at h;obtain⟨cl,cM,N⟩:=bH F h;rw [cW] at N;split at N
 ·grind [T.leaf]
 ·rename_i he;simp only [T.leaf,af,ag] at N;obtain⟨rfl,rfl⟩:=N;simp only [Y.den,beq_eq_false_iff_ne,ne_eq] at he;exact⟨rfl,rfl,cM,he,fun h=>by cases q<;>simp only [V,Y.den,CY]⟩
theorem zO {E:En} {h:Array Obj} {op:BinOp} {a b:Z} {q:Bool} {k:IntKind} {e d:Y} (hr:w9 op a b=some (q,k,e,d)) {u u':Value} (ha:V E h a u) (K:V E h b u') :
 op=qOp q/\u= .int k (e.den E.ρ)/\u'= .int k (d.den E.ρ):=by
 unfold w9 at hr;split at hr
 ·rename_i q' hq
  have Cu:op=qOp q':=by split at hq<;>simp only [af,reduceCtorEq] at hq<;>subst hq<;>rfl
  cases a with
  |int k1 e1=>
   cases b with
   |int k2 e2=>
    simp only at hr;split at hr
    ·simp at hr
    ·split at hr
     ·rename_i B;simp only [af,ag] at hr;obtain⟨rfl,rfl,rfl,rfl⟩:=hr;simp only [V] at ha K;exact⟨Cu,ha,by rw [K,B]⟩
     ·simp at hr
   |_=>simp at hr
  |_=>simp at hr
 ·simp at hr
theorem rS {E:En} {D6:Array Obj} {s s':St} {h:Option Z} {hh:Option Value} {v:Z} {k:Option Z->St->T (Z×St)} (F:bu E.ρ s.pc) (ho:cG E D6 h hh) (H:(tm s h k).leaf E.ρ=some (v,s')) :
 ∃cl h',bu E.ρ cl/\cG E D6 h' hh/\(k h' { s with pc:=cl }).leaf E.ρ=some (v,s'):=by
 unfold tm at H;split at H
 ·rename_i e;obtain⟨cl,cM,N⟩:=bH F H;rw [cW] at N;split at N
  ·rename_i he;simp only [Y.den,beq_iff_eq] at he;obtain⟨u,rfl,hu⟩:=ho;simp only [V] at hu;refine⟨cl,some (.int .i64 (.lit 0)),cM,?_,N⟩;exact⟨u,rfl,by simp only [V,Y.den]; rw [hu,he]⟩
  ·simp [T.leaf] at N
 ·exact⟨s.pc,_,F,ho,H⟩
def dD [bp] (P:Program) (call:bR):Prop:= ∀g,fh P g (call g)
theorem gD.next {P:Program} {o:Oper} {a:Act} {w:World} {X!:Value->World->Prop} (h:iU P X! ((execOp a.eval o).run P w)):gD P o a w X!:=by
 intro Y' Q R;unfold Oper.wp;generalize (execOp a.eval o).run P w=r at h
 cases r with
 |halt x w'=>exact h.elim
 |ok n w'=>
  cases n<;>first
   |exact h.elim
   |exact R _ _ h
   |(exact Calls.mono h fun e DR ⟨u,he,hr⟩=>by subst he; exact R _ _ hr)
theorem rv {tt:TT} {t n:Nat} {ix:Z} {e:Y} (h:zw tt t ix=some (n,e)): ∃k ti el ie,ix= .int k e/\tt t=some ti/\ti.kind= .array n el/\tt el=some ie/\ie.size=1/\ie.agg=false:=by
 unfold zw at h;split at h
 all_goals grind
section
variable {P:Program} {E:En} {w:World} {s s':St} {o:Oper} {a:Act} {v:Z}
theorem uD [bp] {tt:TT} (bx:bV P tt) (r:bq E s.h w) (F:bu E.ρ s.pc) {b:Builtin} {ts:List Nat} {args:List Z} {dg:List Value} (W:bC E w.heap args dg) (ty:Nat) (cs:Array Bool)
 (h:(kU tt s b ts args).leaf E.ρ=some (v,s')):s'.bj=s.bj/\bu E.ρ s'.pc/\∃u w',(builtin b ts.toArray ty cs dg.toArray).run P w= .ok (.value u) w'/\wM E s w v s' u w':=by
 unfold kU at h;split at h
 ·rename_i t x;obtain⟨e1,rfl⟩:=cU h;rw [bt] at W;obtain⟨u,vs,rfl,M,iA⟩:=W;rw [cZ] at iA;subst iA;obtain⟨y,O,U⟩:=BR (ty:=ty) bx r M e1;exact⟨rfl,F,y,w,by simp [builtin,O],E,ca.refl _ _ _,r,U⟩
 ·rename_i t t2 id lo n t' y;rw [bt] at W;obtain⟨u,vs,rfl,M,iA⟩:=W;rw [bt] at iA;obtain⟨u2,vs,rfl,hy,D1⟩:=iA;rw [cZ] at D1;subst D1;split at h
  ·rename_i hz;obtain⟨q1,q2,z,w',E',O,U,N,h4⟩:=wq (ty:=ty) bx r F hz M hy h;exact⟨q1,q2,z,w',by simp [builtin,O],E',U,N,h4⟩
  grind [T.leaf]
 ·rename_i t t2 x y _;rw [bt] at W;obtain⟨u,vs,rfl,M,iA⟩:=W;rw [bt] at iA;obtain⟨u2,vs,rfl,hy,D1⟩:=iA;rw [cZ] at D1;subst D1;split at h
  ·rename_i Dh;obtain⟨q1,q2,z,w',E',O,U,N,h4⟩:=uF (ty:=ty) bx r F M hy (fun hd=>by rw [hd,aaR] at Dh; exact vF M Dh) h;exact⟨q1,q2,z,w',by simp [builtin,O],E',U,N,h4⟩
  obtain⟨H,e1,rfl⟩:=gO h;obtain⟨z,w',E',O,U,N,h4⟩:=wo (ty:=ty) bx r M hy e1;exact⟨rfl,F,z,w',by simp [builtin,O],E',U,N,h4⟩
 ·rename_i t Ks m k;rw [bt] at W;obtain⟨u,vs,rfl,M,iA⟩:=W;rw [bt] at iA;obtain⟨u2,vs,rfl,hy,D1⟩:=iA;rw [cZ] at D1;subst D1;split at h
  ·rename_i id e t' jl
   obtain⟨q1,q2,rfl,w',O,U,N⟩:=Ap (ts:=Ks) bx r M hy jl h ty;exact⟨q1,by rw [q2]; exact F,.tuple #[],w',by simp [builtin,O],E,U,N,by simp only [Z.undef,V,bC]; exact⟨[],rfl,rfl⟩⟩
  obtain⟨cl,cM,h⟩:=hQ F h;obtain⟨H,e1,rfl,rfl⟩:=mb h;obtain⟨w',O,U,N⟩:=wk (ts:=Ks) bx cM r M hy e1 ty;exact⟨rfl,cM,.tuple #[],w',by simp [builtin,O],E,U,N,by simp only [Z.undef,V,bC]; exact⟨[],rfl,rfl⟩⟩
 ·rename_i t id n t';rw [bt] at W;obtain⟨u,vs,rfl,M,iA⟩:=W;rw [cZ] at iA;subst iA;obtain⟨q1,q2,rfl,w',E',O,U,N⟩:=oP (ty:=ty) bx r F (yk M) h;exact⟨q1,q2,.tuple #[],w',by simp [builtin,O],E',U,N,by simp only [Z.undef,V,bC]; exact⟨[],rfl,rfl⟩⟩
 ·rename_i t id lo n t';rw [bt] at W;obtain⟨u,vs,rfl,M,iA⟩:=W;rw [cZ] at iA;subst iA;obtain⟨q1,q2,rfl,w',E',O,U,N⟩:=oP (ty:=ty) bx r F M h;exact⟨q1,q2,.tuple #[],w',by simp [builtin,O],E',U,N,by simp only [Z.undef,V,bC]; exact⟨[],rfl,rfl⟩⟩
 ·rename_i t x _ _;obtain⟨H,e1,rfl,rfl⟩:=mb h;rw [bt] at W;obtain⟨u,vs,rfl,M,iA⟩:=W;rw [cZ] at iA;subst iA;obtain⟨w',O,U,N⟩:=xT (ty:=ty) bx r M e1;exact⟨rfl,F,.tuple #[],w',by simp [builtin,O],E,U,N,by simp only [Z.undef,V,bC]; exact⟨[],rfl,rfl⟩⟩
 ·rename_i k e xs;rw [bt] at W;obtain⟨u,vs,rfl,M,iA⟩:=W;simp only [V] at M;subst M;obtain⟨q1,q2,q3,u,q4,q5⟩:=fI (P:=P) (w:=w) F iA h;refine⟨q2,q3,u,w,?_,E,by rw [q1]; exact ca.refl _ _ _,by rw [q1]; exact r,q5⟩;simp only [ay,if_false] at q4;simp [builtin,Builtin.min_,q4]
 ·rename_i k e xs;rw [bt] at W;obtain⟨u,vs,rfl,M,iA⟩:=W;simp only [V] at M;subst M;obtain⟨q1,q2,q3,u,q4,q5⟩:=fI (P:=P) (w:=w) F iA h;refine⟨q2,q3,u,w,?_,E,by rw [q1]; exact ca.refl _ _ _,by rw [q1]; exact r,q5⟩;simp only [if_true] at q4;simp [builtin,Builtin.max_,q4]
 grind [T.leaf]
theorem Aq [bp] {tt:TT} (bx:bV P tt) {call:bR} (B:dD P call) (r:bq E s.h w) (sr:SR E w.heap s.bj a) (F:bu E.ρ s.pc) {c:Call} (ho:o.op= .call c)
 (h:(uC tt call s c).leaf E.ρ=some (v,s')):dR P E s o a w v s':=by
 unfold uC at h;split at h
 ·grind [T.leaf]
 ·rename_i args Eg;have W:=tZ sr Eg;have Hz:c.args.map a.eval=(c.args.toList.map a.eval).toArray:=uU _ _;split at h
  ·rename_i b Fy;obtain⟨q1,q2,u,w',q3,q4⟩:=uD bx r F W o.type (c.args.map fun| .const _=>true|_=>false) h;refine⟨q1,q2,gD.value ?_ q4⟩;simp only [execOp,ho,resolve,Fy,Sem.run_bind,Sem.run_pure,Result.andThen_ok,invoke,Hz];exact q3
  ·rename_i f Fy;split at h
   ·rename_i g fs cs hf;have KT:=cH sr hf;simp only [V] at KT;obtain⟨us,ws,he,O,U⟩:=KT;obtain⟨q1,q2,q3⟩:=B g _ s E w _ v s' r ((O.append W).append U) F h;refine⟨q1,q2,gD.next ?_⟩;unfold gy at q3;simp only [execOp,ho,resolve,Fy,Sem.run_bind,he,Deferred.ofValue,Sem.run_pure,Result.andThen_ok,invoke,Hz]
    grind
   grind [T.leaf]
  grind [T.leaf]
theorem Cg [bp] {α:Type} {E:En} {h:Array Obj} {v:Z} {u:Value} {s:St} {k:Z->St->T α} {r:α} (F:bu E.ρ s.pc) (W:V E h v u) (I:(Ch v s k).leaf E.ρ=some r) :
 ∃v' cl,bu E.ρ cl/\V E h v' u/\(k v' { s with pc:=cl }).leaf E.ρ=some r:=by
 unfold Ch at I;split at I
 ·split at I
  ·exact⟨_,s.pc,F,W,I⟩
  ·obtain⟨ea,dE,O⟩:=bH F I;refine⟨_,ea,dE,?_,O⟩;simp only [V,SB.den] at *;exact W
 ·exact⟨_,s.pc,F,W,I⟩
theorem zf [bp] {tt:TT} (bx:bV P tt) {call:bR} (B:dD P call) (r:bq E s.h w) (sr:SR E w.heap s.bj a) (F:bu E.ρ s.pc) (h:(uh tt call s o.op).leaf E.ρ=some (v,s')):dR P E s o a w v s':=by
 obtain⟨dst,op,type,pos,after,guard⟩:=o;simp only at h;cases op<;>simp only [uh] at h<;>first |(simp [T.leaf] at h; done)|skip
 case move x=>
  obtain⟨u,O,U⟩:=cP sr h;have:=bh U;simp only [ag] at this;obtain⟨rfl,rfl⟩:=this;exact dR.pure F r (u:=a.eval x) rfl O
 case assign x=>
  obtain⟨u,O,U⟩:=cP sr h;have:=bh U;simp only [ag] at this;obtain⟨rfl,rfl⟩:=this;exact dR.pure F r (u:=a.eval x) rfl O
 case pick c x y=>
  obtain⟨cv,O,U⟩:=cP sr h;split at U
  ·rename_i cb;obtain⟨cl,cM,N⟩:=bH F U;simp only [V] at O;cases IG:cb.den E.ρ<;>rw [IG] at O N
   ·simp only [ay,if_false] at N;obtain⟨u,h4,h5⟩:=cP (s:={ s with pc:=cl }) sr N;have:=bh h5;simp only [ag] at this;obtain⟨rfl,rfl⟩:=this;exact⟨rfl,cM,gD.value (u:=a.eval y) (by simp [execOp,O,asBool]) ⟨E,ca.refl _ _ _,r,h4⟩⟩
   ·simp only [if_true] at N;obtain⟨u,h4,h5⟩:=cP (s:={ s with pc:=cl }) sr N;have:=bh h5;simp only [ag] at this;obtain⟨rfl,rfl⟩:=this;exact⟨rfl,cM,gD.value (u:=a.eval x) (by simp [execOp,O,asBool]) ⟨E,ca.refl _ _ _,r,h4⟩⟩
  ·simp [T.leaf] at U
 case alloc t=>
  split at h
  ·rename_i i hi;have:=bh h;simp only [ag] at this;obtain⟨rfl,rfl⟩:=this;obtain⟨inf,z,g1,g2,g3,g4,g5⟩:=kN (bx t i hi);have hz:=b9 (E:=E) (h:=w.heap) g5;obtain⟨s1,s2⟩:=du r z.cells 0 0 t hz.1 hz.2 (fun i u hu=>by rw [<- aK]; exact hu) J (w':={ w with heap:=w.heap.push (.cells z.cells t) }) rfl ⟨rfl,rfl,rfl⟩;exact dR.heap F (u:=.pointer (some ⟨w.heap.size,0,none⟩)) (by simp [execOp,Instr.alloc,zeroValue,typeInfo,g1,g4,newVar,newRow]) s1 s2 (me r _ _ 0)
  ·simp [T.leaf] at h
 case box t x=>
  obtain⟨u,O,U⟩:=cP sr h;split at U
  ·rename_i mr;have:=bh U;simp only [ag] at this;obtain⟨rfl,rfl⟩:=this;have wP:=O.cells mr;obtain⟨s1,s2⟩:=du r (a.eval x).cells 0 0 t wP (wP.iJ mr) (fun i u hu=>by rw [<- aK]; exact hu) J (w':={ w with heap:=w.heap.push (.cells (a.eval x).cells t) }) rfl ⟨rfl,rfl,rfl⟩;exact dR.heap F (u:=.pointer (some ⟨w.heap.size,0,none⟩)) (by simp [execOp,Instr.box,newVar,newRow]) s1 s2 (me r _ _ 0)
  ·simp [T.leaf] at U
 case build t parts=>
  split at h
  ·rename_i ps Jq;obtain⟨e1,rfl⟩:=cU h;have Jr:=lL sr Jq;obtain⟨x,O,U⟩:=xV (w:=w) (ps:=parts.map fun p=>(p.1,a.eval p.2)) bx (by simpa using Jr) e1;exact dR.pure F r (u:=x) (by simp [execOp,O]) U
  ·simp [T.leaf] at h
 case buildSlice t len parts=>
  split at h
  ·rename_i ps Jq;obtain⟨H,e1,rfl⟩:=gO h;have Jr:=lL sr Jq;obtain⟨x,w',E',O,U,N,h4⟩:=o5 (ps:=parts.map fun p=>(p.1,a.eval p.2)) bx r (by simpa using Jr) e1;exact dR.heap F (u:=x) (by simp [execOp,O]) U N h4
  ·simp [T.leaf] at h
 case makeSlice t l c=>
  obtain⟨u,O,U⟩:=cP sr h;split at U
  ·rename_i cv B;split at U
   ·rename_i q hq;obtain⟨H,e1,rfl⟩:=gO U;simp only [af] at e1;subst e1;obtain⟨x,w',E',g1,g2,g3,g4⟩:=kq bx r O (cH sr B) hq;exact dR.heap F (u:=x) (by simp [execOp,g1]) g2 g3 g4
   ·obtain⟨q1,q2,x,w',E',g1,g2,g3,g4⟩:=xI bx r F O (cH sr B) U;exact⟨q1,q2,gD.value (by simp [execOp,g1]) ⟨E',g2,g3,g4⟩⟩
  ·simp [T.leaf] at U
 case insert t m k x=>
  obtain⟨u,O,U⟩:=cP sr h;split at U
  ·rename_i kv xv R M;split at U
   ·obtain⟨q1,q2,rfl,w',E',g1,g2,g3⟩:=sZ (P:=P) bx r F O (cH sr R) (cH sr M) U;exact⟨q1,q2,gD.skip (by simp [execOp,g1]) ⟨E',g2,g3,dY⟩⟩
   split at U
   ·rename_i jl
    obtain⟨q1,q2,rfl,w',g1,g2,g3⟩:=oO (P:=P) bx r F O (cH sr R) (cH sr M) jl U;exact⟨q1,q2,gD.skip (by simp [execOp,g1]) ⟨E,g2,g3,dY⟩⟩
   obtain⟨cl,cM,U⟩:=hQ F U;obtain⟨H,e1,rfl,rfl⟩:=mb U;obtain⟨w',g1,g2,g3⟩:=kj bx cM r O (cH sr R) (cH sr M) e1;exact⟨rfl,cM,gD.skip (by simp [execOp,g1]) ⟨E,g2,g3,dY⟩⟩
  ·simp [T.leaf] at U
 case load t x=>
  obtain⟨u,O,U⟩:=cP sr h;split at U
  ·obtain⟨q1,q2,q3,y,b,off,g1,g2,g3⟩:=xL bx r F O U;exact⟨q1,q3,gD.value (u:=y) (by simp [execOp,Instr.loadAt,g1,Instr.sureAddr,g2]) ⟨E,by rw [q2]; exact ca.refl _ _ _,by rw [q2]; exact r,g3⟩⟩
  obtain⟨e1,rfl⟩:=cU U;obtain⟨y,b,off,g1,g2,g3⟩:=n7 bx r O e1;exact dR.pure F r (u:=y) (by simp [execOp,Instr.loadAt,g1,Instr.sureAddr,g2]) g3
 case store t x y=>
  obtain⟨u,O,U⟩:=cP sr h;split at U
  ·rename_i yv hy;obtain⟨Mw,cl,cM,xm,U⟩:=Cg F (cH sr hy) U;split at U
   ·obtain⟨q1,q2,rfl,w',E',g1,g2,g3⟩:=wc bx (s:={ s with pc:=cl }) r cM O xm U;exact⟨q1,q2,gD.skip (by simp [execOp,g1]) ⟨E',g2,g3,dY⟩⟩
   obtain⟨H,e1,rfl,rfl⟩:=mb U;obtain⟨w',g1,g2,g3⟩:=xE bx r O xm e1;exact⟨rfl,cM,gD.skip (by simp [execOp,g1]) ⟨E,g2,g3,dY⟩⟩
  ·simp [T.leaf] at U
 case nilCheck x=>
  obtain⟨u,O,U⟩:=cP sr h;split at U
  ·have:=bh U;simp only [ag] at this;obtain⟨rfl,rfl⟩:=this;have Cw:=O;simp only [V] at O;exact dR.pure F r (u:=a.eval x) (by simp [execOp,O.1]) Cw
  ·have:=bh U;simp only [ag] at this;obtain⟨rfl,rfl⟩:=this;have Cw:=O;simp only [V] at O;obtain⟨b,off,us,hu,_⟩:=O;exact dR.pure F r (u:=a.eval x) (by simp [execOp,hu]) Cw
  ·have:=bh U;simp only [ag] at this;obtain⟨rfl,rfl⟩:=this;have Cw:=O;simp only [V] at O;obtain⟨_,k,_,hu⟩:=O;exact dR.pure F r (u:=a.eval x) (by simp [execOp,hu]) Cw
  ·simp [T.leaf] at U
 case binOp MV t x y yt=>
  obtain⟨u,O,U⟩:=cP sr h;split at U
  ·rename_i yv hy;have xm:=cH sr hy;split at U
   ·rename_i xs;simp only [V] at O;obtain⟨us,vI,O⟩:=O;split at U
    ·rename_i ys;simp only [V] at xm;obtain⟨vs,wO,xm⟩:=xm;split at U
     ·rename_i c AF;have:=bh U;simp only [ag] at this;obtain⟨rfl,rfl⟩:=this;obtain⟨g1,g2,g3⟩:=qW (w:=w) bx O xm AF .eql x y;exact dR.pure F r (u:=.bool (c.den E.ρ)) (by simp [execOp,vI,wO,g1,g2]) (by simp only [V])
     ·simp [T.leaf] at U
    ·rename_i ys;simp only [V] at xm;obtain⟨vs,wO,xm⟩:=xm;split at U
     ·rename_i c AF;have:=bh U;simp only [ag] at this;obtain⟨rfl,rfl⟩:=this;obtain⟨g1,g2,g3⟩:=qW (w:=w) bx O xm AF .neq x y;exact dR.pure F r (u:=.bool (!(c.den E.ρ))) (by simp [execOp,vI,wO,g1,g3]) (by simp only [V,fC])
     ·simp [T.leaf] at U
    ·simp [T.leaf] at U
   ·split at U
    ·rename_i e LQ;obtain⟨q1,q2,q3,y',g1,g2,g3,g4⟩:=Da (P:=P) (w:=w) bx LQ O xm F U;exact⟨q1,q3,gD.value (u:=y') (by simp [execOp,kx (P:=P) (w:=w) g3 g4,g1]) ⟨E,by rw [q2]; exact ca.refl _ _ _,by rw [q2]; exact r,g2⟩⟩
    split at U
    ·rename_i qq k e d Jo;obtain⟨rfl,xn,yZ⟩:=zO Jo O xm;obtain⟨q1,q2,q3,dV,q4⟩:=CX F U;refine⟨q1,q3,gD.value (u:=.int k (CY qq k (e.den E.ρ) (d.den E.ρ))) (w':=w) ?_ ⟨E,by rw [q2]; exact ca.refl _ _ _,by rw [q2]; exact r,q4 _⟩⟩;cases qq<;>simp [execOp,xn,yZ,binOp,Op.intDiv,dV,eqGuard,CY,qOp]
    split at U
    ·rename_i x' y' Hl;obtain⟨q1,q2,q3,⟨K8,g1,g2⟩,g3,g4⟩:=Aj (P:=P) (w:=w) (t:=t) F O xm Hl U;exact⟨q1,q3,gD.value (u:=K8) (by simp [execOp,kx (P:=P) (w:=w) g3 g4,g1]) ⟨E,by rw [q2]; exact ca.refl _ _ _,by rw [q2]; exact r,g2⟩⟩
    ·obtain⟨e1,rfl⟩:=cU U;obtain⟨⟨y',g1,g2⟩,g3,g4⟩:=BT (w:=w) bx O xm e1;exact dR.pure F r (u:=y') (by simp [execOp,kx (P:=P) (w:=w) g3 g4,g1]) g2
  ·simp [T.leaf] at U
 case unOp Mz t x=>
  obtain⟨u,O,U⟩:=cP sr h;obtain⟨e1,rfl⟩:=cU U;obtain⟨y,g1,g2⟩:=Dy (P:=P) (w:=w) O e1;exact dR.pure F r (u:=y) (by simp [execOp,g1]) g2
 case convert sT dT x=>
  obtain⟨u,O,U⟩:=cP sr h;split at U
  ·obtain⟨q1,q2,y,w',E',g1,g2,g3,g4⟩:=xU (P:=P) bx r F O U;exact⟨q1,q2,gD.value (u:=y) (by simp [execOp,g1]) ⟨E',g2,g3,g4⟩⟩
  obtain⟨H,e1,rfl⟩:=gO U;obtain⟨y,w',E',g1,g2,g3,g4⟩:=mO bx r O e1;exact dR.heap F (u:=y) (by simp [execOp,g1]) g2 g3 g4
 case makeFunc fn fs cs=>
  split at h
  ·rename_i f c hf Fw;have:=bh h;simp only [ag] at this;obtain⟨rfl,rfl⟩:=this;have O:=tZ sr hf;have U:=tZ sr Fw;refine dR.pure F r (u:=.func fn (fs.map a.eval) (cs.map a.eval)) (by simp [execOp,Instr.makeFunc]) ?_;simp only [V];have m1:fs.map a.eval=(fs.toList.map a.eval).toArray:=uU _ _;have m2:cs.map a.eval=(cs.toList.map a.eval).toArray:=uU _ _;exact⟨_,_,by rw [m1,m2],O,U⟩
  ·simp [T.leaf] at h
 case makeMap t res=>
  split at h
  ·split at h
   ·rename_i m hm;split at h
    ·have:=bh h;simp only [ag] at this;obtain⟨rfl,rfl⟩:=this
     obtain⟨s1,s2⟩:=gT r (.map #[] 0) (.kg (.cE (.i 0)) (m-100) (BQ tt t) []) 0 (w':={ w with heap:=w.heap.push (.map #[] 0) }) rfl ⟨rfl,rfl,rfl⟩ (by
      simp only [OR,En.ext_θ_new]
      exact⟨⟨by simp [Y.den,bn,D.l],ad,ad⟩,#[],0,ad,by simp [cw,Y.den,bn,D.l]⟩)
     exact dR.heap F (u:=.map (some w.heap.size)) (by simp [execOp,Instr.makeMap]) s1 s2 (by simp only [V,En.ext_θ_new]; exact⟨trivial,En.cQ _ _ _ _⟩)
    have:=bh h;simp only [ag] at this;obtain⟨rfl,rfl⟩:=this
    obtain⟨s1,s2⟩:=gT r (.map #[] 0) (.ey (.cE (.i 0)) m) 0 (w':={ w with heap:=w.heap.push (.map #[] 0) }) rfl ⟨rfl,rfl,rfl⟩ (by
     simp only [OR,En.ext_θ_new]
     exact⟨#[],0,ad,by simp [ek,Y.den,bn,D.l]⟩)
    exact dR.heap F (u:=.map (some w.heap.size)) (by simp [execOp,Instr.makeMap]) s1 s2 (by simp only [V,En.ext_θ_new]; exact⟨trivial,En.cQ _ _ _ _⟩)
   have:=bh h;simp only [ag] at this;obtain⟨rfl,rfl⟩:=this
   obtain⟨s1,s2⟩:=gT r (.map #[] 0) (.map [] 1) 0 (w':={ w with heap:=w.heap.push (.map #[] 0) }) rfl ⟨rfl,rfl,rfl⟩ (by
    simp only [OR,En.ext_θ_new]
    exact⟨#[],0,ad,by simp [bY],rfl,rfl⟩)
   exact dR.heap F (u:=.map (some w.heap.size)) (by simp [execOp,Instr.makeMap]) s1 s2 (by simp only [V,En.ext_θ_new]; exact⟨trivial,En.cQ _ _ _ _⟩)
  ·simp [T.leaf] at h
 case slice t x lo hi mx=>
  obtain⟨u,O,U⟩:=cP sr h;split at U
  ·rename_i l hh m I Dp hm;split at U
   ·obtain⟨q1,q2,q3,y,g1,g2⟩:=xR (w:=w) bx F O (bU sr I) (bU sr Dp) (bU sr hm) U;exact⟨q1,q3,gD.value (u:=y) (by simp [execOp,g1]) ⟨E,by rw [q2]; exact ca.refl _ _ _,by rw [q2]; exact r,g2⟩⟩
   ·obtain⟨q1,q2,q3,y,g1,g2⟩:=qN bx r F (yk O) (bU sr I) (bU sr Dp) (bU sr hm) U;exact⟨q1,q3,gD.value (u:=y) (by simp [execOp,g1]) ⟨E,by rw [q2]; exact ca.refl _ _ _,by rw [q2]; exact r,g2⟩⟩
   ·obtain⟨q1,q2,q3,y,g1,g2⟩:=qN bx r F O (bU sr I) (bU sr Dp) (bU sr hm) U;exact⟨q1,q3,gD.value (u:=y) (by simp [execOp,g1]) ⟨E,by rw [q2]; exact ca.refl _ _ _,by rw [q2]; exact r,g2⟩⟩
   ·obtain⟨q1,q2,q3,y,g1,g2⟩:=xB (w:=w) bx F O (bU sr I) (bU sr Dp) (bU sr hm) U;exact⟨q1,q3,gD.value (u:=y) (by simp [execOp,g1]) ⟨E,by rw [q2]; exact ca.refl _ _ _,by rw [q2]; exact r,g2⟩⟩
   ·obtain⟨q1,q2,q3,y,g1,g2⟩:=xO (w:=w) bx F O (bU sr I) (bU sr Dp) (bU sr hm) U;exact⟨q1,q3,gD.value (u:=y) (by simp [execOp,g1]) ⟨E,by rw [q2]; exact ca.refl _ _ _,by rw [q2]; exact r,g2⟩⟩
   ·obtain⟨cl,h',cM,o4,N⟩:=rS F (bU sr Dp) U;obtain⟨e1,rfl⟩:=cU N;obtain⟨y,g1,g2⟩:=lK (w:=w) bx O (bU sr I) o4 (bU sr hm) e1;exact⟨rfl,cM,gD.value (u:=y) (by simp [execOp,g1]) ⟨E,ca.refl _ _ _,r,g2⟩⟩
   ·obtain⟨cl,h',cM,o4,N⟩:=rS F (bU sr Dp) U;obtain⟨e1,rfl⟩:=cU N;obtain⟨y,g1,g2⟩:=lK (w:=w) bx O (bU sr I) o4 (bU sr hm) e1;exact⟨rfl,cM,gD.value (u:=y) (by simp [execOp,g1]) ⟨E,ca.refl _ _ _,r,g2⟩⟩
   split at U
   ·rename_i v' e1;have:=bh U;simp only [ag] at this;obtain⟨rfl,rfl⟩:=this;obtain⟨y,g1,g2⟩:=lK (w:=w) bx O (bU sr I) (bU sr Dp) (bU sr hm) e1;exact dR.pure F r (u:=y) (by simp [execOp,g1]) g2
   ·obtain⟨e1,rfl⟩:=cU U;obtain⟨y,g1,g2⟩:=we (w:=w) bx r O (bU sr I) (bU sr Dp) (bU sr hm) e1;exact dR.pure F r (u:=y) (by simp [execOp,g1]) g2
  ·simp [T.leaf] at U
 case fieldAddr t x f=>
  obtain⟨u,O,U⟩:=cP sr h;obtain⟨e1,rfl⟩:=cU U;obtain⟨y,g1,g2⟩:=qV (w:=w) bx O e1;exact dR.pure F r (u:=y) (by simp [execOp,g1]) g2
 case field t x f=>
  obtain⟨u,O,U⟩:=cP sr h;obtain⟨e1,rfl⟩:=cU U;obtain⟨y,g1,g2⟩:=xN (w:=w) bx O e1;exact dR.pure F r (u:=y) (by simp [execOp,g1]) g2
 case indexAddr t x i=>
  obtain⟨u,O,U⟩:=cP sr h;split at U
  ·rename_i iv hi;split at U
   ·obtain⟨e1,rfl⟩:=cU U;obtain⟨y,g1,g2⟩:=xM (w:=w) bx F O (cH sr hi) e1;exact dR.pure F r (u:=y) (by simp [execOp,g1]) g2
   ·obtain⟨q1,q2,q3,y,g1,g2⟩:=xS (w:=w) bx F O (cH sr hi) U;exact⟨q1,q3,gD.value (u:=y) (by simp [execOp,g1]) ⟨E,by rw [q2]; exact ca.refl _ _ _,by rw [q2]; exact r,g2⟩⟩
   ·obtain⟨q1,q2,q3,y,g1,g2⟩:=xA (w:=w) bx F O (cH sr hi) U;exact⟨q1,q3,gD.value (u:=y) (by simp [execOp,g1]) ⟨E,by rw [q2]; exact ca.refl _ _ _,by rw [q2]; exact r,g2⟩⟩
   ·obtain⟨q1,q2,q3,y,g1,g2⟩:=xz (w:=w) bx F O (cH sr hi) U;exact⟨q1,q3,gD.value (u:=y) (by simp [execOp,g1]) ⟨E,by rw [q2]; exact ca.refl _ _ _,by rw [q2]; exact r,g2⟩⟩
   ·rename_i pid po;split at U
    ·rename_i n e K;split at U
     ·rename_i ho;subst ho;obtain⟨kd,ti,el,ie,rfl,b1,b2,b3,b4,b5⟩:=rv K;obtain⟨cl,cM,t1,t2,N⟩:=fM F U;have:=bh N;simp only [ag] at this;obtain⟨rfl,rfl⟩:=this;have Fs:=cH sr hi;simp only [V] at Fs;simp only [Y.den] at t2;obtain⟨k,R⟩ : ∃k:Nat,e.den E.ρ=(k:Int):=⟨(e.den E.ρ).toNat,J⟩;have c6:k<n:=by simp at t2; omega
      rw [R] at Fs
      obtain⟨y,g1,g2⟩:=gW (P:=P) (w:=w) bx (t:=t) (ix:=.int kd (.lit (Int.ofNat k))) O (by simp only [V,Y.den]; exact Fs) (v:=.ptr pid (0+k*ie.size)) (by
       unfold gf;simp only [ec,b1,b2,dj,b3,aR];rw [ak c6]
       rfl)
      refine⟨rfl,cM,gD.value (u:=y) (by simp [execOp,g1]) ⟨E,ca.refl _ _ _,r,?_⟩⟩;simp only [V] at g2 ⊢;exact⟨g2.2,k,R,by rw [g2.1,b4]; congr 3; omega⟩
     ·simp [T.leaf] at U
    ·obtain⟨F5,cl,cM,my,U⟩:=nd F (cH sr hi) U;obtain⟨e1,rfl⟩:=cU U;obtain⟨y,g1,g2⟩:=gW (w:=w) bx O my e1;exact⟨rfl,cM,gD.value (u:=y) (by simp [execOp,g1]) ⟨E,ca.refl _ _ _,r,g2⟩⟩
   ·obtain⟨F5,cl,cM,my,U⟩:=nd F (cH sr hi) U;obtain⟨e1,rfl⟩:=cU U;obtain⟨y,g1,g2⟩:=gW (w:=w) bx O my e1;exact⟨rfl,cM,gD.value (u:=y) (by simp [execOp,g1]) ⟨E,ca.refl _ _ _,r,g2⟩⟩
  ·simp [T.leaf] at U
 case index t x i=>
  obtain⟨u,O,U⟩:=cP sr h;split at U
  ·rename_i iv hi;split at U
   ·obtain⟨q1,q2,q3,y,g1,g2⟩:=xC (w:=w) bx F O (cH sr hi) U;exact⟨q1,q3,gD.value (u:=y) (by simp [execOp,g1]) ⟨E,by rw [q2]; exact ca.refl _ _ _,by rw [q2]; exact r,g2⟩⟩
   ·rename_i cs;split at U
    ·rename_i n e K;split at U
     ·rename_i hn;have hn:=aq hn;obtain⟨kd,ti,el,ie,rfl,b1,b2,b3,b4,b5⟩:=rv K;obtain⟨q1,q2,q3,k,kk,z,x',c1,c2,c3,rfl,c5⟩:=v8 F U;have Fs:=cH sr hi;simp only [V] at Fs;rw [c1] at Fs;obtain⟨l,hd⟩:=od c3
      obtain⟨y,g1,g2⟩:=lM (P:=P) (w:=w) bx (t:=t) (ix:=.int kd (.lit (Int.ofNat k))) O (by simp only [V,Y.den]; exact Fs) (v:=.int kk (.lit z)) (by
       unfold mM;simp only [ec,b1,b2,b3];rw [ak J,b4,aaU,hd]
       simp [partOf,b5])
      refine⟨q1,q3,gD.value (u:=y) (w':=w) (by simp [execOp,g1]) ⟨E,by rw [q2]; exact ca.refl _ _ _,by rw [q2]; exact r,?_⟩⟩;simp only [V,Y.den] at g2 ⊢;rw [g2,c5]
     ·simp [T.leaf] at U
    ·obtain⟨F5,cl,cM,my,U⟩:=nd F (cH sr hi) U;obtain⟨e1,rfl⟩:=cU U;obtain⟨y,g1,g2⟩:=lM (w:=w) bx O my e1;exact⟨rfl,cM,gD.value (u:=y) (by simp [execOp,g1]) ⟨E,ca.refl _ _ _,r,g2⟩⟩
   obtain⟨F5,cl,cM,my,U⟩:=nd F (cH sr hi) U;obtain⟨e1,rfl⟩:=cU U;obtain⟨y,g1,g2⟩:=lM (w:=w) bx O my e1;exact⟨rfl,cM,gD.value (u:=y) (by simp [execOp,g1]) ⟨E,ca.refl _ _ _,r,g2⟩⟩
  ·simp [T.leaf] at U
 case lookup t m k ok=>
  obtain⟨u,O,U⟩:=cP sr h;split at U
  ·rename_i kv R;split at U
   ·rename_i id e t' jl
    obtain⟨q1,q2,q3,y,g1,g2⟩:=xK (P:=P) bx r F O (cH sr R) jl U;exact⟨q1,q3,gD.value (u:=y) (by simp [execOp,g1]) ⟨E,by rw [q2]; exact ca.refl _ _ _,by rw [q2]; exact r,g2⟩⟩
   split at U
   ·rename_i jl
    obtain⟨q1,q2,q3,y,g1,g2⟩:=xJ (P:=P) bx r F O (cH sr R) jl U;exact⟨q1,q3,gD.value (u:=y) (by simp [execOp,g1]) ⟨E,by rw [q2]; exact ca.refl _ _ _,by rw [q2]; exact r,g2⟩⟩
   obtain⟨cl,cM,U⟩:=hQ F U;obtain⟨e1,rfl⟩:=cU U;obtain⟨y,g1,g2⟩:=wj bx cM r O (cH sr R) e1;exact⟨rfl,cM,gD.value (u:=y) (by simp [execOp,g1]) ⟨E,ca.refl _ _ _,r,g2⟩⟩
  ·simp [T.leaf] at U
 case mapUpdate t m k x=>
  obtain⟨u,O,U⟩:=cP sr h;split at U
  ·rename_i kv xv R M;split at U
   ·obtain⟨q1,q2,rfl,w',E',g1,g2,g3⟩:=sZ (P:=P) bx r F O (cH sr R) (cH sr M) U;exact⟨q1,q2,gD.skip (by simp [execOp,g1]) ⟨E',g2,g3,dY⟩⟩
   split at U
   ·rename_i jl
    obtain⟨q1,q2,rfl,w',g1,g2,g3⟩:=oO (P:=P) bx r F O (cH sr R) (cH sr M) jl U;exact⟨q1,q2,gD.skip (by simp [execOp,g1]) ⟨E,g2,g3,dY⟩⟩
   obtain⟨cl,cM,U⟩:=hQ F U;obtain⟨H,e1,rfl,rfl⟩:=mb U;obtain⟨w',g1,g2,g3⟩:=kj bx cM r O (cH sr R) (cH sr M) e1;exact⟨rfl,cM,gD.skip (by simp [execOp,g1]) ⟨E,g2,g3,dY⟩⟩
  ·simp [T.leaf] at U
 case range t x=>
  obtain⟨u,O,U⟩:=cP sr h;obtain⟨H,e1,rfl⟩:=gO U;obtain⟨y,w',E',g1,g2,g3,g4⟩:=xF bx r O e1;exact dR.heap F (u:=y) (by simp [execOp,g1]) g2 g3 g4
 case next x EU=>
  obtain⟨u,O,U⟩:=cP sr h;obtain⟨H,e1,rfl⟩:=gO U;obtain⟨y,w',g1,g2,g3,g4⟩:=Al (P:=P) r O e1 type;exact dR.heap F (u:=y) (by simp [execOp,g1]) g2 g3 g4
 case entry x=>
  obtain⟨u,O,U⟩:=cP sr h;obtain⟨e1,rfl⟩:=cU U;obtain⟨y,g1,g2⟩:=xP (P:=P) r O e1;exact dR.pure F r (u:=y) (by simp [execOp,g1]) g2
 case extract x i=>
  obtain⟨u,O,U⟩:=cP sr h;split at U
  ·rename_i vs;obtain⟨e1,rfl⟩:=cU U;simp only [V] at O;obtain⟨us,vI,O⟩:=O;obtain⟨y,g1,g2⟩:=O.nth e1;exact dR.pure F r (u:=y) (by simp [execOp,Instr.extract,vI,g1]) g2
  ·simp [T.leaf] at U
 case call c=>exact Aq bx B r sr F rfl h
end
section
variable {P:Program}
structure Fit [bp] (E:En) (s:St) (a:Act) (w:World):Prop where
 rel:bq E s.h w
 sr:SR E w.heap s.bj a
 pc:bu E.ρ s.pc
structure fB [bp] (E:En) (s:St) (a:Act) (w:World) (s':St) (a':Act) (w':World):Prop where
 defers:a'.defers=a.defers
 size:a'.tmps.size=a.tmps.size
 step: ∃E',ca E s.h w E' s'.h w'/\Fit E' s' a' w'
theorem fB.refl [bp] {E:En} {s:St} {a:Act} {w:World} (f:Fit E s a w):fB E s a w s a w:=⟨rfl,rfl,E,ca.refl _ _ _,f⟩
theorem SR.bw {E E':En} {h h':Array Obj} (k:c9 E h E' h') {bj:Tr Z} {a:Act} (sr:SR E h bj a):SR E' h' bj a:=by intro t v ht;obtain⟨u,O,U⟩:=sr t v ht;exact⟨u,O,V.bw k v u U⟩
theorem SR.put {E:En} {h:Array Obj} {bj:Tr Z} {a:Act} (sr:SR E h bj a) {d:Nat} {v:Z} {u:Value} (hd:d<a.tmps.size) (W:V E h v u):SR E h (bj.put d (some v)) (a.put (some d) u):=by
 intro t x ht;rw [Tr.br] at ht;simp only [Act.put];split at ht
 ·rename_i e
  grind
 ·rename_i e;obtain⟨y,O,U⟩:=sr t x ht
  grind
theorem SR.IP {E:En} {h:Array Obj} {s:St} {a:Act} (sr:SR E h s.bj a) {d:Option Nat} {v:Z} {u:Value} (hd: ∀t,d=some t->t<a.tmps.size) (W:V E h v u):SR E h (s.vg d v).bj (a.put d u):=by
 cases d with
 |none=>exact sr
 |some t=>exact sr.put (hd t rfl) W
theorem pZ (a:Act) (d:Option Nat) (u:Value):(a.put d u).tmps.size=a.tmps.size:=by cases d<;>simp [Act.put]
theorem put_defers (a:Act) (d:Option Nat) (u:Value):(a.put d u).defers=a.defers:=by cases d<;>rfl
theorem AY (s:St) (d:Option Nat) (v:Z):(s.vg d v).h=s.h:=by cases d<;>rfl
theorem CP (s:St) (d:Option Nat) (v:Z):(s.vg d v).pc=s.pc:=by cases d<;>rfl
theorem sS [bp] {E:En} {s s':St} {a:Act} {w w':World} {v:Z} {u:Value} {d:Option Nat} (f:Fit E s a w) (hs:s'.bj=s.bj) (F:bu E.ρ s'.pc) (h:wM E s w v s' u w') (hd: ∀t,d=some t->t<a.tmps.size) :
 fB E s a w (s'.vg d v) (a.put d u) w':=by
 obtain⟨E',O,U,N⟩:=h;refine⟨put_defers _ _ _,pZ _ _ _,E',by rw [AY]; exact O,⟨by rw [AY]; exact U,?_,by rw [CP,O.ρ]; exact F⟩⟩;refine SR.IP ?_ hd N;rw [hs];exact f.sr.bw (O.keeps f.rel)
theorem fB.trans [bp] {E:En} {s s1 s2:St} {a a1 a2:Act} {w w1 w2:World} (O:fB E s a w s1 a1 w1) (U: ∀E1,ca E s.h w E1 s1.h w1->Fit E1 s1 a1 w1->fB E1 s1 a1 w1 s2 a2 w2):fB E s a w s2 a2 w2:=by obtain⟨d1,z1,E1,pO,f1⟩:=O;obtain⟨d2,z2,E2,zG,f2⟩:=U E1 pO f1;exact⟨d2.trans d1,z2.trans z1,E2,pO.trans zG,f2⟩
theorem qe [bp] {α:Type} {E:En} {w:World} {s:St} {a:Act} {ops:Array Oper} {o:Oper} {f:St->Bool->T α} {r:α} (fit:Fit E s a w) (h:(kK ops.toList s o f).leaf E.ρ=some r) :
 ∃cl,bu E.ρ cl/\(f { s with pc:=cl } (Region.wanted o (yielded ops a.tmps))).leaf E.ρ=some r:=by
 unfold kK at h;unfold Region.wanted;split at h
 ·rename_i hg;rw [hg];exact⟨s.pc,fit.pc,h⟩
 ·rename_i j want hg;rw [hg];split at h
  ·rename_i oj hj;rw [cI,aK] at hj;split at h
   ·rename_i d hd;split at h
    ·rename_i c B;obtain⟨u,O,U⟩:=fit.sr d _ B;simp only [V] at U;subst U;obtain⟨cl,cM,N⟩:=bH fit.pc h;refine⟨cl,cM,?_⟩;have:yielded ops a.tmps j=some (c.den E.ρ):=by simp [yielded,hj,hd,O]
     simp only [this];simpa using N
    ·rename_i vs B;obtain⟨u,O,U⟩:=fit.sr d _ B;simp only [V] at U;obtain⟨us,rfl,_⟩:=U;refine⟨s.pc,fit.pc,?_⟩;have:yielded ops a.tmps j=none:=by simp [yielded,hj,hd,O]
     simp only [this];simpa using h
    ·simp [T.leaf] at h
   ·simp [T.leaf] at h
  ·simp [T.leaf] at h
def FQ (n:Nat) (ops:List Oper):Bool:=ops.all fun o=>match o.dst with |some d=>d<n|none=>true
theorem qS [bp] {tt:TT} (bx:bV P tt) {call:bR} (B:dD P call) {ops:Array Oper} {Q:Exit->Act->World->Prop}: ∀(rest:List Oper) (i:Nat) {E:En} {s s':St} {a:Act} {w:World},ops.toList.drop i=rest->
 (∀o∈rest,∀d,o.dst=some d->d<a.tmps.size)->Fit E s a w->(wi tt call ops.toList rest s).leaf E.ρ=some s'->
 (∀a' w',fB E s a w s' a' w'->Q .normal a' w')->wpOps P ops Q (List.range' i rest.length) a w
 |[],i,E,s,s',a,w,_,_,fit,h,hq=>by have:=bh h;subst this;exact hq a w (fB.refl fit)
 |o::rest,i,E,s,s',a,w,hi,hd,fit,h,hq=>by
  simp only [wi] at h;obtain⟨cl,cM,O⟩:=qe fit h
  have Fi:ops[i]?=some o:=by
   have:=congrArg (·[0]?) hi
   grind
  have D5:ops.toList.drop (i+1)=rest:=by have:=congrArg List.tail hi;simpa using this
  have Ai:Fit E { s with pc:=cl } a w:=⟨fit.rel,fit.sr,cM⟩;simp only [aA,List.range'_succ];show wpOps P ops Q (i::List.range' (i+1) rest.length) a w;simp only [wpOps,Fi];cases hw:Region.wanted o (yielded ops a.tmps)<;>rw [hw] at O
  ·simp only [ay,if_false] at O ⊢
   have oI:fB E s a w (St.vg { s with pc:=cl } o.dst Z.undef) (a.put o.dst undef) w:=
    sS (s':={ s with pc:=cl }) fit rfl cM ⟨E,ca.refl _ _ _,fit.rel,dY⟩ (hd o ad)
   obtain⟨d1,z1,E1,pO,f1⟩:=oI;refine qS bx B rest (i+1) D5 (fun o' o4 d rN=>by rw [z1]; exact hd o' (by simp [o4]) d rN) f1 (by rw [pO.ρ]; exact O) fun a' w' ht=>?_;exact hq a' w' ⟨ht.defers.trans d1,ht.size.trans z1,by obtain⟨E2,zG,f2⟩:=ht.step; exact⟨E2,pO.trans zG,f2⟩⟩
  ·simp only [if_true] at O ⊢;left;obtain⟨⟨v,s1⟩,U,N⟩:=T.cA O;obtain⟨q1,q2,q3⟩:=zf bx B (o:=o) Ai.rel Ai.sr Ai.pc U;refine q3 _ _ fun u w1 hu=>?_;have oI:fB E s a w (s1.vg o.dst v) (a.put o.dst u) w1:=sS (s:=s) (s':=s1) fit q1 q2 hu (hd o ad);obtain⟨d1,z1,E1,pO,f1⟩:=oI;refine qS bx B rest (i+1) D5 (fun o' o4 d rN=>by rw [z1]; exact hd o' (by simp [o4]) d rN) f1 (by rw [pO.ρ]; exact N) fun a' w' ht=>?_;exact hq a' w' ⟨ht.defers.trans d1,ht.size.trans z1,by obtain⟨E2,zG,f2⟩:=ht.step; exact⟨E2,pO.trans zG,f2⟩⟩
def DQ [bp] (P:Program) (draw:List Oper->St->T St):Prop:=
 ∀(id:Nat) (ops:Array Oper) (E:En) (s s':St) (a:Act) (w:World) (Q:Exit->Act->World->Prop),(∀o∈ops.toList,∀d,o.dst=some d->d<a.tmps.size)->Fit E s a w->(draw ops.toList s).leaf E.ρ=some s'->
  (∀a' w',fB E s a w s' a' w'->Q .normal a' w')->(Code.region id ops true).wp P Q a w
def lT [bp] (P:Program) (lj:Nat->List Oper->Bool) (draw:Nat->List Oper->St->T St):Prop:=
 ∀(id:Nat) (ops:Array Oper),lj id ops.toList=true->∀(E:En) (s s':St) (a:Act) (w:World) (Q:Exit->Act->World->Prop),(∀o∈ops.toList,∀d,o.dst=some d->d<a.tmps.size)->Fit E s a w->(draw id ops.toList s).leaf E.ρ=some s'->
  (∀a' w',fB E s a w s' a' w'->Q .normal a' w')->(Code.region id ops true).wp P Q a w
def gx (lj:Nat->List Oper->Bool) (n:Nat):Code->Bool
 | .region id ops d=>FQ n ops.toList&&(!d||lj id ops.toList)
 | .seq a b=>gx lj n a&&gx lj n b
 | .cond _ a b=>gx lj n a&&gx lj n b
 | .block _ b=>gx lj n b
 | .loop b=>gx lj n b
 | .scope b=>gx lj n b
 |_=>true
theorem DB {n m:Nat} {ops:List Oper} (h:FQ n ops=true) (hm:n<=m): ∀o∈ops,∀d,o.dst=some d->d<m:=by
 intro o ho d hd;unfold FQ at h
 grind
def wV:Ex->Exit
 | .normal=> .normal
 | .exit id=> .exit id
 | .ret=> .ret
def FZ [bp] (E:En) (s:St) (a:Act) (w:World) (e:Ex) (s':St) (x:Exit) (a':Act) (w':World):Prop:=x=wV e/\fB E s a w s' a' w'
theorem fB.comp [bp] {E E1:En} {s s1 s2:St} {a a1 a2:Act} {w w1 w2:World} (d1:a1.defers=a.defers) (z1:a1.tmps.size=a.tmps.size) (pO:ca E s.h w E1 s1.h w1) (U:fB E1 s1 a1 w1 s2 a2 w2):fB E s a w s2 a2 w2:=by obtain⟨d2,z2,E2,zG,f2⟩:=U;exact⟨d2.trans d1,z2.trans z1,E2,pO.trans zG,f2⟩
def Cr [bp] (P:Program) (c:Code) (n:Nat) (f:St->T (Ex×St)):Prop:=
 ∀(E:En) (s s':St) (e:Ex) (a:Act) (w:World),n<=a.tmps.size->Fit E s a w->(f s).leaf E.ρ=some (e,s')->c.wp P (FZ E s a w e s') a w
theorem qT {ρ:Nat->Int} {f:St->T (Ex×St)}: ∀(k:Nat) {s s':St} {e:Ex},(kr f k s).leaf ρ=some (e,s')->e≠.normal
 |0,s,s',e,h=>by simp [kr,T.leaf] at h
 |k+1,s,s',e,h=>by
  simp only [kr] at h;obtain⟨⟨e1,s1⟩,O,U⟩:=T.cA h
  cases e1 with
  |normal=>exact qT k U
  |exit id=>have:=bh U; simp only [ag] at this; rw [<- this.1]; simp
  |ret=>have:=bh U; simp only [ag] at this; rw [<- this.1]; simp
theorem s6 [bp] {c:Code} {n:Nat} {f:St->T (Ex×St)} (hf:Cr P c n f): ∀(k:Nat) {E:En} {s s':St} {e:Ex} {a:Act} {w:World},n<=a.tmps.size->Fit E s a w->(kr f k s).leaf E.ρ=some (e,s')->
 ∀(Q:Exit->Act->World->Prop),(∀a' w',fB E s a w s' a' w'->Q (wV e) a' w')->e≠.normal/\Code.rounds P c Q k a w
 |0,E,s,s',e,a,w,_,_,h,_,_=>by simp [kr,T.leaf] at h
 |k+1,E,s,s',e,a,w,hn,fit,h,Q,hq=>by
  simp only [kr] at h;obtain⟨⟨e1,s1⟩,O,U⟩:=T.cA h;have hw:=hf E s s1 e1 a w hn fit O;rw [rounds_succ]
  cases e1 with
  |normal=>
   simp only at U;constructor
   ·exact qT k U
   ·refine wp_mono hw fun x a1 w1 ⟨M,ht⟩=>?_;subst M;obtain⟨d1,z1,E1,pO,f1⟩:=ht;exact (s6 hf k (by rw [z1]; exact hn) f1 (by rw [pO.ρ]; exact U) Q fun a' w' E8=>hq a' w' (E8.comp d1 z1 pO)).2
  |exit id=> have:=bh U;simp only [ag] at this;obtain⟨rfl,rfl⟩:=this;refine⟨ad,wp_mono hw fun x a1 w1 ⟨M,ht⟩=>?_⟩;subst M;exact hq a1 w1 ht
  |ret=> have:=bh U;simp only [ag] at this;obtain⟨rfl,rfl⟩:=this;refine⟨ad,wp_mono hw fun x a1 w1 ⟨M,ht⟩=>?_⟩;subst M;exact hq a1 w1 ht
theorem fc [bp] {tt:TT} (bx:bV P tt) {call:bR} (B:dD P call) {draw:Nat->List Oper->St->T St} {lj:Nat->List Oper->Bool} (xt:lT P lj draw) {lf n:Nat}: ∀(c:Code),gx lj n c=true->Cr P c n (dA tt call draw lf c)
 | .skip,_,E,s,s',e,a,w,_,fit,h=>by have:=bh h;simp only [ag] at this;obtain⟨rfl,rfl⟩:=this;exact wp_skip ⟨rfl,fB.refl fit⟩
 | .region id ops d,hM,E,s,s',e,a,w,hn,fit,h=>by
   simp only [dA] at h;simp only [gx,an] at hM;have hd:=DB hM.1 hn;cases d
   ·simp only [ay,if_false] at h;obtain⟨s1,O,U⟩:=T.cA h;have:=bh U;simp only [ag] at this;obtain⟨rfl,rfl⟩:=this;refine wp_region ?_;have:=qS (Q:=FZ E s a w .normal s1) bx B ops.toList 0 ad hd fit O (fun a' w' ht=> ⟨rfl,ht⟩);rw [List.range_eq_range']
    grind
   ·simp only [if_true] at h;obtain⟨s1,O,U⟩:=T.cA h;have:=bh U;simp only [ag] at this;obtain⟨rfl,rfl⟩:=this;exact xt id ops (by simpa using hM.2) E s s1 a w _ hd fit O (fun a' w' ht=> ⟨rfl,ht⟩)
 | .seq x y,hM,E,s,s',e,a,w,hn,fit,h=>by
   simp only [gx,an] at hM;simp only [dA] at h;obtain⟨⟨e1,s1⟩,O,U⟩:=T.cA h;refine wp_seq (wp_mono (fc bx B xt x hM.1 E s s1 e1 a w hn fit O) fun q a1 w1 ⟨M,ht⟩=>?_);subst M
   cases e1 with
   |normal=> simp only at U;obtain⟨d1,z1,E1,pO,f1⟩:=ht;refine wp_mono (fc bx B xt y hM.2 E1 s1 s' e a1 w1 (by rw [z1]; exact hn) f1 (by rw [pO.ρ]; exact U)) fun q a2 w2 ⟨M,E8⟩=>?_;exact⟨M,E8.comp d1 z1 pO⟩
   |exit id=> have:=bh U;simp only [ag] at this;obtain⟨rfl,rfl⟩:=this;exact⟨rfl,ht⟩
   |ret=> have:=bh U;simp only [ag] at this;obtain⟨rfl,rfl⟩:=this;exact⟨rfl,ht⟩
 | .cond c x y,hM,E,s,s',e,a,w,hn,fit,h=>by
   simp only [gx,an] at hM;simp only [dA] at h;split at h
   ·rename_i cb Me;have W:=cH fit.sr Me;simp only [V] at W;obtain⟨cl,cM,O⟩:=bH fit.pc h;have Ai:Fit E { s with pc:=cl } a w:=⟨fit.rel,fit.sr,cM⟩;refine wp_cond W ?_;cases IG:cb.den E.ρ<;>rw [IG] at O
    ·simp only [ay,if_false] at O ⊢;exact wp_mono (fc bx B xt y hM.2 E _ s' e a w hn Ai O) fun q a2 w2 ⟨M,ht⟩=> ⟨M,ht.defers,ht.size,ht.step⟩
    ·simp only [if_true] at O ⊢;exact wp_mono (fc bx B xt x hM.1 E _ s' e a w hn Ai O) fun q a2 w2 ⟨M,ht⟩=> ⟨M,ht.defers,ht.size,ht.step⟩
   ·simp [T.leaf] at h
 | .block id b,hM,E,s,s',e,a,w,hn,fit,h=>by
   simp only [gx] at hM;simp only [dA] at h;obtain⟨⟨e1,s1⟩,O,U⟩:=T.cA h;refine wp_block (wp_mono (fc bx B xt b hM E s s1 e1 a w hn fit O) fun q a1 w1 ⟨M,ht⟩=>?_);subst M
   cases e1 with
   |normal=> have:=bh U;simp only [ag] at this;obtain⟨rfl,rfl⟩:=this;exact⟨rfl,ht⟩
   |exit j=>
    have:=bh U;simp only [ag] at this;obtain⟨rfl,rfl⟩:=this;simp only [wV,Exit.inBlock];by_cases hj:j=id
    ·rw [ak hj,ak hj]; exact⟨rfl,ht⟩
    ·rw [ah hj,ah hj]; exact⟨rfl,ht⟩
   |ret=> have:=bh U;simp only [ag] at this;obtain⟨rfl,rfl⟩:=this;exact⟨rfl,ht⟩
 | .loop b,hM,E,s,s',e,a,w,hn,fit,h=>by simp only [gx] at hM;simp only [dA] at h;exact wp_loop_rounds lf (s6 (fc bx B xt b hM) lf hn fit h (FZ E s a w e s') (fun a' w' ht=> ⟨rfl,ht⟩)).2
 | .exit id,_,E,s,s',e,a,w,_,fit,h=>by have:=bh h;simp only [ag] at this;obtain⟨rfl,rfl⟩:=this;exact wp_exit ⟨rfl,fB.refl fit⟩
 | .scope b,hM,E,s,s',e,a,w,hn,fit,h=>by simp only [gx] at hM;simp only [dA] at h;refine wp_scope_straight (wp_mono (fc bx B xt b hM E s s' e a w hn fit h) fun q a1 w1 ⟨M,ht⟩=>?_);subst M;cases e<;>exact⟨rfl,ht⟩
 | .label l,_,E,s,s',e,a,w,_,fit,h=>by have:=bh h;simp only [ag] at this;obtain⟨rfl,rfl⟩:=this;exact wp_label ⟨rfl,fB.refl fit⟩
 | .ret,_,E,s,s',e,a,w,_,fit,h=>by have:=bh h;simp only [ag] at this;obtain⟨rfl,rfl⟩:=this;exact wp_ret ⟨rfl,fB.refl fit⟩
 | .rangeFunc _ _ _ _,_,E,s,s',e,a,w,_,fit,h=>by simp [dA,T.leaf] at h
 | .goto _,_,E,s,s',e,a,w,_,fit,h=>by simp [dA,T.leaf] at h
 | .refuse _,_,E,s,s',e,a,w,_,fit,h=>by simp [dA,T.leaf] at h
end
section
variable {P:Program}
theorem vG: ∀(args:List Z) (i:Nat) (t:Tr Z) (k:Nat),(bI args i t).get k=if i<=k/\k<i+args.length then args[k-i]? else t.get k
 |[],i,t,k=>by
  have: ¬(i<=k/\k<i+([]:List Z).length):=ad
  rw [ah this];rfl
 |v::vs,i,t,k=>by
  simp only [bI,vG vs (i+1),Tr.br,aA]
  grind
theorem bC.get {E:En} {h:Array Obj}: ∀{vs:List Z} {us:List Value},bC E h vs us->∀(i:Nat) (v:Z),vs[i]?=some v->∃u,us[i]?=some u/\V E h v u
 |[],us,W,i,v,hi=>by simp at hi
 |x::xs,us,W,i,v,hi=>by
  cases us with
  |nil=>simp [bC] at W
  |cons y ys=>
   simp only [bC] at W;obtain⟨u',dh,he,O,U⟩:=W;simp only [List.cons.injEq] at he;obtain⟨rfl,rfl⟩:=he
   cases i with
   |zero=>simp at hi; subst hi; exact⟨y,ad,O⟩
   |succ i=>simpa using bC.get U i v (by simpa using hi)
theorem Df {E:En} {h:Array Obj} {args:List Z} {dg:List Value} (W:bC E h args dg) (n:Nat) :
 SR E h (bI args 0 .nil) { tmps:=dg.toArray++Array.replicate n undef,defers:=[] }:=by
 intro t v ht;rw [vG] at ht;split at ht
 ·rename_i R;obtain⟨u,O,U⟩:=bC.get W t v (by simpa using ht)
  grind
 ·simp [Tr.get] at ht
def ny (a:Act):ResultVar->Sem Value
 | .tmp t=>pure (a.tmps.getD t undef)
 | .cell b t=>do loadVar t (<- asAddr (a.tmps.getD b undef))
def rL (vs:List Z):Z:=match vs with |[x]=>x|vs=> .tuple vs
theorem r6 {vs:List Z} (h: ∀v,vs= [v]->False):rL vs= .tuple vs:=by
 unfold rL
 grind
theorem CW {E:En} {h:Array Obj} {vs:List Z} {us:List Value} (g2:bC E h vs us):V E h (rL vs) (if h:us.toArray.size=1 then us.toArray[0] else .tuple us.toArray):=by
 cases vs with
 |nil=> simp only [bC] at g2;subst g2;simp [rL,V,bC]
 |cons x xs=>
  cases xs with
  |nil=> simp only [bC] at g2;obtain⟨u,dh,rfl,O,rfl⟩:=g2;simpa [rL] using O
  |cons x2 xs=>
   have g3:=g2;simp only [bC] at g2;obtain⟨u,dh,rfl,O,u2,Iq,rfl,U,N⟩:=g2;have: ¬((u::u2::Iq).toArray.size=1):=ad
   rw [dif_neg this];simp only [rL,V]
   grind
theorem wg [bp] {tt:TT} (bx:bV P tt) {E:En} {s:St} {a:Act} {w:World} (fit:Fit E s a w) {r:ResultVar} {v:Z} (h:mH tt s r=some v) :
 ∃u,(ny a r).run P w= .ok u w/\V E w.heap v u:=by
 cases r with
 |tmp t=> simp only [mH] at h;obtain⟨u,O,U⟩:=fit.sr t v h;exact⟨u,by simp [ny,O,aag],U⟩
 |cell b t=>
  simp only [mH] at h;split at h
  ·rename_i p F;obtain⟨u,O,U⟩:=fit.sr b p F;obtain⟨x,bb,o,rfl,N,h4⟩:=n7 bx fit.rel U h;exact⟨x,by simp [ny,O,aag,asAddr,N],h4⟩
  grind
theorem mG [bp] {tt:TT} (bx:bV P tt) {E:En} {s:St} {a:Act} {w:World} (fit:Fit E s a w): ∀{rs:List ResultVar} {vs:List Z},fb tt s rs=some vs->
 ∃us,(rs.mapM (ny a)).run P w= .ok us w/\bC E w.heap vs us
 |[],vs,h=>by simp [fb] at h;subst h;exact⟨[],ad,by simp [bC]⟩
 |r::rs,vs,h=>by
  simp only [fb] at h;split at h
  ·grind
  ·rename_i v W;split at h
   ·grind
   ·rename_i zE wO;simp at h;subst h;obtain⟨u,O,U⟩:=wg bx fit W;obtain⟨us,N,h4⟩:=mG bx fit wO;refine⟨u::us,?_,by simp only [bC]; exact⟨u,us,rfl,U,h4⟩⟩;rw [aai];simp [Sem.run_bind,O,N]
def DP (P:Program) (lj:Nat->Nat->List Oper->Bool) (ft:Nat->Option Func):Prop:= ∀g fn,ft g=some fn->P.funcs[g]?=some fn/\(fn.name == "runtime.NumGoroutine")=false/\∀c,fn.body=some c->gx (lj g) fn.ntmps c=true
theorem mN [bp] {tt:TT} (bx:bV P tt) {lj:Nat->Nat->List Oper->Bool} {ft:Nat->Option Func} (KU:DP P lj ft) {vQ:Nat->Option (List Z->St->T (Z×St))} (hh: ∀g h,vQ g=some h->fh P g h)
 {draw:bR->Nat->Nat->List Oper->St->T St} (xt: ∀call,dD P call->∀g,lT P (lj g) (draw call g)) (lf:Nat): ∀(n:Nat),dD P (rO tt ft vQ draw lf n)
 |0=>by intro g args s E w dg v s' _ _ _ h;simp [rO,T.leaf] at h
 |n+1=>by
  have ih:=mN bx KU hh xt lf n;intro g args s E w dg v s' r W F h;simp only [rO] at h;split at h
  ·rename_i f hf;exact hh g f hf args s E w dg v s' r W F h
  ·split at h
   ·simp [T.leaf] at h
   ·rename_i fn BG;obtain⟨hf,eM,hM⟩:=KU g fn BG;split at h
    ·simp [T.leaf] at h
    ·rename_i c K;obtain⟨⟨e,s1⟩,O,U⟩:=T.cA h
     have fit:Fit E { s with bj:=bI args 0 .nil } { tmps:=dg.toArray++Array.replicate (fn.ntmps-dg.toArray.size) undef,defers:=[] } w:=
      ⟨r,Df W _,F⟩
     have KB:=fc bx ih (xt _ ih g) (lf:=lf) c (hM c K) E _ s1 e _ w (by simp; omega) fit O
     have Jv: ∃vs,fb tt s1 fn.results.toList=some vs/\(e= .normal\/e= .ret)/\s'= { s1 with bj:=s.bj }/\v=rL vs:=by
      cases e with
      |exit id=>simp [T.leaf] at U
      |normal=>
       simp only at U;split at U
       ·rename_i x M;have:=bh U;simp only [ag] at this;exact⟨_,M,.inl rfl,this.2.symm,this.1.symm⟩
       ·rename_i vs hn M;have:=bh U;simp only [ag] at this;refine⟨_,M,.inl rfl,this.2.symm,?_⟩;rw [<- this.1];exact (r6 hn).symm
       ·simp [T.leaf] at U
      |ret=>
       simp only at U;split at U
       ·rename_i x M;have:=bh U;simp only [ag] at this;exact⟨_,M,.inr rfl,this.2.symm,this.1.symm⟩
       ·rename_i vs hn M;have:=bh U;simp only [ag] at this;refine⟨_,M,.inr rfl,this.2.symm,?_⟩;rw [<- this.1];exact (r6 hn).symm
       ·simp [T.leaf] at U
     obtain⟨vs,hr,he,rfl,rfl⟩:=Jv
     have Fg:bu E.ρ s1.pc:=by
      obtain⟨_,_,_,⟨_,ht⟩,_⟩:=KB default [] [];obtain⟨E1,pO,f1⟩:=ht.step;have:=f1.pc;rw [pO.ρ] at this
      grind
     refine⟨rfl,Fg,?_⟩
     have JW:Calls P g dg.toArray w fun e DR=> ∃u,e= .returned u/\wM E s w (rL vs) { s1 with bj:=s.bj } u DR:=by
      refine calls_of_wp hf K (wp_mono KB fun x a1 w1 ⟨M,ht⟩=>?_);subst M;obtain⟨d1,z1,E1,pO,f1⟩:=ht;obtain⟨us,g1,g2⟩:=mG bx f1 hr
      have: ∃u,(results fn a1.tmps).run P w1= .ok u w1/\V E1 w1.heap (rL vs) u:=by
       refine⟨if h:us.toArray.size=1 then us.toArray[0] else .tuple us.toArray,?_,?_⟩
       ·have hm:(fn.results.mapM (ny a1)).run P w1= .ok us.toArray w1:=by
         rw [Array.mapM_eq_mapM_toList];rw [map_eq_pure_bind];simp only [Sem.run_bind,g1];rfl
        have xq:results fn a1.tmps=(do let vs <- fn.results.mapM (ny a1); pure (if h:vs.size=1 then vs[0] else .tuple vs)):=rfl;rw [xq];simp only [Sem.run_bind,hm];rfl
       ·exact CW g2
      obtain⟨u,g3,g4⟩:=this;rcases he with rfl|rfl
      ·exact⟨d1,u,g3,u,rfl,E1,pO,f1.rel,g4⟩
      ·exact⟨d1,u,g3,u,rfl,E1,pO,f1.rel,g4⟩
     have iu:(callFunc g dg.toArray).run P w= .ok (.enter g dg.toArray) w:=by unfold callFunc;simp [hf,K,by simpa using eM]
     unfold gy iU
     grind
end
def Tr.over {α:Type}:Tr α->Tr α->Tr α
 | .nil,b=>b
 | .node v l r,b=> .node (match v with |some x=>some x|none=>b.val) (Tr.over l b.left) (Tr.over r b.right)
def Tr.minus {α:Type}:Tr α->Tr α->Tr α
 | .nil,b=>b
 | .node v l r,b=> .node (match v with |some _=>none|none=>b.val) (Tr.minus l b.left) (Tr.minus r b.right)
theorem Tr.qD {α:Type}: ∀(a b:Tr α) (k:Nat),(Tr.over a b).get k=match a.get k with |some x=>some x|none=>b.get k
 | .nil,b,k=>by simp [Tr.over,Tr.get]
 | .node v l r,b,k=>by
   simp only [Tr.over];rw [Tr.ga,Tr.ga,Tr.kR b k];by_cases h0:k=0
   ·grind
   ·simp only [ah h0];by_cases O:(k-1) % 2=0
    ·simp only [ak O]; exact Tr.qD l b.left _
    ·simp only [ah O]; exact Tr.qD r b.right _
theorem Tr.n4 {α:Type}: ∀(a b:Tr α) (k:Nat),(Tr.minus a b).get k=match a.get k with |some _=>none|none=>b.get k
 | .nil,b,k=>by simp [Tr.minus,Tr.get]
 | .node v l r,b,k=>by
   simp only [Tr.minus];rw [Tr.ga,Tr.ga,Tr.kR b k];by_cases h0:k=0
   ·grind
   ·simp only [ah h0];by_cases O:(k-1) % 2=0
    ·simp only [ak O]; exact Tr.n4 l b.left _
    ·simp only [ah O]; exact Tr.n4 r b.right _
structure zB (E:En) (H:Hp) (w:World) (E':En) (H':Hp) (w':World):Prop where
 ρ:E'.ρ=E.ρ
 dm: ∀id,E.dm id->E'.dm id
 θ: ∀id,E.dm id->E'.θ id=E.θ id
 κ: ∀id,E.dm id->E'.κ id=E.κ id
 ro: ∀b,E.ro b->E'.ro b
 lU: ∀b,E'.ro b->E.ro b\/(∃id o,H.get id=some o/\(E.θ id).1=b)\/w.heap.size<=b
 os:w'.os=w.os
 tape:w'.tape=w.tape
 output:w'.output=w.output
 size:w.heap.size<=w'.heap.size
 bw: ∀b,b<w.heap.size->(∀id o,H.get id=some o->(E.θ id).1≠b)->w'.heap[b]?=w.heap[b]?
 own: ∀id o,H'.get id=some o->(E'.θ id).1<w.heap.size->∃jg o0,H.get jg=some o0/\(E.θ jg).1=(E'.θ id).1
 hd:E'.hd=E.hd
section
variable {E E' K6:En} {H H' K5:Hp} {w w' DR:World}
theorem ca.IK (s:ca E H w E' H' w'):zB E H w E' H' w':=⟨s.ρ,s.dm,s.θ,s.κ,s.ro,s.lU,s.os,s.tape,s.output,s.size,s.bw,s.own,s.hd⟩
theorem zB.AS (s:zB E H w E' H' w') (O:H.next<=H'.next) (U:H'.res=none) (N: ∀id,E'.dm id->E.dm id\/(H.next<=id/\id<H'.next)):ca E H w E' H' w':=
 ⟨s.ρ,s.dm,s.θ,s.κ,s.ro,s.lU,O,.inl U,fun id h=>(N id h).elim .inl fun h=> .inr (.inl h),s.os,s.tape,s.output,s.size,s.bw,s.own,s.hd⟩
theorem zB.trans (a:zB E H w E' H' w') (b:zB E' H' w' K6 K5 DR):zB E H w K6 K5 DR where
 ρ:=b.ρ.trans a.ρ
 dm:=fun id h=>b.dm id (a.dm id h)
 θ:=fun id h=>(b.θ id (a.dm id h)).trans (a.θ id h)
 κ:=fun id h=>(b.κ id (a.dm id h)).trans (a.κ id h)
 ro:=fun x h=>b.ro x (a.ro x h)
 lU:=fun x h=>by
  rcases b.lU x h with h|⟨id,o,O,U⟩|h
  ·exact a.lU x h
  ·rcases aG x w.heap.size with M|M
   ·obtain⟨jg,o0,N,h4⟩:=a.own id o O (by rw [U]; exact M);exact .inr (.inl ⟨jg,o0,N,h4.trans U⟩)
   ·exact .inr (.inr M)
  ·exact .inr (.inr (aD a.size h))
 os:=b.os.trans a.os
 tape:=b.tape.trans a.tape
 output:=b.output.trans a.output
 size:=aD a.size b.size
 bw:=fun x M hn=>by rw [b.bw x (aac M a.size) ?_,a.bw x M hn];intro id o ho he;obtain⟨jg,o0,h0,Dq⟩:=a.own id o ho (by rw [he]; exact M);exact hn jg o0 h0 (Dq.trans he)
 own:=fun id o ho c6=>by obtain⟨I8,o1,O,BI⟩:=b.own id o ho (aac c6 a.size);obtain⟨jg,o0,h0,Dq⟩:=a.own I8 o1 O (by rw [BI]; exact c6);exact⟨jg,o0,h0,Dq.trans BI⟩
 hd:=b.hd.trans a.hd
theorem zB.keeps [bp] (s:zB E H w E' H' w') (r:bq E H w):c9 E w.heap E' w'.heap:=
 ⟨s.ρ,s.dm,s.θ,s.κ,s.ro,fun b K=>s.bw b (r.oy b K) fun id o ho he=>(r.live id o ho).2.2 (by rw [he]; exact K)⟩
theorem bq.part [bp] {H1:Hp} (r:bq E H w) (sub: ∀id o,H1.get id=some o->H.get id=some o) (hn:H.next<=H1.next) (hr: ∀q,H1.res=some q->q<H1.next/\¬E.dm q):bq E H1 w:=
 ⟨fun id h=>r.fresh id (aD hn h),hr,fun id o h=>r.live id o (sub id o h),fun i j o o' h h' e=>r.inj i j o o' (sub _ _ h) (sub _ _ h') e,r.oy,r.jM,fun b x K=> ⟨(r.hid b x K).1,(r.hid b x K).2.1,fun id o h=>(r.hid b x K).2.2 id o (sub id o h)⟩⟩
theorem BP [bp] {H1 ye:Hp} (r:bq E H w) (sub: ∀id o,H1.get id=some o->H.get id=some o) (st:ca E H1 w E' ye w') (r':bq E' ye w') (n:Nat) (hn: ∀id,n<=id->¬E'.dm id) :
 ∃H':Hp,H'=⟨Tr.over ye.m (Tr.minus H1.m H.m),n,none⟩/\(∀id o,ye.get id=some o->H'.get id=some o)/\(∀id o,H.get id=some o->H1.get id=none->H'.get id=some o)/\bq E' H' w'/\zB E H w E' H' w':=by
 have Hv: ∀id o,H.get id=some o->H1.get id=none->ye.get id=none:=by
  intro id o h O
  cases U:ye.get id with
  |none=>rfl
  |some o'=>
   exfalso;have hd:=(r.live id o h).1;have hθ:=st.θ id hd;obtain⟨jg,o0,g1,g2⟩:=st.own id o' U (by rw [hθ]; exact eO r h);have:=r.inj jg id o0 o (sub _ _ g1) h (by rw [g2,hθ])
   grind
 have j9: ∀id,(⟨Tr.over ye.m (Tr.minus H1.m H.m),n,none⟩ : Hp).get id=match ye.get id with |some x=>some x|none=>match H1.get id with |some _=>none|none=>H.get id:=by
  intro id;simp only [Hp.get,Tr.qD,Tr.n4]
  grind
 have qA: ∀id o,(⟨Tr.over ye.m (Tr.minus H1.m H.m),n,none⟩ : Hp).get id=some o->ye.get id=some o\/(ye.get id=none/\H1.get id=none/\H.get id=some o):=by
  intro id o h
  grind
 have HG: ∀id o,H1.get id=none->H.get id=some o->w'.heap[(E.θ id).1]?=w.heap[(E.θ id).1]?:=by
  intro id o O h;refine st.bw _ (eO r h) fun jg o0 h0 he=>?_;have:=r.inj jg id o0 o (sub _ _ h0) h he
  grind
 have k:c9 E w.heap E' w'.heap:=⟨st.ρ,st.dm,st.θ,st.κ,st.ro,fun b K=>st.bw b (r.oy b K) fun id o ho he=>(r.live id o (sub _ _ ho)).2.2 (by rw [he]; exact K)⟩;refine⟨_,rfl,fun id o h=>by rw [j9,h],fun id o h O=>by rw [j9,Hv id o h O,O]; exact h,⟨hn,ad,?_,?_,r'.oy,r'.jM,?_⟩,⟨st.ρ,st.dm,st.θ,st.κ,st.ro,fun b K=>(st.lU b K).imp id (Or.imp (fun⟨i,o,O,U⟩=> ⟨i,o,sub _ _ O,U⟩) id),st.os,st.tape,st.output,st.size,?_,?_,st.hd⟩⟩
 ·intro id o h;rcases qA id o h with O|⟨O,U,N⟩
  ·exact r'.live id o O
  ·obtain⟨g1,g2,g3⟩:=r.live id o N;refine⟨st.dm id g1,g2.bw k g1 (HG id o U N) (r.Ed st.hd (fun b K hn=>st.bw b K fun i o ho=>hn i o (sub i o ho)) _),?_⟩;rw [st.θ id g1];intro hr;rcases st.lU _ hr with hr|⟨jg,o0,f1,f2⟩|hr
   ·grind
   ·have:=r.inj jg id o0 o (sub _ _ f1) N f2
    grind
   grind [eO]
 ·intro i j o o' h h' he;rcases qA i o h with O|⟨O,U,N⟩ <;>rcases qA j o' h' with g1|⟨g1,g2,g3⟩
  ·exact r'.inj i j o o' O g1 he
  ·exfalso;rw [st.θ j (r.live j o' g3).1] at he;obtain⟨jg,o0,f1,f2⟩:=st.own i o O (by rw [he]; exact eO r g3);have:=r.inj jg j o0 o' (sub _ _ f1) g3 (f2.trans he)
   grind
  ·exfalso;rw [st.θ i (r.live i o N).1] at he;obtain⟨jg,o0,f1,f2⟩:=st.own j o' g1 (by rw [<- he]; exact eO r N);have:=r.inj jg i o0 o (sub _ _ f1) N (f2.trans he.symm)
   grind
  ·rw [st.θ i (r.live i o N).1,st.θ j (r.live j o' g3).1] at he;exact r.inj i j o o' N g3 he
 ·refine r.HJ st.hd st.size (fun b K=>(st.lU b K).imp id (Or.imp (fun⟨i,o,O,U⟩=> ⟨i,o,sub _ _ O,U⟩) id)) fun id o h c6=>?_;rcases qA id o h with O|⟨O,U,N⟩
  ·obtain⟨jg,o0,f1,f2⟩:=st.own id o O c6;exact⟨jg,o0,sub _ _ f1,f2⟩
  ·exact⟨id,o,N,by rw [st.θ id (r.live id o N).1]⟩
 ·intro b K Hw;exact st.bw b K fun id o h=>Hw id o (sub _ _ h)
 ·intro id o h c6;rcases qA id o h with O|⟨O,U,N⟩
  ·obtain⟨jg,o0,f1,f2⟩:=st.own id o O c6
   grind
  ·exact⟨id,o,N,by rw [st.θ id (r.live id o N).1]⟩
theorem frame [bp] {H1 ye:Hp} (r:bq E H w) (sub: ∀id o,H1.get id=some o->H.get id=some o) (st:ca E H1 w E' ye w') (r':bq E' ye w') (n:Nat) (hn: ∀id,n<=id->¬E'.dm id) :
 ∃H':Hp,H'.next=n/\H'.res=none/\(∀id o,ye.get id=some o->H'.get id=some o)/\(∀id o,H.get id=some o->H1.get id=none->H'.get id=some o)/\bq E' H' w'/\zB E H w E' H' w':=by
 obtain⟨H',h0,O,U,N,h4⟩:=BP r sub st r' n hn
 grind
end
section
variable {P:Program}
def rE [bp] (P:Program) (ρ:Nat->Int) (ops:Array Oper) (o:Oper) (S:Tr Z) (H:Hp) (v:Z) (H':Hp):Prop:=
 ∀(E:En) (a:Act) (w:World),E.ρ=ρ->bq E H w->SR E w.heap S a->
  (Region.wanted o (yielded ops a.tmps)=false/\v=Z.undef/\H'=H)\/
  (Region.wanted o (yielded ops a.tmps)=true/\gD P o a w (fun u w'=> ∃E',ca E H w E' H' w'/\bq E' H' w'/\V E' w'.heap v u))
theorem rE.wpOp [bp] {ρ:Nat->Int} {ops:Array Oper} {o:Oper} {S:Tr Z} {H H':Hp} {v:Z} (h:rE P ρ ops o S H v H') {E:En} {a:Act} {w:World} (hρ:E.ρ=ρ) (r:bq E H w) (sr:SR E w.heap S a)
 {i:Nat} (ho:ops[i]?=some o) {Y':Act->World->Prop} {Q:Exit->Act->World->Prop}
 (R: ∀(u:Value) (E':En) (w':World),ca E H w E' H' w'->bq E' H' w'->V E' w'.heap v u->Y' (a.put o.dst u) w'):wpOp P ops Q i Y' a w:=by
 unfold Go.wpOp;simp only [ho];rcases h E a w hρ r sr with ⟨O,rfl,rfl⟩|⟨O,U⟩
 ·rw [O];simp only [ay,if_false];exact R undef E w (ca.refl _ _ _) r dY
 ·rw [O];simp only [if_true];exact .inl (U _ _ fun u w' ⟨E',q1,q2,q3⟩=>R u E' w' q1 q2 q3)
inductive Kind where
 |pa
 |e
 |r
 deriving DecidableEq
structure rA [bp] (P:Program) (ρ:Nat->Int) (ops:Array Oper) (gK:Tr Z) (H0:Hp) where
 base:Nat
 bf:Nat->Nat->Bool
 kd:Nat->Kind
 S:Nat->Tr Z
 val:Nat->Z
 st:Nat->Nat
 nE:Nat
 F:Nat->Hp
 un:Nat->Nat->Bool
 ru:Nat->Option bS
 gen: ∀i j,bf i j=true->∃(o:Oper) (e:Edge),ops[j]?=some o/\e∈o.after/\Region.binds .any e=true/\(e.on=i\/bf i e.on=true)
 back: ∀(j:Nat) (o:Oper),ops[j]?=some o->∀e∈o.after,Region.binds .any e=true->e.on<j
 dst: ∀(i j:Nat) (oi oj:Oper) (d:Nat),ops[i]?=some oi->ops[j]?=some oj->oi.dst=some d->oj.dst=some d->i=j
 bj: ∀(i:Nat) (o:Oper),ops[i]?=some o->∀t x,(S i).get t=some x->(∃(j:Nat) (oj:Oper),bf j i=true/\ops[j]?=some oj/\oj.dst=some t/\val j=x)\/(gK.get t=some x/\∀(j:Nat) (oj:Oper),ops[j]?=some oj->oj.dst=some t->bf i j=true)
 Kt: ∀(j:Nat) (o:Oper),ops[j]?=some o->kd j= .e->st j<nE
 inj: ∀i j,kd i= .e->kd j= .e->st i=st j->i=j
 Gl: ∀(j:Nat) (o:Oper),ops[j]?=some o->kd j= .e->∀m,m<st j->∃i,kd i= .e/\st i=m/\bf i j=true
 pa: ∀(i:Nat) (o:Oper),ops[i]?=some o->kd i= .pa->∃HA Y!,rE P ρ ops o (S i) ⟨.nil,Y!,some (base+i)⟩ (val i) HA/\HA.next=Y!/\ru i=HA.get (base+i)/\∀k,k<=nE->(F k).next<=Y!
 ev: ∀(j:Nat) (o:Oper),ops[j]?=some o->kd j= .e->∃u4,rE P ρ ops o (S j) u4 (val j) (F (st j+1))/\u4.next=(F (st j)).next/\u4.res=none/\
  (∀id x,u4.get id=some x->(F (st j)).get id=some x\/∃a,bf a j=true/\un (st j) a=true/\id=base+a/\ru a=some x)/\
  (∀a,un (st j+1) a=true->un (st j) a=true/\bf a j=false)
 rd: ∀(i:Nat) (o:Oper),ops[i]?=some o->kd i= .r->∀k,k<=nE->(∀j,kd j= .e->bf j i=true->st j<k)->(∀(j:Nat) (oj:Oper),ops[j]?=some oj->kd j= .e->bf i j=true->k<=st j)->
  ∃u4,rE P ρ ops o (S i) u4 (val i) u4/\u4.next=(F k).next/\u4.res=none/\
   (∀id x,u4.get id=some x->(F k).get id=some x\/∃a,bf a i=true/\un k a=true/\id=base+a/\ru a=some x)
 Kq: ∀k a x,k<=nE->ru a=some x->un k a=true->(F k).get (base+a)=none
 I0: ∀i,kd i≠.pa->ru i=none
 first:base=H0.next/\base+ops.size<=(F 0).next/\∀id x,(F 0).get id=some x->H0.get id=some x
section
variable {gl:bp} {ρ:Nat->Int} {ops:Array Oper} {gK:Tr Z} {H0:Hp} (p:rA P ρ ops gK H0)
structure rA.Inv (E0:En) (a0:Act) (w0:World) (L:Nat->Prop) (a:Act) (w:World):Prop where
 defers:a.defers=a0.defers
 size:a.tmps.size=a0.tmps.size
 closed: ∀i j,p.bf i j=true->L j->L i
 ex: ∃(E:En) (Hc:Hp) (k:Nat),k<=p.nE/\(∀(j:Nat) (o:Oper),ops[j]?=some o->p.kd j= .e->(L j↔p.st j<k))/\E.ρ=ρ/\zB E0 H0 w0 E Hc w/\bq E Hc w/\Hc.next=(p.F k).next/\Hc.res=none/\
  p.base+ops.size<=Hc.next/\(∀id,E.dm id->E0.dm id\/H0.next<=id)/\(∀(i:Nat) (o:Oper),ops[i]?=some o->¬L i->¬E.dm (p.base+i))/\
  (∀id x,(p.F k).get id=some x->Hc.get id=some x)/\(∀b x,L b->p.un k b=true->p.ru b=some x->Hc.get (p.base+b)=some x)/\
  (∀t x,gK.get t=some x->(∀(j:Nat) (oj:Oper),ops[j]?=some oj->oj.dst=some t->¬L j)->∃u,a.tmps[t]?=some u/\V E w.heap x u)/\
  (∀(j:Nat) (oj:Oper) (t:Nat),L j->ops[j]?=some oj->oj.dst=some t->∃u,a.tmps[t]?=some u/\V E w.heap (p.val j) u)
theorem p7 {a:Act} {d:Option Nat} {u:Value} {t:Nat} (h:d≠some t):(a.put d u).tmps[t]?=a.tmps[t]?:=by
 cases d with
 |none=>rfl
 |some x=>
  simp only [Act.put]
  grind
theorem CZ {a:Act} {u:Value} {t:Nat} (h:t<a.tmps.size):(a.put (some t) u).tmps[t]?=some u:=by simp [Act.put,h]
theorem rA.Ie: ∀(j i:Nat),p.bf i j=true->i<j/\j<ops.size:=by
 intro j
 induction j using Nat.strongRecOn with
 |_ j ih=>
  intro i h;obtain⟨o,e,g1,g2,g3,g4⟩:=p.gen i j h;have c6:=p.back j o g1 e g2 g3
  grind
theorem rA.Eu {i j:Nat} (h:p.bf i j=true): ∃o:Oper,ops[i]?=some o:=by have:=p.Ie j i h;exact⟨ops[i]'J,ad⟩
theorem rA.step {E0:En} {a0:Act} {w0:World} {L:Nat->Prop} {a:Act} {w:World} (hd: ∀o∈ops.toList,∀d,o.dst=some d->d<a0.tmps.size) (inv:p.Inv E0 a0 w0 L a w) {i:Nat} {o:Oper} (ho:ops[i]?=some o) (hL: ¬L i)
 (hr: ∀e∈o.after,Region.binds .any e=true->L e.on) {Y':Act->World->Prop} {Q:Exit->Act->World->Prop} (R: ∀a' w',p.Inv E0 a0 w0 (fun j=>j=i\/L j) a' w'->Y' a' w'):wpOp P ops Q i Y' a w:=by
 obtain⟨O,U,rI,E,Hc,k,Fp,pk,hρ,va,rel,Fk,xq,eL,jK,D3,HK,iN,k9,Jm⟩:=inv
 have FA: ∀j,p.bf j i=true->L j:=by
  intro j hj;obtain⟨o',e,g1,g2,g3,g4⟩:=p.gen j i hj;rw [ho] at g1;simp at g1;subst g1;have:=hr e g2 g3;rcases g4 with rfl|g4
  ·exact this
  ·exact rI j e.on g4 this
 have ML:p.bf i i≠true:=fun h=>hL (FA i h);have xr:i<ops.size:=(aV.1 ho).1
 have sr:SR E w.heap (p.S i) a:=by
  intro t x ht;rcases p.bj i o ho t x ht with ⟨j,oj,g1,g2,g3,g4⟩|⟨g1,g2⟩
  ·subst g4;exact Jm j oj t (FA j g1) g2 g3
  ·exact k9 t x g1 fun j oj hj JI Mk=>hL (rI i j (g2 j oj hj JI) Mk)
 have tT: ∀x j,p.bf x j=true->(j=i\/L j)->(x=i\/L x):=by
  intro x j M hj;rcases hj with rfl|hj
  ·exact .inr (FA x M)
  ·exact .inr (rI x j M hj)
 have fin: ∀(u:Value) (E':En) (wT:Hp) (w':World) (k':Nat),zB E Hc w E' wT w'->bq E' wT w'->V E' w'.heap (p.val i) u->k'<=p.nE->(∀(j:Nat) (o:Oper),ops[j]?=some o->p.kd j= .e->((j=i\/L j)↔p.st j<k'))->
  wT.next=(p.F k').next->wT.res=none->Hc.next<=wT.next->(∀id,E'.dm id->E.dm id\/Hc.next<=id\/id=p.base+i)->(∀id x,(p.F k').get id=some x->wT.get id=some x)->
  (∀b x,(b=i\/L b)->p.un k' b=true->p.ru b=some x->wT.get (p.base+b)=some x)->Y' (a.put o.dst u) w':=by
  intro u E' wT w' k' q1 q2 q3 q4 q5 q6 q7 q8 q9 Lj Li;have kp:=q1.keeps rel;refine R _ _ ⟨by rw [As.put_defers]; exact O,by rw [pZ]; exact U,tT,E',wT,k',q4,q5,q1.ρ.trans hρ,va.trans q1,q2,q6,q7,aD eL q8,?_,?_,Lj,Li,?_,?_⟩
  ·intro id h;rcases q9 id h with h|h|h
   ·exact jK id h
   ·right;have:=p.first.1;omega
   ·right;have:=p.first.1;omega
  ·intro j oj hj hn JS;have HH:=(aV.1 hj).1;rcases q9 _ JS with h|h|h
   ·exact D3 j oj hj (fun h'=>hn (.inr h')) h
   ·omega
   ·exact hn (.inl J)
  ·intro t x ht Hw;obtain⟨y,g1,g2⟩:=k9 t x ht fun j oj hj JI h'=>Hw j oj hj JI (.inr h');exact⟨y,by rw [p7 (fun e=>Hw i o ho e (.inl rfl))]; exact g1,V.bw kp _ _ g2⟩
  ·intro j oj t hj gE ht;by_cases JJ:j=i
   ·subst JJ;rw [ho] at gE;simp at gE;subst gE;rw [ht];exact⟨u,CZ (by rw [U]; exact hd o (Array.mem_toList_iff.2 (abl ho)) t ht),q3⟩
   ·obtain⟨y,g1,g2⟩:=Jm j oj t (hj.resolve_left JJ) gE ht;refine⟨y,?_,V.bw kp _ _ g2⟩;rw [p7]
    ·exact g1
    ·intro h;exact JJ (p.dst j i oj o t gE ho ht h)
 cases mw:p.kd i with
 |pa=>
  obtain⟨HA,Y!,g1,g2,g3,g4⟩:=p.pa i o ho mw;have hN:=g4 k Fp;have Jg:=D3 i o ho hL
  have r1:bq E ⟨.nil,Y!,some (p.base+i)⟩ w:=rel.part (by intro id x h; simp [Hp.get,Tr.get] at h) (by show Hc.next<=Y!; omega) (by
   intro q hq;simp at hq;subst hq
   exact⟨by show p.base+i<Y!; omega,Jg⟩)
  refine g1.wpOp hρ r1 sr ho fun u E' w' st r' W=>?_
  have Dr: ∀id,E'.dm id->E.dm id\/id=p.base+i:=by
   intro id h;rcases st.Cz id h with h|h|h
   ·exact .inl h
   ·have h':Y!<=id/\id<HA.next:=h;omega
   ·have h':some (p.base+i)=some id:=h;simp at h';exact .inr h'.symm
  obtain⟨wT,f1,f2,f3,f4,f5,f6⟩:=frame rel (by intro id x h; simp [Hp.get,Tr.get] at h) st r' Hc.next (fun id hid h=>by
   rcases Dr id h with h|h
   ·exact rel.fresh id hid h
   ·omega)
  refine fin u E' wT w' k f6 f5 W Fp ?_ (by rw [f1,Fk]) f2 J (fun id h=>(Dr id h).elim .inl fun h=> .inr (.inr h)) ?_ ?_
  ·intro j oj gE hj;rw [<- pk j oj gE hj];constructor
   ·intro h;rcases h with rfl|h
    ·rw [mw] at hj; simp at hj
    ·exact h
   ·exact .inr
  ·intro id x h;exact f4 id x (HK id x h) (by simp [Hp.get,Tr.get])
  ·intro b x K hu M;by_cases Ee:b=i
   ·subst Ee;rw [M] at g3;exact f3 _ _ g3.symm
   ·exact f4 _ x (iN b x (K.resolve_left Ee) hu M) (by simp [Hp.get,Tr.get])
 |e=>
  obtain⟨u4,g1,g2,g3,g4,g5⟩:=p.ev i o ho mw
  have Cv:k<=p.st i:=by
   rcases aG (p.st i) k with h|h
   ·exact absurd ((pk i o ho mw).2 h) hL
   ·exact h
  have KF:p.st i=k:=by
   rcases aG k (p.st i) with h|h
   ·obtain⟨j,e1,e2,e3⟩:=p.Gl i o ho mw k h;have hj:=FA j e3;obtain⟨oj,gE⟩:=p.Eu e3;have:=(pk j oj gE e1).1 hj;omega
   ·omega
  rw [KF] at g1 g2 g4 g5;have MK:=p.Kt i o ho mw
  have nQ: ∀id x,u4.get id=some x->Hc.get id=some x:=by
   intro id x h;rcases g4 id x h with h|⟨b,e1,e2,rfl,e4⟩
   ·exact HK id x h
   ·exact iN b x (FA b e1) e2 e4
  have r1:bq E u4 w:=rel.part nQ J (by rw [g3]; simp);refine g1.wpOp hρ r1 sr ho fun u E' w' st r' W=>?_
  have Dr: ∀id,E'.dm id->E.dm id\/Hc.next<=id:=by
   intro id h;rcases st.Cz id h with h|h|h
   ·exact .inl h
   ·right; omega
   ·rw [g3] at h; simp at h
  obtain⟨wT,f1,f2,f3,f4,f5,f6⟩:=frame rel nQ st r' (p.F (k+1)).next (fun id hid h=>r'.fresh id hid h)
  have KI:=st.zY;refine fin u E' wT w' (k+1) f6 f5 W J ?_ f1 f2 J (fun id h=>(Dr id h).elim .inl fun h=> .inr (.inl h)) f3 ?_
  ·intro j oj gE hj;constructor
   ·intro h;rcases h with rfl|h
    ·omega
    ·have:=(pk j oj gE hj).1 h;omega
   ·intro h;rcases aG (p.st j) k with h'|h'
    ·exact .inr ((pk j oj gE hj).2 h')
    ·exact .inl (p.inj j i hj mw J)
  ·intro b x K hu M;obtain⟨e1,e2⟩:=g5 b hu;by_cases Ee:b=i
   ·subst Ee;rw [p.I0 b (by rw [mw]; simp)] at M;simp at M
   ·refine f4 _ x (iN b x (K.resolve_left Ee) e1 M) ?_
    cases hy:u4.get (p.base+b) with
    |none=>rfl
    |some y=>
     exfalso;rcases g4 _ y hy with h|⟨c,c1,c2,c3,c4⟩
     ·rw [p.Kq k b x Fp M e1] at h;simp at h
     ·have:c=b:=J
      subst this;rw [e2] at c1;simp at c1
 |r=>
  have KO: ∀j,p.kd j= .e->p.bf j i=true->p.st j<k:=by intro j hj K;obtain⟨oj,gE⟩:=p.Eu K;exact (pk j oj gE hj).1 (FA j K)
  have rH: ∀(j:Nat) (oj:Oper),ops[j]?=some oj->p.kd j= .e->p.bf i j=true->k<=p.st j:=by
   intro j oj gE hj K;rcases aG (p.st j) k with h|h
   ·exact absurd (rI i j K ((pk j oj gE hj).2 h)) hL
   ·exact h
  obtain⟨u4,g1,g2,g3,g4⟩:=p.rd i o ho mw k Fp KO rH
  have nQ: ∀id x,u4.get id=some x->Hc.get id=some x:=by
   intro id x h;rcases g4 id x h with h|⟨b,e1,e2,rfl,e4⟩
   ·exact HK id x h
   ·exact iN b x (FA b e1) e2 e4
  have r1:bq E u4 w:=rel.part nQ J (by rw [g3]; simp);refine g1.wpOp hρ r1 sr ho fun u E' w' st r' W=>?_
  have Dr: ∀id,E'.dm id->E.dm id:=by
   intro id h;rcases st.Cz id h with h|h|h
   ·exact h
   ·omega
   ·rw [g3] at h; simp at h
  obtain⟨wT,f1,f2,f3,f4,f5,f6⟩:=frame rel nQ st r' Hc.next (fun id hid h=>rel.fresh id hid (Dr id h))
  have qC: ∀id x,Hc.get id=some x->wT.get id=some x:=by
   intro id x h
   cases h':u4.get id with
   |none=>exact f4 id x h h'
   |some y=> have:=nQ id y h';rw [h] at this;simp at this;subst this;exact f3 id x h'
  refine fin u E' wT w' k f6 f5 W Fp ?_ (by rw [f1,Fk]) f2 J (fun id h=> .inl (Dr id h)) (fun id x h=>qC id x (HK id x h)) ?_
  ·intro j oj gE hj;rw [<- pk j oj gE hj];constructor
   ·intro h;rcases h with rfl|h
    ·rw [mw] at hj; simp at hj
    ·exact h
   ·exact .inr
  ·intro b x K hu M;by_cases Ee:b=i
   ·subst Ee;rw [p.I0 b (by rw [mw]; simp)] at M;simp at M
   ·exact qC _ x (iN b x (K.resolve_left Ee) hu M)
def left (l:Nat->Bool):Nat->Nat
 |0=>0
 |n+1=>left l n+(if l n then 0 else 1)
theorem yN {l l':Nat->Bool} (h: ∀j,l j=true->l' j=true): ∀n,left l' n<=left l n
 |0=>ar _
 |n+1=>by
  have:=yN h n;simp only [left]
  grind
theorem yM {l l':Nat->Bool} (h: ∀j,l j=true->l' j=true) {i:Nat} (O:l i=false) (U:l' i=true): ∀n,i<n->left l' n<left l n
 |0,hi=>by omega
 |n+1,hi=>by
  have hle:=yN h n;simp only [left];by_cases xr:i=n
  ·grind
  ·have:=yM h O U n J
   grind
theorem nK {l:Nat->Bool}: ∀n,left l n=0->∀i,i<n->l i=true
 |0,_,i,hi=>by omega
 |n+1,h,i,hi=>by
  simp only [left] at h;by_cases xr:i=n
  ·grind
  ·exact nK n J i J
theorem rA.zP (q:rA P ρ ops gK H0) {listed:Array Bool} (dc:listed.size=ops.size) (h:Region.ready .any ops listed= []): ∀i,i<ops.size->listed[i]?=some true:=by
 intro i
 induction i using Nat.strongRecOn with
 |_ i ih=>
  intro hi
  cases I:listed[i]? with
  |none=>rw [abz] at I; omega
  |some b=>
   cases b with
   |true=>rfl
   |false=>
    exfalso;have ho:ops[i]?=some ops[i]:=by simp [hi]
    have:i∈Region.ready .any ops listed:=by rw [mem_ready];refine⟨by simp [I],ops[i],ho,fun e he K=>?_⟩;have c6:=q.back i _ ho e he K;simp [ih e.on c6 J]
    grind
theorem rA.any {E0:En} {a0:Act} {w0:World} (hd: ∀o∈ops.toList,∀d,o.dst=some d->d<a0.tmps.size) {Q:Exit->Act->World->Prop} (hq: ∀a w,p.Inv E0 a0 w0 (fun i=>i<ops.size) a w->Q .normal a w) :
 ∀(fuel:Nat) (listed:Array Bool) (a:Act) (w:World),listed.size=ops.size->left (fun i=>listed.getD i true) ops.size<=fuel->p.Inv E0 a0 w0 (fun i=>listed[i]?=some true) a w->wpAny P .any ops Q fuel listed a w:=by
 have BH: ∀(listed:Array Bool) (a:Act) (w:World),listed.size=ops.size->p.Inv E0 a0 w0 (fun i=>listed[i]?=some true) a w->Region.ready .any ops listed= []->Q .normal a w:=by
  intro listed a w dc inv fY;have qC:=p.zP dc fY;refine hq a w ?_
  have:(fun i=>listed[i]?=some true)=(fun i=>i<ops.size):=by
   grind
  grind
 intro fuel
 induction fuel with
 |zero=>
  intro listed a w dc y7 inv;have qC:=nK (l:=fun i=>listed.getD i true) ops.size J
  have fY:Region.ready .any ops listed= []:=by
   rw [aaY];intro i hi;rw [mem_ready] at hi
   grind
  exact⟨fY,BH listed a w dc inv fY⟩
 |succ fuel ih=>
  intro listed a w dc y7 inv;refine⟨BH listed a w dc inv,fun i hi=>?_⟩;rw [mem_ready] at hi;obtain⟨O,o,U,N⟩:=hi;have xr:=(aV.1 U).1
  have KM:listed[i]?=some false:=by simp_all
  refine p.step hd inv U (by rw [KM]; simp) (fun e he K=>?_) fun a' w' Lo=>?_
  ·have:=N e he K
   cases B:listed[e.on]? with
   |none=>simp [B] at this
   |some b=>simp [B] at this; rw [this]
  ·refine ih _ a' w' (by simpa using dc) ?_ ?_
   ·have:=yM (l:=fun j=>listed.getD j true) (l':=fun j=>(listed.setIfInBounds i true).getD j true) (i:=i) (fun j hj=>?_) O ?_ ops.size xr
    ·omega
    ·by_cases JO:i=j
     all_goals simp_all
    simp_all
   grind
theorem rA.start {E0:En} {s0:St} {a0:Act} {w0:World} (hs:s0.bj=gK) (hh:s0.h=H0) (hρ:E0.ρ=ρ) (fit:Fit E0 s0 a0 w0) (listed:Array Bool) (I: ∀(i:Nat),listed[i]?≠some true):p.Inv E0 a0 w0 (fun i=>listed[i]?=some true) a0 w0:=by
 subst hs hh;obtain⟨O,U,N⟩:=p.first;have rel:=fit.rel;have r1:bq E0 ⟨s0.h.m,(p.F 0).next,none⟩ w0:=rel.part (fun id x h=>h) (by show s0.h.next<=(p.F 0).next; omega) ad;refine⟨rfl,rfl,fun i j _ h=>absurd h (I j),E0,⟨s0.h.m,(p.F 0).next,none⟩,0,aaV _,fun j o _ _=> ⟨fun h=>absurd h (I j),fun h=>by omega⟩,hρ,?_,r1,rfl,rfl,U,fun id h=> .inl h,?_,fun id x h=>N id x h,fun b x h=>absurd h (I b),?_,fun j oj t h=>absurd h (I j)⟩
 ·have:=(ca.refl E0 s0.h w0).IK;exact⟨this.ρ,this.dm,this.θ,this.κ,this.ro,this.lU,this.os,this.tape,this.output,this.size,this.bw,this.own,this.hd⟩
 ·intro i o _ _ jK;exact rel.fresh _ J jK
 ·intro t x ht _;exact fit.sr t x ht
theorem rA.finish {E0:En} {s0 s':St} {a0 a:Act} {w0 w:World} (hh:s0.h=H0) (inv:p.Inv E0 a0 w0 (fun i=>i<ops.size) a w) (Fg:bu ρ s'.pc)
 (Jj: ∀t x,s'.bj.get t=some x->(∃(j:Nat) (oj:Oper),ops[j]?=some oj/\oj.dst=some t/\p.val j=x)\/(gK.get t=some x/\∀(j:Nat) (oj:Oper),ops[j]?=some oj->oj.dst≠some t))
 (KR: ∀id x,s'.h.get id=some x->(p.F p.nE).get id=some x\/∃b,b<ops.size/\p.un p.nE b=true/\id=p.base+b/\p.ru b=some x)
 (D8:(p.F p.nE).next=s'.h.next) (xq:s'.h.res=none) (qC: ∀(m:Nat),m<p.nE->∃(j:Nat) (o:Oper),ops[j]?=some o/\p.kd j= .e/\p.st j=m):fB E0 s0 a0 w0 s' a w:=by
 subst hh;obtain⟨O,U,rI,E,Hc,k,Fp,pk,hρ,va,rel,Fk,xp,eL,jK,D3,HK,iN,k9,Jm⟩:=inv
 have R:k=p.nE:=by
  rcases aG k p.nE with h|h
  all_goals grind
 subst R
 have nQ: ∀id x,s'.h.get id=some x->Hc.get id=some x:=by
  intro id x h
  grind
 have hf:=p.first.1;refine⟨O,U,E,?_,rel.part nQ J (by rw [xq]; simp),?_,by rw [hρ]; exact Fg⟩
 ·refine zB.AS ⟨va.ρ,va.dm,va.θ,va.κ,va.ro,va.lU,va.os,va.tape,va.output,va.size,va.bw,fun id o h=>va.own id o (nQ id o h),va.hd⟩ J xq fun id h=>?_;rcases jK id h with g|g
  ·grind
  ·right;refine⟨g,?_⟩;rcases aG id s'.h.next with g'|g'
   ·exact g'
   ·exact absurd h (rel.fresh id J)
 ·intro t x ht
  grind
end
end
end Go.As
end
section
namespace Go.As
noncomputable section
mutual
def bZ:Z->Z->Bool
 | .bool a,.bool b=>gn a b
 | .int k a,.int l b=>decide (k=l)&&cf a b
 | .str a,.str b=>decide (a=b)
 | .ptr i o,.ptr j p=>decide (i=j)&&decide (o=p)
 | .dw,.dw=>true
 | .fD a,.fD b=>dk a b
 | .slice i o l c,.slice j p m d=>decide (i=j)&&decide (o=p)&&decide (l=m)&&decide (c=d)
 | .bE,.bE=>true
 | .ro a n f,.ro b m g=>dk a b&&decide (n=m)&&decide (f=g)
 | .map i,.map j=>decide (i=j)
 | .eS,.eS=>true
 | .func f a b,.func g c d=>decide (f=g)&&dk a c&&dk b d
 | .jZ,.jZ=>true
 | .iface t v,.iface u x=>decide (t=u)&&bZ v x
 | .lB,.lB=>true
 | .agg a,.agg b=>dk a b
 | .tuple a,.tuple b=>dk a b
 | .vu i,.vu j=>decide (i=j)
 | .k8 i a,.k8 j b=>decide (i=j)&&decide (a=b)
 | .emp,.emp=>true
 | .cE a t,.cE b u=>cf a b&&Nat.beq t u
 | .dW a,.dW b=>cf a b
 | .hK i n t,.hK j m u=>Nat.beq i j&&cf n m&&Nat.beq t u
 | .nk i a x o,.nk j b y p=>Nat.beq i j&&Nat.beq a b&&cf x y&&Nat.beq o p
 | .jN i l n t,.jN j k m u=>Nat.beq i j&&cf l k&&cf n m&&Nat.beq t u
 | .any,.any=>true
 | .lN a t,.lN b u=>cf a b&&Nat.beq t u
 |_,_=>false
def dk:List Z->List Z->Bool
 |[],[]=>true
 |x::xs,y::ys=>bZ x y&&dk xs ys
 |_,_=>false
end
mutual
theorem dx: ∀(x y:Z),bZ x y=true->x=y
 | .bool a,y,h=>by cases y<;>simp [bZ] at h<;>rw [iE _ _ h]
 | .int k a,y,h=>by cases y<;>simp [bZ] at h<;>rw [h.1,bD _ _ h.2]
 | .str a,y,h=>by cases y<;>simp [bZ] at h<;>simp [h]
 | .ptr i o,y,h=>by cases y<;>simp [bZ] at h<;>simp [h]
 | .dw,y,h=>by cases y<;>simp [bZ] at h<;>rfl
 | .fD a,y,h=>by cases y<;>simp [bZ] at h; rw [cy _ _ h]
 | .slice i o l c,y,h=>by cases y<;>simp [bZ] at h<;>simp [h]
 | .bE,y,h=>by cases y<;>simp [bZ] at h<;>rfl
 | .ro a n f,y,h=>by cases y<;>simp [bZ] at h; rw [cy _ _ h.1.1,h.1.2,h.2]
 | .map i,y,h=>by cases y<;>simp [bZ] at h<;>simp [h]
 | .eS,y,h=>by cases y<;>simp [bZ] at h<;>rfl
 | .func f a b,y,h=>by cases y<;>simp [bZ] at h; rw [h.1.1,cy _ _ h.1.2,cy _ _ h.2]
 | .jZ,y,h=>by cases y<;>simp [bZ] at h<;>rfl
 | .iface t v,y,h=>by cases y<;>simp [bZ] at h; rw [h.1,dx _ _ h.2]
 | .lB,y,h=>by cases y<;>simp [bZ] at h<;>rfl
 | .agg a,y,h=>by cases y<;>simp [bZ] at h; rw [cy _ _ h]
 | .tuple a,y,h=>by cases y<;>simp [bZ] at h; rw [cy _ _ h]
 | .vu i,y,h=>by cases y<;>simp [bZ] at h<;>simp [h]
 | .k8 i a,y,h=>by cases y<;>simp [bZ] at h<;>simp [h]
 | .emp,y,h=>by cases y<;>simp [bZ] at h<;>rfl
 | .cE a t,y,h=>by cases y<;>simp [bZ] at h<;>rw [h.2,bD _ _ h.1]
 | .dW a,y,h=>by cases y<;>simp [bZ] at h<;>rw [bD _ _ h]
 | .hK i n t,y,h=>by cases y<;>simp [bZ] at h<;>rw [h.1.1,bD _ _ h.1.2,h.2]
 | .nk i a x o,y,h=>by cases y<;>simp [bZ] at h<;>rw [h.1.1.1,h.1.1.2,bD _ _ h.1.2,h.2]
 | .jN i l n t,y,h=>by cases y<;>simp [bZ] at h<;>rw [h.1.1.1,bD _ _ h.1.1.2,bD _ _ h.1.2,h.2]
 | .any,y,h=>by cases y<;>simp [bZ] at h<;>rfl
 | .lN a t,y,h=>by cases y<;>simp [bZ] at h<;>rw [h.2,bD _ _ h.1]
theorem cy: ∀(xs ys:List Z),dk xs ys=true->xs=ys
 |[],ys,h=>by cases ys<;>simp [dk] at h; rfl
 |x::xs,ys,h=>by
  cases ys with
  |nil=>simp [dk] at h
  |cons y ys=>simp [dk] at h; rw [dx _ _ h.1,cy _ _ h.2]
end
def qd (o:Op):List Nat:=o.operands.toList.filterMap fun
 | .tmp t=>some t
 |_=>none
def reads (all:List Oper) (o:Oper):List Nat:=match o.guard with
 |none=>qd o.op
 |some (j,_)=>match cq all j with
  |some oj=>match oj.dst with
   |some d=>d::qd o.op
   |none=>qd o.op
  |none=>qd o.op
def kindOf (tt:TT):Op->Kind
 | .load _ _=> .r
 | .lookup _ _ _ _=> .r
 | .call c=>match c.callee with
   | .builtin b=>match b with
     | .len=> .r
     | .min=> .pa
     | .max=> .pa
     |_=> .e
   |_=> .e
 | .store _ _ _=> .e
 | .insert _ _ _ _=> .e
 | .mapUpdate _ _ _ _=> .e
 | .next _ _=> .e
 | .range _ _=> .e
 | .convert t u _=>match tt t with
   |some i=>match i.kind with
    | .slice _=>match tt u with
      |some j=>match j.kind with
       | .string=> .r
       |_=> .e
      |none=> .e
    |_=> .pa
   |none=> .e
 | .panic _=> .e
 |_=> .pa
def gg (ms:List Nat):List Edge->Nat
 |[]=>0
 |e::es=>if Region.binds .any e then ((1 <<<e.on)|||ms.getD e.on 0)|||gg ms es else gg ms es
def ia:List Oper->List Nat->List Nat
 |[],ms=>ms
 |o::os,ms=>ia os (ms++ [gg ms o.after.toList])
structure Item where
 i:Nat
 o:Oper
 m:Nat
 k:Kind
 st:Nat
 rd:List Nat
def items (tt:TT) (all:List Oper) (ms:List Nat):List Oper->Nat->Nat->List Item
 |[],_,_=>[]
 |o::os,i,n=> ⟨i,o,ms.getD i 0,kindOf tt o.op,n,reads all o⟩ ::items tt all ms os (i+1) (match kindOf tt o.op with | .e=>n+1|_=>n)
def Kind.DZ:Kind->Bool
 | .e=>true
 |_=>false
def Kind.DY:Kind->Bool
 | .r=>true
 |_=>false
def ly (ms:List Nat) (is:List Item) (x:Item):Bool:=
 x.o.after.toList.all (fun e=>!Region.binds .any e||decide (e.on<x.i))&&
 decide (x.m=gg ms x.o.after.toList)&&
 x.rd.all (fun t=>is.all fun y=>decide (y.o.dst≠some t)||x.m.testBit y.i||(!x.k.DY&&y.m.testBit x.i))&&
 is.all (fun y=>decide (y.i=x.i)||(match y.o.dst with |some d=>decide (x.o.dst≠some d)|none=>true))&&
 (!x.k.DZ||is.all fun y=>!y.k.DZ||!decide (y.i<x.i)||x.m.testBit y.i)
def nq (is:List Item) (n:Nat) (x:Item):List Nat:=
 (List.range (n+1)).filter fun k=>is.all fun y=>!y.k.DZ||((!x.m.testBit y.i||decide (y.st<k))&&(!y.m.testBit x.i||decide (k<=y.st)))
structure Stat where
 is:List Item
 nE:Nat
 rs:List (Item×List Nat)
def dQ:List Item->Nat
 |[]=>0
 |x::xs=>match x.k with | .e=>dQ xs+1|_=>dQ xs
def stat (tt:TT) (all:List Oper):Option Stat:=
 let ms:=ia all [];let is:=items tt all ms all 0 0
 if is.all (ly ms is) then
  some ⟨is,dQ is,(is.filter (·.k.DY)).map fun x=>(x,nq is (dQ is) x)⟩
 else none
def only (bj:Tr Z):List Nat->Tr Z
 |[]=> .nil
 |t::ts=>match bj.get t with
  |some v=>(only bj ts).put t (some v)
  |none=>only bj ts
structure yi where
 bj:Tr Z
 eY:List (Hp×Nat)
 c7:List (Nat×bS)
 oE:List (Option bS)
 vs:List Z
def ct (base bm mm:Nat):List (Nat×bS)->Hp->Hp
 |[],h=>h
 |(a,x)::r,h=>if bm.testBit a&&!mm.testBit a then (ct base bm mm r h).put (base+a) x else ct base bm mm r h
def Cy (tt:TT) (call:bR) (all:List Oper) (o:Oper) (s:St):T (Z×St):=
 kK all s o fun s b=>if b then uh tt call s o.op else .ret (Z.undef,s)
def jT (bj:Tr Z) (d:Option Nat) (v:Z):Tr Z:=match d with
 |some t=>bj.put t (some v)
 |none=>bj
def B5 (tt:TT) (call:bR) (all:List Oper) (base Y!:Nat) (pc:List (SB×Bool)) (x:Item) (d:yi):T yi:=
 match d.eY with
 |[]=> .fail
 |(h,mm)::rest=>
  match x.k with
  | .pa=>(Cy tt call all x.o ⟨only d.bj x.rd,⟨.nil,Y!,some (base+x.i)⟩,pc⟩).bind fun (v,s')=>
    if s'.h.next=Y! then
     .ret ⟨jT d.bj x.o.dst v,d.eY,match s'.h.get (base+x.i) with |some b=>(x.i,b)::d.c7|none=>d.c7,s'.h.get (base+x.i)::d.oE,v::d.vs⟩
    else .fail
  | .e=>(Cy tt call all x.o ⟨only d.bj x.rd,ct base x.m mm d.c7 h,pc⟩).bind fun (v,s')=>
    if s'.h.next<=Y!/\s'.h.res=none then
     .ret ⟨jT d.bj x.o.dst v,(s'.h,mm|||x.m)::(h,mm)::rest,d.c7,none::d.oE,v::d.vs⟩
    else .fail
  | .r=>(Cy tt call all x.o ⟨only d.bj x.rd,ct base x.m mm d.c7 h,pc⟩).bind fun (v,_)=>
    .ret ⟨jT d.bj x.o.dst v,d.eY,d.c7,none::d.oE,v::d.vs⟩
def T.nc {α β:Type} (pc:List (SB×Bool)) (f:List (SB×Bool)->α->T β):T α->T β
 | .fail=> .fail
 | .ret a=>f pc a
 | .split c x y=>match dS pc c with
   |some true=>T.nc pc f x
   |some false=>T.nc pc f y
   |none=> .split c (T.nc ((c,true)::pc) f x) (T.nc ((c,false)::pc) f y)
def Av (tt:TT) (call:bR) (all:List Oper) (base Y!:Nat):List Item->List (SB×Bool)->yi->T (List (SB×Bool)×yi)
 |[],pc,d=> .ret (pc,d)
 |x::xs,pc,d=>(B5 tt call all base Y! pc x d).nc pc (Av tt call all base Y! xs)
def pe (tt:TT) (call:bR) (all:List Oper) (base:Nat) (pc:List (SB×Bool)) (x:Item) (v:Z) (S:Tr Z) (c7:List (Nat×bS)) (eY:List (Hp×Nat)):List Nat->T Unit
 |[]=> .ret ()
 |k::ks=>match cq eY k with
  |some (h,mm)=>(Cy tt call all x.o ⟨S,ct base x.m mm c7 h,pc⟩).bind fun (u,_)=>
   if bZ u v then pe tt call all base pc x v S c7 eY ks else .fail
  |none=> .fail
def tA (tt:TT) (call:bR) (all:List Oper) (base:Nat) (d:yi) (eY:List (Hp×Nat)) (vs:List Z):List (Item×List Nat)->List (SB×Bool)->T (List (SB×Bool))
 |[],pc=> .ret pc
 |(x,ks)::r,pc=>match cq vs x.i with
  |some v=>(pe tt call all base pc x v (only d.bj x.rd) d.c7 eY ks).nc pc fun pc _=>tA tt call all base d eY vs r pc
  |none=> .fail
def tp (base:Nat) (c7:List (Nat×bS)) (eY:List (Hp×Nat)):Bool:=
 c7.all fun (a,_)=>eY.all fun (h,mm)=>mm.testBit a||(h.get (base+a)).isNone
def rh (tt:TT) (call:bR) (all:List Oper) (q:Stat) (s:St):T St:=
 match s.h.res with
 |some _=> .fail
 |none=>
 let base:=s.h.next;let n:=all.length;let Y!:=base+n+1099511627776
 (Av tt call all base Y! q.is s.pc ⟨s.bj,[(⟨s.h.m,base+n,none⟩,0)],[],[],[]⟩).bind fun (pc,d)=>
  match d.eY with
  |[]=> .fail
  |(h,mm)::_=>
   (tA tt call all base d d.eY.reverse d.vs.reverse q.rs pc).bind fun pc=>
    if tp base d.c7 d.eY then .ret ⟨d.bj,ct base ((1 <<<n)-1) mm d.c7 h,pc⟩ else .fail
def draw (tt:TT) (call:bR) (all:List Oper) (s:St):T St:=
 match stat tt all with
 |none=> .fail
 |some q=>rh tt call all q s
end
end Go.As
end
section
namespace Go.As
section
variable {P:Program}
theorem uI [bp] {tt:TT} (bx:bV P tt) {call:bR} (B:dD P call) {ops:Array Oper} {o:Oper} {s s':St} {v:Z} {ρ:Nat->Int} (F:bu ρ s.pc) (h:(Cy tt call ops.toList o s).leaf ρ=some (v,s')) :
 rE P ρ ops o s.bj s.h v s'.h:=by
 intro E a w hρ r sr;subst hρ;unfold Cy at h;obtain⟨cl,cM,O⟩:=qe ⟨r,sr,F⟩ h;cases hw:Region.wanted o (yielded ops a.tmps)<;>rw [hw] at O
 ·grind [bh]
 ·simp only [if_true] at O;obtain⟨_,_,q3⟩:=zf bx B (s:={ s with pc:=cl }) (o:=o) r sr cM O;exact .inr ⟨rfl,q3⟩
theorem fX {α:Type} {ρ:Nat->Int} {s:St} {c:SB} {f:St->Bool->T α} {r:α} (h:(dP s c f).leaf ρ=some r): ∃cl b,(f { s with pc:=cl } b).leaf ρ=some r:=by
 unfold dP at h;split at h
 ·rename_i b _; exact⟨s.pc,b,h⟩
 grind [T.leaf]
theorem tD {α:Type} {ρ:Nat->Int} {s:St} {all:List Oper} {o:Oper} {f:St->Bool->T α} {r:α} (h:(kK all s o f).leaf ρ=some r): ∃cl b,(f { s with pc:=cl } b).leaf ρ=some r:=by
 unfold kK at h;split at h
 ·exact⟨s.pc,true,h⟩
 ·split at h
  ·split at h
   ·split at h
    ·obtain⟨cl,b,O⟩:=fX h; exact⟨cl,_,O⟩
    ·exact⟨s.pc,_,h⟩
    grind [T.leaf]
   grind [T.leaf]
  grind [T.leaf]
theorem qf {ρ:Nat->Int} {s:St} {x:Operand} {f:Z->T (Z×St)} {r:Z×St} (h:(mh s x f).leaf ρ=some r): ∃v,(f v).leaf ρ=some r:=by
 grind [mh,T.leaf]
theorem kI {ρ:Nat->Int} {s s':St} {x:Option Z} {v:Z} (h:(gP s x).leaf ρ=some (v,s')):s'=s:=by
 unfold gP at h
 grind [bh,T.leaf]
theorem ET {tt:TT} {op:Op} (h:kindOf tt op= .r):(∃t x,op= .load t x)\/(∃t x i ok,op= .lookup t x i ok)\/(∃c:Call,op= .call c/\c.callee= .builtin .len)\/∃t u x i j e,op= .convert t u x/\tt t=some i/\i.kind= .slice e/\tt u=some j/\j.kind= .string:=by
 unfold kindOf at h;split at h<;>try (simp at h; done)
 all_goals grind
theorem su {α:Type} {ρ:Nat->Int} {s:St} {i n:Y} {f:St->T α} {r:α} (h:(mj s i n f).leaf ρ=some r): ∃cl,(f { s with pc:=cl }).leaf ρ=some r:=by
 unfold mj at h;obtain⟨ea,b1,O⟩:=fX h;split at O
 ·grind [T.leaf]
 ·obtain⟨gQ,b2,U⟩:=fX O
  grind [T.leaf]
theorem jw {α:Type} {ρ:Nat->Int} {kk:TK} {k:Z} {r:α} {f:St->T α}: ∀{es:List (Z×Z×Nat)} {s:St},(jx kk k es s f).leaf ρ=some r->∃cl,(f { s with pc:=cl }).leaf ρ=some r
 |[],s,h=> ⟨s.pc,h⟩
 |(k',v,b)::es,s,h=>by
  simp only [jx] at h;split at h
  ·split at h
   ·exact⟨s.pc,h⟩
   ·exact jw h
  ·split at h
   ·obtain⟨ea,b1,O⟩:=fX h;split at O
    ·grind
    ·obtain⟨gQ,U⟩:=jw O
     grind
   ·exact⟨s.pc,h⟩
theorem rJ {α:Type} {ρ:Nat->Int} {tt:TT} {t:Nat} {m k:Z} {r:α} {f:St->T α} {s:St} (h:(fQ tt t m k s f).leaf ρ=some r): ∃cl,(f { s with pc:=cl }).leaf ρ=some r:=by
 unfold fQ at h;split at h
 ·split at h
  ·split at h
   ·split at h
    ·exact jw h
    ·exact⟨s.pc,h⟩
   ·exact⟨s.pc,h⟩
  ·exact⟨s.pc,h⟩
 ·exact⟨s.pc,h⟩
theorem Dz {s s':St} {cs:List Z} {e:Y} {v:Z} {ρ:Nat->Int} (h:(sY s cs e).leaf ρ=some (v,s')):s'.h=s.h:=by
 grind [sY,T.leaf,su,bh]
theorem An {tt:TT} {s s':St} {ty t:Nat} {k:Z} {ok:Bool} {e:Y} {v:Z} {ρ:Nat->Int} (h:(mK tt ty k ok e t s).leaf ρ=some (v,s')):s'.h=s.h:=by
 unfold mK at h;split at h
 ·grind [T.leaf]
 ·split at h
  ·grind [T.leaf]
  ·obtain⟨cl,b,O⟩:=fX h
   grind [bh]
theorem om {α:Type} {ρ:Nat->Int} {i:Y} {r:α}: ∀{ov:List (Y×List Z)} {s:St} {k:St->T α},(jQ i ov s k).leaf ρ=some r->∃cl,(k { s with pc:=cl }).leaf ρ=some r
 |[],s,k,h=> ⟨s.pc,h⟩
 |(j,c)::l,s,k,h=>by
  simp only [jQ] at h;split at h
  ·exact⟨s.pc,h⟩
  ·obtain⟨ea,b1,O⟩:=fX h;split at O
   ·grind
   ·obtain⟨gQ,U⟩:=om O
    grind
theorem Ao {tt:TT} {s s':St} {ty id es off:Nat} {i:Y} {v:Z} {ρ:Nat->Int} (h:(mL tt s ty id es i off).leaf ρ=some (v,s')):s'.h=s.h:=by
 unfold mL at h;split at h
 ·split at h
  ·grind [T.leaf,Dz]
  ·split at h
   all_goals grind [su,om,kI,T.leaf]
  grind [T.leaf]
 grind [T.leaf]
theorem mE {α:Type} {ρ:Nat->Int} {x:Y} {r:α}: ∀{ov:List (Y×Z)} {s:St} {k:Option Z->St->T α},(jr x ov s k).leaf ρ=some r->∃o cl,(k o { s with pc:=cl }).leaf ρ=some r
 |[],s,k,h=> ⟨none,s.pc,h⟩
 |(j,c)::l,s,k,h=>by
  simp only [jr] at h;split at h
  ·exact⟨_,s.pc,h⟩
  ·obtain⟨ea,b1,O⟩:=fX h;split at O
   ·exact⟨_,ea,O⟩
   ·obtain⟨o,gQ,U⟩:=mE O;exact⟨o,gQ,U⟩
theorem Am {tt:TT} {ty:Nat} {k:Z} {ok:Bool} {e:Y} {ov:List (Y×Z)} {s s':St} {v:Z} {ρ:Nat->Int} (h:(mJ tt ty k ok e ov s).leaf ρ=some (v,s')):s'.h=s.h:=by
 unfold mJ at h;split at h
 ·simp [T.leaf] at h
 ·split at h
  ·simp [T.leaf] at h
  ·obtain⟨o,ea,O⟩:=mE h;split at O
   ·have:=bh O;simp only [ag] at this;rw [<- this.2]
   ·obtain⟨gQ,b2,U⟩:=fX O;split at U
    ·have:=bh U;simp only [ag] at this;rw [<- this.2]
    ·simp [T.leaf] at U
theorem FM {tt:TT} {call:bR} {op:Op} {s s':St} {v:Z} {ρ:Nat->Int} (R:kindOf tt op= .r) (h:(uh tt call s op).leaf ρ=some (v,s')):s'.h=s.h:=by
 rcases ET R with ⟨t,x,rfl⟩|⟨t,x,i,ok,rfl⟩|⟨c,rfl,B⟩|⟨t,u,x,i,j,e,rfl,hi,he,hj,hs⟩
 ·grind [uh,qf,Ao,kI]
 ·grind [uh,qf,An,Am,rJ,kI,T.leaf]
 ·simp only [uh,uC] at h;split at h
  ·grind [T.leaf]
  ·rw [B] at h;simp only [kU] at h
   grind [kI,T.leaf]
 ·simp only [uh] at h;obtain⟨p,O⟩:=qf h;split at O
  ·grind [px,T.leaf]
  obtain⟨H,e1,rfl⟩:=gO O;unfold gG at e1;rw [hi,hj] at e1;simp only [hs,he] at e1;split at e1
  ·grind
  ·split at e1
   ·split at e1
    ·grind
    ·split at e1
     ·rw [az] at e1
      grind
     grind
    grind
   grind
theorem Ib {tt:TT} {call:bR} {all:List Oper} {o:Oper} {s s':St} {v:Z} {ρ:Nat->Int} (R:kindOf tt o.op= .r) (h:(Cy tt call all o s).leaf ρ=some (v,s')):s'.h=s.h:=by
 unfold Cy at h;obtain⟨cl,b,O⟩:=tD h;cases b
 ·grind [bh]
 ·simp only [if_true] at O;exact FM (s:={ s with pc:=cl }) R O
theorem gm {base bm mm:Nat}: ∀{l:List (Nat×bS)} {h:Hp} {id:Nat} {x:bS},(ct base bm mm l h).get id=some x->h.get id=some x\/∃a,(a,x)∈l/\bm.testBit a=true/\mm.testBit a=false/\id=base+a
 |[],h,id,x,hh=> .inl hh
 |(a,y)::r,h,id,x,hh=>by
  simp only [ct] at hh;split at hh
  ·rename_i K;rw [Hp.br] at hh;split at hh
   ·rename_i e
    grind
   ·rcases gm hh with O|⟨b,O,U⟩
    all_goals grind
  ·rcases gm hh with O|⟨b,O,U⟩
   all_goals grind
theorem dI {base bm mm:Nat}: ∀(l:List (Nat×bS)) (h:Hp),(ct base bm mm l h).next=h.next/\(ct base bm mm l h).res=h.res
 |[],h=> ⟨rfl,rfl⟩
 |(a,y)::r,h=>by
  have:=dI (base:=base) (bm:=bm) (mm:=mm) r h;simp only [ct];split
  ·exact this
  grind
theorem mg {bj:Tr Z}: ∀{ts:List Nat} {t:Nat} {x:Z},(only bj ts).get t=some x->t∈ts/\bj.get t=some x
 |[],t,x,h=>by simp [only,Tr.get] at h
 |u::us,t,x,h=>by
  simp only [only] at h;split at h
  ·rename_i v W;rw [Tr.br] at h;split at h
   ·rename_i e
    grind
   ·have:=mg h
    grind
  ·have:=mg h
   grind
theorem kH {bj:Tr Z} {d:Option Nat} {v:Z} {t:Nat}:(jT bj d v).get t=if d=some t then some v else bj.get t:=by
 cases d with
 |none=>simp [jT]
 |some u=>
  grind [jT,Tr.br]
theorem gB {ms:List Nat} {i:Nat}: ∀{es:List Edge},(gg ms es).testBit i=true->∃e∈es,Region.binds .any e=true/\(e.on=i\/(ms.getD e.on 0).testBit i=true)
 |[],h=>by simp [gg] at h
 |e::es,h=>by
  simp only [gg] at h;split at h
  ·rename_i K;simp only [Nat.testBit_or,aah] at h;rcases h with (h|h)|h
   ·rw [Nat.shiftLeft_eq,aam,Nat.testBit_two_pow] at h
    grind
   ·grind
   ·obtain⟨e',O,U⟩:=gB h
    grind
  ·obtain⟨e',O,U⟩:=gB h
   grind
def dH (tt:TT):List Oper->Nat
 |[]=>0
 |o::os=>(match kindOf tt o.op with | .e=>1|_=>0)+dH tt os
theorem dN {tt:TT} {all:List Oper} {ms:List Nat}: ∀(os:List Oper) (i n j:Nat),(items tt all ms os i n)[j]?=(os[j]?).map fun o=> ⟨i+j,o,ms.getD (i+j) 0,kindOf tt o.op,n+dH tt (os.take j),reads all o⟩
 |[],i,n,j=>by simp [items]
 |o::os,i,n,j=>by
  simp only [items]
  cases j with
  |zero=>simp [dH]
  |succ j=>
   rw [aaW,dN os]
   grind [dH]
theorem jf {tt:TT} {all:List Oper} {ms:List Nat}: ∀(os:List Oper) (i n:Nat),(items tt all ms os i n).length=os.length
 |[],i,n=>rfl
 |o::os,i,n=>by simp [items,jf os]
theorem fy {tt:TT} {all:List Oper} {ms:List Nat}: ∀(os:List Oper) (i n:Nat),dQ (items tt all ms os i n)=dH tt os
 |[],i,n=>rfl
 |o::os,i,n=>by
  simp only [items,dQ,dH,fy os]
  grind
end
section
variable {P:Program}
def rz [bp] (P:Program) (ρ:Nat->Int) (ops:Array Oper) (base Y!:Nat) (x:Item) (d:yi) (v:Z) (ob:Option bS) (d1:yi):Prop:=
 ∃h mm rest,d.eY=(h,mm)::rest/\match x.k with
  | .pa=>d1.eY=d.eY/\∃HA,rE P ρ ops x.o (only d.bj x.rd) ⟨.nil,Y!,some (base+x.i)⟩ v HA/\HA.next=Y!/\ob=HA.get (base+x.i)
  | .e=>ob=none/\∃hn,d1.eY=(hn,mm|||x.m)::d.eY/\hn.next<=Y!/\hn.res=none/\rE P ρ ops x.o (only d.bj x.rd) (ct base x.m mm d.c7 h) v hn
  | .r=>ob=none/\d1.eY=d.eY
theorem B4 [bp] {tt:TT} (bx:bV P tt) {call:bR} (B:dD P call) {ops:Array Oper} {base Y!:Nat} {pc:List (SB×Bool)} {ρ:Nat->Int} (F:bu ρ pc) {x:Item} {d d1:yi} (h:(B5 tt call ops.toList base Y! pc x d).leaf ρ=some d1) :
 ∃v ob,d1.bj=jT d.bj x.o.dst v/\d1.vs=v::d.vs/\d1.oE=ob::d.oE/\d1.c7=(match ob with |some b=>(x.i,b)::d.c7|none=>d.c7)/\rz P ρ ops base Y! x d v ob d1:=by
 unfold B5 at h;split at h
 ·grind [T.leaf]
 ·rename_i h0 mm rest hs;split at h
  ·rename_i R;obtain⟨⟨v,s'⟩,O,U⟩:=T.cA h;have ha:=uI bx B (s:=⟨only d.bj x.rd,⟨.nil,Y!,some (base+x.i)⟩,pc⟩) F O;simp only at U;split at U
   ·rename_i hn;have:=bh U;subst this;refine⟨v,s'.h.get (base+x.i),rfl,rfl,rfl,?_,h0,mm,rest,hs,?_⟩
    all_goals grind
   grind [T.leaf]
  ·rename_i R;obtain⟨⟨v,s'⟩,O,U⟩:=T.cA h;have ha:=uI bx B (s:=⟨only d.bj x.rd,ct base x.m mm d.c7 h0,pc⟩) F O;simp only at U;split at U
   ·rename_i hn;have:=bh U;subst this;refine⟨v,none,rfl,rfl,rfl,rfl,h0,mm,rest,hs,?_⟩
    grind
   ·simp [T.leaf] at U
  ·rename_i R;obtain⟨⟨v,s'⟩,O,U⟩:=T.cA h;have:=bh U;subst this;refine⟨v,none,rfl,rfl,rfl,rfl,h0,mm,rest,hs,?_⟩
   grind
theorem rz.eY [bp] {ρ:Nat->Int} {ops:Array Oper} {base Y!:Nat} {x:Item} {d d1:yi} {v:Z} {ob:Option bS} (h:rz P ρ ops base Y! x d v ob d1): ∃pre,d1.eY=pre++d.eY/\pre.length=dQ [x]:=by
 obtain⟨h0,mm,rest,hs,O⟩:=h;cases R:x.k<;>rw [R] at O
 ·simp_all [dQ]
 ·obtain⟨_,hn,U,_⟩:=O;exact⟨[(hn,mm|||x.m)],by rw [U]; rfl,by simp [dQ,R]⟩
 simp_all [dQ]
theorem rz.It [bp] {ρ:Nat->Int} {ops:Array Oper} {base Y!:Nat} {x:Item} {d d1:yi} {v:Z} {ob:Option bS} (h:rz P ρ ops base Y! x d v ob d1) (hh: ∀q∈d.eY,q.1.next<=Y!/\q.1.res=none): ∀q∈d1.eY,q.1.next<=Y!/\q.1.res=none:=by
 obtain⟨h0,mm,rest,hs,O⟩:=h
 grind
structure Im [bp] (P:Program) (ρ:Nat->Int) (ops:Array Oper) (base Y!:Nat) (xs:List Item) (d d':yi):Prop where
 vs: ∃pre,d'.vs=pre++d.vs/\pre.length=xs.length
 oE: ∃pre,d'.oE=pre++d.oE/\pre.length=xs.length
 eY: ∃pre,d'.eY=pre++d.eY/\pre.length=dQ xs
 ru: ∀a b,(a,b)∈d'.c7->(a,b)∈d.c7\/∃p x,xs[p]?=some x/\x.i=a/\d'.oE.reverse[d.oE.length+p]?=some (some b)
 Kl: ∀p x b,xs[p]?=some x->d'.oE.reverse[d.oE.length+p]?=some (some b)->(x.i,b)∈d'.c7
 Mu: ∀q,q∈d.c7->q∈d'.c7
 slot: ∀t x,d'.bj.get t=some x->(∃p y,xs[p]?=some y/\y.o.dst=some t/\d'.vs.reverse[d.vs.length+p]?=some x)\/(d.bj.get t=some x/\∀y∈xs,y.o.dst≠some t)
 same: ∀t,(∀y∈xs,y.o.dst≠some t)->d'.bj.get t=d.bj.get t
 It:(∀q∈d.eY,q.1.next<=Y!/\q.1.res=none)->∀q∈d'.eY,q.1.next<=Y!/\q.1.res=none
 at_: ∀p x,xs[p]?=some x->∃dp Au v ob pre,rz P ρ ops base Y! x dp v ob Au/\d'.vs.reverse[d.vs.length+p]?=some v/\d'.oE.reverse[d.oE.length+p]?=some ob/\d'.eY=pre++Au.eY/\dp.eY.length=d.eY.length+dQ (xs.take p)/\
  (∀q,q∈dp.c7->q∈d'.c7)/\(∀t,(∀y∈xs.drop p,y.o.dst≠some t)->d'.bj.get t=dp.bj.get t)/\
  (∀t z,dp.bj.get t=some z->(∃p' y,p'<p/\xs[p']?=some y/\y.o.dst=some t/\d'.vs.reverse[d.vs.length+p']?=some z)\/(d.bj.get t=some z/\∀y∈xs.take p,y.o.dst≠some t))
theorem A9 {α:Type} {l pre l0:List α} {v:α} (h:l=pre++v::l0):l.reverse[l0.length]?=some v:=by
 grind
theorem oT (x:Item) (xs:List Item):dQ (x::xs)=dQ [x]+dQ xs:=by
 grind [dQ]
theorem T.eT {α β:Type} {ρ:Nat->Int} {f:List (SB×Bool)->α->T β} {r:β}: ∀{x:T α} {pc:List (SB×Bool)},bu ρ pc->(x.nc pc f).leaf ρ=some r->∃a cl,x.leaf ρ=some a/\bu ρ cl/\(f cl a).leaf ρ=some r
 | .fail,pc,_,h=>by simp [T.nc,T.leaf] at h
 | .ret a,pc,F,h=> ⟨a,pc,rfl,F,h⟩
 | .split c x y,pc,F,h=>by
   simp only [T.nc] at h
   cases hd:dS pc c with
   |some b=>
    rw [hd] at h;have K:=cR F hd;simp only [T.leaf,K]
    cases b with
    |true=>exact T.eT F h
    |false=>exact T.eT F h
   |none=>
    rw [hd] at h;simp only [T.leaf] at h ⊢
    cases K:c.den ρ with
    |true=>
     rw [K] at h
     exact T.eT (x:=x) (pc:=(c,true)::pc) (fun c' b' hm=>by
      rcases aw.1 hm with he|hm
      ·simp only [ag] at he; rw [he.1,he.2]; exact K
      ·exact F c' b' hm) h
    |false=>
     rw [K] at h
     exact T.eT (x:=y) (pc:=(c,false)::pc) (fun c' b' hm=>by
      rcases aw.1 hm with he|hm
      ·simp only [ag] at he; rw [he.1,he.2]; exact K
      ·exact F c' b' hm) h
theorem zk {tt:TT} {call:bR} {all:List Oper} {base Y!:Nat} {ρ:Nat->Int}: ∀(xs:List Item) {pc cl:List (SB×Bool)} {d d':yi},bu ρ pc->(Av tt call all base Y! xs pc d).leaf ρ=some (cl,d')->bu ρ cl
 |[],pc,cl,d,d',F,h=>by
  have:=bh h
  grind
 |x::xs,pc,cl,d,d',F,h=>by simp only [Av] at h;obtain⟨d1,ea,_,dE,U⟩:=T.eT F h;exact zk xs dE U
theorem zl [bp] {tt:TT} (bx:bV P tt) {call:bR} (B:dD P call) {ops:Array Oper} {base Y!:Nat} {ρ:Nat->Int}: ∀(xs:List Item) {pc cl:List (SB×Bool)} {d d':yi},bu ρ pc->(Av tt call ops.toList base Y! xs pc d).leaf ρ=some (cl,d')->Im P ρ ops base Y! xs d d'
 |[],pc,cl,d,d',F,h=>by have:=bh h;simp only [ag] at this;obtain⟨_,rfl⟩:=this;exact⟨⟨[],rfl,rfl⟩,⟨[],rfl,rfl⟩,⟨[],rfl,rfl⟩,fun a b h=> .inl h,fun p x b hh=>by simp at hh,fun q h=>h,fun t x h=> .inr ⟨h,ad⟩,fun t _=>rfl,fun h=>h,fun p x hh=>by simp at hh⟩
 |x::xs,pc,cl,d,d',F,h=>by
  simp only [Av] at h;obtain⟨d1,ea,O,dE,U⟩:=T.eT F h;obtain⟨v,ob,e1,e2,e3,e4,hF⟩:=B4 bx B F O;obtain⟨⟨pv,v1,v2⟩,⟨po,o1,o2⟩,⟨ps,s1,s2⟩,b1,b2,b3,sl,sm,nx,jl⟩:=zl bx B xs dE U;obtain⟨qs,t1,t2⟩:=hF.eY;have Je:d'.vs.reverse[d.vs.length]?=some v:=A9 (by rw [v1,e2]);have Jx:d'.oE.reverse[d.oE.length]?=some ob:=A9 (by rw [o1,e3]);have Hd:d1.vs.length=d.vs.length+1:=by rw [e2]; rfl
  have Jw:d1.oE.length=d.oE.length+1:=by rw [e3]; rfl
  have kQ: ∀q,q∈d.c7->q∈d1.c7:=by
   intro q hq
   grind
  have lG: ∀(p n:Nat),n+1+p=n+(p+1):=by intro p n; omega
  refine⟨⟨pv++ [v],by rw [v1,e2]; simp,by simp [v2]⟩,⟨po++ [ob],by rw [o1,e3]; simp,by simp [o2]⟩,⟨ps++qs,by rw [s1,t1]; simp,by rw [aO,oT,s2,t2]; omega⟩,?_,?_,fun q hq=>b3 q (kQ q hq),?_,?_,fun hh=>nx (hF.It hh),?_⟩
  ·intro a b wS;rcases b1 a b wS with hh|⟨p,y,g1,g2,g3⟩
   ·rw [e4] at hh
    cases ob with
    |none=>exact .inl hh
    |some c=>
     simp only [aw,ag] at hh;rcases hh with ⟨rfl,rfl⟩|hh
     ·exact .inr ⟨0,x,rfl,rfl,Jx⟩
     ·exact .inl hh
   ·exact .inr ⟨p+1,y,by simpa using g1,g2,by rw [<- lG,<- Jw]; exact g3⟩
  ·intro p y b hy K
   cases p with
   |zero=> simp at hy;subst hy;rw [aH,Jx] at K;simp at K;subst K;exact b3 _ (by rw [e4]; simp)
   |succ p=> refine b2 p y b (by simpa using hy) ?_;rw [Jw,lG];exact K
  ·intro t y hy;rcases sl t y hy with ⟨p,z,g1,g2,g3⟩|⟨g1,g2⟩
   ·exact .inl ⟨p+1,z,by simpa using g1,g2,by rw [<- lG,<- Hd]; exact g3⟩
   ·rw [e1,kH] at g1;split at g1
    ·rename_i hd;simp at g1;subst g1;exact .inl ⟨0,x,rfl,hd,Je⟩
    ·rename_i hd;refine .inr ⟨g1,fun z hz=>?_⟩;rcases aw.1 hz with rfl|hz
     ·exact hd
     ·exact g2 z hz
  ·intro t ht;rw [sm t fun y hy=>ht y (by simp [hy]),e1,kH,ah (ht x ad)]
  ·intro p y hy
   cases p with
   |zero=> simp at hy;subst hy;refine⟨d,d1,v,ob,ps,hF,Je,Jx,s1,by simp [dQ],fun q hq=>b3 q (kQ q hq),fun t ht=>?_,fun t z hz=> .inr ⟨hz,ad⟩⟩;rw [sm t fun y hy=>ht y (by simp [hy]),e1,kH,ah (ht x ad)]
   |succ p=>
    obtain⟨dp,Au,v',Lm,pre,g1,g2,g3,g4,g5,g6,g7,g8⟩:=jl p y (by simpa using hy);refine⟨dp,Au,v',Lm,pre,g1,by rw [<- lG,<- Hd]; exact g2,by rw [<- lG,<- Jw]; exact g3,g4,?_,g6,fun t ht=>g7 t (by simpa using ht),fun t z hz=>?_⟩
    ·rw [g5,aar,oT,t1,aO,t2];omega
    ·rcases g8 t z hz with ⟨p',y',q1,q2,q3,q4⟩|⟨q1,q2⟩
     ·exact .inl ⟨p'+1,y',J,by simpa using q2,q3,by rw [<- lG,<- Hd]; exact q4⟩
     ·rw [e1,kH] at q1;split at q1
      ·rename_i hd;simp at q1;subst q1;exact .inl ⟨0,x,J,rfl,hd,Je⟩
      ·rename_i hd;refine .inr ⟨q1,fun u hu=>?_⟩;rw [aar] at hu;rcases aw.1 hu with rfl|hu
       ·exact hd
       ·exact q2 u hu
end
section
variable {P:Program}
theorem kX {tt:TT}: ∀{l:List Oper} {i:Nat} {o:Oper},l[i]?=some o->dH tt (l.take (i+1))=dH tt (l.take i)+(match kindOf tt o.op with | .e=>1|_=>0)
 |[],i,o,h=>by simp at h
 |x::xs,0,o,h=>by
  simp at h;subst h;simp only [ax,aar,List.take_zero,dH]
  grind
 |x::xs,i+1,o,h=>by simp only [aar,dH];rw [kX (l:=xs) (by simpa using h)];omega
theorem wB {tt:TT} {l:List Oper} {i:Nat} (h:l[i]?=none):dH tt (l.take (i+1))=dH tt (l.take i):=by have:=aaD.1 h;rw [abm J,abm J]
theorem te {tt:TT} {l:List Oper} {i:Nat}: ∀{j:Nat},i<=j->dH tt (l.take i)<=dH tt (l.take j)
 |0,h=>by
  grind
 |j+1,h=>by
  by_cases e:i=j+1
  ·grind
  ·have:=te (tt:=tt) (l:=l) (i:=i) (j:=j) J
   cases ho:l[j]? with
   |none=>rw [wB ho]; exact this
   |some o=>rw [kX ho]; omega
theorem uO {tt:TT} {l:List Oper} {i j:Nat} {o:Oper} (ho:l[i]?=some o) (R:kindOf tt o.op= .e) (h:i<j):dH tt (l.take i)<dH tt (l.take j):=by
 have O:=kX (tt:=tt) ho;rw [R] at O;have U:=te (tt:=tt) (l:=l) (i:=i+1) (j:=j) h
 grind
theorem kW {tt:TT} {l:List Oper} {m:Nat}: ∀{j:Nat},m<dH tt (l.take j)->∃i o,i<j/\l[i]?=some o/\kindOf tt o.op= .e/\dH tt (l.take i)=m
 |0,h=>by simp [dH] at h
 |j+1,h=>by
  cases ho:l[j]? with
  |none=>
   rw [wB ho] at h;obtain⟨i,o,O,U⟩:=kW h
   grind
  |some o=>
   rw [kX ho] at h;rcases aG m (dH tt (l.take j)) with h'|h'
   ·obtain⟨i,o,O,U⟩:=kW h'
    grind
   grind
def ni (tt:TT) (all:List Oper) (ms:List Nat) (j:Nat) (o:Oper):Item:=⟨j,o,ms.getD j 0,kindOf tt o.op,dH tt (all.take j),reads all o⟩
theorem dq {tt:TT} {all:List Oper} {ms:List Nat} {j:Nat} {o:Oper} (h:all[j]?=some o):(items tt all ms all 0 0)[j]?=some (ni tt all ms j o):=by rw [dN,h];simp [ni]
theorem sH {tt:TT} {all:List Oper} {ms:List Nat} {x:Item} (h:x∈items tt all ms all 0 0): ∃j o,all[j]?=some o/\x=ni tt all ms j o:=by
 obtain⟨j,hj⟩:=abn h
 cases ho:all[j]? with
 |none=>rw [dN,ho] at hj; simp at hj
 |some o=>
  rw [dq ho] at hj
  grind
structure Ew (tt:TT) (all:List Oper) (ms:List Nat):Prop where
 back: ∀(j:Nat) (o:Oper),all[j]?=some o->∀e∈o.after,Region.binds .any e=true->e.on<j
 mask: ∀(j:Nat) (o:Oper),all[j]?=some o->ms.getD j 0=gg ms o.after.toList
 rd: ∀(j:Nat) (o:Oper),all[j]?=some o->∀t∈reads all o,∀(i:Nat) (oi:Oper),all[i]?=some oi->oi.dst=some t->(ms.getD j 0).testBit i=true\/(kindOf tt o.op≠.r/\(ms.getD i 0).testBit j=true)
 dst: ∀(i j:Nat) (oi oj:Oper) (d:Nat),all[i]?=some oi->all[j]?=some oj->oi.dst=some d->oj.dst=some d->i=j
 DT: ∀(i j:Nat) (oi oj:Oper),all[i]?=some oi->all[j]?=some oj->kindOf tt oi.op= .e->kindOf tt oj.op= .e->i<j->(ms.getD j 0).testBit i=true
theorem CL {tt:TT} {all:List Oper} {q:Stat} (h:stat tt all=some q): ∃ms,q.is=items tt all ms all 0 0/\q.nE=dH tt all/\q.rs=((q.is.filter (·.k.DY)).map fun x=>(x,nq q.is q.nE x))/\Ew tt all ms:=by
 unfold stat at h;simp only at h;split at h
 ·rename_i Fh;simp at h;subst h;refine⟨ia all [],rfl,fy _ _ _,rfl,?_⟩;have key: ∀(j:Nat) (o:Oper),all[j]?=some o->ly (ia all []) (items tt all (ia all []) all 0 0) (ni tt all (ia all []) j o)=true:=fun j o ho=>aE.1 Fh _ (aP (dq ho));have mem: ∀(j:Nat) (o:Oper),all[j]?=some o->ni tt all (ia all []) j o∈items tt all (ia all []) all 0 0:=fun j o ho=>aP (dq ho);refine⟨?_,?_,?_,?_,?_⟩
  ·intro j o ho e he K;have:=key j o ho;simp only [ly,an,aE] at this;have:=this.1.1.1.1 e (by simpa [ni] using he);simpa [K,ni] using this
  ·intro j o ho;have:=key j o ho;simp only [ly,an] at this;have:=this.1.1.1.2;simpa [ni] using this
  ·intro j o ho t ht i oi Fi hd;have:=key j o ho;simp only [ly,an,aE] at this;have:=this.1.1.2 t ht _ (mem i oi Fi);simp only [ni,hd,ne_eq,not_true_eq_false,decide_false,aaI,aah,an,bd] at this;rcases this with h|⟨O,U⟩
   ·grind
   ·refine .inr ⟨fun R=>?_,U⟩;rw [R] at O;simp [Kind.DY] at O
  ·intro i j oi oj d hi hj Ma JS;have:=key i oi hi;simp only [ly,an,aE] at this;have:=this.1.2 _ (mem j oj hj);simp [ni,Ma,JS] at this
   grind
  ·intro i j oi oj hi hj Dn Dm c6;have:=key j oj hj;simp only [ly,an,aE] at this;have:=this.2;simp only [ni,Dm,Kind.DZ,aaG,aaI,aE] at this;have:=this _ (mem i oi hi);simpa [ni,Dn,Kind.DZ,c6] using this
 grind
theorem pX [bp] {tt:TT} (bx:bV P tt) {call:bR} (B:dD P call) {ops:Array Oper} {base:Nat} {pc:List (SB×Bool)} {ρ:Nat->Int} (F:bu ρ pc) {x:Item} (R:kindOf tt x.o.op= .r) {v:Z} {S:Tr Z} {c7:List (Nat×bS)} {eY:List (Hp×Nat)}: ∀(ks:List Nat),(pe tt call ops.toList base pc x v S c7 eY ks).leaf ρ=some ()->
 ∀k∈ks,∃h mm,eY[k]?=some (h,mm)/\rE P ρ ops x.o S (ct base x.m mm c7 h) v (ct base x.m mm c7 h)
 |[],_=>by simp
 |k::ks,h=>by
  simp only [pe] at h;split at h
  ·rename_i h0 mm hn;obtain⟨⟨u,s'⟩,O,U⟩:=T.cA h;simp only at U;split at U
   ·rename_i hs;have ha:=uI bx B (s:=⟨S,ct base x.m mm c7 h0,pc⟩) F O;have hr:=Ib R O;rw [hr,dx _ _ hs] at ha;intro k' Af;rcases aw.1 Af with rfl|Af
    ·exact⟨h0,mm,by rw [<- cI]; exact hn,ha⟩
    ·exact pX bx B F R ks U k' Af
   ·simp [T.leaf] at U
  ·simp [T.leaf] at h
theorem r7 [bp] {tt:TT} (bx:bV P tt) {call:bR} (B:dD P call) {ops:Array Oper} {base:Nat} {ρ:Nat->Int} {d:yi} {eY:List (Hp×Nat)} {vs:List Z}: ∀(rs:List (Item×List Nat)) {pc cl:List (SB×Bool)},bu ρ pc->(∀r∈rs,kindOf tt r.1.o.op= .r)->(tA tt call ops.toList base d eY vs rs pc).leaf ρ=some cl->
 bu ρ cl/\∀r∈rs,∃v,vs[r.1.i]?=some v/\∀k∈r.2,∃h mm,eY[k]?=some (h,mm)/\rE P ρ ops r.1.o (only d.bj r.1.rd) (ct base r.1.m mm d.c7 h) v (ct base r.1.m mm d.c7 h)
 |[],pc,cl,F,_,h=>by
  have:=bh h
  grind
 |(x,ks)::rs,pc,cl,F,R,h=>by
  simp only [tA] at h;split at h
  ·rename_i v W;obtain⟨⟨⟩,ea,O,dE,U⟩:=T.eT F h;obtain⟨gw,ih⟩:=r7 bx B rs dE (fun r hr=>R r (by simp [hr])) U;refine⟨gw,fun r hr=>?_⟩;rcases aw.1 hr with rfl|hr
   ·exact⟨v,by rw [<- cI]; exact W,pX bx B F (R _ ad) ks O⟩
   grind
  ·simp [T.leaf] at h
end
end Go.As
end

/-
  Proved: the given card of the law MachineTells: whatever the input, the call returns true and each argument reads afterwards as it did. Conditions: those of the given row alone (its listed package-level variables start as the program's text lays them; each string, slice and map that is handed in lies within a process's addresses).
-/
import Derived.Test.YteclpbehflfjiaaGreatDoorAsZM4
set_option linter.unusedSectionVars false
set_option linter.unusedVariables false
set_option linter.unusedSimpArgs false
section
namespace Go.As.Try
open Go hiding Stat Spec shape
open Go.As
set_option maxRecDepth 100000
section
variable {b:D} {op obj arg tr Sg e1 e2 e3 e4 e5 oc:Int}
theorem ajO {k:D} {t:Int} (t0:0<=t) (t1:t<(k.l.length:Int)) (y:KT):kB (ep (iO k) t y) t=kB k t:=by
 obtain⟨i,rfl⟩ : ∃i:Nat,t=(i:Int):=⟨t.toNat,J⟩;have hi:i<k.l.length:=J
 unfold kB zF;rw [aQ]
 have e:(ep (iO k) (i:Int) y).l=(k.l.map cK).set i y.d:=by
  grind [dL,dC,iO,bF,SK,qQ]
 rw [e,aw6 (aw _),aw7 (Nat.lt_succ_self _),awr,awz,awg];have c:(k.l.map (cK ∘ cK))=k.l.map cK:=awp fun x _=>asU x;rw [c,<- awr,<- awz]
theorem VU {y:KT} (h:mW y.lc=y.lc):nX y=y:=by unfold nX;rw [h]
theorem JY {d1:D} {t:Int} {y:KT} (h:eU d1 t y=1):eP d1 t y= [0,0,0,0,0]:=by
 unfold eU at h;unfold eP
 grind
structure Fy (d0 d1 s k:D) (t:Int) (n:Nat) (y:KT):Prop where
 S:Sw s k n
 t0:0<=t
 ht:t<(k.l.length:Int)
 S':Sw (cS s) (ep (iO k) t y) n
 R:Rs d0 d1 (cS s) (ep (iO k) t y) t y
 nz:mW y.lc=y.lc
section
variable {d0 d1 s k:D} {n:Nat} (h0:Wd (.sl 3) d0) (U:Wd (.sl 4) d1) (hn:n<17592186044000) {t:Int} {eX fE ea eb m:Int} {y:KT} (Z':Fy d0 d1 s k t n y)
include h0 U hn Z'
theorem Fy.hx:dL (dC (kB k t).l t (.p (.i y.a) (.p y.lc (.p (.i y.w) (.p (.i y.o) (.p (.i y.g) (.p (.i y.tr) (.i 0))))))))=ep (iO k) t y:=rL Z'.t0 Z'.ht y
theorem xL (h:20000<m\/¬20000<m/\low (eP d1 t y) 4=0/\(m=20000\/m≠20000/\eU d1 t y=1)):L 22453 [m,enc d0,enc d1,enc s,enc k,t,eX,fE,ea,eb,enc (cS s),enc (kB k t),t,y.a,enc y.lc,y.w,y.o,y.g,y.tr]=some [enc (cS s),enc (iO k),0]:=by
 have dK:=Ih Z'.S hn;have hN:=nC h0 U Z'.S' hn Z'.R;have hF:=lM h0 U Z'.S' hn Z'.R;have hx:=Z'.hx h0 U hn;rw [bK,M6]
 have K:dV (cN L (low [m,enc d0,enc d1,enc s,enc k,t,eX,fE,ea,eb,enc (cS s),enc (kB k t),t,y.a,enc y.lc,y.w,y.o,y.g,y.tr])) tk= .out [enc (cS s),enc (iO k),0]:=by
  rcases h with h|⟨h,hq,hm|⟨hm,ho⟩⟩
  ·exact aio
  ·refine bA [.eq (a0 22350 DL) Q0,.eq (rr 22350 DL 4) W,Q3w,.eq (a0 22250 uS) Q0] [IH] (ou [rr 22250 uS 0,rr 22250 uS 1,W]) (by simp only [zz,dK,h,hx,hN,hq,hm]<;>omega) aa ?_;simp only [zz,dK]
  simp_all [tk,zz]
 grind [fin,L]
theorem PW (hz:y.lc.l.length≠0) (h: ¬20000<m) (hm:m≠20000) (hq:low (eP d1 t y) 4=0) (ho:eU d1 t y=0):L 22453 [m,enc d0,enc d1,enc s,enc k,t,eX,fE,ea,eb,enc (cS s),enc (kB k t),t,y.a,enc y.lc,y.w,y.o,y.g,y.tr]=L 22453 [IntKind.i64.wrap (m+1),enc d0,enc d1,enc s,enc k,t,eX,fE,ea,eb,enc (cS s),enc (kB k t),t,(da (df d1 t y) y).a,enc (da (df d1 t y) y).lc,(da (df d1 t y) y).w,(da (df d1 t y) y).o,(da (df d1 t y) y).g,(da (df d1 t y) y).tr]:=by
 have hN:=nC h0 U Z'.S' hn Z'.R;have hF:=lM h0 U Z'.S' hn Z'.R;have hL:=YC h0 U Z'.S' hn Z'.R t ho (by rw [VU Z'.nz]; exact hq) hz;have hk:=Kh (df d1 t y) y;rw [VU Z'.nz,ajO Z'.t0 Z'.ht,als Z'.S.g.wd.jE] at hL;rw [ho] at hF;have hx:=Z'.hx h0 U hn;rw [bK,M6,hk.1,hk.2.1,hk.2.2.1,hk.2.2.2]
 have K:dV (cN L (low [m,enc d0,enc d1,enc s,enc k,t,eX,fE,ea,eb,enc (cS s),enc (kB k t),t,y.a,enc y.lc,y.w,y.o,y.g,y.tr])) tk= .jump 22453 [IntKind.i64.wrap (m+1),enc d0,enc d1,enc s,enc k,t,eX,fE,ea,eb,enc (cS s),enc (kB k t),t,(da (df d1 t y) y).a,enc (da (df d1 t y) y).lc,y.w,y.o,y.g,y.tr]:=by simp only [tk,zz,h,hx,hN,hq,hm,hF,hL,Int.reduceEq]
 grind [fin,L]
theorem PV (h: ¬20000<m) (ho:eU d1 t y=0) (hq:eP d1 t y= [op,obj,arg,tr,1]) (Ek:Sg=if op=4/\eX=4/\ea=0 then 4611686018427387904 else 0)
 (hB:L 4000 [enc d0,enc d1,enc (cS s),t,op,obj,arg,Sg]=some [enc b,e1,e2,e3,e4,e5,oc]) (hE:uR e1 e2 e3 e4 e5 oc= [e1,e2,e3,e4,e5]) :
 L 22453 [m,enc d0,enc d1,enc s,enc k,t,eX,fE,ea,eb,enc (cS s),enc (kB k t),t,y.a,enc y.lc,y.w,y.o,y.g,y.tr]=some (if oc≠0/\e1=t/\e2=eX/\e3=fE/\e4=ea/\e5=eb then [enc b,enc (ep (iO k) t (cF (df d1 t y) y op e2 e3 e4 oc)),1] else [enc (cS s),enc (iO k),0]):=by
 have dK:=Ih Z'.S hn;have hN:=nC h0 U Z'.S' hn Z'.R
 have hxx:y.w=0->y.a<(Nc d1 t:Int):=fun w0=>by exact ag0
 have hy:=rL Z'.t0 Z'.ht (cF (df d1 t y) y op e2 e3 e4 oc);have ha:=aed (k:=kB k t) Z'.R.c (by rw [Aw Z'.t0 Z'.ht]; exact Z'.ht) Z'.R.r hB hxx;rw [hE] at ha;rw [hq] at hN;simp only [aG,ax] at ha;have hx:=Z'.hx h0 U hn;simp only [KT.d,dH,eC] at hy
 have K:dV (cN L (low [m,enc d0,enc d1,enc s,enc k,t,eX,fE,ea,eb,enc (cS s),enc (kB k t),t,y.a,enc y.lc,y.w,y.o,y.g,y.tr])) tk= .out (if oc≠0/\e1=t/\e2=eX/\e3=fE/\e4=ea/\e5=eb then [enc b,enc (ep (iO k) t (cF (df d1 t y) y op e2 e3 e4 oc)),1] else [enc (cS s),enc (iO k),0]):=by
  by_cases p4:op=4
  ·subst p4;by_cases q4:eX=4
   ·by_cases qa:ea=0
    ·rw [ag ⟨rfl,q4,qa⟩] at Ek;subst Ek;by_cases o0:oc=0
     ·simp_all [tk,zz]
     ·by_cases qe:e1=t/\e2=eX/\e3=fE/\e4=ea/\e5=eb
      ·rw [ag ⟨o0,qe⟩];refine bA [.eq (a0 22350 DL) Q0,.eq Q4i iQ,ye,A0,.eq (a0 24150 uT) Q0,.eq (rr 24150 uT 0) W,.and (.eq (rr 24150 uT 19) bP) (.and (.eq (rr 24150 uT 20) ei) (.and (.eq (rr 24150 uT 21) fg) (.and (.eq (rr 24150 uT 22) fu) (.eq (rr 24150 uT 23) fv))))] [IH,.eq (rr 22350 DL 4) W,.eq (rr 24150 uT 24) W] (ou [rr 24150 uT 17,.op .set (rr 24150 uT 18) (cn US (cn (mk (rr 24150 uT 25)) (cn (rr 24150 uT 26) (cn (mk (rr 24150 uT 27)) (cn (mk (rr 24150 uT 28)) (cn (mk (rr 24150 uT 29)) (cn (mk (rr 24150 uT 30)) gI))))))),Q0]) (by simp only [zz,dK,h,hx,hN,ha,q4,qa,o0,ff,qe,and_self]<;>omega) aa ?_;simp_all [zz,ld]
      ·rw [af (fun h=>qe h.2)];refine bA [.eq (a0 22350 DL) Q0,.eq Q4i iQ,ye,A0,.eq (a0 24150 uT) Q0,.eq (rr 24150 uT 0) W,.eq (a0 22250 uS) Q0] [IH,.eq (rr 22350 DL 4) W,.eq (rr 24150 uT 24) W,.and (.eq (rr 24150 uT 19) bP) (.and (.eq (rr 24150 uT 20) ei) (.and (.eq (rr 24150 uT 21) fg) (.and (.eq (rr 24150 uT 22) fu) (.eq (rr 24150 uT 23) fv))))] (ou [rr 22250 uS 0,rr 22250 uS 1,W]) (by simp only [zz,dK,h,hx,hN,ha,q4,qa,o0,ff,qe]<;>omega) aa ?_;simp only [zz,dK]
    ·rw [af (fun h=>qa h.2.2)] at Ek;subst Ek;by_cases o0:oc=0
     ·simp_all [tk,zz]
     ·by_cases qe:e1=t/\e2=eX/\e3=fE/\e4=ea/\e5=eb
      ·rw [ag ⟨o0,qe⟩];refine bA [.eq (a0 22350 DL) Q0,.eq Q4i iQ,ye,.eq (a0 24150 jq) Q0,.eq (rr 24150 jq 0) W,.and (.eq (rr 24150 jq 19) bP) (.and (.eq (rr 24150 jq 20) ei) (.and (.eq (rr 24150 jq 21) fg) (.and (.eq (rr 24150 jq 22) fu) (.eq (rr 24150 jq 23) fv))))] [IH,.eq (rr 22350 DL 4) W,A0,.eq (rr 24150 jq 24) W] (ou [rr 24150 jq 17,.op .set (rr 24150 jq 18) (cn US (cn (mk (rr 24150 jq 25)) (cn (rr 24150 jq 26) (cn (mk (rr 24150 jq 27)) (cn (mk (rr 24150 jq 28)) (cn (mk (rr 24150 jq 29)) (cn (mk (rr 24150 jq 30)) gI))))))),Q0]) (by simp only [zz,dK,h,hx,hN,ha,q4,qa,o0,ff,qe,and_self]<;>omega) aa ?_;simp_all [zz,ld]
      ·rw [af (fun h=>qe h.2)];refine bA [.eq (a0 22350 DL) Q0,.eq Q4i iQ,ye,.eq (a0 24150 jq) Q0,.eq (rr 24150 jq 0) W,.eq (a0 22250 uS) Q0] [IH,.eq (rr 22350 DL 4) W,A0,.eq (rr 24150 jq 24) W,.and (.eq (rr 24150 jq 19) bP) (.and (.eq (rr 24150 jq 20) ei) (.and (.eq (rr 24150 jq 21) fg) (.and (.eq (rr 24150 jq 22) fu) (.eq (rr 24150 jq 23) fv))))] (ou [rr 22250 uS 0,rr 22250 uS 1,W]) (by simp only [zz,dK,h,hx,hN,ha,q4,qa,o0,ff,qe]<;>omega) aa ?_;simp only [zz,dK]
   ·rw [af (fun h=>q4 h.2.1)] at Ek;subst Ek;by_cases o0:oc=0
    ·simp_all [tk,zz]
    ·by_cases qe:e1=t/\e2=eX/\e3=fE/\e4=ea/\e5=eb
     ·rw [ag ⟨o0,qe⟩];refine bA [.eq (a0 22350 DL) Q0,.eq Q4i iQ,.eq (a0 24150 jq) Q0,.eq (rr 24150 jq 0) W,.and (.eq (rr 24150 jq 19) bP) (.and (.eq (rr 24150 jq 20) ei) (.and (.eq (rr 24150 jq 21) fg) (.and (.eq (rr 24150 jq 22) fu) (.eq (rr 24150 jq 23) fv))))] [IH,.eq (rr 22350 DL 4) W,ye,.eq (rr 24150 jq 24) W] (ou [rr 24150 jq 17,.op .set (rr 24150 jq 18) (cn US (cn (mk (rr 24150 jq 25)) (cn (rr 24150 jq 26) (cn (mk (rr 24150 jq 27)) (cn (mk (rr 24150 jq 28)) (cn (mk (rr 24150 jq 29)) (cn (mk (rr 24150 jq 30)) gI))))))),Q0]) (by simp only [zz,dK,h,hx,hN,ha,q4,o0,ff,qe,and_self]<;>omega) aa ?_;simp_all [zz,ld]
     ·rw [af (fun h=>qe h.2)];refine bA [.eq (a0 22350 DL) Q0,.eq Q4i iQ,.eq (a0 24150 jq) Q0,.eq (rr 24150 jq 0) W,.eq (a0 22250 uS) Q0] [IH,.eq (rr 22350 DL 4) W,ye,.eq (rr 24150 jq 24) W,.and (.eq (rr 24150 jq 19) bP) (.and (.eq (rr 24150 jq 20) ei) (.and (.eq (rr 24150 jq 21) fg) (.and (.eq (rr 24150 jq 22) fu) (.eq (rr 24150 jq 23) fv))))] (ou [rr 22250 uS 0,rr 22250 uS 1,W]) (by simp only [zz,dK,h,hx,hN,ha,q4,o0,ff,qe]<;>omega) aa ?_;simp only [zz,dK]
  ·rw [af (fun h=>p4 h.1)] at Ek;subst Ek;by_cases o0:oc=0
   ·simp_all [tk,zz,p4]
   ·by_cases qe:e1=t/\e2=eX/\e3=fE/\e4=ea/\e5=eb
    ·rw [ag ⟨o0,qe⟩];refine bA [.eq (a0 22350 DL) Q0,.eq (a0 24150 jq) Q0,.eq (rr 24150 jq 0) W,.and (.eq (rr 24150 jq 19) bP) (.and (.eq (rr 24150 jq 20) ei) (.and (.eq (rr 24150 jq 21) fg) (.and (.eq (rr 24150 jq 22) fu) (.eq (rr 24150 jq 23) fv))))] [IH,.eq (rr 22350 DL 4) W,.eq Q4i iQ,.eq (rr 24150 jq 24) W] (ou [rr 24150 jq 17,.op .set (rr 24150 jq 18) (cn US (cn (mk (rr 24150 jq 25)) (cn (rr 24150 jq 26) (cn (mk (rr 24150 jq 27)) (cn (mk (rr 24150 jq 28)) (cn (mk (rr 24150 jq 29)) (cn (mk (rr 24150 jq 30)) gI))))))),Q0]) (by simp only [zz,dK,h,hx,hN,ha,p4,o0,ff,qe,and_self]<;>omega) aa ?_;simp_all [zz,ld]
    ·rw [af (fun h=>qe h.2)];refine bA [.eq (a0 22350 DL) Q0,.eq (a0 24150 jq) Q0,.eq (rr 24150 jq 0) W,.eq (a0 22250 uS) Q0] [IH,.eq (rr 22350 DL 4) W,.eq Q4i iQ,.eq (rr 24150 jq 24) W,.and (.eq (rr 24150 jq 19) bP) (.and (.eq (rr 24150 jq 20) ei) (.and (.eq (rr 24150 jq 21) fg) (.and (.eq (rr 24150 jq 22) fu) (.eq (rr 24150 jq 23) fv))))] (ou [rr 22250 uS 0,rr 22250 uS 1,W]) (by simp only [zz,dK,h,hx,hN,ha,p4,o0,ff,qe]<;>omega) aa ?_;simp only [zz,dK]
 grind [bK,M6,fin,L]
theorem xM (hz:y.lc.l.length=0) (h:20000<m\/¬20000<m/\low (eP d1 t y) 4=0/\(m=20000\/m≠20000/\eU d1 t y=1)):L 22452 [m,enc d0,enc d1,enc s,enc k,t,eX,fE,ea,eb,enc (cS s),enc (kB k t),t,y.a,y.w,y.o,y.g,y.tr]=some [enc (cS s),enc (iO k),0]:=by
 have dK:=Ih Z'.S hn;have hN:=nC h0 U Z'.S' hn Z'.R;have hF:=lM h0 U Z'.S' hn Z'.R;have I2:y.lc= .i 2:=by rw [<- Z'.nz]; exact zC hz
 have hx:=Z'.hx h0 U hn;rw [I2] at hx;rw [bK,M7]
 have K:dV (cN L (low [m,enc d0,enc d1,enc s,enc k,t,eX,fE,ea,eb,enc (cS s),enc (kB k t),t,y.a,y.w,y.o,y.g,y.tr])) tl= .out [enc (cS s),enc (iO k),0]:=by
  rcases h with h|⟨h,hq,hm|⟨hm,ho⟩⟩
  ·exact aio
  ·refine bA [.eq (a0 22350 DM) Q0,.eq (rr 22350 DM 4) W,Q3w,.eq (a0 22250 uS) Q0] [IH] (ou [rr 22250 uS 0,rr 22250 uS 1,W]) (by simp only [zz,dK,h,hx,hN,hq,hm]<;>omega) aa ?_;simp only [zz,dK]
  simp_all [tl,zz]
 grind [fin,L]
theorem PY (hz:y.lc.l.length=0) (h: ¬20000<m) (hm:m≠20000) (hq:low (eP d1 t y) 4=0) (ho:eU d1 t y=0):L 22452 [m,enc d0,enc d1,enc s,enc k,t,eX,fE,ea,eb,enc (cS s),enc (kB k t),t,y.a,y.w,y.o,y.g,y.tr]=L 22452 [IntKind.i64.wrap (m+1),enc d0,enc d1,enc s,enc k,t,eX,fE,ea,eb,enc (cS s),enc (kB k t),t,(da (df d1 t y) y).a,(da (df d1 t y) y).w,(da (df d1 t y) y).o,(da (df d1 t y) y).g,(da (df d1 t y) y).tr]:=by
 have hN:=nC h0 U Z'.S' hn Z'.R;have hF:=lM h0 U Z'.S' hn Z'.R;have hL:=YD h0 U Z'.S' hn Z'.R t ho (by rw [VU Z'.nz]; exact hq) hz;have hk:=Kh (df d1 t y) y;rw [VU Z'.nz,ajO Z'.t0 Z'.ht,als Z'.S.g.wd.jE] at hL;rw [ho] at hF;have I2:y.lc= .i 2:=by rw [<- Z'.nz]; exact zC hz
 have hx:=Z'.hx h0 U hn;rw [I2] at hx;rw [bK,M7,hk.1,hk.2.1,hk.2.2.1,hk.2.2.2]
 have K:dV (cN L (low [m,enc d0,enc d1,enc s,enc k,t,eX,fE,ea,eb,enc (cS s),enc (kB k t),t,y.a,y.w,y.o,y.g,y.tr])) tl= .jump 22452 [IntKind.i64.wrap (m+1),enc d0,enc d1,enc s,enc k,t,eX,fE,ea,eb,enc (cS s),enc (kB k t),t,(da (df d1 t y) y).a,y.w,y.o,y.g,y.tr]:=by simp only [tl,zz,h,hx,hN,hq,hm,hF,hL,Int.reduceEq]
 grind [fin,L]
theorem PX (hz:y.lc.l.length=0) (h: ¬20000<m) (ho:eU d1 t y=0) (hq:eP d1 t y= [op,obj,arg,tr,1]) (Ek:Sg=if op=4/\eX=4/\ea=0 then 4611686018427387904 else 0)
 (hB:L 4000 [enc d0,enc d1,enc (cS s),t,op,obj,arg,Sg]=some [enc b,e1,e2,e3,e4,e5,oc]) (hE:uR e1 e2 e3 e4 e5 oc= [e1,e2,e3,e4,e5]) :
 L 22452 [m,enc d0,enc d1,enc s,enc k,t,eX,fE,ea,eb,enc (cS s),enc (kB k t),t,y.a,y.w,y.o,y.g,y.tr]=some (if oc≠0/\e1=t/\e2=eX/\e3=fE/\e4=ea/\e5=eb then [enc b,enc (ep (iO k) t (cF (df d1 t y) y op e2 e3 e4 oc)),1] else [enc (cS s),enc (iO k),0]):=by
 have dK:=Ih Z'.S hn;have hN:=nC h0 U Z'.S' hn Z'.R
 have hxx:y.w=0->y.a<(Nc d1 t:Int):=fun w0=>by exact ag0
 have hy:=rL Z'.t0 Z'.ht (cF (df d1 t y) y op e2 e3 e4 oc);obtain⟨ha,hc⟩:=aee (k:=kB k t) Z'.R.c (by rw [Aw Z'.t0 Z'.ht]; exact Z'.ht) Z'.R.r hB hxx hz;rw [hE] at ha;rw [hq] at hN;simp only [aG,ax] at ha;have I2:y.lc= .i 2:=by rw [<- Z'.nz]; exact zC hz
 have hx:=Z'.hx h0 U hn;rw [I2] at hx;rw [I2] at hc;simp only [KT.d,dH,eC,hc] at hy
 have K:dV (cN L (low [m,enc d0,enc d1,enc s,enc k,t,eX,fE,ea,eb,enc (cS s),enc (kB k t),t,y.a,y.w,y.o,y.g,y.tr])) tl= .out (if oc≠0/\e1=t/\e2=eX/\e3=fE/\e4=ea/\e5=eb then [enc b,enc (ep (iO k) t (cF (df d1 t y) y op e2 e3 e4 oc)),1] else [enc (cS s),enc (iO k),0]):=by
  by_cases p4:op=4
  ·subst p4;by_cases q4:eX=4
   ·by_cases qa:ea=0
    ·rw [ag ⟨rfl,q4,qa⟩] at Ek;subst Ek;by_cases o0:oc=0
     ·simp_all [tl,zz]
     ·by_cases qe:e1=t/\e2=eX/\e3=fE/\e4=ea/\e5=eb
      ·rw [ag ⟨o0,qe⟩];refine bA [.eq (a0 22350 DM) Q0,.eq Q38 iQ,ye,A0,.eq (a0 24100 wu) Q0,.eq (rr 24100 wu 0) W,.and (.eq (rr 24100 wu 18) bP) (.and (.eq (rr 24100 wu 19) ei) (.and (.eq (rr 24100 wu 20) fg) (.and (.eq (rr 24100 wu 21) fu) (.eq (rr 24100 wu 22) fv))))] [IH,.eq (rr 22350 DM 4) W,.eq (rr 24100 wu 23) W] (ou [rr 24100 wu 16,.op .set (rr 24100 wu 17) (cn US (cn (mk (rr 24100 wu 24)) (cn Qk (cn (mk (rr 24100 wu 25)) (cn (mk (rr 24100 wu 26)) (cn (mk (rr 24100 wu 27)) (cn (mk (rr 24100 wu 28)) gI))))))),Q0]) (by simp only [zz,dK,h,hx,hN,ha,q4,qa,o0,ff,qe,and_self]<;>omega) aa ?_;simp_all [zz,ld]
      ·rw [af (fun h=>qe h.2)];refine bA [.eq (a0 22350 DM) Q0,.eq Q38 iQ,ye,A0,.eq (a0 24100 wu) Q0,.eq (rr 24100 wu 0) W,.eq (a0 22250 uS) Q0] [IH,.eq (rr 22350 DM 4) W,.eq (rr 24100 wu 23) W,.and (.eq (rr 24100 wu 18) bP) (.and (.eq (rr 24100 wu 19) ei) (.and (.eq (rr 24100 wu 20) fg) (.and (.eq (rr 24100 wu 21) fu) (.eq (rr 24100 wu 22) fv))))] (ou [rr 22250 uS 0,rr 22250 uS 1,W]) (by simp only [zz,dK,h,hx,hN,ha,q4,qa,o0,ff,qe]<;>omega) aa ?_;simp only [zz,dK]
    ·rw [af (fun h=>qa h.2.2)] at Ek;subst Ek;by_cases o0:oc=0
     ·simp_all [tl,zz]
     ·by_cases qe:e1=t/\e2=eX/\e3=fE/\e4=ea/\e5=eb
      ·rw [ag ⟨o0,qe⟩];refine bA [.eq (a0 22350 DM) Q0,.eq Q38 iQ,ye,.eq (a0 24100 jD) Q0,.eq (rr 24100 jD 0) W,.and (.eq (rr 24100 jD 18) bP) (.and (.eq (rr 24100 jD 19) ei) (.and (.eq (rr 24100 jD 20) fg) (.and (.eq (rr 24100 jD 21) fu) (.eq (rr 24100 jD 22) fv))))] [IH,.eq (rr 22350 DM 4) W,A0,.eq (rr 24100 jD 23) W] (ou [rr 24100 jD 16,.op .set (rr 24100 jD 17) (cn US (cn (mk (rr 24100 jD 24)) (cn Qk (cn (mk (rr 24100 jD 25)) (cn (mk (rr 24100 jD 26)) (cn (mk (rr 24100 jD 27)) (cn (mk (rr 24100 jD 28)) gI))))))),Q0]) (by simp only [zz,dK,h,hx,hN,ha,q4,qa,o0,ff,qe,and_self]<;>omega) aa ?_;simp_all [zz,ld]
      ·rw [af (fun h=>qe h.2)];refine bA [.eq (a0 22350 DM) Q0,.eq Q38 iQ,ye,.eq (a0 24100 jD) Q0,.eq (rr 24100 jD 0) W,.eq (a0 22250 uS) Q0] [IH,.eq (rr 22350 DM 4) W,A0,.eq (rr 24100 jD 23) W,.and (.eq (rr 24100 jD 18) bP) (.and (.eq (rr 24100 jD 19) ei) (.and (.eq (rr 24100 jD 20) fg) (.and (.eq (rr 24100 jD 21) fu) (.eq (rr 24100 jD 22) fv))))] (ou [rr 22250 uS 0,rr 22250 uS 1,W]) (by simp only [zz,dK,h,hx,hN,ha,q4,qa,o0,ff,qe]<;>omega) aa ?_;simp only [zz,dK]
   ·rw [af (fun h=>q4 h.2.1)] at Ek;subst Ek;by_cases o0:oc=0
    ·simp_all [tl,zz]
    ·by_cases qe:e1=t/\e2=eX/\e3=fE/\e4=ea/\e5=eb
     ·rw [ag ⟨o0,qe⟩];refine bA [.eq (a0 22350 DM) Q0,.eq Q38 iQ,.eq (a0 24100 jD) Q0,.eq (rr 24100 jD 0) W,.and (.eq (rr 24100 jD 18) bP) (.and (.eq (rr 24100 jD 19) ei) (.and (.eq (rr 24100 jD 20) fg) (.and (.eq (rr 24100 jD 21) fu) (.eq (rr 24100 jD 22) fv))))] [IH,.eq (rr 22350 DM 4) W,ye,.eq (rr 24100 jD 23) W] (ou [rr 24100 jD 16,.op .set (rr 24100 jD 17) (cn US (cn (mk (rr 24100 jD 24)) (cn Qk (cn (mk (rr 24100 jD 25)) (cn (mk (rr 24100 jD 26)) (cn (mk (rr 24100 jD 27)) (cn (mk (rr 24100 jD 28)) gI))))))),Q0]) (by simp only [zz,dK,h,hx,hN,ha,q4,o0,ff,qe,and_self]<;>omega) aa ?_;simp_all [zz,ld]
     ·rw [af (fun h=>qe h.2)];refine bA [.eq (a0 22350 DM) Q0,.eq Q38 iQ,.eq (a0 24100 jD) Q0,.eq (rr 24100 jD 0) W,.eq (a0 22250 uS) Q0] [IH,.eq (rr 22350 DM 4) W,ye,.eq (rr 24100 jD 23) W,.and (.eq (rr 24100 jD 18) bP) (.and (.eq (rr 24100 jD 19) ei) (.and (.eq (rr 24100 jD 20) fg) (.and (.eq (rr 24100 jD 21) fu) (.eq (rr 24100 jD 22) fv))))] (ou [rr 22250 uS 0,rr 22250 uS 1,W]) (by simp only [zz,dK,h,hx,hN,ha,q4,o0,ff,qe]<;>omega) aa ?_;simp only [zz,dK]
  ·rw [af (fun h=>p4 h.1)] at Ek;subst Ek;by_cases o0:oc=0
   ·simp_all [tl,zz,p4]
   ·by_cases qe:e1=t/\e2=eX/\e3=fE/\e4=ea/\e5=eb
    ·rw [ag ⟨o0,qe⟩];refine bA [.eq (a0 22350 DM) Q0,.eq (a0 24100 jD) Q0,.eq (rr 24100 jD 0) W,.and (.eq (rr 24100 jD 18) bP) (.and (.eq (rr 24100 jD 19) ei) (.and (.eq (rr 24100 jD 20) fg) (.and (.eq (rr 24100 jD 21) fu) (.eq (rr 24100 jD 22) fv))))] [IH,.eq (rr 22350 DM 4) W,.eq Q38 iQ,.eq (rr 24100 jD 23) W] (ou [rr 24100 jD 16,.op .set (rr 24100 jD 17) (cn US (cn (mk (rr 24100 jD 24)) (cn Qk (cn (mk (rr 24100 jD 25)) (cn (mk (rr 24100 jD 26)) (cn (mk (rr 24100 jD 27)) (cn (mk (rr 24100 jD 28)) gI))))))),Q0]) (by simp only [zz,dK,h,hx,hN,ha,p4,o0,ff,qe,and_self]<;>omega) aa ?_;simp_all [zz,ld]
    ·rw [af (fun h=>qe h.2)];refine bA [.eq (a0 22350 DM) Q0,.eq (a0 24100 jD) Q0,.eq (rr 24100 jD 0) W,.eq (a0 22250 uS) Q0] [IH,.eq (rr 22350 DM 4) W,.eq Q38 iQ,.eq (rr 24100 jD 23) W,.and (.eq (rr 24100 jD 18) bP) (.and (.eq (rr 24100 jD 19) ei) (.and (.eq (rr 24100 jD 20) fg) (.and (.eq (rr 24100 jD 21) fu) (.eq (rr 24100 jD 22) fv))))] (ou [rr 22250 uS 0,rr 22250 uS 1,W]) (by simp only [zz,dK,h,hx,hN,ha,p4,o0,ff,qe]<;>omega) aa ?_;simp only [zz,dK]
 grind [bK,M7,fin,L]
end
end
section
variable {n:Nat}
def EqN (a b:D):Prop:=a.l.length=b.l.length/\∀(i:Nat),(a.at (i:Int)).n=(b.at (i:Int)).n
structure g_ (x y:D):Prop where
 c0:(x.V 0).n=(y.V 0).n
 c1:EqN (x.V 1) (y.V 1)
 c2:(x.V 2).n=(y.V 2).n
 c3:(x.V 3).n=(y.V 3).n
 c4:(x.V 4).n=(y.V 4).n
 c5:(x.V 5).n=(y.V 5).n
theorem EqN.tn (a:D):EqN a a:=⟨rfl,fun _=>rfl⟩
theorem g_.tn (a:D):g_ a a:=⟨rfl,EqN.tn _,rfl,rfl,rfl,rfl⟩
def Tf (k:D):Prop:=k.l.length<=140737488351232/\∀i:Nat,((k.at (i:Int)).V 1).l.length<=140737488351232
section
variable {s k s' k':D} (hl:k.l.length=k'.l.length) (hq: ∀i:Nat,g_ (k.at (i:Int)) (k'.at (i:Int))) (hb:Tf k)
include hl hq hb
theorem Bb: ∀(j i:Nat),i+j=k.l.length->L 2051 [(k.l.length:Int),(i:Int),enc s,enc k,enc s',enc k']=some [1]
 |0,i,hi=>by
  have c1: ¬(i:Int)<(k.l.length:Int):=J
  rw [bK,ac0];simp only [N',zz,c1,de]
 |j+1,i,hi=>by
  have c1:(i:Int)<(k.l.length:Int):=J
  have c2: ¬((i:Int)<0):=J
  have c3:(i:Int)<(k'.l.length:Int):=J
  have b1:=hb.1;have w:=bB (n:=i) J;have ih:=Bb j (i+1) J;have q:=hq i;obtain⟨q1,q2⟩:=q.c1;have b2:=hb.2 i
  have lp: ∀(j' i':Nat),i'+j'=((k.at (i:Int)).V 1).l.length->L 2052 [(k.l.length:Int),(i:Int),(((k.at (i:Int)).V 1).l.length:Int),(i':Int),enc s,enc k,enc s',enc k',((k.at (i:Int)).V 0).n,enc ((k.at (i:Int)).V 1),((k.at (i:Int)).V 2).n,((k.at (i:Int)).V 3).n,((k.at (i:Int)).V 4).n,((k.at (i:Int)).V 5).n,((k'.at (i:Int)).V 0).n,enc ((k'.at (i:Int)).V 1),((k'.at (i:Int)).V 2).n,((k'.at (i:Int)).V 3).n,((k'.at (i:Int)).V 4).n,((k'.at (i:Int)).V 5).n]=some [1]:=by
   intro j'
   induction j' with
   |zero=>
    intro i' hi';have d1: ¬(i':Int)<(((k.at (i:Int)).V 1).l.length:Int):=J
    rw [bK,acZ];simp only [N_,zz,d1,w,bM,ih]
   |succ j' ihj=>
    intro i' hi';have d1:(i':Int)<(((k.at (i:Int)).V 1).l.length:Int):=J
    have d2: ¬((i':Int)<0):=J
    have d3:(i':Int)<(((k'.at (i:Int)).V 1).l.length:Int):=J
    have w':=bB (n:=i') J;have h':=ihj (i'+1) J;have hn:=q2 i';rw [bK,acZ];simp only [N_,zz,d1,d2,d3,w',hn,bM];exact h'
  have l0:=lp ((k.at (i:Int)).V 1).l.length 0 J;have q1':(((k.at (i:Int)).V 1).l.length:Int)=(((k'.at (i:Int)).V 1).l.length:Int):=J
  simp only [q.c0,q.c2,q.c3,q.c4,q.c5,q1',avY] at l0;rw [bK,ac0];simp only [N',zz,c1,c2,c3,q.c0,q.c2,q.c3,q.c4,q.c5,q1',bM];exact l0
theorem JD (hs:L 200 [enc s,enc s']=some [1]):L 2050 [enc s,enc k,enc s',enc k']=some [1]:=by
 have h:=Bb (s:=s) (s':=s') hl hq hb k.l.length 0 J;have I3:(k.l.length:Int)=(k'.l.length:Int):=J
 rw [avY] at h;rw [bK,akS];simp only [ajh,zz,hs,dP,I3,bM]
 grind
end
theorem Yc {s:D} (hlen:s.l.length<=140737488351232) (hr:LP s):L 200 [enc s,enc s]=some [1]:=by obtain⟨c,U,_,h3⟩:=JA s s hlen hr;rw [U,h3.2 ⟨rfl,fun k U Z _=> ⟨rfl,rfl,Iff.rfl,rfl,⟨rfl,fun _ _ _ _=>rfl⟩,⟨rfl,fun _ _ _ _=>rfl⟩⟩⟩]
theorem Sx.aun {s k:D} (S:Sx s k n):Tf k:=by
 refine⟨S.wk.len,fun i=>?_⟩;by_cases hi:i<k.l.length
 ·exact ahX
 ·rw [eL,av6 J];show ((D.i 0).V 1).l.length<=_;simp [D.V,D.l]
theorem Sx.same {s k:D} (S:Sx s k n) (hn:n<17592186043904):L 2050 [enc s,enc k,enc s,enc k]=some [1]:=
 JD rfl (fun _=>g_.tn _) S.aun (Yc S.g.wd.len (fun x hx=>by have:=S.g.rows x hx; omega))
end
section
variable {n j:Nat}
set_option maxHeartbeats 4000000 in
theorem P6: ∀(N:Nat) (kids:D),SizeOf.sizeOf kids<=N->Wd (.sl 6) kids->∀(k n:Int) (s loc Tl:D),loc.l=Tl.l->L 1950 [k,enc s,n,enc kids,enc loc]=L 1950 [k,enc s,n,enc kids,enc Tl]
 |0,kids,hN,_,_,_,_,_,_,_=>by exfalso;cases kids<;>simp at hN
 |N+1,kids,hN,hk,k,n,s,loc,Tl,hl=>by
  have sub: ∀i:Nat,∃v:Int,(i<kids.l.length->L 1950 [((kids.at (i:Int)).V 0).n,enc ((kids.at (i:Int)).V 1),((kids.at (i:Int)).V 2).n,enc ((kids.at (i:Int)).V 3),enc loc]=some [v]/\L 1950 [((kids.at (i:Int)).V 0).n,enc ((kids.at (i:Int)).V 1),((kids.at (i:Int)).V 2).n,enc ((kids.at (i:Int)).V 3),enc Tl]=some [v]):=by
   intro i;by_cases dc:i<kids.l.length
   ·obtain⟨k',s',n',Bw,he,_,_,hn',Z⟩:=qZ hk dc
    have jv:SizeOf.sizeOf Bw<SizeOf.sizeOf kids.l[i]:=by simp_all [A9,bF]
    have arN:=A9 (au dc);obtain⟨v,hL,_⟩:=Du N Bw J Z k' n' s' loc;refine⟨v,fun _=>?_⟩;rw [bI dc,he];simp only [zg,az];exact⟨hL,(P6 N Bw J Z k' n' s' loc Tl hl).symm.trans hL⟩
   ·exact⟨0,fun h=>absurd h dc⟩
  obtain⟨a,h0⟩:=sub 0;obtain⟨b,U⟩:=sub 1;have e1:=bK 1950 [k,enc s,n,enc kids,enc loc];have e2:=bK 1950 [k,enc s,n,enc kids,enc Tl];have ha: ∀z,loc.at z=Tl.at z:=fun z=>by unfold D.at; rw [hl]
  rw [EC] at e1 e2;by_cases l1:(kids.l.length:Int)=1
  ·obtain⟨h0,h0'⟩:=h0 J;simp_all [zu,zz,e1,e2]
  ·by_cases l2:(kids.l.length:Int)=2
   ·obtain⟨h0,h0'⟩:=h0 J;obtain⟨U,PK⟩:=U J;simp only [avY,bo] at h0 h0' U PK;simp_all [zu,zz,H7,e1,e2]
   simp_all [zu,zz,e1,e2]
theorem TV {uO lc lc':D} (ha:Wd (.sl 6) uO) (hl:lc.l=lc'.l) {i:Int} (i0:0<=i) (i1:i<(uO.l.length:Int)):ev (uO.at i) lc=ev (uO.at i) lc':=by
 obtain⟨j,rfl⟩ : ∃j:Nat,i=(j:Int):=⟨i.toNat,J⟩;have hj:j<uO.l.length:=J
 obtain⟨k',s',n',Bw,he,_,_,hn',Z⟩:=qZ ha hj;have e1:uO.at (j:Int)=dL [.i k',s',.i n',Bw]:=by rw [bI hj,he]
 unfold ev;rw [e1];simp only [zg,az,Br];rw [P6 _ Bw (aw _) Z k' n' s' lc lc' hl]
section
variable {d0 d1:D} {t:Int} {x:KT} (C:Cd d0 d1) (R:Rt d0 d1 t x)
include C R
theorem aqZ:Rt d0 d1 t (nX x):=by
 refine⟨R.t0,R.t1,?_,G3 R.hl,R.hg⟩;have:=R.ok
 grind [OkT,qV]
theorem aq0: ∃a lc w o g tr,Kt x.d a lc w o g tr:=by obtain⟨a0,a1,Er,t0,t1,hw⟩:=R.ok;have V:=C.ok.1;have Wt:=(C.code R.t0 R.t1).len;exact⟨x.a,x.lc,x.w,x.o,x.g,x.tr,rfl,⟨J,J⟩,R.hl,⟨J,J⟩,⟨J,J⟩,R.hg,⟨J,J⟩⟩
theorem vg:eP d1 t (nX x)=eP d1 t x:=by
 unfold eP;by_cases w0:x.w=0
 ·by_cases a0:x.a=(Nc d1 t:Int)
  ·grind
  ·have F:=C.inf R (by have:=R.ok.2.1; unfold Nc at a0 ⊢; omega)
   have e:Fa ((df d1 t x).V 6) (mW x.lc)=Fa ((df d1 t x).V 6) x.lc:=by
    unfold Fa;by_cases hz:((df d1 t x).V 6).l.length=0
    ·grind
    ·rw [af hz,af hz];exact TV F.ar (vZ _) J J
   grind
 grind
theorem ant (Lc:Loc d1 t x):da (df d1 t x) (nX x)=nX (da (df d1 t x) x):=by
 have F:=C.inf R Lc.a;have Er:(x.lc.l.length:Int)=(((d1.at t).V 1).l.length:Int):=R.ok.2.2.1;have n1:=Lc.n1;have n2:=Lc.n2;have ok:=F.ok;have ha: ∀z,(mW x.lc).at z=x.lc.at z:=fun z=>by unfold D.at; rw [vZ]
 have afQ: ∀z v,0<x.lc.l.length->mW (dL (dC x.lc.l z v))=dL (dC x.lc.l z v):=fun z v h=>Bo (by rw [bF,eF]; omega);unfold da;simp only [nX,vZ,ha];unfold f? at ok;rcases ok with h|h|⟨h,i0,i1,na⟩|⟨h,_,_,na⟩|⟨h,_⟩|⟨h,i0,i1⟩|⟨h,i0,i1,_⟩
 ·grind
 ·grind
 ·simp only [h,if_true];rw [afQ _ _ J,TV F.ar (vZ x.lc) J J]
 ·simp only [h,Int.reduceEq,if_true,if_false];rw [TV F.ar (vZ x.lc) J J]
  grind
 all_goals grind
theorem amR (hx:x.w=0->x.a<(Nc d1 t:Int)) (op e2 e3 e4 oc:Int):cF (df d1 t x) (nX x) op e2 e3 e4 oc=nX (cF (df d1 t x) x op e2 e3 e4 oc):=by
 have afQ: ∀z v,0<x.lc.l.length->mW (dL (dC x.lc.l z v))=dL (dC x.lc.l z v):=fun z v h=>Bo (by rw [bF,eF]; omega);unfold cF;simp only [nX,vZ];by_cases o0:oc=0
 ·grind
 ·rw [af o0,af o0];by_cases w0:x.w=0
  ·rw [ag w0,ag w0];have F:=C.inf R (hx w0);have Er:(x.lc.l.length:Int)=(((d1.at t).V 1).l.length:Int):=R.ok.2.2.1;have ok:=F.ok
   grind [f?]
  grind
end
theorem aaX (x:KT):g_ x.d (nX x).d:=by
 refine⟨rfl,⟨?_,fun i=>?_⟩,rfl,rfl,rfl,rfl⟩
 ·exact (qV _).symm
 ·show (x.lc.at (i:Int)).n=((mW x.lc).at (i:Int)).n
  grind [eL,vZ]
theorem afJ {x y:D} (h:g_ x y):g_ y x:=⟨h.c0.symm,⟨h.c1.1.symm,fun i=>(h.c1.2 i).symm⟩,h.c2.symm,h.c3.symm,h.c4.symm,h.c5.symm⟩
theorem aaY {k:D} (hk:Wd (.sl 8) k) (i:Nat):g_ (k.at (i:Int)) ((iO k).at (i:Int)):=by
 by_cases hi:i<k.l.length
 ·obtain⟨a,lc,w,o,g,tr,T⟩:=fw hk _ (au hi);rw [Nz J J,bI hi,T.is];exact agy ⟨a,lc,w,o,g,tr⟩▸aaX ⟨a,lc,w,o,g,tr⟩
 ·rw [eL,eL,qQ,bg,av6 J];exact .tn _
theorem afK {k k':D} (hl:k.l.length=k'.l.length) (h: ∀i:Nat,g_ (k.at (i:Int)) (k'.at (i:Int))) {t:Int} (t0:0<=t) {x y:KT} (hx:g_ x.d y.d) (i:Nat):g_ ((ep k t x).at (i:Int)) ((ep k' t y).at (i:Int)):=by
 obtain⟨j,rfl⟩ : ∃j:Nat,t=(j:Int):=⟨t.toNat,J⟩;by_cases hij:i=j
 ·subst hij;by_cases hi:i<k.l.length
  ·grind [lR]
  ·have e: ∀(z:D) (w:KT),z.l.length<=i->(ep z (i:Int) w).at (i:Int)= .i 0:=fun z w hz=>by
    grind [eL,gS]
   rw [e _ _ J,e _ _ J];exact .tn _
 ·have e: ∀(z:D) (w:KT),(ep z (j:Int) w).at (i:Int)=z.at (i:Int):=fun z w=>by
   grind [eL,dL,dC,bF,j4]
  grind
theorem ae4 {s k:D} (S:Sw s k n):Tf k:=by
 refine⟨S.wk.len,fun i=>?_⟩;by_cases hi:i<k.l.length
 ·exact ahX
 grind [eL,D.V,D.l]
theorem uw {s k s' k':D} (S:Sw s k n) (hn:n<17592186044000) (hs:wK s s') (hl:k.l.length=k'.l.length) (hq: ∀i:Nat,g_ (k.at (i:Int)) (k'.at (i:Int))):L 2050 [enc s,enc k,enc s',enc k']=some [1]:=
 JD hl hq (ae4 S) (aff S.g hn hs)
def Inv (j:Nat) (d0 d1 s k:D):Prop:= ∃n,Sw s k n/\n<17592186044000/\(MR d0 d1 s k->n+j<17592186043800)
theorem Inv.mono {i:Nat} {d0 d1 s k:D} (h:Inv j d0 d1 s k) (hij:i<=j):Inv i d0 d1 s k:=by obtain⟨n,S,hn,hm⟩:=h;exact⟨n,S,hn,fun M=>by have:=hm M; omega⟩
theorem afG {d0 d1 s k:D} {t:Int} (h:L 1550 [enc d0,enc d1,enc s,enc k,t]=some [0]):L 1700 [enc d0,enc d1,enc s,enc k,t]=some [0]:=by rw [bK,ade];simp only [Q!,zz,h];rfl
theorem afH {d0 d1 s k:D} {t:Int} {x:KT} (R:Rs d0 d1 s k t x):L 1700 [enc d0,enc d1,enc s,enc k,t]=some [eU d1 t x]:=by
 have hy:=R.yes;have ho:=oa (s:=s) R.hk R.ht R.r;rcases Fs d1 t x with h|h
 ·exact aho
 ·exact aho
section
variable {d0 d1 s k:D} (h0:Wd (.sl 3) d0) (U:Wd (.sl 4) d1)
include h0 U
theorem X4 (Z?:Inv (j+1) d0 d1 s k) (t:Int): ∃(a kk b s1 k1:D) (q0 q1 q2 q3 q4 e1 e2 e3 e4 e5 oc f:Int),L 22250 [enc s,enc k]=some [enc s1,enc k1]/\
 L 1800 [enc d0,enc d1,enc s1,enc k1,t]=some [q0,q1,q2,q3,q4]/\L 22350 [enc d0,enc d1,enc s,enc k,t]=some [q0,q1,q2,q3,q4]/\
 L 1850 [enc d0,enc d1,enc s1,enc k1,t]=some [enc a,enc kk,e1,e2,e3,e4,e5,oc]/\L 22400 [enc d0,enc d1,enc s,enc k,t]=some [enc b,enc kk,e1,e2,e3,e4,e5,oc]/\
 L 2050 [enc a,enc kk,enc b,enc kk]=some [1]/\L 1700 [enc d0,enc d1,enc s1,enc k1,t]=some [f]/\L 22300 [enc d0,enc d1,enc s,enc k,t]=some [f]/\
 L 2050 [enc s1,enc k1,enc s,enc k]=some [1]/\(f=0\/f=1)/\(q4=0\/q4=1)/\Inv j d0 d1 a kk:=by
 obtain⟨n,S,hn,hm⟩:=Z?;obtain⟨hq,S1⟩:=vN S hn;have dK:=Ih S hn;have Ho:L 2050 [enc (cS s),enc (iO k),enc s,enc k]=some [1]:=uw S1.sw hn hq (by rw [qQ,bc]) fun i=>afJ (aaY S.wk i);have self: ∀{a b kk:D} {m:Nat},Sw a kk m->m<17592186044000->wK b a->L 2050 [enc a,enc kk,enc b,enc kk]=some [1]:=fun A hm h=>uw A hm (sy h) rfl fun _=> .tn _;rcases aab (t:=t) S hn h0 U with h|⟨x,R⟩
 ·have h':=(aud h0 U S hn).2 h;refine⟨cS s,iO k,cS s,cS s,iO k,0,0,0,0,0,0,0,0,0,0,0,0,dK,aaI h0 U S1.sw hn h',Yv h0 U S hn h,ae5 S1 h',X5 h0 U S hn h,self S1.sw hn (.tn _),afG h',abH h0 U S hn h,Ho,.inl rfl,.inl rfl,n,S1.sw,hn,fun M=>?_⟩
  grind [afE]
 ·have M:=((uU h0 U S hn t).1 R.yes).2.2;have hm:=hm M;have R1:=ON h0 U S hn R;have hxn:=vg R.c R.r;have hN1:=aaJ h0 U S1.sw hn R1;have hN:=nC h0 U S hn R;rw [hxn] at hN1;have hF1:L 1700 [enc d0,enc d1,enc (cS s),enc (iO k),t]=some [eU d1 t x]:=by exact afH (x:=nX x) R1
  have hF:=lM h0 U S hn R
  obtain⟨q0,q1,q2,q3,q4,hqq,h4⟩ : ∃q0 q1 q2 q3 q4:Int,eP d1 t x= [q0,q1,q2,q3,q4]/\(q4=0\/q4=1):=by
   grind [eP]
  rw [hqq] at hN hN1;have X:Inv j d0 d1 (cS s) (iO k):=⟨n,S1.sw,hn,fun _=>by omega⟩;rcases Fs d1 t x with ho|ho
  ·by_cases ha:low (eP d1 t x) 4=0
   ·have ha1:low (eP d1 t (nX x)) 4=0:=by rw [hxn]; exact ha
    have hA:=SD S1 R1 ho ha1
    have hB:L 22400 [enc d0,enc d1,enc s,enc k,t]=some [enc (cS s),enc (ep (iO k) t (da (df d1 t x) (nX x))),0,0,0,0,0,1]:=by
     by_cases hz:x.lc.l.length=0
     ·exact Tj h0 U S hn R ho ha1 hz
     ·exact Ti h0 U S hn R ho ha1 hz
    have S2:Sw (cS s) (ep (iO k) t (da (df d1 t x) (nX x))) n:=(ans S1 J h0 U R1 ho ha1).sw;exact⟨_,_,_,_,_,_,_,_,_,_,_,_,_,_,_,_,_,dK,hN1,hN,hA,hB,self S2 hn (.tn _),hF1,hF,Ho,J,h4,n,S2,hn,fun _=>by omega⟩
   ·obtain⟨op,obj,arg,tr,hq5⟩:=C9 J ha;obtain⟨k1,k2,k3⟩:=VT R.c R.r R.c.ok.1 hq5
    have iH:gb .i64 t:=by exact ap4
    obtain⟨a,b,e1,e2,e3,e4,e5,oc,TT,hB,N4⟩:=JG (tries:=tr) (th:=t) (obj:=obj) h0 U S1.g hn k1 k3 J iH k2
    have hE:uR e1 e2 e3 e4 e5 oc= [e1,e2,e3,e4,e5]:=by
     unfold uR;split
     ·rename_i z;obtain⟨_,rfl,rfl,rfl,rfl,rfl⟩:=TT.no z;rfl
     ·rfl
    have hq6:eP d1 t (nX x)= [op,obj,arg,tr,1]:=hxn.trans hq5;have hA:=SC S1 R1 ho hq6 TT;have hBB:=SF h0 U S hn R ho hq6 hB hE
    have hSE:wK (ld (cS s) b oc) a:=by
     unfold ld;split
     ·rename_i z;rw [(TT.no z).1];exact .tn _
     grind
    have S2:=(amQ S1 R1.c R1.r R1.ht (aec R1.r ho) TT).sw;exact⟨_,_,_,_,_,_,_,_,_,_,_,_,_,_,_,_,_,dK,hN1,hN,hA,hBB,self S2 J hSE,hF1,hF,Ho,J,h4,n+1,S2,J,fun _=>by omega⟩
  ·have hA:=X3 S1 R1 ho;have hB:=OJ h0 U S hn R ho;exact⟨_,_,_,_,_,_,_,_,_,_,_,_,_,_,_,_,_,dK,hN1,hN,hA,hB,self S1.sw hn (.tn _),hF1,hF,Ho,J,h4,X⟩
end
end
def FR (d0 d1 s k:D) (t:Int) (n:Nat) (ys zs:List Int):Prop:=(ys= [enc s,enc k,0]/\zs= [enc (cS s),enc (iO k),0])\/
 ∃(s' b:D) (x:KT),ys= [enc s',enc (ep k t x),1]/\zs= [enc b,enc (ep (iO k) t (nX x)),1]/\wK b s'/\Sw s' (ep k t x) (n+1)
section
variable {d0 d1 s k:D} {n:Nat} (h0:Wd (.sl 3) d0) (U:Wd (.sl 4) d1) (S:Sw s k n) (hn:n<17592186043800) {t:Int} {eX fE ea eb:Int}
include h0 U S hn
theorem WB {x:KT} (M:MR d0 d1 s k) (C:Cd d0 d1) (ht:t<(k.l.length:Int)) (R:Rt d0 d1 t x):Fy d0 d1 s k t n (nX x):=by
 obtain⟨hq,S1⟩:=vN S J;have hl:(iO k).l.length=k.l.length:=by rw [qQ,bc]
 have hp:0<(iO k).l.length:=by have:=R.t0; omega
 have R1:=aqZ C R;have ht1:t<((iO k).l.length:Int):=J
 have M1:=(afE h0 U S J).2 M;have S2:Sw (cS s) (ep (iO k) t (nX x)) n:=⟨S1.g,Fj S1.wk (aq0 C R1) hp⟩;exact⟨S,R.t0,ht,S2,⟨C,R1,lR R.t0 ht1 _,by rw [gS]; exact ht1,(uU h0 U S2 J t).2 ⟨R.t0,R.t1,ano S1 J M1 R1 ht1 M1.1⟩⟩,S7 _⟩
theorem WD {x:KT} (M:MR d0 d1 s k) (C:Cd d0 d1) (ht:t<(k.l.length:Int)) (R:Rt d0 d1 t x) (ho:eU d1 t x=0) {op obj arg tr:Int} (hq:eP d1 t x= [op,obj,arg,tr,1]) :
 ∃(s' b:D) (e1 e2 e3 e4 e5 oc:Int),sE d0 d1 s t op obj arg (frT eX ea) n s' e1 e2 e3 e4 e5 oc/\L 4000 [enc d0,enc d1,enc (cS s),t,op,obj,arg,if op=4/\eX=4/\ea=0 then 4611686018427387904 else 0]=some [enc b,e1,e2,e3,e4,e5,oc]/\wK b s'/\
  uR e1 e2 e3 e4 e5 oc= [e1,e2,e3,e4,e5]/\Sw s' (ep k t (cF (df d1 t x) x op e2 e3 e4 oc)) (n+1):=by
 obtain⟨hs,S1⟩:=vN S J;obtain⟨k1,k2,k3⟩:=VT C R C.ok.1 hq
 have iH:gb .i64 t:=by have:=R.t0;have:=R.t1;have:=U.len;exact⟨J,J⟩
 obtain⟨a,b,e1,e2,e3,e4,e5,oc,TT,hB,N4⟩:=JG (tries:=if op=4/\eX=4/\ea=0 then 4611686018427387904 else 0) (th:=t) (obj:=obj) h0 U S1.g J k1 k3 J iH k2;obtain⟨s',f1,f2,f3,f4,f5,oc',A⟩:=Vh (t:=t) (op:=op) (obj:=obj) (arg:=arg) (tries:=frT eX ea) h0 U S.g J iH k1 k2 k3
 have A':sE d0 d1 s t op obj arg (if op=4/\eX=4/\ea=0 then 4611686018427387904 else 0) n s' f1 f2 f3 f4 f5 oc':=by
  by_cases p:op=4
  ·grind
  ·exact XV h0 U S.g J k1 A p _
 obtain⟨z0,rfl,rfl,rfl,rfl,rfl,rfl⟩:=Se h0 U hs S1.g S.g J k1 TT A'
 have hE:uR f1 f2 f3 f4 f5 oc'= [f1,f2,f3,f4,f5]:=by
  unfold uR;split
  ·rename_i z;obtain⟨_,rfl,rfl,rfl,rfl,rfl⟩:=A.no z;rfl
  ·rfl
 have hp:0<k.l.length:=by have:=R.t0; omega
 exact⟨s',b,_,_,_,_,_,_,A,hB,Go.As.Try.tr N4 z0,hE,A.gs,Fj S.wk (w_ C R (aec R ho) A.e3 A.e4) hp⟩
theorem PZ (M:MR d0 d1 s k) (C:Cd d0 d1) (ht:t<(k.l.length:Int)): ∀(j m:Nat) (x:KT),m+j=20001->Rt d0 d1 t x->x.lc.l.length≠0->∃ys zs,L 2004 [t,(m:Int),enc d0,enc d1,enc s,enc k,eX,fE,ea,eb,enc s,enc k,x.a,enc x.lc,x.w,x.o,x.g,x.tr]=some ys/\L 22453 [(m:Int),enc d0,enc d1,enc s,enc k,t,eX,fE,ea,eb,enc (cS s),enc (kB k t),t,(nX x).a,enc (nX x).lc,(nX x).w,(nX x).o,(nX x).g,(nX x).tr]=some zs/\FR d0 d1 s k t n ys zs
 |0,m,x,hm,R,hz=>by
  have Z':=WB h0 U S hn M C ht R;have hz1:(nX x).lc.l.length≠0:=by show (mW x.lc).l.length≠0; rw [qV]; exact hz
  exact⟨_,_,KG S.st C ht R J,xL h0 U J Z' (.inl J),.inl ⟨rfl,rfl⟩⟩
 |j+1,m,x,hm,R,hz=>by
  have Z':=WB h0 U S hn M C ht R;have hz1:(nX x).lc.l.length≠0:=by show (mW x.lc).l.length≠0; rw [qV]; exact hz
  have I1: ¬20000<(m:Int):=J
  rcases Fs d1 t x with ho|ho
  ·by_cases ha:low (eP d1 t x) 4=0
   ·have Lc:=tu R ho ha;obtain⟨R2,hl⟩:=Ha C ht R Lc;have ha1:low (eP d1 t (nX x)) 4=0:=by rw [vg C R]; exact ha
    have hA:=Y4 (eX:=eX) (fE:=fE) (ea:=ea) (eb:=eb) S.st C ht R I1 ho ha;rw [bB (n:=m) J] at hA;have ZV:(da (df d1 t x) x).lc.l.length≠0:=J
    by_cases Z:m=20000
    ·subst Z;have hB:=KG (eX:=eX) (fE:=fE) (ea:=ea) (eb:=eb) (m:=((20000+1:Nat):Int)) S.st C ht R2 J;exact⟨_,_,hA.trans hB,xL h0 U J Z' (.inr ⟨I1,ha1,.inl rfl⟩),.inl ⟨rfl,rfl⟩⟩
    ·obtain⟨ys,zs,q1,q2,q3⟩:=PZ M C ht j (m+1) (da (df d1 t x) x) J R2 ZV;have hB:=PW (eX:=eX) (fE:=fE) (ea:=ea) (eb:=eb) h0 U J Z' hz1 I1 J ha1 ho;exact ag3
   ·obtain⟨op,obj,arg,tr,hq⟩:=C9 J ha;obtain⟨s',b,e1,e2,e3,e4,e5,oc,A,hB,N4,hE,S2⟩:=WD (eX:=eX) (ea:=ea) h0 U S hn M C ht R ho hq;have hA:=Y3 (eX:=eX) (fE:=fE) (ea:=ea) (eb:=eb) S.st C ht R I1 ho hq rfl A;have hBB:=PV (eX:=eX) (fE:=fE) (ea:=ea) (eb:=eb) h0 U J Z' I1 ho ((vg C R).trans hq) rfl hB hE;exact aip
  ·have hA:=TS (eX:=eX) (fE:=fE) (ea:=ea) (eb:=eb) S.st C ht R I1 ho;refine⟨_,_,hA,xL h0 U J Z' (.inr ⟨I1,?_,?_⟩),.inl ⟨rfl,rfl⟩⟩
   ·rw [vg C R,JY ho];rfl
   ·exact ag1
theorem P0 (M:MR d0 d1 s k) (C:Cd d0 d1) (ht:t<(k.l.length:Int)): ∀(j m:Nat) (x:KT),m+j=20001->Rt d0 d1 t x->x.lc.l.length=0->∃ys zs,L 2005 [t,(m:Int),enc d0,enc d1,enc s,enc k,eX,fE,ea,eb,enc s,enc k,x.a,enc x.lc,x.w,x.o,x.g,x.tr]=some ys/\L 22452 [(m:Int),enc d0,enc d1,enc s,enc k,t,eX,fE,ea,eb,enc (cS s),enc (kB k t),t,(nX x).a,(nX x).w,(nX x).o,(nX x).g,(nX x).tr]=some zs/\FR d0 d1 s k t n ys zs
 |0,m,x,hm,R,hz=>by
  have Z':=WB h0 U S hn M C ht R;have hz1:(nX x).lc.l.length=0:=by show (mW x.lc).l.length=0; rw [qV]; exact hz
  exact⟨_,_,KF S.st C ht R hz J,xM h0 U J Z' hz1 (.inl J),.inl ⟨rfl,rfl⟩⟩
 |j+1,m,x,hm,R,hz=>by
  have Z':=WB h0 U S hn M C ht R;have hz1:(nX x).lc.l.length=0:=by show (mW x.lc).l.length=0; rw [qV]; exact hz
  have I1: ¬20000<(m:Int):=J
  rcases Fs d1 t x with ho|ho
  ·by_cases ha:low (eP d1 t x) 4=0
   ·have Lc:=tu R ho ha;obtain⟨R2,hl⟩:=Ha C ht R Lc;have ha1:low (eP d1 t (nX x)) 4=0:=by rw [vg C R]; exact ha
    have hA:=Y2 (eX:=eX) (fE:=fE) (ea:=ea) (eb:=eb) S.st C ht R hz I1 ho ha;rw [bB (n:=m) J] at hA;have ZV:(da (df d1 t x) x).lc.l.length=0:=J
    by_cases Z:m=20000
    ·subst Z;have hB:=KF (eX:=eX) (fE:=fE) (ea:=ea) (eb:=eb) (m:=((20000+1:Nat):Int)) S.st C ht R2 ZV J;exact⟨_,_,hA.trans hB,xM h0 U J Z' hz1 (.inr ⟨I1,ha1,.inl rfl⟩),.inl ⟨rfl,rfl⟩⟩
    ·obtain⟨ys,zs,q1,q2,q3⟩:=P0 M C ht j (m+1) (da (df d1 t x) x) J R2 ZV;have hB:=PY (eX:=eX) (fE:=fE) (ea:=ea) (eb:=eb) h0 U J Z' hz1 I1 J ha1 ho;exact ag3
   ·obtain⟨op,obj,arg,tr,hq⟩:=C9 J ha;obtain⟨s',b,e1,e2,e3,e4,e5,oc,A,hB,N4,hE,S2⟩:=WD (eX:=eX) (ea:=ea) h0 U S hn M C ht R ho hq;have hA:=Y1 (eX:=eX) (fE:=fE) (ea:=ea) (eb:=eb) S.st C ht R hz I1 ho hq rfl A;have hBB:=PX (eX:=eX) (fE:=fE) (ea:=ea) (eb:=eb) h0 U J Z' hz1 I1 ho ((vg C R).trans hq) rfl hB hE;exact aip
  ·have hA:=TR (eX:=eX) (fE:=fE) (ea:=ea) (eb:=eb) S.st C ht R hz I1 ho;refine⟨_,_,hA,xM h0 U J Z' hz1 (.inr ⟨I1,?_,?_⟩),.inl ⟨rfl,rfl⟩⟩
   ·rw [vg C R,JY ho];rfl
   ·exact ag1
end
noncomputable abbrev r5E (d0 d1 s k:D) (t eX fE ea eb:Int):Nat->Int:=cN L (low [enc d0,enc d1,enc s,enc k,t,eX,fE,ea,eb])
section
variable {d0 d1 s k:D} {n:Nat} (h0:Wd (.sl 3) d0) (U:Wd (.sl 4) d1) (S:Sw s k n) (hn:n<17592186044000) {t:Int} {eX fE ea eb:Int}
include h0 U S hn
theorem TQ (h:L 1550 [enc d0,enc d1,enc s,enc k,t]=some [0]):L 22450 [enc d0,enc d1,enc s,enc k,t,eX,fE,ea,eb]=some [enc (cS s),enc (iO k),0]:=by
 have hs:=Ri S J;have h:=(C7 h0 U S J t).1 h;obtain⟨ys,hR,b,rfl,hb⟩:=JL h0 U S J;obtain⟨c1,c2⟩:=(S.cnd J).1
 have zl:b=0\/¬b=0/\(t<0\/¬t<0/\¬t<(d1.l.length:Int)):=by
  grind
 rw [bK,M8];by_cases ht:t<0\/(k.l.length:Int)<=t
 ·rcases ajN c1 c2 t ht hs with hc|⟨hc,he⟩
  ·have K:dV (r5E d0 d1 s k t eX fE ea eb) Af= .out [enc (cS s),enc (iO k),0]:=by
    rcases zl with b0|⟨b1,t0|⟨t0,t1⟩⟩
    ·refine bA [.eq (a0 9150 kT) Q0,.eq iq gW,sF,rA] [.eq iq W,.eq iq Q0,.eq iq eg] (ou [mq,sO,W]) (by simp only [zz,hc,hR,b0]<;>omega) aa ?_;simp only [zz,hc]
    ·refine bA [.eq (a0 9150 kT) Q0,.eq iq gW,sF,re] [.eq iq W,.eq iq Q0,.eq iq eg,rA] (ou [mq,sO,W]) (by simp only [zz,hc,hR,b1,t0]<;>omega) aa ?_;simp only [zz,hc]
    ·refine bA [.eq (a0 9150 kT) Q0,.eq iq gW,sF] [.eq iq W,.eq iq Q0,.eq iq eg,rA,re,tW] (ou [mq,sO,W]) (by simp only [zz,hc,hR,b1,t0,t1]<;>omega) aa ?_;simp only [zz,hc]
   exact j7
  ·rw [he]
   have K:dV (r5E d0 d1 s k t eX fE ea eb) Af= .out [enc (cS s),enc (.i 1),0]:=by
    rcases zl with b0|⟨b1,t0|⟨t0,t1⟩⟩
    ·refine bA [.eq (a0 9150 kT) Q0,.eq iq W,sF,rA] [] (ou [mq,Qh,W]) (by simp only [zz,hc,hR,b0]<;>omega) aa ?_;simp only [zz,hc]
    ·refine bA [.eq (a0 9150 kT) Q0,.eq iq W,sF,re] [rA] (ou [mq,Qh,W]) (by simp only [zz,hc,hR,b1,t0]<;>omega) aa ?_;simp only [zz,hc]
    ·refine bA [.eq (a0 9150 kT) Q0,.eq iq W,sF] [rA,re,tW] (ou [mq,Qh,W]) (by simp only [zz,hc,hR,b1,t0,t1]<;>omega) aa ?_;simp only [zz,hc]
   exact j7
 ·obtain⟨i,rfl⟩ : ∃i:Nat,t=(i:Int):=⟨t.toNat,J⟩;have hi:i<k.l.length:=J
  obtain⟨a,lc,w,o,g,tr,T⟩:=fw S.wk _ (au hi);have hc:=aa1 c1 c2 i hi hs;have hx:=rL (k:=k) (t:=(i:Int)) J J (nX ⟨a,lc,w,o,g,tr⟩);have hw:(iO k).at (i:Int)=(nX ⟨a,lc,w,o,g,tr⟩).d:=by rw [Nz J J,bI hi,T.is,<- agy]
  have Ww:iO k=dL (iO k).l:=by rw [qQ]; unfold iO; rw [af J]
  rw [CP Ww J (by rw [qQ,bc]; omega) hw] at hx;simp only [nX,KT.d,kB,aQ] at hx;rw [T.is] at hc;unfold Mc By at hc;simp only [zg,az,Br] at hc;by_cases r1:lc.l.length=0
  ·rw [ag J,ag J] at hc;rw [zC r1] at hx;simp only [dH,eC] at hx;simp only [aG,ax] at hc
   have K:dV (r5E d0 d1 s k (i:Int) eX fE ea eb) Af= .out [enc (cS s),enc (iO k),0]:=by
    rcases zl with b0|⟨b1,t0|⟨t0,t1⟩⟩
    ·refine bA [.eq (a0 9150 kT) Q0,.eq iq Q0,sF,rA] [.eq iq W] (ou [mq,Q2n,W]) (by simp only [zz,hc,hR,b0]<;>omega) aa ?_;exact zp
    ·omega
    ·refine bA [.eq (a0 9150 kT) Q0,.eq iq Q0,sF] [.eq iq W,rA,re,tW] (ou [mq,Q2n,W]) (by simp only [zz,hc,hR,b1,t0,t1]<;>omega) aa ?_;exact zp
   exact j7
  ·rw [af J,af J] at hc;rw [Bo r1] at hx;simp only [dH,eC] at hx;simp only [aG,ax] at hc
   have K:dV (r5E d0 d1 s k (i:Int) eX fE ea eb) Af= .out [enc (cS s),enc (iO k),0]:=by
    rcases zl with b0|⟨b1,t0|⟨t0,t1⟩⟩
    ·refine bA [.eq (a0 9150 kT) Q0,.eq iq eg,sF,rA] [.eq iq W,.eq iq Q0] (ou [mq,Q24,W]) (by simp only [zz,hc,hR,b0]<;>omega) aa ?_;exact zp
    ·omega
    ·refine bA [.eq (a0 9150 kT) Q0,.eq iq eg,sF] [.eq iq W,.eq iq Q0,rA,re,tW] (ou [mq,Q24,W]) (by simp only [zz,hc,hR,b1,t0,t1]<;>omega) aa ?_;exact zp
   exact j7
variable {x:KT} (R:Rs d0 d1 s k t x)
include R
theorem YY (hz:x.lc.l.length≠0):L 22450 [enc d0,enc d1,enc s,enc k,t,eX,fE,ea,eb]=L 22453 [0,enc d0,enc d1,enc s,enc k,t,eX,fE,ea,eb,enc (cS s),enc (kB k t),t,(nX x).a,enc (nX x).lc,(nX x).w,(nX x).o,(nX x).g,(nX x).tr]:=by
 have hR:=mz h0 U S hn R;have hc:=aai h0 U S hn R hz;have c1: ¬t<0:=by have:=R.r.t0; omega
 have c2:=R.r.t1;simp only [nX,Bo hz]
 have K:dV (r5E d0 d1 s k t eX fE ea eb) Af= .jump 22453 [0,enc d0,enc d1,enc s,enc k,t,eX,fE,ea,eb,enc (cS s),enc (kB k t),t,x.a,enc x.lc,x.w,x.o,x.g,x.tr]:=by refine bA [.eq (a0 9150 kT) Q0,.eq iq eg,sF,tW] [.eq iq W,.eq iq Q0,rA,re] (ju 22453 [W,Qf,Qb,Qo,Qm,bO,bP,ei,fg,fu,mq,sO,bO,zc,DN,Q2j,Q2k,Q2l,Q22]) (by simp only [zz,hc,hR,c1,c2]<;>omega) aa ?_;simp only [zz,hc]
 rw [bK,M8];exact j7
theorem YZ (hz:x.lc.l.length=0):L 22450 [enc d0,enc d1,enc s,enc k,t,eX,fE,ea,eb]=L 22452 [0,enc d0,enc d1,enc s,enc k,t,eX,fE,ea,eb,enc (cS s),enc (kB k t),t,(nX x).a,(nX x).w,(nX x).o,(nX x).g,(nX x).tr]:=by
 have hR:=mz h0 U S hn R;have hc:=aaj h0 U S hn R hz;have c1: ¬t<0:=by have:=R.r.t0; omega
 have c2:=R.r.t1
 have K:dV (r5E d0 d1 s k t eX fE ea eb) Af= .jump 22452 [0,enc d0,enc d1,enc s,enc k,t,eX,fE,ea,eb,enc (cS s),enc (kB k t),t,x.a,x.w,x.o,x.g,x.tr]:=by refine bA [.eq (a0 9150 kT) Q0,.eq iq Q0,sF,tW] [.eq iq W,rA,re] (ju 22452 [W,Qf,Qb,Qo,Qm,bO,bP,ei,fg,fu,mq,sO,bO,zc,DN,Q2j,Q2k,Q2l]) (by simp only [zz,hc,hR,c1,c2]<;>omega) aa ?_;simp only [zz,hc]
 rw [bK,M8];exact j7
end
theorem TP {d0 d1 s k:D} (h0:Wd (.sl 3) d0) (U:Wd (.sl 4) d1) {j:Nat} (Z?:Inv (j+1) d0 d1 s k) (t eX fE ea eb:Int): ∃(a ak b bk:D) (g:Int),L 2000 [enc d0,enc d1,enc s,enc k,t,eX,fE,ea,eb]=some [enc a,enc ak,g]/\
 L 22450 [enc d0,enc d1,enc s,enc k,t,eX,fE,ea,eb]=some [enc b,enc bk,g]/\L 2050 [enc a,enc ak,enc b,enc bk]=some [1]/\(g=0\/g=1)/\Inv j d0 d1 a ak:=by
 obtain⟨n,S,hn,hm⟩:=Z?;obtain⟨hq,S1⟩:=vN S hn;have Ho:L 2050 [enc s,enc k,enc (cS s),enc (iO k)]=some [1]:=uw S hn (sy hq) (by rw [qQ,bc]) fun i=>aaY S.wk i;rcases aab (t:=t) S hn h0 U with h|⟨x,R⟩
 ·exact⟨s,k,cS s,iO k,0,abG S h,TQ h0 U S hn h,Ho,.inl rfl,n,S,hn,fun M=>by have:=hm M; omega⟩
 ·have M:=((uU h0 U S hn t).1 R.yes).2.2;have hm:=hm M
  obtain⟨ys,zs,q1,q2,q3⟩ : ∃ys zs,L 2000 [enc d0,enc d1,enc s,enc k,t,eX,fE,ea,eb]=some ys/\L 22450 [enc d0,enc d1,enc s,enc k,t,eX,fE,ea,eb]=some zs/\FR d0 d1 s k t n ys zs:=by
   by_cases hz:x.lc.l.length=0
   ·obtain⟨ys,zs,q1,q2,q3⟩:=P0 (eX:=eX) (fE:=fE) (ea:=ea) (eb:=eb) h0 U S J M R.c R.ht 20001 0 x J R.r hz;exact⟨ys,zs,(af1 S R hz).trans q1,(YZ h0 U S hn R hz).trans q2,q3⟩
   ·obtain⟨ys,zs,q1,q2,q3⟩:=PZ (eX:=eX) (fE:=fE) (ea:=ea) (eb:=eb) h0 U S J M R.c R.ht 20001 0 x J R.r hz;exact⟨ys,zs,(af2 S R J).trans q1,(YY h0 U S hn R hz).trans q2,q3⟩
  rcases q3 with ⟨rfl,rfl⟩|⟨s',b,x',rfl,rfl,hsb,S2⟩
  ·exact⟨_,_,_,_,_,q1,q2,Ho,.inl rfl,n,S,hn,fun _=>by omega⟩
  ·refine⟨_,_,_,_,_,q1,q2,uw S2 J (sy hsb) (by rw [gS,gS,qQ,bc]) fun i=>?_,.inr rfl,n+1,S2,J,fun _=>by omega⟩;exact afK (by rw [qQ,bc]) (fun i=>aaY S.wk i) R.r.t0 (aaX x') i
section
variable {s k:D}
section
variable {d0 d1:D} (h0:Wd (.sl 3) d0) (U:Wd (.sl 4) d1)
include h0 U
theorem ad7 (hc:L 450 [enc d0,enc d1]=some [0]) (ok:An d0 d1):L 300 [enc d0,enc d1]=some [enc (sR d0)]:=by exact apI
theorem Pg (hlen:d1.l.length<=16) (b:Int): ∀(k i:Nat) (acc:List D),i+k=d1.l.length->acc.length=i->bL 22152 [(i:Int),enc d0,enc d1,b,enc (dL acc)] (·= [b,enc (dL (acc++(d1.l.drop i).map jX)),0])
 |0,i,acc,hi,ha=>by
  have c1: ¬(i:Int)<(d1.l.length:Int):=J
  refine bL.of ?_;rw [Up,aY J];simp only [Lv,zz,c1];exact IU
 |k+1,i,acc,hi,ha=>by
  have dc:i<d1.l.length:=J
  have V:d1.l.drop i=d1.l[i]::d1.l.drop (i+1):=aM dc;have ih:=Pg hlen b k (i+1) (acc++ [jX d1.l[i]]) J (by simp [ha]);have w:=bB (n:=i) J;have c1:(i:Int)<(d1.l.length:Int):=J
  have c2: ¬((i:Int)<0):=J
  have c3:(acc.length:Int)<2199023255551:=J
  obtain⟨sJ,lc,cd,he,_,I2,_⟩:=qT U dc;have jw:=I2.room;have e2:nU 2=16:=rfl;rw [e2] at jw;rw [avT,bn] at ih;refine bL.of ?_;rw [Up,V,aF];have gD:=bI dc;rw [he] at gD ih ⊢;have q:(lc.l.length:Int)<17592186044416:=J
  unfold jX at ih ⊢;simp only [zg,az] at ih ⊢;by_cases hz:lc.l.length=0
  ·have BE:(lc.l.length:Int)=0:=J
   simp only [hz,if_true] at ih ⊢;simp only [Lv,zz,c1,c2,c3,w,gD,bF,zg,az,BE,q];exact .jump ih
  ·have BE: ¬(lc.l.length:Int)=0:=J
   simp only [af hz] at ih ⊢;simp only [Lv,zz,c1,c2,c3,w,gD,bF,zg,az,BE,q,aQ];exact .jump ih
theorem Yj {b:D} (hc:L 4050 [enc d0,enc d1]=some [0]) (hb:L 3850 [enc d0,enc d1]=some [enc b]) (hlen:d1.l.length<=16):L 22150 [enc d0,enc d1]=some [enc b,enc (tj d1),0]:=by
 have:bL 22150 [enc d0,enc d1] (·= [enc b,enc (tj d1),0]):=by
  refine bL.of ?_;rw [Uq];simp only [Sl,zz,hc,hb];refine .jump (bL.of ?_);rw [acU];unfold tj;by_cases hz:d1.l.length=0
  ·have c1: ¬(0:Int)<(d1.l.length:Int):=J
   simp only [Lw,zz,c1];exact .out (by rw [ag hz])
  ·have hi:0<d1.l.length:=J
   have c1:(0:Int)<(d1.l.length:Int):=J
   have gD:d1.at 0=d1.l[0]:=bI hi
   have V:d1.l=d1.l[0]::d1.l.drop 1:=by exact Oi
   have ih:=Pg h0 U hlen (enc b) (d1.l.length-1) 1 [jX d1.l[0]] J rfl;rw [bn,<- aF,<- V] at ih;rw [af hz];clear V;obtain⟨sJ,lc,cd,he,_,I2,_⟩:=qT U hi;have jw:=I2.room;have e2:nU 2=16:=rfl;rw [e2] at jw;rw [he] at gD ih;have q:(lc.l.length:Int)<17592186044416:=J
   have ih:bL 22152 [1,enc d0,enc d1,enc b,enc (dL [jX (dL [sJ,lc,cd])])] _:=ih;have et:jX (dL [sJ,lc,cd])=dL [.i 0,if lc.l.length=0 then .i 2 else dL (List.replicate lc.l.length (.i 0)),.i 0,.i 0,.i 0,.i 0]:=rfl;rw [et] at ih;by_cases hz:lc.l.length=0
   ·have BE:(lc.l.length:Int)=0:=J
    simp only [hz,if_true] at ih;simp only [Lw,zz,c1,gD,sK,ax,zg,az,BE,q];exact .jump ih
   ·have BE: ¬(lc.l.length:Int)=0:=J
    simp only [af hz] at ih;simp only [Lw,zz,c1,gD,sK,ax,zg,az,BE,q,aQ];exact .jump ih
 exact tf
theorem Rk: ∃(s k:D) (c:Int),L 1450 [enc d0,enc d1]=some [enc s,enc k,c]/\L 22150 [enc d0,enc d1]=some [enc s,enc k,c]/\Sw s k 0:=by
 obtain⟨c,hc,PH,hp,hr⟩:=AK h0 U;by_cases hz:c=0
 ·subst hz;have hC:=PH.1 rfl;have ok:An d0 d1:=⟨hC.1,hC.2.1,hC.2.2.1⟩;obtain⟨b,hA,hB,G⟩:=UK h0 U;have h3:=ad7 h0 U hp ok;rw [hA] at h3;simp only [ah,List.cons.injEq,and_true] at h3;have e:=fY h3;subst e;refine⟨_,_,0,YA U hp ok,Yj h0 U hr hB hC.2.1,G,?_⟩;unfold tj;split
  ·exact .nil 8
  ·rename_i hz;refine F7 (fun x hx=>?_) (fun h=>hz (by simpa using congrArg List.length h)) (by rw [bc]; have:=hC.2.1; omega);obtain⟨y,hy,rfl⟩:=aW.1 hx;obtain⟨i,hi,rfl⟩:=awR hy;obtain⟨sJ,lc,cd,he,_,I2,_⟩:=qT U hi;have jw:=I2.room;have e2:nU 2=16:=rfl;rw [e2] at jw;have z:gb .i64 0:=⟨J,J⟩;refine⟨0,(if lc.l.length=0 then .i 2 else dL (List.replicate lc.l.length (.i 0))),0,0,0,0,by rw [he]; rfl,z,?_,⟨J,J⟩,z,z,z⟩;split
   ·exact .Ap 0
   ·rename_i ZV;refine yq (fun y hy=>?_) (fun h=>ZV (by simpa using congrArg List.length h)) (by rw [aww]; omega)
    grind
 ·refine⟨.i 1,.i 1,c,Yz hp hz,?_,⟨.nil 7,fun x hx=>by simp [D.l] at hx⟩,.nil 8⟩
  have:bL 22150 [enc d0,enc d1] (·= [enc (.i 1),enc (.i 1),c]):=by refine bL.of ?_;rw [Uq];simp only [Sl,zz,hr,hz];exact .out rfl
  exact tf
theorem aa8 {n:Nat} (S:Sw s k n) (hn:n<17592186044000):Inv 100 d0 d1 s k:=by
 by_cases M:MR d0 d1 s k
 ·exact⟨1048576,⟨OS h0 U S.g hn M.1,S.wk⟩,J,fun _=>by omega⟩
 ·exact⟨n,S,hn,fun M'=>absurd M' M⟩
variable {q es:D} (hq:Wd (.sl 0) q)
theorem My (y0 y1 y2 y3 y4:Int): ∀(k i:Nat) (s kk:D),i+k=8->Inv k d0 d1 s kk->L 22053 [(i:Int),y0,y1,y2,y3,y4,enc d0,enc d1,enc q,enc es,enc s,enc kk]=L 22051 [y0,y1,y2,y3,IntKind.i64.wrap (y4+1),enc d0,enc d1,enc q,enc es]
 |0,i,s,kk,hi,Z?=>by
  have c2: ¬(i:Int)<8:=J
  rw [bK,M9];simp only [Ly,zz,c2];split<;>rfl
 |k+1,i,s,kk,hi,Z?=>by
  by_cases hl:(i:Int)<(es.l.length:Int)
  ·have c2:(i:Int)<8:=J
   have c3: ¬(i:Int)<0:=J
   have w:=bB (n:=i) J;obtain⟨a,ak,b,bk,g,q1,q2,q3,hg,V2⟩:=TP h0 U Z? ((es.at (i:Int)).V 0).n ((es.at (i:Int)).V 1).n ((es.at (i:Int)).V 2).n ((es.at (i:Int)).V 3).n ((es.at (i:Int)).V 4).n;have ih:=My y0 y1 y2 y3 y4 k (i+1) a ak J V2;rw [bK,M9];rcases hg with rfl|rfl
   ·exact ain
   ·exact ain
  ·rw [bK,M9];simp only [Ly,zz,hl];rfl
theorem CZ (y0 y1 y2 y3 y4:Int): ∀(k i:Nat) (s kk:D),i+k=60->Inv (k+8) d0 d1 s kk->L 22052 [(i:Int),y0,y1,y2,y3,y4,enc d0,enc d1,enc q,enc es,enc s,enc kk]=L 22051 [y0,y1,y2,y3,IntKind.i64.wrap (y4+1),enc d0,enc d1,enc q,enc es]
 |0,i,s,kk,hi,Z?=>by
  have c2: ¬(i:Int)<60:=J
  have hE:=My h0 U (q:=q) (es:=es) y0 y1 y2 y3 y4 8 0 s kk J (Z?.mono J);rw [avY] at hE;rw [bK,Nb];simp only [Lz,zz,c2];split<;>exact hE
 |k+1,i,s,kk,hi,Z?=>by
  have hE:=My h0 U (q:=q) (es:=es) y0 y1 y2 y3 y4 8 0 s kk J (Z?.mono J);rw [avY] at hE;by_cases hl:(i:Int)<(q.l.length:Int)
  ·have c2:(i:Int)<60:=J
   have c3: ¬(i:Int)<0:=J
   have w:=bB (n:=i) J;obtain⟨a,ak,b,s1,k1,p0,p1,p2,p3,p4,e1,e2,e3,e4,e5,oc,f,r1,r2,r3,r4,r5,r6,r7,r8,r9,hf,h4,V2⟩:=X4 (j:=k+8) h0 U (Z?.mono J) (q.at (i:Int)).n;have ih:=CZ y0 y1 y2 y3 y4 k (i+1) a ak J V2;rw [bK,Nb];rcases hf with rfl|rfl<;>rcases h4 with rfl|rfl
   all_goals
    simp only [Lz,zz,ff,xf,hl,c2,c3,w,r1,r2,r3,r4,r5,r6,r7,r8,r9,iG,not_true_eq_false,and_self,and_false,false_and,not_false_eq_true];exact ih
  ·rw [bK,Nb];simp only [Lz,zz,hl];exact hE
theorem Ee (s k:D) (hk:k.l.length<=140737488351232) (hB:bL 3800 [enc s] wB): ∀(j i:Nat) (x:Int),i+j=k.l.length->bL 22101 [x,(k.l.length:Int),(i:Int),enc s,enc k] wB
 |0,i,x,hi=>by
  have c1: ¬(i:Int)<(k.l.length:Int):=J
  obtain⟨ys,hB,g,rfl,hg⟩:=hB;refine bL.of ?_;rw [Ur];rcases hg with rfl|rfl
  ·simp only [Lx,zz,c1,hB];exact .ite (fun _=> .out tw) fun _=> .out Ay
  ·simp only [Lx,zz,c1,hB,iG];exact .ite (fun _=> .out tw) fun _=> .out tw
 |j+1,i,x,hi=>by
  have c1:(i:Int)<(k.l.length:Int):=J
  have c2: ¬(i:Int)<0:=J
  have w:=bB (n:=i) J;refine bL.of ?_;rw [Ur];simp only [Lx,zz,c1,c2,w];exact .jump (Ee s k hk hB j (i+1) _ J)
theorem aaO (hs:Wd (.sl 7) s) (hk:Wd (.sl 8) k) (hq:Wd (.sl 0) q):L 22050 [enc d0,enc d1,enc s,enc k,enc q,enc es]=some [1]:=by
 obtain⟨ys,hG,g,rfl,hg⟩:=YT (d0:=d0) U
 have hB:bL 3800 [enc s] wB:=by refine bL.of ?_;rw [akR];simp only [ajg,zz];exact .jump (Is h0 U s hs.len s.l.length 0 _ J)
 have hM:bL 22100 [enc s,enc k] wB:=by refine bL.of ?_;rw [acV];simp only [L?,zz];exact .jump (Ee h0 U s k hk.len hB k.l.length 0 _ J)
 obtain⟨ys,hM,g',rfl,hg'⟩:=hM
 have S:Sw s k 17592186043904:=by
  refine⟨⟨hs,fun x hx=>?_⟩,hk⟩;obtain⟨o,c,d,gg,r,v,rfl,_,_,_,_,h5,h6⟩:=hs.jE x hx;have a5:=h5.room;have a6:=h6.room;have e:nU 0=8:=rfl;rw [e] at a5 a6;simp only [eh]
  grind
 obtain⟨fs,fk,c,Hy,Dq,F⟩:=Rk h0 U;have hS:L 2050 [enc fs,enc fk,enc fs,enc fk]=some [1]:=uw F J (.tn _) rfl fun _=> .tn _;obtain⟨ys,hR1,b,rfl,hb⟩:=Kc (k:=k) h0 U (S.g.kY J).rows U.len;obtain⟨ys,hR2,b',rfl,zl⟩:=JL h0 U S J
 have PI:b'=b:=by
  grind
 subst PI;have w1:IntKind.i64.wrap (0+1)=1:=fB J J;have w2:IntKind.i64.wrap (1+1)=2:=fB J J;have s0:=CZ h0 U (q:=q) (es:=es) (enc s) (enc k) (enc fs) (enc fk) 0 60 0 s k J ((aa8 h0 U S J).mono J);have s1:=CZ h0 U (q:=q) (es:=es) (enc s) (enc k) (enc fs) (enc fk) 1 60 0 fs fk J ((aa8 h0 U F J).mono J);rw [w1] at s0;rw [w2] at s1;rw [avY] at s0 s1
 have x2:L 22051 [enc s,enc k,enc fs,enc fk,2,enc d0,enc d1,enc q,enc es]=some [1]:=by rw [bK,Nd];simp only [LA,zz,Int.reduceLT,Int.reduceEq,aL];rfl
 have x1:L 22051 [enc s,enc k,enc fs,enc fk,1,enc d0,enc d1,enc q,enc es]=some [1]:=by rw [bK,Nd];simp only [LA,zz,Int.reduceLT,Int.reduceEq,aL];exact s1.trans x2
 have x0:L 22051 [enc s,enc k,enc fs,enc fk,0,enc d0,enc d1,enc q,enc es]=some [1]:=by rw [bK,Nd];simp only [LA,zz,Int.reduceLT,Int.reduceEq,aL];exact s0.trans x1
 have key:bL 22050 [enc d0,enc d1,enc s,enc k,enc q,enc es] (·= [1]):=by
  have au2:b'=0\/b'=1:=by rcases hb with h|h<;>omega
  refine bL.of ?_;rw [acW];rcases au2 with rfl|rfl
  all_goals
   simp only [M_,zz,ff,xf,hG,hM,Hy,Dq,hS,hR1,hR2,iG,not_true_eq_false,not_false_eq_true,and_self,and_true,true_and,and_false,false_and];exact .ite (fun _=> .ite (fun _=> .jump ⟨_,x0,rfl⟩) fun _=> .out rfl) fun _=> .out rfl
 exact Oh
end
end
end Go.As.Try
end
section
namespace Go.Proofs.YteclpbehflfjiaaGreatDoor.fnMachineTells
open Go hiding Stat
open Go.As Go.As.Try Go.Proofs Go.RowKit Go.ChangeShapes Go.WideShapes Go.ChangeAt
set_option maxRecDepth 100000
theorem af5:wg Tryz.prog aft 8 25=some [.sl 3,.sl 4]:=aa
theorem af4:wg Tryz.prog aft 8 33=some [.sl 7,.sl 8,.sl 0,.sl 9]:=aa
theorem Rg {H:Type} {enc:TypeId×Value->H} {Z!:World} {t:TypeId} {v:Value} {d:DataW H} {p:List MemPlace} {I7:List CK} (hf:wg Tryz.prog aft 8 t=some I7) (h:DataW.Trod enc Tryz.prog Z! 0 (fun _=>true) true t v d p) (hw:(d.weights Tryz.prog t).all (·<=reachBytes)=true) :
 ∃ds,Rs (SQ Z!) Z!.heap I7 ds v.cells.toList:=by
 obtain⟨fuel,hx⟩:=h;exact LQ afs fuel t 8 I7 v.cells.toList (d,p) hf hx hw
theorem arn:22050∈S.EW 3:=by
 have h:S.EW 3= [22050]:=aa
 rw [h];simp
theorem adV (H:Type) (enc:TypeId×Value->H) (Z!:World) (base:Nat) (args:Array Value) (ds gs:List (DataW H)) (before:List MemPlace)
 (Mg: ∀(j:Nat) t v,Tryz.f3.params[j]?=some t->args[j]?=some v->Value.okWide Tryz.prog Z! .any base t v)
 (hW:DataW.Whole enc Tryz.prog Tryz.f3.params.toList Rows.machineTellsSpec.vars false Z! args.toList ds gs before)
 (jv:(DataW.weightsEach Tryz.prog (Tryz.f3.params.toList++ []) (ds++gs)).all (·<=reachBytes)=true) (AT:Z!.ShapedOpen Tryz.prog) :
 Calls Tryz.prog 3 args Z! fun e W'=> ∃v,e= .returned v/\Rows.machineTellsSpec.post enc Tryz.prog Tryz.f3 false true false false Z! args v W':=by
 have hW':=hW;obtain⟨p,q,hA0,hV,rfl,hfz,hnd⟩:=hW;have hA:DataW.TrodAll enc Tryz.prog Z! 0 (fun _=>true) true Tryz.f3.params.toList args.toList ds p:=hA0;rw [Tryz.params3] at hA Mg jv;obtain⟨v0,vs0,d0,ds0,p0,q0,ajZ,rfl,rfl,h0,r0⟩:=trodAll_cons hA;obtain⟨v1,vs1,d1,ds1,p1,q1,rfl,rfl,rfl,U,r1⟩:=trodAll_cons r0;obtain⟨rfl,rfl,rfl⟩:=trodAll_nil r1;obtain rfl:args= #[v0,v1]:=by cases args; simp_all
 obtain⟨rfl,rfl⟩:=trodVars_none hV;clear hA0;simp only [av4] at hW';have gB: ∀x∈p0++p1,x.block<Z!.heap.size:=fun x hx=>by simpa using hW'.lt x (by simpa using hx)
 have auK: ∀x∈p0,x.block<Z!.heap.size:=fun x hx=>gB x (List.mem_append_left _ hx);have auJ: ∀x∈p1,x.block<Z!.heap.size:=fun x hx=>gB x (axN _ hx)
 have arO:(d0.weights Tryz.prog 25).all (·<=reachBytes)=true/\(d1.weights Tryz.prog 33).all (·<=reachBytes)=true:=by have:(DataW.weightsEach Tryz.prog [25,33] [d0,d1]).all (·<=reachBytes)=true:=jv;simp only [DataW.weightsEach,axd,aq] at this;exact⟨this.1,this.2.1⟩
 obtain⟨es0,R0⟩:=Rg af5 h0 arO.1;obtain⟨es1,R1⟩:=Rg af4 U arO.2;obtain⟨cs0,rfl,_⟩:=okWide_struct Tryz.underlying25 (Mg 0 25 v0 rfl rfl);have e0:(Value.agg cs0).cells.toList=cs0.toList:=rfl;obtain⟨cs1,rfl,_⟩:=okWide_struct Tryz.underlying33 (Mg 1 33 v1 rfl rfl);have e1:(Value.agg cs1).cells.toList=cs1.toList:=rfl;rw [e0] at R0;rw [e1] at R1
 match es0,au0:cs0.toList,R0 with
 |[x0,x1],[u0,u1],.cons r0_ w0 (.cons r1_ w1 .nil)=>
  obtain rfl:cs0= #[u0,u1]:=by rw [<- Array.toArray_toList (xs:=cs0),au0]
  match es1,auZ:cs1.toList,R1 with
  |[x2,x3,x4,x5],[u2,u3,u4,u5],.cons r2_ w2 (.cons r3_ w3 (.cons r4_ w4 (.cons r5_ w5 .nil)))=>
   obtain rfl:cs1= #[u2,u3,u4,u5]:=by rw [<- Array.toArray_toList (xs:=cs1),auZ]
   have hL:=aaO (es:=x5) w0 w1 w2 w3 w4;refine (ad0 (g:=3) (j:=22050) (e:=(di wQ 1).ent) arn aa rfl rfl hL AT (vals:=[.agg [u0,u1].toArray,.agg [u2,u3,u4,u5].toArray]) (fl:=[u0,u1,u2,u3,u4,u5]) (.agg _ [u0,u1] rfl (.agg _ [u2,u3,u4,u5] rfl .nil)) ⟨_,_,_,_,rfl,rfl,uN r0_,_,_,_,_,rfl,rfl,uN r1_,_,_,_,_,rfl,rfl,uN r2_,_,_,_,_,rfl,rfl,uN r3_,_,_,_,_,rfl,rfl,uN r4_,_,_,_,_,rfl,rfl,uN r5_,rfl,rfl⟩).mono fun e W' ⟨he,hb⟩=>?_;subst he;exact⟨_,rfl,⟨_,_,_,[],_,[],hW',trodAll_mk1 (shut_bool Tryz.underlying4 _),trodAll_mk2 (Below.trod laidOut aa (of_decide_eq_true aa) h0 hb auK) (Below.trod laidOut aa (of_decide_eq_true aa) U hb auJ),rfl,hb.frame _,fun h=>by cases h⟩⟩
abbrev Ve:Array Value:=#[.agg #[.slice none 0 0,.slice none 0 0],.agg #[.slice none 0 0,.slice none 0 0,.slice none 0 0,.slice none 0 0]]
theorem aaS (os:Os):laidMet Tryz.prog Rows.machineTellsRow.laid ((Dg os).forCall (fun _ _=>0) ⟨#[],Ve,[]⟩).memory:=
 laidMet_of_run' 8 aa aa
theorem reads (os:Os) {H:Type} (enc:TypeId×Value->H): ∃places,DataW.whole enc Tryz.prog ((Dg os).forCall (fun _ _=>0) ⟨#[],Ve,[]⟩).memory Tryz.f3.params.toList [] false Ve.toList 8=some ([.agg [.nil,.nil],.agg [.agg [.nil,.nil],.nil,.nil]],[],places):=
 ⟨[],aa⟩
set_option maxHeartbeats 400000 in
theorem lifted (os:Os) (started:os.Started) (H:Type) (enc:TypeId×Value->H) (F:Stop.Interp) :
 ReturnsInHanded {} Tryz.checked os 3 .any ((OpenSpec.ofChange Rows.machineTellsSpec).preRow enc Tryz.prog Tryz.f3 Rows.machineTellsRow.domain false Rows.machineTellsRow.laid) (((OpenSpec.ofChange Rows.machineTellsSpec).at F).post enc Tryz.prog Tryz.f3 false true false false):=by
 obtain⟨places,hx⟩:=reads os enc
 refine returnsInHanded_of_row (C:=Tryz.checked) (s:=OpenSpec.ofChange Rows.machineTellsSpec) Try.own started aa Tryz.func3
  (witness_row_at (enc:=enc) (C:=Tryz.checked) false (Dg os) Ve rfl aa aa aa
   (OpenSpec.preRow_of_cond 8 hx aa (fun k hk=>by cases hk) aa (aaS os))) ?_
 intro Z! base args ds gs before Mg hW _ _ jv _ AT _;exact adV H enc Z! base args ds gs before Mg hW jv AT
theorem iM {a b:Bool} (U:a=true) (Z:b=true):(a&&b)=true:=by rw [U,Z]; rfl
theorem closed:joinedFacts Tryz.pinned.checked.prog 3 Tryz.f3 (OpenSpec.ofChange Rows.machineTellsSpec).bare Rows.machineTellsRow=true:=(iM (iM (iM (iM (iM (iM (iM (iM (iM (iM (iM (iM (iM (iM (iM (iM (iM (iM (iM (iM (iM (iM (iM (iM (iM (iM (iM (iM (iM (iM (iM aa aa) aa) aa) aa) aa) aa) aa) aa) aa) aa) aa) aa) aa) aa) aa) aa) aa) aa) aa) aa) aa) aa) aa) aa) aa) aa) aa) aa) aa) aa) aa)
theorem said:Rows.MachineTellsSaid:=
 OpenClaim.holds_of_cond 3 Tryz.f3 rfl rfl rfl rfl rfl rfl rfl ⟨rfl,rfl,rfl,rfl,rfl⟩ rfl rfl rfl rfl rfl aa Tryz.func3 closed
  (of_decide_eq_true aa) (by unfold Func.isWrapper; first |(rw [ag (by decide +kernel)]; kernel_rfl)|(rw [af (by decide +kernel)]; exact⟨rfl,rfl⟩))
  (fun os started H enc _ F=>by rw [OpenClaim.pre_eq_preRow]; exact lifted os started H enc F)
theorem plain (f:FuncId) (fn:Func) (hf:Tryz.pinned.checked.prog.funcNamed "amanuensis/amanuensislaw13.MachineTells" = some f) (wJ:Tryz.pinned.checked.prog.funcs[f]?=some fn) :
 false=Tryz.pinned.checked.prog.looks []/\∀(j:Nat) t,fn.params[j]?=some t->Tryz.pinned.checked.prog.wantsStandIn t=false:=by
 obtain rfl:f=3:=Option.some.inj ((show Tryz.prog.funcNamed "amanuensis/amanuensislaw13.MachineTells" = some 3 by kernel_rfl).symm.trans hf) |>.symm;obtain rfl:fn=Tryz.f3:=(Option.some.inj (Tryz.func3.symm.trans wJ)).symm;refine⟨aa,fun j t ht=>?_⟩;rw [Tryz.params3] at ht;have hm:=axs ht;simp only [List.mem_toArray,aH,awa,or_false] at hm;rcases hm with rfl|rfl
 all_goals exact (by kernel_rfl:Tryz.prog.wantsStandIn _=false)
theorem card:Rows.MachineTellsCardSaid:=
 Claim7.holds_tied_plain_at .later [] _ _ _ _ said (fun _ h=>by cases h) aa (fun _ h=>by cases h) machineTells_row_tie rfl ⟨rfl,rfl⟩ aa rfl plain aa
end Go.Proofs.YteclpbehflfjiaaGreatDoor.fnMachineTells
end

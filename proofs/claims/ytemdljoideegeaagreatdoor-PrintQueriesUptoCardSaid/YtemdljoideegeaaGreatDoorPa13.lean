/-
  Chapter 9: how big an expression, a query, a statement is, as the program tells it. Conditions: none.
-/
import Derived.Test.YtemdljoideegeaaGreatDoorPa12
set_option linter.defProp false
set_option linter.unusedSectionVars false
set_option maxRecDepth 100000
set_option maxHeartbeats 64000000
namespace Go.Proofs.YtemdljoideegeaaGreatDoor
open Go Go.Pe Go.Tab
def a0W:=ai (ai @zq (ai @aVj @aSl)) (ai (ai @cR @zT0) (ai @azm (ba aOI)))
def ax2 (l:List Xp) (p:Xp→Bool) (g:Nat) (cp:List C) (h:l.length≤4611686018427387903∧FnB (fun x=>.agg (xpC x)) g cp p l):G1 185 [.of (slC xpC l),.of (.fn g cp)] (aG (l.any p)):=by
 refine ah rfl aOI azm rfl ?_
 rw[← acb]
 simp -implicitDefEqProofs(maxSteps:=9^9)only[Tryz.f185,↓zA,sevalprocAttr,a0W,h.2.1,aMz l p g cp h]
def aMJ (l:List Xp) (p:Xp→Bool) (g:Nat) (cp:List C) (h:l.length≤4611686018427387903∧FnB (fun x=>.agg (xpC x)) g cp p l) (K:An→Prop):bp Tryz.prog pr 185 [.of (slC xpC l),.of (.fn g cp)] [] K↔K ⟨false,[aG (l.any p)],[]⟩:=aN.k (ax2 l p g cp h) K
def a0Y:=ai (ai @zq (ai @aVk @aSm)) (ai (ai @aeo @zT0) (ai @azo (ba aOK)))
def asO (l:List Rd) (p:Rd→Bool) (g:Nat) (cp:List C) (h:l.length≤4611686018427387903∧FnB (fun x=>.agg (rdC x)) g cp p l):G1 183 [.of (slC rdC l),.of (.fn g cp)] (aG (l.any p)):=by
 refine ah rfl aOK azo rfl ?_
 rw[← acb]
 simp -implicitDefEqProofs(maxSteps:=9^9)only[Tryz.f183,↓zA,sevalprocAttr,a0Y,h.2.1,aEW l p g cp h]
def aE9 (l:List Rd) (p:Rd→Bool) (g:Nat) (cp:List C) (h:l.length≤4611686018427387903∧FnB (fun x=>.agg (rdC x)) g cp p l) (K:An→Prop):bp Tryz.prog pr 183 [.of (slC rdC l),.of (.fn g cp)] [] K↔K ⟨false,[aG (l.any p)],[]⟩:=aN.k (asO l p g cp h) K
def a02:=ai (ai @zq (ai @aVm @aSo)) (ai (ai @aep @zT0) (ai @azs (ba aOO)))
def asQ (l:List Cd) (p:Cd→Bool) (g:Nat) (cp:List C) (h:l.length≤4611686018427387903∧FnB (fun x=>.agg (cdC x)) g cp p l):G1 179 [.of (slC cdC l),.of (.fn g cp)] (aG (l.any p)):=by
 refine ah rfl aOO azs rfl ?_
 rw[← acb]
 simp -implicitDefEqProofs(maxSteps:=9^9)only[Tryz.f179,↓zA,sevalprocAttr,a02,h.2.1,aEY l p g cp h]
def aFb (l:List Cd) (p:Cd→Bool) (g:Nat) (cp:List C) (h:l.length≤4611686018427387903∧FnB (fun x=>.agg (cdC x)) g cp p l) (K:An→Prop):bp Tryz.prog pr 179 [.of (slC cdC l),.of (.fn g cp)] [] K↔K ⟨false,[aG (l.any p)],[]⟩:=aN.k (asQ l p g cp h) K
def a00:=ai (ai @zq (ai @aVl @aSn)) (ai (ai @adN @zT0) (ai @azq (ba aOM)))
def asP (l:List Kd) (p:Kd→Bool) (g:Nat) (cp:List C) (h:l.length≤4611686018427387903∧FnB (fun x=>.agg (kdC x)) g cp p l):G1 181 [.of (slC kdC l),.of (.fn g cp)] (aG (l.any p)):=by
 refine ah rfl aOM azq rfl ?_
 rw[← acb]
 simp -implicitDefEqProofs(maxSteps:=9^9)only[Tryz.f181,↓zA,sevalprocAttr,a00,h.2.1,aEX l p g cp h]
def aFa (l:List Kd) (p:Kd→Bool) (g:Nat) (cp:List C) (h:l.length≤4611686018427387903∧FnB (fun x=>.agg (kdC x)) g cp p l) (K:An→Prop):bp Tryz.prog pr 181 [.of (slC kdC l),.of (.fn g cp)] [] K↔K ⟨false,[aG (l.any p)],[]⟩:=aN.k (asP l p g cp h) K
def a0U:=ai (ai @zq (ai @aVh @aSj)) (ai (ai @eY @zT0) (ai @azj (ba aOF)))
def awx (l:List Qy) (p:Qy→Bool) (g:Nat) (cp:List C) (h:l.length≤4611686018427387903∧FnB (fun x=>.agg (qyC x)) g cp p l):G1 188 [.of (slC qyC l),.of (.fn g cp)] (aG (l.any p)):=by
 refine ah rfl aOF azj rfl ?_
 rw[← acb]
 simp -implicitDefEqProofs(maxSteps:=9^9)only[Tryz.f188,↓zA,sevalprocAttr,a0U,h.2.1,aJB l p g cp h]
def aJI (l:List Qy) (p:Qy→Bool) (g:Nat) (cp:List C) (h:l.length≤4611686018427387903∧FnB (fun x=>.agg (qyC x)) g cp p l) (K:An→Prop):bp Tryz.prog pr 188 [.of (slC qyC l),.of (.fn g cp)] [] K↔K ⟨false,[aG (l.any p)],[]⟩:=aN.k (awx l p g cp h) K
def a0S:=ai (ai @zq (ai @aVg @aSi)) (ai @zT0 (ai @azh (ba aOD)))
def ark (l:List (List Xp)) (p:(List Xp)→Bool) (g:Nat) (cp:List C) (h:l.length≤4611686018427387903∧FnB (slC xpC) g cp p l):G1 190 [.of (slC (lsC xpC) l),.of (.fn g cp)] (aG (l.any p)):=by
 refine ah rfl aOD azh rfl ?_
 rw[← acb]
 simp -implicitDefEqProofs(maxSteps:=9^9)only[Tryz.f190,↓zA,sevalprocAttr,a0S,h.2.1,axV l p g cp h]
def ax3 (l:List (List Xp)) (p:(List Xp)→Bool) (g:Nat) (cp:List C) (h:l.length≤4611686018427387903∧FnB (slC xpC) g cp p l) (K:An→Prop):bp Tryz.prog pr 190 [.of (slC (lsC xpC) l),.of (.fn g cp)] [] K↔K ⟨false,[aG (l.any p)],[]⟩:=aN.k (ark l p g cp h) K
def a0Q:=ai (ai @zq (ai @aVf @aSh)) (ai (ai @abO @zT0) (ai @azf (ba aOB)))
def asR (l:List As) (p:As→Bool) (g:Nat) (cp:List C) (h:l.length≤4611686018427387903∧FnB (fun x=>.agg (asC x)) g cp p l):G1 192 [.of (slC asC l),.of (.fn g cp)] (aG (l.any p)):=by
 refine ah rfl aOB azf rfl ?_
 rw[← acb]
 simp -implicitDefEqProofs(maxSteps:=9^9)only[Tryz.f192,↓zA,sevalprocAttr,a0Q,h.2.1,aEZ l p g cp h]
def aFc (l:List As) (p:As→Bool) (g:Nat) (cp:List C) (h:l.length≤4611686018427387903∧FnB (fun x=>.agg (asC x)) g cp p l) (K:An→Prop):bp Tryz.prog pr 192 [.of (slC asC l),.of (.fn g cp)] [] K↔K ⟨false,[aG (l.any p)],[]⟩:=aN.k (asR l p g cp h) K
def a0G:=ai (ai @zq (ai @aU2 @aR4)) (ai @zT0 (ai @ayF (ba aN1)))
def asN (l:List (List UInt8)) (p:(List UInt8)→Bool) (g:Nat) (cp:List C) (h:l.length≤4611686018427387903∧FnB (fun x=>aH (aD x)) g cp p l):G1 236 [.of (slC bA l),.of (.fn g cp)] (aG (l.any p)):=by
 refine ah rfl aN1 ayF rfl ?_
 rw[← acb]
 simp -implicitDefEqProofs(maxSteps:=9^9)only[Tryz.f236,↓zA,sevalprocAttr,a0G,h.2.1,aEV l p g cp h]
def aE8 (l:List (List UInt8)) (p:(List UInt8)→Bool) (g:Nat) (cp:List C) (h:l.length≤4611686018427387903∧FnB (fun x=>aH (aD x)) g cp p l) (K:An→Prop):bp Tryz.prog pr 236 [.of (slC bA l),.of (.fn g cp)] [] K↔K ⟨false,[aG (l.any p)],[]⟩:=aN.k (asN l p g cp h) K
def a0M:=ai (ai @zq (ai @aU9 @aSb)) (ai (ai @acL @zT0) (ai @ayX (ba aOj)))
def awy (l:List Od) (p:Od→Bool) (g:Nat) (cp:List C) (h:l.length≤4611686018427387903∧FnB (fun x=>.agg (odC x)) g cp p l):G1 212 [.of (slC odC l),.of (.fn g cp)] (aG (l.any p)):=by
 refine ah rfl aOj ayX rfl ?_
 rw[← acb]
 simp -implicitDefEqProofs(maxSteps:=9^9)only[Tryz.f212,↓zA,sevalprocAttr,a0M,h.2.1,aJC l p g cp h]
def aJJ (l:List Od) (p:Od→Bool) (g:Nat) (cp:List C) (h:l.length≤4611686018427387903∧FnB (fun x=>.agg (odC x)) g cp p l) (K:An→Prop):bp Tryz.prog pr 212 [.of (slC odC l),.of (.fn g cp)] [] K↔K ⟨false,[aG (l.any p)],[]⟩:=aN.k (awy l p g cp h) K
def a0K:=ai (ai @zq (ai @aU8 @aSa)) (ai (ai @abb @zT0) (ai @ayV (ba aOh)))
def ax0 (l:List Im) (p:Im→Bool) (g:Nat) (cp:List C) (h:l.length≤4611686018427387903∧FnB (fun x=>.agg (imC x)) g cp p l):G1 214 [.of (slC imC l),.of (.fn g cp)] (aG (l.any p)):=by
 refine ah rfl aOh ayV rfl ?_
 rw[← acb]
 simp -implicitDefEqProofs(maxSteps:=9^9)only[Tryz.f214,↓zA,sevalprocAttr,a0K,h.2.1,aMx l p g cp h]
def aMH (l:List Im) (p:Im→Bool) (g:Nat) (cp:List C) (h:l.length≤4611686018427387903∧FnB (fun x=>.agg (imC x)) g cp p l) (K:An→Prop):bp Tryz.prog pr 214 [.of (slC imC l),.of (.fn g cp)] [] K↔K ⟨false,[aG (l.any p)],[]⟩:=aN.k (ax0 l p g cp h) K
def a0I:=ai (ai @zq (ai @aU7 @aR9)) (ai (ai @jq @zT0) (ai @ayT (ba aOf)))
def ax1 (l:List Fm) (p:Fm→Bool) (g:Nat) (cp:List C) (h:l.length≤4611686018427387903∧FnB (fun x=>.agg (fmC x)) g cp p l):G1 216 [.of (slC fmC l),.of (.fn g cp)] (aG (l.any p)):=by
 refine ah rfl aOf ayT rfl ?_
 rw[← acb]
 simp -implicitDefEqProofs(maxSteps:=9^9)only[Tryz.f216,↓zA,sevalprocAttr,a0I,h.2.1,aMy l p g cp h]
def aMI (l:List Fm) (p:Fm→Bool) (g:Nat) (cp:List C) (h:l.length≤4611686018427387903∧FnB (fun x=>.agg (fmC x)) g cp p l) (K:An→Prop):bp Tryz.prog pr 216 [.of (slC fmC l),.of (.fn g cp)] [] K↔K ⟨false,[aG (l.any p)],[]⟩:=aN.k (ax1 l p g cp h) K
def amV:=ai (ai @zq (ai @bO @Q9)) (ai @zT0 (ai @aAh (ba aPD)))
def asA (l:List (List UInt8)) (v:(List UInt8)) (hl:l.length≤4611686018427387903):G1 123 [.of (slC bA l),.of (aH (aD v))] (aU (ja (fun x=>decide (v=x)) l)):=by
 refine ah rfl aPD aAh rfl ?_
 simp -implicitDefEqProofs(maxSteps:=9^9)only[Tryz.f123,↓zA,sevalprocAttr,amV]
 refine bX l.length (fun k s=>s.fr 0=.of (slC bA l)∧s.fr 1=.of (aH (aD v))∧s.fr 7=aU l.length∧s.fr 8=aU k∧s.objs=[]∧ja (fun x=>decide (v=x)) l=im (fun x=>decide (v=x)) k (l.drop k)) ?_ ?_
 .simp -implicitDefEqProofs(maxSteps:=9^9)only[Tryz.f123,↓zA,sevalprocAttr,amV]
  exact rfl
 .rintro k s hk ⟨f0,f1,f7,f8,hob,E⟩
  rcases ap k l.length with c1|c1
  .have hw:=cF k (by omega)
   rw[cN c1,im] at E
   simp -implicitDefEqProofs(maxSteps:=9^9)only[Tryz.f123,↓zA,sevalprocAttr,amV,f0,f1,f7,f8,hob,aK,c1,bq c1,hw,bW]
   by_cases c2:v=l[k]
   .simp only[c2,bG,aA] at E
    simp -implicitDefEqProofs(maxSteps:=9^9)only[Tryz.f123,↓zA,sevalprocAttr,amV,c2,E]
   .simp only[c2,bE,aW,aQ] at E
    simp -implicitDefEqProofs(maxSteps:=9^9)only[Tryz.f123,↓zA,sevalprocAttr,amV,c2,E]
  .have e:k=l.length:=by omega
   subst e
   rw[aw,im] at E
   simp -implicitDefEqProofs(maxSteps:=9^9)only[Tryz.f123,↓zA,sevalprocAttr,amV,f0,f1,f7,f8,hob,aK,au,E]
def aEU (l:List (List UInt8)) (v:(List UInt8)) (hl:l.length≤4611686018427387903) (K:An→Prop):bp Tryz.prog pr 123 [.of (slC bA l),.of (aH (aD v))] [] K↔K ⟨false,[aU (ja (fun x=>decide (v=x)) l)],[]⟩:=aN.k (asA l v hl) K
def a5d:=ai (ai @zq (ai @aWb @aTd)) (ai @zT0 (ai @aH2 (ba aYo)))
def asM (l:List (List UInt8)) (v:(List UInt8)) (hl:l.length≤4611686018427387903):G1 45 [.of (slC bA l),.of (aH (aD v))] (aG (decide (v∈l))):=by
 refine ah rfl aYo aH2 rfl ?_
 rw[← aLs]
 simp -implicitDefEqProofs(maxSteps:=9^9)only[Tryz.f45,↓zA,sevalprocAttr,a5d,aEU l v hl]
def alv (l:List (List UInt8)) (v:(List UInt8)) (K:An→Prop):bp Tryz.prog pr 45 [.of (slC bA l),.of (aH (aD v))] [] K↔ifP (l.length≤4611686018427387903) (K ⟨false,[aG (decide (v∈l))],[]⟩) (abU Tryz.prog pr 45 [.of (slC bA l),.of (aH (aD v))] K):=adC (asM l v) K
def akr:=ai (ai (ai @zq @akX) (ai @akW @cR)) (ai (ai @ey @zT0) (ai @ay9 (ba aOv)))
def axY (l m:List Xp) (q:Xp→Xp→Bool) (g:Nat) (cp:List C) (h:l.length≤4611686018427387903∧afp (fun x=>.agg (xpC x)) g cp q l m):G1 198 [.of (slC xpC l),.of (slC xpC m),.of (.fn g cp)] (aG (eqR q l m)):=by
 obtain⟨hl,ho,hc,hg⟩:=h
 refine ah rfl aOv ay9 rfl ?_
 by_cases c0:l.length=m.length
 rotate_left
 .rw[ad7 q l m c0]
  simp -implicitDefEqProofs(maxSteps:=9^9)only[Tryz.f198,↓zA,sevalprocAttr,akr,ho,fU,c0]
 simp -implicitDefEqProofs(maxSteps:=9^9)only[Tryz.f198,↓zA,sevalprocAttr,akr,ho,fU,c0]
 refine bX l.length (fun k s=>s.fr 1=.of (slC xpC m)∧s.fr 2=.of (.fn g cp)∧s.fr 15=.of (slC xpC l)∧s.fr 16=aU l.length∧s.fr 17=aU k∧s.objs=[]∧eqR q l m=eqR q (l.drop k) (m.drop k)) ?_ ?_
 .simp -implicitDefEqProofs(maxSteps:=9^9)only[Tryz.f198,↓zA,sevalprocAttr,akr,c0]
  try exact rfl
 .rintro k s hk ⟨f1,f2,f15,f16,f17,hob,E⟩
  rcases ap k l.length with c1|c1
  .have hw:=cF k (by omega)
   have c1':k<m.length:=by omega
   have hx:=fun K=>aN.k (hg l[k] (ay c1) m[k] (ay c1')) K
   rw[cN c1,cN c1',eqR] at E
   simp -implicitDefEqProofs(maxSteps:=9^9)only[Tryz.f198,↓zA,sevalprocAttr,akr,f1,f2,f15,f16,f17,hob,ho,hc,aK,c1,bq c1,bq c1',hw,hx]
   cases c2:q l[k] m[k]
   .simp only[c2,aZ] at E
    simp -implicitDefEqProofs(maxSteps:=9^9)only[Tryz.f198,↓zA,sevalprocAttr,akr,c2,E]
   .simp only[c2,aX] at E
    simp -implicitDefEqProofs(maxSteps:=9^9)only[Tryz.f198,↓zA,sevalprocAttr,akr,c2,E]
  .have e:k=l.length:=by omega
   subst e
   rw[aw,c0,aw,eqR] at E
   simp -implicitDefEqProofs(maxSteps:=9^9)only[Tryz.f198,↓zA,sevalprocAttr,akr,f1,f2,f15,f16,f17,hob,aK,au,E]
def aME (l m:List Xp) (q:Xp→Xp→Bool) (g:Nat) (cp:List C) (h:l.length≤4611686018427387903∧afp (fun x=>.agg (xpC x)) g cp q l m) (K:An→Prop):bp Tryz.prog pr 198 [.of (slC xpC l),.of (slC xpC m),.of (.fn g cp)] [] K↔K ⟨false,[aG (eqR q l m)],[]⟩:=aN.k (axY l m q g cp h) K
def akp:=ai (ai (ai @zq @akX) (ai @akW @adN)) (ai (ai @ack @zT0) (ai @ay6 (ba aOs)))
def asK (l m:List Kd) (q:Kd→Kd→Bool) (g:Nat) (cp:List C) (h:l.length≤4611686018427387903∧afp (fun x=>.agg (kdC x)) g cp q l m):G1 201 [.of (slC kdC l),.of (slC kdC m),.of (.fn g cp)] (aG (eqR q l m)):=by
 obtain⟨hl,ho,hc,hg⟩:=h
 refine ah rfl aOs ay6 rfl ?_
 by_cases c0:l.length=m.length
 rotate_left
 .rw[ad7 q l m c0]
  simp -implicitDefEqProofs(maxSteps:=9^9)only[Tryz.f201,↓zA,sevalprocAttr,akp,ho,fU,c0]
 simp -implicitDefEqProofs(maxSteps:=9^9)only[Tryz.f201,↓zA,sevalprocAttr,akp,ho,fU,c0]
 refine bX l.length (fun k s=>s.fr 1=.of (slC kdC m)∧s.fr 2=.of (.fn g cp)∧s.fr 15=.of (slC kdC l)∧s.fr 16=aU l.length∧s.fr 17=aU k∧s.objs=[]∧eqR q l m=eqR q (l.drop k) (m.drop k)) ?_ ?_
 .simp -implicitDefEqProofs(maxSteps:=9^9)only[Tryz.f201,↓zA,sevalprocAttr,akp,c0]
  try exact rfl
 .rintro k s hk ⟨f1,f2,f15,f16,f17,hob,E⟩
  rcases ap k l.length with c1|c1
  .have hw:=cF k (by omega)
   have c1':k<m.length:=by omega
   have hx:=fun K=>aN.k (hg l[k] (ay c1) m[k] (ay c1')) K
   rw[cN c1,cN c1',eqR] at E
   simp -implicitDefEqProofs(maxSteps:=9^9)only[Tryz.f201,↓zA,sevalprocAttr,akp,f1,f2,f15,f16,f17,hob,ho,hc,aK,c1,bq c1,bq c1',hw,hx]
   cases c2:q l[k] m[k]
   .simp only[c2,aZ] at E
    simp -implicitDefEqProofs(maxSteps:=9^9)only[Tryz.f201,↓zA,sevalprocAttr,akp,c2,E]
   .simp only[c2,aX] at E
    simp -implicitDefEqProofs(maxSteps:=9^9)only[Tryz.f201,↓zA,sevalprocAttr,akp,c2,E]
  .have e:k=l.length:=by omega
   subst e
   rw[aw,c0,aw,eqR] at E
   simp -implicitDefEqProofs(maxSteps:=9^9)only[Tryz.f201,↓zA,sevalprocAttr,akp,f1,f2,f15,f16,f17,hob,aK,au,E]
def aE4 (l m:List Kd) (q:Kd→Kd→Bool) (g:Nat) (cp:List C) (h:l.length≤4611686018427387903∧afp (fun x=>.agg (kdC x)) g cp q l m) (K:An→Prop):bp Tryz.prog pr 201 [.of (slC kdC l),.of (slC kdC m),.of (.fn g cp)] [] K↔K ⟨false,[aG (eqR q l m)],[]⟩:=aN.k (asK l m q g cp h) K
def ako:=ai (ai (ai @zq @akX) (ai @akW @aeo)) (ai (ai @ac3 @zT0) (ai @ay5 (ba aOr)))
def asJ (l m:List Rd) (q:Rd→Rd→Bool) (g:Nat) (cp:List C) (h:l.length≤4611686018427387903∧afp (fun x=>.agg (rdC x)) g cp q l m):G1 202 [.of (slC rdC l),.of (slC rdC m),.of (.fn g cp)] (aG (eqR q l m)):=by
 obtain⟨hl,ho,hc,hg⟩:=h
 refine ah rfl aOr ay5 rfl ?_
 by_cases c0:l.length=m.length
 rotate_left
 .rw[ad7 q l m c0]
  simp -implicitDefEqProofs(maxSteps:=9^9)only[Tryz.f202,↓zA,sevalprocAttr,ako,ho,fU,c0]
 simp -implicitDefEqProofs(maxSteps:=9^9)only[Tryz.f202,↓zA,sevalprocAttr,ako,ho,fU,c0]
 refine bX l.length (fun k s=>s.fr 1=.of (slC rdC m)∧s.fr 2=.of (.fn g cp)∧s.fr 15=.of (slC rdC l)∧s.fr 16=aU l.length∧s.fr 17=aU k∧s.objs=[]∧eqR q l m=eqR q (l.drop k) (m.drop k)) ?_ ?_
 .simp -implicitDefEqProofs(maxSteps:=9^9)only[Tryz.f202,↓zA,sevalprocAttr,ako,c0]
  try exact rfl
 .rintro k s hk ⟨f1,f2,f15,f16,f17,hob,E⟩
  rcases ap k l.length with c1|c1
  .have hw:=cF k (by omega)
   have c1':k<m.length:=by omega
   have hx:=fun K=>aN.k (hg l[k] (ay c1) m[k] (ay c1')) K
   rw[cN c1,cN c1',eqR] at E
   simp -implicitDefEqProofs(maxSteps:=9^9)only[Tryz.f202,↓zA,sevalprocAttr,ako,f1,f2,f15,f16,f17,hob,ho,hc,aK,c1,bq c1,bq c1',hw,hx]
   cases c2:q l[k] m[k]
   .simp only[c2,aZ] at E
    simp -implicitDefEqProofs(maxSteps:=9^9)only[Tryz.f202,↓zA,sevalprocAttr,ako,c2,E]
   .simp only[c2,aX] at E
    simp -implicitDefEqProofs(maxSteps:=9^9)only[Tryz.f202,↓zA,sevalprocAttr,ako,c2,E]
  .have e:k=l.length:=by omega
   subst e
   rw[aw,c0,aw,eqR] at E
   simp -implicitDefEqProofs(maxSteps:=9^9)only[Tryz.f202,↓zA,sevalprocAttr,ako,f1,f2,f15,f16,f17,hob,aK,au,E]
def aE3 (l m:List Rd) (q:Rd→Rd→Bool) (g:Nat) (cp:List C) (h:l.length≤4611686018427387903∧afp (fun x=>.agg (rdC x)) g cp q l m) (K:An→Prop):bp Tryz.prog pr 202 [.of (slC rdC l),.of (slC rdC m),.of (.fn g cp)] [] K↔K ⟨false,[aG (eqR q l m)],[]⟩:=aN.k (asJ l m q g cp h) K
def akn:=ai (ai @zq (ai @cR @ie)) (ai @zT0 (ai @ay4 (ba aOq)))
def arj (l m:List (List Xp)) (q:(List Xp)→(List Xp)→Bool) (g:Nat) (cp:List C) (h:l.length≤4611686018427387903∧afp (slC xpC) g cp q l m):G1 203 [.of (slC (lsC xpC) l),.of (slC (lsC xpC) m),.of (.fn g cp)] (aG (eqR q l m)):=by
 obtain⟨hl,ho,hc,hg⟩:=h
 refine ah rfl aOq ay4 rfl ?_
 by_cases c0:l.length=m.length
 rotate_left
 .rw[ad7 q l m c0]
  simp -implicitDefEqProofs(maxSteps:=9^9)only[Tryz.f203,↓zA,sevalprocAttr,akn,ho,fU,c0]
 simp -implicitDefEqProofs(maxSteps:=9^9)only[Tryz.f203,↓zA,sevalprocAttr,akn,ho,fU,c0]
 refine bX l.length (fun k s=>s.fr 1=.of (slC (lsC xpC) m)∧s.fr 2=.of (.fn g cp)∧s.fr 15=.of (slC (lsC xpC) l)∧s.fr 16=aU l.length∧s.fr 17=aU k∧s.objs=[]∧eqR q l m=eqR q (l.drop k) (m.drop k)) ?_ ?_
 .simp -implicitDefEqProofs(maxSteps:=9^9)only[Tryz.f203,↓zA,sevalprocAttr,akn,c0]
  try exact rfl
 .rintro k s hk ⟨f1,f2,f15,f16,f17,hob,E⟩
  rcases ap k l.length with c1|c1
  .have hw:=cF k (by omega)
   have c1':k<m.length:=by omega
   have hx:=fun K=>aN.k (hg l[k] (ay c1) m[k] (ay c1')) K
   rw[cN c1,cN c1',eqR] at E
   simp -implicitDefEqProofs(maxSteps:=9^9)only[Tryz.f203,↓zA,sevalprocAttr,akn,f1,f2,f15,f16,f17,hob,ho,hc,aK,c1,bq c1,bq c1',hw,hx]
   cases c2:q l[k] m[k]
   .simp only[c2,aZ] at E
    simp -implicitDefEqProofs(maxSteps:=9^9)only[Tryz.f203,↓zA,sevalprocAttr,akn,c2,E]
   .simp only[c2,aX] at E
    simp -implicitDefEqProofs(maxSteps:=9^9)only[Tryz.f203,↓zA,sevalprocAttr,akn,c2,E]
  .have e:k=l.length:=by omega
   subst e
   rw[aw,c0,aw,eqR] at E
   simp -implicitDefEqProofs(maxSteps:=9^9)only[Tryz.f203,↓zA,sevalprocAttr,akn,f1,f2,f15,f16,f17,hob,aK,au,E]
def axZ (l m:List (List Xp)) (q:(List Xp)→(List Xp)→Bool) (g:Nat) (cp:List C) (h:l.length≤4611686018427387903∧afp (slC xpC) g cp q l m) (K:An→Prop):bp Tryz.prog pr 203 [.of (slC (lsC xpC) l),.of (slC (lsC xpC) m),.of (.fn g cp)] [] K↔K ⟨false,[aG (eqR q l m)],[]⟩:=aN.k (arj l m q g cp h) K
def akm:=ai (ai (ai @zq @akX) (ai @akW @abO)) (ai (ai @abP @zT0) (ai @ay3 (ba aOp)))
def asL (l m:List As) (q:As→As→Bool) (g:Nat) (cp:List C) (h:l.length≤4611686018427387903∧afp (fun x=>.agg (asC x)) g cp q l m):G1 204 [.of (slC asC l),.of (slC asC m),.of (.fn g cp)] (aG (eqR q l m)):=by
 obtain⟨hl,ho,hc,hg⟩:=h
 refine ah rfl aOp ay3 rfl ?_
 by_cases c0:l.length=m.length
 rotate_left
 .rw[ad7 q l m c0]
  simp -implicitDefEqProofs(maxSteps:=9^9)only[Tryz.f204,↓zA,sevalprocAttr,akm,ho,fU,c0]
 simp -implicitDefEqProofs(maxSteps:=9^9)only[Tryz.f204,↓zA,sevalprocAttr,akm,ho,fU,c0]
 refine bX l.length (fun k s=>s.fr 1=.of (slC asC m)∧s.fr 2=.of (.fn g cp)∧s.fr 15=.of (slC asC l)∧s.fr 16=aU l.length∧s.fr 17=aU k∧s.objs=[]∧eqR q l m=eqR q (l.drop k) (m.drop k)) ?_ ?_
 .simp -implicitDefEqProofs(maxSteps:=9^9)only[Tryz.f204,↓zA,sevalprocAttr,akm,c0]
  try exact rfl
 .rintro k s hk ⟨f1,f2,f15,f16,f17,hob,E⟩
  rcases ap k l.length with c1|c1
  .have hw:=cF k (by omega)
   have c1':k<m.length:=by omega
   have hx:=fun K=>aN.k (hg l[k] (ay c1) m[k] (ay c1')) K
   rw[cN c1,cN c1',eqR] at E
   simp -implicitDefEqProofs(maxSteps:=9^9)only[Tryz.f204,↓zA,sevalprocAttr,akm,f1,f2,f15,f16,f17,hob,ho,hc,aK,c1,bq c1,bq c1',hw,hx]
   cases c2:q l[k] m[k]
   .simp only[c2,aZ] at E
    simp -implicitDefEqProofs(maxSteps:=9^9)only[Tryz.f204,↓zA,sevalprocAttr,akm,c2,E]
   .simp only[c2,aX] at E
    simp -implicitDefEqProofs(maxSteps:=9^9)only[Tryz.f204,↓zA,sevalprocAttr,akm,c2,E]
  .have e:k=l.length:=by omega
   subst e
   rw[aw,c0,aw,eqR] at E
   simp -implicitDefEqProofs(maxSteps:=9^9)only[Tryz.f204,↓zA,sevalprocAttr,akm,f1,f2,f15,f16,f17,hob,aK,au,E]
def aE5 (l m:List As) (q:As→As→Bool) (g:Nat) (cp:List C) (h:l.length≤4611686018427387903∧afp (fun x=>.agg (asC x)) g cp q l m) (K:An→Prop):bp Tryz.prog pr 204 [.of (slC asC l),.of (slC asC m),.of (.fn g cp)] [] K↔K ⟨false,[aG (eqR q l m)],[]⟩:=aN.k (asL l m q g cp h) K
def akl:=ai (ai (ai @zq @akX) (ai @akW @eY)) (ai (ai @eI @zT0) (ai @ay2 (ba aOo)))
def aww (l m:List Qy) (q:Qy→Qy→Bool) (g:Nat) (cp:List C) (h:l.length≤4611686018427387903∧afp (fun x=>.agg (qyC x)) g cp q l m):G1 205 [.of (slC qyC l),.of (slC qyC m),.of (.fn g cp)] (aG (eqR q l m)):=by
 obtain⟨hl,ho,hc,hg⟩:=h
 refine ah rfl aOo ay2 rfl ?_
 by_cases c0:l.length=m.length
 rotate_left
 .rw[ad7 q l m c0]
  simp -implicitDefEqProofs(maxSteps:=9^9)only[Tryz.f205,↓zA,sevalprocAttr,akl,ho,fU,c0]
 simp -implicitDefEqProofs(maxSteps:=9^9)only[Tryz.f205,↓zA,sevalprocAttr,akl,ho,fU,c0]
 refine bX l.length (fun k s=>s.fr 1=.of (slC qyC m)∧s.fr 2=.of (.fn g cp)∧s.fr 15=.of (slC qyC l)∧s.fr 16=aU l.length∧s.fr 17=aU k∧s.objs=[]∧eqR q l m=eqR q (l.drop k) (m.drop k)) ?_ ?_
 .simp -implicitDefEqProofs(maxSteps:=9^9)only[Tryz.f205,↓zA,sevalprocAttr,akl,c0]
  try exact rfl
 .rintro k s hk ⟨f1,f2,f15,f16,f17,hob,E⟩
  rcases ap k l.length with c1|c1
  .have hw:=cF k (by omega)
   have c1':k<m.length:=by omega
   have hx:=fun K=>aN.k (hg l[k] (ay c1) m[k] (ay c1')) K
   rw[cN c1,cN c1',eqR] at E
   simp -implicitDefEqProofs(maxSteps:=9^9)only[Tryz.f205,↓zA,sevalprocAttr,akl,f1,f2,f15,f16,f17,hob,ho,hc,aK,c1,bq c1,bq c1',hw,hx]
   cases c2:q l[k] m[k]
   .simp only[c2,aZ] at E
    simp -implicitDefEqProofs(maxSteps:=9^9)only[Tryz.f205,↓zA,sevalprocAttr,akl,c2,E]
   .simp only[c2,aX] at E
    simp -implicitDefEqProofs(maxSteps:=9^9)only[Tryz.f205,↓zA,sevalprocAttr,akl,c2,E]
  .have e:k=l.length:=by omega
   subst e
   rw[aw,c0,aw,eqR] at E
   simp -implicitDefEqProofs(maxSteps:=9^9)only[Tryz.f205,↓zA,sevalprocAttr,akl,f1,f2,f15,f16,f17,hob,aK,au,E]
def aJH (l m:List Qy) (q:Qy→Qy→Bool) (g:Nat) (cp:List C) (h:l.length≤4611686018427387903∧afp (fun x=>.agg (qyC x)) g cp q l m) (K:An→Prop):bp Tryz.prog pr 205 [.of (slC qyC l),.of (slC qyC m),.of (.fn g cp)] [] K↔K ⟨false,[aG (eqR q l m)],[]⟩:=aN.k (aww l m q g cp h) K
def akj:=ai (ai (ai @zq @akX) (ai @akW @abb)) (ai (ai @ab7 @zT0) (ai @ayz (ba aNU)))
def axW (l m:List Im) (q:Im→Im→Bool) (g:Nat) (cp:List C) (h:l.length≤4611686018427387903∧afp (fun x=>.agg (imC x)) g cp q l m):G1 242 [.of (slC imC l),.of (slC imC m),.of (.fn g cp)] (aG (eqR q l m)):=by
 obtain⟨hl,ho,hc,hg⟩:=h
 refine ah rfl aNU ayz rfl ?_
 by_cases c0:l.length=m.length
 rotate_left
 .rw[ad7 q l m c0]
  simp -implicitDefEqProofs(maxSteps:=9^9)only[Tryz.f242,↓zA,sevalprocAttr,akj,ho,fU,c0]
 simp -implicitDefEqProofs(maxSteps:=9^9)only[Tryz.f242,↓zA,sevalprocAttr,akj,ho,fU,c0]
 refine bX l.length (fun k s=>s.fr 1=.of (slC imC m)∧s.fr 2=.of (.fn g cp)∧s.fr 15=.of (slC imC l)∧s.fr 16=aU l.length∧s.fr 17=aU k∧s.objs=[]∧eqR q l m=eqR q (l.drop k) (m.drop k)) ?_ ?_
 .simp -implicitDefEqProofs(maxSteps:=9^9)only[Tryz.f242,↓zA,sevalprocAttr,akj,c0]
  try exact rfl
 .rintro k s hk ⟨f1,f2,f15,f16,f17,hob,E⟩
  rcases ap k l.length with c1|c1
  .have hw:=cF k (by omega)
   have c1':k<m.length:=by omega
   have hx:=fun K=>aN.k (hg l[k] (ay c1) m[k] (ay c1')) K
   rw[cN c1,cN c1',eqR] at E
   simp -implicitDefEqProofs(maxSteps:=9^9)only[Tryz.f242,↓zA,sevalprocAttr,akj,f1,f2,f15,f16,f17,hob,ho,hc,aK,c1,bq c1,bq c1',hw,hx]
   cases c2:q l[k] m[k]
   .simp only[c2,aZ] at E
    simp -implicitDefEqProofs(maxSteps:=9^9)only[Tryz.f242,↓zA,sevalprocAttr,akj,c2,E]
   .simp only[c2,aX] at E
    simp -implicitDefEqProofs(maxSteps:=9^9)only[Tryz.f242,↓zA,sevalprocAttr,akj,c2,E]
  .have e:k=l.length:=by omega
   subst e
   rw[aw,c0,aw,eqR] at E
   simp -implicitDefEqProofs(maxSteps:=9^9)only[Tryz.f242,↓zA,sevalprocAttr,akj,f1,f2,f15,f16,f17,hob,aK,au,E]
def aMC (l m:List Im) (q:Im→Im→Bool) (g:Nat) (cp:List C) (h:l.length≤4611686018427387903∧afp (fun x=>.agg (imC x)) g cp q l m) (K:An→Prop):bp Tryz.prog pr 242 [.of (slC imC l),.of (slC imC m),.of (.fn g cp)] [] K↔K ⟨false,[aG (eqR q l m)],[]⟩:=aN.k (axW l m q g cp h) K
def aki:=ai (ai (ai @zq @akX) (ai @akW @jq)) (ai (ai @iU @zT0) (ai @ayx (ba aNS)))
def axX (l m:List Fm) (q:Fm→Fm→Bool) (g:Nat) (cp:List C) (h:l.length≤4611686018427387903∧afp (fun x=>.agg (fmC x)) g cp q l m):G1 244 [.of (slC fmC l),.of (slC fmC m),.of (.fn g cp)] (aG (eqR q l m)):=by
 obtain⟨hl,ho,hc,hg⟩:=h
 refine ah rfl aNS ayx rfl ?_
 by_cases c0:l.length=m.length
 rotate_left
 .rw[ad7 q l m c0]
  simp -implicitDefEqProofs(maxSteps:=9^9)only[Tryz.f244,↓zA,sevalprocAttr,aki,ho,fU,c0]
 simp -implicitDefEqProofs(maxSteps:=9^9)only[Tryz.f244,↓zA,sevalprocAttr,aki,ho,fU,c0]
 refine bX l.length (fun k s=>s.fr 1=.of (slC fmC m)∧s.fr 2=.of (.fn g cp)∧s.fr 15=.of (slC fmC l)∧s.fr 16=aU l.length∧s.fr 17=aU k∧s.objs=[]∧eqR q l m=eqR q (l.drop k) (m.drop k)) ?_ ?_
 .simp -implicitDefEqProofs(maxSteps:=9^9)only[Tryz.f244,↓zA,sevalprocAttr,aki,c0]
  try exact rfl
 .rintro k s hk ⟨f1,f2,f15,f16,f17,hob,E⟩
  rcases ap k l.length with c1|c1
  .have hw:=cF k (by omega)
   have c1':k<m.length:=by omega
   have hx:=fun K=>aN.k (hg l[k] (ay c1) m[k] (ay c1')) K
   rw[cN c1,cN c1',eqR] at E
   simp -implicitDefEqProofs(maxSteps:=9^9)only[Tryz.f244,↓zA,sevalprocAttr,aki,f1,f2,f15,f16,f17,hob,ho,hc,aK,c1,bq c1,bq c1',hw,hx]
   cases c2:q l[k] m[k]
   .simp only[c2,aZ] at E
    simp -implicitDefEqProofs(maxSteps:=9^9)only[Tryz.f244,↓zA,sevalprocAttr,aki,c2,E]
   .simp only[c2,aX] at E
    simp -implicitDefEqProofs(maxSteps:=9^9)only[Tryz.f244,↓zA,sevalprocAttr,aki,c2,E]
  .have e:k=l.length:=by omega
   subst e
   rw[aw,c0,aw,eqR] at E
   simp -implicitDefEqProofs(maxSteps:=9^9)only[Tryz.f244,↓zA,sevalprocAttr,aki,f1,f2,f15,f16,f17,hob,aK,au,E]
def aMD (l m:List Fm) (q:Fm→Fm→Bool) (g:Nat) (cp:List C) (h:l.length≤4611686018427387903∧afp (fun x=>.agg (fmC x)) g cp q l m) (K:An→Prop):bp Tryz.prog pr 244 [.of (slC fmC l),.of (slC fmC m),.of (.fn g cp)] [] K↔K ⟨false,[aG (eqR q l m)],[]⟩:=aN.k (axX l m q g cp h) K
def akt:=ai (ai @zq (ai @bO @Q9)) (ai @zT0 (ai @azc (ba aOy)))
def asH (l m:List (List UInt8)) (hl:l.length≤4611686018427387903):G1 195 [.of (slC bA l),.of (slC bA m)] (aG (eqR (fun x y=>decide (x=y)) l m)):=by
 refine ah rfl aOy azc rfl ?_
 by_cases c0:l.length=m.length
 rotate_left
 .rw[ad7 _ l m c0]
  simp -implicitDefEqProofs(maxSteps:=9^9)only[Tryz.f195,↓zA,sevalprocAttr,akt,fU,c0]
 simp -implicitDefEqProofs(maxSteps:=9^9)only[Tryz.f195,↓zA,sevalprocAttr,akt,fU,c0]
 refine bX l.length (fun k s=>s.fr 0=.of (slC bA l)∧s.fr 1=.of (slC bA m)∧s.fr 12=aU l.length∧s.fr 13=aU k∧s.objs=[]∧eqR (fun x y=>decide (x=y)) l m=eqR (fun x y=>decide (x=y)) (l.drop k) (m.drop k)) ?_ ?_
 .simp -implicitDefEqProofs(maxSteps:=9^9)only[Tryz.f195,↓zA,sevalprocAttr,akt,c0]
  try exact rfl
 .rintro k s hk ⟨f0,f1,f12,f13,hob,E⟩
  rcases ap k l.length with c1|c1
  .have hw:=cF k (by omega)
   have c1':k<m.length:=by omega
   rw[cN c1,cN c1',eqR] at E
   simp -implicitDefEqProofs(maxSteps:=9^9)only[Tryz.f195,↓zA,sevalprocAttr,akt,f0,f1,f12,f13,hob,aK,c1,bq c1,bq c1',hw,bW]
   by_cases c2:l[k]=m[k]
   .simp only[c2,bG,aX] at E
    simp -implicitDefEqProofs(maxSteps:=9^9)only[Tryz.f195,↓zA,sevalprocAttr,akt,c2,E,aa0]
   .simp only[c2,bE,aZ] at E
    simp -implicitDefEqProofs(maxSteps:=9^9)only[Tryz.f195,↓zA,sevalprocAttr,akt,c2,E]
  .have e:k=l.length:=by omega
   subst e
   rw[aw,c0,aw,eqR] at E
   simp -implicitDefEqProofs(maxSteps:=9^9)only[Tryz.f195,↓zA,sevalprocAttr,akt,f0,f1,f12,f13,hob,aK,au,E]
def akq:=ai (ai @zq (ai @aep @acl)) (ai @zT0 (ai @ay7 (ba aOt)))
def asI (l m:List Cd) (hl:l.length≤4611686018427387903):G1 200 [.of (slC cdC l),.of (slC cdC m)] (aG (eqR (fun x y=>decide (x=y)) l m)):=by
 refine ah rfl aOt ay7 rfl ?_
 by_cases c0:l.length=m.length
 rotate_left
 .rw[ad7 _ l m c0]
  simp -implicitDefEqProofs(maxSteps:=9^9)only[Tryz.f200,↓zA,sevalprocAttr,akq,fU,c0]
 simp -implicitDefEqProofs(maxSteps:=9^9)only[Tryz.f200,↓zA,sevalprocAttr,akq,fU,c0]
 refine bX l.length (fun k s=>s.fr 0=.of (slC cdC l)∧s.fr 1=.of (slC cdC m)∧s.fr 12=aU l.length∧s.fr 13=aU k∧s.objs=[]∧eqR (fun x y=>decide (x=y)) l m=eqR (fun x y=>decide (x=y)) (l.drop k) (m.drop k)) ?_ ?_
 .simp -implicitDefEqProofs(maxSteps:=9^9)only[Tryz.f200,↓zA,sevalprocAttr,akq,c0]
  try exact rfl
 .rintro k s hk ⟨f0,f1,f12,f13,hob,E⟩
  rcases ap k l.length with c1|c1
  .have hw:=cF k (by omega)
   have c1':k<m.length:=by omega
   rw[cN c1,cN c1',eqR] at E
   simp -implicitDefEqProofs(maxSteps:=9^9)only[Tryz.f200,↓zA,sevalprocAttr,akq,f0,f1,f12,f13,hob,aK,c1,bq c1,bq c1',hw,aDW,fx,eh]
   by_cases c2:l[k]=m[k]
   .simp only[c2,bG,aX] at E
    simp -implicitDefEqProofs(maxSteps:=9^9)only[Tryz.f200,↓zA,sevalprocAttr,akq,c2,E,aa0]
   .simp only[c2,bE,aZ] at E
    simp -implicitDefEqProofs(maxSteps:=9^9)only[Tryz.f200,↓zA,sevalprocAttr,akq,c2,E]
  .have e:k=l.length:=by omega
   subst e
   rw[aw,c0,aw,eqR] at E
   simp -implicitDefEqProofs(maxSteps:=9^9)only[Tryz.f200,↓zA,sevalprocAttr,akq,f0,f1,f12,f13,hob,aK,au,E]
def akk:=ai (ai @zq (ai @acL @abV)) (ai @zT0 (ai @ayA (ba aNV)))
def awv (l m:List Od) (hl:l.length≤4611686018427387903):G1 241 [.of (slC odC l),.of (slC odC m)] (aG (eqR (fun x y=>decide (x=y)) l m)):=by
 refine ah rfl aNV ayA rfl ?_
 by_cases c0:l.length=m.length
 rotate_left
 .rw[ad7 _ l m c0]
  simp -implicitDefEqProofs(maxSteps:=9^9)only[Tryz.f241,↓zA,sevalprocAttr,akk,fU,c0]
 simp -implicitDefEqProofs(maxSteps:=9^9)only[Tryz.f241,↓zA,sevalprocAttr,akk,fU,c0]
 refine bX l.length (fun k s=>s.fr 0=.of (slC odC l)∧s.fr 1=.of (slC odC m)∧s.fr 12=aU l.length∧s.fr 13=aU k∧s.objs=[]∧eqR (fun x y=>decide (x=y)) l m=eqR (fun x y=>decide (x=y)) (l.drop k) (m.drop k)) ?_ ?_
 .simp -implicitDefEqProofs(maxSteps:=9^9)only[Tryz.f241,↓zA,sevalprocAttr,akk,c0]
  try exact rfl
 .rintro k s hk ⟨f0,f1,f12,f13,hob,E⟩
  rcases ap k l.length with c1|c1
  .have hw:=cF k (by omega)
   have c1':k<m.length:=by omega
   rw[cN c1,cN c1',eqR] at E
   simp -implicitDefEqProofs(maxSteps:=9^9)only[Tryz.f241,↓zA,sevalprocAttr,akk,f0,f1,f12,f13,hob,aK,c1,bq c1,bq c1',hw,aIP,fx,eh]
   by_cases c2:l[k]=m[k]
   .simp only[c2,bG,aX] at E
    simp -implicitDefEqProofs(maxSteps:=9^9)only[Tryz.f241,↓zA,sevalprocAttr,akk,c2,E,aa0]
   .simp only[c2,bE,aZ] at E
    simp -implicitDefEqProofs(maxSteps:=9^9)only[Tryz.f241,↓zA,sevalprocAttr,akk,c2,E]
  .have e:k=l.length:=by omega
   subst e
   rw[aw,c0,aw,eqR] at E
   simp -implicitDefEqProofs(maxSteps:=9^9)only[Tryz.f241,↓zA,sevalprocAttr,akk,f0,f1,f12,f13,hob,aK,au,E]
def aJG (l m:List Od) (hl:l.length≤4611686018427387903) (K:An→Prop):bp Tryz.prog pr 241 [.of (slC odC l),.of (slC odC m)] [] K↔K ⟨false,[aG (eqR (fun x y=>decide (x=y)) l m)],[]⟩:=aN.k (awv l m hl) K
def a1n:=ai (ai (ai @zq @a3M) (ai @a3L @a3K)) (ai (ai @adt @Q3) (ai @zT0 (ai @aAD (ba aPZ))))
def aMd (a b:Nat×Nat) (h:a.1+b.1≤4611686018427387903):G1 101 [.of (.agg (szC (szP a))),.of (.agg (szC (szP b)))] (.of (.agg (szC (szP (bx a b))))):=by
 have hw:IntKind.i64.wrap ((a.1:Int)+b.1)=((a.1+b.1:Nat):Int):=by rw[eX _ (by omega) (by omega)];rfl
 have hm:(if (a.2:Int)<b.2 then (b.2:Int) else a.2)=((max a.2 b.2:Nat):Int):=by split <;> omega
 have e:szC (szP (bx a b))=[ci ((a.1+b.1:Nat):Int),ci ((max a.2 b.2:Nat):Int)]:=rfl
 refine ah rfl aPZ aAD rfl ?_
 simp -implicitDefEqProofs(maxSteps:=9^9)only[Tryz.f101,↓zA,sevalprocAttr,a1n,aoR,aoS,hw,hm,e]
def aho (a b:Nat×Nat) (K:An→Prop):bp Tryz.prog pr 101 [.of (.agg (szC (szP a))),.of (.agg (szC (szP b)))] [] K↔ifP (a.1+b.1≤4611686018427387903) (K ⟨false,[.of (.agg (szC (szP (bx a b))))],[]⟩) (abU Tryz.prog pr 101 [.of (.agg (szC (szP a))),.of (.agg (szC (szP b)))] K):=adC (aMd a b) K
def a1d:=ai (ai (ai @zq @a3J) (ai @a3I @adt)) (ai (ai @Q3 @zT0) (ai @azZ (ba aPl)))
def aQf (a:Nat×Nat) (h:a.1≤4611686018427387903∧a.2≤4611686018427387903):G1 142 [.of (.agg (szC (szP a)))] (.of (.agg (szC (szP (upN a))))):=by
 have hw:=cF a.1 (by omega)
 have hw2:=cF a.2 (by omega)
 have e:szC (szP (upN a))=[ci ((a.1+1:Nat):Int),ci ((a.2+1:Nat):Int)]:=rfl
 refine ah rfl aPl azZ rfl ?_
 simp -implicitDefEqProofs(maxSteps:=9^9)only[Tryz.f142,↓zA,sevalprocAttr,a1d,aoR,aoS,hw,hw2,e]
def aJY (a:Nat×Nat) (K:An→Prop):bp Tryz.prog pr 142 [.of (.agg (szC (szP a)))] [] K↔ifP (a.1≤4611686018427387903∧a.2≤4611686018427387903) (K ⟨false,[.of (.agg (szC (szP (upN a))))],[]⟩) (abU Tryz.prog pr 142 [.of (.agg (szC (szP a)))] K):=adC (aQf a) K
def aTK:=ai (ai @zq (ai @a3r @adt)) (ai (ai @Q3 @zT0) (ai @aIc (ba aYy)))
def aIK (a:Nat×Nat):G1 33 [.of (.agg (szC (szP a)))] (aG (adb a)):=by
 have e1:((a.1:Int)≤400)=(a.1≤400):=propext (by omega)
 have e2:((a.2:Int)≤40)=(a.2≤40):=propext (by omega)
 refine ah rfl aYy aIc rfl ?_
 by_cases c1:a.1≤400
 .simp -implicitDefEqProofs(maxSteps:=9^9)only[Tryz.f33,↓zA,sevalprocAttr,aTK,aoR,aoS,e1,e2,adb,c1,bG,aX]
 .simp -implicitDefEqProofs(maxSteps:=9^9)only[Tryz.f33,↓zA,sevalprocAttr,aTK,aoR,aoS,e1,e2,adb,c1,bE,aZ]
def aj1 (a:Nat×Nat) (K:An→Prop):bp Tryz.prog pr 33 [.of (.agg (szC (szP a)))] [] K↔K ⟨false,[aG (adb a)],[]⟩:=aN.k (aIK a) K
def aBK:=ai (ai (ai @zq @am7) (ai @am6 (ai @afw @aeh))) (ai (ai @adt (ai @cR @ie)) (ai @zT0 (ai @aHo (ba aXK))))
def aoU (l:List (List Xp)) (w:(List Xp)→Nat×Nat) (g:Nat) (cp:List C) (h:l.length≤4611686018427387903∧(bl w l).1≤4611686018427387903∧FnS (slC xpC) g cp w l):G1 96 [.of (slC (lsC xpC) l),.of (.fn g cp)] (.of (.agg (szC (szP (bl w l))))):=by
 obtain⟨hl,hs,ho,hc,hg⟩:=h
 refine ah rfl aXK aHo rfl ?_
 simp -implicitDefEqProofs(maxSteps:=9^9)only[Tryz.f96,↓zA,sevalprocAttr,aBK,ho]
 refine bX l.length (fun k s=>∃ a,s.fr 1=.of (.fn g cp)∧s.fr 4=.ptr 0 0∧s.fr 5=.ptr 1 0∧s.fr 8=.of (slC (lsC xpC) l)∧s.fr 9=aU l.length∧s.fr 10=aU k∧s.objs=[.var 80 [aU 0,aU 0],.var 80 [.of (ci ((a:Nat×Nat).1:Int)),.of (ci (a.2:Int))]]∧bx a (bl w (l.drop k))=bl w l) ?_ ?_
 .refine⟨(0,0),?_⟩
  simp -implicitDefEqProofs(maxSteps:=9^9)only[Tryz.f96,↓zA,sevalprocAttr,aBK,ac2]
  try exact rfl
 .rintro k s hk ⟨a,f1,f4,f5,f8,f9,f10,hob,E⟩
  have ea:szC (szP a)=[ci (a.1:Int),ci (a.2:Int)]:=rfl
  rcases ap k l.length with c1|c1
  .have hw:=cF k (by omega)
   have hx:=fun K=>aN.k (hg l[k] (ay c1)) K
   rw[cN c1,acY,← aaO] at E
   have hb:a.1+(w l[k]).1≤4611686018427387903:=by have:=congrArg Prod.fst E;simp only[ake] at this;omega
   have eb:szC (szP (bx a (w l[k])))=[ci ((bx a (w l[k])).1:Int),ci ((bx a (w l[k])).2:Int)]:=rfl
   simp -implicitDefEqProofs(maxSteps:=9^9)only[Tryz.f96,↓zA,sevalprocAttr,aBK,f1,f4,f5,f8,f9,f10,hob,ho,hc,aK,c1,bq c1,hw,hx,← ea,aho,hb,eb]
   exact⟨_,rfl,E⟩
  .have e:k=l.length:=by omega
   subst e
   rw[aw,bl,iP] at E
   subst E
   simp -implicitDefEqProofs(maxSteps:=9^9)only[Tryz.f96,↓zA,sevalprocAttr,aBK,f1,f4,f5,f8,f9,f10,hob,aK,au,ea]
def atW (l:List (List Xp)) (w:(List Xp)→Nat×Nat) (g:Nat) (cp:List C) (h:l.length≤4611686018427387903∧(bl w l).1≤4611686018427387903∧FnS (slC xpC) g cp w l) (K:An→Prop):bp Tryz.prog pr 96 [.of (slC (lsC xpC) l),.of (.fn g cp)] [] K↔K ⟨false,[.of (.agg (szC (szP (bl w l))))],[]⟩:=aN.k (aoU l w g cp h) K
def aBJ:=ai (ai (ai @zq (ai @am7 @am6)) (ai @aps (ai @afw @aeh))) (ai (ai @cR (ai @adt @ey)) (ai @zT0 (ai @aHm (ba aXI))))
def atV (l:List Xp) (w:Xp→Nat×Nat) (g:Nat) (cp:List C) (h:l.length≤4611686018427387903∧(bl w l).1≤4611686018427387903∧FnS (fun x=>.agg (xpC x)) g cp w l):G1 98 [.of (slC xpC l),.of (.fn g cp)] (.of (.agg (szC (szP (bl w l))))):=by
 obtain⟨hl,hs,ho,hc,hg⟩:=h
 refine ah rfl aXI aHm rfl ?_
 simp -implicitDefEqProofs(maxSteps:=9^9)only[Tryz.f98,↓zA,sevalprocAttr,aBJ,ho]
 refine bX l.length (fun k s=>∃ a,s.fr 1=.of (.fn g cp)∧s.fr 4=.ptr 0 0∧s.fr 5=.ptr 1 0∧s.fr 8=.of (slC xpC l)∧s.fr 9=aU l.length∧s.fr 10=aU k∧s.objs=[.var 80 [aU 0,aU 0],.var 80 [.of (ci ((a:Nat×Nat).1:Int)),.of (ci (a.2:Int))]]∧bx a (bl w (l.drop k))=bl w l) ?_ ?_
 .refine⟨(0,0),?_⟩
  simp -implicitDefEqProofs(maxSteps:=9^9)only[Tryz.f98,↓zA,sevalprocAttr,aBJ,ac2]
  try exact rfl
 .rintro k s hk ⟨a,f1,f4,f5,f8,f9,f10,hob,E⟩
  have ea:szC (szP a)=[ci (a.1:Int),ci (a.2:Int)]:=rfl
  rcases ap k l.length with c1|c1
  .have hw:=cF k (by omega)
   have hx:=fun K=>aN.k (hg l[k] (ay c1)) K
   rw[cN c1,acY,← aaO] at E
   have hb:a.1+(w l[k]).1≤4611686018427387903:=by have:=congrArg Prod.fst E;simp only[ake] at this;omega
   have eb:szC (szP (bx a (w l[k])))=[ci ((bx a (w l[k])).1:Int),ci ((bx a (w l[k])).2:Int)]:=rfl
   simp -implicitDefEqProofs(maxSteps:=9^9)only[Tryz.f98,↓zA,sevalprocAttr,aBJ,f1,f4,f5,f8,f9,f10,hob,ho,hc,aK,c1,bq c1,hw,hx,← ea,aho,hb,eb]
   exact⟨_,rfl,E⟩
  .have e:k=l.length:=by omega
   subst e
   rw[aw,bl,iP] at E
   subst E
   simp -implicitDefEqProofs(maxSteps:=9^9)only[Tryz.f98,↓zA,sevalprocAttr,aBJ,f1,f4,f5,f8,f9,f10,hob,aK,au,ea]
def aFu (l:List Xp) (w:Xp→Nat×Nat) (g:Nat) (cp:List C) (h:l.length≤4611686018427387903∧(bl w l).1≤4611686018427387903∧FnS (fun x=>.agg (xpC x)) g cp w l) (K:An→Prop):bp Tryz.prog pr 98 [.of (slC xpC l),.of (.fn g cp)] [] K↔K ⟨false,[.of (.agg (szC (szP (bl w l))))],[]⟩:=aN.k (atV l w g cp h) K
def aBI:=ai (ai (ai @zq (ai @am7 @am6)) (ai @aps (ai @afw @aeh))) (ai (ai @abO (ai @adt @abP)) (ai @zT0 (ai @aHl (ba aXH))))
def aqr (l:List As) (w:As→Nat×Nat) (g:Nat) (cp:List C) (h:l.length≤4611686018427387903∧(bl w l).1≤4611686018427387903∧FnS (fun x=>.agg (asC x)) g cp w l):G1 99 [.of (slC asC l),.of (.fn g cp)] (.of (.agg (szC (szP (bl w l))))):=by
 obtain⟨hl,hs,ho,hc,hg⟩:=h
 refine ah rfl aXH aHl rfl ?_
 simp -implicitDefEqProofs(maxSteps:=9^9)only[Tryz.f99,↓zA,sevalprocAttr,aBI,ho]
 refine bX l.length (fun k s=>∃ a,s.fr 1=.of (.fn g cp)∧s.fr 4=.ptr 0 0∧s.fr 5=.ptr 1 0∧s.fr 8=.of (slC asC l)∧s.fr 9=aU l.length∧s.fr 10=aU k∧s.objs=[.var 80 [aU 0,aU 0],.var 80 [.of (ci ((a:Nat×Nat).1:Int)),.of (ci (a.2:Int))]]∧bx a (bl w (l.drop k))=bl w l) ?_ ?_
 .refine⟨(0,0),?_⟩
  simp -implicitDefEqProofs(maxSteps:=9^9)only[Tryz.f99,↓zA,sevalprocAttr,aBI,ac2]
  try exact rfl
 .rintro k s hk ⟨a,f1,f4,f5,f8,f9,f10,hob,E⟩
  have ea:szC (szP a)=[ci (a.1:Int),ci (a.2:Int)]:=rfl
  rcases ap k l.length with c1|c1
  .have hw:=cF k (by omega)
   have hx:=fun K=>aN.k (hg l[k] (ay c1)) K
   rw[cN c1,acY,← aaO] at E
   have hb:a.1+(w l[k]).1≤4611686018427387903:=by have:=congrArg Prod.fst E;simp only[ake] at this;omega
   have eb:szC (szP (bx a (w l[k])))=[ci ((bx a (w l[k])).1:Int),ci ((bx a (w l[k])).2:Int)]:=rfl
   simp -implicitDefEqProofs(maxSteps:=9^9)only[Tryz.f99,↓zA,sevalprocAttr,aBI,f1,f4,f5,f8,f9,f10,hob,ho,hc,aK,c1,bq c1,hw,hx,← ea,aho,hb,eb]
   exact⟨_,rfl,E⟩
  .have e:k=l.length:=by omega
   subst e
   rw[aw,bl,iP] at E
   subst E
   simp -implicitDefEqProofs(maxSteps:=9^9)only[Tryz.f99,↓zA,sevalprocAttr,aBI,f1,f4,f5,f8,f9,f10,hob,aK,au,ea]
def awI (l:List As) (w:As→Nat×Nat) (g:Nat) (cp:List C) (h:l.length≤4611686018427387903∧(bl w l).1≤4611686018427387903∧FnS (fun x=>.agg (asC x)) g cp w l) (K:An→Prop):bp Tryz.prog pr 99 [.of (slC asC l),.of (.fn g cp)] [] K↔K ⟨false,[.of (.agg (szC (szP (bl w l))))],[]⟩:=aN.k (aqr l w g cp h) K
def as8:=ai (ai (ai @zq (ai @am7 @am6)) (ai @aps (ai @afw @aeh))) (ai (ai @eY (ai @adt @eI)) (ai @zT0 (ai @aAC (ba aPY))))
def asc (l:List Qy) (w:Qy→Nat×Nat) (g:Nat) (cp:List C) (h:l.length≤4611686018427387903∧(bl w l).1≤4611686018427387903∧FnS (fun x=>.agg (qyC x)) g cp w l):G1 102 [.of (slC qyC l),.of (.fn g cp)] (.of (.agg (szC (szP (bl w l))))):=by
 obtain⟨hl,hs,ho,hc,hg⟩:=h
 refine ah rfl aPY aAC rfl ?_
 simp -implicitDefEqProofs(maxSteps:=9^9)only[Tryz.f102,↓zA,sevalprocAttr,as8,ho]
 refine bX l.length (fun k s=>∃ a,s.fr 1=.of (.fn g cp)∧s.fr 4=.ptr 0 0∧s.fr 5=.ptr 1 0∧s.fr 8=.of (slC qyC l)∧s.fr 9=aU l.length∧s.fr 10=aU k∧s.objs=[.var 80 [aU 0,aU 0],.var 80 [.of (ci ((a:Nat×Nat).1:Int)),.of (ci (a.2:Int))]]∧bx a (bl w (l.drop k))=bl w l) ?_ ?_
 .refine⟨(0,0),?_⟩
  simp -implicitDefEqProofs(maxSteps:=9^9)only[Tryz.f102,↓zA,sevalprocAttr,as8,ac2]
  try exact rfl
 .rintro k s hk ⟨a,f1,f4,f5,f8,f9,f10,hob,E⟩
  have ea:szC (szP a)=[ci (a.1:Int),ci (a.2:Int)]:=rfl
  rcases ap k l.length with c1|c1
  .have hw:=cF k (by omega)
   have hx:=fun K=>aN.k (hg l[k] (ay c1)) K
   rw[cN c1,acY,← aaO] at E
   have hb:a.1+(w l[k]).1≤4611686018427387903:=by have:=congrArg Prod.fst E;simp only[ake] at this;omega
   have eb:szC (szP (bx a (w l[k])))=[ci ((bx a (w l[k])).1:Int),ci ((bx a (w l[k])).2:Int)]:=rfl
   simp -implicitDefEqProofs(maxSteps:=9^9)only[Tryz.f102,↓zA,sevalprocAttr,as8,f1,f4,f5,f8,f9,f10,hob,ho,hc,aK,c1,bq c1,hw,hx,← ea,aho,hb,eb]
   exact⟨_,rfl,E⟩
  .have e:k=l.length:=by omega
   subst e
   rw[aw,bl,iP] at E
   subst E
   simp -implicitDefEqProofs(maxSteps:=9^9)only[Tryz.f102,↓zA,sevalprocAttr,as8,f1,f4,f5,f8,f9,f10,hob,aK,au,ea]
def aCm (l:List Qy) (w:Qy→Nat×Nat) (g:Nat) (cp:List C) (h:l.length≤4611686018427387903∧(bl w l).1≤4611686018427387903∧FnS (fun x=>.agg (qyC x)) g cp w l) (K:An→Prop):bp Tryz.prog pr 102 [.of (slC qyC l),.of (.fn g cp)] [] K↔K ⟨false,[.of (.agg (szC (szP (bl w l))))],[]⟩:=aN.k (asc l w g cp h) K
def as4:=ai (ai (ai @zq (ai @am7 @am6)) (ai @aps (ai @afw @aeh))) (ai (ai @abb (ai @adt @ab7)) (ai @zT0 (ai @az3 (ba aPp))))
def atS (l:List Im) (w:Im→Nat×Nat) (g:Nat) (cp:List C) (h:l.length≤4611686018427387903∧(bl w l).1≤4611686018427387903∧FnS (fun x=>.agg (imC x)) g cp w l):G1 138 [.of (slC imC l),.of (.fn g cp)] (.of (.agg (szC (szP (bl w l))))):=by
 obtain⟨hl,hs,ho,hc,hg⟩:=h
 refine ah rfl aPp az3 rfl ?_
 simp -implicitDefEqProofs(maxSteps:=9^9)only[Tryz.f138,↓zA,sevalprocAttr,as4,ho]
 refine bX l.length (fun k s=>∃ a,s.fr 1=.of (.fn g cp)∧s.fr 4=.ptr 0 0∧s.fr 5=.ptr 1 0∧s.fr 8=.of (slC imC l)∧s.fr 9=aU l.length∧s.fr 10=aU k∧s.objs=[.var 80 [aU 0,aU 0],.var 80 [.of (ci ((a:Nat×Nat).1:Int)),.of (ci (a.2:Int))]]∧bx a (bl w (l.drop k))=bl w l) ?_ ?_
 .refine⟨(0,0),?_⟩
  simp -implicitDefEqProofs(maxSteps:=9^9)only[Tryz.f138,↓zA,sevalprocAttr,as4,ac2]
  try exact rfl
 .rintro k s hk ⟨a,f1,f4,f5,f8,f9,f10,hob,E⟩
  have ea:szC (szP a)=[ci (a.1:Int),ci (a.2:Int)]:=rfl
  rcases ap k l.length with c1|c1
  .have hw:=cF k (by omega)
   have hx:=fun K=>aN.k (hg l[k] (ay c1)) K
   rw[cN c1,acY,← aaO] at E
   have hb:a.1+(w l[k]).1≤4611686018427387903:=by have:=congrArg Prod.fst E;simp only[ake] at this;omega
   have eb:szC (szP (bx a (w l[k])))=[ci ((bx a (w l[k])).1:Int),ci ((bx a (w l[k])).2:Int)]:=rfl
   simp -implicitDefEqProofs(maxSteps:=9^9)only[Tryz.f138,↓zA,sevalprocAttr,as4,f1,f4,f5,f8,f9,f10,hob,ho,hc,aK,c1,bq c1,hw,hx,← ea,aho,hb,eb]
   exact⟨_,rfl,E⟩
  .have e:k=l.length:=by omega
   subst e
   rw[aw,bl,iP] at E
   subst E
   simp -implicitDefEqProofs(maxSteps:=9^9)only[Tryz.f138,↓zA,sevalprocAttr,as4,f1,f4,f5,f8,f9,f10,hob,aK,au,ea]
def aFs (l:List Im) (w:Im→Nat×Nat) (g:Nat) (cp:List C) (h:l.length≤4611686018427387903∧(bl w l).1≤4611686018427387903∧FnS (fun x=>.agg (imC x)) g cp w l) (K:An→Prop):bp Tryz.prog pr 138 [.of (slC imC l),.of (.fn g cp)] [] K↔K ⟨false,[.of (.agg (szC (szP (bl w l))))],[]⟩:=aN.k (atS l w g cp h) K
def as3:=ai (ai (ai @zq (ai @am7 @am6)) (ai @aps (ai @afw @aeh))) (ai (ai @jq (ai @adt @iU)) (ai @zT0 (ai @az1 (ba aPn))))
def atU (l:List Fm) (w:Fm→Nat×Nat) (g:Nat) (cp:List C) (h:l.length≤4611686018427387903∧(bl w l).1≤4611686018427387903∧FnS (fun x=>.agg (fmC x)) g cp w l):G1 140 [.of (slC fmC l),.of (.fn g cp)] (.of (.agg (szC (szP (bl w l))))):=by
 obtain⟨hl,hs,ho,hc,hg⟩:=h
 refine ah rfl aPn az1 rfl ?_
 simp -implicitDefEqProofs(maxSteps:=9^9)only[Tryz.f140,↓zA,sevalprocAttr,as3,ho]
 refine bX l.length (fun k s=>∃ a,s.fr 1=.of (.fn g cp)∧s.fr 4=.ptr 0 0∧s.fr 5=.ptr 1 0∧s.fr 8=.of (slC fmC l)∧s.fr 9=aU l.length∧s.fr 10=aU k∧s.objs=[.var 80 [aU 0,aU 0],.var 80 [.of (ci ((a:Nat×Nat).1:Int)),.of (ci (a.2:Int))]]∧bx a (bl w (l.drop k))=bl w l) ?_ ?_
 .refine⟨(0,0),?_⟩
  simp -implicitDefEqProofs(maxSteps:=9^9)only[Tryz.f140,↓zA,sevalprocAttr,as3,ac2]
  try exact rfl
 .rintro k s hk ⟨a,f1,f4,f5,f8,f9,f10,hob,E⟩
  have ea:szC (szP a)=[ci (a.1:Int),ci (a.2:Int)]:=rfl
  rcases ap k l.length with c1|c1
  .have hw:=cF k (by omega)
   have hx:=fun K=>aN.k (hg l[k] (ay c1)) K
   rw[cN c1,acY,← aaO] at E
   have hb:a.1+(w l[k]).1≤4611686018427387903:=by have:=congrArg Prod.fst E;simp only[ake] at this;omega
   have eb:szC (szP (bx a (w l[k])))=[ci ((bx a (w l[k])).1:Int),ci ((bx a (w l[k])).2:Int)]:=rfl
   simp -implicitDefEqProofs(maxSteps:=9^9)only[Tryz.f140,↓zA,sevalprocAttr,as3,f1,f4,f5,f8,f9,f10,hob,ho,hc,aK,c1,bq c1,hw,hx,← ea,aho,hb,eb]
   exact⟨_,rfl,E⟩
  .have e:k=l.length:=by omega
   subst e
   rw[aw,bl,iP] at E
   subst E
   simp -implicitDefEqProofs(maxSteps:=9^9)only[Tryz.f140,↓zA,sevalprocAttr,as3,f1,f4,f5,f8,f9,f10,hob,aK,au,ea]
def aFt (l:List Fm) (w:Fm→Nat×Nat) (g:Nat) (cp:List C) (h:l.length≤4611686018427387903∧(bl w l).1≤4611686018427387903∧FnS (fun x=>.agg (fmC x)) g cp w l) (K:An→Prop):bp Tryz.prog pr 140 [.of (slC fmC l),.of (.fn g cp)] [] K↔K ⟨false,[.of (.agg (szC (szP (bl w l))))],[]⟩:=aN.k (atU l w g cp h) K
def a01:=ai (ai @zq (ai @ah6 @aep)) (ai (ai @a0w @zT0) (ai @azr (ba aON)))
def aoP (x:Cd) (b:Bool) (g:Nat) (cp:List C) (ho:bh g=false) (hc:ak Tryz.prog g=true) (hg:G1 g (.of (.agg (cdC x))::cp.map .of) (aG b)):G1 180 [.of (.agg (cdC x)),.of (.ref [.fn g cp])] (aG (!b)):=by
 refine ah rfl aON azr rfl ?_
 have hx:=fun K=>aN.k hg K
 simp -implicitDefEqProofs(maxSteps:=9^9)only[Tryz.f180,↓zA,sevalprocAttr,a01,ho,hc,hx]
def aCb:=ai (ai (ai @zq (ai @agC @a0k)) (ai @aVN (ai @aSP @aep))) (ai (ai @acl (ai @aGt @aBd)) (ai (ai @a0w @zT0) (ai @aAA (ba aPW))))
def aql (l:List Cd) (a b:Int) (p:Cd→Bool) (g:Nat) (cp:List C) (h:l.length≤4611686018427387903∧FnB (fun x=>.agg (cdC x)) g cp p l):G1 104 [.of (slC cdC l),.of (ci a),.of (ci b),.of (.fn g cp)] (aG (bu l a b p)):=by
 have hF:l.length≤4611686018427387903∧FnB (fun x=>.agg (cdC x)) 180 [.ref [.fn g cp]] (fun x=>!p x) l:=⟨h.1,aGt,aBd,fun x hx=>aoP x (p x) g cp h.2.1 h.2.2.1 (h.2.2.2 x hx)⟩
 have hk:=fun K=>aFb l (fun x=>!p x) 180 [.ref [.fn g cp]] hF K
 refine ah rfl aPW aAA rfl ?_
 by_cases c1:a≤(l.length:Int)
 .by_cases c2:(l.length:Int)≤b
  .simp -implicitDefEqProofs(maxSteps:=9^9)only[Tryz.f104,↓zA,sevalprocAttr,aCb,c1,c2,hk,h.2.1,bu,adK,dU,bG,aX]
  .simp -implicitDefEqProofs(maxSteps:=9^9)only[Tryz.f104,↓zA,sevalprocAttr,aCb,c1,c2,bu,bG,bE,aX,aZ]
 .simp -implicitDefEqProofs(maxSteps:=9^9)only[Tryz.f104,↓zA,sevalprocAttr,aCb,c1,bu,bE,aZ]
def awG (l:List Cd) (a b:Int) (p:Cd→Bool) (g:Nat) (cp:List C) (h:l.length≤4611686018427387903∧FnB (fun x=>.agg (cdC x)) g cp p l) (K:An→Prop):bp Tryz.prog pr 104 [.of (slC cdC l),.of (ci a),.of (ci b),.of (.fn g cp)] [] K↔K ⟨false,[aG (bu l a b p)],[]⟩:=aN.k (aql l a b p g cp h) K
def a0Z:=ai (ai @zq (ai @ah6 @adN)) (ai (ai @a0v @zT0) (ai @azp (ba aOL)))
def aoN (x:Kd) (b:Bool) (g:Nat) (cp:List C) (ho:bh g=false) (hc:ak Tryz.prog g=true) (hg:G1 g (.of (.agg (kdC x))::cp.map .of) (aG b)):G1 182 [.of (.agg (kdC x)),.of (.ref [.fn g cp])] (aG (!b)):=by
 refine ah rfl aOL azp rfl ?_
 have hx:=fun K=>aN.k hg K
 simp -implicitDefEqProofs(maxSteps:=9^9)only[Tryz.f182,↓zA,sevalprocAttr,a0Z,ho,hc,hx]
def aCa:=ai (ai (ai @zq (ai @agC @a0j)) (ai @aVM (ai @aSO @adN))) (ai (ai @ack (ai @aGs @aBc)) (ai (ai @a0v @zT0) (ai @aAy (ba aPU))))
def aqk (l:List Kd) (a b:Int) (p:Kd→Bool) (g:Nat) (cp:List C) (h:l.length≤4611686018427387903∧FnB (fun x=>.agg (kdC x)) g cp p l):G1 106 [.of (slC kdC l),.of (ci a),.of (ci b),.of (.fn g cp)] (aG (bu l a b p)):=by
 have hF:l.length≤4611686018427387903∧FnB (fun x=>.agg (kdC x)) 182 [.ref [.fn g cp]] (fun x=>!p x) l:=⟨h.1,aGs,aBc,fun x hx=>aoN x (p x) g cp h.2.1 h.2.2.1 (h.2.2.2 x hx)⟩
 have hk:=fun K=>aFa l (fun x=>!p x) 182 [.ref [.fn g cp]] hF K
 refine ah rfl aPU aAy rfl ?_
 by_cases c1:a≤(l.length:Int)
 .by_cases c2:(l.length:Int)≤b
  .simp -implicitDefEqProofs(maxSteps:=9^9)only[Tryz.f106,↓zA,sevalprocAttr,aCa,c1,c2,hk,h.2.1,bu,adK,dU,bG,aX]
  .simp -implicitDefEqProofs(maxSteps:=9^9)only[Tryz.f106,↓zA,sevalprocAttr,aCa,c1,c2,bu,bG,bE,aX,aZ]
 .simp -implicitDefEqProofs(maxSteps:=9^9)only[Tryz.f106,↓zA,sevalprocAttr,aCa,c1,bu,bE,aZ]
def awF (l:List Kd) (a b:Int) (p:Kd→Bool) (g:Nat) (cp:List C) (h:l.length≤4611686018427387903∧FnB (fun x=>.agg (kdC x)) g cp p l) (K:An→Prop):bp Tryz.prog pr 106 [.of (slC kdC l),.of (ci a),.of (ci b),.of (.fn g cp)] [] K↔K ⟨false,[aG (bu l a b p)],[]⟩:=aN.k (aqk l a b p g cp h) K
def a0X:=ai (ai @zq (ai @ah6 @aeo)) (ai (ai @a0u @zT0) (ai @azn (ba aOJ)))
def aoM (x:Rd) (b:Bool) (g:Nat) (cp:List C) (ho:bh g=false) (hc:ak Tryz.prog g=true) (hg:G1 g (.of (.agg (rdC x))::cp.map .of) (aG b)):G1 184 [.of (.agg (rdC x)),.of (.ref [.fn g cp])] (aG (!b)):=by
 refine ah rfl aOJ azn rfl ?_
 have hx:=fun K=>aN.k hg K
 simp -implicitDefEqProofs(maxSteps:=9^9)only[Tryz.f184,↓zA,sevalprocAttr,a0X,ho,hc,hx]
def aB9:=ai (ai (ai @zq (ai @agC @a0i)) (ai @aVL (ai @aSN @aeo))) (ai (ai @ac3 (ai @aGr @aBb)) (ai (ai @a0u @zT0) (ai @aAw (ba aPS))))
def aqh (l:List Rd) (a b:Int) (p:Rd→Bool) (g:Nat) (cp:List C) (h:l.length≤4611686018427387903∧FnB (fun x=>.agg (rdC x)) g cp p l):G1 108 [.of (slC rdC l),.of (ci a),.of (ci b),.of (.fn g cp)] (aG (bu l a b p)):=by
 have hF:l.length≤4611686018427387903∧FnB (fun x=>.agg (rdC x)) 184 [.ref [.fn g cp]] (fun x=>!p x) l:=⟨h.1,aGr,aBb,fun x hx=>aoM x (p x) g cp h.2.1 h.2.2.1 (h.2.2.2 x hx)⟩
 have hk:=fun K=>aE9 l (fun x=>!p x) 184 [.ref [.fn g cp]] hF K
 refine ah rfl aPS aAw rfl ?_
 by_cases c1:a≤(l.length:Int)
 .by_cases c2:(l.length:Int)≤b
  .simp -implicitDefEqProofs(maxSteps:=9^9)only[Tryz.f108,↓zA,sevalprocAttr,aB9,c1,c2,hk,h.2.1,bu,adK,dU,bG,aX]
  .simp -implicitDefEqProofs(maxSteps:=9^9)only[Tryz.f108,↓zA,sevalprocAttr,aB9,c1,c2,bu,bG,bE,aX,aZ]
 .simp -implicitDefEqProofs(maxSteps:=9^9)only[Tryz.f108,↓zA,sevalprocAttr,aB9,c1,bu,bE,aZ]
def awE (l:List Rd) (a b:Int) (p:Rd→Bool) (g:Nat) (cp:List C) (h:l.length≤4611686018427387903∧FnB (fun x=>.agg (rdC x)) g cp p l) (K:An→Prop):bp Tryz.prog pr 108 [.of (slC rdC l),.of (ci a),.of (ci b),.of (.fn g cp)] [] K↔K ⟨false,[aG (bu l a b p)],[]⟩:=aN.k (aqh l a b p g cp h) K
def a0V:=ai (ai @zq (ai @ah6 @cR)) (ai (ai @Q75 @zT0) (ai @azl (ba aOH)))
def asa (x:Xp) (b:Bool) (g:Nat) (cp:List C) (ho:bh g=false) (hc:ak Tryz.prog g=true) (hg:G1 g (.of (.agg (xpC x))::cp.map .of) (aG b)):G1 186 [.of (.agg (xpC x)),.of (.ref [.fn g cp])] (aG (!b)):=by
 refine ah rfl aOH azl rfl ?_
 have hx:=fun K=>aN.k hg K
 simp -implicitDefEqProofs(maxSteps:=9^9)only[Tryz.f186,↓zA,sevalprocAttr,a0V,ho,hc,hx]
def aB7:=ai (ai (ai @zq (ai @agC @T75)) (ai @aVK (ai @aSM @cR))) (ai (ai @ey (ai @aGq @aBa)) (ai (ai @Q75 @zT0) (ai @aAu (ba aPQ))))
def atP (l:List Xp) (a b:Int) (p:Xp→Bool) (g:Nat) (cp:List C) (h:l.length≤4611686018427387903∧FnB (fun x=>.agg (xpC x)) g cp p l):G1 110 [.of (slC xpC l),.of (ci a),.of (ci b),.of (.fn g cp)] (aG (bu l a b p)):=by
 have hF:l.length≤4611686018427387903∧FnB (fun x=>.agg (xpC x)) 186 [.ref [.fn g cp]] (fun x=>!p x) l:=⟨h.1,aGq,aBa,fun x hx=>asa x (p x) g cp h.2.1 h.2.2.1 (h.2.2.2 x hx)⟩
 have hk:=fun K=>aMJ l (fun x=>!p x) 186 [.ref [.fn g cp]] hF K
 refine ah rfl aPQ aAu rfl ?_
 by_cases c1:a≤(l.length:Int)
 .by_cases c2:(l.length:Int)≤b
  .simp -implicitDefEqProofs(maxSteps:=9^9)only[Tryz.f110,↓zA,sevalprocAttr,aB7,c1,c2,hk,h.2.1,bu,adK,dU,bG,aX]
  .simp -implicitDefEqProofs(maxSteps:=9^9)only[Tryz.f110,↓zA,sevalprocAttr,aB7,c1,c2,bu,bG,bE,aX,aZ]
 .simp -implicitDefEqProofs(maxSteps:=9^9)only[Tryz.f110,↓zA,sevalprocAttr,aB7,c1,bu,bE,aZ]
def aFq (l:List Xp) (a b:Int) (p:Xp→Bool) (g:Nat) (cp:List C) (h:l.length≤4611686018427387903∧FnB (fun x=>.agg (xpC x)) g cp p l) (K:An→Prop):bp Tryz.prog pr 110 [.of (slC xpC l),.of (ci a),.of (ci b),.of (.fn g cp)] [] K↔K ⟨false,[aG (bu l a b p)],[]⟩:=aN.k (atP l a b p g cp h) K
def a0T:=ai (ai @zq (ai @ah6 @eY)) (ai (ai @Q72 @zT0) (ai @azi (ba aOE)))
def aqi (x:Qy) (b:Bool) (g:Nat) (cp:List C) (ho:bh g=false) (hc:ak Tryz.prog g=true) (hg:G1 g (.of (.agg (qyC x))::cp.map .of) (aG b)):G1 189 [.of (.agg (qyC x)),.of (.ref [.fn g cp])] (aG (!b)):=by
 refine ah rfl aOE azi rfl ?_
 have hx:=fun K=>aN.k hg K
 simp -implicitDefEqProofs(maxSteps:=9^9)only[Tryz.f189,↓zA,sevalprocAttr,a0T,ho,hc,hx]
def aB6:=ai (ai (ai @zq (ai @agC @T72)) (ai @aVI (ai @aSK @eY))) (ai (ai @eI (ai @aGp @aA9)) (ai (ai @Q72 @zT0) (ai @aAs (ba aPO))))
def ar6 (l:List Qy) (a b:Int) (p:Qy→Bool) (g:Nat) (cp:List C) (h:l.length≤4611686018427387903∧FnB (fun x=>.agg (qyC x)) g cp p l):G1 112 [.of (slC qyC l),.of (ci a),.of (ci b),.of (.fn g cp)] (aG (bu l a b p)):=by
 have hF:l.length≤4611686018427387903∧FnB (fun x=>.agg (qyC x)) 189 [.ref [.fn g cp]] (fun x=>!p x) l:=⟨h.1,aGp,aA9,fun x hx=>aqi x (p x) g cp h.2.1 h.2.2.1 (h.2.2.2 x hx)⟩
 have hk:=fun K=>aJI l (fun x=>!p x) 189 [.ref [.fn g cp]] hF K
 refine ah rfl aPO aAs rfl ?_
 by_cases c1:a≤(l.length:Int)
 .by_cases c2:(l.length:Int)≤b
  .simp -implicitDefEqProofs(maxSteps:=9^9)only[Tryz.f112,↓zA,sevalprocAttr,aB6,c1,c2,hk,h.2.1,bu,adK,dU,bG,aX]
  .simp -implicitDefEqProofs(maxSteps:=9^9)only[Tryz.f112,↓zA,sevalprocAttr,aB6,c1,c2,bu,bG,bE,aX,aZ]
 .simp -implicitDefEqProofs(maxSteps:=9^9)only[Tryz.f112,↓zA,sevalprocAttr,aB6,c1,bu,bE,aZ]
def aCk (l:List Qy) (a b:Int) (p:Qy→Bool) (g:Nat) (cp:List C) (h:l.length≤4611686018427387903∧FnB (fun x=>.agg (qyC x)) g cp p l) (K:An→Prop):bp Tryz.prog pr 112 [.of (slC qyC l),.of (ci a),.of (ci b),.of (.fn g cp)] [] K↔K ⟨false,[aG (bu l a b p)],[]⟩:=aN.k (ar6 l a b p g cp h) K
def a0R:=ai (ai @zq (ai @cR @a0t)) (ai @zT0 (ai @azg (ba aOC)))
def anV (x:(List Xp)) (b:Bool) (g:Nat) (cp:List C) (ho:bh g=false) (hc:ak Tryz.prog g=true) (hg:G1 g (.of (slC xpC x)::cp.map .of) (aG b)):G1 191 [.of (slC xpC x),.of (.ref [.fn g cp])] (aG (!b)):=by
 refine ah rfl aOC azg rfl ?_
 have hx:=fun K=>aN.k hg K
 simp -implicitDefEqProofs(maxSteps:=9^9)only[Tryz.f191,↓zA,sevalprocAttr,a0R,ho,hc,hx]
def aB5:=ai (ai (ai @zq (ai @agC @a0h)) (ai @aVH (ai @aSJ @ie))) (ai (ai @aGo (ai @aA8 @a0t)) (ai @zT0 (ai @aAr (ba aPN))))
def aoO (l:List (List Xp)) (a b:Int) (p:(List Xp)→Bool) (g:Nat) (cp:List C) (h:l.length≤4611686018427387903∧FnB (slC xpC) g cp p l):G1 113 [.of (slC (lsC xpC) l),.of (ci a),.of (ci b),.of (.fn g cp)] (aG (bu l a b p)):=by
 have hF:l.length≤4611686018427387903∧FnB (slC xpC) 191 [.ref [.fn g cp]] (fun x=>!p x) l:=⟨h.1,aGo,aA8,fun x hx=>anV x (p x) g cp h.2.1 h.2.2.1 (h.2.2.2 x hx)⟩
 have hk:=fun K=>ax3 l (fun x=>!p x) 191 [.ref [.fn g cp]] hF K
 refine ah rfl aPN aAr rfl ?_
 by_cases c1:a≤(l.length:Int)
 .by_cases c2:(l.length:Int)≤b
  .simp -implicitDefEqProofs(maxSteps:=9^9)only[Tryz.f113,↓zA,sevalprocAttr,aB5,c1,c2,hk,h.2.1,bu,adK,dU,bG,aX]
  .simp -implicitDefEqProofs(maxSteps:=9^9)only[Tryz.f113,↓zA,sevalprocAttr,aB5,c1,c2,bu,bG,bE,aX,aZ]
 .simp -implicitDefEqProofs(maxSteps:=9^9)only[Tryz.f113,↓zA,sevalprocAttr,aB5,c1,bu,bE,aZ]
def atQ (l:List (List Xp)) (a b:Int) (p:(List Xp)→Bool) (g:Nat) (cp:List C) (h:l.length≤4611686018427387903∧FnB (slC xpC) g cp p l) (K:An→Prop):bp Tryz.prog pr 113 [.of (slC (lsC xpC) l),.of (ci a),.of (ci b),.of (.fn g cp)] [] K↔K ⟨false,[aG (bu l a b p)],[]⟩:=aN.k (aoO l a b p g cp h) K
def a0P:=ai (ai @zq (ai @ah6 @abO)) (ai (ai @a0s @zT0) (ai @aze (ba aOA)))
def aoQ (x:As) (b:Bool) (g:Nat) (cp:List C) (ho:bh g=false) (hc:ak Tryz.prog g=true) (hg:G1 g (.of (.agg (asC x))::cp.map .of) (aG b)):G1 193 [.of (.agg (asC x)),.of (.ref [.fn g cp])] (aG (!b)):=by
 refine ah rfl aOA aze rfl ?_
 have hx:=fun K=>aN.k hg K
 simp -implicitDefEqProofs(maxSteps:=9^9)only[Tryz.f193,↓zA,sevalprocAttr,a0P,ho,hc,hx]
def aB4:=ai (ai (ai @zq (ai @agC @a0g)) (ai @aVG (ai @aSI @abO))) (ai (ai @abP (ai @aGn @aA7)) (ai (ai @a0s @zT0) (ai @aAp (ba aPL))))
def aqm (l:List As) (a b:Int) (p:As→Bool) (g:Nat) (cp:List C) (h:l.length≤4611686018427387903∧FnB (fun x=>.agg (asC x)) g cp p l):G1 115 [.of (slC asC l),.of (ci a),.of (ci b),.of (.fn g cp)] (aG (bu l a b p)):=by
 have hF:l.length≤4611686018427387903∧FnB (fun x=>.agg (asC x)) 193 [.ref [.fn g cp]] (fun x=>!p x) l:=⟨h.1,aGn,aA7,fun x hx=>aoQ x (p x) g cp h.2.1 h.2.2.1 (h.2.2.2 x hx)⟩
 have hk:=fun K=>aFc l (fun x=>!p x) 193 [.ref [.fn g cp]] hF K
 refine ah rfl aPL aAp rfl ?_
 by_cases c1:a≤(l.length:Int)
 .by_cases c2:(l.length:Int)≤b
  .simp -implicitDefEqProofs(maxSteps:=9^9)only[Tryz.f115,↓zA,sevalprocAttr,aB4,c1,c2,hk,h.2.1,bu,adK,dU,bG,aX]
  .simp -implicitDefEqProofs(maxSteps:=9^9)only[Tryz.f115,↓zA,sevalprocAttr,aB4,c1,c2,bu,bG,bE,aX,aZ]
 .simp -implicitDefEqProofs(maxSteps:=9^9)only[Tryz.f115,↓zA,sevalprocAttr,aB4,c1,bu,bE,aZ]
def awH (l:List As) (a b:Int) (p:As→Bool) (g:Nat) (cp:List C) (h:l.length≤4611686018427387903∧FnB (fun x=>.agg (asC x)) g cp p l) (K:An→Prop):bp Tryz.prog pr 115 [.of (slC asC l),.of (ci a),.of (ci b),.of (.fn g cp)] [] K↔K ⟨false,[aG (bu l a b p)],[]⟩:=aN.k (aqm l a b p g cp h) K
def a0F:=ai (ai @zq @a0x) (ai @zT0 (ai @ayE (ba aN0)))
def aoK (x:(List UInt8)) (b:Bool) (g:Nat) (cp:List C) (ho:bh g=false) (hc:ak Tryz.prog g=true) (hg:G1 g (.of (aH (aD x))::cp.map .of) (aG b)):G1 237 [.of (aH (aD x)),.of (.ref [.fn g cp])] (aG (!b)):=by
 refine ah rfl aN0 ayE rfl ?_
 have hx:=fun K=>aN.k hg K
 simp -implicitDefEqProofs(maxSteps:=9^9)only[Tryz.f237,↓zA,sevalprocAttr,a0F,ho,hc,hx]
def aBX:=ai (ai (ai @zq (ai @agC @a0l)) (ai @aVi (ai @aSk @bO))) (ai (ai @aGc (ai @aAW @a0x)) (ai @zT0 (ai @azk (ba aOG))))
def aqg (l:List (List UInt8)) (a b:Int) (p:(List UInt8)→Bool) (g:Nat) (cp:List C) (h:l.length≤4611686018427387903∧FnB (fun x=>aH (aD x)) g cp p l):G1 187 [.of (slC bA l),.of (ci a),.of (ci b),.of (.fn g cp)] (aG (bu l a b p)):=by
 have hF:l.length≤4611686018427387903∧FnB (fun x=>aH (aD x)) 237 [.ref [.fn g cp]] (fun x=>!p x) l:=⟨h.1,aGc,aAW,fun x hx=>aoK x (p x) g cp h.2.1 h.2.2.1 (h.2.2.2 x hx)⟩
 have hk:=fun K=>aE8 l (fun x=>!p x) 237 [.ref [.fn g cp]] hF K
 refine ah rfl aOG azk rfl ?_
 by_cases c1:a≤(l.length:Int)
 .by_cases c2:(l.length:Int)≤b
  .simp -implicitDefEqProofs(maxSteps:=9^9)only[Tryz.f187,↓zA,sevalprocAttr,aBX,c1,c2,hk,h.2.1,bu,adK,dU,bG,aX]
  .simp -implicitDefEqProofs(maxSteps:=9^9)only[Tryz.f187,↓zA,sevalprocAttr,aBX,c1,c2,bu,bG,bE,aX,aZ]
 .simp -implicitDefEqProofs(maxSteps:=9^9)only[Tryz.f187,↓zA,sevalprocAttr,aBX,c1,bu,bE,aZ]
def awD (l:List (List UInt8)) (a b:Int) (p:(List UInt8)→Bool) (g:Nat) (cp:List C) (h:l.length≤4611686018427387903∧FnB (fun x=>aH (aD x)) g cp p l) (K:An→Prop):bp Tryz.prog pr 187 [.of (slC bA l),.of (ci a),.of (ci b),.of (.fn g cp)] [] K↔K ⟨false,[aG (bu l a b p)],[]⟩:=aN.k (aqg l a b p g cp h) K
def a0L:=ai (ai @zq (ai @ah6 @acL)) (ai (ai @a0r @zT0) (ai @ayW (ba aOi)))
def aqj (x:Od) (b:Bool) (g:Nat) (cp:List C) (ho:bh g=false) (hc:ak Tryz.prog g=true) (hg:G1 g (.of (.agg (odC x))::cp.map .of) (aG b)):G1 213 [.of (.agg (odC x)),.of (.ref [.fn g cp])] (aG (!b)):=by
 refine ah rfl aOi ayW rfl ?_
 have hx:=fun K=>aN.k hg K
 simp -implicitDefEqProofs(maxSteps:=9^9)only[Tryz.f213,↓zA,sevalprocAttr,a0L,ho,hc,hx]
def aB2:=ai (ai (ai @zq (ai @agC @a0f)) (ai @aVw (ai @aSy @acL))) (ai (ai @abV (ai @aGi @aA2)) (ai (ai @a0r @zT0) (ai @azY (ba aPk))))
def ar7 (l:List Od) (a b:Int) (p:Od→Bool) (g:Nat) (cp:List C) (h:l.length≤4611686018427387903∧FnB (fun x=>.agg (odC x)) g cp p l):G1 143 [.of (slC odC l),.of (ci a),.of (ci b),.of (.fn g cp)] (aG (bu l a b p)):=by
 have hF:l.length≤4611686018427387903∧FnB (fun x=>.agg (odC x)) 213 [.ref [.fn g cp]] (fun x=>!p x) l:=⟨h.1,aGi,aA2,fun x hx=>aqj x (p x) g cp h.2.1 h.2.2.1 (h.2.2.2 x hx)⟩
 have hk:=fun K=>aJJ l (fun x=>!p x) 213 [.ref [.fn g cp]] hF K
 refine ah rfl aPk azY rfl ?_
 by_cases c1:a≤(l.length:Int)
 .by_cases c2:(l.length:Int)≤b
  .simp -implicitDefEqProofs(maxSteps:=9^9)only[Tryz.f143,↓zA,sevalprocAttr,aB2,c1,c2,hk,h.2.1,bu,adK,dU,bG,aX]
  .simp -implicitDefEqProofs(maxSteps:=9^9)only[Tryz.f143,↓zA,sevalprocAttr,aB2,c1,c2,bu,bG,bE,aX,aZ]
 .simp -implicitDefEqProofs(maxSteps:=9^9)only[Tryz.f143,↓zA,sevalprocAttr,aB2,c1,bu,bE,aZ]
def aCl (l:List Od) (a b:Int) (p:Od→Bool) (g:Nat) (cp:List C) (h:l.length≤4611686018427387903∧FnB (fun x=>.agg (odC x)) g cp p l) (K:An→Prop):bp Tryz.prog pr 143 [.of (slC odC l),.of (ci a),.of (ci b),.of (.fn g cp)] [] K↔K ⟨false,[aG (bu l a b p)],[]⟩:=aN.k (ar7 l a b p g cp h) K
def a0J:=ai (ai @zq (ai @ah6 @abb)) (ai (ai @a0q @zT0) (ai @ayU (ba aOg)))
def ar8 (x:Im) (b:Bool) (g:Nat) (cp:List C) (ho:bh g=false) (hc:ak Tryz.prog g=true) (hg:G1 g (.of (.agg (imC x))::cp.map .of) (aG b)):G1 215 [.of (.agg (imC x)),.of (.ref [.fn g cp])] (aG (!b)):=by
 refine ah rfl aOg ayU rfl ?_
 have hx:=fun K=>aN.k hg K
 simp -implicitDefEqProofs(maxSteps:=9^9)only[Tryz.f215,↓zA,sevalprocAttr,a0J,ho,hc,hx]
def aB1:=ai (ai (ai @zq (ai @agC @a0e)) (ai @aVv (ai @aSx @abb))) (ai (ai @ab7 (ai @aGh @aA1)) (ai (ai @a0q @zT0) (ai @azW (ba aPi))))
def atN (l:List Im) (a b:Int) (p:Im→Bool) (g:Nat) (cp:List C) (h:l.length≤4611686018427387903∧FnB (fun x=>.agg (imC x)) g cp p l):G1 145 [.of (slC imC l),.of (ci a),.of (ci b),.of (.fn g cp)] (aG (bu l a b p)):=by
 have hF:l.length≤4611686018427387903∧FnB (fun x=>.agg (imC x)) 215 [.ref [.fn g cp]] (fun x=>!p x) l:=⟨h.1,aGh,aA1,fun x hx=>ar8 x (p x) g cp h.2.1 h.2.2.1 (h.2.2.2 x hx)⟩
 have hk:=fun K=>aMH l (fun x=>!p x) 215 [.ref [.fn g cp]] hF K
 refine ah rfl aPi azW rfl ?_
 by_cases c1:a≤(l.length:Int)
 .by_cases c2:(l.length:Int)≤b
  .simp -implicitDefEqProofs(maxSteps:=9^9)only[Tryz.f145,↓zA,sevalprocAttr,aB1,c1,c2,hk,h.2.1,bu,adK,dU,bG,aX]
  .simp -implicitDefEqProofs(maxSteps:=9^9)only[Tryz.f145,↓zA,sevalprocAttr,aB1,c1,c2,bu,bG,bE,aX,aZ]
 .simp -implicitDefEqProofs(maxSteps:=9^9)only[Tryz.f145,↓zA,sevalprocAttr,aB1,c1,bu,bE,aZ]
def aFp (l:List Im) (a b:Int) (p:Im→Bool) (g:Nat) (cp:List C) (h:l.length≤4611686018427387903∧FnB (fun x=>.agg (imC x)) g cp p l) (K:An→Prop):bp Tryz.prog pr 145 [.of (slC imC l),.of (ci a),.of (ci b),.of (.fn g cp)] [] K↔K ⟨false,[aG (bu l a b p)],[]⟩:=aN.k (atN l a b p g cp h) K
def a0H:=ai (ai @zq (ai @ah6 @jq)) (ai (ai @a0p @zT0) (ai @ayS (ba aOe)))
def ar9 (x:Fm) (b:Bool) (g:Nat) (cp:List C) (ho:bh g=false) (hc:ak Tryz.prog g=true) (hg:G1 g (.of (.agg (fmC x))::cp.map .of) (aG b)):G1 217 [.of (.agg (fmC x)),.of (.ref [.fn g cp])] (aG (!b)):=by
 refine ah rfl aOe ayS rfl ?_
 have hx:=fun K=>aN.k hg K
 simp -implicitDefEqProofs(maxSteps:=9^9)only[Tryz.f217,↓zA,sevalprocAttr,a0H,ho,hc,hx]
def aB0:=ai (ai (ai @zq (ai @agC @a0d)) (ai @aVu (ai @aSw @jq))) (ai (ai @iU (ai @aGg @aA0)) (ai (ai @a0p @zT0) (ai @azU (ba aPg))))
def atO (l:List Fm) (a b:Int) (p:Fm→Bool) (g:Nat) (cp:List C) (h:l.length≤4611686018427387903∧FnB (fun x=>.agg (fmC x)) g cp p l):G1 147 [.of (slC fmC l),.of (ci a),.of (ci b),.of (.fn g cp)] (aG (bu l a b p)):=by
 have hF:l.length≤4611686018427387903∧FnB (fun x=>.agg (fmC x)) 217 [.ref [.fn g cp]] (fun x=>!p x) l:=⟨h.1,aGg,aA0,fun x hx=>ar9 x (p x) g cp h.2.1 h.2.2.1 (h.2.2.2 x hx)⟩
 have hk:=fun K=>aMI l (fun x=>!p x) 217 [.ref [.fn g cp]] hF K
 refine ah rfl aPg azU rfl ?_
 by_cases c1:a≤(l.length:Int)
 .by_cases c2:(l.length:Int)≤b
  .simp -implicitDefEqProofs(maxSteps:=9^9)only[Tryz.f147,↓zA,sevalprocAttr,aB0,c1,c2,hk,h.2.1,bu,adK,dU,bG,aX]
  .simp -implicitDefEqProofs(maxSteps:=9^9)only[Tryz.f147,↓zA,sevalprocAttr,aB0,c1,c2,bu,bG,bE,aX,aZ]
 .simp -implicitDefEqProofs(maxSteps:=9^9)only[Tryz.f147,↓zA,sevalprocAttr,aB0,c1,bu,bE,aZ]
def arp (l:List Fm) (a b:Int) (p:Fm→Bool) (g:Nat) (cp:List C) (h:l.length≤4611686018427387903∧FnB (fun x=>.agg (fmC x)) g cp p l) (K:An→Prop):bp Tryz.prog pr 147 [.of (slC fmC l),.of (ci a),.of (ci b),.of (.fn g cp)] [] K↔K ⟨false,[aG (bu l a b p)],[]⟩:=aN.k (atO l a b p g cp h) K
end Go.Proofs.YtemdljoideegeaaGreatDoor
namespace Go.Tab
open Go Go.Pe
def aqn (e:Xp):cG e=upN (bx (bl cG e.ks) (bl fR e.sb)):=by cases e;rw[cG,af4,aiY];rfl
def aqo (q:Qy):fR q=upN (bx (bx (bx (bx (bx (bl fR q.ks) (bl aaP q.its)) (bl je q.fr)) (bl cG q.wh)) (bl cG q.gr)) (bl cG q.hv)):=by
 cases q;rw[fR,aiY,arq,alM,af4,af4,af4];rfl
def aqp (i:Im):aaP i=if i.st then (0,0) else cG i.e:=by cases i;rw[aaP];rfl
def aqq (f:Fm):je f=upN (bx (bx (bl fR f.sb) (bl je f.ks)) (bl cG f.on)):=by cases f;rw[je,aiY,alM,af4];rfl
def leW (a:Nat×Nat) (n:Nat):Prop:=a.1≤n∧a.2≤n
theorem aaD {α:Type} (f:α→Nat×Nat) (w:α→Nat):∀ l:List α,(∀ x∈l,leW (f x) (w x))→leW (bl f l) (lsW w l)∧(bl f l).1<lsW w l
 | [],_=>by simp[bl,lsW,leW]
 | x::r,h=>by
  have h1:=h x (by simp)
  have h2:=aaD f w r (fun y hy=>h y (by simp[hy]))
  simp only[leW,bl,bx,lsW,aV,bU] at h1 h2 ⊢
  omega
theorem da {α:Type} (w:α→Nat):∀ l:List α,(∀ x∈l,1≤w x)→l.length<lsW w l
 | [],_=>by simp[lsW]
 | x::r,h=>by
  have h1:=h x (by simp)
  have h2:=da w r (fun y hy=>h y (by simp[hy]))
  simp only[lsW,aV,bU,aB] at h2 ⊢
  omega
def aaw (x:Xp):1≤xpW x:=by rw[aaU];omega
def adu (x:Qy):1≤qyW x:=by rw[iK];omega
def adw (x:Im):1≤imW x:=by rw[aci];omega
def abk (x:Fm):1≤fmW x:=by rw[jg];omega
theorem agQ:∀ n,(∀ e,xpW e≤n→leW (cG e) (xpW e))∧(∀ e,qyW e≤n→leW (fR e) (qyW e))∧(∀ e,imW e≤n→leW (aaP e) (imW e))∧(∀ e,fmW e≤n→leW (je e) (fmW e))
 | 0=>⟨fun e h=>by have:=aaw e;omega,fun e h=>by have:=adu e;omega,fun e h=>by have:=adw e;omega,fun e h=>by have:=abk e;omega⟩
 | n+1=>by
  obtain⟨i1,i2,i3,i4⟩:=agQ n
  have sX:∀ l:List Xp,lsW xpW l≤n+1→leW (bl cG l) (lsW xpW l):=fun l h=>(aaD _ _ l fun x hx=>i1 x (by have:=bQ (w:=xpW) hx;omega)).1
  have sQ:∀ l:List Qy,lsW qyW l≤n+1→leW (bl fR l) (lsW qyW l):=fun l h=>(aaD _ _ l fun x hx=>i2 x (by have:=bQ (w:=qyW) hx;omega)).1
  have sI:∀ l:List Im,lsW imW l≤n+1→leW (bl aaP l) (lsW imW l):=fun l h=>(aaD _ _ l fun x hx=>i3 x (by have:=bQ (w:=imW) hx;omega)).1
  have sF:∀ l:List Fm,lsW fmW l≤n+1→leW (bl je l) (lsW fmW l):=fun l h=>(aaD _ _ l fun x hx=>i4 x (by have:=bQ (w:=fmW) hx;omega)).1
  refine⟨fun e h=>?_,fun e h=>?_,fun e h=>?_,fun e h=>?_⟩
  .rw[aaU] at h ⊢
   have h1:=sX e.ks (by omega)
   have h2:=sQ e.sb (by omega)
   rw[aqn]
   simp only[leW,upN,bx] at h1 h2 ⊢
   omega
  .rw[iK] at h ⊢
   have h1:=sQ e.ks (by omega)
   have h2:=sI e.its (by omega)
   have h3:=sF e.fr (by omega)
   have h4:=sX e.wh (by omega)
   have h5:=sX e.gr (by omega)
   have h6:=sX e.hv (by omega)
   rw[aqo]
   simp only[leW,upN,bx] at h1 h2 h3 h4 h5 h6 ⊢
   omega
  .rw[aci] at h ⊢
   have h1:=i1 e.e (by omega)
   rw[aqp]
   simp only[leW] at h1 ⊢
   split
   .simp
   .omega
  .rw[jg] at h ⊢
   have h1:=sQ e.sb (by omega)
   have h2:=sF e.ks (by omega)
   have h3:=sX e.on (by omega)
   rw[aqq]
   simp only[leW,upN,bx] at h1 h2 h3 ⊢
   omega
end Go.Tab
namespace Go.Proofs.YtemdljoideegeaaGreatDoor
open Go Go.Pe Go.Tab
abbrev sX (e:Xp):X:=.of (.agg (szC (szP (cG e))))
def amz (l:List Xp):Prop:=∀ x∈l,G1 77 [.of (.agg (xpC x))] (.of (.agg (szC (szP (cG x)))))
def arb (l:List Qy):Prop:=∀ x∈l,G1 61 [.of (.agg (qyC x))] (.of (.agg (szC (szP (fR x)))))
def aMn (l:List Im):Prop:=∀ x∈l,G1 139 [.of (.agg (imC x))] (.of (.agg (szC (szP (aaP x)))))
def aEM (l:List Fm):Prop:=∀ x∈l,G1 141 [.of (.agg (fmC x))] (.of (.agg (szC (szP (je x)))))
abbrev WL:Nat:=1152921504606846976
def alN {l:List Xp} (h:amz l) (hw:lsW xpW l≤WL) (K:An→Prop):bp Tryz.prog pr 98 [.of (slC xpC l),.of (.fn 77 [])] [] K↔K ⟨false,[.of (.agg (szC (szP (bl cG l))))],[]⟩:=by
 have h1:=da xpW l fun x _=>aaw x
 have h2:=aaD cG xpW l fun x _=>(agQ _).1 x (aM _)
 simp only[leW,WL] at *
 exact aFu l cG _ [] ⟨by omega,by omega,ah4,agM,h⟩ K
def aCn {l:List Qy} (h:arb l) (hw:lsW qyW l≤WL) (K:An→Prop):bp Tryz.prog pr 102 [.of (slC qyC l),.of (.fn 61 [])] [] K↔K ⟨false,[.of (.agg (szC (szP (bl fR l))))],[]⟩:=by
 have h1:=da qyW l fun x _=>adu x
 have h2:=aaD fR qyW l fun x _=>(agQ _).2.1 x (aM _)
 simp only[leW,WL] at *
 exact aCm l fR _ [] ⟨by omega,by omega,am3,aj7,h⟩ K
def a5z {l:List Im} (h:aMn l) (hw:lsW imW l≤WL) (K:An→Prop):bp Tryz.prog pr 138 [.of (slC imC l),.of (.fn 139 [])] [] K↔K ⟨false,[.of (.agg (szC (szP (bl aaP l))))],[]⟩:=by
 have h1:=da imW l fun x _=>adw x
 have h2:=aaD aaP imW l fun x _=>(agQ _).2.2.1 x (aM _)
 simp only[leW,WL] at *
 exact aFs l aaP _ [] ⟨by omega,by omega,aGL,aBv,h⟩ K
def aUc {l:List Fm} (h:aEM l) (hw:lsW fmW l≤WL) (K:An→Prop):bp Tryz.prog pr 140 [.of (slC fmC l),.of (.fn 141 [])] [] K↔K ⟨false,[.of (.agg (szC (szP (bl je l))))],[]⟩:=by
 have h1:=da fmW l fun x _=>abk x
 have h2:=aaD je fmW l fun x _=>(agQ _).2.2.2 x (aM _)
 simp only[leW,WL] at *
 exact aFt l je _ [] ⟨by omega,by omega,auO,aq2,h⟩ K
def sbX (l:List Xp):leW (bl cG l) (lsW xpW l):=(aaD cG xpW l fun x _=>(agQ _).1 x (aM _)).1
def sbQ (l:List Qy):leW (bl fR l) (lsW qyW l):=(aaD fR qyW l fun x _=>(agQ _).2.1 x (aM _)).1
def sbI (l:List Im):leW (bl aaP l) (lsW imW l):=(aaD aaP imW l fun x _=>(agQ _).2.2.1 x (aM _)).1
def sbF (l:List Fm):leW (bl je l) (lsW fmW l):=(aaD je fmW l fun x _=>(agQ _).2.2.2 x (aM _)).1
def a48:=ai (ai (ai (ai @zq @a3H) (ai @a3G (ai @apd @amq))) (ai (ai @apn @anq) (ai @afw (ai @aeh @auN)))) (ai (ai (ai @aq1 @cR) (ai @adt (ai @eY @ah4))) (ai (ai @agM (ai @am3 @aj7)) (ai @zT0 (ai @aHG (ba aX2)))))
def ash (e:Xp) (hw:xpW e≤WL) (i1:amz e.ks) (i2:arb e.sb):G1 77 [.of (.agg (xpC e))] (.of (.agg (szC (szP (cG e))))):=by
 rw[aaU] at hw
 simp only[WL] at hw
 have k1:=alN i1 (by simp only[WL];omega)
 have k2:=aCn i2 (by simp only[WL];omega)
 have b1:=sbX e.ks
 have b2:=sbQ e.sb
 simp only[leW] at b1 b2
 have h1:(bl cG e.ks).1+(bl fR e.sb).1≤4611686018427387903:=by omega
 have h2:(bx (bl cG e.ks) (bl fR e.sb)).1≤4611686018427387903∧(bx (bl cG e.ks) (bl fR e.sb)).2≤4611686018427387903:=by simp only[bx];omega
 rw[aqn]
 refine ah rfl aX2 aHG rfl ?_
 simp -implicitDefEqProofs(maxSteps:=9^9)only[Tryz.f77,↓zA,sevalprocAttr,a48,k1,k2,aho,h1,aJY,h2]
def aMS:=ai (ai (ai @zq (ai @a3F @a3E)) (ai @ah4 (ai @agM @cR))) (ai (ai @abb (ai @adt @P4)) (ai (ai @Q4 @zT0) (ai @az2 (ba aPo))))
def asf (e:Im) (i1:G1 77 [.of (.agg (xpC e.e))] (.of (.agg (szC (szP (cG e.e)))))):G1 139 [.of (.agg (imC e))] (.of (.agg (szC (szP (aaP e))))):=by
 have k1:=fun K=>aN.k i1 K
 have ez:szC (szP (0,0))=[ci 0,ci 0]:=rfl
 rw[aqp]
 refine ah rfl aPo az2 rfl ?_
 cases c:e.st
 .simp -implicitDefEqProofs(maxSteps:=9^9)only[Tryz.f139,↓zA,sevalprocAttr,aMS,c,k1]
 .simp -implicitDefEqProofs(maxSteps:=9^9)only[Tryz.f139,↓zA,sevalprocAttr,aMS,c,ez]
def a1e:=ai (ai (ai (ai @zq (ai @a3D @a3C)) (ai @apn (ai @anq @aGK))) (ai (ai @aBu (ai @afw @aeh)) (ai (ai @apd @amq) (ai @auN @aq1)))) (ai (ai (ai @jq (ai @adt @eY)) (ai @cR (ai @am3 @aj7))) (ai (ai @auO (ai @aq2 @ah4)) (ai (ai @agM @zT0) (ai @az0 (ba aPm)))))
def asg (e:Fm) (hw:fmW e≤WL) (i1:arb e.sb) (i2:aEM e.ks) (i3:amz e.on):G1 141 [.of (.agg (fmC e))] (.of (.agg (szC (szP (je e))))):=by
 rw[jg] at hw
 simp only[WL] at hw
 have k1:=aCn i1 (by simp only[WL];omega)
 have k2:=aUc i2 (by simp only[WL];omega)
 have k3:=alN i3 (by simp only[WL];omega)
 have b1:=sbQ e.sb
 have b2:=sbF e.ks
 have b3:=sbX e.on
 simp only[leW] at b1 b2 b3
 have h1:(bl fR e.sb).1+(bl je e.ks).1≤4611686018427387903:=by omega
 have h2:(bx (bl fR e.sb) (bl je e.ks)).1+(bl cG e.on).1≤4611686018427387903:=by simp only[bx];omega
 have h3:(bx (bx (bl fR e.sb) (bl je e.ks)) (bl cG e.on)).1≤4611686018427387903∧(bx (bx (bl fR e.sb) (bl je e.ks)) (bl cG e.on)).2≤4611686018427387903:=by simp only[bx];omega
 rw[aqq]
 refine ah rfl aPm az0 rfl ?_
 simp -implicitDefEqProofs(maxSteps:=9^9)only[Tryz.f141,↓zA,sevalprocAttr,a1e,k1,k2,k3,aho,h1,h2,aJY,h3]
def a5b:=ai (ai (ai (ai (ai @zq @a3B) (ai @a3A @apn)) (ai (ai @anq @aV3) (ai @aS5 @afw))) (ai (ai (ai @aeh @aGK) (ai @aBu @a3z)) (ai (ai @apd @amq) (ai @auN @aq1)))) (ai (ai (ai (ai @eY @adt) (ai @abb @jq)) (ai (ai @cR @am3) (ai @aj7 @aGL))) (ai (ai (ai @aBv @auO) (ai @aq2 @ah4)) (ai (ai @agM @zT0) (ai @aHT (ba aYf)))))
def aqu (e:Qy) (hw:qyW e≤WL) (i1:arb e.ks) (i2:aMn e.its) (i3:aEM e.fr) (i4:amz e.wh) (i5:amz e.gr) (i6:amz e.hv):G1 61 [.of (.agg (qyC e))] (.of (.agg (szC (szP (fR e))))):=by
 rw[iK] at hw
 simp only[WL] at hw
 have k1:=aCn i1 (by simp only[WL];omega)
 have k2:=a5z i2 (by simp only[WL];omega)
 have k3:=aUc i3 (by simp only[WL];omega)
 have k4:=alN i4 (by simp only[WL];omega)
 have k5:=alN i5 (by simp only[WL];omega)
 have k6:=alN i6 (by simp only[WL];omega)
 have b1:=sbQ e.ks
 have b2:=sbI e.its
 have b3:=sbF e.fr
 have b4:=sbX e.wh
 have b5:=sbX e.gr
 have b6:=sbX e.hv
 simp only[leW] at b1 b2 b3 b4 b5 b6
 rw[aqo]
 generalize bl fR e.ks=a1 at *
 generalize bl aaP e.its=a2 at *
 generalize bl je e.fr=a3 at *
 generalize bl cG e.wh=a4 at *
 generalize bl cG e.gr=a5 at *
 generalize bl cG e.hv=a6 at *
 have h1:a1.1+a2.1≤4611686018427387903:=by omega
 have h2:(bx a1 a2).1+a3.1≤4611686018427387903:=by simp only[bx];omega
 have h3:(bx (bx a1 a2) a3).1+a4.1≤4611686018427387903:=by simp only[bx];omega
 have h4:(bx (bx (bx a1 a2) a3) a4).1+a5.1≤4611686018427387903:=by simp only[bx];omega
 have h5:(bx (bx (bx (bx a1 a2) a3) a4) a5).1+a6.1≤4611686018427387903:=by simp only[bx];omega
 have h6:(bx (bx (bx (bx (bx a1 a2) a3) a4) a5) a6).1≤4611686018427387903∧(bx (bx (bx (bx (bx a1 a2) a3) a4) a5) a6).2≤4611686018427387903:=by simp only[bx];omega
 refine ah rfl aYf aHT rfl ?_
 simp -implicitDefEqProofs(maxSteps:=9^9)only[Tryz.f61,↓zA,sevalprocAttr,a5b,k1,k2,k3,k4,k5,k6,aho,h1,h2,h3,h4,h5,aJY,h6]
theorem agS:∀ n,n≤WL→(∀ e,xpW e≤n→G1 77 [.of (.agg (xpC e))] (.of (.agg (szC (szP (cG e))))))∧(∀ e,qyW e≤n→G1 61 [.of (.agg (qyC e))] (.of (.agg (szC (szP (fR e))))))
  ∧ (∀ e,imW e≤n→G1 139 [.of (.agg (imC e))] (.of (.agg (szC (szP (aaP e))))))∧(∀ e,fmW e≤n→G1 141 [.of (.agg (fmC e))] (.of (.agg (szC (szP (je e))))))
 | 0,_=>⟨fun e h=>by have:=aaw e;omega,fun e h=>by have:=adu e;omega,fun e h=>by have:=adw e;omega,fun e h=>by have:=abk e;omega⟩
 | n+1,hn=>by
  obtain⟨i1,i2,i3,i4⟩:=agS n (by omega)
  have sX:∀ l:List Xp,lsW xpW l≤n+1→amz l:=fun l h x hx=>i1 x (by have:=bQ (w:=xpW) hx;omega)
  have sQ:∀ l:List Qy,lsW qyW l≤n+1→arb l:=fun l h x hx=>i2 x (by have:=bQ (w:=qyW) hx;omega)
  have sI:∀ l:List Im,lsW imW l≤n+1→aMn l:=fun l h x hx=>i3 x (by have:=bQ (w:=imW) hx;omega)
  have sF:∀ l:List Fm,lsW fmW l≤n+1→aEM l:=fun l h x hx=>i4 x (by have:=bQ (w:=fmW) hx;omega)
  refine⟨fun e h=>?_,fun e h=>?_,fun e h=>?_,fun e h=>?_⟩
  .have h':=aaU e
   exact ash e (by omega) (sX _ (by omega)) (sQ _ (by omega))
  .have h':=iK e
   exact aqu e (by omega) (sQ _ (by omega)) (sI _ (by omega)) (sF _ (by omega)) (sX _ (by omega)) (sX _ (by omega)) (sX _ (by omega))
  .have h':=aci e
   exact asf e (i1 _ (by omega))
  .have h':=jg e
   exact asg e (by omega) (sQ _ (by omega)) (sF _ (by omega)) (sX _ (by omega))
def awm (l:List Xp) (h:lsW xpW l≤WL):amz l:=fun x hx=>(agS WL (aM _)).1 x (by have:=bQ (w:=xpW) hx;omega)
def a0m (l:List Qy) (h:lsW qyW l≤WL):arb l:=fun x hx=>(agS WL (aM _)).2.1 x (by have:=bQ (w:=qyW) hx;omega)
def aFr (s:Sm):leW (ahQ s) (smW s):=by
 have b1:=sbX s.chs
 have b2:=(aaD (fun l=>bl cG l) (lsW xpW) s.rws fun x _=>sbX x).1
 have b3:=(aaD (fun a:As=>cG a.e) asW s.sts fun x _=>by have:=(agQ _).1 x.e (aM _);simp only[leW,asW] at this ⊢;omega).1
 have b4:=sbX s.wh
 have b5:=sbQ s.q
 simp only[leW,ahQ,bx,smW] at *
 omega
def a4Z:=ai (ai (ai @zq @a3w) (ai @apd (ai @amq @adt))) (ai (ai @cR (ai @ah4 @agM)) (ai @zT0 (ai @aHn (ba aXJ))))
def at5 (l:List Xp) (h:lsW xpW l≤WL):G1 97 [.of (slC xpC l)] (.of (.agg (szC (szP (bl cG l))))):=by
 refine ah rfl aXJ aHn rfl ?_
 simp -implicitDefEqProofs(maxSteps:=9^9)only[Tryz.f97,↓zA,sevalprocAttr,a4Z,alN (awm l h) h]
def a1o:=ai (ai (ai @zq @a3u) (ai @a3t (ai @ah4 @agM))) (ai (ai @cR (ai @abO @adt)) (ai @zT0 (ai @aAE (ba aP0))))
def awP (a:As) (h:asW a≤WL):G1 100 [.of (.agg (asC a))] (.of (.agg (szC (szP (cG a.e))))):=by
 have k1:=fun K=>aN.k ((agS WL (aM _)).1 a.e (by simp only[asW] at h;omega)) K
 refine ah rfl aP0 aAE rfl ?_
 simp -implicitDefEqProofs(maxSteps:=9^9)only[Tryz.f100,↓zA,sevalprocAttr,a1o,k1]
def a5y {l:List (List Xp)} (hw:lsW (lsW xpW) l≤WL) (K:An→Prop):bp Tryz.prog pr 96 [.of (slC (lsC xpC) l),.of (.fn 97 [])] [] K↔K ⟨false,[.of (.agg (szC (szP (bl (fun l=>bl cG l) l))))],[]⟩:=by
 have h1:=da (lsW xpW) l fun x _=>by simp[lsW]
 have h2:=aaD (fun l=>bl cG l) (lsW xpW) l fun x _=>sbX x
 simp only[leW,WL] at *
 exact atW l (fun l=>bl cG l) _ [] ⟨by omega,by omega,aNe,aI4,fun x hx=>at5 x (by have:=bQ (w:=lsW xpW) hx;simp only[WL];omega)⟩ K
def a5A {l:List As} (hw:lsW asW l≤WL) (K:An→Prop):bp Tryz.prog pr 99 [.of (slC asC l),.of (.fn 100 [])] [] K↔K ⟨false,[.of (.agg (szC (szP (bl (fun a:As=>cG a.e) l))))],[]⟩:=by
 have h1:=da asW l fun x _=>by simp[asW]
 have h2:=(aaD (fun a:As=>cG a.e) asW l fun x _=>by have:=(agQ _).1 x.e (aM _);simp only[leW,asW] at this ⊢;omega)
 simp only[leW,WL] at *
 exact awI l (fun a:As=>cG a.e) _ [] ⟨by omega,by omega,aGT,aBD,fun x hx=>awP x (by have:=bQ (w:=asW) hx;simp only[WL];omega)⟩ K
def a5h:=ai (ai (ai (ai (ai @zq @a3y) (ai @a3x @a2j)) (ai (ai @aZm @a3v) (ai @a2i @aZl))) (ai (ai (ai @a3s @apd) (ai @amq @afw)) (ai (ai @aeh @apn) (ai @anq @aba)))) (ai (ai (ai (ai @adt @abO) (ai @cR @eY)) (ai (ai @ie @aNe) (ai @aI4 @aGT))) (ai (ai (ai @aBD @ah4) (ai @agM @am3)) (ai (ai @aj7 @zT0) (ai @aId (ba aYz)))))
def ase (e:Sm) (hw:smW e≤WL):G1 32 [.of (.agg (smC e))] (.of (.agg (szC (szP (ahQ e))))):=by
 have b0:=aFr e
 simp only[WL,smW] at hw
 have k1:=alN (l:=e.chs) (awm _ (by simp only[WL];omega)) (by simp only[WL];omega)
 have k2:=a5y (l:=e.rws) (by simp only[WL];omega)
 have k3:=a5A (l:=e.sts) (by simp only[WL];omega)
 have k4:=alN (l:=e.wh) (awm _ (by simp only[WL];omega)) (by simp only[WL];omega)
 have k5:=aCn (l:=e.q) (a0m _ (by simp only[WL];omega)) (by simp only[WL];omega)
 have b1:=sbX e.chs
 have b2:=(aaD (fun l=>bl cG l) (lsW xpW) e.rws fun x _=>sbX x).1
 have b3:=(aaD (fun a:As=>cG a.e) asW e.sts fun x _=>by have:=(agQ _).1 x.e (aM _);simp only[leW,asW] at this ⊢;omega).1
 have b4:=sbX e.wh
 have b5:=sbQ e.q
 simp only[leW] at b1 b2 b3 b4 b5
 rw[ahQ]
 generalize bl cG e.chs=a1 at *
 generalize bl (fun l=>bl cG l) e.rws=a2 at *
 generalize bl (fun a:As=>cG a.e) e.sts=a3 at *
 generalize bl cG e.wh=a4 at *
 generalize bl fR e.q=a5 at *
 have h1:a1.1+a2.1≤4611686018427387903:=by omega
 have h2:(bx a1 a2).1+a3.1≤4611686018427387903:=by simp only[bx];omega
 have h3:(bx (bx a1 a2) a3).1+a4.1≤4611686018427387903:=by simp only[bx];omega
 have h4:(bx (bx (bx a1 a2) a3) a4).1+a5.1≤4611686018427387903:=by simp only[bx];omega
 refine ah rfl aYz aId rfl ?_
 simp -implicitDefEqProofs(maxSteps:=9^9)only[Tryz.f32,↓zA,sevalprocAttr,a5h,k1,k2,k3,k4,k5,aho,h1,h2,h3,h4]
end Go.Proofs.YtemdljoideegeaaGreatDoor

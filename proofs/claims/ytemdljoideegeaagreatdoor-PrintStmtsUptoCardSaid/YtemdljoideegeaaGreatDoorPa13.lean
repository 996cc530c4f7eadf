/-
  Chapter 9: how big an expression, a query, a statement is, as the program tells it. Conditions: none.
-/
import Derived.Test.YtemdljoideegeaaGreatDoorPa12
set_option linter.defProp false
set_option linter.unusedSectionVars false
set_option maxRecDepth 100000
set_option maxHeartbeats 64000000
namespace Go.Proofs.YtemdljoideegeaaGreatDoor
open Go Go.Pe Go.Tab
def a0Y:=ai (ai @zq (ai @aVl @aSn)) (ai (ai @cQ @zT0) (ai @azo (ba aOK)))
def ax4 (l:List Xp) (p:Xp→Bool) (g:Nat) (cp:List C) (h:l.length≤4611686018427387903∧FnB (fun x=>.agg (xpC x)) g cp p l):G1 185 [.of (slC xpC l),.of (.fn g cp)] (aG (l.any p)):=by
 refine ah rfl aOK azo rfl ?_
 rw[← acd]
 simp -implicitDefEqProofs(maxSteps:=9^9)only[Tryz.f185,↓zA,sevalprocAttr,a0Y,h.2.1,aMB l p g cp h]
def aML (l:List Xp) (p:Xp→Bool) (g:Nat) (cp:List C) (h:l.length≤4611686018427387903∧FnB (fun x=>.agg (xpC x)) g cp p l) (K:An→Prop):bp Tryz.prog pr 185 [.of (slC xpC l),.of (.fn g cp)] [] K↔K ⟨false,[aG (l.any p)],[]⟩:=aN.k (ax4 l p g cp h) K
def a00:=ai (ai @zq (ai @aVm @aSo)) (ai (ai @aer @zT0) (ai @azq (ba aOM)))
def asQ (l:List Rd) (p:Rd→Bool) (g:Nat) (cp:List C) (h:l.length≤4611686018427387903∧FnB (fun x=>.agg (rdC x)) g cp p l):G1 183 [.of (slC rdC l),.of (.fn g cp)] (aG (l.any p)):=by
 refine ah rfl aOM azq rfl ?_
 rw[← acd]
 simp -implicitDefEqProofs(maxSteps:=9^9)only[Tryz.f183,↓zA,sevalprocAttr,a00,h.2.1,aEY l p g cp h]
def aFb (l:List Rd) (p:Rd→Bool) (g:Nat) (cp:List C) (h:l.length≤4611686018427387903∧FnB (fun x=>.agg (rdC x)) g cp p l) (K:An→Prop):bp Tryz.prog pr 183 [.of (slC rdC l),.of (.fn g cp)] [] K↔K ⟨false,[aG (l.any p)],[]⟩:=aN.k (asQ l p g cp h) K
def a04:=ai (ai @zq (ai @aVo @aSq)) (ai (ai @aes @zT0) (ai @azu (ba aOQ)))
def asS (l:List Cd) (p:Cd→Bool) (g:Nat) (cp:List C) (h:l.length≤4611686018427387903∧FnB (fun x=>.agg (cdC x)) g cp p l):G1 179 [.of (slC cdC l),.of (.fn g cp)] (aG (l.any p)):=by
 refine ah rfl aOQ azu rfl ?_
 rw[← acd]
 simp -implicitDefEqProofs(maxSteps:=9^9)only[Tryz.f179,↓zA,sevalprocAttr,a04,h.2.1,aE0 l p g cp h]
def aFd (l:List Cd) (p:Cd→Bool) (g:Nat) (cp:List C) (h:l.length≤4611686018427387903∧FnB (fun x=>.agg (cdC x)) g cp p l) (K:An→Prop):bp Tryz.prog pr 179 [.of (slC cdC l),.of (.fn g cp)] [] K↔K ⟨false,[aG (l.any p)],[]⟩:=aN.k (asS l p g cp h) K
def a02:=ai (ai @zq (ai @aVn @aSp)) (ai (ai @adQ @zT0) (ai @azs (ba aOO)))
def asR (l:List Kd) (p:Kd→Bool) (g:Nat) (cp:List C) (h:l.length≤4611686018427387903∧FnB (fun x=>.agg (kdC x)) g cp p l):G1 181 [.of (slC kdC l),.of (.fn g cp)] (aG (l.any p)):=by
 refine ah rfl aOO azs rfl ?_
 rw[← acd]
 simp -implicitDefEqProofs(maxSteps:=9^9)only[Tryz.f181,↓zA,sevalprocAttr,a02,h.2.1,aEZ l p g cp h]
def aFc (l:List Kd) (p:Kd→Bool) (g:Nat) (cp:List C) (h:l.length≤4611686018427387903∧FnB (fun x=>.agg (kdC x)) g cp p l) (K:An→Prop):bp Tryz.prog pr 181 [.of (slC kdC l),.of (.fn g cp)] [] K↔K ⟨false,[aG (l.any p)],[]⟩:=aN.k (asR l p g cp h) K
def a0W:=ai (ai @zq (ai @aVj @aSl)) (ai (ai @eu @zT0) (ai @azl (ba aOH)))
def awz (l:List Qy) (p:Qy→Bool) (g:Nat) (cp:List C) (h:l.length≤4611686018427387903∧FnB (fun x=>.agg (qyC x)) g cp p l):G1 188 [.of (slC qyC l),.of (.fn g cp)] (aG (l.any p)):=by
 refine ah rfl aOH azl rfl ?_
 rw[← acd]
 simp -implicitDefEqProofs(maxSteps:=9^9)only[Tryz.f188,↓zA,sevalprocAttr,a0W,h.2.1,aJD l p g cp h]
def aJK (l:List Qy) (p:Qy→Bool) (g:Nat) (cp:List C) (h:l.length≤4611686018427387903∧FnB (fun x=>.agg (qyC x)) g cp p l) (K:An→Prop):bp Tryz.prog pr 188 [.of (slC qyC l),.of (.fn g cp)] [] K↔K ⟨false,[aG (l.any p)],[]⟩:=aN.k (awz l p g cp h) K
def a0U:=ai (ai @zq (ai @aVi @aSk)) (ai @zT0 (ai @azj (ba aOF)))
def arm (l:List (List Xp)) (p:(List Xp)→Bool) (g:Nat) (cp:List C) (h:l.length≤4611686018427387903∧FnB (slC xpC) g cp p l):G1 190 [.of (slC (lsC xpC) l),.of (.fn g cp)] (aG (l.any p)):=by
 refine ah rfl aOF azj rfl ?_
 rw[← acd]
 simp -implicitDefEqProofs(maxSteps:=9^9)only[Tryz.f190,↓zA,sevalprocAttr,a0U,h.2.1,axX l p g cp h]
def ax5 (l:List (List Xp)) (p:(List Xp)→Bool) (g:Nat) (cp:List C) (h:l.length≤4611686018427387903∧FnB (slC xpC) g cp p l) (K:An→Prop):bp Tryz.prog pr 190 [.of (slC (lsC xpC) l),.of (.fn g cp)] [] K↔K ⟨false,[aG (l.any p)],[]⟩:=aN.k (arm l p g cp h) K
def a0S:=ai (ai @zq (ai @aVh @aSj)) (ai (ai @abQ @zT0) (ai @azh (ba aOD)))
def asU (l:List As) (p:As→Bool) (g:Nat) (cp:List C) (h:l.length≤4611686018427387903∧FnB (fun x=>.agg (asC x)) g cp p l):G1 192 [.of (slC asC l),.of (.fn g cp)] (aG (l.any p)):=by
 refine ah rfl aOD azh rfl ?_
 rw[← acd]
 simp -implicitDefEqProofs(maxSteps:=9^9)only[Tryz.f192,↓zA,sevalprocAttr,a0S,h.2.1,aE1 l p g cp h]
def aFe (l:List As) (p:As→Bool) (g:Nat) (cp:List C) (h:l.length≤4611686018427387903∧FnB (fun x=>.agg (asC x)) g cp p l) (K:An→Prop):bp Tryz.prog pr 192 [.of (slC asC l),.of (.fn g cp)] [] K↔K ⟨false,[aG (l.any p)],[]⟩:=aN.k (asU l p g cp h) K
def a0I:=ai (ai @zq (ai @aU4 @aR6)) (ai @zT0 (ai @ayH (ba aN3)))
def asP (l:List (List UInt8)) (p:(List UInt8)→Bool) (g:Nat) (cp:List C) (h:l.length≤4611686018427387903∧FnB (fun x=>aH (aD x)) g cp p l):G1 236 [.of (slC bA l),.of (.fn g cp)] (aG (l.any p)):=by
 refine ah rfl aN3 ayH rfl ?_
 rw[← acd]
 simp -implicitDefEqProofs(maxSteps:=9^9)only[Tryz.f236,↓zA,sevalprocAttr,a0I,h.2.1,aEX l p g cp h]
def aFa (l:List (List UInt8)) (p:(List UInt8)→Bool) (g:Nat) (cp:List C) (h:l.length≤4611686018427387903∧FnB (fun x=>aH (aD x)) g cp p l) (K:An→Prop):bp Tryz.prog pr 236 [.of (slC bA l),.of (.fn g cp)] [] K↔K ⟨false,[aG (l.any p)],[]⟩:=aN.k (asP l p g cp h) K
def a0O:=ai (ai @zq (ai @aVb @aSd)) (ai (ai @acN @zT0) (ai @ayZ (ba aOl)))
def awA (l:List Od) (p:Od→Bool) (g:Nat) (cp:List C) (h:l.length≤4611686018427387903∧FnB (fun x=>.agg (odC x)) g cp p l):G1 212 [.of (slC odC l),.of (.fn g cp)] (aG (l.any p)):=by
 refine ah rfl aOl ayZ rfl ?_
 rw[← acd]
 simp -implicitDefEqProofs(maxSteps:=9^9)only[Tryz.f212,↓zA,sevalprocAttr,a0O,h.2.1,aJE l p g cp h]
def aJL (l:List Od) (p:Od→Bool) (g:Nat) (cp:List C) (h:l.length≤4611686018427387903∧FnB (fun x=>.agg (odC x)) g cp p l) (K:An→Prop):bp Tryz.prog pr 212 [.of (slC odC l),.of (.fn g cp)] [] K↔K ⟨false,[aG (l.any p)],[]⟩:=aN.k (awA l p g cp h) K
def a0M:=ai (ai @zq (ai @aVa @aSc)) (ai (ai @abc @zT0) (ai @ayX (ba aOj)))
def ax2 (l:List Im) (p:Im→Bool) (g:Nat) (cp:List C) (h:l.length≤4611686018427387903∧FnB (fun x=>.agg (imC x)) g cp p l):G1 214 [.of (slC imC l),.of (.fn g cp)] (aG (l.any p)):=by
 refine ah rfl aOj ayX rfl ?_
 rw[← acd]
 simp -implicitDefEqProofs(maxSteps:=9^9)only[Tryz.f214,↓zA,sevalprocAttr,a0M,h.2.1,aMz l p g cp h]
def aMJ (l:List Im) (p:Im→Bool) (g:Nat) (cp:List C) (h:l.length≤4611686018427387903∧FnB (fun x=>.agg (imC x)) g cp p l) (K:An→Prop):bp Tryz.prog pr 214 [.of (slC imC l),.of (.fn g cp)] [] K↔K ⟨false,[aG (l.any p)],[]⟩:=aN.k (ax2 l p g cp h) K
def a0K:=ai (ai @zq (ai @aU9 @aSb)) (ai (ai @jl @zT0) (ai @ayV (ba aOh)))
def ax3 (l:List Fm) (p:Fm→Bool) (g:Nat) (cp:List C) (h:l.length≤4611686018427387903∧FnB (fun x=>.agg (fmC x)) g cp p l):G1 216 [.of (slC fmC l),.of (.fn g cp)] (aG (l.any p)):=by
 refine ah rfl aOh ayV rfl ?_
 rw[← acd]
 simp -implicitDefEqProofs(maxSteps:=9^9)only[Tryz.f216,↓zA,sevalprocAttr,a0K,h.2.1,aMA l p g cp h]
def aMK (l:List Fm) (p:Fm→Bool) (g:Nat) (cp:List C) (h:l.length≤4611686018427387903∧FnB (fun x=>.agg (fmC x)) g cp p l) (K:An→Prop):bp Tryz.prog pr 216 [.of (slC fmC l),.of (.fn g cp)] [] K↔K ⟨false,[aG (l.any p)],[]⟩:=aN.k (ax3 l p g cp h) K
def amX:=ai (ai @zq (ai @bN @Q9)) (ai @zT0 (ai @aAj (ba aPF)))
def asD (l:List (List UInt8)) (v:(List UInt8)) (hl:l.length≤4611686018427387903):G1 123 [.of (slC bA l),.of (aH (aD v))] (aU (iX (fun x=>decide (v=x)) l)):=by
 refine ah rfl aPF aAj rfl ?_
 simp -implicitDefEqProofs(maxSteps:=9^9)only[Tryz.f123,↓zA,sevalprocAttr,amX]
 refine bW l.length (fun k s=>s.fr 0=.of (slC bA l)∧s.fr 1=.of (aH (aD v))∧s.fr 7=aU l.length∧s.fr 8=aU k∧s.objs=[]∧iX (fun x=>decide (v=x)) l=ig (fun x=>decide (v=x)) k (l.drop k)) ?_ ?_
 .simp -implicitDefEqProofs(maxSteps:=9^9)only[Tryz.f123,↓zA,sevalprocAttr,amX]
  exact rfl
 .rintro k s hk ⟨f0,f1,f7,f8,hob,E⟩
  rcases ap k l.length with c1|c1
  .have hw:=cE k (by omega)
   rw[cM c1,ig] at E
   simp -implicitDefEqProofs(maxSteps:=9^9)only[Tryz.f123,↓zA,sevalprocAttr,amX,f0,f1,f7,f8,hob,aK,c1,bq c1,hw,bU]
   by_cases c2:v=l[k]
   .simp only[c2,bG,aA] at E
    simp -implicitDefEqProofs(maxSteps:=9^9)only[Tryz.f123,↓zA,sevalprocAttr,amX,c2,E]
   .simp only[c2,bE,aW,aQ] at E
    simp -implicitDefEqProofs(maxSteps:=9^9)only[Tryz.f123,↓zA,sevalprocAttr,amX,c2,E]
  .have e:k=l.length:=by omega
   subst e
   rw[aw,ig] at E
   simp -implicitDefEqProofs(maxSteps:=9^9)only[Tryz.f123,↓zA,sevalprocAttr,amX,f0,f1,f7,f8,hob,aK,au,E]
def aEW (l:List (List UInt8)) (v:(List UInt8)) (hl:l.length≤4611686018427387903) (K:An→Prop):bp Tryz.prog pr 123 [.of (slC bA l),.of (aH (aD v))] [] K↔K ⟨false,[aU (iX (fun x=>decide (v=x)) l)],[]⟩:=aN.k (asD l v hl) K
def a5f:=ai (ai @zq (ai @aWd @aTf)) (ai @zT0 (ai @aH4 (ba aYq)))
def asO (l:List (List UInt8)) (v:(List UInt8)) (hl:l.length≤4611686018427387903):G1 45 [.of (slC bA l),.of (aH (aD v))] (aG (decide (v∈l))):=by
 refine ah rfl aYq aH4 rfl ?_
 rw[← aLu]
 simp -implicitDefEqProofs(maxSteps:=9^9)only[Tryz.f45,↓zA,sevalprocAttr,a5f,aEW l v hl]
def alx (l:List (List UInt8)) (v:(List UInt8)) (K:An→Prop):bp Tryz.prog pr 45 [.of (slC bA l),.of (aH (aD v))] [] K↔ifP (l.length≤4611686018427387903) (K ⟨false,[aG (decide (v∈l))],[]⟩) (abW Tryz.prog pr 45 [.of (slC bA l),.of (aH (aD v))] K):=adG (asO l v) K
def aku:=ai (ai (ai @zq @akZ) (ai @akY @cQ)) (ai (ai @d6 @zT0) (ai @azb (ba aOx)))
def ax0 (l m:List Xp) (q:Xp→Xp→Bool) (g:Nat) (cp:List C) (h:l.length≤4611686018427387903∧afs (fun x=>.agg (xpC x)) g cp q l m):G1 198 [.of (slC xpC l),.of (slC xpC m),.of (.fn g cp)] (aG (eqR q l m)):=by
 obtain⟨hl,ho,hc,hg⟩:=h
 refine ah rfl aOx azb rfl ?_
 by_cases c0:l.length=m.length
 rotate_left
 .rw[aea q l m c0]
  simp -implicitDefEqProofs(maxSteps:=9^9)only[Tryz.f198,↓zA,sevalprocAttr,aku,ho,fK,c0]
 simp -implicitDefEqProofs(maxSteps:=9^9)only[Tryz.f198,↓zA,sevalprocAttr,aku,ho,fK,c0]
 refine bW l.length (fun k s=>s.fr 1=.of (slC xpC m)∧s.fr 2=.of (.fn g cp)∧s.fr 15=.of (slC xpC l)∧s.fr 16=aU l.length∧s.fr 17=aU k∧s.objs=[]∧eqR q l m=eqR q (l.drop k) (m.drop k)) ?_ ?_
 .simp -implicitDefEqProofs(maxSteps:=9^9)only[Tryz.f198,↓zA,sevalprocAttr,aku,c0]
  try exact rfl
 .rintro k s hk ⟨f1,f2,f15,f16,f17,hob,E⟩
  rcases ap k l.length with c1|c1
  .have hw:=cE k (by omega)
   have c1':k<m.length:=by omega
   have hx:=fun K=>aN.k (hg l[k] (ay c1) m[k] (ay c1')) K
   rw[cM c1,cM c1',eqR] at E
   simp -implicitDefEqProofs(maxSteps:=9^9)only[Tryz.f198,↓zA,sevalprocAttr,aku,f1,f2,f15,f16,f17,hob,ho,hc,aK,c1,bq c1,bq c1',hw,hx]
   cases c2:q l[k] m[k]
   .simp only[c2,aZ] at E
    simp -implicitDefEqProofs(maxSteps:=9^9)only[Tryz.f198,↓zA,sevalprocAttr,aku,c2,E]
   .simp only[c2,aX] at E
    simp -implicitDefEqProofs(maxSteps:=9^9)only[Tryz.f198,↓zA,sevalprocAttr,aku,c2,E]
  .have e:k=l.length:=by omega
   subst e
   rw[aw,c0,aw,eqR] at E
   simp -implicitDefEqProofs(maxSteps:=9^9)only[Tryz.f198,↓zA,sevalprocAttr,aku,f1,f2,f15,f16,f17,hob,aK,au,E]
def aMG (l m:List Xp) (q:Xp→Xp→Bool) (g:Nat) (cp:List C) (h:l.length≤4611686018427387903∧afs (fun x=>.agg (xpC x)) g cp q l m) (K:An→Prop):bp Tryz.prog pr 198 [.of (slC xpC l),.of (slC xpC m),.of (.fn g cp)] [] K↔K ⟨false,[aG (eqR q l m)],[]⟩:=aN.k (ax0 l m q g cp h) K
def akr:=ai (ai (ai @zq @akZ) (ai @akY @adQ)) (ai (ai @acm @zT0) (ai @ay8 (ba aOu)))
def asM (l m:List Kd) (q:Kd→Kd→Bool) (g:Nat) (cp:List C) (h:l.length≤4611686018427387903∧afs (fun x=>.agg (kdC x)) g cp q l m):G1 201 [.of (slC kdC l),.of (slC kdC m),.of (.fn g cp)] (aG (eqR q l m)):=by
 obtain⟨hl,ho,hc,hg⟩:=h
 refine ah rfl aOu ay8 rfl ?_
 by_cases c0:l.length=m.length
 rotate_left
 .rw[aea q l m c0]
  simp -implicitDefEqProofs(maxSteps:=9^9)only[Tryz.f201,↓zA,sevalprocAttr,akr,ho,fK,c0]
 simp -implicitDefEqProofs(maxSteps:=9^9)only[Tryz.f201,↓zA,sevalprocAttr,akr,ho,fK,c0]
 refine bW l.length (fun k s=>s.fr 1=.of (slC kdC m)∧s.fr 2=.of (.fn g cp)∧s.fr 15=.of (slC kdC l)∧s.fr 16=aU l.length∧s.fr 17=aU k∧s.objs=[]∧eqR q l m=eqR q (l.drop k) (m.drop k)) ?_ ?_
 .simp -implicitDefEqProofs(maxSteps:=9^9)only[Tryz.f201,↓zA,sevalprocAttr,akr,c0]
  try exact rfl
 .rintro k s hk ⟨f1,f2,f15,f16,f17,hob,E⟩
  rcases ap k l.length with c1|c1
  .have hw:=cE k (by omega)
   have c1':k<m.length:=by omega
   have hx:=fun K=>aN.k (hg l[k] (ay c1) m[k] (ay c1')) K
   rw[cM c1,cM c1',eqR] at E
   simp -implicitDefEqProofs(maxSteps:=9^9)only[Tryz.f201,↓zA,sevalprocAttr,akr,f1,f2,f15,f16,f17,hob,ho,hc,aK,c1,bq c1,bq c1',hw,hx]
   cases c2:q l[k] m[k]
   .simp only[c2,aZ] at E
    simp -implicitDefEqProofs(maxSteps:=9^9)only[Tryz.f201,↓zA,sevalprocAttr,akr,c2,E]
   .simp only[c2,aX] at E
    simp -implicitDefEqProofs(maxSteps:=9^9)only[Tryz.f201,↓zA,sevalprocAttr,akr,c2,E]
  .have e:k=l.length:=by omega
   subst e
   rw[aw,c0,aw,eqR] at E
   simp -implicitDefEqProofs(maxSteps:=9^9)only[Tryz.f201,↓zA,sevalprocAttr,akr,f1,f2,f15,f16,f17,hob,aK,au,E]
def aE6 (l m:List Kd) (q:Kd→Kd→Bool) (g:Nat) (cp:List C) (h:l.length≤4611686018427387903∧afs (fun x=>.agg (kdC x)) g cp q l m) (K:An→Prop):bp Tryz.prog pr 201 [.of (slC kdC l),.of (slC kdC m),.of (.fn g cp)] [] K↔K ⟨false,[aG (eqR q l m)],[]⟩:=aN.k (asM l m q g cp h) K
def akq:=ai (ai (ai @zq @akZ) (ai @akY @aer)) (ai (ai @ac5 @zT0) (ai @ay7 (ba aOt)))
def asL (l m:List Rd) (q:Rd→Rd→Bool) (g:Nat) (cp:List C) (h:l.length≤4611686018427387903∧afs (fun x=>.agg (rdC x)) g cp q l m):G1 202 [.of (slC rdC l),.of (slC rdC m),.of (.fn g cp)] (aG (eqR q l m)):=by
 obtain⟨hl,ho,hc,hg⟩:=h
 refine ah rfl aOt ay7 rfl ?_
 by_cases c0:l.length=m.length
 rotate_left
 .rw[aea q l m c0]
  simp -implicitDefEqProofs(maxSteps:=9^9)only[Tryz.f202,↓zA,sevalprocAttr,akq,ho,fK,c0]
 simp -implicitDefEqProofs(maxSteps:=9^9)only[Tryz.f202,↓zA,sevalprocAttr,akq,ho,fK,c0]
 refine bW l.length (fun k s=>s.fr 1=.of (slC rdC m)∧s.fr 2=.of (.fn g cp)∧s.fr 15=.of (slC rdC l)∧s.fr 16=aU l.length∧s.fr 17=aU k∧s.objs=[]∧eqR q l m=eqR q (l.drop k) (m.drop k)) ?_ ?_
 .simp -implicitDefEqProofs(maxSteps:=9^9)only[Tryz.f202,↓zA,sevalprocAttr,akq,c0]
  try exact rfl
 .rintro k s hk ⟨f1,f2,f15,f16,f17,hob,E⟩
  rcases ap k l.length with c1|c1
  .have hw:=cE k (by omega)
   have c1':k<m.length:=by omega
   have hx:=fun K=>aN.k (hg l[k] (ay c1) m[k] (ay c1')) K
   rw[cM c1,cM c1',eqR] at E
   simp -implicitDefEqProofs(maxSteps:=9^9)only[Tryz.f202,↓zA,sevalprocAttr,akq,f1,f2,f15,f16,f17,hob,ho,hc,aK,c1,bq c1,bq c1',hw,hx]
   cases c2:q l[k] m[k]
   .simp only[c2,aZ] at E
    simp -implicitDefEqProofs(maxSteps:=9^9)only[Tryz.f202,↓zA,sevalprocAttr,akq,c2,E]
   .simp only[c2,aX] at E
    simp -implicitDefEqProofs(maxSteps:=9^9)only[Tryz.f202,↓zA,sevalprocAttr,akq,c2,E]
  .have e:k=l.length:=by omega
   subst e
   rw[aw,c0,aw,eqR] at E
   simp -implicitDefEqProofs(maxSteps:=9^9)only[Tryz.f202,↓zA,sevalprocAttr,akq,f1,f2,f15,f16,f17,hob,aK,au,E]
def aE5 (l m:List Rd) (q:Rd→Rd→Bool) (g:Nat) (cp:List C) (h:l.length≤4611686018427387903∧afs (fun x=>.agg (rdC x)) g cp q l m) (K:An→Prop):bp Tryz.prog pr 202 [.of (slC rdC l),.of (slC rdC m),.of (.fn g cp)] [] K↔K ⟨false,[aG (eqR q l m)],[]⟩:=aN.k (asL l m q g cp h) K
def akp:=ai (ai @zq (ai @cQ @hY)) (ai @zT0 (ai @ay6 (ba aOs)))
def arl (l m:List (List Xp)) (q:(List Xp)→(List Xp)→Bool) (g:Nat) (cp:List C) (h:l.length≤4611686018427387903∧afs (slC xpC) g cp q l m):G1 203 [.of (slC (lsC xpC) l),.of (slC (lsC xpC) m),.of (.fn g cp)] (aG (eqR q l m)):=by
 obtain⟨hl,ho,hc,hg⟩:=h
 refine ah rfl aOs ay6 rfl ?_
 by_cases c0:l.length=m.length
 rotate_left
 .rw[aea q l m c0]
  simp -implicitDefEqProofs(maxSteps:=9^9)only[Tryz.f203,↓zA,sevalprocAttr,akp,ho,fK,c0]
 simp -implicitDefEqProofs(maxSteps:=9^9)only[Tryz.f203,↓zA,sevalprocAttr,akp,ho,fK,c0]
 refine bW l.length (fun k s=>s.fr 1=.of (slC (lsC xpC) m)∧s.fr 2=.of (.fn g cp)∧s.fr 15=.of (slC (lsC xpC) l)∧s.fr 16=aU l.length∧s.fr 17=aU k∧s.objs=[]∧eqR q l m=eqR q (l.drop k) (m.drop k)) ?_ ?_
 .simp -implicitDefEqProofs(maxSteps:=9^9)only[Tryz.f203,↓zA,sevalprocAttr,akp,c0]
  try exact rfl
 .rintro k s hk ⟨f1,f2,f15,f16,f17,hob,E⟩
  rcases ap k l.length with c1|c1
  .have hw:=cE k (by omega)
   have c1':k<m.length:=by omega
   have hx:=fun K=>aN.k (hg l[k] (ay c1) m[k] (ay c1')) K
   rw[cM c1,cM c1',eqR] at E
   simp -implicitDefEqProofs(maxSteps:=9^9)only[Tryz.f203,↓zA,sevalprocAttr,akp,f1,f2,f15,f16,f17,hob,ho,hc,aK,c1,bq c1,bq c1',hw,hx]
   cases c2:q l[k] m[k]
   .simp only[c2,aZ] at E
    simp -implicitDefEqProofs(maxSteps:=9^9)only[Tryz.f203,↓zA,sevalprocAttr,akp,c2,E]
   .simp only[c2,aX] at E
    simp -implicitDefEqProofs(maxSteps:=9^9)only[Tryz.f203,↓zA,sevalprocAttr,akp,c2,E]
  .have e:k=l.length:=by omega
   subst e
   rw[aw,c0,aw,eqR] at E
   simp -implicitDefEqProofs(maxSteps:=9^9)only[Tryz.f203,↓zA,sevalprocAttr,akp,f1,f2,f15,f16,f17,hob,aK,au,E]
def ax1 (l m:List (List Xp)) (q:(List Xp)→(List Xp)→Bool) (g:Nat) (cp:List C) (h:l.length≤4611686018427387903∧afs (slC xpC) g cp q l m) (K:An→Prop):bp Tryz.prog pr 203 [.of (slC (lsC xpC) l),.of (slC (lsC xpC) m),.of (.fn g cp)] [] K↔K ⟨false,[aG (eqR q l m)],[]⟩:=aN.k (arl l m q g cp h) K
def ako:=ai (ai (ai @zq @akZ) (ai @akY @abQ)) (ai (ai @abR @zT0) (ai @ay5 (ba aOr)))
def asN (l m:List As) (q:As→As→Bool) (g:Nat) (cp:List C) (h:l.length≤4611686018427387903∧afs (fun x=>.agg (asC x)) g cp q l m):G1 204 [.of (slC asC l),.of (slC asC m),.of (.fn g cp)] (aG (eqR q l m)):=by
 obtain⟨hl,ho,hc,hg⟩:=h
 refine ah rfl aOr ay5 rfl ?_
 by_cases c0:l.length=m.length
 rotate_left
 .rw[aea q l m c0]
  simp -implicitDefEqProofs(maxSteps:=9^9)only[Tryz.f204,↓zA,sevalprocAttr,ako,ho,fK,c0]
 simp -implicitDefEqProofs(maxSteps:=9^9)only[Tryz.f204,↓zA,sevalprocAttr,ako,ho,fK,c0]
 refine bW l.length (fun k s=>s.fr 1=.of (slC asC m)∧s.fr 2=.of (.fn g cp)∧s.fr 15=.of (slC asC l)∧s.fr 16=aU l.length∧s.fr 17=aU k∧s.objs=[]∧eqR q l m=eqR q (l.drop k) (m.drop k)) ?_ ?_
 .simp -implicitDefEqProofs(maxSteps:=9^9)only[Tryz.f204,↓zA,sevalprocAttr,ako,c0]
  try exact rfl
 .rintro k s hk ⟨f1,f2,f15,f16,f17,hob,E⟩
  rcases ap k l.length with c1|c1
  .have hw:=cE k (by omega)
   have c1':k<m.length:=by omega
   have hx:=fun K=>aN.k (hg l[k] (ay c1) m[k] (ay c1')) K
   rw[cM c1,cM c1',eqR] at E
   simp -implicitDefEqProofs(maxSteps:=9^9)only[Tryz.f204,↓zA,sevalprocAttr,ako,f1,f2,f15,f16,f17,hob,ho,hc,aK,c1,bq c1,bq c1',hw,hx]
   cases c2:q l[k] m[k]
   .simp only[c2,aZ] at E
    simp -implicitDefEqProofs(maxSteps:=9^9)only[Tryz.f204,↓zA,sevalprocAttr,ako,c2,E]
   .simp only[c2,aX] at E
    simp -implicitDefEqProofs(maxSteps:=9^9)only[Tryz.f204,↓zA,sevalprocAttr,ako,c2,E]
  .have e:k=l.length:=by omega
   subst e
   rw[aw,c0,aw,eqR] at E
   simp -implicitDefEqProofs(maxSteps:=9^9)only[Tryz.f204,↓zA,sevalprocAttr,ako,f1,f2,f15,f16,f17,hob,aK,au,E]
def aE7 (l m:List As) (q:As→As→Bool) (g:Nat) (cp:List C) (h:l.length≤4611686018427387903∧afs (fun x=>.agg (asC x)) g cp q l m) (K:An→Prop):bp Tryz.prog pr 204 [.of (slC asC l),.of (slC asC m),.of (.fn g cp)] [] K↔K ⟨false,[aG (eqR q l m)],[]⟩:=aN.k (asN l m q g cp h) K
def akn:=ai (ai (ai @zq @akZ) (ai @akY @eu)) (ai (ai @d7 @zT0) (ai @ay4 (ba aOq)))
def awy (l m:List Qy) (q:Qy→Qy→Bool) (g:Nat) (cp:List C) (h:l.length≤4611686018427387903∧afs (fun x=>.agg (qyC x)) g cp q l m):G1 205 [.of (slC qyC l),.of (slC qyC m),.of (.fn g cp)] (aG (eqR q l m)):=by
 obtain⟨hl,ho,hc,hg⟩:=h
 refine ah rfl aOq ay4 rfl ?_
 by_cases c0:l.length=m.length
 rotate_left
 .rw[aea q l m c0]
  simp -implicitDefEqProofs(maxSteps:=9^9)only[Tryz.f205,↓zA,sevalprocAttr,akn,ho,fK,c0]
 simp -implicitDefEqProofs(maxSteps:=9^9)only[Tryz.f205,↓zA,sevalprocAttr,akn,ho,fK,c0]
 refine bW l.length (fun k s=>s.fr 1=.of (slC qyC m)∧s.fr 2=.of (.fn g cp)∧s.fr 15=.of (slC qyC l)∧s.fr 16=aU l.length∧s.fr 17=aU k∧s.objs=[]∧eqR q l m=eqR q (l.drop k) (m.drop k)) ?_ ?_
 .simp -implicitDefEqProofs(maxSteps:=9^9)only[Tryz.f205,↓zA,sevalprocAttr,akn,c0]
  try exact rfl
 .rintro k s hk ⟨f1,f2,f15,f16,f17,hob,E⟩
  rcases ap k l.length with c1|c1
  .have hw:=cE k (by omega)
   have c1':k<m.length:=by omega
   have hx:=fun K=>aN.k (hg l[k] (ay c1) m[k] (ay c1')) K
   rw[cM c1,cM c1',eqR] at E
   simp -implicitDefEqProofs(maxSteps:=9^9)only[Tryz.f205,↓zA,sevalprocAttr,akn,f1,f2,f15,f16,f17,hob,ho,hc,aK,c1,bq c1,bq c1',hw,hx]
   cases c2:q l[k] m[k]
   .simp only[c2,aZ] at E
    simp -implicitDefEqProofs(maxSteps:=9^9)only[Tryz.f205,↓zA,sevalprocAttr,akn,c2,E]
   .simp only[c2,aX] at E
    simp -implicitDefEqProofs(maxSteps:=9^9)only[Tryz.f205,↓zA,sevalprocAttr,akn,c2,E]
  .have e:k=l.length:=by omega
   subst e
   rw[aw,c0,aw,eqR] at E
   simp -implicitDefEqProofs(maxSteps:=9^9)only[Tryz.f205,↓zA,sevalprocAttr,akn,f1,f2,f15,f16,f17,hob,aK,au,E]
def aJJ (l m:List Qy) (q:Qy→Qy→Bool) (g:Nat) (cp:List C) (h:l.length≤4611686018427387903∧afs (fun x=>.agg (qyC x)) g cp q l m) (K:An→Prop):bp Tryz.prog pr 205 [.of (slC qyC l),.of (slC qyC m),.of (.fn g cp)] [] K↔K ⟨false,[aG (eqR q l m)],[]⟩:=aN.k (awy l m q g cp h) K
def akl:=ai (ai (ai @zq @akZ) (ai @akY @abc)) (ai (ai @ab9 @zT0) (ai @ayB (ba aNW)))
def axY (l m:List Im) (q:Im→Im→Bool) (g:Nat) (cp:List C) (h:l.length≤4611686018427387903∧afs (fun x=>.agg (imC x)) g cp q l m):G1 242 [.of (slC imC l),.of (slC imC m),.of (.fn g cp)] (aG (eqR q l m)):=by
 obtain⟨hl,ho,hc,hg⟩:=h
 refine ah rfl aNW ayB rfl ?_
 by_cases c0:l.length=m.length
 rotate_left
 .rw[aea q l m c0]
  simp -implicitDefEqProofs(maxSteps:=9^9)only[Tryz.f242,↓zA,sevalprocAttr,akl,ho,fK,c0]
 simp -implicitDefEqProofs(maxSteps:=9^9)only[Tryz.f242,↓zA,sevalprocAttr,akl,ho,fK,c0]
 refine bW l.length (fun k s=>s.fr 1=.of (slC imC m)∧s.fr 2=.of (.fn g cp)∧s.fr 15=.of (slC imC l)∧s.fr 16=aU l.length∧s.fr 17=aU k∧s.objs=[]∧eqR q l m=eqR q (l.drop k) (m.drop k)) ?_ ?_
 .simp -implicitDefEqProofs(maxSteps:=9^9)only[Tryz.f242,↓zA,sevalprocAttr,akl,c0]
  try exact rfl
 .rintro k s hk ⟨f1,f2,f15,f16,f17,hob,E⟩
  rcases ap k l.length with c1|c1
  .have hw:=cE k (by omega)
   have c1':k<m.length:=by omega
   have hx:=fun K=>aN.k (hg l[k] (ay c1) m[k] (ay c1')) K
   rw[cM c1,cM c1',eqR] at E
   simp -implicitDefEqProofs(maxSteps:=9^9)only[Tryz.f242,↓zA,sevalprocAttr,akl,f1,f2,f15,f16,f17,hob,ho,hc,aK,c1,bq c1,bq c1',hw,hx]
   cases c2:q l[k] m[k]
   .simp only[c2,aZ] at E
    simp -implicitDefEqProofs(maxSteps:=9^9)only[Tryz.f242,↓zA,sevalprocAttr,akl,c2,E]
   .simp only[c2,aX] at E
    simp -implicitDefEqProofs(maxSteps:=9^9)only[Tryz.f242,↓zA,sevalprocAttr,akl,c2,E]
  .have e:k=l.length:=by omega
   subst e
   rw[aw,c0,aw,eqR] at E
   simp -implicitDefEqProofs(maxSteps:=9^9)only[Tryz.f242,↓zA,sevalprocAttr,akl,f1,f2,f15,f16,f17,hob,aK,au,E]
def aME (l m:List Im) (q:Im→Im→Bool) (g:Nat) (cp:List C) (h:l.length≤4611686018427387903∧afs (fun x=>.agg (imC x)) g cp q l m) (K:An→Prop):bp Tryz.prog pr 242 [.of (slC imC l),.of (slC imC m),.of (.fn g cp)] [] K↔K ⟨false,[aG (eqR q l m)],[]⟩:=aN.k (axY l m q g cp h) K
def akk:=ai (ai (ai @zq @akZ) (ai @akY @jl)) (ai (ai @iM @zT0) (ai @ayz (ba aNU)))
def axZ (l m:List Fm) (q:Fm→Fm→Bool) (g:Nat) (cp:List C) (h:l.length≤4611686018427387903∧afs (fun x=>.agg (fmC x)) g cp q l m):G1 244 [.of (slC fmC l),.of (slC fmC m),.of (.fn g cp)] (aG (eqR q l m)):=by
 obtain⟨hl,ho,hc,hg⟩:=h
 refine ah rfl aNU ayz rfl ?_
 by_cases c0:l.length=m.length
 rotate_left
 .rw[aea q l m c0]
  simp -implicitDefEqProofs(maxSteps:=9^9)only[Tryz.f244,↓zA,sevalprocAttr,akk,ho,fK,c0]
 simp -implicitDefEqProofs(maxSteps:=9^9)only[Tryz.f244,↓zA,sevalprocAttr,akk,ho,fK,c0]
 refine bW l.length (fun k s=>s.fr 1=.of (slC fmC m)∧s.fr 2=.of (.fn g cp)∧s.fr 15=.of (slC fmC l)∧s.fr 16=aU l.length∧s.fr 17=aU k∧s.objs=[]∧eqR q l m=eqR q (l.drop k) (m.drop k)) ?_ ?_
 .simp -implicitDefEqProofs(maxSteps:=9^9)only[Tryz.f244,↓zA,sevalprocAttr,akk,c0]
  try exact rfl
 .rintro k s hk ⟨f1,f2,f15,f16,f17,hob,E⟩
  rcases ap k l.length with c1|c1
  .have hw:=cE k (by omega)
   have c1':k<m.length:=by omega
   have hx:=fun K=>aN.k (hg l[k] (ay c1) m[k] (ay c1')) K
   rw[cM c1,cM c1',eqR] at E
   simp -implicitDefEqProofs(maxSteps:=9^9)only[Tryz.f244,↓zA,sevalprocAttr,akk,f1,f2,f15,f16,f17,hob,ho,hc,aK,c1,bq c1,bq c1',hw,hx]
   cases c2:q l[k] m[k]
   .simp only[c2,aZ] at E
    simp -implicitDefEqProofs(maxSteps:=9^9)only[Tryz.f244,↓zA,sevalprocAttr,akk,c2,E]
   .simp only[c2,aX] at E
    simp -implicitDefEqProofs(maxSteps:=9^9)only[Tryz.f244,↓zA,sevalprocAttr,akk,c2,E]
  .have e:k=l.length:=by omega
   subst e
   rw[aw,c0,aw,eqR] at E
   simp -implicitDefEqProofs(maxSteps:=9^9)only[Tryz.f244,↓zA,sevalprocAttr,akk,f1,f2,f15,f16,f17,hob,aK,au,E]
def aMF (l m:List Fm) (q:Fm→Fm→Bool) (g:Nat) (cp:List C) (h:l.length≤4611686018427387903∧afs (fun x=>.agg (fmC x)) g cp q l m) (K:An→Prop):bp Tryz.prog pr 244 [.of (slC fmC l),.of (slC fmC m),.of (.fn g cp)] [] K↔K ⟨false,[aG (eqR q l m)],[]⟩:=aN.k (axZ l m q g cp h) K
def akv:=ai (ai @zq (ai @bN @Q9)) (ai @zT0 (ai @aze (ba aOA)))
def asJ (l m:List (List UInt8)) (hl:l.length≤4611686018427387903):G1 195 [.of (slC bA l),.of (slC bA m)] (aG (eqR (fun x y=>decide (x=y)) l m)):=by
 refine ah rfl aOA aze rfl ?_
 by_cases c0:l.length=m.length
 rotate_left
 .rw[aea _ l m c0]
  simp -implicitDefEqProofs(maxSteps:=9^9)only[Tryz.f195,↓zA,sevalprocAttr,akv,fK,c0]
 simp -implicitDefEqProofs(maxSteps:=9^9)only[Tryz.f195,↓zA,sevalprocAttr,akv,fK,c0]
 refine bW l.length (fun k s=>s.fr 0=.of (slC bA l)∧s.fr 1=.of (slC bA m)∧s.fr 12=aU l.length∧s.fr 13=aU k∧s.objs=[]∧eqR (fun x y=>decide (x=y)) l m=eqR (fun x y=>decide (x=y)) (l.drop k) (m.drop k)) ?_ ?_
 .simp -implicitDefEqProofs(maxSteps:=9^9)only[Tryz.f195,↓zA,sevalprocAttr,akv,c0]
  try exact rfl
 .rintro k s hk ⟨f0,f1,f12,f13,hob,E⟩
  rcases ap k l.length with c1|c1
  .have hw:=cE k (by omega)
   have c1':k<m.length:=by omega
   rw[cM c1,cM c1',eqR] at E
   simp -implicitDefEqProofs(maxSteps:=9^9)only[Tryz.f195,↓zA,sevalprocAttr,akv,f0,f1,f12,f13,hob,aK,c1,bq c1,bq c1',hw,bU]
   by_cases c2:l[k]=m[k]
   .simp only[c2,bG,aX] at E
    simp -implicitDefEqProofs(maxSteps:=9^9)only[Tryz.f195,↓zA,sevalprocAttr,akv,c2,E,aa1]
   .simp only[c2,bE,aZ] at E
    simp -implicitDefEqProofs(maxSteps:=9^9)only[Tryz.f195,↓zA,sevalprocAttr,akv,c2,E]
  .have e:k=l.length:=by omega
   subst e
   rw[aw,c0,aw,eqR] at E
   simp -implicitDefEqProofs(maxSteps:=9^9)only[Tryz.f195,↓zA,sevalprocAttr,akv,f0,f1,f12,f13,hob,aK,au,E]
def akt:=ai (ai @zq (ai @aes @acn)) (ai @zT0 (ai @ay9 (ba aOv)))
def asK (l m:List Cd) (hl:l.length≤4611686018427387903):G1 200 [.of (slC cdC l),.of (slC cdC m)] (aG (eqR (fun x y=>decide (x=y)) l m)):=by
 refine ah rfl aOv ay9 rfl ?_
 by_cases c0:l.length=m.length
 rotate_left
 .rw[aea _ l m c0]
  simp -implicitDefEqProofs(maxSteps:=9^9)only[Tryz.f200,↓zA,sevalprocAttr,akt,fK,c0]
 simp -implicitDefEqProofs(maxSteps:=9^9)only[Tryz.f200,↓zA,sevalprocAttr,akt,fK,c0]
 refine bW l.length (fun k s=>s.fr 0=.of (slC cdC l)∧s.fr 1=.of (slC cdC m)∧s.fr 12=aU l.length∧s.fr 13=aU k∧s.objs=[]∧eqR (fun x y=>decide (x=y)) l m=eqR (fun x y=>decide (x=y)) (l.drop k) (m.drop k)) ?_ ?_
 .simp -implicitDefEqProofs(maxSteps:=9^9)only[Tryz.f200,↓zA,sevalprocAttr,akt,c0]
  try exact rfl
 .rintro k s hk ⟨f0,f1,f12,f13,hob,E⟩
  rcases ap k l.length with c1|c1
  .have hw:=cE k (by omega)
   have c1':k<m.length:=by omega
   rw[cM c1,cM c1',eqR] at E
   simp -implicitDefEqProofs(maxSteps:=9^9)only[Tryz.f200,↓zA,sevalprocAttr,akt,f0,f1,f12,f13,hob,aK,c1,bq c1,bq c1',hw,aDY,fk,dZ]
   by_cases c2:l[k]=m[k]
   .simp only[c2,bG,aX] at E
    simp -implicitDefEqProofs(maxSteps:=9^9)only[Tryz.f200,↓zA,sevalprocAttr,akt,c2,E,aa1]
   .simp only[c2,bE,aZ] at E
    simp -implicitDefEqProofs(maxSteps:=9^9)only[Tryz.f200,↓zA,sevalprocAttr,akt,c2,E]
  .have e:k=l.length:=by omega
   subst e
   rw[aw,c0,aw,eqR] at E
   simp -implicitDefEqProofs(maxSteps:=9^9)only[Tryz.f200,↓zA,sevalprocAttr,akt,f0,f1,f12,f13,hob,aK,au,E]
def akm:=ai (ai @zq (ai @acN @abX)) (ai @zT0 (ai @ayC (ba aNX)))
def awx (l m:List Od) (hl:l.length≤4611686018427387903):G1 241 [.of (slC odC l),.of (slC odC m)] (aG (eqR (fun x y=>decide (x=y)) l m)):=by
 refine ah rfl aNX ayC rfl ?_
 by_cases c0:l.length=m.length
 rotate_left
 .rw[aea _ l m c0]
  simp -implicitDefEqProofs(maxSteps:=9^9)only[Tryz.f241,↓zA,sevalprocAttr,akm,fK,c0]
 simp -implicitDefEqProofs(maxSteps:=9^9)only[Tryz.f241,↓zA,sevalprocAttr,akm,fK,c0]
 refine bW l.length (fun k s=>s.fr 0=.of (slC odC l)∧s.fr 1=.of (slC odC m)∧s.fr 12=aU l.length∧s.fr 13=aU k∧s.objs=[]∧eqR (fun x y=>decide (x=y)) l m=eqR (fun x y=>decide (x=y)) (l.drop k) (m.drop k)) ?_ ?_
 .simp -implicitDefEqProofs(maxSteps:=9^9)only[Tryz.f241,↓zA,sevalprocAttr,akm,c0]
  try exact rfl
 .rintro k s hk ⟨f0,f1,f12,f13,hob,E⟩
  rcases ap k l.length with c1|c1
  .have hw:=cE k (by omega)
   have c1':k<m.length:=by omega
   rw[cM c1,cM c1',eqR] at E
   simp -implicitDefEqProofs(maxSteps:=9^9)only[Tryz.f241,↓zA,sevalprocAttr,akm,f0,f1,f12,f13,hob,aK,c1,bq c1,bq c1',hw,aIR,fk,dZ]
   by_cases c2:l[k]=m[k]
   .simp only[c2,bG,aX] at E
    simp -implicitDefEqProofs(maxSteps:=9^9)only[Tryz.f241,↓zA,sevalprocAttr,akm,c2,E,aa1]
   .simp only[c2,bE,aZ] at E
    simp -implicitDefEqProofs(maxSteps:=9^9)only[Tryz.f241,↓zA,sevalprocAttr,akm,c2,E]
  .have e:k=l.length:=by omega
   subst e
   rw[aw,c0,aw,eqR] at E
   simp -implicitDefEqProofs(maxSteps:=9^9)only[Tryz.f241,↓zA,sevalprocAttr,akm,f0,f1,f12,f13,hob,aK,au,E]
def aJI (l m:List Od) (hl:l.length≤4611686018427387903) (K:An→Prop):bp Tryz.prog pr 241 [.of (slC odC l),.of (slC odC m)] [] K↔K ⟨false,[aG (eqR (fun x y=>decide (x=y)) l m)],[]⟩:=aN.k (awx l m hl) K
def a1p:=ai (ai (ai @zq @a3O) (ai @a3N @a3M)) (ai (ai @adw @Q3) (ai @zT0 (ai @aAF (ba aP1))))
def aMf (a b:Nat×Nat) (h:a.1+b.1≤4611686018427387903):G1 101 [.of (.agg (szC (szP a))),.of (.agg (szC (szP b)))] (.of (.agg (szC (szP (bx a b))))):=by
 have hw:IntKind.i64.wrap ((a.1:Int)+b.1)=((a.1+b.1:Nat):Int):=by rw[eh _ (by omega) (by omega)];rfl
 have hm:(if (a.2:Int)<b.2 then (b.2:Int) else a.2)=((max a.2 b.2:Nat):Int):=by split <;> omega
 have e:szC (szP (bx a b))=[ci ((a.1+b.1:Nat):Int),ci ((max a.2 b.2:Nat):Int)]:=rfl
 refine ah rfl aP1 aAF rfl ?_
 simp -implicitDefEqProofs(maxSteps:=9^9)only[Tryz.f101,↓zA,sevalprocAttr,a1p,aoT,aoU,hw,hm,e]
def ahq (a b:Nat×Nat) (K:An→Prop):bp Tryz.prog pr 101 [.of (.agg (szC (szP a))),.of (.agg (szC (szP b)))] [] K↔ifP (a.1+b.1≤4611686018427387903) (K ⟨false,[.of (.agg (szC (szP (bx a b))))],[]⟩) (abW Tryz.prog pr 101 [.of (.agg (szC (szP a))),.of (.agg (szC (szP b)))] K):=adG (aMf a b) K
def a1f:=ai (ai (ai @zq @a3L) (ai @a3K @adw)) (ai (ai @Q3 @zT0) (ai @az1 (ba aPn)))
def aQh (a:Nat×Nat) (h:a.1≤4611686018427387903∧a.2≤4611686018427387903):G1 142 [.of (.agg (szC (szP a)))] (.of (.agg (szC (szP (upN a))))):=by
 have hw:=cE a.1 (by omega)
 have hw2:=cE a.2 (by omega)
 have e:szC (szP (upN a))=[ci ((a.1+1:Nat):Int),ci ((a.2+1:Nat):Int)]:=rfl
 refine ah rfl aPn az1 rfl ?_
 simp -implicitDefEqProofs(maxSteps:=9^9)only[Tryz.f142,↓zA,sevalprocAttr,a1f,aoT,aoU,hw,hw2,e]
def aJ0 (a:Nat×Nat) (K:An→Prop):bp Tryz.prog pr 142 [.of (.agg (szC (szP a)))] [] K↔ifP (a.1≤4611686018427387903∧a.2≤4611686018427387903) (K ⟨false,[.of (.agg (szC (szP (upN a))))],[]⟩) (abW Tryz.prog pr 142 [.of (.agg (szC (szP a)))] K):=adG (aQh a) K
def aTM:=ai (ai @zq (ai @a3t @adw)) (ai (ai @Q3 @zT0) (ai @aIe (ba aYA)))
def aIM (a:Nat×Nat):G1 33 [.of (.agg (szC (szP a)))] (aG (ade a)):=by
 have e1:((a.1:Int)≤400)=(a.1≤400):=propext (by omega)
 have e2:((a.2:Int)≤40)=(a.2≤40):=propext (by omega)
 refine ah rfl aYA aIe rfl ?_
 by_cases c1:a.1≤400
 .simp -implicitDefEqProofs(maxSteps:=9^9)only[Tryz.f33,↓zA,sevalprocAttr,aTM,aoT,aoU,e1,e2,ade,c1,bG,aX]
 .simp -implicitDefEqProofs(maxSteps:=9^9)only[Tryz.f33,↓zA,sevalprocAttr,aTM,aoT,aoU,e1,e2,ade,c1,bE,aZ]
def aj3 (a:Nat×Nat) (K:An→Prop):bp Tryz.prog pr 33 [.of (.agg (szC (szP a)))] [] K↔K ⟨false,[aG (ade a)],[]⟩:=aN.k (aIM a) K
def aBM:=ai (ai (ai @zq @am9) (ai @am8 (ai @afy @aek))) (ai (ai @adw (ai @cQ @hY)) (ai @zT0 (ai @aHq (ba aXM))))
def aoW (l:List (List Xp)) (w:(List Xp)→Nat×Nat) (g:Nat) (cp:List C) (h:l.length≤4611686018427387903∧(bl w l).1≤4611686018427387903∧FnS (slC xpC) g cp w l):G1 96 [.of (slC (lsC xpC) l),.of (.fn g cp)] (.of (.agg (szC (szP (bl w l))))):=by
 obtain⟨hl,hs,ho,hc,hg⟩:=h
 refine ah rfl aXM aHq rfl ?_
 simp -implicitDefEqProofs(maxSteps:=9^9)only[Tryz.f96,↓zA,sevalprocAttr,aBM,ho]
 refine bW l.length (fun k s=>∃ a,s.fr 1=.of (.fn g cp)∧s.fr 4=.ptr 0 0∧s.fr 5=.ptr 1 0∧s.fr 8=.of (slC (lsC xpC) l)∧s.fr 9=aU l.length∧s.fr 10=aU k∧s.objs=[.var 80 [aU 0,aU 0],.var 80 [.of (ci ((a:Nat×Nat).1:Int)),.of (ci (a.2:Int))]]∧bx a (bl w (l.drop k))=bl w l) ?_ ?_
 .refine⟨(0,0),?_⟩
  simp -implicitDefEqProofs(maxSteps:=9^9)only[Tryz.f96,↓zA,sevalprocAttr,aBM,ac4]
  try exact rfl
 .rintro k s hk ⟨a,f1,f4,f5,f8,f9,f10,hob,E⟩
  have ea:szC (szP a)=[ci (a.1:Int),ci (a.2:Int)]:=rfl
  rcases ap k l.length with c1|c1
  .have hw:=cE k (by omega)
   have hx:=fun K=>aN.k (hg l[k] (ay c1)) K
   rw[cM c1,ac0,← aaO] at E
   have hb:a.1+(w l[k]).1≤4611686018427387903:=by have:=congrArg Prod.fst E;simp only[akg] at this;omega
   have eb:szC (szP (bx a (w l[k])))=[ci ((bx a (w l[k])).1:Int),ci ((bx a (w l[k])).2:Int)]:=rfl
   simp -implicitDefEqProofs(maxSteps:=9^9)only[Tryz.f96,↓zA,sevalprocAttr,aBM,f1,f4,f5,f8,f9,f10,hob,ho,hc,aK,c1,bq c1,hw,hx,← ea,ahq,hb,eb]
   exact⟨_,rfl,E⟩
  .have e:k=l.length:=by omega
   subst e
   rw[aw,bl,iJ] at E
   subst E
   simp -implicitDefEqProofs(maxSteps:=9^9)only[Tryz.f96,↓zA,sevalprocAttr,aBM,f1,f4,f5,f8,f9,f10,hob,aK,au,ea]
def atY (l:List (List Xp)) (w:(List Xp)→Nat×Nat) (g:Nat) (cp:List C) (h:l.length≤4611686018427387903∧(bl w l).1≤4611686018427387903∧FnS (slC xpC) g cp w l) (K:An→Prop):bp Tryz.prog pr 96 [.of (slC (lsC xpC) l),.of (.fn g cp)] [] K↔K ⟨false,[.of (.agg (szC (szP (bl w l))))],[]⟩:=aN.k (aoW l w g cp h) K
def aBL:=ai (ai (ai @zq (ai @am9 @am8)) (ai @apu (ai @afy @aek))) (ai (ai @cQ (ai @adw @d6)) (ai @zT0 (ai @aHo (ba aXK))))
def atX (l:List Xp) (w:Xp→Nat×Nat) (g:Nat) (cp:List C) (h:l.length≤4611686018427387903∧(bl w l).1≤4611686018427387903∧FnS (fun x=>.agg (xpC x)) g cp w l):G1 98 [.of (slC xpC l),.of (.fn g cp)] (.of (.agg (szC (szP (bl w l))))):=by
 obtain⟨hl,hs,ho,hc,hg⟩:=h
 refine ah rfl aXK aHo rfl ?_
 simp -implicitDefEqProofs(maxSteps:=9^9)only[Tryz.f98,↓zA,sevalprocAttr,aBL,ho]
 refine bW l.length (fun k s=>∃ a,s.fr 1=.of (.fn g cp)∧s.fr 4=.ptr 0 0∧s.fr 5=.ptr 1 0∧s.fr 8=.of (slC xpC l)∧s.fr 9=aU l.length∧s.fr 10=aU k∧s.objs=[.var 80 [aU 0,aU 0],.var 80 [.of (ci ((a:Nat×Nat).1:Int)),.of (ci (a.2:Int))]]∧bx a (bl w (l.drop k))=bl w l) ?_ ?_
 .refine⟨(0,0),?_⟩
  simp -implicitDefEqProofs(maxSteps:=9^9)only[Tryz.f98,↓zA,sevalprocAttr,aBL,ac4]
  try exact rfl
 .rintro k s hk ⟨a,f1,f4,f5,f8,f9,f10,hob,E⟩
  have ea:szC (szP a)=[ci (a.1:Int),ci (a.2:Int)]:=rfl
  rcases ap k l.length with c1|c1
  .have hw:=cE k (by omega)
   have hx:=fun K=>aN.k (hg l[k] (ay c1)) K
   rw[cM c1,ac0,← aaO] at E
   have hb:a.1+(w l[k]).1≤4611686018427387903:=by have:=congrArg Prod.fst E;simp only[akg] at this;omega
   have eb:szC (szP (bx a (w l[k])))=[ci ((bx a (w l[k])).1:Int),ci ((bx a (w l[k])).2:Int)]:=rfl
   simp -implicitDefEqProofs(maxSteps:=9^9)only[Tryz.f98,↓zA,sevalprocAttr,aBL,f1,f4,f5,f8,f9,f10,hob,ho,hc,aK,c1,bq c1,hw,hx,← ea,ahq,hb,eb]
   exact⟨_,rfl,E⟩
  .have e:k=l.length:=by omega
   subst e
   rw[aw,bl,iJ] at E
   subst E
   simp -implicitDefEqProofs(maxSteps:=9^9)only[Tryz.f98,↓zA,sevalprocAttr,aBL,f1,f4,f5,f8,f9,f10,hob,aK,au,ea]
def aFw (l:List Xp) (w:Xp→Nat×Nat) (g:Nat) (cp:List C) (h:l.length≤4611686018427387903∧(bl w l).1≤4611686018427387903∧FnS (fun x=>.agg (xpC x)) g cp w l) (K:An→Prop):bp Tryz.prog pr 98 [.of (slC xpC l),.of (.fn g cp)] [] K↔K ⟨false,[.of (.agg (szC (szP (bl w l))))],[]⟩:=aN.k (atX l w g cp h) K
def aBK:=ai (ai (ai @zq (ai @am9 @am8)) (ai @apu (ai @afy @aek))) (ai (ai @abQ (ai @adw @abR)) (ai @zT0 (ai @aHn (ba aXJ))))
def aqt (l:List As) (w:As→Nat×Nat) (g:Nat) (cp:List C) (h:l.length≤4611686018427387903∧(bl w l).1≤4611686018427387903∧FnS (fun x=>.agg (asC x)) g cp w l):G1 99 [.of (slC asC l),.of (.fn g cp)] (.of (.agg (szC (szP (bl w l))))):=by
 obtain⟨hl,hs,ho,hc,hg⟩:=h
 refine ah rfl aXJ aHn rfl ?_
 simp -implicitDefEqProofs(maxSteps:=9^9)only[Tryz.f99,↓zA,sevalprocAttr,aBK,ho]
 refine bW l.length (fun k s=>∃ a,s.fr 1=.of (.fn g cp)∧s.fr 4=.ptr 0 0∧s.fr 5=.ptr 1 0∧s.fr 8=.of (slC asC l)∧s.fr 9=aU l.length∧s.fr 10=aU k∧s.objs=[.var 80 [aU 0,aU 0],.var 80 [.of (ci ((a:Nat×Nat).1:Int)),.of (ci (a.2:Int))]]∧bx a (bl w (l.drop k))=bl w l) ?_ ?_
 .refine⟨(0,0),?_⟩
  simp -implicitDefEqProofs(maxSteps:=9^9)only[Tryz.f99,↓zA,sevalprocAttr,aBK,ac4]
  try exact rfl
 .rintro k s hk ⟨a,f1,f4,f5,f8,f9,f10,hob,E⟩
  have ea:szC (szP a)=[ci (a.1:Int),ci (a.2:Int)]:=rfl
  rcases ap k l.length with c1|c1
  .have hw:=cE k (by omega)
   have hx:=fun K=>aN.k (hg l[k] (ay c1)) K
   rw[cM c1,ac0,← aaO] at E
   have hb:a.1+(w l[k]).1≤4611686018427387903:=by have:=congrArg Prod.fst E;simp only[akg] at this;omega
   have eb:szC (szP (bx a (w l[k])))=[ci ((bx a (w l[k])).1:Int),ci ((bx a (w l[k])).2:Int)]:=rfl
   simp -implicitDefEqProofs(maxSteps:=9^9)only[Tryz.f99,↓zA,sevalprocAttr,aBK,f1,f4,f5,f8,f9,f10,hob,ho,hc,aK,c1,bq c1,hw,hx,← ea,ahq,hb,eb]
   exact⟨_,rfl,E⟩
  .have e:k=l.length:=by omega
   subst e
   rw[aw,bl,iJ] at E
   subst E
   simp -implicitDefEqProofs(maxSteps:=9^9)only[Tryz.f99,↓zA,sevalprocAttr,aBK,f1,f4,f5,f8,f9,f10,hob,aK,au,ea]
def awK (l:List As) (w:As→Nat×Nat) (g:Nat) (cp:List C) (h:l.length≤4611686018427387903∧(bl w l).1≤4611686018427387903∧FnS (fun x=>.agg (asC x)) g cp w l) (K:An→Prop):bp Tryz.prog pr 99 [.of (slC asC l),.of (.fn g cp)] [] K↔K ⟨false,[.of (.agg (szC (szP (bl w l))))],[]⟩:=aN.k (aqt l w g cp h) K
def ata:=ai (ai (ai @zq (ai @am9 @am8)) (ai @apu (ai @afy @aek))) (ai (ai @eu (ai @adw @d7)) (ai @zT0 (ai @aAE (ba aP0))))
def ase (l:List Qy) (w:Qy→Nat×Nat) (g:Nat) (cp:List C) (h:l.length≤4611686018427387903∧(bl w l).1≤4611686018427387903∧FnS (fun x=>.agg (qyC x)) g cp w l):G1 102 [.of (slC qyC l),.of (.fn g cp)] (.of (.agg (szC (szP (bl w l))))):=by
 obtain⟨hl,hs,ho,hc,hg⟩:=h
 refine ah rfl aP0 aAE rfl ?_
 simp -implicitDefEqProofs(maxSteps:=9^9)only[Tryz.f102,↓zA,sevalprocAttr,ata,ho]
 refine bW l.length (fun k s=>∃ a,s.fr 1=.of (.fn g cp)∧s.fr 4=.ptr 0 0∧s.fr 5=.ptr 1 0∧s.fr 8=.of (slC qyC l)∧s.fr 9=aU l.length∧s.fr 10=aU k∧s.objs=[.var 80 [aU 0,aU 0],.var 80 [.of (ci ((a:Nat×Nat).1:Int)),.of (ci (a.2:Int))]]∧bx a (bl w (l.drop k))=bl w l) ?_ ?_
 .refine⟨(0,0),?_⟩
  simp -implicitDefEqProofs(maxSteps:=9^9)only[Tryz.f102,↓zA,sevalprocAttr,ata,ac4]
  try exact rfl
 .rintro k s hk ⟨a,f1,f4,f5,f8,f9,f10,hob,E⟩
  have ea:szC (szP a)=[ci (a.1:Int),ci (a.2:Int)]:=rfl
  rcases ap k l.length with c1|c1
  .have hw:=cE k (by omega)
   have hx:=fun K=>aN.k (hg l[k] (ay c1)) K
   rw[cM c1,ac0,← aaO] at E
   have hb:a.1+(w l[k]).1≤4611686018427387903:=by have:=congrArg Prod.fst E;simp only[akg] at this;omega
   have eb:szC (szP (bx a (w l[k])))=[ci ((bx a (w l[k])).1:Int),ci ((bx a (w l[k])).2:Int)]:=rfl
   simp -implicitDefEqProofs(maxSteps:=9^9)only[Tryz.f102,↓zA,sevalprocAttr,ata,f1,f4,f5,f8,f9,f10,hob,ho,hc,aK,c1,bq c1,hw,hx,← ea,ahq,hb,eb]
   exact⟨_,rfl,E⟩
  .have e:k=l.length:=by omega
   subst e
   rw[aw,bl,iJ] at E
   subst E
   simp -implicitDefEqProofs(maxSteps:=9^9)only[Tryz.f102,↓zA,sevalprocAttr,ata,f1,f4,f5,f8,f9,f10,hob,aK,au,ea]
def aCo (l:List Qy) (w:Qy→Nat×Nat) (g:Nat) (cp:List C) (h:l.length≤4611686018427387903∧(bl w l).1≤4611686018427387903∧FnS (fun x=>.agg (qyC x)) g cp w l) (K:An→Prop):bp Tryz.prog pr 102 [.of (slC qyC l),.of (.fn g cp)] [] K↔K ⟨false,[.of (.agg (szC (szP (bl w l))))],[]⟩:=aN.k (ase l w g cp h) K
def as6:=ai (ai (ai @zq (ai @am9 @am8)) (ai @apu (ai @afy @aek))) (ai (ai @abc (ai @adw @ab9)) (ai @zT0 (ai @az5 (ba aPr))))
def atV (l:List Im) (w:Im→Nat×Nat) (g:Nat) (cp:List C) (h:l.length≤4611686018427387903∧(bl w l).1≤4611686018427387903∧FnS (fun x=>.agg (imC x)) g cp w l):G1 138 [.of (slC imC l),.of (.fn g cp)] (.of (.agg (szC (szP (bl w l))))):=by
 obtain⟨hl,hs,ho,hc,hg⟩:=h
 refine ah rfl aPr az5 rfl ?_
 simp -implicitDefEqProofs(maxSteps:=9^9)only[Tryz.f138,↓zA,sevalprocAttr,as6,ho]
 refine bW l.length (fun k s=>∃ a,s.fr 1=.of (.fn g cp)∧s.fr 4=.ptr 0 0∧s.fr 5=.ptr 1 0∧s.fr 8=.of (slC imC l)∧s.fr 9=aU l.length∧s.fr 10=aU k∧s.objs=[.var 80 [aU 0,aU 0],.var 80 [.of (ci ((a:Nat×Nat).1:Int)),.of (ci (a.2:Int))]]∧bx a (bl w (l.drop k))=bl w l) ?_ ?_
 .refine⟨(0,0),?_⟩
  simp -implicitDefEqProofs(maxSteps:=9^9)only[Tryz.f138,↓zA,sevalprocAttr,as6,ac4]
  try exact rfl
 .rintro k s hk ⟨a,f1,f4,f5,f8,f9,f10,hob,E⟩
  have ea:szC (szP a)=[ci (a.1:Int),ci (a.2:Int)]:=rfl
  rcases ap k l.length with c1|c1
  .have hw:=cE k (by omega)
   have hx:=fun K=>aN.k (hg l[k] (ay c1)) K
   rw[cM c1,ac0,← aaO] at E
   have hb:a.1+(w l[k]).1≤4611686018427387903:=by have:=congrArg Prod.fst E;simp only[akg] at this;omega
   have eb:szC (szP (bx a (w l[k])))=[ci ((bx a (w l[k])).1:Int),ci ((bx a (w l[k])).2:Int)]:=rfl
   simp -implicitDefEqProofs(maxSteps:=9^9)only[Tryz.f138,↓zA,sevalprocAttr,as6,f1,f4,f5,f8,f9,f10,hob,ho,hc,aK,c1,bq c1,hw,hx,← ea,ahq,hb,eb]
   exact⟨_,rfl,E⟩
  .have e:k=l.length:=by omega
   subst e
   rw[aw,bl,iJ] at E
   subst E
   simp -implicitDefEqProofs(maxSteps:=9^9)only[Tryz.f138,↓zA,sevalprocAttr,as6,f1,f4,f5,f8,f9,f10,hob,aK,au,ea]
def aFu (l:List Im) (w:Im→Nat×Nat) (g:Nat) (cp:List C) (h:l.length≤4611686018427387903∧(bl w l).1≤4611686018427387903∧FnS (fun x=>.agg (imC x)) g cp w l) (K:An→Prop):bp Tryz.prog pr 138 [.of (slC imC l),.of (.fn g cp)] [] K↔K ⟨false,[.of (.agg (szC (szP (bl w l))))],[]⟩:=aN.k (atV l w g cp h) K
def as5:=ai (ai (ai @zq (ai @am9 @am8)) (ai @apu (ai @afy @aek))) (ai (ai @jl (ai @adw @iM)) (ai @zT0 (ai @az3 (ba aPp))))
def atW (l:List Fm) (w:Fm→Nat×Nat) (g:Nat) (cp:List C) (h:l.length≤4611686018427387903∧(bl w l).1≤4611686018427387903∧FnS (fun x=>.agg (fmC x)) g cp w l):G1 140 [.of (slC fmC l),.of (.fn g cp)] (.of (.agg (szC (szP (bl w l))))):=by
 obtain⟨hl,hs,ho,hc,hg⟩:=h
 refine ah rfl aPp az3 rfl ?_
 simp -implicitDefEqProofs(maxSteps:=9^9)only[Tryz.f140,↓zA,sevalprocAttr,as5,ho]
 refine bW l.length (fun k s=>∃ a,s.fr 1=.of (.fn g cp)∧s.fr 4=.ptr 0 0∧s.fr 5=.ptr 1 0∧s.fr 8=.of (slC fmC l)∧s.fr 9=aU l.length∧s.fr 10=aU k∧s.objs=[.var 80 [aU 0,aU 0],.var 80 [.of (ci ((a:Nat×Nat).1:Int)),.of (ci (a.2:Int))]]∧bx a (bl w (l.drop k))=bl w l) ?_ ?_
 .refine⟨(0,0),?_⟩
  simp -implicitDefEqProofs(maxSteps:=9^9)only[Tryz.f140,↓zA,sevalprocAttr,as5,ac4]
  try exact rfl
 .rintro k s hk ⟨a,f1,f4,f5,f8,f9,f10,hob,E⟩
  have ea:szC (szP a)=[ci (a.1:Int),ci (a.2:Int)]:=rfl
  rcases ap k l.length with c1|c1
  .have hw:=cE k (by omega)
   have hx:=fun K=>aN.k (hg l[k] (ay c1)) K
   rw[cM c1,ac0,← aaO] at E
   have hb:a.1+(w l[k]).1≤4611686018427387903:=by have:=congrArg Prod.fst E;simp only[akg] at this;omega
   have eb:szC (szP (bx a (w l[k])))=[ci ((bx a (w l[k])).1:Int),ci ((bx a (w l[k])).2:Int)]:=rfl
   simp -implicitDefEqProofs(maxSteps:=9^9)only[Tryz.f140,↓zA,sevalprocAttr,as5,f1,f4,f5,f8,f9,f10,hob,ho,hc,aK,c1,bq c1,hw,hx,← ea,ahq,hb,eb]
   exact⟨_,rfl,E⟩
  .have e:k=l.length:=by omega
   subst e
   rw[aw,bl,iJ] at E
   subst E
   simp -implicitDefEqProofs(maxSteps:=9^9)only[Tryz.f140,↓zA,sevalprocAttr,as5,f1,f4,f5,f8,f9,f10,hob,aK,au,ea]
def aFv (l:List Fm) (w:Fm→Nat×Nat) (g:Nat) (cp:List C) (h:l.length≤4611686018427387903∧(bl w l).1≤4611686018427387903∧FnS (fun x=>.agg (fmC x)) g cp w l) (K:An→Prop):bp Tryz.prog pr 140 [.of (slC fmC l),.of (.fn g cp)] [] K↔K ⟨false,[.of (.agg (szC (szP (bl w l))))],[]⟩:=aN.k (atW l w g cp h) K
def a03:=ai (ai @zq (ai @ah8 @aes)) (ai (ai @a0y @zT0) (ai @azt (ba aOP)))
def aoR (x:Cd) (b:Bool) (g:Nat) (cp:List C) (ho:bh g=false) (hc:ak Tryz.prog g=true) (hg:G1 g (.of (.agg (cdC x))::cp.map .of) (aG b)):G1 180 [.of (.agg (cdC x)),.of (.ref [.fn g cp])] (aG (!b)):=by
 refine ah rfl aOP azt rfl ?_
 have hx:=fun K=>aN.k hg K
 simp -implicitDefEqProofs(maxSteps:=9^9)only[Tryz.f180,↓zA,sevalprocAttr,a03,ho,hc,hx]
def aCd:=ai (ai (ai @zq (ai @agE @a0m)) (ai @aVP (ai @aSR @aes))) (ai (ai @acn (ai @aGv @aBf)) (ai (ai @a0y @zT0) (ai @aAC (ba aPY))))
def aqn (l:List Cd) (a b:Int) (p:Cd→Bool) (g:Nat) (cp:List C) (h:l.length≤4611686018427387903∧FnB (fun x=>.agg (cdC x)) g cp p l):G1 104 [.of (slC cdC l),.of (ci a),.of (ci b),.of (.fn g cp)] (aG (bu l a b p)):=by
 have hF:l.length≤4611686018427387903∧FnB (fun x=>.agg (cdC x)) 180 [.ref [.fn g cp]] (fun x=>!p x) l:=⟨h.1,aGv,aBf,fun x hx=>aoR x (p x) g cp h.2.1 h.2.2.1 (h.2.2.2 x hx)⟩
 have hk:=fun K=>aFd l (fun x=>!p x) 180 [.ref [.fn g cp]] hF K
 refine ah rfl aPY aAC rfl ?_
 by_cases c1:a≤(l.length:Int)
 .by_cases c2:(l.length:Int)≤b
  .simp -implicitDefEqProofs(maxSteps:=9^9)only[Tryz.f104,↓zA,sevalprocAttr,aCd,c1,c2,hk,h.2.1,bu,adN,dP,bG,aX]
  .simp -implicitDefEqProofs(maxSteps:=9^9)only[Tryz.f104,↓zA,sevalprocAttr,aCd,c1,c2,bu,bG,bE,aX,aZ]
 .simp -implicitDefEqProofs(maxSteps:=9^9)only[Tryz.f104,↓zA,sevalprocAttr,aCd,c1,bu,bE,aZ]
def awI (l:List Cd) (a b:Int) (p:Cd→Bool) (g:Nat) (cp:List C) (h:l.length≤4611686018427387903∧FnB (fun x=>.agg (cdC x)) g cp p l) (K:An→Prop):bp Tryz.prog pr 104 [.of (slC cdC l),.of (ci a),.of (ci b),.of (.fn g cp)] [] K↔K ⟨false,[aG (bu l a b p)],[]⟩:=aN.k (aqn l a b p g cp h) K
def a01:=ai (ai @zq (ai @ah8 @adQ)) (ai (ai @a0x @zT0) (ai @azr (ba aON)))
def aoP (x:Kd) (b:Bool) (g:Nat) (cp:List C) (ho:bh g=false) (hc:ak Tryz.prog g=true) (hg:G1 g (.of (.agg (kdC x))::cp.map .of) (aG b)):G1 182 [.of (.agg (kdC x)),.of (.ref [.fn g cp])] (aG (!b)):=by
 refine ah rfl aON azr rfl ?_
 have hx:=fun K=>aN.k hg K
 simp -implicitDefEqProofs(maxSteps:=9^9)only[Tryz.f182,↓zA,sevalprocAttr,a01,ho,hc,hx]
def aCc:=ai (ai (ai @zq (ai @agE @a0l)) (ai @aVO (ai @aSQ @adQ))) (ai (ai @acm (ai @aGu @aBe)) (ai (ai @a0x @zT0) (ai @aAA (ba aPW))))
def aqm (l:List Kd) (a b:Int) (p:Kd→Bool) (g:Nat) (cp:List C) (h:l.length≤4611686018427387903∧FnB (fun x=>.agg (kdC x)) g cp p l):G1 106 [.of (slC kdC l),.of (ci a),.of (ci b),.of (.fn g cp)] (aG (bu l a b p)):=by
 have hF:l.length≤4611686018427387903∧FnB (fun x=>.agg (kdC x)) 182 [.ref [.fn g cp]] (fun x=>!p x) l:=⟨h.1,aGu,aBe,fun x hx=>aoP x (p x) g cp h.2.1 h.2.2.1 (h.2.2.2 x hx)⟩
 have hk:=fun K=>aFc l (fun x=>!p x) 182 [.ref [.fn g cp]] hF K
 refine ah rfl aPW aAA rfl ?_
 by_cases c1:a≤(l.length:Int)
 .by_cases c2:(l.length:Int)≤b
  .simp -implicitDefEqProofs(maxSteps:=9^9)only[Tryz.f106,↓zA,sevalprocAttr,aCc,c1,c2,hk,h.2.1,bu,adN,dP,bG,aX]
  .simp -implicitDefEqProofs(maxSteps:=9^9)only[Tryz.f106,↓zA,sevalprocAttr,aCc,c1,c2,bu,bG,bE,aX,aZ]
 .simp -implicitDefEqProofs(maxSteps:=9^9)only[Tryz.f106,↓zA,sevalprocAttr,aCc,c1,bu,bE,aZ]
def awH (l:List Kd) (a b:Int) (p:Kd→Bool) (g:Nat) (cp:List C) (h:l.length≤4611686018427387903∧FnB (fun x=>.agg (kdC x)) g cp p l) (K:An→Prop):bp Tryz.prog pr 106 [.of (slC kdC l),.of (ci a),.of (ci b),.of (.fn g cp)] [] K↔K ⟨false,[aG (bu l a b p)],[]⟩:=aN.k (aqm l a b p g cp h) K
def a0Z:=ai (ai @zq (ai @ah8 @aer)) (ai (ai @a0w @zT0) (ai @azp (ba aOL)))
def aoO (x:Rd) (b:Bool) (g:Nat) (cp:List C) (ho:bh g=false) (hc:ak Tryz.prog g=true) (hg:G1 g (.of (.agg (rdC x))::cp.map .of) (aG b)):G1 184 [.of (.agg (rdC x)),.of (.ref [.fn g cp])] (aG (!b)):=by
 refine ah rfl aOL azp rfl ?_
 have hx:=fun K=>aN.k hg K
 simp -implicitDefEqProofs(maxSteps:=9^9)only[Tryz.f184,↓zA,sevalprocAttr,a0Z,ho,hc,hx]
def aCb:=ai (ai (ai @zq (ai @agE @a0k)) (ai @aVN (ai @aSP @aer))) (ai (ai @ac5 (ai @aGt @aBd)) (ai (ai @a0w @zT0) (ai @aAy (ba aPU))))
def aqj (l:List Rd) (a b:Int) (p:Rd→Bool) (g:Nat) (cp:List C) (h:l.length≤4611686018427387903∧FnB (fun x=>.agg (rdC x)) g cp p l):G1 108 [.of (slC rdC l),.of (ci a),.of (ci b),.of (.fn g cp)] (aG (bu l a b p)):=by
 have hF:l.length≤4611686018427387903∧FnB (fun x=>.agg (rdC x)) 184 [.ref [.fn g cp]] (fun x=>!p x) l:=⟨h.1,aGt,aBd,fun x hx=>aoO x (p x) g cp h.2.1 h.2.2.1 (h.2.2.2 x hx)⟩
 have hk:=fun K=>aFb l (fun x=>!p x) 184 [.ref [.fn g cp]] hF K
 refine ah rfl aPU aAy rfl ?_
 by_cases c1:a≤(l.length:Int)
 .by_cases c2:(l.length:Int)≤b
  .simp -implicitDefEqProofs(maxSteps:=9^9)only[Tryz.f108,↓zA,sevalprocAttr,aCb,c1,c2,hk,h.2.1,bu,adN,dP,bG,aX]
  .simp -implicitDefEqProofs(maxSteps:=9^9)only[Tryz.f108,↓zA,sevalprocAttr,aCb,c1,c2,bu,bG,bE,aX,aZ]
 .simp -implicitDefEqProofs(maxSteps:=9^9)only[Tryz.f108,↓zA,sevalprocAttr,aCb,c1,bu,bE,aZ]
def awG (l:List Rd) (a b:Int) (p:Rd→Bool) (g:Nat) (cp:List C) (h:l.length≤4611686018427387903∧FnB (fun x=>.agg (rdC x)) g cp p l) (K:An→Prop):bp Tryz.prog pr 108 [.of (slC rdC l),.of (ci a),.of (ci b),.of (.fn g cp)] [] K↔K ⟨false,[aG (bu l a b p)],[]⟩:=aN.k (aqj l a b p g cp h) K
def a0X:=ai (ai @zq (ai @ah8 @cQ)) (ai (ai @Q75 @zT0) (ai @azn (ba aOJ)))
def asd (x:Xp) (b:Bool) (g:Nat) (cp:List C) (ho:bh g=false) (hc:ak Tryz.prog g=true) (hg:G1 g (.of (.agg (xpC x))::cp.map .of) (aG b)):G1 186 [.of (.agg (xpC x)),.of (.ref [.fn g cp])] (aG (!b)):=by
 refine ah rfl aOJ azn rfl ?_
 have hx:=fun K=>aN.k hg K
 simp -implicitDefEqProofs(maxSteps:=9^9)only[Tryz.f186,↓zA,sevalprocAttr,a0X,ho,hc,hx]
def aB9:=ai (ai (ai @zq (ai @agE @T75)) (ai @aVM (ai @aSO @cQ))) (ai (ai @d6 (ai @aGs @aBc)) (ai (ai @Q75 @zT0) (ai @aAw (ba aPS))))
def atR (l:List Xp) (a b:Int) (p:Xp→Bool) (g:Nat) (cp:List C) (h:l.length≤4611686018427387903∧FnB (fun x=>.agg (xpC x)) g cp p l):G1 110 [.of (slC xpC l),.of (ci a),.of (ci b),.of (.fn g cp)] (aG (bu l a b p)):=by
 have hF:l.length≤4611686018427387903∧FnB (fun x=>.agg (xpC x)) 186 [.ref [.fn g cp]] (fun x=>!p x) l:=⟨h.1,aGs,aBc,fun x hx=>asd x (p x) g cp h.2.1 h.2.2.1 (h.2.2.2 x hx)⟩
 have hk:=fun K=>aML l (fun x=>!p x) 186 [.ref [.fn g cp]] hF K
 refine ah rfl aPS aAw rfl ?_
 by_cases c1:a≤(l.length:Int)
 .by_cases c2:(l.length:Int)≤b
  .simp -implicitDefEqProofs(maxSteps:=9^9)only[Tryz.f110,↓zA,sevalprocAttr,aB9,c1,c2,hk,h.2.1,bu,adN,dP,bG,aX]
  .simp -implicitDefEqProofs(maxSteps:=9^9)only[Tryz.f110,↓zA,sevalprocAttr,aB9,c1,c2,bu,bG,bE,aX,aZ]
 .simp -implicitDefEqProofs(maxSteps:=9^9)only[Tryz.f110,↓zA,sevalprocAttr,aB9,c1,bu,bE,aZ]
def aFs (l:List Xp) (a b:Int) (p:Xp→Bool) (g:Nat) (cp:List C) (h:l.length≤4611686018427387903∧FnB (fun x=>.agg (xpC x)) g cp p l) (K:An→Prop):bp Tryz.prog pr 110 [.of (slC xpC l),.of (ci a),.of (ci b),.of (.fn g cp)] [] K↔K ⟨false,[aG (bu l a b p)],[]⟩:=aN.k (atR l a b p g cp h) K
def a0V:=ai (ai @zq (ai @ah8 @eu)) (ai (ai @Q72 @zT0) (ai @azk (ba aOG)))
def aqk (x:Qy) (b:Bool) (g:Nat) (cp:List C) (ho:bh g=false) (hc:ak Tryz.prog g=true) (hg:G1 g (.of (.agg (qyC x))::cp.map .of) (aG b)):G1 189 [.of (.agg (qyC x)),.of (.ref [.fn g cp])] (aG (!b)):=by
 refine ah rfl aOG azk rfl ?_
 have hx:=fun K=>aN.k hg K
 simp -implicitDefEqProofs(maxSteps:=9^9)only[Tryz.f189,↓zA,sevalprocAttr,a0V,ho,hc,hx]
def aB8:=ai (ai (ai @zq (ai @agE @T72)) (ai @aVK (ai @aSM @eu))) (ai (ai @d7 (ai @aGr @aBb)) (ai (ai @Q72 @zT0) (ai @aAu (ba aPQ))))
def ar8 (l:List Qy) (a b:Int) (p:Qy→Bool) (g:Nat) (cp:List C) (h:l.length≤4611686018427387903∧FnB (fun x=>.agg (qyC x)) g cp p l):G1 112 [.of (slC qyC l),.of (ci a),.of (ci b),.of (.fn g cp)] (aG (bu l a b p)):=by
 have hF:l.length≤4611686018427387903∧FnB (fun x=>.agg (qyC x)) 189 [.ref [.fn g cp]] (fun x=>!p x) l:=⟨h.1,aGr,aBb,fun x hx=>aqk x (p x) g cp h.2.1 h.2.2.1 (h.2.2.2 x hx)⟩
 have hk:=fun K=>aJK l (fun x=>!p x) 189 [.ref [.fn g cp]] hF K
 refine ah rfl aPQ aAu rfl ?_
 by_cases c1:a≤(l.length:Int)
 .by_cases c2:(l.length:Int)≤b
  .simp -implicitDefEqProofs(maxSteps:=9^9)only[Tryz.f112,↓zA,sevalprocAttr,aB8,c1,c2,hk,h.2.1,bu,adN,dP,bG,aX]
  .simp -implicitDefEqProofs(maxSteps:=9^9)only[Tryz.f112,↓zA,sevalprocAttr,aB8,c1,c2,bu,bG,bE,aX,aZ]
 .simp -implicitDefEqProofs(maxSteps:=9^9)only[Tryz.f112,↓zA,sevalprocAttr,aB8,c1,bu,bE,aZ]
def aCm (l:List Qy) (a b:Int) (p:Qy→Bool) (g:Nat) (cp:List C) (h:l.length≤4611686018427387903∧FnB (fun x=>.agg (qyC x)) g cp p l) (K:An→Prop):bp Tryz.prog pr 112 [.of (slC qyC l),.of (ci a),.of (ci b),.of (.fn g cp)] [] K↔K ⟨false,[aG (bu l a b p)],[]⟩:=aN.k (ar8 l a b p g cp h) K
def a0T:=ai (ai @zq (ai @cQ @a0v)) (ai @zT0 (ai @azi (ba aOE)))
def anX (x:(List Xp)) (b:Bool) (g:Nat) (cp:List C) (ho:bh g=false) (hc:ak Tryz.prog g=true) (hg:G1 g (.of (slC xpC x)::cp.map .of) (aG b)):G1 191 [.of (slC xpC x),.of (.ref [.fn g cp])] (aG (!b)):=by
 refine ah rfl aOE azi rfl ?_
 have hx:=fun K=>aN.k hg K
 simp -implicitDefEqProofs(maxSteps:=9^9)only[Tryz.f191,↓zA,sevalprocAttr,a0T,ho,hc,hx]
def aB7:=ai (ai (ai @zq (ai @agE @a0j)) (ai @aVJ (ai @aSL @hY))) (ai (ai @aGq (ai @aBa @a0v)) (ai @zT0 (ai @aAt (ba aPP))))
def aoQ (l:List (List Xp)) (a b:Int) (p:(List Xp)→Bool) (g:Nat) (cp:List C) (h:l.length≤4611686018427387903∧FnB (slC xpC) g cp p l):G1 113 [.of (slC (lsC xpC) l),.of (ci a),.of (ci b),.of (.fn g cp)] (aG (bu l a b p)):=by
 have hF:l.length≤4611686018427387903∧FnB (slC xpC) 191 [.ref [.fn g cp]] (fun x=>!p x) l:=⟨h.1,aGq,aBa,fun x hx=>anX x (p x) g cp h.2.1 h.2.2.1 (h.2.2.2 x hx)⟩
 have hk:=fun K=>ax5 l (fun x=>!p x) 191 [.ref [.fn g cp]] hF K
 refine ah rfl aPP aAt rfl ?_
 by_cases c1:a≤(l.length:Int)
 .by_cases c2:(l.length:Int)≤b
  .simp -implicitDefEqProofs(maxSteps:=9^9)only[Tryz.f113,↓zA,sevalprocAttr,aB7,c1,c2,hk,h.2.1,bu,adN,dP,bG,aX]
  .simp -implicitDefEqProofs(maxSteps:=9^9)only[Tryz.f113,↓zA,sevalprocAttr,aB7,c1,c2,bu,bG,bE,aX,aZ]
 .simp -implicitDefEqProofs(maxSteps:=9^9)only[Tryz.f113,↓zA,sevalprocAttr,aB7,c1,bu,bE,aZ]
def atS (l:List (List Xp)) (a b:Int) (p:(List Xp)→Bool) (g:Nat) (cp:List C) (h:l.length≤4611686018427387903∧FnB (slC xpC) g cp p l) (K:An→Prop):bp Tryz.prog pr 113 [.of (slC (lsC xpC) l),.of (ci a),.of (ci b),.of (.fn g cp)] [] K↔K ⟨false,[aG (bu l a b p)],[]⟩:=aN.k (aoQ l a b p g cp h) K
def a0R:=ai (ai @zq (ai @ah8 @abQ)) (ai (ai @a0u @zT0) (ai @azg (ba aOC)))
def aoS (x:As) (b:Bool) (g:Nat) (cp:List C) (ho:bh g=false) (hc:ak Tryz.prog g=true) (hg:G1 g (.of (.agg (asC x))::cp.map .of) (aG b)):G1 193 [.of (.agg (asC x)),.of (.ref [.fn g cp])] (aG (!b)):=by
 refine ah rfl aOC azg rfl ?_
 have hx:=fun K=>aN.k hg K
 simp -implicitDefEqProofs(maxSteps:=9^9)only[Tryz.f193,↓zA,sevalprocAttr,a0R,ho,hc,hx]
def aB6:=ai (ai (ai @zq (ai @agE @a0i)) (ai @aVI (ai @aSK @abQ))) (ai (ai @abR (ai @aGp @aA9)) (ai (ai @a0u @zT0) (ai @aAr (ba aPN))))
def aqo (l:List As) (a b:Int) (p:As→Bool) (g:Nat) (cp:List C) (h:l.length≤4611686018427387903∧FnB (fun x=>.agg (asC x)) g cp p l):G1 115 [.of (slC asC l),.of (ci a),.of (ci b),.of (.fn g cp)] (aG (bu l a b p)):=by
 have hF:l.length≤4611686018427387903∧FnB (fun x=>.agg (asC x)) 193 [.ref [.fn g cp]] (fun x=>!p x) l:=⟨h.1,aGp,aA9,fun x hx=>aoS x (p x) g cp h.2.1 h.2.2.1 (h.2.2.2 x hx)⟩
 have hk:=fun K=>aFe l (fun x=>!p x) 193 [.ref [.fn g cp]] hF K
 refine ah rfl aPN aAr rfl ?_
 by_cases c1:a≤(l.length:Int)
 .by_cases c2:(l.length:Int)≤b
  .simp -implicitDefEqProofs(maxSteps:=9^9)only[Tryz.f115,↓zA,sevalprocAttr,aB6,c1,c2,hk,h.2.1,bu,adN,dP,bG,aX]
  .simp -implicitDefEqProofs(maxSteps:=9^9)only[Tryz.f115,↓zA,sevalprocAttr,aB6,c1,c2,bu,bG,bE,aX,aZ]
 .simp -implicitDefEqProofs(maxSteps:=9^9)only[Tryz.f115,↓zA,sevalprocAttr,aB6,c1,bu,bE,aZ]
def awJ (l:List As) (a b:Int) (p:As→Bool) (g:Nat) (cp:List C) (h:l.length≤4611686018427387903∧FnB (fun x=>.agg (asC x)) g cp p l) (K:An→Prop):bp Tryz.prog pr 115 [.of (slC asC l),.of (ci a),.of (ci b),.of (.fn g cp)] [] K↔K ⟨false,[aG (bu l a b p)],[]⟩:=aN.k (aqo l a b p g cp h) K
def a0H:=ai (ai @zq @a0z) (ai @zT0 (ai @ayG (ba aN2)))
def aoM (x:(List UInt8)) (b:Bool) (g:Nat) (cp:List C) (ho:bh g=false) (hc:ak Tryz.prog g=true) (hg:G1 g (.of (aH (aD x))::cp.map .of) (aG b)):G1 237 [.of (aH (aD x)),.of (.ref [.fn g cp])] (aG (!b)):=by
 refine ah rfl aN2 ayG rfl ?_
 have hx:=fun K=>aN.k hg K
 simp -implicitDefEqProofs(maxSteps:=9^9)only[Tryz.f237,↓zA,sevalprocAttr,a0H,ho,hc,hx]
def aBZ:=ai (ai (ai @zq (ai @agE @a0n)) (ai @aVk (ai @aSm @bN))) (ai (ai @aGe (ai @aAY @a0z)) (ai @zT0 (ai @azm (ba aOI))))
def aqi (l:List (List UInt8)) (a b:Int) (p:(List UInt8)→Bool) (g:Nat) (cp:List C) (h:l.length≤4611686018427387903∧FnB (fun x=>aH (aD x)) g cp p l):G1 187 [.of (slC bA l),.of (ci a),.of (ci b),.of (.fn g cp)] (aG (bu l a b p)):=by
 have hF:l.length≤4611686018427387903∧FnB (fun x=>aH (aD x)) 237 [.ref [.fn g cp]] (fun x=>!p x) l:=⟨h.1,aGe,aAY,fun x hx=>aoM x (p x) g cp h.2.1 h.2.2.1 (h.2.2.2 x hx)⟩
 have hk:=fun K=>aFa l (fun x=>!p x) 237 [.ref [.fn g cp]] hF K
 refine ah rfl aOI azm rfl ?_
 by_cases c1:a≤(l.length:Int)
 .by_cases c2:(l.length:Int)≤b
  .simp -implicitDefEqProofs(maxSteps:=9^9)only[Tryz.f187,↓zA,sevalprocAttr,aBZ,c1,c2,hk,h.2.1,bu,adN,dP,bG,aX]
  .simp -implicitDefEqProofs(maxSteps:=9^9)only[Tryz.f187,↓zA,sevalprocAttr,aBZ,c1,c2,bu,bG,bE,aX,aZ]
 .simp -implicitDefEqProofs(maxSteps:=9^9)only[Tryz.f187,↓zA,sevalprocAttr,aBZ,c1,bu,bE,aZ]
def awF (l:List (List UInt8)) (a b:Int) (p:(List UInt8)→Bool) (g:Nat) (cp:List C) (h:l.length≤4611686018427387903∧FnB (fun x=>aH (aD x)) g cp p l) (K:An→Prop):bp Tryz.prog pr 187 [.of (slC bA l),.of (ci a),.of (ci b),.of (.fn g cp)] [] K↔K ⟨false,[aG (bu l a b p)],[]⟩:=aN.k (aqi l a b p g cp h) K
def a0N:=ai (ai @zq (ai @ah8 @acN)) (ai (ai @a0t @zT0) (ai @ayY (ba aOk)))
def aql (x:Od) (b:Bool) (g:Nat) (cp:List C) (ho:bh g=false) (hc:ak Tryz.prog g=true) (hg:G1 g (.of (.agg (odC x))::cp.map .of) (aG b)):G1 213 [.of (.agg (odC x)),.of (.ref [.fn g cp])] (aG (!b)):=by
 refine ah rfl aOk ayY rfl ?_
 have hx:=fun K=>aN.k hg K
 simp -implicitDefEqProofs(maxSteps:=9^9)only[Tryz.f213,↓zA,sevalprocAttr,a0N,ho,hc,hx]
def aB4:=ai (ai (ai @zq (ai @agE @a0h)) (ai @aVy (ai @aSA @acN))) (ai (ai @abX (ai @aGk @aA4)) (ai (ai @a0t @zT0) (ai @az0 (ba aPm))))
def ar9 (l:List Od) (a b:Int) (p:Od→Bool) (g:Nat) (cp:List C) (h:l.length≤4611686018427387903∧FnB (fun x=>.agg (odC x)) g cp p l):G1 143 [.of (slC odC l),.of (ci a),.of (ci b),.of (.fn g cp)] (aG (bu l a b p)):=by
 have hF:l.length≤4611686018427387903∧FnB (fun x=>.agg (odC x)) 213 [.ref [.fn g cp]] (fun x=>!p x) l:=⟨h.1,aGk,aA4,fun x hx=>aql x (p x) g cp h.2.1 h.2.2.1 (h.2.2.2 x hx)⟩
 have hk:=fun K=>aJL l (fun x=>!p x) 213 [.ref [.fn g cp]] hF K
 refine ah rfl aPm az0 rfl ?_
 by_cases c1:a≤(l.length:Int)
 .by_cases c2:(l.length:Int)≤b
  .simp -implicitDefEqProofs(maxSteps:=9^9)only[Tryz.f143,↓zA,sevalprocAttr,aB4,c1,c2,hk,h.2.1,bu,adN,dP,bG,aX]
  .simp -implicitDefEqProofs(maxSteps:=9^9)only[Tryz.f143,↓zA,sevalprocAttr,aB4,c1,c2,bu,bG,bE,aX,aZ]
 .simp -implicitDefEqProofs(maxSteps:=9^9)only[Tryz.f143,↓zA,sevalprocAttr,aB4,c1,bu,bE,aZ]
def aCn (l:List Od) (a b:Int) (p:Od→Bool) (g:Nat) (cp:List C) (h:l.length≤4611686018427387903∧FnB (fun x=>.agg (odC x)) g cp p l) (K:An→Prop):bp Tryz.prog pr 143 [.of (slC odC l),.of (ci a),.of (ci b),.of (.fn g cp)] [] K↔K ⟨false,[aG (bu l a b p)],[]⟩:=aN.k (ar9 l a b p g cp h) K
def a0L:=ai (ai @zq (ai @ah8 @abc)) (ai (ai @a0s @zT0) (ai @ayW (ba aOi)))
def asa (x:Im) (b:Bool) (g:Nat) (cp:List C) (ho:bh g=false) (hc:ak Tryz.prog g=true) (hg:G1 g (.of (.agg (imC x))::cp.map .of) (aG b)):G1 215 [.of (.agg (imC x)),.of (.ref [.fn g cp])] (aG (!b)):=by
 refine ah rfl aOi ayW rfl ?_
 have hx:=fun K=>aN.k hg K
 simp -implicitDefEqProofs(maxSteps:=9^9)only[Tryz.f215,↓zA,sevalprocAttr,a0L,ho,hc,hx]
def aB3:=ai (ai (ai @zq (ai @agE @a0g)) (ai @aVx (ai @aSz @abc))) (ai (ai @ab9 (ai @aGj @aA3)) (ai (ai @a0s @zT0) (ai @azY (ba aPk))))
def atP (l:List Im) (a b:Int) (p:Im→Bool) (g:Nat) (cp:List C) (h:l.length≤4611686018427387903∧FnB (fun x=>.agg (imC x)) g cp p l):G1 145 [.of (slC imC l),.of (ci a),.of (ci b),.of (.fn g cp)] (aG (bu l a b p)):=by
 have hF:l.length≤4611686018427387903∧FnB (fun x=>.agg (imC x)) 215 [.ref [.fn g cp]] (fun x=>!p x) l:=⟨h.1,aGj,aA3,fun x hx=>asa x (p x) g cp h.2.1 h.2.2.1 (h.2.2.2 x hx)⟩
 have hk:=fun K=>aMJ l (fun x=>!p x) 215 [.ref [.fn g cp]] hF K
 refine ah rfl aPk azY rfl ?_
 by_cases c1:a≤(l.length:Int)
 .by_cases c2:(l.length:Int)≤b
  .simp -implicitDefEqProofs(maxSteps:=9^9)only[Tryz.f145,↓zA,sevalprocAttr,aB3,c1,c2,hk,h.2.1,bu,adN,dP,bG,aX]
  .simp -implicitDefEqProofs(maxSteps:=9^9)only[Tryz.f145,↓zA,sevalprocAttr,aB3,c1,c2,bu,bG,bE,aX,aZ]
 .simp -implicitDefEqProofs(maxSteps:=9^9)only[Tryz.f145,↓zA,sevalprocAttr,aB3,c1,bu,bE,aZ]
def aFr (l:List Im) (a b:Int) (p:Im→Bool) (g:Nat) (cp:List C) (h:l.length≤4611686018427387903∧FnB (fun x=>.agg (imC x)) g cp p l) (K:An→Prop):bp Tryz.prog pr 145 [.of (slC imC l),.of (ci a),.of (ci b),.of (.fn g cp)] [] K↔K ⟨false,[aG (bu l a b p)],[]⟩:=aN.k (atP l a b p g cp h) K
def a0J:=ai (ai @zq (ai @ah8 @jl)) (ai (ai @a0r @zT0) (ai @ayU (ba aOg)))
def asc (x:Fm) (b:Bool) (g:Nat) (cp:List C) (ho:bh g=false) (hc:ak Tryz.prog g=true) (hg:G1 g (.of (.agg (fmC x))::cp.map .of) (aG b)):G1 217 [.of (.agg (fmC x)),.of (.ref [.fn g cp])] (aG (!b)):=by
 refine ah rfl aOg ayU rfl ?_
 have hx:=fun K=>aN.k hg K
 simp -implicitDefEqProofs(maxSteps:=9^9)only[Tryz.f217,↓zA,sevalprocAttr,a0J,ho,hc,hx]
def aB2:=ai (ai (ai @zq (ai @agE @a0f)) (ai @aVw (ai @aSy @jl))) (ai (ai @iM (ai @aGi @aA2)) (ai (ai @a0r @zT0) (ai @azW (ba aPi))))
def atQ (l:List Fm) (a b:Int) (p:Fm→Bool) (g:Nat) (cp:List C) (h:l.length≤4611686018427387903∧FnB (fun x=>.agg (fmC x)) g cp p l):G1 147 [.of (slC fmC l),.of (ci a),.of (ci b),.of (.fn g cp)] (aG (bu l a b p)):=by
 have hF:l.length≤4611686018427387903∧FnB (fun x=>.agg (fmC x)) 217 [.ref [.fn g cp]] (fun x=>!p x) l:=⟨h.1,aGi,aA2,fun x hx=>asc x (p x) g cp h.2.1 h.2.2.1 (h.2.2.2 x hx)⟩
 have hk:=fun K=>aMK l (fun x=>!p x) 217 [.ref [.fn g cp]] hF K
 refine ah rfl aPi azW rfl ?_
 by_cases c1:a≤(l.length:Int)
 .by_cases c2:(l.length:Int)≤b
  .simp -implicitDefEqProofs(maxSteps:=9^9)only[Tryz.f147,↓zA,sevalprocAttr,aB2,c1,c2,hk,h.2.1,bu,adN,dP,bG,aX]
  .simp -implicitDefEqProofs(maxSteps:=9^9)only[Tryz.f147,↓zA,sevalprocAttr,aB2,c1,c2,bu,bG,bE,aX,aZ]
 .simp -implicitDefEqProofs(maxSteps:=9^9)only[Tryz.f147,↓zA,sevalprocAttr,aB2,c1,bu,bE,aZ]
def arr (l:List Fm) (a b:Int) (p:Fm→Bool) (g:Nat) (cp:List C) (h:l.length≤4611686018427387903∧FnB (fun x=>.agg (fmC x)) g cp p l) (K:An→Prop):bp Tryz.prog pr 147 [.of (slC fmC l),.of (ci a),.of (ci b),.of (.fn g cp)] [] K↔K ⟨false,[aG (bu l a b p)],[]⟩:=aN.k (atQ l a b p g cp h) K
end Go.Proofs.YtemdljoideegeaaGreatDoor
namespace Go.Tab
open Go Go.Pe
def aqp (e:Xp):cF e=upN (bx (bl cF e.ks) (bl fI e.sb)):=by cases e;rw[cF,af6,ai0];rfl
def aqq (q:Qy):fI q=upN (bx (bx (bx (bx (bx (bl fI q.ks) (bl aaP q.its)) (bl i8 q.fr)) (bl cF q.wh)) (bl cF q.gr)) (bl cF q.hv)):=by
 cases q;rw[fI,ai0,ars,alO,af6,af6,af6];rfl
def aqr (i:Im):aaP i=if i.st then (0,0) else cF i.e:=by cases i;rw[aaP];rfl
def aqs (f:Fm):i8 f=upN (bx (bx (bl fI f.sb) (bl i8 f.ks)) (bl cF f.on)):=by cases f;rw[i8,ai0,alO,af6];rfl
def leW (a:Nat×Nat) (n:Nat):Prop:=a.1≤n∧a.2≤n
theorem aaD {α:Type} (f:α→Nat×Nat) (w:α→Nat):∀ l:List α,(∀ x∈l,leW (f x) (w x))→leW (bl f l) (lsW w l)∧(bl f l).1<lsW w l
 | [],_=>by simp[bl,lsW,leW]
 | x::r,h=>by
  have h1:=h x (by simp)
  have h2:=aaD f w r (fun y hy=>h y (by simp[hy]))
  simp only[leW,bl,bx,lsW,aV,bT] at h1 h2 ⊢
  omega
theorem cZ {α:Type} (w:α→Nat):∀ l:List α,(∀ x∈l,1≤w x)→l.length<lsW w l
 | [],_=>by simp[lsW]
 | x::r,h=>by
  have h1:=h x (by simp)
  have h2:=cZ w r (fun y hy=>h y (by simp[hy]))
  simp only[lsW,aV,bT,aB] at h2 ⊢
  omega
def aaw (x:Xp):1≤xpW x:=by rw[aaV];omega
def adx (x:Qy):1≤qyW x:=by rw[iC];omega
def adz (x:Im):1≤imW x:=by rw[ack];omega
def abl (x:Fm):1≤fmW x:=by rw[jb];omega
theorem agS:∀ n,(∀ e,xpW e≤n→leW (cF e) (xpW e))∧(∀ e,qyW e≤n→leW (fI e) (qyW e))∧(∀ e,imW e≤n→leW (aaP e) (imW e))∧(∀ e,fmW e≤n→leW (i8 e) (fmW e))
 | 0=>⟨fun e h=>by have:=aaw e;omega,fun e h=>by have:=adx e;omega,fun e h=>by have:=adz e;omega,fun e h=>by have:=abl e;omega⟩
 | n+1=>by
  obtain⟨i1,i2,i3,i4⟩:=agS n
  have sX:∀ l:List Xp,lsW xpW l≤n+1→leW (bl cF l) (lsW xpW l):=fun l h=>(aaD _ _ l fun x hx=>i1 x (by have:=bP (w:=xpW) hx;omega)).1
  have sQ:∀ l:List Qy,lsW qyW l≤n+1→leW (bl fI l) (lsW qyW l):=fun l h=>(aaD _ _ l fun x hx=>i2 x (by have:=bP (w:=qyW) hx;omega)).1
  have sI:∀ l:List Im,lsW imW l≤n+1→leW (bl aaP l) (lsW imW l):=fun l h=>(aaD _ _ l fun x hx=>i3 x (by have:=bP (w:=imW) hx;omega)).1
  have sF:∀ l:List Fm,lsW fmW l≤n+1→leW (bl i8 l) (lsW fmW l):=fun l h=>(aaD _ _ l fun x hx=>i4 x (by have:=bP (w:=fmW) hx;omega)).1
  refine⟨fun e h=>?_,fun e h=>?_,fun e h=>?_,fun e h=>?_⟩
  .rw[aaV] at h ⊢
   have h1:=sX e.ks (by omega)
   have h2:=sQ e.sb (by omega)
   rw[aqp]
   simp only[leW,upN,bx] at h1 h2 ⊢
   omega
  .rw[iC] at h ⊢
   have h1:=sQ e.ks (by omega)
   have h2:=sI e.its (by omega)
   have h3:=sF e.fr (by omega)
   have h4:=sX e.wh (by omega)
   have h5:=sX e.gr (by omega)
   have h6:=sX e.hv (by omega)
   rw[aqq]
   simp only[leW,upN,bx] at h1 h2 h3 h4 h5 h6 ⊢
   omega
  .rw[ack] at h ⊢
   have h1:=i1 e.e (by omega)
   rw[aqr]
   simp only[leW] at h1 ⊢
   split
   .simp
   .omega
  .rw[jb] at h ⊢
   have h1:=sQ e.sb (by omega)
   have h2:=sF e.ks (by omega)
   have h3:=sX e.on (by omega)
   rw[aqs]
   simp only[leW,upN,bx] at h1 h2 h3 ⊢
   omega
end Go.Tab
namespace Go.Proofs.YtemdljoideegeaaGreatDoor
open Go Go.Pe Go.Tab
abbrev sX (e:Xp):X:=.of (.agg (szC (szP (cF e))))
def amB (l:List Xp):Prop:=∀ x∈l,G1 77 [.of (.agg (xpC x))] (.of (.agg (szC (szP (cF x)))))
def ard (l:List Qy):Prop:=∀ x∈l,G1 61 [.of (.agg (qyC x))] (.of (.agg (szC (szP (fI x)))))
def aMp (l:List Im):Prop:=∀ x∈l,G1 139 [.of (.agg (imC x))] (.of (.agg (szC (szP (aaP x)))))
def aEO (l:List Fm):Prop:=∀ x∈l,G1 141 [.of (.agg (fmC x))] (.of (.agg (szC (szP (i8 x)))))
abbrev WL:Nat:=1152921504606846976
def alP {l:List Xp} (h:amB l) (hw:lsW xpW l≤WL) (K:An→Prop):bp Tryz.prog pr 98 [.of (slC xpC l),.of (.fn 77 [])] [] K↔K ⟨false,[.of (.agg (szC (szP (bl cF l))))],[]⟩:=by
 have h1:=cZ xpW l fun x _=>aaw x
 have h2:=aaD cF xpW l fun x _=>(agS _).1 x (aM _)
 simp only[leW,WL] at *
 exact aFw l cF _ [] ⟨by omega,by omega,ah6,agO,h⟩ K
def aCp {l:List Qy} (h:ard l) (hw:lsW qyW l≤WL) (K:An→Prop):bp Tryz.prog pr 102 [.of (slC qyC l),.of (.fn 61 [])] [] K↔K ⟨false,[.of (.agg (szC (szP (bl fI l))))],[]⟩:=by
 have h1:=cZ qyW l fun x _=>adx x
 have h2:=aaD fI qyW l fun x _=>(agS _).2.1 x (aM _)
 simp only[leW,WL] at *
 exact aCo l fI _ [] ⟨by omega,by omega,am5,aj9,h⟩ K
def a5B {l:List Im} (h:aMp l) (hw:lsW imW l≤WL) (K:An→Prop):bp Tryz.prog pr 138 [.of (slC imC l),.of (.fn 139 [])] [] K↔K ⟨false,[.of (.agg (szC (szP (bl aaP l))))],[]⟩:=by
 have h1:=cZ imW l fun x _=>adz x
 have h2:=aaD aaP imW l fun x _=>(agS _).2.2.1 x (aM _)
 simp only[leW,WL] at *
 exact aFu l aaP _ [] ⟨by omega,by omega,aGN,aBx,h⟩ K
def aUe {l:List Fm} (h:aEO l) (hw:lsW fmW l≤WL) (K:An→Prop):bp Tryz.prog pr 140 [.of (slC fmC l),.of (.fn 141 [])] [] K↔K ⟨false,[.of (.agg (szC (szP (bl i8 l))))],[]⟩:=by
 have h1:=cZ fmW l fun x _=>abl x
 have h2:=aaD i8 fmW l fun x _=>(agS _).2.2.2 x (aM _)
 simp only[leW,WL] at *
 exact aFv l i8 _ [] ⟨by omega,by omega,auQ,aq4,h⟩ K
def sbX (l:List Xp):leW (bl cF l) (lsW xpW l):=(aaD cF xpW l fun x _=>(agS _).1 x (aM _)).1
def sbQ (l:List Qy):leW (bl fI l) (lsW qyW l):=(aaD fI qyW l fun x _=>(agS _).2.1 x (aM _)).1
def sbI (l:List Im):leW (bl aaP l) (lsW imW l):=(aaD aaP imW l fun x _=>(agS _).2.2.1 x (aM _)).1
def sbF (l:List Fm):leW (bl i8 l) (lsW fmW l):=(aaD i8 fmW l fun x _=>(agS _).2.2.2 x (aM _)).1
def a5a:=ai (ai (ai (ai @zq @a3J) (ai @a3I (ai @apf @ams))) (ai (ai @app @ant) (ai @afy (ai @aek @auP)))) (ai (ai (ai @aq3 @cQ) (ai @adw (ai @eu @ah6))) (ai (ai @agO (ai @am5 @aj9)) (ai @zT0 (ai @aHI (ba aX4)))))
def asj (e:Xp) (hw:xpW e≤WL) (i1:amB e.ks) (i2:ard e.sb):G1 77 [.of (.agg (xpC e))] (.of (.agg (szC (szP (cF e))))):=by
 rw[aaV] at hw
 simp only[WL] at hw
 have k1:=alP i1 (by simp only[WL];omega)
 have k2:=aCp i2 (by simp only[WL];omega)
 have b1:=sbX e.ks
 have b2:=sbQ e.sb
 simp only[leW] at b1 b2
 have h1:(bl cF e.ks).1+(bl fI e.sb).1≤4611686018427387903:=by omega
 have h2:(bx (bl cF e.ks) (bl fI e.sb)).1≤4611686018427387903∧(bx (bl cF e.ks) (bl fI e.sb)).2≤4611686018427387903:=by simp only[bx];omega
 rw[aqp]
 refine ah rfl aX4 aHI rfl ?_
 simp -implicitDefEqProofs(maxSteps:=9^9)only[Tryz.f77,↓zA,sevalprocAttr,a5a,k1,k2,ahq,h1,aJ0,h2]
def aMU:=ai (ai (ai @zq (ai @a3H @a3G)) (ai @ah6 (ai @agO @cQ))) (ai (ai @abc (ai @adw @P4)) (ai (ai @Q4 @zT0) (ai @az4 (ba aPq))))
def ash (e:Im) (i1:G1 77 [.of (.agg (xpC e.e))] (.of (.agg (szC (szP (cF e.e)))))):G1 139 [.of (.agg (imC e))] (.of (.agg (szC (szP (aaP e))))):=by
 have k1:=fun K=>aN.k i1 K
 have ez:szC (szP (0,0))=[ci 0,ci 0]:=rfl
 rw[aqr]
 refine ah rfl aPq az4 rfl ?_
 cases c:e.st
 .simp -implicitDefEqProofs(maxSteps:=9^9)only[Tryz.f139,↓zA,sevalprocAttr,aMU,c,k1]
 .simp -implicitDefEqProofs(maxSteps:=9^9)only[Tryz.f139,↓zA,sevalprocAttr,aMU,c,ez]
def a1g:=ai (ai (ai (ai @zq (ai @a3F @a3E)) (ai @app (ai @ant @aGM))) (ai (ai @aBw (ai @afy @aek)) (ai (ai @apf @ams) (ai @auP @aq3)))) (ai (ai (ai @jl (ai @adw @eu)) (ai @cQ (ai @am5 @aj9))) (ai (ai @auQ (ai @aq4 @ah6)) (ai (ai @agO @zT0) (ai @az2 (ba aPo)))))
def asi (e:Fm) (hw:fmW e≤WL) (i1:ard e.sb) (i2:aEO e.ks) (i3:amB e.on):G1 141 [.of (.agg (fmC e))] (.of (.agg (szC (szP (i8 e))))):=by
 rw[jb] at hw
 simp only[WL] at hw
 have k1:=aCp i1 (by simp only[WL];omega)
 have k2:=aUe i2 (by simp only[WL];omega)
 have k3:=alP i3 (by simp only[WL];omega)
 have b1:=sbQ e.sb
 have b2:=sbF e.ks
 have b3:=sbX e.on
 simp only[leW] at b1 b2 b3
 have h1:(bl fI e.sb).1+(bl i8 e.ks).1≤4611686018427387903:=by omega
 have h2:(bx (bl fI e.sb) (bl i8 e.ks)).1+(bl cF e.on).1≤4611686018427387903:=by simp only[bx];omega
 have h3:(bx (bx (bl fI e.sb) (bl i8 e.ks)) (bl cF e.on)).1≤4611686018427387903∧(bx (bx (bl fI e.sb) (bl i8 e.ks)) (bl cF e.on)).2≤4611686018427387903:=by simp only[bx];omega
 rw[aqs]
 refine ah rfl aPo az2 rfl ?_
 simp -implicitDefEqProofs(maxSteps:=9^9)only[Tryz.f141,↓zA,sevalprocAttr,a1g,k1,k2,k3,ahq,h1,h2,aJ0,h3]
def a5d:=ai (ai (ai (ai (ai @zq @a3D) (ai @a3C @app)) (ai (ai @ant @aV5) (ai @aS7 @afy))) (ai (ai (ai @aek @aGM) (ai @aBw @a3B)) (ai (ai @apf @ams) (ai @auP @aq3)))) (ai (ai (ai (ai @eu @adw) (ai @abc @jl)) (ai (ai @cQ @am5) (ai @aj9 @aGN))) (ai (ai (ai @aBx @auQ) (ai @aq4 @ah6)) (ai (ai @agO @zT0) (ai @aHV (ba aYh)))))
def aqw (e:Qy) (hw:qyW e≤WL) (i1:ard e.ks) (i2:aMp e.its) (i3:aEO e.fr) (i4:amB e.wh) (i5:amB e.gr) (i6:amB e.hv):G1 61 [.of (.agg (qyC e))] (.of (.agg (szC (szP (fI e))))):=by
 rw[iC] at hw
 simp only[WL] at hw
 have k1:=aCp i1 (by simp only[WL];omega)
 have k2:=a5B i2 (by simp only[WL];omega)
 have k3:=aUe i3 (by simp only[WL];omega)
 have k4:=alP i4 (by simp only[WL];omega)
 have k5:=alP i5 (by simp only[WL];omega)
 have k6:=alP i6 (by simp only[WL];omega)
 have b1:=sbQ e.ks
 have b2:=sbI e.its
 have b3:=sbF e.fr
 have b4:=sbX e.wh
 have b5:=sbX e.gr
 have b6:=sbX e.hv
 simp only[leW] at b1 b2 b3 b4 b5 b6
 rw[aqq]
 generalize bl fI e.ks=a1 at *
 generalize bl aaP e.its=a2 at *
 generalize bl i8 e.fr=a3 at *
 generalize bl cF e.wh=a4 at *
 generalize bl cF e.gr=a5 at *
 generalize bl cF e.hv=a6 at *
 have h1:a1.1+a2.1≤4611686018427387903:=by omega
 have h2:(bx a1 a2).1+a3.1≤4611686018427387903:=by simp only[bx];omega
 have h3:(bx (bx a1 a2) a3).1+a4.1≤4611686018427387903:=by simp only[bx];omega
 have h4:(bx (bx (bx a1 a2) a3) a4).1+a5.1≤4611686018427387903:=by simp only[bx];omega
 have h5:(bx (bx (bx (bx a1 a2) a3) a4) a5).1+a6.1≤4611686018427387903:=by simp only[bx];omega
 have h6:(bx (bx (bx (bx (bx a1 a2) a3) a4) a5) a6).1≤4611686018427387903∧(bx (bx (bx (bx (bx a1 a2) a3) a4) a5) a6).2≤4611686018427387903:=by simp only[bx];omega
 refine ah rfl aYh aHV rfl ?_
 simp -implicitDefEqProofs(maxSteps:=9^9)only[Tryz.f61,↓zA,sevalprocAttr,a5d,k1,k2,k3,k4,k5,k6,ahq,h1,h2,h3,h4,h5,aJ0,h6]
theorem agU:∀ n,n≤WL→(∀ e,xpW e≤n→G1 77 [.of (.agg (xpC e))] (.of (.agg (szC (szP (cF e))))))∧(∀ e,qyW e≤n→G1 61 [.of (.agg (qyC e))] (.of (.agg (szC (szP (fI e))))))
  ∧ (∀ e,imW e≤n→G1 139 [.of (.agg (imC e))] (.of (.agg (szC (szP (aaP e))))))∧(∀ e,fmW e≤n→G1 141 [.of (.agg (fmC e))] (.of (.agg (szC (szP (i8 e))))))
 | 0,_=>⟨fun e h=>by have:=aaw e;omega,fun e h=>by have:=adx e;omega,fun e h=>by have:=adz e;omega,fun e h=>by have:=abl e;omega⟩
 | n+1,hn=>by
  obtain⟨i1,i2,i3,i4⟩:=agU n (by omega)
  have sX:∀ l:List Xp,lsW xpW l≤n+1→amB l:=fun l h x hx=>i1 x (by have:=bP (w:=xpW) hx;omega)
  have sQ:∀ l:List Qy,lsW qyW l≤n+1→ard l:=fun l h x hx=>i2 x (by have:=bP (w:=qyW) hx;omega)
  have sI:∀ l:List Im,lsW imW l≤n+1→aMp l:=fun l h x hx=>i3 x (by have:=bP (w:=imW) hx;omega)
  have sF:∀ l:List Fm,lsW fmW l≤n+1→aEO l:=fun l h x hx=>i4 x (by have:=bP (w:=fmW) hx;omega)
  refine⟨fun e h=>?_,fun e h=>?_,fun e h=>?_,fun e h=>?_⟩
  .have h':=aaV e
   exact asj e (by omega) (sX _ (by omega)) (sQ _ (by omega))
  .have h':=iC e
   exact aqw e (by omega) (sQ _ (by omega)) (sI _ (by omega)) (sF _ (by omega)) (sX _ (by omega)) (sX _ (by omega)) (sX _ (by omega))
  .have h':=ack e
   exact ash e (i1 _ (by omega))
  .have h':=jb e
   exact asi e (by omega) (sQ _ (by omega)) (sF _ (by omega)) (sX _ (by omega))
def awo (l:List Xp) (h:lsW xpW l≤WL):amB l:=fun x hx=>(agU WL (aM _)).1 x (by have:=bP (w:=xpW) hx;omega)
def a0o (l:List Qy) (h:lsW qyW l≤WL):ard l:=fun x hx=>(agU WL (aM _)).2.1 x (by have:=bP (w:=qyW) hx;omega)
def aFt (s:Sm):leW (ahS s) (smW s):=by
 have b1:=sbX s.chs
 have b2:=(aaD (fun l=>bl cF l) (lsW xpW) s.rws fun x _=>sbX x).1
 have b3:=(aaD (fun a:As=>cF a.e) asW s.sts fun x _=>by have:=(agS _).1 x.e (aM _);simp only[leW,asW] at this ⊢;omega).1
 have b4:=sbX s.wh
 have b5:=sbQ s.q
 simp only[leW,ahS,bx,smW] at *
 omega
def a41:=ai (ai (ai @zq @a3y) (ai @apf (ai @ams @adw))) (ai (ai @cQ (ai @ah6 @agO)) (ai @zT0 (ai @aHp (ba aXL))))
def at7 (l:List Xp) (h:lsW xpW l≤WL):G1 97 [.of (slC xpC l)] (.of (.agg (szC (szP (bl cF l))))):=by
 refine ah rfl aXL aHp rfl ?_
 simp -implicitDefEqProofs(maxSteps:=9^9)only[Tryz.f97,↓zA,sevalprocAttr,a41,alP (awo l h) h]
def a1q:=ai (ai (ai @zq @a3w) (ai @a3v (ai @ah6 @agO))) (ai (ai @cQ (ai @abQ @adw)) (ai @zT0 (ai @aAG (ba aP2))))
def awR (a:As) (h:asW a≤WL):G1 100 [.of (.agg (asC a))] (.of (.agg (szC (szP (cF a.e))))):=by
 have k1:=fun K=>aN.k ((agU WL (aM _)).1 a.e (by simp only[asW] at h;omega)) K
 refine ah rfl aP2 aAG rfl ?_
 simp -implicitDefEqProofs(maxSteps:=9^9)only[Tryz.f100,↓zA,sevalprocAttr,a1q,k1]
def a5A {l:List (List Xp)} (hw:lsW (lsW xpW) l≤WL) (K:An→Prop):bp Tryz.prog pr 96 [.of (slC (lsC xpC) l),.of (.fn 97 [])] [] K↔K ⟨false,[.of (.agg (szC (szP (bl (fun l=>bl cF l) l))))],[]⟩:=by
 have h1:=cZ (lsW xpW) l fun x _=>by simp[lsW]
 have h2:=aaD (fun l=>bl cF l) (lsW xpW) l fun x _=>sbX x
 simp only[leW,WL] at *
 exact atY l (fun l=>bl cF l) _ [] ⟨by omega,by omega,aNg,aI6,fun x hx=>at7 x (by have:=bP (w:=lsW xpW) hx;simp only[WL];omega)⟩ K
def a5C {l:List As} (hw:lsW asW l≤WL) (K:An→Prop):bp Tryz.prog pr 99 [.of (slC asC l),.of (.fn 100 [])] [] K↔K ⟨false,[.of (.agg (szC (szP (bl (fun a:As=>cF a.e) l))))],[]⟩:=by
 have h1:=cZ asW l fun x _=>by simp[asW]
 have h2:=(aaD (fun a:As=>cF a.e) asW l fun x _=>by have:=(agS _).1 x.e (aM _);simp only[leW,asW] at this ⊢;omega)
 simp only[leW,WL] at *
 exact awK l (fun a:As=>cF a.e) _ [] ⟨by omega,by omega,aGV,aBF,fun x hx=>awR x (by have:=bP (w:=asW) hx;simp only[WL];omega)⟩ K
def a5j:=ai (ai (ai (ai (ai @zq @a3A) (ai @a3z @a2l)) (ai (ai @aZo @a3x) (ai @a2k @aZn))) (ai (ai (ai @a3u @apf) (ai @ams @afy)) (ai (ai @aek @app) (ai @ant @abb)))) (ai (ai (ai (ai @adw @abQ) (ai @cQ @eu)) (ai (ai @hY @aNg) (ai @aI6 @aGV))) (ai (ai (ai @aBF @ah6) (ai @agO @am5)) (ai (ai @aj9 @zT0) (ai @aIf (ba aYB)))))
def asg (e:Sm) (hw:smW e≤WL):G1 32 [.of (.agg (smC e))] (.of (.agg (szC (szP (ahS e))))):=by
 have b0:=aFt e
 simp only[WL,smW] at hw
 have k1:=alP (l:=e.chs) (awo _ (by simp only[WL];omega)) (by simp only[WL];omega)
 have k2:=a5A (l:=e.rws) (by simp only[WL];omega)
 have k3:=a5C (l:=e.sts) (by simp only[WL];omega)
 have k4:=alP (l:=e.wh) (awo _ (by simp only[WL];omega)) (by simp only[WL];omega)
 have k5:=aCp (l:=e.q) (a0o _ (by simp only[WL];omega)) (by simp only[WL];omega)
 have b1:=sbX e.chs
 have b2:=(aaD (fun l=>bl cF l) (lsW xpW) e.rws fun x _=>sbX x).1
 have b3:=(aaD (fun a:As=>cF a.e) asW e.sts fun x _=>by have:=(agS _).1 x.e (aM _);simp only[leW,asW] at this ⊢;omega).1
 have b4:=sbX e.wh
 have b5:=sbQ e.q
 simp only[leW] at b1 b2 b3 b4 b5
 rw[ahS]
 generalize bl cF e.chs=a1 at *
 generalize bl (fun l=>bl cF l) e.rws=a2 at *
 generalize bl (fun a:As=>cF a.e) e.sts=a3 at *
 generalize bl cF e.wh=a4 at *
 generalize bl fI e.q=a5 at *
 have h1:a1.1+a2.1≤4611686018427387903:=by omega
 have h2:(bx a1 a2).1+a3.1≤4611686018427387903:=by simp only[bx];omega
 have h3:(bx (bx a1 a2) a3).1+a4.1≤4611686018427387903:=by simp only[bx];omega
 have h4:(bx (bx (bx a1 a2) a3) a4).1+a5.1≤4611686018427387903:=by simp only[bx];omega
 refine ah rfl aYB aIf rfl ?_
 simp -implicitDefEqProofs(maxSteps:=9^9)only[Tryz.f32,↓zA,sevalprocAttr,a5j,k1,k2,k3,k4,k5,ahq,h1,h2,h3,h4]
end Go.Proofs.YtemdljoideegeaaGreatDoor
